/- the program's code, spelled out by a program of ours (lift2.lean) -/
import Derived.Test.YtmdocnigniefnaaGreatProg
import Derived.Test.YtmdocnigniefnaaGreatGhKO
import Derived.KernelRfl
namespace Go.Proofs.YtmdocnigniefnaaGreat.Lift
open Go Go.Proofs.YtmdocnigniefnaaGreat.Gh Go.Proofs
set_option linter.unusedVariables false
set_option maxRecDepth 100000
@[reducible] noncomputable def Q : Program := Tryz.prog
@[reducible] noncomputable def E (orc : FuncId → Bool) : Ev := evL Tryz.prog orc
instance ilp3_0 : LpIs Q 3 0 (subAt [1, 1, 1, 1, 1, 0, 1, 0, 0] (bodyOf Tryz.f3)) 156 := ⟨by kernel_rfl, by kernel_rfl⟩
instance ilp51_0 : LpIs Q 51 0 (subAt [1, 1, 0, 1, 0, 0] (bodyOf Tryz.f51)) 29 := ⟨by kernel_rfl, by kernel_rfl⟩
instance ilp53_0 : LpIs Q 53 0 (subAt [1, 1, 1, 1, 0, 0] (bodyOf Tryz.f53)) 24 := ⟨by kernel_rfl, by kernel_rfl⟩
instance ilp80_0 : LpIs Q 80 0 (subAt [1, 1, 0, 1, 0, 0] (bodyOf Tryz.f80)) 30 := ⟨by kernel_rfl, by kernel_rfl⟩
instance ilp94_0 : LpIs Q 94 0 (subAt [1, 0, 1, 1, 1, 1, 1, 0, 0] (bodyOf Tryz.f94)) 91 := ⟨by kernel_rfl, by kernel_rfl⟩
instance ilp96_0 : LpIs Q 96 0 (subAt [1, 1, 1, 0, 0, 0] (bodyOf Tryz.f96)) 35 := ⟨by kernel_rfl, by kernel_rfl⟩
instance ilp97_0 : LpIs Q 97 0 (subAt [1, 1, 0, 1, 0, 0] (bodyOf Tryz.f97)) 29 := ⟨by kernel_rfl, by kernel_rfl⟩
instance ilp99_0 : LpIs Q 99 0 (subAt [1, 1, 1, 1, 0, 0] (bodyOf Tryz.f99)) 23 := ⟨by kernel_rfl, by kernel_rfl⟩
instance ilp147_0 : LpIs Q 147 0 (subAt [1, 1, 1, 1, 1, 0, 0] (bodyOf Tryz.f147)) 29 := ⟨by kernel_rfl, by kernel_rfl⟩
instance ilp188_0 : LpIs Q 188 0 (subAt [1, 1, 1, 1, 0, 0] (bodyOf Tryz.f188)) 34 := ⟨by kernel_rfl, by kernel_rfl⟩
instance ilp199_0 : LpIs Q 199 0 (subAt [1, 0, 0] (bodyOf Tryz.f199)) 18 := ⟨by kernel_rfl, by kernel_rfl⟩
instance ilp222_0 : LpIs Q 222 0 (subAt [1, 0, 1, 0, 0] (bodyOf Tryz.f222)) 24 := ⟨by kernel_rfl, by kernel_rfl⟩
instance ilp224_0 : LpIs Q 224 0 (subAt [1, 1, 0, 1, 0, 0] (bodyOf Tryz.f224)) 24 := ⟨by kernel_rfl, by kernel_rfl⟩
instance ilp256_0 : LpIs Q 256 0 (subAt [1, 1, 0, 0] (bodyOf Tryz.f256)) 25 := ⟨by kernel_rfl, by kernel_rfl⟩
instance ilp284_0 : LpIs Q 284 0 (subAt [1, 0, 1, 1, 0, 0, 0] (bodyOf Tryz.f284)) 162 := ⟨by kernel_rfl, by kernel_rfl⟩
instance ilp294_0 : LpIs Q 294 0 (subAt [1, 0, 1, 1, 1, 1, 1, 0, 0, 0] (bodyOf Tryz.f294)) 195 := ⟨by kernel_rfl, by kernel_rfl⟩
instance ilp321_0 : LpIs Q 321 0 (subAt [1, 1, 0, 1, 0, 0] (bodyOf Tryz.f321)) 36 := ⟨by kernel_rfl, by kernel_rfl⟩
instance ilp327_0 : LpIs Q 327 0 (subAt [1, 0, 1, 1, 0, 1, 0, 0] (bodyOf Tryz.f327)) 66 := ⟨by kernel_rfl, by kernel_rfl⟩
instance ilp339_0 : LpIs Q 339 0 (subAt [1, 1, 0, 1, 0, 0] (bodyOf Tryz.f339)) 20 := ⟨by kernel_rfl, by kernel_rfl⟩
instance ilp345_0 : LpIs Q 345 0 (subAt [1, 1, 0, 1, 0, 0] (bodyOf Tryz.f345)) 20 := ⟨by kernel_rfl, by kernel_rfl⟩
instance ilp346_0 : LpIs Q 346 0 (subAt [1, 1, 0, 1, 0, 0] (bodyOf Tryz.f346)) 20 := ⟨by kernel_rfl, by kernel_rfl⟩
instance iep22 : EpOk Q 22 := ⟨fun neg x y => by cases neg <;> kernel_rfl, fun neg x y a => by cases neg <;> kernel_rfl, fun neg x y a => by cases neg <;> kernel_rfl⟩
noncomputable abbrev z42 : List Value := [(.int .i64 0), (.int .i64 0), (.int .i64 0), (.int .i64 0), (.int .i64 0), (.int .i64 0), (.int .i64 0), (.int .i64 0), (.int .i64 0), (.int .i64 0), (.int .i64 0), (.int .i64 0), (.int .i64 0), (.int .i64 0), (.bool false), (.int .i64 0), (.slice none 0 0), (.int .u64 0), (.int .i64 0), (.int .u64 0), (.int .i64 0), (.int .i64 0), (.int .i64 0), (.int .u64 0)]
instance ibd42_ : BdOk Q 42 z42 [] := bd_ok Q (by kernel_rfl) (by kernel_rfl) (by kernel_rfl)
noncomputable abbrev z26 : List Value := [(.pointer none)]
instance ibs43_2_0_1 : BsOk Q 43 2 (rep z26 2) 1 [(0, 0, 1), (1, 1, 1)] := bs_ok Q (z0 := z26) (by kernel_rfl) rfl (by decide) (by kernel_rfl)
noncomputable abbrev z50 : List Value := [(.int .i64 0), (.int .i64 0), (.int .i64 0), (.int .i64 0), (.int .i64 0), (.int .i64 0), (.int .i64 0), (.int .i64 0), (.int .i64 0), (.int .i64 0), (.int .i64 0), (.int .i64 0), (.int .i64 0), (.int .i64 0), (.bool false), (.int .i64 0), (.slice none 0 0), (.int .u64 0), (.int .i64 0), (.int .u64 0), (.int .i64 0), (.int .i64 0)]
instance ibd50_ : BdOk Q 50 z50 [] := bd_ok Q (by kernel_rfl) (by kernel_rfl) (by kernel_rfl)
noncomputable abbrev z44 : List Value := [(.pointer none)]
instance ibs51_2_0_1 : BsOk Q 51 2 (rep z44 2) 1 [(0, 0, 1), (1, 1, 1)] := bs_ok Q (z0 := z44) (by kernel_rfl) rfl (by decide) (by kernel_rfl)
noncomputable abbrev z53 : List Value := [(.int .i64 0), (.int .i64 0), (.int .i64 0), (.int .i64 0), (.int .i64 0), (.int .i64 0), (.int .i64 0), (.int .i64 0), (.int .i64 0), (.int .i64 0), (.int .i64 0), (.int .i64 0), (.int .i64 0), (.int .i64 0), (.bool false), (.int .i64 0), (.slice none 0 0), (.int .u64 0), (.int .i64 0), (.int .u64 0), (.int .i64 0), (.int .i64 0)]
instance ibd53_ : BdOk Q 53 z53 [] := bd_ok Q (by kernel_rfl) (by kernel_rfl) (by kernel_rfl)
noncomputable abbrev z52 : List Value := [(.pointer none)]
instance ibs54_2_0_1 : BsOk Q 54 2 (rep z52 2) 1 [(0, 0, 1), (1, 1, 1)] := bs_ok Q (z0 := z52) (by kernel_rfl) rfl (by decide) (by kernel_rfl)
noncomputable abbrev z57 : List Value := [(.int .i64 0), (.int .i64 0), (.int .i64 0), (.int .i64 0), (.int .i64 0), (.int .i64 0), (.int .i64 0), (.int .i64 0), (.int .i64 0), (.int .i64 0), (.int .i64 0), (.int .i64 0), (.int .i64 0), (.int .i64 0), (.bool false), (.int .i64 0), (.slice none 0 0), (.int .u64 0), (.int .i64 0), (.int .i64 0), (.int .i64 0)]
instance ibd57_ : BdOk Q 57 z57 [] := bd_ok Q (by kernel_rfl) (by kernel_rfl) (by kernel_rfl)
noncomputable abbrev z55 : List Value := [(.pointer none)]
instance ibs58_2_0_1 : BsOk Q 58 2 (rep z55 2) 1 [(0, 0, 1), (1, 1, 1)] := bs_ok Q (z0 := z55) (by kernel_rfl) rfl (by decide) (by kernel_rfl)
instance iias51 : IasOk Q 51 1 := ⟨fun b o s n c k j => by kernel_rfl⟩
instance ild44 : LdOk Q 44 := ⟨fun b o s G => (show _ = loadOne b o G by kernel_rfl).trans (loadOne_eq b o G)⟩
noncomputable abbrev z46 : List Value := [(.int .u64 0), (.int .i64 0)]
instance ial46 : AlOk Q 46 z46 := ⟨fun G => by kernel_rfl⟩
instance ist46 : StOk Q 46 2 := ⟨fun b o s v G => by kernel_rfl⟩
instance iias54 : IasOk Q 54 1 := ⟨fun b o s n c k j => by kernel_rfl⟩
instance ild52 : LdOk Q 52 := ⟨fun b o s G => (show _ = loadOne b o G by kernel_rfl).trans (loadOne_eq b o G)⟩
instance iias58 : IasOk Q 58 1 := ⟨fun b o s n c k j => by kernel_rfl⟩
instance ild55 : LdOk Q 55 := ⟨fun b o s G => (show _ = loadOne b o G by kernel_rfl).trans (loadOne_eq b o G)⟩
instance iias43 : IasOk Q 43 1 := ⟨fun b o s n c k j => by kernel_rfl⟩
instance ild26 : LdOk Q 26 := ⟨fun b o s G => (show _ = loadOne b o G by kernel_rfl).trans (loadOne_eq b o G)⟩
instance ilda46 : LdAOk Q 46 2 := ⟨fun b o s G => by kernel_rfl⟩
instance ibd46_ : BdOk Q 46 z46 [] := bd_ok Q (by kernel_rfl) (by kernel_rfl) (by kernel_rfl)
noncomputable abbrev z99 : List Value := (zs 4096 (.int .u64 0))
instance ial99 : AlOk Q 99 z99 := ⟨fun G => by kernel_rfl⟩
noncomputable abbrev z103 : List Value := [(.pointer none), (.int .i64 0), (.int .i64 0), (.int .i64 0), (.int .u64 0), (.int .u64 0), (.bool false), (.int .i64 0)]
instance ibd103_0_1 : BdOk Q 103 z103 [(0, 0, 1), (1, 1, 1)] := bd_ok Q (by kernel_rfl) (by kernel_rfl) (by kernel_rfl)
instance iep44 : EpOk Q 44 := ⟨fun neg x y => by cases neg <;> kernel_rfl, fun neg x y a => by cases neg <;> kernel_rfl, fun neg x y a => by cases neg <;> kernel_rfl⟩
instance ifa50_1 : FaOk Q 50 1 19 := ⟨fun b o s => by kernel_rfl⟩
instance ilda48 : LdAOk Q 48 3 := ⟨fun b o s G => by kernel_rfl⟩
instance ifa50_0 : FaOk Q 50 0 0 := ⟨fun b o s => by kernel_rfl⟩
instance iep52 : EpOk Q 52 := ⟨fun neg x y => by cases neg <;> kernel_rfl, fun neg x y a => by cases neg <;> kernel_rfl, fun neg x y a => by cases neg <;> kernel_rfl⟩
instance ifa53_1 : FaOk Q 53 1 19 := ⟨fun b o s => by kernel_rfl⟩
instance ifa53_0 : FaOk Q 53 0 0 := ⟨fun b o s => by kernel_rfl⟩
instance iep55 : EpOk Q 55 := ⟨fun neg x y => by cases neg <;> kernel_rfl, fun neg x y a => by cases neg <;> kernel_rfl, fun neg x y a => by cases neg <;> kernel_rfl⟩
instance ifa57_0 : FaOk Q 57 0 0 := ⟨fun b o s => by kernel_rfl⟩
instance ifa57_1 : FaOk Q 57 1 19 := ⟨fun b o s => by kernel_rfl⟩
instance ild3 : LdOk Q 3 := ⟨fun b o s G => (show _ = loadOne b o G by kernel_rfl).trans (loadOne_eq b o G)⟩
instance ifa57_2 : FaOk Q 57 2 20 := ⟨fun b o s => by kernel_rfl⟩
instance ild23 : LdOk Q 23 := ⟨fun b o s G => (show _ = loadOne b o G by kernel_rfl).trans (loadOne_eq b o G)⟩
instance iep26 : EpOk Q 26 := ⟨fun neg x y => by cases neg <;> kernel_rfl, fun neg x y a => by cases neg <;> kernel_rfl, fun neg x y a => by cases neg <;> kernel_rfl⟩
instance ifa42_0 : FaOk Q 42 0 0 := ⟨fun b o s => by kernel_rfl⟩
instance ilda36 : LdAOk Q 36 13 := ⟨fun b o s G => by kernel_rfl⟩
instance ibd42_0_1_2_3 : BdOk Q 42 z42 [(0, 0, 19), (1, 19, 1), (2, 20, 1), (3, 21, 1)] := bd_ok Q (by kernel_rfl) (by kernel_rfl) (by kernel_rfl)
instance ifa40_6 : FaOk Q 40 6 18 := ⟨fun b o s => by kernel_rfl⟩
instance ifa36_2 : FaOk Q 36 2 2 := ⟨fun b o s => by kernel_rfl⟩
instance ist23 : StOk Q 23 1 := ⟨fun b o s v G => by kernel_rfl⟩
noncomputable abbrev z108 : List Value := [.nilIface]
instance ibs37_2_0_1 : BsOk Q 37 2 (rep z108 2) 1 [(0, 0, 1), (1, 1, 1)] := bs_ok Q (z0 := z108) (by kernel_rfl) rfl (by decide) (by kernel_rfl)
instance ifa40_4 : FaOk Q 40 4 16 := ⟨fun b o s => by kernel_rfl⟩
instance ist37 : StOk Q 37 1 := ⟨fun b o s v G => by kernel_rfl⟩
noncomputable abbrev z36 : List Value := [(.int .i64 0), (.int .i64 0), (.int .i64 0), (.int .i64 0), (.int .i64 0), (.int .i64 0), (.int .i64 0), (.int .i64 0), (.int .i64 0), (.int .i64 0), (.int .i64 0), (.int .i64 0), (.int .i64 0)]
instance ial36 : AlOk Q 36 z36 := ⟨fun G => by kernel_rfl⟩
noncomputable abbrev z28 : List Value := [(.int .i64 0), (.int .i64 0), (.int .i64 0)]
instance ibd28_0_1_2 : BdOk Q 28 z28 [(0, 0, 1), (1, 1, 1), (2, 2, 1)] := bd_ok Q (by kernel_rfl) (by kernel_rfl) (by kernel_rfl)
noncomputable abbrev z30 : List Value := [(.int .i64 0), (.int .i64 0), (.int .i64 0), (.int .i64 0), (.int .i64 0), (.int .i64 0)]
instance ibd30_0_1_2_3 : BdOk Q 30 z30 [(0, 0, 3), (1, 3, 1), (2, 4, 1), (3, 5, 1)] := bd_ok Q (by kernel_rfl) (by kernel_rfl) (by kernel_rfl)
instance ial30 : AlOk Q 30 z30 := ⟨fun G => by kernel_rfl⟩
instance ist30 : StOk Q 30 6 := ⟨fun b o s v G => by kernel_rfl⟩
instance ilda30 : LdAOk Q 30 6 := ⟨fun b o s G => by kernel_rfl⟩
noncomputable abbrev z32 : List Value := [(.int .i64 0), (.int .i64 0), (.int .i64 0)]
instance ibd32_0_1_2 : BdOk Q 32 z32 [(0, 0, 1), (1, 1, 1), (2, 2, 1)] := bd_ok Q (by kernel_rfl) (by kernel_rfl) (by kernel_rfl)
noncomputable abbrev z34 : List Value := [(.int .i64 0), (.int .i64 0), (.int .i64 0), (.int .i64 0), (.int .i64 0), (.int .i64 0), (.int .i64 0), (.int .i64 0), (.int .i64 0), (.int .i64 0)]
instance ibd34_0_1_2 : BdOk Q 34 z34 [(0, 0, 6), (1, 6, 3), (2, 9, 1)] := bd_ok Q (by kernel_rfl) (by kernel_rfl) (by kernel_rfl)
instance ial34 : AlOk Q 34 z34 := ⟨fun G => by kernel_rfl⟩
instance ist34 : StOk Q 34 10 := ⟨fun b o s v G => by kernel_rfl⟩
instance ilda34 : LdAOk Q 34 10 := ⟨fun b o s G => by kernel_rfl⟩
instance ibd36_0_1_2_3 : BdOk Q 36 z36 [(0, 0, 1), (1, 1, 1), (2, 2, 1), (3, 3, 10)] := bd_ok Q (by kernel_rfl) (by kernel_rfl) (by kernel_rfl)
instance ist36 : StOk Q 36 13 := ⟨fun b o s v G => by kernel_rfl⟩
instance ifa103_3 : FaOk Q 103 3 7 := ⟨fun b o s => by kernel_rfl⟩
instance ifa46_0 : FaOk Q 46 0 0 := ⟨fun b o s => by kernel_rfl⟩
instance ild38 : LdOk Q 38 := ⟨fun b o s G => (show _ = loadOne b o G by kernel_rfl).trans (loadOne_eq b o G)⟩
instance ifa46_1 : FaOk Q 46 1 1 := ⟨fun b o s => by kernel_rfl⟩
instance ibd50_0 : BdOk Q 50 z50 [(0, 0, 19)] := bd_ok Q (by kernel_rfl) (by kernel_rfl) (by kernel_rfl)
instance ial44 : AlOk Q 44 z44 := ⟨fun G => by kernel_rfl⟩
instance ist44 : StOk Q 44 1 := ⟨fun b o s v G => by kernel_rfl⟩
noncomputable abbrev z129 : List Value := [.nilFunc, .nilFunc, .nilFunc, (.pointer none), (.bool false)]
instance ibd129_0_1_2 : BdOk Q 129 z129 [(0, 0, 1), (1, 1, 1), (2, 2, 1)] := bd_ok Q (by kernel_rfl) (by kernel_rfl) (by kernel_rfl)
instance iifc122 : IfcOk Q 122 := ⟨fun v => by kernel_rfl⟩
instance ibs37_3_0_1_2 : BsOk Q 37 3 (rep z108 3) 1 [(0, 0, 1), (1, 1, 1), (2, 2, 1)] := bs_ok Q (z0 := z108) (by kernel_rfl) rfl (by decide) (by kernel_rfl)
noncomputable abbrev z135 : List Value := [(.pointer none), (.int .u64 0), (.int .u64 0)]
instance ibd135_0_1 : BdOk Q 135 z135 [(0, 0, 1), (1, 1, 1)] := bd_ok Q (by kernel_rfl) (by kernel_rfl) (by kernel_rfl)
instance ial135 : AlOk Q 135 z135 := ⟨fun G => by kernel_rfl⟩
instance ist135 : StOk Q 135 3 := ⟨fun b o s v G => by kernel_rfl⟩
instance ifa135_0 : FaOk Q 135 0 0 := ⟨fun b o s => by kernel_rfl⟩
instance ild132 : LdOk Q 132 := ⟨fun b o s G => (show _ = loadOne b o G by kernel_rfl).trans (loadOne_eq b o G)⟩
instance ilda135 : LdAOk Q 135 3 := ⟨fun b o s G => by kernel_rfl⟩
instance iias90 : IasOk Q 90 1 := ⟨fun b o s n c k j => by kernel_rfl⟩
instance ifa48_0 : FaOk Q 48 0 0 := ⟨fun b o s => by kernel_rfl⟩
instance ifa48_1 : FaOk Q 48 1 2 := ⟨fun b o s => by kernel_rfl⟩
instance ifa40_2 : FaOk Q 40 2 14 := ⟨fun b o s => by kernel_rfl⟩
instance ild4 : LdOk Q 4 := ⟨fun b o s G => (show _ = loadOne b o G by kernel_rfl).trans (loadOne_eq b o G)⟩
instance ild37 : LdOk Q 37 := ⟨fun b o s G => (show _ = loadOne b o G by kernel_rfl).trans (loadOne_eq b o G)⟩
instance iln37 : LnOk Q 37 := ⟨fun a n c => by kernel_rfl⟩
instance iias37 : IasOk Q 37 1 := ⟨fun b o s n c k j => by kernel_rfl⟩
instance ild108 : LdOk Q 108 := ⟨fun b o s G => (show _ = loadOne b o G by kernel_rfl).trans (loadOne_eq b o G)⟩
instance isl37 : SlOk Q 37 1 := ⟨fun a n c lo hi mx G => sl_eq Q (e := 108) (by kernel_rfl) (by kernel_rfl) a n c lo hi mx G⟩
instance ifa40_5 : FaOk Q 40 5 17 := ⟨fun b o s => by kernel_rfl⟩
instance ist38 : StOk Q 38 1 := ⟨fun b o s v G => by kernel_rfl⟩
instance ibs37_1_0 : BsOk Q 37 1 (rep z108 1) 1 [(0, 0, 1)] := bs_ok Q (z0 := z108) (by kernel_rfl) rfl (by decide) (by kernel_rfl)
instance iap37_37 : ApOk Q 37 37 1 16 := ⟨fun s x G => by kernel_rfl⟩
noncomputable abbrev z40 : List Value := [(.int .i64 0), (.int .i64 0), (.int .i64 0), (.int .i64 0), (.int .i64 0), (.int .i64 0), (.int .i64 0), (.int .i64 0), (.int .i64 0), (.int .i64 0), (.int .i64 0), (.int .i64 0), (.int .i64 0), (.int .i64 0), (.bool false), (.int .i64 0), (.slice none 0 0), (.int .u64 0), (.int .i64 0)]
instance ial40 : AlOk Q 40 z40 := ⟨fun G => by kernel_rfl⟩
instance ibd40_0_1_2 : BdOk Q 40 z40 [(0, 0, 13), (1, 13, 1), (2, 14, 1)] := bd_ok Q (by kernel_rfl) (by kernel_rfl) (by kernel_rfl)
instance ist40 : StOk Q 40 19 := ⟨fun b o s v G => by kernel_rfl⟩
instance ifa36_3 : FaOk Q 36 3 3 := ⟨fun b o s => by kernel_rfl⟩
instance ifa34_1 : FaOk Q 34 1 6 := ⟨fun b o s => by kernel_rfl⟩
instance ifa32_2 : FaOk Q 32 2 2 := ⟨fun b o s => by kernel_rfl⟩
instance ilda40 : LdAOk Q 40 19 := ⟨fun b o s G => by kernel_rfl⟩
noncomputable abbrev z164 : List Value := [.nilFunc, .nilFunc, .nilFunc, (.pointer none), (.bool false)]
instance ibd164_0_2 : BdOk Q 164 z164 [(0, 0, 1), (2, 2, 1)] := bd_ok Q (by kernel_rfl) (by kernel_rfl) (by kernel_rfl)
instance iifc157 : IfcOk Q 157 := ⟨fun v => by kernel_rfl⟩
noncomputable abbrev z172 : List Value := [.nilFunc, .nilFunc, .nilFunc, (.pointer none), (.bool false)]
instance ibd172_0_2 : BdOk Q 172 z172 [(0, 0, 1), (2, 2, 1)] := bd_ok Q (by kernel_rfl) (by kernel_rfl) (by kernel_rfl)
instance iifc165 : IfcOk Q 165 := ⟨fun v => by kernel_rfl⟩
instance ifa36_1 : FaOk Q 36 1 1 := ⟨fun b o s => by kernel_rfl⟩
noncomputable abbrev z193 : List Value := [(.int .i64 0), (.int .i64 0), (.int .i64 0), (.int .i64 0), (.int .i64 0), (.int .i64 0), (.int .i64 0), (.int .i64 0), (.int .i64 0), (.int .i64 0), (.int .i64 0), (.int .i64 0), (.int .i64 0), (.int .i64 0), (.bool false), (.pointer none), (.pointer none), (.int .i64 0), (.int .u64 0), (.int .i64 0), (.int .u64 0), (.int .u64 0), (.int .i64 0), (.int .u64 0), (.bool false), (.int .i64 0)]
instance ibd193_0 : BdOk Q 193 z193 [(0, 0, 26)] := bd_ok Q (by kernel_rfl) (by kernel_rfl) (by kernel_rfl)
instance iep123 : EpOk Q 123 := ⟨fun neg x y => by cases neg <;> kernel_rfl, fun neg x y a => by cases neg <;> kernel_rfl, fun neg x y a => by cases neg <;> kernel_rfl⟩
instance ifa193_0 : FaOk Q 193 0 0 := ⟨fun b o s => by kernel_rfl⟩
instance ifa190_7 : FaOk Q 190 7 23 := ⟨fun b o s => by kernel_rfl⟩
noncomputable abbrev z201 : List Value := [.nilFunc, .nilFunc, .nilFunc, (.pointer none), (.bool false)]
instance ibd201_0 : BdOk Q 201 z201 [(0, 0, 1)] := bd_ok Q (by kernel_rfl) (by kernel_rfl) (by kernel_rfl)
instance iifc194 : IfcOk Q 194 := ⟨fun v => by kernel_rfl⟩
instance ifa103_0 : FaOk Q 103 0 0 := ⟨fun b o s => by kernel_rfl⟩
instance ild96 : LdOk Q 96 := ⟨fun b o s G => (show _ = loadOne b o G by kernel_rfl).trans (loadOne_eq b o G)⟩
instance iep96 : EpOk Q 96 := ⟨fun neg x y => by cases neg <;> kernel_rfl, fun neg x y a => by cases neg <;> kernel_rfl, fun neg x y a => by cases neg <;> kernel_rfl⟩
instance ifa103_1 : FaOk Q 103 1 1 := ⟨fun b o s => by kernel_rfl⟩
instance iiaa99 : IaaOk Q 99 4096 1 := ⟨fun b o s k j => by kernel_rfl⟩
noncomputable abbrev z101 : List Value := [(.int .i64 0), (.int .i64 0), (.int .u64 0), (.int .u64 0), (.bool false)]
instance ial101 : AlOk Q 101 z101 := ⟨fun G => by kernel_rfl⟩
instance ibd101_ : BdOk Q 101 z101 [] := bd_ok Q (by kernel_rfl) (by kernel_rfl) (by kernel_rfl)
instance ist101 : StOk Q 101 5 := ⟨fun b o s v G => by kernel_rfl⟩
instance ist3 : StOk Q 3 1 := ⟨fun b o s v G => by kernel_rfl⟩
instance ibd101_0_1 : BdOk Q 101 z101 [(0, 0, 1), (1, 1, 1)] := bd_ok Q (by kernel_rfl) (by kernel_rfl) (by kernel_rfl)
instance ifa103_2 : FaOk Q 103 2 2 := ⟨fun b o s => by kernel_rfl⟩
instance ild97 : LdOk Q 97 := ⟨fun b o s G => (show _ = loadOne b o G by kernel_rfl).trans (loadOne_eq b o G)⟩
instance ifa101_2 : FaOk Q 101 2 2 := ⟨fun b o s => by kernel_rfl⟩
instance ifa101_3 : FaOk Q 101 3 3 := ⟨fun b o s => by kernel_rfl⟩
instance ifa101_4 : FaOk Q 101 4 4 := ⟨fun b o s => by kernel_rfl⟩
instance ist4 : StOk Q 4 1 := ⟨fun b o s v G => by kernel_rfl⟩
instance ist97 : StOk Q 97 1 := ⟨fun b o s v G => by kernel_rfl⟩
instance ilda101 : LdAOk Q 101 5 := ⟨fun b o s G => by kernel_rfl⟩
instance ifa135_1 : FaOk Q 135 1 1 := ⟨fun b o s => by kernel_rfl⟩
instance iep93 : EpOk Q 93 := ⟨fun neg x y => by cases neg <;> kernel_rfl, fun neg x y a => by cases neg <;> kernel_rfl, fun neg x y a => by cases neg <;> kernel_rfl⟩
instance ifa150_8 : FaOk Q 150 8 11 := ⟨fun b o s => by kernel_rfl⟩
instance ifa150_9 : FaOk Q 150 9 12 := ⟨fun b o s => by kernel_rfl⟩
instance ifa150_7 : FaOk Q 150 7 10 := ⟨fun b o s => by kernel_rfl⟩
instance ifa150_2 : FaOk Q 150 2 5 := ⟨fun b o s => by kernel_rfl⟩
instance ifa150_0 : FaOk Q 150 0 0 := ⟨fun b o s => by kernel_rfl⟩
instance ifa150_4 : FaOk Q 150 4 7 := ⟨fun b o s => by kernel_rfl⟩
instance ild90 : LdOk Q 90 := ⟨fun b o s G => (show _ = loadOne b o G by kernel_rfl).trans (loadOne_eq b o G)⟩
noncomputable abbrev z38 : List Value := [(.int .u64 0)]
instance ibs90_1_0 : BsOk Q 90 1 (rep z38 1) 1 [(0, 0, 1)] := bs_ok Q (z0 := z38) (by kernel_rfl) rfl (by decide) (by kernel_rfl)
instance iap90_90 : ApOk Q 90 90 1 8 := ⟨fun s x G => by kernel_rfl⟩
instance ist90 : StOk Q 90 1 := ⟨fun b o s v G => by kernel_rfl⟩
instance ifa147_1 : FaOk Q 147 1 1 := ⟨fun b o s => by kernel_rfl⟩
instance ifa150_3 : FaOk Q 150 3 6 := ⟨fun b o s => by kernel_rfl⟩
instance ifa150_5 : FaOk Q 150 5 8 := ⟨fun b o s => by kernel_rfl⟩
instance ifa150_1 : FaOk Q 150 1 2 := ⟨fun b o s => by kernel_rfl⟩
instance ifa86_1 : FaOk Q 86 1 1 := ⟨fun b o s => by kernel_rfl⟩
instance ifa150_6 : FaOk Q 150 6 9 := ⟨fun b o s => by kernel_rfl⟩
instance iln90 : LnOk Q 90 := ⟨fun a n c => by kernel_rfl⟩
instance ibd53_0 : BdOk Q 53 z53 [(0, 0, 19)] := bd_ok Q (by kernel_rfl) (by kernel_rfl) (by kernel_rfl)
instance ial52 : AlOk Q 52 z52 := ⟨fun G => by kernel_rfl⟩
instance ist52 : StOk Q 52 1 := ⟨fun b o s v G => by kernel_rfl⟩
noncomputable abbrev z220 : List Value := [.nilFunc, .nilFunc, .nilFunc, (.pointer none), (.bool false)]
instance ibd220_0_1_2 : BdOk Q 220 z220 [(0, 0, 1), (1, 1, 1), (2, 2, 1)] := bd_ok Q (by kernel_rfl) (by kernel_rfl) (by kernel_rfl)
instance iifc213 : IfcOk Q 213 := ⟨fun v => by kernel_rfl⟩
instance ifa150_10 : FaOk Q 150 10 13 := ⟨fun b o s => by kernel_rfl⟩
instance ild105 : LdOk Q 105 := ⟨fun b o s G => (show _ = loadOne b o G by kernel_rfl).trans (loadOne_eq b o G)⟩
instance ifa40_0 : FaOk Q 40 0 0 := ⟨fun b o s => by kernel_rfl⟩
instance ilda32 : LdAOk Q 32 3 := ⟨fun b o s G => by kernel_rfl⟩
instance ifa40_1 : FaOk Q 40 1 13 := ⟨fun b o s => by kernel_rfl⟩
noncomputable abbrev z231 : List Value := [.nilFunc, .nilFunc, .nilFunc, (.int .i64 0), (.bool false), (.int .i64 0)]
instance ibd231_2 : BdOk Q 231 z231 [(2, 4, 1)] := bd_ok Q (by kernel_rfl) (by kernel_rfl) (by kernel_rfl)
noncomputable abbrev z235 : List Value := [.nilFunc, .nilFunc, .nilFunc, (.int .i64 0), (.bool false), (.int .i64 0), (.int .i64 0), (.int .i64 0), (.int .i64 0), (.int .i64 0), (.int .u32 0)]
instance ibd235_0_1 : BdOk Q 235 z235 [(0, 0, 6), (1, 6, 3)] := bd_ok Q (by kernel_rfl) (by kernel_rfl) (by kernel_rfl)
instance ifa235_0 : FaOk Q 235 0 0 := ⟨fun b o s => by kernel_rfl⟩
instance ifa32_1 : FaOk Q 32 1 1 := ⟨fun b o s => by kernel_rfl⟩
instance ifa235_2 : FaOk Q 235 2 9 := ⟨fun b o s => by kernel_rfl⟩
noncomputable abbrev z229 : List Value := [.nilFunc, .nilFunc, .nilFunc]
instance ibd229_0_1_2 : BdOk Q 229 z229 [(0, 0, 1), (1, 1, 1), (2, 2, 1)] := bd_ok Q (by kernel_rfl) (by kernel_rfl) (by kernel_rfl)
instance ifa231_0 : FaOk Q 231 0 0 := ⟨fun b o s => by kernel_rfl⟩
instance ist229 : StOk Q 229 3 := ⟨fun b o s v G => by kernel_rfl⟩
instance ifa40_3 : FaOk Q 40 3 15 := ⟨fun b o s => by kernel_rfl⟩
instance iep158 : EpOk Q 158 := ⟨fun neg x y => by cases neg <;> kernel_rfl, fun neg x y a => by cases neg <;> kernel_rfl, fun neg x y a => by cases neg <;> kernel_rfl⟩
instance ifa235_3 : FaOk Q 235 3 10 := ⟨fun b o s => by kernel_rfl⟩
instance ild233 : LdOk Q 233 := ⟨fun b o s G => (show _ = loadOne b o G by kernel_rfl).trans (loadOne_eq b o G)⟩
instance icv233_3 : CvOk Q 233 3 .u32 .i64 := ⟨fun n => by kernel_rfl⟩
instance ifa34_0 : FaOk Q 34 0 0 := ⟨fun b o s => by kernel_rfl⟩
instance ifa30_0 : FaOk Q 30 0 0 := ⟨fun b o s => by kernel_rfl⟩
instance ilda28 : LdAOk Q 28 3 := ⟨fun b o s G => by kernel_rfl⟩
noncomputable abbrev z241 : List Value := [(.pointer none), (.int .i64 0), (.int .i64 0), (.int .i64 0), (.int .i64 0), (.int .i64 0), (.int .i64 0), (.bool false), .nilFunc, (.int .i64 0), (.int .u64 0), (.int .i64 0)]
instance ibd241_0_1_2_3 : BdOk Q 241 z241 [(0, 0, 1), (1, 1, 6), (2, 7, 1), (3, 8, 1)] := bd_ok Q (by kernel_rfl) (by kernel_rfl) (by kernel_rfl)
instance ifa42_5 : FaOk Q 42 5 23 := ⟨fun b o s => by kernel_rfl⟩
noncomputable abbrev z109 : List Value := [.nilFunc]
instance ibs244_3_0_1_2 : BsOk Q 244 3 (rep z109 3) 1 [(0, 0, 1), (1, 1, 1), (2, 2, 1)] := bs_ok Q (z0 := z109) (by kernel_rfl) rfl (by decide) (by kernel_rfl)
instance iln244 : LnOk Q 244 := ⟨fun a n c => by kernel_rfl⟩
instance iias244 : IasOk Q 244 1 := ⟨fun b o s n c k j => by kernel_rfl⟩
instance ild109 : LdOk Q 109 := ⟨fun b o s G => (show _ = loadOne b o G by kernel_rfl).trans (loadOne_eq b o G)⟩
instance ifa42_4 : FaOk Q 42 4 22 := ⟨fun b o s => by kernel_rfl⟩
instance ibs244_4_0_1_2_3 : BsOk Q 244 4 (rep z109 4) 1 [(0, 0, 1), (1, 1, 1), (2, 2, 1), (3, 3, 1)] := bs_ok Q (z0 := z109) (by kernel_rfl) rfl (by decide) (by kernel_rfl)
instance ifa28_2 : FaOk Q 28 2 2 := ⟨fun b o s => by kernel_rfl⟩
instance ifa36_0 : FaOk Q 36 0 0 := ⟨fun b o s => by kernel_rfl⟩
instance ifd28_0 : FdOk Q 28 0 0 := ⟨fun l => by kernel_rfl⟩
noncomputable abbrev z190 : List Value := [(.int .i64 0), (.int .i64 0), (.int .i64 0), (.int .i64 0), (.int .i64 0), (.int .i64 0), (.int .i64 0), (.int .i64 0), (.int .i64 0), (.int .i64 0), (.int .i64 0), (.int .i64 0), (.int .i64 0), (.int .i64 0), (.bool false), (.pointer none), (.pointer none), (.int .i64 0), (.int .u64 0), (.int .i64 0), (.int .u64 0), (.int .u64 0), (.int .i64 0), (.int .u64 0), (.bool false), (.int .i64 0)]
instance ial190 : AlOk Q 190 z190 := ⟨fun G => by kernel_rfl⟩
instance ibd190_8_2_9 : BdOk Q 190 z190 [(8, 24, 1), (2, 17, 1), (9, 25, 1)] := bd_ok Q (by kernel_rfl) (by kernel_rfl) (by kernel_rfl)
instance ist190 : StOk Q 190 26 := ⟨fun b o s v G => by kernel_rfl⟩
instance ibd190_0_8_2 : BdOk Q 190 z190 [(0, 0, 13), (8, 24, 1), (2, 17, 1)] := bd_ok Q (by kernel_rfl) (by kernel_rfl) (by kernel_rfl)
instance ilda190 : LdAOk Q 190 26 := ⟨fun b o s G => by kernel_rfl⟩
instance ifa190_8 : FaOk Q 190 8 24 := ⟨fun b o s => by kernel_rfl⟩
instance ifa190_2 : FaOk Q 190 2 17 := ⟨fun b o s => by kernel_rfl⟩
instance ifa190_9 : FaOk Q 190 9 25 := ⟨fun b o s => by kernel_rfl⟩
instance ifa190_6 : FaOk Q 190 6 21 := ⟨fun b o s => by kernel_rfl⟩
noncomputable abbrev z264 : List Value := [.nilFunc, .nilFunc, .nilFunc, (.int .i64 0), (.bool false), (.int .i64 0), (.int .i64 0)]
instance ibd264_0_1 : BdOk Q 264 z264 [(0, 0, 6), (1, 6, 1)] := bd_ok Q (by kernel_rfl) (by kernel_rfl) (by kernel_rfl)
instance ifa264_0 : FaOk Q 264 0 0 := ⟨fun b o s => by kernel_rfl⟩
instance iiaa229 : IaaOk Q 229 3 1 := ⟨fun b o s k j => by kernel_rfl⟩
instance ist206 : StOk Q 206 1 := ⟨fun b o s v G => by kernel_rfl⟩
instance iep132 : EpOk Q 132 := ⟨fun neg x y => by cases neg <;> kernel_rfl, fun neg x y a => by cases neg <;> kernel_rfl, fun neg x y a => by cases neg <;> kernel_rfl⟩
instance ifa147_0 : FaOk Q 147 0 0 := ⟨fun b o s => by kernel_rfl⟩
instance ibd135_0 : BdOk Q 135 z135 [(0, 0, 1)] := bd_ok Q (by kernel_rfl) (by kernel_rfl) (by kernel_rfl)
instance ifd101_3 : FdOk Q 101 3 3 := ⟨fun l => by kernel_rfl⟩
noncomputable abbrev z283 : List Value := [(.int .i64 0), (.int .i64 0), (.int .i64 0), (.int .i64 0), (.int .i64 0), (.int .i64 0), (.int .i64 0), (.int .i64 0), (.int .i64 0), (.int .i64 0), (.int .i64 0), (.int .i64 0), (.int .i64 0), (.int .i64 0), (.int .u64 0), (.int .i64 0), (.int .u64 0), (.int .u64 0), (.int .i64 0), (.int .u64 0), (.bool false), (.int .i64 0)]
instance ibd283_0 : BdOk Q 283 z283 [(0, 0, 22)] := bd_ok Q (by kernel_rfl) (by kernel_rfl) (by kernel_rfl)
instance iep214 : EpOk Q 214 := ⟨fun neg x y => by cases neg <;> kernel_rfl, fun neg x y a => by cases neg <;> kernel_rfl, fun neg x y a => by cases neg <;> kernel_rfl⟩
instance ifa283_0 : FaOk Q 283 0 0 := ⟨fun b o s => by kernel_rfl⟩
instance ifa280_7 : FaOk Q 280 7 19 := ⟨fun b o s => by kernel_rfl⟩
noncomputable abbrev z223 : List Value := [(.int .i64 0), (.int .i64 0), (.int .i64 0)]
instance ial223 : AlOk Q 223 z223 := ⟨fun G => by kernel_rfl⟩
instance ibd223_0_1_2 : BdOk Q 223 z223 [(0, 0, 1), (1, 1, 1), (2, 2, 1)] := bd_ok Q (by kernel_rfl) (by kernel_rfl) (by kernel_rfl)
instance ist223 : StOk Q 223 3 := ⟨fun b o s v G => by kernel_rfl⟩
instance ilda223 : LdAOk Q 223 3 := ⟨fun b o s G => by kernel_rfl⟩
instance ifa223_1 : FaOk Q 223 1 1 := ⟨fun b o s => by kernel_rfl⟩
instance ifa223_2 : FaOk Q 223 2 2 := ⟨fun b o s => by kernel_rfl⟩
instance ild221 : LdOk Q 221 := ⟨fun b o s G => (show _ = loadOne b o G by kernel_rfl).trans (loadOne_eq b o G)⟩
instance iifc221 : IfcOk Q 221 := ⟨fun v => by kernel_rfl⟩
instance ifa223_0 : FaOk Q 223 0 0 := ⟨fun b o s => by kernel_rfl⟩
noncomputable abbrev z227 : List Value := [(.int .i64 0), (.int .i64 0), (.int .i64 0)]
instance ial227 : AlOk Q 227 z227 := ⟨fun G => by kernel_rfl⟩
instance ibd227_0_1_2 : BdOk Q 227 z227 [(0, 0, 1), (1, 1, 1), (2, 2, 1)] := bd_ok Q (by kernel_rfl) (by kernel_rfl) (by kernel_rfl)
instance ist227 : StOk Q 227 3 := ⟨fun b o s v G => by kernel_rfl⟩
instance ilda227 : LdAOk Q 227 3 := ⟨fun b o s G => by kernel_rfl⟩
instance ifa227_1 : FaOk Q 227 1 1 := ⟨fun b o s => by kernel_rfl⟩
instance ifa227_2 : FaOk Q 227 2 2 := ⟨fun b o s => by kernel_rfl⟩
instance ild225 : LdOk Q 225 := ⟨fun b o s G => (show _ = loadOne b o G by kernel_rfl).trans (loadOne_eq b o G)⟩
instance iifc225 : IfcOk Q 225 := ⟨fun v => by kernel_rfl⟩
instance ifa227_0 : FaOk Q 227 0 0 := ⟨fun b o s => by kernel_rfl⟩
instance ifa231_1 : FaOk Q 231 1 3 := ⟨fun b o s => by kernel_rfl⟩
instance ifa231_3 : FaOk Q 231 3 5 := ⟨fun b o s => by kernel_rfl⟩
instance ifa235_1 : FaOk Q 235 1 6 := ⟨fun b o s => by kernel_rfl⟩
instance ifa32_0 : FaOk Q 32 0 0 := ⟨fun b o s => by kernel_rfl⟩
instance icv38_233 : CvOk Q 38 233 .u64 .u32 := ⟨fun n => by kernel_rfl⟩
instance ist233 : StOk Q 233 1 := ⟨fun b o s v G => by kernel_rfl⟩
instance icv233_38 : CvOk Q 233 38 .u32 .u64 := ⟨fun n => by kernel_rfl⟩
instance ifa231_2 : FaOk Q 231 2 4 := ⟨fun b o s => by kernel_rfl⟩
noncomputable abbrev z286 : List Value := [(.int .i64 0), (.int .i64 0), (.int .i64 0), (.int .u64 0), (.int .i64 0), (.int .i64 0), (.bool false), (.bool false), (.int .i64 0)]
instance ibd286_0_4 : BdOk Q 286 z286 [(0, 0, 3), (4, 6, 1)] := bd_ok Q (by kernel_rfl) (by kernel_rfl) (by kernel_rfl)
noncomputable abbrev z289 : List Value := [(.int .i64 0), (.int .i64 0), (.int .i64 0), (.int .u64 0), (.int .i64 0), (.int .i64 0), (.bool false), (.bool false), (.int .i64 0), .nilFunc]
instance ibd289_0_1 : BdOk Q 289 z289 [(0, 0, 9), (1, 9, 1)] := bd_ok Q (by kernel_rfl) (by kernel_rfl) (by kernel_rfl)
instance ifa241_0 : FaOk Q 241 0 0 := ⟨fun b o s => by kernel_rfl⟩
instance ild237 : LdOk Q 237 := ⟨fun b o s G => (show _ = loadOne b o G by kernel_rfl).trans (loadOne_eq b o G)⟩
instance ifa241_4 : FaOk Q 241 4 9 := ⟨fun b o s => by kernel_rfl⟩
instance ifa241_3 : FaOk Q 241 3 8 := ⟨fun b o s => by kernel_rfl⟩
instance ist239 : StOk Q 239 1 := ⟨fun b o s v G => by kernel_rfl⟩
instance iep166 : EpOk Q 166 := ⟨fun neg x y => by cases neg <;> kernel_rfl, fun neg x y a => by cases neg <;> kernel_rfl, fun neg x y a => by cases neg <;> kernel_rfl⟩
instance ifa241_2 : FaOk Q 241 2 7 := ⟨fun b o s => by kernel_rfl⟩
instance ild239 : LdOk Q 239 := ⟨fun b o s G => (show _ = loadOne b o G by kernel_rfl).trans (loadOne_eq b o G)⟩
instance ief239 : EfOk Q 239 := ⟨fun neg x y => by cases neg <;> kernel_rfl, fun neg x y f a b => by cases neg <;> kernel_rfl⟩
instance ifa241_5 : FaOk Q 241 5 10 := ⟨fun b o s => by kernel_rfl⟩
instance ifa241_6 : FaOk Q 241 6 11 := ⟨fun b o s => by kernel_rfl⟩
noncomputable abbrev z297 : List Value := [.nilFunc, .nilFunc, .nilFunc, (.pointer none), (.bool false)]
instance ibd297_0_1 : BdOk Q 297 z297 [(0, 0, 1), (1, 1, 1)] := bd_ok Q (by kernel_rfl) (by kernel_rfl) (by kernel_rfl)
instance iifc290 : IfcOk Q 290 := ⟨fun v => by kernel_rfl⟩
noncomputable abbrev z305 : List Value := [.nilFunc, .nilFunc, .nilFunc, (.pointer none), (.bool false)]
instance ibd305_0_1 : BdOk Q 305 z305 [(0, 0, 1), (1, 1, 1)] := bd_ok Q (by kernel_rfl) (by kernel_rfl) (by kernel_rfl)
instance iifc298 : IfcOk Q 298 := ⟨fun v => by kernel_rfl⟩
noncomputable abbrev z313 : List Value := [.nilFunc, .nilFunc, .nilFunc, (.pointer none), (.bool false)]
instance ibd313_0_2 : BdOk Q 313 z313 [(0, 0, 1), (2, 2, 1)] := bd_ok Q (by kernel_rfl) (by kernel_rfl) (by kernel_rfl)
instance iifc307 : IfcOk Q 307 := ⟨fun v => by kernel_rfl⟩
instance ifa30_2 : FaOk Q 30 2 4 := ⟨fun b o s => by kernel_rfl⟩
instance ifa30_1 : FaOk Q 30 1 3 := ⟨fun b o s => by kernel_rfl⟩
instance ild22 : LdOk Q 22 := ⟨fun b o s G => (show _ = loadOne b o G by kernel_rfl).trans (loadOne_eq b o G)⟩
instance ial28 : AlOk Q 28 z28 := ⟨fun G => by kernel_rfl⟩
instance ifa34_2 : FaOk Q 34 2 9 := ⟨fun b o s => by kernel_rfl⟩
instance ifa28_1 : FaOk Q 28 1 1 := ⟨fun b o s => by kernel_rfl⟩
instance ist28 : StOk Q 28 3 := ⟨fun b o s v G => by kernel_rfl⟩
noncomputable abbrev z258 : List Value := [(.int .i64 0), (.int .i64 0), (.bool false)]
instance ial258 : AlOk Q 258 z258 := ⟨fun G => by kernel_rfl⟩
noncomputable abbrev z320 : List Value := [(.int .i64 0), (.int .i64 0), (.int .i64 0), (.int .i64 0)]
instance ial320 : AlOk Q 320 z320 := ⟨fun G => by kernel_rfl⟩
instance ist320 : StOk Q 320 4 := ⟨fun b o s v G => by kernel_rfl⟩
instance iiaa320 : IaaOk Q 320 2 2 := ⟨fun b o s k j => by kernel_rfl⟩
instance ilda319 : LdAOk Q 319 2 := ⟨fun b o s G => by kernel_rfl⟩
instance ibd258_0_1_2 : BdOk Q 258 z258 [(0, 0, 1), (1, 1, 1), (2, 2, 1)] := bd_ok Q (by kernel_rfl) (by kernel_rfl) (by kernel_rfl)
instance ist258 : StOk Q 258 3 := ⟨fun b o s v G => by kernel_rfl⟩
instance ilda258 : LdAOk Q 258 3 := ⟨fun b o s G => by kernel_rfl⟩
instance ibd258_ : BdOk Q 258 z258 [] := bd_ok Q (by kernel_rfl) (by kernel_rfl) (by kernel_rfl)
instance ifa264_1 : FaOk Q 264 1 6 := ⟨fun b o s => by kernel_rfl⟩
noncomputable abbrev z280 : List Value := [(.int .i64 0), (.int .i64 0), (.int .i64 0), (.int .i64 0), (.int .i64 0), (.int .i64 0), (.int .i64 0), (.int .i64 0), (.int .i64 0), (.int .i64 0), (.int .i64 0), (.int .i64 0), (.int .i64 0), (.int .i64 0), (.int .u64 0), (.int .i64 0), (.int .u64 0), (.int .u64 0), (.int .i64 0), (.int .u64 0), (.bool false), (.int .i64 0)]
instance ial280 : AlOk Q 280 z280 := ⟨fun G => by kernel_rfl⟩
instance ibd280_8_2_9 : BdOk Q 280 z280 [(8, 20, 1), (2, 13, 1), (9, 21, 1)] := bd_ok Q (by kernel_rfl) (by kernel_rfl) (by kernel_rfl)
instance ist280 : StOk Q 280 22 := ⟨fun b o s v G => by kernel_rfl⟩
instance ibd280_0_8_2 : BdOk Q 280 z280 [(0, 0, 13), (8, 20, 1), (2, 13, 1)] := bd_ok Q (by kernel_rfl) (by kernel_rfl) (by kernel_rfl)
instance ilda280 : LdAOk Q 280 22 := ⟨fun b o s G => by kernel_rfl⟩
instance ifa280_8 : FaOk Q 280 8 20 := ⟨fun b o s => by kernel_rfl⟩
instance ifa280_2 : FaOk Q 280 2 13 := ⟨fun b o s => by kernel_rfl⟩
instance ifa280_9 : FaOk Q 280 9 21 := ⟨fun b o s => by kernel_rfl⟩
instance ifa280_6 : FaOk Q 280 6 17 := ⟨fun b o s => by kernel_rfl⟩
instance ifa289_1 : FaOk Q 289 1 9 := ⟨fun b o s => by kernel_rfl⟩
instance ist287 : StOk Q 287 1 := ⟨fun b o s v G => by kernel_rfl⟩
instance ifa289_0 : FaOk Q 289 0 0 := ⟨fun b o s => by kernel_rfl⟩
instance ifa286_2 : FaOk Q 286 2 4 := ⟨fun b o s => by kernel_rfl⟩
instance iep237 : EpOk Q 237 := ⟨fun neg x y => by cases neg <;> kernel_rfl, fun neg x y a => by cases neg <;> kernel_rfl, fun neg x y a => by cases neg <;> kernel_rfl⟩
instance ild287 : LdOk Q 287 := ⟨fun b o s G => (show _ = loadOne b o G by kernel_rfl).trans (loadOne_eq b o G)⟩
instance ifa286_5 : FaOk Q 286 5 7 := ⟨fun b o s => by kernel_rfl⟩
instance ifa241_1 : FaOk Q 241 1 1 := ⟨fun b o s => by kernel_rfl⟩
instance ibd258_0_1 : BdOk Q 258 z258 [(0, 0, 1), (1, 1, 1)] := bd_ok Q (by kernel_rfl) (by kernel_rfl) (by kernel_rfl)
instance icv3_38 : CvOk Q 3 38 .i64 .u64 := ⟨fun n => by kernel_rfl⟩
instance ifa42_1 : FaOk Q 42 1 19 := ⟨fun b o s => by kernel_rfl⟩
instance ifa42_2 : FaOk Q 42 2 20 := ⟨fun b o s => by kernel_rfl⟩
instance ifa42_3 : FaOk Q 42 3 21 := ⟨fun b o s => by kernel_rfl⟩
noncomputable abbrev z335 : List Value := [(.bool false), (.int .u64 0), .nilFunc, .nilFunc, .nilFunc, .nilFunc, (.int .i64 0), (.int .i64 0)]
instance ibd335_0_1_4 : BdOk Q 335 z335 [(0, 0, 1), (1, 1, 1), (4, 7, 1)] := bd_ok Q (by kernel_rfl) (by kernel_rfl) (by kernel_rfl)
instance ifa335_4 : FaOk Q 335 4 7 := ⟨fun b o s => by kernel_rfl⟩
instance ifa335_3 : FaOk Q 335 3 6 := ⟨fun b o s => by kernel_rfl⟩
noncomputable abbrev z3 : List Value := [(.int .i64 0)]
instance ial3 : AlOk Q 3 z3 := ⟨fun G => by kernel_rfl⟩
noncomputable abbrev z333 : List Value := [.nilFunc, .nilFunc, .nilFunc, .nilFunc]
instance ibd333_0_1_2_3 : BdOk Q 333 z333 [(0, 0, 1), (1, 1, 1), (2, 2, 1), (3, 3, 1)] := bd_ok Q (by kernel_rfl) (by kernel_rfl) (by kernel_rfl)
instance ifa335_2 : FaOk Q 335 2 2 := ⟨fun b o s => by kernel_rfl⟩
instance ist333 : StOk Q 333 4 := ⟨fun b o s v G => by kernel_rfl⟩
instance iep291 : EpOk Q 291 := ⟨fun neg x y => by cases neg <;> kernel_rfl, fun neg x y a => by cases neg <;> kernel_rfl, fun neg x y a => by cases neg <;> kernel_rfl⟩
instance ifa335_1 : FaOk Q 335 1 1 := ⟨fun b o s => by kernel_rfl⟩
noncomputable abbrev z340 : List Value := [(.int .i64 0), (.int .i64 0), (.int .i64 0), (.int .i64 0), (.int .i64 0), (.int .i64 0), (.int .i64 0), (.int .i64 0), (.int .i64 0), (.int .i64 0), (.int .i64 0), (.int .i64 0), (.int .i64 0), (.bool false), (.bool false), (.int .u64 0), (.int .u64 0), (.int .i64 0), (.int .i64 0), (.int .i64 0), (.int .i64 0), (.int .u64 0), (.pointer none), (.pointer none), (.int .u64 0), (.int .i64 0)]
instance ibd340_0_1_3_4_6_13 : BdOk Q 340 z340 [(0, 0, 13), (1, 13, 1), (3, 15, 1), (4, 16, 1), (6, 18, 1), (13, 25, 1)] := bd_ok Q (by kernel_rfl) (by kernel_rfl) (by kernel_rfl)
instance ifa340_13 : FaOk Q 340 13 25 := ⟨fun b o s => by kernel_rfl⟩
instance ifa258_0 : FaOk Q 258 0 0 := ⟨fun b o s => by kernel_rfl⟩
instance ifa340_5 : FaOk Q 340 5 17 := ⟨fun b o s => by kernel_rfl⟩
instance ifa340_7 : FaOk Q 340 7 19 := ⟨fun b o s => by kernel_rfl⟩
instance ist338 : StOk Q 338 1 := ⟨fun b o s v G => by kernel_rfl⟩
instance iep299 : EpOk Q 299 := ⟨fun neg x y => by cases neg <;> kernel_rfl, fun neg x y a => by cases neg <;> kernel_rfl, fun neg x y a => by cases neg <;> kernel_rfl⟩
instance ifa340_12 : FaOk Q 340 12 24 := ⟨fun b o s => by kernel_rfl⟩
noncomputable abbrev z345 : List Value := [.nilFunc, (.bool false), (.int .i64 0)]
instance ibd345_1 : BdOk Q 345 z345 [(1, 1, 1)] := bd_ok Q (by kernel_rfl) (by kernel_rfl) (by kernel_rfl)
noncomputable abbrev z352 : List Value := [.nilFunc, (.bool false), (.int .i64 0), (.int .i64 0), (.int .i64 0), (.int .i64 0), (.int .i64 0), (.int .i64 0), (.int .i64 0), (.int .i64 0), (.int .i64 0), (.int .i64 0), (.int .i64 0), (.pointer none), (.pointer none), (.int .i64 0), (.pointer none), (.int .i64 0), (.int .i64 0)]
instance ibd352_0_1 : BdOk Q 352 z352 [(0, 0, 3), (1, 3, 10)] := bd_ok Q (by kernel_rfl) (by kernel_rfl) (by kernel_rfl)
instance ifa352_0 : FaOk Q 352 0 0 := ⟨fun b o s => by kernel_rfl⟩
instance ifa345_2 : FaOk Q 345 2 2 := ⟨fun b o s => by kernel_rfl⟩
instance ifa352_2 : FaOk Q 352 2 13 := ⟨fun b o s => by kernel_rfl⟩
instance ist346 : StOk Q 346 1 := ⟨fun b o s v G => by kernel_rfl⟩
instance ifa352_3 : FaOk Q 352 3 14 := ⟨fun b o s => by kernel_rfl⟩
instance ist347 : StOk Q 347 1 := ⟨fun b o s v G => by kernel_rfl⟩
instance ifa345_0 : FaOk Q 345 0 0 := ⟨fun b o s => by kernel_rfl⟩
instance ist343 : StOk Q 343 1 := ⟨fun b o s v G => by kernel_rfl⟩
instance ifa28_0 : FaOk Q 28 0 0 := ⟨fun b o s => by kernel_rfl⟩
noncomputable abbrev z357 : List Value := [(.int .i64 0), (.int .i64 0)]
instance ial357 : AlOk Q 357 z357 := ⟨fun G => by kernel_rfl⟩
instance ist357 : StOk Q 357 2 := ⟨fun b o s v G => by kernel_rfl⟩
instance ifa357_0 : FaOk Q 357 0 0 := ⟨fun b o s => by kernel_rfl⟩
noncomputable abbrev z319 : List Value := [(.int .i64 0), (.int .i64 0)]
instance ibd319_0_1 : BdOk Q 319 z319 [(0, 0, 1), (1, 1, 1)] := bd_ok Q (by kernel_rfl) (by kernel_rfl) (by kernel_rfl)
instance ibd320_0_1 : BdOk Q 320 z320 [(0, 0, 2), (1, 2, 2)] := bd_ok Q (by kernel_rfl) (by kernel_rfl) (by kernel_rfl)
instance ilda320 : LdAOk Q 320 4 := ⟨fun b o s G => by kernel_rfl⟩
instance ifa319_0 : FaOk Q 319 0 0 := ⟨fun b o s => by kernel_rfl⟩
instance ifa319_1 : FaOk Q 319 1 1 := ⟨fun b o s => by kernel_rfl⟩
instance icv38_3 : CvOk Q 38 3 .u64 .i64 := ⟨fun n => by kernel_rfl⟩
noncomputable abbrev z362 : List Value := [(.int .i64 0), (.int .i64 0), (.int .i64 0)]
instance ibd362_0_1_2 : BdOk Q 362 z362 [(0, 0, 1), (1, 1, 1), (2, 2, 1)] := bd_ok Q (by kernel_rfl) (by kernel_rfl) (by kernel_rfl)
instance ifa258_1 : FaOk Q 258 1 1 := ⟨fun b o s => by kernel_rfl⟩
instance ibs377_2_0_1 : BsOk Q 377 2 (rep z362 2) 3 [(0, 0, 3), (1, 3, 3)] := bs_ok Q (z0 := z362) (by kernel_rfl) rfl (by decide) (by kernel_rfl)
instance isla320 : SlAOk Q 320 2 2 := ⟨fun a lo hi mx G => by kernel_rfl⟩
instance ibs139_2_0_1 : BsOk Q 139 2 (rep z3 2) 1 [(0, 0, 1), (1, 1, 1)] := bs_ok Q (z0 := z3) (by kernel_rfl) rfl (by decide) (by kernel_rfl)
instance ifa258_2 : FaOk Q 258 2 2 := ⟨fun b o s => by kernel_rfl⟩
instance ifa286_0 : FaOk Q 286 0 0 := ⟨fun b o s => by kernel_rfl⟩
instance ifa286_3 : FaOk Q 286 3 5 := ⟨fun b o s => by kernel_rfl⟩
instance ifa286_1 : FaOk Q 286 1 3 := ⟨fun b o s => by kernel_rfl⟩
instance ifa286_6 : FaOk Q 286 6 8 := ⟨fun b o s => by kernel_rfl⟩
instance iep369 : EpOk Q 369 := ⟨fun neg x y => by cases neg <;> kernel_rfl, fun neg x y a => by cases neg <;> kernel_rfl, fun neg x y a => by cases neg <;> kernel_rfl⟩
instance ifa286_4 : FaOk Q 286 4 6 := ⟨fun b o s => by kernel_rfl⟩
instance ifa340_0 : FaOk Q 340 0 0 := ⟨fun b o s => by kernel_rfl⟩
instance ifa340_4 : FaOk Q 340 4 16 := ⟨fun b o s => by kernel_rfl⟩
instance ifa340_10 : FaOk Q 340 10 22 := ⟨fun b o s => by kernel_rfl⟩
instance ist184 : StOk Q 184 1 := ⟨fun b o s v G => by kernel_rfl⟩
noncomputable abbrev z372 : List Value := [.nilFunc, .nilFunc, .nilFunc, (.int .i64 0), (.bool false), (.int .i64 0), (.int .i64 0), (.int .i64 0), (.int .i64 0), (.int .i64 0), (.int .i64 0), (.int .u64 0), (.int .i64 0)]
instance ibd372_0_1_2_3 : BdOk Q 372 z372 [(0, 0, 6), (1, 6, 3), (2, 9, 1), (3, 10, 1)] := bd_ok Q (by kernel_rfl) (by kernel_rfl) (by kernel_rfl)
instance ifa372_0 : FaOk Q 372 0 0 := ⟨fun b o s => by kernel_rfl⟩
noncomputable abbrev z375 : List Value := [(.int .i64 0), (.int .i64 0), (.int .i64 0), (.int .u64 0), (.int .i64 0), (.int .i64 0), (.bool false), (.bool false), (.int .i64 0), .nilFunc]
instance ibd375_0_1 : BdOk Q 375 z375 [(0, 0, 9), (1, 9, 1)] := bd_ok Q (by kernel_rfl) (by kernel_rfl) (by kernel_rfl)
instance ild346 : LdOk Q 346 := ⟨fun b o s G => (show _ = loadOne b o G by kernel_rfl).trans (loadOne_eq b o G)⟩
instance ibd357_0 : BdOk Q 357 z357 [(0, 0, 1)] := bd_ok Q (by kernel_rfl) (by kernel_rfl) (by kernel_rfl)
instance ibd357_0_1 : BdOk Q 357 z357 [(0, 0, 1), (1, 1, 1)] := bd_ok Q (by kernel_rfl) (by kernel_rfl) (by kernel_rfl)
instance ilda357 : LdAOk Q 357 2 := ⟨fun b o s G => by kernel_rfl⟩
instance iln377 : LnOk Q 377 := ⟨fun a n c => by kernel_rfl⟩
instance iias377 : IasOk Q 377 3 := ⟨fun b o s n c k j => by kernel_rfl⟩
instance ilda362 : LdAOk Q 362 3 := ⟨fun b o s G => by kernel_rfl⟩
instance ial362 : AlOk Q 362 z362 := ⟨fun G => by kernel_rfl⟩
instance ist362 : StOk Q 362 3 := ⟨fun b o s v G => by kernel_rfl⟩
instance ifa362_0 : FaOk Q 362 0 0 := ⟨fun b o s => by kernel_rfl⟩
instance ifa362_1 : FaOk Q 362 1 1 := ⟨fun b o s => by kernel_rfl⟩
instance ifa362_2 : FaOk Q 362 2 2 := ⟨fun b o s => by kernel_rfl⟩
instance iln365 : LnOk Q 365 := ⟨fun a n c => by kernel_rfl⟩
instance iias365 : IasOk Q 365 2 := ⟨fun b o s n c k j => by kernel_rfl⟩
instance ial319 : AlOk Q 319 z319 := ⟨fun G => by kernel_rfl⟩
instance ist319 : StOk Q 319 2 := ⟨fun b o s v G => by kernel_rfl⟩
instance iias139 : IasOk Q 139 1 := ⟨fun b o s n c k j => by kernel_rfl⟩
noncomputable abbrev z384 : List Value := [(.int .i64 0), (.int .i64 0), (.int .i64 0), (.int .i64 0), (.int .i64 0), (.int .i64 0), (.int .i64 0), (.int .i64 0), (.int .i64 0), (.int .i64 0), (.int .i64 0), (.int .i64 0), (.int .i64 0), (.int .u64 0), (.int .i64 0), (.int .i64 0), (.int .i64 0), (.int .u64 0), (.int .u64 0), (.int .u64 0), (.slice none 0 0), (.int .u64 0), (.bool false), (.int .i64 0)]
instance ibd384_0_1_7 : BdOk Q 384 z384 [(0, 0, 13), (1, 13, 1), (7, 22, 1)] := bd_ok Q (by kernel_rfl) (by kernel_rfl) (by kernel_rfl)
instance ifa384_2 : FaOk Q 384 2 14 := ⟨fun b o s => by kernel_rfl⟩
instance ifa384_8 : FaOk Q 384 8 23 := ⟨fun b o s => by kernel_rfl⟩
noncomputable abbrev z381 : List Value := [(.int .i64 0), (.int .i64 0), (.int .u64 0), (.int .u64 0)]
instance imk382 : MkSlOk Q 382 4 32 z381 := ⟨fun k k' l c G => by kernel_rfl⟩
instance ifa384_5 : FaOk Q 384 5 20 := ⟨fun b o s => by kernel_rfl⟩
instance ist382 : StOk Q 382 1 := ⟨fun b o s v G => by kernel_rfl⟩
instance ifa372_1 : FaOk Q 372 1 6 := ⟨fun b o s => by kernel_rfl⟩
instance ifa372_4 : FaOk Q 372 4 11 := ⟨fun b o s => by kernel_rfl⟩
instance ifa372_3 : FaOk Q 372 3 10 := ⟨fun b o s => by kernel_rfl⟩
instance ifa372_5 : FaOk Q 372 5 12 := ⟨fun b o s => by kernel_rfl⟩
instance ifa375_1 : FaOk Q 375 1 9 := ⟨fun b o s => by kernel_rfl⟩
instance ist373 : StOk Q 373 1 := ⟨fun b o s v G => by kernel_rfl⟩
instance ifa375_0 : FaOk Q 375 0 0 := ⟨fun b o s => by kernel_rfl⟩
instance iep346 : EpOk Q 346 := ⟨fun neg x y => by cases neg <;> kernel_rfl, fun neg x y a => by cases neg <;> kernel_rfl, fun neg x y a => by cases neg <;> kernel_rfl⟩
instance ild347 : LdOk Q 347 := ⟨fun b o s G => (show _ = loadOne b o G by kernel_rfl).trans (loadOne_eq b o G)⟩
instance ifa352_4 : FaOk Q 352 4 15 := ⟨fun b o s => by kernel_rfl⟩
instance ifa357_1 : FaOk Q 357 1 1 := ⟨fun b o s => by kernel_rfl⟩
instance ifa384_0 : FaOk Q 384 0 0 := ⟨fun b o s => by kernel_rfl⟩
instance ifa372_2 : FaOk Q 372 2 9 := ⟨fun b o s => by kernel_rfl⟩
instance ibd135_0_1_2 : BdOk Q 135 z135 [(0, 0, 1), (1, 1, 1), (2, 2, 1)] := bd_ok Q (by kernel_rfl) (by kernel_rfl) (by kernel_rfl)
instance ifd101_4 : FdOk Q 101 4 4 := ⟨fun l => by kernel_rfl⟩
instance ild206 : LdOk Q 206 := ⟨fun b o s G => (show _ = loadOne b o G by kernel_rfl).trans (loadOne_eq b o G)⟩
instance iep347 : EpOk Q 347 := ⟨fun neg x y => by cases neg <;> kernel_rfl, fun neg x y a => by cases neg <;> kernel_rfl, fun neg x y a => by cases neg <;> kernel_rfl⟩
instance ild373 : LdOk Q 373 := ⟨fun b o s G => (show _ = loadOne b o G by kernel_rfl).trans (loadOne_eq b o G)⟩
instance ifa352_1 : FaOk Q 352 1 3 := ⟨fun b o s => by kernel_rfl⟩
noncomputable abbrev z350 : List Value := [(.pointer none), (.int .i64 0)]
instance ibd350_0_1 : BdOk Q 350 z350 [(0, 0, 1), (1, 1, 1)] := bd_ok Q (by kernel_rfl) (by kernel_rfl) (by kernel_rfl)
instance ifa352_5 : FaOk Q 352 5 16 := ⟨fun b o s => by kernel_rfl⟩
instance ist350 : StOk Q 350 2 := ⟨fun b o s v G => by kernel_rfl⟩
instance ild184 : LdOk Q 184 := ⟨fun b o s G => (show _ = loadOne b o G by kernel_rfl).trans (loadOne_eq b o G)⟩
instance ild382 : LdOk Q 382 := ⟨fun b o s G => (show _ = loadOne b o G by kernel_rfl).trans (loadOne_eq b o G)⟩
instance ial381 : AlOk Q 381 z381 := ⟨fun G => by kernel_rfl⟩
instance ist381 : StOk Q 381 4 := ⟨fun b o s v G => by kernel_rfl⟩
instance ilda381 : LdAOk Q 381 4 := ⟨fun b o s G => by kernel_rfl⟩
instance ifa384_3 : FaOk Q 384 3 15 := ⟨fun b o s => by kernel_rfl⟩
instance ifa135_2 : FaOk Q 135 2 2 := ⟨fun b o s => by kernel_rfl⟩
noncomputable abbrev z395 : List Value := [(.pointer none), (.int .i64 0), (.int .i64 0), (.int .i64 0), (.int .i64 0), (.int .i64 0), (.int .i64 0), (.bool false), .nilFunc, (.int .i64 0), (.int .u64 0), (.int .i64 0)]
instance ibd395_0_1_2_4 : BdOk Q 395 z395 [(0, 0, 1), (1, 1, 6), (2, 7, 1), (4, 9, 1)] := bd_ok Q (by kernel_rfl) (by kernel_rfl) (by kernel_rfl)
instance ifa395_6 : FaOk Q 395 6 11 := ⟨fun b o s => by kernel_rfl⟩
instance ifa395_3 : FaOk Q 395 3 8 := ⟨fun b o s => by kernel_rfl⟩
instance ist393 : StOk Q 393 1 := ⟨fun b o s v G => by kernel_rfl⟩
instance ifa350_0 : FaOk Q 350 0 0 := ⟨fun b o s => by kernel_rfl⟩
instance ild348 : LdOk Q 348 := ⟨fun b o s G => (show _ = loadOne b o G by kernel_rfl).trans (loadOne_eq b o G)⟩
instance ifa352_6 : FaOk Q 352 6 18 := ⟨fun b o s => by kernel_rfl⟩
instance ifa350_1 : FaOk Q 350 1 1 := ⟨fun b o s => by kernel_rfl⟩
instance ibd286_0_2_4 : BdOk Q 286 z286 [(0, 0, 3), (2, 4, 1), (4, 6, 1)] := bd_ok Q (by kernel_rfl) (by kernel_rfl) (by kernel_rfl)
noncomputable abbrev z399 : List Value := [(.int .i64 0), (.int .i64 0), (.int .i64 0), (.int .u64 0), (.int .i64 0), (.int .i64 0), (.bool false), (.bool false), (.int .i64 0), .nilFunc]
instance ibd399_0_1 : BdOk Q 399 z399 [(0, 0, 9), (1, 9, 1)] := bd_ok Q (by kernel_rfl) (by kernel_rfl) (by kernel_rfl)
instance ifa399_0 : FaOk Q 399 0 0 := ⟨fun b o s => by kernel_rfl⟩
instance ifa395_1 : FaOk Q 395 1 1 := ⟨fun b o s => by kernel_rfl⟩
instance ifa395_4 : FaOk Q 395 4 9 := ⟨fun b o s => by kernel_rfl⟩
instance ifa395_5 : FaOk Q 395 5 10 := ⟨fun b o s => by kernel_rfl⟩
instance ifa30_3 : FaOk Q 30 3 5 := ⟨fun b o s => by kernel_rfl⟩
instance iep348 : EpOk Q 348 := ⟨fun neg x y => by cases neg <;> kernel_rfl, fun neg x y a => by cases neg <;> kernel_rfl, fun neg x y a => by cases neg <;> kernel_rfl⟩
instance ild393 : LdOk Q 393 := ⟨fun b o s G => (show _ = loadOne b o G by kernel_rfl).trans (loadOne_eq b o G)⟩
instance ief393 : EfOk Q 393 := ⟨fun neg x y => by cases neg <;> kernel_rfl, fun neg x y f a b => by cases neg <;> kernel_rfl⟩
instance ibd381_1 : BdOk Q 381 z381 [(1, 1, 1)] := bd_ok Q (by kernel_rfl) (by kernel_rfl) (by kernel_rfl)
instance ifa381_0 : FaOk Q 381 0 0 := ⟨fun b o s => by kernel_rfl⟩
instance ifa381_3 : FaOk Q 381 3 3 := ⟨fun b o s => by kernel_rfl⟩
instance iias382 : IasOk Q 382 4 := ⟨fun b o s n c k j => by kernel_rfl⟩
instance ifa399_1 : FaOk Q 399 1 9 := ⟨fun b o s => by kernel_rfl⟩
instance ist397 : StOk Q 397 1 := ⟨fun b o s v G => by kernel_rfl⟩
instance ifa395_0 : FaOk Q 395 0 0 := ⟨fun b o s => by kernel_rfl⟩
instance ild391 : LdOk Q 391 := ⟨fun b o s G => (show _ = loadOne b o G by kernel_rfl).trans (loadOne_eq b o G)⟩
instance iep391 : EpOk Q 391 := ⟨fun neg x y => by cases neg <;> kernel_rfl, fun neg x y a => by cases neg <;> kernel_rfl, fun neg x y a => by cases neg <;> kernel_rfl⟩
instance ild397 : LdOk Q 397 := ⟨fun b o s G => (show _ = loadOne b o G by kernel_rfl).trans (loadOne_eq b o G)⟩
instance ifa129_4 : FaOk Q 129 4 4 := ⟨fun b o s => by kernel_rfl⟩
instance ifa129_0 : FaOk Q 129 0 0 := ⟨fun b o s => by kernel_rfl⟩
instance ild125 : LdOk Q 125 := ⟨fun b o s G => (show _ = loadOne b o G by kernel_rfl).trans (loadOne_eq b o G)⟩
instance ifa129_3 : FaOk Q 129 3 3 := ⟨fun b o s => by kernel_rfl⟩
instance ist123 : StOk Q 123 1 := ⟨fun b o s v G => by kernel_rfl⟩
instance ild123 : LdOk Q 123 := ⟨fun b o s G => (show _ = loadOne b o G by kernel_rfl).trans (loadOne_eq b o G)⟩
instance iifc123 : IfcOk Q 123 := ⟨fun v => by kernel_rfl⟩
instance ifa129_1 : FaOk Q 129 1 1 := ⟨fun b o s => by kernel_rfl⟩
instance ild126 : LdOk Q 126 := ⟨fun b o s G => (show _ = loadOne b o G by kernel_rfl).trans (loadOne_eq b o G)⟩
instance ief126 : EfOk Q 126 := ⟨fun neg x y => by cases neg <;> kernel_rfl, fun neg x y f a b => by cases neg <;> kernel_rfl⟩
instance ifa129_2 : FaOk Q 129 2 2 := ⟨fun b o s => by kernel_rfl⟩
instance ild127 : LdOk Q 127 := ⟨fun b o s G => (show _ = loadOne b o G by kernel_rfl).trans (loadOne_eq b o G)⟩
instance ief127 : EfOk Q 127 := ⟨fun neg x y => by cases neg <;> kernel_rfl, fun neg x y f a b => by cases neg <;> kernel_rfl⟩
instance ifa190_5 : FaOk Q 190 5 20 := ⟨fun b o s => by kernel_rfl⟩
instance ist188 : StOk Q 188 1 := ⟨fun b o s v G => by kernel_rfl⟩
instance ild188 : LdOk Q 188 := ⟨fun b o s G => (show _ = loadOne b o G by kernel_rfl).trans (loadOne_eq b o G)⟩
instance ifa190_3 : FaOk Q 190 3 18 := ⟨fun b o s => by kernel_rfl⟩
instance ifa190_0 : FaOk Q 190 0 0 := ⟨fun b o s => by kernel_rfl⟩
instance ifa190_4 : FaOk Q 190 4 19 := ⟨fun b o s => by kernel_rfl⟩
instance ifa190_1 : FaOk Q 190 1 13 := ⟨fun b o s => by kernel_rfl⟩
instance ifa187_1 : FaOk Q 187 1 1 := ⟨fun b o s => by kernel_rfl⟩
instance ifa187_2 : FaOk Q 187 2 2 := ⟨fun b o s => by kernel_rfl⟩
instance ifa187_0 : FaOk Q 187 0 0 := ⟨fun b o s => by kernel_rfl⟩
instance ifa187_3 : FaOk Q 187 3 3 := ⟨fun b o s => by kernel_rfl⟩
instance ist185 : StOk Q 185 1 := ⟨fun b o s v G => by kernel_rfl⟩
instance ild185 : LdOk Q 185 := ⟨fun b o s G => (show _ = loadOne b o G by kernel_rfl).trans (loadOne_eq b o G)⟩
instance iep184 : EpOk Q 184 := ⟨fun neg x y => by cases neg <;> kernel_rfl, fun neg x y a => by cases neg <;> kernel_rfl, fun neg x y a => by cases neg <;> kernel_rfl⟩
instance ifa384_7 : FaOk Q 384 7 22 := ⟨fun b o s => by kernel_rfl⟩
instance ifa381_1 : FaOk Q 381 1 1 := ⟨fun b o s => by kernel_rfl⟩
instance ifa381_2 : FaOk Q 381 2 2 := ⟨fun b o s => by kernel_rfl⟩
instance ifa384_6 : FaOk Q 384 6 21 := ⟨fun b o s => by kernel_rfl⟩
instance ifa384_4 : FaOk Q 384 4 19 := ⟨fun b o s => by kernel_rfl⟩
instance ifa384_1 : FaOk Q 384 1 13 := ⟨fun b o s => by kernel_rfl⟩
noncomputable abbrev z419 : List Value := [.nilFunc, (.bool false), (.int .i64 0), (.int .i64 0), (.int .i64 0), (.int .i64 0), (.int .i64 0), (.int .i64 0), (.int .i64 0), (.int .i64 0), (.int .i64 0), (.int .i64 0), (.int .i64 0), (.int .i64 0), (.pointer none)]
instance ibd419_0_1_2 : BdOk Q 419 z419 [(0, 0, 3), (1, 3, 10), (2, 13, 1)] := bd_ok Q (by kernel_rfl) (by kernel_rfl) (by kernel_rfl)
instance ifa419_0 : FaOk Q 419 0 0 := ⟨fun b o s => by kernel_rfl⟩
instance iep185 : EpOk Q 185 := ⟨fun neg x y => by cases neg <;> kernel_rfl, fun neg x y a => by cases neg <;> kernel_rfl, fun neg x y a => by cases neg <;> kernel_rfl⟩
instance ifa419_1 : FaOk Q 419 1 3 := ⟨fun b o s => by kernel_rfl⟩
instance icv38_248 : CvOk Q 38 248 .u64 .i64 := ⟨fun n => by kernel_rfl⟩
instance ifa419_2 : FaOk Q 419 2 13 := ⟨fun b o s => by kernel_rfl⟩
instance ifa419_3 : FaOk Q 419 3 14 := ⟨fun b o s => by kernel_rfl⟩
instance ist391 : StOk Q 391 1 := ⟨fun b o s v G => by kernel_rfl⟩
instance ild343 : LdOk Q 343 := ⟨fun b o s G => (show _ = loadOne b o G by kernel_rfl).trans (loadOne_eq b o G)⟩
instance ief343 : EfOk Q 343 := ⟨fun neg x y => by cases neg <;> kernel_rfl, fun neg x y f a b => by cases neg <;> kernel_rfl⟩
instance ifa164_4 : FaOk Q 164 4 4 := ⟨fun b o s => by kernel_rfl⟩
instance ifa164_0 : FaOk Q 164 0 0 := ⟨fun b o s => by kernel_rfl⟩
instance ild160 : LdOk Q 160 := ⟨fun b o s G => (show _ = loadOne b o G by kernel_rfl).trans (loadOne_eq b o G)⟩
instance ifa164_3 : FaOk Q 164 3 3 := ⟨fun b o s => by kernel_rfl⟩
instance ist158 : StOk Q 158 1 := ⟨fun b o s v G => by kernel_rfl⟩
instance ild158 : LdOk Q 158 := ⟨fun b o s G => (show _ = loadOne b o G by kernel_rfl).trans (loadOne_eq b o G)⟩
instance iifc158 : IfcOk Q 158 := ⟨fun v => by kernel_rfl⟩
instance ifa164_1 : FaOk Q 164 1 1 := ⟨fun b o s => by kernel_rfl⟩
instance ild162 : LdOk Q 162 := ⟨fun b o s G => (show _ = loadOne b o G by kernel_rfl).trans (loadOne_eq b o G)⟩
instance ief162 : EfOk Q 162 := ⟨fun neg x y => by cases neg <;> kernel_rfl, fun neg x y f a b => by cases neg <;> kernel_rfl⟩
instance ifa164_2 : FaOk Q 164 2 2 := ⟨fun b o s => by kernel_rfl⟩
instance ild161 : LdOk Q 161 := ⟨fun b o s G => (show _ = loadOne b o G by kernel_rfl).trans (loadOne_eq b o G)⟩
instance ief161 : EfOk Q 161 := ⟨fun neg x y => by cases neg <;> kernel_rfl, fun neg x y f a b => by cases neg <;> kernel_rfl⟩
instance ifa172_4 : FaOk Q 172 4 4 := ⟨fun b o s => by kernel_rfl⟩
instance ifa172_0 : FaOk Q 172 0 0 := ⟨fun b o s => by kernel_rfl⟩
instance ild168 : LdOk Q 168 := ⟨fun b o s G => (show _ = loadOne b o G by kernel_rfl).trans (loadOne_eq b o G)⟩
instance ifa172_3 : FaOk Q 172 3 3 := ⟨fun b o s => by kernel_rfl⟩
instance ist166 : StOk Q 166 1 := ⟨fun b o s v G => by kernel_rfl⟩
instance ild166 : LdOk Q 166 := ⟨fun b o s G => (show _ = loadOne b o G by kernel_rfl).trans (loadOne_eq b o G)⟩
instance iifc166 : IfcOk Q 166 := ⟨fun v => by kernel_rfl⟩
instance ifa172_1 : FaOk Q 172 1 1 := ⟨fun b o s => by kernel_rfl⟩
instance ild170 : LdOk Q 170 := ⟨fun b o s G => (show _ = loadOne b o G by kernel_rfl).trans (loadOne_eq b o G)⟩
instance ief170 : EfOk Q 170 := ⟨fun neg x y => by cases neg <;> kernel_rfl, fun neg x y f a b => by cases neg <;> kernel_rfl⟩
instance ifa172_2 : FaOk Q 172 2 2 := ⟨fun b o s => by kernel_rfl⟩
instance ild169 : LdOk Q 169 := ⟨fun b o s G => (show _ = loadOne b o G by kernel_rfl).trans (loadOne_eq b o G)⟩
instance ief169 : EfOk Q 169 := ⟨fun neg x y => by cases neg <;> kernel_rfl, fun neg x y f a b => by cases neg <;> kernel_rfl⟩
instance ifa201_4 : FaOk Q 201 4 4 := ⟨fun b o s => by kernel_rfl⟩
instance ifa201_0 : FaOk Q 201 0 0 := ⟨fun b o s => by kernel_rfl⟩
instance ild197 : LdOk Q 197 := ⟨fun b o s G => (show _ = loadOne b o G by kernel_rfl).trans (loadOne_eq b o G)⟩
instance ifa201_3 : FaOk Q 201 3 3 := ⟨fun b o s => by kernel_rfl⟩
instance ist195 : StOk Q 195 1 := ⟨fun b o s v G => by kernel_rfl⟩
instance ild195 : LdOk Q 195 := ⟨fun b o s G => (show _ = loadOne b o G by kernel_rfl).trans (loadOne_eq b o G)⟩
instance iifc195 : IfcOk Q 195 := ⟨fun v => by kernel_rfl⟩
instance ifa201_1 : FaOk Q 201 1 1 := ⟨fun b o s => by kernel_rfl⟩
instance ild198 : LdOk Q 198 := ⟨fun b o s G => (show _ = loadOne b o G by kernel_rfl).trans (loadOne_eq b o G)⟩
instance ief198 : EfOk Q 198 := ⟨fun neg x y => by cases neg <;> kernel_rfl, fun neg x y f a b => by cases neg <;> kernel_rfl⟩
instance ifa201_2 : FaOk Q 201 2 2 := ⟨fun b o s => by kernel_rfl⟩
instance ild199 : LdOk Q 199 := ⟨fun b o s G => (show _ = loadOne b o G by kernel_rfl).trans (loadOne_eq b o G)⟩
instance ief199 : EfOk Q 199 := ⟨fun neg x y => by cases neg <;> kernel_rfl, fun neg x y f a b => by cases neg <;> kernel_rfl⟩
instance iep195 : EpOk Q 195 := ⟨fun neg x y => by cases neg <;> kernel_rfl, fun neg x y a => by cases neg <;> kernel_rfl, fun neg x y a => by cases neg <;> kernel_rfl⟩
instance ifa220_4 : FaOk Q 220 4 4 := ⟨fun b o s => by kernel_rfl⟩
instance ifa220_0 : FaOk Q 220 0 0 := ⟨fun b o s => by kernel_rfl⟩
instance ild216 : LdOk Q 216 := ⟨fun b o s G => (show _ = loadOne b o G by kernel_rfl).trans (loadOne_eq b o G)⟩
instance ifa220_3 : FaOk Q 220 3 3 := ⟨fun b o s => by kernel_rfl⟩
instance ist214 : StOk Q 214 1 := ⟨fun b o s v G => by kernel_rfl⟩
instance ild214 : LdOk Q 214 := ⟨fun b o s G => (show _ = loadOne b o G by kernel_rfl).trans (loadOne_eq b o G)⟩
instance iifc214 : IfcOk Q 214 := ⟨fun v => by kernel_rfl⟩
instance ifa220_1 : FaOk Q 220 1 1 := ⟨fun b o s => by kernel_rfl⟩
instance ild217 : LdOk Q 217 := ⟨fun b o s G => (show _ = loadOne b o G by kernel_rfl).trans (loadOne_eq b o G)⟩
instance ief217 : EfOk Q 217 := ⟨fun neg x y => by cases neg <;> kernel_rfl, fun neg x y f a b => by cases neg <;> kernel_rfl⟩
instance ifa220_2 : FaOk Q 220 2 2 := ⟨fun b o s => by kernel_rfl⟩
instance ild218 : LdOk Q 218 := ⟨fun b o s G => (show _ = loadOne b o G by kernel_rfl).trans (loadOne_eq b o G)⟩
instance ief218 : EfOk Q 218 := ⟨fun neg x y => by cases neg <;> kernel_rfl, fun neg x y f a b => by cases neg <;> kernel_rfl⟩
instance ifa280_0 : FaOk Q 280 0 0 := ⟨fun b o s => by kernel_rfl⟩
instance ifa280_3 : FaOk Q 280 3 14 := ⟨fun b o s => by kernel_rfl⟩
instance ifa280_4 : FaOk Q 280 4 15 := ⟨fun b o s => by kernel_rfl⟩
instance ifa280_5 : FaOk Q 280 5 16 := ⟨fun b o s => by kernel_rfl⟩
instance ifa297_4 : FaOk Q 297 4 4 := ⟨fun b o s => by kernel_rfl⟩
instance ifa297_0 : FaOk Q 297 0 0 := ⟨fun b o s => by kernel_rfl⟩
instance ild293 : LdOk Q 293 := ⟨fun b o s G => (show _ = loadOne b o G by kernel_rfl).trans (loadOne_eq b o G)⟩
instance ifa297_3 : FaOk Q 297 3 3 := ⟨fun b o s => by kernel_rfl⟩
instance ist291 : StOk Q 291 1 := ⟨fun b o s v G => by kernel_rfl⟩
instance ild291 : LdOk Q 291 := ⟨fun b o s G => (show _ = loadOne b o G by kernel_rfl).trans (loadOne_eq b o G)⟩
instance iifc291 : IfcOk Q 291 := ⟨fun v => by kernel_rfl⟩
instance ifa297_1 : FaOk Q 297 1 1 := ⟨fun b o s => by kernel_rfl⟩
instance ild294 : LdOk Q 294 := ⟨fun b o s G => (show _ = loadOne b o G by kernel_rfl).trans (loadOne_eq b o G)⟩
instance ief294 : EfOk Q 294 := ⟨fun neg x y => by cases neg <;> kernel_rfl, fun neg x y f a b => by cases neg <;> kernel_rfl⟩
instance ifa297_2 : FaOk Q 297 2 2 := ⟨fun b o s => by kernel_rfl⟩
instance ild295 : LdOk Q 295 := ⟨fun b o s G => (show _ = loadOne b o G by kernel_rfl).trans (loadOne_eq b o G)⟩
instance ief295 : EfOk Q 295 := ⟨fun neg x y => by cases neg <;> kernel_rfl, fun neg x y f a b => by cases neg <;> kernel_rfl⟩
instance ilda333 : LdAOk Q 333 4 := ⟨fun b o s G => by kernel_rfl⟩
instance iix333 : IxOk Q 333 4 := ⟨fun l k j => by kernel_rfl⟩
instance ifa335_0 : FaOk Q 335 0 0 := ⟨fun b o s => by kernel_rfl⟩
instance ifa305_4 : FaOk Q 305 4 4 := ⟨fun b o s => by kernel_rfl⟩
instance ifa305_0 : FaOk Q 305 0 0 := ⟨fun b o s => by kernel_rfl⟩
instance ild301 : LdOk Q 301 := ⟨fun b o s G => (show _ = loadOne b o G by kernel_rfl).trans (loadOne_eq b o G)⟩
instance ifa305_3 : FaOk Q 305 3 3 := ⟨fun b o s => by kernel_rfl⟩
instance ist299 : StOk Q 299 1 := ⟨fun b o s v G => by kernel_rfl⟩
instance ild299 : LdOk Q 299 := ⟨fun b o s G => (show _ = loadOne b o G by kernel_rfl).trans (loadOne_eq b o G)⟩
instance iifc299 : IfcOk Q 299 := ⟨fun v => by kernel_rfl⟩
instance ifa305_1 : FaOk Q 305 1 1 := ⟨fun b o s => by kernel_rfl⟩
instance ild302 : LdOk Q 302 := ⟨fun b o s G => (show _ = loadOne b o G by kernel_rfl).trans (loadOne_eq b o G)⟩
instance ief302 : EfOk Q 302 := ⟨fun neg x y => by cases neg <;> kernel_rfl, fun neg x y f a b => by cases neg <;> kernel_rfl⟩
instance ifa305_2 : FaOk Q 305 2 2 := ⟨fun b o s => by kernel_rfl⟩
instance ild303 : LdOk Q 303 := ⟨fun b o s G => (show _ = loadOne b o G by kernel_rfl).trans (loadOne_eq b o G)⟩
instance ief303 : EfOk Q 303 := ⟨fun neg x y => by cases neg <;> kernel_rfl, fun neg x y f a b => by cases neg <;> kernel_rfl⟩
instance ild338 : LdOk Q 338 := ⟨fun b o s G => (show _ = loadOne b o G by kernel_rfl).trans (loadOne_eq b o G)⟩
noncomputable abbrev z423 : List Value := [.nilFunc, .nilFunc, .nilFunc, .nilFunc, .nilFunc, .nilFunc, .nilFunc, .nilFunc, .nilFunc, .nilFunc, .nilFunc, .nilFunc, .nilFunc]
instance ial423 : AlOk Q 423 z423 := ⟨fun G => by kernel_rfl⟩
instance ist423 : StOk Q 423 13 := ⟨fun b o s v G => by kernel_rfl⟩
instance iiaa423 : IaaOk Q 423 13 1 := ⟨fun b o s k j => by kernel_rfl⟩
instance ild422 : LdOk Q 422 := ⟨fun b o s G => (show _ = loadOne b o G by kernel_rfl).trans (loadOne_eq b o G)⟩
instance ibd423_1_2_3_4_5_6_7_8_9_10_11_12 : BdOk Q 423 z423 [(1, 1, 1), (2, 2, 1), (3, 3, 1), (4, 4, 1), (5, 5, 1), (6, 6, 1), (7, 7, 1), (8, 8, 1), (9, 9, 1), (10, 10, 1), (11, 11, 1), (12, 12, 1)] := bd_ok Q (by kernel_rfl) (by kernel_rfl) (by kernel_rfl)
instance ilda423 : LdAOk Q 423 13 := ⟨fun b o s G => by kernel_rfl⟩
instance ifa340_8 : FaOk Q 340 8 20 := ⟨fun b o s => by kernel_rfl⟩
instance ifa340_3 : FaOk Q 340 3 15 := ⟨fun b o s => by kernel_rfl⟩
instance ifa340_6 : FaOk Q 340 6 18 := ⟨fun b o s => by kernel_rfl⟩
instance ifa340_2 : FaOk Q 340 2 14 := ⟨fun b o s => by kernel_rfl⟩
instance ifa340_9 : FaOk Q 340 9 21 := ⟨fun b o s => by kernel_rfl⟩
instance ifa340_11 : FaOk Q 340 11 23 := ⟨fun b o s => by kernel_rfl⟩
instance iln382 : LnOk Q 382 := ⟨fun a n c => by kernel_rfl⟩
instance ibs139_1_0 : BsOk Q 139 1 (rep z3 1) 1 [(0, 0, 1)] := bs_ok Q (z0 := z3) (by kernel_rfl) rfl (by decide) (by kernel_rfl)
instance iap139_139 : ApOk Q 139 139 1 8 := ⟨fun s x G => by kernel_rfl⟩
instance ifa313_4 : FaOk Q 313 4 4 := ⟨fun b o s => by kernel_rfl⟩
instance ifa313_0 : FaOk Q 313 0 0 := ⟨fun b o s => by kernel_rfl⟩
instance ild310 : LdOk Q 310 := ⟨fun b o s G => (show _ = loadOne b o G by kernel_rfl).trans (loadOne_eq b o G)⟩
instance ifa313_3 : FaOk Q 313 3 3 := ⟨fun b o s => by kernel_rfl⟩
instance ist308 : StOk Q 308 1 := ⟨fun b o s v G => by kernel_rfl⟩
instance ild308 : LdOk Q 308 := ⟨fun b o s G => (show _ = loadOne b o G by kernel_rfl).trans (loadOne_eq b o G)⟩
instance iifc308 : IfcOk Q 308 := ⟨fun v => by kernel_rfl⟩
instance ifa313_1 : FaOk Q 313 1 1 := ⟨fun b o s => by kernel_rfl⟩
instance ild311 : LdOk Q 311 := ⟨fun b o s G => (show _ = loadOne b o G by kernel_rfl).trans (loadOne_eq b o G)⟩
instance ief311 : EfOk Q 311 := ⟨fun neg x y => by cases neg <;> kernel_rfl, fun neg x y f a b => by cases neg <;> kernel_rfl⟩
instance ifa313_2 : FaOk Q 313 2 2 := ⟨fun b o s => by kernel_rfl⟩
instance ild306 : LdOk Q 306 := ⟨fun b o s G => (show _ = loadOne b o G by kernel_rfl).trans (loadOne_eq b o G)⟩
instance ief306 : EfOk Q 306 := ⟨fun neg x y => by cases neg <;> kernel_rfl, fun neg x y f a b => by cases neg <;> kernel_rfl⟩
instance iep308 : EpOk Q 308 := ⟨fun neg x y => by cases neg <;> kernel_rfl, fun neg x y a => by cases neg <;> kernel_rfl, fun neg x y a => by cases neg <;> kernel_rfl⟩
noncomputable def b3_0 (q : Bool) (e : Ex) (lp : Env → GS → Option (Exit × Env × GS)) (τ : Env) (G : GS) : Option (Exit × Env × GS) :=
  bV q (τ 3) fun a3_ =>
  bV q (τ 5) fun a5_ =>
  bV q (τ 6) fun a6_ =>
  bV q (τ 7) fun a7_ =>
  bV q (τ 8) fun a8_ =>
  bV q (τ 9) fun a9_ =>
  bP (bn Q q .lss 3 (.tmp 39) (.const (.int .i64 2)) a9_ (.int .i64 2)) fun x0 =>
  ifV x0 (
  bP (ias Q q 51 1 a6_ a9_) fun x1 =>
  bP (ld Q q 44 x1 G) fun x2 =>
  bS (e.ev.cl 7 [x2] G) fun x3 G4 =>
  bP (pExtract x3 0) fun x5 =>
  bP (pExtract x3 1) fun x6 =>
  bS (al Q q 46 z46 G4) fun x7 G8 =>
  bP (st Q q 46 2 x7 x5 G8) fun G9 =>
  bP (ias Q q 54 1 a7_ a9_) fun x10 =>
  bP (ld Q q 52 x10 G9) fun x11 =>
  bS (e.ev.cl 8 [x11] G9) fun x12 G13 =>
  bP (pExtract x12 0) fun x14 =>
  bP (pExtract x12 1) fun x15 =>
  bS (al Q q 46 z46 G13) fun x16 G17 =>
  bP (st Q q 46 2 x16 x14 G17) fun G18 =>
  bP (ias Q q 58 1 a8_ a9_) fun x19 =>
  bP (ld Q q 55 x19 G18) fun x20 =>
  bS (e.ev.cl 9 [x20] G18) fun x21 G22 =>
  bP (pExtract x21 0) fun x23 =>
  bP (pExtract x21 1) fun x24 =>
  bP (ias Q q 43 1 a5_ a9_) fun x25 =>
  bP (ld Q q 26 x25 G22) fun x26 =>
  bS (e.ev.cl 10 [x26, a3_] G22) fun x27 G28 =>
  bP (un Q q .not x27) fun x29 =>
  bS (gd x29 false (some (a6_, G28)) G28) fun x30 G31 =>
  bS (gd x29 false (some (a9_, G31)) G31) fun x32 G33 =>
  bS (gd x29 false (bP (ias Q q 51 1 x30 x32) fun y => some (y, G33)) G33) fun x34 G35 =>
  bS (gd x29 false (bP (ld Q q 44 x34 G35) fun y => some (y, G35)) G35) fun x36 G37 =>
  bS (gd x29 false (some (a3_, G37)) G37) fun x38 G39 =>
  bS (gd x29 false (bS (e.ev.cl 11 [x36, x38] G39) fun y G => some (y, G)) G39) fun x40 G41 =>
  bS (gd x29 false (bP (un Q q .not x40) fun y => some (y, G41)) G41) fun x42 G43 =>
  bP (pickV x29 (.bool true) x42) fun x44 =>
  bS (gd x44 false (some (a7_, G43)) G43) fun x45 G46 =>
  bS (gd x44 false (some (a9_, G46)) G46) fun x47 G48 =>
  bS (gd x44 false (bP (ias Q q 54 1 x45 x47) fun y => some (y, G48)) G48) fun x49 G50 =>
  bS (gd x44 false (bP (ld Q q 52 x49 G50) fun y => some (y, G50)) G50) fun x51 G52 =>
  bS (gd x44 false (some (a3_, G52)) G52) fun x53 G54 =>
  bS (gd x44 false (bS (e.ev.cl 12 [x51, x53] G54) fun y G => some (y, G)) G54) fun x55 G56 =>
  bS (gd x44 false (bP (un Q q .not x55) fun y => some (y, G56)) G56) fun x57 G58 =>
  bP (pickV x44 (.bool true) x57) fun x59 =>
  bS (gd x59 false (some (a8_, G58)) G58) fun x60 G61 =>
  bS (gd x59 false (some (a9_, G61)) G61) fun x62 G63 =>
  bS (gd x59 false (bP (ias Q q 58 1 x60 x62) fun y => some (y, G63)) G63) fun x64 G65 =>
  bS (gd x59 false (bP (ld Q q 55 x64 G65) fun y => some (y, G65)) G65) fun x66 G67 =>
  bS (gd x59 false (some (a3_, G67)) G67) fun x68 G69 =>
  bS (gd x59 false (bS (e.ev.cl 13 [x66, x68] G69) fun y G => some (y, G)) G69) fun x70 G71 =>
  bS (gd x59 false (bP (un Q q .not x70) fun y => some (y, G71)) G71) fun x72 G73 =>
  bP (pickV x59 (.bool true) x72) fun x74 =>
  bS (gd x74 false (some (a5_, G73)) G73) fun x75 G76 =>
  bS (gd x74 false (some (a9_, G76)) G76) fun x77 G78 =>
  bS (gd x74 false (bP (ias Q q 43 1 x75 x77) fun y => some (y, G78)) G78) fun x79 G80 =>
  bS (gd x74 false (bP (ld Q q 26 x79 G80) fun y => some (y, G80)) G80) fun x81 G82 =>
  bS (gd x74 false (bS (e.ev.cl 14 [x81] G82) fun y G => some (y, G)) G82) fun x83 G84 =>
  bS (gd x74 false (bP (bn Q q .neq 23 (.tmp 106) (.const (.int .i64 1)) x83 (.int .i64 1)) fun y => some (y, G84)) G84) fun x85 G86 =>
  bP (pickV x74 (.bool true) x85) fun x87 =>
  bS (gd x87 false (some (x6, G86)) G86) fun x88 G89 =>
  bS (gd x87 false (bP (bn Q q .neq 23 (.tmp 110) (.const (.int .i64 1)) x88 (.int .i64 1)) fun y => some (y, G89)) G89) fun x90 G91 =>
  bP (pickV x87 (.bool true) x90) fun x92 =>
  bS (gd x92 false (some (x15, G91)) G91) fun x93 G94 =>
  bS (gd x92 false (bP (bn Q q .neq 23 (.tmp 114) (.const (.int .i64 1)) x93 (.int .i64 1)) fun y => some (y, G94)) G94) fun x95 G96 =>
  bP (pickV x92 (.bool true) x95) fun x97 =>
  bS (gd x97 false (some (x24, G96)) G96) fun x98 G99 =>
  bS (gd x97 false (bP (bn Q q .neq 23 (.tmp 118) (.const (.int .i64 1)) x98 (.int .i64 1)) fun y => some (y, G99)) G99) fun x100 G101 =>
  bP (pickV x97 (.bool true) x100) fun x102 =>
  bS (gd x102 false (bP (lda Q q 46 2 x7 G101) fun y => some (y, G101)) G101) fun x103 G104 =>
  bS (gd x102 false (bP (bd Q q 46 z46 [] []) fun y => some (y, G104)) G104) fun x105 G106 =>
  bS (gd x102 false (bP (bn Q q .neq 46 (.tmp 122) (.tmp 123) x103 x105) fun y => some (y, G106)) G106) fun x107 G108 =>
  bP (pickV x102 (.bool true) x107) fun x109 =>
  bS (gd x109 false (bP (lda Q q 46 2 x16 G108) fun y => some (y, G108)) G108) fun x110 G111 =>
  bS (gd x109 false (bP (bd Q q 46 z46 [] []) fun y => some (y, G111)) G111) fun x112 G113 =>
  bS (gd x109 false (bP (bn Q q .neq 46 (.tmp 127) (.tmp 128) x110 x112) fun y => some (y, G113)) G113) fun x114 G115 =>
  bP (pickV x109 (.bool true) x114) fun x116 =>
  bS (gd x116 false (some (x23, G115)) G115) fun x117 G118 =>
  bS (gd x116 false (bP (bn Q q .neq 3 (.tmp 132) (.const (.int .i64 0)) x117 (.int .i64 0)) fun y => some (y, G118)) G118) fun x119 G120 =>
  bP (pickV x116 (.bool true) x119) fun x121 =>
  ifV x121 (
  some (.ret, clq q 156 (tu τ [(3, a3_), (5, a5_), (6, a6_), (7, a7_), (8, a8_), (9, a9_), (2, (.bool false)), (10, x7), (11, x6), (12, x16), (13, x15), (14, x23), (15, x24), (39, a9_), (40, x0), (43, x3), (44, a6_), (45, a9_), (46, x1), (47, x2), (48, x3), (49, x5), (50, x6), (51, x12), (52, a7_), (53, a9_), (54, x10), (55, x11), (56, x12), (57, x14), (58, x15), (59, x21), (60, a8_), (61, a9_), (62, x19), (63, x20), (64, x21), (65, x23), (66, x24), (67, a5_), (68, a9_), (69, x25), (70, x26), (71, a3_), (72, x27), (73, x29), (74, x29), (75, x30), (76, x32), (77, x34), (78, x36), (79, x38), (80, x40), (81, x42), (82, x44), (83, x44), (84, x45), (85, x47), (86, x49), (87, x51), (88, x53), (89, x55), (90, x57), (91, x59), (92, x59), (93, x60), (94, x62), (95, x64), (96, x66), (97, x68), (98, x70), (99, x72), (100, x74), (101, x74), (102, x75), (103, x77), (104, x79), (105, x81), (106, x83), (107, x85), (108, x87), (109, x87), (110, x88), (111, x90), (112, x92), (113, x92), (114, x93), (115, x95), (116, x97), (117, x97), (118, x98), (119, x100), (120, x102), (121, x102), (122, x103), (123, x105), (124, x107), (125, x109), (126, x109), (127, x110), (128, x112), (129, x114), (130, x116), (131, x116), (132, x117), (133, x119), (134, x121)]), G120)) (
  bP (bn Q q .add 3 (.tmp 41) (.const (.int .i64 1)) a9_ (.int .i64 1)) fun x122 =>
  lp (tu τ [(3, a3_), (5, a5_), (6, a6_), (7, a7_), (8, a8_), (9, x122), (10, x7), (11, x6), (12, x16), (13, x15), (14, x23), (15, x24), (39, a9_), (40, x0), (41, a9_), (42, x122), (43, x3), (44, a6_), (45, a9_), (46, x1), (47, x2), (48, x3), (49, x5), (50, x6), (51, x12), (52, a7_), (53, a9_), (54, x10), (55, x11), (56, x12), (57, x14), (58, x15), (59, x21), (60, a8_), (61, a9_), (62, x19), (63, x20), (64, x21), (65, x23), (66, x24), (67, a5_), (68, a9_), (69, x25), (70, x26), (71, a3_), (72, x27), (73, x29), (74, x29), (75, x30), (76, x32), (77, x34), (78, x36), (79, x38), (80, x40), (81, x42), (82, x44), (83, x44), (84, x45), (85, x47), (86, x49), (87, x51), (88, x53), (89, x55), (90, x57), (91, x59), (92, x59), (93, x60), (94, x62), (95, x64), (96, x66), (97, x68), (98, x70), (99, x72), (100, x74), (101, x74), (102, x75), (103, x77), (104, x79), (105, x81), (106, x83), (107, x85), (108, x87), (109, x87), (110, x88), (111, x90), (112, x92), (113, x92), (114, x93), (115, x95), (116, x97), (117, x97), (118, x98), (119, x100), (120, x102), (121, x102), (122, x103), (123, x105), (124, x107), (125, x109), (126, x109), (127, x110), (128, x112), (129, x114), (130, x116), (131, x116), (132, x117), (133, x119), (134, x121)]) G120)) (
  some ((.exit 0), clq q 156 (tu τ [(3, a3_), (5, a5_), (6, a6_), (7, a7_), (8, a8_), (9, a9_), (39, a9_), (40, x0)]), G))
theorem mb3_0 {e : Ex} {E : Ev} (h : ExLe Q e E) {lp lp' : Env → GS → Option (Exit × Env × GS)} (hlp : LpLe lp lp') (τ : Env) (G : GS) : Ref (b3_0 true e lp τ G) (b3_0 false (Ex.of E) lp' τ G) := by
  unfold b3_0
  exact Ref.go
set_option maxHeartbeats 8000000 in
theorem l3_0 {orc : FuncId → Bool} {e : Ex} (h : ExLe Q e (E orc)) (lp : Env → GS → Option (Exit × Env × GS)) (hlp : ∀ τ G, Ref (lp τ G) (mapE ((E orc).lp (subAt [1, 1, 1, 1, 1, 0, 1, 0, 0] (bodyOf Tryz.f3)) (lst 156 τ) G))) (T : List Value) (G : GS) (hT : T.length = 156) : Ref (b3_0 true e lp (nth undef T) G) (mapE ((E orc).lp (subAt [1, 1, 1, 1, 1, 0, 1, 0, 0] (bodyOf Tryz.f3)) T G)) :=
  fun r hr => lp_sxM Q orc G hT (by kernel_rfl) (mb3_0 h ⟨hlp⟩ _ _ r hr)
/-- coxswain/coxswainlaw19.ReadyNone -/
noncomputable def s3 (q : Bool) (e : Ex) (v0 : Value) (G : GS) : Option (Value × GS) :=
  bS (e.ev.cl 6 [(.int .i64 34)] G) fun x0 G1 =>
  bP (pExtract x0 0) fun x2 =>
  bP (pExtract x0 1) fun x3 =>
  bP (bn Q q .neq 23 (.tmp 21) (.const (.int .i64 0)) x3 (.int .i64 0)) fun x4 =>
  bS (gd x4 false (some (x2, G1)) G1) fun x5 G6 =>
  bS (gd x4 false (bP (ep Q q false 22 (.tmp 24) (.const (.pointer none)) x5 (.pointer none)) fun y => some (y, G6)) G6) fun x7 G8 =>
  bP (pickV x4 (.bool true) x7) fun x9 =>
  ifV x9 (
  some ((.bool false), G8)) (
  bP (bd Q q 42 z42 [] []) fun x10 =>
  bS (bx q x10 G8) fun x11 G12 =>
  bS (bs Q q 43 2 (rep z26 2) 1 [(0, 0, 1), (1, 1, 1)] [(.pointer none), x11] G12) fun x13 G14 =>
  bP (bd Q q 50 z50 [] []) fun x15 =>
  bS (bx q x15 G14) fun x16 G17 =>
  bS (bs Q q 51 2 (rep z44 2) 1 [(0, 0, 1), (1, 1, 1)] [(.pointer none), x16] G17) fun x18 G19 =>
  bP (bd Q q 53 z53 [] []) fun x20 =>
  bS (bx q x20 G19) fun x21 G22 =>
  bS (bs Q q 54 2 (rep z52 2) 1 [(0, 0, 1), (1, 1, 1)] [(.pointer none), x21] G22) fun x23 G24 =>
  bP (bd Q q 57 z57 [] []) fun x25 =>
  bS (bx q x25 G24) fun x26 G27 =>
  bS (bs Q q 58 2 (rep z55 2) 1 [(0, 0, 1), (1, 1, 1)] [(.pointer none), x26] G27) fun x28 G29 =>
  bL q e 3 0 (subAt [1, 1, 1, 1, 1, 0, 1, 0, 0] (bodyOf Tryz.f3)) 156 (tu (nth undef [v0]) [(2, (.bool false)), (3, x2), (4, x3), (5, x13), (6, x18), (7, x23), (8, x28), (9, (.int .i64 0)), (17, x0), (18, x0), (19, x2), (20, x3), (21, x3), (22, x4), (23, x4), (24, x5), (25, x7), (26, x9), (27, x10), (28, x11), (29, x13), (30, x15), (31, x16), (32, x18), (33, x20), (34, x21), (35, x23), (36, x25), (37, x26), (38, x28)]) G29 fun e30 t31 G32 =>
  bV q (t31 0) fun t31x0_ =>
  bV q (t31 2) fun t31x2_ =>
  bV q (t31 3) fun t31x3_ =>
  ifE e30 (.exit 0) (
  bS (e.ev.cl 16 [] G32) fun x33 G34 =>
  bS (e.ev.cl 17 [t31x0_, (.int .i64 9)] G34) fun x35 G36 =>
  bP (bn Q q .add 3 (.const (.int .i64 2)) (.tmp 137) (.int .i64 2) x35) fun x37 =>
  bS (e.ev.cl 15 [x33, x37, (.int .u64 1), (.int .i64 1), (.int .i64 1)] G36) fun x38 G39 =>
  bS (e.ev.cl 10 [x38, t31x3_] G39) fun x40 G41 =>
  bS (gd x40 true (some (x38, G41)) G41) fun x42 G43 =>
  bS (gd x40 true (bS (e.ev.cl 14 [x42] G43) fun y G => some (y, G)) G43) fun x44 G45 =>
  bS (gd x40 true (bP (bn Q q .eql 23 (.tmp 145) (.const (.int .i64 3)) x44 (.int .i64 3)) fun y => some (y, G45)) G45) fun x46 G47 =>
  bP (pickV x40 x46 (.bool false)) fun x48 =>
  bS (gd x48 true (some (t31x3_, G47)) G47) fun x49 G50 =>
  bS (gd x48 true (bS (e.ev.cl 18 [x49] G50) fun y G => some (y, G)) G50) fun x51 G52 =>
  bS (gd x48 true (bP (bn Q q .eql 3 (.tmp 150) (.const (.int .i64 0)) x51 (.int .i64 0)) fun y => some (y, G52)) G52) fun x53 G54 =>
  bP (pickV x48 x53 (.bool false)) fun x55 =>
  bS (gd x55 true (bS (e.ev.cl 19 [] G54) fun y G => some (y, G)) G54) fun x56 G57 =>
  bP (pickV x55 x56 (.bool false)) fun x58 =>
  some (x58, G57)) (ifE e30 .ret (
  some (t31x2_, G32)) (none)))
theorem m3 {e : Ex} {E : Ev} (h : ExLe Q e E) (v0 : Value) (G : GS) : Ref (s3 true e v0 G) (s3 false (Ex.of E) v0 G) := by
  unfold s3
  exact Ref.go
set_option maxHeartbeats 8000000 in
theorem f3 {orc : FuncId → Bool} {e : Ex} (h : ExLe Q e (E orc)) (v0 : Value) (G : GS) : Ref (s3 true e v0 G) ((E orc).cl 3 [v0] G) :=
  fun r hr => cl_sxE_some Q orc (vs := [v0]) G Tryz.func3 (by kernel_rfl) (by kernel_rfl) (by kernel_rfl) (by kernel_rfl) (by kernel_rfl) (by kernel_rfl) (m3 h v0 G r hr)
/-- coxswain/cells.New -/
noncomputable def s6 (q : Bool) (e : Ex) (v0 : Value) (G : GS) : Option (Value × GS) :=
  bP (bn Q q .lss 3 (.tmp 4) (.const (.int .i64 1)) v0 (.int .i64 1)) fun x0 =>
  bS (gd x0 false (some (v0, G)) G) fun x1 G2 =>
  bS (gd x0 false (bP (bn Q q .gtr 3 (.tmp 7) (.const (.int .i64 4096)) x1 (.int .i64 4096)) fun y => some (y, G2)) G2) fun x3 G4 =>
  bP (pickV x0 (.bool true) x3) fun x5 =>
  ifV x5 (
  some (.tuple #[(.pointer none), (.int .i64 3)], G4)) (
  bS (al Q q 99 z99 G4) fun x6 G7 =>
  bP (bd Q q 103 z103 [(0, 0, 1), (1, 1, 1)] [x6, v0]) fun x8 =>
  bS (bx q x8 G7) fun x9 G10 =>
  some (.tuple #[x9, (.int .i64 0)], G10))
theorem m6 {e : Ex} {E : Ev} (h : ExLe Q e E) (v0 : Value) (G : GS) : Ref (s6 true e v0 G) (s6 false (Ex.of E) v0 G) := by
  unfold s6
  exact Ref.go
theorem f6 {orc : FuncId → Bool} {e : Ex} (h : ExLe Q e (E orc)) (v0 : Value) (G : GS) : Ref (s6 true e v0 G) ((E orc).cl 6 [v0] G) :=
  fun r hr => cl_sxE_some Q orc (vs := [v0]) G Tryz.func6 (by kernel_rfl) (by kernel_rfl) (by kernel_rfl) (by kernel_rfl) (by kernel_rfl) (by kernel_rfl) (m6 h v0 G r hr)
/-- (*coxswain/ready.Pick).Item -/
noncomputable def s7 (q : Bool) (e : Ex) (v0 : Value) (G : GS) : Option (Value × GS) :=
  bS (al Q q 46 z46 G) fun x0 G1 =>
  bP (ep Q q false 44 (.tmp 4) (.const (.pointer none)) v0 (.pointer none)) fun x2 =>
  ifV x2 (
  bP (bd Q q 46 z46 [] []) fun x3 =>
  bP (st Q q 46 2 x0 x3 G1) fun G4 =>
  bP (lda Q q 46 2 x0 G4) fun x5 =>
  some (.tuple #[x5, (.int .i64 1)], G4)) (
  bP (pNil v0) fun x6 =>
  bP (fa Q q 50 1 19 x6) fun x7 =>
  bP (lda Q q 48 3 x7 (G1.room 12)) fun x8 =>
  bP (pNil v0) fun x9 =>
  bP (fa Q q 50 0 0 x9) fun x10 =>
  bS (e.ev.cl 44 [x8, x10] (G1.room 12)) fun x12 G11 =>
  bP (pExtract x12 0) fun x13 =>
  bP (pExtract x12 1) fun x14 =>
  bP (st Q q 46 2 x0 x13 G11) fun G15 =>
  bP (lda Q q 46 2 x0 G15) fun x16 =>
  some (.tuple #[x16, x14], G15))
theorem m7 {e : Ex} {E : Ev} (h : ExLe Q e E) (v0 : Value) (G : GS) : Ref (s7 true e v0 G) (s7 false (Ex.of E) v0 G) := by
  unfold s7
  exact Ref.go
theorem f7 {orc : FuncId → Bool} {e : Ex} (h : ExLe Q e (E orc)) (v0 : Value) (G : GS) : Ref (s7 true e v0 G) ((E orc).cl 7 [v0] G) :=
  fun r hr => cl_sxE_some Q orc (vs := [v0]) G Tryz.func7 (by kernel_rfl) (by kernel_rfl) (by kernel_rfl) (by kernel_rfl) (by kernel_rfl) (by kernel_rfl) (m7 h v0 G r hr)
/-- (*coxswain/ready.Look).Item -/
noncomputable def s8 (q : Bool) (e : Ex) (v0 : Value) (G : GS) : Option (Value × GS) :=
  bS (al Q q 46 z46 G) fun x0 G1 =>
  bP (ep Q q false 52 (.tmp 4) (.const (.pointer none)) v0 (.pointer none)) fun x2 =>
  ifV x2 (
  bP (bd Q q 46 z46 [] []) fun x3 =>
  bP (st Q q 46 2 x0 x3 G1) fun G4 =>
  bP (lda Q q 46 2 x0 G4) fun x5 =>
  some (.tuple #[x5, (.int .i64 1)], G4)) (
  bP (pNil v0) fun x6 =>
  bP (fa Q q 53 1 19 x6) fun x7 =>
  bP (lda Q q 48 3 x7 (G1.room 12)) fun x8 =>
  bP (pNil v0) fun x9 =>
  bP (fa Q q 53 0 0 x9) fun x10 =>
  bS (e.ev.cl 44 [x8, x10] (G1.room 12)) fun x12 G11 =>
  bP (pExtract x12 0) fun x13 =>
  bP (pExtract x12 1) fun x14 =>
  bP (st Q q 46 2 x0 x13 G11) fun G15 =>
  bP (lda Q q 46 2 x0 G15) fun x16 =>
  some (.tuple #[x16, x14], G15))
theorem m8 {e : Ex} {E : Ev} (h : ExLe Q e E) (v0 : Value) (G : GS) : Ref (s8 true e v0 G) (s8 false (Ex.of E) v0 G) := by
  unfold s8
  exact Ref.go
theorem f8 {orc : FuncId → Bool} {e : Ex} (h : ExLe Q e (E orc)) (v0 : Value) (G : GS) : Ref (s8 true e v0 G) ((E orc).cl 8 [v0] G) :=
  fun r hr => cl_sxE_some Q orc (vs := [v0]) G Tryz.func8 (by kernel_rfl) (by kernel_rfl) (by kernel_rfl) (by kernel_rfl) (by kernel_rfl) (by kernel_rfl) (m8 h v0 G r hr)
/-- (*coxswain/ready.Tidy).Many -/
noncomputable def s9 (q : Bool) (e : Ex) (v0 : Value) (G : GS) : Option (Value × GS) :=
  bP (ep Q q false 55 (.tmp 5) (.const (.pointer none)) v0 (.pointer none)) fun x0 =>
  ifV x0 (
  some (.tuple #[(.int .i64 0), (.int .i64 1)], G)) (
  bP (pNil v0) fun x1 =>
  bP (fa Q q 57 0 0 x1) fun x2 =>
  bS (e.ev.cl 45 [x2] G) fun x3 G4 =>
  bP (bn Q q .neq 23 (.tmp 11) (.const (.int .i64 0)) x3 (.int .i64 0)) fun x5 =>
  ifV x5 (
  some (.tuple #[(.int .i64 0), x3], G4)) (
  bP (pNil v0) fun x6 =>
  bP (fa Q q 57 1 19 x6) fun x7 =>
  bP (ld Q q 3 x7 (G4.room 10)) fun x8 =>
  bP (pNil v0) fun x9 =>
  bP (fa Q q 57 2 20 x9) fun x10 =>
  bP (ld Q q 23 x10 (G4.room 10)) fun x11 =>
  some (.tuple #[x8, x11], (G4.room 10))))
theorem m9 {e : Ex} {E : Ev} (h : ExLe Q e E) (v0 : Value) (G : GS) : Ref (s9 true e v0 G) (s9 false (Ex.of E) v0 G) := by
  unfold s9
  exact Ref.go
theorem f9 {orc : FuncId → Bool} {e : Ex} (h : ExLe Q e (E orc)) (v0 : Value) (G : GS) : Ref (s9 true e v0 G) ((E orc).cl 9 [v0] G) :=
  fun r hr => cl_sxE_some Q orc (vs := [v0]) G Tryz.func9 (by kernel_rfl) (by kernel_rfl) (by kernel_rfl) (by kernel_rfl) (by kernel_rfl) (by kernel_rfl) (m9 h v0 G r hr)
/-- (*coxswain/ready.Put).Step -/
noncomputable def s10 (q : Bool) (e : Ex) (v0 v1 : Value) (G : GS) : Option (Value × GS) :=
  bP (ep Q q false 26 (.tmp 5) (.const (.pointer none)) v0 (.pointer none)) fun x0 =>
  bS (gd x0 false (some (v0, G)) G) fun x1 G2 =>
  bS (gd x0 false (bP (pNil x1) fun y => some (y, G2)) G2) fun x3 G4 =>
  bS (gd x0 false (bP (fa Q q 42 0 0 x3) fun y => some (y, G4)) G4) fun x5 G6 =>
  bS (gd x0 false (some (v1, G6)) G6) fun x7 G8 =>
  bS (gd x0 false (bS (e.ev.cl 46 [x5, x7] G8) fun y G => some (y, G)) G8) fun x9 G10 =>
  bP (pickV x0 (.bool true) x9) fun x11 =>
  some (x11, G10)
theorem m10 {e : Ex} {E : Ev} (h : ExLe Q e E) (v0 v1 : Value) (G : GS) : Ref (s10 true e v0 v1 G) (s10 false (Ex.of E) v0 v1 G) := by
  unfold s10
  exact Ref.go
theorem f10 {orc : FuncId → Bool} {e : Ex} (h : ExLe Q e (E orc)) (v0 v1 : Value) (G : GS) : Ref (s10 true e v0 v1 G) ((E orc).cl 10 [v0, v1] G) :=
  fun r hr => cl_sxE_some Q orc (vs := [v0, v1]) G Tryz.func10 (by kernel_rfl) (by kernel_rfl) (by kernel_rfl) (by kernel_rfl) (by kernel_rfl) (by kernel_rfl) (m10 h v0 v1 G r hr)
/-- (*coxswain/ready.Pick).Step -/
noncomputable def s11 (q : Bool) (e : Ex) (v0 v1 : Value) (G : GS) : Option (Value × GS) :=
  bP (ep Q q false 44 (.tmp 5) (.const (.pointer none)) v0 (.pointer none)) fun x0 =>
  bS (gd x0 false (some (v0, G)) G) fun x1 G2 =>
  bS (gd x0 false (bP (pNil x1) fun y => some (y, G2)) G2) fun x3 G4 =>
  bS (gd x0 false (bP (fa Q q 50 0 0 x3) fun y => some (y, G4)) G4) fun x5 G6 =>
  bS (gd x0 false (some (v1, G6)) G6) fun x7 G8 =>
  bS (gd x0 false (bS (e.ev.cl 46 [x5, x7] G8) fun y G => some (y, G)) G8) fun x9 G10 =>
  bP (pickV x0 (.bool true) x9) fun x11 =>
  some (x11, G10)
theorem m11 {e : Ex} {E : Ev} (h : ExLe Q e E) (v0 v1 : Value) (G : GS) : Ref (s11 true e v0 v1 G) (s11 false (Ex.of E) v0 v1 G) := by
  unfold s11
  exact Ref.go
theorem f11 {orc : FuncId → Bool} {e : Ex} (h : ExLe Q e (E orc)) (v0 v1 : Value) (G : GS) : Ref (s11 true e v0 v1 G) ((E orc).cl 11 [v0, v1] G) :=
  fun r hr => cl_sxE_some Q orc (vs := [v0, v1]) G Tryz.func11 (by kernel_rfl) (by kernel_rfl) (by kernel_rfl) (by kernel_rfl) (by kernel_rfl) (by kernel_rfl) (m11 h v0 v1 G r hr)
/-- (*coxswain/ready.Look).Step -/
noncomputable def s12 (q : Bool) (e : Ex) (v0 v1 : Value) (G : GS) : Option (Value × GS) :=
  bP (ep Q q false 52 (.tmp 5) (.const (.pointer none)) v0 (.pointer none)) fun x0 =>
  bS (gd x0 false (some (v0, G)) G) fun x1 G2 =>
  bS (gd x0 false (bP (pNil x1) fun y => some (y, G2)) G2) fun x3 G4 =>
  bS (gd x0 false (bP (fa Q q 53 0 0 x3) fun y => some (y, G4)) G4) fun x5 G6 =>
  bS (gd x0 false (some (v1, G6)) G6) fun x7 G8 =>
  bS (gd x0 false (bS (e.ev.cl 46 [x5, x7] G8) fun y G => some (y, G)) G8) fun x9 G10 =>
  bP (pickV x0 (.bool true) x9) fun x11 =>
  some (x11, G10)
theorem m12 {e : Ex} {E : Ev} (h : ExLe Q e E) (v0 v1 : Value) (G : GS) : Ref (s12 true e v0 v1 G) (s12 false (Ex.of E) v0 v1 G) := by
  unfold s12
  exact Ref.go
theorem f12 {orc : FuncId → Bool} {e : Ex} (h : ExLe Q e (E orc)) (v0 v1 : Value) (G : GS) : Ref (s12 true e v0 v1 G) ((E orc).cl 12 [v0, v1] G) :=
  fun r hr => cl_sxE_some Q orc (vs := [v0, v1]) G Tryz.func12 (by kernel_rfl) (by kernel_rfl) (by kernel_rfl) (by kernel_rfl) (by kernel_rfl) (by kernel_rfl) (m12 h v0 v1 G r hr)
/-- (*coxswain/ready.Tidy).Step -/
noncomputable def s13 (q : Bool) (e : Ex) (v0 v1 : Value) (G : GS) : Option (Value × GS) :=
  bP (ep Q q false 55 (.tmp 5) (.const (.pointer none)) v0 (.pointer none)) fun x0 =>
  bS (gd x0 false (some (v0, G)) G) fun x1 G2 =>
  bS (gd x0 false (bP (pNil x1) fun y => some (y, G2)) G2) fun x3 G4 =>
  bS (gd x0 false (bP (fa Q q 57 0 0 x3) fun y => some (y, G4)) G4) fun x5 G6 =>
  bS (gd x0 false (some (v1, G6)) G6) fun x7 G8 =>
  bS (gd x0 false (bS (e.ev.cl 46 [x5, x7] G8) fun y G => some (y, G)) G8) fun x9 G10 =>
  bP (pickV x0 (.bool true) x9) fun x11 =>
  some (x11, G10)
theorem m13 {e : Ex} {E : Ev} (h : ExLe Q e E) (v0 v1 : Value) (G : GS) : Ref (s13 true e v0 v1 G) (s13 false (Ex.of E) v0 v1 G) := by
  unfold s13
  exact Ref.go
theorem f13 {orc : FuncId → Bool} {e : Ex} (h : ExLe Q e (E orc)) (v0 v1 : Value) (G : GS) : Ref (s13 true e v0 v1 G) ((E orc).cl 13 [v0, v1] G) :=
  fun r hr => cl_sxE_some Q orc (vs := [v0, v1]) G Tryz.func13 (by kernel_rfl) (by kernel_rfl) (by kernel_rfl) (by kernel_rfl) (by kernel_rfl) (by kernel_rfl) (m13 h v0 v1 G r hr)
/-- (*coxswain/ready.Put).Err -/
noncomputable def s14 (q : Bool) (e : Ex) (v0 : Value) (G : GS) : Option (Value × GS) :=
  bP (ep Q q false 26 (.tmp 3) (.const (.pointer none)) v0 (.pointer none)) fun x0 =>
  ifV x0 (
  some ((.int .i64 1), G)) (
  bP (pNil v0) fun x1 =>
  bP (fa Q q 42 0 0 x1) fun x2 =>
  bS (e.ev.cl 45 [x2] G) fun x3 G4 =>
  some (x3, G4))
theorem m14 {e : Ex} {E : Ev} (h : ExLe Q e E) (v0 : Value) (G : GS) : Ref (s14 true e v0 G) (s14 false (Ex.of E) v0 G) := by
  unfold s14
  exact Ref.go
theorem f14 {orc : FuncId → Bool} {e : Ex} (h : ExLe Q e (E orc)) (v0 : Value) (G : GS) : Ref (s14 true e v0 G) ((E orc).cl 14 [v0] G) :=
  fun r hr => cl_sxE_some Q orc (vs := [v0]) G Tryz.func14 (by kernel_rfl) (by kernel_rfl) (by kernel_rfl) (by kernel_rfl) (by kernel_rfl) (by kernel_rfl) (m14 h v0 G r hr)
/-- coxswain/ready.NewPut -/
noncomputable def s15 (q : Bool) (e : Ex) (v0 v1 v2 v3 v4 : Value) (G : GS) : Option (Value × GS) :=
  bS (bx q v0 G) fun x0 G1 =>
  bP (lda Q q 36 13 x0 G1) fun x2 =>
  bS (e.ev.cl 47 [x2, v1] G1) fun x3 G4 =>
  bP (bd Q q 42 z42 [(0, 0, 19), (1, 19, 1), (2, 20, 1), (3, 21, 1)] [x3, v2, v3, v4]) fun x5 =>
  bS (bx q x5 G4) fun x6 G7 =>
  bP (pNil x6) fun x8 =>
  bP (fa Q q 42 0 0 x8) fun x9 =>
  bP (fa Q q 40 6 18 x9) fun x10 =>
  bP (ld Q q 23 x10 G7) fun x11 =>
  bP (bn Q q .eql 23 (.tmp 24) (.const (.int .i64 0)) x11 (.int .i64 0)) fun x12 =>
  bS (gd x12 true (some (v2, G7)) G7) fun x13 G14 =>
  bS (gd x12 true (bP (bn Q q .eql 38 (.tmp 27) (.const (.int .u64 18446744073709551615)) x13 (.int .u64 18446744073709551615)) fun y => some (y, G14)) G14) fun x15 G16 =>
  bS (gd x12 true (some (x15, G16)) G16) fun x17 G18 =>
  bS (gd x17 false (some (v3, G18)) G18) fun x19 G20 =>
  bS (gd x17 false (bP (bn Q q .lss 3 (.tmp 30) (.const (.int .i64 0)) x19 (.int .i64 0)) fun y => some (y, G20)) G20) fun x21 G22 =>
  bS (gd x12 true (bP (pickV x17 (.bool true) x21) fun y => some (y, G22)) G22) fun x23 G24 =>
  bS (gd x12 true (some (x23, G24)) G24) fun x25 G26 =>
  bS (gd x25 false (some (v3, G26)) G26) fun x27 G28 =>
  bS (gd x25 false (bP (bn Q q .gtr 3 (.tmp 34) (.const (.int .i64 65534)) x27 (.int .i64 65534)) fun y => some (y, G28)) G28) fun x29 G30 =>
  bS (gd x12 true (bP (pickV x25 (.bool true) x29) fun y => some (y, G30)) G30) fun x31 G32 =>
  bS (gd x12 true (some (x31, G32)) G32) fun x33 G34 =>
  bS (gd x33 false (some (v4, G34)) G34) fun x35 G36 =>
  bS (gd x33 false (bP (bn Q q .lss 3 (.tmp 38) (.const (.int .i64 1)) x35 (.int .i64 1)) fun y => some (y, G36)) G36) fun x37 G38 =>
  bS (gd x12 true (bP (pickV x33 (.bool true) x37) fun y => some (y, G38)) G38) fun x39 G40 =>
  bS (gd x12 true (some (x39, G40)) G40) fun x41 G42 =>
  bS (gd x41 false (some (v4, G42)) G42) fun x43 G44 =>
  bS (gd x41 false (bP (fa Q q 36 2 2 x0) fun y => some (y, G44)) G44) fun x45 G46 =>
  bS (gd x41 false (bP (ld Q q 3 x45 G46) fun y => some (y, G46)) G46) fun x47 G48 =>
  bS (gd x41 false (bP (bn Q q .gtr 3 (.tmp 42) (.tmp 44) x43 x47) fun y => some (y, G48)) G48) fun x49 G50 =>
  bS (gd x12 true (bP (pickV x41 (.bool true) x49) fun y => some (y, G50)) G50) fun x51 G52 =>
  bP (pickV x12 x51 (.bool false)) fun x53 =>
  ifV x53 (
  bP (pNil x6) fun x54 =>
  bP (fa Q q 42 0 0 x54) fun x55 =>
  bP (fa Q q 40 6 18 x55) fun x56 =>
  bP (st Q q 23 1 x56 (.int .i64 3) G52) fun G57 =>
  bP (pNil x6) fun x58 =>
  bP (fa Q q 42 0 0 x58) fun x59 =>
  bP (fa Q q 40 6 18 x59) fun x60 =>
  bP (ld Q q 23 x60 G57) fun x61 =>
  bP (bn Q q .eql 23 (.tmp 56) (.const (.int .i64 0)) x61 (.int .i64 0)) fun x62 =>
  ifV x62 (
  bP (pNil x6) fun x63 =>
  bP (fa Q q 42 0 0 x63) fun x64 =>
  bS (e.ev.cl 48 [x64] G57) fun x65 G66 =>
  bS (e.ev.cl 49 [x6] G66) fun x67 G68 =>
  bS (bs Q q 37 2 (rep z108 2) 1 [(0, 0, 1), (1, 1, 1)] [x65, x67] G68) fun x69 G70 =>
  bP (pNil x6) fun x71 =>
  bP (fa Q q 42 0 0 x71) fun x72 =>
  bP (fa Q q 40 4 16 x72) fun x73 =>
  bP (st Q q 37 1 x73 x69 G70) fun G74 =>
  some (x6, G74)) (
  some (x6, G57))) (
  bP (pNil x6) fun x75 =>
  bP (fa Q q 42 0 0 x75) fun x76 =>
  bP (fa Q q 40 6 18 x76) fun x77 =>
  bP (ld Q q 23 x77 G52) fun x78 =>
  bP (bn Q q .eql 23 (.tmp 56) (.const (.int .i64 0)) x78 (.int .i64 0)) fun x79 =>
  ifV x79 (
  bP (pNil x6) fun x80 =>
  bP (fa Q q 42 0 0 x80) fun x81 =>
  bS (e.ev.cl 48 [x81] G52) fun x82 G83 =>
  bS (e.ev.cl 49 [x6] G83) fun x84 G85 =>
  bS (bs Q q 37 2 (rep z108 2) 1 [(0, 0, 1), (1, 1, 1)] [x82, x84] G85) fun x86 G87 =>
  bP (pNil x6) fun x88 =>
  bP (fa Q q 42 0 0 x88) fun x89 =>
  bP (fa Q q 40 4 16 x89) fun x90 =>
  bP (st Q q 37 1 x90 x86 G87) fun G91 =>
  some (x6, G91)) (
  some (x6, G52)))
theorem m15 {e : Ex} {E : Ev} (h : ExLe Q e E) (v0 v1 v2 v3 v4 : Value) (G : GS) : Ref (s15 true e v0 v1 v2 v3 v4 G) (s15 false (Ex.of E) v0 v1 v2 v3 v4 G) := by
  unfold s15
  exact Ref.go
theorem f15 {orc : FuncId → Bool} {e : Ex} (h : ExLe Q e (E orc)) (v0 v1 v2 v3 v4 : Value) (G : GS) : Ref (s15 true e v0 v1 v2 v3 v4 G) ((E orc).cl 15 [v0, v1, v2, v3, v4] G) :=
  fun r hr => cl_sxE_some Q orc (vs := [v0, v1, v2, v3, v4]) G Tryz.func15 (by kernel_rfl) (by kernel_rfl) (by kernel_rfl) (by kernel_rfl) (by kernel_rfl) (by kernel_rfl) (m15 h v0 v1 v2 v3 v4 G r hr)
/-- coxswain/coxswainlaw19.chapter -/
noncomputable def s16 (q : Bool) (e : Ex) (G : GS) : Option (Value × GS) :=
  bS (al Q q 36 z36 G) fun x0 G1 =>
  bP (bd Q q 28 z28 [(0, 0, 1), (1, 1, 1), (2, 2, 1)] [(.int .i64 0), (.int .i64 1), (.int .i64 3)]) fun x2 =>
  bP (bd Q q 30 z30 [(0, 0, 3), (1, 3, 1), (2, 4, 1), (3, 5, 1)] [x2, (.int .i64 4), (.int .i64 7), (.int .i64 9)]) fun x3 =>
  bS (al Q q 30 z30 G1) fun x4 G5 =>
  bP (st Q q 30 6 x4 x3 G5) fun G6 =>
  bP (lda Q q 30 6 x4 G6) fun x7 =>
  bP (bd Q q 32 z32 [(0, 0, 1), (1, 1, 1), (2, 2, 1)] [(.int .i64 8), (.int .i64 9), (.int .i64 2)]) fun x8 =>
  bP (bd Q q 34 z34 [(0, 0, 6), (1, 6, 3), (2, 9, 1)] [x7, x8, (.int .i64 11)]) fun x9 =>
  bS (al Q q 34 z34 G6) fun x10 G11 =>
  bP (st Q q 34 10 x10 x9 G11) fun G12 =>
  bP (lda Q q 34 10 x10 G12) fun x13 =>
  bP (bd Q q 36 z36 [(0, 0, 1), (1, 1, 1), (2, 2, 1), (3, 3, 10)] [(.int .i64 16), (.int .i64 14), (.int .i64 2), x13]) fun x14 =>
  bP (st Q q 36 13 x0 x14 G12) fun G15 =>
  bP (lda Q q 36 13 x0 G15) fun x16 =>
  some (x16, G15)
theorem m16 {e : Ex} {E : Ev} (h : ExLe Q e E) (G : GS) : Ref (s16 true e  G) (s16 false (Ex.of E)  G) := by
  unfold s16
  exact Ref.go
theorem f16 {orc : FuncId → Bool} {e : Ex} (h : ExLe Q e (E orc)) (ho : orc 16 = false) (G : GS) : Ref (s16 true e  G) ((E orc).cl 16 [] G) :=
  fun r hr => cl_sxE_some Q orc (vs := []) G Tryz.func16 (by kernel_rfl) (by kernel_rfl) ho (by kernel_rfl) (by kernel_rfl) (by kernel_rfl) (m16 h  G r hr)
/-- coxswain/coxswainkit.Pick -/
noncomputable def s17 (q : Bool) (e : Ex) (v0 v1 : Value) (G : GS) : Option (Value × GS) :=
  bP (bn Q q .leq 3 (.tmp 5) (.const (.int .i64 0)) v1 (.int .i64 0)) fun x0 =>
  ifV x0 (
  some ((.int .i64 0), G)) (
  bP (bn Q q .rem 3 (.tmp 7) (.tmp 8) v0 v1) fun x1 =>
  bP (bn Q q .lss 3 (.tmp 10) (.const (.int .i64 0)) x1 (.int .i64 0)) fun x2 =>
  ifV x2 (
  bP (bn Q q .add 3 (.tmp 12) (.tmp 13) x1 v1) fun x3 =>
  some (x3, G)) (
  some (x1, G)))
theorem m17 {e : Ex} {E : Ev} (h : ExLe Q e E) (v0 v1 : Value) (G : GS) : Ref (s17 true e v0 v1 G) (s17 false (Ex.of E) v0 v1 G) := by
  unfold s17
  exact Ref.go
theorem f17 {orc : FuncId → Bool} {e : Ex} (h : ExLe Q e (E orc)) (v0 v1 : Value) (G : GS) : Ref (s17 true e v0 v1 G) ((E orc).cl 17 [v0, v1] G) :=
  fun r hr => cl_sxE_some Q orc (vs := [v0, v1]) G Tryz.func17 (by kernel_rfl) (by kernel_rfl) (by kernel_rfl) (by kernel_rfl) (by kernel_rfl) (by kernel_rfl) (m17 h v0 v1 G r hr)
/-- (*coxswain/cells.Mem).Count -/
noncomputable def s18 (q : Bool) (e : Ex) (v0 : Value) (G : GS) : Option (Value × GS) :=
  bP (ep Q q false 22 (.tmp 3) (.const (.pointer none)) v0 (.pointer none)) fun x0 =>
  ifV x0 (
  some ((.int .i64 0), G)) (
  bP (pNil v0) fun x1 =>
  bP (fa Q q 103 3 7 x1) fun x2 =>
  bP (ld Q q 3 x2 G) fun x3 =>
  some (x3, G))
theorem m18 {e : Ex} {E : Ev} (h : ExLe Q e E) (v0 : Value) (G : GS) : Ref (s18 true e v0 G) (s18 false (Ex.of E) v0 G) := by
  unfold s18
  exact Ref.go
theorem f18 {orc : FuncId → Bool} {e : Ex} (h : ExLe Q e (E orc)) (v0 : Value) (G : GS) : Ref (s18 true e v0 G) ((E orc).cl 18 [v0] G) :=
  fun r hr => cl_sxE_some Q orc (vs := [v0]) G Tryz.func18 (by kernel_rfl) (by kernel_rfl) (by kernel_rfl) (by kernel_rfl) (by kernel_rfl) (by kernel_rfl) (m18 h v0 G r hr)
/-- coxswain/coxswainlaw19.awake -/
noncomputable def s19 (q : Bool) (e : Ex) (G : GS) : Option (Value × GS) :=
  bS (e.ev.cl 16 [] G) fun x0 G1 =>
  bS (al Q q 36 z36 G1) fun x2 G3 =>
  bP (st Q q 36 13 x2 x0 G3) fun G4 =>
  bS (e.ev.cl 50 [] G4) fun x5 G6 =>
  bP (ep Q q false 22 (.tmp 7) (.const (.pointer none)) x5 (.pointer none)) fun x7 =>
  ifV x7 (
  some ((.bool false), G6)) (
  bP (lda Q q 36 13 x2 G6) fun x8 =>
  bS (e.ev.cl 51 [x8, x5, (.int .i64 0)] G6) fun x9 G10 =>
  bP (pExtract x9 0) fun x11 =>
  bP (pExtract x9 1) fun x12 =>
  bS (al Q q 46 z46 G10) fun x13 G14 =>
  bP (st Q q 46 2 x13 x11 G14) fun G15 =>
  bP (bn Q q .eql 23 (.tmp 15) (.const (.int .i64 0)) x12 (.int .i64 0)) fun x16 =>
  bS (gd x16 true (bP (fa Q q 46 0 0 x13) fun y => some (y, G15)) G15) fun x17 G18 =>
  bS (gd x16 true (bP (ld Q q 38 x17 G18) fun y => some (y, G18)) G18) fun x19 G20 =>
  bS (gd x16 true (bP (bn Q q .eql 38 (.tmp 19) (.const (.int .u64 4)) x19 (.int .u64 4)) fun y => some (y, G20)) G20) fun x21 G22 =>
  bP (pickV x16 x21 (.bool false)) fun x23 =>
  bS (gd x23 true (bP (fa Q q 46 1 1 x13) fun y => some (y, G22)) G22) fun x24 G25 =>
  bS (gd x23 true (bP (ld Q q 3 x24 G25) fun y => some (y, G25)) G25) fun x26 G27 =>
  bS (gd x23 true (bP (bn Q q .eql 3 (.tmp 24) (.const (.int .i64 6)) x26 (.int .i64 6)) fun y => some (y, G27)) G27) fun x28 G29 =>
  bP (pickV x23 x28 (.bool false)) fun x30 =>
  bS (gd x30 true (bP (lda Q q 36 13 x2 G29) fun y => some (y, G29)) G29) fun x31 G32 =>
  bS (gd x30 true (some (x5, G32)) G32) fun x33 G34 =>
  bS (gd x30 true (bS (e.ev.cl 52 [x31, x33, (.int .u64 4), (.int .i64 6)] G34) fun y G => some (y, G)) G34) fun x35 G36 =>
  bP (pickV x30 x35 (.bool false)) fun x37 =>
  some (x37, G36))
theorem m19 {e : Ex} {E : Ev} (h : ExLe Q e E) (G : GS) : Ref (s19 true e  G) (s19 false (Ex.of E)  G) := by
  unfold s19
  exact Ref.go
theorem f19 {orc : FuncId → Bool} {e : Ex} (h : ExLe Q e (E orc)) (ho : orc 19 = false) (G : GS) : Ref (s19 true e  G) ((E orc).cl 19 [] G) :=
  fun r hr => cl_sxE_some Q orc (vs := []) G Tryz.func19 (by kernel_rfl) (by kernel_rfl) ho (by kernel_rfl) (by kernel_rfl) (by kernel_rfl) (m19 h  G r hr)
/-- coxswain/ready.NewPick -/
noncomputable def s25 (q : Bool) (e : Ex) (v0 v1 : Value) (G : GS) : Option (Value × GS) :=
  bS (bx q v0 G) fun x0 G1 =>
  bP (lda Q q 36 13 x0 G1) fun x2 =>
  bS (e.ev.cl 47 [x2, v1] G1) fun x3 G4 =>
  bP (bd Q q 50 z50 [(0, 0, 19)] [x3]) fun x5 =>
  bS (bx q x5 G4) fun x6 G7 =>
  bS (al Q q 44 z44 G7) fun x8 G9 =>
  bP (st Q q 44 1 x8 x6 G9) fun G10 =>
  bP (ld Q q 44 x8 G10) fun x11 =>
  bP (pNil x11) fun x12 =>
  bP (fa Q q 50 0 0 x12) fun x13 =>
  bP (fa Q q 40 6 18 x13) fun x14 =>
  bP (ld Q q 23 x14 G10) fun x15 =>
  bP (bn Q q .eql 23 (.tmp 15) (.const (.int .i64 0)) x15 (.int .i64 0)) fun x16 =>
  ifV x16 (
  bP (ld Q q 44 x8 (G10.room 19)) fun x17 =>
  bP (ld Q q 44 x8 (G10.room 19)) fun x18 =>
  bP (pNil x18) fun x19 =>
  bP (fa Q q 50 0 0 x19) fun x20 =>
  bS (e.ev.cl 48 [x20] (G10.room 19)) fun x22 G21 =>
  chk ((sameO (ld Q q 44 x8 G21) x17 && true)) <|
  bP (bd Q q 129 z129 [(0, 0, 1), (1, 1, 1), (2, 2, 1)] [(.func (.func 59) #[] #[x0]), (.func (.func 61) #[] #[]), (.func (.func 62) #[] #[x8])]) fun x23 =>
  bS (bx q x23 (G21.at' (G10.nx + 8))) fun x24 G25 =>
  bP (ifc Q q 122 x24) fun x26 =>
  bP (ld Q q 44 x8 (G25.back G21)) fun x27 =>
  chk ((sameO (ld Q q 44 x8 (G10.room 19)) x27 && true)) <|
  bP (pNil x27) fun x28 =>
  bP (fa Q q 50 0 0 x28) fun x29 =>
  bS (e.ev.cl 64 [x29] (G25.back G21)) fun x31 G30 =>
  chk ((sameO (ld Q q 44 x8 G30) x17 && true)) <|
  bS (bs Q q 37 3 (rep z108 3) 1 [(0, 0, 1), (1, 1, 1), (2, 2, 1)] [x22, x26, x31] (G30.at' (G10.nx + 14))) fun x32 G33 =>
  bP (pNil x17) fun x34 =>
  bP (fa Q q 50 0 0 x34) fun x35 =>
  bP (fa Q q 40 4 16 x35) fun x36 =>
  bP (st Q q 37 1 x36 x32 (G33.back G30)) fun G37 =>
  bP (ld Q q 44 x8 G37) fun x38 =>
  some (x38, G37)) (
  bP (ld Q q 44 x8 G10) fun x39 =>
  some (x39, G10))
theorem m25 {e : Ex} {E : Ev} (h : ExLe Q e E) (v0 v1 : Value) (G : GS) : Ref (s25 true e v0 v1 G) (s25 false (Ex.of E) v0 v1 G) := by
  unfold s25
  exact Ref.go
theorem f25 {orc : FuncId → Bool} {e : Ex} (h : ExLe Q e (E orc)) (v0 v1 : Value) (G : GS) : Ref (s25 true e v0 v1 G) ((E orc).cl 25 [v0, v1] G) :=
  fun r hr => cl_sxE_some Q orc (vs := [v0, v1]) G Tryz.func25 (by kernel_rfl) (by kernel_rfl) (by kernel_rfl) (by kernel_rfl) (by kernel_rfl) (by kernel_rfl) (m25 h v0 v1 G r hr)
/-- (*coxswain/cells.Mem).Store -/
noncomputable def s29 (q : Bool) (e : Ex) (v0 v1 v2 : Value) (G : GS) : Option (Value × GS) :=
  bS (e.ev.cl 72 [v0, v1] G) fun x0 G1 =>
  bP (bd Q q 135 z135 [(0, 0, 1), (1, 1, 1)] [x0, v2]) fun x2 =>
  bS (al Q q 135 z135 G1) fun x3 G4 =>
  bP (st Q q 135 3 x3 x2 G4) fun G5 =>
  bP (fa Q q 135 0 0 x3) fun x6 =>
  bP (ld Q q 132 x6 G5) fun x7 =>
  bP (lda Q q 135 3 x3 G5) fun x8 =>
  bS (e.ev.cl 73 [v0, (.int .i64 2), v1, x7, (.func (.func 74) #[x8] #[])] G5) fun x9 G10 =>
  some (.tuple #[], G10)
theorem m29 {e : Ex} {E : Ev} (h : ExLe Q e E) (v0 v1 v2 : Value) (G : GS) : Ref (s29 true e v0 v1 v2 G) (s29 false (Ex.of E) v0 v1 v2 G) := by
  unfold s29
  exact Ref.go
theorem f29 {orc : FuncId → Bool} {e : Ex} (h : ExLe Q e (E orc)) (v0 v1 v2 : Value) (G : GS) : Ref (s29 true e v0 v1 v2 G) ((E orc).cl 29 [v0, v1, v2] G) :=
  fun r hr => cl_sxE_some Q orc (vs := [v0, v1, v2]) G Tryz.func29 (by kernel_rfl) (by kernel_rfl) (by kernel_rfl) (by kernel_rfl) (by kernel_rfl) (by kernel_rfl) (m29 h v0 v1 v2 G r hr)
/-- coxswain/run.Worst -/
noncomputable def s37 (q : Bool) (e : Ex) (v0 v1 : Value) (G : GS) : Option (Value × GS) :=
  bS (e.ev.cl 80 [v0, (.func (.func 81) #[] #[])] G) fun x0 G1 =>
  bP (bn Q q .lss 3 (.tmp 9) (.const (.int .i64 0)) x0 (.int .i64 0)) fun x2 =>
  bS (gd x2 false (some (v0, G1)) G1) fun x3 G4 =>
  bS (gd x2 false (some (x0, G4)) G4) fun x5 G6 =>
  bS (gd x2 false (bP (ias Q q 90 1 x3 x5) fun y => some (y, G6)) G6) fun x7 G8 =>
  bS (gd x2 false (bP (ld Q q 38 x7 G8) fun y => some (y, G8)) G8) fun x9 G10 =>
  bS (gd x2 false (some (v1, G10)) G10) fun x11 G12 =>
  bS (gd x2 false (bP (bn Q q .leq 38 (.tmp 15) (.tmp 16) x9 x11) fun y => some (y, G12)) G12) fun x13 G14 =>
  bP (pickV x2 (.bool true) x13) fun x15 =>
  ifV x15 (
  some (.tuple #[(.int .i64 (-1)), (.bool false)], G14)) (
  some (.tuple #[x0, (.bool true)], G14))
theorem m37 {e : Ex} {E : Ev} (h : ExLe Q e E) (v0 v1 : Value) (G : GS) : Ref (s37 true e v0 v1 G) (s37 false (Ex.of E) v0 v1 G) := by
  unfold s37
  exact Ref.go
theorem f37 {orc : FuncId → Bool} {e : Ex} (h : ExLe Q e (E orc)) (v0 v1 : Value) (G : GS) : Ref (s37 true e v0 v1 G) ((E orc).cl 37 [v0, v1] G) :=
  fun r hr => cl_sxE_some Q orc (vs := [v0, v1]) G Tryz.func37 (by kernel_rfl) (by kernel_rfl) (by kernel_rfl) (by kernel_rfl) (by kernel_rfl) (by kernel_rfl) (m37 h v0 v1 G r hr)
/-- (coxswain/ready.seen).told -/
noncomputable def s44 (q : Bool) (e : Ex) (v0 v1 : Value) (G : GS) : Option (Value × GS) :=
  bS (bx q v0 G) fun x0 G1 =>
  bS (al Q q 46 z46 G1) fun x2 G3 =>
  bS (e.ev.cl 45 [v1] G3) fun x4 G5 =>
  bP (bn Q q .neq 23 (.tmp 9) (.const (.int .i64 0)) x4 (.int .i64 0)) fun x6 =>
  ifV x6 (
  bP (bd Q q 46 z46 [] []) fun x7 =>
  bP (st Q q 46 2 x2 x7 G5) fun G8 =>
  bP (lda Q q 46 2 x2 G8) fun x9 =>
  some (.tuple #[x9, x4], G8)) (
  bP (fa Q q 48 0 0 x0) fun x10 =>
  bP (lda Q q 46 2 x10 (G5.room 6)) fun x11 =>
  bP (fa Q q 48 1 2 x0) fun x12 =>
  bP (ld Q q 23 x12 (G5.room 6)) fun x13 =>
  bP (st Q q 46 2 x2 x11 (G5.room 6)) fun G14 =>
  chk ((sameO (ld Q q 23 x12 G14) x13 && true)) <|
  bP (lda Q q 46 2 x2 G14) fun x15 =>
  some (.tuple #[x15, x13], G14))
theorem m44 {e : Ex} {E : Ev} (h : ExLe Q e E) (v0 v1 : Value) (G : GS) : Ref (s44 true e v0 v1 G) (s44 false (Ex.of E) v0 v1 G) := by
  unfold s44
  exact Ref.go
theorem f44 {orc : FuncId → Bool} {e : Ex} (h : ExLe Q e (E orc)) (v0 v1 : Value) (G : GS) : Ref (s44 true e v0 v1 G) ((E orc).cl 44 [v0, v1] G) :=
  fun r hr => cl_sxE_some Q orc (vs := [v0, v1]) G Tryz.func44 (by kernel_rfl) (by kernel_rfl) (by kernel_rfl) (by kernel_rfl) (by kernel_rfl) (by kernel_rfl) (m44 h v0 v1 G r hr)
/-- (*coxswain/ready.work).told -/
noncomputable def s45 (q : Bool) (e : Ex) (v0 : Value) (G : GS) : Option (Value × GS) :=
  bP (pNil v0) fun x0 =>
  bP (fa Q q 40 2 14 x0) fun x1 =>
  bP (ld Q q 4 x1 G) fun x2 =>
  bP (un Q q .not x2) fun x3 =>
  ifV x3 (
  some ((.int .i64 1), G)) (
  bP (pNil v0) fun x4 =>
  bP (fa Q q 40 4 16 x4) fun x5 =>
  bP (ld Q q 37 x5 G) fun x6 =>
  bP (ln Q q 37 x6) fun x7 =>
  bP (bn Q q .gtr 3 (.tmp 14) (.const (.int .i64 0)) x7 (.int .i64 0)) fun x8 =>
  ifV x8 (
  some ((.int .i64 14), G)) (
  bP (pNil v0) fun x9 =>
  bP (fa Q q 40 6 18 x9) fun x10 =>
  bP (ld Q q 23 x10 G) fun x11 =>
  some (x11, G)))
theorem m45 {e : Ex} {E : Ev} (h : ExLe Q e E) (v0 : Value) (G : GS) : Ref (s45 true e v0 G) (s45 false (Ex.of E) v0 G) := by
  unfold s45
  exact Ref.go
theorem f45 {orc : FuncId → Bool} {e : Ex} (h : ExLe Q e (E orc)) (v0 : Value) (G : GS) : Ref (s45 true e v0 G) ((E orc).cl 45 [v0] G) :=
  fun r hr => cl_sxE_some Q orc (vs := [v0]) G Tryz.func45 (by kernel_rfl) (by kernel_rfl) (by kernel_rfl) (by kernel_rfl) (by kernel_rfl) (by kernel_rfl) (m45 h v0 G r hr)
/-- (*coxswain/ready.work).step -/
noncomputable def s46 (q : Bool) (e : Ex) (v0 v1 : Value) (G : GS) : Option (Value × GS) :=
  bP (pNil v0) fun x0 =>
  bP (fa Q q 40 4 16 x0) fun x1 =>
  bP (ld Q q 37 x1 G) fun x2 =>
  bP (ln Q q 37 x2) fun x3 =>
  bP (bn Q q .eql 3 (.tmp 12) (.const (.int .i64 0)) x3 (.int .i64 0)) fun x4 =>
  ifV x4 (
  some ((.bool true), G)) (
  bP (pNil v0) fun x5 =>
  bP (fa Q q 40 4 16 x5) fun x6 =>
  bP (ld Q q 37 x6 G) fun x7 =>
  bP (ias Q q 37 1 x7 (.int .i64 0)) fun x8 =>
  bP (ld Q q 108 x8 G) fun x9 =>
  bP (pNil v0) fun x10 =>
  bP (fa Q q 40 4 16 x10) fun x11 =>
  bP (ld Q q 37 x11 G) fun x12 =>
  bP (sl Q q 37 1 x12 (some (.int .i64 1)) none none G) fun x13 =>
  bP (pNil v0) fun x14 =>
  bP (fa Q q 40 4 16 x14) fun x15 =>
  bP (st Q q 37 1 x15 x13 G) fun G16 =>
  bS (cInvoke Q e.ev x9 "coxswain/ready.run" [v1] G16) fun x17 G18 =>
  bP (pExtract x17 0) fun x19 =>
  bP (pExtract x17 1) fun x20 =>
  bP (pNil v0) fun x21 =>
  bP (fa Q q 40 5 17 x21) fun x22 =>
  bP (st Q q 38 1 x22 x20 G18) fun G23 =>
  bP (un Q q .not x19) fun x24 =>
  ifV x24 (
  bS (bs Q q 37 1 (rep z108 1) 1 [(0, 0, 1)] [x9] G23) fun x25 G26 =>
  bP (pNil v0) fun x27 =>
  bP (fa Q q 40 4 16 x27) fun x28 =>
  bP (ld Q q 37 x28 G26) fun x29 =>
  bS (ap Q q 37 37 1 16 x25 x29 G26) fun x30 G31 =>
  bP (pNil v0) fun x32 =>
  bP (fa Q q 40 4 16 x32) fun x33 =>
  bP (st Q q 37 1 x33 x30 G31) fun G34 =>
  bP (pNil v0) fun x35 =>
  bP (fa Q q 40 4 16 x35) fun x36 =>
  bP (ld Q q 37 x36 G34) fun x37 =>
  bP (ln Q q 37 x37) fun x38 =>
  bP (bn Q q .eql 3 (.tmp 54) (.const (.int .i64 0)) x38 (.int .i64 0)) fun x39 =>
  some (x39, G34)) (
  bP (pNil v0) fun x40 =>
  bP (fa Q q 40 4 16 x40) fun x41 =>
  bP (ld Q q 37 x41 G23) fun x42 =>
  bP (ln Q q 37 x42) fun x43 =>
  bP (bn Q q .eql 3 (.tmp 54) (.const (.int .i64 0)) x43 (.int .i64 0)) fun x44 =>
  some (x44, G23)))
theorem m46 {e : Ex} {E : Ev} (h : ExLe Q e E) (v0 v1 : Value) (G : GS) : Ref (s46 true e v0 v1 G) (s46 false (Ex.of E) v0 v1 G) := by
  unfold s46
  exact Ref.go
theorem f46 {orc : FuncId → Bool} {e : Ex} (h : ExLe Q e (E orc)) (v0 v1 : Value) (G : GS) : Ref (s46 true e v0 v1 G) ((E orc).cl 46 [v0, v1] G) :=
  fun r hr => cl_sxE_some Q orc (vs := [v0, v1]) G Tryz.func46 (by kernel_rfl) (by kernel_rfl) (by kernel_rfl) (by kernel_rfl) (by kernel_rfl) (by kernel_rfl) (m46 h v0 v1 G r hr)
/-- coxswain/ready.begun -/
noncomputable def s47 (q : Bool) (e : Ex) (v0 v1 : Value) (G : GS) : Option (Value × GS) :=
  bS (bx q v0 G) fun x0 G1 =>
  bS (al Q q 40 z40 G1) fun x2 G3 =>
  bP (lda Q q 36 13 x0 G3) fun x4 =>
  bP (bd Q q 40 z40 [(0, 0, 13), (1, 13, 1), (2, 14, 1)] [x4, v1, (.bool true)]) fun x5 =>
  bS (al Q q 40 z40 G3) fun x6 G7 =>
  bP (st Q q 40 19 x6 x5 G7) fun G8 =>
  bP (lda Q q 36 13 x0 G8) fun x9 =>
  bS (e.ev.cl 87 [x9, (.int .i64 0), (.int .i64 0)] G8) fun x10 G11 =>
  bP (bn Q q .lss 3 (.tmp 11) (.const (.int .i64 0)) x10 (.int .i64 0)) fun x12 =>
  ifV x12 (
  bP (fa Q q 40 6 18 x6) fun x13 =>
  bP (st Q q 23 1 x13 (.int .i64 2) G11) fun G14 =>
  bP (lda Q q 40 19 x6 G14) fun x15 =>
  bP (st Q q 40 19 x2 x15 G14) fun G16 =>
  bP (lda Q q 40 19 x2 G16) fun x17 =>
  some (x17, G16)) (
  bP (bn Q q .lss 3 (.tmp 15) (.const (.int .i64 0)) v1 (.int .i64 0)) fun x18 =>
  bS (gd x18 false (some (v1, G11)) G11) fun x19 G20 =>
  bS (gd x18 false (bP (fa Q q 36 3 3 x0) fun y => some (y, G20)) G20) fun x21 G22 =>
  bS (gd x18 false (bP (fa Q q 34 1 6 x21) fun y => some (y, G22)) G22) fun x23 G24 =>
  bS (gd x18 false (bP (fa Q q 32 2 2 x23) fun y => some (y, G24)) G24) fun x25 G26 =>
  bS (gd x18 false (bP (ld Q q 3 x25 G26) fun y => some (y, G26)) G26) fun x27 G28 =>
  bS (gd x18 false (bP (bn Q q .geq 3 (.tmp 18) (.tmp 22) x19 x27) fun y => some (y, G28)) G28) fun x29 G30 =>
  bP (pickV x18 (.bool true) x29) fun x31 =>
  ifV x31 (
  bP (fa Q q 40 6 18 x6) fun x32 =>
  bP (st Q q 23 1 x32 (.int .i64 3) G30) fun G33 =>
  bP (lda Q q 40 19 x6 G33) fun x34 =>
  bP (st Q q 40 19 x2 x34 G33) fun G35 =>
  bP (lda Q q 40 19 x2 G35) fun x36 =>
  some (x36, G35)) (
  bP (lda Q q 40 19 x6 G30) fun x37 =>
  bP (st Q q 40 19 x2 x37 G30) fun G38 =>
  bP (lda Q q 40 19 x2 G38) fun x39 =>
  some (x39, G38)))
theorem m47 {e : Ex} {E : Ev} (h : ExLe Q e E) (v0 v1 : Value) (G : GS) : Ref (s47 true e v0 v1 G) (s47 false (Ex.of E) v0 v1 G) := by
  unfold s47
  exact Ref.go
theorem f47 {orc : FuncId → Bool} {e : Ex} (h : ExLe Q e (E orc)) (v0 v1 : Value) (G : GS) : Ref (s47 true e v0 v1 G) ((E orc).cl 47 [v0, v1] G) :=
  fun r hr => cl_sxE_some Q orc (vs := [v0, v1]) G Tryz.func47 (by kernel_rfl) (by kernel_rfl) (by kernel_rfl) (by kernel_rfl) (by kernel_rfl) (by kernel_rfl) (m47 h v0 v1 G r hr)
/-- (*coxswain/ready.work).pin -/
noncomputable def s48 (q : Bool) (e : Ex) (v0 : Value) (G : GS) : Option (Value × GS) :=
  bS (bx q v0 G) fun x0 G1 =>
  bP (bd Q q 164 z164 [(0, 0, 1), (2, 2, 1)] [(.func (.func 88) #[] #[x0]), (.func (.func 90) #[] #[x0])]) fun x2 =>
  bS (bx q x2 G1) fun x3 G4 =>
  bP (ifc Q q 157 x3) fun x5 =>
  some (x5, G4)
theorem m48 {e : Ex} {E : Ev} (h : ExLe Q e E) (v0 : Value) (G : GS) : Ref (s48 true e v0 G) (s48 false (Ex.of E) v0 G) := by
  unfold s48
  exact Ref.go
theorem f48 {orc : FuncId → Bool} {e : Ex} (h : ExLe Q e (E orc)) (v0 : Value) (G : GS) : Ref (s48 true e v0 G) ((E orc).cl 48 [v0] G) :=
  fun r hr => cl_sxE_some Q orc (vs := [v0]) G Tryz.func48 (by kernel_rfl) (by kernel_rfl) (by kernel_rfl) (by kernel_rfl) (by kernel_rfl) (by kernel_rfl) (m48 h v0 G r hr)
/-- (*coxswain/ready.Put).alloc -/
noncomputable def s49 (q : Bool) (e : Ex) (v0 : Value) (G : GS) : Option (Value × GS) :=
  bS (bx q v0 G) fun x0 G1 =>
  bP (ld Q q 26 x0 G1) fun x2 =>
  bP (bd Q q 172 z172 [(0, 0, 1), (2, 2, 1)] [(.func (.func 92) #[] #[x0]), (.func (.func 94) #[x2] #[])]) fun x3 =>
  bS (bx q x3 G1) fun x4 G5 =>
  bP (ifc Q q 165 x4) fun x6 =>
  some (x6, G5)
theorem m49 {e : Ex} {E : Ev} (h : ExLe Q e E) (v0 : Value) (G : GS) : Ref (s49 true e v0 G) (s49 false (Ex.of E) v0 G) := by
  unfold s49
  exact Ref.go
theorem f49 {orc : FuncId → Bool} {e : Ex} (h : ExLe Q e (E orc)) (v0 : Value) (G : GS) : Ref (s49 true e v0 G) ((E orc).cl 49 [v0] G) :=
  fun r hr => cl_sxE_some Q orc (vs := [v0]) G Tryz.func49 (by kernel_rfl) (by kernel_rfl) (by kernel_rfl) (by kernel_rfl) (by kernel_rfl) (by kernel_rfl) (m49 h v0 G r hr)
/-- coxswain/coxswainlaw19.two -/
noncomputable def s50 (q : Bool) (e : Ex) (G : GS) : Option (Value × GS) :=
  bS (e.ev.cl 16 [] G) fun x0 G1 =>
  bS (al Q q 36 z36 G1) fun x2 G3 =>
  bP (st Q q 36 13 x2 x0 G3) fun G4 =>
  bP (lda Q q 36 13 x2 G4) fun x5 =>
  bS (e.ev.cl 95 [x5, (.int .i64 34)] G4) fun x6 G7 =>
  bP (ep Q q false 22 (.tmp 10) (.const (.pointer none)) x6 (.pointer none)) fun x8 =>
  ifV x8 (
  some ((.pointer none), G7)) (
  bP (lda Q q 36 13 x2 G7) fun x9 =>
  bS (e.ev.cl 96 [x9, x6, (.int .i64 0), (.int .u64 9), (.int .i64 5), (.int .i64 1)] G7) fun x10 G11 =>
  bP (pExtract x10 0) fun x12 =>
  bP (pExtract x10 1) fun x13 =>
  bP (lda Q q 36 13 x2 G11) fun x14 =>
  bS (e.ev.cl 96 [x14, x6, (.int .i64 1), (.int .u64 4), (.int .i64 6), (.int .i64 1)] G11) fun x15 G16 =>
  bP (pExtract x15 0) fun x17 =>
  bP (pExtract x15 1) fun x18 =>
  bP (bn Q q .neq 23 (.tmp 24) (.const (.int .i64 0)) x12 (.int .i64 0)) fun x19 =>
  bS (gd x19 false (some (x17, G16)) G16) fun x20 G21 =>
  bS (gd x19 false (bP (bn Q q .neq 23 (.tmp 27) (.const (.int .i64 0)) x20 (.int .i64 0)) fun y => some (y, G21)) G21) fun x22 G23 =>
  bP (pickV x19 (.bool true) x22) fun x24 =>
  bS (gd x24 false (some (x13, G23)) G23) fun x25 G26 =>
  bS (gd x24 false (bP (bn Q q .neq 3 (.tmp 31) (.const (.int .i64 18)) x25 (.int .i64 18)) fun y => some (y, G26)) G26) fun x27 G28 =>
  bP (pickV x24 (.bool true) x27) fun x29 =>
  bS (gd x29 false (some (x18, G28)) G28) fun x30 G31 =>
  bS (gd x29 false (bP (bn Q q .neq 3 (.tmp 35) (.const (.int .i64 20)) x30 (.int .i64 20)) fun y => some (y, G31)) G31) fun x32 G33 =>
  bP (pickV x29 (.bool true) x32) fun x34 =>
  ifV x34 (
  some ((.pointer none), G33)) (
  some (x6, G33)))
theorem m50 {e : Ex} {E : Ev} (h : ExLe Q e E) (G : GS) : Ref (s50 true e  G) (s50 false (Ex.of E)  G) := by
  unfold s50
  exact Ref.go
theorem f50 {orc : FuncId → Bool} {e : Ex} (h : ExLe Q e (E orc)) (ho : orc 50 = false) (G : GS) : Ref (s50 true e  G) ((E orc).cl 50 [] G) :=
  fun r hr => cl_sxE_some Q orc (vs := []) G Tryz.func50 (by kernel_rfl) (by kernel_rfl) ho (by kernel_rfl) (by kernel_rfl) (by kernel_rfl) (m50 h  G r hr)
noncomputable def b51_0 (q : Bool) (e : Ex) (lp : Env → GS → Option (Exit × Env × GS)) (τ : Env) (G : GS) : Option (Exit × Env × GS) :=
  bV q (τ 1) fun a1_ =>
  bV q (τ 8) fun a8_ =>
  bV q (τ 9) fun a9_ =>
  bP (bn Q q .lss 3 (.tmp 13) (.const (.int .i64 4000)) a9_ (.int .i64 4000)) fun x0 =>
  bS (gd x0 true (some (a8_, G)) G) fun x1 G2 =>
  bS (gd x0 true (some (a1_, G2)) G2) fun x3 G4 =>
  bS (gd x0 true (bS (e.ev.cl 12 [x1, x3] G4) fun y G => some (y, G)) G4) fun x5 G6 =>
  bS (gd x0 true (bP (un Q q .not x5) fun y => some (y, G6)) G6) fun x7 G8 =>
  bP (pickV x0 x7 (.bool false)) fun x9 =>
  ifV x9 (
  bS (e.ev.cl 18 [a1_] G8) fun x10 G11 =>
  bP (bn Q q .add 3 (.tmp 21) (.const (.int .i64 1)) a9_ (.int .i64 1)) fun x12 =>
  lp (tu τ [(1, a1_), (8, a8_), (9, x12), (13, a9_), (14, x0), (15, x0), (16, x1), (17, x3), (18, x5), (19, x7), (20, x9), (21, a9_), (22, x12), (23, a1_), (24, x10)]) G11) (
  some ((.exit 0), clq q 29 (tu τ [(1, a1_), (8, a8_), (9, a9_), (13, a9_), (14, x0), (15, x0), (16, x1), (17, x3), (18, x5), (19, x7), (20, x9)]), G8))
theorem mb51_0 {e : Ex} {E : Ev} (h : ExLe Q e E) {lp lp' : Env → GS → Option (Exit × Env × GS)} (hlp : LpLe lp lp') (τ : Env) (G : GS) : Ref (b51_0 true e lp τ G) (b51_0 false (Ex.of E) lp' τ G) := by
  unfold b51_0
  exact Ref.go
theorem l51_0 {orc : FuncId → Bool} {e : Ex} (h : ExLe Q e (E orc)) (lp : Env → GS → Option (Exit × Env × GS)) (hlp : ∀ τ G, Ref (lp τ G) (mapE ((E orc).lp (subAt [1, 1, 0, 1, 0, 0] (bodyOf Tryz.f51)) (lst 29 τ) G))) (T : List Value) (G : GS) (hT : T.length = 29) : Ref (b51_0 true e lp (nth undef T) G) (mapE ((E orc).lp (subAt [1, 1, 0, 1, 0, 0] (bodyOf Tryz.f51)) T G)) :=
  fun r hr => lp_sxM Q orc G hT (by kernel_rfl) (mb51_0 h ⟨hlp⟩ _ _ r hr)
/-- coxswain/coxswainlaw19.look -/
noncomputable def s51 (q : Bool) (e : Ex) (v0 v1 v2 : Value) (G : GS) : Option (Value × GS) :=
  bS (bx q v0 G) fun x0 G1 =>
  bS (al Q q 46 z46 G1) fun x2 G3 =>
  bP (lda Q q 36 13 x0 G3) fun x4 =>
  bS (e.ev.cl 83 [x4, v2] G3) fun x5 G6 =>
  bL q e 51 0 (subAt [1, 1, 0, 1, 0, 0] (bodyOf Tryz.f51)) 29 (tu (nth undef [v0, v1, v2]) [(3, x0), (6, x2), (7, (.int .i64 0)), (8, x5), (9, (.int .i64 1)), (10, x4), (11, v2), (12, x5)]) G6 fun e7 t8 G9 =>
  bV q (t8 6) fun t8x6_ =>
  bV q (t8 8) fun t8x8_ =>
  ifE e7 (.exit 0) (
  bS (e.ev.cl 8 [t8x8_] G9) fun x10 G11 =>
  bP (pExtract x10 0) fun x12 =>
  bP (pExtract x10 1) fun x13 =>
  bP (st Q q 46 2 t8x6_ x12 G11) fun G14 =>
  bP (lda Q q 46 2 t8x6_ G14) fun x15 =>
  some (.tuple #[x15, x13], G14)) (none)
theorem m51 {e : Ex} {E : Ev} (h : ExLe Q e E) (v0 v1 v2 : Value) (G : GS) : Ref (s51 true e v0 v1 v2 G) (s51 false (Ex.of E) v0 v1 v2 G) := by
  unfold s51
  exact Ref.go
theorem f51 {orc : FuncId → Bool} {e : Ex} (h : ExLe Q e (E orc)) (v0 v1 v2 : Value) (G : GS) : Ref (s51 true e v0 v1 v2 G) ((E orc).cl 51 [v0, v1, v2] G) :=
  fun r hr => cl_sxE_some Q orc (vs := [v0, v1, v2]) G Tryz.func51 (by kernel_rfl) (by kernel_rfl) (by kernel_rfl) (by kernel_rfl) (by kernel_rfl) (by kernel_rfl) (m51 h v0 v1 v2 G r hr)
/-- coxswain/coxswainlaw19.picked -/
noncomputable def s52 (q : Bool) (e : Ex) (v0 v1 v2 v3 : Value) (G : GS) : Option (Value × GS) :=
  bS (bx q v0 G) fun x0 G1 =>
  bP (lda Q q 36 13 x0 G1) fun x2 =>
  bS (e.ev.cl 97 [x2, v1, (.int .i64 0)] G1) fun x3 G4 =>
  bP (pExtract x3 0) fun x5 =>
  bP (pExtract x3 1) fun x6 =>
  bS (al Q q 46 z46 G4) fun x7 G8 =>
  bP (st Q q 46 2 x7 x5 G8) fun G9 =>
  bP (bn Q q .eql 23 (.tmp 17) (.const (.int .i64 0)) x6 (.int .i64 0)) fun x10 =>
  bS (gd x10 true (bP (fa Q q 46 0 0 x7) fun y => some (y, G9)) G9) fun x11 G12 =>
  bS (gd x10 true (bP (ld Q q 38 x11 G12) fun y => some (y, G12)) G12) fun x13 G14 =>
  bS (gd x10 true (some (v2, G14)) G14) fun x15 G16 =>
  bS (gd x10 true (bP (bn Q q .eql 38 (.tmp 21) (.tmp 22) x13 x15) fun y => some (y, G16)) G16) fun x17 G18 =>
  bP (pickV x10 x17 (.bool false)) fun x19 =>
  bS (gd x19 true (bP (fa Q q 46 1 1 x7) fun y => some (y, G18)) G18) fun x20 G21 =>
  bS (gd x19 true (bP (ld Q q 3 x20 G21) fun y => some (y, G21)) G21) fun x22 G23 =>
  bS (gd x19 true (some (v3, G23)) G23) fun x24 G25 =>
  bS (gd x19 true (bP (bn Q q .eql 3 (.tmp 27) (.tmp 28) x22 x24) fun y => some (y, G25)) G25) fun x26 G27 =>
  bP (pickV x19 x26 (.bool false)) fun x28 =>
  some (x28, G27)
theorem m52 {e : Ex} {E : Ev} (h : ExLe Q e E) (v0 v1 v2 v3 : Value) (G : GS) : Ref (s52 true e v0 v1 v2 v3 G) (s52 false (Ex.of E) v0 v1 v2 v3 G) := by
  unfold s52
  exact Ref.go
theorem f52 {orc : FuncId → Bool} {e : Ex} (h : ExLe Q e (E orc)) (v0 v1 v2 v3 : Value) (G : GS) : Ref (s52 true e v0 v1 v2 v3 G) ((E orc).cl 52 [v0, v1, v2, v3] G) :=
  fun r hr => cl_sxE_some Q orc (vs := [v0, v1, v2, v3]) G Tryz.func52 (by kernel_rfl) (by kernel_rfl) (by kernel_rfl) (by kernel_rfl) (by kernel_rfl) (by kernel_rfl) (m52 h v0 v1 v2 v3 G r hr)
noncomputable def b53_0 (q : Bool) (e : Ex) (lp : Env → GS → Option (Exit × Env × GS)) (τ : Env) (G : GS) : Option (Exit × Env × GS) :=
  bV q (τ 1) fun a1_ =>
  bV q (τ 2) fun a2_ =>
  bV q (τ 13) fun a13_ =>
  bV q (τ 14) fun a14_ =>
  bP (bn Q q .lss 3 (.tmp 14) (.tmp 13) a14_ a13_) fun x0 =>
  ifV x0 (
  bP (fa Q q 36 1 1 a2_) fun x1 =>
  bP (ld Q q 3 x1 G) fun x2 =>
  bP (bn Q q .add 3 (.tmp 19) (.tmp 20) x2 a14_) fun x3 =>
  bS (e.ev.cl 29 [a1_, x3, (.int .u64 0)] G) fun x4 G5 =>
  bP (bn Q q .add 3 (.tmp 14) (.const (.int .i64 1)) a14_ (.int .i64 1)) fun x6 =>
  lp (tu τ [(1, a1_), (2, a2_), (13, a13_), (14, x6), (4, a14_), (15, x0), (16, a14_), (17, a1_), (18, x1), (19, x2), (20, a14_), (21, x3), (22, x4), (23, x6)]) G5) (
  some ((.exit 0), clq q 24 (tu τ [(1, a1_), (2, a2_), (13, a13_), (14, a14_), (15, x0)]), G))
theorem mb53_0 {e : Ex} {E : Ev} (h : ExLe Q e E) {lp lp' : Env → GS → Option (Exit × Env × GS)} (hlp : LpLe lp lp') (τ : Env) (G : GS) : Ref (b53_0 true e lp τ G) (b53_0 false (Ex.of E) lp' τ G) := by
  unfold b53_0
  exact Ref.go
theorem l53_0 {orc : FuncId → Bool} {e : Ex} (h : ExLe Q e (E orc)) (lp : Env → GS → Option (Exit × Env × GS)) (hlp : ∀ τ G, Ref (lp τ G) (mapE ((E orc).lp (subAt [1, 1, 1, 1, 0, 0] (bodyOf Tryz.f53)) (lst 24 τ) G))) (T : List Value) (G : GS) (hT : T.length = 24) : Ref (b53_0 true e lp (nth undef T) G) (mapE ((E orc).lp (subAt [1, 1, 1, 1, 0, 0] (bodyOf Tryz.f53)) T G)) :=
  fun r hr => lp_sxM Q orc G hT (by kernel_rfl) (mb53_0 h ⟨hlp⟩ _ _ r hr)
/-- coxswain/tower.Fill -/
noncomputable def s53 (q : Bool) (e : Ex) (v0 v1 : Value) (G : GS) : Option (Value × GS) :=
  bS (bx q v0 G) fun x0 G1 =>
  bP (lda Q q 36 13 x0 G1) fun x2 =>
  bS (e.ev.cl 98 [x2] G1) fun x3 G4 =>
  bP (un Q q .not x3) fun x5 =>
  ifV x5 (
  some (.tuple #[], G4)) (
  bP (fa Q q 36 3 3 x0) fun x6 =>
  bP (lda Q q 34 10 x6 G4) fun x7 =>
  bS (e.ev.cl 99 [x7, v1] G4) fun x8 G9 =>
  bP (fa Q q 36 2 2 x0) fun x10 =>
  bP (ld Q q 3 x10 G9) fun x11 =>
  bL q e 53 0 (subAt [1, 1, 1, 1, 0, 0] (bodyOf Tryz.f53)) 24 (tu (nth undef [v0, v1]) [(2, x0), (5, x2), (6, x3), (7, x5), (8, x6), (9, x7), (10, v1), (11, x8), (12, x10), (13, x11), (14, (.int .i64 0))]) G9 fun e12 t13 G14 =>
  ifE e12 (.exit 0) (
  some (.tuple #[], G14)) (none))
theorem m53 {e : Ex} {E : Ev} (h : ExLe Q e E) (v0 v1 : Value) (G : GS) : Ref (s53 true e v0 v1 G) (s53 false (Ex.of E) v0 v1 G) := by
  unfold s53
  exact Ref.go
theorem f53 {orc : FuncId → Bool} {e : Ex} (h : ExLe Q e (E orc)) (v0 v1 : Value) (G : GS) : Ref (s53 true e v0 v1 G) ((E orc).cl 53 [v0, v1] G) :=
  fun r hr => cl_sxE_some Q orc (vs := [v0, v1]) G Tryz.func53 (by kernel_rfl) (by kernel_rfl) (by kernel_rfl) (by kernel_rfl) (by kernel_rfl) (by kernel_rfl) (m53 h v0 v1 G r hr)
/-- coxswain/ready.NewPick$1 -/
noncomputable def s59 (q : Bool) (e : Ex) (v0 : Value) (G : GS) : Option (Value × GS) :=
  bP (lda Q q 36 13 v0 G) fun x0 =>
  bS (e.ev.cl 60 [x0] G) fun x1 G2 =>
  some (x1, G2)
theorem m59 {e : Ex} {E : Ev} (h : ExLe Q e E) (v0 : Value) (G : GS) : Ref (s59 true e v0 G) (s59 false (Ex.of E) v0 G) := by
  unfold s59
  exact Ref.go
theorem f59 {orc : FuncId → Bool} {e : Ex} (h : ExLe Q e (E orc)) (v0 : Value) (G : GS) : Ref (s59 true e v0 G) ((E orc).cl 59 [v0] G) :=
  fun r hr => cl_sxE_some Q orc (vs := [v0]) G Tryz.func59 (by kernel_rfl) (by kernel_rfl) (by kernel_rfl) (by kernel_rfl) (by kernel_rfl) (by kernel_rfl) (m59 h v0 G r hr)
/-- coxswain/claim.NewClaim -/
noncomputable def s60 (q : Bool) (e : Ex) (v0 : Value) (G : GS) : Option (Value × GS) :=
  bS (bx q v0 G) fun x0 G1 =>
  bP (lda Q q 36 13 x0 G1) fun x2 =>
  bS (e.ev.cl 107 [x2] G1) fun x3 G4 =>
  bP (bd Q q 193 z193 [(0, 0, 26)] [x3]) fun x5 =>
  bS (bx q x5 G4) fun x6 G7 =>
  some (x6, G7)
theorem m60 {e : Ex} {E : Ev} (h : ExLe Q e E) (v0 : Value) (G : GS) : Ref (s60 true e v0 G) (s60 false (Ex.of E) v0 G) := by
  unfold s60
  exact Ref.go
theorem f60 {orc : FuncId → Bool} {e : Ex} (h : ExLe Q e (E orc)) (v0 : Value) (G : GS) : Ref (s60 true e v0 G) ((E orc).cl 60 [v0] G) :=
  fun r hr => cl_sxE_some Q orc (vs := [v0]) G Tryz.func60 (by kernel_rfl) (by kernel_rfl) (by kernel_rfl) (by kernel_rfl) (by kernel_rfl) (by kernel_rfl) (m60 h v0 G r hr)
/-- (*coxswain/claim.Claim).By -/
noncomputable def s61 (q : Bool) (e : Ex) (v0 : Value) (G : GS) : Option (Value × GS) :=
  bP (ep Q q false 123 (.tmp 3) (.const (.pointer none)) v0 (.pointer none)) fun x0 =>
  ifV x0 (
  some ((.int .u64 0), G)) (
  bP (pNil v0) fun x1 =>
  bP (fa Q q 193 0 0 x1) fun x2 =>
  bP (fa Q q 190 7 23 x2) fun x3 =>
  bP (ld Q q 38 x3 G) fun x4 =>
  some (x4, G))
theorem m61 {e : Ex} {E : Ev} (h : ExLe Q e E) (v0 : Value) (G : GS) : Ref (s61 true e v0 G) (s61 false (Ex.of E) v0 G) := by
  unfold s61
  exact Ref.go
theorem f61 {orc : FuncId → Bool} {e : Ex} (h : ExLe Q e (E orc)) (v0 : Value) (G : GS) : Ref (s61 true e v0 G) ((E orc).cl 61 [v0] G) :=
  fun r hr => cl_sxE_some Q orc (vs := [v0]) G Tryz.func61 (by kernel_rfl) (by kernel_rfl) (by kernel_rfl) (by kernel_rfl) (by kernel_rfl) (by kernel_rfl) (m61 h v0 G r hr)
/-- coxswain/ready.NewPick$2 -/
noncomputable def s62 (q : Bool) (e : Ex) (v0 v1 : Value) (G : GS) : Option (Value × GS) :=
  bP (ld Q q 44 v1 (G.room 15)) fun x0 =>
  bP (ld Q q 44 v1 (G.room 15)) fun x1 =>
  bS (e.ev.cl 63 [v0] (G.room 15)) fun x3 G2 =>
  chk ((sameO (ld Q q 44 v1 G2) x1 && (sameO (ld Q q 44 v1 G2) x0 && true))) <|
  bP (pExtract x3 0) fun x4 =>
  bP (pExtract x3 1) fun x5 =>
  bP (pNil x0) fun x6 =>
  bP (fa Q q 50 1 19 x6) fun x7 =>
  bP (fa Q q 48 0 0 x7) fun x8 =>
  bP (st Q q 46 2 x8 x4 G2) fun G9 =>
  chk ((sameO (ld Q q 44 v1 G9) x1 && true)) <|
  bP (pNil x1) fun x10 =>
  bP (fa Q q 50 1 19 x10) fun x11 =>
  bP (fa Q q 48 1 2 x11) fun x12 =>
  bP (st Q q 23 1 x12 x5 G9) fun G13 =>
  some (.tuple #[], G13)
theorem m62 {e : Ex} {E : Ev} (h : ExLe Q e E) (v0 v1 : Value) (G : GS) : Ref (s62 true e v0 v1 G) (s62 false (Ex.of E) v0 v1 G) := by
  unfold s62
  exact Ref.go
theorem f62 {orc : FuncId → Bool} {e : Ex} (h : ExLe Q e (E orc)) (v0 v1 : Value) (G : GS) : Ref (s62 true e v0 v1 G) ((E orc).cl 62 [v0, v1] G) :=
  fun r hr => cl_sxE_some Q orc (vs := [v0, v1]) G Tryz.func62 (by kernel_rfl) (by kernel_rfl) (by kernel_rfl) (by kernel_rfl) (by kernel_rfl) (by kernel_rfl) (m62 h v0 v1 G r hr)
/-- (*coxswain/claim.Claim).Item -/
noncomputable def s63 (q : Bool) (e : Ex) (v0 : Value) (G : GS) : Option (Value × GS) :=
  bS (al Q q 46 z46 G) fun x0 G1 =>
  bP (ep Q q false 123 (.tmp 4) (.const (.pointer none)) v0 (.pointer none)) fun x2 =>
  ifV x2 (
  bP (bd Q q 46 z46 [] []) fun x3 =>
  bP (st Q q 46 2 x0 x3 G1) fun G4 =>
  bP (lda Q q 46 2 x0 G4) fun x5 =>
  some (.tuple #[x5, (.int .i64 1)], G4)) (
  bP (pNil v0) fun x6 =>
  bP (fa Q q 193 0 0 x6) fun x7 =>
  bS (e.ev.cl 108 [x7] G1) fun x8 G9 =>
  bP (pExtract x8 0) fun x10 =>
  bP (pExtract x8 1) fun x11 =>
  bP (st Q q 46 2 x0 x10 G9) fun G12 =>
  bP (lda Q q 46 2 x0 G12) fun x13 =>
  some (.tuple #[x13, x11], G12))
theorem m63 {e : Ex} {E : Ev} (h : ExLe Q e E) (v0 : Value) (G : GS) : Ref (s63 true e v0 G) (s63 false (Ex.of E) v0 G) := by
  unfold s63
  exact Ref.go
theorem f63 {orc : FuncId → Bool} {e : Ex} (h : ExLe Q e (E orc)) (v0 : Value) (G : GS) : Ref (s63 true e v0 G) ((E orc).cl 63 [v0] G) :=
  fun r hr => cl_sxE_some Q orc (vs := [v0]) G Tryz.func63 (by kernel_rfl) (by kernel_rfl) (by kernel_rfl) (by kernel_rfl) (by kernel_rfl) (by kernel_rfl) (m63 h v0 G r hr)
/-- (*coxswain/ready.work).unpin -/
noncomputable def s64 (q : Bool) (e : Ex) (v0 : Value) (G : GS) : Option (Value × GS) :=
  bS (bx q v0 G) fun x0 G1 =>
  bP (bd Q q 201 z201 [(0, 0, 1)] [(.func (.func 109) #[] #[x0])]) fun x2 =>
  bS (bx q x2 G1) fun x3 G4 =>
  bP (ifc Q q 194 x3) fun x5 =>
  some (x5, G4)
theorem m64 {e : Ex} {E : Ev} (h : ExLe Q e E) (v0 : Value) (G : GS) : Ref (s64 true e v0 G) (s64 false (Ex.of E) v0 G) := by
  unfold s64
  exact Ref.go
theorem f64 {orc : FuncId → Bool} {e : Ex} (h : ExLe Q e (E orc)) (v0 : Value) (G : GS) : Ref (s64 true e v0 G) ((E orc).cl 64 [v0] G) :=
  fun r hr => cl_sxE_some Q orc (vs := [v0]) G Tryz.func64 (by kernel_rfl) (by kernel_rfl) (by kernel_rfl) (by kernel_rfl) (by kernel_rfl) (by kernel_rfl) (m64 h v0 G r hr)
/-- (*coxswain/cells.Mem).cell -/
noncomputable def s72 (q : Bool) (e : Ex) (v0 v1 : Value) (G : GS) : Option (Value × GS) :=
  bP (ep Q q false 22 (.tmp 5) (.const (.pointer none)) v0 (.pointer none)) fun x0 =>
  bS (gd x0 false (some (v0, G)) G) fun x1 G2 =>
  bS (gd x0 false (bP (pNil x1) fun y => some (y, G2)) G2) fun x3 G4 =>
  bS (gd x0 false (bP (fa Q q 103 0 0 x3) fun y => some (y, G4)) G4) fun x5 G6 =>
  bS (gd x0 false (bP (ld Q q 96 x5 G6) fun y => some (y, G6)) G6) fun x7 G8 =>
  bS (gd x0 false (bP (ep Q q false 96 (.tmp 11) (.const (.pointer none)) x7 (.pointer none)) fun y => some (y, G8)) G8) fun x9 G10 =>
  bP (pickV x0 (.bool true) x9) fun x11 =>
  bS (gd x11 false (some (v1, G10)) G10) fun x12 G13 =>
  bS (gd x11 false (bP (bn Q q .lss 3 (.tmp 15) (.const (.int .i64 0)) x12 (.int .i64 0)) fun y => some (y, G13)) G13) fun x14 G15 =>
  bP (pickV x11 (.bool true) x14) fun x16 =>
  bS (gd x16 false (some (v1, G15)) G15) fun x17 G18 =>
  bS (gd x16 false (some (v0, G18)) G18) fun x19 G20 =>
  bS (gd x16 false (bP (pNil x19) fun y => some (y, G20)) G20) fun x21 G22 =>
  bS (gd x16 false (bP (fa Q q 103 1 1 x21) fun y => some (y, G22)) G22) fun x23 G24 =>
  bS (gd x16 false (bP (ld Q q 3 x23 G24) fun y => some (y, G24)) G24) fun x25 G26 =>
  bS (gd x16 false (bP (bn Q q .geq 3 (.tmp 19) (.tmp 23) x17 x25) fun y => some (y, G26)) G26) fun x27 G28 =>
  bP (pickV x16 (.bool true) x27) fun x29 =>
  ifV x29 (
  some ((.pointer none), G28)) (
  bP (pNil v0) fun x30 =>
  bP (fa Q q 103 0 0 x30) fun x31 =>
  bP (ld Q q 96 x31 G28) fun x32 =>
  bP (pNil x32) fun x33 =>
  bP (iaa Q q 99 4096 1 x33 v1) fun x34 =>
  some (x34, G28))
theorem m72 {e : Ex} {E : Ev} (h : ExLe Q e E) (v0 v1 : Value) (G : GS) : Ref (s72 true e v0 v1 G) (s72 false (Ex.of E) v0 v1 G) := by
  unfold s72
  exact Ref.go
theorem f72 {orc : FuncId → Bool} {e : Ex} (h : ExLe Q e (E orc)) (v0 v1 : Value) (G : GS) : Ref (s72 true e v0 v1 G) ((E orc).cl 72 [v0, v1] G) :=
  fun r hr => cl_sxE_some Q orc (vs := [v0, v1]) G Tryz.func72 (by kernel_rfl) (by kernel_rfl) (by kernel_rfl) (by kernel_rfl) (by kernel_rfl) (by kernel_rfl) (m72 h v0 v1 G r hr)
/-- (*coxswain/cells.Mem).do -/
noncomputable def s73 (q : Bool) (e : Ex) (v0 v1 v2 v3 v4 : Value) (G : GS) : Option (Value × GS) :=
  bS (al Q q 101 z101 G) fun x0 G1 =>
  bP (ep Q q false 22 (.tmp 13) (.const (.pointer none)) v0 (.pointer none)) fun x2 =>
  bS (gd x2 false (some (v0, G1)) G1) fun x3 G4 =>
  bS (gd x2 false (bP (pNil x3) fun y => some (y, G4)) G4) fun x5 G6 =>
  bS (gd x2 false (bP (fa Q q 103 0 0 x5) fun y => some (y, G6)) G6) fun x7 G8 =>
  bS (gd x2 false (bP (ld Q q 96 x7 G8) fun y => some (y, G8)) G8) fun x9 G10 =>
  bS (gd x2 false (bP (ep Q q false 96 (.tmp 19) (.const (.pointer none)) x9 (.pointer none)) fun y => some (y, G10)) G10) fun x11 G12 =>
  bP (pickV x2 (.bool true) x11) fun x13 =>
  ifV x13 (
  bP (bd Q q 101 z101 [] []) fun x14 =>
  bP (st Q q 101 5 x0 x14 G12) fun G15 =>
  bP (lda Q q 101 5 x0 G15) fun x16 =>
  some (x16, G15)) (
  bP (pNil v0) fun x17 =>
  bP (fa Q q 103 3 7 x17) fun x18 =>
  bP (ld Q q 3 x18 G12) fun x19 =>
  bP (bn Q q .add 3 (.tmp 26) (.const (.int .i64 1)) x19 (.int .i64 1)) fun x20 =>
  bP (pNil v0) fun x21 =>
  bP (fa Q q 103 3 7 x21) fun x22 =>
  bP (st Q q 3 1 x22 x20 G12) fun G23 =>
  bP (bd Q q 101 z101 [(0, 0, 1), (1, 1, 1)] [v1, v2]) fun x24 =>
  bP (pNil v0) fun x25 =>
  bP (fa Q q 103 2 2 x25) fun x26 =>
  bP (st Q q 101 5 x26 x24 G23) fun G27 =>
  bS (e.ev.cl 117 [v3] G27) fun x28 G29 =>
  ifV x28 (
  bS (cValue e.ev v4 [] G29) fun x30 G31 =>
  bP (pExtract x30 0) fun x32 =>
  bP (pExtract x30 1) fun x33 =>
  bP (pNil v3) fun x34 =>
  bP (ld Q q 97 x34 G31) fun x35 =>
  bP (pNil v0) fun x36 =>
  bP (fa Q q 103 2 2 x36) fun x37 =>
  bP (fa Q q 101 2 2 x37) fun x38 =>
  bP (st Q q 38 1 x38 x35 G31) fun G39 =>
  bP (pNil v0) fun x40 =>
  bP (fa Q q 103 2 2 x40) fun x41 =>
  bP (fa Q q 101 3 3 x41) fun x42 =>
  bP (st Q q 38 1 x42 x32 G39) fun G43 =>
  bP (pNil v0) fun x44 =>
  bP (fa Q q 103 2 2 x44) fun x45 =>
  bP (fa Q q 101 4 4 x45) fun x46 =>
  bP (st Q q 4 1 x46 x33 G43) fun G47 =>
  bP (pNil v3) fun x48 =>
  bP (st Q q 97 1 x48 x32 G47) fun G49 =>
  bP (pNil v0) fun x50 =>
  bP (fa Q q 103 2 2 x50) fun x51 =>
  bP (lda Q q 101 5 x51 G49) fun x52 =>
  bP (st Q q 101 5 x0 x52 G49) fun G53 =>
  bP (lda Q q 101 5 x0 G53) fun x54 =>
  some (x54, G53)) (
  bP (pNil v0) fun x55 =>
  bP (fa Q q 103 2 2 x55) fun x56 =>
  bP (lda Q q 101 5 x56 G29) fun x57 =>
  bP (st Q q 101 5 x0 x57 G29) fun G58 =>
  bP (lda Q q 101 5 x0 G58) fun x59 =>
  some (x59, G58)))
theorem m73 {e : Ex} {E : Ev} (h : ExLe Q e E) (v0 v1 v2 v3 v4 : Value) (G : GS) : Ref (s73 true e v0 v1 v2 v3 v4 G) (s73 false (Ex.of E) v0 v1 v2 v3 v4 G) := by
  unfold s73
  exact Ref.go
theorem f73 {orc : FuncId → Bool} {e : Ex} (h : ExLe Q e (E orc)) (v0 v1 v2 v3 v4 : Value) (G : GS) : Ref (s73 true e v0 v1 v2 v3 v4 G) ((E orc).cl 73 [v0, v1, v2, v3, v4] G) :=
  fun r hr => cl_sxE_some Q orc (vs := [v0, v1, v2, v3, v4]) G Tryz.func73 (by kernel_rfl) (by kernel_rfl) (by kernel_rfl) (by kernel_rfl) (by kernel_rfl) (by kernel_rfl) (m73 h v0 v1 v2 v3 v4 G r hr)
/-- (coxswain/cells.deed).store -/
noncomputable def s74 (q : Bool) (e : Ex) (v0 : Value) (G : GS) : Option (Value × GS) :=
  bS (bx q v0 G) fun x0 G1 =>
  bP (fa Q q 135 1 1 x0) fun x2 =>
  bP (ld Q q 38 x2 G1) fun x3 =>
  some (.tuple #[x3, (.bool true)], G1)
theorem m74 {e : Ex} {E : Ev} (h : ExLe Q e E) (v0 : Value) (G : GS) : Ref (s74 true e v0 G) (s74 false (Ex.of E) v0 G) := by
  unfold s74
  exact Ref.go
theorem f74 {orc : FuncId → Bool} {e : Ex} (h : ExLe Q e (E orc)) (v0 : Value) (G : GS) : Ref (s74 true e v0 G) ((E orc).cl 74 [v0] G) :=
  fun r hr => cl_sxE_some Q orc (vs := [v0]) G Tryz.func74 (by kernel_rfl) (by kernel_rfl) (by kernel_rfl) (by kernel_rfl) (by kernel_rfl) (by kernel_rfl) (m74 h v0 G r hr)
/-- (*coxswain/run.Balance).Step -/
noncomputable def s76 (q : Bool) (e : Ex) (v0 v1 : Value) (G : GS) : Option (Value × GS) :=
  bP (ep Q q false 93 (.tmp 9) (.const (.pointer none)) v0 (.pointer none)) fun x0 =>
  bS (gd x0 false (some (v0, G)) G) fun x1 G2 =>
  bS (gd x0 false (bP (pNil x1) fun y => some (y, G2)) G2) fun x3 G4 =>
  bS (gd x0 false (bP (fa Q q 150 8 11 x3) fun y => some (y, G4)) G4) fun x5 G6 =>
  bS (gd x0 false (bP (ld Q q 4 x5 G6) fun y => some (y, G6)) G6) fun x7 G8 =>
  bS (gd x0 false (bP (un Q q .not x7) fun y => some (y, G8)) G8) fun x9 G10 =>
  bP (pickV x0 (.bool true) x9) fun x11 =>
  bS (gd x11 false (some (v0, G10)) G10) fun x12 G13 =>
  bS (gd x11 false (bP (pNil x12) fun y => some (y, G13)) G13) fun x14 G15 =>
  bS (gd x11 false (bP (fa Q q 150 9 12 x14) fun y => some (y, G15)) G15) fun x16 G17 =>
  bS (gd x11 false (bP (ld Q q 4 x16 G17) fun y => some (y, G17)) G17) fun x18 G19 =>
  bP (pickV x11 (.bool true) x18) fun x20 =>
  ifV x20 (
  some ((.bool true), G19)) (
  bP (pNil v0) fun x21 =>
  bP (fa Q q 150 7 10 x21) fun x22 =>
  bP (st Q q 38 1 x22 (.int .u64 0) G19) fun G23 =>
  bP (pNil v0) fun x24 =>
  bP (fa Q q 150 2 5 x24) fun x25 =>
  bP (ld Q q 52 x25 G23) fun x26 =>
  bP (ep Q q true 52 (.tmp 30) (.const (.pointer none)) x26 (.pointer none)) fun x27 =>
  ifV x27 (
  bS (e.ev.cl 118 [v0, v1] G23) fun x28 G29 =>
  bP (pNil v0) fun x30 =>
  bP (fa Q q 150 9 12 x30) fun x31 =>
  bP (ld Q q 4 x31 G29) fun x32 =>
  some (x32, G29)) (
  bP (pNil v0) fun x33 =>
  bP (fa Q q 150 0 0 x33) fun x34 =>
  bS (e.ev.cl 119 [x34] G23) fun x35 G36 =>
  bP (pExtract x35 0) fun x37 =>
  bP (pExtract x35 1) fun x38 =>
  ifV x38 (
  bP (pNil v0) fun x39 =>
  bP (fa Q q 150 4 7 x39) fun x40 =>
  bP (ld Q q 90 x40 (G36.room 13)) fun x41 =>
  bS (e.ev.cl 120 [v1, x37] (G36.room 13)) fun x43 G42 =>
  chk ((sameO (ld Q q 90 x40 G42) x41 && true)) <|
  bS (bs Q q 90 1 (rep z38 1) 1 [(0, 0, 1)] [x43] (G42.at' (G36.nx + 8))) fun x44 G45 =>
  bS (ap Q q 90 90 1 8 x41 x44 (G45.back G42)) fun x47 G46 =>
  bP (pNil v0) fun x48 =>
  bP (fa Q q 150 4 7 x48) fun x49 =>
  bP (st Q q 90 1 x49 x47 G46) fun G50 =>
  bP (pNil v0) fun x51 =>
  bP (fa Q q 150 0 0 x51) fun x52 =>
  bP (fa Q q 147 1 1 x52) fun x53 =>
  bP (ld Q q 3 x53 G50) fun x54 =>
  bP (bn Q q .eql 3 (.tmp 63) (.const (.int .i64 0)) x54 (.int .i64 0)) fun x55 =>
  ifV x55 (
  bP (pNil v0) fun x56 =>
  bP (fa Q q 150 4 7 x56) fun x57 =>
  bP (ld Q q 90 x57 (G50.room 14)) fun x58 =>
  bP (pNil v0) fun x59 =>
  bP (fa Q q 150 3 6 x59) fun x60 =>
  bP (ld Q q 38 x60 (G50.room 14)) fun x61 =>
  bS (e.ev.cl 37 [x58, x61] (G50.room 14)) fun x63 G62 =>
  bP (pExtract x63 0) fun x64 =>
  bP (pExtract x63 1) fun x65 =>
  bP (un Q q .not x65) fun x66 =>
  bP (pNil v0) fun x67 =>
  bP (fa Q q 150 5 8 x67) fun x68 =>
  bP (st Q q 3 1 x68 x64 G62) fun G69 =>
  bP (pNil v0) fun x70 =>
  bP (fa Q q 150 9 12 x70) fun x71 =>
  bP (st Q q 4 1 x71 x66 G69) fun G72 =>
  bP (pNil v0) fun x73 =>
  bP (fa Q q 150 9 12 x73) fun x74 =>
  bP (ld Q q 4 x74 G72) fun x75 =>
  some (x75, G72)) (
  bP (pNil v0) fun x76 =>
  bP (fa Q q 150 9 12 x76) fun x77 =>
  bP (ld Q q 4 x77 G50) fun x78 =>
  some (x78, G50))) (
  bP (pNil v0) fun x79 =>
  bP (fa Q q 150 1 2 x79) fun x80 =>
  bP (fa Q q 86 1 1 x80) fun x81 =>
  bP (ld Q q 3 x81 (G36.room 12)) fun x82 =>
  bP (pNil v0) fun x83 =>
  bP (fa Q q 150 5 8 x83) fun x84 =>
  bP (ld Q q 3 x84 (G36.room 12)) fun x85 =>
  bP (bn Q q .add 3 (.tmp 95) (.tmp 99) x82 x85) fun x86 =>
  bS (e.ev.cl 29 [v1, x86, (.int .u64 1)] (G36.room 12)) fun x88 G87 =>
  bP (pNil v0) fun x89 =>
  bP (fa Q q 150 5 8 x89) fun x90 =>
  bP (ld Q q 3 x90 G87) fun x91 =>
  bP (pNil v0) fun x92 =>
  bP (fa Q q 150 6 9 x92) fun x93 =>
  bP (st Q q 3 1 x93 x91 G87) fun G94 =>
  bS (e.ev.cl 84 [v0, (.int .i64 0)] G94) fun x95 G96 =>
  some ((.bool true), G96))))
theorem m76 {e : Ex} {E : Ev} (h : ExLe Q e E) (v0 v1 : Value) (G : GS) : Ref (s76 true e v0 v1 G) (s76 false (Ex.of E) v0 v1 G) := by
  unfold s76
  exact Ref.go
set_option maxHeartbeats 8000000 in
theorem f76 {orc : FuncId → Bool} {e : Ex} (h : ExLe Q e (E orc)) (v0 v1 : Value) (G : GS) : Ref (s76 true e v0 v1 G) ((E orc).cl 76 [v0, v1] G) :=
  fun r hr => cl_sxE_some Q orc (vs := [v0, v1]) G Tryz.func76 (by kernel_rfl) (by kernel_rfl) (by kernel_rfl) (by kernel_rfl) (by kernel_rfl) (by kernel_rfl) (m76 h v0 v1 G r hr)
noncomputable def b80_0 (q : Bool) (e : Ex) (lp : Env → GS → Option (Exit × Env × GS)) (τ : Env) (G : GS) : Option (Exit × Env × GS) :=
  bV q (τ 0) fun a0_ =>
  bV q (τ 1) fun a1_ =>
  bV q (τ 5) fun a5_ =>
  bV q (τ 8) fun a8_ =>
  bV q (τ 9) fun a9_ =>
  bV q (τ 10) fun a10_ =>
  bP (bn Q q .lss 3 (.tmp 10) (.tmp 9) a10_ a9_) fun x0 =>
  ifV x0 (
  bP (ias Q q 90 1 a8_ a10_) fun x1 =>
  bP (ld Q q 38 x1 G) fun x2 =>
  bP (bn Q q .lss 3 (.tmp 15) (.const (.int .i64 0)) a5_ (.int .i64 0)) fun x3 =>
  bS (gd x3 false (some (a1_, G)) G) fun x4 G5 =>
  bS (gd x3 false (some (x2, G5)) G5) fun x6 G7 =>
  bS (gd x3 false (some (a0_, G7)) G7) fun x8 G9 =>
  bS (gd x3 false (some (a5_, G9)) G9) fun x10 G11 =>
  bS (gd x3 false (bP (ias Q q 90 1 x8 x10) fun y => some (y, G11)) G11) fun x12 G13 =>
  bS (gd x3 false (bP (ld Q q 38 x12 G13) fun y => some (y, G13)) G13) fun x14 G15 =>
  bS (gd x3 false (bS (cValue e.ev x4 [x6, x14] G15) fun y G => some (y, G)) G15) fun x16 G17 =>
  bS (gd x3 false (bP (bn Q q .gtr 3 (.tmp 24) (.const (.int .i64 0)) x16 (.int .i64 0)) fun y => some (y, G17)) G17) fun x18 G19 =>
  bP (pickV x3 (.bool true) x18) fun x20 =>
  ifV x20 (
  bP (bn Q q .add 3 (.tmp 10) (.const (.int .i64 1)) a10_ (.int .i64 1)) fun x21 =>
  lp (tu τ [(0, a0_), (1, a1_), (5, a10_), (8, a8_), (9, a9_), (10, x21), (6, a10_), (7, x2), (11, x0), (12, a10_), (13, x1), (14, x2), (15, a5_), (16, x3), (17, x3), (18, x4), (19, x6), (20, x8), (21, x10), (22, x12), (23, x14), (24, x16), (25, x18), (26, x20), (27, a10_), (28, x21)]) G19) (
  bP (bn Q q .add 3 (.tmp 10) (.const (.int .i64 1)) a10_ (.int .i64 1)) fun x22 =>
  lp (tu τ [(0, a0_), (1, a1_), (5, a5_), (8, a8_), (9, a9_), (10, x22), (6, a10_), (7, x2), (11, x0), (12, a10_), (13, x1), (14, x2), (15, a5_), (16, x3), (17, x3), (18, x4), (19, x6), (20, x8), (21, x10), (22, x12), (23, x14), (24, x16), (25, x18), (26, x20), (28, x22)]) G19)) (
  some ((.exit 0), clq q 30 (tu τ [(0, a0_), (1, a1_), (5, a5_), (8, a8_), (9, a9_), (10, a10_), (11, x0)]), G))
theorem mb80_0 {e : Ex} {E : Ev} (h : ExLe Q e E) {lp lp' : Env → GS → Option (Exit × Env × GS)} (hlp : LpLe lp lp') (τ : Env) (G : GS) : Ref (b80_0 true e lp τ G) (b80_0 false (Ex.of E) lp' τ G) := by
  unfold b80_0
  exact Ref.go
theorem l80_0 {orc : FuncId → Bool} {e : Ex} (h : ExLe Q e (E orc)) (lp : Env → GS → Option (Exit × Env × GS)) (hlp : ∀ τ G, Ref (lp τ G) (mapE ((E orc).lp (subAt [1, 1, 0, 1, 0, 0] (bodyOf Tryz.f80)) (lst 30 τ) G))) (T : List Value) (G : GS) (hT : T.length = 30) : Ref (b80_0 true e lp (nth undef T) G) (mapE ((E orc).lp (subAt [1, 1, 0, 1, 0, 0] (bodyOf Tryz.f80)) T G)) :=
  fun r hr => lp_sxM Q orc G hT (by kernel_rfl) (mb80_0 h ⟨hlp⟩ _ _ r hr)
/-- coxswain/run.greatest[uint64] -/
noncomputable def s80 (q : Bool) (e : Ex) (v0 v1 : Value) (G : GS) : Option (Value × GS) :=
  bP (ln Q q 90 v0) fun x0 =>
  bL q e 80 0 (subAt [1, 1, 0, 1, 0, 0] (bodyOf Tryz.f80)) 30 (tu (nth undef [v0, v1]) [(4, (.int .i64 0)), (5, (.int .i64 (-1))), (8, v0), (9, x0), (10, (.int .i64 0))]) G fun e1 t2 G3 =>
  bV q (t2 5) fun t2x5_ =>
  ifE e1 (.exit 0) (
  some (t2x5_, G3)) (none)
theorem m80 {e : Ex} {E : Ev} (h : ExLe Q e E) (v0 v1 : Value) (G : GS) : Ref (s80 true e v0 v1 G) (s80 false (Ex.of E) v0 v1 G) := by
  unfold s80
  exact Ref.go
theorem f80 {orc : FuncId → Bool} {e : Ex} (h : ExLe Q e (E orc)) (v0 v1 : Value) (G : GS) : Ref (s80 true e v0 v1 G) ((E orc).cl 80 [v0, v1] G) :=
  fun r hr => cl_sxE_some Q orc (vs := [v0, v1]) G Tryz.func80 (by kernel_rfl) (by kernel_rfl) (by kernel_rfl) (by kernel_rfl) (by kernel_rfl) (by kernel_rfl) (m80 h v0 v1 G r hr)
/-- cmp.Compare[uint64] -/
noncomputable def s81 (q : Bool) (e : Ex) (v0 v1 : Value) (G : GS) : Option (Value × GS) :=
  bS (e.ev.cl 122 [v0] G) fun x0 G1 =>
  bS (e.ev.cl 122 [v1] G1) fun x2 G3 =>
  ifV x0 (
  ifV x2 (
  some ((.int .i64 0), G3)) (
  some ((.int .i64 (-1)), G3))) (
  ifV x2 (
  some ((.int .i64 1), G3)) (
  bP (bn Q q .lss 38 (.tmp 14) (.tmp 15) v0 v1) fun x4 =>
  ifV x4 (
  some ((.int .i64 (-1)), G3)) (
  bP (bn Q q .gtr 38 (.tmp 17) (.tmp 18) v0 v1) fun x5 =>
  ifV x5 (
  some ((.int .i64 1), G3)) (
  some ((.int .i64 0), G3)))))
theorem m81 {e : Ex} {E : Ev} (h : ExLe Q e E) (v0 v1 : Value) (G : GS) : Ref (s81 true e v0 v1 G) (s81 false (Ex.of E) v0 v1 G) := by
  unfold s81
  exact Ref.go
theorem f81 {orc : FuncId → Bool} {e : Ex} (h : ExLe Q e (E orc)) (v0 v1 : Value) (G : GS) : Ref (s81 true e v0 v1 G) ((E orc).cl 81 [v0, v1] G) :=
  fun r hr => cl_sxE_some Q orc (vs := [v0, v1]) G Tryz.func81 (by kernel_rfl) (by kernel_rfl) (by kernel_rfl) (by kernel_rfl) (by kernel_rfl) (by kernel_rfl) (m81 h v0 v1 G r hr)
/-- coxswain/ready.NewLook -/
noncomputable def s83 (q : Bool) (e : Ex) (v0 v1 : Value) (G : GS) : Option (Value × GS) :=
  bS (bx q v0 G) fun x0 G1 =>
  bP (lda Q q 36 13 x0 G1) fun x2 =>
  bS (e.ev.cl 47 [x2, v1] G1) fun x3 G4 =>
  bP (bd Q q 53 z53 [(0, 0, 19)] [x3]) fun x5 =>
  bS (bx q x5 G4) fun x6 G7 =>
  bS (al Q q 52 z52 G7) fun x8 G9 =>
  bP (st Q q 52 1 x8 x6 G9) fun G10 =>
  bP (ld Q q 52 x8 G10) fun x11 =>
  bP (pNil x11) fun x12 =>
  bP (fa Q q 53 0 0 x12) fun x13 =>
  bP (fa Q q 40 6 18 x13) fun x14 =>
  bP (ld Q q 23 x14 G10) fun x15 =>
  bP (bn Q q .eql 23 (.tmp 15) (.const (.int .i64 0)) x15 (.int .i64 0)) fun x16 =>
  ifV x16 (
  bP (ld Q q 52 x8 (G10.room 19)) fun x17 =>
  bP (ld Q q 52 x8 (G10.room 19)) fun x18 =>
  bP (pNil x18) fun x19 =>
  bP (fa Q q 53 0 0 x19) fun x20 =>
  bS (e.ev.cl 48 [x20] (G10.room 19)) fun x22 G21 =>
  chk ((sameO (ld Q q 52 x8 G21) x17 && true)) <|
  bP (bd Q q 220 z220 [(0, 0, 1), (1, 1, 1), (2, 2, 1)] [(.func (.func 125) #[] #[x0]), (.func (.func 127) #[] #[]), (.func (.func 128) #[] #[x8])]) fun x23 =>
  bS (bx q x23 (G21.at' (G10.nx + 8))) fun x24 G25 =>
  bP (ifc Q q 213 x24) fun x26 =>
  bP (ld Q q 52 x8 (G25.back G21)) fun x27 =>
  chk ((sameO (ld Q q 52 x8 (G10.room 19)) x27 && true)) <|
  bP (pNil x27) fun x28 =>
  bP (fa Q q 53 0 0 x28) fun x29 =>
  bS (e.ev.cl 64 [x29] (G25.back G21)) fun x31 G30 =>
  chk ((sameO (ld Q q 52 x8 G30) x17 && true)) <|
  bS (bs Q q 37 3 (rep z108 3) 1 [(0, 0, 1), (1, 1, 1), (2, 2, 1)] [x22, x26, x31] (G30.at' (G10.nx + 14))) fun x32 G33 =>
  bP (pNil x17) fun x34 =>
  bP (fa Q q 53 0 0 x34) fun x35 =>
  bP (fa Q q 40 4 16 x35) fun x36 =>
  bP (st Q q 37 1 x36 x32 (G33.back G30)) fun G37 =>
  bP (ld Q q 52 x8 G37) fun x38 =>
  some (x38, G37)) (
  bP (ld Q q 52 x8 G10) fun x39 =>
  some (x39, G10))
theorem m83 {e : Ex} {E : Ev} (h : ExLe Q e E) (v0 v1 : Value) (G : GS) : Ref (s83 true e v0 v1 G) (s83 false (Ex.of E) v0 v1 G) := by
  unfold s83
  exact Ref.go
theorem f83 {orc : FuncId → Bool} {e : Ex} (h : ExLe Q e (E orc)) (v0 v1 : Value) (G : GS) : Ref (s83 true e v0 v1 G) ((E orc).cl 83 [v0, v1] G) :=
  fun r hr => cl_sxE_some Q orc (vs := [v0, v1]) G Tryz.func83 (by kernel_rfl) (by kernel_rfl) (by kernel_rfl) (by kernel_rfl) (by kernel_rfl) (by kernel_rfl) (m83 h v0 v1 G r hr)
/-- (*coxswain/run.Balance).ends -/
noncomputable def s84 (q : Bool) (e : Ex) (v0 v1 : Value) (G : GS) : Option (Value × GS) :=
  bP (pNil v0) fun x0 =>
  bP (fa Q q 150 9 12 x0) fun x1 =>
  bP (st Q q 4 1 x1 (.bool true) G) fun G2 =>
  bP (pNil v0) fun x3 =>
  bP (fa Q q 150 10 13 x3) fun x4 =>
  bP (st Q q 23 1 x4 v1 G2) fun G5 =>
  some (.tuple #[], G5)
theorem m84 {e : Ex} {E : Ev} (h : ExLe Q e E) (v0 v1 : Value) (G : GS) : Ref (s84 true e v0 v1 G) (s84 false (Ex.of E) v0 v1 G) := by
  unfold s84
  exact Ref.go
theorem f84 {orc : FuncId → Bool} {e : Ex} (h : ExLe Q e (E orc)) (v0 v1 : Value) (G : GS) : Ref (s84 true e v0 v1 G) ((E orc).cl 84 [v0, v1] G) :=
  fun r hr => cl_sxE_some Q orc (vs := [v0, v1]) G Tryz.func84 (by kernel_rfl) (by kernel_rfl) (by kernel_rfl) (by kernel_rfl) (by kernel_rfl) (by kernel_rfl) (m84 h v0 v1 G r hr)
/-- coxswain/tower.At -/
noncomputable def s87 (q : Bool) (e : Ex) (v0 v1 v2 : Value) (G : GS) : Option (Value × GS) :=
  bS (bx q v0 G) fun x0 G1 =>
  bP (lda Q q 36 13 x0 G1) fun x2 =>
  bS (e.ev.cl 98 [x2] G1) fun x3 G4 =>
  bP (un Q q .not x3) fun x5 =>
  ifV x5 (
  some ((.int .i64 (-1)), G4)) (
  bP (bn Q q .neq 3 (.tmp 12) (.const (.int .i64 (-1))) v1 (.int .i64 (-1))) fun x6 =>
  ifV x6 (
  bP (lda Q q 36 13 x0 G4) fun x7 =>
  bS (e.ev.cl 130 [x7] G4) fun x8 G9 =>
  bS (e.ev.cl 131 [x8, v1, v2] G9) fun x10 G11 =>
  some (x10, G11)) (
  bP (bn Q q .lss 3 (.tmp 20) (.const (.int .i64 4)) v2 (.int .i64 4)) fun x12 =>
  bS (gd x12 false (some (v2, G4)) G4) fun x13 G14 =>
  bS (gd x12 false (bP (fa Q q 36 2 2 x0) fun y => some (y, G14)) G14) fun x15 G16 =>
  bS (gd x12 false (bP (ld Q q 3 x15 G16) fun y => some (y, G16)) G16) fun x17 G18 =>
  bS (gd x12 false (bP (bn Q q .add 3 (.const (.int .i64 4)) (.tmp 25) (.int .i64 4) x17) fun y => some (y, G18)) G18) fun x19 G20 =>
  bS (gd x12 false (bP (bn Q q .geq 3 (.tmp 23) (.tmp 26) x13 x19) fun y => some (y, G20)) G20) fun x21 G22 =>
  bP (pickV x12 (.bool true) x21) fun x23 =>
  ifV x23 (
  some ((.int .i64 (-1)), G22)) (
  bP (lda Q q 36 13 x0 G22) fun x24 =>
  bS (e.ev.cl 132 [x24] G22) fun x25 G26 =>
  bP (bn Q q .sub 3 (.tmp 31) (.const (.int .i64 4)) v2 (.int .i64 4)) fun x27 =>
  bS (e.ev.cl 133 [x25, (.int .i64 0), x27] G26) fun x28 G29 =>
  some (x28, G29))))
theorem m87 {e : Ex} {E : Ev} (h : ExLe Q e E) (v0 v1 v2 : Value) (G : GS) : Ref (s87 true e v0 v1 v2 G) (s87 false (Ex.of E) v0 v1 v2 G) := by
  unfold s87
  exact Ref.go
theorem f87 {orc : FuncId → Bool} {e : Ex} (h : ExLe Q e (E orc)) (v0 v1 v2 : Value) (G : GS) : Ref (s87 true e v0 v1 v2 G) ((E orc).cl 87 [v0, v1, v2] G) :=
  fun r hr => cl_sxE_some Q orc (vs := [v0, v1, v2]) G Tryz.func87 (by kernel_rfl) (by kernel_rfl) (by kernel_rfl) (by kernel_rfl) (by kernel_rfl) (by kernel_rfl) (m87 h v0 v1 v2 G r hr)
/-- (*coxswain/ready.work).pin$1 -/
noncomputable def s88 (q : Bool) (e : Ex) (v0 : Value) (G : GS) : Option (Value × GS) :=
  bP (ld Q q 105 v0 (G.room 12)) fun x0 =>
  bP (pNil x0) fun x1 =>
  bP (fa Q q 40 0 0 x1) fun x2 =>
  bP (fa Q q 36 3 3 x2) fun x3 =>
  bP (fa Q q 34 1 6 x3) fun x4 =>
  bP (lda Q q 32 3 x4 (G.room 12)) fun x5 =>
  bP (ld Q q 105 v0 (G.room 12)) fun x6 =>
  bP (pNil x6) fun x7 =>
  bP (fa Q q 40 1 13 x7) fun x8 =>
  bP (ld Q q 3 x8 (G.room 12)) fun x9 =>
  bS (e.ev.cl 89 [x5, x9] (G.room 12)) fun x11 G10 =>
  some (x11, G10)
theorem m88 {e : Ex} {E : Ev} (h : ExLe Q e E) (v0 : Value) (G : GS) : Ref (s88 true e v0 G) (s88 false (Ex.of E) v0 G) := by
  unfold s88
  exact Ref.go
theorem f88 {orc : FuncId → Bool} {e : Ex} (h : ExLe Q e (E orc)) (v0 : Value) (G : GS) : Ref (s88 true e v0 G) ((E orc).cl 88 [v0] G) :=
  fun r hr => cl_sxE_some Q orc (vs := [v0]) G Tryz.func88 (by kernel_rfl) (by kernel_rfl) (by kernel_rfl) (by kernel_rfl) (by kernel_rfl) (by kernel_rfl) (m88 h v0 G r hr)
/-- coxswain/epoch.NewPin -/
noncomputable def s89 (q : Bool) (e : Ex) (v0 v1 : Value) (G : GS) : Option (Value × GS) :=
  bS (bx q v0 G) fun x0 G1 =>
  bP (bd Q q 231 z231 [(2, 4, 1)] [(.bool true)]) fun x2 =>
  bP (lda Q q 32 3 x0 G1) fun x3 =>
  bP (bd Q q 235 z235 [(0, 0, 6), (1, 6, 3)] [x2, x3]) fun x4 =>
  bS (bx q x4 G1) fun x5 G6 =>
  bP (lda Q q 32 3 x0 G6) fun x7 =>
  bS (e.ev.cl 134 [x7, v1] G6) fun x8 G9 =>
  ifV x8 (
  bP (pNil x5) fun x10 =>
  bP (fa Q q 235 0 0 x10) fun x11 =>
  bS (e.ev.cl 135 [x11, (.int .i64 3)] G9) fun x12 G13 =>
  some (x5, G13)) (
  bP (fa Q q 32 1 1 x0) fun x14 =>
  bP (ld Q q 3 x14 G9) fun x15 =>
  bP (bn Q q .add 3 (.tmp 20) (.tmp 21) x15 v1) fun x16 =>
  bP (pNil x5) fun x17 =>
  bP (fa Q q 235 2 9 x17) fun x18 =>
  bP (st Q q 3 1 x18 x16 G9) fun G19 =>
  bP (bd Q q 229 z229 [(0, 0, 1), (1, 1, 1), (2, 2, 1)] [(.func (.func 136) #[x5] #[]), (.func (.func 137) #[x5] #[]), (.func (.func 138) #[x5] #[])]) fun x20 =>
  bP (pNil x5) fun x21 =>
  bP (fa Q q 235 0 0 x21) fun x22 =>
  bP (fa Q q 231 0 0 x22) fun x23 =>
  bP (st Q q 229 3 x23 x20 G19) fun G24 =>
  some (x5, G24))
theorem m89 {e : Ex} {E : Ev} (h : ExLe Q e E) (v0 v1 : Value) (G : GS) : Ref (s89 true e v0 v1 G) (s89 false (Ex.of E) v0 v1 G) := by
  unfold s89
  exact Ref.go
theorem f89 {orc : FuncId → Bool} {e : Ex} (h : ExLe Q e (E orc)) (v0 v1 : Value) (G : GS) : Ref (s89 true e v0 v1 G) ((E orc).cl 89 [v0, v1] G) :=
  fun r hr => cl_sxE_some Q orc (vs := [v0, v1]) G Tryz.func89 (by kernel_rfl) (by kernel_rfl) (by kernel_rfl) (by kernel_rfl) (by kernel_rfl) (by kernel_rfl) (m89 h v0 v1 G r hr)
/-- (*coxswain/ready.work).pin$2 -/
noncomputable def s90 (q : Bool) (e : Ex) (v0 v1 : Value) (G : GS) : Option (Value × GS) :=
  bP (ld Q q 105 v1 (G.room 9)) fun x0 =>
  bS (e.ev.cl 91 [v0] (G.room 9)) fun x2 G1 =>
  chk ((sameO (ld Q q 105 v1 G1) x0 && true)) <|
  bP (pExtract x2 0) fun x3 =>
  bP (pExtract x2 1) fun x4 =>
  bP (pNil x0) fun x5 =>
  bP (fa Q q 40 3 15 x5) fun x6 =>
  bP (st Q q 3 1 x6 x3 G1) fun G7 =>
  some (.tuple #[], G7)
theorem m90 {e : Ex} {E : Ev} (h : ExLe Q e E) (v0 v1 : Value) (G : GS) : Ref (s90 true e v0 v1 G) (s90 false (Ex.of E) v0 v1 G) := by
  unfold s90
  exact Ref.go
theorem f90 {orc : FuncId → Bool} {e : Ex} (h : ExLe Q e (E orc)) (v0 v1 : Value) (G : GS) : Ref (s90 true e v0 v1 G) ((E orc).cl 90 [v0, v1] G) :=
  fun r hr => cl_sxE_some Q orc (vs := [v0, v1]) G Tryz.func90 (by kernel_rfl) (by kernel_rfl) (by kernel_rfl) (by kernel_rfl) (by kernel_rfl) (by kernel_rfl) (m90 h v0 v1 G r hr)
/-- (*coxswain/epoch.Pin).At -/
noncomputable def s91 (q : Bool) (e : Ex) (v0 : Value) (G : GS) : Option (Value × GS) :=
  bP (ep Q q false 158 (.tmp 5) (.const (.pointer none)) v0 (.pointer none)) fun x0 =>
  ifV x0 (
  some (.tuple #[(.int .i64 0), (.int .i64 1)], G)) (
  bP (pNil v0) fun x1 =>
  bP (fa Q q 235 0 0 x1) fun x2 =>
  bS (e.ev.cl 139 [x2] G) fun x3 G4 =>
  bP (bn Q q .neq 23 (.tmp 11) (.const (.int .i64 0)) x3 (.int .i64 0)) fun x5 =>
  ifV x5 (
  some (.tuple #[(.int .i64 0), x3], G4)) (
  bP (pNil v0) fun x6 =>
  bP (fa Q q 235 3 10 x6) fun x7 =>
  bP (ld Q q 233 x7 G4) fun x8 =>
  bP (cv Q q 233 3 .u32 .i64 x8) fun x9 =>
  some (.tuple #[x9, (.int .i64 0)], G4)))
theorem m91 {e : Ex} {E : Ev} (h : ExLe Q e E) (v0 : Value) (G : GS) : Ref (s91 true e v0 G) (s91 false (Ex.of E) v0 G) := by
  unfold s91
  exact Ref.go
theorem f91 {orc : FuncId → Bool} {e : Ex} (h : ExLe Q e (E orc)) (v0 : Value) (G : GS) : Ref (s91 true e v0 G) ((E orc).cl 91 [v0] G) :=
  fun r hr => cl_sxE_some Q orc (vs := [v0]) G Tryz.func91 (by kernel_rfl) (by kernel_rfl) (by kernel_rfl) (by kernel_rfl) (by kernel_rfl) (by kernel_rfl) (m91 h v0 G r hr)
/-- (*coxswain/ready.Put).alloc$1 -/
noncomputable def s92 (q : Bool) (e : Ex) (v0 : Value) (G : GS) : Option (Value × GS) :=
  bP (ld Q q 26 v0 G) fun x0 =>
  bP (pNil x0) fun x1 =>
  bP (fa Q q 42 0 0 x1) fun x2 =>
  bP (fa Q q 40 0 0 x2) fun x3 =>
  bP (fa Q q 36 3 3 x3) fun x4 =>
  bP (fa Q q 34 0 0 x4) fun x5 =>
  bP (lda Q q 30 6 x5 G) fun x6 =>
  bS (e.ev.cl 93 [x6] G) fun x7 G8 =>
  some (x7, G8)
theorem m92 {e : Ex} {E : Ev} (h : ExLe Q e E) (v0 : Value) (G : GS) : Ref (s92 true e v0 G) (s92 false (Ex.of E) v0 G) := by
  unfold s92
  exact Ref.go
theorem f92 {orc : FuncId → Bool} {e : Ex} (h : ExLe Q e (E orc)) (v0 : Value) (G : GS) : Ref (s92 true e v0 G) ((E orc).cl 92 [v0] G) :=
  fun r hr => cl_sxE_some Q orc (vs := [v0]) G Tryz.func92 (by kernel_rfl) (by kernel_rfl) (by kernel_rfl) (by kernel_rfl) (by kernel_rfl) (by kernel_rfl) (m92 h v0 G r hr)
/-- coxswain/arena.NewAlloc -/
noncomputable def s93 (q : Bool) (e : Ex) (v0 : Value) (G : GS) : Option (Value × GS) :=
  bS (bx q v0 G) fun x0 G1 =>
  bP (fa Q q 30 0 0 x0) fun x2 =>
  bP (lda Q q 28 3 x2 (G1.room 7)) fun x3 =>
  bS (e.ev.cl 140 [x3] (G1.room 7)) fun x5 G4 =>
  bP (lda Q q 30 6 x0 G4) fun x6 =>
  chk ((sameO (lda Q q 30 6 x0 (G1.room 7)) x6 && true)) <|
  bP (bd Q q 241 z241 [(0, 0, 1), (1, 1, 6), (2, 7, 1), (3, 8, 1)] [x5, x6, (.bool true), (.func (.func 141) #[] #[])]) fun x7 =>
  bS (bx q x7 (G4.at' (G1.nx + 5))) fun x8 G9 =>
  some (x8, (G9.back G4))
theorem m93 {e : Ex} {E : Ev} (h : ExLe Q e E) (v0 : Value) (G : GS) : Ref (s93 true e v0 G) (s93 false (Ex.of E) v0 G) := by
  unfold s93
  exact Ref.go
theorem f93 {orc : FuncId → Bool} {e : Ex} (h : ExLe Q e (E orc)) (v0 : Value) (G : GS) : Ref (s93 true e v0 G) ((E orc).cl 93 [v0] G) :=
  fun r hr => cl_sxE_some Q orc (vs := [v0]) G Tryz.func93 (by kernel_rfl) (by kernel_rfl) (by kernel_rfl) (by kernel_rfl) (by kernel_rfl) (by kernel_rfl) (m93 h v0 G r hr)
noncomputable def b94_0 (q : Bool) (e : Ex) (lp : Env → GS → Option (Exit × Env × GS)) (τ : Env) (G : GS) : Option (Exit × Env × GS) :=
  bV q (τ 2) fun a2_ =>
  bV q (τ 5) fun a5_ =>
  bV q (τ 27) fun a27_ =>
  bV q (τ 28) fun a28_ =>
  bV q (τ 29) fun a29_ =>
  bP (bn Q q .lss 3 (.tmp 29) (.tmp 28) a29_ a28_) fun x0 =>
  ifV x0 (
  bP (ias Q q 244 1 a27_ a29_) fun x1 =>
  bP (ld Q q 109 x1 G) fun x2 =>
  bP (bn Q q .eql 23 (.tmp 33) (.const (.int .i64 7)) a5_ (.int .i64 7)) fun x3 =>
  bS (gd x3 true (bP (ld Q q 26 a2_ G) fun y => some (y, G)) G) fun x4 G5 =>
  bS (gd x3 true (bP (pNil x4) fun y => some (y, G5)) G5) fun x6 G7 =>
  bS (gd x3 true (bP (fa Q q 42 4 22 x6) fun y => some (y, G7)) G7) fun x8 G9 =>
  bS (gd x3 true (bP (ld Q q 3 x8 G9) fun y => some (y, G9)) G9) fun x10 G11 =>
  bS (gd x3 true (bP (bn Q q .lss 3 (.tmp 39) (.const (.int .i64 3)) x10 (.int .i64 3)) fun y => some (y, G11)) G11) fun x12 G13 =>
  bP (pickV x3 x12 (.bool false)) fun x14 =>
  ifV x14 (
  bP (ld Q q 26 a2_ G13) fun x15 =>
  bP (pNil x15) fun x16 =>
  bP (fa Q q 42 4 22 x16) fun x17 =>
  bP (ld Q q 3 x17 G13) fun x18 =>
  bP (bn Q q .add 3 (.tmp 45) (.const (.int .i64 1)) x18 (.int .i64 1)) fun x19 =>
  bP (pNil x15) fun x20 =>
  bP (fa Q q 42 4 22 x20) fun x21 =>
  bP (st Q q 3 1 x21 x19 G13) fun G22 =>
  bP (ld Q q 26 a2_ (G22.room 13)) fun x23 =>
  bP (pNil x23) fun x24 =>
  bP (fa Q q 42 0 0 x24) fun x25 =>
  bP (ld Q q 26 a2_ (G22.room 13)) fun x26 =>
  bP (pNil x26) fun x27 =>
  bP (fa Q q 42 0 0 x27) fun x28 =>
  bP (ld Q q 26 a2_ (G22.room 13)) fun x29 =>
  bS (bs Q q 244 4 (rep z109 4) 1 [(0, 0, 1), (1, 1, 1), (2, 2, 1), (3, 3, 1)] [(.func (.func 145) #[] #[a2_]), (.func (.func 64) #[x25] #[]), (.func (.func 48) #[x28] #[]), (.func (.func 49) #[x29] #[])] ((G22.room 13).at' (G22.nx + 11))) fun x30 G31 =>
  some ((.goto 0), clq q 91 (tu τ [(2, a2_), (5, (.int .i64 0)), (27, a27_), (28, a28_), (29, a29_), (6, x30), (8, x2), (30, x0), (31, x1), (32, x2), (33, a5_), (34, x3), (35, x3), (36, x4), (37, x6), (38, x8), (39, x10), (40, x12), (41, x14), (42, x15), (43, x16), (44, x17), (45, x18), (46, x19), (47, x20), (48, x21), (49, (.func (.func 145) #[] #[a2_])), (50, x23), (51, x24), (52, x25), (53, (.func (.func 64) #[x25] #[])), (54, x26), (55, x27), (56, x28), (57, (.func (.func 48) #[x28] #[])), (58, x29), (59, (.func (.func 49) #[x29] #[])), (60, x30)]), (G31.back (G22.room 13)))) (
  bP (bn Q q .neq 23 (.tmp 61) (.const (.int .i64 0)) a5_ (.int .i64 0)) fun x32 =>
  ifV x32 (
  bP (ld Q q 26 a2_ G13) fun x33 =>
  bP (pNil x33) fun x34 =>
  bP (fa Q q 42 0 0 x34) fun x35 =>
  bP (fa Q q 40 6 18 x35) fun x36 =>
  bP (st Q q 23 1 x36 a5_ G13) fun G37 =>
  bP (ld Q q 26 a2_ (G37.room 10)) fun x38 =>
  bP (ld Q q 26 a2_ (G37.room 10)) fun x39 =>
  bP (pNil x39) fun x40 =>
  bP (fa Q q 42 0 0 x40) fun x41 =>
  bS (e.ev.cl 64 [x41] (G37.room 10)) fun x43 G42 =>
  chk ((sameO (ld Q q 26 a2_ G42) x38 && true)) <|
  bS (bs Q q 37 1 (rep z108 1) 1 [(0, 0, 1)] [x43] (G42.at' (G37.nx + 5))) fun x44 G45 =>
  bP (pNil x38) fun x46 =>
  bP (fa Q q 42 0 0 x46) fun x47 =>
  bP (fa Q q 40 4 16 x47) fun x48 =>
  bP (st Q q 37 1 x48 x44 (G45.back G42)) fun G49 =>
  some (.ret, clq q 91 (tu τ [(2, a2_), (5, a5_), (27, a27_), (28, a28_), (29, a29_), (8, x2), (30, x0), (31, x1), (32, x2), (33, a5_), (34, x3), (35, x3), (36, x4), (37, x6), (38, x8), (39, x10), (40, x12), (41, x14), (61, a5_), (62, x32), (63, x33), (64, a5_), (65, x34), (66, x35), (67, x36), (68, x38), (69, x39), (70, x40), (71, x41), (72, x43), (73, x44), (74, x46), (75, x47), (76, x48)]), G49)) (
  bP (ld Q q 26 a2_ (G13.room 14)) fun x50 =>
  bP (ld Q q 26 a2_ (G13.room 14)) fun x51 =>
  bP (pNil x51) fun x52 =>
  bP (fa Q q 42 0 0 x52) fun x53 =>
  bP (fa Q q 40 4 16 x53) fun x54 =>
  bP (ld Q q 37 x54 (G13.room 14)) fun x55 =>
  bS (cValue e.ev x2 [] (G13.room 14)) fun x57 G56 =>
  chk ((sameO (ld Q q 37 x54 G56) x55 && (sameO (ld Q q 26 a2_ G56) x51 && (sameO (ld Q q 26 a2_ G56) x50 && true)))) <|
  bS (bs Q q 37 1 (rep z108 1) 1 [(0, 0, 1)] [x57] (G56.at' (G13.nx + 8))) fun x58 G59 =>
  bS (ap Q q 37 37 1 16 x55 x58 (G59.back G56)) fun x61 G60 =>
  chk ((sameO (ld Q q 26 a2_ G60) x50 && true)) <|
  bP (pNil x50) fun x62 =>
  bP (fa Q q 42 0 0 x62) fun x63 =>
  bP (fa Q q 40 4 16 x63) fun x64 =>
  bP (st Q q 37 1 x64 x61 G60) fun G65 =>
  bP (bn Q q .add 3 (.tmp 29) (.const (.int .i64 1)) a29_ (.int .i64 1)) fun x66 =>
  lp (tu τ [(2, a2_), (5, a5_), (27, a27_), (28, a28_), (29, x66), (8, x2), (30, x0), (31, x1), (32, x2), (33, a5_), (34, x3), (35, x3), (36, x4), (37, x6), (38, x8), (39, x10), (40, x12), (41, x14), (61, a5_), (62, x32), (77, x50), (78, x51), (79, x52), (80, x53), (81, x54), (82, x55), (83, x2), (84, x57), (85, x58), (86, x61), (87, x62), (88, x63), (89, x64), (90, x66)]) G65))) (
  some ((.exit 0), clq q 91 (tu τ [(2, a2_), (5, a5_), (27, a27_), (28, a28_), (29, a29_), (30, x0)]), G))
theorem mb94_0 {e : Ex} {E : Ev} (h : ExLe Q e E) {lp lp' : Env → GS → Option (Exit × Env × GS)} (hlp : LpLe lp lp') (τ : Env) (G : GS) : Ref (b94_0 true e lp τ G) (b94_0 false (Ex.of E) lp' τ G) := by
  unfold b94_0
  exact Ref.go
set_option maxHeartbeats 8000000 in
theorem l94_0 {orc : FuncId → Bool} {e : Ex} (h : ExLe Q e (E orc)) (lp : Env → GS → Option (Exit × Env × GS)) (hlp : ∀ τ G, Ref (lp τ G) (mapE ((E orc).lp (subAt [1, 0, 1, 1, 1, 1, 1, 0, 0] (bodyOf Tryz.f94)) (lst 91 τ) G))) (T : List Value) (G : GS) (hT : T.length = 91) : Ref (b94_0 true e lp (nth undef T) G) (mapE ((E orc).lp (subAt [1, 0, 1, 1, 1, 1, 1, 0, 0] (bodyOf Tryz.f94)) T G)) :=
  fun r hr => lp_sxM Q orc G hT (by kernel_rfl) (mb94_0 h ⟨hlp⟩ _ _ r hr)
/-- (*coxswain/ready.Put).given -/
noncomputable def s94 (q : Bool) (e : Ex) (v0 v1 : Value) (G : GS) : Option (Value × GS) :=
  bS (bx q v0 G) fun x0 G1 =>
  bS (e.ev.cl 142 [v1] G1) fun x2 G3 =>
  bP (pExtract x2 0) fun x4 =>
  bP (pExtract x2 1) fun x5 =>
  bP (ld Q q 26 x0 G3) fun x6 =>
  bP (pNil x6) fun x7 =>
  bP (fa Q q 42 5 23 x7) fun x8 =>
  bP (st Q q 38 1 x8 x4 G3) fun G9 =>
  bP (ld Q q 26 x0 (G9.room 10)) fun x10 =>
  bP (ld Q q 26 x0 (G9.room 10)) fun x11 =>
  bP (ld Q q 26 x0 (G9.room 10)) fun x12 =>
  bP (pNil x12) fun x13 =>
  bP (fa Q q 42 0 0 x13) fun x14 =>
  bS (bs Q q 244 3 (rep z109 3) 1 [(0, 0, 1), (1, 1, 1), (2, 2, 1)] [(.func (.func 143) #[x10] #[]), (.func (.func 144) #[x11] #[]), (.func (.func 64) #[x14] #[])] ((G9.room 10).at' (G9.nx + 8))) fun x15 G16 =>
  bP (ln Q q 244 x15) fun x17 =>
  bL q e 94 0 (subAt [1, 0, 1, 1, 1, 1, 1, 0, 0] (bodyOf Tryz.f94)) 91 (tu (nth undef [v0, v1]) [(2, x0), (4, x4), (5, x5), (6, x15), (9, x2), (10, v1), (11, x2), (12, x4), (13, x5), (14, x6), (15, x4), (16, x7), (17, x8), (18, x10), (19, (.func (.func 143) #[x10] #[])), (20, x11), (21, (.func (.func 144) #[x11] #[])), (22, x12), (23, x13), (24, x14), (25, (.func (.func 64) #[x14] #[])), (26, x15), (27, x15), (28, x17), (29, (.int .i64 0))]) (G16.back (G9.room 10)) fun e18 t19 G20 =>
  ifE e18 (.exit 0) (
  some (.tuple #[], G20)) (ifE e18 (.goto 0) (
  bX (e.ev.sc (subAt [1, 0] (bodyOf Tryz.f94)) (labelAt 0 (subAt [1, 0] (bodyOf Tryz.f94))) (lst 91 t19) G20) fun e21 T22 G23 =>
  ifE e21 .normal (
  some (.tuple #[], G23)) (ifE e21 (.goto 0) (
  none) (ifE e21 .ret (
  some (.tuple #[], G23)) (none)))) (ifE e18 .ret (
  some (.tuple #[], G20)) (none)))
theorem m94 {e : Ex} {E : Ev} (h : ExLe Q e E) (v0 v1 : Value) (G : GS) : Ref (s94 true e v0 v1 G) (s94 false (Ex.of E) v0 v1 G) := by
  unfold s94
  exact Ref.go
set_option maxHeartbeats 8000000 in
theorem f94 {orc : FuncId → Bool} {e : Ex} (h : ExLe Q e (E orc)) (v0 v1 : Value) (G : GS) : Ref (s94 true e v0 v1 G) ((E orc).cl 94 [v0, v1] G) :=
  fun r hr => cl_sxE_some Q orc (vs := [v0, v1]) G Tryz.func94 (by kernel_rfl) (by kernel_rfl) (by kernel_rfl) (by kernel_rfl) (by kernel_rfl) (by kernel_rfl) (m94 h v0 v1 G r hr)
/-- coxswain/coxswainlaw19.filled -/
noncomputable def s95 (q : Bool) (e : Ex) (v0 v1 : Value) (G : GS) : Option (Value × GS) :=
  bS (bx q v0 G) fun x0 G1 =>
  bS (e.ev.cl 6 [v1] G1) fun x2 G3 =>
  bP (pExtract x2 0) fun x4 =>
  bP (pExtract x2 1) fun x5 =>
  bP (bn Q q .neq 23 (.tmp 12) (.const (.int .i64 0)) x5 (.int .i64 0)) fun x6 =>
  bS (gd x6 false (some (x4, G3)) G3) fun x7 G8 =>
  bS (gd x6 false (bP (ep Q q false 22 (.tmp 15) (.const (.pointer none)) x7 (.pointer none)) fun y => some (y, G8)) G8) fun x9 G10 =>
  bP (pickV x6 (.bool true) x9) fun x11 =>
  ifV x11 (
  some ((.pointer none), G10)) (
  bP (lda Q q 36 13 x0 G10) fun x12 =>
  bS (e.ev.cl 53 [x12, x4] G10) fun x13 G14 =>
  some (x4, G14))
theorem m95 {e : Ex} {E : Ev} (h : ExLe Q e E) (v0 v1 : Value) (G : GS) : Ref (s95 true e v0 v1 G) (s95 false (Ex.of E) v0 v1 G) := by
  unfold s95
  exact Ref.go
theorem f95 {orc : FuncId → Bool} {e : Ex} (h : ExLe Q e (E orc)) (v0 v1 : Value) (G : GS) : Ref (s95 true e v0 v1 G) ((E orc).cl 95 [v0, v1] G) :=
  fun r hr => cl_sxE_some Q orc (vs := [v0, v1]) G Tryz.func95 (by kernel_rfl) (by kernel_rfl) (by kernel_rfl) (by kernel_rfl) (by kernel_rfl) (by kernel_rfl) (m95 h v0 v1 G r hr)
noncomputable def b96_0 (q : Bool) (e : Ex) (lp : Env → GS → Option (Exit × Env × GS)) (τ : Env) (G : GS) : Option (Exit × Env × GS) :=
  bV q (τ 1) fun a1_ =>
  bV q (τ 14) fun a14_ =>
  bV q (τ 15) fun a15_ =>
  bP (bn Q q .lss 3 (.tmp 22) (.const (.int .i64 4000)) a15_ (.int .i64 4000)) fun x0 =>
  bS (gd x0 true (some (a14_, G)) G) fun x1 G2 =>
  bS (gd x0 true (some (a1_, G2)) G2) fun x3 G4 =>
  bS (gd x0 true (bS (e.ev.cl 10 [x1, x3] G4) fun y G => some (y, G)) G4) fun x5 G6 =>
  bS (gd x0 true (bP (un Q q .not x5) fun y => some (y, G6)) G6) fun x7 G8 =>
  bP (pickV x0 x7 (.bool false)) fun x9 =>
  ifV x9 (
  bP (bn Q q .add 3 (.tmp 30) (.const (.int .i64 1)) a15_ (.int .i64 1)) fun x10 =>
  lp (tu τ [(1, a1_), (14, a14_), (15, x10), (22, a15_), (23, x0), (24, x0), (25, x1), (26, x3), (27, x5), (28, x7), (29, x9), (30, a15_), (31, x10)]) G8) (
  some ((.exit 0), clq q 35 (tu τ [(1, a1_), (14, a14_), (15, a15_), (22, a15_), (23, x0), (24, x0), (25, x1), (26, x3), (27, x5), (28, x7), (29, x9)]), G8))
theorem mb96_0 {e : Ex} {E : Ev} (h : ExLe Q e E) {lp lp' : Env → GS → Option (Exit × Env × GS)} (hlp : LpLe lp lp') (τ : Env) (G : GS) : Ref (b96_0 true e lp τ G) (b96_0 false (Ex.of E) lp' τ G) := by
  unfold b96_0
  exact Ref.go
theorem l96_0 {orc : FuncId → Bool} {e : Ex} (h : ExLe Q e (E orc)) (lp : Env → GS → Option (Exit × Env × GS)) (hlp : ∀ τ G, Ref (lp τ G) (mapE ((E orc).lp (subAt [1, 1, 1, 0, 0, 0] (bodyOf Tryz.f96)) (lst 35 τ) G))) (T : List Value) (G : GS) (hT : T.length = 35) : Ref (b96_0 true e lp (nth undef T) G) (mapE ((E orc).lp (subAt [1, 1, 1, 0, 0, 0] (bodyOf Tryz.f96)) T G)) :=
  fun r hr => lp_sxM Q orc G hT (by kernel_rfl) (mb96_0 h ⟨hlp⟩ _ _ r hr)
/-- coxswain/coxswainlaw19.put -/
noncomputable def s96 (q : Bool) (e : Ex) (v0 v1 v2 v3 v4 v5 : Value) (G : GS) : Option (Value × GS) :=
  bS (bx q v0 G) fun x0 G1 =>
  bP (lda Q q 36 13 x0 G1) fun x2 =>
  bS (e.ev.cl 15 [x2, v2, v3, v4, v5] G1) fun x3 G4 =>
  bL q e 96 0 (subAt [1, 1, 1, 0, 0, 0] (bodyOf Tryz.f96)) 35 (tu (nth undef [v0, v1, v2, v3, v4, v5]) [(6, x0), (12, (.int .i64 0)), (13, (.int .i64 0)), (14, x3), (15, (.int .i64 1)), (16, x2), (17, v2), (18, v3), (19, v4), (20, v5), (21, x3)]) G4 fun e5 t6 G7 =>
  bV q (t6 14) fun t6x14_ =>
  bV q (t6 15) fun t6x15_ =>
  ifE e5 (.exit 0) (
  bS (e.ev.cl 14 [t6x14_] G7) fun x8 G9 =>
  some (.tuple #[x8, t6x15_], G9)) (none)
theorem m96 {e : Ex} {E : Ev} (h : ExLe Q e E) (v0 v1 v2 v3 v4 v5 : Value) (G : GS) : Ref (s96 true e v0 v1 v2 v3 v4 v5 G) (s96 false (Ex.of E) v0 v1 v2 v3 v4 v5 G) := by
  unfold s96
  exact Ref.go
theorem f96 {orc : FuncId → Bool} {e : Ex} (h : ExLe Q e (E orc)) (v0 v1 v2 v3 v4 v5 : Value) (G : GS) : Ref (s96 true e v0 v1 v2 v3 v4 v5 G) ((E orc).cl 96 [v0, v1, v2, v3, v4, v5] G) :=
  fun r hr => cl_sxE_some Q orc (vs := [v0, v1, v2, v3, v4, v5]) G Tryz.func96 (by kernel_rfl) (by kernel_rfl) (by kernel_rfl) (by kernel_rfl) (by kernel_rfl) (by kernel_rfl) (m96 h v0 v1 v2 v3 v4 v5 G r hr)
noncomputable def b97_0 (q : Bool) (e : Ex) (lp : Env → GS → Option (Exit × Env × GS)) (τ : Env) (G : GS) : Option (Exit × Env × GS) :=
  bV q (τ 1) fun a1_ =>
  bV q (τ 8) fun a8_ =>
  bV q (τ 9) fun a9_ =>
  bP (bn Q q .lss 3 (.tmp 13) (.const (.int .i64 4000)) a9_ (.int .i64 4000)) fun x0 =>
  bS (gd x0 true (some (a8_, G)) G) fun x1 G2 =>
  bS (gd x0 true (some (a1_, G2)) G2) fun x3 G4 =>
  bS (gd x0 true (bS (e.ev.cl 11 [x1, x3] G4) fun y G => some (y, G)) G4) fun x5 G6 =>
  bS (gd x0 true (bP (un Q q .not x5) fun y => some (y, G6)) G6) fun x7 G8 =>
  bP (pickV x0 x7 (.bool false)) fun x9 =>
  ifV x9 (
  bS (e.ev.cl 18 [a1_] G8) fun x10 G11 =>
  bP (bn Q q .add 3 (.tmp 21) (.const (.int .i64 1)) a9_ (.int .i64 1)) fun x12 =>
  lp (tu τ [(1, a1_), (8, a8_), (9, x12), (13, a9_), (14, x0), (15, x0), (16, x1), (17, x3), (18, x5), (19, x7), (20, x9), (21, a9_), (22, x12), (23, a1_), (24, x10)]) G11) (
  some ((.exit 0), clq q 29 (tu τ [(1, a1_), (8, a8_), (9, a9_), (13, a9_), (14, x0), (15, x0), (16, x1), (17, x3), (18, x5), (19, x7), (20, x9)]), G8))
theorem mb97_0 {e : Ex} {E : Ev} (h : ExLe Q e E) {lp lp' : Env → GS → Option (Exit × Env × GS)} (hlp : LpLe lp lp') (τ : Env) (G : GS) : Ref (b97_0 true e lp τ G) (b97_0 false (Ex.of E) lp' τ G) := by
  unfold b97_0
  exact Ref.go
theorem l97_0 {orc : FuncId → Bool} {e : Ex} (h : ExLe Q e (E orc)) (lp : Env → GS → Option (Exit × Env × GS)) (hlp : ∀ τ G, Ref (lp τ G) (mapE ((E orc).lp (subAt [1, 1, 0, 1, 0, 0] (bodyOf Tryz.f97)) (lst 29 τ) G))) (T : List Value) (G : GS) (hT : T.length = 29) : Ref (b97_0 true e lp (nth undef T) G) (mapE ((E orc).lp (subAt [1, 1, 0, 1, 0, 0] (bodyOf Tryz.f97)) T G)) :=
  fun r hr => lp_sxM Q orc G hT (by kernel_rfl) (mb97_0 h ⟨hlp⟩ _ _ r hr)
/-- coxswain/coxswainlaw19.pick -/
noncomputable def s97 (q : Bool) (e : Ex) (v0 v1 v2 : Value) (G : GS) : Option (Value × GS) :=
  bS (bx q v0 G) fun x0 G1 =>
  bS (al Q q 46 z46 G1) fun x2 G3 =>
  bP (lda Q q 36 13 x0 G3) fun x4 =>
  bS (e.ev.cl 25 [x4, v2] G3) fun x5 G6 =>
  bL q e 97 0 (subAt [1, 1, 0, 1, 0, 0] (bodyOf Tryz.f97)) 29 (tu (nth undef [v0, v1, v2]) [(3, x0), (6, x2), (7, (.int .i64 0)), (8, x5), (9, (.int .i64 1)), (10, x4), (11, v2), (12, x5)]) G6 fun e7 t8 G9 =>
  bV q (t8 6) fun t8x6_ =>
  bV q (t8 8) fun t8x8_ =>
  ifE e7 (.exit 0) (
  bS (e.ev.cl 7 [t8x8_] G9) fun x10 G11 =>
  bP (pExtract x10 0) fun x12 =>
  bP (pExtract x10 1) fun x13 =>
  bP (st Q q 46 2 t8x6_ x12 G11) fun G14 =>
  bP (lda Q q 46 2 t8x6_ G14) fun x15 =>
  some (.tuple #[x15, x13], G14)) (none)
theorem m97 {e : Ex} {E : Ev} (h : ExLe Q e E) (v0 v1 v2 : Value) (G : GS) : Ref (s97 true e v0 v1 v2 G) (s97 false (Ex.of E) v0 v1 v2 G) := by
  unfold s97
  exact Ref.go
theorem f97 {orc : FuncId → Bool} {e : Ex} (h : ExLe Q e (E orc)) (v0 v1 v2 : Value) (G : GS) : Ref (s97 true e v0 v1 v2 G) ((E orc).cl 97 [v0, v1, v2] G) :=
  fun r hr => cl_sxE_some Q orc (vs := [v0, v1, v2]) G Tryz.func97 (by kernel_rfl) (by kernel_rfl) (by kernel_rfl) (by kernel_rfl) (by kernel_rfl) (by kernel_rfl) (m97 h v0 v1 v2 G r hr)
/-- coxswain/tower.sound -/
noncomputable def s98 (q : Bool) (e : Ex) (v0 : Value) (G : GS) : Option (Value × GS) :=
  bS (bx q v0 G) fun x0 G1 =>
  bP (fa Q q 36 3 3 x0) fun x2 =>
  bP (fa Q q 34 0 0 x2) fun x3 =>
  bP (fa Q q 30 0 0 x3) fun x4 =>
  bP (fa Q q 28 2 2 x4) fun x5 =>
  bP (ld Q q 3 x5 G1) fun x6 =>
  bP (fa Q q 36 2 2 x0) fun x7 =>
  bP (ld Q q 3 x7 G1) fun x8 =>
  bP (bn Q q .geq 3 (.tmp 10) (.const (.int .i64 1)) x8 (.int .i64 1)) fun x9 =>
  bS (gd x9 true (bP (fa Q q 36 2 2 x0) fun y => some (y, G1)) G1) fun x10 G11 =>
  bS (gd x9 true (bP (ld Q q 3 x10 G11) fun y => some (y, G11)) G11) fun x12 G13 =>
  bS (gd x9 true (bP (bn Q q .leq 3 (.tmp 14) (.const (.int .i64 4)) x12 (.int .i64 4)) fun y => some (y, G13)) G13) fun x14 G15 =>
  bP (pickV x9 x14 (.bool false)) fun x16 =>
  bS (gd x16 true (some (x6, G15)) G15) fun x17 G18 =>
  bS (gd x16 true (bP (bn Q q .geq 3 (.tmp 18) (.const (.int .i64 1)) x17 (.int .i64 1)) fun y => some (y, G18)) G18) fun x19 G20 =>
  bP (pickV x16 x19 (.bool false)) fun x21 =>
  bS (gd x21 true (some (x6, G20)) G20) fun x22 G23 =>
  bS (gd x21 true (bP (bn Q q .leq 3 (.tmp 22) (.const (.int .i64 128)) x22 (.int .i64 128)) fun y => some (y, G23)) G23) fun x24 G25 =>
  bP (pickV x21 x24 (.bool false)) fun x26 =>
  bS (gd x26 true (bP (fa Q q 36 0 0 x0) fun y => some (y, G25)) G25) fun x27 G28 =>
  bS (gd x26 true (bP (ld Q q 3 x27 G28) fun y => some (y, G28)) G28) fun x29 G30 =>
  bS (gd x26 true (bP (bn Q q .geq 3 (.tmp 27) (.const (.int .i64 0)) x29 (.int .i64 0)) fun y => some (y, G30)) G30) fun x31 G32 =>
  bP (pickV x26 x31 (.bool false)) fun x33 =>
  bS (gd x33 true (bP (fa Q q 36 0 0 x0) fun y => some (y, G32)) G32) fun x34 G35 =>
  bS (gd x33 true (bP (ld Q q 3 x34 G35) fun y => some (y, G35)) G35) fun x36 G37 =>
  bS (gd x33 true (bP (bn Q q .lss 3 (.tmp 32) (.const (.int .i64 4096)) x36 (.int .i64 4096)) fun y => some (y, G37)) G37) fun x38 G39 =>
  bP (pickV x33 x38 (.bool false)) fun x40 =>
  bS (gd x40 true (bP (fa Q q 36 1 1 x0) fun y => some (y, G39)) G39) fun x41 G42 =>
  bS (gd x40 true (bP (ld Q q 3 x41 G42) fun y => some (y, G42)) G42) fun x43 G44 =>
  bS (gd x40 true (bP (bn Q q .geq 3 (.tmp 37) (.const (.int .i64 0)) x43 (.int .i64 0)) fun y => some (y, G44)) G44) fun x45 G46 =>
  bP (pickV x40 x45 (.bool false)) fun x47 =>
  bS (gd x47 true (bP (fa Q q 36 1 1 x0) fun y => some (y, G46)) G46) fun x48 G49 =>
  bS (gd x47 true (bP (ld Q q 3 x48 G49) fun y => some (y, G49)) G49) fun x50 G51 =>
  bS (gd x47 true (bP (bn Q q .lss 3 (.tmp 42) (.const (.int .i64 4096)) x50 (.int .i64 4096)) fun y => some (y, G51)) G51) fun x52 G53 =>
  bP (pickV x47 x52 (.bool false)) fun x54 =>
  some (x54, G53)
theorem m98 {e : Ex} {E : Ev} (h : ExLe Q e E) (v0 : Value) (G : GS) : Ref (s98 true e v0 G) (s98 false (Ex.of E) v0 G) := by
  unfold s98
  exact Ref.go
theorem f98 {orc : FuncId → Bool} {e : Ex} (h : ExLe Q e (E orc)) (v0 : Value) (G : GS) : Ref (s98 true e v0 G) ((E orc).cl 98 [v0] G) :=
  fun r hr => cl_sxE_some Q orc (vs := [v0]) G Tryz.func98 (by kernel_rfl) (by kernel_rfl) (by kernel_rfl) (by kernel_rfl) (by kernel_rfl) (by kernel_rfl) (m98 h v0 G r hr)
noncomputable def b99_0 (q : Bool) (e : Ex) (lp : Env → GS → Option (Exit × Env × GS)) (τ : Env) (G : GS) : Option (Exit × Env × GS) :=
  bV q (τ 1) fun a1_ =>
  bV q (τ 2) fun a2_ =>
  bV q (τ 13) fun a13_ =>
  bP (bn Q q .lss 3 (.tmp 13) (.const (.int .i64 3)) a13_ (.int .i64 3)) fun x0 =>
  ifV x0 (
  bP (lda Q q 34 10 a2_ G) fun x1 =>
  bS (e.ev.cl 149 [a13_, x1] G) fun x2 G3 =>
  bP (fd Q q 28 0 0 x2) fun x4 =>
  bS (e.ev.cl 29 [a1_, x4, (.int .u64 0)] G3) fun x5 G6 =>
  bP (bn Q q .add 3 (.tmp 13) (.const (.int .i64 1)) a13_ (.int .i64 1)) fun x7 =>
  lp (tu τ [(1, a1_), (2, a2_), (13, x7), (4, a13_), (14, x0), (15, a13_), (16, a1_), (17, a13_), (18, x1), (19, x2), (20, x4), (21, x5), (22, x7)]) G6) (
  some ((.exit 0), clq q 23 (tu τ [(1, a1_), (2, a2_), (13, a13_), (14, x0)]), G))
theorem mb99_0 {e : Ex} {E : Ev} (h : ExLe Q e E) {lp lp' : Env → GS → Option (Exit × Env × GS)} (hlp : LpLe lp lp') (τ : Env) (G : GS) : Ref (b99_0 true e lp τ G) (b99_0 false (Ex.of E) lp' τ G) := by
  unfold b99_0
  exact Ref.go
theorem l99_0 {orc : FuncId → Bool} {e : Ex} (h : ExLe Q e (E orc)) (lp : Env → GS → Option (Exit × Env × GS)) (hlp : ∀ τ G, Ref (lp τ G) (mapE ((E orc).lp (subAt [1, 1, 1, 1, 0, 0] (bodyOf Tryz.f99)) (lst 23 τ) G))) (T : List Value) (G : GS) (hT : T.length = 23) : Ref (b99_0 true e lp (nth undef T) G) (mapE ((E orc).lp (subAt [1, 1, 1, 1, 0, 0] (bodyOf Tryz.f99)) T G)) :=
  fun r hr => lp_sxM Q orc G hT (by kernel_rfl) (mb99_0 h ⟨hlp⟩ _ _ r hr)
/-- coxswain/limbo.Fill -/
noncomputable def s99 (q : Bool) (e : Ex) (v0 v1 : Value) (G : GS) : Option (Value × GS) :=
  bS (bx q v0 G) fun x0 G1 =>
  bP (fa Q q 34 0 0 x0) fun x2 =>
  bP (lda Q q 30 6 x2 G1) fun x3 =>
  bS (e.ev.cl 147 [x3, v1] G1) fun x4 G5 =>
  bP (fa Q q 34 1 6 x0) fun x6 =>
  bP (lda Q q 32 3 x6 G5) fun x7 =>
  bS (e.ev.cl 148 [x7, v1] G5) fun x8 G9 =>
  bL q e 99 0 (subAt [1, 1, 1, 1, 0, 0] (bodyOf Tryz.f99)) 23 (tu (nth undef [v0, v1]) [(2, x0), (5, x2), (6, x3), (7, v1), (8, x4), (9, x6), (10, x7), (11, v1), (12, x8), (13, (.int .i64 0))]) G9 fun e10 t11 G12 =>
  ifE e10 (.exit 0) (
  some (.tuple #[], G12)) (none)
theorem m99 {e : Ex} {E : Ev} (h : ExLe Q e E) (v0 v1 : Value) (G : GS) : Ref (s99 true e v0 v1 G) (s99 false (Ex.of E) v0 v1 G) := by
  unfold s99
  exact Ref.go
theorem f99 {orc : FuncId → Bool} {e : Ex} (h : ExLe Q e (E orc)) (v0 v1 : Value) (G : GS) : Ref (s99 true e v0 v1 G) ((E orc).cl 99 [v0, v1] G) :=
  fun r hr => cl_sxE_some Q orc (vs := [v0, v1]) G Tryz.func99 (by kernel_rfl) (by kernel_rfl) (by kernel_rfl) (by kernel_rfl) (by kernel_rfl) (by kernel_rfl) (m99 h v0 v1 G r hr)
/-- coxswain/tower.Next -/
noncomputable def s100 (q : Bool) (e : Ex) (v0 v1 v2 : Value) (G : GS) : Option (Value × GS) :=
  bS (bx q v0 G) fun x0 G1 =>
  bP (bn Q q .lss 3 (.tmp 7) (.const (.int .i64 0)) v2 (.int .i64 0)) fun x2 =>
  bS (gd x2 false (some (v2, G1)) G1) fun x3 G4 =>
  bS (gd x2 false (bP (bn Q q .geq 3 (.tmp 10) (.const (.int .i64 4)) x3 (.int .i64 4)) fun y => some (y, G4)) G4) fun x5 G6 =>
  bP (pickV x2 (.bool true) x5) fun x7 =>
  ifV x7 (
  some ((.int .i64 (-1)), G6)) (
  bP (lda Q q 36 13 x0 G6) fun x8 =>
  bP (bn Q q .add 3 (.const (.int .i64 4)) (.tmp 15) (.int .i64 4) v2) fun x9 =>
  bS (e.ev.cl 87 [x8, v1, x9] G6) fun x10 G11 =>
  some (x10, G11))
theorem m100 {e : Ex} {E : Ev} (h : ExLe Q e E) (v0 v1 v2 : Value) (G : GS) : Ref (s100 true e v0 v1 v2 G) (s100 false (Ex.of E) v0 v1 v2 G) := by
  unfold s100
  exact Ref.go
theorem f100 {orc : FuncId → Bool} {e : Ex} (h : ExLe Q e (E orc)) (v0 v1 v2 : Value) (G : GS) : Ref (s100 true e v0 v1 v2 G) ((E orc).cl 100 [v0, v1, v2] G) :=
  fun r hr => cl_sxE_some Q orc (vs := [v0, v1, v2]) G Tryz.func100 (by kernel_rfl) (by kernel_rfl) (by kernel_rfl) (by kernel_rfl) (by kernel_rfl) (by kernel_rfl) (m100 h v0 v1 v2 G r hr)
/-- coxswain/claim.seek[coxswain/claim.taking] -/
noncomputable def s107 (q : Bool) (e : Ex) (v0 : Value) (G : GS) : Option (Value × GS) :=
  bS (bx q v0 G) fun x0 G1 =>
  bS (al Q q 190 z190 G1) fun x2 G3 =>
  bP (lda Q q 36 13 x0 G3) fun x4 =>
  bS (e.ev.cl 100 [x4, (.int .i64 (-1)), (.int .i64 0)] G3) fun x5 G6 =>
  bP (bn Q q .lss 3 (.tmp 4) (.const (.int .i64 0)) x5 (.int .i64 0)) fun x7 =>
  ifV x7 (
  bP (bd Q q 190 z190 [(8, 24, 1), (2, 17, 1), (9, 25, 1)] [(.bool true), (.int .i64 99), (.int .i64 2)]) fun x8 =>
  bP (st Q q 190 26 x2 x8 G6) fun G9 =>
  bP (lda Q q 190 26 x2 G9) fun x10 =>
  some (x10, G9)) (
  bP (lda Q q 36 13 x0 G6) fun x11 =>
  bP (bd Q q 190 z190 [(0, 0, 13), (8, 24, 1), (2, 17, 1)] [x11, (.bool true), (.int .i64 1)]) fun x12 =>
  bP (st Q q 190 26 x2 x12 G6) fun G13 =>
  bP (lda Q q 190 26 x2 G13) fun x14 =>
  some (x14, G13))
theorem m107 {e : Ex} {E : Ev} (h : ExLe Q e E) (v0 : Value) (G : GS) : Ref (s107 true e v0 G) (s107 false (Ex.of E) v0 G) := by
  unfold s107
  exact Ref.go
theorem f107 {orc : FuncId → Bool} {e : Ex} (h : ExLe Q e (E orc)) (v0 : Value) (G : GS) : Ref (s107 true e v0 G) ((E orc).cl 107 [v0] G) :=
  fun r hr => cl_sxE_some Q orc (vs := [v0]) G Tryz.func107 (by kernel_rfl) (by kernel_rfl) (by kernel_rfl) (by kernel_rfl) (by kernel_rfl) (by kernel_rfl) (m107 h v0 G r hr)
/-- (*coxswain/claim.seeker[coxswain/claim.taking]).item -/
noncomputable def s108 (q : Bool) (e : Ex) (v0 : Value) (G : GS) : Option (Value × GS) :=
  bS (al Q q 46 z46 G) fun x0 G1 =>
  bP (pNil v0) fun x2 =>
  bP (fa Q q 190 8 24 x2) fun x3 =>
  bP (ld Q q 4 x3 G1) fun x4 =>
  bP (un Q q .not x4) fun x5 =>
  ifV x5 (
  bP (bd Q q 46 z46 [] []) fun x6 =>
  bP (st Q q 46 2 x0 x6 G1) fun G7 =>
  bP (lda Q q 46 2 x0 G7) fun x8 =>
  some (.tuple #[x8, (.int .i64 1)], G7)) (
  bP (pNil v0) fun x9 =>
  bP (fa Q q 190 2 17 x9) fun x10 =>
  bP (ld Q q 3 x10 G1) fun x11 =>
  bP (bn Q q .neq 3 (.tmp 15) (.const (.int .i64 99)) x11 (.int .i64 99)) fun x12 =>
  ifV x12 (
  bP (bd Q q 46 z46 [] []) fun x13 =>
  bP (st Q q 46 2 x0 x13 G1) fun G14 =>
  bP (lda Q q 46 2 x0 G14) fun x15 =>
  some (.tuple #[x15, (.int .i64 14)], G14)) (
  bP (pNil v0) fun x16 =>
  bP (fa Q q 190 9 25 x16) fun x17 =>
  bP (ld Q q 23 x17 G1) fun x18 =>
  bP (bn Q q .neq 23 (.tmp 22) (.const (.int .i64 0)) x18 (.int .i64 0)) fun x19 =>
  ifV x19 (
  bP (bd Q q 46 z46 [] []) fun x20 =>
  bP (pNil v0) fun x21 =>
  bP (fa Q q 190 9 25 x21) fun x22 =>
  bP (ld Q q 23 x22 (G1.room 7)) fun x23 =>
  bP (st Q q 46 2 x0 x20 (G1.room 7)) fun G24 =>
  chk ((sameO (ld Q q 23 x22 G24) x23 && true)) <|
  bP (lda Q q 46 2 x0 G24) fun x25 =>
  some (.tuple #[x25, x23], G24)) (
  bP (pNil v0) fun x26 =>
  bP (fa Q q 190 6 21 x26) fun x27 =>
  bP (lda Q q 46 2 x27 G1) fun x28 =>
  bP (st Q q 46 2 x0 x28 G1) fun G29 =>
  bP (lda Q q 46 2 x0 G29) fun x30 =>
  some (.tuple #[x30, (.int .i64 0)], G29))))
theorem m108 {e : Ex} {E : Ev} (h : ExLe Q e E) (v0 : Value) (G : GS) : Ref (s108 true e v0 G) (s108 false (Ex.of E) v0 G) := by
  unfold s108
  exact Ref.go
theorem f108 {orc : FuncId → Bool} {e : Ex} (h : ExLe Q e (E orc)) (v0 : Value) (G : GS) : Ref (s108 true e v0 G) ((E orc).cl 108 [v0] G) :=
  fun r hr => cl_sxE_some Q orc (vs := [v0]) G Tryz.func108 (by kernel_rfl) (by kernel_rfl) (by kernel_rfl) (by kernel_rfl) (by kernel_rfl) (by kernel_rfl) (m108 h v0 G r hr)
/-- (*coxswain/ready.work).unpin$1 -/
noncomputable def s109 (q : Bool) (e : Ex) (v0 : Value) (G : GS) : Option (Value × GS) :=
  bP (ld Q q 105 v0 (G.room 12)) fun x0 =>
  bP (pNil x0) fun x1 =>
  bP (fa Q q 40 0 0 x1) fun x2 =>
  bP (fa Q q 36 3 3 x2) fun x3 =>
  bP (fa Q q 34 1 6 x3) fun x4 =>
  bP (lda Q q 32 3 x4 (G.room 12)) fun x5 =>
  bP (ld Q q 105 v0 (G.room 12)) fun x6 =>
  bP (pNil x6) fun x7 =>
  bP (fa Q q 40 1 13 x7) fun x8 =>
  bP (ld Q q 3 x8 (G.room 12)) fun x9 =>
  bS (e.ev.cl 110 [x5, x9] (G.room 12)) fun x11 G10 =>
  some (x11, G10)
theorem m109 {e : Ex} {E : Ev} (h : ExLe Q e E) (v0 : Value) (G : GS) : Ref (s109 true e v0 G) (s109 false (Ex.of E) v0 G) := by
  unfold s109
  exact Ref.go
theorem f109 {orc : FuncId → Bool} {e : Ex} (h : ExLe Q e (E orc)) (v0 : Value) (G : GS) : Ref (s109 true e v0 G) ((E orc).cl 109 [v0] G) :=
  fun r hr => cl_sxE_some Q orc (vs := [v0]) G Tryz.func109 (by kernel_rfl) (by kernel_rfl) (by kernel_rfl) (by kernel_rfl) (by kernel_rfl) (by kernel_rfl) (m109 h v0 G r hr)
/-- coxswain/epoch.NewUnpin -/
noncomputable def s110 (q : Bool) (e : Ex) (v0 v1 : Value) (G : GS) : Option (Value × GS) :=
  bS (bx q v0 G) fun x0 G1 =>
  bP (bd Q q 231 z231 [(2, 4, 1)] [(.bool true)]) fun x2 =>
  bP (fa Q q 32 1 1 x0) fun x3 =>
  bP (ld Q q 3 x3 G1) fun x4 =>
  bP (bn Q q .add 3 (.tmp 8) (.tmp 9) x4 v1) fun x5 =>
  bP (bd Q q 264 z264 [(0, 0, 6), (1, 6, 1)] [x2, x5]) fun x6 =>
  bS (bx q x6 G1) fun x7 G8 =>
  bP (lda Q q 32 3 x0 G8) fun x9 =>
  bS (e.ev.cl 134 [x9, v1] G8) fun x10 G11 =>
  ifV x10 (
  bP (pNil x7) fun x12 =>
  bP (fa Q q 264 0 0 x12) fun x13 =>
  bS (e.ev.cl 135 [x13, (.int .i64 3)] G11) fun x14 G15 =>
  some (x7, G15)) (
  bP (pNil x7) fun x16 =>
  bP (fa Q q 264 0 0 x16) fun x17 =>
  bP (fa Q q 231 0 0 x17) fun x18 =>
  bP (iaa Q q 229 3 1 x18 (.int .i64 0)) fun x19 =>
  bP (st Q q 206 1 x19 (.func (.func 156) #[x7] #[]) G11) fun G20 =>
  some (x7, G20))
theorem m110 {e : Ex} {E : Ev} (h : ExLe Q e E) (v0 v1 : Value) (G : GS) : Ref (s110 true e v0 v1 G) (s110 false (Ex.of E) v0 v1 G) := by
  unfold s110
  exact Ref.go
theorem f110 {orc : FuncId → Bool} {e : Ex} (h : ExLe Q e (E orc)) (v0 v1 : Value) (G : GS) : Ref (s110 true e v0 v1 G) ((E orc).cl 110 [v0, v1] G) :=
  fun r hr => cl_sxE_some Q orc (vs := [v0, v1]) G Tryz.func110 (by kernel_rfl) (by kernel_rfl) (by kernel_rfl) (by kernel_rfl) (by kernel_rfl) (by kernel_rfl) (m110 h v0 v1 G r hr)
/-- (*coxswain/cells.place).is -/
noncomputable def s117 (q : Bool) (e : Ex) (v0 : Value) (G : GS) : Option (Value × GS) :=
  bP (ep Q q true 132 (.tmp 3) (.const (.pointer none)) v0 (.pointer none)) fun x0 =>
  some (x0, G)
theorem m117 {e : Ex} {E : Ev} (h : ExLe Q e E) (v0 : Value) (G : GS) : Ref (s117 true e v0 G) (s117 false (Ex.of E) v0 G) := by
  unfold s117
  exact Ref.go
theorem f117 {orc : FuncId → Bool} {e : Ex} (h : ExLe Q e (E orc)) (v0 : Value) (G : GS) : Ref (s117 true e v0 G) ((E orc).cl 117 [v0] G) :=
  fun r hr => cl_sxE_some Q orc (vs := [v0]) G Tryz.func117 (by kernel_rfl) (by kernel_rfl) (by kernel_rfl) (by kernel_rfl) (by kernel_rfl) (by kernel_rfl) (m117 h v0 G r hr)
/-- (*coxswain/run.Balance).looks -/
noncomputable def s118 (q : Bool) (e : Ex) (v0 v1 : Value) (G : GS) : Option (Value × GS) :=
  bP (pNil v0) fun x0 =>
  bP (fa Q q 150 2 5 x0) fun x1 =>
  bP (ld Q q 52 x1 G) fun x2 =>
  bS (e.ev.cl 12 [x2, v1] G) fun x3 G4 =>
  bP (pNil v0) fun x5 =>
  bP (fa Q q 150 2 5 x5) fun x6 =>
  bP (ld Q q 52 x6 G4) fun x7 =>
  bS (e.ev.cl 160 [x7] G4) fun x8 G9 =>
  bP (pNil v0) fun x10 =>
  bP (fa Q q 150 7 10 x10) fun x11 =>
  bP (st Q q 38 1 x11 x8 G9) fun G12 =>
  bP (un Q q .not x3) fun x13 =>
  ifV x13 (
  some (.tuple #[], G12)) (
  bP (pNil v0) fun x14 =>
  bP (fa Q q 150 2 5 x14) fun x15 =>
  bP (ld Q q 52 x15 G12) fun x16 =>
  bS (e.ev.cl 8 [x16] G12) fun x17 G18 =>
  bP (pExtract x17 0) fun x19 =>
  bP (pExtract x17 1) fun x20 =>
  bS (al Q q 46 z46 G18) fun x21 G22 =>
  bP (st Q q 46 2 x21 x19 G22) fun G23 =>
  bP (fa Q q 46 0 0 x21) fun x24 =>
  bP (ld Q q 38 x24 (G23.room 10)) fun x25 =>
  bP (pNil v0) fun x26 =>
  bP (fa Q q 150 2 5 x26) fun x27 =>
  bP (st Q q 52 1 x27 (.pointer none) (G23.room 10)) fun G28 =>
  chk ((sameO (ld Q q 38 x24 G28) x25 && true)) <|
  bP (pNil v0) fun x29 =>
  bP (fa Q q 150 3 6 x29) fun x30 =>
  bP (st Q q 38 1 x30 x25 G28) fun G31 =>
  bP (bn Q q .eql 23 (.tmp 39) (.const (.int .i64 0)) x20 (.int .i64 0)) fun x32 =>
  ifV x32 (
  some (.tuple #[], G31)) (
  bP (bn Q q .eql 23 (.tmp 39) (.const (.int .i64 15)) x20 (.int .i64 15)) fun x33 =>
  ifV x33 (
  bS (e.ev.cl 84 [v0, (.int .i64 0)] G31) fun x34 G35 =>
  some (.tuple #[], G35)) (
  bS (e.ev.cl 84 [v0, x20] G31) fun x36 G37 =>
  some (.tuple #[], G37))))
theorem m118 {e : Ex} {E : Ev} (h : ExLe Q e E) (v0 v1 : Value) (G : GS) : Ref (s118 true e v0 v1 G) (s118 false (Ex.of E) v0 v1 G) := by
  unfold s118
  exact Ref.go
theorem f118 {orc : FuncId → Bool} {e : Ex} (h : ExLe Q e (E orc)) (v0 v1 : Value) (G : GS) : Ref (s118 true e v0 v1 G) ((E orc).cl 118 [v0, v1] G) :=
  fun r hr => cl_sxE_some Q orc (vs := [v0, v1]) G Tryz.func118 (by kernel_rfl) (by kernel_rfl) (by kernel_rfl) (by kernel_rfl) (by kernel_rfl) (by kernel_rfl) (m118 h v0 v1 G r hr)
/-- (*coxswain/run.walk).next -/
noncomputable def s119 (q : Bool) (e : Ex) (v0 : Value) (G : GS) : Option (Value × GS) :=
  bP (pNil v0) fun x0 =>
  bP (fa Q q 147 1 1 x0) fun x1 =>
  bP (ld Q q 3 x1 G) fun x2 =>
  bP (bn Q q .eql 3 (.tmp 7) (.const (.int .i64 0)) x2 (.int .i64 0)) fun x3 =>
  ifV x3 (
  some (.tuple #[(.int .i64 0), (.bool false)], G)) (
  bP (pNil v0) fun x4 =>
  bP (fa Q q 147 0 0 x4) fun x5 =>
  bP (ld Q q 3 x5 G) fun x6 =>
  bP (bn Q q .add 3 (.tmp 12) (.const (.int .i64 1)) x6 (.int .i64 1)) fun x7 =>
  bP (pNil v0) fun x8 =>
  bP (fa Q q 147 0 0 x8) fun x9 =>
  bP (st Q q 3 1 x9 x7 G) fun G10 =>
  bP (pNil v0) fun x11 =>
  bP (fa Q q 147 1 1 x11) fun x12 =>
  bP (ld Q q 3 x12 G10) fun x13 =>
  bP (bn Q q .sub 3 (.tmp 19) (.const (.int .i64 1)) x13 (.int .i64 1)) fun x14 =>
  bP (pNil v0) fun x15 =>
  bP (fa Q q 147 1 1 x15) fun x16 =>
  bP (st Q q 3 1 x16 x14 G10) fun G17 =>
  bP (pNil v0) fun x18 =>
  bP (fa Q q 147 0 0 x18) fun x19 =>
  bP (ld Q q 3 x19 G17) fun x20 =>
  bP (bn Q q .sub 3 (.tmp 26) (.const (.int .i64 1)) x20 (.int .i64 1)) fun x21 =>
  some (.tuple #[x21, (.bool true)], G17))
theorem m119 {e : Ex} {E : Ev} (h : ExLe Q e E) (v0 : Value) (G : GS) : Ref (s119 true e v0 G) (s119 false (Ex.of E) v0 G) := by
  unfold s119
  exact Ref.go
theorem f119 {orc : FuncId → Bool} {e : Ex} (h : ExLe Q e (E orc)) (v0 : Value) (G : GS) : Ref (s119 true e v0 G) ((E orc).cl 119 [v0] G) :=
  fun r hr => cl_sxE_some Q orc (vs := [v0]) G Tryz.func119 (by kernel_rfl) (by kernel_rfl) (by kernel_rfl) (by kernel_rfl) (by kernel_rfl) (by kernel_rfl) (m119 h v0 G r hr)
/-- (*coxswain/cells.Mem).Load -/
noncomputable def s120 (q : Bool) (e : Ex) (v0 v1 : Value) (G : GS) : Option (Value × GS) :=
  bS (e.ev.cl 72 [v0, v1] G) fun x0 G1 =>
  bP (bd Q q 135 z135 [(0, 0, 1)] [x0]) fun x2 =>
  bS (al Q q 135 z135 G1) fun x3 G4 =>
  bP (st Q q 135 3 x3 x2 G4) fun G5 =>
  bP (fa Q q 135 0 0 x3) fun x6 =>
  bP (ld Q q 132 x6 G5) fun x7 =>
  bP (lda Q q 135 3 x3 G5) fun x8 =>
  bS (e.ev.cl 73 [v0, (.int .i64 1), v1, x7, (.func (.func 161) #[x8] #[])] G5) fun x9 G10 =>
  bP (fd Q q 101 3 3 x9) fun x11 =>
  some (x11, G10)
theorem m120 {e : Ex} {E : Ev} (h : ExLe Q e E) (v0 v1 : Value) (G : GS) : Ref (s120 true e v0 v1 G) (s120 false (Ex.of E) v0 v1 G) := by
  unfold s120
  exact Ref.go
theorem f120 {orc : FuncId → Bool} {e : Ex} (h : ExLe Q e (E orc)) (v0 v1 : Value) (G : GS) : Ref (s120 true e v0 v1 G) ((E orc).cl 120 [v0, v1] G) :=
  fun r hr => cl_sxE_some Q orc (vs := [v0, v1]) G Tryz.func120 (by kernel_rfl) (by kernel_rfl) (by kernel_rfl) (by kernel_rfl) (by kernel_rfl) (by kernel_rfl) (m120 h v0 v1 G r hr)
/-- cmp.isNaN[uint64] -/
noncomputable def s122 (q : Bool) (e : Ex) (v0 : Value) (G : GS) : Option (Value × GS) :=
  bP (bn Q q .neq 38 (.tmp 3) (.tmp 4) v0 v0) fun x0 =>
  some (x0, G)
theorem m122 {e : Ex} {E : Ev} (h : ExLe Q e E) (v0 : Value) (G : GS) : Ref (s122 true e v0 G) (s122 false (Ex.of E) v0 G) := by
  unfold s122
  exact Ref.go
theorem f122 {orc : FuncId → Bool} {e : Ex} (h : ExLe Q e (E orc)) (v0 : Value) (G : GS) : Ref (s122 true e v0 G) ((E orc).cl 122 [v0] G) :=
  fun r hr => cl_sxE_some Q orc (vs := [v0]) G Tryz.func122 (by kernel_rfl) (by kernel_rfl) (by kernel_rfl) (by kernel_rfl) (by kernel_rfl) (by kernel_rfl) (m122 h v0 G r hr)
/-- coxswain/ready.NewLook$1 -/
noncomputable def s125 (q : Bool) (e : Ex) (v0 : Value) (G : GS) : Option (Value × GS) :=
  bP (lda Q q 36 13 v0 G) fun x0 =>
  bS (e.ev.cl 126 [x0] G) fun x1 G2 =>
  some (x1, G2)
theorem m125 {e : Ex} {E : Ev} (h : ExLe Q e E) (v0 : Value) (G : GS) : Ref (s125 true e v0 G) (s125 false (Ex.of E) v0 G) := by
  unfold s125
  exact Ref.go
theorem f125 {orc : FuncId → Bool} {e : Ex} (h : ExLe Q e (E orc)) (v0 : Value) (G : GS) : Ref (s125 true e v0 G) ((E orc).cl 125 [v0] G) :=
  fun r hr => cl_sxE_some Q orc (vs := [v0]) G Tryz.func125 (by kernel_rfl) (by kernel_rfl) (by kernel_rfl) (by kernel_rfl) (by kernel_rfl) (by kernel_rfl) (m125 h v0 G r hr)
/-- coxswain/claim.NewPeek -/
noncomputable def s126 (q : Bool) (e : Ex) (v0 : Value) (G : GS) : Option (Value × GS) :=
  bS (bx q v0 G) fun x0 G1 =>
  bP (lda Q q 36 13 x0 G1) fun x2 =>
  bS (e.ev.cl 172 [x2] G1) fun x3 G4 =>
  bP (bd Q q 283 z283 [(0, 0, 22)] [x3]) fun x5 =>
  bS (bx q x5 G4) fun x6 G7 =>
  some (x6, G7)
theorem m126 {e : Ex} {E : Ev} (h : ExLe Q e E) (v0 : Value) (G : GS) : Ref (s126 true e v0 G) (s126 false (Ex.of E) v0 G) := by
  unfold s126
  exact Ref.go
theorem f126 {orc : FuncId → Bool} {e : Ex} (h : ExLe Q e (E orc)) (v0 : Value) (G : GS) : Ref (s126 true e v0 G) ((E orc).cl 126 [v0] G) :=
  fun r hr => cl_sxE_some Q orc (vs := [v0]) G Tryz.func126 (by kernel_rfl) (by kernel_rfl) (by kernel_rfl) (by kernel_rfl) (by kernel_rfl) (by kernel_rfl) (m126 h v0 G r hr)
/-- (*coxswain/claim.Peek).By -/
noncomputable def s127 (q : Bool) (e : Ex) (v0 : Value) (G : GS) : Option (Value × GS) :=
  bP (ep Q q false 214 (.tmp 3) (.const (.pointer none)) v0 (.pointer none)) fun x0 =>
  ifV x0 (
  some ((.int .u64 0), G)) (
  bP (pNil v0) fun x1 =>
  bP (fa Q q 283 0 0 x1) fun x2 =>
  bP (fa Q q 280 7 19 x2) fun x3 =>
  bP (ld Q q 38 x3 G) fun x4 =>
  some (x4, G))
theorem m127 {e : Ex} {E : Ev} (h : ExLe Q e E) (v0 : Value) (G : GS) : Ref (s127 true e v0 G) (s127 false (Ex.of E) v0 G) := by
  unfold s127
  exact Ref.go
theorem f127 {orc : FuncId → Bool} {e : Ex} (h : ExLe Q e (E orc)) (v0 : Value) (G : GS) : Ref (s127 true e v0 G) ((E orc).cl 127 [v0] G) :=
  fun r hr => cl_sxE_some Q orc (vs := [v0]) G Tryz.func127 (by kernel_rfl) (by kernel_rfl) (by kernel_rfl) (by kernel_rfl) (by kernel_rfl) (by kernel_rfl) (m127 h v0 G r hr)
/-- coxswain/ready.NewLook$2 -/
noncomputable def s128 (q : Bool) (e : Ex) (v0 v1 : Value) (G : GS) : Option (Value × GS) :=
  bP (ld Q q 52 v1 (G.room 15)) fun x0 =>
  bP (ld Q q 52 v1 (G.room 15)) fun x1 =>
  bS (e.ev.cl 129 [v0] (G.room 15)) fun x3 G2 =>
  chk ((sameO (ld Q q 52 v1 G2) x1 && (sameO (ld Q q 52 v1 G2) x0 && true))) <|
  bP (pExtract x3 0) fun x4 =>
  bP (pExtract x3 1) fun x5 =>
  bP (pNil x0) fun x6 =>
  bP (fa Q q 53 1 19 x6) fun x7 =>
  bP (fa Q q 48 0 0 x7) fun x8 =>
  bP (st Q q 46 2 x8 x4 G2) fun G9 =>
  chk ((sameO (ld Q q 52 v1 G9) x1 && true)) <|
  bP (pNil x1) fun x10 =>
  bP (fa Q q 53 1 19 x10) fun x11 =>
  bP (fa Q q 48 1 2 x11) fun x12 =>
  bP (st Q q 23 1 x12 x5 G9) fun G13 =>
  some (.tuple #[], G13)
theorem m128 {e : Ex} {E : Ev} (h : ExLe Q e E) (v0 v1 : Value) (G : GS) : Ref (s128 true e v0 v1 G) (s128 false (Ex.of E) v0 v1 G) := by
  unfold s128
  exact Ref.go
theorem f128 {orc : FuncId → Bool} {e : Ex} (h : ExLe Q e (E orc)) (v0 v1 : Value) (G : GS) : Ref (s128 true e v0 v1 G) ((E orc).cl 128 [v0, v1] G) :=
  fun r hr => cl_sxE_some Q orc (vs := [v0, v1]) G Tryz.func128 (by kernel_rfl) (by kernel_rfl) (by kernel_rfl) (by kernel_rfl) (by kernel_rfl) (by kernel_rfl) (m128 h v0 v1 G r hr)
/-- (*coxswain/claim.Peek).Item -/
noncomputable def s129 (q : Bool) (e : Ex) (v0 : Value) (G : GS) : Option (Value × GS) :=
  bS (al Q q 46 z46 G) fun x0 G1 =>
  bP (ep Q q false 214 (.tmp 4) (.const (.pointer none)) v0 (.pointer none)) fun x2 =>
  ifV x2 (
  bP (bd Q q 46 z46 [] []) fun x3 =>
  bP (st Q q 46 2 x0 x3 G1) fun G4 =>
  bP (lda Q q 46 2 x0 G4) fun x5 =>
  some (.tuple #[x5, (.int .i64 1)], G4)) (
  bP (pNil v0) fun x6 =>
  bP (fa Q q 283 0 0 x6) fun x7 =>
  bS (e.ev.cl 173 [x7] G1) fun x8 G9 =>
  bP (pExtract x8 0) fun x10 =>
  bP (pExtract x8 1) fun x11 =>
  bP (st Q q 46 2 x0 x10 G9) fun G12 =>
  bP (lda Q q 46 2 x0 G12) fun x13 =>
  some (.tuple #[x13, x11], G12))
theorem m129 {e : Ex} {E : Ev} (h : ExLe Q e E) (v0 : Value) (G : GS) : Ref (s129 true e v0 G) (s129 false (Ex.of E) v0 G) := by
  unfold s129
  exact Ref.go
theorem f129 {orc : FuncId → Bool} {e : Ex} (h : ExLe Q e (E orc)) (v0 : Value) (G : GS) : Ref (s129 true e v0 G) ((E orc).cl 129 [v0] G) :=
  fun r hr => cl_sxE_some Q orc (vs := [v0]) G Tryz.func129 (by kernel_rfl) (by kernel_rfl) (by kernel_rfl) (by kernel_rfl) (by kernel_rfl) (by kernel_rfl) (m129 h v0 G r hr)
/-- coxswain/tower.nodes -/
noncomputable def s130 (q : Bool) (e : Ex) (v0 : Value) (G : GS) : Option (Value × GS) :=
  bS (bx q v0 G) fun x0 G1 =>
  bS (al Q q 223 z223 G1) fun x2 G3 =>
  bP (fa Q q 36 0 0 x0) fun x4 =>
  bP (ld Q q 3 x4 G3) fun x5 =>
  bP (fa Q q 36 3 3 x0) fun x6 =>
  bP (fa Q q 34 0 0 x6) fun x7 =>
  bP (fa Q q 30 0 0 x7) fun x8 =>
  bP (fa Q q 28 2 2 x8) fun x9 =>
  bP (ld Q q 3 x9 G3) fun x10 =>
  bP (fa Q q 36 2 2 x0) fun x11 =>
  bP (ld Q q 3 x11 G3) fun x12 =>
  bP (bd Q q 223 z223 [(0, 0, 1), (1, 1, 1), (2, 2, 1)] [x5, x10, x12]) fun x13 =>
  bP (st Q q 223 3 x2 x13 G3) fun G14 =>
  bP (lda Q q 223 3 x2 G14) fun x15 =>
  some (x15, G14)
theorem m130 {e : Ex} {E : Ev} (h : ExLe Q e E) (v0 : Value) (G : GS) : Ref (s130 true e v0 G) (s130 false (Ex.of E) v0 G) := by
  unfold s130
  exact Ref.go
theorem f130 {orc : FuncId → Bool} {e : Ex} (h : ExLe Q e (E orc)) (v0 : Value) (G : GS) : Ref (s130 true e v0 G) ((E orc).cl 130 [v0] G) :=
  fun r hr => cl_sxE_some Q orc (vs := [v0]) G Tryz.func130 (by kernel_rfl) (by kernel_rfl) (by kernel_rfl) (by kernel_rfl) (by kernel_rfl) (by kernel_rfl) (m130 h v0 G r hr)
/-- (coxswain/tower.rows[coxswain/tower.node]).at -/
noncomputable def s131 (q : Bool) (e : Ex) (v0 v1 v2 : Value) (G : GS) : Option (Value × GS) :=
  bS (bx q v0 G) fun x0 G1 =>
  bP (bn Q q .lss 3 (.tmp 7) (.const (.int .i64 0)) v1 (.int .i64 0)) fun x2 =>
  bS (gd x2 false (some (v1, G1)) G1) fun x3 G4 =>
  bS (gd x2 false (bP (fa Q q 223 1 1 x0) fun y => some (y, G4)) G4) fun x5 G6 =>
  bS (gd x2 false (bP (ld Q q 3 x5 G6) fun y => some (y, G6)) G6) fun x7 G8 =>
  bS (gd x2 false (bP (bn Q q .geq 3 (.tmp 10) (.tmp 12) x3 x7) fun y => some (y, G8)) G8) fun x9 G10 =>
  bP (pickV x2 (.bool true) x9) fun x11 =>
  bS (gd x11 false (some (v2, G10)) G10) fun x12 G13 =>
  bS (gd x11 false (bP (bn Q q .lss 3 (.tmp 16) (.const (.int .i64 0)) x12 (.int .i64 0)) fun y => some (y, G13)) G13) fun x14 G15 =>
  bP (pickV x11 (.bool true) x14) fun x16 =>
  bS (gd x16 false (some (v2, G15)) G15) fun x17 G18 =>
  bS (gd x16 false (bP (fa Q q 223 2 2 x0) fun y => some (y, G18)) G18) fun x19 G20 =>
  bS (gd x16 false (bP (ld Q q 221 x19 G20) fun y => some (y, G20)) G20) fun x21 G22 =>
  bS (gd x16 false (bP (ifc Q q 221 x21) fun y => some (y, G22)) G22) fun x23 G24 =>
  bS (gd x16 false (bS (cInvoke Q e.ev x23 "coxswain/tower.cells" [] G24) fun y G => some (y, G)) G24) fun x25 G26 =>
  bS (gd x16 false (bP (bn Q q .geq 3 (.tmp 20) (.tmp 24) x17 x25) fun y => some (y, G26)) G26) fun x27 G28 =>
  bP (pickV x16 (.bool true) x27) fun x29 =>
  ifV x29 (
  some ((.int .i64 (-1)), G28)) (
  bP (fa Q q 223 0 0 x0) fun x30 =>
  bP (ld Q q 3 x30 (G28.room 12)) fun x31 =>
  bP (fa Q q 223 2 2 x0) fun x32 =>
  bP (ld Q q 221 x32 (G28.room 12)) fun x33 =>
  bP (ifc Q q 221 x33) fun x34 =>
  bS (cInvoke Q e.ev x34 "coxswain/tower.cells" [] (G28.room 12)) fun x36 G35 =>
  chk ((sameO (ld Q q 3 x30 G35) x31 && true)) <|
  bP (bn Q q .mul 3 (.tmp 29) (.tmp 33) v1 x36) fun x37 =>
  bP (bn Q q .add 3 (.tmp 28) (.tmp 34) x31 x37) fun x38 =>
  bP (bn Q q .add 3 (.tmp 35) (.tmp 36) x38 v2) fun x39 =>
  some (x39, G35))
theorem m131 {e : Ex} {E : Ev} (h : ExLe Q e E) (v0 v1 v2 : Value) (G : GS) : Ref (s131 true e v0 v1 v2 G) (s131 false (Ex.of E) v0 v1 v2 G) := by
  unfold s131
  exact Ref.go
theorem f131 {orc : FuncId → Bool} {e : Ex} (h : ExLe Q e (E orc)) (v0 v1 v2 : Value) (G : GS) : Ref (s131 true e v0 v1 v2 G) ((E orc).cl 131 [v0, v1, v2] G) :=
  fun r hr => cl_sxE_some Q orc (vs := [v0, v1, v2]) G Tryz.func131 (by kernel_rfl) (by kernel_rfl) (by kernel_rfl) (by kernel_rfl) (by kernel_rfl) (by kernel_rfl) (m131 h v0 v1 v2 G r hr)
/-- coxswain/tower.heads -/
noncomputable def s132 (q : Bool) (e : Ex) (v0 : Value) (G : GS) : Option (Value × GS) :=
  bS (bx q v0 G) fun x0 G1 =>
  bS (al Q q 227 z227 G1) fun x2 G3 =>
  bP (fa Q q 36 1 1 x0) fun x4 =>
  bP (ld Q q 3 x4 G3) fun x5 =>
  bP (fa Q q 36 2 2 x0) fun x6 =>
  bP (ld Q q 3 x6 G3) fun x7 =>
  bP (bd Q q 227 z227 [(0, 0, 1), (1, 1, 1), (2, 2, 1)] [x5, (.int .i64 1), x7]) fun x8 =>
  bP (st Q q 227 3 x2 x8 G3) fun G9 =>
  bP (lda Q q 227 3 x2 G9) fun x10 =>
  some (x10, G9)
theorem m132 {e : Ex} {E : Ev} (h : ExLe Q e E) (v0 : Value) (G : GS) : Ref (s132 true e v0 G) (s132 false (Ex.of E) v0 G) := by
  unfold s132
  exact Ref.go
theorem f132 {orc : FuncId → Bool} {e : Ex} (h : ExLe Q e (E orc)) (v0 : Value) (G : GS) : Ref (s132 true e v0 G) ((E orc).cl 132 [v0] G) :=
  fun r hr => cl_sxE_some Q orc (vs := [v0]) G Tryz.func132 (by kernel_rfl) (by kernel_rfl) (by kernel_rfl) (by kernel_rfl) (by kernel_rfl) (by kernel_rfl) (m132 h v0 G r hr)
/-- (coxswain/tower.rows[coxswain/tower.head]).at -/
noncomputable def s133 (q : Bool) (e : Ex) (v0 v1 v2 : Value) (G : GS) : Option (Value × GS) :=
  bS (bx q v0 G) fun x0 G1 =>
  bP (bn Q q .lss 3 (.tmp 7) (.const (.int .i64 0)) v1 (.int .i64 0)) fun x2 =>
  bS (gd x2 false (some (v1, G1)) G1) fun x3 G4 =>
  bS (gd x2 false (bP (fa Q q 227 1 1 x0) fun y => some (y, G4)) G4) fun x5 G6 =>
  bS (gd x2 false (bP (ld Q q 3 x5 G6) fun y => some (y, G6)) G6) fun x7 G8 =>
  bS (gd x2 false (bP (bn Q q .geq 3 (.tmp 10) (.tmp 12) x3 x7) fun y => some (y, G8)) G8) fun x9 G10 =>
  bP (pickV x2 (.bool true) x9) fun x11 =>
  bS (gd x11 false (some (v2, G10)) G10) fun x12 G13 =>
  bS (gd x11 false (bP (bn Q q .lss 3 (.tmp 16) (.const (.int .i64 0)) x12 (.int .i64 0)) fun y => some (y, G13)) G13) fun x14 G15 =>
  bP (pickV x11 (.bool true) x14) fun x16 =>
  bS (gd x16 false (some (v2, G15)) G15) fun x17 G18 =>
  bS (gd x16 false (bP (fa Q q 227 2 2 x0) fun y => some (y, G18)) G18) fun x19 G20 =>
  bS (gd x16 false (bP (ld Q q 225 x19 G20) fun y => some (y, G20)) G20) fun x21 G22 =>
  bS (gd x16 false (bP (ifc Q q 225 x21) fun y => some (y, G22)) G22) fun x23 G24 =>
  bS (gd x16 false (bS (cInvoke Q e.ev x23 "coxswain/tower.cells" [] G24) fun y G => some (y, G)) G24) fun x25 G26 =>
  bS (gd x16 false (bP (bn Q q .geq 3 (.tmp 20) (.tmp 24) x17 x25) fun y => some (y, G26)) G26) fun x27 G28 =>
  bP (pickV x16 (.bool true) x27) fun x29 =>
  ifV x29 (
  some ((.int .i64 (-1)), G28)) (
  bP (fa Q q 227 0 0 x0) fun x30 =>
  bP (ld Q q 3 x30 (G28.room 12)) fun x31 =>
  bP (fa Q q 227 2 2 x0) fun x32 =>
  bP (ld Q q 225 x32 (G28.room 12)) fun x33 =>
  bP (ifc Q q 225 x33) fun x34 =>
  bS (cInvoke Q e.ev x34 "coxswain/tower.cells" [] (G28.room 12)) fun x36 G35 =>
  chk ((sameO (ld Q q 3 x30 G35) x31 && true)) <|
  bP (bn Q q .mul 3 (.tmp 29) (.tmp 33) v1 x36) fun x37 =>
  bP (bn Q q .add 3 (.tmp 28) (.tmp 34) x31 x37) fun x38 =>
  bP (bn Q q .add 3 (.tmp 35) (.tmp 36) x38 v2) fun x39 =>
  some (x39, G35))
theorem m133 {e : Ex} {E : Ev} (h : ExLe Q e E) (v0 v1 v2 : Value) (G : GS) : Ref (s133 true e v0 v1 v2 G) (s133 false (Ex.of E) v0 v1 v2 G) := by
  unfold s133
  exact Ref.go
theorem f133 {orc : FuncId → Bool} {e : Ex} (h : ExLe Q e (E orc)) (v0 v1 v2 : Value) (G : GS) : Ref (s133 true e v0 v1 v2 G) ((E orc).cl 133 [v0, v1, v2] G) :=
  fun r hr => cl_sxE_some Q orc (vs := [v0, v1, v2]) G Tryz.func133 (by kernel_rfl) (by kernel_rfl) (by kernel_rfl) (by kernel_rfl) (by kernel_rfl) (by kernel_rfl) (m133 h v0 v1 v2 G r hr)
/-- coxswain/epoch.none -/
noncomputable def s134 (q : Bool) (e : Ex) (v0 v1 : Value) (G : GS) : Option (Value × GS) :=
  bS (bx q v0 G) fun x0 G1 =>
  bP (bn Q q .lss 3 (.tmp 5) (.const (.int .i64 0)) v1 (.int .i64 0)) fun x2 =>
  bS (gd x2 false (some (v1, G1)) G1) fun x3 G4 =>
  bS (gd x2 false (bP (fa Q q 32 2 2 x0) fun y => some (y, G4)) G4) fun x5 G6 =>
  bS (gd x2 false (bP (ld Q q 3 x5 G6) fun y => some (y, G6)) G6) fun x7 G8 =>
  bS (gd x2 false (bP (bn Q q .geq 3 (.tmp 8) (.tmp 10) x3 x7) fun y => some (y, G8)) G8) fun x9 G10 =>
  bP (pickV x2 (.bool true) x9) fun x11 =>
  some (x11, G10)
theorem m134 {e : Ex} {E : Ev} (h : ExLe Q e E) (v0 v1 : Value) (G : GS) : Ref (s134 true e v0 v1 G) (s134 false (Ex.of E) v0 v1 G) := by
  unfold s134
  exact Ref.go
theorem f134 {orc : FuncId → Bool} {e : Ex} (h : ExLe Q e (E orc)) (v0 v1 : Value) (G : GS) : Ref (s134 true e v0 v1 G) ((E orc).cl 134 [v0, v1] G) :=
  fun r hr => cl_sxE_some Q orc (vs := [v0, v1]) G Tryz.func134 (by kernel_rfl) (by kernel_rfl) (by kernel_rfl) (by kernel_rfl) (by kernel_rfl) (by kernel_rfl) (m134 h v0 v1 G r hr)
/-- (*coxswain/epoch.lines).ends -/
noncomputable def s135 (q : Bool) (e : Ex) (v0 v1 : Value) (G : GS) : Option (Value × GS) :=
  bP (pNil v0) fun x0 =>
  bP (fa Q q 231 1 3 x0) fun x1 =>
  bP (st Q q 3 1 x1 (.int .i64 (-1)) G) fun G2 =>
  bP (pNil v0) fun x3 =>
  bP (fa Q q 231 3 5 x3) fun x4 =>
  bP (st Q q 23 1 x4 v1 G2) fun G5 =>
  some (.tuple #[], G5)
theorem m135 {e : Ex} {E : Ev} (h : ExLe Q e E) (v0 v1 : Value) (G : GS) : Ref (s135 true e v0 v1 G) (s135 false (Ex.of E) v0 v1 G) := by
  unfold s135
  exact Ref.go
theorem f135 {orc : FuncId → Bool} {e : Ex} (h : ExLe Q e (E orc)) (v0 v1 : Value) (G : GS) : Ref (s135 true e v0 v1 G) ((E orc).cl 135 [v0, v1] G) :=
  fun r hr => cl_sxE_some Q orc (vs := [v0, v1]) G Tryz.func135 (by kernel_rfl) (by kernel_rfl) (by kernel_rfl) (by kernel_rfl) (by kernel_rfl) (by kernel_rfl) (m135 h v0 v1 G r hr)
/-- (*coxswain/epoch.Pin).load -/
noncomputable def s136 (q : Bool) (e : Ex) (v0 v1 : Value) (G : GS) : Option (Value × GS) :=
  bP (pNil v0) fun x0 =>
  bP (fa Q q 235 1 6 x0) fun x1 =>
  bP (fa Q q 32 0 0 x1) fun x2 =>
  bP (ld Q q 3 x2 G) fun x3 =>
  bS (e.ev.cl 120 [v1, x3] G) fun x4 G5 =>
  bP (cv Q q 38 233 .u64 .u32 x4) fun x6 =>
  bP (pNil v0) fun x7 =>
  bP (fa Q q 235 3 10 x7) fun x8 =>
  bP (st Q q 233 1 x8 x6 G5) fun G9 =>
  bP (pNil v0) fun x10 =>
  bP (fa Q q 235 0 0 x10) fun x11 =>
  bP (fa Q q 231 1 3 x11) fun x12 =>
  bP (st Q q 3 1 x12 (.int .i64 1) G9) fun G13 =>
  some (.tuple #[], G13)
theorem m136 {e : Ex} {E : Ev} (h : ExLe Q e E) (v0 v1 : Value) (G : GS) : Ref (s136 true e v0 v1 G) (s136 false (Ex.of E) v0 v1 G) := by
  unfold s136
  exact Ref.go
theorem f136 {orc : FuncId → Bool} {e : Ex} (h : ExLe Q e (E orc)) (v0 v1 : Value) (G : GS) : Ref (s136 true e v0 v1 G) ((E orc).cl 136 [v0, v1] G) :=
  fun r hr => cl_sxE_some Q orc (vs := [v0, v1]) G Tryz.func136 (by kernel_rfl) (by kernel_rfl) (by kernel_rfl) (by kernel_rfl) (by kernel_rfl) (by kernel_rfl) (m136 h v0 v1 G r hr)
/-- (*coxswain/epoch.Pin).store -/
noncomputable def s137 (q : Bool) (e : Ex) (v0 v1 : Value) (G : GS) : Option (Value × GS) :=
  bP (pNil v0) fun x0 =>
  bP (fa Q q 235 2 9 x0) fun x1 =>
  bP (ld Q q 3 x1 (G.room 12)) fun x2 =>
  bP (pNil v0) fun x3 =>
  bP (fa Q q 235 3 10 x3) fun x4 =>
  bP (ld Q q 233 x4 (G.room 12)) fun x5 =>
  bP (cv Q q 233 38 .u32 .u64 x5) fun x6 =>
  bP (bn Q q .add 38 (.tmp 13) (.const (.int .u64 1)) x6 (.int .u64 1)) fun x7 =>
  bS (e.ev.cl 29 [v1, x2, x7] (G.room 12)) fun x9 G8 =>
  bP (pNil v0) fun x10 =>
  bP (fa Q q 235 0 0 x10) fun x11 =>
  bP (fa Q q 231 1 3 x11) fun x12 =>
  bP (st Q q 3 1 x12 (.int .i64 2) G8) fun G13 =>
  some (.tuple #[], G13)
theorem m137 {e : Ex} {E : Ev} (h : ExLe Q e E) (v0 v1 : Value) (G : GS) : Ref (s137 true e v0 v1 G) (s137 false (Ex.of E) v0 v1 G) := by
  unfold s137
  exact Ref.go
theorem f137 {orc : FuncId → Bool} {e : Ex} (h : ExLe Q e (E orc)) (v0 v1 : Value) (G : GS) : Ref (s137 true e v0 v1 G) ((E orc).cl 137 [v0, v1] G) :=
  fun r hr => cl_sxE_some Q orc (vs := [v0, v1]) G Tryz.func137 (by kernel_rfl) (by kernel_rfl) (by kernel_rfl) (by kernel_rfl) (by kernel_rfl) (by kernel_rfl) (m137 h v0 v1 G r hr)
/-- (*coxswain/epoch.Pin).again -/
noncomputable def s138 (q : Bool) (e : Ex) (v0 v1 : Value) (G : GS) : Option (Value × GS) :=
  bP (pNil v0) fun x0 =>
  bP (fa Q q 235 1 6 x0) fun x1 =>
  bP (fa Q q 32 0 0 x1) fun x2 =>
  bP (ld Q q 3 x2 G) fun x3 =>
  bS (e.ev.cl 120 [v1, x3] G) fun x4 G5 =>
  bP (cv Q q 38 233 .u64 .u32 x4) fun x6 =>
  bP (pNil v0) fun x7 =>
  bP (fa Q q 235 3 10 x7) fun x8 =>
  bP (ld Q q 233 x8 G5) fun x9 =>
  bP (bn Q q .eql 233 (.tmp 13) (.tmp 17) x6 x9) fun x10 =>
  ifV x10 (
  bP (pNil v0) fun x11 =>
  bP (fa Q q 235 0 0 x11) fun x12 =>
  bS (e.ev.cl 135 [x12, (.int .i64 0)] G5) fun x13 G14 =>
  some (.tuple #[], G14)) (
  bP (pNil v0) fun x15 =>
  bP (fa Q q 235 3 10 x15) fun x16 =>
  bP (st Q q 233 1 x16 x6 G5) fun G17 =>
  bP (pNil v0) fun x18 =>
  bP (fa Q q 235 0 0 x18) fun x19 =>
  bP (fa Q q 231 1 3 x19) fun x20 =>
  bP (st Q q 3 1 x20 (.int .i64 1) G17) fun G21 =>
  some (.tuple #[], G21))
theorem m138 {e : Ex} {E : Ev} (h : ExLe Q e E) (v0 v1 : Value) (G : GS) : Ref (s138 true e v0 v1 G) (s138 false (Ex.of E) v0 v1 G) := by
  unfold s138
  exact Ref.go
theorem f138 {orc : FuncId → Bool} {e : Ex} (h : ExLe Q e (E orc)) (v0 v1 : Value) (G : GS) : Ref (s138 true e v0 v1 G) ((E orc).cl 138 [v0, v1] G) :=
  fun r hr => cl_sxE_some Q orc (vs := [v0, v1]) G Tryz.func138 (by kernel_rfl) (by kernel_rfl) (by kernel_rfl) (by kernel_rfl) (by kernel_rfl) (by kernel_rfl) (m138 h v0 v1 G r hr)
/-- (*coxswain/epoch.lines).told -/
noncomputable def s139 (q : Bool) (e : Ex) (v0 : Value) (G : GS) : Option (Value × GS) :=
  bP (pNil v0) fun x0 =>
  bP (fa Q q 231 2 4 x0) fun x1 =>
  bP (ld Q q 4 x1 G) fun x2 =>
  bP (un Q q .not x2) fun x3 =>
  ifV x3 (
  some ((.int .i64 1), G)) (
  bP (pNil v0) fun x4 =>
  bP (fa Q q 231 1 3 x4) fun x5 =>
  bP (ld Q q 3 x5 G) fun x6 =>
  bP (bn Q q .neq 3 (.tmp 13) (.const (.int .i64 (-1))) x6 (.int .i64 (-1))) fun x7 =>
  ifV x7 (
  some ((.int .i64 14), G)) (
  bP (pNil v0) fun x8 =>
  bP (fa Q q 231 3 5 x8) fun x9 =>
  bP (ld Q q 23 x9 G) fun x10 =>
  some (x10, G)))
theorem m139 {e : Ex} {E : Ev} (h : ExLe Q e E) (v0 : Value) (G : GS) : Ref (s139 true e v0 G) (s139 false (Ex.of E) v0 G) := by
  unfold s139
  exact Ref.go
theorem f139 {orc : FuncId → Bool} {e : Ex} (h : ExLe Q e (E orc)) (v0 : Value) (G : GS) : Ref (s139 true e v0 G) ((E orc).cl 139 [v0] G) :=
  fun r hr => cl_sxE_some Q orc (vs := [v0]) G Tryz.func139 (by kernel_rfl) (by kernel_rfl) (by kernel_rfl) (by kernel_rfl) (by kernel_rfl) (by kernel_rfl) (m139 h v0 G r hr)
/-- coxswain/stack.NewPop -/
noncomputable def s140 (q : Bool) (e : Ex) (v0 : Value) (G : GS) : Option (Value × GS) :=
  bS (bx q v0 G) fun x0 G1 =>
  bP (lda Q q 28 3 x0 G1) fun x2 =>
  bP (bd Q q 286 z286 [(0, 0, 3), (4, 6, 1)] [x2, (.bool true)]) fun x3 =>
  bP (bd Q q 289 z289 [(0, 0, 9), (1, 9, 1)] [x3, (.func (.func 174) #[] #[])]) fun x4 =>
  bS (bx q x4 G1) fun x5 G6 =>
  some (x5, G6)
theorem m140 {e : Ex} {E : Ev} (h : ExLe Q e E) (v0 : Value) (G : GS) : Ref (s140 true e v0 G) (s140 false (Ex.of E) v0 G) := by
  unfold s140
  exact Ref.go
theorem f140 {orc : FuncId → Bool} {e : Ex} (h : ExLe Q e (E orc)) (v0 : Value) (G : GS) : Ref (s140 true e v0 G) ((E orc).cl 140 [v0] G) :=
  fun r hr => cl_sxE_some Q orc (vs := [v0]) G Tryz.func140 (by kernel_rfl) (by kernel_rfl) (by kernel_rfl) (by kernel_rfl) (by kernel_rfl) (by kernel_rfl) (m140 h v0 G r hr)
/-- (*coxswain/arena.Alloc).pop -/
noncomputable def s141 (q : Bool) (e : Ex) (v0 v1 : Value) (G : GS) : Option (Value × GS) :=
  bP (pNil v0) fun x0 =>
  bP (fa Q q 241 0 0 x0) fun x1 =>
  bP (ld Q q 237 x1 G) fun x2 =>
  bS (e.ev.cl 175 [x2, v1] G) fun x3 G4 =>
  bP (un Q q .not x3) fun x5 =>
  ifV x5 (
  some (.tuple #[], G4)) (
  bP (pNil v0) fun x6 =>
  bP (fa Q q 241 0 0 x6) fun x7 =>
  bP (ld Q q 237 x7 G4) fun x8 =>
  bS (e.ev.cl 176 [x8] G4) fun x9 G10 =>
  bP (pExtract x9 0) fun x11 =>
  bP (pExtract x9 1) fun x12 =>
  bP (pNil v0) fun x13 =>
  bP (fa Q q 241 4 9 x13) fun x14 =>
  bP (st Q q 3 1 x14 x11 G10) fun G15 =>
  bP (pNil v0) fun x16 =>
  bP (fa Q q 241 3 8 x16) fun x17 =>
  bP (st Q q 239 1 x17 (.func (.func 177) #[] #[]) G15) fun G18 =>
  bP (bn Q q .neq 23 (.tmp 28) (.const (.int .i64 0)) x12 (.int .i64 0)) fun x19 =>
  ifV x19 (
  bP (pNil v0) fun x20 =>
  bP (fa Q q 241 3 8 x20) fun x21 =>
  bP (st Q q 239 1 x21 (.func (.func 178) #[] #[]) G18) fun G22 =>
  some (.tuple #[], G22)) (
  some (.tuple #[], G18)))
theorem m141 {e : Ex} {E : Ev} (h : ExLe Q e E) (v0 v1 : Value) (G : GS) : Ref (s141 true e v0 v1 G) (s141 false (Ex.of E) v0 v1 G) := by
  unfold s141
  exact Ref.go
theorem f141 {orc : FuncId → Bool} {e : Ex} (h : ExLe Q e (E orc)) (v0 v1 : Value) (G : GS) : Ref (s141 true e v0 v1 G) ((E orc).cl 141 [v0, v1] G) :=
  fun r hr => cl_sxE_some Q orc (vs := [v0, v1]) G Tryz.func141 (by kernel_rfl) (by kernel_rfl) (by kernel_rfl) (by kernel_rfl) (by kernel_rfl) (by kernel_rfl) (m141 h v0 v1 G r hr)
/-- (*coxswain/arena.Alloc).Ref -/
noncomputable def s142 (q : Bool) (e : Ex) (v0 : Value) (G : GS) : Option (Value × GS) :=
  bP (ep Q q false 166 (.tmp 5) (.const (.pointer none)) v0 (.pointer none)) fun x0 =>
  bS (gd x0 false (some (v0, G)) G) fun x1 G2 =>
  bS (gd x0 false (bP (pNil x1) fun y => some (y, G2)) G2) fun x3 G4 =>
  bS (gd x0 false (bP (fa Q q 241 2 7 x3) fun y => some (y, G4)) G4) fun x5 G6 =>
  bS (gd x0 false (bP (ld Q q 4 x5 G6) fun y => some (y, G6)) G6) fun x7 G8 =>
  bS (gd x0 false (bP (un Q q .not x7) fun y => some (y, G8)) G8) fun x9 G10 =>
  bP (pickV x0 (.bool true) x9) fun x11 =>
  ifV x11 (
  some (.tuple #[(.int .u64 0), (.int .i64 1)], G10)) (
  bP (pNil v0) fun x12 =>
  bP (fa Q q 241 3 8 x12) fun x13 =>
  bP (ld Q q 239 x13 G10) fun x14 =>
  bP (ef Q q true 239 (.tmp 18) (.const .nilFunc) x14 .nilFunc) fun x15 =>
  ifV x15 (
  some (.tuple #[(.int .u64 0), (.int .i64 14)], G10)) (
  bP (pNil v0) fun x16 =>
  bP (fa Q q 241 5 10 x16) fun x17 =>
  bP (ld Q q 38 x17 (G10.room 10)) fun x18 =>
  bP (pNil v0) fun x19 =>
  bP (fa Q q 241 6 11 x19) fun x20 =>
  bP (ld Q q 23 x20 (G10.room 10)) fun x21 =>
  some (.tuple #[x18, x21], (G10.room 10))))
theorem m142 {e : Ex} {E : Ev} (h : ExLe Q e E) (v0 : Value) (G : GS) : Ref (s142 true e v0 G) (s142 false (Ex.of E) v0 G) := by
  unfold s142
  exact Ref.go
theorem f142 {orc : FuncId → Bool} {e : Ex} (h : ExLe Q e (E orc)) (v0 : Value) (G : GS) : Ref (s142 true e v0 G) ((E orc).cl 142 [v0] G) :=
  fun r hr => cl_sxE_some Q orc (vs := [v0]) G Tryz.func142 (by kernel_rfl) (by kernel_rfl) (by kernel_rfl) (by kernel_rfl) (by kernel_rfl) (by kernel_rfl) (m142 h v0 G r hr)
/-- (*coxswain/ready.Put).lay -/
noncomputable def s143 (q : Bool) (e : Ex) (v0 : Value) (G : GS) : Option (Value × GS) :=
  bS (bx q v0 G) fun x0 G1 =>
  bP (bd Q q 297 z297 [(0, 0, 1), (1, 1, 1)] [(.func (.func 179) #[] #[x0]), (.func (.func 181) #[] #[])]) fun x2 =>
  bS (bx q x2 G1) fun x3 G4 =>
  bP (ifc Q q 290 x3) fun x5 =>
  some (x5, G4)
theorem m143 {e : Ex} {E : Ev} (h : ExLe Q e E) (v0 : Value) (G : GS) : Ref (s143 true e v0 G) (s143 false (Ex.of E) v0 G) := by
  unfold s143
  exact Ref.go
theorem f143 {orc : FuncId → Bool} {e : Ex} (h : ExLe Q e (E orc)) (v0 : Value) (G : GS) : Ref (s143 true e v0 G) ((E orc).cl 143 [v0] G) :=
  fun r hr => cl_sxE_some Q orc (vs := [v0]) G Tryz.func143 (by kernel_rfl) (by kernel_rfl) (by kernel_rfl) (by kernel_rfl) (by kernel_rfl) (by kernel_rfl) (m143 h v0 G r hr)
/-- (*coxswain/ready.Put).link -/
noncomputable def s144 (q : Bool) (e : Ex) (v0 : Value) (G : GS) : Option (Value × GS) :=
  bS (bx q v0 G) fun x0 G1 =>
  bP (bd Q q 305 z305 [(0, 0, 1), (1, 1, 1)] [(.func (.func 182) #[] #[x0]), (.func (.func 184) #[] #[])]) fun x2 =>
  bS (bx q x2 G1) fun x3 G4 =>
  bP (ifc Q q 298 x3) fun x5 =>
  some (x5, G4)
theorem m144 {e : Ex} {E : Ev} (h : ExLe Q e E) (v0 : Value) (G : GS) : Ref (s144 true e v0 G) (s144 false (Ex.of E) v0 G) := by
  unfold s144
  exact Ref.go
theorem f144 {orc : FuncId → Bool} {e : Ex} (h : ExLe Q e (E orc)) (v0 : Value) (G : GS) : Ref (s144 true e v0 G) ((E orc).cl 144 [v0] G) :=
  fun r hr => cl_sxE_some Q orc (vs := [v0]) G Tryz.func144 (by kernel_rfl) (by kernel_rfl) (by kernel_rfl) (by kernel_rfl) (by kernel_rfl) (by kernel_rfl) (m144 h v0 G r hr)
/-- (*coxswain/ready.Put).given$1 -/
noncomputable def s145 (q : Bool) (e : Ex) (v0 : Value) (G : GS) : Option (Value × GS) :=
  bP (ld Q q 26 v0 G) fun x0 =>
  bP (pNil x0) fun x1 =>
  bP (fa Q q 42 0 0 x1) fun x2 =>
  bS (e.ev.cl 146 [x2, .nilFunc] G) fun x3 G4 =>
  some (x3, G4)
theorem m145 {e : Ex} {E : Ev} (h : ExLe Q e E) (v0 : Value) (G : GS) : Ref (s145 true e v0 G) (s145 false (Ex.of E) v0 G) := by
  unfold s145
  exact Ref.go
theorem f145 {orc : FuncId → Bool} {e : Ex} (h : ExLe Q e (E orc)) (v0 : Value) (G : GS) : Ref (s145 true e v0 G) ((E orc).cl 145 [v0] G) :=
  fun r hr => cl_sxE_some Q orc (vs := [v0]) G Tryz.func145 (by kernel_rfl) (by kernel_rfl) (by kernel_rfl) (by kernel_rfl) (by kernel_rfl) (by kernel_rfl) (m145 h v0 G r hr)
/-- (*coxswain/ready.work).collect -/
noncomputable def s146 (q : Bool) (e : Ex) (v0 v1 : Value) (G : GS) : Option (Value × GS) :=
  bS (bx q v0 G) fun x0 G1 =>
  bP (bd Q q 313 z313 [(0, 0, 1), (2, 2, 1)] [(.func (.func 185) #[] #[x0]), v1]) fun x2 =>
  bS (bx q x2 G1) fun x3 G4 =>
  bP (ifc Q q 307 x3) fun x5 =>
  some (x5, G4)
theorem m146 {e : Ex} {E : Ev} (h : ExLe Q e E) (v0 v1 : Value) (G : GS) : Ref (s146 true e v0 v1 G) (s146 false (Ex.of E) v0 v1 G) := by
  unfold s146
  exact Ref.go
theorem f146 {orc : FuncId → Bool} {e : Ex} (h : ExLe Q e (E orc)) (v0 v1 : Value) (G : GS) : Ref (s146 true e v0 v1 G) ((E orc).cl 146 [v0, v1] G) :=
  fun r hr => cl_sxE_some Q orc (vs := [v0, v1]) G Tryz.func146 (by kernel_rfl) (by kernel_rfl) (by kernel_rfl) (by kernel_rfl) (by kernel_rfl) (by kernel_rfl) (m146 h v0 v1 G r hr)
noncomputable def b147_0 (q : Bool) (e : Ex) (lp : Env → GS → Option (Exit × Env × GS)) (τ : Env) (G : GS) : Option (Exit × Env × GS) :=
  bV q (τ 1) fun a1_ =>
  bV q (τ 2) fun a2_ =>
  bV q (τ 18) fun a18_ =>
  bV q (τ 19) fun a19_ =>
  bP (bn Q q .lss 3 (.tmp 19) (.tmp 18) a19_ a18_) fun x0 =>
  ifV x0 (
  bP (fa Q q 30 1 3 a2_) fun x1 =>
  bP (ld Q q 3 x1 G) fun x2 =>
  bP (bn Q q .add 3 (.tmp 24) (.tmp 25) x2 a19_) fun x3 =>
  bS (e.ev.cl 29 [a1_, x3, (.int .u64 1)] G) fun x4 G5 =>
  bP (bn Q q .add 3 (.tmp 19) (.const (.int .i64 1)) a19_ (.int .i64 1)) fun x6 =>
  lp (tu τ [(1, a1_), (2, a2_), (18, a18_), (19, x6), (4, a19_), (20, x0), (21, a19_), (22, a1_), (23, x1), (24, x2), (25, a19_), (26, x3), (27, x4), (28, x6)]) G5) (
  some ((.exit 0), clq q 29 (tu τ [(1, a1_), (2, a2_), (18, a18_), (19, a19_), (20, x0)]), G))
theorem mb147_0 {e : Ex} {E : Ev} (h : ExLe Q e E) {lp lp' : Env → GS → Option (Exit × Env × GS)} (hlp : LpLe lp lp') (τ : Env) (G : GS) : Ref (b147_0 true e lp τ G) (b147_0 false (Ex.of E) lp' τ G) := by
  unfold b147_0
  exact Ref.go
theorem l147_0 {orc : FuncId → Bool} {e : Ex} (h : ExLe Q e (E orc)) (lp : Env → GS → Option (Exit × Env × GS)) (hlp : ∀ τ G, Ref (lp τ G) (mapE ((E orc).lp (subAt [1, 1, 1, 1, 1, 0, 0] (bodyOf Tryz.f147)) (lst 29 τ) G))) (T : List Value) (G : GS) (hT : T.length = 29) : Ref (b147_0 true e lp (nth undef T) G) (mapE ((E orc).lp (subAt [1, 1, 1, 1, 1, 0, 0] (bodyOf Tryz.f147)) T G)) :=
  fun r hr => lp_sxM Q orc G hT (by kernel_rfl) (mb147_0 h ⟨hlp⟩ _ _ r hr)
/-- coxswain/arena.Fill -/
noncomputable def s147 (q : Bool) (e : Ex) (v0 v1 : Value) (G : GS) : Option (Value × GS) :=
  bS (bx q v0 G) fun x0 G1 =>
  bP (lda Q q 30 6 x0 G1) fun x2 =>
  bS (e.ev.cl 187 [x2] G1) fun x3 G4 =>
  bP (un Q q .not x3) fun x5 =>
  ifV x5 (
  some (.tuple #[], G4)) (
  bP (fa Q q 30 0 0 x0) fun x6 =>
  bP (lda Q q 28 3 x6 G4) fun x7 =>
  bS (e.ev.cl 188 [x7, v1] G4) fun x8 G9 =>
  bP (fa Q q 30 2 4 x0) fun x10 =>
  bP (ld Q q 3 x10 G9) fun x11 =>
  bS (e.ev.cl 29 [v1, x11, (.int .u64 0)] G9) fun x12 G13 =>
  bP (fa Q q 30 0 0 x0) fun x14 =>
  bP (fa Q q 28 2 2 x14) fun x15 =>
  bP (ld Q q 3 x15 G13) fun x16 =>
  bL q e 147 0 (subAt [1, 1, 1, 1, 1, 0, 0] (bodyOf Tryz.f147)) 29 (tu (nth undef [v0, v1]) [(2, x0), (5, x2), (6, x3), (7, x5), (8, x6), (9, x7), (10, v1), (11, x8), (12, v1), (13, x10), (14, x11), (15, x12), (16, x14), (17, x15), (18, x16), (19, (.int .i64 0))]) G13 fun e17 t18 G19 =>
  ifE e17 (.exit 0) (
  some (.tuple #[], G19)) (none))
theorem m147 {e : Ex} {E : Ev} (h : ExLe Q e E) (v0 v1 : Value) (G : GS) : Ref (s147 true e v0 v1 G) (s147 false (Ex.of E) v0 v1 G) := by
  unfold s147
  exact Ref.go
theorem f147 {orc : FuncId → Bool} {e : Ex} (h : ExLe Q e (E orc)) (v0 v1 : Value) (G : GS) : Ref (s147 true e v0 v1 G) ((E orc).cl 147 [v0, v1] G) :=
  fun r hr => cl_sxE_some Q orc (vs := [v0, v1]) G Tryz.func147 (by kernel_rfl) (by kernel_rfl) (by kernel_rfl) (by kernel_rfl) (by kernel_rfl) (by kernel_rfl) (m147 h v0 v1 G r hr)
/-- coxswain/epoch.Fill -/
noncomputable def s148 (q : Bool) (e : Ex) (v0 v1 : Value) (G : GS) : Option (Value × GS) :=
  bS (bx q v0 G) fun x0 G1 =>
  bS (bx q v1 G1) fun x2 G3 =>
  bP (lda Q q 32 3 x0 G3) fun x4 =>
  bS (e.ev.cl 157 [x4] G3) fun x5 G6 =>
  bP (un Q q .not x5) fun x7 =>
  ifV x7 (
  some (.tuple #[], G6)) (
  bP (ld Q q 22 x2 G6) fun x8 =>
  bP (fa Q q 32 0 0 x0) fun x9 =>
  bP (ld Q q 3 x9 G6) fun x10 =>
  bS (e.ev.cl 29 [x8, x10, (.int .u64 0)] G6) fun x11 G12 =>
  bP (lda Q q 32 3 x0 G12) fun x13 =>
  bS (e.ev.cl 158 [x13] G12) fun x14 G15 =>
  bX (xRange e.ev x14 #[15, 16] (subAt [1, 1, 1, 1, 0, 0] (bodyOf Tryz.f148)) (subAt [1, 1, 1, 1, 0, 1] (bodyOf Tryz.f148)) (lst 20 (tu (nth undef [v0, v1]) [(2, x0), (3, x2), (6, x4), (7, x5), (8, x7), (9, x8), (10, x9), (11, x10), (12, x11), (13, x13), (14, x14)])) G15) fun e16 T17 G18 =>
  ifE e16 .normal (
  some (.tuple #[], G18)) (none))
theorem m148 {e : Ex} {E : Ev} (h : ExLe Q e E) (v0 v1 : Value) (G : GS) : Ref (s148 true e v0 v1 G) (s148 false (Ex.of E) v0 v1 G) := by
  unfold s148
  exact Ref.go
theorem f148 {orc : FuncId → Bool} {e : Ex} (h : ExLe Q e (E orc)) (v0 v1 : Value) (G : GS) : Ref (s148 true e v0 v1 G) ((E orc).cl 148 [v0, v1] G) :=
  fun r hr => cl_sxE_some Q orc (vs := [v0, v1]) G Tryz.func148 (by kernel_rfl) (by kernel_rfl) (by kernel_rfl) (by kernel_rfl) (by kernel_rfl) (by kernel_rfl) (m148 h v0 v1 G r hr)
/-- (coxswain/limbo.turn).stack -/
noncomputable def s149 (q : Bool) (e : Ex) (v0 v1 : Value) (G : GS) : Option (Value × GS) :=
  bS (bx q v1 G) fun x0 G1 =>
  bS (al Q q 28 z28 G1) fun x2 G3 =>
  bP (fa Q q 34 2 9 x0) fun x4 =>
  bP (ld Q q 3 x4 G3) fun x5 =>
  bP (bn Q q .add 3 (.tmp 6) (.tmp 7) x5 v0) fun x6 =>
  bP (fa Q q 34 0 0 x0) fun x7 =>
  bP (fa Q q 30 0 0 x7) fun x8 =>
  bP (fa Q q 28 1 1 x8) fun x9 =>
  bP (ld Q q 3 x9 G3) fun x10 =>
  bP (fa Q q 34 0 0 x0) fun x11 =>
  bP (fa Q q 30 0 0 x11) fun x12 =>
  bP (fa Q q 28 2 2 x12) fun x13 =>
  bP (ld Q q 3 x13 G3) fun x14 =>
  bP (bd Q q 28 z28 [(0, 0, 1), (1, 1, 1), (2, 2, 1)] [x6, x10, x14]) fun x15 =>
  bP (st Q q 28 3 x2 x15 G3) fun G16 =>
  bP (lda Q q 28 3 x2 G16) fun x17 =>
  some (x17, G16)
theorem m149 {e : Ex} {E : Ev} (h : ExLe Q e E) (v0 v1 : Value) (G : GS) : Ref (s149 true e v0 v1 G) (s149 false (Ex.of E) v0 v1 G) := by
  unfold s149
  exact Ref.go
theorem f149 {orc : FuncId → Bool} {e : Ex} (h : ExLe Q e (E orc)) (v0 v1 : Value) (G : GS) : Ref (s149 true e v0 v1 G) ((E orc).cl 149 [v0, v1] G) :=
  fun r hr => cl_sxE_some Q orc (vs := [v0, v1]) G Tryz.func149 (by kernel_rfl) (by kernel_rfl) (by kernel_rfl) (by kernel_rfl) (by kernel_rfl) (by kernel_rfl) (m149 h v0 v1 G r hr)
/-- coxswain/word.GetRef -/
noncomputable def s154 (q : Bool) (e : Ex) (v0 : Value) (G : GS) : Option (Value × GS) :=
  bS (al Q q 258 z258 G) fun x0 G1 =>
  bS (e.ev.cl 195 [] G1) fun x2 G3 =>
  bS (al Q q 320 z320 G3) fun x4 G5 =>
  bP (st Q q 320 4 x4 x2 G5) fun G6 =>
  bP (iaa Q q 320 2 2 x4 (.int .i64 0)) fun x7 =>
  bP (lda Q q 319 2 x7 (G6.room 14)) fun x8 =>
  bS (e.ev.cl 196 [v0, x8] (G6.room 14)) fun x10 G9 =>
  bP (bn Q q .sub 3 (.tmp 12) (.const (.int .i64 1)) x10 (.int .i64 1)) fun x11 =>
  bP (iaa Q q 320 2 2 x4 (.int .i64 1)) fun x12 =>
  bP (lda Q q 319 2 x12 G9) fun x13 =>
  chk ((sameO (lda Q q 319 2 x12 (G6.room 14)) x13 && true)) <|
  bS (e.ev.cl 196 [v0, x13] G9) fun x15 G14 =>
  bS (e.ev.cl 197 [v0] G14) fun x17 G16 =>
  bP (bd Q q 258 z258 [(0, 0, 1), (1, 1, 1), (2, 2, 1)] [x11, x15, x17]) fun x18 =>
  bS (al Q q 258 z258 (G16.at' (G6.nx + 12))) fun x19 G20 =>
  bP (st Q q 258 3 x19 x18 (G20.back G16)) fun G21 =>
  bP (lda Q q 258 3 x19 G21) fun x22 =>
  bS (e.ev.cl 198 [x22] G21) fun x23 G24 =>
  bP (pExtract x23 0) fun x25 =>
  bP (pExtract x23 1) fun x26 =>
  bP (bn Q q .neq 23 (.tmp 26) (.const (.int .i64 0)) x26 (.int .i64 0)) fun x27 =>
  bS (gd x27 false (some (x25, G24)) G24) fun x28 G29 =>
  bS (gd x27 false (some (v0, G29)) G29) fun x30 G31 =>
  bS (gd x27 false (bP (bn Q q .neq 38 (.tmp 29) (.tmp 30) x28 x30) fun y => some (y, G31)) G31) fun x32 G33 =>
  bP (pickV x27 (.bool true) x32) fun x34 =>
  ifV x34 (
  bP (bd Q q 258 z258 [] []) fun x35 =>
  bP (st Q q 258 3 x0 x35 G33) fun G36 =>
  bP (lda Q q 258 3 x0 G36) fun x37 =>
  some (.tuple #[x37, (.int .i64 5)], G36)) (
  bP (lda Q q 258 3 x19 G33) fun x38 =>
  bP (st Q q 258 3 x0 x38 G33) fun G39 =>
  bP (lda Q q 258 3 x0 G39) fun x40 =>
  some (.tuple #[x40, (.int .i64 0)], G39))
theorem m154 {e : Ex} {E : Ev} (h : ExLe Q e E) (v0 : Value) (G : GS) : Ref (s154 true e v0 G) (s154 false (Ex.of E) v0 G) := by
  unfold s154
  exact Ref.go
theorem f154 {orc : FuncId → Bool} {e : Ex} (h : ExLe Q e (E orc)) (v0 : Value) (G : GS) : Ref (s154 true e v0 G) ((E orc).cl 154 [v0] G) :=
  fun r hr => cl_sxE_some Q orc (vs := [v0]) G Tryz.func154 (by kernel_rfl) (by kernel_rfl) (by kernel_rfl) (by kernel_rfl) (by kernel_rfl) (by kernel_rfl) (m154 h v0 G r hr)
/-- (*coxswain/epoch.Unpin).clear -/
noncomputable def s156 (q : Bool) (e : Ex) (v0 v1 : Value) (G : GS) : Option (Value × GS) :=
  bP (pNil v0) fun x0 =>
  bP (fa Q q 264 1 6 x0) fun x1 =>
  bP (ld Q q 3 x1 G) fun x2 =>
  bS (e.ev.cl 29 [v1, x2, (.int .u64 0)] G) fun x3 G4 =>
  bP (pNil v0) fun x5 =>
  bP (fa Q q 264 0 0 x5) fun x6 =>
  bS (e.ev.cl 135 [x6, (.int .i64 0)] G4) fun x7 G8 =>
  some (.tuple #[], G8)
theorem m156 {e : Ex} {E : Ev} (h : ExLe Q e E) (v0 v1 : Value) (G : GS) : Ref (s156 true e v0 v1 G) (s156 false (Ex.of E) v0 v1 G) := by
  unfold s156
  exact Ref.go
theorem f156 {orc : FuncId → Bool} {e : Ex} (h : ExLe Q e (E orc)) (v0 v1 : Value) (G : GS) : Ref (s156 true e v0 v1 G) ((E orc).cl 156 [v0, v1] G) :=
  fun r hr => cl_sxE_some Q orc (vs := [v0, v1]) G Tryz.func156 (by kernel_rfl) (by kernel_rfl) (by kernel_rfl) (by kernel_rfl) (by kernel_rfl) (by kernel_rfl) (m156 h v0 v1 G r hr)
/-- coxswain/epoch.sized -/
noncomputable def s157 (q : Bool) (e : Ex) (v0 : Value) (G : GS) : Option (Value × GS) :=
  bS (bx q v0 G) fun x0 G1 =>
  bP (fa Q q 32 2 2 x0) fun x2 =>
  bP (ld Q q 3 x2 G1) fun x3 =>
  bP (bn Q q .geq 3 (.tmp 4) (.const (.int .i64 1)) x3 (.int .i64 1)) fun x4 =>
  bS (gd x4 true (bP (fa Q q 32 2 2 x0) fun y => some (y, G1)) G1) fun x5 G6 =>
  bS (gd x4 true (bP (ld Q q 3 x5 G6) fun y => some (y, G6)) G6) fun x7 G8 =>
  bS (gd x4 true (bP (bn Q q .leq 3 (.tmp 8) (.const (.int .i64 64)) x7 (.int .i64 64)) fun y => some (y, G8)) G8) fun x9 G10 =>
  bP (pickV x4 x9 (.bool false)) fun x11 =>
  some (x11, G10)
theorem m157 {e : Ex} {E : Ev} (h : ExLe Q e E) (v0 : Value) (G : GS) : Ref (s157 true e v0 G) (s157 false (Ex.of E) v0 G) := by
  unfold s157
  exact Ref.go
theorem f157 {orc : FuncId → Bool} {e : Ex} (h : ExLe Q e (E orc)) (v0 : Value) (G : GS) : Ref (s157 true e v0 G) ((E orc).cl 157 [v0] G) :=
  fun r hr => cl_sxE_some Q orc (vs := [v0]) G Tryz.func157 (by kernel_rfl) (by kernel_rfl) (by kernel_rfl) (by kernel_rfl) (by kernel_rfl) (by kernel_rfl) (m157 h v0 G r hr)
/-- coxswain/epoch.pins -/
noncomputable def s158 (q : Bool) (e : Ex) (v0 : Value) (G : GS) : Option (Value × GS) :=
  bS (bx q v0 G) fun x0 G1 =>
  some ((.func (.func 199) #[] #[x0]), G1)
theorem m158 {e : Ex} {E : Ev} (h : ExLe Q e E) (v0 : Value) (G : GS) : Ref (s158 true e v0 G) (s158 false (Ex.of E) v0 G) := by
  unfold s158
  exact Ref.go
theorem f158 {orc : FuncId → Bool} {e : Ex} (h : ExLe Q e (E orc)) (v0 : Value) (G : GS) : Ref (s158 true e v0 G) ((E orc).cl 158 [v0] G) :=
  fun r hr => cl_sxE_some Q orc (vs := [v0]) G Tryz.func158 (by kernel_rfl) (by kernel_rfl) (by kernel_rfl) (by kernel_rfl) (by kernel_rfl) (by kernel_rfl) (m158 h v0 G r hr)
/-- (*coxswain/ready.Look).By -/
noncomputable def s160 (q : Bool) (e : Ex) (v0 : Value) (G : GS) : Option (Value × GS) :=
  bP (ep Q q false 52 (.tmp 3) (.const (.pointer none)) v0 (.pointer none)) fun x0 =>
  ifV x0 (
  some ((.int .u64 0), G)) (
  bP (pNil v0) fun x1 =>
  bP (fa Q q 53 0 0 x1) fun x2 =>
  bP (fa Q q 40 5 17 x2) fun x3 =>
  bP (ld Q q 38 x3 G) fun x4 =>
  some (x4, G))
theorem m160 {e : Ex} {E : Ev} (h : ExLe Q e E) (v0 : Value) (G : GS) : Ref (s160 true e v0 G) (s160 false (Ex.of E) v0 G) := by
  unfold s160
  exact Ref.go
theorem f160 {orc : FuncId → Bool} {e : Ex} (h : ExLe Q e (E orc)) (v0 : Value) (G : GS) : Ref (s160 true e v0 G) ((E orc).cl 160 [v0] G) :=
  fun r hr => cl_sxE_some Q orc (vs := [v0]) G Tryz.func160 (by kernel_rfl) (by kernel_rfl) (by kernel_rfl) (by kernel_rfl) (by kernel_rfl) (by kernel_rfl) (m160 h v0 G r hr)
/-- (coxswain/cells.deed).load -/
noncomputable def s161 (q : Bool) (e : Ex) (v0 : Value) (G : GS) : Option (Value × GS) :=
  bS (bx q v0 G) fun x0 G1 =>
  bP (fa Q q 135 0 0 x0) fun x2 =>
  bP (ld Q q 132 x2 G1) fun x3 =>
  bP (pNil x3) fun x4 =>
  bP (ld Q q 97 x4 G1) fun x5 =>
  some (.tuple #[x5, (.bool false)], G1)
theorem m161 {e : Ex} {E : Ev} (h : ExLe Q e E) (v0 : Value) (G : GS) : Ref (s161 true e v0 G) (s161 false (Ex.of E) v0 G) := by
  unfold s161
  exact Ref.go
theorem f161 {orc : FuncId → Bool} {e : Ex} (h : ExLe Q e (E orc)) (v0 : Value) (G : GS) : Ref (s161 true e v0 G) ((E orc).cl 161 [v0] G) :=
  fun r hr => cl_sxE_some Q orc (vs := [v0]) G Tryz.func161 (by kernel_rfl) (by kernel_rfl) (by kernel_rfl) (by kernel_rfl) (by kernel_rfl) (by kernel_rfl) (m161 h v0 G r hr)
/-- coxswain/claim.seek[struct{}] -/
noncomputable def s172 (q : Bool) (e : Ex) (v0 : Value) (G : GS) : Option (Value × GS) :=
  bS (bx q v0 G) fun x0 G1 =>
  bS (al Q q 280 z280 G1) fun x2 G3 =>
  bP (lda Q q 36 13 x0 G3) fun x4 =>
  bS (e.ev.cl 100 [x4, (.int .i64 (-1)), (.int .i64 0)] G3) fun x5 G6 =>
  bP (bn Q q .lss 3 (.tmp 4) (.const (.int .i64 0)) x5 (.int .i64 0)) fun x7 =>
  ifV x7 (
  bP (bd Q q 280 z280 [(8, 20, 1), (2, 13, 1), (9, 21, 1)] [(.bool true), (.int .i64 99), (.int .i64 2)]) fun x8 =>
  bP (st Q q 280 22 x2 x8 G6) fun G9 =>
  bP (lda Q q 280 22 x2 G9) fun x10 =>
  some (x10, G9)) (
  bP (lda Q q 36 13 x0 G6) fun x11 =>
  bP (bd Q q 280 z280 [(0, 0, 13), (8, 20, 1), (2, 13, 1)] [x11, (.bool true), (.int .i64 1)]) fun x12 =>
  bP (st Q q 280 22 x2 x12 G6) fun G13 =>
  bP (lda Q q 280 22 x2 G13) fun x14 =>
  some (x14, G13))
theorem m172 {e : Ex} {E : Ev} (h : ExLe Q e E) (v0 : Value) (G : GS) : Ref (s172 true e v0 G) (s172 false (Ex.of E) v0 G) := by
  unfold s172
  exact Ref.go
theorem f172 {orc : FuncId → Bool} {e : Ex} (h : ExLe Q e (E orc)) (v0 : Value) (G : GS) : Ref (s172 true e v0 G) ((E orc).cl 172 [v0] G) :=
  fun r hr => cl_sxE_some Q orc (vs := [v0]) G Tryz.func172 (by kernel_rfl) (by kernel_rfl) (by kernel_rfl) (by kernel_rfl) (by kernel_rfl) (by kernel_rfl) (m172 h v0 G r hr)
/-- (*coxswain/claim.seeker[struct{}]).item -/
noncomputable def s173 (q : Bool) (e : Ex) (v0 : Value) (G : GS) : Option (Value × GS) :=
  bS (al Q q 46 z46 G) fun x0 G1 =>
  bP (pNil v0) fun x2 =>
  bP (fa Q q 280 8 20 x2) fun x3 =>
  bP (ld Q q 4 x3 G1) fun x4 =>
  bP (un Q q .not x4) fun x5 =>
  ifV x5 (
  bP (bd Q q 46 z46 [] []) fun x6 =>
  bP (st Q q 46 2 x0 x6 G1) fun G7 =>
  bP (lda Q q 46 2 x0 G7) fun x8 =>
  some (.tuple #[x8, (.int .i64 1)], G7)) (
  bP (pNil v0) fun x9 =>
  bP (fa Q q 280 2 13 x9) fun x10 =>
  bP (ld Q q 3 x10 G1) fun x11 =>
  bP (bn Q q .neq 3 (.tmp 15) (.const (.int .i64 99)) x11 (.int .i64 99)) fun x12 =>
  ifV x12 (
  bP (bd Q q 46 z46 [] []) fun x13 =>
  bP (st Q q 46 2 x0 x13 G1) fun G14 =>
  bP (lda Q q 46 2 x0 G14) fun x15 =>
  some (.tuple #[x15, (.int .i64 14)], G14)) (
  bP (pNil v0) fun x16 =>
  bP (fa Q q 280 9 21 x16) fun x17 =>
  bP (ld Q q 23 x17 G1) fun x18 =>
  bP (bn Q q .neq 23 (.tmp 22) (.const (.int .i64 0)) x18 (.int .i64 0)) fun x19 =>
  ifV x19 (
  bP (bd Q q 46 z46 [] []) fun x20 =>
  bP (pNil v0) fun x21 =>
  bP (fa Q q 280 9 21 x21) fun x22 =>
  bP (ld Q q 23 x22 (G1.room 7)) fun x23 =>
  bP (st Q q 46 2 x0 x20 (G1.room 7)) fun G24 =>
  chk ((sameO (ld Q q 23 x22 G24) x23 && true)) <|
  bP (lda Q q 46 2 x0 G24) fun x25 =>
  some (.tuple #[x25, x23], G24)) (
  bP (pNil v0) fun x26 =>
  bP (fa Q q 280 6 17 x26) fun x27 =>
  bP (lda Q q 46 2 x27 G1) fun x28 =>
  bP (st Q q 46 2 x0 x28 G1) fun G29 =>
  bP (lda Q q 46 2 x0 G29) fun x30 =>
  some (.tuple #[x30, (.int .i64 0)], G29))))
theorem m173 {e : Ex} {E : Ev} (h : ExLe Q e E) (v0 : Value) (G : GS) : Ref (s173 true e v0 G) (s173 false (Ex.of E) v0 G) := by
  unfold s173
  exact Ref.go
theorem f173 {orc : FuncId → Bool} {e : Ex} (h : ExLe Q e (E orc)) (v0 : Value) (G : GS) : Ref (s173 true e v0 G) ((E orc).cl 173 [v0] G) :=
  fun r hr => cl_sxE_some Q orc (vs := [v0]) G Tryz.func173 (by kernel_rfl) (by kernel_rfl) (by kernel_rfl) (by kernel_rfl) (by kernel_rfl) (by kernel_rfl) (m173 h v0 G r hr)
/-- (*coxswain/stack.Pop).first -/
noncomputable def s174 (q : Bool) (e : Ex) (v0 v1 : Value) (G : GS) : Option (Value × GS) :=
  bP (pNil v0) fun x0 =>
  bP (fa Q q 289 1 9 x0) fun x1 =>
  bP (st Q q 287 1 x1 (.func (.func 205) #[] #[]) G) fun G2 =>
  bP (pNil v0) fun x3 =>
  bP (fa Q q 289 0 0 x3) fun x4 =>
  bS (e.ev.cl 206 [x4, v1] G2) fun x5 G6 =>
  bP (pNil v0) fun x7 =>
  bP (fa Q q 289 0 0 x7) fun x8 =>
  bP (fa Q q 286 2 4 x8) fun x9 =>
  bP (st Q q 3 1 x9 x5 G6) fun G10 =>
  bP (pNil v0) fun x11 =>
  bP (fa Q q 289 0 0 x11) fun x12 =>
  bP (fa Q q 286 2 4 x12) fun x13 =>
  bP (ld Q q 3 x13 G10) fun x14 =>
  bP (bn Q q .lss 3 (.tmp 20) (.const (.int .i64 0)) x14 (.int .i64 0)) fun x15 =>
  ifV x15 (
  bP (pNil v0) fun x16 =>
  bP (fa Q q 289 0 0 x16) fun x17 =>
  bS (e.ev.cl 207 [x17, (.int .i64 15)] G10) fun x18 G19 =>
  some (.tuple #[], G19)) (
  some (.tuple #[], G10))
theorem m174 {e : Ex} {E : Ev} (h : ExLe Q e E) (v0 v1 : Value) (G : GS) : Ref (s174 true e v0 v1 G) (s174 false (Ex.of E) v0 v1 G) := by
  unfold s174
  exact Ref.go
theorem f174 {orc : FuncId → Bool} {e : Ex} (h : ExLe Q e (E orc)) (v0 v1 : Value) (G : GS) : Ref (s174 true e v0 v1 G) ((E orc).cl 174 [v0, v1] G) :=
  fun r hr => cl_sxE_some Q orc (vs := [v0, v1]) G Tryz.func174 (by kernel_rfl) (by kernel_rfl) (by kernel_rfl) (by kernel_rfl) (by kernel_rfl) (by kernel_rfl) (m174 h v0 v1 G r hr)
/-- (*coxswain/stack.Pop).Step -/
noncomputable def s175 (q : Bool) (e : Ex) (v0 v1 : Value) (G : GS) : Option (Value × GS) :=
  bP (ep Q q false 237 (.tmp 5) (.const (.pointer none)) v0 (.pointer none)) fun x0 =>
  bS (gd x0 false (some (v0, G)) G) fun x1 G2 =>
  bS (gd x0 false (bP (pNil x1) fun y => some (y, G2)) G2) fun x3 G4 =>
  bS (gd x0 false (bP (fa Q q 289 0 0 x3) fun y => some (y, G4)) G4) fun x5 G6 =>
  bS (gd x0 false (bS (e.ev.cl 208 [x5] G6) fun y G => some (y, G)) G6) fun x7 G8 =>
  bP (pickV x0 (.bool true) x7) fun x9 =>
  ifV x9 (
  some ((.bool true), G8)) (
  bP (pNil v0) fun x10 =>
  bP (fa Q q 289 1 9 x10) fun x11 =>
  bP (ld Q q 287 x11 G8) fun x12 =>
  bS (cValue e.ev x12 [v0, v1] G8) fun x13 G14 =>
  bP (pNil v0) fun x15 =>
  bP (fa Q q 289 0 0 x15) fun x16 =>
  bP (fa Q q 286 5 7 x16) fun x17 =>
  bP (ld Q q 4 x17 G14) fun x18 =>
  some (x18, G14))
theorem m175 {e : Ex} {E : Ev} (h : ExLe Q e E) (v0 v1 : Value) (G : GS) : Ref (s175 true e v0 v1 G) (s175 false (Ex.of E) v0 v1 G) := by
  unfold s175
  exact Ref.go
theorem f175 {orc : FuncId → Bool} {e : Ex} (h : ExLe Q e (E orc)) (v0 v1 : Value) (G : GS) : Ref (s175 true e v0 v1 G) ((E orc).cl 175 [v0, v1] G) :=
  fun r hr => cl_sxE_some Q orc (vs := [v0, v1]) G Tryz.func175 (by kernel_rfl) (by kernel_rfl) (by kernel_rfl) (by kernel_rfl) (by kernel_rfl) (by kernel_rfl) (m175 h v0 v1 G r hr)
/-- (*coxswain/stack.Pop).Index -/
noncomputable def s176 (q : Bool) (e : Ex) (v0 : Value) (G : GS) : Option (Value × GS) :=
  bP (ep Q q false 237 (.tmp 4) (.const (.pointer none)) v0 (.pointer none)) fun x0 =>
  ifV x0 (
  some (.tuple #[(.int .i64 0), (.int .i64 1)], G)) (
  bP (pNil v0) fun x1 =>
  bP (fa Q q 289 0 0 x1) fun x2 =>
  bS (e.ev.cl 209 [x2] G) fun x3 G4 =>
  bP (pExtract x3 0) fun x5 =>
  bP (pExtract x3 1) fun x6 =>
  some (.tuple #[x5, x6], G4))
theorem m176 {e : Ex} {E : Ev} (h : ExLe Q e E) (v0 : Value) (G : GS) : Ref (s176 true e v0 G) (s176 false (Ex.of E) v0 G) := by
  unfold s176
  exact Ref.go
theorem f176 {orc : FuncId → Bool} {e : Ex} (h : ExLe Q e (E orc)) (v0 : Value) (G : GS) : Ref (s176 true e v0 G) ((E orc).cl 176 [v0] G) :=
  fun r hr => cl_sxE_some Q orc (vs := [v0]) G Tryz.func176 (by kernel_rfl) (by kernel_rfl) (by kernel_rfl) (by kernel_rfl) (by kernel_rfl) (by kernel_rfl) (m176 h v0 G r hr)
/-- (*coxswain/arena.Alloc).gives -/
noncomputable def s177 (q : Bool) (e : Ex) (v0 v1 : Value) (G : GS) : Option (Value × GS) :=
  bP (pNil v0) fun x0 =>
  bP (fa Q q 241 4 9 x0) fun x1 =>
  bP (ld Q q 3 x1 (G.room 26)) fun x2 =>
  bP (pNil v0) fun x3 =>
  bP (fa Q q 241 1 1 x3) fun x4 =>
  bP (fa Q q 30 1 3 x4) fun x5 =>
  bP (ld Q q 3 x5 (G.room 26)) fun x6 =>
  bP (pNil v0) fun x7 =>
  bP (fa Q q 241 4 9 x7) fun x8 =>
  bP (ld Q q 3 x8 (G.room 26)) fun x9 =>
  bP (bn Q q .add 3 (.tmp 15) (.tmp 19) x6 x9) fun x10 =>
  bS (e.ev.cl 120 [v1, x10] (G.room 26)) fun x12 G11 =>
  chk ((sameO (ld Q q 3 x1 G11) x2 && true)) <|
  bS (e.ev.cl 210 [x12] G11) fun x14 G13 =>
  chk ((sameO (ld Q q 3 x1 G13) x2 && true)) <|
  bP (bd Q q 258 z258 [(0, 0, 1), (1, 1, 1)] [x2, x14]) fun x15 =>
  bS (e.ev.cl 198 [x15] G13) fun x17 G16 =>
  bP (pExtract x17 0) fun x18 =>
  bP (pExtract x17 1) fun x19 =>
  bP (pNil v0) fun x20 =>
  bP (fa Q q 241 5 10 x20) fun x21 =>
  bP (st Q q 38 1 x21 x18 G16) fun G22 =>
  bP (pNil v0) fun x23 =>
  bP (fa Q q 241 3 8 x23) fun x24 =>
  bP (st Q q 239 1 x24 .nilFunc G22) fun G25 =>
  some (.tuple #[], G25)
theorem m177 {e : Ex} {E : Ev} (h : ExLe Q e E) (v0 v1 : Value) (G : GS) : Ref (s177 true e v0 v1 G) (s177 false (Ex.of E) v0 v1 G) := by
  unfold s177
  exact Ref.go
theorem f177 {orc : FuncId → Bool} {e : Ex} (h : ExLe Q e (E orc)) (v0 v1 : Value) (G : GS) : Ref (s177 true e v0 v1 G) ((E orc).cl 177 [v0, v1] G) :=
  fun r hr => cl_sxE_some Q orc (vs := [v0, v1]) G Tryz.func177 (by kernel_rfl) (by kernel_rfl) (by kernel_rfl) (by kernel_rfl) (by kernel_rfl) (by kernel_rfl) (m177 h v0 v1 G r hr)
/-- (*coxswain/arena.Alloc).lacks -/
noncomputable def s178 (q : Bool) (e : Ex) (v0 v1 : Value) (G : GS) : Option (Value × GS) :=
  bP (pNil v0) fun x0 =>
  bP (fa Q q 241 6 11 x0) fun x1 =>
  bP (st Q q 23 1 x1 (.int .i64 7) G) fun G2 =>
  bP (pNil v0) fun x3 =>
  bP (fa Q q 241 1 1 x3) fun x4 =>
  bP (fa Q q 30 2 4 x4) fun x5 =>
  bP (ld Q q 3 x5 (G2.room 15)) fun x6 =>
  bS (e.ev.cl 120 [v1, x6] (G2.room 15)) fun x8 G7 =>
  bP (pNil v0) fun x9 =>
  bP (fa Q q 241 1 1 x9) fun x10 =>
  bP (fa Q q 30 0 0 x10) fun x11 =>
  bP (fa Q q 28 2 2 x11) fun x12 =>
  bP (ld Q q 3 x12 G7) fun x13 =>
  chk ((sameO (ld Q q 3 x12 (G2.room 15)) x13 && true)) <|
  bP (cv Q q 3 38 .i64 .u64 x13) fun x14 =>
  bP (bn Q q .geq 38 (.tmp 13) (.tmp 20) x8 x14) fun x15 =>
  ifV x15 (
  bP (pNil v0) fun x16 =>
  bP (fa Q q 241 6 11 x16) fun x17 =>
  bP (st Q q 23 1 x17 (.int .i64 12) G7) fun G18 =>
  bP (pNil v0) fun x19 =>
  bP (fa Q q 241 3 8 x19) fun x20 =>
  bP (st Q q 239 1 x20 .nilFunc G18) fun G21 =>
  some (.tuple #[], G21)) (
  bP (pNil v0) fun x22 =>
  bP (fa Q q 241 3 8 x22) fun x23 =>
  bP (st Q q 239 1 x23 .nilFunc G7) fun G24 =>
  some (.tuple #[], G24))
theorem m178 {e : Ex} {E : Ev} (h : ExLe Q e E) (v0 v1 : Value) (G : GS) : Ref (s178 true e v0 v1 G) (s178 false (Ex.of E) v0 v1 G) := by
  unfold s178
  exact Ref.go
theorem f178 {orc : FuncId → Bool} {e : Ex} (h : ExLe Q e (E orc)) (v0 v1 : Value) (G : GS) : Ref (s178 true e v0 v1 G) ((E orc).cl 178 [v0, v1] G) :=
  fun r hr => cl_sxE_some Q orc (vs := [v0, v1]) G Tryz.func178 (by kernel_rfl) (by kernel_rfl) (by kernel_rfl) (by kernel_rfl) (by kernel_rfl) (by kernel_rfl) (m178 h v0 v1 G r hr)
/-- (*coxswain/ready.Put).lay$1 -/
noncomputable def s179 (q : Bool) (e : Ex) (v0 : Value) (G : GS) : Option (Value × GS) :=
  bP (ld Q q 26 v0 (G.room 23)) fun x0 =>
  bP (pNil x0) fun x1 =>
  bP (fa Q q 42 0 0 x1) fun x2 =>
  bP (fa Q q 40 0 0 x2) fun x3 =>
  bP (lda Q q 36 13 x3 (G.room 23)) fun x4 =>
  bP (ld Q q 26 v0 (G.room 23)) fun x5 =>
  bP (pNil x5) fun x6 =>
  bP (fa Q q 42 5 23 x6) fun x7 =>
  bP (ld Q q 38 x7 (G.room 23)) fun x8 =>
  bP (ld Q q 26 v0 (G.room 23)) fun x9 =>
  bP (pNil x9) fun x10 =>
  bP (fa Q q 42 1 19 x10) fun x11 =>
  bP (ld Q q 38 x11 (G.room 23)) fun x12 =>
  bP (ld Q q 26 v0 (G.room 23)) fun x13 =>
  bP (pNil x13) fun x14 =>
  bP (fa Q q 42 2 20 x14) fun x15 =>
  bP (ld Q q 3 x15 (G.room 23)) fun x16 =>
  bP (ld Q q 26 v0 (G.room 23)) fun x17 =>
  bP (pNil x17) fun x18 =>
  bP (fa Q q 42 3 21 x18) fun x19 =>
  bP (ld Q q 3 x19 (G.room 23)) fun x20 =>
  bS (e.ev.cl 180 [x4, x8, x12, x16, x20] (G.room 23)) fun x22 G21 =>
  some (x22, G21)
theorem m179 {e : Ex} {E : Ev} (h : ExLe Q e E) (v0 : Value) (G : GS) : Ref (s179 true e v0 G) (s179 false (Ex.of E) v0 G) := by
  unfold s179
  exact Ref.go
theorem f179 {orc : FuncId → Bool} {e : Ex} (h : ExLe Q e (E orc)) (v0 : Value) (G : GS) : Ref (s179 true e v0 G) ((E orc).cl 179 [v0] G) :=
  fun r hr => cl_sxE_some Q orc (vs := [v0]) G Tryz.func179 (by kernel_rfl) (by kernel_rfl) (by kernel_rfl) (by kernel_rfl) (by kernel_rfl) (by kernel_rfl) (m179 h v0 G r hr)
/-- coxswain/tower.NewLay -/
noncomputable def s180 (q : Bool) (e : Ex) (v0 v1 v2 v3 v4 : Value) (G : GS) : Option (Value × GS) :=
  bS (bx q v0 G) fun x0 G1 =>
  bP (lda Q q 36 13 x0 G1) fun x2 =>
  bS (e.ev.cl 211 [x2, v1, v3, v4] G1) fun x3 G4 =>
  bP (bd Q q 335 z335 [(0, 0, 1), (1, 1, 1), (4, 7, 1)] [(.bool true), v1, x3]) fun x5 =>
  bS (bx q x5 G4) fun x6 G7 =>
  bP (pNil x6) fun x8 =>
  bP (fa Q q 335 4 7 x8) fun x9 =>
  bP (ld Q q 23 x9 G7) fun x10 =>
  bP (bn Q q .neq 23 (.tmp 25) (.const (.int .i64 0)) x10 (.int .i64 0)) fun x11 =>
  ifV x11 (
  bP (pNil x6) fun x12 =>
  bP (fa Q q 335 3 6 x12) fun x13 =>
  bP (st Q q 3 1 x13 (.int .i64 4) G7) fun G14 =>
  some (x6, G14)) (
  bP (lda Q q 36 13 x0 G7) fun x15 =>
  bS (e.ev.cl 193 [x15, v1] G7) fun x16 G17 =>
  bS (al Q q 3 z3 G17) fun x18 G19 =>
  bP (st Q q 3 1 x18 x16 G19) fun G20 =>
  bS (cValue e.ev (.func (.func 212) #[] #[x0, x18]) [(.int .i64 0), v2] G20) fun x21 G22 =>
  bP (cv Q q 3 38 .i64 .u64 v3) fun x23 =>
  bS (cValue e.ev (.func (.func 212) #[] #[x0, x18]) [(.int .i64 1), x23] G22) fun x24 G25 =>
  bP (cv Q q 3 38 .i64 .u64 v4) fun x26 =>
  bS (cValue e.ev (.func (.func 212) #[] #[x0, x18]) [(.int .i64 2), x26] G25) fun x27 G28 =>
  bS (cValue e.ev (.func (.func 212) #[] #[x0, x18]) [(.int .i64 3), (.int .u64 2)] G28) fun x29 G30 =>
  bP (bd Q q 333 z333 [(0, 0, 1), (1, 1, 1), (2, 2, 1), (3, 3, 1)] [x21, x24, x27, x29]) fun x31 =>
  bP (pNil x6) fun x32 =>
  bP (fa Q q 335 2 2 x32) fun x33 =>
  bP (st Q q 333 4 x33 x31 G30) fun G34 =>
  some (x6, G34))
theorem m180 {e : Ex} {E : Ev} (h : ExLe Q e E) (v0 v1 v2 v3 v4 : Value) (G : GS) : Ref (s180 true e v0 v1 v2 v3 v4 G) (s180 false (Ex.of E) v0 v1 v2 v3 v4 G) := by
  unfold s180
  exact Ref.go
theorem f180 {orc : FuncId → Bool} {e : Ex} (h : ExLe Q e (E orc)) (v0 v1 v2 v3 v4 : Value) (G : GS) : Ref (s180 true e v0 v1 v2 v3 v4 G) ((E orc).cl 180 [v0, v1, v2, v3, v4] G) :=
  fun r hr => cl_sxE_some Q orc (vs := [v0, v1, v2, v3, v4]) G Tryz.func180 (by kernel_rfl) (by kernel_rfl) (by kernel_rfl) (by kernel_rfl) (by kernel_rfl) (by kernel_rfl) (m180 h v0 v1 v2 v3 v4 G r hr)
/-- (*coxswain/tower.Lay).By -/
noncomputable def s181 (q : Bool) (e : Ex) (v0 : Value) (G : GS) : Option (Value × GS) :=
  bP (ep Q q false 291 (.tmp 3) (.const (.pointer none)) v0 (.pointer none)) fun x0 =>
  bS (gd x0 false (some (v0, G)) G) fun x1 G2 =>
  bS (gd x0 false (bP (pNil x1) fun y => some (y, G2)) G2) fun x3 G4 =>
  bS (gd x0 false (bP (fa Q q 335 4 7 x3) fun y => some (y, G4)) G4) fun x5 G6 =>
  bS (gd x0 false (bP (ld Q q 23 x5 G6) fun y => some (y, G6)) G6) fun x7 G8 =>
  bS (gd x0 false (bP (bn Q q .neq 23 (.tmp 9) (.const (.int .i64 0)) x7 (.int .i64 0)) fun y => some (y, G8)) G8) fun x9 G10 =>
  bP (pickV x0 (.bool true) x9) fun x11 =>
  bS (gd x11 false (some (v0, G10)) G10) fun x12 G13 =>
  bS (gd x11 false (bP (pNil x12) fun y => some (y, G13)) G13) fun x14 G15 =>
  bS (gd x11 false (bP (fa Q q 335 3 6 x14) fun y => some (y, G15)) G15) fun x16 G17 =>
  bS (gd x11 false (bP (ld Q q 3 x16 G17) fun y => some (y, G17)) G17) fun x18 G19 =>
  bS (gd x11 false (bP (bn Q q .eql 3 (.tmp 16) (.const (.int .i64 0)) x18 (.int .i64 0)) fun y => some (y, G19)) G19) fun x20 G21 =>
  bP (pickV x11 (.bool true) x20) fun x22 =>
  ifV x22 (
  some ((.int .u64 0), G21)) (
  bP (pNil v0) fun x23 =>
  bP (fa Q q 335 1 1 x23) fun x24 =>
  bP (ld Q q 38 x24 G21) fun x25 =>
  some (x25, G21))
theorem m181 {e : Ex} {E : Ev} (h : ExLe Q e E) (v0 : Value) (G : GS) : Ref (s181 true e v0 G) (s181 false (Ex.of E) v0 G) := by
  unfold s181
  exact Ref.go
theorem f181 {orc : FuncId → Bool} {e : Ex} (h : ExLe Q e (E orc)) (v0 : Value) (G : GS) : Ref (s181 true e v0 G) ((E orc).cl 181 [v0] G) :=
  fun r hr => cl_sxE_some Q orc (vs := [v0]) G Tryz.func181 (by kernel_rfl) (by kernel_rfl) (by kernel_rfl) (by kernel_rfl) (by kernel_rfl) (by kernel_rfl) (m181 h v0 G r hr)
/-- (*coxswain/ready.Put).link$1 -/
noncomputable def s182 (q : Bool) (e : Ex) (v0 : Value) (G : GS) : Option (Value × GS) :=
  bP (ld Q q 26 v0 (G.room 19)) fun x0 =>
  bP (pNil x0) fun x1 =>
  bP (fa Q q 42 0 0 x1) fun x2 =>
  bP (fa Q q 40 0 0 x2) fun x3 =>
  bP (lda Q q 36 13 x3 (G.room 19)) fun x4 =>
  bP (ld Q q 26 v0 (G.room 19)) fun x5 =>
  bP (pNil x5) fun x6 =>
  bP (fa Q q 42 5 23 x6) fun x7 =>
  bP (ld Q q 38 x7 (G.room 19)) fun x8 =>
  bP (ld Q q 26 v0 (G.room 19)) fun x9 =>
  bP (pNil x9) fun x10 =>
  bP (fa Q q 42 1 19 x10) fun x11 =>
  bP (ld Q q 38 x11 (G.room 19)) fun x12 =>
  bP (ld Q q 26 v0 (G.room 19)) fun x13 =>
  bP (pNil x13) fun x14 =>
  bP (fa Q q 42 3 21 x14) fun x15 =>
  bP (ld Q q 3 x15 (G.room 19)) fun x16 =>
  bS (e.ev.cl 183 [x4, x8, x12, x16] (G.room 19)) fun x18 G17 =>
  some (x18, G17)
theorem m182 {e : Ex} {E : Ev} (h : ExLe Q e E) (v0 : Value) (G : GS) : Ref (s182 true e v0 G) (s182 false (Ex.of E) v0 G) := by
  unfold s182
  exact Ref.go
theorem f182 {orc : FuncId → Bool} {e : Ex} (h : ExLe Q e (E orc)) (v0 : Value) (G : GS) : Ref (s182 true e v0 G) ((E orc).cl 182 [v0] G) :=
  fun r hr => cl_sxE_some Q orc (vs := [v0]) G Tryz.func182 (by kernel_rfl) (by kernel_rfl) (by kernel_rfl) (by kernel_rfl) (by kernel_rfl) (by kernel_rfl) (m182 h v0 G r hr)
/-- coxswain/insert.NewInsert -/
noncomputable def s183 (q : Bool) (e : Ex) (v0 v1 v2 v3 : Value) (G : GS) : Option (Value × GS) :=
  bS (bx q v0 G) fun x0 G1 =>
  bP (lda Q q 36 13 x0 (G1.room 11)) fun x2 =>
  bP (lda Q q 36 13 x0 (G1.room 11)) fun x3 =>
  bS (e.ev.cl 214 [x3, v1, v3] (G1.room 11)) fun x5 G4 =>
  chk ((sameO (lda Q q 36 13 x0 G4) x2 && true)) <|
  bP (bd Q q 340 z340 [(0, 0, 13), (1, 13, 1), (3, 15, 1), (4, 16, 1), (6, 18, 1), (13, 25, 1)] [x2, (.bool true), v1, v2, v3, x5]) fun x6 =>
  bS (bx q x6 (G4.at' (G1.nx + 9))) fun x7 G8 =>
  bP (pNil x7) fun x9 =>
  bP (fa Q q 340 13 25 x9) fun x10 =>
  bP (ld Q q 23 x10 (G8.back G4)) fun x11 =>
  bP (bn Q q .eql 23 (.tmp 25) (.const (.int .i64 0)) x11 (.int .i64 0)) fun x12 =>
  ifV x12 (
  bS (e.ev.cl 154 [v1] (G8.back G4)) fun x13 G14 =>
  bP (pExtract x13 0) fun x15 =>
  bP (pExtract x13 1) fun x16 =>
  bS (al Q q 258 z258 G14) fun x17 G18 =>
  bP (st Q q 258 3 x17 x15 G18) fun G19 =>
  bP (fa Q q 258 0 0 x17) fun x20 =>
  bP (ld Q q 3 x20 G19) fun x21 =>
  bP (pNil x7) fun x22 =>
  bP (fa Q q 340 5 17 x22) fun x23 =>
  bP (st Q q 3 1 x23 x21 G19) fun G24 =>
  bS (e.ev.cl 215 [x7, (.int .i64 1)] G24) fun x25 G26 =>
  bP (pNil x7) fun x27 =>
  bP (fa Q q 340 7 19 x27) fun x28 =>
  bP (st Q q 338 1 x28 x25 G26) fun G29 =>
  some (x7, G29)) (
  some (x7, (G8.back G4)))
theorem m183 {e : Ex} {E : Ev} (h : ExLe Q e E) (v0 v1 v2 v3 : Value) (G : GS) : Ref (s183 true e v0 v1 v2 v3 G) (s183 false (Ex.of E) v0 v1 v2 v3 G) := by
  unfold s183
  exact Ref.go
theorem f183 {orc : FuncId → Bool} {e : Ex} (h : ExLe Q e (E orc)) (v0 v1 v2 v3 : Value) (G : GS) : Ref (s183 true e v0 v1 v2 v3 G) ((E orc).cl 183 [v0, v1, v2, v3] G) :=
  fun r hr => cl_sxE_some Q orc (vs := [v0, v1, v2, v3]) G Tryz.func183 (by kernel_rfl) (by kernel_rfl) (by kernel_rfl) (by kernel_rfl) (by kernel_rfl) (by kernel_rfl) (m183 h v0 v1 v2 v3 G r hr)
/-- (*coxswain/insert.Insert).By -/
noncomputable def s184 (q : Bool) (e : Ex) (v0 : Value) (G : GS) : Option (Value × GS) :=
  bP (ep Q q false 299 (.tmp 3) (.const (.pointer none)) v0 (.pointer none)) fun x0 =>
  ifV x0 (
  some ((.int .u64 0), G)) (
  bP (pNil v0) fun x1 =>
  bP (fa Q q 340 12 24 x1) fun x2 =>
  bP (ld Q q 38 x2 G) fun x3 =>
  some (x3, G))
theorem m184 {e : Ex} {E : Ev} (h : ExLe Q e E) (v0 : Value) (G : GS) : Ref (s184 true e v0 G) (s184 false (Ex.of E) v0 G) := by
  unfold s184
  exact Ref.go
theorem f184 {orc : FuncId → Bool} {e : Ex} (h : ExLe Q e (E orc)) (v0 : Value) (G : GS) : Ref (s184 true e v0 G) ((E orc).cl 184 [v0] G) :=
  fun r hr => cl_sxE_some Q orc (vs := [v0]) G Tryz.func184 (by kernel_rfl) (by kernel_rfl) (by kernel_rfl) (by kernel_rfl) (by kernel_rfl) (by kernel_rfl) (m184 h v0 G r hr)
/-- (*coxswain/ready.work).collect$1 -/
noncomputable def s185 (q : Bool) (e : Ex) (v0 : Value) (G : GS) : Option (Value × GS) :=
  bP (ld Q q 105 v0 (G.room 15)) fun x0 =>
  bP (pNil x0) fun x1 =>
  bP (fa Q q 40 0 0 x1) fun x2 =>
  bP (fa Q q 36 3 3 x2) fun x3 =>
  bP (lda Q q 34 10 x3 (G.room 15)) fun x4 =>
  bP (ld Q q 105 v0 (G.room 15)) fun x5 =>
  bP (pNil x5) fun x6 =>
  bP (fa Q q 40 1 13 x6) fun x7 =>
  bP (ld Q q 3 x7 (G.room 15)) fun x8 =>
  bP (ld Q q 105 v0 (G.room 15)) fun x9 =>
  bP (pNil x9) fun x10 =>
  bP (fa Q q 40 3 15 x10) fun x11 =>
  bP (ld Q q 3 x11 (G.room 15)) fun x12 =>
  bS (e.ev.cl 186 [x4, x8, x12] (G.room 15)) fun x14 G13 =>
  some (x14, G13)
theorem m185 {e : Ex} {E : Ev} (h : ExLe Q e E) (v0 : Value) (G : GS) : Ref (s185 true e v0 G) (s185 false (Ex.of E) v0 G) := by
  unfold s185
  exact Ref.go
theorem f185 {orc : FuncId → Bool} {e : Ex} (h : ExLe Q e (E orc)) (v0 : Value) (G : GS) : Ref (s185 true e v0 G) ((E orc).cl 185 [v0] G) :=
  fun r hr => cl_sxE_some Q orc (vs := [v0]) G Tryz.func185 (by kernel_rfl) (by kernel_rfl) (by kernel_rfl) (by kernel_rfl) (by kernel_rfl) (by kernel_rfl) (m185 h v0 G r hr)
/-- coxswain/limbo.NewCollect -/
noncomputable def s186 (q : Bool) (e : Ex) (v0 v1 v2 : Value) (G : GS) : Option (Value × GS) :=
  bS (bx q v0 G) fun x0 G1 =>
  bP (bd Q q 345 z345 [(1, 1, 1)] [(.bool true)]) fun x2 =>
  bP (lda Q q 34 10 x0 G1) fun x3 =>
  bP (bd Q q 352 z352 [(0, 0, 3), (1, 3, 10)] [x2, x3]) fun x4 =>
  bS (bx q x4 G1) fun x5 G6 =>
  bP (bn Q q .lss 3 (.tmp 12) (.const (.int .i64 0)) v1 (.int .i64 0)) fun x7 =>
  bS (gd x7 false (some (v1, G6)) G6) fun x8 G9 =>
  bS (gd x7 false (bP (fa Q q 34 1 6 x0) fun y => some (y, G9)) G9) fun x10 G11 =>
  bS (gd x7 false (bP (fa Q q 32 2 2 x10) fun y => some (y, G11)) G11) fun x12 G13 =>
  bS (gd x7 false (bP (ld Q q 3 x12 G13) fun y => some (y, G13)) G13) fun x14 G15 =>
  bS (gd x7 false (bP (bn Q q .geq 3 (.tmp 15) (.tmp 18) x8 x14) fun y => some (y, G15)) G15) fun x16 G17 =>
  bP (pickV x7 (.bool true) x16) fun x18 =>
  bS (gd x18 false (some (v2, G17)) G17) fun x19 G20 =>
  bS (gd x18 false (bP (bn Q q .lss 3 (.tmp 22) (.const (.int .i64 0)) x19 (.int .i64 0)) fun y => some (y, G20)) G20) fun x21 G22 =>
  bP (pickV x18 (.bool true) x21) fun x23 =>
  ifV x23 (
  bP (pNil x5) fun x24 =>
  bP (fa Q q 352 0 0 x24) fun x25 =>
  bP (fa Q q 345 2 2 x25) fun x26 =>
  bP (st Q q 23 1 x26 (.int .i64 3) G22) fun G27 =>
  some (x5, G27)) (
  bP (fa Q q 34 1 6 x0) fun x28 =>
  bP (lda Q q 32 3 x28 (G22.room 20)) fun x29 =>
  bS (e.ev.cl 216 [x29, v1, v2] (G22.room 20)) fun x31 G30 =>
  bP (bn Q q .rem 3 (.tmp 37) (.const (.int .i64 3)) v2 (.int .i64 3)) fun x32 =>
  bP (bn Q q .add 3 (.tmp 38) (.const (.int .i64 2)) x32 (.int .i64 2)) fun x33 =>
  bP (bn Q q .rem 3 (.tmp 39) (.const (.int .i64 3)) x33 (.int .i64 3)) fun x34 =>
  bP (lda Q q 34 10 x0 G30) fun x35 =>
  chk ((sameO (lda Q q 34 10 x0 (G22.room 20)) x35 && true)) <|
  bS (e.ev.cl 149 [x34, x35] G30) fun x37 G36 =>
  bS (e.ev.cl 217 [x37] G36) fun x39 G38 =>
  bP (pNil x5) fun x40 =>
  bP (fa Q q 352 2 13 x40) fun x41 =>
  bP (st Q q 346 1 x41 x31 G38) fun G42 =>
  bP (pNil x5) fun x43 =>
  bP (fa Q q 352 3 14 x43) fun x44 =>
  bP (st Q q 347 1 x44 x39 G42) fun G45 =>
  bP (pNil x5) fun x46 =>
  bP (fa Q q 352 0 0 x46) fun x47 =>
  bP (fa Q q 345 0 0 x47) fun x48 =>
  bP (st Q q 343 1 x48 (.func (.func 218) #[x5] #[]) G45) fun G49 =>
  some (x5, G49))
theorem m186 {e : Ex} {E : Ev} (h : ExLe Q e E) (v0 v1 v2 : Value) (G : GS) : Ref (s186 true e v0 v1 v2 G) (s186 false (Ex.of E) v0 v1 v2 G) := by
  unfold s186
  exact Ref.go
theorem f186 {orc : FuncId → Bool} {e : Ex} (h : ExLe Q e (E orc)) (v0 v1 v2 : Value) (G : GS) : Ref (s186 true e v0 v1 v2 G) ((E orc).cl 186 [v0, v1, v2] G) :=
  fun r hr => cl_sxE_some Q orc (vs := [v0, v1, v2]) G Tryz.func186 (by kernel_rfl) (by kernel_rfl) (by kernel_rfl) (by kernel_rfl) (by kernel_rfl) (by kernel_rfl) (m186 h v0 v1 v2 G r hr)
/-- coxswain/arena.sized -/
noncomputable def s187 (q : Bool) (e : Ex) (v0 : Value) (G : GS) : Option (Value × GS) :=
  bS (bx q v0 G) fun x0 G1 =>
  bP (fa Q q 30 0 0 x0) fun x2 =>
  bP (fa Q q 28 2 2 x2) fun x3 =>
  bP (ld Q q 3 x3 G1) fun x4 =>
  bP (bn Q q .geq 3 (.tmp 5) (.const (.int .i64 1)) x4 (.int .i64 1)) fun x5 =>
  bS (gd x5 true (bP (fa Q q 30 0 0 x0) fun y => some (y, G1)) G1) fun x6 G7 =>
  bS (gd x5 true (bP (fa Q q 28 2 2 x6) fun y => some (y, G7)) G7) fun x8 G9 =>
  bS (gd x5 true (bP (ld Q q 3 x8 G9) fun y => some (y, G9)) G9) fun x10 G11 =>
  bS (gd x5 true (bP (bn Q q .leq 3 (.tmp 10) (.const (.int .i64 4096)) x10 (.int .i64 4096)) fun y => some (y, G11)) G11) fun x12 G13 =>
  bP (pickV x5 x12 (.bool false)) fun x14 =>
  some (x14, G13)
theorem m187 {e : Ex} {E : Ev} (h : ExLe Q e E) (v0 : Value) (G : GS) : Ref (s187 true e v0 G) (s187 false (Ex.of E) v0 G) := by
  unfold s187
  exact Ref.go
theorem f187 {orc : FuncId → Bool} {e : Ex} (h : ExLe Q e (E orc)) (v0 : Value) (G : GS) : Ref (s187 true e v0 G) ((E orc).cl 187 [v0] G) :=
  fun r hr => cl_sxE_some Q orc (vs := [v0]) G Tryz.func187 (by kernel_rfl) (by kernel_rfl) (by kernel_rfl) (by kernel_rfl) (by kernel_rfl) (by kernel_rfl) (m187 h v0 G r hr)
noncomputable def b188_0 (q : Bool) (e : Ex) (lp : Env → GS → Option (Exit × Env × GS)) (τ : Env) (G : GS) : Option (Exit × Env × GS) :=
  bV q (τ 1) fun a1_ =>
  bV q (τ 2) fun a2_ =>
  bV q (τ 15) fun a15_ =>
  bV q (τ 16) fun a16_ =>
  bP (bn Q q .lss 3 (.tmp 16) (.tmp 15) a16_ a15_) fun x0 =>
  ifV x0 (
  bP (bn Q q .add 3 (.tmp 19) (.const (.int .i64 1)) a16_ (.int .i64 1)) fun x1 =>
  bP (fa Q q 28 2 2 a2_) fun x2 =>
  bP (ld Q q 3 x2 G) fun x3 =>
  bP (bn Q q .eql 3 (.tmp 21) (.tmp 23) x1 x3) fun x4 =>
  ifV x4 (
  bP (fa Q q 28 1 1 a2_) fun x5 =>
  bP (ld Q q 3 x5 (G.room 8)) fun x6 =>
  bP (bn Q q .add 3 (.tmp 27) (.tmp 28) x6 a16_) fun x7 =>
  bS (e.ev.cl 220 [(.int .i64 (-1))] (G.room 8)) fun x9 G8 =>
  chk ((sameO (ld Q q 3 x5 G8) x6 && true)) <|
  bS (e.ev.cl 29 [a1_, x7, x9] G8) fun x11 G10 =>
  bP (bn Q q .add 3 (.tmp 16) (.const (.int .i64 1)) a16_ (.int .i64 1)) fun x12 =>
  lp (tu τ [(1, a1_), (2, a2_), (15, a15_), (16, x12), (4, a16_), (5, (.int .i64 (-1))), (17, x0), (18, a16_), (19, a16_), (20, x1), (21, x1), (22, x2), (23, x3), (24, x4), (25, a1_), (26, x5), (27, x6), (28, a16_), (29, x7), (30, (.int .i64 (-1))), (31, x9), (32, x11), (33, x12)]) G10) (
  bP (fa Q q 28 1 1 a2_) fun x13 =>
  bP (ld Q q 3 x13 (G.room 8)) fun x14 =>
  bP (bn Q q .add 3 (.tmp 27) (.tmp 28) x14 a16_) fun x15 =>
  bS (e.ev.cl 220 [x1] (G.room 8)) fun x17 G16 =>
  chk ((sameO (ld Q q 3 x13 G16) x14 && true)) <|
  bS (e.ev.cl 29 [a1_, x15, x17] G16) fun x19 G18 =>
  bP (bn Q q .add 3 (.tmp 16) (.const (.int .i64 1)) a16_ (.int .i64 1)) fun x20 =>
  lp (tu τ [(1, a1_), (2, a2_), (15, a15_), (16, x20), (4, a16_), (5, x1), (17, x0), (18, a16_), (19, a16_), (20, x1), (21, x1), (22, x2), (23, x3), (24, x4), (25, a1_), (26, x13), (27, x14), (28, a16_), (29, x15), (30, x1), (31, x17), (32, x19), (33, x20)]) G18)) (
  some ((.exit 0), clq q 34 (tu τ [(1, a1_), (2, a2_), (15, a15_), (16, a16_), (17, x0)]), G))
theorem mb188_0 {e : Ex} {E : Ev} (h : ExLe Q e E) {lp lp' : Env → GS → Option (Exit × Env × GS)} (hlp : LpLe lp lp') (τ : Env) (G : GS) : Ref (b188_0 true e lp τ G) (b188_0 false (Ex.of E) lp' τ G) := by
  unfold b188_0
  exact Ref.go
theorem l188_0 {orc : FuncId → Bool} {e : Ex} (h : ExLe Q e (E orc)) (lp : Env → GS → Option (Exit × Env × GS)) (hlp : ∀ τ G, Ref (lp τ G) (mapE ((E orc).lp (subAt [1, 1, 1, 1, 0, 0] (bodyOf Tryz.f188)) (lst 34 τ) G))) (T : List Value) (G : GS) (hT : T.length = 34) : Ref (b188_0 true e lp (nth undef T) G) (mapE ((E orc).lp (subAt [1, 1, 1, 1, 0, 0] (bodyOf Tryz.f188)) T G)) :=
  fun r hr => lp_sxM Q orc G hT (by kernel_rfl) (mb188_0 h ⟨hlp⟩ _ _ r hr)
/-- coxswain/stack.Fill -/
noncomputable def s188 (q : Bool) (e : Ex) (v0 v1 : Value) (G : GS) : Option (Value × GS) :=
  bS (bx q v0 G) fun x0 G1 =>
  bP (lda Q q 28 3 x0 G1) fun x2 =>
  bS (e.ev.cl 219 [x2] G1) fun x3 G4 =>
  bP (un Q q .not x3) fun x5 =>
  ifV x5 (
  some (.tuple #[], G4)) (
  bP (fa Q q 28 0 0 x0) fun x6 =>
  bP (ld Q q 3 x6 (G4.room 5)) fun x7 =>
  bS (e.ev.cl 220 [(.int .i64 0)] (G4.room 5)) fun x9 G8 =>
  chk ((sameO (ld Q q 3 x6 G8) x7 && true)) <|
  bS (e.ev.cl 29 [v1, x7, x9] G8) fun x11 G10 =>
  bP (fa Q q 28 2 2 x0) fun x12 =>
  bP (ld Q q 3 x12 G10) fun x13 =>
  bL q e 188 0 (subAt [1, 1, 1, 1, 0, 0] (bodyOf Tryz.f188)) 34 (tu (nth undef [v0, v1]) [(2, x0), (6, x2), (7, x3), (8, x5), (9, v1), (10, x6), (11, x7), (12, x9), (13, x11), (14, x12), (15, x13), (16, (.int .i64 0))]) G10 fun e14 t15 G16 =>
  ifE e14 (.exit 0) (
  some (.tuple #[], G16)) (none))
theorem m188 {e : Ex} {E : Ev} (h : ExLe Q e E) (v0 v1 : Value) (G : GS) : Ref (s188 true e v0 v1 G) (s188 false (Ex.of E) v0 v1 G) := by
  unfold s188
  exact Ref.go
theorem f188 {orc : FuncId → Bool} {e : Ex} (h : ExLe Q e (E orc)) (v0 v1 : Value) (G : GS) : Ref (s188 true e v0 v1 G) ((E orc).cl 188 [v0, v1] G) :=
  fun r hr => cl_sxE_some Q orc (vs := [v0, v1]) G Tryz.func188 (by kernel_rfl) (by kernel_rfl) (by kernel_rfl) (by kernel_rfl) (by kernel_rfl) (by kernel_rfl) (m188 h v0 v1 G r hr)
/-- coxswain/stack.read -/
noncomputable def s191 (q : Bool) (e : Ex) (v0 v1 : Value) (G : GS) : Option (Value × GS) :=
  bS (bx q v0 G) fun x0 G1 =>
  bS (e.ev.cl 221 [v1] G1) fun x2 G3 =>
  bP (pExtract x2 0) fun x4 =>
  bP (pExtract x2 1) fun x5 =>
  bS (al Q q 357 z357 G3) fun x6 G7 =>
  bP (st Q q 357 2 x6 x4 G7) fun G8 =>
  bP (fa Q q 357 0 0 x6) fun x9 =>
  bP (ld Q q 3 x9 G8) fun x10 =>
  bP (fa Q q 28 2 2 x0) fun x11 =>
  bP (ld Q q 3 x11 G8) fun x12 =>
  bP (bn Q q .geq 3 (.tmp 13) (.tmp 15) x10 x12) fun x13 =>
  ifV x13 (
  some ((.int .i64 (-1)), G8)) (
  bP (fa Q q 357 0 0 x6) fun x14 =>
  bP (ld Q q 3 x14 G8) fun x15 =>
  some (x15, G8))
theorem m191 {e : Ex} {E : Ev} (h : ExLe Q e E) (v0 v1 : Value) (G : GS) : Ref (s191 true e v0 v1 G) (s191 false (Ex.of E) v0 v1 G) := by
  unfold s191
  exact Ref.go
theorem f191 {orc : FuncId → Bool} {e : Ex} (h : ExLe Q e (E orc)) (v0 v1 : Value) (G : GS) : Ref (s191 true e v0 v1 G) ((E orc).cl 191 [v0, v1] G) :=
  fun r hr => cl_sxE_some Q orc (vs := [v0, v1]) G Tryz.func191 (by kernel_rfl) (by kernel_rfl) (by kernel_rfl) (by kernel_rfl) (by kernel_rfl) (by kernel_rfl) (m191 h v0 v1 G r hr)
/-- coxswain/tower.index -/
noncomputable def s193 (q : Bool) (e : Ex) (v0 v1 : Value) (G : GS) : Option (Value × GS) :=
  bS (bx q v0 G) fun x0 G1 =>
  bS (e.ev.cl 221 [v1] G1) fun x2 G3 =>
  bP (pExtract x2 0) fun x4 =>
  bP (pExtract x2 1) fun x5 =>
  bS (al Q q 357 z357 G3) fun x6 G7 =>
  bP (st Q q 357 2 x6 x4 G7) fun G8 =>
  bP (fa Q q 357 0 0 x6) fun x9 =>
  bP (ld Q q 3 x9 G8) fun x10 =>
  bP (fa Q q 36 3 3 x0) fun x11 =>
  bP (fa Q q 34 0 0 x11) fun x12 =>
  bP (fa Q q 30 0 0 x12) fun x13 =>
  bP (fa Q q 28 2 2 x13) fun x14 =>
  bP (ld Q q 3 x14 G8) fun x15 =>
  bP (bn Q q .geq 3 (.tmp 13) (.tmp 18) x10 x15) fun x16 =>
  ifV x16 (
  some ((.int .i64 (-1)), G8)) (
  bP (fa Q q 357 0 0 x6) fun x17 =>
  bP (ld Q q 3 x17 G8) fun x18 =>
  some (x18, G8))
theorem m193 {e : Ex} {E : Ev} (h : ExLe Q e E) (v0 v1 : Value) (G : GS) : Ref (s193 true e v0 v1 G) (s193 false (Ex.of E) v0 v1 G) := by
  unfold s193
  exact Ref.go
theorem f193 {orc : FuncId → Bool} {e : Ex} (h : ExLe Q e (E orc)) (v0 v1 : Value) (G : GS) : Ref (s193 true e v0 v1 G) ((E orc).cl 193 [v0, v1] G) :=
  fun r hr => cl_sxE_some Q orc (vs := [v0, v1]) G Tryz.func193 (by kernel_rfl) (by kernel_rfl) (by kernel_rfl) (by kernel_rfl) (by kernel_rfl) (by kernel_rfl) (m193 h v0 v1 G r hr)
/-- coxswain/word.refs -/
noncomputable def s195 (q : Bool) (e : Ex) (G : GS) : Option (Value × GS) :=
  bS (al Q q 320 z320 G) fun x0 G1 =>
  bP (bd Q q 319 z319 [(0, 0, 1), (1, 1, 1)] [(.int .i64 0), (.int .i64 16)]) fun x2 =>
  bP (bd Q q 319 z319 [(0, 0, 1), (1, 1, 1)] [(.int .i64 16), (.int .i64 32)]) fun x3 =>
  bP (bd Q q 320 z320 [(0, 0, 2), (1, 2, 2)] [x2, x3]) fun x4 =>
  bP (st Q q 320 4 x0 x4 G1) fun G5 =>
  bP (lda Q q 320 4 x0 G5) fun x6 =>
  some (x6, G5)
theorem m195 {e : Ex} {E : Ev} (h : ExLe Q e E) (G : GS) : Ref (s195 true e  G) (s195 false (Ex.of E)  G) := by
  unfold s195
  exact Ref.go
theorem f195 {orc : FuncId → Bool} {e : Ex} (h : ExLe Q e (E orc)) (ho : orc 195 = false) (G : GS) : Ref (s195 true e  G) ((E orc).cl 195 [] G) :=
  fun r hr => cl_sxE_some Q orc (vs := []) G Tryz.func195 (by kernel_rfl) (by kernel_rfl) ho (by kernel_rfl) (by kernel_rfl) (by kernel_rfl) (m195 h  G r hr)
/-- (coxswain/word.raw).take -/
noncomputable def s196 (q : Bool) (e : Ex) (v0 v1 : Value) (G : GS) : Option (Value × GS) :=
  bS (bx q v1 G) fun x0 G1 =>
  bP (fa Q q 319 0 0 x0) fun x2 =>
  bP (ld Q q 3 x2 (G1.room 11)) fun x3 =>
  bP (bn Q q .shr 38 (.tmp 5) (.tmp 7) v0 x3) fun x4 =>
  bP (fa Q q 319 1 1 x0) fun x5 =>
  bP (ld Q q 3 x5 (G1.room 11)) fun x6 =>
  bP (bn Q q .shl 38 (.const (.int .u64 1)) (.tmp 10) (.int .u64 1) x6) fun x7 =>
  bP (bn Q q .sub 38 (.tmp 11) (.const (.int .u64 1)) x7 (.int .u64 1)) fun x8 =>
  bP (bn Q q .and 38 (.tmp 8) (.tmp 12) x4 x8) fun x9 =>
  bP (cv Q q 38 3 .u64 .i64 x9) fun x10 =>
  some (x10, (G1.room 11))
theorem m196 {e : Ex} {E : Ev} (h : ExLe Q e E) (v0 v1 : Value) (G : GS) : Ref (s196 true e v0 v1 G) (s196 false (Ex.of E) v0 v1 G) := by
  unfold s196
  exact Ref.go
theorem f196 {orc : FuncId → Bool} {e : Ex} (h : ExLe Q e (E orc)) (v0 v1 : Value) (G : GS) : Ref (s196 true e v0 v1 G) ((E orc).cl 196 [v0, v1] G) :=
  fun r hr => cl_sxE_some Q orc (vs := [v0, v1]) G Tryz.func196 (by kernel_rfl) (by kernel_rfl) (by kernel_rfl) (by kernel_rfl) (by kernel_rfl) (by kernel_rfl) (m196 h v0 v1 G r hr)
/-- coxswain/word.Marked -/
noncomputable def s197 (q : Bool) (e : Ex) (v0 : Value) (G : GS) : Option (Value × GS) :=
  bP (bn Q q .shr 38 (.tmp 3) (.const (.int .u64 63)) v0 (.int .u64 63)) fun x0 =>
  bP (bn Q q .eql 38 (.tmp 4) (.const (.int .u64 1)) x0 (.int .u64 1)) fun x1 =>
  some (x1, G)
theorem m197 {e : Ex} {E : Ev} (h : ExLe Q e E) (v0 : Value) (G : GS) : Ref (s197 true e v0 G) (s197 false (Ex.of E) v0 G) := by
  unfold s197
  exact Ref.go
theorem f197 {orc : FuncId → Bool} {e : Ex} (h : ExLe Q e (E orc)) (v0 : Value) (G : GS) : Ref (s197 true e v0 G) ((E orc).cl 197 [v0] G) :=
  fun r hr => cl_sxE_some Q orc (vs := [v0]) G Tryz.func197 (by kernel_rfl) (by kernel_rfl) (by kernel_rfl) (by kernel_rfl) (by kernel_rfl) (by kernel_rfl) (m197 h v0 G r hr)
/-- coxswain/word.PutRef -/
noncomputable def s198 (q : Bool) (e : Ex) (v0 : Value) (G : GS) : Option (Value × GS) :=
  bS (bx q v0 G) fun x0 G1 =>
  bP (fa Q q 258 0 0 x0) fun x2 =>
  bP (ld Q q 3 x2 G1) fun x3 =>
  bP (bd Q q 362 z362 [(0, 0, 1), (1, 1, 1), (2, 2, 1)] [x3, (.int .i64 (-1)), (.int .i64 65534)]) fun x4 =>
  bP (fa Q q 258 1 1 x0) fun x5 =>
  bP (ld Q q 3 x5 G1) fun x6 =>
  bP (bd Q q 362 z362 [(0, 0, 1), (1, 1, 1), (2, 2, 1)] [x6, (.int .i64 0), (.int .i64 4294967295)]) fun x7 =>
  bS (bs Q q 377 2 (rep z362 2) 3 [(0, 0, 3), (1, 3, 3)] [x4, x7] G1) fun x8 G9 =>
  bS (e.ev.cl 222 [x8] G9) fun x10 G11 =>
  bP (un Q q .not x10) fun x12 =>
  ifV x12 (
  some (.tuple #[(.int .u64 0), (.int .i64 3)], G11)) (
  bP (fa Q q 258 0 0 x0) fun x13 =>
  bP (ld Q q 3 x13 G11) fun x14 =>
  bP (bn Q q .eql 3 (.tmp 17) (.const (.int .i64 (-1))) x14 (.int .i64 (-1))) fun x15 =>
  bS (gd x15 true (bP (fa Q q 258 1 1 x0) fun y => some (y, G11)) G11) fun x16 G17 =>
  bS (gd x15 true (bP (ld Q q 3 x16 G17) fun y => some (y, G17)) G17) fun x18 G19 =>
  bS (gd x15 true (bP (bn Q q .neq 3 (.tmp 21) (.const (.int .i64 0)) x18 (.int .i64 0)) fun y => some (y, G19)) G19) fun x20 G21 =>
  bP (pickV x15 x20 (.bool false)) fun x22 =>
  ifV x22 (
  some (.tuple #[(.int .u64 0), (.int .i64 5)], G21)) (
  bS (e.ev.cl 195 [] G21) fun x23 G24 =>
  bS (al Q q 320 z320 G24) fun x25 G26 =>
  bP (st Q q 320 4 x25 x23 G26) fun G27 =>
  bP (sla Q q 320 2 2 x25 none none none (G27.room 13)) fun x28 =>
  bP (fa Q q 258 0 0 x0) fun x29 =>
  bP (ld Q q 3 x29 (G27.room 13)) fun x30 =>
  bP (bn Q q .add 3 (.tmp 27) (.const (.int .i64 1)) x30 (.int .i64 1)) fun x31 =>
  bP (fa Q q 258 1 1 x0) fun x32 =>
  bP (ld Q q 3 x32 (G27.room 13)) fun x33 =>
  bS (bs Q q 139 2 (rep z3 2) 1 [(0, 0, 1), (1, 1, 1)] [x31, x33] ((G27.room 13).at' (G27.nx + 6))) fun x34 G35 =>
  bS (e.ev.cl 224 [x28, x34] (G35.back (G27.room 13))) fun x37 G36 =>
  bP (fa Q q 258 2 2 x0) fun x38 =>
  bP (ld Q q 4 x38 G36) fun x39 =>
  chk ((sameO (ld Q q 4 x38 (G35.back (G27.room 13))) x39 && true)) <|
  bS (e.ev.cl 223 [x37, x39] G36) fun x41 G40 =>
  some (.tuple #[x41, (.int .i64 0)], G40)))
theorem m198 {e : Ex} {E : Ev} (h : ExLe Q e E) (v0 : Value) (G : GS) : Ref (s198 true e v0 G) (s198 false (Ex.of E) v0 G) := by
  unfold s198
  exact Ref.go
theorem f198 {orc : FuncId → Bool} {e : Ex} (h : ExLe Q e (E orc)) (v0 : Value) (G : GS) : Ref (s198 true e v0 G) ((E orc).cl 198 [v0] G) :=
  fun r hr => cl_sxE_some Q orc (vs := [v0]) G Tryz.func198 (by kernel_rfl) (by kernel_rfl) (by kernel_rfl) (by kernel_rfl) (by kernel_rfl) (by kernel_rfl) (m198 h v0 G r hr)
noncomputable def b199_0 (q : Bool) (e : Ex) (lp : Env → GS → Option (Exit × Env × GS)) (τ : Env) (G : GS) : Option (Exit × Env × GS) :=
  bV q (τ 0) fun a0_ =>
  bV q (τ 1) fun a1_ =>
  bV q (τ 5) fun a5_ =>
  bV q (τ 6) fun a6_ =>
  bP (bn Q q .lss 3 (.tmp 6) (.tmp 5) a6_ a5_) fun x0 =>
  ifV x0 (
  bP (fa Q q 32 1 1 a1_) fun x1 =>
  bP (ld Q q 3 x1 G) fun x2 =>
  bP (bn Q q .add 3 (.tmp 12) (.tmp 13) x2 a6_) fun x3 =>
  bS (cValue e.ev a0_ [a6_, x3] G) fun x4 G5 =>
  bP (un Q q .not x4) fun x6 =>
  ifV x6 (
  some (.ret, clq q 18 (tu τ [(0, a0_), (1, a1_), (5, a5_), (6, a6_), (3, a6_), (7, x0), (8, a6_), (9, a0_), (10, a6_), (11, x1), (12, x2), (13, a6_), (14, x3), (15, x4), (16, x6)]), G5)) (
  bP (bn Q q .add 3 (.tmp 6) (.const (.int .i64 1)) a6_ (.int .i64 1)) fun x7 =>
  lp (tu τ [(0, a0_), (1, a1_), (5, a5_), (6, x7), (3, a6_), (7, x0), (8, a6_), (9, a0_), (10, a6_), (11, x1), (12, x2), (13, a6_), (14, x3), (15, x4), (16, x6), (17, x7)]) G5)) (
  some ((.exit 0), clq q 18 (tu τ [(0, a0_), (1, a1_), (5, a5_), (6, a6_), (7, x0)]), G))
theorem mb199_0 {e : Ex} {E : Ev} (h : ExLe Q e E) {lp lp' : Env → GS → Option (Exit × Env × GS)} (hlp : LpLe lp lp') (τ : Env) (G : GS) : Ref (b199_0 true e lp τ G) (b199_0 false (Ex.of E) lp' τ G) := by
  unfold b199_0
  exact Ref.go
theorem l199_0 {orc : FuncId → Bool} {e : Ex} (h : ExLe Q e (E orc)) (lp : Env → GS → Option (Exit × Env × GS)) (hlp : ∀ τ G, Ref (lp τ G) (mapE ((E orc).lp (subAt [1, 0, 0] (bodyOf Tryz.f199)) (lst 18 τ) G))) (T : List Value) (G : GS) (hT : T.length = 18) : Ref (b199_0 true e lp (nth undef T) G) (mapE ((E orc).lp (subAt [1, 0, 0] (bodyOf Tryz.f199)) T G)) :=
  fun r hr => lp_sxM Q orc G hT (by kernel_rfl) (mb199_0 h ⟨hlp⟩ _ _ r hr)
/-- coxswain/epoch.pins$1 -/
noncomputable def s199 (q : Bool) (e : Ex) (v0 v1 : Value) (G : GS) : Option (Value × GS) :=
  bP (fa Q q 32 2 2 v1) fun x0 =>
  bP (ld Q q 3 x0 G) fun x1 =>
  bL q e 199 0 (subAt [1, 0, 0] (bodyOf Tryz.f199)) 18 (tu (nth undef [v0, v1]) [(4, x0), (5, x1), (6, (.int .i64 0))]) G fun e2 t3 G4 =>
  ifE e2 (.exit 0) (
  some (.tuple #[], G4)) (ifE e2 .ret (
  some (.tuple #[], G4)) (none))
theorem m199 {e : Ex} {E : Ev} (h : ExLe Q e E) (v0 v1 : Value) (G : GS) : Ref (s199 true e v0 v1 G) (s199 false (Ex.of E) v0 v1 G) := by
  unfold s199
  exact Ref.go
theorem f199 {orc : FuncId → Bool} {e : Ex} (h : ExLe Q e (E orc)) (v0 v1 : Value) (G : GS) : Ref (s199 true e v0 v1 G) ((E orc).cl 199 [v0, v1] G) :=
  fun r hr => cl_sxE_some Q orc (vs := [v0, v1]) G Tryz.func199 (by kernel_rfl) (by kernel_rfl) (by kernel_rfl) (by kernel_rfl) (by kernel_rfl) (by kernel_rfl) (m199 h v0 v1 G r hr)
/-- (*coxswain/stack.Pop).second -/
noncomputable def s205 (q : Bool) (e : Ex) (v0 v1 : Value) (G : GS) : Option (Value × GS) :=
  bP (pNil v0) fun x0 =>
  bP (fa Q q 289 0 0 x0) fun x1 =>
  bP (fa Q q 286 0 0 x1) fun x2 =>
  bP (lda Q q 28 3 x2 (G.room 25)) fun x3 =>
  bP (pNil v0) fun x4 =>
  bP (fa Q q 289 0 0 x4) fun x5 =>
  bP (fa Q q 286 0 0 x5) fun x6 =>
  bP (fa Q q 28 1 1 x6) fun x7 =>
  bP (ld Q q 3 x7 (G.room 25)) fun x8 =>
  bP (pNil v0) fun x9 =>
  bP (fa Q q 289 0 0 x9) fun x10 =>
  bP (fa Q q 286 2 4 x10) fun x11 =>
  bP (ld Q q 3 x11 (G.room 25)) fun x12 =>
  bP (bn Q q .add 3 (.tmp 16) (.tmp 21) x8 x12) fun x13 =>
  bS (e.ev.cl 120 [v1, x13] (G.room 25)) fun x15 G14 =>
  chk ((sameO (lda Q q 28 3 x2 G14) x3 && true)) <|
  bS (e.ev.cl 191 [x3, x15] G14) fun x17 G16 =>
  bP (pNil v0) fun x18 =>
  bP (fa Q q 289 0 0 x18) fun x19 =>
  bP (fa Q q 286 3 5 x19) fun x20 =>
  bP (st Q q 3 1 x20 x17 G16) fun G21 =>
  bP (pNil v0) fun x22 =>
  bP (fa Q q 289 1 9 x22) fun x23 =>
  bP (st Q q 287 1 x23 (.func (.func 226) #[] #[]) G21) fun G24 =>
  some (.tuple #[], G24)
theorem m205 {e : Ex} {E : Ev} (h : ExLe Q e E) (v0 v1 : Value) (G : GS) : Ref (s205 true e v0 v1 G) (s205 false (Ex.of E) v0 v1 G) := by
  unfold s205
  exact Ref.go
theorem f205 {orc : FuncId → Bool} {e : Ex} (h : ExLe Q e (E orc)) (v0 v1 : Value) (G : GS) : Ref (s205 true e v0 v1 G) ((E orc).cl 205 [v0, v1] G) :=
  fun r hr => cl_sxE_some Q orc (vs := [v0, v1]) G Tryz.func205 (by kernel_rfl) (by kernel_rfl) (by kernel_rfl) (by kernel_rfl) (by kernel_rfl) (by kernel_rfl) (m205 h v0 v1 G r hr)
/-- (*coxswain/stack.held).load -/
noncomputable def s206 (q : Bool) (e : Ex) (v0 v1 : Value) (G : GS) : Option (Value × GS) :=
  bP (pNil v0) fun x0 =>
  bP (fa Q q 286 0 0 x0) fun x1 =>
  bP (fa Q q 28 0 0 x1) fun x2 =>
  bP (ld Q q 3 x2 G) fun x3 =>
  bS (e.ev.cl 120 [v1, x3] G) fun x4 G5 =>
  bP (pNil v0) fun x6 =>
  bP (fa Q q 286 1 3 x6) fun x7 =>
  bP (st Q q 38 1 x7 x4 G5) fun G8 =>
  bP (pNil v0) fun x9 =>
  bP (fa Q q 286 0 0 x9) fun x10 =>
  bP (lda Q q 28 3 x10 (G8.room 10)) fun x11 =>
  bP (pNil v0) fun x12 =>
  bP (fa Q q 286 1 3 x12) fun x13 =>
  bP (ld Q q 38 x13 (G8.room 10)) fun x14 =>
  bS (e.ev.cl 191 [x11, x14] (G8.room 10)) fun x16 G15 =>
  some (x16, G15)
theorem m206 {e : Ex} {E : Ev} (h : ExLe Q e E) (v0 v1 : Value) (G : GS) : Ref (s206 true e v0 v1 G) (s206 false (Ex.of E) v0 v1 G) := by
  unfold s206
  exact Ref.go
theorem f206 {orc : FuncId → Bool} {e : Ex} (h : ExLe Q e (E orc)) (v0 v1 : Value) (G : GS) : Ref (s206 true e v0 v1 G) ((E orc).cl 206 [v0, v1] G) :=
  fun r hr => cl_sxE_some Q orc (vs := [v0, v1]) G Tryz.func206 (by kernel_rfl) (by kernel_rfl) (by kernel_rfl) (by kernel_rfl) (by kernel_rfl) (by kernel_rfl) (m206 h v0 v1 G r hr)
/-- (*coxswain/stack.held).ends -/
noncomputable def s207 (q : Bool) (e : Ex) (v0 v1 : Value) (G : GS) : Option (Value × GS) :=
  bP (pNil v0) fun x0 =>
  bP (fa Q q 286 5 7 x0) fun x1 =>
  bP (st Q q 4 1 x1 (.bool true) G) fun G2 =>
  bP (pNil v0) fun x3 =>
  bP (fa Q q 286 6 8 x3) fun x4 =>
  bP (st Q q 23 1 x4 v1 G2) fun G5 =>
  some (.tuple #[], G5)
theorem m207 {e : Ex} {E : Ev} (h : ExLe Q e E) (v0 v1 : Value) (G : GS) : Ref (s207 true e v0 v1 G) (s207 false (Ex.of E) v0 v1 G) := by
  unfold s207
  exact Ref.go
theorem f207 {orc : FuncId → Bool} {e : Ex} (h : ExLe Q e (E orc)) (v0 v1 : Value) (G : GS) : Ref (s207 true e v0 v1 G) ((E orc).cl 207 [v0, v1] G) :=
  fun r hr => cl_sxE_some Q orc (vs := [v0, v1]) G Tryz.func207 (by kernel_rfl) (by kernel_rfl) (by kernel_rfl) (by kernel_rfl) (by kernel_rfl) (by kernel_rfl) (m207 h v0 v1 G r hr)
/-- (*coxswain/stack.held).over -/
noncomputable def s208 (q : Bool) (e : Ex) (v0 : Value) (G : GS) : Option (Value × GS) :=
  bP (ep Q q false 369 (.tmp 3) (.const (.pointer none)) v0 (.pointer none)) fun x0 =>
  bS (gd x0 false (some (v0, G)) G) fun x1 G2 =>
  bS (gd x0 false (bP (pNil x1) fun y => some (y, G2)) G2) fun x3 G4 =>
  bS (gd x0 false (bP (fa Q q 286 4 6 x3) fun y => some (y, G4)) G4) fun x5 G6 =>
  bS (gd x0 false (bP (ld Q q 4 x5 G6) fun y => some (y, G6)) G6) fun x7 G8 =>
  bS (gd x0 false (bP (un Q q .not x7) fun y => some (y, G8)) G8) fun x9 G10 =>
  bP (pickV x0 (.bool true) x9) fun x11 =>
  bS (gd x11 false (some (v0, G10)) G10) fun x12 G13 =>
  bS (gd x11 false (bP (pNil x12) fun y => some (y, G13)) G13) fun x14 G15 =>
  bS (gd x11 false (bP (fa Q q 286 5 7 x14) fun y => some (y, G15)) G15) fun x16 G17 =>
  bS (gd x11 false (bP (ld Q q 4 x16 G17) fun y => some (y, G17)) G17) fun x18 G19 =>
  bP (pickV x11 (.bool true) x18) fun x20 =>
  some (x20, G19)
theorem m208 {e : Ex} {E : Ev} (h : ExLe Q e E) (v0 : Value) (G : GS) : Ref (s208 true e v0 G) (s208 false (Ex.of E) v0 G) := by
  unfold s208
  exact Ref.go
theorem f208 {orc : FuncId → Bool} {e : Ex} (h : ExLe Q e (E orc)) (v0 : Value) (G : GS) : Ref (s208 true e v0 G) ((E orc).cl 208 [v0] G) :=
  fun r hr => cl_sxE_some Q orc (vs := [v0]) G Tryz.func208 (by kernel_rfl) (by kernel_rfl) (by kernel_rfl) (by kernel_rfl) (by kernel_rfl) (by kernel_rfl) (m208 h v0 G r hr)
end Go.Proofs.YtmdocnigniefnaaGreat.Lift
