/- the program's code, spelled out by a program of ours (lift2.lean) -/
import Derived.Test.YtmdocnigniefnaaGreatProg
import Derived.Test.YtmdocnigniefnaaGreatGhKO
import Derived.KernelRfl
namespace Go.Proofs.YtmdocnigniefnaaGreat.Lift
open Go Go.Proofs.YtmdocnigniefnaaGreat.Gh Go.Proofs
set_option linter.unusedVariables false
set_option maxRecDepth 100000
@[reducible] noncomputable def Q : Program := Tryz.prog
@[reducible] noncomputable def E (orc : FuncId → Bool) : Ev := evL Tryz.prog orc
instance ilp32_0 : LpIs Q 32 0 (subAt [1, 1, 0, 1, 0, 0] (bodyOf Tryz.f32)) 34 := ⟨by kernel_rfl, by kernel_rfl⟩
instance ilp34_0 : LpIs Q 34 0 (subAt [1, 1, 0, 1, 0, 0] (bodyOf Tryz.f34)) 47 := ⟨by kernel_rfl, by kernel_rfl⟩
instance ilp35_0 : LpIs Q 35 0 (subAt [1, 1, 1, 0, 1, 0, 0] (bodyOf Tryz.f35)) 44 := ⟨by kernel_rfl, by kernel_rfl⟩
instance ilp38_0 : LpIs Q 38 0 (subAt [1, 1, 0, 1, 0, 0] (bodyOf Tryz.f38)) 31 := ⟨by kernel_rfl, by kernel_rfl⟩
instance ilp39_0 : LpIs Q 39 0 (subAt [1, 1, 0, 1, 0, 0] (bodyOf Tryz.f39)) 30 := ⟨by kernel_rfl, by kernel_rfl⟩
instance ilp53_0 : LpIs Q 53 0 (subAt [1, 1, 1, 1, 0, 0] (bodyOf Tryz.f53)) 24 := ⟨by kernel_rfl, by kernel_rfl⟩
instance ilp75_0 : LpIs Q 75 0 (subAt [1, 1, 1, 0, 0] (bodyOf Tryz.f75)) 26 := ⟨by kernel_rfl, by kernel_rfl⟩
instance ilp78_0 : LpIs Q 78 0 (subAt [1, 1, 0, 1, 0, 0] (bodyOf Tryz.f78)) 25 := ⟨by kernel_rfl, by kernel_rfl⟩
instance ilp79_0 : LpIs Q 79 0 (subAt [1, 0, 1, 0, 0] (bodyOf Tryz.f79)) 18 := ⟨by kernel_rfl, by kernel_rfl⟩
instance ilp80_0 : LpIs Q 80 0 (subAt [1, 1, 0, 1, 0, 0] (bodyOf Tryz.f80)) 30 := ⟨by kernel_rfl, by kernel_rfl⟩
instance ilp94_0 : LpIs Q 94 0 (subAt [1, 0, 1, 1, 1, 1, 1, 0, 0] (bodyOf Tryz.f94)) 91 := ⟨by kernel_rfl, by kernel_rfl⟩
instance ilp99_0 : LpIs Q 99 0 (subAt [1, 1, 1, 1, 0, 0] (bodyOf Tryz.f99)) 23 := ⟨by kernel_rfl, by kernel_rfl⟩
instance ilp101_0 : LpIs Q 101 0 (subAt [1, 1, 1, 0, 1, 0, 0] (bodyOf Tryz.f101)) 42 := ⟨by kernel_rfl, by kernel_rfl⟩
instance ilp121_0 : LpIs Q 121 0 (subAt [1, 1, 1, 1, 0, 1, 0, 0] (bodyOf Tryz.f121)) 44 := ⟨by kernel_rfl, by kernel_rfl⟩
instance ilp123_0 : LpIs Q 123 0 (subAt [1, 1, 0, 0] (bodyOf Tryz.f123)) 148 := ⟨by kernel_rfl, by kernel_rfl⟩
instance ilp147_0 : LpIs Q 147 0 (subAt [1, 1, 1, 1, 1, 0, 0] (bodyOf Tryz.f147)) 29 := ⟨by kernel_rfl, by kernel_rfl⟩
instance ilp162_0 : LpIs Q 162 0 (subAt [1, 0, 0] (bodyOf Tryz.f162)) 53 := ⟨by kernel_rfl, by kernel_rfl⟩
instance ilp162_1 : LpIs Q 162 1 (subAt [1, 0, 0, 1, 0, 0, 1, 0, 0] (bodyOf Tryz.f162)) 53 := ⟨by kernel_rfl, by kernel_rfl⟩
instance ilp163_0 : LpIs Q 163 0 (subAt [1, 1, 1, 0, 1, 0, 0] (bodyOf Tryz.f163)) 60 := ⟨by kernel_rfl, by kernel_rfl⟩
instance ilp163_1 : LpIs Q 163 1 (subAt [1, 1, 1, 1, 1, 0, 0] (bodyOf Tryz.f163)) 60 := ⟨by kernel_rfl, by kernel_rfl⟩
instance ilp164_0 : LpIs Q 164 0 (subAt [1, 1, 0, 1, 1, 1, 0, 0] (bodyOf Tryz.f164)) 67 := ⟨by kernel_rfl, by kernel_rfl⟩
instance ilp166_0 : LpIs Q 166 0 (subAt [1, 1, 0, 0] (bodyOf Tryz.f166)) 34 := ⟨by kernel_rfl, by kernel_rfl⟩
instance ilp167_0 : LpIs Q 167 0 (subAt [1, 1, 0, 1, 0, 0] (bodyOf Tryz.f167)) 141 := ⟨by kernel_rfl, by kernel_rfl⟩
instance ilp167_1 : LpIs Q 167 1 (subAt [1, 1, 0, 1, 0, 0, 1, 0, 0, 0, 0, 0] (bodyOf Tryz.f167)) 141 := ⟨by kernel_rfl, by kernel_rfl⟩
instance ilp167_2 : LpIs Q 167 2 (subAt [1, 1, 0, 1, 0, 0, 1, 0, 0, 1, 1, 1, 1, 0, 1, 0, 1, 0, 0] (bodyOf Tryz.f167)) 141 := ⟨by kernel_rfl, by kernel_rfl⟩
instance ilp167_3 : LpIs Q 167 3 (subAt [1, 1, 0, 1, 0, 0, 1, 0, 0, 1, 1, 1, 1, 1, 1, 0, 1, 0, 0] (bodyOf Tryz.f167)) 141 := ⟨by kernel_rfl, by kernel_rfl⟩
instance ilp168_0 : LpIs Q 168 0 (subAt [1, 1, 1, 0, 0, 0] (bodyOf Tryz.f168)) 90 := ⟨by kernel_rfl, by kernel_rfl⟩
instance ilp168_1 : LpIs Q 168 1 (subAt [1, 1, 1, 0, 0, 0, 0, 0, 0, 0] (bodyOf Tryz.f168)) 90 := ⟨by kernel_rfl, by kernel_rfl⟩
instance ilp168_2 : LpIs Q 168 2 (subAt [1, 1, 1, 0, 0, 0, 0, 1, 0, 0, 0] (bodyOf Tryz.f168)) 90 := ⟨by kernel_rfl, by kernel_rfl⟩
instance ilp169_0 : LpIs Q 169 0 (subAt [1, 1, 1, 0, 0, 0] (bodyOf Tryz.f169)) 178 := ⟨by kernel_rfl, by kernel_rfl⟩
instance ilp169_1 : LpIs Q 169 1 (subAt [1, 1, 1, 1, 0, 0, 0] (bodyOf Tryz.f169)) 178 := ⟨by kernel_rfl, by kernel_rfl⟩
instance ilp169_2 : LpIs Q 169 2 (subAt [1, 1, 1, 1, 1, 1, 1, 1, 1, 0, 0, 0] (bodyOf Tryz.f169)) 178 := ⟨by kernel_rfl, by kernel_rfl⟩
instance ilp169_3 : LpIs Q 169 3 (subAt [1, 1, 1, 1, 1, 1, 1, 1, 1, 0, 0, 0, 0, 0, 0, 0] (bodyOf Tryz.f169)) 178 := ⟨by kernel_rfl, by kernel_rfl⟩
instance ilp169_4 : LpIs Q 169 4 (subAt [1, 1, 1, 1, 1, 1, 1, 1, 1, 0, 0, 0, 0, 1, 0, 0, 0] (bodyOf Tryz.f169)) 178 := ⟨by kernel_rfl, by kernel_rfl⟩
instance ilp188_0 : LpIs Q 188 0 (subAt [1, 1, 1, 1, 0, 0] (bodyOf Tryz.f188)) 34 := ⟨by kernel_rfl, by kernel_rfl⟩
instance ilp199_0 : LpIs Q 199 0 (subAt [1, 0, 0] (bodyOf Tryz.f199)) 18 := ⟨by kernel_rfl, by kernel_rfl⟩
instance ilp200_0 : LpIs Q 200 0 (subAt [1, 0, 0] (bodyOf Tryz.f200)) 82 := ⟨by kernel_rfl, by kernel_rfl⟩
instance ilp222_0 : LpIs Q 222 0 (subAt [1, 0, 1, 0, 0] (bodyOf Tryz.f222)) 24 := ⟨by kernel_rfl, by kernel_rfl⟩
instance ilp224_0 : LpIs Q 224 0 (subAt [1, 1, 0, 1, 0, 0] (bodyOf Tryz.f224)) 24 := ⟨by kernel_rfl, by kernel_rfl⟩
instance ilp256_0 : LpIs Q 256 0 (subAt [1, 1, 0, 0] (bodyOf Tryz.f256)) 25 := ⟨by kernel_rfl, by kernel_rfl⟩
instance ilp284_0 : LpIs Q 284 0 (subAt [1, 0, 1, 1, 0, 0, 0] (bodyOf Tryz.f284)) 162 := ⟨by kernel_rfl, by kernel_rfl⟩
instance ilp294_0 : LpIs Q 294 0 (subAt [1, 0, 1, 1, 1, 1, 1, 0, 0, 0] (bodyOf Tryz.f294)) 195 := ⟨by kernel_rfl, by kernel_rfl⟩
instance ilp321_0 : LpIs Q 321 0 (subAt [1, 1, 0, 1, 0, 0] (bodyOf Tryz.f321)) 36 := ⟨by kernel_rfl, by kernel_rfl⟩
instance ilp327_0 : LpIs Q 327 0 (subAt [1, 0, 1, 1, 0, 1, 0, 0] (bodyOf Tryz.f327)) 66 := ⟨by kernel_rfl, by kernel_rfl⟩
instance ilp339_0 : LpIs Q 339 0 (subAt [1, 1, 0, 1, 0, 0] (bodyOf Tryz.f339)) 20 := ⟨by kernel_rfl, by kernel_rfl⟩
instance ilp345_0 : LpIs Q 345 0 (subAt [1, 1, 0, 1, 0, 0] (bodyOf Tryz.f345)) 20 := ⟨by kernel_rfl, by kernel_rfl⟩
instance ilp346_0 : LpIs Q 346 0 (subAt [1, 1, 0, 1, 0, 0] (bodyOf Tryz.f346)) 20 := ⟨by kernel_rfl, by kernel_rfl⟩
instance iep22 : EpOk Q 22 := ⟨fun neg x y => by cases neg <;> kernel_rfl, fun neg x y a => by cases neg <;> kernel_rfl, fun neg x y a => by cases neg <;> kernel_rfl⟩
noncomputable abbrev z3 : List Value := [(.int .i64 0)]
instance ibs139_1_0 : BsOk Q 139 1 (rep z3 1) 1 [(0, 0, 1)] := bs_ok Q (z0 := z3) (by kernel_rfl) rfl (by decide) (by kernel_rfl)
noncomputable abbrev z38 : List Value := [(.int .u64 0)]
instance ibs90_3_0_1_2 : BsOk Q 90 3 (rep z38 3) 1 [(0, 0, 1), (1, 1, 1), (2, 2, 1)] := bs_ok Q (z0 := z38) (by kernel_rfl) rfl (by decide) (by kernel_rfl)
instance ibs90_5_0_1_2_3_4 : BsOk Q 90 5 (rep z38 5) 1 [(0, 0, 1), (1, 1, 1), (2, 2, 1), (3, 3, 1), (4, 4, 1)] := bs_ok Q (z0 := z38) (by kernel_rfl) rfl (by decide) (by kernel_rfl)
instance ibs90_2_0_1 : BsOk Q 90 2 (rep z38 2) 1 [(0, 0, 1), (1, 1, 1)] := bs_ok Q (z0 := z38) (by kernel_rfl) rfl (by decide) (by kernel_rfl)
instance ibs90_4_0_1_2_3 : BsOk Q 90 4 (rep z38 4) 1 [(0, 0, 1), (1, 1, 1), (2, 2, 1), (3, 3, 1)] := bs_ok Q (z0 := z38) (by kernel_rfl) rfl (by decide) (by kernel_rfl)
instance iln90 : LnOk Q 90 := ⟨fun a n c => by kernel_rfl⟩
noncomputable abbrev z86 : List Value := [(.int .i64 0), (.int .i64 0), (.int .i64 0)]
instance ial86 : AlOk Q 86 z86 := ⟨fun G => by kernel_rfl⟩
instance ist86 : StOk Q 86 3 := ⟨fun b o s v G => by kernel_rfl⟩
instance ifa86_2 : FaOk Q 86 2 2 := ⟨fun b o s => by kernel_rfl⟩
instance ist3 : StOk Q 3 1 := ⟨fun b o s v G => by kernel_rfl⟩
instance ifa86_1 : FaOk Q 86 1 1 := ⟨fun b o s => by kernel_rfl⟩
instance ilda86 : LdAOk Q 86 3 := ⟨fun b o s G => by kernel_rfl⟩
noncomputable abbrev z99 : List Value := (zs 4096 (.int .u64 0))
instance ial99 : AlOk Q 99 z99 := ⟨fun G => by kernel_rfl⟩
noncomputable abbrev z103 : List Value := [(.pointer none), (.int .i64 0), (.int .i64 0), (.int .i64 0), (.int .u64 0), (.int .u64 0), (.bool false), (.int .i64 0)]
instance ibd103_0_1 : BdOk Q 103 z103 [(0, 0, 1), (1, 1, 1)] := bd_ok Q (by kernel_rfl) (by kernel_rfl) (by kernel_rfl)
noncomputable abbrev z46 : List Value := [(.int .u64 0), (.int .i64 0)]
instance ial46 : AlOk Q 46 z46 := ⟨fun G => by kernel_rfl⟩
instance iep52 : EpOk Q 52 := ⟨fun neg x y => by cases neg <;> kernel_rfl, fun neg x y a => by cases neg <;> kernel_rfl, fun neg x y a => by cases neg <;> kernel_rfl⟩
instance ibd46_ : BdOk Q 46 z46 [] := bd_ok Q (by kernel_rfl) (by kernel_rfl) (by kernel_rfl)
instance ist46 : StOk Q 46 2 := ⟨fun b o s v G => by kernel_rfl⟩
instance ifa53_1 : FaOk Q 53 1 19 := ⟨fun b o s => by kernel_rfl⟩
instance ilda48 : LdAOk Q 48 3 := ⟨fun b o s G => by kernel_rfl⟩
instance ifa53_0 : FaOk Q 53 0 0 := ⟨fun b o s => by kernel_rfl⟩
instance ilda46 : LdAOk Q 46 2 := ⟨fun b o s G => by kernel_rfl⟩
instance iep26 : EpOk Q 26 := ⟨fun neg x y => by cases neg <;> kernel_rfl, fun neg x y a => by cases neg <;> kernel_rfl, fun neg x y a => by cases neg <;> kernel_rfl⟩
instance ifa42_0 : FaOk Q 42 0 0 := ⟨fun b o s => by kernel_rfl⟩
instance iep44 : EpOk Q 44 := ⟨fun neg x y => by cases neg <;> kernel_rfl, fun neg x y a => by cases neg <;> kernel_rfl, fun neg x y a => by cases neg <;> kernel_rfl⟩
instance ifa50_0 : FaOk Q 50 0 0 := ⟨fun b o s => by kernel_rfl⟩
instance iep55 : EpOk Q 55 := ⟨fun neg x y => by cases neg <;> kernel_rfl, fun neg x y a => by cases neg <;> kernel_rfl, fun neg x y a => by cases neg <;> kernel_rfl⟩
instance ifa57_0 : FaOk Q 57 0 0 := ⟨fun b o s => by kernel_rfl⟩
instance ilda36 : LdAOk Q 36 13 := ⟨fun b o s G => by kernel_rfl⟩
noncomputable abbrev z42 : List Value := [(.int .i64 0), (.int .i64 0), (.int .i64 0), (.int .i64 0), (.int .i64 0), (.int .i64 0), (.int .i64 0), (.int .i64 0), (.int .i64 0), (.int .i64 0), (.int .i64 0), (.int .i64 0), (.int .i64 0), (.int .i64 0), (.bool false), (.int .i64 0), (.slice none 0 0), (.int .u64 0), (.int .i64 0), (.int .u64 0), (.int .i64 0), (.int .i64 0), (.int .i64 0), (.int .u64 0)]
instance ibd42_0_1_2_3 : BdOk Q 42 z42 [(0, 0, 19), (1, 19, 1), (2, 20, 1), (3, 21, 1)] := bd_ok Q (by kernel_rfl) (by kernel_rfl) (by kernel_rfl)
instance ifa40_6 : FaOk Q 40 6 18 := ⟨fun b o s => by kernel_rfl⟩
instance ild23 : LdOk Q 23 := ⟨fun b o s G => (show _ = loadOne b o G by kernel_rfl).trans (loadOne_eq b o G)⟩
instance ifa36_2 : FaOk Q 36 2 2 := ⟨fun b o s => by kernel_rfl⟩
instance ild3 : LdOk Q 3 := ⟨fun b o s G => (show _ = loadOne b o G by kernel_rfl).trans (loadOne_eq b o G)⟩
instance ist23 : StOk Q 23 1 := ⟨fun b o s v G => by kernel_rfl⟩
noncomputable abbrev z108 : List Value := [.nilIface]
instance ibs37_2_0_1 : BsOk Q 37 2 (rep z108 2) 1 [(0, 0, 1), (1, 1, 1)] := bs_ok Q (z0 := z108) (by kernel_rfl) rfl (by decide) (by kernel_rfl)
instance ifa40_4 : FaOk Q 40 4 16 := ⟨fun b o s => by kernel_rfl⟩
instance ist37 : StOk Q 37 1 := ⟨fun b o s v G => by kernel_rfl⟩
noncomputable abbrev z135 : List Value := [(.pointer none), (.int .u64 0), (.int .u64 0)]
instance ibd135_0_1 : BdOk Q 135 z135 [(0, 0, 1), (1, 1, 1)] := bd_ok Q (by kernel_rfl) (by kernel_rfl) (by kernel_rfl)
instance ial135 : AlOk Q 135 z135 := ⟨fun G => by kernel_rfl⟩
instance ist135 : StOk Q 135 3 := ⟨fun b o s v G => by kernel_rfl⟩
instance ifa135_0 : FaOk Q 135 0 0 := ⟨fun b o s => by kernel_rfl⟩
instance ild132 : LdOk Q 132 := ⟨fun b o s G => (show _ = loadOne b o G by kernel_rfl).trans (loadOne_eq b o G)⟩
instance ilda135 : LdAOk Q 135 3 := ⟨fun b o s G => by kernel_rfl⟩
noncomputable abbrev z36 : List Value := [(.int .i64 0), (.int .i64 0), (.int .i64 0), (.int .i64 0), (.int .i64 0), (.int .i64 0), (.int .i64 0), (.int .i64 0), (.int .i64 0), (.int .i64 0), (.int .i64 0), (.int .i64 0), (.int .i64 0)]
instance ial36 : AlOk Q 36 z36 := ⟨fun G => by kernel_rfl⟩
noncomputable abbrev z28 : List Value := [(.int .i64 0), (.int .i64 0), (.int .i64 0)]
instance ibd28_0_1_2 : BdOk Q 28 z28 [(0, 0, 1), (1, 1, 1), (2, 2, 1)] := bd_ok Q (by kernel_rfl) (by kernel_rfl) (by kernel_rfl)
noncomputable abbrev z30 : List Value := [(.int .i64 0), (.int .i64 0), (.int .i64 0), (.int .i64 0), (.int .i64 0), (.int .i64 0)]
instance ibd30_0_1_2_3 : BdOk Q 30 z30 [(0, 0, 3), (1, 3, 1), (2, 4, 1), (3, 5, 1)] := bd_ok Q (by kernel_rfl) (by kernel_rfl) (by kernel_rfl)
instance ial30 : AlOk Q 30 z30 := ⟨fun G => by kernel_rfl⟩
instance ist30 : StOk Q 30 6 := ⟨fun b o s v G => by kernel_rfl⟩
instance ilda30 : LdAOk Q 30 6 := ⟨fun b o s G => by kernel_rfl⟩
noncomputable abbrev z32 : List Value := [(.int .i64 0), (.int .i64 0), (.int .i64 0)]
instance ibd32_0_1_2 : BdOk Q 32 z32 [(0, 0, 1), (1, 1, 1), (2, 2, 1)] := bd_ok Q (by kernel_rfl) (by kernel_rfl) (by kernel_rfl)
noncomputable abbrev z34 : List Value := [(.int .i64 0), (.int .i64 0), (.int .i64 0), (.int .i64 0), (.int .i64 0), (.int .i64 0), (.int .i64 0), (.int .i64 0), (.int .i64 0), (.int .i64 0)]
instance ibd34_0_1_2 : BdOk Q 34 z34 [(0, 0, 6), (1, 6, 3), (2, 9, 1)] := bd_ok Q (by kernel_rfl) (by kernel_rfl) (by kernel_rfl)
instance ial34 : AlOk Q 34 z34 := ⟨fun G => by kernel_rfl⟩
instance ist34 : StOk Q 34 10 := ⟨fun b o s v G => by kernel_rfl⟩
instance ilda34 : LdAOk Q 34 10 := ⟨fun b o s G => by kernel_rfl⟩
instance ibd36_0_1_2_3 : BdOk Q 36 z36 [(0, 0, 1), (1, 1, 1), (2, 2, 1), (3, 3, 10)] := bd_ok Q (by kernel_rfl) (by kernel_rfl) (by kernel_rfl)
instance ist36 : StOk Q 36 13 := ⟨fun b o s v G => by kernel_rfl⟩
instance iln140 : LnOk Q 140 := ⟨fun a n c => by kernel_rfl⟩
instance iias140 : IasOk Q 140 1 := ⟨fun b o s n c k j => by kernel_rfl⟩
instance ild4 : LdOk Q 4 := ⟨fun b o s G => (show _ = loadOne b o G by kernel_rfl).trans (loadOne_eq b o G)⟩
instance ieb4 : EbOk Q 4 := ⟨fun neg x y a b => by cases neg <;> cases a <;> cases b <;> kernel_rfl⟩
instance iln139 : LnOk Q 139 := ⟨fun a n c => by kernel_rfl⟩
instance ibd86_0_1_2 : BdOk Q 86 z86 [(0, 0, 1), (1, 1, 1), (2, 2, 1)] := bd_ok Q (by kernel_rfl) (by kernel_rfl) (by kernel_rfl)
instance iias90 : IasOk Q 90 1 := ⟨fun b o s n c k j => by kernel_rfl⟩
instance ild38 : LdOk Q 38 := ⟨fun b o s G => (show _ = loadOne b o G by kernel_rfl).trans (loadOne_eq b o G)⟩
instance ibs90_1_0 : BsOk Q 90 1 (rep z38 1) 1 [(0, 0, 1)] := bs_ok Q (z0 := z38) (by kernel_rfl) rfl (by decide) (by kernel_rfl)
instance iap90_90 : ApOk Q 90 90 1 8 := ⟨fun s x G => by kernel_rfl⟩
instance isl90 : SlOk Q 90 1 := ⟨fun a n c lo hi mx G => sl_eq Q (e := 38) (by kernel_rfl) (by kernel_rfl) a n c lo hi mx G⟩
instance ifa86_0 : FaOk Q 86 0 0 := ⟨fun b o s => by kernel_rfl⟩
noncomputable abbrev z147 : List Value := [(.int .i64 0), (.int .i64 0)]
instance ibd147_0_1 : BdOk Q 147 z147 [(0, 0, 1), (1, 1, 1)] := bd_ok Q (by kernel_rfl) (by kernel_rfl) (by kernel_rfl)
noncomputable abbrev z150 : List Value := [(.int .i64 0), (.int .i64 0), (.int .i64 0), (.int .i64 0), (.int .i64 0), (.pointer none), (.int .u64 0), (.slice none 0 0), (.int .i64 0), (.int .i64 0), (.int .u64 0), (.bool false), (.bool false), (.int .i64 0)]
instance ibd150_0_1_2_5_6_8 : BdOk Q 150 z150 [(0, 0, 2), (1, 2, 3), (2, 5, 1), (5, 8, 1), (6, 9, 1), (8, 11, 1)] := bd_ok Q (by kernel_rfl) (by kernel_rfl) (by kernel_rfl)
instance ifa150_2 : FaOk Q 150 2 5 := ⟨fun b o s => by kernel_rfl⟩
instance ild52 : LdOk Q 52 := ⟨fun b o s G => (show _ = loadOne b o G by kernel_rfl).trans (loadOne_eq b o G)⟩
instance iep93 : EpOk Q 93 := ⟨fun neg x y => by cases neg <;> kernel_rfl, fun neg x y a => by cases neg <;> kernel_rfl, fun neg x y a => by cases neg <;> kernel_rfl⟩
instance ifa150_8 : FaOk Q 150 8 11 := ⟨fun b o s => by kernel_rfl⟩
instance ifa150_9 : FaOk Q 150 9 12 := ⟨fun b o s => by kernel_rfl⟩
instance ifa150_10 : FaOk Q 150 10 13 := ⟨fun b o s => by kernel_rfl⟩
instance ifa48_0 : FaOk Q 48 0 0 := ⟨fun b o s => by kernel_rfl⟩
instance ifa48_1 : FaOk Q 48 1 2 := ⟨fun b o s => by kernel_rfl⟩
instance ifa40_2 : FaOk Q 40 2 14 := ⟨fun b o s => by kernel_rfl⟩
instance ild37 : LdOk Q 37 := ⟨fun b o s G => (show _ = loadOne b o G by kernel_rfl).trans (loadOne_eq b o G)⟩
instance iln37 : LnOk Q 37 := ⟨fun a n c => by kernel_rfl⟩
instance iias37 : IasOk Q 37 1 := ⟨fun b o s n c k j => by kernel_rfl⟩
instance ild108 : LdOk Q 108 := ⟨fun b o s G => (show _ = loadOne b o G by kernel_rfl).trans (loadOne_eq b o G)⟩
instance isl37 : SlOk Q 37 1 := ⟨fun a n c lo hi mx G => sl_eq Q (e := 108) (by kernel_rfl) (by kernel_rfl) a n c lo hi mx G⟩
instance ifa40_5 : FaOk Q 40 5 17 := ⟨fun b o s => by kernel_rfl⟩
instance ist38 : StOk Q 38 1 := ⟨fun b o s v G => by kernel_rfl⟩
instance ibs37_1_0 : BsOk Q 37 1 (rep z108 1) 1 [(0, 0, 1)] := bs_ok Q (z0 := z108) (by kernel_rfl) rfl (by decide) (by kernel_rfl)
instance iap37_37 : ApOk Q 37 37 1 16 := ⟨fun s x G => by kernel_rfl⟩
noncomputable abbrev z40 : List Value := [(.int .i64 0), (.int .i64 0), (.int .i64 0), (.int .i64 0), (.int .i64 0), (.int .i64 0), (.int .i64 0), (.int .i64 0), (.int .i64 0), (.int .i64 0), (.int .i64 0), (.int .i64 0), (.int .i64 0), (.int .i64 0), (.bool false), (.int .i64 0), (.slice none 0 0), (.int .u64 0), (.int .i64 0)]
instance ial40 : AlOk Q 40 z40 := ⟨fun G => by kernel_rfl⟩
instance ibd40_0_1_2 : BdOk Q 40 z40 [(0, 0, 13), (1, 13, 1), (2, 14, 1)] := bd_ok Q (by kernel_rfl) (by kernel_rfl) (by kernel_rfl)
instance ist40 : StOk Q 40 19 := ⟨fun b o s v G => by kernel_rfl⟩
instance ifa36_3 : FaOk Q 36 3 3 := ⟨fun b o s => by kernel_rfl⟩
instance ifa34_1 : FaOk Q 34 1 6 := ⟨fun b o s => by kernel_rfl⟩
instance ifa32_2 : FaOk Q 32 2 2 := ⟨fun b o s => by kernel_rfl⟩
instance ilda40 : LdAOk Q 40 19 := ⟨fun b o s G => by kernel_rfl⟩
noncomputable abbrev z164 : List Value := [.nilFunc, .nilFunc, .nilFunc, (.pointer none), (.bool false)]
instance ibd164_0_2 : BdOk Q 164 z164 [(0, 0, 1), (2, 2, 1)] := bd_ok Q (by kernel_rfl) (by kernel_rfl) (by kernel_rfl)
instance iifc157 : IfcOk Q 157 := ⟨fun v => by kernel_rfl⟩
instance ild26 : LdOk Q 26 := ⟨fun b o s G => (show _ = loadOne b o G by kernel_rfl).trans (loadOne_eq b o G)⟩
noncomputable abbrev z172 : List Value := [.nilFunc, .nilFunc, .nilFunc, (.pointer none), (.bool false)]
instance ibd172_0_2 : BdOk Q 172 z172 [(0, 0, 1), (2, 2, 1)] := bd_ok Q (by kernel_rfl) (by kernel_rfl) (by kernel_rfl)
instance iifc165 : IfcOk Q 165 := ⟨fun v => by kernel_rfl⟩
instance ifa36_1 : FaOk Q 36 1 1 := ⟨fun b o s => by kernel_rfl⟩
noncomputable abbrev z201 : List Value := [.nilFunc, .nilFunc, .nilFunc, (.pointer none), (.bool false)]
instance ibd201_0 : BdOk Q 201 z201 [(0, 0, 1)] := bd_ok Q (by kernel_rfl) (by kernel_rfl) (by kernel_rfl)
instance iifc194 : IfcOk Q 194 := ⟨fun v => by kernel_rfl⟩
instance ifa103_0 : FaOk Q 103 0 0 := ⟨fun b o s => by kernel_rfl⟩
instance ild96 : LdOk Q 96 := ⟨fun b o s G => (show _ = loadOne b o G by kernel_rfl).trans (loadOne_eq b o G)⟩
instance iep96 : EpOk Q 96 := ⟨fun neg x y => by cases neg <;> kernel_rfl, fun neg x y a => by cases neg <;> kernel_rfl, fun neg x y a => by cases neg <;> kernel_rfl⟩
instance ifa103_1 : FaOk Q 103 1 1 := ⟨fun b o s => by kernel_rfl⟩
instance iiaa99 : IaaOk Q 99 4096 1 := ⟨fun b o s k j => by kernel_rfl⟩
noncomputable abbrev z101 : List Value := [(.int .i64 0), (.int .i64 0), (.int .u64 0), (.int .u64 0), (.bool false)]
instance ial101 : AlOk Q 101 z101 := ⟨fun G => by kernel_rfl⟩
instance ibd101_ : BdOk Q 101 z101 [] := bd_ok Q (by kernel_rfl) (by kernel_rfl) (by kernel_rfl)
instance ist101 : StOk Q 101 5 := ⟨fun b o s v G => by kernel_rfl⟩
instance ifa103_3 : FaOk Q 103 3 7 := ⟨fun b o s => by kernel_rfl⟩
instance ibd101_0_1 : BdOk Q 101 z101 [(0, 0, 1), (1, 1, 1)] := bd_ok Q (by kernel_rfl) (by kernel_rfl) (by kernel_rfl)
instance ifa103_2 : FaOk Q 103 2 2 := ⟨fun b o s => by kernel_rfl⟩
instance ild97 : LdOk Q 97 := ⟨fun b o s G => (show _ = loadOne b o G by kernel_rfl).trans (loadOne_eq b o G)⟩
instance ifa101_2 : FaOk Q 101 2 2 := ⟨fun b o s => by kernel_rfl⟩
instance ifa101_3 : FaOk Q 101 3 3 := ⟨fun b o s => by kernel_rfl⟩
instance ifa101_4 : FaOk Q 101 4 4 := ⟨fun b o s => by kernel_rfl⟩
instance ist4 : StOk Q 4 1 := ⟨fun b o s v G => by kernel_rfl⟩
instance ist97 : StOk Q 97 1 := ⟨fun b o s v G => by kernel_rfl⟩
instance ilda101 : LdAOk Q 101 5 := ⟨fun b o s G => by kernel_rfl⟩
instance ifa135_1 : FaOk Q 135 1 1 := ⟨fun b o s => by kernel_rfl⟩
instance ifa150_7 : FaOk Q 150 7 10 := ⟨fun b o s => by kernel_rfl⟩
instance ifa150_0 : FaOk Q 150 0 0 := ⟨fun b o s => by kernel_rfl⟩
instance ifa150_4 : FaOk Q 150 4 7 := ⟨fun b o s => by kernel_rfl⟩
instance ild90 : LdOk Q 90 := ⟨fun b o s G => (show _ = loadOne b o G by kernel_rfl).trans (loadOne_eq b o G)⟩
instance ist90 : StOk Q 90 1 := ⟨fun b o s v G => by kernel_rfl⟩
instance ifa147_1 : FaOk Q 147 1 1 := ⟨fun b o s => by kernel_rfl⟩
instance ifa150_3 : FaOk Q 150 3 6 := ⟨fun b o s => by kernel_rfl⟩
instance ifa150_5 : FaOk Q 150 5 8 := ⟨fun b o s => by kernel_rfl⟩
instance ifa150_1 : FaOk Q 150 1 2 := ⟨fun b o s => by kernel_rfl⟩
instance ifa150_6 : FaOk Q 150 6 9 := ⟨fun b o s => by kernel_rfl⟩
noncomputable abbrev z4 : List Value := [(.bool false)]
instance ibs140_1_0 : BsOk Q 140 1 (rep z4 1) 1 [(0, 0, 1)] := bs_ok Q (z0 := z4) (by kernel_rfl) rfl (by decide) (by kernel_rfl)
instance iap140_140 : ApOk Q 140 140 1 1 := ⟨fun s x G => by kernel_rfl⟩
instance iias139 : IasOk Q 139 1 := ⟨fun b o s n c k j => by kernel_rfl⟩
instance icv3_212 : CvOk Q 3 212 .i64 .u64 := ⟨fun n => by kernel_rfl⟩
noncomputable abbrev z53 : List Value := [(.int .i64 0), (.int .i64 0), (.int .i64 0), (.int .i64 0), (.int .i64 0), (.int .i64 0), (.int .i64 0), (.int .i64 0), (.int .i64 0), (.int .i64 0), (.int .i64 0), (.int .i64 0), (.int .i64 0), (.int .i64 0), (.bool false), (.int .i64 0), (.slice none 0 0), (.int .u64 0), (.int .i64 0), (.int .u64 0), (.int .i64 0), (.int .i64 0)]
instance ibd53_0 : BdOk Q 53 z53 [(0, 0, 19)] := bd_ok Q (by kernel_rfl) (by kernel_rfl) (by kernel_rfl)
noncomputable abbrev z52 : List Value := [(.pointer none)]
instance ial52 : AlOk Q 52 z52 := ⟨fun G => by kernel_rfl⟩
instance ist52 : StOk Q 52 1 := ⟨fun b o s v G => by kernel_rfl⟩
noncomputable abbrev z220 : List Value := [.nilFunc, .nilFunc, .nilFunc, (.pointer none), (.bool false)]
instance ibd220_0_1_2 : BdOk Q 220 z220 [(0, 0, 1), (1, 1, 1), (2, 2, 1)] := bd_ok Q (by kernel_rfl) (by kernel_rfl) (by kernel_rfl)
instance iifc213 : IfcOk Q 213 := ⟨fun v => by kernel_rfl⟩
instance ibs37_3_0_1_2 : BsOk Q 37 3 (rep z108 3) 1 [(0, 0, 1), (1, 1, 1), (2, 2, 1)] := bs_ok Q (z0 := z108) (by kernel_rfl) rfl (by decide) (by kernel_rfl)
instance ild105 : LdOk Q 105 := ⟨fun b o s G => (show _ = loadOne b o G by kernel_rfl).trans (loadOne_eq b o G)⟩
instance ifa40_0 : FaOk Q 40 0 0 := ⟨fun b o s => by kernel_rfl⟩
instance ilda32 : LdAOk Q 32 3 := ⟨fun b o s G => by kernel_rfl⟩
instance ifa40_1 : FaOk Q 40 1 13 := ⟨fun b o s => by kernel_rfl⟩
noncomputable abbrev z231 : List Value := [.nilFunc, .nilFunc, .nilFunc, (.int .i64 0), (.bool false), (.int .i64 0)]
instance ibd231_2 : BdOk Q 231 z231 [(2, 4, 1)] := bd_ok Q (by kernel_rfl) (by kernel_rfl) (by kernel_rfl)
noncomputable abbrev z235 : List Value := [.nilFunc, .nilFunc, .nilFunc, (.int .i64 0), (.bool false), (.int .i64 0), (.int .i64 0), (.int .i64 0), (.int .i64 0), (.int .i64 0), (.int .u32 0)]
instance ibd235_0_1 : BdOk Q 235 z235 [(0, 0, 6), (1, 6, 3)] := bd_ok Q (by kernel_rfl) (by kernel_rfl) (by kernel_rfl)
instance ifa235_0 : FaOk Q 235 0 0 := ⟨fun b o s => by kernel_rfl⟩
instance ifa32_1 : FaOk Q 32 1 1 := ⟨fun b o s => by kernel_rfl⟩
instance ifa235_2 : FaOk Q 235 2 9 := ⟨fun b o s => by kernel_rfl⟩
noncomputable abbrev z229 : List Value := [.nilFunc, .nilFunc, .nilFunc]
instance ibd229_0_1_2 : BdOk Q 229 z229 [(0, 0, 1), (1, 1, 1), (2, 2, 1)] := bd_ok Q (by kernel_rfl) (by kernel_rfl) (by kernel_rfl)
instance ifa231_0 : FaOk Q 231 0 0 := ⟨fun b o s => by kernel_rfl⟩
instance ist229 : StOk Q 229 3 := ⟨fun b o s v G => by kernel_rfl⟩
instance ifa40_3 : FaOk Q 40 3 15 := ⟨fun b o s => by kernel_rfl⟩
instance iep158 : EpOk Q 158 := ⟨fun neg x y => by cases neg <;> kernel_rfl, fun neg x y a => by cases neg <;> kernel_rfl, fun neg x y a => by cases neg <;> kernel_rfl⟩
instance ifa235_3 : FaOk Q 235 3 10 := ⟨fun b o s => by kernel_rfl⟩
instance ild233 : LdOk Q 233 := ⟨fun b o s G => (show _ = loadOne b o G by kernel_rfl).trans (loadOne_eq b o G)⟩
instance icv233_3 : CvOk Q 233 3 .u32 .i64 := ⟨fun n => by kernel_rfl⟩
instance ifa34_0 : FaOk Q 34 0 0 := ⟨fun b o s => by kernel_rfl⟩
instance ifa30_0 : FaOk Q 30 0 0 := ⟨fun b o s => by kernel_rfl⟩
instance ilda28 : LdAOk Q 28 3 := ⟨fun b o s G => by kernel_rfl⟩
noncomputable abbrev z241 : List Value := [(.pointer none), (.int .i64 0), (.int .i64 0), (.int .i64 0), (.int .i64 0), (.int .i64 0), (.int .i64 0), (.bool false), .nilFunc, (.int .i64 0), (.int .u64 0), (.int .i64 0)]
instance ibd241_0_1_2_3 : BdOk Q 241 z241 [(0, 0, 1), (1, 1, 6), (2, 7, 1), (3, 8, 1)] := bd_ok Q (by kernel_rfl) (by kernel_rfl) (by kernel_rfl)
instance ifa42_5 : FaOk Q 42 5 23 := ⟨fun b o s => by kernel_rfl⟩
noncomputable abbrev z109 : List Value := [.nilFunc]
instance ibs244_3_0_1_2 : BsOk Q 244 3 (rep z109 3) 1 [(0, 0, 1), (1, 1, 1), (2, 2, 1)] := bs_ok Q (z0 := z109) (by kernel_rfl) rfl (by decide) (by kernel_rfl)
instance iln244 : LnOk Q 244 := ⟨fun a n c => by kernel_rfl⟩
instance iias244 : IasOk Q 244 1 := ⟨fun b o s n c k j => by kernel_rfl⟩
instance ild109 : LdOk Q 109 := ⟨fun b o s G => (show _ = loadOne b o G by kernel_rfl).trans (loadOne_eq b o G)⟩
instance ifa42_4 : FaOk Q 42 4 22 := ⟨fun b o s => by kernel_rfl⟩
instance ibs244_4_0_1_2_3 : BsOk Q 244 4 (rep z109 4) 1 [(0, 0, 1), (1, 1, 1), (2, 2, 1), (3, 3, 1)] := bs_ok Q (z0 := z109) (by kernel_rfl) rfl (by decide) (by kernel_rfl)
instance ifa28_2 : FaOk Q 28 2 2 := ⟨fun b o s => by kernel_rfl⟩
instance ifa36_0 : FaOk Q 36 0 0 := ⟨fun b o s => by kernel_rfl⟩
instance ifd28_0 : FdOk Q 28 0 0 := ⟨fun l => by kernel_rfl⟩
instance imk90 : MkSlOk Q 90 1 8 z38 := ⟨fun k k' l c G => by kernel_rfl⟩
instance isla99 : SlAOk Q 99 4096 1 := ⟨fun a lo hi mx G => by kernel_rfl⟩
instance iln250 : LnOk Q 250 := ⟨fun a n c => by kernel_rfl⟩
instance iias250 : IasOk Q 250 1 := ⟨fun b o s n c k j => by kernel_rfl⟩
noncomputable abbrev z264 : List Value := [.nilFunc, .nilFunc, .nilFunc, (.int .i64 0), (.bool false), (.int .i64 0), (.int .i64 0)]
instance ibd264_0_1 : BdOk Q 264 z264 [(0, 0, 6), (1, 6, 1)] := bd_ok Q (by kernel_rfl) (by kernel_rfl) (by kernel_rfl)
instance ifa264_0 : FaOk Q 264 0 0 := ⟨fun b o s => by kernel_rfl⟩
instance iiaa229 : IaaOk Q 229 3 1 := ⟨fun b o s k j => by kernel_rfl⟩
instance ist206 : StOk Q 206 1 := ⟨fun b o s v G => by kernel_rfl⟩
instance iep132 : EpOk Q 132 := ⟨fun neg x y => by cases neg <;> kernel_rfl, fun neg x y a => by cases neg <;> kernel_rfl, fun neg x y a => by cases neg <;> kernel_rfl⟩
instance ifa46_0 : FaOk Q 46 0 0 := ⟨fun b o s => by kernel_rfl⟩
instance ifa147_0 : FaOk Q 147 0 0 := ⟨fun b o s => by kernel_rfl⟩
instance ibd135_0 : BdOk Q 135 z135 [(0, 0, 1)] := bd_ok Q (by kernel_rfl) (by kernel_rfl) (by kernel_rfl)
instance ifd101_3 : FdOk Q 101 3 3 := ⟨fun l => by kernel_rfl⟩
instance icv212_232 : CvOk Q 212 232 .u64 .u32 := ⟨fun n => by kernel_rfl⟩
noncomputable abbrev z283 : List Value := [(.int .i64 0), (.int .i64 0), (.int .i64 0), (.int .i64 0), (.int .i64 0), (.int .i64 0), (.int .i64 0), (.int .i64 0), (.int .i64 0), (.int .i64 0), (.int .i64 0), (.int .i64 0), (.int .i64 0), (.int .i64 0), (.int .u64 0), (.int .i64 0), (.int .u64 0), (.int .u64 0), (.int .i64 0), (.int .u64 0), (.bool false), (.int .i64 0)]
instance ibd283_0 : BdOk Q 283 z283 [(0, 0, 22)] := bd_ok Q (by kernel_rfl) (by kernel_rfl) (by kernel_rfl)
instance iep214 : EpOk Q 214 := ⟨fun neg x y => by cases neg <;> kernel_rfl, fun neg x y a => by cases neg <;> kernel_rfl, fun neg x y a => by cases neg <;> kernel_rfl⟩
instance ifa283_0 : FaOk Q 283 0 0 := ⟨fun b o s => by kernel_rfl⟩
instance ifa280_7 : FaOk Q 280 7 19 := ⟨fun b o s => by kernel_rfl⟩
noncomputable abbrev z223 : List Value := [(.int .i64 0), (.int .i64 0), (.int .i64 0)]
instance ial223 : AlOk Q 223 z223 := ⟨fun G => by kernel_rfl⟩
instance ibd223_0_1_2 : BdOk Q 223 z223 [(0, 0, 1), (1, 1, 1), (2, 2, 1)] := bd_ok Q (by kernel_rfl) (by kernel_rfl) (by kernel_rfl)
instance ist223 : StOk Q 223 3 := ⟨fun b o s v G => by kernel_rfl⟩
instance ilda223 : LdAOk Q 223 3 := ⟨fun b o s G => by kernel_rfl⟩
instance ifa223_1 : FaOk Q 223 1 1 := ⟨fun b o s => by kernel_rfl⟩
instance ifa223_2 : FaOk Q 223 2 2 := ⟨fun b o s => by kernel_rfl⟩
instance ild221 : LdOk Q 221 := ⟨fun b o s G => (show _ = loadOne b o G by kernel_rfl).trans (loadOne_eq b o G)⟩
instance iifc221 : IfcOk Q 221 := ⟨fun v => by kernel_rfl⟩
instance ifa223_0 : FaOk Q 223 0 0 := ⟨fun b o s => by kernel_rfl⟩
noncomputable abbrev z227 : List Value := [(.int .i64 0), (.int .i64 0), (.int .i64 0)]
instance ial227 : AlOk Q 227 z227 := ⟨fun G => by kernel_rfl⟩
instance ibd227_0_1_2 : BdOk Q 227 z227 [(0, 0, 1), (1, 1, 1), (2, 2, 1)] := bd_ok Q (by kernel_rfl) (by kernel_rfl) (by kernel_rfl)
instance ist227 : StOk Q 227 3 := ⟨fun b o s v G => by kernel_rfl⟩
instance ilda227 : LdAOk Q 227 3 := ⟨fun b o s G => by kernel_rfl⟩
instance ifa227_1 : FaOk Q 227 1 1 := ⟨fun b o s => by kernel_rfl⟩
instance ifa227_2 : FaOk Q 227 2 2 := ⟨fun b o s => by kernel_rfl⟩
instance ild225 : LdOk Q 225 := ⟨fun b o s G => (show _ = loadOne b o G by kernel_rfl).trans (loadOne_eq b o G)⟩
instance iifc225 : IfcOk Q 225 := ⟨fun v => by kernel_rfl⟩
instance ifa227_0 : FaOk Q 227 0 0 := ⟨fun b o s => by kernel_rfl⟩
instance ifa231_1 : FaOk Q 231 1 3 := ⟨fun b o s => by kernel_rfl⟩
instance ifa231_3 : FaOk Q 231 3 5 := ⟨fun b o s => by kernel_rfl⟩
instance ifa235_1 : FaOk Q 235 1 6 := ⟨fun b o s => by kernel_rfl⟩
instance ifa32_0 : FaOk Q 32 0 0 := ⟨fun b o s => by kernel_rfl⟩
instance icv38_233 : CvOk Q 38 233 .u64 .u32 := ⟨fun n => by kernel_rfl⟩
instance ist233 : StOk Q 233 1 := ⟨fun b o s v G => by kernel_rfl⟩
instance icv233_38 : CvOk Q 233 38 .u32 .u64 := ⟨fun n => by kernel_rfl⟩
instance ifa231_2 : FaOk Q 231 2 4 := ⟨fun b o s => by kernel_rfl⟩
noncomputable abbrev z286 : List Value := [(.int .i64 0), (.int .i64 0), (.int .i64 0), (.int .u64 0), (.int .i64 0), (.int .i64 0), (.bool false), (.bool false), (.int .i64 0)]
instance ibd286_0_4 : BdOk Q 286 z286 [(0, 0, 3), (4, 6, 1)] := bd_ok Q (by kernel_rfl) (by kernel_rfl) (by kernel_rfl)
noncomputable abbrev z289 : List Value := [(.int .i64 0), (.int .i64 0), (.int .i64 0), (.int .u64 0), (.int .i64 0), (.int .i64 0), (.bool false), (.bool false), (.int .i64 0), .nilFunc]
instance ibd289_0_1 : BdOk Q 289 z289 [(0, 0, 9), (1, 9, 1)] := bd_ok Q (by kernel_rfl) (by kernel_rfl) (by kernel_rfl)
instance ifa241_0 : FaOk Q 241 0 0 := ⟨fun b o s => by kernel_rfl⟩
instance ild237 : LdOk Q 237 := ⟨fun b o s G => (show _ = loadOne b o G by kernel_rfl).trans (loadOne_eq b o G)⟩
instance ifa241_4 : FaOk Q 241 4 9 := ⟨fun b o s => by kernel_rfl⟩
instance ifa241_3 : FaOk Q 241 3 8 := ⟨fun b o s => by kernel_rfl⟩
instance ist239 : StOk Q 239 1 := ⟨fun b o s v G => by kernel_rfl⟩
instance iep166 : EpOk Q 166 := ⟨fun neg x y => by cases neg <;> kernel_rfl, fun neg x y a => by cases neg <;> kernel_rfl, fun neg x y a => by cases neg <;> kernel_rfl⟩
instance ifa241_2 : FaOk Q 241 2 7 := ⟨fun b o s => by kernel_rfl⟩
instance ild239 : LdOk Q 239 := ⟨fun b o s G => (show _ = loadOne b o G by kernel_rfl).trans (loadOne_eq b o G)⟩
instance ief239 : EfOk Q 239 := ⟨fun neg x y => by cases neg <;> kernel_rfl, fun neg x y f a b => by cases neg <;> kernel_rfl⟩
instance ifa241_5 : FaOk Q 241 5 10 := ⟨fun b o s => by kernel_rfl⟩
instance ifa241_6 : FaOk Q 241 6 11 := ⟨fun b o s => by kernel_rfl⟩
noncomputable abbrev z297 : List Value := [.nilFunc, .nilFunc, .nilFunc, (.pointer none), (.bool false)]
instance ibd297_0_1 : BdOk Q 297 z297 [(0, 0, 1), (1, 1, 1)] := bd_ok Q (by kernel_rfl) (by kernel_rfl) (by kernel_rfl)
instance iifc290 : IfcOk Q 290 := ⟨fun v => by kernel_rfl⟩
noncomputable abbrev z305 : List Value := [.nilFunc, .nilFunc, .nilFunc, (.pointer none), (.bool false)]
instance ibd305_0_1 : BdOk Q 305 z305 [(0, 0, 1), (1, 1, 1)] := bd_ok Q (by kernel_rfl) (by kernel_rfl) (by kernel_rfl)
instance iifc298 : IfcOk Q 298 := ⟨fun v => by kernel_rfl⟩
noncomputable abbrev z313 : List Value := [.nilFunc, .nilFunc, .nilFunc, (.pointer none), (.bool false)]
instance ibd313_0_2 : BdOk Q 313 z313 [(0, 0, 1), (2, 2, 1)] := bd_ok Q (by kernel_rfl) (by kernel_rfl) (by kernel_rfl)
instance iifc307 : IfcOk Q 307 := ⟨fun v => by kernel_rfl⟩
instance ifa30_2 : FaOk Q 30 2 4 := ⟨fun b o s => by kernel_rfl⟩
instance ifa30_1 : FaOk Q 30 1 3 := ⟨fun b o s => by kernel_rfl⟩
instance ild22 : LdOk Q 22 := ⟨fun b o s G => (show _ = loadOne b o G by kernel_rfl).trans (loadOne_eq b o G)⟩
instance ial28 : AlOk Q 28 z28 := ⟨fun G => by kernel_rfl⟩
instance ifa34_2 : FaOk Q 34 2 9 := ⟨fun b o s => by kernel_rfl⟩
instance ifa28_1 : FaOk Q 28 1 1 := ⟨fun b o s => by kernel_rfl⟩
instance ist28 : StOk Q 28 3 := ⟨fun b o s v G => by kernel_rfl⟩
noncomputable abbrev z258 : List Value := [(.int .i64 0), (.int .i64 0), (.bool false)]
instance ial258 : AlOk Q 258 z258 := ⟨fun G => by kernel_rfl⟩
noncomputable abbrev z320 : List Value := [(.int .i64 0), (.int .i64 0), (.int .i64 0), (.int .i64 0)]
instance ial320 : AlOk Q 320 z320 := ⟨fun G => by kernel_rfl⟩
instance ist320 : StOk Q 320 4 := ⟨fun b o s v G => by kernel_rfl⟩
instance iiaa320 : IaaOk Q 320 2 2 := ⟨fun b o s k j => by kernel_rfl⟩
instance ilda319 : LdAOk Q 319 2 := ⟨fun b o s G => by kernel_rfl⟩
instance ibd258_0_1_2 : BdOk Q 258 z258 [(0, 0, 1), (1, 1, 1), (2, 2, 1)] := bd_ok Q (by kernel_rfl) (by kernel_rfl) (by kernel_rfl)
instance ist258 : StOk Q 258 3 := ⟨fun b o s v G => by kernel_rfl⟩
instance ilda258 : LdAOk Q 258 3 := ⟨fun b o s G => by kernel_rfl⟩
instance ibd258_ : BdOk Q 258 z258 [] := bd_ok Q (by kernel_rfl) (by kernel_rfl) (by kernel_rfl)
instance ifa264_1 : FaOk Q 264 1 6 := ⟨fun b o s => by kernel_rfl⟩
instance icv3_325 : CvOk Q 3 325 .i64 .u64 := ⟨fun n => by kernel_rfl⟩
noncomputable abbrev z325 : List Value := [(.int .u64 0)]
instance ial325 : AlOk Q 325 z325 := ⟨fun G => by kernel_rfl⟩
instance ist325 : StOk Q 325 1 := ⟨fun b o s v G => by kernel_rfl⟩
instance icv212_3 : CvOk Q 212 3 .u64 .i64 := ⟨fun n => by kernel_rfl⟩
instance ial3 : AlOk Q 3 z3 := ⟨fun G => by kernel_rfl⟩
instance icv232_5 : CvOk Q 232 5 .u32 .u8 := ⟨fun n => by kernel_rfl⟩
instance icv5_3 : CvOk Q 5 3 .u8 .i64 := ⟨fun n => by kernel_rfl⟩
instance icv38_5 : CvOk Q 38 5 .u64 .u8 := ⟨fun n => by kernel_rfl⟩
noncomputable abbrev z280 : List Value := [(.int .i64 0), (.int .i64 0), (.int .i64 0), (.int .i64 0), (.int .i64 0), (.int .i64 0), (.int .i64 0), (.int .i64 0), (.int .i64 0), (.int .i64 0), (.int .i64 0), (.int .i64 0), (.int .i64 0), (.int .i64 0), (.int .u64 0), (.int .i64 0), (.int .u64 0), (.int .u64 0), (.int .i64 0), (.int .u64 0), (.bool false), (.int .i64 0)]
instance ial280 : AlOk Q 280 z280 := ⟨fun G => by kernel_rfl⟩
instance ibd280_8_2_9 : BdOk Q 280 z280 [(8, 20, 1), (2, 13, 1), (9, 21, 1)] := bd_ok Q (by kernel_rfl) (by kernel_rfl) (by kernel_rfl)
instance ist280 : StOk Q 280 22 := ⟨fun b o s v G => by kernel_rfl⟩
instance ibd280_0_8_2 : BdOk Q 280 z280 [(0, 0, 13), (8, 20, 1), (2, 13, 1)] := bd_ok Q (by kernel_rfl) (by kernel_rfl) (by kernel_rfl)
instance ilda280 : LdAOk Q 280 22 := ⟨fun b o s G => by kernel_rfl⟩
instance ifa280_8 : FaOk Q 280 8 20 := ⟨fun b o s => by kernel_rfl⟩
instance ifa280_2 : FaOk Q 280 2 13 := ⟨fun b o s => by kernel_rfl⟩
instance ifa280_9 : FaOk Q 280 9 21 := ⟨fun b o s => by kernel_rfl⟩
instance ifa280_6 : FaOk Q 280 6 17 := ⟨fun b o s => by kernel_rfl⟩
instance ifa289_1 : FaOk Q 289 1 9 := ⟨fun b o s => by kernel_rfl⟩
instance ist287 : StOk Q 287 1 := ⟨fun b o s v G => by kernel_rfl⟩
instance ifa289_0 : FaOk Q 289 0 0 := ⟨fun b o s => by kernel_rfl⟩
instance ifa286_2 : FaOk Q 286 2 4 := ⟨fun b o s => by kernel_rfl⟩
instance iep237 : EpOk Q 237 := ⟨fun neg x y => by cases neg <;> kernel_rfl, fun neg x y a => by cases neg <;> kernel_rfl, fun neg x y a => by cases neg <;> kernel_rfl⟩
instance ild287 : LdOk Q 287 := ⟨fun b o s G => (show _ = loadOne b o G by kernel_rfl).trans (loadOne_eq b o G)⟩
instance ifa286_5 : FaOk Q 286 5 7 := ⟨fun b o s => by kernel_rfl⟩
instance ifa241_1 : FaOk Q 241 1 1 := ⟨fun b o s => by kernel_rfl⟩
instance ibd258_0_1 : BdOk Q 258 z258 [(0, 0, 1), (1, 1, 1)] := bd_ok Q (by kernel_rfl) (by kernel_rfl) (by kernel_rfl)
instance icv3_38 : CvOk Q 3 38 .i64 .u64 := ⟨fun n => by kernel_rfl⟩
instance ifa42_1 : FaOk Q 42 1 19 := ⟨fun b o s => by kernel_rfl⟩
instance ifa42_2 : FaOk Q 42 2 20 := ⟨fun b o s => by kernel_rfl⟩
instance ifa42_3 : FaOk Q 42 3 21 := ⟨fun b o s => by kernel_rfl⟩
noncomputable abbrev z335 : List Value := [(.bool false), (.int .u64 0), .nilFunc, .nilFunc, .nilFunc, .nilFunc, (.int .i64 0), (.int .i64 0)]
instance ibd335_0_1_4 : BdOk Q 335 z335 [(0, 0, 1), (1, 1, 1), (4, 7, 1)] := bd_ok Q (by kernel_rfl) (by kernel_rfl) (by kernel_rfl)
instance ifa335_4 : FaOk Q 335 4 7 := ⟨fun b o s => by kernel_rfl⟩
instance ifa335_3 : FaOk Q 335 3 6 := ⟨fun b o s => by kernel_rfl⟩
noncomputable abbrev z333 : List Value := [.nilFunc, .nilFunc, .nilFunc, .nilFunc]
instance ibd333_0_1_2_3 : BdOk Q 333 z333 [(0, 0, 1), (1, 1, 1), (2, 2, 1), (3, 3, 1)] := bd_ok Q (by kernel_rfl) (by kernel_rfl) (by kernel_rfl)
instance ifa335_2 : FaOk Q 335 2 2 := ⟨fun b o s => by kernel_rfl⟩
instance ist333 : StOk Q 333 4 := ⟨fun b o s v G => by kernel_rfl⟩
instance iep291 : EpOk Q 291 := ⟨fun neg x y => by cases neg <;> kernel_rfl, fun neg x y a => by cases neg <;> kernel_rfl, fun neg x y a => by cases neg <;> kernel_rfl⟩
instance ifa335_1 : FaOk Q 335 1 1 := ⟨fun b o s => by kernel_rfl⟩
noncomputable abbrev z340 : List Value := [(.int .i64 0), (.int .i64 0), (.int .i64 0), (.int .i64 0), (.int .i64 0), (.int .i64 0), (.int .i64 0), (.int .i64 0), (.int .i64 0), (.int .i64 0), (.int .i64 0), (.int .i64 0), (.int .i64 0), (.bool false), (.bool false), (.int .u64 0), (.int .u64 0), (.int .i64 0), (.int .i64 0), (.int .i64 0), (.int .i64 0), (.int .u64 0), (.pointer none), (.pointer none), (.int .u64 0), (.int .i64 0)]
instance ibd340_0_1_3_4_6_13 : BdOk Q 340 z340 [(0, 0, 13), (1, 13, 1), (3, 15, 1), (4, 16, 1), (6, 18, 1), (13, 25, 1)] := bd_ok Q (by kernel_rfl) (by kernel_rfl) (by kernel_rfl)
instance ifa340_13 : FaOk Q 340 13 25 := ⟨fun b o s => by kernel_rfl⟩
instance ifa258_0 : FaOk Q 258 0 0 := ⟨fun b o s => by kernel_rfl⟩
instance ifa340_5 : FaOk Q 340 5 17 := ⟨fun b o s => by kernel_rfl⟩
instance ifa340_7 : FaOk Q 340 7 19 := ⟨fun b o s => by kernel_rfl⟩
instance ist338 : StOk Q 338 1 := ⟨fun b o s v G => by kernel_rfl⟩
instance iep299 : EpOk Q 299 := ⟨fun neg x y => by cases neg <;> kernel_rfl, fun neg x y a => by cases neg <;> kernel_rfl, fun neg x y a => by cases neg <;> kernel_rfl⟩
instance ifa340_12 : FaOk Q 340 12 24 := ⟨fun b o s => by kernel_rfl⟩
noncomputable abbrev z345 : List Value := [.nilFunc, (.bool false), (.int .i64 0)]
instance ibd345_1 : BdOk Q 345 z345 [(1, 1, 1)] := bd_ok Q (by kernel_rfl) (by kernel_rfl) (by kernel_rfl)
noncomputable abbrev z352 : List Value := [.nilFunc, (.bool false), (.int .i64 0), (.int .i64 0), (.int .i64 0), (.int .i64 0), (.int .i64 0), (.int .i64 0), (.int .i64 0), (.int .i64 0), (.int .i64 0), (.int .i64 0), (.int .i64 0), (.pointer none), (.pointer none), (.int .i64 0), (.pointer none), (.int .i64 0), (.int .i64 0)]
instance ibd352_0_1 : BdOk Q 352 z352 [(0, 0, 3), (1, 3, 10)] := bd_ok Q (by kernel_rfl) (by kernel_rfl) (by kernel_rfl)
instance ifa352_0 : FaOk Q 352 0 0 := ⟨fun b o s => by kernel_rfl⟩
instance ifa345_2 : FaOk Q 345 2 2 := ⟨fun b o s => by kernel_rfl⟩
instance ifa352_2 : FaOk Q 352 2 13 := ⟨fun b o s => by kernel_rfl⟩
instance ist346 : StOk Q 346 1 := ⟨fun b o s v G => by kernel_rfl⟩
instance ifa352_3 : FaOk Q 352 3 14 := ⟨fun b o s => by kernel_rfl⟩
instance ist347 : StOk Q 347 1 := ⟨fun b o s v G => by kernel_rfl⟩
instance ifa345_0 : FaOk Q 345 0 0 := ⟨fun b o s => by kernel_rfl⟩
instance ist343 : StOk Q 343 1 := ⟨fun b o s v G => by kernel_rfl⟩
instance ifa28_0 : FaOk Q 28 0 0 := ⟨fun b o s => by kernel_rfl⟩
noncomputable abbrev z357 : List Value := [(.int .i64 0), (.int .i64 0)]
instance ial357 : AlOk Q 357 z357 := ⟨fun G => by kernel_rfl⟩
instance ist357 : StOk Q 357 2 := ⟨fun b o s v G => by kernel_rfl⟩
instance ifa357_0 : FaOk Q 357 0 0 := ⟨fun b o s => by kernel_rfl⟩
noncomputable abbrev z319 : List Value := [(.int .i64 0), (.int .i64 0)]
instance ibd319_0_1 : BdOk Q 319 z319 [(0, 0, 1), (1, 1, 1)] := bd_ok Q (by kernel_rfl) (by kernel_rfl) (by kernel_rfl)
instance ibd320_0_1 : BdOk Q 320 z320 [(0, 0, 2), (1, 2, 2)] := bd_ok Q (by kernel_rfl) (by kernel_rfl) (by kernel_rfl)
instance ilda320 : LdAOk Q 320 4 := ⟨fun b o s G => by kernel_rfl⟩
instance ifa319_0 : FaOk Q 319 0 0 := ⟨fun b o s => by kernel_rfl⟩
instance ifa319_1 : FaOk Q 319 1 1 := ⟨fun b o s => by kernel_rfl⟩
instance icv38_3 : CvOk Q 38 3 .u64 .i64 := ⟨fun n => by kernel_rfl⟩
noncomputable abbrev z362 : List Value := [(.int .i64 0), (.int .i64 0), (.int .i64 0)]
instance ibd362_0_1_2 : BdOk Q 362 z362 [(0, 0, 1), (1, 1, 1), (2, 2, 1)] := bd_ok Q (by kernel_rfl) (by kernel_rfl) (by kernel_rfl)
instance ifa258_1 : FaOk Q 258 1 1 := ⟨fun b o s => by kernel_rfl⟩
instance ibs377_2_0_1 : BsOk Q 377 2 (rep z362 2) 3 [(0, 0, 3), (1, 3, 3)] := bs_ok Q (z0 := z362) (by kernel_rfl) rfl (by decide) (by kernel_rfl)
instance isla320 : SlAOk Q 320 2 2 := ⟨fun a lo hi mx G => by kernel_rfl⟩
instance ibs139_2_0_1 : BsOk Q 139 2 (rep z3 2) 1 [(0, 0, 1), (1, 1, 1)] := bs_ok Q (z0 := z3) (by kernel_rfl) rfl (by decide) (by kernel_rfl)
instance ifa258_2 : FaOk Q 258 2 2 := ⟨fun b o s => by kernel_rfl⟩
instance ild325 : LdOk Q 325 := ⟨fun b o s G => (show _ = loadOne b o G by kernel_rfl).trans (loadOne_eq b o G)⟩
instance ifa286_0 : FaOk Q 286 0 0 := ⟨fun b o s => by kernel_rfl⟩
instance ifa286_3 : FaOk Q 286 3 5 := ⟨fun b o s => by kernel_rfl⟩
instance ifa286_1 : FaOk Q 286 1 3 := ⟨fun b o s => by kernel_rfl⟩
instance ifa286_6 : FaOk Q 286 6 8 := ⟨fun b o s => by kernel_rfl⟩
instance iep369 : EpOk Q 369 := ⟨fun neg x y => by cases neg <;> kernel_rfl, fun neg x y a => by cases neg <;> kernel_rfl, fun neg x y a => by cases neg <;> kernel_rfl⟩
instance ifa286_4 : FaOk Q 286 4 6 := ⟨fun b o s => by kernel_rfl⟩
instance ifa340_0 : FaOk Q 340 0 0 := ⟨fun b o s => by kernel_rfl⟩
instance ifa340_4 : FaOk Q 340 4 16 := ⟨fun b o s => by kernel_rfl⟩
instance ifa340_10 : FaOk Q 340 10 22 := ⟨fun b o s => by kernel_rfl⟩
instance ist184 : StOk Q 184 1 := ⟨fun b o s v G => by kernel_rfl⟩
noncomputable abbrev z372 : List Value := [.nilFunc, .nilFunc, .nilFunc, (.int .i64 0), (.bool false), (.int .i64 0), (.int .i64 0), (.int .i64 0), (.int .i64 0), (.int .i64 0), (.int .i64 0), (.int .u64 0), (.int .i64 0)]
instance ibd372_0_1_2_3 : BdOk Q 372 z372 [(0, 0, 6), (1, 6, 3), (2, 9, 1), (3, 10, 1)] := bd_ok Q (by kernel_rfl) (by kernel_rfl) (by kernel_rfl)
instance ifa372_0 : FaOk Q 372 0 0 := ⟨fun b o s => by kernel_rfl⟩
noncomputable abbrev z375 : List Value := [(.int .i64 0), (.int .i64 0), (.int .i64 0), (.int .u64 0), (.int .i64 0), (.int .i64 0), (.bool false), (.bool false), (.int .i64 0), .nilFunc]
instance ibd375_0_1 : BdOk Q 375 z375 [(0, 0, 9), (1, 9, 1)] := bd_ok Q (by kernel_rfl) (by kernel_rfl) (by kernel_rfl)
instance ild346 : LdOk Q 346 := ⟨fun b o s G => (show _ = loadOne b o G by kernel_rfl).trans (loadOne_eq b o G)⟩
instance ibd357_0 : BdOk Q 357 z357 [(0, 0, 1)] := bd_ok Q (by kernel_rfl) (by kernel_rfl) (by kernel_rfl)
instance ibd357_0_1 : BdOk Q 357 z357 [(0, 0, 1), (1, 1, 1)] := bd_ok Q (by kernel_rfl) (by kernel_rfl) (by kernel_rfl)
instance ilda357 : LdAOk Q 357 2 := ⟨fun b o s G => by kernel_rfl⟩
instance iln377 : LnOk Q 377 := ⟨fun a n c => by kernel_rfl⟩
instance iias377 : IasOk Q 377 3 := ⟨fun b o s n c k j => by kernel_rfl⟩
instance ilda362 : LdAOk Q 362 3 := ⟨fun b o s G => by kernel_rfl⟩
instance ial362 : AlOk Q 362 z362 := ⟨fun G => by kernel_rfl⟩
instance ist362 : StOk Q 362 3 := ⟨fun b o s v G => by kernel_rfl⟩
instance ifa362_0 : FaOk Q 362 0 0 := ⟨fun b o s => by kernel_rfl⟩
instance ifa362_1 : FaOk Q 362 1 1 := ⟨fun b o s => by kernel_rfl⟩
instance ifa362_2 : FaOk Q 362 2 2 := ⟨fun b o s => by kernel_rfl⟩
instance iln365 : LnOk Q 365 := ⟨fun a n c => by kernel_rfl⟩
instance iias365 : IasOk Q 365 2 := ⟨fun b o s n c k j => by kernel_rfl⟩
instance ial319 : AlOk Q 319 z319 := ⟨fun G => by kernel_rfl⟩
instance ist319 : StOk Q 319 2 := ⟨fun b o s v G => by kernel_rfl⟩
noncomputable abbrev z384 : List Value := [(.int .i64 0), (.int .i64 0), (.int .i64 0), (.int .i64 0), (.int .i64 0), (.int .i64 0), (.int .i64 0), (.int .i64 0), (.int .i64 0), (.int .i64 0), (.int .i64 0), (.int .i64 0), (.int .i64 0), (.int .u64 0), (.int .i64 0), (.int .i64 0), (.int .i64 0), (.int .u64 0), (.int .u64 0), (.int .u64 0), (.slice none 0 0), (.int .u64 0), (.bool false), (.int .i64 0)]
instance ibd384_0_1_7 : BdOk Q 384 z384 [(0, 0, 13), (1, 13, 1), (7, 22, 1)] := bd_ok Q (by kernel_rfl) (by kernel_rfl) (by kernel_rfl)
instance ifa384_2 : FaOk Q 384 2 14 := ⟨fun b o s => by kernel_rfl⟩
instance ifa384_8 : FaOk Q 384 8 23 := ⟨fun b o s => by kernel_rfl⟩
noncomputable abbrev z381 : List Value := [(.int .i64 0), (.int .i64 0), (.int .u64 0), (.int .u64 0)]
instance imk382 : MkSlOk Q 382 4 32 z381 := ⟨fun k k' l c G => by kernel_rfl⟩
instance ifa384_5 : FaOk Q 384 5 20 := ⟨fun b o s => by kernel_rfl⟩
instance ist382 : StOk Q 382 1 := ⟨fun b o s v G => by kernel_rfl⟩
instance ifa372_1 : FaOk Q 372 1 6 := ⟨fun b o s => by kernel_rfl⟩
instance ifa372_4 : FaOk Q 372 4 11 := ⟨fun b o s => by kernel_rfl⟩
instance ifa372_3 : FaOk Q 372 3 10 := ⟨fun b o s => by kernel_rfl⟩
instance ifa372_5 : FaOk Q 372 5 12 := ⟨fun b o s => by kernel_rfl⟩
instance ifa375_1 : FaOk Q 375 1 9 := ⟨fun b o s => by kernel_rfl⟩
instance ist373 : StOk Q 373 1 := ⟨fun b o s v G => by kernel_rfl⟩
instance ifa375_0 : FaOk Q 375 0 0 := ⟨fun b o s => by kernel_rfl⟩
instance iep346 : EpOk Q 346 := ⟨fun neg x y => by cases neg <;> kernel_rfl, fun neg x y a => by cases neg <;> kernel_rfl, fun neg x y a => by cases neg <;> kernel_rfl⟩
instance ild347 : LdOk Q 347 := ⟨fun b o s G => (show _ = loadOne b o G by kernel_rfl).trans (loadOne_eq b o G)⟩
instance ifa352_4 : FaOk Q 352 4 15 := ⟨fun b o s => by kernel_rfl⟩
instance ifa357_1 : FaOk Q 357 1 1 := ⟨fun b o s => by kernel_rfl⟩
instance ifa384_0 : FaOk Q 384 0 0 := ⟨fun b o s => by kernel_rfl⟩
instance ifa372_2 : FaOk Q 372 2 9 := ⟨fun b o s => by kernel_rfl⟩
instance ibd135_0_1_2 : BdOk Q 135 z135 [(0, 0, 1), (1, 1, 1), (2, 2, 1)] := bd_ok Q (by kernel_rfl) (by kernel_rfl) (by kernel_rfl)
instance ifd101_4 : FdOk Q 101 4 4 := ⟨fun l => by kernel_rfl⟩
instance ild206 : LdOk Q 206 := ⟨fun b o s G => (show _ = loadOne b o G by kernel_rfl).trans (loadOne_eq b o G)⟩
instance iep347 : EpOk Q 347 := ⟨fun neg x y => by cases neg <;> kernel_rfl, fun neg x y a => by cases neg <;> kernel_rfl, fun neg x y a => by cases neg <;> kernel_rfl⟩
instance ild373 : LdOk Q 373 := ⟨fun b o s G => (show _ = loadOne b o G by kernel_rfl).trans (loadOne_eq b o G)⟩
instance ifa352_1 : FaOk Q 352 1 3 := ⟨fun b o s => by kernel_rfl⟩
noncomputable abbrev z350 : List Value := [(.pointer none), (.int .i64 0)]
instance ibd350_0_1 : BdOk Q 350 z350 [(0, 0, 1), (1, 1, 1)] := bd_ok Q (by kernel_rfl) (by kernel_rfl) (by kernel_rfl)
instance ifa352_5 : FaOk Q 352 5 16 := ⟨fun b o s => by kernel_rfl⟩
instance ist350 : StOk Q 350 2 := ⟨fun b o s v G => by kernel_rfl⟩
instance ild184 : LdOk Q 184 := ⟨fun b o s G => (show _ = loadOne b o G by kernel_rfl).trans (loadOne_eq b o G)⟩
instance ild382 : LdOk Q 382 := ⟨fun b o s G => (show _ = loadOne b o G by kernel_rfl).trans (loadOne_eq b o G)⟩
instance ial381 : AlOk Q 381 z381 := ⟨fun G => by kernel_rfl⟩
instance ist381 : StOk Q 381 4 := ⟨fun b o s v G => by kernel_rfl⟩
instance ilda381 : LdAOk Q 381 4 := ⟨fun b o s G => by kernel_rfl⟩
instance ifa384_3 : FaOk Q 384 3 15 := ⟨fun b o s => by kernel_rfl⟩
instance ifa135_2 : FaOk Q 135 2 2 := ⟨fun b o s => by kernel_rfl⟩
noncomputable abbrev z395 : List Value := [(.pointer none), (.int .i64 0), (.int .i64 0), (.int .i64 0), (.int .i64 0), (.int .i64 0), (.int .i64 0), (.bool false), .nilFunc, (.int .i64 0), (.int .u64 0), (.int .i64 0)]
instance ibd395_0_1_2_4 : BdOk Q 395 z395 [(0, 0, 1), (1, 1, 6), (2, 7, 1), (4, 9, 1)] := bd_ok Q (by kernel_rfl) (by kernel_rfl) (by kernel_rfl)
instance ifa395_6 : FaOk Q 395 6 11 := ⟨fun b o s => by kernel_rfl⟩
instance ifa395_3 : FaOk Q 395 3 8 := ⟨fun b o s => by kernel_rfl⟩
instance ist393 : StOk Q 393 1 := ⟨fun b o s v G => by kernel_rfl⟩
instance ifa350_0 : FaOk Q 350 0 0 := ⟨fun b o s => by kernel_rfl⟩
instance ild348 : LdOk Q 348 := ⟨fun b o s G => (show _ = loadOne b o G by kernel_rfl).trans (loadOne_eq b o G)⟩
instance ifa352_6 : FaOk Q 352 6 18 := ⟨fun b o s => by kernel_rfl⟩
instance ifa350_1 : FaOk Q 350 1 1 := ⟨fun b o s => by kernel_rfl⟩
instance ibd286_0_2_4 : BdOk Q 286 z286 [(0, 0, 3), (2, 4, 1), (4, 6, 1)] := bd_ok Q (by kernel_rfl) (by kernel_rfl) (by kernel_rfl)
noncomputable abbrev z399 : List Value := [(.int .i64 0), (.int .i64 0), (.int .i64 0), (.int .u64 0), (.int .i64 0), (.int .i64 0), (.bool false), (.bool false), (.int .i64 0), .nilFunc]
instance ibd399_0_1 : BdOk Q 399 z399 [(0, 0, 9), (1, 9, 1)] := bd_ok Q (by kernel_rfl) (by kernel_rfl) (by kernel_rfl)
instance ifa399_0 : FaOk Q 399 0 0 := ⟨fun b o s => by kernel_rfl⟩
instance ifa395_1 : FaOk Q 395 1 1 := ⟨fun b o s => by kernel_rfl⟩
instance ifa395_4 : FaOk Q 395 4 9 := ⟨fun b o s => by kernel_rfl⟩
instance ifa395_5 : FaOk Q 395 5 10 := ⟨fun b o s => by kernel_rfl⟩
instance ifa30_3 : FaOk Q 30 3 5 := ⟨fun b o s => by kernel_rfl⟩
instance iep348 : EpOk Q 348 := ⟨fun neg x y => by cases neg <;> kernel_rfl, fun neg x y a => by cases neg <;> kernel_rfl, fun neg x y a => by cases neg <;> kernel_rfl⟩
instance ild393 : LdOk Q 393 := ⟨fun b o s G => (show _ = loadOne b o G by kernel_rfl).trans (loadOne_eq b o G)⟩
instance ief393 : EfOk Q 393 := ⟨fun neg x y => by cases neg <;> kernel_rfl, fun neg x y f a b => by cases neg <;> kernel_rfl⟩
instance ibd381_1 : BdOk Q 381 z381 [(1, 1, 1)] := bd_ok Q (by kernel_rfl) (by kernel_rfl) (by kernel_rfl)
instance ifa381_0 : FaOk Q 381 0 0 := ⟨fun b o s => by kernel_rfl⟩
instance ifa381_3 : FaOk Q 381 3 3 := ⟨fun b o s => by kernel_rfl⟩
instance iias382 : IasOk Q 382 4 := ⟨fun b o s n c k j => by kernel_rfl⟩
instance ifa399_1 : FaOk Q 399 1 9 := ⟨fun b o s => by kernel_rfl⟩
instance ist397 : StOk Q 397 1 := ⟨fun b o s v G => by kernel_rfl⟩
instance ifa395_0 : FaOk Q 395 0 0 := ⟨fun b o s => by kernel_rfl⟩
instance ild391 : LdOk Q 391 := ⟨fun b o s G => (show _ = loadOne b o G by kernel_rfl).trans (loadOne_eq b o G)⟩
instance iep391 : EpOk Q 391 := ⟨fun neg x y => by cases neg <;> kernel_rfl, fun neg x y a => by cases neg <;> kernel_rfl, fun neg x y a => by cases neg <;> kernel_rfl⟩
instance ild397 : LdOk Q 397 := ⟨fun b o s G => (show _ = loadOne b o G by kernel_rfl).trans (loadOne_eq b o G)⟩
instance ifa129_4 : FaOk Q 129 4 4 := ⟨fun b o s => by kernel_rfl⟩
instance ifa129_0 : FaOk Q 129 0 0 := ⟨fun b o s => by kernel_rfl⟩
instance ild125 : LdOk Q 125 := ⟨fun b o s G => (show _ = loadOne b o G by kernel_rfl).trans (loadOne_eq b o G)⟩
instance ifa129_3 : FaOk Q 129 3 3 := ⟨fun b o s => by kernel_rfl⟩
instance ist123 : StOk Q 123 1 := ⟨fun b o s v G => by kernel_rfl⟩
instance ild123 : LdOk Q 123 := ⟨fun b o s G => (show _ = loadOne b o G by kernel_rfl).trans (loadOne_eq b o G)⟩
instance iifc123 : IfcOk Q 123 := ⟨fun v => by kernel_rfl⟩
instance ifa129_1 : FaOk Q 129 1 1 := ⟨fun b o s => by kernel_rfl⟩
instance ild126 : LdOk Q 126 := ⟨fun b o s G => (show _ = loadOne b o G by kernel_rfl).trans (loadOne_eq b o G)⟩
instance ief126 : EfOk Q 126 := ⟨fun neg x y => by cases neg <;> kernel_rfl, fun neg x y f a b => by cases neg <;> kernel_rfl⟩
instance ifa129_2 : FaOk Q 129 2 2 := ⟨fun b o s => by kernel_rfl⟩
instance ild127 : LdOk Q 127 := ⟨fun b o s G => (show _ = loadOne b o G by kernel_rfl).trans (loadOne_eq b o G)⟩
instance ief127 : EfOk Q 127 := ⟨fun neg x y => by cases neg <;> kernel_rfl, fun neg x y f a b => by cases neg <;> kernel_rfl⟩
instance iep123 : EpOk Q 123 := ⟨fun neg x y => by cases neg <;> kernel_rfl, fun neg x y a => by cases neg <;> kernel_rfl, fun neg x y a => by cases neg <;> kernel_rfl⟩
instance ifa193_0 : FaOk Q 193 0 0 := ⟨fun b o s => by kernel_rfl⟩
instance ifa190_2 : FaOk Q 190 2 17 := ⟨fun b o s => by kernel_rfl⟩
instance ifa190_5 : FaOk Q 190 5 20 := ⟨fun b o s => by kernel_rfl⟩
instance ist188 : StOk Q 188 1 := ⟨fun b o s v G => by kernel_rfl⟩
instance ild188 : LdOk Q 188 := ⟨fun b o s G => (show _ = loadOne b o G by kernel_rfl).trans (loadOne_eq b o G)⟩
instance ifa190_3 : FaOk Q 190 3 18 := ⟨fun b o s => by kernel_rfl⟩
instance ifa190_7 : FaOk Q 190 7 23 := ⟨fun b o s => by kernel_rfl⟩
instance ifa190_0 : FaOk Q 190 0 0 := ⟨fun b o s => by kernel_rfl⟩
instance ifa190_4 : FaOk Q 190 4 19 := ⟨fun b o s => by kernel_rfl⟩
instance ifa190_1 : FaOk Q 190 1 13 := ⟨fun b o s => by kernel_rfl⟩
instance ifa187_1 : FaOk Q 187 1 1 := ⟨fun b o s => by kernel_rfl⟩
instance ifa190_6 : FaOk Q 190 6 21 := ⟨fun b o s => by kernel_rfl⟩
instance ifa187_2 : FaOk Q 187 2 2 := ⟨fun b o s => by kernel_rfl⟩
instance ifa187_0 : FaOk Q 187 0 0 := ⟨fun b o s => by kernel_rfl⟩
instance ifa190_8 : FaOk Q 190 8 24 := ⟨fun b o s => by kernel_rfl⟩
instance ifa190_9 : FaOk Q 190 9 25 := ⟨fun b o s => by kernel_rfl⟩
instance ifa46_1 : FaOk Q 46 1 1 := ⟨fun b o s => by kernel_rfl⟩
instance ifa187_3 : FaOk Q 187 3 3 := ⟨fun b o s => by kernel_rfl⟩
instance ist185 : StOk Q 185 1 := ⟨fun b o s v G => by kernel_rfl⟩
instance ild185 : LdOk Q 185 := ⟨fun b o s G => (show _ = loadOne b o G by kernel_rfl).trans (loadOne_eq b o G)⟩
instance iep184 : EpOk Q 184 := ⟨fun neg x y => by cases neg <;> kernel_rfl, fun neg x y a => by cases neg <;> kernel_rfl, fun neg x y a => by cases neg <;> kernel_rfl⟩
instance ifa384_7 : FaOk Q 384 7 22 := ⟨fun b o s => by kernel_rfl⟩
instance ifa381_1 : FaOk Q 381 1 1 := ⟨fun b o s => by kernel_rfl⟩
instance ifa381_2 : FaOk Q 381 2 2 := ⟨fun b o s => by kernel_rfl⟩
instance ifa384_6 : FaOk Q 384 6 21 := ⟨fun b o s => by kernel_rfl⟩
instance ifa384_4 : FaOk Q 384 4 19 := ⟨fun b o s => by kernel_rfl⟩
instance ifa384_1 : FaOk Q 384 1 13 := ⟨fun b o s => by kernel_rfl⟩
noncomputable abbrev z419 : List Value := [.nilFunc, (.bool false), (.int .i64 0), (.int .i64 0), (.int .i64 0), (.int .i64 0), (.int .i64 0), (.int .i64 0), (.int .i64 0), (.int .i64 0), (.int .i64 0), (.int .i64 0), (.int .i64 0), (.int .i64 0), (.pointer none)]
instance ibd419_0_1_2 : BdOk Q 419 z419 [(0, 0, 3), (1, 3, 10), (2, 13, 1)] := bd_ok Q (by kernel_rfl) (by kernel_rfl) (by kernel_rfl)
instance ifa419_0 : FaOk Q 419 0 0 := ⟨fun b o s => by kernel_rfl⟩
instance iep185 : EpOk Q 185 := ⟨fun neg x y => by cases neg <;> kernel_rfl, fun neg x y a => by cases neg <;> kernel_rfl, fun neg x y a => by cases neg <;> kernel_rfl⟩
instance ifa419_1 : FaOk Q 419 1 3 := ⟨fun b o s => by kernel_rfl⟩
instance icv38_248 : CvOk Q 38 248 .u64 .i64 := ⟨fun n => by kernel_rfl⟩
instance ifa419_2 : FaOk Q 419 2 13 := ⟨fun b o s => by kernel_rfl⟩
instance ifa419_3 : FaOk Q 419 3 14 := ⟨fun b o s => by kernel_rfl⟩
instance ist391 : StOk Q 391 1 := ⟨fun b o s v G => by kernel_rfl⟩
instance ild343 : LdOk Q 343 := ⟨fun b o s G => (show _ = loadOne b o G by kernel_rfl).trans (loadOne_eq b o G)⟩
instance ief343 : EfOk Q 343 := ⟨fun neg x y => by cases neg <;> kernel_rfl, fun neg x y f a b => by cases neg <;> kernel_rfl⟩
instance ifa164_4 : FaOk Q 164 4 4 := ⟨fun b o s => by kernel_rfl⟩
instance ifa164_0 : FaOk Q 164 0 0 := ⟨fun b o s => by kernel_rfl⟩
instance ild160 : LdOk Q 160 := ⟨fun b o s G => (show _ = loadOne b o G by kernel_rfl).trans (loadOne_eq b o G)⟩
instance ifa164_3 : FaOk Q 164 3 3 := ⟨fun b o s => by kernel_rfl⟩
instance ist158 : StOk Q 158 1 := ⟨fun b o s v G => by kernel_rfl⟩
instance ild158 : LdOk Q 158 := ⟨fun b o s G => (show _ = loadOne b o G by kernel_rfl).trans (loadOne_eq b o G)⟩
instance iifc158 : IfcOk Q 158 := ⟨fun v => by kernel_rfl⟩
instance ifa164_1 : FaOk Q 164 1 1 := ⟨fun b o s => by kernel_rfl⟩
instance ild162 : LdOk Q 162 := ⟨fun b o s G => (show _ = loadOne b o G by kernel_rfl).trans (loadOne_eq b o G)⟩
instance ief162 : EfOk Q 162 := ⟨fun neg x y => by cases neg <;> kernel_rfl, fun neg x y f a b => by cases neg <;> kernel_rfl⟩
instance ifa164_2 : FaOk Q 164 2 2 := ⟨fun b o s => by kernel_rfl⟩
instance ild161 : LdOk Q 161 := ⟨fun b o s G => (show _ = loadOne b o G by kernel_rfl).trans (loadOne_eq b o G)⟩
instance ief161 : EfOk Q 161 := ⟨fun neg x y => by cases neg <;> kernel_rfl, fun neg x y f a b => by cases neg <;> kernel_rfl⟩
instance ifa172_4 : FaOk Q 172 4 4 := ⟨fun b o s => by kernel_rfl⟩
instance ifa172_0 : FaOk Q 172 0 0 := ⟨fun b o s => by kernel_rfl⟩
instance ild168 : LdOk Q 168 := ⟨fun b o s G => (show _ = loadOne b o G by kernel_rfl).trans (loadOne_eq b o G)⟩
instance ifa172_3 : FaOk Q 172 3 3 := ⟨fun b o s => by kernel_rfl⟩
instance ist166 : StOk Q 166 1 := ⟨fun b o s v G => by kernel_rfl⟩
instance ild166 : LdOk Q 166 := ⟨fun b o s G => (show _ = loadOne b o G by kernel_rfl).trans (loadOne_eq b o G)⟩
instance iifc166 : IfcOk Q 166 := ⟨fun v => by kernel_rfl⟩
instance ifa172_1 : FaOk Q 172 1 1 := ⟨fun b o s => by kernel_rfl⟩
instance ild170 : LdOk Q 170 := ⟨fun b o s G => (show _ = loadOne b o G by kernel_rfl).trans (loadOne_eq b o G)⟩
instance ief170 : EfOk Q 170 := ⟨fun neg x y => by cases neg <;> kernel_rfl, fun neg x y f a b => by cases neg <;> kernel_rfl⟩
instance ifa172_2 : FaOk Q 172 2 2 := ⟨fun b o s => by kernel_rfl⟩
instance ild169 : LdOk Q 169 := ⟨fun b o s G => (show _ = loadOne b o G by kernel_rfl).trans (loadOne_eq b o G)⟩
instance ief169 : EfOk Q 169 := ⟨fun neg x y => by cases neg <;> kernel_rfl, fun neg x y f a b => by cases neg <;> kernel_rfl⟩
instance ifa201_4 : FaOk Q 201 4 4 := ⟨fun b o s => by kernel_rfl⟩
instance ifa201_0 : FaOk Q 201 0 0 := ⟨fun b o s => by kernel_rfl⟩
instance ild197 : LdOk Q 197 := ⟨fun b o s G => (show _ = loadOne b o G by kernel_rfl).trans (loadOne_eq b o G)⟩
instance ifa201_3 : FaOk Q 201 3 3 := ⟨fun b o s => by kernel_rfl⟩
instance ist195 : StOk Q 195 1 := ⟨fun b o s v G => by kernel_rfl⟩
instance ild195 : LdOk Q 195 := ⟨fun b o s G => (show _ = loadOne b o G by kernel_rfl).trans (loadOne_eq b o G)⟩
instance iifc195 : IfcOk Q 195 := ⟨fun v => by kernel_rfl⟩
instance ifa201_1 : FaOk Q 201 1 1 := ⟨fun b o s => by kernel_rfl⟩
instance ild198 : LdOk Q 198 := ⟨fun b o s G => (show _ = loadOne b o G by kernel_rfl).trans (loadOne_eq b o G)⟩
instance ief198 : EfOk Q 198 := ⟨fun neg x y => by cases neg <;> kernel_rfl, fun neg x y f a b => by cases neg <;> kernel_rfl⟩
instance ifa201_2 : FaOk Q 201 2 2 := ⟨fun b o s => by kernel_rfl⟩
instance ild199 : LdOk Q 199 := ⟨fun b o s G => (show _ = loadOne b o G by kernel_rfl).trans (loadOne_eq b o G)⟩
instance ief199 : EfOk Q 199 := ⟨fun neg x y => by cases neg <;> kernel_rfl, fun neg x y f a b => by cases neg <;> kernel_rfl⟩
instance iep195 : EpOk Q 195 := ⟨fun neg x y => by cases neg <;> kernel_rfl, fun neg x y a => by cases neg <;> kernel_rfl, fun neg x y a => by cases neg <;> kernel_rfl⟩
instance ifa220_4 : FaOk Q 220 4 4 := ⟨fun b o s => by kernel_rfl⟩
instance ifa220_0 : FaOk Q 220 0 0 := ⟨fun b o s => by kernel_rfl⟩
instance ild216 : LdOk Q 216 := ⟨fun b o s G => (show _ = loadOne b o G by kernel_rfl).trans (loadOne_eq b o G)⟩
instance ifa220_3 : FaOk Q 220 3 3 := ⟨fun b o s => by kernel_rfl⟩
instance ist214 : StOk Q 214 1 := ⟨fun b o s v G => by kernel_rfl⟩
instance ild214 : LdOk Q 214 := ⟨fun b o s G => (show _ = loadOne b o G by kernel_rfl).trans (loadOne_eq b o G)⟩
instance iifc214 : IfcOk Q 214 := ⟨fun v => by kernel_rfl⟩
instance ifa220_1 : FaOk Q 220 1 1 := ⟨fun b o s => by kernel_rfl⟩
instance ild217 : LdOk Q 217 := ⟨fun b o s G => (show _ = loadOne b o G by kernel_rfl).trans (loadOne_eq b o G)⟩
instance ief217 : EfOk Q 217 := ⟨fun neg x y => by cases neg <;> kernel_rfl, fun neg x y f a b => by cases neg <;> kernel_rfl⟩
instance ifa220_2 : FaOk Q 220 2 2 := ⟨fun b o s => by kernel_rfl⟩
instance ild218 : LdOk Q 218 := ⟨fun b o s G => (show _ = loadOne b o G by kernel_rfl).trans (loadOne_eq b o G)⟩
instance ief218 : EfOk Q 218 := ⟨fun neg x y => by cases neg <;> kernel_rfl, fun neg x y f a b => by cases neg <;> kernel_rfl⟩
instance ifa280_0 : FaOk Q 280 0 0 := ⟨fun b o s => by kernel_rfl⟩
instance ifa280_3 : FaOk Q 280 3 14 := ⟨fun b o s => by kernel_rfl⟩
instance ifa280_4 : FaOk Q 280 4 15 := ⟨fun b o s => by kernel_rfl⟩
instance ifa280_5 : FaOk Q 280 5 16 := ⟨fun b o s => by kernel_rfl⟩
instance ifa297_4 : FaOk Q 297 4 4 := ⟨fun b o s => by kernel_rfl⟩
instance ifa297_0 : FaOk Q 297 0 0 := ⟨fun b o s => by kernel_rfl⟩
instance ild293 : LdOk Q 293 := ⟨fun b o s G => (show _ = loadOne b o G by kernel_rfl).trans (loadOne_eq b o G)⟩
instance ifa297_3 : FaOk Q 297 3 3 := ⟨fun b o s => by kernel_rfl⟩
instance ist291 : StOk Q 291 1 := ⟨fun b o s v G => by kernel_rfl⟩
instance ild291 : LdOk Q 291 := ⟨fun b o s G => (show _ = loadOne b o G by kernel_rfl).trans (loadOne_eq b o G)⟩
instance iifc291 : IfcOk Q 291 := ⟨fun v => by kernel_rfl⟩
instance ifa297_1 : FaOk Q 297 1 1 := ⟨fun b o s => by kernel_rfl⟩
instance ild294 : LdOk Q 294 := ⟨fun b o s G => (show _ = loadOne b o G by kernel_rfl).trans (loadOne_eq b o G)⟩
instance ief294 : EfOk Q 294 := ⟨fun neg x y => by cases neg <;> kernel_rfl, fun neg x y f a b => by cases neg <;> kernel_rfl⟩
instance ifa297_2 : FaOk Q 297 2 2 := ⟨fun b o s => by kernel_rfl⟩
instance ild295 : LdOk Q 295 := ⟨fun b o s G => (show _ = loadOne b o G by kernel_rfl).trans (loadOne_eq b o G)⟩
instance ief295 : EfOk Q 295 := ⟨fun neg x y => by cases neg <;> kernel_rfl, fun neg x y f a b => by cases neg <;> kernel_rfl⟩
instance ilda333 : LdAOk Q 333 4 := ⟨fun b o s G => by kernel_rfl⟩
instance iix333 : IxOk Q 333 4 := ⟨fun l k j => by kernel_rfl⟩
instance ifa335_0 : FaOk Q 335 0 0 := ⟨fun b o s => by kernel_rfl⟩
instance ifa305_4 : FaOk Q 305 4 4 := ⟨fun b o s => by kernel_rfl⟩
instance ifa305_0 : FaOk Q 305 0 0 := ⟨fun b o s => by kernel_rfl⟩
instance ild301 : LdOk Q 301 := ⟨fun b o s G => (show _ = loadOne b o G by kernel_rfl).trans (loadOne_eq b o G)⟩
instance ifa305_3 : FaOk Q 305 3 3 := ⟨fun b o s => by kernel_rfl⟩
instance ist299 : StOk Q 299 1 := ⟨fun b o s v G => by kernel_rfl⟩
instance ild299 : LdOk Q 299 := ⟨fun b o s G => (show _ = loadOne b o G by kernel_rfl).trans (loadOne_eq b o G)⟩
instance iifc299 : IfcOk Q 299 := ⟨fun v => by kernel_rfl⟩
instance ifa305_1 : FaOk Q 305 1 1 := ⟨fun b o s => by kernel_rfl⟩
instance ild302 : LdOk Q 302 := ⟨fun b o s G => (show _ = loadOne b o G by kernel_rfl).trans (loadOne_eq b o G)⟩
instance ief302 : EfOk Q 302 := ⟨fun neg x y => by cases neg <;> kernel_rfl, fun neg x y f a b => by cases neg <;> kernel_rfl⟩
instance ifa305_2 : FaOk Q 305 2 2 := ⟨fun b o s => by kernel_rfl⟩
instance ild303 : LdOk Q 303 := ⟨fun b o s G => (show _ = loadOne b o G by kernel_rfl).trans (loadOne_eq b o G)⟩
instance ief303 : EfOk Q 303 := ⟨fun neg x y => by cases neg <;> kernel_rfl, fun neg x y f a b => by cases neg <;> kernel_rfl⟩
instance ild338 : LdOk Q 338 := ⟨fun b o s G => (show _ = loadOne b o G by kernel_rfl).trans (loadOne_eq b o G)⟩
noncomputable abbrev z423 : List Value := [.nilFunc, .nilFunc, .nilFunc, .nilFunc, .nilFunc, .nilFunc, .nilFunc, .nilFunc, .nilFunc, .nilFunc, .nilFunc, .nilFunc, .nilFunc]
instance ial423 : AlOk Q 423 z423 := ⟨fun G => by kernel_rfl⟩
instance ist423 : StOk Q 423 13 := ⟨fun b o s v G => by kernel_rfl⟩
instance iiaa423 : IaaOk Q 423 13 1 := ⟨fun b o s k j => by kernel_rfl⟩
instance ild422 : LdOk Q 422 := ⟨fun b o s G => (show _ = loadOne b o G by kernel_rfl).trans (loadOne_eq b o G)⟩
instance ibd423_1_2_3_4_5_6_7_8_9_10_11_12 : BdOk Q 423 z423 [(1, 1, 1), (2, 2, 1), (3, 3, 1), (4, 4, 1), (5, 5, 1), (6, 6, 1), (7, 7, 1), (8, 8, 1), (9, 9, 1), (10, 10, 1), (11, 11, 1), (12, 12, 1)] := bd_ok Q (by kernel_rfl) (by kernel_rfl) (by kernel_rfl)
instance ilda423 : LdAOk Q 423 13 := ⟨fun b o s G => by kernel_rfl⟩
instance ifa340_8 : FaOk Q 340 8 20 := ⟨fun b o s => by kernel_rfl⟩
instance ifa340_3 : FaOk Q 340 3 15 := ⟨fun b o s => by kernel_rfl⟩
instance ifa340_6 : FaOk Q 340 6 18 := ⟨fun b o s => by kernel_rfl⟩
instance ifa340_2 : FaOk Q 340 2 14 := ⟨fun b o s => by kernel_rfl⟩
instance ifa340_9 : FaOk Q 340 9 21 := ⟨fun b o s => by kernel_rfl⟩
instance ifa340_11 : FaOk Q 340 11 23 := ⟨fun b o s => by kernel_rfl⟩
instance iln382 : LnOk Q 382 := ⟨fun a n c => by kernel_rfl⟩
instance iap139_139 : ApOk Q 139 139 1 8 := ⟨fun s x G => by kernel_rfl⟩
instance ifa313_4 : FaOk Q 313 4 4 := ⟨fun b o s => by kernel_rfl⟩
instance ifa313_0 : FaOk Q 313 0 0 := ⟨fun b o s => by kernel_rfl⟩
instance ild310 : LdOk Q 310 := ⟨fun b o s G => (show _ = loadOne b o G by kernel_rfl).trans (loadOne_eq b o G)⟩
instance ifa313_3 : FaOk Q 313 3 3 := ⟨fun b o s => by kernel_rfl⟩
instance ist308 : StOk Q 308 1 := ⟨fun b o s v G => by kernel_rfl⟩
instance ild308 : LdOk Q 308 := ⟨fun b o s G => (show _ = loadOne b o G by kernel_rfl).trans (loadOne_eq b o G)⟩
instance iifc308 : IfcOk Q 308 := ⟨fun v => by kernel_rfl⟩
instance ifa313_1 : FaOk Q 313 1 1 := ⟨fun b o s => by kernel_rfl⟩
instance ild311 : LdOk Q 311 := ⟨fun b o s G => (show _ = loadOne b o G by kernel_rfl).trans (loadOne_eq b o G)⟩
instance ief311 : EfOk Q 311 := ⟨fun neg x y => by cases neg <;> kernel_rfl, fun neg x y f a b => by cases neg <;> kernel_rfl⟩
instance ifa313_2 : FaOk Q 313 2 2 := ⟨fun b o s => by kernel_rfl⟩
instance ild306 : LdOk Q 306 := ⟨fun b o s G => (show _ = loadOne b o G by kernel_rfl).trans (loadOne_eq b o G)⟩
instance ief306 : EfOk Q 306 := ⟨fun neg x y => by cases neg <;> kernel_rfl, fun neg x y f a b => by cases neg <;> kernel_rfl⟩
instance iep308 : EpOk Q 308 := ⟨fun neg x y => by cases neg <;> kernel_rfl, fun neg x y a => by cases neg <;> kernel_rfl, fun neg x y a => by cases neg <;> kernel_rfl⟩
/-- coxswain/coxswainlaw26.RunKnown -/
noncomputable def s5 (q : Bool) (e : Ex) (G : GS) : Option (Value × GS) :=
  bS (e.ev.cl 31 [] G) fun x0 G1 =>
  bP (ep Q q false 22 (.tmp 16) (.const (.pointer none)) x0 (.pointer none)) fun x2 =>
  bS (gd x2 false (bS (e.ev.cl 33 [] G1) fun y G => some (y, G)) G1) fun x3 G4 =>
  bS (gd x2 false (some (x0, G4)) G4) fun x5 G6 =>
  bS (gd x2 false (bS (e.ev.cl 32 [x3, x5, (.int .u64 9), (.int .i64 5), (.int .i64 1)] G6) fun y G => some (y, G)) G6) fun x7 G8 =>
  bS (gd x2 false (bP (un Q q .not x7) fun y => some (y, G8)) G8) fun x9 G10 =>
  bP (pickV x2 (.bool true) x9) fun x11 =>
  ifV x11 (
  some ((.bool false), G10)) (
  bS (e.ev.cl 29 [x0, (.int .i64 34), (.int .u64 4)] G10) fun x12 G13 =>
  bS (e.ev.cl 29 [x0, (.int .i64 35), (.int .u64 11)] G13) fun x14 G15 =>
  bS (e.ev.cl 34 [x0, (.int .i64 0), (.int .i64 11), (.int .i64 1)] G15) fun x16 G17 =>
  bS (gd x16 true (bS (e.ev.cl 36 [] G17) fun y G => some (y, G)) G17) fun x18 G19 =>
  bS (gd x16 true (some (x0, G19)) G19) fun x20 G21 =>
  bS (gd x16 true (bS (bs Q q 139 1 (rep z3 1) 1 [(0, 0, 1)] [(.int .i64 1)] G21) fun y G => some (y, G)) G21) fun x22 G23 =>
  bS (gd x16 true (bS (e.ev.cl 35 [x18, x20, x22] G23) fun y G => some (y, G)) G23) fun x24 G25 =>
  bP (pickV x16 x24 (.bool false)) fun x26 =>
  bS (e.ev.cl 29 [x0, (.int .i64 35), (.int .u64 9)] G25) fun x27 G28 =>
  bS (e.ev.cl 29 [x0, (.int .i64 37), (.int .u64 0)] G28) fun x29 G30 =>
  bS (gd x26 true (some (x0, G30)) G30) fun x31 G32 =>
  bS (gd x26 true (bS (e.ev.cl 34 [x31, (.int .i64 0), (.int .i64 10), (.int .i64 (-1))] G32) fun y G => some (y, G)) G32) fun x33 G34 =>
  bP (pickV x26 x33 (.bool false)) fun x35 =>
  bS (gd x35 true (bS (e.ev.cl 36 [] G34) fun y G => some (y, G)) G34) fun x36 G37 =>
  bS (gd x35 true (some (x0, G37)) G37) fun x38 G39 =>
  bS (gd x35 true (bS (e.ev.cl 35 [x36, x38, (.slice none 0 0)] G39) fun y G => some (y, G)) G39) fun x40 G41 =>
  bP (pickV x35 x40 (.bool false)) fun x42 =>
  bS (bs Q q 90 3 (rep z38 3) 1 [(0, 0, 1), (1, 1, 1), (2, 2, 1)] [(.int .u64 5), (.int .u64 8), (.int .u64 8)] G41) fun x43 G44 =>
  bS (e.ev.cl 37 [x43, (.int .u64 7)] G44) fun x45 G46 =>
  bP (pExtract x45 0) fun x47 =>
  bP (pExtract x45 1) fun x48 =>
  bS (bs Q q 90 3 (rep z38 3) 1 [(0, 0, 1), (1, 1, 1), (2, 2, 1)] [(.int .u64 5), (.int .u64 8), (.int .u64 8)] G46) fun x49 G50 =>
  bS (e.ev.cl 37 [x49, (.int .u64 8)] G50) fun x51 G52 =>
  bP (pExtract x51 0) fun x53 =>
  bP (pExtract x51 1) fun x54 =>
  bS (e.ev.cl 37 [(.slice none 0 0), (.int .u64 0)] G52) fun x55 G56 =>
  bP (pExtract x55 0) fun x57 =>
  bP (pExtract x55 1) fun x58 =>
  bS (bs Q q 90 5 (rep z38 5) 1 [(0, 0, 1), (1, 1, 1), (2, 2, 1), (3, 3, 1), (4, 4, 1)] [(.int .u64 7), (.int .u64 18446744073709551615), (.int .u64 3), (.int .u64 5), (.int .u64 3)] G56) fun x59 G60 =>
  bP (bn Q q .eql 3 (.tmp 65) (.const (.int .i64 1)) x47 (.int .i64 1)) fun x61 =>
  bS (gd x61 true (some (x48, G60)) G60) fun x62 G63 =>
  bP (pickV x61 x62 (.bool false)) fun x64 =>
  bS (gd x64 true (some (x53, G63)) G63) fun x65 G66 =>
  bS (gd x64 true (bP (bn Q q .eql 3 (.tmp 71) (.const (.int .i64 (-1))) x65 (.int .i64 (-1))) fun y => some (y, G66)) G66) fun x67 G68 =>
  bP (pickV x64 x67 (.bool false)) fun x69 =>
  bS (gd x69 true (some (x54, G68)) G68) fun x70 G71 =>
  bS (gd x69 true (bP (un Q q .not x70) fun y => some (y, G71)) G71) fun x72 G73 =>
  bP (pickV x69 x72 (.bool false)) fun x74 =>
  bS (gd x74 true (some (x57, G73)) G73) fun x75 G76 =>
  bS (gd x74 true (bP (bn Q q .eql 3 (.tmp 79) (.const (.int .i64 (-1))) x75 (.int .i64 (-1))) fun y => some (y, G76)) G76) fun x77 G78 =>
  bP (pickV x74 x77 (.bool false)) fun x79 =>
  bS (gd x79 true (some (x58, G78)) G78) fun x80 G81 =>
  bS (gd x79 true (bP (un Q q .not x80) fun y => some (y, G81)) G81) fun x82 G83 =>
  bP (pickV x79 x82 (.bool false)) fun x84 =>
  bS (gd x84 true (some (x59, G83)) G83) fun x85 G86 =>
  bS (gd x84 true (bS (e.ev.cl 39 [x85, (.int .i64 2)] G86) fun y G => some (y, G)) G86) fun x87 G88 =>
  bS (gd x84 true (bS (bs Q q 90 2 (rep z38 2) 1 [(0, 0, 1), (1, 1, 1)] [(.int .u64 3), (.int .u64 3)] G88) fun y G => some (y, G)) G88) fun x89 G90 =>
  bS (gd x84 true (bS (e.ev.cl 38 [x87, x89] G90) fun y G => some (y, G)) G90) fun x91 G92 =>
  bP (pickV x84 x91 (.bool false)) fun x93 =>
  bS (gd x93 true (some (x59, G92)) G92) fun x94 G95 =>
  bS (gd x93 true (bS (e.ev.cl 39 [x94, (.int .i64 9)] G95) fun y G => some (y, G)) G95) fun x96 G97 =>
  bS (gd x93 true (bS (bs Q q 90 4 (rep z38 4) 1 [(0, 0, 1), (1, 1, 1), (2, 2, 1), (3, 3, 1)] [(.int .u64 3), (.int .u64 3), (.int .u64 5), (.int .u64 7)] G97) fun y G => some (y, G)) G97) fun x98 G99 =>
  bS (gd x93 true (bS (e.ev.cl 38 [x96, x98] G99) fun y G => some (y, G)) G99) fun x100 G101 =>
  bP (pickV x93 x100 (.bool false)) fun x102 =>
  bS (gd x102 true (some (x59, G101)) G101) fun x103 G104 =>
  bS (gd x102 true (bS (e.ev.cl 39 [x103, (.int .i64 0)] G104) fun y G => some (y, G)) G104) fun x105 G106 =>
  bS (gd x102 true (bP (ln Q q 90 x105) fun y => some (y, G106)) G106) fun x107 G108 =>
  bS (gd x102 true (bP (bn Q q .eql 3 (.tmp 101) (.const (.int .i64 0)) x107 (.int .i64 0)) fun y => some (y, G108)) G108) fun x109 G110 =>
  bP (pickV x102 x109 (.bool false)) fun x111 =>
  bS (e.ev.cl 36 [] G110) fun x112 G113 =>
  bS (e.ev.cl 36 [] G113) fun x114 G115 =>
  bS (e.ev.cl 36 [] G115) fun x116 G117 =>
  bS (al Q q 86 z86 G117) fun x118 G119 =>
  bS (al Q q 86 z86 G119) fun x120 G121 =>
  bS (al Q q 86 z86 G121) fun x122 G123 =>
  bP (st Q q 86 3 x118 x112 G123) fun G124 =>
  bP (st Q q 86 3 x120 x114 G124) fun G125 =>
  bP (st Q q 86 3 x122 x116 G125) fun G126 =>
  bP (fa Q q 86 2 2 x118) fun x127 =>
  bP (st Q q 3 1 x127 (.int .i64 0) G126) fun G128 =>
  bP (fa Q q 86 1 1 x120) fun x129 =>
  bP (st Q q 3 1 x129 (.int .i64 35) G128) fun G130 =>
  bP (fa Q q 86 2 2 x122) fun x131 =>
  bP (st Q q 3 1 x131 (.int .i64 65) G130) fun G132 =>
  bS (e.ev.cl 33 [] (G132.room 33)) fun x134 G133 =>
  bS (e.ev.cl 36 [] G133) fun x136 G135 =>
  bS (e.ev.cl 40 [x134, x136, (.int .i64 2)] G135) fun x138 G137 =>
  bS (e.ev.cl 41 [x138] G137) fun x140 G139 =>
  bP (bn Q q .eql 23 (.tmp 113) (.const (.int .i64 3)) x140 (.int .i64 3)) fun x141 =>
  bS (gd x141 true (bS (e.ev.cl 33 [] G139) fun y G => some (y, G)) G139) fun x143 G142 =>
  bS (gd x141 true (bP (lda Q q 86 3 x118 G142) fun y => some (y, G142)) G142) fun x144 _ =>
  chk (((!(gB x141 true) || (!(gB x141 true) || sameO (lda Q q 86 3 x118 G139) x144)) && true)) <|
  bS (gd x141 true (bS (e.ev.cl 40 [x143, x144, (.int .i64 0)] G142) fun y G => some (y, G)) G142) fun x146 G145 =>
  bS (gd x141 true (bS (e.ev.cl 41 [x146] G145) fun y G => some (y, G)) G145) fun x148 G147 =>
  bS (gd x141 true (bP (bn Q q .eql 23 (.tmp 119) (.const (.int .i64 2)) x148 (.int .i64 2)) fun y => some (y, G147)) G147) fun x149 _ =>
  bP (pickV x141 x149 (.bool false)) fun x150 =>
  bS (gd x150 true (bS (e.ev.cl 36 [] G147) fun y G => some (y, G)) G147) fun x152 G151 =>
  bS (gd x150 true (bS (e.ev.cl 42 [x152, (.int .i64 37)] G151) fun y G => some (y, G)) G151) fun x154 G153 =>
  bS (gd x150 true (bP (bn Q q .eql 23 (.tmp 124) (.const (.int .i64 2)) x154 (.int .i64 2)) fun y => some (y, G153)) G153) fun x155 _ =>
  bP (pickV x150 x155 (.bool false)) fun x156 =>
  bS (gd x156 true (bP (lda Q q 86 3 x120 G153) fun y => some (y, G153)) G153) fun x157 _ =>
  bS (gd x156 true (bS (e.ev.cl 42 [x157, (.int .i64 40)] G153) fun y G => some (y, G)) G153) fun x159 G158 =>
  bS (gd x156 true (bP (bn Q q .eql 23 (.tmp 129) (.const (.int .i64 2)) x159 (.int .i64 2)) fun y => some (y, G158)) G158) fun x160 _ =>
  bP (pickV x156 x160 (.bool false)) fun x161 =>
  bS (gd x161 true (bP (lda Q q 86 3 x122 G158) fun y => some (y, G158)) G158) fun x162 _ =>
  bS (gd x161 true (bS (e.ev.cl 42 [x162, (.int .i64 4000)] G158) fun y G => some (y, G)) G158) fun x164 G163 =>
  bS (gd x161 true (bP (bn Q q .eql 23 (.tmp 134) (.const (.int .i64 2)) x164 (.int .i64 2)) fun y => some (y, G163)) G163) fun x165 _ =>
  bP (pickV x161 x165 (.bool false)) fun x166 =>
  bS (gd x166 true (bS (e.ev.cl 36 [] G163) fun y G => some (y, G)) G163) fun x168 G167 =>
  bS (gd x166 true (bS (e.ev.cl 42 [x168, (.int .i64 0)] G167) fun y G => some (y, G)) G167) fun x170 G169 =>
  bS (gd x166 true (bP (bn Q q .eql 23 (.tmp 139) (.const (.int .i64 3)) x170 (.int .i64 3)) fun y => some (y, G169)) G169) fun x171 _ =>
  bP (pickV x166 x171 (.bool false)) fun x172 =>
  bS (e.ev.cl 43 [] G169) fun x173 G174 =>
  bS (gd x173 true (some (x42, G174)) G174) fun x175 G176 =>
  bP (pickV x173 x175 (.bool false)) fun x177 =>
  bS (gd x177 true (some (x111, G176)) G176) fun x178 G179 =>
  bP (pickV x177 x178 (.bool false)) fun x180 =>
  bS (gd x180 true (some (x172, G179)) G179) fun x181 G182 =>
  bP (pickV x180 x181 (.bool false)) fun x183 =>
  some (x183, G182))
theorem m5 {e : Ex} {E : Ev} (h : ExLe Q e E) (G : GS) : Ref (s5 true e  G) (s5 false (Ex.of E)  G) := by
  unfold s5
  exact Ref.go
set_option maxHeartbeats 8000000 in
theorem f5 {orc : FuncId → Bool} {e : Ex} (h : ExLe Q e (E orc)) (ho : orc 5 = false) (G : GS) : Ref (s5 true e  G) ((E orc).cl 5 [] G) :=
  fun r hr => cl_sxE_some Q orc (vs := []) G Tryz.func5 (by kernel_rfl) (by kernel_rfl) ho (by kernel_rfl) (by kernel_rfl) (by kernel_rfl) (m5 h  G r hr)
/-- coxswain/cells.New -/
noncomputable def s6 (q : Bool) (e : Ex) (v0 : Value) (G : GS) : Option (Value × GS) :=
  bP (bn Q q .lss 3 (.tmp 4) (.const (.int .i64 1)) v0 (.int .i64 1)) fun x0 =>
  bS (gd x0 false (some (v0, G)) G) fun x1 G2 =>
  bS (gd x0 false (bP (bn Q q .gtr 3 (.tmp 7) (.const (.int .i64 4096)) x1 (.int .i64 4096)) fun y => some (y, G2)) G2) fun x3 G4 =>
  bP (pickV x0 (.bool true) x3) fun x5 =>
  ifV x5 (
  some (.tuple #[(.pointer none), (.int .i64 3)], G4)) (
  bS (al Q q 99 z99 G4) fun x6 G7 =>
  bP (bd Q q 103 z103 [(0, 0, 1), (1, 1, 1)] [x6, v0]) fun x8 =>
  bS (bx q x8 G7) fun x9 G10 =>
  some (.tuple #[x9, (.int .i64 0)], G10))
theorem m6 {e : Ex} {E : Ev} (h : ExLe Q e E) (v0 : Value) (G : GS) : Ref (s6 true e v0 G) (s6 false (Ex.of E) v0 G) := by
  unfold s6
  exact Ref.go
theorem f6 {orc : FuncId → Bool} {e : Ex} (h : ExLe Q e (E orc)) (v0 : Value) (G : GS) : Ref (s6 true e v0 G) ((E orc).cl 6 [v0] G) :=
  fun r hr => cl_sxE_some Q orc (vs := [v0]) G Tryz.func6 (by kernel_rfl) (by kernel_rfl) (by kernel_rfl) (by kernel_rfl) (by kernel_rfl) (by kernel_rfl) (m6 h v0 G r hr)
/-- (*coxswain/ready.Look).Item -/
noncomputable def s8 (q : Bool) (e : Ex) (v0 : Value) (G : GS) : Option (Value × GS) :=
  bS (al Q q 46 z46 G) fun x0 G1 =>
  bP (ep Q q false 52 (.tmp 4) (.const (.pointer none)) v0 (.pointer none)) fun x2 =>
  ifV x2 (
  bP (bd Q q 46 z46 [] []) fun x3 =>
  bP (st Q q 46 2 x0 x3 G1) fun G4 =>
  bP (lda Q q 46 2 x0 G4) fun x5 =>
  some (.tuple #[x5, (.int .i64 1)], G4)) (
  bP (pNil v0) fun x6 =>
  bP (fa Q q 53 1 19 x6) fun x7 =>
  bP (lda Q q 48 3 x7 (G1.room 12)) fun x8 =>
  bP (pNil v0) fun x9 =>
  bP (fa Q q 53 0 0 x9) fun x10 =>
  bS (e.ev.cl 44 [x8, x10] (G1.room 12)) fun x12 G11 =>
  bP (pExtract x12 0) fun x13 =>
  bP (pExtract x12 1) fun x14 =>
  bP (st Q q 46 2 x0 x13 G11) fun G15 =>
  bP (lda Q q 46 2 x0 G15) fun x16 =>
  some (.tuple #[x16, x14], G15))
theorem m8 {e : Ex} {E : Ev} (h : ExLe Q e E) (v0 : Value) (G : GS) : Ref (s8 true e v0 G) (s8 false (Ex.of E) v0 G) := by
  unfold s8
  exact Ref.go
theorem f8 {orc : FuncId → Bool} {e : Ex} (h : ExLe Q e (E orc)) (v0 : Value) (G : GS) : Ref (s8 true e v0 G) ((E orc).cl 8 [v0] G) :=
  fun r hr => cl_sxE_some Q orc (vs := [v0]) G Tryz.func8 (by kernel_rfl) (by kernel_rfl) (by kernel_rfl) (by kernel_rfl) (by kernel_rfl) (by kernel_rfl) (m8 h v0 G r hr)
/-- (*coxswain/ready.Put).Step -/
noncomputable def s10 (q : Bool) (e : Ex) (v0 v1 : Value) (G : GS) : Option (Value × GS) :=
  bP (ep Q q false 26 (.tmp 5) (.const (.pointer none)) v0 (.pointer none)) fun x0 =>
  bS (gd x0 false (some (v0, G)) G) fun x1 G2 =>
  bS (gd x0 false (bP (pNil x1) fun y => some (y, G2)) G2) fun x3 G4 =>
  bS (gd x0 false (bP (fa Q q 42 0 0 x3) fun y => some (y, G4)) G4) fun x5 G6 =>
  bS (gd x0 false (some (v1, G6)) G6) fun x7 G8 =>
  bS (gd x0 false (bS (e.ev.cl 46 [x5, x7] G8) fun y G => some (y, G)) G8) fun x9 G10 =>
  bP (pickV x0 (.bool true) x9) fun x11 =>
  some (x11, G10)
theorem m10 {e : Ex} {E : Ev} (h : ExLe Q e E) (v0 v1 : Value) (G : GS) : Ref (s10 true e v0 v1 G) (s10 false (Ex.of E) v0 v1 G) := by
  unfold s10
  exact Ref.go
theorem f10 {orc : FuncId → Bool} {e : Ex} (h : ExLe Q e (E orc)) (v0 v1 : Value) (G : GS) : Ref (s10 true e v0 v1 G) ((E orc).cl 10 [v0, v1] G) :=
  fun r hr => cl_sxE_some Q orc (vs := [v0, v1]) G Tryz.func10 (by kernel_rfl) (by kernel_rfl) (by kernel_rfl) (by kernel_rfl) (by kernel_rfl) (by kernel_rfl) (m10 h v0 v1 G r hr)
/-- (*coxswain/ready.Pick).Step -/
noncomputable def s11 (q : Bool) (e : Ex) (v0 v1 : Value) (G : GS) : Option (Value × GS) :=
  bP (ep Q q false 44 (.tmp 5) (.const (.pointer none)) v0 (.pointer none)) fun x0 =>
  bS (gd x0 false (some (v0, G)) G) fun x1 G2 =>
  bS (gd x0 false (bP (pNil x1) fun y => some (y, G2)) G2) fun x3 G4 =>
  bS (gd x0 false (bP (fa Q q 50 0 0 x3) fun y => some (y, G4)) G4) fun x5 G6 =>
  bS (gd x0 false (some (v1, G6)) G6) fun x7 G8 =>
  bS (gd x0 false (bS (e.ev.cl 46 [x5, x7] G8) fun y G => some (y, G)) G8) fun x9 G10 =>
  bP (pickV x0 (.bool true) x9) fun x11 =>
  some (x11, G10)
theorem m11 {e : Ex} {E : Ev} (h : ExLe Q e E) (v0 v1 : Value) (G : GS) : Ref (s11 true e v0 v1 G) (s11 false (Ex.of E) v0 v1 G) := by
  unfold s11
  exact Ref.go
theorem f11 {orc : FuncId → Bool} {e : Ex} (h : ExLe Q e (E orc)) (v0 v1 : Value) (G : GS) : Ref (s11 true e v0 v1 G) ((E orc).cl 11 [v0, v1] G) :=
  fun r hr => cl_sxE_some Q orc (vs := [v0, v1]) G Tryz.func11 (by kernel_rfl) (by kernel_rfl) (by kernel_rfl) (by kernel_rfl) (by kernel_rfl) (by kernel_rfl) (m11 h v0 v1 G r hr)
/-- (*coxswain/ready.Look).Step -/
noncomputable def s12 (q : Bool) (e : Ex) (v0 v1 : Value) (G : GS) : Option (Value × GS) :=
  bP (ep Q q false 52 (.tmp 5) (.const (.pointer none)) v0 (.pointer none)) fun x0 =>
  bS (gd x0 false (some (v0, G)) G) fun x1 G2 =>
  bS (gd x0 false (bP (pNil x1) fun y => some (y, G2)) G2) fun x3 G4 =>
  bS (gd x0 false (bP (fa Q q 53 0 0 x3) fun y => some (y, G4)) G4) fun x5 G6 =>
  bS (gd x0 false (some (v1, G6)) G6) fun x7 G8 =>
  bS (gd x0 false (bS (e.ev.cl 46 [x5, x7] G8) fun y G => some (y, G)) G8) fun x9 G10 =>
  bP (pickV x0 (.bool true) x9) fun x11 =>
  some (x11, G10)
theorem m12 {e : Ex} {E : Ev} (h : ExLe Q e E) (v0 v1 : Value) (G : GS) : Ref (s12 true e v0 v1 G) (s12 false (Ex.of E) v0 v1 G) := by
  unfold s12
  exact Ref.go
theorem f12 {orc : FuncId → Bool} {e : Ex} (h : ExLe Q e (E orc)) (v0 v1 : Value) (G : GS) : Ref (s12 true e v0 v1 G) ((E orc).cl 12 [v0, v1] G) :=
  fun r hr => cl_sxE_some Q orc (vs := [v0, v1]) G Tryz.func12 (by kernel_rfl) (by kernel_rfl) (by kernel_rfl) (by kernel_rfl) (by kernel_rfl) (by kernel_rfl) (m12 h v0 v1 G r hr)
/-- (*coxswain/ready.Tidy).Step -/
noncomputable def s13 (q : Bool) (e : Ex) (v0 v1 : Value) (G : GS) : Option (Value × GS) :=
  bP (ep Q q false 55 (.tmp 5) (.const (.pointer none)) v0 (.pointer none)) fun x0 =>
  bS (gd x0 false (some (v0, G)) G) fun x1 G2 =>
  bS (gd x0 false (bP (pNil x1) fun y => some (y, G2)) G2) fun x3 G4 =>
  bS (gd x0 false (bP (fa Q q 57 0 0 x3) fun y => some (y, G4)) G4) fun x5 G6 =>
  bS (gd x0 false (some (v1, G6)) G6) fun x7 G8 =>
  bS (gd x0 false (bS (e.ev.cl 46 [x5, x7] G8) fun y G => some (y, G)) G8) fun x9 G10 =>
  bP (pickV x0 (.bool true) x9) fun x11 =>
  some (x11, G10)
theorem m13 {e : Ex} {E : Ev} (h : ExLe Q e E) (v0 v1 : Value) (G : GS) : Ref (s13 true e v0 v1 G) (s13 false (Ex.of E) v0 v1 G) := by
  unfold s13
  exact Ref.go
theorem f13 {orc : FuncId → Bool} {e : Ex} (h : ExLe Q e (E orc)) (v0 v1 : Value) (G : GS) : Ref (s13 true e v0 v1 G) ((E orc).cl 13 [v0, v1] G) :=
  fun r hr => cl_sxE_some Q orc (vs := [v0, v1]) G Tryz.func13 (by kernel_rfl) (by kernel_rfl) (by kernel_rfl) (by kernel_rfl) (by kernel_rfl) (by kernel_rfl) (m13 h v0 v1 G r hr)
/-- (*coxswain/ready.Put).Err -/
noncomputable def s14 (q : Bool) (e : Ex) (v0 : Value) (G : GS) : Option (Value × GS) :=
  bP (ep Q q false 26 (.tmp 3) (.const (.pointer none)) v0 (.pointer none)) fun x0 =>
  ifV x0 (
  some ((.int .i64 1), G)) (
  bP (pNil v0) fun x1 =>
  bP (fa Q q 42 0 0 x1) fun x2 =>
  bS (e.ev.cl 45 [x2] G) fun x3 G4 =>
  some (x3, G4))
theorem m14 {e : Ex} {E : Ev} (h : ExLe Q e E) (v0 : Value) (G : GS) : Ref (s14 true e v0 G) (s14 false (Ex.of E) v0 G) := by
  unfold s14
  exact Ref.go
theorem f14 {orc : FuncId → Bool} {e : Ex} (h : ExLe Q e (E orc)) (v0 : Value) (G : GS) : Ref (s14 true e v0 G) ((E orc).cl 14 [v0] G) :=
  fun r hr => cl_sxE_some Q orc (vs := [v0]) G Tryz.func14 (by kernel_rfl) (by kernel_rfl) (by kernel_rfl) (by kernel_rfl) (by kernel_rfl) (by kernel_rfl) (m14 h v0 G r hr)
/-- coxswain/ready.NewPut -/
noncomputable def s15 (q : Bool) (e : Ex) (v0 v1 v2 v3 v4 : Value) (G : GS) : Option (Value × GS) :=
  bS (bx q v0 G) fun x0 G1 =>
  bP (lda Q q 36 13 x0 G1) fun x2 =>
  bS (e.ev.cl 47 [x2, v1] G1) fun x3 G4 =>
  bP (bd Q q 42 z42 [(0, 0, 19), (1, 19, 1), (2, 20, 1), (3, 21, 1)] [x3, v2, v3, v4]) fun x5 =>
  bS (bx q x5 G4) fun x6 G7 =>
  bP (pNil x6) fun x8 =>
  bP (fa Q q 42 0 0 x8) fun x9 =>
  bP (fa Q q 40 6 18 x9) fun x10 =>
  bP (ld Q q 23 x10 G7) fun x11 =>
  bP (bn Q q .eql 23 (.tmp 24) (.const (.int .i64 0)) x11 (.int .i64 0)) fun x12 =>
  bS (gd x12 true (some (v2, G7)) G7) fun x13 G14 =>
  bS (gd x12 true (bP (bn Q q .eql 38 (.tmp 27) (.const (.int .u64 18446744073709551615)) x13 (.int .u64 18446744073709551615)) fun y => some (y, G14)) G14) fun x15 G16 =>
  bS (gd x12 true (some (x15, G16)) G16) fun x17 G18 =>
  bS (gd x17 false (some (v3, G18)) G18) fun x19 G20 =>
  bS (gd x17 false (bP (bn Q q .lss 3 (.tmp 30) (.const (.int .i64 0)) x19 (.int .i64 0)) fun y => some (y, G20)) G20) fun x21 G22 =>
  bS (gd x12 true (bP (pickV x17 (.bool true) x21) fun y => some (y, G22)) G22) fun x23 G24 =>
  bS (gd x12 true (some (x23, G24)) G24) fun x25 G26 =>
  bS (gd x25 false (some (v3, G26)) G26) fun x27 G28 =>
  bS (gd x25 false (bP (bn Q q .gtr 3 (.tmp 34) (.const (.int .i64 65534)) x27 (.int .i64 65534)) fun y => some (y, G28)) G28) fun x29 G30 =>
  bS (gd x12 true (bP (pickV x25 (.bool true) x29) fun y => some (y, G30)) G30) fun x31 G32 =>
  bS (gd x12 true (some (x31, G32)) G32) fun x33 G34 =>
  bS (gd x33 false (some (v4, G34)) G34) fun x35 G36 =>
  bS (gd x33 false (bP (bn Q q .lss 3 (.tmp 38) (.const (.int .i64 1)) x35 (.int .i64 1)) fun y => some (y, G36)) G36) fun x37 G38 =>
  bS (gd x12 true (bP (pickV x33 (.bool true) x37) fun y => some (y, G38)) G38) fun x39 G40 =>
  bS (gd x12 true (some (x39, G40)) G40) fun x41 G42 =>
  bS (gd x41 false (some (v4, G42)) G42) fun x43 G44 =>
  bS (gd x41 false (bP (fa Q q 36 2 2 x0) fun y => some (y, G44)) G44) fun x45 G46 =>
  bS (gd x41 false (bP (ld Q q 3 x45 G46) fun y => some (y, G46)) G46) fun x47 G48 =>
  bS (gd x41 false (bP (bn Q q .gtr 3 (.tmp 42) (.tmp 44) x43 x47) fun y => some (y, G48)) G48) fun x49 G50 =>
  bS (gd x12 true (bP (pickV x41 (.bool true) x49) fun y => some (y, G50)) G50) fun x51 G52 =>
  bP (pickV x12 x51 (.bool false)) fun x53 =>
  ifV x53 (
  bP (pNil x6) fun x54 =>
  bP (fa Q q 42 0 0 x54) fun x55 =>
  bP (fa Q q 40 6 18 x55) fun x56 =>
  bP (st Q q 23 1 x56 (.int .i64 3) G52) fun G57 =>
  bP (pNil x6) fun x58 =>
  bP (fa Q q 42 0 0 x58) fun x59 =>
  bP (fa Q q 40 6 18 x59) fun x60 =>
  bP (ld Q q 23 x60 G57) fun x61 =>
  bP (bn Q q .eql 23 (.tmp 56) (.const (.int .i64 0)) x61 (.int .i64 0)) fun x62 =>
  ifV x62 (
  bP (pNil x6) fun x63 =>
  bP (fa Q q 42 0 0 x63) fun x64 =>
  bS (e.ev.cl 48 [x64] G57) fun x65 G66 =>
  bS (e.ev.cl 49 [x6] G66) fun x67 G68 =>
  bS (bs Q q 37 2 (rep z108 2) 1 [(0, 0, 1), (1, 1, 1)] [x65, x67] G68) fun x69 G70 =>
  bP (pNil x6) fun x71 =>
  bP (fa Q q 42 0 0 x71) fun x72 =>
  bP (fa Q q 40 4 16 x72) fun x73 =>
  bP (st Q q 37 1 x73 x69 G70) fun G74 =>
  some (x6, G74)) (
  some (x6, G57))) (
  bP (pNil x6) fun x75 =>
  bP (fa Q q 42 0 0 x75) fun x76 =>
  bP (fa Q q 40 6 18 x76) fun x77 =>
  bP (ld Q q 23 x77 G52) fun x78 =>
  bP (bn Q q .eql 23 (.tmp 56) (.const (.int .i64 0)) x78 (.int .i64 0)) fun x79 =>
  ifV x79 (
  bP (pNil x6) fun x80 =>
  bP (fa Q q 42 0 0 x80) fun x81 =>
  bS (e.ev.cl 48 [x81] G52) fun x82 G83 =>
  bS (e.ev.cl 49 [x6] G83) fun x84 G85 =>
  bS (bs Q q 37 2 (rep z108 2) 1 [(0, 0, 1), (1, 1, 1)] [x82, x84] G85) fun x86 G87 =>
  bP (pNil x6) fun x88 =>
  bP (fa Q q 42 0 0 x88) fun x89 =>
  bP (fa Q q 40 4 16 x89) fun x90 =>
  bP (st Q q 37 1 x90 x86 G87) fun G91 =>
  some (x6, G91)) (
  some (x6, G52)))
theorem m15 {e : Ex} {E : Ev} (h : ExLe Q e E) (v0 v1 v2 v3 v4 : Value) (G : GS) : Ref (s15 true e v0 v1 v2 v3 v4 G) (s15 false (Ex.of E) v0 v1 v2 v3 v4 G) := by
  unfold s15
  exact Ref.go
theorem f15 {orc : FuncId → Bool} {e : Ex} (h : ExLe Q e (E orc)) (v0 v1 v2 v3 v4 : Value) (G : GS) : Ref (s15 true e v0 v1 v2 v3 v4 G) ((E orc).cl 15 [v0, v1, v2, v3, v4] G) :=
  fun r hr => cl_sxE_some Q orc (vs := [v0, v1, v2, v3, v4]) G Tryz.func15 (by kernel_rfl) (by kernel_rfl) (by kernel_rfl) (by kernel_rfl) (by kernel_rfl) (by kernel_rfl) (m15 h v0 v1 v2 v3 v4 G r hr)
/-- (*coxswain/cells.Mem).Store -/
noncomputable def s29 (q : Bool) (e : Ex) (v0 v1 v2 : Value) (G : GS) : Option (Value × GS) :=
  bS (e.ev.cl 72 [v0, v1] G) fun x0 G1 =>
  bP (bd Q q 135 z135 [(0, 0, 1), (1, 1, 1)] [x0, v2]) fun x2 =>
  bS (al Q q 135 z135 G1) fun x3 G4 =>
  bP (st Q q 135 3 x3 x2 G4) fun G5 =>
  bP (fa Q q 135 0 0 x3) fun x6 =>
  bP (ld Q q 132 x6 G5) fun x7 =>
  bP (lda Q q 135 3 x3 G5) fun x8 =>
  bS (e.ev.cl 73 [v0, (.int .i64 2), v1, x7, (.func (.func 74) #[x8] #[])] G5) fun x9 G10 =>
  some (.tuple #[], G10)
theorem m29 {e : Ex} {E : Ev} (h : ExLe Q e E) (v0 v1 v2 : Value) (G : GS) : Ref (s29 true e v0 v1 v2 G) (s29 false (Ex.of E) v0 v1 v2 G) := by
  unfold s29
  exact Ref.go
theorem f29 {orc : FuncId → Bool} {e : Ex} (h : ExLe Q e (E orc)) (v0 v1 v2 : Value) (G : GS) : Ref (s29 true e v0 v1 v2 G) ((E orc).cl 29 [v0, v1, v2] G) :=
  fun r hr => cl_sxE_some Q orc (vs := [v0, v1, v2]) G Tryz.func29 (by kernel_rfl) (by kernel_rfl) (by kernel_rfl) (by kernel_rfl) (by kernel_rfl) (by kernel_rfl) (m29 h v0 v1 v2 G r hr)
/-- coxswain/coxswainlaw26.filled -/
noncomputable def s31 (q : Bool) (e : Ex) (G : GS) : Option (Value × GS) :=
  bS (e.ev.cl 6 [(.int .i64 40)] G) fun x0 G1 =>
  bP (pExtract x0 0) fun x2 =>
  bP (pExtract x0 1) fun x3 =>
  bP (bn Q q .neq 23 (.tmp 7) (.const (.int .i64 0)) x3 (.int .i64 0)) fun x4 =>
  bS (gd x4 false (some (x2, G1)) G1) fun x5 G6 =>
  bS (gd x4 false (bP (ep Q q false 22 (.tmp 10) (.const (.pointer none)) x5 (.pointer none)) fun y => some (y, G6)) G6) fun x7 G8 =>
  bP (pickV x4 (.bool true) x7) fun x9 =>
  ifV x9 (
  some ((.pointer none), G8)) (
  bS (e.ev.cl 33 [] G8) fun x10 G11 =>
  bS (e.ev.cl 53 [x10, x2] G11) fun x12 G13 =>
  bS (e.ev.cl 36 [] G13) fun x14 G15 =>
  bS (e.ev.cl 75 [x14, x2] G15) fun x16 G17 =>
  some (x2, G17))
theorem m31 {e : Ex} {E : Ev} (h : ExLe Q e E) (G : GS) : Ref (s31 true e  G) (s31 false (Ex.of E)  G) := by
  unfold s31
  exact Ref.go
theorem f31 {orc : FuncId → Bool} {e : Ex} (h : ExLe Q e (E orc)) (ho : orc 31 = false) (G : GS) : Ref (s31 true e  G) ((E orc).cl 31 [] G) :=
  fun r hr => cl_sxE_some Q orc (vs := []) G Tryz.func31 (by kernel_rfl) (by kernel_rfl) ho (by kernel_rfl) (by kernel_rfl) (by kernel_rfl) (m31 h  G r hr)
noncomputable def b32_0 (q : Bool) (e : Ex) (lp : Env → GS → Option (Exit × Env × GS)) (τ : Env) (G : GS) : Option (Exit × Env × GS) :=
  bV q (τ 1) fun a1_ =>
  bV q (τ 11) fun a11_ =>
  bV q (τ 12) fun a12_ =>
  bP (bn Q q .lss 3 (.tmp 18) (.const (.int .i64 400)) a12_ (.int .i64 400)) fun x0 =>
  bS (gd x0 true (some (a11_, G)) G) fun x1 G2 =>
  bS (gd x0 true (some (a1_, G2)) G2) fun x3 G4 =>
  bS (gd x0 true (bS (e.ev.cl 10 [x1, x3] G4) fun y G => some (y, G)) G4) fun x5 G6 =>
  bS (gd x0 true (bP (un Q q .not x5) fun y => some (y, G6)) G6) fun x7 G8 =>
  bP (pickV x0 x7 (.bool false)) fun x9 =>
  ifV x9 (
  bS (e.ev.cl 14 [a11_] G8) fun x10 G11 =>
  bP (bn Q q .neq 23 (.tmp 29) (.const (.int .i64 14)) x10 (.int .i64 14)) fun x12 =>
  ifV x12 (
  some (.ret, clq q 34 (tu τ [(1, a1_), (11, a11_), (12, a12_), (10, (.bool false)), (18, a12_), (19, x0), (20, x0), (21, x1), (22, x3), (23, x5), (24, x7), (25, x9), (28, a11_), (29, x10), (30, x12)]), G11)) (
  bP (bn Q q .add 3 (.tmp 26) (.const (.int .i64 1)) a12_ (.int .i64 1)) fun x13 =>
  lp (tu τ [(1, a1_), (11, a11_), (12, x13), (18, a12_), (19, x0), (20, x0), (21, x1), (22, x3), (23, x5), (24, x7), (25, x9), (26, a12_), (27, x13), (28, a11_), (29, x10), (30, x12)]) G11)) (
  some ((.exit 0), clq q 34 (tu τ [(1, a1_), (11, a11_), (12, a12_), (18, a12_), (19, x0), (20, x0), (21, x1), (22, x3), (23, x5), (24, x7), (25, x9)]), G8))
theorem mb32_0 {e : Ex} {E : Ev} (h : ExLe Q e E) {lp lp' : Env → GS → Option (Exit × Env × GS)} (hlp : LpLe lp lp') (τ : Env) (G : GS) : Ref (b32_0 true e lp τ G) (b32_0 false (Ex.of E) lp' τ G) := by
  unfold b32_0
  exact Ref.go
theorem l32_0 {orc : FuncId → Bool} {e : Ex} (h : ExLe Q e (E orc)) (lp : Env → GS → Option (Exit × Env × GS)) (hlp : ∀ τ G, Ref (lp τ G) (mapE ((E orc).lp (subAt [1, 1, 0, 1, 0, 0] (bodyOf Tryz.f32)) (lst 34 τ) G))) (T : List Value) (G : GS) (hT : T.length = 34) : Ref (b32_0 true e lp (nth undef T) G) (mapE ((E orc).lp (subAt [1, 1, 0, 1, 0, 0] (bodyOf Tryz.f32)) T G)) :=
  fun r hr => lp_sxM Q orc G hT (by kernel_rfl) (mb32_0 h ⟨hlp⟩ _ _ r hr)
/-- coxswain/coxswainlaw26.puts -/
noncomputable def s32 (q : Bool) (e : Ex) (v0 v1 v2 v3 v4 : Value) (G : GS) : Option (Value × GS) :=
  bS (bx q v0 G) fun x0 G1 =>
  bP (lda Q q 36 13 x0 G1) fun x2 =>
  bS (e.ev.cl 15 [x2, (.int .i64 0), v2, v3, v4] G1) fun x3 G4 =>
  bL q e 32 0 (subAt [1, 1, 0, 1, 0, 0] (bodyOf Tryz.f32)) 34 (tu (nth undef [v0, v1, v2, v3, v4]) [(5, x0), (10, (.bool false)), (11, x3), (12, (.int .i64 0)), (13, x2), (14, v2), (15, v3), (16, v4), (17, x3)]) G4 fun e5 t6 G7 =>
  bV q (t6 10) fun t6x10_ =>
  bV q (t6 11) fun t6x11_ =>
  ifE e5 (.exit 0) (
  bS (e.ev.cl 14 [t6x11_] G7) fun x8 G9 =>
  bP (bn Q q .eql 23 (.tmp 32) (.const (.int .i64 0)) x8 (.int .i64 0)) fun x10 =>
  some (x10, G9)) (ifE e5 .ret (
  some (t6x10_, G7)) (none))
theorem m32 {e : Ex} {E : Ev} (h : ExLe Q e E) (v0 v1 v2 v3 v4 : Value) (G : GS) : Ref (s32 true e v0 v1 v2 v3 v4 G) (s32 false (Ex.of E) v0 v1 v2 v3 v4 G) := by
  unfold s32
  exact Ref.go
theorem f32 {orc : FuncId → Bool} {e : Ex} (h : ExLe Q e (E orc)) (v0 v1 v2 v3 v4 : Value) (G : GS) : Ref (s32 true e v0 v1 v2 v3 v4 G) ((E orc).cl 32 [v0, v1, v2, v3, v4] G) :=
  fun r hr => cl_sxE_some Q orc (vs := [v0, v1, v2, v3, v4]) G Tryz.func32 (by kernel_rfl) (by kernel_rfl) (by kernel_rfl) (by kernel_rfl) (by kernel_rfl) (by kernel_rfl) (m32 h v0 v1 v2 v3 v4 G r hr)
/-- coxswain/coxswainlaw26.chapter -/
noncomputable def s33 (q : Bool) (e : Ex) (G : GS) : Option (Value × GS) :=
  bS (al Q q 36 z36 G) fun x0 G1 =>
  bP (bd Q q 28 z28 [(0, 0, 1), (1, 1, 1), (2, 2, 1)] [(.int .i64 0), (.int .i64 1), (.int .i64 3)]) fun x2 =>
  bP (bd Q q 30 z30 [(0, 0, 3), (1, 3, 1), (2, 4, 1), (3, 5, 1)] [x2, (.int .i64 4), (.int .i64 7), (.int .i64 9)]) fun x3 =>
  bS (al Q q 30 z30 G1) fun x4 G5 =>
  bP (st Q q 30 6 x4 x3 G5) fun G6 =>
  bP (lda Q q 30 6 x4 G6) fun x7 =>
  bP (bd Q q 32 z32 [(0, 0, 1), (1, 1, 1), (2, 2, 1)] [(.int .i64 8), (.int .i64 9), (.int .i64 2)]) fun x8 =>
  bP (bd Q q 34 z34 [(0, 0, 6), (1, 6, 3), (2, 9, 1)] [x7, x8, (.int .i64 11)]) fun x9 =>
  bS (al Q q 34 z34 G6) fun x10 G11 =>
  bP (st Q q 34 10 x10 x9 G11) fun G12 =>
  bP (lda Q q 34 10 x10 G12) fun x13 =>
  bP (bd Q q 36 z36 [(0, 0, 1), (1, 1, 1), (2, 2, 1), (3, 3, 10)] [(.int .i64 16), (.int .i64 14), (.int .i64 2), x13]) fun x14 =>
  bP (st Q q 36 13 x0 x14 G12) fun G15 =>
  bP (lda Q q 36 13 x0 G15) fun x16 =>
  some (x16, G15)
theorem m33 {e : Ex} {E : Ev} (h : ExLe Q e E) (G : GS) : Ref (s33 true e  G) (s33 false (Ex.of E)  G) := by
  unfold s33
  exact Ref.go
theorem f33 {orc : FuncId → Bool} {e : Ex} (h : ExLe Q e (E orc)) (ho : orc 33 = false) (G : GS) : Ref (s33 true e  G) ((E orc).cl 33 [] G) :=
  fun r hr => cl_sxE_some Q orc (vs := []) G Tryz.func33 (by kernel_rfl) (by kernel_rfl) ho (by kernel_rfl) (by kernel_rfl) (by kernel_rfl) (m33 h  G r hr)
noncomputable def b34_0 (q : Bool) (e : Ex) (lp : Env → GS → Option (Exit × Env × GS)) (τ : Env) (G : GS) : Option (Exit × Env × GS) :=
  bV q (τ 0) fun a0_ =>
  bV q (τ 2) fun a2_ =>
  bV q (τ 9) fun a9_ =>
  bV q (τ 10) fun a10_ =>
  bP (bn Q q .lss 3 (.tmp 15) (.tmp 16) a10_ a2_) fun x0 =>
  ifV x0 (
  bS (e.ev.cl 76 [a9_, a0_] G) fun x1 G2 =>
  bS (gd x1 false (some (a9_, G2)) G2) fun x3 G4 =>
  bS (gd x1 false (bS (e.ev.cl 41 [x3] G4) fun y G => some (y, G)) G4) fun x5 G6 =>
  bS (gd x1 false (bP (bn Q q .neq 23 (.tmp 25) (.const (.int .i64 14)) x5 (.int .i64 14)) fun y => some (y, G6)) G6) fun x7 G8 =>
  bP (pickV x1 (.bool true) x7) fun x9 =>
  bS (gd x9 false (some (a9_, G8)) G8) fun x10 G11 =>
  bS (gd x9 false (bS (e.ev.cl 77 [x10] G11) fun y G => some (y, G)) G11) fun x12 G13 =>
  bS (gd x9 false (bP (bn Q q .neq 3 (.tmp 30) (.const (.int .i64 (-1))) x12 (.int .i64 (-1))) fun y => some (y, G13)) G13) fun x14 G15 =>
  bP (pickV x9 (.bool true) x14) fun x16 =>
  ifV x16 (
  some (.ret, clq q 47 (tu τ [(0, a0_), (2, a2_), (9, a9_), (10, a10_), (8, (.bool false)), (15, a10_), (16, a2_), (17, x0), (20, a9_), (21, a0_), (22, x1), (23, x1), (24, x3), (25, x5), (26, x7), (27, x9), (28, x9), (29, x10), (30, x12), (31, x14), (32, x16)]), G15)) (
  bP (bn Q q .add 3 (.tmp 18) (.const (.int .i64 1)) a10_ (.int .i64 1)) fun x17 =>
  lp (tu τ [(0, a0_), (2, a2_), (9, a9_), (10, x17), (15, a10_), (16, a2_), (17, x0), (18, a10_), (19, x17), (20, a9_), (21, a0_), (22, x1), (23, x1), (24, x3), (25, x5), (26, x7), (27, x9), (28, x9), (29, x10), (30, x12), (31, x14), (32, x16)]) G15)) (
  some ((.exit 0), clq q 47 (tu τ [(0, a0_), (2, a2_), (9, a9_), (10, a10_), (15, a10_), (16, a2_), (17, x0)]), G))
theorem mb34_0 {e : Ex} {E : Ev} (h : ExLe Q e E) {lp lp' : Env → GS → Option (Exit × Env × GS)} (hlp : LpLe lp lp') (τ : Env) (G : GS) : Ref (b34_0 true e lp τ G) (b34_0 false (Ex.of E) lp' τ G) := by
  unfold b34_0
  exact Ref.go
theorem l34_0 {orc : FuncId → Bool} {e : Ex} (h : ExLe Q e (E orc)) (lp : Env → GS → Option (Exit × Env × GS)) (hlp : ∀ τ G, Ref (lp τ G) (mapE ((E orc).lp (subAt [1, 1, 0, 1, 0, 0] (bodyOf Tryz.f34)) (lst 47 τ) G))) (T : List Value) (G : GS) (hT : T.length = 47) : Ref (b34_0 true e lp (nth undef T) G) (mapE ((E orc).lp (subAt [1, 1, 0, 1, 0, 0] (bodyOf Tryz.f34)) T G)) :=
  fun r hr => lp_sxM Q orc G hT (by kernel_rfl) (mb34_0 h ⟨hlp⟩ _ _ r hr)
/-- coxswain/coxswainlaw26.balances -/
noncomputable def s34 (q : Bool) (e : Ex) (v0 v1 v2 v3 : Value) (G : GS) : Option (Value × GS) :=
  bS (e.ev.cl 33 [] G) fun x0 G1 =>
  bS (e.ev.cl 36 [] G1) fun x2 G3 =>
  bS (e.ev.cl 40 [x0, x2, v1] G3) fun x4 G5 =>
  bL q e 34 0 (subAt [1, 1, 0, 1, 0, 0] (bodyOf Tryz.f34)) 47 (tu (nth undef [v0, v1, v2, v3]) [(8, (.bool false)), (9, x4), (10, (.int .i64 1)), (11, x0), (12, x2), (13, v1), (14, x4)]) G5 fun e6 t7 G8 =>
  bV q (t7 0) fun t7x0_ =>
  bV q (t7 3) fun t7x3_ =>
  bV q (t7 8) fun t7x8_ =>
  bV q (t7 9) fun t7x9_ =>
  ifE e6 (.exit 0) (
  bS (e.ev.cl 76 [t7x9_, t7x0_] G8) fun x9 G10 =>
  bS (gd x9 true (some (t7x9_, G10)) G10) fun x11 G12 =>
  bS (gd x9 true (bS (e.ev.cl 41 [x11] G12) fun y G => some (y, G)) G12) fun x13 G14 =>
  bS (gd x9 true (bP (bn Q q .eql 23 (.tmp 38) (.const (.int .i64 0)) x13 (.int .i64 0)) fun y => some (y, G14)) G14) fun x15 G16 =>
  bP (pickV x9 x15 (.bool false)) fun x17 =>
  bS (gd x17 true (some (t7x9_, G16)) G16) fun x18 G19 =>
  bS (gd x17 true (bS (e.ev.cl 77 [x18] G19) fun y G => some (y, G)) G19) fun x20 G21 =>
  bS (gd x17 true (some (t7x3_, G21)) G21) fun x22 G23 =>
  bS (gd x17 true (bP (bn Q q .eql 3 (.tmp 43) (.tmp 44) x20 x22) fun y => some (y, G23)) G23) fun x24 G25 =>
  bP (pickV x17 x24 (.bool false)) fun x26 =>
  some (x26, G25)) (ifE e6 .ret (
  some (t7x8_, G8)) (none))
theorem m34 {e : Ex} {E : Ev} (h : ExLe Q e E) (v0 v1 v2 v3 : Value) (G : GS) : Ref (s34 true e v0 v1 v2 v3 G) (s34 false (Ex.of E) v0 v1 v2 v3 G) := by
  unfold s34
  exact Ref.go
theorem f34 {orc : FuncId → Bool} {e : Ex} (h : ExLe Q e (E orc)) (v0 v1 v2 v3 : Value) (G : GS) : Ref (s34 true e v0 v1 v2 v3 G) ((E orc).cl 34 [v0, v1, v2, v3] G) :=
  fun r hr => cl_sxE_some Q orc (vs := [v0, v1, v2, v3]) G Tryz.func34 (by kernel_rfl) (by kernel_rfl) (by kernel_rfl) (by kernel_rfl) (by kernel_rfl) (by kernel_rfl) (m34 h v0 v1 v2 v3 G r hr)
noncomputable def b35_0 (q : Bool) (e : Ex) (lp : Env → GS → Option (Exit × Env × GS)) (τ : Env) (G : GS) : Option (Exit × Env × GS) :=
  bV q (τ 2) fun a2_ =>
  bV q (τ 7) fun a7_ =>
  bV q (τ 8) fun a8_ =>
  bV q (τ 9) fun a9_ =>
  bP (ln Q q 140 a7_) fun x0 =>
  bP (bn Q q .lss 3 (.tmp 13) (.tmp 15) a9_ x0) fun x1 =>
  ifV x1 (
  bP (ias Q q 140 1 a7_ a9_) fun x2 =>
  bP (ld Q q 4 x2 G) fun x3 =>
  ifV x3 (
  bP (bn Q q .add 3 (.tmp 23) (.const (.int .i64 1)) a8_ (.int .i64 1)) fun x4 =>
  bP (ias Q q 140 1 a7_ a9_) fun x5 =>
  bP (ld Q q 4 x5 (G.room 8)) fun x6 =>
  bS (e.ev.cl 79 [a2_, a9_] (G.room 8)) fun x8 G7 =>
  chk ((sameO (ld Q q 4 x5 G7) x6 && true)) <|
  bP (eb Q q true 4 (.tmp 28) (.tmp 31) x6 x8) fun x9 =>
  ifV x9 (
  some (.ret, clq q 44 (tu τ [(2, a2_), (7, a7_), (8, x4), (9, a9_), (6, (.bool false)), (13, a9_), (14, a7_), (15, x0), (16, x1), (19, a7_), (20, a9_), (21, x2), (22, x3), (23, a8_), (24, x4), (25, a7_), (26, a9_), (27, x5), (28, x6), (29, a2_), (30, a9_), (31, x8), (32, x9)]), G7)) (
  bP (bn Q q .add 3 (.tmp 17) (.const (.int .i64 1)) a9_ (.int .i64 1)) fun x10 =>
  lp (tu τ [(2, a2_), (7, a7_), (8, x4), (9, x10), (13, a9_), (14, a7_), (15, x0), (16, x1), (17, a9_), (18, x10), (19, a7_), (20, a9_), (21, x2), (22, x3), (23, a8_), (24, x4), (25, a7_), (26, a9_), (27, x5), (28, x6), (29, a2_), (30, a9_), (31, x8), (32, x9)]) G7)) (
  bP (ias Q q 140 1 a7_ a9_) fun x11 =>
  bP (ld Q q 4 x11 (G.room 8)) fun x12 =>
  bS (e.ev.cl 79 [a2_, a9_] (G.room 8)) fun x14 G13 =>
  chk ((sameO (ld Q q 4 x11 G13) x12 && true)) <|
  bP (eb Q q true 4 (.tmp 28) (.tmp 31) x12 x14) fun x15 =>
  ifV x15 (
  some (.ret, clq q 44 (tu τ [(2, a2_), (7, a7_), (8, a8_), (9, a9_), (6, (.bool false)), (13, a9_), (14, a7_), (15, x0), (16, x1), (19, a7_), (20, a9_), (21, x2), (22, x3), (25, a7_), (26, a9_), (27, x11), (28, x12), (29, a2_), (30, a9_), (31, x14), (32, x15)]), G13)) (
  bP (bn Q q .add 3 (.tmp 17) (.const (.int .i64 1)) a9_ (.int .i64 1)) fun x16 =>
  lp (tu τ [(2, a2_), (7, a7_), (8, a8_), (9, x16), (13, a9_), (14, a7_), (15, x0), (16, x1), (17, a9_), (18, x16), (19, a7_), (20, a9_), (21, x2), (22, x3), (25, a7_), (26, a9_), (27, x11), (28, x12), (29, a2_), (30, a9_), (31, x14), (32, x15)]) G13))) (
  some ((.exit 0), clq q 44 (tu τ [(2, a2_), (7, a7_), (8, a8_), (9, a9_), (13, a9_), (14, a7_), (15, x0), (16, x1)]), G))
theorem mb35_0 {e : Ex} {E : Ev} (h : ExLe Q e E) {lp lp' : Env → GS → Option (Exit × Env × GS)} (hlp : LpLe lp lp') (τ : Env) (G : GS) : Ref (b35_0 true e lp τ G) (b35_0 false (Ex.of E) lp' τ G) := by
  unfold b35_0
  exact Ref.go
theorem l35_0 {orc : FuncId → Bool} {e : Ex} (h : ExLe Q e (E orc)) (lp : Env → GS → Option (Exit × Env × GS)) (hlp : ∀ τ G, Ref (lp τ G) (mapE ((E orc).lp (subAt [1, 1, 1, 0, 1, 0, 0] (bodyOf Tryz.f35)) (lst 44 τ) G))) (T : List Value) (G : GS) (hT : T.length = 44) : Ref (b35_0 true e lp (nth undef T) G) (mapE ((E orc).lp (subAt [1, 1, 1, 0, 1, 0, 0] (bodyOf Tryz.f35)) T G)) :=
  fun r hr => lp_sxM Q orc G hT (by kernel_rfl) (mb35_0 h ⟨hlp⟩ _ _ r hr)
/-- coxswain/coxswainlaw26.flags -/
noncomputable def s35 (q : Bool) (e : Ex) (v0 v1 v2 : Value) (G : GS) : Option (Value × GS) :=
  bS (bx q v0 G) fun x0 G1 =>
  bP (lda Q q 86 3 x0 G1) fun x2 =>
  bS (e.ev.cl 78 [x2, v1] G1) fun x3 G4 =>
  bL q e 35 0 (subAt [1, 1, 1, 0, 1, 0, 0] (bodyOf Tryz.f35)) 44 (tu (nth undef [v0, v1, v2]) [(3, x0), (6, (.bool false)), (7, x3), (8, (.int .i64 0)), (9, (.int .i64 0)), (10, x2), (11, v1), (12, x3)]) G4 fun e5 t6 G7 =>
  bV q (t6 2) fun t6x2_ =>
  bV q (t6 3) fun t6x3_ =>
  bV q (t6 6) fun t6x6_ =>
  bV q (t6 7) fun t6x7_ =>
  bV q (t6 8) fun t6x8_ =>
  ifE e5 (.exit 0) (
  bP (ln Q q 140 t6x7_) fun x8 =>
  bP (fa Q q 86 2 2 t6x3_) fun x9 =>
  bP (ld Q q 3 x9 G7) fun x10 =>
  bP (bn Q q .eql 3 (.tmp 34) (.tmp 36) x8 x10) fun x11 =>
  bS (gd x11 true (some (t6x8_, G7)) G7) fun x12 G13 =>
  bS (gd x11 true (some (t6x2_, G13)) G13) fun x14 G15 =>
  bS (gd x11 true (bP (ln Q q 139 x14) fun y => some (y, G15)) G15) fun x16 G17 =>
  bS (gd x11 true (bP (bn Q q .eql 3 (.tmp 39) (.tmp 41) x12 x16) fun y => some (y, G17)) G17) fun x18 G19 =>
  bP (pickV x11 x18 (.bool false)) fun x20 =>
  some (x20, G19)) (ifE e5 .ret (
  some (t6x6_, G7)) (none))
theorem m35 {e : Ex} {E : Ev} (h : ExLe Q e E) (v0 v1 v2 : Value) (G : GS) : Ref (s35 true e v0 v1 v2 G) (s35 false (Ex.of E) v0 v1 v2 G) := by
  unfold s35
  exact Ref.go
theorem f35 {orc : FuncId → Bool} {e : Ex} (h : ExLe Q e (E orc)) (v0 v1 v2 : Value) (G : GS) : Ref (s35 true e v0 v1 v2 G) ((E orc).cl 35 [v0, v1, v2] G) :=
  fun r hr => cl_sxE_some Q orc (vs := [v0, v1, v2]) G Tryz.func35 (by kernel_rfl) (by kernel_rfl) (by kernel_rfl) (by kernel_rfl) (by kernel_rfl) (by kernel_rfl) (m35 h v0 v1 v2 G r hr)
/-- coxswain/coxswainlaw26.two -/
noncomputable def s36 (q : Bool) (e : Ex) (G : GS) : Option (Value × GS) :=
  bS (al Q q 86 z86 G) fun x0 G1 =>
  bP (bd Q q 86 z86 [(0, 0, 1), (1, 1, 1), (2, 2, 1)] [(.int .i64 34), (.int .i64 36), (.int .i64 2)]) fun x2 =>
  bP (st Q q 86 3 x0 x2 G1) fun G3 =>
  bP (lda Q q 86 3 x0 G3) fun x4 =>
  some (x4, G3)
theorem m36 {e : Ex} {E : Ev} (h : ExLe Q e E) (G : GS) : Ref (s36 true e  G) (s36 false (Ex.of E)  G) := by
  unfold s36
  exact Ref.go
theorem f36 {orc : FuncId → Bool} {e : Ex} (h : ExLe Q e (E orc)) (ho : orc 36 = false) (G : GS) : Ref (s36 true e  G) ((E orc).cl 36 [] G) :=
  fun r hr => cl_sxE_some Q orc (vs := []) G Tryz.func36 (by kernel_rfl) (by kernel_rfl) ho (by kernel_rfl) (by kernel_rfl) (by kernel_rfl) (m36 h  G r hr)
/-- coxswain/run.Worst -/
noncomputable def s37 (q : Bool) (e : Ex) (v0 v1 : Value) (G : GS) : Option (Value × GS) :=
  bS (e.ev.cl 80 [v0, (.func (.func 81) #[] #[])] G) fun x0 G1 =>
  bP (bn Q q .lss 3 (.tmp 9) (.const (.int .i64 0)) x0 (.int .i64 0)) fun x2 =>
  bS (gd x2 false (some (v0, G1)) G1) fun x3 G4 =>
  bS (gd x2 false (some (x0, G4)) G4) fun x5 G6 =>
  bS (gd x2 false (bP (ias Q q 90 1 x3 x5) fun y => some (y, G6)) G6) fun x7 G8 =>
  bS (gd x2 false (bP (ld Q q 38 x7 G8) fun y => some (y, G8)) G8) fun x9 G10 =>
  bS (gd x2 false (some (v1, G10)) G10) fun x11 G12 =>
  bS (gd x2 false (bP (bn Q q .leq 38 (.tmp 15) (.tmp 16) x9 x11) fun y => some (y, G12)) G12) fun x13 G14 =>
  bP (pickV x2 (.bool true) x13) fun x15 =>
  ifV x15 (
  some (.tuple #[(.int .i64 (-1)), (.bool false)], G14)) (
  some (.tuple #[x0, (.bool true)], G14))
theorem m37 {e : Ex} {E : Ev} (h : ExLe Q e E) (v0 v1 : Value) (G : GS) : Ref (s37 true e v0 v1 G) (s37 false (Ex.of E) v0 v1 G) := by
  unfold s37
  exact Ref.go
theorem f37 {orc : FuncId → Bool} {e : Ex} (h : ExLe Q e (E orc)) (v0 v1 : Value) (G : GS) : Ref (s37 true e v0 v1 G) ((E orc).cl 37 [v0, v1] G) :=
  fun r hr => cl_sxE_some Q orc (vs := [v0, v1]) G Tryz.func37 (by kernel_rfl) (by kernel_rfl) (by kernel_rfl) (by kernel_rfl) (by kernel_rfl) (by kernel_rfl) (m37 h v0 v1 G r hr)
noncomputable def b38_0 (q : Bool) (e : Ex) (lp : Env → GS → Option (Exit × Env × GS)) (τ : Env) (G : GS) : Option (Exit × Env × GS) :=
  bV q (τ 0) fun a0_ =>
  bV q (τ 1) fun a1_ =>
  bV q (τ 5) fun a5_ =>
  bV q (τ 6) fun a6_ =>
  bS (gd a5_ true (some (a6_, G)) G) fun x0 G1 =>
  bS (gd a5_ true (some (a0_, G1)) G1) fun x2 G3 =>
  bS (gd a5_ true (bP (ln Q q 90 x2) fun y => some (y, G3)) G3) fun x4 G5 =>
  bS (gd a5_ true (bP (bn Q q .lss 3 (.tmp 14) (.tmp 16) x0 x4) fun y => some (y, G5)) G5) fun x6 G7 =>
  bP (pickV a5_ x6 (.bool false)) fun x8 =>
  ifV x8 (
  bP (ias Q q 90 1 a0_ a6_) fun x9 =>
  bP (ld Q q 38 x9 (G7.room 10)) fun x10 =>
  bP (ias Q q 90 1 a1_ a6_) fun x11 =>
  bP (ld Q q 38 x11 (G7.room 10)) fun x12 =>
  bP (bn Q q .eql 38 (.tmp 24) (.tmp 28) x10 x12) fun x13 =>
  bP (bn Q q .add 3 (.tmp 19) (.const (.int .i64 1)) a6_ (.int .i64 1)) fun x14 =>
  lp (tu τ [(0, a0_), (1, a1_), (5, x13), (6, x14), (12, a5_), (13, a5_), (14, x0), (15, x2), (16, x4), (17, x6), (18, x8), (19, a6_), (20, x14), (21, a0_), (22, a6_), (23, x9), (24, x10), (25, a1_), (26, a6_), (27, x11), (28, x12), (29, x13)]) (G7.room 10)) (
  some ((.exit 0), clq q 31 (tu τ [(0, a0_), (1, a1_), (5, a5_), (6, a6_), (12, a5_), (13, a5_), (14, x0), (15, x2), (16, x4), (17, x6), (18, x8)]), G7))
theorem mb38_0 {e : Ex} {E : Ev} (h : ExLe Q e E) {lp lp' : Env → GS → Option (Exit × Env × GS)} (hlp : LpLe lp lp') (τ : Env) (G : GS) : Ref (b38_0 true e lp τ G) (b38_0 false (Ex.of E) lp' τ G) := by
  unfold b38_0
  exact Ref.go
theorem l38_0 {orc : FuncId → Bool} {e : Ex} (h : ExLe Q e (E orc)) (lp : Env → GS → Option (Exit × Env × GS)) (hlp : ∀ τ G, Ref (lp τ G) (mapE ((E orc).lp (subAt [1, 1, 0, 1, 0, 0] (bodyOf Tryz.f38)) (lst 31 τ) G))) (T : List Value) (G : GS) (hT : T.length = 31) : Ref (b38_0 true e lp (nth undef T) G) (mapE ((E orc).lp (subAt [1, 1, 0, 1, 0, 0] (bodyOf Tryz.f38)) T G)) :=
  fun r hr => lp_sxM Q orc G hT (by kernel_rfl) (mb38_0 h ⟨hlp⟩ _ _ r hr)
/-- coxswain/coxswainkit.SameWords -/
noncomputable def s38 (q : Bool) (e : Ex) (v0 v1 : Value) (G : GS) : Option (Value × GS) :=
  bP (ln Q q 90 v0) fun x0 =>
  bP (ln Q q 90 v1) fun x1 =>
  bP (bn Q q .eql 3 (.tmp 8) (.tmp 10) x0 x1) fun x2 =>
  bL q e 38 0 (subAt [1, 1, 0, 1, 0, 0] (bodyOf Tryz.f38)) 31 (tu (nth undef [v0, v1]) [(4, (.bool false)), (5, x2), (6, (.int .i64 0)), (7, v0), (8, x0), (9, v1), (10, x1), (11, x2)]) G fun e3 t4 G5 =>
  bV q (t4 5) fun t4x5_ =>
  ifE e3 (.exit 0) (
  some (t4x5_, G5)) (none)
theorem m38 {e : Ex} {E : Ev} (h : ExLe Q e E) (v0 v1 : Value) (G : GS) : Ref (s38 true e v0 v1 G) (s38 false (Ex.of E) v0 v1 G) := by
  unfold s38
  exact Ref.go
theorem f38 {orc : FuncId → Bool} {e : Ex} (h : ExLe Q e (E orc)) (v0 v1 : Value) (G : GS) : Ref (s38 true e v0 v1 G) ((E orc).cl 38 [v0, v1] G) :=
  fun r hr => cl_sxE_some Q orc (vs := [v0, v1]) G Tryz.func38 (by kernel_rfl) (by kernel_rfl) (by kernel_rfl) (by kernel_rfl) (by kernel_rfl) (by kernel_rfl) (m38 h v0 v1 G r hr)
noncomputable def b39_0 (q : Bool) (e : Ex) (lp : Env → GS → Option (Exit × Env × GS)) (τ : Env) (G : GS) : Option (Exit × Env × GS) :=
  bV q (τ 5) fun a5_ =>
  bV q (τ 8) fun a8_ =>
  bV q (τ 9) fun a9_ =>
  bV q (τ 10) fun a10_ =>
  bP (bn Q q .lss 3 (.tmp 10) (.tmp 9) a10_ a9_) fun x0 =>
  ifV x0 (
  bP (ias Q q 90 1 a8_ a10_) fun x1 =>
  bP (ld Q q 38 x1 G) fun x2 =>
  bP (bn Q q .neq 38 (.tmp 14) (.const (.int .u64 18446744073709551615)) x2 (.int .u64 18446744073709551615)) fun x3 =>
  ifV x3 (
  bS (bs Q q 90 1 (rep z38 1) 1 [(0, 0, 1)] [x2] G) fun x4 G5 =>
  bS (ap Q q 90 90 1 8 a5_ x4 G5) fun x6 G7 =>
  bP (bn Q q .add 3 (.tmp 10) (.const (.int .i64 1)) a10_ (.int .i64 1)) fun x8 =>
  lp (tu τ [(5, x6), (8, a8_), (9, a9_), (10, x8), (7, x2), (11, x0), (12, x1), (13, x2), (14, x2), (15, x3), (16, a5_), (17, x2), (18, x4), (19, x6), (20, x8)]) G7) (
  bP (bn Q q .add 3 (.tmp 10) (.const (.int .i64 1)) a10_ (.int .i64 1)) fun x9 =>
  lp (tu τ [(5, a5_), (8, a8_), (9, a9_), (10, x9), (7, x2), (11, x0), (12, x1), (13, x2), (14, x2), (15, x3), (20, x9)]) G)) (
  some ((.exit 0), clq q 30 (tu τ [(5, a5_), (8, a8_), (9, a9_), (10, a10_), (11, x0)]), G))
theorem mb39_0 {e : Ex} {E : Ev} (h : ExLe Q e E) {lp lp' : Env → GS → Option (Exit × Env × GS)} (hlp : LpLe lp lp') (τ : Env) (G : GS) : Ref (b39_0 true e lp τ G) (b39_0 false (Ex.of E) lp' τ G) := by
  unfold b39_0
  exact Ref.go
theorem l39_0 {orc : FuncId → Bool} {e : Ex} (h : ExLe Q e (E orc)) (lp : Env → GS → Option (Exit × Env × GS)) (hlp : ∀ τ G, Ref (lp τ G) (mapE ((E orc).lp (subAt [1, 1, 0, 1, 0, 0] (bodyOf Tryz.f39)) (lst 30 τ) G))) (T : List Value) (G : GS) (hT : T.length = 30) : Ref (b39_0 true e lp (nth undef T) G) (mapE ((E orc).lp (subAt [1, 1, 0, 1, 0, 0] (bodyOf Tryz.f39)) T G)) :=
  fun r hr => lp_sxM Q orc G hT (by kernel_rfl) (mb39_0 h ⟨hlp⟩ _ _ r hr)
/-- coxswain/run.Should -/
noncomputable def s39 (q : Bool) (e : Ex) (v0 v1 : Value) (G : GS) : Option (Value × GS) :=
  bP (ln Q q 90 v0) fun x0 =>
  bL q e 39 0 (subAt [1, 1, 0, 1, 0, 0] (bodyOf Tryz.f39)) 30 (tu (nth undef [v0, v1]) [(4, (.slice none 0 0)), (5, (.slice none 0 0)), (8, v0), (9, x0), (10, (.int .i64 0))]) G fun e1 t2 G3 =>
  bV q (t2 1) fun t2x1_ =>
  bV q (t2 5) fun t2x5_ =>
  ifE e1 (.exit 0) (
  bS (e.ev.cl 82 [t2x5_, (.func (.func 81) #[] #[])] G3) fun x4 G5 =>
  bP (ln Q q 90 t2x5_) fun x6 =>
  bP (mx Q q #[3, 3] t2x1_ (.int .i64 0)) fun x7 =>
  bP (mn Q q #[3, 3] x6 x7) fun x8 =>
  bP (sl Q q 90 1 t2x5_ none (some x8) none G5) fun x9 =>
  some (x9, G5)) (none)
theorem m39 {e : Ex} {E : Ev} (h : ExLe Q e E) (v0 v1 : Value) (G : GS) : Ref (s39 true e v0 v1 G) (s39 false (Ex.of E) v0 v1 G) := by
  unfold s39
  exact Ref.go
theorem f39 {orc : FuncId → Bool} {e : Ex} (h : ExLe Q e (E orc)) (v0 v1 : Value) (G : GS) : Ref (s39 true e v0 v1 G) ((E orc).cl 39 [v0, v1] G) :=
  fun r hr => cl_sxE_some Q orc (vs := [v0, v1]) G Tryz.func39 (by kernel_rfl) (by kernel_rfl) (by kernel_rfl) (by kernel_rfl) (by kernel_rfl) (by kernel_rfl) (m39 h v0 v1 G r hr)
/-- coxswain/run.NewBalance -/
noncomputable def s40 (q : Bool) (e : Ex) (v0 v1 v2 : Value) (G : GS) : Option (Value × GS) :=
  bS (bx q v0 G) fun x0 G1 =>
  bS (bx q v1 G1) fun x2 G3 =>
  bP (fa Q q 86 0 0 x2) fun x4 =>
  bP (ld Q q 3 x4 (G3.room 12)) fun x5 =>
  bP (fa Q q 86 2 2 x2) fun x6 =>
  bP (ld Q q 3 x6 (G3.room 12)) fun x7 =>
  bP (bd Q q 147 z147 [(0, 0, 1), (1, 1, 1)] [x5, x7]) fun x8 =>
  bP (lda Q q 86 3 x2 (G3.room 12)) fun x9 =>
  bP (lda Q q 36 13 x0 (G3.room 12)) fun x10 =>
  bS (e.ev.cl 83 [x10, v2] (G3.room 12)) fun x12 G11 =>
  chk ((sameO (lda Q q 86 3 x2 G11) x9 && (sameO (ld Q q 3 x6 G11) x7 && (sameO (ld Q q 3 x4 G11) x5 && true)))) <|
  bP (bd Q q 150 z150 [(0, 0, 2), (1, 2, 3), (2, 5, 1), (5, 8, 1), (6, 9, 1), (8, 11, 1)] [x8, x9, x12, (.int .i64 (-1)), (.int .i64 (-1)), (.bool true)]) fun x13 =>
  bS (bx q x13 (G11.at' (G3.nx + 10))) fun x14 G15 =>
  bP (pNil x14) fun x16 =>
  bP (fa Q q 150 2 5 x16) fun x17 =>
  bP (ld Q q 52 x17 (G15.back G11)) fun x18 =>
  bS (e.ev.cl 8 [x18] (G15.back G11)) fun x19 G20 =>
  bP (pExtract x19 0) fun x21 =>
  bP (pExtract x19 1) fun x22 =>
  bS (al Q q 46 z46 G20) fun x23 G24 =>
  bP (st Q q 46 2 x23 x21 G24) fun G25 =>
  bP (bn Q q .neq 23 (.tmp 29) (.const (.int .i64 14)) x22 (.int .i64 14)) fun x26 =>
  ifV x26 (
  bS (e.ev.cl 84 [x14, x22] G25) fun x27 G28 =>
  some (x14, G28)) (
  bP (lda Q q 86 3 x2 G25) fun x29 =>
  bS (e.ev.cl 85 [x29] G25) fun x30 G31 =>
  bP (un Q q .not x30) fun x32 =>
  ifV x32 (
  bS (e.ev.cl 84 [x14, (.int .i64 2)] G31) fun x33 G34 =>
  some (x14, G34)) (
  some (x14, G31)))
theorem m40 {e : Ex} {E : Ev} (h : ExLe Q e E) (v0 v1 v2 : Value) (G : GS) : Ref (s40 true e v0 v1 v2 G) (s40 false (Ex.of E) v0 v1 v2 G) := by
  unfold s40
  exact Ref.go
theorem f40 {orc : FuncId → Bool} {e : Ex} (h : ExLe Q e (E orc)) (v0 v1 v2 : Value) (G : GS) : Ref (s40 true e v0 v1 v2 G) ((E orc).cl 40 [v0, v1, v2] G) :=
  fun r hr => cl_sxE_some Q orc (vs := [v0, v1, v2]) G Tryz.func40 (by kernel_rfl) (by kernel_rfl) (by kernel_rfl) (by kernel_rfl) (by kernel_rfl) (by kernel_rfl) (m40 h v0 v1 v2 G r hr)
/-- (*coxswain/run.Balance).Err -/
noncomputable def s41 (q : Bool) (e : Ex) (v0 : Value) (G : GS) : Option (Value × GS) :=
  bP (ep Q q false 93 (.tmp 4) (.const (.pointer none)) v0 (.pointer none)) fun x0 =>
  bS (gd x0 false (some (v0, G)) G) fun x1 G2 =>
  bS (gd x0 false (bP (pNil x1) fun y => some (y, G2)) G2) fun x3 G4 =>
  bS (gd x0 false (bP (fa Q q 150 8 11 x3) fun y => some (y, G4)) G4) fun x5 G6 =>
  bS (gd x0 false (bP (ld Q q 4 x5 G6) fun y => some (y, G6)) G6) fun x7 G8 =>
  bS (gd x0 false (bP (un Q q .not x7) fun y => some (y, G8)) G8) fun x9 G10 =>
  bP (pickV x0 (.bool true) x9) fun x11 =>
  ifV x11 (
  some ((.int .i64 1), G10)) (
  bP (pNil v0) fun x12 =>
  bP (fa Q q 150 9 12 x12) fun x13 =>
  bP (ld Q q 4 x13 G10) fun x14 =>
  bP (un Q q .not x14) fun x15 =>
  ifV x15 (
  some ((.int .i64 14), G10)) (
  bP (pNil v0) fun x16 =>
  bP (fa Q q 150 10 13 x16) fun x17 =>
  bP (ld Q q 23 x17 G10) fun x18 =>
  some (x18, G10)))
theorem m41 {e : Ex} {E : Ev} (h : ExLe Q e E) (v0 : Value) (G : GS) : Ref (s41 true e v0 G) (s41 false (Ex.of E) v0 G) := by
  unfold s41
  exact Ref.go
theorem f41 {orc : FuncId → Bool} {e : Ex} (h : ExLe Q e (E orc)) (v0 : Value) (G : GS) : Ref (s41 true e v0 G) ((E orc).cl 41 [v0] G) :=
  fun r hr => cl_sxE_some Q orc (vs := [v0]) G Tryz.func41 (by kernel_rfl) (by kernel_rfl) (by kernel_rfl) (by kernel_rfl) (by kernel_rfl) (by kernel_rfl) (m41 h v0 G r hr)
/-- coxswain/run.Fits -/
noncomputable def s42 (q : Bool) (e : Ex) (v0 v1 : Value) (G : GS) : Option (Value × GS) :=
  bS (bx q v0 G) fun x0 G1 =>
  bP (bn Q q .lss 3 (.tmp 5) (.const (.int .i64 1)) v1 (.int .i64 1)) fun x2 =>
  bS (gd x2 false (some (v1, G1)) G1) fun x3 G4 =>
  bS (gd x2 false (bP (bn Q q .gtr 3 (.tmp 8) (.const (.int .i64 4096)) x3 (.int .i64 4096)) fun y => some (y, G4)) G4) fun x5 G6 =>
  bP (pickV x2 (.bool true) x5) fun x7 =>
  ifV x7 (
  some ((.int .i64 3), G6)) (
  bP (lda Q q 86 3 x0 G6) fun x8 =>
  bS (e.ev.cl 85 [x8] G6) fun x9 G10 =>
  bP (un Q q .not x9) fun x11 =>
  bS (gd x11 false (bP (fa Q q 86 0 0 x0) fun y => some (y, G10)) G10) fun x12 G13 =>
  bS (gd x11 false (bP (ld Q q 3 x12 G13) fun y => some (y, G13)) G13) fun x14 G15 =>
  bS (gd x11 false (bP (fa Q q 86 1 1 x0) fun y => some (y, G15)) G15) fun x16 G17 =>
  bS (gd x11 false (bP (ld Q q 3 x16 G17) fun y => some (y, G17)) G17) fun x18 G19 =>
  bS (gd x11 false (bP (mn Q q #[3, 3] x14 x18) fun y => some (y, G19)) G19) fun x20 G21 =>
  bS (gd x11 false (bP (bn Q q .lss 3 (.tmp 19) (.const (.int .i64 0)) x20 (.int .i64 0)) fun y => some (y, G21)) G21) fun x22 G23 =>
  bP (pickV x11 (.bool true) x22) fun x24 =>
  bS (gd x24 false (bP (fa Q q 86 0 0 x0) fun y => some (y, G23)) G23) fun x25 G26 =>
  bS (gd x24 false (bP (ld Q q 3 x25 G26) fun y => some (y, G26)) G26) fun x27 G28 =>
  bS (gd x24 false (bP (fa Q q 86 1 1 x0) fun y => some (y, G28)) G28) fun x29 G30 =>
  bS (gd x24 false (bP (ld Q q 3 x29 G30) fun y => some (y, G30)) G30) fun x31 G32 =>
  bS (gd x24 false (bP (mx Q q #[3, 3] x27 x31) fun y => some (y, G32)) G32) fun x33 G34 =>
  bS (gd x24 false (some (v1, G34)) G34) fun x35 G36 =>
  bS (gd x24 false (bP (fa Q q 86 2 2 x0) fun y => some (y, G36)) G36) fun x37 G38 =>
  bS (gd x24 false (bP (ld Q q 3 x37 G38) fun y => some (y, G38)) G38) fun x39 G40 =>
  bS (gd x24 false (bP (bn Q q .sub 3 (.tmp 28) (.tmp 30) x35 x39) fun y => some (y, G40)) G40) fun x41 G42 =>
  bS (gd x24 false (bP (bn Q q .gtr 3 (.tmp 27) (.tmp 31) x33 x41) fun y => some (y, G42)) G42) fun x43 G44 =>
  bP (pickV x24 (.bool true) x43) fun x45 =>
  bS (gd x45 false (bP (fa Q q 86 0 0 x0) fun y => some (y, G44)) G44) fun x46 G47 =>
  bS (gd x45 false (bP (ld Q q 3 x46 G47) fun y => some (y, G47)) G47) fun x48 G49 =>
  bS (gd x45 false (bP (fa Q q 86 1 1 x0) fun y => some (y, G49)) G49) fun x50 G51 =>
  bS (gd x45 false (bP (ld Q q 3 x50 G51) fun y => some (y, G51)) G51) fun x52 G53 =>
  bS (gd x45 false (bP (mx Q q #[3, 3] x48 x52) fun y => some (y, G53)) G53) fun x54 G55 =>
  bS (gd x45 false (bP (fa Q q 86 0 0 x0) fun y => some (y, G55)) G55) fun x56 G57 =>
  bS (gd x45 false (bP (ld Q q 3 x56 G57) fun y => some (y, G57)) G57) fun x58 G59 =>
  bS (gd x45 false (bP (fa Q q 86 1 1 x0) fun y => some (y, G59)) G59) fun x60 G61 =>
  bS (gd x45 false (bP (ld Q q 3 x60 G61) fun y => some (y, G61)) G61) fun x62 G63 =>
  bS (gd x45 false (bP (mn Q q #[3, 3] x58 x62) fun y => some (y, G63)) G63) fun x64 G65 =>
  bS (gd x45 false (bP (bn Q q .sub 3 (.tmp 39) (.tmp 44) x54 x64) fun y => some (y, G65)) G65) fun x66 G67 =>
  bS (gd x45 false (bP (fa Q q 86 2 2 x0) fun y => some (y, G67)) G67) fun x68 G69 =>
  bS (gd x45 false (bP (ld Q q 3 x68 G69) fun y => some (y, G69)) G69) fun x70 G71 =>
  bS (gd x45 false (bP (bn Q q .lss 3 (.tmp 45) (.tmp 47) x66 x70) fun y => some (y, G71)) G71) fun x72 G73 =>
  bP (pickV x45 (.bool true) x72) fun x74 =>
  ifV x74 (
  some ((.int .i64 2), G73)) (
  some ((.int .i64 0), G73)))
theorem m42 {e : Ex} {E : Ev} (h : ExLe Q e E) (v0 v1 : Value) (G : GS) : Ref (s42 true e v0 v1 G) (s42 false (Ex.of E) v0 v1 G) := by
  unfold s42
  exact Ref.go
theorem f42 {orc : FuncId → Bool} {e : Ex} (h : ExLe Q e (E orc)) (v0 v1 : Value) (G : GS) : Ref (s42 true e v0 v1 G) ((E orc).cl 42 [v0, v1] G) :=
  fun r hr => cl_sxE_some Q orc (vs := [v0, v1]) G Tryz.func42 (by kernel_rfl) (by kernel_rfl) (by kernel_rfl) (by kernel_rfl) (by kernel_rfl) (by kernel_rfl) (m42 h v0 v1 G r hr)
/-- coxswain/coxswainlaw26.awake -/
noncomputable def s43 (q : Bool) (e : Ex) (G : GS) : Option (Value × GS) :=
  bS (e.ev.cl 31 [] G) fun x0 G1 =>
  bP (ep Q q true 22 (.tmp 3) (.const (.pointer none)) x0 (.pointer none)) fun x2 =>
  bS (gd x2 true (bS (e.ev.cl 36 [] G1) fun y G => some (y, G)) G1) fun x3 G4 =>
  bS (gd x2 true (some (x0, G4)) G4) fun x5 G6 =>
  bS (gd x2 true (bS (e.ev.cl 86 [x3, x5] G6) fun y G => some (y, G)) G6) fun x7 G8 =>
  bS (gd x2 true (bS (bs Q q 90 2 (rep z38 2) 1 [(0, 0, 1), (1, 1, 1)] [(.int .u64 18446744073709551615), (.int .u64 18446744073709551615)] G8) fun y G => some (y, G)) G8) fun x9 G10 =>
  bS (gd x2 true (bS (e.ev.cl 38 [x7, x9] G10) fun y G => some (y, G)) G10) fun x11 G12 =>
  bP (pickV x2 x11 (.bool false)) fun x13 =>
  bS (gd x13 true (bS (e.ev.cl 36 [] G12) fun y G => some (y, G)) G12) fun x14 G15 =>
  bS (gd x13 true (some (x0, G15)) G15) fun x16 G17 =>
  bS (gd x13 true (bS (e.ev.cl 35 [x14, x16, (.slice none 0 0)] G17) fun y G => some (y, G)) G17) fun x18 G19 =>
  bP (pickV x13 x18 (.bool false)) fun x20 =>
  bS (gd x20 true (some (x0, G19)) G19) fun x21 G22 =>
  bS (gd x20 true (bS (e.ev.cl 34 [x21, (.int .i64 0), (.int .i64 5), (.int .i64 (-1))] G22) fun y G => some (y, G)) G22) fun x23 G24 =>
  bP (pickV x20 x23 (.bool false)) fun x25 =>
  bS (gd x25 true (bS (e.ev.cl 33 [] G24) fun y G => some (y, G)) G24) fun x26 G27 =>
  bS (gd x25 true (some (x0, G27)) G27) fun x28 G29 =>
  bS (gd x25 true (bS (e.ev.cl 32 [x26, x28, (.int .u64 9), (.int .i64 5), (.int .i64 1)] G29) fun y G => some (y, G)) G29) fun x30 G31 =>
  bP (pickV x25 x30 (.bool false)) fun x32 =>
  bS (gd x32 true (some (x0, G31)) G31) fun x33 G34 =>
  bS (gd x32 true (bS (e.ev.cl 34 [x33, (.int .i64 1), (.int .i64 11), (.int .i64 0)] G34) fun y G => some (y, G)) G34) fun x35 G36 =>
  bP (pickV x32 x35 (.bool false)) fun x37 =>
  bS (gd x37 true (bS (e.ev.cl 36 [] G36) fun y G => some (y, G)) G36) fun x38 G39 =>
  bS (gd x37 true (some (x0, G39)) G39) fun x40 G41 =>
  bS (gd x37 true (bS (bs Q q 139 1 (rep z3 1) 1 [(0, 0, 1)] [(.int .i64 0)] G41) fun y G => some (y, G)) G41) fun x42 G43 =>
  bS (gd x37 true (bS (e.ev.cl 35 [x38, x40, x42] G43) fun y G => some (y, G)) G43) fun x44 G45 =>
  bP (pickV x37 x44 (.bool false)) fun x46 =>
  some (x46, G45)
theorem m43 {e : Ex} {E : Ev} (h : ExLe Q e E) (G : GS) : Ref (s43 true e  G) (s43 false (Ex.of E)  G) := by
  unfold s43
  exact Ref.go
theorem f43 {orc : FuncId → Bool} {e : Ex} (h : ExLe Q e (E orc)) (ho : orc 43 = false) (G : GS) : Ref (s43 true e  G) ((E orc).cl 43 [] G) :=
  fun r hr => cl_sxE_some Q orc (vs := []) G Tryz.func43 (by kernel_rfl) (by kernel_rfl) ho (by kernel_rfl) (by kernel_rfl) (by kernel_rfl) (m43 h  G r hr)
/-- (coxswain/ready.seen).told -/
noncomputable def s44 (q : Bool) (e : Ex) (v0 v1 : Value) (G : GS) : Option (Value × GS) :=
  bS (bx q v0 G) fun x0 G1 =>
  bS (al Q q 46 z46 G1) fun x2 G3 =>
  bS (e.ev.cl 45 [v1] G3) fun x4 G5 =>
  bP (bn Q q .neq 23 (.tmp 9) (.const (.int .i64 0)) x4 (.int .i64 0)) fun x6 =>
  ifV x6 (
  bP (bd Q q 46 z46 [] []) fun x7 =>
  bP (st Q q 46 2 x2 x7 G5) fun G8 =>
  bP (lda Q q 46 2 x2 G8) fun x9 =>
  some (.tuple #[x9, x4], G8)) (
  bP (fa Q q 48 0 0 x0) fun x10 =>
  bP (lda Q q 46 2 x10 (G5.room 6)) fun x11 =>
  bP (fa Q q 48 1 2 x0) fun x12 =>
  bP (ld Q q 23 x12 (G5.room 6)) fun x13 =>
  bP (st Q q 46 2 x2 x11 (G5.room 6)) fun G14 =>
  chk ((sameO (ld Q q 23 x12 G14) x13 && true)) <|
  bP (lda Q q 46 2 x2 G14) fun x15 =>
  some (.tuple #[x15, x13], G14))
theorem m44 {e : Ex} {E : Ev} (h : ExLe Q e E) (v0 v1 : Value) (G : GS) : Ref (s44 true e v0 v1 G) (s44 false (Ex.of E) v0 v1 G) := by
  unfold s44
  exact Ref.go
theorem f44 {orc : FuncId → Bool} {e : Ex} (h : ExLe Q e (E orc)) (v0 v1 : Value) (G : GS) : Ref (s44 true e v0 v1 G) ((E orc).cl 44 [v0, v1] G) :=
  fun r hr => cl_sxE_some Q orc (vs := [v0, v1]) G Tryz.func44 (by kernel_rfl) (by kernel_rfl) (by kernel_rfl) (by kernel_rfl) (by kernel_rfl) (by kernel_rfl) (m44 h v0 v1 G r hr)
/-- (*coxswain/ready.work).told -/
noncomputable def s45 (q : Bool) (e : Ex) (v0 : Value) (G : GS) : Option (Value × GS) :=
  bP (pNil v0) fun x0 =>
  bP (fa Q q 40 2 14 x0) fun x1 =>
  bP (ld Q q 4 x1 G) fun x2 =>
  bP (un Q q .not x2) fun x3 =>
  ifV x3 (
  some ((.int .i64 1), G)) (
  bP (pNil v0) fun x4 =>
  bP (fa Q q 40 4 16 x4) fun x5 =>
  bP (ld Q q 37 x5 G) fun x6 =>
  bP (ln Q q 37 x6) fun x7 =>
  bP (bn Q q .gtr 3 (.tmp 14) (.const (.int .i64 0)) x7 (.int .i64 0)) fun x8 =>
  ifV x8 (
  some ((.int .i64 14), G)) (
  bP (pNil v0) fun x9 =>
  bP (fa Q q 40 6 18 x9) fun x10 =>
  bP (ld Q q 23 x10 G) fun x11 =>
  some (x11, G)))
theorem m45 {e : Ex} {E : Ev} (h : ExLe Q e E) (v0 : Value) (G : GS) : Ref (s45 true e v0 G) (s45 false (Ex.of E) v0 G) := by
  unfold s45
  exact Ref.go
theorem f45 {orc : FuncId → Bool} {e : Ex} (h : ExLe Q e (E orc)) (v0 : Value) (G : GS) : Ref (s45 true e v0 G) ((E orc).cl 45 [v0] G) :=
  fun r hr => cl_sxE_some Q orc (vs := [v0]) G Tryz.func45 (by kernel_rfl) (by kernel_rfl) (by kernel_rfl) (by kernel_rfl) (by kernel_rfl) (by kernel_rfl) (m45 h v0 G r hr)
/-- (*coxswain/ready.work).step -/
noncomputable def s46 (q : Bool) (e : Ex) (v0 v1 : Value) (G : GS) : Option (Value × GS) :=
  bP (pNil v0) fun x0 =>
  bP (fa Q q 40 4 16 x0) fun x1 =>
  bP (ld Q q 37 x1 G) fun x2 =>
  bP (ln Q q 37 x2) fun x3 =>
  bP (bn Q q .eql 3 (.tmp 12) (.const (.int .i64 0)) x3 (.int .i64 0)) fun x4 =>
  ifV x4 (
  some ((.bool true), G)) (
  bP (pNil v0) fun x5 =>
  bP (fa Q q 40 4 16 x5) fun x6 =>
  bP (ld Q q 37 x6 G) fun x7 =>
  bP (ias Q q 37 1 x7 (.int .i64 0)) fun x8 =>
  bP (ld Q q 108 x8 G) fun x9 =>
  bP (pNil v0) fun x10 =>
  bP (fa Q q 40 4 16 x10) fun x11 =>
  bP (ld Q q 37 x11 G) fun x12 =>
  bP (sl Q q 37 1 x12 (some (.int .i64 1)) none none G) fun x13 =>
  bP (pNil v0) fun x14 =>
  bP (fa Q q 40 4 16 x14) fun x15 =>
  bP (st Q q 37 1 x15 x13 G) fun G16 =>
  bS (cInvoke Q e.ev x9 "coxswain/ready.run" [v1] G16) fun x17 G18 =>
  bP (pExtract x17 0) fun x19 =>
  bP (pExtract x17 1) fun x20 =>
  bP (pNil v0) fun x21 =>
  bP (fa Q q 40 5 17 x21) fun x22 =>
  bP (st Q q 38 1 x22 x20 G18) fun G23 =>
  bP (un Q q .not x19) fun x24 =>
  ifV x24 (
  bS (bs Q q 37 1 (rep z108 1) 1 [(0, 0, 1)] [x9] G23) fun x25 G26 =>
  bP (pNil v0) fun x27 =>
  bP (fa Q q 40 4 16 x27) fun x28 =>
  bP (ld Q q 37 x28 G26) fun x29 =>
  bS (ap Q q 37 37 1 16 x25 x29 G26) fun x30 G31 =>
  bP (pNil v0) fun x32 =>
  bP (fa Q q 40 4 16 x32) fun x33 =>
  bP (st Q q 37 1 x33 x30 G31) fun G34 =>
  bP (pNil v0) fun x35 =>
  bP (fa Q q 40 4 16 x35) fun x36 =>
  bP (ld Q q 37 x36 G34) fun x37 =>
  bP (ln Q q 37 x37) fun x38 =>
  bP (bn Q q .eql 3 (.tmp 54) (.const (.int .i64 0)) x38 (.int .i64 0)) fun x39 =>
  some (x39, G34)) (
  bP (pNil v0) fun x40 =>
  bP (fa Q q 40 4 16 x40) fun x41 =>
  bP (ld Q q 37 x41 G23) fun x42 =>
  bP (ln Q q 37 x42) fun x43 =>
  bP (bn Q q .eql 3 (.tmp 54) (.const (.int .i64 0)) x43 (.int .i64 0)) fun x44 =>
  some (x44, G23)))
theorem m46 {e : Ex} {E : Ev} (h : ExLe Q e E) (v0 v1 : Value) (G : GS) : Ref (s46 true e v0 v1 G) (s46 false (Ex.of E) v0 v1 G) := by
  unfold s46
  exact Ref.go
theorem f46 {orc : FuncId → Bool} {e : Ex} (h : ExLe Q e (E orc)) (v0 v1 : Value) (G : GS) : Ref (s46 true e v0 v1 G) ((E orc).cl 46 [v0, v1] G) :=
  fun r hr => cl_sxE_some Q orc (vs := [v0, v1]) G Tryz.func46 (by kernel_rfl) (by kernel_rfl) (by kernel_rfl) (by kernel_rfl) (by kernel_rfl) (by kernel_rfl) (m46 h v0 v1 G r hr)
/-- coxswain/ready.begun -/
noncomputable def s47 (q : Bool) (e : Ex) (v0 v1 : Value) (G : GS) : Option (Value × GS) :=
  bS (bx q v0 G) fun x0 G1 =>
  bS (al Q q 40 z40 G1) fun x2 G3 =>
  bP (lda Q q 36 13 x0 G3) fun x4 =>
  bP (bd Q q 40 z40 [(0, 0, 13), (1, 13, 1), (2, 14, 1)] [x4, v1, (.bool true)]) fun x5 =>
  bS (al Q q 40 z40 G3) fun x6 G7 =>
  bP (st Q q 40 19 x6 x5 G7) fun G8 =>
  bP (lda Q q 36 13 x0 G8) fun x9 =>
  bS (e.ev.cl 87 [x9, (.int .i64 0), (.int .i64 0)] G8) fun x10 G11 =>
  bP (bn Q q .lss 3 (.tmp 11) (.const (.int .i64 0)) x10 (.int .i64 0)) fun x12 =>
  ifV x12 (
  bP (fa Q q 40 6 18 x6) fun x13 =>
  bP (st Q q 23 1 x13 (.int .i64 2) G11) fun G14 =>
  bP (lda Q q 40 19 x6 G14) fun x15 =>
  bP (st Q q 40 19 x2 x15 G14) fun G16 =>
  bP (lda Q q 40 19 x2 G16) fun x17 =>
  some (x17, G16)) (
  bP (bn Q q .lss 3 (.tmp 15) (.const (.int .i64 0)) v1 (.int .i64 0)) fun x18 =>
  bS (gd x18 false (some (v1, G11)) G11) fun x19 G20 =>
  bS (gd x18 false (bP (fa Q q 36 3 3 x0) fun y => some (y, G20)) G20) fun x21 G22 =>
  bS (gd x18 false (bP (fa Q q 34 1 6 x21) fun y => some (y, G22)) G22) fun x23 G24 =>
  bS (gd x18 false (bP (fa Q q 32 2 2 x23) fun y => some (y, G24)) G24) fun x25 G26 =>
  bS (gd x18 false (bP (ld Q q 3 x25 G26) fun y => some (y, G26)) G26) fun x27 G28 =>
  bS (gd x18 false (bP (bn Q q .geq 3 (.tmp 18) (.tmp 22) x19 x27) fun y => some (y, G28)) G28) fun x29 G30 =>
  bP (pickV x18 (.bool true) x29) fun x31 =>
  ifV x31 (
  bP (fa Q q 40 6 18 x6) fun x32 =>
  bP (st Q q 23 1 x32 (.int .i64 3) G30) fun G33 =>
  bP (lda Q q 40 19 x6 G33) fun x34 =>
  bP (st Q q 40 19 x2 x34 G33) fun G35 =>
  bP (lda Q q 40 19 x2 G35) fun x36 =>
  some (x36, G35)) (
  bP (lda Q q 40 19 x6 G30) fun x37 =>
  bP (st Q q 40 19 x2 x37 G30) fun G38 =>
  bP (lda Q q 40 19 x2 G38) fun x39 =>
  some (x39, G38)))
theorem m47 {e : Ex} {E : Ev} (h : ExLe Q e E) (v0 v1 : Value) (G : GS) : Ref (s47 true e v0 v1 G) (s47 false (Ex.of E) v0 v1 G) := by
  unfold s47
  exact Ref.go
theorem f47 {orc : FuncId → Bool} {e : Ex} (h : ExLe Q e (E orc)) (v0 v1 : Value) (G : GS) : Ref (s47 true e v0 v1 G) ((E orc).cl 47 [v0, v1] G) :=
  fun r hr => cl_sxE_some Q orc (vs := [v0, v1]) G Tryz.func47 (by kernel_rfl) (by kernel_rfl) (by kernel_rfl) (by kernel_rfl) (by kernel_rfl) (by kernel_rfl) (m47 h v0 v1 G r hr)
/-- (*coxswain/ready.work).pin -/
noncomputable def s48 (q : Bool) (e : Ex) (v0 : Value) (G : GS) : Option (Value × GS) :=
  bS (bx q v0 G) fun x0 G1 =>
  bP (bd Q q 164 z164 [(0, 0, 1), (2, 2, 1)] [(.func (.func 88) #[] #[x0]), (.func (.func 90) #[] #[x0])]) fun x2 =>
  bS (bx q x2 G1) fun x3 G4 =>
  bP (ifc Q q 157 x3) fun x5 =>
  some (x5, G4)
theorem m48 {e : Ex} {E : Ev} (h : ExLe Q e E) (v0 : Value) (G : GS) : Ref (s48 true e v0 G) (s48 false (Ex.of E) v0 G) := by
  unfold s48
  exact Ref.go
theorem f48 {orc : FuncId → Bool} {e : Ex} (h : ExLe Q e (E orc)) (v0 : Value) (G : GS) : Ref (s48 true e v0 G) ((E orc).cl 48 [v0] G) :=
  fun r hr => cl_sxE_some Q orc (vs := [v0]) G Tryz.func48 (by kernel_rfl) (by kernel_rfl) (by kernel_rfl) (by kernel_rfl) (by kernel_rfl) (by kernel_rfl) (m48 h v0 G r hr)
/-- (*coxswain/ready.Put).alloc -/
noncomputable def s49 (q : Bool) (e : Ex) (v0 : Value) (G : GS) : Option (Value × GS) :=
  bS (bx q v0 G) fun x0 G1 =>
  bP (ld Q q 26 x0 G1) fun x2 =>
  bP (bd Q q 172 z172 [(0, 0, 1), (2, 2, 1)] [(.func (.func 92) #[] #[x0]), (.func (.func 94) #[x2] #[])]) fun x3 =>
  bS (bx q x3 G1) fun x4 G5 =>
  bP (ifc Q q 165 x4) fun x6 =>
  some (x6, G5)
theorem m49 {e : Ex} {E : Ev} (h : ExLe Q e E) (v0 : Value) (G : GS) : Ref (s49 true e v0 G) (s49 false (Ex.of E) v0 G) := by
  unfold s49
  exact Ref.go
theorem f49 {orc : FuncId → Bool} {e : Ex} (h : ExLe Q e (E orc)) (v0 : Value) (G : GS) : Ref (s49 true e v0 G) ((E orc).cl 49 [v0] G) :=
  fun r hr => cl_sxE_some Q orc (vs := [v0]) G Tryz.func49 (by kernel_rfl) (by kernel_rfl) (by kernel_rfl) (by kernel_rfl) (by kernel_rfl) (by kernel_rfl) (m49 h v0 G r hr)
noncomputable def b53_0 (q : Bool) (e : Ex) (lp : Env → GS → Option (Exit × Env × GS)) (τ : Env) (G : GS) : Option (Exit × Env × GS) :=
  bV q (τ 1) fun a1_ =>
  bV q (τ 2) fun a2_ =>
  bV q (τ 13) fun a13_ =>
  bV q (τ 14) fun a14_ =>
  bP (bn Q q .lss 3 (.tmp 14) (.tmp 13) a14_ a13_) fun x0 =>
  ifV x0 (
  bP (fa Q q 36 1 1 a2_) fun x1 =>
  bP (ld Q q 3 x1 G) fun x2 =>
  bP (bn Q q .add 3 (.tmp 19) (.tmp 20) x2 a14_) fun x3 =>
  bS (e.ev.cl 29 [a1_, x3, (.int .u64 0)] G) fun x4 G5 =>
  bP (bn Q q .add 3 (.tmp 14) (.const (.int .i64 1)) a14_ (.int .i64 1)) fun x6 =>
  lp (tu τ [(1, a1_), (2, a2_), (13, a13_), (14, x6), (4, a14_), (15, x0), (16, a14_), (17, a1_), (18, x1), (19, x2), (20, a14_), (21, x3), (22, x4), (23, x6)]) G5) (
  some ((.exit 0), clq q 24 (tu τ [(1, a1_), (2, a2_), (13, a13_), (14, a14_), (15, x0)]), G))
theorem mb53_0 {e : Ex} {E : Ev} (h : ExLe Q e E) {lp lp' : Env → GS → Option (Exit × Env × GS)} (hlp : LpLe lp lp') (τ : Env) (G : GS) : Ref (b53_0 true e lp τ G) (b53_0 false (Ex.of E) lp' τ G) := by
  unfold b53_0
  exact Ref.go
theorem l53_0 {orc : FuncId → Bool} {e : Ex} (h : ExLe Q e (E orc)) (lp : Env → GS → Option (Exit × Env × GS)) (hlp : ∀ τ G, Ref (lp τ G) (mapE ((E orc).lp (subAt [1, 1, 1, 1, 0, 0] (bodyOf Tryz.f53)) (lst 24 τ) G))) (T : List Value) (G : GS) (hT : T.length = 24) : Ref (b53_0 true e lp (nth undef T) G) (mapE ((E orc).lp (subAt [1, 1, 1, 1, 0, 0] (bodyOf Tryz.f53)) T G)) :=
  fun r hr => lp_sxM Q orc G hT (by kernel_rfl) (mb53_0 h ⟨hlp⟩ _ _ r hr)
/-- coxswain/tower.Fill -/
noncomputable def s53 (q : Bool) (e : Ex) (v0 v1 : Value) (G : GS) : Option (Value × GS) :=
  bS (bx q v0 G) fun x0 G1 =>
  bP (lda Q q 36 13 x0 G1) fun x2 =>
  bS (e.ev.cl 98 [x2] G1) fun x3 G4 =>
  bP (un Q q .not x3) fun x5 =>
  ifV x5 (
  some (.tuple #[], G4)) (
  bP (fa Q q 36 3 3 x0) fun x6 =>
  bP (lda Q q 34 10 x6 G4) fun x7 =>
  bS (e.ev.cl 99 [x7, v1] G4) fun x8 G9 =>
  bP (fa Q q 36 2 2 x0) fun x10 =>
  bP (ld Q q 3 x10 G9) fun x11 =>
  bL q e 53 0 (subAt [1, 1, 1, 1, 0, 0] (bodyOf Tryz.f53)) 24 (tu (nth undef [v0, v1]) [(2, x0), (5, x2), (6, x3), (7, x5), (8, x6), (9, x7), (10, v1), (11, x8), (12, x10), (13, x11), (14, (.int .i64 0))]) G9 fun e12 t13 G14 =>
  ifE e12 (.exit 0) (
  some (.tuple #[], G14)) (none))
theorem m53 {e : Ex} {E : Ev} (h : ExLe Q e E) (v0 v1 : Value) (G : GS) : Ref (s53 true e v0 v1 G) (s53 false (Ex.of E) v0 v1 G) := by
  unfold s53
  exact Ref.go
theorem f53 {orc : FuncId → Bool} {e : Ex} (h : ExLe Q e (E orc)) (v0 v1 : Value) (G : GS) : Ref (s53 true e v0 v1 G) ((E orc).cl 53 [v0, v1] G) :=
  fun r hr => cl_sxE_some Q orc (vs := [v0, v1]) G Tryz.func53 (by kernel_rfl) (by kernel_rfl) (by kernel_rfl) (by kernel_rfl) (by kernel_rfl) (by kernel_rfl) (m53 h v0 v1 G r hr)
/-- (*coxswain/ready.work).unpin -/
noncomputable def s64 (q : Bool) (e : Ex) (v0 : Value) (G : GS) : Option (Value × GS) :=
  bS (bx q v0 G) fun x0 G1 =>
  bP (bd Q q 201 z201 [(0, 0, 1)] [(.func (.func 109) #[] #[x0])]) fun x2 =>
  bS (bx q x2 G1) fun x3 G4 =>
  bP (ifc Q q 194 x3) fun x5 =>
  some (x5, G4)
theorem m64 {e : Ex} {E : Ev} (h : ExLe Q e E) (v0 : Value) (G : GS) : Ref (s64 true e v0 G) (s64 false (Ex.of E) v0 G) := by
  unfold s64
  exact Ref.go
theorem f64 {orc : FuncId → Bool} {e : Ex} (h : ExLe Q e (E orc)) (v0 : Value) (G : GS) : Ref (s64 true e v0 G) ((E orc).cl 64 [v0] G) :=
  fun r hr => cl_sxE_some Q orc (vs := [v0]) G Tryz.func64 (by kernel_rfl) (by kernel_rfl) (by kernel_rfl) (by kernel_rfl) (by kernel_rfl) (by kernel_rfl) (m64 h v0 G r hr)
/-- (*coxswain/cells.Mem).cell -/
noncomputable def s72 (q : Bool) (e : Ex) (v0 v1 : Value) (G : GS) : Option (Value × GS) :=
  bP (ep Q q false 22 (.tmp 5) (.const (.pointer none)) v0 (.pointer none)) fun x0 =>
  bS (gd x0 false (some (v0, G)) G) fun x1 G2 =>
  bS (gd x0 false (bP (pNil x1) fun y => some (y, G2)) G2) fun x3 G4 =>
  bS (gd x0 false (bP (fa Q q 103 0 0 x3) fun y => some (y, G4)) G4) fun x5 G6 =>
  bS (gd x0 false (bP (ld Q q 96 x5 G6) fun y => some (y, G6)) G6) fun x7 G8 =>
  bS (gd x0 false (bP (ep Q q false 96 (.tmp 11) (.const (.pointer none)) x7 (.pointer none)) fun y => some (y, G8)) G8) fun x9 G10 =>
  bP (pickV x0 (.bool true) x9) fun x11 =>
  bS (gd x11 false (some (v1, G10)) G10) fun x12 G13 =>
  bS (gd x11 false (bP (bn Q q .lss 3 (.tmp 15) (.const (.int .i64 0)) x12 (.int .i64 0)) fun y => some (y, G13)) G13) fun x14 G15 =>
  bP (pickV x11 (.bool true) x14) fun x16 =>
  bS (gd x16 false (some (v1, G15)) G15) fun x17 G18 =>
  bS (gd x16 false (some (v0, G18)) G18) fun x19 G20 =>
  bS (gd x16 false (bP (pNil x19) fun y => some (y, G20)) G20) fun x21 G22 =>
  bS (gd x16 false (bP (fa Q q 103 1 1 x21) fun y => some (y, G22)) G22) fun x23 G24 =>
  bS (gd x16 false (bP (ld Q q 3 x23 G24) fun y => some (y, G24)) G24) fun x25 G26 =>
  bS (gd x16 false (bP (bn Q q .geq 3 (.tmp 19) (.tmp 23) x17 x25) fun y => some (y, G26)) G26) fun x27 G28 =>
  bP (pickV x16 (.bool true) x27) fun x29 =>
  ifV x29 (
  some ((.pointer none), G28)) (
  bP (pNil v0) fun x30 =>
  bP (fa Q q 103 0 0 x30) fun x31 =>
  bP (ld Q q 96 x31 G28) fun x32 =>
  bP (pNil x32) fun x33 =>
  bP (iaa Q q 99 4096 1 x33 v1) fun x34 =>
  some (x34, G28))
theorem m72 {e : Ex} {E : Ev} (h : ExLe Q e E) (v0 v1 : Value) (G : GS) : Ref (s72 true e v0 v1 G) (s72 false (Ex.of E) v0 v1 G) := by
  unfold s72
  exact Ref.go
theorem f72 {orc : FuncId → Bool} {e : Ex} (h : ExLe Q e (E orc)) (v0 v1 : Value) (G : GS) : Ref (s72 true e v0 v1 G) ((E orc).cl 72 [v0, v1] G) :=
  fun r hr => cl_sxE_some Q orc (vs := [v0, v1]) G Tryz.func72 (by kernel_rfl) (by kernel_rfl) (by kernel_rfl) (by kernel_rfl) (by kernel_rfl) (by kernel_rfl) (m72 h v0 v1 G r hr)
/-- (*coxswain/cells.Mem).do -/
noncomputable def s73 (q : Bool) (e : Ex) (v0 v1 v2 v3 v4 : Value) (G : GS) : Option (Value × GS) :=
  bS (al Q q 101 z101 G) fun x0 G1 =>
  bP (ep Q q false 22 (.tmp 13) (.const (.pointer none)) v0 (.pointer none)) fun x2 =>
  bS (gd x2 false (some (v0, G1)) G1) fun x3 G4 =>
  bS (gd x2 false (bP (pNil x3) fun y => some (y, G4)) G4) fun x5 G6 =>
  bS (gd x2 false (bP (fa Q q 103 0 0 x5) fun y => some (y, G6)) G6) fun x7 G8 =>
  bS (gd x2 false (bP (ld Q q 96 x7 G8) fun y => some (y, G8)) G8) fun x9 G10 =>
  bS (gd x2 false (bP (ep Q q false 96 (.tmp 19) (.const (.pointer none)) x9 (.pointer none)) fun y => some (y, G10)) G10) fun x11 G12 =>
  bP (pickV x2 (.bool true) x11) fun x13 =>
  ifV x13 (
  bP (bd Q q 101 z101 [] []) fun x14 =>
  bP (st Q q 101 5 x0 x14 G12) fun G15 =>
  bP (lda Q q 101 5 x0 G15) fun x16 =>
  some (x16, G15)) (
  bP (pNil v0) fun x17 =>
  bP (fa Q q 103 3 7 x17) fun x18 =>
  bP (ld Q q 3 x18 G12) fun x19 =>
  bP (bn Q q .add 3 (.tmp 26) (.const (.int .i64 1)) x19 (.int .i64 1)) fun x20 =>
  bP (pNil v0) fun x21 =>
  bP (fa Q q 103 3 7 x21) fun x22 =>
  bP (st Q q 3 1 x22 x20 G12) fun G23 =>
  bP (bd Q q 101 z101 [(0, 0, 1), (1, 1, 1)] [v1, v2]) fun x24 =>
  bP (pNil v0) fun x25 =>
  bP (fa Q q 103 2 2 x25) fun x26 =>
  bP (st Q q 101 5 x26 x24 G23) fun G27 =>
  bS (e.ev.cl 117 [v3] G27) fun x28 G29 =>
  ifV x28 (
  bS (cValue e.ev v4 [] G29) fun x30 G31 =>
  bP (pExtract x30 0) fun x32 =>
  bP (pExtract x30 1) fun x33 =>
  bP (pNil v3) fun x34 =>
  bP (ld Q q 97 x34 G31) fun x35 =>
  bP (pNil v0) fun x36 =>
  bP (fa Q q 103 2 2 x36) fun x37 =>
  bP (fa Q q 101 2 2 x37) fun x38 =>
  bP (st Q q 38 1 x38 x35 G31) fun G39 =>
  bP (pNil v0) fun x40 =>
  bP (fa Q q 103 2 2 x40) fun x41 =>
  bP (fa Q q 101 3 3 x41) fun x42 =>
  bP (st Q q 38 1 x42 x32 G39) fun G43 =>
  bP (pNil v0) fun x44 =>
  bP (fa Q q 103 2 2 x44) fun x45 =>
  bP (fa Q q 101 4 4 x45) fun x46 =>
  bP (st Q q 4 1 x46 x33 G43) fun G47 =>
  bP (pNil v3) fun x48 =>
  bP (st Q q 97 1 x48 x32 G47) fun G49 =>
  bP (pNil v0) fun x50 =>
  bP (fa Q q 103 2 2 x50) fun x51 =>
  bP (lda Q q 101 5 x51 G49) fun x52 =>
  bP (st Q q 101 5 x0 x52 G49) fun G53 =>
  bP (lda Q q 101 5 x0 G53) fun x54 =>
  some (x54, G53)) (
  bP (pNil v0) fun x55 =>
  bP (fa Q q 103 2 2 x55) fun x56 =>
  bP (lda Q q 101 5 x56 G29) fun x57 =>
  bP (st Q q 101 5 x0 x57 G29) fun G58 =>
  bP (lda Q q 101 5 x0 G58) fun x59 =>
  some (x59, G58)))
theorem m73 {e : Ex} {E : Ev} (h : ExLe Q e E) (v0 v1 v2 v3 v4 : Value) (G : GS) : Ref (s73 true e v0 v1 v2 v3 v4 G) (s73 false (Ex.of E) v0 v1 v2 v3 v4 G) := by
  unfold s73
  exact Ref.go
theorem f73 {orc : FuncId → Bool} {e : Ex} (h : ExLe Q e (E orc)) (v0 v1 v2 v3 v4 : Value) (G : GS) : Ref (s73 true e v0 v1 v2 v3 v4 G) ((E orc).cl 73 [v0, v1, v2, v3, v4] G) :=
  fun r hr => cl_sxE_some Q orc (vs := [v0, v1, v2, v3, v4]) G Tryz.func73 (by kernel_rfl) (by kernel_rfl) (by kernel_rfl) (by kernel_rfl) (by kernel_rfl) (by kernel_rfl) (m73 h v0 v1 v2 v3 v4 G r hr)
/-- (coxswain/cells.deed).store -/
noncomputable def s74 (q : Bool) (e : Ex) (v0 : Value) (G : GS) : Option (Value × GS) :=
  bS (bx q v0 G) fun x0 G1 =>
  bP (fa Q q 135 1 1 x0) fun x2 =>
  bP (ld Q q 38 x2 G1) fun x3 =>
  some (.tuple #[x3, (.bool true)], G1)
theorem m74 {e : Ex} {E : Ev} (h : ExLe Q e E) (v0 : Value) (G : GS) : Ref (s74 true e v0 G) (s74 false (Ex.of E) v0 G) := by
  unfold s74
  exact Ref.go
theorem f74 {orc : FuncId → Bool} {e : Ex} (h : ExLe Q e (E orc)) (v0 : Value) (G : GS) : Ref (s74 true e v0 G) ((E orc).cl 74 [v0] G) :=
  fun r hr => cl_sxE_some Q orc (vs := [v0]) G Tryz.func74 (by kernel_rfl) (by kernel_rfl) (by kernel_rfl) (by kernel_rfl) (by kernel_rfl) (by kernel_rfl) (m74 h v0 G r hr)
noncomputable def b75_0 (q : Bool) (e : Ex) (lp : Env → GS → Option (Exit × Env × GS)) (τ : Env) (G : GS) : Option (Exit × Env × GS) :=
  bV q (τ 1) fun a1_ =>
  bV q (τ 2) fun a2_ =>
  bV q (τ 9) fun a9_ =>
  bV q (τ 10) fun a10_ =>
  bP (bn Q q .lss 3 (.tmp 10) (.tmp 9) a10_ a9_) fun x0 =>
  ifV x0 (
  bP (fa Q q 86 0 0 a2_) fun x1 =>
  bP (ld Q q 3 x1 G) fun x2 =>
  bP (bn Q q .add 3 (.tmp 15) (.tmp 16) x2 a10_) fun x3 =>
  bS (e.ev.cl 29 [a1_, x3, (.int .u64 18446744073709551615)] G) fun x4 G5 =>
  bP (fa Q q 86 1 1 a2_) fun x6 =>
  bP (ld Q q 3 x6 G5) fun x7 =>
  bP (bn Q q .add 3 (.tmp 21) (.tmp 22) x7 a10_) fun x8 =>
  bS (e.ev.cl 29 [a1_, x8, (.int .u64 0)] G5) fun x9 G10 =>
  bP (bn Q q .add 3 (.tmp 10) (.const (.int .i64 1)) a10_ (.int .i64 1)) fun x11 =>
  lp (tu τ [(1, a1_), (2, a2_), (9, a9_), (10, x11), (4, a10_), (11, x0), (12, a10_), (13, a1_), (14, x1), (15, x2), (16, a10_), (17, x3), (18, x4), (19, a1_), (20, x6), (21, x7), (22, a10_), (23, x8), (24, x9), (25, x11)]) G10) (
  some ((.exit 0), clq q 26 (tu τ [(1, a1_), (2, a2_), (9, a9_), (10, a10_), (11, x0)]), G))
theorem mb75_0 {e : Ex} {E : Ev} (h : ExLe Q e E) {lp lp' : Env → GS → Option (Exit × Env × GS)} (hlp : LpLe lp lp') (τ : Env) (G : GS) : Ref (b75_0 true e lp τ G) (b75_0 false (Ex.of E) lp' τ G) := by
  unfold b75_0
  exact Ref.go
theorem l75_0 {orc : FuncId → Bool} {e : Ex} (h : ExLe Q e (E orc)) (lp : Env → GS → Option (Exit × Env × GS)) (hlp : ∀ τ G, Ref (lp τ G) (mapE ((E orc).lp (subAt [1, 1, 1, 0, 0] (bodyOf Tryz.f75)) (lst 26 τ) G))) (T : List Value) (G : GS) (hT : T.length = 26) : Ref (b75_0 true e lp (nth undef T) G) (mapE ((E orc).lp (subAt [1, 1, 1, 0, 0] (bodyOf Tryz.f75)) T G)) :=
  fun r hr => lp_sxM Q orc G hT (by kernel_rfl) (mb75_0 h ⟨hlp⟩ _ _ r hr)
/-- coxswain/run.Fill -/
noncomputable def s75 (q : Bool) (e : Ex) (v0 v1 : Value) (G : GS) : Option (Value × GS) :=
  bS (bx q v0 G) fun x0 G1 =>
  bP (lda Q q 86 3 x0 G1) fun x2 =>
  bS (e.ev.cl 85 [x2] G1) fun x3 G4 =>
  bP (un Q q .not x3) fun x5 =>
  ifV x5 (
  some (.tuple #[], G4)) (
  bP (fa Q q 86 2 2 x0) fun x6 =>
  bP (ld Q q 3 x6 G4) fun x7 =>
  bL q e 75 0 (subAt [1, 1, 1, 0, 0] (bodyOf Tryz.f75)) 26 (tu (nth undef [v0, v1]) [(2, x0), (5, x2), (6, x3), (7, x5), (8, x6), (9, x7), (10, (.int .i64 0))]) G4 fun e8 t9 G10 =>
  ifE e8 (.exit 0) (
  some (.tuple #[], G10)) (none))
theorem m75 {e : Ex} {E : Ev} (h : ExLe Q e E) (v0 v1 : Value) (G : GS) : Ref (s75 true e v0 v1 G) (s75 false (Ex.of E) v0 v1 G) := by
  unfold s75
  exact Ref.go
theorem f75 {orc : FuncId → Bool} {e : Ex} (h : ExLe Q e (E orc)) (v0 v1 : Value) (G : GS) : Ref (s75 true e v0 v1 G) ((E orc).cl 75 [v0, v1] G) :=
  fun r hr => cl_sxE_some Q orc (vs := [v0, v1]) G Tryz.func75 (by kernel_rfl) (by kernel_rfl) (by kernel_rfl) (by kernel_rfl) (by kernel_rfl) (by kernel_rfl) (m75 h v0 v1 G r hr)
/-- (*coxswain/run.Balance).Step -/
noncomputable def s76 (q : Bool) (e : Ex) (v0 v1 : Value) (G : GS) : Option (Value × GS) :=
  bP (ep Q q false 93 (.tmp 9) (.const (.pointer none)) v0 (.pointer none)) fun x0 =>
  bS (gd x0 false (some (v0, G)) G) fun x1 G2 =>
  bS (gd x0 false (bP (pNil x1) fun y => some (y, G2)) G2) fun x3 G4 =>
  bS (gd x0 false (bP (fa Q q 150 8 11 x3) fun y => some (y, G4)) G4) fun x5 G6 =>
  bS (gd x0 false (bP (ld Q q 4 x5 G6) fun y => some (y, G6)) G6) fun x7 G8 =>
  bS (gd x0 false (bP (un Q q .not x7) fun y => some (y, G8)) G8) fun x9 G10 =>
  bP (pickV x0 (.bool true) x9) fun x11 =>
  bS (gd x11 false (some (v0, G10)) G10) fun x12 G13 =>
  bS (gd x11 false (bP (pNil x12) fun y => some (y, G13)) G13) fun x14 G15 =>
  bS (gd x11 false (bP (fa Q q 150 9 12 x14) fun y => some (y, G15)) G15) fun x16 G17 =>
  bS (gd x11 false (bP (ld Q q 4 x16 G17) fun y => some (y, G17)) G17) fun x18 G19 =>
  bP (pickV x11 (.bool true) x18) fun x20 =>
  ifV x20 (
  some ((.bool true), G19)) (
  bP (pNil v0) fun x21 =>
  bP (fa Q q 150 7 10 x21) fun x22 =>
  bP (st Q q 38 1 x22 (.int .u64 0) G19) fun G23 =>
  bP (pNil v0) fun x24 =>
  bP (fa Q q 150 2 5 x24) fun x25 =>
  bP (ld Q q 52 x25 G23) fun x26 =>
  bP (ep Q q true 52 (.tmp 30) (.const (.pointer none)) x26 (.pointer none)) fun x27 =>
  ifV x27 (
  bS (e.ev.cl 118 [v0, v1] G23) fun x28 G29 =>
  bP (pNil v0) fun x30 =>
  bP (fa Q q 150 9 12 x30) fun x31 =>
  bP (ld Q q 4 x31 G29) fun x32 =>
  some (x32, G29)) (
  bP (pNil v0) fun x33 =>
  bP (fa Q q 150 0 0 x33) fun x34 =>
  bS (e.ev.cl 119 [x34] G23) fun x35 G36 =>
  bP (pExtract x35 0) fun x37 =>
  bP (pExtract x35 1) fun x38 =>
  ifV x38 (
  bP (pNil v0) fun x39 =>
  bP (fa Q q 150 4 7 x39) fun x40 =>
  bP (ld Q q 90 x40 (G36.room 13)) fun x41 =>
  bS (e.ev.cl 120 [v1, x37] (G36.room 13)) fun x43 G42 =>
  chk ((sameO (ld Q q 90 x40 G42) x41 && true)) <|
  bS (bs Q q 90 1 (rep z38 1) 1 [(0, 0, 1)] [x43] (G42.at' (G36.nx + 8))) fun x44 G45 =>
  bS (ap Q q 90 90 1 8 x41 x44 (G45.back G42)) fun x47 G46 =>
  bP (pNil v0) fun x48 =>
  bP (fa Q q 150 4 7 x48) fun x49 =>
  bP (st Q q 90 1 x49 x47 G46) fun G50 =>
  bP (pNil v0) fun x51 =>
  bP (fa Q q 150 0 0 x51) fun x52 =>
  bP (fa Q q 147 1 1 x52) fun x53 =>
  bP (ld Q q 3 x53 G50) fun x54 =>
  bP (bn Q q .eql 3 (.tmp 63) (.const (.int .i64 0)) x54 (.int .i64 0)) fun x55 =>
  ifV x55 (
  bP (pNil v0) fun x56 =>
  bP (fa Q q 150 4 7 x56) fun x57 =>
  bP (ld Q q 90 x57 (G50.room 14)) fun x58 =>
  bP (pNil v0) fun x59 =>
  bP (fa Q q 150 3 6 x59) fun x60 =>
  bP (ld Q q 38 x60 (G50.room 14)) fun x61 =>
  bS (e.ev.cl 37 [x58, x61] (G50.room 14)) fun x63 G62 =>
  bP (pExtract x63 0) fun x64 =>
  bP (pExtract x63 1) fun x65 =>
  bP (un Q q .not x65) fun x66 =>
  bP (pNil v0) fun x67 =>
  bP (fa Q q 150 5 8 x67) fun x68 =>
  bP (st Q q 3 1 x68 x64 G62) fun G69 =>
  bP (pNil v0) fun x70 =>
  bP (fa Q q 150 9 12 x70) fun x71 =>
  bP (st Q q 4 1 x71 x66 G69) fun G72 =>
  bP (pNil v0) fun x73 =>
  bP (fa Q q 150 9 12 x73) fun x74 =>
  bP (ld Q q 4 x74 G72) fun x75 =>
  some (x75, G72)) (
  bP (pNil v0) fun x76 =>
  bP (fa Q q 150 9 12 x76) fun x77 =>
  bP (ld Q q 4 x77 G50) fun x78 =>
  some (x78, G50))) (
  bP (pNil v0) fun x79 =>
  bP (fa Q q 150 1 2 x79) fun x80 =>
  bP (fa Q q 86 1 1 x80) fun x81 =>
  bP (ld Q q 3 x81 (G36.room 12)) fun x82 =>
  bP (pNil v0) fun x83 =>
  bP (fa Q q 150 5 8 x83) fun x84 =>
  bP (ld Q q 3 x84 (G36.room 12)) fun x85 =>
  bP (bn Q q .add 3 (.tmp 95) (.tmp 99) x82 x85) fun x86 =>
  bS (e.ev.cl 29 [v1, x86, (.int .u64 1)] (G36.room 12)) fun x88 G87 =>
  bP (pNil v0) fun x89 =>
  bP (fa Q q 150 5 8 x89) fun x90 =>
  bP (ld Q q 3 x90 G87) fun x91 =>
  bP (pNil v0) fun x92 =>
  bP (fa Q q 150 6 9 x92) fun x93 =>
  bP (st Q q 3 1 x93 x91 G87) fun G94 =>
  bS (e.ev.cl 84 [v0, (.int .i64 0)] G94) fun x95 G96 =>
  some ((.bool true), G96))))
theorem m76 {e : Ex} {E : Ev} (h : ExLe Q e E) (v0 v1 : Value) (G : GS) : Ref (s76 true e v0 v1 G) (s76 false (Ex.of E) v0 v1 G) := by
  unfold s76
  exact Ref.go
set_option maxHeartbeats 8000000 in
theorem f76 {orc : FuncId → Bool} {e : Ex} (h : ExLe Q e (E orc)) (v0 v1 : Value) (G : GS) : Ref (s76 true e v0 v1 G) ((E orc).cl 76 [v0, v1] G) :=
  fun r hr => cl_sxE_some Q orc (vs := [v0, v1]) G Tryz.func76 (by kernel_rfl) (by kernel_rfl) (by kernel_rfl) (by kernel_rfl) (by kernel_rfl) (by kernel_rfl) (m76 h v0 v1 G r hr)
/-- (*coxswain/run.Balance).Flagged -/
noncomputable def s77 (q : Bool) (e : Ex) (v0 : Value) (G : GS) : Option (Value × GS) :=
  bP (ep Q q false 93 (.tmp 3) (.const (.pointer none)) v0 (.pointer none)) fun x0 =>
  bS (gd x0 false (some (v0, G)) G) fun x1 G2 =>
  bS (gd x0 false (bP (pNil x1) fun y => some (y, G2)) G2) fun x3 G4 =>
  bS (gd x0 false (bP (fa Q q 150 8 11 x3) fun y => some (y, G4)) G4) fun x5 G6 =>
  bS (gd x0 false (bP (ld Q q 4 x5 G6) fun y => some (y, G6)) G6) fun x7 G8 =>
  bS (gd x0 false (bP (un Q q .not x7) fun y => some (y, G8)) G8) fun x9 G10 =>
  bP (pickV x0 (.bool true) x9) fun x11 =>
  ifV x11 (
  some ((.int .i64 (-1)), G10)) (
  bP (pNil v0) fun x12 =>
  bP (fa Q q 150 6 9 x12) fun x13 =>
  bP (ld Q q 3 x13 G10) fun x14 =>
  some (x14, G10))
theorem m77 {e : Ex} {E : Ev} (h : ExLe Q e E) (v0 : Value) (G : GS) : Ref (s77 true e v0 G) (s77 false (Ex.of E) v0 G) := by
  unfold s77
  exact Ref.go
theorem f77 {orc : FuncId → Bool} {e : Ex} (h : ExLe Q e (E orc)) (v0 : Value) (G : GS) : Ref (s77 true e v0 G) ((E orc).cl 77 [v0] G) :=
  fun r hr => cl_sxE_some Q orc (vs := [v0]) G Tryz.func77 (by kernel_rfl) (by kernel_rfl) (by kernel_rfl) (by kernel_rfl) (by kernel_rfl) (by kernel_rfl) (m77 h v0 G r hr)
noncomputable def b78_0 (q : Bool) (e : Ex) (lp : Env → GS → Option (Exit × Env × GS)) (τ : Env) (G : GS) : Option (Exit × Env × GS) :=
  bV q (τ 5) fun a5_ =>
  bV q (τ 12) fun a12_ =>
  bV q (τ 13) fun a13_ =>
  bV q (τ 14) fun a14_ =>
  bP (bn Q q .lss 3 (.tmp 14) (.tmp 13) a14_ a13_) fun x0 =>
  ifV x0 (
  bP (ias Q q 90 1 a12_ a14_) fun x1 =>
  bP (ld Q q 38 x1 G) fun x2 =>
  bP (bn Q q .neq 38 (.tmp 19) (.const (.int .u64 0)) x2 (.int .u64 0)) fun x3 =>
  bS (bs Q q 140 1 (rep z4 1) 1 [(0, 0, 1)] [x3] G) fun x4 G5 =>
  bS (ap Q q 140 140 1 1 a5_ x4 G5) fun x6 G7 =>
  bP (bn Q q .add 3 (.tmp 14) (.const (.int .i64 1)) a14_ (.int .i64 1)) fun x8 =>
  lp (tu τ [(5, x6), (12, a12_), (13, a13_), (14, x8), (7, x2), (15, x0), (16, x1), (17, x2), (18, a5_), (19, x2), (20, x3), (21, x4), (22, x6), (23, x8)]) G7) (
  some ((.exit 0), clq q 25 (tu τ [(5, a5_), (12, a12_), (13, a13_), (14, a14_), (15, x0)]), G))
theorem mb78_0 {e : Ex} {E : Ev} (h : ExLe Q e E) {lp lp' : Env → GS → Option (Exit × Env × GS)} (hlp : LpLe lp lp') (τ : Env) (G : GS) : Ref (b78_0 true e lp τ G) (b78_0 false (Ex.of E) lp' τ G) := by
  unfold b78_0
  exact Ref.go
theorem l78_0 {orc : FuncId → Bool} {e : Ex} (h : ExLe Q e (E orc)) (lp : Env → GS → Option (Exit × Env × GS)) (hlp : ∀ τ G, Ref (lp τ G) (mapE ((E orc).lp (subAt [1, 1, 0, 1, 0, 0] (bodyOf Tryz.f78)) (lst 25 τ) G))) (T : List Value) (G : GS) (hT : T.length = 25) : Ref (b78_0 true e lp (nth undef T) G) (mapE ((E orc).lp (subAt [1, 1, 0, 1, 0, 0] (bodyOf Tryz.f78)) T G)) :=
  fun r hr => lp_sxM Q orc G hT (by kernel_rfl) (mb78_0 h ⟨hlp⟩ _ _ r hr)
/-- coxswain/run.Flags -/
noncomputable def s78 (q : Bool) (e : Ex) (v0 v1 : Value) (G : GS) : Option (Value × GS) :=
  bS (bx q v0 G) fun x0 G1 =>
  bP (lda Q q 86 3 x0 G1) fun x2 =>
  bP (fa Q q 86 1 1 x0) fun x3 =>
  bP (ld Q q 3 x3 G1) fun x4 =>
  bS (e.ev.cl 121 [x2, x4, v1] G1) fun x5 G6 =>
  bP (ln Q q 90 x5) fun x7 =>
  bL q e 78 0 (subAt [1, 1, 0, 1, 0, 0] (bodyOf Tryz.f78)) 25 (tu (nth undef [v0, v1]) [(2, x0), (4, (.slice none 0 0)), (5, (.slice none 0 0)), (8, x2), (9, x3), (10, x4), (11, v1), (12, x5), (13, x7), (14, (.int .i64 0))]) G6 fun e8 t9 G10 =>
  bV q (t9 5) fun t9x5_ =>
  ifE e8 (.exit 0) (
  some (t9x5_, G10)) (none)
theorem m78 {e : Ex} {E : Ev} (h : ExLe Q e E) (v0 v1 : Value) (G : GS) : Ref (s78 true e v0 v1 G) (s78 false (Ex.of E) v0 v1 G) := by
  unfold s78
  exact Ref.go
theorem f78 {orc : FuncId → Bool} {e : Ex} (h : ExLe Q e (E orc)) (v0 v1 : Value) (G : GS) : Ref (s78 true e v0 v1 G) ((E orc).cl 78 [v0, v1] G) :=
  fun r hr => cl_sxE_some Q orc (vs := [v0, v1]) G Tryz.func78 (by kernel_rfl) (by kernel_rfl) (by kernel_rfl) (by kernel_rfl) (by kernel_rfl) (by kernel_rfl) (m78 h v0 v1 G r hr)
noncomputable def b79_0 (q : Bool) (e : Ex) (lp : Env → GS → Option (Exit × Env × GS)) (τ : Env) (G : GS) : Option (Exit × Env × GS) :=
  bV q (τ 0) fun a0_ =>
  bV q (τ 1) fun a1_ =>
  bV q (τ 5) fun a5_ =>
  bP (ln Q q 139 a0_) fun x0 =>
  bP (bn Q q .lss 3 (.tmp 6) (.tmp 8) a5_ x0) fun x1 =>
  ifV x1 (
  bP (ias Q q 139 1 a0_ a5_) fun x2 =>
  bP (ld Q q 3 x2 G) fun x3 =>
  bP (bn Q q .eql 3 (.tmp 15) (.tmp 16) x3 a1_) fun x4 =>
  ifV x4 (
  some (.ret, clq q 18 (tu τ [(0, a0_), (1, a1_), (5, a5_), (4, (.bool true)), (6, a5_), (7, a0_), (8, x0), (9, x1), (12, a0_), (13, a5_), (14, x2), (15, x3), (16, a1_), (17, x4)]), G)) (
  bP (bn Q q .add 3 (.tmp 10) (.const (.int .i64 1)) a5_ (.int .i64 1)) fun x5 =>
  lp (tu τ [(0, a0_), (1, a1_), (5, x5), (6, a5_), (7, a0_), (8, x0), (9, x1), (10, a5_), (11, x5), (12, a0_), (13, a5_), (14, x2), (15, x3), (16, a1_), (17, x4)]) G)) (
  some ((.exit 0), clq q 18 (tu τ [(0, a0_), (1, a1_), (5, a5_), (6, a5_), (7, a0_), (8, x0), (9, x1)]), G))
theorem mb79_0 {e : Ex} {E : Ev} (h : ExLe Q e E) {lp lp' : Env → GS → Option (Exit × Env × GS)} (hlp : LpLe lp lp') (τ : Env) (G : GS) : Ref (b79_0 true e lp τ G) (b79_0 false (Ex.of E) lp' τ G) := by
  unfold b79_0
  exact Ref.go
theorem l79_0 {orc : FuncId → Bool} {e : Ex} (h : ExLe Q e (E orc)) (lp : Env → GS → Option (Exit × Env × GS)) (hlp : ∀ τ G, Ref (lp τ G) (mapE ((E orc).lp (subAt [1, 0, 1, 0, 0] (bodyOf Tryz.f79)) (lst 18 τ) G))) (T : List Value) (G : GS) (hT : T.length = 18) : Ref (b79_0 true e lp (nth undef T) G) (mapE ((E orc).lp (subAt [1, 0, 1, 0, 0] (bodyOf Tryz.f79)) T G)) :=
  fun r hr => lp_sxM Q orc G hT (by kernel_rfl) (mb79_0 h ⟨hlp⟩ _ _ r hr)
/-- coxswain/coxswainkit.Among -/
noncomputable def s79 (q : Bool) (e : Ex) (v0 v1 : Value) (G : GS) : Option (Value × GS) :=
  bL q e 79 0 (subAt [1, 0, 1, 0, 0] (bodyOf Tryz.f79)) 18 (tu (nth undef [v0, v1]) [(4, (.bool false)), (5, (.int .i64 0))]) G fun e0 t1 G2 =>
  bV q (t1 4) fun t1x4_ =>
  ifE e0 (.exit 0) (
  some ((.bool false), G2)) (ifE e0 .ret (
  some (t1x4_, G2)) (none))
theorem m79 {e : Ex} {E : Ev} (h : ExLe Q e E) (v0 v1 : Value) (G : GS) : Ref (s79 true e v0 v1 G) (s79 false (Ex.of E) v0 v1 G) := by
  unfold s79
  exact Ref.go
theorem f79 {orc : FuncId → Bool} {e : Ex} (h : ExLe Q e (E orc)) (v0 v1 : Value) (G : GS) : Ref (s79 true e v0 v1 G) ((E orc).cl 79 [v0, v1] G) :=
  fun r hr => cl_sxE_some Q orc (vs := [v0, v1]) G Tryz.func79 (by kernel_rfl) (by kernel_rfl) (by kernel_rfl) (by kernel_rfl) (by kernel_rfl) (by kernel_rfl) (m79 h v0 v1 G r hr)
noncomputable def b80_0 (q : Bool) (e : Ex) (lp : Env → GS → Option (Exit × Env × GS)) (τ : Env) (G : GS) : Option (Exit × Env × GS) :=
  bV q (τ 0) fun a0_ =>
  bV q (τ 1) fun a1_ =>
  bV q (τ 5) fun a5_ =>
  bV q (τ 8) fun a8_ =>
  bV q (τ 9) fun a9_ =>
  bV q (τ 10) fun a10_ =>
  bP (bn Q q .lss 3 (.tmp 10) (.tmp 9) a10_ a9_) fun x0 =>
  ifV x0 (
  bP (ias Q q 90 1 a8_ a10_) fun x1 =>
  bP (ld Q q 38 x1 G) fun x2 =>
  bP (bn Q q .lss 3 (.tmp 15) (.const (.int .i64 0)) a5_ (.int .i64 0)) fun x3 =>
  bS (gd x3 false (some (a1_, G)) G) fun x4 G5 =>
  bS (gd x3 false (some (x2, G5)) G5) fun x6 G7 =>
  bS (gd x3 false (some (a0_, G7)) G7) fun x8 G9 =>
  bS (gd x3 false (some (a5_, G9)) G9) fun x10 G11 =>
  bS (gd x3 false (bP (ias Q q 90 1 x8 x10) fun y => some (y, G11)) G11) fun x12 G13 =>
  bS (gd x3 false (bP (ld Q q 38 x12 G13) fun y => some (y, G13)) G13) fun x14 G15 =>
  bS (gd x3 false (bS (cValue e.ev x4 [x6, x14] G15) fun y G => some (y, G)) G15) fun x16 G17 =>
  bS (gd x3 false (bP (bn Q q .gtr 3 (.tmp 24) (.const (.int .i64 0)) x16 (.int .i64 0)) fun y => some (y, G17)) G17) fun x18 G19 =>
  bP (pickV x3 (.bool true) x18) fun x20 =>
  ifV x20 (
  bP (bn Q q .add 3 (.tmp 10) (.const (.int .i64 1)) a10_ (.int .i64 1)) fun x21 =>
  lp (tu τ [(0, a0_), (1, a1_), (5, a10_), (8, a8_), (9, a9_), (10, x21), (6, a10_), (7, x2), (11, x0), (12, a10_), (13, x1), (14, x2), (15, a5_), (16, x3), (17, x3), (18, x4), (19, x6), (20, x8), (21, x10), (22, x12), (23, x14), (24, x16), (25, x18), (26, x20), (27, a10_), (28, x21)]) G19) (
  bP (bn Q q .add 3 (.tmp 10) (.const (.int .i64 1)) a10_ (.int .i64 1)) fun x22 =>
  lp (tu τ [(0, a0_), (1, a1_), (5, a5_), (8, a8_), (9, a9_), (10, x22), (6, a10_), (7, x2), (11, x0), (12, a10_), (13, x1), (14, x2), (15, a5_), (16, x3), (17, x3), (18, x4), (19, x6), (20, x8), (21, x10), (22, x12), (23, x14), (24, x16), (25, x18), (26, x20), (28, x22)]) G19)) (
  some ((.exit 0), clq q 30 (tu τ [(0, a0_), (1, a1_), (5, a5_), (8, a8_), (9, a9_), (10, a10_), (11, x0)]), G))
theorem mb80_0 {e : Ex} {E : Ev} (h : ExLe Q e E) {lp lp' : Env → GS → Option (Exit × Env × GS)} (hlp : LpLe lp lp') (τ : Env) (G : GS) : Ref (b80_0 true e lp τ G) (b80_0 false (Ex.of E) lp' τ G) := by
  unfold b80_0
  exact Ref.go
theorem l80_0 {orc : FuncId → Bool} {e : Ex} (h : ExLe Q e (E orc)) (lp : Env → GS → Option (Exit × Env × GS)) (hlp : ∀ τ G, Ref (lp τ G) (mapE ((E orc).lp (subAt [1, 1, 0, 1, 0, 0] (bodyOf Tryz.f80)) (lst 30 τ) G))) (T : List Value) (G : GS) (hT : T.length = 30) : Ref (b80_0 true e lp (nth undef T) G) (mapE ((E orc).lp (subAt [1, 1, 0, 1, 0, 0] (bodyOf Tryz.f80)) T G)) :=
  fun r hr => lp_sxM Q orc G hT (by kernel_rfl) (mb80_0 h ⟨hlp⟩ _ _ r hr)
/-- coxswain/run.greatest[uint64] -/
noncomputable def s80 (q : Bool) (e : Ex) (v0 v1 : Value) (G : GS) : Option (Value × GS) :=
  bP (ln Q q 90 v0) fun x0 =>
  bL q e 80 0 (subAt [1, 1, 0, 1, 0, 0] (bodyOf Tryz.f80)) 30 (tu (nth undef [v0, v1]) [(4, (.int .i64 0)), (5, (.int .i64 (-1))), (8, v0), (9, x0), (10, (.int .i64 0))]) G fun e1 t2 G3 =>
  bV q (t2 5) fun t2x5_ =>
  ifE e1 (.exit 0) (
  some (t2x5_, G3)) (none)
theorem m80 {e : Ex} {E : Ev} (h : ExLe Q e E) (v0 v1 : Value) (G : GS) : Ref (s80 true e v0 v1 G) (s80 false (Ex.of E) v0 v1 G) := by
  unfold s80
  exact Ref.go
theorem f80 {orc : FuncId → Bool} {e : Ex} (h : ExLe Q e (E orc)) (v0 v1 : Value) (G : GS) : Ref (s80 true e v0 v1 G) ((E orc).cl 80 [v0, v1] G) :=
  fun r hr => cl_sxE_some Q orc (vs := [v0, v1]) G Tryz.func80 (by kernel_rfl) (by kernel_rfl) (by kernel_rfl) (by kernel_rfl) (by kernel_rfl) (by kernel_rfl) (m80 h v0 v1 G r hr)
/-- cmp.Compare[uint64] -/
noncomputable def s81 (q : Bool) (e : Ex) (v0 v1 : Value) (G : GS) : Option (Value × GS) :=
  bS (e.ev.cl 122 [v0] G) fun x0 G1 =>
  bS (e.ev.cl 122 [v1] G1) fun x2 G3 =>
  ifV x0 (
  ifV x2 (
  some ((.int .i64 0), G3)) (
  some ((.int .i64 (-1)), G3))) (
  ifV x2 (
  some ((.int .i64 1), G3)) (
  bP (bn Q q .lss 38 (.tmp 14) (.tmp 15) v0 v1) fun x4 =>
  ifV x4 (
  some ((.int .i64 (-1)), G3)) (
  bP (bn Q q .gtr 38 (.tmp 17) (.tmp 18) v0 v1) fun x5 =>
  ifV x5 (
  some ((.int .i64 1), G3)) (
  some ((.int .i64 0), G3)))))
theorem m81 {e : Ex} {E : Ev} (h : ExLe Q e E) (v0 v1 : Value) (G : GS) : Ref (s81 true e v0 v1 G) (s81 false (Ex.of E) v0 v1 G) := by
  unfold s81
  exact Ref.go
theorem f81 {orc : FuncId → Bool} {e : Ex} (h : ExLe Q e (E orc)) (v0 v1 : Value) (G : GS) : Ref (s81 true e v0 v1 G) ((E orc).cl 81 [v0, v1] G) :=
  fun r hr => cl_sxE_some Q orc (vs := [v0, v1]) G Tryz.func81 (by kernel_rfl) (by kernel_rfl) (by kernel_rfl) (by kernel_rfl) (by kernel_rfl) (by kernel_rfl) (m81 h v0 v1 G r hr)
/-- slices.SortFunc[[]uint64,uint64] -/
noncomputable def s82 (q : Bool) (e : Ex) (v0 v1 : Value) (G : GS) : Option (Value × GS) :=
  bP (ln Q q 90 v0) fun x0 =>
  bP (cv Q q 3 212 .i64 .u64 x0) fun x1 =>
  bS (e.ev.cl 124 [x1] G) fun x2 G3 =>
  bS (e.ev.cl 123 [v0, (.int .i64 0), x0, x2, v1] G3) fun x4 G5 =>
  some (.tuple #[], G5)
theorem m82 {e : Ex} {E : Ev} (h : ExLe Q e E) (v0 v1 : Value) (G : GS) : Ref (s82 true e v0 v1 G) (s82 false (Ex.of E) v0 v1 G) := by
  unfold s82
  exact Ref.go
theorem f82 {orc : FuncId → Bool} {e : Ex} (h : ExLe Q e (E orc)) (v0 v1 : Value) (G : GS) : Ref (s82 true e v0 v1 G) ((E orc).cl 82 [v0, v1] G) :=
  fun r hr => cl_sxE_some Q orc (vs := [v0, v1]) G Tryz.func82 (by kernel_rfl) (by kernel_rfl) (by kernel_rfl) (by kernel_rfl) (by kernel_rfl) (by kernel_rfl) (m82 h v0 v1 G r hr)
/-- coxswain/ready.NewLook -/
noncomputable def s83 (q : Bool) (e : Ex) (v0 v1 : Value) (G : GS) : Option (Value × GS) :=
  bS (bx q v0 G) fun x0 G1 =>
  bP (lda Q q 36 13 x0 G1) fun x2 =>
  bS (e.ev.cl 47 [x2, v1] G1) fun x3 G4 =>
  bP (bd Q q 53 z53 [(0, 0, 19)] [x3]) fun x5 =>
  bS (bx q x5 G4) fun x6 G7 =>
  bS (al Q q 52 z52 G7) fun x8 G9 =>
  bP (st Q q 52 1 x8 x6 G9) fun G10 =>
  bP (ld Q q 52 x8 G10) fun x11 =>
  bP (pNil x11) fun x12 =>
  bP (fa Q q 53 0 0 x12) fun x13 =>
  bP (fa Q q 40 6 18 x13) fun x14 =>
  bP (ld Q q 23 x14 G10) fun x15 =>
  bP (bn Q q .eql 23 (.tmp 15) (.const (.int .i64 0)) x15 (.int .i64 0)) fun x16 =>
  ifV x16 (
  bP (ld Q q 52 x8 (G10.room 19)) fun x17 =>
  bP (ld Q q 52 x8 (G10.room 19)) fun x18 =>
  bP (pNil x18) fun x19 =>
  bP (fa Q q 53 0 0 x19) fun x20 =>
  bS (e.ev.cl 48 [x20] (G10.room 19)) fun x22 G21 =>
  chk ((sameO (ld Q q 52 x8 G21) x17 && true)) <|
  bP (bd Q q 220 z220 [(0, 0, 1), (1, 1, 1), (2, 2, 1)] [(.func (.func 125) #[] #[x0]), (.func (.func 127) #[] #[]), (.func (.func 128) #[] #[x8])]) fun x23 =>
  bS (bx q x23 (G21.at' (G10.nx + 8))) fun x24 G25 =>
  bP (ifc Q q 213 x24) fun x26 =>
  bP (ld Q q 52 x8 (G25.back G21)) fun x27 =>
  chk ((sameO (ld Q q 52 x8 (G10.room 19)) x27 && true)) <|
  bP (pNil x27) fun x28 =>
  bP (fa Q q 53 0 0 x28) fun x29 =>
  bS (e.ev.cl 64 [x29] (G25.back G21)) fun x31 G30 =>
  chk ((sameO (ld Q q 52 x8 G30) x17 && true)) <|
  bS (bs Q q 37 3 (rep z108 3) 1 [(0, 0, 1), (1, 1, 1), (2, 2, 1)] [x22, x26, x31] (G30.at' (G10.nx + 14))) fun x32 G33 =>
  bP (pNil x17) fun x34 =>
  bP (fa Q q 53 0 0 x34) fun x35 =>
  bP (fa Q q 40 4 16 x35) fun x36 =>
  bP (st Q q 37 1 x36 x32 (G33.back G30)) fun G37 =>
  bP (ld Q q 52 x8 G37) fun x38 =>
  some (x38, G37)) (
  bP (ld Q q 52 x8 G10) fun x39 =>
  some (x39, G10))
theorem m83 {e : Ex} {E : Ev} (h : ExLe Q e E) (v0 v1 : Value) (G : GS) : Ref (s83 true e v0 v1 G) (s83 false (Ex.of E) v0 v1 G) := by
  unfold s83
  exact Ref.go
theorem f83 {orc : FuncId → Bool} {e : Ex} (h : ExLe Q e (E orc)) (v0 v1 : Value) (G : GS) : Ref (s83 true e v0 v1 G) ((E orc).cl 83 [v0, v1] G) :=
  fun r hr => cl_sxE_some Q orc (vs := [v0, v1]) G Tryz.func83 (by kernel_rfl) (by kernel_rfl) (by kernel_rfl) (by kernel_rfl) (by kernel_rfl) (by kernel_rfl) (m83 h v0 v1 G r hr)
/-- (*coxswain/run.Balance).ends -/
noncomputable def s84 (q : Bool) (e : Ex) (v0 v1 : Value) (G : GS) : Option (Value × GS) :=
  bP (pNil v0) fun x0 =>
  bP (fa Q q 150 9 12 x0) fun x1 =>
  bP (st Q q 4 1 x1 (.bool true) G) fun G2 =>
  bP (pNil v0) fun x3 =>
  bP (fa Q q 150 10 13 x3) fun x4 =>
  bP (st Q q 23 1 x4 v1 G2) fun G5 =>
  some (.tuple #[], G5)
theorem m84 {e : Ex} {E : Ev} (h : ExLe Q e E) (v0 v1 : Value) (G : GS) : Ref (s84 true e v0 v1 G) (s84 false (Ex.of E) v0 v1 G) := by
  unfold s84
  exact Ref.go
theorem f84 {orc : FuncId → Bool} {e : Ex} (h : ExLe Q e (E orc)) (v0 v1 : Value) (G : GS) : Ref (s84 true e v0 v1 G) ((E orc).cl 84 [v0, v1] G) :=
  fun r hr => cl_sxE_some Q orc (vs := [v0, v1]) G Tryz.func84 (by kernel_rfl) (by kernel_rfl) (by kernel_rfl) (by kernel_rfl) (by kernel_rfl) (by kernel_rfl) (m84 h v0 v1 G r hr)
/-- coxswain/run.sized -/
noncomputable def s85 (q : Bool) (e : Ex) (v0 : Value) (G : GS) : Option (Value × GS) :=
  bS (bx q v0 G) fun x0 G1 =>
  bP (fa Q q 86 2 2 x0) fun x2 =>
  bP (ld Q q 3 x2 G1) fun x3 =>
  bP (bn Q q .geq 3 (.tmp 4) (.const (.int .i64 1)) x3 (.int .i64 1)) fun x4 =>
  bS (gd x4 true (bP (fa Q q 86 2 2 x0) fun y => some (y, G1)) G1) fun x5 G6 =>
  bS (gd x4 true (bP (ld Q q 3 x5 G6) fun y => some (y, G6)) G6) fun x7 G8 =>
  bS (gd x4 true (bP (bn Q q .leq 3 (.tmp 8) (.const (.int .i64 64)) x7 (.int .i64 64)) fun y => some (y, G8)) G8) fun x9 G10 =>
  bP (pickV x4 x9 (.bool false)) fun x11 =>
  some (x11, G10)
theorem m85 {e : Ex} {E : Ev} (h : ExLe Q e E) (v0 : Value) (G : GS) : Ref (s85 true e v0 G) (s85 false (Ex.of E) v0 G) := by
  unfold s85
  exact Ref.go
theorem f85 {orc : FuncId → Bool} {e : Ex} (h : ExLe Q e (E orc)) (v0 : Value) (G : GS) : Ref (s85 true e v0 G) ((E orc).cl 85 [v0] G) :=
  fun r hr => cl_sxE_some Q orc (vs := [v0]) G Tryz.func85 (by kernel_rfl) (by kernel_rfl) (by kernel_rfl) (by kernel_rfl) (by kernel_rfl) (by kernel_rfl) (m85 h v0 G r hr)
/-- coxswain/run.All -/
noncomputable def s86 (q : Bool) (e : Ex) (v0 v1 : Value) (G : GS) : Option (Value × GS) :=
  bS (bx q v0 G) fun x0 G1 =>
  bP (lda Q q 86 3 x0 G1) fun x2 =>
  bP (fa Q q 86 0 0 x0) fun x3 =>
  bP (ld Q q 3 x3 G1) fun x4 =>
  bS (e.ev.cl 121 [x2, x4, v1] G1) fun x5 G6 =>
  some (x5, G6)
theorem m86 {e : Ex} {E : Ev} (h : ExLe Q e E) (v0 v1 : Value) (G : GS) : Ref (s86 true e v0 v1 G) (s86 false (Ex.of E) v0 v1 G) := by
  unfold s86
  exact Ref.go
theorem f86 {orc : FuncId → Bool} {e : Ex} (h : ExLe Q e (E orc)) (v0 v1 : Value) (G : GS) : Ref (s86 true e v0 v1 G) ((E orc).cl 86 [v0, v1] G) :=
  fun r hr => cl_sxE_some Q orc (vs := [v0, v1]) G Tryz.func86 (by kernel_rfl) (by kernel_rfl) (by kernel_rfl) (by kernel_rfl) (by kernel_rfl) (by kernel_rfl) (m86 h v0 v1 G r hr)
/-- coxswain/tower.At -/
noncomputable def s87 (q : Bool) (e : Ex) (v0 v1 v2 : Value) (G : GS) : Option (Value × GS) :=
  bS (bx q v0 G) fun x0 G1 =>
  bP (lda Q q 36 13 x0 G1) fun x2 =>
  bS (e.ev.cl 98 [x2] G1) fun x3 G4 =>
  bP (un Q q .not x3) fun x5 =>
  ifV x5 (
  some ((.int .i64 (-1)), G4)) (
  bP (bn Q q .neq 3 (.tmp 12) (.const (.int .i64 (-1))) v1 (.int .i64 (-1))) fun x6 =>
  ifV x6 (
  bP (lda Q q 36 13 x0 G4) fun x7 =>
  bS (e.ev.cl 130 [x7] G4) fun x8 G9 =>
  bS (e.ev.cl 131 [x8, v1, v2] G9) fun x10 G11 =>
  some (x10, G11)) (
  bP (bn Q q .lss 3 (.tmp 20) (.const (.int .i64 4)) v2 (.int .i64 4)) fun x12 =>
  bS (gd x12 false (some (v2, G4)) G4) fun x13 G14 =>
  bS (gd x12 false (bP (fa Q q 36 2 2 x0) fun y => some (y, G14)) G14) fun x15 G16 =>
  bS (gd x12 false (bP (ld Q q 3 x15 G16) fun y => some (y, G16)) G16) fun x17 G18 =>
  bS (gd x12 false (bP (bn Q q .add 3 (.const (.int .i64 4)) (.tmp 25) (.int .i64 4) x17) fun y => some (y, G18)) G18) fun x19 G20 =>
  bS (gd x12 false (bP (bn Q q .geq 3 (.tmp 23) (.tmp 26) x13 x19) fun y => some (y, G20)) G20) fun x21 G22 =>
  bP (pickV x12 (.bool true) x21) fun x23 =>
  ifV x23 (
  some ((.int .i64 (-1)), G22)) (
  bP (lda Q q 36 13 x0 G22) fun x24 =>
  bS (e.ev.cl 132 [x24] G22) fun x25 G26 =>
  bP (bn Q q .sub 3 (.tmp 31) (.const (.int .i64 4)) v2 (.int .i64 4)) fun x27 =>
  bS (e.ev.cl 133 [x25, (.int .i64 0), x27] G26) fun x28 G29 =>
  some (x28, G29))))
theorem m87 {e : Ex} {E : Ev} (h : ExLe Q e E) (v0 v1 v2 : Value) (G : GS) : Ref (s87 true e v0 v1 v2 G) (s87 false (Ex.of E) v0 v1 v2 G) := by
  unfold s87
  exact Ref.go
theorem f87 {orc : FuncId → Bool} {e : Ex} (h : ExLe Q e (E orc)) (v0 v1 v2 : Value) (G : GS) : Ref (s87 true e v0 v1 v2 G) ((E orc).cl 87 [v0, v1, v2] G) :=
  fun r hr => cl_sxE_some Q orc (vs := [v0, v1, v2]) G Tryz.func87 (by kernel_rfl) (by kernel_rfl) (by kernel_rfl) (by kernel_rfl) (by kernel_rfl) (by kernel_rfl) (m87 h v0 v1 v2 G r hr)
/-- (*coxswain/ready.work).pin$1 -/
noncomputable def s88 (q : Bool) (e : Ex) (v0 : Value) (G : GS) : Option (Value × GS) :=
  bP (ld Q q 105 v0 (G.room 12)) fun x0 =>
  bP (pNil x0) fun x1 =>
  bP (fa Q q 40 0 0 x1) fun x2 =>
  bP (fa Q q 36 3 3 x2) fun x3 =>
  bP (fa Q q 34 1 6 x3) fun x4 =>
  bP (lda Q q 32 3 x4 (G.room 12)) fun x5 =>
  bP (ld Q q 105 v0 (G.room 12)) fun x6 =>
  bP (pNil x6) fun x7 =>
  bP (fa Q q 40 1 13 x7) fun x8 =>
  bP (ld Q q 3 x8 (G.room 12)) fun x9 =>
  bS (e.ev.cl 89 [x5, x9] (G.room 12)) fun x11 G10 =>
  some (x11, G10)
theorem m88 {e : Ex} {E : Ev} (h : ExLe Q e E) (v0 : Value) (G : GS) : Ref (s88 true e v0 G) (s88 false (Ex.of E) v0 G) := by
  unfold s88
  exact Ref.go
theorem f88 {orc : FuncId → Bool} {e : Ex} (h : ExLe Q e (E orc)) (v0 : Value) (G : GS) : Ref (s88 true e v0 G) ((E orc).cl 88 [v0] G) :=
  fun r hr => cl_sxE_some Q orc (vs := [v0]) G Tryz.func88 (by kernel_rfl) (by kernel_rfl) (by kernel_rfl) (by kernel_rfl) (by kernel_rfl) (by kernel_rfl) (m88 h v0 G r hr)
/-- coxswain/epoch.NewPin -/
noncomputable def s89 (q : Bool) (e : Ex) (v0 v1 : Value) (G : GS) : Option (Value × GS) :=
  bS (bx q v0 G) fun x0 G1 =>
  bP (bd Q q 231 z231 [(2, 4, 1)] [(.bool true)]) fun x2 =>
  bP (lda Q q 32 3 x0 G1) fun x3 =>
  bP (bd Q q 235 z235 [(0, 0, 6), (1, 6, 3)] [x2, x3]) fun x4 =>
  bS (bx q x4 G1) fun x5 G6 =>
  bP (lda Q q 32 3 x0 G6) fun x7 =>
  bS (e.ev.cl 134 [x7, v1] G6) fun x8 G9 =>
  ifV x8 (
  bP (pNil x5) fun x10 =>
  bP (fa Q q 235 0 0 x10) fun x11 =>
  bS (e.ev.cl 135 [x11, (.int .i64 3)] G9) fun x12 G13 =>
  some (x5, G13)) (
  bP (fa Q q 32 1 1 x0) fun x14 =>
  bP (ld Q q 3 x14 G9) fun x15 =>
  bP (bn Q q .add 3 (.tmp 20) (.tmp 21) x15 v1) fun x16 =>
  bP (pNil x5) fun x17 =>
  bP (fa Q q 235 2 9 x17) fun x18 =>
  bP (st Q q 3 1 x18 x16 G9) fun G19 =>
  bP (bd Q q 229 z229 [(0, 0, 1), (1, 1, 1), (2, 2, 1)] [(.func (.func 136) #[x5] #[]), (.func (.func 137) #[x5] #[]), (.func (.func 138) #[x5] #[])]) fun x20 =>
  bP (pNil x5) fun x21 =>
  bP (fa Q q 235 0 0 x21) fun x22 =>
  bP (fa Q q 231 0 0 x22) fun x23 =>
  bP (st Q q 229 3 x23 x20 G19) fun G24 =>
  some (x5, G24))
theorem m89 {e : Ex} {E : Ev} (h : ExLe Q e E) (v0 v1 : Value) (G : GS) : Ref (s89 true e v0 v1 G) (s89 false (Ex.of E) v0 v1 G) := by
  unfold s89
  exact Ref.go
theorem f89 {orc : FuncId → Bool} {e : Ex} (h : ExLe Q e (E orc)) (v0 v1 : Value) (G : GS) : Ref (s89 true e v0 v1 G) ((E orc).cl 89 [v0, v1] G) :=
  fun r hr => cl_sxE_some Q orc (vs := [v0, v1]) G Tryz.func89 (by kernel_rfl) (by kernel_rfl) (by kernel_rfl) (by kernel_rfl) (by kernel_rfl) (by kernel_rfl) (m89 h v0 v1 G r hr)
/-- (*coxswain/ready.work).pin$2 -/
noncomputable def s90 (q : Bool) (e : Ex) (v0 v1 : Value) (G : GS) : Option (Value × GS) :=
  bP (ld Q q 105 v1 (G.room 9)) fun x0 =>
  bS (e.ev.cl 91 [v0] (G.room 9)) fun x2 G1 =>
  chk ((sameO (ld Q q 105 v1 G1) x0 && true)) <|
  bP (pExtract x2 0) fun x3 =>
  bP (pExtract x2 1) fun x4 =>
  bP (pNil x0) fun x5 =>
  bP (fa Q q 40 3 15 x5) fun x6 =>
  bP (st Q q 3 1 x6 x3 G1) fun G7 =>
  some (.tuple #[], G7)
theorem m90 {e : Ex} {E : Ev} (h : ExLe Q e E) (v0 v1 : Value) (G : GS) : Ref (s90 true e v0 v1 G) (s90 false (Ex.of E) v0 v1 G) := by
  unfold s90
  exact Ref.go
theorem f90 {orc : FuncId → Bool} {e : Ex} (h : ExLe Q e (E orc)) (v0 v1 : Value) (G : GS) : Ref (s90 true e v0 v1 G) ((E orc).cl 90 [v0, v1] G) :=
  fun r hr => cl_sxE_some Q orc (vs := [v0, v1]) G Tryz.func90 (by kernel_rfl) (by kernel_rfl) (by kernel_rfl) (by kernel_rfl) (by kernel_rfl) (by kernel_rfl) (m90 h v0 v1 G r hr)
/-- (*coxswain/epoch.Pin).At -/
noncomputable def s91 (q : Bool) (e : Ex) (v0 : Value) (G : GS) : Option (Value × GS) :=
  bP (ep Q q false 158 (.tmp 5) (.const (.pointer none)) v0 (.pointer none)) fun x0 =>
  ifV x0 (
  some (.tuple #[(.int .i64 0), (.int .i64 1)], G)) (
  bP (pNil v0) fun x1 =>
  bP (fa Q q 235 0 0 x1) fun x2 =>
  bS (e.ev.cl 139 [x2] G) fun x3 G4 =>
  bP (bn Q q .neq 23 (.tmp 11) (.const (.int .i64 0)) x3 (.int .i64 0)) fun x5 =>
  ifV x5 (
  some (.tuple #[(.int .i64 0), x3], G4)) (
  bP (pNil v0) fun x6 =>
  bP (fa Q q 235 3 10 x6) fun x7 =>
  bP (ld Q q 233 x7 G4) fun x8 =>
  bP (cv Q q 233 3 .u32 .i64 x8) fun x9 =>
  some (.tuple #[x9, (.int .i64 0)], G4)))
theorem m91 {e : Ex} {E : Ev} (h : ExLe Q e E) (v0 : Value) (G : GS) : Ref (s91 true e v0 G) (s91 false (Ex.of E) v0 G) := by
  unfold s91
  exact Ref.go
theorem f91 {orc : FuncId → Bool} {e : Ex} (h : ExLe Q e (E orc)) (v0 : Value) (G : GS) : Ref (s91 true e v0 G) ((E orc).cl 91 [v0] G) :=
  fun r hr => cl_sxE_some Q orc (vs := [v0]) G Tryz.func91 (by kernel_rfl) (by kernel_rfl) (by kernel_rfl) (by kernel_rfl) (by kernel_rfl) (by kernel_rfl) (m91 h v0 G r hr)
/-- (*coxswain/ready.Put).alloc$1 -/
noncomputable def s92 (q : Bool) (e : Ex) (v0 : Value) (G : GS) : Option (Value × GS) :=
  bP (ld Q q 26 v0 G) fun x0 =>
  bP (pNil x0) fun x1 =>
  bP (fa Q q 42 0 0 x1) fun x2 =>
  bP (fa Q q 40 0 0 x2) fun x3 =>
  bP (fa Q q 36 3 3 x3) fun x4 =>
  bP (fa Q q 34 0 0 x4) fun x5 =>
  bP (lda Q q 30 6 x5 G) fun x6 =>
  bS (e.ev.cl 93 [x6] G) fun x7 G8 =>
  some (x7, G8)
theorem m92 {e : Ex} {E : Ev} (h : ExLe Q e E) (v0 : Value) (G : GS) : Ref (s92 true e v0 G) (s92 false (Ex.of E) v0 G) := by
  unfold s92
  exact Ref.go
theorem f92 {orc : FuncId → Bool} {e : Ex} (h : ExLe Q e (E orc)) (v0 : Value) (G : GS) : Ref (s92 true e v0 G) ((E orc).cl 92 [v0] G) :=
  fun r hr => cl_sxE_some Q orc (vs := [v0]) G Tryz.func92 (by kernel_rfl) (by kernel_rfl) (by kernel_rfl) (by kernel_rfl) (by kernel_rfl) (by kernel_rfl) (m92 h v0 G r hr)
/-- coxswain/arena.NewAlloc -/
noncomputable def s93 (q : Bool) (e : Ex) (v0 : Value) (G : GS) : Option (Value × GS) :=
  bS (bx q v0 G) fun x0 G1 =>
  bP (fa Q q 30 0 0 x0) fun x2 =>
  bP (lda Q q 28 3 x2 (G1.room 7)) fun x3 =>
  bS (e.ev.cl 140 [x3] (G1.room 7)) fun x5 G4 =>
  bP (lda Q q 30 6 x0 G4) fun x6 =>
  chk ((sameO (lda Q q 30 6 x0 (G1.room 7)) x6 && true)) <|
  bP (bd Q q 241 z241 [(0, 0, 1), (1, 1, 6), (2, 7, 1), (3, 8, 1)] [x5, x6, (.bool true), (.func (.func 141) #[] #[])]) fun x7 =>
  bS (bx q x7 (G4.at' (G1.nx + 5))) fun x8 G9 =>
  some (x8, (G9.back G4))
theorem m93 {e : Ex} {E : Ev} (h : ExLe Q e E) (v0 : Value) (G : GS) : Ref (s93 true e v0 G) (s93 false (Ex.of E) v0 G) := by
  unfold s93
  exact Ref.go
theorem f93 {orc : FuncId → Bool} {e : Ex} (h : ExLe Q e (E orc)) (v0 : Value) (G : GS) : Ref (s93 true e v0 G) ((E orc).cl 93 [v0] G) :=
  fun r hr => cl_sxE_some Q orc (vs := [v0]) G Tryz.func93 (by kernel_rfl) (by kernel_rfl) (by kernel_rfl) (by kernel_rfl) (by kernel_rfl) (by kernel_rfl) (m93 h v0 G r hr)
noncomputable def b94_0 (q : Bool) (e : Ex) (lp : Env → GS → Option (Exit × Env × GS)) (τ : Env) (G : GS) : Option (Exit × Env × GS) :=
  bV q (τ 2) fun a2_ =>
  bV q (τ 5) fun a5_ =>
  bV q (τ 27) fun a27_ =>
  bV q (τ 28) fun a28_ =>
  bV q (τ 29) fun a29_ =>
  bP (bn Q q .lss 3 (.tmp 29) (.tmp 28) a29_ a28_) fun x0 =>
  ifV x0 (
  bP (ias Q q 244 1 a27_ a29_) fun x1 =>
  bP (ld Q q 109 x1 G) fun x2 =>
  bP (bn Q q .eql 23 (.tmp 33) (.const (.int .i64 7)) a5_ (.int .i64 7)) fun x3 =>
  bS (gd x3 true (bP (ld Q q 26 a2_ G) fun y => some (y, G)) G) fun x4 G5 =>
  bS (gd x3 true (bP (pNil x4) fun y => some (y, G5)) G5) fun x6 G7 =>
  bS (gd x3 true (bP (fa Q q 42 4 22 x6) fun y => some (y, G7)) G7) fun x8 G9 =>
  bS (gd x3 true (bP (ld Q q 3 x8 G9) fun y => some (y, G9)) G9) fun x10 G11 =>
  bS (gd x3 true (bP (bn Q q .lss 3 (.tmp 39) (.const (.int .i64 3)) x10 (.int .i64 3)) fun y => some (y, G11)) G11) fun x12 G13 =>
  bP (pickV x3 x12 (.bool false)) fun x14 =>
  ifV x14 (
  bP (ld Q q 26 a2_ G13) fun x15 =>
  bP (pNil x15) fun x16 =>
  bP (fa Q q 42 4 22 x16) fun x17 =>
  bP (ld Q q 3 x17 G13) fun x18 =>
  bP (bn Q q .add 3 (.tmp 45) (.const (.int .i64 1)) x18 (.int .i64 1)) fun x19 =>
  bP (pNil x15) fun x20 =>
  bP (fa Q q 42 4 22 x20) fun x21 =>
  bP (st Q q 3 1 x21 x19 G13) fun G22 =>
  bP (ld Q q 26 a2_ (G22.room 13)) fun x23 =>
  bP (pNil x23) fun x24 =>
  bP (fa Q q 42 0 0 x24) fun x25 =>
  bP (ld Q q 26 a2_ (G22.room 13)) fun x26 =>
  bP (pNil x26) fun x27 =>
  bP (fa Q q 42 0 0 x27) fun x28 =>
  bP (ld Q q 26 a2_ (G22.room 13)) fun x29 =>
  bS (bs Q q 244 4 (rep z109 4) 1 [(0, 0, 1), (1, 1, 1), (2, 2, 1), (3, 3, 1)] [(.func (.func 145) #[] #[a2_]), (.func (.func 64) #[x25] #[]), (.func (.func 48) #[x28] #[]), (.func (.func 49) #[x29] #[])] ((G22.room 13).at' (G22.nx + 11))) fun x30 G31 =>
  some ((.goto 0), clq q 91 (tu τ [(2, a2_), (5, (.int .i64 0)), (27, a27_), (28, a28_), (29, a29_), (6, x30), (8, x2), (30, x0), (31, x1), (32, x2), (33, a5_), (34, x3), (35, x3), (36, x4), (37, x6), (38, x8), (39, x10), (40, x12), (41, x14), (42, x15), (43, x16), (44, x17), (45, x18), (46, x19), (47, x20), (48, x21), (49, (.func (.func 145) #[] #[a2_])), (50, x23), (51, x24), (52, x25), (53, (.func (.func 64) #[x25] #[])), (54, x26), (55, x27), (56, x28), (57, (.func (.func 48) #[x28] #[])), (58, x29), (59, (.func (.func 49) #[x29] #[])), (60, x30)]), (G31.back (G22.room 13)))) (
  bP (bn Q q .neq 23 (.tmp 61) (.const (.int .i64 0)) a5_ (.int .i64 0)) fun x32 =>
  ifV x32 (
  bP (ld Q q 26 a2_ G13) fun x33 =>
  bP (pNil x33) fun x34 =>
  bP (fa Q q 42 0 0 x34) fun x35 =>
  bP (fa Q q 40 6 18 x35) fun x36 =>
  bP (st Q q 23 1 x36 a5_ G13) fun G37 =>
  bP (ld Q q 26 a2_ (G37.room 10)) fun x38 =>
  bP (ld Q q 26 a2_ (G37.room 10)) fun x39 =>
  bP (pNil x39) fun x40 =>
  bP (fa Q q 42 0 0 x40) fun x41 =>
  bS (e.ev.cl 64 [x41] (G37.room 10)) fun x43 G42 =>
  chk ((sameO (ld Q q 26 a2_ G42) x38 && true)) <|
  bS (bs Q q 37 1 (rep z108 1) 1 [(0, 0, 1)] [x43] (G42.at' (G37.nx + 5))) fun x44 G45 =>
  bP (pNil x38) fun x46 =>
  bP (fa Q q 42 0 0 x46) fun x47 =>
  bP (fa Q q 40 4 16 x47) fun x48 =>
  bP (st Q q 37 1 x48 x44 (G45.back G42)) fun G49 =>
  some (.ret, clq q 91 (tu τ [(2, a2_), (5, a5_), (27, a27_), (28, a28_), (29, a29_), (8, x2), (30, x0), (31, x1), (32, x2), (33, a5_), (34, x3), (35, x3), (36, x4), (37, x6), (38, x8), (39, x10), (40, x12), (41, x14), (61, a5_), (62, x32), (63, x33), (64, a5_), (65, x34), (66, x35), (67, x36), (68, x38), (69, x39), (70, x40), (71, x41), (72, x43), (73, x44), (74, x46), (75, x47), (76, x48)]), G49)) (
  bP (ld Q q 26 a2_ (G13.room 14)) fun x50 =>
  bP (ld Q q 26 a2_ (G13.room 14)) fun x51 =>
  bP (pNil x51) fun x52 =>
  bP (fa Q q 42 0 0 x52) fun x53 =>
  bP (fa Q q 40 4 16 x53) fun x54 =>
  bP (ld Q q 37 x54 (G13.room 14)) fun x55 =>
  bS (cValue e.ev x2 [] (G13.room 14)) fun x57 G56 =>
  chk ((sameO (ld Q q 37 x54 G56) x55 && (sameO (ld Q q 26 a2_ G56) x51 && (sameO (ld Q q 26 a2_ G56) x50 && true)))) <|
  bS (bs Q q 37 1 (rep z108 1) 1 [(0, 0, 1)] [x57] (G56.at' (G13.nx + 8))) fun x58 G59 =>
  bS (ap Q q 37 37 1 16 x55 x58 (G59.back G56)) fun x61 G60 =>
  chk ((sameO (ld Q q 26 a2_ G60) x50 && true)) <|
  bP (pNil x50) fun x62 =>
  bP (fa Q q 42 0 0 x62) fun x63 =>
  bP (fa Q q 40 4 16 x63) fun x64 =>
  bP (st Q q 37 1 x64 x61 G60) fun G65 =>
  bP (bn Q q .add 3 (.tmp 29) (.const (.int .i64 1)) a29_ (.int .i64 1)) fun x66 =>
  lp (tu τ [(2, a2_), (5, a5_), (27, a27_), (28, a28_), (29, x66), (8, x2), (30, x0), (31, x1), (32, x2), (33, a5_), (34, x3), (35, x3), (36, x4), (37, x6), (38, x8), (39, x10), (40, x12), (41, x14), (61, a5_), (62, x32), (77, x50), (78, x51), (79, x52), (80, x53), (81, x54), (82, x55), (83, x2), (84, x57), (85, x58), (86, x61), (87, x62), (88, x63), (89, x64), (90, x66)]) G65))) (
  some ((.exit 0), clq q 91 (tu τ [(2, a2_), (5, a5_), (27, a27_), (28, a28_), (29, a29_), (30, x0)]), G))
theorem mb94_0 {e : Ex} {E : Ev} (h : ExLe Q e E) {lp lp' : Env → GS → Option (Exit × Env × GS)} (hlp : LpLe lp lp') (τ : Env) (G : GS) : Ref (b94_0 true e lp τ G) (b94_0 false (Ex.of E) lp' τ G) := by
  unfold b94_0
  exact Ref.go
set_option maxHeartbeats 8000000 in
theorem l94_0 {orc : FuncId → Bool} {e : Ex} (h : ExLe Q e (E orc)) (lp : Env → GS → Option (Exit × Env × GS)) (hlp : ∀ τ G, Ref (lp τ G) (mapE ((E orc).lp (subAt [1, 0, 1, 1, 1, 1, 1, 0, 0] (bodyOf Tryz.f94)) (lst 91 τ) G))) (T : List Value) (G : GS) (hT : T.length = 91) : Ref (b94_0 true e lp (nth undef T) G) (mapE ((E orc).lp (subAt [1, 0, 1, 1, 1, 1, 1, 0, 0] (bodyOf Tryz.f94)) T G)) :=
  fun r hr => lp_sxM Q orc G hT (by kernel_rfl) (mb94_0 h ⟨hlp⟩ _ _ r hr)
/-- (*coxswain/ready.Put).given -/
noncomputable def s94 (q : Bool) (e : Ex) (v0 v1 : Value) (G : GS) : Option (Value × GS) :=
  bS (bx q v0 G) fun x0 G1 =>
  bS (e.ev.cl 142 [v1] G1) fun x2 G3 =>
  bP (pExtract x2 0) fun x4 =>
  bP (pExtract x2 1) fun x5 =>
  bP (ld Q q 26 x0 G3) fun x6 =>
  bP (pNil x6) fun x7 =>
  bP (fa Q q 42 5 23 x7) fun x8 =>
  bP (st Q q 38 1 x8 x4 G3) fun G9 =>
  bP (ld Q q 26 x0 (G9.room 10)) fun x10 =>
  bP (ld Q q 26 x0 (G9.room 10)) fun x11 =>
  bP (ld Q q 26 x0 (G9.room 10)) fun x12 =>
  bP (pNil x12) fun x13 =>
  bP (fa Q q 42 0 0 x13) fun x14 =>
  bS (bs Q q 244 3 (rep z109 3) 1 [(0, 0, 1), (1, 1, 1), (2, 2, 1)] [(.func (.func 143) #[x10] #[]), (.func (.func 144) #[x11] #[]), (.func (.func 64) #[x14] #[])] ((G9.room 10).at' (G9.nx + 8))) fun x15 G16 =>
  bP (ln Q q 244 x15) fun x17 =>
  bL q e 94 0 (subAt [1, 0, 1, 1, 1, 1, 1, 0, 0] (bodyOf Tryz.f94)) 91 (tu (nth undef [v0, v1]) [(2, x0), (4, x4), (5, x5), (6, x15), (9, x2), (10, v1), (11, x2), (12, x4), (13, x5), (14, x6), (15, x4), (16, x7), (17, x8), (18, x10), (19, (.func (.func 143) #[x10] #[])), (20, x11), (21, (.func (.func 144) #[x11] #[])), (22, x12), (23, x13), (24, x14), (25, (.func (.func 64) #[x14] #[])), (26, x15), (27, x15), (28, x17), (29, (.int .i64 0))]) (G16.back (G9.room 10)) fun e18 t19 G20 =>
  ifE e18 (.exit 0) (
  some (.tuple #[], G20)) (ifE e18 (.goto 0) (
  bX (e.ev.sc (subAt [1, 0] (bodyOf Tryz.f94)) (labelAt 0 (subAt [1, 0] (bodyOf Tryz.f94))) (lst 91 t19) G20) fun e21 T22 G23 =>
  ifE e21 .normal (
  some (.tuple #[], G23)) (ifE e21 (.goto 0) (
  none) (ifE e21 .ret (
  some (.tuple #[], G23)) (none)))) (ifE e18 .ret (
  some (.tuple #[], G20)) (none)))
theorem m94 {e : Ex} {E : Ev} (h : ExLe Q e E) (v0 v1 : Value) (G : GS) : Ref (s94 true e v0 v1 G) (s94 false (Ex.of E) v0 v1 G) := by
  unfold s94
  exact Ref.go
set_option maxHeartbeats 8000000 in
theorem f94 {orc : FuncId → Bool} {e : Ex} (h : ExLe Q e (E orc)) (v0 v1 : Value) (G : GS) : Ref (s94 true e v0 v1 G) ((E orc).cl 94 [v0, v1] G) :=
  fun r hr => cl_sxE_some Q orc (vs := [v0, v1]) G Tryz.func94 (by kernel_rfl) (by kernel_rfl) (by kernel_rfl) (by kernel_rfl) (by kernel_rfl) (by kernel_rfl) (m94 h v0 v1 G r hr)
/-- coxswain/tower.sound -/
noncomputable def s98 (q : Bool) (e : Ex) (v0 : Value) (G : GS) : Option (Value × GS) :=
  bS (bx q v0 G) fun x0 G1 =>
  bP (fa Q q 36 3 3 x0) fun x2 =>
  bP (fa Q q 34 0 0 x2) fun x3 =>
  bP (fa Q q 30 0 0 x3) fun x4 =>
  bP (fa Q q 28 2 2 x4) fun x5 =>
  bP (ld Q q 3 x5 G1) fun x6 =>
  bP (fa Q q 36 2 2 x0) fun x7 =>
  bP (ld Q q 3 x7 G1) fun x8 =>
  bP (bn Q q .geq 3 (.tmp 10) (.const (.int .i64 1)) x8 (.int .i64 1)) fun x9 =>
  bS (gd x9 true (bP (fa Q q 36 2 2 x0) fun y => some (y, G1)) G1) fun x10 G11 =>
  bS (gd x9 true (bP (ld Q q 3 x10 G11) fun y => some (y, G11)) G11) fun x12 G13 =>
  bS (gd x9 true (bP (bn Q q .leq 3 (.tmp 14) (.const (.int .i64 4)) x12 (.int .i64 4)) fun y => some (y, G13)) G13) fun x14 G15 =>
  bP (pickV x9 x14 (.bool false)) fun x16 =>
  bS (gd x16 true (some (x6, G15)) G15) fun x17 G18 =>
  bS (gd x16 true (bP (bn Q q .geq 3 (.tmp 18) (.const (.int .i64 1)) x17 (.int .i64 1)) fun y => some (y, G18)) G18) fun x19 G20 =>
  bP (pickV x16 x19 (.bool false)) fun x21 =>
  bS (gd x21 true (some (x6, G20)) G20) fun x22 G23 =>
  bS (gd x21 true (bP (bn Q q .leq 3 (.tmp 22) (.const (.int .i64 128)) x22 (.int .i64 128)) fun y => some (y, G23)) G23) fun x24 G25 =>
  bP (pickV x21 x24 (.bool false)) fun x26 =>
  bS (gd x26 true (bP (fa Q q 36 0 0 x0) fun y => some (y, G25)) G25) fun x27 G28 =>
  bS (gd x26 true (bP (ld Q q 3 x27 G28) fun y => some (y, G28)) G28) fun x29 G30 =>
  bS (gd x26 true (bP (bn Q q .geq 3 (.tmp 27) (.const (.int .i64 0)) x29 (.int .i64 0)) fun y => some (y, G30)) G30) fun x31 G32 =>
  bP (pickV x26 x31 (.bool false)) fun x33 =>
  bS (gd x33 true (bP (fa Q q 36 0 0 x0) fun y => some (y, G32)) G32) fun x34 G35 =>
  bS (gd x33 true (bP (ld Q q 3 x34 G35) fun y => some (y, G35)) G35) fun x36 G37 =>
  bS (gd x33 true (bP (bn Q q .lss 3 (.tmp 32) (.const (.int .i64 4096)) x36 (.int .i64 4096)) fun y => some (y, G37)) G37) fun x38 G39 =>
  bP (pickV x33 x38 (.bool false)) fun x40 =>
  bS (gd x40 true (bP (fa Q q 36 1 1 x0) fun y => some (y, G39)) G39) fun x41 G42 =>
  bS (gd x40 true (bP (ld Q q 3 x41 G42) fun y => some (y, G42)) G42) fun x43 G44 =>
  bS (gd x40 true (bP (bn Q q .geq 3 (.tmp 37) (.const (.int .i64 0)) x43 (.int .i64 0)) fun y => some (y, G44)) G44) fun x45 G46 =>
  bP (pickV x40 x45 (.bool false)) fun x47 =>
  bS (gd x47 true (bP (fa Q q 36 1 1 x0) fun y => some (y, G46)) G46) fun x48 G49 =>
  bS (gd x47 true (bP (ld Q q 3 x48 G49) fun y => some (y, G49)) G49) fun x50 G51 =>
  bS (gd x47 true (bP (bn Q q .lss 3 (.tmp 42) (.const (.int .i64 4096)) x50 (.int .i64 4096)) fun y => some (y, G51)) G51) fun x52 G53 =>
  bP (pickV x47 x52 (.bool false)) fun x54 =>
  some (x54, G53)
theorem m98 {e : Ex} {E : Ev} (h : ExLe Q e E) (v0 : Value) (G : GS) : Ref (s98 true e v0 G) (s98 false (Ex.of E) v0 G) := by
  unfold s98
  exact Ref.go
theorem f98 {orc : FuncId → Bool} {e : Ex} (h : ExLe Q e (E orc)) (v0 : Value) (G : GS) : Ref (s98 true e v0 G) ((E orc).cl 98 [v0] G) :=
  fun r hr => cl_sxE_some Q orc (vs := [v0]) G Tryz.func98 (by kernel_rfl) (by kernel_rfl) (by kernel_rfl) (by kernel_rfl) (by kernel_rfl) (by kernel_rfl) (m98 h v0 G r hr)
noncomputable def b99_0 (q : Bool) (e : Ex) (lp : Env → GS → Option (Exit × Env × GS)) (τ : Env) (G : GS) : Option (Exit × Env × GS) :=
  bV q (τ 1) fun a1_ =>
  bV q (τ 2) fun a2_ =>
  bV q (τ 13) fun a13_ =>
  bP (bn Q q .lss 3 (.tmp 13) (.const (.int .i64 3)) a13_ (.int .i64 3)) fun x0 =>
  ifV x0 (
  bP (lda Q q 34 10 a2_ G) fun x1 =>
  bS (e.ev.cl 149 [a13_, x1] G) fun x2 G3 =>
  bP (fd Q q 28 0 0 x2) fun x4 =>
  bS (e.ev.cl 29 [a1_, x4, (.int .u64 0)] G3) fun x5 G6 =>
  bP (bn Q q .add 3 (.tmp 13) (.const (.int .i64 1)) a13_ (.int .i64 1)) fun x7 =>
  lp (tu τ [(1, a1_), (2, a2_), (13, x7), (4, a13_), (14, x0), (15, a13_), (16, a1_), (17, a13_), (18, x1), (19, x2), (20, x4), (21, x5), (22, x7)]) G6) (
  some ((.exit 0), clq q 23 (tu τ [(1, a1_), (2, a2_), (13, a13_), (14, x0)]), G))
theorem mb99_0 {e : Ex} {E : Ev} (h : ExLe Q e E) {lp lp' : Env → GS → Option (Exit × Env × GS)} (hlp : LpLe lp lp') (τ : Env) (G : GS) : Ref (b99_0 true e lp τ G) (b99_0 false (Ex.of E) lp' τ G) := by
  unfold b99_0
  exact Ref.go
theorem l99_0 {orc : FuncId → Bool} {e : Ex} (h : ExLe Q e (E orc)) (lp : Env → GS → Option (Exit × Env × GS)) (hlp : ∀ τ G, Ref (lp τ G) (mapE ((E orc).lp (subAt [1, 1, 1, 1, 0, 0] (bodyOf Tryz.f99)) (lst 23 τ) G))) (T : List Value) (G : GS) (hT : T.length = 23) : Ref (b99_0 true e lp (nth undef T) G) (mapE ((E orc).lp (subAt [1, 1, 1, 1, 0, 0] (bodyOf Tryz.f99)) T G)) :=
  fun r hr => lp_sxM Q orc G hT (by kernel_rfl) (mb99_0 h ⟨hlp⟩ _ _ r hr)
/-- coxswain/limbo.Fill -/
noncomputable def s99 (q : Bool) (e : Ex) (v0 v1 : Value) (G : GS) : Option (Value × GS) :=
  bS (bx q v0 G) fun x0 G1 =>
  bP (fa Q q 34 0 0 x0) fun x2 =>
  bP (lda Q q 30 6 x2 G1) fun x3 =>
  bS (e.ev.cl 147 [x3, v1] G1) fun x4 G5 =>
  bP (fa Q q 34 1 6 x0) fun x6 =>
  bP (lda Q q 32 3 x6 G5) fun x7 =>
  bS (e.ev.cl 148 [x7, v1] G5) fun x8 G9 =>
  bL q e 99 0 (subAt [1, 1, 1, 1, 0, 0] (bodyOf Tryz.f99)) 23 (tu (nth undef [v0, v1]) [(2, x0), (5, x2), (6, x3), (7, v1), (8, x4), (9, x6), (10, x7), (11, v1), (12, x8), (13, (.int .i64 0))]) G9 fun e10 t11 G12 =>
  ifE e10 (.exit 0) (
  some (.tuple #[], G12)) (none)
theorem m99 {e : Ex} {E : Ev} (h : ExLe Q e E) (v0 v1 : Value) (G : GS) : Ref (s99 true e v0 v1 G) (s99 false (Ex.of E) v0 v1 G) := by
  unfold s99
  exact Ref.go
theorem f99 {orc : FuncId → Bool} {e : Ex} (h : ExLe Q e (E orc)) (v0 v1 : Value) (G : GS) : Ref (s99 true e v0 v1 G) ((E orc).cl 99 [v0, v1] G) :=
  fun r hr => cl_sxE_some Q orc (vs := [v0, v1]) G Tryz.func99 (by kernel_rfl) (by kernel_rfl) (by kernel_rfl) (by kernel_rfl) (by kernel_rfl) (by kernel_rfl) (m99 h v0 v1 G r hr)
/-- coxswain/tower.Next -/
noncomputable def s100 (q : Bool) (e : Ex) (v0 v1 v2 : Value) (G : GS) : Option (Value × GS) :=
  bS (bx q v0 G) fun x0 G1 =>
  bP (bn Q q .lss 3 (.tmp 7) (.const (.int .i64 0)) v2 (.int .i64 0)) fun x2 =>
  bS (gd x2 false (some (v2, G1)) G1) fun x3 G4 =>
  bS (gd x2 false (bP (bn Q q .geq 3 (.tmp 10) (.const (.int .i64 4)) x3 (.int .i64 4)) fun y => some (y, G4)) G4) fun x5 G6 =>
  bP (pickV x2 (.bool true) x5) fun x7 =>
  ifV x7 (
  some ((.int .i64 (-1)), G6)) (
  bP (lda Q q 36 13 x0 G6) fun x8 =>
  bP (bn Q q .add 3 (.const (.int .i64 4)) (.tmp 15) (.int .i64 4) v2) fun x9 =>
  bS (e.ev.cl 87 [x8, v1, x9] G6) fun x10 G11 =>
  some (x10, G11))
theorem m100 {e : Ex} {E : Ev} (h : ExLe Q e E) (v0 v1 v2 : Value) (G : GS) : Ref (s100 true e v0 v1 v2 G) (s100 false (Ex.of E) v0 v1 v2 G) := by
  unfold s100
  exact Ref.go
theorem f100 {orc : FuncId → Bool} {e : Ex} (h : ExLe Q e (E orc)) (v0 v1 v2 : Value) (G : GS) : Ref (s100 true e v0 v1 v2 G) ((E orc).cl 100 [v0, v1, v2] G) :=
  fun r hr => cl_sxE_some Q orc (vs := [v0, v1, v2]) G Tryz.func100 (by kernel_rfl) (by kernel_rfl) (by kernel_rfl) (by kernel_rfl) (by kernel_rfl) (by kernel_rfl) (m100 h v0 v1 v2 G r hr)
noncomputable def b101_0 (q : Bool) (e : Ex) (lp : Env → GS → Option (Exit × Env × GS)) (τ : Env) (G : GS) : Option (Exit × Env × GS) :=
  bV q (τ 3) fun a3_ =>
  bV q (τ 29) fun a29_ =>
  bV q (τ 30) fun a30_ =>
  bV q (τ 31) fun a31_ =>
  bP (bn Q q .lss 3 (.tmp 31) (.tmp 30) a31_ a30_) fun x0 =>
  ifV x0 (
  bP (ias Q q 250 1 a29_ a31_) fun x1 =>
  bP (ld Q q 97 x1 G) fun x2 =>
  bP (ias Q q 90 1 a3_ a31_) fun x3 =>
  bP (st Q q 38 1 x3 x2 G) fun G4 =>
  bP (bn Q q .add 3 (.tmp 31) (.const (.int .i64 1)) a31_ (.int .i64 1)) fun x5 =>
  lp (tu τ [(3, a3_), (29, a29_), (30, a30_), (31, x5), (4, a31_), (5, x2), (32, x0), (33, a31_), (34, x1), (35, x2), (36, a3_), (37, a31_), (38, x2), (39, x3), (40, x5)]) G4) (
  some ((.exit 0), clq q 42 (tu τ [(3, a3_), (29, a29_), (30, a30_), (31, a31_), (32, x0)]), G))
theorem mb101_0 {e : Ex} {E : Ev} (h : ExLe Q e E) {lp lp' : Env → GS → Option (Exit × Env × GS)} (hlp : LpLe lp lp') (τ : Env) (G : GS) : Ref (b101_0 true e lp τ G) (b101_0 false (Ex.of E) lp' τ G) := by
  unfold b101_0
  exact Ref.go
theorem l101_0 {orc : FuncId → Bool} {e : Ex} (h : ExLe Q e (E orc)) (lp : Env → GS → Option (Exit × Env × GS)) (hlp : ∀ τ G, Ref (lp τ G) (mapE ((E orc).lp (subAt [1, 1, 1, 0, 1, 0, 0] (bodyOf Tryz.f101)) (lst 42 τ) G))) (T : List Value) (G : GS) (hT : T.length = 42) : Ref (b101_0 true e lp (nth undef T) G) (mapE ((E orc).lp (subAt [1, 1, 1, 0, 1, 0, 0] (bodyOf Tryz.f101)) T G)) :=
  fun r hr => lp_sxM Q orc G hT (by kernel_rfl) (mb101_0 h ⟨hlp⟩ _ _ r hr)
/-- (*coxswain/cells.Mem).Words -/
noncomputable def s101 (q : Bool) (e : Ex) (v0 : Value) (G : GS) : Option (Value × GS) :=
  bP (ep Q q false 22 (.tmp 6) (.const (.pointer none)) v0 (.pointer none)) fun x0 =>
  bS (gd x0 false (some (v0, G)) G) fun x1 G2 =>
  bS (gd x0 false (bP (pNil x1) fun y => some (y, G2)) G2) fun x3 G4 =>
  bS (gd x0 false (bP (fa Q q 103 0 0 x3) fun y => some (y, G4)) G4) fun x5 G6 =>
  bS (gd x0 false (bP (ld Q q 96 x5 G6) fun y => some (y, G6)) G6) fun x7 G8 =>
  bS (gd x0 false (bP (ep Q q false 96 (.tmp 12) (.const (.pointer none)) x7 (.pointer none)) fun y => some (y, G8)) G8) fun x9 G10 =>
  bP (pickV x0 (.bool true) x9) fun x11 =>
  ifV x11 (
  some ((.slice none 0 0), G10)) (
  bP (pNil v0) fun x12 =>
  bP (fa Q q 103 1 1 x12) fun x13 =>
  bP (ld Q q 3 x13 G10) fun x14 =>
  bS (mk Q q 90 1 8 z38 x14 x14 G10) fun x15 G16 =>
  bP (pNil v0) fun x17 =>
  bP (fa Q q 103 0 0 x17) fun x18 =>
  bP (ld Q q 96 x18 (G16.room 12)) fun x19 =>
  bP (pNil x19) fun x20 =>
  bP (pNil v0) fun x21 =>
  bP (fa Q q 103 1 1 x21) fun x22 =>
  bP (ld Q q 3 x22 (G16.room 12)) fun x23 =>
  bP (sla Q q 99 4096 1 x20 none (some x23) none (G16.room 12)) fun x24 =>
  bP (ln Q q 250 x24) fun x25 =>
  bL q e 101 0 (subAt [1, 1, 1, 0, 1, 0, 0] (bodyOf Tryz.f101)) 42 (tu (nth undef [v0]) [(2, (.slice none 0 0)), (3, x15), (6, v0), (7, x0), (8, x0), (9, x1), (10, x3), (11, x5), (12, x7), (13, x9), (14, x11), (15, v0), (16, x12), (17, x13), (18, x14), (19, x15), (20, v0), (21, x17), (22, x18), (23, x19), (24, x20), (25, v0), (26, x21), (27, x22), (28, x23), (29, x24), (30, x25), (31, (.int .i64 0))]) (G16.room 12) fun e26 t27 G28 =>
  bV q (t27 3) fun t27x3_ =>
  ifE e26 (.exit 0) (
  some (t27x3_, G28)) (none))
theorem m101 {e : Ex} {E : Ev} (h : ExLe Q e E) (v0 : Value) (G : GS) : Ref (s101 true e v0 G) (s101 false (Ex.of E) v0 G) := by
  unfold s101
  exact Ref.go
theorem f101 {orc : FuncId → Bool} {e : Ex} (h : ExLe Q e (E orc)) (v0 : Value) (G : GS) : Ref (s101 true e v0 G) ((E orc).cl 101 [v0] G) :=
  fun r hr => cl_sxE_some Q orc (vs := [v0]) G Tryz.func101 (by kernel_rfl) (by kernel_rfl) (by kernel_rfl) (by kernel_rfl) (by kernel_rfl) (by kernel_rfl) (m101 h v0 G r hr)
/-- (*coxswain/ready.work).unpin$1 -/
noncomputable def s109 (q : Bool) (e : Ex) (v0 : Value) (G : GS) : Option (Value × GS) :=
  bP (ld Q q 105 v0 (G.room 12)) fun x0 =>
  bP (pNil x0) fun x1 =>
  bP (fa Q q 40 0 0 x1) fun x2 =>
  bP (fa Q q 36 3 3 x2) fun x3 =>
  bP (fa Q q 34 1 6 x3) fun x4 =>
  bP (lda Q q 32 3 x4 (G.room 12)) fun x5 =>
  bP (ld Q q 105 v0 (G.room 12)) fun x6 =>
  bP (pNil x6) fun x7 =>
  bP (fa Q q 40 1 13 x7) fun x8 =>
  bP (ld Q q 3 x8 (G.room 12)) fun x9 =>
  bS (e.ev.cl 110 [x5, x9] (G.room 12)) fun x11 G10 =>
  some (x11, G10)
theorem m109 {e : Ex} {E : Ev} (h : ExLe Q e E) (v0 : Value) (G : GS) : Ref (s109 true e v0 G) (s109 false (Ex.of E) v0 G) := by
  unfold s109
  exact Ref.go
theorem f109 {orc : FuncId → Bool} {e : Ex} (h : ExLe Q e (E orc)) (v0 : Value) (G : GS) : Ref (s109 true e v0 G) ((E orc).cl 109 [v0] G) :=
  fun r hr => cl_sxE_some Q orc (vs := [v0]) G Tryz.func109 (by kernel_rfl) (by kernel_rfl) (by kernel_rfl) (by kernel_rfl) (by kernel_rfl) (by kernel_rfl) (m109 h v0 G r hr)
/-- coxswain/epoch.NewUnpin -/
noncomputable def s110 (q : Bool) (e : Ex) (v0 v1 : Value) (G : GS) : Option (Value × GS) :=
  bS (bx q v0 G) fun x0 G1 =>
  bP (bd Q q 231 z231 [(2, 4, 1)] [(.bool true)]) fun x2 =>
  bP (fa Q q 32 1 1 x0) fun x3 =>
  bP (ld Q q 3 x3 G1) fun x4 =>
  bP (bn Q q .add 3 (.tmp 8) (.tmp 9) x4 v1) fun x5 =>
  bP (bd Q q 264 z264 [(0, 0, 6), (1, 6, 1)] [x2, x5]) fun x6 =>
  bS (bx q x6 G1) fun x7 G8 =>
  bP (lda Q q 32 3 x0 G8) fun x9 =>
  bS (e.ev.cl 134 [x9, v1] G8) fun x10 G11 =>
  ifV x10 (
  bP (pNil x7) fun x12 =>
  bP (fa Q q 264 0 0 x12) fun x13 =>
  bS (e.ev.cl 135 [x13, (.int .i64 3)] G11) fun x14 G15 =>
  some (x7, G15)) (
  bP (pNil x7) fun x16 =>
  bP (fa Q q 264 0 0 x16) fun x17 =>
  bP (fa Q q 231 0 0 x17) fun x18 =>
  bP (iaa Q q 229 3 1 x18 (.int .i64 0)) fun x19 =>
  bP (st Q q 206 1 x19 (.func (.func 156) #[x7] #[]) G11) fun G20 =>
  some (x7, G20))
theorem m110 {e : Ex} {E : Ev} (h : ExLe Q e E) (v0 v1 : Value) (G : GS) : Ref (s110 true e v0 v1 G) (s110 false (Ex.of E) v0 v1 G) := by
  unfold s110
  exact Ref.go
theorem f110 {orc : FuncId → Bool} {e : Ex} (h : ExLe Q e (E orc)) (v0 v1 : Value) (G : GS) : Ref (s110 true e v0 v1 G) ((E orc).cl 110 [v0, v1] G) :=
  fun r hr => cl_sxE_some Q orc (vs := [v0, v1]) G Tryz.func110 (by kernel_rfl) (by kernel_rfl) (by kernel_rfl) (by kernel_rfl) (by kernel_rfl) (by kernel_rfl) (m110 h v0 v1 G r hr)
/-- (*coxswain/cells.place).is -/
noncomputable def s117 (q : Bool) (e : Ex) (v0 : Value) (G : GS) : Option (Value × GS) :=
  bP (ep Q q true 132 (.tmp 3) (.const (.pointer none)) v0 (.pointer none)) fun x0 =>
  some (x0, G)
theorem m117 {e : Ex} {E : Ev} (h : ExLe Q e E) (v0 : Value) (G : GS) : Ref (s117 true e v0 G) (s117 false (Ex.of E) v0 G) := by
  unfold s117
  exact Ref.go
theorem f117 {orc : FuncId → Bool} {e : Ex} (h : ExLe Q e (E orc)) (v0 : Value) (G : GS) : Ref (s117 true e v0 G) ((E orc).cl 117 [v0] G) :=
  fun r hr => cl_sxE_some Q orc (vs := [v0]) G Tryz.func117 (by kernel_rfl) (by kernel_rfl) (by kernel_rfl) (by kernel_rfl) (by kernel_rfl) (by kernel_rfl) (m117 h v0 G r hr)
/-- (*coxswain/run.Balance).looks -/
noncomputable def s118 (q : Bool) (e : Ex) (v0 v1 : Value) (G : GS) : Option (Value × GS) :=
  bP (pNil v0) fun x0 =>
  bP (fa Q q 150 2 5 x0) fun x1 =>
  bP (ld Q q 52 x1 G) fun x2 =>
  bS (e.ev.cl 12 [x2, v1] G) fun x3 G4 =>
  bP (pNil v0) fun x5 =>
  bP (fa Q q 150 2 5 x5) fun x6 =>
  bP (ld Q q 52 x6 G4) fun x7 =>
  bS (e.ev.cl 160 [x7] G4) fun x8 G9 =>
  bP (pNil v0) fun x10 =>
  bP (fa Q q 150 7 10 x10) fun x11 =>
  bP (st Q q 38 1 x11 x8 G9) fun G12 =>
  bP (un Q q .not x3) fun x13 =>
  ifV x13 (
  some (.tuple #[], G12)) (
  bP (pNil v0) fun x14 =>
  bP (fa Q q 150 2 5 x14) fun x15 =>
  bP (ld Q q 52 x15 G12) fun x16 =>
  bS (e.ev.cl 8 [x16] G12) fun x17 G18 =>
  bP (pExtract x17 0) fun x19 =>
  bP (pExtract x17 1) fun x20 =>
  bS (al Q q 46 z46 G18) fun x21 G22 =>
  bP (st Q q 46 2 x21 x19 G22) fun G23 =>
  bP (fa Q q 46 0 0 x21) fun x24 =>
  bP (ld Q q 38 x24 (G23.room 10)) fun x25 =>
  bP (pNil v0) fun x26 =>
  bP (fa Q q 150 2 5 x26) fun x27 =>
  bP (st Q q 52 1 x27 (.pointer none) (G23.room 10)) fun G28 =>
  chk ((sameO (ld Q q 38 x24 G28) x25 && true)) <|
  bP (pNil v0) fun x29 =>
  bP (fa Q q 150 3 6 x29) fun x30 =>
  bP (st Q q 38 1 x30 x25 G28) fun G31 =>
  bP (bn Q q .eql 23 (.tmp 39) (.const (.int .i64 0)) x20 (.int .i64 0)) fun x32 =>
  ifV x32 (
  some (.tuple #[], G31)) (
  bP (bn Q q .eql 23 (.tmp 39) (.const (.int .i64 15)) x20 (.int .i64 15)) fun x33 =>
  ifV x33 (
  bS (e.ev.cl 84 [v0, (.int .i64 0)] G31) fun x34 G35 =>
  some (.tuple #[], G35)) (
  bS (e.ev.cl 84 [v0, x20] G31) fun x36 G37 =>
  some (.tuple #[], G37))))
theorem m118 {e : Ex} {E : Ev} (h : ExLe Q e E) (v0 v1 : Value) (G : GS) : Ref (s118 true e v0 v1 G) (s118 false (Ex.of E) v0 v1 G) := by
  unfold s118
  exact Ref.go
theorem f118 {orc : FuncId → Bool} {e : Ex} (h : ExLe Q e (E orc)) (v0 v1 : Value) (G : GS) : Ref (s118 true e v0 v1 G) ((E orc).cl 118 [v0, v1] G) :=
  fun r hr => cl_sxE_some Q orc (vs := [v0, v1]) G Tryz.func118 (by kernel_rfl) (by kernel_rfl) (by kernel_rfl) (by kernel_rfl) (by kernel_rfl) (by kernel_rfl) (m118 h v0 v1 G r hr)
/-- (*coxswain/run.walk).next -/
noncomputable def s119 (q : Bool) (e : Ex) (v0 : Value) (G : GS) : Option (Value × GS) :=
  bP (pNil v0) fun x0 =>
  bP (fa Q q 147 1 1 x0) fun x1 =>
  bP (ld Q q 3 x1 G) fun x2 =>
  bP (bn Q q .eql 3 (.tmp 7) (.const (.int .i64 0)) x2 (.int .i64 0)) fun x3 =>
  ifV x3 (
  some (.tuple #[(.int .i64 0), (.bool false)], G)) (
  bP (pNil v0) fun x4 =>
  bP (fa Q q 147 0 0 x4) fun x5 =>
  bP (ld Q q 3 x5 G) fun x6 =>
  bP (bn Q q .add 3 (.tmp 12) (.const (.int .i64 1)) x6 (.int .i64 1)) fun x7 =>
  bP (pNil v0) fun x8 =>
  bP (fa Q q 147 0 0 x8) fun x9 =>
  bP (st Q q 3 1 x9 x7 G) fun G10 =>
  bP (pNil v0) fun x11 =>
  bP (fa Q q 147 1 1 x11) fun x12 =>
  bP (ld Q q 3 x12 G10) fun x13 =>
  bP (bn Q q .sub 3 (.tmp 19) (.const (.int .i64 1)) x13 (.int .i64 1)) fun x14 =>
  bP (pNil v0) fun x15 =>
  bP (fa Q q 147 1 1 x15) fun x16 =>
  bP (st Q q 3 1 x16 x14 G10) fun G17 =>
  bP (pNil v0) fun x18 =>
  bP (fa Q q 147 0 0 x18) fun x19 =>
  bP (ld Q q 3 x19 G17) fun x20 =>
  bP (bn Q q .sub 3 (.tmp 26) (.const (.int .i64 1)) x20 (.int .i64 1)) fun x21 =>
  some (.tuple #[x21, (.bool true)], G17))
theorem m119 {e : Ex} {E : Ev} (h : ExLe Q e E) (v0 : Value) (G : GS) : Ref (s119 true e v0 G) (s119 false (Ex.of E) v0 G) := by
  unfold s119
  exact Ref.go
theorem f119 {orc : FuncId → Bool} {e : Ex} (h : ExLe Q e (E orc)) (v0 : Value) (G : GS) : Ref (s119 true e v0 G) ((E orc).cl 119 [v0] G) :=
  fun r hr => cl_sxE_some Q orc (vs := [v0]) G Tryz.func119 (by kernel_rfl) (by kernel_rfl) (by kernel_rfl) (by kernel_rfl) (by kernel_rfl) (by kernel_rfl) (m119 h v0 G r hr)
/-- (*coxswain/cells.Mem).Load -/
noncomputable def s120 (q : Bool) (e : Ex) (v0 v1 : Value) (G : GS) : Option (Value × GS) :=
  bS (e.ev.cl 72 [v0, v1] G) fun x0 G1 =>
  bP (bd Q q 135 z135 [(0, 0, 1)] [x0]) fun x2 =>
  bS (al Q q 135 z135 G1) fun x3 G4 =>
  bP (st Q q 135 3 x3 x2 G4) fun G5 =>
  bP (fa Q q 135 0 0 x3) fun x6 =>
  bP (ld Q q 132 x6 G5) fun x7 =>
  bP (lda Q q 135 3 x3 G5) fun x8 =>
  bS (e.ev.cl 73 [v0, (.int .i64 1), v1, x7, (.func (.func 161) #[x8] #[])] G5) fun x9 G10 =>
  bP (fd Q q 101 3 3 x9) fun x11 =>
  some (x11, G10)
theorem m120 {e : Ex} {E : Ev} (h : ExLe Q e E) (v0 v1 : Value) (G : GS) : Ref (s120 true e v0 v1 G) (s120 false (Ex.of E) v0 v1 G) := by
  unfold s120
  exact Ref.go
theorem f120 {orc : FuncId → Bool} {e : Ex} (h : ExLe Q e (E orc)) (v0 v1 : Value) (G : GS) : Ref (s120 true e v0 v1 G) ((E orc).cl 120 [v0, v1] G) :=
  fun r hr => cl_sxE_some Q orc (vs := [v0, v1]) G Tryz.func120 (by kernel_rfl) (by kernel_rfl) (by kernel_rfl) (by kernel_rfl) (by kernel_rfl) (by kernel_rfl) (m120 h v0 v1 G r hr)
noncomputable def b121_0 (q : Bool) (e : Ex) (lp : Env → GS → Option (Exit × Env × GS)) (τ : Env) (G : GS) : Option (Exit × Env × GS) :=
  bV q (τ 1) fun a1_ =>
  bV q (τ 7) fun a7_ =>
  bV q (τ 8) fun a8_ =>
  bV q (τ 20) fun a20_ =>
  bV q (τ 21) fun a21_ =>
  bP (bn Q q .lss 3 (.tmp 21) (.tmp 20) a21_ a20_) fun x0 =>
  ifV x0 (
  bP (bn Q q .add 3 (.tmp 24) (.tmp 25) a1_ a21_) fun x1 =>
  bP (bn Q q .geq 3 (.tmp 27) (.const (.int .i64 0)) x1 (.int .i64 0)) fun x2 =>
  bS (gd x2 true (some (x1, G)) G) fun x3 G4 =>
  bS (gd x2 true (some (a7_, G4)) G4) fun x5 G6 =>
  bS (gd x2 true (bP (ln Q q 90 x5) fun y => some (y, G6)) G6) fun x7 G8 =>
  bS (gd x2 true (bP (bn Q q .lss 3 (.tmp 30) (.tmp 32) x3 x7) fun y => some (y, G8)) G8) fun x9 G10 =>
  bP (pickV x2 x9 (.bool false)) fun x11 =>
  ifV x11 (
  bP (ias Q q 90 1 a7_ x1) fun x12 =>
  bP (ld Q q 38 x12 G10) fun x13 =>
  bP (ias Q q 90 1 a8_ a21_) fun x14 =>
  bP (st Q q 38 1 x14 x13 G10) fun G15 =>
  bP (bn Q q .add 3 (.tmp 21) (.const (.int .i64 1)) a21_ (.int .i64 1)) fun x16 =>
  lp (tu τ [(1, a1_), (7, a7_), (8, a8_), (20, a20_), (21, x16), (9, a21_), (10, x1), (22, x0), (23, a21_), (24, a1_), (25, a21_), (26, x1), (27, x1), (28, x2), (29, x2), (30, x3), (31, x5), (32, x7), (33, x9), (34, x11), (35, a8_), (36, a21_), (37, a7_), (38, x1), (39, x12), (40, x13), (41, x14), (42, x16)]) G15) (
  bP (bn Q q .add 3 (.tmp 21) (.const (.int .i64 1)) a21_ (.int .i64 1)) fun x17 =>
  lp (tu τ [(1, a1_), (7, a7_), (8, a8_), (20, a20_), (21, x17), (9, a21_), (10, x1), (22, x0), (23, a21_), (24, a1_), (25, a21_), (26, x1), (27, x1), (28, x2), (29, x2), (30, x3), (31, x5), (32, x7), (33, x9), (34, x11), (42, x17)]) G10)) (
  some ((.exit 0), clq q 44 (tu τ [(1, a1_), (7, a7_), (8, a8_), (20, a20_), (21, a21_), (22, x0)]), G))
theorem mb121_0 {e : Ex} {E : Ev} (h : ExLe Q e E) {lp lp' : Env → GS → Option (Exit × Env × GS)} (hlp : LpLe lp lp') (τ : Env) (G : GS) : Ref (b121_0 true e lp τ G) (b121_0 false (Ex.of E) lp' τ G) := by
  unfold b121_0
  exact Ref.go
theorem l121_0 {orc : FuncId → Bool} {e : Ex} (h : ExLe Q e (E orc)) (lp : Env → GS → Option (Exit × Env × GS)) (hlp : ∀ τ G, Ref (lp τ G) (mapE ((E orc).lp (subAt [1, 1, 1, 1, 0, 1, 0, 0] (bodyOf Tryz.f121)) (lst 44 τ) G))) (T : List Value) (G : GS) (hT : T.length = 44) : Ref (b121_0 true e lp (nth undef T) G) (mapE ((E orc).lp (subAt [1, 1, 1, 1, 0, 1, 0, 0] (bodyOf Tryz.f121)) T G)) :=
  fun r hr => lp_sxM Q orc G hT (by kernel_rfl) (mb121_0 h ⟨hlp⟩ _ _ r hr)
/-- coxswain/run.row -/
noncomputable def s121 (q : Bool) (e : Ex) (v0 v1 v2 : Value) (G : GS) : Option (Value × GS) :=
  bS (bx q v0 G) fun x0 G1 =>
  bP (lda Q q 86 3 x0 G1) fun x2 =>
  bS (e.ev.cl 85 [x2] G1) fun x3 G4 =>
  bP (un Q q .not x3) fun x5 =>
  ifV x5 (
  some ((.slice none 0 0), G4)) (
  bS (e.ev.cl 101 [v2] G4) fun x6 G7 =>
  bP (fa Q q 86 2 2 x0) fun x8 =>
  bP (ld Q q 3 x8 G7) fun x9 =>
  bS (mk Q q 90 1 8 z38 x9 x9 G7) fun x10 G11 =>
  bP (ln Q q 90 x10) fun x12 =>
  bL q e 121 0 (subAt [1, 1, 1, 1, 0, 1, 0, 0] (bodyOf Tryz.f121)) 44 (tu (nth undef [v0, v1, v2]) [(3, x0), (6, (.slice none 0 0)), (7, x6), (8, x10), (11, x2), (12, x3), (13, x5), (14, v2), (15, x6), (16, x8), (17, x9), (18, x10), (19, x10), (20, x12), (21, (.int .i64 0))]) G11 fun e13 t14 G15 =>
  bV q (t14 8) fun t14x8_ =>
  ifE e13 (.exit 0) (
  some (t14x8_, G15)) (none))
theorem m121 {e : Ex} {E : Ev} (h : ExLe Q e E) (v0 v1 v2 : Value) (G : GS) : Ref (s121 true e v0 v1 v2 G) (s121 false (Ex.of E) v0 v1 v2 G) := by
  unfold s121
  exact Ref.go
theorem f121 {orc : FuncId → Bool} {e : Ex} (h : ExLe Q e (E orc)) (v0 v1 v2 : Value) (G : GS) : Ref (s121 true e v0 v1 v2 G) ((E orc).cl 121 [v0, v1, v2] G) :=
  fun r hr => cl_sxE_some Q orc (vs := [v0, v1, v2]) G Tryz.func121 (by kernel_rfl) (by kernel_rfl) (by kernel_rfl) (by kernel_rfl) (by kernel_rfl) (by kernel_rfl) (m121 h v0 v1 v2 G r hr)
/-- cmp.isNaN[uint64] -/
noncomputable def s122 (q : Bool) (e : Ex) (v0 : Value) (G : GS) : Option (Value × GS) :=
  bP (bn Q q .neq 38 (.tmp 3) (.tmp 4) v0 v0) fun x0 =>
  some (x0, G)
theorem m122 {e : Ex} {E : Ev} (h : ExLe Q e E) (v0 : Value) (G : GS) : Ref (s122 true e v0 G) (s122 false (Ex.of E) v0 G) := by
  unfold s122
  exact Ref.go
theorem f122 {orc : FuncId → Bool} {e : Ex} (h : ExLe Q e (E orc)) (v0 : Value) (G : GS) : Ref (s122 true e v0 G) ((E orc).cl 122 [v0] G) :=
  fun r hr => cl_sxE_some Q orc (vs := [v0]) G Tryz.func122 (by kernel_rfl) (by kernel_rfl) (by kernel_rfl) (by kernel_rfl) (by kernel_rfl) (by kernel_rfl) (m122 h v0 G r hr)
noncomputable def b123_0 (q : Bool) (e : Ex) (lp : Env → GS → Option (Exit × Env × GS)) (τ : Env) (G : GS) : Option (Exit × Env × GS) :=
  bV q (τ 0) fun a0_ =>
  bV q (τ 1) fun a1_ =>
  bV q (τ 2) fun a2_ =>
  bV q (τ 3) fun a3_ =>
  bV q (τ 4) fun a4_ =>
  bV q (τ 10) fun a10_ =>
  bV q (τ 11) fun a11_ =>
  bP (bn Q q .sub 3 (.tmp 21) (.tmp 22) a2_ a1_) fun x0 =>
  bP (bn Q q .leq 3 (.tmp 24) (.const (.int .i64 12)) x0 (.int .i64 12)) fun x1 =>
  ifV x1 (
  bS (e.ev.cl 162 [a0_, a1_, a2_, a4_] G) fun x2 G3 =>
  some (.ret, clq q 148 (tu τ [(0, a0_), (1, a1_), (2, a2_), (3, a3_), (4, a4_), (10, a10_), (11, a11_), (12, x0), (21, a2_), (22, a1_), (23, x0), (24, x0), (25, x1), (26, a0_), (27, a1_), (28, a2_), (29, a4_), (30, x2)]), G3)) (
  bP (bn Q q .eql 3 (.tmp 31) (.const (.int .i64 0)) a3_ (.int .i64 0)) fun x4 =>
  ifV x4 (
  bS (e.ev.cl 163 [a0_, a1_, a2_, a4_] G) fun x5 G6 =>
  some (.ret, clq q 148 (tu τ [(0, a0_), (1, a1_), (2, a2_), (3, a3_), (4, a4_), (10, a10_), (11, a11_), (12, x0), (21, a2_), (22, a1_), (23, x0), (24, x0), (25, x1), (31, a3_), (32, x4), (33, a0_), (34, a1_), (35, a2_), (36, a4_), (37, x5)]), G6)) (
  bP (un Q q .not a10_) fun x7 =>
  ifV x7 (
  bS (e.ev.cl 164 [a0_, a1_, a2_, a4_] G) fun x8 G9 =>
  bP (bn Q q .sub 3 (.tmp 45) (.const (.int .i64 1)) a3_ (.int .i64 1)) fun x10 =>
  bS (e.ev.cl 165 [a0_, a1_, a2_, a4_] G9) fun x11 G12 =>
  bP (pExtract x11 0) fun x13 =>
  bP (pExtract x11 1) fun x14 =>
  bP (bn Q q .eql 270 (.tmp 55) (.const (.int .i64 2)) x14 (.int .i64 2)) fun x15 =>
  ifV x15 (
  bS (e.ev.cl 166 [a0_, a1_, a2_, a4_] G12) fun x16 G17 =>
  bP (bn Q q .sub 3 (.tmp 62) (.const (.int .i64 1)) a2_ (.int .i64 1)) fun x18 =>
  bP (bn Q q .sub 3 (.tmp 64) (.tmp 65) x13 a1_) fun x19 =>
  bP (bn Q q .sub 3 (.tmp 63) (.tmp 66) x18 x19) fun x20 =>
  bS (gd a10_ true (some (a11_, G17)) G17) fun x21 G22 =>
  bP (pickV a10_ x21 (.bool false)) fun x23 =>
  bS (gd x23 true (some ((.int .i64 1), G22)) G22) fun x24 G25 =>
  bS (gd x23 true (bP (bn Q q .eql 270 (.tmp 73) (.const (.int .i64 1)) x24 (.int .i64 1)) fun y => some (y, G25)) G25) fun x26 G27 =>
  bP (pickV x23 x26 (.bool false)) fun x28 =>
  ifV x28 (
  bS (e.ev.cl 167 [a0_, a1_, a2_, a4_] G27) fun x29 G30 =>
  ifV x29 (
  some (.ret, clq q 148 (tu τ [(0, a0_), (1, a1_), (2, a2_), (3, x10), (4, a4_), (10, a10_), (11, a11_), (12, x0), (13, x20), (14, (.int .i64 1)), (21, a2_), (22, a1_), (23, x0), (24, x0), (25, x1), (31, a3_), (32, x4), (38, a10_), (39, x7), (40, a0_), (41, a1_), (42, a2_), (43, a4_), (44, x8), (45, a3_), (46, x10), (47, x11), (48, a0_), (49, a1_), (50, a2_), (51, a4_), (52, x11), (53, x13), (54, x14), (55, x14), (56, x15), (57, a0_), (58, a1_), (59, a2_), (60, a4_), (61, x16), (62, a2_), (63, x18), (64, x13), (65, a1_), (66, x19), (67, x20), (68, a10_), (69, a10_), (70, x21), (71, x23), (72, x23), (73, x24), (74, x26), (75, x28), (76, a0_), (77, a1_), (78, a2_), (79, a4_), (80, x29)]), G30)) (
  bP (bn Q q .gtr 3 (.tmp 81) (.const (.int .i64 0)) a1_ (.int .i64 0)) fun x31 =>
  bS (gd x31 true (some (a4_, (G30.room 17))) (G30.room 17)) fun x32 _ =>
  bS (gd x31 true (some (a0_, (G30.room 17))) (G30.room 17)) fun x33 _ =>
  bS (gd x31 true (some (a1_, (G30.room 17))) (G30.room 17)) fun x34 _ =>
  bS (gd x31 true (bP (bn Q q .sub 3 (.tmp 86) (.const (.int .i64 1)) x34 (.int .i64 1)) fun y => some (y, (G30.room 17))) (G30.room 17)) fun x35 _ =>
  bS (gd x31 true (bP (ias Q q 90 1 x33 x35) fun y => some (y, (G30.room 17))) (G30.room 17)) fun x36 _ =>
  bS (gd x31 true (bP (ld Q q 38 x36 (G30.room 17)) fun y => some (y, (G30.room 17))) (G30.room 17)) fun x37 _ =>
  bS (gd x31 true (some (a0_, (G30.room 17))) (G30.room 17)) fun x38 _ =>
  bS (gd x31 true (some (x20, (G30.room 17))) (G30.room 17)) fun x39 _ =>
  bS (gd x31 true (bP (ias Q q 90 1 x38 x39) fun y => some (y, (G30.room 17))) (G30.room 17)) fun x40 _ =>
  bS (gd x31 true (bP (ld Q q 38 x40 (G30.room 17)) fun y => some (y, (G30.room 17))) (G30.room 17)) fun x41 _ =>
  bS (gd x31 true (bS (cValue e.ev x32 [x37, x41] (G30.room 17)) fun y G => some (y, G)) (G30.room 17)) fun x43 G42 =>
  bS (gd x31 true (bP (bn Q q .lss 3 (.tmp 94) (.const (.int .i64 0)) x43 (.int .i64 0)) fun y => some (y, G42)) G42) fun x44 _ =>
  bS (gd x31 true (bP (un Q q .not x44) fun y => some (y, G42)) G42) fun x45 _ =>
  bP (pickV x31 x45 (.bool false)) fun x46 =>
  ifV x46 (
  bS (e.ev.cl 168 [a0_, a1_, a2_, x20, a4_] G42) fun x47 G48 =>
  lp (tu τ [(0, a0_), (1, x47), (2, a2_), (3, x10), (4, a4_), (10, a10_), (11, a11_), (12, x0), (13, x20), (14, (.int .i64 1)), (15, x47), (21, a2_), (22, a1_), (23, x0), (24, x0), (25, x1), (31, a3_), (32, x4), (38, a10_), (39, x7), (40, a0_), (41, a1_), (42, a2_), (43, a4_), (44, x8), (45, a3_), (46, x10), (47, x11), (48, a0_), (49, a1_), (50, a2_), (51, a4_), (52, x11), (53, x13), (54, x14), (55, x14), (56, x15), (57, a0_), (58, a1_), (59, a2_), (60, a4_), (61, x16), (62, a2_), (63, x18), (64, x13), (65, a1_), (66, x19), (67, x20), (68, a10_), (69, a10_), (70, x21), (71, x23), (72, x23), (73, x24), (74, x26), (75, x28), (76, a0_), (77, a1_), (78, a2_), (79, a4_), (80, x29), (81, a1_), (82, x31), (83, x31), (84, x32), (85, x33), (86, x34), (87, x35), (88, x36), (89, x37), (90, x38), (91, x39), (92, x40), (93, x41), (94, x43), (95, x44), (96, x45), (97, x46), (98, a0_), (99, a1_), (100, a2_), (101, x20), (102, a4_), (103, x47), (104, x47)]) G48) (
  bS (e.ev.cl 169 [a0_, a1_, a2_, x20, a4_] G42) fun x49 G50 =>
  bP (pExtract x49 0) fun x51 =>
  bP (pExtract x49 1) fun x52 =>
  bP (bn Q q .sub 3 (.tmp 115) (.tmp 116) x51 a1_) fun x53 =>
  bP (bn Q q .sub 3 (.tmp 118) (.tmp 119) a2_ x51) fun x54 =>
  bP (bn Q q .quo 3 (.tmp 121) (.const (.int .i64 8)) x0 (.int .i64 8)) fun x55 =>
  bP (bn Q q .lss 3 (.tmp 123) (.tmp 124) x53 x54) fun x56 =>
  ifV x56 (
  bP (bn Q q .geq 3 (.tmp 126) (.tmp 127) x53 x55) fun x57 =>
  bS (e.ev.cl 123 [a0_, a1_, x51, x10, a4_] G50) fun x58 G59 =>
  bP (bn Q q .add 3 (.tmp 135) (.const (.int .i64 1)) x51 (.int .i64 1)) fun x60 =>
  lp (tu τ [(0, a0_), (1, x60), (2, a2_), (3, x10), (4, a4_), (10, x57), (11, x52), (12, x0), (13, x20), (14, (.int .i64 1)), (16, x51), (17, x52), (18, x53), (19, x54), (20, x55), (21, a2_), (22, a1_), (23, x0), (24, x0), (25, x1), (31, a3_), (32, x4), (38, a10_), (39, x7), (40, a0_), (41, a1_), (42, a2_), (43, a4_), (44, x8), (45, a3_), (46, x10), (47, x11), (48, a0_), (49, a1_), (50, a2_), (51, a4_), (52, x11), (53, x13), (54, x14), (55, x14), (56, x15), (57, a0_), (58, a1_), (59, a2_), (60, a4_), (61, x16), (62, a2_), (63, x18), (64, x13), (65, a1_), (66, x19), (67, x20), (68, a10_), (69, a10_), (70, x21), (71, x23), (72, x23), (73, x24), (74, x26), (75, x28), (76, a0_), (77, a1_), (78, a2_), (79, a4_), (80, x29), (81, a1_), (82, x31), (83, x31), (84, x32), (85, x33), (86, x34), (87, x35), (88, x36), (89, x37), (90, x38), (91, x39), (92, x40), (93, x41), (94, x43), (95, x44), (96, x45), (97, x46), (105, x49), (106, a0_), (107, a1_), (108, a2_), (109, x20), (110, a4_), (111, x49), (112, x51), (113, x52), (114, x52), (115, x51), (116, a1_), (117, x53), (118, a2_), (119, x51), (120, x54), (121, x0), (122, x55), (123, x53), (124, x54), (125, x56), (126, x53), (127, x55), (128, x57), (129, a0_), (130, a1_), (131, x51), (132, x10), (133, a4_), (134, x58), (135, x51), (136, x60)]) G59) (
  bP (bn Q q .geq 3 (.tmp 137) (.tmp 138) x54 x55) fun x61 =>
  bP (bn Q q .add 3 (.tmp 141) (.const (.int .i64 1)) x51 (.int .i64 1)) fun x62 =>
  bS (e.ev.cl 123 [a0_, x62, a2_, x10, a4_] G50) fun x63 G64 =>
  lp (tu τ [(0, a0_), (1, a1_), (2, x51), (3, x10), (4, a4_), (10, x61), (11, x52), (12, x0), (13, x20), (14, (.int .i64 1)), (16, x51), (17, x52), (18, x53), (19, x54), (20, x55), (21, a2_), (22, a1_), (23, x0), (24, x0), (25, x1), (31, a3_), (32, x4), (38, a10_), (39, x7), (40, a0_), (41, a1_), (42, a2_), (43, a4_), (44, x8), (45, a3_), (46, x10), (47, x11), (48, a0_), (49, a1_), (50, a2_), (51, a4_), (52, x11), (53, x13), (54, x14), (55, x14), (56, x15), (57, a0_), (58, a1_), (59, a2_), (60, a4_), (61, x16), (62, a2_), (63, x18), (64, x13), (65, a1_), (66, x19), (67, x20), (68, a10_), (69, a10_), (70, x21), (71, x23), (72, x23), (73, x24), (74, x26), (75, x28), (76, a0_), (77, a1_), (78, a2_), (79, a4_), (80, x29), (81, a1_), (82, x31), (83, x31), (84, x32), (85, x33), (86, x34), (87, x35), (88, x36), (89, x37), (90, x38), (91, x39), (92, x40), (93, x41), (94, x43), (95, x44), (96, x45), (97, x46), (105, x49), (106, a0_), (107, a1_), (108, a2_), (109, x20), (110, a4_), (111, x49), (112, x51), (113, x52), (114, x52), (115, x51), (116, a1_), (117, x53), (118, a2_), (119, x51), (120, x54), (121, x0), (122, x55), (123, x53), (124, x54), (125, x56), (137, x54), (138, x55), (139, x61), (140, a0_), (141, x51), (142, x62), (143, a2_), (144, x10), (145, a4_), (146, x63), (147, x51)]) G64)))) (
  bP (bn Q q .gtr 3 (.tmp 81) (.const (.int .i64 0)) a1_ (.int .i64 0)) fun x65 =>
  bS (gd x65 true (some (a4_, (G27.room 17))) (G27.room 17)) fun x66 _ =>
  bS (gd x65 true (some (a0_, (G27.room 17))) (G27.room 17)) fun x67 _ =>
  bS (gd x65 true (some (a1_, (G27.room 17))) (G27.room 17)) fun x68 _ =>
  bS (gd x65 true (bP (bn Q q .sub 3 (.tmp 86) (.const (.int .i64 1)) x68 (.int .i64 1)) fun y => some (y, (G27.room 17))) (G27.room 17)) fun x69 _ =>
  bS (gd x65 true (bP (ias Q q 90 1 x67 x69) fun y => some (y, (G27.room 17))) (G27.room 17)) fun x70 _ =>
  bS (gd x65 true (bP (ld Q q 38 x70 (G27.room 17)) fun y => some (y, (G27.room 17))) (G27.room 17)) fun x71 _ =>
  bS (gd x65 true (some (a0_, (G27.room 17))) (G27.room 17)) fun x72 _ =>
  bS (gd x65 true (some (x20, (G27.room 17))) (G27.room 17)) fun x73 _ =>
  bS (gd x65 true (bP (ias Q q 90 1 x72 x73) fun y => some (y, (G27.room 17))) (G27.room 17)) fun x74 _ =>
  bS (gd x65 true (bP (ld Q q 38 x74 (G27.room 17)) fun y => some (y, (G27.room 17))) (G27.room 17)) fun x75 _ =>
  bS (gd x65 true (bS (cValue e.ev x66 [x71, x75] (G27.room 17)) fun y G => some (y, G)) (G27.room 17)) fun x77 G76 =>
  bS (gd x65 true (bP (bn Q q .lss 3 (.tmp 94) (.const (.int .i64 0)) x77 (.int .i64 0)) fun y => some (y, G76)) G76) fun x78 _ =>
  bS (gd x65 true (bP (un Q q .not x78) fun y => some (y, G76)) G76) fun x79 _ =>
  bP (pickV x65 x79 (.bool false)) fun x80 =>
  ifV x80 (
  bS (e.ev.cl 168 [a0_, a1_, a2_, x20, a4_] G76) fun x81 G82 =>
  lp (tu τ [(0, a0_), (1, x81), (2, a2_), (3, x10), (4, a4_), (10, a10_), (11, a11_), (12, x0), (13, x20), (14, (.int .i64 1)), (15, x81), (21, a2_), (22, a1_), (23, x0), (24, x0), (25, x1), (31, a3_), (32, x4), (38, a10_), (39, x7), (40, a0_), (41, a1_), (42, a2_), (43, a4_), (44, x8), (45, a3_), (46, x10), (47, x11), (48, a0_), (49, a1_), (50, a2_), (51, a4_), (52, x11), (53, x13), (54, x14), (55, x14), (56, x15), (57, a0_), (58, a1_), (59, a2_), (60, a4_), (61, x16), (62, a2_), (63, x18), (64, x13), (65, a1_), (66, x19), (67, x20), (68, a10_), (69, a10_), (70, x21), (71, x23), (72, x23), (73, x24), (74, x26), (75, x28), (81, a1_), (82, x65), (83, x65), (84, x66), (85, x67), (86, x68), (87, x69), (88, x70), (89, x71), (90, x72), (91, x73), (92, x74), (93, x75), (94, x77), (95, x78), (96, x79), (97, x80), (98, a0_), (99, a1_), (100, a2_), (101, x20), (102, a4_), (103, x81), (104, x81)]) G82) (
  bS (e.ev.cl 169 [a0_, a1_, a2_, x20, a4_] G76) fun x83 G84 =>
  bP (pExtract x83 0) fun x85 =>
  bP (pExtract x83 1) fun x86 =>
  bP (bn Q q .sub 3 (.tmp 115) (.tmp 116) x85 a1_) fun x87 =>
  bP (bn Q q .sub 3 (.tmp 118) (.tmp 119) a2_ x85) fun x88 =>
  bP (bn Q q .quo 3 (.tmp 121) (.const (.int .i64 8)) x0 (.int .i64 8)) fun x89 =>
  bP (bn Q q .lss 3 (.tmp 123) (.tmp 124) x87 x88) fun x90 =>
  ifV x90 (
  bP (bn Q q .geq 3 (.tmp 126) (.tmp 127) x87 x89) fun x91 =>
  bS (e.ev.cl 123 [a0_, a1_, x85, x10, a4_] G84) fun x92 G93 =>
  bP (bn Q q .add 3 (.tmp 135) (.const (.int .i64 1)) x85 (.int .i64 1)) fun x94 =>
  lp (tu τ [(0, a0_), (1, x94), (2, a2_), (3, x10), (4, a4_), (10, x91), (11, x86), (12, x0), (13, x20), (14, (.int .i64 1)), (16, x85), (17, x86), (18, x87), (19, x88), (20, x89), (21, a2_), (22, a1_), (23, x0), (24, x0), (25, x1), (31, a3_), (32, x4), (38, a10_), (39, x7), (40, a0_), (41, a1_), (42, a2_), (43, a4_), (44, x8), (45, a3_), (46, x10), (47, x11), (48, a0_), (49, a1_), (50, a2_), (51, a4_), (52, x11), (53, x13), (54, x14), (55, x14), (56, x15), (57, a0_), (58, a1_), (59, a2_), (60, a4_), (61, x16), (62, a2_), (63, x18), (64, x13), (65, a1_), (66, x19), (67, x20), (68, a10_), (69, a10_), (70, x21), (71, x23), (72, x23), (73, x24), (74, x26), (75, x28), (81, a1_), (82, x65), (83, x65), (84, x66), (85, x67), (86, x68), (87, x69), (88, x70), (89, x71), (90, x72), (91, x73), (92, x74), (93, x75), (94, x77), (95, x78), (96, x79), (97, x80), (105, x83), (106, a0_), (107, a1_), (108, a2_), (109, x20), (110, a4_), (111, x83), (112, x85), (113, x86), (114, x86), (115, x85), (116, a1_), (117, x87), (118, a2_), (119, x85), (120, x88), (121, x0), (122, x89), (123, x87), (124, x88), (125, x90), (126, x87), (127, x89), (128, x91), (129, a0_), (130, a1_), (131, x85), (132, x10), (133, a4_), (134, x92), (135, x85), (136, x94)]) G93) (
  bP (bn Q q .geq 3 (.tmp 137) (.tmp 138) x88 x89) fun x95 =>
  bP (bn Q q .add 3 (.tmp 141) (.const (.int .i64 1)) x85 (.int .i64 1)) fun x96 =>
  bS (e.ev.cl 123 [a0_, x96, a2_, x10, a4_] G84) fun x97 G98 =>
  lp (tu τ [(0, a0_), (1, a1_), (2, x85), (3, x10), (4, a4_), (10, x95), (11, x86), (12, x0), (13, x20), (14, (.int .i64 1)), (16, x85), (17, x86), (18, x87), (19, x88), (20, x89), (21, a2_), (22, a1_), (23, x0), (24, x0), (25, x1), (31, a3_), (32, x4), (38, a10_), (39, x7), (40, a0_), (41, a1_), (42, a2_), (43, a4_), (44, x8), (45, a3_), (46, x10), (47, x11), (48, a0_), (49, a1_), (50, a2_), (51, a4_), (52, x11), (53, x13), (54, x14), (55, x14), (56, x15), (57, a0_), (58, a1_), (59, a2_), (60, a4_), (61, x16), (62, a2_), (63, x18), (64, x13), (65, a1_), (66, x19), (67, x20), (68, a10_), (69, a10_), (70, x21), (71, x23), (72, x23), (73, x24), (74, x26), (75, x28), (81, a1_), (82, x65), (83, x65), (84, x66), (85, x67), (86, x68), (87, x69), (88, x70), (89, x71), (90, x72), (91, x73), (92, x74), (93, x75), (94, x77), (95, x78), (96, x79), (97, x80), (105, x83), (106, a0_), (107, a1_), (108, a2_), (109, x20), (110, a4_), (111, x83), (112, x85), (113, x86), (114, x86), (115, x85), (116, a1_), (117, x87), (118, a2_), (119, x85), (120, x88), (121, x0), (122, x89), (123, x87), (124, x88), (125, x90), (137, x88), (138, x89), (139, x95), (140, a0_), (141, x85), (142, x96), (143, a2_), (144, x10), (145, a4_), (146, x97), (147, x85)]) G98)))) (
  bS (gd a10_ true (some (a11_, G12)) G12) fun x99 G100 =>
  bP (pickV a10_ x99 (.bool false)) fun x101 =>
  bS (gd x101 true (some (x14, G100)) G100) fun x102 G103 =>
  bS (gd x101 true (bP (bn Q q .eql 270 (.tmp 73) (.const (.int .i64 1)) x102 (.int .i64 1)) fun y => some (y, G103)) G103) fun x104 G105 =>
  bP (pickV x101 x104 (.bool false)) fun x106 =>
  ifV x106 (
  bS (e.ev.cl 167 [a0_, a1_, a2_, a4_] G105) fun x107 G108 =>
  ifV x107 (
  some (.ret, clq q 148 (tu τ [(0, a0_), (1, a1_), (2, a2_), (3, x10), (4, a4_), (10, a10_), (11, a11_), (12, x0), (13, x13), (14, x14), (21, a2_), (22, a1_), (23, x0), (24, x0), (25, x1), (31, a3_), (32, x4), (38, a10_), (39, x7), (40, a0_), (41, a1_), (42, a2_), (43, a4_), (44, x8), (45, a3_), (46, x10), (47, x11), (48, a0_), (49, a1_), (50, a2_), (51, a4_), (52, x11), (53, x13), (54, x14), (55, x14), (56, x15), (68, a10_), (69, a10_), (70, x99), (71, x101), (72, x101), (73, x102), (74, x104), (75, x106), (76, a0_), (77, a1_), (78, a2_), (79, a4_), (80, x107)]), G108)) (
  bP (bn Q q .gtr 3 (.tmp 81) (.const (.int .i64 0)) a1_ (.int .i64 0)) fun x109 =>
  bS (gd x109 true (some (a4_, (G108.room 17))) (G108.room 17)) fun x110 _ =>
  bS (gd x109 true (some (a0_, (G108.room 17))) (G108.room 17)) fun x111 _ =>
  bS (gd x109 true (some (a1_, (G108.room 17))) (G108.room 17)) fun x112 _ =>
  bS (gd x109 true (bP (bn Q q .sub 3 (.tmp 86) (.const (.int .i64 1)) x112 (.int .i64 1)) fun y => some (y, (G108.room 17))) (G108.room 17)) fun x113 _ =>
  bS (gd x109 true (bP (ias Q q 90 1 x111 x113) fun y => some (y, (G108.room 17))) (G108.room 17)) fun x114 _ =>
  bS (gd x109 true (bP (ld Q q 38 x114 (G108.room 17)) fun y => some (y, (G108.room 17))) (G108.room 17)) fun x115 _ =>
  bS (gd x109 true (some (a0_, (G108.room 17))) (G108.room 17)) fun x116 _ =>
  bS (gd x109 true (some (x13, (G108.room 17))) (G108.room 17)) fun x117 _ =>
  bS (gd x109 true (bP (ias Q q 90 1 x116 x117) fun y => some (y, (G108.room 17))) (G108.room 17)) fun x118 _ =>
  bS (gd x109 true (bP (ld Q q 38 x118 (G108.room 17)) fun y => some (y, (G108.room 17))) (G108.room 17)) fun x119 _ =>
  bS (gd x109 true (bS (cValue e.ev x110 [x115, x119] (G108.room 17)) fun y G => some (y, G)) (G108.room 17)) fun x121 G120 =>
  bS (gd x109 true (bP (bn Q q .lss 3 (.tmp 94) (.const (.int .i64 0)) x121 (.int .i64 0)) fun y => some (y, G120)) G120) fun x122 _ =>
  bS (gd x109 true (bP (un Q q .not x122) fun y => some (y, G120)) G120) fun x123 _ =>
  bP (pickV x109 x123 (.bool false)) fun x124 =>
  ifV x124 (
  bS (e.ev.cl 168 [a0_, a1_, a2_, x13, a4_] G120) fun x125 G126 =>
  lp (tu τ [(0, a0_), (1, x125), (2, a2_), (3, x10), (4, a4_), (10, a10_), (11, a11_), (12, x0), (13, x13), (14, x14), (15, x125), (21, a2_), (22, a1_), (23, x0), (24, x0), (25, x1), (31, a3_), (32, x4), (38, a10_), (39, x7), (40, a0_), (41, a1_), (42, a2_), (43, a4_), (44, x8), (45, a3_), (46, x10), (47, x11), (48, a0_), (49, a1_), (50, a2_), (51, a4_), (52, x11), (53, x13), (54, x14), (55, x14), (56, x15), (68, a10_), (69, a10_), (70, x99), (71, x101), (72, x101), (73, x102), (74, x104), (75, x106), (76, a0_), (77, a1_), (78, a2_), (79, a4_), (80, x107), (81, a1_), (82, x109), (83, x109), (84, x110), (85, x111), (86, x112), (87, x113), (88, x114), (89, x115), (90, x116), (91, x117), (92, x118), (93, x119), (94, x121), (95, x122), (96, x123), (97, x124), (98, a0_), (99, a1_), (100, a2_), (101, x13), (102, a4_), (103, x125), (104, x125)]) G126) (
  bS (e.ev.cl 169 [a0_, a1_, a2_, x13, a4_] G120) fun x127 G128 =>
  bP (pExtract x127 0) fun x129 =>
  bP (pExtract x127 1) fun x130 =>
  bP (bn Q q .sub 3 (.tmp 115) (.tmp 116) x129 a1_) fun x131 =>
  bP (bn Q q .sub 3 (.tmp 118) (.tmp 119) a2_ x129) fun x132 =>
  bP (bn Q q .quo 3 (.tmp 121) (.const (.int .i64 8)) x0 (.int .i64 8)) fun x133 =>
  bP (bn Q q .lss 3 (.tmp 123) (.tmp 124) x131 x132) fun x134 =>
  ifV x134 (
  bP (bn Q q .geq 3 (.tmp 126) (.tmp 127) x131 x133) fun x135 =>
  bS (e.ev.cl 123 [a0_, a1_, x129, x10, a4_] G128) fun x136 G137 =>
  bP (bn Q q .add 3 (.tmp 135) (.const (.int .i64 1)) x129 (.int .i64 1)) fun x138 =>
  lp (tu τ [(0, a0_), (1, x138), (2, a2_), (3, x10), (4, a4_), (10, x135), (11, x130), (12, x0), (13, x13), (14, x14), (16, x129), (17, x130), (18, x131), (19, x132), (20, x133), (21, a2_), (22, a1_), (23, x0), (24, x0), (25, x1), (31, a3_), (32, x4), (38, a10_), (39, x7), (40, a0_), (41, a1_), (42, a2_), (43, a4_), (44, x8), (45, a3_), (46, x10), (47, x11), (48, a0_), (49, a1_), (50, a2_), (51, a4_), (52, x11), (53, x13), (54, x14), (55, x14), (56, x15), (68, a10_), (69, a10_), (70, x99), (71, x101), (72, x101), (73, x102), (74, x104), (75, x106), (76, a0_), (77, a1_), (78, a2_), (79, a4_), (80, x107), (81, a1_), (82, x109), (83, x109), (84, x110), (85, x111), (86, x112), (87, x113), (88, x114), (89, x115), (90, x116), (91, x117), (92, x118), (93, x119), (94, x121), (95, x122), (96, x123), (97, x124), (105, x127), (106, a0_), (107, a1_), (108, a2_), (109, x13), (110, a4_), (111, x127), (112, x129), (113, x130), (114, x130), (115, x129), (116, a1_), (117, x131), (118, a2_), (119, x129), (120, x132), (121, x0), (122, x133), (123, x131), (124, x132), (125, x134), (126, x131), (127, x133), (128, x135), (129, a0_), (130, a1_), (131, x129), (132, x10), (133, a4_), (134, x136), (135, x129), (136, x138)]) G137) (
  bP (bn Q q .geq 3 (.tmp 137) (.tmp 138) x132 x133) fun x139 =>
  bP (bn Q q .add 3 (.tmp 141) (.const (.int .i64 1)) x129 (.int .i64 1)) fun x140 =>
  bS (e.ev.cl 123 [a0_, x140, a2_, x10, a4_] G128) fun x141 G142 =>
  lp (tu τ [(0, a0_), (1, a1_), (2, x129), (3, x10), (4, a4_), (10, x139), (11, x130), (12, x0), (13, x13), (14, x14), (16, x129), (17, x130), (18, x131), (19, x132), (20, x133), (21, a2_), (22, a1_), (23, x0), (24, x0), (25, x1), (31, a3_), (32, x4), (38, a10_), (39, x7), (40, a0_), (41, a1_), (42, a2_), (43, a4_), (44, x8), (45, a3_), (46, x10), (47, x11), (48, a0_), (49, a1_), (50, a2_), (51, a4_), (52, x11), (53, x13), (54, x14), (55, x14), (56, x15), (68, a10_), (69, a10_), (70, x99), (71, x101), (72, x101), (73, x102), (74, x104), (75, x106), (76, a0_), (77, a1_), (78, a2_), (79, a4_), (80, x107), (81, a1_), (82, x109), (83, x109), (84, x110), (85, x111), (86, x112), (87, x113), (88, x114), (89, x115), (90, x116), (91, x117), (92, x118), (93, x119), (94, x121), (95, x122), (96, x123), (97, x124), (105, x127), (106, a0_), (107, a1_), (108, a2_), (109, x13), (110, a4_), (111, x127), (112, x129), (113, x130), (114, x130), (115, x129), (116, a1_), (117, x131), (118, a2_), (119, x129), (120, x132), (121, x0), (122, x133), (123, x131), (124, x132), (125, x134), (137, x132), (138, x133), (139, x139), (140, a0_), (141, x129), (142, x140), (143, a2_), (144, x10), (145, a4_), (146, x141), (147, x129)]) G142)))) (
  bP (bn Q q .gtr 3 (.tmp 81) (.const (.int .i64 0)) a1_ (.int .i64 0)) fun x143 =>
  bS (gd x143 true (some (a4_, (G105.room 17))) (G105.room 17)) fun x144 _ =>
  bS (gd x143 true (some (a0_, (G105.room 17))) (G105.room 17)) fun x145 _ =>
  bS (gd x143 true (some (a1_, (G105.room 17))) (G105.room 17)) fun x146 _ =>
  bS (gd x143 true (bP (bn Q q .sub 3 (.tmp 86) (.const (.int .i64 1)) x146 (.int .i64 1)) fun y => some (y, (G105.room 17))) (G105.room 17)) fun x147 _ =>
  bS (gd x143 true (bP (ias Q q 90 1 x145 x147) fun y => some (y, (G105.room 17))) (G105.room 17)) fun x148 _ =>
  bS (gd x143 true (bP (ld Q q 38 x148 (G105.room 17)) fun y => some (y, (G105.room 17))) (G105.room 17)) fun x149 _ =>
  bS (gd x143 true (some (a0_, (G105.room 17))) (G105.room 17)) fun x150 _ =>
  bS (gd x143 true (some (x13, (G105.room 17))) (G105.room 17)) fun x151 _ =>
  bS (gd x143 true (bP (ias Q q 90 1 x150 x151) fun y => some (y, (G105.room 17))) (G105.room 17)) fun x152 _ =>
  bS (gd x143 true (bP (ld Q q 38 x152 (G105.room 17)) fun y => some (y, (G105.room 17))) (G105.room 17)) fun x153 _ =>
  bS (gd x143 true (bS (cValue e.ev x144 [x149, x153] (G105.room 17)) fun y G => some (y, G)) (G105.room 17)) fun x155 G154 =>
  bS (gd x143 true (bP (bn Q q .lss 3 (.tmp 94) (.const (.int .i64 0)) x155 (.int .i64 0)) fun y => some (y, G154)) G154) fun x156 _ =>
  bS (gd x143 true (bP (un Q q .not x156) fun y => some (y, G154)) G154) fun x157 _ =>
  bP (pickV x143 x157 (.bool false)) fun x158 =>
  ifV x158 (
  bS (e.ev.cl 168 [a0_, a1_, a2_, x13, a4_] G154) fun x159 G160 =>
  lp (tu τ [(0, a0_), (1, x159), (2, a2_), (3, x10), (4, a4_), (10, a10_), (11, a11_), (12, x0), (13, x13), (14, x14), (15, x159), (21, a2_), (22, a1_), (23, x0), (24, x0), (25, x1), (31, a3_), (32, x4), (38, a10_), (39, x7), (40, a0_), (41, a1_), (42, a2_), (43, a4_), (44, x8), (45, a3_), (46, x10), (47, x11), (48, a0_), (49, a1_), (50, a2_), (51, a4_), (52, x11), (53, x13), (54, x14), (55, x14), (56, x15), (68, a10_), (69, a10_), (70, x99), (71, x101), (72, x101), (73, x102), (74, x104), (75, x106), (81, a1_), (82, x143), (83, x143), (84, x144), (85, x145), (86, x146), (87, x147), (88, x148), (89, x149), (90, x150), (91, x151), (92, x152), (93, x153), (94, x155), (95, x156), (96, x157), (97, x158), (98, a0_), (99, a1_), (100, a2_), (101, x13), (102, a4_), (103, x159), (104, x159)]) G160) (
  bS (e.ev.cl 169 [a0_, a1_, a2_, x13, a4_] G154) fun x161 G162 =>
  bP (pExtract x161 0) fun x163 =>
  bP (pExtract x161 1) fun x164 =>
  bP (bn Q q .sub 3 (.tmp 115) (.tmp 116) x163 a1_) fun x165 =>
  bP (bn Q q .sub 3 (.tmp 118) (.tmp 119) a2_ x163) fun x166 =>
  bP (bn Q q .quo 3 (.tmp 121) (.const (.int .i64 8)) x0 (.int .i64 8)) fun x167 =>
  bP (bn Q q .lss 3 (.tmp 123) (.tmp 124) x165 x166) fun x168 =>
  ifV x168 (
  bP (bn Q q .geq 3 (.tmp 126) (.tmp 127) x165 x167) fun x169 =>
  bS (e.ev.cl 123 [a0_, a1_, x163, x10, a4_] G162) fun x170 G171 =>
  bP (bn Q q .add 3 (.tmp 135) (.const (.int .i64 1)) x163 (.int .i64 1)) fun x172 =>
  lp (tu τ [(0, a0_), (1, x172), (2, a2_), (3, x10), (4, a4_), (10, x169), (11, x164), (12, x0), (13, x13), (14, x14), (16, x163), (17, x164), (18, x165), (19, x166), (20, x167), (21, a2_), (22, a1_), (23, x0), (24, x0), (25, x1), (31, a3_), (32, x4), (38, a10_), (39, x7), (40, a0_), (41, a1_), (42, a2_), (43, a4_), (44, x8), (45, a3_), (46, x10), (47, x11), (48, a0_), (49, a1_), (50, a2_), (51, a4_), (52, x11), (53, x13), (54, x14), (55, x14), (56, x15), (68, a10_), (69, a10_), (70, x99), (71, x101), (72, x101), (73, x102), (74, x104), (75, x106), (81, a1_), (82, x143), (83, x143), (84, x144), (85, x145), (86, x146), (87, x147), (88, x148), (89, x149), (90, x150), (91, x151), (92, x152), (93, x153), (94, x155), (95, x156), (96, x157), (97, x158), (105, x161), (106, a0_), (107, a1_), (108, a2_), (109, x13), (110, a4_), (111, x161), (112, x163), (113, x164), (114, x164), (115, x163), (116, a1_), (117, x165), (118, a2_), (119, x163), (120, x166), (121, x0), (122, x167), (123, x165), (124, x166), (125, x168), (126, x165), (127, x167), (128, x169), (129, a0_), (130, a1_), (131, x163), (132, x10), (133, a4_), (134, x170), (135, x163), (136, x172)]) G171) (
  bP (bn Q q .geq 3 (.tmp 137) (.tmp 138) x166 x167) fun x173 =>
  bP (bn Q q .add 3 (.tmp 141) (.const (.int .i64 1)) x163 (.int .i64 1)) fun x174 =>
  bS (e.ev.cl 123 [a0_, x174, a2_, x10, a4_] G162) fun x175 G176 =>
  lp (tu τ [(0, a0_), (1, a1_), (2, x163), (3, x10), (4, a4_), (10, x173), (11, x164), (12, x0), (13, x13), (14, x14), (16, x163), (17, x164), (18, x165), (19, x166), (20, x167), (21, a2_), (22, a1_), (23, x0), (24, x0), (25, x1), (31, a3_), (32, x4), (38, a10_), (39, x7), (40, a0_), (41, a1_), (42, a2_), (43, a4_), (44, x8), (45, a3_), (46, x10), (47, x11), (48, a0_), (49, a1_), (50, a2_), (51, a4_), (52, x11), (53, x13), (54, x14), (55, x14), (56, x15), (68, a10_), (69, a10_), (70, x99), (71, x101), (72, x101), (73, x102), (74, x104), (75, x106), (81, a1_), (82, x143), (83, x143), (84, x144), (85, x145), (86, x146), (87, x147), (88, x148), (89, x149), (90, x150), (91, x151), (92, x152), (93, x153), (94, x155), (95, x156), (96, x157), (97, x158), (105, x161), (106, a0_), (107, a1_), (108, a2_), (109, x13), (110, a4_), (111, x161), (112, x163), (113, x164), (114, x164), (115, x163), (116, a1_), (117, x165), (118, a2_), (119, x163), (120, x166), (121, x0), (122, x167), (123, x165), (124, x166), (125, x168), (137, x166), (138, x167), (139, x173), (140, a0_), (141, x163), (142, x174), (143, a2_), (144, x10), (145, a4_), (146, x175), (147, x163)]) G176))))) (
  bS (e.ev.cl 165 [a0_, a1_, a2_, a4_] G) fun x177 G178 =>
  bP (pExtract x177 0) fun x179 =>
  bP (pExtract x177 1) fun x180 =>
  bP (bn Q q .eql 270 (.tmp 55) (.const (.int .i64 2)) x180 (.int .i64 2)) fun x181 =>
  ifV x181 (
  bS (e.ev.cl 166 [a0_, a1_, a2_, a4_] G178) fun x182 G183 =>
  bP (bn Q q .sub 3 (.tmp 62) (.const (.int .i64 1)) a2_ (.int .i64 1)) fun x184 =>
  bP (bn Q q .sub 3 (.tmp 64) (.tmp 65) x179 a1_) fun x185 =>
  bP (bn Q q .sub 3 (.tmp 63) (.tmp 66) x184 x185) fun x186 =>
  bS (gd a10_ true (some (a11_, G183)) G183) fun x187 G188 =>
  bP (pickV a10_ x187 (.bool false)) fun x189 =>
  bS (gd x189 true (some ((.int .i64 1), G188)) G188) fun x190 G191 =>
  bS (gd x189 true (bP (bn Q q .eql 270 (.tmp 73) (.const (.int .i64 1)) x190 (.int .i64 1)) fun y => some (y, G191)) G191) fun x192 G193 =>
  bP (pickV x189 x192 (.bool false)) fun x194 =>
  ifV x194 (
  bS (e.ev.cl 167 [a0_, a1_, a2_, a4_] G193) fun x195 G196 =>
  ifV x195 (
  some (.ret, clq q 148 (tu τ [(0, a0_), (1, a1_), (2, a2_), (3, a3_), (4, a4_), (10, a10_), (11, a11_), (12, x0), (13, x186), (14, (.int .i64 1)), (21, a2_), (22, a1_), (23, x0), (24, x0), (25, x1), (31, a3_), (32, x4), (38, a10_), (39, x7), (47, x177), (48, a0_), (49, a1_), (50, a2_), (51, a4_), (52, x177), (53, x179), (54, x180), (55, x180), (56, x181), (57, a0_), (58, a1_), (59, a2_), (60, a4_), (61, x182), (62, a2_), (63, x184), (64, x179), (65, a1_), (66, x185), (67, x186), (68, a10_), (69, a10_), (70, x187), (71, x189), (72, x189), (73, x190), (74, x192), (75, x194), (76, a0_), (77, a1_), (78, a2_), (79, a4_), (80, x195)]), G196)) (
  bP (bn Q q .gtr 3 (.tmp 81) (.const (.int .i64 0)) a1_ (.int .i64 0)) fun x197 =>
  bS (gd x197 true (some (a4_, (G196.room 17))) (G196.room 17)) fun x198 _ =>
  bS (gd x197 true (some (a0_, (G196.room 17))) (G196.room 17)) fun x199 _ =>
  bS (gd x197 true (some (a1_, (G196.room 17))) (G196.room 17)) fun x200 _ =>
  bS (gd x197 true (bP (bn Q q .sub 3 (.tmp 86) (.const (.int .i64 1)) x200 (.int .i64 1)) fun y => some (y, (G196.room 17))) (G196.room 17)) fun x201 _ =>
  bS (gd x197 true (bP (ias Q q 90 1 x199 x201) fun y => some (y, (G196.room 17))) (G196.room 17)) fun x202 _ =>
  bS (gd x197 true (bP (ld Q q 38 x202 (G196.room 17)) fun y => some (y, (G196.room 17))) (G196.room 17)) fun x203 _ =>
  bS (gd x197 true (some (a0_, (G196.room 17))) (G196.room 17)) fun x204 _ =>
  bS (gd x197 true (some (x186, (G196.room 17))) (G196.room 17)) fun x205 _ =>
  bS (gd x197 true (bP (ias Q q 90 1 x204 x205) fun y => some (y, (G196.room 17))) (G196.room 17)) fun x206 _ =>
  bS (gd x197 true (bP (ld Q q 38 x206 (G196.room 17)) fun y => some (y, (G196.room 17))) (G196.room 17)) fun x207 _ =>
  bS (gd x197 true (bS (cValue e.ev x198 [x203, x207] (G196.room 17)) fun y G => some (y, G)) (G196.room 17)) fun x209 G208 =>
  bS (gd x197 true (bP (bn Q q .lss 3 (.tmp 94) (.const (.int .i64 0)) x209 (.int .i64 0)) fun y => some (y, G208)) G208) fun x210 _ =>
  bS (gd x197 true (bP (un Q q .not x210) fun y => some (y, G208)) G208) fun x211 _ =>
  bP (pickV x197 x211 (.bool false)) fun x212 =>
  ifV x212 (
  bS (e.ev.cl 168 [a0_, a1_, a2_, x186, a4_] G208) fun x213 G214 =>
  lp (tu τ [(0, a0_), (1, x213), (2, a2_), (3, a3_), (4, a4_), (10, a10_), (11, a11_), (12, x0), (13, x186), (14, (.int .i64 1)), (15, x213), (21, a2_), (22, a1_), (23, x0), (24, x0), (25, x1), (31, a3_), (32, x4), (38, a10_), (39, x7), (47, x177), (48, a0_), (49, a1_), (50, a2_), (51, a4_), (52, x177), (53, x179), (54, x180), (55, x180), (56, x181), (57, a0_), (58, a1_), (59, a2_), (60, a4_), (61, x182), (62, a2_), (63, x184), (64, x179), (65, a1_), (66, x185), (67, x186), (68, a10_), (69, a10_), (70, x187), (71, x189), (72, x189), (73, x190), (74, x192), (75, x194), (76, a0_), (77, a1_), (78, a2_), (79, a4_), (80, x195), (81, a1_), (82, x197), (83, x197), (84, x198), (85, x199), (86, x200), (87, x201), (88, x202), (89, x203), (90, x204), (91, x205), (92, x206), (93, x207), (94, x209), (95, x210), (96, x211), (97, x212), (98, a0_), (99, a1_), (100, a2_), (101, x186), (102, a4_), (103, x213), (104, x213)]) G214) (
  bS (e.ev.cl 169 [a0_, a1_, a2_, x186, a4_] G208) fun x215 G216 =>
  bP (pExtract x215 0) fun x217 =>
  bP (pExtract x215 1) fun x218 =>
  bP (bn Q q .sub 3 (.tmp 115) (.tmp 116) x217 a1_) fun x219 =>
  bP (bn Q q .sub 3 (.tmp 118) (.tmp 119) a2_ x217) fun x220 =>
  bP (bn Q q .quo 3 (.tmp 121) (.const (.int .i64 8)) x0 (.int .i64 8)) fun x221 =>
  bP (bn Q q .lss 3 (.tmp 123) (.tmp 124) x219 x220) fun x222 =>
  ifV x222 (
  bP (bn Q q .geq 3 (.tmp 126) (.tmp 127) x219 x221) fun x223 =>
  bS (e.ev.cl 123 [a0_, a1_, x217, a3_, a4_] G216) fun x224 G225 =>
  bP (bn Q q .add 3 (.tmp 135) (.const (.int .i64 1)) x217 (.int .i64 1)) fun x226 =>
  lp (tu τ [(0, a0_), (1, x226), (2, a2_), (3, a3_), (4, a4_), (10, x223), (11, x218), (12, x0), (13, x186), (14, (.int .i64 1)), (16, x217), (17, x218), (18, x219), (19, x220), (20, x221), (21, a2_), (22, a1_), (23, x0), (24, x0), (25, x1), (31, a3_), (32, x4), (38, a10_), (39, x7), (47, x177), (48, a0_), (49, a1_), (50, a2_), (51, a4_), (52, x177), (53, x179), (54, x180), (55, x180), (56, x181), (57, a0_), (58, a1_), (59, a2_), (60, a4_), (61, x182), (62, a2_), (63, x184), (64, x179), (65, a1_), (66, x185), (67, x186), (68, a10_), (69, a10_), (70, x187), (71, x189), (72, x189), (73, x190), (74, x192), (75, x194), (76, a0_), (77, a1_), (78, a2_), (79, a4_), (80, x195), (81, a1_), (82, x197), (83, x197), (84, x198), (85, x199), (86, x200), (87, x201), (88, x202), (89, x203), (90, x204), (91, x205), (92, x206), (93, x207), (94, x209), (95, x210), (96, x211), (97, x212), (105, x215), (106, a0_), (107, a1_), (108, a2_), (109, x186), (110, a4_), (111, x215), (112, x217), (113, x218), (114, x218), (115, x217), (116, a1_), (117, x219), (118, a2_), (119, x217), (120, x220), (121, x0), (122, x221), (123, x219), (124, x220), (125, x222), (126, x219), (127, x221), (128, x223), (129, a0_), (130, a1_), (131, x217), (132, a3_), (133, a4_), (134, x224), (135, x217), (136, x226)]) G225) (
  bP (bn Q q .geq 3 (.tmp 137) (.tmp 138) x220 x221) fun x227 =>
  bP (bn Q q .add 3 (.tmp 141) (.const (.int .i64 1)) x217 (.int .i64 1)) fun x228 =>
  bS (e.ev.cl 123 [a0_, x228, a2_, a3_, a4_] G216) fun x229 G230 =>
  lp (tu τ [(0, a0_), (1, a1_), (2, x217), (3, a3_), (4, a4_), (10, x227), (11, x218), (12, x0), (13, x186), (14, (.int .i64 1)), (16, x217), (17, x218), (18, x219), (19, x220), (20, x221), (21, a2_), (22, a1_), (23, x0), (24, x0), (25, x1), (31, a3_), (32, x4), (38, a10_), (39, x7), (47, x177), (48, a0_), (49, a1_), (50, a2_), (51, a4_), (52, x177), (53, x179), (54, x180), (55, x180), (56, x181), (57, a0_), (58, a1_), (59, a2_), (60, a4_), (61, x182), (62, a2_), (63, x184), (64, x179), (65, a1_), (66, x185), (67, x186), (68, a10_), (69, a10_), (70, x187), (71, x189), (72, x189), (73, x190), (74, x192), (75, x194), (76, a0_), (77, a1_), (78, a2_), (79, a4_), (80, x195), (81, a1_), (82, x197), (83, x197), (84, x198), (85, x199), (86, x200), (87, x201), (88, x202), (89, x203), (90, x204), (91, x205), (92, x206), (93, x207), (94, x209), (95, x210), (96, x211), (97, x212), (105, x215), (106, a0_), (107, a1_), (108, a2_), (109, x186), (110, a4_), (111, x215), (112, x217), (113, x218), (114, x218), (115, x217), (116, a1_), (117, x219), (118, a2_), (119, x217), (120, x220), (121, x0), (122, x221), (123, x219), (124, x220), (125, x222), (137, x220), (138, x221), (139, x227), (140, a0_), (141, x217), (142, x228), (143, a2_), (144, a3_), (145, a4_), (146, x229), (147, x217)]) G230)))) (
  bP (bn Q q .gtr 3 (.tmp 81) (.const (.int .i64 0)) a1_ (.int .i64 0)) fun x231 =>
  bS (gd x231 true (some (a4_, (G193.room 17))) (G193.room 17)) fun x232 _ =>
  bS (gd x231 true (some (a0_, (G193.room 17))) (G193.room 17)) fun x233 _ =>
  bS (gd x231 true (some (a1_, (G193.room 17))) (G193.room 17)) fun x234 _ =>
  bS (gd x231 true (bP (bn Q q .sub 3 (.tmp 86) (.const (.int .i64 1)) x234 (.int .i64 1)) fun y => some (y, (G193.room 17))) (G193.room 17)) fun x235 _ =>
  bS (gd x231 true (bP (ias Q q 90 1 x233 x235) fun y => some (y, (G193.room 17))) (G193.room 17)) fun x236 _ =>
  bS (gd x231 true (bP (ld Q q 38 x236 (G193.room 17)) fun y => some (y, (G193.room 17))) (G193.room 17)) fun x237 _ =>
  bS (gd x231 true (some (a0_, (G193.room 17))) (G193.room 17)) fun x238 _ =>
  bS (gd x231 true (some (x186, (G193.room 17))) (G193.room 17)) fun x239 _ =>
  bS (gd x231 true (bP (ias Q q 90 1 x238 x239) fun y => some (y, (G193.room 17))) (G193.room 17)) fun x240 _ =>
  bS (gd x231 true (bP (ld Q q 38 x240 (G193.room 17)) fun y => some (y, (G193.room 17))) (G193.room 17)) fun x241 _ =>
  bS (gd x231 true (bS (cValue e.ev x232 [x237, x241] (G193.room 17)) fun y G => some (y, G)) (G193.room 17)) fun x243 G242 =>
  bS (gd x231 true (bP (bn Q q .lss 3 (.tmp 94) (.const (.int .i64 0)) x243 (.int .i64 0)) fun y => some (y, G242)) G242) fun x244 _ =>
  bS (gd x231 true (bP (un Q q .not x244) fun y => some (y, G242)) G242) fun x245 _ =>
  bP (pickV x231 x245 (.bool false)) fun x246 =>
  ifV x246 (
  bS (e.ev.cl 168 [a0_, a1_, a2_, x186, a4_] G242) fun x247 G248 =>
  lp (tu τ [(0, a0_), (1, x247), (2, a2_), (3, a3_), (4, a4_), (10, a10_), (11, a11_), (12, x0), (13, x186), (14, (.int .i64 1)), (15, x247), (21, a2_), (22, a1_), (23, x0), (24, x0), (25, x1), (31, a3_), (32, x4), (38, a10_), (39, x7), (47, x177), (48, a0_), (49, a1_), (50, a2_), (51, a4_), (52, x177), (53, x179), (54, x180), (55, x180), (56, x181), (57, a0_), (58, a1_), (59, a2_), (60, a4_), (61, x182), (62, a2_), (63, x184), (64, x179), (65, a1_), (66, x185), (67, x186), (68, a10_), (69, a10_), (70, x187), (71, x189), (72, x189), (73, x190), (74, x192), (75, x194), (81, a1_), (82, x231), (83, x231), (84, x232), (85, x233), (86, x234), (87, x235), (88, x236), (89, x237), (90, x238), (91, x239), (92, x240), (93, x241), (94, x243), (95, x244), (96, x245), (97, x246), (98, a0_), (99, a1_), (100, a2_), (101, x186), (102, a4_), (103, x247), (104, x247)]) G248) (
  bS (e.ev.cl 169 [a0_, a1_, a2_, x186, a4_] G242) fun x249 G250 =>
  bP (pExtract x249 0) fun x251 =>
  bP (pExtract x249 1) fun x252 =>
  bP (bn Q q .sub 3 (.tmp 115) (.tmp 116) x251 a1_) fun x253 =>
  bP (bn Q q .sub 3 (.tmp 118) (.tmp 119) a2_ x251) fun x254 =>
  bP (bn Q q .quo 3 (.tmp 121) (.const (.int .i64 8)) x0 (.int .i64 8)) fun x255 =>
  bP (bn Q q .lss 3 (.tmp 123) (.tmp 124) x253 x254) fun x256 =>
  ifV x256 (
  bP (bn Q q .geq 3 (.tmp 126) (.tmp 127) x253 x255) fun x257 =>
  bS (e.ev.cl 123 [a0_, a1_, x251, a3_, a4_] G250) fun x258 G259 =>
  bP (bn Q q .add 3 (.tmp 135) (.const (.int .i64 1)) x251 (.int .i64 1)) fun x260 =>
  lp (tu τ [(0, a0_), (1, x260), (2, a2_), (3, a3_), (4, a4_), (10, x257), (11, x252), (12, x0), (13, x186), (14, (.int .i64 1)), (16, x251), (17, x252), (18, x253), (19, x254), (20, x255), (21, a2_), (22, a1_), (23, x0), (24, x0), (25, x1), (31, a3_), (32, x4), (38, a10_), (39, x7), (47, x177), (48, a0_), (49, a1_), (50, a2_), (51, a4_), (52, x177), (53, x179), (54, x180), (55, x180), (56, x181), (57, a0_), (58, a1_), (59, a2_), (60, a4_), (61, x182), (62, a2_), (63, x184), (64, x179), (65, a1_), (66, x185), (67, x186), (68, a10_), (69, a10_), (70, x187), (71, x189), (72, x189), (73, x190), (74, x192), (75, x194), (81, a1_), (82, x231), (83, x231), (84, x232), (85, x233), (86, x234), (87, x235), (88, x236), (89, x237), (90, x238), (91, x239), (92, x240), (93, x241), (94, x243), (95, x244), (96, x245), (97, x246), (105, x249), (106, a0_), (107, a1_), (108, a2_), (109, x186), (110, a4_), (111, x249), (112, x251), (113, x252), (114, x252), (115, x251), (116, a1_), (117, x253), (118, a2_), (119, x251), (120, x254), (121, x0), (122, x255), (123, x253), (124, x254), (125, x256), (126, x253), (127, x255), (128, x257), (129, a0_), (130, a1_), (131, x251), (132, a3_), (133, a4_), (134, x258), (135, x251), (136, x260)]) G259) (
  bP (bn Q q .geq 3 (.tmp 137) (.tmp 138) x254 x255) fun x261 =>
  bP (bn Q q .add 3 (.tmp 141) (.const (.int .i64 1)) x251 (.int .i64 1)) fun x262 =>
  bS (e.ev.cl 123 [a0_, x262, a2_, a3_, a4_] G250) fun x263 G264 =>
  lp (tu τ [(0, a0_), (1, a1_), (2, x251), (3, a3_), (4, a4_), (10, x261), (11, x252), (12, x0), (13, x186), (14, (.int .i64 1)), (16, x251), (17, x252), (18, x253), (19, x254), (20, x255), (21, a2_), (22, a1_), (23, x0), (24, x0), (25, x1), (31, a3_), (32, x4), (38, a10_), (39, x7), (47, x177), (48, a0_), (49, a1_), (50, a2_), (51, a4_), (52, x177), (53, x179), (54, x180), (55, x180), (56, x181), (57, a0_), (58, a1_), (59, a2_), (60, a4_), (61, x182), (62, a2_), (63, x184), (64, x179), (65, a1_), (66, x185), (67, x186), (68, a10_), (69, a10_), (70, x187), (71, x189), (72, x189), (73, x190), (74, x192), (75, x194), (81, a1_), (82, x231), (83, x231), (84, x232), (85, x233), (86, x234), (87, x235), (88, x236), (89, x237), (90, x238), (91, x239), (92, x240), (93, x241), (94, x243), (95, x244), (96, x245), (97, x246), (105, x249), (106, a0_), (107, a1_), (108, a2_), (109, x186), (110, a4_), (111, x249), (112, x251), (113, x252), (114, x252), (115, x251), (116, a1_), (117, x253), (118, a2_), (119, x251), (120, x254), (121, x0), (122, x255), (123, x253), (124, x254), (125, x256), (137, x254), (138, x255), (139, x261), (140, a0_), (141, x251), (142, x262), (143, a2_), (144, a3_), (145, a4_), (146, x263), (147, x251)]) G264)))) (
  bS (gd a10_ true (some (a11_, G178)) G178) fun x265 G266 =>
  bP (pickV a10_ x265 (.bool false)) fun x267 =>
  bS (gd x267 true (some (x180, G266)) G266) fun x268 G269 =>
  bS (gd x267 true (bP (bn Q q .eql 270 (.tmp 73) (.const (.int .i64 1)) x268 (.int .i64 1)) fun y => some (y, G269)) G269) fun x270 G271 =>
  bP (pickV x267 x270 (.bool false)) fun x272 =>
  ifV x272 (
  bS (e.ev.cl 167 [a0_, a1_, a2_, a4_] G271) fun x273 G274 =>
  ifV x273 (
  some (.ret, clq q 148 (tu τ [(0, a0_), (1, a1_), (2, a2_), (3, a3_), (4, a4_), (10, a10_), (11, a11_), (12, x0), (13, x179), (14, x180), (21, a2_), (22, a1_), (23, x0), (24, x0), (25, x1), (31, a3_), (32, x4), (38, a10_), (39, x7), (47, x177), (48, a0_), (49, a1_), (50, a2_), (51, a4_), (52, x177), (53, x179), (54, x180), (55, x180), (56, x181), (68, a10_), (69, a10_), (70, x265), (71, x267), (72, x267), (73, x268), (74, x270), (75, x272), (76, a0_), (77, a1_), (78, a2_), (79, a4_), (80, x273)]), G274)) (
  bP (bn Q q .gtr 3 (.tmp 81) (.const (.int .i64 0)) a1_ (.int .i64 0)) fun x275 =>
  bS (gd x275 true (some (a4_, (G274.room 17))) (G274.room 17)) fun x276 _ =>
  bS (gd x275 true (some (a0_, (G274.room 17))) (G274.room 17)) fun x277 _ =>
  bS (gd x275 true (some (a1_, (G274.room 17))) (G274.room 17)) fun x278 _ =>
  bS (gd x275 true (bP (bn Q q .sub 3 (.tmp 86) (.const (.int .i64 1)) x278 (.int .i64 1)) fun y => some (y, (G274.room 17))) (G274.room 17)) fun x279 _ =>
  bS (gd x275 true (bP (ias Q q 90 1 x277 x279) fun y => some (y, (G274.room 17))) (G274.room 17)) fun x280 _ =>
  bS (gd x275 true (bP (ld Q q 38 x280 (G274.room 17)) fun y => some (y, (G274.room 17))) (G274.room 17)) fun x281 _ =>
  bS (gd x275 true (some (a0_, (G274.room 17))) (G274.room 17)) fun x282 _ =>
  bS (gd x275 true (some (x179, (G274.room 17))) (G274.room 17)) fun x283 _ =>
  bS (gd x275 true (bP (ias Q q 90 1 x282 x283) fun y => some (y, (G274.room 17))) (G274.room 17)) fun x284 _ =>
  bS (gd x275 true (bP (ld Q q 38 x284 (G274.room 17)) fun y => some (y, (G274.room 17))) (G274.room 17)) fun x285 _ =>
  bS (gd x275 true (bS (cValue e.ev x276 [x281, x285] (G274.room 17)) fun y G => some (y, G)) (G274.room 17)) fun x287 G286 =>
  bS (gd x275 true (bP (bn Q q .lss 3 (.tmp 94) (.const (.int .i64 0)) x287 (.int .i64 0)) fun y => some (y, G286)) G286) fun x288 _ =>
  bS (gd x275 true (bP (un Q q .not x288) fun y => some (y, G286)) G286) fun x289 _ =>
  bP (pickV x275 x289 (.bool false)) fun x290 =>
  ifV x290 (
  bS (e.ev.cl 168 [a0_, a1_, a2_, x179, a4_] G286) fun x291 G292 =>
  lp (tu τ [(0, a0_), (1, x291), (2, a2_), (3, a3_), (4, a4_), (10, a10_), (11, a11_), (12, x0), (13, x179), (14, x180), (15, x291), (21, a2_), (22, a1_), (23, x0), (24, x0), (25, x1), (31, a3_), (32, x4), (38, a10_), (39, x7), (47, x177), (48, a0_), (49, a1_), (50, a2_), (51, a4_), (52, x177), (53, x179), (54, x180), (55, x180), (56, x181), (68, a10_), (69, a10_), (70, x265), (71, x267), (72, x267), (73, x268), (74, x270), (75, x272), (76, a0_), (77, a1_), (78, a2_), (79, a4_), (80, x273), (81, a1_), (82, x275), (83, x275), (84, x276), (85, x277), (86, x278), (87, x279), (88, x280), (89, x281), (90, x282), (91, x283), (92, x284), (93, x285), (94, x287), (95, x288), (96, x289), (97, x290), (98, a0_), (99, a1_), (100, a2_), (101, x179), (102, a4_), (103, x291), (104, x291)]) G292) (
  bS (e.ev.cl 169 [a0_, a1_, a2_, x179, a4_] G286) fun x293 G294 =>
  bP (pExtract x293 0) fun x295 =>
  bP (pExtract x293 1) fun x296 =>
  bP (bn Q q .sub 3 (.tmp 115) (.tmp 116) x295 a1_) fun x297 =>
  bP (bn Q q .sub 3 (.tmp 118) (.tmp 119) a2_ x295) fun x298 =>
  bP (bn Q q .quo 3 (.tmp 121) (.const (.int .i64 8)) x0 (.int .i64 8)) fun x299 =>
  bP (bn Q q .lss 3 (.tmp 123) (.tmp 124) x297 x298) fun x300 =>
  ifV x300 (
  bP (bn Q q .geq 3 (.tmp 126) (.tmp 127) x297 x299) fun x301 =>
  bS (e.ev.cl 123 [a0_, a1_, x295, a3_, a4_] G294) fun x302 G303 =>
  bP (bn Q q .add 3 (.tmp 135) (.const (.int .i64 1)) x295 (.int .i64 1)) fun x304 =>
  lp (tu τ [(0, a0_), (1, x304), (2, a2_), (3, a3_), (4, a4_), (10, x301), (11, x296), (12, x0), (13, x179), (14, x180), (16, x295), (17, x296), (18, x297), (19, x298), (20, x299), (21, a2_), (22, a1_), (23, x0), (24, x0), (25, x1), (31, a3_), (32, x4), (38, a10_), (39, x7), (47, x177), (48, a0_), (49, a1_), (50, a2_), (51, a4_), (52, x177), (53, x179), (54, x180), (55, x180), (56, x181), (68, a10_), (69, a10_), (70, x265), (71, x267), (72, x267), (73, x268), (74, x270), (75, x272), (76, a0_), (77, a1_), (78, a2_), (79, a4_), (80, x273), (81, a1_), (82, x275), (83, x275), (84, x276), (85, x277), (86, x278), (87, x279), (88, x280), (89, x281), (90, x282), (91, x283), (92, x284), (93, x285), (94, x287), (95, x288), (96, x289), (97, x290), (105, x293), (106, a0_), (107, a1_), (108, a2_), (109, x179), (110, a4_), (111, x293), (112, x295), (113, x296), (114, x296), (115, x295), (116, a1_), (117, x297), (118, a2_), (119, x295), (120, x298), (121, x0), (122, x299), (123, x297), (124, x298), (125, x300), (126, x297), (127, x299), (128, x301), (129, a0_), (130, a1_), (131, x295), (132, a3_), (133, a4_), (134, x302), (135, x295), (136, x304)]) G303) (
  bP (bn Q q .geq 3 (.tmp 137) (.tmp 138) x298 x299) fun x305 =>
  bP (bn Q q .add 3 (.tmp 141) (.const (.int .i64 1)) x295 (.int .i64 1)) fun x306 =>
  bS (e.ev.cl 123 [a0_, x306, a2_, a3_, a4_] G294) fun x307 G308 =>
  lp (tu τ [(0, a0_), (1, a1_), (2, x295), (3, a3_), (4, a4_), (10, x305), (11, x296), (12, x0), (13, x179), (14, x180), (16, x295), (17, x296), (18, x297), (19, x298), (20, x299), (21, a2_), (22, a1_), (23, x0), (24, x0), (25, x1), (31, a3_), (32, x4), (38, a10_), (39, x7), (47, x177), (48, a0_), (49, a1_), (50, a2_), (51, a4_), (52, x177), (53, x179), (54, x180), (55, x180), (56, x181), (68, a10_), (69, a10_), (70, x265), (71, x267), (72, x267), (73, x268), (74, x270), (75, x272), (76, a0_), (77, a1_), (78, a2_), (79, a4_), (80, x273), (81, a1_), (82, x275), (83, x275), (84, x276), (85, x277), (86, x278), (87, x279), (88, x280), (89, x281), (90, x282), (91, x283), (92, x284), (93, x285), (94, x287), (95, x288), (96, x289), (97, x290), (105, x293), (106, a0_), (107, a1_), (108, a2_), (109, x179), (110, a4_), (111, x293), (112, x295), (113, x296), (114, x296), (115, x295), (116, a1_), (117, x297), (118, a2_), (119, x295), (120, x298), (121, x0), (122, x299), (123, x297), (124, x298), (125, x300), (137, x298), (138, x299), (139, x305), (140, a0_), (141, x295), (142, x306), (143, a2_), (144, a3_), (145, a4_), (146, x307), (147, x295)]) G308)))) (
  bP (bn Q q .gtr 3 (.tmp 81) (.const (.int .i64 0)) a1_ (.int .i64 0)) fun x309 =>
  bS (gd x309 true (some (a4_, (G271.room 17))) (G271.room 17)) fun x310 _ =>
  bS (gd x309 true (some (a0_, (G271.room 17))) (G271.room 17)) fun x311 _ =>
  bS (gd x309 true (some (a1_, (G271.room 17))) (G271.room 17)) fun x312 _ =>
  bS (gd x309 true (bP (bn Q q .sub 3 (.tmp 86) (.const (.int .i64 1)) x312 (.int .i64 1)) fun y => some (y, (G271.room 17))) (G271.room 17)) fun x313 _ =>
  bS (gd x309 true (bP (ias Q q 90 1 x311 x313) fun y => some (y, (G271.room 17))) (G271.room 17)) fun x314 _ =>
  bS (gd x309 true (bP (ld Q q 38 x314 (G271.room 17)) fun y => some (y, (G271.room 17))) (G271.room 17)) fun x315 _ =>
  bS (gd x309 true (some (a0_, (G271.room 17))) (G271.room 17)) fun x316 _ =>
  bS (gd x309 true (some (x179, (G271.room 17))) (G271.room 17)) fun x317 _ =>
  bS (gd x309 true (bP (ias Q q 90 1 x316 x317) fun y => some (y, (G271.room 17))) (G271.room 17)) fun x318 _ =>
  bS (gd x309 true (bP (ld Q q 38 x318 (G271.room 17)) fun y => some (y, (G271.room 17))) (G271.room 17)) fun x319 _ =>
  bS (gd x309 true (bS (cValue e.ev x310 [x315, x319] (G271.room 17)) fun y G => some (y, G)) (G271.room 17)) fun x321 G320 =>
  bS (gd x309 true (bP (bn Q q .lss 3 (.tmp 94) (.const (.int .i64 0)) x321 (.int .i64 0)) fun y => some (y, G320)) G320) fun x322 _ =>
  bS (gd x309 true (bP (un Q q .not x322) fun y => some (y, G320)) G320) fun x323 _ =>
  bP (pickV x309 x323 (.bool false)) fun x324 =>
  ifV x324 (
  bS (e.ev.cl 168 [a0_, a1_, a2_, x179, a4_] G320) fun x325 G326 =>
  lp (tu τ [(0, a0_), (1, x325), (2, a2_), (3, a3_), (4, a4_), (10, a10_), (11, a11_), (12, x0), (13, x179), (14, x180), (15, x325), (21, a2_), (22, a1_), (23, x0), (24, x0), (25, x1), (31, a3_), (32, x4), (38, a10_), (39, x7), (47, x177), (48, a0_), (49, a1_), (50, a2_), (51, a4_), (52, x177), (53, x179), (54, x180), (55, x180), (56, x181), (68, a10_), (69, a10_), (70, x265), (71, x267), (72, x267), (73, x268), (74, x270), (75, x272), (81, a1_), (82, x309), (83, x309), (84, x310), (85, x311), (86, x312), (87, x313), (88, x314), (89, x315), (90, x316), (91, x317), (92, x318), (93, x319), (94, x321), (95, x322), (96, x323), (97, x324), (98, a0_), (99, a1_), (100, a2_), (101, x179), (102, a4_), (103, x325), (104, x325)]) G326) (
  bS (e.ev.cl 169 [a0_, a1_, a2_, x179, a4_] G320) fun x327 G328 =>
  bP (pExtract x327 0) fun x329 =>
  bP (pExtract x327 1) fun x330 =>
  bP (bn Q q .sub 3 (.tmp 115) (.tmp 116) x329 a1_) fun x331 =>
  bP (bn Q q .sub 3 (.tmp 118) (.tmp 119) a2_ x329) fun x332 =>
  bP (bn Q q .quo 3 (.tmp 121) (.const (.int .i64 8)) x0 (.int .i64 8)) fun x333 =>
  bP (bn Q q .lss 3 (.tmp 123) (.tmp 124) x331 x332) fun x334 =>
  ifV x334 (
  bP (bn Q q .geq 3 (.tmp 126) (.tmp 127) x331 x333) fun x335 =>
  bS (e.ev.cl 123 [a0_, a1_, x329, a3_, a4_] G328) fun x336 G337 =>
  bP (bn Q q .add 3 (.tmp 135) (.const (.int .i64 1)) x329 (.int .i64 1)) fun x338 =>
  lp (tu τ [(0, a0_), (1, x338), (2, a2_), (3, a3_), (4, a4_), (10, x335), (11, x330), (12, x0), (13, x179), (14, x180), (16, x329), (17, x330), (18, x331), (19, x332), (20, x333), (21, a2_), (22, a1_), (23, x0), (24, x0), (25, x1), (31, a3_), (32, x4), (38, a10_), (39, x7), (47, x177), (48, a0_), (49, a1_), (50, a2_), (51, a4_), (52, x177), (53, x179), (54, x180), (55, x180), (56, x181), (68, a10_), (69, a10_), (70, x265), (71, x267), (72, x267), (73, x268), (74, x270), (75, x272), (81, a1_), (82, x309), (83, x309), (84, x310), (85, x311), (86, x312), (87, x313), (88, x314), (89, x315), (90, x316), (91, x317), (92, x318), (93, x319), (94, x321), (95, x322), (96, x323), (97, x324), (105, x327), (106, a0_), (107, a1_), (108, a2_), (109, x179), (110, a4_), (111, x327), (112, x329), (113, x330), (114, x330), (115, x329), (116, a1_), (117, x331), (118, a2_), (119, x329), (120, x332), (121, x0), (122, x333), (123, x331), (124, x332), (125, x334), (126, x331), (127, x333), (128, x335), (129, a0_), (130, a1_), (131, x329), (132, a3_), (133, a4_), (134, x336), (135, x329), (136, x338)]) G337) (
  bP (bn Q q .geq 3 (.tmp 137) (.tmp 138) x332 x333) fun x339 =>
  bP (bn Q q .add 3 (.tmp 141) (.const (.int .i64 1)) x329 (.int .i64 1)) fun x340 =>
  bS (e.ev.cl 123 [a0_, x340, a2_, a3_, a4_] G328) fun x341 G342 =>
  lp (tu τ [(0, a0_), (1, a1_), (2, x329), (3, a3_), (4, a4_), (10, x339), (11, x330), (12, x0), (13, x179), (14, x180), (16, x329), (17, x330), (18, x331), (19, x332), (20, x333), (21, a2_), (22, a1_), (23, x0), (24, x0), (25, x1), (31, a3_), (32, x4), (38, a10_), (39, x7), (47, x177), (48, a0_), (49, a1_), (50, a2_), (51, a4_), (52, x177), (53, x179), (54, x180), (55, x180), (56, x181), (68, a10_), (69, a10_), (70, x265), (71, x267), (72, x267), (73, x268), (74, x270), (75, x272), (81, a1_), (82, x309), (83, x309), (84, x310), (85, x311), (86, x312), (87, x313), (88, x314), (89, x315), (90, x316), (91, x317), (92, x318), (93, x319), (94, x321), (95, x322), (96, x323), (97, x324), (105, x327), (106, a0_), (107, a1_), (108, a2_), (109, x179), (110, a4_), (111, x327), (112, x329), (113, x330), (114, x330), (115, x329), (116, a1_), (117, x331), (118, a2_), (119, x329), (120, x332), (121, x0), (122, x333), (123, x331), (124, x332), (125, x334), (137, x332), (138, x333), (139, x339), (140, a0_), (141, x329), (142, x340), (143, a2_), (144, a3_), (145, a4_), (146, x341), (147, x329)]) G342)))))))
theorem mb123_0 {e : Ex} {E : Ev} (h : ExLe Q e E) {lp lp' : Env → GS → Option (Exit × Env × GS)} (hlp : LpLe lp lp') (τ : Env) (G : GS) : Ref (b123_0 true e lp τ G) (b123_0 false (Ex.of E) lp' τ G) := by
  unfold b123_0
  exact Ref.go
set_option maxHeartbeats 8000000 in
theorem l123_0 {orc : FuncId → Bool} {e : Ex} (h : ExLe Q e (E orc)) (lp : Env → GS → Option (Exit × Env × GS)) (hlp : ∀ τ G, Ref (lp τ G) (mapE ((E orc).lp (subAt [1, 1, 0, 0] (bodyOf Tryz.f123)) (lst 148 τ) G))) (T : List Value) (G : GS) (hT : T.length = 148) : Ref (b123_0 true e lp (nth undef T) G) (mapE ((E orc).lp (subAt [1, 1, 0, 0] (bodyOf Tryz.f123)) T G)) :=
  fun r hr => lp_sxM Q orc G hT (by kernel_rfl) (mb123_0 h ⟨hlp⟩ _ _ r hr)
/-- slices.pdqsortCmpFunc[uint64] -/
noncomputable def s123 (q : Bool) (e : Ex) (v0 v1 v2 v3 v4 : Value) (G : GS) : Option (Value × GS) :=
  bL q e 123 0 (subAt [1, 1, 0, 0] (bodyOf Tryz.f123)) 148 (tu (nth undef [v0, v1, v2, v3, v4]) [(10, (.bool true)), (11, (.bool true))]) G fun e0 t1 G2 =>
  ifE e0 .ret (
  some (.tuple #[], G2)) (none)
theorem m123 {e : Ex} {E : Ev} (h : ExLe Q e E) (v0 v1 v2 v3 v4 : Value) (G : GS) : Ref (s123 true e v0 v1 v2 v3 v4 G) (s123 false (Ex.of E) v0 v1 v2 v3 v4 G) := by
  unfold s123
  exact Ref.go
set_option maxHeartbeats 8000000 in
theorem f123 {orc : FuncId → Bool} {e : Ex} (h : ExLe Q e (E orc)) (v0 v1 v2 v3 v4 : Value) (G : GS) : Ref (s123 true e v0 v1 v2 v3 v4 G) ((E orc).cl 123 [v0, v1, v2, v3, v4] G) :=
  fun r hr => cl_sxE_some Q orc (vs := [v0, v1, v2, v3, v4]) G Tryz.func123 (by kernel_rfl) (by kernel_rfl) (by kernel_rfl) (by kernel_rfl) (by kernel_rfl) (by kernel_rfl) (m123 h v0 v1 v2 v3 v4 G r hr)
/-- math/bits.Len -/
noncomputable def s124 (q : Bool) (e : Ex) (v0 : Value) (G : GS) : Option (Value × GS) :=
  ifV (.bool false) (
  bP (cv Q q 212 232 .u64 .u32 v0) fun x0 =>
  bS (e.ev.cl 170 [x0] G) fun x1 G2 =>
  some (x1, G2)) (
  bS (e.ev.cl 171 [v0] G) fun x3 G4 =>
  some (x3, G4))
theorem m124 {e : Ex} {E : Ev} (h : ExLe Q e E) (v0 : Value) (G : GS) : Ref (s124 true e v0 G) (s124 false (Ex.of E) v0 G) := by
  unfold s124
  exact Ref.go
theorem f124 {orc : FuncId → Bool} {e : Ex} (h : ExLe Q e (E orc)) (v0 : Value) (G : GS) : Ref (s124 true e v0 G) ((E orc).cl 124 [v0] G) :=
  fun r hr => cl_sxE_some Q orc (vs := [v0]) G Tryz.func124 (by kernel_rfl) (by kernel_rfl) (by kernel_rfl) (by kernel_rfl) (by kernel_rfl) (by kernel_rfl) (m124 h v0 G r hr)
/-- coxswain/ready.NewLook$1 -/
noncomputable def s125 (q : Bool) (e : Ex) (v0 : Value) (G : GS) : Option (Value × GS) :=
  bP (lda Q q 36 13 v0 G) fun x0 =>
  bS (e.ev.cl 126 [x0] G) fun x1 G2 =>
  some (x1, G2)
theorem m125 {e : Ex} {E : Ev} (h : ExLe Q e E) (v0 : Value) (G : GS) : Ref (s125 true e v0 G) (s125 false (Ex.of E) v0 G) := by
  unfold s125
  exact Ref.go
theorem f125 {orc : FuncId → Bool} {e : Ex} (h : ExLe Q e (E orc)) (v0 : Value) (G : GS) : Ref (s125 true e v0 G) ((E orc).cl 125 [v0] G) :=
  fun r hr => cl_sxE_some Q orc (vs := [v0]) G Tryz.func125 (by kernel_rfl) (by kernel_rfl) (by kernel_rfl) (by kernel_rfl) (by kernel_rfl) (by kernel_rfl) (m125 h v0 G r hr)
/-- coxswain/claim.NewPeek -/
noncomputable def s126 (q : Bool) (e : Ex) (v0 : Value) (G : GS) : Option (Value × GS) :=
  bS (bx q v0 G) fun x0 G1 =>
  bP (lda Q q 36 13 x0 G1) fun x2 =>
  bS (e.ev.cl 172 [x2] G1) fun x3 G4 =>
  bP (bd Q q 283 z283 [(0, 0, 22)] [x3]) fun x5 =>
  bS (bx q x5 G4) fun x6 G7 =>
  some (x6, G7)
theorem m126 {e : Ex} {E : Ev} (h : ExLe Q e E) (v0 : Value) (G : GS) : Ref (s126 true e v0 G) (s126 false (Ex.of E) v0 G) := by
  unfold s126
  exact Ref.go
theorem f126 {orc : FuncId → Bool} {e : Ex} (h : ExLe Q e (E orc)) (v0 : Value) (G : GS) : Ref (s126 true e v0 G) ((E orc).cl 126 [v0] G) :=
  fun r hr => cl_sxE_some Q orc (vs := [v0]) G Tryz.func126 (by kernel_rfl) (by kernel_rfl) (by kernel_rfl) (by kernel_rfl) (by kernel_rfl) (by kernel_rfl) (m126 h v0 G r hr)
/-- (*coxswain/claim.Peek).By -/
noncomputable def s127 (q : Bool) (e : Ex) (v0 : Value) (G : GS) : Option (Value × GS) :=
  bP (ep Q q false 214 (.tmp 3) (.const (.pointer none)) v0 (.pointer none)) fun x0 =>
  ifV x0 (
  some ((.int .u64 0), G)) (
  bP (pNil v0) fun x1 =>
  bP (fa Q q 283 0 0 x1) fun x2 =>
  bP (fa Q q 280 7 19 x2) fun x3 =>
  bP (ld Q q 38 x3 G) fun x4 =>
  some (x4, G))
theorem m127 {e : Ex} {E : Ev} (h : ExLe Q e E) (v0 : Value) (G : GS) : Ref (s127 true e v0 G) (s127 false (Ex.of E) v0 G) := by
  unfold s127
  exact Ref.go
theorem f127 {orc : FuncId → Bool} {e : Ex} (h : ExLe Q e (E orc)) (v0 : Value) (G : GS) : Ref (s127 true e v0 G) ((E orc).cl 127 [v0] G) :=
  fun r hr => cl_sxE_some Q orc (vs := [v0]) G Tryz.func127 (by kernel_rfl) (by kernel_rfl) (by kernel_rfl) (by kernel_rfl) (by kernel_rfl) (by kernel_rfl) (m127 h v0 G r hr)
/-- coxswain/ready.NewLook$2 -/
noncomputable def s128 (q : Bool) (e : Ex) (v0 v1 : Value) (G : GS) : Option (Value × GS) :=
  bP (ld Q q 52 v1 (G.room 15)) fun x0 =>
  bP (ld Q q 52 v1 (G.room 15)) fun x1 =>
  bS (e.ev.cl 129 [v0] (G.room 15)) fun x3 G2 =>
  chk ((sameO (ld Q q 52 v1 G2) x1 && (sameO (ld Q q 52 v1 G2) x0 && true))) <|
  bP (pExtract x3 0) fun x4 =>
  bP (pExtract x3 1) fun x5 =>
  bP (pNil x0) fun x6 =>
  bP (fa Q q 53 1 19 x6) fun x7 =>
  bP (fa Q q 48 0 0 x7) fun x8 =>
  bP (st Q q 46 2 x8 x4 G2) fun G9 =>
  chk ((sameO (ld Q q 52 v1 G9) x1 && true)) <|
  bP (pNil x1) fun x10 =>
  bP (fa Q q 53 1 19 x10) fun x11 =>
  bP (fa Q q 48 1 2 x11) fun x12 =>
  bP (st Q q 23 1 x12 x5 G9) fun G13 =>
  some (.tuple #[], G13)
theorem m128 {e : Ex} {E : Ev} (h : ExLe Q e E) (v0 v1 : Value) (G : GS) : Ref (s128 true e v0 v1 G) (s128 false (Ex.of E) v0 v1 G) := by
  unfold s128
  exact Ref.go
theorem f128 {orc : FuncId → Bool} {e : Ex} (h : ExLe Q e (E orc)) (v0 v1 : Value) (G : GS) : Ref (s128 true e v0 v1 G) ((E orc).cl 128 [v0, v1] G) :=
  fun r hr => cl_sxE_some Q orc (vs := [v0, v1]) G Tryz.func128 (by kernel_rfl) (by kernel_rfl) (by kernel_rfl) (by kernel_rfl) (by kernel_rfl) (by kernel_rfl) (m128 h v0 v1 G r hr)
/-- (*coxswain/claim.Peek).Item -/
noncomputable def s129 (q : Bool) (e : Ex) (v0 : Value) (G : GS) : Option (Value × GS) :=
  bS (al Q q 46 z46 G) fun x0 G1 =>
  bP (ep Q q false 214 (.tmp 4) (.const (.pointer none)) v0 (.pointer none)) fun x2 =>
  ifV x2 (
  bP (bd Q q 46 z46 [] []) fun x3 =>
  bP (st Q q 46 2 x0 x3 G1) fun G4 =>
  bP (lda Q q 46 2 x0 G4) fun x5 =>
  some (.tuple #[x5, (.int .i64 1)], G4)) (
  bP (pNil v0) fun x6 =>
  bP (fa Q q 283 0 0 x6) fun x7 =>
  bS (e.ev.cl 173 [x7] G1) fun x8 G9 =>
  bP (pExtract x8 0) fun x10 =>
  bP (pExtract x8 1) fun x11 =>
  bP (st Q q 46 2 x0 x10 G9) fun G12 =>
  bP (lda Q q 46 2 x0 G12) fun x13 =>
  some (.tuple #[x13, x11], G12))
theorem m129 {e : Ex} {E : Ev} (h : ExLe Q e E) (v0 : Value) (G : GS) : Ref (s129 true e v0 G) (s129 false (Ex.of E) v0 G) := by
  unfold s129
  exact Ref.go
theorem f129 {orc : FuncId → Bool} {e : Ex} (h : ExLe Q e (E orc)) (v0 : Value) (G : GS) : Ref (s129 true e v0 G) ((E orc).cl 129 [v0] G) :=
  fun r hr => cl_sxE_some Q orc (vs := [v0]) G Tryz.func129 (by kernel_rfl) (by kernel_rfl) (by kernel_rfl) (by kernel_rfl) (by kernel_rfl) (by kernel_rfl) (m129 h v0 G r hr)
/-- coxswain/tower.nodes -/
noncomputable def s130 (q : Bool) (e : Ex) (v0 : Value) (G : GS) : Option (Value × GS) :=
  bS (bx q v0 G) fun x0 G1 =>
  bS (al Q q 223 z223 G1) fun x2 G3 =>
  bP (fa Q q 36 0 0 x0) fun x4 =>
  bP (ld Q q 3 x4 G3) fun x5 =>
  bP (fa Q q 36 3 3 x0) fun x6 =>
  bP (fa Q q 34 0 0 x6) fun x7 =>
  bP (fa Q q 30 0 0 x7) fun x8 =>
  bP (fa Q q 28 2 2 x8) fun x9 =>
  bP (ld Q q 3 x9 G3) fun x10 =>
  bP (fa Q q 36 2 2 x0) fun x11 =>
  bP (ld Q q 3 x11 G3) fun x12 =>
  bP (bd Q q 223 z223 [(0, 0, 1), (1, 1, 1), (2, 2, 1)] [x5, x10, x12]) fun x13 =>
  bP (st Q q 223 3 x2 x13 G3) fun G14 =>
  bP (lda Q q 223 3 x2 G14) fun x15 =>
  some (x15, G14)
theorem m130 {e : Ex} {E : Ev} (h : ExLe Q e E) (v0 : Value) (G : GS) : Ref (s130 true e v0 G) (s130 false (Ex.of E) v0 G) := by
  unfold s130
  exact Ref.go
theorem f130 {orc : FuncId → Bool} {e : Ex} (h : ExLe Q e (E orc)) (v0 : Value) (G : GS) : Ref (s130 true e v0 G) ((E orc).cl 130 [v0] G) :=
  fun r hr => cl_sxE_some Q orc (vs := [v0]) G Tryz.func130 (by kernel_rfl) (by kernel_rfl) (by kernel_rfl) (by kernel_rfl) (by kernel_rfl) (by kernel_rfl) (m130 h v0 G r hr)
/-- (coxswain/tower.rows[coxswain/tower.node]).at -/
noncomputable def s131 (q : Bool) (e : Ex) (v0 v1 v2 : Value) (G : GS) : Option (Value × GS) :=
  bS (bx q v0 G) fun x0 G1 =>
  bP (bn Q q .lss 3 (.tmp 7) (.const (.int .i64 0)) v1 (.int .i64 0)) fun x2 =>
  bS (gd x2 false (some (v1, G1)) G1) fun x3 G4 =>
  bS (gd x2 false (bP (fa Q q 223 1 1 x0) fun y => some (y, G4)) G4) fun x5 G6 =>
  bS (gd x2 false (bP (ld Q q 3 x5 G6) fun y => some (y, G6)) G6) fun x7 G8 =>
  bS (gd x2 false (bP (bn Q q .geq 3 (.tmp 10) (.tmp 12) x3 x7) fun y => some (y, G8)) G8) fun x9 G10 =>
  bP (pickV x2 (.bool true) x9) fun x11 =>
  bS (gd x11 false (some (v2, G10)) G10) fun x12 G13 =>
  bS (gd x11 false (bP (bn Q q .lss 3 (.tmp 16) (.const (.int .i64 0)) x12 (.int .i64 0)) fun y => some (y, G13)) G13) fun x14 G15 =>
  bP (pickV x11 (.bool true) x14) fun x16 =>
  bS (gd x16 false (some (v2, G15)) G15) fun x17 G18 =>
  bS (gd x16 false (bP (fa Q q 223 2 2 x0) fun y => some (y, G18)) G18) fun x19 G20 =>
  bS (gd x16 false (bP (ld Q q 221 x19 G20) fun y => some (y, G20)) G20) fun x21 G22 =>
  bS (gd x16 false (bP (ifc Q q 221 x21) fun y => some (y, G22)) G22) fun x23 G24 =>
  bS (gd x16 false (bS (cInvoke Q e.ev x23 "coxswain/tower.cells" [] G24) fun y G => some (y, G)) G24) fun x25 G26 =>
  bS (gd x16 false (bP (bn Q q .geq 3 (.tmp 20) (.tmp 24) x17 x25) fun y => some (y, G26)) G26) fun x27 G28 =>
  bP (pickV x16 (.bool true) x27) fun x29 =>
  ifV x29 (
  some ((.int .i64 (-1)), G28)) (
  bP (fa Q q 223 0 0 x0) fun x30 =>
  bP (ld Q q 3 x30 (G28.room 12)) fun x31 =>
  bP (fa Q q 223 2 2 x0) fun x32 =>
  bP (ld Q q 221 x32 (G28.room 12)) fun x33 =>
  bP (ifc Q q 221 x33) fun x34 =>
  bS (cInvoke Q e.ev x34 "coxswain/tower.cells" [] (G28.room 12)) fun x36 G35 =>
  chk ((sameO (ld Q q 3 x30 G35) x31 && true)) <|
  bP (bn Q q .mul 3 (.tmp 29) (.tmp 33) v1 x36) fun x37 =>
  bP (bn Q q .add 3 (.tmp 28) (.tmp 34) x31 x37) fun x38 =>
  bP (bn Q q .add 3 (.tmp 35) (.tmp 36) x38 v2) fun x39 =>
  some (x39, G35))
theorem m131 {e : Ex} {E : Ev} (h : ExLe Q e E) (v0 v1 v2 : Value) (G : GS) : Ref (s131 true e v0 v1 v2 G) (s131 false (Ex.of E) v0 v1 v2 G) := by
  unfold s131
  exact Ref.go
theorem f131 {orc : FuncId → Bool} {e : Ex} (h : ExLe Q e (E orc)) (v0 v1 v2 : Value) (G : GS) : Ref (s131 true e v0 v1 v2 G) ((E orc).cl 131 [v0, v1, v2] G) :=
  fun r hr => cl_sxE_some Q orc (vs := [v0, v1, v2]) G Tryz.func131 (by kernel_rfl) (by kernel_rfl) (by kernel_rfl) (by kernel_rfl) (by kernel_rfl) (by kernel_rfl) (m131 h v0 v1 v2 G r hr)
end Go.Proofs.YtmdocnigniefnaaGreat.Lift
