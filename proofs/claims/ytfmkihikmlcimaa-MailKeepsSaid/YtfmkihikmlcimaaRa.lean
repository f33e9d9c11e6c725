/- the program's code, spelled out by a program of ours (lift3.lean) -/
import Derived.Test.YtfmkihikmlcimaaProg
import Derived.Test.YtfmkihikmlcimaaGhPJ
import Derived.Test.YtfmkihikmlcimaaGhPG
import Derived.KernelRfl
namespace Go.Proofs.Ytfmkihikmlcimaa.Lift
open Go Go.Proofs.Ytfmkihikmlcimaa.Gh Go.Proofs
set_option linter.unusedVariables false
set_option maxRecDepth 100000
@[reducible] noncomputable def Q : Program := Try.prog
@[reducible] noncomputable def E (orc : FuncId → Bool) : Ev := evL Try.prog orc
instance ilp4_0 : LpIs Q 4 0 (subAt [1, 1, 1, 1, 1, 0, 1, 0, 0] (bodyOf Try.f4)) 141 := ⟨by kernel_rfl, by kernel_rfl⟩
instance ilp4_1 : LpIs Q 4 1 (subAt [1, 1, 1, 1, 1, 1, 0, 1, 0, 0] (bodyOf Try.f4)) 141 := ⟨by kernel_rfl, by kernel_rfl⟩
instance ilp4_2 : LpIs Q 4 2 (subAt [1, 1, 1, 1, 1, 1, 0, 1, 0, 0, 1, 0, 0, 0, 1, 0, 0] (bodyOf Try.f4)) 141 := ⟨by kernel_rfl, by kernel_rfl⟩
instance ilp4_3 : LpIs Q 4 3 (subAt [1, 1, 1, 1, 1, 1, 1, 0, 1, 0, 0] (bodyOf Try.f4)) 141 := ⟨by kernel_rfl, by kernel_rfl⟩
instance ilp9_0 : LpIs Q 9 0 (subAt [1, 1, 1, 0, 1, 0, 0] (bodyOf Try.f9)) 42 := ⟨by kernel_rfl, by kernel_rfl⟩
instance ilp13_0 : LpIs Q 13 0 (subAt [1, 1, 1, 1, 1, 1, 0, 1, 0, 0] (bodyOf Try.f13)) 111 := ⟨by kernel_rfl, by kernel_rfl⟩
instance ilp14_0 : LpIs Q 14 0 (subAt [1, 1, 0, 1, 0, 0] (bodyOf Try.f14)) 31 := ⟨by kernel_rfl, by kernel_rfl⟩
instance ilp44_0 : LpIs Q 44 0 (subAt [1, 1, 0, 1, 0, 0] (bodyOf Try.f44)) 31 := ⟨by kernel_rfl, by kernel_rfl⟩
instance ilp74_0 : LpIs Q 74 0 (subAt [1, 0, 1, 0, 0] (bodyOf Try.f74)) 18 := ⟨by kernel_rfl, by kernel_rfl⟩
instance ilp98_0 : LpIs Q 98 0 (subAt [1, 0, 0] (bodyOf Try.f98)) 31 := ⟨by kernel_rfl, by kernel_rfl⟩
instance ilp106_0 : LpIs Q 106 0 (subAt [1, 1, 1, 1, 1, 0, 0] (bodyOf Try.f106)) 28 := ⟨by kernel_rfl, by kernel_rfl⟩
instance ilp110_0 : LpIs Q 110 0 (subAt [1, 1, 0, 0] (bodyOf Try.f110)) 32 := ⟨by kernel_rfl, by kernel_rfl⟩
instance iln22 : LnOk Q 22 := ⟨fun a n c => by kernel_rfl⟩
instance iep50 : EpOk Q 50 := ⟨fun neg x y => by cases neg <;> kernel_rfl, fun neg x y a => by cases neg <;> kernel_rfl, fun neg x y a => by cases neg <;> kernel_rfl⟩
instance iias22 : IasOk Q 22 1 := ⟨fun b o s n c k j => by kernel_rfl⟩
instance ild3 : LdOk Q 3 := ⟨fun b o s G => (show _ = loadOne b o G by kernel_rfl).trans (loadOne_eq b o G)⟩
instance ifa61_2 : FaOk Q 61 2 4 := ⟨fun b o s => by kernel_rfl⟩
instance ild56 : LdOk Q 56 := ⟨fun b o s G => (show _ = loadOne b o G by kernel_rfl).trans (loadOne_eq b o G)⟩
instance iias56 : IasOk Q 56 1 := ⟨fun b o s n c k j => by kernel_rfl⟩
instance ild53 : LdOk Q 53 := ⟨fun b o s G => (show _ = loadOne b o G by kernel_rfl).trans (loadOne_eq b o G)⟩
instance iep53 : EpOk Q 53 := ⟨fun neg x y => by cases neg <;> kernel_rfl, fun neg x y a => by cases neg <;> kernel_rfl, fun neg x y a => by cases neg <;> kernel_rfl⟩
instance ifa61_5 : FaOk Q 61 5 7 := ⟨fun b o s => by kernel_rfl⟩
instance ild57 : LdOk Q 57 := ⟨fun b o s G => (show _ = loadOne b o G by kernel_rfl).trans (loadOne_eq b o G)⟩
instance iias57 : IasOk Q 57 1 := ⟨fun b o s n c k j => by kernel_rfl⟩
instance ild62 : LdOk Q 62 := ⟨fun b o s G => (show _ = loadOne b o G by kernel_rfl).trans (loadOne_eq b o G)⟩
instance iep62 : EpOk Q 62 := ⟨fun neg x y => by cases neg <;> kernel_rfl, fun neg x y a => by cases neg <;> kernel_rfl, fun neg x y a => by cases neg <;> kernel_rfl⟩
instance ifa61_0 : FaOk Q 61 0 0 := ⟨fun b o s => by kernel_rfl⟩
instance ilda55 : LdAOk Q 55 3 := ⟨fun b o s G => by kernel_rfl⟩
instance ifa61_1 : FaOk Q 61 1 3 := ⟨fun b o s => by kernel_rfl⟩
instance ild34 : LdOk Q 34 := ⟨fun b o s G => (show _ = loadOne b o G by kernel_rfl).trans (loadOne_eq b o G)⟩
instance ifa61_6 : FaOk Q 61 6 8 := ⟨fun b o s => by kernel_rfl⟩
instance ild58 : LdOk Q 58 := ⟨fun b o s G => (show _ = loadOne b o G by kernel_rfl).trans (loadOne_eq b o G)⟩
instance iias58 : IasOk Q 58 1 := ⟨fun b o s n c k j => by kernel_rfl⟩
instance ild22 : LdOk Q 22 := ⟨fun b o s G => (show _ = loadOne b o G by kernel_rfl).trans (loadOne_eq b o G)⟩
instance ifa61_7 : FaOk Q 61 7 9 := ⟨fun b o s => by kernel_rfl⟩
instance isl22 : SlOk Q 22 1 := ⟨fun a n c lo hi mx G => sl_eq Q (e := 3) (by kernel_rfl) (by kernel_rfl) a n c lo hi mx G⟩
instance iep34 : EpOk Q 34 := ⟨fun neg x y => by cases neg <;> kernel_rfl, fun neg x y a => by cases neg <;> kernel_rfl, fun neg x y a => by cases neg <;> kernel_rfl⟩
instance ifa81_0 : FaOk Q 81 0 0 := ⟨fun b o s => by kernel_rfl⟩
instance ild77 : LdOk Q 77 := ⟨fun b o s G => (show _ = loadOne b o G by kernel_rfl).trans (loadOne_eq b o G)⟩
instance iep77 : EpOk Q 77 := ⟨fun neg x y => by cases neg <;> kernel_rfl, fun neg x y a => by cases neg <;> kernel_rfl, fun neg x y a => by cases neg <;> kernel_rfl⟩
instance ifa81_1 : FaOk Q 81 1 1 := ⟨fun b o s => by kernel_rfl⟩
noncomputable abbrev z28 : List Value := [(.int .u64 0)]
instance imk29 : MkSlOk Q 29 1 8 z28 := ⟨fun k k' l c G => by kernel_rfl⟩
instance isla123 : SlAOk Q 123 4096 1 := ⟨fun a lo hi mx G => by kernel_rfl⟩
instance iln82 : LnOk Q 82 := ⟨fun a n c => by kernel_rfl⟩
instance iias82 : IasOk Q 82 1 := ⟨fun b o s n c k j => by kernel_rfl⟩
instance ild83 : LdOk Q 83 := ⟨fun b o s G => (show _ = loadOne b o G by kernel_rfl).trans (loadOne_eq b o G)⟩
instance iias29 : IasOk Q 29 1 := ⟨fun b o s n c k j => by kernel_rfl⟩
instance ist28 : StOk Q 28 1 := ⟨fun b o s v G => by kernel_rfl⟩
noncomputable abbrev z55 : List Value := [(.int .i64 0), (.int .i64 0), (.int .i64 0)]
instance ial55 : AlOk Q 55 z55 := ⟨fun G => by kernel_rfl⟩
instance ist55 : StOk Q 55 3 := ⟨fun b o s v G => by kernel_rfl⟩
noncomputable abbrev z91 : List Value := [(.int .i64 0), (.int .i64 0), (.int .i64 0), (.int .i64 0)]
instance ial91 : AlOk Q 91 z91 := ⟨fun G => by kernel_rfl⟩
instance ist91 : StOk Q 91 4 := ⟨fun b o s v G => by kernel_rfl⟩
instance ilda91 : LdAOk Q 91 4 := ⟨fun b o s G => by kernel_rfl⟩
instance ibd91_0_1_2_3 : BdOk Q 91 z91 [(0, 0, 1), (1, 1, 1), (2, 2, 1), (3, 3, 1)] := bd_ok Q (by kernel_rfl) (by kernel_rfl) (by kernel_rfl)
noncomputable abbrev z3 : List Value := [(.int .i64 0)]
instance ibs22_1_0 : BsOk Q 22 1 (rep z3 1) 1 [(0, 0, 1)] := bs_ok Q (z0 := z3) (by kernel_rfl) rfl (by decide) (by kernel_rfl)
instance ibd55_0_1_2 : BdOk Q 55 z55 [(0, 0, 1), (1, 1, 1), (2, 2, 1)] := bd_ok Q (by kernel_rfl) (by kernel_rfl) (by kernel_rfl)
instance ibd55_1_2 : BdOk Q 55 z55 [(1, 1, 1), (2, 2, 1)] := bd_ok Q (by kernel_rfl) (by kernel_rfl) (by kernel_rfl)
noncomputable abbrev z53 : List Value := [(.pointer none)]
instance imk56 : MkSlOk Q 56 1 8 z53 := ⟨fun k k' l c G => by kernel_rfl⟩
instance imk22 : MkSlOk Q 22 1 8 z3 := ⟨fun k k' l c G => by kernel_rfl⟩
noncomputable abbrev z62 : List Value := [(.pointer none)]
instance imk57 : MkSlOk Q 57 1 8 z62 := ⟨fun k k' l c G => by kernel_rfl⟩
noncomputable abbrev z22 : List Value := [(.slice none 0 0)]
instance imk58 : MkSlOk Q 58 1 24 z22 := ⟨fun k k' l c G => by kernel_rfl⟩
noncomputable abbrev z4 : List Value := [(.bool false)]
instance imk59 : MkSlOk Q 59 1 1 z4 := ⟨fun k k' l c G => by kernel_rfl⟩
noncomputable abbrev z61 : List Value := [(.int .i64 0), (.int .i64 0), (.int .i64 0), (.pointer none), (.slice none 0 0), (.slice none 0 0), (.slice none 0 0), (.slice none 0 0), (.slice none 0 0), (.slice none 0 0), (.slice none 0 0), (.slice none 0 0), (.int .i64 0)]
instance ibd61_0_1_2_3_4_5_6_7_8_9 : BdOk Q 61 z61 [(0, 0, 3), (1, 3, 1), (2, 4, 1), (3, 5, 1), (4, 6, 1), (5, 7, 1), (6, 8, 1), (7, 9, 1), (8, 10, 1), (9, 11, 1)] := bd_ok Q (by kernel_rfl) (by kernel_rfl) (by kernel_rfl)
instance ifa61_3 : FaOk Q 61 3 5 := ⟨fun b o s => by kernel_rfl⟩
instance ifa55_2 : FaOk Q 55 2 2 := ⟨fun b o s => by kernel_rfl⟩
instance ifa61_8 : FaOk Q 61 8 10 := ⟨fun b o s => by kernel_rfl⟩
instance isl29 : SlOk Q 29 1 := ⟨fun a n c lo hi mx G => sl_eq Q (e := 28) (by kernel_rfl) (by kernel_rfl) a n c lo hi mx G⟩
instance iep67 : EpOk Q 67 := ⟨fun neg x y => by cases neg <;> kernel_rfl, fun neg x y a => by cases neg <;> kernel_rfl, fun neg x y a => by cases neg <;> kernel_rfl⟩
instance ifa110_3 : FaOk Q 110 3 8 := ⟨fun b o s => by kernel_rfl⟩
instance ild108 : LdOk Q 108 := ⟨fun b o s G => (show _ = loadOne b o G by kernel_rfl).trans (loadOne_eq b o G)⟩
instance ief108 : EfOk Q 108 := ⟨fun neg x y => by cases neg <;> kernel_rfl, fun neg x y f a b => by cases neg <;> kernel_rfl⟩
noncomputable abbrev z123 : List Value := (zs 4096 (.int .u64 0))
instance ial123 : AlOk Q 123 z123 := ⟨fun G => by kernel_rfl⟩
noncomputable abbrev z81 : List Value := [(.pointer none), (.int .i64 0), (.int .i64 0), (.int .i64 0), (.int .u64 0), (.int .u64 0), (.bool false), (.int .i64 0)]
instance ibd81_0_1 : BdOk Q 81 z81 [(0, 0, 1), (1, 1, 1)] := bd_ok Q (by kernel_rfl) (by kernel_rfl) (by kernel_rfl)
instance ial4 : AlOk Q 4 z4 := ⟨fun G => by kernel_rfl⟩
instance ibd91_ : BdOk Q 91 z91 [] := bd_ok Q (by kernel_rfl) (by kernel_rfl) (by kernel_rfl)
instance ist4 : StOk Q 4 1 := ⟨fun b o s v G => by kernel_rfl⟩
instance ild4 : LdOk Q 4 := ⟨fun b o s G => (show _ = loadOne b o G by kernel_rfl).trans (loadOne_eq b o G)⟩
noncomputable abbrev z146 : List Value := [(.bool false), (.pointer none), (.int .i64 0)]
instance ibd146_0_2 : BdOk Q 146 z146 [(0, 0, 1), (2, 2, 1)] := bd_ok Q (by kernel_rfl) (by kernel_rfl) (by kernel_rfl)
instance ifa146_2 : FaOk Q 146 2 2 := ⟨fun b o s => by kernel_rfl⟩
instance ild41 : LdOk Q 41 := ⟨fun b o s G => (show _ = loadOne b o G by kernel_rfl).trans (loadOne_eq b o G)⟩
instance ist41 : StOk Q 41 1 := ⟨fun b o s v G => by kernel_rfl⟩
instance ifa146_1 : FaOk Q 146 1 1 := ⟨fun b o s => by kernel_rfl⟩
instance ist144 : StOk Q 144 1 := ⟨fun b o s v G => by kernel_rfl⟩
noncomputable abbrev z151 : List Value := [(.bool false), (.int .i64 0), (.int .i64 0), (.int .i64 0), (.int .i64 0), (.int .i64 0), .nilIface, (.slice none 0 0), (.int .i64 0), (.int .i64 0)]
instance ibd151_0_2_6 : BdOk Q 151 z151 [(0, 0, 1), (2, 5, 1), (6, 9, 1)] := bd_ok Q (by kernel_rfl) (by kernel_rfl) (by kernel_rfl)
instance ifa151_6 : FaOk Q 151 6 9 := ⟨fun b o s => by kernel_rfl⟩
instance iifc152 : IfcOk Q 152 := ⟨fun v => by kernel_rfl⟩
instance ifa151_1 : FaOk Q 151 1 1 := ⟨fun b o s => by kernel_rfl⟩
instance ifa151_3 : FaOk Q 151 3 6 := ⟨fun b o s => by kernel_rfl⟩
instance ist149 : StOk Q 149 1 := ⟨fun b o s v G => by kernel_rfl⟩
instance ifa151_0 : FaOk Q 151 0 0 := ⟨fun b o s => by kernel_rfl⟩
instance ild149 : LdOk Q 149 := ⟨fun b o s G => (show _ = loadOne b o G by kernel_rfl).trans (loadOne_eq b o G)⟩
instance ifa151_4 : FaOk Q 151 4 7 := ⟨fun b o s => by kernel_rfl⟩
instance ifa146_0 : FaOk Q 146 0 0 := ⟨fun b o s => by kernel_rfl⟩
instance ild144 : LdOk Q 144 := ⟨fun b o s G => (show _ = loadOne b o G by kernel_rfl).trans (loadOne_eq b o G)⟩
instance iep144 : EpOk Q 144 := ⟨fun neg x y => by cases neg <;> kernel_rfl, fun neg x y a => by cases neg <;> kernel_rfl, fun neg x y a => by cases neg <;> kernel_rfl⟩
instance ifa61_4 : FaOk Q 61 4 6 := ⟨fun b o s => by kernel_rfl⟩
instance ifa61_10 : FaOk Q 61 10 12 := ⟨fun b o s => by kernel_rfl⟩
instance ist3 : StOk Q 3 1 := ⟨fun b o s v G => by kernel_rfl⟩
instance ist53 : StOk Q 53 1 := ⟨fun b o s v G => by kernel_rfl⟩
instance iap22_22 : ApOk Q 22 22 1 8 := ⟨fun s x G => by kernel_rfl⟩
instance ist22 : StOk Q 22 1 := ⟨fun b o s v G => by kernel_rfl⟩
instance ist62 : StOk Q 62 1 := ⟨fun b o s v G => by kernel_rfl⟩
instance ifa61_9 : FaOk Q 61 9 11 := ⟨fun b o s => by kernel_rfl⟩
instance ild59 : LdOk Q 59 := ⟨fun b o s G => (show _ = loadOne b o G by kernel_rfl).trans (loadOne_eq b o G)⟩
instance iias59 : IasOk Q 59 1 := ⟨fun b o s n c k j => by kernel_rfl⟩
instance iln29 : LnOk Q 29 := ⟨fun a n c => by kernel_rfl⟩
instance ild28 : LdOk Q 28 := ⟨fun b o s G => (show _ = loadOne b o G by kernel_rfl).trans (loadOne_eq b o G)⟩
noncomputable abbrev z29 : List Value := [(.slice none 0 0)]
instance ial29 : AlOk Q 29 z29 := ⟨fun G => by kernel_rfl⟩
instance ist29 : StOk Q 29 1 := ⟨fun b o s v G => by kernel_rfl⟩
noncomputable abbrev z118 : List Value := [.nilFunc]
instance ial118 : AlOk Q 118 z118 := ⟨fun G => by kernel_rfl⟩
instance ist118 : StOk Q 118 1 := ⟨fun b o s v G => by kernel_rfl⟩
instance ial22 : AlOk Q 22 z22 := ⟨fun G => by kernel_rfl⟩
instance ild118 : LdOk Q 118 := ⟨fun b o s G => (show _ = loadOne b o G by kernel_rfl).trans (loadOne_eq b o G)⟩
noncomputable abbrev z179 : List Value := [(.pointer none), (.int .u64 0), (.int .u64 0)]
instance ibd179_0 : BdOk Q 179 z179 [(0, 0, 1)] := bd_ok Q (by kernel_rfl) (by kernel_rfl) (by kernel_rfl)
instance ial179 : AlOk Q 179 z179 := ⟨fun G => by kernel_rfl⟩
instance ist179 : StOk Q 179 3 := ⟨fun b o s v G => by kernel_rfl⟩
instance ifa179_0 : FaOk Q 179 0 0 := ⟨fun b o s => by kernel_rfl⟩
instance ild176 : LdOk Q 176 := ⟨fun b o s G => (show _ = loadOne b o G by kernel_rfl).trans (loadOne_eq b o G)⟩
instance ilda179 : LdAOk Q 179 3 := ⟨fun b o s G => by kernel_rfl⟩
instance ifd79_3 : FdOk Q 79 3 3 := ⟨fun l => by kernel_rfl⟩
instance ibd179_0_1 : BdOk Q 179 z179 [(0, 0, 1), (1, 1, 1)] := bd_ok Q (by kernel_rfl) (by kernel_rfl) (by kernel_rfl)
instance iep113 : EpOk Q 113 := ⟨fun neg x y => by cases neg <;> kernel_rfl, fun neg x y a => by cases neg <;> kernel_rfl, fun neg x y a => by cases neg <;> kernel_rfl⟩
instance ifa175_3 : FaOk Q 175 3 8 := ⟨fun b o s => by kernel_rfl⟩
instance ild173 : LdOk Q 173 := ⟨fun b o s G => (show _ = loadOne b o G by kernel_rfl).trans (loadOne_eq b o G)⟩
instance ief173 : EfOk Q 173 := ⟨fun neg x y => by cases neg <;> kernel_rfl, fun neg x y f a b => by cases neg <;> kernel_rfl⟩
instance ifa55_0 : FaOk Q 55 0 0 := ⟨fun b o s => by kernel_rfl⟩
instance ifa55_1 : FaOk Q 55 1 1 := ⟨fun b o s => by kernel_rfl⟩
instance ifa151_5 : FaOk Q 151 5 8 := ⟨fun b o s => by kernel_rfl⟩
instance iifc188 : IfcOk Q 188 := ⟨fun v => by kernel_rfl⟩
instance ifa151_2 : FaOk Q 151 2 5 := ⟨fun b o s => by kernel_rfl⟩
noncomputable abbrev z195 : List Value := [(.int .i64 0), (.int .i64 0), (.int .i64 0), (.int .i64 0), .nilFunc, (.bool false), (.int .i64 0), (.int .i64 0), (.int .u64 0), (.int .u64 0)]
instance ibd195_0_1 : BdOk Q 195 z195 [(0, 0, 7), (1, 7, 1)] := bd_ok Q (by kernel_rfl) (by kernel_rfl) (by kernel_rfl)
instance ifa195_0 : FaOk Q 195 0 0 := ⟨fun b o s => by kernel_rfl⟩
instance ifa192_3 : FaOk Q 192 3 6 := ⟨fun b o s => by kernel_rfl⟩
instance ifa192_1 : FaOk Q 192 1 4 := ⟨fun b o s => by kernel_rfl⟩
instance ist111 : StOk Q 111 1 := ⟨fun b o s v G => by kernel_rfl⟩
noncomputable abbrev z197 : List Value := [(.int .i64 0), (.int .i64 0), (.int .i64 0), (.int .i64 0), .nilFunc, (.bool false), (.int .i64 0), (.int .u64 0), (.int .i64 0)]
instance ibd197_0 : BdOk Q 197 z197 [(0, 0, 7)] := bd_ok Q (by kernel_rfl) (by kernel_rfl) (by kernel_rfl)
instance ifa197_0 : FaOk Q 197 0 0 := ⟨fun b o s => by kernel_rfl⟩
instance ies22 : EsOk Q 22 := ⟨fun neg x y => by cases neg <;> kernel_rfl, fun neg x y a n c => by cases neg <;> kernel_rfl⟩
instance ibs22_0_ : BsOk Q 22 0 (rep z3 0) 1 [] := bs_ok Q (z0 := z3) (by kernel_rfl) rfl (by decide) (by kernel_rfl)
noncomputable abbrev z79 : List Value := [(.int .i64 0), (.int .i64 0), (.int .u64 0), (.int .u64 0), (.bool false)]
instance ial79 : AlOk Q 79 z79 := ⟨fun G => by kernel_rfl⟩
instance ist79 : StOk Q 79 5 := ⟨fun b o s v G => by kernel_rfl⟩
instance ifa79_0 : FaOk Q 79 0 0 := ⟨fun b o s => by kernel_rfl⟩
instance ifa79_4 : FaOk Q 79 4 4 := ⟨fun b o s => by kernel_rfl⟩
instance ifa79_1 : FaOk Q 79 1 1 := ⟨fun b o s => by kernel_rfl⟩
instance ifa91_2 : FaOk Q 91 2 2 := ⟨fun b o s => by kernel_rfl⟩
instance ifa91_3 : FaOk Q 91 3 3 := ⟨fun b o s => by kernel_rfl⟩
instance ifa91_0 : FaOk Q 91 0 0 := ⟨fun b o s => by kernel_rfl⟩
instance ild29 : LdOk Q 29 := ⟨fun b o s G => (show _ = loadOne b o G by kernel_rfl).trans (loadOne_eq b o G)⟩
instance icv3_28 : CvOk Q 3 28 .i64 .u64 := ⟨fun n => by kernel_rfl⟩
instance icv28_3 : CvOk Q 28 3 .u64 .i64 := ⟨fun n => by kernel_rfl⟩
instance icv162_3 : CvOk Q 162 3 .u64 .i64 := ⟨fun n => by kernel_rfl⟩
instance iiaa123 : IaaOk Q 123 4096 1 := ⟨fun b o s k j => by kernel_rfl⟩
instance ibd79_ : BdOk Q 79 z79 [] := bd_ok Q (by kernel_rfl) (by kernel_rfl) (by kernel_rfl)
instance ifa81_3 : FaOk Q 81 3 7 := ⟨fun b o s => by kernel_rfl⟩
instance ibd79_0_1 : BdOk Q 79 z79 [(0, 0, 1), (1, 1, 1)] := bd_ok Q (by kernel_rfl) (by kernel_rfl) (by kernel_rfl)
instance ifa81_2 : FaOk Q 81 2 2 := ⟨fun b o s => by kernel_rfl⟩
instance ifa79_2 : FaOk Q 79 2 2 := ⟨fun b o s => by kernel_rfl⟩
instance ifa79_3 : FaOk Q 79 3 3 := ⟨fun b o s => by kernel_rfl⟩
instance ist83 : StOk Q 83 1 := ⟨fun b o s v G => by kernel_rfl⟩
instance ilda79 : LdAOk Q 79 5 := ⟨fun b o s G => by kernel_rfl⟩
instance ifa179_1 : FaOk Q 179 1 1 := ⟨fun b o s => by kernel_rfl⟩
instance iep152 : EpOk Q 152 := ⟨fun neg x y => by cases neg <;> kernel_rfl, fun neg x y a => by cases neg <;> kernel_rfl, fun neg x y a => by cases neg <;> kernel_rfl⟩
instance ifa197_2 : FaOk Q 197 2 8 := ⟨fun b o s => by kernel_rfl⟩
noncomputable abbrev z219 : List Value := [(.int .i64 0), (.int .i64 0), (.int .i64 0), (.int .i64 0), .nilFunc, (.bool false), (.int .i64 0), (.int .u64 0)]
instance ibd219_0_1 : BdOk Q 219 z219 [(0, 0, 7), (1, 7, 1)] := bd_ok Q (by kernel_rfl) (by kernel_rfl) (by kernel_rfl)
instance ifa219_0 : FaOk Q 219 0 0 := ⟨fun b o s => by kernel_rfl⟩
instance ifa197_1 : FaOk Q 197 1 7 := ⟨fun b o s => by kernel_rfl⟩
noncomputable abbrev z192 : List Value := [(.int .i64 0), (.int .i64 0), (.int .i64 0), (.int .i64 0), .nilFunc, (.bool false), (.int .i64 0)]
instance ial192 : AlOk Q 192 z192 := ⟨fun G => by kernel_rfl⟩
instance ibd192_2_3 : BdOk Q 192 z192 [(2, 5, 1), (3, 6, 1)] := bd_ok Q (by kernel_rfl) (by kernel_rfl) (by kernel_rfl)
instance ist192 : StOk Q 192 7 := ⟨fun b o s v G => by kernel_rfl⟩
instance ibd192_0_2 : BdOk Q 192 z192 [(0, 0, 4), (2, 5, 1)] := bd_ok Q (by kernel_rfl) (by kernel_rfl) (by kernel_rfl)
instance ilda192 : LdAOk Q 192 7 := ⟨fun b o s G => by kernel_rfl⟩
instance ifa192_0 : FaOk Q 192 0 0 := ⟨fun b o s => by kernel_rfl⟩
instance ifa91_1 : FaOk Q 91 1 1 := ⟨fun b o s => by kernel_rfl⟩
instance ifa195_2 : FaOk Q 195 2 8 := ⟨fun b o s => by kernel_rfl⟩
instance icv162_201 : CvOk Q 162 201 .u64 .u32 := ⟨fun n => by kernel_rfl⟩
instance icv28_201 : CvOk Q 28 201 .u64 .u32 := ⟨fun n => by kernel_rfl⟩
instance iep171 : EpOk Q 171 := ⟨fun neg x y => by cases neg <;> kernel_rfl, fun neg x y a => by cases neg <;> kernel_rfl, fun neg x y a => by cases neg <;> kernel_rfl⟩
instance ifa208_0 : FaOk Q 208 0 0 := ⟨fun b o s => by kernel_rfl⟩
instance ifa208_1 : FaOk Q 208 1 9 := ⟨fun b o s => by kernel_rfl⟩
instance ild206 : LdOk Q 206 := ⟨fun b o s G => (show _ = loadOne b o G by kernel_rfl).trans (loadOne_eq b o G)⟩
instance ifa165_5 : FaOk Q 165 5 7 := ⟨fun b o s => by kernel_rfl⟩
instance iep176 : EpOk Q 176 := ⟨fun neg x y => by cases neg <;> kernel_rfl, fun neg x y a => by cases neg <;> kernel_rfl, fun neg x y a => by cases neg <;> kernel_rfl⟩
instance ifa192_2 : FaOk Q 192 2 5 := ⟨fun b o s => by kernel_rfl⟩
instance ild111 : LdOk Q 111 := ⟨fun b o s G => (show _ = loadOne b o G by kernel_rfl).trans (loadOne_eq b o G)⟩
instance ief111 : EfOk Q 111 := ⟨fun neg x y => by cases neg <;> kernel_rfl, fun neg x y f a b => by cases neg <;> kernel_rfl⟩
instance ifa219_1 : FaOk Q 219 1 7 := ⟨fun b o s => by kernel_rfl⟩
instance ifa195_3 : FaOk Q 195 3 9 := ⟨fun b o s => by kernel_rfl⟩
instance ist162 : StOk Q 162 1 := ⟨fun b o s v G => by kernel_rfl⟩
instance ild162 : LdOk Q 162 := ⟨fun b o s G => (show _ = loadOne b o G by kernel_rfl).trans (loadOne_eq b o G)⟩
instance iep106 : EpOk Q 106 := ⟨fun neg x y => by cases neg <;> kernel_rfl, fun neg x y a => by cases neg <;> kernel_rfl, fun neg x y a => by cases neg <;> kernel_rfl⟩
instance ifa168_0 : FaOk Q 168 0 0 := ⟨fun b o s => by kernel_rfl⟩
instance ifa168_1 : FaOk Q 168 1 9 := ⟨fun b o s => by kernel_rfl⟩
instance ild166 : LdOk Q 166 := ⟨fun b o s G => (show _ = loadOne b o G by kernel_rfl).trans (loadOne_eq b o G)⟩
instance iep204 : EpOk Q 204 := ⟨fun neg x y => by cases neg <;> kernel_rfl, fun neg x y a => by cases neg <;> kernel_rfl, fun neg x y a => by cases neg <;> kernel_rfl⟩
instance ifa165_4 : FaOk Q 165 4 6 := ⟨fun b o s => by kernel_rfl⟩
instance icv201_162 : CvOk Q 201 162 .u32 .u64 := ⟨fun n => by kernel_rfl⟩
instance ifa195_1 : FaOk Q 195 1 7 := ⟨fun b o s => by kernel_rfl⟩
instance ibd179_0_1_2 : BdOk Q 179 z179 [(0, 0, 1), (1, 1, 1), (2, 2, 1)] := bd_ok Q (by kernel_rfl) (by kernel_rfl) (by kernel_rfl)
instance ifd79_4 : FdOk Q 79 4 4 := ⟨fun l => by kernel_rfl⟩
instance icv3_162 : CvOk Q 3 162 .i64 .u64 := ⟨fun n => by kernel_rfl⟩
instance ifa179_2 : FaOk Q 179 2 2 := ⟨fun b o s => by kernel_rfl⟩
instance iep188 : EpOk Q 188 := ⟨fun neg x y => by cases neg <;> kernel_rfl, fun neg x y a => by cases neg <;> kernel_rfl, fun neg x y a => by cases neg <;> kernel_rfl⟩
noncomputable def b4_0 (q : Bool) (e : Ex) (lp : Env → GS → Option (Exit × Env × GS)) (τ : Env) (G : GS) : Option (Exit × Env × GS) :=
  bV q (τ 1) fun a1_ =>
  bV q (τ 6) fun a6_ =>
  bV q (τ 7) fun a7_ =>
  bP (ln Q q 22 a1_) fun x0 =>
  bP (bn Q q .lss 3 (.tmp 22) (.tmp 24) a7_ x0) fun x1 =>
  ifV x1 (
  bP (ias Q q 22 1 a1_ a7_) fun x2 =>
  bP (ld Q q 3 x2 (G.room 13)) fun x3 =>
  bS (e.ev.cl 7 [x3, (.int .i64 5)] (G.room 13)) fun x5 G4 =>
  bP (ias Q q 22 1 a1_ a7_) fun x6 =>
  bP (ld Q q 3 x6 G4) fun x7 =>
  chk ((sameO (ld Q q 3 x6 (G.room 13)) x7 && true)) <|
  bP (bn Q q .quo 3 (.tmp 37) (.const (.int .i64 5)) x7 (.int .i64 5)) fun x8 =>
  bS (e.ev.cl 13 [a6_, x5, x8] G4) fun x10 G9 =>
  bP (un Q q .not x10) fun x11 =>
  ifV x11 (
  some (.ret, xq q 141 τ [(4, (.bool false)), (40, x11), (39, x10), (38, x8), (37, x7), (36, x6), (35, a7_), (34, a1_), (33, x5), (32, x3), (31, x2), (30, a7_), (29, a1_), (28, a6_), (25, x1), (24, x0), (23, a1_), (22, a7_)] [(1, a1_), (6, a6_), (7, a7_)], G9)) (
  bP (bn Q q .add 3 (.tmp 26) (.const (.int .i64 1)) a7_ (.int .i64 1)) fun x12 =>
  lp (xq q 141 τ [(7, x12), (27, x12), (26, a7_), (40, x11), (39, x10), (38, x8), (37, x7), (36, x6), (35, a7_), (34, a1_), (33, x5), (32, x3), (31, x2), (30, a7_), (29, a1_), (28, a6_), (25, x1), (24, x0), (23, a1_), (22, a7_)] [(1, a1_), (6, a6_)]) G9)) (
  some ((.exit 0), xq q 141 τ [(25, x1), (24, x0), (23, a1_), (22, a7_)] [(1, a1_), (6, a6_), (7, a7_)], G))
theorem mb4_0 {e : Ex} {E : Ev} (h : ExLe Q e E) {lp lp' : Env → GS → Option (Exit × Env × GS)} (hlp : LpLe lp lp') (τ : Env) (G : GS) : Ref (b4_0 true e lp τ G) (b4_0 false (Ex.of E) lp' τ G) := by
  unfold b4_0
  exact Ref.gq
set_option maxHeartbeats 8000000 in
theorem l4_0 {orc : FuncId → Bool} {e : Ex} (h : ExLe Q e (E orc)) (lp : Env → GS → Option (Exit × Env × GS)) (hlp : ∀ τ G, Ref (lp τ G) (mapE ((E orc).lp (subAt [1, 1, 1, 1, 1, 0, 1, 0, 0] (bodyOf Try.f4)) (lst 141 τ) G))) (T : List Value) (G : GS) (hT : T.length = 141) : Ref (b4_0 true e lp (nth undef T) G) (mapE ((E orc).lp (subAt [1, 1, 1, 1, 1, 0, 1, 0, 0] (bodyOf Try.f4)) T G)) :=
  fun r hr => lp_sxN Q orc G hT (by kernel_rfl) (mb4_0 h ⟨hlp⟩ _ _ r hr)
noncomputable def b4_1 (q : Bool) (e : Ex) (lp : Env → GS → Option (Exit × Env × GS)) (τ : Env) (G : GS) : Option (Exit × Env × GS) :=
  bV q (τ 8) fun a8_ =>
  bP (bn Q q .lss 3 (.tmp 41) (.const (.int .i64 5)) a8_ (.int .i64 5)) fun x0 =>
  ifV x0 (
  bLq q e 4 2 (subAt [1, 1, 1, 1, 1, 1, 0, 1, 0, 0, 1, 0, 0, 0, 1, 0, 0] (bodyOf Try.f4)) 141 τ [(9, (.int .i64 0)), (42, x0), (41, a8_)] [] G fun e1 t2 G3 =>
  bV q (t2 6) fun t2x6_ =>
  bV q (t2 8) fun t2x8_ =>
  ifE e1 (.exit 4) (
  bP (bn Q q .lss 3 (.tmp 82) (.const (.int .i64 3)) t2x8_ (.int .i64 3)) fun x4 =>
  bS (gd x4 true (some (t2x6_, G3)) G3) fun x5 G6 =>
  bS (gd x4 true (bP (pNil x5) fun y => some (y, G6)) G6) fun x7 G8 =>
  bS (gd x4 true (bP (fa Q q 61 2 4 x7) fun y => some (y, G8)) G8) fun x9 G10 =>
  bS (gd x4 true (bP (ld Q q 56 x9 G10) fun y => some (y, G10)) G10) fun x11 G12 =>
  bS (gd x4 true (some (t2x8_, G12)) G12) fun x13 G14 =>
  bS (gd x4 true (bP (ias Q q 56 1 x11 x13) fun y => some (y, G14)) G14) fun x15 G16 =>
  bS (gd x4 true (bP (ld Q q 53 x15 G16) fun y => some (y, G16)) G16) fun x17 G18 =>
  bS (gd x4 true (bP (ep Q q true 53 (.tmp 91) (.const (.pointer none)) x17 (.pointer none)) fun y => some (y, G18)) G18) fun x19 G20 =>
  bP (pickV x4 x19 (.bool false)) fun x21 =>
  bS (gd x21 false (some (t2x8_, G20)) G20) fun x22 G23 =>
  bS (gd x21 false (bP (bn Q q .geq 3 (.tmp 95) (.const (.int .i64 3)) x22 (.int .i64 3)) fun y => some (y, G23)) G23) fun x24 G25 =>
  bS (gd x21 false (some (x24, G25)) G25) fun x26 G27 =>
  bS (gd x26 true (some (t2x6_, G27)) G27) fun x28 G29 =>
  bS (gd x26 true (bP (pNil x28) fun y => some (y, G29)) G29) fun x30 G31 =>
  bS (gd x26 true (bP (fa Q q 61 5 7 x30) fun y => some (y, G31)) G31) fun x32 G33 =>
  bS (gd x26 true (bP (ld Q q 57 x32 G33) fun y => some (y, G33)) G33) fun x34 G35 =>
  bS (gd x26 true (some (t2x8_, G35)) G35) fun x36 G37 =>
  bS (gd x26 true (bP (bn Q q .sub 3 (.tmp 102) (.const (.int .i64 3)) x36 (.int .i64 3)) fun y => some (y, G37)) G37) fun x38 G39 =>
  bS (gd x26 true (bP (ias Q q 57 1 x34 x38) fun y => some (y, G39)) G39) fun x40 G41 =>
  bS (gd x26 true (bP (ld Q q 62 x40 G41) fun y => some (y, G41)) G41) fun x42 G43 =>
  bS (gd x26 true (bP (ep Q q true 62 (.tmp 105) (.const (.pointer none)) x42 (.pointer none)) fun y => some (y, G43)) G43) fun x44 G45 =>
  bS (gd x21 false (bP (pickV x26 x44 (.bool false)) fun y => some (y, G45)) G45) fun x46 G47 =>
  bP (pickV x21 (.bool true) x46) fun x48 =>
  ifV x48 (
  some (.ret, xq q 141 t2 [(4, (.bool false)), (108, x48), (107, x46), (106, x44), (105, x42), (104, x40), (103, x38), (102, x36), (101, x34), (100, x32), (99, x30), (98, x28), (97, x26), (96, x24), (95, x22), (94, x21), (93, x21), (92, x19), (91, x17), (90, x15), (89, x13), (88, x11), (87, x9), (86, x7), (85, x5), (84, x4), (83, x4), (82, t2x8_)] [(8, t2x8_)], G47)) (
  bP (bn Q q .add 3 (.tmp 43) (.const (.int .i64 1)) t2x8_ (.int .i64 1)) fun x49 =>
  lp (xq q 141 t2 [(8, x49), (44, x49), (43, t2x8_), (108, x48), (107, x46), (106, x44), (105, x42), (104, x40), (103, x38), (102, x36), (101, x34), (100, x32), (99, x30), (98, x28), (97, x26), (96, x24), (95, x22), (94, x21), (93, x21), (92, x19), (91, x17), (90, x15), (89, x13), (88, x11), (87, x9), (86, x7), (85, x5), (84, x4), (83, x4), (82, t2x8_)] []) G47)) (ifE e1 .ret (
  some (.ret, xq q 141 t2 [] [(8, t2x8_)], G3)) (none))) (
  some ((.exit 2), xq q 141 τ [(42, x0), (41, a8_)] [(8, a8_)], G))
theorem mb4_1 {e : Ex} {E : Ev} (h : ExLe Q e E) {lp lp' : Env → GS → Option (Exit × Env × GS)} (hlp : LpLe lp lp') (τ : Env) (G : GS) : Ref (b4_1 true e lp τ G) (b4_1 false (Ex.of E) lp' τ G) := by
  unfold b4_1
  exact Ref.gq
set_option maxHeartbeats 8000000 in
theorem l4_1 {orc : FuncId → Bool} {e : Ex} (h : ExLe Q e (E orc)) (lp : Env → GS → Option (Exit × Env × GS)) (hlp : ∀ τ G, Ref (lp τ G) (mapE ((E orc).lp (subAt [1, 1, 1, 1, 1, 1, 0, 1, 0, 0] (bodyOf Try.f4)) (lst 141 τ) G))) (T : List Value) (G : GS) (hT : T.length = 141) : Ref (b4_1 true e lp (nth undef T) G) (mapE ((E orc).lp (subAt [1, 1, 1, 1, 1, 1, 0, 1, 0, 0] (bodyOf Try.f4)) T G)) :=
  fun r hr => lp_sxN Q orc G hT (by kernel_rfl) (mb4_1 h ⟨hlp⟩ _ _ r hr)
noncomputable def b4_2 (q : Bool) (e : Ex) (lp : Env → GS → Option (Exit × Env × GS)) (τ : Env) (G : GS) : Option (Exit × Env × GS) :=
  bV q (τ 6) fun a6_ =>
  bV q (τ 8) fun a8_ =>
  bV q (τ 9) fun a9_ =>
  bP (bn Q q .lss 3 (.tmp 45) (.const (.int .i64 60)) a9_ (.int .i64 60)) fun x0 =>
  bS (gd x0 true (some (a8_, G)) G) fun x1 G2 =>
  bS (gd x0 true (bP (bn Q q .lss 3 (.tmp 48) (.const (.int .i64 3)) x1 (.int .i64 3)) fun y => some (y, G2)) G2) fun x3 G4 =>
  bS (gd x0 true (some (x3, G4)) G4) fun x5 G6 =>
  bS (gd x5 true (some (a6_, G6)) G6) fun x7 G8 =>
  bS (gd x5 true (bP (pNil x7) fun y => some (y, G8)) G8) fun x9 G10 =>
  bS (gd x5 true (bP (fa Q q 61 2 4 x9) fun y => some (y, G10)) G10) fun x11 G12 =>
  bS (gd x5 true (bP (ld Q q 56 x11 G12) fun y => some (y, G12)) G12) fun x13 G14 =>
  bS (gd x5 true (some (a8_, G14)) G14) fun x15 G16 =>
  bS (gd x5 true (bP (ias Q q 56 1 x13 x15) fun y => some (y, G16)) G16) fun x17 G18 =>
  bS (gd x5 true (bP (ld Q q 53 x17 G18) fun y => some (y, G18)) G18) fun x19 G20 =>
  bS (gd x5 true (bP (ep Q q true 53 (.tmp 57) (.const (.pointer none)) x19 (.pointer none)) fun y => some (y, G20)) G20) fun x21 G22 =>
  bS (gd x0 true (bP (pickV x5 x21 (.bool false)) fun y => some (y, G22)) G22) fun x23 G24 =>
  bS (gd x0 true (some (x23, G24)) G24) fun x25 G26 =>
  bS (gd x25 false (some (a8_, G26)) G26) fun x27 G28 =>
  bS (gd x25 false (bP (bn Q q .geq 3 (.tmp 61) (.const (.int .i64 3)) x27 (.int .i64 3)) fun y => some (y, G28)) G28) fun x29 G30 =>
  bS (gd x25 false (some (x29, G30)) G30) fun x31 G32 =>
  bS (gd x31 true (some (a6_, G32)) G32) fun x33 G34 =>
  bS (gd x31 true (bP (pNil x33) fun y => some (y, G34)) G34) fun x35 G36 =>
  bS (gd x31 true (bP (fa Q q 61 5 7 x35) fun y => some (y, G36)) G36) fun x37 G38 =>
  bS (gd x31 true (bP (ld Q q 57 x37 G38) fun y => some (y, G38)) G38) fun x39 G40 =>
  bS (gd x31 true (some (a8_, G40)) G40) fun x41 G42 =>
  bS (gd x31 true (bP (bn Q q .sub 3 (.tmp 68) (.const (.int .i64 3)) x41 (.int .i64 3)) fun y => some (y, G42)) G42) fun x43 G44 =>
  bS (gd x31 true (bP (ias Q q 57 1 x39 x43) fun y => some (y, G44)) G44) fun x45 G46 =>
  bS (gd x31 true (bP (ld Q q 62 x45 G46) fun y => some (y, G46)) G46) fun x47 G48 =>
  bS (gd x31 true (bP (ep Q q true 62 (.tmp 71) (.const (.pointer none)) x47 (.pointer none)) fun y => some (y, G48)) G48) fun x49 G50 =>
  bS (gd x25 false (bP (pickV x31 x49 (.bool false)) fun y => some (y, G50)) G50) fun x51 G52 =>
  bS (gd x0 true (bP (pickV x25 (.bool true) x51) fun y => some (y, G52)) G52) fun x53 G54 =>
  bP (pickV x0 x53 (.bool false)) fun x55 =>
  ifV x55 (
  bS (e.ev.cl 13 [a6_, a8_, (.int .i64 0)] G54) fun x56 G57 =>
  bP (un Q q .not x56) fun x58 =>
  ifV x58 (
  some (.ret, xq q 141 τ [(4, (.bool false)), (81, x58), (80, x56), (79, a8_), (78, a6_), (75, x55), (74, x53), (73, x51), (72, x49), (71, x47), (70, x45), (69, x43), (68, x41), (67, x39), (66, x37), (65, x35), (64, x33), (63, x31), (62, x29), (61, x27), (60, x25), (59, x23), (58, x21), (57, x19), (56, x17), (55, x15), (54, x13), (53, x11), (52, x9), (51, x7), (50, x5), (49, x3), (48, x1), (47, x0), (46, x0), (45, a9_)] [(6, a6_), (8, a8_), (9, a9_)], G57)) (
  bP (bn Q q .add 3 (.tmp 76) (.const (.int .i64 1)) a9_ (.int .i64 1)) fun x59 =>
  lp (xq q 141 τ [(9, x59), (77, x59), (76, a9_), (81, x58), (80, x56), (79, a8_), (78, a6_), (75, x55), (74, x53), (73, x51), (72, x49), (71, x47), (70, x45), (69, x43), (68, x41), (67, x39), (66, x37), (65, x35), (64, x33), (63, x31), (62, x29), (61, x27), (60, x25), (59, x23), (58, x21), (57, x19), (56, x17), (55, x15), (54, x13), (53, x11), (52, x9), (51, x7), (50, x5), (49, x3), (48, x1), (47, x0), (46, x0), (45, a9_)] [(6, a6_), (8, a8_)]) G57)) (
  some ((.exit 4), xq q 141 τ [(75, x55), (74, x53), (73, x51), (72, x49), (71, x47), (70, x45), (69, x43), (68, x41), (67, x39), (66, x37), (65, x35), (64, x33), (63, x31), (62, x29), (61, x27), (60, x25), (59, x23), (58, x21), (57, x19), (56, x17), (55, x15), (54, x13), (53, x11), (52, x9), (51, x7), (50, x5), (49, x3), (48, x1), (47, x0), (46, x0), (45, a9_)] [(6, a6_), (8, a8_), (9, a9_)], G54))
theorem mb4_2 {e : Ex} {E : Ev} (h : ExLe Q e E) {lp lp' : Env → GS → Option (Exit × Env × GS)} (hlp : LpLe lp lp') (τ : Env) (G : GS) : Ref (b4_2 true e lp τ G) (b4_2 false (Ex.of E) lp' τ G) := by
  unfold b4_2
  exact Ref.gq
set_option maxHeartbeats 8000000 in
theorem l4_2 {orc : FuncId → Bool} {e : Ex} (h : ExLe Q e (E orc)) (lp : Env → GS → Option (Exit × Env × GS)) (hlp : ∀ τ G, Ref (lp τ G) (mapE ((E orc).lp (subAt [1, 1, 1, 1, 1, 1, 0, 1, 0, 0, 1, 0, 0, 0, 1, 0, 0] (bodyOf Try.f4)) (lst 141 τ) G))) (T : List Value) (G : GS) (hT : T.length = 141) : Ref (b4_2 true e lp (nth undef T) G) (mapE ((E orc).lp (subAt [1, 1, 1, 1, 1, 1, 0, 1, 0, 0, 1, 0, 0, 0, 1, 0, 0] (bodyOf Try.f4)) T G)) :=
  fun r hr => lp_sxN Q orc G hT (by kernel_rfl) (mb4_2 h ⟨hlp⟩ _ _ r hr)
noncomputable def b4_3 (q : Bool) (e : Ex) (lp : Env → GS → Option (Exit × Env × GS)) (τ : Env) (G : GS) : Option (Exit × Env × GS) :=
  bV q (τ 6) fun a6_ =>
  bV q (τ 10) fun a10_ =>
  bP (bn Q q .lss 3 (.tmp 109) (.const (.int .i64 2)) a10_ (.int .i64 2)) fun x0 =>
  ifV x0 (
  bP (pNil a6_) fun x1 =>
  bP (fa Q q 61 0 0 x1) fun x2 =>
  bP (lda Q q 55 3 x2 (G.room 27)) fun x3 =>
  bP (pNil a6_) fun x4 =>
  bP (fa Q q 61 1 3 x4) fun x5 =>
  bP (ld Q q 34 x5 (G.room 27)) fun x6 =>
  bS (e.ev.cl 15 [x3, a10_, x6] (G.room 27)) fun x8 G7 =>
  bP (pNil a6_) fun x9 =>
  bP (fa Q q 61 6 8 x9) fun x10 =>
  bP (ld Q q 58 x10 G7) fun x11 =>
  chk ((sameO (ld Q q 58 x10 (G.room 27)) x11 && true)) <|
  bP (ias Q q 58 1 x11 a10_) fun x12 =>
  bP (ld Q q 22 x12 G7) fun x13 =>
  chk ((sameO (ld Q q 22 x12 (G.room 27)) x13 && true)) <|
  bP (pNil a6_) fun x14 =>
  bP (fa Q q 61 7 9 x14) fun x15 =>
  bP (ld Q q 22 x15 G7) fun x16 =>
  chk ((sameO (ld Q q 22 x15 (G.room 27)) x16 && true)) <|
  bP (ias Q q 22 1 x16 a10_) fun x17 =>
  bP (ld Q q 3 x17 G7) fun x18 =>
  chk ((sameO (ld Q q 3 x17 (G.room 27)) x18 && true)) <|
  bP (sl Q q 22 1 x13 (some x18) none none G7) fun x19 =>
  chk ((sameO (sl Q q 22 1 x13 (some x18) none none (G.room 27)) x19 && true)) <|
  bS (e.ev.cl 14 [x8, x19] G7) fun x21 G20 =>
  bP (un Q q .not x21) fun x22 =>
  ifV x22 (
  some (.ret, xq q 141 τ [(4, (.bool false)), (139, x22), (138, x21), (137, x19), (136, x18), (135, x17), (134, a10_), (133, x16), (132, x15), (131, x14), (130, a6_), (129, x13), (128, x12), (127, a10_), (126, x11), (125, x10), (124, x9), (123, a6_), (122, x8), (121, x6), (120, x5), (119, x4), (118, a6_), (117, a10_), (116, x3), (115, x2), (114, x1), (113, a6_), (110, x0), (109, a10_)] [(6, a6_), (10, a10_)], G20)) (
  bP (bn Q q .add 3 (.tmp 111) (.const (.int .i64 1)) a10_ (.int .i64 1)) fun x23 =>
  lp (xq q 141 τ [(10, x23), (112, x23), (111, a10_), (139, x22), (138, x21), (137, x19), (136, x18), (135, x17), (134, a10_), (133, x16), (132, x15), (131, x14), (130, a6_), (129, x13), (128, x12), (127, a10_), (126, x11), (125, x10), (124, x9), (123, a6_), (122, x8), (121, x6), (120, x5), (119, x4), (118, a6_), (117, a10_), (116, x3), (115, x2), (114, x1), (113, a6_), (110, x0), (109, a10_)] [(6, a6_)]) G20)) (
  some ((.exit 6), xq q 141 τ [(110, x0), (109, a10_)] [(6, a6_), (10, a10_)], G))
theorem mb4_3 {e : Ex} {E : Ev} (h : ExLe Q e E) {lp lp' : Env → GS → Option (Exit × Env × GS)} (hlp : LpLe lp lp') (τ : Env) (G : GS) : Ref (b4_3 true e lp τ G) (b4_3 false (Ex.of E) lp' τ G) := by
  unfold b4_3
  exact Ref.gq
set_option maxHeartbeats 8000000 in
theorem l4_3 {orc : FuncId → Bool} {e : Ex} (h : ExLe Q e (E orc)) (lp : Env → GS → Option (Exit × Env × GS)) (hlp : ∀ τ G, Ref (lp τ G) (mapE ((E orc).lp (subAt [1, 1, 1, 1, 1, 1, 1, 0, 1, 0, 0] (bodyOf Try.f4)) (lst 141 τ) G))) (T : List Value) (G : GS) (hT : T.length = 141) : Ref (b4_3 true e lp (nth undef T) G) (mapE ((E orc).lp (subAt [1, 1, 1, 1, 1, 1, 1, 0, 1, 0, 0] (bodyOf Try.f4)) T G)) :=
  fun r hr => lp_sxN Q orc G hT (by kernel_rfl) (mb4_3 h ⟨hlp⟩ _ _ r hr)
/-- coxswain/coxswainlaw25.MailKeeps -/
noncomputable def s4 (q : Bool) (e : Ex) (v0 v1 : Value) (G : GS) : Option (Value × GS) :=
  bS (e.ev.cl 11 [] G) fun x0 G1 =>
  bP (ln Q q 22 v1) fun x2 =>
  bP (bn Q q .gtr 3 (.tmp 13) (.const (.int .i64 300)) x2 (.int .i64 300)) fun x3 =>
  ifV x3 (
  some (x0, G1)) (
  bS (e.ev.cl 7 [v0, (.int .i64 4)] G1) fun x4 G5 =>
  bP (bn Q q .add 3 (.const (.int .i64 1)) (.tmp 17) (.int .i64 1) x4) fun x6 =>
  bS (e.ev.cl 12 [x6] G5) fun x7 G8 =>
  bP (ep Q q false 50 (.tmp 20) (.const (.pointer none)) x7 (.pointer none)) fun x9 =>
  ifV x9 (
  some ((.bool false), G8)) (
  bLq q e 4 0 (subAt [1, 1, 1, 1, 1, 0, 1, 0, 0] (bodyOf Try.f4)) 141 (nth undef [v0, v1]) [(7, (.int .i64 0)), (21, x9), (20, x7), (6, x7), (19, x7), (18, x6), (17, x4), (16, v0), (14, x3), (13, x2), (12, v1), (5, x0), (11, x0), (4, (.bool false))] [] G8 fun e10 t11 G12 =>
  bV q (t11 4) fun t11x4_ =>
  ifE e10 (.exit 0) (
  bLq q e 4 1 (subAt [1, 1, 1, 1, 1, 1, 0, 1, 0, 0] (bodyOf Try.f4)) 141 t11 [(8, (.int .i64 0))] [] G12 fun e13 t14 G15 =>
  bV q (t14 4) fun t14x4_ =>
  ifE e13 (.exit 2) (
  bLq q e 4 3 (subAt [1, 1, 1, 1, 1, 1, 1, 0, 1, 0, 0] (bodyOf Try.f4)) 141 t14 [(10, (.int .i64 0))] [] G15 fun e16 t17 G18 =>
  bV q (t17 4) fun t17x4_ =>
  bV q (t17 5) fun t17x5_ =>
  ifE e16 (.exit 6) (
  some (t17x5_, G18)) (ifE e16 .ret (
  some (t17x4_, G18)) (none))) (ifE e13 .ret (
  some (t14x4_, G15)) (none))) (ifE e10 .ret (
  some (t11x4_, G12)) (none))))
theorem m4 {e : Ex} {E : Ev} (h : ExLe Q e E) (v0 v1 : Value) (G : GS) : Ref (s4 true e v0 v1 G) (s4 false (Ex.of E) v0 v1 G) := by
  unfold s4
  exact Ref.gq
set_option maxHeartbeats 8000000 in
theorem f4 {orc : FuncId → Bool} {e : Ex} (h : ExLe Q e (E orc)) (v0 v1 : Value) (G : GS) : Ref (s4 true e v0 v1 G) ((E orc).cl 4 [v0, v1] G) :=
  fun r hr => cl_sxE_some Q orc (vs := [v0, v1]) G Try.func4 (by kernel_rfl) (by kernel_rfl) (by kernel_rfl) (by kernel_rfl) (by kernel_rfl) (by kernel_rfl) (m4 h v0 v1 G r hr)
/-- coxswain/coxswainkit.Pick -/
noncomputable def s7 (q : Bool) (e : Ex) (v0 v1 : Value) (G : GS) : Option (Value × GS) :=
  bP (bn Q q .leq 3 (.tmp 5) (.const (.int .i64 0)) v1 (.int .i64 0)) fun x0 =>
  ifV x0 (
  some ((.int .i64 0), G)) (
  bP (bn Q q .rem 3 (.tmp 7) (.tmp 8) v0 v1) fun x1 =>
  bP (bn Q q .lss 3 (.tmp 10) (.const (.int .i64 0)) x1 (.int .i64 0)) fun x2 =>
  ifV x2 (
  bP (bn Q q .add 3 (.tmp 12) (.tmp 13) x1 v1) fun x3 =>
  some (x3, G)) (
  some (x1, G)))
theorem m7 {e : Ex} {E : Ev} (h : ExLe Q e E) (v0 v1 : Value) (G : GS) : Ref (s7 true e v0 v1 G) (s7 false (Ex.of E) v0 v1 G) := by
  unfold s7
  exact Ref.gq
theorem f7 {orc : FuncId → Bool} {e : Ex} (h : ExLe Q e (E orc)) (v0 v1 : Value) (G : GS) : Ref (s7 true e v0 v1 G) ((E orc).cl 7 [v0, v1] G) :=
  fun r hr => cl_sxE_some Q orc (vs := [v0, v1]) G Try.func7 (by kernel_rfl) (by kernel_rfl) (by kernel_rfl) (by kernel_rfl) (by kernel_rfl) (by kernel_rfl) (m7 h v0 v1 G r hr)
noncomputable def b9_0 (q : Bool) (e : Ex) (lp : Env → GS → Option (Exit × Env × GS)) (τ : Env) (G : GS) : Option (Exit × Env × GS) :=
  bV q (τ 3) fun a3_ =>
  bV q (τ 29) fun a29_ =>
  bV q (τ 30) fun a30_ =>
  bV q (τ 31) fun a31_ =>
  bP (bn Q q .lss 3 (.tmp 31) (.tmp 30) a31_ a30_) fun x0 =>
  ifV x0 (
  bP (ias Q q 82 1 a29_ a31_) fun x1 =>
  bP (ld Q q 83 x1 G) fun x2 =>
  bP (ias Q q 29 1 a3_ a31_) fun x3 =>
  bP (st Q q 28 1 x3 x2 G) fun G4 =>
  bP (bn Q q .add 3 (.tmp 31) (.const (.int .i64 1)) a31_ (.int .i64 1)) fun x5 =>
  lp (xq q 42 τ [(31, x5), (40, x5), (39, x3), (38, x2), (37, a31_), (36, a3_), (5, x2), (4, a31_), (35, x2), (34, x1), (33, a31_), (32, x0)] [(3, a3_), (29, a29_), (30, a30_)]) G4) (
  some ((.exit 0), xq q 42 τ [(32, x0)] [(3, a3_), (29, a29_), (30, a30_), (31, a31_)], G))
theorem mb9_0 {e : Ex} {E : Ev} (h : ExLe Q e E) {lp lp' : Env → GS → Option (Exit × Env × GS)} (hlp : LpLe lp lp') (τ : Env) (G : GS) : Ref (b9_0 true e lp τ G) (b9_0 false (Ex.of E) lp' τ G) := by
  unfold b9_0
  exact Ref.gq
theorem l9_0 {orc : FuncId → Bool} {e : Ex} (h : ExLe Q e (E orc)) (lp : Env → GS → Option (Exit × Env × GS)) (hlp : ∀ τ G, Ref (lp τ G) (mapE ((E orc).lp (subAt [1, 1, 1, 0, 1, 0, 0] (bodyOf Try.f9)) (lst 42 τ) G))) (T : List Value) (G : GS) (hT : T.length = 42) : Ref (b9_0 true e lp (nth undef T) G) (mapE ((E orc).lp (subAt [1, 1, 1, 0, 1, 0, 0] (bodyOf Try.f9)) T G)) :=
  fun r hr => lp_sxN Q orc G hT (by kernel_rfl) (mb9_0 h ⟨hlp⟩ _ _ r hr)
/-- (*coxswain/cells.Mem).Words -/
noncomputable def s9 (q : Bool) (e : Ex) (v0 : Value) (G : GS) : Option (Value × GS) :=
  bP (ep Q q false 34 (.tmp 6) (.const (.pointer none)) v0 (.pointer none)) fun x0 =>
  bS (gd x0 false (some (v0, G)) G) fun x1 G2 =>
  bS (gd x0 false (bP (pNil x1) fun y => some (y, G2)) G2) fun x3 G4 =>
  bS (gd x0 false (bP (fa Q q 81 0 0 x3) fun y => some (y, G4)) G4) fun x5 G6 =>
  bS (gd x0 false (bP (ld Q q 77 x5 G6) fun y => some (y, G6)) G6) fun x7 G8 =>
  bS (gd x0 false (bP (ep Q q false 77 (.tmp 12) (.const (.pointer none)) x7 (.pointer none)) fun y => some (y, G8)) G8) fun x9 G10 =>
  bP (pickV x0 (.bool true) x9) fun x11 =>
  ifV x11 (
  some ((.slice none 0 0), G10)) (
  bP (pNil v0) fun x12 =>
  bP (fa Q q 81 1 1 x12) fun x13 =>
  bP (ld Q q 3 x13 G10) fun x14 =>
  bS (mk Q q 29 1 8 z28 x14 x14 G10) fun x15 G16 =>
  bP (pNil v0) fun x17 =>
  bP (fa Q q 81 0 0 x17) fun x18 =>
  bP (ld Q q 77 x18 (G16.room 12)) fun x19 =>
  bP (pNil x19) fun x20 =>
  bP (pNil v0) fun x21 =>
  bP (fa Q q 81 1 1 x21) fun x22 =>
  bP (ld Q q 3 x22 (G16.room 12)) fun x23 =>
  bP (sla Q q 123 4096 1 x20 none (some x23) none (G16.room 12)) fun x24 =>
  bP (ln Q q 82 x24) fun x25 =>
  bLq q e 9 0 (subAt [1, 1, 1, 0, 1, 0, 0] (bodyOf Try.f9)) 42 (nth undef [v0]) [(31, (.int .i64 0)), (30, x25), (29, x24), (28, x23), (27, x22), (26, x21), (25, v0), (24, x20), (23, x19), (22, x18), (21, x17), (20, v0), (3, x15), (19, x15), (18, x14), (17, x13), (16, x12), (15, v0), (14, x11), (13, x9), (12, x7), (11, x5), (10, x3), (9, x1), (8, x0), (7, x0), (6, v0), (2, (.slice none 0 0))] [] (G16.room 12) fun e26 t27 G28 =>
  bV q (t27 3) fun t27x3_ =>
  ifE e26 (.exit 0) (
  some (t27x3_, G28)) (none))
theorem m9 {e : Ex} {E : Ev} (h : ExLe Q e E) (v0 : Value) (G : GS) : Ref (s9 true e v0 G) (s9 false (Ex.of E) v0 G) := by
  unfold s9
  exact Ref.gq
theorem f9 {orc : FuncId → Bool} {e : Ex} (h : ExLe Q e (E orc)) (v0 : Value) (G : GS) : Ref (s9 true e v0 G) ((E orc).cl 9 [v0] G) :=
  fun r hr => cl_sxE_some Q orc (vs := [v0]) G Try.func9 (by kernel_rfl) (by kernel_rfl) (by kernel_rfl) (by kernel_rfl) (by kernel_rfl) (by kernel_rfl) (m9 h v0 G r hr)
/-- coxswain/coxswainlaw25.MailKnown -/
noncomputable def s11 (q : Bool) (e : Ex) (G : GS) : Option (Value × GS) :=
  bS (e.ev.cl 28 [] G) fun x0 G1 =>
  bS (al Q q 55 z55 G1) fun x2 G3 =>
  bP (st Q q 55 3 x2 x0 G3) fun G4 =>
  bS (e.ev.cl 29 [] G4) fun x5 G6 =>
  bP (ep Q q false 34 (.tmp 22) (.const (.pointer none)) x5 (.pointer none)) fun x7 =>
  bS (gd x7 false (bP (lda Q q 55 3 x2 G6) fun y => some (y, G6)) G6) fun x8 G9 =>
  bS (gd x7 false (some (x5, G9)) G9) fun x10 G11 =>
  bS (gd x7 false (bS (e.ev.cl 15 [x8, (.int .i64 0), x10] G11) fun y G => some (y, G)) G11) fun x12 G13 =>
  bS (gd x7 false (bP (ln Q q 22 x12) fun y => some (y, G13)) G13) fun x14 G15 =>
  bS (gd x7 false (bP (bn Q q .neq 3 (.tmp 28) (.const (.int .i64 0)) x14 (.int .i64 0)) fun y => some (y, G15)) G15) fun x16 G17 =>
  bP (pickV x7 (.bool true) x16) fun x18 =>
  ifV x18 (
  some ((.bool false), G17)) (
  bP (lda Q q 55 3 x2 G17) fun x19 =>
  bS (e.ev.cl 30 [x19, (.int .i64 1)] G17) fun x20 G21 =>
  bP (pExtract x20 0) fun x22 =>
  bP (pExtract x20 1) fun x23 =>
  bS (al Q q 91 z91 G21) fun x24 G25 =>
  bP (st Q q 91 4 x24 x22 G25) fun G26 =>
  bP (lda Q q 55 3 x2 G26) fun x27 =>
  bS (e.ev.cl 30 [x27, (.int .i64 2)] G26) fun x28 G29 =>
  bP (pExtract x28 0) fun x30 =>
  bP (pExtract x28 1) fun x31 =>
  bS (al Q q 91 z91 G29) fun x32 G33 =>
  bP (st Q q 91 4 x32 x30 G33) fun G34 =>
  bP (lda Q q 55 3 x2 G34) fun x35 =>
  bS (e.ev.cl 31 [x35] G34) fun x36 G37 =>
  bP (bn Q q .eql 3 (.tmp 42) (.const (.int .i64 8)) x36 (.int .i64 8)) fun x38 =>
  bS (gd x38 true (some (x23, G37)) G37) fun x39 G40 =>
  bP (pickV x38 x39 (.bool false)) fun x41 =>
  bS (gd x41 true (some (x31, G40)) G40) fun x42 G43 =>
  bS (gd x41 true (bP (un Q q .not x42) fun y => some (y, G43)) G43) fun x44 G45 =>
  bP (pickV x41 x44 (.bool false)) fun x46 =>
  bS (gd x46 true (bP (lda Q q 91 4 x24 G45) fun y => some (y, G45)) G45) fun x47 G48 =>
  bS (gd x46 true (bP (bd Q q 91 z91 [(0, 0, 1), (1, 1, 1), (2, 2, 1), (3, 3, 1)] [(.int .i64 5), (.int .i64 6), (.int .i64 7), (.int .i64 2)]) fun y => some (y, G48)) G48) fun x49 G50 =>
  bS (gd x46 true (bP (bn Q q .eql 91 (.tmp 52) (.tmp 53) x47 x49) fun y => some (y, G50)) G50) fun x51 G52 =>
  bP (pickV x46 x51 (.bool false)) fun x53 =>
  bP (lda Q q 55 3 x2 G52) fun x54 =>
  bS (e.ev.cl 32 [x54, x5, (.int .i64 1), (.int .i64 1)] G52) fun x55 G56 =>
  bP (pExtract x55 0) fun x57 =>
  bP (pExtract x55 1) fun x58 =>
  bP (lda Q q 55 3 x2 G56) fun x59 =>
  bS (e.ev.cl 32 [x59, x5, (.int .i64 1), (.int .i64 5)] G56) fun x60 G61 =>
  bP (pExtract x60 0) fun x62 =>
  bP (pExtract x60 1) fun x63 =>
  bS (bs Q q 22 1 (rep z3 1) 1 [(0, 0, 1)] [(.int .i64 9)] G61) fun x64 G65 =>
  bS (e.ev.cl 14 [x57, x64] G65) fun x66 G67 =>
  bS (gd x66 true (some (x58, G67)) G67) fun x68 G69 =>
  bS (gd x66 true (bP (bn Q q .eql 3 (.tmp 72) (.const (.int .i64 4)) x68 (.int .i64 4)) fun y => some (y, G69)) G69) fun x70 G71 =>
  bP (pickV x66 x70 (.bool false)) fun x72 =>
  bS (gd x72 true (some (x62, G71)) G71) fun x73 G74 =>
  bS (gd x72 true (bS (bs Q q 22 1 (rep z3 1) 1 [(0, 0, 1)] [(.int .i64 8)] G74) fun y G => some (y, G)) G74) fun x75 G76 =>
  bS (gd x72 true (bS (e.ev.cl 14 [x73, x75] G76) fun y G => some (y, G)) G76) fun x77 G78 =>
  bP (pickV x72 x77 (.bool false)) fun x79 =>
  bS (gd x79 true (some (x63, G78)) G78) fun x80 G81 =>
  bS (gd x79 true (bP (bn Q q .eql 3 (.tmp 81) (.const (.int .i64 6)) x80 (.int .i64 6)) fun y => some (y, G81)) G81) fun x82 G83 =>
  bP (pickV x79 x82 (.bool false)) fun x84 =>
  bS (gd x84 true (bP (lda Q q 55 3 x2 G83) fun y => some (y, G83)) G83) fun x85 G86 =>
  bS (gd x84 true (some (x5, G86)) G86) fun x87 G88 =>
  bS (gd x84 true (bS (e.ev.cl 33 [x85, x87] G88) fun y G => some (y, G)) G88) fun x89 G90 =>
  bP (pickV x84 x89 (.bool false)) fun x91 =>
  bP (lda Q q 55 3 x2 (G90.room 9)) fun x92 =>
  bS (e.ev.cl 34 [x92, (.int .i64 2), (.int .i64 1)] (G90.room 9)) fun x94 G93 =>
  bP (lda Q q 55 3 x2 G93) fun x95 =>
  chk ((sameO (lda Q q 55 3 x2 (G90.room 9)) x95 && true)) <|
  bS (e.ev.cl 34 [x95, (.int .i64 (-1)), (.int .i64 1)] G93) fun x97 G96 =>
  bP (lda Q q 55 3 x2 G96) fun x98 =>
  chk ((sameO (lda Q q 55 3 x2 G93) x98 && (sameO (lda Q q 55 3 x2 (G90.room 9)) x98 && true))) <|
  bS (e.ev.cl 34 [x98, (.int .i64 0), (.int .i64 65536)] G96) fun x100 G99 =>
  bP (lda Q q 55 3 x2 G99) fun x101 =>
  bS (e.ev.cl 35 [x101, (.int .i64 0), (.int .i64 0)] G99) fun x102 G103 =>
  bS (e.ev.cl 36 [x102] G103) fun x104 G105 =>
  bP (pExtract x104 0) fun x106 =>
  bP (pExtract x104 1) fun x107 =>
  bP (bd Q q 55 z55 [(0, 0, 1), (1, 1, 1), (2, 2, 1)] [(.int .i64 1), (.int .i64 2), (.int .i64 17)]) fun x108 =>
  bS (e.ev.cl 34 [x108, (.int .i64 0), (.int .i64 1)] G105) fun x109 G110 =>
  bS (e.ev.cl 37 [x94] G110) fun x111 G112 =>
  bP (bn Q q .eql 41 (.tmp 104) (.const (.int .i64 3)) x111 (.int .i64 3)) fun x113 =>
  bS (gd x113 true (some (x97, G112)) G112) fun x114 G115 =>
  bS (gd x113 true (bS (e.ev.cl 37 [x114] G115) fun y G => some (y, G)) G115) fun x116 G117 =>
  bS (gd x113 true (bP (bn Q q .eql 41 (.tmp 108) (.const (.int .i64 3)) x116 (.int .i64 3)) fun y => some (y, G117)) G117) fun x118 G119 =>
  bP (pickV x113 x118 (.bool false)) fun x120 =>
  bS (gd x120 true (some (x100, G119)) G119) fun x121 G122 =>
  bS (gd x120 true (bS (e.ev.cl 37 [x121] G122) fun y G => some (y, G)) G122) fun x123 G124 =>
  bS (gd x120 true (bP (bn Q q .eql 41 (.tmp 113) (.const (.int .i64 3)) x123 (.int .i64 3)) fun y => some (y, G124)) G124) fun x125 G126 =>
  bP (pickV x120 x125 (.bool false)) fun x127 =>
  bS (gd x127 true (some (x107, G126)) G126) fun x128 G129 =>
  bS (gd x127 true (bP (bn Q q .eql 41 (.tmp 117) (.const (.int .i64 3)) x128 (.int .i64 3)) fun y => some (y, G129)) G129) fun x130 G131 =>
  bP (pickV x127 x130 (.bool false)) fun x132 =>
  bS (gd x132 true (some (x109, G131)) G131) fun x133 G134 =>
  bS (gd x132 true (bS (e.ev.cl 37 [x133] G134) fun y G => some (y, G)) G134) fun x135 G136 =>
  bS (gd x132 true (bP (bn Q q .eql 41 (.tmp 122) (.const (.int .i64 2)) x135 (.int .i64 2)) fun y => some (y, G136)) G136) fun x137 G138 =>
  bP (pickV x132 x137 (.bool false)) fun x139 =>
  bS (e.ev.cl 38 [] G138) fun x140 G141 =>
  bS (gd x140 true (some (x53, G141)) G141) fun x142 G143 =>
  bP (pickV x140 x142 (.bool false)) fun x144 =>
  bS (gd x144 true (some (x91, G143)) G143) fun x145 G146 =>
  bP (pickV x144 x145 (.bool false)) fun x147 =>
  bS (gd x147 true (some (x139, G146)) G146) fun x148 G149 =>
  bP (pickV x147 x148 (.bool false)) fun x150 =>
  bS (gd x150 true (bP (lda Q q 55 3 x2 G149) fun y => some (y, G149)) G149) fun x151 G152 =>
  bS (gd x150 true (bS (e.ev.cl 39 [x151, (.int .i64 9)] G152) fun y G => some (y, G)) G152) fun x153 G154 =>
  bS (gd x150 true (bP (bn Q q .eql 41 (.tmp 137) (.const (.int .i64 0)) x153 (.int .i64 0)) fun y => some (y, G154)) G154) fun x155 G156 =>
  bP (pickV x150 x155 (.bool false)) fun x157 =>
  bS (gd x157 true (bP (lda Q q 55 3 x2 G156) fun y => some (y, G156)) G156) fun x158 G159 =>
  bS (gd x157 true (bS (e.ev.cl 39 [x158, (.int .i64 8)] G159) fun y G => some (y, G)) G159) fun x160 G161 =>
  bS (gd x157 true (bP (bn Q q .eql 41 (.tmp 142) (.const (.int .i64 2)) x160 (.int .i64 2)) fun y => some (y, G161)) G161) fun x162 G163 =>
  bP (pickV x157 x162 (.bool false)) fun x164 =>
  bS (gd x164 true (bP (lda Q q 55 3 x2 G163) fun y => some (y, G163)) G163) fun x165 G166 =>
  bS (gd x164 true (bS (e.ev.cl 39 [x165, (.int .i64 0)] G166) fun y G => some (y, G)) G166) fun x167 G168 =>
  bS (gd x164 true (bP (bn Q q .eql 41 (.tmp 147) (.const (.int .i64 3)) x167 (.int .i64 3)) fun y => some (y, G168)) G168) fun x169 G170 =>
  bP (pickV x164 x169 (.bool false)) fun x171 =>
  bS (gd x171 true (bP (bd Q q 55 z55 [(1, 1, 1), (2, 2, 1)] [(.int .i64 65), (.int .i64 1)]) fun y => some (y, G170)) G170) fun x172 G173 =>
  bS (gd x171 true (bS (e.ev.cl 39 [x172, (.int .i64 4096)] G173) fun y G => some (y, G)) G173) fun x174 G175 =>
  bS (gd x171 true (bP (bn Q q .eql 41 (.tmp 152) (.const (.int .i64 2)) x174 (.int .i64 2)) fun y => some (y, G175)) G175) fun x176 G177 =>
  bP (pickV x171 x176 (.bool false)) fun x178 =>
  some (x178, G177))
theorem m11 {e : Ex} {E : Ev} (h : ExLe Q e E) (G : GS) : Ref (s11 true e  G) (s11 false (Ex.of E)  G) := by
  unfold s11
  exact Ref.gq
set_option maxHeartbeats 8000000 in
theorem f11 {orc : FuncId → Bool} {e : Ex} (h : ExLe Q e (E orc)) (ho : orc 11 = false) (G : GS) : Ref (s11 true e  G) ((E orc).cl 11 [] G) :=
  fun r hr => cl_sxE_some Q orc (vs := []) G Try.func11 (by kernel_rfl) (by kernel_rfl) ho (by kernel_rfl) (by kernel_rfl) (by kernel_rfl) (m11 h  G r hr)
/-- coxswain/coxswainlaw25.begun -/
noncomputable def s12 (q : Bool) (e : Ex) (v0 : Value) (G : GS) : Option (Value × GS) :=
  bP (bd Q q 55 z55 [(0, 0, 1), (1, 1, 1), (2, 2, 1)] [(.int .i64 3), (.int .i64 2), v0]) fun x0 =>
  bS (al Q q 55 z55 G) fun x1 G2 =>
  bP (st Q q 55 3 x1 x0 G2) fun G3 =>
  bP (lda Q q 55 3 x1 G3) fun x4 =>
  bP (bn Q q .add 3 (.tmp 8) (.const (.int .i64 2)) v0 (.int .i64 2)) fun x5 =>
  bP (bn Q q .mul 3 (.const (.int .i64 2)) (.tmp 9) (.int .i64 2) x5) fun x6 =>
  bP (bn Q q .add 3 (.const (.int .i64 3)) (.tmp 10) (.int .i64 3) x6) fun x7 =>
  bS (e.ev.cl 40 [x4, x7] G3) fun x8 G9 =>
  bP (ep Q q false 34 (.tmp 13) (.const (.pointer none)) x8 (.pointer none)) fun x10 =>
  ifV x10 (
  some ((.pointer none), G9)) (
  bP (lda Q q 55 3 x1 (G9.room 13)) fun x11 =>
  bS (mk Q q 56 1 8 z53 (.int .i64 3) (.int .i64 3) ((G9.room 13).at' (G9.nx + 2))) fun x12 G13 =>
  bS (mk Q q 22 1 8 z3 (.int .i64 3) (.int .i64 3) ((G13.back (G9.room 13)).at' (G9.nx + 3))) fun x14 G15 =>
  bS (mk Q q 22 1 8 z3 (.int .i64 3) (.int .i64 3) ((G15.back (G13.back (G9.room 13))).at' (G9.nx + 4))) fun x16 G17 =>
  bS (mk Q q 57 1 8 z62 (.int .i64 2) (.int .i64 2) ((G17.back (G15.back (G13.back (G9.room 13)))).at' (G9.nx + 5))) fun x18 G19 =>
  bS (mk Q q 58 1 24 z22 (.int .i64 2) (.int .i64 2) ((G19.back (G17.back (G15.back (G13.back (G9.room 13))))).at' (G9.nx + 6))) fun x20 G21 =>
  bS (mk Q q 22 1 8 z3 (.int .i64 2) (.int .i64 2) ((G21.back (G19.back (G17.back (G15.back (G13.back (G9.room 13)))))).at' (G9.nx + 7))) fun x22 G23 =>
  bS (mk Q q 22 1 8 z3 (.int .i64 2) (.int .i64 2) ((G23.back (G21.back (G19.back (G17.back (G15.back (G13.back (G9.room 13))))))).at' (G9.nx + 8))) fun x24 G25 =>
  bS (mk Q q 59 1 1 z4 (.int .i64 2) (.int .i64 2) ((G25.back (G23.back (G21.back (G19.back (G17.back (G15.back (G13.back (G9.room 13)))))))).at' (G9.nx + 9))) fun x26 G27 =>
  bP (bd Q q 61 z61 [(0, 0, 3), (1, 3, 1), (2, 4, 1), (3, 5, 1), (4, 6, 1), (5, 7, 1), (6, 8, 1), (7, 9, 1), (8, 10, 1), (9, 11, 1)] [x11, x8, x12, x14, x16, x18, x20, x22, x24, x26]) fun x28 =>
  bS (bx q x28 ((G27.back (G25.back (G23.back (G21.back (G19.back (G17.back (G15.back (G13.back (G9.room 13))))))))).at' (G9.nx + 11))) fun x29 G30 =>
  some (x29, (G30.back (G27.back (G25.back (G23.back (G21.back (G19.back (G17.back (G15.back (G13.back (G9.room 13))))))))))))
theorem m12 {e : Ex} {E : Ev} (h : ExLe Q e E) (v0 : Value) (G : GS) : Ref (s12 true e v0 G) (s12 false (Ex.of E) v0 G) := by
  unfold s12
  exact Ref.gq
theorem f12 {orc : FuncId → Bool} {e : Ex} (h : ExLe Q e (E orc)) (v0 : Value) (G : GS) : Ref (s12 true e v0 G) ((E orc).cl 12 [v0] G) :=
  fun r hr => cl_sxE_some Q orc (vs := [v0]) G Try.func12 (by kernel_rfl) (by kernel_rfl) (by kernel_rfl) (by kernel_rfl) (by kernel_rfl) (by kernel_rfl) (m12 h v0 G r hr)
noncomputable def b13_0 (q : Bool) (e : Ex) (lp : Env → GS → Option (Exit × Env × GS)) (τ : Env) (G : GS) : Option (Exit × Env × GS) :=
  bV q (τ 0) fun a0_ =>
  bV q (τ 11) fun a11_ =>
  bP (bn Q q .lss 3 (.tmp 55) (.const (.int .i64 2)) a11_ (.int .i64 2)) fun x0 =>
  ifV x0 (
  bP (pNil a0_) fun x1 =>
  bP (fa Q q 61 8 10 x1) fun x2 =>
  bP (ld Q q 22 x2 (G.room 22)) fun x3 =>
  bP (ias Q q 22 1 x3 a11_) fun x4 =>
  bP (ld Q q 3 x4 (G.room 22)) fun x5 =>
  bP (pNil a0_) fun x6 =>
  bP (fa Q q 61 6 8 x6) fun x7 =>
  bP (ld Q q 58 x7 (G.room 22)) fun x8 =>
  bP (ias Q q 58 1 x8 a11_) fun x9 =>
  bP (ld Q q 22 x9 (G.room 22)) fun x10 =>
  bP (ln Q q 22 x10) fun x11 =>
  bP (bn Q q .gtr 3 (.tmp 65) (.tmp 73) x5 x11) fun x12 =>
  bS (gd x12 false (some (a0_, (G.room 22))) (G.room 22)) fun x13 _ =>
  bS (gd x12 false (some (a11_, (G.room 22))) (G.room 22)) fun x14 _ =>
  bS (gd x12 false (bS (e.ev.cl 43 [x13, x14] (G.room 22)) fun y G => some (y, G)) (G.room 22)) fun x16 G15 =>
  bS (gd x12 false (bP (un Q q .not x16) fun y => some (y, G15)) G15) fun x17 _ =>
  bP (pickV x12 (.bool true) x17) fun x18 =>
  ifV x18 (
  some (.ret, xq q 111 τ [(6, (.bool false)), (80, x18), (79, x17), (78, x16), (77, x14), (76, x13), (75, x12), (74, x12), (73, x11), (72, x10), (71, x9), (70, a11_), (69, x8), (68, x7), (67, x6), (66, a0_), (65, x5), (64, x4), (63, a11_), (62, x3), (61, x2), (60, x1), (59, a0_), (56, x0), (55, a11_)] [(0, a0_), (11, a11_)], G15)) (
  bP (bn Q q .add 3 (.tmp 57) (.const (.int .i64 1)) a11_ (.int .i64 1)) fun x19 =>
  lp (xq q 111 τ [(11, x19), (58, x19), (57, a11_), (80, x18), (79, x17), (78, x16), (77, x14), (76, x13), (75, x12), (74, x12), (73, x11), (72, x10), (71, x9), (70, a11_), (69, x8), (68, x7), (67, x6), (66, a0_), (65, x5), (64, x4), (63, a11_), (62, x3), (61, x2), (60, x1), (59, a0_), (56, x0), (55, a11_)] [(0, a0_)]) G15)) (
  some ((.exit 0), xq q 111 τ [(56, x0), (55, a11_)] [(0, a0_), (11, a11_)], G))
theorem mb13_0 {e : Ex} {E : Ev} (h : ExLe Q e E) {lp lp' : Env → GS → Option (Exit × Env × GS)} (hlp : LpLe lp lp') (τ : Env) (G : GS) : Ref (b13_0 true e lp τ G) (b13_0 false (Ex.of E) lp' τ G) := by
  unfold b13_0
  exact Ref.gq
set_option maxHeartbeats 8000000 in
theorem l13_0 {orc : FuncId → Bool} {e : Ex} (h : ExLe Q e (E orc)) (lp : Env → GS → Option (Exit × Env × GS)) (hlp : ∀ τ G, Ref (lp τ G) (mapE ((E orc).lp (subAt [1, 1, 1, 1, 1, 1, 0, 1, 0, 0] (bodyOf Try.f13)) (lst 111 τ) G))) (T : List Value) (G : GS) (hT : T.length = 111) : Ref (b13_0 true e lp (nth undef T) G) (mapE ((E orc).lp (subAt [1, 1, 1, 1, 1, 1, 0, 1, 0, 0] (bodyOf Try.f13)) T G)) :=
  fun r hr => lp_sxN Q orc G hT (by kernel_rfl) (mb13_0 h ⟨hlp⟩ _ _ r hr)
noncomputable def jb13_0 (q : Bool) (e : Ex) (τ : Env) (G : GS) : Option (Value × GS) :=
  bV q (τ 0) fun a0_ =>
  bV q (τ 8) fun a8_ =>
  bP (pNil a0_) fun x5 =>
  bP (fa Q q 61 0 0 x5) fun x6 =>
  bP (fa Q q 55 2 2 x6) fun x7 =>
  bP (ld Q q 3 x7 G) fun x8 =>
  bP (bn Q q .add 3 (.tmp 51) (.const (.int .i64 2)) x8 (.int .i64 2)) fun x9 =>
  bP (bn Q q .mul 3 (.tmp 46) (.tmp 52) a8_ x9) fun x10 =>
  bP (bn Q q .add 3 (.const (.int .i64 3)) (.tmp 53) (.int .i64 3) x10) fun x11 =>
  bLq q e 13 0 (subAt [1, 1, 1, 1, 1, 1, 0, 1, 0, 0] (bodyOf Try.f13)) 111 τ [(11, (.int .i64 0)), (10, x11), (54, x11), (53, x10), (52, x9), (51, x8), (50, x7), (49, x6), (48, x5), (47, a0_), (46, a8_)] [] G fun e12 t13 G14 =>
  bV q (t13 0) fun t13x0_ =>
  bV q (t13 6) fun t13x6_ =>
  bV q (t13 7) fun t13x7_ =>
  bV q (t13 9) fun t13x9_ =>
  bV q (t13 10) fun t13x10_ =>
  ifE e12 (.exit 0) (
  bS (gd t13x9_ true (some (t13x0_, (G14.room 31))) (G14.room 31)) fun x15 _ =>
  bS (gd t13x9_ true (bP (pNil x15) fun y => some (y, (G14.room 31))) (G14.room 31)) fun x16 _ =>
  bS (gd t13x9_ true (bP (fa Q q 61 1 3 x16) fun y => some (y, (G14.room 31))) (G14.room 31)) fun x17 _ =>
  bS (gd t13x9_ true (bP (ld Q q 34 x17 (G14.room 31)) fun y => some (y, (G14.room 31))) (G14.room 31)) fun x18 _ =>
  bS (gd t13x9_ true (bS (e.ev.cl 9 [x18] (G14.room 31)) fun y G => some (y, G)) (G14.room 31)) fun x20 G19 =>
  bS (gd t13x9_ true (some (t13x10_, G19)) G19) fun x21 _ =>
  bS (gd t13x9_ true (some (t13x10_, G19)) G19) fun x22 _ =>
  bS (gd t13x9_ true (some (t13x0_, G19)) G19) fun x23 _ =>
  bS (gd t13x9_ true (bP (pNil x23) fun y => some (y, G19)) G19) fun x24 _ =>
  bS (gd t13x9_ true (bP (fa Q q 61 0 0 x24) fun y => some (y, G19)) G19) fun x25 _ =>
  bS (gd t13x9_ true (bP (fa Q q 55 2 2 x25) fun y => some (y, G19)) G19) fun x26 _ =>
  bS (gd t13x9_ true (bP (ld Q q 3 x26 G19) fun y => some (y, G19)) G19) fun x27 _ =>
  chk (((!(gB t13x9_ true) || (!(gB t13x9_ true) || sameO (ld Q q 3 x26 (G14.room 31)) x27)) && true)) <|
  bS (gd t13x9_ true (bP (bn Q q .add 3 (.tmp 89) (.tmp 94) x22 x27) fun y => some (y, G19)) G19) fun x28 _ =>
  bS (gd t13x9_ true (bP (bn Q q .add 3 (.tmp 95) (.const (.int .i64 2)) x28 (.int .i64 2)) fun y => some (y, G19)) G19) fun x29 _ =>
  bS (gd t13x9_ true (bP (sl Q q 29 1 x20 (some x21) (some x29) none G19) fun y => some (y, G19)) G19) fun x30 _ =>
  bS (gd t13x9_ true (some (t13x7_, G19)) G19) fun x31 _ =>
  bS (gd t13x9_ true (some (t13x10_, G19)) G19) fun x32 _ =>
  bS (gd t13x9_ true (some (t13x10_, G19)) G19) fun x33 _ =>
  bS (gd t13x9_ true (some (t13x0_, G19)) G19) fun x34 _ =>
  bS (gd t13x9_ true (bP (pNil x34) fun y => some (y, G19)) G19) fun x35 _ =>
  bS (gd t13x9_ true (bP (fa Q q 61 0 0 x35) fun y => some (y, G19)) G19) fun x36 _ =>
  bS (gd t13x9_ true (bP (fa Q q 55 2 2 x36) fun y => some (y, G19)) G19) fun x37 _ =>
  bS (gd t13x9_ true (bP (ld Q q 3 x37 G19) fun y => some (y, G19)) G19) fun x38 _ =>
  chk (((!(gB t13x9_ true) || (!(gB t13x9_ true) || sameO (ld Q q 3 x37 (G14.room 31)) x38)) && true)) <|
  bS (gd t13x9_ true (bP (bn Q q .add 3 (.tmp 100) (.tmp 105) x33 x38) fun y => some (y, G19)) G19) fun x39 _ =>
  bS (gd t13x9_ true (bP (bn Q q .add 3 (.tmp 106) (.const (.int .i64 2)) x39 (.int .i64 2)) fun y => some (y, G19)) G19) fun x40 _ =>
  bS (gd t13x9_ true (bP (sl Q q 29 1 x31 (some x32) (some x40) none G19) fun y => some (y, G19)) G19) fun x41 _ =>
  chk (((!(gB t13x9_ true) || (!(gB t13x9_ true) || sameO (sl Q q 29 1 x31 (some x32) (some x40) none (G14.room 31)) x41)) && true)) <|
  bS (gd t13x9_ true (bS (e.ev.cl 44 [x30, x41] G19) fun y G => some (y, G)) G19) fun x43 G42 =>
  bP (pickV t13x9_ x43 (.bool false)) fun x44 =>
  some (x44, G42)) (ifE e12 .ret (
  some (t13x6_, G14)) (none))
noncomputable def j13_0 (q : Bool) (e : Ex) (τ : Env) (G : GS) : Option (Value × GS) := jb13_0 q e τ G
theorem mj13_0 {e : Ex} {E : Ev} (h : ExLe Q e E) (τ : Env) (G : GS) : Ref (j13_0 true e τ G) (j13_0 false (Ex.of E) τ G) := by
  unfold j13_0 jb13_0
  exact Ref.gq
theorem mkj13_0 {e : Ex} {E : Ev} (h : ExLe Q e E) {τ : Env} {l U : List (Nat × Value)} {G : GS} (hU : UOk τ U) : Ref (j13_0 true e (xq true 111 τ l U) G) (j13_0 false (Ex.of E) (xq false 111 τ l U) G) := by
  rw [xq_eq hU]
  exact mj13_0 h _ _
noncomputable def jb13_1 (q : Bool) (e : Ex) (J0 : Env → GS → Option (Value × GS)) (τ : Env) (G : GS) : Option (Value × GS) :=
  bV q (τ 0) fun a0_ =>
  bV q (τ 1) fun a1_ =>
  bV q (τ 2) fun a2_ =>
  bS (e.ev.cl 41 [a0_, a1_, a2_] G) fun x46 G47 =>
  J0 (xq q 111 τ [(9, x46), (38, x46), (37, a2_), (36, a1_), (35, a0_)] []) G47
noncomputable def j13_1 (q : Bool) (e : Ex) (τ : Env) (G : GS) : Option (Value × GS) := jb13_1 q e (j13_0 q e) τ G
theorem mj13_1 {e : Ex} {E : Ev} (h : ExLe Q e E) (τ : Env) (G : GS) : Ref (j13_1 true e τ G) (j13_1 false (Ex.of E) τ G) := by
  unfold j13_1 jb13_1
  repeat' (with_reducible first | exact Ref.rfl' _ | exact ROp.r | refine Ref.bP ?_ fun _ => ?_ | refine Ref.bS ?_ fun _ _ => ?_ | exact Ref.cl (by assumption) | refine Ref.ifV ?_ ?_ | refine LpLe.rx (by assumption) ?_ | refine Ref.xitq ?_ | exact UOk.z | refine UOk.c (by assumption) ?_ | exact Ref.nil _ | refine Ref.bVe fun _ _ => ?_ | refine Ref.bLq (by assumption) ?_ fun _ _ _ => ?_ | refine Ref.ifE ?_ ?_ | refine Ref.chk ?_ ?_ | refine Imp.and ?_ ?_ | refine Imp.or ?_ | exact Imp.rfl' _ | refine Imp.sameO ?_ | refine Ref.gd ?_ | exact Ref.cValue (by assumption) | refine Ref.bX ?_ fun _ _ _ => ?_ | exact Ref.scQ (by assumption) | exact Ref.xRangeQ (by assumption) | exact Ref.cInvoke (by assumption) | refine mkj13_0 (by assumption) ?_)
theorem mkj13_1 {e : Ex} {E : Ev} (h : ExLe Q e E) {τ : Env} {l U : List (Nat × Value)} {G : GS} (hU : UOk τ U) : Ref (j13_1 true e (xq true 111 τ l U) G) (j13_1 false (Ex.of E) (xq false 111 τ l U) G) := by
  rw [xq_eq hU]
  exact mj13_1 h _ _
noncomputable def sb13 (q : Bool) (e : Ex) (J0 J1 : Env → GS → Option (Value × GS)) (v0 v1 v2 : Value) (G : GS) : Option (Value × GS) :=
  bP (pNil v0) fun x0 =>
  bP (fa Q q 61 1 3 x0) fun x1 =>
  bP (ld Q q 34 x1 G) fun x2 =>
  bS (e.ev.cl 9 [x2] G) fun x3 G4 =>
  bP (bn Q q .lss 3 (.tmp 17) (.const (.int .i64 3)) v1 (.int .i64 3)) fun x45 =>
  ifV x45 (
  bP (pNil v0) fun x48 =>
  bP (fa Q q 61 2 4 x48) fun x49 =>
  bP (ld Q q 56 x49 G4) fun x50 =>
  bP (ias Q q 56 1 x50 v1) fun x51 =>
  bP (ld Q q 53 x51 G4) fun x52 =>
  bP (ep Q q true 53 (.tmp 25) (.const (.pointer none)) x52 (.pointer none)) fun x53 =>
  ifV x53 (
  bP (pNil v0) fun x54 =>
  bP (fa Q q 61 3 5 x54) fun x55 =>
  bP (ld Q q 22 x55 G4) fun x56 =>
  bP (ias Q q 22 1 x56 v1) fun x57 =>
  bP (ld Q q 3 x57 G4) fun x58 =>
  bP (bn Q q .sub 3 (.const (.int .i64 1)) (.tmp 33) (.int .i64 1) x58) fun x59 =>
  J1 (xq q 111 (nth undef [v0, v1, v2]) [(8, x59), (34, x59), (33, x58), (32, x57), (31, v1), (30, x56), (29, x55), (28, x54), (27, v0), (26, x53), (25, x52), (24, x51), (23, v1), (22, x50), (21, x49), (20, x48), (19, v0), (18, x45), (17, v1), (9, (.bool true)), (8, (.int .i64 1)), (7, x3), (16, x3), (15, x2), (14, x1), (13, x0), (12, v0), (6, (.bool false))] []) G4) (
  J1 (xq q 111 (nth undef [v0, v1, v2]) [(26, x53), (25, x52), (24, x51), (23, v1), (22, x50), (21, x49), (20, x48), (19, v0), (18, x45), (17, v1), (9, (.bool true)), (8, (.int .i64 1)), (7, x3), (16, x3), (15, x2), (14, x1), (13, x0), (12, v0), (6, (.bool false))] []) G4)) (
  bP (bn Q q .sub 3 (.const (.int .i64 4)) (.tmp 39) (.int .i64 4) v1) fun x60 =>
  bP (bn Q q .sub 3 (.tmp 42) (.const (.int .i64 3)) v1 (.int .i64 3)) fun x61 =>
  bS (e.ev.cl 42 [v0, x61, v2] G4) fun x62 G63 =>
  J0 (xq q 111 (nth undef [v0, v1, v2]) [(9, x62), (45, x62), (44, v2), (43, x61), (42, v1), (41, v0), (8, x60), (40, x60), (39, v1), (18, x45), (17, v1), (9, (.bool true)), (8, (.int .i64 1)), (7, x3), (16, x3), (15, x2), (14, x1), (13, x0), (12, v0), (6, (.bool false))] []) G63)
/-- (*coxswain/coxswainlaw25.crew).goes -/
noncomputable def s13 (q : Bool) (e : Ex) (v0 v1 v2 : Value) (G : GS) : Option (Value × GS) := sb13 q e (j13_0 q e) (j13_1 q e) v0 v1 v2 G
theorem m13 {e : Ex} {E : Ev} (h : ExLe Q e E) (v0 v1 v2 : Value) (G : GS) : Ref (s13 true e v0 v1 v2 G) (s13 false (Ex.of E) v0 v1 v2 G) := by
  unfold s13 sb13
  repeat' (with_reducible first | exact Ref.rfl' _ | exact ROp.r | refine Ref.bP ?_ fun _ => ?_ | refine Ref.bS ?_ fun _ _ => ?_ | exact Ref.cl (by assumption) | refine Ref.ifV ?_ ?_ | refine LpLe.rx (by assumption) ?_ | refine Ref.xitq ?_ | exact UOk.z | refine UOk.c (by assumption) ?_ | exact Ref.nil _ | refine Ref.bVe fun _ _ => ?_ | refine Ref.bLq (by assumption) ?_ fun _ _ _ => ?_ | refine Ref.ifE ?_ ?_ | refine Ref.chk ?_ ?_ | refine Imp.and ?_ ?_ | refine Imp.or ?_ | exact Imp.rfl' _ | refine Imp.sameO ?_ | refine Ref.gd ?_ | exact Ref.cValue (by assumption) | refine Ref.bX ?_ fun _ _ _ => ?_ | exact Ref.scQ (by assumption) | exact Ref.xRangeQ (by assumption) | exact Ref.cInvoke (by assumption) | refine mkj13_0 (by assumption) ?_ | refine mkj13_1 (by assumption) ?_)
noncomputable def jt13 (J0 J1 : Env → GS → Option (Value × GS)) : JT (Value × GS) :=
  (.n none .e (.n none .e (.n none .e (.n none .e (.n (some (fun T G => J0 (nth undef T) G)) (.n none .e (.n none (.n (some (fun T G => J1 (nth undef T) G)) .e .e) .e)) .e)))))
set_option maxHeartbeats 8000000 in
theorem jr13_0 (orc : FuncId → Bool) (J0 J1 : Env → GS → Option (Value × GS)) (T : List Value) (G : GS) : runC Q (evL Q orc) Try.f13.ntmps (jt13 J0 J1) (bodyOf Try.f13) (retE Q Try.f13.results.toList) [true, true, true, true] (nth undef T) G = jb13_0 false (Ex.of (E orc))  (nth undef T) G := by kernel_rfl
set_option maxHeartbeats 8000000 in
theorem jr13_1 (orc : FuncId → Bool) (J0 J1 : Env → GS → Option (Value × GS)) (T : List Value) (G : GS) : runC Q (evL Q orc) Try.f13.ntmps (jt13 J0 J1) (bodyOf Try.f13) (retE Q Try.f13.results.toList) [true, true, true, true, false, true, false] (nth undef T) G = jb13_1 false (Ex.of (E orc)) J0 (nth undef T) G := by kernel_rfl
set_option maxHeartbeats 8000000 in
theorem jo13 (orc : FuncId → Bool) : JOk Q orc Try.f13.ntmps (jt13 (j13_0 false (Ex.of (E orc))) (j13_1 false (Ex.of (E orc))) ) (bodyOf Try.f13) (retE Q Try.f13.results.toList) :=
  jOk Q orc (l := [([true, true, true, true], (fun T G => j13_0 false (Ex.of (E orc)) (nth undef T) G)), ([true, true, true, true, false, true, false], (fun T G => j13_1 false (Ex.of (E orc)) (nth undef T) G))]) (by kernel_rfl) (AllE.c (fun T G => jr13_0 orc (j13_0 false (Ex.of (E orc))) (j13_1 false (Ex.of (E orc))) T G) (AllE.c (fun T G => jr13_1 orc (j13_0 false (Ex.of (E orc))) (j13_1 false (Ex.of (E orc))) T G) (AllE.z)))
set_option maxHeartbeats 8000000 in
theorem je13 (orc : FuncId → Bool) (J0 J1 : Env → GS → Option (Value × GS)) (v0 v1 v2 : Value) (G : GS) : sxC Q (evL Q orc) Try.f13.ntmps (jt13 J0 J1) (bodyOf Try.f13) (nth undef [v0, v1, v2]) G (retE Q Try.f13.results.toList) = sb13 false (Ex.of (E orc)) J0 J1 v0 v1 v2 G := by kernel_rfl
set_option maxHeartbeats 8000000 in
theorem f13 {orc : FuncId → Bool} {e : Ex} (h : ExLe Q e (E orc)) (v0 v1 v2 : Value) (G : GS) : Ref (s13 true e v0 v1 v2 G) ((E orc).cl 13 [v0, v1, v2] G) :=
  fun r hr => cl_sxC Q orc (vs := [v0, v1, v2]) G (jt13 (j13_0 false (Ex.of (E orc))) (j13_1 false (Ex.of (E orc))) ) Try.func13 (by kernel_rfl) (by kernel_rfl) (by kernel_rfl) (by kernel_rfl) (by kernel_rfl) (jo13 orc) (je13 orc (j13_0 false (Ex.of (E orc))) (j13_1 false (Ex.of (E orc))) v0 v1 v2 G) (m13 h v0 v1 v2 G r hr)
noncomputable def b14_0 (q : Bool) (e : Ex) (lp : Env → GS → Option (Exit × Env × GS)) (τ : Env) (G : GS) : Option (Exit × Env × GS) :=
  bV q (τ 0) fun a0_ =>
  bV q (τ 1) fun a1_ =>
  bV q (τ 5) fun a5_ =>
  bV q (τ 6) fun a6_ =>
  bS (gd a5_ true (some (a6_, G)) G) fun x0 G1 =>
  bS (gd a5_ true (some (a0_, G1)) G1) fun x2 G3 =>
  bS (gd a5_ true (bP (ln Q q 22 x2) fun y => some (y, G3)) G3) fun x4 G5 =>
  bS (gd a5_ true (bP (bn Q q .lss 3 (.tmp 14) (.tmp 16) x0 x4) fun y => some (y, G5)) G5) fun x6 G7 =>
  bP (pickV a5_ x6 (.bool false)) fun x8 =>
  ifV x8 (
  bP (ias Q q 22 1 a0_ a6_) fun x9 =>
  bP (ld Q q 3 x9 (G7.room 10)) fun x10 =>
  bP (ias Q q 22 1 a1_ a6_) fun x11 =>
  bP (ld Q q 3 x11 (G7.room 10)) fun x12 =>
  bP (bn Q q .eql 3 (.tmp 24) (.tmp 28) x10 x12) fun x13 =>
  bP (bn Q q .add 3 (.tmp 19) (.const (.int .i64 1)) a6_ (.int .i64 1)) fun x14 =>
  lp (xq q 31 τ [(6, x14), (20, x14), (19, a6_), (5, x13), (29, x13), (28, x12), (27, x11), (26, a6_), (25, a1_), (24, x10), (23, x9), (22, a6_), (21, a0_), (18, x8), (17, x6), (16, x4), (15, x2), (14, x0), (13, a5_), (12, a5_)] [(0, a0_), (1, a1_)]) (G7.room 10)) (
  some ((.exit 0), xq q 31 τ [(18, x8), (17, x6), (16, x4), (15, x2), (14, x0), (13, a5_), (12, a5_)] [(0, a0_), (1, a1_), (5, a5_), (6, a6_)], G7))
theorem mb14_0 {e : Ex} {E : Ev} (h : ExLe Q e E) {lp lp' : Env → GS → Option (Exit × Env × GS)} (hlp : LpLe lp lp') (τ : Env) (G : GS) : Ref (b14_0 true e lp τ G) (b14_0 false (Ex.of E) lp' τ G) := by
  unfold b14_0
  exact Ref.gq
theorem l14_0 {orc : FuncId → Bool} {e : Ex} (h : ExLe Q e (E orc)) (lp : Env → GS → Option (Exit × Env × GS)) (hlp : ∀ τ G, Ref (lp τ G) (mapE ((E orc).lp (subAt [1, 1, 0, 1, 0, 0] (bodyOf Try.f14)) (lst 31 τ) G))) (T : List Value) (G : GS) (hT : T.length = 31) : Ref (b14_0 true e lp (nth undef T) G) (mapE ((E orc).lp (subAt [1, 1, 0, 1, 0, 0] (bodyOf Try.f14)) T G)) :=
  fun r hr => lp_sxN Q orc G hT (by kernel_rfl) (mb14_0 h ⟨hlp⟩ _ _ r hr)
/-- coxswain/coxswainkit.SameInts -/
noncomputable def s14 (q : Bool) (e : Ex) (v0 v1 : Value) (G : GS) : Option (Value × GS) :=
  bP (ln Q q 22 v0) fun x0 =>
  bP (ln Q q 22 v1) fun x1 =>
  bP (bn Q q .eql 3 (.tmp 8) (.tmp 10) x0 x1) fun x2 =>
  bLq q e 14 0 (subAt [1, 1, 0, 1, 0, 0] (bodyOf Try.f14)) 31 (nth undef [v0, v1]) [(6, (.int .i64 0)), (5, x2), (11, x2), (10, x1), (9, v1), (8, x0), (7, v0), (4, (.bool false))] [] G fun e3 t4 G5 =>
  bV q (t4 5) fun t4x5_ =>
  ifE e3 (.exit 0) (
  some (t4x5_, G5)) (none)
theorem m14 {e : Ex} {E : Ev} (h : ExLe Q e E) (v0 v1 : Value) (G : GS) : Ref (s14 true e v0 v1 G) (s14 false (Ex.of E) v0 v1 G) := by
  unfold s14
  exact Ref.gq
theorem f14 {orc : FuncId → Bool} {e : Ex} (h : ExLe Q e (E orc)) (v0 v1 : Value) (G : GS) : Ref (s14 true e v0 v1 G) ((E orc).cl 14 [v0, v1] G) :=
  fun r hr => cl_sxE_some Q orc (vs := [v0, v1]) G Try.func14 (by kernel_rfl) (by kernel_rfl) (by kernel_rfl) (by kernel_rfl) (by kernel_rfl) (by kernel_rfl) (m14 h v0 v1 G r hr)
/-- coxswain/mail.All -/
noncomputable def s15 (q : Bool) (e : Ex) (v0 v1 v2 : Value) (G : GS) : Option (Value × GS) :=
  bS (bx q v0 G) fun x0 G1 =>
  bP (lda Q q 55 3 x0 G1) fun x2 =>
  bS (e.ev.cl 30 [x2, v1] G1) fun x3 G4 =>
  bP (pExtract x3 0) fun x5 =>
  bP (pExtract x3 1) fun x6 =>
  bS (al Q q 91 z91 G4) fun x7 G8 =>
  bP (st Q q 91 4 x7 x5 G8) fun G9 =>
  bP (un Q q .not x6) fun x10 =>
  ifV x10 (
  some ((.slice none 0 0), G9)) (
  bP (lda Q q 91 4 x7 G9) fun x11 =>
  bS (e.ev.cl 45 [x11, v2] G9) fun x12 G13 =>
  some (x12, G13))
theorem m15 {e : Ex} {E : Ev} (h : ExLe Q e E) (v0 v1 v2 : Value) (G : GS) : Ref (s15 true e v0 v1 v2 G) (s15 false (Ex.of E) v0 v1 v2 G) := by
  unfold s15
  exact Ref.gq
theorem f15 {orc : FuncId → Bool} {e : Ex} (h : ExLe Q e (E orc)) (v0 v1 v2 : Value) (G : GS) : Ref (s15 true e v0 v1 v2 G) ((E orc).cl 15 [v0, v1, v2] G) :=
  fun r hr => cl_sxE_some Q orc (vs := [v0, v1, v2]) G Try.func15 (by kernel_rfl) (by kernel_rfl) (by kernel_rfl) (by kernel_rfl) (by kernel_rfl) (by kernel_rfl) (m15 h v0 v1 v2 G r hr)
/-- (*coxswain/arena.Free).Step -/
noncomputable def s19 (q : Bool) (e : Ex) (v0 v1 : Value) (G : GS) : Option (Value × GS) :=
  bP (ep Q q false 67 (.tmp 5) (.const (.pointer none)) v0 (.pointer none)) fun x0 =>
  bS (gd x0 false (some (v0, G)) G) fun x1 G2 =>
  bS (gd x0 false (bP (pNil x1) fun y => some (y, G2)) G2) fun x3 G4 =>
  bS (gd x0 false (bP (fa Q q 110 3 8 x3) fun y => some (y, G4)) G4) fun x5 G6 =>
  bS (gd x0 false (bP (ld Q q 108 x5 G6) fun y => some (y, G6)) G6) fun x7 G8 =>
  bS (gd x0 false (bP (ef Q q false 108 (.tmp 11) (.const .nilFunc) x7 .nilFunc) fun y => some (y, G8)) G8) fun x9 G10 =>
  bP (pickV x0 (.bool true) x9) fun x11 =>
  ifV x11 (
  some ((.bool true), G10)) (
  bP (pNil v0) fun x12 =>
  bP (fa Q q 110 3 8 x12) fun x13 =>
  bP (ld Q q 108 x13 G10) fun x14 =>
  bS (cValue e.ev x14 [v0, v1] G10) fun x15 G16 =>
  bP (pNil v0) fun x17 =>
  bP (fa Q q 110 3 8 x17) fun x18 =>
  bP (ld Q q 108 x18 G16) fun x19 =>
  bP (ef Q q false 108 (.tmp 24) (.const .nilFunc) x19 .nilFunc) fun x20 =>
  some (x20, G16))
theorem m19 {e : Ex} {E : Ev} (h : ExLe Q e E) (v0 v1 : Value) (G : GS) : Ref (s19 true e v0 v1 G) (s19 false (Ex.of E) v0 v1 G) := by
  unfold s19
  exact Ref.gq
theorem f19 {orc : FuncId → Bool} {e : Ex} (h : ExLe Q e (E orc)) (v0 v1 : Value) (G : GS) : Ref (s19 true e v0 v1 G) ((E orc).cl 19 [v0, v1] G) :=
  fun r hr => cl_sxE_some Q orc (vs := [v0, v1]) G Try.func19 (by kernel_rfl) (by kernel_rfl) (by kernel_rfl) (by kernel_rfl) (by kernel_rfl) (by kernel_rfl) (m19 h v0 v1 G r hr)
/-- coxswain/cells.New -/
noncomputable def s22 (q : Bool) (e : Ex) (v0 : Value) (G : GS) : Option (Value × GS) :=
  bP (bn Q q .lss 3 (.tmp 4) (.const (.int .i64 1)) v0 (.int .i64 1)) fun x0 =>
  bS (gd x0 false (some (v0, G)) G) fun x1 G2 =>
  bS (gd x0 false (bP (bn Q q .gtr 3 (.tmp 7) (.const (.int .i64 4096)) x1 (.int .i64 4096)) fun y => some (y, G2)) G2) fun x3 G4 =>
  bP (pickV x0 (.bool true) x3) fun x5 =>
  ifV x5 (
  some (.tuple #[(.pointer none), (.int .i64 3)], G4)) (
  bS (al Q q 123 z123 G4) fun x6 G7 =>
  bP (bd Q q 81 z81 [(0, 0, 1), (1, 1, 1)] [x6, v0]) fun x8 =>
  bS (bx q x8 G7) fun x9 G10 =>
  some (.tuple #[x9, (.int .i64 0)], G10))
theorem m22 {e : Ex} {E : Ev} (h : ExLe Q e E) (v0 : Value) (G : GS) : Ref (s22 true e v0 G) (s22 false (Ex.of E) v0 G) := by
  unfold s22
  exact Ref.gq
theorem f22 {orc : FuncId → Bool} {e : Ex} (h : ExLe Q e (E orc)) (v0 : Value) (G : GS) : Ref (s22 true e v0 G) ((E orc).cl 22 [v0] G) :=
  fun r hr => cl_sxE_some Q orc (vs := [v0]) G Try.func22 (by kernel_rfl) (by kernel_rfl) (by kernel_rfl) (by kernel_rfl) (by kernel_rfl) (by kernel_rfl) (m22 h v0 G r hr)
/-- coxswain/mail.Box -/
noncomputable def s30 (q : Bool) (e : Ex) (v0 v1 : Value) (G : GS) : Option (Value × GS) :=
  bS (bx q v0 G) fun x0 G1 =>
  bS (bx q v1 G1) fun x2 G3 =>
  bS (al Q q 91 z91 G3) fun x4 G5 =>
  bS (al Q q 4 z4 G5) fun x6 G7 =>
  bP (lda Q q 55 3 x0 G7) fun x8 =>
  bS (e.ev.cl 63 [x8] G7) fun x9 G10 =>
  bP (un Q q .not x9) fun x11 =>
  ifV x11 (
  bP (bd Q q 91 z91 [] []) fun x12 =>
  bP (st Q q 91 4 x4 x12 G10) fun G13 =>
  bP (st Q q 4 1 x6 (.bool false) G13) fun G14 =>
  bP (lda Q q 91 4 x4 G14) fun x15 =>
  bP (ld Q q 4 x6 G14) fun x16 =>
  some (.tuple #[x15, x16], G14)) (
  bP (lda Q q 55 3 x0 G10) fun x17 =>
  bS (e.ev.cl 64 [x17] G10) fun x18 G19 =>
  bX (xRange e.ev x18 #[14, 15] (subAt [1, 1, 0, 1, 0, 0] (bodyOf Try.f30)) (subAt [1, 1, 0, 1, 0, 1] (bodyOf Try.f30)) (lsq q 21 (nth undef [v0, v1]) [(13, x18), (12, x17), (10, x11), (9, x9), (8, x8), (5, x6), (4, x4), (3, x2), (2, x0)]) G19) fun e20 T21 G22 =>
  bV q (nth undef T21 4) fun T21x4_ =>
  bV q (nth undef T21 5) fun T21x5_ =>
  ifE e20 .normal (
  bP (bd Q q 91 z91 [] []) fun x23 =>
  bP (st Q q 91 4 T21x4_ x23 G22) fun G24 =>
  bP (st Q q 4 1 T21x5_ (.bool false) G24) fun G25 =>
  bP (lda Q q 91 4 T21x4_ G25) fun x26 =>
  bP (ld Q q 4 T21x5_ G25) fun x27 =>
  some (.tuple #[x26, x27], G25)) (ifE e20 .ret (
  bP (lda Q q 91 4 T21x4_ G22) fun x28 =>
  bP (ld Q q 4 T21x5_ G22) fun x29 =>
  some (.tuple #[x28, x29], G22)) (none)))
theorem m30 {e : Ex} {E : Ev} (h : ExLe Q e E) (v0 v1 : Value) (G : GS) : Ref (s30 true e v0 v1 G) (s30 false (Ex.of E) v0 v1 G) := by
  unfold s30
  exact Ref.gq
theorem f30 {orc : FuncId → Bool} {e : Ex} (h : ExLe Q e (E orc)) (v0 v1 : Value) (G : GS) : Ref (s30 true e v0 v1 G) ((E orc).cl 30 [v0, v1] G) :=
  fun r hr => cl_sxE_some Q orc (vs := [v0, v1]) G Try.func30 (by kernel_rfl) (by kernel_rfl) (by kernel_rfl) (by kernel_rfl) (by kernel_rfl) (by kernel_rfl) (m30 h v0 v1 G r hr)
noncomputable def r30_0 (q : Bool) (e : Ex) (l : Nat) (τ : Env) (u0 u1 : Value) (G : GS) : Option (Value × GS) :=
  bV q (τ 3) fun a3_ =>
  bV q (τ 4) fun a4_ =>
  bV q (τ 5) fun a5_ =>
  bS (al Q q 91 z91 G) fun x0 G1 =>
  bP (st Q q 91 4 x0 u1 G1) fun G2 =>
  bP (G2.loop l) fun r3 => if r3.st = .ready then
  bP (ld Q q 3 a3_ (G2.putLoop l (Lp.setSt r3 .busy))) fun x4 =>
  bP (bn Q q .eql 3 (.tmp 16) (.tmp 17) u0 x4) fun x5 =>
  ifV x5 (
  bP (lda Q q 91 4 x0 (G2.putLoop l (Lp.setSt r3 .busy))) fun x6 =>
  bP (st Q q 91 4 a4_ x6 (G2.putLoop l (Lp.setSt r3 .busy))) fun G7 =>
  bP (st Q q 4 1 a5_ (.bool true) G7) fun G8 =>
  roundEnd l .ret G8) (
  roundEnd l .normal (G2.putLoop l (Lp.setSt r3 .busy)))
  else none
theorem mr30_0 {e : Ex} {E : Ev} (h : ExLe Q e E) (l : Nat) (τ : Env) (u0 u1 : Value) (G : GS) : Ref (r30_0 true e l τ u0 u1 G) (r30_0 false (Ex.of E) l τ u0 u1 G) := by
  unfold r30_0
  repeat' (with_reducible first | exact Ref.rfl' _ | exact ROp.r | refine Ref.bP ?_ fun _ => ?_ | refine Ref.bS ?_ fun _ _ => ?_ | exact Ref.cl (by assumption) | refine Ref.ifV ?_ ?_ | refine LpLe.rx (by assumption) ?_ | refine Ref.xitq ?_ | exact UOk.z | refine UOk.c (by assumption) ?_ | exact Ref.nil _ | refine Ref.bVe fun _ _ => ?_ | refine Ref.bLq (by assumption) ?_ fun _ _ _ => ?_ | refine Ref.ifE ?_ ?_ | refine Ref.chk ?_ ?_ | refine Imp.and ?_ ?_ | refine Imp.or ?_ | exact Imp.rfl' _ | refine Imp.sameO ?_ | refine Ref.gd ?_ | exact Ref.cValue (by assumption) | refine Ref.bX ?_ fun _ _ _ => ?_ | exact Ref.scQ (by assumption) | exact Ref.xRangeQ (by assumption) | exact Ref.cInvoke (by assumption) | refine Ref.rdy ?_)
theorem d30_0 {orc : FuncId → Bool} {e : Ex} (h : ExLe Q e (E orc)) (l : Nat) (T : List Value) (u0 u1 : Value) (G : GS) {st : LoopState} {pend : Option Code} (hl : G.loop l = some ⟨st, pend, T, [14, 15], (subAt [1, 1, 0, 1, 0, 0] (bodyOf Try.f30)), (subAt [1, 1, 0, 1, 0, 1] (bodyOf Try.f30))⟩) (hT : T.length = 21) : Ref (r30_0 true e l (nth undef T) u0 u1 G) ((E orc).rd l [u0, u1] G) :=
  fun r hr => rd_sxE Q orc hl (by kernel_rfl) hT (by kernel_rfl) (mr30_0 h l _ u0 u1 G r hr)
noncomputable def jb34_0 (q : Bool) (e : Ex) (τ : Env) (G : GS) : Option (Value × GS) :=
  bV q (τ 1) fun a1_ =>
  bV q (τ 2) fun a2_ =>
  bV q (τ 3) fun a3_ =>
  bV q (τ 7) fun a7_ =>
  bP (lda Q q 55 3 a3_ G) fun x8 =>
  bS (e.ev.cl 30 [x8, a1_] G) fun x9 G10 =>
  bP (pExtract x9 0) fun x11 =>
  bP (pExtract x9 1) fun x12 =>
  bS (al Q q 91 z91 G10) fun x13 G14 =>
  bP (st Q q 91 4 x13 x11 G14) fun G15 =>
  bS (gd x12 true (some (a7_, G15)) G15) fun x16 G17 =>
  bS (gd x12 true (bP (pNil x16) fun y => some (y, G17)) G17) fun x18 G19 =>
  bS (gd x12 true (bP (fa Q q 146 2 2 x18) fun y => some (y, G19)) G19) fun x20 G21 =>
  bS (gd x12 true (bP (ld Q q 41 x20 G21) fun y => some (y, G21)) G21) fun x22 G23 =>
  bS (gd x12 true (bP (bn Q q .eql 41 (.tmp 42) (.const (.int .i64 0)) x22 (.int .i64 0)) fun y => some (y, G23)) G23) fun x24 G25 =>
  bP (pickV x12 x24 (.bool false)) fun x26 =>
  ifV x26 (
  bP (lda Q q 91 4 x13 G25) fun x27 =>
  bS (e.ev.cl 68 [x27, a2_] G25) fun x28 G29 =>
  bP (pNil a7_) fun x30 =>
  bP (fa Q q 146 1 1 x30) fun x31 =>
  bP (st Q q 144 1 x31 x28 G29) fun G32 =>
  some (a7_, G32)) (
  some (a7_, G25))
noncomputable def j34_0 (q : Bool) (e : Ex) (τ : Env) (G : GS) : Option (Value × GS) := jb34_0 q e τ G
theorem mj34_0 {e : Ex} {E : Ev} (h : ExLe Q e E) (τ : Env) (G : GS) : Ref (j34_0 true e τ G) (j34_0 false (Ex.of E) τ G) := by
  unfold j34_0 jb34_0
  exact Ref.gq
theorem mkj34_0 {e : Ex} {E : Ev} (h : ExLe Q e E) {τ : Env} {l U : List (Nat × Value)} {G : GS} (hU : UOk τ U) : Ref (j34_0 true e (xq true 52 τ l U) G) (j34_0 false (Ex.of E) (xq false 52 τ l U) G) := by
  rw [xq_eq hU]
  exact mj34_0 h _ _
noncomputable def sb34 (q : Bool) (e : Ex) (J0 : Env → GS → Option (Value × GS)) (v0 v1 v2 : Value) (G : GS) : Option (Value × GS) :=
  bS (bx q v0 G) fun x0 G1 =>
  bP (lda Q q 55 3 x0 G1) fun x2 =>
  bS (e.ev.cl 67 [x2, v1] G1) fun x3 G4 =>
  bP (bd Q q 146 z146 [(0, 0, 1), (2, 2, 1)] [(.bool true), x3]) fun x5 =>
  bS (bx q x5 G4) fun x6 G7 =>
  bP (pNil x6) fun x33 =>
  bP (fa Q q 146 2 2 x33) fun x34 =>
  bP (ld Q q 41 x34 G7) fun x35 =>
  bP (bn Q q .eql 41 (.tmp 18) (.const (.int .i64 0)) x35 (.int .i64 0)) fun x36 =>
  bS (gd x36 true (some (v2, G7)) G7) fun x37 G38 =>
  bS (gd x36 true (bP (bn Q q .lss 3 (.tmp 21) (.const (.int .i64 0)) x37 (.int .i64 0)) fun y => some (y, G38)) G38) fun x39 G40 =>
  bS (gd x36 true (some (x39, G40)) G40) fun x41 G42 =>
  bS (gd x41 false (some (v2, G42)) G42) fun x43 G44 =>
  bS (gd x41 false (bP (bn Q q .gtr 3 (.tmp 24) (.const (.int .i64 65535)) x43 (.int .i64 65535)) fun y => some (y, G44)) G44) fun x45 G46 =>
  bS (gd x36 true (bP (pickV x41 (.bool true) x45) fun y => some (y, G46)) G46) fun x47 G48 =>
  bP (pickV x36 x47 (.bool false)) fun x49 =>
  ifV x49 (
  bP (pNil x6) fun x50 =>
  bP (fa Q q 146 2 2 x50) fun x51 =>
  bP (st Q q 41 1 x51 (.int .i64 3) G48) fun G52 =>
  J0 (xq q 52 (nth undef [v0, v1, v2]) [(30, x51), (29, x50), (28, x6), (27, x49), (26, x47), (25, x45), (24, x43), (23, x41), (22, x39), (21, x37), (20, x36), (19, x36), (18, x35), (17, x34), (16, x33), (15, x6), (7, x6), (14, x6), (13, x5), (12, x3), (11, v1), (10, x2), (6, (.pointer none)), (3, x0)] []) G52) (
  J0 (xq q 52 (nth undef [v0, v1, v2]) [(27, x49), (26, x47), (25, x45), (24, x43), (23, x41), (22, x39), (21, x37), (20, x36), (19, x36), (18, x35), (17, x34), (16, x33), (15, x6), (7, x6), (14, x6), (13, x5), (12, x3), (11, v1), (10, x2), (6, (.pointer none)), (3, x0)] []) G48)
/-- coxswain/mail.NewSend -/
noncomputable def s34 (q : Bool) (e : Ex) (v0 v1 v2 : Value) (G : GS) : Option (Value × GS) := sb34 q e (j34_0 q e) v0 v1 v2 G
theorem m34 {e : Ex} {E : Ev} (h : ExLe Q e E) (v0 v1 v2 : Value) (G : GS) : Ref (s34 true e v0 v1 v2 G) (s34 false (Ex.of E) v0 v1 v2 G) := by
  unfold s34 sb34
  repeat' (with_reducible first | exact Ref.rfl' _ | exact ROp.r | refine Ref.bP ?_ fun _ => ?_ | refine Ref.bS ?_ fun _ _ => ?_ | exact Ref.cl (by assumption) | refine Ref.ifV ?_ ?_ | refine LpLe.rx (by assumption) ?_ | refine Ref.xitq ?_ | exact UOk.z | refine UOk.c (by assumption) ?_ | exact Ref.nil _ | refine Ref.bVe fun _ _ => ?_ | refine Ref.bLq (by assumption) ?_ fun _ _ _ => ?_ | refine Ref.ifE ?_ ?_ | refine Ref.chk ?_ ?_ | refine Imp.and ?_ ?_ | refine Imp.or ?_ | exact Imp.rfl' _ | refine Imp.sameO ?_ | refine Ref.gd ?_ | exact Ref.cValue (by assumption) | refine Ref.bX ?_ fun _ _ _ => ?_ | exact Ref.scQ (by assumption) | exact Ref.xRangeQ (by assumption) | exact Ref.cInvoke (by assumption) | refine mkj34_0 (by assumption) ?_)
noncomputable def jt34 (J0 : Env → GS → Option (Value × GS)) : JT (Value × GS) :=
  (.n none .e (.n none .e (.n (some (fun T G => J0 (nth undef T) G)) .e .e)))
theorem jr34_0 (orc : FuncId → Bool) (J0 : Env → GS → Option (Value × GS)) (T : List Value) (G : GS) : runC Q (evL Q orc) Try.f34.ntmps (jt34 J0) (bodyOf Try.f34) (retE Q Try.f34.results.toList) [true, true] (nth undef T) G = jb34_0 false (Ex.of (E orc))  (nth undef T) G := by kernel_rfl
theorem jo34 (orc : FuncId → Bool) : JOk Q orc Try.f34.ntmps (jt34 (j34_0 false (Ex.of (E orc))) ) (bodyOf Try.f34) (retE Q Try.f34.results.toList) :=
  jOk Q orc (l := [([true, true], (fun T G => j34_0 false (Ex.of (E orc)) (nth undef T) G))]) (by kernel_rfl) (AllE.c (fun T G => jr34_0 orc (j34_0 false (Ex.of (E orc))) T G) (AllE.z))
theorem je34 (orc : FuncId → Bool) (J0 : Env → GS → Option (Value × GS)) (v0 v1 v2 : Value) (G : GS) : sxC Q (evL Q orc) Try.f34.ntmps (jt34 J0) (bodyOf Try.f34) (nth undef [v0, v1, v2]) G (retE Q Try.f34.results.toList) = sb34 false (Ex.of (E orc)) J0 v0 v1 v2 G := by kernel_rfl
theorem f34 {orc : FuncId → Bool} {e : Ex} (h : ExLe Q e (E orc)) (v0 v1 v2 : Value) (G : GS) : Ref (s34 true e v0 v1 v2 G) ((E orc).cl 34 [v0, v1, v2] G) :=
  fun r hr => cl_sxC Q orc (vs := [v0, v1, v2]) G (jt34 (j34_0 false (Ex.of (E orc))) ) Try.func34 (by kernel_rfl) (by kernel_rfl) (by kernel_rfl) (by kernel_rfl) (by kernel_rfl) (jo34 orc) (je34 orc (j34_0 false (Ex.of (E orc))) v0 v1 v2 G) (m34 h v0 v1 v2 G r hr)
noncomputable def jb35_0 (q : Bool) (e : Ex) (τ : Env) (G : GS) : Option (Value × GS) :=
  bV q (τ 1) fun a1_ =>
  bV q (τ 3) fun a3_ =>
  bV q (τ 7) fun a7_ =>
  bP (lda Q q 55 3 a3_ G) fun x8 =>
  bS (e.ev.cl 30 [x8, a1_] G) fun x9 G10 =>
  bP (pExtract x9 0) fun x11 =>
  bP (pExtract x9 1) fun x12 =>
  bS (al Q q 91 z91 G10) fun x13 G14 =>
  bP (st Q q 91 4 x13 x11 G14) fun G15 =>
  bS (gd x12 true (some (a7_, G15)) G15) fun x16 G17 =>
  bS (gd x12 true (bP (pNil x16) fun y => some (y, G17)) G17) fun x18 G19 =>
  bS (gd x12 true (bP (fa Q q 151 6 9 x18) fun y => some (y, G19)) G19) fun x20 G21 =>
  bS (gd x12 true (bP (ld Q q 41 x20 G21) fun y => some (y, G21)) G21) fun x22 G23 =>
  bS (gd x12 true (bP (bn Q q .eql 41 (.tmp 39) (.const (.int .i64 0)) x22 (.int .i64 0)) fun y => some (y, G23)) G23) fun x24 G25 =>
  bP (pickV x12 x24 (.bool false)) fun x26 =>
  ifV x26 (
  bP (lda Q q 91 4 x13 (G25.room 12)) fun x27 =>
  bP (lda Q q 91 4 x13 (G25.room 12)) fun x28 =>
  bS (e.ev.cl 69 [x28] (G25.room 12)) fun x30 G29 =>
  chk ((sameO (lda Q q 91 4 x13 G29) x27 && true)) <|
  bP (ifc Q q 152 x30) fun x31 =>
  bP (pNil a7_) fun x32 =>
  bP (fa Q q 151 1 1 x32) fun x33 =>
  bP (st Q q 91 4 x33 x27 G29) fun G34 =>
  bP (pNil a7_) fun x35 =>
  bP (fa Q q 151 3 6 x35) fun x36 =>
  bP (st Q q 149 1 x36 x31 G34) fun G37 =>
  some (a7_, G37)) (
  some (a7_, G25))
noncomputable def j35_0 (q : Bool) (e : Ex) (τ : Env) (G : GS) : Option (Value × GS) := jb35_0 q e τ G
theorem mj35_0 {e : Ex} {E : Ev} (h : ExLe Q e E) (τ : Env) (G : GS) : Ref (j35_0 true e τ G) (j35_0 false (Ex.of E) τ G) := by
  unfold j35_0 jb35_0
  exact Ref.gq
theorem mkj35_0 {e : Ex} {E : Ev} (h : ExLe Q e E) {τ : Env} {l U : List (Nat × Value)} {G : GS} (hU : UOk τ U) : Ref (j35_0 true e (xq true 53 τ l U) G) (j35_0 false (Ex.of E) (xq false 53 τ l U) G) := by
  rw [xq_eq hU]
  exact mj35_0 h _ _
noncomputable def sb35 (q : Bool) (e : Ex) (J0 : Env → GS → Option (Value × GS)) (v0 v1 v2 : Value) (G : GS) : Option (Value × GS) :=
  bS (bx q v0 G) fun x0 G1 =>
  bP (lda Q q 55 3 x0 G1) fun x2 =>
  bS (e.ev.cl 67 [x2, v1] G1) fun x3 G4 =>
  bP (bd Q q 151 z151 [(0, 0, 1), (2, 5, 1), (6, 9, 1)] [(.bool true), v2, x3]) fun x5 =>
  bS (bx q x5 G4) fun x6 G7 =>
  bP (pNil x6) fun x38 =>
  bP (fa Q q 151 6 9 x38) fun x39 =>
  bP (ld Q q 41 x39 G7) fun x40 =>
  bP (bn Q q .eql 41 (.tmp 19) (.const (.int .i64 0)) x40 (.int .i64 0)) fun x41 =>
  bS (gd x41 true (some (v2, G7)) G7) fun x42 G43 =>
  bS (gd x41 true (bP (bn Q q .lss 3 (.tmp 22) (.const (.int .i64 1)) x42 (.int .i64 1)) fun y => some (y, G43)) G43) fun x44 G45 =>
  bP (pickV x41 x44 (.bool false)) fun x46 =>
  ifV x46 (
  bP (pNil x6) fun x47 =>
  bP (fa Q q 151 6 9 x47) fun x48 =>
  bP (st Q q 41 1 x48 (.int .i64 3) G45) fun G49 =>
  J0 (xq q 53 (nth undef [v0, v1, v2]) [(27, x48), (26, x47), (25, x6), (24, x46), (23, x44), (22, x42), (21, x41), (20, x41), (19, x40), (18, x39), (17, x38), (16, x6), (7, x6), (15, x6), (14, x5), (13, x3), (12, v1), (11, x2), (10, v2), (6, (.pointer none)), (3, x0)] []) G49) (
  J0 (xq q 53 (nth undef [v0, v1, v2]) [(24, x46), (23, x44), (22, x42), (21, x41), (20, x41), (19, x40), (18, x39), (17, x38), (16, x6), (7, x6), (15, x6), (14, x5), (13, x3), (12, v1), (11, x2), (10, v2), (6, (.pointer none)), (3, x0)] []) G45)
/-- coxswain/mail.NewDrain -/
noncomputable def s35 (q : Bool) (e : Ex) (v0 v1 v2 : Value) (G : GS) : Option (Value × GS) := sb35 q e (j35_0 q e) v0 v1 v2 G
theorem m35 {e : Ex} {E : Ev} (h : ExLe Q e E) (v0 v1 v2 : Value) (G : GS) : Ref (s35 true e v0 v1 v2 G) (s35 false (Ex.of E) v0 v1 v2 G) := by
  unfold s35 sb35
  repeat' (with_reducible first | exact Ref.rfl' _ | exact ROp.r | refine Ref.bP ?_ fun _ => ?_ | refine Ref.bS ?_ fun _ _ => ?_ | exact Ref.cl (by assumption) | refine Ref.ifV ?_ ?_ | refine LpLe.rx (by assumption) ?_ | refine Ref.xitq ?_ | exact UOk.z | refine UOk.c (by assumption) ?_ | exact Ref.nil _ | refine Ref.bVe fun _ _ => ?_ | refine Ref.bLq (by assumption) ?_ fun _ _ _ => ?_ | refine Ref.ifE ?_ ?_ | refine Ref.chk ?_ ?_ | refine Imp.and ?_ ?_ | refine Imp.or ?_ | exact Imp.rfl' _ | refine Imp.sameO ?_ | refine Ref.gd ?_ | exact Ref.cValue (by assumption) | refine Ref.bX ?_ fun _ _ _ => ?_ | exact Ref.scQ (by assumption) | exact Ref.xRangeQ (by assumption) | exact Ref.cInvoke (by assumption) | refine mkj35_0 (by assumption) ?_)
noncomputable def jt35 (J0 : Env → GS → Option (Value × GS)) : JT (Value × GS) :=
  (.n none .e (.n none .e (.n (some (fun T G => J0 (nth undef T) G)) .e .e)))
theorem jr35_0 (orc : FuncId → Bool) (J0 : Env → GS → Option (Value × GS)) (T : List Value) (G : GS) : runC Q (evL Q orc) Try.f35.ntmps (jt35 J0) (bodyOf Try.f35) (retE Q Try.f35.results.toList) [true, true] (nth undef T) G = jb35_0 false (Ex.of (E orc))  (nth undef T) G := by kernel_rfl
theorem jo35 (orc : FuncId → Bool) : JOk Q orc Try.f35.ntmps (jt35 (j35_0 false (Ex.of (E orc))) ) (bodyOf Try.f35) (retE Q Try.f35.results.toList) :=
  jOk Q orc (l := [([true, true], (fun T G => j35_0 false (Ex.of (E orc)) (nth undef T) G))]) (by kernel_rfl) (AllE.c (fun T G => jr35_0 orc (j35_0 false (Ex.of (E orc))) T G) (AllE.z))
theorem je35 (orc : FuncId → Bool) (J0 : Env → GS → Option (Value × GS)) (v0 v1 v2 : Value) (G : GS) : sxC Q (evL Q orc) Try.f35.ntmps (jt35 J0) (bodyOf Try.f35) (nth undef [v0, v1, v2]) G (retE Q Try.f35.results.toList) = sb35 false (Ex.of (E orc)) J0 v0 v1 v2 G := by kernel_rfl
theorem f35 {orc : FuncId → Bool} {e : Ex} (h : ExLe Q e (E orc)) (v0 v1 v2 : Value) (G : GS) : Ref (s35 true e v0 v1 v2 G) ((E orc).cl 35 [v0, v1, v2] G) :=
  fun r hr => cl_sxC Q orc (vs := [v0, v1, v2]) G (jt35 (j35_0 false (Ex.of (E orc))) ) Try.func35 (by kernel_rfl) (by kernel_rfl) (by kernel_rfl) (by kernel_rfl) (by kernel_rfl) (jo35 orc) (je35 orc (j35_0 false (Ex.of (E orc))) v0 v1 v2 G) (m35 h v0 v1 v2 G r hr)
/-- (*coxswain/mail.Drain).Values -/
noncomputable def s36 (q : Bool) (e : Ex) (v0 : Value) (G : GS) : Option (Value × GS) :=
  bP (ep Q q false 62 (.tmp 5) (.const (.pointer none)) v0 (.pointer none)) fun x0 =>
  bS (gd x0 false (some (v0, G)) G) fun x1 G2 =>
  bS (gd x0 false (bP (pNil x1) fun y => some (y, G2)) G2) fun x3 G4 =>
  bS (gd x0 false (bP (fa Q q 151 0 0 x3) fun y => some (y, G4)) G4) fun x5 G6 =>
  bS (gd x0 false (bP (ld Q q 4 x5 G6) fun y => some (y, G6)) G6) fun x7 G8 =>
  bS (gd x0 false (bP (un Q q .not x7) fun y => some (y, G8)) G8) fun x9 G10 =>
  bP (pickV x0 (.bool true) x9) fun x11 =>
  ifV x11 (
  some (.tuple #[(.slice none 0 0), (.int .i64 1)], G10)) (
  bP (pNil v0) fun x12 =>
  bP (fa Q q 151 3 6 x12) fun x13 =>
  bP (ld Q q 149 x13 G10) fun x14 =>
  bP (bn Q q .neq 149 (.tmp 18) (.const .nilIface) x14 .nilIface) fun x15 =>
  ifV x15 (
  some (.tuple #[(.slice none 0 0), (.int .i64 14)], G10)) (
  bP (pNil v0) fun x16 =>
  bP (fa Q q 151 6 9 x16) fun x17 =>
  bP (ld Q q 41 x17 G10) fun x18 =>
  bP (bn Q q .neq 41 (.tmp 24) (.const (.int .i64 0)) x18 (.int .i64 0)) fun x19 =>
  ifV x19 (
  bP (pNil v0) fun x20 =>
  bP (fa Q q 151 6 9 x20) fun x21 =>
  bP (ld Q q 41 x21 (G10.room 6)) fun x22 =>
  some (.tuple #[(.slice none 0 0), x22], (G10.room 6))) (
  bP (pNil v0) fun x23 =>
  bP (fa Q q 151 4 7 x23) fun x24 =>
  bP (ld Q q 22 x24 G10) fun x25 =>
  bS (e.ev.cl 70 [x25] G10) fun x26 G27 =>
  some (.tuple #[x26, (.int .i64 0)], G27))))
theorem m36 {e : Ex} {E : Ev} (h : ExLe Q e E) (v0 : Value) (G : GS) : Ref (s36 true e v0 G) (s36 false (Ex.of E) v0 G) := by
  unfold s36
  exact Ref.gq
theorem f36 {orc : FuncId → Bool} {e : Ex} (h : ExLe Q e (E orc)) (v0 : Value) (G : GS) : Ref (s36 true e v0 G) ((E orc).cl 36 [v0] G) :=
  fun r hr => cl_sxE_some Q orc (vs := [v0]) G Try.func36 (by kernel_rfl) (by kernel_rfl) (by kernel_rfl) (by kernel_rfl) (by kernel_rfl) (by kernel_rfl) (m36 h v0 G r hr)
/-- (*coxswain/mail.Send).Err -/
noncomputable def s37 (q : Bool) (e : Ex) (v0 : Value) (G : GS) : Option (Value × GS) :=
  bP (ep Q q false 53 (.tmp 4) (.const (.pointer none)) v0 (.pointer none)) fun x0 =>
  bS (gd x0 false (some (v0, G)) G) fun x1 G2 =>
  bS (gd x0 false (bP (pNil x1) fun y => some (y, G2)) G2) fun x3 G4 =>
  bS (gd x0 false (bP (fa Q q 146 0 0 x3) fun y => some (y, G4)) G4) fun x5 G6 =>
  bS (gd x0 false (bP (ld Q q 4 x5 G6) fun y => some (y, G6)) G6) fun x7 G8 =>
  bS (gd x0 false (bP (un Q q .not x7) fun y => some (y, G8)) G8) fun x9 G10 =>
  bP (pickV x0 (.bool true) x9) fun x11 =>
  ifV x11 (
  some ((.int .i64 1), G10)) (
  bP (pNil v0) fun x12 =>
  bP (fa Q q 146 1 1 x12) fun x13 =>
  bP (ld Q q 144 x13 G10) fun x14 =>
  bP (ep Q q true 144 (.tmp 17) (.const (.pointer none)) x14 (.pointer none)) fun x15 =>
  ifV x15 (
  some ((.int .i64 14), G10)) (
  bP (pNil v0) fun x16 =>
  bP (fa Q q 146 2 2 x16) fun x17 =>
  bP (ld Q q 41 x17 G10) fun x18 =>
  some (x18, G10)))
theorem m37 {e : Ex} {E : Ev} (h : ExLe Q e E) (v0 : Value) (G : GS) : Ref (s37 true e v0 G) (s37 false (Ex.of E) v0 G) := by
  unfold s37
  exact Ref.gq
theorem f37 {orc : FuncId → Bool} {e : Ex} (h : ExLe Q e (E orc)) (v0 : Value) (G : GS) : Ref (s37 true e v0 G) ((E orc).cl 37 [v0] G) :=
  fun r hr => cl_sxE_some Q orc (vs := [v0]) G Try.func37 (by kernel_rfl) (by kernel_rfl) (by kernel_rfl) (by kernel_rfl) (by kernel_rfl) (by kernel_rfl) (m37 h v0 G r hr)
/-- coxswain/coxswainlaw25.filled -/
noncomputable def s40 (q : Bool) (e : Ex) (v0 v1 : Value) (G : GS) : Option (Value × GS) :=
  bS (bx q v0 G) fun x0 G1 =>
  bS (e.ev.cl 22 [v1] G1) fun x2 G3 =>
  bP (pExtract x2 0) fun x4 =>
  bP (pExtract x2 1) fun x5 =>
  bP (bn Q q .neq 41 (.tmp 12) (.const (.int .i64 0)) x5 (.int .i64 0)) fun x6 =>
  bS (gd x6 false (some (x4, G3)) G3) fun x7 G8 =>
  bS (gd x6 false (bP (ep Q q false 34 (.tmp 15) (.const (.pointer none)) x7 (.pointer none)) fun y => some (y, G8)) G8) fun x9 G10 =>
  bP (pickV x6 (.bool true) x9) fun x11 =>
  ifV x11 (
  some ((.pointer none), G10)) (
  bP (lda Q q 55 3 x0 G10) fun x12 =>
  bS (e.ev.cl 71 [x12, x4] G10) fun x13 G14 =>
  some (x4, G14))
theorem m40 {e : Ex} {E : Ev} (h : ExLe Q e E) (v0 v1 : Value) (G : GS) : Ref (s40 true e v0 v1 G) (s40 false (Ex.of E) v0 v1 G) := by
  unfold s40
  exact Ref.gq
theorem f40 {orc : FuncId → Bool} {e : Ex} (h : ExLe Q e (E orc)) (v0 v1 : Value) (G : GS) : Ref (s40 true e v0 v1 G) ((E orc).cl 40 [v0, v1] G) :=
  fun r hr => cl_sxE_some Q orc (vs := [v0, v1]) G Try.func40 (by kernel_rfl) (by kernel_rfl) (by kernel_rfl) (by kernel_rfl) (by kernel_rfl) (by kernel_rfl) (m40 h v0 v1 G r hr)
noncomputable def jb41_0 (q : Bool) (e : Ex) (τ : Env) (G : GS) : Option (Value × GS) :=
  bV q (τ 0) fun a0_ =>
  bV q (τ 1) fun a1_ =>
  bV q (τ 7) fun a7_ =>
  bV q (τ 8) fun a8_ =>
  bP (un Q q .not a7_) fun x63 =>
  ifV x63 (
  some ((.bool true), G)) (
  bP (pNil a0_) fun x64 =>
  bP (fa Q q 61 2 4 x64) fun x65 =>
  bP (ld Q q 56 x65 G) fun x66 =>
  bP (ias Q q 56 1 x66 a1_) fun x67 =>
  bP (ld Q q 53 x67 G) fun x68 =>
  bS (e.ev.cl 37 [x68] G) fun x69 G70 =>
  bP (pNil a0_) fun x71 =>
  bP (fa Q q 61 2 4 x71) fun x72 =>
  bP (ld Q q 56 x72 G70) fun x73 =>
  bP (ias Q q 56 1 x73 a1_) fun x74 =>
  bP (st Q q 53 1 x74 (.pointer none) G70) fun G75 =>
  bP (pNil a0_) fun x76 =>
  bP (fa Q q 61 6 8 x76) fun x77 =>
  bP (ld Q q 58 x77 (G75.room 16)) fun x78 =>
  bP (ias Q q 58 1 x78 a8_) fun x79 =>
  bP (ld Q q 22 x79 (G75.room 16)) fun x80 =>
  bP (pNil a0_) fun x81 =>
  bP (fa Q q 61 4 6 x81) fun x82 =>
  bP (ld Q q 22 x82 (G75.room 16)) fun x83 =>
  bP (ias Q q 22 1 x83 a1_) fun x84 =>
  bP (ld Q q 3 x84 (G75.room 16)) fun x85 =>
  bS (e.ev.cl 74 [x80, x85] (G75.room 16)) fun x87 G86 =>
  bP (bn Q q .eql 41 (.tmp 144) (.const (.int .i64 0)) x69 (.int .i64 0)) fun x88 =>
  bS (gd x88 true (some (x87, G86)) G86) fun x89 G90 =>
  bP (pickV x88 x89 (.bool false)) fun x91 =>
  bS (gd x91 false (some (x69, G90)) G90) fun x92 G93 =>
  bS (gd x91 false (bP (bn Q q .eql 41 (.tmp 150) (.const (.int .i64 7)) x92 (.int .i64 7)) fun y => some (y, G93)) G93) fun x94 G95 =>
  bS (gd x91 false (some (x94, G95)) G95) fun x96 G97 =>
  bS (gd x96 true (some (x87, G97)) G97) fun x98 G99 =>
  bS (gd x96 true (bP (un Q q .not x98) fun y => some (y, G99)) G99) fun x100 G101 =>
  bS (gd x91 false (bP (pickV x96 x100 (.bool false)) fun y => some (y, G101)) G101) fun x102 G103 =>
  bP (pickV x91 (.bool true) x102) fun x104 =>
  some (x104, G103))
noncomputable def j41_0 (q : Bool) (e : Ex) (τ : Env) (G : GS) : Option (Value × GS) := jb41_0 q e τ G
theorem mj41_0 {e : Ex} {E : Ev} (h : ExLe Q e E) (τ : Env) (G : GS) : Ref (j41_0 true e τ G) (j41_0 false (Ex.of E) τ G) := by
  unfold j41_0 jb41_0
  exact Ref.gq
theorem mkj41_0 {e : Ex} {E : Ev} (h : ExLe Q e E) {τ : Env} {l U : List (Nat × Value)} {G : GS} (hU : UOk τ U) : Ref (j41_0 true e (xq true 157 τ l U) G) (j41_0 false (Ex.of E) (xq false 157 τ l U) G) := by
  rw [xq_eq hU]
  exact mj41_0 h _ _
noncomputable def sb41 (q : Bool) (e : Ex) (J0 : Env → GS → Option (Value × GS)) (v0 v1 v2 : Value) (G : GS) : Option (Value × GS) :=
  bP (pNil v0) fun x0 =>
  bP (fa Q q 61 2 4 x0) fun x1 =>
  bP (ld Q q 56 x1 G) fun x2 =>
  bP (ias Q q 56 1 x2 v1) fun x3 =>
  bP (ld Q q 53 x3 G) fun x4 =>
  bP (ep Q q false 53 (.tmp 17) (.const (.pointer none)) x4 (.pointer none)) fun x5 =>
  ifV x5 (
  bP (pNil v0) fun x6 =>
  bP (fa Q q 61 3 5 x6) fun x7 =>
  bP (ld Q q 22 x7 (G.room 20)) fun x8 =>
  bP (pNil v0) fun x9 =>
  bP (fa Q q 61 4 6 x9) fun x10 =>
  bP (ld Q q 22 x10 (G.room 20)) fun x11 =>
  bS (e.ev.cl 7 [v2, (.int .i64 2)] (G.room 20)) fun x13 G12 =>
  chk ((sameO (ld Q q 22 x10 G12) x11 && (sameO (ld Q q 22 x7 G12) x8 && true))) <|
  bP (pNil v0) fun x14 =>
  bP (fa Q q 61 10 12 x14) fun x15 =>
  bP (ld Q q 3 x15 G12) fun x16 =>
  chk ((sameO (ld Q q 3 x15 (G.room 20)) x16 && true)) <|
  bP (ias Q q 22 1 x8 v1) fun x17 =>
  bP (st Q q 3 1 x17 x13 G12) fun G18 =>
  bP (ias Q q 22 1 x11 v1) fun x19 =>
  bP (st Q q 3 1 x19 x16 G18) fun G20 =>
  bP (pNil v0) fun x21 =>
  bP (fa Q q 61 10 12 x21) fun x22 =>
  bP (ld Q q 3 x22 G20) fun x23 =>
  bP (bn Q q .add 3 (.tmp 40) (.const (.int .i64 1)) x23 (.int .i64 1)) fun x24 =>
  bP (pNil v0) fun x25 =>
  bP (fa Q q 61 10 12 x25) fun x26 =>
  bP (st Q q 3 1 x26 x24 G20) fun G27 =>
  bP (pNil v0) fun x28 =>
  bP (fa Q q 61 2 4 x28) fun x29 =>
  bP (ld Q q 56 x29 (G27.room 26)) fun x30 =>
  bP (pNil v0) fun x31 =>
  bP (fa Q q 61 0 0 x31) fun x32 =>
  bP (lda Q q 55 3 x32 (G27.room 26)) fun x33 =>
  bP (pNil v0) fun x34 =>
  bP (fa Q q 61 3 5 x34) fun x35 =>
  bP (ld Q q 22 x35 (G27.room 26)) fun x36 =>
  bP (ias Q q 22 1 x36 v1) fun x37 =>
  bP (ld Q q 3 x37 (G27.room 26)) fun x38 =>
  bP (pNil v0) fun x39 =>
  bP (fa Q q 61 4 6 x39) fun x40 =>
  bP (ld Q q 22 x40 (G27.room 26)) fun x41 =>
  bP (ias Q q 22 1 x41 v1) fun x42 =>
  bP (ld Q q 3 x42 (G27.room 26)) fun x43 =>
  bS (e.ev.cl 34 [x33, x38, x43] (G27.room 26)) fun x45 G44 =>
  chk ((sameO (ld Q q 56 x29 G44) x30 && true)) <|
  bP (ias Q q 56 1 x30 v1) fun x46 =>
  bP (st Q q 53 1 x46 x45 G44) fun G47 =>
  some ((.bool true), G47)) (
  bP (pNil v0) fun x48 =>
  bP (fa Q q 61 2 4 x48) fun x49 =>
  bP (ld Q q 56 x49 (G.room 13)) fun x50 =>
  bP (ias Q q 56 1 x50 v1) fun x51 =>
  bP (ld Q q 53 x51 (G.room 13)) fun x52 =>
  bP (pNil v0) fun x53 =>
  bP (fa Q q 61 1 3 x53) fun x54 =>
  bP (ld Q q 34 x54 (G.room 13)) fun x55 =>
  bS (e.ev.cl 72 [x52, x55] (G.room 13)) fun x57 G56 =>
  bP (pNil v0) fun x58 =>
  bP (fa Q q 61 3 5 x58) fun x59 =>
  bP (ld Q q 22 x59 G56) fun x60 =>
  bP (ias Q q 22 1 x60 v1) fun x61 =>
  bP (ld Q q 3 x61 G56) fun x62 =>
  bS (e.ev.cl 73 [v0, x62] G56) fun x105 G106 =>
  ifV x105 (
  bP (pNil v0) fun x107 =>
  bP (fa Q q 61 6 8 x107) fun x108 =>
  bP (ld Q q 58 x108 (G106.room 23)) fun x109 =>
  bP (pNil v0) fun x110 =>
  bP (fa Q q 61 6 8 x110) fun x111 =>
  bP (ld Q q 58 x111 (G106.room 23)) fun x112 =>
  bP (ias Q q 58 1 x112 x62) fun x113 =>
  bP (ld Q q 22 x113 (G106.room 23)) fun x114 =>
  bP (pNil v0) fun x115 =>
  bP (fa Q q 61 4 6 x115) fun x116 =>
  bP (ld Q q 22 x116 (G106.room 23)) fun x117 =>
  bP (ias Q q 22 1 x117 v1) fun x118 =>
  bP (ld Q q 3 x118 (G106.room 23)) fun x119 =>
  bS (bs Q q 22 1 (rep z3 1) 1 [(0, 0, 1)] [x119] ((G106.room 23).at' (G106.nx + 19))) fun x120 G121 =>
  bS (ap Q q 22 22 1 8 x114 x120 (G121.back (G106.room 23))) fun x123 G122 =>
  chk ((sameO (ld Q q 58 x108 G122) x109 && true)) <|
  bP (ias Q q 58 1 x109 x62) fun x124 =>
  bP (st Q q 22 1 x124 x123 G122) fun G125 =>
  J0 (xq q 157 (nth undef [v0, v1, v2]) [(112, x124), (111, x123), (110, x120), (109, x119), (108, x118), (107, v1), (106, x117), (105, x116), (104, x115), (103, v0), (102, x114), (101, x113), (100, x62), (99, x112), (98, x111), (97, x110), (96, v0), (95, x62), (94, x109), (93, x108), (92, x107), (91, v0), (90, x105), (89, x62), (88, v0), (8, x62), (87, x62), (86, x61), (85, v1), (84, x60), (83, x59), (82, x58), (81, v0), (7, x57), (80, x57), (79, x55), (78, x54), (77, x53), (76, v0), (75, x52), (74, x51), (73, v1), (72, x50), (71, x49), (70, x48), (69, v0), (18, x5), (17, x4), (16, x3), (15, v1), (14, x2), (13, x1), (12, x0), (11, v0), (6, (.bool false))] []) G125) (
  J0 (xq q 157 (nth undef [v0, v1, v2]) [(90, x105), (89, x62), (88, v0), (8, x62), (87, x62), (86, x61), (85, v1), (84, x60), (83, x59), (82, x58), (81, v0), (7, x57), (80, x57), (79, x55), (78, x54), (77, x53), (76, v0), (75, x52), (74, x51), (73, v1), (72, x50), (71, x49), (70, x48), (69, v0), (18, x5), (17, x4), (16, x3), (15, v1), (14, x2), (13, x1), (12, x0), (11, v0), (6, (.bool false))] []) G106))
/-- (*coxswain/coxswainlaw25.crew).sender -/
noncomputable def s41 (q : Bool) (e : Ex) (v0 v1 v2 : Value) (G : GS) : Option (Value × GS) := sb41 q e (j41_0 q e) v0 v1 v2 G
theorem m41 {e : Ex} {E : Ev} (h : ExLe Q e E) (v0 v1 v2 : Value) (G : GS) : Ref (s41 true e v0 v1 v2 G) (s41 false (Ex.of E) v0 v1 v2 G) := by
  unfold s41 sb41
  repeat' (with_reducible first | exact Ref.rfl' _ | exact ROp.r | refine Ref.bP ?_ fun _ => ?_ | refine Ref.bS ?_ fun _ _ => ?_ | exact Ref.cl (by assumption) | refine Ref.ifV ?_ ?_ | refine LpLe.rx (by assumption) ?_ | refine Ref.xitq ?_ | exact UOk.z | refine UOk.c (by assumption) ?_ | exact Ref.nil _ | refine Ref.bVe fun _ _ => ?_ | refine Ref.bLq (by assumption) ?_ fun _ _ _ => ?_ | refine Ref.ifE ?_ ?_ | refine Ref.chk ?_ ?_ | refine Imp.and ?_ ?_ | refine Imp.or ?_ | exact Imp.rfl' _ | refine Imp.sameO ?_ | refine Ref.gd ?_ | exact Ref.cValue (by assumption) | refine Ref.bX ?_ fun _ _ _ => ?_ | exact Ref.scQ (by assumption) | exact Ref.xRangeQ (by assumption) | exact Ref.cInvoke (by assumption) | refine mkj41_0 (by assumption) ?_)
noncomputable def jt41 (J0 : Env → GS → Option (Value × GS)) : JT (Value × GS) :=
  (.n none .e (.n none .e (.n none .e (.n none .e (.n (some (fun T G => J0 (nth undef T) G)) .e .e)))))
set_option maxHeartbeats 8000000 in
theorem jr41_0 (orc : FuncId → Bool) (J0 : Env → GS → Option (Value × GS)) (T : List Value) (G : GS) : runC Q (evL Q orc) Try.f41.ntmps (jt41 J0) (bodyOf Try.f41) (retE Q Try.f41.results.toList) [true, true, true, true] (nth undef T) G = jb41_0 false (Ex.of (E orc))  (nth undef T) G := by kernel_rfl
set_option maxHeartbeats 8000000 in
theorem jo41 (orc : FuncId → Bool) : JOk Q orc Try.f41.ntmps (jt41 (j41_0 false (Ex.of (E orc))) ) (bodyOf Try.f41) (retE Q Try.f41.results.toList) :=
  jOk Q orc (l := [([true, true, true, true], (fun T G => j41_0 false (Ex.of (E orc)) (nth undef T) G))]) (by kernel_rfl) (AllE.c (fun T G => jr41_0 orc (j41_0 false (Ex.of (E orc))) T G) (AllE.z))
set_option maxHeartbeats 8000000 in
theorem je41 (orc : FuncId → Bool) (J0 : Env → GS → Option (Value × GS)) (v0 v1 v2 : Value) (G : GS) : sxC Q (evL Q orc) Try.f41.ntmps (jt41 J0) (bodyOf Try.f41) (nth undef [v0, v1, v2]) G (retE Q Try.f41.results.toList) = sb41 false (Ex.of (E orc)) J0 v0 v1 v2 G := by kernel_rfl
set_option maxHeartbeats 8000000 in
theorem f41 {orc : FuncId → Bool} {e : Ex} (h : ExLe Q e (E orc)) (v0 v1 v2 : Value) (G : GS) : Ref (s41 true e v0 v1 v2 G) ((E orc).cl 41 [v0, v1, v2] G) :=
  fun r hr => cl_sxC Q orc (vs := [v0, v1, v2]) G (jt41 (j41_0 false (Ex.of (E orc))) ) Try.func41 (by kernel_rfl) (by kernel_rfl) (by kernel_rfl) (by kernel_rfl) (by kernel_rfl) (jo41 orc) (je41 orc (j41_0 false (Ex.of (E orc))) v0 v1 v2 G) (m41 h v0 v1 v2 G r hr)
/-- (*coxswain/coxswainlaw25.crew).core -/
noncomputable def s42 (q : Bool) (e : Ex) (v0 v1 v2 : Value) (G : GS) : Option (Value × GS) :=
  bP (pNil v0) fun x0 =>
  bP (fa Q q 61 5 7 x0) fun x1 =>
  bP (ld Q q 57 x1 G) fun x2 =>
  bP (ias Q q 57 1 x2 v1) fun x3 =>
  bP (ld Q q 62 x3 G) fun x4 =>
  bP (ep Q q false 62 (.tmp 17) (.const (.pointer none)) x4 (.pointer none)) fun x5 =>
  ifV x5 (
  bP (pNil v0) fun x6 =>
  bP (fa Q q 61 5 7 x6) fun x7 =>
  bP (ld Q q 57 x7 (G.room 16)) fun x8 =>
  bP (pNil v0) fun x9 =>
  bP (fa Q q 61 0 0 x9) fun x10 =>
  bP (lda Q q 55 3 x10 (G.room 16)) fun x11 =>
  bS (e.ev.cl 7 [v2, (.int .i64 4)] (G.room 16)) fun x13 G12 =>
  chk ((sameO (lda Q q 55 3 x10 G12) x11 && (sameO (ld Q q 57 x7 G12) x8 && true))) <|
  bP (bn Q q .add 3 (.const (.int .i64 1)) (.tmp 30) (.int .i64 1) x13) fun x14 =>
  bS (e.ev.cl 35 [x11, v1, x14] G12) fun x16 G15 =>
  chk ((sameO (ld Q q 57 x7 G15) x8 && true)) <|
  bP (ias Q q 57 1 x8 v1) fun x17 =>
  bP (st Q q 62 1 x17 x16 G15) fun G18 =>
  some ((.bool true), G18)) (
  bP (pNil v0) fun x19 =>
  bP (fa Q q 61 5 7 x19) fun x20 =>
  bP (ld Q q 57 x20 (G.room 13)) fun x21 =>
  bP (ias Q q 57 1 x21 v1) fun x22 =>
  bP (ld Q q 62 x22 (G.room 13)) fun x23 =>
  bP (pNil v0) fun x24 =>
  bP (fa Q q 61 1 3 x24) fun x25 =>
  bP (ld Q q 34 x25 (G.room 13)) fun x26 =>
  bS (e.ev.cl 66 [x23, x26] (G.room 13)) fun x28 G27 =>
  bS (e.ev.cl 75 [v0, v1] G27) fun x29 G30 =>
  bP (un Q q .not x28) fun x31 =>
  ifV x31 (
  some ((.bool true), G30)) (
  bP (pNil v0) fun x32 =>
  bP (fa Q q 61 5 7 x32) fun x33 =>
  bP (ld Q q 57 x33 G30) fun x34 =>
  bP (ias Q q 57 1 x34 v1) fun x35 =>
  bP (ld Q q 62 x35 G30) fun x36 =>
  bS (e.ev.cl 36 [x36] G30) fun x37 G38 =>
  bP (pExtract x37 0) fun x39 =>
  bP (pExtract x37 1) fun x40 =>
  bP (pNil v0) fun x41 =>
  bP (fa Q q 61 5 7 x41) fun x42 =>
  bP (ld Q q 57 x42 G38) fun x43 =>
  bP (ias Q q 57 1 x43 v1) fun x44 =>
  bP (st Q q 62 1 x44 (.pointer none) G38) fun G45 =>
  bP (pNil v0) fun x46 =>
  bP (fa Q q 61 7 9 x46) fun x47 =>
  bP (ld Q q 22 x47 G45) fun x48 =>
  bP (ias Q q 22 1 x48 v1) fun x49 =>
  bP (ld Q q 3 x49 G45) fun x50 =>
  bP (bn Q q .neq 41 (.tmp 75) (.const (.int .i64 0)) x40 (.int .i64 0)) fun x51 =>
  bS (gd x51 false (some (x50, G45)) G45) fun x52 G53 =>
  bS (gd x51 false (some (x39, G53)) G53) fun x54 G55 =>
  bS (gd x51 false (bP (ln Q q 22 x54) fun y => some (y, G55)) G55) fun x56 G57 =>
  bS (gd x51 false (bP (bn Q q .add 3 (.tmp 78) (.tmp 80) x52 x56) fun y => some (y, G57)) G57) fun x58 G59 =>
  bS (gd x51 false (some (v0, G59)) G59) fun x60 G61 =>
  bS (gd x51 false (bP (pNil x60) fun y => some (y, G61)) G61) fun x62 G63 =>
  bS (gd x51 false (bP (fa Q q 61 6 8 x62) fun y => some (y, G63)) G63) fun x64 G65 =>
  bS (gd x51 false (bP (ld Q q 58 x64 G65) fun y => some (y, G65)) G65) fun x66 G67 =>
  bS (gd x51 false (some (v1, G67)) G67) fun x68 G69 =>
  bS (gd x51 false (bP (ias Q q 58 1 x66 x68) fun y => some (y, G69)) G69) fun x70 G71 =>
  bS (gd x51 false (bP (ld Q q 22 x70 G71) fun y => some (y, G71)) G71) fun x72 G73 =>
  bS (gd x51 false (bP (ln Q q 22 x72) fun y => some (y, G73)) G73) fun x74 G75 =>
  bS (gd x51 false (bP (bn Q q .gtr 3 (.tmp 81) (.tmp 89) x58 x74) fun y => some (y, G75)) G75) fun x76 G77 =>
  bP (pickV x51 (.bool true) x76) fun x78 =>
  bS (gd x78 false (some (x39, G77)) G77) fun x79 G80 =>
  bS (gd x78 false (some (v0, G80)) G80) fun x81 G82 =>
  bS (gd x78 false (bP (pNil x81) fun y => some (y, G82)) G82) fun x83 G84 =>
  bS (gd x78 false (bP (fa Q q 61 6 8 x83) fun y => some (y, G84)) G84) fun x85 G86 =>
  bS (gd x78 false (bP (ld Q q 58 x85 G86) fun y => some (y, G86)) G86) fun x87 G88 =>
  bS (gd x78 false (some (v1, G88)) G88) fun x89 G90 =>
  bS (gd x78 false (bP (ias Q q 58 1 x87 x89) fun y => some (y, G90)) G90) fun x91 G92 =>
  bS (gd x78 false (bP (ld Q q 22 x91 G92) fun y => some (y, G92)) G92) fun x93 G94 =>
  bS (gd x78 false (some (x50, G94)) G94) fun x95 G96 =>
  bS (gd x78 false (some (x50, G96)) G96) fun x97 G98 =>
  bS (gd x78 false (some (x39, G98)) G98) fun x99 G100 =>
  bS (gd x78 false (bP (ln Q q 22 x99) fun y => some (y, G100)) G100) fun x101 G102 =>
  bS (gd x78 false (bP (bn Q q .add 3 (.tmp 102) (.tmp 104) x97 x101) fun y => some (y, G102)) G102) fun x103 G104 =>
  bS (gd x78 false (bP (sl Q q 22 1 x93 (some x95) (some x103) none G104) fun y => some (y, G104)) G104) fun x105 G106 =>
  bS (gd x78 false (bS (e.ev.cl 14 [x79, x105] G106) fun y G => some (y, G)) G106) fun x107 G108 =>
  bS (gd x78 false (bP (un Q q .not x107) fun y => some (y, G108)) G108) fun x109 G110 =>
  bP (pickV x78 (.bool true) x109) fun x111 =>
  ifV x111 (
  some ((.bool false), G110)) (
  bP (pNil v0) fun x112 =>
  bP (fa Q q 61 7 9 x112) fun x113 =>
  bP (ld Q q 22 x113 G110) fun x114 =>
  bP (ln Q q 22 x39) fun x115 =>
  bP (bn Q q .add 3 (.tmp 115) (.tmp 117) x50 x115) fun x116 =>
  bP (ias Q q 22 1 x114 v1) fun x117 =>
  bP (st Q q 3 1 x117 x116 G110) fun G118 =>
  some ((.bool true), G118))))
theorem m42 {e : Ex} {E : Ev} (h : ExLe Q e E) (v0 v1 v2 : Value) (G : GS) : Ref (s42 true e v0 v1 v2 G) (s42 false (Ex.of E) v0 v1 v2 G) := by
  unfold s42
  exact Ref.gq
set_option maxHeartbeats 8000000 in
theorem f42 {orc : FuncId → Bool} {e : Ex} (h : ExLe Q e (E orc)) (v0 v1 v2 : Value) (G : GS) : Ref (s42 true e v0 v1 v2 G) ((E orc).cl 42 [v0, v1, v2] G) :=
  fun r hr => cl_sxE_some Q orc (vs := [v0, v1, v2]) G Try.func42 (by kernel_rfl) (by kernel_rfl) (by kernel_rfl) (by kernel_rfl) (by kernel_rfl) (by kernel_rfl) (m42 h v0 v1 v2 G r hr)
/-- (*coxswain/coxswainlaw25.crew).lies -/
noncomputable def s43 (q : Bool) (e : Ex) (v0 v1 : Value) (G : GS) : Option (Value × GS) :=
  bP (pNil v0) fun x0 =>
  bP (fa Q q 61 0 0 x0) fun x1 =>
  bP (lda Q q 55 3 x1 (G.room 11)) fun x2 =>
  bP (pNil v0) fun x3 =>
  bP (fa Q q 61 1 3 x3) fun x4 =>
  bP (ld Q q 34 x4 (G.room 11)) fun x5 =>
  bS (e.ev.cl 15 [x2, v1, x5] (G.room 11)) fun x7 G6 =>
  bP (pNil v0) fun x8 =>
  bP (fa Q q 61 6 8 x8) fun x9 =>
  bP (ld Q q 58 x9 (G6.room 16)) fun x10 =>
  bP (ias Q q 58 1 x10 v1) fun x11 =>
  bP (ld Q q 22 x11 (G6.room 16)) fun x12 =>
  bP (pNil v0) fun x13 =>
  bP (fa Q q 61 8 10 x13) fun x14 =>
  bP (ld Q q 22 x14 (G6.room 16)) fun x15 =>
  bP (ias Q q 22 1 x15 v1) fun x16 =>
  bP (ld Q q 3 x16 (G6.room 16)) fun x17 =>
  bP (sl Q q 22 1 x12 (some x17) none none (G6.room 16)) fun x18 =>
  bP (pNil v0) fun x19 =>
  bP (fa Q q 61 9 11 x19) fun x20 =>
  bP (ld Q q 59 x20 (G6.room 16)) fun x21 =>
  bP (ias Q q 59 1 x21 v1) fun x22 =>
  bP (ld Q q 4 x22 (G6.room 16)) fun x23 =>
  ifV x23 (
  bP (ln Q q 22 x7) fun x24 =>
  bP (bn Q q .eql 3 (.tmp 40) (.const (.int .i64 0)) x24 (.int .i64 0)) fun x25 =>
  bS (gd x25 true (some (x18, (G6.room 16))) (G6.room 16)) fun x26 G27 =>
  bS (gd x25 true (bP (ln Q q 22 x26) fun y => some (y, G27)) G27) fun x28 G29 =>
  bS (gd x25 true (bP (bn Q q .geq 3 (.tmp 44) (.const (.int .i64 1)) x28 (.int .i64 1)) fun y => some (y, G29)) G29) fun x30 G31 =>
  bP (pickV x25 x30 (.bool false)) fun x32 =>
  bS (gd x32 true (some (x18, G31)) G31) fun x33 G34 =>
  bS (gd x32 true (bP (ln Q q 22 x33) fun y => some (y, G34)) G34) fun x35 G36 =>
  bS (gd x32 true (bP (bn Q q .sub 3 (.tmp 49) (.const (.int .i64 1)) x35 (.int .i64 1)) fun y => some (y, G36)) G36) fun x37 G38 =>
  bS (gd x32 true (some (v0, G38)) G38) fun x39 G40 =>
  bS (gd x32 true (bP (pNil x39) fun y => some (y, G40)) G40) fun x41 G42 =>
  bS (gd x32 true (bP (fa Q q 61 0 0 x41) fun y => some (y, G42)) G42) fun x43 G44 =>
  bS (gd x32 true (bP (fa Q q 55 2 2 x43) fun y => some (y, G44)) G44) fun x45 G46 =>
  bS (gd x32 true (bP (ld Q q 3 x45 G46) fun y => some (y, G46)) G46) fun x47 G48 =>
  bS (gd x32 true (bP (bn Q q .leq 3 (.tmp 50) (.tmp 55) x37 x47) fun y => some (y, G48)) G48) fun x49 G50 =>
  bP (pickV x32 x49 (.bool false)) fun x51 =>
  some (x51, G50)) (
  bS (e.ev.cl 14 [x7, x18] (G6.room 16)) fun x52 G53 =>
  bS (gd x52 true (some (x18, G53)) G53) fun x54 G55 =>
  bS (gd x52 true (bP (ln Q q 22 x54) fun y => some (y, G55)) G55) fun x56 G57 =>
  bS (gd x52 true (some (v0, G57)) G57) fun x58 G59 =>
  bS (gd x52 true (bP (pNil x58) fun y => some (y, G59)) G59) fun x60 G61 =>
  bS (gd x52 true (bP (fa Q q 61 0 0 x60) fun y => some (y, G61)) G61) fun x62 G63 =>
  bS (gd x52 true (bP (fa Q q 55 2 2 x62) fun y => some (y, G63)) G63) fun x64 G65 =>
  bS (gd x52 true (bP (ld Q q 3 x64 G65) fun y => some (y, G65)) G65) fun x66 G67 =>
  bS (gd x52 true (bP (bn Q q .leq 3 (.tmp 63) (.tmp 68) x56 x66) fun y => some (y, G67)) G67) fun x68 G69 =>
  bP (pickV x52 x68 (.bool false)) fun x70 =>
  some (x70, G69))
theorem m43 {e : Ex} {E : Ev} (h : ExLe Q e E) (v0 v1 : Value) (G : GS) : Ref (s43 true e v0 v1 G) (s43 false (Ex.of E) v0 v1 G) := by
  unfold s43
  exact Ref.gq
theorem f43 {orc : FuncId → Bool} {e : Ex} (h : ExLe Q e (E orc)) (v0 v1 : Value) (G : GS) : Ref (s43 true e v0 v1 G) ((E orc).cl 43 [v0, v1] G) :=
  fun r hr => cl_sxE_some Q orc (vs := [v0, v1]) G Try.func43 (by kernel_rfl) (by kernel_rfl) (by kernel_rfl) (by kernel_rfl) (by kernel_rfl) (by kernel_rfl) (m43 h v0 v1 G r hr)
noncomputable def b44_0 (q : Bool) (e : Ex) (lp : Env → GS → Option (Exit × Env × GS)) (τ : Env) (G : GS) : Option (Exit × Env × GS) :=
  bV q (τ 0) fun a0_ =>
  bV q (τ 1) fun a1_ =>
  bV q (τ 5) fun a5_ =>
  bV q (τ 6) fun a6_ =>
  bS (gd a5_ true (some (a6_, G)) G) fun x0 G1 =>
  bS (gd a5_ true (some (a0_, G1)) G1) fun x2 G3 =>
  bS (gd a5_ true (bP (ln Q q 29 x2) fun y => some (y, G3)) G3) fun x4 G5 =>
  bS (gd a5_ true (bP (bn Q q .lss 3 (.tmp 14) (.tmp 16) x0 x4) fun y => some (y, G5)) G5) fun x6 G7 =>
  bP (pickV a5_ x6 (.bool false)) fun x8 =>
  ifV x8 (
  bP (ias Q q 29 1 a0_ a6_) fun x9 =>
  bP (ld Q q 28 x9 (G7.room 10)) fun x10 =>
  bP (ias Q q 29 1 a1_ a6_) fun x11 =>
  bP (ld Q q 28 x11 (G7.room 10)) fun x12 =>
  bP (bn Q q .eql 28 (.tmp 24) (.tmp 28) x10 x12) fun x13 =>
  bP (bn Q q .add 3 (.tmp 19) (.const (.int .i64 1)) a6_ (.int .i64 1)) fun x14 =>
  lp (xq q 31 τ [(6, x14), (20, x14), (19, a6_), (5, x13), (29, x13), (28, x12), (27, x11), (26, a6_), (25, a1_), (24, x10), (23, x9), (22, a6_), (21, a0_), (18, x8), (17, x6), (16, x4), (15, x2), (14, x0), (13, a5_), (12, a5_)] [(0, a0_), (1, a1_)]) (G7.room 10)) (
  some ((.exit 0), xq q 31 τ [(18, x8), (17, x6), (16, x4), (15, x2), (14, x0), (13, a5_), (12, a5_)] [(0, a0_), (1, a1_), (5, a5_), (6, a6_)], G7))
theorem mb44_0 {e : Ex} {E : Ev} (h : ExLe Q e E) {lp lp' : Env → GS → Option (Exit × Env × GS)} (hlp : LpLe lp lp') (τ : Env) (G : GS) : Ref (b44_0 true e lp τ G) (b44_0 false (Ex.of E) lp' τ G) := by
  unfold b44_0
  exact Ref.gq
theorem l44_0 {orc : FuncId → Bool} {e : Ex} (h : ExLe Q e (E orc)) (lp : Env → GS → Option (Exit × Env × GS)) (hlp : ∀ τ G, Ref (lp τ G) (mapE ((E orc).lp (subAt [1, 1, 0, 1, 0, 0] (bodyOf Try.f44)) (lst 31 τ) G))) (T : List Value) (G : GS) (hT : T.length = 31) : Ref (b44_0 true e lp (nth undef T) G) (mapE ((E orc).lp (subAt [1, 1, 0, 1, 0, 0] (bodyOf Try.f44)) T G)) :=
  fun r hr => lp_sxN Q orc G hT (by kernel_rfl) (mb44_0 h ⟨hlp⟩ _ _ r hr)
/-- coxswain/coxswainkit.SameWords -/
noncomputable def s44 (q : Bool) (e : Ex) (v0 v1 : Value) (G : GS) : Option (Value × GS) :=
  bP (ln Q q 29 v0) fun x0 =>
  bP (ln Q q 29 v1) fun x1 =>
  bP (bn Q q .eql 3 (.tmp 8) (.tmp 10) x0 x1) fun x2 =>
  bLq q e 44 0 (subAt [1, 1, 0, 1, 0, 0] (bodyOf Try.f44)) 31 (nth undef [v0, v1]) [(6, (.int .i64 0)), (5, x2), (11, x2), (10, x1), (9, v1), (8, x0), (7, v0), (4, (.bool false))] [] G fun e3 t4 G5 =>
  bV q (t4 5) fun t4x5_ =>
  ifE e3 (.exit 0) (
  some (t4x5_, G5)) (none)
theorem m44 {e : Ex} {E : Ev} (h : ExLe Q e E) (v0 v1 : Value) (G : GS) : Ref (s44 true e v0 v1 G) (s44 false (Ex.of E) v0 v1 G) := by
  unfold s44
  exact Ref.gq
theorem f44 {orc : FuncId → Bool} {e : Ex} (h : ExLe Q e (E orc)) (v0 v1 : Value) (G : GS) : Ref (s44 true e v0 v1 G) ((E orc).cl 44 [v0, v1] G) :=
  fun r hr => cl_sxE_some Q orc (vs := [v0, v1]) G Try.func44 (by kernel_rfl) (by kernel_rfl) (by kernel_rfl) (by kernel_rfl) (by kernel_rfl) (by kernel_rfl) (m44 h v0 v1 G r hr)
/-- coxswain/ring.All -/
noncomputable def s45 (q : Bool) (e : Ex) (v0 v1 : Value) (G : GS) : Option (Value × GS) :=
  bS (bx q v0 G) fun x0 G1 =>
  bP (lda Q q 91 4 x0 G1) fun x2 =>
  bS (e.ev.cl 76 [x2] G1) fun x3 G4 =>
  bP (un Q q .not x3) fun x5 =>
  ifV x5 (
  some ((.slice none 0 0), G4)) (
  bS (e.ev.cl 9 [v1] G4) fun x6 G7 =>
  bS (al Q q 29 z29 G7) fun x8 G9 =>
  bP (st Q q 29 1 x8 x6 G9) fun G10 =>
  bS (al Q q 118 z118 G10) fun x11 G12 =>
  bP (st Q q 118 1 x11 (.func (.func 77) #[] #[x8]) G12) fun G13 =>
  bS (al Q q 22 z22 G13) fun x14 G15 =>
  bP (lda Q q 91 4 x0 G15) fun x16 =>
  bP (ld Q q 118 x11 G15) fun x17 =>
  bS (e.ev.cl 78 [x16, x17] G15) fun x18 G19 =>
  bX (xRange e.ev x18 #[18] (subAt [1, 1, 1, 1, 1, 0, 1, 0, 0] (bodyOf Try.f45)) (subAt [1, 1, 1, 1, 1, 0, 1, 0, 1] (bodyOf Try.f45)) (lsq q 29 (nth undef [v0, v1]) [(17, x18), (16, x17), (15, x16), (7, x14), (6, x11), (14, (.func (.func 77) #[] #[x8])), (5, x8), (13, x6), (12, v1), (11, x5), (10, x3), (9, x2), (4, (.slice none 0 0)), (2, x0)]) G19) fun e20 T21 G22 =>
  bV q (nth undef T21 7) fun T21x7_ =>
  ifE e20 .normal (
  bP (ld Q q 22 T21x7_ G22) fun x23 =>
  some (x23, G22)) (none))
theorem m45 {e : Ex} {E : Ev} (h : ExLe Q e E) (v0 v1 : Value) (G : GS) : Ref (s45 true e v0 v1 G) (s45 false (Ex.of E) v0 v1 G) := by
  unfold s45
  exact Ref.gq
theorem f45 {orc : FuncId → Bool} {e : Ex} (h : ExLe Q e (E orc)) (v0 v1 : Value) (G : GS) : Ref (s45 true e v0 v1 G) ((E orc).cl 45 [v0, v1] G) :=
  fun r hr => cl_sxE_some Q orc (vs := [v0, v1]) G Try.func45 (by kernel_rfl) (by kernel_rfl) (by kernel_rfl) (by kernel_rfl) (by kernel_rfl) (by kernel_rfl) (m45 h v0 v1 G r hr)
noncomputable def r45_0 (q : Bool) (e : Ex) (l : Nat) (τ : Env) (u0 : Value) (G : GS) : Option (Value × GS) :=
  bV q (τ 2) fun a2_ =>
  bV q (τ 6) fun a6_ =>
  bV q (τ 7) fun a7_ =>
  bP (G.loop l) fun r0 => if r0.st = .ready then
  bP (ld Q q 22 a7_ ((G.putLoop l (Lp.setSt r0 .busy)).room 10)) fun x1 =>
  bP (ld Q q 118 a6_ ((G.putLoop l (Lp.setSt r0 .busy)).room 10)) fun x2 =>
  bP (lda Q q 91 4 a2_ ((G.putLoop l (Lp.setSt r0 .busy)).room 10)) fun x3 =>
  bS (e.ev.cl 79 [x3, u0] ((G.putLoop l (Lp.setSt r0 .busy)).room 10)) fun x5 G4 =>
  chk ((sameO (ld Q q 118 a6_ G4) x2 && (sameO (ld Q q 22 a7_ G4) x1 && true))) <|
  bS (cValue e.ev x2 [x5] G4) fun x7 G6 =>
  chk ((sameO (ld Q q 22 a7_ G6) x1 && true)) <|
  bS (e.ev.cl 80 [x7] G6) fun x9 G8 =>
  chk ((sameO (ld Q q 22 a7_ G8) x1 && true)) <|
  bS (bs Q q 22 1 (rep z3 1) 1 [(0, 0, 1)] [x9] (G8.at' ((G.putLoop l (Lp.setSt r0 .busy)).nx + 7))) fun x10 G11 =>
  bS (ap Q q 22 22 1 8 x1 x10 (G11.back G8)) fun x13 G12 =>
  bP (st Q q 22 1 a7_ x13 G12) fun G14 =>
  roundEnd l .normal G14
  else none
theorem mr45_0 {e : Ex} {E : Ev} (h : ExLe Q e E) (l : Nat) (τ : Env) (u0 : Value) (G : GS) : Ref (r45_0 true e l τ u0 G) (r45_0 false (Ex.of E) l τ u0 G) := by
  unfold r45_0
  repeat' (with_reducible first | exact Ref.rfl' _ | exact ROp.r | refine Ref.bP ?_ fun _ => ?_ | refine Ref.bS ?_ fun _ _ => ?_ | exact Ref.cl (by assumption) | refine Ref.ifV ?_ ?_ | refine LpLe.rx (by assumption) ?_ | refine Ref.xitq ?_ | exact UOk.z | refine UOk.c (by assumption) ?_ | exact Ref.nil _ | refine Ref.bVe fun _ _ => ?_ | refine Ref.bLq (by assumption) ?_ fun _ _ _ => ?_ | refine Ref.ifE ?_ ?_ | refine Ref.chk ?_ ?_ | refine Imp.and ?_ ?_ | refine Imp.or ?_ | exact Imp.rfl' _ | refine Imp.sameO ?_ | refine Ref.gd ?_ | exact Ref.cValue (by assumption) | refine Ref.bX ?_ fun _ _ _ => ?_ | exact Ref.scQ (by assumption) | exact Ref.xRangeQ (by assumption) | exact Ref.cInvoke (by assumption) | refine Ref.rdy ?_)
theorem d45_0 {orc : FuncId → Bool} {e : Ex} (h : ExLe Q e (E orc)) (l : Nat) (T : List Value) (u0 : Value) (G : GS) {st : LoopState} {pend : Option Code} (hl : G.loop l = some ⟨st, pend, T, [18], (subAt [1, 1, 1, 1, 1, 0, 1, 0, 0] (bodyOf Try.f45)), (subAt [1, 1, 1, 1, 1, 0, 1, 0, 1] (bodyOf Try.f45))⟩) (hT : T.length = 29) : Ref (r45_0 true e l (nth undef T) u0 G) ((E orc).rd l [u0] G) :=
  fun r hr => rd_sxE Q orc hl (by kernel_rfl) hT (by kernel_rfl) (mr45_0 h l _ u0 G r hr)
/-- (*coxswain/cells.Mem).Load -/
noncomputable def s52 (q : Bool) (e : Ex) (v0 v1 : Value) (G : GS) : Option (Value × GS) :=
  bS (e.ev.cl 88 [v0, v1] G) fun x0 G1 =>
  bP (bd Q q 179 z179 [(0, 0, 1)] [x0]) fun x2 =>
  bS (al Q q 179 z179 G1) fun x3 G4 =>
  bP (st Q q 179 3 x3 x2 G4) fun G5 =>
  bP (fa Q q 179 0 0 x3) fun x6 =>
  bP (ld Q q 176 x6 G5) fun x7 =>
  bP (lda Q q 179 3 x3 G5) fun x8 =>
  bS (e.ev.cl 89 [v0, (.int .i64 1), v1, x7, (.func (.func 90) #[x8] #[])] G5) fun x9 G10 =>
  bP (fd Q q 79 3 3 x9) fun x11 =>
  some (x11, G10)
theorem m52 {e : Ex} {E : Ev} (h : ExLe Q e E) (v0 v1 : Value) (G : GS) : Ref (s52 true e v0 v1 G) (s52 false (Ex.of E) v0 v1 G) := by
  unfold s52
  exact Ref.gq
theorem f52 {orc : FuncId → Bool} {e : Ex} (h : ExLe Q e (E orc)) (v0 v1 : Value) (G : GS) : Ref (s52 true e v0 v1 G) ((E orc).cl 52 [v0, v1] G) :=
  fun r hr => cl_sxE_some Q orc (vs := [v0, v1]) G Try.func52 (by kernel_rfl) (by kernel_rfl) (by kernel_rfl) (by kernel_rfl) (by kernel_rfl) (by kernel_rfl) (m52 h v0 v1 G r hr)
/-- (*coxswain/cells.Mem).Store -/
noncomputable def s57 (q : Bool) (e : Ex) (v0 v1 v2 : Value) (G : GS) : Option (Value × GS) :=
  bS (e.ev.cl 88 [v0, v1] G) fun x0 G1 =>
  bP (bd Q q 179 z179 [(0, 0, 1), (1, 1, 1)] [x0, v2]) fun x2 =>
  bS (al Q q 179 z179 G1) fun x3 G4 =>
  bP (st Q q 179 3 x3 x2 G4) fun G5 =>
  bP (fa Q q 179 0 0 x3) fun x6 =>
  bP (ld Q q 176 x6 G5) fun x7 =>
  bP (lda Q q 179 3 x3 G5) fun x8 =>
  bS (e.ev.cl 89 [v0, (.int .i64 2), v1, x7, (.func (.func 94) #[x8] #[])] G5) fun x9 G10 =>
  some (.tuple #[], G10)
theorem m57 {e : Ex} {E : Ev} (h : ExLe Q e E) (v0 v1 v2 : Value) (G : GS) : Ref (s57 true e v0 v1 v2 G) (s57 false (Ex.of E) v0 v1 v2 G) := by
  unfold s57
  exact Ref.gq
theorem f57 {orc : FuncId → Bool} {e : Ex} (h : ExLe Q e (E orc)) (v0 v1 v2 : Value) (G : GS) : Ref (s57 true e v0 v1 v2 G) ((E orc).cl 57 [v0, v1, v2] G) :=
  fun r hr => cl_sxE_some Q orc (vs := [v0, v1, v2]) G Try.func57 (by kernel_rfl) (by kernel_rfl) (by kernel_rfl) (by kernel_rfl) (by kernel_rfl) (by kernel_rfl) (m57 h v0 v1 v2 G r hr)
/-- (*coxswain/arena.Alloc).Step -/
noncomputable def s59 (q : Bool) (e : Ex) (v0 v1 : Value) (G : GS) : Option (Value × GS) :=
  bP (ep Q q false 113 (.tmp 5) (.const (.pointer none)) v0 (.pointer none)) fun x0 =>
  bS (gd x0 false (some (v0, G)) G) fun x1 G2 =>
  bS (gd x0 false (bP (pNil x1) fun y => some (y, G2)) G2) fun x3 G4 =>
  bS (gd x0 false (bP (fa Q q 175 3 8 x3) fun y => some (y, G4)) G4) fun x5 G6 =>
  bS (gd x0 false (bP (ld Q q 173 x5 G6) fun y => some (y, G6)) G6) fun x7 G8 =>
  bS (gd x0 false (bP (ef Q q false 173 (.tmp 11) (.const .nilFunc) x7 .nilFunc) fun y => some (y, G8)) G8) fun x9 G10 =>
  bP (pickV x0 (.bool true) x9) fun x11 =>
  ifV x11 (
  some ((.bool true), G10)) (
  bP (pNil v0) fun x12 =>
  bP (fa Q q 175 3 8 x12) fun x13 =>
  bP (ld Q q 173 x13 G10) fun x14 =>
  bS (cValue e.ev x14 [v0, v1] G10) fun x15 G16 =>
  bP (pNil v0) fun x17 =>
  bP (fa Q q 175 3 8 x17) fun x18 =>
  bP (ld Q q 173 x18 G16) fun x19 =>
  bP (ef Q q false 173 (.tmp 24) (.const .nilFunc) x19 .nilFunc) fun x20 =>
  some (x20, G16))
theorem m59 {e : Ex} {E : Ev} (h : ExLe Q e E) (v0 v1 : Value) (G : GS) : Ref (s59 true e v0 v1 G) (s59 false (Ex.of E) v0 v1 G) := by
  unfold s59
  exact Ref.gq
theorem f59 {orc : FuncId → Bool} {e : Ex} (h : ExLe Q e (E orc)) (v0 v1 : Value) (G : GS) : Ref (s59 true e v0 v1 G) ((E orc).cl 59 [v0, v1] G) :=
  fun r hr => cl_sxE_some Q orc (vs := [v0, v1]) G Try.func59 (by kernel_rfl) (by kernel_rfl) (by kernel_rfl) (by kernel_rfl) (by kernel_rfl) (by kernel_rfl) (m59 h v0 v1 G r hr)
/-- coxswain/mail.placed -/
noncomputable def s63 (q : Bool) (e : Ex) (v0 : Value) (G : GS) : Option (Value × GS) :=
  bS (bx q v0 G) fun x0 G1 =>
  bP (lda Q q 55 3 x0 G1) fun x2 =>
  bS (e.ev.cl 65 [x2] G1) fun x3 G4 =>
  bS (gd x3 true (bP (fa Q q 55 0 0 x0) fun y => some (y, G4)) G4) fun x5 G6 =>
  bS (gd x3 true (bP (ld Q q 3 x5 G6) fun y => some (y, G6)) G6) fun x7 G8 =>
  bS (gd x3 true (bP (bn Q q .geq 3 (.tmp 7) (.const (.int .i64 0)) x7 (.int .i64 0)) fun y => some (y, G8)) G8) fun x9 G10 =>
  bP (pickV x3 x9 (.bool false)) fun x11 =>
  bS (gd x11 true (bP (fa Q q 55 0 0 x0) fun y => some (y, G10)) G10) fun x12 G13 =>
  bS (gd x11 true (bP (ld Q q 3 x12 G13) fun y => some (y, G13)) G13) fun x14 G15 =>
  bS (gd x11 true (bP (bn Q q .lss 3 (.tmp 12) (.const (.int .i64 4096)) x14 (.int .i64 4096)) fun y => some (y, G15)) G15) fun x16 G17 =>
  bP (pickV x11 x16 (.bool false)) fun x18 =>
  some (x18, G17)
theorem m63 {e : Ex} {E : Ev} (h : ExLe Q e E) (v0 : Value) (G : GS) : Ref (s63 true e v0 G) (s63 false (Ex.of E) v0 G) := by
  unfold s63
  exact Ref.gq
theorem f63 {orc : FuncId → Bool} {e : Ex} (h : ExLe Q e (E orc)) (v0 : Value) (G : GS) : Ref (s63 true e v0 G) ((E orc).cl 63 [v0] G) :=
  fun r hr => cl_sxE_some Q orc (vs := [v0]) G Try.func63 (by kernel_rfl) (by kernel_rfl) (by kernel_rfl) (by kernel_rfl) (by kernel_rfl) (by kernel_rfl) (m63 h v0 G r hr)
/-- coxswain/mail.boxes -/
noncomputable def s64 (q : Bool) (e : Ex) (v0 : Value) (G : GS) : Option (Value × GS) :=
  bS (bx q v0 G) fun x0 G1 =>
  some ((.func (.func 98) #[] #[x0]), G1)
theorem m64 {e : Ex} {E : Ev} (h : ExLe Q e E) (v0 : Value) (G : GS) : Ref (s64 true e v0 G) (s64 false (Ex.of E) v0 G) := by
  unfold s64
  exact Ref.gq
theorem f64 {orc : FuncId → Bool} {e : Ex} (h : ExLe Q e (E orc)) (v0 : Value) (G : GS) : Ref (s64 true e v0 G) ((E orc).cl 64 [v0] G) :=
  fun r hr => cl_sxE_some Q orc (vs := [v0]) G Try.func64 (by kernel_rfl) (by kernel_rfl) (by kernel_rfl) (by kernel_rfl) (by kernel_rfl) (by kernel_rfl) (m64 h v0 G r hr)
/-- coxswain/mail.sized -/
noncomputable def s65 (q : Bool) (e : Ex) (v0 : Value) (G : GS) : Option (Value × GS) :=
  bS (bx q v0 G) fun x0 G1 =>
  bP (fa Q q 55 1 1 x0) fun x2 =>
  bP (ld Q q 3 x2 G1) fun x3 =>
  bP (bn Q q .geq 3 (.tmp 4) (.const (.int .i64 1)) x3 (.int .i64 1)) fun x4 =>
  bS (gd x4 true (bP (fa Q q 55 1 1 x0) fun y => some (y, G1)) G1) fun x5 G6 =>
  bS (gd x4 true (bP (ld Q q 3 x5 G6) fun y => some (y, G6)) G6) fun x7 G8 =>
  bS (gd x4 true (bP (bn Q q .leq 3 (.tmp 8) (.const (.int .i64 64)) x7 (.int .i64 64)) fun y => some (y, G8)) G8) fun x9 G10 =>
  bP (pickV x4 x9 (.bool false)) fun x11 =>
  bS (gd x11 true (bP (fa Q q 55 2 2 x0) fun y => some (y, G10)) G10) fun x12 G13 =>
  bS (gd x11 true (bP (ld Q q 3 x12 G13) fun y => some (y, G13)) G13) fun x14 G15 =>
  bS (gd x11 true (bP (bn Q q .geq 3 (.tmp 13) (.const (.int .i64 1)) x14 (.int .i64 1)) fun y => some (y, G15)) G15) fun x16 G17 =>
  bP (pickV x11 x16 (.bool false)) fun x18 =>
  bS (gd x18 true (bP (fa Q q 55 2 2 x0) fun y => some (y, G17)) G17) fun x19 G20 =>
  bS (gd x18 true (bP (ld Q q 3 x19 G20) fun y => some (y, G20)) G20) fun x21 G22 =>
  bS (gd x18 true (bP (bn Q q .leq 3 (.tmp 18) (.const (.int .i64 16)) x21 (.int .i64 16)) fun y => some (y, G22)) G22) fun x23 G24 =>
  bP (pickV x18 x23 (.bool false)) fun x25 =>
  some (x25, G24)
theorem m65 {e : Ex} {E : Ev} (h : ExLe Q e E) (v0 : Value) (G : GS) : Ref (s65 true e v0 G) (s65 false (Ex.of E) v0 G) := by
  unfold s65
  exact Ref.gq
theorem f65 {orc : FuncId → Bool} {e : Ex} (h : ExLe Q e (E orc)) (v0 : Value) (G : GS) : Ref (s65 true e v0 G) ((E orc).cl 65 [v0] G) :=
  fun r hr => cl_sxE_some Q orc (vs := [v0]) G Try.func65 (by kernel_rfl) (by kernel_rfl) (by kernel_rfl) (by kernel_rfl) (by kernel_rfl) (by kernel_rfl) (m65 h v0 G r hr)
noncomputable def jb66_0 (q : Bool) (e : Ex) (τ : Env) (G : GS) : Option (Value × GS) :=
  bV q (τ 0) fun a0_ =>
  bP (pNil a0_) fun x18 =>
  bP (fa Q q 151 3 6 x18) fun x19 =>
  bP (ld Q q 149 x19 G) fun x20 =>
  bP (bn Q q .eql 149 (.tmp 98) (.const .nilIface) x20 .nilIface) fun x21 =>
  some (x21, G)
noncomputable def j66_0 (q : Bool) (e : Ex) (τ : Env) (G : GS) : Option (Value × GS) := jb66_0 q e τ G
theorem mj66_0 {e : Ex} {E : Ev} (h : ExLe Q e E) (τ : Env) (G : GS) : Ref (j66_0 true e τ G) (j66_0 false (Ex.of E) τ G) := by
  unfold j66_0 jb66_0
  exact Ref.gq
theorem mkj66_0 {e : Ex} {E : Ev} (h : ExLe Q e E) {τ : Env} {l U : List (Nat × Value)} {G : GS} (hU : UOk τ U) : Ref (j66_0 true e (xq true 100 τ l U) G) (j66_0 false (Ex.of E) (xq false 100 τ l U) G) := by
  rw [xq_eq hU]
  exact mj66_0 h _ _
noncomputable def sb66 (q : Bool) (e : Ex) (J0 : Env → GS → Option (Value × GS)) (v0 v1 : Value) (G : GS) : Option (Value × GS) :=
  bP (ep Q q false 62 (.tmp 9) (.const (.pointer none)) v0 (.pointer none)) fun x0 =>
  bS (gd x0 false (some (v0, G)) G) fun x1 G2 =>
  bS (gd x0 false (bP (pNil x1) fun y => some (y, G2)) G2) fun x3 G4 =>
  bS (gd x0 false (bP (fa Q q 151 3 6 x3) fun y => some (y, G4)) G4) fun x5 G6 =>
  bS (gd x0 false (bP (ld Q q 149 x5 G6) fun y => some (y, G6)) G6) fun x7 G8 =>
  bS (gd x0 false (bP (bn Q q .eql 149 (.tmp 15) (.const .nilIface) x7 .nilIface) fun y => some (y, G8)) G8) fun x9 G10 =>
  bP (pickV x0 (.bool true) x9) fun x11 =>
  ifV x11 (
  some ((.bool true), G10)) (
  bP (pNil v0) fun x12 =>
  bP (fa Q q 151 3 6 x12) fun x13 =>
  bP (ld Q q 149 x13 G10) fun x14 =>
  bS (cInvoke Q e.ev x14 "Step" [v1] G10) fun x15 G16 =>
  bP (un Q q .not x15) fun x17 =>
  ifV x17 (
  some ((.bool false), G16)) (
  bP (pNil v0) fun x22 =>
  bP (fa Q q 151 3 6 x22) fun x23 =>
  bP (ld Q q 149 x23 G16) fun x24 =>
  bP (gAssert Q x24 152 true) fun x25 =>
  bP (pExtract x25 1) fun x26 =>
  bP (pExtract x25 0) fun x27 =>
  ifV x26 (
  bS (e.ev.cl 99 [x27] G16) fun x28 G29 =>
  bP (pExtract x28 0) fun x30 =>
  bP (pExtract x28 1) fun x31 =>
  bP (pNil v0) fun x32 =>
  bP (fa Q q 151 5 8 x32) fun x33 =>
  bP (st Q q 3 1 x33 x30 G29) fun G34 =>
  bP (pNil v0) fun x35 =>
  bP (fa Q q 151 3 6 x35) fun x36 =>
  bP (st Q q 149 1 x36 .nilIface G34) fun G37 =>
  bP (bn Q q .eql 41 (.tmp 44) (.const (.int .i64 0)) x31 (.int .i64 0)) fun x38 =>
  ifV x38 (
  bP (pNil v0) fun x39 =>
  bP (fa Q q 151 1 1 x39) fun x40 =>
  bP (lda Q q 91 4 x40 (G37.room 12)) fun x41 =>
  bS (e.ev.cl 101 [x27] (G37.room 12)) fun x43 G42 =>
  chk ((sameO (lda Q q 91 4 x40 G42) x41 && true)) <|
  bS (e.ev.cl 100 [x41, x43] G42) fun x45 G44 =>
  bP (ifc Q q 188 x45) fun x46 =>
  bP (pNil v0) fun x47 =>
  bP (fa Q q 151 3 6 x47) fun x48 =>
  bP (st Q q 149 1 x48 x46 G44) fun G49 =>
  J0 (xq q 100 (nth undef [v0, v1]) [(56, x48), (55, x47), (54, x46), (53, x45), (52, x43), (51, x27), (50, x41), (49, x40), (48, x39), (47, v0), (46, v0), (45, x38), (44, x31), (43, x36), (42, x35), (41, x33), (40, x32), (39, x30), (38, v0), (37, v0), (7, x31), (6, x30), (36, x31), (35, x30), (32, x28), (34, x28), (33, x27), (5, x27), (31, x27), (30, x26), (29, x25), (28, x24), (27, x23), (26, x22), (25, v0), (24, x17), (23, x15), (22, v1), (21, x14), (20, x13), (19, x12), (18, v0), (17, x11), (16, x9), (15, x7), (14, x5), (13, x3), (12, x1), (11, x0), (10, x0), (9, v0), (4, (.bool false))] []) G49) (
  J0 (xq q 100 (nth undef [v0, v1]) [(45, x38), (44, x31), (43, x36), (42, x35), (41, x33), (40, x32), (39, x30), (38, v0), (37, v0), (7, x31), (6, x30), (36, x31), (35, x30), (32, x28), (34, x28), (33, x27), (5, x27), (31, x27), (30, x26), (29, x25), (28, x24), (27, x23), (26, x22), (25, v0), (24, x17), (23, x15), (22, v1), (21, x14), (20, x13), (19, x12), (18, v0), (17, x11), (16, x9), (15, x7), (14, x5), (13, x3), (12, x1), (11, x0), (10, x0), (9, v0), (4, (.bool false))] []) G37)) (
  bP (gAssert Q x24 188 true) fun x50 =>
  bP (pExtract x50 1) fun x51 =>
  bP (pExtract x50 0) fun x52 =>
  ifV x51 (
  bP (pNil v0) fun x53 =>
  bP (fa Q q 151 4 7 x53) fun x54 =>
  bP (ld Q q 22 x54 (G16.room 18)) fun x55 =>
  bP (pNil v0) fun x56 =>
  bP (fa Q q 151 5 8 x56) fun x57 =>
  bP (ld Q q 3 x57 (G16.room 18)) fun x58 =>
  bS (bs Q q 22 1 (rep z3 1) 1 [(0, 0, 1)] [x58] ((G16.room 18).at' (G16.nx + 10))) fun x59 G60 =>
  bS (ap Q q 22 22 1 8 x55 x59 (G60.back (G16.room 18))) fun x62 G61 =>
  bP (pNil v0) fun x63 =>
  bP (fa Q q 151 4 7 x63) fun x64 =>
  bP (st Q q 22 1 x64 x62 G61) fun G65 =>
  bP (pNil v0) fun x66 =>
  bP (fa Q q 151 3 6 x66) fun x67 =>
  bP (st Q q 149 1 x67 .nilIface G65) fun G68 =>
  bP (pNil v0) fun x69 =>
  bP (fa Q q 151 4 7 x69) fun x70 =>
  bP (ld Q q 22 x70 (G68.room 10)) fun x71 =>
  bP (ln Q q 22 x71) fun x72 =>
  bP (pNil v0) fun x73 =>
  bP (fa Q q 151 2 5 x73) fun x74 =>
  bP (ld Q q 3 x74 (G68.room 10)) fun x75 =>
  bP (bn Q q .lss 3 (.tmp 80) (.tmp 84) x72 x75) fun x76 =>
  ifV x76 (
  bP (pNil v0) fun x77 =>
  bP (fa Q q 151 1 1 x77) fun x78 =>
  bP (lda Q q 91 4 x78 (G68.room 10)) fun x79 =>
  bS (e.ev.cl 69 [x79] (G68.room 10)) fun x80 G81 =>
  bP (ifc Q q 152 x80) fun x82 =>
  bP (pNil v0) fun x83 =>
  bP (fa Q q 151 3 6 x83) fun x84 =>
  bP (st Q q 149 1 x84 x82 G81) fun G85 =>
  J0 (xq q 100 (nth undef [v0, v1]) [(94, x84), (93, x83), (92, x82), (91, x80), (90, x79), (89, x78), (88, x77), (87, v0), (86, v0), (85, x76), (84, x75), (83, x74), (82, x73), (81, v0), (80, x72), (79, x71), (78, x70), (77, x69), (76, v0), (75, x67), (74, x66), (73, x64), (72, x63), (71, x62), (70, x59), (69, x58), (68, x57), (67, x56), (66, v0), (65, x55), (64, x54), (63, x53), (62, v0), (61, v0), (60, v0), (8, x52), (59, x52), (58, x51), (57, x50), (31, x27), (30, x26), (29, x25), (28, x24), (27, x23), (26, x22), (25, v0), (24, x17), (23, x15), (22, v1), (21, x14), (20, x13), (19, x12), (18, v0), (17, x11), (16, x9), (15, x7), (14, x5), (13, x3), (12, x1), (11, x0), (10, x0), (9, v0), (4, (.bool false))] []) G85) (
  J0 (xq q 100 (nth undef [v0, v1]) [(85, x76), (84, x75), (83, x74), (82, x73), (81, v0), (80, x72), (79, x71), (78, x70), (77, x69), (76, v0), (75, x67), (74, x66), (73, x64), (72, x63), (71, x62), (70, x59), (69, x58), (68, x57), (67, x56), (66, v0), (65, x55), (64, x54), (63, x53), (62, v0), (61, v0), (60, v0), (8, x52), (59, x52), (58, x51), (57, x50), (31, x27), (30, x26), (29, x25), (28, x24), (27, x23), (26, x22), (25, v0), (24, x17), (23, x15), (22, v1), (21, x14), (20, x13), (19, x12), (18, v0), (17, x11), (16, x9), (15, x7), (14, x5), (13, x3), (12, x1), (11, x0), (10, x0), (9, v0), (4, (.bool false))] []) (G68.room 10))) (
  J0 (xq q 100 (nth undef [v0, v1]) [(59, x52), (58, x51), (57, x50), (31, x27), (30, x26), (29, x25), (28, x24), (27, x23), (26, x22), (25, v0), (24, x17), (23, x15), (22, v1), (21, x14), (20, x13), (19, x12), (18, v0), (17, x11), (16, x9), (15, x7), (14, x5), (13, x3), (12, x1), (11, x0), (10, x0), (9, v0), (4, (.bool false))] []) G16))))
/-- (*coxswain/mail.Drain).Step -/
noncomputable def s66 (q : Bool) (e : Ex) (v0 v1 : Value) (G : GS) : Option (Value × GS) := sb66 q e (j66_0 q e) v0 v1 G
theorem m66 {e : Ex} {E : Ev} (h : ExLe Q e E) (v0 v1 : Value) (G : GS) : Ref (s66 true e v0 v1 G) (s66 false (Ex.of E) v0 v1 G) := by
  unfold s66 sb66
  repeat' (with_reducible first | exact Ref.rfl' _ | exact ROp.r | refine Ref.bP ?_ fun _ => ?_ | refine Ref.bS ?_ fun _ _ => ?_ | exact Ref.cl (by assumption) | refine Ref.ifV ?_ ?_ | refine LpLe.rx (by assumption) ?_ | refine Ref.xitq ?_ | exact UOk.z | refine UOk.c (by assumption) ?_ | exact Ref.nil _ | refine Ref.bVe fun _ _ => ?_ | refine Ref.bLq (by assumption) ?_ fun _ _ _ => ?_ | refine Ref.ifE ?_ ?_ | refine Ref.chk ?_ ?_ | refine Imp.and ?_ ?_ | refine Imp.or ?_ | exact Imp.rfl' _ | refine Imp.sameO ?_ | refine Ref.gd ?_ | exact Ref.cValue (by assumption) | refine Ref.bX ?_ fun _ _ _ => ?_ | exact Ref.scQ (by assumption) | exact Ref.xRangeQ (by assumption) | exact Ref.cInvoke (by assumption) | refine mkj66_0 (by assumption) ?_)
noncomputable def jt66 (J0 : Env → GS → Option (Value × GS)) : JT (Value × GS) :=
  (.n none .e (.n none .e (.n none .e (.n (some (fun T G => J0 (nth undef T) G)) .e .e))))
set_option maxHeartbeats 8000000 in
theorem jr66_0 (orc : FuncId → Bool) (J0 : Env → GS → Option (Value × GS)) (T : List Value) (G : GS) : runC Q (evL Q orc) Try.f66.ntmps (jt66 J0) (bodyOf Try.f66) (retE Q Try.f66.results.toList) [true, true, true] (nth undef T) G = jb66_0 false (Ex.of (E orc))  (nth undef T) G := by kernel_rfl
set_option maxHeartbeats 8000000 in
theorem jo66 (orc : FuncId → Bool) : JOk Q orc Try.f66.ntmps (jt66 (j66_0 false (Ex.of (E orc))) ) (bodyOf Try.f66) (retE Q Try.f66.results.toList) :=
  jOk Q orc (l := [([true, true, true], (fun T G => j66_0 false (Ex.of (E orc)) (nth undef T) G))]) (by kernel_rfl) (AllE.c (fun T G => jr66_0 orc (j66_0 false (Ex.of (E orc))) T G) (AllE.z))
set_option maxHeartbeats 8000000 in
theorem je66 (orc : FuncId → Bool) (J0 : Env → GS → Option (Value × GS)) (v0 v1 : Value) (G : GS) : sxC Q (evL Q orc) Try.f66.ntmps (jt66 J0) (bodyOf Try.f66) (nth undef [v0, v1]) G (retE Q Try.f66.results.toList) = sb66 false (Ex.of (E orc)) J0 v0 v1 G := by kernel_rfl
set_option maxHeartbeats 8000000 in
theorem f66 {orc : FuncId → Bool} {e : Ex} (h : ExLe Q e (E orc)) (v0 v1 : Value) (G : GS) : Ref (s66 true e v0 v1 G) ((E orc).cl 66 [v0, v1] G) :=
  fun r hr => cl_sxC Q orc (vs := [v0, v1]) G (jt66 (j66_0 false (Ex.of (E orc))) ) Try.func66 (by kernel_rfl) (by kernel_rfl) (by kernel_rfl) (by kernel_rfl) (by kernel_rfl) (jo66 orc) (je66 orc (j66_0 false (Ex.of (E orc))) v0 v1 G) (m66 h v0 v1 G r hr)
/-- coxswain/mail.refused -/
noncomputable def s67 (q : Bool) (e : Ex) (v0 v1 : Value) (G : GS) : Option (Value × GS) :=
  bS (bx q v0 G) fun x0 G1 =>
  bP (lda Q q 55 3 x0 G1) fun x2 =>
  bS (e.ev.cl 63 [x2] G1) fun x3 G4 =>
  bP (un Q q .not x3) fun x5 =>
  ifV x5 (
  some ((.int .i64 2), G4)) (
  bP (bn Q q .lss 3 (.tmp 10) (.const (.int .i64 0)) v1 (.int .i64 0)) fun x6 =>
  bS (gd x6 false (some (v1, G4)) G4) fun x7 G8 =>
  bS (gd x6 false (bP (fa Q q 55 1 1 x0) fun y => some (y, G8)) G8) fun x9 G10 =>
  bS (gd x6 false (bP (ld Q q 3 x9 G10) fun y => some (y, G10)) G10) fun x11 G12 =>
  bS (gd x6 false (bP (bn Q q .geq 3 (.tmp 13) (.tmp 15) x7 x11) fun y => some (y, G12)) G12) fun x13 G14 =>
  bP (pickV x6 (.bool true) x13) fun x15 =>
  ifV x15 (
  some ((.int .i64 3), G14)) (
  some ((.int .i64 0), G14)))
theorem m67 {e : Ex} {E : Ev} (h : ExLe Q e E) (v0 v1 : Value) (G : GS) : Ref (s67 true e v0 v1 G) (s67 false (Ex.of E) v0 v1 G) := by
  unfold s67
  exact Ref.gq
theorem f67 {orc : FuncId → Bool} {e : Ex} (h : ExLe Q e (E orc)) (v0 v1 : Value) (G : GS) : Ref (s67 true e v0 v1 G) ((E orc).cl 67 [v0, v1] G) :=
  fun r hr => cl_sxE_some Q orc (vs := [v0, v1]) G Try.func67 (by kernel_rfl) (by kernel_rfl) (by kernel_rfl) (by kernel_rfl) (by kernel_rfl) (by kernel_rfl) (m67 h v0 v1 G r hr)
/-- coxswain/ring.NewPush -/
noncomputable def s68 (q : Bool) (e : Ex) (v0 v1 : Value) (G : GS) : Option (Value × GS) :=
  bS (bx q v0 G) fun x0 G1 =>
  bP (lda Q q 91 4 x0 G1) fun x2 =>
  bS (e.ev.cl 102 [x2] G1) fun x3 G4 =>
  bP (bd Q q 195 z195 [(0, 0, 7), (1, 7, 1)] [x3, v1]) fun x5 =>
  bS (bx q x5 G4) fun x6 G7 =>
  bP (pNil x6) fun x8 =>
  bP (fa Q q 195 0 0 x8) fun x9 =>
  bP (fa Q q 192 3 6 x9) fun x10 =>
  bP (ld Q q 41 x10 G7) fun x11 =>
  bP (bn Q q .neq 41 (.tmp 22) (.const (.int .i64 0)) x11 (.int .i64 0)) fun x12 =>
  ifV x12 (
  some (x6, G7)) (
  bP (bn Q q .lss 3 (.tmp 25) (.const (.int .i64 0)) v1 (.int .i64 0)) fun x13 =>
  bS (gd x13 false (some (v1, G7)) G7) fun x14 G15 =>
  bS (gd x13 false (bP (bn Q q .gtr 3 (.tmp 28) (.const (.int .i64 65535)) x14 (.int .i64 65535)) fun y => some (y, G15)) G15) fun x16 G17 =>
  bP (pickV x13 (.bool true) x16) fun x18 =>
  ifV x18 (
  bP (pNil x6) fun x19 =>
  bP (fa Q q 195 0 0 x19) fun x20 =>
  bS (e.ev.cl 103 [x20, (.int .i64 3)] G17) fun x21 G22 =>
  some (x6, G22)) (
  bP (pNil x6) fun x23 =>
  bP (fa Q q 195 0 0 x23) fun x24 =>
  bP (fa Q q 192 1 4 x24) fun x25 =>
  bP (st Q q 111 1 x25 (.func (.func 104) #[x6] #[]) G17) fun G26 =>
  some (x6, G26)))
theorem m68 {e : Ex} {E : Ev} (h : ExLe Q e E) (v0 v1 : Value) (G : GS) : Ref (s68 true e v0 v1 G) (s68 false (Ex.of E) v0 v1 G) := by
  unfold s68
  exact Ref.gq
theorem f68 {orc : FuncId → Bool} {e : Ex} (h : ExLe Q e (E orc)) (v0 v1 : Value) (G : GS) : Ref (s68 true e v0 v1 G) ((E orc).cl 68 [v0, v1] G) :=
  fun r hr => cl_sxE_some Q orc (vs := [v0, v1]) G Try.func68 (by kernel_rfl) (by kernel_rfl) (by kernel_rfl) (by kernel_rfl) (by kernel_rfl) (by kernel_rfl) (m68 h v0 v1 G r hr)
/-- coxswain/ring.NewFront -/
noncomputable def s69 (q : Bool) (e : Ex) (v0 : Value) (G : GS) : Option (Value × GS) :=
  bS (bx q v0 G) fun x0 G1 =>
  bP (lda Q q 91 4 x0 G1) fun x2 =>
  bS (e.ev.cl 102 [x2] G1) fun x3 G4 =>
  bP (bd Q q 197 z197 [(0, 0, 7)] [x3]) fun x5 =>
  bS (bx q x5 G4) fun x6 G7 =>
  bP (pNil x6) fun x8 =>
  bP (fa Q q 197 0 0 x8) fun x9 =>
  bP (fa Q q 192 3 6 x9) fun x10 =>
  bP (ld Q q 41 x10 G7) fun x11 =>
  bP (bn Q q .eql 41 (.tmp 12) (.const (.int .i64 0)) x11 (.int .i64 0)) fun x12 =>
  ifV x12 (
  bP (pNil x6) fun x13 =>
  bP (fa Q q 197 0 0 x13) fun x14 =>
  bP (fa Q q 192 1 4 x14) fun x15 =>
  bP (st Q q 111 1 x15 (.func (.func 105) #[x6] #[]) G7) fun G16 =>
  some (x6, G16)) (
  some (x6, G7))
theorem m69 {e : Ex} {E : Ev} (h : ExLe Q e E) (v0 : Value) (G : GS) : Ref (s69 true e v0 G) (s69 false (Ex.of E) v0 G) := by
  unfold s69
  exact Ref.gq
theorem f69 {orc : FuncId → Bool} {e : Ex} (h : ExLe Q e (E orc)) (v0 : Value) (G : GS) : Ref (s69 true e v0 G) ((E orc).cl 69 [v0] G) :=
  fun r hr => cl_sxE_some Q orc (vs := [v0]) G Try.func69 (by kernel_rfl) (by kernel_rfl) (by kernel_rfl) (by kernel_rfl) (by kernel_rfl) (by kernel_rfl) (m69 h v0 G r hr)
/-- slices.Clone[[]int,int] -/
noncomputable def s70 (q : Bool) (e : Ex) (v0 : Value) (G : GS) : Option (Value × GS) :=
  bP (es Q q false 22 (.tmp 3) (.const (.slice none 0 0)) v0 (.slice none 0 0)) fun x0 =>
  ifV x0 (
  some ((.slice none 0 0), G)) (
  bS (bs Q q 22 0 (rep z3 0) 1 [] [] G) fun x1 G2 =>
  bS (ap Q q 22 22 1 8 x1 v0 G2) fun x3 G4 =>
  some (x3, G4))
theorem m70 {e : Ex} {E : Ev} (h : ExLe Q e E) (v0 : Value) (G : GS) : Ref (s70 true e v0 G) (s70 false (Ex.of E) v0 G) := by
  unfold s70
  exact Ref.gq
theorem f70 {orc : FuncId → Bool} {e : Ex} (h : ExLe Q e (E orc)) (v0 : Value) (G : GS) : Ref (s70 true e v0 G) ((E orc).cl 70 [v0] G) :=
  fun r hr => cl_sxE_some Q orc (vs := [v0]) G Try.func70 (by kernel_rfl) (by kernel_rfl) (by kernel_rfl) (by kernel_rfl) (by kernel_rfl) (by kernel_rfl) (m70 h v0 G r hr)
/-- coxswain/mail.Fill -/
noncomputable def s71 (q : Bool) (e : Ex) (v0 v1 : Value) (G : GS) : Option (Value × GS) :=
  bS (bx q v0 G) fun x0 G1 =>
  bS (bx q v1 G1) fun x2 G3 =>
  bP (lda Q q 55 3 x0 G3) fun x4 =>
  bS (e.ev.cl 65 [x4] G3) fun x5 G6 =>
  bP (un Q q .not x5) fun x7 =>
  ifV x7 (
  some (.tuple #[], G6)) (
  bP (lda Q q 55 3 x0 G6) fun x8 =>
  bS (e.ev.cl 64 [x8] G6) fun x9 G10 =>
  bX (xRange e.ev x9 #[11, 12] (subAt [1, 1, 1, 0, 0] (bodyOf Try.f71)) (subAt [1, 1, 1, 0, 1] (bodyOf Try.f71)) (lsq q 16 (nth undef [v0, v1]) [(10, x9), (9, x8), (8, x7), (7, x5), (6, x4), (3, x2), (2, x0)]) G10) fun e11 T12 G13 =>
  ifE e11 .normal (
  some (.tuple #[], G13)) (none))
theorem m71 {e : Ex} {E : Ev} (h : ExLe Q e E) (v0 v1 : Value) (G : GS) : Ref (s71 true e v0 v1 G) (s71 false (Ex.of E) v0 v1 G) := by
  unfold s71
  exact Ref.gq
theorem f71 {orc : FuncId → Bool} {e : Ex} (h : ExLe Q e (E orc)) (v0 v1 : Value) (G : GS) : Ref (s71 true e v0 v1 G) ((E orc).cl 71 [v0, v1] G) :=
  fun r hr => cl_sxE_some Q orc (vs := [v0, v1]) G Try.func71 (by kernel_rfl) (by kernel_rfl) (by kernel_rfl) (by kernel_rfl) (by kernel_rfl) (by kernel_rfl) (m71 h v0 v1 G r hr)
noncomputable def r71_0 (q : Bool) (e : Ex) (l : Nat) (τ : Env) (u0 u1 : Value) (G : GS) : Option (Value × GS) :=
  bV q (τ 3) fun a3_ =>
  bS (al Q q 91 z91 G) fun x0 G1 =>
  bP (st Q q 91 4 x0 u1 G1) fun G2 =>
  bP (G2.loop l) fun r3 => if r3.st = .ready then
  bP (lda Q q 91 4 x0 (G2.putLoop l (Lp.setSt r3 .busy))) fun x4 =>
  bP (ld Q q 34 a3_ (G2.putLoop l (Lp.setSt r3 .busy))) fun x5 =>
  bS (e.ev.cl 106 [x4, x5] (G2.putLoop l (Lp.setSt r3 .busy))) fun x6 G7 =>
  roundEnd l .normal G7
  else none
theorem mr71_0 {e : Ex} {E : Ev} (h : ExLe Q e E) (l : Nat) (τ : Env) (u0 u1 : Value) (G : GS) : Ref (r71_0 true e l τ u0 u1 G) (r71_0 false (Ex.of E) l τ u0 u1 G) := by
  unfold r71_0
  repeat' (with_reducible first | exact Ref.rfl' _ | exact ROp.r | refine Ref.bP ?_ fun _ => ?_ | refine Ref.bS ?_ fun _ _ => ?_ | exact Ref.cl (by assumption) | refine Ref.ifV ?_ ?_ | refine LpLe.rx (by assumption) ?_ | refine Ref.xitq ?_ | exact UOk.z | refine UOk.c (by assumption) ?_ | exact Ref.nil _ | refine Ref.bVe fun _ _ => ?_ | refine Ref.bLq (by assumption) ?_ fun _ _ _ => ?_ | refine Ref.ifE ?_ ?_ | refine Ref.chk ?_ ?_ | refine Imp.and ?_ ?_ | refine Imp.or ?_ | exact Imp.rfl' _ | refine Imp.sameO ?_ | refine Ref.gd ?_ | exact Ref.cValue (by assumption) | refine Ref.bX ?_ fun _ _ _ => ?_ | exact Ref.scQ (by assumption) | exact Ref.xRangeQ (by assumption) | exact Ref.cInvoke (by assumption) | refine Ref.rdy ?_)
theorem d71_0 {orc : FuncId → Bool} {e : Ex} (h : ExLe Q e (E orc)) (l : Nat) (T : List Value) (u0 u1 : Value) (G : GS) {st : LoopState} {pend : Option Code} (hl : G.loop l = some ⟨st, pend, T, [11, 12], (subAt [1, 1, 1, 0, 0] (bodyOf Try.f71)), (subAt [1, 1, 1, 0, 1] (bodyOf Try.f71))⟩) (hT : T.length = 16) : Ref (r71_0 true e l (nth undef T) u0 u1 G) ((E orc).rd l [u0, u1] G) :=
  fun r hr => rd_sxE Q orc hl (by kernel_rfl) hT (by kernel_rfl) (mr71_0 h l _ u0 u1 G r hr)
/-- (*coxswain/mail.Send).Step -/
noncomputable def s72 (q : Bool) (e : Ex) (v0 v1 : Value) (G : GS) : Option (Value × GS) :=
  bP (ep Q q false 53 (.tmp 6) (.const (.pointer none)) v0 (.pointer none)) fun x0 =>
  bS (gd x0 false (some (v0, G)) G) fun x1 G2 =>
  bS (gd x0 false (bP (pNil x1) fun y => some (y, G2)) G2) fun x3 G4 =>
  bS (gd x0 false (bP (fa Q q 146 1 1 x3) fun y => some (y, G4)) G4) fun x5 G6 =>
  bS (gd x0 false (bP (ld Q q 144 x5 G6) fun y => some (y, G6)) G6) fun x7 G8 =>
  bS (gd x0 false (bP (ep Q q false 144 (.tmp 12) (.const (.pointer none)) x7 (.pointer none)) fun y => some (y, G8)) G8) fun x9 G10 =>
  bP (pickV x0 (.bool true) x9) fun x11 =>
  ifV x11 (
  some ((.bool true), G10)) (
  bP (pNil v0) fun x12 =>
  bP (fa Q q 146 1 1 x12) fun x13 =>
  bP (ld Q q 144 x13 G10) fun x14 =>
  bS (e.ev.cl 107 [x14, v1] G10) fun x15 G16 =>
  ifV x15 (
  bP (pNil v0) fun x17 =>
  bP (fa Q q 146 1 1 x17) fun x18 =>
  bP (ld Q q 144 x18 G16) fun x19 =>
  bS (e.ev.cl 108 [x19] G16) fun x20 G21 =>
  bP (pNil v0) fun x22 =>
  bP (fa Q q 146 2 2 x22) fun x23 =>
  bP (st Q q 41 1 x23 x20 G21) fun G24 =>
  bP (pNil v0) fun x25 =>
  bP (fa Q q 146 1 1 x25) fun x26 =>
  bP (st Q q 144 1 x26 (.pointer none) G24) fun G27 =>
  some (x15, G27)) (
  some (x15, G16)))
theorem m72 {e : Ex} {E : Ev} (h : ExLe Q e E) (v0 v1 : Value) (G : GS) : Ref (s72 true e v0 v1 G) (s72 false (Ex.of E) v0 v1 G) := by
  unfold s72
  exact Ref.gq
theorem f72 {orc : FuncId → Bool} {e : Ex} (h : ExLe Q e (E orc)) (v0 v1 : Value) (G : GS) : Ref (s72 true e v0 v1 G) ((E orc).cl 72 [v0, v1] G) :=
  fun r hr => cl_sxE_some Q orc (vs := [v0, v1]) G Try.func72 (by kernel_rfl) (by kernel_rfl) (by kernel_rfl) (by kernel_rfl) (by kernel_rfl) (by kernel_rfl) (m72 h v0 v1 G r hr)
/-- (*coxswain/coxswainlaw25.crew).arrived -/
noncomputable def s73 (q : Bool) (e : Ex) (v0 v1 : Value) (G : GS) : Option (Value × GS) :=
  bP (pNil v0) fun x0 =>
  bP (fa Q q 61 0 0 x0) fun x1 =>
  bP (lda Q q 55 3 x1 G) fun x2 =>
  bS (e.ev.cl 30 [x2, v1] G) fun x3 G4 =>
  bP (pExtract x3 0) fun x5 =>
  bP (pExtract x3 1) fun x6 =>
  bS (al Q q 91 z91 G4) fun x7 G8 =>
  bP (st Q q 91 4 x7 x5 G8) fun G9 =>
  bP (pNil v0) fun x10 =>
  bP (fa Q q 61 1 3 x10) fun x11 =>
  bP (ld Q q 34 x11 G9) fun x12 =>
  bS (e.ev.cl 109 [x12] G9) fun x13 G14 =>
  bS (al Q q 79 z79 G14) fun x15 G16 =>
  bP (st Q q 79 5 x15 x13 G16) fun G17 =>
  bP (fa Q q 79 0 0 x15) fun x18 =>
  bP (ld Q q 3 x18 G17) fun x19 =>
  bP (bn Q q .eql 3 (.tmp 23) (.const (.int .i64 3)) x19 (.int .i64 3)) fun x20 =>
  bS (gd x20 true (bP (fa Q q 79 4 4 x15) fun y => some (y, G17)) G17) fun x21 G22 =>
  bS (gd x20 true (bP (ld Q q 4 x21 G22) fun y => some (y, G22)) G22) fun x23 G24 =>
  bP (pickV x20 x23 (.bool false)) fun x25 =>
  bS (gd x25 true (bP (fa Q q 79 1 1 x15) fun y => some (y, G24)) G24) fun x26 G27 =>
  bS (gd x25 true (bP (ld Q q 3 x26 G27) fun y => some (y, G27)) G27) fun x28 G29 =>
  bS (gd x25 true (bP (fa Q q 91 2 2 x7) fun y => some (y, G29)) G29) fun x30 G31 =>
  bS (gd x25 true (bP (ld Q q 3 x30 G31) fun y => some (y, G31)) G31) fun x32 G33 =>
  bS (gd x25 true (bP (bn Q q .geq 3 (.tmp 31) (.tmp 33) x28 x32) fun y => some (y, G33)) G33) fun x34 G35 =>
  bP (pickV x25 x34 (.bool false)) fun x36 =>
  bS (gd x36 true (bP (fa Q q 79 1 1 x15) fun y => some (y, G35)) G35) fun x37 G38 =>
  bS (gd x36 true (bP (ld Q q 3 x37 G38) fun y => some (y, G38)) G38) fun x39 G40 =>
  bS (gd x36 true (bP (fa Q q 91 2 2 x7) fun y => some (y, G40)) G40) fun x41 G42 =>
  bS (gd x36 true (bP (ld Q q 3 x41 G42) fun y => some (y, G42)) G42) fun x43 G44 =>
  bS (gd x36 true (bP (fa Q q 91 3 3 x7) fun y => some (y, G44)) G44) fun x45 G46 =>
  bS (gd x36 true (bP (ld Q q 3 x45 G46) fun y => some (y, G46)) G46) fun x47 G48 =>
  bS (gd x36 true (bP (bn Q q .add 3 (.tmp 40) (.tmp 42) x43 x47) fun y => some (y, G48)) G48) fun x49 G50 =>
  bS (gd x36 true (bP (bn Q q .lss 3 (.tmp 38) (.tmp 43) x39 x49) fun y => some (y, G50)) G50) fun x51 G52 =>
  bP (pickV x36 x51 (.bool false)) fun x53 =>
  some (x53, G52)
theorem m73 {e : Ex} {E : Ev} (h : ExLe Q e E) (v0 v1 : Value) (G : GS) : Ref (s73 true e v0 v1 G) (s73 false (Ex.of E) v0 v1 G) := by
  unfold s73
  exact Ref.gq
theorem f73 {orc : FuncId → Bool} {e : Ex} (h : ExLe Q e (E orc)) (v0 v1 : Value) (G : GS) : Ref (s73 true e v0 v1 G) ((E orc).cl 73 [v0, v1] G) :=
  fun r hr => cl_sxE_some Q orc (vs := [v0, v1]) G Try.func73 (by kernel_rfl) (by kernel_rfl) (by kernel_rfl) (by kernel_rfl) (by kernel_rfl) (by kernel_rfl) (m73 h v0 v1 G r hr)
noncomputable def b74_0 (q : Bool) (e : Ex) (lp : Env → GS → Option (Exit × Env × GS)) (τ : Env) (G : GS) : Option (Exit × Env × GS) :=
  bV q (τ 0) fun a0_ =>
  bV q (τ 1) fun a1_ =>
  bV q (τ 5) fun a5_ =>
  bP (ln Q q 22 a0_) fun x0 =>
  bP (bn Q q .lss 3 (.tmp 6) (.tmp 8) a5_ x0) fun x1 =>
  ifV x1 (
  bP (ias Q q 22 1 a0_ a5_) fun x2 =>
  bP (ld Q q 3 x2 G) fun x3 =>
  bP (bn Q q .eql 3 (.tmp 15) (.tmp 16) x3 a1_) fun x4 =>
  ifV x4 (
  some (.ret, xq q 18 τ [(4, (.bool true)), (17, x4), (16, a1_), (15, x3), (14, x2), (13, a5_), (12, a0_), (9, x1), (8, x0), (7, a0_), (6, a5_)] [(0, a0_), (1, a1_), (5, a5_)], G)) (
  bP (bn Q q .add 3 (.tmp 10) (.const (.int .i64 1)) a5_ (.int .i64 1)) fun x5 =>
  lp (xq q 18 τ [(5, x5), (11, x5), (10, a5_), (17, x4), (16, a1_), (15, x3), (14, x2), (13, a5_), (12, a0_), (9, x1), (8, x0), (7, a0_), (6, a5_)] [(0, a0_), (1, a1_)]) G)) (
  some ((.exit 0), xq q 18 τ [(9, x1), (8, x0), (7, a0_), (6, a5_)] [(0, a0_), (1, a1_), (5, a5_)], G))
theorem mb74_0 {e : Ex} {E : Ev} (h : ExLe Q e E) {lp lp' : Env → GS → Option (Exit × Env × GS)} (hlp : LpLe lp lp') (τ : Env) (G : GS) : Ref (b74_0 true e lp τ G) (b74_0 false (Ex.of E) lp' τ G) := by
  unfold b74_0
  exact Ref.gq
theorem l74_0 {orc : FuncId → Bool} {e : Ex} (h : ExLe Q e (E orc)) (lp : Env → GS → Option (Exit × Env × GS)) (hlp : ∀ τ G, Ref (lp τ G) (mapE ((E orc).lp (subAt [1, 0, 1, 0, 0] (bodyOf Try.f74)) (lst 18 τ) G))) (T : List Value) (G : GS) (hT : T.length = 18) : Ref (b74_0 true e lp (nth undef T) G) (mapE ((E orc).lp (subAt [1, 0, 1, 0, 0] (bodyOf Try.f74)) T G)) :=
  fun r hr => lp_sxN Q orc G hT (by kernel_rfl) (mb74_0 h ⟨hlp⟩ _ _ r hr)
/-- coxswain/coxswainkit.Among -/
noncomputable def s74 (q : Bool) (e : Ex) (v0 v1 : Value) (G : GS) : Option (Value × GS) :=
  bLq q e 74 0 (subAt [1, 0, 1, 0, 0] (bodyOf Try.f74)) 18 (nth undef [v0, v1]) [(5, (.int .i64 0)), (4, (.bool false))] [] G fun e0 t1 G2 =>
  bV q (t1 4) fun t1x4_ =>
  ifE e0 (.exit 0) (
  some ((.bool false), G2)) (ifE e0 .ret (
  some (t1x4_, G2)) (none))
theorem m74 {e : Ex} {E : Ev} (h : ExLe Q e E) (v0 v1 : Value) (G : GS) : Ref (s74 true e v0 v1 G) (s74 false (Ex.of E) v0 v1 G) := by
  unfold s74
  exact Ref.gq
theorem f74 {orc : FuncId → Bool} {e : Ex} (h : ExLe Q e (E orc)) (v0 v1 : Value) (G : GS) : Ref (s74 true e v0 v1 G) ((E orc).cl 74 [v0, v1] G) :=
  fun r hr => cl_sxE_some Q orc (vs := [v0, v1]) G Try.func74 (by kernel_rfl) (by kernel_rfl) (by kernel_rfl) (by kernel_rfl) (by kernel_rfl) (by kernel_rfl) (m74 h v0 v1 G r hr)
noncomputable def jb75_0 (q : Bool) (e : Ex) (τ : Env) (G : GS) : Option (Value × GS) :=
  bV q (τ 0) fun a0_ =>
  bV q (τ 1) fun a1_ =>
  bV q (τ 4) fun a4_ =>
  bV q (τ 6) fun a6_ =>
  bP (pNil a0_) fun x21 =>
  bP (fa Q q 61 9 11 x21) fun x22 =>
  bP (ld Q q 59 x22 (G.room 12)) fun x23 =>
  bP (fa Q q 79 1 1 a6_) fun x24 =>
  bP (ld Q q 3 x24 (G.room 12)) fun x25 =>
  bP (fa Q q 91 0 0 a4_) fun x26 =>
  bP (ld Q q 3 x26 (G.room 12)) fun x27 =>
  bP (bn Q q .neq 3 (.tmp 44) (.tmp 46) x25 x27) fun x28 =>
  bP (ias Q q 59 1 x23 a1_) fun x29 =>
  bP (st Q q 4 1 x29 x28 (G.room 12)) fun G30 =>
  some (.tuple #[], G30)
noncomputable def j75_0 (q : Bool) (e : Ex) (τ : Env) (G : GS) : Option (Value × GS) := jb75_0 q e τ G
theorem mj75_0 {e : Ex} {E : Ev} (h : ExLe Q e E) (τ : Env) (G : GS) : Ref (j75_0 true e τ G) (j75_0 false (Ex.of E) τ G) := by
  unfold j75_0 jb75_0
  exact Ref.gq
theorem mkj75_0 {e : Ex} {E : Ev} (h : ExLe Q e E) {τ : Env} {l U : List (Nat × Value)} {G : GS} (hU : UOk τ U) : Ref (j75_0 true e (xq true 49 τ l U) G) (j75_0 false (Ex.of E) (xq false 49 τ l U) G) := by
  rw [xq_eq hU]
  exact mj75_0 h _ _
noncomputable def sb75 (q : Bool) (e : Ex) (J0 : Env → GS → Option (Value × GS)) (v0 v1 : Value) (G : GS) : Option (Value × GS) :=
  bP (pNil v0) fun x0 =>
  bP (fa Q q 61 0 0 x0) fun x1 =>
  bP (lda Q q 55 3 x1 G) fun x2 =>
  bS (e.ev.cl 30 [x2, v1] G) fun x3 G4 =>
  bP (pExtract x3 0) fun x5 =>
  bP (pExtract x3 1) fun x6 =>
  bS (al Q q 91 z91 G4) fun x7 G8 =>
  bP (st Q q 91 4 x7 x5 G8) fun G9 =>
  bP (pNil v0) fun x10 =>
  bP (fa Q q 61 1 3 x10) fun x11 =>
  bP (ld Q q 34 x11 G9) fun x12 =>
  bS (e.ev.cl 109 [x12] G9) fun x13 G14 =>
  bS (al Q q 79 z79 G14) fun x15 G16 =>
  bP (st Q q 79 5 x15 x13 G16) fun G17 =>
  bP (fa Q q 79 0 0 x15) fun x18 =>
  bP (ld Q q 3 x18 G17) fun x19 =>
  bP (bn Q q .neq 3 (.tmp 22) (.const (.int .i64 2)) x19 (.int .i64 2)) fun x20 =>
  ifV x20 (
  some (.tuple #[], G17)) (
  bP (fa Q q 79 1 1 x15) fun x31 =>
  bP (ld Q q 3 x31 G17) fun x32 =>
  bP (fa Q q 91 0 0 x7) fun x33 =>
  bP (ld Q q 3 x33 G17) fun x34 =>
  bP (bn Q q .eql 3 (.tmp 25) (.tmp 27) x32 x34) fun x35 =>
  ifV x35 (
  bP (pNil v0) fun x36 =>
  bP (fa Q q 61 8 10 x36) fun x37 =>
  bP (ld Q q 22 x37 G17) fun x38 =>
  bP (ias Q q 22 1 x38 v1) fun x39 =>
  bP (ld Q q 3 x39 G17) fun x40 =>
  bP (bn Q q .add 3 (.tmp 35) (.const (.int .i64 1)) x40 (.int .i64 1)) fun x41 =>
  bP (ias Q q 22 1 x38 v1) fun x42 =>
  bP (st Q q 3 1 x42 x41 G17) fun G43 =>
  J0 (xq q 49 (nth undef [v0, v1]) [(37, x42), (36, x41), (35, x40), (34, x39), (33, v1), (32, x38), (31, x37), (30, x36), (29, v0), (28, x35), (27, x34), (26, x33), (25, x32), (24, x31), (23, x20), (22, x19), (21, x18), (6, x15), (20, x13), (19, x12), (18, x11), (17, x10), (16, v0), (5, x6), (4, x7), (15, x6), (14, x5), (7, x3), (13, x3), (12, v1), (11, x2), (10, x1), (9, x0), (8, v0)] []) G43) (
  J0 (xq q 49 (nth undef [v0, v1]) [(28, x35), (27, x34), (26, x33), (25, x32), (24, x31), (23, x20), (22, x19), (21, x18), (6, x15), (20, x13), (19, x12), (18, x11), (17, x10), (16, v0), (5, x6), (4, x7), (15, x6), (14, x5), (7, x3), (13, x3), (12, v1), (11, x2), (10, x1), (9, x0), (8, v0)] []) G17))
/-- (*coxswain/coxswainlaw25.crew).leaves -/
noncomputable def s75 (q : Bool) (e : Ex) (v0 v1 : Value) (G : GS) : Option (Value × GS) := sb75 q e (j75_0 q e) v0 v1 G
theorem m75 {e : Ex} {E : Ev} (h : ExLe Q e E) (v0 v1 : Value) (G : GS) : Ref (s75 true e v0 v1 G) (s75 false (Ex.of E) v0 v1 G) := by
  unfold s75 sb75
  repeat' (with_reducible first | exact Ref.rfl' _ | exact ROp.r | refine Ref.bP ?_ fun _ => ?_ | refine Ref.bS ?_ fun _ _ => ?_ | exact Ref.cl (by assumption) | refine Ref.ifV ?_ ?_ | refine LpLe.rx (by assumption) ?_ | refine Ref.xitq ?_ | exact UOk.z | refine UOk.c (by assumption) ?_ | exact Ref.nil _ | refine Ref.bVe fun _ _ => ?_ | refine Ref.bLq (by assumption) ?_ fun _ _ _ => ?_ | refine Ref.ifE ?_ ?_ | refine Ref.chk ?_ ?_ | refine Imp.and ?_ ?_ | refine Imp.or ?_ | exact Imp.rfl' _ | refine Imp.sameO ?_ | refine Ref.gd ?_ | exact Ref.cValue (by assumption) | refine Ref.bX ?_ fun _ _ _ => ?_ | exact Ref.scQ (by assumption) | exact Ref.xRangeQ (by assumption) | exact Ref.cInvoke (by assumption) | refine mkj75_0 (by assumption) ?_)
noncomputable def jt75 (J0 : Env → GS → Option (Value × GS)) : JT (Value × GS) :=
  (.n none .e (.n none .e (.n none .e (.n (some (fun T G => J0 (nth undef T) G)) .e .e))))
theorem jr75_0 (orc : FuncId → Bool) (J0 : Env → GS → Option (Value × GS)) (T : List Value) (G : GS) : runC Q (evL Q orc) Try.f75.ntmps (jt75 J0) (bodyOf Try.f75) (retE Q Try.f75.results.toList) [true, true, true] (nth undef T) G = jb75_0 false (Ex.of (E orc))  (nth undef T) G := by kernel_rfl
theorem jo75 (orc : FuncId → Bool) : JOk Q orc Try.f75.ntmps (jt75 (j75_0 false (Ex.of (E orc))) ) (bodyOf Try.f75) (retE Q Try.f75.results.toList) :=
  jOk Q orc (l := [([true, true, true], (fun T G => j75_0 false (Ex.of (E orc)) (nth undef T) G))]) (by kernel_rfl) (AllE.c (fun T G => jr75_0 orc (j75_0 false (Ex.of (E orc))) T G) (AllE.z))
theorem je75 (orc : FuncId → Bool) (J0 : Env → GS → Option (Value × GS)) (v0 v1 : Value) (G : GS) : sxC Q (evL Q orc) Try.f75.ntmps (jt75 J0) (bodyOf Try.f75) (nth undef [v0, v1]) G (retE Q Try.f75.results.toList) = sb75 false (Ex.of (E orc)) J0 v0 v1 G := by kernel_rfl
theorem f75 {orc : FuncId → Bool} {e : Ex} (h : ExLe Q e (E orc)) (v0 v1 : Value) (G : GS) : Ref (s75 true e v0 v1 G) ((E orc).cl 75 [v0, v1] G) :=
  fun r hr => cl_sxC Q orc (vs := [v0, v1]) G (jt75 (j75_0 false (Ex.of (E orc))) ) Try.func75 (by kernel_rfl) (by kernel_rfl) (by kernel_rfl) (by kernel_rfl) (by kernel_rfl) (jo75 orc) (je75 orc (j75_0 false (Ex.of (E orc))) v0 v1 G) (m75 h v0 v1 G r hr)
/-- coxswain/ring.sized -/
noncomputable def s76 (q : Bool) (e : Ex) (v0 : Value) (G : GS) : Option (Value × GS) :=
  bS (bx q v0 G) fun x0 G1 =>
  bP (fa Q q 91 3 3 x0) fun x2 =>
  bP (ld Q q 3 x2 G1) fun x3 =>
  bP (bn Q q .geq 3 (.tmp 4) (.const (.int .i64 1)) x3 (.int .i64 1)) fun x4 =>
  bS (gd x4 true (bP (fa Q q 91 3 3 x0) fun y => some (y, G1)) G1) fun x5 G6 =>
  bS (gd x4 true (bP (ld Q q 3 x5 G6) fun y => some (y, G6)) G6) fun x7 G8 =>
  bS (gd x4 true (bP (bn Q q .leq 3 (.tmp 8) (.const (.int .i64 4096)) x7 (.int .i64 4096)) fun y => some (y, G8)) G8) fun x9 G10 =>
  bP (pickV x4 x9 (.bool false)) fun x11 =>
  some (x11, G10)
theorem m76 {e : Ex} {E : Ev} (h : ExLe Q e E) (v0 : Value) (G : GS) : Ref (s76 true e v0 G) (s76 false (Ex.of E) v0 G) := by
  unfold s76
  exact Ref.gq
theorem f76 {orc : FuncId → Bool} {e : Ex} (h : ExLe Q e (E orc)) (v0 : Value) (G : GS) : Ref (s76 true e v0 G) ((E orc).cl 76 [v0] G) :=
  fun r hr => cl_sxE_some Q orc (vs := [v0]) G Try.func76 (by kernel_rfl) (by kernel_rfl) (by kernel_rfl) (by kernel_rfl) (by kernel_rfl) (by kernel_rfl) (m76 h v0 G r hr)
/-- coxswain/ring.All$1 -/
noncomputable def s77 (q : Bool) (e : Ex) (v0 v1 : Value) (G : GS) : Option (Value × GS) :=
  bP (bn Q q .lss 3 (.tmp 4) (.const (.int .i64 0)) v0 (.int .i64 0)) fun x0 =>
  bS (gd x0 false (some (v0, G)) G) fun x1 G2 =>
  bS (gd x0 false (bP (ld Q q 29 v1 G2) fun y => some (y, G2)) G2) fun x3 G4 =>
  bS (gd x0 false (bP (ln Q q 29 x3) fun y => some (y, G4)) G4) fun x5 G6 =>
  bS (gd x0 false (bP (bn Q q .geq 3 (.tmp 7) (.tmp 9) x1 x5) fun y => some (y, G6)) G6) fun x7 G8 =>
  bP (pickV x0 (.bool true) x7) fun x9 =>
  ifV x9 (
  some ((.int .u64 0), G8)) (
  bP (ld Q q 29 v1 G8) fun x10 =>
  bP (ias Q q 29 1 x10 v0) fun x11 =>
  bP (ld Q q 28 x11 G8) fun x12 =>
  some (x12, G8))
theorem m77 {e : Ex} {E : Ev} (h : ExLe Q e E) (v0 v1 : Value) (G : GS) : Ref (s77 true e v0 v1 G) (s77 false (Ex.of E) v0 v1 G) := by
  unfold s77
  exact Ref.gq
theorem f77 {orc : FuncId → Bool} {e : Ex} (h : ExLe Q e (E orc)) (v0 v1 : Value) (G : GS) : Ref (s77 true e v0 v1 G) ((E orc).cl 77 [v0, v1] G) :=
  fun r hr => cl_sxE_some Q orc (vs := [v0, v1]) G Try.func77 (by kernel_rfl) (by kernel_rfl) (by kernel_rfl) (by kernel_rfl) (by kernel_rfl) (by kernel_rfl) (m77 h v0 v1 G r hr)
/-- coxswain/ring.numbers -/
noncomputable def s78 (q : Bool) (e : Ex) (v0 v1 : Value) (G : GS) : Option (Value × GS) :=
  bS (bx q v0 G) fun x0 G1 =>
  bS (bx q v1 G1) fun x2 G3 =>
  some ((.func (.func 110) #[] #[x2, x0]), G3)
theorem m78 {e : Ex} {E : Ev} (h : ExLe Q e E) (v0 v1 : Value) (G : GS) : Ref (s78 true e v0 v1 G) (s78 false (Ex.of E) v0 v1 G) := by
  unfold s78
  exact Ref.gq
theorem f78 {orc : FuncId → Bool} {e : Ex} (h : ExLe Q e (E orc)) (v0 v1 : Value) (G : GS) : Ref (s78 true e v0 v1 G) ((E orc).cl 78 [v0, v1] G) :=
  fun r hr => cl_sxE_some Q orc (vs := [v0, v1]) G Try.func78 (by kernel_rfl) (by kernel_rfl) (by kernel_rfl) (by kernel_rfl) (by kernel_rfl) (by kernel_rfl) (m78 h v0 v1 G r hr)
/-- coxswain/ring.place -/
noncomputable def s79 (q : Bool) (e : Ex) (v0 v1 : Value) (G : GS) : Option (Value × GS) :=
  bS (bx q v0 G) fun x0 G1 =>
  bP (fa Q q 91 2 2 x0) fun x2 =>
  bP (ld Q q 3 x2 (G1.room 10)) fun x3 =>
  bP (fa Q q 91 3 3 x0) fun x4 =>
  bP (ld Q q 3 x4 (G1.room 10)) fun x5 =>
  bP (cv Q q 3 28 .i64 .u64 x5) fun x6 =>
  bP (bn Q q .rem 28 (.tmp 7) (.tmp 10) v1 x6) fun x7 =>
  bP (cv Q q 28 3 .u64 .i64 x7) fun x8 =>
  bP (bn Q q .add 3 (.tmp 6) (.tmp 12) x3 x8) fun x9 =>
  some (x9, (G1.room 10))
theorem m79 {e : Ex} {E : Ev} (h : ExLe Q e E) (v0 v1 : Value) (G : GS) : Ref (s79 true e v0 v1 G) (s79 false (Ex.of E) v0 v1 G) := by
  unfold s79
  exact Ref.gq
theorem f79 {orc : FuncId → Bool} {e : Ex} (h : ExLe Q e (E orc)) (v0 v1 : Value) (G : GS) : Ref (s79 true e v0 v1 G) ((E orc).cl 79 [v0, v1] G) :=
  fun r hr => cl_sxE_some Q orc (vs := [v0, v1]) G Try.func79 (by kernel_rfl) (by kernel_rfl) (by kernel_rfl) (by kernel_rfl) (by kernel_rfl) (by kernel_rfl) (m79 h v0 v1 G r hr)
/-- (coxswain/ring.slot).value -/
noncomputable def s80 (q : Bool) (e : Ex) (v0 : Value) (G : GS) : Option (Value × GS) :=
  bP (bn Q q .and 162 (.tmp 3) (.const (.int .u64 65535)) v0 (.int .u64 65535)) fun x0 =>
  bP (cv Q q 162 3 .u64 .i64 x0) fun x1 =>
  some (x1, G)
theorem m80 {e : Ex} {E : Ev} (h : ExLe Q e E) (v0 : Value) (G : GS) : Ref (s80 true e v0 G) (s80 false (Ex.of E) v0 G) := by
  unfold s80
  exact Ref.gq
theorem f80 {orc : FuncId → Bool} {e : Ex} (h : ExLe Q e (E orc)) (v0 : Value) (G : GS) : Ref (s80 true e v0 G) ((E orc).cl 80 [v0] G) :=
  fun r hr => cl_sxE_some Q orc (vs := [v0]) G Try.func80 (by kernel_rfl) (by kernel_rfl) (by kernel_rfl) (by kernel_rfl) (by kernel_rfl) (by kernel_rfl) (m80 h v0 G r hr)
/-- (*coxswain/cells.Mem).cell -/
noncomputable def s88 (q : Bool) (e : Ex) (v0 v1 : Value) (G : GS) : Option (Value × GS) :=
  bP (ep Q q false 34 (.tmp 5) (.const (.pointer none)) v0 (.pointer none)) fun x0 =>
  bS (gd x0 false (some (v0, G)) G) fun x1 G2 =>
  bS (gd x0 false (bP (pNil x1) fun y => some (y, G2)) G2) fun x3 G4 =>
  bS (gd x0 false (bP (fa Q q 81 0 0 x3) fun y => some (y, G4)) G4) fun x5 G6 =>
  bS (gd x0 false (bP (ld Q q 77 x5 G6) fun y => some (y, G6)) G6) fun x7 G8 =>
  bS (gd x0 false (bP (ep Q q false 77 (.tmp 11) (.const (.pointer none)) x7 (.pointer none)) fun y => some (y, G8)) G8) fun x9 G10 =>
  bP (pickV x0 (.bool true) x9) fun x11 =>
  bS (gd x11 false (some (v1, G10)) G10) fun x12 G13 =>
  bS (gd x11 false (bP (bn Q q .lss 3 (.tmp 15) (.const (.int .i64 0)) x12 (.int .i64 0)) fun y => some (y, G13)) G13) fun x14 G15 =>
  bP (pickV x11 (.bool true) x14) fun x16 =>
  bS (gd x16 false (some (v1, G15)) G15) fun x17 G18 =>
  bS (gd x16 false (some (v0, G18)) G18) fun x19 G20 =>
  bS (gd x16 false (bP (pNil x19) fun y => some (y, G20)) G20) fun x21 G22 =>
  bS (gd x16 false (bP (fa Q q 81 1 1 x21) fun y => some (y, G22)) G22) fun x23 G24 =>
  bS (gd x16 false (bP (ld Q q 3 x23 G24) fun y => some (y, G24)) G24) fun x25 G26 =>
  bS (gd x16 false (bP (bn Q q .geq 3 (.tmp 19) (.tmp 23) x17 x25) fun y => some (y, G26)) G26) fun x27 G28 =>
  bP (pickV x16 (.bool true) x27) fun x29 =>
  ifV x29 (
  some ((.pointer none), G28)) (
  bP (pNil v0) fun x30 =>
  bP (fa Q q 81 0 0 x30) fun x31 =>
  bP (ld Q q 77 x31 G28) fun x32 =>
  bP (pNil x32) fun x33 =>
  bP (iaa Q q 123 4096 1 x33 v1) fun x34 =>
  some (x34, G28))
theorem m88 {e : Ex} {E : Ev} (h : ExLe Q e E) (v0 v1 : Value) (G : GS) : Ref (s88 true e v0 v1 G) (s88 false (Ex.of E) v0 v1 G) := by
  unfold s88
  exact Ref.gq
theorem f88 {orc : FuncId → Bool} {e : Ex} (h : ExLe Q e (E orc)) (v0 v1 : Value) (G : GS) : Ref (s88 true e v0 v1 G) ((E orc).cl 88 [v0, v1] G) :=
  fun r hr => cl_sxE_some Q orc (vs := [v0, v1]) G Try.func88 (by kernel_rfl) (by kernel_rfl) (by kernel_rfl) (by kernel_rfl) (by kernel_rfl) (by kernel_rfl) (m88 h v0 v1 G r hr)
noncomputable def jb89_0 (q : Bool) (e : Ex) (τ : Env) (G : GS) : Option (Value × GS) :=
  bV q (τ 0) fun a0_ =>
  bV q (τ 10) fun a10_ =>
  bP (pNil a0_) fun x28 =>
  bP (fa Q q 81 2 2 x28) fun x29 =>
  bP (lda Q q 79 5 x29 G) fun x30 =>
  bP (st Q q 79 5 a10_ x30 G) fun G31 =>
  bP (lda Q q 79 5 a10_ G31) fun x32 =>
  some (x32, G31)
noncomputable def j89_0 (q : Bool) (e : Ex) (τ : Env) (G : GS) : Option (Value × GS) := jb89_0 q e τ G
theorem mj89_0 {e : Ex} {E : Ev} (h : ExLe Q e E) (τ : Env) (G : GS) : Ref (j89_0 true e τ G) (j89_0 false (Ex.of E) τ G) := by
  unfold j89_0 jb89_0
  exact Ref.gq
theorem mkj89_0 {e : Ex} {E : Ev} (h : ExLe Q e E) {τ : Env} {l U : List (Nat × Value)} {G : GS} (hU : UOk τ U) : Ref (j89_0 true e (xq true 67 τ l U) G) (j89_0 false (Ex.of E) (xq false 67 τ l U) G) := by
  rw [xq_eq hU]
  exact mj89_0 h _ _
noncomputable def sb89 (q : Bool) (e : Ex) (J0 : Env → GS → Option (Value × GS)) (v0 v1 v2 v3 v4 : Value) (G : GS) : Option (Value × GS) :=
  bS (al Q q 79 z79 G) fun x0 G1 =>
  bP (ep Q q false 34 (.tmp 13) (.const (.pointer none)) v0 (.pointer none)) fun x2 =>
  bS (gd x2 false (some (v0, G1)) G1) fun x3 G4 =>
  bS (gd x2 false (bP (pNil x3) fun y => some (y, G4)) G4) fun x5 G6 =>
  bS (gd x2 false (bP (fa Q q 81 0 0 x5) fun y => some (y, G6)) G6) fun x7 G8 =>
  bS (gd x2 false (bP (ld Q q 77 x7 G8) fun y => some (y, G8)) G8) fun x9 G10 =>
  bS (gd x2 false (bP (ep Q q false 77 (.tmp 19) (.const (.pointer none)) x9 (.pointer none)) fun y => some (y, G10)) G10) fun x11 G12 =>
  bP (pickV x2 (.bool true) x11) fun x13 =>
  ifV x13 (
  bP (bd Q q 79 z79 [] []) fun x14 =>
  bP (st Q q 79 5 x0 x14 G12) fun G15 =>
  bP (lda Q q 79 5 x0 G15) fun x16 =>
  some (x16, G15)) (
  bP (pNil v0) fun x17 =>
  bP (fa Q q 81 3 7 x17) fun x18 =>
  bP (ld Q q 3 x18 G12) fun x19 =>
  bP (bn Q q .add 3 (.tmp 26) (.const (.int .i64 1)) x19 (.int .i64 1)) fun x20 =>
  bP (pNil v0) fun x21 =>
  bP (fa Q q 81 3 7 x21) fun x22 =>
  bP (st Q q 3 1 x22 x20 G12) fun G23 =>
  bP (bd Q q 79 z79 [(0, 0, 1), (1, 1, 1)] [v1, v2]) fun x24 =>
  bP (pNil v0) fun x25 =>
  bP (fa Q q 81 2 2 x25) fun x26 =>
  bP (st Q q 79 5 x26 x24 G23) fun G27 =>
  bS (e.ev.cl 122 [v3] G27) fun x33 G34 =>
  ifV x33 (
  bS (cValue e.ev v4 [] G34) fun x35 G36 =>
  bP (pExtract x35 0) fun x37 =>
  bP (pExtract x35 1) fun x38 =>
  bP (pNil v3) fun x39 =>
  bP (ld Q q 83 x39 G36) fun x40 =>
  bP (pNil v0) fun x41 =>
  bP (fa Q q 81 2 2 x41) fun x42 =>
  bP (fa Q q 79 2 2 x42) fun x43 =>
  bP (st Q q 28 1 x43 x40 G36) fun G44 =>
  bP (pNil v0) fun x45 =>
  bP (fa Q q 81 2 2 x45) fun x46 =>
  bP (fa Q q 79 3 3 x46) fun x47 =>
  bP (st Q q 28 1 x47 x37 G44) fun G48 =>
  bP (pNil v0) fun x49 =>
  bP (fa Q q 81 2 2 x49) fun x50 =>
  bP (fa Q q 79 4 4 x50) fun x51 =>
  bP (st Q q 4 1 x51 x38 G48) fun G52 =>
  bP (pNil v3) fun x53 =>
  bP (st Q q 83 1 x53 x37 G52) fun G54 =>
  J0 (xq q 67 (nth undef [v0, v1, v2, v3, v4]) [(62, x53), (61, x37), (60, v3), (59, x51), (58, x50), (57, x49), (56, x47), (55, x46), (54, x45), (53, x43), (52, x42), (51, x41), (50, x38), (49, x37), (48, x40), (47, x39), (46, v3), (45, v0), (44, v0), (43, v0), (12, x38), (11, x37), (42, x38), (41, x37), (38, x35), (40, x35), (39, v4), (37, x33), (36, v3), (35, x26), (34, x25), (33, x24), (32, v2), (31, v1), (30, v0), (29, x22), (28, x21), (27, x20), (26, x19), (25, x18), (24, x17), (23, v0), (21, x13), (20, x11), (19, x9), (18, x7), (17, x5), (16, x3), (15, x2), (14, x2), (13, v0), (10, x0)] []) G54) (
  J0 (xq q 67 (nth undef [v0, v1, v2, v3, v4]) [(37, x33), (36, v3), (35, x26), (34, x25), (33, x24), (32, v2), (31, v1), (30, v0), (29, x22), (28, x21), (27, x20), (26, x19), (25, x18), (24, x17), (23, v0), (21, x13), (20, x11), (19, x9), (18, x7), (17, x5), (16, x3), (15, x2), (14, x2), (13, v0), (10, x0)] []) G34))
/-- (*coxswain/cells.Mem).do -/
noncomputable def s89 (q : Bool) (e : Ex) (v0 v1 v2 v3 v4 : Value) (G : GS) : Option (Value × GS) := sb89 q e (j89_0 q e) v0 v1 v2 v3 v4 G
theorem m89 {e : Ex} {E : Ev} (h : ExLe Q e E) (v0 v1 v2 v3 v4 : Value) (G : GS) : Ref (s89 true e v0 v1 v2 v3 v4 G) (s89 false (Ex.of E) v0 v1 v2 v3 v4 G) := by
  unfold s89 sb89
  repeat' (with_reducible first | exact Ref.rfl' _ | exact ROp.r | refine Ref.bP ?_ fun _ => ?_ | refine Ref.bS ?_ fun _ _ => ?_ | exact Ref.cl (by assumption) | refine Ref.ifV ?_ ?_ | refine LpLe.rx (by assumption) ?_ | refine Ref.xitq ?_ | exact UOk.z | refine UOk.c (by assumption) ?_ | exact Ref.nil _ | refine Ref.bVe fun _ _ => ?_ | refine Ref.bLq (by assumption) ?_ fun _ _ _ => ?_ | refine Ref.ifE ?_ ?_ | refine Ref.chk ?_ ?_ | refine Imp.and ?_ ?_ | refine Imp.or ?_ | exact Imp.rfl' _ | refine Imp.sameO ?_ | refine Ref.gd ?_ | exact Ref.cValue (by assumption) | refine Ref.bX ?_ fun _ _ _ => ?_ | exact Ref.scQ (by assumption) | exact Ref.xRangeQ (by assumption) | exact Ref.cInvoke (by assumption) | refine mkj89_0 (by assumption) ?_)
noncomputable def jt89 (J0 : Env → GS → Option (Value × GS)) : JT (Value × GS) :=
  (.n none .e (.n none .e (.n none .e (.n none .e (.n (some (fun T G => J0 (nth undef T) G)) .e .e)))))
theorem jr89_0 (orc : FuncId → Bool) (J0 : Env → GS → Option (Value × GS)) (T : List Value) (G : GS) : runC Q (evL Q orc) Try.f89.ntmps (jt89 J0) (bodyOf Try.f89) (retE Q Try.f89.results.toList) [true, true, true, true] (nth undef T) G = jb89_0 false (Ex.of (E orc))  (nth undef T) G := by kernel_rfl
theorem jo89 (orc : FuncId → Bool) : JOk Q orc Try.f89.ntmps (jt89 (j89_0 false (Ex.of (E orc))) ) (bodyOf Try.f89) (retE Q Try.f89.results.toList) :=
  jOk Q orc (l := [([true, true, true, true], (fun T G => j89_0 false (Ex.of (E orc)) (nth undef T) G))]) (by kernel_rfl) (AllE.c (fun T G => jr89_0 orc (j89_0 false (Ex.of (E orc))) T G) (AllE.z))
theorem je89 (orc : FuncId → Bool) (J0 : Env → GS → Option (Value × GS)) (v0 v1 v2 v3 v4 : Value) (G : GS) : sxC Q (evL Q orc) Try.f89.ntmps (jt89 J0) (bodyOf Try.f89) (nth undef [v0, v1, v2, v3, v4]) G (retE Q Try.f89.results.toList) = sb89 false (Ex.of (E orc)) J0 v0 v1 v2 v3 v4 G := by kernel_rfl
theorem f89 {orc : FuncId → Bool} {e : Ex} (h : ExLe Q e (E orc)) (v0 v1 v2 v3 v4 : Value) (G : GS) : Ref (s89 true e v0 v1 v2 v3 v4 G) ((E orc).cl 89 [v0, v1, v2, v3, v4] G) :=
  fun r hr => cl_sxC Q orc (vs := [v0, v1, v2, v3, v4]) G (jt89 (j89_0 false (Ex.of (E orc))) ) Try.func89 (by kernel_rfl) (by kernel_rfl) (by kernel_rfl) (by kernel_rfl) (by kernel_rfl) (jo89 orc) (je89 orc (j89_0 false (Ex.of (E orc))) v0 v1 v2 v3 v4 G) (m89 h v0 v1 v2 v3 v4 G r hr)
/-- (coxswain/cells.deed).load -/
noncomputable def s90 (q : Bool) (e : Ex) (v0 : Value) (G : GS) : Option (Value × GS) :=
  bS (bx q v0 G) fun x0 G1 =>
  bP (fa Q q 179 0 0 x0) fun x2 =>
  bP (ld Q q 176 x2 G1) fun x3 =>
  bP (pNil x3) fun x4 =>
  bP (ld Q q 83 x4 G1) fun x5 =>
  some (.tuple #[x5, (.bool false)], G1)
theorem m90 {e : Ex} {E : Ev} (h : ExLe Q e E) (v0 : Value) (G : GS) : Ref (s90 true e v0 G) (s90 false (Ex.of E) v0 G) := by
  unfold s90
  exact Ref.gq
theorem f90 {orc : FuncId → Bool} {e : Ex} (h : ExLe Q e (E orc)) (v0 : Value) (G : GS) : Ref (s90 true e v0 G) ((E orc).cl 90 [v0] G) :=
  fun r hr => cl_sxE_some Q orc (vs := [v0]) G Try.func90 (by kernel_rfl) (by kernel_rfl) (by kernel_rfl) (by kernel_rfl) (by kernel_rfl) (by kernel_rfl) (m90 h v0 G r hr)
/-- (coxswain/cells.deed).store -/
noncomputable def s94 (q : Bool) (e : Ex) (v0 : Value) (G : GS) : Option (Value × GS) :=
  bS (bx q v0 G) fun x0 G1 =>
  bP (fa Q q 179 1 1 x0) fun x2 =>
  bP (ld Q q 28 x2 G1) fun x3 =>
  some (.tuple #[x3, (.bool true)], G1)
theorem m94 {e : Ex} {E : Ev} (h : ExLe Q e E) (v0 : Value) (G : GS) : Ref (s94 true e v0 G) (s94 false (Ex.of E) v0 G) := by
  unfold s94
  exact Ref.gq
theorem f94 {orc : FuncId → Bool} {e : Ex} (h : ExLe Q e (E orc)) (v0 : Value) (G : GS) : Ref (s94 true e v0 G) ((E orc).cl 94 [v0] G) :=
  fun r hr => cl_sxE_some Q orc (vs := [v0]) G Try.func94 (by kernel_rfl) (by kernel_rfl) (by kernel_rfl) (by kernel_rfl) (by kernel_rfl) (by kernel_rfl) (m94 h v0 G r hr)
noncomputable def b98_0 (q : Bool) (e : Ex) (lp : Env → GS → Option (Exit × Env × GS)) (τ : Env) (G : GS) : Option (Exit × Env × GS) :=
  bV q (τ 0) fun a0_ =>
  bV q (τ 1) fun a1_ =>
  bV q (τ 6) fun a6_ =>
  bV q (τ 7) fun a7_ =>
  bP (bn Q q .lss 3 (.tmp 7) (.tmp 6) a7_ a6_) fun x0 =>
  ifV x0 (
  bP (fa Q q 55 0 0 a1_) fun x1 =>
  bP (ld Q q 3 x1 G) fun x2 =>
  bP (fa Q q 55 2 2 a1_) fun x3 =>
  bP (ld Q q 3 x3 G) fun x4 =>
  bP (bn Q q .add 3 (.tmp 14) (.const (.int .i64 2)) x4 (.int .i64 2)) fun x5 =>
  bP (bn Q q .mul 3 (.tmp 12) (.tmp 15) a7_ x5) fun x6 =>
  bP (bn Q q .add 3 (.tmp 11) (.tmp 16) x2 x6) fun x7 =>
  bP (bn Q q .add 3 (.tmp 21) (.const (.int .i64 1)) x7 (.int .i64 1)) fun x8 =>
  bP (bn Q q .add 3 (.tmp 23) (.const (.int .i64 2)) x7 (.int .i64 2)) fun x9 =>
  bP (fa Q q 55 2 2 a1_) fun x10 =>
  bP (ld Q q 3 x10 G) fun x11 =>
  bP (bd Q q 91 z91 [(0, 0, 1), (1, 1, 1), (2, 2, 1), (3, 3, 1)] [x7, x8, x9, x11]) fun x12 =>
  bS (cValue e.ev a0_ [a7_, x12] G) fun x13 G14 =>
  bP (un Q q .not x13) fun x15 =>
  ifV x15 (
  some (.ret, xq q 31 τ [(29, x15), (28, x13), (27, x12), (26, x11), (25, x10), (24, x9), (23, x7), (22, x8), (21, x7), (20, x7), (19, a7_), (18, a0_), (4, x7), (17, x7), (16, x6), (15, x5), (14, x4), (13, x3), (12, a7_), (11, x2), (10, x1), (3, a7_), (9, a7_), (8, x0)] [(0, a0_), (1, a1_), (6, a6_), (7, a7_)], G14)) (
  bP (bn Q q .add 3 (.tmp 7) (.const (.int .i64 1)) a7_ (.int .i64 1)) fun x16 =>
  lp (xq q 31 τ [(7, x16), (30, x16), (29, x15), (28, x13), (27, x12), (26, x11), (25, x10), (24, x9), (23, x7), (22, x8), (21, x7), (20, x7), (19, a7_), (18, a0_), (4, x7), (17, x7), (16, x6), (15, x5), (14, x4), (13, x3), (12, a7_), (11, x2), (10, x1), (3, a7_), (9, a7_), (8, x0)] [(0, a0_), (1, a1_), (6, a6_)]) G14)) (
  some ((.exit 0), xq q 31 τ [(8, x0)] [(0, a0_), (1, a1_), (6, a6_), (7, a7_)], G))
theorem mb98_0 {e : Ex} {E : Ev} (h : ExLe Q e E) {lp lp' : Env → GS → Option (Exit × Env × GS)} (hlp : LpLe lp lp') (τ : Env) (G : GS) : Ref (b98_0 true e lp τ G) (b98_0 false (Ex.of E) lp' τ G) := by
  unfold b98_0
  exact Ref.gq
theorem l98_0 {orc : FuncId → Bool} {e : Ex} (h : ExLe Q e (E orc)) (lp : Env → GS → Option (Exit × Env × GS)) (hlp : ∀ τ G, Ref (lp τ G) (mapE ((E orc).lp (subAt [1, 0, 0] (bodyOf Try.f98)) (lst 31 τ) G))) (T : List Value) (G : GS) (hT : T.length = 31) : Ref (b98_0 true e lp (nth undef T) G) (mapE ((E orc).lp (subAt [1, 0, 0] (bodyOf Try.f98)) T G)) :=
  fun r hr => lp_sxN Q orc G hT (by kernel_rfl) (mb98_0 h ⟨hlp⟩ _ _ r hr)
/-- coxswain/mail.boxes$1 -/
noncomputable def s98 (q : Bool) (e : Ex) (v0 v1 : Value) (G : GS) : Option (Value × GS) :=
  bP (fa Q q 55 1 1 v1) fun x0 =>
  bP (ld Q q 3 x0 G) fun x1 =>
  bLq q e 98 0 (subAt [1, 0, 0] (bodyOf Try.f98)) 31 (nth undef [v0, v1]) [(7, (.int .i64 0)), (6, x1), (5, x0)] [] G fun e2 t3 G4 =>
  ifE e2 (.exit 0) (
  some (.tuple #[], G4)) (ifE e2 .ret (
  some (.tuple #[], G4)) (none))
theorem m98 {e : Ex} {E : Ev} (h : ExLe Q e E) (v0 v1 : Value) (G : GS) : Ref (s98 true e v0 v1 G) (s98 false (Ex.of E) v0 v1 G) := by
  unfold s98
  exact Ref.gq
theorem f98 {orc : FuncId → Bool} {e : Ex} (h : ExLe Q e (E orc)) (v0 v1 : Value) (G : GS) : Ref (s98 true e v0 v1 G) ((E orc).cl 98 [v0, v1] G) :=
  fun r hr => cl_sxE_some Q orc (vs := [v0, v1]) G Try.func98 (by kernel_rfl) (by kernel_rfl) (by kernel_rfl) (by kernel_rfl) (by kernel_rfl) (by kernel_rfl) (m98 h v0 v1 G r hr)
/-- (*coxswain/ring.Front).Value -/
noncomputable def s99 (q : Bool) (e : Ex) (v0 : Value) (G : GS) : Option (Value × GS) :=
  bP (ep Q q false 152 (.tmp 4) (.const (.pointer none)) v0 (.pointer none)) fun x0 =>
  ifV x0 (
  some (.tuple #[(.int .i64 0), (.int .i64 1)], G)) (
  bP (pNil v0) fun x1 =>
  bP (fa Q q 197 2 8 x1) fun x2 =>
  bP (ld Q q 3 x2 (G.room 10)) fun x3 =>
  bP (pNil v0) fun x4 =>
  bP (fa Q q 197 0 0 x4) fun x5 =>
  bS (e.ev.cl 127 [x5] (G.room 10)) fun x7 G6 =>
  chk ((sameO (ld Q q 3 x2 G6) x3 && true)) <|
  some (.tuple #[x3, x7], G6))
theorem m99 {e : Ex} {E : Ev} (h : ExLe Q e E) (v0 : Value) (G : GS) : Ref (s99 true e v0 G) (s99 false (Ex.of E) v0 G) := by
  unfold s99
  exact Ref.gq
theorem f99 {orc : FuncId → Bool} {e : Ex} (h : ExLe Q e (E orc)) (v0 : Value) (G : GS) : Ref (s99 true e v0 G) ((E orc).cl 99 [v0] G) :=
  fun r hr => cl_sxE_some Q orc (vs := [v0]) G Try.func99 (by kernel_rfl) (by kernel_rfl) (by kernel_rfl) (by kernel_rfl) (by kernel_rfl) (by kernel_rfl) (m99 h v0 G r hr)
/-- coxswain/ring.NewDrop -/
noncomputable def s100 (q : Bool) (e : Ex) (v0 v1 : Value) (G : GS) : Option (Value × GS) :=
  bS (bx q v0 G) fun x0 G1 =>
  bP (lda Q q 91 4 x0 G1) fun x2 =>
  bS (e.ev.cl 102 [x2] G1) fun x3 G4 =>
  bP (bd Q q 219 z219 [(0, 0, 7), (1, 7, 1)] [x3, v1]) fun x5 =>
  bS (bx q x5 G4) fun x6 G7 =>
  bP (pNil x6) fun x8 =>
  bP (fa Q q 219 0 0 x8) fun x9 =>
  bP (fa Q q 192 3 6 x9) fun x10 =>
  bP (ld Q q 41 x10 G7) fun x11 =>
  bP (bn Q q .eql 41 (.tmp 15) (.const (.int .i64 0)) x11 (.int .i64 0)) fun x12 =>
  ifV x12 (
  bP (pNil x6) fun x13 =>
  bP (fa Q q 219 0 0 x13) fun x14 =>
  bP (fa Q q 192 1 4 x14) fun x15 =>
  bP (st Q q 111 1 x15 (.func (.func 128) #[x6] #[]) G7) fun G16 =>
  some (x6, G16)) (
  some (x6, G7))
theorem m100 {e : Ex} {E : Ev} (h : ExLe Q e E) (v0 v1 : Value) (G : GS) : Ref (s100 true e v0 v1 G) (s100 false (Ex.of E) v0 v1 G) := by
  unfold s100
  exact Ref.gq
theorem f100 {orc : FuncId → Bool} {e : Ex} (h : ExLe Q e (E orc)) (v0 v1 : Value) (G : GS) : Ref (s100 true e v0 v1 G) ((E orc).cl 100 [v0, v1] G) :=
  fun r hr => cl_sxE_some Q orc (vs := [v0, v1]) G Try.func100 (by kernel_rfl) (by kernel_rfl) (by kernel_rfl) (by kernel_rfl) (by kernel_rfl) (by kernel_rfl) (m100 h v0 v1 G r hr)
/-- (*coxswain/ring.Front).At -/
noncomputable def s101 (q : Bool) (e : Ex) (v0 : Value) (G : GS) : Option (Value × GS) :=
  bP (ep Q q false 152 (.tmp 3) (.const (.pointer none)) v0 (.pointer none)) fun x0 =>
  ifV x0 (
  some ((.int .u64 0), G)) (
  bP (pNil v0) fun x1 =>
  bP (fa Q q 197 1 7 x1) fun x2 =>
  bP (ld Q q 28 x2 G) fun x3 =>
  some (x3, G))
theorem m101 {e : Ex} {E : Ev} (h : ExLe Q e E) (v0 : Value) (G : GS) : Ref (s101 true e v0 G) (s101 false (Ex.of E) v0 G) := by
  unfold s101
  exact Ref.gq
theorem f101 {orc : FuncId → Bool} {e : Ex} (h : ExLe Q e (E orc)) (v0 : Value) (G : GS) : Ref (s101 true e v0 G) ((E orc).cl 101 [v0] G) :=
  fun r hr => cl_sxE_some Q orc (vs := [v0]) G Try.func101 (by kernel_rfl) (by kernel_rfl) (by kernel_rfl) (by kernel_rfl) (by kernel_rfl) (by kernel_rfl) (m101 h v0 G r hr)
/-- coxswain/ring.begun -/
noncomputable def s102 (q : Bool) (e : Ex) (v0 : Value) (G : GS) : Option (Value × GS) :=
  bS (bx q v0 G) fun x0 G1 =>
  bS (al Q q 192 z192 G1) fun x2 G3 =>
  bP (lda Q q 91 4 x0 G3) fun x4 =>
  bS (e.ev.cl 76 [x4] G3) fun x5 G6 =>
  bP (un Q q .not x5) fun x7 =>
  ifV x7 (
  bP (bd Q q 192 z192 [(2, 5, 1), (3, 6, 1)] [(.bool true), (.int .i64 2)]) fun x8 =>
  bP (st Q q 192 7 x2 x8 G6) fun G9 =>
  bP (lda Q q 192 7 x2 G9) fun x10 =>
  some (x10, G9)) (
  bP (lda Q q 91 4 x0 G6) fun x11 =>
  bP (bd Q q 192 z192 [(0, 0, 4), (2, 5, 1)] [x11, (.bool true)]) fun x12 =>
  bP (st Q q 192 7 x2 x12 G6) fun G13 =>
  bP (lda Q q 192 7 x2 G13) fun x14 =>
  some (x14, G13))
theorem m102 {e : Ex} {E : Ev} (h : ExLe Q e E) (v0 : Value) (G : GS) : Ref (s102 true e v0 G) (s102 false (Ex.of E) v0 G) := by
  unfold s102
  exact Ref.gq
theorem f102 {orc : FuncId → Bool} {e : Ex} (h : ExLe Q e (E orc)) (v0 : Value) (G : GS) : Ref (s102 true e v0 G) ((E orc).cl 102 [v0] G) :=
  fun r hr => cl_sxE_some Q orc (vs := [v0]) G Try.func102 (by kernel_rfl) (by kernel_rfl) (by kernel_rfl) (by kernel_rfl) (by kernel_rfl) (by kernel_rfl) (m102 h v0 G r hr)
/-- (*coxswain/ring.work).ends -/
noncomputable def s103 (q : Bool) (e : Ex) (v0 v1 : Value) (G : GS) : Option (Value × GS) :=
  bP (pNil v0) fun x0 =>
  bP (fa Q q 192 1 4 x0) fun x1 =>
  bP (st Q q 111 1 x1 .nilFunc G) fun G2 =>
  bP (pNil v0) fun x3 =>
  bP (fa Q q 192 3 6 x3) fun x4 =>
  bP (st Q q 41 1 x4 v1 G2) fun G5 =>
  some (.tuple #[], G5)
theorem m103 {e : Ex} {E : Ev} (h : ExLe Q e E) (v0 v1 : Value) (G : GS) : Ref (s103 true e v0 v1 G) (s103 false (Ex.of E) v0 v1 G) := by
  unfold s103
  exact Ref.gq
theorem f103 {orc : FuncId → Bool} {e : Ex} (h : ExLe Q e (E orc)) (v0 v1 : Value) (G : GS) : Ref (s103 true e v0 v1 G) ((E orc).cl 103 [v0, v1] G) :=
  fun r hr => cl_sxE_some Q orc (vs := [v0, v1]) G Try.func103 (by kernel_rfl) (by kernel_rfl) (by kernel_rfl) (by kernel_rfl) (by kernel_rfl) (by kernel_rfl) (m103 h v0 v1 G r hr)
/-- (*coxswain/ring.Push).tail -/
noncomputable def s104 (q : Bool) (e : Ex) (v0 v1 : Value) (G : GS) : Option (Value × GS) :=
  bP (pNil v0) fun x0 =>
  bP (fa Q q 195 0 0 x0) fun x1 =>
  bP (fa Q q 192 0 0 x1) fun x2 =>
  bP (fa Q q 91 1 1 x2) fun x3 =>
  bP (ld Q q 3 x3 G) fun x4 =>
  bS (e.ev.cl 52 [v1, x4] G) fun x5 G6 =>
  bP (pNil v0) fun x7 =>
  bP (fa Q q 195 2 8 x7) fun x8 =>
  bP (st Q q 28 1 x8 x5 G6) fun G9 =>
  bP (pNil v0) fun x10 =>
  bP (fa Q q 195 0 0 x10) fun x11 =>
  bP (fa Q q 192 1 4 x11) fun x12 =>
  bP (st Q q 111 1 x12 (.func (.func 129) #[v0] #[]) G9) fun G13 =>
  some (.tuple #[], G13)
theorem m104 {e : Ex} {E : Ev} (h : ExLe Q e E) (v0 v1 : Value) (G : GS) : Ref (s104 true e v0 v1 G) (s104 false (Ex.of E) v0 v1 G) := by
  unfold s104
  exact Ref.gq
theorem f104 {orc : FuncId → Bool} {e : Ex} (h : ExLe Q e (E orc)) (v0 v1 : Value) (G : GS) : Ref (s104 true e v0 v1 G) ((E orc).cl 104 [v0, v1] G) :=
  fun r hr => cl_sxE_some Q orc (vs := [v0, v1]) G Try.func104 (by kernel_rfl) (by kernel_rfl) (by kernel_rfl) (by kernel_rfl) (by kernel_rfl) (by kernel_rfl) (m104 h v0 v1 G r hr)
/-- (*coxswain/ring.Front).head -/
noncomputable def s105 (q : Bool) (e : Ex) (v0 v1 : Value) (G : GS) : Option (Value × GS) :=
  bP (pNil v0) fun x0 =>
  bP (fa Q q 197 0 0 x0) fun x1 =>
  bP (fa Q q 192 0 0 x1) fun x2 =>
  bP (fa Q q 91 0 0 x2) fun x3 =>
  bP (ld Q q 3 x3 G) fun x4 =>
  bS (e.ev.cl 52 [v1, x4] G) fun x5 G6 =>
  bP (pNil v0) fun x7 =>
  bP (fa Q q 197 1 7 x7) fun x8 =>
  bP (st Q q 28 1 x8 x5 G6) fun G9 =>
  bP (pNil v0) fun x10 =>
  bP (fa Q q 197 0 0 x10) fun x11 =>
  bP (fa Q q 192 1 4 x11) fun x12 =>
  bP (st Q q 111 1 x12 (.func (.func 130) #[v0] #[]) G9) fun G13 =>
  some (.tuple #[], G13)
theorem m105 {e : Ex} {E : Ev} (h : ExLe Q e E) (v0 v1 : Value) (G : GS) : Ref (s105 true e v0 v1 G) (s105 false (Ex.of E) v0 v1 G) := by
  unfold s105
  exact Ref.gq
theorem f105 {orc : FuncId → Bool} {e : Ex} (h : ExLe Q e (E orc)) (v0 v1 : Value) (G : GS) : Ref (s105 true e v0 v1 G) ((E orc).cl 105 [v0, v1] G) :=
  fun r hr => cl_sxE_some Q orc (vs := [v0, v1]) G Try.func105 (by kernel_rfl) (by kernel_rfl) (by kernel_rfl) (by kernel_rfl) (by kernel_rfl) (by kernel_rfl) (m105 h v0 v1 G r hr)
noncomputable def b106_0 (q : Bool) (e : Ex) (lp : Env → GS → Option (Exit × Env × GS)) (τ : Env) (G : GS) : Option (Exit × Env × GS) :=
  bV q (τ 1) fun a1_ =>
  bV q (τ 2) fun a2_ =>
  bV q (τ 17) fun a17_ =>
  bV q (τ 18) fun a18_ =>
  bP (bn Q q .lss 3 (.tmp 18) (.tmp 17) a18_ a17_) fun x0 =>
  ifV x0 (
  bP (fa Q q 91 2 2 a2_) fun x1 =>
  bP (ld Q q 3 x1 G) fun x2 =>
  bP (bn Q q .add 3 (.tmp 23) (.tmp 24) x2 a18_) fun x3 =>
  bS (e.ev.cl 57 [a1_, x3, (.int .u64 0)] G) fun x4 G5 =>
  bP (bn Q q .add 3 (.tmp 18) (.const (.int .i64 1)) a18_ (.int .i64 1)) fun x6 =>
  lp (xq q 28 τ [(18, x6), (27, x6), (26, x4), (25, x3), (24, a18_), (23, x2), (22, x1), (21, a1_), (4, a18_), (20, a18_), (19, x0)] [(1, a1_), (2, a2_), (17, a17_)]) G5) (
  some ((.exit 0), xq q 28 τ [(19, x0)] [(1, a1_), (2, a2_), (17, a17_), (18, a18_)], G))
theorem mb106_0 {e : Ex} {E : Ev} (h : ExLe Q e E) {lp lp' : Env → GS → Option (Exit × Env × GS)} (hlp : LpLe lp lp') (τ : Env) (G : GS) : Ref (b106_0 true e lp τ G) (b106_0 false (Ex.of E) lp' τ G) := by
  unfold b106_0
  exact Ref.gq
theorem l106_0 {orc : FuncId → Bool} {e : Ex} (h : ExLe Q e (E orc)) (lp : Env → GS → Option (Exit × Env × GS)) (hlp : ∀ τ G, Ref (lp τ G) (mapE ((E orc).lp (subAt [1, 1, 1, 1, 1, 0, 0] (bodyOf Try.f106)) (lst 28 τ) G))) (T : List Value) (G : GS) (hT : T.length = 28) : Ref (b106_0 true e lp (nth undef T) G) (mapE ((E orc).lp (subAt [1, 1, 1, 1, 1, 0, 0] (bodyOf Try.f106)) T G)) :=
  fun r hr => lp_sxN Q orc G hT (by kernel_rfl) (mb106_0 h ⟨hlp⟩ _ _ r hr)
/-- coxswain/ring.Fill -/
noncomputable def s106 (q : Bool) (e : Ex) (v0 v1 : Value) (G : GS) : Option (Value × GS) :=
  bS (bx q v0 G) fun x0 G1 =>
  bP (lda Q q 91 4 x0 G1) fun x2 =>
  bS (e.ev.cl 76 [x2] G1) fun x3 G4 =>
  bP (un Q q .not x3) fun x5 =>
  ifV x5 (
  some (.tuple #[], G4)) (
  bP (fa Q q 91 0 0 x0) fun x6 =>
  bP (ld Q q 3 x6 G4) fun x7 =>
  bS (e.ev.cl 57 [v1, x7, (.int .u64 0)] G4) fun x8 G9 =>
  bP (fa Q q 91 1 1 x0) fun x10 =>
  bP (ld Q q 3 x10 G9) fun x11 =>
  bS (e.ev.cl 57 [v1, x11, (.int .u64 0)] G9) fun x12 G13 =>
  bP (fa Q q 91 3 3 x0) fun x14 =>
  bP (ld Q q 3 x14 G13) fun x15 =>
  bLq q e 106 0 (subAt [1, 1, 1, 1, 1, 0, 0] (bodyOf Try.f106)) 28 (nth undef [v0, v1]) [(18, (.int .i64 0)), (17, x15), (16, x14), (15, x12), (14, x11), (13, x10), (12, v1), (11, x8), (10, x7), (9, x6), (8, v1), (7, x5), (6, x3), (5, x2), (2, x0)] [] G13 fun e16 t17 G18 =>
  ifE e16 (.exit 0) (
  some (.tuple #[], G18)) (none))
theorem m106 {e : Ex} {E : Ev} (h : ExLe Q e E) (v0 v1 : Value) (G : GS) : Ref (s106 true e v0 v1 G) (s106 false (Ex.of E) v0 v1 G) := by
  unfold s106
  exact Ref.gq
theorem f106 {orc : FuncId → Bool} {e : Ex} (h : ExLe Q e (E orc)) (v0 v1 : Value) (G : GS) : Ref (s106 true e v0 v1 G) ((E orc).cl 106 [v0, v1] G) :=
  fun r hr => cl_sxE_some Q orc (vs := [v0, v1]) G Try.func106 (by kernel_rfl) (by kernel_rfl) (by kernel_rfl) (by kernel_rfl) (by kernel_rfl) (by kernel_rfl) (m106 h v0 v1 G r hr)
/-- (*coxswain/ring.Push).Step -/
noncomputable def s107 (q : Bool) (e : Ex) (v0 v1 : Value) (G : GS) : Option (Value × GS) :=
  bP (ep Q q false 144 (.tmp 5) (.const (.pointer none)) v0 (.pointer none)) fun x0 =>
  bS (gd x0 false (some (v0, G)) G) fun x1 G2 =>
  bS (gd x0 false (bP (pNil x1) fun y => some (y, G2)) G2) fun x3 G4 =>
  bS (gd x0 false (bP (fa Q q 195 0 0 x3) fun y => some (y, G4)) G4) fun x5 G6 =>
  bS (gd x0 false (some (v1, G6)) G6) fun x7 G8 =>
  bS (gd x0 false (bS (e.ev.cl 131 [x5, x7] G8) fun y G => some (y, G)) G8) fun x9 G10 =>
  bP (pickV x0 (.bool true) x9) fun x11 =>
  some (x11, G10)
theorem m107 {e : Ex} {E : Ev} (h : ExLe Q e E) (v0 v1 : Value) (G : GS) : Ref (s107 true e v0 v1 G) (s107 false (Ex.of E) v0 v1 G) := by
  unfold s107
  exact Ref.gq
theorem f107 {orc : FuncId → Bool} {e : Ex} (h : ExLe Q e (E orc)) (v0 v1 : Value) (G : GS) : Ref (s107 true e v0 v1 G) ((E orc).cl 107 [v0, v1] G) :=
  fun r hr => cl_sxE_some Q orc (vs := [v0, v1]) G Try.func107 (by kernel_rfl) (by kernel_rfl) (by kernel_rfl) (by kernel_rfl) (by kernel_rfl) (by kernel_rfl) (m107 h v0 v1 G r hr)
/-- (*coxswain/ring.Push).Err -/
noncomputable def s108 (q : Bool) (e : Ex) (v0 : Value) (G : GS) : Option (Value × GS) :=
  bP (ep Q q false 144 (.tmp 3) (.const (.pointer none)) v0 (.pointer none)) fun x0 =>
  ifV x0 (
  some ((.int .i64 1), G)) (
  bP (pNil v0) fun x1 =>
  bP (fa Q q 195 0 0 x1) fun x2 =>
  bS (e.ev.cl 127 [x2] G) fun x3 G4 =>
  some (x3, G4))
theorem m108 {e : Ex} {E : Ev} (h : ExLe Q e E) (v0 : Value) (G : GS) : Ref (s108 true e v0 G) (s108 false (Ex.of E) v0 G) := by
  unfold s108
  exact Ref.gq
theorem f108 {orc : FuncId → Bool} {e : Ex} (h : ExLe Q e (E orc)) (v0 : Value) (G : GS) : Ref (s108 true e v0 G) ((E orc).cl 108 [v0] G) :=
  fun r hr => cl_sxE_some Q orc (vs := [v0]) G Try.func108 (by kernel_rfl) (by kernel_rfl) (by kernel_rfl) (by kernel_rfl) (by kernel_rfl) (by kernel_rfl) (m108 h v0 G r hr)
/-- (*coxswain/cells.Mem).Last -/
noncomputable def s109 (q : Bool) (e : Ex) (v0 : Value) (G : GS) : Option (Value × GS) :=
  bS (al Q q 79 z79 G) fun x0 G1 =>
  bP (ep Q q false 34 (.tmp 3) (.const (.pointer none)) v0 (.pointer none)) fun x2 =>
  ifV x2 (
  bP (bd Q q 79 z79 [] []) fun x3 =>
  bP (st Q q 79 5 x0 x3 G1) fun G4 =>
  bP (lda Q q 79 5 x0 G4) fun x5 =>
  some (x5, G4)) (
  bP (pNil v0) fun x6 =>
  bP (fa Q q 81 2 2 x6) fun x7 =>
  bP (lda Q q 79 5 x7 G1) fun x8 =>
  bP (st Q q 79 5 x0 x8 G1) fun G9 =>
  bP (lda Q q 79 5 x0 G9) fun x10 =>
  some (x10, G9))
theorem m109 {e : Ex} {E : Ev} (h : ExLe Q e E) (v0 : Value) (G : GS) : Ref (s109 true e v0 G) (s109 false (Ex.of E) v0 G) := by
  unfold s109
  exact Ref.gq
theorem f109 {orc : FuncId → Bool} {e : Ex} (h : ExLe Q e (E orc)) (v0 : Value) (G : GS) : Ref (s109 true e v0 G) ((E orc).cl 109 [v0] G) :=
  fun r hr => cl_sxE_some Q orc (vs := [v0]) G Try.func109 (by kernel_rfl) (by kernel_rfl) (by kernel_rfl) (by kernel_rfl) (by kernel_rfl) (by kernel_rfl) (m109 h v0 G r hr)
noncomputable def b110_0 (q : Bool) (e : Ex) (lp : Env → GS → Option (Exit × Env × GS)) (τ : Env) (G : GS) : Option (Exit × Env × GS) :=
  bV q (τ 0) fun a0_ =>
  bV q (τ 1) fun a1_ =>
  bV q (τ 2) fun a2_ =>
  bV q (τ 4) fun a4_ =>
  bV q (τ 10) fun a10_ =>
  bV q (τ 11) fun a11_ =>
  bP (bn Q q .lss 3 (.tmp 11) (.tmp 10) a11_ a10_) fun x0 =>
  ifV x0 (
  bP (ld Q q 118 a1_ (G.room 16)) fun x1 =>
  bP (lda Q q 91 4 a2_ (G.room 16)) fun x2 =>
  bS (e.ev.cl 79 [x2, a4_] (G.room 16)) fun x4 G3 =>
  chk ((sameO (ld Q q 118 a1_ G3) x1 && true)) <|
  bS (cValue e.ev x1 [x4] G3) fun x6 G5 =>
  bP (lda Q q 91 4 a2_ G5) fun x7 =>
  chk ((sameO (lda Q q 91 4 a2_ G3) x7 && (sameO (lda Q q 91 4 a2_ (G.room 16)) x7 && true))) <|
  bS (e.ev.cl 112 [x7, a4_] G5) fun x9 G8 =>
  bS (e.ev.cl 111 [x6, x9] G8) fun x11 G10 =>
  bP (un Q q .not x11) fun x12 =>
  bS (gd x12 false (some (a0_, G10)) G10) fun x13 _ =>
  bS (gd x12 false (some (a4_, G10)) G10) fun x14 _ =>
  bS (gd x12 false (bS (cValue e.ev x13 [x14] G10) fun y G => some (y, G)) G10) fun x16 G15 =>
  bS (gd x12 false (bP (un Q q .not x16) fun y => some (y, G15)) G15) fun x17 _ =>
  bP (pickV x12 (.bool true) x17) fun x18 =>
  ifV x18 (
  some (.ret, xq q 32 τ [(28, x18), (27, x17), (26, x16), (25, x14), (24, x13), (23, x12), (22, x12), (21, x11), (20, x9), (19, a4_), (18, x7), (17, x6), (16, x4), (15, a4_), (14, x2), (13, x1), (12, x0)] [(0, a0_), (1, a1_), (2, a2_), (4, a4_), (10, a10_), (11, a11_)], G15)) (
  bP (bn Q q .add 28 (.tmp 29) (.const (.int .u64 1)) a4_ (.int .u64 1)) fun x19 =>
  bP (bn Q q .add 3 (.tmp 11) (.const (.int .i64 1)) a11_ (.int .i64 1)) fun x20 =>
  lp (xq q 32 τ [(11, x20), (31, x20), (4, x19), (30, x19), (29, a4_), (28, x18), (27, x17), (26, x16), (25, x14), (24, x13), (23, x12), (22, x12), (21, x11), (20, x9), (19, a4_), (18, x7), (17, x6), (16, x4), (15, a4_), (14, x2), (13, x1), (12, x0)] [(0, a0_), (1, a1_), (2, a2_), (10, a10_)]) G15)) (
  some ((.exit 0), xq q 32 τ [(12, x0)] [(0, a0_), (1, a1_), (2, a2_), (4, a4_), (10, a10_), (11, a11_)], G))
theorem mb110_0 {e : Ex} {E : Ev} (h : ExLe Q e E) {lp lp' : Env → GS → Option (Exit × Env × GS)} (hlp : LpLe lp lp') (τ : Env) (G : GS) : Ref (b110_0 true e lp τ G) (b110_0 false (Ex.of E) lp' τ G) := by
  unfold b110_0
  exact Ref.gq
theorem l110_0 {orc : FuncId → Bool} {e : Ex} (h : ExLe Q e (E orc)) (lp : Env → GS → Option (Exit × Env × GS)) (hlp : ∀ τ G, Ref (lp τ G) (mapE ((E orc).lp (subAt [1, 1, 0, 0] (bodyOf Try.f110)) (lst 32 τ) G))) (T : List Value) (G : GS) (hT : T.length = 32) : Ref (b110_0 true e lp (nth undef T) G) (mapE ((E orc).lp (subAt [1, 1, 0, 0] (bodyOf Try.f110)) T G)) :=
  fun r hr => lp_sxN Q orc G hT (by kernel_rfl) (mb110_0 h ⟨hlp⟩ _ _ r hr)
/-- coxswain/ring.numbers$1 -/
noncomputable def s110 (q : Bool) (e : Ex) (v0 v1 v2 : Value) (G : GS) : Option (Value × GS) :=
  bP (ld Q q 118 v1 G) fun x0 =>
  bP (fa Q q 91 0 0 v2) fun x1 =>
  bP (ld Q q 3 x1 G) fun x2 =>
  bS (cValue e.ev x0 [x2] G) fun x3 G4 =>
  bP (fa Q q 91 3 3 v2) fun x5 =>
  bP (ld Q q 3 x5 G4) fun x6 =>
  bLq q e 110 0 (subAt [1, 1, 0, 0] (bodyOf Try.f110)) 32 (nth undef [v0, v1, v2]) [(11, (.int .i64 0)), (10, x6), (9, x5), (4, x3), (8, x3), (7, x2), (6, x1), (5, x0)] [] G4 fun e7 t8 G9 =>
  ifE e7 (.exit 0) (
  some (.tuple #[], G9)) (ifE e7 .ret (
  some (.tuple #[], G9)) (none))
theorem m110 {e : Ex} {E : Ev} (h : ExLe Q e E) (v0 v1 v2 : Value) (G : GS) : Ref (s110 true e v0 v1 v2 G) (s110 false (Ex.of E) v0 v1 v2 G) := by
  unfold s110
  exact Ref.gq
theorem f110 {orc : FuncId → Bool} {e : Ex} (h : ExLe Q e (E orc)) (v0 v1 v2 : Value) (G : GS) : Ref (s110 true e v0 v1 v2 G) ((E orc).cl 110 [v0, v1, v2] G) :=
  fun r hr => cl_sxE_some Q orc (vs := [v0, v1, v2]) G Try.func110 (by kernel_rfl) (by kernel_rfl) (by kernel_rfl) (by kernel_rfl) (by kernel_rfl) (by kernel_rfl) (m110 h v0 v1 v2 G r hr)
/-- (coxswain/ring.slot).full -/
noncomputable def s111 (q : Bool) (e : Ex) (v0 v1 : Value) (G : GS) : Option (Value × GS) :=
  bP (bn Q q .shr 162 (.tmp 5) (.const (.int .u64 32)) v0 (.int .u64 32)) fun x0 =>
  bP (cv Q q 162 201 .u64 .u32 x0) fun x1 =>
  bP (bn Q q .eql 201 (.tmp 7) (.tmp 8) x1 v1) fun x2 =>
  bS (gd x2 true (some (v0, G)) G) fun x3 G4 =>
  bS (gd x2 true (bP (bn Q q .and 162 (.tmp 11) (.const (.int .u64 65536)) x3 (.int .u64 65536)) fun y => some (y, G4)) G4) fun x5 G6 =>
  bS (gd x2 true (bP (bn Q q .neq 162 (.tmp 12) (.const (.int .u64 0)) x5 (.int .u64 0)) fun y => some (y, G6)) G6) fun x7 G8 =>
  bP (pickV x2 x7 (.bool false)) fun x9 =>
  some (x9, G8)
theorem m111 {e : Ex} {E : Ev} (h : ExLe Q e E) (v0 v1 : Value) (G : GS) : Ref (s111 true e v0 v1 G) (s111 false (Ex.of E) v0 v1 G) := by
  unfold s111
  exact Ref.gq
theorem f111 {orc : FuncId → Bool} {e : Ex} (h : ExLe Q e (E orc)) (v0 v1 : Value) (G : GS) : Ref (s111 true e v0 v1 G) ((E orc).cl 111 [v0, v1] G) :=
  fun r hr => cl_sxE_some Q orc (vs := [v0, v1]) G Try.func111 (by kernel_rfl) (by kernel_rfl) (by kernel_rfl) (by kernel_rfl) (by kernel_rfl) (by kernel_rfl) (m111 h v0 v1 G r hr)
/-- coxswain/ring.lap -/
noncomputable def s112 (q : Bool) (e : Ex) (v0 v1 : Value) (G : GS) : Option (Value × GS) :=
  bS (bx q v0 G) fun x0 G1 =>
  bP (fa Q q 91 3 3 x0) fun x2 =>
  bP (ld Q q 3 x2 G1) fun x3 =>
  bP (cv Q q 3 28 .i64 .u64 x3) fun x4 =>
  bP (bn Q q .quo 28 (.tmp 5) (.tmp 8) v1 x4) fun x5 =>
  bP (cv Q q 28 201 .u64 .u32 x5) fun x6 =>
  some (x6, G1)
theorem m112 {e : Ex} {E : Ev} (h : ExLe Q e E) (v0 v1 : Value) (G : GS) : Ref (s112 true e v0 v1 G) (s112 false (Ex.of E) v0 v1 G) := by
  unfold s112
  exact Ref.gq
theorem f112 {orc : FuncId → Bool} {e : Ex} (h : ExLe Q e (E orc)) (v0 v1 : Value) (G : GS) : Ref (s112 true e v0 v1 G) ((E orc).cl 112 [v0, v1] G) :=
  fun r hr => cl_sxE_some Q orc (vs := [v0, v1]) G Try.func112 (by kernel_rfl) (by kernel_rfl) (by kernel_rfl) (by kernel_rfl) (by kernel_rfl) (by kernel_rfl) (m112 h v0 v1 G r hr)
/-- (*coxswain/stack.Pop).Step -/
noncomputable def s118 (q : Bool) (e : Ex) (v0 v1 : Value) (G : GS) : Option (Value × GS) :=
  bP (ep Q q false 171 (.tmp 5) (.const (.pointer none)) v0 (.pointer none)) fun x0 =>
  bS (gd x0 false (some (v0, G)) G) fun x1 G2 =>
  bS (gd x0 false (bP (pNil x1) fun y => some (y, G2)) G2) fun x3 G4 =>
  bS (gd x0 false (bP (fa Q q 208 0 0 x3) fun y => some (y, G4)) G4) fun x5 G6 =>
  bS (gd x0 false (bS (e.ev.cl 137 [x5] G6) fun y G => some (y, G)) G6) fun x7 G8 =>
  bP (pickV x0 (.bool true) x7) fun x9 =>
  ifV x9 (
  some ((.bool true), G8)) (
  bP (pNil v0) fun x10 =>
  bP (fa Q q 208 1 9 x10) fun x11 =>
  bP (ld Q q 206 x11 G8) fun x12 =>
  bS (cValue e.ev x12 [v0, v1] G8) fun x13 G14 =>
  bP (pNil v0) fun x15 =>
  bP (fa Q q 208 0 0 x15) fun x16 =>
  bP (fa Q q 165 5 7 x16) fun x17 =>
  bP (ld Q q 4 x17 G14) fun x18 =>
  some (x18, G14))
theorem m118 {e : Ex} {E : Ev} (h : ExLe Q e E) (v0 v1 : Value) (G : GS) : Ref (s118 true e v0 v1 G) (s118 false (Ex.of E) v0 v1 G) := by
  unfold s118
  exact Ref.gq
theorem f118 {orc : FuncId → Bool} {e : Ex} (h : ExLe Q e (E orc)) (v0 v1 : Value) (G : GS) : Ref (s118 true e v0 v1 G) ((E orc).cl 118 [v0, v1] G) :=
  fun r hr => cl_sxE_some Q orc (vs := [v0, v1]) G Try.func118 (by kernel_rfl) (by kernel_rfl) (by kernel_rfl) (by kernel_rfl) (by kernel_rfl) (by kernel_rfl) (m118 h v0 v1 G r hr)
/-- (*coxswain/cells.place).is -/
noncomputable def s122 (q : Bool) (e : Ex) (v0 : Value) (G : GS) : Option (Value × GS) :=
  bP (ep Q q true 176 (.tmp 3) (.const (.pointer none)) v0 (.pointer none)) fun x0 =>
  some (x0, G)
theorem m122 {e : Ex} {E : Ev} (h : ExLe Q e E) (v0 : Value) (G : GS) : Ref (s122 true e v0 G) (s122 false (Ex.of E) v0 G) := by
  unfold s122
  exact Ref.gq
theorem f122 {orc : FuncId → Bool} {e : Ex} (h : ExLe Q e (E orc)) (v0 : Value) (G : GS) : Ref (s122 true e v0 G) ((E orc).cl 122 [v0] G) :=
  fun r hr => cl_sxE_some Q orc (vs := [v0]) G Try.func122 (by kernel_rfl) (by kernel_rfl) (by kernel_rfl) (by kernel_rfl) (by kernel_rfl) (by kernel_rfl) (m122 h v0 G r hr)
/-- (*coxswain/ring.work).told -/
noncomputable def s127 (q : Bool) (e : Ex) (v0 : Value) (G : GS) : Option (Value × GS) :=
  bP (pNil v0) fun x0 =>
  bP (fa Q q 192 2 5 x0) fun x1 =>
  bP (ld Q q 4 x1 G) fun x2 =>
  bP (un Q q .not x2) fun x3 =>
  ifV x3 (
  some ((.int .i64 1), G)) (
  bP (pNil v0) fun x4 =>
  bP (fa Q q 192 1 4 x4) fun x5 =>
  bP (ld Q q 111 x5 G) fun x6 =>
  bP (ef Q q true 111 (.tmp 13) (.const .nilFunc) x6 .nilFunc) fun x7 =>
  ifV x7 (
  some ((.int .i64 14), G)) (
  bP (pNil v0) fun x8 =>
  bP (fa Q q 192 3 6 x8) fun x9 =>
  bP (ld Q q 41 x9 G) fun x10 =>
  some (x10, G)))
theorem m127 {e : Ex} {E : Ev} (h : ExLe Q e E) (v0 : Value) (G : GS) : Ref (s127 true e v0 G) (s127 false (Ex.of E) v0 G) := by
  unfold s127
  exact Ref.gq
theorem f127 {orc : FuncId → Bool} {e : Ex} (h : ExLe Q e (E orc)) (v0 : Value) (G : GS) : Ref (s127 true e v0 G) ((E orc).cl 127 [v0] G) :=
  fun r hr => cl_sxE_some Q orc (vs := [v0]) G Try.func127 (by kernel_rfl) (by kernel_rfl) (by kernel_rfl) (by kernel_rfl) (by kernel_rfl) (by kernel_rfl) (m127 h v0 G r hr)
/-- (*coxswain/ring.Drop).clear -/
noncomputable def s128 (q : Bool) (e : Ex) (v0 v1 : Value) (G : GS) : Option (Value × GS) :=
  bP (pNil v0) fun x0 =>
  bP (fa Q q 219 0 0 x0) fun x1 =>
  bP (fa Q q 192 0 0 x1) fun x2 =>
  bP (lda Q q 91 4 x2 (G.room 24)) fun x3 =>
  bP (pNil v0) fun x4 =>
  bP (fa Q q 219 1 7 x4) fun x5 =>
  bP (ld Q q 28 x5 (G.room 24)) fun x6 =>
  bS (e.ev.cl 79 [x3, x6] (G.room 24)) fun x8 G7 =>
  bP (pNil v0) fun x9 =>
  bP (fa Q q 219 0 0 x9) fun x10 =>
  bP (fa Q q 192 0 0 x10) fun x11 =>
  bP (lda Q q 91 4 x11 G7) fun x12 =>
  chk ((sameO (lda Q q 91 4 x11 (G.room 24)) x12 && true)) <|
  bP (pNil v0) fun x13 =>
  bP (fa Q q 219 1 7 x13) fun x14 =>
  bP (ld Q q 28 x14 G7) fun x15 =>
  chk ((sameO (ld Q q 28 x14 (G.room 24)) x15 && true)) <|
  bS (e.ev.cl 112 [x12, x15] G7) fun x17 G16 =>
  bP (bn Q q .add 201 (.tmp 24) (.const (.int .u32 1)) x17 (.int .u32 1)) fun x18 =>
  bS (e.ev.cl 140 [x18] G16) fun x20 G19 =>
  bS (e.ev.cl 57 [v1, x8, x20] G19) fun x22 G21 =>
  bP (pNil v0) fun x23 =>
  bP (fa Q q 219 0 0 x23) fun x24 =>
  bP (fa Q q 192 1 4 x24) fun x25 =>
  bP (st Q q 111 1 x25 (.func (.func 141) #[v0] #[]) G21) fun G26 =>
  some (.tuple #[], G26)
theorem m128 {e : Ex} {E : Ev} (h : ExLe Q e E) (v0 v1 : Value) (G : GS) : Ref (s128 true e v0 v1 G) (s128 false (Ex.of E) v0 v1 G) := by
  unfold s128
  exact Ref.gq
theorem f128 {orc : FuncId → Bool} {e : Ex} (h : ExLe Q e (E orc)) (v0 v1 : Value) (G : GS) : Ref (s128 true e v0 v1 G) ((E orc).cl 128 [v0, v1] G) :=
  fun r hr => cl_sxE_some Q orc (vs := [v0, v1]) G Try.func128 (by kernel_rfl) (by kernel_rfl) (by kernel_rfl) (by kernel_rfl) (by kernel_rfl) (by kernel_rfl) (m128 h v0 v1 G r hr)
/-- (*coxswain/ring.Push).look -/
noncomputable def s129 (q : Bool) (e : Ex) (v0 v1 : Value) (G : GS) : Option (Value × GS) :=
  bP (pNil v0) fun x0 =>
  bP (fa Q q 195 0 0 x0) fun x1 =>
  bP (fa Q q 192 0 0 x1) fun x2 =>
  bP (lda Q q 91 4 x2 (G.room 16)) fun x3 =>
  bP (pNil v0) fun x4 =>
  bP (fa Q q 195 2 8 x4) fun x5 =>
  bP (ld Q q 28 x5 (G.room 16)) fun x6 =>
  bS (e.ev.cl 79 [x3, x6] (G.room 16)) fun x8 G7 =>
  bS (e.ev.cl 52 [v1, x8] G7) fun x10 G9 =>
  bP (pNil v0) fun x11 =>
  bP (fa Q q 195 3 9 x11) fun x12 =>
  bP (st Q q 162 1 x12 x10 G9) fun G13 =>
  bP (pNil v0) fun x14 =>
  bP (fa Q q 195 0 0 x14) fun x15 =>
  bP (fa Q q 192 0 0 x15) fun x16 =>
  bP (lda Q q 91 4 x16 (G13.room 11)) fun x17 =>
  bP (pNil v0) fun x18 =>
  bP (fa Q q 195 2 8 x18) fun x19 =>
  bP (ld Q q 28 x19 (G13.room 11)) fun x20 =>
  bS (e.ev.cl 112 [x17, x20] (G13.room 11)) fun x22 G21 =>
  bP (pNil v0) fun x23 =>
  bP (fa Q q 195 3 9 x23) fun x24 =>
  bP (ld Q q 162 x24 G21) fun x25 =>
  bS (e.ev.cl 142 [x25, x22] G21) fun x26 G27 =>
  ifV x26 (
  bP (pNil v0) fun x28 =>
  bP (fa Q q 195 0 0 x28) fun x29 =>
  bP (fa Q q 192 1 4 x29) fun x30 =>
  bP (st Q q 111 1 x30 (.func (.func 143) #[v0] #[]) G27) fun G31 =>
  some (.tuple #[], G31)) (
  bP (pNil v0) fun x32 =>
  bP (fa Q q 195 3 9 x32) fun x33 =>
  bP (ld Q q 162 x33 G27) fun x34 =>
  bP (bn Q q .sub 201 (.tmp 54) (.const (.int .u32 1)) x22 (.int .u32 1)) fun x35 =>
  bS (e.ev.cl 111 [x34, x35] G27) fun x36 G37 =>
  ifV x36 (
  bP (pNil v0) fun x38 =>
  bP (fa Q q 195 0 0 x38) fun x39 =>
  bS (e.ev.cl 103 [x39, (.int .i64 7)] G37) fun x40 G41 =>
  some (.tuple #[], G41)) (
  bP (pNil v0) fun x42 =>
  bP (fa Q q 195 0 0 x42) fun x43 =>
  bP (fa Q q 192 1 4 x43) fun x44 =>
  bP (st Q q 111 1 x44 (.func (.func 144) #[v0] #[]) G37) fun G45 =>
  some (.tuple #[], G45)))
theorem m129 {e : Ex} {E : Ev} (h : ExLe Q e E) (v0 v1 : Value) (G : GS) : Ref (s129 true e v0 v1 G) (s129 false (Ex.of E) v0 v1 G) := by
  unfold s129
  exact Ref.gq
theorem f129 {orc : FuncId → Bool} {e : Ex} (h : ExLe Q e (E orc)) (v0 v1 : Value) (G : GS) : Ref (s129 true e v0 v1 G) ((E orc).cl 129 [v0, v1] G) :=
  fun r hr => cl_sxE_some Q orc (vs := [v0, v1]) G Try.func129 (by kernel_rfl) (by kernel_rfl) (by kernel_rfl) (by kernel_rfl) (by kernel_rfl) (by kernel_rfl) (m129 h v0 v1 G r hr)
/-- (*coxswain/ring.Front).look -/
noncomputable def s130 (q : Bool) (e : Ex) (v0 v1 : Value) (G : GS) : Option (Value × GS) :=
  bP (pNil v0) fun x0 =>
  bP (fa Q q 197 0 0 x0) fun x1 =>
  bP (fa Q q 192 0 0 x1) fun x2 =>
  bP (lda Q q 91 4 x2 (G.room 13)) fun x3 =>
  bP (pNil v0) fun x4 =>
  bP (fa Q q 197 1 7 x4) fun x5 =>
  bP (ld Q q 28 x5 (G.room 13)) fun x6 =>
  bS (e.ev.cl 79 [x3, x6] (G.room 13)) fun x8 G7 =>
  bS (e.ev.cl 52 [v1, x8] G7) fun x10 G9 =>
  bP (pNil v0) fun x11 =>
  bP (fa Q q 197 0 0 x11) fun x12 =>
  bS (e.ev.cl 103 [x12, (.int .i64 15)] G9) fun x13 G14 =>
  bP (pNil v0) fun x15 =>
  bP (fa Q q 197 0 0 x15) fun x16 =>
  bP (fa Q q 192 0 0 x16) fun x17 =>
  bP (lda Q q 91 4 x17 (G14.room 12)) fun x18 =>
  bP (pNil v0) fun x19 =>
  bP (fa Q q 197 1 7 x19) fun x20 =>
  bP (ld Q q 28 x20 (G14.room 12)) fun x21 =>
  bS (e.ev.cl 112 [x18, x21] (G14.room 12)) fun x23 G22 =>
  bS (e.ev.cl 111 [x10, x23] G22) fun x25 G24 =>
  ifV x25 (
  bS (e.ev.cl 80 [x10] G24) fun x26 G27 =>
  bP (pNil v0) fun x28 =>
  bP (fa Q q 197 2 8 x28) fun x29 =>
  bP (st Q q 3 1 x29 x26 G27) fun G30 =>
  bP (pNil v0) fun x31 =>
  bP (fa Q q 197 0 0 x31) fun x32 =>
  bS (e.ev.cl 103 [x32, (.int .i64 0)] G30) fun x33 G34 =>
  some (.tuple #[], G34)) (
  some (.tuple #[], G24))
theorem m130 {e : Ex} {E : Ev} (h : ExLe Q e E) (v0 v1 : Value) (G : GS) : Ref (s130 true e v0 v1 G) (s130 false (Ex.of E) v0 v1 G) := by
  unfold s130
  exact Ref.gq
theorem f130 {orc : FuncId → Bool} {e : Ex} (h : ExLe Q e (E orc)) (v0 v1 : Value) (G : GS) : Ref (s130 true e v0 v1 G) ((E orc).cl 130 [v0, v1] G) :=
  fun r hr => cl_sxE_some Q orc (vs := [v0, v1]) G Try.func130 (by kernel_rfl) (by kernel_rfl) (by kernel_rfl) (by kernel_rfl) (by kernel_rfl) (by kernel_rfl) (m130 h v0 v1 G r hr)
noncomputable def jb131_0 (q : Bool) (e : Ex) (τ : Env) (G : GS) : Option (Value × GS) :=
  bV q (τ 0) fun a0_ =>
  bP (pNil a0_) fun x0 =>
  bP (fa Q q 192 1 4 x0) fun x1 =>
  bP (ld Q q 111 x1 G) fun x2 =>
  bP (ef Q q false 111 (.tmp 19) (.const .nilFunc) x2 .nilFunc) fun x3 =>
  some (x3, G)
noncomputable def j131_0 (q : Bool) (e : Ex) (τ : Env) (G : GS) : Option (Value × GS) := jb131_0 q e τ G
theorem mj131_0 {e : Ex} {E : Ev} (h : ExLe Q e E) (τ : Env) (G : GS) : Ref (j131_0 true e τ G) (j131_0 false (Ex.of E) τ G) := by
  unfold j131_0 jb131_0
  exact Ref.gq
theorem mkj131_0 {e : Ex} {E : Ev} (h : ExLe Q e E) {τ : Env} {l U : List (Nat × Value)} {G : GS} (hU : UOk τ U) : Ref (j131_0 true e (xq true 21 τ l U) G) (j131_0 false (Ex.of E) (xq false 21 τ l U) G) := by
  rw [xq_eq hU]
  exact mj131_0 h _ _
noncomputable def sb131 (q : Bool) (e : Ex) (J0 : Env → GS → Option (Value × GS)) (v0 v1 : Value) (G : GS) : Option (Value × GS) :=
  bP (pNil v0) fun x4 =>
  bP (fa Q q 192 1 4 x4) fun x5 =>
  bP (ld Q q 111 x5 G) fun x6 =>
  bP (ef Q q true 111 (.tmp 8) (.const .nilFunc) x6 .nilFunc) fun x7 =>
  ifV x7 (
  bP (pNil v0) fun x8 =>
  bP (fa Q q 192 1 4 x8) fun x9 =>
  bP (ld Q q 111 x9 G) fun x10 =>
  bS (cValue e.ev x10 [v1] G) fun x11 G12 =>
  J0 (xq q 21 (nth undef [v0, v1]) [(15, x11), (14, v1), (13, x10), (12, x9), (11, x8), (10, v0), (9, x7), (8, x6), (7, x5), (6, x4), (5, v0), (4, (.bool false))] []) G12) (
  J0 (xq q 21 (nth undef [v0, v1]) [(9, x7), (8, x6), (7, x5), (6, x4), (5, v0), (4, (.bool false))] []) G)
/-- (*coxswain/ring.work).step -/
noncomputable def s131 (q : Bool) (e : Ex) (v0 v1 : Value) (G : GS) : Option (Value × GS) := sb131 q e (j131_0 q e) v0 v1 G
theorem m131 {e : Ex} {E : Ev} (h : ExLe Q e E) (v0 v1 : Value) (G : GS) : Ref (s131 true e v0 v1 G) (s131 false (Ex.of E) v0 v1 G) := by
  unfold s131 sb131
  repeat' (with_reducible first | exact Ref.rfl' _ | exact ROp.r | refine Ref.bP ?_ fun _ => ?_ | refine Ref.bS ?_ fun _ _ => ?_ | exact Ref.cl (by assumption) | refine Ref.ifV ?_ ?_ | refine LpLe.rx (by assumption) ?_ | refine Ref.xitq ?_ | exact UOk.z | refine UOk.c (by assumption) ?_ | exact Ref.nil _ | refine Ref.bVe fun _ _ => ?_ | refine Ref.bLq (by assumption) ?_ fun _ _ _ => ?_ | refine Ref.ifE ?_ ?_ | refine Ref.chk ?_ ?_ | refine Imp.and ?_ ?_ | refine Imp.or ?_ | exact Imp.rfl' _ | refine Imp.sameO ?_ | refine Ref.gd ?_ | exact Ref.cValue (by assumption) | refine Ref.bX ?_ fun _ _ _ => ?_ | exact Ref.scQ (by assumption) | exact Ref.xRangeQ (by assumption) | exact Ref.cInvoke (by assumption) | refine mkj131_0 (by assumption) ?_)
noncomputable def jt131 (J0 : Env → GS → Option (Value × GS)) : JT (Value × GS) :=
  (.n none .e (.n (some (fun T G => J0 (nth undef T) G)) .e .e))
theorem jr131_0 (orc : FuncId → Bool) (J0 : Env → GS → Option (Value × GS)) (T : List Value) (G : GS) : runC Q (evL Q orc) Try.f131.ntmps (jt131 J0) (bodyOf Try.f131) (retE Q Try.f131.results.toList) [true] (nth undef T) G = jb131_0 false (Ex.of (E orc))  (nth undef T) G := by kernel_rfl
theorem jo131 (orc : FuncId → Bool) : JOk Q orc Try.f131.ntmps (jt131 (j131_0 false (Ex.of (E orc))) ) (bodyOf Try.f131) (retE Q Try.f131.results.toList) :=
  jOk Q orc (l := [([true], (fun T G => j131_0 false (Ex.of (E orc)) (nth undef T) G))]) (by kernel_rfl) (AllE.c (fun T G => jr131_0 orc (j131_0 false (Ex.of (E orc))) T G) (AllE.z))
theorem je131 (orc : FuncId → Bool) (J0 : Env → GS → Option (Value × GS)) (v0 v1 : Value) (G : GS) : sxC Q (evL Q orc) Try.f131.ntmps (jt131 J0) (bodyOf Try.f131) (nth undef [v0, v1]) G (retE Q Try.f131.results.toList) = sb131 false (Ex.of (E orc)) J0 v0 v1 G := by kernel_rfl
theorem f131 {orc : FuncId → Bool} {e : Ex} (h : ExLe Q e (E orc)) (v0 v1 : Value) (G : GS) : Ref (s131 true e v0 v1 G) ((E orc).cl 131 [v0, v1] G) :=
  fun r hr => cl_sxC Q orc (vs := [v0, v1]) G (jt131 (j131_0 false (Ex.of (E orc))) ) Try.func131 (by kernel_rfl) (by kernel_rfl) (by kernel_rfl) (by kernel_rfl) (by kernel_rfl) (jo131 orc) (je131 orc (j131_0 false (Ex.of (E orc))) v0 v1 G) (m131 h v0 v1 G r hr)
/-- (*coxswain/stack.Push).Step -/
noncomputable def s134 (q : Bool) (e : Ex) (v0 v1 : Value) (G : GS) : Option (Value × GS) :=
  bP (ep Q q false 106 (.tmp 5) (.const (.pointer none)) v0 (.pointer none)) fun x0 =>
  bS (gd x0 false (some (v0, G)) G) fun x1 G2 =>
  bS (gd x0 false (bP (pNil x1) fun y => some (y, G2)) G2) fun x3 G4 =>
  bS (gd x0 false (bP (fa Q q 168 0 0 x3) fun y => some (y, G4)) G4) fun x5 G6 =>
  bS (gd x0 false (bS (e.ev.cl 137 [x5] G6) fun y G => some (y, G)) G6) fun x7 G8 =>
  bP (pickV x0 (.bool true) x7) fun x9 =>
  ifV x9 (
  some ((.bool true), G8)) (
  bP (pNil v0) fun x10 =>
  bP (fa Q q 168 1 9 x10) fun x11 =>
  bP (ld Q q 166 x11 G8) fun x12 =>
  bS (cValue e.ev x12 [v0, v1] G8) fun x13 G14 =>
  bP (pNil v0) fun x15 =>
  bP (fa Q q 168 0 0 x15) fun x16 =>
  bP (fa Q q 165 5 7 x16) fun x17 =>
  bP (ld Q q 4 x17 G14) fun x18 =>
  some (x18, G14))
theorem m134 {e : Ex} {E : Ev} (h : ExLe Q e E) (v0 v1 : Value) (G : GS) : Ref (s134 true e v0 v1 G) (s134 false (Ex.of E) v0 v1 G) := by
  unfold s134
  exact Ref.gq
theorem f134 {orc : FuncId → Bool} {e : Ex} (h : ExLe Q e (E orc)) (v0 v1 : Value) (G : GS) : Ref (s134 true e v0 v1 G) ((E orc).cl 134 [v0, v1] G) :=
  fun r hr => cl_sxE_some Q orc (vs := [v0, v1]) G Try.func134 (by kernel_rfl) (by kernel_rfl) (by kernel_rfl) (by kernel_rfl) (by kernel_rfl) (by kernel_rfl) (m134 h v0 v1 G r hr)
/-- (*coxswain/stack.held).over -/
noncomputable def s137 (q : Bool) (e : Ex) (v0 : Value) (G : GS) : Option (Value × GS) :=
  bP (ep Q q false 204 (.tmp 3) (.const (.pointer none)) v0 (.pointer none)) fun x0 =>
  bS (gd x0 false (some (v0, G)) G) fun x1 G2 =>
  bS (gd x0 false (bP (pNil x1) fun y => some (y, G2)) G2) fun x3 G4 =>
  bS (gd x0 false (bP (fa Q q 165 4 6 x3) fun y => some (y, G4)) G4) fun x5 G6 =>
  bS (gd x0 false (bP (ld Q q 4 x5 G6) fun y => some (y, G6)) G6) fun x7 G8 =>
  bS (gd x0 false (bP (un Q q .not x7) fun y => some (y, G8)) G8) fun x9 G10 =>
  bP (pickV x0 (.bool true) x9) fun x11 =>
  bS (gd x11 false (some (v0, G10)) G10) fun x12 G13 =>
  bS (gd x11 false (bP (pNil x12) fun y => some (y, G13)) G13) fun x14 G15 =>
  bS (gd x11 false (bP (fa Q q 165 5 7 x14) fun y => some (y, G15)) G15) fun x16 G17 =>
  bS (gd x11 false (bP (ld Q q 4 x16 G17) fun y => some (y, G17)) G17) fun x18 G19 =>
  bP (pickV x11 (.bool true) x18) fun x20 =>
  some (x20, G19)
theorem m137 {e : Ex} {E : Ev} (h : ExLe Q e E) (v0 : Value) (G : GS) : Ref (s137 true e v0 G) (s137 false (Ex.of E) v0 G) := by
  unfold s137
  exact Ref.gq
theorem f137 {orc : FuncId → Bool} {e : Ex} (h : ExLe Q e (E orc)) (v0 : Value) (G : GS) : Ref (s137 true e v0 G) ((E orc).cl 137 [v0] G) :=
  fun r hr => cl_sxE_some Q orc (vs := [v0]) G Try.func137 (by kernel_rfl) (by kernel_rfl) (by kernel_rfl) (by kernel_rfl) (by kernel_rfl) (by kernel_rfl) (m137 h v0 G r hr)
/-- coxswain/ring.of -/
noncomputable def s140 (q : Bool) (e : Ex) (v0 : Value) (G : GS) : Option (Value × GS) :=
  bP (cv Q q 201 162 .u32 .u64 v0) fun x0 =>
  bP (bn Q q .shl 162 (.tmp 4) (.const (.int .u64 32)) x0 (.int .u64 32)) fun x1 =>
  some (x1, G)
theorem m140 {e : Ex} {E : Ev} (h : ExLe Q e E) (v0 : Value) (G : GS) : Ref (s140 true e v0 G) (s140 false (Ex.of E) v0 G) := by
  unfold s140
  exact Ref.gq
theorem f140 {orc : FuncId → Bool} {e : Ex} (h : ExLe Q e (E orc)) (v0 : Value) (G : GS) : Ref (s140 true e v0 G) ((E orc).cl 140 [v0] G) :=
  fun r hr => cl_sxE_some Q orc (vs := [v0]) G Try.func140 (by kernel_rfl) (by kernel_rfl) (by kernel_rfl) (by kernel_rfl) (by kernel_rfl) (by kernel_rfl) (m140 h v0 G r hr)
/-- (*coxswain/ring.Drop).head -/
noncomputable def s141 (q : Bool) (e : Ex) (v0 v1 : Value) (G : GS) : Option (Value × GS) :=
  bP (pNil v0) fun x0 =>
  bP (fa Q q 219 0 0 x0) fun x1 =>
  bP (fa Q q 192 0 0 x1) fun x2 =>
  bP (fa Q q 91 0 0 x2) fun x3 =>
  bP (ld Q q 3 x3 (G.room 13)) fun x4 =>
  bP (pNil v0) fun x5 =>
  bP (fa Q q 219 1 7 x5) fun x6 =>
  bP (ld Q q 28 x6 (G.room 13)) fun x7 =>
  bP (bn Q q .add 28 (.tmp 14) (.const (.int .u64 1)) x7 (.int .u64 1)) fun x8 =>
  bS (e.ev.cl 57 [v1, x4, x8] (G.room 13)) fun x10 G9 =>
  bP (pNil v0) fun x11 =>
  bP (fa Q q 219 0 0 x11) fun x12 =>
  bS (e.ev.cl 103 [x12, (.int .i64 0)] G9) fun x13 G14 =>
  some (.tuple #[], G14)
theorem m141 {e : Ex} {E : Ev} (h : ExLe Q e E) (v0 v1 : Value) (G : GS) : Ref (s141 true e v0 v1 G) (s141 false (Ex.of E) v0 v1 G) := by
  unfold s141
  exact Ref.gq
theorem f141 {orc : FuncId → Bool} {e : Ex} (h : ExLe Q e (E orc)) (v0 v1 : Value) (G : GS) : Ref (s141 true e v0 v1 G) ((E orc).cl 141 [v0, v1] G) :=
  fun r hr => cl_sxE_some Q orc (vs := [v0, v1]) G Try.func141 (by kernel_rfl) (by kernel_rfl) (by kernel_rfl) (by kernel_rfl) (by kernel_rfl) (by kernel_rfl) (m141 h v0 v1 G r hr)
/-- (coxswain/ring.slot).empty -/
noncomputable def s142 (q : Bool) (e : Ex) (v0 v1 : Value) (G : GS) : Option (Value × GS) :=
  bP (bn Q q .shr 162 (.tmp 5) (.const (.int .u64 32)) v0 (.int .u64 32)) fun x0 =>
  bP (cv Q q 162 201 .u64 .u32 x0) fun x1 =>
  bP (bn Q q .eql 201 (.tmp 7) (.tmp 8) x1 v1) fun x2 =>
  bS (gd x2 true (some (v0, G)) G) fun x3 G4 =>
  bS (gd x2 true (bP (bn Q q .and 162 (.tmp 11) (.const (.int .u64 65536)) x3 (.int .u64 65536)) fun y => some (y, G4)) G4) fun x5 G6 =>
  bS (gd x2 true (bP (bn Q q .eql 162 (.tmp 12) (.const (.int .u64 0)) x5 (.int .u64 0)) fun y => some (y, G6)) G6) fun x7 G8 =>
  bP (pickV x2 x7 (.bool false)) fun x9 =>
  some (x9, G8)
theorem m142 {e : Ex} {E : Ev} (h : ExLe Q e E) (v0 v1 : Value) (G : GS) : Ref (s142 true e v0 v1 G) (s142 false (Ex.of E) v0 v1 G) := by
  unfold s142
  exact Ref.gq
theorem f142 {orc : FuncId → Bool} {e : Ex} (h : ExLe Q e (E orc)) (v0 v1 : Value) (G : GS) : Ref (s142 true e v0 v1 G) ((E orc).cl 142 [v0, v1] G) :=
  fun r hr => cl_sxE_some Q orc (vs := [v0, v1]) G Try.func142 (by kernel_rfl) (by kernel_rfl) (by kernel_rfl) (by kernel_rfl) (by kernel_rfl) (by kernel_rfl) (m142 h v0 v1 G r hr)
/-- (*coxswain/ring.Push).lay -/
noncomputable def s143 (q : Bool) (e : Ex) (v0 v1 : Value) (G : GS) : Option (Value × GS) :=
  bP (pNil v0) fun x0 =>
  bP (fa Q q 195 0 0 x0) fun x1 =>
  bP (fa Q q 192 1 4 x1) fun x2 =>
  bP (st Q q 111 1 x2 (.func (.func 144) #[v0] #[]) G) fun G3 =>
  bP (pNil v0) fun x4 =>
  bP (fa Q q 195 0 0 x4) fun x5 =>
  bP (fa Q q 192 0 0 x5) fun x6 =>
  bP (lda Q q 91 4 x6 (G3.room 32)) fun x7 =>
  bP (pNil v0) fun x8 =>
  bP (fa Q q 195 2 8 x8) fun x9 =>
  bP (ld Q q 28 x9 (G3.room 32)) fun x10 =>
  bS (e.ev.cl 79 [x7, x10] (G3.room 32)) fun x12 G11 =>
  bP (pNil v0) fun x13 =>
  bP (fa Q q 195 3 9 x13) fun x14 =>
  bP (ld Q q 162 x14 G11) fun x15 =>
  chk ((sameO (ld Q q 162 x14 (G3.room 32)) x15 && true)) <|
  bP (pNil v0) fun x16 =>
  bP (fa Q q 195 0 0 x16) fun x17 =>
  bP (fa Q q 192 0 0 x17) fun x18 =>
  bP (lda Q q 91 4 x18 G11) fun x19 =>
  chk ((sameO (lda Q q 91 4 x18 (G3.room 32)) x19 && true)) <|
  bP (pNil v0) fun x20 =>
  bP (fa Q q 195 2 8 x20) fun x21 =>
  bP (ld Q q 28 x21 G11) fun x22 =>
  chk ((sameO (ld Q q 28 x21 (G3.room 32)) x22 && true)) <|
  bS (e.ev.cl 112 [x19, x22] G11) fun x24 G23 =>
  chk ((sameO (ld Q q 162 x14 G23) x15 && true)) <|
  bS (e.ev.cl 140 [x24] G23) fun x26 G25 =>
  chk ((sameO (ld Q q 162 x14 G25) x15 && true)) <|
  bP (pNil v0) fun x27 =>
  bP (fa Q q 195 1 7 x27) fun x28 =>
  bP (ld Q q 3 x28 G25) fun x29 =>
  chk ((sameO (ld Q q 3 x28 G23) x29 && (sameO (ld Q q 3 x28 G11) x29 && (sameO (ld Q q 3 x28 (G3.room 32)) x29 && true)))) <|
  bS (e.ev.cl 149 [x26, x29] G25) fun x31 G30 =>
  chk ((sameO (ld Q q 162 x14 G30) x15 && true)) <|
  bS (e.ev.cl 148 [v1, x12, x15, x31] G30) fun x33 G32 =>
  ifV x33 (
  bP (pNil v0) fun x34 =>
  bP (fa Q q 195 0 0 x34) fun x35 =>
  bP (fa Q q 192 1 4 x35) fun x36 =>
  bP (st Q q 111 1 x36 (.func (.func 150) #[v0] #[]) G32) fun G37 =>
  some (.tuple #[], G37)) (
  some (.tuple #[], G32))
theorem m143 {e : Ex} {E : Ev} (h : ExLe Q e E) (v0 v1 : Value) (G : GS) : Ref (s143 true e v0 v1 G) (s143 false (Ex.of E) v0 v1 G) := by
  unfold s143
  exact Ref.gq
theorem f143 {orc : FuncId → Bool} {e : Ex} (h : ExLe Q e (E orc)) (v0 v1 : Value) (G : GS) : Ref (s143 true e v0 v1 G) ((E orc).cl 143 [v0, v1] G) :=
  fun r hr => cl_sxE_some Q orc (vs := [v0, v1]) G Try.func143 (by kernel_rfl) (by kernel_rfl) (by kernel_rfl) (by kernel_rfl) (by kernel_rfl) (by kernel_rfl) (m143 h v0 v1 G r hr)
/-- (*coxswain/ring.Push).help -/
noncomputable def s144 (q : Bool) (e : Ex) (v0 v1 : Value) (G : GS) : Option (Value × GS) :=
  bP (pNil v0) fun x0 =>
  bP (fa Q q 195 0 0 x0) fun x1 =>
  bP (fa Q q 192 0 0 x1) fun x2 =>
  bP (fa Q q 91 1 1 x2) fun x3 =>
  bP (ld Q q 3 x3 (G.room 17)) fun x4 =>
  bP (pNil v0) fun x5 =>
  bP (fa Q q 195 2 8 x5) fun x6 =>
  bP (ld Q q 28 x6 (G.room 17)) fun x7 =>
  bP (pNil v0) fun x8 =>
  bP (fa Q q 195 2 8 x8) fun x9 =>
  bP (ld Q q 28 x9 (G.room 17)) fun x10 =>
  bP (bn Q q .add 28 (.tmp 18) (.const (.int .u64 1)) x10 (.int .u64 1)) fun x11 =>
  bS (e.ev.cl 148 [v1, x4, x7, x11] (G.room 17)) fun x13 G12 =>
  bP (pNil v0) fun x14 =>
  bP (fa Q q 195 0 0 x14) fun x15 =>
  bP (fa Q q 192 1 4 x15) fun x16 =>
  bP (st Q q 111 1 x16 (.func (.func 104) #[v0] #[]) G12) fun G17 =>
  some (.tuple #[], G17)
theorem m144 {e : Ex} {E : Ev} (h : ExLe Q e E) (v0 v1 : Value) (G : GS) : Ref (s144 true e v0 v1 G) (s144 false (Ex.of E) v0 v1 G) := by
  unfold s144
  exact Ref.gq
theorem f144 {orc : FuncId → Bool} {e : Ex} (h : ExLe Q e (E orc)) (v0 v1 : Value) (G : GS) : Ref (s144 true e v0 v1 G) ((E orc).cl 144 [v0, v1] G) :=
  fun r hr => cl_sxE_some Q orc (vs := [v0, v1]) G Try.func144 (by kernel_rfl) (by kernel_rfl) (by kernel_rfl) (by kernel_rfl) (by kernel_rfl) (by kernel_rfl) (m144 h v0 v1 G r hr)
/-- (*coxswain/cells.Mem).CAS -/
noncomputable def s148 (q : Bool) (e : Ex) (v0 v1 v2 v3 : Value) (G : GS) : Option (Value × GS) :=
  bS (e.ev.cl 88 [v0, v1] G) fun x0 G1 =>
  bP (bd Q q 179 z179 [(0, 0, 1), (1, 1, 1), (2, 2, 1)] [x0, v2, v3]) fun x2 =>
  bS (al Q q 179 z179 G1) fun x3 G4 =>
  bP (st Q q 179 3 x3 x2 G4) fun G5 =>
  bP (fa Q q 179 0 0 x3) fun x6 =>
  bP (ld Q q 176 x6 G5) fun x7 =>
  bP (lda Q q 179 3 x3 G5) fun x8 =>
  bS (e.ev.cl 89 [v0, (.int .i64 3), v1, x7, (.func (.func 151) #[x8] #[])] G5) fun x9 G10 =>
  bP (fd Q q 79 4 4 x9) fun x11 =>
  some (x11, G10)
theorem m148 {e : Ex} {E : Ev} (h : ExLe Q e E) (v0 v1 v2 v3 : Value) (G : GS) : Ref (s148 true e v0 v1 v2 v3 G) (s148 false (Ex.of E) v0 v1 v2 v3 G) := by
  unfold s148
  exact Ref.gq
theorem f148 {orc : FuncId → Bool} {e : Ex} (h : ExLe Q e (E orc)) (v0 v1 v2 v3 : Value) (G : GS) : Ref (s148 true e v0 v1 v2 v3 G) ((E orc).cl 148 [v0, v1, v2, v3] G) :=
  fun r hr => cl_sxE_some Q orc (vs := [v0, v1, v2, v3]) G Try.func148 (by kernel_rfl) (by kernel_rfl) (by kernel_rfl) (by kernel_rfl) (by kernel_rfl) (by kernel_rfl) (m148 h v0 v1 v2 v3 G r hr)
/-- (coxswain/ring.slot).with -/
noncomputable def s149 (q : Bool) (e : Ex) (v0 v1 : Value) (G : GS) : Option (Value × GS) :=
  bP (bn Q q .andNot 162 (.tmp 5) (.const (.int .u64 65535)) v0 (.int .u64 65535)) fun x0 =>
  bP (bn Q q .or 162 (.tmp 6) (.const (.int .u64 65536)) x0 (.int .u64 65536)) fun x1 =>
  bP (cv Q q 3 162 .i64 .u64 v1) fun x2 =>
  bP (bn Q q .or 162 (.tmp 7) (.tmp 9) x1 x2) fun x3 =>
  some (x3, G)
theorem m149 {e : Ex} {E : Ev} (h : ExLe Q e E) (v0 v1 : Value) (G : GS) : Ref (s149 true e v0 v1 G) (s149 false (Ex.of E) v0 v1 G) := by
  unfold s149
  exact Ref.gq
theorem f149 {orc : FuncId → Bool} {e : Ex} (h : ExLe Q e (E orc)) (v0 v1 : Value) (G : GS) : Ref (s149 true e v0 v1 G) ((E orc).cl 149 [v0, v1] G) :=
  fun r hr => cl_sxE_some Q orc (vs := [v0, v1]) G Try.func149 (by kernel_rfl) (by kernel_rfl) (by kernel_rfl) (by kernel_rfl) (by kernel_rfl) (by kernel_rfl) (m149 h v0 v1 G r hr)
/-- (*coxswain/ring.Push).last -/
noncomputable def s150 (q : Bool) (e : Ex) (v0 v1 : Value) (G : GS) : Option (Value × GS) :=
  bP (pNil v0) fun x0 =>
  bP (fa Q q 195 0 0 x0) fun x1 =>
  bP (fa Q q 192 0 0 x1) fun x2 =>
  bP (fa Q q 91 1 1 x2) fun x3 =>
  bP (ld Q q 3 x3 (G.room 17)) fun x4 =>
  bP (pNil v0) fun x5 =>
  bP (fa Q q 195 2 8 x5) fun x6 =>
  bP (ld Q q 28 x6 (G.room 17)) fun x7 =>
  bP (pNil v0) fun x8 =>
  bP (fa Q q 195 2 8 x8) fun x9 =>
  bP (ld Q q 28 x9 (G.room 17)) fun x10 =>
  bP (bn Q q .add 28 (.tmp 18) (.const (.int .u64 1)) x10 (.int .u64 1)) fun x11 =>
  bS (e.ev.cl 148 [v1, x4, x7, x11] (G.room 17)) fun x13 G12 =>
  bP (pNil v0) fun x14 =>
  bP (fa Q q 195 0 0 x14) fun x15 =>
  bS (e.ev.cl 103 [x15, (.int .i64 0)] G12) fun x16 G17 =>
  some (.tuple #[], G17)
theorem m150 {e : Ex} {E : Ev} (h : ExLe Q e E) (v0 v1 : Value) (G : GS) : Ref (s150 true e v0 v1 G) (s150 false (Ex.of E) v0 v1 G) := by
  unfold s150
  exact Ref.gq
theorem f150 {orc : FuncId → Bool} {e : Ex} (h : ExLe Q e (E orc)) (v0 v1 : Value) (G : GS) : Ref (s150 true e v0 v1 G) ((E orc).cl 150 [v0, v1] G) :=
  fun r hr => cl_sxE_some Q orc (vs := [v0, v1]) G Try.func150 (by kernel_rfl) (by kernel_rfl) (by kernel_rfl) (by kernel_rfl) (by kernel_rfl) (by kernel_rfl) (m150 h v0 v1 G r hr)
/-- (coxswain/cells.deed).swap -/
noncomputable def s151 (q : Bool) (e : Ex) (v0 : Value) (G : GS) : Option (Value × GS) :=
  bS (bx q v0 G) fun x0 G1 =>
  bP (fa Q q 179 0 0 x0) fun x2 =>
  bP (ld Q q 176 x2 (G1.room 7)) fun x3 =>
  bP (pNil x3) fun x4 =>
  bP (ld Q q 83 x4 (G1.room 7)) fun x5 =>
  bP (fa Q q 179 1 1 x0) fun x6 =>
  bP (ld Q q 28 x6 (G1.room 7)) fun x7 =>
  bP (bn Q q .neq 28 (.tmp 7) (.tmp 9) x5 x7) fun x8 =>
  ifV x8 (
  bP (fa Q q 179 0 0 x0) fun x9 =>
  bP (ld Q q 176 x9 (G1.room 7)) fun x10 =>
  bP (pNil x10) fun x11 =>
  bP (ld Q q 83 x11 (G1.room 7)) fun x12 =>
  some (.tuple #[x12, (.bool false)], (G1.room 7))) (
  bP (fa Q q 179 2 2 x0) fun x13 =>
  bP (ld Q q 28 x13 (G1.room 7)) fun x14 =>
  some (.tuple #[x14, (.bool true)], (G1.room 7)))
theorem m151 {e : Ex} {E : Ev} (h : ExLe Q e E) (v0 : Value) (G : GS) : Ref (s151 true e v0 G) (s151 false (Ex.of E) v0 G) := by
  unfold s151
  exact Ref.gq
theorem f151 {orc : FuncId → Bool} {e : Ex} (h : ExLe Q e (E orc)) (v0 : Value) (G : GS) : Ref (s151 true e v0 G) ((E orc).cl 151 [v0] G) :=
  fun r hr => cl_sxE_some Q orc (vs := [v0]) G Try.func151 (by kernel_rfl) (by kernel_rfl) (by kernel_rfl) (by kernel_rfl) (by kernel_rfl) (by kernel_rfl) (m151 h v0 G r hr)
/-- (*coxswain/ring.Front).Step -/
noncomputable def s168 (q : Bool) (e : Ex) (v0 v1 : Value) (G : GS) : Option (Value × GS) :=
  bP (ep Q q false 152 (.tmp 5) (.const (.pointer none)) v0 (.pointer none)) fun x0 =>
  bS (gd x0 false (some (v0, G)) G) fun x1 G2 =>
  bS (gd x0 false (bP (pNil x1) fun y => some (y, G2)) G2) fun x3 G4 =>
  bS (gd x0 false (bP (fa Q q 197 0 0 x3) fun y => some (y, G4)) G4) fun x5 G6 =>
  bS (gd x0 false (some (v1, G6)) G6) fun x7 G8 =>
  bS (gd x0 false (bS (e.ev.cl 131 [x5, x7] G8) fun y G => some (y, G)) G8) fun x9 G10 =>
  bP (pickV x0 (.bool true) x9) fun x11 =>
  some (x11, G10)
theorem m168 {e : Ex} {E : Ev} (h : ExLe Q e E) (v0 v1 : Value) (G : GS) : Ref (s168 true e v0 v1 G) (s168 false (Ex.of E) v0 v1 G) := by
  unfold s168
  exact Ref.gq
theorem f168 {orc : FuncId → Bool} {e : Ex} (h : ExLe Q e (E orc)) (v0 v1 : Value) (G : GS) : Ref (s168 true e v0 v1 G) ((E orc).cl 168 [v0, v1] G) :=
  fun r hr => cl_sxE_some Q orc (vs := [v0, v1]) G Try.func168 (by kernel_rfl) (by kernel_rfl) (by kernel_rfl) (by kernel_rfl) (by kernel_rfl) (by kernel_rfl) (m168 h v0 v1 G r hr)
/-- (*coxswain/ring.Drop).Step -/
noncomputable def s170 (q : Bool) (e : Ex) (v0 v1 : Value) (G : GS) : Option (Value × GS) :=
  bP (ep Q q false 188 (.tmp 5) (.const (.pointer none)) v0 (.pointer none)) fun x0 =>
  bS (gd x0 false (some (v0, G)) G) fun x1 G2 =>
  bS (gd x0 false (bP (pNil x1) fun y => some (y, G2)) G2) fun x3 G4 =>
  bS (gd x0 false (bP (fa Q q 219 0 0 x3) fun y => some (y, G4)) G4) fun x5 G6 =>
  bS (gd x0 false (some (v1, G6)) G6) fun x7 G8 =>
  bS (gd x0 false (bS (e.ev.cl 131 [x5, x7] G8) fun y G => some (y, G)) G8) fun x9 G10 =>
  bP (pickV x0 (.bool true) x9) fun x11 =>
  some (x11, G10)
theorem m170 {e : Ex} {E : Ev} (h : ExLe Q e E) (v0 v1 : Value) (G : GS) : Ref (s170 true e v0 v1 G) (s170 false (Ex.of E) v0 v1 G) := by
  unfold s170
  exact Ref.gq
theorem f170 {orc : FuncId → Bool} {e : Ex} (h : ExLe Q e (E orc)) (v0 v1 : Value) (G : GS) : Ref (s170 true e v0 v1 G) ((E orc).cl 170 [v0, v1] G) :=
  fun r hr => cl_sxE_some Q orc (vs := [v0, v1]) G Try.func170 (by kernel_rfl) (by kernel_rfl) (by kernel_rfl) (by kernel_rfl) (by kernel_rfl) (by kernel_rfl) (m170 h v0 v1 G r hr)
noncomputable def clT (orc : FuncId → Bool) (e : Ex) (f : FuncId) (vs : List Value) (G : GS) : Option (Value × GS) :=
  fork f 78 (
fork f 44 (
fork f 22 (
fork f 12 (
fork f 7 (
fork f 4 (
leaf f 4 (app2 (s4 true e) vs G)) (
leaf f 7 (app2 (s7 true e) vs G))) (
fork f 9 (
leaf f 9 (app1 (s9 true e) vs G)) (
fork f 11 (
leaf f 11 (app0 (orc 11) (hasTab Q G) (s11 true e) vs G)) (
leaf f 12 (app1 (s12 true e) vs G))))) (
fork f 14 (
fork f 13 (
leaf f 13 (app3 (s13 true e) vs G)) (
leaf f 14 (app2 (s14 true e) vs G))) (
fork f 15 (
leaf f 15 (app3 (s15 true e) vs G)) (
fork f 19 (
leaf f 19 (app2 (s19 true e) vs G)) (
leaf f 22 (app1 (s22 true e) vs G)))))) (
fork f 37 (
fork f 34 (
fork f 30 (
leaf f 30 (app2 (s30 true e) vs G)) (
leaf f 34 (app3 (s34 true e) vs G))) (
fork f 35 (
leaf f 35 (app3 (s35 true e) vs G)) (
fork f 36 (
leaf f 36 (app1 (s36 true e) vs G)) (
leaf f 37 (app1 (s37 true e) vs G))))) (
fork f 41 (
fork f 40 (
leaf f 40 (app2 (s40 true e) vs G)) (
leaf f 41 (app3 (s41 true e) vs G))) (
fork f 42 (
leaf f 42 (app3 (s42 true e) vs G)) (
fork f 43 (
leaf f 43 (app2 (s43 true e) vs G)) (
leaf f 44 (app2 (s44 true e) vs G))))))) (
fork f 68 (
fork f 63 (
fork f 52 (
fork f 45 (
leaf f 45 (app2 (s45 true e) vs G)) (
leaf f 52 (app2 (s52 true e) vs G))) (
fork f 57 (
leaf f 57 (app3 (s57 true e) vs G)) (
fork f 59 (
leaf f 59 (app2 (s59 true e) vs G)) (
leaf f 63 (app1 (s63 true e) vs G))))) (
fork f 65 (
fork f 64 (
leaf f 64 (app1 (s64 true e) vs G)) (
leaf f 65 (app1 (s65 true e) vs G))) (
fork f 66 (
leaf f 66 (app2 (s66 true e) vs G)) (
fork f 67 (
leaf f 67 (app2 (s67 true e) vs G)) (
leaf f 68 (app2 (s68 true e) vs G)))))) (
fork f 73 (
fork f 70 (
fork f 69 (
leaf f 69 (app1 (s69 true e) vs G)) (
leaf f 70 (app1 (s70 true e) vs G))) (
fork f 71 (
leaf f 71 (app2 (s71 true e) vs G)) (
fork f 72 (
leaf f 72 (app2 (s72 true e) vs G)) (
leaf f 73 (app2 (s73 true e) vs G))))) (
fork f 75 (
fork f 74 (
leaf f 74 (app2 (s74 true e) vs G)) (
leaf f 75 (app2 (s75 true e) vs G))) (
fork f 76 (
leaf f 76 (app1 (s76 true e) vs G)) (
fork f 77 (
leaf f 77 (app2 (s77 true e) vs G)) (
leaf f 78 (app2 (s78 true e) vs G)))))))) (
fork f 111 (
fork f 101 (
fork f 90 (
fork f 80 (
fork f 79 (
leaf f 79 (app2 (s79 true e) vs G)) (
leaf f 80 (app1 (s80 true e) vs G))) (
fork f 88 (
leaf f 88 (app2 (s88 true e) vs G)) (
fork f 89 (
leaf f 89 (app5 (s89 true e) vs G)) (
leaf f 90 (app1 (s90 true e) vs G))))) (
fork f 98 (
fork f 94 (
leaf f 94 (app1 (s94 true e) vs G)) (
leaf f 98 (app2 (s98 true e) vs G))) (
fork f 99 (
leaf f 99 (app1 (s99 true e) vs G)) (
fork f 100 (
leaf f 100 (app2 (s100 true e) vs G)) (
leaf f 101 (app1 (s101 true e) vs G)))))) (
fork f 106 (
fork f 103 (
fork f 102 (
leaf f 102 (app1 (s102 true e) vs G)) (
leaf f 103 (app2 (s103 true e) vs G))) (
fork f 104 (
leaf f 104 (app2 (s104 true e) vs G)) (
fork f 105 (
leaf f 105 (app2 (s105 true e) vs G)) (
leaf f 106 (app2 (s106 true e) vs G))))) (
fork f 108 (
fork f 107 (
leaf f 107 (app2 (s107 true e) vs G)) (
leaf f 108 (app1 (s108 true e) vs G))) (
fork f 109 (
leaf f 109 (app1 (s109 true e) vs G)) (
fork f 110 (
leaf f 110 (app3 (s110 true e) vs G)) (
leaf f 111 (app2 (s111 true e) vs G))))))) (
fork f 137 (
fork f 128 (
fork f 118 (
fork f 112 (
leaf f 112 (app2 (s112 true e) vs G)) (
leaf f 118 (app2 (s118 true e) vs G))) (
fork f 122 (
leaf f 122 (app1 (s122 true e) vs G)) (
fork f 127 (
leaf f 127 (app1 (s127 true e) vs G)) (
leaf f 128 (app2 (s128 true e) vs G))))) (
fork f 130 (
fork f 129 (
leaf f 129 (app2 (s129 true e) vs G)) (
leaf f 130 (app2 (s130 true e) vs G))) (
fork f 131 (
leaf f 131 (app2 (s131 true e) vs G)) (
fork f 134 (
leaf f 134 (app2 (s134 true e) vs G)) (
leaf f 137 (app1 (s137 true e) vs G)))))) (
fork f 144 (
fork f 141 (
fork f 140 (
leaf f 140 (app1 (s140 true e) vs G)) (
leaf f 141 (app2 (s141 true e) vs G))) (
fork f 142 (
leaf f 142 (app2 (s142 true e) vs G)) (
fork f 143 (
leaf f 143 (app2 (s143 true e) vs G)) (
leaf f 144 (app2 (s144 true e) vs G))))) (
fork f 150 (
fork f 148 (
leaf f 148 (app4 (s148 true e) vs G)) (
fork f 149 (
leaf f 149 (app2 (s149 true e) vs G)) (
leaf f 150 (app2 (s150 true e) vs G)))) (
fork f 151 (
leaf f 151 (app1 (s151 true e) vs G)) (
fork f 168 (
leaf f 168 (app2 (s168 true e) vs G)) (
leaf f 170 (app2 (s170 true e) vs G))))))))
theorem clT_ok {orc : FuncId → Bool} {e : Ex} (h : ExLe Q e (E orc)) (f : FuncId) (vs : List Value) (G : GS) : Ref (clT orc e f vs G) ((E orc).cl f vs G) :=
  Ref.fork (
Ref.fork (
Ref.fork (
Ref.fork (
Ref.fork (
Ref.fork (
Ref.leaf (y := fun f => (E orc).cl f vs G) (Ref.app2 (fun u0 u1 G => f4 h u0 u1 G) vs G)) (
Ref.leaf (y := fun f => (E orc).cl f vs G) (Ref.app2 (fun u0 u1 G => f7 h u0 u1 G) vs G))) (
Ref.fork (
Ref.leaf (y := fun f => (E orc).cl f vs G) (Ref.app1 (fun u0 G => f9 h u0 G) vs G)) (
Ref.fork (
Ref.leaf (y := fun f => (E orc).cl f vs G) (Ref.app0 (fun ho G => f11 h ho G) vs G)) (
Ref.leaf (y := fun f => (E orc).cl f vs G) (Ref.app1 (fun u0 G => f12 h u0 G) vs G))))) (
Ref.fork (
Ref.fork (
Ref.leaf (y := fun f => (E orc).cl f vs G) (Ref.app3 (fun u0 u1 u2 G => f13 h u0 u1 u2 G) vs G)) (
Ref.leaf (y := fun f => (E orc).cl f vs G) (Ref.app2 (fun u0 u1 G => f14 h u0 u1 G) vs G))) (
Ref.fork (
Ref.leaf (y := fun f => (E orc).cl f vs G) (Ref.app3 (fun u0 u1 u2 G => f15 h u0 u1 u2 G) vs G)) (
Ref.fork (
Ref.leaf (y := fun f => (E orc).cl f vs G) (Ref.app2 (fun u0 u1 G => f19 h u0 u1 G) vs G)) (
Ref.leaf (y := fun f => (E orc).cl f vs G) (Ref.app1 (fun u0 G => f22 h u0 G) vs G)))))) (
Ref.fork (
Ref.fork (
Ref.fork (
Ref.leaf (y := fun f => (E orc).cl f vs G) (Ref.app2 (fun u0 u1 G => f30 h u0 u1 G) vs G)) (
Ref.leaf (y := fun f => (E orc).cl f vs G) (Ref.app3 (fun u0 u1 u2 G => f34 h u0 u1 u2 G) vs G))) (
Ref.fork (
Ref.leaf (y := fun f => (E orc).cl f vs G) (Ref.app3 (fun u0 u1 u2 G => f35 h u0 u1 u2 G) vs G)) (
Ref.fork (
Ref.leaf (y := fun f => (E orc).cl f vs G) (Ref.app1 (fun u0 G => f36 h u0 G) vs G)) (
Ref.leaf (y := fun f => (E orc).cl f vs G) (Ref.app1 (fun u0 G => f37 h u0 G) vs G))))) (
Ref.fork (
Ref.fork (
Ref.leaf (y := fun f => (E orc).cl f vs G) (Ref.app2 (fun u0 u1 G => f40 h u0 u1 G) vs G)) (
Ref.leaf (y := fun f => (E orc).cl f vs G) (Ref.app3 (fun u0 u1 u2 G => f41 h u0 u1 u2 G) vs G))) (
Ref.fork (
Ref.leaf (y := fun f => (E orc).cl f vs G) (Ref.app3 (fun u0 u1 u2 G => f42 h u0 u1 u2 G) vs G)) (
Ref.fork (
Ref.leaf (y := fun f => (E orc).cl f vs G) (Ref.app2 (fun u0 u1 G => f43 h u0 u1 G) vs G)) (
Ref.leaf (y := fun f => (E orc).cl f vs G) (Ref.app2 (fun u0 u1 G => f44 h u0 u1 G) vs G))))))) (
Ref.fork (
Ref.fork (
Ref.fork (
Ref.fork (
Ref.leaf (y := fun f => (E orc).cl f vs G) (Ref.app2 (fun u0 u1 G => f45 h u0 u1 G) vs G)) (
Ref.leaf (y := fun f => (E orc).cl f vs G) (Ref.app2 (fun u0 u1 G => f52 h u0 u1 G) vs G))) (
Ref.fork (
Ref.leaf (y := fun f => (E orc).cl f vs G) (Ref.app3 (fun u0 u1 u2 G => f57 h u0 u1 u2 G) vs G)) (
Ref.fork (
Ref.leaf (y := fun f => (E orc).cl f vs G) (Ref.app2 (fun u0 u1 G => f59 h u0 u1 G) vs G)) (
Ref.leaf (y := fun f => (E orc).cl f vs G) (Ref.app1 (fun u0 G => f63 h u0 G) vs G))))) (
Ref.fork (
Ref.fork (
Ref.leaf (y := fun f => (E orc).cl f vs G) (Ref.app1 (fun u0 G => f64 h u0 G) vs G)) (
Ref.leaf (y := fun f => (E orc).cl f vs G) (Ref.app1 (fun u0 G => f65 h u0 G) vs G))) (
Ref.fork (
Ref.leaf (y := fun f => (E orc).cl f vs G) (Ref.app2 (fun u0 u1 G => f66 h u0 u1 G) vs G)) (
Ref.fork (
Ref.leaf (y := fun f => (E orc).cl f vs G) (Ref.app2 (fun u0 u1 G => f67 h u0 u1 G) vs G)) (
Ref.leaf (y := fun f => (E orc).cl f vs G) (Ref.app2 (fun u0 u1 G => f68 h u0 u1 G) vs G)))))) (
Ref.fork (
Ref.fork (
Ref.fork (
Ref.leaf (y := fun f => (E orc).cl f vs G) (Ref.app1 (fun u0 G => f69 h u0 G) vs G)) (
Ref.leaf (y := fun f => (E orc).cl f vs G) (Ref.app1 (fun u0 G => f70 h u0 G) vs G))) (
Ref.fork (
Ref.leaf (y := fun f => (E orc).cl f vs G) (Ref.app2 (fun u0 u1 G => f71 h u0 u1 G) vs G)) (
Ref.fork (
Ref.leaf (y := fun f => (E orc).cl f vs G) (Ref.app2 (fun u0 u1 G => f72 h u0 u1 G) vs G)) (
Ref.leaf (y := fun f => (E orc).cl f vs G) (Ref.app2 (fun u0 u1 G => f73 h u0 u1 G) vs G))))) (
Ref.fork (
Ref.fork (
Ref.leaf (y := fun f => (E orc).cl f vs G) (Ref.app2 (fun u0 u1 G => f74 h u0 u1 G) vs G)) (
Ref.leaf (y := fun f => (E orc).cl f vs G) (Ref.app2 (fun u0 u1 G => f75 h u0 u1 G) vs G))) (
Ref.fork (
Ref.leaf (y := fun f => (E orc).cl f vs G) (Ref.app1 (fun u0 G => f76 h u0 G) vs G)) (
Ref.fork (
Ref.leaf (y := fun f => (E orc).cl f vs G) (Ref.app2 (fun u0 u1 G => f77 h u0 u1 G) vs G)) (
Ref.leaf (y := fun f => (E orc).cl f vs G) (Ref.app2 (fun u0 u1 G => f78 h u0 u1 G) vs G)))))))) (
Ref.fork (
Ref.fork (
Ref.fork (
Ref.fork (
Ref.fork (
Ref.leaf (y := fun f => (E orc).cl f vs G) (Ref.app2 (fun u0 u1 G => f79 h u0 u1 G) vs G)) (
Ref.leaf (y := fun f => (E orc).cl f vs G) (Ref.app1 (fun u0 G => f80 h u0 G) vs G))) (
Ref.fork (
Ref.leaf (y := fun f => (E orc).cl f vs G) (Ref.app2 (fun u0 u1 G => f88 h u0 u1 G) vs G)) (
Ref.fork (
Ref.leaf (y := fun f => (E orc).cl f vs G) (Ref.app5 (fun u0 u1 u2 u3 u4 G => f89 h u0 u1 u2 u3 u4 G) vs G)) (
Ref.leaf (y := fun f => (E orc).cl f vs G) (Ref.app1 (fun u0 G => f90 h u0 G) vs G))))) (
Ref.fork (
Ref.fork (
Ref.leaf (y := fun f => (E orc).cl f vs G) (Ref.app1 (fun u0 G => f94 h u0 G) vs G)) (
Ref.leaf (y := fun f => (E orc).cl f vs G) (Ref.app2 (fun u0 u1 G => f98 h u0 u1 G) vs G))) (
Ref.fork (
Ref.leaf (y := fun f => (E orc).cl f vs G) (Ref.app1 (fun u0 G => f99 h u0 G) vs G)) (
Ref.fork (
Ref.leaf (y := fun f => (E orc).cl f vs G) (Ref.app2 (fun u0 u1 G => f100 h u0 u1 G) vs G)) (
Ref.leaf (y := fun f => (E orc).cl f vs G) (Ref.app1 (fun u0 G => f101 h u0 G) vs G)))))) (
Ref.fork (
Ref.fork (
Ref.fork (
Ref.leaf (y := fun f => (E orc).cl f vs G) (Ref.app1 (fun u0 G => f102 h u0 G) vs G)) (
Ref.leaf (y := fun f => (E orc).cl f vs G) (Ref.app2 (fun u0 u1 G => f103 h u0 u1 G) vs G))) (
Ref.fork (
Ref.leaf (y := fun f => (E orc).cl f vs G) (Ref.app2 (fun u0 u1 G => f104 h u0 u1 G) vs G)) (
Ref.fork (
Ref.leaf (y := fun f => (E orc).cl f vs G) (Ref.app2 (fun u0 u1 G => f105 h u0 u1 G) vs G)) (
Ref.leaf (y := fun f => (E orc).cl f vs G) (Ref.app2 (fun u0 u1 G => f106 h u0 u1 G) vs G))))) (
Ref.fork (
Ref.fork (
Ref.leaf (y := fun f => (E orc).cl f vs G) (Ref.app2 (fun u0 u1 G => f107 h u0 u1 G) vs G)) (
Ref.leaf (y := fun f => (E orc).cl f vs G) (Ref.app1 (fun u0 G => f108 h u0 G) vs G))) (
Ref.fork (
Ref.leaf (y := fun f => (E orc).cl f vs G) (Ref.app1 (fun u0 G => f109 h u0 G) vs G)) (
Ref.fork (
Ref.leaf (y := fun f => (E orc).cl f vs G) (Ref.app3 (fun u0 u1 u2 G => f110 h u0 u1 u2 G) vs G)) (
Ref.leaf (y := fun f => (E orc).cl f vs G) (Ref.app2 (fun u0 u1 G => f111 h u0 u1 G) vs G))))))) (
Ref.fork (
Ref.fork (
Ref.fork (
Ref.fork (
Ref.leaf (y := fun f => (E orc).cl f vs G) (Ref.app2 (fun u0 u1 G => f112 h u0 u1 G) vs G)) (
Ref.leaf (y := fun f => (E orc).cl f vs G) (Ref.app2 (fun u0 u1 G => f118 h u0 u1 G) vs G))) (
Ref.fork (
Ref.leaf (y := fun f => (E orc).cl f vs G) (Ref.app1 (fun u0 G => f122 h u0 G) vs G)) (
Ref.fork (
Ref.leaf (y := fun f => (E orc).cl f vs G) (Ref.app1 (fun u0 G => f127 h u0 G) vs G)) (
Ref.leaf (y := fun f => (E orc).cl f vs G) (Ref.app2 (fun u0 u1 G => f128 h u0 u1 G) vs G))))) (
Ref.fork (
Ref.fork (
Ref.leaf (y := fun f => (E orc).cl f vs G) (Ref.app2 (fun u0 u1 G => f129 h u0 u1 G) vs G)) (
Ref.leaf (y := fun f => (E orc).cl f vs G) (Ref.app2 (fun u0 u1 G => f130 h u0 u1 G) vs G))) (
Ref.fork (
Ref.leaf (y := fun f => (E orc).cl f vs G) (Ref.app2 (fun u0 u1 G => f131 h u0 u1 G) vs G)) (
Ref.fork (
Ref.leaf (y := fun f => (E orc).cl f vs G) (Ref.app2 (fun u0 u1 G => f134 h u0 u1 G) vs G)) (
Ref.leaf (y := fun f => (E orc).cl f vs G) (Ref.app1 (fun u0 G => f137 h u0 G) vs G)))))) (
Ref.fork (
Ref.fork (
Ref.fork (
Ref.leaf (y := fun f => (E orc).cl f vs G) (Ref.app1 (fun u0 G => f140 h u0 G) vs G)) (
Ref.leaf (y := fun f => (E orc).cl f vs G) (Ref.app2 (fun u0 u1 G => f141 h u0 u1 G) vs G))) (
Ref.fork (
Ref.leaf (y := fun f => (E orc).cl f vs G) (Ref.app2 (fun u0 u1 G => f142 h u0 u1 G) vs G)) (
Ref.fork (
Ref.leaf (y := fun f => (E orc).cl f vs G) (Ref.app2 (fun u0 u1 G => f143 h u0 u1 G) vs G)) (
Ref.leaf (y := fun f => (E orc).cl f vs G) (Ref.app2 (fun u0 u1 G => f144 h u0 u1 G) vs G))))) (
Ref.fork (
Ref.fork (
Ref.leaf (y := fun f => (E orc).cl f vs G) (Ref.app4 (fun u0 u1 u2 u3 G => f148 h u0 u1 u2 u3 G) vs G)) (
Ref.fork (
Ref.leaf (y := fun f => (E orc).cl f vs G) (Ref.app2 (fun u0 u1 G => f149 h u0 u1 G) vs G)) (
Ref.leaf (y := fun f => (E orc).cl f vs G) (Ref.app2 (fun u0 u1 G => f150 h u0 u1 G) vs G)))) (
Ref.fork (
Ref.leaf (y := fun f => (E orc).cl f vs G) (Ref.app1 (fun u0 G => f151 h u0 G) vs G)) (
Ref.fork (
Ref.leaf (y := fun f => (E orc).cl f vs G) (Ref.app2 (fun u0 u1 G => f168 h u0 u1 G) vs G)) (
Ref.leaf (y := fun f => (E orc).cl f vs G) (Ref.app2 (fun u0 u1 G => f170 h u0 u1 G) vs G))))))))
noncomputable def lpT (FUEL : Nat) (e : Ex) (f k : Nat) (τ : Env) (G : GS) : Option (Exit × Env × GS) :=
  fork f 14 (
fork f 9 (
fork f 4 (
leaf f 4 (fork k 1 (fork k 0 (leaf k 0 (lpS 141 (b4_0 true e) FUEL τ G)) (leaf k 1 (lpS 141 (b4_1 true e) FUEL τ G))) (fork k 2 (leaf k 2 (lpS 141 (b4_2 true e) FUEL τ G)) (leaf k 3 (lpS 141 (b4_3 true e) FUEL τ G))))) (
leaf f 9 (leaf k 0 (lpS 42 (b9_0 true e) FUEL τ G)))) (
fork f 13 (
leaf f 13 (leaf k 0 (lpS 111 (b13_0 true e) FUEL τ G))) (
leaf f 14 (leaf k 0 (lpS 31 (b14_0 true e) FUEL τ G))))) (
fork f 74 (
fork f 44 (
leaf f 44 (leaf k 0 (lpS 31 (b44_0 true e) FUEL τ G))) (
leaf f 74 (leaf k 0 (lpS 18 (b74_0 true e) FUEL τ G)))) (
fork f 98 (
leaf f 98 (leaf k 0 (lpS 31 (b98_0 true e) FUEL τ G))) (
fork f 106 (
leaf f 106 (leaf k 0 (lpS 28 (b106_0 true e) FUEL τ G))) (
leaf f 110 (leaf k 0 (lpS 32 (b110_0 true e) FUEL τ G))))))
theorem lpT_ok {orc : FuncId → Bool} {e : Ex} (h : ExLe Q e (E orc)) (FUEL f k : Nat) (τ : Env) (G : GS) : Ref (lpT FUEL e f k τ G) (mapE ((E orc).lp (codeAt Q f k) (lst (nOf Q f) τ) G)) :=
  Ref.fork (
Ref.fork (
Ref.fork (
Ref.leaf (y := fun f => mapE ((E orc).lp (codeAt Q f k) (lst (nOf Q f) τ) G)) (Ref.fork (Ref.fork (Ref.leaf (y := fun k => mapE ((E orc).lp (codeAt Q 4 k) (lst (nOf Q 4) τ) G)) (lp_leaf (c := (subAt [1, 1, 1, 1, 1, 0, 1, 0, 0] (bodyOf Try.f4))) (l4_0 h) _ _ _)) (Ref.leaf (y := fun k => mapE ((E orc).lp (codeAt Q 4 k) (lst (nOf Q 4) τ) G)) (lp_leaf (c := (subAt [1, 1, 1, 1, 1, 1, 0, 1, 0, 0] (bodyOf Try.f4))) (l4_1 h) _ _ _))) (Ref.fork (Ref.leaf (y := fun k => mapE ((E orc).lp (codeAt Q 4 k) (lst (nOf Q 4) τ) G)) (lp_leaf (c := (subAt [1, 1, 1, 1, 1, 1, 0, 1, 0, 0, 1, 0, 0, 0, 1, 0, 0] (bodyOf Try.f4))) (l4_2 h) _ _ _)) (Ref.leaf (y := fun k => mapE ((E orc).lp (codeAt Q 4 k) (lst (nOf Q 4) τ) G)) (lp_leaf (c := (subAt [1, 1, 1, 1, 1, 1, 1, 0, 1, 0, 0] (bodyOf Try.f4))) (l4_3 h) _ _ _))))) (
Ref.leaf (y := fun f => mapE ((E orc).lp (codeAt Q f k) (lst (nOf Q f) τ) G)) (Ref.leaf (y := fun k => mapE ((E orc).lp (codeAt Q 9 k) (lst (nOf Q 9) τ) G)) (lp_leaf (c := (subAt [1, 1, 1, 0, 1, 0, 0] (bodyOf Try.f9))) (l9_0 h) _ _ _)))) (
Ref.fork (
Ref.leaf (y := fun f => mapE ((E orc).lp (codeAt Q f k) (lst (nOf Q f) τ) G)) (Ref.leaf (y := fun k => mapE ((E orc).lp (codeAt Q 13 k) (lst (nOf Q 13) τ) G)) (lp_leaf (c := (subAt [1, 1, 1, 1, 1, 1, 0, 1, 0, 0] (bodyOf Try.f13))) (l13_0 h) _ _ _))) (
Ref.leaf (y := fun f => mapE ((E orc).lp (codeAt Q f k) (lst (nOf Q f) τ) G)) (Ref.leaf (y := fun k => mapE ((E orc).lp (codeAt Q 14 k) (lst (nOf Q 14) τ) G)) (lp_leaf (c := (subAt [1, 1, 0, 1, 0, 0] (bodyOf Try.f14))) (l14_0 h) _ _ _))))) (
Ref.fork (
Ref.fork (
Ref.leaf (y := fun f => mapE ((E orc).lp (codeAt Q f k) (lst (nOf Q f) τ) G)) (Ref.leaf (y := fun k => mapE ((E orc).lp (codeAt Q 44 k) (lst (nOf Q 44) τ) G)) (lp_leaf (c := (subAt [1, 1, 0, 1, 0, 0] (bodyOf Try.f44))) (l44_0 h) _ _ _))) (
Ref.leaf (y := fun f => mapE ((E orc).lp (codeAt Q f k) (lst (nOf Q f) τ) G)) (Ref.leaf (y := fun k => mapE ((E orc).lp (codeAt Q 74 k) (lst (nOf Q 74) τ) G)) (lp_leaf (c := (subAt [1, 0, 1, 0, 0] (bodyOf Try.f74))) (l74_0 h) _ _ _)))) (
Ref.fork (
Ref.leaf (y := fun f => mapE ((E orc).lp (codeAt Q f k) (lst (nOf Q f) τ) G)) (Ref.leaf (y := fun k => mapE ((E orc).lp (codeAt Q 98 k) (lst (nOf Q 98) τ) G)) (lp_leaf (c := (subAt [1, 0, 0] (bodyOf Try.f98))) (l98_0 h) _ _ _))) (
Ref.fork (
Ref.leaf (y := fun f => mapE ((E orc).lp (codeAt Q f k) (lst (nOf Q f) τ) G)) (Ref.leaf (y := fun k => mapE ((E orc).lp (codeAt Q 106 k) (lst (nOf Q 106) τ) G)) (lp_leaf (c := (subAt [1, 1, 1, 1, 1, 0, 0] (bodyOf Try.f106))) (l106_0 h) _ _ _))) (
Ref.leaf (y := fun f => mapE ((E orc).lp (codeAt Q f k) (lst (nOf Q f) τ) G)) (Ref.leaf (y := fun k => mapE ((E orc).lp (codeAt Q 110 k) (lst (nOf Q 110) τ) G)) (lp_leaf (c := (subAt [1, 1, 0, 0] (bodyOf Try.f110))) (l110_0 h) _ _ _))))))
noncomputable def kE (orc : FuncId → Bool) (n : Nat) : Ex := Nat.rec (motive := fun _ => Ex) ⟨Ev.zero, fun _ _ _ _ => none⟩ (fun _ e => ⟨⟨(evO Q orc 0).ex, clT orc e, (evO Q orc 2000).rd, (evO Q orc 2000).sc, (evO Q orc 0).lp⟩, lpT 6000 e⟩) n
theorem kE_ok (orc : FuncId → Bool) : ∀ n, ExLe Q (kE orc n) (E orc)
  | 0 => ⟨zero_le _, fun _ _ _ _ => .nil _⟩
  | n + 1 => ⟨⟨(le_evL Q orc 0).ex, fun f vs G r hr => clT_ok (kE_ok orc n) f vs G r hr, (le_evL Q orc 2000).rd, (le_evL Q orc 2000).sc, (le_evL Q orc 0).lp⟩, lpT_ok (kE_ok orc n) 6000⟩
/-- what the tables find true is true -/
theorem at_kE {orc : FuncId → Bool} {n f : Nat} {vs : List Value} (h : isTrue ((kE orc n).ev.cl f vs GS.empty) = true) : ∃ G', (E orc).cl f vs GS.empty = some (.bool true, G') := isTrue_of ((kE_ok orc n).ev.cl f vs GS.empty) h
theorem closed_kE {orc : FuncId → Bool} (ho : OrcOk Q orc) (hmix : Q.follows .mixedOrders = true) {n f : Nat} (h : isTrue ((kE orc n).ev.cl f [] GS.empty) = true) (w : World) : Calls Q f #[] w fun e w' => e = .returned (.bool true) ∧ Go.RowKit.Below w.heap.size w w' :=
  let ⟨_, hG⟩ := at_kE h
  law_plain hmix ho hG fun _ => trivial
end Go.Proofs.Ytfmkihikmlcimaa.Lift
