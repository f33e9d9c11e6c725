/- the program's code, spelled out by a program of ours (lift3.lean) -/
import Derived.Test.YtocbppgkgcoehaaProg
import Derived.Test.YtocbppgkgcoehaaGhPJ
import Derived.Test.YtocbppgkgcoehaaGhPG
import Derived.KernelRfl
namespace Go.Proofs.Ytocbppgkgcoehaa.Lift
open Go Go.Proofs.Ytocbppgkgcoehaa.Gh Go.Proofs
set_option linter.unusedVariables false
set_option maxRecDepth 100000
@[reducible] noncomputable def Q : Program := Try.prog
@[reducible] noncomputable def E (orc : FuncId → Bool) : Ev := evL Try.prog orc
instance ilp6_0 : LpIs Q 6 0 (subAt [1, 1, 1, 1, 1, 1, 0, 1, 0, 0] (bodyOf Try.f6)) 141 := ⟨by kernel_rfl, by kernel_rfl⟩
instance ilp8_0 : LpIs Q 8 0 (subAt [1, 0, 1, 0, 0] (bodyOf Try.f8)) 32 := ⟨by kernel_rfl, by kernel_rfl⟩
instance ilp17_0 : LpIs Q 17 0 (subAt [1, 1, 0, 1, 0, 0] (bodyOf Try.f17)) 31 := ⟨by kernel_rfl, by kernel_rfl⟩
instance ilp21_0 : LpIs Q 21 0 (subAt [1, 1, 1, 0, 1, 0, 0] (bodyOf Try.f21)) 70 := ⟨by kernel_rfl, by kernel_rfl⟩
instance ilp29_0 : LpIs Q 29 0 (subAt [1, 1, 1, 1, 1, 0, 0] (bodyOf Try.f29)) 28 := ⟨by kernel_rfl, by kernel_rfl⟩
instance ilp33_0 : LpIs Q 33 0 (subAt [1, 0, 1, 0, 0] (bodyOf Try.f33)) 59 := ⟨by kernel_rfl, by kernel_rfl⟩
instance ilp33_1 : LpIs Q 33 1 (subAt [1, 1, 0, 1, 0, 0] (bodyOf Try.f33)) 59 := ⟨by kernel_rfl, by kernel_rfl⟩
instance ilp33_2 : LpIs Q 33 2 (subAt [1, 1, 0, 1, 0, 0, 1, 0, 0, 0, 1, 0, 0] (bodyOf Try.f33)) 59 := ⟨by kernel_rfl, by kernel_rfl⟩
instance ilp35_0 : LpIs Q 35 0 (subAt [1, 1, 1, 1, 1, 1, 0, 1, 0, 0] (bodyOf Try.f35)) 61 := ⟨by kernel_rfl, by kernel_rfl⟩
instance ilp38_0 : LpIs Q 38 0 (subAt [1, 1, 1, 1, 0, 0, 0] (bodyOf Try.f38)) 44 := ⟨by kernel_rfl, by kernel_rfl⟩
instance ilp39_0 : LpIs Q 39 0 (subAt [1, 1, 0, 1, 0, 0] (bodyOf Try.f39)) 31 := ⟨by kernel_rfl, by kernel_rfl⟩
instance ilp40_0 : LpIs Q 40 0 (subAt [1, 1, 1, 0, 1, 0, 0] (bodyOf Try.f40)) 42 := ⟨by kernel_rfl, by kernel_rfl⟩
instance ilp45_0 : LpIs Q 45 0 (subAt [1, 0, 0] (bodyOf Try.f45)) 12 := ⟨by kernel_rfl, by kernel_rfl⟩
instance ilp67_0 : LpIs Q 67 0 (subAt [1, 1, 1, 1, 1, 0, 0] (bodyOf Try.f67)) 29 := ⟨by kernel_rfl, by kernel_rfl⟩
instance ilp86_0 : LpIs Q 86 0 (subAt [1, 1, 0, 0] (bodyOf Try.f86)) 32 := ⟨by kernel_rfl, by kernel_rfl⟩
instance iep22 : EpOk Q 22 := ⟨fun neg x y => by cases neg <;> kernel_rfl, fun neg x y a => by cases neg <;> kernel_rfl, fun neg x y a => by cases neg <;> kernel_rfl⟩
noncomputable abbrev z3 : List Value := [(.int .i64 0)]
instance ibs38_2_0_1 : BsOk Q 38 2 (rep z3 2) 1 [(0, 0, 1), (1, 1, 1)] := bs_ok Q (z0 := z3) (by kernel_rfl) rfl (by decide) (by kernel_rfl)
noncomputable abbrev z28 : List Value := [(.int .i64 0), (.int .i64 0), (.int .i64 0), (.int .i64 0)]
instance ibd28_1_2 : BdOk Q 28 z28 [(1, 1, 1), (2, 2, 1)] := bd_ok Q (by kernel_rfl) (by kernel_rfl) (by kernel_rfl)
instance ibd28_0_1_2_3 : BdOk Q 28 z28 [(0, 0, 1), (1, 1, 1), (2, 2, 1), (3, 3, 1)] := bd_ok Q (by kernel_rfl) (by kernel_rfl) (by kernel_rfl)
instance iln38 : LnOk Q 38 := ⟨fun a n c => by kernel_rfl⟩
instance iep67 : EpOk Q 67 := ⟨fun neg x y => by cases neg <;> kernel_rfl, fun neg x y a => by cases neg <;> kernel_rfl, fun neg x y a => by cases neg <;> kernel_rfl⟩
instance ifa74_0 : FaOk Q 74 0 0 := ⟨fun b o s => by kernel_rfl⟩
instance ilda28 : LdAOk Q 28 4 := ⟨fun b o s G => by kernel_rfl⟩
instance ifa74_1 : FaOk Q 74 1 4 := ⟨fun b o s => by kernel_rfl⟩
instance ild22 : LdOk Q 22 := ⟨fun b o s G => (show _ = loadOne b o G by kernel_rfl).trans (loadOne_eq b o G)⟩
instance ifa74_7 : FaOk Q 74 7 10 := ⟨fun b o s => by kernel_rfl⟩
instance ild38 : LdOk Q 38 := ⟨fun b o s G => (show _ = loadOne b o G by kernel_rfl).trans (loadOne_eq b o G)⟩
instance ifa28_3 : FaOk Q 28 3 3 := ⟨fun b o s => by kernel_rfl⟩
instance ild3 : LdOk Q 3 := ⟨fun b o s G => (show _ = loadOne b o G by kernel_rfl).trans (loadOne_eq b o G)⟩
instance iln76 : LnOk Q 76 := ⟨fun a n c => by kernel_rfl⟩
instance iln77 : LnOk Q 77 := ⟨fun a n c => by kernel_rfl⟩
noncomputable abbrev z88 : List Value := [(.pointer none), (.pointer none), (.pointer none), (.pointer none), (.pointer none), (.pointer none)]
instance imk81 : MkSlOk Q 81 6 48 z88 := ⟨fun k k' l c G => by kernel_rfl⟩
instance iias77 : IasOk Q 77 4 := ⟨fun b o s n c k j => by kernel_rfl⟩
instance ifa83_0 : FaOk Q 83 0 0 := ⟨fun b o s => by kernel_rfl⟩
instance ifa83_1 : FaOk Q 83 1 1 := ⟨fun b o s => by kernel_rfl⟩
instance ilda83 : LdAOk Q 83 4 := ⟨fun b o s G => by kernel_rfl⟩
instance iias81 : IasOk Q 81 6 := ⟨fun b o s n c k j => by kernel_rfl⟩
instance ist88 : StOk Q 88 6 := ⟨fun b o s v G => by kernel_rfl⟩
instance ilda88 : LdAOk Q 88 6 := ⟨fun b o s G => by kernel_rfl⟩
noncomputable abbrev z31 : List Value := [(.int .u64 0)]
instance ibs76_5_0_1_2_3_4 : BsOk Q 76 5 (rep z31 5) 1 [(0, 0, 1), (1, 1, 1), (2, 2, 1), (3, 3, 1), (4, 4, 1)] := bs_ok Q (z0 := z31) (by kernel_rfl) rfl (by decide) (by kernel_rfl)
instance ibs38_1_0 : BsOk Q 38 1 (rep z3 1) 1 [(0, 0, 1)] := bs_ok Q (z0 := z3) (by kernel_rfl) rfl (by decide) (by kernel_rfl)
noncomputable abbrev z53 : List Value := [(.int .i64 0), (.int .i64 0), (.int .i64 0), (.int .i64 0), .nilFunc, (.bool false), (.int .i64 0), (.int .i64 0), (.int .u64 0), (.int .u64 0)]
instance ibd53_0_1 : BdOk Q 53 z53 [(0, 0, 7), (1, 7, 1)] := bd_ok Q (by kernel_rfl) (by kernel_rfl) (by kernel_rfl)
instance ifa53_0 : FaOk Q 53 0 0 := ⟨fun b o s => by kernel_rfl⟩
instance ifa50_3 : FaOk Q 50 3 6 := ⟨fun b o s => by kernel_rfl⟩
instance ild30 : LdOk Q 30 := ⟨fun b o s G => (show _ = loadOne b o G by kernel_rfl).trans (loadOne_eq b o G)⟩
instance ifa50_1 : FaOk Q 50 1 4 := ⟨fun b o s => by kernel_rfl⟩
instance ist48 : StOk Q 48 1 := ⟨fun b o s v G => by kernel_rfl⟩
instance ial28 : AlOk Q 28 z28 := ⟨fun G => by kernel_rfl⟩
instance ist28 : StOk Q 28 4 := ⟨fun b o s v G => by kernel_rfl⟩
noncomputable abbrev z104 : List Value := [(.pointer none), (.int .u64 0), (.int .u64 0)]
instance ibd104_0 : BdOk Q 104 z104 [(0, 0, 1)] := bd_ok Q (by kernel_rfl) (by kernel_rfl) (by kernel_rfl)
instance ial104 : AlOk Q 104 z104 := ⟨fun G => by kernel_rfl⟩
instance ist104 : StOk Q 104 3 := ⟨fun b o s v G => by kernel_rfl⟩
instance ifa104_0 : FaOk Q 104 0 0 := ⟨fun b o s => by kernel_rfl⟩
instance ild101 : LdOk Q 101 := ⟨fun b o s G => (show _ = loadOne b o G by kernel_rfl).trans (loadOne_eq b o G)⟩
instance ilda104 : LdAOk Q 104 3 := ⟨fun b o s G => by kernel_rfl⟩
instance ifd95_3 : FdOk Q 95 3 3 := ⟨fun l => by kernel_rfl⟩
instance iep25 : EpOk Q 25 := ⟨fun neg x y => by cases neg <;> kernel_rfl, fun neg x y a => by cases neg <;> kernel_rfl, fun neg x y a => by cases neg <;> kernel_rfl⟩
instance iias38 : IasOk Q 38 1 := ⟨fun b o s n c k j => by kernel_rfl⟩
noncomputable abbrev z76 : List Value := [(.slice none 0 0)]
instance ial76 : AlOk Q 76 z76 := ⟨fun G => by kernel_rfl⟩
instance ist76 : StOk Q 76 1 := ⟨fun b o s v G => by kernel_rfl⟩
noncomputable abbrev z32 : List Value := [.nilFunc]
instance ial32 : AlOk Q 32 z32 := ⟨fun G => by kernel_rfl⟩
instance ist32 : StOk Q 32 1 := ⟨fun b o s v G => by kernel_rfl⟩
noncomputable abbrev z38 : List Value := [(.slice none 0 0)]
instance ial38 : AlOk Q 38 z38 := ⟨fun G => by kernel_rfl⟩
instance ild32 : LdOk Q 32 := ⟨fun b o s G => (show _ = loadOne b o G by kernel_rfl).trans (loadOne_eq b o G)⟩
instance iap38_38 : ApOk Q 38 38 1 8 := ⟨fun s x G => by kernel_rfl⟩
instance ist38 : StOk Q 38 1 := ⟨fun b o s v G => by kernel_rfl⟩
noncomputable abbrev z56 : List Value := [(.int .i64 0), (.int .i64 0), (.int .i64 0), (.int .i64 0), .nilFunc, (.bool false), (.int .i64 0), (.int .u64 0), (.int .i64 0)]
instance ibd56_0 : BdOk Q 56 z56 [(0, 0, 7)] := bd_ok Q (by kernel_rfl) (by kernel_rfl) (by kernel_rfl)
instance ifa56_0 : FaOk Q 56 0 0 := ⟨fun b o s => by kernel_rfl⟩
instance iep41 : EpOk Q 41 := ⟨fun neg x y => by cases neg <;> kernel_rfl, fun neg x y a => by cases neg <;> kernel_rfl, fun neg x y a => by cases neg <;> kernel_rfl⟩
instance ifa56_2 : FaOk Q 56 2 8 := ⟨fun b o s => by kernel_rfl⟩
instance ifa28_2 : FaOk Q 28 2 2 := ⟨fun b o s => by kernel_rfl⟩
instance ifa28_0 : FaOk Q 28 0 0 := ⟨fun b o s => by kernel_rfl⟩
instance ifa28_1 : FaOk Q 28 1 1 := ⟨fun b o s => by kernel_rfl⟩
noncomputable abbrev z115 : List Value := (zs 4096 (.int .u64 0))
instance ial115 : AlOk Q 115 z115 := ⟨fun G => by kernel_rfl⟩
noncomputable abbrev z117 : List Value := [(.pointer none), (.int .i64 0), (.int .i64 0), (.int .i64 0), (.int .u64 0), (.int .u64 0), (.bool false), (.int .i64 0)]
instance ibd117_0_1 : BdOk Q 117 z117 [(0, 0, 1), (1, 1, 1)] := bd_ok Q (by kernel_rfl) (by kernel_rfl) (by kernel_rfl)
instance iep58 : EpOk Q 58 := ⟨fun neg x y => by cases neg <;> kernel_rfl, fun neg x y a => by cases neg <;> kernel_rfl, fun neg x y a => by cases neg <;> kernel_rfl⟩
instance ifa60_0 : FaOk Q 60 0 0 := ⟨fun b o s => by kernel_rfl⟩
instance ifa56_1 : FaOk Q 56 1 7 := ⟨fun b o s => by kernel_rfl⟩
instance ild31 : LdOk Q 31 := ⟨fun b o s G => (show _ = loadOne b o G by kernel_rfl).trans (loadOne_eq b o G)⟩
noncomputable abbrev z60 : List Value := [(.int .i64 0), (.int .i64 0), (.int .i64 0), (.int .i64 0), .nilFunc, (.bool false), (.int .i64 0), (.int .u64 0)]
instance ibd60_0_1 : BdOk Q 60 z60 [(0, 0, 7), (1, 7, 1)] := bd_ok Q (by kernel_rfl) (by kernel_rfl) (by kernel_rfl)
instance ifa117_3 : FaOk Q 117 3 7 := ⟨fun b o s => by kernel_rfl⟩
noncomputable abbrev z25 : List Value := [(.pointer none)]
instance imk54 : MkSlOk Q 54 1 8 z25 := ⟨fun k k' l c G => by kernel_rfl⟩
instance imk38 : MkSlOk Q 38 1 8 z3 := ⟨fun k k' l c G => by kernel_rfl⟩
noncomputable abbrev z30 : List Value := [(.int .i64 0)]
instance imk71 : MkSlOk Q 71 1 8 z30 := ⟨fun k k' l c G => by kernel_rfl⟩
instance ibs38_3_0_1_2 : BsOk Q 38 3 (rep z3 3) 1 [(0, 0, 1), (1, 1, 1), (2, 2, 1)] := bs_ok Q (z0 := z3) (by kernel_rfl) rfl (by decide) (by kernel_rfl)
noncomputable abbrev z74 : List Value := [(.int .i64 0), (.int .i64 0), (.int .i64 0), (.int .i64 0), (.pointer none), (.slice none 0 0), (.slice none 0 0), (.pointer none), (.pointer none), (.bool false), (.slice none 0 0), (.slice none 0 0), (.int .i64 0), (.int .i64 0), (.slice none 0 0), (.slice none 0 0), (.int .i64 0), (.int .i64 0)]
instance ibd74_0_1_2_3_8_12 : BdOk Q 74 z74 [(0, 0, 4), (1, 4, 1), (2, 5, 1), (3, 6, 1), (8, 11, 1), (12, 15, 1)] := bd_ok Q (by kernel_rfl) (by kernel_rfl) (by kernel_rfl)
instance iias76 : IasOk Q 76 1 := ⟨fun b o s n c k j => by kernel_rfl⟩
instance ial88 : AlOk Q 88 z88 := ⟨fun G => by kernel_rfl⟩
instance ifa83_2 : FaOk Q 83 2 2 := ⟨fun b o s => by kernel_rfl⟩
instance ibd88_0_1 : BdOk Q 88 z88 [(0, 0, 1), (1, 1, 1)] := bd_ok Q (by kernel_rfl) (by kernel_rfl) (by kernel_rfl)
instance ibd88_2_3 : BdOk Q 88 z88 [(2, 2, 1), (3, 3, 1)] := bd_ok Q (by kernel_rfl) (by kernel_rfl) (by kernel_rfl)
instance ifa83_3 : FaOk Q 83 3 3 := ⟨fun b o s => by kernel_rfl⟩
instance ibd88_4_5 : BdOk Q 88 z88 [(4, 4, 1), (5, 5, 1)] := bd_ok Q (by kernel_rfl) (by kernel_rfl) (by kernel_rfl)
instance ifa88_1 : FaOk Q 88 1 1 := ⟨fun b o s => by kernel_rfl⟩
instance ild84 : LdOk Q 84 := ⟨fun b o s G => (show _ = loadOne b o G by kernel_rfl).trans (loadOne_eq b o G)⟩
instance iep84 : EpOk Q 84 := ⟨fun neg x y => by cases neg <;> kernel_rfl, fun neg x y a => by cases neg <;> kernel_rfl, fun neg x y a => by cases neg <;> kernel_rfl⟩
instance ifa88_0 : FaOk Q 88 0 0 := ⟨fun b o s => by kernel_rfl⟩
instance ild25 : LdOk Q 25 := ⟨fun b o s G => (show _ = loadOne b o G by kernel_rfl).trans (loadOne_eq b o G)⟩
instance ieb4 : EbOk Q 4 := ⟨fun neg x y a b => by cases neg <;> cases a <;> cases b <;> kernel_rfl⟩
instance ifa88_3 : FaOk Q 88 3 3 := ⟨fun b o s => by kernel_rfl⟩
instance ild85 : LdOk Q 85 := ⟨fun b o s G => (show _ = loadOne b o G by kernel_rfl).trans (loadOne_eq b o G)⟩
instance iep85 : EpOk Q 85 := ⟨fun neg x y => by cases neg <;> kernel_rfl, fun neg x y a => by cases neg <;> kernel_rfl, fun neg x y a => by cases neg <;> kernel_rfl⟩
instance ifa88_2 : FaOk Q 88 2 2 := ⟨fun b o s => by kernel_rfl⟩
instance ild41 : LdOk Q 41 := ⟨fun b o s G => (show _ = loadOne b o G by kernel_rfl).trans (loadOne_eq b o G)⟩
instance ifa88_5 : FaOk Q 88 5 5 := ⟨fun b o s => by kernel_rfl⟩
instance ild86 : LdOk Q 86 := ⟨fun b o s G => (show _ = loadOne b o G by kernel_rfl).trans (loadOne_eq b o G)⟩
instance iep86 : EpOk Q 86 := ⟨fun neg x y => by cases neg <;> kernel_rfl, fun neg x y a => by cases neg <;> kernel_rfl, fun neg x y a => by cases neg <;> kernel_rfl⟩
instance ifa88_4 : FaOk Q 88 4 4 := ⟨fun b o s => by kernel_rfl⟩
instance ild58 : LdOk Q 58 := ⟨fun b o s G => (show _ = loadOne b o G by kernel_rfl).trans (loadOne_eq b o G)⟩
instance icv31_3 : CvOk Q 31 3 .u64 .i64 := ⟨fun n => by kernel_rfl⟩
instance ifa117_0 : FaOk Q 117 0 0 := ⟨fun b o s => by kernel_rfl⟩
instance ild112 : LdOk Q 112 := ⟨fun b o s G => (show _ = loadOne b o G by kernel_rfl).trans (loadOne_eq b o G)⟩
instance iep112 : EpOk Q 112 := ⟨fun neg x y => by cases neg <;> kernel_rfl, fun neg x y a => by cases neg <;> kernel_rfl, fun neg x y a => by cases neg <;> kernel_rfl⟩
instance ifa117_1 : FaOk Q 117 1 1 := ⟨fun b o s => by kernel_rfl⟩
instance imk76 : MkSlOk Q 76 1 8 z31 := ⟨fun k k' l c G => by kernel_rfl⟩
instance isla115 : SlAOk Q 115 4096 1 := ⟨fun a lo hi mx G => by kernel_rfl⟩
instance iln130 : LnOk Q 130 := ⟨fun a n c => by kernel_rfl⟩
instance iias130 : IasOk Q 130 1 := ⟨fun b o s n c k j => by kernel_rfl⟩
instance ild113 : LdOk Q 113 := ⟨fun b o s G => (show _ = loadOne b o G by kernel_rfl).trans (loadOne_eq b o G)⟩
instance ist31 : StOk Q 31 1 := ⟨fun b o s v G => by kernel_rfl⟩
instance ifa133_0 : FaOk Q 133 0 0 := ⟨fun b o s => by kernel_rfl⟩
instance ild76 : LdOk Q 76 := ⟨fun b o s G => (show _ = loadOne b o G by kernel_rfl).trans (loadOne_eq b o G)⟩
noncomputable abbrev z95 : List Value := [(.int .i64 0), (.int .i64 0), (.int .u64 0), (.int .u64 0), (.bool false)]
instance ial95 : AlOk Q 95 z95 := ⟨fun G => by kernel_rfl⟩
instance ibd95_ : BdOk Q 95 z95 [] := bd_ok Q (by kernel_rfl) (by kernel_rfl) (by kernel_rfl)
instance ist95 : StOk Q 95 5 := ⟨fun b o s v G => by kernel_rfl⟩
instance ifa117_2 : FaOk Q 117 2 2 := ⟨fun b o s => by kernel_rfl⟩
instance ilda95 : LdAOk Q 95 5 := ⟨fun b o s G => by kernel_rfl⟩
instance ifa133_1 : FaOk Q 133 1 1 := ⟨fun b o s => by kernel_rfl⟩
instance ifa133_2 : FaOk Q 133 2 6 := ⟨fun b o s => by kernel_rfl⟩
instance ist3 : StOk Q 3 1 := ⟨fun b o s v G => by kernel_rfl⟩
noncomputable abbrev z50 : List Value := [(.int .i64 0), (.int .i64 0), (.int .i64 0), (.int .i64 0), .nilFunc, (.bool false), (.int .i64 0)]
instance ial50 : AlOk Q 50 z50 := ⟨fun G => by kernel_rfl⟩
instance ibd50_2_3 : BdOk Q 50 z50 [(2, 5, 1), (3, 6, 1)] := bd_ok Q (by kernel_rfl) (by kernel_rfl) (by kernel_rfl)
instance ist50 : StOk Q 50 7 := ⟨fun b o s v G => by kernel_rfl⟩
instance ibd50_0_2 : BdOk Q 50 z50 [(0, 0, 4), (2, 5, 1)] := bd_ok Q (by kernel_rfl) (by kernel_rfl) (by kernel_rfl)
instance ilda50 : LdAOk Q 50 7 := ⟨fun b o s G => by kernel_rfl⟩
instance ist30 : StOk Q 30 1 := ⟨fun b o s v G => by kernel_rfl⟩
instance ifa50_0 : FaOk Q 50 0 0 := ⟨fun b o s => by kernel_rfl⟩
instance ifa53_2 : FaOk Q 53 2 8 := ⟨fun b o s => by kernel_rfl⟩
instance iiaa115 : IaaOk Q 115 4096 1 := ⟨fun b o s k j => by kernel_rfl⟩
instance ibd95_0_1 : BdOk Q 95 z95 [(0, 0, 1), (1, 1, 1)] := bd_ok Q (by kernel_rfl) (by kernel_rfl) (by kernel_rfl)
instance ifa95_2 : FaOk Q 95 2 2 := ⟨fun b o s => by kernel_rfl⟩
instance ifa95_3 : FaOk Q 95 3 3 := ⟨fun b o s => by kernel_rfl⟩
instance ifa95_4 : FaOk Q 95 4 4 := ⟨fun b o s => by kernel_rfl⟩
instance ist4 : StOk Q 4 1 := ⟨fun b o s v G => by kernel_rfl⟩
instance ist113 : StOk Q 113 1 := ⟨fun b o s v G => by kernel_rfl⟩
instance ild48 : LdOk Q 48 := ⟨fun b o s G => (show _ = loadOne b o G by kernel_rfl).trans (loadOne_eq b o G)⟩
instance ief48 : EfOk Q 48 := ⟨fun neg x y => by cases neg <;> kernel_rfl, fun neg x y f a b => by cases neg <;> kernel_rfl⟩
instance ifa50_2 : FaOk Q 50 2 5 := ⟨fun b o s => by kernel_rfl⟩
instance ild4 : LdOk Q 4 := ⟨fun b o s G => (show _ = loadOne b o G by kernel_rfl).trans (loadOne_eq b o G)⟩
instance icv3_31 : CvOk Q 3 31 .i64 .u64 := ⟨fun n => by kernel_rfl⟩
instance icv51_3 : CvOk Q 51 3 .u64 .i64 := ⟨fun n => by kernel_rfl⟩
instance ifa60_1 : FaOk Q 60 1 7 := ⟨fun b o s => by kernel_rfl⟩
instance ibd104_0_1 : BdOk Q 104 z104 [(0, 0, 1), (1, 1, 1)] := bd_ok Q (by kernel_rfl) (by kernel_rfl) (by kernel_rfl)
instance ifa74_12 : FaOk Q 74 12 15 := ⟨fun b o s => by kernel_rfl⟩
instance ifa74_13 : FaOk Q 74 13 16 := ⟨fun b o s => by kernel_rfl⟩
instance ifa74_11 : FaOk Q 74 11 14 := ⟨fun b o s => by kernel_rfl⟩
instance ild72 : LdOk Q 72 := ⟨fun b o s G => (show _ = loadOne b o G by kernel_rfl).trans (loadOne_eq b o G)⟩
instance iln72 : LnOk Q 72 := ⟨fun a n c => by kernel_rfl⟩
noncomputable abbrev z146 : List Value := [(.int .i64 0), (.int .i64 0), (.int .i64 0), (.int .i64 0), (.int .i64 0), (.int .i64 0), (.int .u64 0), (.int .i64 0), (.int .i64 0), (.int .u64 0)]
instance ibd146_0_1_2 : BdOk Q 146 z146 [(0, 0, 1), (1, 1, 1), (2, 2, 1)] := bd_ok Q (by kernel_rfl) (by kernel_rfl) (by kernel_rfl)
instance ial146 : AlOk Q 146 z146 := ⟨fun G => by kernel_rfl⟩
instance ist146 : StOk Q 146 10 := ⟨fun b o s v G => by kernel_rfl⟩
instance ifa74_14 : FaOk Q 74 14 17 := ⟨fun b o s => by kernel_rfl⟩
instance ifa74_3 : FaOk Q 74 3 6 := ⟨fun b o s => by kernel_rfl⟩
instance ifa74_2 : FaOk Q 74 2 5 := ⟨fun b o s => by kernel_rfl⟩
instance ild54 : LdOk Q 54 := ⟨fun b o s G => (show _ = loadOne b o G by kernel_rfl).trans (loadOne_eq b o G)⟩
instance iias54 : IasOk Q 54 1 := ⟨fun b o s n c k j => by kernel_rfl⟩
instance ist25 : StOk Q 25 1 := ⟨fun b o s v G => by kernel_rfl⟩
instance ifa74_8 : FaOk Q 74 8 11 := ⟨fun b o s => by kernel_rfl⟩
instance ild71 : LdOk Q 71 := ⟨fun b o s G => (show _ = loadOne b o G by kernel_rfl).trans (loadOne_eq b o G)⟩
instance iias71 : IasOk Q 71 1 := ⟨fun b o s n c k j => by kernel_rfl⟩
noncomputable abbrev z142 : List Value := [(.int .i64 0), (.int .i64 0), (.int .i64 0), (.int .u64 0)]
instance ibd142_0_3 : BdOk Q 142 z142 [(0, 0, 1), (3, 3, 1)] := bd_ok Q (by kernel_rfl) (by kernel_rfl) (by kernel_rfl)
instance ifa146_3 : FaOk Q 146 3 3 := ⟨fun b o s => by kernel_rfl⟩
instance ist142 : StOk Q 142 4 := ⟨fun b o s v G => by kernel_rfl⟩
instance ifa74_6 : FaOk Q 74 6 9 := ⟨fun b o s => by kernel_rfl⟩
instance ifa74_4 : FaOk Q 74 4 7 := ⟨fun b o s => by kernel_rfl⟩
instance ifa74_5 : FaOk Q 74 5 8 := ⟨fun b o s => by kernel_rfl⟩
instance ist58 : StOk Q 58 1 := ⟨fun b o s v G => by kernel_rfl⟩
instance ibd142_0 : BdOk Q 142 z142 [(0, 0, 1)] := bd_ok Q (by kernel_rfl) (by kernel_rfl) (by kernel_rfl)
instance ist41 : StOk Q 41 1 := ⟨fun b o s v G => by kernel_rfl⟩
instance ilda146 : LdAOk Q 146 10 := ⟨fun b o s G => by kernel_rfl⟩
instance ibs72_1_0 : BsOk Q 72 1 (rep z146 1) 10 [(0, 0, 10)] := bs_ok Q (z0 := z146) (by kernel_rfl) rfl (by decide) (by kernel_rfl)
instance iap72_72 : ApOk Q 72 72 10 80 := ⟨fun s x G => by kernel_rfl⟩
instance ist72 : StOk Q 72 1 := ⟨fun b o s v G => by kernel_rfl⟩
noncomputable abbrev z133 : List Value := [(.slice none 0 0), (.int .i64 0), (.int .i64 0), (.int .u64 0), (.int .u64 0), (.bool false), (.int .i64 0)]
instance ibd133_0 : BdOk Q 133 z133 [(0, 0, 1)] := bd_ok Q (by kernel_rfl) (by kernel_rfl) (by kernel_rfl)
noncomputable abbrev z149 : List Value := [(.int .i64 0), (.int .i64 0), (.int .i64 0), (.int .i64 0), (.int .i64 0), (.int .i64 0), (.int .u64 0), (.int .u64 0), (.int .i64 0)]
instance ibd149_2_5 : BdOk Q 149 z149 [(2, 5, 1), (5, 8, 1)] := bd_ok Q (by kernel_rfl) (by kernel_rfl) (by kernel_rfl)
instance ibd149_0_1_2 : BdOk Q 149 z149 [(0, 0, 4), (1, 4, 1), (2, 5, 1)] := bd_ok Q (by kernel_rfl) (by kernel_rfl) (by kernel_rfl)
noncomputable abbrev z151 : List Value := [(.int .i64 0), (.int .i64 0), (.int .i64 0), (.int .i64 0), (.int .i64 0), (.int .u64 0), (.int .i64 0), (.int .i64 0)]
instance ibd151_1_4 : BdOk Q 151 z151 [(1, 4, 1), (4, 7, 1)] := bd_ok Q (by kernel_rfl) (by kernel_rfl) (by kernel_rfl)
instance ibd151_0_1 : BdOk Q 151 z151 [(0, 0, 4), (1, 4, 1)] := bd_ok Q (by kernel_rfl) (by kernel_rfl) (by kernel_rfl)
noncomputable abbrev z153 : List Value := [(.int .i64 0), (.int .i64 0), (.int .i64 0), (.int .i64 0), (.int .i64 0), (.int .u64 0), (.int .i64 0)]
instance ibd153_1_3 : BdOk Q 153 z153 [(1, 4, 1), (3, 6, 1)] := bd_ok Q (by kernel_rfl) (by kernel_rfl) (by kernel_rfl)
instance ibd153_0_1_2 : BdOk Q 153 z153 [(0, 0, 4), (1, 4, 1), (2, 5, 1)] := bd_ok Q (by kernel_rfl) (by kernel_rfl) (by kernel_rfl)
instance ifa149_2 : FaOk Q 149 2 5 := ⟨fun b o s => by kernel_rfl⟩
instance ifa149_0 : FaOk Q 149 0 0 := ⟨fun b o s => by kernel_rfl⟩
instance ifa149_3 : FaOk Q 149 3 6 := ⟨fun b o s => by kernel_rfl⟩
instance ifa149_4 : FaOk Q 149 4 7 := ⟨fun b o s => by kernel_rfl⟩
instance ifa149_1 : FaOk Q 149 1 4 := ⟨fun b o s => by kernel_rfl⟩
instance ifa149_5 : FaOk Q 149 5 8 := ⟨fun b o s => by kernel_rfl⟩
instance ifa151_1 : FaOk Q 151 1 4 := ⟨fun b o s => by kernel_rfl⟩
instance ifa151_0 : FaOk Q 151 0 0 := ⟨fun b o s => by kernel_rfl⟩
instance ifa151_2 : FaOk Q 151 2 5 := ⟨fun b o s => by kernel_rfl⟩
instance ifa151_4 : FaOk Q 151 4 7 := ⟨fun b o s => by kernel_rfl⟩
instance ifa151_3 : FaOk Q 151 3 6 := ⟨fun b o s => by kernel_rfl⟩
instance ifa153_1 : FaOk Q 153 1 4 := ⟨fun b o s => by kernel_rfl⟩
instance ifa153_0 : FaOk Q 153 0 0 := ⟨fun b o s => by kernel_rfl⟩
instance ifa153_2 : FaOk Q 153 2 5 := ⟨fun b o s => by kernel_rfl⟩
instance ifa153_3 : FaOk Q 153 3 6 := ⟨fun b o s => by kernel_rfl⟩
instance ibs76_0_ : BsOk Q 76 0 (rep z31 0) 1 [] := bs_ok Q (z0 := z31) (by kernel_rfl) rfl (by decide) (by kernel_rfl)
instance iap76_76 : ApOk Q 76 76 1 8 := ⟨fun s x G => by kernel_rfl⟩
instance ifa53_3 : FaOk Q 53 3 9 := ⟨fun b o s => by kernel_rfl⟩
instance ist51 : StOk Q 51 1 := ⟨fun b o s v G => by kernel_rfl⟩
instance ild51 : LdOk Q 51 := ⟨fun b o s G => (show _ = loadOne b o G by kernel_rfl).trans (loadOne_eq b o G)⟩
instance iep101 : EpOk Q 101 := ⟨fun neg x y => by cases neg <;> kernel_rfl, fun neg x y a => by cases neg <;> kernel_rfl, fun neg x y a => by cases neg <;> kernel_rfl⟩
instance icv51_138 : CvOk Q 51 138 .u64 .u32 := ⟨fun n => by kernel_rfl⟩
instance icv31_138 : CvOk Q 31 138 .u64 .u32 := ⟨fun n => by kernel_rfl⟩
instance icv138_51 : CvOk Q 138 51 .u32 .u64 := ⟨fun n => by kernel_rfl⟩
instance ifa104_1 : FaOk Q 104 1 1 := ⟨fun b o s => by kernel_rfl⟩
instance ifa95_0 : FaOk Q 95 0 0 := ⟨fun b o s => by kernel_rfl⟩
noncomputable abbrev z144 : List Value := [(.int .i64 0), (.int .i64 0), (.int .u64 0)]
instance ibd144_0 : BdOk Q 144 z144 [(0, 0, 1)] := bd_ok Q (by kernel_rfl) (by kernel_rfl) (by kernel_rfl)
instance isl38 : SlOk Q 38 1 := ⟨fun a n c lo hi mx G => sl_eq Q (e := 3) (by kernel_rfl) (by kernel_rfl) a n c lo hi mx G⟩
instance ibd144_ : BdOk Q 144 z144 [] := bd_ok Q (by kernel_rfl) (by kernel_rfl) (by kernel_rfl)
instance ibd144_0_2 : BdOk Q 144 z144 [(0, 0, 1), (2, 2, 1)] := bd_ok Q (by kernel_rfl) (by kernel_rfl) (by kernel_rfl)
instance ifa53_1 : FaOk Q 53 1 7 := ⟨fun b o s => by kernel_rfl⟩
instance ifd95_1 : FdOk Q 95 1 1 := ⟨fun l => by kernel_rfl⟩
instance ibs38_0_ : BsOk Q 38 0 (rep z3 0) 1 [] := bs_ok Q (z0 := z3) (by kernel_rfl) rfl (by decide) (by kernel_rfl)
instance iias72 : IasOk Q 72 10 := ⟨fun b o s n c k j => by kernel_rfl⟩
instance ifa146_2 : FaOk Q 146 2 2 := ⟨fun b o s => by kernel_rfl⟩
instance ilda144 : LdAOk Q 144 3 := ⟨fun b o s G => by kernel_rfl⟩
instance ifa146_4 : FaOk Q 146 4 7 := ⟨fun b o s => by kernel_rfl⟩
instance ist144 : StOk Q 144 3 := ⟨fun b o s v G => by kernel_rfl⟩
instance ibd104_0_1_2 : BdOk Q 104 z104 [(0, 0, 1), (1, 1, 1), (2, 2, 1)] := bd_ok Q (by kernel_rfl) (by kernel_rfl) (by kernel_rfl)
instance ifd95_4 : FdOk Q 95 4 4 := ⟨fun l => by kernel_rfl⟩
instance icv3_51 : CvOk Q 3 51 .i64 .u64 := ⟨fun n => by kernel_rfl⟩
instance ifa104_2 : FaOk Q 104 2 2 := ⟨fun b o s => by kernel_rfl⟩
/-- coxswain/coxswainlaw14.RingKnown -/
noncomputable def s3 (q : Bool) (e : Ex) (G : GS) : Option (Value × GS) :=
  bS (e.ev.cl 7 [] G) fun x0 G1 =>
  bP (ep Q q false 22 (.tmp 11) (.const (.pointer none)) x0 (.pointer none)) fun x2 =>
  ifV x2 (
  some ((.bool false), G1)) (
  bS (e.ev.cl 10 [] G1) fun x3 G4 =>
  bS (e.ev.cl 9 [x3, (.int .i64 9)] G4) fun x5 G6 =>
  bS (e.ev.cl 8 [x0, x5, (.int .i64 4), (.int .i64 0)] G6) fun x7 G8 =>
  bS (gd x7 true (some (x0, G8)) G8) fun x9 G10 =>
  bS (gd x7 true (bS (e.ev.cl 11 [x9, (.int .i64 1)] G10) fun y G => some (y, G)) G10) fun x11 G12 =>
  bS (gd x7 true (bP (bn Q q .eql 31 (.tmp 19) (.const (.int .u64 3)) x11 (.int .u64 3)) fun y => some (y, G12)) G12) fun x13 G14 =>
  bP (pickV x7 x13 (.bool false)) fun x15 =>
  bS (gd x15 true (some (x0, G14)) G14) fun x16 G17 =>
  bS (gd x15 true (bS (e.ev.cl 11 [x16, (.int .i64 2)] G17) fun y G => some (y, G)) G17) fun x18 G19 =>
  bS (gd x15 true (bP (bn Q q .eql 31 (.tmp 24) (.const (.int .u64 4295032841)) x18 (.int .u64 4295032841)) fun y => some (y, G19)) G19) fun x20 G21 =>
  bP (pickV x15 x20 (.bool false)) fun x22 =>
  bS (gd x22 true (some (x0, G21)) G21) fun x23 G24 =>
  bS (gd x22 true (bS (e.ev.cl 12 [x23, (.int .i64 7), (.int .u64 1)] G24) fun y G => some (y, G)) G24) fun x25 G26 =>
  bP (pickV x22 x25 (.bool false)) fun x27 =>
  bS (gd x27 true (some (x0, G26)) G26) fun x28 G29 =>
  bS (gd x27 true (bS (e.ev.cl 13 [x28, (.int .u64 1)] G29) fun y G => some (y, G)) G29) fun x30 G31 =>
  bP (pickV x27 x30 (.bool false)) fun x32 =>
  bS (gd x32 true (some (x0, G31)) G31) fun x33 G34 =>
  bS (gd x32 true (bS (e.ev.cl 12 [x33, (.int .i64 9), (.int .u64 2)] G34) fun y G => some (y, G)) G34) fun x35 G36 =>
  bP (pickV x32 x35 (.bool false)) fun x37 =>
  bS (e.ev.cl 14 [] G36) fun x38 G39 =>
  bS (e.ev.cl 10 [] G39) fun x40 G41 =>
  bS (e.ev.cl 9 [x40, (.int .i64 5)] G41) fun x42 G43 =>
  bP (ep Q q true 22 (.tmp 42) (.const (.pointer none)) x38 (.pointer none)) fun x44 =>
  bS (gd x44 true (some (x42, G43)) G43) fun x45 G46 =>
  bS (gd x44 true (some (x38, G46)) G46) fun x47 G48 =>
  bS (gd x44 true (bS (e.ev.cl 15 [x45, x47] G48) fun y G => some (y, G)) G48) fun x49 G50 =>
  bS (gd x44 true (bP (un Q q .not x49) fun y => some (y, G50)) G50) fun x51 G52 =>
  bP (pickV x44 x51 (.bool false)) fun x53 =>
  bS (gd x53 true (some (x42, G52)) G52) fun x54 G55 =>
  bS (gd x53 true (some (x38, G55)) G55) fun x56 G57 =>
  bS (gd x53 true (bS (e.ev.cl 15 [x54, x56] G57) fun y G => some (y, G)) G57) fun x58 G59 =>
  bS (gd x53 true (bP (un Q q .not x58) fun y => some (y, G59)) G59) fun x60 G61 =>
  bP (pickV x53 x60 (.bool false)) fun x62 =>
  bS (gd x62 true (some (x42, G61)) G61) fun x63 G64 =>
  bS (gd x62 true (some (x38, G64)) G64) fun x65 G66 =>
  bS (gd x62 true (bS (e.ev.cl 15 [x63, x65] G66) fun y G => some (y, G)) G66) fun x67 G68 =>
  bS (gd x62 true (bP (un Q q .not x67) fun y => some (y, G68)) G68) fun x69 G70 =>
  bP (pickV x62 x69 (.bool false)) fun x71 =>
  bS (gd x71 true (some (x38, G70)) G70) fun x72 G73 =>
  bS (gd x71 true (bS (e.ev.cl 10 [] G73) fun y G => some (y, G)) G73) fun x74 G75 =>
  bS (gd x71 true (bS (e.ev.cl 9 [x74, (.int .i64 7)] G75) fun y G => some (y, G)) G75) fun x76 G77 =>
  bS (gd x71 true (bS (e.ev.cl 8 [x72, x76, (.int .i64 7), (.int .i64 0)] G77) fun y G => some (y, G)) G77) fun x78 G79 =>
  bP (pickV x71 x78 (.bool false)) fun x80 =>
  bS (gd x80 true (some (x42, G79)) G79) fun x81 G82 =>
  bS (gd x80 true (some (x38, G82)) G82) fun x83 G84 =>
  bS (gd x80 true (bS (e.ev.cl 15 [x81, x83] G84) fun y G => some (y, G)) G84) fun x85 G86 =>
  bP (pickV x80 x85 (.bool false)) fun x87 =>
  bS (gd x87 true (some (x42, G86)) G86) fun x88 G89 =>
  bS (gd x87 true (bS (e.ev.cl 16 [x88] G89) fun y G => some (y, G)) G89) fun x90 G91 =>
  bS (gd x87 true (bP (bn Q q .eql 30 (.tmp 76) (.const (.int .i64 0)) x90 (.int .i64 0)) fun y => some (y, G91)) G91) fun x92 G93 =>
  bP (pickV x87 x92 (.bool false)) fun x94 =>
  bS (gd x94 true (bS (e.ev.cl 10 [] G93) fun y G => some (y, G)) G93) fun x95 G96 =>
  bS (gd x94 true (some (x38, G96)) G96) fun x97 G98 =>
  bS (gd x94 true (bS (e.ev.cl 18 [x95, x97] G98) fun y G => some (y, G)) G98) fun x99 G100 =>
  bS (gd x94 true (bS (bs Q q 38 2 (rep z3 2) 1 [(0, 0, 1), (1, 1, 1)] [(.int .i64 5), (.int .i64 7)] G100) fun y G => some (y, G)) G100) fun x101 G102 =>
  bS (gd x94 true (bS (e.ev.cl 17 [x99, x101] G102) fun y G => some (y, G)) G102) fun x103 G104 =>
  bP (pickV x94 x103 (.bool false)) fun x105 =>
  bP (bd Q q 28 z28 [(1, 1, 1), (2, 2, 1)] [(.int .i64 1), (.int .i64 2)]) fun x106 =>
  bS (e.ev.cl 19 [x106] G104) fun x107 G108 =>
  bS (e.ev.cl 20 [x107] G108) fun x109 G110 =>
  bP (pExtract x109 0) fun x111 =>
  bP (pExtract x109 1) fun x112 =>
  bS (e.ev.cl 10 [] G110) fun x113 G114 =>
  bS (e.ev.cl 9 [x113, (.int .i64 65536)] G114) fun x115 G116 =>
  bS (e.ev.cl 16 [x115] G116) fun x117 G118 =>
  bP (bn Q q .eql 30 (.tmp 94) (.const (.int .i64 3)) x117 (.int .i64 3)) fun x119 =>
  bS (gd x119 true (some (x112, G118)) G118) fun x120 G121 =>
  bS (gd x119 true (bP (bn Q q .eql 30 (.tmp 97) (.const (.int .i64 2)) x120 (.int .i64 2)) fun y => some (y, G121)) G121) fun x122 G123 =>
  bP (pickV x119 x122 (.bool false)) fun x124 =>
  bS (gd x124 true (bP (bd Q q 28 z28 [(1, 1, 1), (2, 2, 1)] [(.int .i64 1), (.int .i64 2)]) fun y => some (y, G123)) G123) fun x125 G126 =>
  bS (gd x124 true (bS (e.ev.cl 21 [x125, (.int .i64 9)] G126) fun y G => some (y, G)) G126) fun x127 G128 =>
  bS (gd x124 true (bP (bn Q q .eql 30 (.tmp 102) (.const (.int .i64 2)) x127 (.int .i64 2)) fun y => some (y, G128)) G128) fun x129 G130 =>
  bP (pickV x124 x129 (.bool false)) fun x131 =>
  bS (gd x131 true (bP (bd Q q 28 z28 [(0, 0, 1), (1, 1, 1), (2, 2, 1), (3, 3, 1)] [(.int .i64 3), (.int .i64 1), (.int .i64 2), (.int .i64 2)]) fun y => some (y, G130)) G130) fun x132 G133 =>
  bS (gd x131 true (bS (e.ev.cl 21 [x132, (.int .i64 9)] G133) fun y G => some (y, G)) G133) fun x134 G135 =>
  bS (gd x131 true (bP (bn Q q .eql 30 (.tmp 107) (.const (.int .i64 2)) x134 (.int .i64 2)) fun y => some (y, G135)) G135) fun x136 G137 =>
  bP (pickV x131 x136 (.bool false)) fun x138 =>
  bS (gd x138 true (bS (e.ev.cl 10 [] G137) fun y G => some (y, G)) G137) fun x139 G140 =>
  bS (gd x138 true (bS (e.ev.cl 21 [x139, (.int .i64 0)] G140) fun y G => some (y, G)) G140) fun x141 G142 =>
  bS (gd x138 true (bP (bn Q q .eql 30 (.tmp 112) (.const (.int .i64 3)) x141 (.int .i64 3)) fun y => some (y, G142)) G142) fun x143 G144 =>
  bP (pickV x138 x143 (.bool false)) fun x145 =>
  bS (e.ev.cl 22 [] G144) fun x146 G147 =>
  bS (gd x146 true (some (x37, G147)) G147) fun x148 G149 =>
  bP (pickV x146 x148 (.bool false)) fun x150 =>
  bS (gd x150 true (some (x105, G149)) G149) fun x151 G152 =>
  bP (pickV x150 x151 (.bool false)) fun x153 =>
  bS (gd x153 true (some (x145, G152)) G152) fun x154 G155 =>
  bP (pickV x153 x154 (.bool false)) fun x156 =>
  some (x156, G155))
theorem m3 {e : Ex} {E : Ev} (h : ExLe Q e E) (G : GS) : Ref (s3 true e  G) (s3 false (Ex.of E)  G) := by
  unfold s3
  exact Ref.gq
set_option maxHeartbeats 8000000 in
theorem f3 {orc : FuncId → Bool} {e : Ex} (h : ExLe Q e (E orc)) (ho : orc 3 = false) (G : GS) : Ref (s3 true e  G) ((E orc).cl 3 [] G) :=
  fun r hr => cl_sxE_some Q orc (vs := []) G Try.func3 (by kernel_rfl) (by kernel_rfl) ho (by kernel_rfl) (by kernel_rfl) (by kernel_rfl) (m3 h  G r hr)
/-- coxswain/coxswainlaw14.RingKeeps -/
noncomputable def s5 (q : Bool) (e : Ex) (v0 v1 : Value) (G : GS) : Option (Value × GS) :=
  bS (e.ev.cl 3 [] G) fun x0 G1 =>
  bP (ln Q q 38 v1) fun x2 =>
  bP (bn Q q .gtr 3 (.tmp 9) (.const (.int .i64 300)) x2 (.int .i64 300)) fun x3 =>
  ifV x3 (
  some (x0, G1)) (
  bS (e.ev.cl 32 [v0, (.int .i64 6)] G1) fun x4 G5 =>
  bP (bn Q q .add 3 (.const (.int .i64 1)) (.tmp 13) (.int .i64 1) x4) fun x6 =>
  bS (e.ev.cl 31 [x6] G5) fun x7 G8 =>
  bS (gd x0 true (some (x7, (G8.room 27))) (G8.room 27)) fun x9 _ =>
  bS (gd x0 true (bP (ep Q q true 67 (.tmp 18) (.const (.pointer none)) x9 (.pointer none)) fun y => some (y, (G8.room 27))) (G8.room 27)) fun x10 _ =>
  bP (pickV x0 x10 (.bool false)) fun x11 =>
  bS (gd x11 true (some (x7, (G8.room 27))) (G8.room 27)) fun x12 _ =>
  bS (gd x11 true (some (v1, (G8.room 27))) (G8.room 27)) fun x13 _ =>
  bS (gd x11 true (bS (e.ev.cl 33 [x12, x13] (G8.room 27)) fun y G => some (y, G)) (G8.room 27)) fun x15 G14 =>
  bP (pickV x11 x15 (.bool false)) fun x16 =>
  bS (gd x16 true (some (x7, G14)) G14) fun x17 _ =>
  bS (gd x16 true (bP (pNil x17) fun y => some (y, G14)) G14) fun x18 _ =>
  bS (gd x16 true (bP (fa Q q 74 0 0 x18) fun y => some (y, G14)) G14) fun x19 _ =>
  bS (gd x16 true (bP (lda Q q 28 4 x19 G14) fun y => some (y, G14)) G14) fun x20 _ =>
  bS (gd x16 true (some (x7, G14)) G14) fun x21 _ =>
  bS (gd x16 true (bP (pNil x21) fun y => some (y, G14)) G14) fun x22 _ =>
  bS (gd x16 true (bP (fa Q q 74 1 4 x22) fun y => some (y, G14)) G14) fun x23 _ =>
  bS (gd x16 true (bP (ld Q q 22 x23 G14) fun y => some (y, G14)) G14) fun x24 _ =>
  bS (gd x16 true (bS (e.ev.cl 18 [x20, x24] G14) fun y G => some (y, G)) G14) fun x26 G25 =>
  bS (gd x16 true (some (x7, G25)) G25) fun x27 _ =>
  bS (gd x16 true (bP (pNil x27) fun y => some (y, G25)) G25) fun x28 _ =>
  bS (gd x16 true (bP (fa Q q 74 7 10 x28) fun y => some (y, G25)) G25) fun x29 _ =>
  bS (gd x16 true (bP (ld Q q 38 x29 G25) fun y => some (y, G25)) G25) fun x30 _ =>
  chk (((!(gB x16 true) || (!(gB x16 true) || sameO (ld Q q 38 x29 G14) x30)) && true)) <|
  bS (gd x16 true (bS (e.ev.cl 17 [x26, x30] G25) fun y G => some (y, G)) G25) fun x32 G31 =>
  bP (pickV x16 x32 (.bool false)) fun x33 =>
  some (x33, G31))
theorem m5 {e : Ex} {E : Ev} (h : ExLe Q e E) (v0 v1 : Value) (G : GS) : Ref (s5 true e v0 v1 G) (s5 false (Ex.of E) v0 v1 G) := by
  unfold s5
  exact Ref.gq
theorem f5 {orc : FuncId → Bool} {e : Ex} (h : ExLe Q e (E orc)) (v0 v1 : Value) (G : GS) : Ref (s5 true e v0 v1 G) ((E orc).cl 5 [v0, v1] G) :=
  fun r hr => cl_sxE_some Q orc (vs := [v0, v1]) G Try.func5 (by kernel_rfl) (by kernel_rfl) (by kernel_rfl) (by kernel_rfl) (by kernel_rfl) (by kernel_rfl) (m5 h v0 v1 G r hr)
noncomputable def jbl6_0_0 (q : Bool) (e : Ex) (lp : Env → GS → Option (Exit × Env × GS)) (τ : Env) (G : GS) : Option (Exit × Env × GS) :=
  bV q (τ 3) fun a3_ =>
  bV q (τ 4) fun a4_ =>
  bV q (τ 9) fun a9_ =>
  bV q (τ 10) fun a10_ =>
  bV q (τ 11) fun a11_ =>
  bV q (τ 12) fun a12_ =>
  bV q (τ 13) fun a13_ =>
  bV q (τ 14) fun a14_ =>
  bP (ias Q q 81 6 a11_ a13_) fun x11 =>
  bP (lda Q q 88 6 x11 G) fun x12 =>
  bS (e.ev.cl 37 [x12, a9_, a10_, a14_] G) fun x13 G14 =>
  bP (un Q q .not x13) fun x15 =>
  ifV x15 (
  some (.ret, xq q 141 τ [(8, (.bool false)), (106, x15), (105, x13), (104, a14_), (103, a10_), (102, a9_), (101, x12), (100, x11), (99, a13_), (98, a11_)] [(3, a3_), (4, a4_), (9, a9_), (10, a10_), (11, a11_), (12, a12_), (13, a13_), (14, a14_)], G14)) (
  bP (lda Q q 28 4 a4_ G14) fun x16 =>
  bS (e.ev.cl 18 [x16, a9_] G14) fun x17 G18 =>
  bP (lda Q q 28 4 a4_ G18) fun x19 =>
  bS (e.ev.cl 38 [x19, a10_] G18) fun x20 G21 =>
  bS (e.ev.cl 17 [x17, x20] G21) fun x22 G23 =>
  bP (un Q q .not x22) fun x24 =>
  bS (gd x24 false (some (a9_, G23)) G23) fun x25 G26 =>
  bS (gd x24 false (bS (e.ev.cl 40 [x25] G26) fun y G => some (y, G)) G26) fun x27 G28 =>
  bS (gd x24 false (some (a10_, G28)) G28) fun x29 G30 =>
  bS (gd x24 false (bS (e.ev.cl 41 [x29] G30) fun y G => some (y, G)) G30) fun x31 G32 =>
  bS (gd x24 false (bS (e.ev.cl 39 [x27, x31] G32) fun y G => some (y, G)) G32) fun x33 G34 =>
  bS (gd x24 false (bP (un Q q .not x33) fun y => some (y, G34)) G34) fun x35 G36 =>
  bP (pickV x24 (.bool true) x35) fun x37 =>
  bS (gd x37 false (some (a9_, G36)) G36) fun x38 G39 =>
  bS (gd x37 false (bS (e.ev.cl 42 [x38] G39) fun y G => some (y, G)) G39) fun x40 G41 =>
  bS (gd x37 false (some (a10_, G41)) G41) fun x42 G43 =>
  bS (gd x37 false (bS (e.ev.cl 43 [x42] G43) fun y G => some (y, G)) G43) fun x44 G45 =>
  bS (gd x37 false (bP (bn Q q .neq 95 (.tmp 126) (.tmp 128) x40 x44) fun y => some (y, G45)) G45) fun x46 G47 =>
  bP (pickV x37 (.bool true) x46) fun x48 =>
  bS (gd x48 false (some (a9_, G47)) G47) fun x49 G50 =>
  bS (gd x48 false (bS (e.ev.cl 30 [x49] G50) fun y G => some (y, G)) G50) fun x51 G52 =>
  bS (gd x48 false (some (a10_, G52)) G52) fun x53 G54 =>
  bS (gd x48 false (bS (e.ev.cl 44 [x53] G54) fun y G => some (y, G)) G54) fun x55 G56 =>
  bS (gd x48 false (bP (bn Q q .neq 3 (.tmp 133) (.tmp 135) x51 x55) fun y => some (y, G56)) G56) fun x57 G58 =>
  bP (pickV x48 (.bool true) x57) fun x59 =>
  ifV x59 (
  some (.ret, xq q 141 τ [(8, (.bool false)), (137, x59), (136, x57), (135, x55), (134, x53), (133, x51), (132, x49), (131, x48), (130, x48), (129, x46), (128, x44), (127, x42), (126, x40), (125, x38), (124, x37), (123, x37), (122, x35), (121, x33), (120, x31), (119, x29), (118, x27), (117, x25), (116, x24), (115, x24), (114, x22), (113, x20), (112, a10_), (111, x19), (110, x17), (15, x17), (109, x17), (108, a9_), (107, x16), (106, x15), (105, x13), (104, a14_), (103, a10_), (102, a9_), (101, x12), (100, x11), (99, a13_), (98, a11_)] [(3, a3_), (4, a4_), (9, a9_), (10, a10_), (11, a11_), (12, a12_), (13, a13_), (14, a14_)], G58)) (
  bS (e.ev.cl 45 [x17] G58) fun x60 G61 =>
  bP (bn Q q .add 3 (.tmp 61) (.const (.int .i64 1)) a12_ (.int .i64 1)) fun x62 =>
  lp (xq q 141 τ [(12, x62), (62, x62), (61, a12_), (139, x60), (138, x17), (137, x59), (136, x57), (135, x55), (134, x53), (133, x51), (132, x49), (131, x48), (130, x48), (129, x46), (128, x44), (127, x42), (126, x40), (125, x38), (124, x37), (123, x37), (122, x35), (121, x33), (120, x31), (119, x29), (118, x27), (117, x25), (116, x24), (115, x24), (114, x22), (113, x20), (112, a10_), (111, x19), (110, x17), (15, x17), (109, x17), (108, a9_), (107, x16), (106, x15), (105, x13), (104, a14_), (103, a10_), (102, a9_), (101, x12), (100, x11), (99, a13_), (98, a11_)] [(3, a3_), (4, a4_), (9, a9_), (10, a10_), (11, a11_), (13, a13_), (14, a14_)]) G61))
noncomputable def jl6_0_0 (q : Bool) (e : Ex) (lp : Env → GS → Option (Exit × Env × GS)) (τ : Env) (G : GS) : Option (Exit × Env × GS) := jbl6_0_0 q e lp τ G
theorem mjl6_0_0 {e : Ex} {E : Ev} (h : ExLe Q e E) {lp lp' : Env → GS → Option (Exit × Env × GS)} (hlp : LpLe lp lp') (τ : Env) (G : GS) : Ref (jl6_0_0 true e lp τ G) (jl6_0_0 false (Ex.of E) lp' τ G) := by
  unfold jl6_0_0 jbl6_0_0
  exact Ref.gq
theorem mkjl6_0_0 {e : Ex} {E : Ev} (h : ExLe Q e E) {lp lp' : Env → GS → Option (Exit × Env × GS)} (hlp : LpLe lp lp') {τ : Env} {l U : List (Nat × Value)} {G : GS} (hU : UOk τ U) : Ref (jl6_0_0 true e lp (xq true 141 τ l U) G) (jl6_0_0 false (Ex.of E) lp' (xq false 141 τ l U) G) := by
  rw [xq_eq hU]
  exact mjl6_0_0 h hlp _ _
noncomputable def bb6_0 (q : Bool) (e : Ex) (lp : Env → GS → Option (Exit × Env × GS)) (J0 : Env → GS → Option (Exit × Env × GS)) (τ : Env) (G : GS) : Option (Exit × Env × GS) :=
  bV q (τ 3) fun a3_ =>
  bV q (τ 4) fun a4_ =>
  bV q (τ 9) fun a9_ =>
  bV q (τ 10) fun a10_ =>
  bV q (τ 11) fun a11_ =>
  bV q (τ 12) fun a12_ =>
  bV q (τ 13) fun a13_ =>
  bV q (τ 14) fun a14_ =>
  bP (ln Q q 77 a3_) fun x0 =>
  bP (bn Q q .lss 3 (.tmp 57) (.tmp 59) a12_ x0) fun x1 =>
  ifV x1 (
  bP (ias Q q 77 4 a3_ a12_) fun x2 =>
  bP (fa Q q 83 0 0 x2) fun x3 =>
  bP (ld Q q 3 x3 G) fun x4 =>
  bS (e.ev.cl 32 [x4, (.int .i64 4)] G) fun x5 G6 =>
  bP (ias Q q 77 4 a3_ a12_) fun x7 =>
  bP (fa Q q 83 1 1 x7) fun x8 =>
  bP (ld Q q 3 x8 G6) fun x9 =>
  bP (bn Q q .eql 3 (.tmp 73) (.const (.int .i64 0)) x9 (.int .i64 0)) fun x10 =>
  bP (ias Q q 77 4 a3_ a12_) fun x63 =>
  bP (fa Q q 83 1 1 x63) fun x64 =>
  bP (ld Q q 3 x64 G6) fun x65 =>
  bP (bn Q q .geq 3 (.tmp 79) (.const (.int .i64 1)) x65 (.int .i64 1)) fun x66 =>
  bS (gd x66 true (some (a3_, G6)) G6) fun x67 G68 =>
  bS (gd x66 true (some (a12_, G68)) G68) fun x69 G70 =>
  bS (gd x66 true (bP (ias Q q 77 4 x67 x69) fun y => some (y, G70)) G70) fun x71 G72 =>
  bS (gd x66 true (bP (fa Q q 83 1 1 x71) fun y => some (y, G72)) G72) fun x73 G74 =>
  bS (gd x66 true (bP (ld Q q 3 x73 G74) fun y => some (y, G74)) G74) fun x75 G76 =>
  bS (gd x66 true (bP (bn Q q .leq 3 (.tmp 86) (.const (.int .i64 3)) x75 (.int .i64 3)) fun y => some (y, G76)) G76) fun x77 G78 =>
  bP (pickV x66 x77 (.bool false)) fun x79 =>
  ifV x79 (
  bP (lda Q q 28 4 a4_ (G78.room 10)) fun x80 =>
  bP (ias Q q 77 4 a3_ a12_) fun x81 =>
  bP (lda Q q 83 4 x81 (G78.room 10)) fun x82 =>
  bS (e.ev.cl 36 [x80, x82] (G78.room 10)) fun x84 G83 =>
  bP (ias Q q 81 6 a11_ x5) fun x85 =>
  bP (st Q q 88 6 x85 x84 G83) fun G86 =>
  J0 (xq q 141 τ [(97, x85), (96, x84), (95, x82), (94, x81), (93, a12_), (92, a3_), (91, x80), (90, x5), (89, a11_), (88, x79), (87, x77), (86, x75), (85, x73), (84, x71), (83, x69), (82, x67), (81, x66), (80, x66), (79, x65), (78, x64), (77, x63), (76, a12_), (75, a3_), (14, x10), (74, x10), (73, x9), (72, x8), (71, x7), (70, a12_), (69, a3_), (13, x5), (68, x5), (67, x4), (66, x3), (65, x2), (64, a12_), (63, a3_), (60, x1), (59, x0), (58, a3_), (57, a12_)] [(3, a3_), (4, a4_), (9, a9_), (10, a10_), (11, a11_), (12, a12_)]) G86) (
  J0 (xq q 141 τ [(88, x79), (87, x77), (86, x75), (85, x73), (84, x71), (83, x69), (82, x67), (81, x66), (80, x66), (79, x65), (78, x64), (77, x63), (76, a12_), (75, a3_), (14, x10), (74, x10), (73, x9), (72, x8), (71, x7), (70, a12_), (69, a3_), (13, x5), (68, x5), (67, x4), (66, x3), (65, x2), (64, a12_), (63, a3_), (60, x1), (59, x0), (58, a3_), (57, a12_)] [(3, a3_), (4, a4_), (9, a9_), (10, a10_), (11, a11_), (12, a12_)]) G78)) (
  some ((.exit 0), xq q 141 τ [(60, x1), (59, x0), (58, a3_), (57, a12_)] [(3, a3_), (4, a4_), (9, a9_), (10, a10_), (11, a11_), (12, a12_), (13, a13_), (14, a14_)], G))
noncomputable def b6_0 (q : Bool) (e : Ex) (lp : Env → GS → Option (Exit × Env × GS)) (τ : Env) (G : GS) : Option (Exit × Env × GS) := bb6_0 q e lp (jl6_0_0 q e lp) τ G
theorem mb6_0 {e : Ex} {E : Ev} (h : ExLe Q e E) {lp lp' : Env → GS → Option (Exit × Env × GS)} (hlp : LpLe lp lp') (τ : Env) (G : GS) : Ref (b6_0 true e lp τ G) (b6_0 false (Ex.of E) lp' τ G) := by
  unfold b6_0 bb6_0
  repeat' (with_reducible first | exact Ref.rfl' _ | exact ROp.r | refine Ref.bP ?_ fun _ => ?_ | refine Ref.bS ?_ fun _ _ => ?_ | exact Ref.cl (by assumption) | refine Ref.ifV ?_ ?_ | refine LpLe.rx (by assumption) ?_ | refine Ref.xitq ?_ | exact UOk.z | refine UOk.c (by assumption) ?_ | exact Ref.nil _ | refine Ref.bVe fun _ _ => ?_ | refine Ref.bLq (by assumption) ?_ fun _ _ _ => ?_ | refine Ref.ifE ?_ ?_ | refine Ref.chk ?_ ?_ | refine Imp.and ?_ ?_ | refine Imp.or ?_ | exact Imp.rfl' _ | refine Imp.sameO ?_ | refine Ref.gd ?_ | exact Ref.cValue (by assumption) | refine Ref.bX ?_ fun _ _ _ => ?_ | exact Ref.scQ (by assumption) | exact Ref.xRangeQ (by assumption) | exact Ref.cInvoke (by assumption) | refine mkjl6_0_0 (by assumption) (by assumption) ?_)
noncomputable def jtl6_0 (J0 : Env → GS → Option (Exit × Env × GS)) : JT (Exit × Env × GS) :=
  (.n none .e (.n none (.n none (.n none .e (.n none .e (.n (some (fun T G => J0 (nth undef T) G)) .e .e))) .e) .e))
set_option maxHeartbeats 8000000 in
theorem jrl6_0_0 (orc : FuncId → Bool) (J0 : Env → GS → Option (Exit × Env × GS)) (T : List Value) (G : GS) : runC Q (evL Q orc) 141 (jtl6_0 J0) (subAt [1, 1, 1, 1, 1, 1, 0, 1, 0, 0] (bodyOf Try.f6)) (seqXE (fun τ G' => mapE ((E orc).lp (subAt [1, 1, 1, 1, 1, 1, 0, 1, 0, 0] (bodyOf Try.f6)) (lst 141 (nth undef (lst 141 τ))) G')) fun e τ G' => some (e, nth undef (lst 141 τ), G')) [true, false, false, true, true] (nth undef T) G = jbl6_0_0 false (Ex.of (E orc)) (fun τ G => mapE ((E orc).lp (subAt [1, 1, 1, 1, 1, 1, 0, 1, 0, 0] (bodyOf Try.f6)) (lst 141 τ) G))  (nth undef T) G := by kernel_rfl
set_option maxHeartbeats 8000000 in
theorem jol6_0 (orc : FuncId → Bool) : JOk Q orc 141 (jtl6_0 (jl6_0_0 false (Ex.of (E orc)) (fun τ G => mapE ((E orc).lp (subAt [1, 1, 1, 1, 1, 1, 0, 1, 0, 0] (bodyOf Try.f6)) (lst 141 τ) G))) ) (subAt [1, 1, 1, 1, 1, 1, 0, 1, 0, 0] (bodyOf Try.f6)) (seqXE (fun τ G' => mapE ((E orc).lp (subAt [1, 1, 1, 1, 1, 1, 0, 1, 0, 0] (bodyOf Try.f6)) (lst 141 (nth undef (lst 141 τ))) G')) fun e τ G' => some (e, nth undef (lst 141 τ), G')) :=
  jOk Q orc (l := [([true, false, false, true, true], (fun T G => jl6_0_0 false (Ex.of (E orc)) (fun τ G => mapE ((E orc).lp (subAt [1, 1, 1, 1, 1, 1, 0, 1, 0, 0] (bodyOf Try.f6)) (lst 141 τ) G)) (nth undef T) G))]) (by kernel_rfl) (AllE.c (fun T G => jrl6_0_0 orc (jl6_0_0 false (Ex.of (E orc)) (fun τ G => mapE ((E orc).lp (subAt [1, 1, 1, 1, 1, 1, 0, 1, 0, 0] (bodyOf Try.f6)) (lst 141 τ) G))) T G) (AllE.z))
set_option maxHeartbeats 8000000 in
theorem jel6_0 (orc : FuncId → Bool) (J0 : Env → GS → Option (Exit × Env × GS)) (T : List Value) (G : GS) : sxC Q (evL Q orc) 141 (jtl6_0 J0) (subAt [1, 1, 1, 1, 1, 1, 0, 1, 0, 0] (bodyOf Try.f6)) (nth undef T) G (seqXE (fun τ G' => mapE ((E orc).lp (subAt [1, 1, 1, 1, 1, 1, 0, 1, 0, 0] (bodyOf Try.f6)) (lst 141 (nth undef (lst 141 τ))) G')) fun e τ G' => some (e, nth undef (lst 141 τ), G')) = bb6_0 false (Ex.of (E orc)) (fun τ G => mapE ((E orc).lp (subAt [1, 1, 1, 1, 1, 1, 0, 1, 0, 0] (bodyOf Try.f6)) (lst 141 τ) G)) J0 (nth undef T) G := by kernel_rfl
set_option maxHeartbeats 8000000 in
theorem l6_0 {orc : FuncId → Bool} {e : Ex} (h : ExLe Q e (E orc)) (lp : Env → GS → Option (Exit × Env × GS)) (hlp : ∀ τ G, Ref (lp τ G) (mapE ((E orc).lp (subAt [1, 1, 1, 1, 1, 1, 0, 1, 0, 0] (bodyOf Try.f6)) (lst 141 τ) G))) (T : List Value) (G : GS) (hT : T.length = 141) : Ref (b6_0 true e lp (nth undef T) G) (mapE ((E orc).lp (subAt [1, 1, 1, 1, 1, 1, 0, 1, 0, 0] (bodyOf Try.f6)) T G)) :=
  fun r hr => lp_sxC Q orc G (jtl6_0 (jl6_0_0 false (Ex.of (E orc)) (fun τ G => mapE ((E orc).lp (subAt [1, 1, 1, 1, 1, 1, 0, 1, 0, 0] (bodyOf Try.f6)) (lst 141 τ) G))) ) hT (jol6_0 orc) (jel6_0 orc (jl6_0_0 false (Ex.of (E orc)) (fun τ G => mapE ((E orc).lp (subAt [1, 1, 1, 1, 1, 1, 0, 1, 0, 0] (bodyOf Try.f6)) (lst 141 τ) G))) T G) (mb6_0 h ⟨hlp⟩ _ _ r hr)
/-- coxswain/coxswainlaw14.RingSteps -/
noncomputable def s6 (q : Bool) (e : Ex) (v0 v1 v2 v3 : Value) (G : GS) : Option (Value × GS) :=
  bS (bx q v0 G) fun x0 G1 =>
  bP (lda Q q 28 4 x0 (G1.room 7)) fun x2 =>
  bS (e.ev.cl 21 [x2, v1] (G1.room 7)) fun x4 G3 =>
  bP (lda Q q 28 4 x0 G3) fun x5 =>
  chk ((sameO (lda Q q 28 4 x0 (G1.room 7)) x5 && true)) <|
  bS (e.ev.cl 34 [x5, v1] G3) fun x7 G6 =>
  bP (bn Q q .neq 30 (.tmp 18) (.tmp 21) x4 x7) fun x8 =>
  ifV x8 (
  some ((.bool false), G6)) (
  bP (lda Q q 28 4 x0 G6) fun x9 =>
  bS (e.ev.cl 34 [x9, v1] G6) fun x10 G11 =>
  bP (bn Q q .neq 30 (.tmp 25) (.const (.int .i64 0)) x10 (.int .i64 0)) fun x12 =>
  bS (gd x12 false (bP (fa Q q 28 3 3 x0) fun y => some (y, G11)) G11) fun x13 G14 =>
  bS (gd x12 false (bP (ld Q q 3 x13 G14) fun y => some (y, G14)) G14) fun x15 G16 =>
  bS (gd x12 false (bP (bn Q q .gtr 3 (.tmp 29) (.const (.int .i64 20)) x15 (.int .i64 20)) fun y => some (y, G16)) G16) fun x17 G18 =>
  bP (pickV x12 (.bool true) x17) fun x19 =>
  bS (gd x19 false (some (v1, G18)) G18) fun x20 G21 =>
  bS (gd x19 false (bP (bn Q q .gtr 3 (.tmp 33) (.const (.int .i64 60)) x20 (.int .i64 60)) fun y => some (y, G21)) G21) fun x22 G23 =>
  bP (pickV x19 (.bool true) x22) fun x24 =>
  bS (gd x24 false (some (v2, G23)) G23) fun x25 G26 =>
  bS (gd x24 false (bP (ln Q q 76 x25) fun y => some (y, G26)) G26) fun x27 G28 =>
  bS (gd x24 false (bP (bn Q q .gtr 3 (.tmp 38) (.const (.int .i64 60)) x27 (.int .i64 60)) fun y => some (y, G28)) G28) fun x29 G30 =>
  bP (pickV x24 (.bool true) x29) fun x31 =>
  bS (gd x31 false (some (v3, G30)) G30) fun x32 G33 =>
  bS (gd x31 false (bP (ln Q q 77 x32) fun y => some (y, G33)) G33) fun x34 G35 =>
  bS (gd x31 false (bP (bn Q q .gtr 3 (.tmp 43) (.const (.int .i64 120)) x34 (.int .i64 120)) fun y => some (y, G35)) G35) fun x36 G37 =>
  bP (pickV x31 (.bool true) x36) fun x38 =>
  ifV x38 (
  bS (e.ev.cl 22 [] G37) fun x39 G40 =>
  some (x39, G40)) (
  bP (lda Q q 28 4 x0 G37) fun x41 =>
  bS (e.ev.cl 35 [x41, v1, v2] G37) fun x42 G43 =>
  bP (pExtract x42 0) fun x44 =>
  bP (pExtract x42 1) fun x45 =>
  bP (ep Q q false 22 (.tmp 54) (.const (.pointer none)) x44 (.pointer none)) fun x46 =>
  ifV x46 (
  some ((.bool false), G43)) (
  bS (mk Q q 81 6 48 z88 (.int .i64 4) (.int .i64 4) G43) fun x47 G48 =>
  bLq q e 6 0 (subAt [1, 1, 1, 1, 1, 1, 0, 1, 0, 0] (bodyOf Try.f6)) 141 (nth undef [v0, v1, v2, v3]) [(12, (.int .i64 0)), (11, x47), (56, x47), (55, x46), (54, x44), (10, x45), (9, x44), (53, x45), (52, x44), (47, x42), (51, x42), (50, v2), (49, v1), (48, x41), (45, x38), (44, x36), (43, x34), (42, x32), (41, x31), (40, x31), (39, x29), (38, x27), (37, x25), (36, x24), (35, x24), (34, x22), (33, x20), (32, x19), (31, x19), (30, x17), (29, x15), (28, x13), (27, x12), (26, x12), (25, x10), (24, v1), (23, x9), (22, x8), (21, x7), (20, v1), (19, x5), (18, x4), (17, v1), (16, x2), (8, (.bool false)), (4, x0)] [] G48 fun e49 t50 G51 =>
  bV q (t50 8) fun t50x8_ =>
  ifE e49 (.exit 0) (
  bS (e.ev.cl 22 [] G51) fun x52 G53 =>
  some (x52, G53)) (ifE e49 .ret (
  some (t50x8_, G51)) (none)))))
theorem m6 {e : Ex} {E : Ev} (h : ExLe Q e E) (v0 v1 v2 v3 : Value) (G : GS) : Ref (s6 true e v0 v1 v2 v3 G) (s6 false (Ex.of E) v0 v1 v2 v3 G) := by
  unfold s6
  exact Ref.gq
set_option maxHeartbeats 8000000 in
theorem f6 {orc : FuncId → Bool} {e : Ex} (h : ExLe Q e (E orc)) (v0 v1 v2 v3 : Value) (G : GS) : Ref (s6 true e v0 v1 v2 v3 G) ((E orc).cl 6 [v0, v1, v2, v3] G) :=
  fun r hr => cl_sxE_some Q orc (vs := [v0, v1, v2, v3]) G Try.func6 (by kernel_rfl) (by kernel_rfl) (by kernel_rfl) (by kernel_rfl) (by kernel_rfl) (by kernel_rfl) (m6 h v0 v1 v2 v3 G r hr)
/-- coxswain/coxswainlaw14.first -/
noncomputable def s7 (q : Bool) (e : Ex) (G : GS) : Option (Value × GS) :=
  bS (e.ev.cl 14 [] G) fun x0 G1 =>
  bP (ep Q q false 22 (.tmp 3) (.const (.pointer none)) x0 (.pointer none)) fun x2 =>
  bS (gd x2 false (some (x0, G1)) G1) fun x3 G4 =>
  bS (gd x2 false (bS (e.ev.cl 10 [] G4) fun y G => some (y, G)) G4) fun x5 G6 =>
  bS (gd x2 false (bS (e.ev.cl 9 [x5, (.int .i64 5)] G6) fun y G => some (y, G)) G6) fun x7 G8 =>
  bS (gd x2 false (bS (e.ev.cl 8 [x3, x7, (.int .i64 4), (.int .i64 0)] G8) fun y G => some (y, G)) G8) fun x9 G10 =>
  bS (gd x2 false (bP (un Q q .not x9) fun y => some (y, G10)) G10) fun x11 G12 =>
  bP (pickV x2 (.bool true) x11) fun x13 =>
  bS (gd x13 false (some (x0, G12)) G12) fun x14 G15 =>
  bS (gd x13 false (bS (e.ev.cl 40 [x14] G15) fun y G => some (y, G)) G15) fun x16 G17 =>
  bS (gd x13 false (bS (bs Q q 76 5 (rep z31 5) 1 [(0, 0, 1), (1, 1, 1), (2, 2, 1), (3, 3, 1), (4, 4, 1)] [(.int .u64 0), (.int .u64 1), (.int .u64 65541), (.int .u64 0), (.int .u64 0)] G17) fun y G => some (y, G)) G17) fun x18 G19 =>
  bS (gd x13 false (bS (e.ev.cl 39 [x16, x18] G19) fun y G => some (y, G)) G19) fun x20 G21 =>
  bS (gd x13 false (bP (un Q q .not x20) fun y => some (y, G21)) G21) fun x22 G23 =>
  bP (pickV x13 (.bool true) x22) fun x24 =>
  bS (gd x24 false (some (x0, G23)) G23) fun x25 G26 =>
  bS (gd x24 false (bS (e.ev.cl 10 [] G26) fun y G => some (y, G)) G26) fun x27 G28 =>
  bS (gd x24 false (bS (e.ev.cl 9 [x27, (.int .i64 7)] G28) fun y G => some (y, G)) G28) fun x29 G30 =>
  bS (gd x24 false (bS (e.ev.cl 8 [x25, x29, (.int .i64 4), (.int .i64 0)] G30) fun y G => some (y, G)) G30) fun x31 G32 =>
  bS (gd x24 false (bP (un Q q .not x31) fun y => some (y, G32)) G32) fun x33 G34 =>
  bP (pickV x24 (.bool true) x33) fun x35 =>
  bS (gd x35 false (some (x0, G34)) G34) fun x36 G37 =>
  bS (gd x35 false (bS (e.ev.cl 10 [] G37) fun y G => some (y, G)) G37) fun x38 G39 =>
  bS (gd x35 false (bS (e.ev.cl 9 [x38, (.int .i64 9)] G39) fun y G => some (y, G)) G39) fun x40 G41 =>
  bS (gd x35 false (bS (e.ev.cl 8 [x36, x40, (.int .i64 2), (.int .i64 7)] G41) fun y G => some (y, G)) G41) fun x42 G43 =>
  bS (gd x35 false (bP (un Q q .not x42) fun y => some (y, G43)) G43) fun x44 G45 =>
  bP (pickV x35 (.bool true) x44) fun x46 =>
  bS (gd x46 false (bS (e.ev.cl 10 [] G45) fun y G => some (y, G)) G45) fun x47 G48 =>
  bS (gd x46 false (some (x0, G48)) G48) fun x49 G50 =>
  bS (gd x46 false (bS (e.ev.cl 18 [x47, x49] G50) fun y G => some (y, G)) G50) fun x51 G52 =>
  bS (gd x46 false (bS (bs Q q 38 2 (rep z3 2) 1 [(0, 0, 1), (1, 1, 1)] [(.int .i64 5), (.int .i64 7)] G52) fun y G => some (y, G)) G52) fun x53 G54 =>
  bS (gd x46 false (bS (e.ev.cl 17 [x51, x53] G54) fun y G => some (y, G)) G54) fun x55 G56 =>
  bS (gd x46 false (bP (un Q q .not x55) fun y => some (y, G56)) G56) fun x57 G58 =>
  bP (pickV x46 (.bool true) x57) fun x59 =>
  ifV x59 (
  some ((.pointer none), G58)) (
  bS (e.ev.cl 12 [x0, (.int .i64 5), (.int .u64 0)] G58) fun x60 G61 =>
  bP (un Q q .not x60) fun x62 =>
  bS (gd x62 false (some (x0, G61)) G61) fun x63 G64 =>
  bS (gd x62 false (bS (e.ev.cl 13 [x63, (.int .u64 0)] G64) fun y G => some (y, G)) G64) fun x65 G66 =>
  bS (gd x62 false (bP (un Q q .not x65) fun y => some (y, G66)) G66) fun x67 G68 =>
  bP (pickV x62 (.bool true) x67) fun x69 =>
  bS (gd x69 false (some (x0, G68)) G68) fun x70 G71 =>
  bS (gd x69 false (bS (e.ev.cl 40 [x70] G71) fun y G => some (y, G)) G71) fun x72 G73 =>
  bS (gd x69 false (bS (bs Q q 76 5 (rep z31 5) 1 [(0, 0, 1), (1, 1, 1), (2, 2, 1), (3, 3, 1), (4, 4, 1)] [(.int .u64 1), (.int .u64 2), (.int .u64 4294967296), (.int .u64 65543), (.int .u64 0)] G73) fun y G => some (y, G)) G73) fun x74 G75 =>
  bS (gd x69 false (bS (e.ev.cl 39 [x72, x74] G75) fun y G => some (y, G)) G75) fun x76 G77 =>
  bS (gd x69 false (bP (un Q q .not x76) fun y => some (y, G77)) G77) fun x78 G79 =>
  bP (pickV x69 (.bool true) x78) fun x80 =>
  bS (gd x80 false (bS (e.ev.cl 10 [] G79) fun y G => some (y, G)) G79) fun x81 G82 =>
  bS (gd x80 false (some (x0, G82)) G82) fun x83 G84 =>
  bS (gd x80 false (bS (e.ev.cl 18 [x81, x83] G84) fun y G => some (y, G)) G84) fun x85 G86 =>
  bS (gd x80 false (bS (bs Q q 38 1 (rep z3 1) 1 [(0, 0, 1)] [(.int .i64 7)] G86) fun y G => some (y, G)) G86) fun x87 G88 =>
  bS (gd x80 false (bS (e.ev.cl 17 [x85, x87] G88) fun y G => some (y, G)) G88) fun x89 G90 =>
  bS (gd x80 false (bP (un Q q .not x89) fun y => some (y, G90)) G90) fun x91 G92 =>
  bP (pickV x80 (.bool true) x91) fun x93 =>
  ifV x93 (
  some ((.pointer none), G92)) (
  some (x0, G92)))
theorem m7 {e : Ex} {E : Ev} (h : ExLe Q e E) (G : GS) : Ref (s7 true e  G) (s7 false (Ex.of E)  G) := by
  unfold s7
  exact Ref.gq
theorem f7 {orc : FuncId → Bool} {e : Ex} (h : ExLe Q e (E orc)) (ho : orc 7 = false) (G : GS) : Ref (s7 true e  G) ((E orc).cl 7 [] G) :=
  fun r hr => cl_sxE_some Q orc (vs := []) G Try.func7 (by kernel_rfl) (by kernel_rfl) ho (by kernel_rfl) (by kernel_rfl) (by kernel_rfl) (m7 h  G r hr)
noncomputable def b8_0 (q : Bool) (e : Ex) (lp : Env → GS → Option (Exit × Env × GS)) (τ : Env) (G : GS) : Option (Exit × Env × GS) :=
  bV q (τ 0) fun a0_ =>
  bV q (τ 1) fun a1_ =>
  bV q (τ 2) fun a2_ =>
  bV q (τ 9) fun a9_ =>
  bP (bn Q q .lss 3 (.tmp 10) (.tmp 11) a9_ a2_) fun x0 =>
  ifV x0 (
  bS (e.ev.cl 15 [a1_, a0_] G) fun x1 G2 =>
  bS (gd x1 false (some (a1_, G2)) G2) fun x3 G4 =>
  bS (gd x1 false (bS (e.ev.cl 16 [x3] G4) fun y G => some (y, G)) G4) fun x5 G6 =>
  bS (gd x1 false (bP (bn Q q .neq 30 (.tmp 20) (.const (.int .i64 14)) x5 (.int .i64 14)) fun y => some (y, G6)) G6) fun x7 G8 =>
  bP (pickV x1 (.bool true) x7) fun x9 =>
  ifV x9 (
  some (.ret, xq q 32 τ [(8, (.bool false)), (22, x9), (21, x7), (20, x5), (19, x3), (18, x1), (17, x1), (16, a0_), (15, a1_), (12, x0), (11, a2_), (10, a9_)] [(0, a0_), (1, a1_), (2, a2_), (9, a9_)], G8)) (
  bP (bn Q q .add 3 (.tmp 13) (.const (.int .i64 1)) a9_ (.int .i64 1)) fun x10 =>
  lp (xq q 32 τ [(9, x10), (14, x10), (13, a9_), (22, x9), (21, x7), (20, x5), (19, x3), (18, x1), (17, x1), (16, a0_), (15, a1_), (12, x0), (11, a2_), (10, a9_)] [(0, a0_), (1, a1_), (2, a2_)]) G8)) (
  some ((.exit 0), xq q 32 τ [(12, x0), (11, a2_), (10, a9_)] [(0, a0_), (1, a1_), (2, a2_), (9, a9_)], G))
theorem mb8_0 {e : Ex} {E : Ev} (h : ExLe Q e E) {lp lp' : Env → GS → Option (Exit × Env × GS)} (hlp : LpLe lp lp') (τ : Env) (G : GS) : Ref (b8_0 true e lp τ G) (b8_0 false (Ex.of E) lp' τ G) := by
  unfold b8_0
  exact Ref.gq
theorem l8_0 {orc : FuncId → Bool} {e : Ex} (h : ExLe Q e (E orc)) (lp : Env → GS → Option (Exit × Env × GS)) (hlp : ∀ τ G, Ref (lp τ G) (mapE ((E orc).lp (subAt [1, 0, 1, 0, 0] (bodyOf Try.f8)) (lst 32 τ) G))) (T : List Value) (G : GS) (hT : T.length = 32) : Ref (b8_0 true e lp (nth undef T) G) (mapE ((E orc).lp (subAt [1, 0, 1, 0, 0] (bodyOf Try.f8)) T G)) :=
  fun r hr => lp_sxN Q orc G hT (by kernel_rfl) (mb8_0 h ⟨hlp⟩ _ _ r hr)
/-- coxswain/coxswainlaw14.push -/
noncomputable def s8 (q : Bool) (e : Ex) (v0 v1 v2 v3 : Value) (G : GS) : Option (Value × GS) :=
  bLq q e 8 0 (subAt [1, 0, 1, 0, 0] (bodyOf Try.f8)) 32 (nth undef [v0, v1, v2, v3]) [(9, (.int .i64 1)), (8, (.bool false))] [] G fun e0 t1 G2 =>
  bV q (t1 0) fun t1x0_ =>
  bV q (t1 1) fun t1x1_ =>
  bV q (t1 3) fun t1x3_ =>
  bV q (t1 8) fun t1x8_ =>
  ifE e0 (.exit 0) (
  bS (e.ev.cl 15 [t1x1_, t1x0_] G2) fun x3 G4 =>
  bS (gd x3 true (some (t1x1_, G4)) G4) fun x5 G6 =>
  bS (gd x3 true (bS (e.ev.cl 16 [x5] G6) fun y G => some (y, G)) G6) fun x7 G8 =>
  bS (gd x3 true (some (t1x3_, G8)) G8) fun x9 G10 =>
  bS (gd x3 true (bP (bn Q q .eql 30 (.tmp 28) (.tmp 29) x7 x9) fun y => some (y, G10)) G10) fun x11 G12 =>
  bP (pickV x3 x11 (.bool false)) fun x13 =>
  some (x13, G12)) (ifE e0 .ret (
  some (t1x8_, G2)) (none))
theorem m8 {e : Ex} {E : Ev} (h : ExLe Q e E) (v0 v1 v2 v3 : Value) (G : GS) : Ref (s8 true e v0 v1 v2 v3 G) (s8 false (Ex.of E) v0 v1 v2 v3 G) := by
  unfold s8
  exact Ref.gq
theorem f8 {orc : FuncId → Bool} {e : Ex} (h : ExLe Q e (E orc)) (v0 v1 v2 v3 : Value) (G : GS) : Ref (s8 true e v0 v1 v2 v3 G) ((E orc).cl 8 [v0, v1, v2, v3] G) :=
  fun r hr => cl_sxE_some Q orc (vs := [v0, v1, v2, v3]) G Try.func8 (by kernel_rfl) (by kernel_rfl) (by kernel_rfl) (by kernel_rfl) (by kernel_rfl) (by kernel_rfl) (m8 h v0 v1 v2 v3 G r hr)
/-- coxswain/ring.NewPush -/
noncomputable def s9 (q : Bool) (e : Ex) (v0 v1 : Value) (G : GS) : Option (Value × GS) :=
  bS (bx q v0 G) fun x0 G1 =>
  bP (lda Q q 28 4 x0 G1) fun x2 =>
  bS (e.ev.cl 46 [x2] G1) fun x3 G4 =>
  bP (bd Q q 53 z53 [(0, 0, 7), (1, 7, 1)] [x3, v1]) fun x5 =>
  bS (bx q x5 G4) fun x6 G7 =>
  bP (pNil x6) fun x8 =>
  bP (fa Q q 53 0 0 x8) fun x9 =>
  bP (fa Q q 50 3 6 x9) fun x10 =>
  bP (ld Q q 30 x10 G7) fun x11 =>
  bP (bn Q q .neq 30 (.tmp 22) (.const (.int .i64 0)) x11 (.int .i64 0)) fun x12 =>
  ifV x12 (
  some (x6, G7)) (
  bP (bn Q q .lss 3 (.tmp 25) (.const (.int .i64 0)) v1 (.int .i64 0)) fun x13 =>
  bS (gd x13 false (some (v1, G7)) G7) fun x14 G15 =>
  bS (gd x13 false (bP (bn Q q .gtr 3 (.tmp 28) (.const (.int .i64 65535)) x14 (.int .i64 65535)) fun y => some (y, G15)) G15) fun x16 G17 =>
  bP (pickV x13 (.bool true) x16) fun x18 =>
  ifV x18 (
  bP (pNil x6) fun x19 =>
  bP (fa Q q 53 0 0 x19) fun x20 =>
  bS (e.ev.cl 47 [x20, (.int .i64 3)] G17) fun x21 G22 =>
  some (x6, G22)) (
  bP (pNil x6) fun x23 =>
  bP (fa Q q 53 0 0 x23) fun x24 =>
  bP (fa Q q 50 1 4 x24) fun x25 =>
  bP (st Q q 48 1 x25 (.func (.func 48) #[x6] #[]) G17) fun G26 =>
  some (x6, G26)))
theorem m9 {e : Ex} {E : Ev} (h : ExLe Q e E) (v0 v1 : Value) (G : GS) : Ref (s9 true e v0 v1 G) (s9 false (Ex.of E) v0 v1 G) := by
  unfold s9
  exact Ref.gq
theorem f9 {orc : FuncId → Bool} {e : Ex} (h : ExLe Q e (E orc)) (v0 v1 : Value) (G : GS) : Ref (s9 true e v0 v1 G) ((E orc).cl 9 [v0, v1] G) :=
  fun r hr => cl_sxE_some Q orc (vs := [v0, v1]) G Try.func9 (by kernel_rfl) (by kernel_rfl) (by kernel_rfl) (by kernel_rfl) (by kernel_rfl) (by kernel_rfl) (m9 h v0 v1 G r hr)
/-- coxswain/coxswainlaw14.two -/
noncomputable def s10 (q : Bool) (e : Ex) (G : GS) : Option (Value × GS) :=
  bS (al Q q 28 z28 G) fun x0 G1 =>
  bP (bd Q q 28 z28 [(0, 0, 1), (1, 1, 1), (2, 2, 1), (3, 3, 1)] [(.int .i64 0), (.int .i64 1), (.int .i64 2), (.int .i64 2)]) fun x2 =>
  bP (st Q q 28 4 x0 x2 G1) fun G3 =>
  bP (lda Q q 28 4 x0 G3) fun x4 =>
  some (x4, G3)
theorem m10 {e : Ex} {E : Ev} (h : ExLe Q e E) (G : GS) : Ref (s10 true e  G) (s10 false (Ex.of E)  G) := by
  unfold s10
  exact Ref.gq
theorem f10 {orc : FuncId → Bool} {e : Ex} (h : ExLe Q e (E orc)) (ho : orc 10 = false) (G : GS) : Ref (s10 true e  G) ((E orc).cl 10 [] G) :=
  fun r hr => cl_sxE_some Q orc (vs := []) G Try.func10 (by kernel_rfl) (by kernel_rfl) ho (by kernel_rfl) (by kernel_rfl) (by kernel_rfl) (m10 h  G r hr)
/-- (*coxswain/cells.Mem).Load -/
noncomputable def s11 (q : Bool) (e : Ex) (v0 v1 : Value) (G : GS) : Option (Value × GS) :=
  bS (e.ev.cl 49 [v0, v1] G) fun x0 G1 =>
  bP (bd Q q 104 z104 [(0, 0, 1)] [x0]) fun x2 =>
  bS (al Q q 104 z104 G1) fun x3 G4 =>
  bP (st Q q 104 3 x3 x2 G4) fun G5 =>
  bP (fa Q q 104 0 0 x3) fun x6 =>
  bP (ld Q q 101 x6 G5) fun x7 =>
  bP (lda Q q 104 3 x3 G5) fun x8 =>
  bS (e.ev.cl 50 [v0, (.int .i64 1), v1, x7, (.func (.func 51) #[x8] #[])] G5) fun x9 G10 =>
  bP (fd Q q 95 3 3 x9) fun x11 =>
  some (x11, G10)
theorem m11 {e : Ex} {E : Ev} (h : ExLe Q e E) (v0 v1 : Value) (G : GS) : Ref (s11 true e v0 v1 G) (s11 false (Ex.of E) v0 v1 G) := by
  unfold s11
  exact Ref.gq
theorem f11 {orc : FuncId → Bool} {e : Ex} (h : ExLe Q e (E orc)) (v0 v1 : Value) (G : GS) : Ref (s11 true e v0 v1 G) ((E orc).cl 11 [v0, v1] G) :=
  fun r hr => cl_sxE_some Q orc (vs := [v0, v1]) G Try.func11 (by kernel_rfl) (by kernel_rfl) (by kernel_rfl) (by kernel_rfl) (by kernel_rfl) (by kernel_rfl) (m11 h v0 v1 G r hr)
/-- coxswain/coxswainlaw14.front -/
noncomputable def s12 (q : Bool) (e : Ex) (v0 v1 v2 : Value) (G : GS) : Option (Value × GS) :=
  bS (e.ev.cl 10 [] G) fun x0 G1 =>
  bS (e.ev.cl 19 [x0] G1) fun x2 G3 =>
  bS (e.ev.cl 24 [x2, v0] G3) fun x4 G5 =>
  bS (e.ev.cl 20 [x2] G5) fun x6 G7 =>
  bP (pExtract x6 0) fun x8 =>
  bP (pExtract x6 1) fun x9 =>
  bS (e.ev.cl 24 [x2, v0] G7) fun x10 G11 =>
  bS (e.ev.cl 20 [x2] G11) fun x12 G13 =>
  bP (pExtract x12 0) fun x14 =>
  bP (pExtract x12 1) fun x15 =>
  bP (un Q q .not x4) fun x16 =>
  bS (gd x16 true (some (x9, G13)) G13) fun x17 G18 =>
  bS (gd x16 true (bP (bn Q q .eql 30 (.tmp 35) (.const (.int .i64 14)) x17 (.int .i64 14)) fun y => some (y, G18)) G18) fun x19 G20 =>
  bP (pickV x16 x19 (.bool false)) fun x21 =>
  bS (gd x21 true (some (x10, G20)) G20) fun x22 G23 =>
  bP (pickV x21 x22 (.bool false)) fun x24 =>
  bS (gd x24 true (some (x14, G23)) G23) fun x25 G26 =>
  bS (gd x24 true (some (v1, G26)) G26) fun x27 G28 =>
  bS (gd x24 true (bP (bn Q q .eql 3 (.tmp 42) (.tmp 43) x25 x27) fun y => some (y, G28)) G28) fun x29 G30 =>
  bP (pickV x24 x29 (.bool false)) fun x31 =>
  bS (gd x31 true (some (x15, G30)) G30) fun x32 G33 =>
  bS (gd x31 true (bP (bn Q q .eql 30 (.tmp 47) (.const (.int .i64 0)) x32 (.int .i64 0)) fun y => some (y, G33)) G33) fun x34 G35 =>
  bP (pickV x31 x34 (.bool false)) fun x36 =>
  bS (gd x36 true (some (x2, G35)) G35) fun x37 G38 =>
  bS (gd x36 true (bS (e.ev.cl 26 [x37] G38) fun y G => some (y, G)) G38) fun x39 G40 =>
  bS (gd x36 true (some (v2, G40)) G40) fun x41 G42 =>
  bS (gd x36 true (bP (bn Q q .eql 31 (.tmp 52) (.tmp 53) x39 x41) fun y => some (y, G42)) G42) fun x43 G44 =>
  bP (pickV x36 x43 (.bool false)) fun x45 =>
  some (x45, G44)
theorem m12 {e : Ex} {E : Ev} (h : ExLe Q e E) (v0 v1 v2 : Value) (G : GS) : Ref (s12 true e v0 v1 v2 G) (s12 false (Ex.of E) v0 v1 v2 G) := by
  unfold s12
  exact Ref.gq
theorem f12 {orc : FuncId → Bool} {e : Ex} (h : ExLe Q e (E orc)) (v0 v1 v2 : Value) (G : GS) : Ref (s12 true e v0 v1 v2 G) ((E orc).cl 12 [v0, v1, v2] G) :=
  fun r hr => cl_sxE_some Q orc (vs := [v0, v1, v2]) G Try.func12 (by kernel_rfl) (by kernel_rfl) (by kernel_rfl) (by kernel_rfl) (by kernel_rfl) (by kernel_rfl) (m12 h v0 v1 v2 G r hr)
/-- coxswain/coxswainlaw14.drop -/
noncomputable def s13 (q : Bool) (e : Ex) (v0 v1 : Value) (G : GS) : Option (Value × GS) :=
  bS (e.ev.cl 10 [] G) fun x0 G1 =>
  bS (e.ev.cl 28 [x0, v1] G1) fun x2 G3 =>
  bS (e.ev.cl 25 [x2, v0] G3) fun x4 G5 =>
  bS (e.ev.cl 27 [x2] G5) fun x6 G7 =>
  bP (un Q q .not x4) fun x8 =>
  bS (gd x8 true (some (x6, G7)) G7) fun x9 G10 =>
  bS (gd x8 true (bP (bn Q q .eql 30 (.tmp 19) (.const (.int .i64 14)) x9 (.int .i64 14)) fun y => some (y, G10)) G10) fun x11 G12 =>
  bP (pickV x8 x11 (.bool false)) fun x13 =>
  bS (gd x13 true (some (x2, G12)) G12) fun x14 G15 =>
  bS (gd x13 true (some (v0, G15)) G15) fun x16 G17 =>
  bS (gd x13 true (bS (e.ev.cl 25 [x14, x16] G17) fun y G => some (y, G)) G17) fun x18 G19 =>
  bP (pickV x13 x18 (.bool false)) fun x20 =>
  bS (gd x20 true (some (x2, G19)) G19) fun x21 G22 =>
  bS (gd x20 true (bS (e.ev.cl 27 [x21] G22) fun y G => some (y, G)) G22) fun x23 G24 =>
  bS (gd x20 true (bP (bn Q q .eql 30 (.tmp 29) (.const (.int .i64 0)) x23 (.int .i64 0)) fun y => some (y, G24)) G24) fun x25 G26 =>
  bP (pickV x20 x25 (.bool false)) fun x27 =>
  some (x27, G26)
theorem m13 {e : Ex} {E : Ev} (h : ExLe Q e E) (v0 v1 : Value) (G : GS) : Ref (s13 true e v0 v1 G) (s13 false (Ex.of E) v0 v1 G) := by
  unfold s13
  exact Ref.gq
theorem f13 {orc : FuncId → Bool} {e : Ex} (h : ExLe Q e (E orc)) (v0 v1 : Value) (G : GS) : Ref (s13 true e v0 v1 G) ((E orc).cl 13 [v0, v1] G) :=
  fun r hr => cl_sxE_some Q orc (vs := [v0, v1]) G Try.func13 (by kernel_rfl) (by kernel_rfl) (by kernel_rfl) (by kernel_rfl) (by kernel_rfl) (by kernel_rfl) (m13 h v0 v1 G r hr)
/-- coxswain/coxswainlaw14.filled -/
noncomputable def s14 (q : Bool) (e : Ex) (G : GS) : Option (Value × GS) :=
  bS (e.ev.cl 23 [(.int .i64 5)] G) fun x0 G1 =>
  bP (pExtract x0 0) fun x2 =>
  bP (pExtract x0 1) fun x3 =>
  bP (bn Q q .neq 30 (.tmp 7) (.const (.int .i64 0)) x3 (.int .i64 0)) fun x4 =>
  bS (gd x4 false (some (x2, G1)) G1) fun x5 G6 =>
  bS (gd x4 false (bP (ep Q q false 22 (.tmp 10) (.const (.pointer none)) x5 (.pointer none)) fun y => some (y, G6)) G6) fun x7 G8 =>
  bP (pickV x4 (.bool true) x7) fun x9 =>
  ifV x9 (
  some ((.pointer none), G8)) (
  bS (e.ev.cl 10 [] G8) fun x10 G11 =>
  bS (e.ev.cl 29 [x10, x2] G11) fun x12 G13 =>
  some (x2, G13))
theorem m14 {e : Ex} {E : Ev} (h : ExLe Q e E) (G : GS) : Ref (s14 true e  G) (s14 false (Ex.of E)  G) := by
  unfold s14
  exact Ref.gq
theorem f14 {orc : FuncId → Bool} {e : Ex} (h : ExLe Q e (E orc)) (ho : orc 14 = false) (G : GS) : Ref (s14 true e  G) ((E orc).cl 14 [] G) :=
  fun r hr => cl_sxE_some Q orc (vs := []) G Try.func14 (by kernel_rfl) (by kernel_rfl) ho (by kernel_rfl) (by kernel_rfl) (by kernel_rfl) (m14 h  G r hr)
/-- (*coxswain/ring.Push).Step -/
noncomputable def s15 (q : Bool) (e : Ex) (v0 v1 : Value) (G : GS) : Option (Value × GS) :=
  bP (ep Q q false 25 (.tmp 5) (.const (.pointer none)) v0 (.pointer none)) fun x0 =>
  bS (gd x0 false (some (v0, G)) G) fun x1 G2 =>
  bS (gd x0 false (bP (pNil x1) fun y => some (y, G2)) G2) fun x3 G4 =>
  bS (gd x0 false (bP (fa Q q 53 0 0 x3) fun y => some (y, G4)) G4) fun x5 G6 =>
  bS (gd x0 false (some (v1, G6)) G6) fun x7 G8 =>
  bS (gd x0 false (bS (e.ev.cl 52 [x5, x7] G8) fun y G => some (y, G)) G8) fun x9 G10 =>
  bP (pickV x0 (.bool true) x9) fun x11 =>
  some (x11, G10)
theorem m15 {e : Ex} {E : Ev} (h : ExLe Q e E) (v0 v1 : Value) (G : GS) : Ref (s15 true e v0 v1 G) (s15 false (Ex.of E) v0 v1 G) := by
  unfold s15
  exact Ref.gq
theorem f15 {orc : FuncId → Bool} {e : Ex} (h : ExLe Q e (E orc)) (v0 v1 : Value) (G : GS) : Ref (s15 true e v0 v1 G) ((E orc).cl 15 [v0, v1] G) :=
  fun r hr => cl_sxE_some Q orc (vs := [v0, v1]) G Try.func15 (by kernel_rfl) (by kernel_rfl) (by kernel_rfl) (by kernel_rfl) (by kernel_rfl) (by kernel_rfl) (m15 h v0 v1 G r hr)
/-- (*coxswain/ring.Push).Err -/
noncomputable def s16 (q : Bool) (e : Ex) (v0 : Value) (G : GS) : Option (Value × GS) :=
  bP (ep Q q false 25 (.tmp 3) (.const (.pointer none)) v0 (.pointer none)) fun x0 =>
  ifV x0 (
  some ((.int .i64 1), G)) (
  bP (pNil v0) fun x1 =>
  bP (fa Q q 53 0 0 x1) fun x2 =>
  bS (e.ev.cl 53 [x2] G) fun x3 G4 =>
  some (x3, G4))
theorem m16 {e : Ex} {E : Ev} (h : ExLe Q e E) (v0 : Value) (G : GS) : Ref (s16 true e v0 G) (s16 false (Ex.of E) v0 G) := by
  unfold s16
  exact Ref.gq
theorem f16 {orc : FuncId → Bool} {e : Ex} (h : ExLe Q e (E orc)) (v0 : Value) (G : GS) : Ref (s16 true e v0 G) ((E orc).cl 16 [v0] G) :=
  fun r hr => cl_sxE_some Q orc (vs := [v0]) G Try.func16 (by kernel_rfl) (by kernel_rfl) (by kernel_rfl) (by kernel_rfl) (by kernel_rfl) (by kernel_rfl) (m16 h v0 G r hr)
noncomputable def b17_0 (q : Bool) (e : Ex) (lp : Env → GS → Option (Exit × Env × GS)) (τ : Env) (G : GS) : Option (Exit × Env × GS) :=
  bV q (τ 0) fun a0_ =>
  bV q (τ 1) fun a1_ =>
  bV q (τ 5) fun a5_ =>
  bV q (τ 6) fun a6_ =>
  bS (gd a5_ true (some (a6_, G)) G) fun x0 G1 =>
  bS (gd a5_ true (some (a0_, G1)) G1) fun x2 G3 =>
  bS (gd a5_ true (bP (ln Q q 38 x2) fun y => some (y, G3)) G3) fun x4 G5 =>
  bS (gd a5_ true (bP (bn Q q .lss 3 (.tmp 14) (.tmp 16) x0 x4) fun y => some (y, G5)) G5) fun x6 G7 =>
  bP (pickV a5_ x6 (.bool false)) fun x8 =>
  ifV x8 (
  bP (ias Q q 38 1 a0_ a6_) fun x9 =>
  bP (ld Q q 3 x9 (G7.room 10)) fun x10 =>
  bP (ias Q q 38 1 a1_ a6_) fun x11 =>
  bP (ld Q q 3 x11 (G7.room 10)) fun x12 =>
  bP (bn Q q .eql 3 (.tmp 24) (.tmp 28) x10 x12) fun x13 =>
  bP (bn Q q .add 3 (.tmp 19) (.const (.int .i64 1)) a6_ (.int .i64 1)) fun x14 =>
  lp (xq q 31 τ [(6, x14), (20, x14), (19, a6_), (5, x13), (29, x13), (28, x12), (27, x11), (26, a6_), (25, a1_), (24, x10), (23, x9), (22, a6_), (21, a0_), (18, x8), (17, x6), (16, x4), (15, x2), (14, x0), (13, a5_), (12, a5_)] [(0, a0_), (1, a1_)]) (G7.room 10)) (
  some ((.exit 0), xq q 31 τ [(18, x8), (17, x6), (16, x4), (15, x2), (14, x0), (13, a5_), (12, a5_)] [(0, a0_), (1, a1_), (5, a5_), (6, a6_)], G7))
theorem mb17_0 {e : Ex} {E : Ev} (h : ExLe Q e E) {lp lp' : Env → GS → Option (Exit × Env × GS)} (hlp : LpLe lp lp') (τ : Env) (G : GS) : Ref (b17_0 true e lp τ G) (b17_0 false (Ex.of E) lp' τ G) := by
  unfold b17_0
  exact Ref.gq
theorem l17_0 {orc : FuncId → Bool} {e : Ex} (h : ExLe Q e (E orc)) (lp : Env → GS → Option (Exit × Env × GS)) (hlp : ∀ τ G, Ref (lp τ G) (mapE ((E orc).lp (subAt [1, 1, 0, 1, 0, 0] (bodyOf Try.f17)) (lst 31 τ) G))) (T : List Value) (G : GS) (hT : T.length = 31) : Ref (b17_0 true e lp (nth undef T) G) (mapE ((E orc).lp (subAt [1, 1, 0, 1, 0, 0] (bodyOf Try.f17)) T G)) :=
  fun r hr => lp_sxN Q orc G hT (by kernel_rfl) (mb17_0 h ⟨hlp⟩ _ _ r hr)
/-- coxswain/coxswainkit.SameInts -/
noncomputable def s17 (q : Bool) (e : Ex) (v0 v1 : Value) (G : GS) : Option (Value × GS) :=
  bP (ln Q q 38 v0) fun x0 =>
  bP (ln Q q 38 v1) fun x1 =>
  bP (bn Q q .eql 3 (.tmp 8) (.tmp 10) x0 x1) fun x2 =>
  bLq q e 17 0 (subAt [1, 1, 0, 1, 0, 0] (bodyOf Try.f17)) 31 (nth undef [v0, v1]) [(6, (.int .i64 0)), (5, x2), (11, x2), (10, x1), (9, v1), (8, x0), (7, v0), (4, (.bool false))] [] G fun e3 t4 G5 =>
  bV q (t4 5) fun t4x5_ =>
  ifE e3 (.exit 0) (
  some (t4x5_, G5)) (none)
theorem m17 {e : Ex} {E : Ev} (h : ExLe Q e E) (v0 v1 : Value) (G : GS) : Ref (s17 true e v0 v1 G) (s17 false (Ex.of E) v0 v1 G) := by
  unfold s17
  exact Ref.gq
theorem f17 {orc : FuncId → Bool} {e : Ex} (h : ExLe Q e (E orc)) (v0 v1 : Value) (G : GS) : Ref (s17 true e v0 v1 G) ((E orc).cl 17 [v0, v1] G) :=
  fun r hr => cl_sxE_some Q orc (vs := [v0, v1]) G Try.func17 (by kernel_rfl) (by kernel_rfl) (by kernel_rfl) (by kernel_rfl) (by kernel_rfl) (by kernel_rfl) (m17 h v0 v1 G r hr)
/-- coxswain/ring.All -/
noncomputable def s18 (q : Bool) (e : Ex) (v0 v1 : Value) (G : GS) : Option (Value × GS) :=
  bS (bx q v0 G) fun x0 G1 =>
  bP (lda Q q 28 4 x0 G1) fun x2 =>
  bS (e.ev.cl 54 [x2] G1) fun x3 G4 =>
  bP (un Q q .not x3) fun x5 =>
  ifV x5 (
  some ((.slice none 0 0), G4)) (
  bS (e.ev.cl 40 [v1] G4) fun x6 G7 =>
  bS (al Q q 76 z76 G7) fun x8 G9 =>
  bP (st Q q 76 1 x8 x6 G9) fun G10 =>
  bS (al Q q 32 z32 G10) fun x11 G12 =>
  bP (st Q q 32 1 x11 (.func (.func 55) #[] #[x8]) G12) fun G13 =>
  bS (al Q q 38 z38 G13) fun x14 G15 =>
  bP (lda Q q 28 4 x0 G15) fun x16 =>
  bP (ld Q q 32 x11 G15) fun x17 =>
  bS (e.ev.cl 56 [x16, x17] G15) fun x18 G19 =>
  bX (xRange e.ev x18 #[18] (subAt [1, 1, 1, 1, 1, 0, 1, 0, 0] (bodyOf Try.f18)) (subAt [1, 1, 1, 1, 1, 0, 1, 0, 1] (bodyOf Try.f18)) (lsq q 29 (nth undef [v0, v1]) [(17, x18), (16, x17), (15, x16), (7, x14), (6, x11), (14, (.func (.func 55) #[] #[x8])), (5, x8), (13, x6), (12, v1), (11, x5), (10, x3), (9, x2), (4, (.slice none 0 0)), (2, x0)]) G19) fun e20 T21 G22 =>
  bV q (nth undef T21 7) fun T21x7_ =>
  ifE e20 .normal (
  bP (ld Q q 38 T21x7_ G22) fun x23 =>
  some (x23, G22)) (none))
theorem m18 {e : Ex} {E : Ev} (h : ExLe Q e E) (v0 v1 : Value) (G : GS) : Ref (s18 true e v0 v1 G) (s18 false (Ex.of E) v0 v1 G) := by
  unfold s18
  exact Ref.gq
theorem f18 {orc : FuncId → Bool} {e : Ex} (h : ExLe Q e (E orc)) (v0 v1 : Value) (G : GS) : Ref (s18 true e v0 v1 G) ((E orc).cl 18 [v0, v1] G) :=
  fun r hr => cl_sxE_some Q orc (vs := [v0, v1]) G Try.func18 (by kernel_rfl) (by kernel_rfl) (by kernel_rfl) (by kernel_rfl) (by kernel_rfl) (by kernel_rfl) (m18 h v0 v1 G r hr)
noncomputable def r18_0 (q : Bool) (e : Ex) (l : Nat) (τ : Env) (u0 : Value) (G : GS) : Option (Value × GS) :=
  bV q (τ 2) fun a2_ =>
  bV q (τ 6) fun a6_ =>
  bV q (τ 7) fun a7_ =>
  bP (G.loop l) fun r0 => if r0.st = .ready then
  bP (ld Q q 38 a7_ ((G.putLoop l (Lp.setSt r0 .busy)).room 10)) fun x1 =>
  bP (ld Q q 32 a6_ ((G.putLoop l (Lp.setSt r0 .busy)).room 10)) fun x2 =>
  bP (lda Q q 28 4 a2_ ((G.putLoop l (Lp.setSt r0 .busy)).room 10)) fun x3 =>
  bS (e.ev.cl 57 [x3, u0] ((G.putLoop l (Lp.setSt r0 .busy)).room 10)) fun x5 G4 =>
  chk ((sameO (ld Q q 32 a6_ G4) x2 && (sameO (ld Q q 38 a7_ G4) x1 && true))) <|
  bS (cValue e.ev x2 [x5] G4) fun x7 G6 =>
  chk ((sameO (ld Q q 38 a7_ G6) x1 && true)) <|
  bS (e.ev.cl 58 [x7] G6) fun x9 G8 =>
  chk ((sameO (ld Q q 38 a7_ G8) x1 && true)) <|
  bS (bs Q q 38 1 (rep z3 1) 1 [(0, 0, 1)] [x9] (G8.at' ((G.putLoop l (Lp.setSt r0 .busy)).nx + 7))) fun x10 G11 =>
  bS (ap Q q 38 38 1 8 x1 x10 (G11.back G8)) fun x13 G12 =>
  bP (st Q q 38 1 a7_ x13 G12) fun G14 =>
  roundEnd l .normal G14
  else none
theorem mr18_0 {e : Ex} {E : Ev} (h : ExLe Q e E) (l : Nat) (τ : Env) (u0 : Value) (G : GS) : Ref (r18_0 true e l τ u0 G) (r18_0 false (Ex.of E) l τ u0 G) := by
  unfold r18_0
  repeat' (with_reducible first | exact Ref.rfl' _ | exact ROp.r | refine Ref.bP ?_ fun _ => ?_ | refine Ref.bS ?_ fun _ _ => ?_ | exact Ref.cl (by assumption) | refine Ref.ifV ?_ ?_ | refine LpLe.rx (by assumption) ?_ | refine Ref.xitq ?_ | exact UOk.z | refine UOk.c (by assumption) ?_ | exact Ref.nil _ | refine Ref.bVe fun _ _ => ?_ | refine Ref.bLq (by assumption) ?_ fun _ _ _ => ?_ | refine Ref.ifE ?_ ?_ | refine Ref.chk ?_ ?_ | refine Imp.and ?_ ?_ | refine Imp.or ?_ | exact Imp.rfl' _ | refine Imp.sameO ?_ | refine Ref.gd ?_ | exact Ref.cValue (by assumption) | refine Ref.bX ?_ fun _ _ _ => ?_ | exact Ref.scQ (by assumption) | exact Ref.xRangeQ (by assumption) | exact Ref.cInvoke (by assumption) | refine Ref.rdy ?_)
theorem d18_0 {orc : FuncId → Bool} {e : Ex} (h : ExLe Q e (E orc)) (l : Nat) (T : List Value) (u0 : Value) (G : GS) {st : LoopState} {pend : Option Code} (hl : G.loop l = some ⟨st, pend, T, [18], (subAt [1, 1, 1, 1, 1, 0, 1, 0, 0] (bodyOf Try.f18)), (subAt [1, 1, 1, 1, 1, 0, 1, 0, 1] (bodyOf Try.f18))⟩) (hT : T.length = 29) : Ref (r18_0 true e l (nth undef T) u0 G) ((E orc).rd l [u0] G) :=
  fun r hr => rd_sxE Q orc hl (by kernel_rfl) hT (by kernel_rfl) (mr18_0 h l _ u0 G r hr)
/-- coxswain/ring.NewFront -/
noncomputable def s19 (q : Bool) (e : Ex) (v0 : Value) (G : GS) : Option (Value × GS) :=
  bS (bx q v0 G) fun x0 G1 =>
  bP (lda Q q 28 4 x0 G1) fun x2 =>
  bS (e.ev.cl 46 [x2] G1) fun x3 G4 =>
  bP (bd Q q 56 z56 [(0, 0, 7)] [x3]) fun x5 =>
  bS (bx q x5 G4) fun x6 G7 =>
  bP (pNil x6) fun x8 =>
  bP (fa Q q 56 0 0 x8) fun x9 =>
  bP (fa Q q 50 3 6 x9) fun x10 =>
  bP (ld Q q 30 x10 G7) fun x11 =>
  bP (bn Q q .eql 30 (.tmp 12) (.const (.int .i64 0)) x11 (.int .i64 0)) fun x12 =>
  ifV x12 (
  bP (pNil x6) fun x13 =>
  bP (fa Q q 56 0 0 x13) fun x14 =>
  bP (fa Q q 50 1 4 x14) fun x15 =>
  bP (st Q q 48 1 x15 (.func (.func 59) #[x6] #[]) G7) fun G16 =>
  some (x6, G16)) (
  some (x6, G7))
theorem m19 {e : Ex} {E : Ev} (h : ExLe Q e E) (v0 : Value) (G : GS) : Ref (s19 true e v0 G) (s19 false (Ex.of E) v0 G) := by
  unfold s19
  exact Ref.gq
theorem f19 {orc : FuncId → Bool} {e : Ex} (h : ExLe Q e (E orc)) (v0 : Value) (G : GS) : Ref (s19 true e v0 G) ((E orc).cl 19 [v0] G) :=
  fun r hr => cl_sxE_some Q orc (vs := [v0]) G Try.func19 (by kernel_rfl) (by kernel_rfl) (by kernel_rfl) (by kernel_rfl) (by kernel_rfl) (by kernel_rfl) (m19 h v0 G r hr)
/-- (*coxswain/ring.Front).Value -/
noncomputable def s20 (q : Bool) (e : Ex) (v0 : Value) (G : GS) : Option (Value × GS) :=
  bP (ep Q q false 41 (.tmp 4) (.const (.pointer none)) v0 (.pointer none)) fun x0 =>
  ifV x0 (
  some (.tuple #[(.int .i64 0), (.int .i64 1)], G)) (
  bP (pNil v0) fun x1 =>
  bP (fa Q q 56 2 8 x1) fun x2 =>
  bP (ld Q q 3 x2 (G.room 10)) fun x3 =>
  bP (pNil v0) fun x4 =>
  bP (fa Q q 56 0 0 x4) fun x5 =>
  bS (e.ev.cl 53 [x5] (G.room 10)) fun x7 G6 =>
  chk ((sameO (ld Q q 3 x2 G6) x3 && true)) <|
  some (.tuple #[x3, x7], G6))
theorem m20 {e : Ex} {E : Ev} (h : ExLe Q e E) (v0 : Value) (G : GS) : Ref (s20 true e v0 G) (s20 false (Ex.of E) v0 G) := by
  unfold s20
  exact Ref.gq
theorem f20 {orc : FuncId → Bool} {e : Ex} (h : ExLe Q e (E orc)) (v0 : Value) (G : GS) : Ref (s20 true e v0 G) ((E orc).cl 20 [v0] G) :=
  fun r hr => cl_sxE_some Q orc (vs := [v0]) G Try.func20 (by kernel_rfl) (by kernel_rfl) (by kernel_rfl) (by kernel_rfl) (by kernel_rfl) (by kernel_rfl) (m20 h v0 G r hr)
noncomputable def b21_0 (q : Bool) (e : Ex) (lp : Env → GS → Option (Exit × Env × GS)) (τ : Env) (G : GS) : Option (Exit × Env × GS) :=
  bV q (τ 1) fun a1_ =>
  bV q (τ 2) fun a2_ =>
  bV q (τ 41) fun a41_ =>
  bV q (τ 42) fun a42_ =>
  bV q (τ 43) fun a43_ =>
  bP (bn Q q .lss 3 (.tmp 43) (.tmp 42) a43_ a42_) fun x0 =>
  ifV x0 (
  bP (ias Q q 38 1 a41_ a43_) fun x1 =>
  bP (ld Q q 3 x1 G) fun x2 =>
  bP (bn Q q .lss 3 (.tmp 47) (.const (.int .i64 0)) x2 (.int .i64 0)) fun x3 =>
  bS (gd x3 false (some (x2, G)) G) fun x4 G5 =>
  bS (gd x3 false (some (a1_, G5)) G5) fun x6 G7 =>
  bS (gd x3 false (bP (bn Q q .geq 3 (.tmp 50) (.tmp 51) x4 x6) fun y => some (y, G7)) G7) fun x8 G9 =>
  bP (pickV x3 (.bool true) x8) fun x10 =>
  bS (gd x10 false (some (x2, G9)) G9) fun x11 G12 =>
  bS (gd x10 false (bP (fa Q q 28 2 2 a2_) fun y => some (y, G12)) G12) fun x13 G14 =>
  bS (gd x10 false (bP (ld Q q 3 x13 G14) fun y => some (y, G14)) G14) fun x15 G16 =>
  bS (gd x10 false (bP (bn Q q .geq 3 (.tmp 55) (.tmp 57) x11 x15) fun y => some (y, G16)) G16) fun x17 G18 =>
  bS (gd x10 false (some (x17, G18)) G18) fun x19 G20 =>
  bS (gd x19 true (some (x2, G20)) G20) fun x21 G22 =>
  bS (gd x19 true (bP (fa Q q 28 2 2 a2_) fun y => some (y, G22)) G22) fun x23 G24 =>
  bS (gd x19 true (bP (ld Q q 3 x23 G24) fun y => some (y, G24)) G24) fun x25 G26 =>
  bS (gd x19 true (bP (fa Q q 28 3 3 a2_) fun y => some (y, G26)) G26) fun x27 G28 =>
  bS (gd x19 true (bP (ld Q q 3 x27 G28) fun y => some (y, G28)) G28) fun x29 G30 =>
  bS (gd x19 true (bP (bn Q q .add 3 (.tmp 62) (.tmp 64) x25 x29) fun y => some (y, G30)) G30) fun x31 G32 =>
  bS (gd x19 true (bP (bn Q q .lss 3 (.tmp 60) (.tmp 65) x21 x31) fun y => some (y, G32)) G32) fun x33 G34 =>
  bS (gd x10 false (bP (pickV x19 x33 (.bool false)) fun y => some (y, G34)) G34) fun x35 G36 =>
  bP (pickV x10 (.bool true) x35) fun x37 =>
  ifV x37 (
  some (.ret, xq q 70 τ [(4, (.int .i64 2)), (68, x37), (67, x35), (66, x33), (65, x31), (64, x29), (63, x27), (62, x25), (61, x23), (60, x21), (59, x19), (58, x17), (57, x15), (56, x13), (55, x11), (54, x10), (53, x10), (52, x8), (51, x6), (50, x4), (49, x3), (48, x3), (47, x2), (6, x2), (46, x2), (45, x1), (44, x0)] [(1, a1_), (2, a2_), (41, a41_), (42, a42_), (43, a43_)], G36)) (
  bP (bn Q q .add 3 (.tmp 43) (.const (.int .i64 1)) a43_ (.int .i64 1)) fun x38 =>
  lp (xq q 70 τ [(43, x38), (69, x38), (68, x37), (67, x35), (66, x33), (65, x31), (64, x29), (63, x27), (62, x25), (61, x23), (60, x21), (59, x19), (58, x17), (57, x15), (56, x13), (55, x11), (54, x10), (53, x10), (52, x8), (51, x6), (50, x4), (49, x3), (48, x3), (47, x2), (6, x2), (46, x2), (45, x1), (44, x0)] [(1, a1_), (2, a2_), (41, a41_), (42, a42_)]) G36)) (
  some ((.exit 0), xq q 70 τ [(44, x0)] [(1, a1_), (2, a2_), (41, a41_), (42, a42_), (43, a43_)], G))
theorem mb21_0 {e : Ex} {E : Ev} (h : ExLe Q e E) {lp lp' : Env → GS → Option (Exit × Env × GS)} (hlp : LpLe lp lp') (τ : Env) (G : GS) : Ref (b21_0 true e lp τ G) (b21_0 false (Ex.of E) lp' τ G) := by
  unfold b21_0
  exact Ref.gq
theorem l21_0 {orc : FuncId → Bool} {e : Ex} (h : ExLe Q e (E orc)) (lp : Env → GS → Option (Exit × Env × GS)) (hlp : ∀ τ G, Ref (lp τ G) (mapE ((E orc).lp (subAt [1, 1, 1, 0, 1, 0, 0] (bodyOf Try.f21)) (lst 70 τ) G))) (T : List Value) (G : GS) (hT : T.length = 70) : Ref (b21_0 true e lp (nth undef T) G) (mapE ((E orc).lp (subAt [1, 1, 1, 0, 1, 0, 0] (bodyOf Try.f21)) T G)) :=
  fun r hr => lp_sxN Q orc G hT (by kernel_rfl) (mb21_0 h ⟨hlp⟩ _ _ r hr)
/-- coxswain/ring.Fits -/
noncomputable def s21 (q : Bool) (e : Ex) (v0 v1 : Value) (G : GS) : Option (Value × GS) :=
  bS (bx q v0 G) fun x0 G1 =>
  bP (bn Q q .lss 3 (.tmp 7) (.const (.int .i64 1)) v1 (.int .i64 1)) fun x2 =>
  bS (gd x2 false (some (v1, G1)) G1) fun x3 G4 =>
  bS (gd x2 false (bP (bn Q q .gtr 3 (.tmp 10) (.const (.int .i64 4096)) x3 (.int .i64 4096)) fun y => some (y, G4)) G4) fun x5 G6 =>
  bP (pickV x2 (.bool true) x5) fun x7 =>
  ifV x7 (
  some ((.int .i64 3), G6)) (
  bP (lda Q q 28 4 x0 G6) fun x8 =>
  bS (e.ev.cl 54 [x8] G6) fun x9 G10 =>
  bP (un Q q .not x9) fun x11 =>
  bS (gd x11 false (bP (fa Q q 28 2 2 x0) fun y => some (y, G10)) G10) fun x12 G13 =>
  bS (gd x11 false (bP (ld Q q 3 x12 G13) fun y => some (y, G13)) G13) fun x14 G15 =>
  bS (gd x11 false (bP (bn Q q .lss 3 (.tmp 18) (.const (.int .i64 0)) x14 (.int .i64 0)) fun y => some (y, G15)) G15) fun x16 G17 =>
  bP (pickV x11 (.bool true) x16) fun x18 =>
  bS (gd x18 false (bP (fa Q q 28 2 2 x0) fun y => some (y, G17)) G17) fun x19 G20 =>
  bS (gd x18 false (bP (ld Q q 3 x19 G20) fun y => some (y, G20)) G20) fun x21 G22 =>
  bS (gd x18 false (some (v1, G22)) G22) fun x23 G24 =>
  bS (gd x18 false (bP (fa Q q 28 3 3 x0) fun y => some (y, G24)) G24) fun x25 G26 =>
  bS (gd x18 false (bP (ld Q q 3 x25 G26) fun y => some (y, G26)) G26) fun x27 G28 =>
  bS (gd x18 false (bP (bn Q q .sub 3 (.tmp 24) (.tmp 26) x23 x27) fun y => some (y, G28)) G28) fun x29 G30 =>
  bS (gd x18 false (bP (bn Q q .gtr 3 (.tmp 23) (.tmp 27) x21 x29) fun y => some (y, G30)) G30) fun x31 G32 =>
  bP (pickV x18 (.bool true) x31) fun x33 =>
  bS (gd x33 false (bP (fa Q q 28 0 0 x0) fun y => some (y, G32)) G32) fun x34 G35 =>
  bS (gd x33 false (bP (ld Q q 3 x34 G35) fun y => some (y, G35)) G35) fun x36 G37 =>
  bS (gd x33 false (bP (fa Q q 28 1 1 x0) fun y => some (y, G37)) G37) fun x38 G39 =>
  bS (gd x33 false (bP (ld Q q 3 x38 G39) fun y => some (y, G39)) G39) fun x40 G41 =>
  bS (gd x33 false (bP (bn Q q .eql 3 (.tmp 32) (.tmp 34) x36 x40) fun y => some (y, G41)) G41) fun x42 G43 =>
  bP (pickV x33 (.bool true) x42) fun x44 =>
  ifV x44 (
  some ((.int .i64 2), G43)) (
  bP (fa Q q 28 0 0 x0) fun x45 =>
  bP (ld Q q 3 x45 G43) fun x46 =>
  bP (fa Q q 28 1 1 x0) fun x47 =>
  bP (ld Q q 3 x47 G43) fun x48 =>
  bS (bs Q q 38 2 (rep z3 2) 1 [(0, 0, 1), (1, 1, 1)] [x46, x48] G43) fun x49 G50 =>
  bP (ln Q q 38 x49) fun x51 =>
  bLq q e 21 0 (subAt [1, 1, 1, 0, 1, 0, 0] (bodyOf Try.f21)) 70 (nth undef [v0, v1]) [(43, (.int .i64 0)), (42, x51), (41, x49), (40, x48), (39, x47), (38, x46), (37, x45), (36, x44), (35, x42), (34, x40), (33, x38), (32, x36), (31, x34), (30, x33), (29, x33), (28, x31), (27, x29), (26, x27), (25, x25), (24, x23), (23, x21), (22, x19), (21, x18), (20, x18), (19, x16), (18, x14), (17, x12), (16, x11), (15, x11), (14, x9), (13, x8), (12, x7), (11, x5), (10, x3), (9, x2), (8, x2), (7, v1), (4, (.int .i64 0)), (2, x0)] [] G50 fun e52 t53 G54 =>
  bV q (t53 4) fun t53x4_ =>
  ifE e52 (.exit 0) (
  some ((.int .i64 0), G54)) (ifE e52 .ret (
  some (t53x4_, G54)) (none))))
theorem m21 {e : Ex} {E : Ev} (h : ExLe Q e E) (v0 v1 : Value) (G : GS) : Ref (s21 true e v0 v1 G) (s21 false (Ex.of E) v0 v1 G) := by
  unfold s21
  exact Ref.gq
theorem f21 {orc : FuncId → Bool} {e : Ex} (h : ExLe Q e (E orc)) (v0 v1 : Value) (G : GS) : Ref (s21 true e v0 v1 G) ((E orc).cl 21 [v0, v1] G) :=
  fun r hr => cl_sxE_some Q orc (vs := [v0, v1]) G Try.func21 (by kernel_rfl) (by kernel_rfl) (by kernel_rfl) (by kernel_rfl) (by kernel_rfl) (by kernel_rfl) (m21 h v0 v1 G r hr)
/-- coxswain/coxswainlaw14.awake -/
noncomputable def s22 (q : Bool) (e : Ex) (G : GS) : Option (Value × GS) :=
  bS (e.ev.cl 7 [] G) fun x0 G1 =>
  bP (ep Q q true 22 (.tmp 1) (.const (.pointer none)) x0 (.pointer none)) fun x2 =>
  bS (gd x2 true (bS (e.ev.cl 10 [] G1) fun y G => some (y, G)) G1) fun x3 G4 =>
  bS (gd x2 true (bS (e.ev.cl 21 [x3, (.int .i64 4)] G4) fun y G => some (y, G)) G4) fun x5 G6 =>
  bS (gd x2 true (bP (bn Q q .eql 30 (.tmp 5) (.const (.int .i64 0)) x5 (.int .i64 0)) fun y => some (y, G6)) G6) fun x7 G8 =>
  bP (pickV x2 x7 (.bool false)) fun x9 =>
  bS (gd x9 true (bS (e.ev.cl 10 [] G8) fun y G => some (y, G)) G8) fun x10 G11 =>
  bS (gd x9 true (bS (e.ev.cl 21 [x10, (.int .i64 3)] G11) fun y G => some (y, G)) G11) fun x12 G13 =>
  bS (gd x9 true (bP (bn Q q .eql 30 (.tmp 10) (.const (.int .i64 2)) x12 (.int .i64 2)) fun y => some (y, G13)) G13) fun x14 G15 =>
  bP (pickV x9 x14 (.bool false)) fun x16 =>
  some (x16, G15)
theorem m22 {e : Ex} {E : Ev} (h : ExLe Q e E) (G : GS) : Ref (s22 true e  G) (s22 false (Ex.of E)  G) := by
  unfold s22
  exact Ref.gq
theorem f22 {orc : FuncId → Bool} {e : Ex} (h : ExLe Q e (E orc)) (ho : orc 22 = false) (G : GS) : Ref (s22 true e  G) ((E orc).cl 22 [] G) :=
  fun r hr => cl_sxE_some Q orc (vs := []) G Try.func22 (by kernel_rfl) (by kernel_rfl) ho (by kernel_rfl) (by kernel_rfl) (by kernel_rfl) (m22 h  G r hr)
/-- coxswain/cells.New -/
noncomputable def s23 (q : Bool) (e : Ex) (v0 : Value) (G : GS) : Option (Value × GS) :=
  bP (bn Q q .lss 3 (.tmp 4) (.const (.int .i64 1)) v0 (.int .i64 1)) fun x0 =>
  bS (gd x0 false (some (v0, G)) G) fun x1 G2 =>
  bS (gd x0 false (bP (bn Q q .gtr 3 (.tmp 7) (.const (.int .i64 4096)) x1 (.int .i64 4096)) fun y => some (y, G2)) G2) fun x3 G4 =>
  bP (pickV x0 (.bool true) x3) fun x5 =>
  ifV x5 (
  some (.tuple #[(.pointer none), (.int .i64 3)], G4)) (
  bS (al Q q 115 z115 G4) fun x6 G7 =>
  bP (bd Q q 117 z117 [(0, 0, 1), (1, 1, 1)] [x6, v0]) fun x8 =>
  bS (bx q x8 G7) fun x9 G10 =>
  some (.tuple #[x9, (.int .i64 0)], G10))
theorem m23 {e : Ex} {E : Ev} (h : ExLe Q e E) (v0 : Value) (G : GS) : Ref (s23 true e v0 G) (s23 false (Ex.of E) v0 G) := by
  unfold s23
  exact Ref.gq
theorem f23 {orc : FuncId → Bool} {e : Ex} (h : ExLe Q e (E orc)) (v0 : Value) (G : GS) : Ref (s23 true e v0 G) ((E orc).cl 23 [v0] G) :=
  fun r hr => cl_sxE_some Q orc (vs := [v0]) G Try.func23 (by kernel_rfl) (by kernel_rfl) (by kernel_rfl) (by kernel_rfl) (by kernel_rfl) (by kernel_rfl) (m23 h v0 G r hr)
/-- (*coxswain/ring.Front).Step -/
noncomputable def s24 (q : Bool) (e : Ex) (v0 v1 : Value) (G : GS) : Option (Value × GS) :=
  bP (ep Q q false 41 (.tmp 5) (.const (.pointer none)) v0 (.pointer none)) fun x0 =>
  bS (gd x0 false (some (v0, G)) G) fun x1 G2 =>
  bS (gd x0 false (bP (pNil x1) fun y => some (y, G2)) G2) fun x3 G4 =>
  bS (gd x0 false (bP (fa Q q 56 0 0 x3) fun y => some (y, G4)) G4) fun x5 G6 =>
  bS (gd x0 false (some (v1, G6)) G6) fun x7 G8 =>
  bS (gd x0 false (bS (e.ev.cl 52 [x5, x7] G8) fun y G => some (y, G)) G8) fun x9 G10 =>
  bP (pickV x0 (.bool true) x9) fun x11 =>
  some (x11, G10)
theorem m24 {e : Ex} {E : Ev} (h : ExLe Q e E) (v0 v1 : Value) (G : GS) : Ref (s24 true e v0 v1 G) (s24 false (Ex.of E) v0 v1 G) := by
  unfold s24
  exact Ref.gq
theorem f24 {orc : FuncId → Bool} {e : Ex} (h : ExLe Q e (E orc)) (v0 v1 : Value) (G : GS) : Ref (s24 true e v0 v1 G) ((E orc).cl 24 [v0, v1] G) :=
  fun r hr => cl_sxE_some Q orc (vs := [v0, v1]) G Try.func24 (by kernel_rfl) (by kernel_rfl) (by kernel_rfl) (by kernel_rfl) (by kernel_rfl) (by kernel_rfl) (m24 h v0 v1 G r hr)
/-- (*coxswain/ring.Drop).Step -/
noncomputable def s25 (q : Bool) (e : Ex) (v0 v1 : Value) (G : GS) : Option (Value × GS) :=
  bP (ep Q q false 58 (.tmp 5) (.const (.pointer none)) v0 (.pointer none)) fun x0 =>
  bS (gd x0 false (some (v0, G)) G) fun x1 G2 =>
  bS (gd x0 false (bP (pNil x1) fun y => some (y, G2)) G2) fun x3 G4 =>
  bS (gd x0 false (bP (fa Q q 60 0 0 x3) fun y => some (y, G4)) G4) fun x5 G6 =>
  bS (gd x0 false (some (v1, G6)) G6) fun x7 G8 =>
  bS (gd x0 false (bS (e.ev.cl 52 [x5, x7] G8) fun y G => some (y, G)) G8) fun x9 G10 =>
  bP (pickV x0 (.bool true) x9) fun x11 =>
  some (x11, G10)
theorem m25 {e : Ex} {E : Ev} (h : ExLe Q e E) (v0 v1 : Value) (G : GS) : Ref (s25 true e v0 v1 G) (s25 false (Ex.of E) v0 v1 G) := by
  unfold s25
  exact Ref.gq
theorem f25 {orc : FuncId → Bool} {e : Ex} (h : ExLe Q e (E orc)) (v0 v1 : Value) (G : GS) : Ref (s25 true e v0 v1 G) ((E orc).cl 25 [v0, v1] G) :=
  fun r hr => cl_sxE_some Q orc (vs := [v0, v1]) G Try.func25 (by kernel_rfl) (by kernel_rfl) (by kernel_rfl) (by kernel_rfl) (by kernel_rfl) (by kernel_rfl) (m25 h v0 v1 G r hr)
/-- (*coxswain/ring.Front).At -/
noncomputable def s26 (q : Bool) (e : Ex) (v0 : Value) (G : GS) : Option (Value × GS) :=
  bP (ep Q q false 41 (.tmp 3) (.const (.pointer none)) v0 (.pointer none)) fun x0 =>
  ifV x0 (
  some ((.int .u64 0), G)) (
  bP (pNil v0) fun x1 =>
  bP (fa Q q 56 1 7 x1) fun x2 =>
  bP (ld Q q 31 x2 G) fun x3 =>
  some (x3, G))
theorem m26 {e : Ex} {E : Ev} (h : ExLe Q e E) (v0 : Value) (G : GS) : Ref (s26 true e v0 G) (s26 false (Ex.of E) v0 G) := by
  unfold s26
  exact Ref.gq
theorem f26 {orc : FuncId → Bool} {e : Ex} (h : ExLe Q e (E orc)) (v0 : Value) (G : GS) : Ref (s26 true e v0 G) ((E orc).cl 26 [v0] G) :=
  fun r hr => cl_sxE_some Q orc (vs := [v0]) G Try.func26 (by kernel_rfl) (by kernel_rfl) (by kernel_rfl) (by kernel_rfl) (by kernel_rfl) (by kernel_rfl) (m26 h v0 G r hr)
/-- (*coxswain/ring.Drop).Err -/
noncomputable def s27 (q : Bool) (e : Ex) (v0 : Value) (G : GS) : Option (Value × GS) :=
  bP (ep Q q false 58 (.tmp 3) (.const (.pointer none)) v0 (.pointer none)) fun x0 =>
  ifV x0 (
  some ((.int .i64 1), G)) (
  bP (pNil v0) fun x1 =>
  bP (fa Q q 60 0 0 x1) fun x2 =>
  bS (e.ev.cl 53 [x2] G) fun x3 G4 =>
  some (x3, G4))
theorem m27 {e : Ex} {E : Ev} (h : ExLe Q e E) (v0 : Value) (G : GS) : Ref (s27 true e v0 G) (s27 false (Ex.of E) v0 G) := by
  unfold s27
  exact Ref.gq
theorem f27 {orc : FuncId → Bool} {e : Ex} (h : ExLe Q e (E orc)) (v0 : Value) (G : GS) : Ref (s27 true e v0 G) ((E orc).cl 27 [v0] G) :=
  fun r hr => cl_sxE_some Q orc (vs := [v0]) G Try.func27 (by kernel_rfl) (by kernel_rfl) (by kernel_rfl) (by kernel_rfl) (by kernel_rfl) (by kernel_rfl) (m27 h v0 G r hr)
/-- coxswain/ring.NewDrop -/
noncomputable def s28 (q : Bool) (e : Ex) (v0 v1 : Value) (G : GS) : Option (Value × GS) :=
  bS (bx q v0 G) fun x0 G1 =>
  bP (lda Q q 28 4 x0 G1) fun x2 =>
  bS (e.ev.cl 46 [x2] G1) fun x3 G4 =>
  bP (bd Q q 60 z60 [(0, 0, 7), (1, 7, 1)] [x3, v1]) fun x5 =>
  bS (bx q x5 G4) fun x6 G7 =>
  bP (pNil x6) fun x8 =>
  bP (fa Q q 60 0 0 x8) fun x9 =>
  bP (fa Q q 50 3 6 x9) fun x10 =>
  bP (ld Q q 30 x10 G7) fun x11 =>
  bP (bn Q q .eql 30 (.tmp 15) (.const (.int .i64 0)) x11 (.int .i64 0)) fun x12 =>
  ifV x12 (
  bP (pNil x6) fun x13 =>
  bP (fa Q q 60 0 0 x13) fun x14 =>
  bP (fa Q q 50 1 4 x14) fun x15 =>
  bP (st Q q 48 1 x15 (.func (.func 60) #[x6] #[]) G7) fun G16 =>
  some (x6, G16)) (
  some (x6, G7))
theorem m28 {e : Ex} {E : Ev} (h : ExLe Q e E) (v0 v1 : Value) (G : GS) : Ref (s28 true e v0 v1 G) (s28 false (Ex.of E) v0 v1 G) := by
  unfold s28
  exact Ref.gq
theorem f28 {orc : FuncId → Bool} {e : Ex} (h : ExLe Q e (E orc)) (v0 v1 : Value) (G : GS) : Ref (s28 true e v0 v1 G) ((E orc).cl 28 [v0, v1] G) :=
  fun r hr => cl_sxE_some Q orc (vs := [v0, v1]) G Try.func28 (by kernel_rfl) (by kernel_rfl) (by kernel_rfl) (by kernel_rfl) (by kernel_rfl) (by kernel_rfl) (m28 h v0 v1 G r hr)
noncomputable def b29_0 (q : Bool) (e : Ex) (lp : Env → GS → Option (Exit × Env × GS)) (τ : Env) (G : GS) : Option (Exit × Env × GS) :=
  bV q (τ 1) fun a1_ =>
  bV q (τ 2) fun a2_ =>
  bV q (τ 17) fun a17_ =>
  bV q (τ 18) fun a18_ =>
  bP (bn Q q .lss 3 (.tmp 18) (.tmp 17) a18_ a17_) fun x0 =>
  ifV x0 (
  bP (fa Q q 28 2 2 a2_) fun x1 =>
  bP (ld Q q 3 x1 G) fun x2 =>
  bP (bn Q q .add 3 (.tmp 23) (.tmp 24) x2 a18_) fun x3 =>
  bS (e.ev.cl 61 [a1_, x3, (.int .u64 0)] G) fun x4 G5 =>
  bP (bn Q q .add 3 (.tmp 18) (.const (.int .i64 1)) a18_ (.int .i64 1)) fun x6 =>
  lp (xq q 28 τ [(18, x6), (27, x6), (26, x4), (25, x3), (24, a18_), (23, x2), (22, x1), (21, a1_), (4, a18_), (20, a18_), (19, x0)] [(1, a1_), (2, a2_), (17, a17_)]) G5) (
  some ((.exit 0), xq q 28 τ [(19, x0)] [(1, a1_), (2, a2_), (17, a17_), (18, a18_)], G))
theorem mb29_0 {e : Ex} {E : Ev} (h : ExLe Q e E) {lp lp' : Env → GS → Option (Exit × Env × GS)} (hlp : LpLe lp lp') (τ : Env) (G : GS) : Ref (b29_0 true e lp τ G) (b29_0 false (Ex.of E) lp' τ G) := by
  unfold b29_0
  exact Ref.gq
theorem l29_0 {orc : FuncId → Bool} {e : Ex} (h : ExLe Q e (E orc)) (lp : Env → GS → Option (Exit × Env × GS)) (hlp : ∀ τ G, Ref (lp τ G) (mapE ((E orc).lp (subAt [1, 1, 1, 1, 1, 0, 0] (bodyOf Try.f29)) (lst 28 τ) G))) (T : List Value) (G : GS) (hT : T.length = 28) : Ref (b29_0 true e lp (nth undef T) G) (mapE ((E orc).lp (subAt [1, 1, 1, 1, 1, 0, 0] (bodyOf Try.f29)) T G)) :=
  fun r hr => lp_sxN Q orc G hT (by kernel_rfl) (mb29_0 h ⟨hlp⟩ _ _ r hr)
/-- coxswain/ring.Fill -/
noncomputable def s29 (q : Bool) (e : Ex) (v0 v1 : Value) (G : GS) : Option (Value × GS) :=
  bS (bx q v0 G) fun x0 G1 =>
  bP (lda Q q 28 4 x0 G1) fun x2 =>
  bS (e.ev.cl 54 [x2] G1) fun x3 G4 =>
  bP (un Q q .not x3) fun x5 =>
  ifV x5 (
  some (.tuple #[], G4)) (
  bP (fa Q q 28 0 0 x0) fun x6 =>
  bP (ld Q q 3 x6 G4) fun x7 =>
  bS (e.ev.cl 61 [v1, x7, (.int .u64 0)] G4) fun x8 G9 =>
  bP (fa Q q 28 1 1 x0) fun x10 =>
  bP (ld Q q 3 x10 G9) fun x11 =>
  bS (e.ev.cl 61 [v1, x11, (.int .u64 0)] G9) fun x12 G13 =>
  bP (fa Q q 28 3 3 x0) fun x14 =>
  bP (ld Q q 3 x14 G13) fun x15 =>
  bLq q e 29 0 (subAt [1, 1, 1, 1, 1, 0, 0] (bodyOf Try.f29)) 28 (nth undef [v0, v1]) [(18, (.int .i64 0)), (17, x15), (16, x14), (15, x12), (14, x11), (13, x10), (12, v1), (11, x8), (10, x7), (9, x6), (8, v1), (7, x5), (6, x3), (5, x2), (2, x0)] [] G13 fun e16 t17 G18 =>
  ifE e16 (.exit 0) (
  some (.tuple #[], G18)) (none))
theorem m29 {e : Ex} {E : Ev} (h : ExLe Q e E) (v0 v1 : Value) (G : GS) : Ref (s29 true e v0 v1 G) (s29 false (Ex.of E) v0 v1 G) := by
  unfold s29
  exact Ref.gq
theorem f29 {orc : FuncId → Bool} {e : Ex} (h : ExLe Q e (E orc)) (v0 v1 : Value) (G : GS) : Ref (s29 true e v0 v1 G) ((E orc).cl 29 [v0, v1] G) :=
  fun r hr => cl_sxE_some Q orc (vs := [v0, v1]) G Try.func29 (by kernel_rfl) (by kernel_rfl) (by kernel_rfl) (by kernel_rfl) (by kernel_rfl) (by kernel_rfl) (m29 h v0 v1 G r hr)
/-- (*coxswain/cells.Mem).Count -/
noncomputable def s30 (q : Bool) (e : Ex) (v0 : Value) (G : GS) : Option (Value × GS) :=
  bP (ep Q q false 22 (.tmp 3) (.const (.pointer none)) v0 (.pointer none)) fun x0 =>
  ifV x0 (
  some ((.int .i64 0), G)) (
  bP (pNil v0) fun x1 =>
  bP (fa Q q 117 3 7 x1) fun x2 =>
  bP (ld Q q 3 x2 G) fun x3 =>
  some (x3, G))
theorem m30 {e : Ex} {E : Ev} (h : ExLe Q e E) (v0 : Value) (G : GS) : Ref (s30 true e v0 G) (s30 false (Ex.of E) v0 G) := by
  unfold s30
  exact Ref.gq
theorem f30 {orc : FuncId → Bool} {e : Ex} (h : ExLe Q e (E orc)) (v0 : Value) (G : GS) : Ref (s30 true e v0 G) ((E orc).cl 30 [v0] G) :=
  fun r hr => cl_sxE_some Q orc (vs := [v0]) G Try.func30 (by kernel_rfl) (by kernel_rfl) (by kernel_rfl) (by kernel_rfl) (by kernel_rfl) (by kernel_rfl) (m30 h v0 G r hr)
/-- coxswain/coxswainlaw14.begun -/
noncomputable def s31 (q : Bool) (e : Ex) (v0 : Value) (G : GS) : Option (Value × GS) :=
  bP (bd Q q 28 z28 [(0, 0, 1), (1, 1, 1), (2, 2, 1), (3, 3, 1)] [(.int .i64 0), (.int .i64 1), (.int .i64 2), v0]) fun x0 =>
  bS (al Q q 28 z28 G) fun x1 G2 =>
  bP (st Q q 28 4 x1 x0 G2) fun G3 =>
  bP (bn Q q .add 3 (.const (.int .i64 2)) (.tmp 9) (.int .i64 2) v0) fun x4 =>
  bS (e.ev.cl 23 [x4] G3) fun x5 G6 =>
  bP (pExtract x5 0) fun x7 =>
  bP (pExtract x5 1) fun x8 =>
  bP (bn Q q .neq 30 (.tmp 14) (.const (.int .i64 0)) x8 (.int .i64 0)) fun x9 =>
  bS (gd x9 false (some (x7, G6)) G6) fun x10 G11 =>
  bS (gd x9 false (bP (ep Q q false 22 (.tmp 17) (.const (.pointer none)) x10 (.pointer none)) fun y => some (y, G11)) G11) fun x12 G13 =>
  bP (pickV x9 (.bool true) x12) fun x14 =>
  ifV x14 (
  some ((.pointer none), G13)) (
  bP (lda Q q 28 4 x1 G13) fun x15 =>
  bS (e.ev.cl 29 [x15, x7] G13) fun x16 G17 =>
  bP (lda Q q 28 4 x1 (G17.room 9)) fun x18 =>
  bS (mk Q q 54 1 8 z25 (.int .i64 2) (.int .i64 2) ((G17.room 9).at' (G17.nx + 2))) fun x19 G20 =>
  bS (mk Q q 38 1 8 z3 (.int .i64 2) (.int .i64 2) ((G20.back (G17.room 9)).at' (G17.nx + 3))) fun x21 G22 =>
  bS (mk Q q 71 1 8 z30 (.int .i64 2) (.int .i64 2) ((G22.back (G20.back (G17.room 9))).at' (G17.nx + 4))) fun x23 G24 =>
  bS (bs Q q 38 3 (rep z3 3) 1 [(0, 0, 1), (1, 1, 1), (2, 2, 1)] [(.int .i64 (-1)), (.int .i64 (-1)), (.int .i64 (-1))] ((G24.back (G22.back (G20.back (G17.room 9)))).at' (G17.nx + 5))) fun x25 G26 =>
  bP (bd Q q 74 z74 [(0, 0, 4), (1, 4, 1), (2, 5, 1), (3, 6, 1), (8, 11, 1), (12, 15, 1)] [x18, x7, x19, x21, x23, x25]) fun x27 =>
  bS (bx q x27 ((G26.back (G24.back (G22.back (G20.back (G17.room 9))))).at' (G17.nx + 7))) fun x28 G29 =>
  some (x28, (G29.back (G26.back (G24.back (G22.back (G20.back (G17.room 9))))))))
theorem m31 {e : Ex} {E : Ev} (h : ExLe Q e E) (v0 : Value) (G : GS) : Ref (s31 true e v0 G) (s31 false (Ex.of E) v0 G) := by
  unfold s31
  exact Ref.gq
theorem f31 {orc : FuncId → Bool} {e : Ex} (h : ExLe Q e (E orc)) (v0 : Value) (G : GS) : Ref (s31 true e v0 G) ((E orc).cl 31 [v0] G) :=
  fun r hr => cl_sxE_some Q orc (vs := [v0]) G Try.func31 (by kernel_rfl) (by kernel_rfl) (by kernel_rfl) (by kernel_rfl) (by kernel_rfl) (by kernel_rfl) (m31 h v0 G r hr)
/-- coxswain/coxswainkit.Pick -/
noncomputable def s32 (q : Bool) (e : Ex) (v0 v1 : Value) (G : GS) : Option (Value × GS) :=
  bP (bn Q q .leq 3 (.tmp 5) (.const (.int .i64 0)) v1 (.int .i64 0)) fun x0 =>
  ifV x0 (
  some ((.int .i64 0), G)) (
  bP (bn Q q .rem 3 (.tmp 7) (.tmp 8) v0 v1) fun x1 =>
  bP (bn Q q .lss 3 (.tmp 10) (.const (.int .i64 0)) x1 (.int .i64 0)) fun x2 =>
  ifV x2 (
  bP (bn Q q .add 3 (.tmp 12) (.tmp 13) x1 v1) fun x3 =>
  some (x3, G)) (
  some (x1, G)))
theorem m32 {e : Ex} {E : Ev} (h : ExLe Q e E) (v0 v1 : Value) (G : GS) : Ref (s32 true e v0 v1 G) (s32 false (Ex.of E) v0 v1 G) := by
  unfold s32
  exact Ref.gq
theorem f32 {orc : FuncId → Bool} {e : Ex} (h : ExLe Q e (E orc)) (v0 v1 : Value) (G : GS) : Ref (s32 true e v0 v1 G) ((E orc).cl 32 [v0, v1] G) :=
  fun r hr => cl_sxE_some Q orc (vs := [v0, v1]) G Try.func32 (by kernel_rfl) (by kernel_rfl) (by kernel_rfl) (by kernel_rfl) (by kernel_rfl) (by kernel_rfl) (m32 h v0 v1 G r hr)
noncomputable def jbl33_0_0 (q : Bool) (e : Ex) (lp : Env → GS → Option (Exit × Env × GS)) (τ : Env) (G : GS) : Option (Exit × Env × GS) :=
  bV q (τ 0) fun a0_ =>
  bV q (τ 1) fun a1_ =>
  bV q (τ 5) fun a5_ =>
  bV q (τ 6) fun a6_ =>
  bS (e.ev.cl 64 [a0_, a6_] G) fun x6 G7 =>
  bP (un Q q .not x6) fun x8 =>
  ifV x8 (
  some (.ret, xq q 59 τ [(4, (.bool false)), (30, x8), (29, x6), (28, a6_), (27, a0_)] [(0, a0_), (1, a1_), (5, a5_), (6, a6_)], G7)) (
  bP (bn Q q .add 3 (.tmp 13) (.const (.int .i64 1)) a5_ (.int .i64 1)) fun x9 =>
  lp (xq q 59 τ [(5, x9), (14, x9), (13, a5_), (30, x8), (29, x6), (28, a6_), (27, a0_)] [(0, a0_), (1, a1_), (6, a6_)]) G7)
noncomputable def jl33_0_0 (q : Bool) (e : Ex) (lp : Env → GS → Option (Exit × Env × GS)) (τ : Env) (G : GS) : Option (Exit × Env × GS) := jbl33_0_0 q e lp τ G
theorem mjl33_0_0 {e : Ex} {E : Ev} (h : ExLe Q e E) {lp lp' : Env → GS → Option (Exit × Env × GS)} (hlp : LpLe lp lp') (τ : Env) (G : GS) : Ref (jl33_0_0 true e lp τ G) (jl33_0_0 false (Ex.of E) lp' τ G) := by
  unfold jl33_0_0 jbl33_0_0
  exact Ref.gq
theorem mkjl33_0_0 {e : Ex} {E : Ev} (h : ExLe Q e E) {lp lp' : Env → GS → Option (Exit × Env × GS)} (hlp : LpLe lp lp') {τ : Env} {l U : List (Nat × Value)} {G : GS} (hU : UOk τ U) : Ref (jl33_0_0 true e lp (xq true 59 τ l U) G) (jl33_0_0 false (Ex.of E) lp' (xq false 59 τ l U) G) := by
  rw [xq_eq hU]
  exact mjl33_0_0 h hlp _ _
noncomputable def bb33_0 (q : Bool) (e : Ex) (lp : Env → GS → Option (Exit × Env × GS)) (J0 : Env → GS → Option (Exit × Env × GS)) (τ : Env) (G : GS) : Option (Exit × Env × GS) :=
  bV q (τ 0) fun a0_ =>
  bV q (τ 1) fun a1_ =>
  bV q (τ 5) fun a5_ =>
  bV q (τ 6) fun a6_ =>
  bP (ln Q q 38 a1_) fun x0 =>
  bP (bn Q q .lss 3 (.tmp 9) (.tmp 11) a5_ x0) fun x1 =>
  ifV x1 (
  bP (ias Q q 38 1 a1_ a5_) fun x2 =>
  bP (ld Q q 3 x2 G) fun x3 =>
  bS (e.ev.cl 32 [x3, (.int .i64 3)] G) fun x4 G5 =>
  bS (e.ev.cl 62 [a0_, x4] G5) fun x10 G11 =>
  bP (un Q q .not x10) fun x12 =>
  ifV x12 (
  bS (e.ev.cl 63 [a0_, x4] G11) fun x13 G14 =>
  J0 (xq q 59 τ [(26, x13), (25, x4), (24, a0_), (23, x12), (22, x10), (21, x4), (20, a0_), (6, x4), (19, x4), (18, x3), (17, x2), (16, a5_), (15, a1_), (12, x1), (11, x0), (10, a1_), (9, a5_)] [(0, a0_), (1, a1_), (5, a5_)]) G14) (
  J0 (xq q 59 τ [(23, x12), (22, x10), (21, x4), (20, a0_), (6, x4), (19, x4), (18, x3), (17, x2), (16, a5_), (15, a1_), (12, x1), (11, x0), (10, a1_), (9, a5_)] [(0, a0_), (1, a1_), (5, a5_)]) G11)) (
  some ((.exit 0), xq q 59 τ [(12, x1), (11, x0), (10, a1_), (9, a5_)] [(0, a0_), (1, a1_), (5, a5_), (6, a6_)], G))
noncomputable def b33_0 (q : Bool) (e : Ex) (lp : Env → GS → Option (Exit × Env × GS)) (τ : Env) (G : GS) : Option (Exit × Env × GS) := bb33_0 q e lp (jl33_0_0 q e lp) τ G
theorem mb33_0 {e : Ex} {E : Ev} (h : ExLe Q e E) {lp lp' : Env → GS → Option (Exit × Env × GS)} (hlp : LpLe lp lp') (τ : Env) (G : GS) : Ref (b33_0 true e lp τ G) (b33_0 false (Ex.of E) lp' τ G) := by
  unfold b33_0 bb33_0
  repeat' (with_reducible first | exact Ref.rfl' _ | exact ROp.r | refine Ref.bP ?_ fun _ => ?_ | refine Ref.bS ?_ fun _ _ => ?_ | exact Ref.cl (by assumption) | refine Ref.ifV ?_ ?_ | refine LpLe.rx (by assumption) ?_ | refine Ref.xitq ?_ | exact UOk.z | refine UOk.c (by assumption) ?_ | exact Ref.nil _ | refine Ref.bVe fun _ _ => ?_ | refine Ref.bLq (by assumption) ?_ fun _ _ _ => ?_ | refine Ref.ifE ?_ ?_ | refine Ref.chk ?_ ?_ | refine Imp.and ?_ ?_ | refine Imp.or ?_ | exact Imp.rfl' _ | refine Imp.sameO ?_ | refine Ref.gd ?_ | exact Ref.cValue (by assumption) | refine Ref.bX ?_ fun _ _ _ => ?_ | exact Ref.scQ (by assumption) | exact Ref.xRangeQ (by assumption) | exact Ref.cInvoke (by assumption) | refine mkjl33_0_0 (by assumption) (by assumption) ?_)
noncomputable def jtl33_0 (J0 : Env → GS → Option (Exit × Env × GS)) : JT (Exit × Env × GS) :=
  (.n none .e (.n none (.n none (.n none .e (.n (some (fun T G => J0 (nth undef T) G)) .e .e)) .e) .e))
theorem jrl33_0_0 (orc : FuncId → Bool) (J0 : Env → GS → Option (Exit × Env × GS)) (T : List Value) (G : GS) : runC Q (evL Q orc) 59 (jtl33_0 J0) (subAt [1, 0, 1, 0, 0] (bodyOf Try.f33)) (seqXE (fun τ G' => mapE ((E orc).lp (subAt [1, 0, 1, 0, 0] (bodyOf Try.f33)) (lst 59 (nth undef (lst 59 τ))) G')) fun e τ G' => some (e, nth undef (lst 59 τ), G')) [true, false, false, true] (nth undef T) G = jbl33_0_0 false (Ex.of (E orc)) (fun τ G => mapE ((E orc).lp (subAt [1, 0, 1, 0, 0] (bodyOf Try.f33)) (lst 59 τ) G))  (nth undef T) G := by kernel_rfl
theorem jol33_0 (orc : FuncId → Bool) : JOk Q orc 59 (jtl33_0 (jl33_0_0 false (Ex.of (E orc)) (fun τ G => mapE ((E orc).lp (subAt [1, 0, 1, 0, 0] (bodyOf Try.f33)) (lst 59 τ) G))) ) (subAt [1, 0, 1, 0, 0] (bodyOf Try.f33)) (seqXE (fun τ G' => mapE ((E orc).lp (subAt [1, 0, 1, 0, 0] (bodyOf Try.f33)) (lst 59 (nth undef (lst 59 τ))) G')) fun e τ G' => some (e, nth undef (lst 59 τ), G')) :=
  jOk Q orc (l := [([true, false, false, true], (fun T G => jl33_0_0 false (Ex.of (E orc)) (fun τ G => mapE ((E orc).lp (subAt [1, 0, 1, 0, 0] (bodyOf Try.f33)) (lst 59 τ) G)) (nth undef T) G))]) (by kernel_rfl) (AllE.c (fun T G => jrl33_0_0 orc (jl33_0_0 false (Ex.of (E orc)) (fun τ G => mapE ((E orc).lp (subAt [1, 0, 1, 0, 0] (bodyOf Try.f33)) (lst 59 τ) G))) T G) (AllE.z))
theorem jel33_0 (orc : FuncId → Bool) (J0 : Env → GS → Option (Exit × Env × GS)) (T : List Value) (G : GS) : sxC Q (evL Q orc) 59 (jtl33_0 J0) (subAt [1, 0, 1, 0, 0] (bodyOf Try.f33)) (nth undef T) G (seqXE (fun τ G' => mapE ((E orc).lp (subAt [1, 0, 1, 0, 0] (bodyOf Try.f33)) (lst 59 (nth undef (lst 59 τ))) G')) fun e τ G' => some (e, nth undef (lst 59 τ), G')) = bb33_0 false (Ex.of (E orc)) (fun τ G => mapE ((E orc).lp (subAt [1, 0, 1, 0, 0] (bodyOf Try.f33)) (lst 59 τ) G)) J0 (nth undef T) G := by kernel_rfl
theorem l33_0 {orc : FuncId → Bool} {e : Ex} (h : ExLe Q e (E orc)) (lp : Env → GS → Option (Exit × Env × GS)) (hlp : ∀ τ G, Ref (lp τ G) (mapE ((E orc).lp (subAt [1, 0, 1, 0, 0] (bodyOf Try.f33)) (lst 59 τ) G))) (T : List Value) (G : GS) (hT : T.length = 59) : Ref (b33_0 true e lp (nth undef T) G) (mapE ((E orc).lp (subAt [1, 0, 1, 0, 0] (bodyOf Try.f33)) T G)) :=
  fun r hr => lp_sxC Q orc G (jtl33_0 (jl33_0_0 false (Ex.of (E orc)) (fun τ G => mapE ((E orc).lp (subAt [1, 0, 1, 0, 0] (bodyOf Try.f33)) (lst 59 τ) G))) ) hT (jol33_0 orc) (jel33_0 orc (jl33_0_0 false (Ex.of (E orc)) (fun τ G => mapE ((E orc).lp (subAt [1, 0, 1, 0, 0] (bodyOf Try.f33)) (lst 59 τ) G))) T G) (mb33_0 h ⟨hlp⟩ _ _ r hr)
noncomputable def b33_1 (q : Bool) (e : Ex) (lp : Env → GS → Option (Exit × Env × GS)) (τ : Env) (G : GS) : Option (Exit × Env × GS) :=
  bV q (τ 7) fun a7_ =>
  bP (bn Q q .geq 3 (.tmp 31) (.const (.int .i64 0)) a7_ (.int .i64 0)) fun x0 =>
  ifV x0 (
  bLq q e 33 2 (subAt [1, 1, 0, 1, 0, 0, 1, 0, 0, 0, 1, 0, 0] (bodyOf Try.f33)) 59 τ [(8, (.int .i64 0)), (32, x0), (31, a7_)] [] G fun e1 t2 G3 =>
  bV q (t2 0) fun t2x0_ =>
  bV q (t2 7) fun t2x7_ =>
  ifE e1 (.exit 4) (
  bS (e.ev.cl 62 [t2x0_, t2x7_] G3) fun x4 G5 =>
  ifV x4 (
  some (.ret, xq q 59 t2 [(4, (.bool false)), (58, x4), (57, t2x7_), (56, t2x0_)] [(7, t2x7_)], G5)) (
  bP (bn Q q .sub 3 (.tmp 33) (.const (.int .i64 1)) t2x7_ (.int .i64 1)) fun x6 =>
  lp (xq q 59 t2 [(7, x6), (34, x6), (33, t2x7_), (58, x4), (57, t2x7_), (56, t2x0_)] []) G5)) (ifE e1 .ret (
  some (.ret, xq q 59 t2 [] [(7, t2x7_)], G3)) (none))) (
  some ((.exit 2), xq q 59 τ [(32, x0), (31, a7_)] [(7, a7_)], G))
theorem mb33_1 {e : Ex} {E : Ev} (h : ExLe Q e E) {lp lp' : Env → GS → Option (Exit × Env × GS)} (hlp : LpLe lp lp') (τ : Env) (G : GS) : Ref (b33_1 true e lp τ G) (b33_1 false (Ex.of E) lp' τ G) := by
  unfold b33_1
  exact Ref.gq
theorem l33_1 {orc : FuncId → Bool} {e : Ex} (h : ExLe Q e (E orc)) (lp : Env → GS → Option (Exit × Env × GS)) (hlp : ∀ τ G, Ref (lp τ G) (mapE ((E orc).lp (subAt [1, 1, 0, 1, 0, 0] (bodyOf Try.f33)) (lst 59 τ) G))) (T : List Value) (G : GS) (hT : T.length = 59) : Ref (b33_1 true e lp (nth undef T) G) (mapE ((E orc).lp (subAt [1, 1, 0, 1, 0, 0] (bodyOf Try.f33)) T G)) :=
  fun r hr => lp_sxN Q orc G hT (by kernel_rfl) (mb33_1 h ⟨hlp⟩ _ _ r hr)
noncomputable def b33_2 (q : Bool) (e : Ex) (lp : Env → GS → Option (Exit × Env × GS)) (τ : Env) (G : GS) : Option (Exit × Env × GS) :=
  bV q (τ 0) fun a0_ =>
  bV q (τ 7) fun a7_ =>
  bV q (τ 8) fun a8_ =>
  bP (bn Q q .lss 3 (.tmp 35) (.const (.int .i64 9)) a8_ (.int .i64 9)) fun x0 =>
  bS (gd x0 true (some (a0_, G)) G) fun x1 G2 =>
  bS (gd x0 true (some (a7_, G2)) G2) fun x3 G4 =>
  bS (gd x0 true (bS (e.ev.cl 62 [x1, x3] G4) fun y G => some (y, G)) G4) fun x5 G6 =>
  bP (pickV x0 x5 (.bool false)) fun x7 =>
  ifV x7 (
  bP (bn Q q .eql 3 (.tmp 44) (.const (.int .i64 2)) a7_ (.int .i64 2)) fun x8 =>
  bS (gd x8 true (some (a8_, G6)) G6) fun x9 G10 =>
  bS (gd x8 true (bP (bn Q q .eql 3 (.tmp 47) (.const (.int .i64 2)) x9 (.int .i64 2)) fun y => some (y, G10)) G10) fun x11 G12 =>
  bP (pickV x8 x11 (.bool false)) fun x13 =>
  bS (gd x13 false (some (a0_, G12)) G12) fun x14 G15 =>
  bS (gd x13 false (some (a7_, G15)) G15) fun x16 G17 =>
  bS (gd x13 false (bS (e.ev.cl 64 [x14, x16] G17) fun y G => some (y, G)) G17) fun x18 G19 =>
  bS (gd x13 false (bP (un Q q .not x18) fun y => some (y, G19)) G19) fun x20 G21 =>
  bP (pickV x13 (.bool true) x20) fun x22 =>
  ifV x22 (
  some (.ret, xq q 59 τ [(4, (.bool false)), (55, x22), (54, x20), (53, x18), (52, x16), (51, x14), (50, x13), (49, x13), (48, x11), (47, x9), (46, x8), (45, x8), (44, a7_), (41, x7), (40, x5), (39, x3), (38, x1), (37, x0), (36, x0), (35, a8_)] [(0, a0_), (7, a7_), (8, a8_)], G21)) (
  bP (bn Q q .add 3 (.tmp 42) (.const (.int .i64 1)) a8_ (.int .i64 1)) fun x23 =>
  lp (xq q 59 τ [(8, x23), (43, x23), (42, a8_), (55, x22), (54, x20), (53, x18), (52, x16), (51, x14), (50, x13), (49, x13), (48, x11), (47, x9), (46, x8), (45, x8), (44, a7_), (41, x7), (40, x5), (39, x3), (38, x1), (37, x0), (36, x0), (35, a8_)] [(0, a0_), (7, a7_)]) G21)) (
  some ((.exit 4), xq q 59 τ [(41, x7), (40, x5), (39, x3), (38, x1), (37, x0), (36, x0), (35, a8_)] [(0, a0_), (7, a7_), (8, a8_)], G6))
theorem mb33_2 {e : Ex} {E : Ev} (h : ExLe Q e E) {lp lp' : Env → GS → Option (Exit × Env × GS)} (hlp : LpLe lp lp') (τ : Env) (G : GS) : Ref (b33_2 true e lp τ G) (b33_2 false (Ex.of E) lp' τ G) := by
  unfold b33_2
  exact Ref.gq
theorem l33_2 {orc : FuncId → Bool} {e : Ex} (h : ExLe Q e (E orc)) (lp : Env → GS → Option (Exit × Env × GS)) (hlp : ∀ τ G, Ref (lp τ G) (mapE ((E orc).lp (subAt [1, 1, 0, 1, 0, 0, 1, 0, 0, 0, 1, 0, 0] (bodyOf Try.f33)) (lst 59 τ) G))) (T : List Value) (G : GS) (hT : T.length = 59) : Ref (b33_2 true e lp (nth undef T) G) (mapE ((E orc).lp (subAt [1, 1, 0, 1, 0, 0, 1, 0, 0, 0, 1, 0, 0] (bodyOf Try.f33)) T G)) :=
  fun r hr => lp_sxN Q orc G hT (by kernel_rfl) (mb33_2 h ⟨hlp⟩ _ _ r hr)
/-- (*coxswain/coxswainlaw14.crew).plays -/
noncomputable def s33 (q : Bool) (e : Ex) (v0 v1 : Value) (G : GS) : Option (Value × GS) :=
  bLq q e 33 0 (subAt [1, 0, 1, 0, 0] (bodyOf Try.f33)) 59 (nth undef [v0, v1]) [(5, (.int .i64 0)), (4, (.bool false))] [] G fun e0 t1 G2 =>
  bV q (t1 4) fun t1x4_ =>
  ifE e0 (.exit 0) (
  bLq q e 33 1 (subAt [1, 1, 0, 1, 0, 0] (bodyOf Try.f33)) 59 t1 [(7, (.int .i64 2))] [] G2 fun e3 t4 G5 =>
  bV q (t4 4) fun t4x4_ =>
  ifE e3 (.exit 2) (
  some ((.bool true), G5)) (ifE e3 .ret (
  some (t4x4_, G5)) (none))) (ifE e0 .ret (
  some (t1x4_, G2)) (none))
theorem m33 {e : Ex} {E : Ev} (h : ExLe Q e E) (v0 v1 : Value) (G : GS) : Ref (s33 true e v0 v1 G) (s33 false (Ex.of E) v0 v1 G) := by
  unfold s33
  exact Ref.gq
theorem f33 {orc : FuncId → Bool} {e : Ex} (h : ExLe Q e (E orc)) (v0 v1 : Value) (G : GS) : Ref (s33 true e v0 v1 G) ((E orc).cl 33 [v0, v1] G) :=
  fun r hr => cl_sxE_some Q orc (vs := [v0, v1]) G Try.func33 (by kernel_rfl) (by kernel_rfl) (by kernel_rfl) (by kernel_rfl) (by kernel_rfl) (by kernel_rfl) (m33 h v0 v1 G r hr)
/-- coxswain/coxswainref14.Fits -/
noncomputable def s34 (q : Bool) (e : Ex) (v0 v1 : Value) (G : GS) : Option (Value × GS) :=
  bS (bx q v0 G) fun x0 G1 =>
  bP (bn Q q .lss 3 (.tmp 5) (.const (.int .i64 1)) v1 (.int .i64 1)) fun x2 =>
  bS (gd x2 false (some (v1, G1)) G1) fun x3 G4 =>
  bS (gd x2 false (bP (bn Q q .gtr 3 (.tmp 8) (.const (.int .i64 4096)) x3 (.int .i64 4096)) fun y => some (y, G4)) G4) fun x5 G6 =>
  bP (pickV x2 (.bool true) x5) fun x7 =>
  ifV x7 (
  some ((.int .i64 3), G6)) (
  bP (fa Q q 28 3 3 x0) fun x8 =>
  bP (ld Q q 3 x8 G6) fun x9 =>
  bS (e.ev.cl 65 [x9] G6) fun x10 G11 =>
  bP (un Q q .not x10) fun x12 =>
  bS (gd x12 false (bP (fa Q q 28 0 0 x0) fun y => some (y, G11)) G11) fun x13 G14 =>
  bS (gd x12 false (bP (ld Q q 3 x13 G14) fun y => some (y, G14)) G14) fun x15 G16 =>
  bS (gd x12 false (bP (bn Q q .lss 3 (.tmp 17) (.const (.int .i64 0)) x15 (.int .i64 0)) fun y => some (y, G16)) G16) fun x17 G18 =>
  bP (pickV x12 (.bool true) x17) fun x19 =>
  bS (gd x19 false (bP (fa Q q 28 0 0 x0) fun y => some (y, G18)) G18) fun x20 G21 =>
  bS (gd x19 false (bP (ld Q q 3 x20 G21) fun y => some (y, G21)) G21) fun x22 G23 =>
  bS (gd x19 false (some (v1, G23)) G23) fun x24 G25 =>
  bS (gd x19 false (bP (bn Q q .geq 3 (.tmp 22) (.tmp 23) x22 x24) fun y => some (y, G25)) G25) fun x26 G27 =>
  bP (pickV x19 (.bool true) x26) fun x28 =>
  bS (gd x28 false (bP (fa Q q 28 1 1 x0) fun y => some (y, G27)) G27) fun x29 G30 =>
  bS (gd x28 false (bP (ld Q q 3 x29 G30) fun y => some (y, G30)) G30) fun x31 G32 =>
  bS (gd x28 false (bP (bn Q q .lss 3 (.tmp 28) (.const (.int .i64 0)) x31 (.int .i64 0)) fun y => some (y, G32)) G32) fun x33 G34 =>
  bP (pickV x28 (.bool true) x33) fun x35 =>
  bS (gd x35 false (bP (fa Q q 28 1 1 x0) fun y => some (y, G34)) G34) fun x36 G37 =>
  bS (gd x35 false (bP (ld Q q 3 x36 G37) fun y => some (y, G37)) G37) fun x38 G39 =>
  bS (gd x35 false (some (v1, G39)) G39) fun x40 G41 =>
  bS (gd x35 false (bP (bn Q q .geq 3 (.tmp 33) (.tmp 34) x38 x40) fun y => some (y, G41)) G41) fun x42 G43 =>
  bP (pickV x35 (.bool true) x42) fun x44 =>
  bS (gd x44 false (bP (fa Q q 28 2 2 x0) fun y => some (y, G43)) G43) fun x45 G46 =>
  bS (gd x44 false (bP (ld Q q 3 x45 G46) fun y => some (y, G46)) G46) fun x47 G48 =>
  bS (gd x44 false (bP (bn Q q .lss 3 (.tmp 39) (.const (.int .i64 0)) x47 (.int .i64 0)) fun y => some (y, G48)) G48) fun x49 G50 =>
  bP (pickV x44 (.bool true) x49) fun x51 =>
  bS (gd x51 false (bP (fa Q q 28 2 2 x0) fun y => some (y, G50)) G50) fun x52 G53 =>
  bS (gd x51 false (bP (ld Q q 3 x52 G53) fun y => some (y, G53)) G53) fun x54 G55 =>
  bS (gd x51 false (some (v1, G55)) G55) fun x56 G57 =>
  bS (gd x51 false (bP (fa Q q 28 3 3 x0) fun y => some (y, G57)) G57) fun x58 G59 =>
  bS (gd x51 false (bP (ld Q q 3 x58 G59) fun y => some (y, G59)) G59) fun x60 G61 =>
  bS (gd x51 false (bP (bn Q q .sub 3 (.tmp 45) (.tmp 47) x56 x60) fun y => some (y, G61)) G61) fun x62 G63 =>
  bS (gd x51 false (bP (bn Q q .gtr 3 (.tmp 44) (.tmp 48) x54 x62) fun y => some (y, G63)) G63) fun x64 G65 =>
  bP (pickV x51 (.bool true) x64) fun x66 =>
  bS (gd x66 false (bP (fa Q q 28 0 0 x0) fun y => some (y, G65)) G65) fun x67 G68 =>
  bS (gd x66 false (bP (ld Q q 3 x67 G68) fun y => some (y, G68)) G68) fun x69 G70 =>
  bS (gd x66 false (bP (fa Q q 28 1 1 x0) fun y => some (y, G70)) G70) fun x71 G72 =>
  bS (gd x66 false (bP (ld Q q 3 x71 G72) fun y => some (y, G72)) G72) fun x73 G74 =>
  bS (gd x66 false (bP (bn Q q .eql 3 (.tmp 53) (.tmp 55) x69 x73) fun y => some (y, G74)) G74) fun x75 G76 =>
  bP (pickV x66 (.bool true) x75) fun x77 =>
  ifV x77 (
  some ((.int .i64 2), G76)) (
  bP (fa Q q 28 0 0 x0) fun x78 =>
  bP (ld Q q 3 x78 G76) fun x79 =>
  bP (fa Q q 28 2 2 x0) fun x80 =>
  bP (ld Q q 3 x80 G76) fun x81 =>
  bP (bn Q q .geq 3 (.tmp 59) (.tmp 61) x79 x81) fun x82 =>
  bS (gd x82 true (bP (fa Q q 28 0 0 x0) fun y => some (y, G76)) G76) fun x83 G84 =>
  bS (gd x82 true (bP (ld Q q 3 x83 G84) fun y => some (y, G84)) G84) fun x85 G86 =>
  bS (gd x82 true (bP (fa Q q 28 2 2 x0) fun y => some (y, G86)) G86) fun x87 G88 =>
  bS (gd x82 true (bP (ld Q q 3 x87 G88) fun y => some (y, G88)) G88) fun x89 G90 =>
  bS (gd x82 true (bP (fa Q q 28 3 3 x0) fun y => some (y, G90)) G90) fun x91 G92 =>
  bS (gd x82 true (bP (ld Q q 3 x91 G92) fun y => some (y, G92)) G92) fun x93 G94 =>
  bS (gd x82 true (bP (bn Q q .add 3 (.tmp 67) (.tmp 69) x89 x93) fun y => some (y, G94)) G94) fun x95 G96 =>
  bS (gd x82 true (bP (bn Q q .lss 3 (.tmp 65) (.tmp 70) x85 x95) fun y => some (y, G96)) G96) fun x97 G98 =>
  bP (pickV x82 x97 (.bool false)) fun x99 =>
  bS (gd x99 false (bP (fa Q q 28 1 1 x0) fun y => some (y, G98)) G98) fun x100 G101 =>
  bS (gd x99 false (bP (ld Q q 3 x100 G101) fun y => some (y, G101)) G101) fun x102 G103 =>
  bS (gd x99 false (bP (fa Q q 28 2 2 x0) fun y => some (y, G103)) G103) fun x104 G105 =>
  bS (gd x99 false (bP (ld Q q 3 x104 G105) fun y => some (y, G105)) G105) fun x106 G107 =>
  bS (gd x99 false (bP (bn Q q .geq 3 (.tmp 75) (.tmp 77) x102 x106) fun y => some (y, G107)) G107) fun x108 G109 =>
  bS (gd x99 false (some (x108, G109)) G109) fun x110 G111 =>
  bS (gd x110 true (bP (fa Q q 28 1 1 x0) fun y => some (y, G111)) G111) fun x112 G113 =>
  bS (gd x110 true (bP (ld Q q 3 x112 G113) fun y => some (y, G113)) G113) fun x114 G115 =>
  bS (gd x110 true (bP (fa Q q 28 2 2 x0) fun y => some (y, G115)) G115) fun x116 G117 =>
  bS (gd x110 true (bP (ld Q q 3 x116 G117) fun y => some (y, G117)) G117) fun x118 G119 =>
  bS (gd x110 true (bP (fa Q q 28 3 3 x0) fun y => some (y, G119)) G119) fun x120 G121 =>
  bS (gd x110 true (bP (ld Q q 3 x120 G121) fun y => some (y, G121)) G121) fun x122 G123 =>
  bS (gd x110 true (bP (bn Q q .add 3 (.tmp 83) (.tmp 85) x118 x122) fun y => some (y, G123)) G123) fun x124 G125 =>
  bS (gd x110 true (bP (bn Q q .lss 3 (.tmp 81) (.tmp 86) x114 x124) fun y => some (y, G125)) G125) fun x126 G127 =>
  bS (gd x99 false (bP (pickV x110 x126 (.bool false)) fun y => some (y, G127)) G127) fun x128 G129 =>
  bP (pickV x99 (.bool true) x128) fun x130 =>
  ifV x130 (
  some ((.int .i64 2), G129)) (
  some ((.int .i64 0), G129))))
theorem m34 {e : Ex} {E : Ev} (h : ExLe Q e E) (v0 v1 : Value) (G : GS) : Ref (s34 true e v0 v1 G) (s34 false (Ex.of E) v0 v1 G) := by
  unfold s34
  exact Ref.gq
theorem f34 {orc : FuncId → Bool} {e : Ex} (h : ExLe Q e (E orc)) (v0 v1 : Value) (G : GS) : Ref (s34 true e v0 v1 G) ((E orc).cl 34 [v0, v1] G) :=
  fun r hr => cl_sxE_some Q orc (vs := [v0, v1]) G Try.func34 (by kernel_rfl) (by kernel_rfl) (by kernel_rfl) (by kernel_rfl) (by kernel_rfl) (by kernel_rfl) (m34 h v0 v1 G r hr)
noncomputable def b35_0 (q : Bool) (e : Ex) (lp : Env → GS → Option (Exit × Env × GS)) (τ : Env) (G : GS) : Option (Exit × Env × GS) :=
  bV q (τ 2) fun a2_ =>
  bV q (τ 8) fun a8_ =>
  bV q (τ 10) fun a10_ =>
  bV q (τ 12) fun a12_ =>
  bP (ln Q q 76 a2_) fun x0 =>
  bP (bn Q q .lss 3 (.tmp 39) (.tmp 41) a12_ x0) fun x1 =>
  ifV x1 (
  bP (ias Q q 76 1 a2_ a12_) fun x2 =>
  bP (ld Q q 31 x2 G) fun x3 =>
  bS (e.ev.cl 61 [a8_, a12_, x3] G) fun x4 G5 =>
  bP (ias Q q 76 1 a2_ a12_) fun x6 =>
  bP (ld Q q 31 x6 G5) fun x7 =>
  bS (e.ev.cl 68 [a10_, a12_, x7] G5) fun x8 G9 =>
  bP (bn Q q .add 3 (.tmp 43) (.const (.int .i64 1)) a12_ (.int .i64 1)) fun x10 =>
  lp (xq q 61 τ [(12, x10), (44, x10), (43, a12_), (58, x8), (57, x7), (56, x6), (55, a12_), (54, a2_), (53, a12_), (52, a10_), (51, x4), (50, x3), (49, x2), (48, a12_), (47, a2_), (46, a12_), (45, a8_), (42, x1), (41, x0), (40, a2_), (39, a12_)] [(2, a2_), (8, a8_), (10, a10_)]) G9) (
  some ((.exit 0), xq q 61 τ [(42, x1), (41, x0), (40, a2_), (39, a12_)] [(2, a2_), (8, a8_), (10, a10_), (12, a12_)], G))
theorem mb35_0 {e : Ex} {E : Ev} (h : ExLe Q e E) {lp lp' : Env → GS → Option (Exit × Env × GS)} (hlp : LpLe lp lp') (τ : Env) (G : GS) : Ref (b35_0 true e lp τ G) (b35_0 false (Ex.of E) lp' τ G) := by
  unfold b35_0
  exact Ref.gq
theorem l35_0 {orc : FuncId → Bool} {e : Ex} (h : ExLe Q e (E orc)) (lp : Env → GS → Option (Exit × Env × GS)) (hlp : ∀ τ G, Ref (lp τ G) (mapE ((E orc).lp (subAt [1, 1, 1, 1, 1, 1, 0, 1, 0, 0] (bodyOf Try.f35)) (lst 61 τ) G))) (T : List Value) (G : GS) (hT : T.length = 61) : Ref (b35_0 true e lp (nth undef T) G) (mapE ((E orc).lp (subAt [1, 1, 1, 1, 1, 1, 0, 1, 0, 0] (bodyOf Try.f35)) T G)) :=
  fun r hr => lp_sxN Q orc G hT (by kernel_rfl) (mb35_0 h ⟨hlp⟩ _ _ r hr)
/-- coxswain/coxswainlaw14.laid -/
noncomputable def s35 (q : Bool) (e : Ex) (v0 v1 v2 : Value) (G : GS) : Option (Value × GS) :=
  bS (bx q v0 G) fun x0 G1 =>
  bS (e.ev.cl 23 [v1] G1) fun x2 G3 =>
  bP (pExtract x2 0) fun x4 =>
  bP (pExtract x2 1) fun x5 =>
  bS (e.ev.cl 66 [v1] G3) fun x6 G7 =>
  bP (pExtract x6 0) fun x8 =>
  bP (pExtract x6 1) fun x9 =>
  bP (bn Q q .neq 30 (.tmp 23) (.const (.int .i64 0)) x5 (.int .i64 0)) fun x10 =>
  bS (gd x10 false (some (x9, G7)) G7) fun x11 G12 =>
  bS (gd x10 false (bP (bn Q q .neq 30 (.tmp 26) (.const (.int .i64 0)) x11 (.int .i64 0)) fun y => some (y, G12)) G12) fun x13 G14 =>
  bP (pickV x10 (.bool true) x13) fun x15 =>
  bS (gd x15 false (some (x4, G14)) G14) fun x16 G17 =>
  bS (gd x15 false (bP (ep Q q false 22 (.tmp 30) (.const (.pointer none)) x16 (.pointer none)) fun y => some (y, G17)) G17) fun x18 G19 =>
  bP (pickV x15 (.bool true) x18) fun x20 =>
  ifV x20 (
  some (.tuple #[(.pointer none), (.pointer none)], G19)) (
  bP (lda Q q 28 4 x0 G19) fun x21 =>
  bS (e.ev.cl 29 [x21, x4] G19) fun x22 G23 =>
  bP (lda Q q 28 4 x0 G23) fun x24 =>
  bS (e.ev.cl 67 [x24, x8] G23) fun x25 G26 =>
  bLq q e 35 0 (subAt [1, 1, 1, 1, 1, 1, 0, 1, 0, 0] (bodyOf Try.f35)) 61 (nth undef [v0, v1, v2]) [(12, (.int .i64 0)), (38, x25), (37, x8), (36, x24), (35, x22), (34, x4), (33, x21), (32, x20), (31, x18), (30, x16), (29, x15), (28, x15), (27, x13), (26, x11), (25, x10), (24, x10), (23, x5), (11, x9), (10, x8), (22, x9), (21, x8), (18, x6), (20, x6), (19, v1), (9, x5), (8, x4), (17, x5), (16, x4), (13, x2), (15, x2), (14, v1), (7, (.pointer none)), (6, (.pointer none)), (3, x0)] [] G26 fun e27 t28 G29 =>
  bV q (t28 8) fun t28x8_ =>
  bV q (t28 10) fun t28x10_ =>
  ifE e27 (.exit 0) (
  some (.tuple #[t28x8_, t28x10_], G29)) (none))
theorem m35 {e : Ex} {E : Ev} (h : ExLe Q e E) (v0 v1 v2 : Value) (G : GS) : Ref (s35 true e v0 v1 v2 G) (s35 false (Ex.of E) v0 v1 v2 G) := by
  unfold s35
  exact Ref.gq
theorem f35 {orc : FuncId → Bool} {e : Ex} (h : ExLe Q e (E orc)) (v0 v1 v2 : Value) (G : GS) : Ref (s35 true e v0 v1 v2 G) ((E orc).cl 35 [v0, v1, v2] G) :=
  fun r hr => cl_sxE_some Q orc (vs := [v0, v1, v2]) G Try.func35 (by kernel_rfl) (by kernel_rfl) (by kernel_rfl) (by kernel_rfl) (by kernel_rfl) (by kernel_rfl) (m35 h v0 v1 v2 G r hr)
/-- coxswain/coxswainlaw14.begin -/
noncomputable def s36 (q : Bool) (e : Ex) (v0 v1 : Value) (G : GS) : Option (Value × GS) :=
  bS (bx q v0 G) fun x0 G1 =>
  bS (bx q v1 G1) fun x2 G3 =>
  bS (al Q q 88 z88 G3) fun x4 G5 =>
  bP (fa Q q 83 1 1 x2) fun x6 =>
  bP (ld Q q 3 x6 G5) fun x7 =>
  bP (bn Q q .eql 3 (.tmp 6) (.const (.int .i64 1)) x7 (.int .i64 1)) fun x8 =>
  ifV x8 (
  bP (lda Q q 28 4 x0 (G5.room 10)) fun x9 =>
  bP (fa Q q 83 2 2 x2) fun x10 =>
  bP (ld Q q 3 x10 (G5.room 10)) fun x11 =>
  bS (e.ev.cl 9 [x9, x11] (G5.room 10)) fun x13 G12 =>
  bP (lda Q q 28 4 x0 G12) fun x14 =>
  chk ((sameO (lda Q q 28 4 x0 (G5.room 10)) x14 && true)) <|
  bP (fa Q q 83 2 2 x2) fun x15 =>
  bP (ld Q q 3 x15 G12) fun x16 =>
  chk ((sameO (ld Q q 3 x15 (G5.room 10)) x16 && true)) <|
  bS (e.ev.cl 69 [x14, x16] G12) fun x18 G17 =>
  bP (bd Q q 88 z88 [(0, 0, 1), (1, 1, 1)] [x13, x18]) fun x19 =>
  bP (st Q q 88 6 x4 x19 G17) fun G20 =>
  bP (lda Q q 88 6 x4 G20) fun x21 =>
  some (x21, G20)) (
  bP (bn Q q .eql 3 (.tmp 6) (.const (.int .i64 2)) x7 (.int .i64 2)) fun x22 =>
  ifV x22 (
  bP (lda Q q 28 4 x0 (G5.room 6)) fun x23 =>
  bS (e.ev.cl 19 [x23] (G5.room 6)) fun x25 G24 =>
  bP (lda Q q 28 4 x0 G24) fun x26 =>
  chk ((sameO (lda Q q 28 4 x0 (G5.room 6)) x26 && true)) <|
  bS (e.ev.cl 70 [x26] G24) fun x28 G27 =>
  bP (bd Q q 88 z88 [(2, 2, 1), (3, 3, 1)] [x25, x28]) fun x29 =>
  bP (st Q q 88 6 x4 x29 G27) fun G30 =>
  bP (lda Q q 88 6 x4 G30) fun x31 =>
  some (x31, G30)) (
  bP (lda Q q 28 4 x0 (G5.room 10)) fun x32 =>
  bP (fa Q q 83 3 3 x2) fun x33 =>
  bP (ld Q q 31 x33 (G5.room 10)) fun x34 =>
  bS (e.ev.cl 28 [x32, x34] (G5.room 10)) fun x36 G35 =>
  bP (lda Q q 28 4 x0 G35) fun x37 =>
  chk ((sameO (lda Q q 28 4 x0 (G5.room 10)) x37 && true)) <|
  bP (fa Q q 83 3 3 x2) fun x38 =>
  bP (ld Q q 31 x38 G35) fun x39 =>
  chk ((sameO (ld Q q 31 x38 (G5.room 10)) x39 && true)) <|
  bS (e.ev.cl 71 [x37, x39] G35) fun x41 G40 =>
  bP (bd Q q 88 z88 [(4, 4, 1), (5, 5, 1)] [x36, x41]) fun x42 =>
  bP (st Q q 88 6 x4 x42 G40) fun G43 =>
  bP (lda Q q 88 6 x4 G43) fun x44 =>
  some (x44, G43)))
theorem m36 {e : Ex} {E : Ev} (h : ExLe Q e E) (v0 v1 : Value) (G : GS) : Ref (s36 true e v0 v1 G) (s36 false (Ex.of E) v0 v1 G) := by
  unfold s36
  exact Ref.gq
theorem f36 {orc : FuncId → Bool} {e : Ex} (h : ExLe Q e (E orc)) (v0 v1 : Value) (G : GS) : Ref (s36 true e v0 v1 G) ((E orc).cl 36 [v0, v1] G) :=
  fun r hr => cl_sxE_some Q orc (vs := [v0, v1]) G Try.func36 (by kernel_rfl) (by kernel_rfl) (by kernel_rfl) (by kernel_rfl) (by kernel_rfl) (by kernel_rfl) (m36 h v0 v1 G r hr)
/-- (coxswain/coxswainlaw14.both).told -/
noncomputable def s37 (q : Bool) (e : Ex) (v0 v1 v2 v3 : Value) (G : GS) : Option (Value × GS) :=
  bS (bx q v0 G) fun x0 G1 =>
  bP (fa Q q 88 1 1 x0) fun x2 =>
  bP (ld Q q 84 x2 G1) fun x3 =>
  bP (ep Q q true 84 (.tmp 18) (.const (.pointer none)) x3 (.pointer none)) fun x4 =>
  ifV x4 (
  bP (un Q q .not v3) fun x5 =>
  bS (gd x5 false (bP (fa Q q 88 0 0 x0) fun y => some (y, (G1.room 14))) (G1.room 14)) fun x6 _ =>
  bS (gd x5 false (bP (ld Q q 25 x6 (G1.room 14)) fun y => some (y, (G1.room 14))) (G1.room 14)) fun x7 _ =>
  bS (gd x5 false (some (v1, (G1.room 14))) (G1.room 14)) fun x8 _ =>
  bS (gd x5 false (bS (e.ev.cl 15 [x7, x8] (G1.room 14)) fun y G => some (y, G)) (G1.room 14)) fun x10 G9 =>
  bS (gd x5 false (bP (fa Q q 88 1 1 x0) fun y => some (y, G9)) G9) fun x11 _ =>
  bS (gd x5 false (bP (ld Q q 84 x11 G9) fun y => some (y, G9)) G9) fun x12 _ =>
  chk (((!(gB x5 false) || (!(gB x5 false) || sameO (ld Q q 84 x11 (G1.room 14)) x12)) && true)) <|
  bS (gd x5 false (some (v2, G9)) G9) fun x13 _ =>
  bS (gd x5 false (bS (e.ev.cl 72 [x12, x13] G9) fun y G => some (y, G)) G9) fun x15 G14 =>
  bS (gd x5 false (bP (eb Q q false 4 (.tmp 26) (.tmp 30) x10 x15) fun y => some (y, G14)) G14) fun x16 _ =>
  bP (pickV x5 (.bool true) x16) fun x17 =>
  bS (gd x17 true (bP (fa Q q 88 0 0 x0) fun y => some (y, (G14.room 11))) (G14.room 11)) fun x18 _ =>
  bS (gd x17 true (bP (ld Q q 25 x18 (G14.room 11)) fun y => some (y, (G14.room 11))) (G14.room 11)) fun x19 _ =>
  bS (gd x17 true (bS (e.ev.cl 16 [x19] (G14.room 11)) fun y G => some (y, G)) (G14.room 11)) fun x21 G20 =>
  bS (gd x17 true (bP (fa Q q 88 1 1 x0) fun y => some (y, G20)) G20) fun x22 _ =>
  bS (gd x17 true (bP (ld Q q 84 x22 G20) fun y => some (y, G20)) G20) fun x23 _ =>
  chk (((!(gB x17 true) || (!(gB x17 true) || sameO (ld Q q 84 x22 (G14.room 11)) x23)) && true)) <|
  bS (gd x17 true (bS (e.ev.cl 73 [x23] G20) fun y G => some (y, G)) G20) fun x25 G24 =>
  bS (gd x17 true (bP (bn Q q .eql 30 (.tmp 37) (.tmp 40) x21 x25) fun y => some (y, G24)) G24) fun x26 _ =>
  bP (pickV x17 x26 (.bool false)) fun x27 =>
  some (x27, G24)) (
  bP (fa Q q 88 3 3 x0) fun x28 =>
  bP (ld Q q 85 x28 G1) fun x29 =>
  bP (ep Q q true 85 (.tmp 45) (.const (.pointer none)) x29 (.pointer none)) fun x30 =>
  ifV x30 (
  bP (un Q q .not v3) fun x31 =>
  bS (gd x31 false (bP (fa Q q 88 2 2 x0) fun y => some (y, (G1.room 14))) (G1.room 14)) fun x32 _ =>
  bS (gd x31 false (bP (ld Q q 41 x32 (G1.room 14)) fun y => some (y, (G1.room 14))) (G1.room 14)) fun x33 _ =>
  bS (gd x31 false (some (v1, (G1.room 14))) (G1.room 14)) fun x34 _ =>
  bS (gd x31 false (bS (e.ev.cl 24 [x33, x34] (G1.room 14)) fun y G => some (y, G)) (G1.room 14)) fun x36 G35 =>
  bS (gd x31 false (bP (fa Q q 88 3 3 x0) fun y => some (y, G35)) G35) fun x37 _ =>
  bS (gd x31 false (bP (ld Q q 85 x37 G35) fun y => some (y, G35)) G35) fun x38 _ =>
  chk (((!(gB x31 false) || (!(gB x31 false) || sameO (ld Q q 85 x37 (G1.room 14)) x38)) && true)) <|
  bS (gd x31 false (some (v2, G35)) G35) fun x39 _ =>
  bS (gd x31 false (bS (e.ev.cl 74 [x38, x39] G35) fun y G => some (y, G)) G35) fun x41 G40 =>
  bS (gd x31 false (bP (eb Q q false 4 (.tmp 53) (.tmp 57) x36 x41) fun y => some (y, G40)) G40) fun x42 _ =>
  bP (pickV x31 (.bool true) x42) fun x43 =>
  bP (fa Q q 88 2 2 x0) fun x44 =>
  bP (ld Q q 41 x44 G40) fun x45 =>
  bS (e.ev.cl 20 [x45] G40) fun x46 G47 =>
  bP (pExtract x46 0) fun x48 =>
  bP (pExtract x46 1) fun x49 =>
  bP (fa Q q 88 3 3 x0) fun x50 =>
  bP (ld Q q 85 x50 G47) fun x51 =>
  bS (e.ev.cl 75 [x51] G47) fun x52 G53 =>
  bP (pExtract x52 0) fun x54 =>
  bP (pExtract x52 1) fun x55 =>
  bS (gd x43 true (some (x48, (G53.room 21))) (G53.room 21)) fun x56 _ =>
  bS (gd x43 true (some (x54, (G53.room 21))) (G53.room 21)) fun x57 _ =>
  bS (gd x43 true (bP (bn Q q .eql 3 (.tmp 74) (.tmp 75) x56 x57) fun y => some (y, (G53.room 21))) (G53.room 21)) fun x58 _ =>
  bP (pickV x43 x58 (.bool false)) fun x59 =>
  bS (gd x59 true (some (x49, (G53.room 21))) (G53.room 21)) fun x60 _ =>
  bS (gd x59 true (some (x55, (G53.room 21))) (G53.room 21)) fun x61 _ =>
  bS (gd x59 true (bP (bn Q q .eql 30 (.tmp 79) (.tmp 80) x60 x61) fun y => some (y, (G53.room 21))) (G53.room 21)) fun x62 _ =>
  bP (pickV x59 x62 (.bool false)) fun x63 =>
  bS (gd x63 true (bP (fa Q q 88 2 2 x0) fun y => some (y, (G53.room 21))) (G53.room 21)) fun x64 _ =>
  bS (gd x63 true (bP (ld Q q 41 x64 (G53.room 21)) fun y => some (y, (G53.room 21))) (G53.room 21)) fun x65 _ =>
  bS (gd x63 true (bS (e.ev.cl 26 [x65] (G53.room 21)) fun y G => some (y, G)) (G53.room 21)) fun x67 G66 =>
  bS (gd x63 true (bP (fa Q q 88 3 3 x0) fun y => some (y, G66)) G66) fun x68 _ =>
  bS (gd x63 true (bP (ld Q q 85 x68 G66) fun y => some (y, G66)) G66) fun x69 _ =>
  chk (((!(gB x63 true) || (!(gB x63 true) || sameO (ld Q q 85 x68 (G53.room 21)) x69)) && true)) <|
  bS (gd x63 true (bS (e.ev.cl 76 [x69] G66) fun y G => some (y, G)) G66) fun x71 G70 =>
  bS (gd x63 true (bP (bn Q q .eql 31 (.tmp 86) (.tmp 89) x67 x71) fun y => some (y, G70)) G70) fun x72 _ =>
  bP (pickV x63 x72 (.bool false)) fun x73 =>
  some (x73, G70)) (
  bP (fa Q q 88 5 5 x0) fun x74 =>
  bP (ld Q q 86 x74 G1) fun x75 =>
  bP (ep Q q true 86 (.tmp 94) (.const (.pointer none)) x75 (.pointer none)) fun x76 =>
  ifV x76 (
  bP (un Q q .not v3) fun x77 =>
  bS (gd x77 false (bP (fa Q q 88 4 4 x0) fun y => some (y, (G1.room 14))) (G1.room 14)) fun x78 _ =>
  bS (gd x77 false (bP (ld Q q 58 x78 (G1.room 14)) fun y => some (y, (G1.room 14))) (G1.room 14)) fun x79 _ =>
  bS (gd x77 false (some (v1, (G1.room 14))) (G1.room 14)) fun x80 _ =>
  bS (gd x77 false (bS (e.ev.cl 25 [x79, x80] (G1.room 14)) fun y G => some (y, G)) (G1.room 14)) fun x82 G81 =>
  bS (gd x77 false (bP (fa Q q 88 5 5 x0) fun y => some (y, G81)) G81) fun x83 _ =>
  bS (gd x77 false (bP (ld Q q 86 x83 G81) fun y => some (y, G81)) G81) fun x84 _ =>
  chk (((!(gB x77 false) || (!(gB x77 false) || sameO (ld Q q 86 x83 (G1.room 14)) x84)) && true)) <|
  bS (gd x77 false (some (v2, G81)) G81) fun x85 _ =>
  bS (gd x77 false (bS (e.ev.cl 77 [x84, x85] G81) fun y G => some (y, G)) G81) fun x87 G86 =>
  bS (gd x77 false (bP (eb Q q false 4 (.tmp 102) (.tmp 106) x82 x87) fun y => some (y, G86)) G86) fun x88 _ =>
  bP (pickV x77 (.bool true) x88) fun x89 =>
  bS (gd x89 true (bP (fa Q q 88 4 4 x0) fun y => some (y, (G86.room 11))) (G86.room 11)) fun x90 _ =>
  bS (gd x89 true (bP (ld Q q 58 x90 (G86.room 11)) fun y => some (y, (G86.room 11))) (G86.room 11)) fun x91 _ =>
  bS (gd x89 true (bS (e.ev.cl 27 [x91] (G86.room 11)) fun y G => some (y, G)) (G86.room 11)) fun x93 G92 =>
  bS (gd x89 true (bP (fa Q q 88 5 5 x0) fun y => some (y, G92)) G92) fun x94 _ =>
  bS (gd x89 true (bP (ld Q q 86 x94 G92) fun y => some (y, G92)) G92) fun x95 _ =>
  chk (((!(gB x89 true) || (!(gB x89 true) || sameO (ld Q q 86 x94 (G86.room 11)) x95)) && true)) <|
  bS (gd x89 true (bS (e.ev.cl 78 [x95] G92) fun y G => some (y, G)) G92) fun x97 G96 =>
  bS (gd x89 true (bP (bn Q q .eql 30 (.tmp 113) (.tmp 116) x93 x97) fun y => some (y, G96)) G96) fun x98 _ =>
  bP (pickV x89 x98 (.bool false)) fun x99 =>
  some (x99, G96)) (
  some ((.bool true), G1))))
theorem m37 {e : Ex} {E : Ev} (h : ExLe Q e E) (v0 v1 v2 v3 : Value) (G : GS) : Ref (s37 true e v0 v1 v2 v3 G) (s37 false (Ex.of E) v0 v1 v2 v3 G) := by
  unfold s37
  exact Ref.gq
set_option maxHeartbeats 8000000 in
theorem f37 {orc : FuncId → Bool} {e : Ex} (h : ExLe Q e (E orc)) (v0 v1 v2 v3 : Value) (G : GS) : Ref (s37 true e v0 v1 v2 v3 G) ((E orc).cl 37 [v0, v1, v2, v3] G) :=
  fun r hr => cl_sxE_some Q orc (vs := [v0, v1, v2, v3]) G Try.func37 (by kernel_rfl) (by kernel_rfl) (by kernel_rfl) (by kernel_rfl) (by kernel_rfl) (by kernel_rfl) (m37 h v0 v1 v2 v3 G r hr)
noncomputable def b38_0 (q : Bool) (e : Ex) (lp : Env → GS → Option (Exit × Env × GS)) (τ : Env) (G : GS) : Option (Exit × Env × GS) :=
  bV q (τ 1) fun a1_ =>
  bV q (τ 2) fun a2_ =>
  bV q (τ 5) fun a5_ =>
  bV q (τ 6) fun a6_ =>
  bP (ln Q q 38 a5_) fun x0 =>
  bP (fa Q q 28 3 3 a2_) fun x1 =>
  bP (ld Q q 3 x1 (G.room 16)) fun x2 =>
  bP (bn Q q .lss 3 (.tmp 16) (.tmp 18) x0 x2) fun x3 =>
  bS (gd x3 true (some (a1_, (G.room 16))) (G.room 16)) fun x4 _ =>
  bS (gd x3 true (bP (lda Q q 28 4 a2_ (G.room 16)) fun y => some (y, (G.room 16))) (G.room 16)) fun x5 _ =>
  bS (gd x3 true (some (a6_, (G.room 16))) (G.room 16)) fun x6 _ =>
  bS (gd x3 true (bS (e.ev.cl 81 [x5, x6] (G.room 16)) fun y G => some (y, G)) (G.room 16)) fun x8 G7 =>
  bS (gd x3 true (bS (e.ev.cl 79 [x4, x8] G7) fun y G => some (y, G)) G7) fun x10 G9 =>
  bS (gd x3 true (bP (lda Q q 28 4 a2_ G9) fun y => some (y, G9)) G9) fun x11 _ =>
  chk (((!(gB x3 true) || (!(gB x3 true) || sameO (lda Q q 28 4 a2_ G7) x11)) && ((!(gB x3 true) || (!(gB x3 true) || sameO (lda Q q 28 4 a2_ (G.room 16)) x11)) && true))) <|
  bS (gd x3 true (some (a6_, G9)) G9) fun x12 _ =>
  bS (gd x3 true (bS (e.ev.cl 82 [x11, x12] G9) fun y G => some (y, G)) G9) fun x14 G13 =>
  bS (gd x3 true (bS (e.ev.cl 80 [x10, x14] G13) fun y G => some (y, G)) G13) fun x16 G15 =>
  bP (pickV x3 x16 (.bool false)) fun x17 =>
  ifV x17 (
  bP (lda Q q 28 4 a2_ G15) fun x18 =>
  bS (e.ev.cl 81 [x18, a6_] G15) fun x19 G20 =>
  bS (e.ev.cl 79 [a1_, x19] G20) fun x21 G22 =>
  bP (bn Q q .rem 31 (.tmp 36) (.const (.int .u64 65536)) x21 (.int .u64 65536)) fun x23 =>
  bP (cv Q q 31 3 .u64 .i64 x23) fun x24 =>
  bS (bs Q q 38 1 (rep z3 1) 1 [(0, 0, 1)] [x24] G22) fun x25 G26 =>
  bS (ap Q q 38 38 1 8 a5_ x25 G26) fun x27 G28 =>
  bP (bn Q q .add 31 (.tmp 41) (.const (.int .u64 1)) a6_ (.int .u64 1)) fun x29 =>
  lp (xq q 44 τ [(6, x29), (42, x29), (41, a6_), (5, x27), (40, x27), (39, x25), (38, x24), (37, x23), (36, x21), (35, x19), (34, a6_), (33, x18), (32, a1_), (31, a5_), (30, x17), (29, x16), (28, x14), (27, x12), (26, x11), (25, x10), (24, x8), (23, x6), (22, x5), (21, x4), (20, x3), (19, x3), (18, x2), (17, x1), (16, x0), (15, a5_)] [(1, a1_), (2, a2_)]) G28) (
  some ((.exit 0), xq q 44 τ [(30, x17), (29, x16), (28, x14), (27, x12), (26, x11), (25, x10), (24, x8), (23, x6), (22, x5), (21, x4), (20, x3), (19, x3), (18, x2), (17, x1), (16, x0), (15, a5_)] [(1, a1_), (2, a2_), (5, a5_), (6, a6_)], G15))
theorem mb38_0 {e : Ex} {E : Ev} (h : ExLe Q e E) {lp lp' : Env → GS → Option (Exit × Env × GS)} (hlp : LpLe lp lp') (τ : Env) (G : GS) : Ref (b38_0 true e lp τ G) (b38_0 false (Ex.of E) lp' τ G) := by
  unfold b38_0
  exact Ref.gq
theorem l38_0 {orc : FuncId → Bool} {e : Ex} (h : ExLe Q e (E orc)) (lp : Env → GS → Option (Exit × Env × GS)) (hlp : ∀ τ G, Ref (lp τ G) (mapE ((E orc).lp (subAt [1, 1, 1, 1, 0, 0, 0] (bodyOf Try.f38)) (lst 44 τ) G))) (T : List Value) (G : GS) (hT : T.length = 44) : Ref (b38_0 true e lp (nth undef T) G) (mapE ((E orc).lp (subAt [1, 1, 1, 1, 0, 0, 0] (bodyOf Try.f38)) T G)) :=
  fun r hr => lp_sxN Q orc G hT (by kernel_rfl) (mb38_0 h ⟨hlp⟩ _ _ r hr)
/-- coxswain/coxswainref14.All -/
noncomputable def s38 (q : Bool) (e : Ex) (v0 v1 : Value) (G : GS) : Option (Value × GS) :=
  bS (bx q v0 G) fun x0 G1 =>
  bP (fa Q q 28 3 3 x0) fun x2 =>
  bP (ld Q q 3 x2 G1) fun x3 =>
  bS (e.ev.cl 65 [x3] G1) fun x4 G5 =>
  bP (un Q q .not x4) fun x6 =>
  ifV x6 (
  some ((.slice none 0 0), G5)) (
  bP (fa Q q 28 0 0 x0) fun x7 =>
  bP (ld Q q 3 x7 G5) fun x8 =>
  bS (e.ev.cl 79 [v1, x8] G5) fun x9 G10 =>
  bLq q e 38 0 (subAt [1, 1, 1, 1, 0, 0, 0] (bodyOf Try.f38)) 44 (nth undef [v0, v1]) [(6, x9), (14, x9), (13, x8), (12, x7), (11, v1), (10, x6), (9, x4), (8, x3), (7, x2), (5, (.slice none 0 0)), (4, (.slice none 0 0)), (2, x0)] [] G10 fun e11 t12 G13 =>
  bV q (t12 5) fun t12x5_ =>
  ifE e11 (.exit 0) (
  some (t12x5_, G13)) (none))
theorem m38 {e : Ex} {E : Ev} (h : ExLe Q e E) (v0 v1 : Value) (G : GS) : Ref (s38 true e v0 v1 G) (s38 false (Ex.of E) v0 v1 G) := by
  unfold s38
  exact Ref.gq
theorem f38 {orc : FuncId → Bool} {e : Ex} (h : ExLe Q e (E orc)) (v0 v1 : Value) (G : GS) : Ref (s38 true e v0 v1 G) ((E orc).cl 38 [v0, v1] G) :=
  fun r hr => cl_sxE_some Q orc (vs := [v0, v1]) G Try.func38 (by kernel_rfl) (by kernel_rfl) (by kernel_rfl) (by kernel_rfl) (by kernel_rfl) (by kernel_rfl) (m38 h v0 v1 G r hr)
noncomputable def b39_0 (q : Bool) (e : Ex) (lp : Env → GS → Option (Exit × Env × GS)) (τ : Env) (G : GS) : Option (Exit × Env × GS) :=
  bV q (τ 0) fun a0_ =>
  bV q (τ 1) fun a1_ =>
  bV q (τ 5) fun a5_ =>
  bV q (τ 6) fun a6_ =>
  bS (gd a5_ true (some (a6_, G)) G) fun x0 G1 =>
  bS (gd a5_ true (some (a0_, G1)) G1) fun x2 G3 =>
  bS (gd a5_ true (bP (ln Q q 76 x2) fun y => some (y, G3)) G3) fun x4 G5 =>
  bS (gd a5_ true (bP (bn Q q .lss 3 (.tmp 14) (.tmp 16) x0 x4) fun y => some (y, G5)) G5) fun x6 G7 =>
  bP (pickV a5_ x6 (.bool false)) fun x8 =>
  ifV x8 (
  bP (ias Q q 76 1 a0_ a6_) fun x9 =>
  bP (ld Q q 31 x9 (G7.room 10)) fun x10 =>
  bP (ias Q q 76 1 a1_ a6_) fun x11 =>
  bP (ld Q q 31 x11 (G7.room 10)) fun x12 =>
  bP (bn Q q .eql 31 (.tmp 24) (.tmp 28) x10 x12) fun x13 =>
  bP (bn Q q .add 3 (.tmp 19) (.const (.int .i64 1)) a6_ (.int .i64 1)) fun x14 =>
  lp (xq q 31 τ [(6, x14), (20, x14), (19, a6_), (5, x13), (29, x13), (28, x12), (27, x11), (26, a6_), (25, a1_), (24, x10), (23, x9), (22, a6_), (21, a0_), (18, x8), (17, x6), (16, x4), (15, x2), (14, x0), (13, a5_), (12, a5_)] [(0, a0_), (1, a1_)]) (G7.room 10)) (
  some ((.exit 0), xq q 31 τ [(18, x8), (17, x6), (16, x4), (15, x2), (14, x0), (13, a5_), (12, a5_)] [(0, a0_), (1, a1_), (5, a5_), (6, a6_)], G7))
theorem mb39_0 {e : Ex} {E : Ev} (h : ExLe Q e E) {lp lp' : Env → GS → Option (Exit × Env × GS)} (hlp : LpLe lp lp') (τ : Env) (G : GS) : Ref (b39_0 true e lp τ G) (b39_0 false (Ex.of E) lp' τ G) := by
  unfold b39_0
  exact Ref.gq
theorem l39_0 {orc : FuncId → Bool} {e : Ex} (h : ExLe Q e (E orc)) (lp : Env → GS → Option (Exit × Env × GS)) (hlp : ∀ τ G, Ref (lp τ G) (mapE ((E orc).lp (subAt [1, 1, 0, 1, 0, 0] (bodyOf Try.f39)) (lst 31 τ) G))) (T : List Value) (G : GS) (hT : T.length = 31) : Ref (b39_0 true e lp (nth undef T) G) (mapE ((E orc).lp (subAt [1, 1, 0, 1, 0, 0] (bodyOf Try.f39)) T G)) :=
  fun r hr => lp_sxN Q orc G hT (by kernel_rfl) (mb39_0 h ⟨hlp⟩ _ _ r hr)
/-- coxswain/coxswainkit.SameWords -/
noncomputable def s39 (q : Bool) (e : Ex) (v0 v1 : Value) (G : GS) : Option (Value × GS) :=
  bP (ln Q q 76 v0) fun x0 =>
  bP (ln Q q 76 v1) fun x1 =>
  bP (bn Q q .eql 3 (.tmp 8) (.tmp 10) x0 x1) fun x2 =>
  bLq q e 39 0 (subAt [1, 1, 0, 1, 0, 0] (bodyOf Try.f39)) 31 (nth undef [v0, v1]) [(6, (.int .i64 0)), (5, x2), (11, x2), (10, x1), (9, v1), (8, x0), (7, v0), (4, (.bool false))] [] G fun e3 t4 G5 =>
  bV q (t4 5) fun t4x5_ =>
  ifE e3 (.exit 0) (
  some (t4x5_, G5)) (none)
theorem m39 {e : Ex} {E : Ev} (h : ExLe Q e E) (v0 v1 : Value) (G : GS) : Ref (s39 true e v0 v1 G) (s39 false (Ex.of E) v0 v1 G) := by
  unfold s39
  exact Ref.gq
theorem f39 {orc : FuncId → Bool} {e : Ex} (h : ExLe Q e (E orc)) (v0 v1 : Value) (G : GS) : Ref (s39 true e v0 v1 G) ((E orc).cl 39 [v0, v1] G) :=
  fun r hr => cl_sxE_some Q orc (vs := [v0, v1]) G Try.func39 (by kernel_rfl) (by kernel_rfl) (by kernel_rfl) (by kernel_rfl) (by kernel_rfl) (by kernel_rfl) (m39 h v0 v1 G r hr)
noncomputable def b40_0 (q : Bool) (e : Ex) (lp : Env → GS → Option (Exit × Env × GS)) (τ : Env) (G : GS) : Option (Exit × Env × GS) :=
  bV q (τ 3) fun a3_ =>
  bV q (τ 29) fun a29_ =>
  bV q (τ 30) fun a30_ =>
  bV q (τ 31) fun a31_ =>
  bP (bn Q q .lss 3 (.tmp 31) (.tmp 30) a31_ a30_) fun x0 =>
  ifV x0 (
  bP (ias Q q 130 1 a29_ a31_) fun x1 =>
  bP (ld Q q 113 x1 G) fun x2 =>
  bP (ias Q q 76 1 a3_ a31_) fun x3 =>
  bP (st Q q 31 1 x3 x2 G) fun G4 =>
  bP (bn Q q .add 3 (.tmp 31) (.const (.int .i64 1)) a31_ (.int .i64 1)) fun x5 =>
  lp (xq q 42 τ [(31, x5), (40, x5), (39, x3), (38, x2), (37, a31_), (36, a3_), (5, x2), (4, a31_), (35, x2), (34, x1), (33, a31_), (32, x0)] [(3, a3_), (29, a29_), (30, a30_)]) G4) (
  some ((.exit 0), xq q 42 τ [(32, x0)] [(3, a3_), (29, a29_), (30, a30_), (31, a31_)], G))
theorem mb40_0 {e : Ex} {E : Ev} (h : ExLe Q e E) {lp lp' : Env → GS → Option (Exit × Env × GS)} (hlp : LpLe lp lp') (τ : Env) (G : GS) : Ref (b40_0 true e lp τ G) (b40_0 false (Ex.of E) lp' τ G) := by
  unfold b40_0
  exact Ref.gq
theorem l40_0 {orc : FuncId → Bool} {e : Ex} (h : ExLe Q e (E orc)) (lp : Env → GS → Option (Exit × Env × GS)) (hlp : ∀ τ G, Ref (lp τ G) (mapE ((E orc).lp (subAt [1, 1, 1, 0, 1, 0, 0] (bodyOf Try.f40)) (lst 42 τ) G))) (T : List Value) (G : GS) (hT : T.length = 42) : Ref (b40_0 true e lp (nth undef T) G) (mapE ((E orc).lp (subAt [1, 1, 1, 0, 1, 0, 0] (bodyOf Try.f40)) T G)) :=
  fun r hr => lp_sxN Q orc G hT (by kernel_rfl) (mb40_0 h ⟨hlp⟩ _ _ r hr)
/-- (*coxswain/cells.Mem).Words -/
noncomputable def s40 (q : Bool) (e : Ex) (v0 : Value) (G : GS) : Option (Value × GS) :=
  bP (ep Q q false 22 (.tmp 6) (.const (.pointer none)) v0 (.pointer none)) fun x0 =>
  bS (gd x0 false (some (v0, G)) G) fun x1 G2 =>
  bS (gd x0 false (bP (pNil x1) fun y => some (y, G2)) G2) fun x3 G4 =>
  bS (gd x0 false (bP (fa Q q 117 0 0 x3) fun y => some (y, G4)) G4) fun x5 G6 =>
  bS (gd x0 false (bP (ld Q q 112 x5 G6) fun y => some (y, G6)) G6) fun x7 G8 =>
  bS (gd x0 false (bP (ep Q q false 112 (.tmp 12) (.const (.pointer none)) x7 (.pointer none)) fun y => some (y, G8)) G8) fun x9 G10 =>
  bP (pickV x0 (.bool true) x9) fun x11 =>
  ifV x11 (
  some ((.slice none 0 0), G10)) (
  bP (pNil v0) fun x12 =>
  bP (fa Q q 117 1 1 x12) fun x13 =>
  bP (ld Q q 3 x13 G10) fun x14 =>
  bS (mk Q q 76 1 8 z31 x14 x14 G10) fun x15 G16 =>
  bP (pNil v0) fun x17 =>
  bP (fa Q q 117 0 0 x17) fun x18 =>
  bP (ld Q q 112 x18 (G16.room 12)) fun x19 =>
  bP (pNil x19) fun x20 =>
  bP (pNil v0) fun x21 =>
  bP (fa Q q 117 1 1 x21) fun x22 =>
  bP (ld Q q 3 x22 (G16.room 12)) fun x23 =>
  bP (sla Q q 115 4096 1 x20 none (some x23) none (G16.room 12)) fun x24 =>
  bP (ln Q q 130 x24) fun x25 =>
  bLq q e 40 0 (subAt [1, 1, 1, 0, 1, 0, 0] (bodyOf Try.f40)) 42 (nth undef [v0]) [(31, (.int .i64 0)), (30, x25), (29, x24), (28, x23), (27, x22), (26, x21), (25, v0), (24, x20), (23, x19), (22, x18), (21, x17), (20, v0), (3, x15), (19, x15), (18, x14), (17, x13), (16, x12), (15, v0), (14, x11), (13, x9), (12, x7), (11, x5), (10, x3), (9, x1), (8, x0), (7, x0), (6, v0), (2, (.slice none 0 0))] [] (G16.room 12) fun e26 t27 G28 =>
  bV q (t27 3) fun t27x3_ =>
  ifE e26 (.exit 0) (
  some (t27x3_, G28)) (none))
theorem m40 {e : Ex} {E : Ev} (h : ExLe Q e E) (v0 : Value) (G : GS) : Ref (s40 true e v0 G) (s40 false (Ex.of E) v0 G) := by
  unfold s40
  exact Ref.gq
theorem f40 {orc : FuncId → Bool} {e : Ex} (h : ExLe Q e (E orc)) (v0 : Value) (G : GS) : Ref (s40 true e v0 G) ((E orc).cl 40 [v0] G) :=
  fun r hr => cl_sxE_some Q orc (vs := [v0]) G Try.func40 (by kernel_rfl) (by kernel_rfl) (by kernel_rfl) (by kernel_rfl) (by kernel_rfl) (by kernel_rfl) (m40 h v0 G r hr)
/-- (*coxswain/coxswainref02.Mem).Words -/
noncomputable def s41 (q : Bool) (e : Ex) (v0 : Value) (G : GS) : Option (Value × GS) :=
  bP (pNil v0) fun x0 =>
  bP (fa Q q 133 0 0 x0) fun x1 =>
  bP (ld Q q 76 x1 G) fun x2 =>
  bS (e.ev.cl 83 [x2] G) fun x3 G4 =>
  some (x3, G4)
theorem m41 {e : Ex} {E : Ev} (h : ExLe Q e E) (v0 : Value) (G : GS) : Ref (s41 true e v0 G) (s41 false (Ex.of E) v0 G) := by
  unfold s41
  exact Ref.gq
theorem f41 {orc : FuncId → Bool} {e : Ex} (h : ExLe Q e (E orc)) (v0 : Value) (G : GS) : Ref (s41 true e v0 G) ((E orc).cl 41 [v0] G) :=
  fun r hr => cl_sxE_some Q orc (vs := [v0]) G Try.func41 (by kernel_rfl) (by kernel_rfl) (by kernel_rfl) (by kernel_rfl) (by kernel_rfl) (by kernel_rfl) (m41 h v0 G r hr)
/-- (*coxswain/cells.Mem).Last -/
noncomputable def s42 (q : Bool) (e : Ex) (v0 : Value) (G : GS) : Option (Value × GS) :=
  bS (al Q q 95 z95 G) fun x0 G1 =>
  bP (ep Q q false 22 (.tmp 3) (.const (.pointer none)) v0 (.pointer none)) fun x2 =>
  ifV x2 (
  bP (bd Q q 95 z95 [] []) fun x3 =>
  bP (st Q q 95 5 x0 x3 G1) fun G4 =>
  bP (lda Q q 95 5 x0 G4) fun x5 =>
  some (x5, G4)) (
  bP (pNil v0) fun x6 =>
  bP (fa Q q 117 2 2 x6) fun x7 =>
  bP (lda Q q 95 5 x7 G1) fun x8 =>
  bP (st Q q 95 5 x0 x8 G1) fun G9 =>
  bP (lda Q q 95 5 x0 G9) fun x10 =>
  some (x10, G9))
theorem m42 {e : Ex} {E : Ev} (h : ExLe Q e E) (v0 : Value) (G : GS) : Ref (s42 true e v0 G) (s42 false (Ex.of E) v0 G) := by
  unfold s42
  exact Ref.gq
theorem f42 {orc : FuncId → Bool} {e : Ex} (h : ExLe Q e (E orc)) (v0 : Value) (G : GS) : Ref (s42 true e v0 G) ((E orc).cl 42 [v0] G) :=
  fun r hr => cl_sxE_some Q orc (vs := [v0]) G Try.func42 (by kernel_rfl) (by kernel_rfl) (by kernel_rfl) (by kernel_rfl) (by kernel_rfl) (by kernel_rfl) (m42 h v0 G r hr)
/-- (*coxswain/coxswainref02.Mem).Last -/
noncomputable def s43 (q : Bool) (e : Ex) (v0 : Value) (G : GS) : Option (Value × GS) :=
  bS (al Q q 95 z95 G) fun x0 G1 =>
  bP (pNil v0) fun x2 =>
  bP (fa Q q 133 1 1 x2) fun x3 =>
  bP (lda Q q 95 5 x3 G1) fun x4 =>
  bP (st Q q 95 5 x0 x4 G1) fun G5 =>
  bP (lda Q q 95 5 x0 G5) fun x6 =>
  some (x6, G5)
theorem m43 {e : Ex} {E : Ev} (h : ExLe Q e E) (v0 : Value) (G : GS) : Ref (s43 true e v0 G) (s43 false (Ex.of E) v0 G) := by
  unfold s43
  exact Ref.gq
theorem f43 {orc : FuncId → Bool} {e : Ex} (h : ExLe Q e (E orc)) (v0 : Value) (G : GS) : Ref (s43 true e v0 G) ((E orc).cl 43 [v0] G) :=
  fun r hr => cl_sxE_some Q orc (vs := [v0]) G Try.func43 (by kernel_rfl) (by kernel_rfl) (by kernel_rfl) (by kernel_rfl) (by kernel_rfl) (by kernel_rfl) (m43 h v0 G r hr)
/-- (*coxswain/coxswainref02.Mem).Count -/
noncomputable def s44 (q : Bool) (e : Ex) (v0 : Value) (G : GS) : Option (Value × GS) :=
  bP (pNil v0) fun x0 =>
  bP (fa Q q 133 2 6 x0) fun x1 =>
  bP (ld Q q 3 x1 G) fun x2 =>
  some (x2, G)
theorem m44 {e : Ex} {E : Ev} (h : ExLe Q e E) (v0 : Value) (G : GS) : Ref (s44 true e v0 G) (s44 false (Ex.of E) v0 G) := by
  unfold s44
  exact Ref.gq
theorem f44 {orc : FuncId → Bool} {e : Ex} (h : ExLe Q e (E orc)) (v0 : Value) (G : GS) : Ref (s44 true e v0 G) ((E orc).cl 44 [v0] G) :=
  fun r hr => cl_sxE_some Q orc (vs := [v0]) G Try.func44 (by kernel_rfl) (by kernel_rfl) (by kernel_rfl) (by kernel_rfl) (by kernel_rfl) (by kernel_rfl) (m44 h v0 G r hr)
noncomputable def b45_0 (q : Bool) (e : Ex) (lp : Env → GS → Option (Exit × Env × GS)) (τ : Env) (G : GS) : Option (Exit × Env × GS) :=
  bV q (τ 0) fun a0_ =>
  bV q (τ 2) fun a2_ =>
  bP (ln Q q 38 a0_) fun x0 =>
  bP (bn Q q .lss 3 (.tmp 3) (.tmp 5) a2_ x0) fun x1 =>
  ifV x1 (
  bP (ias Q q 38 1 a0_ a2_) fun x2 =>
  bP (st Q q 3 1 x2 (.int .i64 (-77)) G) fun G3 =>
  bP (bn Q q .add 3 (.tmp 7) (.const (.int .i64 1)) a2_ (.int .i64 1)) fun x4 =>
  lp (xq q 12 τ [(2, x4), (8, x4), (7, a2_), (11, x2), (10, a2_), (9, a0_), (6, x1), (5, x0), (4, a0_), (3, a2_)] [(0, a0_)]) G3) (
  some ((.exit 0), xq q 12 τ [(6, x1), (5, x0), (4, a0_), (3, a2_)] [(0, a0_), (2, a2_)], G))
theorem mb45_0 {e : Ex} {E : Ev} (h : ExLe Q e E) {lp lp' : Env → GS → Option (Exit × Env × GS)} (hlp : LpLe lp lp') (τ : Env) (G : GS) : Ref (b45_0 true e lp τ G) (b45_0 false (Ex.of E) lp' τ G) := by
  unfold b45_0
  exact Ref.gq
theorem l45_0 {orc : FuncId → Bool} {e : Ex} (h : ExLe Q e (E orc)) (lp : Env → GS → Option (Exit × Env × GS)) (hlp : ∀ τ G, Ref (lp τ G) (mapE ((E orc).lp (subAt [1, 0, 0] (bodyOf Try.f45)) (lst 12 τ) G))) (T : List Value) (G : GS) (hT : T.length = 12) : Ref (b45_0 true e lp (nth undef T) G) (mapE ((E orc).lp (subAt [1, 0, 0] (bodyOf Try.f45)) T G)) :=
  fun r hr => lp_sxN Q orc G hT (by kernel_rfl) (mb45_0 h ⟨hlp⟩ _ _ r hr)
/-- coxswain/coxswainkit.OverInts -/
noncomputable def s45 (q : Bool) (e : Ex) (v0 : Value) (G : GS) : Option (Value × GS) :=
  bLq q e 45 0 (subAt [1, 0, 0] (bodyOf Try.f45)) 12 (nth undef [v0]) [(2, (.int .i64 0))] [] G fun e0 t1 G2 =>
  ifE e0 (.exit 0) (
  some (.tuple #[], G2)) (none)
theorem m45 {e : Ex} {E : Ev} (h : ExLe Q e E) (v0 : Value) (G : GS) : Ref (s45 true e v0 G) (s45 false (Ex.of E) v0 G) := by
  unfold s45
  exact Ref.gq
theorem f45 {orc : FuncId → Bool} {e : Ex} (h : ExLe Q e (E orc)) (v0 : Value) (G : GS) : Ref (s45 true e v0 G) ((E orc).cl 45 [v0] G) :=
  fun r hr => cl_sxE_some Q orc (vs := [v0]) G Try.func45 (by kernel_rfl) (by kernel_rfl) (by kernel_rfl) (by kernel_rfl) (by kernel_rfl) (by kernel_rfl) (m45 h v0 G r hr)
/-- coxswain/ring.begun -/
noncomputable def s46 (q : Bool) (e : Ex) (v0 : Value) (G : GS) : Option (Value × GS) :=
  bS (bx q v0 G) fun x0 G1 =>
  bS (al Q q 50 z50 G1) fun x2 G3 =>
  bP (lda Q q 28 4 x0 G3) fun x4 =>
  bS (e.ev.cl 54 [x4] G3) fun x5 G6 =>
  bP (un Q q .not x5) fun x7 =>
  ifV x7 (
  bP (bd Q q 50 z50 [(2, 5, 1), (3, 6, 1)] [(.bool true), (.int .i64 2)]) fun x8 =>
  bP (st Q q 50 7 x2 x8 G6) fun G9 =>
  bP (lda Q q 50 7 x2 G9) fun x10 =>
  some (x10, G9)) (
  bP (lda Q q 28 4 x0 G6) fun x11 =>
  bP (bd Q q 50 z50 [(0, 0, 4), (2, 5, 1)] [x11, (.bool true)]) fun x12 =>
  bP (st Q q 50 7 x2 x12 G6) fun G13 =>
  bP (lda Q q 50 7 x2 G13) fun x14 =>
  some (x14, G13))
theorem m46 {e : Ex} {E : Ev} (h : ExLe Q e E) (v0 : Value) (G : GS) : Ref (s46 true e v0 G) (s46 false (Ex.of E) v0 G) := by
  unfold s46
  exact Ref.gq
theorem f46 {orc : FuncId → Bool} {e : Ex} (h : ExLe Q e (E orc)) (v0 : Value) (G : GS) : Ref (s46 true e v0 G) ((E orc).cl 46 [v0] G) :=
  fun r hr => cl_sxE_some Q orc (vs := [v0]) G Try.func46 (by kernel_rfl) (by kernel_rfl) (by kernel_rfl) (by kernel_rfl) (by kernel_rfl) (by kernel_rfl) (m46 h v0 G r hr)
/-- (*coxswain/ring.work).ends -/
noncomputable def s47 (q : Bool) (e : Ex) (v0 v1 : Value) (G : GS) : Option (Value × GS) :=
  bP (pNil v0) fun x0 =>
  bP (fa Q q 50 1 4 x0) fun x1 =>
  bP (st Q q 48 1 x1 .nilFunc G) fun G2 =>
  bP (pNil v0) fun x3 =>
  bP (fa Q q 50 3 6 x3) fun x4 =>
  bP (st Q q 30 1 x4 v1 G2) fun G5 =>
  some (.tuple #[], G5)
theorem m47 {e : Ex} {E : Ev} (h : ExLe Q e E) (v0 v1 : Value) (G : GS) : Ref (s47 true e v0 v1 G) (s47 false (Ex.of E) v0 v1 G) := by
  unfold s47
  exact Ref.gq
theorem f47 {orc : FuncId → Bool} {e : Ex} (h : ExLe Q e (E orc)) (v0 v1 : Value) (G : GS) : Ref (s47 true e v0 v1 G) ((E orc).cl 47 [v0, v1] G) :=
  fun r hr => cl_sxE_some Q orc (vs := [v0, v1]) G Try.func47 (by kernel_rfl) (by kernel_rfl) (by kernel_rfl) (by kernel_rfl) (by kernel_rfl) (by kernel_rfl) (m47 h v0 v1 G r hr)
/-- (*coxswain/ring.Push).tail -/
noncomputable def s48 (q : Bool) (e : Ex) (v0 v1 : Value) (G : GS) : Option (Value × GS) :=
  bP (pNil v0) fun x0 =>
  bP (fa Q q 53 0 0 x0) fun x1 =>
  bP (fa Q q 50 0 0 x1) fun x2 =>
  bP (fa Q q 28 1 1 x2) fun x3 =>
  bP (ld Q q 3 x3 G) fun x4 =>
  bS (e.ev.cl 11 [v1, x4] G) fun x5 G6 =>
  bP (pNil v0) fun x7 =>
  bP (fa Q q 53 2 8 x7) fun x8 =>
  bP (st Q q 31 1 x8 x5 G6) fun G9 =>
  bP (pNil v0) fun x10 =>
  bP (fa Q q 53 0 0 x10) fun x11 =>
  bP (fa Q q 50 1 4 x11) fun x12 =>
  bP (st Q q 48 1 x12 (.func (.func 84) #[v0] #[]) G9) fun G13 =>
  some (.tuple #[], G13)
theorem m48 {e : Ex} {E : Ev} (h : ExLe Q e E) (v0 v1 : Value) (G : GS) : Ref (s48 true e v0 v1 G) (s48 false (Ex.of E) v0 v1 G) := by
  unfold s48
  exact Ref.gq
theorem f48 {orc : FuncId → Bool} {e : Ex} (h : ExLe Q e (E orc)) (v0 v1 : Value) (G : GS) : Ref (s48 true e v0 v1 G) ((E orc).cl 48 [v0, v1] G) :=
  fun r hr => cl_sxE_some Q orc (vs := [v0, v1]) G Try.func48 (by kernel_rfl) (by kernel_rfl) (by kernel_rfl) (by kernel_rfl) (by kernel_rfl) (by kernel_rfl) (m48 h v0 v1 G r hr)
/-- (*coxswain/cells.Mem).cell -/
noncomputable def s49 (q : Bool) (e : Ex) (v0 v1 : Value) (G : GS) : Option (Value × GS) :=
  bP (ep Q q false 22 (.tmp 5) (.const (.pointer none)) v0 (.pointer none)) fun x0 =>
  bS (gd x0 false (some (v0, G)) G) fun x1 G2 =>
  bS (gd x0 false (bP (pNil x1) fun y => some (y, G2)) G2) fun x3 G4 =>
  bS (gd x0 false (bP (fa Q q 117 0 0 x3) fun y => some (y, G4)) G4) fun x5 G6 =>
  bS (gd x0 false (bP (ld Q q 112 x5 G6) fun y => some (y, G6)) G6) fun x7 G8 =>
  bS (gd x0 false (bP (ep Q q false 112 (.tmp 11) (.const (.pointer none)) x7 (.pointer none)) fun y => some (y, G8)) G8) fun x9 G10 =>
  bP (pickV x0 (.bool true) x9) fun x11 =>
  bS (gd x11 false (some (v1, G10)) G10) fun x12 G13 =>
  bS (gd x11 false (bP (bn Q q .lss 3 (.tmp 15) (.const (.int .i64 0)) x12 (.int .i64 0)) fun y => some (y, G13)) G13) fun x14 G15 =>
  bP (pickV x11 (.bool true) x14) fun x16 =>
  bS (gd x16 false (some (v1, G15)) G15) fun x17 G18 =>
  bS (gd x16 false (some (v0, G18)) G18) fun x19 G20 =>
  bS (gd x16 false (bP (pNil x19) fun y => some (y, G20)) G20) fun x21 G22 =>
  bS (gd x16 false (bP (fa Q q 117 1 1 x21) fun y => some (y, G22)) G22) fun x23 G24 =>
  bS (gd x16 false (bP (ld Q q 3 x23 G24) fun y => some (y, G24)) G24) fun x25 G26 =>
  bS (gd x16 false (bP (bn Q q .geq 3 (.tmp 19) (.tmp 23) x17 x25) fun y => some (y, G26)) G26) fun x27 G28 =>
  bP (pickV x16 (.bool true) x27) fun x29 =>
  ifV x29 (
  some ((.pointer none), G28)) (
  bP (pNil v0) fun x30 =>
  bP (fa Q q 117 0 0 x30) fun x31 =>
  bP (ld Q q 112 x31 G28) fun x32 =>
  bP (pNil x32) fun x33 =>
  bP (iaa Q q 115 4096 1 x33 v1) fun x34 =>
  some (x34, G28))
theorem m49 {e : Ex} {E : Ev} (h : ExLe Q e E) (v0 v1 : Value) (G : GS) : Ref (s49 true e v0 v1 G) (s49 false (Ex.of E) v0 v1 G) := by
  unfold s49
  exact Ref.gq
theorem f49 {orc : FuncId → Bool} {e : Ex} (h : ExLe Q e (E orc)) (v0 v1 : Value) (G : GS) : Ref (s49 true e v0 v1 G) ((E orc).cl 49 [v0, v1] G) :=
  fun r hr => cl_sxE_some Q orc (vs := [v0, v1]) G Try.func49 (by kernel_rfl) (by kernel_rfl) (by kernel_rfl) (by kernel_rfl) (by kernel_rfl) (by kernel_rfl) (m49 h v0 v1 G r hr)
noncomputable def jb50_0 (q : Bool) (e : Ex) (τ : Env) (G : GS) : Option (Value × GS) :=
  bV q (τ 0) fun a0_ =>
  bV q (τ 10) fun a10_ =>
  bP (pNil a0_) fun x28 =>
  bP (fa Q q 117 2 2 x28) fun x29 =>
  bP (lda Q q 95 5 x29 G) fun x30 =>
  bP (st Q q 95 5 a10_ x30 G) fun G31 =>
  bP (lda Q q 95 5 a10_ G31) fun x32 =>
  some (x32, G31)
noncomputable def j50_0 (q : Bool) (e : Ex) (τ : Env) (G : GS) : Option (Value × GS) := jb50_0 q e τ G
theorem mj50_0 {e : Ex} {E : Ev} (h : ExLe Q e E) (τ : Env) (G : GS) : Ref (j50_0 true e τ G) (j50_0 false (Ex.of E) τ G) := by
  unfold j50_0 jb50_0
  exact Ref.gq
theorem mkj50_0 {e : Ex} {E : Ev} (h : ExLe Q e E) {τ : Env} {l U : List (Nat × Value)} {G : GS} (hU : UOk τ U) : Ref (j50_0 true e (xq true 67 τ l U) G) (j50_0 false (Ex.of E) (xq false 67 τ l U) G) := by
  rw [xq_eq hU]
  exact mj50_0 h _ _
noncomputable def sb50 (q : Bool) (e : Ex) (J0 : Env → GS → Option (Value × GS)) (v0 v1 v2 v3 v4 : Value) (G : GS) : Option (Value × GS) :=
  bS (al Q q 95 z95 G) fun x0 G1 =>
  bP (ep Q q false 22 (.tmp 13) (.const (.pointer none)) v0 (.pointer none)) fun x2 =>
  bS (gd x2 false (some (v0, G1)) G1) fun x3 G4 =>
  bS (gd x2 false (bP (pNil x3) fun y => some (y, G4)) G4) fun x5 G6 =>
  bS (gd x2 false (bP (fa Q q 117 0 0 x5) fun y => some (y, G6)) G6) fun x7 G8 =>
  bS (gd x2 false (bP (ld Q q 112 x7 G8) fun y => some (y, G8)) G8) fun x9 G10 =>
  bS (gd x2 false (bP (ep Q q false 112 (.tmp 19) (.const (.pointer none)) x9 (.pointer none)) fun y => some (y, G10)) G10) fun x11 G12 =>
  bP (pickV x2 (.bool true) x11) fun x13 =>
  ifV x13 (
  bP (bd Q q 95 z95 [] []) fun x14 =>
  bP (st Q q 95 5 x0 x14 G12) fun G15 =>
  bP (lda Q q 95 5 x0 G15) fun x16 =>
  some (x16, G15)) (
  bP (pNil v0) fun x17 =>
  bP (fa Q q 117 3 7 x17) fun x18 =>
  bP (ld Q q 3 x18 G12) fun x19 =>
  bP (bn Q q .add 3 (.tmp 26) (.const (.int .i64 1)) x19 (.int .i64 1)) fun x20 =>
  bP (pNil v0) fun x21 =>
  bP (fa Q q 117 3 7 x21) fun x22 =>
  bP (st Q q 3 1 x22 x20 G12) fun G23 =>
  bP (bd Q q 95 z95 [(0, 0, 1), (1, 1, 1)] [v1, v2]) fun x24 =>
  bP (pNil v0) fun x25 =>
  bP (fa Q q 117 2 2 x25) fun x26 =>
  bP (st Q q 95 5 x26 x24 G23) fun G27 =>
  bS (e.ev.cl 85 [v3] G27) fun x33 G34 =>
  ifV x33 (
  bS (cValue e.ev v4 [] G34) fun x35 G36 =>
  bP (pExtract x35 0) fun x37 =>
  bP (pExtract x35 1) fun x38 =>
  bP (pNil v3) fun x39 =>
  bP (ld Q q 113 x39 G36) fun x40 =>
  bP (pNil v0) fun x41 =>
  bP (fa Q q 117 2 2 x41) fun x42 =>
  bP (fa Q q 95 2 2 x42) fun x43 =>
  bP (st Q q 31 1 x43 x40 G36) fun G44 =>
  bP (pNil v0) fun x45 =>
  bP (fa Q q 117 2 2 x45) fun x46 =>
  bP (fa Q q 95 3 3 x46) fun x47 =>
  bP (st Q q 31 1 x47 x37 G44) fun G48 =>
  bP (pNil v0) fun x49 =>
  bP (fa Q q 117 2 2 x49) fun x50 =>
  bP (fa Q q 95 4 4 x50) fun x51 =>
  bP (st Q q 4 1 x51 x38 G48) fun G52 =>
  bP (pNil v3) fun x53 =>
  bP (st Q q 113 1 x53 x37 G52) fun G54 =>
  J0 (xq q 67 (nth undef [v0, v1, v2, v3, v4]) [(62, x53), (61, x37), (60, v3), (59, x51), (58, x50), (57, x49), (56, x47), (55, x46), (54, x45), (53, x43), (52, x42), (51, x41), (50, x38), (49, x37), (48, x40), (47, x39), (46, v3), (45, v0), (44, v0), (43, v0), (12, x38), (11, x37), (42, x38), (41, x37), (38, x35), (40, x35), (39, v4), (37, x33), (36, v3), (35, x26), (34, x25), (33, x24), (32, v2), (31, v1), (30, v0), (29, x22), (28, x21), (27, x20), (26, x19), (25, x18), (24, x17), (23, v0), (21, x13), (20, x11), (19, x9), (18, x7), (17, x5), (16, x3), (15, x2), (14, x2), (13, v0), (10, x0)] []) G54) (
  J0 (xq q 67 (nth undef [v0, v1, v2, v3, v4]) [(37, x33), (36, v3), (35, x26), (34, x25), (33, x24), (32, v2), (31, v1), (30, v0), (29, x22), (28, x21), (27, x20), (26, x19), (25, x18), (24, x17), (23, v0), (21, x13), (20, x11), (19, x9), (18, x7), (17, x5), (16, x3), (15, x2), (14, x2), (13, v0), (10, x0)] []) G34))
/-- (*coxswain/cells.Mem).do -/
noncomputable def s50 (q : Bool) (e : Ex) (v0 v1 v2 v3 v4 : Value) (G : GS) : Option (Value × GS) := sb50 q e (j50_0 q e) v0 v1 v2 v3 v4 G
theorem m50 {e : Ex} {E : Ev} (h : ExLe Q e E) (v0 v1 v2 v3 v4 : Value) (G : GS) : Ref (s50 true e v0 v1 v2 v3 v4 G) (s50 false (Ex.of E) v0 v1 v2 v3 v4 G) := by
  unfold s50 sb50
  repeat' (with_reducible first | exact Ref.rfl' _ | exact ROp.r | refine Ref.bP ?_ fun _ => ?_ | refine Ref.bS ?_ fun _ _ => ?_ | exact Ref.cl (by assumption) | refine Ref.ifV ?_ ?_ | refine LpLe.rx (by assumption) ?_ | refine Ref.xitq ?_ | exact UOk.z | refine UOk.c (by assumption) ?_ | exact Ref.nil _ | refine Ref.bVe fun _ _ => ?_ | refine Ref.bLq (by assumption) ?_ fun _ _ _ => ?_ | refine Ref.ifE ?_ ?_ | refine Ref.chk ?_ ?_ | refine Imp.and ?_ ?_ | refine Imp.or ?_ | exact Imp.rfl' _ | refine Imp.sameO ?_ | refine Ref.gd ?_ | exact Ref.cValue (by assumption) | refine Ref.bX ?_ fun _ _ _ => ?_ | exact Ref.scQ (by assumption) | exact Ref.xRangeQ (by assumption) | exact Ref.cInvoke (by assumption) | refine mkj50_0 (by assumption) ?_)
noncomputable def jt50 (J0 : Env → GS → Option (Value × GS)) : JT (Value × GS) :=
  (.n none .e (.n none .e (.n none .e (.n none .e (.n (some (fun T G => J0 (nth undef T) G)) .e .e)))))
theorem jr50_0 (orc : FuncId → Bool) (J0 : Env → GS → Option (Value × GS)) (T : List Value) (G : GS) : runC Q (evL Q orc) Try.f50.ntmps (jt50 J0) (bodyOf Try.f50) (retE Q Try.f50.results.toList) [true, true, true, true] (nth undef T) G = jb50_0 false (Ex.of (E orc))  (nth undef T) G := by kernel_rfl
theorem jo50 (orc : FuncId → Bool) : JOk Q orc Try.f50.ntmps (jt50 (j50_0 false (Ex.of (E orc))) ) (bodyOf Try.f50) (retE Q Try.f50.results.toList) :=
  jOk Q orc (l := [([true, true, true, true], (fun T G => j50_0 false (Ex.of (E orc)) (nth undef T) G))]) (by kernel_rfl) (AllE.c (fun T G => jr50_0 orc (j50_0 false (Ex.of (E orc))) T G) (AllE.z))
theorem je50 (orc : FuncId → Bool) (J0 : Env → GS → Option (Value × GS)) (v0 v1 v2 v3 v4 : Value) (G : GS) : sxC Q (evL Q orc) Try.f50.ntmps (jt50 J0) (bodyOf Try.f50) (nth undef [v0, v1, v2, v3, v4]) G (retE Q Try.f50.results.toList) = sb50 false (Ex.of (E orc)) J0 v0 v1 v2 v3 v4 G := by kernel_rfl
theorem f50 {orc : FuncId → Bool} {e : Ex} (h : ExLe Q e (E orc)) (v0 v1 v2 v3 v4 : Value) (G : GS) : Ref (s50 true e v0 v1 v2 v3 v4 G) ((E orc).cl 50 [v0, v1, v2, v3, v4] G) :=
  fun r hr => cl_sxC Q orc (vs := [v0, v1, v2, v3, v4]) G (jt50 (j50_0 false (Ex.of (E orc))) ) Try.func50 (by kernel_rfl) (by kernel_rfl) (by kernel_rfl) (by kernel_rfl) (by kernel_rfl) (jo50 orc) (je50 orc (j50_0 false (Ex.of (E orc))) v0 v1 v2 v3 v4 G) (m50 h v0 v1 v2 v3 v4 G r hr)
/-- (coxswain/cells.deed).load -/
noncomputable def s51 (q : Bool) (e : Ex) (v0 : Value) (G : GS) : Option (Value × GS) :=
  bS (bx q v0 G) fun x0 G1 =>
  bP (fa Q q 104 0 0 x0) fun x2 =>
  bP (ld Q q 101 x2 G1) fun x3 =>
  bP (pNil x3) fun x4 =>
  bP (ld Q q 113 x4 G1) fun x5 =>
  some (.tuple #[x5, (.bool false)], G1)
theorem m51 {e : Ex} {E : Ev} (h : ExLe Q e E) (v0 : Value) (G : GS) : Ref (s51 true e v0 G) (s51 false (Ex.of E) v0 G) := by
  unfold s51
  exact Ref.gq
theorem f51 {orc : FuncId → Bool} {e : Ex} (h : ExLe Q e (E orc)) (v0 : Value) (G : GS) : Ref (s51 true e v0 G) ((E orc).cl 51 [v0] G) :=
  fun r hr => cl_sxE_some Q orc (vs := [v0]) G Try.func51 (by kernel_rfl) (by kernel_rfl) (by kernel_rfl) (by kernel_rfl) (by kernel_rfl) (by kernel_rfl) (m51 h v0 G r hr)
noncomputable def jb52_0 (q : Bool) (e : Ex) (τ : Env) (G : GS) : Option (Value × GS) :=
  bV q (τ 0) fun a0_ =>
  bP (pNil a0_) fun x0 =>
  bP (fa Q q 50 1 4 x0) fun x1 =>
  bP (ld Q q 48 x1 G) fun x2 =>
  bP (ef Q q false 48 (.tmp 19) (.const .nilFunc) x2 .nilFunc) fun x3 =>
  some (x3, G)
noncomputable def j52_0 (q : Bool) (e : Ex) (τ : Env) (G : GS) : Option (Value × GS) := jb52_0 q e τ G
theorem mj52_0 {e : Ex} {E : Ev} (h : ExLe Q e E) (τ : Env) (G : GS) : Ref (j52_0 true e τ G) (j52_0 false (Ex.of E) τ G) := by
  unfold j52_0 jb52_0
  exact Ref.gq
theorem mkj52_0 {e : Ex} {E : Ev} (h : ExLe Q e E) {τ : Env} {l U : List (Nat × Value)} {G : GS} (hU : UOk τ U) : Ref (j52_0 true e (xq true 21 τ l U) G) (j52_0 false (Ex.of E) (xq false 21 τ l U) G) := by
  rw [xq_eq hU]
  exact mj52_0 h _ _
noncomputable def sb52 (q : Bool) (e : Ex) (J0 : Env → GS → Option (Value × GS)) (v0 v1 : Value) (G : GS) : Option (Value × GS) :=
  bP (pNil v0) fun x4 =>
  bP (fa Q q 50 1 4 x4) fun x5 =>
  bP (ld Q q 48 x5 G) fun x6 =>
  bP (ef Q q true 48 (.tmp 8) (.const .nilFunc) x6 .nilFunc) fun x7 =>
  ifV x7 (
  bP (pNil v0) fun x8 =>
  bP (fa Q q 50 1 4 x8) fun x9 =>
  bP (ld Q q 48 x9 G) fun x10 =>
  bS (cValue e.ev x10 [v1] G) fun x11 G12 =>
  J0 (xq q 21 (nth undef [v0, v1]) [(15, x11), (14, v1), (13, x10), (12, x9), (11, x8), (10, v0), (9, x7), (8, x6), (7, x5), (6, x4), (5, v0), (4, (.bool false))] []) G12) (
  J0 (xq q 21 (nth undef [v0, v1]) [(9, x7), (8, x6), (7, x5), (6, x4), (5, v0), (4, (.bool false))] []) G)
/-- (*coxswain/ring.work).step -/
noncomputable def s52 (q : Bool) (e : Ex) (v0 v1 : Value) (G : GS) : Option (Value × GS) := sb52 q e (j52_0 q e) v0 v1 G
theorem m52 {e : Ex} {E : Ev} (h : ExLe Q e E) (v0 v1 : Value) (G : GS) : Ref (s52 true e v0 v1 G) (s52 false (Ex.of E) v0 v1 G) := by
  unfold s52 sb52
  repeat' (with_reducible first | exact Ref.rfl' _ | exact ROp.r | refine Ref.bP ?_ fun _ => ?_ | refine Ref.bS ?_ fun _ _ => ?_ | exact Ref.cl (by assumption) | refine Ref.ifV ?_ ?_ | refine LpLe.rx (by assumption) ?_ | refine Ref.xitq ?_ | exact UOk.z | refine UOk.c (by assumption) ?_ | exact Ref.nil _ | refine Ref.bVe fun _ _ => ?_ | refine Ref.bLq (by assumption) ?_ fun _ _ _ => ?_ | refine Ref.ifE ?_ ?_ | refine Ref.chk ?_ ?_ | refine Imp.and ?_ ?_ | refine Imp.or ?_ | exact Imp.rfl' _ | refine Imp.sameO ?_ | refine Ref.gd ?_ | exact Ref.cValue (by assumption) | refine Ref.bX ?_ fun _ _ _ => ?_ | exact Ref.scQ (by assumption) | exact Ref.xRangeQ (by assumption) | exact Ref.cInvoke (by assumption) | refine mkj52_0 (by assumption) ?_)
noncomputable def jt52 (J0 : Env → GS → Option (Value × GS)) : JT (Value × GS) :=
  (.n none .e (.n (some (fun T G => J0 (nth undef T) G)) .e .e))
theorem jr52_0 (orc : FuncId → Bool) (J0 : Env → GS → Option (Value × GS)) (T : List Value) (G : GS) : runC Q (evL Q orc) Try.f52.ntmps (jt52 J0) (bodyOf Try.f52) (retE Q Try.f52.results.toList) [true] (nth undef T) G = jb52_0 false (Ex.of (E orc))  (nth undef T) G := by kernel_rfl
theorem jo52 (orc : FuncId → Bool) : JOk Q orc Try.f52.ntmps (jt52 (j52_0 false (Ex.of (E orc))) ) (bodyOf Try.f52) (retE Q Try.f52.results.toList) :=
  jOk Q orc (l := [([true], (fun T G => j52_0 false (Ex.of (E orc)) (nth undef T) G))]) (by kernel_rfl) (AllE.c (fun T G => jr52_0 orc (j52_0 false (Ex.of (E orc))) T G) (AllE.z))
theorem je52 (orc : FuncId → Bool) (J0 : Env → GS → Option (Value × GS)) (v0 v1 : Value) (G : GS) : sxC Q (evL Q orc) Try.f52.ntmps (jt52 J0) (bodyOf Try.f52) (nth undef [v0, v1]) G (retE Q Try.f52.results.toList) = sb52 false (Ex.of (E orc)) J0 v0 v1 G := by kernel_rfl
theorem f52 {orc : FuncId → Bool} {e : Ex} (h : ExLe Q e (E orc)) (v0 v1 : Value) (G : GS) : Ref (s52 true e v0 v1 G) ((E orc).cl 52 [v0, v1] G) :=
  fun r hr => cl_sxC Q orc (vs := [v0, v1]) G (jt52 (j52_0 false (Ex.of (E orc))) ) Try.func52 (by kernel_rfl) (by kernel_rfl) (by kernel_rfl) (by kernel_rfl) (by kernel_rfl) (jo52 orc) (je52 orc (j52_0 false (Ex.of (E orc))) v0 v1 G) (m52 h v0 v1 G r hr)
/-- (*coxswain/ring.work).told -/
noncomputable def s53 (q : Bool) (e : Ex) (v0 : Value) (G : GS) : Option (Value × GS) :=
  bP (pNil v0) fun x0 =>
  bP (fa Q q 50 2 5 x0) fun x1 =>
  bP (ld Q q 4 x1 G) fun x2 =>
  bP (un Q q .not x2) fun x3 =>
  ifV x3 (
  some ((.int .i64 1), G)) (
  bP (pNil v0) fun x4 =>
  bP (fa Q q 50 1 4 x4) fun x5 =>
  bP (ld Q q 48 x5 G) fun x6 =>
  bP (ef Q q true 48 (.tmp 13) (.const .nilFunc) x6 .nilFunc) fun x7 =>
  ifV x7 (
  some ((.int .i64 14), G)) (
  bP (pNil v0) fun x8 =>
  bP (fa Q q 50 3 6 x8) fun x9 =>
  bP (ld Q q 30 x9 G) fun x10 =>
  some (x10, G)))
theorem m53 {e : Ex} {E : Ev} (h : ExLe Q e E) (v0 : Value) (G : GS) : Ref (s53 true e v0 G) (s53 false (Ex.of E) v0 G) := by
  unfold s53
  exact Ref.gq
theorem f53 {orc : FuncId → Bool} {e : Ex} (h : ExLe Q e (E orc)) (v0 : Value) (G : GS) : Ref (s53 true e v0 G) ((E orc).cl 53 [v0] G) :=
  fun r hr => cl_sxE_some Q orc (vs := [v0]) G Try.func53 (by kernel_rfl) (by kernel_rfl) (by kernel_rfl) (by kernel_rfl) (by kernel_rfl) (by kernel_rfl) (m53 h v0 G r hr)
/-- coxswain/ring.sized -/
noncomputable def s54 (q : Bool) (e : Ex) (v0 : Value) (G : GS) : Option (Value × GS) :=
  bS (bx q v0 G) fun x0 G1 =>
  bP (fa Q q 28 3 3 x0) fun x2 =>
  bP (ld Q q 3 x2 G1) fun x3 =>
  bP (bn Q q .geq 3 (.tmp 4) (.const (.int .i64 1)) x3 (.int .i64 1)) fun x4 =>
  bS (gd x4 true (bP (fa Q q 28 3 3 x0) fun y => some (y, G1)) G1) fun x5 G6 =>
  bS (gd x4 true (bP (ld Q q 3 x5 G6) fun y => some (y, G6)) G6) fun x7 G8 =>
  bS (gd x4 true (bP (bn Q q .leq 3 (.tmp 8) (.const (.int .i64 4096)) x7 (.int .i64 4096)) fun y => some (y, G8)) G8) fun x9 G10 =>
  bP (pickV x4 x9 (.bool false)) fun x11 =>
  some (x11, G10)
theorem m54 {e : Ex} {E : Ev} (h : ExLe Q e E) (v0 : Value) (G : GS) : Ref (s54 true e v0 G) (s54 false (Ex.of E) v0 G) := by
  unfold s54
  exact Ref.gq
theorem f54 {orc : FuncId → Bool} {e : Ex} (h : ExLe Q e (E orc)) (v0 : Value) (G : GS) : Ref (s54 true e v0 G) ((E orc).cl 54 [v0] G) :=
  fun r hr => cl_sxE_some Q orc (vs := [v0]) G Try.func54 (by kernel_rfl) (by kernel_rfl) (by kernel_rfl) (by kernel_rfl) (by kernel_rfl) (by kernel_rfl) (m54 h v0 G r hr)
/-- coxswain/ring.All$1 -/
noncomputable def s55 (q : Bool) (e : Ex) (v0 v1 : Value) (G : GS) : Option (Value × GS) :=
  bP (bn Q q .lss 3 (.tmp 4) (.const (.int .i64 0)) v0 (.int .i64 0)) fun x0 =>
  bS (gd x0 false (some (v0, G)) G) fun x1 G2 =>
  bS (gd x0 false (bP (ld Q q 76 v1 G2) fun y => some (y, G2)) G2) fun x3 G4 =>
  bS (gd x0 false (bP (ln Q q 76 x3) fun y => some (y, G4)) G4) fun x5 G6 =>
  bS (gd x0 false (bP (bn Q q .geq 3 (.tmp 7) (.tmp 9) x1 x5) fun y => some (y, G6)) G6) fun x7 G8 =>
  bP (pickV x0 (.bool true) x7) fun x9 =>
  ifV x9 (
  some ((.int .u64 0), G8)) (
  bP (ld Q q 76 v1 G8) fun x10 =>
  bP (ias Q q 76 1 x10 v0) fun x11 =>
  bP (ld Q q 31 x11 G8) fun x12 =>
  some (x12, G8))
theorem m55 {e : Ex} {E : Ev} (h : ExLe Q e E) (v0 v1 : Value) (G : GS) : Ref (s55 true e v0 v1 G) (s55 false (Ex.of E) v0 v1 G) := by
  unfold s55
  exact Ref.gq
theorem f55 {orc : FuncId → Bool} {e : Ex} (h : ExLe Q e (E orc)) (v0 v1 : Value) (G : GS) : Ref (s55 true e v0 v1 G) ((E orc).cl 55 [v0, v1] G) :=
  fun r hr => cl_sxE_some Q orc (vs := [v0, v1]) G Try.func55 (by kernel_rfl) (by kernel_rfl) (by kernel_rfl) (by kernel_rfl) (by kernel_rfl) (by kernel_rfl) (m55 h v0 v1 G r hr)
/-- coxswain/ring.numbers -/
noncomputable def s56 (q : Bool) (e : Ex) (v0 v1 : Value) (G : GS) : Option (Value × GS) :=
  bS (bx q v0 G) fun x0 G1 =>
  bS (bx q v1 G1) fun x2 G3 =>
  some ((.func (.func 86) #[] #[x2, x0]), G3)
theorem m56 {e : Ex} {E : Ev} (h : ExLe Q e E) (v0 v1 : Value) (G : GS) : Ref (s56 true e v0 v1 G) (s56 false (Ex.of E) v0 v1 G) := by
  unfold s56
  exact Ref.gq
theorem f56 {orc : FuncId → Bool} {e : Ex} (h : ExLe Q e (E orc)) (v0 v1 : Value) (G : GS) : Ref (s56 true e v0 v1 G) ((E orc).cl 56 [v0, v1] G) :=
  fun r hr => cl_sxE_some Q orc (vs := [v0, v1]) G Try.func56 (by kernel_rfl) (by kernel_rfl) (by kernel_rfl) (by kernel_rfl) (by kernel_rfl) (by kernel_rfl) (m56 h v0 v1 G r hr)
/-- coxswain/ring.place -/
noncomputable def s57 (q : Bool) (e : Ex) (v0 v1 : Value) (G : GS) : Option (Value × GS) :=
  bS (bx q v0 G) fun x0 G1 =>
  bP (fa Q q 28 2 2 x0) fun x2 =>
  bP (ld Q q 3 x2 (G1.room 10)) fun x3 =>
  bP (fa Q q 28 3 3 x0) fun x4 =>
  bP (ld Q q 3 x4 (G1.room 10)) fun x5 =>
  bP (cv Q q 3 31 .i64 .u64 x5) fun x6 =>
  bP (bn Q q .rem 31 (.tmp 7) (.tmp 10) v1 x6) fun x7 =>
  bP (cv Q q 31 3 .u64 .i64 x7) fun x8 =>
  bP (bn Q q .add 3 (.tmp 6) (.tmp 12) x3 x8) fun x9 =>
  some (x9, (G1.room 10))
theorem m57 {e : Ex} {E : Ev} (h : ExLe Q e E) (v0 v1 : Value) (G : GS) : Ref (s57 true e v0 v1 G) (s57 false (Ex.of E) v0 v1 G) := by
  unfold s57
  exact Ref.gq
theorem f57 {orc : FuncId → Bool} {e : Ex} (h : ExLe Q e (E orc)) (v0 v1 : Value) (G : GS) : Ref (s57 true e v0 v1 G) ((E orc).cl 57 [v0, v1] G) :=
  fun r hr => cl_sxE_some Q orc (vs := [v0, v1]) G Try.func57 (by kernel_rfl) (by kernel_rfl) (by kernel_rfl) (by kernel_rfl) (by kernel_rfl) (by kernel_rfl) (m57 h v0 v1 G r hr)
/-- (coxswain/ring.slot).value -/
noncomputable def s58 (q : Bool) (e : Ex) (v0 : Value) (G : GS) : Option (Value × GS) :=
  bP (bn Q q .and 51 (.tmp 3) (.const (.int .u64 65535)) v0 (.int .u64 65535)) fun x0 =>
  bP (cv Q q 51 3 .u64 .i64 x0) fun x1 =>
  some (x1, G)
theorem m58 {e : Ex} {E : Ev} (h : ExLe Q e E) (v0 : Value) (G : GS) : Ref (s58 true e v0 G) (s58 false (Ex.of E) v0 G) := by
  unfold s58
  exact Ref.gq
theorem f58 {orc : FuncId → Bool} {e : Ex} (h : ExLe Q e (E orc)) (v0 : Value) (G : GS) : Ref (s58 true e v0 G) ((E orc).cl 58 [v0] G) :=
  fun r hr => cl_sxE_some Q orc (vs := [v0]) G Try.func58 (by kernel_rfl) (by kernel_rfl) (by kernel_rfl) (by kernel_rfl) (by kernel_rfl) (by kernel_rfl) (m58 h v0 G r hr)
/-- (*coxswain/ring.Front).head -/
noncomputable def s59 (q : Bool) (e : Ex) (v0 v1 : Value) (G : GS) : Option (Value × GS) :=
  bP (pNil v0) fun x0 =>
  bP (fa Q q 56 0 0 x0) fun x1 =>
  bP (fa Q q 50 0 0 x1) fun x2 =>
  bP (fa Q q 28 0 0 x2) fun x3 =>
  bP (ld Q q 3 x3 G) fun x4 =>
  bS (e.ev.cl 11 [v1, x4] G) fun x5 G6 =>
  bP (pNil v0) fun x7 =>
  bP (fa Q q 56 1 7 x7) fun x8 =>
  bP (st Q q 31 1 x8 x5 G6) fun G9 =>
  bP (pNil v0) fun x10 =>
  bP (fa Q q 56 0 0 x10) fun x11 =>
  bP (fa Q q 50 1 4 x11) fun x12 =>
  bP (st Q q 48 1 x12 (.func (.func 89) #[v0] #[]) G9) fun G13 =>
  some (.tuple #[], G13)
theorem m59 {e : Ex} {E : Ev} (h : ExLe Q e E) (v0 v1 : Value) (G : GS) : Ref (s59 true e v0 v1 G) (s59 false (Ex.of E) v0 v1 G) := by
  unfold s59
  exact Ref.gq
theorem f59 {orc : FuncId → Bool} {e : Ex} (h : ExLe Q e (E orc)) (v0 v1 : Value) (G : GS) : Ref (s59 true e v0 v1 G) ((E orc).cl 59 [v0, v1] G) :=
  fun r hr => cl_sxE_some Q orc (vs := [v0, v1]) G Try.func59 (by kernel_rfl) (by kernel_rfl) (by kernel_rfl) (by kernel_rfl) (by kernel_rfl) (by kernel_rfl) (m59 h v0 v1 G r hr)
/-- (*coxswain/ring.Drop).clear -/
noncomputable def s60 (q : Bool) (e : Ex) (v0 v1 : Value) (G : GS) : Option (Value × GS) :=
  bP (pNil v0) fun x0 =>
  bP (fa Q q 60 0 0 x0) fun x1 =>
  bP (fa Q q 50 0 0 x1) fun x2 =>
  bP (lda Q q 28 4 x2 (G.room 24)) fun x3 =>
  bP (pNil v0) fun x4 =>
  bP (fa Q q 60 1 7 x4) fun x5 =>
  bP (ld Q q 31 x5 (G.room 24)) fun x6 =>
  bS (e.ev.cl 57 [x3, x6] (G.room 24)) fun x8 G7 =>
  bP (pNil v0) fun x9 =>
  bP (fa Q q 60 0 0 x9) fun x10 =>
  bP (fa Q q 50 0 0 x10) fun x11 =>
  bP (lda Q q 28 4 x11 G7) fun x12 =>
  chk ((sameO (lda Q q 28 4 x11 (G.room 24)) x12 && true)) <|
  bP (pNil v0) fun x13 =>
  bP (fa Q q 60 1 7 x13) fun x14 =>
  bP (ld Q q 31 x14 G7) fun x15 =>
  chk ((sameO (ld Q q 31 x14 (G.room 24)) x15 && true)) <|
  bS (e.ev.cl 88 [x12, x15] G7) fun x17 G16 =>
  bP (bn Q q .add 138 (.tmp 24) (.const (.int .u32 1)) x17 (.int .u32 1)) fun x18 =>
  bS (e.ev.cl 90 [x18] G16) fun x20 G19 =>
  bS (e.ev.cl 61 [v1, x8, x20] G19) fun x22 G21 =>
  bP (pNil v0) fun x23 =>
  bP (fa Q q 60 0 0 x23) fun x24 =>
  bP (fa Q q 50 1 4 x24) fun x25 =>
  bP (st Q q 48 1 x25 (.func (.func 91) #[v0] #[]) G21) fun G26 =>
  some (.tuple #[], G26)
theorem m60 {e : Ex} {E : Ev} (h : ExLe Q e E) (v0 v1 : Value) (G : GS) : Ref (s60 true e v0 v1 G) (s60 false (Ex.of E) v0 v1 G) := by
  unfold s60
  exact Ref.gq
theorem f60 {orc : FuncId → Bool} {e : Ex} (h : ExLe Q e (E orc)) (v0 v1 : Value) (G : GS) : Ref (s60 true e v0 v1 G) ((E orc).cl 60 [v0, v1] G) :=
  fun r hr => cl_sxE_some Q orc (vs := [v0, v1]) G Try.func60 (by kernel_rfl) (by kernel_rfl) (by kernel_rfl) (by kernel_rfl) (by kernel_rfl) (by kernel_rfl) (m60 h v0 v1 G r hr)
/-- (*coxswain/cells.Mem).Store -/
noncomputable def s61 (q : Bool) (e : Ex) (v0 v1 v2 : Value) (G : GS) : Option (Value × GS) :=
  bS (e.ev.cl 49 [v0, v1] G) fun x0 G1 =>
  bP (bd Q q 104 z104 [(0, 0, 1), (1, 1, 1)] [x0, v2]) fun x2 =>
  bS (al Q q 104 z104 G1) fun x3 G4 =>
  bP (st Q q 104 3 x3 x2 G4) fun G5 =>
  bP (fa Q q 104 0 0 x3) fun x6 =>
  bP (ld Q q 101 x6 G5) fun x7 =>
  bP (lda Q q 104 3 x3 G5) fun x8 =>
  bS (e.ev.cl 50 [v0, (.int .i64 2), v1, x7, (.func (.func 92) #[x8] #[])] G5) fun x9 G10 =>
  some (.tuple #[], G10)
theorem m61 {e : Ex} {E : Ev} (h : ExLe Q e E) (v0 v1 v2 : Value) (G : GS) : Ref (s61 true e v0 v1 v2 G) (s61 false (Ex.of E) v0 v1 v2 G) := by
  unfold s61
  exact Ref.gq
theorem f61 {orc : FuncId → Bool} {e : Ex} (h : ExLe Q e (E orc)) (v0 v1 v2 : Value) (G : GS) : Ref (s61 true e v0 v1 v2 G) ((E orc).cl 61 [v0, v1, v2] G) :=
  fun r hr => cl_sxE_some Q orc (vs := [v0, v1, v2]) G Try.func61 (by kernel_rfl) (by kernel_rfl) (by kernel_rfl) (by kernel_rfl) (by kernel_rfl) (by kernel_rfl) (m61 h v0 v1 v2 G r hr)
/-- (*coxswain/coxswainlaw14.crew).busy -/
noncomputable def s62 (q : Bool) (e : Ex) (v0 v1 : Value) (G : GS) : Option (Value × GS) :=
  bP (pNil v0) fun x0 =>
  bP (fa Q q 74 12 15 x0) fun x1 =>
  bP (ld Q q 38 x1 G) fun x2 =>
  bP (ias Q q 38 1 x2 v1) fun x3 =>
  bP (ld Q q 3 x3 G) fun x4 =>
  bP (bn Q q .geq 3 (.tmp 11) (.const (.int .i64 0)) x4 (.int .i64 0)) fun x5 =>
  some (x5, G)
theorem m62 {e : Ex} {E : Ev} (h : ExLe Q e E) (v0 v1 : Value) (G : GS) : Ref (s62 true e v0 v1 G) (s62 false (Ex.of E) v0 v1 G) := by
  unfold s62
  exact Ref.gq
theorem f62 {orc : FuncId → Bool} {e : Ex} (h : ExLe Q e (E orc)) (v0 v1 : Value) (G : GS) : Ref (s62 true e v0 v1 G) ((E orc).cl 62 [v0, v1] G) :=
  fun r hr => cl_sxE_some Q orc (vs := [v0, v1]) G Try.func62 (by kernel_rfl) (by kernel_rfl) (by kernel_rfl) (by kernel_rfl) (by kernel_rfl) (by kernel_rfl) (m62 h v0 v1 G r hr)
noncomputable def jb63_0 (q : Bool) (e : Ex) (τ : Env) (G : GS) : Option (Value × GS) :=
  bV q (τ 0) fun a0_ =>
  bV q (τ 1) fun a1_ =>
  bV q (τ 4) fun a4_ =>
  bP (pNil a0_) fun x18 =>
  bP (fa Q q 74 12 15 x18) fun x19 =>
  bP (ld Q q 38 x19 (G.room 12)) fun x20 =>
  bP (pNil a0_) fun x21 =>
  bP (fa Q q 74 11 14 x21) fun x22 =>
  bP (ld Q q 72 x22 (G.room 12)) fun x23 =>
  bP (ln Q q 72 x23) fun x24 =>
  bP (ias Q q 38 1 x20 a1_) fun x25 =>
  bP (st Q q 3 1 x25 x24 (G.room 12)) fun G26 =>
  bP (pNil a0_) fun x27 =>
  bP (fa Q q 74 11 14 x27) fun x28 =>
  bP (ld Q q 72 x28 (G26.room 11)) fun x29 =>
  bP (lda Q q 146 10 a4_ (G26.room 11)) fun x30 =>
  bS (bs Q q 72 1 (rep z146 1) 10 [(0, 0, 10)] [x30] ((G26.room 11).at' (G26.nx + 6))) fun x31 G32 =>
  bS (ap Q q 72 72 10 80 x29 x31 (G32.back (G26.room 11))) fun x34 G33 =>
  bP (pNil a0_) fun x35 =>
  bP (fa Q q 74 11 14 x35) fun x36 =>
  bP (st Q q 72 1 x36 x34 G33) fun G37 =>
  some (.tuple #[], G37)
noncomputable def j63_0 (q : Bool) (e : Ex) (τ : Env) (G : GS) : Option (Value × GS) := jb63_0 q e τ G
theorem mj63_0 {e : Ex} {E : Ev} (h : ExLe Q e E) (τ : Env) (G : GS) : Ref (j63_0 true e τ G) (j63_0 false (Ex.of E) τ G) := by
  unfold j63_0 jb63_0
  exact Ref.gq
theorem mkj63_0 {e : Ex} {E : Ev} (h : ExLe Q e E) {τ : Env} {l U : List (Nat × Value)} {G : GS} (hU : UOk τ U) : Ref (j63_0 true e (xq true 128 τ l U) G) (j63_0 false (Ex.of E) (xq false 128 τ l U) G) := by
  rw [xq_eq hU]
  exact mj63_0 h _ _
noncomputable def sb63 (q : Bool) (e : Ex) (J0 : Env → GS → Option (Value × GS)) (v0 v1 : Value) (G : GS) : Option (Value × GS) :=
  bP (pNil v0) fun x0 =>
  bP (fa Q q 74 13 16 x0) fun x1 =>
  bP (ld Q q 3 x1 G) fun x2 =>
  bP (bn Q q .add 3 (.tmp 8) (.const (.int .i64 1)) x2 (.int .i64 1)) fun x3 =>
  bP (pNil v0) fun x4 =>
  bP (fa Q q 74 13 16 x4) fun x5 =>
  bP (st Q q 3 1 x5 x3 G) fun G6 =>
  bP (pNil v0) fun x7 =>
  bP (fa Q q 74 11 14 x7) fun x8 =>
  bP (ld Q q 72 x8 (G6.room 12)) fun x9 =>
  bP (ln Q q 72 x9) fun x10 =>
  bP (pNil v0) fun x11 =>
  bP (fa Q q 74 13 16 x11) fun x12 =>
  bP (ld Q q 3 x12 (G6.room 12)) fun x13 =>
  bP (bd Q q 146 z146 [(0, 0, 1), (1, 1, 1), (2, 2, 1)] [x10, x13, (.int .i64 (-1))]) fun x14 =>
  bS (al Q q 146 z146 ((G6.room 12).at' (G6.nx + 10))) fun x15 G16 =>
  bP (st Q q 146 10 x15 x14 (G16.back (G6.room 12))) fun G17 =>
  bP (bn Q q .lss 3 (.tmp 33) (.const (.int .i64 2)) v1 (.int .i64 2)) fun x38 =>
  ifV x38 (
  bP (pNil v0) fun x39 =>
  bP (fa Q q 74 14 17 x39) fun x40 =>
  bP (ld Q q 3 x40 G17) fun x41 =>
  bP (bn Q q .add 3 (.tmp 38) (.const (.int .i64 1)) x41 (.int .i64 1)) fun x42 =>
  bP (pNil v0) fun x43 =>
  bP (fa Q q 74 14 17 x43) fun x44 =>
  bP (st Q q 3 1 x44 x42 G17) fun G45 =>
  bP (pNil v0) fun x46 =>
  bP (fa Q q 74 3 6 x46) fun x47 =>
  bP (ld Q q 38 x47 (G45.room 12)) fun x48 =>
  bP (pNil v0) fun x49 =>
  bP (fa Q q 74 14 17 x49) fun x50 =>
  bP (ld Q q 3 x50 (G45.room 12)) fun x51 =>
  bP (bn Q q .rem 3 (.tmp 50) (.const (.int .i64 65536)) x51 (.int .i64 65536)) fun x52 =>
  bP (ias Q q 38 1 x48 v1) fun x53 =>
  bP (st Q q 3 1 x53 x52 (G45.room 12)) fun G54 =>
  bP (pNil v0) fun x55 =>
  bP (fa Q q 74 2 5 x55) fun x56 =>
  bP (ld Q q 54 x56 (G54.room 19)) fun x57 =>
  bP (pNil v0) fun x58 =>
  bP (fa Q q 74 0 0 x58) fun x59 =>
  bP (lda Q q 28 4 x59 (G54.room 19)) fun x60 =>
  bP (pNil v0) fun x61 =>
  bP (fa Q q 74 3 6 x61) fun x62 =>
  bP (ld Q q 38 x62 (G54.room 19)) fun x63 =>
  bP (ias Q q 38 1 x63 v1) fun x64 =>
  bP (ld Q q 3 x64 (G54.room 19)) fun x65 =>
  bS (e.ev.cl 9 [x60, x65] (G54.room 19)) fun x67 G66 =>
  chk ((sameO (ld Q q 54 x56 G66) x57 && true)) <|
  bP (ias Q q 54 1 x57 v1) fun x68 =>
  bP (st Q q 25 1 x68 x67 G66) fun G69 =>
  bP (pNil v0) fun x70 =>
  bP (fa Q q 74 8 11 x70) fun x71 =>
  bP (ld Q q 71 x71 G69) fun x72 =>
  bP (ias Q q 71 1 x72 v1) fun x73 =>
  bP (st Q q 30 1 x73 (.int .i64 14) G69) fun G74 =>
  bP (pNil v0) fun x75 =>
  bP (fa Q q 74 3 6 x75) fun x76 =>
  bP (ld Q q 38 x76 G74) fun x77 =>
  bP (ias Q q 38 1 x77 v1) fun x78 =>
  bP (ld Q q 3 x78 G74) fun x79 =>
  bP (cv Q q 3 31 .i64 .u64 x79) fun x80 =>
  bP (bd Q q 142 z142 [(0, 0, 1), (3, 3, 1)] [(.int .i64 1), x80]) fun x81 =>
  bP (fa Q q 146 3 3 x15) fun x82 =>
  bP (st Q q 142 4 x82 x81 G74) fun G83 =>
  J0 (xq q 128 (nth undef [v0, v1]) [(86, x82), (85, x81), (84, x80), (83, x79), (82, x78), (81, v1), (80, x77), (79, x76), (78, x75), (77, v0), (76, x73), (75, v1), (74, x72), (73, x71), (72, x70), (71, v0), (70, x68), (69, x67), (68, x65), (67, x64), (66, v1), (65, x63), (64, x62), (63, x61), (62, v0), (61, x60), (60, x59), (59, x58), (58, v0), (57, v1), (56, x57), (55, x56), (54, x55), (53, v0), (52, x53), (51, x52), (50, x51), (49, x50), (48, x49), (47, v0), (46, v1), (45, x48), (44, x47), (43, x46), (42, v0), (41, x44), (40, x43), (39, x42), (38, x41), (37, x40), (36, x39), (35, v0), (32, x38), (34, x38), (33, v1), (4, x15), (21, x14), (20, x13), (19, x12), (18, x11), (17, v0), (16, x10), (15, x9), (14, x8), (13, x7), (12, v0), (11, x5), (10, x4), (9, x3), (8, x2), (7, x1), (6, x0), (5, v0)] []) G83) (
  bP (pNil v0) fun x84 =>
  bP (fa Q q 74 6 9 x84) fun x85 =>
  bP (ld Q q 4 x85 G17) fun x86 =>
  ifV x86 (
  bP (pNil v0) fun x87 =>
  bP (fa Q q 74 0 0 x87) fun x88 =>
  bP (lda Q q 28 4 x88 (G17.room 14)) fun x89 =>
  bP (pNil v0) fun x90 =>
  bP (fa Q q 74 4 7 x90) fun x91 =>
  bP (ld Q q 41 x91 (G17.room 14)) fun x92 =>
  bS (e.ev.cl 26 [x92] (G17.room 14)) fun x94 G93 =>
  chk ((sameO (lda Q q 28 4 x88 G93) x89 && true)) <|
  bS (e.ev.cl 28 [x89, x94] G93) fun x96 G95 =>
  bP (pNil v0) fun x97 =>
  bP (fa Q q 74 5 8 x97) fun x98 =>
  bP (st Q q 58 1 x98 x96 G95) fun G99 =>
  bP (bd Q q 142 z142 [(0, 0, 1)] [(.int .i64 3)]) fun x100 =>
  bP (fa Q q 146 3 3 x15) fun x101 =>
  bP (st Q q 142 4 x101 x100 G99) fun G102 =>
  J0 (xq q 128 (nth undef [v0, v1]) [(106, x101), (105, x100), (104, x98), (103, x97), (102, x96), (101, x94), (100, x92), (99, x91), (98, x90), (97, v0), (96, x89), (95, x88), (94, x87), (93, v0), (92, v0), (87, x86), (91, x86), (90, x85), (89, x84), (88, v0), (32, x38), (34, x38), (33, v1), (4, x15), (21, x14), (20, x13), (19, x12), (18, x11), (17, v0), (16, x10), (15, x9), (14, x8), (13, x7), (12, v0), (11, x5), (10, x4), (9, x3), (8, x2), (7, x1), (6, x0), (5, v0)] []) G102) (
  bP (pNil v0) fun x103 =>
  bP (fa Q q 74 0 0 x103) fun x104 =>
  bP (lda Q q 28 4 x104 G17) fun x105 =>
  bS (e.ev.cl 19 [x105] G17) fun x106 G107 =>
  bP (pNil v0) fun x108 =>
  bP (fa Q q 74 4 7 x108) fun x109 =>
  bP (st Q q 41 1 x109 x106 G107) fun G110 =>
  bP (bd Q q 142 z142 [(0, 0, 1)] [(.int .i64 2)]) fun x111 =>
  bP (fa Q q 146 3 3 x15) fun x112 =>
  bP (st Q q 142 4 x112 x111 G110) fun G113 =>
  J0 (xq q 128 (nth undef [v0, v1]) [(31, x112), (30, x111), (29, x109), (28, x108), (27, x106), (26, x105), (25, x104), (24, x103), (23, v0), (22, v0), (87, x86), (91, x86), (90, x85), (89, x84), (88, v0), (32, x38), (34, x38), (33, v1), (4, x15), (21, x14), (20, x13), (19, x12), (18, x11), (17, v0), (16, x10), (15, x9), (14, x8), (13, x7), (12, v0), (11, x5), (10, x4), (9, x3), (8, x2), (7, x1), (6, x0), (5, v0)] []) G113))
/-- (*coxswain/coxswainlaw14.crew).begins -/
noncomputable def s63 (q : Bool) (e : Ex) (v0 v1 : Value) (G : GS) : Option (Value × GS) := sb63 q e (j63_0 q e) v0 v1 G
theorem m63 {e : Ex} {E : Ev} (h : ExLe Q e E) (v0 v1 : Value) (G : GS) : Ref (s63 true e v0 v1 G) (s63 false (Ex.of E) v0 v1 G) := by
  unfold s63 sb63
  repeat' (with_reducible first | exact Ref.rfl' _ | exact ROp.r | refine Ref.bP ?_ fun _ => ?_ | refine Ref.bS ?_ fun _ _ => ?_ | exact Ref.cl (by assumption) | refine Ref.ifV ?_ ?_ | refine LpLe.rx (by assumption) ?_ | refine Ref.xitq ?_ | exact UOk.z | refine UOk.c (by assumption) ?_ | exact Ref.nil _ | refine Ref.bVe fun _ _ => ?_ | refine Ref.bLq (by assumption) ?_ fun _ _ _ => ?_ | refine Ref.ifE ?_ ?_ | refine Ref.chk ?_ ?_ | refine Imp.and ?_ ?_ | refine Imp.or ?_ | exact Imp.rfl' _ | refine Imp.sameO ?_ | refine Ref.gd ?_ | exact Ref.cValue (by assumption) | refine Ref.bX ?_ fun _ _ _ => ?_ | exact Ref.scQ (by assumption) | exact Ref.xRangeQ (by assumption) | exact Ref.cInvoke (by assumption) | refine mkj63_0 (by assumption) ?_)
noncomputable def jt63 (J0 : Env → GS → Option (Value × GS)) : JT (Value × GS) :=
  (.n none .e (.n none .e (.n (some (fun T G => J0 (nth undef T) G)) .e .e)))
set_option maxHeartbeats 8000000 in
theorem jr63_0 (orc : FuncId → Bool) (J0 : Env → GS → Option (Value × GS)) (T : List Value) (G : GS) : runC Q (evL Q orc) Try.f63.ntmps (jt63 J0) (bodyOf Try.f63) (retE Q Try.f63.results.toList) [true, true] (nth undef T) G = jb63_0 false (Ex.of (E orc))  (nth undef T) G := by kernel_rfl
set_option maxHeartbeats 8000000 in
theorem jo63 (orc : FuncId → Bool) : JOk Q orc Try.f63.ntmps (jt63 (j63_0 false (Ex.of (E orc))) ) (bodyOf Try.f63) (retE Q Try.f63.results.toList) :=
  jOk Q orc (l := [([true, true], (fun T G => j63_0 false (Ex.of (E orc)) (nth undef T) G))]) (by kernel_rfl) (AllE.c (fun T G => jr63_0 orc (j63_0 false (Ex.of (E orc))) T G) (AllE.z))
set_option maxHeartbeats 8000000 in
theorem je63 (orc : FuncId → Bool) (J0 : Env → GS → Option (Value × GS)) (v0 v1 : Value) (G : GS) : sxC Q (evL Q orc) Try.f63.ntmps (jt63 J0) (bodyOf Try.f63) (nth undef [v0, v1]) G (retE Q Try.f63.results.toList) = sb63 false (Ex.of (E orc)) J0 v0 v1 G := by kernel_rfl
set_option maxHeartbeats 8000000 in
theorem f63 {orc : FuncId → Bool} {e : Ex} (h : ExLe Q e (E orc)) (v0 v1 : Value) (G : GS) : Ref (s63 true e v0 v1 G) ((E orc).cl 63 [v0, v1] G) :=
  fun r hr => cl_sxC Q orc (vs := [v0, v1]) G (jt63 (j63_0 false (Ex.of (E orc))) ) Try.func63 (by kernel_rfl) (by kernel_rfl) (by kernel_rfl) (by kernel_rfl) (by kernel_rfl) (jo63 orc) (je63 orc (j63_0 false (Ex.of (E orc))) v0 v1 G) (m63 h v0 v1 G r hr)
/-- (*coxswain/coxswainlaw14.crew).steps -/
noncomputable def s64 (q : Bool) (e : Ex) (v0 v1 : Value) (G : GS) : Option (Value × GS) :=
  bP (bn Q q .lss 3 (.tmp 5) (.const (.int .i64 2)) v1 (.int .i64 2)) fun x0 =>
  ifV x0 (
  bS (e.ev.cl 93 [v0, v1] G) fun x1 G2 =>
  some (x1, G2)) (
  bS (e.ev.cl 94 [v0] G) fun x3 G4 =>
  some (x3, G4))
theorem m64 {e : Ex} {E : Ev} (h : ExLe Q e E) (v0 v1 : Value) (G : GS) : Ref (s64 true e v0 v1 G) (s64 false (Ex.of E) v0 v1 G) := by
  unfold s64
  exact Ref.gq
theorem f64 {orc : FuncId → Bool} {e : Ex} (h : ExLe Q e (E orc)) (v0 v1 : Value) (G : GS) : Ref (s64 true e v0 v1 G) ((E orc).cl 64 [v0, v1] G) :=
  fun r hr => cl_sxE_some Q orc (vs := [v0, v1]) G Try.func64 (by kernel_rfl) (by kernel_rfl) (by kernel_rfl) (by kernel_rfl) (by kernel_rfl) (by kernel_rfl) (m64 h v0 v1 G r hr)
/-- coxswain/coxswainref14.size -/
noncomputable def s65 (q : Bool) (e : Ex) (v0 : Value) (G : GS) : Option (Value × GS) :=
  bP (bn Q q .geq 3 (.tmp 3) (.const (.int .i64 1)) v0 (.int .i64 1)) fun x0 =>
  bS (gd x0 true (some (v0, G)) G) fun x1 G2 =>
  bS (gd x0 true (bP (bn Q q .leq 3 (.tmp 6) (.const (.int .i64 4096)) x1 (.int .i64 4096)) fun y => some (y, G2)) G2) fun x3 G4 =>
  bP (pickV x0 x3 (.bool false)) fun x5 =>
  some (x5, G4)
theorem m65 {e : Ex} {E : Ev} (h : ExLe Q e E) (v0 : Value) (G : GS) : Ref (s65 true e v0 G) (s65 false (Ex.of E) v0 G) := by
  unfold s65
  exact Ref.gq
theorem f65 {orc : FuncId → Bool} {e : Ex} (h : ExLe Q e (E orc)) (v0 : Value) (G : GS) : Ref (s65 true e v0 G) ((E orc).cl 65 [v0] G) :=
  fun r hr => cl_sxE_some Q orc (vs := [v0]) G Try.func65 (by kernel_rfl) (by kernel_rfl) (by kernel_rfl) (by kernel_rfl) (by kernel_rfl) (by kernel_rfl) (m65 h v0 G r hr)
/-- coxswain/coxswainref02.New -/
noncomputable def s66 (q : Bool) (e : Ex) (v0 : Value) (G : GS) : Option (Value × GS) :=
  bP (bn Q q .lss 3 (.tmp 4) (.const (.int .i64 1)) v0 (.int .i64 1)) fun x0 =>
  bS (gd x0 false (some (v0, G)) G) fun x1 G2 =>
  bS (gd x0 false (bP (bn Q q .gtr 3 (.tmp 7) (.const (.int .i64 4096)) x1 (.int .i64 4096)) fun y => some (y, G2)) G2) fun x3 G4 =>
  bP (pickV x0 (.bool true) x3) fun x5 =>
  ifV x5 (
  some (.tuple #[(.pointer none), (.int .i64 3)], G4)) (
  bS (mk Q q 76 1 8 z31 v0 v0 G4) fun x6 G7 =>
  bP (bd Q q 133 z133 [(0, 0, 1)] [x6]) fun x8 =>
  bS (bx q x8 G7) fun x9 G10 =>
  some (.tuple #[x9, (.int .i64 0)], G10))
theorem m66 {e : Ex} {E : Ev} (h : ExLe Q e E) (v0 : Value) (G : GS) : Ref (s66 true e v0 G) (s66 false (Ex.of E) v0 G) := by
  unfold s66
  exact Ref.gq
theorem f66 {orc : FuncId → Bool} {e : Ex} (h : ExLe Q e (E orc)) (v0 : Value) (G : GS) : Ref (s66 true e v0 G) ((E orc).cl 66 [v0] G) :=
  fun r hr => cl_sxE_some Q orc (vs := [v0]) G Try.func66 (by kernel_rfl) (by kernel_rfl) (by kernel_rfl) (by kernel_rfl) (by kernel_rfl) (by kernel_rfl) (m66 h v0 G r hr)
noncomputable def b67_0 (q : Bool) (e : Ex) (lp : Env → GS → Option (Exit × Env × GS)) (τ : Env) (G : GS) : Option (Exit × Env × GS) :=
  bV q (τ 1) fun a1_ =>
  bV q (τ 2) fun a2_ =>
  bV q (τ 4) fun a4_ =>
  bP (fa Q q 28 3 3 a2_) fun x0 =>
  bP (ld Q q 3 x0 G) fun x1 =>
  bP (bn Q q .lss 3 (.tmp 17) (.tmp 19) a4_ x1) fun x2 =>
  ifV x2 (
  bP (fa Q q 28 2 2 a2_) fun x3 =>
  bP (ld Q q 3 x3 G) fun x4 =>
  bP (bn Q q .add 3 (.tmp 25) (.tmp 26) x4 a4_) fun x5 =>
  bS (e.ev.cl 68 [a1_, x5, (.int .u64 0)] G) fun x6 G7 =>
  bP (bn Q q .add 3 (.tmp 21) (.const (.int .i64 1)) a4_ (.int .i64 1)) fun x8 =>
  lp (xq q 29 τ [(4, x8), (22, x8), (21, a4_), (28, x6), (27, x5), (26, a4_), (25, x4), (24, x3), (23, a1_), (20, x2), (19, x1), (18, x0), (17, a4_)] [(1, a1_), (2, a2_)]) G7) (
  some ((.exit 0), xq q 29 τ [(20, x2), (19, x1), (18, x0), (17, a4_)] [(1, a1_), (2, a2_), (4, a4_)], G))
theorem mb67_0 {e : Ex} {E : Ev} (h : ExLe Q e E) {lp lp' : Env → GS → Option (Exit × Env × GS)} (hlp : LpLe lp lp') (τ : Env) (G : GS) : Ref (b67_0 true e lp τ G) (b67_0 false (Ex.of E) lp' τ G) := by
  unfold b67_0
  exact Ref.gq
theorem l67_0 {orc : FuncId → Bool} {e : Ex} (h : ExLe Q e (E orc)) (lp : Env → GS → Option (Exit × Env × GS)) (hlp : ∀ τ G, Ref (lp τ G) (mapE ((E orc).lp (subAt [1, 1, 1, 1, 1, 0, 0] (bodyOf Try.f67)) (lst 29 τ) G))) (T : List Value) (G : GS) (hT : T.length = 29) : Ref (b67_0 true e lp (nth undef T) G) (mapE ((E orc).lp (subAt [1, 1, 1, 1, 1, 0, 0] (bodyOf Try.f67)) T G)) :=
  fun r hr => lp_sxN Q orc G hT (by kernel_rfl) (mb67_0 h ⟨hlp⟩ _ _ r hr)
/-- coxswain/coxswainref14.Fill -/
noncomputable def s67 (q : Bool) (e : Ex) (v0 v1 : Value) (G : GS) : Option (Value × GS) :=
  bS (bx q v0 G) fun x0 G1 =>
  bP (fa Q q 28 3 3 x0) fun x2 =>
  bP (ld Q q 3 x2 G1) fun x3 =>
  bS (e.ev.cl 65 [x3] G1) fun x4 G5 =>
  bP (un Q q .not x4) fun x6 =>
  ifV x6 (
  some (.tuple #[], G5)) (
  bP (fa Q q 28 0 0 x0) fun x7 =>
  bP (ld Q q 3 x7 G5) fun x8 =>
  bS (e.ev.cl 68 [v1, x8, (.int .u64 0)] G5) fun x9 G10 =>
  bP (fa Q q 28 1 1 x0) fun x11 =>
  bP (ld Q q 3 x11 G10) fun x12 =>
  bS (e.ev.cl 68 [v1, x12, (.int .u64 0)] G10) fun x13 G14 =>
  bLq q e 67 0 (subAt [1, 1, 1, 1, 1, 0, 0] (bodyOf Try.f67)) 29 (nth undef [v0, v1]) [(4, (.int .i64 0)), (16, x13), (15, x12), (14, x11), (13, v1), (12, x9), (11, x8), (10, x7), (9, v1), (8, x6), (7, x4), (6, x3), (5, x2), (2, x0)] [] G14 fun e15 t16 G17 =>
  ifE e15 (.exit 0) (
  some (.tuple #[], G17)) (none))
theorem m67 {e : Ex} {E : Ev} (h : ExLe Q e E) (v0 v1 : Value) (G : GS) : Ref (s67 true e v0 v1 G) (s67 false (Ex.of E) v0 v1 G) := by
  unfold s67
  exact Ref.gq
theorem f67 {orc : FuncId → Bool} {e : Ex} (h : ExLe Q e (E orc)) (v0 v1 : Value) (G : GS) : Ref (s67 true e v0 v1 G) ((E orc).cl 67 [v0, v1] G) :=
  fun r hr => cl_sxE_some Q orc (vs := [v0, v1]) G Try.func67 (by kernel_rfl) (by kernel_rfl) (by kernel_rfl) (by kernel_rfl) (by kernel_rfl) (by kernel_rfl) (m67 h v0 v1 G r hr)
/-- (*coxswain/coxswainref02.Mem).Store -/
noncomputable def s68 (q : Bool) (e : Ex) (v0 v1 v2 : Value) (G : GS) : Option (Value × GS) :=
  bS (e.ev.cl 95 [v0, (.int .i64 2), v1, (.bool true), v2] G) fun x0 G1 =>
  some (.tuple #[], G1)
theorem m68 {e : Ex} {E : Ev} (h : ExLe Q e E) (v0 v1 v2 : Value) (G : GS) : Ref (s68 true e v0 v1 v2 G) (s68 false (Ex.of E) v0 v1 v2 G) := by
  unfold s68
  exact Ref.gq
theorem f68 {orc : FuncId → Bool} {e : Ex} (h : ExLe Q e (E orc)) (v0 v1 v2 : Value) (G : GS) : Ref (s68 true e v0 v1 v2 G) ((E orc).cl 68 [v0, v1, v2] G) :=
  fun r hr => cl_sxE_some Q orc (vs := [v0, v1, v2]) G Try.func68 (by kernel_rfl) (by kernel_rfl) (by kernel_rfl) (by kernel_rfl) (by kernel_rfl) (by kernel_rfl) (m68 h v0 v1 v2 G r hr)
/-- coxswain/coxswainref14.NewPush -/
noncomputable def s69 (q : Bool) (e : Ex) (v0 v1 : Value) (G : GS) : Option (Value × GS) :=
  bS (bx q v0 G) fun x0 G1 =>
  bP (fa Q q 28 3 3 x0) fun x2 =>
  bP (ld Q q 3 x2 G1) fun x3 =>
  bS (e.ev.cl 65 [x3] G1) fun x4 G5 =>
  bP (un Q q .not x4) fun x6 =>
  ifV x6 (
  bP (bd Q q 149 z149 [(2, 5, 1), (5, 8, 1)] [(.int .i64 9), (.int .i64 2)]) fun x7 =>
  bS (bx q x7 G5) fun x8 G9 =>
  some (x8, G9)) (
  bP (bn Q q .lss 3 (.tmp 13) (.const (.int .i64 0)) v1 (.int .i64 0)) fun x10 =>
  bS (gd x10 false (some (v1, G5)) G5) fun x11 G12 =>
  bS (gd x10 false (bP (bn Q q .gtr 3 (.tmp 16) (.const (.int .i64 65535)) x11 (.int .i64 65535)) fun y => some (y, G12)) G12) fun x13 G14 =>
  bP (pickV x10 (.bool true) x13) fun x15 =>
  ifV x15 (
  bP (bd Q q 149 z149 [(2, 5, 1), (5, 8, 1)] [(.int .i64 9), (.int .i64 3)]) fun x16 =>
  bS (bx q x16 G14) fun x17 G18 =>
  some (x17, G18)) (
  bP (lda Q q 28 4 x0 G14) fun x19 =>
  bP (bd Q q 149 z149 [(0, 0, 4), (1, 4, 1), (2, 5, 1)] [x19, v1, (.int .i64 1)]) fun x20 =>
  bS (bx q x20 G14) fun x21 G22 =>
  some (x21, G22)))
theorem m69 {e : Ex} {E : Ev} (h : ExLe Q e E) (v0 v1 : Value) (G : GS) : Ref (s69 true e v0 v1 G) (s69 false (Ex.of E) v0 v1 G) := by
  unfold s69
  exact Ref.gq
theorem f69 {orc : FuncId → Bool} {e : Ex} (h : ExLe Q e (E orc)) (v0 v1 : Value) (G : GS) : Ref (s69 true e v0 v1 G) ((E orc).cl 69 [v0, v1] G) :=
  fun r hr => cl_sxE_some Q orc (vs := [v0, v1]) G Try.func69 (by kernel_rfl) (by kernel_rfl) (by kernel_rfl) (by kernel_rfl) (by kernel_rfl) (by kernel_rfl) (m69 h v0 v1 G r hr)
/-- coxswain/coxswainref14.NewFront -/
noncomputable def s70 (q : Bool) (e : Ex) (v0 : Value) (G : GS) : Option (Value × GS) :=
  bS (bx q v0 G) fun x0 G1 =>
  bP (fa Q q 28 3 3 x0) fun x2 =>
  bP (ld Q q 3 x2 G1) fun x3 =>
  bS (e.ev.cl 65 [x3] G1) fun x4 G5 =>
  bP (un Q q .not x4) fun x6 =>
  ifV x6 (
  bP (bd Q q 151 z151 [(1, 4, 1), (4, 7, 1)] [(.int .i64 9), (.int .i64 2)]) fun x7 =>
  bS (bx q x7 G5) fun x8 G9 =>
  some (x8, G9)) (
  bP (lda Q q 28 4 x0 G5) fun x10 =>
  bP (bd Q q 151 z151 [(0, 0, 4), (1, 4, 1)] [x10, (.int .i64 1)]) fun x11 =>
  bS (bx q x11 G5) fun x12 G13 =>
  some (x12, G13))
theorem m70 {e : Ex} {E : Ev} (h : ExLe Q e E) (v0 : Value) (G : GS) : Ref (s70 true e v0 G) (s70 false (Ex.of E) v0 G) := by
  unfold s70
  exact Ref.gq
theorem f70 {orc : FuncId → Bool} {e : Ex} (h : ExLe Q e (E orc)) (v0 : Value) (G : GS) : Ref (s70 true e v0 G) ((E orc).cl 70 [v0] G) :=
  fun r hr => cl_sxE_some Q orc (vs := [v0]) G Try.func70 (by kernel_rfl) (by kernel_rfl) (by kernel_rfl) (by kernel_rfl) (by kernel_rfl) (by kernel_rfl) (m70 h v0 G r hr)
/-- coxswain/coxswainref14.NewDrop -/
noncomputable def s71 (q : Bool) (e : Ex) (v0 v1 : Value) (G : GS) : Option (Value × GS) :=
  bS (bx q v0 G) fun x0 G1 =>
  bP (fa Q q 28 3 3 x0) fun x2 =>
  bP (ld Q q 3 x2 G1) fun x3 =>
  bS (e.ev.cl 65 [x3] G1) fun x4 G5 =>
  bP (un Q q .not x4) fun x6 =>
  ifV x6 (
  bP (bd Q q 153 z153 [(1, 4, 1), (3, 6, 1)] [(.int .i64 9), (.int .i64 2)]) fun x7 =>
  bS (bx q x7 G5) fun x8 G9 =>
  some (x8, G9)) (
  bP (lda Q q 28 4 x0 G5) fun x10 =>
  bP (bd Q q 153 z153 [(0, 0, 4), (1, 4, 1), (2, 5, 1)] [x10, (.int .i64 1), v1]) fun x11 =>
  bS (bx q x11 G5) fun x12 G13 =>
  some (x12, G13))
theorem m71 {e : Ex} {E : Ev} (h : ExLe Q e E) (v0 v1 : Value) (G : GS) : Ref (s71 true e v0 v1 G) (s71 false (Ex.of E) v0 v1 G) := by
  unfold s71
  exact Ref.gq
theorem f71 {orc : FuncId → Bool} {e : Ex} (h : ExLe Q e (E orc)) (v0 v1 : Value) (G : GS) : Ref (s71 true e v0 v1 G) ((E orc).cl 71 [v0, v1] G) :=
  fun r hr => cl_sxE_some Q orc (vs := [v0, v1]) G Try.func71 (by kernel_rfl) (by kernel_rfl) (by kernel_rfl) (by kernel_rfl) (by kernel_rfl) (by kernel_rfl) (m71 h v0 v1 G r hr)
noncomputable def jb72_0 (q : Bool) (e : Ex) (τ : Env) (G : GS) : Option (Value × GS) :=
  bV q (τ 0) fun a0_ =>
  bP (pNil a0_) fun x0 =>
  bP (fa Q q 149 2 5 x0) fun x1 =>
  bP (ld Q q 3 x1 G) fun x2 =>
  bP (bn Q q .eql 3 (.tmp 114) (.const (.int .i64 9)) x2 (.int .i64 9)) fun x3 =>
  some (x3, G)
noncomputable def j72_0 (q : Bool) (e : Ex) (τ : Env) (G : GS) : Option (Value × GS) := jb72_0 q e τ G
theorem mj72_0 {e : Ex} {E : Ev} (h : ExLe Q e E) (τ : Env) (G : GS) : Ref (j72_0 true e τ G) (j72_0 false (Ex.of E) τ G) := by
  unfold j72_0 jb72_0
  exact Ref.gq
theorem mkj72_0 {e : Ex} {E : Ev} (h : ExLe Q e E) {τ : Env} {l U : List (Nat × Value)} {G : GS} (hU : UOk τ U) : Ref (j72_0 true e (xq true 116 τ l U) G) (j72_0 false (Ex.of E) (xq false 116 τ l U) G) := by
  rw [xq_eq hU]
  exact mj72_0 h _ _
noncomputable def sb72 (q : Bool) (e : Ex) (J0 : Env → GS → Option (Value × GS)) (v0 v1 : Value) (G : GS) : Option (Value × GS) :=
  bP (pNil v0) fun x4 =>
  bP (fa Q q 149 2 5 x4) fun x5 =>
  bP (ld Q q 3 x5 G) fun x6 =>
  bP (bn Q q .eql 3 (.tmp 8) (.const (.int .i64 1)) x6 (.int .i64 1)) fun x7 =>
  ifV x7 (
  bP (pNil v0) fun x8 =>
  bP (fa Q q 149 0 0 x8) fun x9 =>
  bP (fa Q q 28 1 1 x9) fun x10 =>
  bP (ld Q q 3 x10 G) fun x11 =>
  bS (e.ev.cl 96 [v1, x11] G) fun x12 G13 =>
  bP (pNil v0) fun x14 =>
  bP (fa Q q 149 3 6 x14) fun x15 =>
  bP (st Q q 31 1 x15 x12 G13) fun G16 =>
  bP (pNil v0) fun x17 =>
  bP (fa Q q 149 2 5 x17) fun x18 =>
  bP (st Q q 3 1 x18 (.int .i64 2) G16) fun G19 =>
  J0 (xq q 116 (nth undef [v0, v1]) [(23, x18), (22, x17), (21, v0), (20, x15), (19, x14), (18, x12), (17, x11), (16, x10), (15, x9), (14, x8), (13, v0), (12, v1), (11, v0), (9, x7), (10, x7), (8, x6), (7, x5), (6, x4), (5, v0), (4, (.bool false))] []) G19) (
  bP (bn Q q .eql 3 (.tmp 8) (.const (.int .i64 2)) x6 (.int .i64 2)) fun x20 =>
  ifV x20 (
  bS (e.ev.cl 97 [v0, v1] G) fun x21 G22 =>
  J0 (xq q 116 (nth undef [v0, v1]) [(28, x21), (27, v1), (26, v0), (24, x20), (25, x20), (9, x7), (10, x7), (8, x6), (7, x5), (6, x4), (5, v0), (4, (.bool false))] []) G22) (
  bP (bn Q q .eql 3 (.tmp 8) (.const (.int .i64 3)) x6 (.int .i64 3)) fun x23 =>
  ifV x23 (
  bP (pNil v0) fun x24 =>
  bP (fa Q q 149 2 5 x24) fun x25 =>
  bP (st Q q 3 1 x25 (.int .i64 5) G) fun G26 =>
  bP (pNil v0) fun x27 =>
  bP (fa Q q 149 0 0 x27) fun x28 =>
  bP (lda Q q 28 4 x28 (G26.room 32)) fun x29 =>
  bP (pNil v0) fun x30 =>
  bP (fa Q q 149 3 6 x30) fun x31 =>
  bP (ld Q q 31 x31 (G26.room 32)) fun x32 =>
  bS (e.ev.cl 81 [x29, x32] (G26.room 32)) fun x34 G33 =>
  bP (pNil v0) fun x35 =>
  bP (fa Q q 149 4 7 x35) fun x36 =>
  bP (ld Q q 31 x36 G33) fun x37 =>
  chk ((sameO (ld Q q 31 x36 (G26.room 32)) x37 && true)) <|
  bP (pNil v0) fun x38 =>
  bP (fa Q q 149 0 0 x38) fun x39 =>
  bP (lda Q q 28 4 x39 G33) fun x40 =>
  chk ((sameO (lda Q q 28 4 x39 (G26.room 32)) x40 && true)) <|
  bP (pNil v0) fun x41 =>
  bP (fa Q q 149 3 6 x41) fun x42 =>
  bP (ld Q q 31 x42 G33) fun x43 =>
  chk ((sameO (ld Q q 31 x42 (G26.room 32)) x43 && true)) <|
  bS (e.ev.cl 82 [x40, x43] G33) fun x45 G44 =>
  chk ((sameO (ld Q q 31 x36 G44) x37 && true)) <|
  bP (bn Q q .shl 31 (.tmp 56) (.const (.int .u64 32)) x45 (.int .u64 32)) fun x46 =>
  bP (bn Q q .or 31 (.tmp 57) (.const (.int .u64 65536)) x46 (.int .u64 65536)) fun x47 =>
  bP (pNil v0) fun x48 =>
  bP (fa Q q 149 1 4 x48) fun x49 =>
  bP (ld Q q 3 x49 G44) fun x50 =>
  chk ((sameO (ld Q q 3 x49 G33) x50 && (sameO (ld Q q 3 x49 (G26.room 32)) x50 && true))) <|
  bP (cv Q q 3 31 .i64 .u64 x50) fun x51 =>
  bP (bn Q q .or 31 (.tmp 58) (.tmp 63) x47 x51) fun x52 =>
  bS (e.ev.cl 98 [v1, x34, x37, x52] G44) fun x54 G53 =>
  ifV x54 (
  bP (pNil v0) fun x55 =>
  bP (fa Q q 149 2 5 x55) fun x56 =>
  bP (st Q q 3 1 x56 (.int .i64 4) G53) fun G57 =>
  J0 (xq q 116 (nth undef [v0, v1]) [(68, x56), (67, x55), (66, v0), (65, x54), (64, x52), (63, x51), (62, x50), (61, x49), (60, x48), (59, v0), (58, x47), (57, x46), (56, x45), (55, x43), (54, x42), (53, x41), (52, v0), (51, x40), (50, x39), (49, x38), (48, v0), (47, x37), (46, x36), (45, x35), (44, v0), (43, x34), (42, x32), (41, x31), (40, x30), (39, v0), (38, x29), (37, x28), (36, x27), (35, v0), (34, v1), (33, x25), (32, x24), (31, v0), (29, x23), (30, x23), (24, x20), (25, x20), (9, x7), (10, x7), (8, x6), (7, x5), (6, x4), (5, v0), (4, (.bool false))] []) G57) (
  J0 (xq q 116 (nth undef [v0, v1]) [(65, x54), (64, x52), (63, x51), (62, x50), (61, x49), (60, x48), (59, v0), (58, x47), (57, x46), (56, x45), (55, x43), (54, x42), (53, x41), (52, v0), (51, x40), (50, x39), (49, x38), (48, v0), (47, x37), (46, x36), (45, x35), (44, v0), (43, x34), (42, x32), (41, x31), (40, x30), (39, v0), (38, x29), (37, x28), (36, x27), (35, v0), (34, v1), (33, x25), (32, x24), (31, v0), (29, x23), (30, x23), (24, x20), (25, x20), (9, x7), (10, x7), (8, x6), (7, x5), (6, x4), (5, v0), (4, (.bool false))] []) G53)) (
  bP (bn Q q .eql 3 (.tmp 8) (.const (.int .i64 4)) x6 (.int .i64 4)) fun x58 =>
  ifV x58 (
  bP (pNil v0) fun x59 =>
  bP (fa Q q 149 0 0 x59) fun x60 =>
  bP (fa Q q 28 1 1 x60) fun x61 =>
  bP (ld Q q 3 x61 (G.room 16)) fun x62 =>
  bP (pNil v0) fun x63 =>
  bP (fa Q q 149 3 6 x63) fun x64 =>
  bP (ld Q q 31 x64 (G.room 16)) fun x65 =>
  bP (pNil v0) fun x66 =>
  bP (fa Q q 149 3 6 x66) fun x67 =>
  bP (ld Q q 31 x67 (G.room 16)) fun x68 =>
  bP (bn Q q .add 31 (.tmp 84) (.const (.int .u64 1)) x68 (.int .u64 1)) fun x69 =>
  bS (e.ev.cl 98 [v1, x62, x65, x69] (G.room 16)) fun x71 G70 =>
  bP (pNil v0) fun x72 =>
  bP (fa Q q 149 2 5 x72) fun x73 =>
  bP (st Q q 3 1 x73 (.int .i64 9) G70) fun G74 =>
  J0 (xq q 116 (nth undef [v0, v1]) [(89, x73), (88, x72), (87, v0), (86, x71), (85, x69), (84, x68), (83, x67), (82, x66), (81, v0), (80, x65), (79, x64), (78, x63), (77, v0), (76, x62), (75, x61), (74, x60), (73, x59), (72, v0), (71, v1), (69, x58), (70, x58), (29, x23), (30, x23), (24, x20), (25, x20), (9, x7), (10, x7), (8, x6), (7, x5), (6, x4), (5, v0), (4, (.bool false))] []) G74) (
  bP (bn Q q .eql 3 (.tmp 8) (.const (.int .i64 5)) x6 (.int .i64 5)) fun x75 =>
  ifV x75 (
  bP (pNil v0) fun x76 =>
  bP (fa Q q 149 0 0 x76) fun x77 =>
  bP (fa Q q 28 1 1 x77) fun x78 =>
  bP (ld Q q 3 x78 (G.room 16)) fun x79 =>
  bP (pNil v0) fun x80 =>
  bP (fa Q q 149 3 6 x80) fun x81 =>
  bP (ld Q q 31 x81 (G.room 16)) fun x82 =>
  bP (pNil v0) fun x83 =>
  bP (fa Q q 149 3 6 x83) fun x84 =>
  bP (ld Q q 31 x84 (G.room 16)) fun x85 =>
  bP (bn Q q .add 31 (.tmp 105) (.const (.int .u64 1)) x85 (.int .u64 1)) fun x86 =>
  bS (e.ev.cl 98 [v1, x79, x82, x86] (G.room 16)) fun x88 G87 =>
  bP (pNil v0) fun x89 =>
  bP (fa Q q 149 2 5 x89) fun x90 =>
  bP (st Q q 3 1 x90 (.int .i64 1) G87) fun G91 =>
  J0 (xq q 116 (nth undef [v0, v1]) [(110, x90), (109, x89), (108, v0), (107, x88), (106, x86), (105, x85), (104, x84), (103, x83), (102, v0), (101, x82), (100, x81), (99, x80), (98, v0), (97, x79), (96, x78), (95, x77), (94, x76), (93, v0), (92, v1), (90, x75), (91, x75), (69, x58), (70, x58), (29, x23), (30, x23), (24, x20), (25, x20), (9, x7), (10, x7), (8, x6), (7, x5), (6, x4), (5, v0), (4, (.bool false))] []) G91) (
  J0 (xq q 116 (nth undef [v0, v1]) [(90, x75), (91, x75), (69, x58), (70, x58), (29, x23), (30, x23), (24, x20), (25, x20), (9, x7), (10, x7), (8, x6), (7, x5), (6, x4), (5, v0), (4, (.bool false))] []) G)))))
/-- (*coxswain/coxswainref14.Push).Step -/
noncomputable def s72 (q : Bool) (e : Ex) (v0 v1 : Value) (G : GS) : Option (Value × GS) := sb72 q e (j72_0 q e) v0 v1 G
theorem m72 {e : Ex} {E : Ev} (h : ExLe Q e E) (v0 v1 : Value) (G : GS) : Ref (s72 true e v0 v1 G) (s72 false (Ex.of E) v0 v1 G) := by
  unfold s72 sb72
  repeat' (with_reducible first | exact Ref.rfl' _ | exact ROp.r | refine Ref.bP ?_ fun _ => ?_ | refine Ref.bS ?_ fun _ _ => ?_ | exact Ref.cl (by assumption) | refine Ref.ifV ?_ ?_ | refine LpLe.rx (by assumption) ?_ | refine Ref.xitq ?_ | exact UOk.z | refine UOk.c (by assumption) ?_ | exact Ref.nil _ | refine Ref.bVe fun _ _ => ?_ | refine Ref.bLq (by assumption) ?_ fun _ _ _ => ?_ | refine Ref.ifE ?_ ?_ | refine Ref.chk ?_ ?_ | refine Imp.and ?_ ?_ | refine Imp.or ?_ | exact Imp.rfl' _ | refine Imp.sameO ?_ | refine Ref.gd ?_ | exact Ref.cValue (by assumption) | refine Ref.bX ?_ fun _ _ _ => ?_ | exact Ref.scQ (by assumption) | exact Ref.xRangeQ (by assumption) | exact Ref.cInvoke (by assumption) | refine mkj72_0 (by assumption) ?_)
noncomputable def jt72 (J0 : Env → GS → Option (Value × GS)) : JT (Value × GS) :=
  (.n none .e (.n (some (fun T G => J0 (nth undef T) G)) .e .e))
set_option maxHeartbeats 8000000 in
theorem jr72_0 (orc : FuncId → Bool) (J0 : Env → GS → Option (Value × GS)) (T : List Value) (G : GS) : runC Q (evL Q orc) Try.f72.ntmps (jt72 J0) (bodyOf Try.f72) (retE Q Try.f72.results.toList) [true] (nth undef T) G = jb72_0 false (Ex.of (E orc))  (nth undef T) G := by kernel_rfl
set_option maxHeartbeats 8000000 in
theorem jo72 (orc : FuncId → Bool) : JOk Q orc Try.f72.ntmps (jt72 (j72_0 false (Ex.of (E orc))) ) (bodyOf Try.f72) (retE Q Try.f72.results.toList) :=
  jOk Q orc (l := [([true], (fun T G => j72_0 false (Ex.of (E orc)) (nth undef T) G))]) (by kernel_rfl) (AllE.c (fun T G => jr72_0 orc (j72_0 false (Ex.of (E orc))) T G) (AllE.z))
set_option maxHeartbeats 8000000 in
theorem je72 (orc : FuncId → Bool) (J0 : Env → GS → Option (Value × GS)) (v0 v1 : Value) (G : GS) : sxC Q (evL Q orc) Try.f72.ntmps (jt72 J0) (bodyOf Try.f72) (nth undef [v0, v1]) G (retE Q Try.f72.results.toList) = sb72 false (Ex.of (E orc)) J0 v0 v1 G := by kernel_rfl
set_option maxHeartbeats 8000000 in
theorem f72 {orc : FuncId → Bool} {e : Ex} (h : ExLe Q e (E orc)) (v0 v1 : Value) (G : GS) : Ref (s72 true e v0 v1 G) ((E orc).cl 72 [v0, v1] G) :=
  fun r hr => cl_sxC Q orc (vs := [v0, v1]) G (jt72 (j72_0 false (Ex.of (E orc))) ) Try.func72 (by kernel_rfl) (by kernel_rfl) (by kernel_rfl) (by kernel_rfl) (by kernel_rfl) (jo72 orc) (je72 orc (j72_0 false (Ex.of (E orc))) v0 v1 G) (m72 h v0 v1 G r hr)
/-- (*coxswain/coxswainref14.Push).Err -/
noncomputable def s73 (q : Bool) (e : Ex) (v0 : Value) (G : GS) : Option (Value × GS) :=
  bP (pNil v0) fun x0 =>
  bP (fa Q q 149 2 5 x0) fun x1 =>
  bP (ld Q q 3 x1 (G.room 10)) fun x2 =>
  bP (pNil v0) fun x3 =>
  bP (fa Q q 149 5 8 x3) fun x4 =>
  bP (ld Q q 30 x4 (G.room 10)) fun x5 =>
  bS (e.ev.cl 99 [x2, x5] (G.room 10)) fun x7 G6 =>
  some (x7, G6)
theorem m73 {e : Ex} {E : Ev} (h : ExLe Q e E) (v0 : Value) (G : GS) : Ref (s73 true e v0 G) (s73 false (Ex.of E) v0 G) := by
  unfold s73
  exact Ref.gq
theorem f73 {orc : FuncId → Bool} {e : Ex} (h : ExLe Q e (E orc)) (v0 : Value) (G : GS) : Ref (s73 true e v0 G) ((E orc).cl 73 [v0] G) :=
  fun r hr => cl_sxE_some Q orc (vs := [v0]) G Try.func73 (by kernel_rfl) (by kernel_rfl) (by kernel_rfl) (by kernel_rfl) (by kernel_rfl) (by kernel_rfl) (m73 h v0 G r hr)
noncomputable def jb74_0 (q : Bool) (e : Ex) (τ : Env) (G : GS) : Option (Value × GS) :=
  bV q (τ 0) fun a0_ =>
  bP (pNil a0_) fun x0 =>
  bP (fa Q q 151 1 4 x0) fun x1 =>
  bP (ld Q q 3 x1 G) fun x2 =>
  bP (bn Q q .eql 3 (.tmp 67) (.const (.int .i64 9)) x2 (.int .i64 9)) fun x3 =>
  some (x3, G)
noncomputable def j74_0 (q : Bool) (e : Ex) (τ : Env) (G : GS) : Option (Value × GS) := jb74_0 q e τ G
theorem mj74_0 {e : Ex} {E : Ev} (h : ExLe Q e E) (τ : Env) (G : GS) : Ref (j74_0 true e τ G) (j74_0 false (Ex.of E) τ G) := by
  unfold j74_0 jb74_0
  exact Ref.gq
theorem mkj74_0 {e : Ex} {E : Ev} (h : ExLe Q e E) {τ : Env} {l U : List (Nat × Value)} {G : GS} (hU : UOk τ U) : Ref (j74_0 true e (xq true 69 τ l U) G) (j74_0 false (Ex.of E) (xq false 69 τ l U) G) := by
  rw [xq_eq hU]
  exact mj74_0 h _ _
noncomputable def sb74 (q : Bool) (e : Ex) (J0 : Env → GS → Option (Value × GS)) (v0 v1 : Value) (G : GS) : Option (Value × GS) :=
  bP (pNil v0) fun x4 =>
  bP (fa Q q 151 1 4 x4) fun x5 =>
  bP (ld Q q 3 x5 G) fun x6 =>
  bP (bn Q q .eql 3 (.tmp 9) (.const (.int .i64 1)) x6 (.int .i64 1)) fun x7 =>
  ifV x7 (
  bP (pNil v0) fun x8 =>
  bP (fa Q q 151 0 0 x8) fun x9 =>
  bP (fa Q q 28 0 0 x9) fun x10 =>
  bP (ld Q q 3 x10 G) fun x11 =>
  bS (e.ev.cl 96 [v1, x11] G) fun x12 G13 =>
  bP (pNil v0) fun x14 =>
  bP (fa Q q 151 2 5 x14) fun x15 =>
  bP (st Q q 31 1 x15 x12 G13) fun G16 =>
  bP (pNil v0) fun x17 =>
  bP (fa Q q 151 1 4 x17) fun x18 =>
  bP (st Q q 3 1 x18 (.int .i64 2) G16) fun G19 =>
  J0 (xq q 69 (nth undef [v0, v1]) [(24, x18), (23, x17), (22, v0), (21, x15), (20, x14), (19, x12), (18, x11), (17, x10), (16, x9), (15, x8), (14, v0), (13, v1), (12, v0), (10, x7), (11, x7), (9, x6), (8, x5), (7, x4), (6, v0), (4, (.bool false))] []) G19) (
  bP (bn Q q .eql 3 (.tmp 9) (.const (.int .i64 2)) x6 (.int .i64 2)) fun x20 =>
  ifV x20 (
  bP (pNil v0) fun x21 =>
  bP (fa Q q 151 0 0 x21) fun x22 =>
  bP (lda Q q 28 4 x22 (G.room 12)) fun x23 =>
  bP (pNil v0) fun x24 =>
  bP (fa Q q 151 2 5 x24) fun x25 =>
  bP (ld Q q 31 x25 (G.room 12)) fun x26 =>
  bS (e.ev.cl 81 [x23, x26] (G.room 12)) fun x28 G27 =>
  bS (e.ev.cl 96 [v1, x28] G27) fun x30 G29 =>
  bP (pNil v0) fun x31 =>
  bP (fa Q q 151 1 4 x31) fun x32 =>
  bP (st Q q 3 1 x32 (.int .i64 9) G29) fun G33 =>
  bP (pNil v0) fun x34 =>
  bP (fa Q q 151 4 7 x34) fun x35 =>
  bP (st Q q 30 1 x35 (.int .i64 15) G33) fun G36 =>
  bP (pNil v0) fun x37 =>
  bP (fa Q q 151 0 0 x37) fun x38 =>
  bP (lda Q q 28 4 x38 (G36.room 11)) fun x39 =>
  bP (pNil v0) fun x40 =>
  bP (fa Q q 151 2 5 x40) fun x41 =>
  bP (ld Q q 31 x41 (G36.room 11)) fun x42 =>
  bS (e.ev.cl 82 [x39, x42] (G36.room 11)) fun x44 G43 =>
  bS (e.ev.cl 80 [x30, x44] G43) fun x46 G45 =>
  ifV x46 (
  bP (bn Q q .rem 31 (.tmp 56) (.const (.int .u64 65536)) x30 (.int .u64 65536)) fun x47 =>
  bP (cv Q q 31 3 .u64 .i64 x47) fun x48 =>
  bP (pNil v0) fun x49 =>
  bP (fa Q q 151 3 6 x49) fun x50 =>
  bP (st Q q 3 1 x50 x48 G45) fun G51 =>
  bP (pNil v0) fun x52 =>
  bP (fa Q q 151 4 7 x52) fun x53 =>
  bP (st Q q 30 1 x53 (.int .i64 0) G51) fun G54 =>
  J0 (xq q 69 (nth undef [v0, v1]) [(63, x53), (62, x52), (61, v0), (60, x50), (59, x49), (58, x48), (57, x47), (56, x30), (55, v0), (54, x46), (53, x44), (52, x42), (51, x41), (50, x40), (49, v0), (48, x39), (47, x38), (46, x37), (45, v0), (44, x30), (43, x35), (42, x34), (41, v0), (40, x32), (39, x31), (38, v0), (5, x30), (37, x30), (36, x28), (35, x26), (34, x25), (33, x24), (32, v0), (31, x23), (30, x22), (29, x21), (28, v0), (27, v1), (25, x20), (26, x20), (10, x7), (11, x7), (9, x6), (8, x5), (7, x4), (6, v0), (4, (.bool false))] []) G54) (
  J0 (xq q 69 (nth undef [v0, v1]) [(54, x46), (53, x44), (52, x42), (51, x41), (50, x40), (49, v0), (48, x39), (47, x38), (46, x37), (45, v0), (44, x30), (43, x35), (42, x34), (41, v0), (40, x32), (39, x31), (38, v0), (5, x30), (37, x30), (36, x28), (35, x26), (34, x25), (33, x24), (32, v0), (31, x23), (30, x22), (29, x21), (28, v0), (27, v1), (25, x20), (26, x20), (10, x7), (11, x7), (9, x6), (8, x5), (7, x4), (6, v0), (4, (.bool false))] []) G45)) (
  J0 (xq q 69 (nth undef [v0, v1]) [(25, x20), (26, x20), (10, x7), (11, x7), (9, x6), (8, x5), (7, x4), (6, v0), (4, (.bool false))] []) G))
/-- (*coxswain/coxswainref14.Front).Step -/
noncomputable def s74 (q : Bool) (e : Ex) (v0 v1 : Value) (G : GS) : Option (Value × GS) := sb74 q e (j74_0 q e) v0 v1 G
theorem m74 {e : Ex} {E : Ev} (h : ExLe Q e E) (v0 v1 : Value) (G : GS) : Ref (s74 true e v0 v1 G) (s74 false (Ex.of E) v0 v1 G) := by
  unfold s74 sb74
  repeat' (with_reducible first | exact Ref.rfl' _ | exact ROp.r | refine Ref.bP ?_ fun _ => ?_ | refine Ref.bS ?_ fun _ _ => ?_ | exact Ref.cl (by assumption) | refine Ref.ifV ?_ ?_ | refine LpLe.rx (by assumption) ?_ | refine Ref.xitq ?_ | exact UOk.z | refine UOk.c (by assumption) ?_ | exact Ref.nil _ | refine Ref.bVe fun _ _ => ?_ | refine Ref.bLq (by assumption) ?_ fun _ _ _ => ?_ | refine Ref.ifE ?_ ?_ | refine Ref.chk ?_ ?_ | refine Imp.and ?_ ?_ | refine Imp.or ?_ | exact Imp.rfl' _ | refine Imp.sameO ?_ | refine Ref.gd ?_ | exact Ref.cValue (by assumption) | refine Ref.bX ?_ fun _ _ _ => ?_ | exact Ref.scQ (by assumption) | exact Ref.xRangeQ (by assumption) | exact Ref.cInvoke (by assumption) | refine mkj74_0 (by assumption) ?_)
noncomputable def jt74 (J0 : Env → GS → Option (Value × GS)) : JT (Value × GS) :=
  (.n none .e (.n (some (fun T G => J0 (nth undef T) G)) .e .e))
theorem jr74_0 (orc : FuncId → Bool) (J0 : Env → GS → Option (Value × GS)) (T : List Value) (G : GS) : runC Q (evL Q orc) Try.f74.ntmps (jt74 J0) (bodyOf Try.f74) (retE Q Try.f74.results.toList) [true] (nth undef T) G = jb74_0 false (Ex.of (E orc))  (nth undef T) G := by kernel_rfl
theorem jo74 (orc : FuncId → Bool) : JOk Q orc Try.f74.ntmps (jt74 (j74_0 false (Ex.of (E orc))) ) (bodyOf Try.f74) (retE Q Try.f74.results.toList) :=
  jOk Q orc (l := [([true], (fun T G => j74_0 false (Ex.of (E orc)) (nth undef T) G))]) (by kernel_rfl) (AllE.c (fun T G => jr74_0 orc (j74_0 false (Ex.of (E orc))) T G) (AllE.z))
theorem je74 (orc : FuncId → Bool) (J0 : Env → GS → Option (Value × GS)) (v0 v1 : Value) (G : GS) : sxC Q (evL Q orc) Try.f74.ntmps (jt74 J0) (bodyOf Try.f74) (nth undef [v0, v1]) G (retE Q Try.f74.results.toList) = sb74 false (Ex.of (E orc)) J0 v0 v1 G := by kernel_rfl
theorem f74 {orc : FuncId → Bool} {e : Ex} (h : ExLe Q e (E orc)) (v0 v1 : Value) (G : GS) : Ref (s74 true e v0 v1 G) ((E orc).cl 74 [v0, v1] G) :=
  fun r hr => cl_sxC Q orc (vs := [v0, v1]) G (jt74 (j74_0 false (Ex.of (E orc))) ) Try.func74 (by kernel_rfl) (by kernel_rfl) (by kernel_rfl) (by kernel_rfl) (by kernel_rfl) (jo74 orc) (je74 orc (j74_0 false (Ex.of (E orc))) v0 v1 G) (m74 h v0 v1 G r hr)
/-- (*coxswain/coxswainref14.Front).Value -/
noncomputable def s75 (q : Bool) (e : Ex) (v0 : Value) (G : GS) : Option (Value × GS) :=
  bP (pNil v0) fun x0 =>
  bP (fa Q q 151 3 6 x0) fun x1 =>
  bP (ld Q q 3 x1 (G.room 15)) fun x2 =>
  bP (pNil v0) fun x3 =>
  bP (fa Q q 151 1 4 x3) fun x4 =>
  bP (ld Q q 3 x4 (G.room 15)) fun x5 =>
  bP (pNil v0) fun x6 =>
  bP (fa Q q 151 4 7 x6) fun x7 =>
  bP (ld Q q 30 x7 (G.room 15)) fun x8 =>
  bS (e.ev.cl 99 [x5, x8] (G.room 15)) fun x10 G9 =>
  chk ((sameO (ld Q q 3 x1 G9) x2 && true)) <|
  some (.tuple #[x2, x10], G9)
theorem m75 {e : Ex} {E : Ev} (h : ExLe Q e E) (v0 : Value) (G : GS) : Ref (s75 true e v0 G) (s75 false (Ex.of E) v0 G) := by
  unfold s75
  exact Ref.gq
theorem f75 {orc : FuncId → Bool} {e : Ex} (h : ExLe Q e (E orc)) (v0 : Value) (G : GS) : Ref (s75 true e v0 G) ((E orc).cl 75 [v0] G) :=
  fun r hr => cl_sxE_some Q orc (vs := [v0]) G Try.func75 (by kernel_rfl) (by kernel_rfl) (by kernel_rfl) (by kernel_rfl) (by kernel_rfl) (by kernel_rfl) (m75 h v0 G r hr)
/-- (*coxswain/coxswainref14.Front).At -/
noncomputable def s76 (q : Bool) (e : Ex) (v0 : Value) (G : GS) : Option (Value × GS) :=
  bP (pNil v0) fun x0 =>
  bP (fa Q q 151 2 5 x0) fun x1 =>
  bP (ld Q q 31 x1 G) fun x2 =>
  some (x2, G)
theorem m76 {e : Ex} {E : Ev} (h : ExLe Q e E) (v0 : Value) (G : GS) : Ref (s76 true e v0 G) (s76 false (Ex.of E) v0 G) := by
  unfold s76
  exact Ref.gq
theorem f76 {orc : FuncId → Bool} {e : Ex} (h : ExLe Q e (E orc)) (v0 : Value) (G : GS) : Ref (s76 true e v0 G) ((E orc).cl 76 [v0] G) :=
  fun r hr => cl_sxE_some Q orc (vs := [v0]) G Try.func76 (by kernel_rfl) (by kernel_rfl) (by kernel_rfl) (by kernel_rfl) (by kernel_rfl) (by kernel_rfl) (m76 h v0 G r hr)
noncomputable def jb77_0 (q : Bool) (e : Ex) (τ : Env) (G : GS) : Option (Value × GS) :=
  bV q (τ 0) fun a0_ =>
  bP (pNil a0_) fun x0 =>
  bP (fa Q q 153 1 4 x0) fun x1 =>
  bP (ld Q q 3 x1 G) fun x2 =>
  bP (bn Q q .eql 3 (.tmp 57) (.const (.int .i64 9)) x2 (.int .i64 9)) fun x3 =>
  some (x3, G)
noncomputable def j77_0 (q : Bool) (e : Ex) (τ : Env) (G : GS) : Option (Value × GS) := jb77_0 q e τ G
theorem mj77_0 {e : Ex} {E : Ev} (h : ExLe Q e E) (τ : Env) (G : GS) : Ref (j77_0 true e τ G) (j77_0 false (Ex.of E) τ G) := by
  unfold j77_0 jb77_0
  exact Ref.gq
theorem mkj77_0 {e : Ex} {E : Ev} (h : ExLe Q e E) {τ : Env} {l U : List (Nat × Value)} {G : GS} (hU : UOk τ U) : Ref (j77_0 true e (xq true 59 τ l U) G) (j77_0 false (Ex.of E) (xq false 59 τ l U) G) := by
  rw [xq_eq hU]
  exact mj77_0 h _ _
noncomputable def sb77 (q : Bool) (e : Ex) (J0 : Env → GS → Option (Value × GS)) (v0 v1 : Value) (G : GS) : Option (Value × GS) :=
  bP (pNil v0) fun x4 =>
  bP (fa Q q 153 1 4 x4) fun x5 =>
  bP (ld Q q 3 x5 G) fun x6 =>
  bP (bn Q q .eql 3 (.tmp 8) (.const (.int .i64 1)) x6 (.int .i64 1)) fun x7 =>
  ifV x7 (
  bP (pNil v0) fun x8 =>
  bP (fa Q q 153 0 0 x8) fun x9 =>
  bP (lda Q q 28 4 x9 (G.room 23)) fun x10 =>
  bP (pNil v0) fun x11 =>
  bP (fa Q q 153 2 5 x11) fun x12 =>
  bP (ld Q q 31 x12 (G.room 23)) fun x13 =>
  bS (e.ev.cl 81 [x10, x13] (G.room 23)) fun x15 G14 =>
  bP (pNil v0) fun x16 =>
  bP (fa Q q 153 0 0 x16) fun x17 =>
  bP (lda Q q 28 4 x17 G14) fun x18 =>
  chk ((sameO (lda Q q 28 4 x17 (G.room 23)) x18 && true)) <|
  bP (pNil v0) fun x19 =>
  bP (fa Q q 153 2 5 x19) fun x20 =>
  bP (ld Q q 31 x20 G14) fun x21 =>
  chk ((sameO (ld Q q 31 x20 (G.room 23)) x21 && true)) <|
  bS (e.ev.cl 82 [x18, x21] G14) fun x23 G22 =>
  bP (bn Q q .add 31 (.tmp 29) (.const (.int .u64 1)) x23 (.int .u64 1)) fun x24 =>
  bP (bn Q q .rem 31 (.tmp 30) (.const (.int .u64 4294967296)) x24 (.int .u64 4294967296)) fun x25 =>
  bP (bn Q q .shl 31 (.tmp 31) (.const (.int .u64 32)) x25 (.int .u64 32)) fun x26 =>
  bS (e.ev.cl 68 [v1, x15, x26] G22) fun x28 G27 =>
  bP (pNil v0) fun x29 =>
  bP (fa Q q 153 1 4 x29) fun x30 =>
  bP (st Q q 3 1 x30 (.int .i64 2) G27) fun G31 =>
  J0 (xq q 59 (nth undef [v0, v1]) [(36, x30), (35, x29), (34, v0), (33, x28), (32, x26), (31, x25), (30, x24), (29, x23), (28, x21), (27, x20), (26, x19), (25, v0), (24, x18), (23, x17), (22, x16), (21, v0), (20, x15), (19, x13), (18, x12), (17, x11), (16, v0), (15, x10), (14, x9), (13, x8), (12, v0), (11, v1), (9, x7), (10, x7), (8, x6), (7, x5), (6, x4), (5, v0), (4, (.bool false))] []) G31) (
  bP (bn Q q .eql 3 (.tmp 8) (.const (.int .i64 2)) x6 (.int .i64 2)) fun x32 =>
  ifV x32 (
  bP (pNil v0) fun x33 =>
  bP (fa Q q 153 0 0 x33) fun x34 =>
  bP (fa Q q 28 0 0 x34) fun x35 =>
  bP (ld Q q 3 x35 (G.room 12)) fun x36 =>
  bP (pNil v0) fun x37 =>
  bP (fa Q q 153 2 5 x37) fun x38 =>
  bP (ld Q q 31 x38 (G.room 12)) fun x39 =>
  bP (bn Q q .add 31 (.tmp 48) (.const (.int .u64 1)) x39 (.int .u64 1)) fun x40 =>
  bS (e.ev.cl 68 [v1, x36, x40] (G.room 12)) fun x42 G41 =>
  bP (pNil v0) fun x43 =>
  bP (fa Q q 153 1 4 x43) fun x44 =>
  bP (st Q q 3 1 x44 (.int .i64 9) G41) fun G45 =>
  J0 (xq q 59 (nth undef [v0, v1]) [(53, x44), (52, x43), (51, v0), (50, x42), (49, x40), (48, x39), (47, x38), (46, x37), (45, v0), (44, x36), (43, x35), (42, x34), (41, x33), (40, v0), (39, v1), (37, x32), (38, x32), (9, x7), (10, x7), (8, x6), (7, x5), (6, x4), (5, v0), (4, (.bool false))] []) G45) (
  J0 (xq q 59 (nth undef [v0, v1]) [(37, x32), (38, x32), (9, x7), (10, x7), (8, x6), (7, x5), (6, x4), (5, v0), (4, (.bool false))] []) G))
/-- (*coxswain/coxswainref14.Drop).Step -/
noncomputable def s77 (q : Bool) (e : Ex) (v0 v1 : Value) (G : GS) : Option (Value × GS) := sb77 q e (j77_0 q e) v0 v1 G
theorem m77 {e : Ex} {E : Ev} (h : ExLe Q e E) (v0 v1 : Value) (G : GS) : Ref (s77 true e v0 v1 G) (s77 false (Ex.of E) v0 v1 G) := by
  unfold s77 sb77
  repeat' (with_reducible first | exact Ref.rfl' _ | exact ROp.r | refine Ref.bP ?_ fun _ => ?_ | refine Ref.bS ?_ fun _ _ => ?_ | exact Ref.cl (by assumption) | refine Ref.ifV ?_ ?_ | refine LpLe.rx (by assumption) ?_ | refine Ref.xitq ?_ | exact UOk.z | refine UOk.c (by assumption) ?_ | exact Ref.nil _ | refine Ref.bVe fun _ _ => ?_ | refine Ref.bLq (by assumption) ?_ fun _ _ _ => ?_ | refine Ref.ifE ?_ ?_ | refine Ref.chk ?_ ?_ | refine Imp.and ?_ ?_ | refine Imp.or ?_ | exact Imp.rfl' _ | refine Imp.sameO ?_ | refine Ref.gd ?_ | exact Ref.cValue (by assumption) | refine Ref.bX ?_ fun _ _ _ => ?_ | exact Ref.scQ (by assumption) | exact Ref.xRangeQ (by assumption) | exact Ref.cInvoke (by assumption) | refine mkj77_0 (by assumption) ?_)
noncomputable def jt77 (J0 : Env → GS → Option (Value × GS)) : JT (Value × GS) :=
  (.n none .e (.n (some (fun T G => J0 (nth undef T) G)) .e .e))
theorem jr77_0 (orc : FuncId → Bool) (J0 : Env → GS → Option (Value × GS)) (T : List Value) (G : GS) : runC Q (evL Q orc) Try.f77.ntmps (jt77 J0) (bodyOf Try.f77) (retE Q Try.f77.results.toList) [true] (nth undef T) G = jb77_0 false (Ex.of (E orc))  (nth undef T) G := by kernel_rfl
theorem jo77 (orc : FuncId → Bool) : JOk Q orc Try.f77.ntmps (jt77 (j77_0 false (Ex.of (E orc))) ) (bodyOf Try.f77) (retE Q Try.f77.results.toList) :=
  jOk Q orc (l := [([true], (fun T G => j77_0 false (Ex.of (E orc)) (nth undef T) G))]) (by kernel_rfl) (AllE.c (fun T G => jr77_0 orc (j77_0 false (Ex.of (E orc))) T G) (AllE.z))
theorem je77 (orc : FuncId → Bool) (J0 : Env → GS → Option (Value × GS)) (v0 v1 : Value) (G : GS) : sxC Q (evL Q orc) Try.f77.ntmps (jt77 J0) (bodyOf Try.f77) (nth undef [v0, v1]) G (retE Q Try.f77.results.toList) = sb77 false (Ex.of (E orc)) J0 v0 v1 G := by kernel_rfl
theorem f77 {orc : FuncId → Bool} {e : Ex} (h : ExLe Q e (E orc)) (v0 v1 : Value) (G : GS) : Ref (s77 true e v0 v1 G) ((E orc).cl 77 [v0, v1] G) :=
  fun r hr => cl_sxC Q orc (vs := [v0, v1]) G (jt77 (j77_0 false (Ex.of (E orc))) ) Try.func77 (by kernel_rfl) (by kernel_rfl) (by kernel_rfl) (by kernel_rfl) (by kernel_rfl) (jo77 orc) (je77 orc (j77_0 false (Ex.of (E orc))) v0 v1 G) (m77 h v0 v1 G r hr)
/-- (*coxswain/coxswainref14.Drop).Err -/
noncomputable def s78 (q : Bool) (e : Ex) (v0 : Value) (G : GS) : Option (Value × GS) :=
  bP (pNil v0) fun x0 =>
  bP (fa Q q 153 1 4 x0) fun x1 =>
  bP (ld Q q 3 x1 (G.room 10)) fun x2 =>
  bP (pNil v0) fun x3 =>
  bP (fa Q q 153 3 6 x3) fun x4 =>
  bP (ld Q q 30 x4 (G.room 10)) fun x5 =>
  bS (e.ev.cl 99 [x2, x5] (G.room 10)) fun x7 G6 =>
  some (x7, G6)
theorem m78 {e : Ex} {E : Ev} (h : ExLe Q e E) (v0 : Value) (G : GS) : Ref (s78 true e v0 G) (s78 false (Ex.of E) v0 G) := by
  unfold s78
  exact Ref.gq
theorem f78 {orc : FuncId → Bool} {e : Ex} (h : ExLe Q e (E orc)) (v0 : Value) (G : GS) : Ref (s78 true e v0 G) ((E orc).cl 78 [v0] G) :=
  fun r hr => cl_sxE_some Q orc (vs := [v0]) G Try.func78 (by kernel_rfl) (by kernel_rfl) (by kernel_rfl) (by kernel_rfl) (by kernel_rfl) (by kernel_rfl) (m78 h v0 G r hr)
/-- (*coxswain/coxswainref02.Mem).At -/
noncomputable def s79 (q : Bool) (e : Ex) (v0 v1 : Value) (G : GS) : Option (Value × GS) :=
  bP (bn Q q .lss 3 (.tmp 5) (.const (.int .i64 0)) v1 (.int .i64 0)) fun x0 =>
  bS (gd x0 false (some (v1, G)) G) fun x1 G2 =>
  bS (gd x0 false (some (v0, G2)) G2) fun x3 G4 =>
  bS (gd x0 false (bP (pNil x3) fun y => some (y, G4)) G4) fun x5 G6 =>
  bS (gd x0 false (bP (fa Q q 133 0 0 x5) fun y => some (y, G6)) G6) fun x7 G8 =>
  bS (gd x0 false (bP (ld Q q 76 x7 G8) fun y => some (y, G8)) G8) fun x9 G10 =>
  bS (gd x0 false (bP (ln Q q 76 x9) fun y => some (y, G10)) G10) fun x11 G12 =>
  bS (gd x0 false (bP (bn Q q .geq 3 (.tmp 8) (.tmp 13) x1 x11) fun y => some (y, G12)) G12) fun x13 G14 =>
  bP (pickV x0 (.bool true) x13) fun x15 =>
  ifV x15 (
  some ((.int .u64 0), G14)) (
  bP (pNil v0) fun x16 =>
  bP (fa Q q 133 0 0 x16) fun x17 =>
  bP (ld Q q 76 x17 G14) fun x18 =>
  bP (ias Q q 76 1 x18 v1) fun x19 =>
  bP (ld Q q 31 x19 G14) fun x20 =>
  some (x20, G14))
theorem m79 {e : Ex} {E : Ev} (h : ExLe Q e E) (v0 v1 : Value) (G : GS) : Ref (s79 true e v0 v1 G) (s79 false (Ex.of E) v0 v1 G) := by
  unfold s79
  exact Ref.gq
theorem f79 {orc : FuncId → Bool} {e : Ex} (h : ExLe Q e (E orc)) (v0 v1 : Value) (G : GS) : Ref (s79 true e v0 v1 G) ((E orc).cl 79 [v0, v1] G) :=
  fun r hr => cl_sxE_some Q orc (vs := [v0, v1]) G Try.func79 (by kernel_rfl) (by kernel_rfl) (by kernel_rfl) (by kernel_rfl) (by kernel_rfl) (by kernel_rfl) (m79 h v0 v1 G r hr)
/-- coxswain/coxswainref14.full -/
noncomputable def s80 (q : Bool) (e : Ex) (v0 v1 : Value) (G : GS) : Option (Value × GS) :=
  bP (bn Q q .shr 31 (.tmp 5) (.const (.int .u64 32)) v0 (.int .u64 32)) fun x0 =>
  bP (bn Q q .eql 31 (.tmp 6) (.tmp 7) x0 v1) fun x1 =>
  bS (gd x1 true (some (v0, G)) G) fun x2 G3 =>
  bS (gd x1 true (bP (bn Q q .shr 31 (.tmp 10) (.const (.int .u64 16)) x2 (.int .u64 16)) fun y => some (y, G3)) G3) fun x4 G5 =>
  bS (gd x1 true (bP (bn Q q .rem 31 (.tmp 11) (.const (.int .u64 2)) x4 (.int .u64 2)) fun y => some (y, G5)) G5) fun x6 G7 =>
  bS (gd x1 true (bP (bn Q q .eql 31 (.tmp 12) (.const (.int .u64 1)) x6 (.int .u64 1)) fun y => some (y, G7)) G7) fun x8 G9 =>
  bP (pickV x1 x8 (.bool false)) fun x10 =>
  some (x10, G9)
theorem m80 {e : Ex} {E : Ev} (h : ExLe Q e E) (v0 v1 : Value) (G : GS) : Ref (s80 true e v0 v1 G) (s80 false (Ex.of E) v0 v1 G) := by
  unfold s80
  exact Ref.gq
theorem f80 {orc : FuncId → Bool} {e : Ex} (h : ExLe Q e (E orc)) (v0 v1 : Value) (G : GS) : Ref (s80 true e v0 v1 G) ((E orc).cl 80 [v0, v1] G) :=
  fun r hr => cl_sxE_some Q orc (vs := [v0, v1]) G Try.func80 (by kernel_rfl) (by kernel_rfl) (by kernel_rfl) (by kernel_rfl) (by kernel_rfl) (by kernel_rfl) (m80 h v0 v1 G r hr)
/-- coxswain/coxswainref14.place -/
noncomputable def s81 (q : Bool) (e : Ex) (v0 v1 : Value) (G : GS) : Option (Value × GS) :=
  bS (bx q v0 G) fun x0 G1 =>
  bP (fa Q q 28 2 2 x0) fun x2 =>
  bP (ld Q q 3 x2 (G1.room 10)) fun x3 =>
  bP (fa Q q 28 3 3 x0) fun x4 =>
  bP (ld Q q 3 x4 (G1.room 10)) fun x5 =>
  bP (cv Q q 3 31 .i64 .u64 x5) fun x6 =>
  bP (bn Q q .rem 31 (.tmp 7) (.tmp 10) v1 x6) fun x7 =>
  bP (cv Q q 31 3 .u64 .i64 x7) fun x8 =>
  bP (bn Q q .add 3 (.tmp 6) (.tmp 12) x3 x8) fun x9 =>
  some (x9, (G1.room 10))
theorem m81 {e : Ex} {E : Ev} (h : ExLe Q e E) (v0 v1 : Value) (G : GS) : Ref (s81 true e v0 v1 G) (s81 false (Ex.of E) v0 v1 G) := by
  unfold s81
  exact Ref.gq
theorem f81 {orc : FuncId → Bool} {e : Ex} (h : ExLe Q e (E orc)) (v0 v1 : Value) (G : GS) : Ref (s81 true e v0 v1 G) ((E orc).cl 81 [v0, v1] G) :=
  fun r hr => cl_sxE_some Q orc (vs := [v0, v1]) G Try.func81 (by kernel_rfl) (by kernel_rfl) (by kernel_rfl) (by kernel_rfl) (by kernel_rfl) (by kernel_rfl) (m81 h v0 v1 G r hr)
/-- coxswain/coxswainref14.lap -/
noncomputable def s82 (q : Bool) (e : Ex) (v0 v1 : Value) (G : GS) : Option (Value × GS) :=
  bS (bx q v0 G) fun x0 G1 =>
  bP (fa Q q 28 3 3 x0) fun x2 =>
  bP (ld Q q 3 x2 G1) fun x3 =>
  bP (cv Q q 3 31 .i64 .u64 x3) fun x4 =>
  bP (bn Q q .quo 31 (.tmp 5) (.tmp 8) v1 x4) fun x5 =>
  bP (bn Q q .rem 31 (.tmp 9) (.const (.int .u64 4294967296)) x5 (.int .u64 4294967296)) fun x6 =>
  some (x6, G1)
theorem m82 {e : Ex} {E : Ev} (h : ExLe Q e E) (v0 v1 : Value) (G : GS) : Ref (s82 true e v0 v1 G) (s82 false (Ex.of E) v0 v1 G) := by
  unfold s82
  exact Ref.gq
theorem f82 {orc : FuncId → Bool} {e : Ex} (h : ExLe Q e (E orc)) (v0 v1 : Value) (G : GS) : Ref (s82 true e v0 v1 G) ((E orc).cl 82 [v0, v1] G) :=
  fun r hr => cl_sxE_some Q orc (vs := [v0, v1]) G Try.func82 (by kernel_rfl) (by kernel_rfl) (by kernel_rfl) (by kernel_rfl) (by kernel_rfl) (by kernel_rfl) (m82 h v0 v1 G r hr)
/-- coxswain/coxswainkit.CopyWords -/
noncomputable def s83 (q : Bool) (e : Ex) (v0 : Value) (G : GS) : Option (Value × GS) :=
  bS (bs Q q 76 0 (rep z31 0) 1 [] [] G) fun x0 G1 =>
  bS (ap Q q 76 76 1 8 x0 v0 G1) fun x2 G3 =>
  some (x2, G3)
theorem m83 {e : Ex} {E : Ev} (h : ExLe Q e E) (v0 : Value) (G : GS) : Ref (s83 true e v0 G) (s83 false (Ex.of E) v0 G) := by
  unfold s83
  exact Ref.gq
theorem f83 {orc : FuncId → Bool} {e : Ex} (h : ExLe Q e (E orc)) (v0 : Value) (G : GS) : Ref (s83 true e v0 G) ((E orc).cl 83 [v0] G) :=
  fun r hr => cl_sxE_some Q orc (vs := [v0]) G Try.func83 (by kernel_rfl) (by kernel_rfl) (by kernel_rfl) (by kernel_rfl) (by kernel_rfl) (by kernel_rfl) (m83 h v0 G r hr)
/-- (*coxswain/ring.Push).look -/
noncomputable def s84 (q : Bool) (e : Ex) (v0 v1 : Value) (G : GS) : Option (Value × GS) :=
  bP (pNil v0) fun x0 =>
  bP (fa Q q 53 0 0 x0) fun x1 =>
  bP (fa Q q 50 0 0 x1) fun x2 =>
  bP (lda Q q 28 4 x2 (G.room 16)) fun x3 =>
  bP (pNil v0) fun x4 =>
  bP (fa Q q 53 2 8 x4) fun x5 =>
  bP (ld Q q 31 x5 (G.room 16)) fun x6 =>
  bS (e.ev.cl 57 [x3, x6] (G.room 16)) fun x8 G7 =>
  bS (e.ev.cl 11 [v1, x8] G7) fun x10 G9 =>
  bP (pNil v0) fun x11 =>
  bP (fa Q q 53 3 9 x11) fun x12 =>
  bP (st Q q 51 1 x12 x10 G9) fun G13 =>
  bP (pNil v0) fun x14 =>
  bP (fa Q q 53 0 0 x14) fun x15 =>
  bP (fa Q q 50 0 0 x15) fun x16 =>
  bP (lda Q q 28 4 x16 (G13.room 11)) fun x17 =>
  bP (pNil v0) fun x18 =>
  bP (fa Q q 53 2 8 x18) fun x19 =>
  bP (ld Q q 31 x19 (G13.room 11)) fun x20 =>
  bS (e.ev.cl 88 [x17, x20] (G13.room 11)) fun x22 G21 =>
  bP (pNil v0) fun x23 =>
  bP (fa Q q 53 3 9 x23) fun x24 =>
  bP (ld Q q 51 x24 G21) fun x25 =>
  bS (e.ev.cl 100 [x25, x22] G21) fun x26 G27 =>
  ifV x26 (
  bP (pNil v0) fun x28 =>
  bP (fa Q q 53 0 0 x28) fun x29 =>
  bP (fa Q q 50 1 4 x29) fun x30 =>
  bP (st Q q 48 1 x30 (.func (.func 101) #[v0] #[]) G27) fun G31 =>
  some (.tuple #[], G31)) (
  bP (pNil v0) fun x32 =>
  bP (fa Q q 53 3 9 x32) fun x33 =>
  bP (ld Q q 51 x33 G27) fun x34 =>
  bP (bn Q q .sub 138 (.tmp 54) (.const (.int .u32 1)) x22 (.int .u32 1)) fun x35 =>
  bS (e.ev.cl 87 [x34, x35] G27) fun x36 G37 =>
  ifV x36 (
  bP (pNil v0) fun x38 =>
  bP (fa Q q 53 0 0 x38) fun x39 =>
  bS (e.ev.cl 47 [x39, (.int .i64 7)] G37) fun x40 G41 =>
  some (.tuple #[], G41)) (
  bP (pNil v0) fun x42 =>
  bP (fa Q q 53 0 0 x42) fun x43 =>
  bP (fa Q q 50 1 4 x43) fun x44 =>
  bP (st Q q 48 1 x44 (.func (.func 102) #[v0] #[]) G37) fun G45 =>
  some (.tuple #[], G45)))
theorem m84 {e : Ex} {E : Ev} (h : ExLe Q e E) (v0 v1 : Value) (G : GS) : Ref (s84 true e v0 v1 G) (s84 false (Ex.of E) v0 v1 G) := by
  unfold s84
  exact Ref.gq
theorem f84 {orc : FuncId → Bool} {e : Ex} (h : ExLe Q e (E orc)) (v0 v1 : Value) (G : GS) : Ref (s84 true e v0 v1 G) ((E orc).cl 84 [v0, v1] G) :=
  fun r hr => cl_sxE_some Q orc (vs := [v0, v1]) G Try.func84 (by kernel_rfl) (by kernel_rfl) (by kernel_rfl) (by kernel_rfl) (by kernel_rfl) (by kernel_rfl) (m84 h v0 v1 G r hr)
/-- (*coxswain/cells.place).is -/
noncomputable def s85 (q : Bool) (e : Ex) (v0 : Value) (G : GS) : Option (Value × GS) :=
  bP (ep Q q true 101 (.tmp 3) (.const (.pointer none)) v0 (.pointer none)) fun x0 =>
  some (x0, G)
theorem m85 {e : Ex} {E : Ev} (h : ExLe Q e E) (v0 : Value) (G : GS) : Ref (s85 true e v0 G) (s85 false (Ex.of E) v0 G) := by
  unfold s85
  exact Ref.gq
theorem f85 {orc : FuncId → Bool} {e : Ex} (h : ExLe Q e (E orc)) (v0 : Value) (G : GS) : Ref (s85 true e v0 G) ((E orc).cl 85 [v0] G) :=
  fun r hr => cl_sxE_some Q orc (vs := [v0]) G Try.func85 (by kernel_rfl) (by kernel_rfl) (by kernel_rfl) (by kernel_rfl) (by kernel_rfl) (by kernel_rfl) (m85 h v0 G r hr)
noncomputable def b86_0 (q : Bool) (e : Ex) (lp : Env → GS → Option (Exit × Env × GS)) (τ : Env) (G : GS) : Option (Exit × Env × GS) :=
  bV q (τ 0) fun a0_ =>
  bV q (τ 1) fun a1_ =>
  bV q (τ 2) fun a2_ =>
  bV q (τ 4) fun a4_ =>
  bV q (τ 10) fun a10_ =>
  bV q (τ 11) fun a11_ =>
  bP (bn Q q .lss 3 (.tmp 11) (.tmp 10) a11_ a10_) fun x0 =>
  ifV x0 (
  bP (ld Q q 32 a1_ (G.room 16)) fun x1 =>
  bP (lda Q q 28 4 a2_ (G.room 16)) fun x2 =>
  bS (e.ev.cl 57 [x2, a4_] (G.room 16)) fun x4 G3 =>
  chk ((sameO (ld Q q 32 a1_ G3) x1 && true)) <|
  bS (cValue e.ev x1 [x4] G3) fun x6 G5 =>
  bP (lda Q q 28 4 a2_ G5) fun x7 =>
  chk ((sameO (lda Q q 28 4 a2_ G3) x7 && (sameO (lda Q q 28 4 a2_ (G.room 16)) x7 && true))) <|
  bS (e.ev.cl 88 [x7, a4_] G5) fun x9 G8 =>
  bS (e.ev.cl 87 [x6, x9] G8) fun x11 G10 =>
  bP (un Q q .not x11) fun x12 =>
  bS (gd x12 false (some (a0_, G10)) G10) fun x13 _ =>
  bS (gd x12 false (some (a4_, G10)) G10) fun x14 _ =>
  bS (gd x12 false (bS (cValue e.ev x13 [x14] G10) fun y G => some (y, G)) G10) fun x16 G15 =>
  bS (gd x12 false (bP (un Q q .not x16) fun y => some (y, G15)) G15) fun x17 _ =>
  bP (pickV x12 (.bool true) x17) fun x18 =>
  ifV x18 (
  some (.ret, xq q 32 τ [(28, x18), (27, x17), (26, x16), (25, x14), (24, x13), (23, x12), (22, x12), (21, x11), (20, x9), (19, a4_), (18, x7), (17, x6), (16, x4), (15, a4_), (14, x2), (13, x1), (12, x0)] [(0, a0_), (1, a1_), (2, a2_), (4, a4_), (10, a10_), (11, a11_)], G15)) (
  bP (bn Q q .add 31 (.tmp 29) (.const (.int .u64 1)) a4_ (.int .u64 1)) fun x19 =>
  bP (bn Q q .add 3 (.tmp 11) (.const (.int .i64 1)) a11_ (.int .i64 1)) fun x20 =>
  lp (xq q 32 τ [(11, x20), (31, x20), (4, x19), (30, x19), (29, a4_), (28, x18), (27, x17), (26, x16), (25, x14), (24, x13), (23, x12), (22, x12), (21, x11), (20, x9), (19, a4_), (18, x7), (17, x6), (16, x4), (15, a4_), (14, x2), (13, x1), (12, x0)] [(0, a0_), (1, a1_), (2, a2_), (10, a10_)]) G15)) (
  some ((.exit 0), xq q 32 τ [(12, x0)] [(0, a0_), (1, a1_), (2, a2_), (4, a4_), (10, a10_), (11, a11_)], G))
theorem mb86_0 {e : Ex} {E : Ev} (h : ExLe Q e E) {lp lp' : Env → GS → Option (Exit × Env × GS)} (hlp : LpLe lp lp') (τ : Env) (G : GS) : Ref (b86_0 true e lp τ G) (b86_0 false (Ex.of E) lp' τ G) := by
  unfold b86_0
  exact Ref.gq
theorem l86_0 {orc : FuncId → Bool} {e : Ex} (h : ExLe Q e (E orc)) (lp : Env → GS → Option (Exit × Env × GS)) (hlp : ∀ τ G, Ref (lp τ G) (mapE ((E orc).lp (subAt [1, 1, 0, 0] (bodyOf Try.f86)) (lst 32 τ) G))) (T : List Value) (G : GS) (hT : T.length = 32) : Ref (b86_0 true e lp (nth undef T) G) (mapE ((E orc).lp (subAt [1, 1, 0, 0] (bodyOf Try.f86)) T G)) :=
  fun r hr => lp_sxN Q orc G hT (by kernel_rfl) (mb86_0 h ⟨hlp⟩ _ _ r hr)
/-- coxswain/ring.numbers$1 -/
noncomputable def s86 (q : Bool) (e : Ex) (v0 v1 v2 : Value) (G : GS) : Option (Value × GS) :=
  bP (ld Q q 32 v1 G) fun x0 =>
  bP (fa Q q 28 0 0 v2) fun x1 =>
  bP (ld Q q 3 x1 G) fun x2 =>
  bS (cValue e.ev x0 [x2] G) fun x3 G4 =>
  bP (fa Q q 28 3 3 v2) fun x5 =>
  bP (ld Q q 3 x5 G4) fun x6 =>
  bLq q e 86 0 (subAt [1, 1, 0, 0] (bodyOf Try.f86)) 32 (nth undef [v0, v1, v2]) [(11, (.int .i64 0)), (10, x6), (9, x5), (4, x3), (8, x3), (7, x2), (6, x1), (5, x0)] [] G4 fun e7 t8 G9 =>
  ifE e7 (.exit 0) (
  some (.tuple #[], G9)) (ifE e7 .ret (
  some (.tuple #[], G9)) (none))
theorem m86 {e : Ex} {E : Ev} (h : ExLe Q e E) (v0 v1 v2 : Value) (G : GS) : Ref (s86 true e v0 v1 v2 G) (s86 false (Ex.of E) v0 v1 v2 G) := by
  unfold s86
  exact Ref.gq
theorem f86 {orc : FuncId → Bool} {e : Ex} (h : ExLe Q e (E orc)) (v0 v1 v2 : Value) (G : GS) : Ref (s86 true e v0 v1 v2 G) ((E orc).cl 86 [v0, v1, v2] G) :=
  fun r hr => cl_sxE_some Q orc (vs := [v0, v1, v2]) G Try.func86 (by kernel_rfl) (by kernel_rfl) (by kernel_rfl) (by kernel_rfl) (by kernel_rfl) (by kernel_rfl) (m86 h v0 v1 v2 G r hr)
/-- (coxswain/ring.slot).full -/
noncomputable def s87 (q : Bool) (e : Ex) (v0 v1 : Value) (G : GS) : Option (Value × GS) :=
  bP (bn Q q .shr 51 (.tmp 5) (.const (.int .u64 32)) v0 (.int .u64 32)) fun x0 =>
  bP (cv Q q 51 138 .u64 .u32 x0) fun x1 =>
  bP (bn Q q .eql 138 (.tmp 7) (.tmp 8) x1 v1) fun x2 =>
  bS (gd x2 true (some (v0, G)) G) fun x3 G4 =>
  bS (gd x2 true (bP (bn Q q .and 51 (.tmp 11) (.const (.int .u64 65536)) x3 (.int .u64 65536)) fun y => some (y, G4)) G4) fun x5 G6 =>
  bS (gd x2 true (bP (bn Q q .neq 51 (.tmp 12) (.const (.int .u64 0)) x5 (.int .u64 0)) fun y => some (y, G6)) G6) fun x7 G8 =>
  bP (pickV x2 x7 (.bool false)) fun x9 =>
  some (x9, G8)
theorem m87 {e : Ex} {E : Ev} (h : ExLe Q e E) (v0 v1 : Value) (G : GS) : Ref (s87 true e v0 v1 G) (s87 false (Ex.of E) v0 v1 G) := by
  unfold s87
  exact Ref.gq
theorem f87 {orc : FuncId → Bool} {e : Ex} (h : ExLe Q e (E orc)) (v0 v1 : Value) (G : GS) : Ref (s87 true e v0 v1 G) ((E orc).cl 87 [v0, v1] G) :=
  fun r hr => cl_sxE_some Q orc (vs := [v0, v1]) G Try.func87 (by kernel_rfl) (by kernel_rfl) (by kernel_rfl) (by kernel_rfl) (by kernel_rfl) (by kernel_rfl) (m87 h v0 v1 G r hr)
/-- coxswain/ring.lap -/
noncomputable def s88 (q : Bool) (e : Ex) (v0 v1 : Value) (G : GS) : Option (Value × GS) :=
  bS (bx q v0 G) fun x0 G1 =>
  bP (fa Q q 28 3 3 x0) fun x2 =>
  bP (ld Q q 3 x2 G1) fun x3 =>
  bP (cv Q q 3 31 .i64 .u64 x3) fun x4 =>
  bP (bn Q q .quo 31 (.tmp 5) (.tmp 8) v1 x4) fun x5 =>
  bP (cv Q q 31 138 .u64 .u32 x5) fun x6 =>
  some (x6, G1)
theorem m88 {e : Ex} {E : Ev} (h : ExLe Q e E) (v0 v1 : Value) (G : GS) : Ref (s88 true e v0 v1 G) (s88 false (Ex.of E) v0 v1 G) := by
  unfold s88
  exact Ref.gq
theorem f88 {orc : FuncId → Bool} {e : Ex} (h : ExLe Q e (E orc)) (v0 v1 : Value) (G : GS) : Ref (s88 true e v0 v1 G) ((E orc).cl 88 [v0, v1] G) :=
  fun r hr => cl_sxE_some Q orc (vs := [v0, v1]) G Try.func88 (by kernel_rfl) (by kernel_rfl) (by kernel_rfl) (by kernel_rfl) (by kernel_rfl) (by kernel_rfl) (m88 h v0 v1 G r hr)
/-- (*coxswain/ring.Front).look -/
noncomputable def s89 (q : Bool) (e : Ex) (v0 v1 : Value) (G : GS) : Option (Value × GS) :=
  bP (pNil v0) fun x0 =>
  bP (fa Q q 56 0 0 x0) fun x1 =>
  bP (fa Q q 50 0 0 x1) fun x2 =>
  bP (lda Q q 28 4 x2 (G.room 13)) fun x3 =>
  bP (pNil v0) fun x4 =>
  bP (fa Q q 56 1 7 x4) fun x5 =>
  bP (ld Q q 31 x5 (G.room 13)) fun x6 =>
  bS (e.ev.cl 57 [x3, x6] (G.room 13)) fun x8 G7 =>
  bS (e.ev.cl 11 [v1, x8] G7) fun x10 G9 =>
  bP (pNil v0) fun x11 =>
  bP (fa Q q 56 0 0 x11) fun x12 =>
  bS (e.ev.cl 47 [x12, (.int .i64 15)] G9) fun x13 G14 =>
  bP (pNil v0) fun x15 =>
  bP (fa Q q 56 0 0 x15) fun x16 =>
  bP (fa Q q 50 0 0 x16) fun x17 =>
  bP (lda Q q 28 4 x17 (G14.room 12)) fun x18 =>
  bP (pNil v0) fun x19 =>
  bP (fa Q q 56 1 7 x19) fun x20 =>
  bP (ld Q q 31 x20 (G14.room 12)) fun x21 =>
  bS (e.ev.cl 88 [x18, x21] (G14.room 12)) fun x23 G22 =>
  bS (e.ev.cl 87 [x10, x23] G22) fun x25 G24 =>
  ifV x25 (
  bS (e.ev.cl 58 [x10] G24) fun x26 G27 =>
  bP (pNil v0) fun x28 =>
  bP (fa Q q 56 2 8 x28) fun x29 =>
  bP (st Q q 3 1 x29 x26 G27) fun G30 =>
  bP (pNil v0) fun x31 =>
  bP (fa Q q 56 0 0 x31) fun x32 =>
  bS (e.ev.cl 47 [x32, (.int .i64 0)] G30) fun x33 G34 =>
  some (.tuple #[], G34)) (
  some (.tuple #[], G24))
theorem m89 {e : Ex} {E : Ev} (h : ExLe Q e E) (v0 v1 : Value) (G : GS) : Ref (s89 true e v0 v1 G) (s89 false (Ex.of E) v0 v1 G) := by
  unfold s89
  exact Ref.gq
theorem f89 {orc : FuncId → Bool} {e : Ex} (h : ExLe Q e (E orc)) (v0 v1 : Value) (G : GS) : Ref (s89 true e v0 v1 G) ((E orc).cl 89 [v0, v1] G) :=
  fun r hr => cl_sxE_some Q orc (vs := [v0, v1]) G Try.func89 (by kernel_rfl) (by kernel_rfl) (by kernel_rfl) (by kernel_rfl) (by kernel_rfl) (by kernel_rfl) (m89 h v0 v1 G r hr)
/-- coxswain/ring.of -/
noncomputable def s90 (q : Bool) (e : Ex) (v0 : Value) (G : GS) : Option (Value × GS) :=
  bP (cv Q q 138 51 .u32 .u64 v0) fun x0 =>
  bP (bn Q q .shl 51 (.tmp 4) (.const (.int .u64 32)) x0 (.int .u64 32)) fun x1 =>
  some (x1, G)
theorem m90 {e : Ex} {E : Ev} (h : ExLe Q e E) (v0 : Value) (G : GS) : Ref (s90 true e v0 G) (s90 false (Ex.of E) v0 G) := by
  unfold s90
  exact Ref.gq
theorem f90 {orc : FuncId → Bool} {e : Ex} (h : ExLe Q e (E orc)) (v0 : Value) (G : GS) : Ref (s90 true e v0 G) ((E orc).cl 90 [v0] G) :=
  fun r hr => cl_sxE_some Q orc (vs := [v0]) G Try.func90 (by kernel_rfl) (by kernel_rfl) (by kernel_rfl) (by kernel_rfl) (by kernel_rfl) (by kernel_rfl) (m90 h v0 G r hr)
/-- (*coxswain/ring.Drop).head -/
noncomputable def s91 (q : Bool) (e : Ex) (v0 v1 : Value) (G : GS) : Option (Value × GS) :=
  bP (pNil v0) fun x0 =>
  bP (fa Q q 60 0 0 x0) fun x1 =>
  bP (fa Q q 50 0 0 x1) fun x2 =>
  bP (fa Q q 28 0 0 x2) fun x3 =>
  bP (ld Q q 3 x3 (G.room 13)) fun x4 =>
  bP (pNil v0) fun x5 =>
  bP (fa Q q 60 1 7 x5) fun x6 =>
  bP (ld Q q 31 x6 (G.room 13)) fun x7 =>
  bP (bn Q q .add 31 (.tmp 14) (.const (.int .u64 1)) x7 (.int .u64 1)) fun x8 =>
  bS (e.ev.cl 61 [v1, x4, x8] (G.room 13)) fun x10 G9 =>
  bP (pNil v0) fun x11 =>
  bP (fa Q q 60 0 0 x11) fun x12 =>
  bS (e.ev.cl 47 [x12, (.int .i64 0)] G9) fun x13 G14 =>
  some (.tuple #[], G14)
theorem m91 {e : Ex} {E : Ev} (h : ExLe Q e E) (v0 v1 : Value) (G : GS) : Ref (s91 true e v0 v1 G) (s91 false (Ex.of E) v0 v1 G) := by
  unfold s91
  exact Ref.gq
theorem f91 {orc : FuncId → Bool} {e : Ex} (h : ExLe Q e (E orc)) (v0 v1 : Value) (G : GS) : Ref (s91 true e v0 v1 G) ((E orc).cl 91 [v0, v1] G) :=
  fun r hr => cl_sxE_some Q orc (vs := [v0, v1]) G Try.func91 (by kernel_rfl) (by kernel_rfl) (by kernel_rfl) (by kernel_rfl) (by kernel_rfl) (by kernel_rfl) (m91 h v0 v1 G r hr)
/-- (coxswain/cells.deed).store -/
noncomputable def s92 (q : Bool) (e : Ex) (v0 : Value) (G : GS) : Option (Value × GS) :=
  bS (bx q v0 G) fun x0 G1 =>
  bP (fa Q q 104 1 1 x0) fun x2 =>
  bP (ld Q q 31 x2 G1) fun x3 =>
  some (.tuple #[x3, (.bool true)], G1)
theorem m92 {e : Ex} {E : Ev} (h : ExLe Q e E) (v0 : Value) (G : GS) : Ref (s92 true e v0 G) (s92 false (Ex.of E) v0 G) := by
  unfold s92
  exact Ref.gq
theorem f92 {orc : FuncId → Bool} {e : Ex} (h : ExLe Q e (E orc)) (v0 : Value) (G : GS) : Ref (s92 true e v0 G) ((E orc).cl 92 [v0] G) :=
  fun r hr => cl_sxE_some Q orc (vs := [v0]) G Try.func92 (by kernel_rfl) (by kernel_rfl) (by kernel_rfl) (by kernel_rfl) (by kernel_rfl) (by kernel_rfl) (m92 h v0 G r hr)
noncomputable def jb93_0 (q : Bool) (e : Ex) (τ : Env) (G : GS) : Option (Value × GS) :=
  bV q (τ 0) fun a0_ =>
  bV q (τ 1) fun a1_ =>
  bP (pNil a0_) fun x27 =>
  bP (fa Q q 74 2 5 x27) fun x28 =>
  bP (ld Q q 54 x28 G) fun x29 =>
  bP (ias Q q 54 1 x29 a1_) fun x30 =>
  bP (ld Q q 25 x30 G) fun x31 =>
  bS (e.ev.cl 16 [x31] G) fun x32 G33 =>
  bP (bd Q q 144 z144 [(0, 0, 1)] [x32]) fun x34 =>
  bS (e.ev.cl 105 [a0_, a1_, x34] G33) fun x35 G36 =>
  bP (pNil a0_) fun x37 =>
  bP (fa Q q 74 8 11 x37) fun x38 =>
  bP (ld Q q 71 x38 G36) fun x39 =>
  bP (ias Q q 71 1 x39 a1_) fun x40 =>
  bP (ld Q q 30 x40 G36) fun x41 =>
  bP (bn Q q .eql 30 (.tmp 130) (.tmp 137) x32 x41) fun x42 =>
  some (x42, G36)
noncomputable def j93_0 (q : Bool) (e : Ex) (τ : Env) (G : GS) : Option (Value × GS) := jb93_0 q e τ G
theorem mj93_0 {e : Ex} {E : Ev} (h : ExLe Q e E) (τ : Env) (G : GS) : Ref (j93_0 true e τ G) (j93_0 false (Ex.of E) τ G) := by
  unfold j93_0 jb93_0
  exact Ref.gq
theorem mkj93_0 {e : Ex} {E : Ev} (h : ExLe Q e E) {τ : Env} {l U : List (Nat × Value)} {G : GS} (hU : UOk τ U) : Ref (j93_0 true e (xq true 139 τ l U) G) (j93_0 false (Ex.of E) (xq false 139 τ l U) G) := by
  rw [xq_eq hU]
  exact mj93_0 h _ _
noncomputable def jb93_1 (q : Bool) (e : Ex) (J0 : Env → GS → Option (Value × GS)) (τ : Env) (G : GS) : Option (Value × GS) :=
  bV q (τ 0) fun a0_ =>
  bV q (τ 1) fun a1_ =>
  bV q (τ 5) fun a5_ =>
  bV q (τ 6) fun a6_ =>
  bP (un Q q .not a5_) fun x18 =>
  ifV x18 (
  bP (pNil a0_) fun x19 =>
  bP (fa Q q 74 2 5 x19) fun x20 =>
  bP (ld Q q 54 x20 G) fun x21 =>
  bP (ias Q q 54 1 x21 a1_) fun x22 =>
  bP (ld Q q 25 x22 G) fun x23 =>
  bS (e.ev.cl 16 [x23] G) fun x24 G25 =>
  bP (bn Q q .eql 30 (.tmp 79) (.const (.int .i64 14)) x24 (.int .i64 14)) fun x26 =>
  some (x26, G25)) (
  bP (fa Q q 95 0 0 a6_) fun x43 =>
  bP (ld Q q 3 x43 (G.room 30)) fun x44 =>
  bP (bn Q q .eql 3 (.tmp 82) (.const (.int .i64 1)) x44 (.int .i64 1)) fun x45 =>
  bS (gd x45 true (some (a0_, (G.room 30))) (G.room 30)) fun x46 _ =>
  bS (gd x45 true (bS (e.ev.cl 103 [x46] (G.room 30)) fun y G => some (y, G)) (G.room 30)) fun x48 G47 =>
  bP (pickV x45 x48 (.bool false)) fun x49 =>
  bS (gd x49 true (some (a0_, G47)) G47) fun x50 _ =>
  bS (gd x49 true (bP (pNil x50) fun y => some (y, G47)) G47) fun x51 _ =>
  bS (gd x49 true (bP (fa Q q 74 7 10 x51) fun y => some (y, G47)) G47) fun x52 _ =>
  bS (gd x49 true (bP (ld Q q 38 x52 G47) fun y => some (y, G47)) G47) fun x53 _ =>
  bS (gd x49 true (bP (ln Q q 38 x53) fun y => some (y, G47)) G47) fun x54 _ =>
  bS (gd x49 true (some (a0_, G47)) G47) fun x55 _ =>
  bS (gd x49 true (bP (pNil x55) fun y => some (y, G47)) G47) fun x56 _ =>
  bS (gd x49 true (bP (fa Q q 74 0 0 x56) fun y => some (y, G47)) G47) fun x57 _ =>
  bS (gd x49 true (bP (fa Q q 28 3 3 x57) fun y => some (y, G47)) G47) fun x58 _ =>
  bS (gd x49 true (bP (ld Q q 3 x58 G47) fun y => some (y, G47)) G47) fun x59 _ =>
  bS (gd x49 true (bP (bn Q q .eql 3 (.tmp 93) (.tmp 98) x54 x59) fun y => some (y, G47)) G47) fun x60 _ =>
  bP (pickV x49 x60 (.bool false)) fun x61 =>
  bS (gd x61 true (some (a0_, G47)) G47) fun x62 _ =>
  bS (gd x61 true (bP (pNil x62) fun y => some (y, G47)) G47) fun x63 _ =>
  bS (gd x61 true (bP (fa Q q 74 8 11 x63) fun y => some (y, G47)) G47) fun x64 _ =>
  bS (gd x61 true (bP (ld Q q 71 x64 G47) fun y => some (y, G47)) G47) fun x65 _ =>
  bS (gd x61 true (some (a1_, G47)) G47) fun x66 _ =>
  bS (gd x61 true (bP (ias Q q 71 1 x65 x66) fun y => some (y, G47)) G47) fun x67 _ =>
  bS (gd x61 true (bP (ld Q q 30 x67 G47) fun y => some (y, G47)) G47) fun x68 _ =>
  bS (gd x61 true (bP (bn Q q .neq 30 (.tmp 108) (.const (.int .i64 0)) x68 (.int .i64 0)) fun y => some (y, G47)) G47) fun x69 _ =>
  bP (pickV x61 x69 (.bool false)) fun x70 =>
  ifV x70 (
  bP (pNil a0_) fun x71 =>
  bP (fa Q q 74 8 11 x71) fun x72 =>
  bP (ld Q q 71 x72 G47) fun x73 =>
  bP (ias Q q 71 1 x73 a1_) fun x74 =>
  bP (st Q q 30 1 x74 (.int .i64 7) G47) fun G75 =>
  J0 (xq q 139 τ [(116, x74), (115, a1_), (114, x73), (113, x72), (112, x71), (111, a0_), (110, x70), (109, x69), (108, x68), (107, x67), (106, x66), (105, x65), (104, x64), (103, x63), (102, x62), (101, x61), (100, x61), (99, x60), (98, x59), (97, x58), (96, x57), (95, x56), (94, x55), (93, x54), (92, x53), (91, x52), (90, x51), (89, x50), (88, x49), (87, x49), (86, x48), (85, x46), (84, x45), (83, x45), (82, x44), (81, x43), (71, x18), (70, a5_)] []) G75) (
  J0 (xq q 139 τ [(110, x70), (109, x69), (108, x68), (107, x67), (106, x66), (105, x65), (104, x64), (103, x63), (102, x62), (101, x61), (100, x61), (99, x60), (98, x59), (97, x58), (96, x57), (95, x56), (94, x55), (93, x54), (92, x53), (91, x52), (90, x51), (89, x50), (88, x49), (87, x49), (86, x48), (85, x46), (84, x45), (83, x45), (82, x44), (81, x43), (71, x18), (70, a5_)] []) G47))
noncomputable def j93_1 (q : Bool) (e : Ex) (τ : Env) (G : GS) : Option (Value × GS) := jb93_1 q e (j93_0 q e) τ G
theorem mj93_1 {e : Ex} {E : Ev} (h : ExLe Q e E) (τ : Env) (G : GS) : Ref (j93_1 true e τ G) (j93_1 false (Ex.of E) τ G) := by
  unfold j93_1 jb93_1
  repeat' (with_reducible first | exact Ref.rfl' _ | exact ROp.r | refine Ref.bP ?_ fun _ => ?_ | refine Ref.bS ?_ fun _ _ => ?_ | exact Ref.cl (by assumption) | refine Ref.ifV ?_ ?_ | refine LpLe.rx (by assumption) ?_ | refine Ref.xitq ?_ | exact UOk.z | refine UOk.c (by assumption) ?_ | exact Ref.nil _ | refine Ref.bVe fun _ _ => ?_ | refine Ref.bLq (by assumption) ?_ fun _ _ _ => ?_ | refine Ref.ifE ?_ ?_ | refine Ref.chk ?_ ?_ | refine Imp.and ?_ ?_ | refine Imp.or ?_ | exact Imp.rfl' _ | refine Imp.sameO ?_ | refine Ref.gd ?_ | exact Ref.cValue (by assumption) | refine Ref.bX ?_ fun _ _ _ => ?_ | exact Ref.scQ (by assumption) | exact Ref.xRangeQ (by assumption) | exact Ref.cInvoke (by assumption) | refine mkj93_0 (by assumption) ?_)
theorem mkj93_1 {e : Ex} {E : Ev} (h : ExLe Q e E) {τ : Env} {l U : List (Nat × Value)} {G : GS} (hU : UOk τ U) : Ref (j93_1 true e (xq true 139 τ l U) G) (j93_1 false (Ex.of E) (xq false 139 τ l U) G) := by
  rw [xq_eq hU]
  exact mj93_1 h _ _
noncomputable def sb93 (q : Bool) (e : Ex) (J0 J1 : Env → GS → Option (Value × GS)) (v0 v1 : Value) (G : GS) : Option (Value × GS) :=
  bP (pNil v0) fun x0 =>
  bP (fa Q q 74 2 5 x0) fun x1 =>
  bP (ld Q q 54 x1 (G.room 13)) fun x2 =>
  bP (ias Q q 54 1 x2 v1) fun x3 =>
  bP (ld Q q 25 x3 (G.room 13)) fun x4 =>
  bP (pNil v0) fun x5 =>
  bP (fa Q q 74 1 4 x5) fun x6 =>
  bP (ld Q q 22 x6 (G.room 13)) fun x7 =>
  bS (e.ev.cl 15 [x4, x7] (G.room 13)) fun x9 G8 =>
  bP (pNil v0) fun x10 =>
  bP (fa Q q 74 1 4 x10) fun x11 =>
  bP (ld Q q 22 x11 G8) fun x12 =>
  bS (e.ev.cl 42 [x12] G8) fun x13 G14 =>
  bS (al Q q 95 z95 G14) fun x15 G16 =>
  bP (st Q q 95 5 x15 x13 G16) fun G17 =>
  bP (fa Q q 95 0 0 x15) fun x76 =>
  bP (ld Q q 3 x76 G17) fun x77 =>
  bP (bn Q q .eql 3 (.tmp 26) (.const (.int .i64 3)) x77 (.int .i64 3)) fun x78 =>
  bS (gd x78 true (bP (fa Q q 95 4 4 x15) fun y => some (y, G17)) G17) fun x79 G80 =>
  bS (gd x78 true (bP (ld Q q 4 x79 G80) fun y => some (y, G80)) G80) fun x81 G82 =>
  bP (pickV x78 x81 (.bool false)) fun x83 =>
  bS (gd x83 true (some (v0, G82)) G82) fun x84 G85 =>
  bS (gd x83 true (bS (e.ev.cl 103 [x84] G85) fun y G => some (y, G)) G85) fun x86 G87 =>
  bP (pickV x83 x86 (.bool false)) fun x88 =>
  ifV x88 (
  bP (pNil v0) fun x89 =>
  bP (fa Q q 74 7 10 x89) fun x90 =>
  bP (ld Q q 38 x90 (G87.room 11)) fun x91 =>
  bP (ln Q q 38 x91) fun x92 =>
  bP (pNil v0) fun x93 =>
  bP (fa Q q 74 0 0 x93) fun x94 =>
  bP (fa Q q 28 3 3 x94) fun x95 =>
  bP (ld Q q 3 x95 (G87.room 11)) fun x96 =>
  bP (bn Q q .geq 3 (.tmp 40) (.tmp 45) x92 x96) fun x97 =>
  ifV x97 (
  some ((.bool false), (G87.room 11))) (
  bP (pNil v0) fun x98 =>
  bP (fa Q q 74 7 10 x98) fun x99 =>
  bP (ld Q q 38 x99 ((G87.room 11).room 18)) fun x100 =>
  bS (e.ev.cl 104 [x100] ((G87.room 11).room 18)) fun x102 G101 =>
  bP (pNil v0) fun x103 =>
  bP (fa Q q 74 3 6 x103) fun x104 =>
  bP (ld Q q 38 x104 G101) fun x105 =>
  chk ((sameO (ld Q q 38 x104 ((G87.room 11).room 18)) x105 && true)) <|
  bP (ias Q q 38 1 x105 v1) fun x106 =>
  bP (ld Q q 3 x106 G101) fun x107 =>
  chk ((sameO (ld Q q 3 x106 ((G87.room 11).room 18)) x107 && true)) <|
  bS (bs Q q 38 1 (rep z3 1) 1 [(0, 0, 1)] [x107] (G101.at' ((G87.room 11).nx + 13))) fun x108 G109 =>
  bS (ap Q q 38 38 1 8 x102 x108 (G109.back G101)) fun x111 G110 =>
  bP (pNil v0) fun x112 =>
  bP (fa Q q 74 7 10 x112) fun x113 =>
  bP (st Q q 38 1 x113 x111 G110) fun G114 =>
  bP (pNil v0) fun x115 =>
  bP (fa Q q 74 8 11 x115) fun x116 =>
  bP (ld Q q 71 x116 G114) fun x117 =>
  bP (ias Q q 71 1 x117 v1) fun x118 =>
  bP (st Q q 30 1 x118 (.int .i64 0) G114) fun G119 =>
  J1 (xq q 139 (nth undef [v0, v1]) [(69, x118), (68, v1), (67, x117), (66, x116), (65, x115), (64, v0), (63, x113), (62, x112), (61, x111), (60, x108), (59, x107), (58, x106), (57, v1), (56, x105), (55, x104), (54, x103), (53, v0), (52, x102), (51, x100), (50, x99), (49, x98), (48, v0), (47, v0), (46, x97), (45, x96), (44, x95), (43, x94), (42, x93), (41, v0), (40, x92), (39, x91), (38, x90), (37, x89), (36, v0), (35, x88), (34, x86), (33, x84), (32, x83), (31, x83), (30, x81), (29, x79), (28, x78), (27, x78), (26, x77), (25, x76), (6, x15), (24, x13), (23, x12), (22, x11), (21, x10), (20, v0), (5, x9), (19, x9), (18, x7), (17, x6), (16, x5), (15, v0), (14, x4), (13, x3), (12, v1), (11, x2), (10, x1), (9, x0), (8, v0), (4, (.bool false))] []) G119)) (
  J1 (xq q 139 (nth undef [v0, v1]) [(35, x88), (34, x86), (33, x84), (32, x83), (31, x83), (30, x81), (29, x79), (28, x78), (27, x78), (26, x77), (25, x76), (6, x15), (24, x13), (23, x12), (22, x11), (21, x10), (20, v0), (5, x9), (19, x9), (18, x7), (17, x6), (16, x5), (15, v0), (14, x4), (13, x3), (12, v1), (11, x2), (10, x1), (9, x0), (8, v0), (4, (.bool false))] []) G87)
/-- (*coxswain/coxswainlaw14.crew).pushes -/
noncomputable def s93 (q : Bool) (e : Ex) (v0 v1 : Value) (G : GS) : Option (Value × GS) := sb93 q e (j93_0 q e) (j93_1 q e) v0 v1 G
theorem m93 {e : Ex} {E : Ev} (h : ExLe Q e E) (v0 v1 : Value) (G : GS) : Ref (s93 true e v0 v1 G) (s93 false (Ex.of E) v0 v1 G) := by
  unfold s93 sb93
  repeat' (with_reducible first | exact Ref.rfl' _ | exact ROp.r | refine Ref.bP ?_ fun _ => ?_ | refine Ref.bS ?_ fun _ _ => ?_ | exact Ref.cl (by assumption) | refine Ref.ifV ?_ ?_ | refine LpLe.rx (by assumption) ?_ | refine Ref.xitq ?_ | exact UOk.z | refine UOk.c (by assumption) ?_ | exact Ref.nil _ | refine Ref.bVe fun _ _ => ?_ | refine Ref.bLq (by assumption) ?_ fun _ _ _ => ?_ | refine Ref.ifE ?_ ?_ | refine Ref.chk ?_ ?_ | refine Imp.and ?_ ?_ | refine Imp.or ?_ | exact Imp.rfl' _ | refine Imp.sameO ?_ | refine Ref.gd ?_ | exact Ref.cValue (by assumption) | refine Ref.bX ?_ fun _ _ _ => ?_ | exact Ref.scQ (by assumption) | exact Ref.xRangeQ (by assumption) | exact Ref.cInvoke (by assumption) | refine mkj93_0 (by assumption) ?_ | refine mkj93_1 (by assumption) ?_)
noncomputable def jt93 (J0 J1 : Env → GS → Option (Value × GS)) : JT (Value × GS) :=
  (.n none .e (.n none .e (.n none .e (.n (some (fun T G => J1 (nth undef T) G)) .e (.n none .e (.n (some (fun T G => J0 (nth undef T) G)) .e .e))))))
set_option maxHeartbeats 8000000 in
theorem jr93_1 (orc : FuncId → Bool) (J0 J1 : Env → GS → Option (Value × GS)) (T : List Value) (G : GS) : runC Q (evL Q orc) Try.f93.ntmps (jt93 J0 J1) (bodyOf Try.f93) (retE Q Try.f93.results.toList) [true, true, true] (nth undef T) G = jb93_1 false (Ex.of (E orc)) J0 (nth undef T) G := by kernel_rfl
set_option maxHeartbeats 8000000 in
theorem jr93_0 (orc : FuncId → Bool) (J0 J1 : Env → GS → Option (Value × GS)) (T : List Value) (G : GS) : runC Q (evL Q orc) Try.f93.ntmps (jt93 J0 J1) (bodyOf Try.f93) (retE Q Try.f93.results.toList) [true, true, true, true, true] (nth undef T) G = jb93_0 false (Ex.of (E orc))  (nth undef T) G := by kernel_rfl
set_option maxHeartbeats 8000000 in
theorem jo93 (orc : FuncId → Bool) : JOk Q orc Try.f93.ntmps (jt93 (j93_0 false (Ex.of (E orc))) (j93_1 false (Ex.of (E orc))) ) (bodyOf Try.f93) (retE Q Try.f93.results.toList) :=
  jOk Q orc (l := [([true, true, true], (fun T G => j93_1 false (Ex.of (E orc)) (nth undef T) G)), ([true, true, true, true, true], (fun T G => j93_0 false (Ex.of (E orc)) (nth undef T) G))]) (by kernel_rfl) (AllE.c (fun T G => jr93_1 orc (j93_0 false (Ex.of (E orc))) (j93_1 false (Ex.of (E orc))) T G) (AllE.c (fun T G => jr93_0 orc (j93_0 false (Ex.of (E orc))) (j93_1 false (Ex.of (E orc))) T G) (AllE.z)))
set_option maxHeartbeats 8000000 in
theorem je93 (orc : FuncId → Bool) (J0 J1 : Env → GS → Option (Value × GS)) (v0 v1 : Value) (G : GS) : sxC Q (evL Q orc) Try.f93.ntmps (jt93 J0 J1) (bodyOf Try.f93) (nth undef [v0, v1]) G (retE Q Try.f93.results.toList) = sb93 false (Ex.of (E orc)) J0 J1 v0 v1 G := by kernel_rfl
set_option maxHeartbeats 8000000 in
theorem f93 {orc : FuncId → Bool} {e : Ex} (h : ExLe Q e (E orc)) (v0 v1 : Value) (G : GS) : Ref (s93 true e v0 v1 G) ((E orc).cl 93 [v0, v1] G) :=
  fun r hr => cl_sxC Q orc (vs := [v0, v1]) G (jt93 (j93_0 false (Ex.of (E orc))) (j93_1 false (Ex.of (E orc))) ) Try.func93 (by kernel_rfl) (by kernel_rfl) (by kernel_rfl) (by kernel_rfl) (by kernel_rfl) (jo93 orc) (je93 orc (j93_0 false (Ex.of (E orc))) (j93_1 false (Ex.of (E orc))) v0 v1 G) (m93 h v0 v1 G r hr)
/-- (*coxswain/coxswainlaw14.crew).takes -/
noncomputable def s94 (q : Bool) (e : Ex) (v0 : Value) (G : GS) : Option (Value × GS) :=
  bP (pNil v0) fun x0 =>
  bP (fa Q q 74 6 9 x0) fun x1 =>
  bP (ld Q q 4 x1 G) fun x2 =>
  ifV x2 (
  bP (pNil v0) fun x3 =>
  bP (fa Q q 74 5 8 x3) fun x4 =>
  bP (ld Q q 58 x4 (G.room 10)) fun x5 =>
  bP (pNil v0) fun x6 =>
  bP (fa Q q 74 1 4 x6) fun x7 =>
  bP (ld Q q 22 x7 (G.room 10)) fun x8 =>
  bS (e.ev.cl 25 [x5, x8] (G.room 10)) fun x10 G9 =>
  bP (un Q q .not x10) fun x11 =>
  ifV x11 (
  bP (pNil v0) fun x12 =>
  bP (fa Q q 74 7 10 x12) fun x13 =>
  bP (ld Q q 38 x13 G9) fun x14 =>
  bP (ln Q q 38 x14) fun x15 =>
  bP (bn Q q .eql 3 (.tmp 25) (.const (.int .i64 0)) x15 (.int .i64 0)) fun x16 =>
  ifV x16 (
  some ((.bool false), G9)) (
  bP (pNil v0) fun x17 =>
  bP (fa Q q 74 7 10 x17) fun x18 =>
  bP (ld Q q 38 x18 G9) fun x19 =>
  bP (sl Q q 38 1 x19 (some (.int .i64 1)) none none G9) fun x20 =>
  bS (e.ev.cl 104 [x20] G9) fun x21 G22 =>
  bP (pNil v0) fun x23 =>
  bP (fa Q q 74 7 10 x23) fun x24 =>
  bP (st Q q 38 1 x24 x21 G22) fun G25 =>
  some ((.bool true), G25))) (
  bP (pNil v0) fun x26 =>
  bP (fa Q q 74 6 9 x26) fun x27 =>
  bP (st Q q 4 1 x27 (.bool false) G9) fun G28 =>
  bP (bd Q q 144 z144 [] []) fun x29 =>
  bS (e.ev.cl 105 [v0, (.int .i64 2), x29] G28) fun x30 G31 =>
  bP (pNil v0) fun x32 =>
  bP (fa Q q 74 5 8 x32) fun x33 =>
  bP (ld Q q 58 x33 G31) fun x34 =>
  bS (e.ev.cl 27 [x34] G31) fun x35 G36 =>
  bP (bn Q q .eql 30 (.tmp 46) (.const (.int .i64 0)) x35 (.int .i64 0)) fun x37 =>
  some (x37, G36))) (
  bP (pNil v0) fun x38 =>
  bP (fa Q q 74 4 7 x38) fun x39 =>
  bP (ld Q q 41 x39 (G.room 10)) fun x40 =>
  bP (pNil v0) fun x41 =>
  bP (fa Q q 74 1 4 x41) fun x42 =>
  bP (ld Q q 22 x42 (G.room 10)) fun x43 =>
  bS (e.ev.cl 24 [x40, x43] (G.room 10)) fun x45 G44 =>
  bP (un Q q .not x45) fun x46 =>
  ifV x46 (
  some ((.bool true), G44)) (
  bP (pNil v0) fun x47 =>
  bP (fa Q q 74 4 7 x47) fun x48 =>
  bP (ld Q q 41 x48 G44) fun x49 =>
  bS (e.ev.cl 20 [x49] G44) fun x50 G51 =>
  bP (pExtract x50 0) fun x52 =>
  bP (pExtract x50 1) fun x53 =>
  bP (bn Q q .eql 30 (.tmp 67) (.const (.int .i64 0)) x53 (.int .i64 0)) fun x54 =>
  bP (pNil v0) fun x55 =>
  bP (fa Q q 74 6 9 x55) fun x56 =>
  bP (st Q q 4 1 x56 x54 G51) fun G57 =>
  bP (cv Q q 3 31 .i64 .u64 x52) fun x58 =>
  bP (bd Q q 144 z144 [(0, 0, 1), (2, 2, 1)] [x53, x58]) fun x59 =>
  bS (e.ev.cl 105 [v0, (.int .i64 2), x59] G57) fun x60 G61 =>
  bP (pNil v0) fun x62 =>
  bP (fa Q q 74 7 10 x62) fun x63 =>
  bP (ld Q q 38 x63 G61) fun x64 =>
  bP (ln Q q 38 x64) fun x65 =>
  bP (bn Q q .eql 3 (.tmp 81) (.const (.int .i64 0)) x65 (.int .i64 0)) fun x66 =>
  ifV x66 (
  bP (bn Q q .eql 3 (.tmp 83) (.const (.int .i64 0)) x52 (.int .i64 0)) fun x67 =>
  bS (gd x67 true (some (x53, G61)) G61) fun x68 G69 =>
  bS (gd x67 true (bP (bn Q q .eql 30 (.tmp 86) (.const (.int .i64 15)) x68 (.int .i64 15)) fun y => some (y, G69)) G69) fun x70 G71 =>
  bP (pickV x67 x70 (.bool false)) fun x72 =>
  some (x72, G71)) (
  bP (bn Q q .eql 30 (.tmp 89) (.const (.int .i64 0)) x53 (.int .i64 0)) fun x73 =>
  bS (gd x73 true (some (x52, G61)) G61) fun x74 G75 =>
  bS (gd x73 true (some (v0, G75)) G75) fun x76 G77 =>
  bS (gd x73 true (bP (pNil x76) fun y => some (y, G77)) G77) fun x78 G79 =>
  bS (gd x73 true (bP (fa Q q 74 7 10 x78) fun y => some (y, G79)) G79) fun x80 G81 =>
  bS (gd x73 true (bP (ld Q q 38 x80 G81) fun y => some (y, G81)) G81) fun x82 G83 =>
  bS (gd x73 true (bP (ias Q q 38 1 x82 (.int .i64 0)) fun y => some (y, G83)) G83) fun x84 G85 =>
  bS (gd x73 true (bP (ld Q q 3 x84 G85) fun y => some (y, G85)) G85) fun x86 G87 =>
  bS (gd x73 true (bP (bn Q q .eql 3 (.tmp 92) (.tmp 98) x74 x86) fun y => some (y, G87)) G87) fun x88 G89 =>
  bP (pickV x73 x88 (.bool false)) fun x90 =>
  some (x90, G89))))
theorem m94 {e : Ex} {E : Ev} (h : ExLe Q e E) (v0 : Value) (G : GS) : Ref (s94 true e v0 G) (s94 false (Ex.of E) v0 G) := by
  unfold s94
  exact Ref.gq
set_option maxHeartbeats 8000000 in
theorem f94 {orc : FuncId → Bool} {e : Ex} (h : ExLe Q e (E orc)) (v0 : Value) (G : GS) : Ref (s94 true e v0 G) ((E orc).cl 94 [v0] G) :=
  fun r hr => cl_sxE_some Q orc (vs := [v0]) G Try.func94 (by kernel_rfl) (by kernel_rfl) (by kernel_rfl) (by kernel_rfl) (by kernel_rfl) (by kernel_rfl) (m94 h v0 G r hr)
noncomputable def jb95_0 (q : Bool) (e : Ex) (τ : Env) (G : GS) : Option (Value × GS) :=
  bV q (τ 0) fun a0_ =>
  bV q (τ 2) fun a2_ =>
  bV q (τ 3) fun a3_ =>
  bP (pNil a0_) fun x36 =>
  bP (fa Q q 133 0 0 x36) fun x37 =>
  bP (ld Q q 76 x37 G) fun x38 =>
  bP (ias Q q 76 1 x38 a2_) fun x39 =>
  bP (ld Q q 31 x39 G) fun x40 =>
  bP (pNil a0_) fun x41 =>
  bP (fa Q q 133 1 1 x41) fun x42 =>
  bP (fa Q q 95 3 3 x42) fun x43 =>
  bP (st Q q 31 1 x43 x40 G) fun G44 =>
  bP (pNil a0_) fun x45 =>
  bP (fa Q q 133 1 1 x45) fun x46 =>
  bP (fa Q q 95 4 4 x46) fun x47 =>
  bP (st Q q 4 1 x47 a3_ G44) fun G48 =>
  some (.tuple #[], G48)
noncomputable def j95_0 (q : Bool) (e : Ex) (τ : Env) (G : GS) : Option (Value × GS) := jb95_0 q e τ G
theorem mj95_0 {e : Ex} {E : Ev} (h : ExLe Q e E) (τ : Env) (G : GS) : Ref (j95_0 true e τ G) (j95_0 false (Ex.of E) τ G) := by
  unfold j95_0 jb95_0
  exact Ref.gq
theorem mkj95_0 {e : Ex} {E : Ev} (h : ExLe Q e E) {τ : Env} {l U : List (Nat × Value)} {G : GS} (hU : UOk τ U) : Ref (j95_0 true e (xq true 69 τ l U) G) (j95_0 false (Ex.of E) (xq false 69 τ l U) G) := by
  rw [xq_eq hU]
  exact mj95_0 h _ _
noncomputable def sb95 (q : Bool) (e : Ex) (J0 : Env → GS → Option (Value × GS)) (v0 v1 v2 v3 v4 : Value) (G : GS) : Option (Value × GS) :=
  bP (pNil v0) fun x0 =>
  bP (fa Q q 133 2 6 x0) fun x1 =>
  bP (ld Q q 3 x1 G) fun x2 =>
  bP (bn Q q .add 3 (.tmp 13) (.const (.int .i64 1)) x2 (.int .i64 1)) fun x3 =>
  bP (pNil v0) fun x4 =>
  bP (fa Q q 133 2 6 x4) fun x5 =>
  bP (st Q q 3 1 x5 x3 G) fun G6 =>
  bP (bd Q q 95 z95 [(0, 0, 1), (1, 1, 1)] [v1, v2]) fun x7 =>
  bP (pNil v0) fun x8 =>
  bP (fa Q q 133 1 1 x8) fun x9 =>
  bP (st Q q 95 5 x9 x7 G6) fun G10 =>
  bP (bn Q q .lss 3 (.tmp 23) (.const (.int .i64 0)) v2 (.int .i64 0)) fun x11 =>
  bS (gd x11 false (some (v2, G10)) G10) fun x12 G13 =>
  bS (gd x11 false (some (v0, G13)) G13) fun x14 G15 =>
  bS (gd x11 false (bP (pNil x14) fun y => some (y, G15)) G15) fun x16 G17 =>
  bS (gd x11 false (bP (fa Q q 133 0 0 x16) fun y => some (y, G17)) G17) fun x18 G19 =>
  bS (gd x11 false (bP (ld Q q 76 x18 G19) fun y => some (y, G19)) G19) fun x20 G21 =>
  bS (gd x11 false (bP (ln Q q 76 x20) fun y => some (y, G21)) G21) fun x22 G23 =>
  bS (gd x11 false (bP (bn Q q .geq 3 (.tmp 26) (.tmp 31) x12 x22) fun y => some (y, G23)) G23) fun x24 G25 =>
  bP (pickV x11 (.bool true) x24) fun x26 =>
  ifV x26 (
  some (.tuple #[], G25)) (
  bP (pNil v0) fun x27 =>
  bP (fa Q q 133 0 0 x27) fun x28 =>
  bP (ld Q q 76 x28 G25) fun x29 =>
  bP (ias Q q 76 1 x29 v2) fun x30 =>
  bP (ld Q q 31 x30 G25) fun x31 =>
  bP (pNil v0) fun x32 =>
  bP (fa Q q 133 1 1 x32) fun x33 =>
  bP (fa Q q 95 2 2 x33) fun x34 =>
  bP (st Q q 31 1 x34 x31 G25) fun G35 =>
  ifV v3 (
  bP (pNil v0) fun x49 =>
  bP (fa Q q 133 0 0 x49) fun x50 =>
  bP (ld Q q 76 x50 G35) fun x51 =>
  bP (ias Q q 76 1 x51 v2) fun x52 =>
  bP (st Q q 31 1 x52 v4 G35) fun G53 =>
  J0 (xq q 69 (nth undef [v0, v1, v2, v3, v4]) [(52, x52), (51, v4), (50, v2), (49, x51), (48, x50), (47, x49), (46, v0), (45, v3), (44, x34), (43, x33), (42, x32), (41, x31), (40, x30), (39, v2), (38, x29), (37, x28), (36, x27), (35, v0), (34, v0), (33, x26), (32, x24), (31, x22), (30, x20), (29, x18), (28, x16), (27, x14), (26, x12), (25, x11), (24, x11), (23, v2), (22, x9), (21, x8), (20, x7), (19, v2), (18, v1), (17, v0), (16, x5), (15, x4), (14, x3), (13, x2), (12, x1), (11, x0), (10, v0)] []) G53) (
  J0 (xq q 69 (nth undef [v0, v1, v2, v3, v4]) [(45, v3), (44, x34), (43, x33), (42, x32), (41, x31), (40, x30), (39, v2), (38, x29), (37, x28), (36, x27), (35, v0), (34, v0), (33, x26), (32, x24), (31, x22), (30, x20), (29, x18), (28, x16), (27, x14), (26, x12), (25, x11), (24, x11), (23, v2), (22, x9), (21, x8), (20, x7), (19, v2), (18, v1), (17, v0), (16, x5), (15, x4), (14, x3), (13, x2), (12, x1), (11, x0), (10, v0)] []) G35))
/-- (*coxswain/coxswainref02.Mem).access -/
noncomputable def s95 (q : Bool) (e : Ex) (v0 v1 v2 v3 v4 : Value) (G : GS) : Option (Value × GS) := sb95 q e (j95_0 q e) v0 v1 v2 v3 v4 G
theorem m95 {e : Ex} {E : Ev} (h : ExLe Q e E) (v0 v1 v2 v3 v4 : Value) (G : GS) : Ref (s95 true e v0 v1 v2 v3 v4 G) (s95 false (Ex.of E) v0 v1 v2 v3 v4 G) := by
  unfold s95 sb95
  repeat' (with_reducible first | exact Ref.rfl' _ | exact ROp.r | refine Ref.bP ?_ fun _ => ?_ | refine Ref.bS ?_ fun _ _ => ?_ | exact Ref.cl (by assumption) | refine Ref.ifV ?_ ?_ | refine LpLe.rx (by assumption) ?_ | refine Ref.xitq ?_ | exact UOk.z | refine UOk.c (by assumption) ?_ | exact Ref.nil _ | refine Ref.bVe fun _ _ => ?_ | refine Ref.bLq (by assumption) ?_ fun _ _ _ => ?_ | refine Ref.ifE ?_ ?_ | refine Ref.chk ?_ ?_ | refine Imp.and ?_ ?_ | refine Imp.or ?_ | exact Imp.rfl' _ | refine Imp.sameO ?_ | refine Ref.gd ?_ | exact Ref.cValue (by assumption) | refine Ref.bX ?_ fun _ _ _ => ?_ | exact Ref.scQ (by assumption) | exact Ref.xRangeQ (by assumption) | exact Ref.cInvoke (by assumption) | refine mkj95_0 (by assumption) ?_)
noncomputable def jt95 (J0 : Env → GS → Option (Value × GS)) : JT (Value × GS) :=
  (.n none .e (.n none .e (.n none .e (.n none .e (.n (some (fun T G => J0 (nth undef T) G)) .e .e)))))
theorem jr95_0 (orc : FuncId → Bool) (J0 : Env → GS → Option (Value × GS)) (T : List Value) (G : GS) : runC Q (evL Q orc) Try.f95.ntmps (jt95 J0) (bodyOf Try.f95) (retE Q Try.f95.results.toList) [true, true, true, true] (nth undef T) G = jb95_0 false (Ex.of (E orc))  (nth undef T) G := by kernel_rfl
theorem jo95 (orc : FuncId → Bool) : JOk Q orc Try.f95.ntmps (jt95 (j95_0 false (Ex.of (E orc))) ) (bodyOf Try.f95) (retE Q Try.f95.results.toList) :=
  jOk Q orc (l := [([true, true, true, true], (fun T G => j95_0 false (Ex.of (E orc)) (nth undef T) G))]) (by kernel_rfl) (AllE.c (fun T G => jr95_0 orc (j95_0 false (Ex.of (E orc))) T G) (AllE.z))
theorem je95 (orc : FuncId → Bool) (J0 : Env → GS → Option (Value × GS)) (v0 v1 v2 v3 v4 : Value) (G : GS) : sxC Q (evL Q orc) Try.f95.ntmps (jt95 J0) (bodyOf Try.f95) (nth undef [v0, v1, v2, v3, v4]) G (retE Q Try.f95.results.toList) = sb95 false (Ex.of (E orc)) J0 v0 v1 v2 v3 v4 G := by kernel_rfl
theorem f95 {orc : FuncId → Bool} {e : Ex} (h : ExLe Q e (E orc)) (v0 v1 v2 v3 v4 : Value) (G : GS) : Ref (s95 true e v0 v1 v2 v3 v4 G) ((E orc).cl 95 [v0, v1, v2, v3, v4] G) :=
  fun r hr => cl_sxC Q orc (vs := [v0, v1, v2, v3, v4]) G (jt95 (j95_0 false (Ex.of (E orc))) ) Try.func95 (by kernel_rfl) (by kernel_rfl) (by kernel_rfl) (by kernel_rfl) (by kernel_rfl) (jo95 orc) (je95 orc (j95_0 false (Ex.of (E orc))) v0 v1 v2 v3 v4 G) (m95 h v0 v1 v2 v3 v4 G r hr)
/-- (*coxswain/coxswainref02.Mem).Load -/
noncomputable def s96 (q : Bool) (e : Ex) (v0 v1 : Value) (G : GS) : Option (Value × GS) :=
  bS (e.ev.cl 95 [v0, (.int .i64 1), v1, (.bool false), (.int .u64 0)] G) fun x0 G1 =>
  bP (pNil v0) fun x2 =>
  bP (fa Q q 133 1 1 x2) fun x3 =>
  bP (fa Q q 95 3 3 x3) fun x4 =>
  bP (ld Q q 31 x4 G1) fun x5 =>
  some (x5, G1)
theorem m96 {e : Ex} {E : Ev} (h : ExLe Q e E) (v0 v1 : Value) (G : GS) : Ref (s96 true e v0 v1 G) (s96 false (Ex.of E) v0 v1 G) := by
  unfold s96
  exact Ref.gq
theorem f96 {orc : FuncId → Bool} {e : Ex} (h : ExLe Q e (E orc)) (v0 v1 : Value) (G : GS) : Ref (s96 true e v0 v1 G) ((E orc).cl 96 [v0, v1] G) :=
  fun r hr => cl_sxE_some Q orc (vs := [v0, v1]) G Try.func96 (by kernel_rfl) (by kernel_rfl) (by kernel_rfl) (by kernel_rfl) (by kernel_rfl) (by kernel_rfl) (m96 h v0 v1 G r hr)
/-- (*coxswain/coxswainref14.Push).reads -/
noncomputable def s97 (q : Bool) (e : Ex) (v0 v1 : Value) (G : GS) : Option (Value × GS) :=
  bP (pNil v0) fun x0 =>
  bP (fa Q q 149 0 0 x0) fun x1 =>
  bP (lda Q q 28 4 x1 (G.room 15)) fun x2 =>
  bP (pNil v0) fun x3 =>
  bP (fa Q q 149 3 6 x3) fun x4 =>
  bP (ld Q q 31 x4 (G.room 15)) fun x5 =>
  bS (e.ev.cl 81 [x2, x5] (G.room 15)) fun x7 G6 =>
  bS (e.ev.cl 96 [v1, x7] G6) fun x9 G8 =>
  bP (pNil v0) fun x10 =>
  bP (fa Q q 149 4 7 x10) fun x11 =>
  bP (st Q q 31 1 x11 x9 G8) fun G12 =>
  bP (pNil v0) fun x13 =>
  bP (fa Q q 149 0 0 x13) fun x14 =>
  bP (lda Q q 28 4 x14 (G12.room 10)) fun x15 =>
  bP (pNil v0) fun x16 =>
  bP (fa Q q 149 3 6 x16) fun x17 =>
  bP (ld Q q 31 x17 (G12.room 10)) fun x18 =>
  bS (e.ev.cl 82 [x15, x18] (G12.room 10)) fun x20 G19 =>
  bP (pNil v0) fun x21 =>
  bP (fa Q q 149 4 7 x21) fun x22 =>
  bP (ld Q q 31 x22 G19) fun x23 =>
  bS (e.ev.cl 106 [x23, x20] G19) fun x24 G25 =>
  ifV x24 (
  bP (pNil v0) fun x26 =>
  bP (fa Q q 149 2 5 x26) fun x27 =>
  bP (st Q q 3 1 x27 (.int .i64 3) G25) fun G28 =>
  some (.tuple #[], G28)) (
  bP (pNil v0) fun x29 =>
  bP (fa Q q 149 4 7 x29) fun x30 =>
  bP (ld Q q 31 x30 G25) fun x31 =>
  bP (bn Q q .add 31 (.tmp 46) (.const (.int .u64 4294967296)) x20 (.int .u64 4294967296)) fun x32 =>
  bP (bn Q q .sub 31 (.tmp 47) (.const (.int .u64 1)) x32 (.int .u64 1)) fun x33 =>
  bP (bn Q q .rem 31 (.tmp 48) (.const (.int .u64 4294967296)) x33 (.int .u64 4294967296)) fun x34 =>
  bS (e.ev.cl 80 [x31, x34] G25) fun x35 G36 =>
  ifV x35 (
  bP (pNil v0) fun x37 =>
  bP (fa Q q 149 2 5 x37) fun x38 =>
  bP (st Q q 3 1 x38 (.int .i64 9) G36) fun G39 =>
  bP (pNil v0) fun x40 =>
  bP (fa Q q 149 5 8 x40) fun x41 =>
  bP (st Q q 30 1 x41 (.int .i64 7) G39) fun G42 =>
  some (.tuple #[], G42)) (
  bP (pNil v0) fun x43 =>
  bP (fa Q q 149 2 5 x43) fun x44 =>
  bP (st Q q 3 1 x44 (.int .i64 5) G36) fun G45 =>
  some (.tuple #[], G45)))
theorem m97 {e : Ex} {E : Ev} (h : ExLe Q e E) (v0 v1 : Value) (G : GS) : Ref (s97 true e v0 v1 G) (s97 false (Ex.of E) v0 v1 G) := by
  unfold s97
  exact Ref.gq
theorem f97 {orc : FuncId → Bool} {e : Ex} (h : ExLe Q e (E orc)) (v0 v1 : Value) (G : GS) : Ref (s97 true e v0 v1 G) ((E orc).cl 97 [v0, v1] G) :=
  fun r hr => cl_sxE_some Q orc (vs := [v0, v1]) G Try.func97 (by kernel_rfl) (by kernel_rfl) (by kernel_rfl) (by kernel_rfl) (by kernel_rfl) (by kernel_rfl) (m97 h v0 v1 G r hr)
end Go.Proofs.Ytocbppgkgcoehaa.Lift
