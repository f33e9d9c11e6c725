/- the program's code, spelled out by a program of ours (lift2.lean) -/
import Derived.Test.YtedmgpchggogpaaGreatProg
import Derived.Test.YtedmgpchggogpaaGreatGhPG
import Derived.KernelRfl
namespace Go.Proofs.YtedmgpchggogpaaGreat.LiftK
open Go Go.Proofs.YtedmgpchggogpaaGreat.Gh Go.Proofs
set_option linter.unusedVariables false
set_option maxRecDepth 100000
@[reducible] noncomputable def Q : Program := Tryz.prog
@[reducible] noncomputable def E (orc : FuncId → Bool) : Ev := evL Tryz.prog orc
instance ilp11_0 : LpIs Q 11 0 (subAt [1, 1, 0, 1, 0, 0] (bodyOf Tryz.f11)) 30 := ⟨by kernel_rfl, by kernel_rfl⟩
instance ilp13_0 : LpIs Q 13 0 (subAt [1, 1, 0, 1, 0, 0] (bodyOf Tryz.f13)) 31 := ⟨by kernel_rfl, by kernel_rfl⟩
instance ilp20_0 : LpIs Q 20 0 (subAt [1, 1, 1, 1, 0, 0] (bodyOf Tryz.f20)) 24 := ⟨by kernel_rfl, by kernel_rfl⟩
instance ilp21_0 : LpIs Q 21 0 (subAt [1, 1, 1, 0, 0] (bodyOf Tryz.f21)) 26 := ⟨by kernel_rfl, by kernel_rfl⟩
instance ilp22_0 : LpIs Q 22 0 (subAt [1, 1, 0, 1, 0, 0] (bodyOf Tryz.f22)) 34 := ⟨by kernel_rfl, by kernel_rfl⟩
instance ilp24_0 : LpIs Q 24 0 (subAt [1, 1, 1, 0, 1, 0, 0] (bodyOf Tryz.f24)) 42 := ⟨by kernel_rfl, by kernel_rfl⟩
instance ilp49_0 : LpIs Q 49 0 (subAt [1, 1, 1, 0, 1, 0, 0] (bodyOf Tryz.f49)) 44 := ⟨by kernel_rfl, by kernel_rfl⟩
instance ilp50_0 : LpIs Q 50 0 (subAt [1, 1, 0, 1, 0, 0] (bodyOf Tryz.f50)) 47 := ⟨by kernel_rfl, by kernel_rfl⟩
instance ilp52_0 : LpIs Q 52 0 (subAt [1, 1, 0, 1, 0, 0] (bodyOf Tryz.f52)) 30 := ⟨by kernel_rfl, by kernel_rfl⟩
instance ilp57_0 : LpIs Q 57 0 (subAt [1, 1, 1, 1, 0, 0] (bodyOf Tryz.f57)) 23 := ⟨by kernel_rfl, by kernel_rfl⟩
instance ilp82_0 : LpIs Q 82 0 (subAt [1, 1, 0, 1, 0, 0] (bodyOf Tryz.f82)) 25 := ⟨by kernel_rfl, by kernel_rfl⟩
instance ilp91_0 : LpIs Q 91 0 (subAt [1, 1, 1, 1, 0, 1, 0, 0] (bodyOf Tryz.f91)) 44 := ⟨by kernel_rfl, by kernel_rfl⟩
instance ilp92_0 : LpIs Q 92 0 (subAt [1, 0, 1, 0, 0] (bodyOf Tryz.f92)) 18 := ⟨by kernel_rfl, by kernel_rfl⟩
instance ilp96_0 : LpIs Q 96 0 (subAt [1, 1, 1, 1, 1, 0, 0] (bodyOf Tryz.f96)) 29 := ⟨by kernel_rfl, by kernel_rfl⟩
instance ilp139_0 : LpIs Q 139 0 (subAt [1, 1, 1, 1, 0, 0] (bodyOf Tryz.f139)) 34 := ⟨by kernel_rfl, by kernel_rfl⟩
instance ilp149_0 : LpIs Q 149 0 (subAt [1, 0, 1, 1, 1, 1, 1, 0, 0] (bodyOf Tryz.f149)) 91 := ⟨by kernel_rfl, by kernel_rfl⟩
instance ilp176_0 : LpIs Q 176 0 (subAt [1, 0, 0] (bodyOf Tryz.f176)) 18 := ⟨by kernel_rfl, by kernel_rfl⟩
instance ilp235_0 : LpIs Q 235 0 (subAt [1, 0, 1, 0, 0] (bodyOf Tryz.f235)) 24 := ⟨by kernel_rfl, by kernel_rfl⟩
instance ilp237_0 : LpIs Q 237 0 (subAt [1, 1, 0, 1, 0, 0] (bodyOf Tryz.f237)) 24 := ⟨by kernel_rfl, by kernel_rfl⟩
instance ilp290_0 : LpIs Q 290 0 (subAt [1, 1, 0, 0] (bodyOf Tryz.f290)) 25 := ⟨by kernel_rfl, by kernel_rfl⟩
instance ilp336_0 : LpIs Q 336 0 (subAt [1, 1, 0, 1, 0, 0] (bodyOf Tryz.f336)) 36 := ⟨by kernel_rfl, by kernel_rfl⟩
instance ilp342_0 : LpIs Q 342 0 (subAt [1, 0, 1, 1, 0, 1, 0, 0] (bodyOf Tryz.f342)) 66 := ⟨by kernel_rfl, by kernel_rfl⟩
instance ilp354_0 : LpIs Q 354 0 (subAt [1, 1, 0, 1, 0, 0] (bodyOf Tryz.f354)) 20 := ⟨by kernel_rfl, by kernel_rfl⟩
instance ilp361_0 : LpIs Q 361 0 (subAt [1, 0, 1, 1, 1, 1, 1, 0, 0, 0] (bodyOf Tryz.f361)) 195 := ⟨by kernel_rfl, by kernel_rfl⟩
instance ilp364_0 : LpIs Q 364 0 (subAt [1, 1, 0, 1, 0, 0] (bodyOf Tryz.f364)) 20 := ⟨by kernel_rfl, by kernel_rfl⟩
instance ilp365_0 : LpIs Q 365 0 (subAt [1, 1, 0, 1, 0, 0] (bodyOf Tryz.f365)) 20 := ⟨by kernel_rfl, by kernel_rfl⟩
instance iep50 : EpOk Q 50 := ⟨fun neg x y => by cases neg <;> kernel_rfl, fun neg x y a => by cases neg <;> kernel_rfl, fun neg x y a => by cases neg <;> kernel_rfl⟩
noncomputable abbrev z23 : List Value := [(.int .u64 0)]
instance ibs22_2_0_1 : BsOk Q 22 2 (rep z23 2) 1 [(0, 0, 1), (1, 1, 1)] := bs_ok Q (z0 := z23) (by kernel_rfl) rfl (by decide) (by kernel_rfl)
noncomputable abbrev z3 : List Value := [(.int .i64 0)]
instance ibs35_1_0 : BsOk Q 35 1 (rep z3 1) 1 [(0, 0, 1)] := bs_ok Q (z0 := z3) (by kernel_rfl) rfl (by decide) (by kernel_rfl)
instance iias22 : IasOk Q 22 1 := ⟨fun b o s n c k j => by kernel_rfl⟩
instance ild23 : LdOk Q 23 := ⟨fun b o s G => (show _ = loadOne b o G by kernel_rfl).trans (loadOne_eq b o G)⟩
instance iln22 : LnOk Q 22 := ⟨fun a n c => by kernel_rfl⟩
instance ibs22_1_0 : BsOk Q 22 1 (rep z23 1) 1 [(0, 0, 1)] := bs_ok Q (z0 := z23) (by kernel_rfl) rfl (by decide) (by kernel_rfl)
instance iap22_22 : ApOk Q 22 22 1 8 := ⟨fun s x G => by kernel_rfl⟩
instance isl22 : SlOk Q 22 1 := ⟨fun a n c lo hi mx G => sl_eq Q (e := 23) (by kernel_rfl) (by kernel_rfl) a n c lo hi mx G⟩
instance ibs22_3_0_1_2 : BsOk Q 22 3 (rep z23 3) 1 [(0, 0, 1), (1, 1, 1), (2, 2, 1)] := bs_ok Q (z0 := z23) (by kernel_rfl) rfl (by decide) (by kernel_rfl)
instance ibs22_5_0_1_2_3_4 : BsOk Q 22 5 (rep z23 5) 1 [(0, 0, 1), (1, 1, 1), (2, 2, 1), (3, 3, 1), (4, 4, 1)] := bs_ok Q (z0 := z23) (by kernel_rfl) rfl (by decide) (by kernel_rfl)
instance ibs22_4_0_1_2_3 : BsOk Q 22 4 (rep z23 4) 1 [(0, 0, 1), (1, 1, 1), (2, 2, 1), (3, 3, 1)] := bs_ok Q (z0 := z23) (by kernel_rfl) rfl (by decide) (by kernel_rfl)
noncomputable abbrev z49 : List Value := [(.int .i64 0), (.int .i64 0), (.int .i64 0)]
instance ial49 : AlOk Q 49 z49 := ⟨fun G => by kernel_rfl⟩
instance ist49 : StOk Q 49 3 := ⟨fun b o s v G => by kernel_rfl⟩
instance ifa49_2 : FaOk Q 49 2 2 := ⟨fun b o s => by kernel_rfl⟩
instance ist3 : StOk Q 3 1 := ⟨fun b o s v G => by kernel_rfl⟩
instance ifa49_1 : FaOk Q 49 1 1 := ⟨fun b o s => by kernel_rfl⟩
instance ilda49 : LdAOk Q 49 3 := ⟨fun b o s G => by kernel_rfl⟩
noncomputable abbrev z98 : List Value := (zs 4096 (.int .u64 0))
instance ial98 : AlOk Q 98 z98 := ⟨fun G => by kernel_rfl⟩
noncomputable abbrev z100 : List Value := [(.pointer none), (.int .i64 0), (.int .i64 0), (.int .i64 0), (.int .u64 0), (.int .u64 0), (.bool false), (.int .i64 0)]
instance ibd100_0_1 : BdOk Q 100 z100 [(0, 0, 1), (1, 1, 1)] := bd_ok Q (by kernel_rfl) (by kernel_rfl) (by kernel_rfl)
instance ilda45 : LdAOk Q 45 13 := ⟨fun b o s G => by kernel_rfl⟩
instance ifa45_3 : FaOk Q 45 3 3 := ⟨fun b o s => by kernel_rfl⟩
instance ilda43 : LdAOk Q 43 10 := ⟨fun b o s G => by kernel_rfl⟩
instance ifa45_2 : FaOk Q 45 2 2 := ⟨fun b o s => by kernel_rfl⟩
instance ild3 : LdOk Q 3 := ⟨fun b o s G => (show _ = loadOne b o G by kernel_rfl).trans (loadOne_eq b o G)⟩
instance ifa45_1 : FaOk Q 45 1 1 := ⟨fun b o s => by kernel_rfl⟩
instance ifa49_0 : FaOk Q 49 0 0 := ⟨fun b o s => by kernel_rfl⟩
noncomputable abbrev z109 : List Value := [(.pointer none), (.int .u64 0), (.int .u64 0)]
instance ibd109_0_1 : BdOk Q 109 z109 [(0, 0, 1), (1, 1, 1)] := bd_ok Q (by kernel_rfl) (by kernel_rfl) (by kernel_rfl)
instance ial109 : AlOk Q 109 z109 := ⟨fun G => by kernel_rfl⟩
instance ist109 : StOk Q 109 3 := ⟨fun b o s v G => by kernel_rfl⟩
instance ifa109_0 : FaOk Q 109 0 0 := ⟨fun b o s => by kernel_rfl⟩
instance ild106 : LdOk Q 106 := ⟨fun b o s G => (show _ = loadOne b o G by kernel_rfl).trans (loadOne_eq b o G)⟩
instance ilda109 : LdAOk Q 109 3 := ⟨fun b o s G => by kernel_rfl⟩
instance ifa100_0 : FaOk Q 100 0 0 := ⟨fun b o s => by kernel_rfl⟩
instance ild95 : LdOk Q 95 := ⟨fun b o s G => (show _ = loadOne b o G by kernel_rfl).trans (loadOne_eq b o G)⟩
instance iep95 : EpOk Q 95 := ⟨fun neg x y => by cases neg <;> kernel_rfl, fun neg x y a => by cases neg <;> kernel_rfl, fun neg x y a => by cases neg <;> kernel_rfl⟩
instance ifa100_1 : FaOk Q 100 1 1 := ⟨fun b o s => by kernel_rfl⟩
instance imk22 : MkSlOk Q 22 1 8 z23 := ⟨fun k k' l c G => by kernel_rfl⟩
instance isla98 : SlAOk Q 98 4096 1 := ⟨fun a lo hi mx G => by kernel_rfl⟩
instance iln112 : LnOk Q 112 := ⟨fun a n c => by kernel_rfl⟩
instance iias112 : IasOk Q 112 1 := ⟨fun b o s n c k j => by kernel_rfl⟩
instance ild96 : LdOk Q 96 := ⟨fun b o s G => (show _ = loadOne b o G by kernel_rfl).trans (loadOne_eq b o G)⟩
instance ist23 : StOk Q 23 1 := ⟨fun b o s v G => by kernel_rfl⟩
noncomputable abbrev z114 : List Value := [(.int .i64 0), (.int .i64 0)]
instance ibd114_0_1 : BdOk Q 114 z114 [(0, 0, 1), (1, 1, 1)] := bd_ok Q (by kernel_rfl) (by kernel_rfl) (by kernel_rfl)
noncomputable abbrev z118 : List Value := [(.int .i64 0), (.int .i64 0), (.int .i64 0), (.int .i64 0), (.int .i64 0), (.pointer none), (.int .u64 0), (.slice none 0 0), (.int .i64 0), (.int .i64 0), (.int .u64 0), (.bool false), (.bool false), (.int .i64 0)]
instance ibd118_0_1_2_5_6_8 : BdOk Q 118 z118 [(0, 0, 2), (1, 2, 3), (2, 5, 1), (5, 8, 1), (6, 9, 1), (8, 11, 1)] := bd_ok Q (by kernel_rfl) (by kernel_rfl) (by kernel_rfl)
instance ifa118_2 : FaOk Q 118 2 5 := ⟨fun b o s => by kernel_rfl⟩
instance ild115 : LdOk Q 115 := ⟨fun b o s G => (show _ = loadOne b o G by kernel_rfl).trans (loadOne_eq b o G)⟩
noncomputable abbrev z120 : List Value := [(.int .u64 0), (.int .i64 0)]
instance ial120 : AlOk Q 120 z120 := ⟨fun G => by kernel_rfl⟩
instance ist120 : StOk Q 120 2 := ⟨fun b o s v G => by kernel_rfl⟩
instance iep59 : EpOk Q 59 := ⟨fun neg x y => by cases neg <;> kernel_rfl, fun neg x y a => by cases neg <;> kernel_rfl, fun neg x y a => by cases neg <;> kernel_rfl⟩
instance ifa118_8 : FaOk Q 118 8 11 := ⟨fun b o s => by kernel_rfl⟩
instance ild4 : LdOk Q 4 := ⟨fun b o s G => (show _ = loadOne b o G by kernel_rfl).trans (loadOne_eq b o G)⟩
instance ifa118_9 : FaOk Q 118 9 12 := ⟨fun b o s => by kernel_rfl⟩
instance ifa118_7 : FaOk Q 118 7 10 := ⟨fun b o s => by kernel_rfl⟩
instance iep115 : EpOk Q 115 := ⟨fun neg x y => by cases neg <;> kernel_rfl, fun neg x y a => by cases neg <;> kernel_rfl, fun neg x y a => by cases neg <;> kernel_rfl⟩
instance ifa118_0 : FaOk Q 118 0 0 := ⟨fun b o s => by kernel_rfl⟩
instance ifa118_4 : FaOk Q 118 4 7 := ⟨fun b o s => by kernel_rfl⟩
instance ild22 : LdOk Q 22 := ⟨fun b o s G => (show _ = loadOne b o G by kernel_rfl).trans (loadOne_eq b o G)⟩
instance ist22 : StOk Q 22 1 := ⟨fun b o s v G => by kernel_rfl⟩
instance ifa114_1 : FaOk Q 114 1 1 := ⟨fun b o s => by kernel_rfl⟩
instance ifa118_3 : FaOk Q 118 3 6 := ⟨fun b o s => by kernel_rfl⟩
instance ifa118_5 : FaOk Q 118 5 8 := ⟨fun b o s => by kernel_rfl⟩
instance ist4 : StOk Q 4 1 := ⟨fun b o s v G => by kernel_rfl⟩
instance ifa118_1 : FaOk Q 118 1 2 := ⟨fun b o s => by kernel_rfl⟩
instance ifa118_6 : FaOk Q 118 6 9 := ⟨fun b o s => by kernel_rfl⟩
instance ifa118_10 : FaOk Q 118 10 13 := ⟨fun b o s => by kernel_rfl⟩
instance ild51 : LdOk Q 51 := ⟨fun b o s G => (show _ = loadOne b o G by kernel_rfl).trans (loadOne_eq b o G)⟩
instance ibd49_0_1_2 : BdOk Q 49 z49 [(0, 0, 1), (1, 1, 1), (2, 2, 1)] := bd_ok Q (by kernel_rfl) (by kernel_rfl) (by kernel_rfl)
instance iln138 : LnOk Q 138 := ⟨fun a n c => by kernel_rfl⟩
instance iias138 : IasOk Q 138 1 := ⟨fun b o s n c k j => by kernel_rfl⟩
instance ieb4 : EbOk Q 4 := ⟨fun neg x y a b => by cases neg <;> cases a <;> cases b <;> kernel_rfl⟩
instance iln35 : LnOk Q 35 := ⟨fun a n c => by kernel_rfl⟩
noncomputable abbrev z45 : List Value := [(.int .i64 0), (.int .i64 0), (.int .i64 0), (.int .i64 0), (.int .i64 0), (.int .i64 0), (.int .i64 0), (.int .i64 0), (.int .i64 0), (.int .i64 0), (.int .i64 0), (.int .i64 0), (.int .i64 0)]
instance ial45 : AlOk Q 45 z45 := ⟨fun G => by kernel_rfl⟩
noncomputable abbrev z37 : List Value := [(.int .i64 0), (.int .i64 0), (.int .i64 0)]
instance ibd37_0_1_2 : BdOk Q 37 z37 [(0, 0, 1), (1, 1, 1), (2, 2, 1)] := bd_ok Q (by kernel_rfl) (by kernel_rfl) (by kernel_rfl)
noncomputable abbrev z39 : List Value := [(.int .i64 0), (.int .i64 0), (.int .i64 0), (.int .i64 0), (.int .i64 0), (.int .i64 0)]
instance ibd39_0_1_2_3 : BdOk Q 39 z39 [(0, 0, 3), (1, 3, 1), (2, 4, 1), (3, 5, 1)] := bd_ok Q (by kernel_rfl) (by kernel_rfl) (by kernel_rfl)
instance ial39 : AlOk Q 39 z39 := ⟨fun G => by kernel_rfl⟩
instance ist39 : StOk Q 39 6 := ⟨fun b o s v G => by kernel_rfl⟩
instance ilda39 : LdAOk Q 39 6 := ⟨fun b o s G => by kernel_rfl⟩
noncomputable abbrev z41 : List Value := [(.int .i64 0), (.int .i64 0), (.int .i64 0)]
instance ibd41_0_1_2 : BdOk Q 41 z41 [(0, 0, 1), (1, 1, 1), (2, 2, 1)] := bd_ok Q (by kernel_rfl) (by kernel_rfl) (by kernel_rfl)
noncomputable abbrev z43 : List Value := [(.int .i64 0), (.int .i64 0), (.int .i64 0), (.int .i64 0), (.int .i64 0), (.int .i64 0), (.int .i64 0), (.int .i64 0), (.int .i64 0), (.int .i64 0)]
instance ibd43_0_1_2 : BdOk Q 43 z43 [(0, 0, 6), (1, 6, 3), (2, 9, 1)] := bd_ok Q (by kernel_rfl) (by kernel_rfl) (by kernel_rfl)
instance ial43 : AlOk Q 43 z43 := ⟨fun G => by kernel_rfl⟩
instance ist43 : StOk Q 43 10 := ⟨fun b o s v G => by kernel_rfl⟩
instance ibd45_0_1_2_3 : BdOk Q 45 z45 [(0, 0, 1), (1, 1, 1), (2, 2, 1), (3, 3, 10)] := bd_ok Q (by kernel_rfl) (by kernel_rfl) (by kernel_rfl)
instance ist45 : StOk Q 45 13 := ⟨fun b o s v G => by kernel_rfl⟩
instance icv3_159 : CvOk Q 3 159 .i64 .u64 := ⟨fun n => by kernel_rfl⟩
instance ifa43_0 : FaOk Q 43 0 0 := ⟨fun b o s => by kernel_rfl⟩
instance ifa39_0 : FaOk Q 39 0 0 := ⟨fun b o s => by kernel_rfl⟩
instance ifa37_2 : FaOk Q 37 2 2 := ⟨fun b o s => by kernel_rfl⟩
instance ifa45_0 : FaOk Q 45 0 0 := ⟨fun b o s => by kernel_rfl⟩
instance ifa43_1 : FaOk Q 43 1 6 := ⟨fun b o s => by kernel_rfl⟩
instance ilda41 : LdAOk Q 41 3 := ⟨fun b o s G => by kernel_rfl⟩
instance ifd37_0 : FdOk Q 37 0 0 := ⟨fun l => by kernel_rfl⟩
noncomputable abbrev z169 : List Value := [(.int .i64 0), (.int .i64 0), (.int .i64 0), (.int .i64 0), (.int .i64 0), (.int .i64 0), (.int .i64 0), (.int .i64 0), (.int .i64 0), (.int .i64 0), (.int .i64 0), (.int .i64 0), (.int .i64 0), (.int .i64 0), (.bool false), (.int .i64 0), (.slice none 0 0), (.int .u64 0), (.int .i64 0), (.int .u64 0), (.int .i64 0), (.int .i64 0), (.int .i64 0), (.int .u64 0)]
instance ibd169_0_1_2_3 : BdOk Q 169 z169 [(0, 0, 19), (1, 19, 1), (2, 20, 1), (3, 21, 1)] := bd_ok Q (by kernel_rfl) (by kernel_rfl) (by kernel_rfl)
instance ifa169_0 : FaOk Q 169 0 0 := ⟨fun b o s => by kernel_rfl⟩
instance ifa166_6 : FaOk Q 166 6 18 := ⟨fun b o s => by kernel_rfl⟩
instance ist51 : StOk Q 51 1 := ⟨fun b o s v G => by kernel_rfl⟩
noncomputable abbrev z171 : List Value := [.nilIface]
instance ibs164_2_0_1 : BsOk Q 164 2 (rep z171 2) 1 [(0, 0, 1), (1, 1, 1)] := bs_ok Q (z0 := z171) (by kernel_rfl) rfl (by decide) (by kernel_rfl)
instance ifa166_4 : FaOk Q 166 4 16 := ⟨fun b o s => by kernel_rfl⟩
instance ist164 : StOk Q 164 1 := ⟨fun b o s v G => by kernel_rfl⟩
instance iep104 : EpOk Q 104 := ⟨fun neg x y => by cases neg <;> kernel_rfl, fun neg x y a => by cases neg <;> kernel_rfl, fun neg x y a => by cases neg <;> kernel_rfl⟩
instance iiaa98 : IaaOk Q 98 4096 1 := ⟨fun b o s k j => by kernel_rfl⟩
noncomputable abbrev z82 : List Value := [(.int .i64 0), (.int .i64 0), (.int .u64 0), (.int .u64 0), (.bool false)]
instance ial82 : AlOk Q 82 z82 := ⟨fun G => by kernel_rfl⟩
instance ibd82_ : BdOk Q 82 z82 [] := bd_ok Q (by kernel_rfl) (by kernel_rfl) (by kernel_rfl)
instance ist82 : StOk Q 82 5 := ⟨fun b o s v G => by kernel_rfl⟩
instance ifa100_3 : FaOk Q 100 3 7 := ⟨fun b o s => by kernel_rfl⟩
instance ibd82_0_1 : BdOk Q 82 z82 [(0, 0, 1), (1, 1, 1)] := bd_ok Q (by kernel_rfl) (by kernel_rfl) (by kernel_rfl)
instance ifa100_2 : FaOk Q 100 2 2 := ⟨fun b o s => by kernel_rfl⟩
instance ifa82_2 : FaOk Q 82 2 2 := ⟨fun b o s => by kernel_rfl⟩
instance ifa82_3 : FaOk Q 82 3 3 := ⟨fun b o s => by kernel_rfl⟩
instance ifa82_4 : FaOk Q 82 4 4 := ⟨fun b o s => by kernel_rfl⟩
instance ist96 : StOk Q 96 1 := ⟨fun b o s v G => by kernel_rfl⟩
instance ilda82 : LdAOk Q 82 5 := ⟨fun b o s G => by kernel_rfl⟩
instance ifa109_1 : FaOk Q 109 1 1 := ⟨fun b o s => by kernel_rfl⟩
noncomputable abbrev z177 : List Value := [(.int .i64 0), (.int .i64 0), (.int .i64 0), (.int .i64 0), (.int .i64 0), (.int .i64 0), (.int .i64 0), (.int .i64 0), (.int .i64 0), (.int .i64 0), (.int .i64 0), (.int .i64 0), (.int .i64 0), (.int .i64 0), (.bool false), (.int .i64 0), (.slice none 0 0), (.int .u64 0), (.int .i64 0), (.int .u64 0), (.int .i64 0), (.int .i64 0)]
instance ibd177_0 : BdOk Q 177 z177 [(0, 0, 19)] := bd_ok Q (by kernel_rfl) (by kernel_rfl) (by kernel_rfl)
noncomputable abbrev z115 : List Value := [(.pointer none)]
instance ial115 : AlOk Q 115 z115 := ⟨fun G => by kernel_rfl⟩
instance ist115 : StOk Q 115 1 := ⟨fun b o s v G => by kernel_rfl⟩
instance ifa177_0 : FaOk Q 177 0 0 := ⟨fun b o s => by kernel_rfl⟩
noncomputable abbrev z185 : List Value := [.nilFunc, .nilFunc, .nilFunc, (.pointer none), (.bool false)]
instance ibd185_0_1_2 : BdOk Q 185 z185 [(0, 0, 1), (1, 1, 1), (2, 2, 1)] := bd_ok Q (by kernel_rfl) (by kernel_rfl) (by kernel_rfl)
instance iifc178 : IfcOk Q 178 := ⟨fun v => by kernel_rfl⟩
instance ibs164_3_0_1_2 : BsOk Q 164 3 (rep z171 3) 1 [(0, 0, 1), (1, 1, 1), (2, 2, 1)] := bs_ok Q (z0 := z171) (by kernel_rfl) rfl (by decide) (by kernel_rfl)
instance ibd120_ : BdOk Q 120 z120 [] := bd_ok Q (by kernel_rfl) (by kernel_rfl) (by kernel_rfl)
instance ifa177_1 : FaOk Q 177 1 19 := ⟨fun b o s => by kernel_rfl⟩
instance ilda175 : LdAOk Q 175 3 := ⟨fun b o s G => by kernel_rfl⟩
instance ilda120 : LdAOk Q 120 2 := ⟨fun b o s G => by kernel_rfl⟩
instance ifa120_0 : FaOk Q 120 0 0 := ⟨fun b o s => by kernel_rfl⟩
instance ifa114_0 : FaOk Q 114 0 0 := ⟨fun b o s => by kernel_rfl⟩
instance ibd109_0 : BdOk Q 109 z109 [(0, 0, 1)] := bd_ok Q (by kernel_rfl) (by kernel_rfl) (by kernel_rfl)
instance ifd82_3 : FdOk Q 82 3 3 := ⟨fun l => by kernel_rfl⟩
noncomputable abbrev z4 : List Value := [(.bool false)]
instance ibs138_1_0 : BsOk Q 138 1 (rep z4 1) 1 [(0, 0, 1)] := bs_ok Q (z0 := z4) (by kernel_rfl) rfl (by decide) (by kernel_rfl)
instance iap138_138 : ApOk Q 138 138 1 1 := ⟨fun s x G => by kernel_rfl⟩
instance iias35 : IasOk Q 35 1 := ⟨fun b o s n c k j => by kernel_rfl⟩
instance ilda37 : LdAOk Q 37 3 := ⟨fun b o s G => by kernel_rfl⟩
instance ifa39_2 : FaOk Q 39 2 4 := ⟨fun b o s => by kernel_rfl⟩
instance ifa39_1 : FaOk Q 39 1 3 := ⟨fun b o s => by kernel_rfl⟩
instance ild50 : LdOk Q 50 := ⟨fun b o s G => (show _ = loadOne b o G by kernel_rfl).trans (loadOne_eq b o G)⟩
instance ifa41_0 : FaOk Q 41 0 0 := ⟨fun b o s => by kernel_rfl⟩
instance ial37 : AlOk Q 37 z37 := ⟨fun G => by kernel_rfl⟩
instance ifa43_2 : FaOk Q 43 2 9 := ⟨fun b o s => by kernel_rfl⟩
instance ifa37_1 : FaOk Q 37 1 1 := ⟨fun b o s => by kernel_rfl⟩
instance ist37 : StOk Q 37 3 := ⟨fun b o s v G => by kernel_rfl⟩
noncomputable abbrev z166 : List Value := [(.int .i64 0), (.int .i64 0), (.int .i64 0), (.int .i64 0), (.int .i64 0), (.int .i64 0), (.int .i64 0), (.int .i64 0), (.int .i64 0), (.int .i64 0), (.int .i64 0), (.int .i64 0), (.int .i64 0), (.int .i64 0), (.bool false), (.int .i64 0), (.slice none 0 0), (.int .u64 0), (.int .i64 0)]
instance ial166 : AlOk Q 166 z166 := ⟨fun G => by kernel_rfl⟩
instance ibd166_0_1_2 : BdOk Q 166 z166 [(0, 0, 13), (1, 13, 1), (2, 14, 1)] := bd_ok Q (by kernel_rfl) (by kernel_rfl) (by kernel_rfl)
instance ist166 : StOk Q 166 19 := ⟨fun b o s v G => by kernel_rfl⟩
instance ifa41_2 : FaOk Q 41 2 2 := ⟨fun b o s => by kernel_rfl⟩
instance ilda166 : LdAOk Q 166 19 := ⟨fun b o s G => by kernel_rfl⟩
noncomputable abbrev z229 : List Value := [.nilFunc, .nilFunc, .nilFunc, (.pointer none), (.bool false)]
instance ibd229_0_2 : BdOk Q 229 z229 [(0, 0, 1), (2, 2, 1)] := bd_ok Q (by kernel_rfl) (by kernel_rfl) (by kernel_rfl)
instance iifc220 : IfcOk Q 220 := ⟨fun v => by kernel_rfl⟩
instance ild104 : LdOk Q 104 := ⟨fun b o s G => (show _ = loadOne b o G by kernel_rfl).trans (loadOne_eq b o G)⟩
noncomputable abbrev z237 : List Value := [.nilFunc, .nilFunc, .nilFunc, (.pointer none), (.bool false)]
instance ibd237_0_2 : BdOk Q 237 z237 [(0, 0, 1), (2, 2, 1)] := bd_ok Q (by kernel_rfl) (by kernel_rfl) (by kernel_rfl)
instance iifc230 : IfcOk Q 230 := ⟨fun v => by kernel_rfl⟩
instance ild164 : LdOk Q 164 := ⟨fun b o s G => (show _ = loadOne b o G by kernel_rfl).trans (loadOne_eq b o G)⟩
instance iln164 : LnOk Q 164 := ⟨fun a n c => by kernel_rfl⟩
instance iias164 : IasOk Q 164 1 := ⟨fun b o s n c k j => by kernel_rfl⟩
instance ild171 : LdOk Q 171 := ⟨fun b o s G => (show _ = loadOne b o G by kernel_rfl).trans (loadOne_eq b o G)⟩
instance isl164 : SlOk Q 164 1 := ⟨fun a n c lo hi mx G => sl_eq Q (e := 171) (by kernel_rfl) (by kernel_rfl) a n c lo hi mx G⟩
instance ifa166_5 : FaOk Q 166 5 17 := ⟨fun b o s => by kernel_rfl⟩
instance ibs164_1_0 : BsOk Q 164 1 (rep z171 1) 1 [(0, 0, 1)] := bs_ok Q (z0 := z171) (by kernel_rfl) rfl (by decide) (by kernel_rfl)
instance iap164_164 : ApOk Q 164 164 1 16 := ⟨fun s x G => by kernel_rfl⟩
instance ifa166_2 : FaOk Q 166 2 14 := ⟨fun b o s => by kernel_rfl⟩
instance iep106 : EpOk Q 106 := ⟨fun neg x y => by cases neg <;> kernel_rfl, fun neg x y a => by cases neg <;> kernel_rfl, fun neg x y a => by cases neg <;> kernel_rfl⟩
noncomputable abbrev z246 : List Value := [(.int .i64 0), (.int .i64 0), (.int .i64 0), (.int .i64 0), (.int .i64 0), (.int .i64 0), (.int .i64 0), (.int .i64 0), (.int .i64 0), (.int .i64 0), (.int .i64 0), (.int .i64 0), (.int .i64 0), (.int .i64 0), (.int .u64 0), (.int .i64 0), (.int .u64 0), (.int .u64 0), (.int .i64 0), (.int .u64 0), (.bool false), (.int .i64 0)]
instance ibd246_0 : BdOk Q 246 z246 [(0, 0, 22)] := bd_ok Q (by kernel_rfl) (by kernel_rfl) (by kernel_rfl)
instance iep179 : EpOk Q 179 := ⟨fun neg x y => by cases neg <;> kernel_rfl, fun neg x y a => by cases neg <;> kernel_rfl, fun neg x y a => by cases neg <;> kernel_rfl⟩
instance ifa246_0 : FaOk Q 246 0 0 := ⟨fun b o s => by kernel_rfl⟩
instance ifa243_7 : FaOk Q 243 7 19 := ⟨fun b o s => by kernel_rfl⟩
instance ifa175_0 : FaOk Q 175 0 0 := ⟨fun b o s => by kernel_rfl⟩
instance ifa175_1 : FaOk Q 175 1 2 := ⟨fun b o s => by kernel_rfl⟩
noncomputable abbrev z254 : List Value := [.nilFunc, .nilFunc, .nilFunc, (.pointer none), (.bool false)]
instance ibd254_0 : BdOk Q 254 z254 [(0, 0, 1)] := bd_ok Q (by kernel_rfl) (by kernel_rfl) (by kernel_rfl)
instance iifc247 : IfcOk Q 247 := ⟨fun v => by kernel_rfl⟩
instance ifa37_0 : FaOk Q 37 0 0 := ⟨fun b o s => by kernel_rfl⟩
instance ild187 : LdOk Q 187 := ⟨fun b o s G => (show _ = loadOne b o G by kernel_rfl).trans (loadOne_eq b o G)⟩
instance ifa166_0 : FaOk Q 166 0 0 := ⟨fun b o s => by kernel_rfl⟩
instance ifa166_1 : FaOk Q 166 1 13 := ⟨fun b o s => by kernel_rfl⟩
noncomputable abbrev z282 : List Value := [.nilFunc, .nilFunc, .nilFunc, (.int .i64 0), (.bool false), (.int .i64 0)]
instance ibd282_2 : BdOk Q 282 z282 [(2, 4, 1)] := bd_ok Q (by kernel_rfl) (by kernel_rfl) (by kernel_rfl)
noncomputable abbrev z285 : List Value := [.nilFunc, .nilFunc, .nilFunc, (.int .i64 0), (.bool false), (.int .i64 0), (.int .i64 0), (.int .i64 0), (.int .i64 0), (.int .i64 0), (.int .u32 0)]
instance ibd285_0_1 : BdOk Q 285 z285 [(0, 0, 6), (1, 6, 3)] := bd_ok Q (by kernel_rfl) (by kernel_rfl) (by kernel_rfl)
instance ifa285_0 : FaOk Q 285 0 0 := ⟨fun b o s => by kernel_rfl⟩
instance ifa41_1 : FaOk Q 41 1 1 := ⟨fun b o s => by kernel_rfl⟩
instance ifa285_2 : FaOk Q 285 2 9 := ⟨fun b o s => by kernel_rfl⟩
noncomputable abbrev z280 : List Value := [.nilFunc, .nilFunc, .nilFunc]
instance ibd280_0_1_2 : BdOk Q 280 z280 [(0, 0, 1), (1, 1, 1), (2, 2, 1)] := bd_ok Q (by kernel_rfl) (by kernel_rfl) (by kernel_rfl)
instance ifa282_0 : FaOk Q 282 0 0 := ⟨fun b o s => by kernel_rfl⟩
instance ist280 : StOk Q 280 3 := ⟨fun b o s v G => by kernel_rfl⟩
instance ifa166_3 : FaOk Q 166 3 15 := ⟨fun b o s => by kernel_rfl⟩
instance iep221 : EpOk Q 221 := ⟨fun neg x y => by cases neg <;> kernel_rfl, fun neg x y a => by cases neg <;> kernel_rfl, fun neg x y a => by cases neg <;> kernel_rfl⟩
instance ifa285_3 : FaOk Q 285 3 10 := ⟨fun b o s => by kernel_rfl⟩
instance ild283 : LdOk Q 283 := ⟨fun b o s G => (show _ = loadOne b o G by kernel_rfl).trans (loadOne_eq b o G)⟩
instance icv283_3 : CvOk Q 283 3 .u32 .i64 := ⟨fun n => by kernel_rfl⟩
noncomputable abbrev z291 : List Value := [(.pointer none), (.int .i64 0), (.int .i64 0), (.int .i64 0), (.int .i64 0), (.int .i64 0), (.int .i64 0), (.bool false), .nilFunc, (.int .i64 0), (.int .u64 0), (.int .i64 0)]
instance ibd291_0_1_2_3 : BdOk Q 291 z291 [(0, 0, 1), (1, 1, 6), (2, 7, 1), (3, 8, 1)] := bd_ok Q (by kernel_rfl) (by kernel_rfl) (by kernel_rfl)
instance ifa169_5 : FaOk Q 169 5 23 := ⟨fun b o s => by kernel_rfl⟩
noncomputable abbrev z172 : List Value := [.nilFunc]
instance ibs294_3_0_1_2 : BsOk Q 294 3 (rep z172 3) 1 [(0, 0, 1), (1, 1, 1), (2, 2, 1)] := bs_ok Q (z0 := z172) (by kernel_rfl) rfl (by decide) (by kernel_rfl)
instance iln294 : LnOk Q 294 := ⟨fun a n c => by kernel_rfl⟩
instance iias294 : IasOk Q 294 1 := ⟨fun b o s n c k j => by kernel_rfl⟩
instance ild172 : LdOk Q 172 := ⟨fun b o s G => (show _ = loadOne b o G by kernel_rfl).trans (loadOne_eq b o G)⟩
instance ifa169_4 : FaOk Q 169 4 22 := ⟨fun b o s => by kernel_rfl⟩
instance ibs294_4_0_1_2_3 : BsOk Q 294 4 (rep z172 4) 1 [(0, 0, 1), (1, 1, 1), (2, 2, 1), (3, 3, 1)] := bs_ok Q (z0 := z172) (by kernel_rfl) rfl (by decide) (by kernel_rfl)
noncomputable abbrev z243 : List Value := [(.int .i64 0), (.int .i64 0), (.int .i64 0), (.int .i64 0), (.int .i64 0), (.int .i64 0), (.int .i64 0), (.int .i64 0), (.int .i64 0), (.int .i64 0), (.int .i64 0), (.int .i64 0), (.int .i64 0), (.int .i64 0), (.int .u64 0), (.int .i64 0), (.int .u64 0), (.int .u64 0), (.int .i64 0), (.int .u64 0), (.bool false), (.int .i64 0)]
instance ial243 : AlOk Q 243 z243 := ⟨fun G => by kernel_rfl⟩
instance ibd243_8_2_9 : BdOk Q 243 z243 [(8, 20, 1), (2, 13, 1), (9, 21, 1)] := bd_ok Q (by kernel_rfl) (by kernel_rfl) (by kernel_rfl)
instance ist243 : StOk Q 243 22 := ⟨fun b o s v G => by kernel_rfl⟩
instance ibd243_0_8_2 : BdOk Q 243 z243 [(0, 0, 13), (8, 20, 1), (2, 13, 1)] := bd_ok Q (by kernel_rfl) (by kernel_rfl) (by kernel_rfl)
instance ilda243 : LdAOk Q 243 22 := ⟨fun b o s G => by kernel_rfl⟩
instance ifa243_8 : FaOk Q 243 8 20 := ⟨fun b o s => by kernel_rfl⟩
instance ifa243_2 : FaOk Q 243 2 13 := ⟨fun b o s => by kernel_rfl⟩
instance ifa243_9 : FaOk Q 243 9 21 := ⟨fun b o s => by kernel_rfl⟩
instance ifa243_6 : FaOk Q 243 6 17 := ⟨fun b o s => by kernel_rfl⟩
noncomputable abbrev z298 : List Value := [.nilFunc, .nilFunc, .nilFunc, (.int .i64 0), (.bool false), (.int .i64 0), (.int .i64 0)]
instance ibd298_0_1 : BdOk Q 298 z298 [(0, 0, 6), (1, 6, 1)] := bd_ok Q (by kernel_rfl) (by kernel_rfl) (by kernel_rfl)
instance ifa298_0 : FaOk Q 298 0 0 := ⟨fun b o s => by kernel_rfl⟩
instance iiaa280 : IaaOk Q 280 3 1 := ⟨fun b o s k j => by kernel_rfl⟩
instance ist124 : StOk Q 124 1 := ⟨fun b o s v G => by kernel_rfl⟩
noncomputable abbrev z313 : List Value := [(.int .i64 0), (.int .i64 0)]
instance ibd313_0 : BdOk Q 313 z313 [(0, 0, 1)] := bd_ok Q (by kernel_rfl) (by kernel_rfl) (by kernel_rfl)
noncomputable abbrev z274 : List Value := [(.int .i64 0), (.int .i64 0), (.int .i64 0)]
instance ial274 : AlOk Q 274 z274 := ⟨fun G => by kernel_rfl⟩
instance ibd274_0_1_2 : BdOk Q 274 z274 [(0, 0, 1), (1, 1, 1), (2, 2, 1)] := bd_ok Q (by kernel_rfl) (by kernel_rfl) (by kernel_rfl)
instance ist274 : StOk Q 274 3 := ⟨fun b o s v G => by kernel_rfl⟩
instance ilda274 : LdAOk Q 274 3 := ⟨fun b o s G => by kernel_rfl⟩
instance ifa274_1 : FaOk Q 274 1 1 := ⟨fun b o s => by kernel_rfl⟩
instance ifa274_2 : FaOk Q 274 2 2 := ⟨fun b o s => by kernel_rfl⟩
instance ild272 : LdOk Q 272 := ⟨fun b o s G => (show _ = loadOne b o G by kernel_rfl).trans (loadOne_eq b o G)⟩
instance iifc272 : IfcOk Q 272 := ⟨fun v => by kernel_rfl⟩
instance ifa274_0 : FaOk Q 274 0 0 := ⟨fun b o s => by kernel_rfl⟩
noncomputable abbrev z278 : List Value := [(.int .i64 0), (.int .i64 0), (.int .i64 0)]
instance ial278 : AlOk Q 278 z278 := ⟨fun G => by kernel_rfl⟩
instance ibd278_0_1_2 : BdOk Q 278 z278 [(0, 0, 1), (1, 1, 1), (2, 2, 1)] := bd_ok Q (by kernel_rfl) (by kernel_rfl) (by kernel_rfl)
instance ist278 : StOk Q 278 3 := ⟨fun b o s v G => by kernel_rfl⟩
instance ilda278 : LdAOk Q 278 3 := ⟨fun b o s G => by kernel_rfl⟩
instance ifa278_1 : FaOk Q 278 1 1 := ⟨fun b o s => by kernel_rfl⟩
instance ifa278_2 : FaOk Q 278 2 2 := ⟨fun b o s => by kernel_rfl⟩
instance ild276 : LdOk Q 276 := ⟨fun b o s G => (show _ = loadOne b o G by kernel_rfl).trans (loadOne_eq b o G)⟩
instance iifc276 : IfcOk Q 276 := ⟨fun v => by kernel_rfl⟩
instance ifa278_0 : FaOk Q 278 0 0 := ⟨fun b o s => by kernel_rfl⟩
instance ifa282_1 : FaOk Q 282 1 3 := ⟨fun b o s => by kernel_rfl⟩
instance ifa282_3 : FaOk Q 282 3 5 := ⟨fun b o s => by kernel_rfl⟩
instance ifa285_1 : FaOk Q 285 1 6 := ⟨fun b o s => by kernel_rfl⟩
instance icv23_283 : CvOk Q 23 283 .u64 .u32 := ⟨fun n => by kernel_rfl⟩
instance ist283 : StOk Q 283 1 := ⟨fun b o s v G => by kernel_rfl⟩
instance icv283_23 : CvOk Q 283 23 .u32 .u64 := ⟨fun n => by kernel_rfl⟩
instance ifa282_2 : FaOk Q 282 2 4 := ⟨fun b o s => by kernel_rfl⟩
noncomputable abbrev z316 : List Value := [(.int .i64 0), (.int .i64 0), (.int .i64 0), (.int .u64 0), (.int .i64 0), (.int .i64 0), (.bool false), (.bool false), (.int .i64 0)]
instance ibd316_0_4 : BdOk Q 316 z316 [(0, 0, 3), (4, 6, 1)] := bd_ok Q (by kernel_rfl) (by kernel_rfl) (by kernel_rfl)
noncomputable abbrev z319 : List Value := [(.int .i64 0), (.int .i64 0), (.int .i64 0), (.int .u64 0), (.int .i64 0), (.int .i64 0), (.bool false), (.bool false), (.int .i64 0), .nilFunc]
instance ibd319_0_1 : BdOk Q 319 z319 [(0, 0, 9), (1, 9, 1)] := bd_ok Q (by kernel_rfl) (by kernel_rfl) (by kernel_rfl)
instance ifa291_0 : FaOk Q 291 0 0 := ⟨fun b o s => by kernel_rfl⟩
instance ild287 : LdOk Q 287 := ⟨fun b o s G => (show _ = loadOne b o G by kernel_rfl).trans (loadOne_eq b o G)⟩
instance ifa291_4 : FaOk Q 291 4 9 := ⟨fun b o s => by kernel_rfl⟩
instance ifa291_3 : FaOk Q 291 3 8 := ⟨fun b o s => by kernel_rfl⟩
instance ist289 : StOk Q 289 1 := ⟨fun b o s v G => by kernel_rfl⟩
instance iep231 : EpOk Q 231 := ⟨fun neg x y => by cases neg <;> kernel_rfl, fun neg x y a => by cases neg <;> kernel_rfl, fun neg x y a => by cases neg <;> kernel_rfl⟩
instance ifa291_2 : FaOk Q 291 2 7 := ⟨fun b o s => by kernel_rfl⟩
instance ild289 : LdOk Q 289 := ⟨fun b o s G => (show _ = loadOne b o G by kernel_rfl).trans (loadOne_eq b o G)⟩
instance ief289 : EfOk Q 289 := ⟨fun neg x y => by cases neg <;> kernel_rfl, fun neg x y f a b => by cases neg <;> kernel_rfl⟩
instance ifa291_5 : FaOk Q 291 5 10 := ⟨fun b o s => by kernel_rfl⟩
instance ifa291_6 : FaOk Q 291 6 11 := ⟨fun b o s => by kernel_rfl⟩
noncomputable abbrev z327 : List Value := [.nilFunc, .nilFunc, .nilFunc, (.pointer none), (.bool false)]
instance ibd327_0_1 : BdOk Q 327 z327 [(0, 0, 1), (1, 1, 1)] := bd_ok Q (by kernel_rfl) (by kernel_rfl) (by kernel_rfl)
instance iifc320 : IfcOk Q 320 := ⟨fun v => by kernel_rfl⟩
noncomputable abbrev z335 : List Value := [.nilFunc, .nilFunc, .nilFunc, (.pointer none), (.bool false)]
instance ibd335_0_1 : BdOk Q 335 z335 [(0, 0, 1), (1, 1, 1)] := bd_ok Q (by kernel_rfl) (by kernel_rfl) (by kernel_rfl)
instance iifc328 : IfcOk Q 328 := ⟨fun v => by kernel_rfl⟩
noncomputable abbrev z343 : List Value := [.nilFunc, .nilFunc, .nilFunc, (.pointer none), (.bool false)]
instance ibd343_0_2 : BdOk Q 343 z343 [(0, 0, 1), (2, 2, 1)] := bd_ok Q (by kernel_rfl) (by kernel_rfl) (by kernel_rfl)
instance iifc337 : IfcOk Q 337 := ⟨fun v => by kernel_rfl⟩
instance ifa298_1 : FaOk Q 298 1 6 := ⟨fun b o s => by kernel_rfl⟩
instance ifa313_0 : FaOk Q 313 0 0 := ⟨fun b o s => by kernel_rfl⟩
noncomputable abbrev z354 : List Value := [(.int .i64 0), (.int .i64 0), (.int .i64 0)]
instance ibd354_0_1_2 : BdOk Q 354 z354 [(0, 0, 1), (1, 1, 1), (2, 2, 1)] := bd_ok Q (by kernel_rfl) (by kernel_rfl) (by kernel_rfl)
instance ifa313_1 : FaOk Q 313 1 1 := ⟨fun b o s => by kernel_rfl⟩
instance ibs395_2_0_1 : BsOk Q 395 2 (rep z354 2) 3 [(0, 0, 3), (1, 3, 3)] := bs_ok Q (z0 := z354) (by kernel_rfl) rfl (by decide) (by kernel_rfl)
noncomputable abbrev z357 : List Value := [(.int .i64 0), (.int .i64 0), (.int .i64 0), (.int .i64 0)]
instance ial357 : AlOk Q 357 z357 := ⟨fun G => by kernel_rfl⟩
instance ist357 : StOk Q 357 4 := ⟨fun b o s v G => by kernel_rfl⟩
instance isla357 : SlAOk Q 357 2 2 := ⟨fun a lo hi mx G => by kernel_rfl⟩
instance ibs35_2_0_1 : BsOk Q 35 2 (rep z3 2) 1 [(0, 0, 1), (1, 1, 1)] := bs_ok Q (z0 := z3) (by kernel_rfl) rfl (by decide) (by kernel_rfl)
instance ifa319_1 : FaOk Q 319 1 9 := ⟨fun b o s => by kernel_rfl⟩
instance ist317 : StOk Q 317 1 := ⟨fun b o s v G => by kernel_rfl⟩
instance ifa319_0 : FaOk Q 319 0 0 := ⟨fun b o s => by kernel_rfl⟩
instance ifa316_2 : FaOk Q 316 2 4 := ⟨fun b o s => by kernel_rfl⟩
instance iep287 : EpOk Q 287 := ⟨fun neg x y => by cases neg <;> kernel_rfl, fun neg x y a => by cases neg <;> kernel_rfl, fun neg x y a => by cases neg <;> kernel_rfl⟩
instance ild317 : LdOk Q 317 := ⟨fun b o s G => (show _ = loadOne b o G by kernel_rfl).trans (loadOne_eq b o G)⟩
instance ifa316_5 : FaOk Q 316 5 7 := ⟨fun b o s => by kernel_rfl⟩
instance ifa291_1 : FaOk Q 291 1 1 := ⟨fun b o s => by kernel_rfl⟩
noncomputable abbrev z365 : List Value := [(.int .i64 0), (.int .i64 0), (.bool false)]
instance ibd365_0_1 : BdOk Q 365 z365 [(0, 0, 1), (1, 1, 1)] := bd_ok Q (by kernel_rfl) (by kernel_rfl) (by kernel_rfl)
instance icv3_23 : CvOk Q 3 23 .i64 .u64 := ⟨fun n => by kernel_rfl⟩
instance ifa169_1 : FaOk Q 169 1 19 := ⟨fun b o s => by kernel_rfl⟩
instance ifa169_2 : FaOk Q 169 2 20 := ⟨fun b o s => by kernel_rfl⟩
instance ifa169_3 : FaOk Q 169 3 21 := ⟨fun b o s => by kernel_rfl⟩
noncomputable abbrev z369 : List Value := [(.bool false), (.int .u64 0), .nilFunc, .nilFunc, .nilFunc, .nilFunc, (.int .i64 0), (.int .i64 0)]
instance ibd369_0_1_4 : BdOk Q 369 z369 [(0, 0, 1), (1, 1, 1), (4, 7, 1)] := bd_ok Q (by kernel_rfl) (by kernel_rfl) (by kernel_rfl)
instance ifa369_4 : FaOk Q 369 4 7 := ⟨fun b o s => by kernel_rfl⟩
instance ifa369_3 : FaOk Q 369 3 6 := ⟨fun b o s => by kernel_rfl⟩
instance ial3 : AlOk Q 3 z3 := ⟨fun G => by kernel_rfl⟩
noncomputable abbrev z367 : List Value := [.nilFunc, .nilFunc, .nilFunc, .nilFunc]
instance ibd367_0_1_2_3 : BdOk Q 367 z367 [(0, 0, 1), (1, 1, 1), (2, 2, 1), (3, 3, 1)] := bd_ok Q (by kernel_rfl) (by kernel_rfl) (by kernel_rfl)
instance ifa369_2 : FaOk Q 369 2 2 := ⟨fun b o s => by kernel_rfl⟩
instance ist367 : StOk Q 367 4 := ⟨fun b o s v G => by kernel_rfl⟩
instance iep321 : EpOk Q 321 := ⟨fun neg x y => by cases neg <;> kernel_rfl, fun neg x y a => by cases neg <;> kernel_rfl, fun neg x y a => by cases neg <;> kernel_rfl⟩
instance ifa369_1 : FaOk Q 369 1 1 := ⟨fun b o s => by kernel_rfl⟩
noncomputable abbrev z376 : List Value := [(.int .i64 0), (.int .i64 0), (.int .i64 0), (.int .i64 0), (.int .i64 0), (.int .i64 0), (.int .i64 0), (.int .i64 0), (.int .i64 0), (.int .i64 0), (.int .i64 0), (.int .i64 0), (.int .i64 0), (.bool false), (.bool false), (.int .u64 0), (.int .u64 0), (.int .i64 0), (.int .i64 0), (.int .i64 0), (.int .i64 0), (.int .u64 0), (.pointer none), (.pointer none), (.int .u64 0), (.int .i64 0)]
instance ibd376_0_1_3_4_6_13 : BdOk Q 376 z376 [(0, 0, 13), (1, 13, 1), (3, 15, 1), (4, 16, 1), (6, 18, 1), (13, 25, 1)] := bd_ok Q (by kernel_rfl) (by kernel_rfl) (by kernel_rfl)
instance ifa376_13 : FaOk Q 376 13 25 := ⟨fun b o s => by kernel_rfl⟩
instance ial365 : AlOk Q 365 z365 := ⟨fun G => by kernel_rfl⟩
instance ist365 : StOk Q 365 3 := ⟨fun b o s v G => by kernel_rfl⟩
instance ifa365_0 : FaOk Q 365 0 0 := ⟨fun b o s => by kernel_rfl⟩
instance ifa376_5 : FaOk Q 376 5 17 := ⟨fun b o s => by kernel_rfl⟩
instance ifa376_7 : FaOk Q 376 7 19 := ⟨fun b o s => by kernel_rfl⟩
instance ist372 : StOk Q 372 1 := ⟨fun b o s v G => by kernel_rfl⟩
instance iep329 : EpOk Q 329 := ⟨fun neg x y => by cases neg <;> kernel_rfl, fun neg x y a => by cases neg <;> kernel_rfl, fun neg x y a => by cases neg <;> kernel_rfl⟩
instance ifa376_12 : FaOk Q 376 12 24 := ⟨fun b o s => by kernel_rfl⟩
instance iln395 : LnOk Q 395 := ⟨fun a n c => by kernel_rfl⟩
instance iias395 : IasOk Q 395 3 := ⟨fun b o s n c k j => by kernel_rfl⟩
instance ilda354 : LdAOk Q 354 3 := ⟨fun b o s G => by kernel_rfl⟩
instance ial354 : AlOk Q 354 z354 := ⟨fun G => by kernel_rfl⟩
instance ist354 : StOk Q 354 3 := ⟨fun b o s v G => by kernel_rfl⟩
instance ifa354_0 : FaOk Q 354 0 0 := ⟨fun b o s => by kernel_rfl⟩
instance ifa354_1 : FaOk Q 354 1 1 := ⟨fun b o s => by kernel_rfl⟩
instance ifa354_2 : FaOk Q 354 2 2 := ⟨fun b o s => by kernel_rfl⟩
noncomputable abbrev z356 : List Value := [(.int .i64 0), (.int .i64 0)]
instance ibd356_0_1 : BdOk Q 356 z356 [(0, 0, 1), (1, 1, 1)] := bd_ok Q (by kernel_rfl) (by kernel_rfl) (by kernel_rfl)
instance ibd357_0_1 : BdOk Q 357 z357 [(0, 0, 2), (1, 2, 2)] := bd_ok Q (by kernel_rfl) (by kernel_rfl) (by kernel_rfl)
instance ilda357 : LdAOk Q 357 4 := ⟨fun b o s G => by kernel_rfl⟩
instance iln361 : LnOk Q 361 := ⟨fun a n c => by kernel_rfl⟩
instance iias361 : IasOk Q 361 2 := ⟨fun b o s n c k j => by kernel_rfl⟩
instance ilda356 : LdAOk Q 356 2 := ⟨fun b o s G => by kernel_rfl⟩
instance ial356 : AlOk Q 356 z356 := ⟨fun G => by kernel_rfl⟩
instance ist356 : StOk Q 356 2 := ⟨fun b o s v G => by kernel_rfl⟩
instance ifa316_0 : FaOk Q 316 0 0 := ⟨fun b o s => by kernel_rfl⟩
instance ifa316_3 : FaOk Q 316 3 5 := ⟨fun b o s => by kernel_rfl⟩
instance ifa316_1 : FaOk Q 316 1 3 := ⟨fun b o s => by kernel_rfl⟩
instance ifa316_6 : FaOk Q 316 6 8 := ⟨fun b o s => by kernel_rfl⟩
instance iep397 : EpOk Q 397 := ⟨fun neg x y => by cases neg <;> kernel_rfl, fun neg x y a => by cases neg <;> kernel_rfl, fun neg x y a => by cases neg <;> kernel_rfl⟩
instance ifa316_4 : FaOk Q 316 4 6 := ⟨fun b o s => by kernel_rfl⟩
instance ifa365_1 : FaOk Q 365 1 1 := ⟨fun b o s => by kernel_rfl⟩
instance ifa365_2 : FaOk Q 365 2 2 := ⟨fun b o s => by kernel_rfl⟩
instance icv23_3 : CvOk Q 23 3 .u64 .i64 := ⟨fun n => by kernel_rfl⟩
instance ial313 : AlOk Q 313 z313 := ⟨fun G => by kernel_rfl⟩
instance ist313 : StOk Q 313 2 := ⟨fun b o s v G => by kernel_rfl⟩
instance iiaa357 : IaaOk Q 357 2 2 := ⟨fun b o s k j => by kernel_rfl⟩
instance ibd365_0_1_2 : BdOk Q 365 z365 [(0, 0, 1), (1, 1, 1), (2, 2, 1)] := bd_ok Q (by kernel_rfl) (by kernel_rfl) (by kernel_rfl)
instance ilda365 : LdAOk Q 365 3 := ⟨fun b o s G => by kernel_rfl⟩
instance ibd365_ : BdOk Q 365 z365 [] := bd_ok Q (by kernel_rfl) (by kernel_rfl) (by kernel_rfl)
instance ifa376_0 : FaOk Q 376 0 0 := ⟨fun b o s => by kernel_rfl⟩
instance ifa376_4 : FaOk Q 376 4 16 := ⟨fun b o s => by kernel_rfl⟩
instance ifa376_10 : FaOk Q 376 10 22 := ⟨fun b o s => by kernel_rfl⟩
instance ist373 : StOk Q 373 1 := ⟨fun b o s v G => by kernel_rfl⟩
instance ifa356_0 : FaOk Q 356 0 0 := ⟨fun b o s => by kernel_rfl⟩
instance ibd313_0_1 : BdOk Q 313 z313 [(0, 0, 1), (1, 1, 1)] := bd_ok Q (by kernel_rfl) (by kernel_rfl) (by kernel_rfl)
instance ilda313 : LdAOk Q 313 2 := ⟨fun b o s G => by kernel_rfl⟩
instance ifa356_1 : FaOk Q 356 1 1 := ⟨fun b o s => by kernel_rfl⟩
noncomputable abbrev z413 : List Value := [(.int .i64 0), (.int .i64 0), (.int .i64 0), (.int .i64 0), (.int .i64 0), (.int .i64 0), (.int .i64 0), (.int .i64 0), (.int .i64 0), (.int .i64 0), (.int .i64 0), (.int .i64 0), (.int .i64 0), (.int .u64 0), (.int .i64 0), (.int .i64 0), (.int .i64 0), (.int .u64 0), (.int .u64 0), (.int .u64 0), (.slice none 0 0), (.int .u64 0), (.bool false), (.int .i64 0)]
instance ibd413_0_1_7 : BdOk Q 413 z413 [(0, 0, 13), (1, 13, 1), (7, 22, 1)] := bd_ok Q (by kernel_rfl) (by kernel_rfl) (by kernel_rfl)
instance ifa413_2 : FaOk Q 413 2 14 := ⟨fun b o s => by kernel_rfl⟩
instance ifa413_8 : FaOk Q 413 8 23 := ⟨fun b o s => by kernel_rfl⟩
noncomputable abbrev z410 : List Value := [(.int .i64 0), (.int .i64 0), (.int .u64 0), (.int .u64 0)]
instance imk411 : MkSlOk Q 411 4 32 z410 := ⟨fun k k' l c G => by kernel_rfl⟩
instance ifa413_5 : FaOk Q 413 5 20 := ⟨fun b o s => by kernel_rfl⟩
instance ist411 : StOk Q 411 1 := ⟨fun b o s v G => by kernel_rfl⟩
instance ifa413_0 : FaOk Q 413 0 0 := ⟨fun b o s => by kernel_rfl⟩
instance ibd109_0_1_2 : BdOk Q 109 z109 [(0, 0, 1), (1, 1, 1), (2, 2, 1)] := bd_ok Q (by kernel_rfl) (by kernel_rfl) (by kernel_rfl)
instance ifd82_4 : FdOk Q 82 4 4 := ⟨fun l => by kernel_rfl⟩
instance ild124 : LdOk Q 124 := ⟨fun b o s G => (show _ = loadOne b o G by kernel_rfl).trans (loadOne_eq b o G)⟩
instance ild373 : LdOk Q 373 := ⟨fun b o s G => (show _ = loadOne b o G by kernel_rfl).trans (loadOne_eq b o G)⟩
instance ild411 : LdOk Q 411 := ⟨fun b o s G => (show _ = loadOne b o G by kernel_rfl).trans (loadOne_eq b o G)⟩
instance ial410 : AlOk Q 410 z410 := ⟨fun G => by kernel_rfl⟩
instance ist410 : StOk Q 410 4 := ⟨fun b o s v G => by kernel_rfl⟩
instance ilda410 : LdAOk Q 410 4 := ⟨fun b o s G => by kernel_rfl⟩
instance ifa413_3 : FaOk Q 413 3 15 := ⟨fun b o s => by kernel_rfl⟩
instance ifa109_2 : FaOk Q 109 2 2 := ⟨fun b o s => by kernel_rfl⟩
instance ibd410_1 : BdOk Q 410 z410 [(1, 1, 1)] := bd_ok Q (by kernel_rfl) (by kernel_rfl) (by kernel_rfl)
instance ifa410_0 : FaOk Q 410 0 0 := ⟨fun b o s => by kernel_rfl⟩
instance ifa410_3 : FaOk Q 410 3 3 := ⟨fun b o s => by kernel_rfl⟩
instance iias411 : IasOk Q 411 4 := ⟨fun b o s n c k j => by kernel_rfl⟩
instance ifa185_4 : FaOk Q 185 4 4 := ⟨fun b o s => by kernel_rfl⟩
instance ifa185_0 : FaOk Q 185 0 0 := ⟨fun b o s => by kernel_rfl⟩
instance ild181 : LdOk Q 181 := ⟨fun b o s G => (show _ = loadOne b o G by kernel_rfl).trans (loadOne_eq b o G)⟩
instance ifa185_3 : FaOk Q 185 3 3 := ⟨fun b o s => by kernel_rfl⟩
instance ist179 : StOk Q 179 1 := ⟨fun b o s v G => by kernel_rfl⟩
instance ild179 : LdOk Q 179 := ⟨fun b o s G => (show _ = loadOne b o G by kernel_rfl).trans (loadOne_eq b o G)⟩
instance iifc179 : IfcOk Q 179 := ⟨fun v => by kernel_rfl⟩
instance ifa185_1 : FaOk Q 185 1 1 := ⟨fun b o s => by kernel_rfl⟩
instance ild182 : LdOk Q 182 := ⟨fun b o s G => (show _ = loadOne b o G by kernel_rfl).trans (loadOne_eq b o G)⟩
instance ief182 : EfOk Q 182 := ⟨fun neg x y => by cases neg <;> kernel_rfl, fun neg x y f a b => by cases neg <;> kernel_rfl⟩
instance ifa185_2 : FaOk Q 185 2 2 := ⟨fun b o s => by kernel_rfl⟩
instance ild183 : LdOk Q 183 := ⟨fun b o s G => (show _ = loadOne b o G by kernel_rfl).trans (loadOne_eq b o G)⟩
instance ief183 : EfOk Q 183 := ⟨fun neg x y => by cases neg <;> kernel_rfl, fun neg x y f a b => by cases neg <;> kernel_rfl⟩
instance ifa243_0 : FaOk Q 243 0 0 := ⟨fun b o s => by kernel_rfl⟩
instance ifa243_3 : FaOk Q 243 3 14 := ⟨fun b o s => by kernel_rfl⟩
instance ifa243_4 : FaOk Q 243 4 15 := ⟨fun b o s => by kernel_rfl⟩
instance ifa243_5 : FaOk Q 243 5 16 := ⟨fun b o s => by kernel_rfl⟩
instance ist241 : StOk Q 241 1 := ⟨fun b o s v G => by kernel_rfl⟩
instance ild241 : LdOk Q 241 := ⟨fun b o s G => (show _ = loadOne b o G by kernel_rfl).trans (loadOne_eq b o G)⟩
instance ifa120_1 : FaOk Q 120 1 1 := ⟨fun b o s => by kernel_rfl⟩
instance ifa229_4 : FaOk Q 229 4 4 := ⟨fun b o s => by kernel_rfl⟩
instance ifa229_0 : FaOk Q 229 0 0 := ⟨fun b o s => by kernel_rfl⟩
instance ild223 : LdOk Q 223 := ⟨fun b o s G => (show _ = loadOne b o G by kernel_rfl).trans (loadOne_eq b o G)⟩
instance ifa229_3 : FaOk Q 229 3 3 := ⟨fun b o s => by kernel_rfl⟩
instance ist221 : StOk Q 221 1 := ⟨fun b o s v G => by kernel_rfl⟩
instance ild221 : LdOk Q 221 := ⟨fun b o s G => (show _ = loadOne b o G by kernel_rfl).trans (loadOne_eq b o G)⟩
instance iifc221 : IfcOk Q 221 := ⟨fun v => by kernel_rfl⟩
instance ifa229_1 : FaOk Q 229 1 1 := ⟨fun b o s => by kernel_rfl⟩
instance ild227 : LdOk Q 227 := ⟨fun b o s G => (show _ = loadOne b o G by kernel_rfl).trans (loadOne_eq b o G)⟩
instance ief227 : EfOk Q 227 := ⟨fun neg x y => by cases neg <;> kernel_rfl, fun neg x y f a b => by cases neg <;> kernel_rfl⟩
instance ifa229_2 : FaOk Q 229 2 2 := ⟨fun b o s => by kernel_rfl⟩
instance ild226 : LdOk Q 226 := ⟨fun b o s G => (show _ = loadOne b o G by kernel_rfl).trans (loadOne_eq b o G)⟩
instance ief226 : EfOk Q 226 := ⟨fun neg x y => by cases neg <;> kernel_rfl, fun neg x y f a b => by cases neg <;> kernel_rfl⟩
instance ifa237_4 : FaOk Q 237 4 4 := ⟨fun b o s => by kernel_rfl⟩
instance ifa237_0 : FaOk Q 237 0 0 := ⟨fun b o s => by kernel_rfl⟩
instance ild233 : LdOk Q 233 := ⟨fun b o s G => (show _ = loadOne b o G by kernel_rfl).trans (loadOne_eq b o G)⟩
instance ifa237_3 : FaOk Q 237 3 3 := ⟨fun b o s => by kernel_rfl⟩
instance ist231 : StOk Q 231 1 := ⟨fun b o s v G => by kernel_rfl⟩
instance ild231 : LdOk Q 231 := ⟨fun b o s G => (show _ = loadOne b o G by kernel_rfl).trans (loadOne_eq b o G)⟩
instance iifc231 : IfcOk Q 231 := ⟨fun v => by kernel_rfl⟩
instance ifa237_1 : FaOk Q 237 1 1 := ⟨fun b o s => by kernel_rfl⟩
instance ild235 : LdOk Q 235 := ⟨fun b o s G => (show _ = loadOne b o G by kernel_rfl).trans (loadOne_eq b o G)⟩
instance ief235 : EfOk Q 235 := ⟨fun neg x y => by cases neg <;> kernel_rfl, fun neg x y f a b => by cases neg <;> kernel_rfl⟩
instance ifa237_2 : FaOk Q 237 2 2 := ⟨fun b o s => by kernel_rfl⟩
instance ild234 : LdOk Q 234 := ⟨fun b o s G => (show _ = loadOne b o G by kernel_rfl).trans (loadOne_eq b o G)⟩
instance ief234 : EfOk Q 234 := ⟨fun neg x y => by cases neg <;> kernel_rfl, fun neg x y f a b => by cases neg <;> kernel_rfl⟩
instance ifa254_4 : FaOk Q 254 4 4 := ⟨fun b o s => by kernel_rfl⟩
instance ifa254_0 : FaOk Q 254 0 0 := ⟨fun b o s => by kernel_rfl⟩
instance ild250 : LdOk Q 250 := ⟨fun b o s G => (show _ = loadOne b o G by kernel_rfl).trans (loadOne_eq b o G)⟩
instance ifa254_3 : FaOk Q 254 3 3 := ⟨fun b o s => by kernel_rfl⟩
instance ist248 : StOk Q 248 1 := ⟨fun b o s v G => by kernel_rfl⟩
instance ild248 : LdOk Q 248 := ⟨fun b o s G => (show _ = loadOne b o G by kernel_rfl).trans (loadOne_eq b o G)⟩
instance iifc248 : IfcOk Q 248 := ⟨fun v => by kernel_rfl⟩
instance ifa254_1 : FaOk Q 254 1 1 := ⟨fun b o s => by kernel_rfl⟩
instance ild251 : LdOk Q 251 := ⟨fun b o s G => (show _ = loadOne b o G by kernel_rfl).trans (loadOne_eq b o G)⟩
instance ief251 : EfOk Q 251 := ⟨fun neg x y => by cases neg <;> kernel_rfl, fun neg x y f a b => by cases neg <;> kernel_rfl⟩
instance ifa254_2 : FaOk Q 254 2 2 := ⟨fun b o s => by kernel_rfl⟩
instance ild252 : LdOk Q 252 := ⟨fun b o s G => (show _ = loadOne b o G by kernel_rfl).trans (loadOne_eq b o G)⟩
instance ief252 : EfOk Q 252 := ⟨fun neg x y => by cases neg <;> kernel_rfl, fun neg x y f a b => by cases neg <;> kernel_rfl⟩
instance iep248 : EpOk Q 248 := ⟨fun neg x y => by cases neg <;> kernel_rfl, fun neg x y a => by cases neg <;> kernel_rfl, fun neg x y a => by cases neg <;> kernel_rfl⟩
instance ifa327_4 : FaOk Q 327 4 4 := ⟨fun b o s => by kernel_rfl⟩
instance ifa327_0 : FaOk Q 327 0 0 := ⟨fun b o s => by kernel_rfl⟩
instance ild323 : LdOk Q 323 := ⟨fun b o s G => (show _ = loadOne b o G by kernel_rfl).trans (loadOne_eq b o G)⟩
instance ifa327_3 : FaOk Q 327 3 3 := ⟨fun b o s => by kernel_rfl⟩
instance ist321 : StOk Q 321 1 := ⟨fun b o s v G => by kernel_rfl⟩
instance ild321 : LdOk Q 321 := ⟨fun b o s G => (show _ = loadOne b o G by kernel_rfl).trans (loadOne_eq b o G)⟩
instance iifc321 : IfcOk Q 321 := ⟨fun v => by kernel_rfl⟩
instance ifa327_1 : FaOk Q 327 1 1 := ⟨fun b o s => by kernel_rfl⟩
instance ild324 : LdOk Q 324 := ⟨fun b o s G => (show _ = loadOne b o G by kernel_rfl).trans (loadOne_eq b o G)⟩
instance ief324 : EfOk Q 324 := ⟨fun neg x y => by cases neg <;> kernel_rfl, fun neg x y f a b => by cases neg <;> kernel_rfl⟩
instance ifa327_2 : FaOk Q 327 2 2 := ⟨fun b o s => by kernel_rfl⟩
instance ild325 : LdOk Q 325 := ⟨fun b o s G => (show _ = loadOne b o G by kernel_rfl).trans (loadOne_eq b o G)⟩
instance ief325 : EfOk Q 325 := ⟨fun neg x y => by cases neg <;> kernel_rfl, fun neg x y f a b => by cases neg <;> kernel_rfl⟩
instance ilda367 : LdAOk Q 367 4 := ⟨fun b o s G => by kernel_rfl⟩
instance iix367 : IxOk Q 367 4 := ⟨fun l k j => by kernel_rfl⟩
instance ifa369_0 : FaOk Q 369 0 0 := ⟨fun b o s => by kernel_rfl⟩
instance ifa335_4 : FaOk Q 335 4 4 := ⟨fun b o s => by kernel_rfl⟩
instance ifa335_0 : FaOk Q 335 0 0 := ⟨fun b o s => by kernel_rfl⟩
instance ild331 : LdOk Q 331 := ⟨fun b o s G => (show _ = loadOne b o G by kernel_rfl).trans (loadOne_eq b o G)⟩
instance ifa335_3 : FaOk Q 335 3 3 := ⟨fun b o s => by kernel_rfl⟩
instance ist329 : StOk Q 329 1 := ⟨fun b o s v G => by kernel_rfl⟩
instance ild329 : LdOk Q 329 := ⟨fun b o s G => (show _ = loadOne b o G by kernel_rfl).trans (loadOne_eq b o G)⟩
instance iifc329 : IfcOk Q 329 := ⟨fun v => by kernel_rfl⟩
instance ifa335_1 : FaOk Q 335 1 1 := ⟨fun b o s => by kernel_rfl⟩
instance ild332 : LdOk Q 332 := ⟨fun b o s G => (show _ = loadOne b o G by kernel_rfl).trans (loadOne_eq b o G)⟩
instance ief332 : EfOk Q 332 := ⟨fun neg x y => by cases neg <;> kernel_rfl, fun neg x y f a b => by cases neg <;> kernel_rfl⟩
instance ifa335_2 : FaOk Q 335 2 2 := ⟨fun b o s => by kernel_rfl⟩
instance ild333 : LdOk Q 333 := ⟨fun b o s G => (show _ = loadOne b o G by kernel_rfl).trans (loadOne_eq b o G)⟩
instance ief333 : EfOk Q 333 := ⟨fun neg x y => by cases neg <;> kernel_rfl, fun neg x y f a b => by cases neg <;> kernel_rfl⟩
instance ild372 : LdOk Q 372 := ⟨fun b o s G => (show _ = loadOne b o G by kernel_rfl).trans (loadOne_eq b o G)⟩
noncomputable abbrev z445 : List Value := [.nilFunc, .nilFunc, .nilFunc, .nilFunc, .nilFunc, .nilFunc, .nilFunc, .nilFunc, .nilFunc, .nilFunc, .nilFunc, .nilFunc, .nilFunc]
instance ial445 : AlOk Q 445 z445 := ⟨fun G => by kernel_rfl⟩
instance ist445 : StOk Q 445 13 := ⟨fun b o s v G => by kernel_rfl⟩
instance iiaa445 : IaaOk Q 445 13 1 := ⟨fun b o s k j => by kernel_rfl⟩
instance ild444 : LdOk Q 444 := ⟨fun b o s G => (show _ = loadOne b o G by kernel_rfl).trans (loadOne_eq b o G)⟩
instance ibd445_1_2_3_4_5_6_7_8_9_10_11_12 : BdOk Q 445 z445 [(1, 1, 1), (2, 2, 1), (3, 3, 1), (4, 4, 1), (5, 5, 1), (6, 6, 1), (7, 7, 1), (8, 8, 1), (9, 9, 1), (10, 10, 1), (11, 11, 1), (12, 12, 1)] := bd_ok Q (by kernel_rfl) (by kernel_rfl) (by kernel_rfl)
instance ilda445 : LdAOk Q 445 13 := ⟨fun b o s G => by kernel_rfl⟩
instance ifa376_8 : FaOk Q 376 8 20 := ⟨fun b o s => by kernel_rfl⟩
instance ifa376_3 : FaOk Q 376 3 15 := ⟨fun b o s => by kernel_rfl⟩
instance ifa376_6 : FaOk Q 376 6 18 := ⟨fun b o s => by kernel_rfl⟩
instance ifa376_2 : FaOk Q 376 2 14 := ⟨fun b o s => by kernel_rfl⟩
instance ifa376_9 : FaOk Q 376 9 21 := ⟨fun b o s => by kernel_rfl⟩
instance ifa376_11 : FaOk Q 376 11 23 := ⟨fun b o s => by kernel_rfl⟩
instance ist374 : StOk Q 374 1 := ⟨fun b o s v G => by kernel_rfl⟩
instance ild374 : LdOk Q 374 := ⟨fun b o s G => (show _ = loadOne b o G by kernel_rfl).trans (loadOne_eq b o G)⟩
instance iln411 : LnOk Q 411 := ⟨fun a n c => by kernel_rfl⟩
instance iep373 : EpOk Q 373 := ⟨fun neg x y => by cases neg <;> kernel_rfl, fun neg x y a => by cases neg <;> kernel_rfl, fun neg x y a => by cases neg <;> kernel_rfl⟩
instance ifa413_7 : FaOk Q 413 7 22 := ⟨fun b o s => by kernel_rfl⟩
instance ifa410_1 : FaOk Q 410 1 1 := ⟨fun b o s => by kernel_rfl⟩
instance ifa410_2 : FaOk Q 410 2 2 := ⟨fun b o s => by kernel_rfl⟩
instance ifa413_6 : FaOk Q 413 6 21 := ⟨fun b o s => by kernel_rfl⟩
instance ifa413_4 : FaOk Q 413 4 19 := ⟨fun b o s => by kernel_rfl⟩
instance ifa413_1 : FaOk Q 413 1 13 := ⟨fun b o s => by kernel_rfl⟩
instance iap35_35 : ApOk Q 35 35 1 8 := ⟨fun s x G => by kernel_rfl⟩
/-- coxswain/coxswainlaw26.awake -/
noncomputable def s7 (q : Bool) (e : Ex) (G : GS) : Option (Value × GS) :=
  bS (e.ev.cl 46 [] G) fun x0 G1 =>
  bP (ep Q q true 50 (.tmp 3) (.const (.pointer none)) x0 (.pointer none)) fun x2 =>
  bS (gd x2 true (bS (e.ev.cl 48 [] G1) fun y G => some (y, G)) G1) fun x3 G4 =>
  bS (gd x2 true (some (x0, G4)) G4) fun x5 G6 =>
  bS (gd x2 true (bS (e.ev.cl 47 [x3, x5] G6) fun y G => some (y, G)) G6) fun x7 G8 =>
  bS (gd x2 true (bS (bs Q q 22 2 (rep z23 2) 1 [(0, 0, 1), (1, 1, 1)] [(.int .u64 18446744073709551615), (.int .u64 18446744073709551615)] G8) fun y G => some (y, G)) G8) fun x9 G10 =>
  bS (gd x2 true (bS (e.ev.cl 13 [x7, x9] G10) fun y G => some (y, G)) G10) fun x11 G12 =>
  bP (pickV x2 x11 (.bool false)) fun x13 =>
  bS (gd x13 true (bS (e.ev.cl 48 [] G12) fun y G => some (y, G)) G12) fun x14 G15 =>
  bS (gd x13 true (some (x0, G15)) G15) fun x16 G17 =>
  bS (gd x13 true (bS (e.ev.cl 49 [x14, x16, (.slice none 0 0)] G17) fun y G => some (y, G)) G17) fun x18 G19 =>
  bP (pickV x13 x18 (.bool false)) fun x20 =>
  bS (gd x20 true (some (x0, G19)) G19) fun x21 G22 =>
  bS (gd x20 true (bS (e.ev.cl 50 [x21, (.int .i64 0), (.int .i64 5), (.int .i64 (-1))] G22) fun y G => some (y, G)) G22) fun x23 G24 =>
  bP (pickV x20 x23 (.bool false)) fun x25 =>
  bS (gd x25 true (bS (e.ev.cl 51 [] G24) fun y G => some (y, G)) G24) fun x26 G27 =>
  bS (gd x25 true (some (x0, G27)) G27) fun x28 G29 =>
  bS (gd x25 true (bS (e.ev.cl 22 [x26, x28, (.int .u64 9), (.int .i64 5), (.int .i64 1)] G29) fun y G => some (y, G)) G29) fun x30 G31 =>
  bP (pickV x25 x30 (.bool false)) fun x32 =>
  bS (gd x32 true (some (x0, G31)) G31) fun x33 G34 =>
  bS (gd x32 true (bS (e.ev.cl 50 [x33, (.int .i64 1), (.int .i64 11), (.int .i64 0)] G34) fun y G => some (y, G)) G34) fun x35 G36 =>
  bP (pickV x32 x35 (.bool false)) fun x37 =>
  bS (gd x37 true (bS (e.ev.cl 48 [] G36) fun y G => some (y, G)) G36) fun x38 G39 =>
  bS (gd x37 true (some (x0, G39)) G39) fun x40 G41 =>
  bS (gd x37 true (bS (bs Q q 35 1 (rep z3 1) 1 [(0, 0, 1)] [(.int .i64 0)] G41) fun y G => some (y, G)) G41) fun x42 G43 =>
  bS (gd x37 true (bS (e.ev.cl 49 [x38, x40, x42] G43) fun y G => some (y, G)) G43) fun x44 G45 =>
  bP (pickV x37 x44 (.bool false)) fun x46 =>
  some (x46, G45)
theorem m7 {e : Ex} {E : Ev} (h : ExLe Q e E) (G : GS) : Ref (s7 true e  G) (s7 false (Ex.of E)  G) := by
  unfold s7
  exact Ref.go
theorem f7 {orc : FuncId → Bool} {e : Ex} (h : ExLe Q e (E orc)) (ho : orc 7 = false) (G : GS) : Ref (s7 true e  G) ((E orc).cl 7 [] G) :=
  fun r hr => cl_sxE_some Q orc (vs := []) G Tryz.func7 (by kernel_rfl) (by kernel_rfl) ho (by kernel_rfl) (by kernel_rfl) (by kernel_rfl) (m7 h  G r hr)
/-- coxswain/run.Worst -/
noncomputable def s9 (q : Bool) (e : Ex) (v0 v1 : Value) (G : GS) : Option (Value × GS) :=
  bS (e.ev.cl 52 [v0, (.func (.func 53) #[] #[])] G) fun x0 G1 =>
  bP (bn Q q .lss 3 (.tmp 9) (.const (.int .i64 0)) x0 (.int .i64 0)) fun x2 =>
  bS (gd x2 false (some (v0, G1)) G1) fun x3 G4 =>
  bS (gd x2 false (some (x0, G4)) G4) fun x5 G6 =>
  bS (gd x2 false (bP (ias Q q 22 1 x3 x5) fun y => some (y, G6)) G6) fun x7 G8 =>
  bS (gd x2 false (bP (ld Q q 23 x7 G8) fun y => some (y, G8)) G8) fun x9 G10 =>
  bS (gd x2 false (some (v1, G10)) G10) fun x11 G12 =>
  bS (gd x2 false (bP (bn Q q .leq 23 (.tmp 15) (.tmp 16) x9 x11) fun y => some (y, G12)) G12) fun x13 G14 =>
  bP (pickV x2 (.bool true) x13) fun x15 =>
  ifV x15 (
  some (.tuple #[(.int .i64 (-1)), (.bool false)], G14)) (
  some (.tuple #[x0, (.bool true)], G14))
theorem m9 {e : Ex} {E : Ev} (h : ExLe Q e E) (v0 v1 : Value) (G : GS) : Ref (s9 true e v0 v1 G) (s9 false (Ex.of E) v0 v1 G) := by
  unfold s9
  exact Ref.go
theorem f9 {orc : FuncId → Bool} {e : Ex} (h : ExLe Q e (E orc)) (v0 v1 : Value) (G : GS) : Ref (s9 true e v0 v1 G) ((E orc).cl 9 [v0, v1] G) :=
  fun r hr => cl_sxE_some Q orc (vs := [v0, v1]) G Tryz.func9 (by kernel_rfl) (by kernel_rfl) (by kernel_rfl) (by kernel_rfl) (by kernel_rfl) (by kernel_rfl) (m9 h v0 v1 G r hr)
noncomputable def b11_0 (q : Bool) (e : Ex) (lp : Env → GS → Option (Exit × Env × GS)) (τ : Env) (G : GS) : Option (Exit × Env × GS) :=
  bV q (τ 5) fun a5_ =>
  bV q (τ 8) fun a8_ =>
  bV q (τ 9) fun a9_ =>
  bV q (τ 10) fun a10_ =>
  bP (bn Q q .lss 3 (.tmp 10) (.tmp 9) a10_ a9_) fun x0 =>
  ifV x0 (
  bP (ias Q q 22 1 a8_ a10_) fun x1 =>
  bP (ld Q q 23 x1 G) fun x2 =>
  bP (bn Q q .neq 23 (.tmp 14) (.const (.int .u64 18446744073709551615)) x2 (.int .u64 18446744073709551615)) fun x3 =>
  ifV x3 (
  bS (bs Q q 22 1 (rep z23 1) 1 [(0, 0, 1)] [x2] G) fun x4 G5 =>
  bS (ap Q q 22 22 1 8 a5_ x4 G5) fun x6 G7 =>
  bP (bn Q q .add 3 (.tmp 10) (.const (.int .i64 1)) a10_ (.int .i64 1)) fun x8 =>
  lp (tu τ [(5, x6), (8, a8_), (9, a9_), (10, x8), (7, x2), (11, x0), (12, x1), (13, x2), (14, x2), (15, x3), (16, a5_), (17, x2), (18, x4), (19, x6), (20, x8)]) G7) (
  bP (bn Q q .add 3 (.tmp 10) (.const (.int .i64 1)) a10_ (.int .i64 1)) fun x9 =>
  lp (tu τ [(5, a5_), (8, a8_), (9, a9_), (10, x9), (7, x2), (11, x0), (12, x1), (13, x2), (14, x2), (15, x3), (20, x9)]) G)) (
  some ((.exit 0), clq q 30 (tu τ [(5, a5_), (8, a8_), (9, a9_), (10, a10_), (11, x0)]), G))
theorem mb11_0 {e : Ex} {E : Ev} (h : ExLe Q e E) {lp lp' : Env → GS → Option (Exit × Env × GS)} (hlp : LpLe lp lp') (τ : Env) (G : GS) : Ref (b11_0 true e lp τ G) (b11_0 false (Ex.of E) lp' τ G) := by
  unfold b11_0
  exact Ref.go
theorem l11_0 {orc : FuncId → Bool} {e : Ex} (h : ExLe Q e (E orc)) (lp : Env → GS → Option (Exit × Env × GS)) (hlp : ∀ τ G, Ref (lp τ G) (mapE ((E orc).lp (subAt [1, 1, 0, 1, 0, 0] (bodyOf Tryz.f11)) (lst 30 τ) G))) (T : List Value) (G : GS) (hT : T.length = 30) : Ref (b11_0 true e lp (nth undef T) G) (mapE ((E orc).lp (subAt [1, 1, 0, 1, 0, 0] (bodyOf Tryz.f11)) T G)) :=
  fun r hr => lp_sxM Q orc G hT (by kernel_rfl) (mb11_0 h ⟨hlp⟩ _ _ r hr)
/-- coxswain/run.Should -/
noncomputable def s11 (q : Bool) (e : Ex) (v0 v1 : Value) (G : GS) : Option (Value × GS) :=
  bP (ln Q q 22 v0) fun x0 =>
  bL q e 11 0 (subAt [1, 1, 0, 1, 0, 0] (bodyOf Tryz.f11)) 30 (tu (nth undef [v0, v1]) [(4, (.slice none 0 0)), (5, (.slice none 0 0)), (8, v0), (9, x0), (10, (.int .i64 0))]) G fun e1 t2 G3 =>
  bV q (t2 1) fun t2x1_ =>
  bV q (t2 5) fun t2x5_ =>
  ifE e1 (.exit 0) (
  bS (e.ev.cl 54 [t2x5_, (.func (.func 53) #[] #[])] G3) fun x4 G5 =>
  bP (ln Q q 22 t2x5_) fun x6 =>
  bP (mx Q q #[3, 3] t2x1_ (.int .i64 0)) fun x7 =>
  bP (mn Q q #[3, 3] x6 x7) fun x8 =>
  bP (sl Q q 22 1 t2x5_ none (some x8) none G5) fun x9 =>
  some (x9, G5)) (none)
theorem m11 {e : Ex} {E : Ev} (h : ExLe Q e E) (v0 v1 : Value) (G : GS) : Ref (s11 true e v0 v1 G) (s11 false (Ex.of E) v0 v1 G) := by
  unfold s11
  exact Ref.go
theorem f11 {orc : FuncId → Bool} {e : Ex} (h : ExLe Q e (E orc)) (v0 v1 : Value) (G : GS) : Ref (s11 true e v0 v1 G) ((E orc).cl 11 [v0, v1] G) :=
  fun r hr => cl_sxE_some Q orc (vs := [v0, v1]) G Tryz.func11 (by kernel_rfl) (by kernel_rfl) (by kernel_rfl) (by kernel_rfl) (by kernel_rfl) (by kernel_rfl) (m11 h v0 v1 G r hr)
noncomputable def b13_0 (q : Bool) (e : Ex) (lp : Env → GS → Option (Exit × Env × GS)) (τ : Env) (G : GS) : Option (Exit × Env × GS) :=
  bV q (τ 0) fun a0_ =>
  bV q (τ 1) fun a1_ =>
  bV q (τ 5) fun a5_ =>
  bV q (τ 6) fun a6_ =>
  bS (gd a5_ true (some (a6_, G)) G) fun x0 G1 =>
  bS (gd a5_ true (some (a0_, G1)) G1) fun x2 G3 =>
  bS (gd a5_ true (bP (ln Q q 22 x2) fun y => some (y, G3)) G3) fun x4 G5 =>
  bS (gd a5_ true (bP (bn Q q .lss 3 (.tmp 14) (.tmp 16) x0 x4) fun y => some (y, G5)) G5) fun x6 G7 =>
  bP (pickV a5_ x6 (.bool false)) fun x8 =>
  ifV x8 (
  bP (ias Q q 22 1 a0_ a6_) fun x9 =>
  bP (ld Q q 23 x9 (G7.room 10)) fun x10 =>
  bP (ias Q q 22 1 a1_ a6_) fun x11 =>
  bP (ld Q q 23 x11 (G7.room 10)) fun x12 =>
  bP (bn Q q .eql 23 (.tmp 24) (.tmp 28) x10 x12) fun x13 =>
  bP (bn Q q .add 3 (.tmp 19) (.const (.int .i64 1)) a6_ (.int .i64 1)) fun x14 =>
  lp (tu τ [(0, a0_), (1, a1_), (5, x13), (6, x14), (12, a5_), (13, a5_), (14, x0), (15, x2), (16, x4), (17, x6), (18, x8), (19, a6_), (20, x14), (21, a0_), (22, a6_), (23, x9), (24, x10), (25, a1_), (26, a6_), (27, x11), (28, x12), (29, x13)]) (G7.room 10)) (
  some ((.exit 0), clq q 31 (tu τ [(0, a0_), (1, a1_), (5, a5_), (6, a6_), (12, a5_), (13, a5_), (14, x0), (15, x2), (16, x4), (17, x6), (18, x8)]), G7))
theorem mb13_0 {e : Ex} {E : Ev} (h : ExLe Q e E) {lp lp' : Env → GS → Option (Exit × Env × GS)} (hlp : LpLe lp lp') (τ : Env) (G : GS) : Ref (b13_0 true e lp τ G) (b13_0 false (Ex.of E) lp' τ G) := by
  unfold b13_0
  exact Ref.go
theorem l13_0 {orc : FuncId → Bool} {e : Ex} (h : ExLe Q e (E orc)) (lp : Env → GS → Option (Exit × Env × GS)) (hlp : ∀ τ G, Ref (lp τ G) (mapE ((E orc).lp (subAt [1, 1, 0, 1, 0, 0] (bodyOf Tryz.f13)) (lst 31 τ) G))) (T : List Value) (G : GS) (hT : T.length = 31) : Ref (b13_0 true e lp (nth undef T) G) (mapE ((E orc).lp (subAt [1, 1, 0, 1, 0, 0] (bodyOf Tryz.f13)) T G)) :=
  fun r hr => lp_sxM Q orc G hT (by kernel_rfl) (mb13_0 h ⟨hlp⟩ _ _ r hr)
/-- coxswain/coxswainkit.SameWords -/
noncomputable def s13 (q : Bool) (e : Ex) (v0 v1 : Value) (G : GS) : Option (Value × GS) :=
  bP (ln Q q 22 v0) fun x0 =>
  bP (ln Q q 22 v1) fun x1 =>
  bP (bn Q q .eql 3 (.tmp 8) (.tmp 10) x0 x1) fun x2 =>
  bL q e 13 0 (subAt [1, 1, 0, 1, 0, 0] (bodyOf Tryz.f13)) 31 (tu (nth undef [v0, v1]) [(4, (.bool false)), (5, x2), (6, (.int .i64 0)), (7, v0), (8, x0), (9, v1), (10, x1), (11, x2)]) G fun e3 t4 G5 =>
  bV q (t4 5) fun t4x5_ =>
  ifE e3 (.exit 0) (
  some (t4x5_, G5)) (none)
theorem m13 {e : Ex} {E : Ev} (h : ExLe Q e E) (v0 v1 : Value) (G : GS) : Ref (s13 true e v0 v1 G) (s13 false (Ex.of E) v0 v1 G) := by
  unfold s13
  exact Ref.go
theorem f13 {orc : FuncId → Bool} {e : Ex} (h : ExLe Q e (E orc)) (v0 v1 : Value) (G : GS) : Ref (s13 true e v0 v1 G) ((E orc).cl 13 [v0, v1] G) :=
  fun r hr => cl_sxE_some Q orc (vs := [v0, v1]) G Tryz.func13 (by kernel_rfl) (by kernel_rfl) (by kernel_rfl) (by kernel_rfl) (by kernel_rfl) (by kernel_rfl) (m13 h v0 v1 G r hr)
/-- coxswain/coxswainlaw26.RunKnown -/
noncomputable def s15 (q : Bool) (e : Ex) (G : GS) : Option (Value × GS) :=
  bS (e.ev.cl 46 [] G) fun x0 G1 =>
  bP (ep Q q false 50 (.tmp 16) (.const (.pointer none)) x0 (.pointer none)) fun x2 =>
  bS (gd x2 false (bS (e.ev.cl 51 [] G1) fun y G => some (y, G)) G1) fun x3 G4 =>
  bS (gd x2 false (some (x0, G4)) G4) fun x5 G6 =>
  bS (gd x2 false (bS (e.ev.cl 22 [x3, x5, (.int .u64 9), (.int .i64 5), (.int .i64 1)] G6) fun y G => some (y, G)) G6) fun x7 G8 =>
  bS (gd x2 false (bP (un Q q .not x7) fun y => some (y, G8)) G8) fun x9 G10 =>
  bP (pickV x2 (.bool true) x9) fun x11 =>
  ifV x11 (
  some ((.bool false), G10)) (
  bS (e.ev.cl 23 [x0, (.int .i64 34), (.int .u64 4)] G10) fun x12 G13 =>
  bS (e.ev.cl 23 [x0, (.int .i64 35), (.int .u64 11)] G13) fun x14 G15 =>
  bS (e.ev.cl 50 [x0, (.int .i64 0), (.int .i64 11), (.int .i64 1)] G15) fun x16 G17 =>
  bS (gd x16 true (bS (e.ev.cl 48 [] G17) fun y G => some (y, G)) G17) fun x18 G19 =>
  bS (gd x16 true (some (x0, G19)) G19) fun x20 G21 =>
  bS (gd x16 true (bS (bs Q q 35 1 (rep z3 1) 1 [(0, 0, 1)] [(.int .i64 1)] G21) fun y G => some (y, G)) G21) fun x22 G23 =>
  bS (gd x16 true (bS (e.ev.cl 49 [x18, x20, x22] G23) fun y G => some (y, G)) G23) fun x24 G25 =>
  bP (pickV x16 x24 (.bool false)) fun x26 =>
  bS (e.ev.cl 23 [x0, (.int .i64 35), (.int .u64 9)] G25) fun x27 G28 =>
  bS (e.ev.cl 23 [x0, (.int .i64 37), (.int .u64 0)] G28) fun x29 G30 =>
  bS (gd x26 true (some (x0, G30)) G30) fun x31 G32 =>
  bS (gd x26 true (bS (e.ev.cl 50 [x31, (.int .i64 0), (.int .i64 10), (.int .i64 (-1))] G32) fun y G => some (y, G)) G32) fun x33 G34 =>
  bP (pickV x26 x33 (.bool false)) fun x35 =>
  bS (gd x35 true (bS (e.ev.cl 48 [] G34) fun y G => some (y, G)) G34) fun x36 G37 =>
  bS (gd x35 true (some (x0, G37)) G37) fun x38 G39 =>
  bS (gd x35 true (bS (e.ev.cl 49 [x36, x38, (.slice none 0 0)] G39) fun y G => some (y, G)) G39) fun x40 G41 =>
  bP (pickV x35 x40 (.bool false)) fun x42 =>
  bS (bs Q q 22 3 (rep z23 3) 1 [(0, 0, 1), (1, 1, 1), (2, 2, 1)] [(.int .u64 5), (.int .u64 8), (.int .u64 8)] G41) fun x43 G44 =>
  bS (e.ev.cl 9 [x43, (.int .u64 7)] G44) fun x45 G46 =>
  bP (pExtract x45 0) fun x47 =>
  bP (pExtract x45 1) fun x48 =>
  bS (bs Q q 22 3 (rep z23 3) 1 [(0, 0, 1), (1, 1, 1), (2, 2, 1)] [(.int .u64 5), (.int .u64 8), (.int .u64 8)] G46) fun x49 G50 =>
  bS (e.ev.cl 9 [x49, (.int .u64 8)] G50) fun x51 G52 =>
  bP (pExtract x51 0) fun x53 =>
  bP (pExtract x51 1) fun x54 =>
  bS (e.ev.cl 9 [(.slice none 0 0), (.int .u64 0)] G52) fun x55 G56 =>
  bP (pExtract x55 0) fun x57 =>
  bP (pExtract x55 1) fun x58 =>
  bS (bs Q q 22 5 (rep z23 5) 1 [(0, 0, 1), (1, 1, 1), (2, 2, 1), (3, 3, 1), (4, 4, 1)] [(.int .u64 7), (.int .u64 18446744073709551615), (.int .u64 3), (.int .u64 5), (.int .u64 3)] G56) fun x59 G60 =>
  bP (bn Q q .eql 3 (.tmp 65) (.const (.int .i64 1)) x47 (.int .i64 1)) fun x61 =>
  bS (gd x61 true (some (x48, G60)) G60) fun x62 G63 =>
  bP (pickV x61 x62 (.bool false)) fun x64 =>
  bS (gd x64 true (some (x53, G63)) G63) fun x65 G66 =>
  bS (gd x64 true (bP (bn Q q .eql 3 (.tmp 71) (.const (.int .i64 (-1))) x65 (.int .i64 (-1))) fun y => some (y, G66)) G66) fun x67 G68 =>
  bP (pickV x64 x67 (.bool false)) fun x69 =>
  bS (gd x69 true (some (x54, G68)) G68) fun x70 G71 =>
  bS (gd x69 true (bP (un Q q .not x70) fun y => some (y, G71)) G71) fun x72 G73 =>
  bP (pickV x69 x72 (.bool false)) fun x74 =>
  bS (gd x74 true (some (x57, G73)) G73) fun x75 G76 =>
  bS (gd x74 true (bP (bn Q q .eql 3 (.tmp 79) (.const (.int .i64 (-1))) x75 (.int .i64 (-1))) fun y => some (y, G76)) G76) fun x77 G78 =>
  bP (pickV x74 x77 (.bool false)) fun x79 =>
  bS (gd x79 true (some (x58, G78)) G78) fun x80 G81 =>
  bS (gd x79 true (bP (un Q q .not x80) fun y => some (y, G81)) G81) fun x82 G83 =>
  bP (pickV x79 x82 (.bool false)) fun x84 =>
  bS (gd x84 true (some (x59, G83)) G83) fun x85 G86 =>
  bS (gd x84 true (bS (e.ev.cl 11 [x85, (.int .i64 2)] G86) fun y G => some (y, G)) G86) fun x87 G88 =>
  bS (gd x84 true (bS (bs Q q 22 2 (rep z23 2) 1 [(0, 0, 1), (1, 1, 1)] [(.int .u64 3), (.int .u64 3)] G88) fun y G => some (y, G)) G88) fun x89 G90 =>
  bS (gd x84 true (bS (e.ev.cl 13 [x87, x89] G90) fun y G => some (y, G)) G90) fun x91 G92 =>
  bP (pickV x84 x91 (.bool false)) fun x93 =>
  bS (gd x93 true (some (x59, G92)) G92) fun x94 G95 =>
  bS (gd x93 true (bS (e.ev.cl 11 [x94, (.int .i64 9)] G95) fun y G => some (y, G)) G95) fun x96 G97 =>
  bS (gd x93 true (bS (bs Q q 22 4 (rep z23 4) 1 [(0, 0, 1), (1, 1, 1), (2, 2, 1), (3, 3, 1)] [(.int .u64 3), (.int .u64 3), (.int .u64 5), (.int .u64 7)] G97) fun y G => some (y, G)) G97) fun x98 G99 =>
  bS (gd x93 true (bS (e.ev.cl 13 [x96, x98] G99) fun y G => some (y, G)) G99) fun x100 G101 =>
  bP (pickV x93 x100 (.bool false)) fun x102 =>
  bS (gd x102 true (some (x59, G101)) G101) fun x103 G104 =>
  bS (gd x102 true (bS (e.ev.cl 11 [x103, (.int .i64 0)] G104) fun y G => some (y, G)) G104) fun x105 G106 =>
  bS (gd x102 true (bP (ln Q q 22 x105) fun y => some (y, G106)) G106) fun x107 G108 =>
  bS (gd x102 true (bP (bn Q q .eql 3 (.tmp 101) (.const (.int .i64 0)) x107 (.int .i64 0)) fun y => some (y, G108)) G108) fun x109 G110 =>
  bP (pickV x102 x109 (.bool false)) fun x111 =>
  bS (e.ev.cl 48 [] G110) fun x112 G113 =>
  bS (e.ev.cl 48 [] G113) fun x114 G115 =>
  bS (e.ev.cl 48 [] G115) fun x116 G117 =>
  bS (al Q q 49 z49 G117) fun x118 G119 =>
  bS (al Q q 49 z49 G119) fun x120 G121 =>
  bS (al Q q 49 z49 G121) fun x122 G123 =>
  bP (st Q q 49 3 x118 x112 G123) fun G124 =>
  bP (st Q q 49 3 x120 x114 G124) fun G125 =>
  bP (st Q q 49 3 x122 x116 G125) fun G126 =>
  bP (fa Q q 49 2 2 x118) fun x127 =>
  bP (st Q q 3 1 x127 (.int .i64 0) G126) fun G128 =>
  bP (fa Q q 49 1 1 x120) fun x129 =>
  bP (st Q q 3 1 x129 (.int .i64 35) G128) fun G130 =>
  bP (fa Q q 49 2 2 x122) fun x131 =>
  bP (st Q q 3 1 x131 (.int .i64 65) G130) fun G132 =>
  bS (e.ev.cl 51 [] (G132.room 33)) fun x134 G133 =>
  bS (e.ev.cl 48 [] G133) fun x136 G135 =>
  bS (e.ev.cl 25 [x134, x136, (.int .i64 2)] G135) fun x138 G137 =>
  bS (e.ev.cl 27 [x138] G137) fun x140 G139 =>
  bP (bn Q q .eql 51 (.tmp 113) (.const (.int .i64 3)) x140 (.int .i64 3)) fun x141 =>
  bS (gd x141 true (bS (e.ev.cl 51 [] G139) fun y G => some (y, G)) G139) fun x143 G142 =>
  bS (gd x141 true (bP (lda Q q 49 3 x118 G142) fun y => some (y, G142)) G142) fun x144 _ =>
  chk (((!(gB x141 true) || (!(gB x141 true) || sameO (lda Q q 49 3 x118 G139) x144)) && true)) <|
  bS (gd x141 true (bS (e.ev.cl 25 [x143, x144, (.int .i64 0)] G142) fun y G => some (y, G)) G142) fun x146 G145 =>
  bS (gd x141 true (bS (e.ev.cl 27 [x146] G145) fun y G => some (y, G)) G145) fun x148 G147 =>
  bS (gd x141 true (bP (bn Q q .eql 51 (.tmp 119) (.const (.int .i64 2)) x148 (.int .i64 2)) fun y => some (y, G147)) G147) fun x149 _ =>
  bP (pickV x141 x149 (.bool false)) fun x150 =>
  bS (gd x150 true (bS (e.ev.cl 48 [] G147) fun y G => some (y, G)) G147) fun x152 G151 =>
  bS (gd x150 true (bS (e.ev.cl 29 [x152, (.int .i64 37)] G151) fun y G => some (y, G)) G151) fun x154 G153 =>
  bS (gd x150 true (bP (bn Q q .eql 51 (.tmp 124) (.const (.int .i64 2)) x154 (.int .i64 2)) fun y => some (y, G153)) G153) fun x155 _ =>
  bP (pickV x150 x155 (.bool false)) fun x156 =>
  bS (gd x156 true (bP (lda Q q 49 3 x120 G153) fun y => some (y, G153)) G153) fun x157 _ =>
  bS (gd x156 true (bS (e.ev.cl 29 [x157, (.int .i64 40)] G153) fun y G => some (y, G)) G153) fun x159 G158 =>
  bS (gd x156 true (bP (bn Q q .eql 51 (.tmp 129) (.const (.int .i64 2)) x159 (.int .i64 2)) fun y => some (y, G158)) G158) fun x160 _ =>
  bP (pickV x156 x160 (.bool false)) fun x161 =>
  bS (gd x161 true (bP (lda Q q 49 3 x122 G158) fun y => some (y, G158)) G158) fun x162 _ =>
  bS (gd x161 true (bS (e.ev.cl 29 [x162, (.int .i64 4000)] G158) fun y G => some (y, G)) G158) fun x164 G163 =>
  bS (gd x161 true (bP (bn Q q .eql 51 (.tmp 134) (.const (.int .i64 2)) x164 (.int .i64 2)) fun y => some (y, G163)) G163) fun x165 _ =>
  bP (pickV x161 x165 (.bool false)) fun x166 =>
  bS (gd x166 true (bS (e.ev.cl 48 [] G163) fun y G => some (y, G)) G163) fun x168 G167 =>
  bS (gd x166 true (bS (e.ev.cl 29 [x168, (.int .i64 0)] G167) fun y G => some (y, G)) G167) fun x170 G169 =>
  bS (gd x166 true (bP (bn Q q .eql 51 (.tmp 139) (.const (.int .i64 3)) x170 (.int .i64 3)) fun y => some (y, G169)) G169) fun x171 _ =>
  bP (pickV x166 x171 (.bool false)) fun x172 =>
  bS (e.ev.cl 7 [] G169) fun x173 G174 =>
  bS (gd x173 true (some (x42, G174)) G174) fun x175 G176 =>
  bP (pickV x173 x175 (.bool false)) fun x177 =>
  bS (gd x177 true (some (x111, G176)) G176) fun x178 G179 =>
  bP (pickV x177 x178 (.bool false)) fun x180 =>
  bS (gd x180 true (some (x172, G179)) G179) fun x181 G182 =>
  bP (pickV x180 x181 (.bool false)) fun x183 =>
  some (x183, G182))
theorem m15 {e : Ex} {E : Ev} (h : ExLe Q e E) (G : GS) : Ref (s15 true e  G) (s15 false (Ex.of E)  G) := by
  unfold s15
  exact Ref.go
set_option maxHeartbeats 8000000 in
theorem f15 {orc : FuncId → Bool} {e : Ex} (h : ExLe Q e (E orc)) (ho : orc 15 = false) (G : GS) : Ref (s15 true e  G) ((E orc).cl 15 [] G) :=
  fun r hr => cl_sxE_some Q orc (vs := []) G Tryz.func15 (by kernel_rfl) (by kernel_rfl) ho (by kernel_rfl) (by kernel_rfl) (by kernel_rfl) (m15 h  G r hr)
/-- coxswain/cells.New -/
noncomputable def s19 (q : Bool) (e : Ex) (v0 : Value) (G : GS) : Option (Value × GS) :=
  bP (bn Q q .lss 3 (.tmp 4) (.const (.int .i64 1)) v0 (.int .i64 1)) fun x0 =>
  bS (gd x0 false (some (v0, G)) G) fun x1 G2 =>
  bS (gd x0 false (bP (bn Q q .gtr 3 (.tmp 7) (.const (.int .i64 4096)) x1 (.int .i64 4096)) fun y => some (y, G2)) G2) fun x3 G4 =>
  bP (pickV x0 (.bool true) x3) fun x5 =>
  ifV x5 (
  some (.tuple #[(.pointer none), (.int .i64 3)], G4)) (
  bS (al Q q 98 z98 G4) fun x6 G7 =>
  bP (bd Q q 100 z100 [(0, 0, 1), (1, 1, 1)] [x6, v0]) fun x8 =>
  bS (bx q x8 G7) fun x9 G10 =>
  some (.tuple #[x9, (.int .i64 0)], G10))
theorem m19 {e : Ex} {E : Ev} (h : ExLe Q e E) (v0 : Value) (G : GS) : Ref (s19 true e v0 G) (s19 false (Ex.of E) v0 G) := by
  unfold s19
  exact Ref.go
theorem f19 {orc : FuncId → Bool} {e : Ex} (h : ExLe Q e (E orc)) (v0 : Value) (G : GS) : Ref (s19 true e v0 G) ((E orc).cl 19 [v0] G) :=
  fun r hr => cl_sxE_some Q orc (vs := [v0]) G Tryz.func19 (by kernel_rfl) (by kernel_rfl) (by kernel_rfl) (by kernel_rfl) (by kernel_rfl) (by kernel_rfl) (m19 h v0 G r hr)
noncomputable def b20_0 (q : Bool) (e : Ex) (lp : Env → GS → Option (Exit × Env × GS)) (τ : Env) (G : GS) : Option (Exit × Env × GS) :=
  bV q (τ 1) fun a1_ =>
  bV q (τ 2) fun a2_ =>
  bV q (τ 13) fun a13_ =>
  bV q (τ 14) fun a14_ =>
  bP (bn Q q .lss 3 (.tmp 14) (.tmp 13) a14_ a13_) fun x0 =>
  ifV x0 (
  bP (fa Q q 45 1 1 a2_) fun x1 =>
  bP (ld Q q 3 x1 G) fun x2 =>
  bP (bn Q q .add 3 (.tmp 19) (.tmp 20) x2 a14_) fun x3 =>
  bS (e.ev.cl 23 [a1_, x3, (.int .u64 0)] G) fun x4 G5 =>
  bP (bn Q q .add 3 (.tmp 14) (.const (.int .i64 1)) a14_ (.int .i64 1)) fun x6 =>
  lp (tu τ [(1, a1_), (2, a2_), (13, a13_), (14, x6), (4, a14_), (15, x0), (16, a14_), (17, a1_), (18, x1), (19, x2), (20, a14_), (21, x3), (22, x4), (23, x6)]) G5) (
  some ((.exit 0), clq q 24 (tu τ [(1, a1_), (2, a2_), (13, a13_), (14, a14_), (15, x0)]), G))
theorem mb20_0 {e : Ex} {E : Ev} (h : ExLe Q e E) {lp lp' : Env → GS → Option (Exit × Env × GS)} (hlp : LpLe lp lp') (τ : Env) (G : GS) : Ref (b20_0 true e lp τ G) (b20_0 false (Ex.of E) lp' τ G) := by
  unfold b20_0
  exact Ref.go
theorem l20_0 {orc : FuncId → Bool} {e : Ex} (h : ExLe Q e (E orc)) (lp : Env → GS → Option (Exit × Env × GS)) (hlp : ∀ τ G, Ref (lp τ G) (mapE ((E orc).lp (subAt [1, 1, 1, 1, 0, 0] (bodyOf Tryz.f20)) (lst 24 τ) G))) (T : List Value) (G : GS) (hT : T.length = 24) : Ref (b20_0 true e lp (nth undef T) G) (mapE ((E orc).lp (subAt [1, 1, 1, 1, 0, 0] (bodyOf Tryz.f20)) T G)) :=
  fun r hr => lp_sxM Q orc G hT (by kernel_rfl) (mb20_0 h ⟨hlp⟩ _ _ r hr)
/-- coxswain/tower.Fill -/
noncomputable def s20 (q : Bool) (e : Ex) (v0 v1 : Value) (G : GS) : Option (Value × GS) :=
  bS (bx q v0 G) fun x0 G1 =>
  bP (lda Q q 45 13 x0 G1) fun x2 =>
  bS (e.ev.cl 56 [x2] G1) fun x3 G4 =>
  bP (un Q q .not x3) fun x5 =>
  ifV x5 (
  some (.tuple #[], G4)) (
  bP (fa Q q 45 3 3 x0) fun x6 =>
  bP (lda Q q 43 10 x6 G4) fun x7 =>
  bS (e.ev.cl 57 [x7, v1] G4) fun x8 G9 =>
  bP (fa Q q 45 2 2 x0) fun x10 =>
  bP (ld Q q 3 x10 G9) fun x11 =>
  bL q e 20 0 (subAt [1, 1, 1, 1, 0, 0] (bodyOf Tryz.f20)) 24 (tu (nth undef [v0, v1]) [(2, x0), (5, x2), (6, x3), (7, x5), (8, x6), (9, x7), (10, v1), (11, x8), (12, x10), (13, x11), (14, (.int .i64 0))]) G9 fun e12 t13 G14 =>
  ifE e12 (.exit 0) (
  some (.tuple #[], G14)) (none))
theorem m20 {e : Ex} {E : Ev} (h : ExLe Q e E) (v0 v1 : Value) (G : GS) : Ref (s20 true e v0 v1 G) (s20 false (Ex.of E) v0 v1 G) := by
  unfold s20
  exact Ref.go
theorem f20 {orc : FuncId → Bool} {e : Ex} (h : ExLe Q e (E orc)) (v0 v1 : Value) (G : GS) : Ref (s20 true e v0 v1 G) ((E orc).cl 20 [v0, v1] G) :=
  fun r hr => cl_sxE_some Q orc (vs := [v0, v1]) G Tryz.func20 (by kernel_rfl) (by kernel_rfl) (by kernel_rfl) (by kernel_rfl) (by kernel_rfl) (by kernel_rfl) (m20 h v0 v1 G r hr)
noncomputable def b21_0 (q : Bool) (e : Ex) (lp : Env → GS → Option (Exit × Env × GS)) (τ : Env) (G : GS) : Option (Exit × Env × GS) :=
  bV q (τ 1) fun a1_ =>
  bV q (τ 2) fun a2_ =>
  bV q (τ 9) fun a9_ =>
  bV q (τ 10) fun a10_ =>
  bP (bn Q q .lss 3 (.tmp 10) (.tmp 9) a10_ a9_) fun x0 =>
  ifV x0 (
  bP (fa Q q 49 0 0 a2_) fun x1 =>
  bP (ld Q q 3 x1 G) fun x2 =>
  bP (bn Q q .add 3 (.tmp 15) (.tmp 16) x2 a10_) fun x3 =>
  bS (e.ev.cl 23 [a1_, x3, (.int .u64 18446744073709551615)] G) fun x4 G5 =>
  bP (fa Q q 49 1 1 a2_) fun x6 =>
  bP (ld Q q 3 x6 G5) fun x7 =>
  bP (bn Q q .add 3 (.tmp 21) (.tmp 22) x7 a10_) fun x8 =>
  bS (e.ev.cl 23 [a1_, x8, (.int .u64 0)] G5) fun x9 G10 =>
  bP (bn Q q .add 3 (.tmp 10) (.const (.int .i64 1)) a10_ (.int .i64 1)) fun x11 =>
  lp (tu τ [(1, a1_), (2, a2_), (9, a9_), (10, x11), (4, a10_), (11, x0), (12, a10_), (13, a1_), (14, x1), (15, x2), (16, a10_), (17, x3), (18, x4), (19, a1_), (20, x6), (21, x7), (22, a10_), (23, x8), (24, x9), (25, x11)]) G10) (
  some ((.exit 0), clq q 26 (tu τ [(1, a1_), (2, a2_), (9, a9_), (10, a10_), (11, x0)]), G))
theorem mb21_0 {e : Ex} {E : Ev} (h : ExLe Q e E) {lp lp' : Env → GS → Option (Exit × Env × GS)} (hlp : LpLe lp lp') (τ : Env) (G : GS) : Ref (b21_0 true e lp τ G) (b21_0 false (Ex.of E) lp' τ G) := by
  unfold b21_0
  exact Ref.go
theorem l21_0 {orc : FuncId → Bool} {e : Ex} (h : ExLe Q e (E orc)) (lp : Env → GS → Option (Exit × Env × GS)) (hlp : ∀ τ G, Ref (lp τ G) (mapE ((E orc).lp (subAt [1, 1, 1, 0, 0] (bodyOf Tryz.f21)) (lst 26 τ) G))) (T : List Value) (G : GS) (hT : T.length = 26) : Ref (b21_0 true e lp (nth undef T) G) (mapE ((E orc).lp (subAt [1, 1, 1, 0, 0] (bodyOf Tryz.f21)) T G)) :=
  fun r hr => lp_sxM Q orc G hT (by kernel_rfl) (mb21_0 h ⟨hlp⟩ _ _ r hr)
/-- coxswain/run.Fill -/
noncomputable def s21 (q : Bool) (e : Ex) (v0 v1 : Value) (G : GS) : Option (Value × GS) :=
  bS (bx q v0 G) fun x0 G1 =>
  bP (lda Q q 49 3 x0 G1) fun x2 =>
  bS (e.ev.cl 58 [x2] G1) fun x3 G4 =>
  bP (un Q q .not x3) fun x5 =>
  ifV x5 (
  some (.tuple #[], G4)) (
  bP (fa Q q 49 2 2 x0) fun x6 =>
  bP (ld Q q 3 x6 G4) fun x7 =>
  bL q e 21 0 (subAt [1, 1, 1, 0, 0] (bodyOf Tryz.f21)) 26 (tu (nth undef [v0, v1]) [(2, x0), (5, x2), (6, x3), (7, x5), (8, x6), (9, x7), (10, (.int .i64 0))]) G4 fun e8 t9 G10 =>
  ifE e8 (.exit 0) (
  some (.tuple #[], G10)) (none))
theorem m21 {e : Ex} {E : Ev} (h : ExLe Q e E) (v0 v1 : Value) (G : GS) : Ref (s21 true e v0 v1 G) (s21 false (Ex.of E) v0 v1 G) := by
  unfold s21
  exact Ref.go
theorem f21 {orc : FuncId → Bool} {e : Ex} (h : ExLe Q e (E orc)) (v0 v1 : Value) (G : GS) : Ref (s21 true e v0 v1 G) ((E orc).cl 21 [v0, v1] G) :=
  fun r hr => cl_sxE_some Q orc (vs := [v0, v1]) G Tryz.func21 (by kernel_rfl) (by kernel_rfl) (by kernel_rfl) (by kernel_rfl) (by kernel_rfl) (by kernel_rfl) (m21 h v0 v1 G r hr)
noncomputable def b22_0 (q : Bool) (e : Ex) (lp : Env → GS → Option (Exit × Env × GS)) (τ : Env) (G : GS) : Option (Exit × Env × GS) :=
  bV q (τ 1) fun a1_ =>
  bV q (τ 11) fun a11_ =>
  bV q (τ 12) fun a12_ =>
  bP (bn Q q .lss 3 (.tmp 18) (.const (.int .i64 400)) a12_ (.int .i64 400)) fun x0 =>
  bS (gd x0 true (some (a11_, G)) G) fun x1 G2 =>
  bS (gd x0 true (some (a1_, G2)) G2) fun x3 G4 =>
  bS (gd x0 true (bS (e.ev.cl 60 [x1, x3] G4) fun y G => some (y, G)) G4) fun x5 G6 =>
  bS (gd x0 true (bP (un Q q .not x5) fun y => some (y, G6)) G6) fun x7 G8 =>
  bP (pickV x0 x7 (.bool false)) fun x9 =>
  ifV x9 (
  bS (e.ev.cl 61 [a11_] G8) fun x10 G11 =>
  bP (bn Q q .neq 51 (.tmp 29) (.const (.int .i64 14)) x10 (.int .i64 14)) fun x12 =>
  ifV x12 (
  some (.ret, clq q 34 (tu τ [(1, a1_), (11, a11_), (12, a12_), (10, (.bool false)), (18, a12_), (19, x0), (20, x0), (21, x1), (22, x3), (23, x5), (24, x7), (25, x9), (28, a11_), (29, x10), (30, x12)]), G11)) (
  bP (bn Q q .add 3 (.tmp 26) (.const (.int .i64 1)) a12_ (.int .i64 1)) fun x13 =>
  lp (tu τ [(1, a1_), (11, a11_), (12, x13), (18, a12_), (19, x0), (20, x0), (21, x1), (22, x3), (23, x5), (24, x7), (25, x9), (26, a12_), (27, x13), (28, a11_), (29, x10), (30, x12)]) G11)) (
  some ((.exit 0), clq q 34 (tu τ [(1, a1_), (11, a11_), (12, a12_), (18, a12_), (19, x0), (20, x0), (21, x1), (22, x3), (23, x5), (24, x7), (25, x9)]), G8))
theorem mb22_0 {e : Ex} {E : Ev} (h : ExLe Q e E) {lp lp' : Env → GS → Option (Exit × Env × GS)} (hlp : LpLe lp lp') (τ : Env) (G : GS) : Ref (b22_0 true e lp τ G) (b22_0 false (Ex.of E) lp' τ G) := by
  unfold b22_0
  exact Ref.go
theorem l22_0 {orc : FuncId → Bool} {e : Ex} (h : ExLe Q e (E orc)) (lp : Env → GS → Option (Exit × Env × GS)) (hlp : ∀ τ G, Ref (lp τ G) (mapE ((E orc).lp (subAt [1, 1, 0, 1, 0, 0] (bodyOf Tryz.f22)) (lst 34 τ) G))) (T : List Value) (G : GS) (hT : T.length = 34) : Ref (b22_0 true e lp (nth undef T) G) (mapE ((E orc).lp (subAt [1, 1, 0, 1, 0, 0] (bodyOf Tryz.f22)) T G)) :=
  fun r hr => lp_sxM Q orc G hT (by kernel_rfl) (mb22_0 h ⟨hlp⟩ _ _ r hr)
/-- coxswain/coxswainlaw26.puts -/
noncomputable def s22 (q : Bool) (e : Ex) (v0 v1 v2 v3 v4 : Value) (G : GS) : Option (Value × GS) :=
  bS (bx q v0 G) fun x0 G1 =>
  bP (lda Q q 45 13 x0 G1) fun x2 =>
  bS (e.ev.cl 59 [x2, (.int .i64 0), v2, v3, v4] G1) fun x3 G4 =>
  bL q e 22 0 (subAt [1, 1, 0, 1, 0, 0] (bodyOf Tryz.f22)) 34 (tu (nth undef [v0, v1, v2, v3, v4]) [(5, x0), (10, (.bool false)), (11, x3), (12, (.int .i64 0)), (13, x2), (14, v2), (15, v3), (16, v4), (17, x3)]) G4 fun e5 t6 G7 =>
  bV q (t6 10) fun t6x10_ =>
  bV q (t6 11) fun t6x11_ =>
  ifE e5 (.exit 0) (
  bS (e.ev.cl 61 [t6x11_] G7) fun x8 G9 =>
  bP (bn Q q .eql 51 (.tmp 32) (.const (.int .i64 0)) x8 (.int .i64 0)) fun x10 =>
  some (x10, G9)) (ifE e5 .ret (
  some (t6x10_, G7)) (none))
theorem m22 {e : Ex} {E : Ev} (h : ExLe Q e E) (v0 v1 v2 v3 v4 : Value) (G : GS) : Ref (s22 true e v0 v1 v2 v3 v4 G) (s22 false (Ex.of E) v0 v1 v2 v3 v4 G) := by
  unfold s22
  exact Ref.go
theorem f22 {orc : FuncId → Bool} {e : Ex} (h : ExLe Q e (E orc)) (v0 v1 v2 v3 v4 : Value) (G : GS) : Ref (s22 true e v0 v1 v2 v3 v4 G) ((E orc).cl 22 [v0, v1, v2, v3, v4] G) :=
  fun r hr => cl_sxE_some Q orc (vs := [v0, v1, v2, v3, v4]) G Tryz.func22 (by kernel_rfl) (by kernel_rfl) (by kernel_rfl) (by kernel_rfl) (by kernel_rfl) (by kernel_rfl) (m22 h v0 v1 v2 v3 v4 G r hr)
/-- (*coxswain/cells.Mem).Store -/
noncomputable def s23 (q : Bool) (e : Ex) (v0 v1 v2 : Value) (G : GS) : Option (Value × GS) :=
  bS (e.ev.cl 62 [v0, v1] G) fun x0 G1 =>
  bP (bd Q q 109 z109 [(0, 0, 1), (1, 1, 1)] [x0, v2]) fun x2 =>
  bS (al Q q 109 z109 G1) fun x3 G4 =>
  bP (st Q q 109 3 x3 x2 G4) fun G5 =>
  bP (fa Q q 109 0 0 x3) fun x6 =>
  bP (ld Q q 106 x6 G5) fun x7 =>
  bP (lda Q q 109 3 x3 G5) fun x8 =>
  bS (e.ev.cl 63 [v0, (.int .i64 2), v1, x7, (.func (.func 64) #[x8] #[])] G5) fun x9 G10 =>
  some (.tuple #[], G10)
theorem m23 {e : Ex} {E : Ev} (h : ExLe Q e E) (v0 v1 v2 : Value) (G : GS) : Ref (s23 true e v0 v1 v2 G) (s23 false (Ex.of E) v0 v1 v2 G) := by
  unfold s23
  exact Ref.go
theorem f23 {orc : FuncId → Bool} {e : Ex} (h : ExLe Q e (E orc)) (v0 v1 v2 : Value) (G : GS) : Ref (s23 true e v0 v1 v2 G) ((E orc).cl 23 [v0, v1, v2] G) :=
  fun r hr => cl_sxE_some Q orc (vs := [v0, v1, v2]) G Tryz.func23 (by kernel_rfl) (by kernel_rfl) (by kernel_rfl) (by kernel_rfl) (by kernel_rfl) (by kernel_rfl) (m23 h v0 v1 v2 G r hr)
noncomputable def b24_0 (q : Bool) (e : Ex) (lp : Env → GS → Option (Exit × Env × GS)) (τ : Env) (G : GS) : Option (Exit × Env × GS) :=
  bV q (τ 3) fun a3_ =>
  bV q (τ 29) fun a29_ =>
  bV q (τ 30) fun a30_ =>
  bV q (τ 31) fun a31_ =>
  bP (bn Q q .lss 3 (.tmp 31) (.tmp 30) a31_ a30_) fun x0 =>
  ifV x0 (
  bP (ias Q q 112 1 a29_ a31_) fun x1 =>
  bP (ld Q q 96 x1 G) fun x2 =>
  bP (ias Q q 22 1 a3_ a31_) fun x3 =>
  bP (st Q q 23 1 x3 x2 G) fun G4 =>
  bP (bn Q q .add 3 (.tmp 31) (.const (.int .i64 1)) a31_ (.int .i64 1)) fun x5 =>
  lp (tu τ [(3, a3_), (29, a29_), (30, a30_), (31, x5), (4, a31_), (5, x2), (32, x0), (33, a31_), (34, x1), (35, x2), (36, a3_), (37, a31_), (38, x2), (39, x3), (40, x5)]) G4) (
  some ((.exit 0), clq q 42 (tu τ [(3, a3_), (29, a29_), (30, a30_), (31, a31_), (32, x0)]), G))
theorem mb24_0 {e : Ex} {E : Ev} (h : ExLe Q e E) {lp lp' : Env → GS → Option (Exit × Env × GS)} (hlp : LpLe lp lp') (τ : Env) (G : GS) : Ref (b24_0 true e lp τ G) (b24_0 false (Ex.of E) lp' τ G) := by
  unfold b24_0
  exact Ref.go
theorem l24_0 {orc : FuncId → Bool} {e : Ex} (h : ExLe Q e (E orc)) (lp : Env → GS → Option (Exit × Env × GS)) (hlp : ∀ τ G, Ref (lp τ G) (mapE ((E orc).lp (subAt [1, 1, 1, 0, 1, 0, 0] (bodyOf Tryz.f24)) (lst 42 τ) G))) (T : List Value) (G : GS) (hT : T.length = 42) : Ref (b24_0 true e lp (nth undef T) G) (mapE ((E orc).lp (subAt [1, 1, 1, 0, 1, 0, 0] (bodyOf Tryz.f24)) T G)) :=
  fun r hr => lp_sxM Q orc G hT (by kernel_rfl) (mb24_0 h ⟨hlp⟩ _ _ r hr)
/-- (*coxswain/cells.Mem).Words -/
noncomputable def s24 (q : Bool) (e : Ex) (v0 : Value) (G : GS) : Option (Value × GS) :=
  bP (ep Q q false 50 (.tmp 6) (.const (.pointer none)) v0 (.pointer none)) fun x0 =>
  bS (gd x0 false (some (v0, G)) G) fun x1 G2 =>
  bS (gd x0 false (bP (pNil x1) fun y => some (y, G2)) G2) fun x3 G4 =>
  bS (gd x0 false (bP (fa Q q 100 0 0 x3) fun y => some (y, G4)) G4) fun x5 G6 =>
  bS (gd x0 false (bP (ld Q q 95 x5 G6) fun y => some (y, G6)) G6) fun x7 G8 =>
  bS (gd x0 false (bP (ep Q q false 95 (.tmp 12) (.const (.pointer none)) x7 (.pointer none)) fun y => some (y, G8)) G8) fun x9 G10 =>
  bP (pickV x0 (.bool true) x9) fun x11 =>
  ifV x11 (
  some ((.slice none 0 0), G10)) (
  bP (pNil v0) fun x12 =>
  bP (fa Q q 100 1 1 x12) fun x13 =>
  bP (ld Q q 3 x13 G10) fun x14 =>
  bS (mk Q q 22 1 8 z23 x14 x14 G10) fun x15 G16 =>
  bP (pNil v0) fun x17 =>
  bP (fa Q q 100 0 0 x17) fun x18 =>
  bP (ld Q q 95 x18 (G16.room 12)) fun x19 =>
  bP (pNil x19) fun x20 =>
  bP (pNil v0) fun x21 =>
  bP (fa Q q 100 1 1 x21) fun x22 =>
  bP (ld Q q 3 x22 (G16.room 12)) fun x23 =>
  bP (sla Q q 98 4096 1 x20 none (some x23) none (G16.room 12)) fun x24 =>
  bP (ln Q q 112 x24) fun x25 =>
  bL q e 24 0 (subAt [1, 1, 1, 0, 1, 0, 0] (bodyOf Tryz.f24)) 42 (tu (nth undef [v0]) [(2, (.slice none 0 0)), (3, x15), (6, v0), (7, x0), (8, x0), (9, x1), (10, x3), (11, x5), (12, x7), (13, x9), (14, x11), (15, v0), (16, x12), (17, x13), (18, x14), (19, x15), (20, v0), (21, x17), (22, x18), (23, x19), (24, x20), (25, v0), (26, x21), (27, x22), (28, x23), (29, x24), (30, x25), (31, (.int .i64 0))]) (G16.room 12) fun e26 t27 G28 =>
  bV q (t27 3) fun t27x3_ =>
  ifE e26 (.exit 0) (
  some (t27x3_, G28)) (none))
theorem m24 {e : Ex} {E : Ev} (h : ExLe Q e E) (v0 : Value) (G : GS) : Ref (s24 true e v0 G) (s24 false (Ex.of E) v0 G) := by
  unfold s24
  exact Ref.go
theorem f24 {orc : FuncId → Bool} {e : Ex} (h : ExLe Q e (E orc)) (v0 : Value) (G : GS) : Ref (s24 true e v0 G) ((E orc).cl 24 [v0] G) :=
  fun r hr => cl_sxE_some Q orc (vs := [v0]) G Tryz.func24 (by kernel_rfl) (by kernel_rfl) (by kernel_rfl) (by kernel_rfl) (by kernel_rfl) (by kernel_rfl) (m24 h v0 G r hr)
/-- coxswain/run.NewBalance -/
noncomputable def s25 (q : Bool) (e : Ex) (v0 v1 v2 : Value) (G : GS) : Option (Value × GS) :=
  bS (bx q v0 G) fun x0 G1 =>
  bS (bx q v1 G1) fun x2 G3 =>
  bP (fa Q q 49 0 0 x2) fun x4 =>
  bP (ld Q q 3 x4 (G3.room 12)) fun x5 =>
  bP (fa Q q 49 2 2 x2) fun x6 =>
  bP (ld Q q 3 x6 (G3.room 12)) fun x7 =>
  bP (bd Q q 114 z114 [(0, 0, 1), (1, 1, 1)] [x5, x7]) fun x8 =>
  bP (lda Q q 49 3 x2 (G3.room 12)) fun x9 =>
  bP (lda Q q 45 13 x0 (G3.room 12)) fun x10 =>
  bS (e.ev.cl 65 [x10, v2] (G3.room 12)) fun x12 G11 =>
  chk ((sameO (lda Q q 49 3 x2 G11) x9 && (sameO (ld Q q 3 x6 G11) x7 && (sameO (ld Q q 3 x4 G11) x5 && true)))) <|
  bP (bd Q q 118 z118 [(0, 0, 2), (1, 2, 3), (2, 5, 1), (5, 8, 1), (6, 9, 1), (8, 11, 1)] [x8, x9, x12, (.int .i64 (-1)), (.int .i64 (-1)), (.bool true)]) fun x13 =>
  bS (bx q x13 (G11.at' (G3.nx + 10))) fun x14 G15 =>
  bP (pNil x14) fun x16 =>
  bP (fa Q q 118 2 5 x16) fun x17 =>
  bP (ld Q q 115 x17 (G15.back G11)) fun x18 =>
  bS (e.ev.cl 66 [x18] (G15.back G11)) fun x19 G20 =>
  bP (pExtract x19 0) fun x21 =>
  bP (pExtract x19 1) fun x22 =>
  bS (al Q q 120 z120 G20) fun x23 G24 =>
  bP (st Q q 120 2 x23 x21 G24) fun G25 =>
  bP (bn Q q .neq 51 (.tmp 29) (.const (.int .i64 14)) x22 (.int .i64 14)) fun x26 =>
  ifV x26 (
  bS (e.ev.cl 67 [x14, x22] G25) fun x27 G28 =>
  some (x14, G28)) (
  bP (lda Q q 49 3 x2 G25) fun x29 =>
  bS (e.ev.cl 58 [x29] G25) fun x30 G31 =>
  bP (un Q q .not x30) fun x32 =>
  ifV x32 (
  bS (e.ev.cl 67 [x14, (.int .i64 2)] G31) fun x33 G34 =>
  some (x14, G34)) (
  some (x14, G31)))
theorem m25 {e : Ex} {E : Ev} (h : ExLe Q e E) (v0 v1 v2 : Value) (G : GS) : Ref (s25 true e v0 v1 v2 G) (s25 false (Ex.of E) v0 v1 v2 G) := by
  unfold s25
  exact Ref.go
theorem f25 {orc : FuncId → Bool} {e : Ex} (h : ExLe Q e (E orc)) (v0 v1 v2 : Value) (G : GS) : Ref (s25 true e v0 v1 v2 G) ((E orc).cl 25 [v0, v1, v2] G) :=
  fun r hr => cl_sxE_some Q orc (vs := [v0, v1, v2]) G Tryz.func25 (by kernel_rfl) (by kernel_rfl) (by kernel_rfl) (by kernel_rfl) (by kernel_rfl) (by kernel_rfl) (m25 h v0 v1 v2 G r hr)
/-- (*coxswain/run.Balance).Step -/
noncomputable def s26 (q : Bool) (e : Ex) (v0 v1 : Value) (G : GS) : Option (Value × GS) :=
  bP (ep Q q false 59 (.tmp 9) (.const (.pointer none)) v0 (.pointer none)) fun x0 =>
  bS (gd x0 false (some (v0, G)) G) fun x1 G2 =>
  bS (gd x0 false (bP (pNil x1) fun y => some (y, G2)) G2) fun x3 G4 =>
  bS (gd x0 false (bP (fa Q q 118 8 11 x3) fun y => some (y, G4)) G4) fun x5 G6 =>
  bS (gd x0 false (bP (ld Q q 4 x5 G6) fun y => some (y, G6)) G6) fun x7 G8 =>
  bS (gd x0 false (bP (un Q q .not x7) fun y => some (y, G8)) G8) fun x9 G10 =>
  bP (pickV x0 (.bool true) x9) fun x11 =>
  bS (gd x11 false (some (v0, G10)) G10) fun x12 G13 =>
  bS (gd x11 false (bP (pNil x12) fun y => some (y, G13)) G13) fun x14 G15 =>
  bS (gd x11 false (bP (fa Q q 118 9 12 x14) fun y => some (y, G15)) G15) fun x16 G17 =>
  bS (gd x11 false (bP (ld Q q 4 x16 G17) fun y => some (y, G17)) G17) fun x18 G19 =>
  bP (pickV x11 (.bool true) x18) fun x20 =>
  ifV x20 (
  some ((.bool true), G19)) (
  bP (pNil v0) fun x21 =>
  bP (fa Q q 118 7 10 x21) fun x22 =>
  bP (st Q q 23 1 x22 (.int .u64 0) G19) fun G23 =>
  bP (pNil v0) fun x24 =>
  bP (fa Q q 118 2 5 x24) fun x25 =>
  bP (ld Q q 115 x25 G23) fun x26 =>
  bP (ep Q q true 115 (.tmp 30) (.const (.pointer none)) x26 (.pointer none)) fun x27 =>
  ifV x27 (
  bS (e.ev.cl 68 [v0, v1] G23) fun x28 G29 =>
  bP (pNil v0) fun x30 =>
  bP (fa Q q 118 9 12 x30) fun x31 =>
  bP (ld Q q 4 x31 G29) fun x32 =>
  some (x32, G29)) (
  bP (pNil v0) fun x33 =>
  bP (fa Q q 118 0 0 x33) fun x34 =>
  bS (e.ev.cl 69 [x34] G23) fun x35 G36 =>
  bP (pExtract x35 0) fun x37 =>
  bP (pExtract x35 1) fun x38 =>
  ifV x38 (
  bP (pNil v0) fun x39 =>
  bP (fa Q q 118 4 7 x39) fun x40 =>
  bP (ld Q q 22 x40 (G36.room 13)) fun x41 =>
  bS (e.ev.cl 70 [v1, x37] (G36.room 13)) fun x43 G42 =>
  chk ((sameO (ld Q q 22 x40 G42) x41 && true)) <|
  bS (bs Q q 22 1 (rep z23 1) 1 [(0, 0, 1)] [x43] (G42.at' (G36.nx + 8))) fun x44 G45 =>
  bS (ap Q q 22 22 1 8 x41 x44 (G45.back G42)) fun x47 G46 =>
  bP (pNil v0) fun x48 =>
  bP (fa Q q 118 4 7 x48) fun x49 =>
  bP (st Q q 22 1 x49 x47 G46) fun G50 =>
  bP (pNil v0) fun x51 =>
  bP (fa Q q 118 0 0 x51) fun x52 =>
  bP (fa Q q 114 1 1 x52) fun x53 =>
  bP (ld Q q 3 x53 G50) fun x54 =>
  bP (bn Q q .eql 3 (.tmp 63) (.const (.int .i64 0)) x54 (.int .i64 0)) fun x55 =>
  ifV x55 (
  bP (pNil v0) fun x56 =>
  bP (fa Q q 118 4 7 x56) fun x57 =>
  bP (ld Q q 22 x57 (G50.room 14)) fun x58 =>
  bP (pNil v0) fun x59 =>
  bP (fa Q q 118 3 6 x59) fun x60 =>
  bP (ld Q q 23 x60 (G50.room 14)) fun x61 =>
  bS (e.ev.cl 9 [x58, x61] (G50.room 14)) fun x63 G62 =>
  bP (pExtract x63 0) fun x64 =>
  bP (pExtract x63 1) fun x65 =>
  bP (un Q q .not x65) fun x66 =>
  bP (pNil v0) fun x67 =>
  bP (fa Q q 118 5 8 x67) fun x68 =>
  bP (st Q q 3 1 x68 x64 G62) fun G69 =>
  bP (pNil v0) fun x70 =>
  bP (fa Q q 118 9 12 x70) fun x71 =>
  bP (st Q q 4 1 x71 x66 G69) fun G72 =>
  bP (pNil v0) fun x73 =>
  bP (fa Q q 118 9 12 x73) fun x74 =>
  bP (ld Q q 4 x74 G72) fun x75 =>
  some (x75, G72)) (
  bP (pNil v0) fun x76 =>
  bP (fa Q q 118 9 12 x76) fun x77 =>
  bP (ld Q q 4 x77 G50) fun x78 =>
  some (x78, G50))) (
  bP (pNil v0) fun x79 =>
  bP (fa Q q 118 1 2 x79) fun x80 =>
  bP (fa Q q 49 1 1 x80) fun x81 =>
  bP (ld Q q 3 x81 (G36.room 12)) fun x82 =>
  bP (pNil v0) fun x83 =>
  bP (fa Q q 118 5 8 x83) fun x84 =>
  bP (ld Q q 3 x84 (G36.room 12)) fun x85 =>
  bP (bn Q q .add 3 (.tmp 95) (.tmp 99) x82 x85) fun x86 =>
  bS (e.ev.cl 23 [v1, x86, (.int .u64 1)] (G36.room 12)) fun x88 G87 =>
  bP (pNil v0) fun x89 =>
  bP (fa Q q 118 5 8 x89) fun x90 =>
  bP (ld Q q 3 x90 G87) fun x91 =>
  bP (pNil v0) fun x92 =>
  bP (fa Q q 118 6 9 x92) fun x93 =>
  bP (st Q q 3 1 x93 x91 G87) fun G94 =>
  bS (e.ev.cl 67 [v0, (.int .i64 0)] G94) fun x95 G96 =>
  some ((.bool true), G96))))
theorem m26 {e : Ex} {E : Ev} (h : ExLe Q e E) (v0 v1 : Value) (G : GS) : Ref (s26 true e v0 v1 G) (s26 false (Ex.of E) v0 v1 G) := by
  unfold s26
  exact Ref.go
set_option maxHeartbeats 8000000 in
theorem f26 {orc : FuncId → Bool} {e : Ex} (h : ExLe Q e (E orc)) (v0 v1 : Value) (G : GS) : Ref (s26 true e v0 v1 G) ((E orc).cl 26 [v0, v1] G) :=
  fun r hr => cl_sxE_some Q orc (vs := [v0, v1]) G Tryz.func26 (by kernel_rfl) (by kernel_rfl) (by kernel_rfl) (by kernel_rfl) (by kernel_rfl) (by kernel_rfl) (m26 h v0 v1 G r hr)
/-- (*coxswain/run.Balance).Err -/
noncomputable def s27 (q : Bool) (e : Ex) (v0 : Value) (G : GS) : Option (Value × GS) :=
  bP (ep Q q false 59 (.tmp 4) (.const (.pointer none)) v0 (.pointer none)) fun x0 =>
  bS (gd x0 false (some (v0, G)) G) fun x1 G2 =>
  bS (gd x0 false (bP (pNil x1) fun y => some (y, G2)) G2) fun x3 G4 =>
  bS (gd x0 false (bP (fa Q q 118 8 11 x3) fun y => some (y, G4)) G4) fun x5 G6 =>
  bS (gd x0 false (bP (ld Q q 4 x5 G6) fun y => some (y, G6)) G6) fun x7 G8 =>
  bS (gd x0 false (bP (un Q q .not x7) fun y => some (y, G8)) G8) fun x9 G10 =>
  bP (pickV x0 (.bool true) x9) fun x11 =>
  ifV x11 (
  some ((.int .i64 1), G10)) (
  bP (pNil v0) fun x12 =>
  bP (fa Q q 118 9 12 x12) fun x13 =>
  bP (ld Q q 4 x13 G10) fun x14 =>
  bP (un Q q .not x14) fun x15 =>
  ifV x15 (
  some ((.int .i64 14), G10)) (
  bP (pNil v0) fun x16 =>
  bP (fa Q q 118 10 13 x16) fun x17 =>
  bP (ld Q q 51 x17 G10) fun x18 =>
  some (x18, G10)))
theorem m27 {e : Ex} {E : Ev} (h : ExLe Q e E) (v0 : Value) (G : GS) : Ref (s27 true e v0 G) (s27 false (Ex.of E) v0 G) := by
  unfold s27
  exact Ref.go
theorem f27 {orc : FuncId → Bool} {e : Ex} (h : ExLe Q e (E orc)) (v0 : Value) (G : GS) : Ref (s27 true e v0 G) ((E orc).cl 27 [v0] G) :=
  fun r hr => cl_sxE_some Q orc (vs := [v0]) G Tryz.func27 (by kernel_rfl) (by kernel_rfl) (by kernel_rfl) (by kernel_rfl) (by kernel_rfl) (by kernel_rfl) (m27 h v0 G r hr)
/-- (*coxswain/run.Balance).Flagged -/
noncomputable def s28 (q : Bool) (e : Ex) (v0 : Value) (G : GS) : Option (Value × GS) :=
  bP (ep Q q false 59 (.tmp 3) (.const (.pointer none)) v0 (.pointer none)) fun x0 =>
  bS (gd x0 false (some (v0, G)) G) fun x1 G2 =>
  bS (gd x0 false (bP (pNil x1) fun y => some (y, G2)) G2) fun x3 G4 =>
  bS (gd x0 false (bP (fa Q q 118 8 11 x3) fun y => some (y, G4)) G4) fun x5 G6 =>
  bS (gd x0 false (bP (ld Q q 4 x5 G6) fun y => some (y, G6)) G6) fun x7 G8 =>
  bS (gd x0 false (bP (un Q q .not x7) fun y => some (y, G8)) G8) fun x9 G10 =>
  bP (pickV x0 (.bool true) x9) fun x11 =>
  ifV x11 (
  some ((.int .i64 (-1)), G10)) (
  bP (pNil v0) fun x12 =>
  bP (fa Q q 118 6 9 x12) fun x13 =>
  bP (ld Q q 3 x13 G10) fun x14 =>
  some (x14, G10))
theorem m28 {e : Ex} {E : Ev} (h : ExLe Q e E) (v0 : Value) (G : GS) : Ref (s28 true e v0 G) (s28 false (Ex.of E) v0 G) := by
  unfold s28
  exact Ref.go
theorem f28 {orc : FuncId → Bool} {e : Ex} (h : ExLe Q e (E orc)) (v0 : Value) (G : GS) : Ref (s28 true e v0 G) ((E orc).cl 28 [v0] G) :=
  fun r hr => cl_sxE_some Q orc (vs := [v0]) G Tryz.func28 (by kernel_rfl) (by kernel_rfl) (by kernel_rfl) (by kernel_rfl) (by kernel_rfl) (by kernel_rfl) (m28 h v0 G r hr)
/-- coxswain/run.Fits -/
noncomputable def s29 (q : Bool) (e : Ex) (v0 v1 : Value) (G : GS) : Option (Value × GS) :=
  bS (bx q v0 G) fun x0 G1 =>
  bP (bn Q q .lss 3 (.tmp 5) (.const (.int .i64 1)) v1 (.int .i64 1)) fun x2 =>
  bS (gd x2 false (some (v1, G1)) G1) fun x3 G4 =>
  bS (gd x2 false (bP (bn Q q .gtr 3 (.tmp 8) (.const (.int .i64 4096)) x3 (.int .i64 4096)) fun y => some (y, G4)) G4) fun x5 G6 =>
  bP (pickV x2 (.bool true) x5) fun x7 =>
  ifV x7 (
  some ((.int .i64 3), G6)) (
  bP (lda Q q 49 3 x0 G6) fun x8 =>
  bS (e.ev.cl 58 [x8] G6) fun x9 G10 =>
  bP (un Q q .not x9) fun x11 =>
  bS (gd x11 false (bP (fa Q q 49 0 0 x0) fun y => some (y, G10)) G10) fun x12 G13 =>
  bS (gd x11 false (bP (ld Q q 3 x12 G13) fun y => some (y, G13)) G13) fun x14 G15 =>
  bS (gd x11 false (bP (fa Q q 49 1 1 x0) fun y => some (y, G15)) G15) fun x16 G17 =>
  bS (gd x11 false (bP (ld Q q 3 x16 G17) fun y => some (y, G17)) G17) fun x18 G19 =>
  bS (gd x11 false (bP (mn Q q #[3, 3] x14 x18) fun y => some (y, G19)) G19) fun x20 G21 =>
  bS (gd x11 false (bP (bn Q q .lss 3 (.tmp 19) (.const (.int .i64 0)) x20 (.int .i64 0)) fun y => some (y, G21)) G21) fun x22 G23 =>
  bP (pickV x11 (.bool true) x22) fun x24 =>
  bS (gd x24 false (bP (fa Q q 49 0 0 x0) fun y => some (y, G23)) G23) fun x25 G26 =>
  bS (gd x24 false (bP (ld Q q 3 x25 G26) fun y => some (y, G26)) G26) fun x27 G28 =>
  bS (gd x24 false (bP (fa Q q 49 1 1 x0) fun y => some (y, G28)) G28) fun x29 G30 =>
  bS (gd x24 false (bP (ld Q q 3 x29 G30) fun y => some (y, G30)) G30) fun x31 G32 =>
  bS (gd x24 false (bP (mx Q q #[3, 3] x27 x31) fun y => some (y, G32)) G32) fun x33 G34 =>
  bS (gd x24 false (some (v1, G34)) G34) fun x35 G36 =>
  bS (gd x24 false (bP (fa Q q 49 2 2 x0) fun y => some (y, G36)) G36) fun x37 G38 =>
  bS (gd x24 false (bP (ld Q q 3 x37 G38) fun y => some (y, G38)) G38) fun x39 G40 =>
  bS (gd x24 false (bP (bn Q q .sub 3 (.tmp 28) (.tmp 30) x35 x39) fun y => some (y, G40)) G40) fun x41 G42 =>
  bS (gd x24 false (bP (bn Q q .gtr 3 (.tmp 27) (.tmp 31) x33 x41) fun y => some (y, G42)) G42) fun x43 G44 =>
  bP (pickV x24 (.bool true) x43) fun x45 =>
  bS (gd x45 false (bP (fa Q q 49 0 0 x0) fun y => some (y, G44)) G44) fun x46 G47 =>
  bS (gd x45 false (bP (ld Q q 3 x46 G47) fun y => some (y, G47)) G47) fun x48 G49 =>
  bS (gd x45 false (bP (fa Q q 49 1 1 x0) fun y => some (y, G49)) G49) fun x50 G51 =>
  bS (gd x45 false (bP (ld Q q 3 x50 G51) fun y => some (y, G51)) G51) fun x52 G53 =>
  bS (gd x45 false (bP (mx Q q #[3, 3] x48 x52) fun y => some (y, G53)) G53) fun x54 G55 =>
  bS (gd x45 false (bP (fa Q q 49 0 0 x0) fun y => some (y, G55)) G55) fun x56 G57 =>
  bS (gd x45 false (bP (ld Q q 3 x56 G57) fun y => some (y, G57)) G57) fun x58 G59 =>
  bS (gd x45 false (bP (fa Q q 49 1 1 x0) fun y => some (y, G59)) G59) fun x60 G61 =>
  bS (gd x45 false (bP (ld Q q 3 x60 G61) fun y => some (y, G61)) G61) fun x62 G63 =>
  bS (gd x45 false (bP (mn Q q #[3, 3] x58 x62) fun y => some (y, G63)) G63) fun x64 G65 =>
  bS (gd x45 false (bP (bn Q q .sub 3 (.tmp 39) (.tmp 44) x54 x64) fun y => some (y, G65)) G65) fun x66 G67 =>
  bS (gd x45 false (bP (fa Q q 49 2 2 x0) fun y => some (y, G67)) G67) fun x68 G69 =>
  bS (gd x45 false (bP (ld Q q 3 x68 G69) fun y => some (y, G69)) G69) fun x70 G71 =>
  bS (gd x45 false (bP (bn Q q .lss 3 (.tmp 45) (.tmp 47) x66 x70) fun y => some (y, G71)) G71) fun x72 G73 =>
  bP (pickV x45 (.bool true) x72) fun x74 =>
  ifV x74 (
  some ((.int .i64 2), G73)) (
  some ((.int .i64 0), G73)))
theorem m29 {e : Ex} {E : Ev} (h : ExLe Q e E) (v0 v1 : Value) (G : GS) : Ref (s29 true e v0 v1 G) (s29 false (Ex.of E) v0 v1 G) := by
  unfold s29
  exact Ref.go
theorem f29 {orc : FuncId → Bool} {e : Ex} (h : ExLe Q e (E orc)) (v0 v1 : Value) (G : GS) : Ref (s29 true e v0 v1 G) ((E orc).cl 29 [v0, v1] G) :=
  fun r hr => cl_sxE_some Q orc (vs := [v0, v1]) G Tryz.func29 (by kernel_rfl) (by kernel_rfl) (by kernel_rfl) (by kernel_rfl) (by kernel_rfl) (by kernel_rfl) (m29 h v0 v1 G r hr)
/-- coxswain/coxswainlaw26.filled -/
noncomputable def s46 (q : Bool) (e : Ex) (G : GS) : Option (Value × GS) :=
  bS (e.ev.cl 19 [(.int .i64 40)] G) fun x0 G1 =>
  bP (pExtract x0 0) fun x2 =>
  bP (pExtract x0 1) fun x3 =>
  bP (bn Q q .neq 51 (.tmp 7) (.const (.int .i64 0)) x3 (.int .i64 0)) fun x4 =>
  bS (gd x4 false (some (x2, G1)) G1) fun x5 G6 =>
  bS (gd x4 false (bP (ep Q q false 50 (.tmp 10) (.const (.pointer none)) x5 (.pointer none)) fun y => some (y, G6)) G6) fun x7 G8 =>
  bP (pickV x4 (.bool true) x7) fun x9 =>
  ifV x9 (
  some ((.pointer none), G8)) (
  bS (e.ev.cl 51 [] G8) fun x10 G11 =>
  bS (e.ev.cl 20 [x10, x2] G11) fun x12 G13 =>
  bS (e.ev.cl 48 [] G13) fun x14 G15 =>
  bS (e.ev.cl 21 [x14, x2] G15) fun x16 G17 =>
  some (x2, G17))
theorem m46 {e : Ex} {E : Ev} (h : ExLe Q e E) (G : GS) : Ref (s46 true e  G) (s46 false (Ex.of E)  G) := by
  unfold s46
  exact Ref.go
theorem f46 {orc : FuncId → Bool} {e : Ex} (h : ExLe Q e (E orc)) (ho : orc 46 = false) (G : GS) : Ref (s46 true e  G) ((E orc).cl 46 [] G) :=
  fun r hr => cl_sxE_some Q orc (vs := []) G Tryz.func46 (by kernel_rfl) (by kernel_rfl) ho (by kernel_rfl) (by kernel_rfl) (by kernel_rfl) (m46 h  G r hr)
/-- coxswain/run.All -/
noncomputable def s47 (q : Bool) (e : Ex) (v0 v1 : Value) (G : GS) : Option (Value × GS) :=
  bS (bx q v0 G) fun x0 G1 =>
  bP (lda Q q 49 3 x0 G1) fun x2 =>
  bP (fa Q q 49 0 0 x0) fun x3 =>
  bP (ld Q q 3 x3 G1) fun x4 =>
  bS (e.ev.cl 91 [x2, x4, v1] G1) fun x5 G6 =>
  some (x5, G6)
theorem m47 {e : Ex} {E : Ev} (h : ExLe Q e E) (v0 v1 : Value) (G : GS) : Ref (s47 true e v0 v1 G) (s47 false (Ex.of E) v0 v1 G) := by
  unfold s47
  exact Ref.go
theorem f47 {orc : FuncId → Bool} {e : Ex} (h : ExLe Q e (E orc)) (v0 v1 : Value) (G : GS) : Ref (s47 true e v0 v1 G) ((E orc).cl 47 [v0, v1] G) :=
  fun r hr => cl_sxE_some Q orc (vs := [v0, v1]) G Tryz.func47 (by kernel_rfl) (by kernel_rfl) (by kernel_rfl) (by kernel_rfl) (by kernel_rfl) (by kernel_rfl) (m47 h v0 v1 G r hr)
/-- coxswain/coxswainlaw26.two -/
noncomputable def s48 (q : Bool) (e : Ex) (G : GS) : Option (Value × GS) :=
  bS (al Q q 49 z49 G) fun x0 G1 =>
  bP (bd Q q 49 z49 [(0, 0, 1), (1, 1, 1), (2, 2, 1)] [(.int .i64 34), (.int .i64 36), (.int .i64 2)]) fun x2 =>
  bP (st Q q 49 3 x0 x2 G1) fun G3 =>
  bP (lda Q q 49 3 x0 G3) fun x4 =>
  some (x4, G3)
theorem m48 {e : Ex} {E : Ev} (h : ExLe Q e E) (G : GS) : Ref (s48 true e  G) (s48 false (Ex.of E)  G) := by
  unfold s48
  exact Ref.go
theorem f48 {orc : FuncId → Bool} {e : Ex} (h : ExLe Q e (E orc)) (ho : orc 48 = false) (G : GS) : Ref (s48 true e  G) ((E orc).cl 48 [] G) :=
  fun r hr => cl_sxE_some Q orc (vs := []) G Tryz.func48 (by kernel_rfl) (by kernel_rfl) ho (by kernel_rfl) (by kernel_rfl) (by kernel_rfl) (m48 h  G r hr)
noncomputable def b49_0 (q : Bool) (e : Ex) (lp : Env → GS → Option (Exit × Env × GS)) (τ : Env) (G : GS) : Option (Exit × Env × GS) :=
  bV q (τ 2) fun a2_ =>
  bV q (τ 7) fun a7_ =>
  bV q (τ 8) fun a8_ =>
  bV q (τ 9) fun a9_ =>
  bP (ln Q q 138 a7_) fun x0 =>
  bP (bn Q q .lss 3 (.tmp 13) (.tmp 15) a9_ x0) fun x1 =>
  ifV x1 (
  bP (ias Q q 138 1 a7_ a9_) fun x2 =>
  bP (ld Q q 4 x2 G) fun x3 =>
  ifV x3 (
  bP (bn Q q .add 3 (.tmp 23) (.const (.int .i64 1)) a8_ (.int .i64 1)) fun x4 =>
  bP (ias Q q 138 1 a7_ a9_) fun x5 =>
  bP (ld Q q 4 x5 (G.room 8)) fun x6 =>
  bS (e.ev.cl 92 [a2_, a9_] (G.room 8)) fun x8 G7 =>
  chk ((sameO (ld Q q 4 x5 G7) x6 && true)) <|
  bP (eb Q q true 4 (.tmp 28) (.tmp 31) x6 x8) fun x9 =>
  ifV x9 (
  some (.ret, clq q 44 (tu τ [(2, a2_), (7, a7_), (8, x4), (9, a9_), (6, (.bool false)), (13, a9_), (14, a7_), (15, x0), (16, x1), (19, a7_), (20, a9_), (21, x2), (22, x3), (23, a8_), (24, x4), (25, a7_), (26, a9_), (27, x5), (28, x6), (29, a2_), (30, a9_), (31, x8), (32, x9)]), G7)) (
  bP (bn Q q .add 3 (.tmp 17) (.const (.int .i64 1)) a9_ (.int .i64 1)) fun x10 =>
  lp (tu τ [(2, a2_), (7, a7_), (8, x4), (9, x10), (13, a9_), (14, a7_), (15, x0), (16, x1), (17, a9_), (18, x10), (19, a7_), (20, a9_), (21, x2), (22, x3), (23, a8_), (24, x4), (25, a7_), (26, a9_), (27, x5), (28, x6), (29, a2_), (30, a9_), (31, x8), (32, x9)]) G7)) (
  bP (ias Q q 138 1 a7_ a9_) fun x11 =>
  bP (ld Q q 4 x11 (G.room 8)) fun x12 =>
  bS (e.ev.cl 92 [a2_, a9_] (G.room 8)) fun x14 G13 =>
  chk ((sameO (ld Q q 4 x11 G13) x12 && true)) <|
  bP (eb Q q true 4 (.tmp 28) (.tmp 31) x12 x14) fun x15 =>
  ifV x15 (
  some (.ret, clq q 44 (tu τ [(2, a2_), (7, a7_), (8, a8_), (9, a9_), (6, (.bool false)), (13, a9_), (14, a7_), (15, x0), (16, x1), (19, a7_), (20, a9_), (21, x2), (22, x3), (25, a7_), (26, a9_), (27, x11), (28, x12), (29, a2_), (30, a9_), (31, x14), (32, x15)]), G13)) (
  bP (bn Q q .add 3 (.tmp 17) (.const (.int .i64 1)) a9_ (.int .i64 1)) fun x16 =>
  lp (tu τ [(2, a2_), (7, a7_), (8, a8_), (9, x16), (13, a9_), (14, a7_), (15, x0), (16, x1), (17, a9_), (18, x16), (19, a7_), (20, a9_), (21, x2), (22, x3), (25, a7_), (26, a9_), (27, x11), (28, x12), (29, a2_), (30, a9_), (31, x14), (32, x15)]) G13))) (
  some ((.exit 0), clq q 44 (tu τ [(2, a2_), (7, a7_), (8, a8_), (9, a9_), (13, a9_), (14, a7_), (15, x0), (16, x1)]), G))
theorem mb49_0 {e : Ex} {E : Ev} (h : ExLe Q e E) {lp lp' : Env → GS → Option (Exit × Env × GS)} (hlp : LpLe lp lp') (τ : Env) (G : GS) : Ref (b49_0 true e lp τ G) (b49_0 false (Ex.of E) lp' τ G) := by
  unfold b49_0
  exact Ref.go
theorem l49_0 {orc : FuncId → Bool} {e : Ex} (h : ExLe Q e (E orc)) (lp : Env → GS → Option (Exit × Env × GS)) (hlp : ∀ τ G, Ref (lp τ G) (mapE ((E orc).lp (subAt [1, 1, 1, 0, 1, 0, 0] (bodyOf Tryz.f49)) (lst 44 τ) G))) (T : List Value) (G : GS) (hT : T.length = 44) : Ref (b49_0 true e lp (nth undef T) G) (mapE ((E orc).lp (subAt [1, 1, 1, 0, 1, 0, 0] (bodyOf Tryz.f49)) T G)) :=
  fun r hr => lp_sxM Q orc G hT (by kernel_rfl) (mb49_0 h ⟨hlp⟩ _ _ r hr)
/-- coxswain/coxswainlaw26.flags -/
noncomputable def s49 (q : Bool) (e : Ex) (v0 v1 v2 : Value) (G : GS) : Option (Value × GS) :=
  bS (bx q v0 G) fun x0 G1 =>
  bP (lda Q q 49 3 x0 G1) fun x2 =>
  bS (e.ev.cl 82 [x2, v1] G1) fun x3 G4 =>
  bL q e 49 0 (subAt [1, 1, 1, 0, 1, 0, 0] (bodyOf Tryz.f49)) 44 (tu (nth undef [v0, v1, v2]) [(3, x0), (6, (.bool false)), (7, x3), (8, (.int .i64 0)), (9, (.int .i64 0)), (10, x2), (11, v1), (12, x3)]) G4 fun e5 t6 G7 =>
  bV q (t6 2) fun t6x2_ =>
  bV q (t6 3) fun t6x3_ =>
  bV q (t6 6) fun t6x6_ =>
  bV q (t6 7) fun t6x7_ =>
  bV q (t6 8) fun t6x8_ =>
  ifE e5 (.exit 0) (
  bP (ln Q q 138 t6x7_) fun x8 =>
  bP (fa Q q 49 2 2 t6x3_) fun x9 =>
  bP (ld Q q 3 x9 G7) fun x10 =>
  bP (bn Q q .eql 3 (.tmp 34) (.tmp 36) x8 x10) fun x11 =>
  bS (gd x11 true (some (t6x8_, G7)) G7) fun x12 G13 =>
  bS (gd x11 true (some (t6x2_, G13)) G13) fun x14 G15 =>
  bS (gd x11 true (bP (ln Q q 35 x14) fun y => some (y, G15)) G15) fun x16 G17 =>
  bS (gd x11 true (bP (bn Q q .eql 3 (.tmp 39) (.tmp 41) x12 x16) fun y => some (y, G17)) G17) fun x18 G19 =>
  bP (pickV x11 x18 (.bool false)) fun x20 =>
  some (x20, G19)) (ifE e5 .ret (
  some (t6x6_, G7)) (none))
theorem m49 {e : Ex} {E : Ev} (h : ExLe Q e E) (v0 v1 v2 : Value) (G : GS) : Ref (s49 true e v0 v1 v2 G) (s49 false (Ex.of E) v0 v1 v2 G) := by
  unfold s49
  exact Ref.go
theorem f49 {orc : FuncId → Bool} {e : Ex} (h : ExLe Q e (E orc)) (v0 v1 v2 : Value) (G : GS) : Ref (s49 true e v0 v1 v2 G) ((E orc).cl 49 [v0, v1, v2] G) :=
  fun r hr => cl_sxE_some Q orc (vs := [v0, v1, v2]) G Tryz.func49 (by kernel_rfl) (by kernel_rfl) (by kernel_rfl) (by kernel_rfl) (by kernel_rfl) (by kernel_rfl) (m49 h v0 v1 v2 G r hr)
noncomputable def b50_0 (q : Bool) (e : Ex) (lp : Env → GS → Option (Exit × Env × GS)) (τ : Env) (G : GS) : Option (Exit × Env × GS) :=
  bV q (τ 0) fun a0_ =>
  bV q (τ 2) fun a2_ =>
  bV q (τ 9) fun a9_ =>
  bV q (τ 10) fun a10_ =>
  bP (bn Q q .lss 3 (.tmp 15) (.tmp 16) a10_ a2_) fun x0 =>
  ifV x0 (
  bS (e.ev.cl 26 [a9_, a0_] G) fun x1 G2 =>
  bS (gd x1 false (some (a9_, G2)) G2) fun x3 G4 =>
  bS (gd x1 false (bS (e.ev.cl 27 [x3] G4) fun y G => some (y, G)) G4) fun x5 G6 =>
  bS (gd x1 false (bP (bn Q q .neq 51 (.tmp 25) (.const (.int .i64 14)) x5 (.int .i64 14)) fun y => some (y, G6)) G6) fun x7 G8 =>
  bP (pickV x1 (.bool true) x7) fun x9 =>
  bS (gd x9 false (some (a9_, G8)) G8) fun x10 G11 =>
  bS (gd x9 false (bS (e.ev.cl 28 [x10] G11) fun y G => some (y, G)) G11) fun x12 G13 =>
  bS (gd x9 false (bP (bn Q q .neq 3 (.tmp 30) (.const (.int .i64 (-1))) x12 (.int .i64 (-1))) fun y => some (y, G13)) G13) fun x14 G15 =>
  bP (pickV x9 (.bool true) x14) fun x16 =>
  ifV x16 (
  some (.ret, clq q 47 (tu τ [(0, a0_), (2, a2_), (9, a9_), (10, a10_), (8, (.bool false)), (15, a10_), (16, a2_), (17, x0), (20, a9_), (21, a0_), (22, x1), (23, x1), (24, x3), (25, x5), (26, x7), (27, x9), (28, x9), (29, x10), (30, x12), (31, x14), (32, x16)]), G15)) (
  bP (bn Q q .add 3 (.tmp 18) (.const (.int .i64 1)) a10_ (.int .i64 1)) fun x17 =>
  lp (tu τ [(0, a0_), (2, a2_), (9, a9_), (10, x17), (15, a10_), (16, a2_), (17, x0), (18, a10_), (19, x17), (20, a9_), (21, a0_), (22, x1), (23, x1), (24, x3), (25, x5), (26, x7), (27, x9), (28, x9), (29, x10), (30, x12), (31, x14), (32, x16)]) G15)) (
  some ((.exit 0), clq q 47 (tu τ [(0, a0_), (2, a2_), (9, a9_), (10, a10_), (15, a10_), (16, a2_), (17, x0)]), G))
theorem mb50_0 {e : Ex} {E : Ev} (h : ExLe Q e E) {lp lp' : Env → GS → Option (Exit × Env × GS)} (hlp : LpLe lp lp') (τ : Env) (G : GS) : Ref (b50_0 true e lp τ G) (b50_0 false (Ex.of E) lp' τ G) := by
  unfold b50_0
  exact Ref.go
theorem l50_0 {orc : FuncId → Bool} {e : Ex} (h : ExLe Q e (E orc)) (lp : Env → GS → Option (Exit × Env × GS)) (hlp : ∀ τ G, Ref (lp τ G) (mapE ((E orc).lp (subAt [1, 1, 0, 1, 0, 0] (bodyOf Tryz.f50)) (lst 47 τ) G))) (T : List Value) (G : GS) (hT : T.length = 47) : Ref (b50_0 true e lp (nth undef T) G) (mapE ((E orc).lp (subAt [1, 1, 0, 1, 0, 0] (bodyOf Tryz.f50)) T G)) :=
  fun r hr => lp_sxM Q orc G hT (by kernel_rfl) (mb50_0 h ⟨hlp⟩ _ _ r hr)
/-- coxswain/coxswainlaw26.balances -/
noncomputable def s50 (q : Bool) (e : Ex) (v0 v1 v2 v3 : Value) (G : GS) : Option (Value × GS) :=
  bS (e.ev.cl 51 [] G) fun x0 G1 =>
  bS (e.ev.cl 48 [] G1) fun x2 G3 =>
  bS (e.ev.cl 25 [x0, x2, v1] G3) fun x4 G5 =>
  bL q e 50 0 (subAt [1, 1, 0, 1, 0, 0] (bodyOf Tryz.f50)) 47 (tu (nth undef [v0, v1, v2, v3]) [(8, (.bool false)), (9, x4), (10, (.int .i64 1)), (11, x0), (12, x2), (13, v1), (14, x4)]) G5 fun e6 t7 G8 =>
  bV q (t7 0) fun t7x0_ =>
  bV q (t7 3) fun t7x3_ =>
  bV q (t7 8) fun t7x8_ =>
  bV q (t7 9) fun t7x9_ =>
  ifE e6 (.exit 0) (
  bS (e.ev.cl 26 [t7x9_, t7x0_] G8) fun x9 G10 =>
  bS (gd x9 true (some (t7x9_, G10)) G10) fun x11 G12 =>
  bS (gd x9 true (bS (e.ev.cl 27 [x11] G12) fun y G => some (y, G)) G12) fun x13 G14 =>
  bS (gd x9 true (bP (bn Q q .eql 51 (.tmp 38) (.const (.int .i64 0)) x13 (.int .i64 0)) fun y => some (y, G14)) G14) fun x15 G16 =>
  bP (pickV x9 x15 (.bool false)) fun x17 =>
  bS (gd x17 true (some (t7x9_, G16)) G16) fun x18 G19 =>
  bS (gd x17 true (bS (e.ev.cl 28 [x18] G19) fun y G => some (y, G)) G19) fun x20 G21 =>
  bS (gd x17 true (some (t7x3_, G21)) G21) fun x22 G23 =>
  bS (gd x17 true (bP (bn Q q .eql 3 (.tmp 43) (.tmp 44) x20 x22) fun y => some (y, G23)) G23) fun x24 G25 =>
  bP (pickV x17 x24 (.bool false)) fun x26 =>
  some (x26, G25)) (ifE e6 .ret (
  some (t7x8_, G8)) (none))
theorem m50 {e : Ex} {E : Ev} (h : ExLe Q e E) (v0 v1 v2 v3 : Value) (G : GS) : Ref (s50 true e v0 v1 v2 v3 G) (s50 false (Ex.of E) v0 v1 v2 v3 G) := by
  unfold s50
  exact Ref.go
theorem f50 {orc : FuncId → Bool} {e : Ex} (h : ExLe Q e (E orc)) (v0 v1 v2 v3 : Value) (G : GS) : Ref (s50 true e v0 v1 v2 v3 G) ((E orc).cl 50 [v0, v1, v2, v3] G) :=
  fun r hr => cl_sxE_some Q orc (vs := [v0, v1, v2, v3]) G Tryz.func50 (by kernel_rfl) (by kernel_rfl) (by kernel_rfl) (by kernel_rfl) (by kernel_rfl) (by kernel_rfl) (m50 h v0 v1 v2 v3 G r hr)
/-- coxswain/coxswainlaw26.chapter -/
noncomputable def s51 (q : Bool) (e : Ex) (G : GS) : Option (Value × GS) :=
  bS (al Q q 45 z45 G) fun x0 G1 =>
  bP (bd Q q 37 z37 [(0, 0, 1), (1, 1, 1), (2, 2, 1)] [(.int .i64 0), (.int .i64 1), (.int .i64 3)]) fun x2 =>
  bP (bd Q q 39 z39 [(0, 0, 3), (1, 3, 1), (2, 4, 1), (3, 5, 1)] [x2, (.int .i64 4), (.int .i64 7), (.int .i64 9)]) fun x3 =>
  bS (al Q q 39 z39 G1) fun x4 G5 =>
  bP (st Q q 39 6 x4 x3 G5) fun G6 =>
  bP (lda Q q 39 6 x4 G6) fun x7 =>
  bP (bd Q q 41 z41 [(0, 0, 1), (1, 1, 1), (2, 2, 1)] [(.int .i64 8), (.int .i64 9), (.int .i64 2)]) fun x8 =>
  bP (bd Q q 43 z43 [(0, 0, 6), (1, 6, 3), (2, 9, 1)] [x7, x8, (.int .i64 11)]) fun x9 =>
  bS (al Q q 43 z43 G6) fun x10 G11 =>
  bP (st Q q 43 10 x10 x9 G11) fun G12 =>
  bP (lda Q q 43 10 x10 G12) fun x13 =>
  bP (bd Q q 45 z45 [(0, 0, 1), (1, 1, 1), (2, 2, 1), (3, 3, 10)] [(.int .i64 16), (.int .i64 14), (.int .i64 2), x13]) fun x14 =>
  bP (st Q q 45 13 x0 x14 G12) fun G15 =>
  bP (lda Q q 45 13 x0 G15) fun x16 =>
  some (x16, G15)
theorem m51 {e : Ex} {E : Ev} (h : ExLe Q e E) (G : GS) : Ref (s51 true e  G) (s51 false (Ex.of E)  G) := by
  unfold s51
  exact Ref.go
theorem f51 {orc : FuncId → Bool} {e : Ex} (h : ExLe Q e (E orc)) (ho : orc 51 = false) (G : GS) : Ref (s51 true e  G) ((E orc).cl 51 [] G) :=
  fun r hr => cl_sxE_some Q orc (vs := []) G Tryz.func51 (by kernel_rfl) (by kernel_rfl) ho (by kernel_rfl) (by kernel_rfl) (by kernel_rfl) (m51 h  G r hr)
noncomputable def b52_0 (q : Bool) (e : Ex) (lp : Env → GS → Option (Exit × Env × GS)) (τ : Env) (G : GS) : Option (Exit × Env × GS) :=
  bV q (τ 0) fun a0_ =>
  bV q (τ 1) fun a1_ =>
  bV q (τ 5) fun a5_ =>
  bV q (τ 8) fun a8_ =>
  bV q (τ 9) fun a9_ =>
  bV q (τ 10) fun a10_ =>
  bP (bn Q q .lss 3 (.tmp 10) (.tmp 9) a10_ a9_) fun x0 =>
  ifV x0 (
  bP (ias Q q 22 1 a8_ a10_) fun x1 =>
  bP (ld Q q 23 x1 G) fun x2 =>
  bP (bn Q q .lss 3 (.tmp 15) (.const (.int .i64 0)) a5_ (.int .i64 0)) fun x3 =>
  bS (gd x3 false (some (a1_, G)) G) fun x4 G5 =>
  bS (gd x3 false (some (x2, G5)) G5) fun x6 G7 =>
  bS (gd x3 false (some (a0_, G7)) G7) fun x8 G9 =>
  bS (gd x3 false (some (a5_, G9)) G9) fun x10 G11 =>
  bS (gd x3 false (bP (ias Q q 22 1 x8 x10) fun y => some (y, G11)) G11) fun x12 G13 =>
  bS (gd x3 false (bP (ld Q q 23 x12 G13) fun y => some (y, G13)) G13) fun x14 G15 =>
  bS (gd x3 false (bS (cValue e.ev x4 [x6, x14] G15) fun y G => some (y, G)) G15) fun x16 G17 =>
  bS (gd x3 false (bP (bn Q q .gtr 3 (.tmp 24) (.const (.int .i64 0)) x16 (.int .i64 0)) fun y => some (y, G17)) G17) fun x18 G19 =>
  bP (pickV x3 (.bool true) x18) fun x20 =>
  ifV x20 (
  bP (bn Q q .add 3 (.tmp 10) (.const (.int .i64 1)) a10_ (.int .i64 1)) fun x21 =>
  lp (tu τ [(0, a0_), (1, a1_), (5, a10_), (8, a8_), (9, a9_), (10, x21), (6, a10_), (7, x2), (11, x0), (12, a10_), (13, x1), (14, x2), (15, a5_), (16, x3), (17, x3), (18, x4), (19, x6), (20, x8), (21, x10), (22, x12), (23, x14), (24, x16), (25, x18), (26, x20), (27, a10_), (28, x21)]) G19) (
  bP (bn Q q .add 3 (.tmp 10) (.const (.int .i64 1)) a10_ (.int .i64 1)) fun x22 =>
  lp (tu τ [(0, a0_), (1, a1_), (5, a5_), (8, a8_), (9, a9_), (10, x22), (6, a10_), (7, x2), (11, x0), (12, a10_), (13, x1), (14, x2), (15, a5_), (16, x3), (17, x3), (18, x4), (19, x6), (20, x8), (21, x10), (22, x12), (23, x14), (24, x16), (25, x18), (26, x20), (28, x22)]) G19)) (
  some ((.exit 0), clq q 30 (tu τ [(0, a0_), (1, a1_), (5, a5_), (8, a8_), (9, a9_), (10, a10_), (11, x0)]), G))
theorem mb52_0 {e : Ex} {E : Ev} (h : ExLe Q e E) {lp lp' : Env → GS → Option (Exit × Env × GS)} (hlp : LpLe lp lp') (τ : Env) (G : GS) : Ref (b52_0 true e lp τ G) (b52_0 false (Ex.of E) lp' τ G) := by
  unfold b52_0
  exact Ref.go
theorem l52_0 {orc : FuncId → Bool} {e : Ex} (h : ExLe Q e (E orc)) (lp : Env → GS → Option (Exit × Env × GS)) (hlp : ∀ τ G, Ref (lp τ G) (mapE ((E orc).lp (subAt [1, 1, 0, 1, 0, 0] (bodyOf Tryz.f52)) (lst 30 τ) G))) (T : List Value) (G : GS) (hT : T.length = 30) : Ref (b52_0 true e lp (nth undef T) G) (mapE ((E orc).lp (subAt [1, 1, 0, 1, 0, 0] (bodyOf Tryz.f52)) T G)) :=
  fun r hr => lp_sxM Q orc G hT (by kernel_rfl) (mb52_0 h ⟨hlp⟩ _ _ r hr)
/-- coxswain/run.greatest[uint64] -/
noncomputable def s52 (q : Bool) (e : Ex) (v0 v1 : Value) (G : GS) : Option (Value × GS) :=
  bP (ln Q q 22 v0) fun x0 =>
  bL q e 52 0 (subAt [1, 1, 0, 1, 0, 0] (bodyOf Tryz.f52)) 30 (tu (nth undef [v0, v1]) [(4, (.int .i64 0)), (5, (.int .i64 (-1))), (8, v0), (9, x0), (10, (.int .i64 0))]) G fun e1 t2 G3 =>
  bV q (t2 5) fun t2x5_ =>
  ifE e1 (.exit 0) (
  some (t2x5_, G3)) (none)
theorem m52 {e : Ex} {E : Ev} (h : ExLe Q e E) (v0 v1 : Value) (G : GS) : Ref (s52 true e v0 v1 G) (s52 false (Ex.of E) v0 v1 G) := by
  unfold s52
  exact Ref.go
theorem f52 {orc : FuncId → Bool} {e : Ex} (h : ExLe Q e (E orc)) (v0 v1 : Value) (G : GS) : Ref (s52 true e v0 v1 G) ((E orc).cl 52 [v0, v1] G) :=
  fun r hr => cl_sxE_some Q orc (vs := [v0, v1]) G Tryz.func52 (by kernel_rfl) (by kernel_rfl) (by kernel_rfl) (by kernel_rfl) (by kernel_rfl) (by kernel_rfl) (m52 h v0 v1 G r hr)
/-- cmp.Compare[uint64] -/
noncomputable def s53 (q : Bool) (e : Ex) (v0 v1 : Value) (G : GS) : Option (Value × GS) :=
  bS (e.ev.cl 93 [v0] G) fun x0 G1 =>
  bS (e.ev.cl 93 [v1] G1) fun x2 G3 =>
  ifV x0 (
  ifV x2 (
  some ((.int .i64 0), G3)) (
  some ((.int .i64 (-1)), G3))) (
  ifV x2 (
  some ((.int .i64 1), G3)) (
  bP (bn Q q .lss 23 (.tmp 14) (.tmp 15) v0 v1) fun x4 =>
  ifV x4 (
  some ((.int .i64 (-1)), G3)) (
  bP (bn Q q .gtr 23 (.tmp 17) (.tmp 18) v0 v1) fun x5 =>
  ifV x5 (
  some ((.int .i64 1), G3)) (
  some ((.int .i64 0), G3)))))
theorem m53 {e : Ex} {E : Ev} (h : ExLe Q e E) (v0 v1 : Value) (G : GS) : Ref (s53 true e v0 v1 G) (s53 false (Ex.of E) v0 v1 G) := by
  unfold s53
  exact Ref.go
theorem f53 {orc : FuncId → Bool} {e : Ex} (h : ExLe Q e (E orc)) (v0 v1 : Value) (G : GS) : Ref (s53 true e v0 v1 G) ((E orc).cl 53 [v0, v1] G) :=
  fun r hr => cl_sxE_some Q orc (vs := [v0, v1]) G Tryz.func53 (by kernel_rfl) (by kernel_rfl) (by kernel_rfl) (by kernel_rfl) (by kernel_rfl) (by kernel_rfl) (m53 h v0 v1 G r hr)
/-- coxswain/tower.sound -/
noncomputable def s56 (q : Bool) (e : Ex) (v0 : Value) (G : GS) : Option (Value × GS) :=
  bS (bx q v0 G) fun x0 G1 =>
  bP (fa Q q 45 3 3 x0) fun x2 =>
  bP (fa Q q 43 0 0 x2) fun x3 =>
  bP (fa Q q 39 0 0 x3) fun x4 =>
  bP (fa Q q 37 2 2 x4) fun x5 =>
  bP (ld Q q 3 x5 G1) fun x6 =>
  bP (fa Q q 45 2 2 x0) fun x7 =>
  bP (ld Q q 3 x7 G1) fun x8 =>
  bP (bn Q q .geq 3 (.tmp 10) (.const (.int .i64 1)) x8 (.int .i64 1)) fun x9 =>
  bS (gd x9 true (bP (fa Q q 45 2 2 x0) fun y => some (y, G1)) G1) fun x10 G11 =>
  bS (gd x9 true (bP (ld Q q 3 x10 G11) fun y => some (y, G11)) G11) fun x12 G13 =>
  bS (gd x9 true (bP (bn Q q .leq 3 (.tmp 14) (.const (.int .i64 4)) x12 (.int .i64 4)) fun y => some (y, G13)) G13) fun x14 G15 =>
  bP (pickV x9 x14 (.bool false)) fun x16 =>
  bS (gd x16 true (some (x6, G15)) G15) fun x17 G18 =>
  bS (gd x16 true (bP (bn Q q .geq 3 (.tmp 18) (.const (.int .i64 1)) x17 (.int .i64 1)) fun y => some (y, G18)) G18) fun x19 G20 =>
  bP (pickV x16 x19 (.bool false)) fun x21 =>
  bS (gd x21 true (some (x6, G20)) G20) fun x22 G23 =>
  bS (gd x21 true (bP (bn Q q .leq 3 (.tmp 22) (.const (.int .i64 128)) x22 (.int .i64 128)) fun y => some (y, G23)) G23) fun x24 G25 =>
  bP (pickV x21 x24 (.bool false)) fun x26 =>
  bS (gd x26 true (bP (fa Q q 45 0 0 x0) fun y => some (y, G25)) G25) fun x27 G28 =>
  bS (gd x26 true (bP (ld Q q 3 x27 G28) fun y => some (y, G28)) G28) fun x29 G30 =>
  bS (gd x26 true (bP (bn Q q .geq 3 (.tmp 27) (.const (.int .i64 0)) x29 (.int .i64 0)) fun y => some (y, G30)) G30) fun x31 G32 =>
  bP (pickV x26 x31 (.bool false)) fun x33 =>
  bS (gd x33 true (bP (fa Q q 45 0 0 x0) fun y => some (y, G32)) G32) fun x34 G35 =>
  bS (gd x33 true (bP (ld Q q 3 x34 G35) fun y => some (y, G35)) G35) fun x36 G37 =>
  bS (gd x33 true (bP (bn Q q .lss 3 (.tmp 32) (.const (.int .i64 4096)) x36 (.int .i64 4096)) fun y => some (y, G37)) G37) fun x38 G39 =>
  bP (pickV x33 x38 (.bool false)) fun x40 =>
  bS (gd x40 true (bP (fa Q q 45 1 1 x0) fun y => some (y, G39)) G39) fun x41 G42 =>
  bS (gd x40 true (bP (ld Q q 3 x41 G42) fun y => some (y, G42)) G42) fun x43 G44 =>
  bS (gd x40 true (bP (bn Q q .geq 3 (.tmp 37) (.const (.int .i64 0)) x43 (.int .i64 0)) fun y => some (y, G44)) G44) fun x45 G46 =>
  bP (pickV x40 x45 (.bool false)) fun x47 =>
  bS (gd x47 true (bP (fa Q q 45 1 1 x0) fun y => some (y, G46)) G46) fun x48 G49 =>
  bS (gd x47 true (bP (ld Q q 3 x48 G49) fun y => some (y, G49)) G49) fun x50 G51 =>
  bS (gd x47 true (bP (bn Q q .lss 3 (.tmp 42) (.const (.int .i64 4096)) x50 (.int .i64 4096)) fun y => some (y, G51)) G51) fun x52 G53 =>
  bP (pickV x47 x52 (.bool false)) fun x54 =>
  some (x54, G53)
theorem m56 {e : Ex} {E : Ev} (h : ExLe Q e E) (v0 : Value) (G : GS) : Ref (s56 true e v0 G) (s56 false (Ex.of E) v0 G) := by
  unfold s56
  exact Ref.go
theorem f56 {orc : FuncId → Bool} {e : Ex} (h : ExLe Q e (E orc)) (v0 : Value) (G : GS) : Ref (s56 true e v0 G) ((E orc).cl 56 [v0] G) :=
  fun r hr => cl_sxE_some Q orc (vs := [v0]) G Tryz.func56 (by kernel_rfl) (by kernel_rfl) (by kernel_rfl) (by kernel_rfl) (by kernel_rfl) (by kernel_rfl) (m56 h v0 G r hr)
noncomputable def b57_0 (q : Bool) (e : Ex) (lp : Env → GS → Option (Exit × Env × GS)) (τ : Env) (G : GS) : Option (Exit × Env × GS) :=
  bV q (τ 1) fun a1_ =>
  bV q (τ 2) fun a2_ =>
  bV q (τ 13) fun a13_ =>
  bP (bn Q q .lss 3 (.tmp 13) (.const (.int .i64 3)) a13_ (.int .i64 3)) fun x0 =>
  ifV x0 (
  bP (lda Q q 43 10 a2_ G) fun x1 =>
  bS (e.ev.cl 98 [a13_, x1] G) fun x2 G3 =>
  bP (fd Q q 37 0 0 x2) fun x4 =>
  bS (e.ev.cl 23 [a1_, x4, (.int .u64 0)] G3) fun x5 G6 =>
  bP (bn Q q .add 3 (.tmp 13) (.const (.int .i64 1)) a13_ (.int .i64 1)) fun x7 =>
  lp (tu τ [(1, a1_), (2, a2_), (13, x7), (4, a13_), (14, x0), (15, a13_), (16, a1_), (17, a13_), (18, x1), (19, x2), (20, x4), (21, x5), (22, x7)]) G6) (
  some ((.exit 0), clq q 23 (tu τ [(1, a1_), (2, a2_), (13, a13_), (14, x0)]), G))
theorem mb57_0 {e : Ex} {E : Ev} (h : ExLe Q e E) {lp lp' : Env → GS → Option (Exit × Env × GS)} (hlp : LpLe lp lp') (τ : Env) (G : GS) : Ref (b57_0 true e lp τ G) (b57_0 false (Ex.of E) lp' τ G) := by
  unfold b57_0
  exact Ref.go
theorem l57_0 {orc : FuncId → Bool} {e : Ex} (h : ExLe Q e (E orc)) (lp : Env → GS → Option (Exit × Env × GS)) (hlp : ∀ τ G, Ref (lp τ G) (mapE ((E orc).lp (subAt [1, 1, 1, 1, 0, 0] (bodyOf Tryz.f57)) (lst 23 τ) G))) (T : List Value) (G : GS) (hT : T.length = 23) : Ref (b57_0 true e lp (nth undef T) G) (mapE ((E orc).lp (subAt [1, 1, 1, 1, 0, 0] (bodyOf Tryz.f57)) T G)) :=
  fun r hr => lp_sxM Q orc G hT (by kernel_rfl) (mb57_0 h ⟨hlp⟩ _ _ r hr)
/-- coxswain/limbo.Fill -/
noncomputable def s57 (q : Bool) (e : Ex) (v0 v1 : Value) (G : GS) : Option (Value × GS) :=
  bS (bx q v0 G) fun x0 G1 =>
  bP (fa Q q 43 0 0 x0) fun x2 =>
  bP (lda Q q 39 6 x2 G1) fun x3 =>
  bS (e.ev.cl 96 [x3, v1] G1) fun x4 G5 =>
  bP (fa Q q 43 1 6 x0) fun x6 =>
  bP (lda Q q 41 3 x6 G5) fun x7 =>
  bS (e.ev.cl 97 [x7, v1] G5) fun x8 G9 =>
  bL q e 57 0 (subAt [1, 1, 1, 1, 0, 0] (bodyOf Tryz.f57)) 23 (tu (nth undef [v0, v1]) [(2, x0), (5, x2), (6, x3), (7, v1), (8, x4), (9, x6), (10, x7), (11, v1), (12, x8), (13, (.int .i64 0))]) G9 fun e10 t11 G12 =>
  ifE e10 (.exit 0) (
  some (.tuple #[], G12)) (none)
theorem m57 {e : Ex} {E : Ev} (h : ExLe Q e E) (v0 v1 : Value) (G : GS) : Ref (s57 true e v0 v1 G) (s57 false (Ex.of E) v0 v1 G) := by
  unfold s57
  exact Ref.go
theorem f57 {orc : FuncId → Bool} {e : Ex} (h : ExLe Q e (E orc)) (v0 v1 : Value) (G : GS) : Ref (s57 true e v0 v1 G) ((E orc).cl 57 [v0, v1] G) :=
  fun r hr => cl_sxE_some Q orc (vs := [v0, v1]) G Tryz.func57 (by kernel_rfl) (by kernel_rfl) (by kernel_rfl) (by kernel_rfl) (by kernel_rfl) (by kernel_rfl) (m57 h v0 v1 G r hr)
/-- coxswain/run.sized -/
noncomputable def s58 (q : Bool) (e : Ex) (v0 : Value) (G : GS) : Option (Value × GS) :=
  bS (bx q v0 G) fun x0 G1 =>
  bP (fa Q q 49 2 2 x0) fun x2 =>
  bP (ld Q q 3 x2 G1) fun x3 =>
  bP (bn Q q .geq 3 (.tmp 4) (.const (.int .i64 1)) x3 (.int .i64 1)) fun x4 =>
  bS (gd x4 true (bP (fa Q q 49 2 2 x0) fun y => some (y, G1)) G1) fun x5 G6 =>
  bS (gd x4 true (bP (ld Q q 3 x5 G6) fun y => some (y, G6)) G6) fun x7 G8 =>
  bS (gd x4 true (bP (bn Q q .leq 3 (.tmp 8) (.const (.int .i64 64)) x7 (.int .i64 64)) fun y => some (y, G8)) G8) fun x9 G10 =>
  bP (pickV x4 x9 (.bool false)) fun x11 =>
  some (x11, G10)
theorem m58 {e : Ex} {E : Ev} (h : ExLe Q e E) (v0 : Value) (G : GS) : Ref (s58 true e v0 G) (s58 false (Ex.of E) v0 G) := by
  unfold s58
  exact Ref.go
theorem f58 {orc : FuncId → Bool} {e : Ex} (h : ExLe Q e (E orc)) (v0 : Value) (G : GS) : Ref (s58 true e v0 G) ((E orc).cl 58 [v0] G) :=
  fun r hr => cl_sxE_some Q orc (vs := [v0]) G Tryz.func58 (by kernel_rfl) (by kernel_rfl) (by kernel_rfl) (by kernel_rfl) (by kernel_rfl) (by kernel_rfl) (m58 h v0 G r hr)
/-- coxswain/ready.NewPut -/
noncomputable def s59 (q : Bool) (e : Ex) (v0 v1 v2 v3 v4 : Value) (G : GS) : Option (Value × GS) :=
  bS (bx q v0 G) fun x0 G1 =>
  bP (lda Q q 45 13 x0 G1) fun x2 =>
  bS (e.ev.cl 99 [x2, v1] G1) fun x3 G4 =>
  bP (bd Q q 169 z169 [(0, 0, 19), (1, 19, 1), (2, 20, 1), (3, 21, 1)] [x3, v2, v3, v4]) fun x5 =>
  bS (bx q x5 G4) fun x6 G7 =>
  bP (pNil x6) fun x8 =>
  bP (fa Q q 169 0 0 x8) fun x9 =>
  bP (fa Q q 166 6 18 x9) fun x10 =>
  bP (ld Q q 51 x10 G7) fun x11 =>
  bP (bn Q q .eql 51 (.tmp 24) (.const (.int .i64 0)) x11 (.int .i64 0)) fun x12 =>
  bS (gd x12 true (some (v2, G7)) G7) fun x13 G14 =>
  bS (gd x12 true (bP (bn Q q .eql 23 (.tmp 27) (.const (.int .u64 18446744073709551615)) x13 (.int .u64 18446744073709551615)) fun y => some (y, G14)) G14) fun x15 G16 =>
  bS (gd x12 true (some (x15, G16)) G16) fun x17 G18 =>
  bS (gd x17 false (some (v3, G18)) G18) fun x19 G20 =>
  bS (gd x17 false (bP (bn Q q .lss 3 (.tmp 30) (.const (.int .i64 0)) x19 (.int .i64 0)) fun y => some (y, G20)) G20) fun x21 G22 =>
  bS (gd x12 true (bP (pickV x17 (.bool true) x21) fun y => some (y, G22)) G22) fun x23 G24 =>
  bS (gd x12 true (some (x23, G24)) G24) fun x25 G26 =>
  bS (gd x25 false (some (v3, G26)) G26) fun x27 G28 =>
  bS (gd x25 false (bP (bn Q q .gtr 3 (.tmp 34) (.const (.int .i64 65534)) x27 (.int .i64 65534)) fun y => some (y, G28)) G28) fun x29 G30 =>
  bS (gd x12 true (bP (pickV x25 (.bool true) x29) fun y => some (y, G30)) G30) fun x31 G32 =>
  bS (gd x12 true (some (x31, G32)) G32) fun x33 G34 =>
  bS (gd x33 false (some (v4, G34)) G34) fun x35 G36 =>
  bS (gd x33 false (bP (bn Q q .lss 3 (.tmp 38) (.const (.int .i64 1)) x35 (.int .i64 1)) fun y => some (y, G36)) G36) fun x37 G38 =>
  bS (gd x12 true (bP (pickV x33 (.bool true) x37) fun y => some (y, G38)) G38) fun x39 G40 =>
  bS (gd x12 true (some (x39, G40)) G40) fun x41 G42 =>
  bS (gd x41 false (some (v4, G42)) G42) fun x43 G44 =>
  bS (gd x41 false (bP (fa Q q 45 2 2 x0) fun y => some (y, G44)) G44) fun x45 G46 =>
  bS (gd x41 false (bP (ld Q q 3 x45 G46) fun y => some (y, G46)) G46) fun x47 G48 =>
  bS (gd x41 false (bP (bn Q q .gtr 3 (.tmp 42) (.tmp 44) x43 x47) fun y => some (y, G48)) G48) fun x49 G50 =>
  bS (gd x12 true (bP (pickV x41 (.bool true) x49) fun y => some (y, G50)) G50) fun x51 G52 =>
  bP (pickV x12 x51 (.bool false)) fun x53 =>
  ifV x53 (
  bP (pNil x6) fun x54 =>
  bP (fa Q q 169 0 0 x54) fun x55 =>
  bP (fa Q q 166 6 18 x55) fun x56 =>
  bP (st Q q 51 1 x56 (.int .i64 3) G52) fun G57 =>
  bP (pNil x6) fun x58 =>
  bP (fa Q q 169 0 0 x58) fun x59 =>
  bP (fa Q q 166 6 18 x59) fun x60 =>
  bP (ld Q q 51 x60 G57) fun x61 =>
  bP (bn Q q .eql 51 (.tmp 56) (.const (.int .i64 0)) x61 (.int .i64 0)) fun x62 =>
  ifV x62 (
  bP (pNil x6) fun x63 =>
  bP (fa Q q 169 0 0 x63) fun x64 =>
  bS (e.ev.cl 100 [x64] G57) fun x65 G66 =>
  bS (e.ev.cl 101 [x6] G66) fun x67 G68 =>
  bS (bs Q q 164 2 (rep z171 2) 1 [(0, 0, 1), (1, 1, 1)] [x65, x67] G68) fun x69 G70 =>
  bP (pNil x6) fun x71 =>
  bP (fa Q q 169 0 0 x71) fun x72 =>
  bP (fa Q q 166 4 16 x72) fun x73 =>
  bP (st Q q 164 1 x73 x69 G70) fun G74 =>
  some (x6, G74)) (
  some (x6, G57))) (
  bP (pNil x6) fun x75 =>
  bP (fa Q q 169 0 0 x75) fun x76 =>
  bP (fa Q q 166 6 18 x76) fun x77 =>
  bP (ld Q q 51 x77 G52) fun x78 =>
  bP (bn Q q .eql 51 (.tmp 56) (.const (.int .i64 0)) x78 (.int .i64 0)) fun x79 =>
  ifV x79 (
  bP (pNil x6) fun x80 =>
  bP (fa Q q 169 0 0 x80) fun x81 =>
  bS (e.ev.cl 100 [x81] G52) fun x82 G83 =>
  bS (e.ev.cl 101 [x6] G83) fun x84 G85 =>
  bS (bs Q q 164 2 (rep z171 2) 1 [(0, 0, 1), (1, 1, 1)] [x82, x84] G85) fun x86 G87 =>
  bP (pNil x6) fun x88 =>
  bP (fa Q q 169 0 0 x88) fun x89 =>
  bP (fa Q q 166 4 16 x89) fun x90 =>
  bP (st Q q 164 1 x90 x86 G87) fun G91 =>
  some (x6, G91)) (
  some (x6, G52)))
theorem m59 {e : Ex} {E : Ev} (h : ExLe Q e E) (v0 v1 v2 v3 v4 : Value) (G : GS) : Ref (s59 true e v0 v1 v2 v3 v4 G) (s59 false (Ex.of E) v0 v1 v2 v3 v4 G) := by
  unfold s59
  exact Ref.go
theorem f59 {orc : FuncId → Bool} {e : Ex} (h : ExLe Q e (E orc)) (v0 v1 v2 v3 v4 : Value) (G : GS) : Ref (s59 true e v0 v1 v2 v3 v4 G) ((E orc).cl 59 [v0, v1, v2, v3, v4] G) :=
  fun r hr => cl_sxE_some Q orc (vs := [v0, v1, v2, v3, v4]) G Tryz.func59 (by kernel_rfl) (by kernel_rfl) (by kernel_rfl) (by kernel_rfl) (by kernel_rfl) (by kernel_rfl) (m59 h v0 v1 v2 v3 v4 G r hr)
/-- (*coxswain/ready.Put).Step -/
noncomputable def s60 (q : Bool) (e : Ex) (v0 v1 : Value) (G : GS) : Option (Value × GS) :=
  bP (ep Q q false 104 (.tmp 5) (.const (.pointer none)) v0 (.pointer none)) fun x0 =>
  bS (gd x0 false (some (v0, G)) G) fun x1 G2 =>
  bS (gd x0 false (bP (pNil x1) fun y => some (y, G2)) G2) fun x3 G4 =>
  bS (gd x0 false (bP (fa Q q 169 0 0 x3) fun y => some (y, G4)) G4) fun x5 G6 =>
  bS (gd x0 false (some (v1, G6)) G6) fun x7 G8 =>
  bS (gd x0 false (bS (e.ev.cl 102 [x5, x7] G8) fun y G => some (y, G)) G8) fun x9 G10 =>
  bP (pickV x0 (.bool true) x9) fun x11 =>
  some (x11, G10)
theorem m60 {e : Ex} {E : Ev} (h : ExLe Q e E) (v0 v1 : Value) (G : GS) : Ref (s60 true e v0 v1 G) (s60 false (Ex.of E) v0 v1 G) := by
  unfold s60
  exact Ref.go
theorem f60 {orc : FuncId → Bool} {e : Ex} (h : ExLe Q e (E orc)) (v0 v1 : Value) (G : GS) : Ref (s60 true e v0 v1 G) ((E orc).cl 60 [v0, v1] G) :=
  fun r hr => cl_sxE_some Q orc (vs := [v0, v1]) G Tryz.func60 (by kernel_rfl) (by kernel_rfl) (by kernel_rfl) (by kernel_rfl) (by kernel_rfl) (by kernel_rfl) (m60 h v0 v1 G r hr)
/-- (*coxswain/ready.Put).Err -/
noncomputable def s61 (q : Bool) (e : Ex) (v0 : Value) (G : GS) : Option (Value × GS) :=
  bP (ep Q q false 104 (.tmp 3) (.const (.pointer none)) v0 (.pointer none)) fun x0 =>
  ifV x0 (
  some ((.int .i64 1), G)) (
  bP (pNil v0) fun x1 =>
  bP (fa Q q 169 0 0 x1) fun x2 =>
  bS (e.ev.cl 103 [x2] G) fun x3 G4 =>
  some (x3, G4))
theorem m61 {e : Ex} {E : Ev} (h : ExLe Q e E) (v0 : Value) (G : GS) : Ref (s61 true e v0 G) (s61 false (Ex.of E) v0 G) := by
  unfold s61
  exact Ref.go
theorem f61 {orc : FuncId → Bool} {e : Ex} (h : ExLe Q e (E orc)) (v0 : Value) (G : GS) : Ref (s61 true e v0 G) ((E orc).cl 61 [v0] G) :=
  fun r hr => cl_sxE_some Q orc (vs := [v0]) G Tryz.func61 (by kernel_rfl) (by kernel_rfl) (by kernel_rfl) (by kernel_rfl) (by kernel_rfl) (by kernel_rfl) (m61 h v0 G r hr)
/-- (*coxswain/cells.Mem).cell -/
noncomputable def s62 (q : Bool) (e : Ex) (v0 v1 : Value) (G : GS) : Option (Value × GS) :=
  bP (ep Q q false 50 (.tmp 5) (.const (.pointer none)) v0 (.pointer none)) fun x0 =>
  bS (gd x0 false (some (v0, G)) G) fun x1 G2 =>
  bS (gd x0 false (bP (pNil x1) fun y => some (y, G2)) G2) fun x3 G4 =>
  bS (gd x0 false (bP (fa Q q 100 0 0 x3) fun y => some (y, G4)) G4) fun x5 G6 =>
  bS (gd x0 false (bP (ld Q q 95 x5 G6) fun y => some (y, G6)) G6) fun x7 G8 =>
  bS (gd x0 false (bP (ep Q q false 95 (.tmp 11) (.const (.pointer none)) x7 (.pointer none)) fun y => some (y, G8)) G8) fun x9 G10 =>
  bP (pickV x0 (.bool true) x9) fun x11 =>
  bS (gd x11 false (some (v1, G10)) G10) fun x12 G13 =>
  bS (gd x11 false (bP (bn Q q .lss 3 (.tmp 15) (.const (.int .i64 0)) x12 (.int .i64 0)) fun y => some (y, G13)) G13) fun x14 G15 =>
  bP (pickV x11 (.bool true) x14) fun x16 =>
  bS (gd x16 false (some (v1, G15)) G15) fun x17 G18 =>
  bS (gd x16 false (some (v0, G18)) G18) fun x19 G20 =>
  bS (gd x16 false (bP (pNil x19) fun y => some (y, G20)) G20) fun x21 G22 =>
  bS (gd x16 false (bP (fa Q q 100 1 1 x21) fun y => some (y, G22)) G22) fun x23 G24 =>
  bS (gd x16 false (bP (ld Q q 3 x23 G24) fun y => some (y, G24)) G24) fun x25 G26 =>
  bS (gd x16 false (bP (bn Q q .geq 3 (.tmp 19) (.tmp 23) x17 x25) fun y => some (y, G26)) G26) fun x27 G28 =>
  bP (pickV x16 (.bool true) x27) fun x29 =>
  ifV x29 (
  some ((.pointer none), G28)) (
  bP (pNil v0) fun x30 =>
  bP (fa Q q 100 0 0 x30) fun x31 =>
  bP (ld Q q 95 x31 G28) fun x32 =>
  bP (pNil x32) fun x33 =>
  bP (iaa Q q 98 4096 1 x33 v1) fun x34 =>
  some (x34, G28))
theorem m62 {e : Ex} {E : Ev} (h : ExLe Q e E) (v0 v1 : Value) (G : GS) : Ref (s62 true e v0 v1 G) (s62 false (Ex.of E) v0 v1 G) := by
  unfold s62
  exact Ref.go
theorem f62 {orc : FuncId → Bool} {e : Ex} (h : ExLe Q e (E orc)) (v0 v1 : Value) (G : GS) : Ref (s62 true e v0 v1 G) ((E orc).cl 62 [v0, v1] G) :=
  fun r hr => cl_sxE_some Q orc (vs := [v0, v1]) G Tryz.func62 (by kernel_rfl) (by kernel_rfl) (by kernel_rfl) (by kernel_rfl) (by kernel_rfl) (by kernel_rfl) (m62 h v0 v1 G r hr)
/-- (*coxswain/cells.Mem).do -/
noncomputable def s63 (q : Bool) (e : Ex) (v0 v1 v2 v3 v4 : Value) (G : GS) : Option (Value × GS) :=
  bS (al Q q 82 z82 G) fun x0 G1 =>
  bP (ep Q q false 50 (.tmp 13) (.const (.pointer none)) v0 (.pointer none)) fun x2 =>
  bS (gd x2 false (some (v0, G1)) G1) fun x3 G4 =>
  bS (gd x2 false (bP (pNil x3) fun y => some (y, G4)) G4) fun x5 G6 =>
  bS (gd x2 false (bP (fa Q q 100 0 0 x5) fun y => some (y, G6)) G6) fun x7 G8 =>
  bS (gd x2 false (bP (ld Q q 95 x7 G8) fun y => some (y, G8)) G8) fun x9 G10 =>
  bS (gd x2 false (bP (ep Q q false 95 (.tmp 19) (.const (.pointer none)) x9 (.pointer none)) fun y => some (y, G10)) G10) fun x11 G12 =>
  bP (pickV x2 (.bool true) x11) fun x13 =>
  ifV x13 (
  bP (bd Q q 82 z82 [] []) fun x14 =>
  bP (st Q q 82 5 x0 x14 G12) fun G15 =>
  bP (lda Q q 82 5 x0 G15) fun x16 =>
  some (x16, G15)) (
  bP (pNil v0) fun x17 =>
  bP (fa Q q 100 3 7 x17) fun x18 =>
  bP (ld Q q 3 x18 G12) fun x19 =>
  bP (bn Q q .add 3 (.tmp 26) (.const (.int .i64 1)) x19 (.int .i64 1)) fun x20 =>
  bP (pNil v0) fun x21 =>
  bP (fa Q q 100 3 7 x21) fun x22 =>
  bP (st Q q 3 1 x22 x20 G12) fun G23 =>
  bP (bd Q q 82 z82 [(0, 0, 1), (1, 1, 1)] [v1, v2]) fun x24 =>
  bP (pNil v0) fun x25 =>
  bP (fa Q q 100 2 2 x25) fun x26 =>
  bP (st Q q 82 5 x26 x24 G23) fun G27 =>
  bS (e.ev.cl 104 [v3] G27) fun x28 G29 =>
  ifV x28 (
  bS (cValue e.ev v4 [] G29) fun x30 G31 =>
  bP (pExtract x30 0) fun x32 =>
  bP (pExtract x30 1) fun x33 =>
  bP (pNil v3) fun x34 =>
  bP (ld Q q 96 x34 G31) fun x35 =>
  bP (pNil v0) fun x36 =>
  bP (fa Q q 100 2 2 x36) fun x37 =>
  bP (fa Q q 82 2 2 x37) fun x38 =>
  bP (st Q q 23 1 x38 x35 G31) fun G39 =>
  bP (pNil v0) fun x40 =>
  bP (fa Q q 100 2 2 x40) fun x41 =>
  bP (fa Q q 82 3 3 x41) fun x42 =>
  bP (st Q q 23 1 x42 x32 G39) fun G43 =>
  bP (pNil v0) fun x44 =>
  bP (fa Q q 100 2 2 x44) fun x45 =>
  bP (fa Q q 82 4 4 x45) fun x46 =>
  bP (st Q q 4 1 x46 x33 G43) fun G47 =>
  bP (pNil v3) fun x48 =>
  bP (st Q q 96 1 x48 x32 G47) fun G49 =>
  bP (pNil v0) fun x50 =>
  bP (fa Q q 100 2 2 x50) fun x51 =>
  bP (lda Q q 82 5 x51 G49) fun x52 =>
  bP (st Q q 82 5 x0 x52 G49) fun G53 =>
  bP (lda Q q 82 5 x0 G53) fun x54 =>
  some (x54, G53)) (
  bP (pNil v0) fun x55 =>
  bP (fa Q q 100 2 2 x55) fun x56 =>
  bP (lda Q q 82 5 x56 G29) fun x57 =>
  bP (st Q q 82 5 x0 x57 G29) fun G58 =>
  bP (lda Q q 82 5 x0 G58) fun x59 =>
  some (x59, G58)))
theorem m63 {e : Ex} {E : Ev} (h : ExLe Q e E) (v0 v1 v2 v3 v4 : Value) (G : GS) : Ref (s63 true e v0 v1 v2 v3 v4 G) (s63 false (Ex.of E) v0 v1 v2 v3 v4 G) := by
  unfold s63
  exact Ref.go
theorem f63 {orc : FuncId → Bool} {e : Ex} (h : ExLe Q e (E orc)) (v0 v1 v2 v3 v4 : Value) (G : GS) : Ref (s63 true e v0 v1 v2 v3 v4 G) ((E orc).cl 63 [v0, v1, v2, v3, v4] G) :=
  fun r hr => cl_sxE_some Q orc (vs := [v0, v1, v2, v3, v4]) G Tryz.func63 (by kernel_rfl) (by kernel_rfl) (by kernel_rfl) (by kernel_rfl) (by kernel_rfl) (by kernel_rfl) (m63 h v0 v1 v2 v3 v4 G r hr)
/-- (coxswain/cells.deed).store -/
noncomputable def s64 (q : Bool) (e : Ex) (v0 : Value) (G : GS) : Option (Value × GS) :=
  bS (bx q v0 G) fun x0 G1 =>
  bP (fa Q q 109 1 1 x0) fun x2 =>
  bP (ld Q q 23 x2 G1) fun x3 =>
  some (.tuple #[x3, (.bool true)], G1)
theorem m64 {e : Ex} {E : Ev} (h : ExLe Q e E) (v0 : Value) (G : GS) : Ref (s64 true e v0 G) (s64 false (Ex.of E) v0 G) := by
  unfold s64
  exact Ref.go
theorem f64 {orc : FuncId → Bool} {e : Ex} (h : ExLe Q e (E orc)) (v0 : Value) (G : GS) : Ref (s64 true e v0 G) ((E orc).cl 64 [v0] G) :=
  fun r hr => cl_sxE_some Q orc (vs := [v0]) G Tryz.func64 (by kernel_rfl) (by kernel_rfl) (by kernel_rfl) (by kernel_rfl) (by kernel_rfl) (by kernel_rfl) (m64 h v0 G r hr)
/-- coxswain/ready.NewLook -/
noncomputable def s65 (q : Bool) (e : Ex) (v0 v1 : Value) (G : GS) : Option (Value × GS) :=
  bS (bx q v0 G) fun x0 G1 =>
  bP (lda Q q 45 13 x0 G1) fun x2 =>
  bS (e.ev.cl 99 [x2, v1] G1) fun x3 G4 =>
  bP (bd Q q 177 z177 [(0, 0, 19)] [x3]) fun x5 =>
  bS (bx q x5 G4) fun x6 G7 =>
  bS (al Q q 115 z115 G7) fun x8 G9 =>
  bP (st Q q 115 1 x8 x6 G9) fun G10 =>
  bP (ld Q q 115 x8 G10) fun x11 =>
  bP (pNil x11) fun x12 =>
  bP (fa Q q 177 0 0 x12) fun x13 =>
  bP (fa Q q 166 6 18 x13) fun x14 =>
  bP (ld Q q 51 x14 G10) fun x15 =>
  bP (bn Q q .eql 51 (.tmp 15) (.const (.int .i64 0)) x15 (.int .i64 0)) fun x16 =>
  ifV x16 (
  bP (ld Q q 115 x8 (G10.room 19)) fun x17 =>
  bP (ld Q q 115 x8 (G10.room 19)) fun x18 =>
  bP (pNil x18) fun x19 =>
  bP (fa Q q 177 0 0 x19) fun x20 =>
  bS (e.ev.cl 100 [x20] (G10.room 19)) fun x22 G21 =>
  chk ((sameO (ld Q q 115 x8 G21) x17 && true)) <|
  bP (bd Q q 185 z185 [(0, 0, 1), (1, 1, 1), (2, 2, 1)] [(.func (.func 105) #[] #[x0]), (.func (.func 107) #[] #[]), (.func (.func 108) #[] #[x8])]) fun x23 =>
  bS (bx q x23 (G21.at' (G10.nx + 8))) fun x24 G25 =>
  bP (ifc Q q 178 x24) fun x26 =>
  bP (ld Q q 115 x8 (G25.back G21)) fun x27 =>
  chk ((sameO (ld Q q 115 x8 (G10.room 19)) x27 && true)) <|
  bP (pNil x27) fun x28 =>
  bP (fa Q q 177 0 0 x28) fun x29 =>
  bS (e.ev.cl 110 [x29] (G25.back G21)) fun x31 G30 =>
  chk ((sameO (ld Q q 115 x8 G30) x17 && true)) <|
  bS (bs Q q 164 3 (rep z171 3) 1 [(0, 0, 1), (1, 1, 1), (2, 2, 1)] [x22, x26, x31] (G30.at' (G10.nx + 14))) fun x32 G33 =>
  bP (pNil x17) fun x34 =>
  bP (fa Q q 177 0 0 x34) fun x35 =>
  bP (fa Q q 166 4 16 x35) fun x36 =>
  bP (st Q q 164 1 x36 x32 (G33.back G30)) fun G37 =>
  bP (ld Q q 115 x8 G37) fun x38 =>
  some (x38, G37)) (
  bP (ld Q q 115 x8 G10) fun x39 =>
  some (x39, G10))
theorem m65 {e : Ex} {E : Ev} (h : ExLe Q e E) (v0 v1 : Value) (G : GS) : Ref (s65 true e v0 v1 G) (s65 false (Ex.of E) v0 v1 G) := by
  unfold s65
  exact Ref.go
theorem f65 {orc : FuncId → Bool} {e : Ex} (h : ExLe Q e (E orc)) (v0 v1 : Value) (G : GS) : Ref (s65 true e v0 v1 G) ((E orc).cl 65 [v0, v1] G) :=
  fun r hr => cl_sxE_some Q orc (vs := [v0, v1]) G Tryz.func65 (by kernel_rfl) (by kernel_rfl) (by kernel_rfl) (by kernel_rfl) (by kernel_rfl) (by kernel_rfl) (m65 h v0 v1 G r hr)
/-- (*coxswain/ready.Look).Item -/
noncomputable def s66 (q : Bool) (e : Ex) (v0 : Value) (G : GS) : Option (Value × GS) :=
  bS (al Q q 120 z120 G) fun x0 G1 =>
  bP (ep Q q false 115 (.tmp 4) (.const (.pointer none)) v0 (.pointer none)) fun x2 =>
  ifV x2 (
  bP (bd Q q 120 z120 [] []) fun x3 =>
  bP (st Q q 120 2 x0 x3 G1) fun G4 =>
  bP (lda Q q 120 2 x0 G4) fun x5 =>
  some (.tuple #[x5, (.int .i64 1)], G4)) (
  bP (pNil v0) fun x6 =>
  bP (fa Q q 177 1 19 x6) fun x7 =>
  bP (lda Q q 175 3 x7 (G1.room 12)) fun x8 =>
  bP (pNil v0) fun x9 =>
  bP (fa Q q 177 0 0 x9) fun x10 =>
  bS (e.ev.cl 111 [x8, x10] (G1.room 12)) fun x12 G11 =>
  bP (pExtract x12 0) fun x13 =>
  bP (pExtract x12 1) fun x14 =>
  bP (st Q q 120 2 x0 x13 G11) fun G15 =>
  bP (lda Q q 120 2 x0 G15) fun x16 =>
  some (.tuple #[x16, x14], G15))
theorem m66 {e : Ex} {E : Ev} (h : ExLe Q e E) (v0 : Value) (G : GS) : Ref (s66 true e v0 G) (s66 false (Ex.of E) v0 G) := by
  unfold s66
  exact Ref.go
theorem f66 {orc : FuncId → Bool} {e : Ex} (h : ExLe Q e (E orc)) (v0 : Value) (G : GS) : Ref (s66 true e v0 G) ((E orc).cl 66 [v0] G) :=
  fun r hr => cl_sxE_some Q orc (vs := [v0]) G Tryz.func66 (by kernel_rfl) (by kernel_rfl) (by kernel_rfl) (by kernel_rfl) (by kernel_rfl) (by kernel_rfl) (m66 h v0 G r hr)
/-- (*coxswain/run.Balance).ends -/
noncomputable def s67 (q : Bool) (e : Ex) (v0 v1 : Value) (G : GS) : Option (Value × GS) :=
  bP (pNil v0) fun x0 =>
  bP (fa Q q 118 9 12 x0) fun x1 =>
  bP (st Q q 4 1 x1 (.bool true) G) fun G2 =>
  bP (pNil v0) fun x3 =>
  bP (fa Q q 118 10 13 x3) fun x4 =>
  bP (st Q q 51 1 x4 v1 G2) fun G5 =>
  some (.tuple #[], G5)
theorem m67 {e : Ex} {E : Ev} (h : ExLe Q e E) (v0 v1 : Value) (G : GS) : Ref (s67 true e v0 v1 G) (s67 false (Ex.of E) v0 v1 G) := by
  unfold s67
  exact Ref.go
theorem f67 {orc : FuncId → Bool} {e : Ex} (h : ExLe Q e (E orc)) (v0 v1 : Value) (G : GS) : Ref (s67 true e v0 v1 G) ((E orc).cl 67 [v0, v1] G) :=
  fun r hr => cl_sxE_some Q orc (vs := [v0, v1]) G Tryz.func67 (by kernel_rfl) (by kernel_rfl) (by kernel_rfl) (by kernel_rfl) (by kernel_rfl) (by kernel_rfl) (m67 h v0 v1 G r hr)
/-- (*coxswain/run.Balance).looks -/
noncomputable def s68 (q : Bool) (e : Ex) (v0 v1 : Value) (G : GS) : Option (Value × GS) :=
  bP (pNil v0) fun x0 =>
  bP (fa Q q 118 2 5 x0) fun x1 =>
  bP (ld Q q 115 x1 G) fun x2 =>
  bS (e.ev.cl 112 [x2, v1] G) fun x3 G4 =>
  bP (pNil v0) fun x5 =>
  bP (fa Q q 118 2 5 x5) fun x6 =>
  bP (ld Q q 115 x6 G4) fun x7 =>
  bS (e.ev.cl 113 [x7] G4) fun x8 G9 =>
  bP (pNil v0) fun x10 =>
  bP (fa Q q 118 7 10 x10) fun x11 =>
  bP (st Q q 23 1 x11 x8 G9) fun G12 =>
  bP (un Q q .not x3) fun x13 =>
  ifV x13 (
  some (.tuple #[], G12)) (
  bP (pNil v0) fun x14 =>
  bP (fa Q q 118 2 5 x14) fun x15 =>
  bP (ld Q q 115 x15 G12) fun x16 =>
  bS (e.ev.cl 66 [x16] G12) fun x17 G18 =>
  bP (pExtract x17 0) fun x19 =>
  bP (pExtract x17 1) fun x20 =>
  bS (al Q q 120 z120 G18) fun x21 G22 =>
  bP (st Q q 120 2 x21 x19 G22) fun G23 =>
  bP (fa Q q 120 0 0 x21) fun x24 =>
  bP (ld Q q 23 x24 (G23.room 10)) fun x25 =>
  bP (pNil v0) fun x26 =>
  bP (fa Q q 118 2 5 x26) fun x27 =>
  bP (st Q q 115 1 x27 (.pointer none) (G23.room 10)) fun G28 =>
  chk ((sameO (ld Q q 23 x24 G28) x25 && true)) <|
  bP (pNil v0) fun x29 =>
  bP (fa Q q 118 3 6 x29) fun x30 =>
  bP (st Q q 23 1 x30 x25 G28) fun G31 =>
  bP (bn Q q .eql 51 (.tmp 39) (.const (.int .i64 0)) x20 (.int .i64 0)) fun x32 =>
  ifV x32 (
  some (.tuple #[], G31)) (
  bP (bn Q q .eql 51 (.tmp 39) (.const (.int .i64 15)) x20 (.int .i64 15)) fun x33 =>
  ifV x33 (
  bS (e.ev.cl 67 [v0, (.int .i64 0)] G31) fun x34 G35 =>
  some (.tuple #[], G35)) (
  bS (e.ev.cl 67 [v0, x20] G31) fun x36 G37 =>
  some (.tuple #[], G37))))
theorem m68 {e : Ex} {E : Ev} (h : ExLe Q e E) (v0 v1 : Value) (G : GS) : Ref (s68 true e v0 v1 G) (s68 false (Ex.of E) v0 v1 G) := by
  unfold s68
  exact Ref.go
theorem f68 {orc : FuncId → Bool} {e : Ex} (h : ExLe Q e (E orc)) (v0 v1 : Value) (G : GS) : Ref (s68 true e v0 v1 G) ((E orc).cl 68 [v0, v1] G) :=
  fun r hr => cl_sxE_some Q orc (vs := [v0, v1]) G Tryz.func68 (by kernel_rfl) (by kernel_rfl) (by kernel_rfl) (by kernel_rfl) (by kernel_rfl) (by kernel_rfl) (m68 h v0 v1 G r hr)
/-- (*coxswain/run.walk).next -/
noncomputable def s69 (q : Bool) (e : Ex) (v0 : Value) (G : GS) : Option (Value × GS) :=
  bP (pNil v0) fun x0 =>
  bP (fa Q q 114 1 1 x0) fun x1 =>
  bP (ld Q q 3 x1 G) fun x2 =>
  bP (bn Q q .eql 3 (.tmp 7) (.const (.int .i64 0)) x2 (.int .i64 0)) fun x3 =>
  ifV x3 (
  some (.tuple #[(.int .i64 0), (.bool false)], G)) (
  bP (pNil v0) fun x4 =>
  bP (fa Q q 114 0 0 x4) fun x5 =>
  bP (ld Q q 3 x5 G) fun x6 =>
  bP (bn Q q .add 3 (.tmp 12) (.const (.int .i64 1)) x6 (.int .i64 1)) fun x7 =>
  bP (pNil v0) fun x8 =>
  bP (fa Q q 114 0 0 x8) fun x9 =>
  bP (st Q q 3 1 x9 x7 G) fun G10 =>
  bP (pNil v0) fun x11 =>
  bP (fa Q q 114 1 1 x11) fun x12 =>
  bP (ld Q q 3 x12 G10) fun x13 =>
  bP (bn Q q .sub 3 (.tmp 19) (.const (.int .i64 1)) x13 (.int .i64 1)) fun x14 =>
  bP (pNil v0) fun x15 =>
  bP (fa Q q 114 1 1 x15) fun x16 =>
  bP (st Q q 3 1 x16 x14 G10) fun G17 =>
  bP (pNil v0) fun x18 =>
  bP (fa Q q 114 0 0 x18) fun x19 =>
  bP (ld Q q 3 x19 G17) fun x20 =>
  bP (bn Q q .sub 3 (.tmp 26) (.const (.int .i64 1)) x20 (.int .i64 1)) fun x21 =>
  some (.tuple #[x21, (.bool true)], G17))
theorem m69 {e : Ex} {E : Ev} (h : ExLe Q e E) (v0 : Value) (G : GS) : Ref (s69 true e v0 G) (s69 false (Ex.of E) v0 G) := by
  unfold s69
  exact Ref.go
theorem f69 {orc : FuncId → Bool} {e : Ex} (h : ExLe Q e (E orc)) (v0 : Value) (G : GS) : Ref (s69 true e v0 G) ((E orc).cl 69 [v0] G) :=
  fun r hr => cl_sxE_some Q orc (vs := [v0]) G Tryz.func69 (by kernel_rfl) (by kernel_rfl) (by kernel_rfl) (by kernel_rfl) (by kernel_rfl) (by kernel_rfl) (m69 h v0 G r hr)
/-- (*coxswain/cells.Mem).Load -/
noncomputable def s70 (q : Bool) (e : Ex) (v0 v1 : Value) (G : GS) : Option (Value × GS) :=
  bS (e.ev.cl 62 [v0, v1] G) fun x0 G1 =>
  bP (bd Q q 109 z109 [(0, 0, 1)] [x0]) fun x2 =>
  bS (al Q q 109 z109 G1) fun x3 G4 =>
  bP (st Q q 109 3 x3 x2 G4) fun G5 =>
  bP (fa Q q 109 0 0 x3) fun x6 =>
  bP (ld Q q 106 x6 G5) fun x7 =>
  bP (lda Q q 109 3 x3 G5) fun x8 =>
  bS (e.ev.cl 63 [v0, (.int .i64 1), v1, x7, (.func (.func 114) #[x8] #[])] G5) fun x9 G10 =>
  bP (fd Q q 82 3 3 x9) fun x11 =>
  some (x11, G10)
theorem m70 {e : Ex} {E : Ev} (h : ExLe Q e E) (v0 v1 : Value) (G : GS) : Ref (s70 true e v0 v1 G) (s70 false (Ex.of E) v0 v1 G) := by
  unfold s70
  exact Ref.go
theorem f70 {orc : FuncId → Bool} {e : Ex} (h : ExLe Q e (E orc)) (v0 v1 : Value) (G : GS) : Ref (s70 true e v0 v1 G) ((E orc).cl 70 [v0, v1] G) :=
  fun r hr => cl_sxE_some Q orc (vs := [v0, v1]) G Tryz.func70 (by kernel_rfl) (by kernel_rfl) (by kernel_rfl) (by kernel_rfl) (by kernel_rfl) (by kernel_rfl) (m70 h v0 v1 G r hr)
noncomputable def b82_0 (q : Bool) (e : Ex) (lp : Env → GS → Option (Exit × Env × GS)) (τ : Env) (G : GS) : Option (Exit × Env × GS) :=
  bV q (τ 5) fun a5_ =>
  bV q (τ 12) fun a12_ =>
  bV q (τ 13) fun a13_ =>
  bV q (τ 14) fun a14_ =>
  bP (bn Q q .lss 3 (.tmp 14) (.tmp 13) a14_ a13_) fun x0 =>
  ifV x0 (
  bP (ias Q q 22 1 a12_ a14_) fun x1 =>
  bP (ld Q q 23 x1 G) fun x2 =>
  bP (bn Q q .neq 23 (.tmp 19) (.const (.int .u64 0)) x2 (.int .u64 0)) fun x3 =>
  bS (bs Q q 138 1 (rep z4 1) 1 [(0, 0, 1)] [x3] G) fun x4 G5 =>
  bS (ap Q q 138 138 1 1 a5_ x4 G5) fun x6 G7 =>
  bP (bn Q q .add 3 (.tmp 14) (.const (.int .i64 1)) a14_ (.int .i64 1)) fun x8 =>
  lp (tu τ [(5, x6), (12, a12_), (13, a13_), (14, x8), (7, x2), (15, x0), (16, x1), (17, x2), (18, a5_), (19, x2), (20, x3), (21, x4), (22, x6), (23, x8)]) G7) (
  some ((.exit 0), clq q 25 (tu τ [(5, a5_), (12, a12_), (13, a13_), (14, a14_), (15, x0)]), G))
theorem mb82_0 {e : Ex} {E : Ev} (h : ExLe Q e E) {lp lp' : Env → GS → Option (Exit × Env × GS)} (hlp : LpLe lp lp') (τ : Env) (G : GS) : Ref (b82_0 true e lp τ G) (b82_0 false (Ex.of E) lp' τ G) := by
  unfold b82_0
  exact Ref.go
theorem l82_0 {orc : FuncId → Bool} {e : Ex} (h : ExLe Q e (E orc)) (lp : Env → GS → Option (Exit × Env × GS)) (hlp : ∀ τ G, Ref (lp τ G) (mapE ((E orc).lp (subAt [1, 1, 0, 1, 0, 0] (bodyOf Tryz.f82)) (lst 25 τ) G))) (T : List Value) (G : GS) (hT : T.length = 25) : Ref (b82_0 true e lp (nth undef T) G) (mapE ((E orc).lp (subAt [1, 1, 0, 1, 0, 0] (bodyOf Tryz.f82)) T G)) :=
  fun r hr => lp_sxM Q orc G hT (by kernel_rfl) (mb82_0 h ⟨hlp⟩ _ _ r hr)
/-- coxswain/run.Flags -/
noncomputable def s82 (q : Bool) (e : Ex) (v0 v1 : Value) (G : GS) : Option (Value × GS) :=
  bS (bx q v0 G) fun x0 G1 =>
  bP (lda Q q 49 3 x0 G1) fun x2 =>
  bP (fa Q q 49 1 1 x0) fun x3 =>
  bP (ld Q q 3 x3 G1) fun x4 =>
  bS (e.ev.cl 91 [x2, x4, v1] G1) fun x5 G6 =>
  bP (ln Q q 22 x5) fun x7 =>
  bL q e 82 0 (subAt [1, 1, 0, 1, 0, 0] (bodyOf Tryz.f82)) 25 (tu (nth undef [v0, v1]) [(2, x0), (4, (.slice none 0 0)), (5, (.slice none 0 0)), (8, x2), (9, x3), (10, x4), (11, v1), (12, x5), (13, x7), (14, (.int .i64 0))]) G6 fun e8 t9 G10 =>
  bV q (t9 5) fun t9x5_ =>
  ifE e8 (.exit 0) (
  some (t9x5_, G10)) (none)
theorem m82 {e : Ex} {E : Ev} (h : ExLe Q e E) (v0 v1 : Value) (G : GS) : Ref (s82 true e v0 v1 G) (s82 false (Ex.of E) v0 v1 G) := by
  unfold s82
  exact Ref.go
theorem f82 {orc : FuncId → Bool} {e : Ex} (h : ExLe Q e (E orc)) (v0 v1 : Value) (G : GS) : Ref (s82 true e v0 v1 G) ((E orc).cl 82 [v0, v1] G) :=
  fun r hr => cl_sxE_some Q orc (vs := [v0, v1]) G Tryz.func82 (by kernel_rfl) (by kernel_rfl) (by kernel_rfl) (by kernel_rfl) (by kernel_rfl) (by kernel_rfl) (m82 h v0 v1 G r hr)
noncomputable def b91_0 (q : Bool) (e : Ex) (lp : Env → GS → Option (Exit × Env × GS)) (τ : Env) (G : GS) : Option (Exit × Env × GS) :=
  bV q (τ 1) fun a1_ =>
  bV q (τ 7) fun a7_ =>
  bV q (τ 8) fun a8_ =>
  bV q (τ 20) fun a20_ =>
  bV q (τ 21) fun a21_ =>
  bP (bn Q q .lss 3 (.tmp 21) (.tmp 20) a21_ a20_) fun x0 =>
  ifV x0 (
  bP (bn Q q .add 3 (.tmp 24) (.tmp 25) a1_ a21_) fun x1 =>
  bP (bn Q q .geq 3 (.tmp 27) (.const (.int .i64 0)) x1 (.int .i64 0)) fun x2 =>
  bS (gd x2 true (some (x1, G)) G) fun x3 G4 =>
  bS (gd x2 true (some (a7_, G4)) G4) fun x5 G6 =>
  bS (gd x2 true (bP (ln Q q 22 x5) fun y => some (y, G6)) G6) fun x7 G8 =>
  bS (gd x2 true (bP (bn Q q .lss 3 (.tmp 30) (.tmp 32) x3 x7) fun y => some (y, G8)) G8) fun x9 G10 =>
  bP (pickV x2 x9 (.bool false)) fun x11 =>
  ifV x11 (
  bP (ias Q q 22 1 a7_ x1) fun x12 =>
  bP (ld Q q 23 x12 G10) fun x13 =>
  bP (ias Q q 22 1 a8_ a21_) fun x14 =>
  bP (st Q q 23 1 x14 x13 G10) fun G15 =>
  bP (bn Q q .add 3 (.tmp 21) (.const (.int .i64 1)) a21_ (.int .i64 1)) fun x16 =>
  lp (tu τ [(1, a1_), (7, a7_), (8, a8_), (20, a20_), (21, x16), (9, a21_), (10, x1), (22, x0), (23, a21_), (24, a1_), (25, a21_), (26, x1), (27, x1), (28, x2), (29, x2), (30, x3), (31, x5), (32, x7), (33, x9), (34, x11), (35, a8_), (36, a21_), (37, a7_), (38, x1), (39, x12), (40, x13), (41, x14), (42, x16)]) G15) (
  bP (bn Q q .add 3 (.tmp 21) (.const (.int .i64 1)) a21_ (.int .i64 1)) fun x17 =>
  lp (tu τ [(1, a1_), (7, a7_), (8, a8_), (20, a20_), (21, x17), (9, a21_), (10, x1), (22, x0), (23, a21_), (24, a1_), (25, a21_), (26, x1), (27, x1), (28, x2), (29, x2), (30, x3), (31, x5), (32, x7), (33, x9), (34, x11), (42, x17)]) G10)) (
  some ((.exit 0), clq q 44 (tu τ [(1, a1_), (7, a7_), (8, a8_), (20, a20_), (21, a21_), (22, x0)]), G))
theorem mb91_0 {e : Ex} {E : Ev} (h : ExLe Q e E) {lp lp' : Env → GS → Option (Exit × Env × GS)} (hlp : LpLe lp lp') (τ : Env) (G : GS) : Ref (b91_0 true e lp τ G) (b91_0 false (Ex.of E) lp' τ G) := by
  unfold b91_0
  exact Ref.go
theorem l91_0 {orc : FuncId → Bool} {e : Ex} (h : ExLe Q e (E orc)) (lp : Env → GS → Option (Exit × Env × GS)) (hlp : ∀ τ G, Ref (lp τ G) (mapE ((E orc).lp (subAt [1, 1, 1, 1, 0, 1, 0, 0] (bodyOf Tryz.f91)) (lst 44 τ) G))) (T : List Value) (G : GS) (hT : T.length = 44) : Ref (b91_0 true e lp (nth undef T) G) (mapE ((E orc).lp (subAt [1, 1, 1, 1, 0, 1, 0, 0] (bodyOf Tryz.f91)) T G)) :=
  fun r hr => lp_sxM Q orc G hT (by kernel_rfl) (mb91_0 h ⟨hlp⟩ _ _ r hr)
/-- coxswain/run.row -/
noncomputable def s91 (q : Bool) (e : Ex) (v0 v1 v2 : Value) (G : GS) : Option (Value × GS) :=
  bS (bx q v0 G) fun x0 G1 =>
  bP (lda Q q 49 3 x0 G1) fun x2 =>
  bS (e.ev.cl 58 [x2] G1) fun x3 G4 =>
  bP (un Q q .not x3) fun x5 =>
  ifV x5 (
  some ((.slice none 0 0), G4)) (
  bS (e.ev.cl 24 [v2] G4) fun x6 G7 =>
  bP (fa Q q 49 2 2 x0) fun x8 =>
  bP (ld Q q 3 x8 G7) fun x9 =>
  bS (mk Q q 22 1 8 z23 x9 x9 G7) fun x10 G11 =>
  bP (ln Q q 22 x10) fun x12 =>
  bL q e 91 0 (subAt [1, 1, 1, 1, 0, 1, 0, 0] (bodyOf Tryz.f91)) 44 (tu (nth undef [v0, v1, v2]) [(3, x0), (6, (.slice none 0 0)), (7, x6), (8, x10), (11, x2), (12, x3), (13, x5), (14, v2), (15, x6), (16, x8), (17, x9), (18, x10), (19, x10), (20, x12), (21, (.int .i64 0))]) G11 fun e13 t14 G15 =>
  bV q (t14 8) fun t14x8_ =>
  ifE e13 (.exit 0) (
  some (t14x8_, G15)) (none))
theorem m91 {e : Ex} {E : Ev} (h : ExLe Q e E) (v0 v1 v2 : Value) (G : GS) : Ref (s91 true e v0 v1 v2 G) (s91 false (Ex.of E) v0 v1 v2 G) := by
  unfold s91
  exact Ref.go
theorem f91 {orc : FuncId → Bool} {e : Ex} (h : ExLe Q e (E orc)) (v0 v1 v2 : Value) (G : GS) : Ref (s91 true e v0 v1 v2 G) ((E orc).cl 91 [v0, v1, v2] G) :=
  fun r hr => cl_sxE_some Q orc (vs := [v0, v1, v2]) G Tryz.func91 (by kernel_rfl) (by kernel_rfl) (by kernel_rfl) (by kernel_rfl) (by kernel_rfl) (by kernel_rfl) (m91 h v0 v1 v2 G r hr)
noncomputable def b92_0 (q : Bool) (e : Ex) (lp : Env → GS → Option (Exit × Env × GS)) (τ : Env) (G : GS) : Option (Exit × Env × GS) :=
  bV q (τ 0) fun a0_ =>
  bV q (τ 1) fun a1_ =>
  bV q (τ 5) fun a5_ =>
  bP (ln Q q 35 a0_) fun x0 =>
  bP (bn Q q .lss 3 (.tmp 6) (.tmp 8) a5_ x0) fun x1 =>
  ifV x1 (
  bP (ias Q q 35 1 a0_ a5_) fun x2 =>
  bP (ld Q q 3 x2 G) fun x3 =>
  bP (bn Q q .eql 3 (.tmp 15) (.tmp 16) x3 a1_) fun x4 =>
  ifV x4 (
  some (.ret, clq q 18 (tu τ [(0, a0_), (1, a1_), (5, a5_), (4, (.bool true)), (6, a5_), (7, a0_), (8, x0), (9, x1), (12, a0_), (13, a5_), (14, x2), (15, x3), (16, a1_), (17, x4)]), G)) (
  bP (bn Q q .add 3 (.tmp 10) (.const (.int .i64 1)) a5_ (.int .i64 1)) fun x5 =>
  lp (tu τ [(0, a0_), (1, a1_), (5, x5), (6, a5_), (7, a0_), (8, x0), (9, x1), (10, a5_), (11, x5), (12, a0_), (13, a5_), (14, x2), (15, x3), (16, a1_), (17, x4)]) G)) (
  some ((.exit 0), clq q 18 (tu τ [(0, a0_), (1, a1_), (5, a5_), (6, a5_), (7, a0_), (8, x0), (9, x1)]), G))
theorem mb92_0 {e : Ex} {E : Ev} (h : ExLe Q e E) {lp lp' : Env → GS → Option (Exit × Env × GS)} (hlp : LpLe lp lp') (τ : Env) (G : GS) : Ref (b92_0 true e lp τ G) (b92_0 false (Ex.of E) lp' τ G) := by
  unfold b92_0
  exact Ref.go
theorem l92_0 {orc : FuncId → Bool} {e : Ex} (h : ExLe Q e (E orc)) (lp : Env → GS → Option (Exit × Env × GS)) (hlp : ∀ τ G, Ref (lp τ G) (mapE ((E orc).lp (subAt [1, 0, 1, 0, 0] (bodyOf Tryz.f92)) (lst 18 τ) G))) (T : List Value) (G : GS) (hT : T.length = 18) : Ref (b92_0 true e lp (nth undef T) G) (mapE ((E orc).lp (subAt [1, 0, 1, 0, 0] (bodyOf Tryz.f92)) T G)) :=
  fun r hr => lp_sxM Q orc G hT (by kernel_rfl) (mb92_0 h ⟨hlp⟩ _ _ r hr)
/-- coxswain/coxswainkit.Among -/
noncomputable def s92 (q : Bool) (e : Ex) (v0 v1 : Value) (G : GS) : Option (Value × GS) :=
  bL q e 92 0 (subAt [1, 0, 1, 0, 0] (bodyOf Tryz.f92)) 18 (tu (nth undef [v0, v1]) [(4, (.bool false)), (5, (.int .i64 0))]) G fun e0 t1 G2 =>
  bV q (t1 4) fun t1x4_ =>
  ifE e0 (.exit 0) (
  some ((.bool false), G2)) (ifE e0 .ret (
  some (t1x4_, G2)) (none))
theorem m92 {e : Ex} {E : Ev} (h : ExLe Q e E) (v0 v1 : Value) (G : GS) : Ref (s92 true e v0 v1 G) (s92 false (Ex.of E) v0 v1 G) := by
  unfold s92
  exact Ref.go
theorem f92 {orc : FuncId → Bool} {e : Ex} (h : ExLe Q e (E orc)) (v0 v1 : Value) (G : GS) : Ref (s92 true e v0 v1 G) ((E orc).cl 92 [v0, v1] G) :=
  fun r hr => cl_sxE_some Q orc (vs := [v0, v1]) G Tryz.func92 (by kernel_rfl) (by kernel_rfl) (by kernel_rfl) (by kernel_rfl) (by kernel_rfl) (by kernel_rfl) (m92 h v0 v1 G r hr)
/-- cmp.isNaN[uint64] -/
noncomputable def s93 (q : Bool) (e : Ex) (v0 : Value) (G : GS) : Option (Value × GS) :=
  bP (bn Q q .neq 23 (.tmp 3) (.tmp 4) v0 v0) fun x0 =>
  some (x0, G)
theorem m93 {e : Ex} {E : Ev} (h : ExLe Q e E) (v0 : Value) (G : GS) : Ref (s93 true e v0 G) (s93 false (Ex.of E) v0 G) := by
  unfold s93
  exact Ref.go
theorem f93 {orc : FuncId → Bool} {e : Ex} (h : ExLe Q e (E orc)) (v0 : Value) (G : GS) : Ref (s93 true e v0 G) ((E orc).cl 93 [v0] G) :=
  fun r hr => cl_sxE_some Q orc (vs := [v0]) G Tryz.func93 (by kernel_rfl) (by kernel_rfl) (by kernel_rfl) (by kernel_rfl) (by kernel_rfl) (by kernel_rfl) (m93 h v0 G r hr)
noncomputable def b96_0 (q : Bool) (e : Ex) (lp : Env → GS → Option (Exit × Env × GS)) (τ : Env) (G : GS) : Option (Exit × Env × GS) :=
  bV q (τ 1) fun a1_ =>
  bV q (τ 2) fun a2_ =>
  bV q (τ 18) fun a18_ =>
  bV q (τ 19) fun a19_ =>
  bP (bn Q q .lss 3 (.tmp 19) (.tmp 18) a19_ a18_) fun x0 =>
  ifV x0 (
  bP (fa Q q 39 1 3 a2_) fun x1 =>
  bP (ld Q q 3 x1 G) fun x2 =>
  bP (bn Q q .add 3 (.tmp 24) (.tmp 25) x2 a19_) fun x3 =>
  bS (e.ev.cl 23 [a1_, x3, (.int .u64 1)] G) fun x4 G5 =>
  bP (bn Q q .add 3 (.tmp 19) (.const (.int .i64 1)) a19_ (.int .i64 1)) fun x6 =>
  lp (tu τ [(1, a1_), (2, a2_), (18, a18_), (19, x6), (4, a19_), (20, x0), (21, a19_), (22, a1_), (23, x1), (24, x2), (25, a19_), (26, x3), (27, x4), (28, x6)]) G5) (
  some ((.exit 0), clq q 29 (tu τ [(1, a1_), (2, a2_), (18, a18_), (19, a19_), (20, x0)]), G))
theorem mb96_0 {e : Ex} {E : Ev} (h : ExLe Q e E) {lp lp' : Env → GS → Option (Exit × Env × GS)} (hlp : LpLe lp lp') (τ : Env) (G : GS) : Ref (b96_0 true e lp τ G) (b96_0 false (Ex.of E) lp' τ G) := by
  unfold b96_0
  exact Ref.go
theorem l96_0 {orc : FuncId → Bool} {e : Ex} (h : ExLe Q e (E orc)) (lp : Env → GS → Option (Exit × Env × GS)) (hlp : ∀ τ G, Ref (lp τ G) (mapE ((E orc).lp (subAt [1, 1, 1, 1, 1, 0, 0] (bodyOf Tryz.f96)) (lst 29 τ) G))) (T : List Value) (G : GS) (hT : T.length = 29) : Ref (b96_0 true e lp (nth undef T) G) (mapE ((E orc).lp (subAt [1, 1, 1, 1, 1, 0, 0] (bodyOf Tryz.f96)) T G)) :=
  fun r hr => lp_sxM Q orc G hT (by kernel_rfl) (mb96_0 h ⟨hlp⟩ _ _ r hr)
/-- coxswain/arena.Fill -/
noncomputable def s96 (q : Bool) (e : Ex) (v0 v1 : Value) (G : GS) : Option (Value × GS) :=
  bS (bx q v0 G) fun x0 G1 =>
  bP (lda Q q 39 6 x0 G1) fun x2 =>
  bS (e.ev.cl 138 [x2] G1) fun x3 G4 =>
  bP (un Q q .not x3) fun x5 =>
  ifV x5 (
  some (.tuple #[], G4)) (
  bP (fa Q q 39 0 0 x0) fun x6 =>
  bP (lda Q q 37 3 x6 G4) fun x7 =>
  bS (e.ev.cl 139 [x7, v1] G4) fun x8 G9 =>
  bP (fa Q q 39 2 4 x0) fun x10 =>
  bP (ld Q q 3 x10 G9) fun x11 =>
  bS (e.ev.cl 23 [v1, x11, (.int .u64 0)] G9) fun x12 G13 =>
  bP (fa Q q 39 0 0 x0) fun x14 =>
  bP (fa Q q 37 2 2 x14) fun x15 =>
  bP (ld Q q 3 x15 G13) fun x16 =>
  bL q e 96 0 (subAt [1, 1, 1, 1, 1, 0, 0] (bodyOf Tryz.f96)) 29 (tu (nth undef [v0, v1]) [(2, x0), (5, x2), (6, x3), (7, x5), (8, x6), (9, x7), (10, v1), (11, x8), (12, v1), (13, x10), (14, x11), (15, x12), (16, x14), (17, x15), (18, x16), (19, (.int .i64 0))]) G13 fun e17 t18 G19 =>
  ifE e17 (.exit 0) (
  some (.tuple #[], G19)) (none))
theorem m96 {e : Ex} {E : Ev} (h : ExLe Q e E) (v0 v1 : Value) (G : GS) : Ref (s96 true e v0 v1 G) (s96 false (Ex.of E) v0 v1 G) := by
  unfold s96
  exact Ref.go
theorem f96 {orc : FuncId → Bool} {e : Ex} (h : ExLe Q e (E orc)) (v0 v1 : Value) (G : GS) : Ref (s96 true e v0 v1 G) ((E orc).cl 96 [v0, v1] G) :=
  fun r hr => cl_sxE_some Q orc (vs := [v0, v1]) G Tryz.func96 (by kernel_rfl) (by kernel_rfl) (by kernel_rfl) (by kernel_rfl) (by kernel_rfl) (by kernel_rfl) (m96 h v0 v1 G r hr)
/-- coxswain/epoch.Fill -/
noncomputable def s97 (q : Bool) (e : Ex) (v0 v1 : Value) (G : GS) : Option (Value × GS) :=
  bS (bx q v0 G) fun x0 G1 =>
  bS (bx q v1 G1) fun x2 G3 =>
  bP (lda Q q 41 3 x0 G3) fun x4 =>
  bS (e.ev.cl 140 [x4] G3) fun x5 G6 =>
  bP (un Q q .not x5) fun x7 =>
  ifV x7 (
  some (.tuple #[], G6)) (
  bP (ld Q q 50 x2 G6) fun x8 =>
  bP (fa Q q 41 0 0 x0) fun x9 =>
  bP (ld Q q 3 x9 G6) fun x10 =>
  bS (e.ev.cl 23 [x8, x10, (.int .u64 0)] G6) fun x11 G12 =>
  bP (lda Q q 41 3 x0 G12) fun x13 =>
  bS (e.ev.cl 141 [x13] G12) fun x14 G15 =>
  bX (xRange e.ev x14 #[15, 16] (subAt [1, 1, 1, 1, 0, 0] (bodyOf Tryz.f97)) (subAt [1, 1, 1, 1, 0, 1] (bodyOf Tryz.f97)) (lst 20 (tu (nth undef [v0, v1]) [(2, x0), (3, x2), (6, x4), (7, x5), (8, x7), (9, x8), (10, x9), (11, x10), (12, x11), (13, x13), (14, x14)])) G15) fun e16 T17 G18 =>
  ifE e16 .normal (
  some (.tuple #[], G18)) (none))
theorem m97 {e : Ex} {E : Ev} (h : ExLe Q e E) (v0 v1 : Value) (G : GS) : Ref (s97 true e v0 v1 G) (s97 false (Ex.of E) v0 v1 G) := by
  unfold s97
  exact Ref.go
theorem f97 {orc : FuncId → Bool} {e : Ex} (h : ExLe Q e (E orc)) (v0 v1 : Value) (G : GS) : Ref (s97 true e v0 v1 G) ((E orc).cl 97 [v0, v1] G) :=
  fun r hr => cl_sxE_some Q orc (vs := [v0, v1]) G Tryz.func97 (by kernel_rfl) (by kernel_rfl) (by kernel_rfl) (by kernel_rfl) (by kernel_rfl) (by kernel_rfl) (m97 h v0 v1 G r hr)
/-- (coxswain/limbo.turn).stack -/
noncomputable def s98 (q : Bool) (e : Ex) (v0 v1 : Value) (G : GS) : Option (Value × GS) :=
  bS (bx q v1 G) fun x0 G1 =>
  bS (al Q q 37 z37 G1) fun x2 G3 =>
  bP (fa Q q 43 2 9 x0) fun x4 =>
  bP (ld Q q 3 x4 G3) fun x5 =>
  bP (bn Q q .add 3 (.tmp 6) (.tmp 7) x5 v0) fun x6 =>
  bP (fa Q q 43 0 0 x0) fun x7 =>
  bP (fa Q q 39 0 0 x7) fun x8 =>
  bP (fa Q q 37 1 1 x8) fun x9 =>
  bP (ld Q q 3 x9 G3) fun x10 =>
  bP (fa Q q 43 0 0 x0) fun x11 =>
  bP (fa Q q 39 0 0 x11) fun x12 =>
  bP (fa Q q 37 2 2 x12) fun x13 =>
  bP (ld Q q 3 x13 G3) fun x14 =>
  bP (bd Q q 37 z37 [(0, 0, 1), (1, 1, 1), (2, 2, 1)] [x6, x10, x14]) fun x15 =>
  bP (st Q q 37 3 x2 x15 G3) fun G16 =>
  bP (lda Q q 37 3 x2 G16) fun x17 =>
  some (x17, G16)
theorem m98 {e : Ex} {E : Ev} (h : ExLe Q e E) (v0 v1 : Value) (G : GS) : Ref (s98 true e v0 v1 G) (s98 false (Ex.of E) v0 v1 G) := by
  unfold s98
  exact Ref.go
theorem f98 {orc : FuncId → Bool} {e : Ex} (h : ExLe Q e (E orc)) (v0 v1 : Value) (G : GS) : Ref (s98 true e v0 v1 G) ((E orc).cl 98 [v0, v1] G) :=
  fun r hr => cl_sxE_some Q orc (vs := [v0, v1]) G Tryz.func98 (by kernel_rfl) (by kernel_rfl) (by kernel_rfl) (by kernel_rfl) (by kernel_rfl) (by kernel_rfl) (m98 h v0 v1 G r hr)
/-- coxswain/ready.begun -/
noncomputable def s99 (q : Bool) (e : Ex) (v0 v1 : Value) (G : GS) : Option (Value × GS) :=
  bS (bx q v0 G) fun x0 G1 =>
  bS (al Q q 166 z166 G1) fun x2 G3 =>
  bP (lda Q q 45 13 x0 G3) fun x4 =>
  bP (bd Q q 166 z166 [(0, 0, 13), (1, 13, 1), (2, 14, 1)] [x4, v1, (.bool true)]) fun x5 =>
  bS (al Q q 166 z166 G3) fun x6 G7 =>
  bP (st Q q 166 19 x6 x5 G7) fun G8 =>
  bP (lda Q q 45 13 x0 G8) fun x9 =>
  bS (e.ev.cl 142 [x9, (.int .i64 0), (.int .i64 0)] G8) fun x10 G11 =>
  bP (bn Q q .lss 3 (.tmp 11) (.const (.int .i64 0)) x10 (.int .i64 0)) fun x12 =>
  ifV x12 (
  bP (fa Q q 166 6 18 x6) fun x13 =>
  bP (st Q q 51 1 x13 (.int .i64 2) G11) fun G14 =>
  bP (lda Q q 166 19 x6 G14) fun x15 =>
  bP (st Q q 166 19 x2 x15 G14) fun G16 =>
  bP (lda Q q 166 19 x2 G16) fun x17 =>
  some (x17, G16)) (
  bP (bn Q q .lss 3 (.tmp 15) (.const (.int .i64 0)) v1 (.int .i64 0)) fun x18 =>
  bS (gd x18 false (some (v1, G11)) G11) fun x19 G20 =>
  bS (gd x18 false (bP (fa Q q 45 3 3 x0) fun y => some (y, G20)) G20) fun x21 G22 =>
  bS (gd x18 false (bP (fa Q q 43 1 6 x21) fun y => some (y, G22)) G22) fun x23 G24 =>
  bS (gd x18 false (bP (fa Q q 41 2 2 x23) fun y => some (y, G24)) G24) fun x25 G26 =>
  bS (gd x18 false (bP (ld Q q 3 x25 G26) fun y => some (y, G26)) G26) fun x27 G28 =>
  bS (gd x18 false (bP (bn Q q .geq 3 (.tmp 18) (.tmp 22) x19 x27) fun y => some (y, G28)) G28) fun x29 G30 =>
  bP (pickV x18 (.bool true) x29) fun x31 =>
  ifV x31 (
  bP (fa Q q 166 6 18 x6) fun x32 =>
  bP (st Q q 51 1 x32 (.int .i64 3) G30) fun G33 =>
  bP (lda Q q 166 19 x6 G33) fun x34 =>
  bP (st Q q 166 19 x2 x34 G33) fun G35 =>
  bP (lda Q q 166 19 x2 G35) fun x36 =>
  some (x36, G35)) (
  bP (lda Q q 166 19 x6 G30) fun x37 =>
  bP (st Q q 166 19 x2 x37 G30) fun G38 =>
  bP (lda Q q 166 19 x2 G38) fun x39 =>
  some (x39, G38)))
theorem m99 {e : Ex} {E : Ev} (h : ExLe Q e E) (v0 v1 : Value) (G : GS) : Ref (s99 true e v0 v1 G) (s99 false (Ex.of E) v0 v1 G) := by
  unfold s99
  exact Ref.go
theorem f99 {orc : FuncId → Bool} {e : Ex} (h : ExLe Q e (E orc)) (v0 v1 : Value) (G : GS) : Ref (s99 true e v0 v1 G) ((E orc).cl 99 [v0, v1] G) :=
  fun r hr => cl_sxE_some Q orc (vs := [v0, v1]) G Tryz.func99 (by kernel_rfl) (by kernel_rfl) (by kernel_rfl) (by kernel_rfl) (by kernel_rfl) (by kernel_rfl) (m99 h v0 v1 G r hr)
/-- (*coxswain/ready.work).pin -/
noncomputable def s100 (q : Bool) (e : Ex) (v0 : Value) (G : GS) : Option (Value × GS) :=
  bS (bx q v0 G) fun x0 G1 =>
  bP (bd Q q 229 z229 [(0, 0, 1), (2, 2, 1)] [(.func (.func 143) #[] #[x0]), (.func (.func 145) #[] #[x0])]) fun x2 =>
  bS (bx q x2 G1) fun x3 G4 =>
  bP (ifc Q q 220 x3) fun x5 =>
  some (x5, G4)
theorem m100 {e : Ex} {E : Ev} (h : ExLe Q e E) (v0 : Value) (G : GS) : Ref (s100 true e v0 G) (s100 false (Ex.of E) v0 G) := by
  unfold s100
  exact Ref.go
theorem f100 {orc : FuncId → Bool} {e : Ex} (h : ExLe Q e (E orc)) (v0 : Value) (G : GS) : Ref (s100 true e v0 G) ((E orc).cl 100 [v0] G) :=
  fun r hr => cl_sxE_some Q orc (vs := [v0]) G Tryz.func100 (by kernel_rfl) (by kernel_rfl) (by kernel_rfl) (by kernel_rfl) (by kernel_rfl) (by kernel_rfl) (m100 h v0 G r hr)
/-- (*coxswain/ready.Put).alloc -/
noncomputable def s101 (q : Bool) (e : Ex) (v0 : Value) (G : GS) : Option (Value × GS) :=
  bS (bx q v0 G) fun x0 G1 =>
  bP (ld Q q 104 x0 G1) fun x2 =>
  bP (bd Q q 237 z237 [(0, 0, 1), (2, 2, 1)] [(.func (.func 147) #[] #[x0]), (.func (.func 149) #[x2] #[])]) fun x3 =>
  bS (bx q x3 G1) fun x4 G5 =>
  bP (ifc Q q 230 x4) fun x6 =>
  some (x6, G5)
theorem m101 {e : Ex} {E : Ev} (h : ExLe Q e E) (v0 : Value) (G : GS) : Ref (s101 true e v0 G) (s101 false (Ex.of E) v0 G) := by
  unfold s101
  exact Ref.go
theorem f101 {orc : FuncId → Bool} {e : Ex} (h : ExLe Q e (E orc)) (v0 : Value) (G : GS) : Ref (s101 true e v0 G) ((E orc).cl 101 [v0] G) :=
  fun r hr => cl_sxE_some Q orc (vs := [v0]) G Tryz.func101 (by kernel_rfl) (by kernel_rfl) (by kernel_rfl) (by kernel_rfl) (by kernel_rfl) (by kernel_rfl) (m101 h v0 G r hr)
/-- (*coxswain/ready.work).step -/
noncomputable def s102 (q : Bool) (e : Ex) (v0 v1 : Value) (G : GS) : Option (Value × GS) :=
  bP (pNil v0) fun x0 =>
  bP (fa Q q 166 4 16 x0) fun x1 =>
  bP (ld Q q 164 x1 G) fun x2 =>
  bP (ln Q q 164 x2) fun x3 =>
  bP (bn Q q .eql 3 (.tmp 12) (.const (.int .i64 0)) x3 (.int .i64 0)) fun x4 =>
  ifV x4 (
  some ((.bool true), G)) (
  bP (pNil v0) fun x5 =>
  bP (fa Q q 166 4 16 x5) fun x6 =>
  bP (ld Q q 164 x6 G) fun x7 =>
  bP (ias Q q 164 1 x7 (.int .i64 0)) fun x8 =>
  bP (ld Q q 171 x8 G) fun x9 =>
  bP (pNil v0) fun x10 =>
  bP (fa Q q 166 4 16 x10) fun x11 =>
  bP (ld Q q 164 x11 G) fun x12 =>
  bP (sl Q q 164 1 x12 (some (.int .i64 1)) none none G) fun x13 =>
  bP (pNil v0) fun x14 =>
  bP (fa Q q 166 4 16 x14) fun x15 =>
  bP (st Q q 164 1 x15 x13 G) fun G16 =>
  bS (cInvoke Q e.ev x9 "coxswain/ready.run" [v1] G16) fun x17 G18 =>
  bP (pExtract x17 0) fun x19 =>
  bP (pExtract x17 1) fun x20 =>
  bP (pNil v0) fun x21 =>
  bP (fa Q q 166 5 17 x21) fun x22 =>
  bP (st Q q 23 1 x22 x20 G18) fun G23 =>
  bP (un Q q .not x19) fun x24 =>
  ifV x24 (
  bS (bs Q q 164 1 (rep z171 1) 1 [(0, 0, 1)] [x9] G23) fun x25 G26 =>
  bP (pNil v0) fun x27 =>
  bP (fa Q q 166 4 16 x27) fun x28 =>
  bP (ld Q q 164 x28 G26) fun x29 =>
  bS (ap Q q 164 164 1 16 x25 x29 G26) fun x30 G31 =>
  bP (pNil v0) fun x32 =>
  bP (fa Q q 166 4 16 x32) fun x33 =>
  bP (st Q q 164 1 x33 x30 G31) fun G34 =>
  bP (pNil v0) fun x35 =>
  bP (fa Q q 166 4 16 x35) fun x36 =>
  bP (ld Q q 164 x36 G34) fun x37 =>
  bP (ln Q q 164 x37) fun x38 =>
  bP (bn Q q .eql 3 (.tmp 54) (.const (.int .i64 0)) x38 (.int .i64 0)) fun x39 =>
  some (x39, G34)) (
  bP (pNil v0) fun x40 =>
  bP (fa Q q 166 4 16 x40) fun x41 =>
  bP (ld Q q 164 x41 G23) fun x42 =>
  bP (ln Q q 164 x42) fun x43 =>
  bP (bn Q q .eql 3 (.tmp 54) (.const (.int .i64 0)) x43 (.int .i64 0)) fun x44 =>
  some (x44, G23)))
theorem m102 {e : Ex} {E : Ev} (h : ExLe Q e E) (v0 v1 : Value) (G : GS) : Ref (s102 true e v0 v1 G) (s102 false (Ex.of E) v0 v1 G) := by
  unfold s102
  exact Ref.go
theorem f102 {orc : FuncId → Bool} {e : Ex} (h : ExLe Q e (E orc)) (v0 v1 : Value) (G : GS) : Ref (s102 true e v0 v1 G) ((E orc).cl 102 [v0, v1] G) :=
  fun r hr => cl_sxE_some Q orc (vs := [v0, v1]) G Tryz.func102 (by kernel_rfl) (by kernel_rfl) (by kernel_rfl) (by kernel_rfl) (by kernel_rfl) (by kernel_rfl) (m102 h v0 v1 G r hr)
/-- (*coxswain/ready.work).told -/
noncomputable def s103 (q : Bool) (e : Ex) (v0 : Value) (G : GS) : Option (Value × GS) :=
  bP (pNil v0) fun x0 =>
  bP (fa Q q 166 2 14 x0) fun x1 =>
  bP (ld Q q 4 x1 G) fun x2 =>
  bP (un Q q .not x2) fun x3 =>
  ifV x3 (
  some ((.int .i64 1), G)) (
  bP (pNil v0) fun x4 =>
  bP (fa Q q 166 4 16 x4) fun x5 =>
  bP (ld Q q 164 x5 G) fun x6 =>
  bP (ln Q q 164 x6) fun x7 =>
  bP (bn Q q .gtr 3 (.tmp 14) (.const (.int .i64 0)) x7 (.int .i64 0)) fun x8 =>
  ifV x8 (
  some ((.int .i64 14), G)) (
  bP (pNil v0) fun x9 =>
  bP (fa Q q 166 6 18 x9) fun x10 =>
  bP (ld Q q 51 x10 G) fun x11 =>
  some (x11, G)))
theorem m103 {e : Ex} {E : Ev} (h : ExLe Q e E) (v0 : Value) (G : GS) : Ref (s103 true e v0 G) (s103 false (Ex.of E) v0 G) := by
  unfold s103
  exact Ref.go
theorem f103 {orc : FuncId → Bool} {e : Ex} (h : ExLe Q e (E orc)) (v0 : Value) (G : GS) : Ref (s103 true e v0 G) ((E orc).cl 103 [v0] G) :=
  fun r hr => cl_sxE_some Q orc (vs := [v0]) G Tryz.func103 (by kernel_rfl) (by kernel_rfl) (by kernel_rfl) (by kernel_rfl) (by kernel_rfl) (by kernel_rfl) (m103 h v0 G r hr)
/-- (*coxswain/cells.place).is -/
noncomputable def s104 (q : Bool) (e : Ex) (v0 : Value) (G : GS) : Option (Value × GS) :=
  bP (ep Q q true 106 (.tmp 3) (.const (.pointer none)) v0 (.pointer none)) fun x0 =>
  some (x0, G)
theorem m104 {e : Ex} {E : Ev} (h : ExLe Q e E) (v0 : Value) (G : GS) : Ref (s104 true e v0 G) (s104 false (Ex.of E) v0 G) := by
  unfold s104
  exact Ref.go
theorem f104 {orc : FuncId → Bool} {e : Ex} (h : ExLe Q e (E orc)) (v0 : Value) (G : GS) : Ref (s104 true e v0 G) ((E orc).cl 104 [v0] G) :=
  fun r hr => cl_sxE_some Q orc (vs := [v0]) G Tryz.func104 (by kernel_rfl) (by kernel_rfl) (by kernel_rfl) (by kernel_rfl) (by kernel_rfl) (by kernel_rfl) (m104 h v0 G r hr)
/-- coxswain/ready.NewLook$1 -/
noncomputable def s105 (q : Bool) (e : Ex) (v0 : Value) (G : GS) : Option (Value × GS) :=
  bP (lda Q q 45 13 v0 G) fun x0 =>
  bS (e.ev.cl 106 [x0] G) fun x1 G2 =>
  some (x1, G2)
theorem m105 {e : Ex} {E : Ev} (h : ExLe Q e E) (v0 : Value) (G : GS) : Ref (s105 true e v0 G) (s105 false (Ex.of E) v0 G) := by
  unfold s105
  exact Ref.go
theorem f105 {orc : FuncId → Bool} {e : Ex} (h : ExLe Q e (E orc)) (v0 : Value) (G : GS) : Ref (s105 true e v0 G) ((E orc).cl 105 [v0] G) :=
  fun r hr => cl_sxE_some Q orc (vs := [v0]) G Tryz.func105 (by kernel_rfl) (by kernel_rfl) (by kernel_rfl) (by kernel_rfl) (by kernel_rfl) (by kernel_rfl) (m105 h v0 G r hr)
/-- coxswain/claim.NewPeek -/
noncomputable def s106 (q : Bool) (e : Ex) (v0 : Value) (G : GS) : Option (Value × GS) :=
  bS (bx q v0 G) fun x0 G1 =>
  bP (lda Q q 45 13 x0 G1) fun x2 =>
  bS (e.ev.cl 150 [x2] G1) fun x3 G4 =>
  bP (bd Q q 246 z246 [(0, 0, 22)] [x3]) fun x5 =>
  bS (bx q x5 G4) fun x6 G7 =>
  some (x6, G7)
theorem m106 {e : Ex} {E : Ev} (h : ExLe Q e E) (v0 : Value) (G : GS) : Ref (s106 true e v0 G) (s106 false (Ex.of E) v0 G) := by
  unfold s106
  exact Ref.go
theorem f106 {orc : FuncId → Bool} {e : Ex} (h : ExLe Q e (E orc)) (v0 : Value) (G : GS) : Ref (s106 true e v0 G) ((E orc).cl 106 [v0] G) :=
  fun r hr => cl_sxE_some Q orc (vs := [v0]) G Tryz.func106 (by kernel_rfl) (by kernel_rfl) (by kernel_rfl) (by kernel_rfl) (by kernel_rfl) (by kernel_rfl) (m106 h v0 G r hr)
/-- (*coxswain/claim.Peek).By -/
noncomputable def s107 (q : Bool) (e : Ex) (v0 : Value) (G : GS) : Option (Value × GS) :=
  bP (ep Q q false 179 (.tmp 3) (.const (.pointer none)) v0 (.pointer none)) fun x0 =>
  ifV x0 (
  some ((.int .u64 0), G)) (
  bP (pNil v0) fun x1 =>
  bP (fa Q q 246 0 0 x1) fun x2 =>
  bP (fa Q q 243 7 19 x2) fun x3 =>
  bP (ld Q q 23 x3 G) fun x4 =>
  some (x4, G))
theorem m107 {e : Ex} {E : Ev} (h : ExLe Q e E) (v0 : Value) (G : GS) : Ref (s107 true e v0 G) (s107 false (Ex.of E) v0 G) := by
  unfold s107
  exact Ref.go
theorem f107 {orc : FuncId → Bool} {e : Ex} (h : ExLe Q e (E orc)) (v0 : Value) (G : GS) : Ref (s107 true e v0 G) ((E orc).cl 107 [v0] G) :=
  fun r hr => cl_sxE_some Q orc (vs := [v0]) G Tryz.func107 (by kernel_rfl) (by kernel_rfl) (by kernel_rfl) (by kernel_rfl) (by kernel_rfl) (by kernel_rfl) (m107 h v0 G r hr)
/-- coxswain/ready.NewLook$2 -/
noncomputable def s108 (q : Bool) (e : Ex) (v0 v1 : Value) (G : GS) : Option (Value × GS) :=
  bP (ld Q q 115 v1 (G.room 15)) fun x0 =>
  bP (ld Q q 115 v1 (G.room 15)) fun x1 =>
  bS (e.ev.cl 109 [v0] (G.room 15)) fun x3 G2 =>
  chk ((sameO (ld Q q 115 v1 G2) x1 && (sameO (ld Q q 115 v1 G2) x0 && true))) <|
  bP (pExtract x3 0) fun x4 =>
  bP (pExtract x3 1) fun x5 =>
  bP (pNil x0) fun x6 =>
  bP (fa Q q 177 1 19 x6) fun x7 =>
  bP (fa Q q 175 0 0 x7) fun x8 =>
  bP (st Q q 120 2 x8 x4 G2) fun G9 =>
  chk ((sameO (ld Q q 115 v1 G9) x1 && true)) <|
  bP (pNil x1) fun x10 =>
  bP (fa Q q 177 1 19 x10) fun x11 =>
  bP (fa Q q 175 1 2 x11) fun x12 =>
  bP (st Q q 51 1 x12 x5 G9) fun G13 =>
  some (.tuple #[], G13)
theorem m108 {e : Ex} {E : Ev} (h : ExLe Q e E) (v0 v1 : Value) (G : GS) : Ref (s108 true e v0 v1 G) (s108 false (Ex.of E) v0 v1 G) := by
  unfold s108
  exact Ref.go
theorem f108 {orc : FuncId → Bool} {e : Ex} (h : ExLe Q e (E orc)) (v0 v1 : Value) (G : GS) : Ref (s108 true e v0 v1 G) ((E orc).cl 108 [v0, v1] G) :=
  fun r hr => cl_sxE_some Q orc (vs := [v0, v1]) G Tryz.func108 (by kernel_rfl) (by kernel_rfl) (by kernel_rfl) (by kernel_rfl) (by kernel_rfl) (by kernel_rfl) (m108 h v0 v1 G r hr)
/-- (*coxswain/claim.Peek).Item -/
noncomputable def s109 (q : Bool) (e : Ex) (v0 : Value) (G : GS) : Option (Value × GS) :=
  bS (al Q q 120 z120 G) fun x0 G1 =>
  bP (ep Q q false 179 (.tmp 4) (.const (.pointer none)) v0 (.pointer none)) fun x2 =>
  ifV x2 (
  bP (bd Q q 120 z120 [] []) fun x3 =>
  bP (st Q q 120 2 x0 x3 G1) fun G4 =>
  bP (lda Q q 120 2 x0 G4) fun x5 =>
  some (.tuple #[x5, (.int .i64 1)], G4)) (
  bP (pNil v0) fun x6 =>
  bP (fa Q q 246 0 0 x6) fun x7 =>
  bS (e.ev.cl 151 [x7] G1) fun x8 G9 =>
  bP (pExtract x8 0) fun x10 =>
  bP (pExtract x8 1) fun x11 =>
  bP (st Q q 120 2 x0 x10 G9) fun G12 =>
  bP (lda Q q 120 2 x0 G12) fun x13 =>
  some (.tuple #[x13, x11], G12))
theorem m109 {e : Ex} {E : Ev} (h : ExLe Q e E) (v0 : Value) (G : GS) : Ref (s109 true e v0 G) (s109 false (Ex.of E) v0 G) := by
  unfold s109
  exact Ref.go
theorem f109 {orc : FuncId → Bool} {e : Ex} (h : ExLe Q e (E orc)) (v0 : Value) (G : GS) : Ref (s109 true e v0 G) ((E orc).cl 109 [v0] G) :=
  fun r hr => cl_sxE_some Q orc (vs := [v0]) G Tryz.func109 (by kernel_rfl) (by kernel_rfl) (by kernel_rfl) (by kernel_rfl) (by kernel_rfl) (by kernel_rfl) (m109 h v0 G r hr)
/-- (*coxswain/ready.work).unpin -/
noncomputable def s110 (q : Bool) (e : Ex) (v0 : Value) (G : GS) : Option (Value × GS) :=
  bS (bx q v0 G) fun x0 G1 =>
  bP (bd Q q 254 z254 [(0, 0, 1)] [(.func (.func 152) #[] #[x0])]) fun x2 =>
  bS (bx q x2 G1) fun x3 G4 =>
  bP (ifc Q q 247 x3) fun x5 =>
  some (x5, G4)
theorem m110 {e : Ex} {E : Ev} (h : ExLe Q e E) (v0 : Value) (G : GS) : Ref (s110 true e v0 G) (s110 false (Ex.of E) v0 G) := by
  unfold s110
  exact Ref.go
theorem f110 {orc : FuncId → Bool} {e : Ex} (h : ExLe Q e (E orc)) (v0 : Value) (G : GS) : Ref (s110 true e v0 G) ((E orc).cl 110 [v0] G) :=
  fun r hr => cl_sxE_some Q orc (vs := [v0]) G Tryz.func110 (by kernel_rfl) (by kernel_rfl) (by kernel_rfl) (by kernel_rfl) (by kernel_rfl) (by kernel_rfl) (m110 h v0 G r hr)
/-- (coxswain/ready.seen).told -/
noncomputable def s111 (q : Bool) (e : Ex) (v0 v1 : Value) (G : GS) : Option (Value × GS) :=
  bS (bx q v0 G) fun x0 G1 =>
  bS (al Q q 120 z120 G1) fun x2 G3 =>
  bS (e.ev.cl 103 [v1] G3) fun x4 G5 =>
  bP (bn Q q .neq 51 (.tmp 9) (.const (.int .i64 0)) x4 (.int .i64 0)) fun x6 =>
  ifV x6 (
  bP (bd Q q 120 z120 [] []) fun x7 =>
  bP (st Q q 120 2 x2 x7 G5) fun G8 =>
  bP (lda Q q 120 2 x2 G8) fun x9 =>
  some (.tuple #[x9, x4], G8)) (
  bP (fa Q q 175 0 0 x0) fun x10 =>
  bP (lda Q q 120 2 x10 (G5.room 6)) fun x11 =>
  bP (fa Q q 175 1 2 x0) fun x12 =>
  bP (ld Q q 51 x12 (G5.room 6)) fun x13 =>
  bP (st Q q 120 2 x2 x11 (G5.room 6)) fun G14 =>
  chk ((sameO (ld Q q 51 x12 G14) x13 && true)) <|
  bP (lda Q q 120 2 x2 G14) fun x15 =>
  some (.tuple #[x15, x13], G14))
theorem m111 {e : Ex} {E : Ev} (h : ExLe Q e E) (v0 v1 : Value) (G : GS) : Ref (s111 true e v0 v1 G) (s111 false (Ex.of E) v0 v1 G) := by
  unfold s111
  exact Ref.go
theorem f111 {orc : FuncId → Bool} {e : Ex} (h : ExLe Q e (E orc)) (v0 v1 : Value) (G : GS) : Ref (s111 true e v0 v1 G) ((E orc).cl 111 [v0, v1] G) :=
  fun r hr => cl_sxE_some Q orc (vs := [v0, v1]) G Tryz.func111 (by kernel_rfl) (by kernel_rfl) (by kernel_rfl) (by kernel_rfl) (by kernel_rfl) (by kernel_rfl) (m111 h v0 v1 G r hr)
/-- (*coxswain/ready.Look).Step -/
noncomputable def s112 (q : Bool) (e : Ex) (v0 v1 : Value) (G : GS) : Option (Value × GS) :=
  bP (ep Q q false 115 (.tmp 5) (.const (.pointer none)) v0 (.pointer none)) fun x0 =>
  bS (gd x0 false (some (v0, G)) G) fun x1 G2 =>
  bS (gd x0 false (bP (pNil x1) fun y => some (y, G2)) G2) fun x3 G4 =>
  bS (gd x0 false (bP (fa Q q 177 0 0 x3) fun y => some (y, G4)) G4) fun x5 G6 =>
  bS (gd x0 false (some (v1, G6)) G6) fun x7 G8 =>
  bS (gd x0 false (bS (e.ev.cl 102 [x5, x7] G8) fun y G => some (y, G)) G8) fun x9 G10 =>
  bP (pickV x0 (.bool true) x9) fun x11 =>
  some (x11, G10)
theorem m112 {e : Ex} {E : Ev} (h : ExLe Q e E) (v0 v1 : Value) (G : GS) : Ref (s112 true e v0 v1 G) (s112 false (Ex.of E) v0 v1 G) := by
  unfold s112
  exact Ref.go
theorem f112 {orc : FuncId → Bool} {e : Ex} (h : ExLe Q e (E orc)) (v0 v1 : Value) (G : GS) : Ref (s112 true e v0 v1 G) ((E orc).cl 112 [v0, v1] G) :=
  fun r hr => cl_sxE_some Q orc (vs := [v0, v1]) G Tryz.func112 (by kernel_rfl) (by kernel_rfl) (by kernel_rfl) (by kernel_rfl) (by kernel_rfl) (by kernel_rfl) (m112 h v0 v1 G r hr)
/-- (*coxswain/ready.Look).By -/
noncomputable def s113 (q : Bool) (e : Ex) (v0 : Value) (G : GS) : Option (Value × GS) :=
  bP (ep Q q false 115 (.tmp 3) (.const (.pointer none)) v0 (.pointer none)) fun x0 =>
  ifV x0 (
  some ((.int .u64 0), G)) (
  bP (pNil v0) fun x1 =>
  bP (fa Q q 177 0 0 x1) fun x2 =>
  bP (fa Q q 166 5 17 x2) fun x3 =>
  bP (ld Q q 23 x3 G) fun x4 =>
  some (x4, G))
theorem m113 {e : Ex} {E : Ev} (h : ExLe Q e E) (v0 : Value) (G : GS) : Ref (s113 true e v0 G) (s113 false (Ex.of E) v0 G) := by
  unfold s113
  exact Ref.go
theorem f113 {orc : FuncId → Bool} {e : Ex} (h : ExLe Q e (E orc)) (v0 : Value) (G : GS) : Ref (s113 true e v0 G) ((E orc).cl 113 [v0] G) :=
  fun r hr => cl_sxE_some Q orc (vs := [v0]) G Tryz.func113 (by kernel_rfl) (by kernel_rfl) (by kernel_rfl) (by kernel_rfl) (by kernel_rfl) (by kernel_rfl) (m113 h v0 G r hr)
/-- (coxswain/cells.deed).load -/
noncomputable def s114 (q : Bool) (e : Ex) (v0 : Value) (G : GS) : Option (Value × GS) :=
  bS (bx q v0 G) fun x0 G1 =>
  bP (fa Q q 109 0 0 x0) fun x2 =>
  bP (ld Q q 106 x2 G1) fun x3 =>
  bP (pNil x3) fun x4 =>
  bP (ld Q q 96 x4 G1) fun x5 =>
  some (.tuple #[x5, (.bool false)], G1)
theorem m114 {e : Ex} {E : Ev} (h : ExLe Q e E) (v0 : Value) (G : GS) : Ref (s114 true e v0 G) (s114 false (Ex.of E) v0 G) := by
  unfold s114
  exact Ref.go
theorem f114 {orc : FuncId → Bool} {e : Ex} (h : ExLe Q e (E orc)) (v0 : Value) (G : GS) : Ref (s114 true e v0 G) ((E orc).cl 114 [v0] G) :=
  fun r hr => cl_sxE_some Q orc (vs := [v0]) G Tryz.func114 (by kernel_rfl) (by kernel_rfl) (by kernel_rfl) (by kernel_rfl) (by kernel_rfl) (by kernel_rfl) (m114 h v0 G r hr)
/-- coxswain/arena.sized -/
noncomputable def s138 (q : Bool) (e : Ex) (v0 : Value) (G : GS) : Option (Value × GS) :=
  bS (bx q v0 G) fun x0 G1 =>
  bP (fa Q q 39 0 0 x0) fun x2 =>
  bP (fa Q q 37 2 2 x2) fun x3 =>
  bP (ld Q q 3 x3 G1) fun x4 =>
  bP (bn Q q .geq 3 (.tmp 5) (.const (.int .i64 1)) x4 (.int .i64 1)) fun x5 =>
  bS (gd x5 true (bP (fa Q q 39 0 0 x0) fun y => some (y, G1)) G1) fun x6 G7 =>
  bS (gd x5 true (bP (fa Q q 37 2 2 x6) fun y => some (y, G7)) G7) fun x8 G9 =>
  bS (gd x5 true (bP (ld Q q 3 x8 G9) fun y => some (y, G9)) G9) fun x10 G11 =>
  bS (gd x5 true (bP (bn Q q .leq 3 (.tmp 10) (.const (.int .i64 4096)) x10 (.int .i64 4096)) fun y => some (y, G11)) G11) fun x12 G13 =>
  bP (pickV x5 x12 (.bool false)) fun x14 =>
  some (x14, G13)
theorem m138 {e : Ex} {E : Ev} (h : ExLe Q e E) (v0 : Value) (G : GS) : Ref (s138 true e v0 G) (s138 false (Ex.of E) v0 G) := by
  unfold s138
  exact Ref.go
theorem f138 {orc : FuncId → Bool} {e : Ex} (h : ExLe Q e (E orc)) (v0 : Value) (G : GS) : Ref (s138 true e v0 G) ((E orc).cl 138 [v0] G) :=
  fun r hr => cl_sxE_some Q orc (vs := [v0]) G Tryz.func138 (by kernel_rfl) (by kernel_rfl) (by kernel_rfl) (by kernel_rfl) (by kernel_rfl) (by kernel_rfl) (m138 h v0 G r hr)
noncomputable def b139_0 (q : Bool) (e : Ex) (lp : Env → GS → Option (Exit × Env × GS)) (τ : Env) (G : GS) : Option (Exit × Env × GS) :=
  bV q (τ 1) fun a1_ =>
  bV q (τ 2) fun a2_ =>
  bV q (τ 15) fun a15_ =>
  bV q (τ 16) fun a16_ =>
  bP (bn Q q .lss 3 (.tmp 16) (.tmp 15) a16_ a15_) fun x0 =>
  ifV x0 (
  bP (bn Q q .add 3 (.tmp 19) (.const (.int .i64 1)) a16_ (.int .i64 1)) fun x1 =>
  bP (fa Q q 37 2 2 a2_) fun x2 =>
  bP (ld Q q 3 x2 G) fun x3 =>
  bP (bn Q q .eql 3 (.tmp 21) (.tmp 23) x1 x3) fun x4 =>
  ifV x4 (
  bP (fa Q q 37 1 1 a2_) fun x5 =>
  bP (ld Q q 3 x5 (G.room 8)) fun x6 =>
  bP (bn Q q .add 3 (.tmp 27) (.tmp 28) x6 a16_) fun x7 =>
  bS (e.ev.cl 175 [(.int .i64 (-1))] (G.room 8)) fun x9 G8 =>
  chk ((sameO (ld Q q 3 x5 G8) x6 && true)) <|
  bS (e.ev.cl 23 [a1_, x7, x9] G8) fun x11 G10 =>
  bP (bn Q q .add 3 (.tmp 16) (.const (.int .i64 1)) a16_ (.int .i64 1)) fun x12 =>
  lp (tu τ [(1, a1_), (2, a2_), (15, a15_), (16, x12), (4, a16_), (5, (.int .i64 (-1))), (17, x0), (18, a16_), (19, a16_), (20, x1), (21, x1), (22, x2), (23, x3), (24, x4), (25, a1_), (26, x5), (27, x6), (28, a16_), (29, x7), (30, (.int .i64 (-1))), (31, x9), (32, x11), (33, x12)]) G10) (
  bP (fa Q q 37 1 1 a2_) fun x13 =>
  bP (ld Q q 3 x13 (G.room 8)) fun x14 =>
  bP (bn Q q .add 3 (.tmp 27) (.tmp 28) x14 a16_) fun x15 =>
  bS (e.ev.cl 175 [x1] (G.room 8)) fun x17 G16 =>
  chk ((sameO (ld Q q 3 x13 G16) x14 && true)) <|
  bS (e.ev.cl 23 [a1_, x15, x17] G16) fun x19 G18 =>
  bP (bn Q q .add 3 (.tmp 16) (.const (.int .i64 1)) a16_ (.int .i64 1)) fun x20 =>
  lp (tu τ [(1, a1_), (2, a2_), (15, a15_), (16, x20), (4, a16_), (5, x1), (17, x0), (18, a16_), (19, a16_), (20, x1), (21, x1), (22, x2), (23, x3), (24, x4), (25, a1_), (26, x13), (27, x14), (28, a16_), (29, x15), (30, x1), (31, x17), (32, x19), (33, x20)]) G18)) (
  some ((.exit 0), clq q 34 (tu τ [(1, a1_), (2, a2_), (15, a15_), (16, a16_), (17, x0)]), G))
theorem mb139_0 {e : Ex} {E : Ev} (h : ExLe Q e E) {lp lp' : Env → GS → Option (Exit × Env × GS)} (hlp : LpLe lp lp') (τ : Env) (G : GS) : Ref (b139_0 true e lp τ G) (b139_0 false (Ex.of E) lp' τ G) := by
  unfold b139_0
  exact Ref.go
theorem l139_0 {orc : FuncId → Bool} {e : Ex} (h : ExLe Q e (E orc)) (lp : Env → GS → Option (Exit × Env × GS)) (hlp : ∀ τ G, Ref (lp τ G) (mapE ((E orc).lp (subAt [1, 1, 1, 1, 0, 0] (bodyOf Tryz.f139)) (lst 34 τ) G))) (T : List Value) (G : GS) (hT : T.length = 34) : Ref (b139_0 true e lp (nth undef T) G) (mapE ((E orc).lp (subAt [1, 1, 1, 1, 0, 0] (bodyOf Tryz.f139)) T G)) :=
  fun r hr => lp_sxM Q orc G hT (by kernel_rfl) (mb139_0 h ⟨hlp⟩ _ _ r hr)
/-- coxswain/stack.Fill -/
noncomputable def s139 (q : Bool) (e : Ex) (v0 v1 : Value) (G : GS) : Option (Value × GS) :=
  bS (bx q v0 G) fun x0 G1 =>
  bP (lda Q q 37 3 x0 G1) fun x2 =>
  bS (e.ev.cl 174 [x2] G1) fun x3 G4 =>
  bP (un Q q .not x3) fun x5 =>
  ifV x5 (
  some (.tuple #[], G4)) (
  bP (fa Q q 37 0 0 x0) fun x6 =>
  bP (ld Q q 3 x6 (G4.room 5)) fun x7 =>
  bS (e.ev.cl 175 [(.int .i64 0)] (G4.room 5)) fun x9 G8 =>
  chk ((sameO (ld Q q 3 x6 G8) x7 && true)) <|
  bS (e.ev.cl 23 [v1, x7, x9] G8) fun x11 G10 =>
  bP (fa Q q 37 2 2 x0) fun x12 =>
  bP (ld Q q 3 x12 G10) fun x13 =>
  bL q e 139 0 (subAt [1, 1, 1, 1, 0, 0] (bodyOf Tryz.f139)) 34 (tu (nth undef [v0, v1]) [(2, x0), (6, x2), (7, x3), (8, x5), (9, v1), (10, x6), (11, x7), (12, x9), (13, x11), (14, x12), (15, x13), (16, (.int .i64 0))]) G10 fun e14 t15 G16 =>
  ifE e14 (.exit 0) (
  some (.tuple #[], G16)) (none))
theorem m139 {e : Ex} {E : Ev} (h : ExLe Q e E) (v0 v1 : Value) (G : GS) : Ref (s139 true e v0 v1 G) (s139 false (Ex.of E) v0 v1 G) := by
  unfold s139
  exact Ref.go
theorem f139 {orc : FuncId → Bool} {e : Ex} (h : ExLe Q e (E orc)) (v0 v1 : Value) (G : GS) : Ref (s139 true e v0 v1 G) ((E orc).cl 139 [v0, v1] G) :=
  fun r hr => cl_sxE_some Q orc (vs := [v0, v1]) G Tryz.func139 (by kernel_rfl) (by kernel_rfl) (by kernel_rfl) (by kernel_rfl) (by kernel_rfl) (by kernel_rfl) (m139 h v0 v1 G r hr)
/-- coxswain/epoch.sized -/
noncomputable def s140 (q : Bool) (e : Ex) (v0 : Value) (G : GS) : Option (Value × GS) :=
  bS (bx q v0 G) fun x0 G1 =>
  bP (fa Q q 41 2 2 x0) fun x2 =>
  bP (ld Q q 3 x2 G1) fun x3 =>
  bP (bn Q q .geq 3 (.tmp 4) (.const (.int .i64 1)) x3 (.int .i64 1)) fun x4 =>
  bS (gd x4 true (bP (fa Q q 41 2 2 x0) fun y => some (y, G1)) G1) fun x5 G6 =>
  bS (gd x4 true (bP (ld Q q 3 x5 G6) fun y => some (y, G6)) G6) fun x7 G8 =>
  bS (gd x4 true (bP (bn Q q .leq 3 (.tmp 8) (.const (.int .i64 64)) x7 (.int .i64 64)) fun y => some (y, G8)) G8) fun x9 G10 =>
  bP (pickV x4 x9 (.bool false)) fun x11 =>
  some (x11, G10)
theorem m140 {e : Ex} {E : Ev} (h : ExLe Q e E) (v0 : Value) (G : GS) : Ref (s140 true e v0 G) (s140 false (Ex.of E) v0 G) := by
  unfold s140
  exact Ref.go
theorem f140 {orc : FuncId → Bool} {e : Ex} (h : ExLe Q e (E orc)) (v0 : Value) (G : GS) : Ref (s140 true e v0 G) ((E orc).cl 140 [v0] G) :=
  fun r hr => cl_sxE_some Q orc (vs := [v0]) G Tryz.func140 (by kernel_rfl) (by kernel_rfl) (by kernel_rfl) (by kernel_rfl) (by kernel_rfl) (by kernel_rfl) (m140 h v0 G r hr)
/-- coxswain/epoch.pins -/
noncomputable def s141 (q : Bool) (e : Ex) (v0 : Value) (G : GS) : Option (Value × GS) :=
  bS (bx q v0 G) fun x0 G1 =>
  some ((.func (.func 176) #[] #[x0]), G1)
theorem m141 {e : Ex} {E : Ev} (h : ExLe Q e E) (v0 : Value) (G : GS) : Ref (s141 true e v0 G) (s141 false (Ex.of E) v0 G) := by
  unfold s141
  exact Ref.go
theorem f141 {orc : FuncId → Bool} {e : Ex} (h : ExLe Q e (E orc)) (v0 : Value) (G : GS) : Ref (s141 true e v0 G) ((E orc).cl 141 [v0] G) :=
  fun r hr => cl_sxE_some Q orc (vs := [v0]) G Tryz.func141 (by kernel_rfl) (by kernel_rfl) (by kernel_rfl) (by kernel_rfl) (by kernel_rfl) (by kernel_rfl) (m141 h v0 G r hr)
/-- coxswain/tower.At -/
noncomputable def s142 (q : Bool) (e : Ex) (v0 v1 v2 : Value) (G : GS) : Option (Value × GS) :=
  bS (bx q v0 G) fun x0 G1 =>
  bP (lda Q q 45 13 x0 G1) fun x2 =>
  bS (e.ev.cl 56 [x2] G1) fun x3 G4 =>
  bP (un Q q .not x3) fun x5 =>
  ifV x5 (
  some ((.int .i64 (-1)), G4)) (
  bP (bn Q q .neq 3 (.tmp 12) (.const (.int .i64 (-1))) v1 (.int .i64 (-1))) fun x6 =>
  ifV x6 (
  bP (lda Q q 45 13 x0 G4) fun x7 =>
  bS (e.ev.cl 177 [x7] G4) fun x8 G9 =>
  bS (e.ev.cl 178 [x8, v1, v2] G9) fun x10 G11 =>
  some (x10, G11)) (
  bP (bn Q q .lss 3 (.tmp 20) (.const (.int .i64 4)) v2 (.int .i64 4)) fun x12 =>
  bS (gd x12 false (some (v2, G4)) G4) fun x13 G14 =>
  bS (gd x12 false (bP (fa Q q 45 2 2 x0) fun y => some (y, G14)) G14) fun x15 G16 =>
  bS (gd x12 false (bP (ld Q q 3 x15 G16) fun y => some (y, G16)) G16) fun x17 G18 =>
  bS (gd x12 false (bP (bn Q q .add 3 (.const (.int .i64 4)) (.tmp 25) (.int .i64 4) x17) fun y => some (y, G18)) G18) fun x19 G20 =>
  bS (gd x12 false (bP (bn Q q .geq 3 (.tmp 23) (.tmp 26) x13 x19) fun y => some (y, G20)) G20) fun x21 G22 =>
  bP (pickV x12 (.bool true) x21) fun x23 =>
  ifV x23 (
  some ((.int .i64 (-1)), G22)) (
  bP (lda Q q 45 13 x0 G22) fun x24 =>
  bS (e.ev.cl 179 [x24] G22) fun x25 G26 =>
  bP (bn Q q .sub 3 (.tmp 31) (.const (.int .i64 4)) v2 (.int .i64 4)) fun x27 =>
  bS (e.ev.cl 180 [x25, (.int .i64 0), x27] G26) fun x28 G29 =>
  some (x28, G29))))
theorem m142 {e : Ex} {E : Ev} (h : ExLe Q e E) (v0 v1 v2 : Value) (G : GS) : Ref (s142 true e v0 v1 v2 G) (s142 false (Ex.of E) v0 v1 v2 G) := by
  unfold s142
  exact Ref.go
theorem f142 {orc : FuncId → Bool} {e : Ex} (h : ExLe Q e (E orc)) (v0 v1 v2 : Value) (G : GS) : Ref (s142 true e v0 v1 v2 G) ((E orc).cl 142 [v0, v1, v2] G) :=
  fun r hr => cl_sxE_some Q orc (vs := [v0, v1, v2]) G Tryz.func142 (by kernel_rfl) (by kernel_rfl) (by kernel_rfl) (by kernel_rfl) (by kernel_rfl) (by kernel_rfl) (m142 h v0 v1 v2 G r hr)
/-- (*coxswain/ready.work).pin$1 -/
noncomputable def s143 (q : Bool) (e : Ex) (v0 : Value) (G : GS) : Option (Value × GS) :=
  bP (ld Q q 187 v0 (G.room 12)) fun x0 =>
  bP (pNil x0) fun x1 =>
  bP (fa Q q 166 0 0 x1) fun x2 =>
  bP (fa Q q 45 3 3 x2) fun x3 =>
  bP (fa Q q 43 1 6 x3) fun x4 =>
  bP (lda Q q 41 3 x4 (G.room 12)) fun x5 =>
  bP (ld Q q 187 v0 (G.room 12)) fun x6 =>
  bP (pNil x6) fun x7 =>
  bP (fa Q q 166 1 13 x7) fun x8 =>
  bP (ld Q q 3 x8 (G.room 12)) fun x9 =>
  bS (e.ev.cl 144 [x5, x9] (G.room 12)) fun x11 G10 =>
  some (x11, G10)
theorem m143 {e : Ex} {E : Ev} (h : ExLe Q e E) (v0 : Value) (G : GS) : Ref (s143 true e v0 G) (s143 false (Ex.of E) v0 G) := by
  unfold s143
  exact Ref.go
theorem f143 {orc : FuncId → Bool} {e : Ex} (h : ExLe Q e (E orc)) (v0 : Value) (G : GS) : Ref (s143 true e v0 G) ((E orc).cl 143 [v0] G) :=
  fun r hr => cl_sxE_some Q orc (vs := [v0]) G Tryz.func143 (by kernel_rfl) (by kernel_rfl) (by kernel_rfl) (by kernel_rfl) (by kernel_rfl) (by kernel_rfl) (m143 h v0 G r hr)
/-- coxswain/epoch.NewPin -/
noncomputable def s144 (q : Bool) (e : Ex) (v0 v1 : Value) (G : GS) : Option (Value × GS) :=
  bS (bx q v0 G) fun x0 G1 =>
  bP (bd Q q 282 z282 [(2, 4, 1)] [(.bool true)]) fun x2 =>
  bP (lda Q q 41 3 x0 G1) fun x3 =>
  bP (bd Q q 285 z285 [(0, 0, 6), (1, 6, 3)] [x2, x3]) fun x4 =>
  bS (bx q x4 G1) fun x5 G6 =>
  bP (lda Q q 41 3 x0 G6) fun x7 =>
  bS (e.ev.cl 181 [x7, v1] G6) fun x8 G9 =>
  ifV x8 (
  bP (pNil x5) fun x10 =>
  bP (fa Q q 285 0 0 x10) fun x11 =>
  bS (e.ev.cl 182 [x11, (.int .i64 3)] G9) fun x12 G13 =>
  some (x5, G13)) (
  bP (fa Q q 41 1 1 x0) fun x14 =>
  bP (ld Q q 3 x14 G9) fun x15 =>
  bP (bn Q q .add 3 (.tmp 20) (.tmp 21) x15 v1) fun x16 =>
  bP (pNil x5) fun x17 =>
  bP (fa Q q 285 2 9 x17) fun x18 =>
  bP (st Q q 3 1 x18 x16 G9) fun G19 =>
  bP (bd Q q 280 z280 [(0, 0, 1), (1, 1, 1), (2, 2, 1)] [(.func (.func 183) #[x5] #[]), (.func (.func 184) #[x5] #[]), (.func (.func 185) #[x5] #[])]) fun x20 =>
  bP (pNil x5) fun x21 =>
  bP (fa Q q 285 0 0 x21) fun x22 =>
  bP (fa Q q 282 0 0 x22) fun x23 =>
  bP (st Q q 280 3 x23 x20 G19) fun G24 =>
  some (x5, G24))
theorem m144 {e : Ex} {E : Ev} (h : ExLe Q e E) (v0 v1 : Value) (G : GS) : Ref (s144 true e v0 v1 G) (s144 false (Ex.of E) v0 v1 G) := by
  unfold s144
  exact Ref.go
theorem f144 {orc : FuncId → Bool} {e : Ex} (h : ExLe Q e (E orc)) (v0 v1 : Value) (G : GS) : Ref (s144 true e v0 v1 G) ((E orc).cl 144 [v0, v1] G) :=
  fun r hr => cl_sxE_some Q orc (vs := [v0, v1]) G Tryz.func144 (by kernel_rfl) (by kernel_rfl) (by kernel_rfl) (by kernel_rfl) (by kernel_rfl) (by kernel_rfl) (m144 h v0 v1 G r hr)
/-- (*coxswain/ready.work).pin$2 -/
noncomputable def s145 (q : Bool) (e : Ex) (v0 v1 : Value) (G : GS) : Option (Value × GS) :=
  bP (ld Q q 187 v1 (G.room 9)) fun x0 =>
  bS (e.ev.cl 146 [v0] (G.room 9)) fun x2 G1 =>
  chk ((sameO (ld Q q 187 v1 G1) x0 && true)) <|
  bP (pExtract x2 0) fun x3 =>
  bP (pExtract x2 1) fun x4 =>
  bP (pNil x0) fun x5 =>
  bP (fa Q q 166 3 15 x5) fun x6 =>
  bP (st Q q 3 1 x6 x3 G1) fun G7 =>
  some (.tuple #[], G7)
theorem m145 {e : Ex} {E : Ev} (h : ExLe Q e E) (v0 v1 : Value) (G : GS) : Ref (s145 true e v0 v1 G) (s145 false (Ex.of E) v0 v1 G) := by
  unfold s145
  exact Ref.go
theorem f145 {orc : FuncId → Bool} {e : Ex} (h : ExLe Q e (E orc)) (v0 v1 : Value) (G : GS) : Ref (s145 true e v0 v1 G) ((E orc).cl 145 [v0, v1] G) :=
  fun r hr => cl_sxE_some Q orc (vs := [v0, v1]) G Tryz.func145 (by kernel_rfl) (by kernel_rfl) (by kernel_rfl) (by kernel_rfl) (by kernel_rfl) (by kernel_rfl) (m145 h v0 v1 G r hr)
/-- (*coxswain/epoch.Pin).At -/
noncomputable def s146 (q : Bool) (e : Ex) (v0 : Value) (G : GS) : Option (Value × GS) :=
  bP (ep Q q false 221 (.tmp 5) (.const (.pointer none)) v0 (.pointer none)) fun x0 =>
  ifV x0 (
  some (.tuple #[(.int .i64 0), (.int .i64 1)], G)) (
  bP (pNil v0) fun x1 =>
  bP (fa Q q 285 0 0 x1) fun x2 =>
  bS (e.ev.cl 186 [x2] G) fun x3 G4 =>
  bP (bn Q q .neq 51 (.tmp 11) (.const (.int .i64 0)) x3 (.int .i64 0)) fun x5 =>
  ifV x5 (
  some (.tuple #[(.int .i64 0), x3], G4)) (
  bP (pNil v0) fun x6 =>
  bP (fa Q q 285 3 10 x6) fun x7 =>
  bP (ld Q q 283 x7 G4) fun x8 =>
  bP (cv Q q 283 3 .u32 .i64 x8) fun x9 =>
  some (.tuple #[x9, (.int .i64 0)], G4)))
theorem m146 {e : Ex} {E : Ev} (h : ExLe Q e E) (v0 : Value) (G : GS) : Ref (s146 true e v0 G) (s146 false (Ex.of E) v0 G) := by
  unfold s146
  exact Ref.go
theorem f146 {orc : FuncId → Bool} {e : Ex} (h : ExLe Q e (E orc)) (v0 : Value) (G : GS) : Ref (s146 true e v0 G) ((E orc).cl 146 [v0] G) :=
  fun r hr => cl_sxE_some Q orc (vs := [v0]) G Tryz.func146 (by kernel_rfl) (by kernel_rfl) (by kernel_rfl) (by kernel_rfl) (by kernel_rfl) (by kernel_rfl) (m146 h v0 G r hr)
/-- (*coxswain/ready.Put).alloc$1 -/
noncomputable def s147 (q : Bool) (e : Ex) (v0 : Value) (G : GS) : Option (Value × GS) :=
  bP (ld Q q 104 v0 G) fun x0 =>
  bP (pNil x0) fun x1 =>
  bP (fa Q q 169 0 0 x1) fun x2 =>
  bP (fa Q q 166 0 0 x2) fun x3 =>
  bP (fa Q q 45 3 3 x3) fun x4 =>
  bP (fa Q q 43 0 0 x4) fun x5 =>
  bP (lda Q q 39 6 x5 G) fun x6 =>
  bS (e.ev.cl 148 [x6] G) fun x7 G8 =>
  some (x7, G8)
theorem m147 {e : Ex} {E : Ev} (h : ExLe Q e E) (v0 : Value) (G : GS) : Ref (s147 true e v0 G) (s147 false (Ex.of E) v0 G) := by
  unfold s147
  exact Ref.go
theorem f147 {orc : FuncId → Bool} {e : Ex} (h : ExLe Q e (E orc)) (v0 : Value) (G : GS) : Ref (s147 true e v0 G) ((E orc).cl 147 [v0] G) :=
  fun r hr => cl_sxE_some Q orc (vs := [v0]) G Tryz.func147 (by kernel_rfl) (by kernel_rfl) (by kernel_rfl) (by kernel_rfl) (by kernel_rfl) (by kernel_rfl) (m147 h v0 G r hr)
/-- coxswain/arena.NewAlloc -/
noncomputable def s148 (q : Bool) (e : Ex) (v0 : Value) (G : GS) : Option (Value × GS) :=
  bS (bx q v0 G) fun x0 G1 =>
  bP (fa Q q 39 0 0 x0) fun x2 =>
  bP (lda Q q 37 3 x2 (G1.room 7)) fun x3 =>
  bS (e.ev.cl 187 [x3] (G1.room 7)) fun x5 G4 =>
  bP (lda Q q 39 6 x0 G4) fun x6 =>
  chk ((sameO (lda Q q 39 6 x0 (G1.room 7)) x6 && true)) <|
  bP (bd Q q 291 z291 [(0, 0, 1), (1, 1, 6), (2, 7, 1), (3, 8, 1)] [x5, x6, (.bool true), (.func (.func 188) #[] #[])]) fun x7 =>
  bS (bx q x7 (G4.at' (G1.nx + 5))) fun x8 G9 =>
  some (x8, (G9.back G4))
theorem m148 {e : Ex} {E : Ev} (h : ExLe Q e E) (v0 : Value) (G : GS) : Ref (s148 true e v0 G) (s148 false (Ex.of E) v0 G) := by
  unfold s148
  exact Ref.go
theorem f148 {orc : FuncId → Bool} {e : Ex} (h : ExLe Q e (E orc)) (v0 : Value) (G : GS) : Ref (s148 true e v0 G) ((E orc).cl 148 [v0] G) :=
  fun r hr => cl_sxE_some Q orc (vs := [v0]) G Tryz.func148 (by kernel_rfl) (by kernel_rfl) (by kernel_rfl) (by kernel_rfl) (by kernel_rfl) (by kernel_rfl) (m148 h v0 G r hr)
noncomputable def b149_0 (q : Bool) (e : Ex) (lp : Env → GS → Option (Exit × Env × GS)) (τ : Env) (G : GS) : Option (Exit × Env × GS) :=
  bV q (τ 2) fun a2_ =>
  bV q (τ 5) fun a5_ =>
  bV q (τ 27) fun a27_ =>
  bV q (τ 28) fun a28_ =>
  bV q (τ 29) fun a29_ =>
  bP (bn Q q .lss 3 (.tmp 29) (.tmp 28) a29_ a28_) fun x0 =>
  ifV x0 (
  bP (ias Q q 294 1 a27_ a29_) fun x1 =>
  bP (ld Q q 172 x1 G) fun x2 =>
  bP (bn Q q .eql 51 (.tmp 33) (.const (.int .i64 7)) a5_ (.int .i64 7)) fun x3 =>
  bS (gd x3 true (bP (ld Q q 104 a2_ G) fun y => some (y, G)) G) fun x4 G5 =>
  bS (gd x3 true (bP (pNil x4) fun y => some (y, G5)) G5) fun x6 G7 =>
  bS (gd x3 true (bP (fa Q q 169 4 22 x6) fun y => some (y, G7)) G7) fun x8 G9 =>
  bS (gd x3 true (bP (ld Q q 3 x8 G9) fun y => some (y, G9)) G9) fun x10 G11 =>
  bS (gd x3 true (bP (bn Q q .lss 3 (.tmp 39) (.const (.int .i64 3)) x10 (.int .i64 3)) fun y => some (y, G11)) G11) fun x12 G13 =>
  bP (pickV x3 x12 (.bool false)) fun x14 =>
  ifV x14 (
  bP (ld Q q 104 a2_ G13) fun x15 =>
  bP (pNil x15) fun x16 =>
  bP (fa Q q 169 4 22 x16) fun x17 =>
  bP (ld Q q 3 x17 G13) fun x18 =>
  bP (bn Q q .add 3 (.tmp 45) (.const (.int .i64 1)) x18 (.int .i64 1)) fun x19 =>
  bP (pNil x15) fun x20 =>
  bP (fa Q q 169 4 22 x20) fun x21 =>
  bP (st Q q 3 1 x21 x19 G13) fun G22 =>
  bP (ld Q q 104 a2_ (G22.room 13)) fun x23 =>
  bP (pNil x23) fun x24 =>
  bP (fa Q q 169 0 0 x24) fun x25 =>
  bP (ld Q q 104 a2_ (G22.room 13)) fun x26 =>
  bP (pNil x26) fun x27 =>
  bP (fa Q q 169 0 0 x27) fun x28 =>
  bP (ld Q q 104 a2_ (G22.room 13)) fun x29 =>
  bS (bs Q q 294 4 (rep z172 4) 1 [(0, 0, 1), (1, 1, 1), (2, 2, 1), (3, 3, 1)] [(.func (.func 192) #[] #[a2_]), (.func (.func 110) #[x25] #[]), (.func (.func 100) #[x28] #[]), (.func (.func 101) #[x29] #[])] ((G22.room 13).at' (G22.nx + 11))) fun x30 G31 =>
  some ((.goto 0), clq q 91 (tu τ [(2, a2_), (5, (.int .i64 0)), (27, a27_), (28, a28_), (29, a29_), (6, x30), (8, x2), (30, x0), (31, x1), (32, x2), (33, a5_), (34, x3), (35, x3), (36, x4), (37, x6), (38, x8), (39, x10), (40, x12), (41, x14), (42, x15), (43, x16), (44, x17), (45, x18), (46, x19), (47, x20), (48, x21), (49, (.func (.func 192) #[] #[a2_])), (50, x23), (51, x24), (52, x25), (53, (.func (.func 110) #[x25] #[])), (54, x26), (55, x27), (56, x28), (57, (.func (.func 100) #[x28] #[])), (58, x29), (59, (.func (.func 101) #[x29] #[])), (60, x30)]), (G31.back (G22.room 13)))) (
  bP (bn Q q .neq 51 (.tmp 61) (.const (.int .i64 0)) a5_ (.int .i64 0)) fun x32 =>
  ifV x32 (
  bP (ld Q q 104 a2_ G13) fun x33 =>
  bP (pNil x33) fun x34 =>
  bP (fa Q q 169 0 0 x34) fun x35 =>
  bP (fa Q q 166 6 18 x35) fun x36 =>
  bP (st Q q 51 1 x36 a5_ G13) fun G37 =>
  bP (ld Q q 104 a2_ (G37.room 10)) fun x38 =>
  bP (ld Q q 104 a2_ (G37.room 10)) fun x39 =>
  bP (pNil x39) fun x40 =>
  bP (fa Q q 169 0 0 x40) fun x41 =>
  bS (e.ev.cl 110 [x41] (G37.room 10)) fun x43 G42 =>
  chk ((sameO (ld Q q 104 a2_ G42) x38 && true)) <|
  bS (bs Q q 164 1 (rep z171 1) 1 [(0, 0, 1)] [x43] (G42.at' (G37.nx + 5))) fun x44 G45 =>
  bP (pNil x38) fun x46 =>
  bP (fa Q q 169 0 0 x46) fun x47 =>
  bP (fa Q q 166 4 16 x47) fun x48 =>
  bP (st Q q 164 1 x48 x44 (G45.back G42)) fun G49 =>
  some (.ret, clq q 91 (tu τ [(2, a2_), (5, a5_), (27, a27_), (28, a28_), (29, a29_), (8, x2), (30, x0), (31, x1), (32, x2), (33, a5_), (34, x3), (35, x3), (36, x4), (37, x6), (38, x8), (39, x10), (40, x12), (41, x14), (61, a5_), (62, x32), (63, x33), (64, a5_), (65, x34), (66, x35), (67, x36), (68, x38), (69, x39), (70, x40), (71, x41), (72, x43), (73, x44), (74, x46), (75, x47), (76, x48)]), G49)) (
  bP (ld Q q 104 a2_ (G13.room 14)) fun x50 =>
  bP (ld Q q 104 a2_ (G13.room 14)) fun x51 =>
  bP (pNil x51) fun x52 =>
  bP (fa Q q 169 0 0 x52) fun x53 =>
  bP (fa Q q 166 4 16 x53) fun x54 =>
  bP (ld Q q 164 x54 (G13.room 14)) fun x55 =>
  bS (cValue e.ev x2 [] (G13.room 14)) fun x57 G56 =>
  chk ((sameO (ld Q q 164 x54 G56) x55 && (sameO (ld Q q 104 a2_ G56) x51 && (sameO (ld Q q 104 a2_ G56) x50 && true)))) <|
  bS (bs Q q 164 1 (rep z171 1) 1 [(0, 0, 1)] [x57] (G56.at' (G13.nx + 8))) fun x58 G59 =>
  bS (ap Q q 164 164 1 16 x55 x58 (G59.back G56)) fun x61 G60 =>
  chk ((sameO (ld Q q 104 a2_ G60) x50 && true)) <|
  bP (pNil x50) fun x62 =>
  bP (fa Q q 169 0 0 x62) fun x63 =>
  bP (fa Q q 166 4 16 x63) fun x64 =>
  bP (st Q q 164 1 x64 x61 G60) fun G65 =>
  bP (bn Q q .add 3 (.tmp 29) (.const (.int .i64 1)) a29_ (.int .i64 1)) fun x66 =>
  lp (tu τ [(2, a2_), (5, a5_), (27, a27_), (28, a28_), (29, x66), (8, x2), (30, x0), (31, x1), (32, x2), (33, a5_), (34, x3), (35, x3), (36, x4), (37, x6), (38, x8), (39, x10), (40, x12), (41, x14), (61, a5_), (62, x32), (77, x50), (78, x51), (79, x52), (80, x53), (81, x54), (82, x55), (83, x2), (84, x57), (85, x58), (86, x61), (87, x62), (88, x63), (89, x64), (90, x66)]) G65))) (
  some ((.exit 0), clq q 91 (tu τ [(2, a2_), (5, a5_), (27, a27_), (28, a28_), (29, a29_), (30, x0)]), G))
theorem mb149_0 {e : Ex} {E : Ev} (h : ExLe Q e E) {lp lp' : Env → GS → Option (Exit × Env × GS)} (hlp : LpLe lp lp') (τ : Env) (G : GS) : Ref (b149_0 true e lp τ G) (b149_0 false (Ex.of E) lp' τ G) := by
  unfold b149_0
  exact Ref.go
set_option maxHeartbeats 8000000 in
theorem l149_0 {orc : FuncId → Bool} {e : Ex} (h : ExLe Q e (E orc)) (lp : Env → GS → Option (Exit × Env × GS)) (hlp : ∀ τ G, Ref (lp τ G) (mapE ((E orc).lp (subAt [1, 0, 1, 1, 1, 1, 1, 0, 0] (bodyOf Tryz.f149)) (lst 91 τ) G))) (T : List Value) (G : GS) (hT : T.length = 91) : Ref (b149_0 true e lp (nth undef T) G) (mapE ((E orc).lp (subAt [1, 0, 1, 1, 1, 1, 1, 0, 0] (bodyOf Tryz.f149)) T G)) :=
  fun r hr => lp_sxM Q orc G hT (by kernel_rfl) (mb149_0 h ⟨hlp⟩ _ _ r hr)
/-- (*coxswain/ready.Put).given -/
noncomputable def s149 (q : Bool) (e : Ex) (v0 v1 : Value) (G : GS) : Option (Value × GS) :=
  bS (bx q v0 G) fun x0 G1 =>
  bS (e.ev.cl 189 [v1] G1) fun x2 G3 =>
  bP (pExtract x2 0) fun x4 =>
  bP (pExtract x2 1) fun x5 =>
  bP (ld Q q 104 x0 G3) fun x6 =>
  bP (pNil x6) fun x7 =>
  bP (fa Q q 169 5 23 x7) fun x8 =>
  bP (st Q q 23 1 x8 x4 G3) fun G9 =>
  bP (ld Q q 104 x0 (G9.room 10)) fun x10 =>
  bP (ld Q q 104 x0 (G9.room 10)) fun x11 =>
  bP (ld Q q 104 x0 (G9.room 10)) fun x12 =>
  bP (pNil x12) fun x13 =>
  bP (fa Q q 169 0 0 x13) fun x14 =>
  bS (bs Q q 294 3 (rep z172 3) 1 [(0, 0, 1), (1, 1, 1), (2, 2, 1)] [(.func (.func 190) #[x10] #[]), (.func (.func 191) #[x11] #[]), (.func (.func 110) #[x14] #[])] ((G9.room 10).at' (G9.nx + 8))) fun x15 G16 =>
  bP (ln Q q 294 x15) fun x17 =>
  bL q e 149 0 (subAt [1, 0, 1, 1, 1, 1, 1, 0, 0] (bodyOf Tryz.f149)) 91 (tu (nth undef [v0, v1]) [(2, x0), (4, x4), (5, x5), (6, x15), (9, x2), (10, v1), (11, x2), (12, x4), (13, x5), (14, x6), (15, x4), (16, x7), (17, x8), (18, x10), (19, (.func (.func 190) #[x10] #[])), (20, x11), (21, (.func (.func 191) #[x11] #[])), (22, x12), (23, x13), (24, x14), (25, (.func (.func 110) #[x14] #[])), (26, x15), (27, x15), (28, x17), (29, (.int .i64 0))]) (G16.back (G9.room 10)) fun e18 t19 G20 =>
  ifE e18 (.exit 0) (
  some (.tuple #[], G20)) (ifE e18 (.goto 0) (
  bX (e.ev.sc (subAt [1, 0] (bodyOf Tryz.f149)) (labelAt 0 (subAt [1, 0] (bodyOf Tryz.f149))) (lst 91 t19) G20) fun e21 T22 G23 =>
  ifE e21 .normal (
  some (.tuple #[], G23)) (ifE e21 (.goto 0) (
  none) (ifE e21 .ret (
  some (.tuple #[], G23)) (none)))) (ifE e18 .ret (
  some (.tuple #[], G20)) (none)))
theorem m149 {e : Ex} {E : Ev} (h : ExLe Q e E) (v0 v1 : Value) (G : GS) : Ref (s149 true e v0 v1 G) (s149 false (Ex.of E) v0 v1 G) := by
  unfold s149
  exact Ref.go
set_option maxHeartbeats 8000000 in
theorem f149 {orc : FuncId → Bool} {e : Ex} (h : ExLe Q e (E orc)) (v0 v1 : Value) (G : GS) : Ref (s149 true e v0 v1 G) ((E orc).cl 149 [v0, v1] G) :=
  fun r hr => cl_sxE_some Q orc (vs := [v0, v1]) G Tryz.func149 (by kernel_rfl) (by kernel_rfl) (by kernel_rfl) (by kernel_rfl) (by kernel_rfl) (by kernel_rfl) (m149 h v0 v1 G r hr)
/-- coxswain/claim.seek[struct{}] -/
noncomputable def s150 (q : Bool) (e : Ex) (v0 : Value) (G : GS) : Option (Value × GS) :=
  bS (bx q v0 G) fun x0 G1 =>
  bS (al Q q 243 z243 G1) fun x2 G3 =>
  bP (lda Q q 45 13 x0 G3) fun x4 =>
  bS (e.ev.cl 194 [x4, (.int .i64 (-1)), (.int .i64 0)] G3) fun x5 G6 =>
  bP (bn Q q .lss 3 (.tmp 4) (.const (.int .i64 0)) x5 (.int .i64 0)) fun x7 =>
  ifV x7 (
  bP (bd Q q 243 z243 [(8, 20, 1), (2, 13, 1), (9, 21, 1)] [(.bool true), (.int .i64 99), (.int .i64 2)]) fun x8 =>
  bP (st Q q 243 22 x2 x8 G6) fun G9 =>
  bP (lda Q q 243 22 x2 G9) fun x10 =>
  some (x10, G9)) (
  bP (lda Q q 45 13 x0 G6) fun x11 =>
  bP (bd Q q 243 z243 [(0, 0, 13), (8, 20, 1), (2, 13, 1)] [x11, (.bool true), (.int .i64 1)]) fun x12 =>
  bP (st Q q 243 22 x2 x12 G6) fun G13 =>
  bP (lda Q q 243 22 x2 G13) fun x14 =>
  some (x14, G13))
theorem m150 {e : Ex} {E : Ev} (h : ExLe Q e E) (v0 : Value) (G : GS) : Ref (s150 true e v0 G) (s150 false (Ex.of E) v0 G) := by
  unfold s150
  exact Ref.go
theorem f150 {orc : FuncId → Bool} {e : Ex} (h : ExLe Q e (E orc)) (v0 : Value) (G : GS) : Ref (s150 true e v0 G) ((E orc).cl 150 [v0] G) :=
  fun r hr => cl_sxE_some Q orc (vs := [v0]) G Tryz.func150 (by kernel_rfl) (by kernel_rfl) (by kernel_rfl) (by kernel_rfl) (by kernel_rfl) (by kernel_rfl) (m150 h v0 G r hr)
/-- (*coxswain/claim.seeker[struct{}]).item -/
noncomputable def s151 (q : Bool) (e : Ex) (v0 : Value) (G : GS) : Option (Value × GS) :=
  bS (al Q q 120 z120 G) fun x0 G1 =>
  bP (pNil v0) fun x2 =>
  bP (fa Q q 243 8 20 x2) fun x3 =>
  bP (ld Q q 4 x3 G1) fun x4 =>
  bP (un Q q .not x4) fun x5 =>
  ifV x5 (
  bP (bd Q q 120 z120 [] []) fun x6 =>
  bP (st Q q 120 2 x0 x6 G1) fun G7 =>
  bP (lda Q q 120 2 x0 G7) fun x8 =>
  some (.tuple #[x8, (.int .i64 1)], G7)) (
  bP (pNil v0) fun x9 =>
  bP (fa Q q 243 2 13 x9) fun x10 =>
  bP (ld Q q 3 x10 G1) fun x11 =>
  bP (bn Q q .neq 3 (.tmp 15) (.const (.int .i64 99)) x11 (.int .i64 99)) fun x12 =>
  ifV x12 (
  bP (bd Q q 120 z120 [] []) fun x13 =>
  bP (st Q q 120 2 x0 x13 G1) fun G14 =>
  bP (lda Q q 120 2 x0 G14) fun x15 =>
  some (.tuple #[x15, (.int .i64 14)], G14)) (
  bP (pNil v0) fun x16 =>
  bP (fa Q q 243 9 21 x16) fun x17 =>
  bP (ld Q q 51 x17 G1) fun x18 =>
  bP (bn Q q .neq 51 (.tmp 22) (.const (.int .i64 0)) x18 (.int .i64 0)) fun x19 =>
  ifV x19 (
  bP (bd Q q 120 z120 [] []) fun x20 =>
  bP (pNil v0) fun x21 =>
  bP (fa Q q 243 9 21 x21) fun x22 =>
  bP (ld Q q 51 x22 (G1.room 7)) fun x23 =>
  bP (st Q q 120 2 x0 x20 (G1.room 7)) fun G24 =>
  chk ((sameO (ld Q q 51 x22 G24) x23 && true)) <|
  bP (lda Q q 120 2 x0 G24) fun x25 =>
  some (.tuple #[x25, x23], G24)) (
  bP (pNil v0) fun x26 =>
  bP (fa Q q 243 6 17 x26) fun x27 =>
  bP (lda Q q 120 2 x27 G1) fun x28 =>
  bP (st Q q 120 2 x0 x28 G1) fun G29 =>
  bP (lda Q q 120 2 x0 G29) fun x30 =>
  some (.tuple #[x30, (.int .i64 0)], G29))))
theorem m151 {e : Ex} {E : Ev} (h : ExLe Q e E) (v0 : Value) (G : GS) : Ref (s151 true e v0 G) (s151 false (Ex.of E) v0 G) := by
  unfold s151
  exact Ref.go
theorem f151 {orc : FuncId → Bool} {e : Ex} (h : ExLe Q e (E orc)) (v0 : Value) (G : GS) : Ref (s151 true e v0 G) ((E orc).cl 151 [v0] G) :=
  fun r hr => cl_sxE_some Q orc (vs := [v0]) G Tryz.func151 (by kernel_rfl) (by kernel_rfl) (by kernel_rfl) (by kernel_rfl) (by kernel_rfl) (by kernel_rfl) (m151 h v0 G r hr)
/-- (*coxswain/ready.work).unpin$1 -/
noncomputable def s152 (q : Bool) (e : Ex) (v0 : Value) (G : GS) : Option (Value × GS) :=
  bP (ld Q q 187 v0 (G.room 12)) fun x0 =>
  bP (pNil x0) fun x1 =>
  bP (fa Q q 166 0 0 x1) fun x2 =>
  bP (fa Q q 45 3 3 x2) fun x3 =>
  bP (fa Q q 43 1 6 x3) fun x4 =>
  bP (lda Q q 41 3 x4 (G.room 12)) fun x5 =>
  bP (ld Q q 187 v0 (G.room 12)) fun x6 =>
  bP (pNil x6) fun x7 =>
  bP (fa Q q 166 1 13 x7) fun x8 =>
  bP (ld Q q 3 x8 (G.room 12)) fun x9 =>
  bS (e.ev.cl 153 [x5, x9] (G.room 12)) fun x11 G10 =>
  some (x11, G10)
theorem m152 {e : Ex} {E : Ev} (h : ExLe Q e E) (v0 : Value) (G : GS) : Ref (s152 true e v0 G) (s152 false (Ex.of E) v0 G) := by
  unfold s152
  exact Ref.go
theorem f152 {orc : FuncId → Bool} {e : Ex} (h : ExLe Q e (E orc)) (v0 : Value) (G : GS) : Ref (s152 true e v0 G) ((E orc).cl 152 [v0] G) :=
  fun r hr => cl_sxE_some Q orc (vs := [v0]) G Tryz.func152 (by kernel_rfl) (by kernel_rfl) (by kernel_rfl) (by kernel_rfl) (by kernel_rfl) (by kernel_rfl) (m152 h v0 G r hr)
/-- coxswain/epoch.NewUnpin -/
noncomputable def s153 (q : Bool) (e : Ex) (v0 v1 : Value) (G : GS) : Option (Value × GS) :=
  bS (bx q v0 G) fun x0 G1 =>
  bP (bd Q q 282 z282 [(2, 4, 1)] [(.bool true)]) fun x2 =>
  bP (fa Q q 41 1 1 x0) fun x3 =>
  bP (ld Q q 3 x3 G1) fun x4 =>
  bP (bn Q q .add 3 (.tmp 8) (.tmp 9) x4 v1) fun x5 =>
  bP (bd Q q 298 z298 [(0, 0, 6), (1, 6, 1)] [x2, x5]) fun x6 =>
  bS (bx q x6 G1) fun x7 G8 =>
  bP (lda Q q 41 3 x0 G8) fun x9 =>
  bS (e.ev.cl 181 [x9, v1] G8) fun x10 G11 =>
  ifV x10 (
  bP (pNil x7) fun x12 =>
  bP (fa Q q 298 0 0 x12) fun x13 =>
  bS (e.ev.cl 182 [x13, (.int .i64 3)] G11) fun x14 G15 =>
  some (x7, G15)) (
  bP (pNil x7) fun x16 =>
  bP (fa Q q 298 0 0 x16) fun x17 =>
  bP (fa Q q 282 0 0 x17) fun x18 =>
  bP (iaa Q q 280 3 1 x18 (.int .i64 0)) fun x19 =>
  bP (st Q q 124 1 x19 (.func (.func 195) #[x7] #[]) G11) fun G20 =>
  some (x7, G20))
theorem m153 {e : Ex} {E : Ev} (h : ExLe Q e E) (v0 v1 : Value) (G : GS) : Ref (s153 true e v0 v1 G) (s153 false (Ex.of E) v0 v1 G) := by
  unfold s153
  exact Ref.go
theorem f153 {orc : FuncId → Bool} {e : Ex} (h : ExLe Q e (E orc)) (v0 v1 : Value) (G : GS) : Ref (s153 true e v0 v1 G) ((E orc).cl 153 [v0, v1] G) :=
  fun r hr => cl_sxE_some Q orc (vs := [v0, v1]) G Tryz.func153 (by kernel_rfl) (by kernel_rfl) (by kernel_rfl) (by kernel_rfl) (by kernel_rfl) (by kernel_rfl) (m153 h v0 v1 G r hr)
/-- coxswain/stack.sized -/
noncomputable def s174 (q : Bool) (e : Ex) (v0 : Value) (G : GS) : Option (Value × GS) :=
  bS (bx q v0 G) fun x0 G1 =>
  bP (fa Q q 37 2 2 x0) fun x2 =>
  bP (ld Q q 3 x2 G1) fun x3 =>
  bP (bn Q q .geq 3 (.tmp 4) (.const (.int .i64 1)) x3 (.int .i64 1)) fun x4 =>
  bS (gd x4 true (bP (fa Q q 37 2 2 x0) fun y => some (y, G1)) G1) fun x5 G6 =>
  bS (gd x4 true (bP (ld Q q 3 x5 G6) fun y => some (y, G6)) G6) fun x7 G8 =>
  bS (gd x4 true (bP (bn Q q .leq 3 (.tmp 8) (.const (.int .i64 4096)) x7 (.int .i64 4096)) fun y => some (y, G8)) G8) fun x9 G10 =>
  bP (pickV x4 x9 (.bool false)) fun x11 =>
  some (x11, G10)
theorem m174 {e : Ex} {E : Ev} (h : ExLe Q e E) (v0 : Value) (G : GS) : Ref (s174 true e v0 G) (s174 false (Ex.of E) v0 G) := by
  unfold s174
  exact Ref.go
theorem f174 {orc : FuncId → Bool} {e : Ex} (h : ExLe Q e (E orc)) (v0 : Value) (G : GS) : Ref (s174 true e v0 G) ((E orc).cl 174 [v0] G) :=
  fun r hr => cl_sxE_some Q orc (vs := [v0]) G Tryz.func174 (by kernel_rfl) (by kernel_rfl) (by kernel_rfl) (by kernel_rfl) (by kernel_rfl) (by kernel_rfl) (m174 h v0 G r hr)
/-- coxswain/stack.link -/
noncomputable def s175 (q : Bool) (e : Ex) (v0 : Value) (G : GS) : Option (Value × GS) :=
  bP (bd Q q 313 z313 [(0, 0, 1)] [v0]) fun x0 =>
  bS (e.ev.cl 212 [x0] G) fun x1 G2 =>
  bP (pExtract x1 0) fun x3 =>
  bP (pExtract x1 1) fun x4 =>
  some (x3, G2)
theorem m175 {e : Ex} {E : Ev} (h : ExLe Q e E) (v0 : Value) (G : GS) : Ref (s175 true e v0 G) (s175 false (Ex.of E) v0 G) := by
  unfold s175
  exact Ref.go
theorem f175 {orc : FuncId → Bool} {e : Ex} (h : ExLe Q e (E orc)) (v0 : Value) (G : GS) : Ref (s175 true e v0 G) ((E orc).cl 175 [v0] G) :=
  fun r hr => cl_sxE_some Q orc (vs := [v0]) G Tryz.func175 (by kernel_rfl) (by kernel_rfl) (by kernel_rfl) (by kernel_rfl) (by kernel_rfl) (by kernel_rfl) (m175 h v0 G r hr)
noncomputable def b176_0 (q : Bool) (e : Ex) (lp : Env → GS → Option (Exit × Env × GS)) (τ : Env) (G : GS) : Option (Exit × Env × GS) :=
  bV q (τ 0) fun a0_ =>
  bV q (τ 1) fun a1_ =>
  bV q (τ 5) fun a5_ =>
  bV q (τ 6) fun a6_ =>
  bP (bn Q q .lss 3 (.tmp 6) (.tmp 5) a6_ a5_) fun x0 =>
  ifV x0 (
  bP (fa Q q 41 1 1 a1_) fun x1 =>
  bP (ld Q q 3 x1 G) fun x2 =>
  bP (bn Q q .add 3 (.tmp 12) (.tmp 13) x2 a6_) fun x3 =>
  bS (cValue e.ev a0_ [a6_, x3] G) fun x4 G5 =>
  bP (un Q q .not x4) fun x6 =>
  ifV x6 (
  some (.ret, clq q 18 (tu τ [(0, a0_), (1, a1_), (5, a5_), (6, a6_), (3, a6_), (7, x0), (8, a6_), (9, a0_), (10, a6_), (11, x1), (12, x2), (13, a6_), (14, x3), (15, x4), (16, x6)]), G5)) (
  bP (bn Q q .add 3 (.tmp 6) (.const (.int .i64 1)) a6_ (.int .i64 1)) fun x7 =>
  lp (tu τ [(0, a0_), (1, a1_), (5, a5_), (6, x7), (3, a6_), (7, x0), (8, a6_), (9, a0_), (10, a6_), (11, x1), (12, x2), (13, a6_), (14, x3), (15, x4), (16, x6), (17, x7)]) G5)) (
  some ((.exit 0), clq q 18 (tu τ [(0, a0_), (1, a1_), (5, a5_), (6, a6_), (7, x0)]), G))
theorem mb176_0 {e : Ex} {E : Ev} (h : ExLe Q e E) {lp lp' : Env → GS → Option (Exit × Env × GS)} (hlp : LpLe lp lp') (τ : Env) (G : GS) : Ref (b176_0 true e lp τ G) (b176_0 false (Ex.of E) lp' τ G) := by
  unfold b176_0
  exact Ref.go
theorem l176_0 {orc : FuncId → Bool} {e : Ex} (h : ExLe Q e (E orc)) (lp : Env → GS → Option (Exit × Env × GS)) (hlp : ∀ τ G, Ref (lp τ G) (mapE ((E orc).lp (subAt [1, 0, 0] (bodyOf Tryz.f176)) (lst 18 τ) G))) (T : List Value) (G : GS) (hT : T.length = 18) : Ref (b176_0 true e lp (nth undef T) G) (mapE ((E orc).lp (subAt [1, 0, 0] (bodyOf Tryz.f176)) T G)) :=
  fun r hr => lp_sxM Q orc G hT (by kernel_rfl) (mb176_0 h ⟨hlp⟩ _ _ r hr)
/-- coxswain/epoch.pins$1 -/
noncomputable def s176 (q : Bool) (e : Ex) (v0 v1 : Value) (G : GS) : Option (Value × GS) :=
  bP (fa Q q 41 2 2 v1) fun x0 =>
  bP (ld Q q 3 x0 G) fun x1 =>
  bL q e 176 0 (subAt [1, 0, 0] (bodyOf Tryz.f176)) 18 (tu (nth undef [v0, v1]) [(4, x0), (5, x1), (6, (.int .i64 0))]) G fun e2 t3 G4 =>
  ifE e2 (.exit 0) (
  some (.tuple #[], G4)) (ifE e2 .ret (
  some (.tuple #[], G4)) (none))
theorem m176 {e : Ex} {E : Ev} (h : ExLe Q e E) (v0 v1 : Value) (G : GS) : Ref (s176 true e v0 v1 G) (s176 false (Ex.of E) v0 v1 G) := by
  unfold s176
  exact Ref.go
theorem f176 {orc : FuncId → Bool} {e : Ex} (h : ExLe Q e (E orc)) (v0 v1 : Value) (G : GS) : Ref (s176 true e v0 v1 G) ((E orc).cl 176 [v0, v1] G) :=
  fun r hr => cl_sxE_some Q orc (vs := [v0, v1]) G Tryz.func176 (by kernel_rfl) (by kernel_rfl) (by kernel_rfl) (by kernel_rfl) (by kernel_rfl) (by kernel_rfl) (m176 h v0 v1 G r hr)
/-- coxswain/tower.nodes -/
noncomputable def s177 (q : Bool) (e : Ex) (v0 : Value) (G : GS) : Option (Value × GS) :=
  bS (bx q v0 G) fun x0 G1 =>
  bS (al Q q 274 z274 G1) fun x2 G3 =>
  bP (fa Q q 45 0 0 x0) fun x4 =>
  bP (ld Q q 3 x4 G3) fun x5 =>
  bP (fa Q q 45 3 3 x0) fun x6 =>
  bP (fa Q q 43 0 0 x6) fun x7 =>
  bP (fa Q q 39 0 0 x7) fun x8 =>
  bP (fa Q q 37 2 2 x8) fun x9 =>
  bP (ld Q q 3 x9 G3) fun x10 =>
  bP (fa Q q 45 2 2 x0) fun x11 =>
  bP (ld Q q 3 x11 G3) fun x12 =>
  bP (bd Q q 274 z274 [(0, 0, 1), (1, 1, 1), (2, 2, 1)] [x5, x10, x12]) fun x13 =>
  bP (st Q q 274 3 x2 x13 G3) fun G14 =>
  bP (lda Q q 274 3 x2 G14) fun x15 =>
  some (x15, G14)
theorem m177 {e : Ex} {E : Ev} (h : ExLe Q e E) (v0 : Value) (G : GS) : Ref (s177 true e v0 G) (s177 false (Ex.of E) v0 G) := by
  unfold s177
  exact Ref.go
theorem f177 {orc : FuncId → Bool} {e : Ex} (h : ExLe Q e (E orc)) (v0 : Value) (G : GS) : Ref (s177 true e v0 G) ((E orc).cl 177 [v0] G) :=
  fun r hr => cl_sxE_some Q orc (vs := [v0]) G Tryz.func177 (by kernel_rfl) (by kernel_rfl) (by kernel_rfl) (by kernel_rfl) (by kernel_rfl) (by kernel_rfl) (m177 h v0 G r hr)
/-- (coxswain/tower.rows[coxswain/tower.node]).at -/
noncomputable def s178 (q : Bool) (e : Ex) (v0 v1 v2 : Value) (G : GS) : Option (Value × GS) :=
  bS (bx q v0 G) fun x0 G1 =>
  bP (bn Q q .lss 3 (.tmp 7) (.const (.int .i64 0)) v1 (.int .i64 0)) fun x2 =>
  bS (gd x2 false (some (v1, G1)) G1) fun x3 G4 =>
  bS (gd x2 false (bP (fa Q q 274 1 1 x0) fun y => some (y, G4)) G4) fun x5 G6 =>
  bS (gd x2 false (bP (ld Q q 3 x5 G6) fun y => some (y, G6)) G6) fun x7 G8 =>
  bS (gd x2 false (bP (bn Q q .geq 3 (.tmp 10) (.tmp 12) x3 x7) fun y => some (y, G8)) G8) fun x9 G10 =>
  bP (pickV x2 (.bool true) x9) fun x11 =>
  bS (gd x11 false (some (v2, G10)) G10) fun x12 G13 =>
  bS (gd x11 false (bP (bn Q q .lss 3 (.tmp 16) (.const (.int .i64 0)) x12 (.int .i64 0)) fun y => some (y, G13)) G13) fun x14 G15 =>
  bP (pickV x11 (.bool true) x14) fun x16 =>
  bS (gd x16 false (some (v2, G15)) G15) fun x17 G18 =>
  bS (gd x16 false (bP (fa Q q 274 2 2 x0) fun y => some (y, G18)) G18) fun x19 G20 =>
  bS (gd x16 false (bP (ld Q q 272 x19 G20) fun y => some (y, G20)) G20) fun x21 G22 =>
  bS (gd x16 false (bP (ifc Q q 272 x21) fun y => some (y, G22)) G22) fun x23 G24 =>
  bS (gd x16 false (bS (cInvoke Q e.ev x23 "coxswain/tower.cells" [] G24) fun y G => some (y, G)) G24) fun x25 G26 =>
  bS (gd x16 false (bP (bn Q q .geq 3 (.tmp 20) (.tmp 24) x17 x25) fun y => some (y, G26)) G26) fun x27 G28 =>
  bP (pickV x16 (.bool true) x27) fun x29 =>
  ifV x29 (
  some ((.int .i64 (-1)), G28)) (
  bP (fa Q q 274 0 0 x0) fun x30 =>
  bP (ld Q q 3 x30 (G28.room 12)) fun x31 =>
  bP (fa Q q 274 2 2 x0) fun x32 =>
  bP (ld Q q 272 x32 (G28.room 12)) fun x33 =>
  bP (ifc Q q 272 x33) fun x34 =>
  bS (cInvoke Q e.ev x34 "coxswain/tower.cells" [] (G28.room 12)) fun x36 G35 =>
  chk ((sameO (ld Q q 3 x30 G35) x31 && true)) <|
  bP (bn Q q .mul 3 (.tmp 29) (.tmp 33) v1 x36) fun x37 =>
  bP (bn Q q .add 3 (.tmp 28) (.tmp 34) x31 x37) fun x38 =>
  bP (bn Q q .add 3 (.tmp 35) (.tmp 36) x38 v2) fun x39 =>
  some (x39, G35))
theorem m178 {e : Ex} {E : Ev} (h : ExLe Q e E) (v0 v1 v2 : Value) (G : GS) : Ref (s178 true e v0 v1 v2 G) (s178 false (Ex.of E) v0 v1 v2 G) := by
  unfold s178
  exact Ref.go
theorem f178 {orc : FuncId → Bool} {e : Ex} (h : ExLe Q e (E orc)) (v0 v1 v2 : Value) (G : GS) : Ref (s178 true e v0 v1 v2 G) ((E orc).cl 178 [v0, v1, v2] G) :=
  fun r hr => cl_sxE_some Q orc (vs := [v0, v1, v2]) G Tryz.func178 (by kernel_rfl) (by kernel_rfl) (by kernel_rfl) (by kernel_rfl) (by kernel_rfl) (by kernel_rfl) (m178 h v0 v1 v2 G r hr)
/-- coxswain/tower.heads -/
noncomputable def s179 (q : Bool) (e : Ex) (v0 : Value) (G : GS) : Option (Value × GS) :=
  bS (bx q v0 G) fun x0 G1 =>
  bS (al Q q 278 z278 G1) fun x2 G3 =>
  bP (fa Q q 45 1 1 x0) fun x4 =>
  bP (ld Q q 3 x4 G3) fun x5 =>
  bP (fa Q q 45 2 2 x0) fun x6 =>
  bP (ld Q q 3 x6 G3) fun x7 =>
  bP (bd Q q 278 z278 [(0, 0, 1), (1, 1, 1), (2, 2, 1)] [x5, (.int .i64 1), x7]) fun x8 =>
  bP (st Q q 278 3 x2 x8 G3) fun G9 =>
  bP (lda Q q 278 3 x2 G9) fun x10 =>
  some (x10, G9)
theorem m179 {e : Ex} {E : Ev} (h : ExLe Q e E) (v0 : Value) (G : GS) : Ref (s179 true e v0 G) (s179 false (Ex.of E) v0 G) := by
  unfold s179
  exact Ref.go
theorem f179 {orc : FuncId → Bool} {e : Ex} (h : ExLe Q e (E orc)) (v0 : Value) (G : GS) : Ref (s179 true e v0 G) ((E orc).cl 179 [v0] G) :=
  fun r hr => cl_sxE_some Q orc (vs := [v0]) G Tryz.func179 (by kernel_rfl) (by kernel_rfl) (by kernel_rfl) (by kernel_rfl) (by kernel_rfl) (by kernel_rfl) (m179 h v0 G r hr)
/-- (coxswain/tower.rows[coxswain/tower.head]).at -/
noncomputable def s180 (q : Bool) (e : Ex) (v0 v1 v2 : Value) (G : GS) : Option (Value × GS) :=
  bS (bx q v0 G) fun x0 G1 =>
  bP (bn Q q .lss 3 (.tmp 7) (.const (.int .i64 0)) v1 (.int .i64 0)) fun x2 =>
  bS (gd x2 false (some (v1, G1)) G1) fun x3 G4 =>
  bS (gd x2 false (bP (fa Q q 278 1 1 x0) fun y => some (y, G4)) G4) fun x5 G6 =>
  bS (gd x2 false (bP (ld Q q 3 x5 G6) fun y => some (y, G6)) G6) fun x7 G8 =>
  bS (gd x2 false (bP (bn Q q .geq 3 (.tmp 10) (.tmp 12) x3 x7) fun y => some (y, G8)) G8) fun x9 G10 =>
  bP (pickV x2 (.bool true) x9) fun x11 =>
  bS (gd x11 false (some (v2, G10)) G10) fun x12 G13 =>
  bS (gd x11 false (bP (bn Q q .lss 3 (.tmp 16) (.const (.int .i64 0)) x12 (.int .i64 0)) fun y => some (y, G13)) G13) fun x14 G15 =>
  bP (pickV x11 (.bool true) x14) fun x16 =>
  bS (gd x16 false (some (v2, G15)) G15) fun x17 G18 =>
  bS (gd x16 false (bP (fa Q q 278 2 2 x0) fun y => some (y, G18)) G18) fun x19 G20 =>
  bS (gd x16 false (bP (ld Q q 276 x19 G20) fun y => some (y, G20)) G20) fun x21 G22 =>
  bS (gd x16 false (bP (ifc Q q 276 x21) fun y => some (y, G22)) G22) fun x23 G24 =>
  bS (gd x16 false (bS (cInvoke Q e.ev x23 "coxswain/tower.cells" [] G24) fun y G => some (y, G)) G24) fun x25 G26 =>
  bS (gd x16 false (bP (bn Q q .geq 3 (.tmp 20) (.tmp 24) x17 x25) fun y => some (y, G26)) G26) fun x27 G28 =>
  bP (pickV x16 (.bool true) x27) fun x29 =>
  ifV x29 (
  some ((.int .i64 (-1)), G28)) (
  bP (fa Q q 278 0 0 x0) fun x30 =>
  bP (ld Q q 3 x30 (G28.room 12)) fun x31 =>
  bP (fa Q q 278 2 2 x0) fun x32 =>
  bP (ld Q q 276 x32 (G28.room 12)) fun x33 =>
  bP (ifc Q q 276 x33) fun x34 =>
  bS (cInvoke Q e.ev x34 "coxswain/tower.cells" [] (G28.room 12)) fun x36 G35 =>
  chk ((sameO (ld Q q 3 x30 G35) x31 && true)) <|
  bP (bn Q q .mul 3 (.tmp 29) (.tmp 33) v1 x36) fun x37 =>
  bP (bn Q q .add 3 (.tmp 28) (.tmp 34) x31 x37) fun x38 =>
  bP (bn Q q .add 3 (.tmp 35) (.tmp 36) x38 v2) fun x39 =>
  some (x39, G35))
theorem m180 {e : Ex} {E : Ev} (h : ExLe Q e E) (v0 v1 v2 : Value) (G : GS) : Ref (s180 true e v0 v1 v2 G) (s180 false (Ex.of E) v0 v1 v2 G) := by
  unfold s180
  exact Ref.go
theorem f180 {orc : FuncId → Bool} {e : Ex} (h : ExLe Q e (E orc)) (v0 v1 v2 : Value) (G : GS) : Ref (s180 true e v0 v1 v2 G) ((E orc).cl 180 [v0, v1, v2] G) :=
  fun r hr => cl_sxE_some Q orc (vs := [v0, v1, v2]) G Tryz.func180 (by kernel_rfl) (by kernel_rfl) (by kernel_rfl) (by kernel_rfl) (by kernel_rfl) (by kernel_rfl) (m180 h v0 v1 v2 G r hr)
/-- coxswain/epoch.none -/
noncomputable def s181 (q : Bool) (e : Ex) (v0 v1 : Value) (G : GS) : Option (Value × GS) :=
  bS (bx q v0 G) fun x0 G1 =>
  bP (bn Q q .lss 3 (.tmp 5) (.const (.int .i64 0)) v1 (.int .i64 0)) fun x2 =>
  bS (gd x2 false (some (v1, G1)) G1) fun x3 G4 =>
  bS (gd x2 false (bP (fa Q q 41 2 2 x0) fun y => some (y, G4)) G4) fun x5 G6 =>
  bS (gd x2 false (bP (ld Q q 3 x5 G6) fun y => some (y, G6)) G6) fun x7 G8 =>
  bS (gd x2 false (bP (bn Q q .geq 3 (.tmp 8) (.tmp 10) x3 x7) fun y => some (y, G8)) G8) fun x9 G10 =>
  bP (pickV x2 (.bool true) x9) fun x11 =>
  some (x11, G10)
theorem m181 {e : Ex} {E : Ev} (h : ExLe Q e E) (v0 v1 : Value) (G : GS) : Ref (s181 true e v0 v1 G) (s181 false (Ex.of E) v0 v1 G) := by
  unfold s181
  exact Ref.go
theorem f181 {orc : FuncId → Bool} {e : Ex} (h : ExLe Q e (E orc)) (v0 v1 : Value) (G : GS) : Ref (s181 true e v0 v1 G) ((E orc).cl 181 [v0, v1] G) :=
  fun r hr => cl_sxE_some Q orc (vs := [v0, v1]) G Tryz.func181 (by kernel_rfl) (by kernel_rfl) (by kernel_rfl) (by kernel_rfl) (by kernel_rfl) (by kernel_rfl) (m181 h v0 v1 G r hr)
/-- (*coxswain/epoch.lines).ends -/
noncomputable def s182 (q : Bool) (e : Ex) (v0 v1 : Value) (G : GS) : Option (Value × GS) :=
  bP (pNil v0) fun x0 =>
  bP (fa Q q 282 1 3 x0) fun x1 =>
  bP (st Q q 3 1 x1 (.int .i64 (-1)) G) fun G2 =>
  bP (pNil v0) fun x3 =>
  bP (fa Q q 282 3 5 x3) fun x4 =>
  bP (st Q q 51 1 x4 v1 G2) fun G5 =>
  some (.tuple #[], G5)
theorem m182 {e : Ex} {E : Ev} (h : ExLe Q e E) (v0 v1 : Value) (G : GS) : Ref (s182 true e v0 v1 G) (s182 false (Ex.of E) v0 v1 G) := by
  unfold s182
  exact Ref.go
theorem f182 {orc : FuncId → Bool} {e : Ex} (h : ExLe Q e (E orc)) (v0 v1 : Value) (G : GS) : Ref (s182 true e v0 v1 G) ((E orc).cl 182 [v0, v1] G) :=
  fun r hr => cl_sxE_some Q orc (vs := [v0, v1]) G Tryz.func182 (by kernel_rfl) (by kernel_rfl) (by kernel_rfl) (by kernel_rfl) (by kernel_rfl) (by kernel_rfl) (m182 h v0 v1 G r hr)
/-- (*coxswain/epoch.Pin).load -/
noncomputable def s183 (q : Bool) (e : Ex) (v0 v1 : Value) (G : GS) : Option (Value × GS) :=
  bP (pNil v0) fun x0 =>
  bP (fa Q q 285 1 6 x0) fun x1 =>
  bP (fa Q q 41 0 0 x1) fun x2 =>
  bP (ld Q q 3 x2 G) fun x3 =>
  bS (e.ev.cl 70 [v1, x3] G) fun x4 G5 =>
  bP (cv Q q 23 283 .u64 .u32 x4) fun x6 =>
  bP (pNil v0) fun x7 =>
  bP (fa Q q 285 3 10 x7) fun x8 =>
  bP (st Q q 283 1 x8 x6 G5) fun G9 =>
  bP (pNil v0) fun x10 =>
  bP (fa Q q 285 0 0 x10) fun x11 =>
  bP (fa Q q 282 1 3 x11) fun x12 =>
  bP (st Q q 3 1 x12 (.int .i64 1) G9) fun G13 =>
  some (.tuple #[], G13)
theorem m183 {e : Ex} {E : Ev} (h : ExLe Q e E) (v0 v1 : Value) (G : GS) : Ref (s183 true e v0 v1 G) (s183 false (Ex.of E) v0 v1 G) := by
  unfold s183
  exact Ref.go
theorem f183 {orc : FuncId → Bool} {e : Ex} (h : ExLe Q e (E orc)) (v0 v1 : Value) (G : GS) : Ref (s183 true e v0 v1 G) ((E orc).cl 183 [v0, v1] G) :=
  fun r hr => cl_sxE_some Q orc (vs := [v0, v1]) G Tryz.func183 (by kernel_rfl) (by kernel_rfl) (by kernel_rfl) (by kernel_rfl) (by kernel_rfl) (by kernel_rfl) (m183 h v0 v1 G r hr)
/-- (*coxswain/epoch.Pin).store -/
noncomputable def s184 (q : Bool) (e : Ex) (v0 v1 : Value) (G : GS) : Option (Value × GS) :=
  bP (pNil v0) fun x0 =>
  bP (fa Q q 285 2 9 x0) fun x1 =>
  bP (ld Q q 3 x1 (G.room 12)) fun x2 =>
  bP (pNil v0) fun x3 =>
  bP (fa Q q 285 3 10 x3) fun x4 =>
  bP (ld Q q 283 x4 (G.room 12)) fun x5 =>
  bP (cv Q q 283 23 .u32 .u64 x5) fun x6 =>
  bP (bn Q q .add 23 (.tmp 13) (.const (.int .u64 1)) x6 (.int .u64 1)) fun x7 =>
  bS (e.ev.cl 23 [v1, x2, x7] (G.room 12)) fun x9 G8 =>
  bP (pNil v0) fun x10 =>
  bP (fa Q q 285 0 0 x10) fun x11 =>
  bP (fa Q q 282 1 3 x11) fun x12 =>
  bP (st Q q 3 1 x12 (.int .i64 2) G8) fun G13 =>
  some (.tuple #[], G13)
theorem m184 {e : Ex} {E : Ev} (h : ExLe Q e E) (v0 v1 : Value) (G : GS) : Ref (s184 true e v0 v1 G) (s184 false (Ex.of E) v0 v1 G) := by
  unfold s184
  exact Ref.go
theorem f184 {orc : FuncId → Bool} {e : Ex} (h : ExLe Q e (E orc)) (v0 v1 : Value) (G : GS) : Ref (s184 true e v0 v1 G) ((E orc).cl 184 [v0, v1] G) :=
  fun r hr => cl_sxE_some Q orc (vs := [v0, v1]) G Tryz.func184 (by kernel_rfl) (by kernel_rfl) (by kernel_rfl) (by kernel_rfl) (by kernel_rfl) (by kernel_rfl) (m184 h v0 v1 G r hr)
/-- (*coxswain/epoch.Pin).again -/
noncomputable def s185 (q : Bool) (e : Ex) (v0 v1 : Value) (G : GS) : Option (Value × GS) :=
  bP (pNil v0) fun x0 =>
  bP (fa Q q 285 1 6 x0) fun x1 =>
  bP (fa Q q 41 0 0 x1) fun x2 =>
  bP (ld Q q 3 x2 G) fun x3 =>
  bS (e.ev.cl 70 [v1, x3] G) fun x4 G5 =>
  bP (cv Q q 23 283 .u64 .u32 x4) fun x6 =>
  bP (pNil v0) fun x7 =>
  bP (fa Q q 285 3 10 x7) fun x8 =>
  bP (ld Q q 283 x8 G5) fun x9 =>
  bP (bn Q q .eql 283 (.tmp 13) (.tmp 17) x6 x9) fun x10 =>
  ifV x10 (
  bP (pNil v0) fun x11 =>
  bP (fa Q q 285 0 0 x11) fun x12 =>
  bS (e.ev.cl 182 [x12, (.int .i64 0)] G5) fun x13 G14 =>
  some (.tuple #[], G14)) (
  bP (pNil v0) fun x15 =>
  bP (fa Q q 285 3 10 x15) fun x16 =>
  bP (st Q q 283 1 x16 x6 G5) fun G17 =>
  bP (pNil v0) fun x18 =>
  bP (fa Q q 285 0 0 x18) fun x19 =>
  bP (fa Q q 282 1 3 x19) fun x20 =>
  bP (st Q q 3 1 x20 (.int .i64 1) G17) fun G21 =>
  some (.tuple #[], G21))
theorem m185 {e : Ex} {E : Ev} (h : ExLe Q e E) (v0 v1 : Value) (G : GS) : Ref (s185 true e v0 v1 G) (s185 false (Ex.of E) v0 v1 G) := by
  unfold s185
  exact Ref.go
theorem f185 {orc : FuncId → Bool} {e : Ex} (h : ExLe Q e (E orc)) (v0 v1 : Value) (G : GS) : Ref (s185 true e v0 v1 G) ((E orc).cl 185 [v0, v1] G) :=
  fun r hr => cl_sxE_some Q orc (vs := [v0, v1]) G Tryz.func185 (by kernel_rfl) (by kernel_rfl) (by kernel_rfl) (by kernel_rfl) (by kernel_rfl) (by kernel_rfl) (m185 h v0 v1 G r hr)
/-- (*coxswain/epoch.lines).told -/
noncomputable def s186 (q : Bool) (e : Ex) (v0 : Value) (G : GS) : Option (Value × GS) :=
  bP (pNil v0) fun x0 =>
  bP (fa Q q 282 2 4 x0) fun x1 =>
  bP (ld Q q 4 x1 G) fun x2 =>
  bP (un Q q .not x2) fun x3 =>
  ifV x3 (
  some ((.int .i64 1), G)) (
  bP (pNil v0) fun x4 =>
  bP (fa Q q 282 1 3 x4) fun x5 =>
  bP (ld Q q 3 x5 G) fun x6 =>
  bP (bn Q q .neq 3 (.tmp 13) (.const (.int .i64 (-1))) x6 (.int .i64 (-1))) fun x7 =>
  ifV x7 (
  some ((.int .i64 14), G)) (
  bP (pNil v0) fun x8 =>
  bP (fa Q q 282 3 5 x8) fun x9 =>
  bP (ld Q q 51 x9 G) fun x10 =>
  some (x10, G)))
theorem m186 {e : Ex} {E : Ev} (h : ExLe Q e E) (v0 : Value) (G : GS) : Ref (s186 true e v0 G) (s186 false (Ex.of E) v0 G) := by
  unfold s186
  exact Ref.go
theorem f186 {orc : FuncId → Bool} {e : Ex} (h : ExLe Q e (E orc)) (v0 : Value) (G : GS) : Ref (s186 true e v0 G) ((E orc).cl 186 [v0] G) :=
  fun r hr => cl_sxE_some Q orc (vs := [v0]) G Tryz.func186 (by kernel_rfl) (by kernel_rfl) (by kernel_rfl) (by kernel_rfl) (by kernel_rfl) (by kernel_rfl) (m186 h v0 G r hr)
/-- coxswain/stack.NewPop -/
noncomputable def s187 (q : Bool) (e : Ex) (v0 : Value) (G : GS) : Option (Value × GS) :=
  bS (bx q v0 G) fun x0 G1 =>
  bP (lda Q q 37 3 x0 G1) fun x2 =>
  bP (bd Q q 316 z316 [(0, 0, 3), (4, 6, 1)] [x2, (.bool true)]) fun x3 =>
  bP (bd Q q 319 z319 [(0, 0, 9), (1, 9, 1)] [x3, (.func (.func 213) #[] #[])]) fun x4 =>
  bS (bx q x4 G1) fun x5 G6 =>
  some (x5, G6)
theorem m187 {e : Ex} {E : Ev} (h : ExLe Q e E) (v0 : Value) (G : GS) : Ref (s187 true e v0 G) (s187 false (Ex.of E) v0 G) := by
  unfold s187
  exact Ref.go
theorem f187 {orc : FuncId → Bool} {e : Ex} (h : ExLe Q e (E orc)) (v0 : Value) (G : GS) : Ref (s187 true e v0 G) ((E orc).cl 187 [v0] G) :=
  fun r hr => cl_sxE_some Q orc (vs := [v0]) G Tryz.func187 (by kernel_rfl) (by kernel_rfl) (by kernel_rfl) (by kernel_rfl) (by kernel_rfl) (by kernel_rfl) (m187 h v0 G r hr)
/-- (*coxswain/arena.Alloc).pop -/
noncomputable def s188 (q : Bool) (e : Ex) (v0 v1 : Value) (G : GS) : Option (Value × GS) :=
  bP (pNil v0) fun x0 =>
  bP (fa Q q 291 0 0 x0) fun x1 =>
  bP (ld Q q 287 x1 G) fun x2 =>
  bS (e.ev.cl 214 [x2, v1] G) fun x3 G4 =>
  bP (un Q q .not x3) fun x5 =>
  ifV x5 (
  some (.tuple #[], G4)) (
  bP (pNil v0) fun x6 =>
  bP (fa Q q 291 0 0 x6) fun x7 =>
  bP (ld Q q 287 x7 G4) fun x8 =>
  bS (e.ev.cl 215 [x8] G4) fun x9 G10 =>
  bP (pExtract x9 0) fun x11 =>
  bP (pExtract x9 1) fun x12 =>
  bP (pNil v0) fun x13 =>
  bP (fa Q q 291 4 9 x13) fun x14 =>
  bP (st Q q 3 1 x14 x11 G10) fun G15 =>
  bP (pNil v0) fun x16 =>
  bP (fa Q q 291 3 8 x16) fun x17 =>
  bP (st Q q 289 1 x17 (.func (.func 216) #[] #[]) G15) fun G18 =>
  bP (bn Q q .neq 51 (.tmp 28) (.const (.int .i64 0)) x12 (.int .i64 0)) fun x19 =>
  ifV x19 (
  bP (pNil v0) fun x20 =>
  bP (fa Q q 291 3 8 x20) fun x21 =>
  bP (st Q q 289 1 x21 (.func (.func 217) #[] #[]) G18) fun G22 =>
  some (.tuple #[], G22)) (
  some (.tuple #[], G18)))
theorem m188 {e : Ex} {E : Ev} (h : ExLe Q e E) (v0 v1 : Value) (G : GS) : Ref (s188 true e v0 v1 G) (s188 false (Ex.of E) v0 v1 G) := by
  unfold s188
  exact Ref.go
theorem f188 {orc : FuncId → Bool} {e : Ex} (h : ExLe Q e (E orc)) (v0 v1 : Value) (G : GS) : Ref (s188 true e v0 v1 G) ((E orc).cl 188 [v0, v1] G) :=
  fun r hr => cl_sxE_some Q orc (vs := [v0, v1]) G Tryz.func188 (by kernel_rfl) (by kernel_rfl) (by kernel_rfl) (by kernel_rfl) (by kernel_rfl) (by kernel_rfl) (m188 h v0 v1 G r hr)
/-- (*coxswain/arena.Alloc).Ref -/
noncomputable def s189 (q : Bool) (e : Ex) (v0 : Value) (G : GS) : Option (Value × GS) :=
  bP (ep Q q false 231 (.tmp 5) (.const (.pointer none)) v0 (.pointer none)) fun x0 =>
  bS (gd x0 false (some (v0, G)) G) fun x1 G2 =>
  bS (gd x0 false (bP (pNil x1) fun y => some (y, G2)) G2) fun x3 G4 =>
  bS (gd x0 false (bP (fa Q q 291 2 7 x3) fun y => some (y, G4)) G4) fun x5 G6 =>
  bS (gd x0 false (bP (ld Q q 4 x5 G6) fun y => some (y, G6)) G6) fun x7 G8 =>
  bS (gd x0 false (bP (un Q q .not x7) fun y => some (y, G8)) G8) fun x9 G10 =>
  bP (pickV x0 (.bool true) x9) fun x11 =>
  ifV x11 (
  some (.tuple #[(.int .u64 0), (.int .i64 1)], G10)) (
  bP (pNil v0) fun x12 =>
  bP (fa Q q 291 3 8 x12) fun x13 =>
  bP (ld Q q 289 x13 G10) fun x14 =>
  bP (ef Q q true 289 (.tmp 18) (.const .nilFunc) x14 .nilFunc) fun x15 =>
  ifV x15 (
  some (.tuple #[(.int .u64 0), (.int .i64 14)], G10)) (
  bP (pNil v0) fun x16 =>
  bP (fa Q q 291 5 10 x16) fun x17 =>
  bP (ld Q q 23 x17 (G10.room 10)) fun x18 =>
  bP (pNil v0) fun x19 =>
  bP (fa Q q 291 6 11 x19) fun x20 =>
  bP (ld Q q 51 x20 (G10.room 10)) fun x21 =>
  some (.tuple #[x18, x21], (G10.room 10))))
theorem m189 {e : Ex} {E : Ev} (h : ExLe Q e E) (v0 : Value) (G : GS) : Ref (s189 true e v0 G) (s189 false (Ex.of E) v0 G) := by
  unfold s189
  exact Ref.go
theorem f189 {orc : FuncId → Bool} {e : Ex} (h : ExLe Q e (E orc)) (v0 : Value) (G : GS) : Ref (s189 true e v0 G) ((E orc).cl 189 [v0] G) :=
  fun r hr => cl_sxE_some Q orc (vs := [v0]) G Tryz.func189 (by kernel_rfl) (by kernel_rfl) (by kernel_rfl) (by kernel_rfl) (by kernel_rfl) (by kernel_rfl) (m189 h v0 G r hr)
/-- (*coxswain/ready.Put).lay -/
noncomputable def s190 (q : Bool) (e : Ex) (v0 : Value) (G : GS) : Option (Value × GS) :=
  bS (bx q v0 G) fun x0 G1 =>
  bP (bd Q q 327 z327 [(0, 0, 1), (1, 1, 1)] [(.func (.func 218) #[] #[x0]), (.func (.func 220) #[] #[])]) fun x2 =>
  bS (bx q x2 G1) fun x3 G4 =>
  bP (ifc Q q 320 x3) fun x5 =>
  some (x5, G4)
theorem m190 {e : Ex} {E : Ev} (h : ExLe Q e E) (v0 : Value) (G : GS) : Ref (s190 true e v0 G) (s190 false (Ex.of E) v0 G) := by
  unfold s190
  exact Ref.go
theorem f190 {orc : FuncId → Bool} {e : Ex} (h : ExLe Q e (E orc)) (v0 : Value) (G : GS) : Ref (s190 true e v0 G) ((E orc).cl 190 [v0] G) :=
  fun r hr => cl_sxE_some Q orc (vs := [v0]) G Tryz.func190 (by kernel_rfl) (by kernel_rfl) (by kernel_rfl) (by kernel_rfl) (by kernel_rfl) (by kernel_rfl) (m190 h v0 G r hr)
/-- (*coxswain/ready.Put).link -/
noncomputable def s191 (q : Bool) (e : Ex) (v0 : Value) (G : GS) : Option (Value × GS) :=
  bS (bx q v0 G) fun x0 G1 =>
  bP (bd Q q 335 z335 [(0, 0, 1), (1, 1, 1)] [(.func (.func 221) #[] #[x0]), (.func (.func 223) #[] #[])]) fun x2 =>
  bS (bx q x2 G1) fun x3 G4 =>
  bP (ifc Q q 328 x3) fun x5 =>
  some (x5, G4)
theorem m191 {e : Ex} {E : Ev} (h : ExLe Q e E) (v0 : Value) (G : GS) : Ref (s191 true e v0 G) (s191 false (Ex.of E) v0 G) := by
  unfold s191
  exact Ref.go
theorem f191 {orc : FuncId → Bool} {e : Ex} (h : ExLe Q e (E orc)) (v0 : Value) (G : GS) : Ref (s191 true e v0 G) ((E orc).cl 191 [v0] G) :=
  fun r hr => cl_sxE_some Q orc (vs := [v0]) G Tryz.func191 (by kernel_rfl) (by kernel_rfl) (by kernel_rfl) (by kernel_rfl) (by kernel_rfl) (by kernel_rfl) (m191 h v0 G r hr)
/-- (*coxswain/ready.Put).given$1 -/
noncomputable def s192 (q : Bool) (e : Ex) (v0 : Value) (G : GS) : Option (Value × GS) :=
  bP (ld Q q 104 v0 G) fun x0 =>
  bP (pNil x0) fun x1 =>
  bP (fa Q q 169 0 0 x1) fun x2 =>
  bS (e.ev.cl 193 [x2, .nilFunc] G) fun x3 G4 =>
  some (x3, G4)
theorem m192 {e : Ex} {E : Ev} (h : ExLe Q e E) (v0 : Value) (G : GS) : Ref (s192 true e v0 G) (s192 false (Ex.of E) v0 G) := by
  unfold s192
  exact Ref.go
theorem f192 {orc : FuncId → Bool} {e : Ex} (h : ExLe Q e (E orc)) (v0 : Value) (G : GS) : Ref (s192 true e v0 G) ((E orc).cl 192 [v0] G) :=
  fun r hr => cl_sxE_some Q orc (vs := [v0]) G Tryz.func192 (by kernel_rfl) (by kernel_rfl) (by kernel_rfl) (by kernel_rfl) (by kernel_rfl) (by kernel_rfl) (m192 h v0 G r hr)
/-- (*coxswain/ready.work).collect -/
noncomputable def s193 (q : Bool) (e : Ex) (v0 v1 : Value) (G : GS) : Option (Value × GS) :=
  bS (bx q v0 G) fun x0 G1 =>
  bP (bd Q q 343 z343 [(0, 0, 1), (2, 2, 1)] [(.func (.func 224) #[] #[x0]), v1]) fun x2 =>
  bS (bx q x2 G1) fun x3 G4 =>
  bP (ifc Q q 337 x3) fun x5 =>
  some (x5, G4)
theorem m193 {e : Ex} {E : Ev} (h : ExLe Q e E) (v0 v1 : Value) (G : GS) : Ref (s193 true e v0 v1 G) (s193 false (Ex.of E) v0 v1 G) := by
  unfold s193
  exact Ref.go
theorem f193 {orc : FuncId → Bool} {e : Ex} (h : ExLe Q e (E orc)) (v0 v1 : Value) (G : GS) : Ref (s193 true e v0 v1 G) ((E orc).cl 193 [v0, v1] G) :=
  fun r hr => cl_sxE_some Q orc (vs := [v0, v1]) G Tryz.func193 (by kernel_rfl) (by kernel_rfl) (by kernel_rfl) (by kernel_rfl) (by kernel_rfl) (by kernel_rfl) (m193 h v0 v1 G r hr)
/-- coxswain/tower.Next -/
noncomputable def s194 (q : Bool) (e : Ex) (v0 v1 v2 : Value) (G : GS) : Option (Value × GS) :=
  bS (bx q v0 G) fun x0 G1 =>
  bP (bn Q q .lss 3 (.tmp 7) (.const (.int .i64 0)) v2 (.int .i64 0)) fun x2 =>
  bS (gd x2 false (some (v2, G1)) G1) fun x3 G4 =>
  bS (gd x2 false (bP (bn Q q .geq 3 (.tmp 10) (.const (.int .i64 4)) x3 (.int .i64 4)) fun y => some (y, G4)) G4) fun x5 G6 =>
  bP (pickV x2 (.bool true) x5) fun x7 =>
  ifV x7 (
  some ((.int .i64 (-1)), G6)) (
  bP (lda Q q 45 13 x0 G6) fun x8 =>
  bP (bn Q q .add 3 (.const (.int .i64 4)) (.tmp 15) (.int .i64 4) v2) fun x9 =>
  bS (e.ev.cl 142 [x8, v1, x9] G6) fun x10 G11 =>
  some (x10, G11))
theorem m194 {e : Ex} {E : Ev} (h : ExLe Q e E) (v0 v1 v2 : Value) (G : GS) : Ref (s194 true e v0 v1 v2 G) (s194 false (Ex.of E) v0 v1 v2 G) := by
  unfold s194
  exact Ref.go
theorem f194 {orc : FuncId → Bool} {e : Ex} (h : ExLe Q e (E orc)) (v0 v1 v2 : Value) (G : GS) : Ref (s194 true e v0 v1 v2 G) ((E orc).cl 194 [v0, v1, v2] G) :=
  fun r hr => cl_sxE_some Q orc (vs := [v0, v1, v2]) G Tryz.func194 (by kernel_rfl) (by kernel_rfl) (by kernel_rfl) (by kernel_rfl) (by kernel_rfl) (by kernel_rfl) (m194 h v0 v1 v2 G r hr)
/-- (*coxswain/epoch.Unpin).clear -/
noncomputable def s195 (q : Bool) (e : Ex) (v0 v1 : Value) (G : GS) : Option (Value × GS) :=
  bP (pNil v0) fun x0 =>
  bP (fa Q q 298 1 6 x0) fun x1 =>
  bP (ld Q q 3 x1 G) fun x2 =>
  bS (e.ev.cl 23 [v1, x2, (.int .u64 0)] G) fun x3 G4 =>
  bP (pNil v0) fun x5 =>
  bP (fa Q q 298 0 0 x5) fun x6 =>
  bS (e.ev.cl 182 [x6, (.int .i64 0)] G4) fun x7 G8 =>
  some (.tuple #[], G8)
theorem m195 {e : Ex} {E : Ev} (h : ExLe Q e E) (v0 v1 : Value) (G : GS) : Ref (s195 true e v0 v1 G) (s195 false (Ex.of E) v0 v1 G) := by
  unfold s195
  exact Ref.go
theorem f195 {orc : FuncId → Bool} {e : Ex} (h : ExLe Q e (E orc)) (v0 v1 : Value) (G : GS) : Ref (s195 true e v0 v1 G) ((E orc).cl 195 [v0, v1] G) :=
  fun r hr => cl_sxE_some Q orc (vs := [v0, v1]) G Tryz.func195 (by kernel_rfl) (by kernel_rfl) (by kernel_rfl) (by kernel_rfl) (by kernel_rfl) (by kernel_rfl) (m195 h v0 v1 G r hr)
/-- coxswain/word.PutTop -/
noncomputable def s212 (q : Bool) (e : Ex) (v0 : Value) (G : GS) : Option (Value × GS) :=
  bS (bx q v0 G) fun x0 G1 =>
  bP (fa Q q 313 0 0 x0) fun x2 =>
  bP (ld Q q 3 x2 G1) fun x3 =>
  bP (bd Q q 354 z354 [(0, 0, 1), (1, 1, 1), (2, 2, 1)] [x3, (.int .i64 (-1)), (.int .i64 65534)]) fun x4 =>
  bP (fa Q q 313 1 1 x0) fun x5 =>
  bP (ld Q q 3 x5 G1) fun x6 =>
  bP (bd Q q 354 z354 [(0, 0, 1), (1, 1, 1), (2, 2, 1)] [x6, (.int .i64 0), (.int .i64 281474976710655)]) fun x7 =>
  bS (bs Q q 395 2 (rep z354 2) 3 [(0, 0, 3), (1, 3, 3)] [x4, x7] G1) fun x8 G9 =>
  bS (e.ev.cl 235 [x8] G9) fun x10 G11 =>
  bP (un Q q .not x10) fun x12 =>
  ifV x12 (
  some (.tuple #[(.int .u64 0), (.int .i64 3)], G11)) (
  bS (e.ev.cl 236 [] G11) fun x13 G14 =>
  bS (al Q q 357 z357 G14) fun x15 G16 =>
  bP (st Q q 357 4 x15 x13 G16) fun G17 =>
  bP (sla Q q 357 2 2 x15 none none none (G17.room 10)) fun x18 =>
  bP (fa Q q 313 0 0 x0) fun x19 =>
  bP (ld Q q 3 x19 (G17.room 10)) fun x20 =>
  bP (bn Q q .add 3 (.tmp 17) (.const (.int .i64 1)) x20 (.int .i64 1)) fun x21 =>
  bP (fa Q q 313 1 1 x0) fun x22 =>
  bP (ld Q q 3 x22 (G17.room 10)) fun x23 =>
  bS (bs Q q 35 2 (rep z3 2) 1 [(0, 0, 1), (1, 1, 1)] [x21, x23] ((G17.room 10).at' (G17.nx + 6))) fun x24 G25 =>
  bS (e.ev.cl 237 [x18, x24] (G25.back (G17.room 10))) fun x27 G26 =>
  some (.tuple #[x27, (.int .i64 0)], G26))
theorem m212 {e : Ex} {E : Ev} (h : ExLe Q e E) (v0 : Value) (G : GS) : Ref (s212 true e v0 G) (s212 false (Ex.of E) v0 G) := by
  unfold s212
  exact Ref.go
theorem f212 {orc : FuncId → Bool} {e : Ex} (h : ExLe Q e (E orc)) (v0 : Value) (G : GS) : Ref (s212 true e v0 G) ((E orc).cl 212 [v0] G) :=
  fun r hr => cl_sxE_some Q orc (vs := [v0]) G Tryz.func212 (by kernel_rfl) (by kernel_rfl) (by kernel_rfl) (by kernel_rfl) (by kernel_rfl) (by kernel_rfl) (m212 h v0 G r hr)
/-- (*coxswain/stack.Pop).first -/
noncomputable def s213 (q : Bool) (e : Ex) (v0 v1 : Value) (G : GS) : Option (Value × GS) :=
  bP (pNil v0) fun x0 =>
  bP (fa Q q 319 1 9 x0) fun x1 =>
  bP (st Q q 317 1 x1 (.func (.func 238) #[] #[]) G) fun G2 =>
  bP (pNil v0) fun x3 =>
  bP (fa Q q 319 0 0 x3) fun x4 =>
  bS (e.ev.cl 239 [x4, v1] G2) fun x5 G6 =>
  bP (pNil v0) fun x7 =>
  bP (fa Q q 319 0 0 x7) fun x8 =>
  bP (fa Q q 316 2 4 x8) fun x9 =>
  bP (st Q q 3 1 x9 x5 G6) fun G10 =>
  bP (pNil v0) fun x11 =>
  bP (fa Q q 319 0 0 x11) fun x12 =>
  bP (fa Q q 316 2 4 x12) fun x13 =>
  bP (ld Q q 3 x13 G10) fun x14 =>
  bP (bn Q q .lss 3 (.tmp 20) (.const (.int .i64 0)) x14 (.int .i64 0)) fun x15 =>
  ifV x15 (
  bP (pNil v0) fun x16 =>
  bP (fa Q q 319 0 0 x16) fun x17 =>
  bS (e.ev.cl 240 [x17, (.int .i64 15)] G10) fun x18 G19 =>
  some (.tuple #[], G19)) (
  some (.tuple #[], G10))
theorem m213 {e : Ex} {E : Ev} (h : ExLe Q e E) (v0 v1 : Value) (G : GS) : Ref (s213 true e v0 v1 G) (s213 false (Ex.of E) v0 v1 G) := by
  unfold s213
  exact Ref.go
theorem f213 {orc : FuncId → Bool} {e : Ex} (h : ExLe Q e (E orc)) (v0 v1 : Value) (G : GS) : Ref (s213 true e v0 v1 G) ((E orc).cl 213 [v0, v1] G) :=
  fun r hr => cl_sxE_some Q orc (vs := [v0, v1]) G Tryz.func213 (by kernel_rfl) (by kernel_rfl) (by kernel_rfl) (by kernel_rfl) (by kernel_rfl) (by kernel_rfl) (m213 h v0 v1 G r hr)
/-- (*coxswain/stack.Pop).Step -/
noncomputable def s214 (q : Bool) (e : Ex) (v0 v1 : Value) (G : GS) : Option (Value × GS) :=
  bP (ep Q q false 287 (.tmp 5) (.const (.pointer none)) v0 (.pointer none)) fun x0 =>
  bS (gd x0 false (some (v0, G)) G) fun x1 G2 =>
  bS (gd x0 false (bP (pNil x1) fun y => some (y, G2)) G2) fun x3 G4 =>
  bS (gd x0 false (bP (fa Q q 319 0 0 x3) fun y => some (y, G4)) G4) fun x5 G6 =>
  bS (gd x0 false (bS (e.ev.cl 241 [x5] G6) fun y G => some (y, G)) G6) fun x7 G8 =>
  bP (pickV x0 (.bool true) x7) fun x9 =>
  ifV x9 (
  some ((.bool true), G8)) (
  bP (pNil v0) fun x10 =>
  bP (fa Q q 319 1 9 x10) fun x11 =>
  bP (ld Q q 317 x11 G8) fun x12 =>
  bS (cValue e.ev x12 [v0, v1] G8) fun x13 G14 =>
  bP (pNil v0) fun x15 =>
  bP (fa Q q 319 0 0 x15) fun x16 =>
  bP (fa Q q 316 5 7 x16) fun x17 =>
  bP (ld Q q 4 x17 G14) fun x18 =>
  some (x18, G14))
theorem m214 {e : Ex} {E : Ev} (h : ExLe Q e E) (v0 v1 : Value) (G : GS) : Ref (s214 true e v0 v1 G) (s214 false (Ex.of E) v0 v1 G) := by
  unfold s214
  exact Ref.go
theorem f214 {orc : FuncId → Bool} {e : Ex} (h : ExLe Q e (E orc)) (v0 v1 : Value) (G : GS) : Ref (s214 true e v0 v1 G) ((E orc).cl 214 [v0, v1] G) :=
  fun r hr => cl_sxE_some Q orc (vs := [v0, v1]) G Tryz.func214 (by kernel_rfl) (by kernel_rfl) (by kernel_rfl) (by kernel_rfl) (by kernel_rfl) (by kernel_rfl) (m214 h v0 v1 G r hr)
/-- (*coxswain/stack.Pop).Index -/
noncomputable def s215 (q : Bool) (e : Ex) (v0 : Value) (G : GS) : Option (Value × GS) :=
  bP (ep Q q false 287 (.tmp 4) (.const (.pointer none)) v0 (.pointer none)) fun x0 =>
  ifV x0 (
  some (.tuple #[(.int .i64 0), (.int .i64 1)], G)) (
  bP (pNil v0) fun x1 =>
  bP (fa Q q 319 0 0 x1) fun x2 =>
  bS (e.ev.cl 242 [x2] G) fun x3 G4 =>
  bP (pExtract x3 0) fun x5 =>
  bP (pExtract x3 1) fun x6 =>
  some (.tuple #[x5, x6], G4))
theorem m215 {e : Ex} {E : Ev} (h : ExLe Q e E) (v0 : Value) (G : GS) : Ref (s215 true e v0 G) (s215 false (Ex.of E) v0 G) := by
  unfold s215
  exact Ref.go
theorem f215 {orc : FuncId → Bool} {e : Ex} (h : ExLe Q e (E orc)) (v0 : Value) (G : GS) : Ref (s215 true e v0 G) ((E orc).cl 215 [v0] G) :=
  fun r hr => cl_sxE_some Q orc (vs := [v0]) G Tryz.func215 (by kernel_rfl) (by kernel_rfl) (by kernel_rfl) (by kernel_rfl) (by kernel_rfl) (by kernel_rfl) (m215 h v0 G r hr)
/-- (*coxswain/arena.Alloc).gives -/
noncomputable def s216 (q : Bool) (e : Ex) (v0 v1 : Value) (G : GS) : Option (Value × GS) :=
  bP (pNil v0) fun x0 =>
  bP (fa Q q 291 4 9 x0) fun x1 =>
  bP (ld Q q 3 x1 (G.room 26)) fun x2 =>
  bP (pNil v0) fun x3 =>
  bP (fa Q q 291 1 1 x3) fun x4 =>
  bP (fa Q q 39 1 3 x4) fun x5 =>
  bP (ld Q q 3 x5 (G.room 26)) fun x6 =>
  bP (pNil v0) fun x7 =>
  bP (fa Q q 291 4 9 x7) fun x8 =>
  bP (ld Q q 3 x8 (G.room 26)) fun x9 =>
  bP (bn Q q .add 3 (.tmp 15) (.tmp 19) x6 x9) fun x10 =>
  bS (e.ev.cl 70 [v1, x10] (G.room 26)) fun x12 G11 =>
  chk ((sameO (ld Q q 3 x1 G11) x2 && true)) <|
  bS (e.ev.cl 244 [x12] G11) fun x14 G13 =>
  chk ((sameO (ld Q q 3 x1 G13) x2 && true)) <|
  bP (bd Q q 365 z365 [(0, 0, 1), (1, 1, 1)] [x2, x14]) fun x15 =>
  bS (e.ev.cl 243 [x15] G13) fun x17 G16 =>
  bP (pExtract x17 0) fun x18 =>
  bP (pExtract x17 1) fun x19 =>
  bP (pNil v0) fun x20 =>
  bP (fa Q q 291 5 10 x20) fun x21 =>
  bP (st Q q 23 1 x21 x18 G16) fun G22 =>
  bP (pNil v0) fun x23 =>
  bP (fa Q q 291 3 8 x23) fun x24 =>
  bP (st Q q 289 1 x24 .nilFunc G22) fun G25 =>
  some (.tuple #[], G25)
theorem m216 {e : Ex} {E : Ev} (h : ExLe Q e E) (v0 v1 : Value) (G : GS) : Ref (s216 true e v0 v1 G) (s216 false (Ex.of E) v0 v1 G) := by
  unfold s216
  exact Ref.go
theorem f216 {orc : FuncId → Bool} {e : Ex} (h : ExLe Q e (E orc)) (v0 v1 : Value) (G : GS) : Ref (s216 true e v0 v1 G) ((E orc).cl 216 [v0, v1] G) :=
  fun r hr => cl_sxE_some Q orc (vs := [v0, v1]) G Tryz.func216 (by kernel_rfl) (by kernel_rfl) (by kernel_rfl) (by kernel_rfl) (by kernel_rfl) (by kernel_rfl) (m216 h v0 v1 G r hr)
/-- (*coxswain/arena.Alloc).lacks -/
noncomputable def s217 (q : Bool) (e : Ex) (v0 v1 : Value) (G : GS) : Option (Value × GS) :=
  bP (pNil v0) fun x0 =>
  bP (fa Q q 291 6 11 x0) fun x1 =>
  bP (st Q q 51 1 x1 (.int .i64 7) G) fun G2 =>
  bP (pNil v0) fun x3 =>
  bP (fa Q q 291 1 1 x3) fun x4 =>
  bP (fa Q q 39 2 4 x4) fun x5 =>
  bP (ld Q q 3 x5 (G2.room 15)) fun x6 =>
  bS (e.ev.cl 70 [v1, x6] (G2.room 15)) fun x8 G7 =>
  bP (pNil v0) fun x9 =>
  bP (fa Q q 291 1 1 x9) fun x10 =>
  bP (fa Q q 39 0 0 x10) fun x11 =>
  bP (fa Q q 37 2 2 x11) fun x12 =>
  bP (ld Q q 3 x12 G7) fun x13 =>
  chk ((sameO (ld Q q 3 x12 (G2.room 15)) x13 && true)) <|
  bP (cv Q q 3 23 .i64 .u64 x13) fun x14 =>
  bP (bn Q q .geq 23 (.tmp 13) (.tmp 20) x8 x14) fun x15 =>
  ifV x15 (
  bP (pNil v0) fun x16 =>
  bP (fa Q q 291 6 11 x16) fun x17 =>
  bP (st Q q 51 1 x17 (.int .i64 12) G7) fun G18 =>
  bP (pNil v0) fun x19 =>
  bP (fa Q q 291 3 8 x19) fun x20 =>
  bP (st Q q 289 1 x20 .nilFunc G18) fun G21 =>
  some (.tuple #[], G21)) (
  bP (pNil v0) fun x22 =>
  bP (fa Q q 291 3 8 x22) fun x23 =>
  bP (st Q q 289 1 x23 .nilFunc G7) fun G24 =>
  some (.tuple #[], G24))
theorem m217 {e : Ex} {E : Ev} (h : ExLe Q e E) (v0 v1 : Value) (G : GS) : Ref (s217 true e v0 v1 G) (s217 false (Ex.of E) v0 v1 G) := by
  unfold s217
  exact Ref.go
theorem f217 {orc : FuncId → Bool} {e : Ex} (h : ExLe Q e (E orc)) (v0 v1 : Value) (G : GS) : Ref (s217 true e v0 v1 G) ((E orc).cl 217 [v0, v1] G) :=
  fun r hr => cl_sxE_some Q orc (vs := [v0, v1]) G Tryz.func217 (by kernel_rfl) (by kernel_rfl) (by kernel_rfl) (by kernel_rfl) (by kernel_rfl) (by kernel_rfl) (m217 h v0 v1 G r hr)
/-- (*coxswain/ready.Put).lay$1 -/
noncomputable def s218 (q : Bool) (e : Ex) (v0 : Value) (G : GS) : Option (Value × GS) :=
  bP (ld Q q 104 v0 (G.room 23)) fun x0 =>
  bP (pNil x0) fun x1 =>
  bP (fa Q q 169 0 0 x1) fun x2 =>
  bP (fa Q q 166 0 0 x2) fun x3 =>
  bP (lda Q q 45 13 x3 (G.room 23)) fun x4 =>
  bP (ld Q q 104 v0 (G.room 23)) fun x5 =>
  bP (pNil x5) fun x6 =>
  bP (fa Q q 169 5 23 x6) fun x7 =>
  bP (ld Q q 23 x7 (G.room 23)) fun x8 =>
  bP (ld Q q 104 v0 (G.room 23)) fun x9 =>
  bP (pNil x9) fun x10 =>
  bP (fa Q q 169 1 19 x10) fun x11 =>
  bP (ld Q q 23 x11 (G.room 23)) fun x12 =>
  bP (ld Q q 104 v0 (G.room 23)) fun x13 =>
  bP (pNil x13) fun x14 =>
  bP (fa Q q 169 2 20 x14) fun x15 =>
  bP (ld Q q 3 x15 (G.room 23)) fun x16 =>
  bP (ld Q q 104 v0 (G.room 23)) fun x17 =>
  bP (pNil x17) fun x18 =>
  bP (fa Q q 169 3 21 x18) fun x19 =>
  bP (ld Q q 3 x19 (G.room 23)) fun x20 =>
  bS (e.ev.cl 219 [x4, x8, x12, x16, x20] (G.room 23)) fun x22 G21 =>
  some (x22, G21)
theorem m218 {e : Ex} {E : Ev} (h : ExLe Q e E) (v0 : Value) (G : GS) : Ref (s218 true e v0 G) (s218 false (Ex.of E) v0 G) := by
  unfold s218
  exact Ref.go
theorem f218 {orc : FuncId → Bool} {e : Ex} (h : ExLe Q e (E orc)) (v0 : Value) (G : GS) : Ref (s218 true e v0 G) ((E orc).cl 218 [v0] G) :=
  fun r hr => cl_sxE_some Q orc (vs := [v0]) G Tryz.func218 (by kernel_rfl) (by kernel_rfl) (by kernel_rfl) (by kernel_rfl) (by kernel_rfl) (by kernel_rfl) (m218 h v0 G r hr)
/-- coxswain/tower.NewLay -/
noncomputable def s219 (q : Bool) (e : Ex) (v0 v1 v2 v3 v4 : Value) (G : GS) : Option (Value × GS) :=
  bS (bx q v0 G) fun x0 G1 =>
  bP (lda Q q 45 13 x0 G1) fun x2 =>
  bS (e.ev.cl 245 [x2, v1, v3, v4] G1) fun x3 G4 =>
  bP (bd Q q 369 z369 [(0, 0, 1), (1, 1, 1), (4, 7, 1)] [(.bool true), v1, x3]) fun x5 =>
  bS (bx q x5 G4) fun x6 G7 =>
  bP (pNil x6) fun x8 =>
  bP (fa Q q 369 4 7 x8) fun x9 =>
  bP (ld Q q 51 x9 G7) fun x10 =>
  bP (bn Q q .neq 51 (.tmp 25) (.const (.int .i64 0)) x10 (.int .i64 0)) fun x11 =>
  ifV x11 (
  bP (pNil x6) fun x12 =>
  bP (fa Q q 369 3 6 x12) fun x13 =>
  bP (st Q q 3 1 x13 (.int .i64 4) G7) fun G14 =>
  some (x6, G14)) (
  bP (lda Q q 45 13 x0 G7) fun x15 =>
  bS (e.ev.cl 246 [x15, v1] G7) fun x16 G17 =>
  bS (al Q q 3 z3 G17) fun x18 G19 =>
  bP (st Q q 3 1 x18 x16 G19) fun G20 =>
  bS (cValue e.ev (.func (.func 247) #[] #[x0, x18]) [(.int .i64 0), v2] G20) fun x21 G22 =>
  bP (cv Q q 3 23 .i64 .u64 v3) fun x23 =>
  bS (cValue e.ev (.func (.func 247) #[] #[x0, x18]) [(.int .i64 1), x23] G22) fun x24 G25 =>
  bP (cv Q q 3 23 .i64 .u64 v4) fun x26 =>
  bS (cValue e.ev (.func (.func 247) #[] #[x0, x18]) [(.int .i64 2), x26] G25) fun x27 G28 =>
  bS (cValue e.ev (.func (.func 247) #[] #[x0, x18]) [(.int .i64 3), (.int .u64 2)] G28) fun x29 G30 =>
  bP (bd Q q 367 z367 [(0, 0, 1), (1, 1, 1), (2, 2, 1), (3, 3, 1)] [x21, x24, x27, x29]) fun x31 =>
  bP (pNil x6) fun x32 =>
  bP (fa Q q 369 2 2 x32) fun x33 =>
  bP (st Q q 367 4 x33 x31 G30) fun G34 =>
  some (x6, G34))
theorem m219 {e : Ex} {E : Ev} (h : ExLe Q e E) (v0 v1 v2 v3 v4 : Value) (G : GS) : Ref (s219 true e v0 v1 v2 v3 v4 G) (s219 false (Ex.of E) v0 v1 v2 v3 v4 G) := by
  unfold s219
  exact Ref.go
theorem f219 {orc : FuncId → Bool} {e : Ex} (h : ExLe Q e (E orc)) (v0 v1 v2 v3 v4 : Value) (G : GS) : Ref (s219 true e v0 v1 v2 v3 v4 G) ((E orc).cl 219 [v0, v1, v2, v3, v4] G) :=
  fun r hr => cl_sxE_some Q orc (vs := [v0, v1, v2, v3, v4]) G Tryz.func219 (by kernel_rfl) (by kernel_rfl) (by kernel_rfl) (by kernel_rfl) (by kernel_rfl) (by kernel_rfl) (m219 h v0 v1 v2 v3 v4 G r hr)
/-- (*coxswain/tower.Lay).By -/
noncomputable def s220 (q : Bool) (e : Ex) (v0 : Value) (G : GS) : Option (Value × GS) :=
  bP (ep Q q false 321 (.tmp 3) (.const (.pointer none)) v0 (.pointer none)) fun x0 =>
  bS (gd x0 false (some (v0, G)) G) fun x1 G2 =>
  bS (gd x0 false (bP (pNil x1) fun y => some (y, G2)) G2) fun x3 G4 =>
  bS (gd x0 false (bP (fa Q q 369 4 7 x3) fun y => some (y, G4)) G4) fun x5 G6 =>
  bS (gd x0 false (bP (ld Q q 51 x5 G6) fun y => some (y, G6)) G6) fun x7 G8 =>
  bS (gd x0 false (bP (bn Q q .neq 51 (.tmp 9) (.const (.int .i64 0)) x7 (.int .i64 0)) fun y => some (y, G8)) G8) fun x9 G10 =>
  bP (pickV x0 (.bool true) x9) fun x11 =>
  bS (gd x11 false (some (v0, G10)) G10) fun x12 G13 =>
  bS (gd x11 false (bP (pNil x12) fun y => some (y, G13)) G13) fun x14 G15 =>
  bS (gd x11 false (bP (fa Q q 369 3 6 x14) fun y => some (y, G15)) G15) fun x16 G17 =>
  bS (gd x11 false (bP (ld Q q 3 x16 G17) fun y => some (y, G17)) G17) fun x18 G19 =>
  bS (gd x11 false (bP (bn Q q .eql 3 (.tmp 16) (.const (.int .i64 0)) x18 (.int .i64 0)) fun y => some (y, G19)) G19) fun x20 G21 =>
  bP (pickV x11 (.bool true) x20) fun x22 =>
  ifV x22 (
  some ((.int .u64 0), G21)) (
  bP (pNil v0) fun x23 =>
  bP (fa Q q 369 1 1 x23) fun x24 =>
  bP (ld Q q 23 x24 G21) fun x25 =>
  some (x25, G21))
theorem m220 {e : Ex} {E : Ev} (h : ExLe Q e E) (v0 : Value) (G : GS) : Ref (s220 true e v0 G) (s220 false (Ex.of E) v0 G) := by
  unfold s220
  exact Ref.go
theorem f220 {orc : FuncId → Bool} {e : Ex} (h : ExLe Q e (E orc)) (v0 : Value) (G : GS) : Ref (s220 true e v0 G) ((E orc).cl 220 [v0] G) :=
  fun r hr => cl_sxE_some Q orc (vs := [v0]) G Tryz.func220 (by kernel_rfl) (by kernel_rfl) (by kernel_rfl) (by kernel_rfl) (by kernel_rfl) (by kernel_rfl) (m220 h v0 G r hr)
/-- (*coxswain/ready.Put).link$1 -/
noncomputable def s221 (q : Bool) (e : Ex) (v0 : Value) (G : GS) : Option (Value × GS) :=
  bP (ld Q q 104 v0 (G.room 19)) fun x0 =>
  bP (pNil x0) fun x1 =>
  bP (fa Q q 169 0 0 x1) fun x2 =>
  bP (fa Q q 166 0 0 x2) fun x3 =>
  bP (lda Q q 45 13 x3 (G.room 19)) fun x4 =>
  bP (ld Q q 104 v0 (G.room 19)) fun x5 =>
  bP (pNil x5) fun x6 =>
  bP (fa Q q 169 5 23 x6) fun x7 =>
  bP (ld Q q 23 x7 (G.room 19)) fun x8 =>
  bP (ld Q q 104 v0 (G.room 19)) fun x9 =>
  bP (pNil x9) fun x10 =>
  bP (fa Q q 169 1 19 x10) fun x11 =>
  bP (ld Q q 23 x11 (G.room 19)) fun x12 =>
  bP (ld Q q 104 v0 (G.room 19)) fun x13 =>
  bP (pNil x13) fun x14 =>
  bP (fa Q q 169 3 21 x14) fun x15 =>
  bP (ld Q q 3 x15 (G.room 19)) fun x16 =>
  bS (e.ev.cl 222 [x4, x8, x12, x16] (G.room 19)) fun x18 G17 =>
  some (x18, G17)
theorem m221 {e : Ex} {E : Ev} (h : ExLe Q e E) (v0 : Value) (G : GS) : Ref (s221 true e v0 G) (s221 false (Ex.of E) v0 G) := by
  unfold s221
  exact Ref.go
theorem f221 {orc : FuncId → Bool} {e : Ex} (h : ExLe Q e (E orc)) (v0 : Value) (G : GS) : Ref (s221 true e v0 G) ((E orc).cl 221 [v0] G) :=
  fun r hr => cl_sxE_some Q orc (vs := [v0]) G Tryz.func221 (by kernel_rfl) (by kernel_rfl) (by kernel_rfl) (by kernel_rfl) (by kernel_rfl) (by kernel_rfl) (m221 h v0 G r hr)
/-- coxswain/insert.NewInsert -/
noncomputable def s222 (q : Bool) (e : Ex) (v0 v1 v2 v3 : Value) (G : GS) : Option (Value × GS) :=
  bS (bx q v0 G) fun x0 G1 =>
  bP (lda Q q 45 13 x0 (G1.room 11)) fun x2 =>
  bP (lda Q q 45 13 x0 (G1.room 11)) fun x3 =>
  bS (e.ev.cl 249 [x3, v1, v3] (G1.room 11)) fun x5 G4 =>
  chk ((sameO (lda Q q 45 13 x0 G4) x2 && true)) <|
  bP (bd Q q 376 z376 [(0, 0, 13), (1, 13, 1), (3, 15, 1), (4, 16, 1), (6, 18, 1), (13, 25, 1)] [x2, (.bool true), v1, v2, v3, x5]) fun x6 =>
  bS (bx q x6 (G4.at' (G1.nx + 9))) fun x7 G8 =>
  bP (pNil x7) fun x9 =>
  bP (fa Q q 376 13 25 x9) fun x10 =>
  bP (ld Q q 51 x10 (G8.back G4)) fun x11 =>
  bP (bn Q q .eql 51 (.tmp 25) (.const (.int .i64 0)) x11 (.int .i64 0)) fun x12 =>
  ifV x12 (
  bS (e.ev.cl 250 [v1] (G8.back G4)) fun x13 G14 =>
  bP (pExtract x13 0) fun x15 =>
  bP (pExtract x13 1) fun x16 =>
  bS (al Q q 365 z365 G14) fun x17 G18 =>
  bP (st Q q 365 3 x17 x15 G18) fun G19 =>
  bP (fa Q q 365 0 0 x17) fun x20 =>
  bP (ld Q q 3 x20 G19) fun x21 =>
  bP (pNil x7) fun x22 =>
  bP (fa Q q 376 5 17 x22) fun x23 =>
  bP (st Q q 3 1 x23 x21 G19) fun G24 =>
  bS (e.ev.cl 251 [x7, (.int .i64 1)] G24) fun x25 G26 =>
  bP (pNil x7) fun x27 =>
  bP (fa Q q 376 7 19 x27) fun x28 =>
  bP (st Q q 372 1 x28 x25 G26) fun G29 =>
  some (x7, G29)) (
  some (x7, (G8.back G4)))
theorem m222 {e : Ex} {E : Ev} (h : ExLe Q e E) (v0 v1 v2 v3 : Value) (G : GS) : Ref (s222 true e v0 v1 v2 v3 G) (s222 false (Ex.of E) v0 v1 v2 v3 G) := by
  unfold s222
  exact Ref.go
theorem f222 {orc : FuncId → Bool} {e : Ex} (h : ExLe Q e (E orc)) (v0 v1 v2 v3 : Value) (G : GS) : Ref (s222 true e v0 v1 v2 v3 G) ((E orc).cl 222 [v0, v1, v2, v3] G) :=
  fun r hr => cl_sxE_some Q orc (vs := [v0, v1, v2, v3]) G Tryz.func222 (by kernel_rfl) (by kernel_rfl) (by kernel_rfl) (by kernel_rfl) (by kernel_rfl) (by kernel_rfl) (m222 h v0 v1 v2 v3 G r hr)
/-- (*coxswain/insert.Insert).By -/
noncomputable def s223 (q : Bool) (e : Ex) (v0 : Value) (G : GS) : Option (Value × GS) :=
  bP (ep Q q false 329 (.tmp 3) (.const (.pointer none)) v0 (.pointer none)) fun x0 =>
  ifV x0 (
  some ((.int .u64 0), G)) (
  bP (pNil v0) fun x1 =>
  bP (fa Q q 376 12 24 x1) fun x2 =>
  bP (ld Q q 23 x2 G) fun x3 =>
  some (x3, G))
theorem m223 {e : Ex} {E : Ev} (h : ExLe Q e E) (v0 : Value) (G : GS) : Ref (s223 true e v0 G) (s223 false (Ex.of E) v0 G) := by
  unfold s223
  exact Ref.go
theorem f223 {orc : FuncId → Bool} {e : Ex} (h : ExLe Q e (E orc)) (v0 : Value) (G : GS) : Ref (s223 true e v0 G) ((E orc).cl 223 [v0] G) :=
  fun r hr => cl_sxE_some Q orc (vs := [v0]) G Tryz.func223 (by kernel_rfl) (by kernel_rfl) (by kernel_rfl) (by kernel_rfl) (by kernel_rfl) (by kernel_rfl) (m223 h v0 G r hr)
noncomputable def b235_0 (q : Bool) (e : Ex) (lp : Env → GS → Option (Exit × Env × GS)) (τ : Env) (G : GS) : Option (Exit × Env × GS) :=
  bV q (τ 5) fun a5_ =>
  bV q (τ 6) fun a6_ =>
  bV q (τ 7) fun a7_ =>
  bP (bn Q q .lss 3 (.tmp 7) (.tmp 6) a7_ a6_) fun x0 =>
  ifV x0 (
  bP (ias Q q 395 3 a5_ a7_) fun x1 =>
  bP (lda Q q 354 3 x1 G) fun x2 =>
  bS (al Q q 354 z354 G) fun x3 G4 =>
  bP (st Q q 354 3 x3 x2 G4) fun G5 =>
  bP (fa Q q 354 0 0 x3) fun x6 =>
  bP (ld Q q 3 x6 G5) fun x7 =>
  bP (fa Q q 354 1 1 x3) fun x8 =>
  bP (ld Q q 3 x8 G5) fun x9 =>
  bP (bn Q q .lss 3 (.tmp 12) (.tmp 14) x7 x9) fun x10 =>
  bS (gd x10 false (bP (fa Q q 354 0 0 x3) fun y => some (y, G5)) G5) fun x11 G12 =>
  bS (gd x10 false (bP (ld Q q 3 x11 G12) fun y => some (y, G12)) G12) fun x13 G14 =>
  bS (gd x10 false (bP (fa Q q 354 2 2 x3) fun y => some (y, G14)) G14) fun x15 G16 =>
  bS (gd x10 false (bP (ld Q q 3 x15 G16) fun y => some (y, G16)) G16) fun x17 G18 =>
  bS (gd x10 false (bP (bn Q q .gtr 3 (.tmp 18) (.tmp 20) x13 x17) fun y => some (y, G18)) G18) fun x19 G20 =>
  bP (pickV x10 (.bool true) x19) fun x21 =>
  ifV x21 (
  some (.ret, clq q 24 (tu τ [(5, a5_), (6, a6_), (7, a7_), (2, (.bool false)), (4, x3), (8, x0), (9, x1), (10, x2), (11, x6), (12, x7), (13, x8), (14, x9), (15, x10), (16, x10), (17, x11), (18, x13), (19, x15), (20, x17), (21, x19), (22, x21)]), G20)) (
  bP (bn Q q .add 3 (.tmp 7) (.const (.int .i64 1)) a7_ (.int .i64 1)) fun x22 =>
  lp (tu τ [(5, a5_), (6, a6_), (7, x22), (4, x3), (8, x0), (9, x1), (10, x2), (11, x6), (12, x7), (13, x8), (14, x9), (15, x10), (16, x10), (17, x11), (18, x13), (19, x15), (20, x17), (21, x19), (22, x21), (23, x22)]) G20)) (
  some ((.exit 0), clq q 24 (tu τ [(5, a5_), (6, a6_), (7, a7_), (8, x0)]), G))
theorem mb235_0 {e : Ex} {E : Ev} (h : ExLe Q e E) {lp lp' : Env → GS → Option (Exit × Env × GS)} (hlp : LpLe lp lp') (τ : Env) (G : GS) : Ref (b235_0 true e lp τ G) (b235_0 false (Ex.of E) lp' τ G) := by
  unfold b235_0
  exact Ref.go
theorem l235_0 {orc : FuncId → Bool} {e : Ex} (h : ExLe Q e (E orc)) (lp : Env → GS → Option (Exit × Env × GS)) (hlp : ∀ τ G, Ref (lp τ G) (mapE ((E orc).lp (subAt [1, 0, 1, 0, 0] (bodyOf Tryz.f235)) (lst 24 τ) G))) (T : List Value) (G : GS) (hT : T.length = 24) : Ref (b235_0 true e lp (nth undef T) G) (mapE ((E orc).lp (subAt [1, 0, 1, 0, 0] (bodyOf Tryz.f235)) T G)) :=
  fun r hr => lp_sxM Q orc G hT (by kernel_rfl) (mb235_0 h ⟨hlp⟩ _ _ r hr)
/-- coxswain/word.within -/
noncomputable def s235 (q : Bool) (e : Ex) (v0 : Value) (G : GS) : Option (Value × GS) :=
  bP (ln Q q 395 v0) fun x0 =>
  bL q e 235 0 (subAt [1, 0, 1, 0, 0] (bodyOf Tryz.f235)) 24 (tu (nth undef [v0]) [(2, (.bool false)), (5, v0), (6, x0), (7, (.int .i64 0))]) G fun e1 t2 G3 =>
  bV q (t2 2) fun t2x2_ =>
  ifE e1 (.exit 0) (
  some ((.bool true), G3)) (ifE e1 .ret (
  some (t2x2_, G3)) (none))
theorem m235 {e : Ex} {E : Ev} (h : ExLe Q e E) (v0 : Value) (G : GS) : Ref (s235 true e v0 G) (s235 false (Ex.of E) v0 G) := by
  unfold s235
  exact Ref.go
theorem f235 {orc : FuncId → Bool} {e : Ex} (h : ExLe Q e (E orc)) (v0 : Value) (G : GS) : Ref (s235 true e v0 G) ((E orc).cl 235 [v0] G) :=
  fun r hr => cl_sxE_some Q orc (vs := [v0]) G Tryz.func235 (by kernel_rfl) (by kernel_rfl) (by kernel_rfl) (by kernel_rfl) (by kernel_rfl) (by kernel_rfl) (m235 h v0 G r hr)
/-- coxswain/word.tops -/
noncomputable def s236 (q : Bool) (e : Ex) (G : GS) : Option (Value × GS) :=
  bS (al Q q 357 z357 G) fun x0 G1 =>
  bP (bd Q q 356 z356 [(0, 0, 1), (1, 1, 1)] [(.int .i64 0), (.int .i64 16)]) fun x2 =>
  bP (bd Q q 356 z356 [(0, 0, 1), (1, 1, 1)] [(.int .i64 16), (.int .i64 48)]) fun x3 =>
  bP (bd Q q 357 z357 [(0, 0, 2), (1, 2, 2)] [x2, x3]) fun x4 =>
  bP (st Q q 357 4 x0 x4 G1) fun G5 =>
  bP (lda Q q 357 4 x0 G5) fun x6 =>
  some (x6, G5)
theorem m236 {e : Ex} {E : Ev} (h : ExLe Q e E) (G : GS) : Ref (s236 true e  G) (s236 false (Ex.of E)  G) := by
  unfold s236
  exact Ref.go
theorem f236 {orc : FuncId → Bool} {e : Ex} (h : ExLe Q e (E orc)) (ho : orc 236 = false) (G : GS) : Ref (s236 true e  G) ((E orc).cl 236 [] G) :=
  fun r hr => cl_sxE_some Q orc (vs := []) G Tryz.func236 (by kernel_rfl) (by kernel_rfl) ho (by kernel_rfl) (by kernel_rfl) (by kernel_rfl) (m236 h  G r hr)
noncomputable def b237_0 (q : Bool) (e : Ex) (lp : Env → GS → Option (Exit × Env × GS)) (τ : Env) (G : GS) : Option (Exit × Env × GS) :=
  bV q (τ 1) fun a1_ =>
  bV q (τ 5) fun a5_ =>
  bV q (τ 8) fun a8_ =>
  bV q (τ 9) fun a9_ =>
  bV q (τ 10) fun a10_ =>
  bP (bn Q q .lss 3 (.tmp 10) (.tmp 9) a10_ a9_) fun x0 =>
  ifV x0 (
  bP (ias Q q 361 2 a8_ a10_) fun x1 =>
  bP (lda Q q 356 2 x1 G) fun x2 =>
  bS (al Q q 356 z356 G) fun x3 G4 =>
  bP (st Q q 356 2 x3 x2 G4) fun G5 =>
  bP (lda Q q 356 2 x3 (G5.room 8)) fun x6 =>
  bP (ias Q q 35 1 a1_ a10_) fun x7 =>
  bP (ld Q q 3 x7 (G5.room 8)) fun x8 =>
  bS (e.ev.cl 256 [a5_, x6, x8] (G5.room 8)) fun x10 G9 =>
  bP (bn Q q .add 3 (.tmp 10) (.const (.int .i64 1)) a10_ (.int .i64 1)) fun x11 =>
  lp (tu τ [(1, a1_), (5, x10), (8, a8_), (9, a9_), (10, x11), (6, a10_), (7, x3), (11, x0), (12, a10_), (13, x1), (14, x2), (15, a5_), (16, x6), (17, a1_), (18, a10_), (19, x7), (20, x8), (21, x10), (22, x11)]) G9) (
  some ((.exit 0), clq q 24 (tu τ [(1, a1_), (5, a5_), (8, a8_), (9, a9_), (10, a10_), (11, x0)]), G))
theorem mb237_0 {e : Ex} {E : Ev} (h : ExLe Q e E) {lp lp' : Env → GS → Option (Exit × Env × GS)} (hlp : LpLe lp lp') (τ : Env) (G : GS) : Ref (b237_0 true e lp τ G) (b237_0 false (Ex.of E) lp' τ G) := by
  unfold b237_0
  exact Ref.go
theorem l237_0 {orc : FuncId → Bool} {e : Ex} (h : ExLe Q e (E orc)) (lp : Env → GS → Option (Exit × Env × GS)) (hlp : ∀ τ G, Ref (lp τ G) (mapE ((E orc).lp (subAt [1, 1, 0, 1, 0, 0] (bodyOf Tryz.f237)) (lst 24 τ) G))) (T : List Value) (G : GS) (hT : T.length = 24) : Ref (b237_0 true e lp (nth undef T) G) (mapE ((E orc).lp (subAt [1, 1, 0, 1, 0, 0] (bodyOf Tryz.f237)) T G)) :=
  fun r hr => lp_sxM Q orc G hT (by kernel_rfl) (mb237_0 h ⟨hlp⟩ _ _ r hr)
/-- coxswain/word.lay -/
noncomputable def s237 (q : Bool) (e : Ex) (v0 v1 : Value) (G : GS) : Option (Value × GS) :=
  bP (ln Q q 361 v0) fun x0 =>
  bL q e 237 0 (subAt [1, 1, 0, 1, 0, 0] (bodyOf Tryz.f237)) 24 (tu (nth undef [v0, v1]) [(4, (.int .u64 0)), (5, (.int .u64 0)), (8, v0), (9, x0), (10, (.int .i64 0))]) G fun e1 t2 G3 =>
  bV q (t2 5) fun t2x5_ =>
  ifE e1 (.exit 0) (
  some (t2x5_, G3)) (none)
theorem m237 {e : Ex} {E : Ev} (h : ExLe Q e E) (v0 v1 : Value) (G : GS) : Ref (s237 true e v0 v1 G) (s237 false (Ex.of E) v0 v1 G) := by
  unfold s237
  exact Ref.go
theorem f237 {orc : FuncId → Bool} {e : Ex} (h : ExLe Q e (E orc)) (v0 v1 : Value) (G : GS) : Ref (s237 true e v0 v1 G) ((E orc).cl 237 [v0, v1] G) :=
  fun r hr => cl_sxE_some Q orc (vs := [v0, v1]) G Tryz.func237 (by kernel_rfl) (by kernel_rfl) (by kernel_rfl) (by kernel_rfl) (by kernel_rfl) (by kernel_rfl) (m237 h v0 v1 G r hr)
/-- (*coxswain/stack.Pop).second -/
noncomputable def s238 (q : Bool) (e : Ex) (v0 v1 : Value) (G : GS) : Option (Value × GS) :=
  bP (pNil v0) fun x0 =>
  bP (fa Q q 319 0 0 x0) fun x1 =>
  bP (fa Q q 316 0 0 x1) fun x2 =>
  bP (lda Q q 37 3 x2 (G.room 25)) fun x3 =>
  bP (pNil v0) fun x4 =>
  bP (fa Q q 319 0 0 x4) fun x5 =>
  bP (fa Q q 316 0 0 x5) fun x6 =>
  bP (fa Q q 37 1 1 x6) fun x7 =>
  bP (ld Q q 3 x7 (G.room 25)) fun x8 =>
  bP (pNil v0) fun x9 =>
  bP (fa Q q 319 0 0 x9) fun x10 =>
  bP (fa Q q 316 2 4 x10) fun x11 =>
  bP (ld Q q 3 x11 (G.room 25)) fun x12 =>
  bP (bn Q q .add 3 (.tmp 16) (.tmp 21) x8 x12) fun x13 =>
  bS (e.ev.cl 70 [v1, x13] (G.room 25)) fun x15 G14 =>
  chk ((sameO (lda Q q 37 3 x2 G14) x3 && true)) <|
  bS (e.ev.cl 257 [x3, x15] G14) fun x17 G16 =>
  bP (pNil v0) fun x18 =>
  bP (fa Q q 319 0 0 x18) fun x19 =>
  bP (fa Q q 316 3 5 x19) fun x20 =>
  bP (st Q q 3 1 x20 x17 G16) fun G21 =>
  bP (pNil v0) fun x22 =>
  bP (fa Q q 319 1 9 x22) fun x23 =>
  bP (st Q q 317 1 x23 (.func (.func 258) #[] #[]) G21) fun G24 =>
  some (.tuple #[], G24)
theorem m238 {e : Ex} {E : Ev} (h : ExLe Q e E) (v0 v1 : Value) (G : GS) : Ref (s238 true e v0 v1 G) (s238 false (Ex.of E) v0 v1 G) := by
  unfold s238
  exact Ref.go
theorem f238 {orc : FuncId → Bool} {e : Ex} (h : ExLe Q e (E orc)) (v0 v1 : Value) (G : GS) : Ref (s238 true e v0 v1 G) ((E orc).cl 238 [v0, v1] G) :=
  fun r hr => cl_sxE_some Q orc (vs := [v0, v1]) G Tryz.func238 (by kernel_rfl) (by kernel_rfl) (by kernel_rfl) (by kernel_rfl) (by kernel_rfl) (by kernel_rfl) (m238 h v0 v1 G r hr)
/-- (*coxswain/stack.held).load -/
noncomputable def s239 (q : Bool) (e : Ex) (v0 v1 : Value) (G : GS) : Option (Value × GS) :=
  bP (pNil v0) fun x0 =>
  bP (fa Q q 316 0 0 x0) fun x1 =>
  bP (fa Q q 37 0 0 x1) fun x2 =>
  bP (ld Q q 3 x2 G) fun x3 =>
  bS (e.ev.cl 70 [v1, x3] G) fun x4 G5 =>
  bP (pNil v0) fun x6 =>
  bP (fa Q q 316 1 3 x6) fun x7 =>
  bP (st Q q 23 1 x7 x4 G5) fun G8 =>
  bP (pNil v0) fun x9 =>
  bP (fa Q q 316 0 0 x9) fun x10 =>
  bP (lda Q q 37 3 x10 (G8.room 10)) fun x11 =>
  bP (pNil v0) fun x12 =>
  bP (fa Q q 316 1 3 x12) fun x13 =>
  bP (ld Q q 23 x13 (G8.room 10)) fun x14 =>
  bS (e.ev.cl 257 [x11, x14] (G8.room 10)) fun x16 G15 =>
  some (x16, G15)
theorem m239 {e : Ex} {E : Ev} (h : ExLe Q e E) (v0 v1 : Value) (G : GS) : Ref (s239 true e v0 v1 G) (s239 false (Ex.of E) v0 v1 G) := by
  unfold s239
  exact Ref.go
theorem f239 {orc : FuncId → Bool} {e : Ex} (h : ExLe Q e (E orc)) (v0 v1 : Value) (G : GS) : Ref (s239 true e v0 v1 G) ((E orc).cl 239 [v0, v1] G) :=
  fun r hr => cl_sxE_some Q orc (vs := [v0, v1]) G Tryz.func239 (by kernel_rfl) (by kernel_rfl) (by kernel_rfl) (by kernel_rfl) (by kernel_rfl) (by kernel_rfl) (m239 h v0 v1 G r hr)
/-- (*coxswain/stack.held).ends -/
noncomputable def s240 (q : Bool) (e : Ex) (v0 v1 : Value) (G : GS) : Option (Value × GS) :=
  bP (pNil v0) fun x0 =>
  bP (fa Q q 316 5 7 x0) fun x1 =>
  bP (st Q q 4 1 x1 (.bool true) G) fun G2 =>
  bP (pNil v0) fun x3 =>
  bP (fa Q q 316 6 8 x3) fun x4 =>
  bP (st Q q 51 1 x4 v1 G2) fun G5 =>
  some (.tuple #[], G5)
theorem m240 {e : Ex} {E : Ev} (h : ExLe Q e E) (v0 v1 : Value) (G : GS) : Ref (s240 true e v0 v1 G) (s240 false (Ex.of E) v0 v1 G) := by
  unfold s240
  exact Ref.go
theorem f240 {orc : FuncId → Bool} {e : Ex} (h : ExLe Q e (E orc)) (v0 v1 : Value) (G : GS) : Ref (s240 true e v0 v1 G) ((E orc).cl 240 [v0, v1] G) :=
  fun r hr => cl_sxE_some Q orc (vs := [v0, v1]) G Tryz.func240 (by kernel_rfl) (by kernel_rfl) (by kernel_rfl) (by kernel_rfl) (by kernel_rfl) (by kernel_rfl) (m240 h v0 v1 G r hr)
/-- (*coxswain/stack.held).over -/
noncomputable def s241 (q : Bool) (e : Ex) (v0 : Value) (G : GS) : Option (Value × GS) :=
  bP (ep Q q false 397 (.tmp 3) (.const (.pointer none)) v0 (.pointer none)) fun x0 =>
  bS (gd x0 false (some (v0, G)) G) fun x1 G2 =>
  bS (gd x0 false (bP (pNil x1) fun y => some (y, G2)) G2) fun x3 G4 =>
  bS (gd x0 false (bP (fa Q q 316 4 6 x3) fun y => some (y, G4)) G4) fun x5 G6 =>
  bS (gd x0 false (bP (ld Q q 4 x5 G6) fun y => some (y, G6)) G6) fun x7 G8 =>
  bS (gd x0 false (bP (un Q q .not x7) fun y => some (y, G8)) G8) fun x9 G10 =>
  bP (pickV x0 (.bool true) x9) fun x11 =>
  bS (gd x11 false (some (v0, G10)) G10) fun x12 G13 =>
  bS (gd x11 false (bP (pNil x12) fun y => some (y, G13)) G13) fun x14 G15 =>
  bS (gd x11 false (bP (fa Q q 316 5 7 x14) fun y => some (y, G15)) G15) fun x16 G17 =>
  bS (gd x11 false (bP (ld Q q 4 x16 G17) fun y => some (y, G17)) G17) fun x18 G19 =>
  bP (pickV x11 (.bool true) x18) fun x20 =>
  some (x20, G19)
theorem m241 {e : Ex} {E : Ev} (h : ExLe Q e E) (v0 : Value) (G : GS) : Ref (s241 true e v0 G) (s241 false (Ex.of E) v0 G) := by
  unfold s241
  exact Ref.go
theorem f241 {orc : FuncId → Bool} {e : Ex} (h : ExLe Q e (E orc)) (v0 : Value) (G : GS) : Ref (s241 true e v0 G) ((E orc).cl 241 [v0] G) :=
  fun r hr => cl_sxE_some Q orc (vs := [v0]) G Tryz.func241 (by kernel_rfl) (by kernel_rfl) (by kernel_rfl) (by kernel_rfl) (by kernel_rfl) (by kernel_rfl) (m241 h v0 G r hr)
/-- (*coxswain/stack.held).index -/
noncomputable def s242 (q : Bool) (e : Ex) (v0 : Value) (G : GS) : Option (Value × GS) :=
  bS (e.ev.cl 259 [v0] G) fun x0 G1 =>
  bP (bn Q q .neq 51 (.tmp 7) (.const (.int .i64 0)) x0 (.int .i64 0)) fun x2 =>
  ifV x2 (
  some (.tuple #[(.int .i64 0), x0], G1)) (
  bP (pNil v0) fun x3 =>
  bP (fa Q q 316 2 4 x3) fun x4 =>
  bP (ld Q q 3 x4 G1) fun x5 =>
  some (.tuple #[x5, (.int .i64 0)], G1))
theorem m242 {e : Ex} {E : Ev} (h : ExLe Q e E) (v0 : Value) (G : GS) : Ref (s242 true e v0 G) (s242 false (Ex.of E) v0 G) := by
  unfold s242
  exact Ref.go
theorem f242 {orc : FuncId → Bool} {e : Ex} (h : ExLe Q e (E orc)) (v0 : Value) (G : GS) : Ref (s242 true e v0 G) ((E orc).cl 242 [v0] G) :=
  fun r hr => cl_sxE_some Q orc (vs := [v0]) G Tryz.func242 (by kernel_rfl) (by kernel_rfl) (by kernel_rfl) (by kernel_rfl) (by kernel_rfl) (by kernel_rfl) (m242 h v0 G r hr)
/-- coxswain/word.PutRef -/
noncomputable def s243 (q : Bool) (e : Ex) (v0 : Value) (G : GS) : Option (Value × GS) :=
  bS (bx q v0 G) fun x0 G1 =>
  bP (fa Q q 365 0 0 x0) fun x2 =>
  bP (ld Q q 3 x2 G1) fun x3 =>
  bP (bd Q q 354 z354 [(0, 0, 1), (1, 1, 1), (2, 2, 1)] [x3, (.int .i64 (-1)), (.int .i64 65534)]) fun x4 =>
  bP (fa Q q 365 1 1 x0) fun x5 =>
  bP (ld Q q 3 x5 G1) fun x6 =>
  bP (bd Q q 354 z354 [(0, 0, 1), (1, 1, 1), (2, 2, 1)] [x6, (.int .i64 0), (.int .i64 4294967295)]) fun x7 =>
  bS (bs Q q 395 2 (rep z354 2) 3 [(0, 0, 3), (1, 3, 3)] [x4, x7] G1) fun x8 G9 =>
  bS (e.ev.cl 235 [x8] G9) fun x10 G11 =>
  bP (un Q q .not x10) fun x12 =>
  ifV x12 (
  some (.tuple #[(.int .u64 0), (.int .i64 3)], G11)) (
  bP (fa Q q 365 0 0 x0) fun x13 =>
  bP (ld Q q 3 x13 G11) fun x14 =>
  bP (bn Q q .eql 3 (.tmp 17) (.const (.int .i64 (-1))) x14 (.int .i64 (-1))) fun x15 =>
  bS (gd x15 true (bP (fa Q q 365 1 1 x0) fun y => some (y, G11)) G11) fun x16 G17 =>
  bS (gd x15 true (bP (ld Q q 3 x16 G17) fun y => some (y, G17)) G17) fun x18 G19 =>
  bS (gd x15 true (bP (bn Q q .neq 3 (.tmp 21) (.const (.int .i64 0)) x18 (.int .i64 0)) fun y => some (y, G19)) G19) fun x20 G21 =>
  bP (pickV x15 x20 (.bool false)) fun x22 =>
  ifV x22 (
  some (.tuple #[(.int .u64 0), (.int .i64 5)], G21)) (
  bS (e.ev.cl 260 [] G21) fun x23 G24 =>
  bS (al Q q 357 z357 G24) fun x25 G26 =>
  bP (st Q q 357 4 x25 x23 G26) fun G27 =>
  bP (sla Q q 357 2 2 x25 none none none (G27.room 13)) fun x28 =>
  bP (fa Q q 365 0 0 x0) fun x29 =>
  bP (ld Q q 3 x29 (G27.room 13)) fun x30 =>
  bP (bn Q q .add 3 (.tmp 27) (.const (.int .i64 1)) x30 (.int .i64 1)) fun x31 =>
  bP (fa Q q 365 1 1 x0) fun x32 =>
  bP (ld Q q 3 x32 (G27.room 13)) fun x33 =>
  bS (bs Q q 35 2 (rep z3 2) 1 [(0, 0, 1), (1, 1, 1)] [x31, x33] ((G27.room 13).at' (G27.nx + 6))) fun x34 G35 =>
  bS (e.ev.cl 237 [x28, x34] (G35.back (G27.room 13))) fun x37 G36 =>
  bP (fa Q q 365 2 2 x0) fun x38 =>
  bP (ld Q q 4 x38 G36) fun x39 =>
  chk ((sameO (ld Q q 4 x38 (G35.back (G27.room 13))) x39 && true)) <|
  bS (e.ev.cl 261 [x37, x39] G36) fun x41 G40 =>
  some (.tuple #[x41, (.int .i64 0)], G40)))
theorem m243 {e : Ex} {E : Ev} (h : ExLe Q e E) (v0 : Value) (G : GS) : Ref (s243 true e v0 G) (s243 false (Ex.of E) v0 G) := by
  unfold s243
  exact Ref.go
theorem f243 {orc : FuncId → Bool} {e : Ex} (h : ExLe Q e (E orc)) (v0 : Value) (G : GS) : Ref (s243 true e v0 G) ((E orc).cl 243 [v0] G) :=
  fun r hr => cl_sxE_some Q orc (vs := [v0]) G Tryz.func243 (by kernel_rfl) (by kernel_rfl) (by kernel_rfl) (by kernel_rfl) (by kernel_rfl) (by kernel_rfl) (m243 h v0 G r hr)
end Go.Proofs.YtedmgpchggogpaaGreat.LiftK
