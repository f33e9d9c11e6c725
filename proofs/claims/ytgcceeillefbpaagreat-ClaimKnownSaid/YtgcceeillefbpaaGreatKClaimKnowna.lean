/- the program's code, spelled out by a program of ours (lift2.lean) -/
import Derived.Test.YtgcceeillefbpaaGreatProg
import Derived.Test.YtgcceeillefbpaaGreatGhKO
import Derived.KernelRfl
namespace Go.Proofs.YtgcceeillefbpaaGreat.Lift
open Go Go.Proofs.YtgcceeillefbpaaGreat.Gh Go.Proofs
set_option linter.unusedVariables false
set_option maxRecDepth 100000
@[reducible] noncomputable def Q : Program := Tryz.prog
@[reducible] noncomputable def E (orc : FuncId → Bool) : Ev := evL Tryz.prog orc
instance iep31 : EpOk Q 31 := ⟨fun neg x y => by cases neg <;> kernel_rfl, fun neg x y a => by cases neg <;> kernel_rfl, fun neg x y a => by cases neg <;> kernel_rfl⟩
noncomputable abbrev z58 : List Value := [(.int .u64 0), (.int .i64 0)]
instance ibd58_0_1 : BdOk Q 58 z58 [(0, 0, 1), (1, 1, 1)] := bd_ok Q (by kernel_rfl) (by kernel_rfl) (by kernel_rfl)
instance ibd58_ : BdOk Q 58 z58 [] := bd_ok Q (by kernel_rfl) (by kernel_rfl) (by kernel_rfl)
instance ial58 : AlOk Q 58 z58 := ⟨fun G => by kernel_rfl⟩
instance ist58 : StOk Q 58 2 := ⟨fun b o s v G => by kernel_rfl⟩
noncomputable abbrev z3 : List Value := [(.int .i64 0)]
instance ibs139_2_0_1 : BsOk Q 139 2 (rep z3 2) 1 [(0, 0, 1), (1, 1, 1)] := bs_ok Q (z0 := z3) (by kernel_rfl) rfl (by decide) (by kernel_rfl)
noncomputable abbrev z67 : List Value := [(.int .i64 0), (.int .i64 0), (.int .i64 0), (.int .i64 0), (.int .i64 0), (.int .i64 0), (.int .i64 0), (.int .i64 0), (.int .i64 0), (.int .i64 0), (.int .i64 0), (.int .i64 0), (.int .i64 0)]
instance ial67 : AlOk Q 67 z67 := ⟨fun G => by kernel_rfl⟩
instance ist67 : StOk Q 67 13 := ⟨fun b o s v G => by kernel_rfl⟩
instance ifa67_2 : FaOk Q 67 2 2 := ⟨fun b o s => by kernel_rfl⟩
instance ist3 : StOk Q 3 1 := ⟨fun b o s v G => by kernel_rfl⟩
instance ilda67 : LdAOk Q 67 13 := ⟨fun b o s G => by kernel_rfl⟩
instance ifa169_0 : FaOk Q 169 0 0 := ⟨fun b o s => by kernel_rfl⟩
instance ild167 : LdOk Q 167 := ⟨fun b o s G => (show _ = loadOne b o G by kernel_rfl).trans (loadOne_eq b o G)⟩
instance iep167 : EpOk Q 167 := ⟨fun neg x y => by cases neg <;> kernel_rfl, fun neg x y a => by cases neg <;> kernel_rfl, fun neg x y a => by cases neg <;> kernel_rfl⟩
instance ifa169_1 : FaOk Q 169 1 1 := ⟨fun b o s => by kernel_rfl⟩
instance ild3 : LdOk Q 3 := ⟨fun b o s G => (show _ = loadOne b o G by kernel_rfl).trans (loadOne_eq b o G)⟩
noncomputable abbrev z49 : List Value := [(.int .u64 0)]
instance imk26 : MkSlOk Q 26 1 8 z49 := ⟨fun k k' l c G => by kernel_rfl⟩
instance isla186 : SlAOk Q 186 4096 1 := ⟨fun a lo hi mx G => by kernel_rfl⟩
instance iln170 : LnOk Q 170 := ⟨fun a n c => by kernel_rfl⟩
instance iias170 : IasOk Q 170 1 := ⟨fun b o s n c k j => by kernel_rfl⟩
instance ild171 : LdOk Q 171 := ⟨fun b o s G => (show _ = loadOne b o G by kernel_rfl).trans (loadOne_eq b o G)⟩
instance iias26 : IasOk Q 26 1 := ⟨fun b o s n c k j => by kernel_rfl⟩
instance ist49 : StOk Q 49 1 := ⟨fun b o s v G => by kernel_rfl⟩
instance ibs26_18_0_1_2_3_4_5_6_7_8_9_10_11_12_13_14_15_16_17 : BsOk Q 26 18 (rep z49 18) 1 [(0, 0, 1), (1, 1, 1), (2, 2, 1), (3, 3, 1), (4, 4, 1), (5, 5, 1), (6, 6, 1), (7, 7, 1), (8, 8, 1), (9, 9, 1), (10, 10, 1), (11, 11, 1), (12, 12, 1), (13, 13, 1), (14, 14, 1), (15, 15, 1), (16, 16, 1), (17, 17, 1)] := bs_ok Q (z0 := z49) (by kernel_rfl) rfl (by decide) (by kernel_rfl)
instance iln26 : LnOk Q 26 := ⟨fun a n c => by kernel_rfl⟩
instance ild49 : LdOk Q 49 := ⟨fun b o s G => (show _ = loadOne b o G by kernel_rfl).trans (loadOne_eq b o G)⟩
instance ilda58 : LdAOk Q 58 2 := ⟨fun b o s G => by kernel_rfl⟩
instance ieb4 : EbOk Q 4 := ⟨fun neg x y a b => by cases neg <;> cases a <;> cases b <;> kernel_rfl⟩
noncomputable abbrev z84 : List Value := [(.int .i64 0), (.int .i64 0), (.int .i64 0), (.int .i64 0), (.int .i64 0), (.int .i64 0), (.int .i64 0), (.int .i64 0), (.int .i64 0), (.int .i64 0), (.int .i64 0), (.int .i64 0), (.int .i64 0), (.int .i64 0), (.bool false), (.pointer none), (.pointer none), (.int .i64 0), (.int .u64 0), (.int .i64 0), (.int .u64 0), (.int .u64 0), (.int .i64 0), (.int .u64 0), (.bool false), (.int .i64 0)]
instance ibd84_0 : BdOk Q 84 z84 [(0, 0, 26)] := bd_ok Q (by kernel_rfl) (by kernel_rfl) (by kernel_rfl)
noncomputable abbrev z23 : List Value := [(.int .i64 0), (.int .i64 0), (.int .i64 0)]
instance ibd23_0_1_2 : BdOk Q 23 z23 [(0, 0, 1), (1, 1, 1), (2, 2, 1)] := bd_ok Q (by kernel_rfl) (by kernel_rfl) (by kernel_rfl)
noncomputable abbrev z25 : List Value := [(.int .i64 0), (.int .i64 0), (.int .i64 0), (.int .i64 0), (.int .i64 0), (.int .i64 0)]
instance ibd25_0_1_2_3 : BdOk Q 25 z25 [(0, 0, 3), (1, 3, 1), (2, 4, 1), (3, 5, 1)] := bd_ok Q (by kernel_rfl) (by kernel_rfl) (by kernel_rfl)
instance ial25 : AlOk Q 25 z25 := ⟨fun G => by kernel_rfl⟩
instance ist25 : StOk Q 25 6 := ⟨fun b o s v G => by kernel_rfl⟩
instance ilda25 : LdAOk Q 25 6 := ⟨fun b o s G => by kernel_rfl⟩
noncomputable abbrev z63 : List Value := [(.int .i64 0), (.int .i64 0), (.int .i64 0)]
instance ibd63_0_1_2 : BdOk Q 63 z63 [(0, 0, 1), (1, 1, 1), (2, 2, 1)] := bd_ok Q (by kernel_rfl) (by kernel_rfl) (by kernel_rfl)
noncomputable abbrev z65 : List Value := [(.int .i64 0), (.int .i64 0), (.int .i64 0), (.int .i64 0), (.int .i64 0), (.int .i64 0), (.int .i64 0), (.int .i64 0), (.int .i64 0), (.int .i64 0)]
instance ibd65_0_1_2 : BdOk Q 65 z65 [(0, 0, 6), (1, 6, 3), (2, 9, 1)] := bd_ok Q (by kernel_rfl) (by kernel_rfl) (by kernel_rfl)
instance ial65 : AlOk Q 65 z65 := ⟨fun G => by kernel_rfl⟩
instance ist65 : StOk Q 65 10 := ⟨fun b o s v G => by kernel_rfl⟩
instance ilda65 : LdAOk Q 65 10 := ⟨fun b o s G => by kernel_rfl⟩
instance ibd67_0_1_2_3 : BdOk Q 67 z67 [(0, 0, 1), (1, 1, 1), (2, 2, 1), (3, 3, 10)] := bd_ok Q (by kernel_rfl) (by kernel_rfl) (by kernel_rfl)
instance iep60 : EpOk Q 60 := ⟨fun neg x y => by cases neg <;> kernel_rfl, fun neg x y a => by cases neg <;> kernel_rfl, fun neg x y a => by cases neg <;> kernel_rfl⟩
instance ifa84_0 : FaOk Q 84 0 0 := ⟨fun b o s => by kernel_rfl⟩
instance ifa82_2 : FaOk Q 82 2 17 := ⟨fun b o s => by kernel_rfl⟩
instance ifa82_5 : FaOk Q 82 5 20 := ⟨fun b o s => by kernel_rfl⟩
instance ist80 : StOk Q 80 1 := ⟨fun b o s v G => by kernel_rfl⟩
instance ild80 : LdOk Q 80 := ⟨fun b o s G => (show _ = loadOne b o G by kernel_rfl).trans (loadOne_eq b o G)⟩
instance ifa82_3 : FaOk Q 82 3 18 := ⟨fun b o s => by kernel_rfl⟩
instance ifa82_7 : FaOk Q 82 7 23 := ⟨fun b o s => by kernel_rfl⟩
instance ifa82_0 : FaOk Q 82 0 0 := ⟨fun b o s => by kernel_rfl⟩
instance ifa82_4 : FaOk Q 82 4 19 := ⟨fun b o s => by kernel_rfl⟩
instance ifa82_1 : FaOk Q 82 1 13 := ⟨fun b o s => by kernel_rfl⟩
instance ifa79_1 : FaOk Q 79 1 1 := ⟨fun b o s => by kernel_rfl⟩
instance ist4 : StOk Q 4 1 := ⟨fun b o s v G => by kernel_rfl⟩
instance ifa82_6 : FaOk Q 82 6 21 := ⟨fun b o s => by kernel_rfl⟩
instance ifa58_0 : FaOk Q 58 0 0 := ⟨fun b o s => by kernel_rfl⟩
instance ifa79_2 : FaOk Q 79 2 2 := ⟨fun b o s => by kernel_rfl⟩
instance ist76 : StOk Q 76 1 := ⟨fun b o s v G => by kernel_rfl⟩
instance ild4 : LdOk Q 4 := ⟨fun b o s G => (show _ = loadOne b o G by kernel_rfl).trans (loadOne_eq b o G)⟩
instance iep72 : EpOk Q 72 := ⟨fun neg x y => by cases neg <;> kernel_rfl, fun neg x y a => by cases neg <;> kernel_rfl, fun neg x y a => by cases neg <;> kernel_rfl⟩
instance ifa90_0 : FaOk Q 90 0 0 := ⟨fun b o s => by kernel_rfl⟩
instance ibs139_1_0 : BsOk Q 139 1 (rep z3 1) 1 [(0, 0, 1)] := bs_ok Q (z0 := z3) (by kernel_rfl) rfl (by decide) (by kernel_rfl)
instance ifa88_2 : FaOk Q 88 2 13 := ⟨fun b o s => by kernel_rfl⟩
instance ifa88_6 : FaOk Q 88 6 17 := ⟨fun b o s => by kernel_rfl⟩
noncomputable abbrev z186 : List Value := (zs 4096 (.int .u64 0))
instance ial186 : AlOk Q 186 z186 := ⟨fun G => by kernel_rfl⟩
noncomputable abbrev z169 : List Value := [(.pointer none), (.int .i64 0), (.int .i64 0), (.int .i64 0), (.int .u64 0), (.int .u64 0), (.bool false), (.int .i64 0)]
instance ibd169_0_1 : BdOk Q 169 z169 [(0, 0, 1), (1, 1, 1)] := bd_ok Q (by kernel_rfl) (by kernel_rfl) (by kernel_rfl)
noncomputable abbrev z90 : List Value := [(.int .i64 0), (.int .i64 0), (.int .i64 0), (.int .i64 0), (.int .i64 0), (.int .i64 0), (.int .i64 0), (.int .i64 0), (.int .i64 0), (.int .i64 0), (.int .i64 0), (.int .i64 0), (.int .i64 0), (.int .i64 0), (.int .u64 0), (.int .i64 0), (.int .u64 0), (.int .u64 0), (.int .i64 0), (.int .u64 0), (.bool false), (.int .i64 0)]
instance ibd90_0 : BdOk Q 90 z90 [(0, 0, 22)] := bd_ok Q (by kernel_rfl) (by kernel_rfl) (by kernel_rfl)
noncomputable abbrev z195 : List Value := [(.pointer none), (.int .u64 0), (.int .u64 0)]
instance ibd195_0_1 : BdOk Q 195 z195 [(0, 0, 1), (1, 1, 1)] := bd_ok Q (by kernel_rfl) (by kernel_rfl) (by kernel_rfl)
instance ial195 : AlOk Q 195 z195 := ⟨fun G => by kernel_rfl⟩
instance ist195 : StOk Q 195 3 := ⟨fun b o s v G => by kernel_rfl⟩
instance ifa195_0 : FaOk Q 195 0 0 := ⟨fun b o s => by kernel_rfl⟩
instance ild192 : LdOk Q 192 := ⟨fun b o s G => (show _ = loadOne b o G by kernel_rfl).trans (loadOne_eq b o G)⟩
instance ilda195 : LdAOk Q 195 3 := ⟨fun b o s G => by kernel_rfl⟩
instance iln139 : LnOk Q 139 := ⟨fun a n c => by kernel_rfl⟩
instance iias139 : IasOk Q 139 1 := ⟨fun b o s n c k j => by kernel_rfl⟩
instance ifa25_0 : FaOk Q 25 0 0 := ⟨fun b o s => by kernel_rfl⟩
instance ilda23 : LdAOk Q 23 3 := ⟨fun b o s G => by kernel_rfl⟩
instance ifa25_2 : FaOk Q 25 2 4 := ⟨fun b o s => by kernel_rfl⟩
instance ifa23_2 : FaOk Q 23 2 2 := ⟨fun b o s => by kernel_rfl⟩
instance ifa25_1 : FaOk Q 25 1 3 := ⟨fun b o s => by kernel_rfl⟩
instance ibd195_0 : BdOk Q 195 z195 [(0, 0, 1)] := bd_ok Q (by kernel_rfl) (by kernel_rfl) (by kernel_rfl)
instance ifd51_3 : FdOk Q 51 3 3 := ⟨fun l => by kernel_rfl⟩
instance ifa67_3 : FaOk Q 67 3 3 := ⟨fun b o s => by kernel_rfl⟩
instance ifa67_1 : FaOk Q 67 1 1 := ⟨fun b o s => by kernel_rfl⟩
noncomputable abbrev z139 : List Value := [(.slice none 0 0)]
instance ial139 : AlOk Q 139 z139 := ⟨fun G => by kernel_rfl⟩
instance ild139 : LdOk Q 139 := ⟨fun b o s G => (show _ = loadOne b o G by kernel_rfl).trans (loadOne_eq b o G)⟩
instance iap139_139 : ApOk Q 139 139 1 8 := ⟨fun s x G => by kernel_rfl⟩
instance ist139 : StOk Q 139 1 := ⟨fun b o s v G => by kernel_rfl⟩
noncomputable abbrev z82 : List Value := [(.int .i64 0), (.int .i64 0), (.int .i64 0), (.int .i64 0), (.int .i64 0), (.int .i64 0), (.int .i64 0), (.int .i64 0), (.int .i64 0), (.int .i64 0), (.int .i64 0), (.int .i64 0), (.int .i64 0), (.int .i64 0), (.bool false), (.pointer none), (.pointer none), (.int .i64 0), (.int .u64 0), (.int .i64 0), (.int .u64 0), (.int .u64 0), (.int .i64 0), (.int .u64 0), (.bool false), (.int .i64 0)]
instance ial82 : AlOk Q 82 z82 := ⟨fun G => by kernel_rfl⟩
instance ibd82_8_2_9 : BdOk Q 82 z82 [(8, 24, 1), (2, 17, 1), (9, 25, 1)] := bd_ok Q (by kernel_rfl) (by kernel_rfl) (by kernel_rfl)
instance ist82 : StOk Q 82 26 := ⟨fun b o s v G => by kernel_rfl⟩
instance ibd82_0_8_2 : BdOk Q 82 z82 [(0, 0, 13), (8, 24, 1), (2, 17, 1)] := bd_ok Q (by kernel_rfl) (by kernel_rfl) (by kernel_rfl)
instance ilda82 : LdAOk Q 82 26 := ⟨fun b o s G => by kernel_rfl⟩
instance ifa82_8 : FaOk Q 82 8 24 := ⟨fun b o s => by kernel_rfl⟩
noncomputable abbrev z250 : List Value := [(.int .i64 0), (.int .i64 0)]
instance ial250 : AlOk Q 250 z250 := ⟨fun G => by kernel_rfl⟩
instance ist250 : StOk Q 250 2 := ⟨fun b o s v G => by kernel_rfl⟩
instance ifa250_0 : FaOk Q 250 0 0 := ⟨fun b o s => by kernel_rfl⟩
instance ifa65_0 : FaOk Q 65 0 0 := ⟨fun b o s => by kernel_rfl⟩
instance ifa82_9 : FaOk Q 82 9 25 := ⟨fun b o s => by kernel_rfl⟩
instance ist28 : StOk Q 28 1 := ⟨fun b o s v G => by kernel_rfl⟩
instance ifa79_0 : FaOk Q 79 0 0 := ⟨fun b o s => by kernel_rfl⟩
instance icv3_49 : CvOk Q 3 49 .i64 .u64 := ⟨fun n => by kernel_rfl⟩
instance icv49_3 : CvOk Q 49 3 .u64 .i64 := ⟨fun n => by kernel_rfl⟩
instance ibd195_0_1_2 : BdOk Q 195 z195 [(0, 0, 1), (1, 1, 1), (2, 2, 1)] := bd_ok Q (by kernel_rfl) (by kernel_rfl) (by kernel_rfl)
instance ifd51_4 : FdOk Q 51 4 4 := ⟨fun l => by kernel_rfl⟩
instance ifa58_1 : FaOk Q 58 1 1 := ⟨fun b o s => by kernel_rfl⟩
noncomputable abbrev z259 : List Value := [(.int .i64 0), (.int .i64 0), (.int .i64 0), (.int .i64 0), (.int .i64 0), (.int .i64 0), (.int .i64 0), (.int .i64 0), (.int .i64 0), (.int .i64 0), (.int .i64 0), (.int .i64 0), (.int .i64 0), (.int .u64 0), (.int .i64 0), (.int .i64 0), (.int .i64 0), (.int .u64 0), (.int .u64 0), (.int .u64 0), (.slice none 0 0), (.int .u64 0), (.bool false), (.int .i64 0)]
instance ibd259_0_1_7 : BdOk Q 259 z259 [(0, 0, 13), (1, 13, 1), (7, 22, 1)] := bd_ok Q (by kernel_rfl) (by kernel_rfl) (by kernel_rfl)
instance ifa259_2 : FaOk Q 259 2 14 := ⟨fun b o s => by kernel_rfl⟩
instance ifa259_8 : FaOk Q 259 8 23 := ⟨fun b o s => by kernel_rfl⟩
noncomputable abbrev z256 : List Value := [(.int .i64 0), (.int .i64 0), (.int .u64 0), (.int .u64 0)]
instance imk257 : MkSlOk Q 257 4 32 z256 := ⟨fun k k' l c G => by kernel_rfl⟩
instance ifa259_5 : FaOk Q 259 5 20 := ⟨fun b o s => by kernel_rfl⟩
instance ist257 : StOk Q 257 1 := ⟨fun b o s v G => by kernel_rfl⟩
instance ild76 : LdOk Q 76 := ⟨fun b o s G => (show _ = loadOne b o G by kernel_rfl).trans (loadOne_eq b o G)⟩
instance ifa79_3 : FaOk Q 79 3 3 := ⟨fun b o s => by kernel_rfl⟩
instance ist77 : StOk Q 77 1 := ⟨fun b o s v G => by kernel_rfl⟩
instance ild77 : LdOk Q 77 := ⟨fun b o s G => (show _ = loadOne b o G by kernel_rfl).trans (loadOne_eq b o G)⟩
instance ild28 : LdOk Q 28 := ⟨fun b o s G => (show _ = loadOne b o G by kernel_rfl).trans (loadOne_eq b o G)⟩
instance ifa88_8 : FaOk Q 88 8 20 := ⟨fun b o s => by kernel_rfl⟩
instance ifa88_9 : FaOk Q 88 9 21 := ⟨fun b o s => by kernel_rfl⟩
instance ial23 : AlOk Q 23 z23 := ⟨fun G => by kernel_rfl⟩
instance ist23 : StOk Q 23 3 := ⟨fun b o s v G => by kernel_rfl⟩
instance ifa65_2 : FaOk Q 65 2 9 := ⟨fun b o s => by kernel_rfl⟩
instance ifa23_0 : FaOk Q 23 0 0 := ⟨fun b o s => by kernel_rfl⟩
instance ifa88_7 : FaOk Q 88 7 19 := ⟨fun b o s => by kernel_rfl⟩
instance ifa88_0 : FaOk Q 88 0 0 := ⟨fun b o s => by kernel_rfl⟩
instance ifa88_3 : FaOk Q 88 3 14 := ⟨fun b o s => by kernel_rfl⟩
instance ifa88_4 : FaOk Q 88 4 15 := ⟨fun b o s => by kernel_rfl⟩
instance ifa88_5 : FaOk Q 88 5 16 := ⟨fun b o s => by kernel_rfl⟩
noncomputable abbrev z88 : List Value := [(.int .i64 0), (.int .i64 0), (.int .i64 0), (.int .i64 0), (.int .i64 0), (.int .i64 0), (.int .i64 0), (.int .i64 0), (.int .i64 0), (.int .i64 0), (.int .i64 0), (.int .i64 0), (.int .i64 0), (.int .i64 0), (.int .u64 0), (.int .i64 0), (.int .u64 0), (.int .u64 0), (.int .i64 0), (.int .u64 0), (.bool false), (.int .i64 0)]
instance ial88 : AlOk Q 88 z88 := ⟨fun G => by kernel_rfl⟩
instance ibd88_8_2_9 : BdOk Q 88 z88 [(8, 20, 1), (2, 13, 1), (9, 21, 1)] := bd_ok Q (by kernel_rfl) (by kernel_rfl) (by kernel_rfl)
instance ist88 : StOk Q 88 22 := ⟨fun b o s v G => by kernel_rfl⟩
instance ibd88_0_8_2 : BdOk Q 88 z88 [(0, 0, 13), (8, 20, 1), (2, 13, 1)] := bd_ok Q (by kernel_rfl) (by kernel_rfl) (by kernel_rfl)
instance ilda88 : LdAOk Q 88 22 := ⟨fun b o s G => by kernel_rfl⟩
instance iiaa186 : IaaOk Q 186 4096 1 := ⟨fun b o s k j => by kernel_rfl⟩
noncomputable abbrev z51 : List Value := [(.int .i64 0), (.int .i64 0), (.int .u64 0), (.int .u64 0), (.bool false)]
instance ial51 : AlOk Q 51 z51 := ⟨fun G => by kernel_rfl⟩
instance ibd51_ : BdOk Q 51 z51 [] := bd_ok Q (by kernel_rfl) (by kernel_rfl) (by kernel_rfl)
instance ist51 : StOk Q 51 5 := ⟨fun b o s v G => by kernel_rfl⟩
instance ifa169_3 : FaOk Q 169 3 7 := ⟨fun b o s => by kernel_rfl⟩
instance ibd51_0_1 : BdOk Q 51 z51 [(0, 0, 1), (1, 1, 1)] := bd_ok Q (by kernel_rfl) (by kernel_rfl) (by kernel_rfl)
instance ifa169_2 : FaOk Q 169 2 2 := ⟨fun b o s => by kernel_rfl⟩
instance ifa51_2 : FaOk Q 51 2 2 := ⟨fun b o s => by kernel_rfl⟩
instance ifa51_3 : FaOk Q 51 3 3 := ⟨fun b o s => by kernel_rfl⟩
instance ifa51_4 : FaOk Q 51 4 4 := ⟨fun b o s => by kernel_rfl⟩
instance ist171 : StOk Q 171 1 := ⟨fun b o s v G => by kernel_rfl⟩
instance ilda51 : LdAOk Q 51 5 := ⟨fun b o s G => by kernel_rfl⟩
instance ifa195_1 : FaOk Q 195 1 1 := ⟨fun b o s => by kernel_rfl⟩
instance ifa23_1 : FaOk Q 23 1 1 := ⟨fun b o s => by kernel_rfl⟩
noncomputable abbrev z304 : List Value := [(.int .i64 0), (.int .i64 0), (.int .i64 0), (.int .u64 0), (.int .i64 0), (.int .i64 0), (.bool false), (.bool false), (.int .i64 0)]
instance ibd304_0_2_4 : BdOk Q 304 z304 [(0, 0, 3), (2, 4, 1), (4, 6, 1)] := bd_ok Q (by kernel_rfl) (by kernel_rfl) (by kernel_rfl)
noncomputable abbrev z316 : List Value := [(.int .i64 0), (.int .i64 0), (.int .i64 0), (.int .u64 0), (.int .i64 0), (.int .i64 0), (.bool false), (.bool false), (.int .i64 0), .nilFunc]
instance ibd316_0_1 : BdOk Q 316 z316 [(0, 0, 9), (1, 9, 1)] := bd_ok Q (by kernel_rfl) (by kernel_rfl) (by kernel_rfl)
instance ifa316_0 : FaOk Q 316 0 0 := ⟨fun b o s => by kernel_rfl⟩
instance ifa67_0 : FaOk Q 67 0 0 := ⟨fun b o s => by kernel_rfl⟩
instance ifa65_1 : FaOk Q 65 1 6 := ⟨fun b o s => by kernel_rfl⟩
instance ilda63 : LdAOk Q 63 3 := ⟨fun b o s G => by kernel_rfl⟩
instance ifd23_0 : FdOk Q 23 0 0 := ⟨fun l => by kernel_rfl⟩
noncomputable abbrev z325 : List Value := [(.int .i64 0), (.int .i64 0), (.int .i64 0), (.int .i64 0)]
instance ial325 : AlOk Q 325 z325 := ⟨fun G => by kernel_rfl⟩
instance ist325 : StOk Q 325 4 := ⟨fun b o s v G => by kernel_rfl⟩
instance iiaa325 : IaaOk Q 325 2 2 := ⟨fun b o s k j => by kernel_rfl⟩
instance ilda324 : LdAOk Q 324 2 := ⟨fun b o s G => by kernel_rfl⟩
instance ibd250_0_1 : BdOk Q 250 z250 [(0, 0, 1), (1, 1, 1)] := bd_ok Q (by kernel_rfl) (by kernel_rfl) (by kernel_rfl)
instance ilda250 : LdAOk Q 250 2 := ⟨fun b o s G => by kernel_rfl⟩
instance ifa195_2 : FaOk Q 195 2 2 := ⟨fun b o s => by kernel_rfl⟩
instance ifa259_0 : FaOk Q 259 0 0 := ⟨fun b o s => by kernel_rfl⟩
instance iep76 : EpOk Q 76 := ⟨fun neg x y => by cases neg <;> kernel_rfl, fun neg x y a => by cases neg <;> kernel_rfl, fun neg x y a => by cases neg <;> kernel_rfl⟩
instance ifa259_7 : FaOk Q 259 7 22 := ⟨fun b o s => by kernel_rfl⟩
instance ifa259_3 : FaOk Q 259 3 15 := ⟨fun b o s => by kernel_rfl⟩
instance ifa256_1 : FaOk Q 256 1 1 := ⟨fun b o s => by kernel_rfl⟩
instance ifa256_0 : FaOk Q 256 0 0 := ⟨fun b o s => by kernel_rfl⟩
instance ifa256_3 : FaOk Q 256 3 3 := ⟨fun b o s => by kernel_rfl⟩
instance ifa256_2 : FaOk Q 256 2 2 := ⟨fun b o s => by kernel_rfl⟩
instance ifa259_6 : FaOk Q 259 6 21 := ⟨fun b o s => by kernel_rfl⟩
instance ifa259_4 : FaOk Q 259 4 19 := ⟨fun b o s => by kernel_rfl⟩
instance ifa259_1 : FaOk Q 259 1 13 := ⟨fun b o s => by kernel_rfl⟩
noncomputable abbrev z341 : List Value := [.nilFunc, (.bool false), (.int .i64 0)]
instance ibd341_1 : BdOk Q 341 z341 [(1, 1, 1)] := bd_ok Q (by kernel_rfl) (by kernel_rfl) (by kernel_rfl)
noncomputable abbrev z343 : List Value := [.nilFunc, (.bool false), (.int .i64 0), (.int .i64 0), (.int .i64 0), (.int .i64 0), (.int .i64 0), (.int .i64 0), (.int .i64 0), (.int .i64 0), (.int .i64 0), (.int .i64 0), (.int .i64 0), (.int .i64 0), (.pointer none)]
instance ibd343_0_1_2 : BdOk Q 343 z343 [(0, 0, 3), (1, 3, 10), (2, 13, 1)] := bd_ok Q (by kernel_rfl) (by kernel_rfl) (by kernel_rfl)
instance ifa343_0 : FaOk Q 343 0 0 := ⟨fun b o s => by kernel_rfl⟩
instance ifa341_2 : FaOk Q 341 2 2 := ⟨fun b o s => by kernel_rfl⟩
instance ifa341_0 : FaOk Q 341 0 0 := ⟨fun b o s => by kernel_rfl⟩
instance ist339 : StOk Q 339 1 := ⟨fun b o s v G => by kernel_rfl⟩
instance iep77 : EpOk Q 77 := ⟨fun neg x y => by cases neg <;> kernel_rfl, fun neg x y a => by cases neg <;> kernel_rfl, fun neg x y a => by cases neg <;> kernel_rfl⟩
instance iep192 : EpOk Q 192 := ⟨fun neg x y => by cases neg <;> kernel_rfl, fun neg x y a => by cases neg <;> kernel_rfl, fun neg x y a => by cases neg <;> kernel_rfl⟩
instance ibd250_0 : BdOk Q 250 z250 [(0, 0, 1)] := bd_ok Q (by kernel_rfl) (by kernel_rfl) (by kernel_rfl)
instance ifa304_3 : FaOk Q 304 3 5 := ⟨fun b o s => by kernel_rfl⟩
instance ifa316_1 : FaOk Q 316 1 9 := ⟨fun b o s => by kernel_rfl⟩
instance ist314 : StOk Q 314 1 := ⟨fun b o s v G => by kernel_rfl⟩
instance ifa304_5 : FaOk Q 304 5 7 := ⟨fun b o s => by kernel_rfl⟩
instance ifa304_6 : FaOk Q 304 6 8 := ⟨fun b o s => by kernel_rfl⟩
instance ild31 : LdOk Q 31 := ⟨fun b o s G => (show _ = loadOne b o G by kernel_rfl).trans (loadOne_eq b o G)⟩
instance ifa63_0 : FaOk Q 63 0 0 := ⟨fun b o s => by kernel_rfl⟩
instance ild246 : LdOk Q 246 := ⟨fun b o s G => (show _ = loadOne b o G by kernel_rfl).trans (loadOne_eq b o G)⟩
instance iln246 : LnOk Q 246 := ⟨fun a n c => by kernel_rfl⟩
instance iias246 : IasOk Q 246 1 := ⟨fun b o s n c k j => by kernel_rfl⟩
noncomputable abbrev z324 : List Value := [(.int .i64 0), (.int .i64 0)]
instance ibd324_0_1 : BdOk Q 324 z324 [(0, 0, 1), (1, 1, 1)] := bd_ok Q (by kernel_rfl) (by kernel_rfl) (by kernel_rfl)
instance ibd325_0_1 : BdOk Q 325 z325 [(0, 0, 2), (1, 2, 2)] := bd_ok Q (by kernel_rfl) (by kernel_rfl) (by kernel_rfl)
instance ilda325 : LdAOk Q 325 4 := ⟨fun b o s G => by kernel_rfl⟩
instance ifa324_0 : FaOk Q 324 0 0 := ⟨fun b o s => by kernel_rfl⟩
instance ifa324_1 : FaOk Q 324 1 1 := ⟨fun b o s => by kernel_rfl⟩
noncomputable abbrev z331 : List Value := [(.int .i64 0), (.int .i64 0), (.int .i64 0)]
instance ial331 : AlOk Q 331 z331 := ⟨fun G => by kernel_rfl⟩
instance ibd331_0_1_2 : BdOk Q 331 z331 [(0, 0, 1), (1, 1, 1), (2, 2, 1)] := bd_ok Q (by kernel_rfl) (by kernel_rfl) (by kernel_rfl)
instance ist331 : StOk Q 331 3 := ⟨fun b o s v G => by kernel_rfl⟩
instance ilda331 : LdAOk Q 331 3 := ⟨fun b o s G => by kernel_rfl⟩
instance ifa331_1 : FaOk Q 331 1 1 := ⟨fun b o s => by kernel_rfl⟩
instance ifa331_2 : FaOk Q 331 2 2 := ⟨fun b o s => by kernel_rfl⟩
instance ild329 : LdOk Q 329 := ⟨fun b o s G => (show _ = loadOne b o G by kernel_rfl).trans (loadOne_eq b o G)⟩
instance iifc329 : IfcOk Q 329 := ⟨fun v => by kernel_rfl⟩
instance ifa331_0 : FaOk Q 331 0 0 := ⟨fun b o s => by kernel_rfl⟩
noncomputable abbrev z335 : List Value := [(.int .i64 0), (.int .i64 0), (.int .i64 0)]
instance ial335 : AlOk Q 335 z335 := ⟨fun G => by kernel_rfl⟩
instance ibd335_0_1_2 : BdOk Q 335 z335 [(0, 0, 1), (1, 1, 1), (2, 2, 1)] := bd_ok Q (by kernel_rfl) (by kernel_rfl) (by kernel_rfl)
instance ist335 : StOk Q 335 3 := ⟨fun b o s v G => by kernel_rfl⟩
instance ilda335 : LdAOk Q 335 3 := ⟨fun b o s G => by kernel_rfl⟩
instance ifa335_1 : FaOk Q 335 1 1 := ⟨fun b o s => by kernel_rfl⟩
instance ifa335_2 : FaOk Q 335 2 2 := ⟨fun b o s => by kernel_rfl⟩
instance ild333 : LdOk Q 333 := ⟨fun b o s G => (show _ = loadOne b o G by kernel_rfl).trans (loadOne_eq b o G)⟩
instance iifc333 : IfcOk Q 333 := ⟨fun v => by kernel_rfl⟩
instance ifa335_0 : FaOk Q 335 0 0 := ⟨fun b o s => by kernel_rfl⟩
instance ild257 : LdOk Q 257 := ⟨fun b o s G => (show _ = loadOne b o G by kernel_rfl).trans (loadOne_eq b o G)⟩
instance ial256 : AlOk Q 256 z256 := ⟨fun G => by kernel_rfl⟩
instance ist256 : StOk Q 256 4 := ⟨fun b o s v G => by kernel_rfl⟩
instance ilda256 : LdAOk Q 256 4 := ⟨fun b o s G => by kernel_rfl⟩
instance iias257 : IasOk Q 257 4 := ⟨fun b o s n c k j => by kernel_rfl⟩
instance ifa343_1 : FaOk Q 343 1 3 := ⟨fun b o s => by kernel_rfl⟩
instance icv49_320 : CvOk Q 49 320 .u64 .i64 := ⟨fun n => by kernel_rfl⟩
instance ifa343_2 : FaOk Q 343 2 13 := ⟨fun b o s => by kernel_rfl⟩
instance ifa343_3 : FaOk Q 343 3 14 := ⟨fun b o s => by kernel_rfl⟩
instance ist232 : StOk Q 232 1 := ⟨fun b o s v G => by kernel_rfl⟩
instance ild339 : LdOk Q 339 := ⟨fun b o s G => (show _ = loadOne b o G by kernel_rfl).trans (loadOne_eq b o G)⟩
instance ief339 : EfOk Q 339 := ⟨fun neg x y => by cases neg <;> kernel_rfl, fun neg x y f a b => by cases neg <;> kernel_rfl⟩
noncomputable abbrev z160 : List Value := [.nilFunc]
instance ial160 : AlOk Q 160 z160 := ⟨fun G => by kernel_rfl⟩
instance ist160 : StOk Q 160 1 := ⟨fun b o s v G => by kernel_rfl⟩
noncomputable abbrev z391 : List Value := [(.int .i64 0), (.int .i64 0), (.int .i64 0)]
instance ibd391_0_1_2 : BdOk Q 391 z391 [(0, 0, 1), (1, 1, 1), (2, 2, 1)] := bd_ok Q (by kernel_rfl) (by kernel_rfl) (by kernel_rfl)
instance ifa250_1 : FaOk Q 250 1 1 := ⟨fun b o s => by kernel_rfl⟩
instance ibs396_2_0_1 : BsOk Q 396 2 (rep z391 2) 3 [(0, 0, 3), (1, 3, 3)] := bs_ok Q (z0 := z391) (by kernel_rfl) rfl (by decide) (by kernel_rfl)
instance isla325 : SlAOk Q 325 2 2 := ⟨fun a lo hi mx G => by kernel_rfl⟩
instance ifa304_0 : FaOk Q 304 0 0 := ⟨fun b o s => by kernel_rfl⟩
instance ifa304_1 : FaOk Q 304 1 3 := ⟨fun b o s => by kernel_rfl⟩
instance iep373 : EpOk Q 373 := ⟨fun neg x y => by cases neg <;> kernel_rfl, fun neg x y a => by cases neg <;> kernel_rfl, fun neg x y a => by cases neg <;> kernel_rfl⟩
instance ifa304_4 : FaOk Q 304 4 6 := ⟨fun b o s => by kernel_rfl⟩
instance ifa304_2 : FaOk Q 304 2 4 := ⟨fun b o s => by kernel_rfl⟩
instance ifa63_2 : FaOk Q 63 2 2 := ⟨fun b o s => by kernel_rfl⟩
instance ild232 : LdOk Q 232 := ⟨fun b o s G => (show _ = loadOne b o G by kernel_rfl).trans (loadOne_eq b o G)⟩
instance ild26 : LdOk Q 26 := ⟨fun b o s G => (show _ = loadOne b o G by kernel_rfl).trans (loadOne_eq b o G)⟩
instance ild160 : LdOk Q 160 := ⟨fun b o s G => (show _ = loadOne b o G by kernel_rfl).trans (loadOne_eq b o G)⟩
instance iln396 : LnOk Q 396 := ⟨fun a n c => by kernel_rfl⟩
instance iias396 : IasOk Q 396 3 := ⟨fun b o s n c k j => by kernel_rfl⟩
instance ilda391 : LdAOk Q 391 3 := ⟨fun b o s G => by kernel_rfl⟩
instance ial391 : AlOk Q 391 z391 := ⟨fun G => by kernel_rfl⟩
instance ist391 : StOk Q 391 3 := ⟨fun b o s v G => by kernel_rfl⟩
instance ifa391_0 : FaOk Q 391 0 0 := ⟨fun b o s => by kernel_rfl⟩
instance ifa391_1 : FaOk Q 391 1 1 := ⟨fun b o s => by kernel_rfl⟩
instance ifa391_2 : FaOk Q 391 2 2 := ⟨fun b o s => by kernel_rfl⟩
instance iln393 : LnOk Q 393 := ⟨fun a n c => by kernel_rfl⟩
instance iias393 : IasOk Q 393 2 := ⟨fun b o s n c k j => by kernel_rfl⟩
instance ial324 : AlOk Q 324 z324 := ⟨fun G => by kernel_rfl⟩
instance ist324 : StOk Q 324 2 := ⟨fun b o s v G => by kernel_rfl⟩
instance iep232 : EpOk Q 232 := ⟨fun neg x y => by cases neg <;> kernel_rfl, fun neg x y a => by cases neg <;> kernel_rfl, fun neg x y a => by cases neg <;> kernel_rfl⟩
instance ild314 : LdOk Q 314 := ⟨fun b o s G => (show _ = loadOne b o G by kernel_rfl).trans (loadOne_eq b o G)⟩
instance ifa63_1 : FaOk Q 63 1 1 := ⟨fun b o s => by kernel_rfl⟩
instance ibd256_1 : BdOk Q 256 z256 [(1, 1, 1)] := bd_ok Q (by kernel_rfl) (by kernel_rfl) (by kernel_rfl)
instance ilp4_0 : LpIs Q 4 0 (subAt [1, 1, 1, 1, 1, 1, 0, 1, 0, 0] (bodyOf Tryz.f4)) 132 := ⟨by kernel_rfl, by kernel_rfl⟩
noncomputable def b4_0 (q : Bool) (e : Ex) (lp : Env → GS → Option (Exit × Env × GS)) (τ : Env) (G : GS) : Option (Exit × Env × GS) :=
  bV q (τ 3) fun a3_ =>
  bV q (τ 4) fun a4_ =>
  bV q (τ 5) fun a5_ =>
  bP (bn Q q .lss 3 (.tmp 51) (.const (.int .i64 4)) a5_ (.int .i64 4)) fun x0 =>
  ifV x0 (
  bS (e.ev.cl 29 [a4_, a3_] G) fun x1 G2 =>
  bP (bn Q q .add 3 (.tmp 53) (.const (.int .i64 1)) a5_ (.int .i64 1)) fun x3 =>
  lp (tu τ [(3, a3_), (4, a4_), (5, x3), (51, a5_), (52, x0), (53, a5_), (54, x3), (55, a4_), (56, a3_), (57, x1)]) G2) (
  some ((.exit 0), clq q 132 (tu τ [(3, a3_), (4, a4_), (5, a5_), (51, a5_), (52, x0)]), G))
theorem mb4_0 {e : Ex} {E : Ev} (h : ExLe Q e E) {lp lp' : Env → GS → Option (Exit × Env × GS)} (hlp : LpLe lp lp') (τ : Env) (G : GS) : Ref (b4_0 true e lp τ G) (b4_0 false (Ex.of E) lp' τ G) := by
  unfold b4_0
  exact Ref.go
set_option maxHeartbeats 8000000 in
theorem l4_0 {orc : FuncId → Bool} {e : Ex} (h : ExLe Q e (E orc)) (lp : Env → GS → Option (Exit × Env × GS)) (hlp : ∀ τ G, Ref (lp τ G) (mapE ((E orc).lp (subAt [1, 1, 1, 1, 1, 1, 0, 1, 0, 0] (bodyOf Tryz.f4)) (lst 132 τ) G))) (T : List Value) (G : GS) (hT : T.length = 132) : Ref (b4_0 true e lp (nth undef T) G) (mapE ((E orc).lp (subAt [1, 1, 1, 1, 1, 1, 0, 1, 0, 0] (bodyOf Tryz.f4)) T G)) :=
  fun r hr => lp_sxM Q orc G hT (by kernel_rfl) (mb4_0 h ⟨hlp⟩ _ _ r hr)
/-- coxswain/coxswainlaw18.ClaimKnown -/
noncomputable def s4 (q : Bool) (e : Ex) (G : GS) : Option (Value × GS) :=
  bS (e.ev.cl 23 [] G) fun x0 G1 =>
  bP (ep Q q false 31 (.tmp 18) (.const (.pointer none)) x0 (.pointer none)) fun x2 =>
  bS (gd x2 false (some (x0, G1)) G1) fun x3 G4 =>
  bS (gd x2 false (bP (bd Q q 58 z58 [(0, 0, 1), (1, 1, 1)] [(.int .u64 4), (.int .i64 7)]) fun y => some (y, G4)) G4) fun x5 G6 =>
  bS (gd x2 false (bS (e.ev.cl 24 [x3, (.int .i64 20), x5, (.int .i64 0)] G6) fun y G => some (y, G)) G6) fun x7 G8 =>
  bS (gd x2 false (bP (un Q q .not x7) fun y => some (y, G8)) G8) fun x9 G10 =>
  bP (pickV x2 (.bool true) x9) fun x11 =>
  ifV x11 (
  some ((.bool false), G10)) (
  bP (bd Q q 58 z58 [(0, 0, 1), (1, 1, 1)] [(.int .u64 9), (.int .i64 5)]) fun x12 =>
  bS (e.ev.cl 24 [x0, (.int .i64 22), x12, (.int .i64 0)] G10) fun x13 G14 =>
  bS (gd x13 true (some (x0, G14)) G14) fun x15 G16 =>
  bS (gd x13 true (bS (e.ev.cl 25 [x15, (.int .i64 1), (.slice none 0 0)] G16) fun y G => some (y, G)) G16) fun x17 G18 =>
  bP (pickV x13 x17 (.bool false)) fun x19 =>
  bS (gd x19 true (some (x0, G18)) G18) fun x20 G21 =>
  bS (gd x19 true (bP (bd Q q 58 z58 [(0, 0, 1), (1, 1, 1)] [(.int .u64 12), (.int .i64 6)]) fun y => some (y, G21)) G21) fun x22 G23 =>
  bS (gd x19 true (bS (e.ev.cl 24 [x20, (.int .i64 16), x22, (.int .i64 0)] G23) fun y G => some (y, G)) G23) fun x24 G25 =>
  bP (pickV x19 x24 (.bool false)) fun x26 =>
  bS (gd x26 true (some (x0, G25)) G25) fun x27 G28 =>
  bS (gd x26 true (bP (bd Q q 58 z58 [] []) fun y => some (y, G28)) G28) fun x29 G30 =>
  bS (gd x26 true (bS (e.ev.cl 24 [x27, (.int .i64 1), x29, (.int .i64 15)] G30) fun y G => some (y, G)) G30) fun x31 G32 =>
  bP (pickV x26 x31 (.bool false)) fun x33 =>
  bS (gd x33 true (some (x0, G32)) G32) fun x34 G35 =>
  bS (gd x33 true (bP (bd Q q 58 z58 [] []) fun y => some (y, G35)) G35) fun x36 G37 =>
  bS (gd x33 true (bS (e.ev.cl 26 [x34, (.int .i64 1), x36, (.int .i64 15)] G37) fun y G => some (y, G)) G37) fun x38 G39 =>
  bP (pickV x33 x38 (.bool false)) fun x40 =>
  bS (e.ev.cl 23 [] G39) fun x41 G42 =>
  bS (e.ev.cl 28 [] G42) fun x43 G44 =>
  bS (e.ev.cl 27 [x43] G44) fun x45 G46 =>
  bL q e 4 0 (subAt [1, 1, 1, 1, 1, 1, 0, 1, 0, 0] (bodyOf Tryz.f4)) 132 (tu (nth undef []) [(0, (.bool false)), (1, x0), (2, x40), (3, x41), (4, x45), (5, (.int .i64 0)), (17, x0), (18, x0), (19, x2), (20, x2), (21, x3), (22, x5), (23, x7), (24, x9), (25, x11), (26, x0), (27, x12), (28, x13), (29, x13), (30, x15), (31, x17), (32, x19), (33, x19), (34, x20), (35, x22), (36, x24), (37, x26), (38, x26), (39, x27), (40, x29), (41, x31), (42, x33), (43, x33), (44, x34), (45, x36), (46, x38), (47, x40), (48, x41), (49, x43), (50, x45)]) G46 fun e47 t48 G49 =>
  bV q (t48 1) fun t48x1_ =>
  bV q (t48 2) fun t48x2_ =>
  bV q (t48 3) fun t48x3_ =>
  bV q (t48 4) fun t48x4_ =>
  ifE e47 (.exit 0) (
  bS (e.ev.cl 30 [t48x4_] G49) fun x50 G51 =>
  bS (e.ev.cl 29 [t48x4_, t48x3_] G51) fun x52 G53 =>
  bS (e.ev.cl 31 [t48x4_] G53) fun x54 G55 =>
  bP (pExtract x54 0) fun x56 =>
  bP (pExtract x54 1) fun x57 =>
  bS (al Q q 58 z58 G55) fun x58 G59 =>
  bP (st Q q 58 2 x58 x56 G59) fun G60 =>
  bP (un Q q .not x50) fun x61 =>
  bS (gd x61 true (some (t48x4_, G60)) G60) fun x62 G63 =>
  bS (gd x61 true (bS (e.ev.cl 30 [x62] G63) fun y G => some (y, G)) G63) fun x64 G65 =>
  bP (pickV x61 x64 (.bool false)) fun x66 =>
  bS (gd x66 true (some (x57, G65)) G65) fun x67 G68 =>
  bS (gd x66 true (bP (bn Q q .eql 28 (.tmp 75) (.const (.int .i64 14)) x67 (.int .i64 14)) fun y => some (y, G68)) G68) fun x69 G70 =>
  bP (pickV x66 x69 (.bool false)) fun x71 =>
  bS (gd x71 true (some (t48x3_, G70)) G70) fun x72 G73 =>
  bS (gd x71 true (bP (bd Q q 58 z58 [(0, 0, 1), (1, 1, 1)] [(.int .u64 9), (.int .i64 5)]) fun y => some (y, G73)) G73) fun x74 G75 =>
  bS (gd x71 true (bS (e.ev.cl 26 [x72, (.int .i64 7), x74, (.int .i64 0)] G75) fun y G => some (y, G)) G75) fun x76 G77 =>
  bP (pickV x71 x76 (.bool false)) fun x78 =>
  bS (gd x78 true (some (t48x3_, G77)) G77) fun x79 G80 =>
  bS (gd x78 true (bS (bs Q q 139 2 (rep z3 2) 1 [(0, 0, 1), (1, 1, 1)] [(.int .i64 0), (.int .i64 2)] G80) fun y G => some (y, G)) G80) fun x81 G82 =>
  bS (gd x78 true (bS (e.ev.cl 25 [x79, (.int .i64 0), x81] G82) fun y G => some (y, G)) G82) fun x83 G84 =>
  bP (pickV x78 x83 (.bool false)) fun x85 =>
  bS (e.ev.cl 28 [] G84) fun x86 G87 =>
  bS (al Q q 67 z67 G87) fun x88 G89 =>
  bP (st Q q 67 13 x88 x86 G89) fun G90 =>
  bP (fa Q q 67 2 2 x88) fun x91 =>
  bP (st Q q 3 1 x91 (.int .i64 5) G90) fun G92 =>
  bP (lda Q q 67 13 x88 G92) fun x93 =>
  bS (e.ev.cl 27 [x93] G92) fun x94 G95 =>
  bS (e.ev.cl 31 [x94] G95) fun x96 G97 =>
  bP (pExtract x96 0) fun x98 =>
  bP (pExtract x96 1) fun x99 =>
  bS (al Q q 58 z58 G97) fun x100 G101 =>
  bP (st Q q 58 2 x100 x98 G101) fun G102 =>
  bS (e.ev.cl 32 [(.pointer none)] G102) fun x103 G104 =>
  bP (pExtract x103 0) fun x105 =>
  bP (pExtract x103 1) fun x106 =>
  bS (al Q q 58 z58 G104) fun x107 G108 =>
  bP (st Q q 58 2 x107 x105 G108) fun G109 =>
  bS (e.ev.cl 33 [] G109) fun x110 G111 =>
  bS (gd x110 true (some (t48x2_, G111)) G111) fun x112 G113 =>
  bP (pickV x110 x112 (.bool false)) fun x114 =>
  bS (gd x114 true (some (x85, G113)) G113) fun x115 G116 =>
  bP (pickV x114 x115 (.bool false)) fun x117 =>
  bS (gd x117 true (some (x94, G116)) G116) fun x118 G119 =>
  bS (gd x117 true (some (t48x1_, G119)) G119) fun x120 G121 =>
  bS (gd x117 true (bS (e.ev.cl 29 [x118, x120] G121) fun y G => some (y, G)) G121) fun x122 G123 =>
  bP (pickV x117 x122 (.bool false)) fun x124 =>
  bS (gd x124 true (some (x99, G123)) G123) fun x125 G126 =>
  bS (gd x124 true (bP (bn Q q .eql 28 (.tmp 115) (.const (.int .i64 2)) x125 (.int .i64 2)) fun y => some (y, G126)) G126) fun x127 G128 =>
  bP (pickV x124 x127 (.bool false)) fun x129 =>
  bS (gd x129 true (some (x94, G128)) G128) fun x130 G131 =>
  bS (gd x129 true (bS (e.ev.cl 34 [x130] G131) fun y G => some (y, G)) G131) fun x132 G133 =>
  bS (gd x129 true (bP (bn Q q .eql 49 (.tmp 120) (.const (.int .u64 0)) x132 (.int .u64 0)) fun y => some (y, G133)) G133) fun x134 G135 =>
  bP (pickV x129 x134 (.bool false)) fun x136 =>
  bS (gd x136 true (some ((.pointer none), G135)) G135) fun x137 G138 =>
  bS (gd x136 true (some (t48x1_, G138)) G138) fun x139 G140 =>
  bS (gd x136 true (bS (e.ev.cl 35 [x137, x139] G140) fun y G => some (y, G)) G140) fun x141 G142 =>
  bP (pickV x136 x141 (.bool false)) fun x143 =>
  bS (gd x143 true (some (x106, G142)) G142) fun x144 G145 =>
  bS (gd x143 true (bP (bn Q q .eql 28 (.tmp 129) (.const (.int .i64 1)) x144 (.int .i64 1)) fun y => some (y, G145)) G145) fun x146 G147 =>
  bP (pickV x143 x146 (.bool false)) fun x148 =>
  some (x148, G147)) (none))
theorem m4 {e : Ex} {E : Ev} (h : ExLe Q e E) (G : GS) : Ref (s4 true e  G) (s4 false (Ex.of E)  G) := by
  unfold s4
  exact Ref.go
set_option maxHeartbeats 8000000 in
theorem f4 {orc : FuncId → Bool} {e : Ex} (h : ExLe Q e (E orc)) (ho : orc 4 = false) (G : GS) : Ref (s4 true e  G) ((E orc).cl 4 [] G) :=
  fun r hr => cl_sxE_some Q orc (vs := []) G Tryz.func4 (by kernel_rfl) (by kernel_rfl) ho (by kernel_rfl) (by kernel_rfl) (m4 h  G r hr)
instance ilp17_0 : LpIs Q 17 0 (subAt [1, 1, 1, 0, 1, 0, 0] (bodyOf Tryz.f17)) 42 := ⟨by kernel_rfl, by kernel_rfl⟩
noncomputable def b17_0 (q : Bool) (e : Ex) (lp : Env → GS → Option (Exit × Env × GS)) (τ : Env) (G : GS) : Option (Exit × Env × GS) :=
  bV q (τ 3) fun a3_ =>
  bV q (τ 29) fun a29_ =>
  bV q (τ 30) fun a30_ =>
  bV q (τ 31) fun a31_ =>
  bP (bn Q q .lss 3 (.tmp 31) (.tmp 30) a31_ a30_) fun x0 =>
  ifV x0 (
  bP (ias Q q 170 1 a29_ a31_) fun x1 =>
  bP (ld Q q 171 x1 G) fun x2 =>
  bP (ias Q q 26 1 a3_ a31_) fun x3 =>
  bP (st Q q 49 1 x3 x2 G) fun G4 =>
  bP (bn Q q .add 3 (.tmp 31) (.const (.int .i64 1)) a31_ (.int .i64 1)) fun x5 =>
  lp (tu τ [(3, a3_), (29, a29_), (30, a30_), (31, x5), (4, a31_), (5, x2), (32, x0), (33, a31_), (34, x1), (35, x2), (36, a3_), (37, a31_), (38, x2), (39, x3), (40, x5)]) G4) (
  some ((.exit 0), clq q 42 (tu τ [(3, a3_), (29, a29_), (30, a30_), (31, a31_), (32, x0)]), G))
theorem mb17_0 {e : Ex} {E : Ev} (h : ExLe Q e E) {lp lp' : Env → GS → Option (Exit × Env × GS)} (hlp : LpLe lp lp') (τ : Env) (G : GS) : Ref (b17_0 true e lp τ G) (b17_0 false (Ex.of E) lp' τ G) := by
  unfold b17_0
  exact Ref.go
theorem l17_0 {orc : FuncId → Bool} {e : Ex} (h : ExLe Q e (E orc)) (lp : Env → GS → Option (Exit × Env × GS)) (hlp : ∀ τ G, Ref (lp τ G) (mapE ((E orc).lp (subAt [1, 1, 1, 0, 1, 0, 0] (bodyOf Tryz.f17)) (lst 42 τ) G))) (T : List Value) (G : GS) (hT : T.length = 42) : Ref (b17_0 true e lp (nth undef T) G) (mapE ((E orc).lp (subAt [1, 1, 1, 0, 1, 0, 0] (bodyOf Tryz.f17)) T G)) :=
  fun r hr => lp_sxM Q orc G hT (by kernel_rfl) (mb17_0 h ⟨hlp⟩ _ _ r hr)
/-- (*coxswain/cells.Mem).Words -/
noncomputable def s17 (q : Bool) (e : Ex) (v0 : Value) (G : GS) : Option (Value × GS) :=
  bP (ep Q q false 31 (.tmp 6) (.const (.pointer none)) v0 (.pointer none)) fun x0 =>
  bS (gd x0 false (some (v0, G)) G) fun x1 G2 =>
  bS (gd x0 false (bP (pNil x1) fun y => some (y, G2)) G2) fun x3 G4 =>
  bS (gd x0 false (bP (fa Q q 169 0 0 x3) fun y => some (y, G4)) G4) fun x5 G6 =>
  bS (gd x0 false (bP (ld Q q 167 x5 G6) fun y => some (y, G6)) G6) fun x7 G8 =>
  bS (gd x0 false (bP (ep Q q false 167 (.tmp 12) (.const (.pointer none)) x7 (.pointer none)) fun y => some (y, G8)) G8) fun x9 G10 =>
  bP (pickV x0 (.bool true) x9) fun x11 =>
  ifV x11 (
  some ((.slice none 0 0), G10)) (
  bP (pNil v0) fun x12 =>
  bP (fa Q q 169 1 1 x12) fun x13 =>
  bP (ld Q q 3 x13 G10) fun x14 =>
  bS (mk Q q 26 1 8 z49 x14 x14 G10) fun x15 G16 =>
  bP (pNil v0) fun x17 =>
  bP (fa Q q 169 0 0 x17) fun x18 =>
  bP (ld Q q 167 x18 (G16.room 12)) fun x19 =>
  bP (pNil x19) fun x20 =>
  bP (pNil v0) fun x21 =>
  bP (fa Q q 169 1 1 x21) fun x22 =>
  bP (ld Q q 3 x22 (G16.room 12)) fun x23 =>
  bP (sla Q q 186 4096 1 x20 none (some x23) none (G16.room 12)) fun x24 =>
  bP (ln Q q 170 x24) fun x25 =>
  bL q e 17 0 (subAt [1, 1, 1, 0, 1, 0, 0] (bodyOf Tryz.f17)) 42 (tu (nth undef [v0]) [(2, (.slice none 0 0)), (3, x15), (6, v0), (7, x0), (8, x0), (9, x1), (10, x3), (11, x5), (12, x7), (13, x9), (14, x11), (15, v0), (16, x12), (17, x13), (18, x14), (19, x15), (20, v0), (21, x17), (22, x18), (23, x19), (24, x20), (25, v0), (26, x21), (27, x22), (28, x23), (29, x24), (30, x25), (31, (.int .i64 0))]) (G16.room 12) fun e26 t27 G28 =>
  bV q (t27 3) fun t27x3_ =>
  ifE e26 (.exit 0) (
  some (t27x3_, G28)) (none))
theorem m17 {e : Ex} {E : Ev} (h : ExLe Q e E) (v0 : Value) (G : GS) : Ref (s17 true e v0 G) (s17 false (Ex.of E) v0 G) := by
  unfold s17
  exact Ref.go
theorem f17 {orc : FuncId → Bool} {e : Ex} (h : ExLe Q e (E orc)) (v0 : Value) (G : GS) : Ref (s17 true e v0 G) ((E orc).cl 17 [v0] G) :=
  fun r hr => cl_sxE_some Q orc (vs := [v0]) G Tryz.func17 (by kernel_rfl) (by kernel_rfl) (by kernel_rfl) (by kernel_rfl) (by kernel_rfl) (m17 h v0 G r hr)
instance ilp23_0 : LpIs Q 23 0 (subAt [1, 1, 1, 1, 1, 0, 1, 0, 0] (bodyOf Tryz.f23)) 38 := ⟨by kernel_rfl, by kernel_rfl⟩
noncomputable def b23_0 (q : Bool) (e : Ex) (lp : Env → GS → Option (Exit × Env × GS)) (τ : Env) (G : GS) : Option (Exit × Env × GS) :=
  bV q (τ 1) fun a1_ =>
  bV q (τ 3) fun a3_ =>
  bV q (τ 4) fun a4_ =>
  bP (ln Q q 26 a3_) fun x0 =>
  bP (bn Q q .lss 3 (.tmp 19) (.tmp 21) a4_ x0) fun x1 =>
  ifV x1 (
  bP (bn Q q .add 3 (.const (.int .i64 16)) (.tmp 26) (.int .i64 16) a4_) fun x2 =>
  bP (ias Q q 26 1 a3_ a4_) fun x3 =>
  bP (ld Q q 49 x3 G) fun x4 =>
  bS (e.ev.cl 45 [a1_, x2, x4] G) fun x5 G6 =>
  bP (bn Q q .add 3 (.tmp 23) (.const (.int .i64 1)) a4_ (.int .i64 1)) fun x7 =>
  lp (tu τ [(1, a1_), (3, a3_), (4, x7), (19, a4_), (20, a3_), (21, x0), (22, x1), (23, a4_), (24, x7), (25, a1_), (26, a4_), (27, x2), (28, a3_), (29, a4_), (30, x3), (31, x4), (32, x5)]) G6) (
  some ((.exit 0), clq q 38 (tu τ [(1, a1_), (3, a3_), (4, a4_), (19, a4_), (20, a3_), (21, x0), (22, x1)]), G))
theorem mb23_0 {e : Ex} {E : Ev} (h : ExLe Q e E) {lp lp' : Env → GS → Option (Exit × Env × GS)} (hlp : LpLe lp lp') (τ : Env) (G : GS) : Ref (b23_0 true e lp τ G) (b23_0 false (Ex.of E) lp' τ G) := by
  unfold b23_0
  exact Ref.go
theorem l23_0 {orc : FuncId → Bool} {e : Ex} (h : ExLe Q e (E orc)) (lp : Env → GS → Option (Exit × Env × GS)) (hlp : ∀ τ G, Ref (lp τ G) (mapE ((E orc).lp (subAt [1, 1, 1, 1, 1, 0, 1, 0, 0] (bodyOf Tryz.f23)) (lst 38 τ) G))) (T : List Value) (G : GS) (hT : T.length = 38) : Ref (b23_0 true e lp (nth undef T) G) (mapE ((E orc).lp (subAt [1, 1, 1, 1, 1, 0, 1, 0, 0] (bodyOf Tryz.f23)) T G)) :=
  fun r hr => lp_sxM Q orc G hT (by kernel_rfl) (mb23_0 h ⟨hlp⟩ _ _ r hr)
/-- coxswain/coxswainlaw18.written -/
noncomputable def s23 (q : Bool) (e : Ex) (G : GS) : Option (Value × GS) :=
  bS (e.ev.cl 36 [(.int .i64 34)] G) fun x0 G1 =>
  bP (pExtract x0 0) fun x2 =>
  bP (pExtract x0 1) fun x3 =>
  bP (bn Q q .neq 28 (.tmp 9) (.const (.int .i64 0)) x3 (.int .i64 0)) fun x4 =>
  bS (gd x4 false (some (x2, G1)) G1) fun x5 G6 =>
  bS (gd x4 false (bP (ep Q q false 31 (.tmp 12) (.const (.pointer none)) x5 (.pointer none)) fun y => some (y, G6)) G6) fun x7 G8 =>
  bP (pickV x4 (.bool true) x7) fun x9 =>
  ifV x9 (
  some ((.pointer none), G8)) (
  bS (e.ev.cl 28 [] G8) fun x10 G11 =>
  bS (e.ev.cl 92 [x10, x2] G11) fun x12 G13 =>
  bS (bs Q q 26 18 (rep z49 18) 1 [(0, 0, 1), (1, 1, 1), (2, 2, 1), (3, 3, 1), (4, 4, 1), (5, 5, 1), (6, 6, 1), (7, 7, 1), (8, 8, 1), (9, 9, 1), (10, 10, 1), (11, 11, 1), (12, 12, 1), (13, 13, 1), (14, 14, 1), (15, 15, 1), (16, 16, 1), (17, 17, 1)] [(.int .u64 9), (.int .u64 5), (.int .u64 2), (.int .u64 1), (.int .u64 65539), (.int .u64 0), (.int .u64 4), (.int .u64 7), (.int .u64 1), (.int .u64 1), (.int .u64 65537), (.int .u64 0), (.int .u64 12), (.int .u64 6), (.int .u64 1), (.int .u64 1), (.int .u64 0), (.int .u64 0)] G13) fun x14 G15 =>
  bL q e 23 0 (subAt [1, 1, 1, 1, 1, 0, 1, 0, 0] (bodyOf Tryz.f23)) 38 (tu (nth undef []) [(0, (.pointer none)), (1, x2), (2, x3), (3, x14), (4, (.int .i64 0)), (5, x0), (6, x0), (7, x2), (8, x3), (9, x3), (10, x4), (11, x4), (12, x5), (13, x7), (14, x9), (15, x10), (16, x2), (17, x12), (18, x14)]) G15 fun e16 t17 G18 =>
  bV q (t17 1) fun t17x1_ =>
  ifE e16 (.exit 0) (
  bS (e.ev.cl 45 [t17x1_, (.int .i64 14), (.int .u64 65538)] G18) fun x19 G20 =>
  bS (e.ev.cl 45 [t17x1_, (.int .i64 15), (.int .u64 65537)] G20) fun x21 G22 =>
  some (t17x1_, G22)) (none))
theorem m23 {e : Ex} {E : Ev} (h : ExLe Q e E) (G : GS) : Ref (s23 true e  G) (s23 false (Ex.of E)  G) := by
  unfold s23
  exact Ref.go
theorem f23 {orc : FuncId → Bool} {e : Ex} (h : ExLe Q e (E orc)) (ho : orc 23 = false) (G : GS) : Ref (s23 true e  G) ((E orc).cl 23 [] G) :=
  fun r hr => cl_sxE_some Q orc (vs := []) G Tryz.func23 (by kernel_rfl) (by kernel_rfl) ho (by kernel_rfl) (by kernel_rfl) (m23 h  G r hr)
instance ilp24_0 : LpIs Q 24 0 (subAt [1, 1, 0, 1, 0, 0] (bodyOf Tryz.f24)) 61 := ⟨by kernel_rfl, by kernel_rfl⟩
noncomputable def b24_0 (q : Bool) (e : Ex) (lp : Env → GS → Option (Exit × Env × GS)) (τ : Env) (G : GS) : Option (Exit × Env × GS) :=
  bV q (τ 0) fun a0_ =>
  bV q (τ 1) fun a1_ =>
  bV q (τ 9) fun a9_ =>
  bV q (τ 10) fun a10_ =>
  bP (bn Q q .lss 3 (.tmp 18) (.tmp 19) a10_ a1_) fun x0 =>
  ifV x0 (
  bS (e.ev.cl 29 [a9_, a0_] G) fun x1 G2 =>
  ifV x1 (
  some (.ret, clq q 61 (tu τ [(0, a0_), (1, a1_), (9, a9_), (10, a10_), (8, (.bool false)), (18, a10_), (19, a1_), (20, x0), (23, a9_), (24, a0_), (25, x1)]), G2)) (
  bP (bn Q q .add 3 (.tmp 21) (.const (.int .i64 1)) a10_ (.int .i64 1)) fun x3 =>
  lp (tu τ [(0, a0_), (1, a1_), (9, a9_), (10, x3), (18, a10_), (19, a1_), (20, x0), (21, a10_), (22, x3), (23, a9_), (24, a0_), (25, x1)]) G2)) (
  some ((.exit 0), clq q 61 (tu τ [(0, a0_), (1, a1_), (9, a9_), (10, a10_), (18, a10_), (19, a1_), (20, x0)]), G))
theorem mb24_0 {e : Ex} {E : Ev} (h : ExLe Q e E) {lp lp' : Env → GS → Option (Exit × Env × GS)} (hlp : LpLe lp lp') (τ : Env) (G : GS) : Ref (b24_0 true e lp τ G) (b24_0 false (Ex.of E) lp' τ G) := by
  unfold b24_0
  exact Ref.go
theorem l24_0 {orc : FuncId → Bool} {e : Ex} (h : ExLe Q e (E orc)) (lp : Env → GS → Option (Exit × Env × GS)) (hlp : ∀ τ G, Ref (lp τ G) (mapE ((E orc).lp (subAt [1, 1, 0, 1, 0, 0] (bodyOf Tryz.f24)) (lst 61 τ) G))) (T : List Value) (G : GS) (hT : T.length = 61) : Ref (b24_0 true e lp (nth undef T) G) (mapE ((E orc).lp (subAt [1, 1, 0, 1, 0, 0] (bodyOf Tryz.f24)) T G)) :=
  fun r hr => lp_sxM Q orc G hT (by kernel_rfl) (mb24_0 h ⟨hlp⟩ _ _ r hr)
/-- coxswain/coxswainlaw18.claims -/
noncomputable def s24 (q : Bool) (e : Ex) (v0 v1 v2 v3 : Value) (G : GS) : Option (Value × GS) :=
  bS (bx q v2 G) fun x0 G1 =>
  bS (e.ev.cl 28 [] G1) fun x2 G3 =>
  bS (e.ev.cl 27 [x2] G3) fun x4 G5 =>
  bL q e 24 0 (subAt [1, 1, 0, 1, 0, 0] (bodyOf Tryz.f24)) 61 (tu (nth undef [v0, v1, v2, v3]) [(6, x0), (8, (.bool false)), (9, x4), (10, (.int .i64 1)), (16, x2), (17, x4)]) G5 fun e6 t7 G8 =>
  bV q (t7 0) fun t7x0_ =>
  bV q (t7 3) fun t7x3_ =>
  bV q (t7 6) fun t7x6_ =>
  bV q (t7 8) fun t7x8_ =>
  bV q (t7 9) fun t7x9_ =>
  ifE e6 (.exit 0) (
  bS (e.ev.cl 31 [t7x9_] G8) fun x9 G10 =>
  bP (pExtract x9 0) fun x11 =>
  bP (pExtract x9 1) fun x12 =>
  bS (al Q q 58 z58 G10) fun x13 G14 =>
  bP (st Q q 58 2 x13 x11 G14) fun G15 =>
  bS (e.ev.cl 29 [t7x9_, t7x0_] G15) fun x16 G17 =>
  bS (e.ev.cl 31 [t7x9_] G17) fun x18 G19 =>
  bP (pExtract x18 0) fun x20 =>
  bP (pExtract x18 1) fun x21 =>
  bS (al Q q 58 z58 G19) fun x22 G23 =>
  bP (st Q q 58 2 x22 x20 G23) fun G24 =>
  bP (bn Q q .eql 28 (.tmp 39) (.const (.int .i64 14)) x12 (.int .i64 14)) fun x25 =>
  bS (gd x25 true (some (x16, G24)) G24) fun x26 G27 =>
  bP (pickV x25 x26 (.bool false)) fun x28 =>
  bS (gd x28 true (bP (lda Q q 58 2 x22 G27) fun y => some (y, G27)) G27) fun x29 G30 =>
  bS (gd x28 true (bP (lda Q q 58 2 t7x6_ G30) fun y => some (y, G30)) G30) fun x31 G32 =>
  bS (gd x28 true (bP (bn Q q .eql 58 (.tmp 45) (.tmp 46) x29 x31) fun y => some (y, G32)) G32) fun x33 G34 =>
  bP (pickV x28 x33 (.bool false)) fun x35 =>
  bS (gd x35 true (some (x21, G34)) G34) fun x36 G37 =>
  bS (gd x35 true (some (t7x3_, G37)) G37) fun x38 G39 =>
  bS (gd x35 true (bP (bn Q q .eql 28 (.tmp 50) (.tmp 51) x36 x38) fun y => some (y, G39)) G39) fun x40 G41 =>
  bP (pickV x35 x40 (.bool false)) fun x42 =>
  bS (gd x42 true (some (t7x9_, G41)) G41) fun x43 G44 =>
  bS (gd x42 true (bS (e.ev.cl 30 [x43] G44) fun y G => some (y, G)) G44) fun x45 G46 =>
  bS (gd x42 true (some (t7x3_, G46)) G46) fun x47 G48 =>
  bS (gd x42 true (bP (bn Q q .eql 28 (.tmp 57) (.const (.int .i64 0)) x47 (.int .i64 0)) fun y => some (y, G48)) G48) fun x49 G50 =>
  bS (gd x42 true (bP (eb Q q false 4 (.tmp 56) (.tmp 58) x45 x49) fun y => some (y, G50)) G50) fun x51 G52 =>
  bP (pickV x42 x51 (.bool false)) fun x53 =>
  some (x53, G52)) (ifE e6 .ret (
  some (t7x8_, G8)) (none))
theorem m24 {e : Ex} {E : Ev} (h : ExLe Q e E) (v0 v1 v2 v3 : Value) (G : GS) : Ref (s24 true e v0 v1 v2 v3 G) (s24 false (Ex.of E) v0 v1 v2 v3 G) := by
  unfold s24
  exact Ref.go
theorem f24 {orc : FuncId → Bool} {e : Ex} (h : ExLe Q e (E orc)) (v0 v1 v2 v3 : Value) (G : GS) : Ref (s24 true e v0 v1 v2 v3 G) ((E orc).cl 24 [v0, v1, v2, v3] G) :=
  fun r hr => cl_sxE_some Q orc (vs := [v0, v1, v2, v3]) G Tryz.func24 (by kernel_rfl) (by kernel_rfl) (by kernel_rfl) (by kernel_rfl) (by kernel_rfl) (m24 h v0 v1 v2 v3 G r hr)
/-- coxswain/coxswainlaw18.level -/
noncomputable def s25 (q : Bool) (e : Ex) (v0 v1 v2 : Value) (G : GS) : Option (Value × GS) :=
  bS (e.ev.cl 28 [] G) fun x0 G1 =>
  bS (e.ev.cl 93 [x0, v1, v0] G1) fun x2 G3 =>
  bS (e.ev.cl 63 [x2, v2] G3) fun x4 G5 =>
  some (x4, G5)
theorem m25 {e : Ex} {E : Ev} (h : ExLe Q e E) (v0 v1 v2 : Value) (G : GS) : Ref (s25 true e v0 v1 v2 G) (s25 false (Ex.of E) v0 v1 v2 G) := by
  unfold s25
  exact Ref.go
theorem f25 {orc : FuncId → Bool} {e : Ex} (h : ExLe Q e (E orc)) (v0 v1 v2 : Value) (G : GS) : Ref (s25 true e v0 v1 v2 G) ((E orc).cl 25 [v0, v1, v2] G) :=
  fun r hr => cl_sxE_some Q orc (vs := [v0, v1, v2]) G Tryz.func25 (by kernel_rfl) (by kernel_rfl) (by kernel_rfl) (by kernel_rfl) (by kernel_rfl) (m25 h v0 v1 v2 G r hr)
instance ilp26_0 : LpIs Q 26 0 (subAt [1, 1, 0, 1, 0, 0] (bodyOf Tryz.f26)) 54 := ⟨by kernel_rfl, by kernel_rfl⟩
noncomputable def b26_0 (q : Bool) (e : Ex) (lp : Env → GS → Option (Exit × Env × GS)) (τ : Env) (G : GS) : Option (Exit × Env × GS) :=
  bV q (τ 0) fun a0_ =>
  bV q (τ 1) fun a1_ =>
  bV q (τ 9) fun a9_ =>
  bV q (τ 10) fun a10_ =>
  bP (bn Q q .lss 3 (.tmp 18) (.tmp 19) a10_ a1_) fun x0 =>
  ifV x0 (
  bS (e.ev.cl 35 [a9_, a0_] G) fun x1 G2 =>
  ifV x1 (
  some (.ret, clq q 54 (tu τ [(0, a0_), (1, a1_), (9, a9_), (10, a10_), (8, (.bool false)), (18, a10_), (19, a1_), (20, x0), (23, a9_), (24, a0_), (25, x1)]), G2)) (
  bP (bn Q q .add 3 (.tmp 21) (.const (.int .i64 1)) a10_ (.int .i64 1)) fun x3 =>
  lp (tu τ [(0, a0_), (1, a1_), (9, a9_), (10, x3), (18, a10_), (19, a1_), (20, x0), (21, a10_), (22, x3), (23, a9_), (24, a0_), (25, x1)]) G2)) (
  some ((.exit 0), clq q 54 (tu τ [(0, a0_), (1, a1_), (9, a9_), (10, a10_), (18, a10_), (19, a1_), (20, x0)]), G))
theorem mb26_0 {e : Ex} {E : Ev} (h : ExLe Q e E) {lp lp' : Env → GS → Option (Exit × Env × GS)} (hlp : LpLe lp lp') (τ : Env) (G : GS) : Ref (b26_0 true e lp τ G) (b26_0 false (Ex.of E) lp' τ G) := by
  unfold b26_0
  exact Ref.go
theorem l26_0 {orc : FuncId → Bool} {e : Ex} (h : ExLe Q e (E orc)) (lp : Env → GS → Option (Exit × Env × GS)) (hlp : ∀ τ G, Ref (lp τ G) (mapE ((E orc).lp (subAt [1, 1, 0, 1, 0, 0] (bodyOf Tryz.f26)) (lst 54 τ) G))) (T : List Value) (G : GS) (hT : T.length = 54) : Ref (b26_0 true e lp (nth undef T) G) (mapE ((E orc).lp (subAt [1, 1, 0, 1, 0, 0] (bodyOf Tryz.f26)) T G)) :=
  fun r hr => lp_sxM Q orc G hT (by kernel_rfl) (mb26_0 h ⟨hlp⟩ _ _ r hr)
/-- coxswain/coxswainlaw18.peeks -/
noncomputable def s26 (q : Bool) (e : Ex) (v0 v1 v2 v3 : Value) (G : GS) : Option (Value × GS) :=
  bS (bx q v2 G) fun x0 G1 =>
  bS (e.ev.cl 28 [] G1) fun x2 G3 =>
  bS (e.ev.cl 40 [x2] G3) fun x4 G5 =>
  bL q e 26 0 (subAt [1, 1, 0, 1, 0, 0] (bodyOf Tryz.f26)) 54 (tu (nth undef [v0, v1, v2, v3]) [(6, x0), (8, (.bool false)), (9, x4), (10, (.int .i64 1)), (16, x2), (17, x4)]) G5 fun e6 t7 G8 =>
  bV q (t7 0) fun t7x0_ =>
  bV q (t7 3) fun t7x3_ =>
  bV q (t7 6) fun t7x6_ =>
  bV q (t7 8) fun t7x8_ =>
  bV q (t7 9) fun t7x9_ =>
  ifE e6 (.exit 0) (
  bS (e.ev.cl 32 [t7x9_] G8) fun x9 G10 =>
  bP (pExtract x9 0) fun x11 =>
  bP (pExtract x9 1) fun x12 =>
  bS (al Q q 58 z58 G10) fun x13 G14 =>
  bP (st Q q 58 2 x13 x11 G14) fun G15 =>
  bS (e.ev.cl 35 [t7x9_, t7x0_] G15) fun x16 G17 =>
  bS (e.ev.cl 32 [t7x9_] G17) fun x18 G19 =>
  bP (pExtract x18 0) fun x20 =>
  bP (pExtract x18 1) fun x21 =>
  bS (al Q q 58 z58 G19) fun x22 G23 =>
  bP (st Q q 58 2 x22 x20 G23) fun G24 =>
  bP (bn Q q .eql 28 (.tmp 39) (.const (.int .i64 14)) x12 (.int .i64 14)) fun x25 =>
  bS (gd x25 true (some (x16, G24)) G24) fun x26 G27 =>
  bP (pickV x25 x26 (.bool false)) fun x28 =>
  bS (gd x28 true (bP (lda Q q 58 2 x22 G27) fun y => some (y, G27)) G27) fun x29 G30 =>
  bS (gd x28 true (bP (lda Q q 58 2 t7x6_ G30) fun y => some (y, G30)) G30) fun x31 G32 =>
  bS (gd x28 true (bP (bn Q q .eql 58 (.tmp 45) (.tmp 46) x29 x31) fun y => some (y, G32)) G32) fun x33 G34 =>
  bP (pickV x28 x33 (.bool false)) fun x35 =>
  bS (gd x35 true (some (x21, G34)) G34) fun x36 G37 =>
  bS (gd x35 true (some (t7x3_, G37)) G37) fun x38 G39 =>
  bS (gd x35 true (bP (bn Q q .eql 28 (.tmp 50) (.tmp 51) x36 x38) fun y => some (y, G39)) G39) fun x40 G41 =>
  bP (pickV x35 x40 (.bool false)) fun x42 =>
  some (x42, G41)) (ifE e6 .ret (
  some (t7x8_, G8)) (none))
theorem m26 {e : Ex} {E : Ev} (h : ExLe Q e E) (v0 v1 v2 v3 : Value) (G : GS) : Ref (s26 true e v0 v1 v2 v3 G) (s26 false (Ex.of E) v0 v1 v2 v3 G) := by
  unfold s26
  exact Ref.go
theorem f26 {orc : FuncId → Bool} {e : Ex} (h : ExLe Q e (E orc)) (v0 v1 v2 v3 : Value) (G : GS) : Ref (s26 true e v0 v1 v2 v3 G) ((E orc).cl 26 [v0, v1, v2, v3] G) :=
  fun r hr => cl_sxE_some Q orc (vs := [v0, v1, v2, v3]) G Tryz.func26 (by kernel_rfl) (by kernel_rfl) (by kernel_rfl) (by kernel_rfl) (by kernel_rfl) (m26 h v0 v1 v2 v3 G r hr)
/-- coxswain/claim.NewClaim -/
noncomputable def s27 (q : Bool) (e : Ex) (v0 : Value) (G : GS) : Option (Value × GS) :=
  bS (bx q v0 G) fun x0 G1 =>
  bP (lda Q q 67 13 x0 G1) fun x2 =>
  bS (e.ev.cl 94 [x2] G1) fun x3 G4 =>
  bP (bd Q q 84 z84 [(0, 0, 26)] [x3]) fun x5 =>
  bS (bx q x5 G4) fun x6 G7 =>
  some (x6, G7)
theorem m27 {e : Ex} {E : Ev} (h : ExLe Q e E) (v0 : Value) (G : GS) : Ref (s27 true e v0 G) (s27 false (Ex.of E) v0 G) := by
  unfold s27
  exact Ref.go
theorem f27 {orc : FuncId → Bool} {e : Ex} (h : ExLe Q e (E orc)) (v0 : Value) (G : GS) : Ref (s27 true e v0 G) ((E orc).cl 27 [v0] G) :=
  fun r hr => cl_sxE_some Q orc (vs := [v0]) G Tryz.func27 (by kernel_rfl) (by kernel_rfl) (by kernel_rfl) (by kernel_rfl) (by kernel_rfl) (m27 h v0 G r hr)
/-- coxswain/coxswainlaw18.chapter -/
noncomputable def s28 (q : Bool) (e : Ex) (G : GS) : Option (Value × GS) :=
  bS (al Q q 67 z67 G) fun x0 G1 =>
  bP (bd Q q 23 z23 [(0, 0, 1), (1, 1, 1), (2, 2, 1)] [(.int .i64 0), (.int .i64 1), (.int .i64 3)]) fun x2 =>
  bP (bd Q q 25 z25 [(0, 0, 3), (1, 3, 1), (2, 4, 1), (3, 5, 1)] [x2, (.int .i64 4), (.int .i64 7), (.int .i64 9)]) fun x3 =>
  bS (al Q q 25 z25 G1) fun x4 G5 =>
  bP (st Q q 25 6 x4 x3 G5) fun G6 =>
  bP (lda Q q 25 6 x4 G6) fun x7 =>
  bP (bd Q q 63 z63 [(0, 0, 1), (1, 1, 1), (2, 2, 1)] [(.int .i64 8), (.int .i64 9), (.int .i64 2)]) fun x8 =>
  bP (bd Q q 65 z65 [(0, 0, 6), (1, 6, 3), (2, 9, 1)] [x7, x8, (.int .i64 11)]) fun x9 =>
  bS (al Q q 65 z65 G6) fun x10 G11 =>
  bP (st Q q 65 10 x10 x9 G11) fun G12 =>
  bP (lda Q q 65 10 x10 G12) fun x13 =>
  bP (bd Q q 67 z67 [(0, 0, 1), (1, 1, 1), (2, 2, 1), (3, 3, 10)] [(.int .i64 16), (.int .i64 14), (.int .i64 2), x13]) fun x14 =>
  bP (st Q q 67 13 x0 x14 G12) fun G15 =>
  bP (lda Q q 67 13 x0 G15) fun x16 =>
  some (x16, G15)
theorem m28 {e : Ex} {E : Ev} (h : ExLe Q e E) (G : GS) : Ref (s28 true e  G) (s28 false (Ex.of E)  G) := by
  unfold s28
  exact Ref.go
theorem f28 {orc : FuncId → Bool} {e : Ex} (h : ExLe Q e (E orc)) (ho : orc 28 = false) (G : GS) : Ref (s28 true e  G) ((E orc).cl 28 [] G) :=
  fun r hr => cl_sxE_some Q orc (vs := []) G Tryz.func28 (by kernel_rfl) (by kernel_rfl) ho (by kernel_rfl) (by kernel_rfl) (m28 h  G r hr)
instance ilp29_0 : LpIs Q 29 0 (subAt [1, 0, 1, 1, 0, 0, 0] (bodyOf Tryz.f29)) 162 := ⟨by kernel_rfl, by kernel_rfl⟩
noncomputable def b29_0 (q : Bool) (e : Ex) (lp : Env → GS → Option (Exit × Env × GS)) (τ : Env) (G : GS) : Option (Exit × Env × GS) :=
  bV q (τ 0) fun a0_ =>
  bV q (τ 1) fun a1_ =>
  bP (pNil a0_) fun x0 =>
  bP (fa Q q 84 0 0 x0) fun x1 =>
  bP (fa Q q 82 2 17 x1) fun x2 =>
  bP (ld Q q 3 x2 G) fun x3 =>
  bP (bn Q q .eql 3 (.tmp 17) (.const (.int .i64 1)) x3 (.int .i64 1)) fun x4 =>
  ifV x4 (
  bP (pNil a0_) fun x5 =>
  bP (fa Q q 84 0 0 x5) fun x6 =>
  bS (e.ev.cl 96 [x6, a1_] G) fun x7 G8 =>
  some ((.exit 0), clq q 162 (tu τ [(0, a0_), (1, a1_), (13, a0_), (14, x0), (15, x1), (16, x2), (17, x3), (18, x4), (19, x4), (36, a0_), (37, x5), (38, x6), (39, a1_), (40, x7)]), G8)) (
  bP (bn Q q .eql 3 (.tmp 17) (.const (.int .i64 2)) x3 (.int .i64 2)) fun x9 =>
  ifV x9 (
  bP (pNil a0_) fun x10 =>
  bP (fa Q q 84 0 0 x10) fun x11 =>
  bS (e.ev.cl 96 [x11, a1_] G) fun x12 G13 =>
  some ((.exit 0), clq q 162 (tu τ [(0, a0_), (1, a1_), (13, a0_), (14, x0), (15, x1), (16, x2), (17, x3), (18, x4), (19, x4), (20, x9), (21, x9), (36, a0_), (37, x10), (38, x11), (39, a1_), (40, x12)]), G13)) (
  bP (bn Q q .eql 3 (.tmp 17) (.const (.int .i64 3)) x3 (.int .i64 3)) fun x14 =>
  ifV x14 (
  bP (pNil a0_) fun x15 =>
  bP (fa Q q 84 0 0 x15) fun x16 =>
  bS (e.ev.cl 96 [x16, a1_] G) fun x17 G18 =>
  some ((.exit 0), clq q 162 (tu τ [(0, a0_), (1, a1_), (13, a0_), (14, x0), (15, x1), (16, x2), (17, x3), (18, x4), (19, x4), (20, x9), (21, x9), (22, x14), (23, x14), (36, a0_), (37, x15), (38, x16), (39, a1_), (40, x17)]), G18)) (
  bP (bn Q q .eql 3 (.tmp 17) (.const (.int .i64 4)) x3 (.int .i64 4)) fun x19 =>
  ifV x19 (
  ifV x19 (
  bS (e.ev.cl 97 [a0_, a1_] G) fun x20 G21 =>
  some ((.exit 0), clq q 162 (tu τ [(0, a0_), (1, a1_), (13, a0_), (14, x0), (15, x1), (16, x2), (17, x3), (18, x4), (19, x4), (20, x9), (21, x9), (22, x14), (23, x14), (24, x19), (25, x19), (41, a0_), (42, a1_), (43, x20)]), G21)) (
  bP (bn Q q .eql 3 (.tmp 17) (.const (.int .i64 7)) x3 (.int .i64 7)) fun x22 =>
  ifV x22 (
  bP (pNil a0_) fun x23 =>
  bP (fa Q q 84 0 0 x23) fun x24 =>
  bS (e.ev.cl 98 [x24, a1_, (.int .i64 4)] G) fun x25 G26 =>
  bP (pNil a0_) fun x27 =>
  bP (fa Q q 84 0 0 x27) fun x28 =>
  bP (fa Q q 82 5 20 x28) fun x29 =>
  bP (st Q q 80 1 x29 x25 G26) fun G30 =>
  bP (pNil a0_) fun x31 =>
  bP (fa Q q 84 0 0 x31) fun x32 =>
  bP (fa Q q 82 2 17 x32) fun x33 =>
  bP (st Q q 3 1 x33 (.int .i64 8) G30) fun G34 =>
  bP (pNil a0_) fun x35 =>
  bP (fa Q q 84 0 0 x35) fun x36 =>
  bP (fa Q q 82 5 20 x36) fun x37 =>
  bP (ld Q q 80 x37 G34) fun x38 =>
  bS (e.ev.cl 99 [x38] G34) fun x39 G40 =>
  ifV x39 (
  bP (pNil a0_) fun x41 =>
  bP (fa Q q 84 0 0 x41) fun x42 =>
  bP (fa Q q 82 2 17 x42) fun x43 =>
  bP (st Q q 3 1 x43 (.int .i64 3) G40) fun G44 =>
  some ((.exit 0), clq q 162 (tu τ [(0, a0_), (1, a1_), (13, a0_), (14, x0), (15, x1), (16, x2), (17, x3), (18, x4), (19, x4), (20, x9), (21, x9), (22, x14), (23, x14), (24, x19), (25, x19), (28, x22), (29, x22), (44, a0_), (45, a0_), (46, x23), (47, x24), (48, a1_), (49, x25), (50, x27), (51, x28), (52, x29), (53, a0_), (54, x31), (55, x32), (56, x33), (57, a0_), (58, x35), (59, x36), (60, x37), (61, x38), (62, x39), (63, a0_), (64, x41), (65, x42), (66, x43)]), G44)) (
  some ((.exit 0), clq q 162 (tu τ [(0, a0_), (1, a1_), (13, a0_), (14, x0), (15, x1), (16, x2), (17, x3), (18, x4), (19, x4), (20, x9), (21, x9), (22, x14), (23, x14), (24, x19), (25, x19), (28, x22), (29, x22), (44, a0_), (45, a0_), (46, x23), (47, x24), (48, a1_), (49, x25), (50, x27), (51, x28), (52, x29), (53, a0_), (54, x31), (55, x32), (56, x33), (57, a0_), (58, x35), (59, x36), (60, x37), (61, x38), (62, x39)]), G40))) (
  bP (bn Q q .eql 3 (.tmp 17) (.const (.int .i64 8)) x3 (.int .i64 8)) fun x45 =>
  ifV x45 (
  bP (pNil a0_) fun x46 =>
  bP (fa Q q 84 0 0 x46) fun x47 =>
  bP (fa Q q 82 3 18 x47) fun x48 =>
  bP (ld Q q 49 x48 G) fun x49 =>
  bP (pNil a0_) fun x50 =>
  bP (fa Q q 84 0 0 x50) fun x51 =>
  bP (fa Q q 82 7 23 x51) fun x52 =>
  bP (st Q q 49 1 x52 x49 G) fun G53 =>
  bP (pNil a0_) fun x54 =>
  bP (fa Q q 84 0 0 x54) fun x55 =>
  bP (fa Q q 82 2 17 x55) fun x56 =>
  bP (st Q q 3 1 x56 (.int .i64 7) G53) fun G57 =>
  bP (pNil a0_) fun x58 =>
  bP (fa Q q 84 0 0 x58) fun x59 =>
  bP (fa Q q 82 0 0 x59) fun x60 =>
  bP (lda Q q 67 13 x60 (G57.room 24)) fun x61 =>
  bP (pNil a0_) fun x62 =>
  bP (fa Q q 84 0 0 x62) fun x63 =>
  bP (fa Q q 82 4 19 x63) fun x64 =>
  bP (ld Q q 3 x64 (G57.room 24)) fun x65 =>
  bS (e.ev.cl 101 [x61, x65, (.int .i64 0)] (G57.room 24)) fun x67 G66 =>
  bP (pNil a0_) fun x68 =>
  bP (fa Q q 84 0 0 x68) fun x69 =>
  bP (fa Q q 82 5 20 x69) fun x70 =>
  bP (ld Q q 80 x70 G66) fun x71 =>
  chk ((sameO (ld Q q 80 x70 (G57.room 24)) x71 && true)) <|
  bP (pNil a0_) fun x72 =>
  bP (fa Q q 84 0 0 x72) fun x73 =>
  bP (fa Q q 82 5 20 x73) fun x74 =>
  bP (ld Q q 80 x74 G66) fun x75 =>
  chk ((sameO (ld Q q 80 x74 (G57.room 24)) x75 && true)) <|
  bS (e.ev.cl 102 [x75, (.bool true)] G66) fun x77 G76 =>
  chk ((sameO (ld Q q 80 x70 G76) x71 && true)) <|
  bS (e.ev.cl 100 [a1_, x67, x71, x77] G76) fun x79 G78 =>
  ifV x79 (
  bP (pNil a0_) fun x80 =>
  bP (fa Q q 84 0 0 x80) fun x81 =>
  bP (fa Q q 82 1 13 x81) fun x82 =>
  bP (fa Q q 79 1 1 x82) fun x83 =>
  bP (st Q q 4 1 x83 (.bool true) G78) fun G84 =>
  bP (pNil a0_) fun x85 =>
  bP (fa Q q 84 0 0 x85) fun x86 =>
  bP (fa Q q 82 2 17 x86) fun x87 =>
  bP (st Q q 3 1 x87 (.int .i64 9) G84) fun G88 =>
  some ((.exit 0), clq q 162 (tu τ [(0, a0_), (1, a1_), (13, a0_), (14, x0), (15, x1), (16, x2), (17, x3), (18, x4), (19, x4), (20, x9), (21, x9), (22, x14), (23, x14), (24, x19), (25, x19), (28, x22), (29, x22), (30, x45), (31, x45), (67, a0_), (68, a0_), (69, a0_), (70, x46), (71, x47), (72, x48), (73, x49), (74, x50), (75, x51), (76, x52), (77, x54), (78, x55), (79, x56), (80, a1_), (81, a0_), (82, x58), (83, x59), (84, x60), (85, x61), (86, a0_), (87, x62), (88, x63), (89, x64), (90, x65), (91, x67), (92, a0_), (93, x68), (94, x69), (95, x70), (96, x71), (97, a0_), (98, x72), (99, x73), (100, x74), (101, x75), (102, x77), (103, x79), (104, a0_), (105, a0_), (106, x80), (107, x81), (108, x82), (109, x83), (110, x85), (111, x86), (112, x87)]), G88)) (
  some ((.exit 0), clq q 162 (tu τ [(0, a0_), (1, a1_), (13, a0_), (14, x0), (15, x1), (16, x2), (17, x3), (18, x4), (19, x4), (20, x9), (21, x9), (22, x14), (23, x14), (24, x19), (25, x19), (28, x22), (29, x22), (30, x45), (31, x45), (67, a0_), (68, a0_), (69, a0_), (70, x46), (71, x47), (72, x48), (73, x49), (74, x50), (75, x51), (76, x52), (77, x54), (78, x55), (79, x56), (80, a1_), (81, a0_), (82, x58), (83, x59), (84, x60), (85, x61), (86, a0_), (87, x62), (88, x63), (89, x64), (90, x65), (91, x67), (92, a0_), (93, x68), (94, x69), (95, x70), (96, x71), (97, a0_), (98, x72), (99, x73), (100, x74), (101, x75), (102, x77), (103, x79)]), G78))) (
  bP (bn Q q .eql 3 (.tmp 17) (.const (.int .i64 9)) x3 (.int .i64 9)) fun x89 =>
  ifV x89 (
  bP (pNil a0_) fun x90 =>
  bP (fa Q q 84 0 0 x90) fun x91 =>
  bS (e.ev.cl 98 [x91, a1_, (.int .i64 0)] G) fun x92 G93 =>
  bP (pNil a0_) fun x94 =>
  bP (fa Q q 84 0 0 x94) fun x95 =>
  bP (fa Q q 82 6 21 x95) fun x96 =>
  bP (fa Q q 58 0 0 x96) fun x97 =>
  bP (st Q q 49 1 x97 x92 G93) fun G98 =>
  bP (pNil a0_) fun x99 =>
  bP (fa Q q 84 0 0 x99) fun x100 =>
  bP (fa Q q 82 2 17 x100) fun x101 =>
  bP (st Q q 3 1 x101 (.int .i64 91) G98) fun G102 =>
  some ((.exit 0), clq q 162 (tu τ [(0, a0_), (1, a1_), (13, a0_), (14, x0), (15, x1), (16, x2), (17, x3), (18, x4), (19, x4), (20, x9), (21, x9), (22, x14), (23, x14), (24, x19), (25, x19), (28, x22), (29, x22), (30, x45), (31, x45), (32, x89), (33, x89), (113, a0_), (114, a0_), (115, a0_), (116, x90), (117, x91), (118, a1_), (119, x92), (120, x94), (121, x95), (122, x96), (123, x97), (124, x99), (125, x100), (126, x101)]), G102)) (
  bP (bn Q q .eql 3 (.tmp 17) (.const (.int .i64 91)) x3 (.int .i64 91)) fun x103 =>
  ifV x103 (
  bP (pNil a0_) fun x104 =>
  bP (fa Q q 84 0 0 x104) fun x105 =>
  bS (e.ev.cl 103 [x105, a1_] G) fun x106 G107 =>
  bP (pNil a0_) fun x108 =>
  bP (fa Q q 84 0 0 x108) fun x109 =>
  bP (fa Q q 82 0 0 x109) fun x110 =>
  bP (lda Q q 67 13 x110 (G107.room 23)) fun x111 =>
  bP (pNil a0_) fun x112 =>
  bP (fa Q q 84 0 0 x112) fun x113 =>
  bP (fa Q q 82 6 21 x113) fun x114 =>
  bP (fa Q q 58 0 0 x114) fun x115 =>
  bP (ld Q q 49 x115 (G107.room 23)) fun x116 =>
  bS (e.ev.cl 104 [x111, x116] (G107.room 23)) fun x118 G117 =>
  bP (pNil a0_) fun x119 =>
  bP (fa Q q 84 0 0 x119) fun x120 =>
  bP (fa Q q 82 1 13 x120) fun x121 =>
  bP (fa Q q 79 2 2 x121) fun x122 =>
  bP (st Q q 76 1 x122 x118 G117) fun G123 =>
  bP (pNil a0_) fun x124 =>
  bP (fa Q q 84 0 0 x124) fun x125 =>
  bP (fa Q q 82 2 17 x125) fun x126 =>
  bP (st Q q 3 1 x126 (.int .i64 10) G123) fun G127 =>
  some ((.exit 0), clq q 162 (tu τ [(0, a0_), (1, a1_), (13, a0_), (14, x0), (15, x1), (16, x2), (17, x3), (18, x4), (19, x4), (20, x9), (21, x9), (22, x14), (23, x14), (24, x19), (25, x19), (28, x22), (29, x22), (30, x45), (31, x45), (32, x89), (33, x89), (34, x103), (35, x103), (127, a0_), (128, x104), (129, x105), (130, a1_), (131, x106), (132, a0_), (133, a0_), (134, a0_), (135, x108), (136, x109), (137, x110), (138, x111), (139, a0_), (140, x112), (141, x113), (142, x114), (143, x115), (144, x116), (145, x118), (146, x119), (147, x120), (148, x121), (149, x122), (150, x124), (151, x125), (152, x126)]), G127)) (
  bS (e.ev.cl 105 [a0_, a1_] G) fun x128 G129 =>
  some ((.exit 0), clq q 162 (tu τ [(0, a0_), (1, a1_), (13, a0_), (14, x0), (15, x1), (16, x2), (17, x3), (18, x4), (19, x4), (20, x9), (21, x9), (22, x14), (23, x14), (24, x19), (25, x19), (28, x22), (29, x22), (30, x45), (31, x45), (32, x89), (33, x89), (34, x103), (35, x103), (153, a0_), (154, a1_), (155, x128)]), G129))))))) (
  bP (bn Q q .eql 3 (.tmp 17) (.const (.int .i64 5)) x3 (.int .i64 5)) fun x130 =>
  ifV x130 (
  ifV x130 (
  bS (e.ev.cl 97 [a0_, a1_] G) fun x131 G132 =>
  some ((.exit 0), clq q 162 (tu τ [(0, a0_), (1, a1_), (13, a0_), (14, x0), (15, x1), (16, x2), (17, x3), (18, x4), (19, x4), (20, x9), (21, x9), (22, x14), (23, x14), (24, x130), (25, x19), (26, x130), (41, a0_), (42, a1_), (43, x131)]), G132)) (
  bP (bn Q q .eql 3 (.tmp 17) (.const (.int .i64 7)) x3 (.int .i64 7)) fun x133 =>
  ifV x133 (
  bP (pNil a0_) fun x134 =>
  bP (fa Q q 84 0 0 x134) fun x135 =>
  bS (e.ev.cl 98 [x135, a1_, (.int .i64 4)] G) fun x136 G137 =>
  bP (pNil a0_) fun x138 =>
  bP (fa Q q 84 0 0 x138) fun x139 =>
  bP (fa Q q 82 5 20 x139) fun x140 =>
  bP (st Q q 80 1 x140 x136 G137) fun G141 =>
  bP (pNil a0_) fun x142 =>
  bP (fa Q q 84 0 0 x142) fun x143 =>
  bP (fa Q q 82 2 17 x143) fun x144 =>
  bP (st Q q 3 1 x144 (.int .i64 8) G141) fun G145 =>
  bP (pNil a0_) fun x146 =>
  bP (fa Q q 84 0 0 x146) fun x147 =>
  bP (fa Q q 82 5 20 x147) fun x148 =>
  bP (ld Q q 80 x148 G145) fun x149 =>
  bS (e.ev.cl 99 [x149] G145) fun x150 G151 =>
  ifV x150 (
  bP (pNil a0_) fun x152 =>
  bP (fa Q q 84 0 0 x152) fun x153 =>
  bP (fa Q q 82 2 17 x153) fun x154 =>
  bP (st Q q 3 1 x154 (.int .i64 3) G151) fun G155 =>
  some ((.exit 0), clq q 162 (tu τ [(0, a0_), (1, a1_), (13, a0_), (14, x0), (15, x1), (16, x2), (17, x3), (18, x4), (19, x4), (20, x9), (21, x9), (22, x14), (23, x14), (24, x130), (25, x19), (26, x130), (28, x133), (29, x133), (44, a0_), (45, a0_), (46, x134), (47, x135), (48, a1_), (49, x136), (50, x138), (51, x139), (52, x140), (53, a0_), (54, x142), (55, x143), (56, x144), (57, a0_), (58, x146), (59, x147), (60, x148), (61, x149), (62, x150), (63, a0_), (64, x152), (65, x153), (66, x154)]), G155)) (
  some ((.exit 0), clq q 162 (tu τ [(0, a0_), (1, a1_), (13, a0_), (14, x0), (15, x1), (16, x2), (17, x3), (18, x4), (19, x4), (20, x9), (21, x9), (22, x14), (23, x14), (24, x130), (25, x19), (26, x130), (28, x133), (29, x133), (44, a0_), (45, a0_), (46, x134), (47, x135), (48, a1_), (49, x136), (50, x138), (51, x139), (52, x140), (53, a0_), (54, x142), (55, x143), (56, x144), (57, a0_), (58, x146), (59, x147), (60, x148), (61, x149), (62, x150)]), G151))) (
  bP (bn Q q .eql 3 (.tmp 17) (.const (.int .i64 8)) x3 (.int .i64 8)) fun x156 =>
  ifV x156 (
  bP (pNil a0_) fun x157 =>
  bP (fa Q q 84 0 0 x157) fun x158 =>
  bP (fa Q q 82 3 18 x158) fun x159 =>
  bP (ld Q q 49 x159 G) fun x160 =>
  bP (pNil a0_) fun x161 =>
  bP (fa Q q 84 0 0 x161) fun x162 =>
  bP (fa Q q 82 7 23 x162) fun x163 =>
  bP (st Q q 49 1 x163 x160 G) fun G164 =>
  bP (pNil a0_) fun x165 =>
  bP (fa Q q 84 0 0 x165) fun x166 =>
  bP (fa Q q 82 2 17 x166) fun x167 =>
  bP (st Q q 3 1 x167 (.int .i64 7) G164) fun G168 =>
  bP (pNil a0_) fun x169 =>
  bP (fa Q q 84 0 0 x169) fun x170 =>
  bP (fa Q q 82 0 0 x170) fun x171 =>
  bP (lda Q q 67 13 x171 (G168.room 24)) fun x172 =>
  bP (pNil a0_) fun x173 =>
  bP (fa Q q 84 0 0 x173) fun x174 =>
  bP (fa Q q 82 4 19 x174) fun x175 =>
  bP (ld Q q 3 x175 (G168.room 24)) fun x176 =>
  bS (e.ev.cl 101 [x172, x176, (.int .i64 0)] (G168.room 24)) fun x178 G177 =>
  bP (pNil a0_) fun x179 =>
  bP (fa Q q 84 0 0 x179) fun x180 =>
  bP (fa Q q 82 5 20 x180) fun x181 =>
  bP (ld Q q 80 x181 G177) fun x182 =>
  chk ((sameO (ld Q q 80 x181 (G168.room 24)) x182 && true)) <|
  bP (pNil a0_) fun x183 =>
  bP (fa Q q 84 0 0 x183) fun x184 =>
  bP (fa Q q 82 5 20 x184) fun x185 =>
  bP (ld Q q 80 x185 G177) fun x186 =>
  chk ((sameO (ld Q q 80 x185 (G168.room 24)) x186 && true)) <|
  bS (e.ev.cl 102 [x186, (.bool true)] G177) fun x188 G187 =>
  chk ((sameO (ld Q q 80 x181 G187) x182 && true)) <|
  bS (e.ev.cl 100 [a1_, x178, x182, x188] G187) fun x190 G189 =>
  ifV x190 (
  bP (pNil a0_) fun x191 =>
  bP (fa Q q 84 0 0 x191) fun x192 =>
  bP (fa Q q 82 1 13 x192) fun x193 =>
  bP (fa Q q 79 1 1 x193) fun x194 =>
  bP (st Q q 4 1 x194 (.bool true) G189) fun G195 =>
  bP (pNil a0_) fun x196 =>
  bP (fa Q q 84 0 0 x196) fun x197 =>
  bP (fa Q q 82 2 17 x197) fun x198 =>
  bP (st Q q 3 1 x198 (.int .i64 9) G195) fun G199 =>
  some ((.exit 0), clq q 162 (tu τ [(0, a0_), (1, a1_), (13, a0_), (14, x0), (15, x1), (16, x2), (17, x3), (18, x4), (19, x4), (20, x9), (21, x9), (22, x14), (23, x14), (24, x130), (25, x19), (26, x130), (28, x133), (29, x133), (30, x156), (31, x156), (67, a0_), (68, a0_), (69, a0_), (70, x157), (71, x158), (72, x159), (73, x160), (74, x161), (75, x162), (76, x163), (77, x165), (78, x166), (79, x167), (80, a1_), (81, a0_), (82, x169), (83, x170), (84, x171), (85, x172), (86, a0_), (87, x173), (88, x174), (89, x175), (90, x176), (91, x178), (92, a0_), (93, x179), (94, x180), (95, x181), (96, x182), (97, a0_), (98, x183), (99, x184), (100, x185), (101, x186), (102, x188), (103, x190), (104, a0_), (105, a0_), (106, x191), (107, x192), (108, x193), (109, x194), (110, x196), (111, x197), (112, x198)]), G199)) (
  some ((.exit 0), clq q 162 (tu τ [(0, a0_), (1, a1_), (13, a0_), (14, x0), (15, x1), (16, x2), (17, x3), (18, x4), (19, x4), (20, x9), (21, x9), (22, x14), (23, x14), (24, x130), (25, x19), (26, x130), (28, x133), (29, x133), (30, x156), (31, x156), (67, a0_), (68, a0_), (69, a0_), (70, x157), (71, x158), (72, x159), (73, x160), (74, x161), (75, x162), (76, x163), (77, x165), (78, x166), (79, x167), (80, a1_), (81, a0_), (82, x169), (83, x170), (84, x171), (85, x172), (86, a0_), (87, x173), (88, x174), (89, x175), (90, x176), (91, x178), (92, a0_), (93, x179), (94, x180), (95, x181), (96, x182), (97, a0_), (98, x183), (99, x184), (100, x185), (101, x186), (102, x188), (103, x190)]), G189))) (
  bP (bn Q q .eql 3 (.tmp 17) (.const (.int .i64 9)) x3 (.int .i64 9)) fun x200 =>
  ifV x200 (
  bP (pNil a0_) fun x201 =>
  bP (fa Q q 84 0 0 x201) fun x202 =>
  bS (e.ev.cl 98 [x202, a1_, (.int .i64 0)] G) fun x203 G204 =>
  bP (pNil a0_) fun x205 =>
  bP (fa Q q 84 0 0 x205) fun x206 =>
  bP (fa Q q 82 6 21 x206) fun x207 =>
  bP (fa Q q 58 0 0 x207) fun x208 =>
  bP (st Q q 49 1 x208 x203 G204) fun G209 =>
  bP (pNil a0_) fun x210 =>
  bP (fa Q q 84 0 0 x210) fun x211 =>
  bP (fa Q q 82 2 17 x211) fun x212 =>
  bP (st Q q 3 1 x212 (.int .i64 91) G209) fun G213 =>
  some ((.exit 0), clq q 162 (tu τ [(0, a0_), (1, a1_), (13, a0_), (14, x0), (15, x1), (16, x2), (17, x3), (18, x4), (19, x4), (20, x9), (21, x9), (22, x14), (23, x14), (24, x130), (25, x19), (26, x130), (28, x133), (29, x133), (30, x156), (31, x156), (32, x200), (33, x200), (113, a0_), (114, a0_), (115, a0_), (116, x201), (117, x202), (118, a1_), (119, x203), (120, x205), (121, x206), (122, x207), (123, x208), (124, x210), (125, x211), (126, x212)]), G213)) (
  bP (bn Q q .eql 3 (.tmp 17) (.const (.int .i64 91)) x3 (.int .i64 91)) fun x214 =>
  ifV x214 (
  bP (pNil a0_) fun x215 =>
  bP (fa Q q 84 0 0 x215) fun x216 =>
  bS (e.ev.cl 103 [x216, a1_] G) fun x217 G218 =>
  bP (pNil a0_) fun x219 =>
  bP (fa Q q 84 0 0 x219) fun x220 =>
  bP (fa Q q 82 0 0 x220) fun x221 =>
  bP (lda Q q 67 13 x221 (G218.room 23)) fun x222 =>
  bP (pNil a0_) fun x223 =>
  bP (fa Q q 84 0 0 x223) fun x224 =>
  bP (fa Q q 82 6 21 x224) fun x225 =>
  bP (fa Q q 58 0 0 x225) fun x226 =>
  bP (ld Q q 49 x226 (G218.room 23)) fun x227 =>
  bS (e.ev.cl 104 [x222, x227] (G218.room 23)) fun x229 G228 =>
  bP (pNil a0_) fun x230 =>
  bP (fa Q q 84 0 0 x230) fun x231 =>
  bP (fa Q q 82 1 13 x231) fun x232 =>
  bP (fa Q q 79 2 2 x232) fun x233 =>
  bP (st Q q 76 1 x233 x229 G228) fun G234 =>
  bP (pNil a0_) fun x235 =>
  bP (fa Q q 84 0 0 x235) fun x236 =>
  bP (fa Q q 82 2 17 x236) fun x237 =>
  bP (st Q q 3 1 x237 (.int .i64 10) G234) fun G238 =>
  some ((.exit 0), clq q 162 (tu τ [(0, a0_), (1, a1_), (13, a0_), (14, x0), (15, x1), (16, x2), (17, x3), (18, x4), (19, x4), (20, x9), (21, x9), (22, x14), (23, x14), (24, x130), (25, x19), (26, x130), (28, x133), (29, x133), (30, x156), (31, x156), (32, x200), (33, x200), (34, x214), (35, x214), (127, a0_), (128, x215), (129, x216), (130, a1_), (131, x217), (132, a0_), (133, a0_), (134, a0_), (135, x219), (136, x220), (137, x221), (138, x222), (139, a0_), (140, x223), (141, x224), (142, x225), (143, x226), (144, x227), (145, x229), (146, x230), (147, x231), (148, x232), (149, x233), (150, x235), (151, x236), (152, x237)]), G238)) (
  bS (e.ev.cl 105 [a0_, a1_] G) fun x239 G240 =>
  some ((.exit 0), clq q 162 (tu τ [(0, a0_), (1, a1_), (13, a0_), (14, x0), (15, x1), (16, x2), (17, x3), (18, x4), (19, x4), (20, x9), (21, x9), (22, x14), (23, x14), (24, x130), (25, x19), (26, x130), (28, x133), (29, x133), (30, x156), (31, x156), (32, x200), (33, x200), (34, x214), (35, x214), (153, a0_), (154, a1_), (155, x239)]), G240))))))) (
  bP (bn Q q .eql 3 (.tmp 17) (.const (.int .i64 6)) x3 (.int .i64 6)) fun x241 =>
  ifV x241 (
  bS (e.ev.cl 97 [a0_, a1_] G) fun x242 G243 =>
  some ((.exit 0), clq q 162 (tu τ [(0, a0_), (1, a1_), (13, a0_), (14, x0), (15, x1), (16, x2), (17, x3), (18, x4), (19, x4), (20, x9), (21, x9), (22, x14), (23, x14), (24, x241), (25, x19), (26, x130), (27, x241), (41, a0_), (42, a1_), (43, x242)]), G243)) (
  bP (bn Q q .eql 3 (.tmp 17) (.const (.int .i64 7)) x3 (.int .i64 7)) fun x244 =>
  ifV x244 (
  bP (pNil a0_) fun x245 =>
  bP (fa Q q 84 0 0 x245) fun x246 =>
  bS (e.ev.cl 98 [x246, a1_, (.int .i64 4)] G) fun x247 G248 =>
  bP (pNil a0_) fun x249 =>
  bP (fa Q q 84 0 0 x249) fun x250 =>
  bP (fa Q q 82 5 20 x250) fun x251 =>
  bP (st Q q 80 1 x251 x247 G248) fun G252 =>
  bP (pNil a0_) fun x253 =>
  bP (fa Q q 84 0 0 x253) fun x254 =>
  bP (fa Q q 82 2 17 x254) fun x255 =>
  bP (st Q q 3 1 x255 (.int .i64 8) G252) fun G256 =>
  bP (pNil a0_) fun x257 =>
  bP (fa Q q 84 0 0 x257) fun x258 =>
  bP (fa Q q 82 5 20 x258) fun x259 =>
  bP (ld Q q 80 x259 G256) fun x260 =>
  bS (e.ev.cl 99 [x260] G256) fun x261 G262 =>
  ifV x261 (
  bP (pNil a0_) fun x263 =>
  bP (fa Q q 84 0 0 x263) fun x264 =>
  bP (fa Q q 82 2 17 x264) fun x265 =>
  bP (st Q q 3 1 x265 (.int .i64 3) G262) fun G266 =>
  some ((.exit 0), clq q 162 (tu τ [(0, a0_), (1, a1_), (13, a0_), (14, x0), (15, x1), (16, x2), (17, x3), (18, x4), (19, x4), (20, x9), (21, x9), (22, x14), (23, x14), (24, x241), (25, x19), (26, x130), (27, x241), (28, x244), (29, x244), (44, a0_), (45, a0_), (46, x245), (47, x246), (48, a1_), (49, x247), (50, x249), (51, x250), (52, x251), (53, a0_), (54, x253), (55, x254), (56, x255), (57, a0_), (58, x257), (59, x258), (60, x259), (61, x260), (62, x261), (63, a0_), (64, x263), (65, x264), (66, x265)]), G266)) (
  some ((.exit 0), clq q 162 (tu τ [(0, a0_), (1, a1_), (13, a0_), (14, x0), (15, x1), (16, x2), (17, x3), (18, x4), (19, x4), (20, x9), (21, x9), (22, x14), (23, x14), (24, x241), (25, x19), (26, x130), (27, x241), (28, x244), (29, x244), (44, a0_), (45, a0_), (46, x245), (47, x246), (48, a1_), (49, x247), (50, x249), (51, x250), (52, x251), (53, a0_), (54, x253), (55, x254), (56, x255), (57, a0_), (58, x257), (59, x258), (60, x259), (61, x260), (62, x261)]), G262))) (
  bP (bn Q q .eql 3 (.tmp 17) (.const (.int .i64 8)) x3 (.int .i64 8)) fun x267 =>
  ifV x267 (
  bP (pNil a0_) fun x268 =>
  bP (fa Q q 84 0 0 x268) fun x269 =>
  bP (fa Q q 82 3 18 x269) fun x270 =>
  bP (ld Q q 49 x270 G) fun x271 =>
  bP (pNil a0_) fun x272 =>
  bP (fa Q q 84 0 0 x272) fun x273 =>
  bP (fa Q q 82 7 23 x273) fun x274 =>
  bP (st Q q 49 1 x274 x271 G) fun G275 =>
  bP (pNil a0_) fun x276 =>
  bP (fa Q q 84 0 0 x276) fun x277 =>
  bP (fa Q q 82 2 17 x277) fun x278 =>
  bP (st Q q 3 1 x278 (.int .i64 7) G275) fun G279 =>
  bP (pNil a0_) fun x280 =>
  bP (fa Q q 84 0 0 x280) fun x281 =>
  bP (fa Q q 82 0 0 x281) fun x282 =>
  bP (lda Q q 67 13 x282 (G279.room 24)) fun x283 =>
  bP (pNil a0_) fun x284 =>
  bP (fa Q q 84 0 0 x284) fun x285 =>
  bP (fa Q q 82 4 19 x285) fun x286 =>
  bP (ld Q q 3 x286 (G279.room 24)) fun x287 =>
  bS (e.ev.cl 101 [x283, x287, (.int .i64 0)] (G279.room 24)) fun x289 G288 =>
  bP (pNil a0_) fun x290 =>
  bP (fa Q q 84 0 0 x290) fun x291 =>
  bP (fa Q q 82 5 20 x291) fun x292 =>
  bP (ld Q q 80 x292 G288) fun x293 =>
  chk ((sameO (ld Q q 80 x292 (G279.room 24)) x293 && true)) <|
  bP (pNil a0_) fun x294 =>
  bP (fa Q q 84 0 0 x294) fun x295 =>
  bP (fa Q q 82 5 20 x295) fun x296 =>
  bP (ld Q q 80 x296 G288) fun x297 =>
  chk ((sameO (ld Q q 80 x296 (G279.room 24)) x297 && true)) <|
  bS (e.ev.cl 102 [x297, (.bool true)] G288) fun x299 G298 =>
  chk ((sameO (ld Q q 80 x292 G298) x293 && true)) <|
  bS (e.ev.cl 100 [a1_, x289, x293, x299] G298) fun x301 G300 =>
  ifV x301 (
  bP (pNil a0_) fun x302 =>
  bP (fa Q q 84 0 0 x302) fun x303 =>
  bP (fa Q q 82 1 13 x303) fun x304 =>
  bP (fa Q q 79 1 1 x304) fun x305 =>
  bP (st Q q 4 1 x305 (.bool true) G300) fun G306 =>
  bP (pNil a0_) fun x307 =>
  bP (fa Q q 84 0 0 x307) fun x308 =>
  bP (fa Q q 82 2 17 x308) fun x309 =>
  bP (st Q q 3 1 x309 (.int .i64 9) G306) fun G310 =>
  some ((.exit 0), clq q 162 (tu τ [(0, a0_), (1, a1_), (13, a0_), (14, x0), (15, x1), (16, x2), (17, x3), (18, x4), (19, x4), (20, x9), (21, x9), (22, x14), (23, x14), (24, x241), (25, x19), (26, x130), (27, x241), (28, x244), (29, x244), (30, x267), (31, x267), (67, a0_), (68, a0_), (69, a0_), (70, x268), (71, x269), (72, x270), (73, x271), (74, x272), (75, x273), (76, x274), (77, x276), (78, x277), (79, x278), (80, a1_), (81, a0_), (82, x280), (83, x281), (84, x282), (85, x283), (86, a0_), (87, x284), (88, x285), (89, x286), (90, x287), (91, x289), (92, a0_), (93, x290), (94, x291), (95, x292), (96, x293), (97, a0_), (98, x294), (99, x295), (100, x296), (101, x297), (102, x299), (103, x301), (104, a0_), (105, a0_), (106, x302), (107, x303), (108, x304), (109, x305), (110, x307), (111, x308), (112, x309)]), G310)) (
  some ((.exit 0), clq q 162 (tu τ [(0, a0_), (1, a1_), (13, a0_), (14, x0), (15, x1), (16, x2), (17, x3), (18, x4), (19, x4), (20, x9), (21, x9), (22, x14), (23, x14), (24, x241), (25, x19), (26, x130), (27, x241), (28, x244), (29, x244), (30, x267), (31, x267), (67, a0_), (68, a0_), (69, a0_), (70, x268), (71, x269), (72, x270), (73, x271), (74, x272), (75, x273), (76, x274), (77, x276), (78, x277), (79, x278), (80, a1_), (81, a0_), (82, x280), (83, x281), (84, x282), (85, x283), (86, a0_), (87, x284), (88, x285), (89, x286), (90, x287), (91, x289), (92, a0_), (93, x290), (94, x291), (95, x292), (96, x293), (97, a0_), (98, x294), (99, x295), (100, x296), (101, x297), (102, x299), (103, x301)]), G300))) (
  bP (bn Q q .eql 3 (.tmp 17) (.const (.int .i64 9)) x3 (.int .i64 9)) fun x311 =>
  ifV x311 (
  bP (pNil a0_) fun x312 =>
  bP (fa Q q 84 0 0 x312) fun x313 =>
  bS (e.ev.cl 98 [x313, a1_, (.int .i64 0)] G) fun x314 G315 =>
  bP (pNil a0_) fun x316 =>
  bP (fa Q q 84 0 0 x316) fun x317 =>
  bP (fa Q q 82 6 21 x317) fun x318 =>
  bP (fa Q q 58 0 0 x318) fun x319 =>
  bP (st Q q 49 1 x319 x314 G315) fun G320 =>
  bP (pNil a0_) fun x321 =>
  bP (fa Q q 84 0 0 x321) fun x322 =>
  bP (fa Q q 82 2 17 x322) fun x323 =>
  bP (st Q q 3 1 x323 (.int .i64 91) G320) fun G324 =>
  some ((.exit 0), clq q 162 (tu τ [(0, a0_), (1, a1_), (13, a0_), (14, x0), (15, x1), (16, x2), (17, x3), (18, x4), (19, x4), (20, x9), (21, x9), (22, x14), (23, x14), (24, x241), (25, x19), (26, x130), (27, x241), (28, x244), (29, x244), (30, x267), (31, x267), (32, x311), (33, x311), (113, a0_), (114, a0_), (115, a0_), (116, x312), (117, x313), (118, a1_), (119, x314), (120, x316), (121, x317), (122, x318), (123, x319), (124, x321), (125, x322), (126, x323)]), G324)) (
  bP (bn Q q .eql 3 (.tmp 17) (.const (.int .i64 91)) x3 (.int .i64 91)) fun x325 =>
  ifV x325 (
  bP (pNil a0_) fun x326 =>
  bP (fa Q q 84 0 0 x326) fun x327 =>
  bS (e.ev.cl 103 [x327, a1_] G) fun x328 G329 =>
  bP (pNil a0_) fun x330 =>
  bP (fa Q q 84 0 0 x330) fun x331 =>
  bP (fa Q q 82 0 0 x331) fun x332 =>
  bP (lda Q q 67 13 x332 (G329.room 23)) fun x333 =>
  bP (pNil a0_) fun x334 =>
  bP (fa Q q 84 0 0 x334) fun x335 =>
  bP (fa Q q 82 6 21 x335) fun x336 =>
  bP (fa Q q 58 0 0 x336) fun x337 =>
  bP (ld Q q 49 x337 (G329.room 23)) fun x338 =>
  bS (e.ev.cl 104 [x333, x338] (G329.room 23)) fun x340 G339 =>
  bP (pNil a0_) fun x341 =>
  bP (fa Q q 84 0 0 x341) fun x342 =>
  bP (fa Q q 82 1 13 x342) fun x343 =>
  bP (fa Q q 79 2 2 x343) fun x344 =>
  bP (st Q q 76 1 x344 x340 G339) fun G345 =>
  bP (pNil a0_) fun x346 =>
  bP (fa Q q 84 0 0 x346) fun x347 =>
  bP (fa Q q 82 2 17 x347) fun x348 =>
  bP (st Q q 3 1 x348 (.int .i64 10) G345) fun G349 =>
  some ((.exit 0), clq q 162 (tu τ [(0, a0_), (1, a1_), (13, a0_), (14, x0), (15, x1), (16, x2), (17, x3), (18, x4), (19, x4), (20, x9), (21, x9), (22, x14), (23, x14), (24, x241), (25, x19), (26, x130), (27, x241), (28, x244), (29, x244), (30, x267), (31, x267), (32, x311), (33, x311), (34, x325), (35, x325), (127, a0_), (128, x326), (129, x327), (130, a1_), (131, x328), (132, a0_), (133, a0_), (134, a0_), (135, x330), (136, x331), (137, x332), (138, x333), (139, a0_), (140, x334), (141, x335), (142, x336), (143, x337), (144, x338), (145, x340), (146, x341), (147, x342), (148, x343), (149, x344), (150, x346), (151, x347), (152, x348)]), G349)) (
  bS (e.ev.cl 105 [a0_, a1_] G) fun x350 G351 =>
  some ((.exit 0), clq q 162 (tu τ [(0, a0_), (1, a1_), (13, a0_), (14, x0), (15, x1), (16, x2), (17, x3), (18, x4), (19, x4), (20, x9), (21, x9), (22, x14), (23, x14), (24, x241), (25, x19), (26, x130), (27, x241), (28, x244), (29, x244), (30, x267), (31, x267), (32, x311), (33, x311), (34, x325), (35, x325), (153, a0_), (154, a1_), (155, x350)]), G351)))))))))))
theorem mb29_0 {e : Ex} {E : Ev} (h : ExLe Q e E) {lp lp' : Env → GS → Option (Exit × Env × GS)} (hlp : LpLe lp lp') (τ : Env) (G : GS) : Ref (b29_0 true e lp τ G) (b29_0 false (Ex.of E) lp' τ G) := by
  unfold b29_0
  exact Ref.go
set_option maxHeartbeats 8000000 in
theorem l29_0 {orc : FuncId → Bool} {e : Ex} (h : ExLe Q e (E orc)) (lp : Env → GS → Option (Exit × Env × GS)) (hlp : ∀ τ G, Ref (lp τ G) (mapE ((E orc).lp (subAt [1, 0, 1, 1, 0, 0, 0] (bodyOf Tryz.f29)) (lst 162 τ) G))) (T : List Value) (G : GS) (hT : T.length = 162) : Ref (b29_0 true e lp (nth undef T) G) (mapE ((E orc).lp (subAt [1, 0, 1, 1, 0, 0, 0] (bodyOf Tryz.f29)) T G)) :=
  fun r hr => lp_sxM Q orc G hT (by kernel_rfl) (mb29_0 h ⟨hlp⟩ _ _ r hr)
/-- (*coxswain/claim.Claim).Step -/
noncomputable def s29 (q : Bool) (e : Ex) (v0 v1 : Value) (G : GS) : Option (Value × GS) :=
  bP (ep Q q false 60 (.tmp 5) (.const (.pointer none)) v0 (.pointer none)) fun x0 =>
  bS (gd x0 false (some (v0, G)) G) fun x1 G2 =>
  bS (gd x0 false (bP (pNil x1) fun y => some (y, G2)) G2) fun x3 G4 =>
  bS (gd x0 false (bP (fa Q q 84 0 0 x3) fun y => some (y, G4)) G4) fun x5 G6 =>
  bS (gd x0 false (bS (e.ev.cl 95 [x5] G6) fun y G => some (y, G)) G6) fun x7 G8 =>
  bP (pickV x0 (.bool true) x7) fun x9 =>
  ifV x9 (
  some ((.bool true), G8)) (
  bL q e 29 0 (subAt [1, 0, 1, 1, 0, 0, 0] (bodyOf Tryz.f29)) 162 (tu (nth undef [v0, v1]) [(4, (.bool false)), (5, v0), (6, x0), (7, x0), (8, x1), (9, x3), (10, x5), (11, x7), (12, x9)]) G8 fun e10 t11 G12 =>
  bV q (t11 0) fun t11x0_ =>
  ifE e10 (.exit 0) (
  bP (pNil t11x0_) fun x13 =>
  bP (fa Q q 84 0 0 x13) fun x14 =>
  bP (fa Q q 82 2 17 x14) fun x15 =>
  bP (ld Q q 3 x15 G12) fun x16 =>
  bP (bn Q q .eql 3 (.tmp 160) (.const (.int .i64 99)) x16 (.int .i64 99)) fun x17 =>
  some (x17, G12)) (none))
theorem m29 {e : Ex} {E : Ev} (h : ExLe Q e E) (v0 v1 : Value) (G : GS) : Ref (s29 true e v0 v1 G) (s29 false (Ex.of E) v0 v1 G) := by
  unfold s29
  exact Ref.go
set_option maxHeartbeats 8000000 in
theorem f29 {orc : FuncId → Bool} {e : Ex} (h : ExLe Q e (E orc)) (v0 v1 : Value) (G : GS) : Ref (s29 true e v0 v1 G) ((E orc).cl 29 [v0, v1] G) :=
  fun r hr => cl_sxE_some Q orc (vs := [v0, v1]) G Tryz.func29 (by kernel_rfl) (by kernel_rfl) (by kernel_rfl) (by kernel_rfl) (by kernel_rfl) (m29 h v0 v1 G r hr)
/-- (*coxswain/claim.Claim).Claimed -/
noncomputable def s30 (q : Bool) (e : Ex) (v0 : Value) (G : GS) : Option (Value × GS) :=
  bP (ep Q q true 60 (.tmp 3) (.const (.pointer none)) v0 (.pointer none)) fun x0 =>
  bS (gd x0 true (some (v0, G)) G) fun x1 G2 =>
  bS (gd x0 true (bP (pNil x1) fun y => some (y, G2)) G2) fun x3 G4 =>
  bS (gd x0 true (bP (fa Q q 84 0 0 x3) fun y => some (y, G4)) G4) fun x5 G6 =>
  bS (gd x0 true (bP (fa Q q 82 1 13 x5) fun y => some (y, G6)) G6) fun x7 G8 =>
  bS (gd x0 true (bP (fa Q q 79 1 1 x7) fun y => some (y, G8)) G8) fun x9 G10 =>
  bS (gd x0 true (bP (ld Q q 4 x9 G10) fun y => some (y, G10)) G10) fun x11 G12 =>
  bP (pickV x0 x11 (.bool false)) fun x13 =>
  some (x13, G12)
theorem m30 {e : Ex} {E : Ev} (h : ExLe Q e E) (v0 : Value) (G : GS) : Ref (s30 true e v0 G) (s30 false (Ex.of E) v0 G) := by
  unfold s30
  exact Ref.go
theorem f30 {orc : FuncId → Bool} {e : Ex} (h : ExLe Q e (E orc)) (v0 : Value) (G : GS) : Ref (s30 true e v0 G) ((E orc).cl 30 [v0] G) :=
  fun r hr => cl_sxE_some Q orc (vs := [v0]) G Tryz.func30 (by kernel_rfl) (by kernel_rfl) (by kernel_rfl) (by kernel_rfl) (by kernel_rfl) (m30 h v0 G r hr)
/-- (*coxswain/claim.Claim).Item -/
noncomputable def s31 (q : Bool) (e : Ex) (v0 : Value) (G : GS) : Option (Value × GS) :=
  bS (al Q q 58 z58 G) fun x0 G1 =>
  bP (ep Q q false 60 (.tmp 4) (.const (.pointer none)) v0 (.pointer none)) fun x2 =>
  ifV x2 (
  bP (bd Q q 58 z58 [] []) fun x3 =>
  bP (st Q q 58 2 x0 x3 G1) fun G4 =>
  bP (lda Q q 58 2 x0 G4) fun x5 =>
  some (.tuple #[x5, (.int .i64 1)], G4)) (
  bP (pNil v0) fun x6 =>
  bP (fa Q q 84 0 0 x6) fun x7 =>
  bS (e.ev.cl 106 [x7] G1) fun x8 G9 =>
  bP (pExtract x8 0) fun x10 =>
  bP (pExtract x8 1) fun x11 =>
  bP (st Q q 58 2 x0 x10 G9) fun G12 =>
  bP (lda Q q 58 2 x0 G12) fun x13 =>
  some (.tuple #[x13, x11], G12))
theorem m31 {e : Ex} {E : Ev} (h : ExLe Q e E) (v0 : Value) (G : GS) : Ref (s31 true e v0 G) (s31 false (Ex.of E) v0 G) := by
  unfold s31
  exact Ref.go
theorem f31 {orc : FuncId → Bool} {e : Ex} (h : ExLe Q e (E orc)) (v0 : Value) (G : GS) : Ref (s31 true e v0 G) ((E orc).cl 31 [v0] G) :=
  fun r hr => cl_sxE_some Q orc (vs := [v0]) G Tryz.func31 (by kernel_rfl) (by kernel_rfl) (by kernel_rfl) (by kernel_rfl) (by kernel_rfl) (m31 h v0 G r hr)
/-- (*coxswain/claim.Peek).Item -/
noncomputable def s32 (q : Bool) (e : Ex) (v0 : Value) (G : GS) : Option (Value × GS) :=
  bS (al Q q 58 z58 G) fun x0 G1 =>
  bP (ep Q q false 72 (.tmp 4) (.const (.pointer none)) v0 (.pointer none)) fun x2 =>
  ifV x2 (
  bP (bd Q q 58 z58 [] []) fun x3 =>
  bP (st Q q 58 2 x0 x3 G1) fun G4 =>
  bP (lda Q q 58 2 x0 G4) fun x5 =>
  some (.tuple #[x5, (.int .i64 1)], G4)) (
  bP (pNil v0) fun x6 =>
  bP (fa Q q 90 0 0 x6) fun x7 =>
  bS (e.ev.cl 107 [x7] G1) fun x8 G9 =>
  bP (pExtract x8 0) fun x10 =>
  bP (pExtract x8 1) fun x11 =>
  bP (st Q q 58 2 x0 x10 G9) fun G12 =>
  bP (lda Q q 58 2 x0 G12) fun x13 =>
  some (.tuple #[x13, x11], G12))
theorem m32 {e : Ex} {E : Ev} (h : ExLe Q e E) (v0 : Value) (G : GS) : Ref (s32 true e v0 G) (s32 false (Ex.of E) v0 G) := by
  unfold s32
  exact Ref.go
theorem f32 {orc : FuncId → Bool} {e : Ex} (h : ExLe Q e (E orc)) (v0 : Value) (G : GS) : Ref (s32 true e v0 G) ((E orc).cl 32 [v0] G) :=
  fun r hr => cl_sxE_some Q orc (vs := [v0]) G Tryz.func32 (by kernel_rfl) (by kernel_rfl) (by kernel_rfl) (by kernel_rfl) (by kernel_rfl) (m32 h v0 G r hr)
/-- coxswain/coxswainlaw18.awake -/
noncomputable def s33 (q : Bool) (e : Ex) (G : GS) : Option (Value × GS) :=
  bS (e.ev.cl 23 [] G) fun x0 G1 =>
  bP (ep Q q true 31 (.tmp 3) (.const (.pointer none)) x0 (.pointer none)) fun x2 =>
  bS (gd x2 true (some (x0, G1)) G1) fun x3 G4 =>
  bS (gd x2 true (bP (bd Q q 58 z58 [(0, 0, 1), (1, 1, 1)] [(.int .u64 4), (.int .i64 7)]) fun y => some (y, G4)) G4) fun x5 G6 =>
  bS (gd x2 true (bS (e.ev.cl 26 [x3, (.int .i64 4), x5, (.int .i64 0)] G6) fun y G => some (y, G)) G6) fun x7 G8 =>
  bP (pickV x2 x7 (.bool false)) fun x9 =>
  bS (gd x9 true (some (x0, G8)) G8) fun x10 G11 =>
  bS (gd x9 true (bP (bd Q q 58 z58 [(0, 0, 1), (1, 1, 1)] [(.int .u64 4), (.int .i64 7)]) fun y => some (y, G11)) G11) fun x12 G13 =>
  bS (gd x9 true (bS (e.ev.cl 24 [x10, (.int .i64 20), x12, (.int .i64 0)] G13) fun y G => some (y, G)) G13) fun x14 G15 =>
  bP (pickV x9 x14 (.bool false)) fun x16 =>
  bS (gd x16 true (some (x0, G15)) G15) fun x17 G18 =>
  bS (gd x16 true (bS (bs Q q 139 2 (rep z3 2) 1 [(0, 0, 1), (1, 1, 1)] [(.int .i64 0), (.int .i64 2)] G18) fun y G => some (y, G)) G18) fun x19 G20 =>
  bS (gd x16 true (bS (e.ev.cl 25 [x17, (.int .i64 0), x19] G20) fun y G => some (y, G)) G20) fun x21 G22 =>
  bP (pickV x16 x21 (.bool false)) fun x23 =>
  bS (gd x23 true (bS (e.ev.cl 28 [] G22) fun y G => some (y, G)) G22) fun x24 G25 =>
  bS (gd x23 true (some (x0, G25)) G25) fun x26 G27 =>
  bS (gd x23 true (bS (e.ev.cl 108 [x24, x26] G27) fun y G => some (y, G)) G27) fun x28 G29 =>
  bS (gd x23 true (bS (bs Q q 139 1 (rep z3 1) 1 [(0, 0, 1)] [(.int .i64 1)] G29) fun y G => some (y, G)) G29) fun x30 G31 =>
  bS (gd x23 true (bS (e.ev.cl 63 [x28, x30] G31) fun y G => some (y, G)) G31) fun x32 G33 =>
  bP (pickV x23 x32 (.bool false)) fun x34 =>
  some (x34, G33)
theorem m33 {e : Ex} {E : Ev} (h : ExLe Q e E) (G : GS) : Ref (s33 true e  G) (s33 false (Ex.of E)  G) := by
  unfold s33
  exact Ref.go
theorem f33 {orc : FuncId → Bool} {e : Ex} (h : ExLe Q e (E orc)) (ho : orc 33 = false) (G : GS) : Ref (s33 true e  G) ((E orc).cl 33 [] G) :=
  fun r hr => cl_sxE_some Q orc (vs := []) G Tryz.func33 (by kernel_rfl) (by kernel_rfl) ho (by kernel_rfl) (by kernel_rfl) (m33 h  G r hr)
/-- (*coxswain/claim.Claim).By -/
noncomputable def s34 (q : Bool) (e : Ex) (v0 : Value) (G : GS) : Option (Value × GS) :=
  bP (ep Q q false 60 (.tmp 3) (.const (.pointer none)) v0 (.pointer none)) fun x0 =>
  ifV x0 (
  some ((.int .u64 0), G)) (
  bP (pNil v0) fun x1 =>
  bP (fa Q q 84 0 0 x1) fun x2 =>
  bP (fa Q q 82 7 23 x2) fun x3 =>
  bP (ld Q q 49 x3 G) fun x4 =>
  some (x4, G))
theorem m34 {e : Ex} {E : Ev} (h : ExLe Q e E) (v0 : Value) (G : GS) : Ref (s34 true e v0 G) (s34 false (Ex.of E) v0 G) := by
  unfold s34
  exact Ref.go
theorem f34 {orc : FuncId → Bool} {e : Ex} (h : ExLe Q e (E orc)) (v0 : Value) (G : GS) : Ref (s34 true e v0 G) ((E orc).cl 34 [v0] G) :=
  fun r hr => cl_sxE_some Q orc (vs := [v0]) G Tryz.func34 (by kernel_rfl) (by kernel_rfl) (by kernel_rfl) (by kernel_rfl) (by kernel_rfl) (m34 h v0 G r hr)
/-- (*coxswain/claim.Peek).Step -/
noncomputable def s35 (q : Bool) (e : Ex) (v0 v1 : Value) (G : GS) : Option (Value × GS) :=
  bP (ep Q q false 72 (.tmp 5) (.const (.pointer none)) v0 (.pointer none)) fun x0 =>
  bS (gd x0 false (some (v0, G)) G) fun x1 G2 =>
  bS (gd x0 false (bP (pNil x1) fun y => some (y, G2)) G2) fun x3 G4 =>
  bS (gd x0 false (bP (fa Q q 90 0 0 x3) fun y => some (y, G4)) G4) fun x5 G6 =>
  bS (gd x0 false (bS (e.ev.cl 109 [x5] G6) fun y G => some (y, G)) G6) fun x7 G8 =>
  bP (pickV x0 (.bool true) x7) fun x9 =>
  ifV x9 (
  some ((.bool true), G8)) (
  bP (pNil v0) fun x10 =>
  bP (fa Q q 90 0 0 x10) fun x11 =>
  bP (fa Q q 88 2 13 x11) fun x12 =>
  bP (ld Q q 3 x12 G8) fun x13 =>
  bP (bn Q q .eql 3 (.tmp 17) (.const (.int .i64 4)) x13 (.int .i64 4)) fun x14 =>
  ifV x14 (
  bP (pNil v0) fun x15 =>
  bP (fa Q q 90 0 0 x15) fun x16 =>
  bS (e.ev.cl 111 [x16, v1, (.int .i64 0)] G8) fun x17 G18 =>
  bP (pNil v0) fun x19 =>
  bP (fa Q q 90 0 0 x19) fun x20 =>
  bP (fa Q q 88 6 17 x20) fun x21 =>
  bP (fa Q q 58 0 0 x21) fun x22 =>
  bP (st Q q 49 1 x22 x17 G18) fun G23 =>
  bP (pNil v0) fun x24 =>
  bP (fa Q q 90 0 0 x24) fun x25 =>
  bP (fa Q q 88 2 13 x25) fun x26 =>
  bP (st Q q 3 1 x26 (.int .i64 5) G23) fun G27 =>
  bP (pNil v0) fun x28 =>
  bP (fa Q q 90 0 0 x28) fun x29 =>
  bP (fa Q q 88 2 13 x29) fun x30 =>
  bP (ld Q q 3 x30 G27) fun x31 =>
  bP (bn Q q .eql 3 (.tmp 54) (.const (.int .i64 99)) x31 (.int .i64 99)) fun x32 =>
  some (x32, G27)) (
  bP (bn Q q .eql 3 (.tmp 17) (.const (.int .i64 5)) x13 (.int .i64 5)) fun x33 =>
  ifV x33 (
  bP (pNil v0) fun x34 =>
  bP (fa Q q 90 0 0 x34) fun x35 =>
  bS (e.ev.cl 112 [x35, v1] G8) fun x36 G37 =>
  bP (pNil v0) fun x38 =>
  bP (fa Q q 90 0 0 x38) fun x39 =>
  bP (fa Q q 88 2 13 x39) fun x40 =>
  bP (st Q q 3 1 x40 (.int .i64 99) G37) fun G41 =>
  bP (pNil v0) fun x42 =>
  bP (fa Q q 90 0 0 x42) fun x43 =>
  bP (fa Q q 88 2 13 x43) fun x44 =>
  bP (ld Q q 3 x44 G41) fun x45 =>
  bP (bn Q q .eql 3 (.tmp 54) (.const (.int .i64 99)) x45 (.int .i64 99)) fun x46 =>
  some (x46, G41)) (
  bP (pNil v0) fun x47 =>
  bP (fa Q q 90 0 0 x47) fun x48 =>
  bS (e.ev.cl 110 [x48, v1] G8) fun x49 G50 =>
  bP (pNil v0) fun x51 =>
  bP (fa Q q 90 0 0 x51) fun x52 =>
  bP (fa Q q 88 2 13 x52) fun x53 =>
  bP (ld Q q 3 x53 G50) fun x54 =>
  bP (bn Q q .eql 3 (.tmp 54) (.const (.int .i64 99)) x54 (.int .i64 99)) fun x55 =>
  some (x55, G50))))
theorem m35 {e : Ex} {E : Ev} (h : ExLe Q e E) (v0 v1 : Value) (G : GS) : Ref (s35 true e v0 v1 G) (s35 false (Ex.of E) v0 v1 G) := by
  unfold s35
  exact Ref.go
theorem f35 {orc : FuncId → Bool} {e : Ex} (h : ExLe Q e (E orc)) (v0 v1 : Value) (G : GS) : Ref (s35 true e v0 v1 G) ((E orc).cl 35 [v0, v1] G) :=
  fun r hr => cl_sxE_some Q orc (vs := [v0, v1]) G Tryz.func35 (by kernel_rfl) (by kernel_rfl) (by kernel_rfl) (by kernel_rfl) (by kernel_rfl) (m35 h v0 v1 G r hr)
/-- coxswain/cells.New -/
noncomputable def s36 (q : Bool) (e : Ex) (v0 : Value) (G : GS) : Option (Value × GS) :=
  bP (bn Q q .lss 3 (.tmp 4) (.const (.int .i64 1)) v0 (.int .i64 1)) fun x0 =>
  bS (gd x0 false (some (v0, G)) G) fun x1 G2 =>
  bS (gd x0 false (bP (bn Q q .gtr 3 (.tmp 7) (.const (.int .i64 4096)) x1 (.int .i64 4096)) fun y => some (y, G2)) G2) fun x3 G4 =>
  bP (pickV x0 (.bool true) x3) fun x5 =>
  ifV x5 (
  some (.tuple #[(.pointer none), (.int .i64 3)], G4)) (
  bS (al Q q 186 z186 G4) fun x6 G7 =>
  bP (bd Q q 169 z169 [(0, 0, 1), (1, 1, 1)] [x6, v0]) fun x8 =>
  bS (bx q x8 G7) fun x9 G10 =>
  some (.tuple #[x9, (.int .i64 0)], G10))
theorem m36 {e : Ex} {E : Ev} (h : ExLe Q e E) (v0 : Value) (G : GS) : Ref (s36 true e v0 G) (s36 false (Ex.of E) v0 G) := by
  unfold s36
  exact Ref.go
theorem f36 {orc : FuncId → Bool} {e : Ex} (h : ExLe Q e (E orc)) (v0 : Value) (G : GS) : Ref (s36 true e v0 G) ((E orc).cl 36 [v0] G) :=
  fun r hr => cl_sxE_some Q orc (vs := [v0]) G Tryz.func36 (by kernel_rfl) (by kernel_rfl) (by kernel_rfl) (by kernel_rfl) (by kernel_rfl) (m36 h v0 G r hr)
/-- coxswain/claim.NewPeek -/
noncomputable def s40 (q : Bool) (e : Ex) (v0 : Value) (G : GS) : Option (Value × GS) :=
  bS (bx q v0 G) fun x0 G1 =>
  bP (lda Q q 67 13 x0 G1) fun x2 =>
  bS (e.ev.cl 113 [x2] G1) fun x3 G4 =>
  bP (bd Q q 90 z90 [(0, 0, 22)] [x3]) fun x5 =>
  bS (bx q x5 G4) fun x6 G7 =>
  some (x6, G7)
theorem m40 {e : Ex} {E : Ev} (h : ExLe Q e E) (v0 : Value) (G : GS) : Ref (s40 true e v0 G) (s40 false (Ex.of E) v0 G) := by
  unfold s40
  exact Ref.go
theorem f40 {orc : FuncId → Bool} {e : Ex} (h : ExLe Q e (E orc)) (v0 : Value) (G : GS) : Ref (s40 true e v0 G) ((E orc).cl 40 [v0] G) :=
  fun r hr => cl_sxE_some Q orc (vs := [v0]) G Tryz.func40 (by kernel_rfl) (by kernel_rfl) (by kernel_rfl) (by kernel_rfl) (by kernel_rfl) (m40 h v0 G r hr)
/-- (*coxswain/cells.Mem).Store -/
noncomputable def s45 (q : Bool) (e : Ex) (v0 v1 v2 : Value) (G : GS) : Option (Value × GS) :=
  bS (e.ev.cl 118 [v0, v1] G) fun x0 G1 =>
  bP (bd Q q 195 z195 [(0, 0, 1), (1, 1, 1)] [x0, v2]) fun x2 =>
  bS (al Q q 195 z195 G1) fun x3 G4 =>
  bP (st Q q 195 3 x3 x2 G4) fun G5 =>
  bP (fa Q q 195 0 0 x3) fun x6 =>
  bP (ld Q q 192 x6 G5) fun x7 =>
  bP (lda Q q 195 3 x3 G5) fun x8 =>
  bS (e.ev.cl 119 [v0, (.int .i64 2), v1, x7, (.func (.func 120) #[x8] #[])] G5) fun x9 G10 =>
  some (.tuple #[], G10)
theorem m45 {e : Ex} {E : Ev} (h : ExLe Q e E) (v0 v1 v2 : Value) (G : GS) : Ref (s45 true e v0 v1 v2 G) (s45 false (Ex.of E) v0 v1 v2 G) := by
  unfold s45
  exact Ref.go
theorem f45 {orc : FuncId → Bool} {e : Ex} (h : ExLe Q e (E orc)) (v0 v1 v2 : Value) (G : GS) : Ref (s45 true e v0 v1 v2 G) ((E orc).cl 45 [v0, v1, v2] G) :=
  fun r hr => cl_sxE_some Q orc (vs := [v0, v1, v2]) G Tryz.func45 (by kernel_rfl) (by kernel_rfl) (by kernel_rfl) (by kernel_rfl) (by kernel_rfl) (m45 h v0 v1 v2 G r hr)
instance ilp63_0 : LpIs Q 63 0 (subAt [1, 1, 0, 1, 0, 0] (bodyOf Tryz.f63)) 31 := ⟨by kernel_rfl, by kernel_rfl⟩
noncomputable def b63_0 (q : Bool) (e : Ex) (lp : Env → GS → Option (Exit × Env × GS)) (τ : Env) (G : GS) : Option (Exit × Env × GS) :=
  bV q (τ 0) fun a0_ =>
  bV q (τ 1) fun a1_ =>
  bV q (τ 5) fun a5_ =>
  bV q (τ 6) fun a6_ =>
  bS (gd a5_ true (some (a6_, G)) G) fun x0 G1 =>
  bS (gd a5_ true (some (a0_, G1)) G1) fun x2 G3 =>
  bS (gd a5_ true (bP (ln Q q 139 x2) fun y => some (y, G3)) G3) fun x4 G5 =>
  bS (gd a5_ true (bP (bn Q q .lss 3 (.tmp 14) (.tmp 16) x0 x4) fun y => some (y, G5)) G5) fun x6 G7 =>
  bP (pickV a5_ x6 (.bool false)) fun x8 =>
  ifV x8 (
  bP (ias Q q 139 1 a0_ a6_) fun x9 =>
  bP (ld Q q 3 x9 (G7.room 10)) fun x10 =>
  bP (ias Q q 139 1 a1_ a6_) fun x11 =>
  bP (ld Q q 3 x11 (G7.room 10)) fun x12 =>
  bP (bn Q q .eql 3 (.tmp 24) (.tmp 28) x10 x12) fun x13 =>
  bP (bn Q q .add 3 (.tmp 19) (.const (.int .i64 1)) a6_ (.int .i64 1)) fun x14 =>
  lp (tu τ [(0, a0_), (1, a1_), (5, x13), (6, x14), (12, a5_), (13, a5_), (14, x0), (15, x2), (16, x4), (17, x6), (18, x8), (19, a6_), (20, x14), (21, a0_), (22, a6_), (23, x9), (24, x10), (25, a1_), (26, a6_), (27, x11), (28, x12), (29, x13)]) (G7.room 10)) (
  some ((.exit 0), clq q 31 (tu τ [(0, a0_), (1, a1_), (5, a5_), (6, a6_), (12, a5_), (13, a5_), (14, x0), (15, x2), (16, x4), (17, x6), (18, x8)]), G7))
theorem mb63_0 {e : Ex} {E : Ev} (h : ExLe Q e E) {lp lp' : Env → GS → Option (Exit × Env × GS)} (hlp : LpLe lp lp') (τ : Env) (G : GS) : Ref (b63_0 true e lp τ G) (b63_0 false (Ex.of E) lp' τ G) := by
  unfold b63_0
  exact Ref.go
theorem l63_0 {orc : FuncId → Bool} {e : Ex} (h : ExLe Q e (E orc)) (lp : Env → GS → Option (Exit × Env × GS)) (hlp : ∀ τ G, Ref (lp τ G) (mapE ((E orc).lp (subAt [1, 1, 0, 1, 0, 0] (bodyOf Tryz.f63)) (lst 31 τ) G))) (T : List Value) (G : GS) (hT : T.length = 31) : Ref (b63_0 true e lp (nth undef T) G) (mapE ((E orc).lp (subAt [1, 1, 0, 1, 0, 0] (bodyOf Tryz.f63)) T G)) :=
  fun r hr => lp_sxM Q orc G hT (by kernel_rfl) (mb63_0 h ⟨hlp⟩ _ _ r hr)
/-- coxswain/coxswainkit.SameInts -/
noncomputable def s63 (q : Bool) (e : Ex) (v0 v1 : Value) (G : GS) : Option (Value × GS) :=
  bP (ln Q q 139 v0) fun x0 =>
  bP (ln Q q 139 v1) fun x1 =>
  bP (bn Q q .eql 3 (.tmp 8) (.tmp 10) x0 x1) fun x2 =>
  bL q e 63 0 (subAt [1, 1, 0, 1, 0, 0] (bodyOf Tryz.f63)) 31 (tu (nth undef [v0, v1]) [(4, (.bool false)), (5, x2), (6, (.int .i64 0)), (7, v0), (8, x0), (9, v1), (10, x1), (11, x2)]) G fun e3 t4 G5 =>
  bV q (t4 5) fun t4x5_ =>
  ifE e3 (.exit 0) (
  some (t4x5_, G5)) (none)
theorem m63 {e : Ex} {E : Ev} (h : ExLe Q e E) (v0 v1 : Value) (G : GS) : Ref (s63 true e v0 v1 G) (s63 false (Ex.of E) v0 v1 G) := by
  unfold s63
  exact Ref.go
theorem f63 {orc : FuncId → Bool} {e : Ex} (h : ExLe Q e (E orc)) (v0 v1 : Value) (G : GS) : Ref (s63 true e v0 v1 G) ((E orc).cl 63 [v0, v1] G) :=
  fun r hr => cl_sxE_some Q orc (vs := [v0, v1]) G Tryz.func63 (by kernel_rfl) (by kernel_rfl) (by kernel_rfl) (by kernel_rfl) (by kernel_rfl) (m63 h v0 v1 G r hr)
instance ilp73_0 : LpIs Q 73 0 (subAt [1, 1, 1, 1, 1, 0, 0] (bodyOf Tryz.f73)) 29 := ⟨by kernel_rfl, by kernel_rfl⟩
noncomputable def b73_0 (q : Bool) (e : Ex) (lp : Env → GS → Option (Exit × Env × GS)) (τ : Env) (G : GS) : Option (Exit × Env × GS) :=
  bV q (τ 1) fun a1_ =>
  bV q (τ 2) fun a2_ =>
  bV q (τ 18) fun a18_ =>
  bV q (τ 19) fun a19_ =>
  bP (bn Q q .lss 3 (.tmp 19) (.tmp 18) a19_ a18_) fun x0 =>
  ifV x0 (
  bP (fa Q q 25 1 3 a2_) fun x1 =>
  bP (ld Q q 3 x1 G) fun x2 =>
  bP (bn Q q .add 3 (.tmp 24) (.tmp 25) x2 a19_) fun x3 =>
  bS (e.ev.cl 45 [a1_, x3, (.int .u64 1)] G) fun x4 G5 =>
  bP (bn Q q .add 3 (.tmp 19) (.const (.int .i64 1)) a19_ (.int .i64 1)) fun x6 =>
  lp (tu τ [(1, a1_), (2, a2_), (18, a18_), (19, x6), (4, a19_), (20, x0), (21, a19_), (22, a1_), (23, x1), (24, x2), (25, a19_), (26, x3), (27, x4), (28, x6)]) G5) (
  some ((.exit 0), clq q 29 (tu τ [(1, a1_), (2, a2_), (18, a18_), (19, a19_), (20, x0)]), G))
theorem mb73_0 {e : Ex} {E : Ev} (h : ExLe Q e E) {lp lp' : Env → GS → Option (Exit × Env × GS)} (hlp : LpLe lp lp') (τ : Env) (G : GS) : Ref (b73_0 true e lp τ G) (b73_0 false (Ex.of E) lp' τ G) := by
  unfold b73_0
  exact Ref.go
theorem l73_0 {orc : FuncId → Bool} {e : Ex} (h : ExLe Q e (E orc)) (lp : Env → GS → Option (Exit × Env × GS)) (hlp : ∀ τ G, Ref (lp τ G) (mapE ((E orc).lp (subAt [1, 1, 1, 1, 1, 0, 0] (bodyOf Tryz.f73)) (lst 29 τ) G))) (T : List Value) (G : GS) (hT : T.length = 29) : Ref (b73_0 true e lp (nth undef T) G) (mapE ((E orc).lp (subAt [1, 1, 1, 1, 1, 0, 0] (bodyOf Tryz.f73)) T G)) :=
  fun r hr => lp_sxM Q orc G hT (by kernel_rfl) (mb73_0 h ⟨hlp⟩ _ _ r hr)
/-- coxswain/arena.Fill -/
noncomputable def s73 (q : Bool) (e : Ex) (v0 v1 : Value) (G : GS) : Option (Value × GS) :=
  bS (bx q v0 G) fun x0 G1 =>
  bP (lda Q q 25 6 x0 G1) fun x2 =>
  bS (e.ev.cl 154 [x2] G1) fun x3 G4 =>
  bP (un Q q .not x3) fun x5 =>
  ifV x5 (
  some (.tuple #[], G4)) (
  bP (fa Q q 25 0 0 x0) fun x6 =>
  bP (lda Q q 23 3 x6 G4) fun x7 =>
  bS (e.ev.cl 155 [x7, v1] G4) fun x8 G9 =>
  bP (fa Q q 25 2 4 x0) fun x10 =>
  bP (ld Q q 3 x10 G9) fun x11 =>
  bS (e.ev.cl 45 [v1, x11, (.int .u64 0)] G9) fun x12 G13 =>
  bP (fa Q q 25 0 0 x0) fun x14 =>
  bP (fa Q q 23 2 2 x14) fun x15 =>
  bP (ld Q q 3 x15 G13) fun x16 =>
  bL q e 73 0 (subAt [1, 1, 1, 1, 1, 0, 0] (bodyOf Tryz.f73)) 29 (tu (nth undef [v0, v1]) [(2, x0), (5, x2), (6, x3), (7, x5), (8, x6), (9, x7), (10, v1), (11, x8), (12, v1), (13, x10), (14, x11), (15, x12), (16, x14), (17, x15), (18, x16), (19, (.int .i64 0))]) G13 fun e17 t18 G19 =>
  ifE e17 (.exit 0) (
  some (.tuple #[], G19)) (none))
theorem m73 {e : Ex} {E : Ev} (h : ExLe Q e E) (v0 v1 : Value) (G : GS) : Ref (s73 true e v0 v1 G) (s73 false (Ex.of E) v0 v1 G) := by
  unfold s73
  exact Ref.go
theorem f73 {orc : FuncId → Bool} {e : Ex} (h : ExLe Q e (E orc)) (v0 v1 : Value) (G : GS) : Ref (s73 true e v0 v1 G) ((E orc).cl 73 [v0, v1] G) :=
  fun r hr => cl_sxE_some Q orc (vs := [v0, v1]) G Tryz.func73 (by kernel_rfl) (by kernel_rfl) (by kernel_rfl) (by kernel_rfl) (by kernel_rfl) (m73 h v0 v1 G r hr)
/-- (*coxswain/cells.Mem).Load -/
noncomputable def s79 (q : Bool) (e : Ex) (v0 v1 : Value) (G : GS) : Option (Value × GS) :=
  bS (e.ev.cl 118 [v0, v1] G) fun x0 G1 =>
  bP (bd Q q 195 z195 [(0, 0, 1)] [x0]) fun x2 =>
  bS (al Q q 195 z195 G1) fun x3 G4 =>
  bP (st Q q 195 3 x3 x2 G4) fun G5 =>
  bP (fa Q q 195 0 0 x3) fun x6 =>
  bP (ld Q q 192 x6 G5) fun x7 =>
  bP (lda Q q 195 3 x3 G5) fun x8 =>
  bS (e.ev.cl 119 [v0, (.int .i64 1), v1, x7, (.func (.func 158) #[x8] #[])] G5) fun x9 G10 =>
  bP (fd Q q 51 3 3 x9) fun x11 =>
  some (x11, G10)
theorem m79 {e : Ex} {E : Ev} (h : ExLe Q e E) (v0 v1 : Value) (G : GS) : Ref (s79 true e v0 v1 G) (s79 false (Ex.of E) v0 v1 G) := by
  unfold s79
  exact Ref.go
theorem f79 {orc : FuncId → Bool} {e : Ex} (h : ExLe Q e (E orc)) (v0 v1 : Value) (G : GS) : Ref (s79 true e v0 v1 G) ((E orc).cl 79 [v0, v1] G) :=
  fun r hr => cl_sxE_some Q orc (vs := [v0, v1]) G Tryz.func79 (by kernel_rfl) (by kernel_rfl) (by kernel_rfl) (by kernel_rfl) (by kernel_rfl) (m79 h v0 v1 G r hr)
instance ilp92_0 : LpIs Q 92 0 (subAt [1, 1, 1, 1, 0, 0] (bodyOf Tryz.f92)) 24 := ⟨by kernel_rfl, by kernel_rfl⟩
noncomputable def b92_0 (q : Bool) (e : Ex) (lp : Env → GS → Option (Exit × Env × GS)) (τ : Env) (G : GS) : Option (Exit × Env × GS) :=
  bV q (τ 1) fun a1_ =>
  bV q (τ 2) fun a2_ =>
  bV q (τ 13) fun a13_ =>
  bV q (τ 14) fun a14_ =>
  bP (bn Q q .lss 3 (.tmp 14) (.tmp 13) a14_ a13_) fun x0 =>
  ifV x0 (
  bP (fa Q q 67 1 1 a2_) fun x1 =>
  bP (ld Q q 3 x1 G) fun x2 =>
  bP (bn Q q .add 3 (.tmp 19) (.tmp 20) x2 a14_) fun x3 =>
  bS (e.ev.cl 45 [a1_, x3, (.int .u64 0)] G) fun x4 G5 =>
  bP (bn Q q .add 3 (.tmp 14) (.const (.int .i64 1)) a14_ (.int .i64 1)) fun x6 =>
  lp (tu τ [(1, a1_), (2, a2_), (13, a13_), (14, x6), (4, a14_), (15, x0), (16, a14_), (17, a1_), (18, x1), (19, x2), (20, a14_), (21, x3), (22, x4), (23, x6)]) G5) (
  some ((.exit 0), clq q 24 (tu τ [(1, a1_), (2, a2_), (13, a13_), (14, a14_), (15, x0)]), G))
theorem mb92_0 {e : Ex} {E : Ev} (h : ExLe Q e E) {lp lp' : Env → GS → Option (Exit × Env × GS)} (hlp : LpLe lp lp') (τ : Env) (G : GS) : Ref (b92_0 true e lp τ G) (b92_0 false (Ex.of E) lp' τ G) := by
  unfold b92_0
  exact Ref.go
theorem l92_0 {orc : FuncId → Bool} {e : Ex} (h : ExLe Q e (E orc)) (lp : Env → GS → Option (Exit × Env × GS)) (hlp : ∀ τ G, Ref (lp τ G) (mapE ((E orc).lp (subAt [1, 1, 1, 1, 0, 0] (bodyOf Tryz.f92)) (lst 24 τ) G))) (T : List Value) (G : GS) (hT : T.length = 24) : Ref (b92_0 true e lp (nth undef T) G) (mapE ((E orc).lp (subAt [1, 1, 1, 1, 0, 0] (bodyOf Tryz.f92)) T G)) :=
  fun r hr => lp_sxM Q orc G hT (by kernel_rfl) (mb92_0 h ⟨hlp⟩ _ _ r hr)
/-- coxswain/tower.Fill -/
noncomputable def s92 (q : Bool) (e : Ex) (v0 v1 : Value) (G : GS) : Option (Value × GS) :=
  bS (bx q v0 G) fun x0 G1 =>
  bP (lda Q q 67 13 x0 G1) fun x2 =>
  bS (e.ev.cl 169 [x2] G1) fun x3 G4 =>
  bP (un Q q .not x3) fun x5 =>
  ifV x5 (
  some (.tuple #[], G4)) (
  bP (fa Q q 67 3 3 x0) fun x6 =>
  bP (lda Q q 65 10 x6 G4) fun x7 =>
  bS (e.ev.cl 170 [x7, v1] G4) fun x8 G9 =>
  bP (fa Q q 67 2 2 x0) fun x10 =>
  bP (ld Q q 3 x10 G9) fun x11 =>
  bL q e 92 0 (subAt [1, 1, 1, 1, 0, 0] (bodyOf Tryz.f92)) 24 (tu (nth undef [v0, v1]) [(2, x0), (5, x2), (6, x3), (7, x5), (8, x6), (9, x7), (10, v1), (11, x8), (12, x10), (13, x11), (14, (.int .i64 0))]) G9 fun e12 t13 G14 =>
  ifE e12 (.exit 0) (
  some (.tuple #[], G14)) (none))
theorem m92 {e : Ex} {E : Ev} (h : ExLe Q e E) (v0 v1 : Value) (G : GS) : Ref (s92 true e v0 v1 G) (s92 false (Ex.of E) v0 v1 G) := by
  unfold s92
  exact Ref.go
theorem f92 {orc : FuncId → Bool} {e : Ex} (h : ExLe Q e (E orc)) (v0 v1 : Value) (G : GS) : Ref (s92 true e v0 v1 G) ((E orc).cl 92 [v0, v1] G) :=
  fun r hr => cl_sxE_some Q orc (vs := [v0, v1]) G Tryz.func92 (by kernel_rfl) (by kernel_rfl) (by kernel_rfl) (by kernel_rfl) (by kernel_rfl) (m92 h v0 v1 G r hr)
/-- coxswain/tower.Level -/
noncomputable def s93 (q : Bool) (e : Ex) (v0 v1 v2 : Value) (G : GS) : Option (Value × GS) :=
  bS (bx q v0 G) fun x0 G1 =>
  bS (al Q q 139 z139 G1) fun x2 G3 =>
  bP (lda Q q 67 13 x0 G3) fun x4 =>
  bS (e.ev.cl 101 [x4, (.int .i64 (-1)), v1] G3) fun x5 G6 =>
  bP (bn Q q .lss 3 (.tmp 11) (.const (.int .i64 0)) x5 (.int .i64 0)) fun x7 =>
  ifV x7 (
  bP (ld Q q 139 x2 G6) fun x8 =>
  some (x8, G6)) (
  bS (e.ev.cl 17 [v2] (G6.room 5)) fun x10 G9 =>
  bP (lda Q q 67 13 x0 G9) fun x11 =>
  chk ((sameO (lda Q q 67 13 x0 (G6.room 5)) x11 && true)) <|
  bS (e.ev.cl 171 [x10, x11, v1] G9) fun x13 G12 =>
  bX (xRange e.ev x13 #[19] (subAt [1, 1, 1, 0, 1, 0, 0] (bodyOf Tryz.f93)) (subAt [1, 1, 1, 0, 1, 0, 1] (bodyOf Tryz.f93)) (lst 25 (tu (nth undef [v0, v1, v2]) [(3, x0), (6, (.slice none 0 0)), (7, x2), (9, x4), (10, v1), (11, x5), (12, x7), (14, v2), (15, x10), (16, x11), (17, v1), (18, x13)])) G12) fun e14 T15 G16 =>
  bV q (nth undef T15 7) fun T15x7_ =>
  ifE e14 .normal (
  bP (ld Q q 139 T15x7_ G16) fun x17 =>
  some (x17, G16)) (none))
theorem m93 {e : Ex} {E : Ev} (h : ExLe Q e E) (v0 v1 v2 : Value) (G : GS) : Ref (s93 true e v0 v1 v2 G) (s93 false (Ex.of E) v0 v1 v2 G) := by
  unfold s93
  exact Ref.go
theorem f93 {orc : FuncId → Bool} {e : Ex} (h : ExLe Q e (E orc)) (v0 v1 v2 : Value) (G : GS) : Ref (s93 true e v0 v1 v2 G) ((E orc).cl 93 [v0, v1, v2] G) :=
  fun r hr => cl_sxE_some Q orc (vs := [v0, v1, v2]) G Tryz.func93 (by kernel_rfl) (by kernel_rfl) (by kernel_rfl) (by kernel_rfl) (by kernel_rfl) (m93 h v0 v1 v2 G r hr)
/-- coxswain/claim.seek[coxswain/claim.taking] -/
noncomputable def s94 (q : Bool) (e : Ex) (v0 : Value) (G : GS) : Option (Value × GS) :=
  bS (bx q v0 G) fun x0 G1 =>
  bS (al Q q 82 z82 G1) fun x2 G3 =>
  bP (lda Q q 67 13 x0 G3) fun x4 =>
  bS (e.ev.cl 101 [x4, (.int .i64 (-1)), (.int .i64 0)] G3) fun x5 G6 =>
  bP (bn Q q .lss 3 (.tmp 4) (.const (.int .i64 0)) x5 (.int .i64 0)) fun x7 =>
  ifV x7 (
  bP (bd Q q 82 z82 [(8, 24, 1), (2, 17, 1), (9, 25, 1)] [(.bool true), (.int .i64 99), (.int .i64 2)]) fun x8 =>
  bP (st Q q 82 26 x2 x8 G6) fun G9 =>
  bP (lda Q q 82 26 x2 G9) fun x10 =>
  some (x10, G9)) (
  bP (lda Q q 67 13 x0 G6) fun x11 =>
  bP (bd Q q 82 z82 [(0, 0, 13), (8, 24, 1), (2, 17, 1)] [x11, (.bool true), (.int .i64 1)]) fun x12 =>
  bP (st Q q 82 26 x2 x12 G6) fun G13 =>
  bP (lda Q q 82 26 x2 G13) fun x14 =>
  some (x14, G13))
theorem m94 {e : Ex} {E : Ev} (h : ExLe Q e E) (v0 : Value) (G : GS) : Ref (s94 true e v0 G) (s94 false (Ex.of E) v0 G) := by
  unfold s94
  exact Ref.go
theorem f94 {orc : FuncId → Bool} {e : Ex} (h : ExLe Q e (E orc)) (v0 : Value) (G : GS) : Ref (s94 true e v0 G) ((E orc).cl 94 [v0] G) :=
  fun r hr => cl_sxE_some Q orc (vs := [v0]) G Tryz.func94 (by kernel_rfl) (by kernel_rfl) (by kernel_rfl) (by kernel_rfl) (by kernel_rfl) (m94 h v0 G r hr)
/-- (*coxswain/claim.seeker[coxswain/claim.taking]).done -/
noncomputable def s95 (q : Bool) (e : Ex) (v0 : Value) (G : GS) : Option (Value × GS) :=
  bP (pNil v0) fun x0 =>
  bP (fa Q q 82 8 24 x0) fun x1 =>
  bP (ld Q q 4 x1 G) fun x2 =>
  bP (un Q q .not x2) fun x3 =>
  bS (gd x3 false (some (v0, G)) G) fun x4 G5 =>
  bS (gd x3 false (bP (pNil x4) fun y => some (y, G5)) G5) fun x6 G7 =>
  bS (gd x3 false (bP (fa Q q 82 2 17 x6) fun y => some (y, G7)) G7) fun x8 G9 =>
  bS (gd x3 false (bP (ld Q q 3 x8 G9) fun y => some (y, G9)) G9) fun x10 G11 =>
  bS (gd x3 false (bP (bn Q q .eql 3 (.tmp 12) (.const (.int .i64 99)) x10 (.int .i64 99)) fun y => some (y, G11)) G11) fun x12 G13 =>
  bP (pickV x3 (.bool true) x12) fun x14 =>
  some (x14, G13)
theorem m95 {e : Ex} {E : Ev} (h : ExLe Q e E) (v0 : Value) (G : GS) : Ref (s95 true e v0 G) (s95 false (Ex.of E) v0 G) := by
  unfold s95
  exact Ref.go
theorem f95 {orc : FuncId → Bool} {e : Ex} (h : ExLe Q e (E orc)) (v0 : Value) (G : GS) : Ref (s95 true e v0 G) ((E orc).cl 95 [v0] G) :=
  fun r hr => cl_sxE_some Q orc (vs := [v0]) G Tryz.func95 (by kernel_rfl) (by kernel_rfl) (by kernel_rfl) (by kernel_rfl) (by kernel_rfl) (m95 h v0 G r hr)
/-- (*coxswain/claim.seeker[coxswain/claim.taking]).first -/
noncomputable def s96 (q : Bool) (e : Ex) (v0 v1 : Value) (G : GS) : Option (Value × GS) :=
  bP (pNil v0) fun x0 =>
  bP (fa Q q 82 2 17 x0) fun x1 =>
  bP (ld Q q 3 x1 G) fun x2 =>
  bP (bn Q q .eql 3 (.tmp 9) (.const (.int .i64 1)) x2 (.int .i64 1)) fun x3 =>
  ifV x3 (
  bP (pNil v0) fun x4 =>
  bP (fa Q q 82 7 23 x4) fun x5 =>
  bP (st Q q 49 1 x5 (.int .u64 0) G) fun G6 =>
  bP (pNil v0) fun x7 =>
  bP (fa Q q 82 0 0 x7) fun x8 =>
  bP (lda Q q 67 13 x8 G6) fun x9 =>
  bS (e.ev.cl 101 [x9, (.int .i64 (-1)), (.int .i64 0)] G6) fun x10 G11 =>
  bS (e.ev.cl 79 [v1, x10] G11) fun x12 G13 =>
  bP (pNil v0) fun x14 =>
  bP (fa Q q 82 3 18 x14) fun x15 =>
  bP (st Q q 49 1 x15 x12 G13) fun G16 =>
  bP (pNil v0) fun x17 =>
  bP (fa Q q 82 3 18 x17) fun x18 =>
  bP (ld Q q 49 x18 G16) fun x19 =>
  bS (e.ev.cl 172 [x19] G16) fun x20 G21 =>
  bP (pExtract x20 0) fun x22 =>
  bP (pExtract x20 1) fun x23 =>
  bS (al Q q 250 z250 G21) fun x24 G25 =>
  bP (st Q q 250 2 x24 x22 G25) fun G26 =>
  bP (fa Q q 250 0 0 x24) fun x27 =>
  bP (ld Q q 3 x27 G26) fun x28 =>
  bP (pNil v0) fun x29 =>
  bP (fa Q q 82 4 19 x29) fun x30 =>
  bP (st Q q 3 1 x30 x28 G26) fun G31 =>
  bP (pNil v0) fun x32 =>
  bP (fa Q q 82 2 17 x32) fun x33 =>
  bP (st Q q 3 1 x33 (.int .i64 2) G31) fun G34 =>
  bP (pNil v0) fun x35 =>
  bP (fa Q q 82 4 19 x35) fun x36 =>
  bP (ld Q q 3 x36 (G34.room 20)) fun x37 =>
  bP (bn Q q .lss 3 (.tmp 44) (.const (.int .i64 0)) x37 (.int .i64 0)) fun x38 =>
  bS (gd x38 false (some (v0, (G34.room 20))) (G34.room 20)) fun x39 _ =>
  bS (gd x38 false (bP (pNil x39) fun y => some (y, (G34.room 20))) (G34.room 20)) fun x40 _ =>
  bS (gd x38 false (bP (fa Q q 82 4 19 x40) fun y => some (y, (G34.room 20))) (G34.room 20)) fun x41 _ =>
  bS (gd x38 false (bP (ld Q q 3 x41 (G34.room 20)) fun y => some (y, (G34.room 20))) (G34.room 20)) fun x42 _ =>
  bS (gd x38 false (some (v0, (G34.room 20))) (G34.room 20)) fun x43 _ =>
  bS (gd x38 false (bP (pNil x43) fun y => some (y, (G34.room 20))) (G34.room 20)) fun x44 _ =>
  bS (gd x38 false (bP (fa Q q 82 0 0 x44) fun y => some (y, (G34.room 20))) (G34.room 20)) fun x45 _ =>
  bS (gd x38 false (bP (fa Q q 67 3 3 x45) fun y => some (y, (G34.room 20))) (G34.room 20)) fun x46 _ =>
  bS (gd x38 false (bP (fa Q q 65 0 0 x46) fun y => some (y, (G34.room 20))) (G34.room 20)) fun x47 _ =>
  bS (gd x38 false (bP (fa Q q 25 0 0 x47) fun y => some (y, (G34.room 20))) (G34.room 20)) fun x48 _ =>
  bS (gd x38 false (bP (fa Q q 23 2 2 x48) fun y => some (y, (G34.room 20))) (G34.room 20)) fun x49 _ =>
  bS (gd x38 false (bP (ld Q q 3 x49 (G34.room 20)) fun y => some (y, (G34.room 20))) (G34.room 20)) fun x50 _ =>
  bS (gd x38 false (bP (bn Q q .geq 3 (.tmp 50) (.tmp 58) x42 x50) fun y => some (y, (G34.room 20))) (G34.room 20)) fun x51 _ =>
  bP (pickV x38 (.bool true) x51) fun x52 =>
  ifV x52 (
  bP (pNil v0) fun x53 =>
  bP (fa Q q 82 2 17 x53) fun x54 =>
  bP (st Q q 3 1 x54 (.int .i64 99) (G34.room 20)) fun G55 =>
  bP (pNil v0) fun x56 =>
  bP (fa Q q 82 9 25 x56) fun x57 =>
  bP (st Q q 28 1 x57 (.int .i64 15) G55) fun G58 =>
  some (.tuple #[], G58)) (
  some (.tuple #[], (G34.room 20)))) (
  bP (bn Q q .eql 3 (.tmp 9) (.const (.int .i64 2)) x2 (.int .i64 2)) fun x59 =>
  ifV x59 (
  bS (e.ev.cl 98 [v0, v1, (.int .i64 4)] G) fun x60 G61 =>
  bP (pNil v0) fun x62 =>
  bP (fa Q q 82 5 20 x62) fun x63 =>
  bP (st Q q 80 1 x63 x60 G61) fun G64 =>
  bP (pNil v0) fun x65 =>
  bP (fa Q q 82 2 17 x65) fun x66 =>
  bP (st Q q 3 1 x66 (.int .i64 4) G64) fun G67 =>
  bP (pNil v0) fun x68 =>
  bP (fa Q q 82 5 20 x68) fun x69 =>
  bP (ld Q q 80 x69 G67) fun x70 =>
  bS (e.ev.cl 99 [x70] G67) fun x71 G72 =>
  ifV x71 (
  bP (pNil v0) fun x73 =>
  bP (fa Q q 82 2 17 x73) fun x74 =>
  bP (st Q q 3 1 x74 (.int .i64 3) G72) fun G75 =>
  some (.tuple #[], G75)) (
  some (.tuple #[], G72))) (
  bP (bn Q q .eql 3 (.tmp 9) (.const (.int .i64 3)) x2 (.int .i64 3)) fun x76 =>
  ifV x76 (
  bP (pNil v0) fun x77 =>
  bP (fa Q q 82 7 23 x77) fun x78 =>
  bP (st Q q 49 1 x78 (.int .u64 0) G) fun G79 =>
  bP (pNil v0) fun x80 =>
  bP (fa Q q 82 0 0 x80) fun x81 =>
  bP (lda Q q 67 13 x81 (G79.room 16)) fun x82 =>
  bS (e.ev.cl 101 [x82, (.int .i64 (-1)), (.int .i64 0)] (G79.room 16)) fun x84 G83 =>
  bP (pNil v0) fun x85 =>
  bP (fa Q q 82 3 18 x85) fun x86 =>
  bP (ld Q q 49 x86 G83) fun x87 =>
  chk ((sameO (ld Q q 49 x86 (G79.room 16)) x87 && true)) <|
  bP (pNil v0) fun x88 =>
  bP (fa Q q 82 5 20 x88) fun x89 =>
  bP (ld Q q 80 x89 G83) fun x90 =>
  chk ((sameO (ld Q q 80 x89 (G79.room 16)) x90 && true)) <|
  bS (e.ev.cl 102 [x90, (.bool false)] G83) fun x92 G91 =>
  chk ((sameO (ld Q q 49 x86 G91) x87 && true)) <|
  bS (e.ev.cl 100 [v1, x84, x87, x92] G91) fun x94 G93 =>
  bP (pNil v0) fun x95 =>
  bP (fa Q q 82 2 17 x95) fun x96 =>
  bP (st Q q 3 1 x96 (.int .i64 1) G93) fun G97 =>
  some (.tuple #[], G97)) (
  some (.tuple #[], G))))
theorem m96 {e : Ex} {E : Ev} (h : ExLe Q e E) (v0 v1 : Value) (G : GS) : Ref (s96 true e v0 v1 G) (s96 false (Ex.of E) v0 v1 G) := by
  unfold s96
  exact Ref.go
set_option maxHeartbeats 8000000 in
theorem f96 {orc : FuncId → Bool} {e : Ex} (h : ExLe Q e (E orc)) (v0 v1 : Value) (G : GS) : Ref (s96 true e v0 v1 G) ((E orc).cl 96 [v0, v1] G) :=
  fun r hr => cl_sxE_some Q orc (vs := [v0, v1]) G Tryz.func96 (by kernel_rfl) (by kernel_rfl) (by kernel_rfl) (by kernel_rfl) (by kernel_rfl) (m96 h v0 v1 G r hr)
/-- (*coxswain/claim.Claim).mark -/
noncomputable def s97 (q : Bool) (e : Ex) (v0 v1 : Value) (G : GS) : Option (Value × GS) :=
  bP (pNil v0) fun x0 =>
  bP (fa Q q 84 0 0 x0) fun x1 =>
  bP (fa Q q 82 2 17 x1) fun x2 =>
  bP (ld Q q 3 x2 G) fun x3 =>
  bP (bn Q q .eql 3 (.tmp 9) (.const (.int .i64 4)) x3 (.int .i64 4)) fun x4 =>
  ifV x4 (
  bP (pNil v0) fun x5 =>
  bP (fa Q q 84 0 0 x5) fun x6 =>
  bP (fa Q q 82 0 0 x6) fun x7 =>
  bP (fa Q q 67 2 2 x7) fun x8 =>
  bP (ld Q q 3 x8 G) fun x9 =>
  bP (pNil v0) fun x10 =>
  bP (fa Q q 84 0 0 x10) fun x11 =>
  bP (fa Q q 82 1 13 x11) fun x12 =>
  bP (fa Q q 79 0 0 x12) fun x13 =>
  bP (st Q q 3 1 x13 x9 G) fun G14 =>
  bP (pNil v0) fun x15 =>
  bP (fa Q q 84 0 0 x15) fun x16 =>
  bS (e.ev.cl 98 [x16, v1, (.int .i64 2)] G14) fun x17 G18 =>
  bP (pNil v0) fun x19 =>
  bP (fa Q q 84 0 0 x19) fun x20 =>
  bP (fa Q q 82 0 0 x20) fun x21 =>
  bP (fa Q q 67 2 2 x21) fun x22 =>
  bP (ld Q q 3 x22 G18) fun x23 =>
  bP (cv Q q 3 49 .i64 .u64 x23) fun x24 =>
  bP (bn Q q .lss 49 (.tmp 28) (.tmp 35) x17 x24) fun x25 =>
  ifV x25 (
  bP (cv Q q 49 3 .u64 .i64 x17) fun x26 =>
  bP (pNil v0) fun x27 =>
  bP (fa Q q 84 0 0 x27) fun x28 =>
  bP (fa Q q 82 1 13 x28) fun x29 =>
  bP (fa Q q 79 0 0 x29) fun x30 =>
  bP (st Q q 3 1 x30 x26 G18) fun G31 =>
  bS (e.ev.cl 173 [v0] G31) fun x32 G33 =>
  some (.tuple #[], G33)) (
  bS (e.ev.cl 173 [v0] G18) fun x34 G35 =>
  some (.tuple #[], G35))) (
  bP (bn Q q .eql 3 (.tmp 9) (.const (.int .i64 5)) x3 (.int .i64 5)) fun x36 =>
  ifV x36 (
  bP (pNil v0) fun x37 =>
  bP (fa Q q 84 0 0 x37) fun x38 =>
  bP (pNil v0) fun x39 =>
  bP (fa Q q 84 0 0 x39) fun x40 =>
  bP (fa Q q 82 1 13 x40) fun x41 =>
  bP (fa Q q 79 0 0 x41) fun x42 =>
  bP (ld Q q 3 x42 (G.room 17)) fun x43 =>
  bP (bn Q q .add 3 (.const (.int .i64 4)) (.tmp 58) (.int .i64 4) x43) fun x44 =>
  bS (e.ev.cl 98 [x38, v1, x44] (G.room 17)) fun x46 G45 =>
  bP (pNil v0) fun x47 =>
  bP (fa Q q 84 0 0 x47) fun x48 =>
  bP (fa Q q 82 5 20 x48) fun x49 =>
  bP (st Q q 80 1 x49 x46 G45) fun G50 =>
  bP (pNil v0) fun x51 =>
  bP (fa Q q 84 0 0 x51) fun x52 =>
  bP (fa Q q 82 2 17 x52) fun x53 =>
  bP (st Q q 3 1 x53 (.int .i64 6) G50) fun G54 =>
  bP (pNil v0) fun x55 =>
  bP (fa Q q 84 0 0 x55) fun x56 =>
  bP (fa Q q 82 5 20 x56) fun x57 =>
  bP (ld Q q 80 x57 G54) fun x58 =>
  bS (e.ev.cl 99 [x58] G54) fun x59 G60 =>
  ifV x59 (
  bS (e.ev.cl 173 [v0] G60) fun x61 G62 =>
  some (.tuple #[], G62)) (
  some (.tuple #[], G60))) (
  bP (bn Q q .eql 3 (.tmp 9) (.const (.int .i64 6)) x3 (.int .i64 6)) fun x63 =>
  ifV x63 (
  bP (pNil v0) fun x64 =>
  bP (fa Q q 84 0 0 x64) fun x65 =>
  bP (fa Q q 82 3 18 x65) fun x66 =>
  bP (ld Q q 49 x66 G) fun x67 =>
  bP (pNil v0) fun x68 =>
  bP (fa Q q 84 0 0 x68) fun x69 =>
  bP (fa Q q 82 7 23 x69) fun x70 =>
  bP (st Q q 49 1 x70 x67 G) fun G71 =>
  bP (pNil v0) fun x72 =>
  bP (fa Q q 84 0 0 x72) fun x73 =>
  bP (fa Q q 82 2 17 x73) fun x74 =>
  bP (st Q q 3 1 x74 (.int .i64 5) G71) fun G75 =>
  bP (pNil v0) fun x76 =>
  bP (fa Q q 84 0 0 x76) fun x77 =>
  bP (fa Q q 82 0 0 x77) fun x78 =>
  bP (lda Q q 67 13 x78 (G75.room 30)) fun x79 =>
  bP (pNil v0) fun x80 =>
  bP (fa Q q 84 0 0 x80) fun x81 =>
  bP (fa Q q 82 4 19 x81) fun x82 =>
  bP (ld Q q 3 x82 (G75.room 30)) fun x83 =>
  bP (pNil v0) fun x84 =>
  bP (fa Q q 84 0 0 x84) fun x85 =>
  bP (fa Q q 82 1 13 x85) fun x86 =>
  bP (fa Q q 79 0 0 x86) fun x87 =>
  bP (ld Q q 3 x87 (G75.room 30)) fun x88 =>
  bS (e.ev.cl 101 [x79, x83, x88] (G75.room 30)) fun x90 G89 =>
  bP (pNil v0) fun x91 =>
  bP (fa Q q 84 0 0 x91) fun x92 =>
  bP (fa Q q 82 5 20 x92) fun x93 =>
  bP (ld Q q 80 x93 G89) fun x94 =>
  chk ((sameO (ld Q q 80 x93 (G75.room 30)) x94 && true)) <|
  bP (pNil v0) fun x95 =>
  bP (fa Q q 84 0 0 x95) fun x96 =>
  bP (fa Q q 82 5 20 x96) fun x97 =>
  bP (ld Q q 80 x97 G89) fun x98 =>
  chk ((sameO (ld Q q 80 x97 (G75.room 30)) x98 && true)) <|
  bS (e.ev.cl 102 [x98, (.bool true)] G89) fun x100 G99 =>
  chk ((sameO (ld Q q 80 x93 G99) x94 && true)) <|
  bS (e.ev.cl 100 [v1, x90, x94, x100] G99) fun x102 G101 =>
  ifV x102 (
  bS (e.ev.cl 173 [v0] G101) fun x103 G104 =>
  some (.tuple #[], G104)) (
  some (.tuple #[], G101))) (
  some (.tuple #[], G))))
theorem m97 {e : Ex} {E : Ev} (h : ExLe Q e E) (v0 v1 : Value) (G : GS) : Ref (s97 true e v0 v1 G) (s97 false (Ex.of E) v0 v1 G) := by
  unfold s97
  exact Ref.go
set_option maxHeartbeats 8000000 in
theorem f97 {orc : FuncId → Bool} {e : Ex} (h : ExLe Q e (E orc)) (v0 v1 : Value) (G : GS) : Ref (s97 true e v0 v1 G) ((E orc).cl 97 [v0, v1] G) :=
  fun r hr => cl_sxE_some Q orc (vs := [v0, v1]) G Tryz.func97 (by kernel_rfl) (by kernel_rfl) (by kernel_rfl) (by kernel_rfl) (by kernel_rfl) (m97 h v0 v1 G r hr)
/-- (*coxswain/claim.seeker[coxswain/claim.taking]).load -/
noncomputable def s98 (q : Bool) (e : Ex) (v0 v1 v2 : Value) (G : GS) : Option (Value × GS) :=
  bP (pNil v0) fun x0 =>
  bP (fa Q q 82 3 18 x0) fun x1 =>
  bP (ld Q q 49 x1 G) fun x2 =>
  bP (pNil v0) fun x3 =>
  bP (fa Q q 82 7 23 x3) fun x4 =>
  bP (st Q q 49 1 x4 x2 G) fun G5 =>
  bP (pNil v0) fun x6 =>
  bP (fa Q q 82 0 0 x6) fun x7 =>
  bP (lda Q q 67 13 x7 (G5.room 13)) fun x8 =>
  bP (pNil v0) fun x9 =>
  bP (fa Q q 82 4 19 x9) fun x10 =>
  bP (ld Q q 3 x10 (G5.room 13)) fun x11 =>
  bS (e.ev.cl 174 [x8, x11, v2] (G5.room 13)) fun x13 G12 =>
  bS (e.ev.cl 79 [v1, x13] G12) fun x15 G14 =>
  some (x15, G14)
theorem m98 {e : Ex} {E : Ev} (h : ExLe Q e E) (v0 v1 v2 : Value) (G : GS) : Ref (s98 true e v0 v1 v2 G) (s98 false (Ex.of E) v0 v1 v2 G) := by
  unfold s98
  exact Ref.go
theorem f98 {orc : FuncId → Bool} {e : Ex} (h : ExLe Q e (E orc)) (v0 v1 v2 : Value) (G : GS) : Ref (s98 true e v0 v1 v2 G) ((E orc).cl 98 [v0, v1, v2] G) :=
  fun r hr => cl_sxE_some Q orc (vs := [v0, v1, v2]) G Tryz.func98 (by kernel_rfl) (by kernel_rfl) (by kernel_rfl) (by kernel_rfl) (by kernel_rfl) (m98 h v0 v1 v2 G r hr)
/-- (coxswain/claim.link).marked -/
noncomputable def s99 (q : Bool) (e : Ex) (v0 : Value) (G : GS) : Option (Value × GS) :=
  bS (e.ev.cl 175 [v0] G) fun x0 G1 =>
  some (x0, G1)
theorem m99 {e : Ex} {E : Ev} (h : ExLe Q e E) (v0 : Value) (G : GS) : Ref (s99 true e v0 G) (s99 false (Ex.of E) v0 G) := by
  unfold s99
  exact Ref.go
theorem f99 {orc : FuncId → Bool} {e : Ex} (h : ExLe Q e (E orc)) (v0 : Value) (G : GS) : Ref (s99 true e v0 G) ((E orc).cl 99 [v0] G) :=
  fun r hr => cl_sxE_some Q orc (vs := [v0]) G Tryz.func99 (by kernel_rfl) (by kernel_rfl) (by kernel_rfl) (by kernel_rfl) (by kernel_rfl) (m99 h v0 G r hr)
/-- (*coxswain/cells.Mem).CAS -/
noncomputable def s100 (q : Bool) (e : Ex) (v0 v1 v2 v3 : Value) (G : GS) : Option (Value × GS) :=
  bS (e.ev.cl 118 [v0, v1] G) fun x0 G1 =>
  bP (bd Q q 195 z195 [(0, 0, 1), (1, 1, 1), (2, 2, 1)] [x0, v2, v3]) fun x2 =>
  bS (al Q q 195 z195 G1) fun x3 G4 =>
  bP (st Q q 195 3 x3 x2 G4) fun G5 =>
  bP (fa Q q 195 0 0 x3) fun x6 =>
  bP (ld Q q 192 x6 G5) fun x7 =>
  bP (lda Q q 195 3 x3 G5) fun x8 =>
  bS (e.ev.cl 119 [v0, (.int .i64 3), v1, x7, (.func (.func 176) #[x8] #[])] G5) fun x9 G10 =>
  bP (fd Q q 51 4 4 x9) fun x11 =>
  some (x11, G10)
theorem m100 {e : Ex} {E : Ev} (h : ExLe Q e E) (v0 v1 v2 v3 : Value) (G : GS) : Ref (s100 true e v0 v1 v2 v3 G) (s100 false (Ex.of E) v0 v1 v2 v3 G) := by
  unfold s100
  exact Ref.go
theorem f100 {orc : FuncId → Bool} {e : Ex} (h : ExLe Q e (E orc)) (v0 v1 v2 v3 : Value) (G : GS) : Ref (s100 true e v0 v1 v2 v3 G) ((E orc).cl 100 [v0, v1, v2, v3] G) :=
  fun r hr => cl_sxE_some Q orc (vs := [v0, v1, v2, v3]) G Tryz.func100 (by kernel_rfl) (by kernel_rfl) (by kernel_rfl) (by kernel_rfl) (by kernel_rfl) (m100 h v0 v1 v2 v3 G r hr)
/-- coxswain/tower.Next -/
noncomputable def s101 (q : Bool) (e : Ex) (v0 v1 v2 : Value) (G : GS) : Option (Value × GS) :=
  bS (bx q v0 G) fun x0 G1 =>
  bP (bn Q q .lss 3 (.tmp 7) (.const (.int .i64 0)) v2 (.int .i64 0)) fun x2 =>
  bS (gd x2 false (some (v2, G1)) G1) fun x3 G4 =>
  bS (gd x2 false (bP (bn Q q .geq 3 (.tmp 10) (.const (.int .i64 4)) x3 (.int .i64 4)) fun y => some (y, G4)) G4) fun x5 G6 =>
  bP (pickV x2 (.bool true) x5) fun x7 =>
  ifV x7 (
  some ((.int .i64 (-1)), G6)) (
  bP (lda Q q 67 13 x0 G6) fun x8 =>
  bP (bn Q q .add 3 (.const (.int .i64 4)) (.tmp 15) (.int .i64 4) v2) fun x9 =>
  bS (e.ev.cl 174 [x8, v1, x9] G6) fun x10 G11 =>
  some (x10, G11))
theorem m101 {e : Ex} {E : Ev} (h : ExLe Q e E) (v0 v1 v2 : Value) (G : GS) : Ref (s101 true e v0 v1 v2 G) (s101 false (Ex.of E) v0 v1 v2 G) := by
  unfold s101
  exact Ref.go
theorem f101 {orc : FuncId → Bool} {e : Ex} (h : ExLe Q e (E orc)) (v0 v1 v2 : Value) (G : GS) : Ref (s101 true e v0 v1 v2 G) ((E orc).cl 101 [v0, v1, v2] G) :=
  fun r hr => cl_sxE_some Q orc (vs := [v0, v1, v2]) G Tryz.func101 (by kernel_rfl) (by kernel_rfl) (by kernel_rfl) (by kernel_rfl) (by kernel_rfl) (m101 h v0 v1 v2 G r hr)
/-- (coxswain/claim.link).marks -/
noncomputable def s102 (q : Bool) (e : Ex) (v0 v1 : Value) (G : GS) : Option (Value × GS) :=
  bS (e.ev.cl 177 [v0, v1] G) fun x0 G1 =>
  some (x0, G1)
theorem m102 {e : Ex} {E : Ev} (h : ExLe Q e E) (v0 v1 : Value) (G : GS) : Ref (s102 true e v0 v1 G) (s102 false (Ex.of E) v0 v1 G) := by
  unfold s102
  exact Ref.go
theorem f102 {orc : FuncId → Bool} {e : Ex} (h : ExLe Q e (E orc)) (v0 v1 : Value) (G : GS) : Ref (s102 true e v0 v1 G) ((E orc).cl 102 [v0, v1] G) :=
  fun r hr => cl_sxE_some Q orc (vs := [v0, v1]) G Tryz.func102 (by kernel_rfl) (by kernel_rfl) (by kernel_rfl) (by kernel_rfl) (by kernel_rfl) (m102 h v0 v1 G r hr)
/-- (*coxswain/claim.seeker[coxswain/claim.taking]).job -/
noncomputable def s103 (q : Bool) (e : Ex) (v0 v1 : Value) (G : GS) : Option (Value × GS) :=
  bS (e.ev.cl 98 [v0, v1, (.int .i64 1)] G) fun x0 G1 =>
  bP (bn Q q .and 49 (.tmp 7) (.const (.int .u64 65535)) x0 (.int .u64 65535)) fun x2 =>
  bP (cv Q q 49 3 .u64 .i64 x2) fun x3 =>
  bP (pNil v0) fun x4 =>
  bP (fa Q q 82 6 21 x4) fun x5 =>
  bP (fa Q q 58 1 1 x5) fun x6 =>
  bP (st Q q 3 1 x6 x3 G1) fun G7 =>
  some (.tuple #[], G7)
theorem m103 {e : Ex} {E : Ev} (h : ExLe Q e E) (v0 v1 : Value) (G : GS) : Ref (s103 true e v0 v1 G) (s103 false (Ex.of E) v0 v1 G) := by
  unfold s103
  exact Ref.go
theorem f103 {orc : FuncId → Bool} {e : Ex} (h : ExLe Q e (E orc)) (v0 v1 : Value) (G : GS) : Ref (s103 true e v0 v1 G) ((E orc).cl 103 [v0, v1] G) :=
  fun r hr => cl_sxE_some Q orc (vs := [v0, v1]) G Tryz.func103 (by kernel_rfl) (by kernel_rfl) (by kernel_rfl) (by kernel_rfl) (by kernel_rfl) (m103 h v0 v1 G r hr)
/-- coxswain/find.NewFind -/
noncomputable def s104 (q : Bool) (e : Ex) (v0 v1 : Value) (G : GS) : Option (Value × GS) :=
  bS (bx q v0 G) fun x0 G1 =>
  bP (lda Q q 67 13 x0 G1) fun x2 =>
  bP (bd Q q 259 z259 [(0, 0, 13), (1, 13, 1), (7, 22, 1)] [x2, v1, (.bool true)]) fun x3 =>
  bS (bx q x3 G1) fun x4 G5 =>
  bP (lda Q q 67 13 x0 G5) fun x6 =>
  bS (e.ev.cl 101 [x6, (.int .i64 (-1)), (.int .i64 0)] G5) fun x7 G8 =>
  bP (bn Q q .lss 3 (.tmp 11) (.const (.int .i64 0)) x7 (.int .i64 0)) fun x9 =>
  ifV x9 (
  bP (pNil x4) fun x10 =>
  bP (fa Q q 259 2 14 x10) fun x11 =>
  bP (st Q q 3 1 x11 (.int .i64 9) G8) fun G12 =>
  bP (pNil x4) fun x13 =>
  bP (fa Q q 259 8 23 x13) fun x14 =>
  bP (st Q q 28 1 x14 (.int .i64 2) G12) fun G15 =>
  some (x4, G15)) (
  bP (fa Q q 67 2 2 x0) fun x16 =>
  bP (ld Q q 3 x16 G8) fun x17 =>
  bS (mk Q q 257 4 32 z256 x17 x17 G8) fun x18 G19 =>
  bP (pNil x4) fun x20 =>
  bP (fa Q q 259 5 20 x20) fun x21 =>
  bP (st Q q 257 1 x21 x18 G19) fun G22 =>
  bS (e.ev.cl 178 [x4] G22) fun x23 G24 =>
  some (x4, G24))
theorem m104 {e : Ex} {E : Ev} (h : ExLe Q e E) (v0 v1 : Value) (G : GS) : Ref (s104 true e v0 v1 G) (s104 false (Ex.of E) v0 v1 G) := by
  unfold s104
  exact Ref.go
theorem f104 {orc : FuncId → Bool} {e : Ex} (h : ExLe Q e (E orc)) (v0 v1 : Value) (G : GS) : Ref (s104 true e v0 v1 G) ((E orc).cl 104 [v0, v1] G) :=
  fun r hr => cl_sxE_some Q orc (vs := [v0, v1]) G Tryz.func104 (by kernel_rfl) (by kernel_rfl) (by kernel_rfl) (by kernel_rfl) (by kernel_rfl) (m104 h v0 v1 G r hr)
/-- (*coxswain/claim.Claim).leave -/
noncomputable def s105 (q : Bool) (e : Ex) (v0 v1 : Value) (G : GS) : Option (Value × GS) :=
  bP (pNil v0) fun x0 =>
  bP (fa Q q 84 0 0 x0) fun x1 =>
  bP (fa Q q 82 2 17 x1) fun x2 =>
  bP (ld Q q 3 x2 G) fun x3 =>
  bP (bn Q q .eql 3 (.tmp 8) (.const (.int .i64 10)) x3 (.int .i64 10)) fun x4 =>
  ifV x4 (
  bP (pNil v0) fun x5 =>
  bP (fa Q q 84 0 0 x5) fun x6 =>
  bP (fa Q q 82 1 13 x6) fun x7 =>
  bP (fa Q q 79 2 2 x7) fun x8 =>
  bP (ld Q q 76 x8 G) fun x9 =>
  bS (e.ev.cl 179 [x9, v1] G) fun x10 G11 =>
  ifV x10 (
  bP (pNil v0) fun x12 =>
  bP (fa Q q 84 0 0 x12) fun x13 =>
  bP (fa Q q 82 2 17 x13) fun x14 =>
  bP (st Q q 3 1 x14 (.int .i64 11) G11) fun G15 =>
  bP (pNil v0) fun x16 =>
  bP (fa Q q 84 0 0 x16) fun x17 =>
  bP (fa Q q 82 1 13 x17) fun x18 =>
  bP (fa Q q 79 2 2 x18) fun x19 =>
  bP (ld Q q 76 x19 G15) fun x20 =>
  bS (e.ev.cl 180 [x20] G15) fun x21 G22 =>
  bP (pNil v0) fun x23 =>
  bP (fa Q q 84 0 0 x23) fun x24 =>
  bP (fa Q q 82 7 23 x24) fun x25 =>
  bP (st Q q 49 1 x25 x21 G22) fun G26 =>
  some (.tuple #[], G26)) (
  bP (pNil v0) fun x27 =>
  bP (fa Q q 84 0 0 x27) fun x28 =>
  bP (fa Q q 82 1 13 x28) fun x29 =>
  bP (fa Q q 79 2 2 x29) fun x30 =>
  bP (ld Q q 76 x30 G11) fun x31 =>
  bS (e.ev.cl 180 [x31] G11) fun x32 G33 =>
  bP (pNil v0) fun x34 =>
  bP (fa Q q 84 0 0 x34) fun x35 =>
  bP (fa Q q 82 7 23 x35) fun x36 =>
  bP (st Q q 49 1 x36 x32 G33) fun G37 =>
  some (.tuple #[], G37))) (
  bP (bn Q q .eql 3 (.tmp 8) (.const (.int .i64 11)) x3 (.int .i64 11)) fun x38 =>
  ifV x38 (
  bP (pNil v0) fun x39 =>
  bP (fa Q q 84 0 0 x39) fun x40 =>
  bP (fa Q q 82 3 18 x40) fun x41 =>
  bP (ld Q q 49 x41 G) fun x42 =>
  bP (pNil v0) fun x43 =>
  bP (fa Q q 84 0 0 x43) fun x44 =>
  bP (fa Q q 82 7 23 x44) fun x45 =>
  bP (st Q q 49 1 x45 x42 G) fun G46 =>
  bP (pNil v0) fun x47 =>
  bP (fa Q q 84 0 0 x47) fun x48 =>
  bP (fa Q q 82 2 17 x48) fun x49 =>
  bP (st Q q 3 1 x49 (.int .i64 99) G46) fun G50 =>
  bP (pNil v0) fun x51 =>
  bP (fa Q q 84 0 0 x51) fun x52 =>
  bP (fa Q q 82 0 0 x52) fun x53 =>
  bP (lda Q q 67 13 x53 (G50.room 14)) fun x54 =>
  bP (pNil v0) fun x55 =>
  bP (fa Q q 84 0 0 x55) fun x56 =>
  bP (fa Q q 82 4 19 x56) fun x57 =>
  bP (ld Q q 3 x57 (G50.room 14)) fun x58 =>
  bS (e.ev.cl 174 [x54, x58, (.int .i64 3)] (G50.room 14)) fun x60 G59 =>
  bS (e.ev.cl 181 [v1, x60, (.int .u64 18446744073709551615)] G59) fun x62 G61 =>
  bP (bn Q q .eql 49 (.tmp 61) (.const (.int .u64 0)) x62 (.int .u64 0)) fun x63 =>
  ifV x63 (
  bP (pNil v0) fun x64 =>
  bP (fa Q q 84 0 0 x64) fun x65 =>
  bP (fa Q q 82 0 0 x65) fun x66 =>
  bP (fa Q q 67 3 3 x66) fun x67 =>
  bP (lda Q q 65 10 x67 (G61.room 23)) fun x68 =>
  bP (pNil v0) fun x69 =>
  bP (fa Q q 84 0 0 x69) fun x70 =>
  bP (fa Q q 82 4 19 x70) fun x71 =>
  bP (ld Q q 3 x71 (G61.room 23)) fun x72 =>
  bS (e.ev.cl 182 [x68, x72] (G61.room 23)) fun x74 G73 =>
  bP (pNil v0) fun x75 =>
  bP (fa Q q 84 0 0 x75) fun x76 =>
  bP (fa Q q 82 1 13 x76) fun x77 =>
  bP (fa Q q 79 3 3 x77) fun x78 =>
  bP (st Q q 77 1 x78 x74 G73) fun G79 =>
  bP (pNil v0) fun x80 =>
  bP (fa Q q 84 0 0 x80) fun x81 =>
  bP (fa Q q 82 2 17 x81) fun x82 =>
  bP (st Q q 3 1 x82 (.int .i64 12) G79) fun G83 =>
  some (.tuple #[], G83)) (
  some (.tuple #[], G61))) (
  bP (bn Q q .eql 3 (.tmp 8) (.const (.int .i64 12)) x3 (.int .i64 12)) fun x84 =>
  ifV x84 (
  bP (pNil v0) fun x85 =>
  bP (fa Q q 84 0 0 x85) fun x86 =>
  bP (fa Q q 82 7 23 x86) fun x87 =>
  bP (st Q q 49 1 x87 (.int .u64 0) G) fun G88 =>
  bP (pNil v0) fun x89 =>
  bP (fa Q q 84 0 0 x89) fun x90 =>
  bP (fa Q q 82 1 13 x90) fun x91 =>
  bP (fa Q q 79 3 3 x91) fun x92 =>
  bP (ld Q q 77 x92 G88) fun x93 =>
  bS (e.ev.cl 183 [x93, v1] G88) fun x94 G95 =>
  ifV x94 (
  bP (pNil v0) fun x96 =>
  bP (fa Q q 84 0 0 x96) fun x97 =>
  bP (fa Q q 82 2 17 x97) fun x98 =>
  bP (st Q q 3 1 x98 (.int .i64 99) G95) fun G99 =>
  some (.tuple #[], G99)) (
  some (.tuple #[], G95))) (
  some (.tuple #[], G))))
theorem m105 {e : Ex} {E : Ev} (h : ExLe Q e E) (v0 v1 : Value) (G : GS) : Ref (s105 true e v0 v1 G) (s105 false (Ex.of E) v0 v1 G) := by
  unfold s105
  exact Ref.go
set_option maxHeartbeats 8000000 in
theorem f105 {orc : FuncId → Bool} {e : Ex} (h : ExLe Q e (E orc)) (v0 v1 : Value) (G : GS) : Ref (s105 true e v0 v1 G) ((E orc).cl 105 [v0, v1] G) :=
  fun r hr => cl_sxE_some Q orc (vs := [v0, v1]) G Tryz.func105 (by kernel_rfl) (by kernel_rfl) (by kernel_rfl) (by kernel_rfl) (by kernel_rfl) (m105 h v0 v1 G r hr)
/-- (*coxswain/claim.seeker[coxswain/claim.taking]).item -/
noncomputable def s106 (q : Bool) (e : Ex) (v0 : Value) (G : GS) : Option (Value × GS) :=
  bS (al Q q 58 z58 G) fun x0 G1 =>
  bP (pNil v0) fun x2 =>
  bP (fa Q q 82 8 24 x2) fun x3 =>
  bP (ld Q q 4 x3 G1) fun x4 =>
  bP (un Q q .not x4) fun x5 =>
  ifV x5 (
  bP (bd Q q 58 z58 [] []) fun x6 =>
  bP (st Q q 58 2 x0 x6 G1) fun G7 =>
  bP (lda Q q 58 2 x0 G7) fun x8 =>
  some (.tuple #[x8, (.int .i64 1)], G7)) (
  bP (pNil v0) fun x9 =>
  bP (fa Q q 82 2 17 x9) fun x10 =>
  bP (ld Q q 3 x10 G1) fun x11 =>
  bP (bn Q q .neq 3 (.tmp 15) (.const (.int .i64 99)) x11 (.int .i64 99)) fun x12 =>
  ifV x12 (
  bP (bd Q q 58 z58 [] []) fun x13 =>
  bP (st Q q 58 2 x0 x13 G1) fun G14 =>
  bP (lda Q q 58 2 x0 G14) fun x15 =>
  some (.tuple #[x15, (.int .i64 14)], G14)) (
  bP (pNil v0) fun x16 =>
  bP (fa Q q 82 9 25 x16) fun x17 =>
  bP (ld Q q 28 x17 G1) fun x18 =>
  bP (bn Q q .neq 28 (.tmp 22) (.const (.int .i64 0)) x18 (.int .i64 0)) fun x19 =>
  ifV x19 (
  bP (bd Q q 58 z58 [] []) fun x20 =>
  bP (pNil v0) fun x21 =>
  bP (fa Q q 82 9 25 x21) fun x22 =>
  bP (ld Q q 28 x22 (G1.room 7)) fun x23 =>
  bP (st Q q 58 2 x0 x20 (G1.room 7)) fun G24 =>
  chk ((sameO (ld Q q 28 x22 G24) x23 && true)) <|
  bP (lda Q q 58 2 x0 G24) fun x25 =>
  some (.tuple #[x25, x23], G24)) (
  bP (pNil v0) fun x26 =>
  bP (fa Q q 82 6 21 x26) fun x27 =>
  bP (lda Q q 58 2 x27 G1) fun x28 =>
  bP (st Q q 58 2 x0 x28 G1) fun G29 =>
  bP (lda Q q 58 2 x0 G29) fun x30 =>
  some (.tuple #[x30, (.int .i64 0)], G29))))
theorem m106 {e : Ex} {E : Ev} (h : ExLe Q e E) (v0 : Value) (G : GS) : Ref (s106 true e v0 G) (s106 false (Ex.of E) v0 G) := by
  unfold s106
  exact Ref.go
theorem f106 {orc : FuncId → Bool} {e : Ex} (h : ExLe Q e (E orc)) (v0 : Value) (G : GS) : Ref (s106 true e v0 G) ((E orc).cl 106 [v0] G) :=
  fun r hr => cl_sxE_some Q orc (vs := [v0]) G Tryz.func106 (by kernel_rfl) (by kernel_rfl) (by kernel_rfl) (by kernel_rfl) (by kernel_rfl) (m106 h v0 G r hr)
/-- (*coxswain/claim.seeker[struct{}]).item -/
noncomputable def s107 (q : Bool) (e : Ex) (v0 : Value) (G : GS) : Option (Value × GS) :=
  bS (al Q q 58 z58 G) fun x0 G1 =>
  bP (pNil v0) fun x2 =>
  bP (fa Q q 88 8 20 x2) fun x3 =>
  bP (ld Q q 4 x3 G1) fun x4 =>
  bP (un Q q .not x4) fun x5 =>
  ifV x5 (
  bP (bd Q q 58 z58 [] []) fun x6 =>
  bP (st Q q 58 2 x0 x6 G1) fun G7 =>
  bP (lda Q q 58 2 x0 G7) fun x8 =>
  some (.tuple #[x8, (.int .i64 1)], G7)) (
  bP (pNil v0) fun x9 =>
  bP (fa Q q 88 2 13 x9) fun x10 =>
  bP (ld Q q 3 x10 G1) fun x11 =>
  bP (bn Q q .neq 3 (.tmp 15) (.const (.int .i64 99)) x11 (.int .i64 99)) fun x12 =>
  ifV x12 (
  bP (bd Q q 58 z58 [] []) fun x13 =>
  bP (st Q q 58 2 x0 x13 G1) fun G14 =>
  bP (lda Q q 58 2 x0 G14) fun x15 =>
  some (.tuple #[x15, (.int .i64 14)], G14)) (
  bP (pNil v0) fun x16 =>
  bP (fa Q q 88 9 21 x16) fun x17 =>
  bP (ld Q q 28 x17 G1) fun x18 =>
  bP (bn Q q .neq 28 (.tmp 22) (.const (.int .i64 0)) x18 (.int .i64 0)) fun x19 =>
  ifV x19 (
  bP (bd Q q 58 z58 [] []) fun x20 =>
  bP (pNil v0) fun x21 =>
  bP (fa Q q 88 9 21 x21) fun x22 =>
  bP (ld Q q 28 x22 (G1.room 7)) fun x23 =>
  bP (st Q q 58 2 x0 x20 (G1.room 7)) fun G24 =>
  chk ((sameO (ld Q q 28 x22 G24) x23 && true)) <|
  bP (lda Q q 58 2 x0 G24) fun x25 =>
  some (.tuple #[x25, x23], G24)) (
  bP (pNil v0) fun x26 =>
  bP (fa Q q 88 6 17 x26) fun x27 =>
  bP (lda Q q 58 2 x27 G1) fun x28 =>
  bP (st Q q 58 2 x0 x28 G1) fun G29 =>
  bP (lda Q q 58 2 x0 G29) fun x30 =>
  some (.tuple #[x30, (.int .i64 0)], G29))))
theorem m107 {e : Ex} {E : Ev} (h : ExLe Q e E) (v0 : Value) (G : GS) : Ref (s107 true e v0 G) (s107 false (Ex.of E) v0 G) := by
  unfold s107
  exact Ref.go
theorem f107 {orc : FuncId → Bool} {e : Ex} (h : ExLe Q e (E orc)) (v0 : Value) (G : GS) : Ref (s107 true e v0 G) ((E orc).cl 107 [v0] G) :=
  fun r hr => cl_sxE_some Q orc (vs := [v0]) G Tryz.func107 (by kernel_rfl) (by kernel_rfl) (by kernel_rfl) (by kernel_rfl) (by kernel_rfl) (m107 h v0 G r hr)
/-- coxswain/coxswainlaw18.waits -/
noncomputable def s108 (q : Bool) (e : Ex) (v0 v1 : Value) (G : GS) : Option (Value × GS) :=
  bS (bx q v0 G) fun x0 G1 =>
  bP (fa Q q 67 3 3 x0) fun x2 =>
  bP (fa Q q 65 0 0 x2) fun x3 =>
  bP (fa Q q 25 0 0 x3) fun x4 =>
  bP (lda Q q 23 3 x4 G1) fun x5 =>
  bS (al Q q 23 z23 G1) fun x6 G7 =>
  bP (st Q q 23 3 x6 x5 G7) fun G8 =>
  bP (fa Q q 67 3 3 x0) fun x9 =>
  bP (fa Q q 65 2 9 x9) fun x10 =>
  bP (ld Q q 3 x10 G8) fun x11 =>
  bP (fa Q q 23 0 0 x6) fun x12 =>
  bP (st Q q 3 1 x12 x11 G8) fun G13 =>
  bP (lda Q q 23 3 x6 G13) fun x14 =>
  bS (e.ev.cl 184 [x14, v1] G13) fun x15 G16 =>
  some (x15, G16)
theorem m108 {e : Ex} {E : Ev} (h : ExLe Q e E) (v0 v1 : Value) (G : GS) : Ref (s108 true e v0 v1 G) (s108 false (Ex.of E) v0 v1 G) := by
  unfold s108
  exact Ref.go
theorem f108 {orc : FuncId → Bool} {e : Ex} (h : ExLe Q e (E orc)) (v0 v1 : Value) (G : GS) : Ref (s108 true e v0 v1 G) ((E orc).cl 108 [v0, v1] G) :=
  fun r hr => cl_sxE_some Q orc (vs := [v0, v1]) G Tryz.func108 (by kernel_rfl) (by kernel_rfl) (by kernel_rfl) (by kernel_rfl) (by kernel_rfl) (m108 h v0 v1 G r hr)
/-- (*coxswain/claim.seeker[struct{}]).done -/
noncomputable def s109 (q : Bool) (e : Ex) (v0 : Value) (G : GS) : Option (Value × GS) :=
  bP (pNil v0) fun x0 =>
  bP (fa Q q 88 8 20 x0) fun x1 =>
  bP (ld Q q 4 x1 G) fun x2 =>
  bP (un Q q .not x2) fun x3 =>
  bS (gd x3 false (some (v0, G)) G) fun x4 G5 =>
  bS (gd x3 false (bP (pNil x4) fun y => some (y, G5)) G5) fun x6 G7 =>
  bS (gd x3 false (bP (fa Q q 88 2 13 x6) fun y => some (y, G7)) G7) fun x8 G9 =>
  bS (gd x3 false (bP (ld Q q 3 x8 G9) fun y => some (y, G9)) G9) fun x10 G11 =>
  bS (gd x3 false (bP (bn Q q .eql 3 (.tmp 12) (.const (.int .i64 99)) x10 (.int .i64 99)) fun y => some (y, G11)) G11) fun x12 G13 =>
  bP (pickV x3 (.bool true) x12) fun x14 =>
  some (x14, G13)
theorem m109 {e : Ex} {E : Ev} (h : ExLe Q e E) (v0 : Value) (G : GS) : Ref (s109 true e v0 G) (s109 false (Ex.of E) v0 G) := by
  unfold s109
  exact Ref.go
theorem f109 {orc : FuncId → Bool} {e : Ex} (h : ExLe Q e (E orc)) (v0 : Value) (G : GS) : Ref (s109 true e v0 G) ((E orc).cl 109 [v0] G) :=
  fun r hr => cl_sxE_some Q orc (vs := [v0]) G Tryz.func109 (by kernel_rfl) (by kernel_rfl) (by kernel_rfl) (by kernel_rfl) (by kernel_rfl) (m109 h v0 G r hr)
/-- (*coxswain/claim.seeker[struct{}]).first -/
noncomputable def s110 (q : Bool) (e : Ex) (v0 v1 : Value) (G : GS) : Option (Value × GS) :=
  bP (pNil v0) fun x0 =>
  bP (fa Q q 88 2 13 x0) fun x1 =>
  bP (ld Q q 3 x1 G) fun x2 =>
  bP (bn Q q .eql 3 (.tmp 9) (.const (.int .i64 1)) x2 (.int .i64 1)) fun x3 =>
  ifV x3 (
  bP (pNil v0) fun x4 =>
  bP (fa Q q 88 7 19 x4) fun x5 =>
  bP (st Q q 49 1 x5 (.int .u64 0) G) fun G6 =>
  bP (pNil v0) fun x7 =>
  bP (fa Q q 88 0 0 x7) fun x8 =>
  bP (lda Q q 67 13 x8 G6) fun x9 =>
  bS (e.ev.cl 101 [x9, (.int .i64 (-1)), (.int .i64 0)] G6) fun x10 G11 =>
  bS (e.ev.cl 79 [v1, x10] G11) fun x12 G13 =>
  bP (pNil v0) fun x14 =>
  bP (fa Q q 88 3 14 x14) fun x15 =>
  bP (st Q q 49 1 x15 x12 G13) fun G16 =>
  bP (pNil v0) fun x17 =>
  bP (fa Q q 88 3 14 x17) fun x18 =>
  bP (ld Q q 49 x18 G16) fun x19 =>
  bS (e.ev.cl 172 [x19] G16) fun x20 G21 =>
  bP (pExtract x20 0) fun x22 =>
  bP (pExtract x20 1) fun x23 =>
  bS (al Q q 250 z250 G21) fun x24 G25 =>
  bP (st Q q 250 2 x24 x22 G25) fun G26 =>
  bP (fa Q q 250 0 0 x24) fun x27 =>
  bP (ld Q q 3 x27 G26) fun x28 =>
  bP (pNil v0) fun x29 =>
  bP (fa Q q 88 4 15 x29) fun x30 =>
  bP (st Q q 3 1 x30 x28 G26) fun G31 =>
  bP (pNil v0) fun x32 =>
  bP (fa Q q 88 2 13 x32) fun x33 =>
  bP (st Q q 3 1 x33 (.int .i64 2) G31) fun G34 =>
  bP (pNil v0) fun x35 =>
  bP (fa Q q 88 4 15 x35) fun x36 =>
  bP (ld Q q 3 x36 (G34.room 20)) fun x37 =>
  bP (bn Q q .lss 3 (.tmp 44) (.const (.int .i64 0)) x37 (.int .i64 0)) fun x38 =>
  bS (gd x38 false (some (v0, (G34.room 20))) (G34.room 20)) fun x39 _ =>
  bS (gd x38 false (bP (pNil x39) fun y => some (y, (G34.room 20))) (G34.room 20)) fun x40 _ =>
  bS (gd x38 false (bP (fa Q q 88 4 15 x40) fun y => some (y, (G34.room 20))) (G34.room 20)) fun x41 _ =>
  bS (gd x38 false (bP (ld Q q 3 x41 (G34.room 20)) fun y => some (y, (G34.room 20))) (G34.room 20)) fun x42 _ =>
  bS (gd x38 false (some (v0, (G34.room 20))) (G34.room 20)) fun x43 _ =>
  bS (gd x38 false (bP (pNil x43) fun y => some (y, (G34.room 20))) (G34.room 20)) fun x44 _ =>
  bS (gd x38 false (bP (fa Q q 88 0 0 x44) fun y => some (y, (G34.room 20))) (G34.room 20)) fun x45 _ =>
  bS (gd x38 false (bP (fa Q q 67 3 3 x45) fun y => some (y, (G34.room 20))) (G34.room 20)) fun x46 _ =>
  bS (gd x38 false (bP (fa Q q 65 0 0 x46) fun y => some (y, (G34.room 20))) (G34.room 20)) fun x47 _ =>
  bS (gd x38 false (bP (fa Q q 25 0 0 x47) fun y => some (y, (G34.room 20))) (G34.room 20)) fun x48 _ =>
  bS (gd x38 false (bP (fa Q q 23 2 2 x48) fun y => some (y, (G34.room 20))) (G34.room 20)) fun x49 _ =>
  bS (gd x38 false (bP (ld Q q 3 x49 (G34.room 20)) fun y => some (y, (G34.room 20))) (G34.room 20)) fun x50 _ =>
  bS (gd x38 false (bP (bn Q q .geq 3 (.tmp 50) (.tmp 58) x42 x50) fun y => some (y, (G34.room 20))) (G34.room 20)) fun x51 _ =>
  bP (pickV x38 (.bool true) x51) fun x52 =>
  ifV x52 (
  bP (pNil v0) fun x53 =>
  bP (fa Q q 88 2 13 x53) fun x54 =>
  bP (st Q q 3 1 x54 (.int .i64 99) (G34.room 20)) fun G55 =>
  bP (pNil v0) fun x56 =>
  bP (fa Q q 88 9 21 x56) fun x57 =>
  bP (st Q q 28 1 x57 (.int .i64 15) G55) fun G58 =>
  some (.tuple #[], G58)) (
  some (.tuple #[], (G34.room 20)))) (
  bP (bn Q q .eql 3 (.tmp 9) (.const (.int .i64 2)) x2 (.int .i64 2)) fun x59 =>
  ifV x59 (
  bS (e.ev.cl 111 [v0, v1, (.int .i64 4)] G) fun x60 G61 =>
  bP (pNil v0) fun x62 =>
  bP (fa Q q 88 5 16 x62) fun x63 =>
  bP (st Q q 80 1 x63 x60 G61) fun G64 =>
  bP (pNil v0) fun x65 =>
  bP (fa Q q 88 2 13 x65) fun x66 =>
  bP (st Q q 3 1 x66 (.int .i64 4) G64) fun G67 =>
  bP (pNil v0) fun x68 =>
  bP (fa Q q 88 5 16 x68) fun x69 =>
  bP (ld Q q 80 x69 G67) fun x70 =>
  bS (e.ev.cl 99 [x70] G67) fun x71 G72 =>
  ifV x71 (
  bP (pNil v0) fun x73 =>
  bP (fa Q q 88 2 13 x73) fun x74 =>
  bP (st Q q 3 1 x74 (.int .i64 3) G72) fun G75 =>
  some (.tuple #[], G75)) (
  some (.tuple #[], G72))) (
  bP (bn Q q .eql 3 (.tmp 9) (.const (.int .i64 3)) x2 (.int .i64 3)) fun x76 =>
  ifV x76 (
  bP (pNil v0) fun x77 =>
  bP (fa Q q 88 7 19 x77) fun x78 =>
  bP (st Q q 49 1 x78 (.int .u64 0) G) fun G79 =>
  bP (pNil v0) fun x80 =>
  bP (fa Q q 88 0 0 x80) fun x81 =>
  bP (lda Q q 67 13 x81 (G79.room 16)) fun x82 =>
  bS (e.ev.cl 101 [x82, (.int .i64 (-1)), (.int .i64 0)] (G79.room 16)) fun x84 G83 =>
  bP (pNil v0) fun x85 =>
  bP (fa Q q 88 3 14 x85) fun x86 =>
  bP (ld Q q 49 x86 G83) fun x87 =>
  chk ((sameO (ld Q q 49 x86 (G79.room 16)) x87 && true)) <|
  bP (pNil v0) fun x88 =>
  bP (fa Q q 88 5 16 x88) fun x89 =>
  bP (ld Q q 80 x89 G83) fun x90 =>
  chk ((sameO (ld Q q 80 x89 (G79.room 16)) x90 && true)) <|
  bS (e.ev.cl 102 [x90, (.bool false)] G83) fun x92 G91 =>
  chk ((sameO (ld Q q 49 x86 G91) x87 && true)) <|
  bS (e.ev.cl 100 [v1, x84, x87, x92] G91) fun x94 G93 =>
  bP (pNil v0) fun x95 =>
  bP (fa Q q 88 2 13 x95) fun x96 =>
  bP (st Q q 3 1 x96 (.int .i64 1) G93) fun G97 =>
  some (.tuple #[], G97)) (
  some (.tuple #[], G))))
theorem m110 {e : Ex} {E : Ev} (h : ExLe Q e E) (v0 v1 : Value) (G : GS) : Ref (s110 true e v0 v1 G) (s110 false (Ex.of E) v0 v1 G) := by
  unfold s110
  exact Ref.go
set_option maxHeartbeats 8000000 in
theorem f110 {orc : FuncId → Bool} {e : Ex} (h : ExLe Q e (E orc)) (v0 v1 : Value) (G : GS) : Ref (s110 true e v0 v1 G) ((E orc).cl 110 [v0, v1] G) :=
  fun r hr => cl_sxE_some Q orc (vs := [v0, v1]) G Tryz.func110 (by kernel_rfl) (by kernel_rfl) (by kernel_rfl) (by kernel_rfl) (by kernel_rfl) (m110 h v0 v1 G r hr)
/-- (*coxswain/claim.seeker[struct{}]).load -/
noncomputable def s111 (q : Bool) (e : Ex) (v0 v1 v2 : Value) (G : GS) : Option (Value × GS) :=
  bP (pNil v0) fun x0 =>
  bP (fa Q q 88 3 14 x0) fun x1 =>
  bP (ld Q q 49 x1 G) fun x2 =>
  bP (pNil v0) fun x3 =>
  bP (fa Q q 88 7 19 x3) fun x4 =>
  bP (st Q q 49 1 x4 x2 G) fun G5 =>
  bP (pNil v0) fun x6 =>
  bP (fa Q q 88 0 0 x6) fun x7 =>
  bP (lda Q q 67 13 x7 (G5.room 13)) fun x8 =>
  bP (pNil v0) fun x9 =>
  bP (fa Q q 88 4 15 x9) fun x10 =>
  bP (ld Q q 3 x10 (G5.room 13)) fun x11 =>
  bS (e.ev.cl 174 [x8, x11, v2] (G5.room 13)) fun x13 G12 =>
  bS (e.ev.cl 79 [v1, x13] G12) fun x15 G14 =>
  some (x15, G14)
theorem m111 {e : Ex} {E : Ev} (h : ExLe Q e E) (v0 v1 v2 : Value) (G : GS) : Ref (s111 true e v0 v1 v2 G) (s111 false (Ex.of E) v0 v1 v2 G) := by
  unfold s111
  exact Ref.go
theorem f111 {orc : FuncId → Bool} {e : Ex} (h : ExLe Q e (E orc)) (v0 v1 v2 : Value) (G : GS) : Ref (s111 true e v0 v1 v2 G) ((E orc).cl 111 [v0, v1, v2] G) :=
  fun r hr => cl_sxE_some Q orc (vs := [v0, v1, v2]) G Tryz.func111 (by kernel_rfl) (by kernel_rfl) (by kernel_rfl) (by kernel_rfl) (by kernel_rfl) (m111 h v0 v1 v2 G r hr)
/-- (*coxswain/claim.seeker[struct{}]).job -/
noncomputable def s112 (q : Bool) (e : Ex) (v0 v1 : Value) (G : GS) : Option (Value × GS) :=
  bS (e.ev.cl 111 [v0, v1, (.int .i64 1)] G) fun x0 G1 =>
  bP (bn Q q .and 49 (.tmp 7) (.const (.int .u64 65535)) x0 (.int .u64 65535)) fun x2 =>
  bP (cv Q q 49 3 .u64 .i64 x2) fun x3 =>
  bP (pNil v0) fun x4 =>
  bP (fa Q q 88 6 17 x4) fun x5 =>
  bP (fa Q q 58 1 1 x5) fun x6 =>
  bP (st Q q 3 1 x6 x3 G1) fun G7 =>
  some (.tuple #[], G7)
theorem m112 {e : Ex} {E : Ev} (h : ExLe Q e E) (v0 v1 : Value) (G : GS) : Ref (s112 true e v0 v1 G) (s112 false (Ex.of E) v0 v1 G) := by
  unfold s112
  exact Ref.go
theorem f112 {orc : FuncId → Bool} {e : Ex} (h : ExLe Q e (E orc)) (v0 v1 : Value) (G : GS) : Ref (s112 true e v0 v1 G) ((E orc).cl 112 [v0, v1] G) :=
  fun r hr => cl_sxE_some Q orc (vs := [v0, v1]) G Tryz.func112 (by kernel_rfl) (by kernel_rfl) (by kernel_rfl) (by kernel_rfl) (by kernel_rfl) (m112 h v0 v1 G r hr)
/-- coxswain/claim.seek[struct{}] -/
noncomputable def s113 (q : Bool) (e : Ex) (v0 : Value) (G : GS) : Option (Value × GS) :=
  bS (bx q v0 G) fun x0 G1 =>
  bS (al Q q 88 z88 G1) fun x2 G3 =>
  bP (lda Q q 67 13 x0 G3) fun x4 =>
  bS (e.ev.cl 101 [x4, (.int .i64 (-1)), (.int .i64 0)] G3) fun x5 G6 =>
  bP (bn Q q .lss 3 (.tmp 4) (.const (.int .i64 0)) x5 (.int .i64 0)) fun x7 =>
  ifV x7 (
  bP (bd Q q 88 z88 [(8, 20, 1), (2, 13, 1), (9, 21, 1)] [(.bool true), (.int .i64 99), (.int .i64 2)]) fun x8 =>
  bP (st Q q 88 22 x2 x8 G6) fun G9 =>
  bP (lda Q q 88 22 x2 G9) fun x10 =>
  some (x10, G9)) (
  bP (lda Q q 67 13 x0 G6) fun x11 =>
  bP (bd Q q 88 z88 [(0, 0, 13), (8, 20, 1), (2, 13, 1)] [x11, (.bool true), (.int .i64 1)]) fun x12 =>
  bP (st Q q 88 22 x2 x12 G6) fun G13 =>
  bP (lda Q q 88 22 x2 G13) fun x14 =>
  some (x14, G13))
theorem m113 {e : Ex} {E : Ev} (h : ExLe Q e E) (v0 : Value) (G : GS) : Ref (s113 true e v0 G) (s113 false (Ex.of E) v0 G) := by
  unfold s113
  exact Ref.go
theorem f113 {orc : FuncId → Bool} {e : Ex} (h : ExLe Q e (E orc)) (v0 : Value) (G : GS) : Ref (s113 true e v0 G) ((E orc).cl 113 [v0] G) :=
  fun r hr => cl_sxE_some Q orc (vs := [v0]) G Tryz.func113 (by kernel_rfl) (by kernel_rfl) (by kernel_rfl) (by kernel_rfl) (by kernel_rfl) (m113 h v0 G r hr)
/-- (*coxswain/cells.Mem).cell -/
noncomputable def s118 (q : Bool) (e : Ex) (v0 v1 : Value) (G : GS) : Option (Value × GS) :=
  bP (ep Q q false 31 (.tmp 5) (.const (.pointer none)) v0 (.pointer none)) fun x0 =>
  bS (gd x0 false (some (v0, G)) G) fun x1 G2 =>
  bS (gd x0 false (bP (pNil x1) fun y => some (y, G2)) G2) fun x3 G4 =>
  bS (gd x0 false (bP (fa Q q 169 0 0 x3) fun y => some (y, G4)) G4) fun x5 G6 =>
  bS (gd x0 false (bP (ld Q q 167 x5 G6) fun y => some (y, G6)) G6) fun x7 G8 =>
  bS (gd x0 false (bP (ep Q q false 167 (.tmp 11) (.const (.pointer none)) x7 (.pointer none)) fun y => some (y, G8)) G8) fun x9 G10 =>
  bP (pickV x0 (.bool true) x9) fun x11 =>
  bS (gd x11 false (some (v1, G10)) G10) fun x12 G13 =>
  bS (gd x11 false (bP (bn Q q .lss 3 (.tmp 15) (.const (.int .i64 0)) x12 (.int .i64 0)) fun y => some (y, G13)) G13) fun x14 G15 =>
  bP (pickV x11 (.bool true) x14) fun x16 =>
  bS (gd x16 false (some (v1, G15)) G15) fun x17 G18 =>
  bS (gd x16 false (some (v0, G18)) G18) fun x19 G20 =>
  bS (gd x16 false (bP (pNil x19) fun y => some (y, G20)) G20) fun x21 G22 =>
  bS (gd x16 false (bP (fa Q q 169 1 1 x21) fun y => some (y, G22)) G22) fun x23 G24 =>
  bS (gd x16 false (bP (ld Q q 3 x23 G24) fun y => some (y, G24)) G24) fun x25 G26 =>
  bS (gd x16 false (bP (bn Q q .geq 3 (.tmp 19) (.tmp 23) x17 x25) fun y => some (y, G26)) G26) fun x27 G28 =>
  bP (pickV x16 (.bool true) x27) fun x29 =>
  ifV x29 (
  some ((.pointer none), G28)) (
  bP (pNil v0) fun x30 =>
  bP (fa Q q 169 0 0 x30) fun x31 =>
  bP (ld Q q 167 x31 G28) fun x32 =>
  bP (pNil x32) fun x33 =>
  bP (iaa Q q 186 4096 1 x33 v1) fun x34 =>
  some (x34, G28))
theorem m118 {e : Ex} {E : Ev} (h : ExLe Q e E) (v0 v1 : Value) (G : GS) : Ref (s118 true e v0 v1 G) (s118 false (Ex.of E) v0 v1 G) := by
  unfold s118
  exact Ref.go
theorem f118 {orc : FuncId → Bool} {e : Ex} (h : ExLe Q e (E orc)) (v0 v1 : Value) (G : GS) : Ref (s118 true e v0 v1 G) ((E orc).cl 118 [v0, v1] G) :=
  fun r hr => cl_sxE_some Q orc (vs := [v0, v1]) G Tryz.func118 (by kernel_rfl) (by kernel_rfl) (by kernel_rfl) (by kernel_rfl) (by kernel_rfl) (m118 h v0 v1 G r hr)
/-- (*coxswain/cells.Mem).do -/
noncomputable def s119 (q : Bool) (e : Ex) (v0 v1 v2 v3 v4 : Value) (G : GS) : Option (Value × GS) :=
  bS (al Q q 51 z51 G) fun x0 G1 =>
  bP (ep Q q false 31 (.tmp 13) (.const (.pointer none)) v0 (.pointer none)) fun x2 =>
  bS (gd x2 false (some (v0, G1)) G1) fun x3 G4 =>
  bS (gd x2 false (bP (pNil x3) fun y => some (y, G4)) G4) fun x5 G6 =>
  bS (gd x2 false (bP (fa Q q 169 0 0 x5) fun y => some (y, G6)) G6) fun x7 G8 =>
  bS (gd x2 false (bP (ld Q q 167 x7 G8) fun y => some (y, G8)) G8) fun x9 G10 =>
  bS (gd x2 false (bP (ep Q q false 167 (.tmp 19) (.const (.pointer none)) x9 (.pointer none)) fun y => some (y, G10)) G10) fun x11 G12 =>
  bP (pickV x2 (.bool true) x11) fun x13 =>
  ifV x13 (
  bP (bd Q q 51 z51 [] []) fun x14 =>
  bP (st Q q 51 5 x0 x14 G12) fun G15 =>
  bP (lda Q q 51 5 x0 G15) fun x16 =>
  some (x16, G15)) (
  bP (pNil v0) fun x17 =>
  bP (fa Q q 169 3 7 x17) fun x18 =>
  bP (ld Q q 3 x18 G12) fun x19 =>
  bP (bn Q q .add 3 (.tmp 26) (.const (.int .i64 1)) x19 (.int .i64 1)) fun x20 =>
  bP (pNil v0) fun x21 =>
  bP (fa Q q 169 3 7 x21) fun x22 =>
  bP (st Q q 3 1 x22 x20 G12) fun G23 =>
  bP (bd Q q 51 z51 [(0, 0, 1), (1, 1, 1)] [v1, v2]) fun x24 =>
  bP (pNil v0) fun x25 =>
  bP (fa Q q 169 2 2 x25) fun x26 =>
  bP (st Q q 51 5 x26 x24 G23) fun G27 =>
  bS (e.ev.cl 187 [v3] G27) fun x28 G29 =>
  ifV x28 (
  bS (cValue e.ev v4 [] G29) fun x30 G31 =>
  bP (pExtract x30 0) fun x32 =>
  bP (pExtract x30 1) fun x33 =>
  bP (pNil v3) fun x34 =>
  bP (ld Q q 171 x34 G31) fun x35 =>
  bP (pNil v0) fun x36 =>
  bP (fa Q q 169 2 2 x36) fun x37 =>
  bP (fa Q q 51 2 2 x37) fun x38 =>
  bP (st Q q 49 1 x38 x35 G31) fun G39 =>
  bP (pNil v0) fun x40 =>
  bP (fa Q q 169 2 2 x40) fun x41 =>
  bP (fa Q q 51 3 3 x41) fun x42 =>
  bP (st Q q 49 1 x42 x32 G39) fun G43 =>
  bP (pNil v0) fun x44 =>
  bP (fa Q q 169 2 2 x44) fun x45 =>
  bP (fa Q q 51 4 4 x45) fun x46 =>
  bP (st Q q 4 1 x46 x33 G43) fun G47 =>
  bP (pNil v3) fun x48 =>
  bP (st Q q 171 1 x48 x32 G47) fun G49 =>
  bP (pNil v0) fun x50 =>
  bP (fa Q q 169 2 2 x50) fun x51 =>
  bP (lda Q q 51 5 x51 G49) fun x52 =>
  bP (st Q q 51 5 x0 x52 G49) fun G53 =>
  bP (lda Q q 51 5 x0 G53) fun x54 =>
  some (x54, G53)) (
  bP (pNil v0) fun x55 =>
  bP (fa Q q 169 2 2 x55) fun x56 =>
  bP (lda Q q 51 5 x56 G29) fun x57 =>
  bP (st Q q 51 5 x0 x57 G29) fun G58 =>
  bP (lda Q q 51 5 x0 G58) fun x59 =>
  some (x59, G58)))
theorem m119 {e : Ex} {E : Ev} (h : ExLe Q e E) (v0 v1 v2 v3 v4 : Value) (G : GS) : Ref (s119 true e v0 v1 v2 v3 v4 G) (s119 false (Ex.of E) v0 v1 v2 v3 v4 G) := by
  unfold s119
  exact Ref.go
theorem f119 {orc : FuncId → Bool} {e : Ex} (h : ExLe Q e (E orc)) (v0 v1 v2 v3 v4 : Value) (G : GS) : Ref (s119 true e v0 v1 v2 v3 v4 G) ((E orc).cl 119 [v0, v1, v2, v3, v4] G) :=
  fun r hr => cl_sxE_some Q orc (vs := [v0, v1, v2, v3, v4]) G Tryz.func119 (by kernel_rfl) (by kernel_rfl) (by kernel_rfl) (by kernel_rfl) (by kernel_rfl) (m119 h v0 v1 v2 v3 v4 G r hr)
/-- (coxswain/cells.deed).store -/
noncomputable def s120 (q : Bool) (e : Ex) (v0 : Value) (G : GS) : Option (Value × GS) :=
  bS (bx q v0 G) fun x0 G1 =>
  bP (fa Q q 195 1 1 x0) fun x2 =>
  bP (ld Q q 49 x2 G1) fun x3 =>
  some (.tuple #[x3, (.bool true)], G1)
theorem m120 {e : Ex} {E : Ev} (h : ExLe Q e E) (v0 : Value) (G : GS) : Ref (s120 true e v0 G) (s120 false (Ex.of E) v0 G) := by
  unfold s120
  exact Ref.go
theorem f120 {orc : FuncId → Bool} {e : Ex} (h : ExLe Q e (E orc)) (v0 : Value) (G : GS) : Ref (s120 true e v0 G) ((E orc).cl 120 [v0] G) :=
  fun r hr => cl_sxE_some Q orc (vs := [v0]) G Tryz.func120 (by kernel_rfl) (by kernel_rfl) (by kernel_rfl) (by kernel_rfl) (by kernel_rfl) (m120 h v0 G r hr)
/-- coxswain/stack.sized -/
noncomputable def s151 (q : Bool) (e : Ex) (v0 : Value) (G : GS) : Option (Value × GS) :=
  bS (bx q v0 G) fun x0 G1 =>
  bP (fa Q q 23 2 2 x0) fun x2 =>
  bP (ld Q q 3 x2 G1) fun x3 =>
  bP (bn Q q .geq 3 (.tmp 4) (.const (.int .i64 1)) x3 (.int .i64 1)) fun x4 =>
  bS (gd x4 true (bP (fa Q q 23 2 2 x0) fun y => some (y, G1)) G1) fun x5 G6 =>
  bS (gd x4 true (bP (ld Q q 3 x5 G6) fun y => some (y, G6)) G6) fun x7 G8 =>
  bS (gd x4 true (bP (bn Q q .leq 3 (.tmp 8) (.const (.int .i64 4096)) x7 (.int .i64 4096)) fun y => some (y, G8)) G8) fun x9 G10 =>
  bP (pickV x4 x9 (.bool false)) fun x11 =>
  some (x11, G10)
theorem m151 {e : Ex} {E : Ev} (h : ExLe Q e E) (v0 : Value) (G : GS) : Ref (s151 true e v0 G) (s151 false (Ex.of E) v0 G) := by
  unfold s151
  exact Ref.go
theorem f151 {orc : FuncId → Bool} {e : Ex} (h : ExLe Q e (E orc)) (v0 : Value) (G : GS) : Ref (s151 true e v0 G) ((E orc).cl 151 [v0] G) :=
  fun r hr => cl_sxE_some Q orc (vs := [v0]) G Tryz.func151 (by kernel_rfl) (by kernel_rfl) (by kernel_rfl) (by kernel_rfl) (by kernel_rfl) (m151 h v0 G r hr)
/-- coxswain/arena.sized -/
noncomputable def s154 (q : Bool) (e : Ex) (v0 : Value) (G : GS) : Option (Value × GS) :=
  bS (bx q v0 G) fun x0 G1 =>
  bP (fa Q q 25 0 0 x0) fun x2 =>
  bP (fa Q q 23 2 2 x2) fun x3 =>
  bP (ld Q q 3 x3 G1) fun x4 =>
  bP (bn Q q .geq 3 (.tmp 5) (.const (.int .i64 1)) x4 (.int .i64 1)) fun x5 =>
  bS (gd x5 true (bP (fa Q q 25 0 0 x0) fun y => some (y, G1)) G1) fun x6 G7 =>
  bS (gd x5 true (bP (fa Q q 23 2 2 x6) fun y => some (y, G7)) G7) fun x8 G9 =>
  bS (gd x5 true (bP (ld Q q 3 x8 G9) fun y => some (y, G9)) G9) fun x10 G11 =>
  bS (gd x5 true (bP (bn Q q .leq 3 (.tmp 10) (.const (.int .i64 4096)) x10 (.int .i64 4096)) fun y => some (y, G11)) G11) fun x12 G13 =>
  bP (pickV x5 x12 (.bool false)) fun x14 =>
  some (x14, G13)
theorem m154 {e : Ex} {E : Ev} (h : ExLe Q e E) (v0 : Value) (G : GS) : Ref (s154 true e v0 G) (s154 false (Ex.of E) v0 G) := by
  unfold s154
  exact Ref.go
theorem f154 {orc : FuncId → Bool} {e : Ex} (h : ExLe Q e (E orc)) (v0 : Value) (G : GS) : Ref (s154 true e v0 G) ((E orc).cl 154 [v0] G) :=
  fun r hr => cl_sxE_some Q orc (vs := [v0]) G Tryz.func154 (by kernel_rfl) (by kernel_rfl) (by kernel_rfl) (by kernel_rfl) (by kernel_rfl) (m154 h v0 G r hr)
instance ilp155_0 : LpIs Q 155 0 (subAt [1, 1, 1, 1, 0, 0] (bodyOf Tryz.f155)) 34 := ⟨by kernel_rfl, by kernel_rfl⟩
noncomputable def b155_0 (q : Bool) (e : Ex) (lp : Env → GS → Option (Exit × Env × GS)) (τ : Env) (G : GS) : Option (Exit × Env × GS) :=
  bV q (τ 1) fun a1_ =>
  bV q (τ 2) fun a2_ =>
  bV q (τ 15) fun a15_ =>
  bV q (τ 16) fun a16_ =>
  bP (bn Q q .lss 3 (.tmp 16) (.tmp 15) a16_ a15_) fun x0 =>
  ifV x0 (
  bP (bn Q q .add 3 (.tmp 19) (.const (.int .i64 1)) a16_ (.int .i64 1)) fun x1 =>
  bP (fa Q q 23 2 2 a2_) fun x2 =>
  bP (ld Q q 3 x2 G) fun x3 =>
  bP (bn Q q .eql 3 (.tmp 21) (.tmp 23) x1 x3) fun x4 =>
  ifV x4 (
  bP (fa Q q 23 1 1 a2_) fun x5 =>
  bP (ld Q q 3 x5 (G.room 8)) fun x6 =>
  bP (bn Q q .add 3 (.tmp 27) (.tmp 28) x6 a16_) fun x7 =>
  bS (e.ev.cl 225 [(.int .i64 (-1))] (G.room 8)) fun x9 G8 =>
  chk ((sameO (ld Q q 3 x5 G8) x6 && true)) <|
  bS (e.ev.cl 45 [a1_, x7, x9] G8) fun x11 G10 =>
  bP (bn Q q .add 3 (.tmp 16) (.const (.int .i64 1)) a16_ (.int .i64 1)) fun x12 =>
  lp (tu τ [(1, a1_), (2, a2_), (15, a15_), (16, x12), (4, a16_), (5, (.int .i64 (-1))), (17, x0), (18, a16_), (19, a16_), (20, x1), (21, x1), (22, x2), (23, x3), (24, x4), (25, a1_), (26, x5), (27, x6), (28, a16_), (29, x7), (30, (.int .i64 (-1))), (31, x9), (32, x11), (33, x12)]) G10) (
  bP (fa Q q 23 1 1 a2_) fun x13 =>
  bP (ld Q q 3 x13 (G.room 8)) fun x14 =>
  bP (bn Q q .add 3 (.tmp 27) (.tmp 28) x14 a16_) fun x15 =>
  bS (e.ev.cl 225 [x1] (G.room 8)) fun x17 G16 =>
  chk ((sameO (ld Q q 3 x13 G16) x14 && true)) <|
  bS (e.ev.cl 45 [a1_, x15, x17] G16) fun x19 G18 =>
  bP (bn Q q .add 3 (.tmp 16) (.const (.int .i64 1)) a16_ (.int .i64 1)) fun x20 =>
  lp (tu τ [(1, a1_), (2, a2_), (15, a15_), (16, x20), (4, a16_), (5, x1), (17, x0), (18, a16_), (19, a16_), (20, x1), (21, x1), (22, x2), (23, x3), (24, x4), (25, a1_), (26, x13), (27, x14), (28, a16_), (29, x15), (30, x1), (31, x17), (32, x19), (33, x20)]) G18)) (
  some ((.exit 0), clq q 34 (tu τ [(1, a1_), (2, a2_), (15, a15_), (16, a16_), (17, x0)]), G))
theorem mb155_0 {e : Ex} {E : Ev} (h : ExLe Q e E) {lp lp' : Env → GS → Option (Exit × Env × GS)} (hlp : LpLe lp lp') (τ : Env) (G : GS) : Ref (b155_0 true e lp τ G) (b155_0 false (Ex.of E) lp' τ G) := by
  unfold b155_0
  exact Ref.go
theorem l155_0 {orc : FuncId → Bool} {e : Ex} (h : ExLe Q e (E orc)) (lp : Env → GS → Option (Exit × Env × GS)) (hlp : ∀ τ G, Ref (lp τ G) (mapE ((E orc).lp (subAt [1, 1, 1, 1, 0, 0] (bodyOf Tryz.f155)) (lst 34 τ) G))) (T : List Value) (G : GS) (hT : T.length = 34) : Ref (b155_0 true e lp (nth undef T) G) (mapE ((E orc).lp (subAt [1, 1, 1, 1, 0, 0] (bodyOf Tryz.f155)) T G)) :=
  fun r hr => lp_sxM Q orc G hT (by kernel_rfl) (mb155_0 h ⟨hlp⟩ _ _ r hr)
/-- coxswain/stack.Fill -/
noncomputable def s155 (q : Bool) (e : Ex) (v0 v1 : Value) (G : GS) : Option (Value × GS) :=
  bS (bx q v0 G) fun x0 G1 =>
  bP (lda Q q 23 3 x0 G1) fun x2 =>
  bS (e.ev.cl 151 [x2] G1) fun x3 G4 =>
  bP (un Q q .not x3) fun x5 =>
  ifV x5 (
  some (.tuple #[], G4)) (
  bP (fa Q q 23 0 0 x0) fun x6 =>
  bP (ld Q q 3 x6 (G4.room 5)) fun x7 =>
  bS (e.ev.cl 225 [(.int .i64 0)] (G4.room 5)) fun x9 G8 =>
  chk ((sameO (ld Q q 3 x6 G8) x7 && true)) <|
  bS (e.ev.cl 45 [v1, x7, x9] G8) fun x11 G10 =>
  bP (fa Q q 23 2 2 x0) fun x12 =>
  bP (ld Q q 3 x12 G10) fun x13 =>
  bL q e 155 0 (subAt [1, 1, 1, 1, 0, 0] (bodyOf Tryz.f155)) 34 (tu (nth undef [v0, v1]) [(2, x0), (6, x2), (7, x3), (8, x5), (9, v1), (10, x6), (11, x7), (12, x9), (13, x11), (14, x12), (15, x13), (16, (.int .i64 0))]) G10 fun e14 t15 G16 =>
  ifE e14 (.exit 0) (
  some (.tuple #[], G16)) (none))
theorem m155 {e : Ex} {E : Ev} (h : ExLe Q e E) (v0 v1 : Value) (G : GS) : Ref (s155 true e v0 v1 G) (s155 false (Ex.of E) v0 v1 G) := by
  unfold s155
  exact Ref.go
theorem f155 {orc : FuncId → Bool} {e : Ex} (h : ExLe Q e (E orc)) (v0 v1 : Value) (G : GS) : Ref (s155 true e v0 v1 G) ((E orc).cl 155 [v0, v1] G) :=
  fun r hr => cl_sxE_some Q orc (vs := [v0, v1]) G Tryz.func155 (by kernel_rfl) (by kernel_rfl) (by kernel_rfl) (by kernel_rfl) (by kernel_rfl) (m155 h v0 v1 G r hr)
/-- (coxswain/cells.deed).load -/
noncomputable def s158 (q : Bool) (e : Ex) (v0 : Value) (G : GS) : Option (Value × GS) :=
  bS (bx q v0 G) fun x0 G1 =>
  bP (fa Q q 195 0 0 x0) fun x2 =>
  bP (ld Q q 192 x2 G1) fun x3 =>
  bP (pNil x3) fun x4 =>
  bP (ld Q q 171 x4 G1) fun x5 =>
  some (.tuple #[x5, (.bool false)], G1)
theorem m158 {e : Ex} {E : Ev} (h : ExLe Q e E) (v0 : Value) (G : GS) : Ref (s158 true e v0 G) (s158 false (Ex.of E) v0 G) := by
  unfold s158
  exact Ref.go
theorem f158 {orc : FuncId → Bool} {e : Ex} (h : ExLe Q e (E orc)) (v0 : Value) (G : GS) : Ref (s158 true e v0 G) ((E orc).cl 158 [v0] G) :=
  fun r hr => cl_sxE_some Q orc (vs := [v0]) G Tryz.func158 (by kernel_rfl) (by kernel_rfl) (by kernel_rfl) (by kernel_rfl) (by kernel_rfl) (m158 h v0 G r hr)
/-- coxswain/stack.NewPush -/
noncomputable def s166 (q : Bool) (e : Ex) (v0 v1 : Value) (G : GS) : Option (Value × GS) :=
  bS (bx q v0 G) fun x0 G1 =>
  bP (lda Q q 23 3 x0 G1) fun x2 =>
  bP (bd Q q 304 z304 [(0, 0, 3), (2, 4, 1), (4, 6, 1)] [x2, v1, (.bool true)]) fun x3 =>
  bP (bd Q q 316 z316 [(0, 0, 9), (1, 9, 1)] [x3, (.func (.func 235) #[] #[])]) fun x4 =>
  bS (bx q x4 G1) fun x5 G6 =>
  bP (bn Q q .lss 3 (.tmp 11) (.const (.int .i64 0)) v1 (.int .i64 0)) fun x7 =>
  bS (gd x7 false (some (v1, G6)) G6) fun x8 G9 =>
  bS (gd x7 false (bP (fa Q q 23 2 2 x0) fun y => some (y, G9)) G9) fun x10 G11 =>
  bS (gd x7 false (bP (ld Q q 3 x10 G11) fun y => some (y, G11)) G11) fun x12 G13 =>
  bS (gd x7 false (bP (bn Q q .geq 3 (.tmp 14) (.tmp 16) x8 x12) fun y => some (y, G13)) G13) fun x14 G15 =>
  bP (pickV x7 (.bool true) x14) fun x16 =>
  ifV x16 (
  bP (pNil x5) fun x17 =>
  bP (fa Q q 316 0 0 x17) fun x18 =>
  bS (e.ev.cl 236 [x18, (.int .i64 3)] G15) fun x19 G20 =>
  some (x5, G20)) (
  some (x5, G15))
theorem m166 {e : Ex} {E : Ev} (h : ExLe Q e E) (v0 v1 : Value) (G : GS) : Ref (s166 true e v0 v1 G) (s166 false (Ex.of E) v0 v1 G) := by
  unfold s166
  exact Ref.go
theorem f166 {orc : FuncId → Bool} {e : Ex} (h : ExLe Q e (E orc)) (v0 v1 : Value) (G : GS) : Ref (s166 true e v0 v1 G) ((E orc).cl 166 [v0, v1] G) :=
  fun r hr => cl_sxE_some Q orc (vs := [v0, v1]) G Tryz.func166 (by kernel_rfl) (by kernel_rfl) (by kernel_rfl) (by kernel_rfl) (by kernel_rfl) (m166 h v0 v1 G r hr)
/-- coxswain/tower.sound -/
noncomputable def s169 (q : Bool) (e : Ex) (v0 : Value) (G : GS) : Option (Value × GS) :=
  bS (bx q v0 G) fun x0 G1 =>
  bP (fa Q q 67 3 3 x0) fun x2 =>
  bP (fa Q q 65 0 0 x2) fun x3 =>
  bP (fa Q q 25 0 0 x3) fun x4 =>
  bP (fa Q q 23 2 2 x4) fun x5 =>
  bP (ld Q q 3 x5 G1) fun x6 =>
  bP (fa Q q 67 2 2 x0) fun x7 =>
  bP (ld Q q 3 x7 G1) fun x8 =>
  bP (bn Q q .geq 3 (.tmp 10) (.const (.int .i64 1)) x8 (.int .i64 1)) fun x9 =>
  bS (gd x9 true (bP (fa Q q 67 2 2 x0) fun y => some (y, G1)) G1) fun x10 G11 =>
  bS (gd x9 true (bP (ld Q q 3 x10 G11) fun y => some (y, G11)) G11) fun x12 G13 =>
  bS (gd x9 true (bP (bn Q q .leq 3 (.tmp 14) (.const (.int .i64 4)) x12 (.int .i64 4)) fun y => some (y, G13)) G13) fun x14 G15 =>
  bP (pickV x9 x14 (.bool false)) fun x16 =>
  bS (gd x16 true (some (x6, G15)) G15) fun x17 G18 =>
  bS (gd x16 true (bP (bn Q q .geq 3 (.tmp 18) (.const (.int .i64 1)) x17 (.int .i64 1)) fun y => some (y, G18)) G18) fun x19 G20 =>
  bP (pickV x16 x19 (.bool false)) fun x21 =>
  bS (gd x21 true (some (x6, G20)) G20) fun x22 G23 =>
  bS (gd x21 true (bP (bn Q q .leq 3 (.tmp 22) (.const (.int .i64 128)) x22 (.int .i64 128)) fun y => some (y, G23)) G23) fun x24 G25 =>
  bP (pickV x21 x24 (.bool false)) fun x26 =>
  bS (gd x26 true (bP (fa Q q 67 0 0 x0) fun y => some (y, G25)) G25) fun x27 G28 =>
  bS (gd x26 true (bP (ld Q q 3 x27 G28) fun y => some (y, G28)) G28) fun x29 G30 =>
  bS (gd x26 true (bP (bn Q q .geq 3 (.tmp 27) (.const (.int .i64 0)) x29 (.int .i64 0)) fun y => some (y, G30)) G30) fun x31 G32 =>
  bP (pickV x26 x31 (.bool false)) fun x33 =>
  bS (gd x33 true (bP (fa Q q 67 0 0 x0) fun y => some (y, G32)) G32) fun x34 G35 =>
  bS (gd x33 true (bP (ld Q q 3 x34 G35) fun y => some (y, G35)) G35) fun x36 G37 =>
  bS (gd x33 true (bP (bn Q q .lss 3 (.tmp 32) (.const (.int .i64 4096)) x36 (.int .i64 4096)) fun y => some (y, G37)) G37) fun x38 G39 =>
  bP (pickV x33 x38 (.bool false)) fun x40 =>
  bS (gd x40 true (bP (fa Q q 67 1 1 x0) fun y => some (y, G39)) G39) fun x41 G42 =>
  bS (gd x40 true (bP (ld Q q 3 x41 G42) fun y => some (y, G42)) G42) fun x43 G44 =>
  bS (gd x40 true (bP (bn Q q .geq 3 (.tmp 37) (.const (.int .i64 0)) x43 (.int .i64 0)) fun y => some (y, G44)) G44) fun x45 G46 =>
  bP (pickV x40 x45 (.bool false)) fun x47 =>
  bS (gd x47 true (bP (fa Q q 67 1 1 x0) fun y => some (y, G46)) G46) fun x48 G49 =>
  bS (gd x47 true (bP (ld Q q 3 x48 G49) fun y => some (y, G49)) G49) fun x50 G51 =>
  bS (gd x47 true (bP (bn Q q .lss 3 (.tmp 42) (.const (.int .i64 4096)) x50 (.int .i64 4096)) fun y => some (y, G51)) G51) fun x52 G53 =>
  bP (pickV x47 x52 (.bool false)) fun x54 =>
  some (x54, G53)
theorem m169 {e : Ex} {E : Ev} (h : ExLe Q e E) (v0 : Value) (G : GS) : Ref (s169 true e v0 G) (s169 false (Ex.of E) v0 G) := by
  unfold s169
  exact Ref.go
theorem f169 {orc : FuncId → Bool} {e : Ex} (h : ExLe Q e (E orc)) (v0 : Value) (G : GS) : Ref (s169 true e v0 G) ((E orc).cl 169 [v0] G) :=
  fun r hr => cl_sxE_some Q orc (vs := [v0]) G Tryz.func169 (by kernel_rfl) (by kernel_rfl) (by kernel_rfl) (by kernel_rfl) (by kernel_rfl) (m169 h v0 G r hr)
instance ilp170_0 : LpIs Q 170 0 (subAt [1, 1, 1, 1, 0, 0] (bodyOf Tryz.f170)) 23 := ⟨by kernel_rfl, by kernel_rfl⟩
noncomputable def b170_0 (q : Bool) (e : Ex) (lp : Env → GS → Option (Exit × Env × GS)) (τ : Env) (G : GS) : Option (Exit × Env × GS) :=
  bV q (τ 1) fun a1_ =>
  bV q (τ 2) fun a2_ =>
  bV q (τ 13) fun a13_ =>
  bP (bn Q q .lss 3 (.tmp 13) (.const (.int .i64 3)) a13_ (.int .i64 3)) fun x0 =>
  ifV x0 (
  bP (lda Q q 65 10 a2_ G) fun x1 =>
  bS (e.ev.cl 241 [a13_, x1] G) fun x2 G3 =>
  bP (fd Q q 23 0 0 x2) fun x4 =>
  bS (e.ev.cl 45 [a1_, x4, (.int .u64 0)] G3) fun x5 G6 =>
  bP (bn Q q .add 3 (.tmp 13) (.const (.int .i64 1)) a13_ (.int .i64 1)) fun x7 =>
  lp (tu τ [(1, a1_), (2, a2_), (13, x7), (4, a13_), (14, x0), (15, a13_), (16, a1_), (17, a13_), (18, x1), (19, x2), (20, x4), (21, x5), (22, x7)]) G6) (
  some ((.exit 0), clq q 23 (tu τ [(1, a1_), (2, a2_), (13, a13_), (14, x0)]), G))
theorem mb170_0 {e : Ex} {E : Ev} (h : ExLe Q e E) {lp lp' : Env → GS → Option (Exit × Env × GS)} (hlp : LpLe lp lp') (τ : Env) (G : GS) : Ref (b170_0 true e lp τ G) (b170_0 false (Ex.of E) lp' τ G) := by
  unfold b170_0
  exact Ref.go
theorem l170_0 {orc : FuncId → Bool} {e : Ex} (h : ExLe Q e (E orc)) (lp : Env → GS → Option (Exit × Env × GS)) (hlp : ∀ τ G, Ref (lp τ G) (mapE ((E orc).lp (subAt [1, 1, 1, 1, 0, 0] (bodyOf Tryz.f170)) (lst 23 τ) G))) (T : List Value) (G : GS) (hT : T.length = 23) : Ref (b170_0 true e lp (nth undef T) G) (mapE ((E orc).lp (subAt [1, 1, 1, 1, 0, 0] (bodyOf Tryz.f170)) T G)) :=
  fun r hr => lp_sxM Q orc G hT (by kernel_rfl) (mb170_0 h ⟨hlp⟩ _ _ r hr)
/-- coxswain/limbo.Fill -/
noncomputable def s170 (q : Bool) (e : Ex) (v0 v1 : Value) (G : GS) : Option (Value × GS) :=
  bS (bx q v0 G) fun x0 G1 =>
  bP (fa Q q 65 0 0 x0) fun x2 =>
  bP (lda Q q 25 6 x2 G1) fun x3 =>
  bS (e.ev.cl 73 [x3, v1] G1) fun x4 G5 =>
  bP (fa Q q 65 1 6 x0) fun x6 =>
  bP (lda Q q 63 3 x6 G5) fun x7 =>
  bS (e.ev.cl 240 [x7, v1] G5) fun x8 G9 =>
  bL q e 170 0 (subAt [1, 1, 1, 1, 0, 0] (bodyOf Tryz.f170)) 23 (tu (nth undef [v0, v1]) [(2, x0), (5, x2), (6, x3), (7, v1), (8, x4), (9, x6), (10, x7), (11, v1), (12, x8), (13, (.int .i64 0))]) G9 fun e10 t11 G12 =>
  ifE e10 (.exit 0) (
  some (.tuple #[], G12)) (none)
theorem m170 {e : Ex} {E : Ev} (h : ExLe Q e E) (v0 v1 : Value) (G : GS) : Ref (s170 true e v0 v1 G) (s170 false (Ex.of E) v0 v1 G) := by
  unfold s170
  exact Ref.go
theorem f170 {orc : FuncId → Bool} {e : Ex} (h : ExLe Q e (E orc)) (v0 v1 : Value) (G : GS) : Ref (s170 true e v0 v1 G) ((E orc).cl 170 [v0, v1] G) :=
  fun r hr => cl_sxE_some Q orc (vs := [v0, v1]) G Tryz.func170 (by kernel_rfl) (by kernel_rfl) (by kernel_rfl) (by kernel_rfl) (by kernel_rfl) (m170 h v0 v1 G r hr)
/-- (coxswain/tower.memory).level -/
noncomputable def s171 (q : Bool) (e : Ex) (v0 v1 v2 : Value) (G : GS) : Option (Value × GS) :=
  bS (bx q v0 G) fun x0 G1 =>
  bS (bx q v1 G1) fun x2 G3 =>
  bS (bx q v2 G3) fun x4 G5 =>
  some ((.func (.func 242) #[] #[x2, x0, x4]), G5)
theorem m171 {e : Ex} {E : Ev} (h : ExLe Q e E) (v0 v1 v2 : Value) (G : GS) : Ref (s171 true e v0 v1 v2 G) (s171 false (Ex.of E) v0 v1 v2 G) := by
  unfold s171
  exact Ref.go
theorem f171 {orc : FuncId → Bool} {e : Ex} (h : ExLe Q e (E orc)) (v0 v1 v2 : Value) (G : GS) : Ref (s171 true e v0 v1 v2 G) ((E orc).cl 171 [v0, v1, v2] G) :=
  fun r hr => cl_sxE_some Q orc (vs := [v0, v1, v2]) G Tryz.func171 (by kernel_rfl) (by kernel_rfl) (by kernel_rfl) (by kernel_rfl) (by kernel_rfl) (m171 h v0 v1 v2 G r hr)
/-- coxswain/word.GetTop -/
noncomputable def s172 (q : Bool) (e : Ex) (v0 : Value) (G : GS) : Option (Value × GS) :=
  bS (al Q q 250 z250 G) fun x0 G1 =>
  bS (e.ev.cl 245 [] G1) fun x2 G3 =>
  bS (al Q q 325 z325 G3) fun x4 G5 =>
  bP (st Q q 325 4 x4 x2 G5) fun G6 =>
  bP (iaa Q q 325 2 2 x4 (.int .i64 0)) fun x7 =>
  bP (lda Q q 324 2 x7 (G6.room 12)) fun x8 =>
  bS (e.ev.cl 246 [v0, x8] (G6.room 12)) fun x10 G9 =>
  bP (bn Q q .sub 3 (.tmp 9) (.const (.int .i64 1)) x10 (.int .i64 1)) fun x11 =>
  bP (iaa Q q 325 2 2 x4 (.int .i64 1)) fun x12 =>
  bP (lda Q q 324 2 x12 G9) fun x13 =>
  chk ((sameO (lda Q q 324 2 x12 (G6.room 12)) x13 && true)) <|
  bS (e.ev.cl 246 [v0, x13] G9) fun x15 G14 =>
  bP (bd Q q 250 z250 [(0, 0, 1), (1, 1, 1)] [x11, x15]) fun x16 =>
  bP (st Q q 250 2 x0 x16 G14) fun G17 =>
  bP (lda Q q 250 2 x0 G17) fun x18 =>
  some (.tuple #[x18, (.int .i64 0)], G17)
theorem m172 {e : Ex} {E : Ev} (h : ExLe Q e E) (v0 : Value) (G : GS) : Ref (s172 true e v0 G) (s172 false (Ex.of E) v0 G) := by
  unfold s172
  exact Ref.go
theorem f172 {orc : FuncId → Bool} {e : Ex} (h : ExLe Q e (E orc)) (v0 : Value) (G : GS) : Ref (s172 true e v0 G) ((E orc).cl 172 [v0] G) :=
  fun r hr => cl_sxE_some Q orc (vs := [v0]) G Tryz.func172 (by kernel_rfl) (by kernel_rfl) (by kernel_rfl) (by kernel_rfl) (by kernel_rfl) (m172 h v0 G r hr)
/-- (*coxswain/claim.Claim).below -/
noncomputable def s173 (q : Bool) (e : Ex) (v0 : Value) (G : GS) : Option (Value × GS) :=
  bP (pNil v0) fun x0 =>
  bP (fa Q q 84 0 0 x0) fun x1 =>
  bP (fa Q q 82 1 13 x1) fun x2 =>
  bP (fa Q q 79 0 0 x2) fun x3 =>
  bP (ld Q q 3 x3 G) fun x4 =>
  bP (bn Q q .sub 3 (.tmp 7) (.const (.int .i64 1)) x4 (.int .i64 1)) fun x5 =>
  bP (pNil v0) fun x6 =>
  bP (fa Q q 84 0 0 x6) fun x7 =>
  bP (fa Q q 82 1 13 x7) fun x8 =>
  bP (fa Q q 79 0 0 x8) fun x9 =>
  bP (st Q q 3 1 x9 x5 G) fun G10 =>
  bP (pNil v0) fun x11 =>
  bP (fa Q q 84 0 0 x11) fun x12 =>
  bP (fa Q q 82 2 17 x12) fun x13 =>
  bP (st Q q 3 1 x13 (.int .i64 5) G10) fun G14 =>
  bP (pNil v0) fun x15 =>
  bP (fa Q q 84 0 0 x15) fun x16 =>
  bP (fa Q q 82 1 13 x16) fun x17 =>
  bP (fa Q q 79 0 0 x17) fun x18 =>
  bP (ld Q q 3 x18 G14) fun x19 =>
  bP (bn Q q .lss 3 (.tmp 22) (.const (.int .i64 1)) x19 (.int .i64 1)) fun x20 =>
  ifV x20 (
  bP (pNil v0) fun x21 =>
  bP (fa Q q 84 0 0 x21) fun x22 =>
  bP (fa Q q 82 2 17 x22) fun x23 =>
  bP (st Q q 3 1 x23 (.int .i64 7) G14) fun G24 =>
  some (.tuple #[], G24)) (
  some (.tuple #[], G14))
theorem m173 {e : Ex} {E : Ev} (h : ExLe Q e E) (v0 : Value) (G : GS) : Ref (s173 true e v0 G) (s173 false (Ex.of E) v0 G) := by
  unfold s173
  exact Ref.go
theorem f173 {orc : FuncId → Bool} {e : Ex} (h : ExLe Q e (E orc)) (v0 : Value) (G : GS) : Ref (s173 true e v0 G) ((E orc).cl 173 [v0] G) :=
  fun r hr => cl_sxE_some Q orc (vs := [v0]) G Tryz.func173 (by kernel_rfl) (by kernel_rfl) (by kernel_rfl) (by kernel_rfl) (by kernel_rfl) (m173 h v0 G r hr)
/-- coxswain/tower.At -/
noncomputable def s174 (q : Bool) (e : Ex) (v0 v1 v2 : Value) (G : GS) : Option (Value × GS) :=
  bS (bx q v0 G) fun x0 G1 =>
  bP (lda Q q 67 13 x0 G1) fun x2 =>
  bS (e.ev.cl 169 [x2] G1) fun x3 G4 =>
  bP (un Q q .not x3) fun x5 =>
  ifV x5 (
  some ((.int .i64 (-1)), G4)) (
  bP (bn Q q .neq 3 (.tmp 12) (.const (.int .i64 (-1))) v1 (.int .i64 (-1))) fun x6 =>
  ifV x6 (
  bP (lda Q q 67 13 x0 G4) fun x7 =>
  bS (e.ev.cl 247 [x7] G4) fun x8 G9 =>
  bS (e.ev.cl 248 [x8, v1, v2] G9) fun x10 G11 =>
  some (x10, G11)) (
  bP (bn Q q .lss 3 (.tmp 20) (.const (.int .i64 4)) v2 (.int .i64 4)) fun x12 =>
  bS (gd x12 false (some (v2, G4)) G4) fun x13 G14 =>
  bS (gd x12 false (bP (fa Q q 67 2 2 x0) fun y => some (y, G14)) G14) fun x15 G16 =>
  bS (gd x12 false (bP (ld Q q 3 x15 G16) fun y => some (y, G16)) G16) fun x17 G18 =>
  bS (gd x12 false (bP (bn Q q .add 3 (.const (.int .i64 4)) (.tmp 25) (.int .i64 4) x17) fun y => some (y, G18)) G18) fun x19 G20 =>
  bS (gd x12 false (bP (bn Q q .geq 3 (.tmp 23) (.tmp 26) x13 x19) fun y => some (y, G20)) G20) fun x21 G22 =>
  bP (pickV x12 (.bool true) x21) fun x23 =>
  ifV x23 (
  some ((.int .i64 (-1)), G22)) (
  bP (lda Q q 67 13 x0 G22) fun x24 =>
  bS (e.ev.cl 249 [x24] G22) fun x25 G26 =>
  bP (bn Q q .sub 3 (.tmp 31) (.const (.int .i64 4)) v2 (.int .i64 4)) fun x27 =>
  bS (e.ev.cl 250 [x25, (.int .i64 0), x27] G26) fun x28 G29 =>
  some (x28, G29))))
theorem m174 {e : Ex} {E : Ev} (h : ExLe Q e E) (v0 v1 v2 : Value) (G : GS) : Ref (s174 true e v0 v1 v2 G) (s174 false (Ex.of E) v0 v1 v2 G) := by
  unfold s174
  exact Ref.go
theorem f174 {orc : FuncId → Bool} {e : Ex} (h : ExLe Q e (E orc)) (v0 v1 v2 : Value) (G : GS) : Ref (s174 true e v0 v1 v2 G) ((E orc).cl 174 [v0, v1, v2] G) :=
  fun r hr => cl_sxE_some Q orc (vs := [v0, v1, v2]) G Tryz.func174 (by kernel_rfl) (by kernel_rfl) (by kernel_rfl) (by kernel_rfl) (by kernel_rfl) (m174 h v0 v1 v2 G r hr)
/-- coxswain/word.Marked -/
noncomputable def s175 (q : Bool) (e : Ex) (v0 : Value) (G : GS) : Option (Value × GS) :=
  bP (bn Q q .shr 49 (.tmp 3) (.const (.int .u64 63)) v0 (.int .u64 63)) fun x0 =>
  bP (bn Q q .eql 49 (.tmp 4) (.const (.int .u64 1)) x0 (.int .u64 1)) fun x1 =>
  some (x1, G)
theorem m175 {e : Ex} {E : Ev} (h : ExLe Q e E) (v0 : Value) (G : GS) : Ref (s175 true e v0 G) (s175 false (Ex.of E) v0 G) := by
  unfold s175
  exact Ref.go
theorem f175 {orc : FuncId → Bool} {e : Ex} (h : ExLe Q e (E orc)) (v0 : Value) (G : GS) : Ref (s175 true e v0 G) ((E orc).cl 175 [v0] G) :=
  fun r hr => cl_sxE_some Q orc (vs := [v0]) G Tryz.func175 (by kernel_rfl) (by kernel_rfl) (by kernel_rfl) (by kernel_rfl) (by kernel_rfl) (m175 h v0 G r hr)
/-- (coxswain/cells.deed).swap -/
noncomputable def s176 (q : Bool) (e : Ex) (v0 : Value) (G : GS) : Option (Value × GS) :=
  bS (bx q v0 G) fun x0 G1 =>
  bP (fa Q q 195 0 0 x0) fun x2 =>
  bP (ld Q q 192 x2 (G1.room 7)) fun x3 =>
  bP (pNil x3) fun x4 =>
  bP (ld Q q 171 x4 (G1.room 7)) fun x5 =>
  bP (fa Q q 195 1 1 x0) fun x6 =>
  bP (ld Q q 49 x6 (G1.room 7)) fun x7 =>
  bP (bn Q q .neq 49 (.tmp 7) (.tmp 9) x5 x7) fun x8 =>
  ifV x8 (
  bP (fa Q q 195 0 0 x0) fun x9 =>
  bP (ld Q q 192 x9 (G1.room 7)) fun x10 =>
  bP (pNil x10) fun x11 =>
  bP (ld Q q 171 x11 (G1.room 7)) fun x12 =>
  some (.tuple #[x12, (.bool false)], (G1.room 7))) (
  bP (fa Q q 195 2 2 x0) fun x13 =>
  bP (ld Q q 49 x13 (G1.room 7)) fun x14 =>
  some (.tuple #[x14, (.bool true)], (G1.room 7)))
theorem m176 {e : Ex} {E : Ev} (h : ExLe Q e E) (v0 : Value) (G : GS) : Ref (s176 true e v0 G) (s176 false (Ex.of E) v0 G) := by
  unfold s176
  exact Ref.go
theorem f176 {orc : FuncId → Bool} {e : Ex} (h : ExLe Q e (E orc)) (v0 : Value) (G : GS) : Ref (s176 true e v0 G) ((E orc).cl 176 [v0] G) :=
  fun r hr => cl_sxE_some Q orc (vs := [v0]) G Tryz.func176 (by kernel_rfl) (by kernel_rfl) (by kernel_rfl) (by kernel_rfl) (by kernel_rfl) (m176 h v0 G r hr)
/-- coxswain/word.Marks -/
noncomputable def s177 (q : Bool) (e : Ex) (v0 v1 : Value) (G : GS) : Option (Value × GS) :=
  ifV v1 (
  bP (bn Q q .or 49 (.tmp 6) (.const (.int .u64 9223372036854775808)) v0 (.int .u64 9223372036854775808)) fun x0 =>
  some (x0, G)) (
  bP (bn Q q .andNot 49 (.tmp 8) (.const (.int .u64 9223372036854775808)) v0 (.int .u64 9223372036854775808)) fun x1 =>
  some (x1, G))
theorem m177 {e : Ex} {E : Ev} (h : ExLe Q e E) (v0 v1 : Value) (G : GS) : Ref (s177 true e v0 v1 G) (s177 false (Ex.of E) v0 v1 G) := by
  unfold s177
  exact Ref.go
theorem f177 {orc : FuncId → Bool} {e : Ex} (h : ExLe Q e (E orc)) (v0 v1 : Value) (G : GS) : Ref (s177 true e v0 v1 G) ((E orc).cl 177 [v0, v1] G) :=
  fun r hr => cl_sxE_some Q orc (vs := [v0, v1]) G Tryz.func177 (by kernel_rfl) (by kernel_rfl) (by kernel_rfl) (by kernel_rfl) (by kernel_rfl) (m177 h v0 v1 G r hr)
/-- (*coxswain/find.Find).anew -/
noncomputable def s178 (q : Bool) (e : Ex) (v0 : Value) (G : GS) : Option (Value × GS) :=
  bP (pNil v0) fun x0 =>
  bP (fa Q q 259 0 0 x0) fun x1 =>
  bP (fa Q q 67 2 2 x1) fun x2 =>
  bP (ld Q q 3 x2 G) fun x3 =>
  bP (bn Q q .sub 3 (.tmp 7) (.const (.int .i64 1)) x3 (.int .i64 1)) fun x4 =>
  bS (e.ev.cl 251 [v0, x4] G) fun x5 G6 =>
  some (.tuple #[], G6)
theorem m178 {e : Ex} {E : Ev} (h : ExLe Q e E) (v0 : Value) (G : GS) : Ref (s178 true e v0 G) (s178 false (Ex.of E) v0 G) := by
  unfold s178
  exact Ref.go
theorem f178 {orc : FuncId → Bool} {e : Ex} (h : ExLe Q e (E orc)) (v0 : Value) (G : GS) : Ref (s178 true e v0 G) ((E orc).cl 178 [v0] G) :=
  fun r hr => cl_sxE_some Q orc (vs := [v0]) G Tryz.func178 (by kernel_rfl) (by kernel_rfl) (by kernel_rfl) (by kernel_rfl) (by kernel_rfl) (m178 h v0 G r hr)
instance ilp179_0 : LpIs Q 179 0 (subAt [1, 0, 1, 1, 1, 1, 1, 0, 0, 0] (bodyOf Tryz.f179)) 195 := ⟨by kernel_rfl, by kernel_rfl⟩
noncomputable def b179_0 (q : Bool) (e : Ex) (lp : Env → GS → Option (Exit × Env × GS)) (τ : Env) (G : GS) : Option (Exit × Env × GS) :=
  bV q (τ 0) fun a0_ =>
  bV q (τ 1) fun a1_ =>
  bV q (τ 5) fun a5_ =>
  bV q (τ 6) fun a6_ =>
  bP (pNil a0_) fun x0 =>
  bP (fa Q q 259 2 14 x0) fun x1 =>
  bP (ld Q q 3 x1 G) fun x2 =>
  bP (bn Q q .eql 3 (.tmp 56) (.const (.int .i64 1)) x2 (.int .i64 1)) fun x3 =>
  ifV x3 (
  bS (e.ev.cl 79 [a1_, a5_] G) fun x4 G5 =>
  bP (pNil a0_) fun x6 =>
  bP (fa Q q 259 3 15 x6) fun x7 =>
  bP (fa Q q 256 3 3 x7) fun x8 =>
  bP (st Q q 49 1 x8 x4 G5) fun G9 =>
  bP (pNil a0_) fun x10 =>
  bP (fa Q q 259 3 15 x10) fun x11 =>
  bP (fa Q q 256 3 3 x11) fun x12 =>
  bP (ld Q q 49 x12 G9) fun x13 =>
  bS (e.ev.cl 175 [x13] G9) fun x14 G15 =>
  ifV x14 (
  bS (e.ev.cl 178 [a0_] G15) fun x16 G17 =>
  some ((.exit 0), clq q 195 (tu τ [(0, a0_), (1, a1_), (5, a5_), (6, a6_), (53, a0_), (54, x0), (55, x1), (56, x2), (60, x3), (61, x3), (62, a0_), (63, a1_), (64, a5_), (65, x4), (66, x6), (67, x7), (68, x8), (69, a0_), (70, x10), (71, x11), (72, x12), (73, x13), (74, x14), (75, a0_), (76, x16)]), G17)) (
  bS (e.ev.cl 254 [a0_] G15) fun x18 G19 =>
  some ((.exit 0), clq q 195 (tu τ [(0, a0_), (1, a1_), (5, a5_), (6, a6_), (53, a0_), (54, x0), (55, x1), (56, x2), (60, x3), (61, x3), (62, a0_), (63, a1_), (64, a5_), (65, x4), (66, x6), (67, x7), (68, x8), (69, a0_), (70, x10), (71, x11), (72, x12), (73, x13), (74, x14), (188, a0_), (189, x18)]), G19))) (
  bP (bn Q q .eql 3 (.tmp 56) (.const (.int .i64 2)) x2 (.int .i64 2)) fun x20 =>
  ifV x20 (
  bP (pNil a0_) fun x21 =>
  bP (fa Q q 259 3 15 x21) fun x22 =>
  bP (fa Q q 256 3 3 x22) fun x23 =>
  bP (ld Q q 49 x23 G) fun x24 =>
  bP (pNil a0_) fun x25 =>
  bP (fa Q q 259 6 21 x25) fun x26 =>
  bP (st Q q 49 1 x26 x24 G) fun G27 =>
  bP (pNil a0_) fun x28 =>
  bP (fa Q q 259 0 0 x28) fun x29 =>
  bP (lda Q q 67 13 x29 (G27.room 17)) fun x30 =>
  bP (pNil a0_) fun x31 =>
  bP (fa Q q 259 3 15 x31) fun x32 =>
  bP (fa Q q 256 0 0 x32) fun x33 =>
  bP (ld Q q 3 x33 (G27.room 17)) fun x34 =>
  bS (e.ev.cl 101 [x30, a6_, x34] (G27.room 17)) fun x36 G35 =>
  bS (e.ev.cl 79 [a1_, x36] G35) fun x38 G37 =>
  bP (pNil a0_) fun x39 =>
  bP (fa Q q 259 4 19 x39) fun x40 =>
  bP (st Q q 49 1 x40 x38 G37) fun G41 =>
  bP (pNil a0_) fun x42 =>
  bP (fa Q q 259 2 14 x42) fun x43 =>
  bP (st Q q 3 1 x43 (.int .i64 4) G41) fun G44 =>
  bP (pNil a0_) fun x45 =>
  bP (fa Q q 259 4 19 x45) fun x46 =>
  bP (ld Q q 49 x46 G44) fun x47 =>
  bS (e.ev.cl 175 [x47] G44) fun x48 G49 =>
  ifV x48 (
  bP (pNil a0_) fun x50 =>
  bP (fa Q q 259 2 14 x50) fun x51 =>
  bP (st Q q 3 1 x51 (.int .i64 3) G49) fun G52 =>
  some ((.exit 0), clq q 195 (tu τ [(0, a0_), (1, a1_), (5, a5_), (6, a6_), (53, a0_), (54, x0), (55, x1), (56, x2), (60, x3), (61, x3), (77, x20), (78, x20), (79, a0_), (80, a0_), (81, x21), (82, x22), (83, x23), (84, x24), (85, x25), (86, x26), (87, a0_), (88, a1_), (89, a0_), (90, x28), (91, x29), (92, x30), (93, a6_), (94, a0_), (95, x31), (96, x32), (97, x33), (98, x34), (99, x36), (100, x38), (101, x39), (102, x40), (103, a0_), (104, x42), (105, x43), (106, a0_), (107, x45), (108, x46), (109, x47), (110, x48), (111, a0_), (112, x50), (113, x51)]), G52)) (
  some ((.exit 0), clq q 195 (tu τ [(0, a0_), (1, a1_), (5, a5_), (6, a6_), (53, a0_), (54, x0), (55, x1), (56, x2), (60, x3), (61, x3), (77, x20), (78, x20), (79, a0_), (80, a0_), (81, x21), (82, x22), (83, x23), (84, x24), (85, x25), (86, x26), (87, a0_), (88, a1_), (89, a0_), (90, x28), (91, x29), (92, x30), (93, a6_), (94, a0_), (95, x31), (96, x32), (97, x33), (98, x34), (99, x36), (100, x38), (101, x39), (102, x40), (103, a0_), (104, x42), (105, x43), (106, a0_), (107, x45), (108, x46), (109, x47), (110, x48)]), G49))) (
  bP (bn Q q .eql 3 (.tmp 56) (.const (.int .i64 3)) x2 (.int .i64 3)) fun x53 =>
  ifV x53 (
  bP (pNil a0_) fun x54 =>
  bP (fa Q q 259 3 15 x54) fun x55 =>
  bP (fa Q q 256 3 3 x55) fun x56 =>
  bP (ld Q q 49 x56 (G.room 14)) fun x57 =>
  bP (pNil a0_) fun x58 =>
  bP (fa Q q 259 4 19 x58) fun x59 =>
  bP (ld Q q 49 x59 (G.room 14)) fun x60 =>
  bS (e.ev.cl 177 [x60, (.bool false)] (G.room 14)) fun x62 G61 =>
  chk ((sameO (ld Q q 49 x56 G61) x57 && true)) <|
  bS (e.ev.cl 100 [a1_, a5_, x57, x62] G61) fun x64 G63 =>
  bP (un Q q .not x64) fun x65 =>
  ifV x65 (
  bS (e.ev.cl 178 [a0_] G63) fun x66 G67 =>
  some ((.exit 0), clq q 195 (tu τ [(0, a0_), (1, a1_), (5, a5_), (6, a6_), (53, a0_), (54, x0), (55, x1), (56, x2), (60, x3), (61, x3), (77, x20), (78, x20), (114, x53), (115, x53), (116, a1_), (117, a5_), (118, a0_), (119, x54), (120, x55), (121, x56), (122, x57), (123, a0_), (124, x58), (125, x59), (126, x60), (127, x62), (128, x64), (129, x65), (130, a0_), (131, x66)]), G67)) (
  bP (pNil a0_) fun x68 =>
  bP (fa Q q 259 4 19 x68) fun x69 =>
  bP (ld Q q 49 x69 G63) fun x70 =>
  bS (e.ev.cl 177 [x70, (.bool false)] G63) fun x71 G72 =>
  bP (pNil a0_) fun x73 =>
  bP (fa Q q 259 3 15 x73) fun x74 =>
  bP (fa Q q 256 3 3 x74) fun x75 =>
  bP (st Q q 49 1 x75 x71 G72) fun G76 =>
  bS (e.ev.cl 254 [a0_] G76) fun x77 G78 =>
  some ((.exit 0), clq q 195 (tu τ [(0, a0_), (1, a1_), (5, a5_), (6, a6_), (53, a0_), (54, x0), (55, x1), (56, x2), (60, x3), (61, x3), (77, x20), (78, x20), (114, x53), (115, x53), (116, a1_), (117, a5_), (118, a0_), (119, x54), (120, x55), (121, x56), (122, x57), (123, a0_), (124, x58), (125, x59), (126, x60), (127, x62), (128, x64), (129, x65), (132, a0_), (133, a0_), (134, x68), (135, x69), (136, x70), (137, x71), (138, x73), (139, x74), (140, x75), (188, a0_), (189, x77)]), G78))) (
  bP (bn Q q .eql 3 (.tmp 56) (.const (.int .i64 4)) x2 (.int .i64 4)) fun x79 =>
  ifV x79 (
  bP (pNil a0_) fun x80 =>
  bP (fa Q q 259 3 15 x80) fun x81 =>
  bP (fa Q q 256 3 3 x81) fun x82 =>
  bP (ld Q q 49 x82 G) fun x83 =>
  bP (pNil a0_) fun x84 =>
  bP (fa Q q 259 6 21 x84) fun x85 =>
  bP (st Q q 49 1 x85 x83 G) fun G86 =>
  bP (pNil a0_) fun x87 =>
  bP (fa Q q 259 0 0 x87) fun x88 =>
  bP (lda Q q 67 13 x88 (G86.room 13)) fun x89 =>
  bS (e.ev.cl 174 [x89, a6_, (.int .i64 0)] (G86.room 13)) fun x91 G90 =>
  bS (e.ev.cl 79 [a1_, x91] G90) fun x93 G92 =>
  bP (pNil a0_) fun x94 =>
  bP (fa Q q 259 1 13 x94) fun x95 =>
  bP (ld Q q 49 x95 G92) fun x96 =>
  chk ((sameO (ld Q q 49 x95 G90) x96 && (sameO (ld Q q 49 x95 (G86.room 13)) x96 && true))) <|
  bP (bn Q q .geq 49 (.tmp 158) (.tmp 162) x93 x96) fun x97 =>
  ifV x97 (
  bS (e.ev.cl 253 [a0_] G92) fun x98 G99 =>
  some ((.exit 0), clq q 195 (tu τ [(0, a0_), (1, a1_), (5, a5_), (6, a6_), (53, a0_), (54, x0), (55, x1), (56, x2), (60, x3), (61, x3), (77, x20), (78, x20), (114, x53), (115, x53), (141, x79), (142, x79), (143, a0_), (144, a0_), (145, x80), (146, x81), (147, x82), (148, x83), (149, x84), (150, x85), (151, a1_), (152, a0_), (153, x87), (154, x88), (155, x89), (156, a6_), (157, x91), (158, x93), (159, a0_), (160, x94), (161, x95), (162, x96), (163, x97), (164, a0_), (165, x98)]), G99)) (
  bP (pNil a0_) fun x100 =>
  bP (fa Q q 259 3 15 x100) fun x101 =>
  bP (fa Q q 256 3 3 x101) fun x102 =>
  bP (ld Q q 49 x102 (G92.room 25)) fun x103 =>
  bP (pNil a0_) fun x104 =>
  bP (fa Q q 259 4 19 x104) fun x105 =>
  bP (ld Q q 49 x105 (G92.room 25)) fun x106 =>
  bP (pNil a0_) fun x107 =>
  bP (fa Q q 259 3 15 x107) fun x108 =>
  bP (fa Q q 256 1 1 x108) fun x109 =>
  bP (st Q q 3 1 x109 a6_ (G92.room 25)) fun G110 =>
  bP (pNil a0_) fun x111 =>
  bP (fa Q q 259 3 15 x111) fun x112 =>
  bP (fa Q q 256 2 2 x112) fun x113 =>
  bP (st Q q 49 1 x113 x103 G110) fun G114 =>
  bP (pNil a0_) fun x115 =>
  bP (fa Q q 259 3 15 x115) fun x116 =>
  bP (fa Q q 256 3 3 x116) fun x117 =>
  bP (st Q q 49 1 x117 x106 G114) fun G118 =>
  bS (e.ev.cl 254 [a0_] G118) fun x119 G120 =>
  some ((.exit 0), clq q 195 (tu τ [(0, a0_), (1, a1_), (5, a5_), (6, a6_), (53, a0_), (54, x0), (55, x1), (56, x2), (60, x3), (61, x3), (77, x20), (78, x20), (114, x53), (115, x53), (141, x79), (142, x79), (143, a0_), (144, a0_), (145, x80), (146, x81), (147, x82), (148, x83), (149, x84), (150, x85), (151, a1_), (152, a0_), (153, x87), (154, x88), (155, x89), (156, a6_), (157, x91), (158, x93), (159, a0_), (160, x94), (161, x95), (162, x96), (163, x97), (166, a0_), (167, a0_), (168, a0_), (169, a6_), (170, a0_), (171, x100), (172, x101), (173, x102), (174, x103), (175, a0_), (176, x104), (177, x105), (178, x106), (179, x107), (180, x108), (181, x109), (182, x111), (183, x112), (184, x113), (185, x115), (186, x116), (187, x117), (188, a0_), (189, x119)]), G120))) (
  bP (pNil a0_) fun x121 =>
  bP (fa Q q 259 2 14 x121) fun x122 =>
  bP (st Q q 3 1 x122 (.int .i64 1) G) fun G123 =>
  lp (tu τ [(0, a0_), (1, a1_), (5, a5_), (6, a6_), (53, a0_), (54, x0), (55, x1), (56, x2), (57, a0_), (58, x121), (59, x122), (60, x3), (61, x3), (77, x20), (78, x20), (114, x53), (115, x53), (141, x79), (142, x79)]) G123))))
theorem mb179_0 {e : Ex} {E : Ev} (h : ExLe Q e E) {lp lp' : Env → GS → Option (Exit × Env × GS)} (hlp : LpLe lp lp') (τ : Env) (G : GS) : Ref (b179_0 true e lp τ G) (b179_0 false (Ex.of E) lp' τ G) := by
  unfold b179_0
  exact Ref.go
set_option maxHeartbeats 8000000 in
theorem l179_0 {orc : FuncId → Bool} {e : Ex} (h : ExLe Q e (E orc)) (lp : Env → GS → Option (Exit × Env × GS)) (hlp : ∀ τ G, Ref (lp τ G) (mapE ((E orc).lp (subAt [1, 0, 1, 1, 1, 1, 1, 0, 0, 0] (bodyOf Tryz.f179)) (lst 195 τ) G))) (T : List Value) (G : GS) (hT : T.length = 195) : Ref (b179_0 true e lp (nth undef T) G) (mapE ((E orc).lp (subAt [1, 0, 1, 1, 1, 1, 1, 0, 0, 0] (bodyOf Tryz.f179)) T G)) :=
  fun r hr => lp_sxM Q orc G hT (by kernel_rfl) (mb179_0 h ⟨hlp⟩ _ _ r hr)
/-- (*coxswain/find.Find).Step -/
noncomputable def s179 (q : Bool) (e : Ex) (v0 v1 : Value) (G : GS) : Option (Value × GS) :=
  bP (ep Q q false 76 (.tmp 7) (.const (.pointer none)) v0 (.pointer none)) fun x0 =>
  bS (gd x0 false (some (v0, G)) G) fun x1 G2 =>
  bS (gd x0 false (bP (pNil x1) fun y => some (y, G2)) G2) fun x3 G4 =>
  bS (gd x0 false (bP (fa Q q 259 7 22 x3) fun y => some (y, G4)) G4) fun x5 G6 =>
  bS (gd x0 false (bP (ld Q q 4 x5 G6) fun y => some (y, G6)) G6) fun x7 G8 =>
  bS (gd x0 false (bP (un Q q .not x7) fun y => some (y, G8)) G8) fun x9 G10 =>
  bP (pickV x0 (.bool true) x9) fun x11 =>
  bS (gd x11 false (some (v0, G10)) G10) fun x12 G13 =>
  bS (gd x11 false (bP (pNil x12) fun y => some (y, G13)) G13) fun x14 G15 =>
  bS (gd x11 false (bP (fa Q q 259 2 14 x14) fun y => some (y, G15)) G15) fun x16 G17 =>
  bS (gd x11 false (bP (ld Q q 3 x16 G17) fun y => some (y, G17)) G17) fun x18 G19 =>
  bS (gd x11 false (bP (bn Q q .eql 3 (.tmp 20) (.const (.int .i64 9)) x18 (.int .i64 9)) fun y => some (y, G19)) G19) fun x20 G21 =>
  bP (pickV x11 (.bool true) x20) fun x22 =>
  ifV x22 (
  some ((.bool true), G21)) (
  bP (pNil v0) fun x23 =>
  bP (fa Q q 259 0 0 x23) fun x24 =>
  bP (lda Q q 67 13 x24 (G21.room 16)) fun x25 =>
  bP (pNil v0) fun x26 =>
  bP (fa Q q 259 3 15 x26) fun x27 =>
  bP (fa Q q 256 1 1 x27) fun x28 =>
  bP (ld Q q 3 x28 (G21.room 16)) fun x29 =>
  bP (pNil v0) fun x30 =>
  bP (fa Q q 259 3 15 x30) fun x31 =>
  bP (fa Q q 256 0 0 x31) fun x32 =>
  bP (ld Q q 3 x32 (G21.room 16)) fun x33 =>
  bS (e.ev.cl 101 [x25, x29, x33] (G21.room 16)) fun x35 G34 =>
  bP (pNil v0) fun x36 =>
  bP (fa Q q 259 3 15 x36) fun x37 =>
  bP (fa Q q 256 3 3 x37) fun x38 =>
  bP (ld Q q 49 x38 G34) fun x39 =>
  bS (e.ev.cl 252 [v0, x39] G34) fun x40 G41 =>
  bP (pNil v0) fun x42 =>
  bP (fa Q q 259 3 15 x42) fun x43 =>
  bP (fa Q q 256 2 2 x43) fun x44 =>
  bP (ld Q q 49 x44 G41) fun x45 =>
  bP (pNil v0) fun x46 =>
  bP (fa Q q 259 6 21 x46) fun x47 =>
  bP (st Q q 49 1 x47 x45 G41) fun G48 =>
  bL q e 179 0 (subAt [1, 0, 1, 1, 1, 1, 1, 0, 0, 0] (bodyOf Tryz.f179)) 195 (tu (nth undef [v0, v1]) [(4, (.bool false)), (5, x35), (6, x40), (7, v0), (8, x0), (9, x0), (10, x1), (11, x3), (12, x5), (13, x7), (14, x9), (15, x11), (16, x11), (17, x12), (18, x14), (19, x16), (20, x18), (21, x20), (22, x22), (23, v0), (24, x23), (25, x24), (26, x25), (27, v0), (28, x26), (29, x27), (30, x28), (31, x29), (32, v0), (33, x30), (34, x31), (35, x32), (36, x33), (37, x35), (38, v0), (39, v0), (40, x36), (41, x37), (42, x38), (43, x39), (44, x40), (45, v0), (46, v0), (47, x42), (48, x43), (49, x44), (50, x45), (51, x46), (52, x47)]) G48 fun e49 t50 G51 =>
  bV q (t50 0) fun t50x0_ =>
  ifE e49 (.exit 0) (
  bP (pNil t50x0_) fun x52 =>
  bP (fa Q q 259 2 14 x52) fun x53 =>
  bP (ld Q q 3 x53 G51) fun x54 =>
  bP (bn Q q .eql 3 (.tmp 193) (.const (.int .i64 9)) x54 (.int .i64 9)) fun x55 =>
  some (x55, G51)) (none))
theorem m179 {e : Ex} {E : Ev} (h : ExLe Q e E) (v0 v1 : Value) (G : GS) : Ref (s179 true e v0 v1 G) (s179 false (Ex.of E) v0 v1 G) := by
  unfold s179
  exact Ref.go
set_option maxHeartbeats 8000000 in
theorem f179 {orc : FuncId → Bool} {e : Ex} (h : ExLe Q e (E orc)) (v0 v1 : Value) (G : GS) : Ref (s179 true e v0 v1 G) ((E orc).cl 179 [v0, v1] G) :=
  fun r hr => cl_sxE_some Q orc (vs := [v0, v1]) G Tryz.func179 (by kernel_rfl) (by kernel_rfl) (by kernel_rfl) (by kernel_rfl) (by kernel_rfl) (m179 h v0 v1 G r hr)
/-- (*coxswain/find.Find).By -/
noncomputable def s180 (q : Bool) (e : Ex) (v0 : Value) (G : GS) : Option (Value × GS) :=
  bP (ep Q q false 76 (.tmp 3) (.const (.pointer none)) v0 (.pointer none)) fun x0 =>
  ifV x0 (
  some ((.int .u64 0), G)) (
  bP (pNil v0) fun x1 =>
  bP (fa Q q 259 6 21 x1) fun x2 =>
  bP (ld Q q 49 x2 G) fun x3 =>
  some (x3, G))
theorem m180 {e : Ex} {E : Ev} (h : ExLe Q e E) (v0 : Value) (G : GS) : Ref (s180 true e v0 G) (s180 false (Ex.of E) v0 G) := by
  unfold s180
  exact Ref.go
theorem f180 {orc : FuncId → Bool} {e : Ex} (h : ExLe Q e (E orc)) (v0 : Value) (G : GS) : Ref (s180 true e v0 G) ((E orc).cl 180 [v0] G) :=
  fun r hr => cl_sxE_some Q orc (vs := [v0]) G Tryz.func180 (by kernel_rfl) (by kernel_rfl) (by kernel_rfl) (by kernel_rfl) (by kernel_rfl) (m180 h v0 G r hr)
/-- (*coxswain/cells.Mem).Add -/
noncomputable def s181 (q : Bool) (e : Ex) (v0 v1 v2 : Value) (G : GS) : Option (Value × GS) :=
  bS (e.ev.cl 118 [v0, v1] G) fun x0 G1 =>
  bP (bd Q q 195 z195 [(0, 0, 1), (1, 1, 1)] [x0, v2]) fun x2 =>
  bS (al Q q 195 z195 G1) fun x3 G4 =>
  bP (st Q q 195 3 x3 x2 G4) fun G5 =>
  bP (fa Q q 195 0 0 x3) fun x6 =>
  bP (ld Q q 192 x6 G5) fun x7 =>
  bP (lda Q q 195 3 x3 G5) fun x8 =>
  bS (e.ev.cl 119 [v0, (.int .i64 4), v1, x7, (.func (.func 255) #[x8] #[])] G5) fun x9 G10 =>
  bP (fd Q q 51 3 3 x9) fun x11 =>
  some (x11, G10)
theorem m181 {e : Ex} {E : Ev} (h : ExLe Q e E) (v0 v1 v2 : Value) (G : GS) : Ref (s181 true e v0 v1 v2 G) (s181 false (Ex.of E) v0 v1 v2 G) := by
  unfold s181
  exact Ref.go
theorem f181 {orc : FuncId → Bool} {e : Ex} (h : ExLe Q e (E orc)) (v0 v1 v2 : Value) (G : GS) : Ref (s181 true e v0 v1 v2 G) ((E orc).cl 181 [v0, v1, v2] G) :=
  fun r hr => cl_sxE_some Q orc (vs := [v0, v1, v2]) G Tryz.func181 (by kernel_rfl) (by kernel_rfl) (by kernel_rfl) (by kernel_rfl) (by kernel_rfl) (m181 h v0 v1 v2 G r hr)
/-- coxswain/limbo.NewRetire -/
noncomputable def s182 (q : Bool) (e : Ex) (v0 v1 : Value) (G : GS) : Option (Value × GS) :=
  bS (bx q v0 G) fun x0 G1 =>
  bP (bd Q q 341 z341 [(1, 1, 1)] [(.bool true)]) fun x2 =>
  bP (lda Q q 65 10 x0 G1) fun x3 =>
  bP (bd Q q 343 z343 [(0, 0, 3), (1, 3, 10), (2, 13, 1)] [x2, x3, v1]) fun x4 =>
  bS (bx q x4 G1) fun x5 G6 =>
  bP (bn Q q .lss 3 (.tmp 11) (.const (.int .i64 0)) v1 (.int .i64 0)) fun x7 =>
  bS (gd x7 false (some (v1, G6)) G6) fun x8 G9 =>
  bS (gd x7 false (bP (fa Q q 65 0 0 x0) fun y => some (y, G9)) G9) fun x10 G11 =>
  bS (gd x7 false (bP (fa Q q 25 0 0 x10) fun y => some (y, G11)) G11) fun x12 G13 =>
  bS (gd x7 false (bP (fa Q q 23 2 2 x12) fun y => some (y, G13)) G13) fun x14 G15 =>
  bS (gd x7 false (bP (ld Q q 3 x14 G15) fun y => some (y, G15)) G15) fun x16 G17 =>
  bS (gd x7 false (bP (bn Q q .geq 3 (.tmp 14) (.tmp 18) x8 x16) fun y => some (y, G17)) G17) fun x18 G19 =>
  bP (pickV x7 (.bool true) x18) fun x20 =>
  ifV x20 (
  bP (pNil x5) fun x21 =>
  bP (fa Q q 343 0 0 x21) fun x22 =>
  bP (fa Q q 341 2 2 x22) fun x23 =>
  bP (st Q q 28 1 x23 (.int .i64 3) G19) fun G24 =>
  some (x5, G24)) (
  bP (pNil x5) fun x25 =>
  bP (fa Q q 343 0 0 x25) fun x26 =>
  bP (fa Q q 341 0 0 x26) fun x27 =>
  bP (st Q q 339 1 x27 (.func (.func 256) #[x5] #[]) G19) fun G28 =>
  some (x5, G28))
theorem m182 {e : Ex} {E : Ev} (h : ExLe Q e E) (v0 v1 : Value) (G : GS) : Ref (s182 true e v0 v1 G) (s182 false (Ex.of E) v0 v1 G) := by
  unfold s182
  exact Ref.go
theorem f182 {orc : FuncId → Bool} {e : Ex} (h : ExLe Q e (E orc)) (v0 v1 : Value) (G : GS) : Ref (s182 true e v0 v1 G) ((E orc).cl 182 [v0, v1] G) :=
  fun r hr => cl_sxE_some Q orc (vs := [v0, v1]) G Tryz.func182 (by kernel_rfl) (by kernel_rfl) (by kernel_rfl) (by kernel_rfl) (by kernel_rfl) (m182 h v0 v1 G r hr)
/-- (*coxswain/limbo.Retire).Step -/
noncomputable def s183 (q : Bool) (e : Ex) (v0 v1 : Value) (G : GS) : Option (Value × GS) :=
  bP (ep Q q false 77 (.tmp 5) (.const (.pointer none)) v0 (.pointer none)) fun x0 =>
  bS (gd x0 false (some (v0, G)) G) fun x1 G2 =>
  bS (gd x0 false (bP (pNil x1) fun y => some (y, G2)) G2) fun x3 G4 =>
  bS (gd x0 false (bP (fa Q q 343 0 0 x3) fun y => some (y, G4)) G4) fun x5 G6 =>
  bS (gd x0 false (some (v1, G6)) G6) fun x7 G8 =>
  bS (gd x0 false (bS (e.ev.cl 257 [x5, x7] G8) fun y G => some (y, G)) G8) fun x9 G10 =>
  bP (pickV x0 (.bool true) x9) fun x11 =>
  some (x11, G10)
theorem m183 {e : Ex} {E : Ev} (h : ExLe Q e E) (v0 v1 : Value) (G : GS) : Ref (s183 true e v0 v1 G) (s183 false (Ex.of E) v0 v1 G) := by
  unfold s183
  exact Ref.go
theorem f183 {orc : FuncId → Bool} {e : Ex} (h : ExLe Q e (E orc)) (v0 v1 : Value) (G : GS) : Ref (s183 true e v0 v1 G) ((E orc).cl 183 [v0, v1] G) :=
  fun r hr => cl_sxE_some Q orc (vs := [v0, v1]) G Tryz.func183 (by kernel_rfl) (by kernel_rfl) (by kernel_rfl) (by kernel_rfl) (by kernel_rfl) (m183 h v0 v1 G r hr)
/-- coxswain/stack.Chain -/
noncomputable def s184 (q : Bool) (e : Ex) (v0 v1 : Value) (G : GS) : Option (Value × GS) :=
  bS (bx q v0 G) fun x0 G1 =>
  bS (al Q q 139 z139 G1) fun x2 G3 =>
  bP (lda Q q 23 3 x0 (G3.room 4)) fun x4 =>
  bS (e.ev.cl 17 [v1] (G3.room 4)) fun x6 G5 =>
  chk ((sameO (lda Q q 23 3 x0 G5) x4 && true)) <|
  bS (e.ev.cl 258 [x4, x6] G5) fun x8 G7 =>
  bX (xRange e.ev x8 #[11] (subAt [1, 1, 0, 1, 0, 0] (bodyOf Tryz.f184)) (subAt [1, 1, 0, 1, 0, 1] (bodyOf Tryz.f184)) (lst 17 (tu (nth undef [v0, v1]) [(2, x0), (4, (.slice none 0 0)), (5, x2), (7, x4), (8, v1), (9, x6), (10, x8)])) G7) fun e9 T10 G11 =>
  bV q (nth undef T10 5) fun T10x5_ =>
  ifE e9 .normal (
  bP (ld Q q 139 T10x5_ G11) fun x12 =>
  some (x12, G11)) (none)
theorem m184 {e : Ex} {E : Ev} (h : ExLe Q e E) (v0 v1 : Value) (G : GS) : Ref (s184 true e v0 v1 G) (s184 false (Ex.of E) v0 v1 G) := by
  unfold s184
  exact Ref.go
theorem f184 {orc : FuncId → Bool} {e : Ex} (h : ExLe Q e (E orc)) (v0 v1 : Value) (G : GS) : Ref (s184 true e v0 v1 G) ((E orc).cl 184 [v0, v1] G) :=
  fun r hr => cl_sxE_some Q orc (vs := [v0, v1]) G Tryz.func184 (by kernel_rfl) (by kernel_rfl) (by kernel_rfl) (by kernel_rfl) (by kernel_rfl) (m184 h v0 v1 G r hr)
/-- (*coxswain/cells.place).is -/
noncomputable def s187 (q : Bool) (e : Ex) (v0 : Value) (G : GS) : Option (Value × GS) :=
  bP (ep Q q true 192 (.tmp 3) (.const (.pointer none)) v0 (.pointer none)) fun x0 =>
  some (x0, G)
theorem m187 {e : Ex} {E : Ev} (h : ExLe Q e E) (v0 : Value) (G : GS) : Ref (s187 true e v0 G) (s187 false (Ex.of E) v0 G) := by
  unfold s187
  exact Ref.go
theorem f187 {orc : FuncId → Bool} {e : Ex} (h : ExLe Q e (E orc)) (v0 : Value) (G : GS) : Ref (s187 true e v0 G) ((E orc).cl 187 [v0] G) :=
  fun r hr => cl_sxE_some Q orc (vs := [v0]) G Tryz.func187 (by kernel_rfl) (by kernel_rfl) (by kernel_rfl) (by kernel_rfl) (by kernel_rfl) (m187 h v0 G r hr)
/-- coxswain/stack.link -/
noncomputable def s225 (q : Bool) (e : Ex) (v0 : Value) (G : GS) : Option (Value × GS) :=
  bP (bd Q q 250 z250 [(0, 0, 1)] [v0]) fun x0 =>
  bS (e.ev.cl 283 [x0] G) fun x1 G2 =>
  bP (pExtract x1 0) fun x3 =>
  bP (pExtract x1 1) fun x4 =>
  some (x3, G2)
theorem m225 {e : Ex} {E : Ev} (h : ExLe Q e E) (v0 : Value) (G : GS) : Ref (s225 true e v0 G) (s225 false (Ex.of E) v0 G) := by
  unfold s225
  exact Ref.go
theorem f225 {orc : FuncId → Bool} {e : Ex} (h : ExLe Q e (E orc)) (v0 : Value) (G : GS) : Ref (s225 true e v0 G) ((E orc).cl 225 [v0] G) :=
  fun r hr => cl_sxE_some Q orc (vs := [v0]) G Tryz.func225 (by kernel_rfl) (by kernel_rfl) (by kernel_rfl) (by kernel_rfl) (by kernel_rfl) (m225 h v0 G r hr)
/-- (*coxswain/stack.Push).first -/
noncomputable def s235 (q : Bool) (e : Ex) (v0 v1 : Value) (G : GS) : Option (Value × GS) :=
  bP (pNil v0) fun x0 =>
  bP (fa Q q 316 0 0 x0) fun x1 =>
  bS (e.ev.cl 285 [x1, v1] G) fun x2 G3 =>
  bP (pNil v0) fun x4 =>
  bP (fa Q q 316 0 0 x4) fun x5 =>
  bP (fa Q q 304 3 5 x5) fun x6 =>
  bP (st Q q 3 1 x6 x2 G3) fun G7 =>
  bP (pNil v0) fun x8 =>
  bP (fa Q q 316 1 9 x8) fun x9 =>
  bP (st Q q 314 1 x9 (.func (.func 289) #[] #[]) G7) fun G10 =>
  some (.tuple #[], G10)
theorem m235 {e : Ex} {E : Ev} (h : ExLe Q e E) (v0 v1 : Value) (G : GS) : Ref (s235 true e v0 v1 G) (s235 false (Ex.of E) v0 v1 G) := by
  unfold s235
  exact Ref.go
theorem f235 {orc : FuncId → Bool} {e : Ex} (h : ExLe Q e (E orc)) (v0 v1 : Value) (G : GS) : Ref (s235 true e v0 v1 G) ((E orc).cl 235 [v0, v1] G) :=
  fun r hr => cl_sxE_some Q orc (vs := [v0, v1]) G Tryz.func235 (by kernel_rfl) (by kernel_rfl) (by kernel_rfl) (by kernel_rfl) (by kernel_rfl) (m235 h v0 v1 G r hr)
/-- (*coxswain/stack.held).ends -/
noncomputable def s236 (q : Bool) (e : Ex) (v0 v1 : Value) (G : GS) : Option (Value × GS) :=
  bP (pNil v0) fun x0 =>
  bP (fa Q q 304 5 7 x0) fun x1 =>
  bP (st Q q 4 1 x1 (.bool true) G) fun G2 =>
  bP (pNil v0) fun x3 =>
  bP (fa Q q 304 6 8 x3) fun x4 =>
  bP (st Q q 28 1 x4 v1 G2) fun G5 =>
  some (.tuple #[], G5)
theorem m236 {e : Ex} {E : Ev} (h : ExLe Q e E) (v0 v1 : Value) (G : GS) : Ref (s236 true e v0 v1 G) (s236 false (Ex.of E) v0 v1 G) := by
  unfold s236
  exact Ref.go
theorem f236 {orc : FuncId → Bool} {e : Ex} (h : ExLe Q e (E orc)) (v0 v1 : Value) (G : GS) : Ref (s236 true e v0 v1 G) ((E orc).cl 236 [v0, v1] G) :=
  fun r hr => cl_sxE_some Q orc (vs := [v0, v1]) G Tryz.func236 (by kernel_rfl) (by kernel_rfl) (by kernel_rfl) (by kernel_rfl) (by kernel_rfl) (m236 h v0 v1 G r hr)
/-- coxswain/epoch.Fill -/
noncomputable def s240 (q : Bool) (e : Ex) (v0 v1 : Value) (G : GS) : Option (Value × GS) :=
  bS (bx q v0 G) fun x0 G1 =>
  bS (bx q v1 G1) fun x2 G3 =>
  bP (lda Q q 63 3 x0 G3) fun x4 =>
  bS (e.ev.cl 291 [x4] G3) fun x5 G6 =>
  bP (un Q q .not x5) fun x7 =>
  ifV x7 (
  some (.tuple #[], G6)) (
  bP (ld Q q 31 x2 G6) fun x8 =>
  bP (fa Q q 63 0 0 x0) fun x9 =>
  bP (ld Q q 3 x9 G6) fun x10 =>
  bS (e.ev.cl 45 [x8, x10, (.int .u64 0)] G6) fun x11 G12 =>
  bP (lda Q q 63 3 x0 G12) fun x13 =>
  bS (e.ev.cl 292 [x13] G12) fun x14 G15 =>
  bX (xRange e.ev x14 #[15, 16] (subAt [1, 1, 1, 1, 0, 0] (bodyOf Tryz.f240)) (subAt [1, 1, 1, 1, 0, 1] (bodyOf Tryz.f240)) (lst 20 (tu (nth undef [v0, v1]) [(2, x0), (3, x2), (6, x4), (7, x5), (8, x7), (9, x8), (10, x9), (11, x10), (12, x11), (13, x13), (14, x14)])) G15) fun e16 T17 G18 =>
  ifE e16 .normal (
  some (.tuple #[], G18)) (none))
theorem m240 {e : Ex} {E : Ev} (h : ExLe Q e E) (v0 v1 : Value) (G : GS) : Ref (s240 true e v0 v1 G) (s240 false (Ex.of E) v0 v1 G) := by
  unfold s240
  exact Ref.go
theorem f240 {orc : FuncId → Bool} {e : Ex} (h : ExLe Q e (E orc)) (v0 v1 : Value) (G : GS) : Ref (s240 true e v0 v1 G) ((E orc).cl 240 [v0, v1] G) :=
  fun r hr => cl_sxE_some Q orc (vs := [v0, v1]) G Tryz.func240 (by kernel_rfl) (by kernel_rfl) (by kernel_rfl) (by kernel_rfl) (by kernel_rfl) (m240 h v0 v1 G r hr)
/-- (coxswain/limbo.turn).stack -/
noncomputable def s241 (q : Bool) (e : Ex) (v0 v1 : Value) (G : GS) : Option (Value × GS) :=
  bS (bx q v1 G) fun x0 G1 =>
  bS (al Q q 23 z23 G1) fun x2 G3 =>
  bP (fa Q q 65 2 9 x0) fun x4 =>
  bP (ld Q q 3 x4 G3) fun x5 =>
  bP (bn Q q .add 3 (.tmp 6) (.tmp 7) x5 v0) fun x6 =>
  bP (fa Q q 65 0 0 x0) fun x7 =>
  bP (fa Q q 25 0 0 x7) fun x8 =>
  bP (fa Q q 23 1 1 x8) fun x9 =>
  bP (ld Q q 3 x9 G3) fun x10 =>
  bP (fa Q q 65 0 0 x0) fun x11 =>
  bP (fa Q q 25 0 0 x11) fun x12 =>
  bP (fa Q q 23 2 2 x12) fun x13 =>
  bP (ld Q q 3 x13 G3) fun x14 =>
  bP (bd Q q 23 z23 [(0, 0, 1), (1, 1, 1), (2, 2, 1)] [x6, x10, x14]) fun x15 =>
  bP (st Q q 23 3 x2 x15 G3) fun G16 =>
  bP (lda Q q 23 3 x2 G16) fun x17 =>
  some (x17, G16)
theorem m241 {e : Ex} {E : Ev} (h : ExLe Q e E) (v0 v1 : Value) (G : GS) : Ref (s241 true e v0 v1 G) (s241 false (Ex.of E) v0 v1 G) := by
  unfold s241
  exact Ref.go
theorem f241 {orc : FuncId → Bool} {e : Ex} (h : ExLe Q e (E orc)) (v0 v1 : Value) (G : GS) : Ref (s241 true e v0 v1 G) ((E orc).cl 241 [v0, v1] G) :=
  fun r hr => cl_sxE_some Q orc (vs := [v0, v1]) G Tryz.func241 (by kernel_rfl) (by kernel_rfl) (by kernel_rfl) (by kernel_rfl) (by kernel_rfl) (m241 h v0 v1 G r hr)
instance ilp242_0 : LpIs Q 242 0 (subAt [1, 1, 0, 0] (bodyOf Tryz.f242)) 40 := ⟨by kernel_rfl, by kernel_rfl⟩
noncomputable def b242_0 (q : Bool) (e : Ex) (lp : Env → GS → Option (Exit × Env × GS)) (τ : Env) (G : GS) : Option (Exit × Env × GS) :=
  bV q (τ 0) fun a0_ =>
  bV q (τ 1) fun a1_ =>
  bV q (τ 2) fun a2_ =>
  bV q (τ 3) fun a3_ =>
  bV q (τ 5) fun a5_ =>
  bV q (τ 6) fun a6_ =>
  bP (bn Q q .geq 3 (.tmp 14) (.const (.int .i64 0)) a5_ (.int .i64 0)) fun x0 =>
  bS (gd x0 true (some (a6_, G)) G) fun x1 G2 =>
  bS (gd x0 true (bP (fa Q q 67 3 3 a1_) fun y => some (y, G2)) G2) fun x3 G4 =>
  bS (gd x0 true (bP (fa Q q 65 0 0 x3) fun y => some (y, G4)) G4) fun x5 G6 =>
  bS (gd x0 true (bP (fa Q q 25 0 0 x5) fun y => some (y, G6)) G6) fun x7 G8 =>
  bS (gd x0 true (bP (fa Q q 23 2 2 x7) fun y => some (y, G8)) G8) fun x9 G10 =>
  bS (gd x0 true (bP (ld Q q 3 x9 G10) fun y => some (y, G10)) G10) fun x11 G12 =>
  bS (gd x0 true (bP (bn Q q .lss 3 (.tmp 17) (.tmp 22) x1 x11) fun y => some (y, G12)) G12) fun x13 G14 =>
  bP (pickV x0 x13 (.bool false)) fun x15 =>
  bS (gd x15 true (some (a0_, G14)) G14) fun x16 G17 =>
  bS (gd x15 true (some (a5_, G17)) G17) fun x18 G19 =>
  bS (gd x15 true (bS (cValue e.ev x16 [x18] G19) fun y G => some (y, G)) G19) fun x20 G21 =>
  bP (pickV x15 x20 (.bool false)) fun x22 =>
  ifV x22 (
  bP (lda Q q 67 13 a1_ (G21.room 9)) fun x23 =>
  bP (ld Q q 246 a2_ (G21.room 9)) fun x24 =>
  bP (lda Q q 67 13 a1_ (G21.room 9)) fun x25 =>
  bP (ld Q q 3 a3_ (G21.room 9)) fun x26 =>
  bS (e.ev.cl 101 [x25, a5_, x26] (G21.room 9)) fun x28 G27 =>
  chk ((sameO (ld Q q 246 a2_ G27) x24 && (sameO (lda Q q 67 13 a1_ G27) x23 && true))) <|
  bS (e.ev.cl 244 [x24, x28] G27) fun x30 G29 =>
  chk ((sameO (lda Q q 67 13 a1_ G29) x23 && true)) <|
  bS (e.ev.cl 243 [x23, x30] G29) fun x32 G31 =>
  bP (bn Q q .add 3 (.tmp 30) (.const (.int .i64 1)) a6_ (.int .i64 1)) fun x33 =>
  lp (tu τ [(0, a0_), (1, a1_), (2, a2_), (3, a3_), (5, x32), (6, x33), (14, a5_), (15, x0), (16, x0), (17, x1), (18, x3), (19, x5), (20, x7), (21, x9), (22, x11), (23, x13), (24, x15), (25, x15), (26, x16), (27, x18), (28, x20), (29, x22), (30, a6_), (31, x33), (32, x23), (33, x24), (34, x25), (35, a5_), (36, x26), (37, x28), (38, x30), (39, x32)]) G31) (
  some ((.exit 0), clq q 40 (tu τ [(0, a0_), (1, a1_), (2, a2_), (3, a3_), (5, a5_), (6, a6_), (14, a5_), (15, x0), (16, x0), (17, x1), (18, x3), (19, x5), (20, x7), (21, x9), (22, x11), (23, x13), (24, x15), (25, x15), (26, x16), (27, x18), (28, x20), (29, x22)]), G21))
theorem mb242_0 {e : Ex} {E : Ev} (h : ExLe Q e E) {lp lp' : Env → GS → Option (Exit × Env × GS)} (hlp : LpLe lp lp') (τ : Env) (G : GS) : Ref (b242_0 true e lp τ G) (b242_0 false (Ex.of E) lp' τ G) := by
  unfold b242_0
  exact Ref.go
theorem l242_0 {orc : FuncId → Bool} {e : Ex} (h : ExLe Q e (E orc)) (lp : Env → GS → Option (Exit × Env × GS)) (hlp : ∀ τ G, Ref (lp τ G) (mapE ((E orc).lp (subAt [1, 1, 0, 0] (bodyOf Tryz.f242)) (lst 40 τ) G))) (T : List Value) (G : GS) (hT : T.length = 40) : Ref (b242_0 true e lp (nth undef T) G) (mapE ((E orc).lp (subAt [1, 1, 0, 0] (bodyOf Tryz.f242)) T G)) :=
  fun r hr => lp_sxM Q orc G hT (by kernel_rfl) (mb242_0 h ⟨hlp⟩ _ _ r hr)
/-- (coxswain/tower.memory).level$1 -/
noncomputable def s242 (q : Bool) (e : Ex) (v0 v1 v2 v3 : Value) (G : GS) : Option (Value × GS) :=
  bP (lda Q q 67 13 v1 (G.room 8)) fun x0 =>
  bP (ld Q q 246 v2 (G.room 8)) fun x1 =>
  bP (lda Q q 67 13 v1 (G.room 8)) fun x2 =>
  bP (ld Q q 3 v3 (G.room 8)) fun x3 =>
  bS (e.ev.cl 101 [x2, (.int .i64 (-1)), x3] (G.room 8)) fun x5 G4 =>
  chk ((sameO (ld Q q 246 v2 G4) x1 && (sameO (lda Q q 67 13 v1 G4) x0 && true))) <|
  bS (e.ev.cl 244 [x1, x5] G4) fun x7 G6 =>
  chk ((sameO (lda Q q 67 13 v1 G6) x0 && true)) <|
  bS (e.ev.cl 243 [x0, x7] G6) fun x9 G8 =>
  bL q e 242 0 (subAt [1, 1, 0, 0] (bodyOf Tryz.f242)) 40 (tu (nth undef [v0, v1, v2, v3]) [(5, x9), (6, (.int .i64 0)), (7, x0), (8, x1), (9, x2), (10, x3), (11, x5), (12, x7), (13, x9)]) G8 fun e10 t11 G12 =>
  ifE e10 (.exit 0) (
  some (.tuple #[], G12)) (none)
theorem m242 {e : Ex} {E : Ev} (h : ExLe Q e E) (v0 v1 v2 v3 : Value) (G : GS) : Ref (s242 true e v0 v1 v2 v3 G) (s242 false (Ex.of E) v0 v1 v2 v3 G) := by
  unfold s242
  exact Ref.go
theorem f242 {orc : FuncId → Bool} {e : Ex} (h : ExLe Q e (E orc)) (v0 v1 v2 v3 : Value) (G : GS) : Ref (s242 true e v0 v1 v2 v3 G) ((E orc).cl 242 [v0, v1, v2, v3] G) :=
  fun r hr => cl_sxE_some Q orc (vs := [v0, v1, v2, v3]) G Tryz.func242 (by kernel_rfl) (by kernel_rfl) (by kernel_rfl) (by kernel_rfl) (by kernel_rfl) (m242 h v0 v1 v2 v3 G r hr)
/-- coxswain/tower.index -/
noncomputable def s243 (q : Bool) (e : Ex) (v0 v1 : Value) (G : GS) : Option (Value × GS) :=
  bS (bx q v0 G) fun x0 G1 =>
  bS (e.ev.cl 172 [v1] G1) fun x2 G3 =>
  bP (pExtract x2 0) fun x4 =>
  bP (pExtract x2 1) fun x5 =>
  bS (al Q q 250 z250 G3) fun x6 G7 =>
  bP (st Q q 250 2 x6 x4 G7) fun G8 =>
  bP (fa Q q 250 0 0 x6) fun x9 =>
  bP (ld Q q 3 x9 G8) fun x10 =>
  bP (fa Q q 67 3 3 x0) fun x11 =>
  bP (fa Q q 65 0 0 x11) fun x12 =>
  bP (fa Q q 25 0 0 x12) fun x13 =>
  bP (fa Q q 23 2 2 x13) fun x14 =>
  bP (ld Q q 3 x14 G8) fun x15 =>
  bP (bn Q q .geq 3 (.tmp 13) (.tmp 18) x10 x15) fun x16 =>
  ifV x16 (
  some ((.int .i64 (-1)), G8)) (
  bP (fa Q q 250 0 0 x6) fun x17 =>
  bP (ld Q q 3 x17 G8) fun x18 =>
  some (x18, G8))
theorem m243 {e : Ex} {E : Ev} (h : ExLe Q e E) (v0 v1 : Value) (G : GS) : Ref (s243 true e v0 v1 G) (s243 false (Ex.of E) v0 v1 G) := by
  unfold s243
  exact Ref.go
theorem f243 {orc : FuncId → Bool} {e : Ex} (h : ExLe Q e (E orc)) (v0 v1 : Value) (G : GS) : Ref (s243 true e v0 v1 G) ((E orc).cl 243 [v0, v1] G) :=
  fun r hr => cl_sxE_some Q orc (vs := [v0, v1]) G Tryz.func243 (by kernel_rfl) (by kernel_rfl) (by kernel_rfl) (by kernel_rfl) (by kernel_rfl) (m243 h v0 v1 G r hr)
/-- (coxswain/tower.memory).at -/
noncomputable def s244 (q : Bool) (e : Ex) (v0 v1 : Value) (G : GS) : Option (Value × GS) :=
  bP (bn Q q .lss 3 (.tmp 5) (.const (.int .i64 0)) v1 (.int .i64 0)) fun x0 =>
  bS (gd x0 false (some (v1, G)) G) fun x1 G2 =>
  bS (gd x0 false (some (v0, G2)) G2) fun x3 G4 =>
  bS (gd x0 false (bP (ln Q q 246 x3) fun y => some (y, G4)) G4) fun x5 G6 =>
  bS (gd x0 false (bP (bn Q q .geq 3 (.tmp 8) (.tmp 10) x1 x5) fun y => some (y, G6)) G6) fun x7 G8 =>
  bP (pickV x0 (.bool true) x7) fun x9 =>
  ifV x9 (
  some ((.int .u64 0), G8)) (
  bP (ias Q q 246 1 v0 v1) fun x10 =>
  bP (ld Q q 49 x10 G8) fun x11 =>
  some (x11, G8))
theorem m244 {e : Ex} {E : Ev} (h : ExLe Q e E) (v0 v1 : Value) (G : GS) : Ref (s244 true e v0 v1 G) (s244 false (Ex.of E) v0 v1 G) := by
  unfold s244
  exact Ref.go
theorem f244 {orc : FuncId → Bool} {e : Ex} (h : ExLe Q e (E orc)) (v0 v1 : Value) (G : GS) : Ref (s244 true e v0 v1 G) ((E orc).cl 244 [v0, v1] G) :=
  fun r hr => cl_sxE_some Q orc (vs := [v0, v1]) G Tryz.func244 (by kernel_rfl) (by kernel_rfl) (by kernel_rfl) (by kernel_rfl) (by kernel_rfl) (m244 h v0 v1 G r hr)
/-- coxswain/word.tops -/
noncomputable def s245 (q : Bool) (e : Ex) (G : GS) : Option (Value × GS) :=
  bS (al Q q 325 z325 G) fun x0 G1 =>
  bP (bd Q q 324 z324 [(0, 0, 1), (1, 1, 1)] [(.int .i64 0), (.int .i64 16)]) fun x2 =>
  bP (bd Q q 324 z324 [(0, 0, 1), (1, 1, 1)] [(.int .i64 16), (.int .i64 48)]) fun x3 =>
  bP (bd Q q 325 z325 [(0, 0, 2), (1, 2, 2)] [x2, x3]) fun x4 =>
  bP (st Q q 325 4 x0 x4 G1) fun G5 =>
  bP (lda Q q 325 4 x0 G5) fun x6 =>
  some (x6, G5)
theorem m245 {e : Ex} {E : Ev} (h : ExLe Q e E) (G : GS) : Ref (s245 true e  G) (s245 false (Ex.of E)  G) := by
  unfold s245
  exact Ref.go
theorem f245 {orc : FuncId → Bool} {e : Ex} (h : ExLe Q e (E orc)) (ho : orc 245 = false) (G : GS) : Ref (s245 true e  G) ((E orc).cl 245 [] G) :=
  fun r hr => cl_sxE_some Q orc (vs := []) G Tryz.func245 (by kernel_rfl) (by kernel_rfl) ho (by kernel_rfl) (by kernel_rfl) (m245 h  G r hr)
/-- (coxswain/word.raw).take -/
noncomputable def s246 (q : Bool) (e : Ex) (v0 v1 : Value) (G : GS) : Option (Value × GS) :=
  bS (bx q v1 G) fun x0 G1 =>
  bP (fa Q q 324 0 0 x0) fun x2 =>
  bP (ld Q q 3 x2 (G1.room 11)) fun x3 =>
  bP (bn Q q .shr 49 (.tmp 5) (.tmp 7) v0 x3) fun x4 =>
  bP (fa Q q 324 1 1 x0) fun x5 =>
  bP (ld Q q 3 x5 (G1.room 11)) fun x6 =>
  bP (bn Q q .shl 49 (.const (.int .u64 1)) (.tmp 10) (.int .u64 1) x6) fun x7 =>
  bP (bn Q q .sub 49 (.tmp 11) (.const (.int .u64 1)) x7 (.int .u64 1)) fun x8 =>
  bP (bn Q q .and 49 (.tmp 8) (.tmp 12) x4 x8) fun x9 =>
  bP (cv Q q 49 3 .u64 .i64 x9) fun x10 =>
  some (x10, (G1.room 11))
theorem m246 {e : Ex} {E : Ev} (h : ExLe Q e E) (v0 v1 : Value) (G : GS) : Ref (s246 true e v0 v1 G) (s246 false (Ex.of E) v0 v1 G) := by
  unfold s246
  exact Ref.go
theorem f246 {orc : FuncId → Bool} {e : Ex} (h : ExLe Q e (E orc)) (v0 v1 : Value) (G : GS) : Ref (s246 true e v0 v1 G) ((E orc).cl 246 [v0, v1] G) :=
  fun r hr => cl_sxE_some Q orc (vs := [v0, v1]) G Tryz.func246 (by kernel_rfl) (by kernel_rfl) (by kernel_rfl) (by kernel_rfl) (by kernel_rfl) (m246 h v0 v1 G r hr)
/-- coxswain/tower.nodes -/
noncomputable def s247 (q : Bool) (e : Ex) (v0 : Value) (G : GS) : Option (Value × GS) :=
  bS (bx q v0 G) fun x0 G1 =>
  bS (al Q q 331 z331 G1) fun x2 G3 =>
  bP (fa Q q 67 0 0 x0) fun x4 =>
  bP (ld Q q 3 x4 G3) fun x5 =>
  bP (fa Q q 67 3 3 x0) fun x6 =>
  bP (fa Q q 65 0 0 x6) fun x7 =>
  bP (fa Q q 25 0 0 x7) fun x8 =>
  bP (fa Q q 23 2 2 x8) fun x9 =>
  bP (ld Q q 3 x9 G3) fun x10 =>
  bP (fa Q q 67 2 2 x0) fun x11 =>
  bP (ld Q q 3 x11 G3) fun x12 =>
  bP (bd Q q 331 z331 [(0, 0, 1), (1, 1, 1), (2, 2, 1)] [x5, x10, x12]) fun x13 =>
  bP (st Q q 331 3 x2 x13 G3) fun G14 =>
  bP (lda Q q 331 3 x2 G14) fun x15 =>
  some (x15, G14)
theorem m247 {e : Ex} {E : Ev} (h : ExLe Q e E) (v0 : Value) (G : GS) : Ref (s247 true e v0 G) (s247 false (Ex.of E) v0 G) := by
  unfold s247
  exact Ref.go
theorem f247 {orc : FuncId → Bool} {e : Ex} (h : ExLe Q e (E orc)) (v0 : Value) (G : GS) : Ref (s247 true e v0 G) ((E orc).cl 247 [v0] G) :=
  fun r hr => cl_sxE_some Q orc (vs := [v0]) G Tryz.func247 (by kernel_rfl) (by kernel_rfl) (by kernel_rfl) (by kernel_rfl) (by kernel_rfl) (m247 h v0 G r hr)
/-- (coxswain/tower.rows[coxswain/tower.node]).at -/
noncomputable def s248 (q : Bool) (e : Ex) (v0 v1 v2 : Value) (G : GS) : Option (Value × GS) :=
  bS (bx q v0 G) fun x0 G1 =>
  bP (bn Q q .lss 3 (.tmp 7) (.const (.int .i64 0)) v1 (.int .i64 0)) fun x2 =>
  bS (gd x2 false (some (v1, G1)) G1) fun x3 G4 =>
  bS (gd x2 false (bP (fa Q q 331 1 1 x0) fun y => some (y, G4)) G4) fun x5 G6 =>
  bS (gd x2 false (bP (ld Q q 3 x5 G6) fun y => some (y, G6)) G6) fun x7 G8 =>
  bS (gd x2 false (bP (bn Q q .geq 3 (.tmp 10) (.tmp 12) x3 x7) fun y => some (y, G8)) G8) fun x9 G10 =>
  bP (pickV x2 (.bool true) x9) fun x11 =>
  bS (gd x11 false (some (v2, G10)) G10) fun x12 G13 =>
  bS (gd x11 false (bP (bn Q q .lss 3 (.tmp 16) (.const (.int .i64 0)) x12 (.int .i64 0)) fun y => some (y, G13)) G13) fun x14 G15 =>
  bP (pickV x11 (.bool true) x14) fun x16 =>
  bS (gd x16 false (some (v2, G15)) G15) fun x17 G18 =>
  bS (gd x16 false (bP (fa Q q 331 2 2 x0) fun y => some (y, G18)) G18) fun x19 G20 =>
  bS (gd x16 false (bP (ld Q q 329 x19 G20) fun y => some (y, G20)) G20) fun x21 G22 =>
  bS (gd x16 false (bP (ifc Q q 329 x21) fun y => some (y, G22)) G22) fun x23 G24 =>
  bS (gd x16 false (bS (cInvoke Q e.ev x23 "coxswain/tower.cells" [] G24) fun y G => some (y, G)) G24) fun x25 G26 =>
  bS (gd x16 false (bP (bn Q q .geq 3 (.tmp 20) (.tmp 24) x17 x25) fun y => some (y, G26)) G26) fun x27 G28 =>
  bP (pickV x16 (.bool true) x27) fun x29 =>
  ifV x29 (
  some ((.int .i64 (-1)), G28)) (
  bP (fa Q q 331 0 0 x0) fun x30 =>
  bP (ld Q q 3 x30 (G28.room 12)) fun x31 =>
  bP (fa Q q 331 2 2 x0) fun x32 =>
  bP (ld Q q 329 x32 (G28.room 12)) fun x33 =>
  bP (ifc Q q 329 x33) fun x34 =>
  bS (cInvoke Q e.ev x34 "coxswain/tower.cells" [] (G28.room 12)) fun x36 G35 =>
  chk ((sameO (ld Q q 3 x30 G35) x31 && true)) <|
  bP (bn Q q .mul 3 (.tmp 29) (.tmp 33) v1 x36) fun x37 =>
  bP (bn Q q .add 3 (.tmp 28) (.tmp 34) x31 x37) fun x38 =>
  bP (bn Q q .add 3 (.tmp 35) (.tmp 36) x38 v2) fun x39 =>
  some (x39, G35))
theorem m248 {e : Ex} {E : Ev} (h : ExLe Q e E) (v0 v1 v2 : Value) (G : GS) : Ref (s248 true e v0 v1 v2 G) (s248 false (Ex.of E) v0 v1 v2 G) := by
  unfold s248
  exact Ref.go
theorem f248 {orc : FuncId → Bool} {e : Ex} (h : ExLe Q e (E orc)) (v0 v1 v2 : Value) (G : GS) : Ref (s248 true e v0 v1 v2 G) ((E orc).cl 248 [v0, v1, v2] G) :=
  fun r hr => cl_sxE_some Q orc (vs := [v0, v1, v2]) G Tryz.func248 (by kernel_rfl) (by kernel_rfl) (by kernel_rfl) (by kernel_rfl) (by kernel_rfl) (m248 h v0 v1 v2 G r hr)
/-- coxswain/tower.heads -/
noncomputable def s249 (q : Bool) (e : Ex) (v0 : Value) (G : GS) : Option (Value × GS) :=
  bS (bx q v0 G) fun x0 G1 =>
  bS (al Q q 335 z335 G1) fun x2 G3 =>
  bP (fa Q q 67 1 1 x0) fun x4 =>
  bP (ld Q q 3 x4 G3) fun x5 =>
  bP (fa Q q 67 2 2 x0) fun x6 =>
  bP (ld Q q 3 x6 G3) fun x7 =>
  bP (bd Q q 335 z335 [(0, 0, 1), (1, 1, 1), (2, 2, 1)] [x5, (.int .i64 1), x7]) fun x8 =>
  bP (st Q q 335 3 x2 x8 G3) fun G9 =>
  bP (lda Q q 335 3 x2 G9) fun x10 =>
  some (x10, G9)
theorem m249 {e : Ex} {E : Ev} (h : ExLe Q e E) (v0 : Value) (G : GS) : Ref (s249 true e v0 G) (s249 false (Ex.of E) v0 G) := by
  unfold s249
  exact Ref.go
theorem f249 {orc : FuncId → Bool} {e : Ex} (h : ExLe Q e (E orc)) (v0 : Value) (G : GS) : Ref (s249 true e v0 G) ((E orc).cl 249 [v0] G) :=
  fun r hr => cl_sxE_some Q orc (vs := [v0]) G Tryz.func249 (by kernel_rfl) (by kernel_rfl) (by kernel_rfl) (by kernel_rfl) (by kernel_rfl) (m249 h v0 G r hr)
/-- (coxswain/tower.rows[coxswain/tower.head]).at -/
noncomputable def s250 (q : Bool) (e : Ex) (v0 v1 v2 : Value) (G : GS) : Option (Value × GS) :=
  bS (bx q v0 G) fun x0 G1 =>
  bP (bn Q q .lss 3 (.tmp 7) (.const (.int .i64 0)) v1 (.int .i64 0)) fun x2 =>
  bS (gd x2 false (some (v1, G1)) G1) fun x3 G4 =>
  bS (gd x2 false (bP (fa Q q 335 1 1 x0) fun y => some (y, G4)) G4) fun x5 G6 =>
  bS (gd x2 false (bP (ld Q q 3 x5 G6) fun y => some (y, G6)) G6) fun x7 G8 =>
  bS (gd x2 false (bP (bn Q q .geq 3 (.tmp 10) (.tmp 12) x3 x7) fun y => some (y, G8)) G8) fun x9 G10 =>
  bP (pickV x2 (.bool true) x9) fun x11 =>
  bS (gd x11 false (some (v2, G10)) G10) fun x12 G13 =>
  bS (gd x11 false (bP (bn Q q .lss 3 (.tmp 16) (.const (.int .i64 0)) x12 (.int .i64 0)) fun y => some (y, G13)) G13) fun x14 G15 =>
  bP (pickV x11 (.bool true) x14) fun x16 =>
  bS (gd x16 false (some (v2, G15)) G15) fun x17 G18 =>
  bS (gd x16 false (bP (fa Q q 335 2 2 x0) fun y => some (y, G18)) G18) fun x19 G20 =>
  bS (gd x16 false (bP (ld Q q 333 x19 G20) fun y => some (y, G20)) G20) fun x21 G22 =>
  bS (gd x16 false (bP (ifc Q q 333 x21) fun y => some (y, G22)) G22) fun x23 G24 =>
  bS (gd x16 false (bS (cInvoke Q e.ev x23 "coxswain/tower.cells" [] G24) fun y G => some (y, G)) G24) fun x25 G26 =>
  bS (gd x16 false (bP (bn Q q .geq 3 (.tmp 20) (.tmp 24) x17 x25) fun y => some (y, G26)) G26) fun x27 G28 =>
  bP (pickV x16 (.bool true) x27) fun x29 =>
  ifV x29 (
  some ((.int .i64 (-1)), G28)) (
  bP (fa Q q 335 0 0 x0) fun x30 =>
  bP (ld Q q 3 x30 (G28.room 12)) fun x31 =>
  bP (fa Q q 335 2 2 x0) fun x32 =>
  bP (ld Q q 333 x32 (G28.room 12)) fun x33 =>
  bP (ifc Q q 333 x33) fun x34 =>
  bS (cInvoke Q e.ev x34 "coxswain/tower.cells" [] (G28.room 12)) fun x36 G35 =>
  chk ((sameO (ld Q q 3 x30 G35) x31 && true)) <|
  bP (bn Q q .mul 3 (.tmp 29) (.tmp 33) v1 x36) fun x37 =>
  bP (bn Q q .add 3 (.tmp 28) (.tmp 34) x31 x37) fun x38 =>
  bP (bn Q q .add 3 (.tmp 35) (.tmp 36) x38 v2) fun x39 =>
  some (x39, G35))
theorem m250 {e : Ex} {E : Ev} (h : ExLe Q e E) (v0 v1 v2 : Value) (G : GS) : Ref (s250 true e v0 v1 v2 G) (s250 false (Ex.of E) v0 v1 v2 G) := by
  unfold s250
  exact Ref.go
theorem f250 {orc : FuncId → Bool} {e : Ex} (h : ExLe Q e (E orc)) (v0 v1 v2 : Value) (G : GS) : Ref (s250 true e v0 v1 v2 G) ((E orc).cl 250 [v0, v1, v2] G) :=
  fun r hr => cl_sxE_some Q orc (vs := [v0, v1, v2]) G Tryz.func250 (by kernel_rfl) (by kernel_rfl) (by kernel_rfl) (by kernel_rfl) (by kernel_rfl) (m250 h v0 v1 v2 G r hr)
/-- (*coxswain/find.Find).begin -/
noncomputable def s251 (q : Bool) (e : Ex) (v0 v1 : Value) (G : GS) : Option (Value × GS) :=
  bS (bx q v0 G) fun x0 G1 =>
  bS (bx q v1 G1) fun x2 G3 =>
  bP (ld Q q 76 x0 (G3.room 10)) fun x4 =>
  bP (pNil x4) fun x5 =>
  bP (fa Q q 259 0 0 x5) fun x6 =>
  bP (fa Q q 67 2 2 x6) fun x7 =>
  bP (ld Q q 3 x7 (G3.room 10)) fun x8 =>
  bP (ld Q q 76 x0 (G3.room 10)) fun x9 =>
  bP (pNil x9) fun x10 =>
  bP (fa Q q 259 5 20 x10) fun x11 =>
  bP (ld Q q 257 x11 (G3.room 10)) fun x12 =>
  bS (e.ev.cl 293 [x8, x12] (G3.room 10)) fun x14 G13 =>
  bX (xRange e.ev x14 #[16, 17] (subAt [1, 0, 1, 0, 0] (bodyOf Tryz.f251)) (subAt [1, 0, 1, 0, 1] (bodyOf Tryz.f251)) (lst 31 (tu (nth undef [v0, v1]) [(2, x0), (3, x2), (6, x4), (7, x5), (8, x6), (9, x7), (10, x8), (11, x9), (12, x10), (13, x11), (14, x12), (15, x14)])) G13) fun e15 T16 G17 =>
  bV q (nth undef T16 2) fun T16x2_ =>
  ifE e15 .normal (
  bP (ld Q q 76 T16x2_ G17) fun x18 =>
  bP (pNil x18) fun x19 =>
  bP (fa Q q 259 2 14 x19) fun x20 =>
  bP (st Q q 3 1 x20 (.int .i64 9) G17) fun G21 =>
  some (.tuple #[], G21)) (ifE e15 .ret (
  some (.tuple #[], G17)) (none))
theorem m251 {e : Ex} {E : Ev} (h : ExLe Q e E) (v0 v1 : Value) (G : GS) : Ref (s251 true e v0 v1 G) (s251 false (Ex.of E) v0 v1 G) := by
  unfold s251
  exact Ref.go
theorem f251 {orc : FuncId → Bool} {e : Ex} (h : ExLe Q e (E orc)) (v0 v1 : Value) (G : GS) : Ref (s251 true e v0 v1 G) ((E orc).cl 251 [v0, v1] G) :=
  fun r hr => cl_sxE_some Q orc (vs := [v0, v1]) G Tryz.func251 (by kernel_rfl) (by kernel_rfl) (by kernel_rfl) (by kernel_rfl) (by kernel_rfl) (m251 h v0 v1 G r hr)
/-- (*coxswain/find.Find).index -/
noncomputable def s252 (q : Bool) (e : Ex) (v0 v1 : Value) (G : GS) : Option (Value × GS) :=
  bS (e.ev.cl 172 [v1] G) fun x0 G1 =>
  bP (pExtract x0 0) fun x2 =>
  bP (pExtract x0 1) fun x3 =>
  bS (al Q q 250 z250 G1) fun x4 G5 =>
  bP (st Q q 250 2 x4 x2 G5) fun G6 =>
  bP (fa Q q 250 0 0 x4) fun x7 =>
  bP (ld Q q 3 x7 (G6.room 11)) fun x8 =>
  bP (pNil v0) fun x9 =>
  bP (fa Q q 259 0 0 x9) fun x10 =>
  bP (fa Q q 67 3 3 x10) fun x11 =>
  bP (fa Q q 65 0 0 x11) fun x12 =>
  bP (fa Q q 25 0 0 x12) fun x13 =>
  bP (fa Q q 23 2 2 x13) fun x14 =>
  bP (ld Q q 3 x14 (G6.room 11)) fun x15 =>
  bP (bn Q q .geq 3 (.tmp 13) (.tmp 21) x8 x15) fun x16 =>
  ifV x16 (
  some ((.int .i64 (-1)), (G6.room 11))) (
  bP (fa Q q 250 0 0 x4) fun x17 =>
  bP (ld Q q 3 x17 (G6.room 11)) fun x18 =>
  some (x18, (G6.room 11)))
theorem m252 {e : Ex} {E : Ev} (h : ExLe Q e E) (v0 v1 : Value) (G : GS) : Ref (s252 true e v0 v1 G) (s252 false (Ex.of E) v0 v1 G) := by
  unfold s252
  exact Ref.go
theorem f252 {orc : FuncId → Bool} {e : Ex} (h : ExLe Q e (E orc)) (v0 v1 : Value) (G : GS) : Ref (s252 true e v0 v1 G) ((E orc).cl 252 [v0, v1] G) :=
  fun r hr => cl_sxE_some Q orc (vs := [v0, v1]) G Tryz.func252 (by kernel_rfl) (by kernel_rfl) (by kernel_rfl) (by kernel_rfl) (by kernel_rfl) (m252 h v0 v1 G r hr)
/-- (*coxswain/find.Find).done -/
noncomputable def s253 (q : Bool) (e : Ex) (v0 : Value) (G : GS) : Option (Value × GS) :=
  bP (pNil v0) fun x0 =>
  bP (fa Q q 259 5 20 x0) fun x1 =>
  bP (ld Q q 257 x1 (G.room 15)) fun x2 =>
  bP (pNil v0) fun x3 =>
  bP (fa Q q 259 3 15 x3) fun x4 =>
  bP (fa Q q 256 0 0 x4) fun x5 =>
  bP (ld Q q 3 x5 (G.room 15)) fun x6 =>
  bP (pNil v0) fun x7 =>
  bP (fa Q q 259 3 15 x7) fun x8 =>
  bP (lda Q q 256 4 x8 (G.room 15)) fun x9 =>
  bP (ias Q q 257 4 x2 x6) fun x10 =>
  bP (st Q q 256 4 x10 x9 (G.room 15)) fun G11 =>
  bP (pNil v0) fun x12 =>
  bP (fa Q q 259 3 15 x12) fun x13 =>
  bP (fa Q q 256 0 0 x13) fun x14 =>
  bP (ld Q q 3 x14 G11) fun x15 =>
  bP (bn Q q .sub 3 (.tmp 21) (.const (.int .i64 1)) x15 (.int .i64 1)) fun x16 =>
  bS (e.ev.cl 251 [v0, x16] G11) fun x17 G18 =>
  some (.tuple #[], G18)
theorem m253 {e : Ex} {E : Ev} (h : ExLe Q e E) (v0 : Value) (G : GS) : Ref (s253 true e v0 G) (s253 false (Ex.of E) v0 G) := by
  unfold s253
  exact Ref.go
theorem f253 {orc : FuncId → Bool} {e : Ex} (h : ExLe Q e (E orc)) (v0 : Value) (G : GS) : Ref (s253 true e v0 G) ((E orc).cl 253 [v0] G) :=
  fun r hr => cl_sxE_some Q orc (vs := [v0]) G Tryz.func253 (by kernel_rfl) (by kernel_rfl) (by kernel_rfl) (by kernel_rfl) (by kernel_rfl) (m253 h v0 G r hr)
/-- (*coxswain/find.Find).looks -/
noncomputable def s254 (q : Bool) (e : Ex) (v0 : Value) (G : GS) : Option (Value × GS) :=
  bP (pNil v0) fun x0 =>
  bP (fa Q q 259 2 14 x0) fun x1 =>
  bP (st Q q 3 1 x1 (.int .i64 2) G) fun G2 =>
  bP (pNil v0) fun x3 =>
  bP (fa Q q 259 3 15 x3) fun x4 =>
  bP (fa Q q 256 3 3 x4) fun x5 =>
  bP (ld Q q 49 x5 G2) fun x6 =>
  bS (e.ev.cl 252 [v0, x6] G2) fun x7 G8 =>
  bP (bn Q q .lss 3 (.tmp 11) (.const (.int .i64 0)) x7 (.int .i64 0)) fun x9 =>
  ifV x9 (
  bS (e.ev.cl 253 [v0] G8) fun x10 G11 =>
  some (.tuple #[], G11)) (
  some (.tuple #[], G8))
theorem m254 {e : Ex} {E : Ev} (h : ExLe Q e E) (v0 : Value) (G : GS) : Ref (s254 true e v0 G) (s254 false (Ex.of E) v0 G) := by
  unfold s254
  exact Ref.go
theorem f254 {orc : FuncId → Bool} {e : Ex} (h : ExLe Q e (E orc)) (v0 : Value) (G : GS) : Ref (s254 true e v0 G) ((E orc).cl 254 [v0] G) :=
  fun r hr => cl_sxE_some Q orc (vs := [v0]) G Tryz.func254 (by kernel_rfl) (by kernel_rfl) (by kernel_rfl) (by kernel_rfl) (by kernel_rfl) (m254 h v0 G r hr)
/-- (coxswain/cells.deed).add -/
noncomputable def s255 (q : Bool) (e : Ex) (v0 : Value) (G : GS) : Option (Value × GS) :=
  bS (bx q v0 G) fun x0 G1 =>
  bP (fa Q q 195 0 0 x0) fun x2 =>
  bP (ld Q q 192 x2 (G1.room 9)) fun x3 =>
  bP (pNil x3) fun x4 =>
  bP (ld Q q 171 x4 (G1.room 9)) fun x5 =>
  bP (fa Q q 195 1 1 x0) fun x6 =>
  bP (ld Q q 49 x6 (G1.room 9)) fun x7 =>
  bP (bn Q q .add 49 (.tmp 7) (.tmp 9) x5 x7) fun x8 =>
  some (.tuple #[x8, (.bool true)], (G1.room 9))
theorem m255 {e : Ex} {E : Ev} (h : ExLe Q e E) (v0 : Value) (G : GS) : Ref (s255 true e v0 G) (s255 false (Ex.of E) v0 G) := by
  unfold s255
  exact Ref.go
theorem f255 {orc : FuncId → Bool} {e : Ex} (h : ExLe Q e (E orc)) (v0 : Value) (G : GS) : Ref (s255 true e v0 G) ((E orc).cl 255 [v0] G) :=
  fun r hr => cl_sxE_some Q orc (vs := [v0]) G Tryz.func255 (by kernel_rfl) (by kernel_rfl) (by kernel_rfl) (by kernel_rfl) (by kernel_rfl) (m255 h v0 G r hr)
/-- (*coxswain/limbo.Retire).looks -/
noncomputable def s256 (q : Bool) (e : Ex) (v0 v1 : Value) (G : GS) : Option (Value × GS) :=
  bP (pNil v0) fun x0 =>
  bP (fa Q q 343 1 3 x0) fun x1 =>
  bP (fa Q q 65 1 6 x1) fun x2 =>
  bP (fa Q q 63 0 0 x2) fun x3 =>
  bP (ld Q q 3 x3 G) fun x4 =>
  bS (e.ev.cl 79 [v1, x4] G) fun x5 G6 =>
  bP (bn Q q .and 49 (.tmp 13) (.const (.int .u64 4294967295)) x5 (.int .u64 4294967295)) fun x7 =>
  bP (bn Q q .rem 49 (.tmp 16) (.const (.int .u64 3)) x7 (.int .u64 3)) fun x8 =>
  bP (cv Q q 49 320 .u64 .i64 x8) fun x9 =>
  bP (pNil v0) fun x10 =>
  bP (fa Q q 343 1 3 x10) fun x11 =>
  bP (lda Q q 65 10 x11 (G6.room 17)) fun x12 =>
  bS (e.ev.cl 241 [x9, x12] (G6.room 17)) fun x14 G13 =>
  bP (pNil v0) fun x15 =>
  bP (fa Q q 343 2 13 x15) fun x16 =>
  bP (ld Q q 3 x16 G13) fun x17 =>
  chk ((sameO (ld Q q 3 x16 (G6.room 17)) x17 && true)) <|
  bS (e.ev.cl 166 [x14, x17] G13) fun x19 G18 =>
  bP (pNil v0) fun x20 =>
  bP (fa Q q 343 3 14 x20) fun x21 =>
  bP (st Q q 232 1 x21 x19 G18) fun G22 =>
  some ((.func (.func 294) #[v0] #[]), G22)
theorem m256 {e : Ex} {E : Ev} (h : ExLe Q e E) (v0 v1 : Value) (G : GS) : Ref (s256 true e v0 v1 G) (s256 false (Ex.of E) v0 v1 G) := by
  unfold s256
  exact Ref.go
theorem f256 {orc : FuncId → Bool} {e : Ex} (h : ExLe Q e (E orc)) (v0 v1 : Value) (G : GS) : Ref (s256 true e v0 v1 G) ((E orc).cl 256 [v0, v1] G) :=
  fun r hr => cl_sxE_some Q orc (vs := [v0, v1]) G Tryz.func256 (by kernel_rfl) (by kernel_rfl) (by kernel_rfl) (by kernel_rfl) (by kernel_rfl) (m256 h v0 v1 G r hr)
/-- (*coxswain/limbo.machine).step -/
noncomputable def s257 (q : Bool) (e : Ex) (v0 v1 : Value) (G : GS) : Option (Value × GS) :=
  bP (pNil v0) fun x0 =>
  bP (fa Q q 341 0 0 x0) fun x1 =>
  bP (ld Q q 339 x1 G) fun x2 =>
  bP (ef Q q true 339 (.tmp 8) (.const .nilFunc) x2 .nilFunc) fun x3 =>
  ifV x3 (
  bP (pNil v0) fun x4 =>
  bP (fa Q q 341 0 0 x4) fun x5 =>
  bP (ld Q q 339 x5 G) fun x6 =>
  bS (cValue e.ev x6 [v1] G) fun x7 G8 =>
  bP (pNil v0) fun x9 =>
  bP (fa Q q 341 0 0 x9) fun x10 =>
  bP (st Q q 339 1 x10 x7 G8) fun G11 =>
  bP (pNil v0) fun x12 =>
  bP (fa Q q 341 0 0 x12) fun x13 =>
  bP (ld Q q 339 x13 G11) fun x14 =>
  bP (ef Q q false 339 (.tmp 22) (.const .nilFunc) x14 .nilFunc) fun x15 =>
  some (x15, G11)) (
  bP (pNil v0) fun x16 =>
  bP (fa Q q 341 0 0 x16) fun x17 =>
  bP (ld Q q 339 x17 G) fun x18 =>
  bP (ef Q q false 339 (.tmp 22) (.const .nilFunc) x18 .nilFunc) fun x19 =>
  some (x19, G))
theorem m257 {e : Ex} {E : Ev} (h : ExLe Q e E) (v0 v1 : Value) (G : GS) : Ref (s257 true e v0 v1 G) (s257 false (Ex.of E) v0 v1 G) := by
  unfold s257
  exact Ref.go
theorem f257 {orc : FuncId → Bool} {e : Ex} (h : ExLe Q e (E orc)) (v0 v1 : Value) (G : GS) : Ref (s257 true e v0 v1 G) ((E orc).cl 257 [v0, v1] G) :=
  fun r hr => cl_sxE_some Q orc (vs := [v0, v1]) G Tryz.func257 (by kernel_rfl) (by kernel_rfl) (by kernel_rfl) (by kernel_rfl) (by kernel_rfl) (m257 h v0 v1 G r hr)
/-- coxswain/stack.on -/
noncomputable def s258 (q : Bool) (e : Ex) (v0 v1 : Value) (G : GS) : Option (Value × GS) :=
  bS (bx q v0 G) fun x0 G1 =>
  bS (bx q v1 G1) fun x2 G3 =>
  bS (al Q q 160 z160 G3) fun x4 G5 =>
  bP (st Q q 160 1 x4 (.func (.func 295) #[] #[x2]) G5) fun G6 =>
  some ((.func (.func 296) #[] #[x0, x4]), G6)
theorem m258 {e : Ex} {E : Ev} (h : ExLe Q e E) (v0 v1 : Value) (G : GS) : Ref (s258 true e v0 v1 G) (s258 false (Ex.of E) v0 v1 G) := by
  unfold s258
  exact Ref.go
theorem f258 {orc : FuncId → Bool} {e : Ex} (h : ExLe Q e (E orc)) (v0 v1 : Value) (G : GS) : Ref (s258 true e v0 v1 G) ((E orc).cl 258 [v0, v1] G) :=
  fun r hr => cl_sxE_some Q orc (vs := [v0, v1]) G Tryz.func258 (by kernel_rfl) (by kernel_rfl) (by kernel_rfl) (by kernel_rfl) (by kernel_rfl) (m258 h v0 v1 G r hr)
/-- coxswain/word.PutTop -/
noncomputable def s283 (q : Bool) (e : Ex) (v0 : Value) (G : GS) : Option (Value × GS) :=
  bS (bx q v0 G) fun x0 G1 =>
  bP (fa Q q 250 0 0 x0) fun x2 =>
  bP (ld Q q 3 x2 G1) fun x3 =>
  bP (bd Q q 391 z391 [(0, 0, 1), (1, 1, 1), (2, 2, 1)] [x3, (.int .i64 (-1)), (.int .i64 65534)]) fun x4 =>
  bP (fa Q q 250 1 1 x0) fun x5 =>
  bP (ld Q q 3 x5 G1) fun x6 =>
  bP (bd Q q 391 z391 [(0, 0, 1), (1, 1, 1), (2, 2, 1)] [x6, (.int .i64 0), (.int .i64 281474976710655)]) fun x7 =>
  bS (bs Q q 396 2 (rep z391 2) 3 [(0, 0, 3), (1, 3, 3)] [x4, x7] G1) fun x8 G9 =>
  bS (e.ev.cl 309 [x8] G9) fun x10 G11 =>
  bP (un Q q .not x10) fun x12 =>
  ifV x12 (
  some (.tuple #[(.int .u64 0), (.int .i64 3)], G11)) (
  bS (e.ev.cl 245 [] G11) fun x13 G14 =>
  bS (al Q q 325 z325 G14) fun x15 G16 =>
  bP (st Q q 325 4 x15 x13 G16) fun G17 =>
  bP (sla Q q 325 2 2 x15 none none none (G17.room 10)) fun x18 =>
  bP (fa Q q 250 0 0 x0) fun x19 =>
  bP (ld Q q 3 x19 (G17.room 10)) fun x20 =>
  bP (bn Q q .add 3 (.tmp 17) (.const (.int .i64 1)) x20 (.int .i64 1)) fun x21 =>
  bP (fa Q q 250 1 1 x0) fun x22 =>
  bP (ld Q q 3 x22 (G17.room 10)) fun x23 =>
  bS (bs Q q 139 2 (rep z3 2) 1 [(0, 0, 1), (1, 1, 1)] [x21, x23] ((G17.room 10).at' (G17.nx + 6))) fun x24 G25 =>
  bS (e.ev.cl 310 [x18, x24] (G25.back (G17.room 10))) fun x27 G26 =>
  some (.tuple #[x27, (.int .i64 0)], G26))
theorem m283 {e : Ex} {E : Ev} (h : ExLe Q e E) (v0 : Value) (G : GS) : Ref (s283 true e v0 G) (s283 false (Ex.of E) v0 G) := by
  unfold s283
  exact Ref.go
theorem f283 {orc : FuncId → Bool} {e : Ex} (h : ExLe Q e (E orc)) (v0 : Value) (G : GS) : Ref (s283 true e v0 G) ((E orc).cl 283 [v0] G) :=
  fun r hr => cl_sxE_some Q orc (vs := [v0]) G Tryz.func283 (by kernel_rfl) (by kernel_rfl) (by kernel_rfl) (by kernel_rfl) (by kernel_rfl) (m283 h v0 G r hr)
/-- (*coxswain/stack.held).load -/
noncomputable def s285 (q : Bool) (e : Ex) (v0 v1 : Value) (G : GS) : Option (Value × GS) :=
  bP (pNil v0) fun x0 =>
  bP (fa Q q 304 0 0 x0) fun x1 =>
  bP (fa Q q 23 0 0 x1) fun x2 =>
  bP (ld Q q 3 x2 G) fun x3 =>
  bS (e.ev.cl 79 [v1, x3] G) fun x4 G5 =>
  bP (pNil v0) fun x6 =>
  bP (fa Q q 304 1 3 x6) fun x7 =>
  bP (st Q q 49 1 x7 x4 G5) fun G8 =>
  bP (pNil v0) fun x9 =>
  bP (fa Q q 304 0 0 x9) fun x10 =>
  bP (lda Q q 23 3 x10 (G8.room 10)) fun x11 =>
  bP (pNil v0) fun x12 =>
  bP (fa Q q 304 1 3 x12) fun x13 =>
  bP (ld Q q 49 x13 (G8.room 10)) fun x14 =>
  bS (e.ev.cl 297 [x11, x14] (G8.room 10)) fun x16 G15 =>
  some (x16, G15)
theorem m285 {e : Ex} {E : Ev} (h : ExLe Q e E) (v0 v1 : Value) (G : GS) : Ref (s285 true e v0 v1 G) (s285 false (Ex.of E) v0 v1 G) := by
  unfold s285
  exact Ref.go
theorem f285 {orc : FuncId → Bool} {e : Ex} (h : ExLe Q e (E orc)) (v0 v1 : Value) (G : GS) : Ref (s285 true e v0 v1 G) ((E orc).cl 285 [v0, v1] G) :=
  fun r hr => cl_sxE_some Q orc (vs := [v0, v1]) G Tryz.func285 (by kernel_rfl) (by kernel_rfl) (by kernel_rfl) (by kernel_rfl) (by kernel_rfl) (m285 h v0 v1 G r hr)
/-- (*coxswain/stack.held).over -/
noncomputable def s286 (q : Bool) (e : Ex) (v0 : Value) (G : GS) : Option (Value × GS) :=
  bP (ep Q q false 373 (.tmp 3) (.const (.pointer none)) v0 (.pointer none)) fun x0 =>
  bS (gd x0 false (some (v0, G)) G) fun x1 G2 =>
  bS (gd x0 false (bP (pNil x1) fun y => some (y, G2)) G2) fun x3 G4 =>
  bS (gd x0 false (bP (fa Q q 304 4 6 x3) fun y => some (y, G4)) G4) fun x5 G6 =>
  bS (gd x0 false (bP (ld Q q 4 x5 G6) fun y => some (y, G6)) G6) fun x7 G8 =>
  bS (gd x0 false (bP (un Q q .not x7) fun y => some (y, G8)) G8) fun x9 G10 =>
  bP (pickV x0 (.bool true) x9) fun x11 =>
  bS (gd x11 false (some (v0, G10)) G10) fun x12 G13 =>
  bS (gd x11 false (bP (pNil x12) fun y => some (y, G13)) G13) fun x14 G15 =>
  bS (gd x11 false (bP (fa Q q 304 5 7 x14) fun y => some (y, G15)) G15) fun x16 G17 =>
  bS (gd x11 false (bP (ld Q q 4 x16 G17) fun y => some (y, G17)) G17) fun x18 G19 =>
  bP (pickV x11 (.bool true) x18) fun x20 =>
  some (x20, G19)
theorem m286 {e : Ex} {E : Ev} (h : ExLe Q e E) (v0 : Value) (G : GS) : Ref (s286 true e v0 G) (s286 false (Ex.of E) v0 G) := by
  unfold s286
  exact Ref.go
theorem f286 {orc : FuncId → Bool} {e : Ex} (h : ExLe Q e (E orc)) (v0 : Value) (G : GS) : Ref (s286 true e v0 G) ((E orc).cl 286 [v0] G) :=
  fun r hr => cl_sxE_some Q orc (vs := [v0]) G Tryz.func286 (by kernel_rfl) (by kernel_rfl) (by kernel_rfl) (by kernel_rfl) (by kernel_rfl) (m286 h v0 G r hr)
/-- (*coxswain/stack.Push).second -/
noncomputable def s289 (q : Bool) (e : Ex) (v0 v1 : Value) (G : GS) : Option (Value × GS) :=
  bP (pNil v0) fun x0 =>
  bP (fa Q q 316 0 0 x0) fun x1 =>
  bP (fa Q q 304 0 0 x1) fun x2 =>
  bP (fa Q q 23 1 1 x2) fun x3 =>
  bP (ld Q q 3 x3 (G.room 20)) fun x4 =>
  bP (pNil v0) fun x5 =>
  bP (fa Q q 316 0 0 x5) fun x6 =>
  bP (fa Q q 304 2 4 x6) fun x7 =>
  bP (ld Q q 3 x7 (G.room 20)) fun x8 =>
  bP (bn Q q .add 3 (.tmp 10) (.tmp 15) x4 x8) fun x9 =>
  bP (pNil v0) fun x10 =>
  bP (fa Q q 316 0 0 x10) fun x11 =>
  bP (fa Q q 304 3 5 x11) fun x12 =>
  bP (ld Q q 3 x12 (G.room 20)) fun x13 =>
  bS (e.ev.cl 225 [x13] (G.room 20)) fun x15 G14 =>
  chk ((sameO (ld Q q 3 x7 G14) x8 && (sameO (ld Q q 3 x3 G14) x4 && true))) <|
  bS (e.ev.cl 45 [v1, x9, x15] G14) fun x17 G16 =>
  bP (pNil v0) fun x18 =>
  bP (fa Q q 316 1 9 x18) fun x19 =>
  bP (st Q q 314 1 x19 (.func (.func 314) #[] #[]) G16) fun G20 =>
  some (.tuple #[], G20)
theorem m289 {e : Ex} {E : Ev} (h : ExLe Q e E) (v0 v1 : Value) (G : GS) : Ref (s289 true e v0 v1 G) (s289 false (Ex.of E) v0 v1 G) := by
  unfold s289
  exact Ref.go
theorem f289 {orc : FuncId → Bool} {e : Ex} (h : ExLe Q e (E orc)) (v0 v1 : Value) (G : GS) : Ref (s289 true e v0 v1 G) ((E orc).cl 289 [v0, v1] G) :=
  fun r hr => cl_sxE_some Q orc (vs := [v0, v1]) G Tryz.func289 (by kernel_rfl) (by kernel_rfl) (by kernel_rfl) (by kernel_rfl) (by kernel_rfl) (m289 h v0 v1 G r hr)
/-- coxswain/epoch.sized -/
noncomputable def s291 (q : Bool) (e : Ex) (v0 : Value) (G : GS) : Option (Value × GS) :=
  bS (bx q v0 G) fun x0 G1 =>
  bP (fa Q q 63 2 2 x0) fun x2 =>
  bP (ld Q q 3 x2 G1) fun x3 =>
  bP (bn Q q .geq 3 (.tmp 4) (.const (.int .i64 1)) x3 (.int .i64 1)) fun x4 =>
  bS (gd x4 true (bP (fa Q q 63 2 2 x0) fun y => some (y, G1)) G1) fun x5 G6 =>
  bS (gd x4 true (bP (ld Q q 3 x5 G6) fun y => some (y, G6)) G6) fun x7 G8 =>
  bS (gd x4 true (bP (bn Q q .leq 3 (.tmp 8) (.const (.int .i64 64)) x7 (.int .i64 64)) fun y => some (y, G8)) G8) fun x9 G10 =>
  bP (pickV x4 x9 (.bool false)) fun x11 =>
  some (x11, G10)
theorem m291 {e : Ex} {E : Ev} (h : ExLe Q e E) (v0 : Value) (G : GS) : Ref (s291 true e v0 G) (s291 false (Ex.of E) v0 G) := by
  unfold s291
  exact Ref.go
theorem f291 {orc : FuncId → Bool} {e : Ex} (h : ExLe Q e (E orc)) (v0 : Value) (G : GS) : Ref (s291 true e v0 G) ((E orc).cl 291 [v0] G) :=
  fun r hr => cl_sxE_some Q orc (vs := [v0]) G Tryz.func291 (by kernel_rfl) (by kernel_rfl) (by kernel_rfl) (by kernel_rfl) (by kernel_rfl) (m291 h v0 G r hr)
/-- coxswain/epoch.pins -/
noncomputable def s292 (q : Bool) (e : Ex) (v0 : Value) (G : GS) : Option (Value × GS) :=
  bS (bx q v0 G) fun x0 G1 =>
  some ((.func (.func 316) #[] #[x0]), G1)
theorem m292 {e : Ex} {E : Ev} (h : ExLe Q e E) (v0 : Value) (G : GS) : Ref (s292 true e v0 G) (s292 false (Ex.of E) v0 G) := by
  unfold s292
  exact Ref.go
theorem f292 {orc : FuncId → Bool} {e : Ex} (h : ExLe Q e (E orc)) (v0 : Value) (G : GS) : Ref (s292 true e v0 G) ((E orc).cl 292 [v0] G) :=
  fun r hr => cl_sxE_some Q orc (vs := [v0]) G Tryz.func292 (by kernel_rfl) (by kernel_rfl) (by kernel_rfl) (by kernel_rfl) (by kernel_rfl) (m292 h v0 G r hr)
/-- coxswain/find.down -/
noncomputable def s293 (q : Bool) (e : Ex) (v0 v1 : Value) (G : GS) : Option (Value × GS) :=
  bS (bx q v0 G) fun x0 G1 =>
  bS (bx q v1 G1) fun x2 G3 =>
  some ((.func (.func 317) #[] #[x0, x2]), G3)
theorem m293 {e : Ex} {E : Ev} (h : ExLe Q e E) (v0 v1 : Value) (G : GS) : Ref (s293 true e v0 v1 G) (s293 false (Ex.of E) v0 v1 G) := by
  unfold s293
  exact Ref.go
theorem f293 {orc : FuncId → Bool} {e : Ex} (h : ExLe Q e (E orc)) (v0 v1 : Value) (G : GS) : Ref (s293 true e v0 v1 G) ((E orc).cl 293 [v0, v1] G) :=
  fun r hr => cl_sxE_some Q orc (vs := [v0, v1]) G Tryz.func293 (by kernel_rfl) (by kernel_rfl) (by kernel_rfl) (by kernel_rfl) (by kernel_rfl) (m293 h v0 v1 G r hr)
/-- (*coxswain/limbo.Retire).pushes -/
noncomputable def s294 (q : Bool) (e : Ex) (v0 v1 : Value) (G : GS) : Option (Value × GS) :=
  bP (pNil v0) fun x0 =>
  bP (fa Q q 343 3 14 x0) fun x1 =>
  bP (ld Q q 232 x1 G) fun x2 =>
  bS (e.ev.cl 315 [x2, v1] G) fun x3 G4 =>
  ifV x3 (
  some (.nilFunc, G4)) (
  some ((.func (.func 294) #[v0] #[]), G4))
theorem m294 {e : Ex} {E : Ev} (h : ExLe Q e E) (v0 v1 : Value) (G : GS) : Ref (s294 true e v0 v1 G) (s294 false (Ex.of E) v0 v1 G) := by
  unfold s294
  exact Ref.go
theorem f294 {orc : FuncId → Bool} {e : Ex} (h : ExLe Q e (E orc)) (v0 v1 : Value) (G : GS) : Ref (s294 true e v0 v1 G) ((E orc).cl 294 [v0, v1] G) :=
  fun r hr => cl_sxE_some Q orc (vs := [v0, v1]) G Tryz.func294 (by kernel_rfl) (by kernel_rfl) (by kernel_rfl) (by kernel_rfl) (by kernel_rfl) (m294 h v0 v1 G r hr)
/-- coxswain/stack.on$1 -/
noncomputable def s295 (q : Bool) (e : Ex) (v0 v1 : Value) (G : GS) : Option (Value × GS) :=
  bP (bn Q q .lss 3 (.tmp 4) (.const (.int .i64 0)) v0 (.int .i64 0)) fun x0 =>
  bS (gd x0 false (some (v0, G)) G) fun x1 G2 =>
  bS (gd x0 false (bP (ld Q q 26 v1 G2) fun y => some (y, G2)) G2) fun x3 G4 =>
  bS (gd x0 false (bP (ln Q q 26 x3) fun y => some (y, G4)) G4) fun x5 G6 =>
  bS (gd x0 false (bP (bn Q q .geq 3 (.tmp 7) (.tmp 9) x1 x5) fun y => some (y, G6)) G6) fun x7 G8 =>
  bP (pickV x0 (.bool true) x7) fun x9 =>
  ifV x9 (
  some ((.int .u64 0), G8)) (
  bP (ld Q q 26 v1 G8) fun x10 =>
  bP (ias Q q 26 1 x10 v0) fun x11 =>
  bP (ld Q q 49 x11 G8) fun x12 =>
  some (x12, G8))
theorem m295 {e : Ex} {E : Ev} (h : ExLe Q e E) (v0 v1 : Value) (G : GS) : Ref (s295 true e v0 v1 G) (s295 false (Ex.of E) v0 v1 G) := by
  unfold s295
  exact Ref.go
theorem f295 {orc : FuncId → Bool} {e : Ex} (h : ExLe Q e (E orc)) (v0 v1 : Value) (G : GS) : Ref (s295 true e v0 v1 G) ((E orc).cl 295 [v0, v1] G) :=
  fun r hr => cl_sxE_some Q orc (vs := [v0, v1]) G Tryz.func295 (by kernel_rfl) (by kernel_rfl) (by kernel_rfl) (by kernel_rfl) (by kernel_rfl) (m295 h v0 v1 G r hr)
instance ilp296_0 : LpIs Q 296 0 (subAt [1, 1, 0, 0] (bodyOf Tryz.f296)) 35 := ⟨by kernel_rfl, by kernel_rfl⟩
noncomputable def b296_0 (q : Bool) (e : Ex) (lp : Env → GS → Option (Exit × Env × GS)) (τ : Env) (G : GS) : Option (Exit × Env × GS) :=
  bV q (τ 0) fun a0_ =>
  bV q (τ 1) fun a1_ =>
  bV q (τ 2) fun a2_ =>
  bV q (τ 4) fun a4_ =>
  bV q (τ 5) fun a5_ =>
  bP (bn Q q .geq 3 (.tmp 12) (.const (.int .i64 0)) a4_ (.int .i64 0)) fun x0 =>
  bS (gd x0 true (some (a5_, G)) G) fun x1 G2 =>
  bS (gd x0 true (bP (fa Q q 23 2 2 a1_) fun y => some (y, G2)) G2) fun x3 G4 =>
  bS (gd x0 true (bP (ld Q q 3 x3 G4) fun y => some (y, G4)) G4) fun x5 G6 =>
  bS (gd x0 true (bP (bn Q q .lss 3 (.tmp 15) (.tmp 17) x1 x5) fun y => some (y, G6)) G6) fun x7 G8 =>
  bP (pickV x0 x7 (.bool false)) fun x9 =>
  bS (gd x9 true (some (a0_, G8)) G8) fun x10 G11 =>
  bS (gd x9 true (some (a4_, G11)) G11) fun x12 G13 =>
  bS (gd x9 true (bS (cValue e.ev x10 [x12] G13) fun y G => some (y, G)) G13) fun x14 G15 =>
  bP (pickV x9 x14 (.bool false)) fun x16 =>
  ifV x16 (
  bP (lda Q q 23 3 a1_ (G15.room 9)) fun x17 =>
  bP (ld Q q 160 a2_ (G15.room 9)) fun x18 =>
  bP (fa Q q 23 1 1 a1_) fun x19 =>
  bP (ld Q q 3 x19 (G15.room 9)) fun x20 =>
  bP (bn Q q .add 3 (.tmp 30) (.tmp 31) x20 a4_) fun x21 =>
  bS (cValue e.ev x18 [x21] (G15.room 9)) fun x23 G22 =>
  chk ((sameO (lda Q q 23 3 a1_ G22) x17 && true)) <|
  bS (e.ev.cl 297 [x17, x23] G22) fun x25 G24 =>
  bP (bn Q q .add 3 (.tmp 25) (.const (.int .i64 1)) a5_ (.int .i64 1)) fun x26 =>
  lp (tu τ [(0, a0_), (1, a1_), (2, a2_), (4, x25), (5, x26), (12, a4_), (13, x0), (14, x0), (15, x1), (16, x3), (17, x5), (18, x7), (19, x9), (20, x9), (21, x10), (22, x12), (23, x14), (24, x16), (25, a5_), (26, x26), (27, x17), (28, x18), (29, x19), (30, x20), (31, a4_), (32, x21), (33, x23), (34, x25)]) G24) (
  some ((.exit 0), clq q 35 (tu τ [(0, a0_), (1, a1_), (2, a2_), (4, a4_), (5, a5_), (12, a4_), (13, x0), (14, x0), (15, x1), (16, x3), (17, x5), (18, x7), (19, x9), (20, x9), (21, x10), (22, x12), (23, x14), (24, x16)]), G15))
theorem mb296_0 {e : Ex} {E : Ev} (h : ExLe Q e E) {lp lp' : Env → GS → Option (Exit × Env × GS)} (hlp : LpLe lp lp') (τ : Env) (G : GS) : Ref (b296_0 true e lp τ G) (b296_0 false (Ex.of E) lp' τ G) := by
  unfold b296_0
  exact Ref.go
theorem l296_0 {orc : FuncId → Bool} {e : Ex} (h : ExLe Q e (E orc)) (lp : Env → GS → Option (Exit × Env × GS)) (hlp : ∀ τ G, Ref (lp τ G) (mapE ((E orc).lp (subAt [1, 1, 0, 0] (bodyOf Tryz.f296)) (lst 35 τ) G))) (T : List Value) (G : GS) (hT : T.length = 35) : Ref (b296_0 true e lp (nth undef T) G) (mapE ((E orc).lp (subAt [1, 1, 0, 0] (bodyOf Tryz.f296)) T G)) :=
  fun r hr => lp_sxM Q orc G hT (by kernel_rfl) (mb296_0 h ⟨hlp⟩ _ _ r hr)
/-- coxswain/stack.on$2 -/
noncomputable def s296 (q : Bool) (e : Ex) (v0 v1 v2 : Value) (G : GS) : Option (Value × GS) :=
  bP (lda Q q 23 3 v1 (G.room 7)) fun x0 =>
  bP (ld Q q 160 v2 (G.room 7)) fun x1 =>
  bP (fa Q q 23 0 0 v1) fun x2 =>
  bP (ld Q q 3 x2 (G.room 7)) fun x3 =>
  bS (cValue e.ev x1 [x3] (G.room 7)) fun x5 G4 =>
  chk ((sameO (lda Q q 23 3 v1 G4) x0 && true)) <|
  bS (e.ev.cl 297 [x0, x5] G4) fun x7 G6 =>
  bL q e 296 0 (subAt [1, 1, 0, 0] (bodyOf Tryz.f296)) 35 (tu (nth undef [v0, v1, v2]) [(4, x7), (5, (.int .i64 0)), (6, x0), (7, x1), (8, x2), (9, x3), (10, x5), (11, x7)]) G6 fun e8 t9 G10 =>
  ifE e8 (.exit 0) (
  some (.tuple #[], G10)) (none)
theorem m296 {e : Ex} {E : Ev} (h : ExLe Q e E) (v0 v1 v2 : Value) (G : GS) : Ref (s296 true e v0 v1 v2 G) (s296 false (Ex.of E) v0 v1 v2 G) := by
  unfold s296
  exact Ref.go
theorem f296 {orc : FuncId → Bool} {e : Ex} (h : ExLe Q e (E orc)) (v0 v1 v2 : Value) (G : GS) : Ref (s296 true e v0 v1 v2 G) ((E orc).cl 296 [v0, v1, v2] G) :=
  fun r hr => cl_sxE_some Q orc (vs := [v0, v1, v2]) G Tryz.func296 (by kernel_rfl) (by kernel_rfl) (by kernel_rfl) (by kernel_rfl) (by kernel_rfl) (m296 h v0 v1 v2 G r hr)
/-- coxswain/stack.read -/
noncomputable def s297 (q : Bool) (e : Ex) (v0 v1 : Value) (G : GS) : Option (Value × GS) :=
  bS (bx q v0 G) fun x0 G1 =>
  bS (e.ev.cl 172 [v1] G1) fun x2 G3 =>
  bP (pExtract x2 0) fun x4 =>
  bP (pExtract x2 1) fun x5 =>
  bS (al Q q 250 z250 G3) fun x6 G7 =>
  bP (st Q q 250 2 x6 x4 G7) fun G8 =>
  bP (fa Q q 250 0 0 x6) fun x9 =>
  bP (ld Q q 3 x9 G8) fun x10 =>
  bP (fa Q q 23 2 2 x0) fun x11 =>
  bP (ld Q q 3 x11 G8) fun x12 =>
  bP (bn Q q .geq 3 (.tmp 13) (.tmp 15) x10 x12) fun x13 =>
  ifV x13 (
  some ((.int .i64 (-1)), G8)) (
  bP (fa Q q 250 0 0 x6) fun x14 =>
  bP (ld Q q 3 x14 G8) fun x15 =>
  some (x15, G8))
theorem m297 {e : Ex} {E : Ev} (h : ExLe Q e E) (v0 v1 : Value) (G : GS) : Ref (s297 true e v0 v1 G) (s297 false (Ex.of E) v0 v1 G) := by
  unfold s297
  exact Ref.go
theorem f297 {orc : FuncId → Bool} {e : Ex} (h : ExLe Q e (E orc)) (v0 v1 : Value) (G : GS) : Ref (s297 true e v0 v1 G) ((E orc).cl 297 [v0, v1] G) :=
  fun r hr => cl_sxE_some Q orc (vs := [v0, v1]) G Tryz.func297 (by kernel_rfl) (by kernel_rfl) (by kernel_rfl) (by kernel_rfl) (by kernel_rfl) (m297 h v0 v1 G r hr)
instance ilp309_0 : LpIs Q 309 0 (subAt [1, 0, 1, 0, 0] (bodyOf Tryz.f309)) 24 := ⟨by kernel_rfl, by kernel_rfl⟩
noncomputable def b309_0 (q : Bool) (e : Ex) (lp : Env → GS → Option (Exit × Env × GS)) (τ : Env) (G : GS) : Option (Exit × Env × GS) :=
  bV q (τ 5) fun a5_ =>
  bV q (τ 6) fun a6_ =>
  bV q (τ 7) fun a7_ =>
  bP (bn Q q .lss 3 (.tmp 7) (.tmp 6) a7_ a6_) fun x0 =>
  ifV x0 (
  bP (ias Q q 396 3 a5_ a7_) fun x1 =>
  bP (lda Q q 391 3 x1 G) fun x2 =>
  bS (al Q q 391 z391 G) fun x3 G4 =>
  bP (st Q q 391 3 x3 x2 G4) fun G5 =>
  bP (fa Q q 391 0 0 x3) fun x6 =>
  bP (ld Q q 3 x6 G5) fun x7 =>
  bP (fa Q q 391 1 1 x3) fun x8 =>
  bP (ld Q q 3 x8 G5) fun x9 =>
  bP (bn Q q .lss 3 (.tmp 12) (.tmp 14) x7 x9) fun x10 =>
  bS (gd x10 false (bP (fa Q q 391 0 0 x3) fun y => some (y, G5)) G5) fun x11 G12 =>
  bS (gd x10 false (bP (ld Q q 3 x11 G12) fun y => some (y, G12)) G12) fun x13 G14 =>
  bS (gd x10 false (bP (fa Q q 391 2 2 x3) fun y => some (y, G14)) G14) fun x15 G16 =>
  bS (gd x10 false (bP (ld Q q 3 x15 G16) fun y => some (y, G16)) G16) fun x17 G18 =>
  bS (gd x10 false (bP (bn Q q .gtr 3 (.tmp 18) (.tmp 20) x13 x17) fun y => some (y, G18)) G18) fun x19 G20 =>
  bP (pickV x10 (.bool true) x19) fun x21 =>
  ifV x21 (
  some (.ret, clq q 24 (tu τ [(5, a5_), (6, a6_), (7, a7_), (2, (.bool false)), (4, x3), (8, x0), (9, x1), (10, x2), (11, x6), (12, x7), (13, x8), (14, x9), (15, x10), (16, x10), (17, x11), (18, x13), (19, x15), (20, x17), (21, x19), (22, x21)]), G20)) (
  bP (bn Q q .add 3 (.tmp 7) (.const (.int .i64 1)) a7_ (.int .i64 1)) fun x22 =>
  lp (tu τ [(5, a5_), (6, a6_), (7, x22), (4, x3), (8, x0), (9, x1), (10, x2), (11, x6), (12, x7), (13, x8), (14, x9), (15, x10), (16, x10), (17, x11), (18, x13), (19, x15), (20, x17), (21, x19), (22, x21), (23, x22)]) G20)) (
  some ((.exit 0), clq q 24 (tu τ [(5, a5_), (6, a6_), (7, a7_), (8, x0)]), G))
theorem mb309_0 {e : Ex} {E : Ev} (h : ExLe Q e E) {lp lp' : Env → GS → Option (Exit × Env × GS)} (hlp : LpLe lp lp') (τ : Env) (G : GS) : Ref (b309_0 true e lp τ G) (b309_0 false (Ex.of E) lp' τ G) := by
  unfold b309_0
  exact Ref.go
theorem l309_0 {orc : FuncId → Bool} {e : Ex} (h : ExLe Q e (E orc)) (lp : Env → GS → Option (Exit × Env × GS)) (hlp : ∀ τ G, Ref (lp τ G) (mapE ((E orc).lp (subAt [1, 0, 1, 0, 0] (bodyOf Tryz.f309)) (lst 24 τ) G))) (T : List Value) (G : GS) (hT : T.length = 24) : Ref (b309_0 true e lp (nth undef T) G) (mapE ((E orc).lp (subAt [1, 0, 1, 0, 0] (bodyOf Tryz.f309)) T G)) :=
  fun r hr => lp_sxM Q orc G hT (by kernel_rfl) (mb309_0 h ⟨hlp⟩ _ _ r hr)
/-- coxswain/word.within -/
noncomputable def s309 (q : Bool) (e : Ex) (v0 : Value) (G : GS) : Option (Value × GS) :=
  bP (ln Q q 396 v0) fun x0 =>
  bL q e 309 0 (subAt [1, 0, 1, 0, 0] (bodyOf Tryz.f309)) 24 (tu (nth undef [v0]) [(2, (.bool false)), (5, v0), (6, x0), (7, (.int .i64 0))]) G fun e1 t2 G3 =>
  bV q (t2 2) fun t2x2_ =>
  ifE e1 (.exit 0) (
  some ((.bool true), G3)) (ifE e1 .ret (
  some (t2x2_, G3)) (none))
theorem m309 {e : Ex} {E : Ev} (h : ExLe Q e E) (v0 : Value) (G : GS) : Ref (s309 true e v0 G) (s309 false (Ex.of E) v0 G) := by
  unfold s309
  exact Ref.go
theorem f309 {orc : FuncId → Bool} {e : Ex} (h : ExLe Q e (E orc)) (v0 : Value) (G : GS) : Ref (s309 true e v0 G) ((E orc).cl 309 [v0] G) :=
  fun r hr => cl_sxE_some Q orc (vs := [v0]) G Tryz.func309 (by kernel_rfl) (by kernel_rfl) (by kernel_rfl) (by kernel_rfl) (by kernel_rfl) (m309 h v0 G r hr)
instance ilp310_0 : LpIs Q 310 0 (subAt [1, 1, 0, 1, 0, 0] (bodyOf Tryz.f310)) 24 := ⟨by kernel_rfl, by kernel_rfl⟩
noncomputable def b310_0 (q : Bool) (e : Ex) (lp : Env → GS → Option (Exit × Env × GS)) (τ : Env) (G : GS) : Option (Exit × Env × GS) :=
  bV q (τ 1) fun a1_ =>
  bV q (τ 5) fun a5_ =>
  bV q (τ 8) fun a8_ =>
  bV q (τ 9) fun a9_ =>
  bV q (τ 10) fun a10_ =>
  bP (bn Q q .lss 3 (.tmp 10) (.tmp 9) a10_ a9_) fun x0 =>
  ifV x0 (
  bP (ias Q q 393 2 a8_ a10_) fun x1 =>
  bP (lda Q q 324 2 x1 G) fun x2 =>
  bS (al Q q 324 z324 G) fun x3 G4 =>
  bP (st Q q 324 2 x3 x2 G4) fun G5 =>
  bP (lda Q q 324 2 x3 (G5.room 8)) fun x6 =>
  bP (ias Q q 139 1 a1_ a10_) fun x7 =>
  bP (ld Q q 3 x7 (G5.room 8)) fun x8 =>
  bS (e.ev.cl 321 [a5_, x6, x8] (G5.room 8)) fun x10 G9 =>
  bP (bn Q q .add 3 (.tmp 10) (.const (.int .i64 1)) a10_ (.int .i64 1)) fun x11 =>
  lp (tu τ [(1, a1_), (5, x10), (8, a8_), (9, a9_), (10, x11), (6, a10_), (7, x3), (11, x0), (12, a10_), (13, x1), (14, x2), (15, a5_), (16, x6), (17, a1_), (18, a10_), (19, x7), (20, x8), (21, x10), (22, x11)]) G9) (
  some ((.exit 0), clq q 24 (tu τ [(1, a1_), (5, a5_), (8, a8_), (9, a9_), (10, a10_), (11, x0)]), G))
theorem mb310_0 {e : Ex} {E : Ev} (h : ExLe Q e E) {lp lp' : Env → GS → Option (Exit × Env × GS)} (hlp : LpLe lp lp') (τ : Env) (G : GS) : Ref (b310_0 true e lp τ G) (b310_0 false (Ex.of E) lp' τ G) := by
  unfold b310_0
  exact Ref.go
theorem l310_0 {orc : FuncId → Bool} {e : Ex} (h : ExLe Q e (E orc)) (lp : Env → GS → Option (Exit × Env × GS)) (hlp : ∀ τ G, Ref (lp τ G) (mapE ((E orc).lp (subAt [1, 1, 0, 1, 0, 0] (bodyOf Tryz.f310)) (lst 24 τ) G))) (T : List Value) (G : GS) (hT : T.length = 24) : Ref (b310_0 true e lp (nth undef T) G) (mapE ((E orc).lp (subAt [1, 1, 0, 1, 0, 0] (bodyOf Tryz.f310)) T G)) :=
  fun r hr => lp_sxM Q orc G hT (by kernel_rfl) (mb310_0 h ⟨hlp⟩ _ _ r hr)
/-- coxswain/word.lay -/
noncomputable def s310 (q : Bool) (e : Ex) (v0 v1 : Value) (G : GS) : Option (Value × GS) :=
  bP (ln Q q 393 v0) fun x0 =>
  bL q e 310 0 (subAt [1, 1, 0, 1, 0, 0] (bodyOf Tryz.f310)) 24 (tu (nth undef [v0, v1]) [(4, (.int .u64 0)), (5, (.int .u64 0)), (8, v0), (9, x0), (10, (.int .i64 0))]) G fun e1 t2 G3 =>
  bV q (t2 5) fun t2x5_ =>
  ifE e1 (.exit 0) (
  some (t2x5_, G3)) (none)
theorem m310 {e : Ex} {E : Ev} (h : ExLe Q e E) (v0 v1 : Value) (G : GS) : Ref (s310 true e v0 v1 G) (s310 false (Ex.of E) v0 v1 G) := by
  unfold s310
  exact Ref.go
theorem f310 {orc : FuncId → Bool} {e : Ex} (h : ExLe Q e (E orc)) (v0 v1 : Value) (G : GS) : Ref (s310 true e v0 v1 G) ((E orc).cl 310 [v0, v1] G) :=
  fun r hr => cl_sxE_some Q orc (vs := [v0, v1]) G Tryz.func310 (by kernel_rfl) (by kernel_rfl) (by kernel_rfl) (by kernel_rfl) (by kernel_rfl) (m310 h v0 v1 G r hr)
/-- (*coxswain/stack.Push).third -/
noncomputable def s314 (q : Bool) (e : Ex) (v0 v1 : Value) (G : GS) : Option (Value × GS) :=
  bP (pNil v0) fun x0 =>
  bP (fa Q q 316 1 9 x0) fun x1 =>
  bP (st Q q 314 1 x1 (.func (.func 235) #[] #[]) G) fun G2 =>
  bP (pNil v0) fun x3 =>
  bP (fa Q q 316 0 0 x3) fun x4 =>
  bP (pNil v0) fun x5 =>
  bP (fa Q q 316 0 0 x5) fun x6 =>
  bP (fa Q q 304 2 4 x6) fun x7 =>
  bP (ld Q q 3 x7 (G2.room 10)) fun x8 =>
  bS (e.ev.cl 322 [x4, v1, x8] (G2.room 10)) fun x10 G9 =>
  ifV x10 (
  bP (pNil v0) fun x11 =>
  bP (fa Q q 316 0 0 x11) fun x12 =>
  bS (e.ev.cl 236 [x12, (.int .i64 0)] G9) fun x13 G14 =>
  some (.tuple #[], G14)) (
  some (.tuple #[], G9))
theorem m314 {e : Ex} {E : Ev} (h : ExLe Q e E) (v0 v1 : Value) (G : GS) : Ref (s314 true e v0 v1 G) (s314 false (Ex.of E) v0 v1 G) := by
  unfold s314
  exact Ref.go
theorem f314 {orc : FuncId → Bool} {e : Ex} (h : ExLe Q e (E orc)) (v0 v1 : Value) (G : GS) : Ref (s314 true e v0 v1 G) ((E orc).cl 314 [v0, v1] G) :=
  fun r hr => cl_sxE_some Q orc (vs := [v0, v1]) G Tryz.func314 (by kernel_rfl) (by kernel_rfl) (by kernel_rfl) (by kernel_rfl) (by kernel_rfl) (m314 h v0 v1 G r hr)
/-- (*coxswain/stack.Push).Step -/
noncomputable def s315 (q : Bool) (e : Ex) (v0 v1 : Value) (G : GS) : Option (Value × GS) :=
  bP (ep Q q false 232 (.tmp 5) (.const (.pointer none)) v0 (.pointer none)) fun x0 =>
  bS (gd x0 false (some (v0, G)) G) fun x1 G2 =>
  bS (gd x0 false (bP (pNil x1) fun y => some (y, G2)) G2) fun x3 G4 =>
  bS (gd x0 false (bP (fa Q q 316 0 0 x3) fun y => some (y, G4)) G4) fun x5 G6 =>
  bS (gd x0 false (bS (e.ev.cl 286 [x5] G6) fun y G => some (y, G)) G6) fun x7 G8 =>
  bP (pickV x0 (.bool true) x7) fun x9 =>
  ifV x9 (
  some ((.bool true), G8)) (
  bP (pNil v0) fun x10 =>
  bP (fa Q q 316 1 9 x10) fun x11 =>
  bP (ld Q q 314 x11 G8) fun x12 =>
  bS (cValue e.ev x12 [v0, v1] G8) fun x13 G14 =>
  bP (pNil v0) fun x15 =>
  bP (fa Q q 316 0 0 x15) fun x16 =>
  bP (fa Q q 304 5 7 x16) fun x17 =>
  bP (ld Q q 4 x17 G14) fun x18 =>
  some (x18, G14))
theorem m315 {e : Ex} {E : Ev} (h : ExLe Q e E) (v0 v1 : Value) (G : GS) : Ref (s315 true e v0 v1 G) (s315 false (Ex.of E) v0 v1 G) := by
  unfold s315
  exact Ref.go
theorem f315 {orc : FuncId → Bool} {e : Ex} (h : ExLe Q e (E orc)) (v0 v1 : Value) (G : GS) : Ref (s315 true e v0 v1 G) ((E orc).cl 315 [v0, v1] G) :=
  fun r hr => cl_sxE_some Q orc (vs := [v0, v1]) G Tryz.func315 (by kernel_rfl) (by kernel_rfl) (by kernel_rfl) (by kernel_rfl) (by kernel_rfl) (m315 h v0 v1 G r hr)
instance ilp316_0 : LpIs Q 316 0 (subAt [1, 0, 0] (bodyOf Tryz.f316)) 18 := ⟨by kernel_rfl, by kernel_rfl⟩
noncomputable def b316_0 (q : Bool) (e : Ex) (lp : Env → GS → Option (Exit × Env × GS)) (τ : Env) (G : GS) : Option (Exit × Env × GS) :=
  bV q (τ 0) fun a0_ =>
  bV q (τ 1) fun a1_ =>
  bV q (τ 5) fun a5_ =>
  bV q (τ 6) fun a6_ =>
  bP (bn Q q .lss 3 (.tmp 6) (.tmp 5) a6_ a5_) fun x0 =>
  ifV x0 (
  bP (fa Q q 63 1 1 a1_) fun x1 =>
  bP (ld Q q 3 x1 G) fun x2 =>
  bP (bn Q q .add 3 (.tmp 12) (.tmp 13) x2 a6_) fun x3 =>
  bS (cValue e.ev a0_ [a6_, x3] G) fun x4 G5 =>
  bP (un Q q .not x4) fun x6 =>
  ifV x6 (
  some (.ret, clq q 18 (tu τ [(0, a0_), (1, a1_), (5, a5_), (6, a6_), (3, a6_), (7, x0), (8, a6_), (9, a0_), (10, a6_), (11, x1), (12, x2), (13, a6_), (14, x3), (15, x4), (16, x6)]), G5)) (
  bP (bn Q q .add 3 (.tmp 6) (.const (.int .i64 1)) a6_ (.int .i64 1)) fun x7 =>
  lp (tu τ [(0, a0_), (1, a1_), (5, a5_), (6, x7), (3, a6_), (7, x0), (8, a6_), (9, a0_), (10, a6_), (11, x1), (12, x2), (13, a6_), (14, x3), (15, x4), (16, x6), (17, x7)]) G5)) (
  some ((.exit 0), clq q 18 (tu τ [(0, a0_), (1, a1_), (5, a5_), (6, a6_), (7, x0)]), G))
theorem mb316_0 {e : Ex} {E : Ev} (h : ExLe Q e E) {lp lp' : Env → GS → Option (Exit × Env × GS)} (hlp : LpLe lp lp') (τ : Env) (G : GS) : Ref (b316_0 true e lp τ G) (b316_0 false (Ex.of E) lp' τ G) := by
  unfold b316_0
  exact Ref.go
theorem l316_0 {orc : FuncId → Bool} {e : Ex} (h : ExLe Q e (E orc)) (lp : Env → GS → Option (Exit × Env × GS)) (hlp : ∀ τ G, Ref (lp τ G) (mapE ((E orc).lp (subAt [1, 0, 0] (bodyOf Tryz.f316)) (lst 18 τ) G))) (T : List Value) (G : GS) (hT : T.length = 18) : Ref (b316_0 true e lp (nth undef T) G) (mapE ((E orc).lp (subAt [1, 0, 0] (bodyOf Tryz.f316)) T G)) :=
  fun r hr => lp_sxM Q orc G hT (by kernel_rfl) (mb316_0 h ⟨hlp⟩ _ _ r hr)
/-- coxswain/epoch.pins$1 -/
noncomputable def s316 (q : Bool) (e : Ex) (v0 v1 : Value) (G : GS) : Option (Value × GS) :=
  bP (fa Q q 63 2 2 v1) fun x0 =>
  bP (ld Q q 3 x0 G) fun x1 =>
  bL q e 316 0 (subAt [1, 0, 0] (bodyOf Tryz.f316)) 18 (tu (nth undef [v0, v1]) [(4, x0), (5, x1), (6, (.int .i64 0))]) G fun e2 t3 G4 =>
  ifE e2 (.exit 0) (
  some (.tuple #[], G4)) (ifE e2 .ret (
  some (.tuple #[], G4)) (none))
theorem m316 {e : Ex} {E : Ev} (h : ExLe Q e E) (v0 v1 : Value) (G : GS) : Ref (s316 true e v0 v1 G) (s316 false (Ex.of E) v0 v1 G) := by
  unfold s316
  exact Ref.go
theorem f316 {orc : FuncId → Bool} {e : Ex} (h : ExLe Q e (E orc)) (v0 v1 : Value) (G : GS) : Ref (s316 true e v0 v1 G) ((E orc).cl 316 [v0, v1] G) :=
  fun r hr => cl_sxE_some Q orc (vs := [v0, v1]) G Tryz.func316 (by kernel_rfl) (by kernel_rfl) (by kernel_rfl) (by kernel_rfl) (by kernel_rfl) (m316 h v0 v1 G r hr)
instance ilp317_0 : LpIs Q 317 0 (subAt [1, 1, 0, 0] (bodyOf Tryz.f317)) 25 := ⟨by kernel_rfl, by kernel_rfl⟩
noncomputable def b317_0 (q : Bool) (e : Ex) (lp : Env → GS → Option (Exit × Env × GS)) (τ : Env) (G : GS) : Option (Exit × Env × GS) :=
  bV q (τ 0) fun a0_ =>
  bV q (τ 2) fun a2_ =>
  bV q (τ 4) fun a4_ =>
  bV q (τ 5) fun a5_ =>
  bP (bn Q q .geq 3 (.tmp 9) (.const (.int .i64 0)) a5_ (.int .i64 0)) fun x0 =>
  ifV x0 (
  bP (fa Q q 256 0 0 a4_) fun x1 =>
  bP (st Q q 3 1 x1 a5_ G) fun G2 =>
  bP (fa Q q 256 3 3 a4_) fun x3 =>
  bP (st Q q 49 1 x3 (.int .u64 0) G2) fun G4 =>
  bP (lda Q q 256 4 a4_ G4) fun x5 =>
  bS (cValue e.ev a0_ [a5_, x5] G4) fun x6 G7 =>
  bP (un Q q .not x6) fun x8 =>
  ifV x8 (
  some (.ret, clq q 25 (tu τ [(0, a0_), (2, a2_), (4, a4_), (5, a5_), (9, a5_), (10, x0), (13, a5_), (14, x1), (15, x3), (16, a0_), (17, a5_), (18, x5), (19, x6), (20, x8)]), G7)) (
  bP (ld Q q 257 a2_ G7) fun x9 =>
  bP (ias Q q 257 4 x9 a5_) fun x10 =>
  bP (lda Q q 256 4 x10 G7) fun x11 =>
  bP (st Q q 256 4 a4_ x11 G7) fun G12 =>
  bP (bn Q q .sub 3 (.tmp 11) (.const (.int .i64 1)) a5_ (.int .i64 1)) fun x13 =>
  lp (tu τ [(0, a0_), (2, a2_), (4, a4_), (5, x13), (9, a5_), (10, x0), (11, a5_), (12, x13), (13, a5_), (14, x1), (15, x3), (16, a0_), (17, a5_), (18, x5), (19, x6), (20, x8), (21, x9), (22, a5_), (23, x10), (24, x11)]) G12)) (
  some ((.exit 0), clq q 25 (tu τ [(0, a0_), (2, a2_), (4, a4_), (5, a5_), (9, a5_), (10, x0)]), G))
theorem mb317_0 {e : Ex} {E : Ev} (h : ExLe Q e E) {lp lp' : Env → GS → Option (Exit × Env × GS)} (hlp : LpLe lp lp') (τ : Env) (G : GS) : Ref (b317_0 true e lp τ G) (b317_0 false (Ex.of E) lp' τ G) := by
  unfold b317_0
  exact Ref.go
theorem l317_0 {orc : FuncId → Bool} {e : Ex} (h : ExLe Q e (E orc)) (lp : Env → GS → Option (Exit × Env × GS)) (hlp : ∀ τ G, Ref (lp τ G) (mapE ((E orc).lp (subAt [1, 1, 0, 0] (bodyOf Tryz.f317)) (lst 25 τ) G))) (T : List Value) (G : GS) (hT : T.length = 25) : Ref (b317_0 true e lp (nth undef T) G) (mapE ((E orc).lp (subAt [1, 1, 0, 0] (bodyOf Tryz.f317)) T G)) :=
  fun r hr => lp_sxM Q orc G hT (by kernel_rfl) (mb317_0 h ⟨hlp⟩ _ _ r hr)
/-- coxswain/find.down$1 -/
noncomputable def s317 (q : Bool) (e : Ex) (v0 v1 v2 : Value) (G : GS) : Option (Value × GS) :=
  bP (bd Q q 256 z256 [(1, 1, 1)] [(.int .i64 (-1))]) fun x0 =>
  bS (al Q q 256 z256 G) fun x1 G2 =>
  bP (st Q q 256 4 x1 x0 G2) fun G3 =>
  bP (ld Q q 3 v1 G3) fun x4 =>
  bP (bn Q q .sub 3 (.tmp 7) (.const (.int .i64 1)) x4 (.int .i64 1)) fun x5 =>
  bL q e 317 0 (subAt [1, 1, 0, 0] (bodyOf Tryz.f317)) 25 (tu (nth undef [v0, v1, v2]) [(4, x1), (5, x5), (6, x0), (7, x4), (8, x5)]) G3 fun e6 t7 G8 =>
  ifE e6 (.exit 0) (
  some (.tuple #[], G8)) (ifE e6 .ret (
  some (.tuple #[], G8)) (none))
theorem m317 {e : Ex} {E : Ev} (h : ExLe Q e E) (v0 v1 v2 : Value) (G : GS) : Ref (s317 true e v0 v1 v2 G) (s317 false (Ex.of E) v0 v1 v2 G) := by
  unfold s317
  exact Ref.go
theorem f317 {orc : FuncId → Bool} {e : Ex} (h : ExLe Q e (E orc)) (v0 v1 v2 : Value) (G : GS) : Ref (s317 true e v0 v1 v2 G) ((E orc).cl 317 [v0, v1, v2] G) :=
  fun r hr => cl_sxE_some Q orc (vs := [v0, v1, v2]) G Tryz.func317 (by kernel_rfl) (by kernel_rfl) (by kernel_rfl) (by kernel_rfl) (by kernel_rfl) (m317 h v0 v1 v2 G r hr)
/-- (coxswain/word.raw).with -/
noncomputable def s321 (q : Bool) (e : Ex) (v0 v1 v2 : Value) (G : GS) : Option (Value × GS) :=
  bS (bx q v1 G) fun x0 G1 =>
  bP (cv Q q 3 49 .i64 .u64 v2) fun x2 =>
  bP (fa Q q 324 0 0 x0) fun x3 =>
  bP (ld Q q 3 x3 G1) fun x4 =>
  bP (bn Q q .shl 49 (.tmp 9) (.tmp 11) x2 x4) fun x5 =>
  bP (bn Q q .or 327 (.tmp 7) (.tmp 12) v0 x5) fun x6 =>
  some (x6, G1)
theorem m321 {e : Ex} {E : Ev} (h : ExLe Q e E) (v0 v1 v2 : Value) (G : GS) : Ref (s321 true e v0 v1 v2 G) (s321 false (Ex.of E) v0 v1 v2 G) := by
  unfold s321
  exact Ref.go
theorem f321 {orc : FuncId → Bool} {e : Ex} (h : ExLe Q e (E orc)) (v0 v1 v2 : Value) (G : GS) : Ref (s321 true e v0 v1 v2 G) ((E orc).cl 321 [v0, v1, v2] G) :=
  fun r hr => cl_sxE_some Q orc (vs := [v0, v1, v2]) G Tryz.func321 (by kernel_rfl) (by kernel_rfl) (by kernel_rfl) (by kernel_rfl) (by kernel_rfl) (m321 h v0 v1 v2 G r hr)
/-- (*coxswain/stack.held).swap -/
noncomputable def s322 (q : Bool) (e : Ex) (v0 v1 v2 : Value) (G : GS) : Option (Value × GS) :=
  bP (pNil v0) fun x0 =>
  bP (fa Q q 304 1 3 x0) fun x1 =>
  bP (ld Q q 49 x1 G) fun x2 =>
  bS (e.ev.cl 172 [x2] G) fun x3 G4 =>
  bP (pExtract x3 0) fun x5 =>
  bP (pExtract x3 1) fun x6 =>
  bS (al Q q 250 z250 G4) fun x7 G8 =>
  bP (st Q q 250 2 x7 x5 G8) fun G9 =>
  bP (fa Q q 250 1 1 x7) fun x10 =>
  bP (ld Q q 3 x10 G9) fun x11 =>
  bP (bn Q q .add 3 (.tmp 22) (.const (.int .i64 1)) x11 (.int .i64 1)) fun x12 =>
  bP (bn Q q .and 3 (.tmp 23) (.const (.int .i64 281474976710655)) x12 (.int .i64 281474976710655)) fun x13 =>
  bP (bd Q q 250 z250 [(0, 0, 1), (1, 1, 1)] [v2, x13]) fun x14 =>
  bS (e.ev.cl 283 [x14] G9) fun x15 G16 =>
  bP (pExtract x15 0) fun x17 =>
  bP (pExtract x15 1) fun x18 =>
  bP (pNil v0) fun x19 =>
  bP (fa Q q 304 0 0 x19) fun x20 =>
  bP (fa Q q 23 0 0 x20) fun x21 =>
  bP (ld Q q 3 x21 (G16.room 13)) fun x22 =>
  bP (pNil v0) fun x23 =>
  bP (fa Q q 304 1 3 x23) fun x24 =>
  bP (ld Q q 49 x24 (G16.room 13)) fun x25 =>
  bS (e.ev.cl 100 [v1, x22, x25, x17] (G16.room 13)) fun x27 G26 =>
  some (x27, G26)
theorem m322 {e : Ex} {E : Ev} (h : ExLe Q e E) (v0 v1 v2 : Value) (G : GS) : Ref (s322 true e v0 v1 v2 G) (s322 false (Ex.of E) v0 v1 v2 G) := by
  unfold s322
  exact Ref.go
theorem f322 {orc : FuncId → Bool} {e : Ex} (h : ExLe Q e (E orc)) (v0 v1 v2 : Value) (G : GS) : Ref (s322 true e v0 v1 v2 G) ((E orc).cl 322 [v0, v1, v2] G) :=
  fun r hr => cl_sxE_some Q orc (vs := [v0, v1, v2]) G Tryz.func322 (by kernel_rfl) (by kernel_rfl) (by kernel_rfl) (by kernel_rfl) (by kernel_rfl) (m322 h v0 v1 v2 G r hr)
/-- (coxswain/tower.node).cells -/
noncomputable def s347 (q : Bool) (e : Ex) (v0 : Value) (G : GS) : Option (Value × GS) :=
  bP (bn Q q .add 3 (.const (.int .i64 4)) (.tmp 3) (.int .i64 4) v0) fun x0 =>
  some (x0, G)
theorem m347 {e : Ex} {E : Ev} (h : ExLe Q e E) (v0 : Value) (G : GS) : Ref (s347 true e v0 G) (s347 false (Ex.of E) v0 G) := by
  unfold s347
  exact Ref.go
theorem f347 {orc : FuncId → Bool} {e : Ex} (h : ExLe Q e (E orc)) (v0 : Value) (G : GS) : Ref (s347 true e v0 G) ((E orc).cl 347 [v0] G) :=
  fun r hr => cl_sxE_some Q orc (vs := [v0]) G Tryz.func347 (by kernel_rfl) (by kernel_rfl) (by kernel_rfl) (by kernel_rfl) (by kernel_rfl) (m347 h v0 G r hr)
/-- (coxswain/tower.head).cells -/
noncomputable def s348 (q : Bool) (e : Ex) (v0 : Value) (G : GS) : Option (Value × GS) :=
  some (v0, G)
theorem m348 {e : Ex} {E : Ev} (h : ExLe Q e E) (v0 : Value) (G : GS) : Ref (s348 true e v0 G) (s348 false (Ex.of E) v0 G) := by
  unfold s348
  exact Ref.go
theorem f348 {orc : FuncId → Bool} {e : Ex} (h : ExLe Q e (E orc)) (v0 : Value) (G : GS) : Ref (s348 true e v0 G) ((E orc).cl 348 [v0] G) :=
  fun r hr => cl_sxE_some Q orc (vs := [v0]) G Tryz.func348 (by kernel_rfl) (by kernel_rfl) (by kernel_rfl) (by kernel_rfl) (by kernel_rfl) (m348 h v0 G r hr)
end Go.Proofs.YtgcceeillefbpaaGreat.Lift
