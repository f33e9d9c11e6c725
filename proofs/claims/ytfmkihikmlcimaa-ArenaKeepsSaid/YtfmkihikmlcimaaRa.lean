/- the program's code, spelled out by a program of ours (lift3.lean) -/
import Derived.Test.YtfmkihikmlcimaaProg
import Derived.Test.YtfmkihikmlcimaaGhPJ
import Derived.Test.YtfmkihikmlcimaaGhPG
import Derived.KernelRfl
namespace Go.Proofs.Ytfmkihikmlcimaa.Lift
open Go Go.Proofs.Ytfmkihikmlcimaa.Gh Go.Proofs
set_option linter.unusedVariables false
set_option maxRecDepth 100000
@[reducible] noncomputable def Q : Program := Try.prog
@[reducible] noncomputable def E (orc : FuncId → Bool) : Ev := evL Try.prog orc
instance ilp3_0 : LpIs Q 3 0 (subAt [1, 1, 1, 1, 1, 1, 0, 1, 0, 0] (bodyOf Try.f3)) 93 := ⟨by kernel_rfl, by kernel_rfl⟩
instance ilp8_0 : LpIs Q 8 0 (subAt [1, 0, 1, 0, 0] (bodyOf Try.f8)) 80 := ⟨by kernel_rfl, by kernel_rfl⟩
instance ilp8_1 : LpIs Q 8 1 (subAt [1, 1, 0, 1, 0, 0] (bodyOf Try.f8)) 80 := ⟨by kernel_rfl, by kernel_rfl⟩
instance ilp8_2 : LpIs Q 8 2 (subAt [1, 1, 0, 1, 0, 0, 1, 0, 0, 1, 0, 0] (bodyOf Try.f8)) 80 := ⟨by kernel_rfl, by kernel_rfl⟩
instance ilp9_0 : LpIs Q 9 0 (subAt [1, 1, 1, 0, 1, 0, 0] (bodyOf Try.f9)) 42 := ⟨by kernel_rfl, by kernel_rfl⟩
instance ilp10_0 : LpIs Q 10 0 (subAt [1, 1, 1, 1, 0, 1, 0, 0] (bodyOf Try.f10)) 72 := ⟨by kernel_rfl, by kernel_rfl⟩
instance ilp23_0 : LpIs Q 23 0 (subAt [1, 1, 1, 1, 1, 0, 0] (bodyOf Try.f23)) 29 := ⟨by kernel_rfl, by kernel_rfl⟩
instance ilp25_0 : LpIs Q 25 0 (subAt [1, 1, 1, 1, 1, 1, 1, 1, 1, 1, 1, 0, 1, 0, 0] (bodyOf Try.f25)) 204 := ⟨by kernel_rfl, by kernel_rfl⟩
instance ilp56_0 : LpIs Q 56 0 (subAt [1, 1, 1, 1, 0, 0] (bodyOf Try.f56)) 34 := ⟨by kernel_rfl, by kernel_rfl⟩
instance ilp124_0 : LpIs Q 124 0 (subAt [1, 0, 1, 0, 0] (bodyOf Try.f124)) 24 := ⟨by kernel_rfl, by kernel_rfl⟩
instance ilp126_0 : LpIs Q 126 0 (subAt [1, 1, 0, 1, 0, 0] (bodyOf Try.f126)) 24 := ⟨by kernel_rfl, by kernel_rfl⟩
instance iln22 : LnOk Q 22 := ⟨fun a n c => by kernel_rfl⟩
instance iep24 : EpOk Q 24 := ⟨fun neg x y => by cases neg <;> kernel_rfl, fun neg x y a => by cases neg <;> kernel_rfl, fun neg x y a => by cases neg <;> kernel_rfl⟩
instance ifa39_1 : FaOk Q 39 1 6 := ⟨fun b o s => by kernel_rfl⟩
instance ild34 : LdOk Q 34 := ⟨fun b o s G => (show _ = loadOne b o G by kernel_rfl).trans (loadOne_eq b o G)⟩
instance ifa39_0 : FaOk Q 39 0 0 := ⟨fun b o s => by kernel_rfl⟩
instance ifa33_2 : FaOk Q 33 2 4 := ⟨fun b o s => by kernel_rfl⟩
instance ild3 : LdOk Q 3 := ⟨fun b o s G => (show _ = loadOne b o G by kernel_rfl).trans (loadOne_eq b o G)⟩
instance iias29 : IasOk Q 29 1 := ⟨fun b o s n c k j => by kernel_rfl⟩
instance ild28 : LdOk Q 28 := ⟨fun b o s G => (show _ = loadOne b o G by kernel_rfl).trans (loadOne_eq b o G)⟩
instance icv28_3 : CvOk Q 28 3 .u64 .i64 := ⟨fun n => by kernel_rfl⟩
instance ifa39_6 : FaOk Q 39 6 11 := ⟨fun b o s => by kernel_rfl⟩
instance ild37 : LdOk Q 37 := ⟨fun b o s G => (show _ = loadOne b o G by kernel_rfl).trans (loadOne_eq b o G)⟩
instance iln37 : LnOk Q 37 := ⟨fun a n c => by kernel_rfl⟩
instance iias37 : IasOk Q 37 10 := ⟨fun b o s n c k j => by kernel_rfl⟩
instance ifa47_4 : FaOk Q 47 4 7 := ⟨fun b o s => by kernel_rfl⟩
instance ifa43_0 : FaOk Q 43 0 0 := ⟨fun b o s => by kernel_rfl⟩
instance ild41 : LdOk Q 41 := ⟨fun b o s G => (show _ = loadOne b o G by kernel_rfl).trans (loadOne_eq b o G)⟩
instance ifa33_0 : FaOk Q 33 0 0 := ⟨fun b o s => by kernel_rfl⟩
instance ifa31_2 : FaOk Q 31 2 2 := ⟨fun b o s => by kernel_rfl⟩
instance ifa39_4 : FaOk Q 39 4 9 := ⟨fun b o s => by kernel_rfl⟩
instance ild29 : LdOk Q 29 := ⟨fun b o s G => (show _ = loadOne b o G by kernel_rfl).trans (loadOne_eq b o G)⟩
instance iln29 : LnOk Q 29 := ⟨fun a n c => by kernel_rfl⟩
noncomputable abbrev z33 : List Value := [(.int .i64 0), (.int .i64 0), (.int .i64 0), (.int .i64 0), (.int .i64 0), (.int .i64 0)]
instance ial33 : AlOk Q 33 z33 := ⟨fun G => by kernel_rfl⟩
instance ist33 : StOk Q 33 6 := ⟨fun b o s v G => by kernel_rfl⟩
instance ifa33_3 : FaOk Q 33 3 5 := ⟨fun b o s => by kernel_rfl⟩
instance ist3 : StOk Q 3 1 := ⟨fun b o s v G => by kernel_rfl⟩
instance ilda33 : LdAOk Q 33 6 := ⟨fun b o s G => by kernel_rfl⟩
noncomputable abbrev z31 : List Value := [(.int .i64 0), (.int .i64 0), (.int .i64 0)]
instance ibd31_0_1_2 : BdOk Q 31 z31 [(0, 0, 1), (1, 1, 1), (2, 2, 1)] := bd_ok Q (by kernel_rfl) (by kernel_rfl) (by kernel_rfl)
instance ibd33_0_1_2_3 : BdOk Q 33 z33 [(0, 0, 3), (1, 3, 1), (2, 4, 1), (3, 5, 1)] := bd_ok Q (by kernel_rfl) (by kernel_rfl) (by kernel_rfl)
instance iep34 : EpOk Q 34 := ⟨fun neg x y => by cases neg <;> kernel_rfl, fun neg x y a => by cases neg <;> kernel_rfl, fun neg x y a => by cases neg <;> kernel_rfl⟩
noncomputable abbrev z113 : List Value := [(.pointer none)]
instance imk35 : MkSlOk Q 35 1 8 z113 := ⟨fun k k' l c G => by kernel_rfl⟩
noncomputable abbrev z67 : List Value := [(.pointer none)]
instance imk36 : MkSlOk Q 36 1 8 z67 := ⟨fun k k' l c G => by kernel_rfl⟩
noncomputable abbrev z28 : List Value := [(.int .u64 0)]
instance imk29 : MkSlOk Q 29 1 8 z28 := ⟨fun k k' l c G => by kernel_rfl⟩
noncomputable abbrev z3 : List Value := [(.int .i64 0)]
instance ibs22_3_0_1_2 : BsOk Q 22 3 (rep z3 3) 1 [(0, 0, 1), (1, 1, 1), (2, 2, 1)] := bs_ok Q (z0 := z3) (by kernel_rfl) rfl (by decide) (by kernel_rfl)
noncomputable abbrev z39 : List Value := [(.int .i64 0), (.int .i64 0), (.int .i64 0), (.int .i64 0), (.int .i64 0), (.int .i64 0), (.pointer none), (.slice none 0 0), (.slice none 0 0), (.slice none 0 0), (.slice none 0 0), (.slice none 0 0), (.slice none 0 0), (.int .i64 0)]
instance ibd39_0_1_2_3_5_7 : BdOk Q 39 z39 [(0, 0, 6), (1, 6, 1), (2, 7, 1), (3, 8, 1), (5, 10, 1), (7, 12, 1)] := bd_ok Q (by kernel_rfl) (by kernel_rfl) (by kernel_rfl)
instance iias22 : IasOk Q 22 1 := ⟨fun b o s n c k j => by kernel_rfl⟩
instance ifa39_7 : FaOk Q 39 7 12 := ⟨fun b o s => by kernel_rfl⟩
instance ild22 : LdOk Q 22 := ⟨fun b o s G => (show _ = loadOne b o G by kernel_rfl).trans (loadOne_eq b o G)⟩
instance ifa81_0 : FaOk Q 81 0 0 := ⟨fun b o s => by kernel_rfl⟩
instance ild77 : LdOk Q 77 := ⟨fun b o s G => (show _ = loadOne b o G by kernel_rfl).trans (loadOne_eq b o G)⟩
instance iep77 : EpOk Q 77 := ⟨fun neg x y => by cases neg <;> kernel_rfl, fun neg x y a => by cases neg <;> kernel_rfl, fun neg x y a => by cases neg <;> kernel_rfl⟩
instance ifa81_1 : FaOk Q 81 1 1 := ⟨fun b o s => by kernel_rfl⟩
instance isla123 : SlAOk Q 123 4096 1 := ⟨fun a lo hi mx G => by kernel_rfl⟩
instance iln82 : LnOk Q 82 := ⟨fun a n c => by kernel_rfl⟩
instance iias82 : IasOk Q 82 1 := ⟨fun b o s n c k j => by kernel_rfl⟩
instance ild83 : LdOk Q 83 := ⟨fun b o s G => (show _ = loadOne b o G by kernel_rfl).trans (loadOne_eq b o G)⟩
instance ist28 : StOk Q 28 1 := ⟨fun b o s v G => by kernel_rfl⟩
instance ifa31_0 : FaOk Q 31 0 0 := ⟨fun b o s => by kernel_rfl⟩
noncomputable abbrev z85 : List Value := [(.int .i64 0), (.int .i64 0)]
instance ial85 : AlOk Q 85 z85 := ⟨fun G => by kernel_rfl⟩
instance ist85 : StOk Q 85 2 := ⟨fun b o s v G => by kernel_rfl⟩
instance ifa85_0 : FaOk Q 85 0 0 := ⟨fun b o s => by kernel_rfl⟩
instance ifa31_1 : FaOk Q 31 1 1 := ⟨fun b o s => by kernel_rfl⟩
instance ilda31 : LdAOk Q 31 3 := ⟨fun b o s G => by kernel_rfl⟩
noncomputable abbrev z110 : List Value := [(.pointer none), (.int .i64 0), (.int .i64 0), (.int .i64 0), (.int .i64 0), (.int .i64 0), (.int .i64 0), (.bool false), .nilFunc, (.int .i64 0), (.int .u64 0), (.int .i64 0)]
instance ibd110_0_1_2_4 : BdOk Q 110 z110 [(0, 0, 1), (1, 1, 6), (2, 7, 1), (4, 9, 1)] := bd_ok Q (by kernel_rfl) (by kernel_rfl) (by kernel_rfl)
instance ifa110_6 : FaOk Q 110 6 11 := ⟨fun b o s => by kernel_rfl⟩
instance ist41 : StOk Q 41 1 := ⟨fun b o s v G => by kernel_rfl⟩
instance ifa110_3 : FaOk Q 110 3 8 := ⟨fun b o s => by kernel_rfl⟩
instance ist108 : StOk Q 108 1 := ⟨fun b o s v G => by kernel_rfl⟩
instance iep67 : EpOk Q 67 := ⟨fun neg x y => by cases neg <;> kernel_rfl, fun neg x y a => by cases neg <;> kernel_rfl, fun neg x y a => by cases neg <;> kernel_rfl⟩
instance ild108 : LdOk Q 108 := ⟨fun b o s G => (show _ = loadOne b o G by kernel_rfl).trans (loadOne_eq b o G)⟩
instance ief108 : EfOk Q 108 := ⟨fun neg x y => by cases neg <;> kernel_rfl, fun neg x y f a b => by cases neg <;> kernel_rfl⟩
noncomputable abbrev z123 : List Value := (zs 4096 (.int .u64 0))
instance ial123 : AlOk Q 123 z123 := ⟨fun G => by kernel_rfl⟩
noncomputable abbrev z81 : List Value := [(.pointer none), (.int .i64 0), (.int .i64 0), (.int .i64 0), (.int .u64 0), (.int .u64 0), (.bool false), (.int .i64 0)]
instance ibd81_0_1 : BdOk Q 81 z81 [(0, 0, 1), (1, 1, 1)] := bd_ok Q (by kernel_rfl) (by kernel_rfl) (by kernel_rfl)
instance ifa33_1 : FaOk Q 33 1 3 := ⟨fun b o s => by kernel_rfl⟩
instance ifa39_8 : FaOk Q 39 8 13 := ⟨fun b o s => by kernel_rfl⟩
noncomputable abbrev z45 : List Value := [(.int .i64 0), (.int .i64 0), (.int .i64 0), (.int .u64 0)]
instance ibd45_0 : BdOk Q 45 z45 [(0, 0, 1)] := bd_ok Q (by kernel_rfl) (by kernel_rfl) (by kernel_rfl)
noncomputable abbrev z47 : List Value := [(.int .i64 0), (.int .i64 0), (.int .i64 0), (.int .i64 0), (.int .i64 0), (.int .i64 0), (.int .u64 0), (.int .i64 0), (.int .i64 0), (.int .u64 0)]
instance ibd47_0_1_2_3 : BdOk Q 47 z47 [(0, 0, 1), (1, 1, 1), (2, 2, 1), (3, 3, 4)] := bd_ok Q (by kernel_rfl) (by kernel_rfl) (by kernel_rfl)
instance ial47 : AlOk Q 47 z47 := ⟨fun G => by kernel_rfl⟩
instance ist47 : StOk Q 47 10 := ⟨fun b o s v G => by kernel_rfl⟩
instance ifa39_5 : FaOk Q 39 5 10 := ⟨fun b o s => by kernel_rfl⟩
instance ibs29_0_ : BsOk Q 29 0 (rep z28 0) 1 [] := bs_ok Q (z0 := z28) (by kernel_rfl) rfl (by decide) (by kernel_rfl)
instance isl29 : SlOk Q 29 1 := ⟨fun a n c lo hi mx G => sl_eq Q (e := 28) (by kernel_rfl) (by kernel_rfl) a n c lo hi mx G⟩
instance iap29_29 : ApOk Q 29 29 1 8 := ⟨fun s x G => by kernel_rfl⟩
instance ist29 : StOk Q 29 1 := ⟨fun b o s v G => by kernel_rfl⟩
noncomputable abbrev z128 : List Value := [(.int .i64 0), (.int .i64 0), (.bool false)]
instance ial128 : AlOk Q 128 z128 := ⟨fun G => by kernel_rfl⟩
instance ist128 : StOk Q 128 3 := ⟨fun b o s v G => by kernel_rfl⟩
instance ifa39_3 : FaOk Q 39 3 8 := ⟨fun b o s => by kernel_rfl⟩
instance ild36 : LdOk Q 36 := ⟨fun b o s G => (show _ = loadOne b o G by kernel_rfl).trans (loadOne_eq b o G)⟩
instance ifa128_0 : FaOk Q 128 0 0 := ⟨fun b o s => by kernel_rfl⟩
instance iias36 : IasOk Q 36 1 := ⟨fun b o s n c k j => by kernel_rfl⟩
instance ist67 : StOk Q 67 1 := ⟨fun b o s v G => by kernel_rfl⟩
instance ibd45_0_1 : BdOk Q 45 z45 [(0, 0, 1), (1, 1, 1)] := bd_ok Q (by kernel_rfl) (by kernel_rfl) (by kernel_rfl)
instance ifa47_3 : FaOk Q 47 3 3 := ⟨fun b o s => by kernel_rfl⟩
instance ist45 : StOk Q 45 4 := ⟨fun b o s v G => by kernel_rfl⟩
instance ifa39_2 : FaOk Q 39 2 7 := ⟨fun b o s => by kernel_rfl⟩
instance ild35 : LdOk Q 35 := ⟨fun b o s G => (show _ = loadOne b o G by kernel_rfl).trans (loadOne_eq b o G)⟩
instance iias35 : IasOk Q 35 1 := ⟨fun b o s n c k j => by kernel_rfl⟩
instance ist113 : StOk Q 113 1 := ⟨fun b o s v G => by kernel_rfl⟩
instance ilda47 : LdAOk Q 47 10 := ⟨fun b o s G => by kernel_rfl⟩
instance ibs37_1_0 : BsOk Q 37 1 (rep z47 1) 10 [(0, 0, 10)] := bs_ok Q (z0 := z47) (by kernel_rfl) rfl (by decide) (by kernel_rfl)
instance iap37_37 : ApOk Q 37 37 10 80 := ⟨fun s x G => by kernel_rfl⟩
instance ist37 : StOk Q 37 1 := ⟨fun b o s v G => by kernel_rfl⟩
instance ild67 : LdOk Q 67 := ⟨fun b o s G => (show _ = loadOne b o G by kernel_rfl).trans (loadOne_eq b o G)⟩
instance ifa47_2 : FaOk Q 47 2 2 := ⟨fun b o s => by kernel_rfl⟩
instance ild113 : LdOk Q 113 := ⟨fun b o s G => (show _ = loadOne b o G by kernel_rfl).trans (loadOne_eq b o G)⟩
instance ifa43_1 : FaOk Q 43 1 1 := ⟨fun b o s => by kernel_rfl⟩
instance ibs29_1_0 : BsOk Q 29 1 (rep z28 1) 1 [(0, 0, 1)] := bs_ok Q (z0 := z28) (by kernel_rfl) rfl (by decide) (by kernel_rfl)
instance ifa128_2 : FaOk Q 128 2 2 := ⟨fun b o s => by kernel_rfl⟩
instance ild4 : LdOk Q 4 := ⟨fun b o s G => (show _ = loadOne b o G by kernel_rfl).trans (loadOne_eq b o G)⟩
noncomputable abbrev z134 : List Value := [(.int .i64 0), (.int .i64 0), (.int .i64 0), (.int .i64 0)]
instance ial134 : AlOk Q 134 z134 := ⟨fun G => by kernel_rfl⟩
instance ist134 : StOk Q 134 4 := ⟨fun b o s v G => by kernel_rfl⟩
instance iiaa134 : IaaOk Q 134 2 2 := ⟨fun b o s k j => by kernel_rfl⟩
instance ilda133 : LdAOk Q 133 2 := ⟨fun b o s G => by kernel_rfl⟩
instance ibd85_0_1 : BdOk Q 85 z85 [(0, 0, 1), (1, 1, 1)] := bd_ok Q (by kernel_rfl) (by kernel_rfl) (by kernel_rfl)
instance ilda85 : LdAOk Q 85 2 := ⟨fun b o s G => by kernel_rfl⟩
noncomputable abbrev z165 : List Value := [(.int .i64 0), (.int .i64 0), (.int .i64 0), (.int .u64 0), (.int .i64 0), (.int .i64 0), (.bool false), (.bool false), (.int .i64 0)]
instance ibd165_0_2_4 : BdOk Q 165 z165 [(0, 0, 3), (2, 4, 1), (4, 6, 1)] := bd_ok Q (by kernel_rfl) (by kernel_rfl) (by kernel_rfl)
noncomputable abbrev z168 : List Value := [(.int .i64 0), (.int .i64 0), (.int .i64 0), (.int .u64 0), (.int .i64 0), (.int .i64 0), (.bool false), (.bool false), (.int .i64 0), .nilFunc]
instance ibd168_0_1 : BdOk Q 168 z168 [(0, 0, 9), (1, 9, 1)] := bd_ok Q (by kernel_rfl) (by kernel_rfl) (by kernel_rfl)
instance ifa168_0 : FaOk Q 168 0 0 := ⟨fun b o s => by kernel_rfl⟩
instance ifa110_1 : FaOk Q 110 1 1 := ⟨fun b o s => by kernel_rfl⟩
instance ifa110_4 : FaOk Q 110 4 9 := ⟨fun b o s => by kernel_rfl⟩
instance ifa110_5 : FaOk Q 110 5 10 := ⟨fun b o s => by kernel_rfl⟩
noncomputable abbrev z175 : List Value := [(.pointer none), (.int .i64 0), (.int .i64 0), (.int .i64 0), (.int .i64 0), (.int .i64 0), (.int .i64 0), (.bool false), .nilFunc, (.int .i64 0), (.int .u64 0), (.int .i64 0)]
instance ibd175_0_1_2_3 : BdOk Q 175 z175 [(0, 0, 1), (1, 1, 6), (2, 7, 1), (3, 8, 1)] := bd_ok Q (by kernel_rfl) (by kernel_rfl) (by kernel_rfl)
instance iep113 : EpOk Q 113 := ⟨fun neg x y => by cases neg <;> kernel_rfl, fun neg x y a => by cases neg <;> kernel_rfl, fun neg x y a => by cases neg <;> kernel_rfl⟩
instance ifa175_2 : FaOk Q 175 2 7 := ⟨fun b o s => by kernel_rfl⟩
instance ifa175_3 : FaOk Q 175 3 8 := ⟨fun b o s => by kernel_rfl⟩
instance ild173 : LdOk Q 173 := ⟨fun b o s G => (show _ = loadOne b o G by kernel_rfl).trans (loadOne_eq b o G)⟩
instance ief173 : EfOk Q 173 := ⟨fun neg x y => by cases neg <;> kernel_rfl, fun neg x y f a b => by cases neg <;> kernel_rfl⟩
instance ifa175_5 : FaOk Q 175 5 10 := ⟨fun b o s => by kernel_rfl⟩
instance ifa175_6 : FaOk Q 175 6 11 := ⟨fun b o s => by kernel_rfl⟩
noncomputable abbrev z179 : List Value := [(.pointer none), (.int .u64 0), (.int .u64 0)]
instance ibd179_0 : BdOk Q 179 z179 [(0, 0, 1)] := bd_ok Q (by kernel_rfl) (by kernel_rfl) (by kernel_rfl)
instance ial179 : AlOk Q 179 z179 := ⟨fun G => by kernel_rfl⟩
instance ist179 : StOk Q 179 3 := ⟨fun b o s v G => by kernel_rfl⟩
instance ifa179_0 : FaOk Q 179 0 0 := ⟨fun b o s => by kernel_rfl⟩
instance ild176 : LdOk Q 176 := ⟨fun b o s G => (show _ = loadOne b o G by kernel_rfl).trans (loadOne_eq b o G)⟩
instance ilda179 : LdAOk Q 179 3 := ⟨fun b o s G => by kernel_rfl⟩
instance ifd79_3 : FdOk Q 79 3 3 := ⟨fun l => by kernel_rfl⟩
instance ibd179_0_1 : BdOk Q 179 z179 [(0, 0, 1), (1, 1, 1)] := bd_ok Q (by kernel_rfl) (by kernel_rfl) (by kernel_rfl)
instance ibd128_0_1_2 : BdOk Q 128 z128 [(0, 0, 1), (1, 1, 1), (2, 2, 1)] := bd_ok Q (by kernel_rfl) (by kernel_rfl) (by kernel_rfl)
instance ilda128 : LdAOk Q 128 3 := ⟨fun b o s G => by kernel_rfl⟩
instance ibd128_ : BdOk Q 128 z128 [] := bd_ok Q (by kernel_rfl) (by kernel_rfl) (by kernel_rfl)
noncomputable abbrev z133 : List Value := [(.int .i64 0), (.int .i64 0)]
instance ibd133_0_1 : BdOk Q 133 z133 [(0, 0, 1), (1, 1, 1)] := bd_ok Q (by kernel_rfl) (by kernel_rfl) (by kernel_rfl)
instance ibd134_0_1 : BdOk Q 134 z134 [(0, 0, 2), (1, 2, 2)] := bd_ok Q (by kernel_rfl) (by kernel_rfl) (by kernel_rfl)
instance ilda134 : LdAOk Q 134 4 := ⟨fun b o s G => by kernel_rfl⟩
instance ifa133_0 : FaOk Q 133 0 0 := ⟨fun b o s => by kernel_rfl⟩
instance ifa133_1 : FaOk Q 133 1 1 := ⟨fun b o s => by kernel_rfl⟩
instance ifa165_3 : FaOk Q 165 3 5 := ⟨fun b o s => by kernel_rfl⟩
instance ifa168_1 : FaOk Q 168 1 9 := ⟨fun b o s => by kernel_rfl⟩
instance ist166 : StOk Q 166 1 := ⟨fun b o s v G => by kernel_rfl⟩
instance ifa165_5 : FaOk Q 165 5 7 := ⟨fun b o s => by kernel_rfl⟩
instance ist4 : StOk Q 4 1 := ⟨fun b o s v G => by kernel_rfl⟩
instance ifa165_6 : FaOk Q 165 6 8 := ⟨fun b o s => by kernel_rfl⟩
instance ibd165_0_4 : BdOk Q 165 z165 [(0, 0, 3), (4, 6, 1)] := bd_ok Q (by kernel_rfl) (by kernel_rfl) (by kernel_rfl)
noncomputable abbrev z208 : List Value := [(.int .i64 0), (.int .i64 0), (.int .i64 0), (.int .u64 0), (.int .i64 0), (.int .i64 0), (.bool false), (.bool false), (.int .i64 0), .nilFunc]
instance ibd208_0_1 : BdOk Q 208 z208 [(0, 0, 9), (1, 9, 1)] := bd_ok Q (by kernel_rfl) (by kernel_rfl) (by kernel_rfl)
instance ifa175_0 : FaOk Q 175 0 0 := ⟨fun b o s => by kernel_rfl⟩
instance ild171 : LdOk Q 171 := ⟨fun b o s G => (show _ = loadOne b o G by kernel_rfl).trans (loadOne_eq b o G)⟩
instance ifa175_4 : FaOk Q 175 4 9 := ⟨fun b o s => by kernel_rfl⟩
instance ist173 : StOk Q 173 1 := ⟨fun b o s v G => by kernel_rfl⟩
instance iiaa123 : IaaOk Q 123 4096 1 := ⟨fun b o s k j => by kernel_rfl⟩
noncomputable abbrev z79 : List Value := [(.int .i64 0), (.int .i64 0), (.int .u64 0), (.int .u64 0), (.bool false)]
instance ial79 : AlOk Q 79 z79 := ⟨fun G => by kernel_rfl⟩
instance ibd79_ : BdOk Q 79 z79 [] := bd_ok Q (by kernel_rfl) (by kernel_rfl) (by kernel_rfl)
instance ist79 : StOk Q 79 5 := ⟨fun b o s v G => by kernel_rfl⟩
instance ifa81_3 : FaOk Q 81 3 7 := ⟨fun b o s => by kernel_rfl⟩
instance ibd79_0_1 : BdOk Q 79 z79 [(0, 0, 1), (1, 1, 1)] := bd_ok Q (by kernel_rfl) (by kernel_rfl) (by kernel_rfl)
instance ifa81_2 : FaOk Q 81 2 2 := ⟨fun b o s => by kernel_rfl⟩
instance ifa79_2 : FaOk Q 79 2 2 := ⟨fun b o s => by kernel_rfl⟩
instance ifa79_3 : FaOk Q 79 3 3 := ⟨fun b o s => by kernel_rfl⟩
instance ifa79_4 : FaOk Q 79 4 4 := ⟨fun b o s => by kernel_rfl⟩
instance ist83 : StOk Q 83 1 := ⟨fun b o s v G => by kernel_rfl⟩
instance ilda79 : LdAOk Q 79 5 := ⟨fun b o s G => by kernel_rfl⟩
instance ibd85_0 : BdOk Q 85 z85 [(0, 0, 1)] := bd_ok Q (by kernel_rfl) (by kernel_rfl) (by kernel_rfl)
instance ifa179_1 : FaOk Q 179 1 1 := ⟨fun b o s => by kernel_rfl⟩
noncomputable abbrev z214 : List Value := [(.int .i64 0), (.int .i64 0), (.int .i64 0)]
instance ibd214_0_1_2 : BdOk Q 214 z214 [(0, 0, 1), (1, 1, 1), (2, 2, 1)] := bd_ok Q (by kernel_rfl) (by kernel_rfl) (by kernel_rfl)
instance ifa128_1 : FaOk Q 128 1 1 := ⟨fun b o s => by kernel_rfl⟩
instance ibs222_2_0_1 : BsOk Q 222 2 (rep z214 2) 3 [(0, 0, 3), (1, 3, 3)] := bs_ok Q (z0 := z214) (by kernel_rfl) rfl (by decide) (by kernel_rfl)
instance isla134 : SlAOk Q 134 2 2 := ⟨fun a lo hi mx G => by kernel_rfl⟩
instance ibs22_2_0_1 : BsOk Q 22 2 (rep z3 2) 1 [(0, 0, 1), (1, 1, 1)] := bs_ok Q (z0 := z3) (by kernel_rfl) rfl (by decide) (by kernel_rfl)
instance ifa165_0 : FaOk Q 165 0 0 := ⟨fun b o s => by kernel_rfl⟩
instance ifa165_1 : FaOk Q 165 1 3 := ⟨fun b o s => by kernel_rfl⟩
instance ifa165_2 : FaOk Q 165 2 4 := ⟨fun b o s => by kernel_rfl⟩
instance ifa110_0 : FaOk Q 110 0 0 := ⟨fun b o s => by kernel_rfl⟩
instance ild106 : LdOk Q 106 := ⟨fun b o s G => (show _ = loadOne b o G by kernel_rfl).trans (loadOne_eq b o G)⟩
instance ifa208_1 : FaOk Q 208 1 9 := ⟨fun b o s => by kernel_rfl⟩
instance ist206 : StOk Q 206 1 := ⟨fun b o s v G => by kernel_rfl⟩
instance ifa208_0 : FaOk Q 208 0 0 := ⟨fun b o s => by kernel_rfl⟩
instance iep171 : EpOk Q 171 := ⟨fun neg x y => by cases neg <;> kernel_rfl, fun neg x y a => by cases neg <;> kernel_rfl, fun neg x y a => by cases neg <;> kernel_rfl⟩
instance ild206 : LdOk Q 206 := ⟨fun b o s G => (show _ = loadOne b o G by kernel_rfl).trans (loadOne_eq b o G)⟩
instance ifa175_1 : FaOk Q 175 1 1 := ⟨fun b o s => by kernel_rfl⟩
instance ibd128_0_1 : BdOk Q 128 z128 [(0, 0, 1), (1, 1, 1)] := bd_ok Q (by kernel_rfl) (by kernel_rfl) (by kernel_rfl)
instance icv3_28 : CvOk Q 3 28 .i64 .u64 := ⟨fun n => by kernel_rfl⟩
instance iep176 : EpOk Q 176 := ⟨fun neg x y => by cases neg <;> kernel_rfl, fun neg x y a => by cases neg <;> kernel_rfl, fun neg x y a => by cases neg <;> kernel_rfl⟩
instance ifa85_1 : FaOk Q 85 1 1 := ⟨fun b o s => by kernel_rfl⟩
instance iln222 : LnOk Q 222 := ⟨fun a n c => by kernel_rfl⟩
instance iias222 : IasOk Q 222 3 := ⟨fun b o s n c k j => by kernel_rfl⟩
instance ilda214 : LdAOk Q 214 3 := ⟨fun b o s G => by kernel_rfl⟩
instance ial214 : AlOk Q 214 z214 := ⟨fun G => by kernel_rfl⟩
instance ist214 : StOk Q 214 3 := ⟨fun b o s v G => by kernel_rfl⟩
instance ifa214_0 : FaOk Q 214 0 0 := ⟨fun b o s => by kernel_rfl⟩
instance ifa214_1 : FaOk Q 214 1 1 := ⟨fun b o s => by kernel_rfl⟩
instance ifa214_2 : FaOk Q 214 2 2 := ⟨fun b o s => by kernel_rfl⟩
instance iln217 : LnOk Q 217 := ⟨fun a n c => by kernel_rfl⟩
instance iias217 : IasOk Q 217 2 := ⟨fun b o s n c k j => by kernel_rfl⟩
instance ial133 : AlOk Q 133 z133 := ⟨fun G => by kernel_rfl⟩
instance ist133 : StOk Q 133 2 := ⟨fun b o s v G => by kernel_rfl⟩
instance iep106 : EpOk Q 106 := ⟨fun neg x y => by cases neg <;> kernel_rfl, fun neg x y a => by cases neg <;> kernel_rfl, fun neg x y a => by cases neg <;> kernel_rfl⟩
instance ild166 : LdOk Q 166 := ⟨fun b o s G => (show _ = loadOne b o G by kernel_rfl).trans (loadOne_eq b o G)⟩
instance iep204 : EpOk Q 204 := ⟨fun neg x y => by cases neg <;> kernel_rfl, fun neg x y a => by cases neg <;> kernel_rfl, fun neg x y a => by cases neg <;> kernel_rfl⟩
instance ifa165_4 : FaOk Q 165 4 6 := ⟨fun b o s => by kernel_rfl⟩
instance ibd179_0_1_2 : BdOk Q 179 z179 [(0, 0, 1), (1, 1, 1), (2, 2, 1)] := bd_ok Q (by kernel_rfl) (by kernel_rfl) (by kernel_rfl)
instance ifd79_4 : FdOk Q 79 4 4 := ⟨fun l => by kernel_rfl⟩
instance ifa179_2 : FaOk Q 179 2 2 := ⟨fun b o s => by kernel_rfl⟩
noncomputable def b3_0 (q : Bool) (e : Ex) (lp : Env → GS → Option (Exit × Env × GS)) (τ : Env) (G : GS) : Option (Exit × Env × GS) :=
  bV q (τ 8) fun a8_ =>
  bV q (τ 9) fun a9_ =>
  bV q (τ 10) fun a10_ =>
  bP (pNil a8_) fun x0 =>
  bP (fa Q q 39 6 11 x0) fun x1 =>
  bP (ld Q q 37 x1 G) fun x2 =>
  bP (ln Q q 37 x2) fun x3 =>
  bP (bn Q q .lss 3 (.tmp 44) (.tmp 49) a10_ x3) fun x4 =>
  ifV x4 (
  bP (pNil a8_) fun x5 =>
  bP (fa Q q 39 6 11 x5) fun x6 =>
  bP (ld Q q 37 x6 G) fun x7 =>
  bP (ias Q q 37 10 x7 a10_) fun x8 =>
  bP (fa Q q 47 4 7 x8) fun x9 =>
  bP (fa Q q 43 0 0 x9) fun x10 =>
  bP (ld Q q 41 x10 G) fun x11 =>
  bP (bn Q q .eql 41 (.tmp 61) (.const (.int .i64 12)) x11 (.int .i64 12)) fun x12 =>
  bS (gd x12 true (some (a9_, G)) G) fun x13 G14 =>
  bS (gd x12 true (some (a8_, G14)) G14) fun x15 G16 =>
  bS (gd x12 true (bP (pNil x15) fun y => some (y, G16)) G16) fun x17 G18 =>
  bS (gd x12 true (bP (fa Q q 39 0 0 x17) fun y => some (y, G18)) G18) fun x19 G20 =>
  bS (gd x12 true (bP (fa Q q 33 0 0 x19) fun y => some (y, G20)) G20) fun x21 G22 =>
  bS (gd x12 true (bP (fa Q q 31 2 2 x21) fun y => some (y, G22)) G22) fun x23 G24 =>
  bS (gd x12 true (bP (ld Q q 3 x23 G24) fun y => some (y, G24)) G24) fun x25 G26 =>
  bS (gd x12 true (bP (bn Q q .lss 3 (.tmp 64) (.tmp 70) x13 x25) fun y => some (y, G26)) G26) fun x27 G28 =>
  bP (pickV x12 x27 (.bool false)) fun x29 =>
  ifV x29 (
  some (.ret, xq q 93 τ [(6, (.bool false)), (72, x29), (71, x27), (70, x25), (69, x23), (68, x21), (67, x19), (66, x17), (65, x15), (64, x13), (63, x12), (62, x12), (61, x11), (60, x10), (59, x9), (58, x8), (57, a10_), (56, x7), (55, x6), (54, x5), (53, a8_), (50, x4), (49, x3), (48, x2), (47, x1), (46, x0), (45, a8_), (44, a10_)] [(8, a8_), (9, a9_), (10, a10_)], G28)) (
  bP (bn Q q .add 3 (.tmp 51) (.const (.int .i64 1)) a10_ (.int .i64 1)) fun x30 =>
  lp (xq q 93 τ [(10, x30), (52, x30), (51, a10_), (72, x29), (71, x27), (70, x25), (69, x23), (68, x21), (67, x19), (66, x17), (65, x15), (64, x13), (63, x12), (62, x12), (61, x11), (60, x10), (59, x9), (58, x8), (57, a10_), (56, x7), (55, x6), (54, x5), (53, a8_), (50, x4), (49, x3), (48, x2), (47, x1), (46, x0), (45, a8_), (44, a10_)] [(8, a8_), (9, a9_)]) G28)) (
  some ((.exit 0), xq q 93 τ [(50, x4), (49, x3), (48, x2), (47, x1), (46, x0), (45, a8_), (44, a10_)] [(8, a8_), (9, a9_), (10, a10_)], G))
theorem mb3_0 {e : Ex} {E : Ev} (h : ExLe Q e E) {lp lp' : Env → GS → Option (Exit × Env × GS)} (hlp : LpLe lp lp') (τ : Env) (G : GS) : Ref (b3_0 true e lp τ G) (b3_0 false (Ex.of E) lp' τ G) := by
  unfold b3_0
  exact Ref.gq
set_option maxHeartbeats 8000000 in
theorem l3_0 {orc : FuncId → Bool} {e : Ex} (h : ExLe Q e (E orc)) (lp : Env → GS → Option (Exit × Env × GS)) (hlp : ∀ τ G, Ref (lp τ G) (mapE ((E orc).lp (subAt [1, 1, 1, 1, 1, 1, 0, 1, 0, 0] (bodyOf Try.f3)) (lst 93 τ) G))) (T : List Value) (G : GS) (hT : T.length = 93) : Ref (b3_0 true e lp (nth undef T) G) (mapE ((E orc).lp (subAt [1, 1, 1, 1, 1, 1, 0, 1, 0, 0] (bodyOf Try.f3)) T G)) :=
  fun r hr => lp_sxN Q orc G hT (by kernel_rfl) (mb3_0 h ⟨hlp⟩ _ _ r hr)
/-- coxswain/coxswainlaw11.ArenaKeeps -/
noncomputable def s3 (q : Bool) (e : Ex) (v0 v1 v2 : Value) (G : GS) : Option (Value × GS) :=
  bS (e.ev.cl 5 [] G) fun x0 G1 =>
  bP (ln Q q 22 v2) fun x2 =>
  bP (bn Q q .gtr 3 (.tmp 13) (.const (.int .i64 200)) x2 (.int .i64 200)) fun x3 =>
  ifV x3 (
  some (x0, G1)) (
  bS (e.ev.cl 7 [v0, (.int .i64 8)] G1) fun x4 G5 =>
  bP (bn Q q .add 3 (.const (.int .i64 1)) (.tmp 17) (.int .i64 1) x4) fun x6 =>
  bS (e.ev.cl 7 [v1, (.int .i64 4)] G5) fun x7 G8 =>
  bP (bn Q q .add 3 (.const (.int .i64 1)) (.tmp 20) (.int .i64 1) x7) fun x9 =>
  bS (e.ev.cl 6 [x6, x9] G8) fun x10 G11 =>
  bP (ep Q q false 24 (.tmp 23) (.const (.pointer none)) x10 (.pointer none)) fun x12 =>
  bS (gd x12 false (some (x10, G11)) G11) fun x13 G14 =>
  bS (gd x12 false (some (v2, G14)) G14) fun x15 G16 =>
  bS (gd x12 false (bS (e.ev.cl 8 [x13, x15] G16) fun y G => some (y, G)) G16) fun x17 G18 =>
  bS (gd x12 false (bP (un Q q .not x17) fun y => some (y, G18)) G18) fun x19 G20 =>
  bP (pickV x12 (.bool true) x19) fun x21 =>
  ifV x21 (
  some ((.bool false), G20)) (
  bP (pNil x10) fun x22 =>
  bP (fa Q q 39 1 6 x22) fun x23 =>
  bP (ld Q q 34 x23 (G20.room 14)) fun x24 =>
  bS (e.ev.cl 9 [x24] (G20.room 14)) fun x26 G25 =>
  bP (pNil x10) fun x27 =>
  bP (fa Q q 39 0 0 x27) fun x28 =>
  bP (fa Q q 33 2 4 x28) fun x29 =>
  bP (ld Q q 3 x29 G25) fun x30 =>
  chk ((sameO (ld Q q 3 x29 (G20.room 14)) x30 && true)) <|
  bP (ias Q q 29 1 x26 x30) fun x31 =>
  bP (ld Q q 28 x31 G25) fun x32 =>
  bP (cv Q q 28 3 .u64 .i64 x32) fun x33 =>
  bLq q e 3 0 (subAt [1, 1, 1, 1, 1, 1, 0, 1, 0, 0] (bodyOf Try.f3)) 93 (nth undef [v0, v1, v2]) [(10, (.int .i64 0)), (9, x33), (43, x33), (42, x32), (41, x31), (40, x30), (39, x29), (38, x28), (37, x27), (36, x10), (35, x26), (34, x24), (33, x23), (32, x22), (31, x10), (30, x21), (29, x19), (28, x17), (27, x15), (26, x13), (25, x12), (24, x12), (23, x10), (8, x10), (22, x10), (21, x9), (20, x7), (19, v1), (18, x6), (17, x4), (16, v0), (14, x3), (13, x2), (12, v2), (7, x0), (11, x0), (6, (.bool false))] [] G25 fun e34 t35 G36 =>
  bV q (t35 6) fun t35x6_ =>
  bV q (t35 7) fun t35x7_ =>
  bV q (t35 8) fun t35x8_ =>
  bV q (t35 9) fun t35x9_ =>
  ifE e34 (.exit 0) (
  bS (gd t35x7_ true (some (t35x8_, (G36.room 21))) (G36.room 21)) fun x37 _ =>
  bS (gd t35x7_ true (bS (e.ev.cl 10 [x37] (G36.room 21)) fun y G => some (y, G)) (G36.room 21)) fun x39 G38 =>
  bS (gd t35x7_ true (some (t35x9_, G38)) G38) fun x40 _ =>
  bS (gd t35x7_ true (bP (bn Q q .add 3 (.tmp 76) (.tmp 77) x39 x40) fun y => some (y, G38)) G38) fun x41 _ =>
  bS (gd t35x7_ true (some (t35x8_, G38)) G38) fun x42 _ =>
  bS (gd t35x7_ true (bP (pNil x42) fun y => some (y, G38)) G38) fun x43 _ =>
  bS (gd t35x7_ true (bP (fa Q q 39 4 9 x43) fun y => some (y, G38)) G38) fun x44 _ =>
  bS (gd t35x7_ true (bP (ld Q q 29 x44 G38) fun y => some (y, G38)) G38) fun x45 _ =>
  chk (((!(gB t35x7_ true) || (!(gB t35x7_ true) || sameO (ld Q q 29 x44 (G36.room 21)) x45)) && true)) <|
  bS (gd t35x7_ true (bP (ln Q q 29 x45) fun y => some (y, G38)) G38) fun x46 _ =>
  bS (gd t35x7_ true (bP (bn Q q .add 3 (.tmp 78) (.tmp 83) x41 x46) fun y => some (y, G38)) G38) fun x47 _ =>
  bS (gd t35x7_ true (some (t35x8_, G38)) G38) fun x48 _ =>
  bS (gd t35x7_ true (bP (pNil x48) fun y => some (y, G38)) G38) fun x49 _ =>
  bS (gd t35x7_ true (bP (fa Q q 39 0 0 x49) fun y => some (y, G38)) G38) fun x50 _ =>
  bS (gd t35x7_ true (bP (fa Q q 33 0 0 x50) fun y => some (y, G38)) G38) fun x51 _ =>
  bS (gd t35x7_ true (bP (fa Q q 31 2 2 x51) fun y => some (y, G38)) G38) fun x52 _ =>
  bS (gd t35x7_ true (bP (ld Q q 3 x52 G38) fun y => some (y, G38)) G38) fun x53 _ =>
  chk (((!(gB t35x7_ true) || (!(gB t35x7_ true) || sameO (ld Q q 3 x52 (G36.room 21)) x53)) && true)) <|
  bS (gd t35x7_ true (bP (bn Q q .eql 3 (.tmp 84) (.tmp 90) x47 x53) fun y => some (y, G38)) G38) fun x54 _ =>
  bP (pickV t35x7_ x54 (.bool false)) fun x55 =>
  some (x55, G38)) (ifE e34 .ret (
  some (t35x6_, G36)) (none))))
theorem m3 {e : Ex} {E : Ev} (h : ExLe Q e E) (v0 v1 v2 : Value) (G : GS) : Ref (s3 true e v0 v1 v2 G) (s3 false (Ex.of E) v0 v1 v2 G) := by
  unfold s3
  exact Ref.gq
set_option maxHeartbeats 8000000 in
theorem f3 {orc : FuncId → Bool} {e : Ex} (h : ExLe Q e (E orc)) (v0 v1 v2 : Value) (G : GS) : Ref (s3 true e v0 v1 v2 G) ((E orc).cl 3 [v0, v1, v2] G) :=
  fun r hr => cl_sxE_some Q orc (vs := [v0, v1, v2]) G Try.func3 (by kernel_rfl) (by kernel_rfl) (by kernel_rfl) (by kernel_rfl) (by kernel_rfl) (by kernel_rfl) (m3 h v0 v1 v2 G r hr)
/-- coxswain/coxswainlaw11.ArenaKnown -/
noncomputable def s5 (q : Bool) (e : Ex) (G : GS) : Option (Value × GS) :=
  bS (e.ev.cl 16 [] G) fun x0 G1 =>
  bS (e.ev.cl 16 [] G1) fun x2 G3 =>
  bS (e.ev.cl 16 [] G3) fun x4 G5 =>
  bS (al Q q 33 z33 G5) fun x6 G7 =>
  bS (al Q q 33 z33 G7) fun x8 G9 =>
  bS (al Q q 33 z33 G9) fun x10 G11 =>
  bP (st Q q 33 6 x6 x0 G11) fun G12 =>
  bP (st Q q 33 6 x8 x2 G12) fun G13 =>
  bP (st Q q 33 6 x10 x4 G13) fun G14 =>
  bP (fa Q q 33 3 5 x6) fun x15 =>
  bP (st Q q 3 1 x15 (.int .i64 0) G14) fun G16 =>
  bP (fa Q q 33 2 4 x10) fun x17 =>
  bP (st Q q 3 1 x17 (.int .i64 5) G16) fun G18 =>
  bP (fa Q q 33 3 5 x8) fun x19 =>
  bP (st Q q 3 1 x19 (.int .i64 1) G18) fun G20 =>
  bS (e.ev.cl 16 [] G20) fun x21 G22 =>
  bS (e.ev.cl 17 [x21, (.int .i64 3)] G22) fun x23 G24 =>
  bS (e.ev.cl 18 [] G24) fun x25 G26 =>
  bS (gd x25 true (some (x23, G26)) G26) fun x27 G28 =>
  bS (gd x25 true (bS (e.ev.cl 19 [x27, (.pointer none)] G28) fun y G => some (y, G)) G28) fun x29 G30 =>
  bP (pickV x25 x29 (.bool false)) fun x31 =>
  bS (gd x31 true (some (x23, G30)) G30) fun x32 G33 =>
  bS (gd x31 true (bS (e.ev.cl 20 [x32] G33) fun y G => some (y, G)) G33) fun x34 G35 =>
  bS (gd x31 true (bP (bn Q q .eql 41 (.tmp 20) (.const (.int .i64 3)) x34 (.int .i64 3)) fun y => some (y, G35)) G35) fun x36 G37 =>
  bP (pickV x31 x36 (.bool false)) fun x38 =>
  bS (gd x38 true (bS (e.ev.cl 16 [] G37) fun y G => some (y, G)) G37) fun x39 G40 =>
  bS (gd x38 true (bS (e.ev.cl 21 [x39, (.int .i64 11)] G40) fun y G => some (y, G)) G40) fun x41 G42 =>
  bS (gd x38 true (bP (bn Q q .eql 41 (.tmp 25) (.const (.int .i64 0)) x41 (.int .i64 0)) fun y => some (y, G42)) G42) fun x43 G44 =>
  bP (pickV x38 x43 (.bool false)) fun x45 =>
  bS (gd x45 true (bP (lda Q q 33 6 x6 G44) fun y => some (y, G44)) G44) fun x46 G47 =>
  bS (gd x45 true (bS (e.ev.cl 21 [x46, (.int .i64 11)] G47) fun y G => some (y, G)) G47) fun x48 G49 =>
  bS (gd x45 true (bP (bn Q q .eql 41 (.tmp 30) (.const (.int .i64 2)) x48 (.int .i64 2)) fun y => some (y, G49)) G49) fun x50 G51 =>
  bP (pickV x45 x50 (.bool false)) fun x52 =>
  bS (gd x52 true (bP (lda Q q 33 6 x10 G51) fun y => some (y, G51)) G51) fun x53 G54 =>
  bS (gd x52 true (bS (e.ev.cl 21 [x53, (.int .i64 11)] G54) fun y G => some (y, G)) G54) fun x55 G56 =>
  bS (gd x52 true (bP (bn Q q .eql 41 (.tmp 35) (.const (.int .i64 2)) x55 (.int .i64 2)) fun y => some (y, G56)) G56) fun x57 G58 =>
  bP (pickV x52 x57 (.bool false)) fun x59 =>
  bS (gd x59 true (bP (lda Q q 33 6 x8 G58) fun y => some (y, G58)) G58) fun x60 G61 =>
  bS (gd x59 true (bS (e.ev.cl 21 [x60, (.int .i64 7)] G61) fun y G => some (y, G)) G61) fun x62 G63 =>
  bS (gd x59 true (bP (bn Q q .eql 41 (.tmp 40) (.const (.int .i64 2)) x62 (.int .i64 2)) fun y => some (y, G63)) G63) fun x64 G65 =>
  bP (pickV x59 x64 (.bool false)) fun x66 =>
  bS (gd x66 true (bP (lda Q q 33 6 x8 G65) fun y => some (y, G65)) G65) fun x67 G68 =>
  bS (gd x66 true (bS (e.ev.cl 21 [x67, (.int .i64 8)] G68) fun y G => some (y, G)) G68) fun x69 G70 =>
  bS (gd x66 true (bP (bn Q q .eql 41 (.tmp 45) (.const (.int .i64 0)) x69 (.int .i64 0)) fun y => some (y, G70)) G70) fun x71 G72 =>
  bP (pickV x66 x71 (.bool false)) fun x73 =>
  bS (gd x73 true (bP (lda Q q 33 6 x8 G72) fun y => some (y, G72)) G72) fun x74 G75 =>
  bS (gd x73 true (bS (e.ev.cl 21 [x74, (.int .i64 0)] G75) fun y G => some (y, G)) G75) fun x76 G77 =>
  bS (gd x73 true (bP (bn Q q .eql 41 (.tmp 50) (.const (.int .i64 3)) x76 (.int .i64 3)) fun y => some (y, G77)) G77) fun x78 G79 =>
  bP (pickV x73 x78 (.bool false)) fun x80 =>
  some (x80, G79)
theorem m5 {e : Ex} {E : Ev} (h : ExLe Q e E) (G : GS) : Ref (s5 true e  G) (s5 false (Ex.of E)  G) := by
  unfold s5
  exact Ref.gq
theorem f5 {orc : FuncId → Bool} {e : Ex} (h : ExLe Q e (E orc)) (ho : orc 5 = false) (G : GS) : Ref (s5 true e  G) ((E orc).cl 5 [] G) :=
  fun r hr => cl_sxE_some Q orc (vs := []) G Try.func5 (by kernel_rfl) (by kernel_rfl) ho (by kernel_rfl) (by kernel_rfl) (by kernel_rfl) (m5 h  G r hr)
/-- coxswain/coxswainlaw11.begun -/
noncomputable def s6 (q : Bool) (e : Ex) (v0 v1 : Value) (G : GS) : Option (Value × GS) :=
  bP (bd Q q 31 z31 [(0, 0, 1), (1, 1, 1), (2, 2, 1)] [(.int .i64 0), (.int .i64 1), v0]) fun x0 =>
  bP (bn Q q .add 3 (.const (.int .i64 1)) (.tmp 10) (.int .i64 1) v0) fun x1 =>
  bP (bn Q q .mul 3 (.const (.int .i64 2)) (.tmp 12) (.int .i64 2) v0) fun x2 =>
  bP (bn Q q .add 3 (.const (.int .i64 1)) (.tmp 13) (.int .i64 1) x2) fun x3 =>
  bP (bd Q q 33 z33 [(0, 0, 3), (1, 3, 1), (2, 4, 1), (3, 5, 1)] [x0, x1, x3, v1]) fun x4 =>
  bS (al Q q 33 z33 G) fun x5 G6 =>
  bP (st Q q 33 6 x5 x4 G6) fun G7 =>
  bP (bn Q q .mul 3 (.const (.int .i64 2)) (.tmp 18) (.int .i64 2) v0) fun x8 =>
  bP (bn Q q .add 3 (.const (.int .i64 2)) (.tmp 19) (.int .i64 2) x8) fun x9 =>
  bS (e.ev.cl 22 [x9] G7) fun x10 G11 =>
  bP (pExtract x10 0) fun x12 =>
  bP (pExtract x10 1) fun x13 =>
  bP (bn Q q .neq 41 (.tmp 24) (.const (.int .i64 0)) x13 (.int .i64 0)) fun x14 =>
  bS (gd x14 false (some (x12, G11)) G11) fun x15 G16 =>
  bS (gd x14 false (bP (ep Q q false 34 (.tmp 27) (.const (.pointer none)) x15 (.pointer none)) fun y => some (y, G16)) G16) fun x17 G18 =>
  bP (pickV x14 (.bool true) x17) fun x19 =>
  ifV x19 (
  some ((.pointer none), G18)) (
  bP (lda Q q 33 6 x5 G18) fun x20 =>
  bS (e.ev.cl 23 [x20, x12] G18) fun x21 G22 =>
  bP (lda Q q 33 6 x5 (G22.room 9)) fun x23 =>
  bS (mk Q q 35 1 8 z113 (.int .i64 3) (.int .i64 3) ((G22.room 9).at' (G22.nx + 2))) fun x24 G25 =>
  bS (mk Q q 36 1 8 z67 (.int .i64 3) (.int .i64 3) ((G25.back (G22.room 9)).at' (G22.nx + 3))) fun x26 G27 =>
  bS (mk Q q 29 1 8 z28 (.int .i64 3) (.int .i64 3) ((G27.back (G25.back (G22.room 9))).at' (G22.nx + 4))) fun x28 G29 =>
  bS (bs Q q 22 3 (rep z3 3) 1 [(0, 0, 1), (1, 1, 1), (2, 2, 1)] [(.int .i64 (-1)), (.int .i64 (-1)), (.int .i64 (-1))] ((G29.back (G27.back (G25.back (G22.room 9)))).at' (G22.nx + 5))) fun x30 G31 =>
  bP (bd Q q 39 z39 [(0, 0, 6), (1, 6, 1), (2, 7, 1), (3, 8, 1), (5, 10, 1), (7, 12, 1)] [x23, x12, x24, x26, x28, x30]) fun x32 =>
  bS (bx q x32 ((G31.back (G29.back (G27.back (G25.back (G22.room 9))))).at' (G22.nx + 7))) fun x33 G34 =>
  some (x33, (G34.back (G31.back (G29.back (G27.back (G25.back (G22.room 9))))))))
theorem m6 {e : Ex} {E : Ev} (h : ExLe Q e E) (v0 v1 : Value) (G : GS) : Ref (s6 true e v0 v1 G) (s6 false (Ex.of E) v0 v1 G) := by
  unfold s6
  exact Ref.gq
theorem f6 {orc : FuncId → Bool} {e : Ex} (h : ExLe Q e (E orc)) (v0 v1 : Value) (G : GS) : Ref (s6 true e v0 v1 G) ((E orc).cl 6 [v0, v1] G) :=
  fun r hr => cl_sxE_some Q orc (vs := [v0, v1]) G Try.func6 (by kernel_rfl) (by kernel_rfl) (by kernel_rfl) (by kernel_rfl) (by kernel_rfl) (by kernel_rfl) (m6 h v0 v1 G r hr)
/-- coxswain/coxswainkit.Pick -/
noncomputable def s7 (q : Bool) (e : Ex) (v0 v1 : Value) (G : GS) : Option (Value × GS) :=
  bP (bn Q q .leq 3 (.tmp 5) (.const (.int .i64 0)) v1 (.int .i64 0)) fun x0 =>
  ifV x0 (
  some ((.int .i64 0), G)) (
  bP (bn Q q .rem 3 (.tmp 7) (.tmp 8) v0 v1) fun x1 =>
  bP (bn Q q .lss 3 (.tmp 10) (.const (.int .i64 0)) x1 (.int .i64 0)) fun x2 =>
  ifV x2 (
  bP (bn Q q .add 3 (.tmp 12) (.tmp 13) x1 v1) fun x3 =>
  some (x3, G)) (
  some (x1, G)))
theorem m7 {e : Ex} {E : Ev} (h : ExLe Q e E) (v0 v1 : Value) (G : GS) : Ref (s7 true e v0 v1 G) (s7 false (Ex.of E) v0 v1 G) := by
  unfold s7
  exact Ref.gq
theorem f7 {orc : FuncId → Bool} {e : Ex} (h : ExLe Q e (E orc)) (v0 v1 : Value) (G : GS) : Ref (s7 true e v0 v1 G) ((E orc).cl 7 [v0, v1] G) :=
  fun r hr => cl_sxE_some Q orc (vs := [v0, v1]) G Try.func7 (by kernel_rfl) (by kernel_rfl) (by kernel_rfl) (by kernel_rfl) (by kernel_rfl) (by kernel_rfl) (m7 h v0 v1 G r hr)
noncomputable def jbl8_0_0 (q : Bool) (e : Ex) (lp : Env → GS → Option (Exit × Env × GS)) (τ : Env) (G : GS) : Option (Exit × Env × GS) :=
  bV q (τ 0) fun a0_ =>
  bV q (τ 1) fun a1_ =>
  bV q (τ 5) fun a5_ =>
  bP (bn Q q .add 3 (.tmp 13) (.const (.int .i64 1)) a5_ (.int .i64 1)) fun x2 =>
  lp (xq q 80 τ [(5, x2), (14, x2), (13, a5_)] [(0, a0_), (1, a1_)]) G
noncomputable def jl8_0_0 (q : Bool) (e : Ex) (lp : Env → GS → Option (Exit × Env × GS)) (τ : Env) (G : GS) : Option (Exit × Env × GS) := jbl8_0_0 q e lp τ G
theorem mjl8_0_0 {e : Ex} {E : Ev} (h : ExLe Q e E) {lp lp' : Env → GS → Option (Exit × Env × GS)} (hlp : LpLe lp lp') (τ : Env) (G : GS) : Ref (jl8_0_0 true e lp τ G) (jl8_0_0 false (Ex.of E) lp' τ G) := by
  unfold jl8_0_0 jbl8_0_0
  exact Ref.gq
theorem mkjl8_0_0 {e : Ex} {E : Ev} (h : ExLe Q e E) {lp lp' : Env → GS → Option (Exit × Env × GS)} (hlp : LpLe lp lp') {τ : Env} {l U : List (Nat × Value)} {G : GS} (hU : UOk τ U) : Ref (jl8_0_0 true e lp (xq true 80 τ l U) G) (jl8_0_0 false (Ex.of E) lp' (xq false 80 τ l U) G) := by
  rw [xq_eq hU]
  exact mjl8_0_0 h hlp _ _
noncomputable def bb8_0 (q : Bool) (e : Ex) (lp : Env → GS → Option (Exit × Env × GS)) (J0 : Env → GS → Option (Exit × Env × GS)) (τ : Env) (G : GS) : Option (Exit × Env × GS) :=
  bV q (τ 0) fun a0_ =>
  bV q (τ 1) fun a1_ =>
  bV q (τ 5) fun a5_ =>
  bP (ln Q q 22 a1_) fun x0 =>
  bP (bn Q q .lss 3 (.tmp 9) (.tmp 11) a5_ x0) fun x1 =>
  ifV x1 (
  bP (ias Q q 22 1 a1_ a5_) fun x3 =>
  bP (ld Q q 3 x3 G) fun x4 =>
  bS (e.ev.cl 7 [x4, (.int .i64 3)] G) fun x5 G6 =>
  bP (pNil a0_) fun x7 =>
  bP (fa Q q 39 7 12 x7) fun x8 =>
  bP (ld Q q 22 x8 G6) fun x9 =>
  bP (ias Q q 22 1 x9 x5) fun x10 =>
  bP (ld Q q 3 x10 G6) fun x11 =>
  bP (bn Q q .lss 3 (.tmp 26) (.const (.int .i64 0)) x11 (.int .i64 0)) fun x12 =>
  ifV x12 (
  bP (pNil a0_) fun x13 =>
  bP (fa Q q 39 4 9 x13) fun x14 =>
  bP (ld Q q 29 x14 (G6.room 23)) fun x15 =>
  bP (ln Q q 29 x15) fun x16 =>
  bP (bn Q q .gtr 3 (.tmp 34) (.const (.int .i64 0)) x16 (.int .i64 0)) fun x17 =>
  bS (gd x17 true (some (a1_, (G6.room 23))) (G6.room 23)) fun x18 _ =>
  bS (gd x17 true (some (a5_, (G6.room 23))) (G6.room 23)) fun x19 _ =>
  bS (gd x17 true (bP (ias Q q 22 1 x18 x19) fun y => some (y, (G6.room 23))) (G6.room 23)) fun x20 _ =>
  bS (gd x17 true (bP (ld Q q 3 x20 (G6.room 23)) fun y => some (y, (G6.room 23))) (G6.room 23)) fun x21 _ =>
  bS (gd x17 true (bP (bn Q q .quo 3 (.tmp 40) (.const (.int .i64 3)) x21 (.int .i64 3)) fun y => some (y, (G6.room 23))) (G6.room 23)) fun x22 _ =>
  bS (gd x17 true (bS (e.ev.cl 7 [x22, (.int .i64 2)] (G6.room 23)) fun y G => some (y, G)) (G6.room 23)) fun x24 G23 =>
  bS (gd x17 true (bP (bn Q q .eql 3 (.tmp 42) (.const (.int .i64 1)) x24 (.int .i64 1)) fun y => some (y, G23)) G23) fun x25 _ =>
  bP (pickV x17 x25 (.bool false)) fun x26 =>
  bP (ias Q q 22 1 a1_ a5_) fun x27 =>
  bP (ld Q q 3 x27 G23) fun x28 =>
  chk (((!(gB x17 true) || sameO (ld Q q 3 x27 (G6.room 23)) x28) && true)) <|
  bP (bn Q q .quo 3 (.tmp 48) (.const (.int .i64 6)) x28 (.int .i64 6)) fun x29 =>
  bS (e.ev.cl 24 [a0_, x5, x26, x29] G23) fun x31 G30 =>
  J0 (xq q 80 τ [(50, x31), (49, x29), (48, x28), (47, x27), (46, a5_), (45, a1_), (44, x26), (43, x25), (42, x24), (41, x22), (40, x21), (39, x20), (38, x19), (37, x18), (36, x17), (35, x17), (34, x16), (33, x15), (32, x14), (31, x13), (30, a0_), (29, x5), (28, a0_), (27, x12), (26, x11), (25, x10), (24, x5), (23, x9), (22, x8), (21, x7), (20, a0_), (6, x5), (19, x5), (18, x4), (17, x3), (16, a5_), (15, a1_), (12, x1), (11, x0), (10, a1_), (9, a5_)] [(0, a0_), (1, a1_), (5, a5_)]) G30) (
  bS (e.ev.cl 25 [a0_, x5] G6) fun x32 G33 =>
  bP (un Q q .not x32) fun x34 =>
  ifV x34 (
  some (.ret, xq q 80 τ [(4, (.bool false)), (54, x34), (53, x32), (52, x5), (51, a0_), (27, x12), (26, x11), (25, x10), (24, x5), (23, x9), (22, x8), (21, x7), (20, a0_), (6, x5), (19, x5), (18, x4), (17, x3), (16, a5_), (15, a1_), (12, x1), (11, x0), (10, a1_), (9, a5_)] [(0, a0_), (1, a1_), (5, a5_)], G33)) (
  J0 (xq q 80 τ [(54, x34), (53, x32), (52, x5), (51, a0_), (27, x12), (26, x11), (25, x10), (24, x5), (23, x9), (22, x8), (21, x7), (20, a0_), (6, x5), (19, x5), (18, x4), (17, x3), (16, a5_), (15, a1_), (12, x1), (11, x0), (10, a1_), (9, a5_)] [(0, a0_), (1, a1_), (5, a5_)]) G33))) (
  some ((.exit 0), xq q 80 τ [(12, x1), (11, x0), (10, a1_), (9, a5_)] [(0, a0_), (1, a1_), (5, a5_)], G))
noncomputable def b8_0 (q : Bool) (e : Ex) (lp : Env → GS → Option (Exit × Env × GS)) (τ : Env) (G : GS) : Option (Exit × Env × GS) := bb8_0 q e lp (jl8_0_0 q e lp) τ G
theorem mb8_0 {e : Ex} {E : Ev} (h : ExLe Q e E) {lp lp' : Env → GS → Option (Exit × Env × GS)} (hlp : LpLe lp lp') (τ : Env) (G : GS) : Ref (b8_0 true e lp τ G) (b8_0 false (Ex.of E) lp' τ G) := by
  unfold b8_0 bb8_0
  repeat' (with_reducible first | exact Ref.rfl' _ | exact ROp.r | refine Ref.bP ?_ fun _ => ?_ | refine Ref.bS ?_ fun _ _ => ?_ | exact Ref.cl (by assumption) | refine Ref.ifV ?_ ?_ | refine LpLe.rx (by assumption) ?_ | refine Ref.xitq ?_ | exact UOk.z | refine UOk.c (by assumption) ?_ | exact Ref.nil _ | refine Ref.bVe fun _ _ => ?_ | refine Ref.bLq (by assumption) ?_ fun _ _ _ => ?_ | refine Ref.ifE ?_ ?_ | refine Ref.chk ?_ ?_ | refine Imp.and ?_ ?_ | refine Imp.or ?_ | exact Imp.rfl' _ | refine Imp.sameO ?_ | refine Ref.gd ?_ | exact Ref.cValue (by assumption) | refine Ref.bX ?_ fun _ _ _ => ?_ | exact Ref.scQ (by assumption) | exact Ref.xRangeQ (by assumption) | exact Ref.cInvoke (by assumption) | refine mkjl8_0_0 (by assumption) (by assumption) ?_)
noncomputable def jtl8_0 (J0 : Env → GS → Option (Exit × Env × GS)) : JT (Exit × Env × GS) :=
  (.n none .e (.n (some (fun T G => J0 (nth undef T) G)) .e .e))
theorem jrl8_0_0 (orc : FuncId → Bool) (J0 : Env → GS → Option (Exit × Env × GS)) (T : List Value) (G : GS) : runC Q (evL Q orc) 80 (jtl8_0 J0) (subAt [1, 0, 1, 0, 0] (bodyOf Try.f8)) (seqXE (fun τ G' => mapE ((E orc).lp (subAt [1, 0, 1, 0, 0] (bodyOf Try.f8)) (lst 80 (nth undef (lst 80 τ))) G')) fun e τ G' => some (e, nth undef (lst 80 τ), G')) [true] (nth undef T) G = jbl8_0_0 false (Ex.of (E orc)) (fun τ G => mapE ((E orc).lp (subAt [1, 0, 1, 0, 0] (bodyOf Try.f8)) (lst 80 τ) G))  (nth undef T) G := by kernel_rfl
theorem jol8_0 (orc : FuncId → Bool) : JOk Q orc 80 (jtl8_0 (jl8_0_0 false (Ex.of (E orc)) (fun τ G => mapE ((E orc).lp (subAt [1, 0, 1, 0, 0] (bodyOf Try.f8)) (lst 80 τ) G))) ) (subAt [1, 0, 1, 0, 0] (bodyOf Try.f8)) (seqXE (fun τ G' => mapE ((E orc).lp (subAt [1, 0, 1, 0, 0] (bodyOf Try.f8)) (lst 80 (nth undef (lst 80 τ))) G')) fun e τ G' => some (e, nth undef (lst 80 τ), G')) :=
  jOk Q orc (l := [([true], (fun T G => jl8_0_0 false (Ex.of (E orc)) (fun τ G => mapE ((E orc).lp (subAt [1, 0, 1, 0, 0] (bodyOf Try.f8)) (lst 80 τ) G)) (nth undef T) G))]) (by kernel_rfl) (AllE.c (fun T G => jrl8_0_0 orc (jl8_0_0 false (Ex.of (E orc)) (fun τ G => mapE ((E orc).lp (subAt [1, 0, 1, 0, 0] (bodyOf Try.f8)) (lst 80 τ) G))) T G) (AllE.z))
theorem jel8_0 (orc : FuncId → Bool) (J0 : Env → GS → Option (Exit × Env × GS)) (T : List Value) (G : GS) : sxC Q (evL Q orc) 80 (jtl8_0 J0) (subAt [1, 0, 1, 0, 0] (bodyOf Try.f8)) (nth undef T) G (seqXE (fun τ G' => mapE ((E orc).lp (subAt [1, 0, 1, 0, 0] (bodyOf Try.f8)) (lst 80 (nth undef (lst 80 τ))) G')) fun e τ G' => some (e, nth undef (lst 80 τ), G')) = bb8_0 false (Ex.of (E orc)) (fun τ G => mapE ((E orc).lp (subAt [1, 0, 1, 0, 0] (bodyOf Try.f8)) (lst 80 τ) G)) J0 (nth undef T) G := by kernel_rfl
theorem l8_0 {orc : FuncId → Bool} {e : Ex} (h : ExLe Q e (E orc)) (lp : Env → GS → Option (Exit × Env × GS)) (hlp : ∀ τ G, Ref (lp τ G) (mapE ((E orc).lp (subAt [1, 0, 1, 0, 0] (bodyOf Try.f8)) (lst 80 τ) G))) (T : List Value) (G : GS) (hT : T.length = 80) : Ref (b8_0 true e lp (nth undef T) G) (mapE ((E orc).lp (subAt [1, 0, 1, 0, 0] (bodyOf Try.f8)) T G)) :=
  fun r hr => lp_sxC Q orc G (jtl8_0 (jl8_0_0 false (Ex.of (E orc)) (fun τ G => mapE ((E orc).lp (subAt [1, 0, 1, 0, 0] (bodyOf Try.f8)) (lst 80 τ) G))) ) hT (jol8_0 orc) (jel8_0 orc (jl8_0_0 false (Ex.of (E orc)) (fun τ G => mapE ((E orc).lp (subAt [1, 0, 1, 0, 0] (bodyOf Try.f8)) (lst 80 τ) G))) T G) (mb8_0 h ⟨hlp⟩ _ _ r hr)
noncomputable def b8_1 (q : Bool) (e : Ex) (lp : Env → GS → Option (Exit × Env × GS)) (τ : Env) (G : GS) : Option (Exit × Env × GS) :=
  bV q (τ 7) fun a7_ =>
  bP (bn Q q .lss 3 (.tmp 55) (.const (.int .i64 3)) a7_ (.int .i64 3)) fun x0 =>
  ifV x0 (
  bLq q e 8 2 (subAt [1, 1, 0, 1, 0, 0, 1, 0, 0, 1, 0, 0] (bodyOf Try.f8)) 80 τ [(8, (.int .i64 0)), (56, x0), (55, a7_)] [] G fun e1 t2 G3 =>
  bV q (t2 7) fun t2x7_ =>
  ifE e1 (.exit 4) (
  bP (bn Q q .add 3 (.tmp 57) (.const (.int .i64 1)) t2x7_ (.int .i64 1)) fun x4 =>
  lp (xq q 80 t2 [(7, x4), (58, x4), (57, t2x7_)] []) G3) (ifE e1 .ret (
  some (.ret, xq q 80 t2 [] [(7, t2x7_)], G3)) (none))) (
  some ((.exit 2), xq q 80 τ [(56, x0), (55, a7_)] [(7, a7_)], G))
theorem mb8_1 {e : Ex} {E : Ev} (h : ExLe Q e E) {lp lp' : Env → GS → Option (Exit × Env × GS)} (hlp : LpLe lp lp') (τ : Env) (G : GS) : Ref (b8_1 true e lp τ G) (b8_1 false (Ex.of E) lp' τ G) := by
  unfold b8_1
  exact Ref.gq
theorem l8_1 {orc : FuncId → Bool} {e : Ex} (h : ExLe Q e (E orc)) (lp : Env → GS → Option (Exit × Env × GS)) (hlp : ∀ τ G, Ref (lp τ G) (mapE ((E orc).lp (subAt [1, 1, 0, 1, 0, 0] (bodyOf Try.f8)) (lst 80 τ) G))) (T : List Value) (G : GS) (hT : T.length = 80) : Ref (b8_1 true e lp (nth undef T) G) (mapE ((E orc).lp (subAt [1, 1, 0, 1, 0, 0] (bodyOf Try.f8)) T G)) :=
  fun r hr => lp_sxN Q orc G hT (by kernel_rfl) (mb8_1 h ⟨hlp⟩ _ _ r hr)
noncomputable def b8_2 (q : Bool) (e : Ex) (lp : Env → GS → Option (Exit × Env × GS)) (τ : Env) (G : GS) : Option (Exit × Env × GS) :=
  bV q (τ 0) fun a0_ =>
  bV q (τ 7) fun a7_ =>
  bV q (τ 8) fun a8_ =>
  bP (pNil a0_) fun x0 =>
  bP (fa Q q 39 7 12 x0) fun x1 =>
  bP (ld Q q 22 x1 G) fun x2 =>
  bP (ias Q q 22 1 x2 a7_) fun x3 =>
  bP (ld Q q 3 x3 G) fun x4 =>
  bP (bn Q q .geq 3 (.tmp 65) (.const (.int .i64 0)) x4 (.int .i64 0)) fun x5 =>
  ifV x5 (
  bP (bn Q q .gtr 3 (.tmp 69) (.const (.int .i64 6)) a8_ (.int .i64 6)) fun x6 =>
  bS (gd x6 false (some (a0_, G)) G) fun x7 G8 =>
  bS (gd x6 false (some (a7_, G8)) G8) fun x9 G10 =>
  bS (gd x6 false (bS (e.ev.cl 25 [x7, x9] G10) fun y G => some (y, G)) G10) fun x11 G12 =>
  bS (gd x6 false (bP (un Q q .not x11) fun y => some (y, G12)) G12) fun x13 G14 =>
  bP (pickV x6 (.bool true) x13) fun x15 =>
  ifV x15 (
  some (.ret, xq q 80 τ [(4, (.bool false)), (76, x15), (75, x13), (74, x11), (73, x9), (72, x7), (71, x6), (70, x6), (69, a8_), (66, x5), (65, x4), (64, x3), (63, a7_), (62, x2), (61, x1), (60, x0), (59, a0_)] [(0, a0_), (7, a7_), (8, a8_)], G14)) (
  bP (bn Q q .add 3 (.tmp 67) (.const (.int .i64 1)) a8_ (.int .i64 1)) fun x16 =>
  lp (xq q 80 τ [(8, x16), (68, x16), (67, a8_), (76, x15), (75, x13), (74, x11), (73, x9), (72, x7), (71, x6), (70, x6), (69, a8_), (66, x5), (65, x4), (64, x3), (63, a7_), (62, x2), (61, x1), (60, x0), (59, a0_)] [(0, a0_), (7, a7_)]) G14)) (
  some ((.exit 4), xq q 80 τ [(66, x5), (65, x4), (64, x3), (63, a7_), (62, x2), (61, x1), (60, x0), (59, a0_)] [(0, a0_), (7, a7_), (8, a8_)], G))
theorem mb8_2 {e : Ex} {E : Ev} (h : ExLe Q e E) {lp lp' : Env → GS → Option (Exit × Env × GS)} (hlp : LpLe lp lp') (τ : Env) (G : GS) : Ref (b8_2 true e lp τ G) (b8_2 false (Ex.of E) lp' τ G) := by
  unfold b8_2
  exact Ref.gq
theorem l8_2 {orc : FuncId → Bool} {e : Ex} (h : ExLe Q e (E orc)) (lp : Env → GS → Option (Exit × Env × GS)) (hlp : ∀ τ G, Ref (lp τ G) (mapE ((E orc).lp (subAt [1, 1, 0, 1, 0, 0, 1, 0, 0, 1, 0, 0] (bodyOf Try.f8)) (lst 80 τ) G))) (T : List Value) (G : GS) (hT : T.length = 80) : Ref (b8_2 true e lp (nth undef T) G) (mapE ((E orc).lp (subAt [1, 1, 0, 1, 0, 0, 1, 0, 0, 1, 0, 0] (bodyOf Try.f8)) T G)) :=
  fun r hr => lp_sxN Q orc G hT (by kernel_rfl) (mb8_2 h ⟨hlp⟩ _ _ r hr)
/-- (*coxswain/coxswainlaw11.crew).plays -/
noncomputable def s8 (q : Bool) (e : Ex) (v0 v1 : Value) (G : GS) : Option (Value × GS) :=
  bLq q e 8 0 (subAt [1, 0, 1, 0, 0] (bodyOf Try.f8)) 80 (nth undef [v0, v1]) [(5, (.int .i64 0)), (4, (.bool false))] [] G fun e0 t1 G2 =>
  bV q (t1 4) fun t1x4_ =>
  ifE e0 (.exit 0) (
  bLq q e 8 1 (subAt [1, 1, 0, 1, 0, 0] (bodyOf Try.f8)) 80 t1 [(7, (.int .i64 0))] [] G2 fun e3 t4 G5 =>
  bV q (t4 0) fun t4x0_ =>
  bV q (t4 4) fun t4x4_ =>
  ifE e3 (.exit 2) (
  bS (e.ev.cl 26 [t4x0_] G5) fun x6 G7 =>
  bP (un Q q .not x6) fun x8 =>
  some (x8, G7)) (ifE e3 .ret (
  some (t4x4_, G5)) (none))) (ifE e0 .ret (
  some (t1x4_, G2)) (none))
theorem m8 {e : Ex} {E : Ev} (h : ExLe Q e E) (v0 v1 : Value) (G : GS) : Ref (s8 true e v0 v1 G) (s8 false (Ex.of E) v0 v1 G) := by
  unfold s8
  exact Ref.gq
theorem f8 {orc : FuncId → Bool} {e : Ex} (h : ExLe Q e (E orc)) (v0 v1 : Value) (G : GS) : Ref (s8 true e v0 v1 G) ((E orc).cl 8 [v0, v1] G) :=
  fun r hr => cl_sxE_some Q orc (vs := [v0, v1]) G Try.func8 (by kernel_rfl) (by kernel_rfl) (by kernel_rfl) (by kernel_rfl) (by kernel_rfl) (by kernel_rfl) (m8 h v0 v1 G r hr)
noncomputable def b9_0 (q : Bool) (e : Ex) (lp : Env → GS → Option (Exit × Env × GS)) (τ : Env) (G : GS) : Option (Exit × Env × GS) :=
  bV q (τ 3) fun a3_ =>
  bV q (τ 29) fun a29_ =>
  bV q (τ 30) fun a30_ =>
  bV q (τ 31) fun a31_ =>
  bP (bn Q q .lss 3 (.tmp 31) (.tmp 30) a31_ a30_) fun x0 =>
  ifV x0 (
  bP (ias Q q 82 1 a29_ a31_) fun x1 =>
  bP (ld Q q 83 x1 G) fun x2 =>
  bP (ias Q q 29 1 a3_ a31_) fun x3 =>
  bP (st Q q 28 1 x3 x2 G) fun G4 =>
  bP (bn Q q .add 3 (.tmp 31) (.const (.int .i64 1)) a31_ (.int .i64 1)) fun x5 =>
  lp (xq q 42 τ [(31, x5), (40, x5), (39, x3), (38, x2), (37, a31_), (36, a3_), (5, x2), (4, a31_), (35, x2), (34, x1), (33, a31_), (32, x0)] [(3, a3_), (29, a29_), (30, a30_)]) G4) (
  some ((.exit 0), xq q 42 τ [(32, x0)] [(3, a3_), (29, a29_), (30, a30_), (31, a31_)], G))
theorem mb9_0 {e : Ex} {E : Ev} (h : ExLe Q e E) {lp lp' : Env → GS → Option (Exit × Env × GS)} (hlp : LpLe lp lp') (τ : Env) (G : GS) : Ref (b9_0 true e lp τ G) (b9_0 false (Ex.of E) lp' τ G) := by
  unfold b9_0
  exact Ref.gq
theorem l9_0 {orc : FuncId → Bool} {e : Ex} (h : ExLe Q e (E orc)) (lp : Env → GS → Option (Exit × Env × GS)) (hlp : ∀ τ G, Ref (lp τ G) (mapE ((E orc).lp (subAt [1, 1, 1, 0, 1, 0, 0] (bodyOf Try.f9)) (lst 42 τ) G))) (T : List Value) (G : GS) (hT : T.length = 42) : Ref (b9_0 true e lp (nth undef T) G) (mapE ((E orc).lp (subAt [1, 1, 1, 0, 1, 0, 0] (bodyOf Try.f9)) T G)) :=
  fun r hr => lp_sxN Q orc G hT (by kernel_rfl) (mb9_0 h ⟨hlp⟩ _ _ r hr)
/-- (*coxswain/cells.Mem).Words -/
noncomputable def s9 (q : Bool) (e : Ex) (v0 : Value) (G : GS) : Option (Value × GS) :=
  bP (ep Q q false 34 (.tmp 6) (.const (.pointer none)) v0 (.pointer none)) fun x0 =>
  bS (gd x0 false (some (v0, G)) G) fun x1 G2 =>
  bS (gd x0 false (bP (pNil x1) fun y => some (y, G2)) G2) fun x3 G4 =>
  bS (gd x0 false (bP (fa Q q 81 0 0 x3) fun y => some (y, G4)) G4) fun x5 G6 =>
  bS (gd x0 false (bP (ld Q q 77 x5 G6) fun y => some (y, G6)) G6) fun x7 G8 =>
  bS (gd x0 false (bP (ep Q q false 77 (.tmp 12) (.const (.pointer none)) x7 (.pointer none)) fun y => some (y, G8)) G8) fun x9 G10 =>
  bP (pickV x0 (.bool true) x9) fun x11 =>
  ifV x11 (
  some ((.slice none 0 0), G10)) (
  bP (pNil v0) fun x12 =>
  bP (fa Q q 81 1 1 x12) fun x13 =>
  bP (ld Q q 3 x13 G10) fun x14 =>
  bS (mk Q q 29 1 8 z28 x14 x14 G10) fun x15 G16 =>
  bP (pNil v0) fun x17 =>
  bP (fa Q q 81 0 0 x17) fun x18 =>
  bP (ld Q q 77 x18 (G16.room 12)) fun x19 =>
  bP (pNil x19) fun x20 =>
  bP (pNil v0) fun x21 =>
  bP (fa Q q 81 1 1 x21) fun x22 =>
  bP (ld Q q 3 x22 (G16.room 12)) fun x23 =>
  bP (sla Q q 123 4096 1 x20 none (some x23) none (G16.room 12)) fun x24 =>
  bP (ln Q q 82 x24) fun x25 =>
  bLq q e 9 0 (subAt [1, 1, 1, 0, 1, 0, 0] (bodyOf Try.f9)) 42 (nth undef [v0]) [(31, (.int .i64 0)), (30, x25), (29, x24), (28, x23), (27, x22), (26, x21), (25, v0), (24, x20), (23, x19), (22, x18), (21, x17), (20, v0), (3, x15), (19, x15), (18, x14), (17, x13), (16, x12), (15, v0), (14, x11), (13, x9), (12, x7), (11, x5), (10, x3), (9, x1), (8, x0), (7, x0), (6, v0), (2, (.slice none 0 0))] [] (G16.room 12) fun e26 t27 G28 =>
  bV q (t27 3) fun t27x3_ =>
  ifE e26 (.exit 0) (
  some (t27x3_, G28)) (none))
theorem m9 {e : Ex} {E : Ev} (h : ExLe Q e E) (v0 : Value) (G : GS) : Ref (s9 true e v0 G) (s9 false (Ex.of E) v0 G) := by
  unfold s9
  exact Ref.gq
theorem f9 {orc : FuncId → Bool} {e : Ex} (h : ExLe Q e (E orc)) (v0 : Value) (G : GS) : Ref (s9 true e v0 G) ((E orc).cl 9 [v0] G) :=
  fun r hr => cl_sxE_some Q orc (vs := [v0]) G Try.func9 (by kernel_rfl) (by kernel_rfl) (by kernel_rfl) (by kernel_rfl) (by kernel_rfl) (by kernel_rfl) (m9 h v0 G r hr)
noncomputable def b10_0 (q : Bool) (e : Ex) (lp : Env → GS → Option (Exit × Env × GS)) (τ : Env) (G : GS) : Option (Exit × Env × GS) :=
  bV q (τ 0) fun a0_ =>
  bV q (τ 3) fun a3_ =>
  bV q (τ 6) fun a6_ =>
  bV q (τ 7) fun a7_ =>
  bP (bn Q q .geq 3 (.tmp 30) (.const (.int .i64 0)) a7_ (.int .i64 0)) fun x0 =>
  bS (gd x0 true (some (a7_, G)) G) fun x1 G2 =>
  bS (gd x0 true (some (a0_, G2)) G2) fun x3 G4 =>
  bS (gd x0 true (bP (pNil x3) fun y => some (y, G4)) G4) fun x5 G6 =>
  bS (gd x0 true (bP (fa Q q 39 0 0 x5) fun y => some (y, G6)) G6) fun x7 G8 =>
  bS (gd x0 true (bP (fa Q q 33 0 0 x7) fun y => some (y, G8)) G8) fun x9 G10 =>
  bS (gd x0 true (bP (fa Q q 31 2 2 x9) fun y => some (y, G10)) G10) fun x11 G12 =>
  bS (gd x0 true (bP (ld Q q 3 x11 G12) fun y => some (y, G12)) G12) fun x13 G14 =>
  bS (gd x0 true (bP (bn Q q .lss 3 (.tmp 33) (.tmp 39) x1 x13) fun y => some (y, G14)) G14) fun x15 G16 =>
  bP (pickV x0 x15 (.bool false)) fun x17 =>
  bS (gd x17 true (some (a6_, G16)) G16) fun x18 G19 =>
  bS (gd x17 true (some (a0_, G19)) G19) fun x20 G21 =>
  bS (gd x17 true (bP (pNil x20) fun y => some (y, G21)) G21) fun x22 G23 =>
  bS (gd x17 true (bP (fa Q q 39 0 0 x22) fun y => some (y, G23)) G23) fun x24 G25 =>
  bS (gd x17 true (bP (fa Q q 33 0 0 x24) fun y => some (y, G25)) G25) fun x26 G27 =>
  bS (gd x17 true (bP (fa Q q 31 2 2 x26) fun y => some (y, G27)) G27) fun x28 G29 =>
  bS (gd x17 true (bP (ld Q q 3 x28 G29) fun y => some (y, G29)) G29) fun x30 G31 =>
  bS (gd x17 true (bP (bn Q q .leq 3 (.tmp 43) (.tmp 49) x18 x30) fun y => some (y, G31)) G31) fun x32 G33 =>
  bP (pickV x17 x32 (.bool false)) fun x34 =>
  ifV x34 (
  bP (pNil a0_) fun x35 =>
  bP (fa Q q 39 0 0 x35) fun x36 =>
  bP (fa Q q 33 0 0 x36) fun x37 =>
  bP (fa Q q 31 1 1 x37) fun x38 =>
  bP (ld Q q 3 x38 G33) fun x39 =>
  bP (bn Q q .add 3 (.tmp 61) (.tmp 62) x39 a7_) fun x40 =>
  bP (ias Q q 29 1 a3_ x40) fun x41 =>
  bP (ld Q q 28 x41 G33) fun x42 =>
  bS (e.ev.cl 27 [x42] G33) fun x43 G44 =>
  bP (pExtract x43 0) fun x45 =>
  bP (pExtract x43 1) fun x46 =>
  bS (al Q q 85 z85 G44) fun x47 G48 =>
  bP (st Q q 85 2 x47 x45 G48) fun G49 =>
  bP (fa Q q 85 0 0 x47) fun x50 =>
  bP (ld Q q 3 x50 G49) fun x51 =>
  bP (bn Q q .add 3 (.tmp 52) (.const (.int .i64 1)) a6_ (.int .i64 1)) fun x52 =>
  lp (xq q 72 τ [(6, x52), (53, x52), (52, a6_), (7, x51), (70, x51), (69, x50), (9, x46), (8, x47), (68, x46), (67, x45), (54, x43), (66, x43), (65, x42), (64, x41), (63, x40), (62, a7_), (61, x39), (60, x38), (59, x37), (58, x36), (57, x35), (56, a0_), (55, a3_), (51, x34), (50, x32), (49, x30), (48, x28), (47, x26), (46, x24), (45, x22), (44, x20), (43, x18), (42, x17), (41, x17), (40, x15), (39, x13), (38, x11), (37, x9), (36, x7), (35, x5), (34, x3), (33, x1), (32, x0), (31, x0), (30, a7_)] [(0, a0_), (3, a3_)]) G49) (
  some ((.exit 0), xq q 72 τ [(51, x34), (50, x32), (49, x30), (48, x28), (47, x26), (46, x24), (45, x22), (44, x20), (43, x18), (42, x17), (41, x17), (40, x15), (39, x13), (38, x11), (37, x9), (36, x7), (35, x5), (34, x3), (33, x1), (32, x0), (31, x0), (30, a7_)] [(0, a0_), (3, a3_), (6, a6_), (7, a7_)], G33))
theorem mb10_0 {e : Ex} {E : Ev} (h : ExLe Q e E) {lp lp' : Env → GS → Option (Exit × Env × GS)} (hlp : LpLe lp lp') (τ : Env) (G : GS) : Ref (b10_0 true e lp τ G) (b10_0 false (Ex.of E) lp' τ G) := by
  unfold b10_0
  exact Ref.gq
theorem l10_0 {orc : FuncId → Bool} {e : Ex} (h : ExLe Q e (E orc)) (lp : Env → GS → Option (Exit × Env × GS)) (hlp : ∀ τ G, Ref (lp τ G) (mapE ((E orc).lp (subAt [1, 1, 1, 1, 0, 1, 0, 0] (bodyOf Try.f10)) (lst 72 τ) G))) (T : List Value) (G : GS) (hT : T.length = 72) : Ref (b10_0 true e lp (nth undef T) G) (mapE ((E orc).lp (subAt [1, 1, 1, 1, 0, 1, 0, 0] (bodyOf Try.f10)) T G)) :=
  fun r hr => lp_sxN Q orc G hT (by kernel_rfl) (mb10_0 h ⟨hlp⟩ _ _ r hr)
/-- (*coxswain/coxswainlaw11.crew).count -/
noncomputable def s10 (q : Bool) (e : Ex) (v0 : Value) (G : GS) : Option (Value × GS) :=
  bP (pNil v0) fun x0 =>
  bP (fa Q q 39 1 6 x0) fun x1 =>
  bP (ld Q q 34 x1 G) fun x2 =>
  bS (e.ev.cl 9 [x2] G) fun x3 G4 =>
  bP (pNil v0) fun x5 =>
  bP (fa Q q 39 0 0 x5) fun x6 =>
  bP (fa Q q 33 0 0 x6) fun x7 =>
  bP (fa Q q 31 0 0 x7) fun x8 =>
  bP (ld Q q 3 x8 G4) fun x9 =>
  bP (ias Q q 29 1 x3 x9) fun x10 =>
  bP (ld Q q 28 x10 G4) fun x11 =>
  bS (e.ev.cl 27 [x11] G4) fun x12 G13 =>
  bP (pExtract x12 0) fun x14 =>
  bP (pExtract x12 1) fun x15 =>
  bS (al Q q 85 z85 G13) fun x16 G17 =>
  bP (st Q q 85 2 x16 x14 G17) fun G18 =>
  bP (fa Q q 85 0 0 x16) fun x19 =>
  bP (ld Q q 3 x19 G18) fun x20 =>
  bLq q e 10 0 (subAt [1, 1, 1, 1, 0, 1, 0, 0] (bodyOf Try.f10)) 72 (nth undef [v0]) [(7, x20), (29, x20), (28, x19), (6, (.int .i64 0)), (5, x15), (4, x16), (27, x15), (26, x14), (15, x12), (25, x12), (24, x11), (23, x10), (22, x9), (21, x8), (20, x7), (19, x6), (18, x5), (17, v0), (16, x3), (3, x3), (14, x3), (13, x2), (12, x1), (11, x0), (10, v0), (2, (.int .i64 0))] [] G18 fun e21 t22 G23 =>
  bV q (t22 6) fun t22x6_ =>
  ifE e21 (.exit 0) (
  some (t22x6_, G23)) (none)
theorem m10 {e : Ex} {E : Ev} (h : ExLe Q e E) (v0 : Value) (G : GS) : Ref (s10 true e v0 G) (s10 false (Ex.of E) v0 G) := by
  unfold s10
  exact Ref.gq
theorem f10 {orc : FuncId → Bool} {e : Ex} (h : ExLe Q e (E orc)) (v0 : Value) (G : GS) : Ref (s10 true e v0 G) ((E orc).cl 10 [v0] G) :=
  fun r hr => cl_sxE_some Q orc (vs := [v0]) G Try.func10 (by kernel_rfl) (by kernel_rfl) (by kernel_rfl) (by kernel_rfl) (by kernel_rfl) (by kernel_rfl) (m10 h v0 G r hr)
/-- coxswain/arena.NewFree -/
noncomputable def s17 (q : Bool) (e : Ex) (v0 v1 : Value) (G : GS) : Option (Value × GS) :=
  bS (bx q v0 G) fun x0 G1 =>
  bP (fa Q q 33 0 0 x0) fun x2 =>
  bP (lda Q q 31 3 x2 (G1.room 9)) fun x3 =>
  bS (e.ev.cl 46 [x3, v1] (G1.room 9)) fun x5 G4 =>
  bP (lda Q q 33 6 x0 G4) fun x6 =>
  chk ((sameO (lda Q q 33 6 x0 (G1.room 9)) x6 && true)) <|
  bP (bd Q q 110 z110 [(0, 0, 1), (1, 1, 6), (2, 7, 1), (4, 9, 1)] [x5, x6, (.bool true), v1]) fun x7 =>
  bS (bx q x7 (G4.at' (G1.nx + 7))) fun x8 G9 =>
  bP (bn Q q .lss 3 (.tmp 14) (.const (.int .i64 0)) v1 (.int .i64 0)) fun x10 =>
  bS (gd x10 false (some (v1, (G9.back G4))) (G9.back G4)) fun x11 G12 =>
  bS (gd x10 false (bP (fa Q q 33 0 0 x0) fun y => some (y, G12)) G12) fun x13 G14 =>
  bS (gd x10 false (bP (fa Q q 31 2 2 x13) fun y => some (y, G14)) G14) fun x15 G16 =>
  bS (gd x10 false (bP (ld Q q 3 x15 G16) fun y => some (y, G16)) G16) fun x17 G18 =>
  bS (gd x10 false (bP (bn Q q .geq 3 (.tmp 17) (.tmp 20) x11 x17) fun y => some (y, G18)) G18) fun x19 G20 =>
  bP (pickV x10 (.bool true) x19) fun x21 =>
  ifV x21 (
  bP (pNil x8) fun x22 =>
  bP (fa Q q 110 6 11 x22) fun x23 =>
  bP (st Q q 41 1 x23 (.int .i64 3) G20) fun G24 =>
  some (x8, G24)) (
  bP (pNil x8) fun x25 =>
  bP (fa Q q 110 3 8 x25) fun x26 =>
  bP (st Q q 108 1 x26 (.func (.func 47) #[] #[]) G20) fun G27 =>
  some (x8, G27))
theorem m17 {e : Ex} {E : Ev} (h : ExLe Q e E) (v0 v1 : Value) (G : GS) : Ref (s17 true e v0 v1 G) (s17 false (Ex.of E) v0 v1 G) := by
  unfold s17
  exact Ref.gq
theorem f17 {orc : FuncId → Bool} {e : Ex} (h : ExLe Q e (E orc)) (v0 v1 : Value) (G : GS) : Ref (s17 true e v0 v1 G) ((E orc).cl 17 [v0, v1] G) :=
  fun r hr => cl_sxE_some Q orc (vs := [v0, v1]) G Try.func17 (by kernel_rfl) (by kernel_rfl) (by kernel_rfl) (by kernel_rfl) (by kernel_rfl) (by kernel_rfl) (m17 h v0 v1 G r hr)
/-- (*coxswain/arena.Free).Step -/
noncomputable def s19 (q : Bool) (e : Ex) (v0 v1 : Value) (G : GS) : Option (Value × GS) :=
  bP (ep Q q false 67 (.tmp 5) (.const (.pointer none)) v0 (.pointer none)) fun x0 =>
  bS (gd x0 false (some (v0, G)) G) fun x1 G2 =>
  bS (gd x0 false (bP (pNil x1) fun y => some (y, G2)) G2) fun x3 G4 =>
  bS (gd x0 false (bP (fa Q q 110 3 8 x3) fun y => some (y, G4)) G4) fun x5 G6 =>
  bS (gd x0 false (bP (ld Q q 108 x5 G6) fun y => some (y, G6)) G6) fun x7 G8 =>
  bS (gd x0 false (bP (ef Q q false 108 (.tmp 11) (.const .nilFunc) x7 .nilFunc) fun y => some (y, G8)) G8) fun x9 G10 =>
  bP (pickV x0 (.bool true) x9) fun x11 =>
  ifV x11 (
  some ((.bool true), G10)) (
  bP (pNil v0) fun x12 =>
  bP (fa Q q 110 3 8 x12) fun x13 =>
  bP (ld Q q 108 x13 G10) fun x14 =>
  bS (cValue e.ev x14 [v0, v1] G10) fun x15 G16 =>
  bP (pNil v0) fun x17 =>
  bP (fa Q q 110 3 8 x17) fun x18 =>
  bP (ld Q q 108 x18 G16) fun x19 =>
  bP (ef Q q false 108 (.tmp 24) (.const .nilFunc) x19 .nilFunc) fun x20 =>
  some (x20, G16))
theorem m19 {e : Ex} {E : Ev} (h : ExLe Q e E) (v0 v1 : Value) (G : GS) : Ref (s19 true e v0 v1 G) (s19 false (Ex.of E) v0 v1 G) := by
  unfold s19
  exact Ref.gq
theorem f19 {orc : FuncId → Bool} {e : Ex} (h : ExLe Q e (E orc)) (v0 v1 : Value) (G : GS) : Ref (s19 true e v0 v1 G) ((E orc).cl 19 [v0, v1] G) :=
  fun r hr => cl_sxE_some Q orc (vs := [v0, v1]) G Try.func19 (by kernel_rfl) (by kernel_rfl) (by kernel_rfl) (by kernel_rfl) (by kernel_rfl) (by kernel_rfl) (m19 h v0 v1 G r hr)
/-- coxswain/cells.New -/
noncomputable def s22 (q : Bool) (e : Ex) (v0 : Value) (G : GS) : Option (Value × GS) :=
  bP (bn Q q .lss 3 (.tmp 4) (.const (.int .i64 1)) v0 (.int .i64 1)) fun x0 =>
  bS (gd x0 false (some (v0, G)) G) fun x1 G2 =>
  bS (gd x0 false (bP (bn Q q .gtr 3 (.tmp 7) (.const (.int .i64 4096)) x1 (.int .i64 4096)) fun y => some (y, G2)) G2) fun x3 G4 =>
  bP (pickV x0 (.bool true) x3) fun x5 =>
  ifV x5 (
  some (.tuple #[(.pointer none), (.int .i64 3)], G4)) (
  bS (al Q q 123 z123 G4) fun x6 G7 =>
  bP (bd Q q 81 z81 [(0, 0, 1), (1, 1, 1)] [x6, v0]) fun x8 =>
  bS (bx q x8 G7) fun x9 G10 =>
  some (.tuple #[x9, (.int .i64 0)], G10))
theorem m22 {e : Ex} {E : Ev} (h : ExLe Q e E) (v0 : Value) (G : GS) : Ref (s22 true e v0 G) (s22 false (Ex.of E) v0 G) := by
  unfold s22
  exact Ref.gq
theorem f22 {orc : FuncId → Bool} {e : Ex} (h : ExLe Q e (E orc)) (v0 : Value) (G : GS) : Ref (s22 true e v0 G) ((E orc).cl 22 [v0] G) :=
  fun r hr => cl_sxE_some Q orc (vs := [v0]) G Try.func22 (by kernel_rfl) (by kernel_rfl) (by kernel_rfl) (by kernel_rfl) (by kernel_rfl) (by kernel_rfl) (m22 h v0 G r hr)
noncomputable def b23_0 (q : Bool) (e : Ex) (lp : Env → GS → Option (Exit × Env × GS)) (τ : Env) (G : GS) : Option (Exit × Env × GS) :=
  bV q (τ 1) fun a1_ =>
  bV q (τ 2) fun a2_ =>
  bV q (τ 18) fun a18_ =>
  bV q (τ 19) fun a19_ =>
  bP (bn Q q .lss 3 (.tmp 19) (.tmp 18) a19_ a18_) fun x0 =>
  ifV x0 (
  bP (fa Q q 33 1 3 a2_) fun x1 =>
  bP (ld Q q 3 x1 G) fun x2 =>
  bP (bn Q q .add 3 (.tmp 24) (.tmp 25) x2 a19_) fun x3 =>
  bS (e.ev.cl 57 [a1_, x3, (.int .u64 1)] G) fun x4 G5 =>
  bP (bn Q q .add 3 (.tmp 19) (.const (.int .i64 1)) a19_ (.int .i64 1)) fun x6 =>
  lp (xq q 29 τ [(19, x6), (28, x6), (27, x4), (26, x3), (25, a19_), (24, x2), (23, x1), (22, a1_), (4, a19_), (21, a19_), (20, x0)] [(1, a1_), (2, a2_), (18, a18_)]) G5) (
  some ((.exit 0), xq q 29 τ [(20, x0)] [(1, a1_), (2, a2_), (18, a18_), (19, a19_)], G))
theorem mb23_0 {e : Ex} {E : Ev} (h : ExLe Q e E) {lp lp' : Env → GS → Option (Exit × Env × GS)} (hlp : LpLe lp lp') (τ : Env) (G : GS) : Ref (b23_0 true e lp τ G) (b23_0 false (Ex.of E) lp' τ G) := by
  unfold b23_0
  exact Ref.gq
theorem l23_0 {orc : FuncId → Bool} {e : Ex} (h : ExLe Q e (E orc)) (lp : Env → GS → Option (Exit × Env × GS)) (hlp : ∀ τ G, Ref (lp τ G) (mapE ((E orc).lp (subAt [1, 1, 1, 1, 1, 0, 0] (bodyOf Try.f23)) (lst 29 τ) G))) (T : List Value) (G : GS) (hT : T.length = 29) : Ref (b23_0 true e lp (nth undef T) G) (mapE ((E orc).lp (subAt [1, 1, 1, 1, 1, 0, 0] (bodyOf Try.f23)) T G)) :=
  fun r hr => lp_sxN Q orc G hT (by kernel_rfl) (mb23_0 h ⟨hlp⟩ _ _ r hr)
/-- coxswain/arena.Fill -/
noncomputable def s23 (q : Bool) (e : Ex) (v0 v1 : Value) (G : GS) : Option (Value × GS) :=
  bS (bx q v0 G) fun x0 G1 =>
  bP (lda Q q 33 6 x0 G1) fun x2 =>
  bS (e.ev.cl 55 [x2] G1) fun x3 G4 =>
  bP (un Q q .not x3) fun x5 =>
  ifV x5 (
  some (.tuple #[], G4)) (
  bP (fa Q q 33 0 0 x0) fun x6 =>
  bP (lda Q q 31 3 x6 G4) fun x7 =>
  bS (e.ev.cl 56 [x7, v1] G4) fun x8 G9 =>
  bP (fa Q q 33 2 4 x0) fun x10 =>
  bP (ld Q q 3 x10 G9) fun x11 =>
  bS (e.ev.cl 57 [v1, x11, (.int .u64 0)] G9) fun x12 G13 =>
  bP (fa Q q 33 0 0 x0) fun x14 =>
  bP (fa Q q 31 2 2 x14) fun x15 =>
  bP (ld Q q 3 x15 G13) fun x16 =>
  bLq q e 23 0 (subAt [1, 1, 1, 1, 1, 0, 0] (bodyOf Try.f23)) 29 (nth undef [v0, v1]) [(19, (.int .i64 0)), (18, x16), (17, x15), (16, x14), (15, x12), (14, x11), (13, x10), (12, v1), (11, x8), (10, v1), (9, x7), (8, x6), (7, x5), (6, x3), (5, x2), (2, x0)] [] G13 fun e17 t18 G19 =>
  ifE e17 (.exit 0) (
  some (.tuple #[], G19)) (none))
theorem m23 {e : Ex} {E : Ev} (h : ExLe Q e E) (v0 v1 : Value) (G : GS) : Ref (s23 true e v0 v1 G) (s23 false (Ex.of E) v0 v1 G) := by
  unfold s23
  exact Ref.gq
theorem f23 {orc : FuncId → Bool} {e : Ex} (h : ExLe Q e (E orc)) (v0 v1 : Value) (G : GS) : Ref (s23 true e v0 v1 G) ((E orc).cl 23 [v0, v1] G) :=
  fun r hr => cl_sxE_some Q orc (vs := [v0, v1]) G Try.func23 (by kernel_rfl) (by kernel_rfl) (by kernel_rfl) (by kernel_rfl) (by kernel_rfl) (by kernel_rfl) (m23 h v0 v1 G r hr)
noncomputable def jb24_0 (q : Bool) (e : Ex) (τ : Env) (G : GS) : Option (Value × GS) :=
  bV q (τ 0) fun a0_ =>
  bV q (τ 1) fun a1_ =>
  bV q (τ 8) fun a8_ =>
  bP (pNil a0_) fun x19 =>
  bP (fa Q q 39 7 12 x19) fun x20 =>
  bP (ld Q q 22 x20 (G.room 12)) fun x21 =>
  bP (pNil a0_) fun x22 =>
  bP (fa Q q 39 6 11 x22) fun x23 =>
  bP (ld Q q 37 x23 (G.room 12)) fun x24 =>
  bP (ln Q q 37 x24) fun x25 =>
  bP (ias Q q 22 1 x21 a1_) fun x26 =>
  bP (st Q q 3 1 x26 x25 (G.room 12)) fun G27 =>
  bP (pNil a0_) fun x28 =>
  bP (fa Q q 39 6 11 x28) fun x29 =>
  bP (ld Q q 37 x29 (G27.room 11)) fun x30 =>
  bP (lda Q q 47 10 a8_ (G27.room 11)) fun x31 =>
  bS (bs Q q 37 1 (rep z47 1) 10 [(0, 0, 10)] [x31] ((G27.room 11).at' (G27.nx + 6))) fun x32 G33 =>
  bS (ap Q q 37 37 10 80 x30 x32 (G33.back (G27.room 11))) fun x35 G34 =>
  bP (pNil a0_) fun x36 =>
  bP (fa Q q 39 6 11 x36) fun x37 =>
  bP (st Q q 37 1 x37 x35 G34) fun G38 =>
  some (.tuple #[], G38)
noncomputable def j24_0 (q : Bool) (e : Ex) (τ : Env) (G : GS) : Option (Value × GS) := jb24_0 q e τ G
theorem mj24_0 {e : Ex} {E : Ev} (h : ExLe Q e E) (τ : Env) (G : GS) : Ref (j24_0 true e τ G) (j24_0 false (Ex.of E) τ G) := by
  unfold j24_0 jb24_0
  exact Ref.gq
theorem mkj24_0 {e : Ex} {E : Ev} (h : ExLe Q e E) {τ : Env} {l U : List (Nat × Value)} {G : GS} (hU : UOk τ U) : Ref (j24_0 true e (xq true 130 τ l U) G) (j24_0 false (Ex.of E) (xq false 130 τ l U) G) := by
  rw [xq_eq hU]
  exact mj24_0 h _ _
noncomputable def sb24 (q : Bool) (e : Ex) (J0 : Env → GS → Option (Value × GS)) (v0 v1 v2 v3 : Value) (G : GS) : Option (Value × GS) :=
  bP (pNil v0) fun x0 =>
  bP (fa Q q 39 8 13 x0) fun x1 =>
  bP (ld Q q 3 x1 G) fun x2 =>
  bP (bn Q q .add 3 (.tmp 15) (.const (.int .i64 1)) x2 (.int .i64 1)) fun x3 =>
  bP (pNil v0) fun x4 =>
  bP (fa Q q 39 8 13 x4) fun x5 =>
  bP (st Q q 3 1 x5 x3 G) fun G6 =>
  bP (pNil v0) fun x7 =>
  bP (fa Q q 39 6 11 x7) fun x8 =>
  bP (ld Q q 37 x8 (G6.room 13)) fun x9 =>
  bP (ln Q q 37 x9) fun x10 =>
  bP (pNil v0) fun x11 =>
  bP (fa Q q 39 8 13 x11) fun x12 =>
  bP (ld Q q 3 x12 (G6.room 13)) fun x13 =>
  bP (bd Q q 45 z45 [(0, 0, 1)] [(.int .i64 7)]) fun x14 =>
  bP (bd Q q 47 z47 [(0, 0, 1), (1, 1, 1), (2, 2, 1), (3, 3, 4)] [x10, x13, (.int .i64 (-1)), x14]) fun x15 =>
  bS (al Q q 47 z47 ((G6.room 13).at' (G6.nx + 11))) fun x16 G17 =>
  bP (st Q q 47 10 x16 x15 (G17.back (G6.room 13))) fun G18 =>
  ifV v2 (
  bP (pNil v0) fun x39 =>
  bP (fa Q q 39 4 9 x39) fun x40 =>
  bP (ld Q q 29 x40 G18) fun x41 =>
  bP (ln Q q 29 x41) fun x42 =>
  bS (e.ev.cl 7 [v3, x42] G18) fun x43 G44 =>
  bP (pNil v0) fun x45 =>
  bP (fa Q q 39 5 10 x45) fun x46 =>
  bP (ld Q q 29 x46 (G44.room 14)) fun x47 =>
  bP (pNil v0) fun x48 =>
  bP (fa Q q 39 4 9 x48) fun x49 =>
  bP (ld Q q 29 x49 (G44.room 14)) fun x50 =>
  bP (ias Q q 29 1 x50 x43) fun x51 =>
  bP (ld Q q 28 x51 (G44.room 14)) fun x52 =>
  bP (ias Q q 29 1 x47 v1) fun x53 =>
  bP (st Q q 28 1 x53 x52 (G44.room 14)) fun G54 =>
  bS (bs Q q 29 0 (rep z28 0) 1 [] [] ((G54.room 20).at' (G54.nx + 1))) fun x55 G56 =>
  bP (pNil v0) fun x57 =>
  bP (fa Q q 39 4 9 x57) fun x58 =>
  bP (ld Q q 29 x58 (G56.back (G54.room 20))) fun x59 =>
  bP (sl Q q 29 1 x59 none (some x43) none (G56.back (G54.room 20))) fun x60 =>
  bS (ap Q q 29 29 1 8 x55 x60 (G56.back (G54.room 20))) fun x62 G61 =>
  bP (pNil v0) fun x63 =>
  bP (fa Q q 39 4 9 x63) fun x64 =>
  bP (ld Q q 29 x64 G61) fun x65 =>
  chk ((sameO (ld Q q 29 x64 (G56.back (G54.room 20))) x65 && true)) <|
  bP (bn Q q .add 3 (.tmp 64) (.const (.int .i64 1)) x43 (.int .i64 1)) fun x66 =>
  bP (sl Q q 29 1 x65 (some x66) none none G61) fun x67 =>
  chk ((sameO (sl Q q 29 1 x65 (some x66) none none (G56.back (G54.room 20))) x67 && true)) <|
  bS (ap Q q 29 29 1 8 x62 x67 G61) fun x69 G68 =>
  bP (pNil v0) fun x70 =>
  bP (fa Q q 39 4 9 x70) fun x71 =>
  bP (st Q q 29 1 x71 x69 G68) fun G72 =>
  bP (pNil v0) fun x73 =>
  bP (fa Q q 39 5 10 x73) fun x74 =>
  bP (ld Q q 29 x74 G72) fun x75 =>
  bP (ias Q q 29 1 x75 v1) fun x76 =>
  bP (ld Q q 28 x76 G72) fun x77 =>
  bS (e.ev.cl 58 [x77] G72) fun x78 G79 =>
  bP (pExtract x78 0) fun x80 =>
  bP (pExtract x78 1) fun x81 =>
  bS (al Q q 128 z128 G79) fun x82 G83 =>
  bP (st Q q 128 3 x82 x80 G83) fun G84 =>
  bP (pNil v0) fun x85 =>
  bP (fa Q q 39 3 8 x85) fun x86 =>
  bP (ld Q q 36 x86 (G84.room 14)) fun x87 =>
  bP (pNil v0) fun x88 =>
  bP (fa Q q 39 0 0 x88) fun x89 =>
  bP (lda Q q 33 6 x89 (G84.room 14)) fun x90 =>
  bP (fa Q q 128 0 0 x82) fun x91 =>
  bP (ld Q q 3 x91 (G84.room 14)) fun x92 =>
  bS (e.ev.cl 17 [x90, x92] (G84.room 14)) fun x94 G93 =>
  chk ((sameO (ld Q q 36 x86 G93) x87 && true)) <|
  bP (ias Q q 36 1 x87 v1) fun x95 =>
  bP (st Q q 67 1 x95 x94 G93) fun G96 =>
  bP (fa Q q 128 0 0 x82) fun x97 =>
  bP (ld Q q 3 x97 G96) fun x98 =>
  bP (bd Q q 45 z45 [(0, 0, 1), (1, 1, 1)] [(.int .i64 8), x98]) fun x99 =>
  bP (fa Q q 47 3 3 x16) fun x100 =>
  bP (st Q q 45 4 x100 x99 G96) fun G101 =>
  J0 (xq q 130 (nth undef [v0, v1, v2, v3]) [(97, x100), (96, x99), (95, x98), (94, x97), (93, x95), (92, x94), (91, x92), (90, x91), (89, x90), (88, x89), (87, x88), (86, v0), (85, v1), (84, x87), (83, x86), (82, x85), (81, v0), (11, x81), (10, x82), (80, x81), (79, x80), (70, x78), (78, x78), (77, x77), (76, x76), (75, v1), (74, x75), (73, x74), (72, x73), (71, v0), (69, x71), (68, x70), (67, x69), (66, x67), (65, x66), (64, x43), (63, x65), (62, x64), (61, x63), (60, v0), (59, x62), (58, x60), (57, x43), (56, x59), (55, x58), (54, x57), (53, v0), (52, x55), (51, v0), (50, x53), (49, x52), (48, x51), (47, x43), (46, x50), (45, x49), (44, x48), (43, v0), (42, v1), (41, x47), (40, x46), (39, x45), (38, v0), (9, x43), (37, x43), (36, x42), (35, x41), (34, x40), (33, x39), (32, v0), (31, v3), (30, v2), (8, x16), (29, x15), (28, x14), (27, x13), (26, x12), (25, x11), (24, v0), (23, x10), (22, x9), (21, x8), (20, x7), (19, v0), (18, x5), (17, x4), (16, x3), (15, x2), (14, x1), (13, x0), (12, v0)] []) G101) (
  bP (pNil v0) fun x102 =>
  bP (fa Q q 39 2 7 x102) fun x103 =>
  bP (ld Q q 35 x103 (G18.room 12)) fun x104 =>
  bP (pNil v0) fun x105 =>
  bP (fa Q q 39 0 0 x105) fun x106 =>
  bP (lda Q q 33 6 x106 (G18.room 12)) fun x107 =>
  bS (e.ev.cl 48 [x107] (G18.room 12)) fun x109 G108 =>
  chk ((sameO (ld Q q 35 x103 G108) x104 && true)) <|
  bP (ias Q q 35 1 x104 v1) fun x110 =>
  bP (st Q q 113 1 x110 x109 G108) fun G111 =>
  J0 (xq q 130 (nth undef [v0, v1, v2, v3]) [(108, x110), (107, x109), (106, x107), (105, x106), (104, x105), (103, v0), (102, v1), (101, x104), (100, x103), (99, x102), (98, v0), (30, v2), (8, x16), (29, x15), (28, x14), (27, x13), (26, x12), (25, x11), (24, v0), (23, x10), (22, x9), (21, x8), (20, x7), (19, v0), (18, x5), (17, x4), (16, x3), (15, x2), (14, x1), (13, x0), (12, v0)] []) G111)
/-- (*coxswain/coxswainlaw11.crew).begins -/
noncomputable def s24 (q : Bool) (e : Ex) (v0 v1 v2 v3 : Value) (G : GS) : Option (Value × GS) := sb24 q e (j24_0 q e) v0 v1 v2 v3 G
theorem m24 {e : Ex} {E : Ev} (h : ExLe Q e E) (v0 v1 v2 v3 : Value) (G : GS) : Ref (s24 true e v0 v1 v2 v3 G) (s24 false (Ex.of E) v0 v1 v2 v3 G) := by
  unfold s24 sb24
  repeat' (with_reducible first | exact Ref.rfl' _ | exact ROp.r | refine Ref.bP ?_ fun _ => ?_ | refine Ref.bS ?_ fun _ _ => ?_ | exact Ref.cl (by assumption) | refine Ref.ifV ?_ ?_ | refine LpLe.rx (by assumption) ?_ | refine Ref.xitq ?_ | exact UOk.z | refine UOk.c (by assumption) ?_ | exact Ref.nil _ | refine Ref.bVe fun _ _ => ?_ | refine Ref.bLq (by assumption) ?_ fun _ _ _ => ?_ | refine Ref.ifE ?_ ?_ | refine Ref.chk ?_ ?_ | refine Imp.and ?_ ?_ | refine Imp.or ?_ | exact Imp.rfl' _ | refine Imp.sameO ?_ | refine Ref.gd ?_ | exact Ref.cValue (by assumption) | refine Ref.bX ?_ fun _ _ _ => ?_ | exact Ref.scQ (by assumption) | exact Ref.xRangeQ (by assumption) | exact Ref.cInvoke (by assumption) | refine mkj24_0 (by assumption) ?_)
noncomputable def jt24 (J0 : Env → GS → Option (Value × GS)) : JT (Value × GS) :=
  (.n none .e (.n none .e (.n (some (fun T G => J0 (nth undef T) G)) .e .e)))
set_option maxHeartbeats 8000000 in
theorem jr24_0 (orc : FuncId → Bool) (J0 : Env → GS → Option (Value × GS)) (T : List Value) (G : GS) : runC Q (evL Q orc) Try.f24.ntmps (jt24 J0) (bodyOf Try.f24) (retE Q Try.f24.results.toList) [true, true] (nth undef T) G = jb24_0 false (Ex.of (E orc))  (nth undef T) G := by kernel_rfl
set_option maxHeartbeats 8000000 in
theorem jo24 (orc : FuncId → Bool) : JOk Q orc Try.f24.ntmps (jt24 (j24_0 false (Ex.of (E orc))) ) (bodyOf Try.f24) (retE Q Try.f24.results.toList) :=
  jOk Q orc (l := [([true, true], (fun T G => j24_0 false (Ex.of (E orc)) (nth undef T) G))]) (by kernel_rfl) (AllE.c (fun T G => jr24_0 orc (j24_0 false (Ex.of (E orc))) T G) (AllE.z))
set_option maxHeartbeats 8000000 in
theorem je24 (orc : FuncId → Bool) (J0 : Env → GS → Option (Value × GS)) (v0 v1 v2 v3 : Value) (G : GS) : sxC Q (evL Q orc) Try.f24.ntmps (jt24 J0) (bodyOf Try.f24) (nth undef [v0, v1, v2, v3]) G (retE Q Try.f24.results.toList) = sb24 false (Ex.of (E orc)) J0 v0 v1 v2 v3 G := by kernel_rfl
set_option maxHeartbeats 8000000 in
theorem f24 {orc : FuncId → Bool} {e : Ex} (h : ExLe Q e (E orc)) (v0 v1 v2 v3 : Value) (G : GS) : Ref (s24 true e v0 v1 v2 v3 G) ((E orc).cl 24 [v0, v1, v2, v3] G) :=
  fun r hr => cl_sxC Q orc (vs := [v0, v1, v2, v3]) G (jt24 (j24_0 false (Ex.of (E orc))) ) Try.func24 (by kernel_rfl) (by kernel_rfl) (by kernel_rfl) (by kernel_rfl) (by kernel_rfl) (jo24 orc) (je24 orc (j24_0 false (Ex.of (E orc))) v0 v1 v2 v3 G) (m24 h v0 v1 v2 v3 G r hr)
noncomputable def b25_0 (q : Bool) (e : Ex) (lp : Env → GS → Option (Exit × Env × GS)) (τ : Env) (G : GS) : Option (Exit × Env × GS) :=
  bV q (τ 0) fun a0_ =>
  bV q (τ 8) fun a8_ =>
  bV q (τ 10) fun a10_ =>
  bP (pNil a0_) fun x0 =>
  bP (fa Q q 39 4 9 x0) fun x1 =>
  bP (ld Q q 29 x1 G) fun x2 =>
  bP (ln Q q 29 x2) fun x3 =>
  bP (bn Q q .lss 3 (.tmp 145) (.tmp 150) a10_ x3) fun x4 =>
  ifV x4 (
  bP (pNil a0_) fun x5 =>
  bP (fa Q q 39 4 9 x5) fun x6 =>
  bP (ld Q q 29 x6 G) fun x7 =>
  bP (ias Q q 29 1 x7 a10_) fun x8 =>
  bP (ld Q q 28 x8 G) fun x9 =>
  bS (e.ev.cl 58 [x9] G) fun x10 G11 =>
  bP (pExtract x10 0) fun x12 =>
  bP (pExtract x10 1) fun x13 =>
  bS (al Q q 128 z128 G11) fun x14 G15 =>
  bP (st Q q 128 3 x14 x12 G15) fun G16 =>
  bP (fa Q q 128 0 0 x14) fun x17 =>
  bP (ld Q q 3 x17 G16) fun x18 =>
  bP (fa Q q 128 0 0 a8_) fun x19 =>
  bP (ld Q q 3 x19 G16) fun x20 =>
  bP (bn Q q .eql 3 (.tmp 166) (.tmp 168) x18 x20) fun x21 =>
  ifV x21 (
  some (.ret, xq q 204 τ [(4, (.bool false)), (169, x21), (168, x20), (167, x19), (166, x18), (165, x17), (12, x13), (11, x14), (164, x13), (163, x12), (154, x10), (162, x10), (161, x9), (160, x8), (159, a10_), (158, x7), (157, x6), (156, x5), (155, a0_), (151, x4), (150, x3), (149, x2), (148, x1), (147, x0), (146, a0_), (145, a10_)] [(0, a0_), (8, a8_), (10, a10_)], G16)) (
  bP (bn Q q .add 3 (.tmp 152) (.const (.int .i64 1)) a10_ (.int .i64 1)) fun x22 =>
  lp (xq q 204 τ [(10, x22), (153, x22), (152, a10_), (169, x21), (168, x20), (167, x19), (166, x18), (165, x17), (12, x13), (11, x14), (164, x13), (163, x12), (154, x10), (162, x10), (161, x9), (160, x8), (159, a10_), (158, x7), (157, x6), (156, x5), (155, a0_), (151, x4), (150, x3), (149, x2), (148, x1), (147, x0), (146, a0_), (145, a10_)] [(0, a0_), (8, a8_)]) G16)) (
  some ((.exit 0), xq q 204 τ [(151, x4), (150, x3), (149, x2), (148, x1), (147, x0), (146, a0_), (145, a10_)] [(0, a0_), (8, a8_), (10, a10_)], G))
theorem mb25_0 {e : Ex} {E : Ev} (h : ExLe Q e E) {lp lp' : Env → GS → Option (Exit × Env × GS)} (hlp : LpLe lp lp') (τ : Env) (G : GS) : Ref (b25_0 true e lp τ G) (b25_0 false (Ex.of E) lp' τ G) := by
  unfold b25_0
  exact Ref.gq
set_option maxHeartbeats 8000000 in
theorem l25_0 {orc : FuncId → Bool} {e : Ex} (h : ExLe Q e (E orc)) (lp : Env → GS → Option (Exit × Env × GS)) (hlp : ∀ τ G, Ref (lp τ G) (mapE ((E orc).lp (subAt [1, 1, 1, 1, 1, 1, 1, 1, 1, 1, 1, 0, 1, 0, 0] (bodyOf Try.f25)) (lst 204 τ) G))) (T : List Value) (G : GS) (hT : T.length = 204) : Ref (b25_0 true e lp (nth undef T) G) (mapE ((E orc).lp (subAt [1, 1, 1, 1, 1, 1, 1, 1, 1, 1, 1, 0, 1, 0, 0] (bodyOf Try.f25)) T G)) :=
  fun r hr => lp_sxN Q orc G hT (by kernel_rfl) (mb25_0 h ⟨hlp⟩ _ _ r hr)
/-- (*coxswain/coxswainlaw11.crew).steps -/
noncomputable def s25 (q : Bool) (e : Ex) (v0 v1 : Value) (G : GS) : Option (Value × GS) :=
  bP (pNil v0) fun x0 =>
  bP (fa Q q 39 7 12 x0) fun x1 =>
  bP (ld Q q 22 x1 G) fun x2 =>
  bP (ias Q q 22 1 x2 v1) fun x3 =>
  bP (ld Q q 3 x3 G) fun x4 =>
  bP (bn Q q .lss 3 (.tmp 19) (.const (.int .i64 0)) x4 (.int .i64 0)) fun x5 =>
  ifV x5 (
  some ((.bool true), G)) (
  bP (pNil v0) fun x6 =>
  bP (fa Q q 39 8 13 x6) fun x7 =>
  bP (ld Q q 3 x7 G) fun x8 =>
  bP (bn Q q .add 3 (.tmp 24) (.const (.int .i64 1)) x8 (.int .i64 1)) fun x9 =>
  bP (pNil v0) fun x10 =>
  bP (fa Q q 39 8 13 x10) fun x11 =>
  bP (st Q q 3 1 x11 x9 G) fun G12 =>
  bP (pNil v0) fun x13 =>
  bP (fa Q q 39 6 11 x13) fun x14 =>
  bP (ld Q q 37 x14 (G12.room 13)) fun x15 =>
  bP (pNil v0) fun x16 =>
  bP (fa Q q 39 7 12 x16) fun x17 =>
  bP (ld Q q 22 x17 (G12.room 13)) fun x18 =>
  bP (ias Q q 22 1 x18 v1) fun x19 =>
  bP (ld Q q 3 x19 (G12.room 13)) fun x20 =>
  bP (ias Q q 37 10 x15 x20) fun x21 =>
  bP (pNil v0) fun x22 =>
  bP (fa Q q 39 3 8 x22) fun x23 =>
  bP (ld Q q 36 x23 (G12.room 13)) fun x24 =>
  bP (ias Q q 36 1 x24 v1) fun x25 =>
  bP (ld Q q 67 x25 (G12.room 13)) fun x26 =>
  bP (ep Q q true 67 (.tmp 46) (.const (.pointer none)) x26 (.pointer none)) fun x27 =>
  ifV x27 (
  bP (pNil v0) fun x28 =>
  bP (fa Q q 39 3 8 x28) fun x29 =>
  bP (ld Q q 36 x29 ((G12.room 13).room 13)) fun x30 =>
  bP (ias Q q 36 1 x30 v1) fun x31 =>
  bP (ld Q q 67 x31 ((G12.room 13).room 13)) fun x32 =>
  bP (pNil v0) fun x33 =>
  bP (fa Q q 39 1 6 x33) fun x34 =>
  bP (ld Q q 34 x34 ((G12.room 13).room 13)) fun x35 =>
  bS (e.ev.cl 19 [x32, x35] ((G12.room 13).room 13)) fun x37 G36 =>
  bP (un Q q .not x37) fun x38 =>
  ifV x38 (
  some ((.bool true), G36)) (
  bP (pNil v0) fun x39 =>
  bP (fa Q q 39 3 8 x39) fun x40 =>
  bP (ld Q q 36 x40 (G36.room 22)) fun x41 =>
  bP (pNil v0) fun x42 =>
  bP (fa Q q 39 7 12 x42) fun x43 =>
  bP (ld Q q 22 x43 (G36.room 22)) fun x44 =>
  bP (pNil v0) fun x45 =>
  bP (fa Q q 39 8 13 x45) fun x46 =>
  bP (ld Q q 3 x46 (G36.room 22)) fun x47 =>
  bP (pNil x21) fun x48 =>
  bP (fa Q q 47 2 2 x48) fun x49 =>
  bP (st Q q 3 1 x49 x47 (G36.room 22)) fun G50 =>
  bP (ias Q q 36 1 x41 v1) fun x51 =>
  bP (st Q q 67 1 x51 (.pointer none) G50) fun G52 =>
  bP (ias Q q 22 1 x44 v1) fun x53 =>
  bP (st Q q 3 1 x53 (.int .i64 (-1)) G52) fun G54 =>
  some ((.bool true), G54))) (
  bP (pNil v0) fun x55 =>
  bP (fa Q q 39 2 7 x55) fun x56 =>
  bP (ld Q q 35 x56 ((G12.room 13).room 13)) fun x57 =>
  bP (ias Q q 35 1 x57 v1) fun x58 =>
  bP (ld Q q 113 x58 ((G12.room 13).room 13)) fun x59 =>
  bP (pNil v0) fun x60 =>
  bP (fa Q q 39 1 6 x60) fun x61 =>
  bP (ld Q q 34 x61 ((G12.room 13).room 13)) fun x62 =>
  bS (e.ev.cl 59 [x59, x62] ((G12.room 13).room 13)) fun x64 G63 =>
  bP (un Q q .not x64) fun x65 =>
  ifV x65 (
  some ((.bool true), G63)) (
  bP (pNil v0) fun x66 =>
  bP (fa Q q 39 2 7 x66) fun x67 =>
  bP (ld Q q 35 x67 G63) fun x68 =>
  bP (ias Q q 35 1 x68 v1) fun x69 =>
  bP (ld Q q 113 x69 G63) fun x70 =>
  bS (e.ev.cl 49 [x70] G63) fun x71 G72 =>
  bP (pExtract x71 0) fun x73 =>
  bP (pExtract x71 1) fun x74 =>
  bP (pNil v0) fun x75 =>
  bP (fa Q q 39 2 7 x75) fun x76 =>
  bP (ld Q q 35 x76 (G72.room 22)) fun x77 =>
  bP (pNil v0) fun x78 =>
  bP (fa Q q 39 7 12 x78) fun x79 =>
  bP (ld Q q 22 x79 (G72.room 22)) fun x80 =>
  bP (pNil v0) fun x81 =>
  bP (fa Q q 39 8 13 x81) fun x82 =>
  bP (ld Q q 3 x82 (G72.room 22)) fun x83 =>
  bP (pNil x21) fun x84 =>
  bP (fa Q q 47 2 2 x84) fun x85 =>
  bP (st Q q 3 1 x85 x83 (G72.room 22)) fun G86 =>
  bP (ias Q q 35 1 x77 v1) fun x87 =>
  bP (st Q q 113 1 x87 (.pointer none) G86) fun G88 =>
  bP (ias Q q 22 1 x80 v1) fun x89 =>
  bP (st Q q 3 1 x89 (.int .i64 (-1)) G88) fun G90 =>
  bP (pNil x21) fun x91 =>
  bP (fa Q q 47 4 7 x91) fun x92 =>
  bP (fa Q q 43 0 0 x92) fun x93 =>
  bP (st Q q 41 1 x93 x74 G90) fun G94 =>
  bP (bn Q q .neq 41 (.tmp 128) (.const (.int .i64 0)) x74 (.int .i64 0)) fun x95 =>
  ifV x95 (
  bP (bn Q q .eql 28 (.tmp 130) (.const (.int .u64 0)) x73 (.int .u64 0)) fun x96 =>
  bS (gd x96 true (some (x74, G94)) G94) fun x97 G98 =>
  bS (gd x96 true (bP (bn Q q .eql 41 (.tmp 133) (.const (.int .i64 7)) x97 (.int .i64 7)) fun y => some (y, G98)) G98) fun x99 G100 =>
  bS (gd x96 true (some (x99, G100)) G100) fun x101 G102 =>
  bS (gd x101 false (some (x74, G102)) G102) fun x103 G104 =>
  bS (gd x101 false (bP (bn Q q .eql 41 (.tmp 136) (.const (.int .i64 12)) x103 (.int .i64 12)) fun y => some (y, G104)) G104) fun x105 G106 =>
  bS (gd x96 true (bP (pickV x101 (.bool true) x105) fun y => some (y, G106)) G106) fun x107 G108 =>
  bP (pickV x96 x107 (.bool false)) fun x109 =>
  some (x109, G108)) (
  bS (e.ev.cl 58 [x73] G94) fun x110 G111 =>
  bP (pExtract x110 0) fun x112 =>
  bP (pExtract x110 1) fun x113 =>
  bS (al Q q 128 z128 G111) fun x114 G115 =>
  bP (st Q q 128 3 x114 x112 G115) fun G116 =>
  bLq q e 25 0 (subAt [1, 1, 1, 1, 1, 1, 1, 1, 1, 1, 1, 0, 1, 0, 0] (bodyOf Try.f25)) 204 (nth undef [v0, v1]) [(10, (.int .i64 0)), (9, x113), (8, x114), (144, x113), (143, x112), (140, x110), (142, x110), (141, x73), (129, x95), (128, x74), (127, x93), (126, x92), (125, x91), (124, x74), (123, x21), (122, x89), (121, x87), (120, x85), (119, x84), (118, x83), (117, x82), (116, x81), (115, v0), (114, v1), (113, x80), (112, x79), (111, x78), (110, v0), (109, v1), (108, x77), (107, x76), (106, x75), (105, v0), (104, x21), (7, x74), (6, x73), (103, x74), (102, x73), (93, x71), (101, x71), (100, x70), (99, x69), (98, v1), (97, x68), (96, x67), (95, x66), (94, v0), (92, x65), (91, x64), (90, x62), (89, x61), (88, x60), (87, v0), (86, x59), (85, x58), (84, v1), (83, x57), (82, x56), (81, x55), (80, v0), (47, x27), (46, x26), (45, x25), (44, v1), (43, x24), (42, x23), (41, x22), (40, v0), (5, x21), (39, x21), (38, x20), (37, x19), (36, v1), (35, x18), (34, x17), (33, x16), (32, v0), (31, x15), (30, x14), (29, x13), (28, v0), (27, x11), (26, x10), (25, x9), (24, x8), (23, x7), (22, x6), (21, v0), (20, x5), (19, x4), (18, x3), (17, v1), (16, x2), (15, x1), (14, x0), (13, v0), (4, (.bool false))] [] G116 fun e117 t118 G119 =>
  bV q (t118 0) fun t118x0_ =>
  bV q (t118 4) fun t118x4_ =>
  bV q (t118 5) fun t118x5_ =>
  bV q (t118 6) fun t118x6_ =>
  bV q (t118 8) fun t118x8_ =>
  bV q (t118 9) fun t118x9_ =>
  ifE e117 (.exit 0) (
  bP (fa Q q 128 0 0 t118x8_) fun x120 =>
  bP (ld Q q 3 x120 G119) fun x121 =>
  bP (pNil t118x5_) fun x122 =>
  bP (fa Q q 47 4 7 x122) fun x123 =>
  bP (fa Q q 43 1 1 x123) fun x124 =>
  bP (st Q q 3 1 x124 x121 G119) fun G125 =>
  bP (pNil t118x0_) fun x126 =>
  bP (fa Q q 39 4 9 x126) fun x127 =>
  bP (ld Q q 29 x127 G125) fun x128 =>
  bS (bs Q q 29 1 (rep z28 1) 1 [(0, 0, 1)] [t118x6_] G125) fun x129 G130 =>
  bS (ap Q q 29 29 1 8 x128 x129 G130) fun x131 G132 =>
  bP (pNil t118x0_) fun x133 =>
  bP (fa Q q 39 4 9 x133) fun x134 =>
  bP (st Q q 29 1 x134 x131 G132) fun G135 =>
  bP (bn Q q .eql 41 (.tmp 186) (.const (.int .i64 0)) t118x9_ (.int .i64 0)) fun x136 =>
  bS (gd x136 true (bP (fa Q q 128 2 2 t118x8_) fun y => some (y, (G135.room 19))) (G135.room 19)) fun x137 _ =>
  bS (gd x136 true (bP (ld Q q 4 x137 (G135.room 19)) fun y => some (y, (G135.room 19))) (G135.room 19)) fun x138 _ =>
  bS (gd x136 true (bP (un Q q .not x138) fun y => some (y, (G135.room 19))) (G135.room 19)) fun x139 _ =>
  bP (pickV x136 x139 (.bool false)) fun x140 =>
  bS (gd x140 true (bP (fa Q q 128 0 0 t118x8_) fun y => some (y, (G135.room 19))) (G135.room 19)) fun x141 _ =>
  bS (gd x140 true (bP (ld Q q 3 x141 (G135.room 19)) fun y => some (y, (G135.room 19))) (G135.room 19)) fun x142 _ =>
  bS (gd x140 true (some (t118x0_, (G135.room 19))) (G135.room 19)) fun x143 _ =>
  bS (gd x140 true (bP (pNil x143) fun y => some (y, (G135.room 19))) (G135.room 19)) fun x144 _ =>
  bS (gd x140 true (bP (fa Q q 39 0 0 x144) fun y => some (y, (G135.room 19))) (G135.room 19)) fun x145 _ =>
  bS (gd x140 true (bP (fa Q q 33 0 0 x145) fun y => some (y, (G135.room 19))) (G135.room 19)) fun x146 _ =>
  bS (gd x140 true (bP (fa Q q 31 2 2 x146) fun y => some (y, (G135.room 19))) (G135.room 19)) fun x147 _ =>
  bS (gd x140 true (bP (ld Q q 3 x147 (G135.room 19)) fun y => some (y, (G135.room 19))) (G135.room 19)) fun x148 _ =>
  bS (gd x140 true (bP (bn Q q .lss 3 (.tmp 195) (.tmp 201) x142 x148) fun y => some (y, (G135.room 19))) (G135.room 19)) fun x149 _ =>
  bP (pickV x140 x149 (.bool false)) fun x150 =>
  some (x150, (G135.room 19))) (ifE e117 .ret (
  some (t118x4_, G119)) (none))))))
theorem m25 {e : Ex} {E : Ev} (h : ExLe Q e E) (v0 v1 : Value) (G : GS) : Ref (s25 true e v0 v1 G) (s25 false (Ex.of E) v0 v1 G) := by
  unfold s25
  exact Ref.gq
set_option maxHeartbeats 8000000 in
theorem f25 {orc : FuncId → Bool} {e : Ex} (h : ExLe Q e (E orc)) (v0 v1 : Value) (G : GS) : Ref (s25 true e v0 v1 G) ((E orc).cl 25 [v0, v1] G) :=
  fun r hr => cl_sxE_some Q orc (vs := [v0, v1]) G Try.func25 (by kernel_rfl) (by kernel_rfl) (by kernel_rfl) (by kernel_rfl) (by kernel_rfl) (by kernel_rfl) (m25 h v0 v1 G r hr)
/-- (*coxswain/coxswainlaw11.crew).busy -/
noncomputable def s26 (q : Bool) (e : Ex) (v0 : Value) (G : GS) : Option (Value × GS) :=
  bP (pNil v0) fun x0 =>
  bP (fa Q q 39 7 12 x0) fun x1 =>
  bP (ld Q q 22 x1 G) fun x2 =>
  bP (ias Q q 22 1 x2 (.int .i64 0)) fun x3 =>
  bP (ld Q q 3 x3 G) fun x4 =>
  bP (bn Q q .geq 3 (.tmp 8) (.const (.int .i64 0)) x4 (.int .i64 0)) fun x5 =>
  bS (gd x5 false (some (v0, G)) G) fun x6 G7 =>
  bS (gd x5 false (bP (pNil x6) fun y => some (y, G7)) G7) fun x8 G9 =>
  bS (gd x5 false (bP (fa Q q 39 7 12 x8) fun y => some (y, G9)) G9) fun x10 G11 =>
  bS (gd x5 false (bP (ld Q q 22 x10 G11) fun y => some (y, G11)) G11) fun x12 G13 =>
  bS (gd x5 false (bP (ias Q q 22 1 x12 (.int .i64 1)) fun y => some (y, G13)) G13) fun x14 G15 =>
  bS (gd x5 false (bP (ld Q q 3 x14 G15) fun y => some (y, G15)) G15) fun x16 G17 =>
  bS (gd x5 false (bP (bn Q q .geq 3 (.tmp 16) (.const (.int .i64 0)) x16 (.int .i64 0)) fun y => some (y, G17)) G17) fun x18 G19 =>
  bP (pickV x5 (.bool true) x18) fun x20 =>
  bS (gd x20 false (some (v0, G19)) G19) fun x21 G22 =>
  bS (gd x20 false (bP (pNil x21) fun y => some (y, G22)) G22) fun x23 G24 =>
  bS (gd x20 false (bP (fa Q q 39 7 12 x23) fun y => some (y, G24)) G24) fun x25 G26 =>
  bS (gd x20 false (bP (ld Q q 22 x25 G26) fun y => some (y, G26)) G26) fun x27 G28 =>
  bS (gd x20 false (bP (ias Q q 22 1 x27 (.int .i64 2)) fun y => some (y, G28)) G28) fun x29 G30 =>
  bS (gd x20 false (bP (ld Q q 3 x29 G30) fun y => some (y, G30)) G30) fun x31 G32 =>
  bS (gd x20 false (bP (bn Q q .geq 3 (.tmp 25) (.const (.int .i64 0)) x31 (.int .i64 0)) fun y => some (y, G32)) G32) fun x33 G34 =>
  bP (pickV x20 (.bool true) x33) fun x35 =>
  some (x35, G34)
theorem m26 {e : Ex} {E : Ev} (h : ExLe Q e E) (v0 : Value) (G : GS) : Ref (s26 true e v0 G) (s26 false (Ex.of E) v0 G) := by
  unfold s26
  exact Ref.gq
theorem f26 {orc : FuncId → Bool} {e : Ex} (h : ExLe Q e (E orc)) (v0 : Value) (G : GS) : Ref (s26 true e v0 G) ((E orc).cl 26 [v0] G) :=
  fun r hr => cl_sxE_some Q orc (vs := [v0]) G Try.func26 (by kernel_rfl) (by kernel_rfl) (by kernel_rfl) (by kernel_rfl) (by kernel_rfl) (by kernel_rfl) (m26 h v0 G r hr)
/-- coxswain/word.GetTop -/
noncomputable def s27 (q : Bool) (e : Ex) (v0 : Value) (G : GS) : Option (Value × GS) :=
  bS (al Q q 85 z85 G) fun x0 G1 =>
  bS (e.ev.cl 60 [] G1) fun x2 G3 =>
  bS (al Q q 134 z134 G3) fun x4 G5 =>
  bP (st Q q 134 4 x4 x2 G5) fun G6 =>
  bP (iaa Q q 134 2 2 x4 (.int .i64 0)) fun x7 =>
  bP (lda Q q 133 2 x7 (G6.room 12)) fun x8 =>
  bS (e.ev.cl 61 [v0, x8] (G6.room 12)) fun x10 G9 =>
  bP (bn Q q .sub 3 (.tmp 9) (.const (.int .i64 1)) x10 (.int .i64 1)) fun x11 =>
  bP (iaa Q q 134 2 2 x4 (.int .i64 1)) fun x12 =>
  bP (lda Q q 133 2 x12 G9) fun x13 =>
  chk ((sameO (lda Q q 133 2 x12 (G6.room 12)) x13 && true)) <|
  bS (e.ev.cl 61 [v0, x13] G9) fun x15 G14 =>
  bP (bd Q q 85 z85 [(0, 0, 1), (1, 1, 1)] [x11, x15]) fun x16 =>
  bP (st Q q 85 2 x0 x16 G14) fun G17 =>
  bP (lda Q q 85 2 x0 G17) fun x18 =>
  some (.tuple #[x18, (.int .i64 0)], G17)
theorem m27 {e : Ex} {E : Ev} (h : ExLe Q e E) (v0 : Value) (G : GS) : Ref (s27 true e v0 G) (s27 false (Ex.of E) v0 G) := by
  unfold s27
  exact Ref.gq
theorem f27 {orc : FuncId → Bool} {e : Ex} (h : ExLe Q e (E orc)) (v0 : Value) (G : GS) : Ref (s27 true e v0 G) ((E orc).cl 27 [v0] G) :=
  fun r hr => cl_sxE_some Q orc (vs := [v0]) G Try.func27 (by kernel_rfl) (by kernel_rfl) (by kernel_rfl) (by kernel_rfl) (by kernel_rfl) (by kernel_rfl) (m27 h v0 G r hr)
/-- coxswain/stack.NewPush -/
noncomputable def s46 (q : Bool) (e : Ex) (v0 v1 : Value) (G : GS) : Option (Value × GS) :=
  bS (bx q v0 G) fun x0 G1 =>
  bP (lda Q q 31 3 x0 G1) fun x2 =>
  bP (bd Q q 165 z165 [(0, 0, 3), (2, 4, 1), (4, 6, 1)] [x2, v1, (.bool true)]) fun x3 =>
  bP (bd Q q 168 z168 [(0, 0, 9), (1, 9, 1)] [x3, (.func (.func 81) #[] #[])]) fun x4 =>
  bS (bx q x4 G1) fun x5 G6 =>
  bP (bn Q q .lss 3 (.tmp 11) (.const (.int .i64 0)) v1 (.int .i64 0)) fun x7 =>
  bS (gd x7 false (some (v1, G6)) G6) fun x8 G9 =>
  bS (gd x7 false (bP (fa Q q 31 2 2 x0) fun y => some (y, G9)) G9) fun x10 G11 =>
  bS (gd x7 false (bP (ld Q q 3 x10 G11) fun y => some (y, G11)) G11) fun x12 G13 =>
  bS (gd x7 false (bP (bn Q q .geq 3 (.tmp 14) (.tmp 16) x8 x12) fun y => some (y, G13)) G13) fun x14 G15 =>
  bP (pickV x7 (.bool true) x14) fun x16 =>
  ifV x16 (
  bP (pNil x5) fun x17 =>
  bP (fa Q q 168 0 0 x17) fun x18 =>
  bS (e.ev.cl 82 [x18, (.int .i64 3)] G15) fun x19 G20 =>
  some (x5, G20)) (
  some (x5, G15))
theorem m46 {e : Ex} {E : Ev} (h : ExLe Q e E) (v0 v1 : Value) (G : GS) : Ref (s46 true e v0 v1 G) (s46 false (Ex.of E) v0 v1 G) := by
  unfold s46
  exact Ref.gq
theorem f46 {orc : FuncId → Bool} {e : Ex} (h : ExLe Q e (E orc)) (v0 v1 : Value) (G : GS) : Ref (s46 true e v0 v1 G) ((E orc).cl 46 [v0, v1] G) :=
  fun r hr => cl_sxE_some Q orc (vs := [v0, v1]) G Try.func46 (by kernel_rfl) (by kernel_rfl) (by kernel_rfl) (by kernel_rfl) (by kernel_rfl) (by kernel_rfl) (m46 h v0 v1 G r hr)
/-- (*coxswain/arena.Free).looks -/
noncomputable def s47 (q : Bool) (e : Ex) (v0 v1 : Value) (G : GS) : Option (Value × GS) :=
  bP (pNil v0) fun x0 =>
  bP (fa Q q 110 1 1 x0) fun x1 =>
  bP (fa Q q 33 1 3 x1) fun x2 =>
  bP (ld Q q 3 x2 (G.room 16)) fun x3 =>
  bP (pNil v0) fun x4 =>
  bP (fa Q q 110 4 9 x4) fun x5 =>
  bP (ld Q q 3 x5 (G.room 16)) fun x6 =>
  bP (bn Q q .add 3 (.tmp 10) (.tmp 14) x3 x6) fun x7 =>
  bS (e.ev.cl 52 [v1, x7] (G.room 16)) fun x9 G8 =>
  bP (pNil v0) fun x10 =>
  bP (fa Q q 110 5 10 x10) fun x11 =>
  bP (st Q q 28 1 x11 x9 G8) fun G12 =>
  bP (pNil v0) fun x13 =>
  bP (fa Q q 110 3 8 x13) fun x14 =>
  bP (st Q q 108 1 x14 (.func (.func 83) #[] #[]) G12) fun G15 =>
  bP (pNil v0) fun x16 =>
  bP (fa Q q 110 5 10 x16) fun x17 =>
  bP (ld Q q 28 x17 (G15.room 11)) fun x18 =>
  bS (e.ev.cl 84 [x18] (G15.room 11)) fun x20 G19 =>
  bP (pNil v0) fun x21 =>
  bP (fa Q q 110 1 1 x21) fun x22 =>
  bP (fa Q q 33 3 5 x22) fun x23 =>
  bP (ld Q q 3 x23 G19) fun x24 =>
  chk ((sameO (ld Q q 3 x23 (G15.room 11)) x24 && true)) <|
  bP (bn Q q .geq 3 (.tmp 26) (.tmp 31) x20 x24) fun x25 =>
  ifV x25 (
  bP (pNil v0) fun x26 =>
  bP (fa Q q 110 3 8 x26) fun x27 =>
  bP (st Q q 108 1 x27 (.func (.func 85) #[] #[]) G19) fun G28 =>
  some (.tuple #[], G28)) (
  some (.tuple #[], G19))
theorem m47 {e : Ex} {E : Ev} (h : ExLe Q e E) (v0 v1 : Value) (G : GS) : Ref (s47 true e v0 v1 G) (s47 false (Ex.of E) v0 v1 G) := by
  unfold s47
  exact Ref.gq
theorem f47 {orc : FuncId → Bool} {e : Ex} (h : ExLe Q e (E orc)) (v0 v1 : Value) (G : GS) : Ref (s47 true e v0 v1 G) ((E orc).cl 47 [v0, v1] G) :=
  fun r hr => cl_sxE_some Q orc (vs := [v0, v1]) G Try.func47 (by kernel_rfl) (by kernel_rfl) (by kernel_rfl) (by kernel_rfl) (by kernel_rfl) (by kernel_rfl) (m47 h v0 v1 G r hr)
/-- coxswain/arena.NewAlloc -/
noncomputable def s48 (q : Bool) (e : Ex) (v0 : Value) (G : GS) : Option (Value × GS) :=
  bS (bx q v0 G) fun x0 G1 =>
  bP (fa Q q 33 0 0 x0) fun x2 =>
  bP (lda Q q 31 3 x2 (G1.room 7)) fun x3 =>
  bS (e.ev.cl 86 [x3] (G1.room 7)) fun x5 G4 =>
  bP (lda Q q 33 6 x0 G4) fun x6 =>
  chk ((sameO (lda Q q 33 6 x0 (G1.room 7)) x6 && true)) <|
  bP (bd Q q 175 z175 [(0, 0, 1), (1, 1, 6), (2, 7, 1), (3, 8, 1)] [x5, x6, (.bool true), (.func (.func 87) #[] #[])]) fun x7 =>
  bS (bx q x7 (G4.at' (G1.nx + 5))) fun x8 G9 =>
  some (x8, (G9.back G4))
theorem m48 {e : Ex} {E : Ev} (h : ExLe Q e E) (v0 : Value) (G : GS) : Ref (s48 true e v0 G) (s48 false (Ex.of E) v0 G) := by
  unfold s48
  exact Ref.gq
theorem f48 {orc : FuncId → Bool} {e : Ex} (h : ExLe Q e (E orc)) (v0 : Value) (G : GS) : Ref (s48 true e v0 G) ((E orc).cl 48 [v0] G) :=
  fun r hr => cl_sxE_some Q orc (vs := [v0]) G Try.func48 (by kernel_rfl) (by kernel_rfl) (by kernel_rfl) (by kernel_rfl) (by kernel_rfl) (by kernel_rfl) (m48 h v0 G r hr)
/-- (*coxswain/arena.Alloc).Ref -/
noncomputable def s49 (q : Bool) (e : Ex) (v0 : Value) (G : GS) : Option (Value × GS) :=
  bP (ep Q q false 113 (.tmp 5) (.const (.pointer none)) v0 (.pointer none)) fun x0 =>
  bS (gd x0 false (some (v0, G)) G) fun x1 G2 =>
  bS (gd x0 false (bP (pNil x1) fun y => some (y, G2)) G2) fun x3 G4 =>
  bS (gd x0 false (bP (fa Q q 175 2 7 x3) fun y => some (y, G4)) G4) fun x5 G6 =>
  bS (gd x0 false (bP (ld Q q 4 x5 G6) fun y => some (y, G6)) G6) fun x7 G8 =>
  bS (gd x0 false (bP (un Q q .not x7) fun y => some (y, G8)) G8) fun x9 G10 =>
  bP (pickV x0 (.bool true) x9) fun x11 =>
  ifV x11 (
  some (.tuple #[(.int .u64 0), (.int .i64 1)], G10)) (
  bP (pNil v0) fun x12 =>
  bP (fa Q q 175 3 8 x12) fun x13 =>
  bP (ld Q q 173 x13 G10) fun x14 =>
  bP (ef Q q true 173 (.tmp 18) (.const .nilFunc) x14 .nilFunc) fun x15 =>
  ifV x15 (
  some (.tuple #[(.int .u64 0), (.int .i64 14)], G10)) (
  bP (pNil v0) fun x16 =>
  bP (fa Q q 175 5 10 x16) fun x17 =>
  bP (ld Q q 28 x17 (G10.room 10)) fun x18 =>
  bP (pNil v0) fun x19 =>
  bP (fa Q q 175 6 11 x19) fun x20 =>
  bP (ld Q q 41 x20 (G10.room 10)) fun x21 =>
  some (.tuple #[x18, x21], (G10.room 10))))
theorem m49 {e : Ex} {E : Ev} (h : ExLe Q e E) (v0 : Value) (G : GS) : Ref (s49 true e v0 G) (s49 false (Ex.of E) v0 G) := by
  unfold s49
  exact Ref.gq
theorem f49 {orc : FuncId → Bool} {e : Ex} (h : ExLe Q e (E orc)) (v0 : Value) (G : GS) : Ref (s49 true e v0 G) ((E orc).cl 49 [v0] G) :=
  fun r hr => cl_sxE_some Q orc (vs := [v0]) G Try.func49 (by kernel_rfl) (by kernel_rfl) (by kernel_rfl) (by kernel_rfl) (by kernel_rfl) (by kernel_rfl) (m49 h v0 G r hr)
/-- (*coxswain/cells.Mem).Load -/
noncomputable def s52 (q : Bool) (e : Ex) (v0 v1 : Value) (G : GS) : Option (Value × GS) :=
  bS (e.ev.cl 88 [v0, v1] G) fun x0 G1 =>
  bP (bd Q q 179 z179 [(0, 0, 1)] [x0]) fun x2 =>
  bS (al Q q 179 z179 G1) fun x3 G4 =>
  bP (st Q q 179 3 x3 x2 G4) fun G5 =>
  bP (fa Q q 179 0 0 x3) fun x6 =>
  bP (ld Q q 176 x6 G5) fun x7 =>
  bP (lda Q q 179 3 x3 G5) fun x8 =>
  bS (e.ev.cl 89 [v0, (.int .i64 1), v1, x7, (.func (.func 90) #[x8] #[])] G5) fun x9 G10 =>
  bP (fd Q q 79 3 3 x9) fun x11 =>
  some (x11, G10)
theorem m52 {e : Ex} {E : Ev} (h : ExLe Q e E) (v0 v1 : Value) (G : GS) : Ref (s52 true e v0 v1 G) (s52 false (Ex.of E) v0 v1 G) := by
  unfold s52
  exact Ref.gq
theorem f52 {orc : FuncId → Bool} {e : Ex} (h : ExLe Q e (E orc)) (v0 v1 : Value) (G : GS) : Ref (s52 true e v0 v1 G) ((E orc).cl 52 [v0, v1] G) :=
  fun r hr => cl_sxE_some Q orc (vs := [v0, v1]) G Try.func52 (by kernel_rfl) (by kernel_rfl) (by kernel_rfl) (by kernel_rfl) (by kernel_rfl) (by kernel_rfl) (m52 h v0 v1 G r hr)
/-- coxswain/arena.sized -/
noncomputable def s55 (q : Bool) (e : Ex) (v0 : Value) (G : GS) : Option (Value × GS) :=
  bS (bx q v0 G) fun x0 G1 =>
  bP (fa Q q 33 0 0 x0) fun x2 =>
  bP (fa Q q 31 2 2 x2) fun x3 =>
  bP (ld Q q 3 x3 G1) fun x4 =>
  bP (bn Q q .geq 3 (.tmp 5) (.const (.int .i64 1)) x4 (.int .i64 1)) fun x5 =>
  bS (gd x5 true (bP (fa Q q 33 0 0 x0) fun y => some (y, G1)) G1) fun x6 G7 =>
  bS (gd x5 true (bP (fa Q q 31 2 2 x6) fun y => some (y, G7)) G7) fun x8 G9 =>
  bS (gd x5 true (bP (ld Q q 3 x8 G9) fun y => some (y, G9)) G9) fun x10 G11 =>
  bS (gd x5 true (bP (bn Q q .leq 3 (.tmp 10) (.const (.int .i64 4096)) x10 (.int .i64 4096)) fun y => some (y, G11)) G11) fun x12 G13 =>
  bP (pickV x5 x12 (.bool false)) fun x14 =>
  some (x14, G13)
theorem m55 {e : Ex} {E : Ev} (h : ExLe Q e E) (v0 : Value) (G : GS) : Ref (s55 true e v0 G) (s55 false (Ex.of E) v0 G) := by
  unfold s55
  exact Ref.gq
theorem f55 {orc : FuncId → Bool} {e : Ex} (h : ExLe Q e (E orc)) (v0 : Value) (G : GS) : Ref (s55 true e v0 G) ((E orc).cl 55 [v0] G) :=
  fun r hr => cl_sxE_some Q orc (vs := [v0]) G Try.func55 (by kernel_rfl) (by kernel_rfl) (by kernel_rfl) (by kernel_rfl) (by kernel_rfl) (by kernel_rfl) (m55 h v0 G r hr)
noncomputable def jbl56_0_0 (q : Bool) (e : Ex) (lp : Env → GS → Option (Exit × Env × GS)) (τ : Env) (G : GS) : Option (Exit × Env × GS) :=
  bV q (τ 1) fun a1_ =>
  bV q (τ 2) fun a2_ =>
  bV q (τ 4) fun a4_ =>
  bV q (τ 5) fun a5_ =>
  bV q (τ 15) fun a15_ =>
  bV q (τ 16) fun a16_ =>
  bP (fa Q q 31 1 1 a2_) fun x2 =>
  bP (ld Q q 3 x2 (G.room 8)) fun x3 =>
  bP (bn Q q .add 3 (.tmp 27) (.tmp 28) x3 a4_) fun x4 =>
  bS (e.ev.cl 93 [a5_] (G.room 8)) fun x6 G5 =>
  chk ((sameO (ld Q q 3 x2 G5) x3 && true)) <|
  bS (e.ev.cl 57 [a1_, x4, x6] G5) fun x8 G7 =>
  bP (bn Q q .add 3 (.tmp 16) (.const (.int .i64 1)) a16_ (.int .i64 1)) fun x9 =>
  lp (xq q 34 τ [(16, x9), (33, x9), (32, x8), (31, x6), (30, a5_), (29, x4), (28, a4_), (27, x3), (26, x2), (25, a1_)] [(1, a1_), (2, a2_), (4, a4_), (5, a5_), (15, a15_)]) G7
noncomputable def jl56_0_0 (q : Bool) (e : Ex) (lp : Env → GS → Option (Exit × Env × GS)) (τ : Env) (G : GS) : Option (Exit × Env × GS) := jbl56_0_0 q e lp τ G
theorem mjl56_0_0 {e : Ex} {E : Ev} (h : ExLe Q e E) {lp lp' : Env → GS → Option (Exit × Env × GS)} (hlp : LpLe lp lp') (τ : Env) (G : GS) : Ref (jl56_0_0 true e lp τ G) (jl56_0_0 false (Ex.of E) lp' τ G) := by
  unfold jl56_0_0 jbl56_0_0
  exact Ref.gq
theorem mkjl56_0_0 {e : Ex} {E : Ev} (h : ExLe Q e E) {lp lp' : Env → GS → Option (Exit × Env × GS)} (hlp : LpLe lp lp') {τ : Env} {l U : List (Nat × Value)} {G : GS} (hU : UOk τ U) : Ref (jl56_0_0 true e lp (xq true 34 τ l U) G) (jl56_0_0 false (Ex.of E) lp' (xq false 34 τ l U) G) := by
  rw [xq_eq hU]
  exact mjl56_0_0 h hlp _ _
noncomputable def bb56_0 (q : Bool) (e : Ex) (lp : Env → GS → Option (Exit × Env × GS)) (J0 : Env → GS → Option (Exit × Env × GS)) (τ : Env) (G : GS) : Option (Exit × Env × GS) :=
  bV q (τ 1) fun a1_ =>
  bV q (τ 2) fun a2_ =>
  bV q (τ 4) fun a4_ =>
  bV q (τ 5) fun a5_ =>
  bV q (τ 15) fun a15_ =>
  bV q (τ 16) fun a16_ =>
  bP (bn Q q .lss 3 (.tmp 16) (.tmp 15) a16_ a15_) fun x0 =>
  ifV x0 (
  bP (bn Q q .add 3 (.tmp 19) (.const (.int .i64 1)) a16_ (.int .i64 1)) fun x1 =>
  bP (fa Q q 31 2 2 a2_) fun x10 =>
  bP (ld Q q 3 x10 G) fun x11 =>
  bP (bn Q q .eql 3 (.tmp 21) (.tmp 23) x1 x11) fun x12 =>
  ifV x12 (
  J0 (xq q 34 τ [(5, (.int .i64 (-1))), (24, x12), (23, x11), (22, x10), (21, x1), (5, x1), (20, x1), (19, a16_), (4, a16_), (18, a16_), (17, x0)] [(1, a1_), (2, a2_), (15, a15_), (16, a16_)]) G) (
  J0 (xq q 34 τ [(24, x12), (23, x11), (22, x10), (21, x1), (5, x1), (20, x1), (19, a16_), (4, a16_), (18, a16_), (17, x0)] [(1, a1_), (2, a2_), (15, a15_), (16, a16_)]) G)) (
  some ((.exit 0), xq q 34 τ [(17, x0)] [(1, a1_), (2, a2_), (4, a4_), (5, a5_), (15, a15_), (16, a16_)], G))
noncomputable def b56_0 (q : Bool) (e : Ex) (lp : Env → GS → Option (Exit × Env × GS)) (τ : Env) (G : GS) : Option (Exit × Env × GS) := bb56_0 q e lp (jl56_0_0 q e lp) τ G
theorem mb56_0 {e : Ex} {E : Ev} (h : ExLe Q e E) {lp lp' : Env → GS → Option (Exit × Env × GS)} (hlp : LpLe lp lp') (τ : Env) (G : GS) : Ref (b56_0 true e lp τ G) (b56_0 false (Ex.of E) lp' τ G) := by
  unfold b56_0 bb56_0
  repeat' (with_reducible first | exact Ref.rfl' _ | exact ROp.r | refine Ref.bP ?_ fun _ => ?_ | refine Ref.bS ?_ fun _ _ => ?_ | exact Ref.cl (by assumption) | refine Ref.ifV ?_ ?_ | refine LpLe.rx (by assumption) ?_ | refine Ref.xitq ?_ | exact UOk.z | refine UOk.c (by assumption) ?_ | exact Ref.nil _ | refine Ref.bVe fun _ _ => ?_ | refine Ref.bLq (by assumption) ?_ fun _ _ _ => ?_ | refine Ref.ifE ?_ ?_ | refine Ref.chk ?_ ?_ | refine Imp.and ?_ ?_ | refine Imp.or ?_ | exact Imp.rfl' _ | refine Imp.sameO ?_ | refine Ref.gd ?_ | exact Ref.cValue (by assumption) | refine Ref.bX ?_ fun _ _ _ => ?_ | exact Ref.scQ (by assumption) | exact Ref.xRangeQ (by assumption) | exact Ref.cInvoke (by assumption) | refine mkjl56_0_0 (by assumption) (by assumption) ?_)
noncomputable def jtl56_0 (J0 : Env → GS → Option (Exit × Env × GS)) : JT (Exit × Env × GS) :=
  (.n none .e (.n none .e (.n none (.n none (.n none .e (.n none .e (.n (some (fun T G => J0 (nth undef T) G)) .e .e))) .e) .e)))
theorem jrl56_0_0 (orc : FuncId → Bool) (J0 : Env → GS → Option (Exit × Env × GS)) (T : List Value) (G : GS) : runC Q (evL Q orc) 34 (jtl56_0 J0) (subAt [1, 1, 1, 1, 0, 0] (bodyOf Try.f56)) (seqXE (fun τ G' => mapE ((E orc).lp (subAt [1, 1, 1, 1, 0, 0] (bodyOf Try.f56)) (lst 34 (nth undef (lst 34 τ))) G')) fun e τ G' => some (e, nth undef (lst 34 τ), G')) [true, true, false, false, true, true] (nth undef T) G = jbl56_0_0 false (Ex.of (E orc)) (fun τ G => mapE ((E orc).lp (subAt [1, 1, 1, 1, 0, 0] (bodyOf Try.f56)) (lst 34 τ) G))  (nth undef T) G := by kernel_rfl
theorem jol56_0 (orc : FuncId → Bool) : JOk Q orc 34 (jtl56_0 (jl56_0_0 false (Ex.of (E orc)) (fun τ G => mapE ((E orc).lp (subAt [1, 1, 1, 1, 0, 0] (bodyOf Try.f56)) (lst 34 τ) G))) ) (subAt [1, 1, 1, 1, 0, 0] (bodyOf Try.f56)) (seqXE (fun τ G' => mapE ((E orc).lp (subAt [1, 1, 1, 1, 0, 0] (bodyOf Try.f56)) (lst 34 (nth undef (lst 34 τ))) G')) fun e τ G' => some (e, nth undef (lst 34 τ), G')) :=
  jOk Q orc (l := [([true, true, false, false, true, true], (fun T G => jl56_0_0 false (Ex.of (E orc)) (fun τ G => mapE ((E orc).lp (subAt [1, 1, 1, 1, 0, 0] (bodyOf Try.f56)) (lst 34 τ) G)) (nth undef T) G))]) (by kernel_rfl) (AllE.c (fun T G => jrl56_0_0 orc (jl56_0_0 false (Ex.of (E orc)) (fun τ G => mapE ((E orc).lp (subAt [1, 1, 1, 1, 0, 0] (bodyOf Try.f56)) (lst 34 τ) G))) T G) (AllE.z))
theorem jel56_0 (orc : FuncId → Bool) (J0 : Env → GS → Option (Exit × Env × GS)) (T : List Value) (G : GS) : sxC Q (evL Q orc) 34 (jtl56_0 J0) (subAt [1, 1, 1, 1, 0, 0] (bodyOf Try.f56)) (nth undef T) G (seqXE (fun τ G' => mapE ((E orc).lp (subAt [1, 1, 1, 1, 0, 0] (bodyOf Try.f56)) (lst 34 (nth undef (lst 34 τ))) G')) fun e τ G' => some (e, nth undef (lst 34 τ), G')) = bb56_0 false (Ex.of (E orc)) (fun τ G => mapE ((E orc).lp (subAt [1, 1, 1, 1, 0, 0] (bodyOf Try.f56)) (lst 34 τ) G)) J0 (nth undef T) G := by kernel_rfl
theorem l56_0 {orc : FuncId → Bool} {e : Ex} (h : ExLe Q e (E orc)) (lp : Env → GS → Option (Exit × Env × GS)) (hlp : ∀ τ G, Ref (lp τ G) (mapE ((E orc).lp (subAt [1, 1, 1, 1, 0, 0] (bodyOf Try.f56)) (lst 34 τ) G))) (T : List Value) (G : GS) (hT : T.length = 34) : Ref (b56_0 true e lp (nth undef T) G) (mapE ((E orc).lp (subAt [1, 1, 1, 1, 0, 0] (bodyOf Try.f56)) T G)) :=
  fun r hr => lp_sxC Q orc G (jtl56_0 (jl56_0_0 false (Ex.of (E orc)) (fun τ G => mapE ((E orc).lp (subAt [1, 1, 1, 1, 0, 0] (bodyOf Try.f56)) (lst 34 τ) G))) ) hT (jol56_0 orc) (jel56_0 orc (jl56_0_0 false (Ex.of (E orc)) (fun τ G => mapE ((E orc).lp (subAt [1, 1, 1, 1, 0, 0] (bodyOf Try.f56)) (lst 34 τ) G))) T G) (mb56_0 h ⟨hlp⟩ _ _ r hr)
/-- coxswain/stack.Fill -/
noncomputable def s56 (q : Bool) (e : Ex) (v0 v1 : Value) (G : GS) : Option (Value × GS) :=
  bS (bx q v0 G) fun x0 G1 =>
  bP (lda Q q 31 3 x0 G1) fun x2 =>
  bS (e.ev.cl 91 [x2] G1) fun x3 G4 =>
  bP (un Q q .not x3) fun x5 =>
  ifV x5 (
  some (.tuple #[], G4)) (
  bP (fa Q q 31 0 0 x0) fun x6 =>
  bP (ld Q q 3 x6 (G4.room 5)) fun x7 =>
  bS (e.ev.cl 93 [(.int .i64 0)] (G4.room 5)) fun x9 G8 =>
  chk ((sameO (ld Q q 3 x6 G8) x7 && true)) <|
  bS (e.ev.cl 57 [v1, x7, x9] G8) fun x11 G10 =>
  bP (fa Q q 31 2 2 x0) fun x12 =>
  bP (ld Q q 3 x12 G10) fun x13 =>
  bLq q e 56 0 (subAt [1, 1, 1, 1, 0, 0] (bodyOf Try.f56)) 34 (nth undef [v0, v1]) [(16, (.int .i64 0)), (15, x13), (14, x12), (13, x11), (12, x9), (11, x7), (10, x6), (9, v1), (8, x5), (7, x3), (6, x2), (2, x0)] [] G10 fun e14 t15 G16 =>
  ifE e14 (.exit 0) (
  some (.tuple #[], G16)) (none))
theorem m56 {e : Ex} {E : Ev} (h : ExLe Q e E) (v0 v1 : Value) (G : GS) : Ref (s56 true e v0 v1 G) (s56 false (Ex.of E) v0 v1 G) := by
  unfold s56
  exact Ref.gq
theorem f56 {orc : FuncId → Bool} {e : Ex} (h : ExLe Q e (E orc)) (v0 v1 : Value) (G : GS) : Ref (s56 true e v0 v1 G) ((E orc).cl 56 [v0, v1] G) :=
  fun r hr => cl_sxE_some Q orc (vs := [v0, v1]) G Try.func56 (by kernel_rfl) (by kernel_rfl) (by kernel_rfl) (by kernel_rfl) (by kernel_rfl) (by kernel_rfl) (m56 h v0 v1 G r hr)
/-- (*coxswain/cells.Mem).Store -/
noncomputable def s57 (q : Bool) (e : Ex) (v0 v1 v2 : Value) (G : GS) : Option (Value × GS) :=
  bS (e.ev.cl 88 [v0, v1] G) fun x0 G1 =>
  bP (bd Q q 179 z179 [(0, 0, 1), (1, 1, 1)] [x0, v2]) fun x2 =>
  bS (al Q q 179 z179 G1) fun x3 G4 =>
  bP (st Q q 179 3 x3 x2 G4) fun G5 =>
  bP (fa Q q 179 0 0 x3) fun x6 =>
  bP (ld Q q 176 x6 G5) fun x7 =>
  bP (lda Q q 179 3 x3 G5) fun x8 =>
  bS (e.ev.cl 89 [v0, (.int .i64 2), v1, x7, (.func (.func 94) #[x8] #[])] G5) fun x9 G10 =>
  some (.tuple #[], G10)
theorem m57 {e : Ex} {E : Ev} (h : ExLe Q e E) (v0 v1 v2 : Value) (G : GS) : Ref (s57 true e v0 v1 v2 G) (s57 false (Ex.of E) v0 v1 v2 G) := by
  unfold s57
  exact Ref.gq
theorem f57 {orc : FuncId → Bool} {e : Ex} (h : ExLe Q e (E orc)) (v0 v1 v2 : Value) (G : GS) : Ref (s57 true e v0 v1 v2 G) ((E orc).cl 57 [v0, v1, v2] G) :=
  fun r hr => cl_sxE_some Q orc (vs := [v0, v1, v2]) G Try.func57 (by kernel_rfl) (by kernel_rfl) (by kernel_rfl) (by kernel_rfl) (by kernel_rfl) (by kernel_rfl) (m57 h v0 v1 v2 G r hr)
/-- coxswain/word.GetRef -/
noncomputable def s58 (q : Bool) (e : Ex) (v0 : Value) (G : GS) : Option (Value × GS) :=
  bS (al Q q 128 z128 G) fun x0 G1 =>
  bS (e.ev.cl 95 [] G1) fun x2 G3 =>
  bS (al Q q 134 z134 G3) fun x4 G5 =>
  bP (st Q q 134 4 x4 x2 G5) fun G6 =>
  bP (iaa Q q 134 2 2 x4 (.int .i64 0)) fun x7 =>
  bP (lda Q q 133 2 x7 (G6.room 14)) fun x8 =>
  bS (e.ev.cl 61 [v0, x8] (G6.room 14)) fun x10 G9 =>
  bP (bn Q q .sub 3 (.tmp 12) (.const (.int .i64 1)) x10 (.int .i64 1)) fun x11 =>
  bP (iaa Q q 134 2 2 x4 (.int .i64 1)) fun x12 =>
  bP (lda Q q 133 2 x12 G9) fun x13 =>
  chk ((sameO (lda Q q 133 2 x12 (G6.room 14)) x13 && true)) <|
  bS (e.ev.cl 61 [v0, x13] G9) fun x15 G14 =>
  bS (e.ev.cl 96 [v0] G14) fun x17 G16 =>
  bP (bd Q q 128 z128 [(0, 0, 1), (1, 1, 1), (2, 2, 1)] [x11, x15, x17]) fun x18 =>
  bS (al Q q 128 z128 (G16.at' (G6.nx + 12))) fun x19 G20 =>
  bP (st Q q 128 3 x19 x18 (G20.back G16)) fun G21 =>
  bP (lda Q q 128 3 x19 G21) fun x22 =>
  bS (e.ev.cl 97 [x22] G21) fun x23 G24 =>
  bP (pExtract x23 0) fun x25 =>
  bP (pExtract x23 1) fun x26 =>
  bP (bn Q q .neq 41 (.tmp 26) (.const (.int .i64 0)) x26 (.int .i64 0)) fun x27 =>
  bS (gd x27 false (some (x25, G24)) G24) fun x28 G29 =>
  bS (gd x27 false (some (v0, G29)) G29) fun x30 G31 =>
  bS (gd x27 false (bP (bn Q q .neq 28 (.tmp 29) (.tmp 30) x28 x30) fun y => some (y, G31)) G31) fun x32 G33 =>
  bP (pickV x27 (.bool true) x32) fun x34 =>
  ifV x34 (
  bP (bd Q q 128 z128 [] []) fun x35 =>
  bP (st Q q 128 3 x0 x35 G33) fun G36 =>
  bP (lda Q q 128 3 x0 G36) fun x37 =>
  some (.tuple #[x37, (.int .i64 5)], G36)) (
  bP (lda Q q 128 3 x19 G33) fun x38 =>
  bP (st Q q 128 3 x0 x38 G33) fun G39 =>
  bP (lda Q q 128 3 x0 G39) fun x40 =>
  some (.tuple #[x40, (.int .i64 0)], G39))
theorem m58 {e : Ex} {E : Ev} (h : ExLe Q e E) (v0 : Value) (G : GS) : Ref (s58 true e v0 G) (s58 false (Ex.of E) v0 G) := by
  unfold s58
  exact Ref.gq
theorem f58 {orc : FuncId → Bool} {e : Ex} (h : ExLe Q e (E orc)) (v0 : Value) (G : GS) : Ref (s58 true e v0 G) ((E orc).cl 58 [v0] G) :=
  fun r hr => cl_sxE_some Q orc (vs := [v0]) G Try.func58 (by kernel_rfl) (by kernel_rfl) (by kernel_rfl) (by kernel_rfl) (by kernel_rfl) (by kernel_rfl) (m58 h v0 G r hr)
/-- (*coxswain/arena.Alloc).Step -/
noncomputable def s59 (q : Bool) (e : Ex) (v0 v1 : Value) (G : GS) : Option (Value × GS) :=
  bP (ep Q q false 113 (.tmp 5) (.const (.pointer none)) v0 (.pointer none)) fun x0 =>
  bS (gd x0 false (some (v0, G)) G) fun x1 G2 =>
  bS (gd x0 false (bP (pNil x1) fun y => some (y, G2)) G2) fun x3 G4 =>
  bS (gd x0 false (bP (fa Q q 175 3 8 x3) fun y => some (y, G4)) G4) fun x5 G6 =>
  bS (gd x0 false (bP (ld Q q 173 x5 G6) fun y => some (y, G6)) G6) fun x7 G8 =>
  bS (gd x0 false (bP (ef Q q false 173 (.tmp 11) (.const .nilFunc) x7 .nilFunc) fun y => some (y, G8)) G8) fun x9 G10 =>
  bP (pickV x0 (.bool true) x9) fun x11 =>
  ifV x11 (
  some ((.bool true), G10)) (
  bP (pNil v0) fun x12 =>
  bP (fa Q q 175 3 8 x12) fun x13 =>
  bP (ld Q q 173 x13 G10) fun x14 =>
  bS (cValue e.ev x14 [v0, v1] G10) fun x15 G16 =>
  bP (pNil v0) fun x17 =>
  bP (fa Q q 175 3 8 x17) fun x18 =>
  bP (ld Q q 173 x18 G16) fun x19 =>
  bP (ef Q q false 173 (.tmp 24) (.const .nilFunc) x19 .nilFunc) fun x20 =>
  some (x20, G16))
theorem m59 {e : Ex} {E : Ev} (h : ExLe Q e E) (v0 v1 : Value) (G : GS) : Ref (s59 true e v0 v1 G) (s59 false (Ex.of E) v0 v1 G) := by
  unfold s59
  exact Ref.gq
theorem f59 {orc : FuncId → Bool} {e : Ex} (h : ExLe Q e (E orc)) (v0 v1 : Value) (G : GS) : Ref (s59 true e v0 v1 G) ((E orc).cl 59 [v0, v1] G) :=
  fun r hr => cl_sxE_some Q orc (vs := [v0, v1]) G Try.func59 (by kernel_rfl) (by kernel_rfl) (by kernel_rfl) (by kernel_rfl) (by kernel_rfl) (by kernel_rfl) (m59 h v0 v1 G r hr)
/-- coxswain/word.tops -/
noncomputable def s60 (q : Bool) (e : Ex) (G : GS) : Option (Value × GS) :=
  bS (al Q q 134 z134 G) fun x0 G1 =>
  bP (bd Q q 133 z133 [(0, 0, 1), (1, 1, 1)] [(.int .i64 0), (.int .i64 16)]) fun x2 =>
  bP (bd Q q 133 z133 [(0, 0, 1), (1, 1, 1)] [(.int .i64 16), (.int .i64 48)]) fun x3 =>
  bP (bd Q q 134 z134 [(0, 0, 2), (1, 2, 2)] [x2, x3]) fun x4 =>
  bP (st Q q 134 4 x0 x4 G1) fun G5 =>
  bP (lda Q q 134 4 x0 G5) fun x6 =>
  some (x6, G5)
theorem m60 {e : Ex} {E : Ev} (h : ExLe Q e E) (G : GS) : Ref (s60 true e  G) (s60 false (Ex.of E)  G) := by
  unfold s60
  exact Ref.gq
theorem f60 {orc : FuncId → Bool} {e : Ex} (h : ExLe Q e (E orc)) (ho : orc 60 = false) (G : GS) : Ref (s60 true e  G) ((E orc).cl 60 [] G) :=
  fun r hr => cl_sxE_some Q orc (vs := []) G Try.func60 (by kernel_rfl) (by kernel_rfl) ho (by kernel_rfl) (by kernel_rfl) (by kernel_rfl) (m60 h  G r hr)
/-- (coxswain/word.raw).take -/
noncomputable def s61 (q : Bool) (e : Ex) (v0 v1 : Value) (G : GS) : Option (Value × GS) :=
  bS (bx q v1 G) fun x0 G1 =>
  bP (fa Q q 133 0 0 x0) fun x2 =>
  bP (ld Q q 3 x2 (G1.room 11)) fun x3 =>
  bP (bn Q q .shr 28 (.tmp 5) (.tmp 7) v0 x3) fun x4 =>
  bP (fa Q q 133 1 1 x0) fun x5 =>
  bP (ld Q q 3 x5 (G1.room 11)) fun x6 =>
  bP (bn Q q .shl 28 (.const (.int .u64 1)) (.tmp 10) (.int .u64 1) x6) fun x7 =>
  bP (bn Q q .sub 28 (.tmp 11) (.const (.int .u64 1)) x7 (.int .u64 1)) fun x8 =>
  bP (bn Q q .and 28 (.tmp 8) (.tmp 12) x4 x8) fun x9 =>
  bP (cv Q q 28 3 .u64 .i64 x9) fun x10 =>
  some (x10, (G1.room 11))
theorem m61 {e : Ex} {E : Ev} (h : ExLe Q e E) (v0 v1 : Value) (G : GS) : Ref (s61 true e v0 v1 G) (s61 false (Ex.of E) v0 v1 G) := by
  unfold s61
  exact Ref.gq
theorem f61 {orc : FuncId → Bool} {e : Ex} (h : ExLe Q e (E orc)) (v0 v1 : Value) (G : GS) : Ref (s61 true e v0 v1 G) ((E orc).cl 61 [v0, v1] G) :=
  fun r hr => cl_sxE_some Q orc (vs := [v0, v1]) G Try.func61 (by kernel_rfl) (by kernel_rfl) (by kernel_rfl) (by kernel_rfl) (by kernel_rfl) (by kernel_rfl) (m61 h v0 v1 G r hr)
/-- (*coxswain/stack.Push).first -/
noncomputable def s81 (q : Bool) (e : Ex) (v0 v1 : Value) (G : GS) : Option (Value × GS) :=
  bP (pNil v0) fun x0 =>
  bP (fa Q q 168 0 0 x0) fun x1 =>
  bS (e.ev.cl 113 [x1, v1] G) fun x2 G3 =>
  bP (pNil v0) fun x4 =>
  bP (fa Q q 168 0 0 x4) fun x5 =>
  bP (fa Q q 165 3 5 x5) fun x6 =>
  bP (st Q q 3 1 x6 x2 G3) fun G7 =>
  bP (pNil v0) fun x8 =>
  bP (fa Q q 168 1 9 x8) fun x9 =>
  bP (st Q q 166 1 x9 (.func (.func 114) #[] #[]) G7) fun G10 =>
  some (.tuple #[], G10)
theorem m81 {e : Ex} {E : Ev} (h : ExLe Q e E) (v0 v1 : Value) (G : GS) : Ref (s81 true e v0 v1 G) (s81 false (Ex.of E) v0 v1 G) := by
  unfold s81
  exact Ref.gq
theorem f81 {orc : FuncId → Bool} {e : Ex} (h : ExLe Q e (E orc)) (v0 v1 : Value) (G : GS) : Ref (s81 true e v0 v1 G) ((E orc).cl 81 [v0, v1] G) :=
  fun r hr => cl_sxE_some Q orc (vs := [v0, v1]) G Try.func81 (by kernel_rfl) (by kernel_rfl) (by kernel_rfl) (by kernel_rfl) (by kernel_rfl) (by kernel_rfl) (m81 h v0 v1 G r hr)
/-- (*coxswain/stack.held).ends -/
noncomputable def s82 (q : Bool) (e : Ex) (v0 v1 : Value) (G : GS) : Option (Value × GS) :=
  bP (pNil v0) fun x0 =>
  bP (fa Q q 165 5 7 x0) fun x1 =>
  bP (st Q q 4 1 x1 (.bool true) G) fun G2 =>
  bP (pNil v0) fun x3 =>
  bP (fa Q q 165 6 8 x3) fun x4 =>
  bP (st Q q 41 1 x4 v1 G2) fun G5 =>
  some (.tuple #[], G5)
theorem m82 {e : Ex} {E : Ev} (h : ExLe Q e E) (v0 v1 : Value) (G : GS) : Ref (s82 true e v0 v1 G) (s82 false (Ex.of E) v0 v1 G) := by
  unfold s82
  exact Ref.gq
theorem f82 {orc : FuncId → Bool} {e : Ex} (h : ExLe Q e (E orc)) (v0 v1 : Value) (G : GS) : Ref (s82 true e v0 v1 G) ((E orc).cl 82 [v0, v1] G) :=
  fun r hr => cl_sxE_some Q orc (vs := [v0, v1]) G Try.func82 (by kernel_rfl) (by kernel_rfl) (by kernel_rfl) (by kernel_rfl) (by kernel_rfl) (by kernel_rfl) (m82 h v0 v1 G r hr)
/-- (*coxswain/arena.Free).raises -/
noncomputable def s83 (q : Bool) (e : Ex) (v0 v1 : Value) (G : GS) : Option (Value × GS) :=
  bP (pNil v0) fun x0 =>
  bP (fa Q q 110 1 1 x0) fun x1 =>
  bP (fa Q q 33 1 3 x1) fun x2 =>
  bP (ld Q q 3 x2 (G.room 17)) fun x3 =>
  bP (pNil v0) fun x4 =>
  bP (fa Q q 110 4 9 x4) fun x5 =>
  bP (ld Q q 3 x5 (G.room 17)) fun x6 =>
  bP (bn Q q .add 3 (.tmp 9) (.tmp 13) x3 x6) fun x7 =>
  bP (pNil v0) fun x8 =>
  bP (fa Q q 110 5 10 x8) fun x9 =>
  bP (ld Q q 28 x9 (G.room 17)) fun x10 =>
  bP (bn Q q .add 28 (.tmp 18) (.const (.int .u64 1)) x10 (.int .u64 1)) fun x11 =>
  bS (e.ev.cl 57 [v1, x7, x11] (G.room 17)) fun x13 G12 =>
  bP (pNil v0) fun x14 =>
  bP (fa Q q 110 3 8 x14) fun x15 =>
  bP (st Q q 108 1 x15 (.func (.func 115) #[] #[]) G12) fun G16 =>
  some (.tuple #[], G16)
theorem m83 {e : Ex} {E : Ev} (h : ExLe Q e E) (v0 v1 : Value) (G : GS) : Ref (s83 true e v0 v1 G) (s83 false (Ex.of E) v0 v1 G) := by
  unfold s83
  exact Ref.gq
theorem f83 {orc : FuncId → Bool} {e : Ex} (h : ExLe Q e (E orc)) (v0 v1 : Value) (G : GS) : Ref (s83 true e v0 v1 G) ((E orc).cl 83 [v0, v1] G) :=
  fun r hr => cl_sxE_some Q orc (vs := [v0, v1]) G Try.func83 (by kernel_rfl) (by kernel_rfl) (by kernel_rfl) (by kernel_rfl) (by kernel_rfl) (by kernel_rfl) (m83 h v0 v1 G r hr)
/-- coxswain/arena.gen -/
noncomputable def s84 (q : Bool) (e : Ex) (v0 : Value) (G : GS) : Option (Value × GS) :=
  bP (bn Q q .and 28 (.tmp 3) (.const (.int .u64 4294967295)) v0 (.int .u64 4294967295)) fun x0 =>
  bP (cv Q q 28 3 .u64 .i64 x0) fun x1 =>
  some (x1, G)
theorem m84 {e : Ex} {E : Ev} (h : ExLe Q e E) (v0 : Value) (G : GS) : Ref (s84 true e v0 G) (s84 false (Ex.of E) v0 G) := by
  unfold s84
  exact Ref.gq
theorem f84 {orc : FuncId → Bool} {e : Ex} (h : ExLe Q e (E orc)) (v0 : Value) (G : GS) : Ref (s84 true e v0 G) ((E orc).cl 84 [v0] G) :=
  fun r hr => cl_sxE_some Q orc (vs := [v0]) G Try.func84 (by kernel_rfl) (by kernel_rfl) (by kernel_rfl) (by kernel_rfl) (by kernel_rfl) (by kernel_rfl) (m84 h v0 G r hr)
/-- (*coxswain/arena.Free).wears -/
noncomputable def s85 (q : Bool) (e : Ex) (v0 v1 : Value) (G : GS) : Option (Value × GS) :=
  bP (pNil v0) fun x0 =>
  bP (fa Q q 110 1 1 x0) fun x1 =>
  bP (fa Q q 33 2 4 x1) fun x2 =>
  bP (ld Q q 3 x2 G) fun x3 =>
  bS (e.ev.cl 116 [v1, x3, (.int .u64 1)] G) fun x4 G5 =>
  bP (pNil v0) fun x6 =>
  bP (fa Q q 110 3 8 x6) fun x7 =>
  bP (st Q q 108 1 x7 .nilFunc G5) fun G8 =>
  some (.tuple #[], G8)
theorem m85 {e : Ex} {E : Ev} (h : ExLe Q e E) (v0 v1 : Value) (G : GS) : Ref (s85 true e v0 v1 G) (s85 false (Ex.of E) v0 v1 G) := by
  unfold s85
  exact Ref.gq
theorem f85 {orc : FuncId → Bool} {e : Ex} (h : ExLe Q e (E orc)) (v0 v1 : Value) (G : GS) : Ref (s85 true e v0 v1 G) ((E orc).cl 85 [v0, v1] G) :=
  fun r hr => cl_sxE_some Q orc (vs := [v0, v1]) G Try.func85 (by kernel_rfl) (by kernel_rfl) (by kernel_rfl) (by kernel_rfl) (by kernel_rfl) (by kernel_rfl) (m85 h v0 v1 G r hr)
/-- coxswain/stack.NewPop -/
noncomputable def s86 (q : Bool) (e : Ex) (v0 : Value) (G : GS) : Option (Value × GS) :=
  bS (bx q v0 G) fun x0 G1 =>
  bP (lda Q q 31 3 x0 G1) fun x2 =>
  bP (bd Q q 165 z165 [(0, 0, 3), (4, 6, 1)] [x2, (.bool true)]) fun x3 =>
  bP (bd Q q 208 z208 [(0, 0, 9), (1, 9, 1)] [x3, (.func (.func 117) #[] #[])]) fun x4 =>
  bS (bx q x4 G1) fun x5 G6 =>
  some (x5, G6)
theorem m86 {e : Ex} {E : Ev} (h : ExLe Q e E) (v0 : Value) (G : GS) : Ref (s86 true e v0 G) (s86 false (Ex.of E) v0 G) := by
  unfold s86
  exact Ref.gq
theorem f86 {orc : FuncId → Bool} {e : Ex} (h : ExLe Q e (E orc)) (v0 : Value) (G : GS) : Ref (s86 true e v0 G) ((E orc).cl 86 [v0] G) :=
  fun r hr => cl_sxE_some Q orc (vs := [v0]) G Try.func86 (by kernel_rfl) (by kernel_rfl) (by kernel_rfl) (by kernel_rfl) (by kernel_rfl) (by kernel_rfl) (m86 h v0 G r hr)
/-- (*coxswain/arena.Alloc).pop -/
noncomputable def s87 (q : Bool) (e : Ex) (v0 v1 : Value) (G : GS) : Option (Value × GS) :=
  bP (pNil v0) fun x0 =>
  bP (fa Q q 175 0 0 x0) fun x1 =>
  bP (ld Q q 171 x1 G) fun x2 =>
  bS (e.ev.cl 118 [x2, v1] G) fun x3 G4 =>
  bP (un Q q .not x3) fun x5 =>
  ifV x5 (
  some (.tuple #[], G4)) (
  bP (pNil v0) fun x6 =>
  bP (fa Q q 175 0 0 x6) fun x7 =>
  bP (ld Q q 171 x7 G4) fun x8 =>
  bS (e.ev.cl 119 [x8] G4) fun x9 G10 =>
  bP (pExtract x9 0) fun x11 =>
  bP (pExtract x9 1) fun x12 =>
  bP (pNil v0) fun x13 =>
  bP (fa Q q 175 4 9 x13) fun x14 =>
  bP (st Q q 3 1 x14 x11 G10) fun G15 =>
  bP (pNil v0) fun x16 =>
  bP (fa Q q 175 3 8 x16) fun x17 =>
  bP (st Q q 173 1 x17 (.func (.func 120) #[] #[]) G15) fun G18 =>
  bP (bn Q q .neq 41 (.tmp 28) (.const (.int .i64 0)) x12 (.int .i64 0)) fun x19 =>
  ifV x19 (
  bP (pNil v0) fun x20 =>
  bP (fa Q q 175 3 8 x20) fun x21 =>
  bP (st Q q 173 1 x21 (.func (.func 121) #[] #[]) G18) fun G22 =>
  some (.tuple #[], G22)) (
  some (.tuple #[], G18)))
theorem m87 {e : Ex} {E : Ev} (h : ExLe Q e E) (v0 v1 : Value) (G : GS) : Ref (s87 true e v0 v1 G) (s87 false (Ex.of E) v0 v1 G) := by
  unfold s87
  exact Ref.gq
theorem f87 {orc : FuncId → Bool} {e : Ex} (h : ExLe Q e (E orc)) (v0 v1 : Value) (G : GS) : Ref (s87 true e v0 v1 G) ((E orc).cl 87 [v0, v1] G) :=
  fun r hr => cl_sxE_some Q orc (vs := [v0, v1]) G Try.func87 (by kernel_rfl) (by kernel_rfl) (by kernel_rfl) (by kernel_rfl) (by kernel_rfl) (by kernel_rfl) (m87 h v0 v1 G r hr)
/-- (*coxswain/cells.Mem).cell -/
noncomputable def s88 (q : Bool) (e : Ex) (v0 v1 : Value) (G : GS) : Option (Value × GS) :=
  bP (ep Q q false 34 (.tmp 5) (.const (.pointer none)) v0 (.pointer none)) fun x0 =>
  bS (gd x0 false (some (v0, G)) G) fun x1 G2 =>
  bS (gd x0 false (bP (pNil x1) fun y => some (y, G2)) G2) fun x3 G4 =>
  bS (gd x0 false (bP (fa Q q 81 0 0 x3) fun y => some (y, G4)) G4) fun x5 G6 =>
  bS (gd x0 false (bP (ld Q q 77 x5 G6) fun y => some (y, G6)) G6) fun x7 G8 =>
  bS (gd x0 false (bP (ep Q q false 77 (.tmp 11) (.const (.pointer none)) x7 (.pointer none)) fun y => some (y, G8)) G8) fun x9 G10 =>
  bP (pickV x0 (.bool true) x9) fun x11 =>
  bS (gd x11 false (some (v1, G10)) G10) fun x12 G13 =>
  bS (gd x11 false (bP (bn Q q .lss 3 (.tmp 15) (.const (.int .i64 0)) x12 (.int .i64 0)) fun y => some (y, G13)) G13) fun x14 G15 =>
  bP (pickV x11 (.bool true) x14) fun x16 =>
  bS (gd x16 false (some (v1, G15)) G15) fun x17 G18 =>
  bS (gd x16 false (some (v0, G18)) G18) fun x19 G20 =>
  bS (gd x16 false (bP (pNil x19) fun y => some (y, G20)) G20) fun x21 G22 =>
  bS (gd x16 false (bP (fa Q q 81 1 1 x21) fun y => some (y, G22)) G22) fun x23 G24 =>
  bS (gd x16 false (bP (ld Q q 3 x23 G24) fun y => some (y, G24)) G24) fun x25 G26 =>
  bS (gd x16 false (bP (bn Q q .geq 3 (.tmp 19) (.tmp 23) x17 x25) fun y => some (y, G26)) G26) fun x27 G28 =>
  bP (pickV x16 (.bool true) x27) fun x29 =>
  ifV x29 (
  some ((.pointer none), G28)) (
  bP (pNil v0) fun x30 =>
  bP (fa Q q 81 0 0 x30) fun x31 =>
  bP (ld Q q 77 x31 G28) fun x32 =>
  bP (pNil x32) fun x33 =>
  bP (iaa Q q 123 4096 1 x33 v1) fun x34 =>
  some (x34, G28))
theorem m88 {e : Ex} {E : Ev} (h : ExLe Q e E) (v0 v1 : Value) (G : GS) : Ref (s88 true e v0 v1 G) (s88 false (Ex.of E) v0 v1 G) := by
  unfold s88
  exact Ref.gq
theorem f88 {orc : FuncId → Bool} {e : Ex} (h : ExLe Q e (E orc)) (v0 v1 : Value) (G : GS) : Ref (s88 true e v0 v1 G) ((E orc).cl 88 [v0, v1] G) :=
  fun r hr => cl_sxE_some Q orc (vs := [v0, v1]) G Try.func88 (by kernel_rfl) (by kernel_rfl) (by kernel_rfl) (by kernel_rfl) (by kernel_rfl) (by kernel_rfl) (m88 h v0 v1 G r hr)
noncomputable def jb89_0 (q : Bool) (e : Ex) (τ : Env) (G : GS) : Option (Value × GS) :=
  bV q (τ 0) fun a0_ =>
  bV q (τ 10) fun a10_ =>
  bP (pNil a0_) fun x28 =>
  bP (fa Q q 81 2 2 x28) fun x29 =>
  bP (lda Q q 79 5 x29 G) fun x30 =>
  bP (st Q q 79 5 a10_ x30 G) fun G31 =>
  bP (lda Q q 79 5 a10_ G31) fun x32 =>
  some (x32, G31)
noncomputable def j89_0 (q : Bool) (e : Ex) (τ : Env) (G : GS) : Option (Value × GS) := jb89_0 q e τ G
theorem mj89_0 {e : Ex} {E : Ev} (h : ExLe Q e E) (τ : Env) (G : GS) : Ref (j89_0 true e τ G) (j89_0 false (Ex.of E) τ G) := by
  unfold j89_0 jb89_0
  exact Ref.gq
theorem mkj89_0 {e : Ex} {E : Ev} (h : ExLe Q e E) {τ : Env} {l U : List (Nat × Value)} {G : GS} (hU : UOk τ U) : Ref (j89_0 true e (xq true 67 τ l U) G) (j89_0 false (Ex.of E) (xq false 67 τ l U) G) := by
  rw [xq_eq hU]
  exact mj89_0 h _ _
noncomputable def sb89 (q : Bool) (e : Ex) (J0 : Env → GS → Option (Value × GS)) (v0 v1 v2 v3 v4 : Value) (G : GS) : Option (Value × GS) :=
  bS (al Q q 79 z79 G) fun x0 G1 =>
  bP (ep Q q false 34 (.tmp 13) (.const (.pointer none)) v0 (.pointer none)) fun x2 =>
  bS (gd x2 false (some (v0, G1)) G1) fun x3 G4 =>
  bS (gd x2 false (bP (pNil x3) fun y => some (y, G4)) G4) fun x5 G6 =>
  bS (gd x2 false (bP (fa Q q 81 0 0 x5) fun y => some (y, G6)) G6) fun x7 G8 =>
  bS (gd x2 false (bP (ld Q q 77 x7 G8) fun y => some (y, G8)) G8) fun x9 G10 =>
  bS (gd x2 false (bP (ep Q q false 77 (.tmp 19) (.const (.pointer none)) x9 (.pointer none)) fun y => some (y, G10)) G10) fun x11 G12 =>
  bP (pickV x2 (.bool true) x11) fun x13 =>
  ifV x13 (
  bP (bd Q q 79 z79 [] []) fun x14 =>
  bP (st Q q 79 5 x0 x14 G12) fun G15 =>
  bP (lda Q q 79 5 x0 G15) fun x16 =>
  some (x16, G15)) (
  bP (pNil v0) fun x17 =>
  bP (fa Q q 81 3 7 x17) fun x18 =>
  bP (ld Q q 3 x18 G12) fun x19 =>
  bP (bn Q q .add 3 (.tmp 26) (.const (.int .i64 1)) x19 (.int .i64 1)) fun x20 =>
  bP (pNil v0) fun x21 =>
  bP (fa Q q 81 3 7 x21) fun x22 =>
  bP (st Q q 3 1 x22 x20 G12) fun G23 =>
  bP (bd Q q 79 z79 [(0, 0, 1), (1, 1, 1)] [v1, v2]) fun x24 =>
  bP (pNil v0) fun x25 =>
  bP (fa Q q 81 2 2 x25) fun x26 =>
  bP (st Q q 79 5 x26 x24 G23) fun G27 =>
  bS (e.ev.cl 122 [v3] G27) fun x33 G34 =>
  ifV x33 (
  bS (cValue e.ev v4 [] G34) fun x35 G36 =>
  bP (pExtract x35 0) fun x37 =>
  bP (pExtract x35 1) fun x38 =>
  bP (pNil v3) fun x39 =>
  bP (ld Q q 83 x39 G36) fun x40 =>
  bP (pNil v0) fun x41 =>
  bP (fa Q q 81 2 2 x41) fun x42 =>
  bP (fa Q q 79 2 2 x42) fun x43 =>
  bP (st Q q 28 1 x43 x40 G36) fun G44 =>
  bP (pNil v0) fun x45 =>
  bP (fa Q q 81 2 2 x45) fun x46 =>
  bP (fa Q q 79 3 3 x46) fun x47 =>
  bP (st Q q 28 1 x47 x37 G44) fun G48 =>
  bP (pNil v0) fun x49 =>
  bP (fa Q q 81 2 2 x49) fun x50 =>
  bP (fa Q q 79 4 4 x50) fun x51 =>
  bP (st Q q 4 1 x51 x38 G48) fun G52 =>
  bP (pNil v3) fun x53 =>
  bP (st Q q 83 1 x53 x37 G52) fun G54 =>
  J0 (xq q 67 (nth undef [v0, v1, v2, v3, v4]) [(62, x53), (61, x37), (60, v3), (59, x51), (58, x50), (57, x49), (56, x47), (55, x46), (54, x45), (53, x43), (52, x42), (51, x41), (50, x38), (49, x37), (48, x40), (47, x39), (46, v3), (45, v0), (44, v0), (43, v0), (12, x38), (11, x37), (42, x38), (41, x37), (38, x35), (40, x35), (39, v4), (37, x33), (36, v3), (35, x26), (34, x25), (33, x24), (32, v2), (31, v1), (30, v0), (29, x22), (28, x21), (27, x20), (26, x19), (25, x18), (24, x17), (23, v0), (21, x13), (20, x11), (19, x9), (18, x7), (17, x5), (16, x3), (15, x2), (14, x2), (13, v0), (10, x0)] []) G54) (
  J0 (xq q 67 (nth undef [v0, v1, v2, v3, v4]) [(37, x33), (36, v3), (35, x26), (34, x25), (33, x24), (32, v2), (31, v1), (30, v0), (29, x22), (28, x21), (27, x20), (26, x19), (25, x18), (24, x17), (23, v0), (21, x13), (20, x11), (19, x9), (18, x7), (17, x5), (16, x3), (15, x2), (14, x2), (13, v0), (10, x0)] []) G34))
/-- (*coxswain/cells.Mem).do -/
noncomputable def s89 (q : Bool) (e : Ex) (v0 v1 v2 v3 v4 : Value) (G : GS) : Option (Value × GS) := sb89 q e (j89_0 q e) v0 v1 v2 v3 v4 G
theorem m89 {e : Ex} {E : Ev} (h : ExLe Q e E) (v0 v1 v2 v3 v4 : Value) (G : GS) : Ref (s89 true e v0 v1 v2 v3 v4 G) (s89 false (Ex.of E) v0 v1 v2 v3 v4 G) := by
  unfold s89 sb89
  repeat' (with_reducible first | exact Ref.rfl' _ | exact ROp.r | refine Ref.bP ?_ fun _ => ?_ | refine Ref.bS ?_ fun _ _ => ?_ | exact Ref.cl (by assumption) | refine Ref.ifV ?_ ?_ | refine LpLe.rx (by assumption) ?_ | refine Ref.xitq ?_ | exact UOk.z | refine UOk.c (by assumption) ?_ | exact Ref.nil _ | refine Ref.bVe fun _ _ => ?_ | refine Ref.bLq (by assumption) ?_ fun _ _ _ => ?_ | refine Ref.ifE ?_ ?_ | refine Ref.chk ?_ ?_ | refine Imp.and ?_ ?_ | refine Imp.or ?_ | exact Imp.rfl' _ | refine Imp.sameO ?_ | refine Ref.gd ?_ | exact Ref.cValue (by assumption) | refine Ref.bX ?_ fun _ _ _ => ?_ | exact Ref.scQ (by assumption) | exact Ref.xRangeQ (by assumption) | exact Ref.cInvoke (by assumption) | refine mkj89_0 (by assumption) ?_)
noncomputable def jt89 (J0 : Env → GS → Option (Value × GS)) : JT (Value × GS) :=
  (.n none .e (.n none .e (.n none .e (.n none .e (.n (some (fun T G => J0 (nth undef T) G)) .e .e)))))
theorem jr89_0 (orc : FuncId → Bool) (J0 : Env → GS → Option (Value × GS)) (T : List Value) (G : GS) : runC Q (evL Q orc) Try.f89.ntmps (jt89 J0) (bodyOf Try.f89) (retE Q Try.f89.results.toList) [true, true, true, true] (nth undef T) G = jb89_0 false (Ex.of (E orc))  (nth undef T) G := by kernel_rfl
theorem jo89 (orc : FuncId → Bool) : JOk Q orc Try.f89.ntmps (jt89 (j89_0 false (Ex.of (E orc))) ) (bodyOf Try.f89) (retE Q Try.f89.results.toList) :=
  jOk Q orc (l := [([true, true, true, true], (fun T G => j89_0 false (Ex.of (E orc)) (nth undef T) G))]) (by kernel_rfl) (AllE.c (fun T G => jr89_0 orc (j89_0 false (Ex.of (E orc))) T G) (AllE.z))
theorem je89 (orc : FuncId → Bool) (J0 : Env → GS → Option (Value × GS)) (v0 v1 v2 v3 v4 : Value) (G : GS) : sxC Q (evL Q orc) Try.f89.ntmps (jt89 J0) (bodyOf Try.f89) (nth undef [v0, v1, v2, v3, v4]) G (retE Q Try.f89.results.toList) = sb89 false (Ex.of (E orc)) J0 v0 v1 v2 v3 v4 G := by kernel_rfl
theorem f89 {orc : FuncId → Bool} {e : Ex} (h : ExLe Q e (E orc)) (v0 v1 v2 v3 v4 : Value) (G : GS) : Ref (s89 true e v0 v1 v2 v3 v4 G) ((E orc).cl 89 [v0, v1, v2, v3, v4] G) :=
  fun r hr => cl_sxC Q orc (vs := [v0, v1, v2, v3, v4]) G (jt89 (j89_0 false (Ex.of (E orc))) ) Try.func89 (by kernel_rfl) (by kernel_rfl) (by kernel_rfl) (by kernel_rfl) (by kernel_rfl) (jo89 orc) (je89 orc (j89_0 false (Ex.of (E orc))) v0 v1 v2 v3 v4 G) (m89 h v0 v1 v2 v3 v4 G r hr)
/-- (coxswain/cells.deed).load -/
noncomputable def s90 (q : Bool) (e : Ex) (v0 : Value) (G : GS) : Option (Value × GS) :=
  bS (bx q v0 G) fun x0 G1 =>
  bP (fa Q q 179 0 0 x0) fun x2 =>
  bP (ld Q q 176 x2 G1) fun x3 =>
  bP (pNil x3) fun x4 =>
  bP (ld Q q 83 x4 G1) fun x5 =>
  some (.tuple #[x5, (.bool false)], G1)
theorem m90 {e : Ex} {E : Ev} (h : ExLe Q e E) (v0 : Value) (G : GS) : Ref (s90 true e v0 G) (s90 false (Ex.of E) v0 G) := by
  unfold s90
  exact Ref.gq
theorem f90 {orc : FuncId → Bool} {e : Ex} (h : ExLe Q e (E orc)) (v0 : Value) (G : GS) : Ref (s90 true e v0 G) ((E orc).cl 90 [v0] G) :=
  fun r hr => cl_sxE_some Q orc (vs := [v0]) G Try.func90 (by kernel_rfl) (by kernel_rfl) (by kernel_rfl) (by kernel_rfl) (by kernel_rfl) (by kernel_rfl) (m90 h v0 G r hr)
/-- coxswain/stack.sized -/
noncomputable def s91 (q : Bool) (e : Ex) (v0 : Value) (G : GS) : Option (Value × GS) :=
  bS (bx q v0 G) fun x0 G1 =>
  bP (fa Q q 31 2 2 x0) fun x2 =>
  bP (ld Q q 3 x2 G1) fun x3 =>
  bP (bn Q q .geq 3 (.tmp 4) (.const (.int .i64 1)) x3 (.int .i64 1)) fun x4 =>
  bS (gd x4 true (bP (fa Q q 31 2 2 x0) fun y => some (y, G1)) G1) fun x5 G6 =>
  bS (gd x4 true (bP (ld Q q 3 x5 G6) fun y => some (y, G6)) G6) fun x7 G8 =>
  bS (gd x4 true (bP (bn Q q .leq 3 (.tmp 8) (.const (.int .i64 4096)) x7 (.int .i64 4096)) fun y => some (y, G8)) G8) fun x9 G10 =>
  bP (pickV x4 x9 (.bool false)) fun x11 =>
  some (x11, G10)
theorem m91 {e : Ex} {E : Ev} (h : ExLe Q e E) (v0 : Value) (G : GS) : Ref (s91 true e v0 G) (s91 false (Ex.of E) v0 G) := by
  unfold s91
  exact Ref.gq
theorem f91 {orc : FuncId → Bool} {e : Ex} (h : ExLe Q e (E orc)) (v0 : Value) (G : GS) : Ref (s91 true e v0 G) ((E orc).cl 91 [v0] G) :=
  fun r hr => cl_sxE_some Q orc (vs := [v0]) G Try.func91 (by kernel_rfl) (by kernel_rfl) (by kernel_rfl) (by kernel_rfl) (by kernel_rfl) (by kernel_rfl) (m91 h v0 G r hr)
/-- coxswain/stack.link -/
noncomputable def s93 (q : Bool) (e : Ex) (v0 : Value) (G : GS) : Option (Value × GS) :=
  bP (bd Q q 85 z85 [(0, 0, 1)] [v0]) fun x0 =>
  bS (e.ev.cl 123 [x0] G) fun x1 G2 =>
  bP (pExtract x1 0) fun x3 =>
  bP (pExtract x1 1) fun x4 =>
  some (x3, G2)
theorem m93 {e : Ex} {E : Ev} (h : ExLe Q e E) (v0 : Value) (G : GS) : Ref (s93 true e v0 G) (s93 false (Ex.of E) v0 G) := by
  unfold s93
  exact Ref.gq
theorem f93 {orc : FuncId → Bool} {e : Ex} (h : ExLe Q e (E orc)) (v0 : Value) (G : GS) : Ref (s93 true e v0 G) ((E orc).cl 93 [v0] G) :=
  fun r hr => cl_sxE_some Q orc (vs := [v0]) G Try.func93 (by kernel_rfl) (by kernel_rfl) (by kernel_rfl) (by kernel_rfl) (by kernel_rfl) (by kernel_rfl) (m93 h v0 G r hr)
/-- (coxswain/cells.deed).store -/
noncomputable def s94 (q : Bool) (e : Ex) (v0 : Value) (G : GS) : Option (Value × GS) :=
  bS (bx q v0 G) fun x0 G1 =>
  bP (fa Q q 179 1 1 x0) fun x2 =>
  bP (ld Q q 28 x2 G1) fun x3 =>
  some (.tuple #[x3, (.bool true)], G1)
theorem m94 {e : Ex} {E : Ev} (h : ExLe Q e E) (v0 : Value) (G : GS) : Ref (s94 true e v0 G) (s94 false (Ex.of E) v0 G) := by
  unfold s94
  exact Ref.gq
theorem f94 {orc : FuncId → Bool} {e : Ex} (h : ExLe Q e (E orc)) (v0 : Value) (G : GS) : Ref (s94 true e v0 G) ((E orc).cl 94 [v0] G) :=
  fun r hr => cl_sxE_some Q orc (vs := [v0]) G Try.func94 (by kernel_rfl) (by kernel_rfl) (by kernel_rfl) (by kernel_rfl) (by kernel_rfl) (by kernel_rfl) (m94 h v0 G r hr)
/-- coxswain/word.refs -/
noncomputable def s95 (q : Bool) (e : Ex) (G : GS) : Option (Value × GS) :=
  bS (al Q q 134 z134 G) fun x0 G1 =>
  bP (bd Q q 133 z133 [(0, 0, 1), (1, 1, 1)] [(.int .i64 0), (.int .i64 16)]) fun x2 =>
  bP (bd Q q 133 z133 [(0, 0, 1), (1, 1, 1)] [(.int .i64 16), (.int .i64 32)]) fun x3 =>
  bP (bd Q q 134 z134 [(0, 0, 2), (1, 2, 2)] [x2, x3]) fun x4 =>
  bP (st Q q 134 4 x0 x4 G1) fun G5 =>
  bP (lda Q q 134 4 x0 G5) fun x6 =>
  some (x6, G5)
theorem m95 {e : Ex} {E : Ev} (h : ExLe Q e E) (G : GS) : Ref (s95 true e  G) (s95 false (Ex.of E)  G) := by
  unfold s95
  exact Ref.gq
theorem f95 {orc : FuncId → Bool} {e : Ex} (h : ExLe Q e (E orc)) (ho : orc 95 = false) (G : GS) : Ref (s95 true e  G) ((E orc).cl 95 [] G) :=
  fun r hr => cl_sxE_some Q orc (vs := []) G Try.func95 (by kernel_rfl) (by kernel_rfl) ho (by kernel_rfl) (by kernel_rfl) (by kernel_rfl) (m95 h  G r hr)
/-- coxswain/word.Marked -/
noncomputable def s96 (q : Bool) (e : Ex) (v0 : Value) (G : GS) : Option (Value × GS) :=
  bP (bn Q q .shr 28 (.tmp 3) (.const (.int .u64 63)) v0 (.int .u64 63)) fun x0 =>
  bP (bn Q q .eql 28 (.tmp 4) (.const (.int .u64 1)) x0 (.int .u64 1)) fun x1 =>
  some (x1, G)
theorem m96 {e : Ex} {E : Ev} (h : ExLe Q e E) (v0 : Value) (G : GS) : Ref (s96 true e v0 G) (s96 false (Ex.of E) v0 G) := by
  unfold s96
  exact Ref.gq
theorem f96 {orc : FuncId → Bool} {e : Ex} (h : ExLe Q e (E orc)) (v0 : Value) (G : GS) : Ref (s96 true e v0 G) ((E orc).cl 96 [v0] G) :=
  fun r hr => cl_sxE_some Q orc (vs := [v0]) G Try.func96 (by kernel_rfl) (by kernel_rfl) (by kernel_rfl) (by kernel_rfl) (by kernel_rfl) (by kernel_rfl) (m96 h v0 G r hr)
/-- coxswain/word.PutRef -/
noncomputable def s97 (q : Bool) (e : Ex) (v0 : Value) (G : GS) : Option (Value × GS) :=
  bS (bx q v0 G) fun x0 G1 =>
  bP (fa Q q 128 0 0 x0) fun x2 =>
  bP (ld Q q 3 x2 G1) fun x3 =>
  bP (bd Q q 214 z214 [(0, 0, 1), (1, 1, 1), (2, 2, 1)] [x3, (.int .i64 (-1)), (.int .i64 65534)]) fun x4 =>
  bP (fa Q q 128 1 1 x0) fun x5 =>
  bP (ld Q q 3 x5 G1) fun x6 =>
  bP (bd Q q 214 z214 [(0, 0, 1), (1, 1, 1), (2, 2, 1)] [x6, (.int .i64 0), (.int .i64 4294967295)]) fun x7 =>
  bS (bs Q q 222 2 (rep z214 2) 3 [(0, 0, 3), (1, 3, 3)] [x4, x7] G1) fun x8 G9 =>
  bS (e.ev.cl 124 [x8] G9) fun x10 G11 =>
  bP (un Q q .not x10) fun x12 =>
  ifV x12 (
  some (.tuple #[(.int .u64 0), (.int .i64 3)], G11)) (
  bP (fa Q q 128 0 0 x0) fun x13 =>
  bP (ld Q q 3 x13 G11) fun x14 =>
  bP (bn Q q .eql 3 (.tmp 17) (.const (.int .i64 (-1))) x14 (.int .i64 (-1))) fun x15 =>
  bS (gd x15 true (bP (fa Q q 128 1 1 x0) fun y => some (y, G11)) G11) fun x16 G17 =>
  bS (gd x15 true (bP (ld Q q 3 x16 G17) fun y => some (y, G17)) G17) fun x18 G19 =>
  bS (gd x15 true (bP (bn Q q .neq 3 (.tmp 21) (.const (.int .i64 0)) x18 (.int .i64 0)) fun y => some (y, G19)) G19) fun x20 G21 =>
  bP (pickV x15 x20 (.bool false)) fun x22 =>
  ifV x22 (
  some (.tuple #[(.int .u64 0), (.int .i64 5)], G21)) (
  bS (e.ev.cl 95 [] G21) fun x23 G24 =>
  bS (al Q q 134 z134 G24) fun x25 G26 =>
  bP (st Q q 134 4 x25 x23 G26) fun G27 =>
  bP (sla Q q 134 2 2 x25 none none none (G27.room 13)) fun x28 =>
  bP (fa Q q 128 0 0 x0) fun x29 =>
  bP (ld Q q 3 x29 (G27.room 13)) fun x30 =>
  bP (bn Q q .add 3 (.tmp 27) (.const (.int .i64 1)) x30 (.int .i64 1)) fun x31 =>
  bP (fa Q q 128 1 1 x0) fun x32 =>
  bP (ld Q q 3 x32 (G27.room 13)) fun x33 =>
  bS (bs Q q 22 2 (rep z3 2) 1 [(0, 0, 1), (1, 1, 1)] [x31, x33] ((G27.room 13).at' (G27.nx + 6))) fun x34 G35 =>
  bS (e.ev.cl 126 [x28, x34] (G35.back (G27.room 13))) fun x37 G36 =>
  bP (fa Q q 128 2 2 x0) fun x38 =>
  bP (ld Q q 4 x38 G36) fun x39 =>
  chk ((sameO (ld Q q 4 x38 (G35.back (G27.room 13))) x39 && true)) <|
  bS (e.ev.cl 125 [x37, x39] G36) fun x41 G40 =>
  some (.tuple #[x41, (.int .i64 0)], G40)))
theorem m97 {e : Ex} {E : Ev} (h : ExLe Q e E) (v0 : Value) (G : GS) : Ref (s97 true e v0 G) (s97 false (Ex.of E) v0 G) := by
  unfold s97
  exact Ref.gq
theorem f97 {orc : FuncId → Bool} {e : Ex} (h : ExLe Q e (E orc)) (v0 : Value) (G : GS) : Ref (s97 true e v0 G) ((E orc).cl 97 [v0] G) :=
  fun r hr => cl_sxE_some Q orc (vs := [v0]) G Try.func97 (by kernel_rfl) (by kernel_rfl) (by kernel_rfl) (by kernel_rfl) (by kernel_rfl) (by kernel_rfl) (m97 h v0 G r hr)
/-- (*coxswain/stack.held).load -/
noncomputable def s113 (q : Bool) (e : Ex) (v0 v1 : Value) (G : GS) : Option (Value × GS) :=
  bP (pNil v0) fun x0 =>
  bP (fa Q q 165 0 0 x0) fun x1 =>
  bP (fa Q q 31 0 0 x1) fun x2 =>
  bP (ld Q q 3 x2 G) fun x3 =>
  bS (e.ev.cl 52 [v1, x3] G) fun x4 G5 =>
  bP (pNil v0) fun x6 =>
  bP (fa Q q 165 1 3 x6) fun x7 =>
  bP (st Q q 28 1 x7 x4 G5) fun G8 =>
  bP (pNil v0) fun x9 =>
  bP (fa Q q 165 0 0 x9) fun x10 =>
  bP (lda Q q 31 3 x10 (G8.room 10)) fun x11 =>
  bP (pNil v0) fun x12 =>
  bP (fa Q q 165 1 3 x12) fun x13 =>
  bP (ld Q q 28 x13 (G8.room 10)) fun x14 =>
  bS (e.ev.cl 132 [x11, x14] (G8.room 10)) fun x16 G15 =>
  some (x16, G15)
theorem m113 {e : Ex} {E : Ev} (h : ExLe Q e E) (v0 v1 : Value) (G : GS) : Ref (s113 true e v0 v1 G) (s113 false (Ex.of E) v0 v1 G) := by
  unfold s113
  exact Ref.gq
theorem f113 {orc : FuncId → Bool} {e : Ex} (h : ExLe Q e (E orc)) (v0 v1 : Value) (G : GS) : Ref (s113 true e v0 v1 G) ((E orc).cl 113 [v0, v1] G) :=
  fun r hr => cl_sxE_some Q orc (vs := [v0, v1]) G Try.func113 (by kernel_rfl) (by kernel_rfl) (by kernel_rfl) (by kernel_rfl) (by kernel_rfl) (by kernel_rfl) (m113 h v0 v1 G r hr)
/-- (*coxswain/stack.Push).second -/
noncomputable def s114 (q : Bool) (e : Ex) (v0 v1 : Value) (G : GS) : Option (Value × GS) :=
  bP (pNil v0) fun x0 =>
  bP (fa Q q 168 0 0 x0) fun x1 =>
  bP (fa Q q 165 0 0 x1) fun x2 =>
  bP (fa Q q 31 1 1 x2) fun x3 =>
  bP (ld Q q 3 x3 (G.room 20)) fun x4 =>
  bP (pNil v0) fun x5 =>
  bP (fa Q q 168 0 0 x5) fun x6 =>
  bP (fa Q q 165 2 4 x6) fun x7 =>
  bP (ld Q q 3 x7 (G.room 20)) fun x8 =>
  bP (bn Q q .add 3 (.tmp 10) (.tmp 15) x4 x8) fun x9 =>
  bP (pNil v0) fun x10 =>
  bP (fa Q q 168 0 0 x10) fun x11 =>
  bP (fa Q q 165 3 5 x11) fun x12 =>
  bP (ld Q q 3 x12 (G.room 20)) fun x13 =>
  bS (e.ev.cl 93 [x13] (G.room 20)) fun x15 G14 =>
  chk ((sameO (ld Q q 3 x7 G14) x8 && (sameO (ld Q q 3 x3 G14) x4 && true))) <|
  bS (e.ev.cl 57 [v1, x9, x15] G14) fun x17 G16 =>
  bP (pNil v0) fun x18 =>
  bP (fa Q q 168 1 9 x18) fun x19 =>
  bP (st Q q 166 1 x19 (.func (.func 133) #[] #[]) G16) fun G20 =>
  some (.tuple #[], G20)
theorem m114 {e : Ex} {E : Ev} (h : ExLe Q e E) (v0 v1 : Value) (G : GS) : Ref (s114 true e v0 v1 G) (s114 false (Ex.of E) v0 v1 G) := by
  unfold s114
  exact Ref.gq
theorem f114 {orc : FuncId → Bool} {e : Ex} (h : ExLe Q e (E orc)) (v0 v1 : Value) (G : GS) : Ref (s114 true e v0 v1 G) ((E orc).cl 114 [v0, v1] G) :=
  fun r hr => cl_sxE_some Q orc (vs := [v0, v1]) G Try.func114 (by kernel_rfl) (by kernel_rfl) (by kernel_rfl) (by kernel_rfl) (by kernel_rfl) (by kernel_rfl) (m114 h v0 v1 G r hr)
/-- (*coxswain/arena.Free).push -/
noncomputable def s115 (q : Bool) (e : Ex) (v0 v1 : Value) (G : GS) : Option (Value × GS) :=
  bP (pNil v0) fun x0 =>
  bP (fa Q q 110 0 0 x0) fun x1 =>
  bP (ld Q q 106 x1 G) fun x2 =>
  bS (e.ev.cl 134 [x2, v1] G) fun x3 G4 =>
  ifV x3 (
  bP (pNil v0) fun x5 =>
  bP (fa Q q 110 3 8 x5) fun x6 =>
  bP (st Q q 108 1 x6 .nilFunc G4) fun G7 =>
  some (.tuple #[], G7)) (
  some (.tuple #[], G4))
theorem m115 {e : Ex} {E : Ev} (h : ExLe Q e E) (v0 v1 : Value) (G : GS) : Ref (s115 true e v0 v1 G) (s115 false (Ex.of E) v0 v1 G) := by
  unfold s115
  exact Ref.gq
theorem f115 {orc : FuncId → Bool} {e : Ex} (h : ExLe Q e (E orc)) (v0 v1 : Value) (G : GS) : Ref (s115 true e v0 v1 G) ((E orc).cl 115 [v0, v1] G) :=
  fun r hr => cl_sxE_some Q orc (vs := [v0, v1]) G Try.func115 (by kernel_rfl) (by kernel_rfl) (by kernel_rfl) (by kernel_rfl) (by kernel_rfl) (by kernel_rfl) (m115 h v0 v1 G r hr)
/-- (*coxswain/cells.Mem).Add -/
noncomputable def s116 (q : Bool) (e : Ex) (v0 v1 v2 : Value) (G : GS) : Option (Value × GS) :=
  bS (e.ev.cl 88 [v0, v1] G) fun x0 G1 =>
  bP (bd Q q 179 z179 [(0, 0, 1), (1, 1, 1)] [x0, v2]) fun x2 =>
  bS (al Q q 179 z179 G1) fun x3 G4 =>
  bP (st Q q 179 3 x3 x2 G4) fun G5 =>
  bP (fa Q q 179 0 0 x3) fun x6 =>
  bP (ld Q q 176 x6 G5) fun x7 =>
  bP (lda Q q 179 3 x3 G5) fun x8 =>
  bS (e.ev.cl 89 [v0, (.int .i64 4), v1, x7, (.func (.func 135) #[x8] #[])] G5) fun x9 G10 =>
  bP (fd Q q 79 3 3 x9) fun x11 =>
  some (x11, G10)
theorem m116 {e : Ex} {E : Ev} (h : ExLe Q e E) (v0 v1 v2 : Value) (G : GS) : Ref (s116 true e v0 v1 v2 G) (s116 false (Ex.of E) v0 v1 v2 G) := by
  unfold s116
  exact Ref.gq
theorem f116 {orc : FuncId → Bool} {e : Ex} (h : ExLe Q e (E orc)) (v0 v1 v2 : Value) (G : GS) : Ref (s116 true e v0 v1 v2 G) ((E orc).cl 116 [v0, v1, v2] G) :=
  fun r hr => cl_sxE_some Q orc (vs := [v0, v1, v2]) G Try.func116 (by kernel_rfl) (by kernel_rfl) (by kernel_rfl) (by kernel_rfl) (by kernel_rfl) (by kernel_rfl) (m116 h v0 v1 v2 G r hr)
/-- (*coxswain/stack.Pop).first -/
noncomputable def s117 (q : Bool) (e : Ex) (v0 v1 : Value) (G : GS) : Option (Value × GS) :=
  bP (pNil v0) fun x0 =>
  bP (fa Q q 208 1 9 x0) fun x1 =>
  bP (st Q q 206 1 x1 (.func (.func 136) #[] #[]) G) fun G2 =>
  bP (pNil v0) fun x3 =>
  bP (fa Q q 208 0 0 x3) fun x4 =>
  bS (e.ev.cl 113 [x4, v1] G2) fun x5 G6 =>
  bP (pNil v0) fun x7 =>
  bP (fa Q q 208 0 0 x7) fun x8 =>
  bP (fa Q q 165 2 4 x8) fun x9 =>
  bP (st Q q 3 1 x9 x5 G6) fun G10 =>
  bP (pNil v0) fun x11 =>
  bP (fa Q q 208 0 0 x11) fun x12 =>
  bP (fa Q q 165 2 4 x12) fun x13 =>
  bP (ld Q q 3 x13 G10) fun x14 =>
  bP (bn Q q .lss 3 (.tmp 20) (.const (.int .i64 0)) x14 (.int .i64 0)) fun x15 =>
  ifV x15 (
  bP (pNil v0) fun x16 =>
  bP (fa Q q 208 0 0 x16) fun x17 =>
  bS (e.ev.cl 82 [x17, (.int .i64 15)] G10) fun x18 G19 =>
  some (.tuple #[], G19)) (
  some (.tuple #[], G10))
theorem m117 {e : Ex} {E : Ev} (h : ExLe Q e E) (v0 v1 : Value) (G : GS) : Ref (s117 true e v0 v1 G) (s117 false (Ex.of E) v0 v1 G) := by
  unfold s117
  exact Ref.gq
theorem f117 {orc : FuncId → Bool} {e : Ex} (h : ExLe Q e (E orc)) (v0 v1 : Value) (G : GS) : Ref (s117 true e v0 v1 G) ((E orc).cl 117 [v0, v1] G) :=
  fun r hr => cl_sxE_some Q orc (vs := [v0, v1]) G Try.func117 (by kernel_rfl) (by kernel_rfl) (by kernel_rfl) (by kernel_rfl) (by kernel_rfl) (by kernel_rfl) (m117 h v0 v1 G r hr)
/-- (*coxswain/stack.Pop).Step -/
noncomputable def s118 (q : Bool) (e : Ex) (v0 v1 : Value) (G : GS) : Option (Value × GS) :=
  bP (ep Q q false 171 (.tmp 5) (.const (.pointer none)) v0 (.pointer none)) fun x0 =>
  bS (gd x0 false (some (v0, G)) G) fun x1 G2 =>
  bS (gd x0 false (bP (pNil x1) fun y => some (y, G2)) G2) fun x3 G4 =>
  bS (gd x0 false (bP (fa Q q 208 0 0 x3) fun y => some (y, G4)) G4) fun x5 G6 =>
  bS (gd x0 false (bS (e.ev.cl 137 [x5] G6) fun y G => some (y, G)) G6) fun x7 G8 =>
  bP (pickV x0 (.bool true) x7) fun x9 =>
  ifV x9 (
  some ((.bool true), G8)) (
  bP (pNil v0) fun x10 =>
  bP (fa Q q 208 1 9 x10) fun x11 =>
  bP (ld Q q 206 x11 G8) fun x12 =>
  bS (cValue e.ev x12 [v0, v1] G8) fun x13 G14 =>
  bP (pNil v0) fun x15 =>
  bP (fa Q q 208 0 0 x15) fun x16 =>
  bP (fa Q q 165 5 7 x16) fun x17 =>
  bP (ld Q q 4 x17 G14) fun x18 =>
  some (x18, G14))
theorem m118 {e : Ex} {E : Ev} (h : ExLe Q e E) (v0 v1 : Value) (G : GS) : Ref (s118 true e v0 v1 G) (s118 false (Ex.of E) v0 v1 G) := by
  unfold s118
  exact Ref.gq
theorem f118 {orc : FuncId → Bool} {e : Ex} (h : ExLe Q e (E orc)) (v0 v1 : Value) (G : GS) : Ref (s118 true e v0 v1 G) ((E orc).cl 118 [v0, v1] G) :=
  fun r hr => cl_sxE_some Q orc (vs := [v0, v1]) G Try.func118 (by kernel_rfl) (by kernel_rfl) (by kernel_rfl) (by kernel_rfl) (by kernel_rfl) (by kernel_rfl) (m118 h v0 v1 G r hr)
/-- (*coxswain/stack.Pop).Index -/
noncomputable def s119 (q : Bool) (e : Ex) (v0 : Value) (G : GS) : Option (Value × GS) :=
  bP (ep Q q false 171 (.tmp 4) (.const (.pointer none)) v0 (.pointer none)) fun x0 =>
  ifV x0 (
  some (.tuple #[(.int .i64 0), (.int .i64 1)], G)) (
  bP (pNil v0) fun x1 =>
  bP (fa Q q 208 0 0 x1) fun x2 =>
  bS (e.ev.cl 138 [x2] G) fun x3 G4 =>
  bP (pExtract x3 0) fun x5 =>
  bP (pExtract x3 1) fun x6 =>
  some (.tuple #[x5, x6], G4))
theorem m119 {e : Ex} {E : Ev} (h : ExLe Q e E) (v0 : Value) (G : GS) : Ref (s119 true e v0 G) (s119 false (Ex.of E) v0 G) := by
  unfold s119
  exact Ref.gq
theorem f119 {orc : FuncId → Bool} {e : Ex} (h : ExLe Q e (E orc)) (v0 : Value) (G : GS) : Ref (s119 true e v0 G) ((E orc).cl 119 [v0] G) :=
  fun r hr => cl_sxE_some Q orc (vs := [v0]) G Try.func119 (by kernel_rfl) (by kernel_rfl) (by kernel_rfl) (by kernel_rfl) (by kernel_rfl) (by kernel_rfl) (m119 h v0 G r hr)
/-- (*coxswain/arena.Alloc).gives -/
noncomputable def s120 (q : Bool) (e : Ex) (v0 v1 : Value) (G : GS) : Option (Value × GS) :=
  bP (pNil v0) fun x0 =>
  bP (fa Q q 175 4 9 x0) fun x1 =>
  bP (ld Q q 3 x1 (G.room 26)) fun x2 =>
  bP (pNil v0) fun x3 =>
  bP (fa Q q 175 1 1 x3) fun x4 =>
  bP (fa Q q 33 1 3 x4) fun x5 =>
  bP (ld Q q 3 x5 (G.room 26)) fun x6 =>
  bP (pNil v0) fun x7 =>
  bP (fa Q q 175 4 9 x7) fun x8 =>
  bP (ld Q q 3 x8 (G.room 26)) fun x9 =>
  bP (bn Q q .add 3 (.tmp 15) (.tmp 19) x6 x9) fun x10 =>
  bS (e.ev.cl 52 [v1, x10] (G.room 26)) fun x12 G11 =>
  chk ((sameO (ld Q q 3 x1 G11) x2 && true)) <|
  bS (e.ev.cl 84 [x12] G11) fun x14 G13 =>
  chk ((sameO (ld Q q 3 x1 G13) x2 && true)) <|
  bP (bd Q q 128 z128 [(0, 0, 1), (1, 1, 1)] [x2, x14]) fun x15 =>
  bS (e.ev.cl 97 [x15] G13) fun x17 G16 =>
  bP (pExtract x17 0) fun x18 =>
  bP (pExtract x17 1) fun x19 =>
  bP (pNil v0) fun x20 =>
  bP (fa Q q 175 5 10 x20) fun x21 =>
  bP (st Q q 28 1 x21 x18 G16) fun G22 =>
  bP (pNil v0) fun x23 =>
  bP (fa Q q 175 3 8 x23) fun x24 =>
  bP (st Q q 173 1 x24 .nilFunc G22) fun G25 =>
  some (.tuple #[], G25)
theorem m120 {e : Ex} {E : Ev} (h : ExLe Q e E) (v0 v1 : Value) (G : GS) : Ref (s120 true e v0 v1 G) (s120 false (Ex.of E) v0 v1 G) := by
  unfold s120
  exact Ref.gq
theorem f120 {orc : FuncId → Bool} {e : Ex} (h : ExLe Q e (E orc)) (v0 v1 : Value) (G : GS) : Ref (s120 true e v0 v1 G) ((E orc).cl 120 [v0, v1] G) :=
  fun r hr => cl_sxE_some Q orc (vs := [v0, v1]) G Try.func120 (by kernel_rfl) (by kernel_rfl) (by kernel_rfl) (by kernel_rfl) (by kernel_rfl) (by kernel_rfl) (m120 h v0 v1 G r hr)
noncomputable def jb121_0 (q : Bool) (e : Ex) (τ : Env) (G : GS) : Option (Value × GS) :=
  bV q (τ 0) fun a0_ =>
  bP (pNil a0_) fun x3 =>
  bP (fa Q q 175 3 8 x3) fun x4 =>
  bP (st Q q 173 1 x4 .nilFunc G) fun G5 =>
  some (.tuple #[], G5)
noncomputable def j121_0 (q : Bool) (e : Ex) (τ : Env) (G : GS) : Option (Value × GS) := jb121_0 q e τ G
theorem mj121_0 {e : Ex} {E : Ev} (h : ExLe Q e E) (τ : Env) (G : GS) : Ref (j121_0 true e τ G) (j121_0 false (Ex.of E) τ G) := by
  unfold j121_0 jb121_0
  exact Ref.gq
theorem mkj121_0 {e : Ex} {E : Ev} (h : ExLe Q e E) {τ : Env} {l U : List (Nat × Value)} {G : GS} (hU : UOk τ U) : Ref (j121_0 true e (xq true 28 τ l U) G) (j121_0 false (Ex.of E) (xq false 28 τ l U) G) := by
  rw [xq_eq hU]
  exact mj121_0 h _ _
noncomputable def sb121 (q : Bool) (e : Ex) (J0 : Env → GS → Option (Value × GS)) (v0 v1 : Value) (G : GS) : Option (Value × GS) :=
  bP (pNil v0) fun x0 =>
  bP (fa Q q 175 6 11 x0) fun x1 =>
  bP (st Q q 41 1 x1 (.int .i64 7) G) fun G2 =>
  bP (pNil v0) fun x6 =>
  bP (fa Q q 175 1 1 x6) fun x7 =>
  bP (fa Q q 33 2 4 x7) fun x8 =>
  bP (ld Q q 3 x8 (G2.room 15)) fun x9 =>
  bS (e.ev.cl 52 [v1, x9] (G2.room 15)) fun x11 G10 =>
  bP (pNil v0) fun x12 =>
  bP (fa Q q 175 1 1 x12) fun x13 =>
  bP (fa Q q 33 0 0 x13) fun x14 =>
  bP (fa Q q 31 2 2 x14) fun x15 =>
  bP (ld Q q 3 x15 G10) fun x16 =>
  chk ((sameO (ld Q q 3 x15 (G2.room 15)) x16 && true)) <|
  bP (cv Q q 3 28 .i64 .u64 x16) fun x17 =>
  bP (bn Q q .geq 28 (.tmp 13) (.tmp 20) x11 x17) fun x18 =>
  ifV x18 (
  bP (pNil v0) fun x19 =>
  bP (fa Q q 175 6 11 x19) fun x20 =>
  bP (st Q q 41 1 x20 (.int .i64 12) G10) fun G21 =>
  J0 (xq q 28 (nth undef [v0, v1]) [(24, x20), (23, x19), (22, v0), (21, x18), (20, x17), (19, x16), (18, x15), (17, x14), (16, x13), (15, x12), (14, v0), (13, x11), (12, x9), (11, x8), (10, x7), (9, x6), (8, v0), (7, v1), (6, x1), (5, x0), (4, v0)] []) G21) (
  J0 (xq q 28 (nth undef [v0, v1]) [(21, x18), (20, x17), (19, x16), (18, x15), (17, x14), (16, x13), (15, x12), (14, v0), (13, x11), (12, x9), (11, x8), (10, x7), (9, x6), (8, v0), (7, v1), (6, x1), (5, x0), (4, v0)] []) G10)
/-- (*coxswain/arena.Alloc).lacks -/
noncomputable def s121 (q : Bool) (e : Ex) (v0 v1 : Value) (G : GS) : Option (Value × GS) := sb121 q e (j121_0 q e) v0 v1 G
theorem m121 {e : Ex} {E : Ev} (h : ExLe Q e E) (v0 v1 : Value) (G : GS) : Ref (s121 true e v0 v1 G) (s121 false (Ex.of E) v0 v1 G) := by
  unfold s121 sb121
  repeat' (with_reducible first | exact Ref.rfl' _ | exact ROp.r | refine Ref.bP ?_ fun _ => ?_ | refine Ref.bS ?_ fun _ _ => ?_ | exact Ref.cl (by assumption) | refine Ref.ifV ?_ ?_ | refine LpLe.rx (by assumption) ?_ | refine Ref.xitq ?_ | exact UOk.z | refine UOk.c (by assumption) ?_ | exact Ref.nil _ | refine Ref.bVe fun _ _ => ?_ | refine Ref.bLq (by assumption) ?_ fun _ _ _ => ?_ | refine Ref.ifE ?_ ?_ | refine Ref.chk ?_ ?_ | refine Imp.and ?_ ?_ | refine Imp.or ?_ | exact Imp.rfl' _ | refine Imp.sameO ?_ | refine Ref.gd ?_ | exact Ref.cValue (by assumption) | refine Ref.bX ?_ fun _ _ _ => ?_ | exact Ref.scQ (by assumption) | exact Ref.xRangeQ (by assumption) | exact Ref.cInvoke (by assumption) | refine mkj121_0 (by assumption) ?_)
noncomputable def jt121 (J0 : Env → GS → Option (Value × GS)) : JT (Value × GS) :=
  (.n none .e (.n (some (fun T G => J0 (nth undef T) G)) .e .e))
theorem jr121_0 (orc : FuncId → Bool) (J0 : Env → GS → Option (Value × GS)) (T : List Value) (G : GS) : runC Q (evL Q orc) Try.f121.ntmps (jt121 J0) (bodyOf Try.f121) (retE Q Try.f121.results.toList) [true] (nth undef T) G = jb121_0 false (Ex.of (E orc))  (nth undef T) G := by kernel_rfl
theorem jo121 (orc : FuncId → Bool) : JOk Q orc Try.f121.ntmps (jt121 (j121_0 false (Ex.of (E orc))) ) (bodyOf Try.f121) (retE Q Try.f121.results.toList) :=
  jOk Q orc (l := [([true], (fun T G => j121_0 false (Ex.of (E orc)) (nth undef T) G))]) (by kernel_rfl) (AllE.c (fun T G => jr121_0 orc (j121_0 false (Ex.of (E orc))) T G) (AllE.z))
theorem je121 (orc : FuncId → Bool) (J0 : Env → GS → Option (Value × GS)) (v0 v1 : Value) (G : GS) : sxC Q (evL Q orc) Try.f121.ntmps (jt121 J0) (bodyOf Try.f121) (nth undef [v0, v1]) G (retE Q Try.f121.results.toList) = sb121 false (Ex.of (E orc)) J0 v0 v1 G := by kernel_rfl
theorem f121 {orc : FuncId → Bool} {e : Ex} (h : ExLe Q e (E orc)) (v0 v1 : Value) (G : GS) : Ref (s121 true e v0 v1 G) ((E orc).cl 121 [v0, v1] G) :=
  fun r hr => cl_sxC Q orc (vs := [v0, v1]) G (jt121 (j121_0 false (Ex.of (E orc))) ) Try.func121 (by kernel_rfl) (by kernel_rfl) (by kernel_rfl) (by kernel_rfl) (by kernel_rfl) (jo121 orc) (je121 orc (j121_0 false (Ex.of (E orc))) v0 v1 G) (m121 h v0 v1 G r hr)
/-- (*coxswain/cells.place).is -/
noncomputable def s122 (q : Bool) (e : Ex) (v0 : Value) (G : GS) : Option (Value × GS) :=
  bP (ep Q q true 176 (.tmp 3) (.const (.pointer none)) v0 (.pointer none)) fun x0 =>
  some (x0, G)
theorem m122 {e : Ex} {E : Ev} (h : ExLe Q e E) (v0 : Value) (G : GS) : Ref (s122 true e v0 G) (s122 false (Ex.of E) v0 G) := by
  unfold s122
  exact Ref.gq
theorem f122 {orc : FuncId → Bool} {e : Ex} (h : ExLe Q e (E orc)) (v0 : Value) (G : GS) : Ref (s122 true e v0 G) ((E orc).cl 122 [v0] G) :=
  fun r hr => cl_sxE_some Q orc (vs := [v0]) G Try.func122 (by kernel_rfl) (by kernel_rfl) (by kernel_rfl) (by kernel_rfl) (by kernel_rfl) (by kernel_rfl) (m122 h v0 G r hr)
/-- coxswain/word.PutTop -/
noncomputable def s123 (q : Bool) (e : Ex) (v0 : Value) (G : GS) : Option (Value × GS) :=
  bS (bx q v0 G) fun x0 G1 =>
  bP (fa Q q 85 0 0 x0) fun x2 =>
  bP (ld Q q 3 x2 G1) fun x3 =>
  bP (bd Q q 214 z214 [(0, 0, 1), (1, 1, 1), (2, 2, 1)] [x3, (.int .i64 (-1)), (.int .i64 65534)]) fun x4 =>
  bP (fa Q q 85 1 1 x0) fun x5 =>
  bP (ld Q q 3 x5 G1) fun x6 =>
  bP (bd Q q 214 z214 [(0, 0, 1), (1, 1, 1), (2, 2, 1)] [x6, (.int .i64 0), (.int .i64 281474976710655)]) fun x7 =>
  bS (bs Q q 222 2 (rep z214 2) 3 [(0, 0, 3), (1, 3, 3)] [x4, x7] G1) fun x8 G9 =>
  bS (e.ev.cl 124 [x8] G9) fun x10 G11 =>
  bP (un Q q .not x10) fun x12 =>
  ifV x12 (
  some (.tuple #[(.int .u64 0), (.int .i64 3)], G11)) (
  bS (e.ev.cl 60 [] G11) fun x13 G14 =>
  bS (al Q q 134 z134 G14) fun x15 G16 =>
  bP (st Q q 134 4 x15 x13 G16) fun G17 =>
  bP (sla Q q 134 2 2 x15 none none none (G17.room 10)) fun x18 =>
  bP (fa Q q 85 0 0 x0) fun x19 =>
  bP (ld Q q 3 x19 (G17.room 10)) fun x20 =>
  bP (bn Q q .add 3 (.tmp 17) (.const (.int .i64 1)) x20 (.int .i64 1)) fun x21 =>
  bP (fa Q q 85 1 1 x0) fun x22 =>
  bP (ld Q q 3 x22 (G17.room 10)) fun x23 =>
  bS (bs Q q 22 2 (rep z3 2) 1 [(0, 0, 1), (1, 1, 1)] [x21, x23] ((G17.room 10).at' (G17.nx + 6))) fun x24 G25 =>
  bS (e.ev.cl 126 [x18, x24] (G25.back (G17.room 10))) fun x27 G26 =>
  some (.tuple #[x27, (.int .i64 0)], G26))
theorem m123 {e : Ex} {E : Ev} (h : ExLe Q e E) (v0 : Value) (G : GS) : Ref (s123 true e v0 G) (s123 false (Ex.of E) v0 G) := by
  unfold s123
  exact Ref.gq
theorem f123 {orc : FuncId → Bool} {e : Ex} (h : ExLe Q e (E orc)) (v0 : Value) (G : GS) : Ref (s123 true e v0 G) ((E orc).cl 123 [v0] G) :=
  fun r hr => cl_sxE_some Q orc (vs := [v0]) G Try.func123 (by kernel_rfl) (by kernel_rfl) (by kernel_rfl) (by kernel_rfl) (by kernel_rfl) (by kernel_rfl) (m123 h v0 G r hr)
noncomputable def b124_0 (q : Bool) (e : Ex) (lp : Env → GS → Option (Exit × Env × GS)) (τ : Env) (G : GS) : Option (Exit × Env × GS) :=
  bV q (τ 5) fun a5_ =>
  bV q (τ 6) fun a6_ =>
  bV q (τ 7) fun a7_ =>
  bP (bn Q q .lss 3 (.tmp 7) (.tmp 6) a7_ a6_) fun x0 =>
  ifV x0 (
  bP (ias Q q 222 3 a5_ a7_) fun x1 =>
  bP (lda Q q 214 3 x1 G) fun x2 =>
  bS (al Q q 214 z214 G) fun x3 G4 =>
  bP (st Q q 214 3 x3 x2 G4) fun G5 =>
  bP (fa Q q 214 0 0 x3) fun x6 =>
  bP (ld Q q 3 x6 G5) fun x7 =>
  bP (fa Q q 214 1 1 x3) fun x8 =>
  bP (ld Q q 3 x8 G5) fun x9 =>
  bP (bn Q q .lss 3 (.tmp 12) (.tmp 14) x7 x9) fun x10 =>
  bS (gd x10 false (bP (fa Q q 214 0 0 x3) fun y => some (y, G5)) G5) fun x11 G12 =>
  bS (gd x10 false (bP (ld Q q 3 x11 G12) fun y => some (y, G12)) G12) fun x13 G14 =>
  bS (gd x10 false (bP (fa Q q 214 2 2 x3) fun y => some (y, G14)) G14) fun x15 G16 =>
  bS (gd x10 false (bP (ld Q q 3 x15 G16) fun y => some (y, G16)) G16) fun x17 G18 =>
  bS (gd x10 false (bP (bn Q q .gtr 3 (.tmp 18) (.tmp 20) x13 x17) fun y => some (y, G18)) G18) fun x19 G20 =>
  bP (pickV x10 (.bool true) x19) fun x21 =>
  ifV x21 (
  some (.ret, xq q 24 τ [(2, (.bool false)), (22, x21), (21, x19), (20, x17), (19, x15), (18, x13), (17, x11), (16, x10), (15, x10), (14, x9), (13, x8), (12, x7), (11, x6), (4, x3), (10, x2), (9, x1), (8, x0)] [(5, a5_), (6, a6_), (7, a7_)], G20)) (
  bP (bn Q q .add 3 (.tmp 7) (.const (.int .i64 1)) a7_ (.int .i64 1)) fun x22 =>
  lp (xq q 24 τ [(7, x22), (23, x22), (22, x21), (21, x19), (20, x17), (19, x15), (18, x13), (17, x11), (16, x10), (15, x10), (14, x9), (13, x8), (12, x7), (11, x6), (4, x3), (10, x2), (9, x1), (8, x0)] [(5, a5_), (6, a6_)]) G20)) (
  some ((.exit 0), xq q 24 τ [(8, x0)] [(5, a5_), (6, a6_), (7, a7_)], G))
theorem mb124_0 {e : Ex} {E : Ev} (h : ExLe Q e E) {lp lp' : Env → GS → Option (Exit × Env × GS)} (hlp : LpLe lp lp') (τ : Env) (G : GS) : Ref (b124_0 true e lp τ G) (b124_0 false (Ex.of E) lp' τ G) := by
  unfold b124_0
  exact Ref.gq
theorem l124_0 {orc : FuncId → Bool} {e : Ex} (h : ExLe Q e (E orc)) (lp : Env → GS → Option (Exit × Env × GS)) (hlp : ∀ τ G, Ref (lp τ G) (mapE ((E orc).lp (subAt [1, 0, 1, 0, 0] (bodyOf Try.f124)) (lst 24 τ) G))) (T : List Value) (G : GS) (hT : T.length = 24) : Ref (b124_0 true e lp (nth undef T) G) (mapE ((E orc).lp (subAt [1, 0, 1, 0, 0] (bodyOf Try.f124)) T G)) :=
  fun r hr => lp_sxN Q orc G hT (by kernel_rfl) (mb124_0 h ⟨hlp⟩ _ _ r hr)
/-- coxswain/word.within -/
noncomputable def s124 (q : Bool) (e : Ex) (v0 : Value) (G : GS) : Option (Value × GS) :=
  bP (ln Q q 222 v0) fun x0 =>
  bLq q e 124 0 (subAt [1, 0, 1, 0, 0] (bodyOf Try.f124)) 24 (nth undef [v0]) [(7, (.int .i64 0)), (6, x0), (5, v0), (2, (.bool false))] [] G fun e1 t2 G3 =>
  bV q (t2 2) fun t2x2_ =>
  ifE e1 (.exit 0) (
  some ((.bool true), G3)) (ifE e1 .ret (
  some (t2x2_, G3)) (none))
theorem m124 {e : Ex} {E : Ev} (h : ExLe Q e E) (v0 : Value) (G : GS) : Ref (s124 true e v0 G) (s124 false (Ex.of E) v0 G) := by
  unfold s124
  exact Ref.gq
theorem f124 {orc : FuncId → Bool} {e : Ex} (h : ExLe Q e (E orc)) (v0 : Value) (G : GS) : Ref (s124 true e v0 G) ((E orc).cl 124 [v0] G) :=
  fun r hr => cl_sxE_some Q orc (vs := [v0]) G Try.func124 (by kernel_rfl) (by kernel_rfl) (by kernel_rfl) (by kernel_rfl) (by kernel_rfl) (by kernel_rfl) (m124 h v0 G r hr)
/-- coxswain/word.Marks -/
noncomputable def s125 (q : Bool) (e : Ex) (v0 v1 : Value) (G : GS) : Option (Value × GS) :=
  ifV v1 (
  bP (bn Q q .or 28 (.tmp 6) (.const (.int .u64 9223372036854775808)) v0 (.int .u64 9223372036854775808)) fun x0 =>
  some (x0, G)) (
  bP (bn Q q .andNot 28 (.tmp 8) (.const (.int .u64 9223372036854775808)) v0 (.int .u64 9223372036854775808)) fun x1 =>
  some (x1, G))
theorem m125 {e : Ex} {E : Ev} (h : ExLe Q e E) (v0 v1 : Value) (G : GS) : Ref (s125 true e v0 v1 G) (s125 false (Ex.of E) v0 v1 G) := by
  unfold s125
  exact Ref.gq
theorem f125 {orc : FuncId → Bool} {e : Ex} (h : ExLe Q e (E orc)) (v0 v1 : Value) (G : GS) : Ref (s125 true e v0 v1 G) ((E orc).cl 125 [v0, v1] G) :=
  fun r hr => cl_sxE_some Q orc (vs := [v0, v1]) G Try.func125 (by kernel_rfl) (by kernel_rfl) (by kernel_rfl) (by kernel_rfl) (by kernel_rfl) (by kernel_rfl) (m125 h v0 v1 G r hr)
noncomputable def b126_0 (q : Bool) (e : Ex) (lp : Env → GS → Option (Exit × Env × GS)) (τ : Env) (G : GS) : Option (Exit × Env × GS) :=
  bV q (τ 1) fun a1_ =>
  bV q (τ 5) fun a5_ =>
  bV q (τ 8) fun a8_ =>
  bV q (τ 9) fun a9_ =>
  bV q (τ 10) fun a10_ =>
  bP (bn Q q .lss 3 (.tmp 10) (.tmp 9) a10_ a9_) fun x0 =>
  ifV x0 (
  bP (ias Q q 217 2 a8_ a10_) fun x1 =>
  bP (lda Q q 133 2 x1 G) fun x2 =>
  bS (al Q q 133 z133 G) fun x3 G4 =>
  bP (st Q q 133 2 x3 x2 G4) fun G5 =>
  bP (lda Q q 133 2 x3 (G5.room 8)) fun x6 =>
  bP (ias Q q 22 1 a1_ a10_) fun x7 =>
  bP (ld Q q 3 x7 (G5.room 8)) fun x8 =>
  bS (e.ev.cl 139 [a5_, x6, x8] (G5.room 8)) fun x10 G9 =>
  bP (bn Q q .add 3 (.tmp 10) (.const (.int .i64 1)) a10_ (.int .i64 1)) fun x11 =>
  lp (xq q 24 τ [(10, x11), (22, x11), (5, x10), (21, x10), (20, x8), (19, x7), (18, a10_), (17, a1_), (16, x6), (15, a5_), (6, a10_), (7, x3), (14, x2), (13, x1), (12, a10_), (11, x0)] [(1, a1_), (8, a8_), (9, a9_)]) G9) (
  some ((.exit 0), xq q 24 τ [(11, x0)] [(1, a1_), (5, a5_), (8, a8_), (9, a9_), (10, a10_)], G))
theorem mb126_0 {e : Ex} {E : Ev} (h : ExLe Q e E) {lp lp' : Env → GS → Option (Exit × Env × GS)} (hlp : LpLe lp lp') (τ : Env) (G : GS) : Ref (b126_0 true e lp τ G) (b126_0 false (Ex.of E) lp' τ G) := by
  unfold b126_0
  exact Ref.gq
theorem l126_0 {orc : FuncId → Bool} {e : Ex} (h : ExLe Q e (E orc)) (lp : Env → GS → Option (Exit × Env × GS)) (hlp : ∀ τ G, Ref (lp τ G) (mapE ((E orc).lp (subAt [1, 1, 0, 1, 0, 0] (bodyOf Try.f126)) (lst 24 τ) G))) (T : List Value) (G : GS) (hT : T.length = 24) : Ref (b126_0 true e lp (nth undef T) G) (mapE ((E orc).lp (subAt [1, 1, 0, 1, 0, 0] (bodyOf Try.f126)) T G)) :=
  fun r hr => lp_sxN Q orc G hT (by kernel_rfl) (mb126_0 h ⟨hlp⟩ _ _ r hr)
/-- coxswain/word.lay -/
noncomputable def s126 (q : Bool) (e : Ex) (v0 v1 : Value) (G : GS) : Option (Value × GS) :=
  bP (ln Q q 217 v0) fun x0 =>
  bLq q e 126 0 (subAt [1, 1, 0, 1, 0, 0] (bodyOf Try.f126)) 24 (nth undef [v0, v1]) [(10, (.int .i64 0)), (9, x0), (8, v0), (5, (.int .u64 0)), (4, (.int .u64 0))] [] G fun e1 t2 G3 =>
  bV q (t2 5) fun t2x5_ =>
  ifE e1 (.exit 0) (
  some (t2x5_, G3)) (none)
theorem m126 {e : Ex} {E : Ev} (h : ExLe Q e E) (v0 v1 : Value) (G : GS) : Ref (s126 true e v0 v1 G) (s126 false (Ex.of E) v0 v1 G) := by
  unfold s126
  exact Ref.gq
theorem f126 {orc : FuncId → Bool} {e : Ex} (h : ExLe Q e (E orc)) (v0 v1 : Value) (G : GS) : Ref (s126 true e v0 v1 G) ((E orc).cl 126 [v0, v1] G) :=
  fun r hr => cl_sxE_some Q orc (vs := [v0, v1]) G Try.func126 (by kernel_rfl) (by kernel_rfl) (by kernel_rfl) (by kernel_rfl) (by kernel_rfl) (by kernel_rfl) (m126 h v0 v1 G r hr)
/-- coxswain/stack.read -/
noncomputable def s132 (q : Bool) (e : Ex) (v0 v1 : Value) (G : GS) : Option (Value × GS) :=
  bS (bx q v0 G) fun x0 G1 =>
  bS (e.ev.cl 27 [v1] G1) fun x2 G3 =>
  bP (pExtract x2 0) fun x4 =>
  bP (pExtract x2 1) fun x5 =>
  bS (al Q q 85 z85 G3) fun x6 G7 =>
  bP (st Q q 85 2 x6 x4 G7) fun G8 =>
  bP (fa Q q 85 0 0 x6) fun x9 =>
  bP (ld Q q 3 x9 G8) fun x10 =>
  bP (fa Q q 31 2 2 x0) fun x11 =>
  bP (ld Q q 3 x11 G8) fun x12 =>
  bP (bn Q q .geq 3 (.tmp 13) (.tmp 15) x10 x12) fun x13 =>
  ifV x13 (
  some ((.int .i64 (-1)), G8)) (
  bP (fa Q q 85 0 0 x6) fun x14 =>
  bP (ld Q q 3 x14 G8) fun x15 =>
  some (x15, G8))
theorem m132 {e : Ex} {E : Ev} (h : ExLe Q e E) (v0 v1 : Value) (G : GS) : Ref (s132 true e v0 v1 G) (s132 false (Ex.of E) v0 v1 G) := by
  unfold s132
  exact Ref.gq
theorem f132 {orc : FuncId → Bool} {e : Ex} (h : ExLe Q e (E orc)) (v0 v1 : Value) (G : GS) : Ref (s132 true e v0 v1 G) ((E orc).cl 132 [v0, v1] G) :=
  fun r hr => cl_sxE_some Q orc (vs := [v0, v1]) G Try.func132 (by kernel_rfl) (by kernel_rfl) (by kernel_rfl) (by kernel_rfl) (by kernel_rfl) (by kernel_rfl) (m132 h v0 v1 G r hr)
/-- (*coxswain/stack.Push).third -/
noncomputable def s133 (q : Bool) (e : Ex) (v0 v1 : Value) (G : GS) : Option (Value × GS) :=
  bP (pNil v0) fun x0 =>
  bP (fa Q q 168 1 9 x0) fun x1 =>
  bP (st Q q 166 1 x1 (.func (.func 81) #[] #[]) G) fun G2 =>
  bP (pNil v0) fun x3 =>
  bP (fa Q q 168 0 0 x3) fun x4 =>
  bP (pNil v0) fun x5 =>
  bP (fa Q q 168 0 0 x5) fun x6 =>
  bP (fa Q q 165 2 4 x6) fun x7 =>
  bP (ld Q q 3 x7 (G2.room 10)) fun x8 =>
  bS (e.ev.cl 145 [x4, v1, x8] (G2.room 10)) fun x10 G9 =>
  ifV x10 (
  bP (pNil v0) fun x11 =>
  bP (fa Q q 168 0 0 x11) fun x12 =>
  bS (e.ev.cl 82 [x12, (.int .i64 0)] G9) fun x13 G14 =>
  some (.tuple #[], G14)) (
  some (.tuple #[], G9))
theorem m133 {e : Ex} {E : Ev} (h : ExLe Q e E) (v0 v1 : Value) (G : GS) : Ref (s133 true e v0 v1 G) (s133 false (Ex.of E) v0 v1 G) := by
  unfold s133
  exact Ref.gq
theorem f133 {orc : FuncId → Bool} {e : Ex} (h : ExLe Q e (E orc)) (v0 v1 : Value) (G : GS) : Ref (s133 true e v0 v1 G) ((E orc).cl 133 [v0, v1] G) :=
  fun r hr => cl_sxE_some Q orc (vs := [v0, v1]) G Try.func133 (by kernel_rfl) (by kernel_rfl) (by kernel_rfl) (by kernel_rfl) (by kernel_rfl) (by kernel_rfl) (m133 h v0 v1 G r hr)
/-- (*coxswain/stack.Push).Step -/
noncomputable def s134 (q : Bool) (e : Ex) (v0 v1 : Value) (G : GS) : Option (Value × GS) :=
  bP (ep Q q false 106 (.tmp 5) (.const (.pointer none)) v0 (.pointer none)) fun x0 =>
  bS (gd x0 false (some (v0, G)) G) fun x1 G2 =>
  bS (gd x0 false (bP (pNil x1) fun y => some (y, G2)) G2) fun x3 G4 =>
  bS (gd x0 false (bP (fa Q q 168 0 0 x3) fun y => some (y, G4)) G4) fun x5 G6 =>
  bS (gd x0 false (bS (e.ev.cl 137 [x5] G6) fun y G => some (y, G)) G6) fun x7 G8 =>
  bP (pickV x0 (.bool true) x7) fun x9 =>
  ifV x9 (
  some ((.bool true), G8)) (
  bP (pNil v0) fun x10 =>
  bP (fa Q q 168 1 9 x10) fun x11 =>
  bP (ld Q q 166 x11 G8) fun x12 =>
  bS (cValue e.ev x12 [v0, v1] G8) fun x13 G14 =>
  bP (pNil v0) fun x15 =>
  bP (fa Q q 168 0 0 x15) fun x16 =>
  bP (fa Q q 165 5 7 x16) fun x17 =>
  bP (ld Q q 4 x17 G14) fun x18 =>
  some (x18, G14))
theorem m134 {e : Ex} {E : Ev} (h : ExLe Q e E) (v0 v1 : Value) (G : GS) : Ref (s134 true e v0 v1 G) (s134 false (Ex.of E) v0 v1 G) := by
  unfold s134
  exact Ref.gq
theorem f134 {orc : FuncId → Bool} {e : Ex} (h : ExLe Q e (E orc)) (v0 v1 : Value) (G : GS) : Ref (s134 true e v0 v1 G) ((E orc).cl 134 [v0, v1] G) :=
  fun r hr => cl_sxE_some Q orc (vs := [v0, v1]) G Try.func134 (by kernel_rfl) (by kernel_rfl) (by kernel_rfl) (by kernel_rfl) (by kernel_rfl) (by kernel_rfl) (m134 h v0 v1 G r hr)
/-- (coxswain/cells.deed).add -/
noncomputable def s135 (q : Bool) (e : Ex) (v0 : Value) (G : GS) : Option (Value × GS) :=
  bS (bx q v0 G) fun x0 G1 =>
  bP (fa Q q 179 0 0 x0) fun x2 =>
  bP (ld Q q 176 x2 (G1.room 9)) fun x3 =>
  bP (pNil x3) fun x4 =>
  bP (ld Q q 83 x4 (G1.room 9)) fun x5 =>
  bP (fa Q q 179 1 1 x0) fun x6 =>
  bP (ld Q q 28 x6 (G1.room 9)) fun x7 =>
  bP (bn Q q .add 28 (.tmp 7) (.tmp 9) x5 x7) fun x8 =>
  some (.tuple #[x8, (.bool true)], (G1.room 9))
theorem m135 {e : Ex} {E : Ev} (h : ExLe Q e E) (v0 : Value) (G : GS) : Ref (s135 true e v0 G) (s135 false (Ex.of E) v0 G) := by
  unfold s135
  exact Ref.gq
theorem f135 {orc : FuncId → Bool} {e : Ex} (h : ExLe Q e (E orc)) (v0 : Value) (G : GS) : Ref (s135 true e v0 G) ((E orc).cl 135 [v0] G) :=
  fun r hr => cl_sxE_some Q orc (vs := [v0]) G Try.func135 (by kernel_rfl) (by kernel_rfl) (by kernel_rfl) (by kernel_rfl) (by kernel_rfl) (by kernel_rfl) (m135 h v0 G r hr)
/-- (*coxswain/stack.Pop).second -/
noncomputable def s136 (q : Bool) (e : Ex) (v0 v1 : Value) (G : GS) : Option (Value × GS) :=
  bP (pNil v0) fun x0 =>
  bP (fa Q q 208 0 0 x0) fun x1 =>
  bP (fa Q q 165 0 0 x1) fun x2 =>
  bP (lda Q q 31 3 x2 (G.room 25)) fun x3 =>
  bP (pNil v0) fun x4 =>
  bP (fa Q q 208 0 0 x4) fun x5 =>
  bP (fa Q q 165 0 0 x5) fun x6 =>
  bP (fa Q q 31 1 1 x6) fun x7 =>
  bP (ld Q q 3 x7 (G.room 25)) fun x8 =>
  bP (pNil v0) fun x9 =>
  bP (fa Q q 208 0 0 x9) fun x10 =>
  bP (fa Q q 165 2 4 x10) fun x11 =>
  bP (ld Q q 3 x11 (G.room 25)) fun x12 =>
  bP (bn Q q .add 3 (.tmp 16) (.tmp 21) x8 x12) fun x13 =>
  bS (e.ev.cl 52 [v1, x13] (G.room 25)) fun x15 G14 =>
  chk ((sameO (lda Q q 31 3 x2 G14) x3 && true)) <|
  bS (e.ev.cl 132 [x3, x15] G14) fun x17 G16 =>
  bP (pNil v0) fun x18 =>
  bP (fa Q q 208 0 0 x18) fun x19 =>
  bP (fa Q q 165 3 5 x19) fun x20 =>
  bP (st Q q 3 1 x20 x17 G16) fun G21 =>
  bP (pNil v0) fun x22 =>
  bP (fa Q q 208 1 9 x22) fun x23 =>
  bP (st Q q 206 1 x23 (.func (.func 146) #[] #[]) G21) fun G24 =>
  some (.tuple #[], G24)
theorem m136 {e : Ex} {E : Ev} (h : ExLe Q e E) (v0 v1 : Value) (G : GS) : Ref (s136 true e v0 v1 G) (s136 false (Ex.of E) v0 v1 G) := by
  unfold s136
  exact Ref.gq
theorem f136 {orc : FuncId → Bool} {e : Ex} (h : ExLe Q e (E orc)) (v0 v1 : Value) (G : GS) : Ref (s136 true e v0 v1 G) ((E orc).cl 136 [v0, v1] G) :=
  fun r hr => cl_sxE_some Q orc (vs := [v0, v1]) G Try.func136 (by kernel_rfl) (by kernel_rfl) (by kernel_rfl) (by kernel_rfl) (by kernel_rfl) (by kernel_rfl) (m136 h v0 v1 G r hr)
/-- (*coxswain/stack.held).over -/
noncomputable def s137 (q : Bool) (e : Ex) (v0 : Value) (G : GS) : Option (Value × GS) :=
  bP (ep Q q false 204 (.tmp 3) (.const (.pointer none)) v0 (.pointer none)) fun x0 =>
  bS (gd x0 false (some (v0, G)) G) fun x1 G2 =>
  bS (gd x0 false (bP (pNil x1) fun y => some (y, G2)) G2) fun x3 G4 =>
  bS (gd x0 false (bP (fa Q q 165 4 6 x3) fun y => some (y, G4)) G4) fun x5 G6 =>
  bS (gd x0 false (bP (ld Q q 4 x5 G6) fun y => some (y, G6)) G6) fun x7 G8 =>
  bS (gd x0 false (bP (un Q q .not x7) fun y => some (y, G8)) G8) fun x9 G10 =>
  bP (pickV x0 (.bool true) x9) fun x11 =>
  bS (gd x11 false (some (v0, G10)) G10) fun x12 G13 =>
  bS (gd x11 false (bP (pNil x12) fun y => some (y, G13)) G13) fun x14 G15 =>
  bS (gd x11 false (bP (fa Q q 165 5 7 x14) fun y => some (y, G15)) G15) fun x16 G17 =>
  bS (gd x11 false (bP (ld Q q 4 x16 G17) fun y => some (y, G17)) G17) fun x18 G19 =>
  bP (pickV x11 (.bool true) x18) fun x20 =>
  some (x20, G19)
theorem m137 {e : Ex} {E : Ev} (h : ExLe Q e E) (v0 : Value) (G : GS) : Ref (s137 true e v0 G) (s137 false (Ex.of E) v0 G) := by
  unfold s137
  exact Ref.gq
theorem f137 {orc : FuncId → Bool} {e : Ex} (h : ExLe Q e (E orc)) (v0 : Value) (G : GS) : Ref (s137 true e v0 G) ((E orc).cl 137 [v0] G) :=
  fun r hr => cl_sxE_some Q orc (vs := [v0]) G Try.func137 (by kernel_rfl) (by kernel_rfl) (by kernel_rfl) (by kernel_rfl) (by kernel_rfl) (by kernel_rfl) (m137 h v0 G r hr)
/-- (*coxswain/stack.held).index -/
noncomputable def s138 (q : Bool) (e : Ex) (v0 : Value) (G : GS) : Option (Value × GS) :=
  bS (e.ev.cl 147 [v0] G) fun x0 G1 =>
  bP (bn Q q .neq 41 (.tmp 7) (.const (.int .i64 0)) x0 (.int .i64 0)) fun x2 =>
  ifV x2 (
  some (.tuple #[(.int .i64 0), x0], G1)) (
  bP (pNil v0) fun x3 =>
  bP (fa Q q 165 2 4 x3) fun x4 =>
  bP (ld Q q 3 x4 G1) fun x5 =>
  some (.tuple #[x5, (.int .i64 0)], G1))
theorem m138 {e : Ex} {E : Ev} (h : ExLe Q e E) (v0 : Value) (G : GS) : Ref (s138 true e v0 G) (s138 false (Ex.of E) v0 G) := by
  unfold s138
  exact Ref.gq
theorem f138 {orc : FuncId → Bool} {e : Ex} (h : ExLe Q e (E orc)) (v0 : Value) (G : GS) : Ref (s138 true e v0 G) ((E orc).cl 138 [v0] G) :=
  fun r hr => cl_sxE_some Q orc (vs := [v0]) G Try.func138 (by kernel_rfl) (by kernel_rfl) (by kernel_rfl) (by kernel_rfl) (by kernel_rfl) (by kernel_rfl) (m138 h v0 G r hr)
/-- (coxswain/word.raw).with -/
noncomputable def s139 (q : Bool) (e : Ex) (v0 v1 v2 : Value) (G : GS) : Option (Value × GS) :=
  bS (bx q v1 G) fun x0 G1 =>
  bP (cv Q q 3 28 .i64 .u64 v2) fun x2 =>
  bP (fa Q q 133 0 0 x0) fun x3 =>
  bP (ld Q q 3 x3 G1) fun x4 =>
  bP (bn Q q .shl 28 (.tmp 9) (.tmp 11) x2 x4) fun x5 =>
  bP (bn Q q .or 136 (.tmp 7) (.tmp 12) v0 x5) fun x6 =>
  some (x6, G1)
theorem m139 {e : Ex} {E : Ev} (h : ExLe Q e E) (v0 v1 v2 : Value) (G : GS) : Ref (s139 true e v0 v1 v2 G) (s139 false (Ex.of E) v0 v1 v2 G) := by
  unfold s139
  exact Ref.gq
theorem f139 {orc : FuncId → Bool} {e : Ex} (h : ExLe Q e (E orc)) (v0 v1 v2 : Value) (G : GS) : Ref (s139 true e v0 v1 v2 G) ((E orc).cl 139 [v0, v1, v2] G) :=
  fun r hr => cl_sxE_some Q orc (vs := [v0, v1, v2]) G Try.func139 (by kernel_rfl) (by kernel_rfl) (by kernel_rfl) (by kernel_rfl) (by kernel_rfl) (by kernel_rfl) (m139 h v0 v1 v2 G r hr)
/-- (*coxswain/stack.held).swap -/
noncomputable def s145 (q : Bool) (e : Ex) (v0 v1 v2 : Value) (G : GS) : Option (Value × GS) :=
  bP (pNil v0) fun x0 =>
  bP (fa Q q 165 1 3 x0) fun x1 =>
  bP (ld Q q 28 x1 G) fun x2 =>
  bS (e.ev.cl 27 [x2] G) fun x3 G4 =>
  bP (pExtract x3 0) fun x5 =>
  bP (pExtract x3 1) fun x6 =>
  bS (al Q q 85 z85 G4) fun x7 G8 =>
  bP (st Q q 85 2 x7 x5 G8) fun G9 =>
  bP (fa Q q 85 1 1 x7) fun x10 =>
  bP (ld Q q 3 x10 G9) fun x11 =>
  bP (bn Q q .add 3 (.tmp 22) (.const (.int .i64 1)) x11 (.int .i64 1)) fun x12 =>
  bP (bn Q q .and 3 (.tmp 23) (.const (.int .i64 281474976710655)) x12 (.int .i64 281474976710655)) fun x13 =>
  bP (bd Q q 85 z85 [(0, 0, 1), (1, 1, 1)] [v2, x13]) fun x14 =>
  bS (e.ev.cl 123 [x14] G9) fun x15 G16 =>
  bP (pExtract x15 0) fun x17 =>
  bP (pExtract x15 1) fun x18 =>
  bP (pNil v0) fun x19 =>
  bP (fa Q q 165 0 0 x19) fun x20 =>
  bP (fa Q q 31 0 0 x20) fun x21 =>
  bP (ld Q q 3 x21 (G16.room 13)) fun x22 =>
  bP (pNil v0) fun x23 =>
  bP (fa Q q 165 1 3 x23) fun x24 =>
  bP (ld Q q 28 x24 (G16.room 13)) fun x25 =>
  bS (e.ev.cl 148 [v1, x22, x25, x17] (G16.room 13)) fun x27 G26 =>
  some (x27, G26)
theorem m145 {e : Ex} {E : Ev} (h : ExLe Q e E) (v0 v1 v2 : Value) (G : GS) : Ref (s145 true e v0 v1 v2 G) (s145 false (Ex.of E) v0 v1 v2 G) := by
  unfold s145
  exact Ref.gq
theorem f145 {orc : FuncId → Bool} {e : Ex} (h : ExLe Q e (E orc)) (v0 v1 v2 : Value) (G : GS) : Ref (s145 true e v0 v1 v2 G) ((E orc).cl 145 [v0, v1, v2] G) :=
  fun r hr => cl_sxE_some Q orc (vs := [v0, v1, v2]) G Try.func145 (by kernel_rfl) (by kernel_rfl) (by kernel_rfl) (by kernel_rfl) (by kernel_rfl) (by kernel_rfl) (m145 h v0 v1 v2 G r hr)
/-- (*coxswain/stack.Pop).third -/
noncomputable def s146 (q : Bool) (e : Ex) (v0 v1 : Value) (G : GS) : Option (Value × GS) :=
  bP (pNil v0) fun x0 =>
  bP (fa Q q 208 1 9 x0) fun x1 =>
  bP (st Q q 206 1 x1 (.func (.func 117) #[] #[]) G) fun G2 =>
  bP (pNil v0) fun x3 =>
  bP (fa Q q 208 0 0 x3) fun x4 =>
  bP (pNil v0) fun x5 =>
  bP (fa Q q 208 0 0 x5) fun x6 =>
  bP (fa Q q 165 3 5 x6) fun x7 =>
  bP (ld Q q 3 x7 (G2.room 10)) fun x8 =>
  bS (e.ev.cl 145 [x4, v1, x8] (G2.room 10)) fun x10 G9 =>
  ifV x10 (
  bP (pNil v0) fun x11 =>
  bP (fa Q q 208 0 0 x11) fun x12 =>
  bS (e.ev.cl 82 [x12, (.int .i64 0)] G9) fun x13 G14 =>
  some (.tuple #[], G14)) (
  some (.tuple #[], G9))
theorem m146 {e : Ex} {E : Ev} (h : ExLe Q e E) (v0 v1 : Value) (G : GS) : Ref (s146 true e v0 v1 G) (s146 false (Ex.of E) v0 v1 G) := by
  unfold s146
  exact Ref.gq
theorem f146 {orc : FuncId → Bool} {e : Ex} (h : ExLe Q e (E orc)) (v0 v1 : Value) (G : GS) : Ref (s146 true e v0 v1 G) ((E orc).cl 146 [v0, v1] G) :=
  fun r hr => cl_sxE_some Q orc (vs := [v0, v1]) G Try.func146 (by kernel_rfl) (by kernel_rfl) (by kernel_rfl) (by kernel_rfl) (by kernel_rfl) (by kernel_rfl) (m146 h v0 v1 G r hr)
/-- (*coxswain/stack.held).told -/
noncomputable def s147 (q : Bool) (e : Ex) (v0 : Value) (G : GS) : Option (Value × GS) :=
  bP (ep Q q false 204 (.tmp 4) (.const (.pointer none)) v0 (.pointer none)) fun x0 =>
  bS (gd x0 false (some (v0, G)) G) fun x1 G2 =>
  bS (gd x0 false (bP (pNil x1) fun y => some (y, G2)) G2) fun x3 G4 =>
  bS (gd x0 false (bP (fa Q q 165 4 6 x3) fun y => some (y, G4)) G4) fun x5 G6 =>
  bS (gd x0 false (bP (ld Q q 4 x5 G6) fun y => some (y, G6)) G6) fun x7 G8 =>
  bS (gd x0 false (bP (un Q q .not x7) fun y => some (y, G8)) G8) fun x9 G10 =>
  bP (pickV x0 (.bool true) x9) fun x11 =>
  ifV x11 (
  some ((.int .i64 1), G10)) (
  bP (pNil v0) fun x12 =>
  bP (fa Q q 165 5 7 x12) fun x13 =>
  bP (ld Q q 4 x13 G10) fun x14 =>
  bP (un Q q .not x14) fun x15 =>
  ifV x15 (
  some ((.int .i64 14), G10)) (
  bP (pNil v0) fun x16 =>
  bP (fa Q q 165 6 8 x16) fun x17 =>
  bP (ld Q q 41 x17 G10) fun x18 =>
  some (x18, G10)))
theorem m147 {e : Ex} {E : Ev} (h : ExLe Q e E) (v0 : Value) (G : GS) : Ref (s147 true e v0 G) (s147 false (Ex.of E) v0 G) := by
  unfold s147
  exact Ref.gq
theorem f147 {orc : FuncId → Bool} {e : Ex} (h : ExLe Q e (E orc)) (v0 : Value) (G : GS) : Ref (s147 true e v0 G) ((E orc).cl 147 [v0] G) :=
  fun r hr => cl_sxE_some Q orc (vs := [v0]) G Try.func147 (by kernel_rfl) (by kernel_rfl) (by kernel_rfl) (by kernel_rfl) (by kernel_rfl) (by kernel_rfl) (m147 h v0 G r hr)
/-- (*coxswain/cells.Mem).CAS -/
noncomputable def s148 (q : Bool) (e : Ex) (v0 v1 v2 v3 : Value) (G : GS) : Option (Value × GS) :=
  bS (e.ev.cl 88 [v0, v1] G) fun x0 G1 =>
  bP (bd Q q 179 z179 [(0, 0, 1), (1, 1, 1), (2, 2, 1)] [x0, v2, v3]) fun x2 =>
  bS (al Q q 179 z179 G1) fun x3 G4 =>
  bP (st Q q 179 3 x3 x2 G4) fun G5 =>
  bP (fa Q q 179 0 0 x3) fun x6 =>
  bP (ld Q q 176 x6 G5) fun x7 =>
  bP (lda Q q 179 3 x3 G5) fun x8 =>
  bS (e.ev.cl 89 [v0, (.int .i64 3), v1, x7, (.func (.func 151) #[x8] #[])] G5) fun x9 G10 =>
  bP (fd Q q 79 4 4 x9) fun x11 =>
  some (x11, G10)
theorem m148 {e : Ex} {E : Ev} (h : ExLe Q e E) (v0 v1 v2 v3 : Value) (G : GS) : Ref (s148 true e v0 v1 v2 v3 G) (s148 false (Ex.of E) v0 v1 v2 v3 G) := by
  unfold s148
  exact Ref.gq
theorem f148 {orc : FuncId → Bool} {e : Ex} (h : ExLe Q e (E orc)) (v0 v1 v2 v3 : Value) (G : GS) : Ref (s148 true e v0 v1 v2 v3 G) ((E orc).cl 148 [v0, v1, v2, v3] G) :=
  fun r hr => cl_sxE_some Q orc (vs := [v0, v1, v2, v3]) G Try.func148 (by kernel_rfl) (by kernel_rfl) (by kernel_rfl) (by kernel_rfl) (by kernel_rfl) (by kernel_rfl) (m148 h v0 v1 v2 v3 G r hr)
/-- (coxswain/cells.deed).swap -/
noncomputable def s151 (q : Bool) (e : Ex) (v0 : Value) (G : GS) : Option (Value × GS) :=
  bS (bx q v0 G) fun x0 G1 =>
  bP (fa Q q 179 0 0 x0) fun x2 =>
  bP (ld Q q 176 x2 (G1.room 7)) fun x3 =>
  bP (pNil x3) fun x4 =>
  bP (ld Q q 83 x4 (G1.room 7)) fun x5 =>
  bP (fa Q q 179 1 1 x0) fun x6 =>
  bP (ld Q q 28 x6 (G1.room 7)) fun x7 =>
  bP (bn Q q .neq 28 (.tmp 7) (.tmp 9) x5 x7) fun x8 =>
  ifV x8 (
  bP (fa Q q 179 0 0 x0) fun x9 =>
  bP (ld Q q 176 x9 (G1.room 7)) fun x10 =>
  bP (pNil x10) fun x11 =>
  bP (ld Q q 83 x11 (G1.room 7)) fun x12 =>
  some (.tuple #[x12, (.bool false)], (G1.room 7))) (
  bP (fa Q q 179 2 2 x0) fun x13 =>
  bP (ld Q q 28 x13 (G1.room 7)) fun x14 =>
  some (.tuple #[x14, (.bool true)], (G1.room 7)))
theorem m151 {e : Ex} {E : Ev} (h : ExLe Q e E) (v0 : Value) (G : GS) : Ref (s151 true e v0 G) (s151 false (Ex.of E) v0 G) := by
  unfold s151
  exact Ref.gq
theorem f151 {orc : FuncId → Bool} {e : Ex} (h : ExLe Q e (E orc)) (v0 : Value) (G : GS) : Ref (s151 true e v0 G) ((E orc).cl 151 [v0] G) :=
  fun r hr => cl_sxE_some Q orc (vs := [v0]) G Try.func151 (by kernel_rfl) (by kernel_rfl) (by kernel_rfl) (by kernel_rfl) (by kernel_rfl) (by kernel_rfl) (m151 h v0 G r hr)
noncomputable def clT (orc : FuncId → Bool) (e : Ex) (f : FuncId) (vs : List Value) (G : GS) : Option (Value × GS) :=
  fork f 88 (
fork f 47 (
fork f 17 (
fork f 7 (
fork f 5 (
fork f 3 (
leaf f 3 (app3 (s3 true e) vs G)) (
leaf f 5 (app0 (orc 5) (hasTab Q G) (s5 true e) vs G))) (
fork f 6 (
leaf f 6 (app2 (s6 true e) vs G)) (
leaf f 7 (app2 (s7 true e) vs G)))) (
fork f 9 (
fork f 8 (
leaf f 8 (app2 (s8 true e) vs G)) (
leaf f 9 (app1 (s9 true e) vs G))) (
fork f 10 (
leaf f 10 (app1 (s10 true e) vs G)) (
leaf f 17 (app2 (s17 true e) vs G))))) (
fork f 24 (
fork f 22 (
fork f 19 (
leaf f 19 (app2 (s19 true e) vs G)) (
leaf f 22 (app1 (s22 true e) vs G))) (
fork f 23 (
leaf f 23 (app2 (s23 true e) vs G)) (
leaf f 24 (app4 (s24 true e) vs G)))) (
fork f 26 (
fork f 25 (
leaf f 25 (app2 (s25 true e) vs G)) (
leaf f 26 (app1 (s26 true e) vs G))) (
fork f 27 (
leaf f 27 (app1 (s27 true e) vs G)) (
fork f 46 (
leaf f 46 (app2 (s46 true e) vs G)) (
leaf f 47 (app2 (s47 true e) vs G))))))) (
fork f 60 (
fork f 55 (
fork f 49 (
fork f 48 (
leaf f 48 (app1 (s48 true e) vs G)) (
leaf f 49 (app1 (s49 true e) vs G))) (
fork f 52 (
leaf f 52 (app2 (s52 true e) vs G)) (
leaf f 55 (app1 (s55 true e) vs G)))) (
fork f 57 (
fork f 56 (
leaf f 56 (app2 (s56 true e) vs G)) (
leaf f 57 (app3 (s57 true e) vs G))) (
fork f 58 (
leaf f 58 (app1 (s58 true e) vs G)) (
fork f 59 (
leaf f 59 (app2 (s59 true e) vs G)) (
leaf f 60 (app0 (orc 60) (hasTab Q G) (s60 true e) vs G)))))) (
fork f 83 (
fork f 81 (
fork f 61 (
leaf f 61 (app2 (s61 true e) vs G)) (
leaf f 81 (app2 (s81 true e) vs G))) (
fork f 82 (
leaf f 82 (app2 (s82 true e) vs G)) (
leaf f 83 (app2 (s83 true e) vs G)))) (
fork f 85 (
fork f 84 (
leaf f 84 (app1 (s84 true e) vs G)) (
leaf f 85 (app2 (s85 true e) vs G))) (
fork f 86 (
leaf f 86 (app1 (s86 true e) vs G)) (
fork f 87 (
leaf f 87 (app2 (s87 true e) vs G)) (
leaf f 88 (app2 (s88 true e) vs G)))))))) (
fork f 121 (
fork f 97 (
fork f 93 (
fork f 90 (
fork f 89 (
leaf f 89 (app5 (s89 true e) vs G)) (
leaf f 90 (app1 (s90 true e) vs G))) (
fork f 91 (
leaf f 91 (app1 (s91 true e) vs G)) (
leaf f 93 (app1 (s93 true e) vs G)))) (
fork f 95 (
fork f 94 (
leaf f 94 (app1 (s94 true e) vs G)) (
leaf f 95 (app0 (orc 95) (hasTab Q G) (s95 true e) vs G))) (
fork f 96 (
leaf f 96 (app1 (s96 true e) vs G)) (
leaf f 97 (app1 (s97 true e) vs G))))) (
fork f 116 (
fork f 114 (
fork f 113 (
leaf f 113 (app2 (s113 true e) vs G)) (
leaf f 114 (app2 (s114 true e) vs G))) (
fork f 115 (
leaf f 115 (app2 (s115 true e) vs G)) (
leaf f 116 (app3 (s116 true e) vs G)))) (
fork f 118 (
fork f 117 (
leaf f 117 (app2 (s117 true e) vs G)) (
leaf f 118 (app2 (s118 true e) vs G))) (
fork f 119 (
leaf f 119 (app1 (s119 true e) vs G)) (
fork f 120 (
leaf f 120 (app2 (s120 true e) vs G)) (
leaf f 121 (app2 (s121 true e) vs G))))))) (
fork f 135 (
fork f 125 (
fork f 123 (
fork f 122 (
leaf f 122 (app1 (s122 true e) vs G)) (
leaf f 123 (app1 (s123 true e) vs G))) (
fork f 124 (
leaf f 124 (app1 (s124 true e) vs G)) (
leaf f 125 (app2 (s125 true e) vs G)))) (
fork f 132 (
fork f 126 (
leaf f 126 (app2 (s126 true e) vs G)) (
leaf f 132 (app2 (s132 true e) vs G))) (
fork f 133 (
leaf f 133 (app2 (s133 true e) vs G)) (
fork f 134 (
leaf f 134 (app2 (s134 true e) vs G)) (
leaf f 135 (app1 (s135 true e) vs G)))))) (
fork f 139 (
fork f 137 (
fork f 136 (
leaf f 136 (app2 (s136 true e) vs G)) (
leaf f 137 (app1 (s137 true e) vs G))) (
fork f 138 (
leaf f 138 (app1 (s138 true e) vs G)) (
leaf f 139 (app3 (s139 true e) vs G)))) (
fork f 146 (
fork f 145 (
leaf f 145 (app3 (s145 true e) vs G)) (
leaf f 146 (app2 (s146 true e) vs G))) (
fork f 147 (
leaf f 147 (app1 (s147 true e) vs G)) (
fork f 148 (
leaf f 148 (app4 (s148 true e) vs G)) (
leaf f 151 (app1 (s151 true e) vs G))))))))
theorem clT_ok {orc : FuncId → Bool} {e : Ex} (h : ExLe Q e (E orc)) (f : FuncId) (vs : List Value) (G : GS) : Ref (clT orc e f vs G) ((E orc).cl f vs G) :=
  Ref.fork (
Ref.fork (
Ref.fork (
Ref.fork (
Ref.fork (
Ref.fork (
Ref.leaf (y := fun f => (E orc).cl f vs G) (Ref.app3 (fun u0 u1 u2 G => f3 h u0 u1 u2 G) vs G)) (
Ref.leaf (y := fun f => (E orc).cl f vs G) (Ref.app0 (fun ho G => f5 h ho G) vs G))) (
Ref.fork (
Ref.leaf (y := fun f => (E orc).cl f vs G) (Ref.app2 (fun u0 u1 G => f6 h u0 u1 G) vs G)) (
Ref.leaf (y := fun f => (E orc).cl f vs G) (Ref.app2 (fun u0 u1 G => f7 h u0 u1 G) vs G)))) (
Ref.fork (
Ref.fork (
Ref.leaf (y := fun f => (E orc).cl f vs G) (Ref.app2 (fun u0 u1 G => f8 h u0 u1 G) vs G)) (
Ref.leaf (y := fun f => (E orc).cl f vs G) (Ref.app1 (fun u0 G => f9 h u0 G) vs G))) (
Ref.fork (
Ref.leaf (y := fun f => (E orc).cl f vs G) (Ref.app1 (fun u0 G => f10 h u0 G) vs G)) (
Ref.leaf (y := fun f => (E orc).cl f vs G) (Ref.app2 (fun u0 u1 G => f17 h u0 u1 G) vs G))))) (
Ref.fork (
Ref.fork (
Ref.fork (
Ref.leaf (y := fun f => (E orc).cl f vs G) (Ref.app2 (fun u0 u1 G => f19 h u0 u1 G) vs G)) (
Ref.leaf (y := fun f => (E orc).cl f vs G) (Ref.app1 (fun u0 G => f22 h u0 G) vs G))) (
Ref.fork (
Ref.leaf (y := fun f => (E orc).cl f vs G) (Ref.app2 (fun u0 u1 G => f23 h u0 u1 G) vs G)) (
Ref.leaf (y := fun f => (E orc).cl f vs G) (Ref.app4 (fun u0 u1 u2 u3 G => f24 h u0 u1 u2 u3 G) vs G)))) (
Ref.fork (
Ref.fork (
Ref.leaf (y := fun f => (E orc).cl f vs G) (Ref.app2 (fun u0 u1 G => f25 h u0 u1 G) vs G)) (
Ref.leaf (y := fun f => (E orc).cl f vs G) (Ref.app1 (fun u0 G => f26 h u0 G) vs G))) (
Ref.fork (
Ref.leaf (y := fun f => (E orc).cl f vs G) (Ref.app1 (fun u0 G => f27 h u0 G) vs G)) (
Ref.fork (
Ref.leaf (y := fun f => (E orc).cl f vs G) (Ref.app2 (fun u0 u1 G => f46 h u0 u1 G) vs G)) (
Ref.leaf (y := fun f => (E orc).cl f vs G) (Ref.app2 (fun u0 u1 G => f47 h u0 u1 G) vs G))))))) (
Ref.fork (
Ref.fork (
Ref.fork (
Ref.fork (
Ref.leaf (y := fun f => (E orc).cl f vs G) (Ref.app1 (fun u0 G => f48 h u0 G) vs G)) (
Ref.leaf (y := fun f => (E orc).cl f vs G) (Ref.app1 (fun u0 G => f49 h u0 G) vs G))) (
Ref.fork (
Ref.leaf (y := fun f => (E orc).cl f vs G) (Ref.app2 (fun u0 u1 G => f52 h u0 u1 G) vs G)) (
Ref.leaf (y := fun f => (E orc).cl f vs G) (Ref.app1 (fun u0 G => f55 h u0 G) vs G)))) (
Ref.fork (
Ref.fork (
Ref.leaf (y := fun f => (E orc).cl f vs G) (Ref.app2 (fun u0 u1 G => f56 h u0 u1 G) vs G)) (
Ref.leaf (y := fun f => (E orc).cl f vs G) (Ref.app3 (fun u0 u1 u2 G => f57 h u0 u1 u2 G) vs G))) (
Ref.fork (
Ref.leaf (y := fun f => (E orc).cl f vs G) (Ref.app1 (fun u0 G => f58 h u0 G) vs G)) (
Ref.fork (
Ref.leaf (y := fun f => (E orc).cl f vs G) (Ref.app2 (fun u0 u1 G => f59 h u0 u1 G) vs G)) (
Ref.leaf (y := fun f => (E orc).cl f vs G) (Ref.app0 (fun ho G => f60 h ho G) vs G)))))) (
Ref.fork (
Ref.fork (
Ref.fork (
Ref.leaf (y := fun f => (E orc).cl f vs G) (Ref.app2 (fun u0 u1 G => f61 h u0 u1 G) vs G)) (
Ref.leaf (y := fun f => (E orc).cl f vs G) (Ref.app2 (fun u0 u1 G => f81 h u0 u1 G) vs G))) (
Ref.fork (
Ref.leaf (y := fun f => (E orc).cl f vs G) (Ref.app2 (fun u0 u1 G => f82 h u0 u1 G) vs G)) (
Ref.leaf (y := fun f => (E orc).cl f vs G) (Ref.app2 (fun u0 u1 G => f83 h u0 u1 G) vs G)))) (
Ref.fork (
Ref.fork (
Ref.leaf (y := fun f => (E orc).cl f vs G) (Ref.app1 (fun u0 G => f84 h u0 G) vs G)) (
Ref.leaf (y := fun f => (E orc).cl f vs G) (Ref.app2 (fun u0 u1 G => f85 h u0 u1 G) vs G))) (
Ref.fork (
Ref.leaf (y := fun f => (E orc).cl f vs G) (Ref.app1 (fun u0 G => f86 h u0 G) vs G)) (
Ref.fork (
Ref.leaf (y := fun f => (E orc).cl f vs G) (Ref.app2 (fun u0 u1 G => f87 h u0 u1 G) vs G)) (
Ref.leaf (y := fun f => (E orc).cl f vs G) (Ref.app2 (fun u0 u1 G => f88 h u0 u1 G) vs G)))))))) (
Ref.fork (
Ref.fork (
Ref.fork (
Ref.fork (
Ref.fork (
Ref.leaf (y := fun f => (E orc).cl f vs G) (Ref.app5 (fun u0 u1 u2 u3 u4 G => f89 h u0 u1 u2 u3 u4 G) vs G)) (
Ref.leaf (y := fun f => (E orc).cl f vs G) (Ref.app1 (fun u0 G => f90 h u0 G) vs G))) (
Ref.fork (
Ref.leaf (y := fun f => (E orc).cl f vs G) (Ref.app1 (fun u0 G => f91 h u0 G) vs G)) (
Ref.leaf (y := fun f => (E orc).cl f vs G) (Ref.app1 (fun u0 G => f93 h u0 G) vs G)))) (
Ref.fork (
Ref.fork (
Ref.leaf (y := fun f => (E orc).cl f vs G) (Ref.app1 (fun u0 G => f94 h u0 G) vs G)) (
Ref.leaf (y := fun f => (E orc).cl f vs G) (Ref.app0 (fun ho G => f95 h ho G) vs G))) (
Ref.fork (
Ref.leaf (y := fun f => (E orc).cl f vs G) (Ref.app1 (fun u0 G => f96 h u0 G) vs G)) (
Ref.leaf (y := fun f => (E orc).cl f vs G) (Ref.app1 (fun u0 G => f97 h u0 G) vs G))))) (
Ref.fork (
Ref.fork (
Ref.fork (
Ref.leaf (y := fun f => (E orc).cl f vs G) (Ref.app2 (fun u0 u1 G => f113 h u0 u1 G) vs G)) (
Ref.leaf (y := fun f => (E orc).cl f vs G) (Ref.app2 (fun u0 u1 G => f114 h u0 u1 G) vs G))) (
Ref.fork (
Ref.leaf (y := fun f => (E orc).cl f vs G) (Ref.app2 (fun u0 u1 G => f115 h u0 u1 G) vs G)) (
Ref.leaf (y := fun f => (E orc).cl f vs G) (Ref.app3 (fun u0 u1 u2 G => f116 h u0 u1 u2 G) vs G)))) (
Ref.fork (
Ref.fork (
Ref.leaf (y := fun f => (E orc).cl f vs G) (Ref.app2 (fun u0 u1 G => f117 h u0 u1 G) vs G)) (
Ref.leaf (y := fun f => (E orc).cl f vs G) (Ref.app2 (fun u0 u1 G => f118 h u0 u1 G) vs G))) (
Ref.fork (
Ref.leaf (y := fun f => (E orc).cl f vs G) (Ref.app1 (fun u0 G => f119 h u0 G) vs G)) (
Ref.fork (
Ref.leaf (y := fun f => (E orc).cl f vs G) (Ref.app2 (fun u0 u1 G => f120 h u0 u1 G) vs G)) (
Ref.leaf (y := fun f => (E orc).cl f vs G) (Ref.app2 (fun u0 u1 G => f121 h u0 u1 G) vs G))))))) (
Ref.fork (
Ref.fork (
Ref.fork (
Ref.fork (
Ref.leaf (y := fun f => (E orc).cl f vs G) (Ref.app1 (fun u0 G => f122 h u0 G) vs G)) (
Ref.leaf (y := fun f => (E orc).cl f vs G) (Ref.app1 (fun u0 G => f123 h u0 G) vs G))) (
Ref.fork (
Ref.leaf (y := fun f => (E orc).cl f vs G) (Ref.app1 (fun u0 G => f124 h u0 G) vs G)) (
Ref.leaf (y := fun f => (E orc).cl f vs G) (Ref.app2 (fun u0 u1 G => f125 h u0 u1 G) vs G)))) (
Ref.fork (
Ref.fork (
Ref.leaf (y := fun f => (E orc).cl f vs G) (Ref.app2 (fun u0 u1 G => f126 h u0 u1 G) vs G)) (
Ref.leaf (y := fun f => (E orc).cl f vs G) (Ref.app2 (fun u0 u1 G => f132 h u0 u1 G) vs G))) (
Ref.fork (
Ref.leaf (y := fun f => (E orc).cl f vs G) (Ref.app2 (fun u0 u1 G => f133 h u0 u1 G) vs G)) (
Ref.fork (
Ref.leaf (y := fun f => (E orc).cl f vs G) (Ref.app2 (fun u0 u1 G => f134 h u0 u1 G) vs G)) (
Ref.leaf (y := fun f => (E orc).cl f vs G) (Ref.app1 (fun u0 G => f135 h u0 G) vs G)))))) (
Ref.fork (
Ref.fork (
Ref.fork (
Ref.leaf (y := fun f => (E orc).cl f vs G) (Ref.app2 (fun u0 u1 G => f136 h u0 u1 G) vs G)) (
Ref.leaf (y := fun f => (E orc).cl f vs G) (Ref.app1 (fun u0 G => f137 h u0 G) vs G))) (
Ref.fork (
Ref.leaf (y := fun f => (E orc).cl f vs G) (Ref.app1 (fun u0 G => f138 h u0 G) vs G)) (
Ref.leaf (y := fun f => (E orc).cl f vs G) (Ref.app3 (fun u0 u1 u2 G => f139 h u0 u1 u2 G) vs G)))) (
Ref.fork (
Ref.fork (
Ref.leaf (y := fun f => (E orc).cl f vs G) (Ref.app3 (fun u0 u1 u2 G => f145 h u0 u1 u2 G) vs G)) (
Ref.leaf (y := fun f => (E orc).cl f vs G) (Ref.app2 (fun u0 u1 G => f146 h u0 u1 G) vs G))) (
Ref.fork (
Ref.leaf (y := fun f => (E orc).cl f vs G) (Ref.app1 (fun u0 G => f147 h u0 G) vs G)) (
Ref.fork (
Ref.leaf (y := fun f => (E orc).cl f vs G) (Ref.app4 (fun u0 u1 u2 u3 G => f148 h u0 u1 u2 u3 G) vs G)) (
Ref.leaf (y := fun f => (E orc).cl f vs G) (Ref.app1 (fun u0 G => f151 h u0 G) vs G))))))))
noncomputable def lpT (FUEL : Nat) (e : Ex) (f k : Nat) (τ : Env) (G : GS) : Option (Exit × Env × GS) :=
  fork f 10 (
fork f 8 (
fork f 3 (
leaf f 3 (leaf k 0 (lpS 93 (b3_0 true e) FUEL τ G))) (
leaf f 8 (fork k 0 (leaf k 0 (lpS 80 (b8_0 true e) FUEL τ G)) (fork k 1 (leaf k 1 (lpS 80 (b8_1 true e) FUEL τ G)) (leaf k 2 (lpS 80 (b8_2 true e) FUEL τ G)))))) (
fork f 9 (
leaf f 9 (leaf k 0 (lpS 42 (b9_0 true e) FUEL τ G))) (
leaf f 10 (leaf k 0 (lpS 72 (b10_0 true e) FUEL τ G))))) (
fork f 25 (
fork f 23 (
leaf f 23 (leaf k 0 (lpS 29 (b23_0 true e) FUEL τ G))) (
leaf f 25 (leaf k 0 (lpS 204 (b25_0 true e) FUEL τ G)))) (
fork f 56 (
leaf f 56 (leaf k 0 (lpS 34 (b56_0 true e) FUEL τ G))) (
fork f 124 (
leaf f 124 (leaf k 0 (lpS 24 (b124_0 true e) FUEL τ G))) (
leaf f 126 (leaf k 0 (lpS 24 (b126_0 true e) FUEL τ G))))))
theorem lpT_ok {orc : FuncId → Bool} {e : Ex} (h : ExLe Q e (E orc)) (FUEL f k : Nat) (τ : Env) (G : GS) : Ref (lpT FUEL e f k τ G) (mapE ((E orc).lp (codeAt Q f k) (lst (nOf Q f) τ) G)) :=
  Ref.fork (
Ref.fork (
Ref.fork (
Ref.leaf (y := fun f => mapE ((E orc).lp (codeAt Q f k) (lst (nOf Q f) τ) G)) (Ref.leaf (y := fun k => mapE ((E orc).lp (codeAt Q 3 k) (lst (nOf Q 3) τ) G)) (lp_leaf (c := (subAt [1, 1, 1, 1, 1, 1, 0, 1, 0, 0] (bodyOf Try.f3))) (l3_0 h) _ _ _))) (
Ref.leaf (y := fun f => mapE ((E orc).lp (codeAt Q f k) (lst (nOf Q f) τ) G)) (Ref.fork (Ref.leaf (y := fun k => mapE ((E orc).lp (codeAt Q 8 k) (lst (nOf Q 8) τ) G)) (lp_leaf (c := (subAt [1, 0, 1, 0, 0] (bodyOf Try.f8))) (l8_0 h) _ _ _)) (Ref.fork (Ref.leaf (y := fun k => mapE ((E orc).lp (codeAt Q 8 k) (lst (nOf Q 8) τ) G)) (lp_leaf (c := (subAt [1, 1, 0, 1, 0, 0] (bodyOf Try.f8))) (l8_1 h) _ _ _)) (Ref.leaf (y := fun k => mapE ((E orc).lp (codeAt Q 8 k) (lst (nOf Q 8) τ) G)) (lp_leaf (c := (subAt [1, 1, 0, 1, 0, 0, 1, 0, 0, 1, 0, 0] (bodyOf Try.f8))) (l8_2 h) _ _ _)))))) (
Ref.fork (
Ref.leaf (y := fun f => mapE ((E orc).lp (codeAt Q f k) (lst (nOf Q f) τ) G)) (Ref.leaf (y := fun k => mapE ((E orc).lp (codeAt Q 9 k) (lst (nOf Q 9) τ) G)) (lp_leaf (c := (subAt [1, 1, 1, 0, 1, 0, 0] (bodyOf Try.f9))) (l9_0 h) _ _ _))) (
Ref.leaf (y := fun f => mapE ((E orc).lp (codeAt Q f k) (lst (nOf Q f) τ) G)) (Ref.leaf (y := fun k => mapE ((E orc).lp (codeAt Q 10 k) (lst (nOf Q 10) τ) G)) (lp_leaf (c := (subAt [1, 1, 1, 1, 0, 1, 0, 0] (bodyOf Try.f10))) (l10_0 h) _ _ _))))) (
Ref.fork (
Ref.fork (
Ref.leaf (y := fun f => mapE ((E orc).lp (codeAt Q f k) (lst (nOf Q f) τ) G)) (Ref.leaf (y := fun k => mapE ((E orc).lp (codeAt Q 23 k) (lst (nOf Q 23) τ) G)) (lp_leaf (c := (subAt [1, 1, 1, 1, 1, 0, 0] (bodyOf Try.f23))) (l23_0 h) _ _ _))) (
Ref.leaf (y := fun f => mapE ((E orc).lp (codeAt Q f k) (lst (nOf Q f) τ) G)) (Ref.leaf (y := fun k => mapE ((E orc).lp (codeAt Q 25 k) (lst (nOf Q 25) τ) G)) (lp_leaf (c := (subAt [1, 1, 1, 1, 1, 1, 1, 1, 1, 1, 1, 0, 1, 0, 0] (bodyOf Try.f25))) (l25_0 h) _ _ _)))) (
Ref.fork (
Ref.leaf (y := fun f => mapE ((E orc).lp (codeAt Q f k) (lst (nOf Q f) τ) G)) (Ref.leaf (y := fun k => mapE ((E orc).lp (codeAt Q 56 k) (lst (nOf Q 56) τ) G)) (lp_leaf (c := (subAt [1, 1, 1, 1, 0, 0] (bodyOf Try.f56))) (l56_0 h) _ _ _))) (
Ref.fork (
Ref.leaf (y := fun f => mapE ((E orc).lp (codeAt Q f k) (lst (nOf Q f) τ) G)) (Ref.leaf (y := fun k => mapE ((E orc).lp (codeAt Q 124 k) (lst (nOf Q 124) τ) G)) (lp_leaf (c := (subAt [1, 0, 1, 0, 0] (bodyOf Try.f124))) (l124_0 h) _ _ _))) (
Ref.leaf (y := fun f => mapE ((E orc).lp (codeAt Q f k) (lst (nOf Q f) τ) G)) (Ref.leaf (y := fun k => mapE ((E orc).lp (codeAt Q 126 k) (lst (nOf Q 126) τ) G)) (lp_leaf (c := (subAt [1, 1, 0, 1, 0, 0] (bodyOf Try.f126))) (l126_0 h) _ _ _))))))
noncomputable def kE (orc : FuncId → Bool) (n : Nat) : Ex := Nat.rec (motive := fun _ => Ex) ⟨Ev.zero, fun _ _ _ _ => none⟩ (fun _ e => ⟨⟨(evO Q orc 0).ex, clT orc e, (evO Q orc 2000).rd, (evO Q orc 2000).sc, (evO Q orc 0).lp⟩, lpT 6000 e⟩) n
theorem kE_ok (orc : FuncId → Bool) : ∀ n, ExLe Q (kE orc n) (E orc)
  | 0 => ⟨zero_le _, fun _ _ _ _ => .nil _⟩
  | n + 1 => ⟨⟨(le_evL Q orc 0).ex, fun f vs G r hr => clT_ok (kE_ok orc n) f vs G r hr, (le_evL Q orc 2000).rd, (le_evL Q orc 2000).sc, (le_evL Q orc 0).lp⟩, lpT_ok (kE_ok orc n) 6000⟩
/-- what the tables find true is true -/
theorem at_kE {orc : FuncId → Bool} {n f : Nat} {vs : List Value} (h : isTrue ((kE orc n).ev.cl f vs GS.empty) = true) : ∃ G', (E orc).cl f vs GS.empty = some (.bool true, G') := isTrue_of ((kE_ok orc n).ev.cl f vs GS.empty) h
theorem closed_kE {orc : FuncId → Bool} (ho : OrcOk Q orc) (hmix : Q.follows .mixedOrders = true) {n f : Nat} (h : isTrue ((kE orc n).ev.cl f [] GS.empty) = true) (w : World) : Calls Q f #[] w fun e w' => e = .returned (.bool true) ∧ Go.RowKit.Below w.heap.size w w' :=
  let ⟨_, hG⟩ := at_kE h
  law_plain hmix ho hG fun _ => trivial
end Go.Proofs.Ytfmkihikmlcimaa.Lift
