/- the program's code, spelled out by a program of ours (lift3.lean) -/
import Derived.Test.YtdohlgkmaeipjaaGreatProg
import Derived.Test.YtdohlgkmaeipjaaGreatGhPJ
import Derived.Test.YtdohlgkmaeipjaaGreatGhPG
import Derived.KernelRfl
namespace Go.Proofs.YtdohlgkmaeipjaaGreat.Lift
open Go Go.Proofs.YtdohlgkmaeipjaaGreat.Gh Go.Proofs
set_option linter.unusedVariables false
set_option maxRecDepth 100000
@[reducible] noncomputable def Q : Program := Tryz.prog
@[reducible] noncomputable def E (orc : FuncId → Bool) : Ev := evL Tryz.prog orc
instance ilp84_0 : LpIs Q 84 0 (subAt [1, 1, 0, 1, 0, 0] (bodyOf Tryz.f84)) 31 := ⟨by kernel_rfl, by kernel_rfl⟩
instance ilp145_0 : LpIs Q 145 0 (subAt [1, 0, 0] (bodyOf Tryz.f145)) 12 := ⟨by kernel_rfl, by kernel_rfl⟩
instance ilp233_0 : LpIs Q 233 0 (subAt [1, 0, 0] (bodyOf Tryz.f233)) 31 := ⟨by kernel_rfl, by kernel_rfl⟩
instance ilda95 : LdAOk Q 95 3 := ⟨fun b o s G => by kernel_rfl⟩
noncomputable abbrev z97 : List Value := [(.int .i64 0), (.int .i64 0), (.int .i64 0), (.int .i64 0)]
instance ial97 : AlOk Q 97 z97 := ⟨fun G => by kernel_rfl⟩
instance ist97 : StOk Q 97 4 := ⟨fun b o s v G => by kernel_rfl⟩
instance ilda97 : LdAOk Q 97 4 := ⟨fun b o s G => by kernel_rfl⟩
instance ieb4 : EbOk Q 4 := ⟨fun neg x y a b => by cases neg <;> cases a <;> cases b <;> kernel_rfl⟩
noncomputable abbrev z109 : List Value := [(.int .i64 0), (.int .i64 0), (.int .i64 0), (.int .i64 0)]
instance ibd109_1_2_3 : BdOk Q 109 z109 [(1, 1, 1), (2, 2, 1), (3, 3, 1)] := bd_ok Q (by kernel_rfl) (by kernel_rfl) (by kernel_rfl)
noncomputable abbrev z4 : List Value := [(.bool false)]
instance ial4 : AlOk Q 4 z4 := ⟨fun G => by kernel_rfl⟩
instance ibd97_ : BdOk Q 97 z97 [] := bd_ok Q (by kernel_rfl) (by kernel_rfl) (by kernel_rfl)
instance ist4 : StOk Q 4 1 := ⟨fun b o s v G => by kernel_rfl⟩
instance ild3 : LdOk Q 3 := ⟨fun b o s G => (show _ = loadOne b o G by kernel_rfl).trans (loadOne_eq b o G)⟩
instance ild4 : LdOk Q 4 := ⟨fun b o s G => (show _ = loadOne b o G by kernel_rfl).trans (loadOne_eq b o G)⟩
instance ifa95_1 : FaOk Q 95 1 1 := ⟨fun b o s => by kernel_rfl⟩
instance ifa95_2 : FaOk Q 95 2 2 := ⟨fun b o s => by kernel_rfl⟩
noncomputable abbrev z106 : List Value := [(.pointer none), (.pointer none), (.pointer none), (.pointer none)]
instance ial106 : AlOk Q 106 z106 := ⟨fun G => by kernel_rfl⟩
instance ifa109_1 : FaOk Q 109 1 1 := ⟨fun b o s => by kernel_rfl⟩
instance ifa109_2 : FaOk Q 109 2 2 := ⟨fun b o s => by kernel_rfl⟩
instance ifa109_3 : FaOk Q 109 3 3 := ⟨fun b o s => by kernel_rfl⟩
instance ibd106_0_1 : BdOk Q 106 z106 [(0, 0, 1), (1, 1, 1)] := bd_ok Q (by kernel_rfl) (by kernel_rfl) (by kernel_rfl)
instance ist106 : StOk Q 106 4 := ⟨fun b o s v G => by kernel_rfl⟩
instance ibd106_2_3 : BdOk Q 106 z106 [(2, 2, 1), (3, 3, 1)] := bd_ok Q (by kernel_rfl) (by kernel_rfl) (by kernel_rfl)
instance ilda106 : LdAOk Q 106 4 := ⟨fun b o s G => by kernel_rfl⟩
instance ifa106_1 : FaOk Q 106 1 1 := ⟨fun b o s => by kernel_rfl⟩
instance ild102 : LdOk Q 102 := ⟨fun b o s G => (show _ = loadOne b o G by kernel_rfl).trans (loadOne_eq b o G)⟩
instance iep102 : EpOk Q 102 := ⟨fun neg x y => by cases neg <;> kernel_rfl, fun neg x y a => by cases neg <;> kernel_rfl, fun neg x y a => by cases neg <;> kernel_rfl⟩
instance ifa106_0 : FaOk Q 106 0 0 := ⟨fun b o s => by kernel_rfl⟩
instance ild101 : LdOk Q 101 := ⟨fun b o s G => (show _ = loadOne b o G by kernel_rfl).trans (loadOne_eq b o G)⟩
instance ifa106_3 : FaOk Q 106 3 3 := ⟨fun b o s => by kernel_rfl⟩
instance ild104 : LdOk Q 104 := ⟨fun b o s G => (show _ = loadOne b o G by kernel_rfl).trans (loadOne_eq b o G)⟩
instance iep104 : EpOk Q 104 := ⟨fun neg x y => by cases neg <;> kernel_rfl, fun neg x y a => by cases neg <;> kernel_rfl, fun neg x y a => by cases neg <;> kernel_rfl⟩
instance ifa106_2 : FaOk Q 106 2 2 := ⟨fun b o s => by kernel_rfl⟩
instance ild103 : LdOk Q 103 := ⟨fun b o s G => (show _ = loadOne b o G by kernel_rfl).trans (loadOne_eq b o G)⟩
noncomputable abbrev z95 : List Value := [(.int .i64 0), (.int .i64 0), (.int .i64 0)]
instance ial95 : AlOk Q 95 z95 := ⟨fun G => by kernel_rfl⟩
instance ist95 : StOk Q 95 3 := ⟨fun b o s v G => by kernel_rfl⟩
instance iep32 : EpOk Q 32 := ⟨fun neg x y => by cases neg <;> kernel_rfl, fun neg x y a => by cases neg <;> kernel_rfl, fun neg x y a => by cases neg <;> kernel_rfl⟩
noncomputable abbrev z3 : List Value := [(.int .i64 0)]
instance ibs78_2_0_1 : BsOk Q 78 2 (rep z3 2) 1 [(0, 0, 1), (1, 1, 1)] := bs_ok Q (z0 := z3) (by kernel_rfl) rfl (by decide) (by kernel_rfl)
instance ibs78_1_0 : BsOk Q 78 1 (rep z3 1) 1 [(0, 0, 1)] := bs_ok Q (z0 := z3) (by kernel_rfl) rfl (by decide) (by kernel_rfl)
noncomputable abbrev z246 : List Value := [(.pointer none), (.int .u64 0), (.int .u64 0)]
instance ibd246_0_1_2 : BdOk Q 246 z246 [(0, 0, 1), (1, 1, 1), (2, 2, 1)] := bd_ok Q (by kernel_rfl) (by kernel_rfl) (by kernel_rfl)
instance ial246 : AlOk Q 246 z246 := ⟨fun G => by kernel_rfl⟩
instance ist246 : StOk Q 246 3 := ⟨fun b o s v G => by kernel_rfl⟩
instance ifa246_0 : FaOk Q 246 0 0 := ⟨fun b o s => by kernel_rfl⟩
instance ild243 : LdOk Q 243 := ⟨fun b o s G => (show _ = loadOne b o G by kernel_rfl).trans (loadOne_eq b o G)⟩
instance ilda246 : LdAOk Q 246 3 := ⟨fun b o s G => by kernel_rfl⟩
instance ifd68_4 : FdOk Q 68 4 4 := ⟨fun l => by kernel_rfl⟩
instance iln78 : LnOk Q 78 := ⟨fun a n c => by kernel_rfl⟩
instance iias78 : IasOk Q 78 1 := ⟨fun b o s n c k j => by kernel_rfl⟩
instance ifa95_0 : FaOk Q 95 0 0 := ⟨fun b o s => by kernel_rfl⟩
instance ibd97_0_1_2_3 : BdOk Q 97 z97 [(0, 0, 1), (1, 1, 1), (2, 2, 1), (3, 3, 1)] := bd_ok Q (by kernel_rfl) (by kernel_rfl) (by kernel_rfl)
noncomputable abbrev z342 : List Value := [(.bool false), (.pointer none), (.int .i64 0)]
instance ibd342_0_2 : BdOk Q 342 z342 [(0, 0, 1), (2, 2, 1)] := bd_ok Q (by kernel_rfl) (by kernel_rfl) (by kernel_rfl)
instance ifa342_2 : FaOk Q 342 2 2 := ⟨fun b o s => by kernel_rfl⟩
instance ild33 : LdOk Q 33 := ⟨fun b o s G => (show _ = loadOne b o G by kernel_rfl).trans (loadOne_eq b o G)⟩
instance ist33 : StOk Q 33 1 := ⟨fun b o s v G => by kernel_rfl⟩
instance ifa342_1 : FaOk Q 342 1 1 := ⟨fun b o s => by kernel_rfl⟩
instance ist340 : StOk Q 340 1 := ⟨fun b o s v G => by kernel_rfl⟩
noncomputable abbrev z346 : List Value := [(.pointer none), (.bool false), (.int .i64 0)]
instance ibd346_1_2 : BdOk Q 346 z346 [(1, 1, 1), (2, 2, 1)] := bd_ok Q (by kernel_rfl) (by kernel_rfl) (by kernel_rfl)
instance ibd346_0 : BdOk Q 346 z346 [(0, 0, 1)] := bd_ok Q (by kernel_rfl) (by kernel_rfl) (by kernel_rfl)
noncomputable abbrev z351 : List Value := [(.bool false), (.int .i64 0), (.int .i64 0), (.int .i64 0), (.int .i64 0), (.int .i64 0), .nilIface, (.slice none 0 0), (.int .i64 0), (.int .i64 0)]
instance ibd351_0_2_6 : BdOk Q 351 z351 [(0, 0, 1), (2, 5, 1), (6, 9, 1)] := bd_ok Q (by kernel_rfl) (by kernel_rfl) (by kernel_rfl)
instance ifa351_6 : FaOk Q 351 6 9 := ⟨fun b o s => by kernel_rfl⟩
instance iifc352 : IfcOk Q 352 := ⟨fun v => by kernel_rfl⟩
instance ifa351_1 : FaOk Q 351 1 1 := ⟨fun b o s => by kernel_rfl⟩
instance ifa351_3 : FaOk Q 351 3 6 := ⟨fun b o s => by kernel_rfl⟩
instance ist349 : StOk Q 349 1 := ⟨fun b o s v G => by kernel_rfl⟩
noncomputable abbrev z357 : List Value := [(.int .i64 0), (.int .i64 0), (.int .i64 0), (.int .i64 0), (.int .i64 0), (.slice none 0 0), (.pointer none), (.pointer none), (.int .i64 0), (.bool false), (.int .i64 0)]
instance ibd357_6_7 : BdOk Q 357 z357 [(6, 9, 1), (7, 10, 1)] := bd_ok Q (by kernel_rfl) (by kernel_rfl) (by kernel_rfl)
instance ibd357_0_1_3 : BdOk Q 357 z357 [(0, 0, 4), (1, 4, 1), (3, 6, 1)] := bd_ok Q (by kernel_rfl) (by kernel_rfl) (by kernel_rfl)
instance iep101 : EpOk Q 101 := ⟨fun neg x y => by cases neg <;> kernel_rfl, fun neg x y a => by cases neg <;> kernel_rfl, fun neg x y a => by cases neg <;> kernel_rfl⟩
instance ifa342_0 : FaOk Q 342 0 0 := ⟨fun b o s => by kernel_rfl⟩
instance ild340 : LdOk Q 340 := ⟨fun b o s G => (show _ = loadOne b o G by kernel_rfl).trans (loadOne_eq b o G)⟩
instance iep340 : EpOk Q 340 := ⟨fun neg x y => by cases neg <;> kernel_rfl, fun neg x y a => by cases neg <;> kernel_rfl, fun neg x y a => by cases neg <;> kernel_rfl⟩
instance ifa346_1 : FaOk Q 346 1 1 := ⟨fun b o s => by kernel_rfl⟩
instance ifa346_2 : FaOk Q 346 2 2 := ⟨fun b o s => by kernel_rfl⟩
instance iep103 : EpOk Q 103 := ⟨fun neg x y => by cases neg <;> kernel_rfl, fun neg x y a => by cases neg <;> kernel_rfl, fun neg x y a => by cases neg <;> kernel_rfl⟩
instance ifa351_0 : FaOk Q 351 0 0 := ⟨fun b o s => by kernel_rfl⟩
instance ild349 : LdOk Q 349 := ⟨fun b o s G => (show _ = loadOne b o G by kernel_rfl).trans (loadOne_eq b o G)⟩
instance ifa351_4 : FaOk Q 351 4 7 := ⟨fun b o s => by kernel_rfl⟩
instance ild78 : LdOk Q 78 := ⟨fun b o s G => (show _ = loadOne b o G by kernel_rfl).trans (loadOne_eq b o G)⟩
instance ifa357_6 : FaOk Q 357 6 9 := ⟨fun b o s => by kernel_rfl⟩
instance ifa357_7 : FaOk Q 357 7 10 := ⟨fun b o s => by kernel_rfl⟩
instance ibs78_0_ : BsOk Q 78 0 (rep z3 0) 1 [] := bs_ok Q (z0 := z3) (by kernel_rfl) rfl (by decide) (by kernel_rfl)
instance ifa357_2 : FaOk Q 357 2 5 := ⟨fun b o s => by kernel_rfl⟩
instance iap78_78 : ApOk Q 78 78 1 8 := ⟨fun s x G => by kernel_rfl⟩
instance ist3 : StOk Q 3 1 := ⟨fun b o s v G => by kernel_rfl⟩
instance ifa158_0 : FaOk Q 158 0 0 := ⟨fun b o s => by kernel_rfl⟩
instance ild153 : LdOk Q 153 := ⟨fun b o s G => (show _ = loadOne b o G by kernel_rfl).trans (loadOne_eq b o G)⟩
instance iep153 : EpOk Q 153 := ⟨fun neg x y => by cases neg <;> kernel_rfl, fun neg x y a => by cases neg <;> kernel_rfl, fun neg x y a => by cases neg <;> kernel_rfl⟩
instance ifa158_1 : FaOk Q 158 1 1 := ⟨fun b o s => by kernel_rfl⟩
instance iiaa156 : IaaOk Q 156 4096 1 := ⟨fun b o s k j => by kernel_rfl⟩
noncomputable abbrev z68 : List Value := [(.int .i64 0), (.int .i64 0), (.int .u64 0), (.int .u64 0), (.bool false)]
instance ial68 : AlOk Q 68 z68 := ⟨fun G => by kernel_rfl⟩
instance ibd68_ : BdOk Q 68 z68 [] := bd_ok Q (by kernel_rfl) (by kernel_rfl) (by kernel_rfl)
instance ist68 : StOk Q 68 5 := ⟨fun b o s v G => by kernel_rfl⟩
instance ifa158_3 : FaOk Q 158 3 7 := ⟨fun b o s => by kernel_rfl⟩
instance ibd68_0_1 : BdOk Q 68 z68 [(0, 0, 1), (1, 1, 1)] := bd_ok Q (by kernel_rfl) (by kernel_rfl) (by kernel_rfl)
instance ifa158_2 : FaOk Q 158 2 2 := ⟨fun b o s => by kernel_rfl⟩
instance ild154 : LdOk Q 154 := ⟨fun b o s G => (show _ = loadOne b o G by kernel_rfl).trans (loadOne_eq b o G)⟩
instance ifa68_2 : FaOk Q 68 2 2 := ⟨fun b o s => by kernel_rfl⟩
instance ist41 : StOk Q 41 1 := ⟨fun b o s v G => by kernel_rfl⟩
instance ifa68_3 : FaOk Q 68 3 3 := ⟨fun b o s => by kernel_rfl⟩
instance ifa68_4 : FaOk Q 68 4 4 := ⟨fun b o s => by kernel_rfl⟩
instance ist154 : StOk Q 154 1 := ⟨fun b o s v G => by kernel_rfl⟩
instance ilda68 : LdAOk Q 68 5 := ⟨fun b o s G => by kernel_rfl⟩
instance ibd246_0 : BdOk Q 246 z246 [(0, 0, 1)] := bd_ok Q (by kernel_rfl) (by kernel_rfl) (by kernel_rfl)
instance ifd68_3 : FdOk Q 68 3 3 := ⟨fun l => by kernel_rfl⟩
instance ifa246_1 : FaOk Q 246 1 1 := ⟨fun b o s => by kernel_rfl⟩
instance ild41 : LdOk Q 41 := ⟨fun b o s G => (show _ = loadOne b o G by kernel_rfl).trans (loadOne_eq b o G)⟩
instance ifa246_2 : FaOk Q 246 2 2 := ⟨fun b o s => by kernel_rfl⟩
noncomputable abbrev z460 : List Value := [(.int .i64 0), (.int .i64 0), (.int .i64 0), (.int .i64 0), .nilFunc, (.bool false), (.int .i64 0), (.int .i64 0), (.int .u64 0), (.int .u64 0)]
instance ibd460_0_1 : BdOk Q 460 z460 [(0, 0, 7), (1, 7, 1)] := bd_ok Q (by kernel_rfl) (by kernel_rfl) (by kernel_rfl)
instance ifa460_0 : FaOk Q 460 0 0 := ⟨fun b o s => by kernel_rfl⟩
instance ifa456_3 : FaOk Q 456 3 6 := ⟨fun b o s => by kernel_rfl⟩
instance ifa456_1 : FaOk Q 456 1 4 := ⟨fun b o s => by kernel_rfl⟩
instance ist159 : StOk Q 159 1 := ⟨fun b o s v G => by kernel_rfl⟩
instance ifa97_3 : FaOk Q 97 3 3 := ⟨fun b o s => by kernel_rfl⟩
noncomputable abbrev z464 : List Value := [(.int .i64 0), (.int .i64 0), (.int .i64 0), (.int .i64 0), (.int .i64 0), (.int .i64 0), (.int .u64 0), (.int .u64 0), (.int .i64 0)]
instance ibd464_2_5 : BdOk Q 464 z464 [(2, 5, 1), (5, 8, 1)] := bd_ok Q (by kernel_rfl) (by kernel_rfl) (by kernel_rfl)
instance ibd464_0_1_2 : BdOk Q 464 z464 [(0, 0, 4), (1, 4, 1), (2, 5, 1)] := bd_ok Q (by kernel_rfl) (by kernel_rfl) (by kernel_rfl)
noncomputable abbrev z466 : List Value := [(.int .i64 0), (.int .i64 0), (.int .i64 0), (.int .i64 0), .nilFunc, (.bool false), (.int .i64 0), (.int .u64 0), (.int .i64 0)]
instance ibd466_0 : BdOk Q 466 z466 [(0, 0, 7)] := bd_ok Q (by kernel_rfl) (by kernel_rfl) (by kernel_rfl)
instance ifa466_0 : FaOk Q 466 0 0 := ⟨fun b o s => by kernel_rfl⟩
noncomputable abbrev z468 : List Value := [(.int .i64 0), (.int .i64 0), (.int .i64 0), (.int .i64 0), (.int .i64 0), (.int .u64 0), (.int .i64 0), (.int .i64 0)]
instance ibd468_1_4 : BdOk Q 468 z468 [(1, 4, 1), (4, 7, 1)] := bd_ok Q (by kernel_rfl) (by kernel_rfl) (by kernel_rfl)
instance ibd468_0_1 : BdOk Q 468 z468 [(0, 0, 4), (1, 4, 1)] := bd_ok Q (by kernel_rfl) (by kernel_rfl) (by kernel_rfl)
instance ies78 : EsOk Q 78 := ⟨fun neg x y => by cases neg <;> kernel_rfl, fun neg x y a n c => by cases neg <;> kernel_rfl⟩
instance iep243 : EpOk Q 243 := ⟨fun neg x y => by cases neg <;> kernel_rfl, fun neg x y a => by cases neg <;> kernel_rfl, fun neg x y a => by cases neg <;> kernel_rfl⟩
noncomputable abbrev z456 : List Value := [(.int .i64 0), (.int .i64 0), (.int .i64 0), (.int .i64 0), .nilFunc, (.bool false), (.int .i64 0)]
instance ial456 : AlOk Q 456 z456 := ⟨fun G => by kernel_rfl⟩
instance ibd456_2_3 : BdOk Q 456 z456 [(2, 5, 1), (3, 6, 1)] := bd_ok Q (by kernel_rfl) (by kernel_rfl) (by kernel_rfl)
instance ist456 : StOk Q 456 7 := ⟨fun b o s v G => by kernel_rfl⟩
instance ibd456_0_2 : BdOk Q 456 z456 [(0, 0, 4), (2, 5, 1)] := bd_ok Q (by kernel_rfl) (by kernel_rfl) (by kernel_rfl)
instance ilda456 : LdAOk Q 456 7 := ⟨fun b o s G => by kernel_rfl⟩
instance ifa456_0 : FaOk Q 456 0 0 := ⟨fun b o s => by kernel_rfl⟩
instance ifa97_1 : FaOk Q 97 1 1 := ⟨fun b o s => by kernel_rfl⟩
instance ifa460_2 : FaOk Q 460 2 8 := ⟨fun b o s => by kernel_rfl⟩
instance ifa97_0 : FaOk Q 97 0 0 := ⟨fun b o s => by kernel_rfl⟩
instance ifa466_1 : FaOk Q 466 1 7 := ⟨fun b o s => by kernel_rfl⟩
instance ifa97_2 : FaOk Q 97 2 2 := ⟨fun b o s => by kernel_rfl⟩
instance icv3_41 : CvOk Q 3 41 .i64 .u64 := ⟨fun n => by kernel_rfl⟩
instance icv41_3 : CvOk Q 41 3 .u64 .i64 := ⟨fun n => by kernel_rfl⟩
instance icv458_3 : CvOk Q 458 3 .u64 .i64 := ⟨fun n => by kernel_rfl⟩
instance ifa460_3 : FaOk Q 460 3 9 := ⟨fun b o s => by kernel_rfl⟩
instance ist458 : StOk Q 458 1 := ⟨fun b o s v G => by kernel_rfl⟩
instance ild458 : LdOk Q 458 := ⟨fun b o s G => (show _ = loadOne b o G by kernel_rfl).trans (loadOne_eq b o G)⟩
instance ifa466_2 : FaOk Q 466 2 8 := ⟨fun b o s => by kernel_rfl⟩
instance icv458_414 : CvOk Q 458 414 .u64 .u32 := ⟨fun n => by kernel_rfl⟩
instance icv41_414 : CvOk Q 41 414 .u64 .u32 := ⟨fun n => by kernel_rfl⟩
instance ifa460_1 : FaOk Q 460 1 7 := ⟨fun b o s => by kernel_rfl⟩
instance icv414_458 : CvOk Q 414 458 .u32 .u64 := ⟨fun n => by kernel_rfl⟩
instance icv3_458 : CvOk Q 3 458 .i64 .u64 := ⟨fun n => by kernel_rfl⟩
/-- coxswain/coxswainlaw25.MailNew -/
noncomputable def s6 (q : Bool) (e : Ex) (v0 v1 v2 : Value) (G : GS) : Option (Value × GS) :=
  bS (bx q v0 G) fun x0 G1 =>
  bP (lda Q q 95 3 x0 G1) fun x2 =>
  bS (e.ev.cl 33 [x2, v1] G1) fun x3 G4 =>
  bP (pExtract x3 0) fun x5 =>
  bP (pExtract x3 1) fun x6 =>
  bS (al Q q 97 z97 G4) fun x7 G8 =>
  bP (st Q q 97 4 x7 x5 G8) fun G9 =>
  bP (lda Q q 95 3 x0 G9) fun x10 =>
  bS (e.ev.cl 34 [x10, v1] G9) fun x11 G12 =>
  bP (pExtract x11 0) fun x13 =>
  bP (pExtract x11 1) fun x14 =>
  bS (al Q q 97 z97 G12) fun x15 G16 =>
  bP (st Q q 97 4 x15 x13 G16) fun G17 =>
  bP (lda Q q 97 4 x7 (G17.room 35)) fun x18 =>
  bP (lda Q q 97 4 x15 (G17.room 35)) fun x19 =>
  bP (bn Q q .eql 97 (.tmp 23) (.tmp 24) x18 x19) fun x20 =>
  bS (gd x20 true (some (x6, (G17.room 35))) (G17.room 35)) fun x21 _ =>
  bS (gd x20 true (some (x14, (G17.room 35))) (G17.room 35)) fun x22 _ =>
  bS (gd x20 true (bP (eb Q q false 4 (.tmp 27) (.tmp 28) x21 x22) fun y => some (y, (G17.room 35))) (G17.room 35)) fun x23 _ =>
  bP (pickV x20 x23 (.bool false)) fun x24 =>
  bS (gd x24 true (bP (lda Q q 95 3 x0 (G17.room 35)) fun y => some (y, (G17.room 35))) (G17.room 35)) fun x25 _ =>
  bS (gd x24 true (bS (e.ev.cl 35 [x25] (G17.room 35)) fun y G => some (y, G)) (G17.room 35)) fun x27 G26 =>
  bS (gd x24 true (bP (lda Q q 95 3 x0 G26) fun y => some (y, G26)) G26) fun x28 _ =>
  chk (((!(gB x24 true) || (!(gB x24 true) || sameO (lda Q q 95 3 x0 (G17.room 35)) x28)) && true)) <|
  bS (gd x24 true (bS (e.ev.cl 36 [x28] G26) fun y G => some (y, G)) G26) fun x30 G29 =>
  bS (gd x24 true (bP (bn Q q .eql 3 (.tmp 33) (.tmp 35) x27 x30) fun y => some (y, G29)) G29) fun x31 _ =>
  bP (pickV x24 x31 (.bool false)) fun x32 =>
  bS (gd x32 true (bP (lda Q q 95 3 x0 G29) fun y => some (y, G29)) G29) fun x33 _ =>
  bS (gd x32 true (some (v1, G29)) G29) fun x34 _ =>
  bS (gd x32 true (some (v2, G29)) G29) fun x35 _ =>
  bS (gd x32 true (bP (bd Q q 109 z109 [(1, 1, 1), (2, 2, 1), (3, 3, 1)] [(.int .i64 1), x34, x35]) fun y => some (y, G29)) G29) fun x36 _ =>
  bS (gd x32 true (bS (e.ev.cl 37 [x33, x36] G29) fun y G => some (y, G)) G29) fun x38 G37 =>
  bS (gd x32 true (bS (e.ev.cl 38 [x38] G37) fun y G => some (y, G)) G37) fun x40 G39 =>
  bP (pickV x32 x40 (.bool false)) fun x41 =>
  bS (gd x41 true (bP (lda Q q 95 3 x0 G39) fun y => some (y, G39)) G39) fun x42 _ =>
  bS (gd x41 true (some (v1, G39)) G39) fun x43 _ =>
  bS (gd x41 true (some (v2, G39)) G39) fun x44 _ =>
  bS (gd x41 true (bP (bd Q q 109 z109 [(1, 1, 1), (2, 2, 1), (3, 3, 1)] [(.int .i64 2), x43, x44]) fun y => some (y, G39)) G39) fun x45 _ =>
  bS (gd x41 true (bS (e.ev.cl 37 [x42, x45] G39) fun y G => some (y, G)) G39) fun x47 G46 =>
  bS (gd x41 true (bS (e.ev.cl 38 [x47] G46) fun y G => some (y, G)) G46) fun x49 G48 =>
  bP (pickV x41 x49 (.bool false)) fun x50 =>
  bS (gd x50 true (bS (e.ev.cl 39 [] G48) fun y G => some (y, G)) G48) fun x52 G51 =>
  bP (pickV x50 x52 (.bool false)) fun x53 =>
  some (x53, G51)
theorem m6 {e : Ex} {E : Ev} (h : ExLe Q e E) (v0 v1 v2 : Value) (G : GS) : Ref (s6 true e v0 v1 v2 G) (s6 false (Ex.of E) v0 v1 v2 G) := by
  unfold s6
  exact Ref.gq
theorem f6 {orc : FuncId → Bool} {e : Ex} (h : ExLe Q e (E orc)) (v0 v1 v2 : Value) (G : GS) : Ref (s6 true e v0 v1 v2 G) ((E orc).cl 6 [v0, v1, v2] G) :=
  fun r hr => cl_sxE_some Q orc (vs := [v0, v1, v2]) G Tryz.func6 (by kernel_rfl) (by kernel_rfl) (by kernel_rfl) (by kernel_rfl) (by kernel_rfl) (by kernel_rfl) (m6 h v0 v1 v2 G r hr)
/-- coxswain/mail.Box -/
noncomputable def s33 (q : Bool) (e : Ex) (v0 v1 : Value) (G : GS) : Option (Value × GS) :=
  bS (bx q v0 G) fun x0 G1 =>
  bS (bx q v1 G1) fun x2 G3 =>
  bS (al Q q 97 z97 G3) fun x4 G5 =>
  bS (al Q q 4 z4 G5) fun x6 G7 =>
  bP (lda Q q 95 3 x0 G7) fun x8 =>
  bS (e.ev.cl 131 [x8] G7) fun x9 G10 =>
  bP (un Q q .not x9) fun x11 =>
  ifV x11 (
  bP (bd Q q 97 z97 [] []) fun x12 =>
  bP (st Q q 97 4 x4 x12 G10) fun G13 =>
  bP (st Q q 4 1 x6 (.bool false) G13) fun G14 =>
  bP (lda Q q 97 4 x4 G14) fun x15 =>
  bP (ld Q q 4 x6 G14) fun x16 =>
  some (.tuple #[x15, x16], G14)) (
  bP (lda Q q 95 3 x0 G10) fun x17 =>
  bS (e.ev.cl 132 [x17] G10) fun x18 G19 =>
  bX (xRange e.ev x18 #[14, 15] (subAt [1, 1, 0, 1, 0, 0] (bodyOf Tryz.f33)) (subAt [1, 1, 0, 1, 0, 1] (bodyOf Tryz.f33)) (lsq q 21 (nth undef [v0, v1]) [(13, x18), (12, x17), (10, x11), (9, x9), (8, x8), (5, x6), (4, x4), (3, x2), (2, x0)]) G19) fun e20 T21 G22 =>
  bV q (nth undef T21 4) fun T21x4_ =>
  bV q (nth undef T21 5) fun T21x5_ =>
  ifE e20 .normal (
  bP (bd Q q 97 z97 [] []) fun x23 =>
  bP (st Q q 97 4 T21x4_ x23 G22) fun G24 =>
  bP (st Q q 4 1 T21x5_ (.bool false) G24) fun G25 =>
  bP (lda Q q 97 4 T21x4_ G25) fun x26 =>
  bP (ld Q q 4 T21x5_ G25) fun x27 =>
  some (.tuple #[x26, x27], G25)) (ifE e20 .ret (
  bP (lda Q q 97 4 T21x4_ G22) fun x28 =>
  bP (ld Q q 4 T21x5_ G22) fun x29 =>
  some (.tuple #[x28, x29], G22)) (none)))
theorem m33 {e : Ex} {E : Ev} (h : ExLe Q e E) (v0 v1 : Value) (G : GS) : Ref (s33 true e v0 v1 G) (s33 false (Ex.of E) v0 v1 G) := by
  unfold s33
  exact Ref.gq
theorem f33 {orc : FuncId → Bool} {e : Ex} (h : ExLe Q e (E orc)) (v0 v1 : Value) (G : GS) : Ref (s33 true e v0 v1 G) ((E orc).cl 33 [v0, v1] G) :=
  fun r hr => cl_sxE_some Q orc (vs := [v0, v1]) G Tryz.func33 (by kernel_rfl) (by kernel_rfl) (by kernel_rfl) (by kernel_rfl) (by kernel_rfl) (by kernel_rfl) (m33 h v0 v1 G r hr)
noncomputable def r33_0 (q : Bool) (e : Ex) (l : Nat) (τ : Env) (u0 u1 : Value) (G : GS) : Option (Value × GS) :=
  bV q (τ 3) fun a3_ =>
  bV q (τ 4) fun a4_ =>
  bV q (τ 5) fun a5_ =>
  bS (al Q q 97 z97 G) fun x0 G1 =>
  bP (st Q q 97 4 x0 u1 G1) fun G2 =>
  bP (G2.loop l) fun r3 => if r3.st = .ready then
  bP (ld Q q 3 a3_ (G2.putLoop l (Lp.setSt r3 .busy))) fun x4 =>
  bP (bn Q q .eql 3 (.tmp 16) (.tmp 17) u0 x4) fun x5 =>
  ifV x5 (
  bP (lda Q q 97 4 x0 (G2.putLoop l (Lp.setSt r3 .busy))) fun x6 =>
  bP (st Q q 97 4 a4_ x6 (G2.putLoop l (Lp.setSt r3 .busy))) fun G7 =>
  bP (st Q q 4 1 a5_ (.bool true) G7) fun G8 =>
  roundEnd l .ret G8) (
  roundEnd l .normal (G2.putLoop l (Lp.setSt r3 .busy)))
  else none
theorem mr33_0 {e : Ex} {E : Ev} (h : ExLe Q e E) (l : Nat) (τ : Env) (u0 u1 : Value) (G : GS) : Ref (r33_0 true e l τ u0 u1 G) (r33_0 false (Ex.of E) l τ u0 u1 G) := by
  unfold r33_0
  repeat' (with_reducible first | exact Ref.rfl' _ | exact ROp.r | refine Ref.bP ?_ fun _ => ?_ | refine Ref.bS ?_ fun _ _ => ?_ | exact Ref.cl (by assumption) | refine Ref.ifV ?_ ?_ | refine LpLe.rx (by assumption) ?_ | refine Ref.xitq ?_ | exact UOk.z | refine UOk.c (by assumption) ?_ | exact Ref.nil _ | refine Ref.bVe fun _ _ => ?_ | refine Ref.bLq (by assumption) ?_ fun _ _ _ => ?_ | refine Ref.ifE ?_ ?_ | refine Ref.chk ?_ ?_ | refine Imp.and ?_ ?_ | refine Imp.or ?_ | exact Imp.rfl' _ | refine Imp.sameO ?_ | refine Ref.gd ?_ | exact Ref.cValue (by assumption) | refine Ref.bX ?_ fun _ _ _ => ?_ | exact Ref.scQ (by assumption) | exact Ref.xRangeQ (by assumption) | exact Ref.cInvoke (by assumption) | refine Ref.rdy ?_)
theorem d33_0 {orc : FuncId → Bool} {e : Ex} (h : ExLe Q e (E orc)) (l : Nat) (T : List Value) (u0 u1 : Value) (G : GS) {st : LoopState} {pend : Option Code} (hl : G.loop l = some ⟨st, pend, T, [14, 15], (subAt [1, 1, 0, 1, 0, 0] (bodyOf Tryz.f33)), (subAt [1, 1, 0, 1, 0, 1] (bodyOf Tryz.f33))⟩) (hT : T.length = 21) : Ref (r33_0 true e l (nth undef T) u0 u1 G) ((E orc).rd l [u0, u1] G) :=
  fun r hr => rd_sxE Q orc hl (by kernel_rfl) hT (by kernel_rfl) (mr33_0 h l _ u0 u1 G r hr)
/-- coxswain/coxswainref25.Box -/
noncomputable def s34 (q : Bool) (e : Ex) (v0 v1 : Value) (G : GS) : Option (Value × GS) :=
  bS (bx q v0 G) fun x0 G1 =>
  bS (al Q q 97 z97 G1) fun x2 G3 =>
  bP (lda Q q 95 3 x0 G3) fun x4 =>
  bS (e.ev.cl 133 [x4] G3) fun x5 G6 =>
  bP (un Q q .not x5) fun x7 =>
  bS (gd x7 false (some (v1, G6)) G6) fun x8 G9 =>
  bS (gd x7 false (bP (bn Q q .lss 3 (.tmp 10) (.const (.int .i64 0)) x8 (.int .i64 0)) fun y => some (y, G9)) G9) fun x10 G11 =>
  bP (pickV x7 (.bool true) x10) fun x12 =>
  bS (gd x12 false (some (v1, G11)) G11) fun x13 G14 =>
  bS (gd x12 false (bP (fa Q q 95 1 1 x0) fun y => some (y, G14)) G14) fun x15 G16 =>
  bS (gd x12 false (bP (ld Q q 3 x15 G16) fun y => some (y, G16)) G16) fun x17 G18 =>
  bS (gd x12 false (bP (bn Q q .geq 3 (.tmp 14) (.tmp 16) x13 x17) fun y => some (y, G18)) G18) fun x19 G20 =>
  bP (pickV x12 (.bool true) x19) fun x21 =>
  ifV x21 (
  bP (bd Q q 97 z97 [] []) fun x22 =>
  bP (st Q q 97 4 x2 x22 G20) fun G23 =>
  bP (lda Q q 97 4 x2 G23) fun x24 =>
  some (.tuple #[x24, (.bool false)], G23)) (
  bP (lda Q q 95 3 x0 G20) fun x25 =>
  bS (e.ev.cl 134 [x25, v1] G20) fun x26 G27 =>
  bP (st Q q 97 4 x2 x26 G27) fun G28 =>
  bP (lda Q q 97 4 x2 G28) fun x29 =>
  some (.tuple #[x29, (.bool true)], G28))
theorem m34 {e : Ex} {E : Ev} (h : ExLe Q e E) (v0 v1 : Value) (G : GS) : Ref (s34 true e v0 v1 G) (s34 false (Ex.of E) v0 v1 G) := by
  unfold s34
  exact Ref.gq
theorem f34 {orc : FuncId → Bool} {e : Ex} (h : ExLe Q e (E orc)) (v0 v1 : Value) (G : GS) : Ref (s34 true e v0 v1 G) ((E orc).cl 34 [v0, v1] G) :=
  fun r hr => cl_sxE_some Q orc (vs := [v0, v1]) G Tryz.func34 (by kernel_rfl) (by kernel_rfl) (by kernel_rfl) (by kernel_rfl) (by kernel_rfl) (by kernel_rfl) (m34 h v0 v1 G r hr)
/-- coxswain/mail.Size -/
noncomputable def s35 (q : Bool) (e : Ex) (v0 : Value) (G : GS) : Option (Value × GS) :=
  bS (bx q v0 G) fun x0 G1 =>
  bP (lda Q q 95 3 x0 G1) fun x2 =>
  bS (e.ev.cl 135 [x2] G1) fun x3 G4 =>
  bP (un Q q .not x3) fun x5 =>
  ifV x5 (
  some ((.int .i64 0), G4)) (
  bP (fa Q q 95 1 1 x0) fun x6 =>
  bP (ld Q q 3 x6 G4) fun x7 =>
  bP (fa Q q 95 2 2 x0) fun x8 =>
  bP (ld Q q 3 x8 G4) fun x9 =>
  bP (bn Q q .add 3 (.tmp 9) (.const (.int .i64 2)) x9 (.int .i64 2)) fun x10 =>
  bP (bn Q q .mul 3 (.tmp 7) (.tmp 10) x7 x10) fun x11 =>
  some (x11, G4))
theorem m35 {e : Ex} {E : Ev} (h : ExLe Q e E) (v0 : Value) (G : GS) : Ref (s35 true e v0 G) (s35 false (Ex.of E) v0 G) := by
  unfold s35
  exact Ref.gq
theorem f35 {orc : FuncId → Bool} {e : Ex} (h : ExLe Q e (E orc)) (v0 : Value) (G : GS) : Ref (s35 true e v0 G) ((E orc).cl 35 [v0] G) :=
  fun r hr => cl_sxE_some Q orc (vs := [v0]) G Tryz.func35 (by kernel_rfl) (by kernel_rfl) (by kernel_rfl) (by kernel_rfl) (by kernel_rfl) (by kernel_rfl) (m35 h v0 G r hr)
/-- coxswain/coxswainref25.Size -/
noncomputable def s36 (q : Bool) (e : Ex) (v0 : Value) (G : GS) : Option (Value × GS) :=
  bS (bx q v0 G) fun x0 G1 =>
  bP (lda Q q 95 3 x0 G1) fun x2 =>
  bS (e.ev.cl 136 [x2] G1) fun x3 G4 =>
  bP (un Q q .not x3) fun x5 =>
  ifV x5 (
  some ((.int .i64 0), G4)) (
  bP (fa Q q 95 1 1 x0) fun x6 =>
  bP (ld Q q 3 x6 G4) fun x7 =>
  bP (fa Q q 95 2 2 x0) fun x8 =>
  bP (ld Q q 3 x8 G4) fun x9 =>
  bP (bn Q q .add 3 (.tmp 9) (.const (.int .i64 2)) x9 (.int .i64 2)) fun x10 =>
  bP (bn Q q .mul 3 (.tmp 7) (.tmp 10) x7 x10) fun x11 =>
  some (x11, G4))
theorem m36 {e : Ex} {E : Ev} (h : ExLe Q e E) (v0 : Value) (G : GS) : Ref (s36 true e v0 G) (s36 false (Ex.of E) v0 G) := by
  unfold s36
  exact Ref.gq
theorem f36 {orc : FuncId → Bool} {e : Ex} (h : ExLe Q e (E orc)) (v0 : Value) (G : GS) : Ref (s36 true e v0 G) ((E orc).cl 36 [v0] G) :=
  fun r hr => cl_sxE_some Q orc (vs := [v0]) G Tryz.func36 (by kernel_rfl) (by kernel_rfl) (by kernel_rfl) (by kernel_rfl) (by kernel_rfl) (by kernel_rfl) (m36 h v0 G r hr)
/-- coxswain/coxswainlaw25.begin -/
noncomputable def s37 (q : Bool) (e : Ex) (v0 v1 : Value) (G : GS) : Option (Value × GS) :=
  bS (bx q v0 G) fun x0 G1 =>
  bS (bx q v1 G1) fun x2 G3 =>
  bS (al Q q 106 z106 G3) fun x4 G5 =>
  bP (fa Q q 109 1 1 x2) fun x6 =>
  bP (ld Q q 3 x6 G5) fun x7 =>
  bP (bn Q q .eql 3 (.tmp 6) (.const (.int .i64 1)) x7 (.int .i64 1)) fun x8 =>
  ifV x8 (
  bP (lda Q q 95 3 x0 (G5.room 14)) fun x9 =>
  bP (fa Q q 109 2 2 x2) fun x10 =>
  bP (ld Q q 3 x10 (G5.room 14)) fun x11 =>
  bP (fa Q q 109 3 3 x2) fun x12 =>
  bP (ld Q q 3 x12 (G5.room 14)) fun x13 =>
  bS (e.ev.cl 137 [x9, x11, x13] (G5.room 14)) fun x15 G14 =>
  bP (lda Q q 95 3 x0 G14) fun x16 =>
  chk ((sameO (lda Q q 95 3 x0 (G5.room 14)) x16 && true)) <|
  bP (fa Q q 109 2 2 x2) fun x17 =>
  bP (ld Q q 3 x17 G14) fun x18 =>
  chk ((sameO (ld Q q 3 x17 (G5.room 14)) x18 && true)) <|
  bP (fa Q q 109 3 3 x2) fun x19 =>
  bP (ld Q q 3 x19 G14) fun x20 =>
  chk ((sameO (ld Q q 3 x19 (G5.room 14)) x20 && true)) <|
  bS (e.ev.cl 138 [x16, x18, x20] G14) fun x22 G21 =>
  bP (bd Q q 106 z106 [(0, 0, 1), (1, 1, 1)] [x15, x22]) fun x23 =>
  bP (st Q q 106 4 x4 x23 G21) fun G24 =>
  bP (lda Q q 106 4 x4 G24) fun x25 =>
  some (x25, G24)) (
  bP (lda Q q 95 3 x0 (G5.room 14)) fun x26 =>
  bP (fa Q q 109 2 2 x2) fun x27 =>
  bP (ld Q q 3 x27 (G5.room 14)) fun x28 =>
  bP (fa Q q 109 3 3 x2) fun x29 =>
  bP (ld Q q 3 x29 (G5.room 14)) fun x30 =>
  bS (e.ev.cl 139 [x26, x28, x30] (G5.room 14)) fun x32 G31 =>
  bP (lda Q q 95 3 x0 G31) fun x33 =>
  chk ((sameO (lda Q q 95 3 x0 (G5.room 14)) x33 && true)) <|
  bP (fa Q q 109 2 2 x2) fun x34 =>
  bP (ld Q q 3 x34 G31) fun x35 =>
  chk ((sameO (ld Q q 3 x34 (G5.room 14)) x35 && true)) <|
  bP (fa Q q 109 3 3 x2) fun x36 =>
  bP (ld Q q 3 x36 G31) fun x37 =>
  chk ((sameO (ld Q q 3 x36 (G5.room 14)) x37 && true)) <|
  bS (e.ev.cl 140 [x33, x35, x37] G31) fun x39 G38 =>
  bP (bd Q q 106 z106 [(2, 2, 1), (3, 3, 1)] [x32, x39]) fun x40 =>
  bP (st Q q 106 4 x4 x40 G38) fun G41 =>
  bP (lda Q q 106 4 x4 G41) fun x42 =>
  some (x42, G41))
theorem m37 {e : Ex} {E : Ev} (h : ExLe Q e E) (v0 v1 : Value) (G : GS) : Ref (s37 true e v0 v1 G) (s37 false (Ex.of E) v0 v1 G) := by
  unfold s37
  exact Ref.gq
theorem f37 {orc : FuncId → Bool} {e : Ex} (h : ExLe Q e (E orc)) (v0 v1 : Value) (G : GS) : Ref (s37 true e v0 v1 G) ((E orc).cl 37 [v0, v1] G) :=
  fun r hr => cl_sxE_some Q orc (vs := [v0, v1]) G Tryz.func37 (by kernel_rfl) (by kernel_rfl) (by kernel_rfl) (by kernel_rfl) (by kernel_rfl) (by kernel_rfl) (m37 h v0 v1 G r hr)
/-- (coxswain/coxswainlaw25.both).told -/
noncomputable def s38 (q : Bool) (e : Ex) (v0 : Value) (G : GS) : Option (Value × GS) :=
  bS (bx q v0 G) fun x0 G1 =>
  bP (fa Q q 106 1 1 x0) fun x2 =>
  bP (ld Q q 102 x2 G1) fun x3 =>
  bP (ep Q q true 102 (.tmp 9) (.const (.pointer none)) x3 (.pointer none)) fun x4 =>
  ifV x4 (
  bP (fa Q q 106 0 0 x0) fun x5 =>
  bP (ld Q q 101 x5 (G1.room 8)) fun x6 =>
  bS (e.ev.cl 141 [x6] (G1.room 8)) fun x8 G7 =>
  bP (fa Q q 106 1 1 x0) fun x9 =>
  bP (ld Q q 102 x9 G7) fun x10 =>
  chk ((sameO (ld Q q 102 x9 (G1.room 8)) x10 && true)) <|
  bS (e.ev.cl 142 [x10] G7) fun x12 G11 =>
  bP (bn Q q .eql 33 (.tmp 13) (.tmp 16) x8 x12) fun x13 =>
  some (x13, G11)) (
  bP (fa Q q 106 3 3 x0) fun x14 =>
  bP (ld Q q 104 x14 G1) fun x15 =>
  bP (ep Q q true 104 (.tmp 19) (.const (.pointer none)) x15 (.pointer none)) fun x16 =>
  ifV x16 (
  bP (fa Q q 106 2 2 x0) fun x17 =>
  bP (ld Q q 103 x17 G1) fun x18 =>
  bS (e.ev.cl 143 [x18] G1) fun x19 G20 =>
  bP (pExtract x19 0) fun x21 =>
  bP (pExtract x19 1) fun x22 =>
  bP (fa Q q 106 3 3 x0) fun x23 =>
  bP (ld Q q 104 x23 G20) fun x24 =>
  bS (e.ev.cl 144 [x24] G20) fun x25 G26 =>
  bP (pExtract x25 0) fun x27 =>
  bP (pExtract x25 1) fun x28 =>
  bS (e.ev.cl 84 [x21, x27] G26) fun x29 G30 =>
  bS (gd x29 true (some (x22, G30)) G30) fun x31 G32 =>
  bS (gd x29 true (some (x28, G32)) G32) fun x33 G34 =>
  bS (gd x29 true (bP (bn Q q .eql 33 (.tmp 37) (.tmp 38) x31 x33) fun y => some (y, G34)) G34) fun x35 G36 =>
  bP (pickV x29 x35 (.bool false)) fun x37 =>
  bS (e.ev.cl 145 [x21] G36) fun x38 G39 =>
  some (x37, G39)) (
  some ((.bool true), G1)))
theorem m38 {e : Ex} {E : Ev} (h : ExLe Q e E) (v0 : Value) (G : GS) : Ref (s38 true e v0 G) (s38 false (Ex.of E) v0 G) := by
  unfold s38
  exact Ref.gq
theorem f38 {orc : FuncId → Bool} {e : Ex} (h : ExLe Q e (E orc)) (v0 : Value) (G : GS) : Ref (s38 true e v0 G) ((E orc).cl 38 [v0] G) :=
  fun r hr => cl_sxE_some Q orc (vs := [v0]) G Tryz.func38 (by kernel_rfl) (by kernel_rfl) (by kernel_rfl) (by kernel_rfl) (by kernel_rfl) (by kernel_rfl) (m38 h v0 G r hr)
/-- coxswain/coxswainlaw25.awake -/
noncomputable def s39 (q : Bool) (e : Ex) (G : GS) : Option (Value × GS) :=
  bS (e.ev.cl 146 [] G) fun x0 G1 =>
  bS (al Q q 95 z95 G1) fun x2 G3 =>
  bP (st Q q 95 3 x2 x0 G3) fun G4 =>
  bS (e.ev.cl 147 [] G4) fun x5 G6 =>
  bP (ep Q q false 32 (.tmp 7) (.const (.pointer none)) x5 (.pointer none)) fun x7 =>
  bS (gd x7 false (bP (lda Q q 95 3 x2 G6) fun y => some (y, G6)) G6) fun x8 G9 =>
  bS (gd x7 false (some (x5, G9)) G9) fun x10 G11 =>
  bS (gd x7 false (bS (e.ev.cl 148 [x8, (.int .i64 1), x10] G11) fun y G => some (y, G)) G11) fun x12 G13 =>
  bS (gd x7 false (bS (bs Q q 78 2 (rep z3 2) 1 [(0, 0, 1), (1, 1, 1)] [(.int .i64 9), (.int .i64 8)] G13) fun y G => some (y, G)) G13) fun x14 G15 =>
  bS (gd x7 false (bS (e.ev.cl 84 [x12, x14] G15) fun y G => some (y, G)) G15) fun x16 G17 =>
  bS (gd x7 false (bP (un Q q .not x16) fun y => some (y, G17)) G17) fun x18 G19 =>
  bP (pickV x7 (.bool true) x18) fun x20 =>
  bS (gd x20 false (bP (lda Q q 95 3 x2 G19) fun y => some (y, G19)) G19) fun x21 G22 =>
  bS (gd x20 false (some (x5, G22)) G22) fun x23 G24 =>
  bS (gd x20 false (bS (e.ev.cl 149 [x21, x23] G24) fun y G => some (y, G)) G24) fun x25 G26 =>
  bP (pickV x20 (.bool true) x25) fun x27 =>
  ifV x27 (
  some ((.bool false), G26)) (
  bP (lda Q q 95 3 x2 G26) fun x28 =>
  bS (e.ev.cl 150 [x28, x5, (.int .i64 1), (.int .i64 1)] G26) fun x29 G30 =>
  bP (pExtract x29 0) fun x31 =>
  bP (pExtract x29 1) fun x32 =>
  bS (bs Q q 78 1 (rep z3 1) 1 [(0, 0, 1)] [(.int .i64 9)] G30) fun x33 G34 =>
  bS (e.ev.cl 84 [x31, x33] G34) fun x35 G36 =>
  bS (gd x35 true (some (x32, G36)) G36) fun x37 G38 =>
  bS (gd x35 true (bP (bn Q q .eql 3 (.tmp 32) (.const (.int .i64 4)) x37 (.int .i64 4)) fun y => some (y, G38)) G38) fun x39 G40 =>
  bP (pickV x35 x39 (.bool false)) fun x41 =>
  some (x41, G40))
theorem m39 {e : Ex} {E : Ev} (h : ExLe Q e E) (G : GS) : Ref (s39 true e  G) (s39 false (Ex.of E)  G) := by
  unfold s39
  exact Ref.gq
theorem f39 {orc : FuncId → Bool} {e : Ex} (h : ExLe Q e (E orc)) (ho : orc 39 = false) (G : GS) : Ref (s39 true e  G) ((E orc).cl 39 [] G) :=
  fun r hr => cl_sxE_some Q orc (vs := []) G Tryz.func39 (by kernel_rfl) (by kernel_rfl) ho (by kernel_rfl) (by kernel_rfl) (by kernel_rfl) (m39 h  G r hr)
/-- (*coxswain/cells.Mem).CAS -/
noncomputable def s68 (q : Bool) (e : Ex) (v0 v1 v2 v3 : Value) (G : GS) : Option (Value × GS) :=
  bS (e.ev.cl 158 [v0, v1] G) fun x0 G1 =>
  bP (bd Q q 246 z246 [(0, 0, 1), (1, 1, 1), (2, 2, 1)] [x0, v2, v3]) fun x2 =>
  bS (al Q q 246 z246 G1) fun x3 G4 =>
  bP (st Q q 246 3 x3 x2 G4) fun G5 =>
  bP (fa Q q 246 0 0 x3) fun x6 =>
  bP (ld Q q 243 x6 G5) fun x7 =>
  bP (lda Q q 246 3 x3 G5) fun x8 =>
  bS (e.ev.cl 159 [v0, (.int .i64 3), v1, x7, (.func (.func 193) #[x8] #[])] G5) fun x9 G10 =>
  bP (fd Q q 68 4 4 x9) fun x11 =>
  some (x11, G10)
theorem m68 {e : Ex} {E : Ev} (h : ExLe Q e E) (v0 v1 v2 v3 : Value) (G : GS) : Ref (s68 true e v0 v1 v2 v3 G) (s68 false (Ex.of E) v0 v1 v2 v3 G) := by
  unfold s68
  exact Ref.gq
theorem f68 {orc : FuncId → Bool} {e : Ex} (h : ExLe Q e (E orc)) (v0 v1 v2 v3 : Value) (G : GS) : Ref (s68 true e v0 v1 v2 v3 G) ((E orc).cl 68 [v0, v1, v2, v3] G) :=
  fun r hr => cl_sxE_some Q orc (vs := [v0, v1, v2, v3]) G Tryz.func68 (by kernel_rfl) (by kernel_rfl) (by kernel_rfl) (by kernel_rfl) (by kernel_rfl) (by kernel_rfl) (m68 h v0 v1 v2 v3 G r hr)
noncomputable def b84_0 (q : Bool) (e : Ex) (lp : Env → GS → Option (Exit × Env × GS)) (τ : Env) (G : GS) : Option (Exit × Env × GS) :=
  bV q (τ 0) fun a0_ =>
  bV q (τ 1) fun a1_ =>
  bV q (τ 5) fun a5_ =>
  bV q (τ 6) fun a6_ =>
  bS (gd a5_ true (some (a6_, G)) G) fun x0 G1 =>
  bS (gd a5_ true (some (a0_, G1)) G1) fun x2 G3 =>
  bS (gd a5_ true (bP (ln Q q 78 x2) fun y => some (y, G3)) G3) fun x4 G5 =>
  bS (gd a5_ true (bP (bn Q q .lss 3 (.tmp 14) (.tmp 16) x0 x4) fun y => some (y, G5)) G5) fun x6 G7 =>
  bP (pickV a5_ x6 (.bool false)) fun x8 =>
  ifV x8 (
  bP (ias Q q 78 1 a0_ a6_) fun x9 =>
  bP (ld Q q 3 x9 (G7.room 10)) fun x10 =>
  bP (ias Q q 78 1 a1_ a6_) fun x11 =>
  bP (ld Q q 3 x11 (G7.room 10)) fun x12 =>
  bP (bn Q q .eql 3 (.tmp 24) (.tmp 28) x10 x12) fun x13 =>
  bP (bn Q q .add 3 (.tmp 19) (.const (.int .i64 1)) a6_ (.int .i64 1)) fun x14 =>
  lp (xq q 31 τ [(6, x14), (20, x14), (19, a6_), (5, x13), (29, x13), (28, x12), (27, x11), (26, a6_), (25, a1_), (24, x10), (23, x9), (22, a6_), (21, a0_), (18, x8), (17, x6), (16, x4), (15, x2), (14, x0), (13, a5_), (12, a5_)] [(0, a0_), (1, a1_)]) (G7.room 10)) (
  some ((.exit 0), xq q 31 τ [(18, x8), (17, x6), (16, x4), (15, x2), (14, x0), (13, a5_), (12, a5_)] [(0, a0_), (1, a1_), (5, a5_), (6, a6_)], G7))
theorem mb84_0 {e : Ex} {E : Ev} (h : ExLe Q e E) {lp lp' : Env → GS → Option (Exit × Env × GS)} (hlp : LpLe lp lp') (τ : Env) (G : GS) : Ref (b84_0 true e lp τ G) (b84_0 false (Ex.of E) lp' τ G) := by
  unfold b84_0
  exact Ref.gq
theorem l84_0 {orc : FuncId → Bool} {e : Ex} (h : ExLe Q e (E orc)) (lp : Env → GS → Option (Exit × Env × GS)) (hlp : ∀ τ G, Ref (lp τ G) (mapE ((E orc).lp (subAt [1, 1, 0, 1, 0, 0] (bodyOf Tryz.f84)) (lst 31 τ) G))) (T : List Value) (G : GS) (hT : T.length = 31) : Ref (b84_0 true e lp (nth undef T) G) (mapE ((E orc).lp (subAt [1, 1, 0, 1, 0, 0] (bodyOf Tryz.f84)) T G)) :=
  fun r hr => lp_sxN Q orc G hT (by kernel_rfl) (mb84_0 h ⟨hlp⟩ _ _ r hr)
/-- coxswain/coxswainkit.SameInts -/
noncomputable def s84 (q : Bool) (e : Ex) (v0 v1 : Value) (G : GS) : Option (Value × GS) :=
  bP (ln Q q 78 v0) fun x0 =>
  bP (ln Q q 78 v1) fun x1 =>
  bP (bn Q q .eql 3 (.tmp 8) (.tmp 10) x0 x1) fun x2 =>
  bLq q e 84 0 (subAt [1, 1, 0, 1, 0, 0] (bodyOf Tryz.f84)) 31 (nth undef [v0, v1]) [(6, (.int .i64 0)), (5, x2), (11, x2), (10, x1), (9, v1), (8, x0), (7, v0), (4, (.bool false))] [] G fun e3 t4 G5 =>
  bV q (t4 5) fun t4x5_ =>
  ifE e3 (.exit 0) (
  some (t4x5_, G5)) (none)
theorem m84 {e : Ex} {E : Ev} (h : ExLe Q e E) (v0 v1 : Value) (G : GS) : Ref (s84 true e v0 v1 G) (s84 false (Ex.of E) v0 v1 G) := by
  unfold s84
  exact Ref.gq
theorem f84 {orc : FuncId → Bool} {e : Ex} (h : ExLe Q e (E orc)) (v0 v1 : Value) (G : GS) : Ref (s84 true e v0 v1 G) ((E orc).cl 84 [v0, v1] G) :=
  fun r hr => cl_sxE_some Q orc (vs := [v0, v1]) G Tryz.func84 (by kernel_rfl) (by kernel_rfl) (by kernel_rfl) (by kernel_rfl) (by kernel_rfl) (by kernel_rfl) (m84 h v0 v1 G r hr)
/-- coxswain/mail.placed -/
noncomputable def s131 (q : Bool) (e : Ex) (v0 : Value) (G : GS) : Option (Value × GS) :=
  bS (bx q v0 G) fun x0 G1 =>
  bP (lda Q q 95 3 x0 G1) fun x2 =>
  bS (e.ev.cl 135 [x2] G1) fun x3 G4 =>
  bS (gd x3 true (bP (fa Q q 95 0 0 x0) fun y => some (y, G4)) G4) fun x5 G6 =>
  bS (gd x3 true (bP (ld Q q 3 x5 G6) fun y => some (y, G6)) G6) fun x7 G8 =>
  bS (gd x3 true (bP (bn Q q .geq 3 (.tmp 7) (.const (.int .i64 0)) x7 (.int .i64 0)) fun y => some (y, G8)) G8) fun x9 G10 =>
  bP (pickV x3 x9 (.bool false)) fun x11 =>
  bS (gd x11 true (bP (fa Q q 95 0 0 x0) fun y => some (y, G10)) G10) fun x12 G13 =>
  bS (gd x11 true (bP (ld Q q 3 x12 G13) fun y => some (y, G13)) G13) fun x14 G15 =>
  bS (gd x11 true (bP (bn Q q .lss 3 (.tmp 12) (.const (.int .i64 4096)) x14 (.int .i64 4096)) fun y => some (y, G15)) G15) fun x16 G17 =>
  bP (pickV x11 x16 (.bool false)) fun x18 =>
  some (x18, G17)
theorem m131 {e : Ex} {E : Ev} (h : ExLe Q e E) (v0 : Value) (G : GS) : Ref (s131 true e v0 G) (s131 false (Ex.of E) v0 G) := by
  unfold s131
  exact Ref.gq
theorem f131 {orc : FuncId → Bool} {e : Ex} (h : ExLe Q e (E orc)) (v0 : Value) (G : GS) : Ref (s131 true e v0 G) ((E orc).cl 131 [v0] G) :=
  fun r hr => cl_sxE_some Q orc (vs := [v0]) G Tryz.func131 (by kernel_rfl) (by kernel_rfl) (by kernel_rfl) (by kernel_rfl) (by kernel_rfl) (by kernel_rfl) (m131 h v0 G r hr)
/-- coxswain/mail.boxes -/
noncomputable def s132 (q : Bool) (e : Ex) (v0 : Value) (G : GS) : Option (Value × GS) :=
  bS (bx q v0 G) fun x0 G1 =>
  some ((.func (.func 233) #[] #[x0]), G1)
theorem m132 {e : Ex} {E : Ev} (h : ExLe Q e E) (v0 : Value) (G : GS) : Ref (s132 true e v0 G) (s132 false (Ex.of E) v0 G) := by
  unfold s132
  exact Ref.gq
theorem f132 {orc : FuncId → Bool} {e : Ex} (h : ExLe Q e (E orc)) (v0 : Value) (G : GS) : Ref (s132 true e v0 G) ((E orc).cl 132 [v0] G) :=
  fun r hr => cl_sxE_some Q orc (vs := [v0]) G Tryz.func132 (by kernel_rfl) (by kernel_rfl) (by kernel_rfl) (by kernel_rfl) (by kernel_rfl) (by kernel_rfl) (m132 h v0 G r hr)
/-- coxswain/coxswainref25.sound -/
noncomputable def s133 (q : Bool) (e : Ex) (v0 : Value) (G : GS) : Option (Value × GS) :=
  bS (bx q v0 G) fun x0 G1 =>
  bP (lda Q q 95 3 x0 G1) fun x2 =>
  bS (e.ev.cl 136 [x2] G1) fun x3 G4 =>
  bS (gd x3 true (bP (fa Q q 95 0 0 x0) fun y => some (y, G4)) G4) fun x5 G6 =>
  bS (gd x3 true (bP (ld Q q 3 x5 G6) fun y => some (y, G6)) G6) fun x7 G8 =>
  bS (gd x3 true (bP (bn Q q .geq 3 (.tmp 7) (.const (.int .i64 0)) x7 (.int .i64 0)) fun y => some (y, G8)) G8) fun x9 G10 =>
  bP (pickV x3 x9 (.bool false)) fun x11 =>
  bS (gd x11 true (bP (fa Q q 95 0 0 x0) fun y => some (y, G10)) G10) fun x12 G13 =>
  bS (gd x11 true (bP (ld Q q 3 x12 G13) fun y => some (y, G13)) G13) fun x14 G15 =>
  bS (gd x11 true (bP (bn Q q .lss 3 (.tmp 12) (.const (.int .i64 4096)) x14 (.int .i64 4096)) fun y => some (y, G15)) G15) fun x16 G17 =>
  bP (pickV x11 x16 (.bool false)) fun x18 =>
  some (x18, G17)
theorem m133 {e : Ex} {E : Ev} (h : ExLe Q e E) (v0 : Value) (G : GS) : Ref (s133 true e v0 G) (s133 false (Ex.of E) v0 G) := by
  unfold s133
  exact Ref.gq
theorem f133 {orc : FuncId → Bool} {e : Ex} (h : ExLe Q e (E orc)) (v0 : Value) (G : GS) : Ref (s133 true e v0 G) ((E orc).cl 133 [v0] G) :=
  fun r hr => cl_sxE_some Q orc (vs := [v0]) G Tryz.func133 (by kernel_rfl) (by kernel_rfl) (by kernel_rfl) (by kernel_rfl) (by kernel_rfl) (by kernel_rfl) (m133 h v0 G r hr)
/-- coxswain/coxswainref25.ring -/
noncomputable def s134 (q : Bool) (e : Ex) (v0 v1 : Value) (G : GS) : Option (Value × GS) :=
  bS (bx q v0 G) fun x0 G1 =>
  bS (al Q q 97 z97 G1) fun x2 G3 =>
  bP (fa Q q 95 0 0 x0) fun x4 =>
  bP (ld Q q 3 x4 G3) fun x5 =>
  bP (fa Q q 95 2 2 x0) fun x6 =>
  bP (ld Q q 3 x6 G3) fun x7 =>
  bP (bn Q q .add 3 (.tmp 10) (.const (.int .i64 2)) x7 (.int .i64 2)) fun x8 =>
  bP (bn Q q .mul 3 (.tmp 8) (.tmp 11) v1 x8) fun x9 =>
  bP (bn Q q .add 3 (.tmp 7) (.tmp 12) x5 x9) fun x10 =>
  bP (bn Q q .add 3 (.tmp 15) (.const (.int .i64 1)) x10 (.int .i64 1)) fun x11 =>
  bP (bn Q q .add 3 (.tmp 17) (.const (.int .i64 2)) x10 (.int .i64 2)) fun x12 =>
  bP (fa Q q 95 2 2 x0) fun x13 =>
  bP (ld Q q 3 x13 G3) fun x14 =>
  bP (bd Q q 97 z97 [(0, 0, 1), (1, 1, 1), (2, 2, 1), (3, 3, 1)] [x10, x11, x12, x14]) fun x15 =>
  bP (st Q q 97 4 x2 x15 G3) fun G16 =>
  bP (lda Q q 97 4 x2 G16) fun x17 =>
  some (x17, G16)
theorem m134 {e : Ex} {E : Ev} (h : ExLe Q e E) (v0 v1 : Value) (G : GS) : Ref (s134 true e v0 v1 G) (s134 false (Ex.of E) v0 v1 G) := by
  unfold s134
  exact Ref.gq
theorem f134 {orc : FuncId → Bool} {e : Ex} (h : ExLe Q e (E orc)) (v0 v1 : Value) (G : GS) : Ref (s134 true e v0 v1 G) ((E orc).cl 134 [v0, v1] G) :=
  fun r hr => cl_sxE_some Q orc (vs := [v0, v1]) G Tryz.func134 (by kernel_rfl) (by kernel_rfl) (by kernel_rfl) (by kernel_rfl) (by kernel_rfl) (by kernel_rfl) (m134 h v0 v1 G r hr)
/-- coxswain/mail.sized -/
noncomputable def s135 (q : Bool) (e : Ex) (v0 : Value) (G : GS) : Option (Value × GS) :=
  bS (bx q v0 G) fun x0 G1 =>
  bP (fa Q q 95 1 1 x0) fun x2 =>
  bP (ld Q q 3 x2 G1) fun x3 =>
  bP (bn Q q .geq 3 (.tmp 4) (.const (.int .i64 1)) x3 (.int .i64 1)) fun x4 =>
  bS (gd x4 true (bP (fa Q q 95 1 1 x0) fun y => some (y, G1)) G1) fun x5 G6 =>
  bS (gd x4 true (bP (ld Q q 3 x5 G6) fun y => some (y, G6)) G6) fun x7 G8 =>
  bS (gd x4 true (bP (bn Q q .leq 3 (.tmp 8) (.const (.int .i64 64)) x7 (.int .i64 64)) fun y => some (y, G8)) G8) fun x9 G10 =>
  bP (pickV x4 x9 (.bool false)) fun x11 =>
  bS (gd x11 true (bP (fa Q q 95 2 2 x0) fun y => some (y, G10)) G10) fun x12 G13 =>
  bS (gd x11 true (bP (ld Q q 3 x12 G13) fun y => some (y, G13)) G13) fun x14 G15 =>
  bS (gd x11 true (bP (bn Q q .geq 3 (.tmp 13) (.const (.int .i64 1)) x14 (.int .i64 1)) fun y => some (y, G15)) G15) fun x16 G17 =>
  bP (pickV x11 x16 (.bool false)) fun x18 =>
  bS (gd x18 true (bP (fa Q q 95 2 2 x0) fun y => some (y, G17)) G17) fun x19 G20 =>
  bS (gd x18 true (bP (ld Q q 3 x19 G20) fun y => some (y, G20)) G20) fun x21 G22 =>
  bS (gd x18 true (bP (bn Q q .leq 3 (.tmp 18) (.const (.int .i64 16)) x21 (.int .i64 16)) fun y => some (y, G22)) G22) fun x23 G24 =>
  bP (pickV x18 x23 (.bool false)) fun x25 =>
  some (x25, G24)
theorem m135 {e : Ex} {E : Ev} (h : ExLe Q e E) (v0 : Value) (G : GS) : Ref (s135 true e v0 G) (s135 false (Ex.of E) v0 G) := by
  unfold s135
  exact Ref.gq
theorem f135 {orc : FuncId → Bool} {e : Ex} (h : ExLe Q e (E orc)) (v0 : Value) (G : GS) : Ref (s135 true e v0 G) ((E orc).cl 135 [v0] G) :=
  fun r hr => cl_sxE_some Q orc (vs := [v0]) G Tryz.func135 (by kernel_rfl) (by kernel_rfl) (by kernel_rfl) (by kernel_rfl) (by kernel_rfl) (by kernel_rfl) (m135 h v0 G r hr)
/-- coxswain/coxswainref25.right -/
noncomputable def s136 (q : Bool) (e : Ex) (v0 : Value) (G : GS) : Option (Value × GS) :=
  bS (bx q v0 G) fun x0 G1 =>
  bP (fa Q q 95 1 1 x0) fun x2 =>
  bP (ld Q q 3 x2 G1) fun x3 =>
  bP (bn Q q .geq 3 (.tmp 4) (.const (.int .i64 1)) x3 (.int .i64 1)) fun x4 =>
  bS (gd x4 true (bP (fa Q q 95 1 1 x0) fun y => some (y, G1)) G1) fun x5 G6 =>
  bS (gd x4 true (bP (ld Q q 3 x5 G6) fun y => some (y, G6)) G6) fun x7 G8 =>
  bS (gd x4 true (bP (bn Q q .leq 3 (.tmp 8) (.const (.int .i64 64)) x7 (.int .i64 64)) fun y => some (y, G8)) G8) fun x9 G10 =>
  bP (pickV x4 x9 (.bool false)) fun x11 =>
  bS (gd x11 true (bP (fa Q q 95 2 2 x0) fun y => some (y, G10)) G10) fun x12 G13 =>
  bS (gd x11 true (bP (ld Q q 3 x12 G13) fun y => some (y, G13)) G13) fun x14 G15 =>
  bS (gd x11 true (bP (bn Q q .geq 3 (.tmp 13) (.const (.int .i64 1)) x14 (.int .i64 1)) fun y => some (y, G15)) G15) fun x16 G17 =>
  bP (pickV x11 x16 (.bool false)) fun x18 =>
  bS (gd x18 true (bP (fa Q q 95 2 2 x0) fun y => some (y, G17)) G17) fun x19 G20 =>
  bS (gd x18 true (bP (ld Q q 3 x19 G20) fun y => some (y, G20)) G20) fun x21 G22 =>
  bS (gd x18 true (bP (bn Q q .leq 3 (.tmp 18) (.const (.int .i64 16)) x21 (.int .i64 16)) fun y => some (y, G22)) G22) fun x23 G24 =>
  bP (pickV x18 x23 (.bool false)) fun x25 =>
  some (x25, G24)
theorem m136 {e : Ex} {E : Ev} (h : ExLe Q e E) (v0 : Value) (G : GS) : Ref (s136 true e v0 G) (s136 false (Ex.of E) v0 G) := by
  unfold s136
  exact Ref.gq
theorem f136 {orc : FuncId → Bool} {e : Ex} (h : ExLe Q e (E orc)) (v0 : Value) (G : GS) : Ref (s136 true e v0 G) ((E orc).cl 136 [v0] G) :=
  fun r hr => cl_sxE_some Q orc (vs := [v0]) G Tryz.func136 (by kernel_rfl) (by kernel_rfl) (by kernel_rfl) (by kernel_rfl) (by kernel_rfl) (by kernel_rfl) (m136 h v0 G r hr)
noncomputable def jb137_0 (q : Bool) (e : Ex) (τ : Env) (G : GS) : Option (Value × GS) :=
  bV q (τ 1) fun a1_ =>
  bV q (τ 2) fun a2_ =>
  bV q (τ 3) fun a3_ =>
  bV q (τ 7) fun a7_ =>
  bP (lda Q q 95 3 a3_ G) fun x8 =>
  bS (e.ev.cl 33 [x8, a1_] G) fun x9 G10 =>
  bP (pExtract x9 0) fun x11 =>
  bP (pExtract x9 1) fun x12 =>
  bS (al Q q 97 z97 G10) fun x13 G14 =>
  bP (st Q q 97 4 x13 x11 G14) fun G15 =>
  bS (gd x12 true (some (a7_, G15)) G15) fun x16 G17 =>
  bS (gd x12 true (bP (pNil x16) fun y => some (y, G17)) G17) fun x18 G19 =>
  bS (gd x12 true (bP (fa Q q 342 2 2 x18) fun y => some (y, G19)) G19) fun x20 G21 =>
  bS (gd x12 true (bP (ld Q q 33 x20 G21) fun y => some (y, G21)) G21) fun x22 G23 =>
  bS (gd x12 true (bP (bn Q q .eql 33 (.tmp 42) (.const (.int .i64 0)) x22 (.int .i64 0)) fun y => some (y, G23)) G23) fun x24 G25 =>
  bP (pickV x12 x24 (.bool false)) fun x26 =>
  ifV x26 (
  bP (lda Q q 97 4 x13 G25) fun x27 =>
  bS (e.ev.cl 235 [x27, a2_] G25) fun x28 G29 =>
  bP (pNil a7_) fun x30 =>
  bP (fa Q q 342 1 1 x30) fun x31 =>
  bP (st Q q 340 1 x31 x28 G29) fun G32 =>
  some (a7_, G32)) (
  some (a7_, G25))
noncomputable def j137_0 (q : Bool) (e : Ex) (τ : Env) (G : GS) : Option (Value × GS) := jb137_0 q e τ G
theorem mj137_0 {e : Ex} {E : Ev} (h : ExLe Q e E) (τ : Env) (G : GS) : Ref (j137_0 true e τ G) (j137_0 false (Ex.of E) τ G) := by
  unfold j137_0 jb137_0
  exact Ref.gq
theorem mkj137_0 {e : Ex} {E : Ev} (h : ExLe Q e E) {τ : Env} {l U : List (Nat × Value)} {G : GS} (hU : UOk τ U) : Ref (j137_0 true e (xq true 52 τ l U) G) (j137_0 false (Ex.of E) (xq false 52 τ l U) G) := by
  rw [xq_eq hU]
  exact mj137_0 h _ _
noncomputable def sb137 (q : Bool) (e : Ex) (J0 : Env → GS → Option (Value × GS)) (v0 v1 v2 : Value) (G : GS) : Option (Value × GS) :=
  bS (bx q v0 G) fun x0 G1 =>
  bP (lda Q q 95 3 x0 G1) fun x2 =>
  bS (e.ev.cl 234 [x2, v1] G1) fun x3 G4 =>
  bP (bd Q q 342 z342 [(0, 0, 1), (2, 2, 1)] [(.bool true), x3]) fun x5 =>
  bS (bx q x5 G4) fun x6 G7 =>
  bP (pNil x6) fun x33 =>
  bP (fa Q q 342 2 2 x33) fun x34 =>
  bP (ld Q q 33 x34 G7) fun x35 =>
  bP (bn Q q .eql 33 (.tmp 18) (.const (.int .i64 0)) x35 (.int .i64 0)) fun x36 =>
  bS (gd x36 true (some (v2, G7)) G7) fun x37 G38 =>
  bS (gd x36 true (bP (bn Q q .lss 3 (.tmp 21) (.const (.int .i64 0)) x37 (.int .i64 0)) fun y => some (y, G38)) G38) fun x39 G40 =>
  bS (gd x36 true (some (x39, G40)) G40) fun x41 G42 =>
  bS (gd x41 false (some (v2, G42)) G42) fun x43 G44 =>
  bS (gd x41 false (bP (bn Q q .gtr 3 (.tmp 24) (.const (.int .i64 65535)) x43 (.int .i64 65535)) fun y => some (y, G44)) G44) fun x45 G46 =>
  bS (gd x36 true (bP (pickV x41 (.bool true) x45) fun y => some (y, G46)) G46) fun x47 G48 =>
  bP (pickV x36 x47 (.bool false)) fun x49 =>
  ifV x49 (
  bP (pNil x6) fun x50 =>
  bP (fa Q q 342 2 2 x50) fun x51 =>
  bP (st Q q 33 1 x51 (.int .i64 3) G48) fun G52 =>
  J0 (xq q 52 (nth undef [v0, v1, v2]) [(30, x51), (29, x50), (28, x6), (27, x49), (26, x47), (25, x45), (24, x43), (23, x41), (22, x39), (21, x37), (20, x36), (19, x36), (18, x35), (17, x34), (16, x33), (15, x6), (7, x6), (14, x6), (13, x5), (12, x3), (11, v1), (10, x2), (6, (.pointer none)), (3, x0)] []) G52) (
  J0 (xq q 52 (nth undef [v0, v1, v2]) [(27, x49), (26, x47), (25, x45), (24, x43), (23, x41), (22, x39), (21, x37), (20, x36), (19, x36), (18, x35), (17, x34), (16, x33), (15, x6), (7, x6), (14, x6), (13, x5), (12, x3), (11, v1), (10, x2), (6, (.pointer none)), (3, x0)] []) G48)
/-- coxswain/mail.NewSend -/
noncomputable def s137 (q : Bool) (e : Ex) (v0 v1 v2 : Value) (G : GS) : Option (Value × GS) := sb137 q e (j137_0 q e) v0 v1 v2 G
theorem m137 {e : Ex} {E : Ev} (h : ExLe Q e E) (v0 v1 v2 : Value) (G : GS) : Ref (s137 true e v0 v1 v2 G) (s137 false (Ex.of E) v0 v1 v2 G) := by
  unfold s137 sb137
  repeat' (with_reducible first | exact Ref.rfl' _ | exact ROp.r | refine Ref.bP ?_ fun _ => ?_ | refine Ref.bS ?_ fun _ _ => ?_ | exact Ref.cl (by assumption) | refine Ref.ifV ?_ ?_ | refine LpLe.rx (by assumption) ?_ | refine Ref.xitq ?_ | exact UOk.z | refine UOk.c (by assumption) ?_ | exact Ref.nil _ | refine Ref.bVe fun _ _ => ?_ | refine Ref.bLq (by assumption) ?_ fun _ _ _ => ?_ | refine Ref.ifE ?_ ?_ | refine Ref.chk ?_ ?_ | refine Imp.and ?_ ?_ | refine Imp.or ?_ | exact Imp.rfl' _ | refine Imp.sameO ?_ | refine Ref.gd ?_ | exact Ref.cValue (by assumption) | refine Ref.bX ?_ fun _ _ _ => ?_ | exact Ref.scQ (by assumption) | exact Ref.xRangeQ (by assumption) | exact Ref.cInvoke (by assumption) | refine mkj137_0 (by assumption) ?_)
noncomputable def jt137 (J0 : Env → GS → Option (Value × GS)) : JT (Value × GS) :=
  (.n none .e (.n none .e (.n (some (fun T G => J0 (nth undef T) G)) .e .e)))
theorem jr137_0 (orc : FuncId → Bool) (J0 : Env → GS → Option (Value × GS)) (T : List Value) (G : GS) : runC Q (evL Q orc) Tryz.f137.ntmps (jt137 J0) (bodyOf Tryz.f137) (retE Q Tryz.f137.results.toList) [true, true] (nth undef T) G = jb137_0 false (Ex.of (E orc))  (nth undef T) G := by kernel_rfl
theorem jo137 (orc : FuncId → Bool) : JOk Q orc Tryz.f137.ntmps (jt137 (j137_0 false (Ex.of (E orc))) ) (bodyOf Tryz.f137) (retE Q Tryz.f137.results.toList) :=
  jOk Q orc (l := [([true, true], (fun T G => j137_0 false (Ex.of (E orc)) (nth undef T) G))]) (by kernel_rfl) (AllE.c (fun T G => jr137_0 orc (j137_0 false (Ex.of (E orc))) T G) (AllE.z))
theorem je137 (orc : FuncId → Bool) (J0 : Env → GS → Option (Value × GS)) (v0 v1 v2 : Value) (G : GS) : sxC Q (evL Q orc) Tryz.f137.ntmps (jt137 J0) (bodyOf Tryz.f137) (nth undef [v0, v1, v2]) G (retE Q Tryz.f137.results.toList) = sb137 false (Ex.of (E orc)) J0 v0 v1 v2 G := by kernel_rfl
theorem f137 {orc : FuncId → Bool} {e : Ex} (h : ExLe Q e (E orc)) (v0 v1 v2 : Value) (G : GS) : Ref (s137 true e v0 v1 v2 G) ((E orc).cl 137 [v0, v1, v2] G) :=
  fun r hr => cl_sxC Q orc (vs := [v0, v1, v2]) G (jt137 (j137_0 false (Ex.of (E orc))) ) Tryz.func137 (by kernel_rfl) (by kernel_rfl) (by kernel_rfl) (by kernel_rfl) (by kernel_rfl) (jo137 orc) (je137 orc (j137_0 false (Ex.of (E orc))) v0 v1 v2 G) (m137 h v0 v1 v2 G r hr)
noncomputable def jb138_0 (q : Bool) (e : Ex) (τ : Env) (G : GS) : Option (Value × GS) :=
  bV q (τ 1) fun a1_ =>
  bV q (τ 2) fun a2_ =>
  bV q (τ 3) fun a3_ =>
  bV q (τ 7) fun a7_ =>
  bP (bn Q q .neq 33 (.tmp 21) (.const (.int .i64 0)) a7_ (.int .i64 0)) fun x5 =>
  ifV x5 (
  bP (bd Q q 346 z346 [(1, 1, 1), (2, 2, 1)] [(.bool true), a7_]) fun x6 =>
  bS (bx q x6 G) fun x7 G8 =>
  some (x7, G8)) (
  bP (lda Q q 95 3 a3_ G) fun x9 =>
  bS (e.ev.cl 134 [x9, a1_] G) fun x10 G11 =>
  bS (e.ev.cl 237 [x10, a2_] G11) fun x12 G13 =>
  bP (bd Q q 346 z346 [(0, 0, 1)] [x12]) fun x14 =>
  bS (bx q x14 G13) fun x15 G16 =>
  some (x15, G16))
noncomputable def j138_0 (q : Bool) (e : Ex) (τ : Env) (G : GS) : Option (Value × GS) := jb138_0 q e τ G
theorem mj138_0 {e : Ex} {E : Ev} (h : ExLe Q e E) (τ : Env) (G : GS) : Ref (j138_0 true e τ G) (j138_0 false (Ex.of E) τ G) := by
  unfold j138_0 jb138_0
  exact Ref.gq
theorem mkj138_0 {e : Ex} {E : Ev} (h : ExLe Q e E) {τ : Env} {l U : List (Nat × Value)} {G : GS} (hU : UOk τ U) : Ref (j138_0 true e (xq true 33 τ l U) G) (j138_0 false (Ex.of E) (xq false 33 τ l U) G) := by
  rw [xq_eq hU]
  exact mj138_0 h _ _
noncomputable def sb138 (q : Bool) (e : Ex) (J0 : Env → GS → Option (Value × GS)) (v0 v1 v2 : Value) (G : GS) : Option (Value × GS) :=
  bS (bx q v0 G) fun x0 G1 =>
  bP (lda Q q 95 3 x0 G1) fun x2 =>
  bS (e.ev.cl 236 [x2, v1] G1) fun x3 G4 =>
  bP (bn Q q .eql 33 (.tmp 11) (.const (.int .i64 0)) x3 (.int .i64 0)) fun x17 =>
  bS (gd x17 true (some (v2, G4)) G4) fun x18 G19 =>
  bS (gd x17 true (bP (bn Q q .lss 3 (.tmp 14) (.const (.int .i64 0)) x18 (.int .i64 0)) fun y => some (y, G19)) G19) fun x20 G21 =>
  bS (gd x17 true (some (x20, G21)) G21) fun x22 G23 =>
  bS (gd x22 false (some (v2, G23)) G23) fun x24 G25 =>
  bS (gd x22 false (bP (bn Q q .gtr 3 (.tmp 17) (.const (.int .i64 65535)) x24 (.int .i64 65535)) fun y => some (y, G25)) G25) fun x26 G27 =>
  bS (gd x17 true (bP (pickV x22 (.bool true) x26) fun y => some (y, G27)) G27) fun x28 G29 =>
  bP (pickV x17 x28 (.bool false)) fun x30 =>
  ifV x30 (
  J0 (xq q 33 (nth undef [v0, v1, v2]) [(7, (.int .i64 3)), (20, x30), (19, x28), (18, x26), (17, x24), (16, x22), (15, x20), (14, x18), (13, x17), (12, x17), (11, x3), (7, x3), (10, x3), (9, v1), (8, x2), (6, (.pointer none)), (3, x0)] []) G29) (
  J0 (xq q 33 (nth undef [v0, v1, v2]) [(20, x30), (19, x28), (18, x26), (17, x24), (16, x22), (15, x20), (14, x18), (13, x17), (12, x17), (11, x3), (7, x3), (10, x3), (9, v1), (8, x2), (6, (.pointer none)), (3, x0)] []) G29)
/-- coxswain/coxswainref25.NewSend -/
noncomputable def s138 (q : Bool) (e : Ex) (v0 v1 v2 : Value) (G : GS) : Option (Value × GS) := sb138 q e (j138_0 q e) v0 v1 v2 G
theorem m138 {e : Ex} {E : Ev} (h : ExLe Q e E) (v0 v1 v2 : Value) (G : GS) : Ref (s138 true e v0 v1 v2 G) (s138 false (Ex.of E) v0 v1 v2 G) := by
  unfold s138 sb138
  repeat' (with_reducible first | exact Ref.rfl' _ | exact ROp.r | refine Ref.bP ?_ fun _ => ?_ | refine Ref.bS ?_ fun _ _ => ?_ | exact Ref.cl (by assumption) | refine Ref.ifV ?_ ?_ | refine LpLe.rx (by assumption) ?_ | refine Ref.xitq ?_ | exact UOk.z | refine UOk.c (by assumption) ?_ | exact Ref.nil _ | refine Ref.bVe fun _ _ => ?_ | refine Ref.bLq (by assumption) ?_ fun _ _ _ => ?_ | refine Ref.ifE ?_ ?_ | refine Ref.chk ?_ ?_ | refine Imp.and ?_ ?_ | refine Imp.or ?_ | exact Imp.rfl' _ | refine Imp.sameO ?_ | refine Ref.gd ?_ | exact Ref.cValue (by assumption) | refine Ref.bX ?_ fun _ _ _ => ?_ | exact Ref.scQ (by assumption) | exact Ref.xRangeQ (by assumption) | exact Ref.cInvoke (by assumption) | refine mkj138_0 (by assumption) ?_)
noncomputable def jt138 (J0 : Env → GS → Option (Value × GS)) : JT (Value × GS) :=
  (.n none .e (.n none .e (.n (some (fun T G => J0 (nth undef T) G)) .e .e)))
theorem jr138_0 (orc : FuncId → Bool) (J0 : Env → GS → Option (Value × GS)) (T : List Value) (G : GS) : runC Q (evL Q orc) Tryz.f138.ntmps (jt138 J0) (bodyOf Tryz.f138) (retE Q Tryz.f138.results.toList) [true, true] (nth undef T) G = jb138_0 false (Ex.of (E orc))  (nth undef T) G := by kernel_rfl
theorem jo138 (orc : FuncId → Bool) : JOk Q orc Tryz.f138.ntmps (jt138 (j138_0 false (Ex.of (E orc))) ) (bodyOf Tryz.f138) (retE Q Tryz.f138.results.toList) :=
  jOk Q orc (l := [([true, true], (fun T G => j138_0 false (Ex.of (E orc)) (nth undef T) G))]) (by kernel_rfl) (AllE.c (fun T G => jr138_0 orc (j138_0 false (Ex.of (E orc))) T G) (AllE.z))
theorem je138 (orc : FuncId → Bool) (J0 : Env → GS → Option (Value × GS)) (v0 v1 v2 : Value) (G : GS) : sxC Q (evL Q orc) Tryz.f138.ntmps (jt138 J0) (bodyOf Tryz.f138) (nth undef [v0, v1, v2]) G (retE Q Tryz.f138.results.toList) = sb138 false (Ex.of (E orc)) J0 v0 v1 v2 G := by kernel_rfl
theorem f138 {orc : FuncId → Bool} {e : Ex} (h : ExLe Q e (E orc)) (v0 v1 v2 : Value) (G : GS) : Ref (s138 true e v0 v1 v2 G) ((E orc).cl 138 [v0, v1, v2] G) :=
  fun r hr => cl_sxC Q orc (vs := [v0, v1, v2]) G (jt138 (j138_0 false (Ex.of (E orc))) ) Tryz.func138 (by kernel_rfl) (by kernel_rfl) (by kernel_rfl) (by kernel_rfl) (by kernel_rfl) (jo138 orc) (je138 orc (j138_0 false (Ex.of (E orc))) v0 v1 v2 G) (m138 h v0 v1 v2 G r hr)
noncomputable def jb139_0 (q : Bool) (e : Ex) (τ : Env) (G : GS) : Option (Value × GS) :=
  bV q (τ 1) fun a1_ =>
  bV q (τ 3) fun a3_ =>
  bV q (τ 7) fun a7_ =>
  bP (lda Q q 95 3 a3_ G) fun x8 =>
  bS (e.ev.cl 33 [x8, a1_] G) fun x9 G10 =>
  bP (pExtract x9 0) fun x11 =>
  bP (pExtract x9 1) fun x12 =>
  bS (al Q q 97 z97 G10) fun x13 G14 =>
  bP (st Q q 97 4 x13 x11 G14) fun G15 =>
  bS (gd x12 true (some (a7_, G15)) G15) fun x16 G17 =>
  bS (gd x12 true (bP (pNil x16) fun y => some (y, G17)) G17) fun x18 G19 =>
  bS (gd x12 true (bP (fa Q q 351 6 9 x18) fun y => some (y, G19)) G19) fun x20 G21 =>
  bS (gd x12 true (bP (ld Q q 33 x20 G21) fun y => some (y, G21)) G21) fun x22 G23 =>
  bS (gd x12 true (bP (bn Q q .eql 33 (.tmp 39) (.const (.int .i64 0)) x22 (.int .i64 0)) fun y => some (y, G23)) G23) fun x24 G25 =>
  bP (pickV x12 x24 (.bool false)) fun x26 =>
  ifV x26 (
  bP (lda Q q 97 4 x13 (G25.room 12)) fun x27 =>
  bP (lda Q q 97 4 x13 (G25.room 12)) fun x28 =>
  bS (e.ev.cl 238 [x28] (G25.room 12)) fun x30 G29 =>
  chk ((sameO (lda Q q 97 4 x13 G29) x27 && true)) <|
  bP (ifc Q q 352 x30) fun x31 =>
  bP (pNil a7_) fun x32 =>
  bP (fa Q q 351 1 1 x32) fun x33 =>
  bP (st Q q 97 4 x33 x27 G29) fun G34 =>
  bP (pNil a7_) fun x35 =>
  bP (fa Q q 351 3 6 x35) fun x36 =>
  bP (st Q q 349 1 x36 x31 G34) fun G37 =>
  some (a7_, G37)) (
  some (a7_, G25))
noncomputable def j139_0 (q : Bool) (e : Ex) (τ : Env) (G : GS) : Option (Value × GS) := jb139_0 q e τ G
theorem mj139_0 {e : Ex} {E : Ev} (h : ExLe Q e E) (τ : Env) (G : GS) : Ref (j139_0 true e τ G) (j139_0 false (Ex.of E) τ G) := by
  unfold j139_0 jb139_0
  exact Ref.gq
theorem mkj139_0 {e : Ex} {E : Ev} (h : ExLe Q e E) {τ : Env} {l U : List (Nat × Value)} {G : GS} (hU : UOk τ U) : Ref (j139_0 true e (xq true 53 τ l U) G) (j139_0 false (Ex.of E) (xq false 53 τ l U) G) := by
  rw [xq_eq hU]
  exact mj139_0 h _ _
noncomputable def sb139 (q : Bool) (e : Ex) (J0 : Env → GS → Option (Value × GS)) (v0 v1 v2 : Value) (G : GS) : Option (Value × GS) :=
  bS (bx q v0 G) fun x0 G1 =>
  bP (lda Q q 95 3 x0 G1) fun x2 =>
  bS (e.ev.cl 234 [x2, v1] G1) fun x3 G4 =>
  bP (bd Q q 351 z351 [(0, 0, 1), (2, 5, 1), (6, 9, 1)] [(.bool true), v2, x3]) fun x5 =>
  bS (bx q x5 G4) fun x6 G7 =>
  bP (pNil x6) fun x38 =>
  bP (fa Q q 351 6 9 x38) fun x39 =>
  bP (ld Q q 33 x39 G7) fun x40 =>
  bP (bn Q q .eql 33 (.tmp 19) (.const (.int .i64 0)) x40 (.int .i64 0)) fun x41 =>
  bS (gd x41 true (some (v2, G7)) G7) fun x42 G43 =>
  bS (gd x41 true (bP (bn Q q .lss 3 (.tmp 22) (.const (.int .i64 1)) x42 (.int .i64 1)) fun y => some (y, G43)) G43) fun x44 G45 =>
  bP (pickV x41 x44 (.bool false)) fun x46 =>
  ifV x46 (
  bP (pNil x6) fun x47 =>
  bP (fa Q q 351 6 9 x47) fun x48 =>
  bP (st Q q 33 1 x48 (.int .i64 3) G45) fun G49 =>
  J0 (xq q 53 (nth undef [v0, v1, v2]) [(27, x48), (26, x47), (25, x6), (24, x46), (23, x44), (22, x42), (21, x41), (20, x41), (19, x40), (18, x39), (17, x38), (16, x6), (7, x6), (15, x6), (14, x5), (13, x3), (12, v1), (11, x2), (10, v2), (6, (.pointer none)), (3, x0)] []) G49) (
  J0 (xq q 53 (nth undef [v0, v1, v2]) [(24, x46), (23, x44), (22, x42), (21, x41), (20, x41), (19, x40), (18, x39), (17, x38), (16, x6), (7, x6), (15, x6), (14, x5), (13, x3), (12, v1), (11, x2), (10, v2), (6, (.pointer none)), (3, x0)] []) G45)
/-- coxswain/mail.NewDrain -/
noncomputable def s139 (q : Bool) (e : Ex) (v0 v1 v2 : Value) (G : GS) : Option (Value × GS) := sb139 q e (j139_0 q e) v0 v1 v2 G
theorem m139 {e : Ex} {E : Ev} (h : ExLe Q e E) (v0 v1 v2 : Value) (G : GS) : Ref (s139 true e v0 v1 v2 G) (s139 false (Ex.of E) v0 v1 v2 G) := by
  unfold s139 sb139
  repeat' (with_reducible first | exact Ref.rfl' _ | exact ROp.r | refine Ref.bP ?_ fun _ => ?_ | refine Ref.bS ?_ fun _ _ => ?_ | exact Ref.cl (by assumption) | refine Ref.ifV ?_ ?_ | refine LpLe.rx (by assumption) ?_ | refine Ref.xitq ?_ | exact UOk.z | refine UOk.c (by assumption) ?_ | exact Ref.nil _ | refine Ref.bVe fun _ _ => ?_ | refine Ref.bLq (by assumption) ?_ fun _ _ _ => ?_ | refine Ref.ifE ?_ ?_ | refine Ref.chk ?_ ?_ | refine Imp.and ?_ ?_ | refine Imp.or ?_ | exact Imp.rfl' _ | refine Imp.sameO ?_ | refine Ref.gd ?_ | exact Ref.cValue (by assumption) | refine Ref.bX ?_ fun _ _ _ => ?_ | exact Ref.scQ (by assumption) | exact Ref.xRangeQ (by assumption) | exact Ref.cInvoke (by assumption) | refine mkj139_0 (by assumption) ?_)
noncomputable def jt139 (J0 : Env → GS → Option (Value × GS)) : JT (Value × GS) :=
  (.n none .e (.n none .e (.n (some (fun T G => J0 (nth undef T) G)) .e .e)))
theorem jr139_0 (orc : FuncId → Bool) (J0 : Env → GS → Option (Value × GS)) (T : List Value) (G : GS) : runC Q (evL Q orc) Tryz.f139.ntmps (jt139 J0) (bodyOf Tryz.f139) (retE Q Tryz.f139.results.toList) [true, true] (nth undef T) G = jb139_0 false (Ex.of (E orc))  (nth undef T) G := by kernel_rfl
theorem jo139 (orc : FuncId → Bool) : JOk Q orc Tryz.f139.ntmps (jt139 (j139_0 false (Ex.of (E orc))) ) (bodyOf Tryz.f139) (retE Q Tryz.f139.results.toList) :=
  jOk Q orc (l := [([true, true], (fun T G => j139_0 false (Ex.of (E orc)) (nth undef T) G))]) (by kernel_rfl) (AllE.c (fun T G => jr139_0 orc (j139_0 false (Ex.of (E orc))) T G) (AllE.z))
theorem je139 (orc : FuncId → Bool) (J0 : Env → GS → Option (Value × GS)) (v0 v1 v2 : Value) (G : GS) : sxC Q (evL Q orc) Tryz.f139.ntmps (jt139 J0) (bodyOf Tryz.f139) (nth undef [v0, v1, v2]) G (retE Q Tryz.f139.results.toList) = sb139 false (Ex.of (E orc)) J0 v0 v1 v2 G := by kernel_rfl
theorem f139 {orc : FuncId → Bool} {e : Ex} (h : ExLe Q e (E orc)) (v0 v1 v2 : Value) (G : GS) : Ref (s139 true e v0 v1 v2 G) ((E orc).cl 139 [v0, v1, v2] G) :=
  fun r hr => cl_sxC Q orc (vs := [v0, v1, v2]) G (jt139 (j139_0 false (Ex.of (E orc))) ) Tryz.func139 (by kernel_rfl) (by kernel_rfl) (by kernel_rfl) (by kernel_rfl) (by kernel_rfl) (jo139 orc) (je139 orc (j139_0 false (Ex.of (E orc))) v0 v1 v2 G) (m139 h v0 v1 v2 G r hr)
noncomputable def jb140_0 (q : Bool) (e : Ex) (τ : Env) (G : GS) : Option (Value × GS) :=
  bV q (τ 1) fun a1_ =>
  bV q (τ 2) fun a2_ =>
  bV q (τ 3) fun a3_ =>
  bV q (τ 7) fun a7_ =>
  bP (bn Q q .neq 33 (.tmp 17) (.const (.int .i64 0)) a7_ (.int .i64 0)) fun x5 =>
  ifV x5 (
  bP (bd Q q 357 z357 [(6, 9, 1), (7, 10, 1)] [(.bool true), a7_]) fun x6 =>
  bS (bx q x6 G) fun x7 G8 =>
  some (x7, G8)) (
  bP (lda Q q 95 3 a3_ (G.room 11)) fun x9 =>
  bS (e.ev.cl 134 [x9, a1_] (G.room 11)) fun x11 G10 =>
  bP (lda Q q 95 3 a3_ G10) fun x12 =>
  chk ((sameO (lda Q q 95 3 a3_ (G.room 11)) x12 && true)) <|
  bS (e.ev.cl 134 [x12, a1_] G10) fun x14 G13 =>
  bS (e.ev.cl 239 [x14] G13) fun x16 G15 =>
  bP (bd Q q 357 z357 [(0, 0, 4), (1, 4, 1), (3, 6, 1)] [x11, a2_, x16]) fun x17 =>
  bS (bx q x17 (G15.at' (G.nx + 9))) fun x18 G19 =>
  some (x18, (G19.back G15)))
noncomputable def j140_0 (q : Bool) (e : Ex) (τ : Env) (G : GS) : Option (Value × GS) := jb140_0 q e τ G
theorem mj140_0 {e : Ex} {E : Ev} (h : ExLe Q e E) (τ : Env) (G : GS) : Ref (j140_0 true e τ G) (j140_0 false (Ex.of E) τ G) := by
  unfold j140_0 jb140_0
  exact Ref.gq
theorem mkj140_0 {e : Ex} {E : Ev} (h : ExLe Q e E) {τ : Env} {l U : List (Nat × Value)} {G : GS} (hU : UOk τ U) : Ref (j140_0 true e (xq true 32 τ l U) G) (j140_0 false (Ex.of E) (xq false 32 τ l U) G) := by
  rw [xq_eq hU]
  exact mj140_0 h _ _
noncomputable def sb140 (q : Bool) (e : Ex) (J0 : Env → GS → Option (Value × GS)) (v0 v1 v2 : Value) (G : GS) : Option (Value × GS) :=
  bS (bx q v0 G) fun x0 G1 =>
  bP (lda Q q 95 3 x0 G1) fun x2 =>
  bS (e.ev.cl 236 [x2, v1] G1) fun x3 G4 =>
  bP (bn Q q .eql 33 (.tmp 11) (.const (.int .i64 0)) x3 (.int .i64 0)) fun x20 =>
  bS (gd x20 true (some (v2, G4)) G4) fun x21 G22 =>
  bS (gd x20 true (bP (bn Q q .lss 3 (.tmp 14) (.const (.int .i64 1)) x21 (.int .i64 1)) fun y => some (y, G22)) G22) fun x23 G24 =>
  bP (pickV x20 x23 (.bool false)) fun x25 =>
  ifV x25 (
  J0 (xq q 32 (nth undef [v0, v1, v2]) [(7, (.int .i64 3)), (16, x25), (15, x23), (14, x21), (13, x20), (12, x20), (11, x3), (7, x3), (10, x3), (9, v1), (8, x2), (6, (.pointer none)), (3, x0)] []) G24) (
  J0 (xq q 32 (nth undef [v0, v1, v2]) [(16, x25), (15, x23), (14, x21), (13, x20), (12, x20), (11, x3), (7, x3), (10, x3), (9, v1), (8, x2), (6, (.pointer none)), (3, x0)] []) G24)
/-- coxswain/coxswainref25.NewDrain -/
noncomputable def s140 (q : Bool) (e : Ex) (v0 v1 v2 : Value) (G : GS) : Option (Value × GS) := sb140 q e (j140_0 q e) v0 v1 v2 G
theorem m140 {e : Ex} {E : Ev} (h : ExLe Q e E) (v0 v1 v2 : Value) (G : GS) : Ref (s140 true e v0 v1 v2 G) (s140 false (Ex.of E) v0 v1 v2 G) := by
  unfold s140 sb140
  repeat' (with_reducible first | exact Ref.rfl' _ | exact ROp.r | refine Ref.bP ?_ fun _ => ?_ | refine Ref.bS ?_ fun _ _ => ?_ | exact Ref.cl (by assumption) | refine Ref.ifV ?_ ?_ | refine LpLe.rx (by assumption) ?_ | refine Ref.xitq ?_ | exact UOk.z | refine UOk.c (by assumption) ?_ | exact Ref.nil _ | refine Ref.bVe fun _ _ => ?_ | refine Ref.bLq (by assumption) ?_ fun _ _ _ => ?_ | refine Ref.ifE ?_ ?_ | refine Ref.chk ?_ ?_ | refine Imp.and ?_ ?_ | refine Imp.or ?_ | exact Imp.rfl' _ | refine Imp.sameO ?_ | refine Ref.gd ?_ | exact Ref.cValue (by assumption) | refine Ref.bX ?_ fun _ _ _ => ?_ | exact Ref.scQ (by assumption) | exact Ref.xRangeQ (by assumption) | exact Ref.cInvoke (by assumption) | refine mkj140_0 (by assumption) ?_)
noncomputable def jt140 (J0 : Env → GS → Option (Value × GS)) : JT (Value × GS) :=
  (.n none .e (.n none .e (.n (some (fun T G => J0 (nth undef T) G)) .e .e)))
theorem jr140_0 (orc : FuncId → Bool) (J0 : Env → GS → Option (Value × GS)) (T : List Value) (G : GS) : runC Q (evL Q orc) Tryz.f140.ntmps (jt140 J0) (bodyOf Tryz.f140) (retE Q Tryz.f140.results.toList) [true, true] (nth undef T) G = jb140_0 false (Ex.of (E orc))  (nth undef T) G := by kernel_rfl
theorem jo140 (orc : FuncId → Bool) : JOk Q orc Tryz.f140.ntmps (jt140 (j140_0 false (Ex.of (E orc))) ) (bodyOf Tryz.f140) (retE Q Tryz.f140.results.toList) :=
  jOk Q orc (l := [([true, true], (fun T G => j140_0 false (Ex.of (E orc)) (nth undef T) G))]) (by kernel_rfl) (AllE.c (fun T G => jr140_0 orc (j140_0 false (Ex.of (E orc))) T G) (AllE.z))
theorem je140 (orc : FuncId → Bool) (J0 : Env → GS → Option (Value × GS)) (v0 v1 v2 : Value) (G : GS) : sxC Q (evL Q orc) Tryz.f140.ntmps (jt140 J0) (bodyOf Tryz.f140) (nth undef [v0, v1, v2]) G (retE Q Tryz.f140.results.toList) = sb140 false (Ex.of (E orc)) J0 v0 v1 v2 G := by kernel_rfl
theorem f140 {orc : FuncId → Bool} {e : Ex} (h : ExLe Q e (E orc)) (v0 v1 v2 : Value) (G : GS) : Ref (s140 true e v0 v1 v2 G) ((E orc).cl 140 [v0, v1, v2] G) :=
  fun r hr => cl_sxC Q orc (vs := [v0, v1, v2]) G (jt140 (j140_0 false (Ex.of (E orc))) ) Tryz.func140 (by kernel_rfl) (by kernel_rfl) (by kernel_rfl) (by kernel_rfl) (by kernel_rfl) (jo140 orc) (je140 orc (j140_0 false (Ex.of (E orc))) v0 v1 v2 G) (m140 h v0 v1 v2 G r hr)
/-- (*coxswain/mail.Send).Err -/
noncomputable def s141 (q : Bool) (e : Ex) (v0 : Value) (G : GS) : Option (Value × GS) :=
  bP (ep Q q false 101 (.tmp 4) (.const (.pointer none)) v0 (.pointer none)) fun x0 =>
  bS (gd x0 false (some (v0, G)) G) fun x1 G2 =>
  bS (gd x0 false (bP (pNil x1) fun y => some (y, G2)) G2) fun x3 G4 =>
  bS (gd x0 false (bP (fa Q q 342 0 0 x3) fun y => some (y, G4)) G4) fun x5 G6 =>
  bS (gd x0 false (bP (ld Q q 4 x5 G6) fun y => some (y, G6)) G6) fun x7 G8 =>
  bS (gd x0 false (bP (un Q q .not x7) fun y => some (y, G8)) G8) fun x9 G10 =>
  bP (pickV x0 (.bool true) x9) fun x11 =>
  ifV x11 (
  some ((.int .i64 1), G10)) (
  bP (pNil v0) fun x12 =>
  bP (fa Q q 342 1 1 x12) fun x13 =>
  bP (ld Q q 340 x13 G10) fun x14 =>
  bP (ep Q q true 340 (.tmp 17) (.const (.pointer none)) x14 (.pointer none)) fun x15 =>
  ifV x15 (
  some ((.int .i64 14), G10)) (
  bP (pNil v0) fun x16 =>
  bP (fa Q q 342 2 2 x16) fun x17 =>
  bP (ld Q q 33 x17 G10) fun x18 =>
  some (x18, G10)))
theorem m141 {e : Ex} {E : Ev} (h : ExLe Q e E) (v0 : Value) (G : GS) : Ref (s141 true e v0 G) (s141 false (Ex.of E) v0 G) := by
  unfold s141
  exact Ref.gq
theorem f141 {orc : FuncId → Bool} {e : Ex} (h : ExLe Q e (E orc)) (v0 : Value) (G : GS) : Ref (s141 true e v0 G) ((E orc).cl 141 [v0] G) :=
  fun r hr => cl_sxE_some Q orc (vs := [v0]) G Tryz.func141 (by kernel_rfl) (by kernel_rfl) (by kernel_rfl) (by kernel_rfl) (by kernel_rfl) (by kernel_rfl) (m141 h v0 G r hr)
/-- (*coxswain/coxswainref25.Send).Err -/
noncomputable def s142 (q : Bool) (e : Ex) (v0 : Value) (G : GS) : Option (Value × GS) :=
  bP (pNil v0) fun x0 =>
  bP (fa Q q 346 1 1 x0) fun x1 =>
  bP (ld Q q 4 x1 G) fun x2 =>
  bP (un Q q .not x2) fun x3 =>
  ifV x3 (
  some ((.int .i64 14), G)) (
  bP (pNil v0) fun x4 =>
  bP (fa Q q 346 2 2 x4) fun x5 =>
  bP (ld Q q 33 x5 G) fun x6 =>
  some (x6, G))
theorem m142 {e : Ex} {E : Ev} (h : ExLe Q e E) (v0 : Value) (G : GS) : Ref (s142 true e v0 G) (s142 false (Ex.of E) v0 G) := by
  unfold s142
  exact Ref.gq
theorem f142 {orc : FuncId → Bool} {e : Ex} (h : ExLe Q e (E orc)) (v0 : Value) (G : GS) : Ref (s142 true e v0 G) ((E orc).cl 142 [v0] G) :=
  fun r hr => cl_sxE_some Q orc (vs := [v0]) G Tryz.func142 (by kernel_rfl) (by kernel_rfl) (by kernel_rfl) (by kernel_rfl) (by kernel_rfl) (by kernel_rfl) (m142 h v0 G r hr)
/-- (*coxswain/mail.Drain).Values -/
noncomputable def s143 (q : Bool) (e : Ex) (v0 : Value) (G : GS) : Option (Value × GS) :=
  bP (ep Q q false 103 (.tmp 5) (.const (.pointer none)) v0 (.pointer none)) fun x0 =>
  bS (gd x0 false (some (v0, G)) G) fun x1 G2 =>
  bS (gd x0 false (bP (pNil x1) fun y => some (y, G2)) G2) fun x3 G4 =>
  bS (gd x0 false (bP (fa Q q 351 0 0 x3) fun y => some (y, G4)) G4) fun x5 G6 =>
  bS (gd x0 false (bP (ld Q q 4 x5 G6) fun y => some (y, G6)) G6) fun x7 G8 =>
  bS (gd x0 false (bP (un Q q .not x7) fun y => some (y, G8)) G8) fun x9 G10 =>
  bP (pickV x0 (.bool true) x9) fun x11 =>
  ifV x11 (
  some (.tuple #[(.slice none 0 0), (.int .i64 1)], G10)) (
  bP (pNil v0) fun x12 =>
  bP (fa Q q 351 3 6 x12) fun x13 =>
  bP (ld Q q 349 x13 G10) fun x14 =>
  bP (bn Q q .neq 349 (.tmp 18) (.const .nilIface) x14 .nilIface) fun x15 =>
  ifV x15 (
  some (.tuple #[(.slice none 0 0), (.int .i64 14)], G10)) (
  bP (pNil v0) fun x16 =>
  bP (fa Q q 351 6 9 x16) fun x17 =>
  bP (ld Q q 33 x17 G10) fun x18 =>
  bP (bn Q q .neq 33 (.tmp 24) (.const (.int .i64 0)) x18 (.int .i64 0)) fun x19 =>
  ifV x19 (
  bP (pNil v0) fun x20 =>
  bP (fa Q q 351 6 9 x20) fun x21 =>
  bP (ld Q q 33 x21 (G10.room 6)) fun x22 =>
  some (.tuple #[(.slice none 0 0), x22], (G10.room 6))) (
  bP (pNil v0) fun x23 =>
  bP (fa Q q 351 4 7 x23) fun x24 =>
  bP (ld Q q 78 x24 G10) fun x25 =>
  bS (e.ev.cl 240 [x25] G10) fun x26 G27 =>
  some (.tuple #[x26, (.int .i64 0)], G27))))
theorem m143 {e : Ex} {E : Ev} (h : ExLe Q e E) (v0 : Value) (G : GS) : Ref (s143 true e v0 G) (s143 false (Ex.of E) v0 G) := by
  unfold s143
  exact Ref.gq
theorem f143 {orc : FuncId → Bool} {e : Ex} (h : ExLe Q e (E orc)) (v0 : Value) (G : GS) : Ref (s143 true e v0 G) ((E orc).cl 143 [v0] G) :=
  fun r hr => cl_sxE_some Q orc (vs := [v0]) G Tryz.func143 (by kernel_rfl) (by kernel_rfl) (by kernel_rfl) (by kernel_rfl) (by kernel_rfl) (by kernel_rfl) (m143 h v0 G r hr)
/-- (*coxswain/coxswainref25.Drain).Values -/
noncomputable def s144 (q : Bool) (e : Ex) (v0 : Value) (G : GS) : Option (Value × GS) :=
  bP (pNil v0) fun x0 =>
  bP (fa Q q 357 6 9 x0) fun x1 =>
  bP (ld Q q 4 x1 G) fun x2 =>
  bP (un Q q .not x2) fun x3 =>
  ifV x3 (
  some (.tuple #[(.slice none 0 0), (.int .i64 14)], G)) (
  bP (pNil v0) fun x4 =>
  bP (fa Q q 357 7 10 x4) fun x5 =>
  bP (ld Q q 33 x5 G) fun x6 =>
  bP (bn Q q .neq 33 (.tmp 14) (.const (.int .i64 0)) x6 (.int .i64 0)) fun x7 =>
  ifV x7 (
  bP (pNil v0) fun x8 =>
  bP (fa Q q 357 7 10 x8) fun x9 =>
  bP (ld Q q 33 x9 (G.room 6)) fun x10 =>
  some (.tuple #[(.slice none 0 0), x10], (G.room 6))) (
  bS (bs Q q 78 0 (rep z3 0) 1 [] [] G) fun x11 G12 =>
  bP (pNil v0) fun x13 =>
  bP (fa Q q 357 2 5 x13) fun x14 =>
  bP (ld Q q 78 x14 G12) fun x15 =>
  bS (ap Q q 78 78 1 8 x11 x15 G12) fun x16 G17 =>
  some (.tuple #[x16, (.int .i64 0)], G17)))
theorem m144 {e : Ex} {E : Ev} (h : ExLe Q e E) (v0 : Value) (G : GS) : Ref (s144 true e v0 G) (s144 false (Ex.of E) v0 G) := by
  unfold s144
  exact Ref.gq
theorem f144 {orc : FuncId → Bool} {e : Ex} (h : ExLe Q e (E orc)) (v0 : Value) (G : GS) : Ref (s144 true e v0 G) ((E orc).cl 144 [v0] G) :=
  fun r hr => cl_sxE_some Q orc (vs := [v0]) G Tryz.func144 (by kernel_rfl) (by kernel_rfl) (by kernel_rfl) (by kernel_rfl) (by kernel_rfl) (by kernel_rfl) (m144 h v0 G r hr)
noncomputable def b145_0 (q : Bool) (e : Ex) (lp : Env → GS → Option (Exit × Env × GS)) (τ : Env) (G : GS) : Option (Exit × Env × GS) :=
  bV q (τ 0) fun a0_ =>
  bV q (τ 2) fun a2_ =>
  bP (ln Q q 78 a0_) fun x0 =>
  bP (bn Q q .lss 3 (.tmp 3) (.tmp 5) a2_ x0) fun x1 =>
  ifV x1 (
  bP (ias Q q 78 1 a0_ a2_) fun x2 =>
  bP (st Q q 3 1 x2 (.int .i64 (-77)) G) fun G3 =>
  bP (bn Q q .add 3 (.tmp 7) (.const (.int .i64 1)) a2_ (.int .i64 1)) fun x4 =>
  lp (xq q 12 τ [(2, x4), (8, x4), (7, a2_), (11, x2), (10, a2_), (9, a0_), (6, x1), (5, x0), (4, a0_), (3, a2_)] [(0, a0_)]) G3) (
  some ((.exit 0), xq q 12 τ [(6, x1), (5, x0), (4, a0_), (3, a2_)] [(0, a0_), (2, a2_)], G))
theorem mb145_0 {e : Ex} {E : Ev} (h : ExLe Q e E) {lp lp' : Env → GS → Option (Exit × Env × GS)} (hlp : LpLe lp lp') (τ : Env) (G : GS) : Ref (b145_0 true e lp τ G) (b145_0 false (Ex.of E) lp' τ G) := by
  unfold b145_0
  exact Ref.gq
theorem l145_0 {orc : FuncId → Bool} {e : Ex} (h : ExLe Q e (E orc)) (lp : Env → GS → Option (Exit × Env × GS)) (hlp : ∀ τ G, Ref (lp τ G) (mapE ((E orc).lp (subAt [1, 0, 0] (bodyOf Tryz.f145)) (lst 12 τ) G))) (T : List Value) (G : GS) (hT : T.length = 12) : Ref (b145_0 true e lp (nth undef T) G) (mapE ((E orc).lp (subAt [1, 0, 0] (bodyOf Tryz.f145)) T G)) :=
  fun r hr => lp_sxN Q orc G hT (by kernel_rfl) (mb145_0 h ⟨hlp⟩ _ _ r hr)
/-- coxswain/coxswainkit.OverInts -/
noncomputable def s145 (q : Bool) (e : Ex) (v0 : Value) (G : GS) : Option (Value × GS) :=
  bLq q e 145 0 (subAt [1, 0, 0] (bodyOf Tryz.f145)) 12 (nth undef [v0]) [(2, (.int .i64 0))] [] G fun e0 t1 G2 =>
  ifE e0 (.exit 0) (
  some (.tuple #[], G2)) (none)
theorem m145 {e : Ex} {E : Ev} (h : ExLe Q e E) (v0 : Value) (G : GS) : Ref (s145 true e v0 G) (s145 false (Ex.of E) v0 G) := by
  unfold s145
  exact Ref.gq
theorem f145 {orc : FuncId → Bool} {e : Ex} (h : ExLe Q e (E orc)) (v0 : Value) (G : GS) : Ref (s145 true e v0 G) ((E orc).cl 145 [v0] G) :=
  fun r hr => cl_sxE_some Q orc (vs := [v0]) G Tryz.func145 (by kernel_rfl) (by kernel_rfl) (by kernel_rfl) (by kernel_rfl) (by kernel_rfl) (by kernel_rfl) (m145 h v0 G r hr)
/-- (*coxswain/cells.Mem).cell -/
noncomputable def s158 (q : Bool) (e : Ex) (v0 v1 : Value) (G : GS) : Option (Value × GS) :=
  bP (ep Q q false 32 (.tmp 5) (.const (.pointer none)) v0 (.pointer none)) fun x0 =>
  bS (gd x0 false (some (v0, G)) G) fun x1 G2 =>
  bS (gd x0 false (bP (pNil x1) fun y => some (y, G2)) G2) fun x3 G4 =>
  bS (gd x0 false (bP (fa Q q 158 0 0 x3) fun y => some (y, G4)) G4) fun x5 G6 =>
  bS (gd x0 false (bP (ld Q q 153 x5 G6) fun y => some (y, G6)) G6) fun x7 G8 =>
  bS (gd x0 false (bP (ep Q q false 153 (.tmp 11) (.const (.pointer none)) x7 (.pointer none)) fun y => some (y, G8)) G8) fun x9 G10 =>
  bP (pickV x0 (.bool true) x9) fun x11 =>
  bS (gd x11 false (some (v1, G10)) G10) fun x12 G13 =>
  bS (gd x11 false (bP (bn Q q .lss 3 (.tmp 15) (.const (.int .i64 0)) x12 (.int .i64 0)) fun y => some (y, G13)) G13) fun x14 G15 =>
  bP (pickV x11 (.bool true) x14) fun x16 =>
  bS (gd x16 false (some (v1, G15)) G15) fun x17 G18 =>
  bS (gd x16 false (some (v0, G18)) G18) fun x19 G20 =>
  bS (gd x16 false (bP (pNil x19) fun y => some (y, G20)) G20) fun x21 G22 =>
  bS (gd x16 false (bP (fa Q q 158 1 1 x21) fun y => some (y, G22)) G22) fun x23 G24 =>
  bS (gd x16 false (bP (ld Q q 3 x23 G24) fun y => some (y, G24)) G24) fun x25 G26 =>
  bS (gd x16 false (bP (bn Q q .geq 3 (.tmp 19) (.tmp 23) x17 x25) fun y => some (y, G26)) G26) fun x27 G28 =>
  bP (pickV x16 (.bool true) x27) fun x29 =>
  ifV x29 (
  some ((.pointer none), G28)) (
  bP (pNil v0) fun x30 =>
  bP (fa Q q 158 0 0 x30) fun x31 =>
  bP (ld Q q 153 x31 G28) fun x32 =>
  bP (pNil x32) fun x33 =>
  bP (iaa Q q 156 4096 1 x33 v1) fun x34 =>
  some (x34, G28))
theorem m158 {e : Ex} {E : Ev} (h : ExLe Q e E) (v0 v1 : Value) (G : GS) : Ref (s158 true e v0 v1 G) (s158 false (Ex.of E) v0 v1 G) := by
  unfold s158
  exact Ref.gq
theorem f158 {orc : FuncId → Bool} {e : Ex} (h : ExLe Q e (E orc)) (v0 v1 : Value) (G : GS) : Ref (s158 true e v0 v1 G) ((E orc).cl 158 [v0, v1] G) :=
  fun r hr => cl_sxE_some Q orc (vs := [v0, v1]) G Tryz.func158 (by kernel_rfl) (by kernel_rfl) (by kernel_rfl) (by kernel_rfl) (by kernel_rfl) (by kernel_rfl) (m158 h v0 v1 G r hr)
noncomputable def jb159_0 (q : Bool) (e : Ex) (τ : Env) (G : GS) : Option (Value × GS) :=
  bV q (τ 0) fun a0_ =>
  bV q (τ 10) fun a10_ =>
  bP (pNil a0_) fun x28 =>
  bP (fa Q q 158 2 2 x28) fun x29 =>
  bP (lda Q q 68 5 x29 G) fun x30 =>
  bP (st Q q 68 5 a10_ x30 G) fun G31 =>
  bP (lda Q q 68 5 a10_ G31) fun x32 =>
  some (x32, G31)
noncomputable def j159_0 (q : Bool) (e : Ex) (τ : Env) (G : GS) : Option (Value × GS) := jb159_0 q e τ G
theorem mj159_0 {e : Ex} {E : Ev} (h : ExLe Q e E) (τ : Env) (G : GS) : Ref (j159_0 true e τ G) (j159_0 false (Ex.of E) τ G) := by
  unfold j159_0 jb159_0
  exact Ref.gq
theorem mkj159_0 {e : Ex} {E : Ev} (h : ExLe Q e E) {τ : Env} {l U : List (Nat × Value)} {G : GS} (hU : UOk τ U) : Ref (j159_0 true e (xq true 67 τ l U) G) (j159_0 false (Ex.of E) (xq false 67 τ l U) G) := by
  rw [xq_eq hU]
  exact mj159_0 h _ _
noncomputable def sb159 (q : Bool) (e : Ex) (J0 : Env → GS → Option (Value × GS)) (v0 v1 v2 v3 v4 : Value) (G : GS) : Option (Value × GS) :=
  bS (al Q q 68 z68 G) fun x0 G1 =>
  bP (ep Q q false 32 (.tmp 13) (.const (.pointer none)) v0 (.pointer none)) fun x2 =>
  bS (gd x2 false (some (v0, G1)) G1) fun x3 G4 =>
  bS (gd x2 false (bP (pNil x3) fun y => some (y, G4)) G4) fun x5 G6 =>
  bS (gd x2 false (bP (fa Q q 158 0 0 x5) fun y => some (y, G6)) G6) fun x7 G8 =>
  bS (gd x2 false (bP (ld Q q 153 x7 G8) fun y => some (y, G8)) G8) fun x9 G10 =>
  bS (gd x2 false (bP (ep Q q false 153 (.tmp 19) (.const (.pointer none)) x9 (.pointer none)) fun y => some (y, G10)) G10) fun x11 G12 =>
  bP (pickV x2 (.bool true) x11) fun x13 =>
  ifV x13 (
  bP (bd Q q 68 z68 [] []) fun x14 =>
  bP (st Q q 68 5 x0 x14 G12) fun G15 =>
  bP (lda Q q 68 5 x0 G15) fun x16 =>
  some (x16, G15)) (
  bP (pNil v0) fun x17 =>
  bP (fa Q q 158 3 7 x17) fun x18 =>
  bP (ld Q q 3 x18 G12) fun x19 =>
  bP (bn Q q .add 3 (.tmp 26) (.const (.int .i64 1)) x19 (.int .i64 1)) fun x20 =>
  bP (pNil v0) fun x21 =>
  bP (fa Q q 158 3 7 x21) fun x22 =>
  bP (st Q q 3 1 x22 x20 G12) fun G23 =>
  bP (bd Q q 68 z68 [(0, 0, 1), (1, 1, 1)] [v1, v2]) fun x24 =>
  bP (pNil v0) fun x25 =>
  bP (fa Q q 158 2 2 x25) fun x26 =>
  bP (st Q q 68 5 x26 x24 G23) fun G27 =>
  bS (e.ev.cl 248 [v3] G27) fun x33 G34 =>
  ifV x33 (
  bS (cValue e.ev v4 [] G34) fun x35 G36 =>
  bP (pExtract x35 0) fun x37 =>
  bP (pExtract x35 1) fun x38 =>
  bP (pNil v3) fun x39 =>
  bP (ld Q q 154 x39 G36) fun x40 =>
  bP (pNil v0) fun x41 =>
  bP (fa Q q 158 2 2 x41) fun x42 =>
  bP (fa Q q 68 2 2 x42) fun x43 =>
  bP (st Q q 41 1 x43 x40 G36) fun G44 =>
  bP (pNil v0) fun x45 =>
  bP (fa Q q 158 2 2 x45) fun x46 =>
  bP (fa Q q 68 3 3 x46) fun x47 =>
  bP (st Q q 41 1 x47 x37 G44) fun G48 =>
  bP (pNil v0) fun x49 =>
  bP (fa Q q 158 2 2 x49) fun x50 =>
  bP (fa Q q 68 4 4 x50) fun x51 =>
  bP (st Q q 4 1 x51 x38 G48) fun G52 =>
  bP (pNil v3) fun x53 =>
  bP (st Q q 154 1 x53 x37 G52) fun G54 =>
  J0 (xq q 67 (nth undef [v0, v1, v2, v3, v4]) [(62, x53), (61, x37), (60, v3), (59, x51), (58, x50), (57, x49), (56, x47), (55, x46), (54, x45), (53, x43), (52, x42), (51, x41), (50, x38), (49, x37), (48, x40), (47, x39), (46, v3), (45, v0), (44, v0), (43, v0), (12, x38), (11, x37), (42, x38), (41, x37), (38, x35), (40, x35), (39, v4), (37, x33), (36, v3), (35, x26), (34, x25), (33, x24), (32, v2), (31, v1), (30, v0), (29, x22), (28, x21), (27, x20), (26, x19), (25, x18), (24, x17), (23, v0), (21, x13), (20, x11), (19, x9), (18, x7), (17, x5), (16, x3), (15, x2), (14, x2), (13, v0), (10, x0)] []) G54) (
  J0 (xq q 67 (nth undef [v0, v1, v2, v3, v4]) [(37, x33), (36, v3), (35, x26), (34, x25), (33, x24), (32, v2), (31, v1), (30, v0), (29, x22), (28, x21), (27, x20), (26, x19), (25, x18), (24, x17), (23, v0), (21, x13), (20, x11), (19, x9), (18, x7), (17, x5), (16, x3), (15, x2), (14, x2), (13, v0), (10, x0)] []) G34))
/-- (*coxswain/cells.Mem).do -/
noncomputable def s159 (q : Bool) (e : Ex) (v0 v1 v2 v3 v4 : Value) (G : GS) : Option (Value × GS) := sb159 q e (j159_0 q e) v0 v1 v2 v3 v4 G
theorem m159 {e : Ex} {E : Ev} (h : ExLe Q e E) (v0 v1 v2 v3 v4 : Value) (G : GS) : Ref (s159 true e v0 v1 v2 v3 v4 G) (s159 false (Ex.of E) v0 v1 v2 v3 v4 G) := by
  unfold s159 sb159
  repeat' (with_reducible first | exact Ref.rfl' _ | exact ROp.r | refine Ref.bP ?_ fun _ => ?_ | refine Ref.bS ?_ fun _ _ => ?_ | exact Ref.cl (by assumption) | refine Ref.ifV ?_ ?_ | refine LpLe.rx (by assumption) ?_ | refine Ref.xitq ?_ | exact UOk.z | refine UOk.c (by assumption) ?_ | exact Ref.nil _ | refine Ref.bVe fun _ _ => ?_ | refine Ref.bLq (by assumption) ?_ fun _ _ _ => ?_ | refine Ref.ifE ?_ ?_ | refine Ref.chk ?_ ?_ | refine Imp.and ?_ ?_ | refine Imp.or ?_ | exact Imp.rfl' _ | refine Imp.sameO ?_ | refine Ref.gd ?_ | exact Ref.cValue (by assumption) | refine Ref.bX ?_ fun _ _ _ => ?_ | exact Ref.scQ (by assumption) | exact Ref.xRangeQ (by assumption) | exact Ref.cInvoke (by assumption) | refine mkj159_0 (by assumption) ?_)
noncomputable def jt159 (J0 : Env → GS → Option (Value × GS)) : JT (Value × GS) :=
  (.n none .e (.n none .e (.n none .e (.n none .e (.n (some (fun T G => J0 (nth undef T) G)) .e .e)))))
theorem jr159_0 (orc : FuncId → Bool) (J0 : Env → GS → Option (Value × GS)) (T : List Value) (G : GS) : runC Q (evL Q orc) Tryz.f159.ntmps (jt159 J0) (bodyOf Tryz.f159) (retE Q Tryz.f159.results.toList) [true, true, true, true] (nth undef T) G = jb159_0 false (Ex.of (E orc))  (nth undef T) G := by kernel_rfl
theorem jo159 (orc : FuncId → Bool) : JOk Q orc Tryz.f159.ntmps (jt159 (j159_0 false (Ex.of (E orc))) ) (bodyOf Tryz.f159) (retE Q Tryz.f159.results.toList) :=
  jOk Q orc (l := [([true, true, true, true], (fun T G => j159_0 false (Ex.of (E orc)) (nth undef T) G))]) (by kernel_rfl) (AllE.c (fun T G => jr159_0 orc (j159_0 false (Ex.of (E orc))) T G) (AllE.z))
theorem je159 (orc : FuncId → Bool) (J0 : Env → GS → Option (Value × GS)) (v0 v1 v2 v3 v4 : Value) (G : GS) : sxC Q (evL Q orc) Tryz.f159.ntmps (jt159 J0) (bodyOf Tryz.f159) (nth undef [v0, v1, v2, v3, v4]) G (retE Q Tryz.f159.results.toList) = sb159 false (Ex.of (E orc)) J0 v0 v1 v2 v3 v4 G := by kernel_rfl
theorem f159 {orc : FuncId → Bool} {e : Ex} (h : ExLe Q e (E orc)) (v0 v1 v2 v3 v4 : Value) (G : GS) : Ref (s159 true e v0 v1 v2 v3 v4 G) ((E orc).cl 159 [v0, v1, v2, v3, v4] G) :=
  fun r hr => cl_sxC Q orc (vs := [v0, v1, v2, v3, v4]) G (jt159 (j159_0 false (Ex.of (E orc))) ) Tryz.func159 (by kernel_rfl) (by kernel_rfl) (by kernel_rfl) (by kernel_rfl) (by kernel_rfl) (jo159 orc) (je159 orc (j159_0 false (Ex.of (E orc))) v0 v1 v2 v3 v4 G) (m159 h v0 v1 v2 v3 v4 G r hr)
/-- (*coxswain/cells.Mem).Load -/
noncomputable def s177 (q : Bool) (e : Ex) (v0 v1 : Value) (G : GS) : Option (Value × GS) :=
  bS (e.ev.cl 158 [v0, v1] G) fun x0 G1 =>
  bP (bd Q q 246 z246 [(0, 0, 1)] [x0]) fun x2 =>
  bS (al Q q 246 z246 G1) fun x3 G4 =>
  bP (st Q q 246 3 x3 x2 G4) fun G5 =>
  bP (fa Q q 246 0 0 x3) fun x6 =>
  bP (ld Q q 243 x6 G5) fun x7 =>
  bP (lda Q q 246 3 x3 G5) fun x8 =>
  bS (e.ev.cl 159 [v0, (.int .i64 1), v1, x7, (.func (.func 260) #[x8] #[])] G5) fun x9 G10 =>
  bP (fd Q q 68 3 3 x9) fun x11 =>
  some (x11, G10)
theorem m177 {e : Ex} {E : Ev} (h : ExLe Q e E) (v0 v1 : Value) (G : GS) : Ref (s177 true e v0 v1 G) (s177 false (Ex.of E) v0 v1 G) := by
  unfold s177
  exact Ref.gq
theorem f177 {orc : FuncId → Bool} {e : Ex} (h : ExLe Q e (E orc)) (v0 v1 : Value) (G : GS) : Ref (s177 true e v0 v1 G) ((E orc).cl 177 [v0, v1] G) :=
  fun r hr => cl_sxE_some Q orc (vs := [v0, v1]) G Tryz.func177 (by kernel_rfl) (by kernel_rfl) (by kernel_rfl) (by kernel_rfl) (by kernel_rfl) (by kernel_rfl) (m177 h v0 v1 G r hr)
/-- (coxswain/cells.deed).swap -/
noncomputable def s193 (q : Bool) (e : Ex) (v0 : Value) (G : GS) : Option (Value × GS) :=
  bS (bx q v0 G) fun x0 G1 =>
  bP (fa Q q 246 0 0 x0) fun x2 =>
  bP (ld Q q 243 x2 (G1.room 7)) fun x3 =>
  bP (pNil x3) fun x4 =>
  bP (ld Q q 154 x4 (G1.room 7)) fun x5 =>
  bP (fa Q q 246 1 1 x0) fun x6 =>
  bP (ld Q q 41 x6 (G1.room 7)) fun x7 =>
  bP (bn Q q .neq 41 (.tmp 7) (.tmp 9) x5 x7) fun x8 =>
  ifV x8 (
  bP (fa Q q 246 0 0 x0) fun x9 =>
  bP (ld Q q 243 x9 (G1.room 7)) fun x10 =>
  bP (pNil x10) fun x11 =>
  bP (ld Q q 154 x11 (G1.room 7)) fun x12 =>
  some (.tuple #[x12, (.bool false)], (G1.room 7))) (
  bP (fa Q q 246 2 2 x0) fun x13 =>
  bP (ld Q q 41 x13 (G1.room 7)) fun x14 =>
  some (.tuple #[x14, (.bool true)], (G1.room 7)))
theorem m193 {e : Ex} {E : Ev} (h : ExLe Q e E) (v0 : Value) (G : GS) : Ref (s193 true e v0 G) (s193 false (Ex.of E) v0 G) := by
  unfold s193
  exact Ref.gq
theorem f193 {orc : FuncId → Bool} {e : Ex} (h : ExLe Q e (E orc)) (v0 : Value) (G : GS) : Ref (s193 true e v0 G) ((E orc).cl 193 [v0] G) :=
  fun r hr => cl_sxE_some Q orc (vs := [v0]) G Tryz.func193 (by kernel_rfl) (by kernel_rfl) (by kernel_rfl) (by kernel_rfl) (by kernel_rfl) (by kernel_rfl) (m193 h v0 G r hr)
noncomputable def b233_0 (q : Bool) (e : Ex) (lp : Env → GS → Option (Exit × Env × GS)) (τ : Env) (G : GS) : Option (Exit × Env × GS) :=
  bV q (τ 0) fun a0_ =>
  bV q (τ 1) fun a1_ =>
  bV q (τ 6) fun a6_ =>
  bV q (τ 7) fun a7_ =>
  bP (bn Q q .lss 3 (.tmp 7) (.tmp 6) a7_ a6_) fun x0 =>
  ifV x0 (
  bP (fa Q q 95 0 0 a1_) fun x1 =>
  bP (ld Q q 3 x1 G) fun x2 =>
  bP (fa Q q 95 2 2 a1_) fun x3 =>
  bP (ld Q q 3 x3 G) fun x4 =>
  bP (bn Q q .add 3 (.tmp 14) (.const (.int .i64 2)) x4 (.int .i64 2)) fun x5 =>
  bP (bn Q q .mul 3 (.tmp 12) (.tmp 15) a7_ x5) fun x6 =>
  bP (bn Q q .add 3 (.tmp 11) (.tmp 16) x2 x6) fun x7 =>
  bP (bn Q q .add 3 (.tmp 21) (.const (.int .i64 1)) x7 (.int .i64 1)) fun x8 =>
  bP (bn Q q .add 3 (.tmp 23) (.const (.int .i64 2)) x7 (.int .i64 2)) fun x9 =>
  bP (fa Q q 95 2 2 a1_) fun x10 =>
  bP (ld Q q 3 x10 G) fun x11 =>
  bP (bd Q q 97 z97 [(0, 0, 1), (1, 1, 1), (2, 2, 1), (3, 3, 1)] [x7, x8, x9, x11]) fun x12 =>
  bS (cValue e.ev a0_ [a7_, x12] G) fun x13 G14 =>
  bP (un Q q .not x13) fun x15 =>
  ifV x15 (
  some (.ret, xq q 31 τ [(29, x15), (28, x13), (27, x12), (26, x11), (25, x10), (24, x9), (23, x7), (22, x8), (21, x7), (20, x7), (19, a7_), (18, a0_), (4, x7), (17, x7), (16, x6), (15, x5), (14, x4), (13, x3), (12, a7_), (11, x2), (10, x1), (3, a7_), (9, a7_), (8, x0)] [(0, a0_), (1, a1_), (6, a6_), (7, a7_)], G14)) (
  bP (bn Q q .add 3 (.tmp 7) (.const (.int .i64 1)) a7_ (.int .i64 1)) fun x16 =>
  lp (xq q 31 τ [(7, x16), (30, x16), (29, x15), (28, x13), (27, x12), (26, x11), (25, x10), (24, x9), (23, x7), (22, x8), (21, x7), (20, x7), (19, a7_), (18, a0_), (4, x7), (17, x7), (16, x6), (15, x5), (14, x4), (13, x3), (12, a7_), (11, x2), (10, x1), (3, a7_), (9, a7_), (8, x0)] [(0, a0_), (1, a1_), (6, a6_)]) G14)) (
  some ((.exit 0), xq q 31 τ [(8, x0)] [(0, a0_), (1, a1_), (6, a6_), (7, a7_)], G))
theorem mb233_0 {e : Ex} {E : Ev} (h : ExLe Q e E) {lp lp' : Env → GS → Option (Exit × Env × GS)} (hlp : LpLe lp lp') (τ : Env) (G : GS) : Ref (b233_0 true e lp τ G) (b233_0 false (Ex.of E) lp' τ G) := by
  unfold b233_0
  exact Ref.gq
theorem l233_0 {orc : FuncId → Bool} {e : Ex} (h : ExLe Q e (E orc)) (lp : Env → GS → Option (Exit × Env × GS)) (hlp : ∀ τ G, Ref (lp τ G) (mapE ((E orc).lp (subAt [1, 0, 0] (bodyOf Tryz.f233)) (lst 31 τ) G))) (T : List Value) (G : GS) (hT : T.length = 31) : Ref (b233_0 true e lp (nth undef T) G) (mapE ((E orc).lp (subAt [1, 0, 0] (bodyOf Tryz.f233)) T G)) :=
  fun r hr => lp_sxN Q orc G hT (by kernel_rfl) (mb233_0 h ⟨hlp⟩ _ _ r hr)
/-- coxswain/mail.boxes$1 -/
noncomputable def s233 (q : Bool) (e : Ex) (v0 v1 : Value) (G : GS) : Option (Value × GS) :=
  bP (fa Q q 95 1 1 v1) fun x0 =>
  bP (ld Q q 3 x0 G) fun x1 =>
  bLq q e 233 0 (subAt [1, 0, 0] (bodyOf Tryz.f233)) 31 (nth undef [v0, v1]) [(7, (.int .i64 0)), (6, x1), (5, x0)] [] G fun e2 t3 G4 =>
  ifE e2 (.exit 0) (
  some (.tuple #[], G4)) (ifE e2 .ret (
  some (.tuple #[], G4)) (none))
theorem m233 {e : Ex} {E : Ev} (h : ExLe Q e E) (v0 v1 : Value) (G : GS) : Ref (s233 true e v0 v1 G) (s233 false (Ex.of E) v0 v1 G) := by
  unfold s233
  exact Ref.gq
theorem f233 {orc : FuncId → Bool} {e : Ex} (h : ExLe Q e (E orc)) (v0 v1 : Value) (G : GS) : Ref (s233 true e v0 v1 G) ((E orc).cl 233 [v0, v1] G) :=
  fun r hr => cl_sxE_some Q orc (vs := [v0, v1]) G Tryz.func233 (by kernel_rfl) (by kernel_rfl) (by kernel_rfl) (by kernel_rfl) (by kernel_rfl) (by kernel_rfl) (m233 h v0 v1 G r hr)
/-- coxswain/mail.refused -/
noncomputable def s234 (q : Bool) (e : Ex) (v0 v1 : Value) (G : GS) : Option (Value × GS) :=
  bS (bx q v0 G) fun x0 G1 =>
  bP (lda Q q 95 3 x0 G1) fun x2 =>
  bS (e.ev.cl 131 [x2] G1) fun x3 G4 =>
  bP (un Q q .not x3) fun x5 =>
  ifV x5 (
  some ((.int .i64 2), G4)) (
  bP (bn Q q .lss 3 (.tmp 10) (.const (.int .i64 0)) v1 (.int .i64 0)) fun x6 =>
  bS (gd x6 false (some (v1, G4)) G4) fun x7 G8 =>
  bS (gd x6 false (bP (fa Q q 95 1 1 x0) fun y => some (y, G8)) G8) fun x9 G10 =>
  bS (gd x6 false (bP (ld Q q 3 x9 G10) fun y => some (y, G10)) G10) fun x11 G12 =>
  bS (gd x6 false (bP (bn Q q .geq 3 (.tmp 13) (.tmp 15) x7 x11) fun y => some (y, G12)) G12) fun x13 G14 =>
  bP (pickV x6 (.bool true) x13) fun x15 =>
  ifV x15 (
  some ((.int .i64 3), G14)) (
  some ((.int .i64 0), G14)))
theorem m234 {e : Ex} {E : Ev} (h : ExLe Q e E) (v0 v1 : Value) (G : GS) : Ref (s234 true e v0 v1 G) (s234 false (Ex.of E) v0 v1 G) := by
  unfold s234
  exact Ref.gq
theorem f234 {orc : FuncId → Bool} {e : Ex} (h : ExLe Q e (E orc)) (v0 v1 : Value) (G : GS) : Ref (s234 true e v0 v1 G) ((E orc).cl 234 [v0, v1] G) :=
  fun r hr => cl_sxE_some Q orc (vs := [v0, v1]) G Tryz.func234 (by kernel_rfl) (by kernel_rfl) (by kernel_rfl) (by kernel_rfl) (by kernel_rfl) (by kernel_rfl) (m234 h v0 v1 G r hr)
/-- coxswain/ring.NewPush -/
noncomputable def s235 (q : Bool) (e : Ex) (v0 v1 : Value) (G : GS) : Option (Value × GS) :=
  bS (bx q v0 G) fun x0 G1 =>
  bP (lda Q q 97 4 x0 G1) fun x2 =>
  bS (e.ev.cl 304 [x2] G1) fun x3 G4 =>
  bP (bd Q q 460 z460 [(0, 0, 7), (1, 7, 1)] [x3, v1]) fun x5 =>
  bS (bx q x5 G4) fun x6 G7 =>
  bP (pNil x6) fun x8 =>
  bP (fa Q q 460 0 0 x8) fun x9 =>
  bP (fa Q q 456 3 6 x9) fun x10 =>
  bP (ld Q q 33 x10 G7) fun x11 =>
  bP (bn Q q .neq 33 (.tmp 22) (.const (.int .i64 0)) x11 (.int .i64 0)) fun x12 =>
  ifV x12 (
  some (x6, G7)) (
  bP (bn Q q .lss 3 (.tmp 25) (.const (.int .i64 0)) v1 (.int .i64 0)) fun x13 =>
  bS (gd x13 false (some (v1, G7)) G7) fun x14 G15 =>
  bS (gd x13 false (bP (bn Q q .gtr 3 (.tmp 28) (.const (.int .i64 65535)) x14 (.int .i64 65535)) fun y => some (y, G15)) G15) fun x16 G17 =>
  bP (pickV x13 (.bool true) x16) fun x18 =>
  ifV x18 (
  bP (pNil x6) fun x19 =>
  bP (fa Q q 460 0 0 x19) fun x20 =>
  bS (e.ev.cl 305 [x20, (.int .i64 3)] G17) fun x21 G22 =>
  some (x6, G22)) (
  bP (pNil x6) fun x23 =>
  bP (fa Q q 460 0 0 x23) fun x24 =>
  bP (fa Q q 456 1 4 x24) fun x25 =>
  bP (st Q q 159 1 x25 (.func (.func 306) #[x6] #[]) G17) fun G26 =>
  some (x6, G26)))
theorem m235 {e : Ex} {E : Ev} (h : ExLe Q e E) (v0 v1 : Value) (G : GS) : Ref (s235 true e v0 v1 G) (s235 false (Ex.of E) v0 v1 G) := by
  unfold s235
  exact Ref.gq
theorem f235 {orc : FuncId → Bool} {e : Ex} (h : ExLe Q e (E orc)) (v0 v1 : Value) (G : GS) : Ref (s235 true e v0 v1 G) ((E orc).cl 235 [v0, v1] G) :=
  fun r hr => cl_sxE_some Q orc (vs := [v0, v1]) G Tryz.func235 (by kernel_rfl) (by kernel_rfl) (by kernel_rfl) (by kernel_rfl) (by kernel_rfl) (by kernel_rfl) (m235 h v0 v1 G r hr)
/-- coxswain/coxswainref25.Refused -/
noncomputable def s236 (q : Bool) (e : Ex) (v0 v1 : Value) (G : GS) : Option (Value × GS) :=
  bS (bx q v0 G) fun x0 G1 =>
  bP (lda Q q 95 3 x0 G1) fun x2 =>
  bS (e.ev.cl 133 [x2] G1) fun x3 G4 =>
  bP (un Q q .not x3) fun x5 =>
  ifV x5 (
  some ((.int .i64 2), G4)) (
  bP (bn Q q .lss 3 (.tmp 10) (.const (.int .i64 0)) v1 (.int .i64 0)) fun x6 =>
  bS (gd x6 false (some (v1, G4)) G4) fun x7 G8 =>
  bS (gd x6 false (bP (fa Q q 95 1 1 x0) fun y => some (y, G8)) G8) fun x9 G10 =>
  bS (gd x6 false (bP (ld Q q 3 x9 G10) fun y => some (y, G10)) G10) fun x11 G12 =>
  bS (gd x6 false (bP (bn Q q .geq 3 (.tmp 13) (.tmp 15) x7 x11) fun y => some (y, G12)) G12) fun x13 G14 =>
  bP (pickV x6 (.bool true) x13) fun x15 =>
  ifV x15 (
  some ((.int .i64 3), G14)) (
  some ((.int .i64 0), G14)))
theorem m236 {e : Ex} {E : Ev} (h : ExLe Q e E) (v0 v1 : Value) (G : GS) : Ref (s236 true e v0 v1 G) (s236 false (Ex.of E) v0 v1 G) := by
  unfold s236
  exact Ref.gq
theorem f236 {orc : FuncId → Bool} {e : Ex} (h : ExLe Q e (E orc)) (v0 v1 : Value) (G : GS) : Ref (s236 true e v0 v1 G) ((E orc).cl 236 [v0, v1] G) :=
  fun r hr => cl_sxE_some Q orc (vs := [v0, v1]) G Tryz.func236 (by kernel_rfl) (by kernel_rfl) (by kernel_rfl) (by kernel_rfl) (by kernel_rfl) (by kernel_rfl) (m236 h v0 v1 G r hr)
/-- coxswain/coxswainref14.NewPush -/
noncomputable def s237 (q : Bool) (e : Ex) (v0 v1 : Value) (G : GS) : Option (Value × GS) :=
  bS (bx q v0 G) fun x0 G1 =>
  bP (fa Q q 97 3 3 x0) fun x2 =>
  bP (ld Q q 3 x2 G1) fun x3 =>
  bS (e.ev.cl 307 [x3] G1) fun x4 G5 =>
  bP (un Q q .not x4) fun x6 =>
  ifV x6 (
  bP (bd Q q 464 z464 [(2, 5, 1), (5, 8, 1)] [(.int .i64 9), (.int .i64 2)]) fun x7 =>
  bS (bx q x7 G5) fun x8 G9 =>
  some (x8, G9)) (
  bP (bn Q q .lss 3 (.tmp 13) (.const (.int .i64 0)) v1 (.int .i64 0)) fun x10 =>
  bS (gd x10 false (some (v1, G5)) G5) fun x11 G12 =>
  bS (gd x10 false (bP (bn Q q .gtr 3 (.tmp 16) (.const (.int .i64 65535)) x11 (.int .i64 65535)) fun y => some (y, G12)) G12) fun x13 G14 =>
  bP (pickV x10 (.bool true) x13) fun x15 =>
  ifV x15 (
  bP (bd Q q 464 z464 [(2, 5, 1), (5, 8, 1)] [(.int .i64 9), (.int .i64 3)]) fun x16 =>
  bS (bx q x16 G14) fun x17 G18 =>
  some (x17, G18)) (
  bP (lda Q q 97 4 x0 G14) fun x19 =>
  bP (bd Q q 464 z464 [(0, 0, 4), (1, 4, 1), (2, 5, 1)] [x19, v1, (.int .i64 1)]) fun x20 =>
  bS (bx q x20 G14) fun x21 G22 =>
  some (x21, G22)))
theorem m237 {e : Ex} {E : Ev} (h : ExLe Q e E) (v0 v1 : Value) (G : GS) : Ref (s237 true e v0 v1 G) (s237 false (Ex.of E) v0 v1 G) := by
  unfold s237
  exact Ref.gq
theorem f237 {orc : FuncId → Bool} {e : Ex} (h : ExLe Q e (E orc)) (v0 v1 : Value) (G : GS) : Ref (s237 true e v0 v1 G) ((E orc).cl 237 [v0, v1] G) :=
  fun r hr => cl_sxE_some Q orc (vs := [v0, v1]) G Tryz.func237 (by kernel_rfl) (by kernel_rfl) (by kernel_rfl) (by kernel_rfl) (by kernel_rfl) (by kernel_rfl) (m237 h v0 v1 G r hr)
/-- coxswain/ring.NewFront -/
noncomputable def s238 (q : Bool) (e : Ex) (v0 : Value) (G : GS) : Option (Value × GS) :=
  bS (bx q v0 G) fun x0 G1 =>
  bP (lda Q q 97 4 x0 G1) fun x2 =>
  bS (e.ev.cl 304 [x2] G1) fun x3 G4 =>
  bP (bd Q q 466 z466 [(0, 0, 7)] [x3]) fun x5 =>
  bS (bx q x5 G4) fun x6 G7 =>
  bP (pNil x6) fun x8 =>
  bP (fa Q q 466 0 0 x8) fun x9 =>
  bP (fa Q q 456 3 6 x9) fun x10 =>
  bP (ld Q q 33 x10 G7) fun x11 =>
  bP (bn Q q .eql 33 (.tmp 12) (.const (.int .i64 0)) x11 (.int .i64 0)) fun x12 =>
  ifV x12 (
  bP (pNil x6) fun x13 =>
  bP (fa Q q 466 0 0 x13) fun x14 =>
  bP (fa Q q 456 1 4 x14) fun x15 =>
  bP (st Q q 159 1 x15 (.func (.func 308) #[x6] #[]) G7) fun G16 =>
  some (x6, G16)) (
  some (x6, G7))
theorem m238 {e : Ex} {E : Ev} (h : ExLe Q e E) (v0 : Value) (G : GS) : Ref (s238 true e v0 G) (s238 false (Ex.of E) v0 G) := by
  unfold s238
  exact Ref.gq
theorem f238 {orc : FuncId → Bool} {e : Ex} (h : ExLe Q e (E orc)) (v0 : Value) (G : GS) : Ref (s238 true e v0 G) ((E orc).cl 238 [v0] G) :=
  fun r hr => cl_sxE_some Q orc (vs := [v0]) G Tryz.func238 (by kernel_rfl) (by kernel_rfl) (by kernel_rfl) (by kernel_rfl) (by kernel_rfl) (by kernel_rfl) (m238 h v0 G r hr)
/-- coxswain/coxswainref14.NewFront -/
noncomputable def s239 (q : Bool) (e : Ex) (v0 : Value) (G : GS) : Option (Value × GS) :=
  bS (bx q v0 G) fun x0 G1 =>
  bP (fa Q q 97 3 3 x0) fun x2 =>
  bP (ld Q q 3 x2 G1) fun x3 =>
  bS (e.ev.cl 307 [x3] G1) fun x4 G5 =>
  bP (un Q q .not x4) fun x6 =>
  ifV x6 (
  bP (bd Q q 468 z468 [(1, 4, 1), (4, 7, 1)] [(.int .i64 9), (.int .i64 2)]) fun x7 =>
  bS (bx q x7 G5) fun x8 G9 =>
  some (x8, G9)) (
  bP (lda Q q 97 4 x0 G5) fun x10 =>
  bP (bd Q q 468 z468 [(0, 0, 4), (1, 4, 1)] [x10, (.int .i64 1)]) fun x11 =>
  bS (bx q x11 G5) fun x12 G13 =>
  some (x12, G13))
theorem m239 {e : Ex} {E : Ev} (h : ExLe Q e E) (v0 : Value) (G : GS) : Ref (s239 true e v0 G) (s239 false (Ex.of E) v0 G) := by
  unfold s239
  exact Ref.gq
theorem f239 {orc : FuncId → Bool} {e : Ex} (h : ExLe Q e (E orc)) (v0 : Value) (G : GS) : Ref (s239 true e v0 G) ((E orc).cl 239 [v0] G) :=
  fun r hr => cl_sxE_some Q orc (vs := [v0]) G Tryz.func239 (by kernel_rfl) (by kernel_rfl) (by kernel_rfl) (by kernel_rfl) (by kernel_rfl) (by kernel_rfl) (m239 h v0 G r hr)
/-- slices.Clone[[]int,int] -/
noncomputable def s240 (q : Bool) (e : Ex) (v0 : Value) (G : GS) : Option (Value × GS) :=
  bP (es Q q false 78 (.tmp 3) (.const (.slice none 0 0)) v0 (.slice none 0 0)) fun x0 =>
  ifV x0 (
  some ((.slice none 0 0), G)) (
  bS (bs Q q 78 0 (rep z3 0) 1 [] [] G) fun x1 G2 =>
  bS (ap Q q 78 78 1 8 x1 v0 G2) fun x3 G4 =>
  some (x3, G4))
theorem m240 {e : Ex} {E : Ev} (h : ExLe Q e E) (v0 : Value) (G : GS) : Ref (s240 true e v0 G) (s240 false (Ex.of E) v0 G) := by
  unfold s240
  exact Ref.gq
theorem f240 {orc : FuncId → Bool} {e : Ex} (h : ExLe Q e (E orc)) (v0 : Value) (G : GS) : Ref (s240 true e v0 G) ((E orc).cl 240 [v0] G) :=
  fun r hr => cl_sxE_some Q orc (vs := [v0]) G Tryz.func240 (by kernel_rfl) (by kernel_rfl) (by kernel_rfl) (by kernel_rfl) (by kernel_rfl) (by kernel_rfl) (m240 h v0 G r hr)
/-- (*coxswain/cells.place).is -/
noncomputable def s248 (q : Bool) (e : Ex) (v0 : Value) (G : GS) : Option (Value × GS) :=
  bP (ep Q q true 243 (.tmp 3) (.const (.pointer none)) v0 (.pointer none)) fun x0 =>
  some (x0, G)
theorem m248 {e : Ex} {E : Ev} (h : ExLe Q e E) (v0 : Value) (G : GS) : Ref (s248 true e v0 G) (s248 false (Ex.of E) v0 G) := by
  unfold s248
  exact Ref.gq
theorem f248 {orc : FuncId → Bool} {e : Ex} (h : ExLe Q e (E orc)) (v0 : Value) (G : GS) : Ref (s248 true e v0 G) ((E orc).cl 248 [v0] G) :=
  fun r hr => cl_sxE_some Q orc (vs := [v0]) G Tryz.func248 (by kernel_rfl) (by kernel_rfl) (by kernel_rfl) (by kernel_rfl) (by kernel_rfl) (by kernel_rfl) (m248 h v0 G r hr)
/-- (coxswain/cells.deed).load -/
noncomputable def s260 (q : Bool) (e : Ex) (v0 : Value) (G : GS) : Option (Value × GS) :=
  bS (bx q v0 G) fun x0 G1 =>
  bP (fa Q q 246 0 0 x0) fun x2 =>
  bP (ld Q q 243 x2 G1) fun x3 =>
  bP (pNil x3) fun x4 =>
  bP (ld Q q 154 x4 G1) fun x5 =>
  some (.tuple #[x5, (.bool false)], G1)
theorem m260 {e : Ex} {E : Ev} (h : ExLe Q e E) (v0 : Value) (G : GS) : Ref (s260 true e v0 G) (s260 false (Ex.of E) v0 G) := by
  unfold s260
  exact Ref.gq
theorem f260 {orc : FuncId → Bool} {e : Ex} (h : ExLe Q e (E orc)) (v0 : Value) (G : GS) : Ref (s260 true e v0 G) ((E orc).cl 260 [v0] G) :=
  fun r hr => cl_sxE_some Q orc (vs := [v0]) G Tryz.func260 (by kernel_rfl) (by kernel_rfl) (by kernel_rfl) (by kernel_rfl) (by kernel_rfl) (by kernel_rfl) (m260 h v0 G r hr)
/-- coxswain/ring.begun -/
noncomputable def s304 (q : Bool) (e : Ex) (v0 : Value) (G : GS) : Option (Value × GS) :=
  bS (bx q v0 G) fun x0 G1 =>
  bS (al Q q 456 z456 G1) fun x2 G3 =>
  bP (lda Q q 97 4 x0 G3) fun x4 =>
  bS (e.ev.cl 311 [x4] G3) fun x5 G6 =>
  bP (un Q q .not x5) fun x7 =>
  ifV x7 (
  bP (bd Q q 456 z456 [(2, 5, 1), (3, 6, 1)] [(.bool true), (.int .i64 2)]) fun x8 =>
  bP (st Q q 456 7 x2 x8 G6) fun G9 =>
  bP (lda Q q 456 7 x2 G9) fun x10 =>
  some (x10, G9)) (
  bP (lda Q q 97 4 x0 G6) fun x11 =>
  bP (bd Q q 456 z456 [(0, 0, 4), (2, 5, 1)] [x11, (.bool true)]) fun x12 =>
  bP (st Q q 456 7 x2 x12 G6) fun G13 =>
  bP (lda Q q 456 7 x2 G13) fun x14 =>
  some (x14, G13))
theorem m304 {e : Ex} {E : Ev} (h : ExLe Q e E) (v0 : Value) (G : GS) : Ref (s304 true e v0 G) (s304 false (Ex.of E) v0 G) := by
  unfold s304
  exact Ref.gq
theorem f304 {orc : FuncId → Bool} {e : Ex} (h : ExLe Q e (E orc)) (v0 : Value) (G : GS) : Ref (s304 true e v0 G) ((E orc).cl 304 [v0] G) :=
  fun r hr => cl_sxE_some Q orc (vs := [v0]) G Tryz.func304 (by kernel_rfl) (by kernel_rfl) (by kernel_rfl) (by kernel_rfl) (by kernel_rfl) (by kernel_rfl) (m304 h v0 G r hr)
/-- (*coxswain/ring.work).ends -/
noncomputable def s305 (q : Bool) (e : Ex) (v0 v1 : Value) (G : GS) : Option (Value × GS) :=
  bP (pNil v0) fun x0 =>
  bP (fa Q q 456 1 4 x0) fun x1 =>
  bP (st Q q 159 1 x1 .nilFunc G) fun G2 =>
  bP (pNil v0) fun x3 =>
  bP (fa Q q 456 3 6 x3) fun x4 =>
  bP (st Q q 33 1 x4 v1 G2) fun G5 =>
  some (.tuple #[], G5)
theorem m305 {e : Ex} {E : Ev} (h : ExLe Q e E) (v0 v1 : Value) (G : GS) : Ref (s305 true e v0 v1 G) (s305 false (Ex.of E) v0 v1 G) := by
  unfold s305
  exact Ref.gq
theorem f305 {orc : FuncId → Bool} {e : Ex} (h : ExLe Q e (E orc)) (v0 v1 : Value) (G : GS) : Ref (s305 true e v0 v1 G) ((E orc).cl 305 [v0, v1] G) :=
  fun r hr => cl_sxE_some Q orc (vs := [v0, v1]) G Tryz.func305 (by kernel_rfl) (by kernel_rfl) (by kernel_rfl) (by kernel_rfl) (by kernel_rfl) (by kernel_rfl) (m305 h v0 v1 G r hr)
/-- (*coxswain/ring.Push).tail -/
noncomputable def s306 (q : Bool) (e : Ex) (v0 v1 : Value) (G : GS) : Option (Value × GS) :=
  bP (pNil v0) fun x0 =>
  bP (fa Q q 460 0 0 x0) fun x1 =>
  bP (fa Q q 456 0 0 x1) fun x2 =>
  bP (fa Q q 97 1 1 x2) fun x3 =>
  bP (ld Q q 3 x3 G) fun x4 =>
  bS (e.ev.cl 177 [v1, x4] G) fun x5 G6 =>
  bP (pNil v0) fun x7 =>
  bP (fa Q q 460 2 8 x7) fun x8 =>
  bP (st Q q 41 1 x8 x5 G6) fun G9 =>
  bP (pNil v0) fun x10 =>
  bP (fa Q q 460 0 0 x10) fun x11 =>
  bP (fa Q q 456 1 4 x11) fun x12 =>
  bP (st Q q 159 1 x12 (.func (.func 374) #[v0] #[]) G9) fun G13 =>
  some (.tuple #[], G13)
theorem m306 {e : Ex} {E : Ev} (h : ExLe Q e E) (v0 v1 : Value) (G : GS) : Ref (s306 true e v0 v1 G) (s306 false (Ex.of E) v0 v1 G) := by
  unfold s306
  exact Ref.gq
theorem f306 {orc : FuncId → Bool} {e : Ex} (h : ExLe Q e (E orc)) (v0 v1 : Value) (G : GS) : Ref (s306 true e v0 v1 G) ((E orc).cl 306 [v0, v1] G) :=
  fun r hr => cl_sxE_some Q orc (vs := [v0, v1]) G Tryz.func306 (by kernel_rfl) (by kernel_rfl) (by kernel_rfl) (by kernel_rfl) (by kernel_rfl) (by kernel_rfl) (m306 h v0 v1 G r hr)
/-- coxswain/coxswainref14.size -/
noncomputable def s307 (q : Bool) (e : Ex) (v0 : Value) (G : GS) : Option (Value × GS) :=
  bP (bn Q q .geq 3 (.tmp 3) (.const (.int .i64 1)) v0 (.int .i64 1)) fun x0 =>
  bS (gd x0 true (some (v0, G)) G) fun x1 G2 =>
  bS (gd x0 true (bP (bn Q q .leq 3 (.tmp 6) (.const (.int .i64 4096)) x1 (.int .i64 4096)) fun y => some (y, G2)) G2) fun x3 G4 =>
  bP (pickV x0 x3 (.bool false)) fun x5 =>
  some (x5, G4)
theorem m307 {e : Ex} {E : Ev} (h : ExLe Q e E) (v0 : Value) (G : GS) : Ref (s307 true e v0 G) (s307 false (Ex.of E) v0 G) := by
  unfold s307
  exact Ref.gq
theorem f307 {orc : FuncId → Bool} {e : Ex} (h : ExLe Q e (E orc)) (v0 : Value) (G : GS) : Ref (s307 true e v0 G) ((E orc).cl 307 [v0] G) :=
  fun r hr => cl_sxE_some Q orc (vs := [v0]) G Tryz.func307 (by kernel_rfl) (by kernel_rfl) (by kernel_rfl) (by kernel_rfl) (by kernel_rfl) (by kernel_rfl) (m307 h v0 G r hr)
/-- (*coxswain/ring.Front).head -/
noncomputable def s308 (q : Bool) (e : Ex) (v0 v1 : Value) (G : GS) : Option (Value × GS) :=
  bP (pNil v0) fun x0 =>
  bP (fa Q q 466 0 0 x0) fun x1 =>
  bP (fa Q q 456 0 0 x1) fun x2 =>
  bP (fa Q q 97 0 0 x2) fun x3 =>
  bP (ld Q q 3 x3 G) fun x4 =>
  bS (e.ev.cl 177 [v1, x4] G) fun x5 G6 =>
  bP (pNil v0) fun x7 =>
  bP (fa Q q 466 1 7 x7) fun x8 =>
  bP (st Q q 41 1 x8 x5 G6) fun G9 =>
  bP (pNil v0) fun x10 =>
  bP (fa Q q 466 0 0 x10) fun x11 =>
  bP (fa Q q 456 1 4 x11) fun x12 =>
  bP (st Q q 159 1 x12 (.func (.func 375) #[v0] #[]) G9) fun G13 =>
  some (.tuple #[], G13)
theorem m308 {e : Ex} {E : Ev} (h : ExLe Q e E) (v0 v1 : Value) (G : GS) : Ref (s308 true e v0 v1 G) (s308 false (Ex.of E) v0 v1 G) := by
  unfold s308
  exact Ref.gq
theorem f308 {orc : FuncId → Bool} {e : Ex} (h : ExLe Q e (E orc)) (v0 v1 : Value) (G : GS) : Ref (s308 true e v0 v1 G) ((E orc).cl 308 [v0, v1] G) :=
  fun r hr => cl_sxE_some Q orc (vs := [v0, v1]) G Tryz.func308 (by kernel_rfl) (by kernel_rfl) (by kernel_rfl) (by kernel_rfl) (by kernel_rfl) (by kernel_rfl) (m308 h v0 v1 G r hr)
/-- coxswain/ring.sized -/
noncomputable def s311 (q : Bool) (e : Ex) (v0 : Value) (G : GS) : Option (Value × GS) :=
  bS (bx q v0 G) fun x0 G1 =>
  bP (fa Q q 97 3 3 x0) fun x2 =>
  bP (ld Q q 3 x2 G1) fun x3 =>
  bP (bn Q q .geq 3 (.tmp 4) (.const (.int .i64 1)) x3 (.int .i64 1)) fun x4 =>
  bS (gd x4 true (bP (fa Q q 97 3 3 x0) fun y => some (y, G1)) G1) fun x5 G6 =>
  bS (gd x4 true (bP (ld Q q 3 x5 G6) fun y => some (y, G6)) G6) fun x7 G8 =>
  bS (gd x4 true (bP (bn Q q .leq 3 (.tmp 8) (.const (.int .i64 4096)) x7 (.int .i64 4096)) fun y => some (y, G8)) G8) fun x9 G10 =>
  bP (pickV x4 x9 (.bool false)) fun x11 =>
  some (x11, G10)
theorem m311 {e : Ex} {E : Ev} (h : ExLe Q e E) (v0 : Value) (G : GS) : Ref (s311 true e v0 G) (s311 false (Ex.of E) v0 G) := by
  unfold s311
  exact Ref.gq
theorem f311 {orc : FuncId → Bool} {e : Ex} (h : ExLe Q e (E orc)) (v0 : Value) (G : GS) : Ref (s311 true e v0 G) ((E orc).cl 311 [v0] G) :=
  fun r hr => cl_sxE_some Q orc (vs := [v0]) G Tryz.func311 (by kernel_rfl) (by kernel_rfl) (by kernel_rfl) (by kernel_rfl) (by kernel_rfl) (by kernel_rfl) (m311 h v0 G r hr)
/-- coxswain/ring.place -/
noncomputable def s314 (q : Bool) (e : Ex) (v0 v1 : Value) (G : GS) : Option (Value × GS) :=
  bS (bx q v0 G) fun x0 G1 =>
  bP (fa Q q 97 2 2 x0) fun x2 =>
  bP (ld Q q 3 x2 (G1.room 10)) fun x3 =>
  bP (fa Q q 97 3 3 x0) fun x4 =>
  bP (ld Q q 3 x4 (G1.room 10)) fun x5 =>
  bP (cv Q q 3 41 .i64 .u64 x5) fun x6 =>
  bP (bn Q q .rem 41 (.tmp 7) (.tmp 10) v1 x6) fun x7 =>
  bP (cv Q q 41 3 .u64 .i64 x7) fun x8 =>
  bP (bn Q q .add 3 (.tmp 6) (.tmp 12) x3 x8) fun x9 =>
  some (x9, (G1.room 10))
theorem m314 {e : Ex} {E : Ev} (h : ExLe Q e E) (v0 v1 : Value) (G : GS) : Ref (s314 true e v0 v1 G) (s314 false (Ex.of E) v0 v1 G) := by
  unfold s314
  exact Ref.gq
theorem f314 {orc : FuncId → Bool} {e : Ex} (h : ExLe Q e (E orc)) (v0 v1 : Value) (G : GS) : Ref (s314 true e v0 v1 G) ((E orc).cl 314 [v0, v1] G) :=
  fun r hr => cl_sxE_some Q orc (vs := [v0, v1]) G Tryz.func314 (by kernel_rfl) (by kernel_rfl) (by kernel_rfl) (by kernel_rfl) (by kernel_rfl) (by kernel_rfl) (m314 h v0 v1 G r hr)
/-- (coxswain/ring.slot).value -/
noncomputable def s315 (q : Bool) (e : Ex) (v0 : Value) (G : GS) : Option (Value × GS) :=
  bP (bn Q q .and 458 (.tmp 3) (.const (.int .u64 65535)) v0 (.int .u64 65535)) fun x0 =>
  bP (cv Q q 458 3 .u64 .i64 x0) fun x1 =>
  some (x1, G)
theorem m315 {e : Ex} {E : Ev} (h : ExLe Q e E) (v0 : Value) (G : GS) : Ref (s315 true e v0 G) (s315 false (Ex.of E) v0 G) := by
  unfold s315
  exact Ref.gq
theorem f315 {orc : FuncId → Bool} {e : Ex} (h : ExLe Q e (E orc)) (v0 : Value) (G : GS) : Ref (s315 true e v0 G) ((E orc).cl 315 [v0] G) :=
  fun r hr => cl_sxE_some Q orc (vs := [v0]) G Tryz.func315 (by kernel_rfl) (by kernel_rfl) (by kernel_rfl) (by kernel_rfl) (by kernel_rfl) (by kernel_rfl) (m315 h v0 G r hr)
/-- (*coxswain/ring.Push).look -/
noncomputable def s374 (q : Bool) (e : Ex) (v0 v1 : Value) (G : GS) : Option (Value × GS) :=
  bP (pNil v0) fun x0 =>
  bP (fa Q q 460 0 0 x0) fun x1 =>
  bP (fa Q q 456 0 0 x1) fun x2 =>
  bP (lda Q q 97 4 x2 (G.room 16)) fun x3 =>
  bP (pNil v0) fun x4 =>
  bP (fa Q q 460 2 8 x4) fun x5 =>
  bP (ld Q q 41 x5 (G.room 16)) fun x6 =>
  bS (e.ev.cl 314 [x3, x6] (G.room 16)) fun x8 G7 =>
  bS (e.ev.cl 177 [v1, x8] G7) fun x10 G9 =>
  bP (pNil v0) fun x11 =>
  bP (fa Q q 460 3 9 x11) fun x12 =>
  bP (st Q q 458 1 x12 x10 G9) fun G13 =>
  bP (pNil v0) fun x14 =>
  bP (fa Q q 460 0 0 x14) fun x15 =>
  bP (fa Q q 456 0 0 x15) fun x16 =>
  bP (lda Q q 97 4 x16 (G13.room 11)) fun x17 =>
  bP (pNil v0) fun x18 =>
  bP (fa Q q 460 2 8 x18) fun x19 =>
  bP (ld Q q 41 x19 (G13.room 11)) fun x20 =>
  bS (e.ev.cl 381 [x17, x20] (G13.room 11)) fun x22 G21 =>
  bP (pNil v0) fun x23 =>
  bP (fa Q q 460 3 9 x23) fun x24 =>
  bP (ld Q q 458 x24 G21) fun x25 =>
  bS (e.ev.cl 413 [x25, x22] G21) fun x26 G27 =>
  ifV x26 (
  bP (pNil v0) fun x28 =>
  bP (fa Q q 460 0 0 x28) fun x29 =>
  bP (fa Q q 456 1 4 x29) fun x30 =>
  bP (st Q q 159 1 x30 (.func (.func 414) #[v0] #[]) G27) fun G31 =>
  some (.tuple #[], G31)) (
  bP (pNil v0) fun x32 =>
  bP (fa Q q 460 3 9 x32) fun x33 =>
  bP (ld Q q 458 x33 G27) fun x34 =>
  bP (bn Q q .sub 414 (.tmp 54) (.const (.int .u32 1)) x22 (.int .u32 1)) fun x35 =>
  bS (e.ev.cl 380 [x34, x35] G27) fun x36 G37 =>
  ifV x36 (
  bP (pNil v0) fun x38 =>
  bP (fa Q q 460 0 0 x38) fun x39 =>
  bS (e.ev.cl 305 [x39, (.int .i64 7)] G37) fun x40 G41 =>
  some (.tuple #[], G41)) (
  bP (pNil v0) fun x42 =>
  bP (fa Q q 460 0 0 x42) fun x43 =>
  bP (fa Q q 456 1 4 x43) fun x44 =>
  bP (st Q q 159 1 x44 (.func (.func 415) #[v0] #[]) G37) fun G45 =>
  some (.tuple #[], G45)))
theorem m374 {e : Ex} {E : Ev} (h : ExLe Q e E) (v0 v1 : Value) (G : GS) : Ref (s374 true e v0 v1 G) (s374 false (Ex.of E) v0 v1 G) := by
  unfold s374
  exact Ref.gq
theorem f374 {orc : FuncId → Bool} {e : Ex} (h : ExLe Q e (E orc)) (v0 v1 : Value) (G : GS) : Ref (s374 true e v0 v1 G) ((E orc).cl 374 [v0, v1] G) :=
  fun r hr => cl_sxE_some Q orc (vs := [v0, v1]) G Tryz.func374 (by kernel_rfl) (by kernel_rfl) (by kernel_rfl) (by kernel_rfl) (by kernel_rfl) (by kernel_rfl) (m374 h v0 v1 G r hr)
/-- (*coxswain/ring.Front).look -/
noncomputable def s375 (q : Bool) (e : Ex) (v0 v1 : Value) (G : GS) : Option (Value × GS) :=
  bP (pNil v0) fun x0 =>
  bP (fa Q q 466 0 0 x0) fun x1 =>
  bP (fa Q q 456 0 0 x1) fun x2 =>
  bP (lda Q q 97 4 x2 (G.room 13)) fun x3 =>
  bP (pNil v0) fun x4 =>
  bP (fa Q q 466 1 7 x4) fun x5 =>
  bP (ld Q q 41 x5 (G.room 13)) fun x6 =>
  bS (e.ev.cl 314 [x3, x6] (G.room 13)) fun x8 G7 =>
  bS (e.ev.cl 177 [v1, x8] G7) fun x10 G9 =>
  bP (pNil v0) fun x11 =>
  bP (fa Q q 466 0 0 x11) fun x12 =>
  bS (e.ev.cl 305 [x12, (.int .i64 15)] G9) fun x13 G14 =>
  bP (pNil v0) fun x15 =>
  bP (fa Q q 466 0 0 x15) fun x16 =>
  bP (fa Q q 456 0 0 x16) fun x17 =>
  bP (lda Q q 97 4 x17 (G14.room 12)) fun x18 =>
  bP (pNil v0) fun x19 =>
  bP (fa Q q 466 1 7 x19) fun x20 =>
  bP (ld Q q 41 x20 (G14.room 12)) fun x21 =>
  bS (e.ev.cl 381 [x18, x21] (G14.room 12)) fun x23 G22 =>
  bS (e.ev.cl 380 [x10, x23] G22) fun x25 G24 =>
  ifV x25 (
  bS (e.ev.cl 315 [x10] G24) fun x26 G27 =>
  bP (pNil v0) fun x28 =>
  bP (fa Q q 466 2 8 x28) fun x29 =>
  bP (st Q q 3 1 x29 x26 G27) fun G30 =>
  bP (pNil v0) fun x31 =>
  bP (fa Q q 466 0 0 x31) fun x32 =>
  bS (e.ev.cl 305 [x32, (.int .i64 0)] G30) fun x33 G34 =>
  some (.tuple #[], G34)) (
  some (.tuple #[], G24))
theorem m375 {e : Ex} {E : Ev} (h : ExLe Q e E) (v0 v1 : Value) (G : GS) : Ref (s375 true e v0 v1 G) (s375 false (Ex.of E) v0 v1 G) := by
  unfold s375
  exact Ref.gq
theorem f375 {orc : FuncId → Bool} {e : Ex} (h : ExLe Q e (E orc)) (v0 v1 : Value) (G : GS) : Ref (s375 true e v0 v1 G) ((E orc).cl 375 [v0, v1] G) :=
  fun r hr => cl_sxE_some Q orc (vs := [v0, v1]) G Tryz.func375 (by kernel_rfl) (by kernel_rfl) (by kernel_rfl) (by kernel_rfl) (by kernel_rfl) (by kernel_rfl) (m375 h v0 v1 G r hr)
/-- (coxswain/ring.slot).full -/
noncomputable def s380 (q : Bool) (e : Ex) (v0 v1 : Value) (G : GS) : Option (Value × GS) :=
  bP (bn Q q .shr 458 (.tmp 5) (.const (.int .u64 32)) v0 (.int .u64 32)) fun x0 =>
  bP (cv Q q 458 414 .u64 .u32 x0) fun x1 =>
  bP (bn Q q .eql 414 (.tmp 7) (.tmp 8) x1 v1) fun x2 =>
  bS (gd x2 true (some (v0, G)) G) fun x3 G4 =>
  bS (gd x2 true (bP (bn Q q .and 458 (.tmp 11) (.const (.int .u64 65536)) x3 (.int .u64 65536)) fun y => some (y, G4)) G4) fun x5 G6 =>
  bS (gd x2 true (bP (bn Q q .neq 458 (.tmp 12) (.const (.int .u64 0)) x5 (.int .u64 0)) fun y => some (y, G6)) G6) fun x7 G8 =>
  bP (pickV x2 x7 (.bool false)) fun x9 =>
  some (x9, G8)
theorem m380 {e : Ex} {E : Ev} (h : ExLe Q e E) (v0 v1 : Value) (G : GS) : Ref (s380 true e v0 v1 G) (s380 false (Ex.of E) v0 v1 G) := by
  unfold s380
  exact Ref.gq
theorem f380 {orc : FuncId → Bool} {e : Ex} (h : ExLe Q e (E orc)) (v0 v1 : Value) (G : GS) : Ref (s380 true e v0 v1 G) ((E orc).cl 380 [v0, v1] G) :=
  fun r hr => cl_sxE_some Q orc (vs := [v0, v1]) G Tryz.func380 (by kernel_rfl) (by kernel_rfl) (by kernel_rfl) (by kernel_rfl) (by kernel_rfl) (by kernel_rfl) (m380 h v0 v1 G r hr)
/-- coxswain/ring.lap -/
noncomputable def s381 (q : Bool) (e : Ex) (v0 v1 : Value) (G : GS) : Option (Value × GS) :=
  bS (bx q v0 G) fun x0 G1 =>
  bP (fa Q q 97 3 3 x0) fun x2 =>
  bP (ld Q q 3 x2 G1) fun x3 =>
  bP (cv Q q 3 41 .i64 .u64 x3) fun x4 =>
  bP (bn Q q .quo 41 (.tmp 5) (.tmp 8) v1 x4) fun x5 =>
  bP (cv Q q 41 414 .u64 .u32 x5) fun x6 =>
  some (x6, G1)
theorem m381 {e : Ex} {E : Ev} (h : ExLe Q e E) (v0 v1 : Value) (G : GS) : Ref (s381 true e v0 v1 G) (s381 false (Ex.of E) v0 v1 G) := by
  unfold s381
  exact Ref.gq
theorem f381 {orc : FuncId → Bool} {e : Ex} (h : ExLe Q e (E orc)) (v0 v1 : Value) (G : GS) : Ref (s381 true e v0 v1 G) ((E orc).cl 381 [v0, v1] G) :=
  fun r hr => cl_sxE_some Q orc (vs := [v0, v1]) G Tryz.func381 (by kernel_rfl) (by kernel_rfl) (by kernel_rfl) (by kernel_rfl) (by kernel_rfl) (by kernel_rfl) (m381 h v0 v1 G r hr)
/-- (coxswain/ring.slot).empty -/
noncomputable def s413 (q : Bool) (e : Ex) (v0 v1 : Value) (G : GS) : Option (Value × GS) :=
  bP (bn Q q .shr 458 (.tmp 5) (.const (.int .u64 32)) v0 (.int .u64 32)) fun x0 =>
  bP (cv Q q 458 414 .u64 .u32 x0) fun x1 =>
  bP (bn Q q .eql 414 (.tmp 7) (.tmp 8) x1 v1) fun x2 =>
  bS (gd x2 true (some (v0, G)) G) fun x3 G4 =>
  bS (gd x2 true (bP (bn Q q .and 458 (.tmp 11) (.const (.int .u64 65536)) x3 (.int .u64 65536)) fun y => some (y, G4)) G4) fun x5 G6 =>
  bS (gd x2 true (bP (bn Q q .eql 458 (.tmp 12) (.const (.int .u64 0)) x5 (.int .u64 0)) fun y => some (y, G6)) G6) fun x7 G8 =>
  bP (pickV x2 x7 (.bool false)) fun x9 =>
  some (x9, G8)
theorem m413 {e : Ex} {E : Ev} (h : ExLe Q e E) (v0 v1 : Value) (G : GS) : Ref (s413 true e v0 v1 G) (s413 false (Ex.of E) v0 v1 G) := by
  unfold s413
  exact Ref.gq
theorem f413 {orc : FuncId → Bool} {e : Ex} (h : ExLe Q e (E orc)) (v0 v1 : Value) (G : GS) : Ref (s413 true e v0 v1 G) ((E orc).cl 413 [v0, v1] G) :=
  fun r hr => cl_sxE_some Q orc (vs := [v0, v1]) G Tryz.func413 (by kernel_rfl) (by kernel_rfl) (by kernel_rfl) (by kernel_rfl) (by kernel_rfl) (by kernel_rfl) (m413 h v0 v1 G r hr)
/-- (*coxswain/ring.Push).lay -/
noncomputable def s414 (q : Bool) (e : Ex) (v0 v1 : Value) (G : GS) : Option (Value × GS) :=
  bP (pNil v0) fun x0 =>
  bP (fa Q q 460 0 0 x0) fun x1 =>
  bP (fa Q q 456 1 4 x1) fun x2 =>
  bP (st Q q 159 1 x2 (.func (.func 415) #[v0] #[]) G) fun G3 =>
  bP (pNil v0) fun x4 =>
  bP (fa Q q 460 0 0 x4) fun x5 =>
  bP (fa Q q 456 0 0 x5) fun x6 =>
  bP (lda Q q 97 4 x6 (G3.room 32)) fun x7 =>
  bP (pNil v0) fun x8 =>
  bP (fa Q q 460 2 8 x8) fun x9 =>
  bP (ld Q q 41 x9 (G3.room 32)) fun x10 =>
  bS (e.ev.cl 314 [x7, x10] (G3.room 32)) fun x12 G11 =>
  bP (pNil v0) fun x13 =>
  bP (fa Q q 460 3 9 x13) fun x14 =>
  bP (ld Q q 458 x14 G11) fun x15 =>
  chk ((sameO (ld Q q 458 x14 (G3.room 32)) x15 && true)) <|
  bP (pNil v0) fun x16 =>
  bP (fa Q q 460 0 0 x16) fun x17 =>
  bP (fa Q q 456 0 0 x17) fun x18 =>
  bP (lda Q q 97 4 x18 G11) fun x19 =>
  chk ((sameO (lda Q q 97 4 x18 (G3.room 32)) x19 && true)) <|
  bP (pNil v0) fun x20 =>
  bP (fa Q q 460 2 8 x20) fun x21 =>
  bP (ld Q q 41 x21 G11) fun x22 =>
  chk ((sameO (ld Q q 41 x21 (G3.room 32)) x22 && true)) <|
  bS (e.ev.cl 381 [x19, x22] G11) fun x24 G23 =>
  chk ((sameO (ld Q q 458 x14 G23) x15 && true)) <|
  bS (e.ev.cl 417 [x24] G23) fun x26 G25 =>
  chk ((sameO (ld Q q 458 x14 G25) x15 && true)) <|
  bP (pNil v0) fun x27 =>
  bP (fa Q q 460 1 7 x27) fun x28 =>
  bP (ld Q q 3 x28 G25) fun x29 =>
  chk ((sameO (ld Q q 3 x28 G23) x29 && (sameO (ld Q q 3 x28 G11) x29 && (sameO (ld Q q 3 x28 (G3.room 32)) x29 && true)))) <|
  bS (e.ev.cl 433 [x26, x29] G25) fun x31 G30 =>
  chk ((sameO (ld Q q 458 x14 G30) x15 && true)) <|
  bS (e.ev.cl 68 [v1, x12, x15, x31] G30) fun x33 G32 =>
  ifV x33 (
  bP (pNil v0) fun x34 =>
  bP (fa Q q 460 0 0 x34) fun x35 =>
  bP (fa Q q 456 1 4 x35) fun x36 =>
  bP (st Q q 159 1 x36 (.func (.func 434) #[v0] #[]) G32) fun G37 =>
  some (.tuple #[], G37)) (
  some (.tuple #[], G32))
theorem m414 {e : Ex} {E : Ev} (h : ExLe Q e E) (v0 v1 : Value) (G : GS) : Ref (s414 true e v0 v1 G) (s414 false (Ex.of E) v0 v1 G) := by
  unfold s414
  exact Ref.gq
theorem f414 {orc : FuncId → Bool} {e : Ex} (h : ExLe Q e (E orc)) (v0 v1 : Value) (G : GS) : Ref (s414 true e v0 v1 G) ((E orc).cl 414 [v0, v1] G) :=
  fun r hr => cl_sxE_some Q orc (vs := [v0, v1]) G Tryz.func414 (by kernel_rfl) (by kernel_rfl) (by kernel_rfl) (by kernel_rfl) (by kernel_rfl) (by kernel_rfl) (m414 h v0 v1 G r hr)
/-- (*coxswain/ring.Push).help -/
noncomputable def s415 (q : Bool) (e : Ex) (v0 v1 : Value) (G : GS) : Option (Value × GS) :=
  bP (pNil v0) fun x0 =>
  bP (fa Q q 460 0 0 x0) fun x1 =>
  bP (fa Q q 456 0 0 x1) fun x2 =>
  bP (fa Q q 97 1 1 x2) fun x3 =>
  bP (ld Q q 3 x3 (G.room 17)) fun x4 =>
  bP (pNil v0) fun x5 =>
  bP (fa Q q 460 2 8 x5) fun x6 =>
  bP (ld Q q 41 x6 (G.room 17)) fun x7 =>
  bP (pNil v0) fun x8 =>
  bP (fa Q q 460 2 8 x8) fun x9 =>
  bP (ld Q q 41 x9 (G.room 17)) fun x10 =>
  bP (bn Q q .add 41 (.tmp 18) (.const (.int .u64 1)) x10 (.int .u64 1)) fun x11 =>
  bS (e.ev.cl 68 [v1, x4, x7, x11] (G.room 17)) fun x13 G12 =>
  bP (pNil v0) fun x14 =>
  bP (fa Q q 460 0 0 x14) fun x15 =>
  bP (fa Q q 456 1 4 x15) fun x16 =>
  bP (st Q q 159 1 x16 (.func (.func 306) #[v0] #[]) G12) fun G17 =>
  some (.tuple #[], G17)
theorem m415 {e : Ex} {E : Ev} (h : ExLe Q e E) (v0 v1 : Value) (G : GS) : Ref (s415 true e v0 v1 G) (s415 false (Ex.of E) v0 v1 G) := by
  unfold s415
  exact Ref.gq
theorem f415 {orc : FuncId → Bool} {e : Ex} (h : ExLe Q e (E orc)) (v0 v1 : Value) (G : GS) : Ref (s415 true e v0 v1 G) ((E orc).cl 415 [v0, v1] G) :=
  fun r hr => cl_sxE_some Q orc (vs := [v0, v1]) G Tryz.func415 (by kernel_rfl) (by kernel_rfl) (by kernel_rfl) (by kernel_rfl) (by kernel_rfl) (by kernel_rfl) (m415 h v0 v1 G r hr)
/-- coxswain/ring.of -/
noncomputable def s417 (q : Bool) (e : Ex) (v0 : Value) (G : GS) : Option (Value × GS) :=
  bP (cv Q q 414 458 .u32 .u64 v0) fun x0 =>
  bP (bn Q q .shl 458 (.tmp 4) (.const (.int .u64 32)) x0 (.int .u64 32)) fun x1 =>
  some (x1, G)
theorem m417 {e : Ex} {E : Ev} (h : ExLe Q e E) (v0 : Value) (G : GS) : Ref (s417 true e v0 G) (s417 false (Ex.of E) v0 G) := by
  unfold s417
  exact Ref.gq
theorem f417 {orc : FuncId → Bool} {e : Ex} (h : ExLe Q e (E orc)) (v0 : Value) (G : GS) : Ref (s417 true e v0 G) ((E orc).cl 417 [v0] G) :=
  fun r hr => cl_sxE_some Q orc (vs := [v0]) G Tryz.func417 (by kernel_rfl) (by kernel_rfl) (by kernel_rfl) (by kernel_rfl) (by kernel_rfl) (by kernel_rfl) (m417 h v0 G r hr)
/-- (coxswain/ring.slot).with -/
noncomputable def s433 (q : Bool) (e : Ex) (v0 v1 : Value) (G : GS) : Option (Value × GS) :=
  bP (bn Q q .andNot 458 (.tmp 5) (.const (.int .u64 65535)) v0 (.int .u64 65535)) fun x0 =>
  bP (bn Q q .or 458 (.tmp 6) (.const (.int .u64 65536)) x0 (.int .u64 65536)) fun x1 =>
  bP (cv Q q 3 458 .i64 .u64 v1) fun x2 =>
  bP (bn Q q .or 458 (.tmp 7) (.tmp 9) x1 x2) fun x3 =>
  some (x3, G)
theorem m433 {e : Ex} {E : Ev} (h : ExLe Q e E) (v0 v1 : Value) (G : GS) : Ref (s433 true e v0 v1 G) (s433 false (Ex.of E) v0 v1 G) := by
  unfold s433
  exact Ref.gq
theorem f433 {orc : FuncId → Bool} {e : Ex} (h : ExLe Q e (E orc)) (v0 v1 : Value) (G : GS) : Ref (s433 true e v0 v1 G) ((E orc).cl 433 [v0, v1] G) :=
  fun r hr => cl_sxE_some Q orc (vs := [v0, v1]) G Tryz.func433 (by kernel_rfl) (by kernel_rfl) (by kernel_rfl) (by kernel_rfl) (by kernel_rfl) (by kernel_rfl) (m433 h v0 v1 G r hr)
/-- (*coxswain/ring.Push).last -/
noncomputable def s434 (q : Bool) (e : Ex) (v0 v1 : Value) (G : GS) : Option (Value × GS) :=
  bP (pNil v0) fun x0 =>
  bP (fa Q q 460 0 0 x0) fun x1 =>
  bP (fa Q q 456 0 0 x1) fun x2 =>
  bP (fa Q q 97 1 1 x2) fun x3 =>
  bP (ld Q q 3 x3 (G.room 17)) fun x4 =>
  bP (pNil v0) fun x5 =>
  bP (fa Q q 460 2 8 x5) fun x6 =>
  bP (ld Q q 41 x6 (G.room 17)) fun x7 =>
  bP (pNil v0) fun x8 =>
  bP (fa Q q 460 2 8 x8) fun x9 =>
  bP (ld Q q 41 x9 (G.room 17)) fun x10 =>
  bP (bn Q q .add 41 (.tmp 18) (.const (.int .u64 1)) x10 (.int .u64 1)) fun x11 =>
  bS (e.ev.cl 68 [v1, x4, x7, x11] (G.room 17)) fun x13 G12 =>
  bP (pNil v0) fun x14 =>
  bP (fa Q q 460 0 0 x14) fun x15 =>
  bS (e.ev.cl 305 [x15, (.int .i64 0)] G12) fun x16 G17 =>
  some (.tuple #[], G17)
theorem m434 {e : Ex} {E : Ev} (h : ExLe Q e E) (v0 v1 : Value) (G : GS) : Ref (s434 true e v0 v1 G) (s434 false (Ex.of E) v0 v1 G) := by
  unfold s434
  exact Ref.gq
theorem f434 {orc : FuncId → Bool} {e : Ex} (h : ExLe Q e (E orc)) (v0 v1 : Value) (G : GS) : Ref (s434 true e v0 v1 G) ((E orc).cl 434 [v0, v1] G) :=
  fun r hr => cl_sxE_some Q orc (vs := [v0, v1]) G Tryz.func434 (by kernel_rfl) (by kernel_rfl) (by kernel_rfl) (by kernel_rfl) (by kernel_rfl) (by kernel_rfl) (m434 h v0 v1 G r hr)
noncomputable def clT (orc : FuncId → Bool) (e : Ex) (f : FuncId) (vs : List Value) (G : GS) : Option (Value × GS) :=
  fork f 177 (
fork f 134 (
fork f 38 (
fork f 34 (
fork f 6 (
leaf f 6 (app3 (s6 true e) vs G)) (
fork f 33 (
leaf f 33 (app2 (s33 true e) vs G)) (
leaf f 34 (app2 (s34 true e) vs G)))) (
fork f 36 (
fork f 35 (
leaf f 35 (app1 (s35 true e) vs G)) (
leaf f 36 (app1 (s36 true e) vs G))) (
fork f 37 (
leaf f 37 (app2 (s37 true e) vs G)) (
leaf f 38 (app1 (s38 true e) vs G))))) (
fork f 84 (
fork f 39 (
leaf f 39 (app0 (orc 39) (hasTab Q G) (s39 true e) vs G)) (
fork f 68 (
leaf f 68 (app4 (s68 true e) vs G)) (
leaf f 84 (app2 (s84 true e) vs G)))) (
fork f 132 (
fork f 131 (
leaf f 131 (app1 (s131 true e) vs G)) (
leaf f 132 (app1 (s132 true e) vs G))) (
fork f 133 (
leaf f 133 (app1 (s133 true e) vs G)) (
leaf f 134 (app2 (s134 true e) vs G)))))) (
fork f 141 (
fork f 137 (
fork f 135 (
leaf f 135 (app1 (s135 true e) vs G)) (
fork f 136 (
leaf f 136 (app1 (s136 true e) vs G)) (
leaf f 137 (app3 (s137 true e) vs G)))) (
fork f 139 (
fork f 138 (
leaf f 138 (app3 (s138 true e) vs G)) (
leaf f 139 (app3 (s139 true e) vs G))) (
fork f 140 (
leaf f 140 (app3 (s140 true e) vs G)) (
leaf f 141 (app1 (s141 true e) vs G))))) (
fork f 144 (
fork f 142 (
leaf f 142 (app1 (s142 true e) vs G)) (
fork f 143 (
leaf f 143 (app1 (s143 true e) vs G)) (
leaf f 144 (app1 (s144 true e) vs G)))) (
fork f 158 (
fork f 145 (
leaf f 145 (app1 (s145 true e) vs G)) (
leaf f 158 (app2 (s158 true e) vs G))) (
fork f 159 (
leaf f 159 (app5 (s159 true e) vs G)) (
leaf f 177 (app2 (s177 true e) vs G))))))) (
fork f 306 (
fork f 238 (
fork f 234 (
fork f 193 (
leaf f 193 (app1 (s193 true e) vs G)) (
fork f 233 (
leaf f 233 (app2 (s233 true e) vs G)) (
leaf f 234 (app2 (s234 true e) vs G)))) (
fork f 236 (
fork f 235 (
leaf f 235 (app2 (s235 true e) vs G)) (
leaf f 236 (app2 (s236 true e) vs G))) (
fork f 237 (
leaf f 237 (app2 (s237 true e) vs G)) (
leaf f 238 (app1 (s238 true e) vs G))))) (
fork f 248 (
fork f 239 (
leaf f 239 (app1 (s239 true e) vs G)) (
fork f 240 (
leaf f 240 (app1 (s240 true e) vs G)) (
leaf f 248 (app1 (s248 true e) vs G)))) (
fork f 304 (
fork f 260 (
leaf f 260 (app1 (s260 true e) vs G)) (
leaf f 304 (app1 (s304 true e) vs G))) (
fork f 305 (
leaf f 305 (app2 (s305 true e) vs G)) (
leaf f 306 (app2 (s306 true e) vs G)))))) (
fork f 375 (
fork f 311 (
fork f 307 (
leaf f 307 (app1 (s307 true e) vs G)) (
fork f 308 (
leaf f 308 (app2 (s308 true e) vs G)) (
leaf f 311 (app1 (s311 true e) vs G)))) (
fork f 315 (
fork f 314 (
leaf f 314 (app2 (s314 true e) vs G)) (
leaf f 315 (app1 (s315 true e) vs G))) (
fork f 374 (
leaf f 374 (app2 (s374 true e) vs G)) (
leaf f 375 (app2 (s375 true e) vs G))))) (
fork f 414 (
fork f 381 (
fork f 380 (
leaf f 380 (app2 (s380 true e) vs G)) (
leaf f 381 (app2 (s381 true e) vs G))) (
fork f 413 (
leaf f 413 (app2 (s413 true e) vs G)) (
leaf f 414 (app2 (s414 true e) vs G)))) (
fork f 417 (
fork f 415 (
leaf f 415 (app2 (s415 true e) vs G)) (
leaf f 417 (app1 (s417 true e) vs G))) (
fork f 433 (
leaf f 433 (app2 (s433 true e) vs G)) (
leaf f 434 (app2 (s434 true e) vs G)))))))
theorem clT_ok {orc : FuncId → Bool} {e : Ex} (h : ExLe Q e (E orc)) (f : FuncId) (vs : List Value) (G : GS) : Ref (clT orc e f vs G) ((E orc).cl f vs G) :=
  Ref.fork (
Ref.fork (
Ref.fork (
Ref.fork (
Ref.fork (
Ref.leaf (y := fun f => (E orc).cl f vs G) (Ref.app3 (fun u0 u1 u2 G => f6 h u0 u1 u2 G) vs G)) (
Ref.fork (
Ref.leaf (y := fun f => (E orc).cl f vs G) (Ref.app2 (fun u0 u1 G => f33 h u0 u1 G) vs G)) (
Ref.leaf (y := fun f => (E orc).cl f vs G) (Ref.app2 (fun u0 u1 G => f34 h u0 u1 G) vs G)))) (
Ref.fork (
Ref.fork (
Ref.leaf (y := fun f => (E orc).cl f vs G) (Ref.app1 (fun u0 G => f35 h u0 G) vs G)) (
Ref.leaf (y := fun f => (E orc).cl f vs G) (Ref.app1 (fun u0 G => f36 h u0 G) vs G))) (
Ref.fork (
Ref.leaf (y := fun f => (E orc).cl f vs G) (Ref.app2 (fun u0 u1 G => f37 h u0 u1 G) vs G)) (
Ref.leaf (y := fun f => (E orc).cl f vs G) (Ref.app1 (fun u0 G => f38 h u0 G) vs G))))) (
Ref.fork (
Ref.fork (
Ref.leaf (y := fun f => (E orc).cl f vs G) (Ref.app0 (fun ho G => f39 h ho G) vs G)) (
Ref.fork (
Ref.leaf (y := fun f => (E orc).cl f vs G) (Ref.app4 (fun u0 u1 u2 u3 G => f68 h u0 u1 u2 u3 G) vs G)) (
Ref.leaf (y := fun f => (E orc).cl f vs G) (Ref.app2 (fun u0 u1 G => f84 h u0 u1 G) vs G)))) (
Ref.fork (
Ref.fork (
Ref.leaf (y := fun f => (E orc).cl f vs G) (Ref.app1 (fun u0 G => f131 h u0 G) vs G)) (
Ref.leaf (y := fun f => (E orc).cl f vs G) (Ref.app1 (fun u0 G => f132 h u0 G) vs G))) (
Ref.fork (
Ref.leaf (y := fun f => (E orc).cl f vs G) (Ref.app1 (fun u0 G => f133 h u0 G) vs G)) (
Ref.leaf (y := fun f => (E orc).cl f vs G) (Ref.app2 (fun u0 u1 G => f134 h u0 u1 G) vs G)))))) (
Ref.fork (
Ref.fork (
Ref.fork (
Ref.leaf (y := fun f => (E orc).cl f vs G) (Ref.app1 (fun u0 G => f135 h u0 G) vs G)) (
Ref.fork (
Ref.leaf (y := fun f => (E orc).cl f vs G) (Ref.app1 (fun u0 G => f136 h u0 G) vs G)) (
Ref.leaf (y := fun f => (E orc).cl f vs G) (Ref.app3 (fun u0 u1 u2 G => f137 h u0 u1 u2 G) vs G)))) (
Ref.fork (
Ref.fork (
Ref.leaf (y := fun f => (E orc).cl f vs G) (Ref.app3 (fun u0 u1 u2 G => f138 h u0 u1 u2 G) vs G)) (
Ref.leaf (y := fun f => (E orc).cl f vs G) (Ref.app3 (fun u0 u1 u2 G => f139 h u0 u1 u2 G) vs G))) (
Ref.fork (
Ref.leaf (y := fun f => (E orc).cl f vs G) (Ref.app3 (fun u0 u1 u2 G => f140 h u0 u1 u2 G) vs G)) (
Ref.leaf (y := fun f => (E orc).cl f vs G) (Ref.app1 (fun u0 G => f141 h u0 G) vs G))))) (
Ref.fork (
Ref.fork (
Ref.leaf (y := fun f => (E orc).cl f vs G) (Ref.app1 (fun u0 G => f142 h u0 G) vs G)) (
Ref.fork (
Ref.leaf (y := fun f => (E orc).cl f vs G) (Ref.app1 (fun u0 G => f143 h u0 G) vs G)) (
Ref.leaf (y := fun f => (E orc).cl f vs G) (Ref.app1 (fun u0 G => f144 h u0 G) vs G)))) (
Ref.fork (
Ref.fork (
Ref.leaf (y := fun f => (E orc).cl f vs G) (Ref.app1 (fun u0 G => f145 h u0 G) vs G)) (
Ref.leaf (y := fun f => (E orc).cl f vs G) (Ref.app2 (fun u0 u1 G => f158 h u0 u1 G) vs G))) (
Ref.fork (
Ref.leaf (y := fun f => (E orc).cl f vs G) (Ref.app5 (fun u0 u1 u2 u3 u4 G => f159 h u0 u1 u2 u3 u4 G) vs G)) (
Ref.leaf (y := fun f => (E orc).cl f vs G) (Ref.app2 (fun u0 u1 G => f177 h u0 u1 G) vs G))))))) (
Ref.fork (
Ref.fork (
Ref.fork (
Ref.fork (
Ref.leaf (y := fun f => (E orc).cl f vs G) (Ref.app1 (fun u0 G => f193 h u0 G) vs G)) (
Ref.fork (
Ref.leaf (y := fun f => (E orc).cl f vs G) (Ref.app2 (fun u0 u1 G => f233 h u0 u1 G) vs G)) (
Ref.leaf (y := fun f => (E orc).cl f vs G) (Ref.app2 (fun u0 u1 G => f234 h u0 u1 G) vs G)))) (
Ref.fork (
Ref.fork (
Ref.leaf (y := fun f => (E orc).cl f vs G) (Ref.app2 (fun u0 u1 G => f235 h u0 u1 G) vs G)) (
Ref.leaf (y := fun f => (E orc).cl f vs G) (Ref.app2 (fun u0 u1 G => f236 h u0 u1 G) vs G))) (
Ref.fork (
Ref.leaf (y := fun f => (E orc).cl f vs G) (Ref.app2 (fun u0 u1 G => f237 h u0 u1 G) vs G)) (
Ref.leaf (y := fun f => (E orc).cl f vs G) (Ref.app1 (fun u0 G => f238 h u0 G) vs G))))) (
Ref.fork (
Ref.fork (
Ref.leaf (y := fun f => (E orc).cl f vs G) (Ref.app1 (fun u0 G => f239 h u0 G) vs G)) (
Ref.fork (
Ref.leaf (y := fun f => (E orc).cl f vs G) (Ref.app1 (fun u0 G => f240 h u0 G) vs G)) (
Ref.leaf (y := fun f => (E orc).cl f vs G) (Ref.app1 (fun u0 G => f248 h u0 G) vs G)))) (
Ref.fork (
Ref.fork (
Ref.leaf (y := fun f => (E orc).cl f vs G) (Ref.app1 (fun u0 G => f260 h u0 G) vs G)) (
Ref.leaf (y := fun f => (E orc).cl f vs G) (Ref.app1 (fun u0 G => f304 h u0 G) vs G))) (
Ref.fork (
Ref.leaf (y := fun f => (E orc).cl f vs G) (Ref.app2 (fun u0 u1 G => f305 h u0 u1 G) vs G)) (
Ref.leaf (y := fun f => (E orc).cl f vs G) (Ref.app2 (fun u0 u1 G => f306 h u0 u1 G) vs G)))))) (
Ref.fork (
Ref.fork (
Ref.fork (
Ref.leaf (y := fun f => (E orc).cl f vs G) (Ref.app1 (fun u0 G => f307 h u0 G) vs G)) (
Ref.fork (
Ref.leaf (y := fun f => (E orc).cl f vs G) (Ref.app2 (fun u0 u1 G => f308 h u0 u1 G) vs G)) (
Ref.leaf (y := fun f => (E orc).cl f vs G) (Ref.app1 (fun u0 G => f311 h u0 G) vs G)))) (
Ref.fork (
Ref.fork (
Ref.leaf (y := fun f => (E orc).cl f vs G) (Ref.app2 (fun u0 u1 G => f314 h u0 u1 G) vs G)) (
Ref.leaf (y := fun f => (E orc).cl f vs G) (Ref.app1 (fun u0 G => f315 h u0 G) vs G))) (
Ref.fork (
Ref.leaf (y := fun f => (E orc).cl f vs G) (Ref.app2 (fun u0 u1 G => f374 h u0 u1 G) vs G)) (
Ref.leaf (y := fun f => (E orc).cl f vs G) (Ref.app2 (fun u0 u1 G => f375 h u0 u1 G) vs G))))) (
Ref.fork (
Ref.fork (
Ref.fork (
Ref.leaf (y := fun f => (E orc).cl f vs G) (Ref.app2 (fun u0 u1 G => f380 h u0 u1 G) vs G)) (
Ref.leaf (y := fun f => (E orc).cl f vs G) (Ref.app2 (fun u0 u1 G => f381 h u0 u1 G) vs G))) (
Ref.fork (
Ref.leaf (y := fun f => (E orc).cl f vs G) (Ref.app2 (fun u0 u1 G => f413 h u0 u1 G) vs G)) (
Ref.leaf (y := fun f => (E orc).cl f vs G) (Ref.app2 (fun u0 u1 G => f414 h u0 u1 G) vs G)))) (
Ref.fork (
Ref.fork (
Ref.leaf (y := fun f => (E orc).cl f vs G) (Ref.app2 (fun u0 u1 G => f415 h u0 u1 G) vs G)) (
Ref.leaf (y := fun f => (E orc).cl f vs G) (Ref.app1 (fun u0 G => f417 h u0 G) vs G))) (
Ref.fork (
Ref.leaf (y := fun f => (E orc).cl f vs G) (Ref.app2 (fun u0 u1 G => f433 h u0 u1 G) vs G)) (
Ref.leaf (y := fun f => (E orc).cl f vs G) (Ref.app2 (fun u0 u1 G => f434 h u0 u1 G) vs G)))))))
noncomputable def lpT (FUEL : Nat) (e : Ex) (f k : Nat) (τ : Env) (G : GS) : Option (Exit × Env × GS) :=
  fork f 84 (
leaf f 84 (leaf k 0 (lpS 31 (b84_0 true e) FUEL τ G))) (
fork f 145 (
leaf f 145 (leaf k 0 (lpS 12 (b145_0 true e) FUEL τ G))) (
leaf f 233 (leaf k 0 (lpS 31 (b233_0 true e) FUEL τ G))))
theorem lpT_ok {orc : FuncId → Bool} {e : Ex} (h : ExLe Q e (E orc)) (FUEL f k : Nat) (τ : Env) (G : GS) : Ref (lpT FUEL e f k τ G) (mapE ((E orc).lp (codeAt Q f k) (lst (nOf Q f) τ) G)) :=
  Ref.fork (
Ref.leaf (y := fun f => mapE ((E orc).lp (codeAt Q f k) (lst (nOf Q f) τ) G)) (Ref.leaf (y := fun k => mapE ((E orc).lp (codeAt Q 84 k) (lst (nOf Q 84) τ) G)) (lp_leaf (c := (subAt [1, 1, 0, 1, 0, 0] (bodyOf Tryz.f84))) (l84_0 h) _ _ _))) (
Ref.fork (
Ref.leaf (y := fun f => mapE ((E orc).lp (codeAt Q f k) (lst (nOf Q f) τ) G)) (Ref.leaf (y := fun k => mapE ((E orc).lp (codeAt Q 145 k) (lst (nOf Q 145) τ) G)) (lp_leaf (c := (subAt [1, 0, 0] (bodyOf Tryz.f145))) (l145_0 h) _ _ _))) (
Ref.leaf (y := fun f => mapE ((E orc).lp (codeAt Q f k) (lst (nOf Q f) τ) G)) (Ref.leaf (y := fun k => mapE ((E orc).lp (codeAt Q 233 k) (lst (nOf Q 233) τ) G)) (lp_leaf (c := (subAt [1, 0, 0] (bodyOf Tryz.f233))) (l233_0 h) _ _ _))))
noncomputable def kE (orc : FuncId → Bool) (n : Nat) : Ex := Nat.rec (motive := fun _ => Ex) ⟨Ev.zero, fun _ _ _ _ => none⟩ (fun _ e => ⟨⟨(evO Q orc 0).ex, clT orc e, (evO Q orc 2000).rd, (evO Q orc 2000).sc, (evO Q orc 0).lp⟩, lpT 6000 e⟩) n
theorem kE_ok (orc : FuncId → Bool) : ∀ n, ExLe Q (kE orc n) (E orc)
  | 0 => ⟨zero_le _, fun _ _ _ _ => .nil _⟩
  | n + 1 => ⟨⟨(le_evL Q orc 0).ex, fun f vs G r hr => clT_ok (kE_ok orc n) f vs G r hr, (le_evL Q orc 2000).rd, (le_evL Q orc 2000).sc, (le_evL Q orc 0).lp⟩, lpT_ok (kE_ok orc n) 6000⟩
/-- what the tables find true is true -/
theorem at_kE {orc : FuncId → Bool} {n f : Nat} {vs : List Value} (h : isTrue ((kE orc n).ev.cl f vs GS.empty) = true) : ∃ G', (E orc).cl f vs GS.empty = some (.bool true, G') := isTrue_of ((kE_ok orc n).ev.cl f vs GS.empty) h
theorem closed_kE {orc : FuncId → Bool} (ho : OrcOk Q orc) (hmix : Q.follows .mixedOrders = true) {n f : Nat} (h : isTrue ((kE orc n).ev.cl f [] GS.empty) = true) (w : World) : Calls Q f #[] w fun e w' => e = .returned (.bool true) ∧ Go.RowKit.Below w.heap.size w w' :=
  let ⟨_, hG⟩ := at_kE h
  law_plain hmix ho hG fun _ => trivial
end Go.Proofs.YtdohlgkmaeipjaaGreat.Lift
