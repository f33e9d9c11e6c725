/- the program's code, spelled out by a program of ours (lift3.lean) -/
import Derived.Test.YtlaojmcekeohnaaGreatDoorProg
import Derived.Test.YtlaojmcekeohnaaGreatDoorGhPJ
import Derived.Test.YtlaojmcekeohnaaGreatDoorGhPG
import Derived.KernelRfl
namespace Go.Proofs.YtlaojmcekeohnaaGreatDoor.Lift
open Go Go.Proofs.YtlaojmcekeohnaaGreatDoor.Gh Go.Proofs
set_option linter.unusedVariables false
set_option maxRecDepth 100000
@[reducible] noncomputable def Q : Program := Tryz.prog
@[reducible] noncomputable def E (orc : FuncId → Bool) : Ev := evL Tryz.prog orc
noncomputable section
abbrev OG : Type := Option (Value × GS)
abbrev OL : Type := Option (Exit × Env × GS)
abbrev LpF : Type := Env → GS → OL
variable {orc : FuncId → Bool} {e : Ex}
abbrev gP (x : Value) (b : Bool) (o : Option Value) (G : GS) : Option (Value × GS) := gd x b (bP o fun y => some (y, G)) G
abbrev gS (x : Value) (b : Bool) (o : Option (Value × GS)) (G : GS) : Option (Value × GS) := gd x b (bS o fun y G => some (y, G)) G
abbrev gV (x : Value) (b : Bool) (v : Value) (G : GS) : Option (Value × GS) := gd x b (some (v, G)) G
abbrev nf {β : Type} (q : Bool) (t f o : Nat) (v : Value) (k : Value → Option β) : Option β := bP (pNil v) fun x => bP (fa Q q t f o x) k
abbrev fl {β : Type} (q : Bool) (t f o u : Nat) (v : Value) (G : GS) (k : Value → Option β) : Option β := bP (fa Q q t f o v) fun x => bP (ld Q q u x G) k
abbrev nl {β : Type} (q : Bool) (t f o u : Nat) (v : Value) (G : GS) (k : Value → Option β) : Option β := bP (pNil v) fun x => bP (fa Q q t f o x) fun y => bP (ld Q q u y G) k
@[simp] theorem gP_s (x : Value) (b : Bool) (o : Option Value) (G : GS) : gP x b o G = gd x b (bP o fun y => some (y, G)) G := Eq.trans rfl rfl
@[simp] theorem gS_s (x : Value) (b : Bool) (o : Option (Value × GS)) (G : GS) : gS x b o G = gd x b (bS o fun y G => some (y, G)) G := Eq.trans rfl rfl
@[simp] theorem gV_s (x : Value) (b : Bool) (v : Value) (G : GS) : gV x b v G = gd x b (some (v, G)) G := Eq.trans rfl rfl
@[simp] theorem nf_s {β : Type} (q : Bool) (t f o : Nat) (v : Value) (k : Value → Option β) : nf q t f o v k = bP (pNil v) fun x => bP (fa Q q t f o x) k := Eq.trans rfl rfl
@[simp] theorem fl_s {β : Type} (q : Bool) (t f o u : Nat) (v : Value) (G : GS) (k : Value → Option β) : fl q t f o u v G k = bP (fa Q q t f o v) fun x => bP (ld Q q u x G) k := Eq.trans rfl rfl
@[simp] theorem nl_s {β : Type} (q : Bool) (t f o u : Nat) (v : Value) (G : GS) (k : Value → Option β) : nl q t f o u v G k = bP (pNil v) fun x => bP (fa Q q t f o x) fun y => bP (ld Q q u y G) k := Eq.trans rfl rfl
/-- a function's two forms, and what it is -/
theorem cS {k : FuncId} {fn : Func} {vs : List Value} {G : GS} {S : Bool → Ex → Option (Value × GS)} (hf : Q.funcs[k]? = some fn) (m : Ref (S true e) (S false (Ex.of (E orc)))) (hn : (fn.name == "runtime.NumGoroutine") = false := by kernel_rfl) (hb : fn.body.isSome = true := by kernel_rfl)
    (ho : (vs.isEmpty && orc k) = false := by kernel_rfl) (hp : isPur Q orc k = false := by kernel_rfl) (hl : Nat.ble vs.length fn.ntmps = true := by kernel_rfl) (hx : sxE Q (evL Q orc) fn.ntmps (bodyOf fn) (nth undef vs) G (retE Q fn.results.toList) = S false (Ex.of (E orc)) := by kernel_rfl) :
    Ref (S true e) ((E orc).cl k vs G) := fun r hr => cl_sxE_some Q orc G hf hn hb ho hp hl hx (m r hr)
abbrev LT (orc : FuncId → Bool) (N : Nat) (c : Code) (b : LpF → LpF) : Prop := ∀ lp : LpF, (∀ τ G, Ref (lp τ G) (mapE ((E orc).lp c (lst N τ) G))) → ∀ (T : List Value) (G : GS), T.length = N → Ref (b lp (nth undef T) G) (mapE ((E orc).lp c T G))
/-- a loop's -/
theorem cL {N : Nat} {c : Code} {B : Bool → Ex → LpF → LpF} (m : ∀ {lp lp' : LpF}, LpLe lp lp' → ∀ τ G, Ref (B true e lp τ G) (B false (Ex.of (E orc)) lp' τ G))
    (hx : ∀ T G, sxE Q (evL Q orc) N c (nth undef T) G (seqXE (fun τ G' => mapE ((evL Q orc).lp c (lst N (nth undef (lst N τ))) G')) fun e τ G' => some (e, nth undef (lst N τ), G')) = B false (Ex.of (E orc)) (fun τ G => mapE ((E orc).lp c (lst N τ) G)) (nth undef T) G := by intro T G; kernel_rfl) :
    LT orc N c (B true e) := fun lp hlp T G hT r hr => lp_sxN Q orc G hT (hx T G) (m ⟨hlp⟩ _ _ r hr)
theorem cf {n f : FuncId} {vs : List Value} {G : GS} {x : Option (Value × GS)} (h : Ref x ((E orc).cl n vs G)) : Ref (leaf f n x) ((E orc).cl f vs G) := Ref.leaf (y := fun f => (E orc).cl f vs G) h
theorem ck {j f k : Nat} {τ : Env} {G : GS} {x : Option (Exit × Env × GS)} (h : Ref x (mapE ((E orc).lp (codeAt Q f j) (lst (nOf Q f) τ) G))) : Ref (leaf k j x) (mapE ((E orc).lp (codeAt Q f k) (lst (nOf Q f) τ) G)) := Ref.leaf (y := fun k => mapE ((E orc).lp (codeAt Q f k) (lst (nOf Q f) τ) G)) h
theorem Ref.gj {α : Type} {x y : Option α} (t : Ref x y := by repeat' (with_reducible first | exact Ref.rfl' _ | exact ROp.r | refine Ref.bP ?_ fun _ => ?_ | refine Ref.bS ?_ fun _ _ => ?_ | exact Ref.cl (by assumption) | refine Ref.ifV ?_ ?_ | refine LpLe.rx (by assumption) ?_ | refine Ref.xitq ?_ | exact UOk.z | refine UOk.c (by assumption) ?_ | exact Ref.nil _ | refine Ref.bVe fun _ _ => ?_ | refine Ref.bLq (by assumption) ?_ fun _ _ _ => ?_ | refine Ref.ifE ?_ ?_ | refine Ref.chk ?_ ?_ | refine Imp.and ?_ ?_ | refine Imp.or ?_ | exact Imp.rfl' _ | refine Imp.sameO ?_ | refine Ref.gd ?_ | exact Ref.cValue (by assumption) | refine Ref.bX ?_ fun _ _ _ => ?_ | exact Ref.scQ (by assumption) | exact Ref.xRangeQ (by assumption) | exact Ref.cInvoke (by assumption) | refine j0 ?_ | refine j1 ?_ | refine j2 ?_ | refine j3 ?_ | refine j4 ?_ | refine j5 ?_ | refine j6 ?_)) : Ref x y := t
instance ilp26_0 : LpIs Q 26 0 (subAt [1, 0, 1, 0, 0] (bodyOf Tryz.f26)) 59 := ⟨by kernel_rfl, by kernel_rfl⟩
instance ilp26_1 : LpIs Q 26 1 (subAt [1, 1, 0, 1, 0, 0] (bodyOf Tryz.f26)) 59 := ⟨by kernel_rfl, by kernel_rfl⟩
instance ilp26_2 : LpIs Q 26 2 (subAt [1, 1, 0, 1, 0, 0, 1, 0, 0, 0, 1, 0, 0] (bodyOf Tryz.f26)) 59 := ⟨by kernel_rfl, by kernel_rfl⟩
instance ilp39_0 : LpIs Q 39 0 (subAt [1, 1, 1, 0, 1, 0, 0] (bodyOf Tryz.f39)) 60 := ⟨by kernel_rfl, by kernel_rfl⟩
instance ilp40_0 : LpIs Q 40 0 (subAt [1, 1, 1, 0, 1, 0, 0] (bodyOf Tryz.f40)) 56 := ⟨by kernel_rfl, by kernel_rfl⟩
instance ilp40_1 : LpIs Q 40 1 (subAt [1, 1, 1, 0, 1, 0, 0, 1, 0, 1, 0, 0] (bodyOf Tryz.f40)) 56 := ⟨by kernel_rfl, by kernel_rfl⟩
instance ilp42_0 : LpIs Q 42 0 (subAt [1, 1, 1, 0, 1, 0, 0] (bodyOf Tryz.f42)) 56 := ⟨by kernel_rfl, by kernel_rfl⟩
instance ilp42_1 : LpIs Q 42 1 (subAt [1, 1, 1, 0, 1, 0, 0, 1, 0, 1, 0, 0] (bodyOf Tryz.f42)) 56 := ⟨by kernel_rfl, by kernel_rfl⟩
instance ilp44_0 : LpIs Q 44 0 (subAt [1, 1, 1, 0, 1, 0, 0] (bodyOf Tryz.f44)) 56 := ⟨by kernel_rfl, by kernel_rfl⟩
instance ilp44_1 : LpIs Q 44 1 (subAt [1, 1, 1, 0, 1, 0, 0, 1, 0, 1, 0, 0] (bodyOf Tryz.f44)) 56 := ⟨by kernel_rfl, by kernel_rfl⟩
instance ilp71_0 : LpIs Q 71 0 (subAt [1, 1, 1, 1, 1, 0, 0] (bodyOf Tryz.f71)) 28 := ⟨by kernel_rfl, by kernel_rfl⟩
instance ilp99_0 : LpIs Q 99 0 (subAt [1, 1, 0, 1, 0, 0] (bodyOf Tryz.f99)) 25 := ⟨by kernel_rfl, by kernel_rfl⟩
instance ilp101_0 : LpIs Q 101 0 (subAt [1, 0, 1, 0, 0] (bodyOf Tryz.f101)) 25 := ⟨by kernel_rfl, by kernel_rfl⟩
instance ilp102_0 : LpIs Q 102 0 (subAt [1, 1, 0, 1, 0, 0] (bodyOf Tryz.f102)) 40 := ⟨by kernel_rfl, by kernel_rfl⟩
instance ilp114_0 : LpIs Q 114 0 (subAt [1, 1, 1, 0, 1, 0, 0] (bodyOf Tryz.f114)) 26 := ⟨by kernel_rfl, by kernel_rfl⟩
instance ilp125_0 : LpIs Q 125 0 (subAt [1, 1, 0, 1, 0, 0] (bodyOf Tryz.f125)) 23 := ⟨by kernel_rfl, by kernel_rfl⟩
instance ilp126_0 : LpIs Q 126 0 (subAt [1, 1, 0, 1, 0, 0] (bodyOf Tryz.f126)) 29 := ⟨by kernel_rfl, by kernel_rfl⟩
instance ilp176_0 : LpIs Q 176 0 (subAt [1, 1, 0, 1, 0, 0] (bodyOf Tryz.f176)) 16 := ⟨by kernel_rfl, by kernel_rfl⟩
instance ilp177_0 : LpIs Q 177 0 (subAt [1, 1, 0, 1, 0, 0] (bodyOf Tryz.f177)) 19 := ⟨by kernel_rfl, by kernel_rfl⟩
instance ilp181_0 : LpIs Q 181 0 (subAt [1, 0, 1, 0, 0] (bodyOf Tryz.f181)) 32 := ⟨by kernel_rfl, by kernel_rfl⟩
instance ilp181_1 : LpIs Q 181 1 (subAt [1, 1, 0, 1, 0, 0] (bodyOf Tryz.f181)) 32 := ⟨by kernel_rfl, by kernel_rfl⟩
instance ilp194_0 : LpIs Q 194 0 (subAt [1, 1, 0, 0, 0] (bodyOf Tryz.f194)) 44 := ⟨by kernel_rfl, by kernel_rfl⟩
instance ilp226_0 : LpIs Q 226 0 (subAt [1, 1, 1, 1, 1, 0, 1, 0, 0] (bodyOf Tryz.f226)) 120 := ⟨by kernel_rfl, by kernel_rfl⟩
instance ilp226_1 : LpIs Q 226 1 (subAt [1, 1, 1, 1, 1, 0, 1, 0, 0, 1, 1, 0, 0, 1, 1, 1, 0, 0] (bodyOf Tryz.f226)) 120 := ⟨by kernel_rfl, by kernel_rfl⟩
instance ilp232_0 : LpIs Q 232 0 (subAt [1, 1, 1, 1, 1, 0, 1, 0, 0] (bodyOf Tryz.f232)) 120 := ⟨by kernel_rfl, by kernel_rfl⟩
instance ilp232_1 : LpIs Q 232 1 (subAt [1, 1, 1, 1, 1, 0, 1, 0, 0, 1, 1, 0, 0, 1, 1, 1, 0, 0] (bodyOf Tryz.f232)) 120 := ⟨by kernel_rfl, by kernel_rfl⟩
instance ilp234_0 : LpIs Q 234 0 (subAt [1, 1, 1, 1, 1, 0, 1, 0, 0] (bodyOf Tryz.f234)) 120 := ⟨by kernel_rfl, by kernel_rfl⟩
instance ilp234_1 : LpIs Q 234 1 (subAt [1, 1, 1, 1, 1, 0, 1, 0, 0, 1, 1, 0, 0, 1, 1, 1, 0, 0] (bodyOf Tryz.f234)) 120 := ⟨by kernel_rfl, by kernel_rfl⟩
instance ilp236_0 : LpIs Q 236 0 (subAt [1, 0, 0] (bodyOf Tryz.f236)) 25 := ⟨by kernel_rfl, by kernel_rfl⟩
instance ilp236_1 : LpIs Q 236 1 (subAt [1, 0, 0, 1, 1, 0, 0, 1, 0, 0] (bodyOf Tryz.f236)) 25 := ⟨by kernel_rfl, by kernel_rfl⟩
instance iln35 : LnOk Q 35 := ⟨fun a n c => by kernel_rfl⟩
instance iep53 : EpOk Q 53 := ⟨fun neg x y => by cases neg <;> kernel_rfl, fun neg x y a => by cases neg <;> kernel_rfl, fun neg x y a => by cases neg <;> kernel_rfl⟩
instance ifa64_11 : FaOk Q 64 11 14 := ⟨fun b o s => by kernel_rfl⟩
instance ild38 : LdOk Q 38 := ⟨fun b o s G => (show _ = loadOne b o G by kernel_rfl).trans (loadOne_eq b o G)⟩
instance iln38 : LnOk Q 38 := ⟨fun a n c => by kernel_rfl⟩
instance ifa64_0 : FaOk Q 64 0 0 := ⟨fun b o s => by kernel_rfl⟩
instance ifa57_3 : FaOk Q 57 3 3 := ⟨fun b o s => by kernel_rfl⟩
instance ild3 : LdOk Q 3 := ⟨fun b o s G => (show _ = loadOne b o G by kernel_rfl).trans (loadOne_eq b o G)⟩
instance ifa29_2 : FaOk Q 29 2 2 := ⟨fun b o s => by kernel_rfl⟩
instance ifa29_1 : FaOk Q 29 1 1 := ⟨fun b o s => by kernel_rfl⟩
instance iep58 : EpOk Q 58 := ⟨fun neg x y => by cases neg <;> kernel_rfl, fun neg x y a => by cases neg <;> kernel_rfl, fun neg x y a => by cases neg <;> kernel_rfl⟩
abbrev z3 : List Value := [(.int .i64 0)]
instance ibs35_2_0_1 : BsOk Q 35 2 (rep z3 2) 1 [(0, 0, 1), (1, 1, 1)] := bs_ok Q (z0 := z3) (by kernel_rfl) rfl (by decide) (by kernel_rfl)
abbrev z57 : List Value := [(.int .i64 0), (.int .i64 0), (.int .i64 0), (.int .i64 0)]
instance ibd57_1_2 : BdOk Q 57 z57 [(1, 1, 1), (2, 2, 1)] := bd_ok Q (by kernel_rfl) (by kernel_rfl) (by kernel_rfl)
instance ibd57_0_1_2_3 : BdOk Q 57 z57 [(0, 0, 1), (1, 1, 1), (2, 2, 1), (3, 3, 1)] := bd_ok Q (by kernel_rfl) (by kernel_rfl) (by kernel_rfl)
instance ial57 : AlOk Q 57 z57 := ⟨fun G => by kernel_rfl⟩
instance ist57 : StOk Q 57 4 := ⟨fun b o s v G => by kernel_rfl⟩
instance ilda57 : LdAOk Q 57 4 := ⟨fun b o s G => by kernel_rfl⟩
abbrev z133 : List Value := [(.pointer none)]
instance imk59 : MkSlOk Q 59 1 8 z133 := ⟨fun k k' l c G => by kernel_rfl⟩
instance imk35 : MkSlOk Q 35 1 8 z3 := ⟨fun k k' l c G => by kernel_rfl⟩
abbrev z25 : List Value := [(.int .i64 0)]
instance imk62 : MkSlOk Q 62 1 8 z25 := ⟨fun k k' l c G => by kernel_rfl⟩
instance ibs35_3_0_1_2 : BsOk Q 35 3 (rep z3 3) 1 [(0, 0, 1), (1, 1, 1), (2, 2, 1)] := bs_ok Q (z0 := z3) (by kernel_rfl) rfl (by decide) (by kernel_rfl)
abbrev z64 : List Value := [(.int .i64 0), (.int .i64 0), (.int .i64 0), (.int .i64 0), (.pointer none), (.slice none 0 0), (.slice none 0 0), (.pointer none), (.pointer none), (.bool false), (.slice none 0 0), (.slice none 0 0), (.int .i64 0), (.int .i64 0), (.slice none 0 0), (.slice none 0 0), (.int .i64 0), (.int .i64 0)]
instance ibd64_0_1_2_3_8_12 : BdOk Q 64 z64 [(0, 0, 4), (1, 4, 1), (2, 5, 1), (3, 6, 1), (8, 11, 1), (12, 15, 1)] := bd_ok Q (by kernel_rfl) (by kernel_rfl) (by kernel_rfl)
instance iias35 : IasOk Q 35 1 := ⟨fun b o s n c k j => by kernel_rfl⟩
instance iias38 : IasOk Q 38 10 := ⟨fun b o s n c k j => by kernel_rfl⟩
instance ilda29 : LdAOk Q 29 10 := ⟨fun b o s G => by kernel_rfl⟩
abbrev z29 : List Value := [(.int .i64 0), (.int .i64 0), (.int .i64 0), (.int .i64 0), (.int .i64 0), (.int .i64 0), (.int .u64 0), (.int .i64 0), (.int .i64 0), (.int .u64 0)]
instance ial29 : AlOk Q 29 z29 := ⟨fun G => by kernel_rfl⟩
instance ist29 : StOk Q 29 10 := ⟨fun b o s v G => by kernel_rfl⟩
instance ifa29_0 : FaOk Q 29 0 0 := ⟨fun b o s => by kernel_rfl⟩
instance ilda104 : LdAOk Q 104 4 := ⟨fun b o s G => by kernel_rfl⟩
instance ibs35_1_0 : BsOk Q 35 1 (rep z3 1) 1 [(0, 0, 1)] := bs_ok Q (z0 := z3) (by kernel_rfl) rfl (by decide) (by kernel_rfl)
instance iap35_35 : ApOk Q 35 35 1 8 := ⟨fun s x G => by kernel_rfl⟩
abbrev z104 : List Value := [(.slice none 0 0), .nilFunc, .nilFunc, .nilFunc]
instance ial104 : AlOk Q 104 z104 := ⟨fun G => by kernel_rfl⟩
instance ibd104_1_2_3 : BdOk Q 104 z104 [(1, 1, 1), (2, 2, 1), (3, 3, 1)] := bd_ok Q (by kernel_rfl) (by kernel_rfl) (by kernel_rfl)
instance ist104 : StOk Q 104 4 := ⟨fun b o s v G => by kernel_rfl⟩
instance ilda112 : LdAOk Q 112 4 := ⟨fun b o s G => by kernel_rfl⟩
abbrev z112 : List Value := [(.slice none 0 0), .nilFunc, .nilFunc, .nilFunc]
instance ial112 : AlOk Q 112 z112 := ⟨fun G => by kernel_rfl⟩
instance ibd112_1_2_3 : BdOk Q 112 z112 [(1, 1, 1), (2, 2, 1), (3, 3, 1)] := bd_ok Q (by kernel_rfl) (by kernel_rfl) (by kernel_rfl)
instance ist112 : StOk Q 112 4 := ⟨fun b o s v G => by kernel_rfl⟩
instance ilda119 : LdAOk Q 119 4 := ⟨fun b o s G => by kernel_rfl⟩
abbrev z119 : List Value := [(.slice none 0 0), .nilFunc, .nilFunc, .nilFunc]
instance ial119 : AlOk Q 119 z119 := ⟨fun G => by kernel_rfl⟩
instance ibd119_0_1_2_3 : BdOk Q 119 z119 [(0, 0, 1), (1, 1, 1), (2, 2, 1), (3, 3, 1)] := bd_ok Q (by kernel_rfl) (by kernel_rfl) (by kernel_rfl)
instance ist119 : StOk Q 119 4 := ⟨fun b o s v G => by kernel_rfl⟩
instance ilda24 : LdAOk Q 24 4 := ⟨fun b o s G => by kernel_rfl⟩
abbrev z27 : List Value := [(.int .i64 0), (.int .i64 0), (.int .u64 0)]
instance ial27 : AlOk Q 27 z27 := ⟨fun G => by kernel_rfl⟩
instance ist27 : StOk Q 27 3 := ⟨fun b o s v G => by kernel_rfl⟩
instance ilda27 : LdAOk Q 27 3 := ⟨fun b o s G => by kernel_rfl⟩
instance ifa24_0 : FaOk Q 24 0 0 := ⟨fun b o s => by kernel_rfl⟩
instance ibd27_ : BdOk Q 27 z27 [] := bd_ok Q (by kernel_rfl) (by kernel_rfl) (by kernel_rfl)
abbrev z206 : List Value := [.nilFunc, .nilFunc, .nilFunc]
instance ial206 : AlOk Q 206 z206 := ⟨fun G => by kernel_rfl⟩
instance ist206 : StOk Q 206 3 := ⟨fun b o s v G => by kernel_rfl⟩
instance iiaa206 : IaaOk Q 206 3 1 := ⟨fun b o s k j => by kernel_rfl⟩
instance ild129 : LdOk Q 129 := ⟨fun b o s G => (show _ = loadOne b o G by kernel_rfl).trans (loadOne_eq b o G)⟩
instance ifa27_0 : FaOk Q 27 0 0 := ⟨fun b o s => by kernel_rfl⟩
instance ild25 : LdOk Q 25 := ⟨fun b o s G => (show _ = loadOne b o G by kernel_rfl).trans (loadOne_eq b o G)⟩
instance isl107 : SlOk Q 107 2 := ⟨fun a n c lo hi mx G => sl_eq Q (e := 184) (by kernel_rfl) (by kernel_rfl) a n c lo hi mx G⟩
instance ifa24_3 : FaOk Q 24 3 3 := ⟨fun b o s => by kernel_rfl⟩
instance ild22 : LdOk Q 22 := ⟨fun b o s G => (show _ = loadOne b o G by kernel_rfl).trans (loadOne_eq b o G)⟩
instance ifa24_1 : FaOk Q 24 1 1 := ⟨fun b o s => by kernel_rfl⟩
abbrev z184 : List Value := [(.int .u64 0), (.int .i64 0)]
instance ibd184_0_1 : BdOk Q 184 z184 [(0, 0, 1), (1, 1, 1)] := bd_ok Q (by kernel_rfl) (by kernel_rfl) (by kernel_rfl)
instance ibs107_1_0 : BsOk Q 107 1 (rep z184 1) 2 [(0, 0, 2)] := bs_ok Q (z0 := z184) (by kernel_rfl) rfl (by decide) (by kernel_rfl)
instance iap107_107 : ApOk Q 107 107 2 16 := ⟨fun s x G => by kernel_rfl⟩
abbrev z218 : List Value := [(.int .i64 0), (.int .i64 0), (.int .i64 0), (.int .i64 0), .nilFunc, (.bool false), (.int .i64 0), (.int .i64 0), (.int .u64 0), (.int .u64 0)]
instance ibd218_0_1 : BdOk Q 218 z218 [(0, 0, 7), (1, 7, 1)] := bd_ok Q (by kernel_rfl) (by kernel_rfl) (by kernel_rfl)
instance ifa218_0 : FaOk Q 218 0 0 := ⟨fun b o s => by kernel_rfl⟩
instance ifa214_3 : FaOk Q 214 3 6 := ⟨fun b o s => by kernel_rfl⟩
instance ifa214_1 : FaOk Q 214 1 4 := ⟨fun b o s => by kernel_rfl⟩
instance ist212 : StOk Q 212 1 := ⟨fun b o s v G => by kernel_rfl⟩
abbrev z223 : List Value := [(.pointer none), (.int .u64 0), (.int .u64 0)]
instance ibd223_0 : BdOk Q 223 z223 [(0, 0, 1)] := bd_ok Q (by kernel_rfl) (by kernel_rfl) (by kernel_rfl)
instance ial223 : AlOk Q 223 z223 := ⟨fun G => by kernel_rfl⟩
instance ist223 : StOk Q 223 3 := ⟨fun b o s v G => by kernel_rfl⟩
instance ifa223_0 : FaOk Q 223 0 0 := ⟨fun b o s => by kernel_rfl⟩
instance ild220 : LdOk Q 220 := ⟨fun b o s G => (show _ = loadOne b o G by kernel_rfl).trans (loadOne_eq b o G)⟩
instance ilda223 : LdAOk Q 223 3 := ⟨fun b o s G => by kernel_rfl⟩
instance ifd225_3 : FdOk Q 225 3 3 := ⟨fun l => by kernel_rfl⟩
instance iep133 : EpOk Q 133 := ⟨fun neg x y => by cases neg <;> kernel_rfl, fun neg x y a => by cases neg <;> kernel_rfl, fun neg x y a => by cases neg <;> kernel_rfl⟩
abbrev z235 : List Value := [(.int .i64 0), (.int .i64 0), (.int .i64 0), (.int .i64 0), .nilFunc, (.bool false), (.int .i64 0), (.int .u64 0), (.int .i64 0)]
instance ibd235_0 : BdOk Q 235 z235 [(0, 0, 7)] := bd_ok Q (by kernel_rfl) (by kernel_rfl) (by kernel_rfl)
instance ifa235_0 : FaOk Q 235 0 0 := ⟨fun b o s => by kernel_rfl⟩
instance iep60 : EpOk Q 60 := ⟨fun neg x y => by cases neg <;> kernel_rfl, fun neg x y a => by cases neg <;> kernel_rfl, fun neg x y a => by cases neg <;> kernel_rfl⟩
instance ifa235_2 : FaOk Q 235 2 8 := ⟨fun b o s => by kernel_rfl⟩
abbrev z239 : List Value := (zs 4096 (.int .u64 0))
instance ial239 : AlOk Q 239 z239 := ⟨fun G => by kernel_rfl⟩
abbrev z241 : List Value := [(.pointer none), (.int .i64 0), (.int .i64 0), (.int .i64 0), (.int .u64 0), (.int .u64 0), (.bool false), (.int .i64 0)]
instance ibd241_0_1 : BdOk Q 241 z241 [(0, 0, 1), (1, 1, 1)] := bd_ok Q (by kernel_rfl) (by kernel_rfl) (by kernel_rfl)
instance ifa57_0 : FaOk Q 57 0 0 := ⟨fun b o s => by kernel_rfl⟩
instance ifa57_1 : FaOk Q 57 1 1 := ⟨fun b o s => by kernel_rfl⟩
instance ifa57_2 : FaOk Q 57 2 2 := ⟨fun b o s => by kernel_rfl⟩
instance ifa64_12 : FaOk Q 64 12 15 := ⟨fun b o s => by kernel_rfl⟩
instance ild35 : LdOk Q 35 := ⟨fun b o s G => (show _ = loadOne b o G by kernel_rfl).trans (loadOne_eq b o G)⟩
instance ifa64_13 : FaOk Q 64 13 16 := ⟨fun b o s => by kernel_rfl⟩
instance ist3 : StOk Q 3 1 := ⟨fun b o s v G => by kernel_rfl⟩
instance ibd29_0_1_2 : BdOk Q 29 z29 [(0, 0, 1), (1, 1, 1), (2, 2, 1)] := bd_ok Q (by kernel_rfl) (by kernel_rfl) (by kernel_rfl)
instance ifa64_14 : FaOk Q 64 14 17 := ⟨fun b o s => by kernel_rfl⟩
instance ifa64_3 : FaOk Q 64 3 6 := ⟨fun b o s => by kernel_rfl⟩
instance ifa64_2 : FaOk Q 64 2 5 := ⟨fun b o s => by kernel_rfl⟩
instance ild59 : LdOk Q 59 := ⟨fun b o s G => (show _ = loadOne b o G by kernel_rfl).trans (loadOne_eq b o G)⟩
instance iias59 : IasOk Q 59 1 := ⟨fun b o s n c k j => by kernel_rfl⟩
instance ist133 : StOk Q 133 1 := ⟨fun b o s v G => by kernel_rfl⟩
instance ifa64_8 : FaOk Q 64 8 11 := ⟨fun b o s => by kernel_rfl⟩
instance ild62 : LdOk Q 62 := ⟨fun b o s G => (show _ = loadOne b o G by kernel_rfl).trans (loadOne_eq b o G)⟩
instance iias62 : IasOk Q 62 1 := ⟨fun b o s n c k j => by kernel_rfl⟩
instance ist25 : StOk Q 25 1 := ⟨fun b o s v G => by kernel_rfl⟩
instance icv3_22 : CvOk Q 3 22 .i64 .u64 := ⟨fun n => by kernel_rfl⟩
abbrev z24 : List Value := [(.int .i64 0), (.int .i64 0), (.int .i64 0), (.int .u64 0)]
instance ibd24_0_3 : BdOk Q 24 z24 [(0, 0, 1), (3, 3, 1)] := bd_ok Q (by kernel_rfl) (by kernel_rfl) (by kernel_rfl)
instance ifa29_3 : FaOk Q 29 3 3 := ⟨fun b o s => by kernel_rfl⟩
instance ist24 : StOk Q 24 4 := ⟨fun b o s v G => by kernel_rfl⟩
instance ifa64_6 : FaOk Q 64 6 9 := ⟨fun b o s => by kernel_rfl⟩
instance ild4 : LdOk Q 4 := ⟨fun b o s G => (show _ = loadOne b o G by kernel_rfl).trans (loadOne_eq b o G)⟩
instance ifa64_4 : FaOk Q 64 4 7 := ⟨fun b o s => by kernel_rfl⟩
instance ild60 : LdOk Q 60 := ⟨fun b o s G => (show _ = loadOne b o G by kernel_rfl).trans (loadOne_eq b o G)⟩
instance ifa64_5 : FaOk Q 64 5 8 := ⟨fun b o s => by kernel_rfl⟩
instance ist61 : StOk Q 61 1 := ⟨fun b o s v G => by kernel_rfl⟩
instance ibd24_0 : BdOk Q 24 z24 [(0, 0, 1)] := bd_ok Q (by kernel_rfl) (by kernel_rfl) (by kernel_rfl)
instance ist60 : StOk Q 60 1 := ⟨fun b o s v G => by kernel_rfl⟩
instance ibs38_1_0 : BsOk Q 38 1 (rep z29 1) 10 [(0, 0, 10)] := bs_ok Q (z0 := z29) (by kernel_rfl) rfl (by decide) (by kernel_rfl)
instance iap38_38 : ApOk Q 38 38 10 80 := ⟨fun s x G => by kernel_rfl⟩
instance ist38 : StOk Q 38 1 := ⟨fun b o s v G => by kernel_rfl⟩
abbrev z271 : List Value := [(.int .i64 0), (.int .i64 0), (.int .i64 0), (.int .i64 0), .nilFunc, (.bool false), (.int .i64 0), (.int .u64 0)]
instance ibd271_0_1 : BdOk Q 271 z271 [(0, 0, 7), (1, 7, 1)] := bd_ok Q (by kernel_rfl) (by kernel_rfl) (by kernel_rfl)
instance ifa271_0 : FaOk Q 271 0 0 := ⟨fun b o s => by kernel_rfl⟩
instance ifa235_1 : FaOk Q 235 1 7 := ⟨fun b o s => by kernel_rfl⟩
instance ies35 : EsOk Q 35 := ⟨fun neg x y => by cases neg <;> kernel_rfl, fun neg x y a n c => by cases neg <;> kernel_rfl⟩
instance ibs35_0_ : BsOk Q 35 0 (rep z3 0) 1 [] := bs_ok Q (z0 := z3) (by kernel_rfl) rfl (by decide) (by kernel_rfl)
abbrev z4 : List Value := [(.bool false)]
instance ial4 : AlOk Q 4 z4 := ⟨fun G => by kernel_rfl⟩
instance ist4 : StOk Q 4 1 := ⟨fun b o s v G => by kernel_rfl⟩
instance ibs180_1_0 : BsOk Q 180 1 (rep z27 1) 3 [(0, 0, 3)] := bs_ok Q (z0 := z27) (by kernel_rfl) rfl (by decide) (by kernel_rfl)
instance iln74 : LnOk Q 74 := ⟨fun a n c => by kernel_rfl⟩
instance iias74 : IasOk Q 74 1 := ⟨fun b o s n c k j => by kernel_rfl⟩
instance ibd27_2 : BdOk Q 27 z27 [(2, 2, 1)] := bd_ok Q (by kernel_rfl) (by kernel_rfl) (by kernel_rfl)
abbrev z5 : List Value := [(.int .u8 0)]
instance ibs181_1_0 : BsOk Q 181 1 (rep z5 1) 1 [(0, 0, 1)] := bs_ok Q (z0 := z5) (by kernel_rfl) rfl (by decide) (by kernel_rfl)
instance iap181_181 : ApOk Q 181 181 1 1 := ⟨fun s x G => by kernel_rfl⟩
instance iln107 : LnOk Q 107 := ⟨fun a n c => by kernel_rfl⟩
instance iias107 : IasOk Q 107 2 := ⟨fun b o s n c k j => by kernel_rfl⟩
instance ifa184_1 : FaOk Q 184 1 1 := ⟨fun b o s => by kernel_rfl⟩
instance ifa184_0 : FaOk Q 184 0 0 := ⟨fun b o s => by kernel_rfl⟩
instance ibd27_1_2 : BdOk Q 27 z27 [(1, 1, 1), (2, 2, 1)] := bd_ok Q (by kernel_rfl) (by kernel_rfl) (by kernel_rfl)
instance ilda184 : LdAOk Q 184 2 := ⟨fun b o s G => by kernel_rfl⟩
instance ial184 : AlOk Q 184 z184 := ⟨fun G => by kernel_rfl⟩
instance ist184 : StOk Q 184 2 := ⟨fun b o s v G => by kernel_rfl⟩
abbrev z276 : List Value := [(.int .u64 0), (.int .u64 0), (.int .u64 0), (.int .u64 0), (.int .u64 0), (.int .u64 0), (.int .u64 0), (.int .u64 0), (.int .u64 0), (.int .u64 0), (.int .u64 0), (.int .u64 0), (.int .u64 0), (.int .u64 0), (.int .u64 0), (.int .u64 0)]
instance ial276 : AlOk Q 276 z276 := ⟨fun G => by kernel_rfl⟩
instance ist276 : StOk Q 276 16 := ⟨fun b o s v G => by kernel_rfl⟩
instance ilda276 : LdAOk Q 276 16 := ⟨fun b o s G => by kernel_rfl⟩
instance ibd27_0 : BdOk Q 27 z27 [(0, 0, 1)] := bd_ok Q (by kernel_rfl) (by kernel_rfl) (by kernel_rfl)
instance ifa27_1 : FaOk Q 27 1 1 := ⟨fun b o s => by kernel_rfl⟩
instance ibd27_1 : BdOk Q 27 z27 [(1, 1, 1)] := bd_ok Q (by kernel_rfl) (by kernel_rfl) (by kernel_rfl)
instance iap180_180 : ApOk Q 180 180 3 24 := ⟨fun s x G => by kernel_rfl⟩
instance ifa29_4 : FaOk Q 29 4 7 := ⟨fun b o s => by kernel_rfl⟩
instance ifa104_2 : FaOk Q 104 2 2 := ⟨fun b o s => by kernel_rfl⟩
instance ild101 : LdOk Q 101 := ⟨fun b o s G => (show _ = loadOne b o G by kernel_rfl).trans (loadOne_eq b o G)⟩
instance ifa112_2 : FaOk Q 112 2 2 := ⟨fun b o s => by kernel_rfl⟩
instance ild109 : LdOk Q 109 := ⟨fun b o s G => (show _ = loadOne b o G by kernel_rfl).trans (loadOne_eq b o G)⟩
instance ifa119_2 : FaOk Q 119 2 2 := ⟨fun b o s => by kernel_rfl⟩
instance ild116 : LdOk Q 116 := ⟨fun b o s G => (show _ = loadOne b o G by kernel_rfl).trans (loadOne_eq b o G)⟩
instance ifa202_2 : FaOk Q 202 2 1025 := ⟨fun b o s => by kernel_rfl⟩
instance ilda202 : LdAOk Q 202 1026 := ⟨fun b o s G => by kernel_rfl⟩
instance ifa27_2 : FaOk Q 27 2 2 := ⟨fun b o s => by kernel_rfl⟩
instance ist22 : StOk Q 22 1 := ⟨fun b o s v G => by kernel_rfl⟩
abbrev z202 : List Value := (zs 1024 (.int .u64 0) ++ [(.int .i64 0), (.int .i64 0)])
instance ial202 : AlOk Q 202 z202 := ⟨fun G => by kernel_rfl⟩
instance ifa202_0 : FaOk Q 202 0 0 := ⟨fun b o s => by kernel_rfl⟩
instance isla200 : SlAOk Q 200 1024 1 := ⟨fun a lo hi mx G => by kernel_rfl⟩
instance icp74 : CpOk Q 74 1 := ⟨fun d s G => by kernel_rfl⟩
instance ist202 : StOk Q 202 1026 := ⟨fun b o s v G => by kernel_rfl⟩
instance ifa202_1 : FaOk Q 202 1 1024 := ⟨fun b o s => by kernel_rfl⟩
instance iiaa200 : IaaOk Q 200 1024 1 := ⟨fun b o s k j => by kernel_rfl⟩
abbrev z22 : List Value := [(.int .u64 0)]
instance ibs74_1_0 : BsOk Q 74 1 (rep z22 1) 1 [(0, 0, 1)] := bs_ok Q (z0 := z22) (by kernel_rfl) rfl (by decide) (by kernel_rfl)
instance iap74_74 : ApOk Q 74 74 1 8 := ⟨fun s x G => by kernel_rfl⟩
instance ibd206_0_1_2 : BdOk Q 206 z206 [(0, 0, 1), (1, 1, 1), (2, 2, 1)] := bd_ok Q (by kernel_rfl) (by kernel_rfl) (by kernel_rfl)
instance ilda206 : LdAOk Q 206 3 := ⟨fun b o s G => by kernel_rfl⟩
instance ies107 : EsOk Q 107 := ⟨fun neg x y => by cases neg <;> kernel_rfl, fun neg x y a n c => by cases neg <;> kernel_rfl⟩
instance ibs107_0_ : BsOk Q 107 0 (rep z184 0) 2 [] := bs_ok Q (z0 := z184) (by kernel_rfl) rfl (by decide) (by kernel_rfl)
abbrev z214 : List Value := [(.int .i64 0), (.int .i64 0), (.int .i64 0), (.int .i64 0), .nilFunc, (.bool false), (.int .i64 0)]
instance ial214 : AlOk Q 214 z214 := ⟨fun G => by kernel_rfl⟩
instance ibd214_2_3 : BdOk Q 214 z214 [(2, 5, 1), (3, 6, 1)] := bd_ok Q (by kernel_rfl) (by kernel_rfl) (by kernel_rfl)
instance ist214 : StOk Q 214 7 := ⟨fun b o s v G => by kernel_rfl⟩
instance ibd214_0_2 : BdOk Q 214 z214 [(0, 0, 4), (2, 5, 1)] := bd_ok Q (by kernel_rfl) (by kernel_rfl) (by kernel_rfl)
instance ilda214 : LdAOk Q 214 7 := ⟨fun b o s G => by kernel_rfl⟩
instance ifa214_0 : FaOk Q 214 0 0 := ⟨fun b o s => by kernel_rfl⟩
instance ifa218_2 : FaOk Q 218 2 8 := ⟨fun b o s => by kernel_rfl⟩
instance ifa241_0 : FaOk Q 241 0 0 := ⟨fun b o s => by kernel_rfl⟩
instance ild236 : LdOk Q 236 := ⟨fun b o s G => (show _ = loadOne b o G by kernel_rfl).trans (loadOne_eq b o G)⟩
instance iep236 : EpOk Q 236 := ⟨fun neg x y => by cases neg <;> kernel_rfl, fun neg x y a => by cases neg <;> kernel_rfl, fun neg x y a => by cases neg <;> kernel_rfl⟩
instance ifa241_1 : FaOk Q 241 1 1 := ⟨fun b o s => by kernel_rfl⟩
instance iiaa239 : IaaOk Q 239 4096 1 := ⟨fun b o s k j => by kernel_rfl⟩
abbrev z225 : List Value := [(.int .i64 0), (.int .i64 0), (.int .u64 0), (.int .u64 0), (.bool false)]
instance ial225 : AlOk Q 225 z225 := ⟨fun G => by kernel_rfl⟩
instance ibd225_ : BdOk Q 225 z225 [] := bd_ok Q (by kernel_rfl) (by kernel_rfl) (by kernel_rfl)
instance ist225 : StOk Q 225 5 := ⟨fun b o s v G => by kernel_rfl⟩
instance ifa241_3 : FaOk Q 241 3 7 := ⟨fun b o s => by kernel_rfl⟩
instance ibd225_0_1 : BdOk Q 225 z225 [(0, 0, 1), (1, 1, 1)] := bd_ok Q (by kernel_rfl) (by kernel_rfl) (by kernel_rfl)
instance ifa241_2 : FaOk Q 241 2 2 := ⟨fun b o s => by kernel_rfl⟩
instance ild237 : LdOk Q 237 := ⟨fun b o s G => (show _ = loadOne b o G by kernel_rfl).trans (loadOne_eq b o G)⟩
instance ifa225_2 : FaOk Q 225 2 2 := ⟨fun b o s => by kernel_rfl⟩
instance ifa225_3 : FaOk Q 225 3 3 := ⟨fun b o s => by kernel_rfl⟩
instance ifa225_4 : FaOk Q 225 4 4 := ⟨fun b o s => by kernel_rfl⟩
instance ist237 : StOk Q 237 1 := ⟨fun b o s v G => by kernel_rfl⟩
instance ilda225 : LdAOk Q 225 5 := ⟨fun b o s G => by kernel_rfl⟩
instance iep61 : EpOk Q 61 := ⟨fun neg x y => by cases neg <;> kernel_rfl, fun neg x y a => by cases neg <;> kernel_rfl, fun neg x y a => by cases neg <;> kernel_rfl⟩
instance ild212 : LdOk Q 212 := ⟨fun b o s G => (show _ = loadOne b o G by kernel_rfl).trans (loadOne_eq b o G)⟩
instance ief212 : EfOk Q 212 := ⟨fun neg x y => by cases neg <;> kernel_rfl, fun neg x y f a b => by cases neg <;> kernel_rfl⟩
instance ifa214_2 : FaOk Q 214 2 5 := ⟨fun b o s => by kernel_rfl⟩
instance icv22_3 : CvOk Q 22 3 .u64 .i64 := ⟨fun n => by kernel_rfl⟩
instance icv216_3 : CvOk Q 216 3 .u64 .i64 := ⟨fun n => by kernel_rfl⟩
instance ibd223_0_1 : BdOk Q 223 z223 [(0, 0, 1), (1, 1, 1)] := bd_ok Q (by kernel_rfl) (by kernel_rfl) (by kernel_rfl)
instance ild133 : LdOk Q 133 := ⟨fun b o s G => (show _ = loadOne b o G by kernel_rfl).trans (loadOne_eq b o G)⟩
instance ifa64_1 : FaOk Q 64 1 4 := ⟨fun b o s => by kernel_rfl⟩
instance ild58 : LdOk Q 58 := ⟨fun b o s G => (show _ = loadOne b o G by kernel_rfl).trans (loadOne_eq b o G)⟩
instance ifa225_0 : FaOk Q 225 0 0 := ⟨fun b o s => by kernel_rfl⟩
instance ifa64_7 : FaOk Q 64 7 10 := ⟨fun b o s => by kernel_rfl⟩
instance ist35 : StOk Q 35 1 := ⟨fun b o s v G => by kernel_rfl⟩
instance ild61 : LdOk Q 61 := ⟨fun b o s G => (show _ = loadOne b o G by kernel_rfl).trans (loadOne_eq b o G)⟩
instance isl35 : SlOk Q 35 1 := ⟨fun a n c lo hi mx G => sl_eq Q (e := 3) (by kernel_rfl) (by kernel_rfl) a n c lo hi mx G⟩
instance ibd27_0_2 : BdOk Q 27 z27 [(0, 0, 1), (2, 2, 1)] := bd_ok Q (by kernel_rfl) (by kernel_rfl) (by kernel_rfl)
instance ifa271_1 : FaOk Q 271 1 7 := ⟨fun b o s => by kernel_rfl⟩
instance iiaa276 : IaaOk Q 276 16 1 := ⟨fun b o s k j => by kernel_rfl⟩
abbrev z35 : List Value := [(.slice none 0 0)]
instance ial35 : AlOk Q 35 z35 := ⟨fun G => by kernel_rfl⟩
instance ifa218_3 : FaOk Q 218 3 9 := ⟨fun b o s => by kernel_rfl⟩
instance ist216 : StOk Q 216 1 := ⟨fun b o s v G => by kernel_rfl⟩
instance ild216 : LdOk Q 216 := ⟨fun b o s G => (show _ = loadOne b o G by kernel_rfl).trans (loadOne_eq b o G)⟩
instance iep220 : EpOk Q 220 := ⟨fun neg x y => by cases neg <;> kernel_rfl, fun neg x y a => by cases neg <;> kernel_rfl, fun neg x y a => by cases neg <;> kernel_rfl⟩
instance icv216_295 : CvOk Q 216 295 .u64 .u32 := ⟨fun n => by kernel_rfl⟩
instance icv22_295 : CvOk Q 22 295 .u64 .u32 := ⟨fun n => by kernel_rfl⟩
instance ifa223_1 : FaOk Q 223 1 1 := ⟨fun b o s => by kernel_rfl⟩
instance ifd225_1 : FdOk Q 225 1 1 := ⟨fun l => by kernel_rfl⟩
instance icv295_216 : CvOk Q 295 216 .u32 .u64 := ⟨fun n => by kernel_rfl⟩
abbrev z320 : List Value := [(.map none)]
instance ial320 : AlOk Q 320 z320 := ⟨fun G => by kernel_rfl⟩
instance ist320 : StOk Q 320 1 := ⟨fun b o s v G => by kernel_rfl⟩
abbrev z321 : List Value := [.nilFunc]
instance ial321 : AlOk Q 321 z321 := ⟨fun G => by kernel_rfl⟩
instance ist321 : StOk Q 321 1 := ⟨fun b o s v G => by kernel_rfl⟩
instance ild321 : LdOk Q 321 := ⟨fun b o s G => (show _ = loadOne b o G by kernel_rfl).trans (loadOne_eq b o G)⟩
instance ifa104_0 : FaOk Q 104 0 0 := ⟨fun b o s => by kernel_rfl⟩
instance ild74 : LdOk Q 74 := ⟨fun b o s G => (show _ = loadOne b o G by kernel_rfl).trans (loadOne_eq b o G)⟩
instance ild55 : LdOk Q 55 := ⟨fun b o s G => (show _ = loadOne b o G by kernel_rfl).trans (loadOne_eq b o G)⟩
instance ifa104_3 : FaOk Q 104 3 3 := ⟨fun b o s => by kernel_rfl⟩
instance ild102 : LdOk Q 102 := ⟨fun b o s G => (show _ = loadOne b o G by kernel_rfl).trans (loadOne_eq b o G)⟩
abbrev z323 : List Value := [(.int .i64 0), (.string ⟨#[]⟩)]
instance ibd323_0_1 : BdOk Q 323 z323 [(0, 0, 1), (1, 1, 1)] := bd_ok Q (by kernel_rfl) (by kernel_rfl) (by kernel_rfl)
instance ial323 : AlOk Q 323 z323 := ⟨fun G => by kernel_rfl⟩
instance ist323 : StOk Q 323 2 := ⟨fun b o s v G => by kernel_rfl⟩
instance ild320 : LdOk Q 320 := ⟨fun b o s G => (show _ = loadOne b o G by kernel_rfl).trans (loadOne_eq b o G)⟩
instance ilda323 : LdAOk Q 323 2 := ⟨fun b o s G => by kernel_rfl⟩
abbrev z324 : List Value := []
instance ial324 : AlOk Q 324 z324 := ⟨fun G => by kernel_rfl⟩
instance ist324 : StOk Q 324 0 := ⟨fun b o s v G => by kernel_rfl⟩
instance iln180 : LnOk Q 180 := ⟨fun a n c => by kernel_rfl⟩
instance iias180 : IasOk Q 180 3 := ⟨fun b o s n c k j => by kernel_rfl⟩
instance ifa104_1 : FaOk Q 104 1 1 := ⟨fun b o s => by kernel_rfl⟩
instance ild100 : LdOk Q 100 := ⟨fun b o s G => (show _ = loadOne b o G by kernel_rfl).trans (loadOne_eq b o G)⟩
instance ibd324_ : BdOk Q 324 z324 [] := bd_ok Q (by kernel_rfl) (by kernel_rfl) (by kernel_rfl)
abbrev z331 : List Value := [.nilFunc]
instance ial331 : AlOk Q 331 z331 := ⟨fun G => by kernel_rfl⟩
instance ist331 : StOk Q 331 1 := ⟨fun b o s v G => by kernel_rfl⟩
instance ild331 : LdOk Q 331 := ⟨fun b o s G => (show _ = loadOne b o G by kernel_rfl).trans (loadOne_eq b o G)⟩
instance ifa112_0 : FaOk Q 112 0 0 := ⟨fun b o s => by kernel_rfl⟩
instance ild107 : LdOk Q 107 := ⟨fun b o s G => (show _ = loadOne b o G by kernel_rfl).trans (loadOne_eq b o G)⟩
instance ifa112_3 : FaOk Q 112 3 3 := ⟨fun b o s => by kernel_rfl⟩
instance ild110 : LdOk Q 110 := ⟨fun b o s G => (show _ = loadOne b o G by kernel_rfl).trans (loadOne_eq b o G)⟩
instance ifa112_1 : FaOk Q 112 1 1 := ⟨fun b o s => by kernel_rfl⟩
instance ild108 : LdOk Q 108 := ⟨fun b o s G => (show _ = loadOne b o G by kernel_rfl).trans (loadOne_eq b o G)⟩
abbrev z332 : List Value := [.nilFunc]
instance ial332 : AlOk Q 332 z332 := ⟨fun G => by kernel_rfl⟩
instance ist332 : StOk Q 332 1 := ⟨fun b o s v G => by kernel_rfl⟩
instance ild332 : LdOk Q 332 := ⟨fun b o s G => (show _ = loadOne b o G by kernel_rfl).trans (loadOne_eq b o G)⟩
instance ifa119_0 : FaOk Q 119 0 0 := ⟨fun b o s => by kernel_rfl⟩
instance ifa119_3 : FaOk Q 119 3 3 := ⟨fun b o s => by kernel_rfl⟩
instance ild117 : LdOk Q 117 := ⟨fun b o s G => (show _ = loadOne b o G by kernel_rfl).trans (loadOne_eq b o G)⟩
instance ifa119_1 : FaOk Q 119 1 1 := ⟨fun b o s => by kernel_rfl⟩
instance ild115 : LdOk Q 115 := ⟨fun b o s G => (show _ = loadOne b o G by kernel_rfl).trans (loadOne_eq b o G)⟩
instance iix276 : IxOk Q 276 16 := ⟨fun l k j => by kernel_rfl⟩
instance iiaa354 : IaaOk Q 354 64 1 := ⟨fun b o s k j => by kernel_rfl⟩
instance ild5 : LdOk Q 5 := ⟨fun b o s G => (show _ = loadOne b o G by kernel_rfl).trans (loadOne_eq b o G)⟩
instance icv5_3 : CvOk Q 5 3 .u8 .i64 := ⟨fun n => by kernel_rfl⟩
instance ifa218_1 : FaOk Q 218 1 7 := ⟨fun b o s => by kernel_rfl⟩
instance ibd223_0_1_2 : BdOk Q 223 z223 [(0, 0, 1), (1, 1, 1), (2, 2, 1)] := bd_ok Q (by kernel_rfl) (by kernel_rfl) (by kernel_rfl)
instance ifd225_4 : FdOk Q 225 4 4 := ⟨fun l => by kernel_rfl⟩
instance icv3_216 : CvOk Q 3 216 .i64 .u64 := ⟨fun n => by kernel_rfl⟩
instance ifa223_2 : FaOk Q 223 2 2 := ⟨fun b o s => by kernel_rfl⟩
/-- coxswain/coxswainlaw14.RingQueue -/
def s6 (q : Bool) (e : Ex) (v0 v1 : Value) (G : GS) : OG :=
  bS (e.ev.cl 24 [] G) fun x0 G1 =>
  bP (ln Q q 35 v1) fun x2 =>
  bP (bn Q q .gtr 3 (.tmp 12) (.const (.int .i64 60)) x2 (.int .i64 60)) fun x3 =>
  ifV x3 (
  some (x0, G1)) (
  bS (e.ev.cl 19 [v0, (.int .i64 4)] G1) fun x4 G5 =>
  bP (bn Q q .add 3 (.const (.int .i64 1)) (.tmp 16) (.int .i64 1) x4) fun x6 =>
  bS (e.ev.cl 25 [x6] G5) fun x7 G8 =>
  bP (ep Q q false 53 (.tmp 19) (.const (.pointer none)) x7 (.pointer none)) fun x9 =>
  bS (gV x9 false x7 G8) fun x10 G11 =>
  bS (gV x9 false v1 G11) fun x12 G13 =>
  bS (gS x9 false (e.ev.cl 26 [x10, x12] G13) G13) fun x14 G15 =>
  bS (gP x9 false (un Q q .not x14) G15) fun x16 G17 =>
  bP (pickV x9 (.bool true) x16) fun x18 =>
  ifV x18 (
  some ((.bool false), G17)) (
  nl q 64 11 14 38 x7 G17 fun x21 =>
  bP (ln Q q 38 x21) fun x22 =>
  bP (bn Q q .gtr 3 (.tmp 31) (.const (.int .i64 8)) x22 (.int .i64 8)) fun x23 =>
  ifV x23 (
  some (x0, G17)) (
  nf q 64 0 0 x7 fun x25 =>
  fl q 57 3 3 3 x25 (G17.room 17) fun x27 =>
  nl q 64 11 14 38 x7 (G17.room 17) fun x30 =>
  bS (e.ev.cl 14 [(.int .i64 1), x27, x30] (G17.room 17)) fun x32 G31 =>
  bP (pExtract x32 0) fun x33 =>
  bP (pExtract x32 1) fun x34 =>
  bP (pExtract x32 2) fun x35 =>
  bS (gV x0 true x34 G31) fun x36 G37 =>
  bP (pickV x0 x36 (.bool false)) fun x38 =>
  bS (gV x38 true x35 G37) fun x39 G40 =>
  bS (gP x38 true (bn Q q .eql 25 (.tmp 53) (.const (.int .i64 0)) x39 (.int .i64 0)) G40) fun x41 G42 =>
  bP (pickV x38 x41 (.bool false)) fun x43 =>
  some (x43, G42))))
theorem f6 (h : ExLe Q e (E orc)) (v0 v1 : Value) (G : GS) : Ref (s6 true e v0 v1 G) ((E orc).cl 6 [v0, v1] G) := cS (S := fun q e => s6 q e v0 v1 G) Tryz.func6 (by unfold s6; exact Ref.gq)
def jb14_0 (q : Bool) (e : Ex) (τ : Env) (G : GS) : OG :=
  bV q (τ 10) fun a10_ =>
  bV q (τ 11) fun a11_ =>
  some (.tuple #[a10_, a11_, (.int .i64 0)], G)
def j14_0 (q : Bool) (e : Ex) (τ : Env) (G : GS) : OG := jb14_0 q e τ G
theorem mj14_0 {e : Ex} {E : Ev} (h : ExLe Q e E) (τ : Env) (G : GS) : Ref (j14_0 true e τ G) (j14_0 false (Ex.of E) τ G) := by
  unfold j14_0 jb14_0
  exact Ref.gq
theorem mkj14_0 {e : Ex} {E : Ev} (h : ExLe Q e E) {τ : Env} {l U : List (Nat × Value)} {G : GS} (hU : UOk τ U) : Ref (j14_0 true e (xq true 46 τ l U) G) (j14_0 false (Ex.of E) (xq false 46 τ l U) G) := by
  rw [xq_eq hU]
  exact mj14_0 h _ _
def sb14 (q : Bool) (e : Ex) (J0 : Env → GS → OG) (v0 v1 v2 : Value) (G : GS) : OG :=
  bS (e.ev.cl 39 [v0, v1, v2] G) fun x0 G1 =>
  bP (bn Q q .neq 25 (.tmp 16) (.const (.int .i64 0)) x0 (.int .i64 0)) fun x2 =>
  ifV x2 (
  some (.tuple #[(.slice none 0 0), (.bool false), x0], G1)) (
  bP (bn Q q .eql 3 (.tmp 19) (.const (.int .i64 1)) v0 (.int .i64 1)) fun x3 =>
  ifV x3 (
  bS (e.ev.cl 41 [v1] G1) fun x4 G5 =>
  bS (e.ev.cl 40 [x4, v2] G5) fun x6 G7 =>
  bP (pExtract x6 0) fun x8 =>
  bP (pExtract x6 1) fun x9 =>
  J0 (xq q 46 (nth undef [v0, v1, v2]) [(11, x9), (10, x8), (35, x9), (34, x8), (29, x6), (33, x6), (32, v2), (31, x4), (30, v1), (27, x3), (28, x3), (19, v0), (11, (.bool false)), (10, (.slice none 0 0)), (17, x2), (16, x0), (9, x0), (15, x0), (14, v2), (13, v1), (12, v0), (8, (.int .i64 0)), (7, (.bool false)), (6, (.slice none 0 0))] []) G7) (
  bP (bn Q q .eql 3 (.tmp 19) (.const (.int .i64 2)) v0 (.int .i64 2)) fun x10 =>
  ifV x10 (
  bS (e.ev.cl 43 [] G1) fun x11 G12 =>
  bS (e.ev.cl 42 [x11, v2] G12) fun x13 G14 =>
  bP (pExtract x13 0) fun x15 =>
  bP (pExtract x13 1) fun x16 =>
  J0 (xq q 46 (nth undef [v0, v1, v2]) [(11, x16), (10, x15), (43, x16), (42, x15), (38, x13), (41, x13), (40, v2), (39, x11), (36, x10), (37, x10), (27, x3), (28, x3), (19, v0), (11, (.bool false)), (10, (.slice none 0 0)), (17, x2), (16, x0), (9, x0), (15, x0), (14, v2), (13, v1), (12, v0), (8, (.int .i64 0)), (7, (.bool false)), (6, (.slice none 0 0))] []) G14) (
  bS (e.ev.cl 45 [v1] G1) fun x17 G18 =>
  bS (e.ev.cl 44 [x17, v2] G18) fun x19 G20 =>
  bP (pExtract x19 0) fun x21 =>
  bP (pExtract x19 1) fun x22 =>
  J0 (xq q 46 (nth undef [v0, v1, v2]) [(11, x22), (10, x21), (26, x22), (25, x21), (20, x19), (24, x19), (23, v2), (22, x17), (21, v1), (36, x10), (37, x10), (27, x3), (28, x3), (19, v0), (11, (.bool false)), (10, (.slice none 0 0)), (17, x2), (16, x0), (9, x0), (15, x0), (14, v2), (13, v1), (12, v0), (8, (.int .i64 0)), (7, (.bool false)), (6, (.slice none 0 0))] []) G20)))
/-- coxswain/linear.Order -/
def s14 (q : Bool) (e : Ex) (v0 v1 v2 : Value) (G : GS) : OG := sb14 q e (j14_0 q e) v0 v1 v2 G
theorem m14 {e : Ex} {E : Ev} (h : ExLe Q e E) (v0 v1 v2 : Value) (G : GS) : Ref (s14 true e v0 v1 v2 G) (s14 false (Ex.of E) v0 v1 v2 G) := by
  unfold s14 sb14
  have j0 := @mkj14_0 e E h
  exact Ref.gj
def jt14 (J0 : Env → GS → OG) : JT (Value × GS) :=
  (.n none .e (.n none .e (.n none .e (.n none .e (.n (some (fun T G => J0 (nth undef T) G)) .e .e)))))
theorem jr14_0 (orc : FuncId → Bool) (J0 : Env → GS → OG) (T : List Value) (G : GS) : runC Q (evL Q orc) Tryz.f14.ntmps (jt14 J0) (bodyOf Tryz.f14) (retE Q Tryz.f14.results.toList) [true, true, true, true] (nth undef T) G = jb14_0 false (Ex.of (E orc))  (nth undef T) G := by kernel_rfl
theorem jo14 (orc : FuncId → Bool) : JOk Q orc Tryz.f14.ntmps (jt14 (j14_0 false (Ex.of (E orc))) ) (bodyOf Tryz.f14) (retE Q Tryz.f14.results.toList) :=
  jOk Q orc (l := [([true, true, true, true], (fun T G => j14_0 false (Ex.of (E orc)) (nth undef T) G))]) (by kernel_rfl) (AllE.c (fun T G => jr14_0 orc (j14_0 false (Ex.of (E orc))) T G) (AllE.z))
theorem je14 (orc : FuncId → Bool) (J0 : Env → GS → OG) (v0 v1 v2 : Value) (G : GS) : sxC Q (evL Q orc) Tryz.f14.ntmps (jt14 J0) (bodyOf Tryz.f14) (nth undef [v0, v1, v2]) G (retE Q Tryz.f14.results.toList) = sb14 false (Ex.of (E orc)) J0 v0 v1 v2 G := by kernel_rfl
theorem f14 {orc : FuncId → Bool} {e : Ex} (h : ExLe Q e (E orc)) (v0 v1 v2 : Value) (G : GS) : Ref (s14 true e v0 v1 v2 G) ((E orc).cl 14 [v0, v1, v2] G) :=
  fun r hr => cl_sxC Q orc (vs := [v0, v1, v2]) G (jt14 (j14_0 false (Ex.of (E orc))) ) Tryz.func14 (by kernel_rfl) (by kernel_rfl) (by kernel_rfl) (by kernel_rfl) (by kernel_rfl) (jo14 orc) (je14 orc (j14_0 false (Ex.of (E orc))) v0 v1 v2 G) (m14 h v0 v1 v2 G r hr)
/-- coxswain/coxswainkit.Pick -/
def s19 (q : Bool) (e : Ex) (v0 v1 : Value) (G : GS) : OG :=
  bP (bn Q q .leq 3 (.tmp 5) (.const (.int .i64 0)) v1 (.int .i64 0)) fun x0 =>
  ifV x0 (
  some ((.int .i64 0), G)) (
  bP (bn Q q .rem 3 (.tmp 7) (.tmp 8) v0 v1) fun x1 =>
  bP (bn Q q .lss 3 (.tmp 10) (.const (.int .i64 0)) x1 (.int .i64 0)) fun x2 =>
  ifV x2 (
  bP (bn Q q .add 3 (.tmp 12) (.tmp 13) x1 v1) fun x3 =>
  some (x3, G)) (
  some (x1, G)))
theorem f19 (h : ExLe Q e (E orc)) (v0 v1 : Value) (G : GS) : Ref (s19 true e v0 v1 G) ((E orc).cl 19 [v0, v1] G) := cS (S := fun q e => s19 q e v0 v1 G) Tryz.func19 (by unfold s19; exact Ref.gq)
/-- coxswain/event.Ahead -/
def s21 (q : Bool) (e : Ex) (v0 v1 : Value) (G : GS) : OG :=
  bS (bx q v0 G) fun x0 G1 =>
  bS (bx q v1 G1) fun x2 G3 =>
  fl q 29 2 2 3 x0 G3 fun x5 =>
  bP (bn Q q .geq 3 (.tmp 6) (.const (.int .i64 0)) x5 (.int .i64 0)) fun x6 =>
  bS (gP x6 true (fa Q q 29 2 2 x0) G3) fun x7 G8 =>
  bS (gP x6 true (ld Q q 3 x7 G8) G8) fun x9 G10 =>
  bS (gP x6 true (fa Q q 29 1 1 x2) G10) fun x11 G12 =>
  bS (gP x6 true (ld Q q 3 x11 G12) G12) fun x13 G14 =>
  bS (gP x6 true (bn Q q .lss 3 (.tmp 10) (.tmp 12) x9 x13) G14) fun x15 G16 =>
  bP (pickV x6 x15 (.bool false)) fun x17 =>
  some (x17, G16)
theorem f21 (h : ExLe Q e (E orc)) (v0 v1 : Value) (G : GS) : Ref (s21 true e v0 v1 G) ((E orc).cl 21 [v0, v1] G) := cS (S := fun q e => s21 q e v0 v1 G) Tryz.func21 (by unfold s21; exact Ref.gq)
/-- coxswain/coxswainlaw14.begun -/
def s25 (q : Bool) (e : Ex) (v0 : Value) (G : GS) : OG :=
  bP (bd Q q 57 z57 [(0, 0, 1), (1, 1, 1), (2, 2, 1), (3, 3, 1)] [(.int .i64 0), (.int .i64 1), (.int .i64 2), v0]) fun x0 =>
  bS (al Q q 57 z57 G) fun x1 G2 =>
  bP (st Q q 57 4 x1 x0 G2) fun G3 =>
  bP (bn Q q .add 3 (.const (.int .i64 2)) (.tmp 9) (.int .i64 2) v0) fun x4 =>
  bS (e.ev.cl 70 [x4] G3) fun x5 G6 =>
  bP (pExtract x5 0) fun x7 =>
  bP (pExtract x5 1) fun x8 =>
  bP (bn Q q .neq 25 (.tmp 14) (.const (.int .i64 0)) x8 (.int .i64 0)) fun x9 =>
  bS (gV x9 false x7 G6) fun x10 G11 =>
  bS (gP x9 false (ep Q q false 58 (.tmp 17) (.const (.pointer none)) x10 (.pointer none)) G11) fun x12 G13 =>
  bP (pickV x9 (.bool true) x12) fun x14 =>
  ifV x14 (
  some ((.pointer none), G13)) (
  bP (lda Q q 57 4 x1 G13) fun x15 =>
  bS (e.ev.cl 71 [x15, x7] G13) fun x16 G17 =>
  bP (lda Q q 57 4 x1 (G17.room 9)) fun x18 =>
  bS (mk Q q 59 1 8 z133 (.int .i64 2) (.int .i64 2) ((G17.room 9).at' (G17.nx + 2))) fun x19 G20 =>
  bS (mk Q q 35 1 8 z3 (.int .i64 2) (.int .i64 2) ((G20.back (G17.room 9)).at' (G17.nx + 3))) fun x21 G22 =>
  bS (mk Q q 62 1 8 z25 (.int .i64 2) (.int .i64 2) ((G22.back (G20.back (G17.room 9))).at' (G17.nx + 4))) fun x23 G24 =>
  bS (bs Q q 35 3 (rep z3 3) 1 [(0, 0, 1), (1, 1, 1), (2, 2, 1)] [(.int .i64 (-1)), (.int .i64 (-1)), (.int .i64 (-1))] ((G24.back (G22.back (G20.back (G17.room 9)))).at' (G17.nx + 5))) fun x25 G26 =>
  bP (bd Q q 64 z64 [(0, 0, 4), (1, 4, 1), (2, 5, 1), (3, 6, 1), (8, 11, 1), (12, 15, 1)] [x18, x7, x19, x21, x23, x25]) fun x27 =>
  bS (bx q x27 ((G26.back (G24.back (G22.back (G20.back (G17.room 9))))).at' (G17.nx + 7))) fun x28 G29 =>
  some (x28, (G29.back (G26.back (G24.back (G22.back (G20.back (G17.room 9))))))))
theorem f25 (h : ExLe Q e (E orc)) (v0 : Value) (G : GS) : Ref (s25 true e v0 G) ((E orc).cl 25 [v0] G) := cS (S := fun q e => s25 q e v0 G) Tryz.func25 (by unfold s25; exact Ref.gq)
def jbl26_0_0 (q : Bool) (e : Ex) (lp : LpF) (τ : Env) (G : GS) : OL :=
  bV q (τ 0) fun a0_ =>
  bV q (τ 1) fun a1_ =>
  bV q (τ 5) fun a5_ =>
  bV q (τ 6) fun a6_ =>
  bS (e.ev.cl 74 [a0_, a6_] G) fun x6 G7 =>
  bP (un Q q .not x6) fun x8 =>
  ifV x8 (
  some (.ret, xq q 59 τ [(4, (.bool false)), (30, x8), (29, x6), (28, a6_), (27, a0_)] [(0, a0_), (1, a1_), (5, a5_), (6, a6_)], G7)) (
  bP (bn Q q .add 3 (.tmp 13) (.const (.int .i64 1)) a5_ (.int .i64 1)) fun x9 =>
  lp (xq q 59 τ [(5, x9), (14, x9), (13, a5_), (30, x8), (29, x6), (28, a6_), (27, a0_)] [(0, a0_), (1, a1_), (6, a6_)]) G7)
def jl26_0_0 (q : Bool) (e : Ex) (lp : LpF) (τ : Env) (G : GS) : OL := jbl26_0_0 q e lp τ G
theorem mjl26_0_0 {e : Ex} {E : Ev} (h : ExLe Q e E) {lp lp' : LpF} (hlp : LpLe lp lp') (τ : Env) (G : GS) : Ref (jl26_0_0 true e lp τ G) (jl26_0_0 false (Ex.of E) lp' τ G) := by
  unfold jl26_0_0 jbl26_0_0
  exact Ref.gq
theorem mkjl26_0_0 {e : Ex} {E : Ev} (h : ExLe Q e E) {lp lp' : LpF} (hlp : LpLe lp lp') {τ : Env} {l U : List (Nat × Value)} {G : GS} (hU : UOk τ U) : Ref (jl26_0_0 true e lp (xq true 59 τ l U) G) (jl26_0_0 false (Ex.of E) lp' (xq false 59 τ l U) G) := by
  rw [xq_eq hU]
  exact mjl26_0_0 h hlp _ _
def bb26_0 (q : Bool) (e : Ex) (lp : LpF) (J0 : LpF) (τ : Env) (G : GS) : OL :=
  bV q (τ 0) fun a0_ =>
  bV q (τ 1) fun a1_ =>
  bV q (τ 5) fun a5_ =>
  bV q (τ 6) fun a6_ =>
  bP (ln Q q 35 a1_) fun x0 =>
  bP (bn Q q .lss 3 (.tmp 9) (.tmp 11) a5_ x0) fun x1 =>
  ifV x1 (
  bP (ias Q q 35 1 a1_ a5_) fun x2 =>
  bP (ld Q q 3 x2 G) fun x3 =>
  bS (e.ev.cl 19 [x3, (.int .i64 3)] G) fun x4 G5 =>
  bS (e.ev.cl 72 [a0_, x4] G5) fun x10 G11 =>
  bP (un Q q .not x10) fun x12 =>
  ifV x12 (
  bS (e.ev.cl 73 [a0_, x4] G11) fun x13 G14 =>
  J0 (xq q 59 τ [(26, x13), (25, x4), (24, a0_), (23, x12), (22, x10), (21, x4), (20, a0_), (6, x4), (19, x4), (18, x3), (17, x2), (16, a5_), (15, a1_), (12, x1), (11, x0), (10, a1_), (9, a5_)] [(0, a0_), (1, a1_), (5, a5_)]) G14) (
  J0 (xq q 59 τ [(23, x12), (22, x10), (21, x4), (20, a0_), (6, x4), (19, x4), (18, x3), (17, x2), (16, a5_), (15, a1_), (12, x1), (11, x0), (10, a1_), (9, a5_)] [(0, a0_), (1, a1_), (5, a5_)]) G11)) (
  some ((.exit 0), xq q 59 τ [(12, x1), (11, x0), (10, a1_), (9, a5_)] [(0, a0_), (1, a1_), (5, a5_), (6, a6_)], G))
def b26_0 (q : Bool) (e : Ex) (lp : LpF) (τ : Env) (G : GS) : OL := bb26_0 q e lp (jl26_0_0 q e lp) τ G
theorem mb26_0 {e : Ex} {E : Ev} (h : ExLe Q e E) {lp lp' : LpF} (hlp : LpLe lp lp') (τ : Env) (G : GS) : Ref (b26_0 true e lp τ G) (b26_0 false (Ex.of E) lp' τ G) := by
  unfold b26_0 bb26_0
  have j0 := @mkjl26_0_0 e E h lp lp' hlp
  exact Ref.gj
def jtl26_0 (J0 : LpF) : JT (Exit × Env × GS) :=
  (.n none .e (.n none (.n none (.n none .e (.n (some (fun T G => J0 (nth undef T) G)) .e .e)) .e) .e))
theorem jrl26_0_0 (orc : FuncId → Bool) (J0 : LpF) (T : List Value) (G : GS) : runC Q (evL Q orc) 59 (jtl26_0 J0) (subAt [1, 0, 1, 0, 0] (bodyOf Tryz.f26)) (seqXE (fun τ G' => mapE ((E orc).lp (subAt [1, 0, 1, 0, 0] (bodyOf Tryz.f26)) (lst 59 (nth undef (lst 59 τ))) G')) fun e τ G' => some (e, nth undef (lst 59 τ), G')) [true, false, false, true] (nth undef T) G = jbl26_0_0 false (Ex.of (E orc)) (fun τ G => mapE ((E orc).lp (subAt [1, 0, 1, 0, 0] (bodyOf Tryz.f26)) (lst 59 τ) G))  (nth undef T) G := by kernel_rfl
theorem jol26_0 (orc : FuncId → Bool) : JOk Q orc 59 (jtl26_0 (jl26_0_0 false (Ex.of (E orc)) (fun τ G => mapE ((E orc).lp (subAt [1, 0, 1, 0, 0] (bodyOf Tryz.f26)) (lst 59 τ) G))) ) (subAt [1, 0, 1, 0, 0] (bodyOf Tryz.f26)) (seqXE (fun τ G' => mapE ((E orc).lp (subAt [1, 0, 1, 0, 0] (bodyOf Tryz.f26)) (lst 59 (nth undef (lst 59 τ))) G')) fun e τ G' => some (e, nth undef (lst 59 τ), G')) :=
  jOk Q orc (l := [([true, false, false, true], (fun T G => jl26_0_0 false (Ex.of (E orc)) (fun τ G => mapE ((E orc).lp (subAt [1, 0, 1, 0, 0] (bodyOf Tryz.f26)) (lst 59 τ) G)) (nth undef T) G))]) (by kernel_rfl) (AllE.c (fun T G => jrl26_0_0 orc (jl26_0_0 false (Ex.of (E orc)) (fun τ G => mapE ((E orc).lp (subAt [1, 0, 1, 0, 0] (bodyOf Tryz.f26)) (lst 59 τ) G))) T G) (AllE.z))
theorem jel26_0 (orc : FuncId → Bool) (J0 : LpF) (T : List Value) (G : GS) : sxC Q (evL Q orc) 59 (jtl26_0 J0) (subAt [1, 0, 1, 0, 0] (bodyOf Tryz.f26)) (nth undef T) G (seqXE (fun τ G' => mapE ((E orc).lp (subAt [1, 0, 1, 0, 0] (bodyOf Tryz.f26)) (lst 59 (nth undef (lst 59 τ))) G')) fun e τ G' => some (e, nth undef (lst 59 τ), G')) = bb26_0 false (Ex.of (E orc)) (fun τ G => mapE ((E orc).lp (subAt [1, 0, 1, 0, 0] (bodyOf Tryz.f26)) (lst 59 τ) G)) J0 (nth undef T) G := by kernel_rfl
theorem l26_0 {orc : FuncId → Bool} {e : Ex} (h : ExLe Q e (E orc)) (lp : LpF) (hlp : ∀ τ G, Ref (lp τ G) (mapE ((E orc).lp (subAt [1, 0, 1, 0, 0] (bodyOf Tryz.f26)) (lst 59 τ) G))) (T : List Value) (G : GS) (hT : T.length = 59) : Ref (b26_0 true e lp (nth undef T) G) (mapE ((E orc).lp (subAt [1, 0, 1, 0, 0] (bodyOf Tryz.f26)) T G)) :=
  fun r hr => lp_sxC Q orc G (jtl26_0 (jl26_0_0 false (Ex.of (E orc)) (fun τ G => mapE ((E orc).lp (subAt [1, 0, 1, 0, 0] (bodyOf Tryz.f26)) (lst 59 τ) G))) ) hT (jol26_0 orc) (jel26_0 orc (jl26_0_0 false (Ex.of (E orc)) (fun τ G => mapE ((E orc).lp (subAt [1, 0, 1, 0, 0] (bodyOf Tryz.f26)) (lst 59 τ) G))) T G) (mb26_0 h ⟨hlp⟩ _ _ r hr)
def b26_1 (q : Bool) (e : Ex) (lp : LpF) (τ : Env) (G : GS) : OL :=
  bV q (τ 7) fun a7_ =>
  bP (bn Q q .geq 3 (.tmp 31) (.const (.int .i64 0)) a7_ (.int .i64 0)) fun x0 =>
  ifV x0 (
  bLq q e 26 2 (subAt [1, 1, 0, 1, 0, 0, 1, 0, 0, 0, 1, 0, 0] (bodyOf Tryz.f26)) 59 τ [(8, (.int .i64 0)), (32, x0), (31, a7_)] [] G fun e1 t2 G3 =>
  bV q (t2 0) fun t2x0_ =>
  bV q (t2 7) fun t2x7_ =>
  ifE e1 (.exit 4) (
  bS (e.ev.cl 72 [t2x0_, t2x7_] G3) fun x4 G5 =>
  ifV x4 (
  some (.ret, xq q 59 t2 [(4, (.bool false)), (58, x4), (57, t2x7_), (56, t2x0_)] [(7, t2x7_)], G5)) (
  bP (bn Q q .sub 3 (.tmp 33) (.const (.int .i64 1)) t2x7_ (.int .i64 1)) fun x6 =>
  lp (xq q 59 t2 [(7, x6), (34, x6), (33, t2x7_), (58, x4), (57, t2x7_), (56, t2x0_)] []) G5)) (ifE e1 .ret (
  some (.ret, xq q 59 t2 [] [(7, t2x7_)], G3)) (none))) (
  some ((.exit 2), xq q 59 τ [(32, x0), (31, a7_)] [(7, a7_)], G))
theorem l26_1 (h : ExLe Q e (E orc)) : LT orc 59 (subAt [1, 1, 0, 1, 0, 0] (bodyOf Tryz.f26)) (b26_1 true e) := cL fun hlp τ G => by unfold b26_1; exact Ref.gq
def b26_2 (q : Bool) (e : Ex) (lp : LpF) (τ : Env) (G : GS) : OL :=
  bV q (τ 0) fun a0_ =>
  bV q (τ 7) fun a7_ =>
  bV q (τ 8) fun a8_ =>
  bP (bn Q q .lss 3 (.tmp 35) (.const (.int .i64 9)) a8_ (.int .i64 9)) fun x0 =>
  bS (gV x0 true a0_ G) fun x1 G2 =>
  bS (gV x0 true a7_ G2) fun x3 G4 =>
  bS (gS x0 true (e.ev.cl 72 [x1, x3] G4) G4) fun x5 G6 =>
  bP (pickV x0 x5 (.bool false)) fun x7 =>
  ifV x7 (
  bP (bn Q q .eql 3 (.tmp 44) (.const (.int .i64 2)) a7_ (.int .i64 2)) fun x8 =>
  bS (gV x8 true a8_ G6) fun x9 G10 =>
  bS (gP x8 true (bn Q q .eql 3 (.tmp 47) (.const (.int .i64 2)) x9 (.int .i64 2)) G10) fun x11 G12 =>
  bP (pickV x8 x11 (.bool false)) fun x13 =>
  bS (gV x13 false a0_ G12) fun x14 G15 =>
  bS (gV x13 false a7_ G15) fun x16 G17 =>
  bS (gS x13 false (e.ev.cl 74 [x14, x16] G17) G17) fun x18 G19 =>
  bS (gP x13 false (un Q q .not x18) G19) fun x20 G21 =>
  bP (pickV x13 (.bool true) x20) fun x22 =>
  ifV x22 (
  some (.ret, xq q 59 τ [(4, (.bool false)), (55, x22), (54, x20), (53, x18), (52, x16), (51, x14), (50, x13), (49, x13), (48, x11), (47, x9), (46, x8), (45, x8), (44, a7_), (41, x7), (40, x5), (39, x3), (38, x1), (37, x0), (36, x0), (35, a8_)] [(0, a0_), (7, a7_), (8, a8_)], G21)) (
  bP (bn Q q .add 3 (.tmp 42) (.const (.int .i64 1)) a8_ (.int .i64 1)) fun x23 =>
  lp (xq q 59 τ [(8, x23), (43, x23), (42, a8_), (55, x22), (54, x20), (53, x18), (52, x16), (51, x14), (50, x13), (49, x13), (48, x11), (47, x9), (46, x8), (45, x8), (44, a7_), (41, x7), (40, x5), (39, x3), (38, x1), (37, x0), (36, x0), (35, a8_)] [(0, a0_), (7, a7_)]) G21)) (
  some ((.exit 4), xq q 59 τ [(41, x7), (40, x5), (39, x3), (38, x1), (37, x0), (36, x0), (35, a8_)] [(0, a0_), (7, a7_), (8, a8_)], G6))
theorem l26_2 (h : ExLe Q e (E orc)) : LT orc 59 (subAt [1, 1, 0, 1, 0, 0, 1, 0, 0, 0, 1, 0, 0] (bodyOf Tryz.f26)) (b26_2 true e) := cL fun hlp τ G => by unfold b26_2; exact Ref.gq
/-- (*coxswain/coxswainlaw14.crew).plays -/
def s26 (q : Bool) (e : Ex) (v0 v1 : Value) (G : GS) : OG :=
  bLq q e 26 0 (subAt [1, 0, 1, 0, 0] (bodyOf Tryz.f26)) 59 (nth undef [v0, v1]) [(5, (.int .i64 0)), (4, (.bool false))] [] G fun e0 t1 G2 =>
  bV q (t1 4) fun t1x4_ =>
  ifE e0 (.exit 0) (
  bLq q e 26 1 (subAt [1, 1, 0, 1, 0, 0] (bodyOf Tryz.f26)) 59 t1 [(7, (.int .i64 2))] [] G2 fun e3 t4 G5 =>
  bV q (t4 4) fun t4x4_ =>
  ifE e3 (.exit 2) (
  some ((.bool true), G5)) (ifE e3 .ret (
  some (t4x4_, G5)) (none))) (ifE e0 .ret (
  some (t1x4_, G2)) (none))
theorem f26 (h : ExLe Q e (E orc)) (v0 v1 : Value) (G : GS) : Ref (s26 true e v0 v1 G) ((E orc).cl 26 [v0, v1] G) := cS (S := fun q e => s26 q e v0 v1 G) Tryz.func26 (by unfold s26; exact Ref.gq)
def b39_0 (q : Bool) (e : Ex) (lp : LpF) (τ : Env) (G : GS) : OL :=
  bV q (τ 7) fun a7_ =>
  bV q (τ 40) fun a40_ =>
  bV q (τ 41) fun a41_ =>
  bV q (τ 42) fun a42_ =>
  bP (bn Q q .lss 3 (.tmp 42) (.tmp 41) a42_ a41_) fun x0 =>
  ifV x0 (
  bP (ias Q q 38 10 a40_ a42_) fun x1 =>
  bP (lda Q q 29 10 x1 G) fun x2 =>
  bS (al Q q 29 z29 G) fun x3 G4 =>
  bP (st Q q 29 10 x3 x2 G4) fun G5 =>
  bP (fa Q q 29 0 0 x3) fun x6 =>
  bP (ld Q q 3 x6 G5) fun x7 =>
  bP (gLookup Q 175 a7_ x7 true G5) fun x8 =>
  bP (pExtract x8 0) fun x9 =>
  bP (pExtract x8 1) fun x10 =>
  ifV x10 (
  some (.ret, xq q 60 τ [(6, (.int .i64 8)), (54, x10), (11, x10), (10, x9), (53, x10), (52, x9), (47, x8), (51, x8), (50, x7), (49, x6), (48, a7_), (8, a42_), (9, x3), (46, x2), (45, x1), (44, a42_), (43, x0)] [(7, a7_), (40, a40_), (41, a41_), (42, a42_)], G5)) (
  bP (fa Q q 29 0 0 x3) fun x11 =>
  bP (ld Q q 3 x11 G5) fun x12 =>
  bP (gMapPut Q 175 a7_ x12 a42_ G5) fun G13 =>
  bP (bn Q q .add 3 (.tmp 42) (.const (.int .i64 1)) a42_ (.int .i64 1)) fun x14 =>
  lp (xq q 60 τ [(42, x14), (59, x14), (58, a42_), (57, x12), (56, x11), (55, a7_), (54, x10), (11, x10), (10, x9), (53, x10), (52, x9), (47, x8), (51, x8), (50, x7), (49, x6), (48, a7_), (8, a42_), (9, x3), (46, x2), (45, x1), (44, a42_), (43, x0)] [(7, a7_), (40, a40_), (41, a41_)]) G13)) (
  some ((.exit 1), xq q 60 τ [(43, x0)] [(7, a7_), (40, a40_), (41, a41_), (42, a42_)], G))
theorem l39_0 (h : ExLe Q e (E orc)) : LT orc 60 (subAt [1, 1, 1, 0, 1, 0, 0] (bodyOf Tryz.f39)) (b39_0 true e) := cL fun hlp τ G => by unfold b39_0; exact Ref.gq
/-- coxswain/linear.may -/
def s39 (q : Bool) (e : Ex) (v0 v1 v2 : Value) (G : GS) : OG :=
  bP (bn Q q .lss 3 (.tmp 13) (.const (.int .i64 1)) v0 (.int .i64 1)) fun x0 =>
  bS (gV x0 false v0 G) fun x1 G2 =>
  bS (gP x0 false (bn Q q .gtr 3 (.tmp 16) (.const (.int .i64 3)) x1 (.int .i64 3)) G2) fun x3 G4 =>
  bP (pickV x0 (.bool true) x3) fun x5 =>
  ifV x5 (
  some ((.int .i64 2), G4)) (
  bP (bn Q q .lss 3 (.tmp 20) (.const (.int .i64 1)) v1 (.int .i64 1)) fun x6 =>
  bS (gV x6 false v1 G4) fun x7 G8 =>
  bS (gP x6 false (bn Q q .gtr 3 (.tmp 23) (.const (.int .i64 64)) x7 (.int .i64 64)) G8) fun x9 G10 =>
  bP (pickV x6 (.bool true) x9) fun x11 =>
  ifV x11 (
  some ((.int .i64 3), G10)) (
  bP (ln Q q 38 v2) fun x12 =>
  bP (bn Q q .gtr 3 (.tmp 28) (.const (.int .i64 10)) x12 (.int .i64 10)) fun x13 =>
  bS (gV x13 false v0 G10) fun x14 G15 =>
  bS (gP x13 false (bn Q q .eql 3 (.tmp 31) (.const (.int .i64 3)) x14 (.int .i64 3)) G15) fun x16 G17 =>
  bS (gV x13 false x16 G17) fun x18 G19 =>
  bS (gV x18 true v2 G19) fun x20 G21 =>
  bS (gS x18 true (e.ev.cl 99 [x20] G21) G21) fun x22 G23 =>
  bS (gP x18 true (bn Q q .gtr 3 (.tmp 35) (.const (.int .i64 2)) x22 (.int .i64 2)) G23) fun x24 G25 =>
  bS (gP x13 false (pickV x18 x24 (.bool false)) G25) fun x26 G27 =>
  bP (pickV x13 (.bool true) x26) fun x28 =>
  ifV x28 (
  some ((.int .i64 4), G27)) (
  bS (nm G27) fun x29 G30 =>
  bP (ln Q q 38 v2) fun x31 =>
  bLq q e 39 0 (subAt [1, 1, 1, 0, 1, 0, 0] (bodyOf Tryz.f39)) 60 (nth undef [v0, v1, v2]) [(42, (.int .i64 0)), (41, x31), (40, v2), (7, x29), (39, x29), (26, x28), (38, x28), (37, x26), (36, x24), (35, x22), (34, x20), (33, x18), (32, x16), (31, x14), (30, x13), (29, x13), (28, x12), (27, v2), (19, x11), (25, x11), (24, x9), (23, x7), (22, x6), (21, x6), (20, v1), (12, x5), (18, x5), (17, x3), (16, x1), (15, x0), (14, x0), (13, v0), (6, (.int .i64 0))] [] G30 fun e32 t33 G34 =>
  bV q (t33 6) fun t33x6_ =>
  ifE e32 (.exit 1) (
  some ((.int .i64 0), G34)) (ifE e32 .ret (
  some (t33x6_, G34)) (none)))))
theorem f39 (h : ExLe Q e (E orc)) (v0 v1 v2 : Value) (G : GS) : Ref (s39 true e v0 v1 v2 G) ((E orc).cl 39 [v0, v1, v2] G) := cS (S := fun q e => s39 q e v0 v1 v2 G) Tryz.func39 (by unfold s39; exact Ref.gq)
def b40_0 (q : Bool) (e : Ex) (lp : LpF) (τ : Env) (G : GS) : OL :=
  bV q (τ 1) fun a1_ =>
  bV q (τ 8) fun a8_ =>
  bS (e.ev.cl 101 [a1_, a8_] G) fun x0 G1 =>
  bP (un Q q .not x0) fun x2 =>
  ifV x2 (
  bP (ln Q q 38 a1_) fun x3 =>
  bLq q e 40 1 (subAt [1, 1, 1, 0, 1, 0, 0, 1, 0, 1, 0, 0] (bodyOf Tryz.f40)) 56 τ [(22, (.int .i64 0)), (21, x3), (20, a1_), (19, x2), (18, x0), (17, a8_), (16, a1_)] [] G1 fun e4 t5 G6 =>
  bV q (t5 1) fun t5x1_ =>
  bV q (t5 8) fun t5x8_ =>
  ifE e4 (.exit 2) (
  lp (xq q 56 t5 [] [(1, t5x1_), (8, t5x8_)]) G6) (none)) (
  some ((.exit 0), xq q 56 τ [(19, x2), (18, x0), (17, a8_), (16, a1_)] [(1, a1_), (8, a8_)], G1))
theorem l40_0 (h : ExLe Q e (E orc)) : LT orc 56 (subAt [1, 1, 1, 0, 1, 0, 0] (bodyOf Tryz.f40)) (b40_0 true e) := cL fun hlp τ G => by unfold b40_0; exact Ref.gq
def b40_1 (q : Bool) (e : Ex) (lp : LpF) (τ : Env) (G : GS) : OL :=
  bV q (τ 1) fun a1_ =>
  bV q (τ 2) fun a2_ =>
  bV q (τ 6) fun a6_ =>
  bV q (τ 7) fun a7_ =>
  bV q (τ 8) fun a8_ =>
  bV q (τ 20) fun a20_ =>
  bV q (τ 21) fun a21_ =>
  bV q (τ 22) fun a22_ =>
  bP (bn Q q .lss 3 (.tmp 22) (.tmp 21) a22_ a21_) fun x0 =>
  ifV x0 (
  bP (ias Q q 38 10 a20_ a22_) fun x1 =>
  bP (lda Q q 29 10 x1 G) fun x2 =>
  bS (al Q q 29 z29 G) fun x3 G4 =>
  bP (st Q q 29 10 x3 x2 G4) fun G5 =>
  bS (e.ev.cl 102 [a1_, a8_, a22_] (G5.room 14)) fun x7 G6 =>
  bS (gP x7 true (lda Q q 104 4 a2_ G6) G6) fun x8 _ =>
  bS (gV x7 true a1_ G6) fun x9 _ =>
  bS (gV x7 true a6_ G6) fun x10 _ =>
  bS (gS x7 true (e.ev.cl 98 [x10] G6) G6) fun x12 G11 =>
  chk (((!(gB x7 true) || (!(gB x7 true) || sameO (lda Q q 104 4 a2_ G11) x8)) && true)) <|
  bS (gV x7 true a22_ G11) fun x13 _ =>
  bS (gd x7 true (bS (bs Q q 35 1 (rep z3 1) 1 [(0, 0, 1)] [x13] (G11.at' (G5.nx + 10))) fun y G' => some (y, (G'.back G11))) G11) fun x14 G15 =>
  bS (gS x7 true (ap Q q 35 35 1 8 x12 x14 G15) G15) fun x17 G16 =>
  chk (((!(gB x7 true) || (!(gB x7 true) || sameO (lda Q q 104 4 a2_ G16) x8)) && true)) <|
  bS (gS x7 true (e.ev.cl 100 [x8, x9, x17] G16) G16) fun x19 G18 =>
  bP (pickV x7 x19 (.bool false)) fun x20 =>
  ifV x20 (
  bS (bs Q q 35 1 (rep z3 1) 1 [(0, 0, 1)] [a22_] ((G18.room 16).at' (G18.nx + 2))) fun x21 G22 =>
  bS (ap Q q 35 35 1 8 a6_ x21 (G22.back (G18.room 16))) fun x24 G23 =>
  bP (fa Q q 29 0 0 x3) fun x25 =>
  bP (ld Q q 3 x25 G23) fun x26 =>
  chk ((sameO (ld Q q 3 x25 (G22.back (G18.room 16))) x26 && true)) <|
  bS (bs Q q 35 1 (rep z3 1) 1 [(0, 0, 1)] [x26] (G23.at' (G18.nx + 7))) fun x27 G28 =>
  bS (ap Q q 35 35 1 8 a7_ x27 (G28.back G23)) fun x30 G29 =>
  bP (bn Q q .shl 3 (.const (.int .i64 1)) (.tmp 51) (.int .i64 1) a22_) fun x31 =>
  bP (bn Q q .or 3 (.tmp 50) (.tmp 52) a8_ x31) fun x32 =>
  some ((.exit 2), xq q 56 τ [(8, x32), (7, x30), (6, x24), (53, x32), (52, x31), (51, a22_), (50, a8_), (49, x30), (48, x27), (47, x26), (46, x25), (45, a7_), (44, x24), (43, x21), (42, a22_), (41, a6_), (40, x20), (39, x19), (38, x17), (37, x14), (36, x13), (35, x12), (34, x10), (33, x9), (32, x8), (31, x7), (30, x7), (29, a22_), (28, a8_), (27, a1_), (9, a22_), (10, x3), (26, x2), (25, x1), (24, a22_), (23, x0)] [(1, a1_), (2, a2_), (20, a20_), (21, a21_), (22, a22_)], G29)) (
  bP (bn Q q .add 3 (.tmp 22) (.const (.int .i64 1)) a22_ (.int .i64 1)) fun x33 =>
  lp (xq q 56 τ [(22, x33), (54, x33), (40, x20), (39, x19), (38, x17), (37, x14), (36, x13), (35, x12), (34, x10), (33, x9), (32, x8), (31, x7), (30, x7), (29, a22_), (28, a8_), (27, a1_), (9, a22_), (10, x3), (26, x2), (25, x1), (24, a22_), (23, x0)] [(1, a1_), (2, a2_), (6, a6_), (7, a7_), (8, a8_), (20, a20_), (21, a21_)]) G18)) (
  some ((.exit 2), xq q 56 τ [(23, x0)] [(1, a1_), (2, a2_), (6, a6_), (7, a7_), (8, a8_), (20, a20_), (21, a21_), (22, a22_)], G))
theorem l40_1 (h : ExLe Q e (E orc)) : LT orc 56 (subAt [1, 1, 1, 0, 1, 0, 0, 1, 0, 1, 0, 0] (bodyOf Tryz.f40)) (b40_1 true e) := cL fun hlp τ G => by unfold b40_1; exact Ref.gq
/-- coxswain/linear.order[[]uint64] -/
def s40 (q : Bool) (e : Ex) (v0 v1 : Value) (G : GS) : OG :=
  bS (bx q v0 G) fun x0 G1 =>
  bP (lda Q q 104 4 x0 G1) fun x2 =>
  bS (e.ev.cl 100 [x2, v1, (.slice none 0 0)] G1) fun x3 G4 =>
  bP (un Q q .not x3) fun x5 =>
  ifV x5 (
  some (.tuple #[(.slice none 0 0), (.bool false)], G4)) (
  bLq q e 40 0 (subAt [1, 1, 1, 0, 1, 0, 0] (bodyOf Tryz.f40)) 56 (nth undef [v0, v1]) [(8, (.int .i64 0)), (15, x5), (14, x3), (13, (.slice none 0 0)), (12, v1), (11, x2), (7, (.slice none 0 0)), (6, (.slice none 0 0)), (5, (.bool false)), (4, (.slice none 0 0)), (2, x0)] [] G4 fun e6 t7 G8 =>
  bV q (t7 7) fun t7x7_ =>
  ifE e6 (.exit 0) (
  some (.tuple #[t7x7_, (.bool true)], G8)) (none))
theorem f40 (h : ExLe Q e (E orc)) (v0 v1 : Value) (G : GS) : Ref (s40 true e v0 v1 G) ((E orc).cl 40 [v0, v1] G) := cS (S := fun q e => s40 q e v0 v1 G) Tryz.func40 (by unfold s40; exact Ref.gq)
/-- coxswain/linear.queues -/
def s41 (q : Bool) (e : Ex) (v0 : Value) (G : GS) : OG :=
  bS (bx q v0 G) fun x0 G1 =>
  bS (al Q q 104 z104 G1) fun x2 G3 =>
  bP (bd Q q 104 z104 [(1, 1, 1), (2, 2, 1), (3, 3, 1)] [(.func (.func 103) #[] #[x0]), (.func (.func 104) #[] #[]), (.func (.func 105) #[] #[])]) fun x4 =>
  bP (st Q q 104 4 x2 x4 G3) fun G5 =>
  bP (lda Q q 104 4 x2 G5) fun x6 =>
  some (x6, G5)
theorem f41 (h : ExLe Q e (E orc)) (v0 : Value) (G : GS) : Ref (s41 true e v0 G) ((E orc).cl 41 [v0] G) := cS (S := fun q e => s41 q e v0 G) Tryz.func41 (by unfold s41; exact Ref.gq)
/-- coxswain/linear.order[[]coxswain/api.Item] -/
def s42 (q : Bool) (e : Ex) (v0 v1 : Value) (G : GS) : OG :=
  bS (bx q v0 G) fun x0 G1 =>
  bP (lda Q q 112 4 x0 G1) fun x2 =>
  bS (e.ev.cl 107 [x2, v1, (.slice none 0 0)] G1) fun x3 G4 =>
  bP (un Q q .not x3) fun x5 =>
  ifV x5 (
  some (.tuple #[(.slice none 0 0), (.bool false)], G4)) (
  bLq q e 42 0 (subAt [1, 1, 1, 0, 1, 0, 0] (bodyOf Tryz.f42)) 56 (nth undef [v0, v1]) [(8, (.int .i64 0)), (15, x5), (14, x3), (13, (.slice none 0 0)), (12, v1), (11, x2), (7, (.slice none 0 0)), (6, (.slice none 0 0)), (5, (.bool false)), (4, (.slice none 0 0)), (2, x0)] [] G4 fun e6 t7 G8 =>
  bV q (t7 7) fun t7x7_ =>
  ifE e6 (.exit 0) (
  some (.tuple #[t7x7_, (.bool true)], G8)) (none))
theorem f42 (h : ExLe Q e (E orc)) (v0 v1 : Value) (G : GS) : Ref (s42 true e v0 v1 G) ((E orc).cl 42 [v0, v1] G) := cS (S := fun q e => s42 q e v0 v1 G) Tryz.func42 (by unfold s42; exact Ref.gq)
/-- coxswain/linear.order[[]int] -/
def s44 (q : Bool) (e : Ex) (v0 v1 : Value) (G : GS) : OG :=
  bS (bx q v0 G) fun x0 G1 =>
  bP (lda Q q 119 4 x0 G1) fun x2 =>
  bS (e.ev.cl 111 [x2, v1, (.slice none 0 0)] G1) fun x3 G4 =>
  bP (un Q q .not x3) fun x5 =>
  ifV x5 (
  some (.tuple #[(.slice none 0 0), (.bool false)], G4)) (
  bLq q e 44 0 (subAt [1, 1, 1, 0, 1, 0, 0] (bodyOf Tryz.f44)) 56 (nth undef [v0, v1]) [(8, (.int .i64 0)), (15, x5), (14, x3), (13, (.slice none 0 0)), (12, v1), (11, x2), (7, (.slice none 0 0)), (6, (.slice none 0 0)), (5, (.bool false)), (4, (.slice none 0 0)), (2, x0)] [] G4 fun e6 t7 G8 =>
  bV q (t7 7) fun t7x7_ =>
  ifE e6 (.exit 0) (
  some (.tuple #[t7x7_, (.bool true)], G8)) (none))
theorem f44 (h : ExLe Q e (E orc)) (v0 v1 : Value) (G : GS) : Ref (s44 true e v0 v1 G) ((E orc).cl 44 [v0, v1] G) := cS (S := fun q e => s44 q e v0 v1 G) Tryz.func44 (by unfold s44; exact Ref.gq)
/-- coxswain/fifo.Next -/
def s52 (q : Bool) (e : Ex) (v0 v1 v2 v3 : Value) (G : GS) : OG :=
  bS (bx q v2 G) fun x0 G1 =>
  bS (bx q v3 G1) fun x2 G3 =>
  bS (e.ev.cl 122 [v0, v1] G3) fun x4 G5 =>
  bP (bn Q q .neq 25 (.tmp 15) (.const (.int .i64 0)) x4 (.int .i64 0)) fun x6 =>
  ifV x6 (
  some (.tuple #[(.slice none 0 0), (.bool false)], G5)) (
  bS (e.ev.cl 124 [v1] (G5.room 13)) fun x8 G7 =>
  bP (lda Q q 24 4 x0 G7) fun x9 =>
  chk ((sameO (lda Q q 24 4 x0 (G5.room 13)) x9 && true)) <|
  bS (e.ev.cl 123 [v0, x8, x9] G7) fun x11 G10 =>
  bP (pExtract x11 0) fun x12 =>
  bP (pExtract x11 1) fun x13 =>
  bP (pExtract x11 2) fun x14 =>
  bS (al Q q 27 z27 (G10.at' (G5.nx + 9))) fun x15 G16 =>
  bP (st Q q 27 3 x15 x12 (G16.back G10)) fun G17 =>
  bP (un Q q .not x14) fun x18 =>
  bS (gP x18 false (lda Q q 27 3 x15 G17) G17) fun x19 G20 =>
  bS (gP x18 false (lda Q q 27 3 x2 G20) G20) fun x21 G22 =>
  bS (gP x18 false (bn Q q .neq 27 (.tmp 29) (.tmp 30) x19 x21) G22) fun x23 G24 =>
  bP (pickV x18 (.bool true) x23) fun x25 =>
  ifV x25 (
  some (.tuple #[(.slice none 0 0), (.bool false)], G24)) (
  bS (cValue e.ev x13 [] G24) fun x26 G27 =>
  bS (e.ev.cl 125 [x26] G27) fun x28 G29 =>
  some (.tuple #[x28, (.bool true)], G29)))
theorem f52 (h : ExLe Q e (E orc)) (v0 v1 v2 v3 : Value) (G : GS) : Ref (s52 true e v0 v1 v2 v3 G) ((E orc).cl 52 [v0, v1, v2, v3] G) := cS (S := fun q e => s52 q e v0 v1 v2 v3 G) Tryz.func52 (by unfold s52; exact Ref.gq)
/-- coxswain/heap.Next -/
def s54 (q : Bool) (e : Ex) (v0 v1 v2 : Value) (G : GS) : OG :=
  bS (bx q v1 G) fun x0 G1 =>
  bS (bx q v2 G1) fun x2 G3 =>
  bS (e.ev.cl 126 [v0] G3) fun x4 G5 =>
  bP (bn Q q .neq 25 (.tmp 14) (.const (.int .i64 0)) x4 (.int .i64 0)) fun x6 =>
  ifV x6 (
  some (.tuple #[(.slice none 0 0), (.bool false)], G5)) (
  fl q 24 0 0 3 x0 G5 fun x8 =>
  bP (bn Q q .eql 3 (.tmp 17) (.const (.int .i64 4)) x8 (.int .i64 4)) fun x9 =>
  bS (gP x9 true (lda Q q 27 3 x2 G5) G5) fun x10 G11 =>
  bS (gS x9 true (e.ev.cl 128 [x10] G11) G11) fun x12 G13 =>
  bP (pickV x9 x12 (.bool false)) fun x14 =>
  ifV x14 (
  bS (e.ev.cl 129 [v0] G13) fun x15 G16 =>
  some (.tuple #[x15, (.bool true)], G16)) (
  bP (lda Q q 24 4 x0 G13) fun x17 =>
  bS (e.ev.cl 53 [v0, x17] G13) fun x18 G19 =>
  bP (pExtract x18 0) fun x20 =>
  bP (pExtract x18 1) fun x21 =>
  bS (al Q q 27 z27 G19) fun x22 G23 =>
  bP (st Q q 27 3 x22 x20 G23) fun G24 =>
  bP (un Q q .not x21) fun x25 =>
  bS (gP x25 false (lda Q q 27 3 x22 G24) G24) fun x26 G27 =>
  bS (gP x25 false (lda Q q 27 3 x2 G27) G27) fun x28 G29 =>
  bS (gP x25 false (bn Q q .neq 27 (.tmp 34) (.tmp 35) x26 x28) G29) fun x30 G31 =>
  bP (pickV x25 (.bool true) x30) fun x32 =>
  ifV x32 (
  some (.tuple #[(.slice none 0 0), (.bool false)], G31)) (
  fl q 27 0 0 25 x2 G31 fun x34 =>
  bP (bn Q q .neq 25 (.tmp 40) (.const (.int .i64 0)) x34 (.int .i64 0)) fun x35 =>
  bS (gP x35 false (fa Q q 24 0 0 x0) G31) fun x36 G37 =>
  bS (gP x35 false (ld Q q 3 x36 G37) G37) fun x38 G39 =>
  bS (gP x35 false (bn Q q .eql 3 (.tmp 44) (.const (.int .i64 6)) x38 (.int .i64 6)) G39) fun x40 G41 =>
  bP (pickV x35 (.bool true) x40) fun x42 =>
  ifV x42 (
  bS (e.ev.cl 129 [v0] G41) fun x43 G44 =>
  some (.tuple #[x43, (.bool true)], G44)) (
  fl q 24 0 0 3 x0 G41 fun x46 =>
  bP (bn Q q .eql 3 (.tmp 51) (.const (.int .i64 5)) x46 (.int .i64 5)) fun x47 =>
  ifV x47 (
  bP (sl Q q 107 2 v0 (some (.int .i64 1)) none none G41) fun x48 =>
  bS (e.ev.cl 129 [x48] G41) fun x49 G50 =>
  some (.tuple #[x49, (.bool true)], G50)) (
  fl q 24 3 3 22 x0 G41 fun x52 =>
  bS (e.ev.cl 130 [v0, x52] G41) fun x53 G54 =>
  bP (pExtract x53 0) fun x55 =>
  bP (pExtract x53 1) fun x56 =>
  bP (sl Q q 107 2 v0 none (some x55) (some x55) (G54.room 13)) fun x57 =>
  bS (e.ev.cl 129 [x57] (G54.room 13)) fun x59 G58 =>
  bP (fa Q q 24 3 3 x0) fun x60 =>
  bP (ld Q q 22 x60 G58) fun x61 =>
  chk ((sameO (ld Q q 22 x60 (G54.room 13)) x61 && true)) <|
  bP (fa Q q 24 1 1 x0) fun x62 =>
  bP (ld Q q 3 x62 G58) fun x63 =>
  chk ((sameO (ld Q q 3 x62 (G54.room 13)) x63 && true)) <|
  bP (bd Q q 184 z184 [(0, 0, 1), (1, 1, 1)] [x61, x63]) fun x64 =>
  bS (bs Q q 107 1 (rep z184 1) 2 [(0, 0, 2)] [x64] (G58.at' (G54.nx + 10))) fun x65 G66 =>
  bS (ap Q q 107 107 2 16 x59 x65 (G66.back G58)) fun x68 G67 =>
  bP (sl Q q 107 2 v0 (some x55) none none G67) fun x69 =>
  bS (ap Q q 107 107 2 16 x68 x69 G67) fun x70 G71 =>
  some (.tuple #[x70, (.bool true)], G71))))))
/-- coxswain/ring.NewPush -/
def s57 (q : Bool) (e : Ex) (v0 v1 : Value) (G : GS) : OG :=
  bS (bx q v0 G) fun x0 G1 =>
  bP (lda Q q 57 4 x0 G1) fun x2 =>
  bS (e.ev.cl 133 [x2] G1) fun x3 G4 =>
  bP (bd Q q 218 z218 [(0, 0, 7), (1, 7, 1)] [x3, v1]) fun x5 =>
  bS (bx q x5 G4) fun x6 G7 =>
  nf q 218 0 0 x6 fun x9 =>
  fl q 214 3 6 25 x9 G7 fun x11 =>
  bP (bn Q q .neq 25 (.tmp 22) (.const (.int .i64 0)) x11 (.int .i64 0)) fun x12 =>
  ifV x12 (
  some (x6, G7)) (
  bP (bn Q q .lss 3 (.tmp 25) (.const (.int .i64 0)) v1 (.int .i64 0)) fun x13 =>
  bS (gV x13 false v1 G7) fun x14 G15 =>
  bS (gP x13 false (bn Q q .gtr 3 (.tmp 28) (.const (.int .i64 65535)) x14 (.int .i64 65535)) G15) fun x16 G17 =>
  bP (pickV x13 (.bool true) x16) fun x18 =>
  ifV x18 (
  nf q 218 0 0 x6 fun x20 =>
  bS (e.ev.cl 134 [x20, (.int .i64 3)] G17) fun x21 G22 =>
  some (x6, G22)) (
  nf q 218 0 0 x6 fun x24 =>
  bP (fa Q q 214 1 4 x24) fun x25 =>
  bP (st Q q 212 1 x25 (.func (.func 135) #[x6] #[]) G17) fun G26 =>
  some (x6, G26)))
theorem f57 (h : ExLe Q e (E orc)) (v0 v1 : Value) (G : GS) : Ref (s57 true e v0 v1 G) ((E orc).cl 57 [v0, v1] G) := cS (S := fun q e => s57 q e v0 v1 G) Tryz.func57 (by unfold s57; exact Ref.gq)
/-- (*coxswain/cells.Mem).Load -/
def s59 (q : Bool) (e : Ex) (v0 v1 : Value) (G : GS) : OG :=
  bS (e.ev.cl 136 [v0, v1] G) fun x0 G1 =>
  bP (bd Q q 223 z223 [(0, 0, 1)] [x0]) fun x2 =>
  bS (al Q q 223 z223 G1) fun x3 G4 =>
  bP (st Q q 223 3 x3 x2 G4) fun G5 =>
  fl q 223 0 0 220 x3 G5 fun x7 =>
  bP (lda Q q 223 3 x3 G5) fun x8 =>
  bS (e.ev.cl 137 [v0, (.int .i64 1), v1, x7, (.func (.func 138) #[x8] #[])] G5) fun x9 G10 =>
  bP (fd Q q 225 3 3 x9) fun x11 =>
  some (x11, G10)
theorem f59 (h : ExLe Q e (E orc)) (v0 v1 : Value) (G : GS) : Ref (s59 true e v0 v1 G) ((E orc).cl 59 [v0, v1] G) := cS (S := fun q e => s59 q e v0 v1 G) Tryz.func59 (by unfold s59; exact Ref.gq)
/-- (*coxswain/ring.Push).Step -/
def s63 (q : Bool) (e : Ex) (v0 v1 : Value) (G : GS) : OG :=
  bP (ep Q q false 133 (.tmp 5) (.const (.pointer none)) v0 (.pointer none)) fun x0 =>
  bS (gV x0 false v0 G) fun x1 G2 =>
  bS (gP x0 false (pNil x1) G2) fun x3 G4 =>
  bS (gP x0 false (fa Q q 218 0 0 x3) G4) fun x5 G6 =>
  bS (gV x0 false v1 G6) fun x7 G8 =>
  bS (gS x0 false (e.ev.cl 142 [x5, x7] G8) G8) fun x9 G10 =>
  bP (pickV x0 (.bool true) x9) fun x11 =>
  some (x11, G10)
theorem f63 (h : ExLe Q e (E orc)) (v0 v1 : Value) (G : GS) : Ref (s63 true e v0 v1 G) ((E orc).cl 63 [v0, v1] G) := cS (S := fun q e => s63 q e v0 v1 G) Tryz.func63 (by unfold s63; exact Ref.gq)
/-- (*coxswain/ring.Push).Err -/
def s64 (q : Bool) (e : Ex) (v0 : Value) (G : GS) : OG :=
  bP (ep Q q false 133 (.tmp 3) (.const (.pointer none)) v0 (.pointer none)) fun x0 =>
  ifV x0 (
  some ((.int .i64 1), G)) (
  nf q 218 0 0 v0 fun x2 =>
  bS (e.ev.cl 143 [x2] G) fun x3 G4 =>
  some (x3, G4))
theorem f64 (h : ExLe Q e (E orc)) (v0 : Value) (G : GS) : Ref (s64 true e v0 G) ((E orc).cl 64 [v0] G) := cS (S := fun q e => s64 q e v0 G) Tryz.func64 (by unfold s64; exact Ref.gq)
/-- coxswain/ring.NewFront -/
def s66 (q : Bool) (e : Ex) (v0 : Value) (G : GS) : OG :=
  bS (bx q v0 G) fun x0 G1 =>
  bP (lda Q q 57 4 x0 G1) fun x2 =>
  bS (e.ev.cl 133 [x2] G1) fun x3 G4 =>
  bP (bd Q q 235 z235 [(0, 0, 7)] [x3]) fun x5 =>
  bS (bx q x5 G4) fun x6 G7 =>
  nf q 235 0 0 x6 fun x9 =>
  fl q 214 3 6 25 x9 G7 fun x11 =>
  bP (bn Q q .eql 25 (.tmp 12) (.const (.int .i64 0)) x11 (.int .i64 0)) fun x12 =>
  ifV x12 (
  nf q 235 0 0 x6 fun x14 =>
  bP (fa Q q 214 1 4 x14) fun x15 =>
  bP (st Q q 212 1 x15 (.func (.func 149) #[x6] #[]) G7) fun G16 =>
  some (x6, G16)) (
  some (x6, G7))
theorem f66 (h : ExLe Q e (E orc)) (v0 : Value) (G : GS) : Ref (s66 true e v0 G) ((E orc).cl 66 [v0] G) := cS (S := fun q e => s66 q e v0 G) Tryz.func66 (by unfold s66; exact Ref.gq)
/-- (*coxswain/ring.Front).Value -/
def s67 (q : Bool) (e : Ex) (v0 : Value) (G : GS) : OG :=
  bP (ep Q q false 60 (.tmp 4) (.const (.pointer none)) v0 (.pointer none)) fun x0 =>
  ifV x0 (
  some (.tuple #[(.int .i64 0), (.int .i64 1)], G)) (
  nf q 235 2 8 v0 fun x2 =>
  bP (ld Q q 3 x2 (G.room 10)) fun x3 =>
  nf q 235 0 0 v0 fun x5 =>
  bS (e.ev.cl 143 [x5] (G.room 10)) fun x7 G6 =>
  chk ((sameO (ld Q q 3 x2 G6) x3 && true)) <|
  some (.tuple #[x3, x7], G6))
theorem f67 (h : ExLe Q e (E orc)) (v0 : Value) (G : GS) : Ref (s67 true e v0 G) ((E orc).cl 67 [v0] G) := cS (S := fun q e => s67 q e v0 G) Tryz.func67 (by unfold s67; exact Ref.gq)
/-- coxswain/cells.New -/
def s70 (q : Bool) (e : Ex) (v0 : Value) (G : GS) : OG :=
  bP (bn Q q .lss 3 (.tmp 4) (.const (.int .i64 1)) v0 (.int .i64 1)) fun x0 =>
  bS (gV x0 false v0 G) fun x1 G2 =>
  bS (gP x0 false (bn Q q .gtr 3 (.tmp 7) (.const (.int .i64 4096)) x1 (.int .i64 4096)) G2) fun x3 G4 =>
  bP (pickV x0 (.bool true) x3) fun x5 =>
  ifV x5 (
  some (.tuple #[(.pointer none), (.int .i64 3)], G4)) (
  bS (al Q q 239 z239 G4) fun x6 G7 =>
  bP (bd Q q 241 z241 [(0, 0, 1), (1, 1, 1)] [x6, v0]) fun x8 =>
  bS (bx q x8 G7) fun x9 G10 =>
  some (.tuple #[x9, (.int .i64 0)], G10))
theorem f70 (h : ExLe Q e (E orc)) (v0 : Value) (G : GS) : Ref (s70 true e v0 G) ((E orc).cl 70 [v0] G) := cS (S := fun q e => s70 q e v0 G) Tryz.func70 (by unfold s70; exact Ref.gq)
def b71_0 (q : Bool) (e : Ex) (lp : LpF) (τ : Env) (G : GS) : OL :=
  bV q (τ 1) fun a1_ =>
  bV q (τ 2) fun a2_ =>
  bV q (τ 17) fun a17_ =>
  bV q (τ 18) fun a18_ =>
  bP (bn Q q .lss 3 (.tmp 18) (.tmp 17) a18_ a17_) fun x0 =>
  ifV x0 (
  bP (fa Q q 57 2 2 a2_) fun x1 =>
  bP (ld Q q 3 x1 G) fun x2 =>
  bP (bn Q q .add 3 (.tmp 23) (.tmp 24) x2 a18_) fun x3 =>
  bS (e.ev.cl 150 [a1_, x3, (.int .u64 0)] G) fun x4 G5 =>
  bP (bn Q q .add 3 (.tmp 18) (.const (.int .i64 1)) a18_ (.int .i64 1)) fun x6 =>
  lp (xq q 28 τ [(18, x6), (27, x6), (26, x4), (25, x3), (24, a18_), (23, x2), (22, x1), (21, a1_), (4, a18_), (20, a18_), (19, x0)] [(1, a1_), (2, a2_), (17, a17_)]) G5) (
  some ((.exit 0), xq q 28 τ [(19, x0)] [(1, a1_), (2, a2_), (17, a17_), (18, a18_)], G))
theorem l71_0 (h : ExLe Q e (E orc)) : LT orc 28 (subAt [1, 1, 1, 1, 1, 0, 0] (bodyOf Tryz.f71)) (b71_0 true e) := cL fun hlp τ G => by unfold b71_0; exact Ref.gq
/-- coxswain/ring.Fill -/
def s71 (q : Bool) (e : Ex) (v0 v1 : Value) (G : GS) : OG :=
  bS (bx q v0 G) fun x0 G1 =>
  bP (lda Q q 57 4 x0 G1) fun x2 =>
  bS (e.ev.cl 144 [x2] G1) fun x3 G4 =>
  bP (un Q q .not x3) fun x5 =>
  ifV x5 (
  some (.tuple #[], G4)) (
  bP (fa Q q 57 0 0 x0) fun x6 =>
  bP (ld Q q 3 x6 G4) fun x7 =>
  bS (e.ev.cl 150 [v1, x7, (.int .u64 0)] G4) fun x8 G9 =>
  bP (fa Q q 57 1 1 x0) fun x10 =>
  bP (ld Q q 3 x10 G9) fun x11 =>
  bS (e.ev.cl 150 [v1, x11, (.int .u64 0)] G9) fun x12 G13 =>
  bP (fa Q q 57 3 3 x0) fun x14 =>
  bP (ld Q q 3 x14 G13) fun x15 =>
  bLq q e 71 0 (subAt [1, 1, 1, 1, 1, 0, 0] (bodyOf Tryz.f71)) 28 (nth undef [v0, v1]) [(18, (.int .i64 0)), (17, x15), (16, x14), (15, x12), (14, x11), (13, x10), (12, v1), (11, x8), (10, x7), (9, x6), (8, v1), (7, x5), (6, x3), (5, x2), (2, x0)] [] G13 fun e16 t17 G18 =>
  ifE e16 (.exit 0) (
  some (.tuple #[], G18)) (none))
theorem f71 (h : ExLe Q e (E orc)) (v0 v1 : Value) (G : GS) : Ref (s71 true e v0 v1 G) ((E orc).cl 71 [v0, v1] G) := cS (S := fun q e => s71 q e v0 v1 G) Tryz.func71 (by unfold s71; exact Ref.gq)
/-- (*coxswain/coxswainlaw14.crew).busy -/
def s72 (q : Bool) (e : Ex) (v0 v1 : Value) (G : GS) : OG :=
  nl q 64 12 15 35 v0 G fun x2 =>
  bP (ias Q q 35 1 x2 v1) fun x3 =>
  bP (ld Q q 3 x3 G) fun x4 =>
  bP (bn Q q .geq 3 (.tmp 11) (.const (.int .i64 0)) x4 (.int .i64 0)) fun x5 =>
  some (x5, G)
theorem f72 (h : ExLe Q e (E orc)) (v0 v1 : Value) (G : GS) : Ref (s72 true e v0 v1 G) ((E orc).cl 72 [v0, v1] G) := cS (S := fun q e => s72 q e v0 v1 G) Tryz.func72 (by unfold s72; exact Ref.gq)
def jb73_0 (q : Bool) (e : Ex) (τ : Env) (G : GS) : OG :=
  bV q (τ 0) fun a0_ =>
  bV q (τ 1) fun a1_ =>
  bV q (τ 4) fun a4_ =>
  nl q 64 12 15 35 a0_ (G.room 12) fun x20 =>
  nl q 64 11 14 38 a0_ (G.room 12) fun x23 =>
  bP (ln Q q 38 x23) fun x24 =>
  bP (ias Q q 35 1 x20 a1_) fun x25 =>
  bP (st Q q 3 1 x25 x24 (G.room 12)) fun G26 =>
  nl q 64 11 14 38 a0_ (G26.room 11) fun x29 =>
  bP (lda Q q 29 10 a4_ (G26.room 11)) fun x30 =>
  bS (bs Q q 38 1 (rep z29 1) 10 [(0, 0, 10)] [x30] ((G26.room 11).at' (G26.nx + 6))) fun x31 G32 =>
  bS (ap Q q 38 38 10 80 x29 x31 (G32.back (G26.room 11))) fun x34 G33 =>
  nf q 64 11 14 a0_ fun x36 =>
  bP (st Q q 38 1 x36 x34 G33) fun G37 =>
  some (.tuple #[], G37)
def j73_0 (q : Bool) (e : Ex) (τ : Env) (G : GS) : OG := jb73_0 q e τ G
theorem mj73_0 {e : Ex} {E : Ev} (h : ExLe Q e E) (τ : Env) (G : GS) : Ref (j73_0 true e τ G) (j73_0 false (Ex.of E) τ G) := by
  unfold j73_0 jb73_0
  exact Ref.gq
theorem mkj73_0 {e : Ex} {E : Ev} (h : ExLe Q e E) {τ : Env} {l U : List (Nat × Value)} {G : GS} (hU : UOk τ U) : Ref (j73_0 true e (xq true 128 τ l U) G) (j73_0 false (Ex.of E) (xq false 128 τ l U) G) := by
  rw [xq_eq hU]
  exact mj73_0 h _ _
def sb73 (q : Bool) (e : Ex) (J0 : Env → GS → OG) (v0 v1 : Value) (G : GS) : OG :=
  bP (pNil v0) fun x0 =>
  bP (fa Q q 64 13 16 x0) fun x1 =>
  bP (ld Q q 3 x1 G) fun x2 =>
  bP (bn Q q .add 3 (.tmp 8) (.const (.int .i64 1)) x2 (.int .i64 1)) fun x3 =>
  bP (pNil v0) fun x4 =>
  bP (fa Q q 64 13 16 x4) fun x5 =>
  bP (st Q q 3 1 x5 x3 G) fun G6 =>
  bP (pNil v0) fun x7 =>
  bP (fa Q q 64 11 14 x7) fun x8 =>
  bP (ld Q q 38 x8 (G6.room 12)) fun x9 =>
  bP (ln Q q 38 x9) fun x10 =>
  bP (pNil v0) fun x11 =>
  bP (fa Q q 64 13 16 x11) fun x12 =>
  bP (ld Q q 3 x12 (G6.room 12)) fun x13 =>
  bP (bd Q q 29 z29 [(0, 0, 1), (1, 1, 1), (2, 2, 1)] [x10, x13, (.int .i64 (-1))]) fun x14 =>
  bS (al Q q 29 z29 ((G6.room 12).at' (G6.nx + 10))) fun x15 G16 =>
  bP (st Q q 29 10 x15 x14 (G16.back (G6.room 12))) fun G17 =>
  bP (bn Q q .lss 3 (.tmp 33) (.const (.int .i64 2)) v1 (.int .i64 2)) fun x38 =>
  ifV x38 (
  bP (pNil v0) fun x39 =>
  bP (fa Q q 64 14 17 x39) fun x40 =>
  bP (ld Q q 3 x40 G17) fun x41 =>
  bP (bn Q q .add 3 (.tmp 38) (.const (.int .i64 1)) x41 (.int .i64 1)) fun x42 =>
  bP (pNil v0) fun x43 =>
  bP (fa Q q 64 14 17 x43) fun x44 =>
  bP (st Q q 3 1 x44 x42 G17) fun G45 =>
  bP (pNil v0) fun x46 =>
  bP (fa Q q 64 3 6 x46) fun x47 =>
  bP (ld Q q 35 x47 (G45.room 12)) fun x48 =>
  bP (pNil v0) fun x49 =>
  bP (fa Q q 64 14 17 x49) fun x50 =>
  bP (ld Q q 3 x50 (G45.room 12)) fun x51 =>
  bP (bn Q q .rem 3 (.tmp 50) (.const (.int .i64 65536)) x51 (.int .i64 65536)) fun x52 =>
  bP (ias Q q 35 1 x48 v1) fun x53 =>
  bP (st Q q 3 1 x53 x52 (G45.room 12)) fun G54 =>
  bP (pNil v0) fun x55 =>
  bP (fa Q q 64 2 5 x55) fun x56 =>
  bP (ld Q q 59 x56 (G54.room 19)) fun x57 =>
  bP (pNil v0) fun x58 =>
  bP (fa Q q 64 0 0 x58) fun x59 =>
  bP (lda Q q 57 4 x59 (G54.room 19)) fun x60 =>
  bP (pNil v0) fun x61 =>
  bP (fa Q q 64 3 6 x61) fun x62 =>
  bP (ld Q q 35 x62 (G54.room 19)) fun x63 =>
  bP (ias Q q 35 1 x63 v1) fun x64 =>
  bP (ld Q q 3 x64 (G54.room 19)) fun x65 =>
  bS (e.ev.cl 57 [x60, x65] (G54.room 19)) fun x67 G66 =>
  chk ((sameO (ld Q q 59 x56 G66) x57 && true)) <|
  bP (ias Q q 59 1 x57 v1) fun x68 =>
  bP (st Q q 133 1 x68 x67 G66) fun G69 =>
  bP (pNil v0) fun x70 =>
  bP (fa Q q 64 8 11 x70) fun x71 =>
  bP (ld Q q 62 x71 G69) fun x72 =>
  bP (ias Q q 62 1 x72 v1) fun x73 =>
  bP (st Q q 25 1 x73 (.int .i64 14) G69) fun G74 =>
  bP (pNil v0) fun x75 =>
  bP (fa Q q 64 3 6 x75) fun x76 =>
  bP (ld Q q 35 x76 G74) fun x77 =>
  bP (ias Q q 35 1 x77 v1) fun x78 =>
  bP (ld Q q 3 x78 G74) fun x79 =>
  bP (cv Q q 3 22 .i64 .u64 x79) fun x80 =>
  bP (bd Q q 24 z24 [(0, 0, 1), (3, 3, 1)] [(.int .i64 1), x80]) fun x81 =>
  bP (fa Q q 29 3 3 x15) fun x82 =>
  bP (st Q q 24 4 x82 x81 G74) fun G83 =>
  J0 (xq q 128 (nth undef [v0, v1]) [(86, x82), (85, x81), (84, x80), (83, x79), (82, x78), (81, v1), (80, x77), (79, x76), (78, x75), (77, v0), (76, x73), (75, v1), (74, x72), (73, x71), (72, x70), (71, v0), (70, x68), (69, x67), (68, x65), (67, x64), (66, v1), (65, x63), (64, x62), (63, x61), (62, v0), (61, x60), (60, x59), (59, x58), (58, v0), (57, v1), (56, x57), (55, x56), (54, x55), (53, v0), (52, x53), (51, x52), (50, x51), (49, x50), (48, x49), (47, v0), (46, v1), (45, x48), (44, x47), (43, x46), (42, v0), (41, x44), (40, x43), (39, x42), (38, x41), (37, x40), (36, x39), (35, v0), (32, x38), (34, x38), (33, v1), (4, x15), (21, x14), (20, x13), (19, x12), (18, x11), (17, v0), (16, x10), (15, x9), (14, x8), (13, x7), (12, v0), (11, x5), (10, x4), (9, x3), (8, x2), (7, x1), (6, x0), (5, v0)] []) G83) (
  bP (pNil v0) fun x84 =>
  bP (fa Q q 64 6 9 x84) fun x85 =>
  bP (ld Q q 4 x85 G17) fun x86 =>
  ifV x86 (
  bP (pNil v0) fun x87 =>
  bP (fa Q q 64 0 0 x87) fun x88 =>
  bP (lda Q q 57 4 x88 (G17.room 14)) fun x89 =>
  bP (pNil v0) fun x90 =>
  bP (fa Q q 64 4 7 x90) fun x91 =>
  bP (ld Q q 60 x91 (G17.room 14)) fun x92 =>
  bS (e.ev.cl 97 [x92] (G17.room 14)) fun x94 G93 =>
  chk ((sameO (lda Q q 57 4 x88 G93) x89 && true)) <|
  bS (e.ev.cl 96 [x89, x94] G93) fun x96 G95 =>
  bP (pNil v0) fun x97 =>
  bP (fa Q q 64 5 8 x97) fun x98 =>
  bP (st Q q 61 1 x98 x96 G95) fun G99 =>
  bP (bd Q q 24 z24 [(0, 0, 1)] [(.int .i64 3)]) fun x100 =>
  bP (fa Q q 29 3 3 x15) fun x101 =>
  bP (st Q q 24 4 x101 x100 G99) fun G102 =>
  J0 (xq q 128 (nth undef [v0, v1]) [(106, x101), (105, x100), (104, x98), (103, x97), (102, x96), (101, x94), (100, x92), (99, x91), (98, x90), (97, v0), (96, x89), (95, x88), (94, x87), (93, v0), (92, v0), (87, x86), (91, x86), (90, x85), (89, x84), (88, v0), (32, x38), (34, x38), (33, v1), (4, x15), (21, x14), (20, x13), (19, x12), (18, x11), (17, v0), (16, x10), (15, x9), (14, x8), (13, x7), (12, v0), (11, x5), (10, x4), (9, x3), (8, x2), (7, x1), (6, x0), (5, v0)] []) G102) (
  bP (pNil v0) fun x103 =>
  bP (fa Q q 64 0 0 x103) fun x104 =>
  bP (lda Q q 57 4 x104 G17) fun x105 =>
  bS (e.ev.cl 66 [x105] G17) fun x106 G107 =>
  bP (pNil v0) fun x108 =>
  bP (fa Q q 64 4 7 x108) fun x109 =>
  bP (st Q q 60 1 x109 x106 G107) fun G110 =>
  bP (bd Q q 24 z24 [(0, 0, 1)] [(.int .i64 2)]) fun x111 =>
  bP (fa Q q 29 3 3 x15) fun x112 =>
  bP (st Q q 24 4 x112 x111 G110) fun G113 =>
  J0 (xq q 128 (nth undef [v0, v1]) [(31, x112), (30, x111), (29, x109), (28, x108), (27, x106), (26, x105), (25, x104), (24, x103), (23, v0), (22, v0), (87, x86), (91, x86), (90, x85), (89, x84), (88, v0), (32, x38), (34, x38), (33, v1), (4, x15), (21, x14), (20, x13), (19, x12), (18, x11), (17, v0), (16, x10), (15, x9), (14, x8), (13, x7), (12, v0), (11, x5), (10, x4), (9, x3), (8, x2), (7, x1), (6, x0), (5, v0)] []) G113))
/-- (*coxswain/coxswainlaw14.crew).begins -/
def s73 (q : Bool) (e : Ex) (v0 v1 : Value) (G : GS) : OG := sb73 q e (j73_0 q e) v0 v1 G
theorem m73 {e : Ex} {E : Ev} (h : ExLe Q e E) (v0 v1 : Value) (G : GS) : Ref (s73 true e v0 v1 G) (s73 false (Ex.of E) v0 v1 G) := by
  unfold s73 sb73
  have j0 := @mkj73_0 e E h
  exact Ref.gj
def jt73 (J0 : Env → GS → OG) : JT (Value × GS) :=
  (.n none .e (.n none .e (.n (some (fun T G => J0 (nth undef T) G)) .e .e)))
set_option maxHeartbeats 8000000 in
theorem jr73_0 (orc : FuncId → Bool) (J0 : Env → GS → OG) (T : List Value) (G : GS) : runC Q (evL Q orc) Tryz.f73.ntmps (jt73 J0) (bodyOf Tryz.f73) (retE Q Tryz.f73.results.toList) [true, true] (nth undef T) G = jb73_0 false (Ex.of (E orc))  (nth undef T) G := by kernel_rfl
set_option maxHeartbeats 8000000 in
theorem jo73 (orc : FuncId → Bool) : JOk Q orc Tryz.f73.ntmps (jt73 (j73_0 false (Ex.of (E orc))) ) (bodyOf Tryz.f73) (retE Q Tryz.f73.results.toList) :=
  jOk Q orc (l := [([true, true], (fun T G => j73_0 false (Ex.of (E orc)) (nth undef T) G))]) (by kernel_rfl) (AllE.c (fun T G => jr73_0 orc (j73_0 false (Ex.of (E orc))) T G) (AllE.z))
set_option maxHeartbeats 8000000 in
theorem je73 (orc : FuncId → Bool) (J0 : Env → GS → OG) (v0 v1 : Value) (G : GS) : sxC Q (evL Q orc) Tryz.f73.ntmps (jt73 J0) (bodyOf Tryz.f73) (nth undef [v0, v1]) G (retE Q Tryz.f73.results.toList) = sb73 false (Ex.of (E orc)) J0 v0 v1 G := by kernel_rfl
set_option maxHeartbeats 8000000 in
theorem f73 {orc : FuncId → Bool} {e : Ex} (h : ExLe Q e (E orc)) (v0 v1 : Value) (G : GS) : Ref (s73 true e v0 v1 G) ((E orc).cl 73 [v0, v1] G) :=
  fun r hr => cl_sxC Q orc (vs := [v0, v1]) G (jt73 (j73_0 false (Ex.of (E orc))) ) Tryz.func73 (by kernel_rfl) (by kernel_rfl) (by kernel_rfl) (by kernel_rfl) (by kernel_rfl) (jo73 orc) (je73 orc (j73_0 false (Ex.of (E orc))) v0 v1 G) (m73 h v0 v1 G r hr)
/-- (*coxswain/coxswainlaw14.crew).steps -/
def s74 (q : Bool) (e : Ex) (v0 v1 : Value) (G : GS) : OG :=
  bP (bn Q q .lss 3 (.tmp 5) (.const (.int .i64 2)) v1 (.int .i64 2)) fun x0 =>
  ifV x0 (
  bS (e.ev.cl 151 [v0, v1] G) fun x1 G2 =>
  some (x1, G2)) (
  bS (e.ev.cl 152 [v0] G) fun x3 G4 =>
  some (x3, G4))
theorem f74 (h : ExLe Q e (E orc)) (v0 v1 : Value) (G : GS) : Ref (s74 true e v0 v1 G) ((E orc).cl 74 [v0, v1] G) := cS (S := fun q e => s74 q e v0 v1 G) Tryz.func74 (by unfold s74; exact Ref.gq)
/-- coxswain/ring.NewDrop -/
def s96 (q : Bool) (e : Ex) (v0 v1 : Value) (G : GS) : OG :=
  bS (bx q v0 G) fun x0 G1 =>
  bP (lda Q q 57 4 x0 G1) fun x2 =>
  bS (e.ev.cl 133 [x2] G1) fun x3 G4 =>
  bP (bd Q q 271 z271 [(0, 0, 7), (1, 7, 1)] [x3, v1]) fun x5 =>
  bS (bx q x5 G4) fun x6 G7 =>
  nf q 271 0 0 x6 fun x9 =>
  fl q 214 3 6 25 x9 G7 fun x11 =>
  bP (bn Q q .eql 25 (.tmp 15) (.const (.int .i64 0)) x11 (.int .i64 0)) fun x12 =>
  ifV x12 (
  nf q 271 0 0 x6 fun x14 =>
  bP (fa Q q 214 1 4 x14) fun x15 =>
  bP (st Q q 212 1 x15 (.func (.func 170) #[x6] #[]) G7) fun G16 =>
  some (x6, G16)) (
  some (x6, G7))
theorem f96 (h : ExLe Q e (E orc)) (v0 v1 : Value) (G : GS) : Ref (s96 true e v0 v1 G) ((E orc).cl 96 [v0, v1] G) := cS (S := fun q e => s96 q e v0 v1 G) Tryz.func96 (by unfold s96; exact Ref.gq)
/-- (*coxswain/ring.Front).At -/
def s97 (q : Bool) (e : Ex) (v0 : Value) (G : GS) : OG :=
  bP (ep Q q false 60 (.tmp 3) (.const (.pointer none)) v0 (.pointer none)) fun x0 =>
  ifV x0 (
  some ((.int .u64 0), G)) (
  nl q 235 1 7 22 v0 G fun x3 =>
  some (x3, G))
theorem f97 (h : ExLe Q e (E orc)) (v0 : Value) (G : GS) : Ref (s97 true e v0 G) ((E orc).cl 97 [v0] G) := cS (S := fun q e => s97 q e v0 G) Tryz.func97 (by unfold s97; exact Ref.gq)
/-- slices.Clone[[]int,int] -/
def s98 (q : Bool) (e : Ex) (v0 : Value) (G : GS) : OG :=
  bP (es Q q false 35 (.tmp 3) (.const (.slice none 0 0)) v0 (.slice none 0 0)) fun x0 =>
  ifV x0 (
  some ((.slice none 0 0), G)) (
  bS (bs Q q 35 0 (rep z3 0) 1 [] [] G) fun x1 G2 =>
  bS (ap Q q 35 35 1 8 x1 v0 G2) fun x3 G4 =>
  some (x3, G4))
theorem f98 (h : ExLe Q e (E orc)) (v0 : Value) (G : GS) : Ref (s98 true e v0 G) ((E orc).cl 98 [v0] G) := cS (S := fun q e => s98 q e v0 G) Tryz.func98 (by unfold s98; exact Ref.gq)
def b99_0 (q : Bool) (e : Ex) (lp : LpF) (τ : Env) (G : GS) : OL :=
  bV q (τ 3) fun a3_ =>
  bV q (τ 6) fun a6_ =>
  bV q (τ 7) fun a7_ =>
  bV q (τ 8) fun a8_ =>
  bP (bn Q q .lss 3 (.tmp 8) (.tmp 7) a8_ a7_) fun x0 =>
  ifV x0 (
  bP (ias Q q 38 10 a6_ a8_) fun x1 =>
  bP (lda Q q 29 10 x1 G) fun x2 =>
  bS (al Q q 29 z29 G) fun x3 G4 =>
  bP (st Q q 29 10 x3 x2 G4) fun G5 =>
  bP (fa Q q 29 2 2 x3) fun x6 =>
  bP (ld Q q 3 x6 G5) fun x7 =>
  bP (bn Q q .lss 3 (.tmp 13) (.const (.int .i64 0)) x7 (.int .i64 0)) fun x8 =>
  bS (gP x8 true (fa Q q 29 3 3 x3) G5) fun x9 G10 =>
  bS (gP x8 true (fa Q q 24 0 0 x9) G10) fun x11 G12 =>
  bS (gP x8 true (ld Q q 3 x11 G12) G12) fun x13 G14 =>
  bS (gP x8 true (bn Q q .eql 3 (.tmp 18) (.const (.int .i64 7)) x13 (.int .i64 7)) G14) fun x15 G16 =>
  bP (pickV x8 x15 (.bool false)) fun x17 =>
  ifV x17 (
  bP (bn Q q .add 3 (.tmp 21) (.const (.int .i64 1)) a3_ (.int .i64 1)) fun x18 =>
  bP (bn Q q .add 3 (.tmp 8) (.const (.int .i64 1)) a8_ (.int .i64 1)) fun x19 =>
  lp (xq q 25 τ [(8, x19), (23, x19), (3, x18), (22, x18), (21, a3_), (20, x17), (19, x15), (18, x13), (17, x11), (16, x9), (15, x8), (14, x8), (13, x7), (12, x6), (5, x3), (11, x2), (10, x1), (9, x0)] [(6, a6_), (7, a7_)]) G16) (
  bP (bn Q q .add 3 (.tmp 8) (.const (.int .i64 1)) a8_ (.int .i64 1)) fun x20 =>
  lp (xq q 25 τ [(8, x20), (23, x20), (20, x17), (19, x15), (18, x13), (17, x11), (16, x9), (15, x8), (14, x8), (13, x7), (12, x6), (5, x3), (11, x2), (10, x1), (9, x0)] [(3, a3_), (6, a6_), (7, a7_)]) G16)) (
  some ((.exit 0), xq q 25 τ [(9, x0)] [(3, a3_), (6, a6_), (7, a7_), (8, a8_)], G))
theorem l99_0 (h : ExLe Q e (E orc)) : LT orc 25 (subAt [1, 1, 0, 1, 0, 0] (bodyOf Tryz.f99)) (b99_0 true e) := cL fun hlp τ G => by unfold b99_0; exact Ref.gq
/-- coxswain/linear.loose -/
def s99 (q : Bool) (e : Ex) (v0 : Value) (G : GS) : OG :=
  bP (ln Q q 38 v0) fun x0 =>
  bLq q e 99 0 (subAt [1, 1, 0, 1, 0, 0] (bodyOf Tryz.f99)) 25 (nth undef [v0]) [(8, (.int .i64 0)), (7, x0), (6, v0), (3, (.int .i64 0)), (2, (.int .i64 0))] [] G fun e1 t2 G3 =>
  bV q (t2 3) fun t2x3_ =>
  ifE e1 (.exit 0) (
  some (t2x3_, G3)) (none)
theorem f99 (h : ExLe Q e (E orc)) (v0 : Value) (G : GS) : Ref (s99 true e v0 G) ((E orc).cl 99 [v0] G) := cS (S := fun q e => s99 q e v0 G) Tryz.func99 (by unfold s99; exact Ref.gq)
/-- (coxswain/linear.machine[[]uint64]).begins -/
def s100 (q : Bool) (e : Ex) (v0 v1 v2 : Value) (G : GS) : OG :=
  bS (bx q v0 G) fun x0 G1 =>
  bS (al Q q 4 z4 G1) fun x2 G3 =>
  bP (lda Q q 104 4 x0 G3) fun x4 =>
  bS (e.ev.cl 171 [x4, v1, v2] G3) fun x5 G6 =>
  bX (xRange e.ev x5 #[11] (subAt [1, 0, 1, 0, 0] (bodyOf Tryz.f100)) (subAt [1, 0, 1, 0, 1] (bodyOf Tryz.f100)) (lsq q 12 (nth undef [v0, v1, v2]) [(10, x5), (9, v2), (8, v1), (7, x4), (6, x2), (3, x0)]) G6) fun e7 T8 G9 =>
  bV q (nth undef T8 6) fun T8x6_ =>
  ifE e7 .normal (
  bP (st Q q 4 1 T8x6_ (.bool false) G9) fun G10 =>
  bP (ld Q q 4 T8x6_ G10) fun x11 =>
  some (x11, G10)) (ifE e7 .ret (
  bP (ld Q q 4 T8x6_ G9) fun x12 =>
  some (x12, G9)) (none))
theorem f100 (h : ExLe Q e (E orc)) (v0 v1 v2 : Value) (G : GS) : Ref (s100 true e v0 v1 v2 G) ((E orc).cl 100 [v0, v1, v2] G) := cS (S := fun q e => s100 q e v0 v1 v2 G) Tryz.func100 (by unfold s100; exact Ref.gq)
def r100_0 (q : Bool) (e : Ex) (l : Nat) (τ : Env) (u0 : Value) (G : GS) : OG :=
  bV q (τ 6) fun a6_ =>
  bP (G.loop l) fun r0 => if r0.st = .ready then
  bP (st Q q 4 1 a6_ (.bool true) (G.putLoop l (Lp.setSt r0 .busy))) fun G1 =>
  roundEnd l .ret G1
  else none
theorem mr100_0 {e : Ex} {E : Ev} (h : ExLe Q e E) (l : Nat) (τ : Env) (u0 : Value) (G : GS) : Ref (r100_0 true e l τ u0 G) (r100_0 false (Ex.of E) l τ u0 G) := by
  unfold r100_0
  repeat' (with_reducible first | exact Ref.rfl' _ | exact ROp.r | refine Ref.bP ?_ fun _ => ?_ | refine Ref.bS ?_ fun _ _ => ?_ | exact Ref.cl (by assumption) | refine Ref.ifV ?_ ?_ | refine LpLe.rx (by assumption) ?_ | refine Ref.xitq ?_ | exact UOk.z | refine UOk.c (by assumption) ?_ | exact Ref.nil _ | refine Ref.bVe fun _ _ => ?_ | refine Ref.bLq (by assumption) ?_ fun _ _ _ => ?_ | refine Ref.ifE ?_ ?_ | refine Ref.chk ?_ ?_ | refine Imp.and ?_ ?_ | refine Imp.or ?_ | exact Imp.rfl' _ | refine Imp.sameO ?_ | refine Ref.gd ?_ | exact Ref.cValue (by assumption) | refine Ref.bX ?_ fun _ _ _ => ?_ | exact Ref.scQ (by assumption) | exact Ref.xRangeQ (by assumption) | exact Ref.cInvoke (by assumption) | refine Ref.rdy ?_)
theorem d100_0 {orc : FuncId → Bool} {e : Ex} (h : ExLe Q e (E orc)) (l : Nat) (T : List Value) (u0 : Value) (G : GS) {st : LoopState} {pend : Option Code} (hl : G.loop l = some ⟨st, pend, T, [11], (subAt [1, 0, 1, 0, 0] (bodyOf Tryz.f100)), (subAt [1, 0, 1, 0, 1] (bodyOf Tryz.f100))⟩) (hT : T.length = 12) : Ref (r100_0 true e l (nth undef T) u0 G) ((E orc).rd l [u0] G) :=
  fun r hr => rd_sxE Q orc hl (by kernel_rfl) hT (by kernel_rfl) (mr100_0 h l _ u0 G r hr)
def b101_0 (q : Bool) (e : Ex) (lp : LpF) (τ : Env) (G : GS) : OL :=
  bV q (τ 1) fun a1_ =>
  bV q (τ 7) fun a7_ =>
  bV q (τ 8) fun a8_ =>
  bV q (τ 9) fun a9_ =>
  bP (bn Q q .lss 3 (.tmp 9) (.tmp 8) a9_ a8_) fun x0 =>
  ifV x0 (
  bP (ias Q q 38 10 a7_ a9_) fun x1 =>
  bP (lda Q q 29 10 x1 G) fun x2 =>
  bS (al Q q 29 z29 G) fun x3 G4 =>
  bP (st Q q 29 10 x3 x2 G4) fun G5 =>
  bP (fa Q q 29 2 2 x3) fun x6 =>
  bP (ld Q q 3 x6 G5) fun x7 =>
  bP (bn Q q .geq 3 (.tmp 15) (.const (.int .i64 0)) x7 (.int .i64 0)) fun x8 =>
  bS (gV x8 true a1_ G5) fun x9 G10 =>
  bS (gV x8 true a9_ G10) fun x11 G12 =>
  bS (gP x8 true (bn Q q .shr 3 (.tmp 18) (.tmp 19) x9 x11) G12) fun x13 G14 =>
  bS (gP x8 true (bn Q q .and 3 (.tmp 20) (.const (.int .i64 1)) x13 (.int .i64 1)) G14) fun x15 G16 =>
  bS (gP x8 true (bn Q q .eql 3 (.tmp 21) (.const (.int .i64 0)) x15 (.int .i64 0)) G16) fun x17 G18 =>
  bP (pickV x8 x17 (.bool false)) fun x19 =>
  ifV x19 (
  some (.ret, xq q 25 τ [(4, (.bool false)), (23, x19), (22, x17), (21, x15), (20, x13), (19, x11), (18, x9), (17, x8), (16, x8), (15, x7), (14, x6), (5, a9_), (6, x3), (13, x2), (12, x1), (11, a9_), (10, x0)] [(1, a1_), (7, a7_), (8, a8_), (9, a9_)], G18)) (
  bP (bn Q q .add 3 (.tmp 9) (.const (.int .i64 1)) a9_ (.int .i64 1)) fun x20 =>
  lp (xq q 25 τ [(9, x20), (24, x20), (23, x19), (22, x17), (21, x15), (20, x13), (19, x11), (18, x9), (17, x8), (16, x8), (15, x7), (14, x6), (5, a9_), (6, x3), (13, x2), (12, x1), (11, a9_), (10, x0)] [(1, a1_), (7, a7_), (8, a8_)]) G18)) (
  some ((.exit 0), xq q 25 τ [(10, x0)] [(1, a1_), (7, a7_), (8, a8_), (9, a9_)], G))
theorem l101_0 (h : ExLe Q e (E orc)) : LT orc 25 (subAt [1, 0, 1, 0, 0] (bodyOf Tryz.f101)) (b101_0 true e) := cL fun hlp τ G => by unfold b101_0; exact Ref.gq
/-- coxswain/linear.over -/
def s101 (q : Bool) (e : Ex) (v0 v1 : Value) (G : GS) : OG :=
  bP (ln Q q 38 v0) fun x0 =>
  bLq q e 101 0 (subAt [1, 0, 1, 0, 0] (bodyOf Tryz.f101)) 25 (nth undef [v0, v1]) [(9, (.int .i64 0)), (8, x0), (7, v0), (4, (.bool false))] [] G fun e1 t2 G3 =>
  bV q (t2 4) fun t2x4_ =>
  ifE e1 (.exit 0) (
  some ((.bool true), G3)) (ifE e1 .ret (
  some (t2x4_, G3)) (none))
theorem f101 (h : ExLe Q e (E orc)) (v0 v1 : Value) (G : GS) : Ref (s101 true e v0 v1 G) ((E orc).cl 101 [v0, v1] G) := cS (S := fun q e => s101 q e v0 v1 G) Tryz.func101 (by unfold s101; exact Ref.gq)
def b102_0 (q : Bool) (e : Ex) (lp : LpF) (τ : Env) (G : GS) : OL :=
  bV q (τ 0) fun a0_ =>
  bV q (τ 1) fun a1_ =>
  bV q (τ 2) fun a2_ =>
  bV q (τ 14) fun a14_ =>
  bV q (τ 15) fun a15_ =>
  bV q (τ 16) fun a16_ =>
  bP (bn Q q .lss 3 (.tmp 16) (.tmp 15) a16_ a15_) fun x0 =>
  ifV x0 (
  bP (ias Q q 38 10 a14_ a16_) fun x1 =>
  bP (lda Q q 29 10 x1 G) fun x2 =>
  bS (al Q q 29 z29 G) fun x3 G4 =>
  bP (st Q q 29 10 x3 x2 G4) fun G5 =>
  bP (bn Q q .neq 3 (.tmp 21) (.tmp 22) a16_ a2_) fun x6 =>
  bS (gV x6 true a1_ (G5.room 18)) fun x7 _ =>
  bS (gV x6 true a16_ (G5.room 18)) fun x8 _ =>
  bS (gP x6 true (bn Q q .shr 3 (.tmp 25) (.tmp 26) x7 x8) (G5.room 18)) fun x9 _ =>
  bS (gP x6 true (bn Q q .and 3 (.tmp 27) (.const (.int .i64 1)) x9 (.int .i64 1)) (G5.room 18)) fun x10 _ =>
  bS (gP x6 true (bn Q q .eql 3 (.tmp 28) (.const (.int .i64 0)) x10 (.int .i64 0)) (G5.room 18)) fun x11 _ =>
  bP (pickV x6 x11 (.bool false)) fun x12 =>
  bS (gP x12 true (lda Q q 29 10 x3 (G5.room 18)) (G5.room 18)) fun x13 _ =>
  bS (gV x12 true a0_ (G5.room 18)) fun x14 _ =>
  bS (gV x12 true a2_ (G5.room 18)) fun x15 _ =>
  bS (gP x12 true (ias Q q 38 10 x14 x15) (G5.room 18)) fun x16 _ =>
  bS (gP x12 true (lda Q q 29 10 x16 (G5.room 18)) (G5.room 18)) fun x17 _ =>
  bS (gS x12 true (e.ev.cl 21 [x13, x17] (G5.room 18)) (G5.room 18)) fun x19 G18 =>
  bP (pickV x12 x19 (.bool false)) fun x20 =>
  ifV x20 (
  some (.ret, xq q 40 τ [(6, (.bool false)), (38, x20), (37, x19), (36, x17), (35, x16), (34, x15), (33, x14), (32, x13), (31, x12), (30, x12), (29, x11), (28, x10), (27, x9), (26, x8), (25, x7), (24, x6), (23, x6), (22, a2_), (21, a16_), (7, a16_), (8, x3), (20, x2), (19, x1), (18, a16_), (17, x0)] [(0, a0_), (1, a1_), (2, a2_), (14, a14_), (15, a15_), (16, a16_)], G18)) (
  bP (bn Q q .add 3 (.tmp 16) (.const (.int .i64 1)) a16_ (.int .i64 1)) fun x21 =>
  lp (xq q 40 τ [(16, x21), (39, x21), (38, x20), (37, x19), (36, x17), (35, x16), (34, x15), (33, x14), (32, x13), (31, x12), (30, x12), (29, x11), (28, x10), (27, x9), (26, x8), (25, x7), (24, x6), (23, x6), (22, a2_), (21, a16_), (7, a16_), (8, x3), (20, x2), (19, x1), (18, a16_), (17, x0)] [(0, a0_), (1, a1_), (2, a2_), (14, a14_), (15, a15_)]) G18)) (
  some ((.exit 0), xq q 40 τ [(17, x0)] [(0, a0_), (1, a1_), (2, a2_), (14, a14_), (15, a15_), (16, a16_)], G))
theorem l102_0 (h : ExLe Q e (E orc)) : LT orc 40 (subAt [1, 1, 0, 1, 0, 0] (bodyOf Tryz.f102)) (b102_0 true e) := cL fun hlp τ G => by unfold b102_0; exact Ref.gq
/-- coxswain/linear.ready -/
def s102 (q : Bool) (e : Ex) (v0 v1 v2 : Value) (G : GS) : OG :=
  bP (bn Q q .shr 3 (.tmp 9) (.tmp 10) v1 v2) fun x0 =>
  bP (bn Q q .and 3 (.tmp 11) (.const (.int .i64 1)) x0 (.int .i64 1)) fun x1 =>
  bP (bn Q q .eql 3 (.tmp 12) (.const (.int .i64 1)) x1 (.int .i64 1)) fun x2 =>
  ifV x2 (
  some ((.bool false), G)) (
  bP (ln Q q 38 v0) fun x3 =>
  bLq q e 102 0 (subAt [1, 1, 0, 1, 0, 0] (bodyOf Tryz.f102)) 40 (nth undef [v0, v1, v2]) [(16, (.int .i64 0)), (15, x3), (14, v0), (13, x2), (12, x1), (11, x0), (10, v2), (9, v1), (6, (.bool false))] [] G fun e4 t5 G6 =>
  bV q (t5 6) fun t5x6_ =>
  ifE e4 (.exit 0) (
  some ((.bool true), G6)) (ifE e4 .ret (
  some (t5x6_, G6)) (none)))
theorem f102 (h : ExLe Q e (E orc)) (v0 v1 v2 : Value) (G : GS) : Ref (s102 true e v0 v1 v2 G) ((E orc).cl 102 [v0, v1, v2] G) := cS (S := fun q e => s102 q e v0 v1 v2 G) Tryz.func102 (by unfold s102; exact Ref.gq)
/-- coxswain/linear.queues$1 -/
def s103 (q : Bool) (e : Ex) (v0 v1 v2 v3 : Value) (G : GS) : OG :=
  bS (bx q v1 G) fun x0 G1 =>
  bS (bx q v2 G1) fun x2 G3 =>
  bP (ld Q q 3 v3 G3) fun x4 =>
  bP (lda Q q 24 4 x0 G3) fun x5 =>
  bP (lda Q q 27 3 x2 G3) fun x6 =>
  bS (e.ev.cl 52 [x4, v0, x5, x6] G3) fun x7 G8 =>
  bP (pExtract x7 0) fun x9 =>
  bP (pExtract x7 1) fun x10 =>
  some (.tuple #[x9, x10], G8)
theorem f103 (h : ExLe Q e (E orc)) (v0 v1 v2 v3 : Value) (G : GS) : Ref (s103 true e v0 v1 v2 v3 G) ((E orc).cl 103 [v0, v1, v2, v3] G) := cS (S := fun q e => s103 q e v0 v1 v2 v3 G) Tryz.func103 (by unfold s103; exact Ref.gq)
/-- coxswain/linear.queues$2 -/
def s104 (q : Bool) (e : Ex) (v0 v1 : Value) (G : GS) : OG :=
  bS (bx q v1 G) fun x0 G1 =>
  fl q 24 0 0 3 x0 G1 fun x3 =>
  bP (bn Q q .neq 3 (.tmp 6) (.const (.int .i64 2)) x3 (.int .i64 2)) fun x4 =>
  ifV x4 (
  bP (bd Q q 27 z27 [] []) fun x5 =>
  bS (bs Q q 180 1 (rep z27 1) 3 [(0, 0, 3)] [x5] G1) fun x6 G7 =>
  some (x6, G7)) (
  bP (ln Q q 74 v0) fun x8 =>
  bP (bn Q q .eql 3 (.tmp 11) (.const (.int .i64 0)) x8 (.int .i64 0)) fun x9 =>
  ifV x9 (
  some ((.slice none 0 0), G1)) (
  bP (ias Q q 74 1 v0 (.int .i64 0)) fun x10 =>
  bP (ld Q q 22 x10 G1) fun x11 =>
  bP (bd Q q 27 z27 [(2, 2, 1)] [x11]) fun x12 =>
  bS (bs Q q 180 1 (rep z27 1) 3 [(0, 0, 3)] [x12] G1) fun x13 G14 =>
  some (x13, G14)))
theorem f104 (h : ExLe Q e (E orc)) (v0 v1 : Value) (G : GS) : Ref (s104 true e v0 v1 G) ((E orc).cl 104 [v0, v1] G) := cS (S := fun q e => s104 q e v0 v1 G) Tryz.func104 (by unfold s104; exact Ref.gq)
def jb113_0 (q : Bool) (e : Ex) (τ : Env) (G : GS) : OG :=
  bV q (τ 8) fun a8_ =>
  bP (lda Q q 276 16 a8_ G) fun x12 =>
  bS (e.ev.cl 180 [x12, (.int .i64 1024)] G) fun x13 G14 =>
  some (.tuple #[x13, (.bool true)], G14)
def j113_0 (q : Bool) (e : Ex) (τ : Env) (G : GS) : OG := jb113_0 q e τ G
theorem mj113_0 {e : Ex} {E : Ev} (h : ExLe Q e E) (τ : Env) (G : GS) : Ref (j113_0 true e τ G) (j113_0 false (Ex.of E) τ G) := by
  unfold j113_0 jb113_0
  exact Ref.gq
theorem mkj113_0 {e : Ex} {E : Ev} (h : ExLe Q e E) {τ : Env} {l U : List (Nat × Value)} {G : GS} (hU : UOk τ U) : Ref (j113_0 true e (xq true 72 τ l U) G) (j113_0 false (Ex.of E) (xq false 72 τ l U) G) := by
  rw [xq_eq hU]
  exact mj113_0 h _ _
def sb113 (q : Bool) (e : Ex) (J0 : Env → GS → OG) (v0 v1 v2 : Value) (G : GS) : OG :=
  bS (bx q v1 G) fun x0 G1 =>
  bS (bx q v2 G1) fun x2 G3 =>
  bS (e.ev.cl 181 [v0] G3) fun x4 G5 =>
  bP (bn Q q .neq 25 (.tmp 14) (.const (.int .i64 0)) x4 (.int .i64 0)) fun x6 =>
  ifV x6 (
  some (.tuple #[(.slice none 0 0), (.bool false)], G5)) (
  bS (e.ev.cl 177 [v0] G5) fun x7 G8 =>
  bS (al Q q 276 z276 G8) fun x9 G10 =>
  bP (st Q q 276 16 x9 x7 G10) fun G11 =>
  bP (fa Q q 24 0 0 x0) fun x15 =>
  bP (ld Q q 3 x15 G11) fun x16 =>
  bP (bn Q q .eql 3 (.tmp 19) (.const (.int .i64 8)) x16 (.int .i64 8)) fun x17 =>
  ifV x17 (
  bP (lda Q q 276 16 x9 G11) fun x18 =>
  bP (fa Q q 24 1 1 x0) fun x19 =>
  bP (ld Q q 3 x19 G11) fun x20 =>
  bS (e.ev.cl 182 [x18, x20] G11) fun x21 G22 =>
  bP (pExtract x21 0) fun x23 =>
  bP (pExtract x21 1) fun x24 =>
  bS (al Q q 27 z27 G22) fun x25 G26 =>
  bS (al Q q 276 z276 G26) fun x27 G28 =>
  bP (st Q q 27 3 x25 x23 G28) fun G29 =>
  bP (st Q q 276 16 x27 x24 G29) fun G30 =>
  bP (lda Q q 27 3 x25 G30) fun x31 =>
  bP (lda Q q 27 3 x2 G30) fun x32 =>
  bP (bn Q q .neq 27 (.tmp 29) (.tmp 30) x31 x32) fun x33 =>
  ifV x33 (
  some (.tuple #[(.slice none 0 0), (.bool false)], G30)) (
  bP (lda Q q 276 16 x27 G30) fun x34 =>
  bP (st Q q 276 16 x9 x34 G30) fun G35 =>
  J0 (xq q 72 (nth undef [v0, v1, v2]) [(32, x34), (31, x33), (30, x32), (29, x31), (10, x27), (9, x25), (28, x24), (27, x23), (22, x21), (26, x21), (25, x20), (24, x19), (23, x18), (20, x17), (21, x17), (19, x16), (18, x15), (8, x9), (17, x7), (16, v0), (15, x6), (14, x4), (13, v0), (7, (.bool false)), (6, (.slice none 0 0)), (5, x2), (4, x0)] []) G35)) (
  bP (bn Q q .eql 3 (.tmp 19) (.const (.int .i64 7)) x16 (.int .i64 7)) fun x36 =>
  ifV x36 (
  bP (lda Q q 27 3 x2 G11) fun x37 =>
  bP (bd Q q 27 z27 [(0, 0, 1)] [(.int .i64 7)]) fun x38 =>
  bP (bn Q q .eql 27 (.tmp 35) (.tmp 36) x37 x38) fun x39 =>
  bS (gP x39 false (lda Q q 27 3 x2 G11) G11) fun x40 G41 =>
  bS (gP x39 false (bd Q q 27 z27 [(0, 0, 1)] [(.int .i64 12)]) G41) fun x42 G43 =>
  bS (gP x39 false (bn Q q .eql 27 (.tmp 39) (.tmp 40) x40 x42) G43) fun x44 G45 =>
  bP (pickV x39 (.bool true) x44) fun x46 =>
  bP (fa Q q 27 1 1 x2) fun x47 =>
  bP (ld Q q 3 x47 G45) fun x48 =>
  bS (e.ev.cl 183 [x48] G45) fun x49 G50 =>
  bS (gP x49 true (lda Q q 27 3 x2 G50) G50) fun x51 G52 =>
  bS (gP x49 true (fa Q q 27 1 1 x2) G52) fun x53 G54 =>
  bS (gP x49 true (ld Q q 3 x53 G54) G54) fun x55 G56 =>
  bS (gP x49 true (bd Q q 27 z27 [(1, 1, 1)] [x55]) G56) fun x57 G58 =>
  bS (gP x49 true (bn Q q .eql 27 (.tmp 47) (.tmp 50) x51 x57) G58) fun x59 G60 =>
  bP (pickV x49 x59 (.bool false)) fun x61 =>
  bS (gP x61 true (lda Q q 276 16 x9 G60) G60) fun x62 G63 =>
  bS (gP x61 true (fa Q q 27 1 1 x2) G63) fun x64 G65 =>
  bS (gP x61 true (ld Q q 3 x64 G65) G65) fun x66 G67 =>
  bS (gS x61 true (e.ev.cl 184 [x62, x66] G67) G67) fun x68 G69 =>
  bP (pickV x61 x68 (.bool false)) fun x70 =>
  bP (un Q q .not x46) fun x71 =>
  bS (gV x71 true x70 G69) fun x72 G73 =>
  bS (gP x71 true (un Q q .not x72) G73) fun x74 G75 =>
  bP (pickV x71 x74 (.bool false)) fun x76 =>
  ifV x76 (
  some (.tuple #[(.slice none 0 0), (.bool false)], G75)) (
  ifV x70 (
  bP (lda Q q 276 16 x9 G75) fun x77 =>
  bP (fa Q q 27 1 1 x2) fun x78 =>
  bP (ld Q q 3 x78 G75) fun x79 =>
  bS (e.ev.cl 179 [x77, x79] G75) fun x80 G81 =>
  bP (st Q q 276 16 x9 x80 G81) fun G82 =>
  J0 (xq q 72 (nth undef [v0, v1, v2]) [(69, x80), (68, x79), (67, x78), (66, x77), (65, x70), (64, x76), (63, x74), (62, x72), (61, x71), (60, x71), (59, x46), (12, x70), (58, x70), (57, x68), (56, x66), (55, x64), (54, x62), (53, x61), (52, x61), (51, x59), (50, x57), (49, x55), (48, x53), (47, x51), (46, x49), (45, x49), (44, x48), (43, x47), (11, x46), (42, x46), (41, x44), (40, x42), (39, x40), (38, x39), (37, x39), (36, x38), (35, x37), (33, x36), (34, x36), (20, x17), (21, x17), (19, x16), (18, x15), (8, x9), (17, x7), (16, v0), (15, x6), (14, x4), (13, v0), (7, (.bool false)), (6, (.slice none 0 0)), (5, x2), (4, x0)] []) G82) (
  J0 (xq q 72 (nth undef [v0, v1, v2]) [(65, x70), (64, x76), (63, x74), (62, x72), (61, x71), (60, x71), (59, x46), (12, x70), (58, x70), (57, x68), (56, x66), (55, x64), (54, x62), (53, x61), (52, x61), (51, x59), (50, x57), (49, x55), (48, x53), (47, x51), (46, x49), (45, x49), (44, x48), (43, x47), (11, x46), (42, x46), (41, x44), (40, x42), (39, x40), (38, x39), (37, x39), (36, x38), (35, x37), (33, x36), (34, x36), (20, x17), (21, x17), (19, x16), (18, x15), (8, x9), (17, x7), (16, v0), (15, x6), (14, x4), (13, v0), (7, (.bool false)), (6, (.slice none 0 0)), (5, x2), (4, x0)] []) G75))) (
  some (.tuple #[(.slice none 0 0), (.bool false)], G11))))
/-- coxswain/pool.Next -/
def s113 (q : Bool) (e : Ex) (v0 v1 v2 : Value) (G : GS) : OG := sb113 q e (j113_0 q e) v0 v1 v2 G
theorem m113 {e : Ex} {E : Ev} (h : ExLe Q e E) (v0 v1 v2 : Value) (G : GS) : Ref (s113 true e v0 v1 v2 G) (s113 false (Ex.of E) v0 v1 v2 G) := by
  unfold s113 sb113
  have j0 := @mkj113_0 e E h
  exact Ref.gj
/-- coxswain/linear.pools$1 -/
def s114 (q : Bool) (e : Ex) (v0 v1 : Value) (G : GS) : OG :=
  bS (bx q v1 G) fun x0 G1 =>
  bP (fa Q q 24 0 0 x0) fun x2 =>
  bP (ld Q q 3 x2 G1) fun x3 =>
  bP (bn Q q .neq 3 (.tmp 9) (.const (.int .i64 7)) x3 (.int .i64 7)) fun x4 =>
  ifV x4 (
  bP (bd Q q 27 z27 [] []) fun x5 =>
  bS (bs Q q 180 1 (rep z27 1) 3 [(0, 0, 3)] [x5] G1) fun x6 G7 =>
  some (x6, G7)) (
  bP (ln Q q 35 v0) fun x8 =>
  bLq q e 114 0 (subAt [1, 1, 1, 0, 1, 0, 0] (bodyOf Tryz.f114)) 26 (nth undef [v0, v1]) [(15, (.int .i64 0)), (14, x8), (13, v0), (5, (.slice none 0 0)), (10, x4), (9, x3), (8, x2), (4, (.slice none 0 0)), (3, x0)] [] G1 fun e9 t10 G11 =>
  bV q (t10 5) fun t10x5_ =>
  ifE e9 (.exit 0) (
  some (t10x5_, G11)) (none))
theorem f114 (h : ExLe Q e (E orc)) (v0 v1 : Value) (G : GS) : Ref (s114 true e v0 v1 G) ((E orc).cl 114 [v0, v1] G) := cS (S := fun q e => s114 q e v0 v1 G) Tryz.func114 (by unfold s114; exact Ref.gq)
/-- (coxswain/linear.machine[[]uint64]).told -/
def s119 (q : Bool) (e : Ex) (v0 v1 v2 : Value) (G : GS) : OG :=
  bS (bx q v0 G) fun x0 G1 =>
  bS (bx q v2 G1) fun x2 G3 =>
  fl q 29 2 2 3 x2 G3 fun x5 =>
  bP (bn Q q .geq 3 (.tmp 8) (.const (.int .i64 0)) x5 (.int .i64 0)) fun x6 =>
  ifV x6 (
  bP (fa Q q 29 4 7 x2) fun x7 =>
  bP (lda Q q 27 3 x7 G3) fun x8 =>
  bS (bs Q q 180 1 (rep z27 1) 3 [(0, 0, 3)] [x8] G3) fun x9 G10 =>
  some (x9, G10)) (
  fl q 104 2 2 101 x0 G3 fun x12 =>
  bP (fa Q q 29 3 3 x2) fun x13 =>
  bP (lda Q q 24 4 x13 G3) fun x14 =>
  bS (cValue e.ev x12 [v1, x14] G3) fun x15 G16 =>
  some (x15, G16))
theorem f119 (h : ExLe Q e (E orc)) (v0 v1 v2 : Value) (G : GS) : Ref (s119 true e v0 v1 v2 G) ((E orc).cl 119 [v0, v1, v2] G) := cS (S := fun q e => s119 q e v0 v1 v2 G) Tryz.func119 (by unfold s119; exact Ref.gq)
/-- coxswain/fifo.Check -/
def s122 (q : Bool) (e : Ex) (v0 v1 : Value) (G : GS) : OG :=
  bP (bn Q q .lss 3 (.tmp 6) (.const (.int .i64 1)) v0 (.int .i64 1)) fun x0 =>
  bS (gV x0 false v0 G) fun x1 G2 =>
  bS (gP x0 false (bn Q q .gtr 3 (.tmp 9) (.const (.int .i64 1024)) x1 (.int .i64 1024)) G2) fun x3 G4 =>
  bP (pickV x0 (.bool true) x3) fun x5 =>
  ifV x5 (
  some ((.int .i64 3), G4)) (
  bP (ln Q q 74 v1) fun x6 =>
  bP (bn Q q .gtr 3 (.tmp 14) (.tmp 15) x6 v0) fun x7 =>
  ifV x7 (
  some ((.int .i64 7), G4)) (
  some ((.int .i64 0), G4)))
theorem f122 (h : ExLe Q e (E orc)) (v0 v1 : Value) (G : GS) : Ref (s122 true e v0 v1 G) ((E orc).cl 122 [v0, v1] G) := cS (S := fun q e => s122 q e v0 v1 G) Tryz.func122 (by unfold s122; exact Ref.gq)
/-- coxswain/fifo.does -/
def s123 (q : Bool) (e : Ex) (v0 v1 v2 : Value) (G : GS) : OG :=
  bS (bx q v1 G) fun x0 G1 =>
  bS (bx q v2 G1) fun x2 G3 =>
  bS (al Q q 27 z27 G3) fun x4 G5 =>
  bS (al Q q 27 z27 G5) fun x6 G7 =>
  bP (fa Q q 24 0 0 x2) fun x8 =>
  bP (ld Q q 3 x8 G7) fun x9 =>
  bP (bn Q q .eql 3 (.tmp 13) (.const (.int .i64 1)) x9 (.int .i64 1)) fun x10 =>
  ifV x10 (
  fl q 202 2 1025 3 x0 G7 fun x12 =>
  bP (bn Q q .geq 3 (.tmp 17) (.tmp 18) x12 v0) fun x13 =>
  ifV x13 (
  bP (bd Q q 27 z27 [(0, 0, 1)] [(.int .i64 7)]) fun x14 =>
  bP (st Q q 27 3 x4 x14 G7) fun G15 =>
  bP (lda Q q 27 3 x4 G15) fun x16 =>
  some (.tuple #[x16, (.func (.func 186) #[] #[x0]), (.bool true)], G15)) (
  bP (lda Q q 27 3 x6 G7) fun x17 =>
  bP (st Q q 27 3 x4 x17 G7) fun G18 =>
  bP (lda Q q 27 3 x4 G18) fun x19 =>
  some (.tuple #[x19, (.func (.func 187) #[] #[x0, x2]), (.bool true)], G18))) (
  bP (bn Q q .eql 3 (.tmp 13) (.const (.int .i64 2)) x9 (.int .i64 2)) fun x20 =>
  ifV x20 (
  bP (fa Q q 202 2 1025 x0) fun x21 =>
  bP (ld Q q 3 x21 G7) fun x22 =>
  bP (bn Q q .eql 3 (.tmp 27) (.const (.int .i64 0)) x22 (.int .i64 0)) fun x23 =>
  ifV x23 (
  bX (e.ev.sc (subAt [1, 0] (bodyOf Tryz.f123)) (labelAt 0 (subAt [1, 0] (bodyOf Tryz.f123))) (lsq q 45 (nth undef [v0, v1, v2]) [(28, x23), (27, x22), (26, x21), (24, x20), (25, x20), (14, x10), (15, x10), (13, x9), (12, x8), (10, x6), (9, (.func (.func 186) #[] #[x0])), (11, (.func (.func 186) #[] #[x0])), (8, (.bool false)), (7, .nilFunc), (6, x4), (5, x2), (4, x0)]) G7) fun e24 T25 G26 =>
  bV q (nth undef T25 6) fun T25x6_ =>
  bV q (nth undef T25 7) fun T25x7_ =>
  bV q (nth undef T25 8) fun T25x8_ =>
  ifE e24 .normal (
  bP (lda Q q 27 3 T25x6_ G26) fun x27 =>
  some (.tuple #[x27, T25x7_, T25x8_], G26)) (ifE e24 (.goto 0) (
  none) (ifE e24 .ret (
  bP (lda Q q 27 3 T25x6_ G26) fun x28 =>
  some (.tuple #[x28, T25x7_, T25x8_], G26)) (none)))) (
  bP (lda Q q 202 1026 x0 G7) fun x29 =>
  bS (e.ev.cl 189 [x29] G7) fun x30 G31 =>
  bP (fa Q q 27 2 2 x6) fun x32 =>
  bP (st Q q 22 1 x32 x30 G31) fun G33 =>
  bP (lda Q q 27 3 x6 G33) fun x34 =>
  bP (st Q q 27 3 x4 x34 G33) fun G35 =>
  bP (lda Q q 27 3 x4 G35) fun x36 =>
  some (.tuple #[x36, (.func (.func 186) #[] #[x0]), (.bool true)], G35))) (
  bP (bn Q q .eql 3 (.tmp 13) (.const (.int .i64 3)) x9 (.int .i64 3)) fun x37 =>
  ifV x37 (
  bP (fa Q q 202 2 1025 x0) fun x38 =>
  bP (ld Q q 3 x38 G7) fun x39 =>
  bP (bn Q q .eql 3 (.tmp 37) (.const (.int .i64 0)) x39 (.int .i64 0)) fun x40 =>
  ifV x40 (
  bX (e.ev.sc (subAt [1, 0] (bodyOf Tryz.f123)) (labelAt 0 (subAt [1, 0] (bodyOf Tryz.f123))) (lsq q 45 (nth undef [v0, v1, v2]) [(38, x40), (37, x39), (36, x38), (34, x37), (35, x37), (24, x20), (25, x20), (14, x10), (15, x10), (13, x9), (12, x8), (10, x6), (9, (.func (.func 186) #[] #[x0])), (11, (.func (.func 186) #[] #[x0])), (8, (.bool false)), (7, .nilFunc), (6, x4), (5, x2), (4, x0)]) G7) fun e41 T42 G43 =>
  bV q (nth undef T42 6) fun T42x6_ =>
  bV q (nth undef T42 7) fun T42x7_ =>
  bV q (nth undef T42 8) fun T42x8_ =>
  ifE e41 .normal (
  bP (lda Q q 27 3 T42x6_ G43) fun x44 =>
  some (.tuple #[x44, T42x7_, T42x8_], G43)) (ifE e41 (.goto 0) (
  none) (ifE e41 .ret (
  bP (lda Q q 27 3 T42x6_ G43) fun x45 =>
  some (.tuple #[x45, T42x7_, T42x8_], G43)) (none)))) (
  bP (lda Q q 27 3 x6 G7) fun x46 =>
  bP (st Q q 27 3 x4 x46 G7) fun G47 =>
  bP (lda Q q 27 3 x4 G47) fun x48 =>
  some (.tuple #[x48, (.func (.func 190) #[] #[x0]), (.bool true)], G47))) (
  bP (lda Q q 27 3 x6 G7) fun x49 =>
  bP (st Q q 27 3 x4 x49 G7) fun G50 =>
  bP (lda Q q 27 3 x4 G50) fun x51 =>
  some (.tuple #[x51, (.func (.func 186) #[] #[x0]), (.bool false)], G50))))
theorem f123 (h : ExLe Q e (E orc)) (v0 v1 v2 : Value) (G : GS) : Ref (s123 true e v0 v1 v2 G) ((E orc).cl 123 [v0, v1, v2] G) := cS (S := fun q e => s123 q e v0 v1 v2 G) Tryz.func123 (by unfold s123; exact Ref.gq)
/-- coxswain/fifo.queue -/
def s124 (q : Bool) (e : Ex) (v0 : Value) (G : GS) : OG :=
  bS (al Q q 202 z202 G) fun x0 G1 =>
  bS (al Q q 202 z202 G1) fun x2 G3 =>
  bP (fa Q q 202 0 0 x2) fun x4 =>
  bP (sla Q q 200 1024 1 x4 none none none G3) fun x5 =>
  bS (cp Q q 74 1 x5 v0 G3) fun x6 G7 =>
  bP (fa Q q 202 2 1025 x2) fun x8 =>
  bP (st Q q 3 1 x8 x6 G7) fun G9 =>
  bP (lda Q q 202 1026 x2 G9) fun x10 =>
  bP (st Q q 202 1026 x0 x10 G9) fun G11 =>
  bP (lda Q q 202 1026 x0 G11) fun x12 =>
  some (x12, G11)
theorem f124 (h : ExLe Q e (E orc)) (v0 : Value) (G : GS) : Ref (s124 true e v0 G) ((E orc).cl 124 [v0] G) := cS (S := fun q e => s124 q e v0 G) Tryz.func124 (by unfold s124; exact Ref.gq)
def b125_0 (q : Bool) (e : Ex) (lp : LpF) (τ : Env) (G : GS) : OL :=
  bV q (τ 1) fun a1_ =>
  bV q (τ 3) fun a3_ =>
  bV q (τ 6) fun a6_ =>
  bV q (τ 7) fun a7_ =>
  bP (bn Q q .lss 3 (.tmp 7) (.tmp 6) a7_ a6_) fun x0 =>
  ifV x0 (
  bP (fa Q q 202 1 1024 a1_) fun x1 =>
  bP (ld Q q 3 x1 G) fun x2 =>
  bP (bn Q q .add 3 (.tmp 12) (.tmp 13) x2 a7_) fun x3 =>
  bP (bn Q q .rem 3 (.tmp 14) (.const (.int .i64 1024)) x3 (.int .i64 1024)) fun x4 =>
  bP (fa Q q 202 0 0 a1_) fun x5 =>
  bP (iaa Q q 200 1024 1 x5 x4) fun x6 =>
  bP (ld Q q 22 x6 G) fun x7 =>
  bS (bs Q q 74 1 (rep z22 1) 1 [(0, 0, 1)] [x7] G) fun x8 G9 =>
  bS (ap Q q 74 74 1 8 a3_ x8 G9) fun x10 G11 =>
  bP (bn Q q .add 3 (.tmp 7) (.const (.int .i64 1)) a7_ (.int .i64 1)) fun x12 =>
  lp (xq q 23 τ [(7, x12), (21, x12), (3, x10), (20, x10), (19, x8), (18, x7), (17, x6), (16, x5), (15, x4), (14, x3), (13, a7_), (12, x2), (11, x1), (10, a3_), (4, a7_), (9, a7_), (8, x0)] [(1, a1_), (6, a6_)]) G11) (
  some ((.exit 0), xq q 23 τ [(8, x0)] [(1, a1_), (3, a3_), (6, a6_), (7, a7_)], G))
theorem l125_0 (h : ExLe Q e (E orc)) : LT orc 23 (subAt [1, 1, 0, 1, 0, 0] (bodyOf Tryz.f125)) (b125_0 true e) := cL fun hlp τ G => by unfold b125_0; exact Ref.gq
/-- (coxswain/fifo.ring[uint64]).list -/
def s125 (q : Bool) (e : Ex) (v0 : Value) (G : GS) : OG :=
  bS (bx q v0 G) fun x0 G1 =>
  bP (fa Q q 202 2 1025 x0) fun x2 =>
  bP (ld Q q 3 x2 G1) fun x3 =>
  bLq q e 125 0 (subAt [1, 1, 0, 1, 0, 0] (bodyOf Tryz.f125)) 23 (nth undef [v0]) [(7, (.int .i64 0)), (6, x3), (5, x2), (3, (.slice none 0 0)), (2, (.slice none 0 0)), (1, x0)] [] G1 fun e4 t5 G6 =>
  bV q (t5 3) fun t5x3_ =>
  ifE e4 (.exit 0) (
  some (t5x3_, G6)) (none)
theorem f125 (h : ExLe Q e (E orc)) (v0 : Value) (G : GS) : Ref (s125 true e v0 G) ((E orc).cl 125 [v0] G) := cS (S := fun q e => s125 q e v0 G) Tryz.func125 (by unfold s125; exact Ref.gq)
/-- coxswain/heap.Check -/
def s126 (q : Bool) (e : Ex) (v0 : Value) (G : GS) : OG :=
  bP (ln Q q 107 v0) fun x0 =>
  bP (bn Q q .gtr 3 (.tmp 5) (.const (.int .i64 1024)) x0 (.int .i64 1024)) fun x1 =>
  ifV x1 (
  some ((.int .i64 7), G)) (
  bP (ln Q q 107 v0) fun x2 =>
  bLq q e 126 0 (subAt [1, 1, 0, 1, 0, 0] (bodyOf Tryz.f126)) 29 (nth undef [v0]) [(9, (.int .i64 0)), (8, x2), (7, v0), (6, x1), (5, x0), (4, v0), (2, (.int .i64 0))] [] G fun e3 t4 G5 =>
  bV q (t4 2) fun t4x2_ =>
  ifE e3 (.exit 0) (
  some ((.int .i64 0), G5)) (ifE e3 .ret (
  some (t4x2_, G5)) (none)))
theorem f126 (h : ExLe Q e (E orc)) (v0 : Value) (G : GS) : Ref (s126 true e v0 G) ((E orc).cl 126 [v0] G) := cS (S := fun q e => s126 q e v0 G) Tryz.func126 (by unfold s126; exact Ref.gq)
/-- slices.Clone[[]coxswain/api.Item,coxswain/api.Item] -/
def s129 (q : Bool) (e : Ex) (v0 : Value) (G : GS) : OG :=
  bP (es Q q false 107 (.tmp 3) (.const (.slice none 0 0)) v0 (.slice none 0 0)) fun x0 =>
  ifV x0 (
  some ((.slice none 0 0), G)) (
  bS (bs Q q 107 0 (rep z184 0) 2 [] [] G) fun x1 G2 =>
  bS (ap Q q 107 107 2 16 x1 v0 G2) fun x3 G4 =>
  some (x3, G4))
theorem f129 (h : ExLe Q e (E orc)) (v0 : Value) (G : GS) : Ref (s129 true e v0 G) ((E orc).cl 129 [v0] G) := cS (S := fun q e => s129 q e v0 G) Tryz.func129 (by unfold s129; exact Ref.gq)
/-- coxswain/ring.begun -/
def s133 (q : Bool) (e : Ex) (v0 : Value) (G : GS) : OG :=
  bS (bx q v0 G) fun x0 G1 =>
  bS (al Q q 214 z214 G1) fun x2 G3 =>
  bP (lda Q q 57 4 x0 G3) fun x4 =>
  bS (e.ev.cl 144 [x4] G3) fun x5 G6 =>
  bP (un Q q .not x5) fun x7 =>
  ifV x7 (
  bP (bd Q q 214 z214 [(2, 5, 1), (3, 6, 1)] [(.bool true), (.int .i64 2)]) fun x8 =>
  bP (st Q q 214 7 x2 x8 G6) fun G9 =>
  bP (lda Q q 214 7 x2 G9) fun x10 =>
  some (x10, G9)) (
  bP (lda Q q 57 4 x0 G6) fun x11 =>
  bP (bd Q q 214 z214 [(0, 0, 4), (2, 5, 1)] [x11, (.bool true)]) fun x12 =>
  bP (st Q q 214 7 x2 x12 G6) fun G13 =>
  bP (lda Q q 214 7 x2 G13) fun x14 =>
  some (x14, G13))
theorem f133 (h : ExLe Q e (E orc)) (v0 : Value) (G : GS) : Ref (s133 true e v0 G) ((E orc).cl 133 [v0] G) := cS (S := fun q e => s133 q e v0 G) Tryz.func133 (by unfold s133; exact Ref.gq)
/-- (*coxswain/ring.work).ends -/
def s134 (q : Bool) (e : Ex) (v0 v1 : Value) (G : GS) : OG :=
  nf q 214 1 4 v0 fun x1 =>
  bP (st Q q 212 1 x1 .nilFunc G) fun G2 =>
  nf q 214 3 6 v0 fun x4 =>
  bP (st Q q 25 1 x4 v1 G2) fun G5 =>
  some (.tuple #[], G5)
theorem f134 (h : ExLe Q e (E orc)) (v0 v1 : Value) (G : GS) : Ref (s134 true e v0 v1 G) ((E orc).cl 134 [v0, v1] G) := cS (S := fun q e => s134 q e v0 v1 G) Tryz.func134 (by unfold s134; exact Ref.gq)
/-- (*coxswain/ring.Push).tail -/
def s135 (q : Bool) (e : Ex) (v0 v1 : Value) (G : GS) : OG :=
  nf q 218 0 0 v0 fun x1 =>
  bP (fa Q q 214 0 0 x1) fun x2 =>
  fl q 57 1 1 3 x2 G fun x4 =>
  bS (e.ev.cl 59 [v1, x4] G) fun x5 G6 =>
  nf q 218 2 8 v0 fun x8 =>
  bP (st Q q 22 1 x8 x5 G6) fun G9 =>
  nf q 218 0 0 v0 fun x11 =>
  bP (fa Q q 214 1 4 x11) fun x12 =>
  bP (st Q q 212 1 x12 (.func (.func 197) #[v0] #[]) G9) fun G13 =>
  some (.tuple #[], G13)
theorem f135 (h : ExLe Q e (E orc)) (v0 v1 : Value) (G : GS) : Ref (s135 true e v0 v1 G) ((E orc).cl 135 [v0, v1] G) := cS (S := fun q e => s135 q e v0 v1 G) Tryz.func135 (by unfold s135; exact Ref.gq)
/-- (*coxswain/cells.Mem).cell -/
def s136 (q : Bool) (e : Ex) (v0 v1 : Value) (G : GS) : OG :=
  bP (ep Q q false 58 (.tmp 5) (.const (.pointer none)) v0 (.pointer none)) fun x0 =>
  bS (gV x0 false v0 G) fun x1 G2 =>
  bS (gP x0 false (pNil x1) G2) fun x3 G4 =>
  bS (gP x0 false (fa Q q 241 0 0 x3) G4) fun x5 G6 =>
  bS (gP x0 false (ld Q q 236 x5 G6) G6) fun x7 G8 =>
  bS (gP x0 false (ep Q q false 236 (.tmp 11) (.const (.pointer none)) x7 (.pointer none)) G8) fun x9 G10 =>
  bP (pickV x0 (.bool true) x9) fun x11 =>
  bS (gV x11 false v1 G10) fun x12 G13 =>
  bS (gP x11 false (bn Q q .lss 3 (.tmp 15) (.const (.int .i64 0)) x12 (.int .i64 0)) G13) fun x14 G15 =>
  bP (pickV x11 (.bool true) x14) fun x16 =>
  bS (gV x16 false v1 G15) fun x17 G18 =>
  bS (gV x16 false v0 G18) fun x19 G20 =>
  bS (gP x16 false (pNil x19) G20) fun x21 G22 =>
  bS (gP x16 false (fa Q q 241 1 1 x21) G22) fun x23 G24 =>
  bS (gP x16 false (ld Q q 3 x23 G24) G24) fun x25 G26 =>
  bS (gP x16 false (bn Q q .geq 3 (.tmp 19) (.tmp 23) x17 x25) G26) fun x27 G28 =>
  bP (pickV x16 (.bool true) x27) fun x29 =>
  ifV x29 (
  some ((.pointer none), G28)) (
  nl q 241 0 0 236 v0 G28 fun x32 =>
  bP (pNil x32) fun x33 =>
  bP (iaa Q q 239 4096 1 x33 v1) fun x34 =>
  some (x34, G28))
theorem f136 (h : ExLe Q e (E orc)) (v0 v1 : Value) (G : GS) : Ref (s136 true e v0 v1 G) ((E orc).cl 136 [v0, v1] G) := cS (S := fun q e => s136 q e v0 v1 G) Tryz.func136 (by unfold s136; exact Ref.gq)
def jb137_0 (q : Bool) (e : Ex) (τ : Env) (G : GS) : OG :=
  bV q (τ 0) fun a0_ =>
  bV q (τ 10) fun a10_ =>
  nf q 241 2 2 a0_ fun x29 =>
  bP (lda Q q 225 5 x29 G) fun x30 =>
  bP (st Q q 225 5 a10_ x30 G) fun G31 =>
  bP (lda Q q 225 5 a10_ G31) fun x32 =>
  some (x32, G31)
def j137_0 (q : Bool) (e : Ex) (τ : Env) (G : GS) : OG := jb137_0 q e τ G
theorem mj137_0 {e : Ex} {E : Ev} (h : ExLe Q e E) (τ : Env) (G : GS) : Ref (j137_0 true e τ G) (j137_0 false (Ex.of E) τ G) := by
  unfold j137_0 jb137_0
  exact Ref.gq
theorem mkj137_0 {e : Ex} {E : Ev} (h : ExLe Q e E) {τ : Env} {l U : List (Nat × Value)} {G : GS} (hU : UOk τ U) : Ref (j137_0 true e (xq true 67 τ l U) G) (j137_0 false (Ex.of E) (xq false 67 τ l U) G) := by
  rw [xq_eq hU]
  exact mj137_0 h _ _
def sb137 (q : Bool) (e : Ex) (J0 : Env → GS → OG) (v0 v1 v2 v3 v4 : Value) (G : GS) : OG :=
  bS (al Q q 225 z225 G) fun x0 G1 =>
  bP (ep Q q false 58 (.tmp 13) (.const (.pointer none)) v0 (.pointer none)) fun x2 =>
  bS (gV x2 false v0 G1) fun x3 G4 =>
  bS (gP x2 false (pNil x3) G4) fun x5 G6 =>
  bS (gP x2 false (fa Q q 241 0 0 x5) G6) fun x7 G8 =>
  bS (gP x2 false (ld Q q 236 x7 G8) G8) fun x9 G10 =>
  bS (gP x2 false (ep Q q false 236 (.tmp 19) (.const (.pointer none)) x9 (.pointer none)) G10) fun x11 G12 =>
  bP (pickV x2 (.bool true) x11) fun x13 =>
  ifV x13 (
  bP (bd Q q 225 z225 [] []) fun x14 =>
  bP (st Q q 225 5 x0 x14 G12) fun G15 =>
  bP (lda Q q 225 5 x0 G15) fun x16 =>
  some (x16, G15)) (
  bP (pNil v0) fun x17 =>
  bP (fa Q q 241 3 7 x17) fun x18 =>
  bP (ld Q q 3 x18 G12) fun x19 =>
  bP (bn Q q .add 3 (.tmp 26) (.const (.int .i64 1)) x19 (.int .i64 1)) fun x20 =>
  bP (pNil v0) fun x21 =>
  bP (fa Q q 241 3 7 x21) fun x22 =>
  bP (st Q q 3 1 x22 x20 G12) fun G23 =>
  bP (bd Q q 225 z225 [(0, 0, 1), (1, 1, 1)] [v1, v2]) fun x24 =>
  bP (pNil v0) fun x25 =>
  bP (fa Q q 241 2 2 x25) fun x26 =>
  bP (st Q q 225 5 x26 x24 G23) fun G27 =>
  bS (e.ev.cl 198 [v3] G27) fun x33 G34 =>
  ifV x33 (
  bS (cValue e.ev v4 [] G34) fun x35 G36 =>
  bP (pExtract x35 0) fun x37 =>
  bP (pExtract x35 1) fun x38 =>
  bP (pNil v3) fun x39 =>
  bP (ld Q q 237 x39 G36) fun x40 =>
  bP (pNil v0) fun x41 =>
  bP (fa Q q 241 2 2 x41) fun x42 =>
  bP (fa Q q 225 2 2 x42) fun x43 =>
  bP (st Q q 22 1 x43 x40 G36) fun G44 =>
  bP (pNil v0) fun x45 =>
  bP (fa Q q 241 2 2 x45) fun x46 =>
  bP (fa Q q 225 3 3 x46) fun x47 =>
  bP (st Q q 22 1 x47 x37 G44) fun G48 =>
  bP (pNil v0) fun x49 =>
  bP (fa Q q 241 2 2 x49) fun x50 =>
  bP (fa Q q 225 4 4 x50) fun x51 =>
  bP (st Q q 4 1 x51 x38 G48) fun G52 =>
  bP (pNil v3) fun x53 =>
  bP (st Q q 237 1 x53 x37 G52) fun G54 =>
  J0 (xq q 67 (nth undef [v0, v1, v2, v3, v4]) [(62, x53), (61, x37), (60, v3), (59, x51), (58, x50), (57, x49), (56, x47), (55, x46), (54, x45), (53, x43), (52, x42), (51, x41), (50, x38), (49, x37), (48, x40), (47, x39), (46, v3), (45, v0), (44, v0), (43, v0), (12, x38), (11, x37), (42, x38), (41, x37), (38, x35), (40, x35), (39, v4), (37, x33), (36, v3), (35, x26), (34, x25), (33, x24), (32, v2), (31, v1), (30, v0), (29, x22), (28, x21), (27, x20), (26, x19), (25, x18), (24, x17), (23, v0), (21, x13), (20, x11), (19, x9), (18, x7), (17, x5), (16, x3), (15, x2), (14, x2), (13, v0), (10, x0)] []) G54) (
  J0 (xq q 67 (nth undef [v0, v1, v2, v3, v4]) [(37, x33), (36, v3), (35, x26), (34, x25), (33, x24), (32, v2), (31, v1), (30, v0), (29, x22), (28, x21), (27, x20), (26, x19), (25, x18), (24, x17), (23, v0), (21, x13), (20, x11), (19, x9), (18, x7), (17, x5), (16, x3), (15, x2), (14, x2), (13, v0), (10, x0)] []) G34))
/-- (*coxswain/cells.Mem).do -/
def s137 (q : Bool) (e : Ex) (v0 v1 v2 v3 v4 : Value) (G : GS) : OG := sb137 q e (j137_0 q e) v0 v1 v2 v3 v4 G
theorem m137 {e : Ex} {E : Ev} (h : ExLe Q e E) (v0 v1 v2 v3 v4 : Value) (G : GS) : Ref (s137 true e v0 v1 v2 v3 v4 G) (s137 false (Ex.of E) v0 v1 v2 v3 v4 G) := by
  unfold s137 sb137
  have j0 := @mkj137_0 e E h
  exact Ref.gj
def jt137 (J0 : Env → GS → OG) : JT (Value × GS) :=
  (.n none .e (.n none .e (.n none .e (.n none .e (.n (some (fun T G => J0 (nth undef T) G)) .e .e)))))
theorem jr137_0 (orc : FuncId → Bool) (J0 : Env → GS → OG) (T : List Value) (G : GS) : runC Q (evL Q orc) Tryz.f137.ntmps (jt137 J0) (bodyOf Tryz.f137) (retE Q Tryz.f137.results.toList) [true, true, true, true] (nth undef T) G = jb137_0 false (Ex.of (E orc))  (nth undef T) G := by kernel_rfl
theorem jo137 (orc : FuncId → Bool) : JOk Q orc Tryz.f137.ntmps (jt137 (j137_0 false (Ex.of (E orc))) ) (bodyOf Tryz.f137) (retE Q Tryz.f137.results.toList) :=
  jOk Q orc (l := [([true, true, true, true], (fun T G => j137_0 false (Ex.of (E orc)) (nth undef T) G))]) (by kernel_rfl) (AllE.c (fun T G => jr137_0 orc (j137_0 false (Ex.of (E orc))) T G) (AllE.z))
theorem je137 (orc : FuncId → Bool) (J0 : Env → GS → OG) (v0 v1 v2 v3 v4 : Value) (G : GS) : sxC Q (evL Q orc) Tryz.f137.ntmps (jt137 J0) (bodyOf Tryz.f137) (nth undef [v0, v1, v2, v3, v4]) G (retE Q Tryz.f137.results.toList) = sb137 false (Ex.of (E orc)) J0 v0 v1 v2 v3 v4 G := by kernel_rfl
theorem f137 {orc : FuncId → Bool} {e : Ex} (h : ExLe Q e (E orc)) (v0 v1 v2 v3 v4 : Value) (G : GS) : Ref (s137 true e v0 v1 v2 v3 v4 G) ((E orc).cl 137 [v0, v1, v2, v3, v4] G) :=
  fun r hr => cl_sxC Q orc (vs := [v0, v1, v2, v3, v4]) G (jt137 (j137_0 false (Ex.of (E orc))) ) Tryz.func137 (by kernel_rfl) (by kernel_rfl) (by kernel_rfl) (by kernel_rfl) (by kernel_rfl) (jo137 orc) (je137 orc (j137_0 false (Ex.of (E orc))) v0 v1 v2 v3 v4 G) (m137 h v0 v1 v2 v3 v4 G r hr)
/-- (coxswain/cells.deed).load -/
def s138 (q : Bool) (e : Ex) (v0 : Value) (G : GS) : OG :=
  bS (bx q v0 G) fun x0 G1 =>
  fl q 223 0 0 220 x0 G1 fun x3 =>
  bP (pNil x3) fun x4 =>
  bP (ld Q q 237 x4 G1) fun x5 =>
  some (.tuple #[x5, (.bool false)], G1)
theorem f138 (h : ExLe Q e (E orc)) (v0 : Value) (G : GS) : Ref (s138 true e v0 G) ((E orc).cl 138 [v0] G) := cS (S := fun q e => s138 q e v0 G) Tryz.func138 (by unfold s138; exact Ref.gq)
/-- (*coxswain/ring.Front).Step -/
def s139 (q : Bool) (e : Ex) (v0 v1 : Value) (G : GS) : OG :=
  bP (ep Q q false 60 (.tmp 5) (.const (.pointer none)) v0 (.pointer none)) fun x0 =>
  bS (gV x0 false v0 G) fun x1 G2 =>
  bS (gP x0 false (pNil x1) G2) fun x3 G4 =>
  bS (gP x0 false (fa Q q 235 0 0 x3) G4) fun x5 G6 =>
  bS (gV x0 false v1 G6) fun x7 G8 =>
  bS (gS x0 false (e.ev.cl 142 [x5, x7] G8) G8) fun x9 G10 =>
  bP (pickV x0 (.bool true) x9) fun x11 =>
  some (x11, G10)
theorem f139 (h : ExLe Q e (E orc)) (v0 v1 : Value) (G : GS) : Ref (s139 true e v0 v1 G) ((E orc).cl 139 [v0, v1] G) := cS (S := fun q e => s139 q e v0 v1 G) Tryz.func139 (by unfold s139; exact Ref.gq)
/-- (*coxswain/ring.Drop).Step -/
def s140 (q : Bool) (e : Ex) (v0 v1 : Value) (G : GS) : OG :=
  bP (ep Q q false 61 (.tmp 5) (.const (.pointer none)) v0 (.pointer none)) fun x0 =>
  bS (gV x0 false v0 G) fun x1 G2 =>
  bS (gP x0 false (pNil x1) G2) fun x3 G4 =>
  bS (gP x0 false (fa Q q 271 0 0 x3) G4) fun x5 G6 =>
  bS (gV x0 false v1 G6) fun x7 G8 =>
  bS (gS x0 false (e.ev.cl 142 [x5, x7] G8) G8) fun x9 G10 =>
  bP (pickV x0 (.bool true) x9) fun x11 =>
  some (x11, G10)
theorem f140 (h : ExLe Q e (E orc)) (v0 v1 : Value) (G : GS) : Ref (s140 true e v0 v1 G) ((E orc).cl 140 [v0, v1] G) := cS (S := fun q e => s140 q e v0 v1 G) Tryz.func140 (by unfold s140; exact Ref.gq)
/-- (*coxswain/ring.Drop).Err -/
def s141 (q : Bool) (e : Ex) (v0 : Value) (G : GS) : OG :=
  bP (ep Q q false 61 (.tmp 3) (.const (.pointer none)) v0 (.pointer none)) fun x0 =>
  ifV x0 (
  some ((.int .i64 1), G)) (
  nf q 271 0 0 v0 fun x2 =>
  bS (e.ev.cl 143 [x2] G) fun x3 G4 =>
  some (x3, G4))
theorem f141 (h : ExLe Q e (E orc)) (v0 : Value) (G : GS) : Ref (s141 true e v0 G) ((E orc).cl 141 [v0] G) := cS (S := fun q e => s141 q e v0 G) Tryz.func141 (by unfold s141; exact Ref.gq)
def jb142_0 (q : Bool) (e : Ex) (τ : Env) (G : GS) : OG :=
  bV q (τ 0) fun a0_ =>
  nl q 214 1 4 212 a0_ G fun x2 =>
  bP (ef Q q false 212 (.tmp 19) (.const .nilFunc) x2 .nilFunc) fun x3 =>
  some (x3, G)
def j142_0 (q : Bool) (e : Ex) (τ : Env) (G : GS) : OG := jb142_0 q e τ G
theorem mj142_0 {e : Ex} {E : Ev} (h : ExLe Q e E) (τ : Env) (G : GS) : Ref (j142_0 true e τ G) (j142_0 false (Ex.of E) τ G) := by
  unfold j142_0 jb142_0
  exact Ref.gq
theorem mkj142_0 {e : Ex} {E : Ev} (h : ExLe Q e E) {τ : Env} {l U : List (Nat × Value)} {G : GS} (hU : UOk τ U) : Ref (j142_0 true e (xq true 21 τ l U) G) (j142_0 false (Ex.of E) (xq false 21 τ l U) G) := by
  rw [xq_eq hU]
  exact mj142_0 h _ _
def sb142 (q : Bool) (e : Ex) (J0 : Env → GS → OG) (v0 v1 : Value) (G : GS) : OG :=
  bP (pNil v0) fun x4 =>
  bP (fa Q q 214 1 4 x4) fun x5 =>
  bP (ld Q q 212 x5 G) fun x6 =>
  bP (ef Q q true 212 (.tmp 8) (.const .nilFunc) x6 .nilFunc) fun x7 =>
  ifV x7 (
  bP (pNil v0) fun x8 =>
  bP (fa Q q 214 1 4 x8) fun x9 =>
  bP (ld Q q 212 x9 G) fun x10 =>
  bS (cValue e.ev x10 [v1] G) fun x11 G12 =>
  J0 (xq q 21 (nth undef [v0, v1]) [(15, x11), (14, v1), (13, x10), (12, x9), (11, x8), (10, v0), (9, x7), (8, x6), (7, x5), (6, x4), (5, v0), (4, (.bool false))] []) G12) (
  J0 (xq q 21 (nth undef [v0, v1]) [(9, x7), (8, x6), (7, x5), (6, x4), (5, v0), (4, (.bool false))] []) G)
/-- (*coxswain/ring.work).step -/
def s142 (q : Bool) (e : Ex) (v0 v1 : Value) (G : GS) : OG := sb142 q e (j142_0 q e) v0 v1 G
theorem m142 {e : Ex} {E : Ev} (h : ExLe Q e E) (v0 v1 : Value) (G : GS) : Ref (s142 true e v0 v1 G) (s142 false (Ex.of E) v0 v1 G) := by
  unfold s142 sb142
  have j0 := @mkj142_0 e E h
  exact Ref.gj
def jt142 (J0 : Env → GS → OG) : JT (Value × GS) :=
  (.n none .e (.n (some (fun T G => J0 (nth undef T) G)) .e .e))
theorem jr142_0 (orc : FuncId → Bool) (J0 : Env → GS → OG) (T : List Value) (G : GS) : runC Q (evL Q orc) Tryz.f142.ntmps (jt142 J0) (bodyOf Tryz.f142) (retE Q Tryz.f142.results.toList) [true] (nth undef T) G = jb142_0 false (Ex.of (E orc))  (nth undef T) G := by kernel_rfl
theorem jo142 (orc : FuncId → Bool) : JOk Q orc Tryz.f142.ntmps (jt142 (j142_0 false (Ex.of (E orc))) ) (bodyOf Tryz.f142) (retE Q Tryz.f142.results.toList) :=
  jOk Q orc (l := [([true], (fun T G => j142_0 false (Ex.of (E orc)) (nth undef T) G))]) (by kernel_rfl) (AllE.c (fun T G => jr142_0 orc (j142_0 false (Ex.of (E orc))) T G) (AllE.z))
theorem je142 (orc : FuncId → Bool) (J0 : Env → GS → OG) (v0 v1 : Value) (G : GS) : sxC Q (evL Q orc) Tryz.f142.ntmps (jt142 J0) (bodyOf Tryz.f142) (nth undef [v0, v1]) G (retE Q Tryz.f142.results.toList) = sb142 false (Ex.of (E orc)) J0 v0 v1 G := by kernel_rfl
theorem f142 {orc : FuncId → Bool} {e : Ex} (h : ExLe Q e (E orc)) (v0 v1 : Value) (G : GS) : Ref (s142 true e v0 v1 G) ((E orc).cl 142 [v0, v1] G) :=
  fun r hr => cl_sxC Q orc (vs := [v0, v1]) G (jt142 (j142_0 false (Ex.of (E orc))) ) Tryz.func142 (by kernel_rfl) (by kernel_rfl) (by kernel_rfl) (by kernel_rfl) (by kernel_rfl) (jo142 orc) (je142 orc (j142_0 false (Ex.of (E orc))) v0 v1 G) (m142 h v0 v1 G r hr)
/-- (*coxswain/ring.work).told -/
def s143 (q : Bool) (e : Ex) (v0 : Value) (G : GS) : OG :=
  nl q 214 2 5 4 v0 G fun x2 =>
  bP (un Q q .not x2) fun x3 =>
  ifV x3 (
  some ((.int .i64 1), G)) (
  nl q 214 1 4 212 v0 G fun x6 =>
  bP (ef Q q true 212 (.tmp 13) (.const .nilFunc) x6 .nilFunc) fun x7 =>
  ifV x7 (
  some ((.int .i64 14), G)) (
  nl q 214 3 6 25 v0 G fun x10 =>
  some (x10, G)))
theorem f143 (h : ExLe Q e (E orc)) (v0 : Value) (G : GS) : Ref (s143 true e v0 G) ((E orc).cl 143 [v0] G) := cS (S := fun q e => s143 q e v0 G) Tryz.func143 (by unfold s143; exact Ref.gq)
/-- coxswain/ring.sized -/
def s144 (q : Bool) (e : Ex) (v0 : Value) (G : GS) : OG :=
  bS (bx q v0 G) fun x0 G1 =>
  fl q 57 3 3 3 x0 G1 fun x3 =>
  bP (bn Q q .geq 3 (.tmp 4) (.const (.int .i64 1)) x3 (.int .i64 1)) fun x4 =>
  bS (gP x4 true (fa Q q 57 3 3 x0) G1) fun x5 G6 =>
  bS (gP x4 true (ld Q q 3 x5 G6) G6) fun x7 G8 =>
  bS (gP x4 true (bn Q q .leq 3 (.tmp 8) (.const (.int .i64 4096)) x7 (.int .i64 4096)) G8) fun x9 G10 =>
  bP (pickV x4 x9 (.bool false)) fun x11 =>
  some (x11, G10)
theorem f144 (h : ExLe Q e (E orc)) (v0 : Value) (G : GS) : Ref (s144 true e v0 G) ((E orc).cl 144 [v0] G) := cS (S := fun q e => s144 q e v0 G) Tryz.func144 (by unfold s144; exact Ref.gq)
/-- coxswain/ring.place -/
def s147 (q : Bool) (e : Ex) (v0 v1 : Value) (G : GS) : OG :=
  bS (bx q v0 G) fun x0 G1 =>
  fl q 57 2 2 3 x0 (G1.room 10) fun x3 =>
  fl q 57 3 3 3 x0 (G1.room 10) fun x5 =>
  bP (cv Q q 3 22 .i64 .u64 x5) fun x6 =>
  bP (bn Q q .rem 22 (.tmp 7) (.tmp 10) v1 x6) fun x7 =>
  bP (cv Q q 22 3 .u64 .i64 x7) fun x8 =>
  bP (bn Q q .add 3 (.tmp 6) (.tmp 12) x3 x8) fun x9 =>
  some (x9, (G1.room 10))
theorem f147 (h : ExLe Q e (E orc)) (v0 v1 : Value) (G : GS) : Ref (s147 true e v0 v1 G) ((E orc).cl 147 [v0, v1] G) := cS (S := fun q e => s147 q e v0 v1 G) Tryz.func147 (by unfold s147; exact Ref.gq)
/-- (coxswain/ring.slot).value -/
def s148 (q : Bool) (e : Ex) (v0 : Value) (G : GS) : OG :=
  bP (bn Q q .and 216 (.tmp 3) (.const (.int .u64 65535)) v0 (.int .u64 65535)) fun x0 =>
  bP (cv Q q 216 3 .u64 .i64 x0) fun x1 =>
  some (x1, G)
theorem f148 (h : ExLe Q e (E orc)) (v0 : Value) (G : GS) : Ref (s148 true e v0 G) ((E orc).cl 148 [v0] G) := cS (S := fun q e => s148 q e v0 G) Tryz.func148 (by unfold s148; exact Ref.gq)
/-- (*coxswain/ring.Front).head -/
def s149 (q : Bool) (e : Ex) (v0 v1 : Value) (G : GS) : OG :=
  nf q 235 0 0 v0 fun x1 =>
  bP (fa Q q 214 0 0 x1) fun x2 =>
  fl q 57 0 0 3 x2 G fun x4 =>
  bS (e.ev.cl 59 [v1, x4] G) fun x5 G6 =>
  nf q 235 1 7 v0 fun x8 =>
  bP (st Q q 22 1 x8 x5 G6) fun G9 =>
  nf q 235 0 0 v0 fun x11 =>
  bP (fa Q q 214 1 4 x11) fun x12 =>
  bP (st Q q 212 1 x12 (.func (.func 202) #[v0] #[]) G9) fun G13 =>
  some (.tuple #[], G13)
theorem f149 (h : ExLe Q e (E orc)) (v0 v1 : Value) (G : GS) : Ref (s149 true e v0 v1 G) ((E orc).cl 149 [v0, v1] G) := cS (S := fun q e => s149 q e v0 v1 G) Tryz.func149 (by unfold s149; exact Ref.gq)
/-- (*coxswain/cells.Mem).Store -/
def s150 (q : Bool) (e : Ex) (v0 v1 v2 : Value) (G : GS) : OG :=
  bS (e.ev.cl 136 [v0, v1] G) fun x0 G1 =>
  bP (bd Q q 223 z223 [(0, 0, 1), (1, 1, 1)] [x0, v2]) fun x2 =>
  bS (al Q q 223 z223 G1) fun x3 G4 =>
  bP (st Q q 223 3 x3 x2 G4) fun G5 =>
  fl q 223 0 0 220 x3 G5 fun x7 =>
  bP (lda Q q 223 3 x3 G5) fun x8 =>
  bS (e.ev.cl 137 [v0, (.int .i64 2), v1, x7, (.func (.func 203) #[x8] #[])] G5) fun x9 G10 =>
  some (.tuple #[], G10)
theorem f150 (h : ExLe Q e (E orc)) (v0 v1 v2 : Value) (G : GS) : Ref (s150 true e v0 v1 v2 G) ((E orc).cl 150 [v0, v1, v2] G) := cS (S := fun q e => s150 q e v0 v1 v2 G) Tryz.func150 (by unfold s150; exact Ref.gq)
def jb151_0 (q : Bool) (e : Ex) (τ : Env) (G : GS) : OG :=
  bV q (τ 0) fun a0_ =>
  bV q (τ 1) fun a1_ =>
  nl q 64 2 5 59 a0_ G fun x29 =>
  bP (ias Q q 59 1 x29 a1_) fun x30 =>
  bP (ld Q q 133 x30 G) fun x31 =>
  bS (e.ev.cl 64 [x31] G) fun x32 G33 =>
  bP (bd Q q 27 z27 [(0, 0, 1)] [x32]) fun x34 =>
  bS (e.ev.cl 207 [a0_, a1_, x34] G33) fun x35 G36 =>
  nl q 64 8 11 62 a0_ G36 fun x39 =>
  bP (ias Q q 62 1 x39 a1_) fun x40 =>
  bP (ld Q q 25 x40 G36) fun x41 =>
  bP (bn Q q .eql 25 (.tmp 130) (.tmp 137) x32 x41) fun x42 =>
  some (x42, G36)
def j151_0 (q : Bool) (e : Ex) (τ : Env) (G : GS) : OG := jb151_0 q e τ G
theorem mj151_0 {e : Ex} {E : Ev} (h : ExLe Q e E) (τ : Env) (G : GS) : Ref (j151_0 true e τ G) (j151_0 false (Ex.of E) τ G) := by
  unfold j151_0 jb151_0
  exact Ref.gq
theorem mkj151_0 {e : Ex} {E : Ev} (h : ExLe Q e E) {τ : Env} {l U : List (Nat × Value)} {G : GS} (hU : UOk τ U) : Ref (j151_0 true e (xq true 139 τ l U) G) (j151_0 false (Ex.of E) (xq false 139 τ l U) G) := by
  rw [xq_eq hU]
  exact mj151_0 h _ _
def jb151_1 (q : Bool) (e : Ex) (J0 : Env → GS → OG) (τ : Env) (G : GS) : OG :=
  bV q (τ 0) fun a0_ =>
  bV q (τ 1) fun a1_ =>
  bV q (τ 5) fun a5_ =>
  bV q (τ 6) fun a6_ =>
  bP (un Q q .not a5_) fun x18 =>
  ifV x18 (
  nl q 64 2 5 59 a0_ G fun x21 =>
  bP (ias Q q 59 1 x21 a1_) fun x22 =>
  bP (ld Q q 133 x22 G) fun x23 =>
  bS (e.ev.cl 64 [x23] G) fun x24 G25 =>
  bP (bn Q q .eql 25 (.tmp 79) (.const (.int .i64 14)) x24 (.int .i64 14)) fun x26 =>
  some (x26, G25)) (
  bP (fa Q q 225 0 0 a6_) fun x43 =>
  bP (ld Q q 3 x43 (G.room 30)) fun x44 =>
  bP (bn Q q .eql 3 (.tmp 82) (.const (.int .i64 1)) x44 (.int .i64 1)) fun x45 =>
  bS (gV x45 true a0_ (G.room 30)) fun x46 _ =>
  bS (gS x45 true (e.ev.cl 205 [x46] (G.room 30)) (G.room 30)) fun x48 G47 =>
  bP (pickV x45 x48 (.bool false)) fun x49 =>
  bS (gV x49 true a0_ G47) fun x50 _ =>
  bS (gP x49 true (pNil x50) G47) fun x51 _ =>
  bS (gP x49 true (fa Q q 64 7 10 x51) G47) fun x52 _ =>
  bS (gP x49 true (ld Q q 35 x52 G47) G47) fun x53 _ =>
  bS (gP x49 true (ln Q q 35 x53) G47) fun x54 _ =>
  bS (gV x49 true a0_ G47) fun x55 _ =>
  bS (gP x49 true (pNil x55) G47) fun x56 _ =>
  bS (gP x49 true (fa Q q 64 0 0 x56) G47) fun x57 _ =>
  bS (gP x49 true (fa Q q 57 3 3 x57) G47) fun x58 _ =>
  bS (gP x49 true (ld Q q 3 x58 G47) G47) fun x59 _ =>
  bS (gP x49 true (bn Q q .eql 3 (.tmp 93) (.tmp 98) x54 x59) G47) fun x60 _ =>
  bP (pickV x49 x60 (.bool false)) fun x61 =>
  bS (gV x61 true a0_ G47) fun x62 _ =>
  bS (gP x61 true (pNil x62) G47) fun x63 _ =>
  bS (gP x61 true (fa Q q 64 8 11 x63) G47) fun x64 _ =>
  bS (gP x61 true (ld Q q 62 x64 G47) G47) fun x65 _ =>
  bS (gV x61 true a1_ G47) fun x66 _ =>
  bS (gP x61 true (ias Q q 62 1 x65 x66) G47) fun x67 _ =>
  bS (gP x61 true (ld Q q 25 x67 G47) G47) fun x68 _ =>
  bS (gP x61 true (bn Q q .neq 25 (.tmp 108) (.const (.int .i64 0)) x68 (.int .i64 0)) G47) fun x69 _ =>
  bP (pickV x61 x69 (.bool false)) fun x70 =>
  ifV x70 (
  bP (pNil a0_) fun x71 =>
  bP (fa Q q 64 8 11 x71) fun x72 =>
  bP (ld Q q 62 x72 G47) fun x73 =>
  bP (ias Q q 62 1 x73 a1_) fun x74 =>
  bP (st Q q 25 1 x74 (.int .i64 7) G47) fun G75 =>
  J0 (xq q 139 τ [(116, x74), (115, a1_), (114, x73), (113, x72), (112, x71), (111, a0_), (110, x70), (109, x69), (108, x68), (107, x67), (106, x66), (105, x65), (104, x64), (103, x63), (102, x62), (101, x61), (100, x61), (99, x60), (98, x59), (97, x58), (96, x57), (95, x56), (94, x55), (93, x54), (92, x53), (91, x52), (90, x51), (89, x50), (88, x49), (87, x49), (86, x48), (85, x46), (84, x45), (83, x45), (82, x44), (81, x43), (71, x18), (70, a5_)] []) G75) (
  J0 (xq q 139 τ [(110, x70), (109, x69), (108, x68), (107, x67), (106, x66), (105, x65), (104, x64), (103, x63), (102, x62), (101, x61), (100, x61), (99, x60), (98, x59), (97, x58), (96, x57), (95, x56), (94, x55), (93, x54), (92, x53), (91, x52), (90, x51), (89, x50), (88, x49), (87, x49), (86, x48), (85, x46), (84, x45), (83, x45), (82, x44), (81, x43), (71, x18), (70, a5_)] []) G47))
def j151_1 (q : Bool) (e : Ex) (τ : Env) (G : GS) : OG := jb151_1 q e (j151_0 q e) τ G
theorem mj151_1 {e : Ex} {E : Ev} (h : ExLe Q e E) (τ : Env) (G : GS) : Ref (j151_1 true e τ G) (j151_1 false (Ex.of E) τ G) := by
  unfold j151_1 jb151_1
  have j0 := @mkj151_0 e E h
  exact Ref.gj
theorem mkj151_1 {e : Ex} {E : Ev} (h : ExLe Q e E) {τ : Env} {l U : List (Nat × Value)} {G : GS} (hU : UOk τ U) : Ref (j151_1 true e (xq true 139 τ l U) G) (j151_1 false (Ex.of E) (xq false 139 τ l U) G) := by
  rw [xq_eq hU]
  exact mj151_1 h _ _
def sb151 (q : Bool) (e : Ex) (J0 J1 : Env → GS → OG) (v0 v1 : Value) (G : GS) : OG :=
  bP (pNil v0) fun x0 =>
  bP (fa Q q 64 2 5 x0) fun x1 =>
  bP (ld Q q 59 x1 (G.room 13)) fun x2 =>
  bP (ias Q q 59 1 x2 v1) fun x3 =>
  bP (ld Q q 133 x3 (G.room 13)) fun x4 =>
  bP (pNil v0) fun x5 =>
  bP (fa Q q 64 1 4 x5) fun x6 =>
  bP (ld Q q 58 x6 (G.room 13)) fun x7 =>
  bS (e.ev.cl 63 [x4, x7] (G.room 13)) fun x9 G8 =>
  bP (pNil v0) fun x10 =>
  bP (fa Q q 64 1 4 x10) fun x11 =>
  bP (ld Q q 58 x11 G8) fun x12 =>
  bS (e.ev.cl 204 [x12] G8) fun x13 G14 =>
  bS (al Q q 225 z225 G14) fun x15 G16 =>
  bP (st Q q 225 5 x15 x13 G16) fun G17 =>
  bP (fa Q q 225 0 0 x15) fun x76 =>
  bP (ld Q q 3 x76 G17) fun x77 =>
  bP (bn Q q .eql 3 (.tmp 26) (.const (.int .i64 3)) x77 (.int .i64 3)) fun x78 =>
  bS (gP x78 true (fa Q q 225 4 4 x15) G17) fun x79 G80 =>
  bS (gP x78 true (ld Q q 4 x79 G80) G80) fun x81 G82 =>
  bP (pickV x78 x81 (.bool false)) fun x83 =>
  bS (gV x83 true v0 G82) fun x84 G85 =>
  bS (gS x83 true (e.ev.cl 205 [x84] G85) G85) fun x86 G87 =>
  bP (pickV x83 x86 (.bool false)) fun x88 =>
  ifV x88 (
  bP (pNil v0) fun x89 =>
  bP (fa Q q 64 7 10 x89) fun x90 =>
  bP (ld Q q 35 x90 (G87.room 11)) fun x91 =>
  bP (ln Q q 35 x91) fun x92 =>
  bP (pNil v0) fun x93 =>
  bP (fa Q q 64 0 0 x93) fun x94 =>
  bP (fa Q q 57 3 3 x94) fun x95 =>
  bP (ld Q q 3 x95 (G87.room 11)) fun x96 =>
  bP (bn Q q .geq 3 (.tmp 40) (.tmp 45) x92 x96) fun x97 =>
  ifV x97 (
  some ((.bool false), (G87.room 11))) (
  bP (pNil v0) fun x98 =>
  bP (fa Q q 64 7 10 x98) fun x99 =>
  bP (ld Q q 35 x99 ((G87.room 11).room 18)) fun x100 =>
  bS (e.ev.cl 206 [x100] ((G87.room 11).room 18)) fun x102 G101 =>
  bP (pNil v0) fun x103 =>
  bP (fa Q q 64 3 6 x103) fun x104 =>
  bP (ld Q q 35 x104 G101) fun x105 =>
  chk ((sameO (ld Q q 35 x104 ((G87.room 11).room 18)) x105 && true)) <|
  bP (ias Q q 35 1 x105 v1) fun x106 =>
  bP (ld Q q 3 x106 G101) fun x107 =>
  chk ((sameO (ld Q q 3 x106 ((G87.room 11).room 18)) x107 && true)) <|
  bS (bs Q q 35 1 (rep z3 1) 1 [(0, 0, 1)] [x107] (G101.at' ((G87.room 11).nx + 13))) fun x108 G109 =>
  bS (ap Q q 35 35 1 8 x102 x108 (G109.back G101)) fun x111 G110 =>
  bP (pNil v0) fun x112 =>
  bP (fa Q q 64 7 10 x112) fun x113 =>
  bP (st Q q 35 1 x113 x111 G110) fun G114 =>
  bP (pNil v0) fun x115 =>
  bP (fa Q q 64 8 11 x115) fun x116 =>
  bP (ld Q q 62 x116 G114) fun x117 =>
  bP (ias Q q 62 1 x117 v1) fun x118 =>
  bP (st Q q 25 1 x118 (.int .i64 0) G114) fun G119 =>
  J1 (xq q 139 (nth undef [v0, v1]) [(69, x118), (68, v1), (67, x117), (66, x116), (65, x115), (64, v0), (63, x113), (62, x112), (61, x111), (60, x108), (59, x107), (58, x106), (57, v1), (56, x105), (55, x104), (54, x103), (53, v0), (52, x102), (51, x100), (50, x99), (49, x98), (48, v0), (47, v0), (46, x97), (45, x96), (44, x95), (43, x94), (42, x93), (41, v0), (40, x92), (39, x91), (38, x90), (37, x89), (36, v0), (35, x88), (34, x86), (33, x84), (32, x83), (31, x83), (30, x81), (29, x79), (28, x78), (27, x78), (26, x77), (25, x76), (6, x15), (24, x13), (23, x12), (22, x11), (21, x10), (20, v0), (5, x9), (19, x9), (18, x7), (17, x6), (16, x5), (15, v0), (14, x4), (13, x3), (12, v1), (11, x2), (10, x1), (9, x0), (8, v0), (4, (.bool false))] []) G119)) (
  J1 (xq q 139 (nth undef [v0, v1]) [(35, x88), (34, x86), (33, x84), (32, x83), (31, x83), (30, x81), (29, x79), (28, x78), (27, x78), (26, x77), (25, x76), (6, x15), (24, x13), (23, x12), (22, x11), (21, x10), (20, v0), (5, x9), (19, x9), (18, x7), (17, x6), (16, x5), (15, v0), (14, x4), (13, x3), (12, v1), (11, x2), (10, x1), (9, x0), (8, v0), (4, (.bool false))] []) G87)
/-- (*coxswain/coxswainlaw14.crew).pushes -/
def s151 (q : Bool) (e : Ex) (v0 v1 : Value) (G : GS) : OG := sb151 q e (j151_0 q e) (j151_1 q e) v0 v1 G
theorem m151 {e : Ex} {E : Ev} (h : ExLe Q e E) (v0 v1 : Value) (G : GS) : Ref (s151 true e v0 v1 G) (s151 false (Ex.of E) v0 v1 G) := by
  unfold s151 sb151
  have j0 := @mkj151_0 e E h
  have j1 := @mkj151_1 e E h
  exact Ref.gj
def jt151 (J0 J1 : Env → GS → OG) : JT (Value × GS) :=
  (.n none .e (.n none .e (.n none .e (.n (some (fun T G => J1 (nth undef T) G)) .e (.n none .e (.n (some (fun T G => J0 (nth undef T) G)) .e .e))))))
set_option maxHeartbeats 8000000 in
theorem jr151_1 (orc : FuncId → Bool) (J0 J1 : Env → GS → OG) (T : List Value) (G : GS) : runC Q (evL Q orc) Tryz.f151.ntmps (jt151 J0 J1) (bodyOf Tryz.f151) (retE Q Tryz.f151.results.toList) [true, true, true] (nth undef T) G = jb151_1 false (Ex.of (E orc)) J0 (nth undef T) G := by kernel_rfl
set_option maxHeartbeats 8000000 in
theorem jr151_0 (orc : FuncId → Bool) (J0 J1 : Env → GS → OG) (T : List Value) (G : GS) : runC Q (evL Q orc) Tryz.f151.ntmps (jt151 J0 J1) (bodyOf Tryz.f151) (retE Q Tryz.f151.results.toList) [true, true, true, true, true] (nth undef T) G = jb151_0 false (Ex.of (E orc))  (nth undef T) G := by kernel_rfl
set_option maxHeartbeats 8000000 in
theorem jo151 (orc : FuncId → Bool) : JOk Q orc Tryz.f151.ntmps (jt151 (j151_0 false (Ex.of (E orc))) (j151_1 false (Ex.of (E orc))) ) (bodyOf Tryz.f151) (retE Q Tryz.f151.results.toList) :=
  jOk Q orc (l := [([true, true, true], (fun T G => j151_1 false (Ex.of (E orc)) (nth undef T) G)), ([true, true, true, true, true], (fun T G => j151_0 false (Ex.of (E orc)) (nth undef T) G))]) (by kernel_rfl) (AllE.c (fun T G => jr151_1 orc (j151_0 false (Ex.of (E orc))) (j151_1 false (Ex.of (E orc))) T G) (AllE.c (fun T G => jr151_0 orc (j151_0 false (Ex.of (E orc))) (j151_1 false (Ex.of (E orc))) T G) (AllE.z)))
set_option maxHeartbeats 8000000 in
theorem je151 (orc : FuncId → Bool) (J0 J1 : Env → GS → OG) (v0 v1 : Value) (G : GS) : sxC Q (evL Q orc) Tryz.f151.ntmps (jt151 J0 J1) (bodyOf Tryz.f151) (nth undef [v0, v1]) G (retE Q Tryz.f151.results.toList) = sb151 false (Ex.of (E orc)) J0 J1 v0 v1 G := by kernel_rfl
set_option maxHeartbeats 8000000 in
theorem f151 {orc : FuncId → Bool} {e : Ex} (h : ExLe Q e (E orc)) (v0 v1 : Value) (G : GS) : Ref (s151 true e v0 v1 G) ((E orc).cl 151 [v0, v1] G) :=
  fun r hr => cl_sxC Q orc (vs := [v0, v1]) G (jt151 (j151_0 false (Ex.of (E orc))) (j151_1 false (Ex.of (E orc))) ) Tryz.func151 (by kernel_rfl) (by kernel_rfl) (by kernel_rfl) (by kernel_rfl) (by kernel_rfl) (jo151 orc) (je151 orc (j151_0 false (Ex.of (E orc))) (j151_1 false (Ex.of (E orc))) v0 v1 G) (m151 h v0 v1 G r hr)
/-- (*coxswain/coxswainlaw14.crew).takes -/
def s152 (q : Bool) (e : Ex) (v0 : Value) (G : GS) : OG :=
  nl q 64 6 9 4 v0 G fun x2 =>
  ifV x2 (
  nl q 64 5 8 61 v0 (G.room 10) fun x5 =>
  nl q 64 1 4 58 v0 (G.room 10) fun x8 =>
  bS (e.ev.cl 140 [x5, x8] (G.room 10)) fun x10 G9 =>
  bP (un Q q .not x10) fun x11 =>
  ifV x11 (
  nl q 64 7 10 35 v0 G9 fun x14 =>
  bP (ln Q q 35 x14) fun x15 =>
  bP (bn Q q .eql 3 (.tmp 25) (.const (.int .i64 0)) x15 (.int .i64 0)) fun x16 =>
  ifV x16 (
  some ((.bool false), G9)) (
  nl q 64 7 10 35 v0 G9 fun x19 =>
  bP (sl Q q 35 1 x19 (some (.int .i64 1)) none none G9) fun x20 =>
  bS (e.ev.cl 206 [x20] G9) fun x21 G22 =>
  nf q 64 7 10 v0 fun x24 =>
  bP (st Q q 35 1 x24 x21 G22) fun G25 =>
  some ((.bool true), G25))) (
  nf q 64 6 9 v0 fun x27 =>
  bP (st Q q 4 1 x27 (.bool false) G9) fun G28 =>
  bP (bd Q q 27 z27 [] []) fun x29 =>
  bS (e.ev.cl 207 [v0, (.int .i64 2), x29] G28) fun x30 G31 =>
  nl q 64 5 8 61 v0 G31 fun x34 =>
  bS (e.ev.cl 141 [x34] G31) fun x35 G36 =>
  bP (bn Q q .eql 25 (.tmp 46) (.const (.int .i64 0)) x35 (.int .i64 0)) fun x37 =>
  some (x37, G36))) (
  nl q 64 4 7 60 v0 (G.room 10) fun x40 =>
  nl q 64 1 4 58 v0 (G.room 10) fun x43 =>
  bS (e.ev.cl 139 [x40, x43] (G.room 10)) fun x45 G44 =>
  bP (un Q q .not x45) fun x46 =>
  ifV x46 (
  some ((.bool true), G44)) (
  nl q 64 4 7 60 v0 G44 fun x49 =>
  bS (e.ev.cl 67 [x49] G44) fun x50 G51 =>
  bP (pExtract x50 0) fun x52 =>
  bP (pExtract x50 1) fun x53 =>
  bP (bn Q q .eql 25 (.tmp 67) (.const (.int .i64 0)) x53 (.int .i64 0)) fun x54 =>
  nf q 64 6 9 v0 fun x56 =>
  bP (st Q q 4 1 x56 x54 G51) fun G57 =>
  bP (cv Q q 3 22 .i64 .u64 x52) fun x58 =>
  bP (bd Q q 27 z27 [(0, 0, 1), (2, 2, 1)] [x53, x58]) fun x59 =>
  bS (e.ev.cl 207 [v0, (.int .i64 2), x59] G57) fun x60 G61 =>
  nl q 64 7 10 35 v0 G61 fun x64 =>
  bP (ln Q q 35 x64) fun x65 =>
  bP (bn Q q .eql 3 (.tmp 81) (.const (.int .i64 0)) x65 (.int .i64 0)) fun x66 =>
  ifV x66 (
  bP (bn Q q .eql 3 (.tmp 83) (.const (.int .i64 0)) x52 (.int .i64 0)) fun x67 =>
  bS (gV x67 true x53 G61) fun x68 G69 =>
  bS (gP x67 true (bn Q q .eql 25 (.tmp 86) (.const (.int .i64 15)) x68 (.int .i64 15)) G69) fun x70 G71 =>
  bP (pickV x67 x70 (.bool false)) fun x72 =>
  some (x72, G71)) (
  bP (bn Q q .eql 25 (.tmp 89) (.const (.int .i64 0)) x53 (.int .i64 0)) fun x73 =>
  bS (gV x73 true x52 G61) fun x74 G75 =>
  bS (gV x73 true v0 G75) fun x76 G77 =>
  bS (gP x73 true (pNil x76) G77) fun x78 G79 =>
  bS (gP x73 true (fa Q q 64 7 10 x78) G79) fun x80 G81 =>
  bS (gP x73 true (ld Q q 35 x80 G81) G81) fun x82 G83 =>
  bS (gP x73 true (ias Q q 35 1 x82 (.int .i64 0)) G83) fun x84 G85 =>
  bS (gP x73 true (ld Q q 3 x84 G85) G85) fun x86 G87 =>
  bS (gP x73 true (bn Q q .eql 3 (.tmp 92) (.tmp 98) x74 x86) G87) fun x88 G89 =>
  bP (pickV x73 x88 (.bool false)) fun x90 =>
  some (x90, G89))))
theorem m152 {e : Ex} {E : Ev} (h : ExLe Q e E) (v0 : Value) (G : GS) : Ref (s152 true e v0 G) (s152 false (Ex.of E) v0 G) := by
  unfold s152
  exact Ref.gq
set_option maxHeartbeats 8000000 in
theorem f152 {orc : FuncId → Bool} {e : Ex} (h : ExLe Q e (E orc)) (v0 : Value) (G : GS) : Ref (s152 true e v0 G) ((E orc).cl 152 [v0] G) :=
  fun r hr => cl_sxE_some Q orc (vs := [v0]) G Tryz.func152 (by kernel_rfl) (by kernel_rfl) (by kernel_rfl) (by kernel_rfl) (by kernel_rfl) (by kernel_rfl) (m152 h v0 G r hr)
/-- (*coxswain/ring.Drop).clear -/
def s170 (q : Bool) (e : Ex) (v0 v1 : Value) (G : GS) : OG :=
  nf q 271 0 0 v0 fun x1 =>
  bP (fa Q q 214 0 0 x1) fun x2 =>
  bP (lda Q q 57 4 x2 (G.room 24)) fun x3 =>
  nl q 271 1 7 22 v0 (G.room 24) fun x6 =>
  bS (e.ev.cl 147 [x3, x6] (G.room 24)) fun x8 G7 =>
  nf q 271 0 0 v0 fun x10 =>
  bP (fa Q q 214 0 0 x10) fun x11 =>
  bP (lda Q q 57 4 x11 G7) fun x12 =>
  chk ((sameO (lda Q q 57 4 x11 (G.room 24)) x12 && true)) <|
  nf q 271 1 7 v0 fun x14 =>
  bP (ld Q q 22 x14 G7) fun x15 =>
  chk ((sameO (ld Q q 22 x14 (G.room 24)) x15 && true)) <|
  bS (e.ev.cl 201 [x12, x15] G7) fun x17 G16 =>
  bP (bn Q q .add 295 (.tmp 24) (.const (.int .u32 1)) x17 (.int .u32 1)) fun x18 =>
  bS (e.ev.cl 223 [x18] G16) fun x20 G19 =>
  bS (e.ev.cl 150 [v1, x8, x20] G19) fun x22 G21 =>
  nf q 271 0 0 v0 fun x24 =>
  bP (fa Q q 214 1 4 x24) fun x25 =>
  bP (st Q q 212 1 x25 (.func (.func 224) #[v0] #[]) G21) fun G26 =>
  some (.tuple #[], G26)
theorem f170 (h : ExLe Q e (E orc)) (v0 v1 : Value) (G : GS) : Ref (s170 true e v0 v1 G) ((E orc).cl 170 [v0, v1] G) := cS (S := fun q e => s170 q e v0 v1 G) Tryz.func170 (by unfold s170; exact Ref.gq)
/-- (coxswain/linear.machine[[]uint64]).orders -/
def s171 (q : Bool) (e : Ex) (v0 v1 v2 : Value) (G : GS) : OG :=
  bS (bx q v0 G) fun x0 G1 =>
  bS (bx q v1 G1) fun x2 G3 =>
  bS (bx q v2 G3) fun x4 G5 =>
  some ((.func (.func 225) #[] #[x4, x2, x0]), G5)
theorem f171 (h : ExLe Q e (E orc)) (v0 v1 v2 : Value) (G : GS) : Ref (s171 true e v0 v1 v2 G) ((E orc).cl 171 [v0, v1, v2] G) := cS (S := fun q e => s171 q e v0 v1 v2 G) Tryz.func171 (by unfold s171; exact Ref.gq)
/-- coxswain/pool.first -/
def s176 (q : Bool) (e : Ex) (v0 : Value) (G : GS) : OG :=
  bS (al Q q 276 z276 G) fun x0 G1 =>
  bS (al Q q 276 z276 G1) fun x2 G3 =>
  bP (mx Q q #[3, 3] v0 (.int .i64 0)) fun x4 =>
  bP (mn Q q #[3, 3] x4 (.int .i64 1024)) fun x5 =>
  bLq q e 176 0 (subAt [1, 1, 0, 1, 0, 0] (bodyOf Tryz.f176)) 16 (nth undef [v0]) [(8, (.int .i64 0)), (7, x5), (6, x4), (5, v0), (3, x2), (2, x0)] [] G3 fun e6 t7 G8 =>
  bV q (t7 2) fun t7x2_ =>
  bV q (t7 3) fun t7x3_ =>
  ifE e6 (.exit 0) (
  bP (lda Q q 276 16 t7x3_ G8) fun x9 =>
  bP (st Q q 276 16 t7x2_ x9 G8) fun G10 =>
  bP (lda Q q 276 16 t7x2_ G10) fun x11 =>
  some (x11, G10)) (none)
theorem f176 (h : ExLe Q e (E orc)) (v0 : Value) (G : GS) : Ref (s176 true e v0 G) ((E orc).cl 176 [v0] G) := cS (S := fun q e => s176 q e v0 G) Tryz.func176 (by unfold s176; exact Ref.gq)
/-- coxswain/pool.of -/
def s177 (q : Bool) (e : Ex) (v0 : Value) (G : GS) : OG :=
  bS (al Q q 276 z276 G) fun x0 G1 =>
  bS (al Q q 276 z276 G1) fun x2 G3 =>
  bP (ln Q q 35 v0) fun x4 =>
  bLq q e 177 0 (subAt [1, 1, 0, 1, 0, 0] (bodyOf Tryz.f177)) 19 (nth undef [v0]) [(8, (.int .i64 0)), (7, x4), (6, v0), (3, x2), (2, x0)] [] G3 fun e5 t6 G7 =>
  bV q (t6 2) fun t6x2_ =>
  bV q (t6 3) fun t6x3_ =>
  ifE e5 (.exit 0) (
  bP (lda Q q 276 16 t6x3_ G7) fun x8 =>
  bP (st Q q 276 16 t6x2_ x8 G7) fun G9 =>
  bP (lda Q q 276 16 t6x2_ G9) fun x10 =>
  some (x10, G9)) (none)
theorem f177 (h : ExLe Q e (E orc)) (v0 : Value) (G : GS) : Ref (s177 true e v0 G) ((E orc).cl 177 [v0] G) := cS (S := fun q e => s177 q e v0 G) Tryz.func177 (by unfold s177; exact Ref.gq)
/-- coxswain/pool.Check -/
def s181 (q : Bool) (e : Ex) (v0 : Value) (G : GS) : OG :=
  bP (ln Q q 35 v0) fun x0 =>
  bLq q e 181 0 (subAt [1, 0, 1, 0, 0] (bodyOf Tryz.f181)) 32 (nth undef [v0]) [(8, (.int .i64 0)), (7, x0), (6, v0), (2, (.int .i64 0))] [] G fun e1 t2 G3 =>
  bV q (t2 2) fun t2x2_ =>
  ifE e1 (.exit 0) (
  bLq q e 181 1 (subAt [1, 1, 0, 1, 0, 0] (bodyOf Tryz.f181)) 32 t2 [(5, (.int .i64 1))] [] G3 fun e4 t5 G6 =>
  bV q (t5 2) fun t5x2_ =>
  ifE e4 (.exit 2) (
  some ((.int .i64 0), G6)) (ifE e4 .ret (
  some (t5x2_, G6)) (none))) (ifE e1 .ret (
  some (t2x2_, G3)) (none))
theorem f181 (h : ExLe Q e (E orc)) (v0 : Value) (G : GS) : Ref (s181 true e v0 G) ((E orc).cl 181 [v0] G) := cS (S := fun q e => s181 q e v0 G) Tryz.func181 (by unfold s181; exact Ref.gq)
/-- coxswain/fifo.does$1 -/
def s186 (q : Bool) (e : Ex) (v0 : Value) (G : GS) : OG :=
  bS (al Q q 202 z202 G) fun x0 G1 =>
  bP (lda Q q 202 1026 v0 G1) fun x2 =>
  bP (st Q q 202 1026 x0 x2 G1) fun G3 =>
  bP (lda Q q 202 1026 x0 G3) fun x4 =>
  some (x4, G3)
theorem f186 (h : ExLe Q e (E orc)) (v0 : Value) (G : GS) : Ref (s186 true e v0 G) ((E orc).cl 186 [v0] G) := cS (S := fun q e => s186 q e v0 G) Tryz.func186 (by unfold s186; exact Ref.gq)
/-- coxswain/fifo.does$2 -/
def s187 (q : Bool) (e : Ex) (v0 v1 : Value) (G : GS) : OG :=
  bS (al Q q 202 z202 G) fun x0 G1 =>
  bP (lda Q q 202 1026 v0 G1) fun x2 =>
  fl q 24 3 3 22 v1 G1 fun x4 =>
  bS (e.ev.cl 188 [x2, x4] G1) fun x5 G6 =>
  bP (st Q q 202 1026 x0 x5 G6) fun G7 =>
  bP (lda Q q 202 1026 x0 G7) fun x8 =>
  some (x8, G7)
theorem f187 (h : ExLe Q e (E orc)) (v0 v1 : Value) (G : GS) : Ref (s187 true e v0 v1 G) ((E orc).cl 187 [v0, v1] G) := cS (S := fun q e => s187 q e v0 v1 G) Tryz.func187 (by unfold s187; exact Ref.gq)
/-- (coxswain/fifo.ring[uint64]).push -/
def s188 (q : Bool) (e : Ex) (v0 v1 : Value) (G : GS) : OG :=
  bS (bx q v0 G) fun x0 G1 =>
  bS (al Q q 202 z202 G1) fun x2 G3 =>
  fl q 202 1 1024 3 x0 G3 fun x5 =>
  fl q 202 2 1025 3 x0 G3 fun x7 =>
  bP (bn Q q .add 3 (.tmp 6) (.tmp 8) x5 x7) fun x8 =>
  bP (bn Q q .rem 3 (.tmp 9) (.const (.int .i64 1024)) x8 (.int .i64 1024)) fun x9 =>
  bP (fa Q q 202 0 0 x0) fun x10 =>
  bP (iaa Q q 200 1024 1 x10 x9) fun x11 =>
  bP (st Q q 22 1 x11 v1 G3) fun G12 =>
  fl q 202 2 1025 3 x0 G12 fun x14 =>
  bP (bn Q q .add 3 (.tmp 15) (.const (.int .i64 1)) x14 (.int .i64 1)) fun x15 =>
  bP (fa Q q 202 2 1025 x0) fun x16 =>
  bP (st Q q 3 1 x16 x15 G12) fun G17 =>
  bP (lda Q q 202 1026 x0 G17) fun x18 =>
  bP (st Q q 202 1026 x2 x18 G17) fun G19 =>
  bP (lda Q q 202 1026 x2 G19) fun x20 =>
  some (x20, G19)
theorem f188 (h : ExLe Q e (E orc)) (v0 v1 : Value) (G : GS) : Ref (s188 true e v0 v1 G) ((E orc).cl 188 [v0, v1] G) := cS (S := fun q e => s188 q e v0 v1 G) Tryz.func188 (by unfold s188; exact Ref.gq)
/-- (coxswain/fifo.ring[uint64]).front -/
def s189 (q : Bool) (e : Ex) (v0 : Value) (G : GS) : OG :=
  bS (bx q v0 G) fun x0 G1 =>
  fl q 202 1 1024 3 x0 G1 fun x3 =>
  bP (fa Q q 202 0 0 x0) fun x4 =>
  bP (iaa Q q 200 1024 1 x4 x3) fun x5 =>
  bP (ld Q q 22 x5 G1) fun x6 =>
  some (x6, G1)
theorem f189 (h : ExLe Q e (E orc)) (v0 : Value) (G : GS) : Ref (s189 true e v0 G) ((E orc).cl 189 [v0] G) := cS (S := fun q e => s189 q e v0 G) Tryz.func189 (by unfold s189; exact Ref.gq)
/-- coxswain/fifo.does$3 -/
def s190 (q : Bool) (e : Ex) (v0 : Value) (G : GS) : OG :=
  bS (al Q q 202 z202 G) fun x0 G1 =>
  bP (lda Q q 202 1026 v0 G1) fun x2 =>
  bS (e.ev.cl 191 [x2] G1) fun x3 G4 =>
  bP (st Q q 202 1026 x0 x3 G4) fun G5 =>
  bP (lda Q q 202 1026 x0 G5) fun x6 =>
  some (x6, G5)
theorem f190 (h : ExLe Q e (E orc)) (v0 : Value) (G : GS) : Ref (s190 true e v0 G) ((E orc).cl 190 [v0] G) := cS (S := fun q e => s190 q e v0 G) Tryz.func190 (by unfold s190; exact Ref.gq)
/-- (coxswain/fifo.ring[uint64]).drop -/
def s191 (q : Bool) (e : Ex) (v0 : Value) (G : GS) : OG :=
  bS (bx q v0 G) fun x0 G1 =>
  bS (al Q q 202 z202 G1) fun x2 G3 =>
  fl q 202 1 1024 3 x0 G3 fun x5 =>
  bP (bn Q q .add 3 (.tmp 4) (.const (.int .i64 1)) x5 (.int .i64 1)) fun x6 =>
  bP (bn Q q .rem 3 (.tmp 5) (.const (.int .i64 1024)) x6 (.int .i64 1024)) fun x7 =>
  bP (fa Q q 202 1 1024 x0) fun x8 =>
  bP (st Q q 3 1 x8 x7 G3) fun G9 =>
  fl q 202 2 1025 3 x0 G9 fun x11 =>
  bP (bn Q q .sub 3 (.tmp 9) (.const (.int .i64 1)) x11 (.int .i64 1)) fun x12 =>
  bP (fa Q q 202 2 1025 x0) fun x13 =>
  bP (st Q q 3 1 x13 x12 G9) fun G14 =>
  bP (lda Q q 202 1026 x0 G14) fun x15 =>
  bP (st Q q 202 1026 x2 x15 G14) fun G16 =>
  bP (lda Q q 202 1026 x2 G16) fun x17 =>
  some (x17, G16)
theorem f191 (h : ExLe Q e (E orc)) (v0 : Value) (G : GS) : Ref (s191 true e v0 G) ((E orc).cl 191 [v0] G) := cS (S := fun q e => s191 q e v0 G) Tryz.func191 (by unfold s191; exact Ref.gq)
/-- coxswain/heap.find[coxswain/api.Item] -/
def s194 (q : Bool) (e : Ex) (v0 v1 : Value) (G : GS) : OG :=
  bP (ln Q q 107 v0) fun x0 =>
  bLq q e 194 0 (subAt [1, 1, 0, 0, 0] (bodyOf Tryz.f194)) 44 (nth undef [v0, v1]) [(7, x0), (6, (.int .i64 0)), (10, x0), (9, v0), (5, (.bool false)), (4, (.int .i64 0))] [] G fun e1 t2 G3 =>
  bV q (t2 0) fun t2x0_ =>
  bV q (t2 1) fun t2x1_ =>
  bV q (t2 6) fun t2x6_ =>
  ifE e1 (.exit 0) (
  bP (ln Q q 107 t2x0_) fun x4 =>
  bP (bn Q q .lss 3 (.tmp 31) (.tmp 33) t2x6_ x4) fun x5 =>
  bS (gV x5 true t2x1_ G3) fun x6 G7 =>
  bS (gV x5 true t2x0_ G7) fun x8 G9 =>
  bS (gV x5 true t2x6_ G9) fun x10 G11 =>
  bS (gP x5 true (ias Q q 107 2 x8 x10) G11) fun x12 G13 =>
  bS (gP x5 true (lda Q q 184 2 x12 G13) G13) fun x14 G15 =>
  bS (gS x5 true (cValue e.ev x6 [x14] G15) G15) fun x16 G17 =>
  bS (gP x5 true (bn Q q .eql 3 (.tmp 41) (.const (.int .i64 0)) x16 (.int .i64 0)) G17) fun x18 G19 =>
  bP (pickV x5 x18 (.bool false)) fun x20 =>
  some (.tuple #[t2x6_, x20], G19)) (none)
theorem f194 (h : ExLe Q e (E orc)) (v0 v1 : Value) (G : GS) : Ref (s194 true e v0 v1 G) ((E orc).cl 194 [v0, v1] G) := cS (S := fun q e => s194 q e v0 v1 G) Tryz.func194 (by unfold s194; exact Ref.gq)
/-- (*coxswain/ring.Push).look -/
def s197 (q : Bool) (e : Ex) (v0 v1 : Value) (G : GS) : OG :=
  nf q 218 0 0 v0 fun x1 =>
  bP (fa Q q 214 0 0 x1) fun x2 =>
  bP (lda Q q 57 4 x2 (G.room 16)) fun x3 =>
  nl q 218 2 8 22 v0 (G.room 16) fun x6 =>
  bS (e.ev.cl 147 [x3, x6] (G.room 16)) fun x8 G7 =>
  bS (e.ev.cl 59 [v1, x8] G7) fun x10 G9 =>
  nf q 218 3 9 v0 fun x12 =>
  bP (st Q q 216 1 x12 x10 G9) fun G13 =>
  nf q 218 0 0 v0 fun x15 =>
  bP (fa Q q 214 0 0 x15) fun x16 =>
  bP (lda Q q 57 4 x16 (G13.room 11)) fun x17 =>
  nl q 218 2 8 22 v0 (G13.room 11) fun x20 =>
  bS (e.ev.cl 201 [x17, x20] (G13.room 11)) fun x22 G21 =>
  nl q 218 3 9 216 v0 G21 fun x25 =>
  bS (e.ev.cl 239 [x25, x22] G21) fun x26 G27 =>
  ifV x26 (
  nf q 218 0 0 v0 fun x29 =>
  bP (fa Q q 214 1 4 x29) fun x30 =>
  bP (st Q q 212 1 x30 (.func (.func 240) #[v0] #[]) G27) fun G31 =>
  some (.tuple #[], G31)) (
  nl q 218 3 9 216 v0 G27 fun x34 =>
  bP (bn Q q .sub 295 (.tmp 54) (.const (.int .u32 1)) x22 (.int .u32 1)) fun x35 =>
  bS (e.ev.cl 200 [x34, x35] G27) fun x36 G37 =>
  ifV x36 (
  nf q 218 0 0 v0 fun x39 =>
  bS (e.ev.cl 134 [x39, (.int .i64 7)] G37) fun x40 G41 =>
  some (.tuple #[], G41)) (
  nf q 218 0 0 v0 fun x43 =>
  bP (fa Q q 214 1 4 x43) fun x44 =>
  bP (st Q q 212 1 x44 (.func (.func 241) #[v0] #[]) G37) fun G45 =>
  some (.tuple #[], G45)))
theorem f197 (h : ExLe Q e (E orc)) (v0 v1 : Value) (G : GS) : Ref (s197 true e v0 v1 G) ((E orc).cl 197 [v0, v1] G) := cS (S := fun q e => s197 q e v0 v1 G) Tryz.func197 (by unfold s197; exact Ref.gq)
/-- (*coxswain/cells.place).is -/
def s198 (q : Bool) (e : Ex) (v0 : Value) (G : GS) : OG :=
  bP (ep Q q true 220 (.tmp 3) (.const (.pointer none)) v0 (.pointer none)) fun x0 =>
  some (x0, G)
theorem f198 (h : ExLe Q e (E orc)) (v0 : Value) (G : GS) : Ref (s198 true e v0 G) ((E orc).cl 198 [v0] G) := cS (S := fun q e => s198 q e v0 G) Tryz.func198 (by unfold s198; exact Ref.gq)
end
end Go.Proofs.YtlaojmcekeohnaaGreatDoor.Lift
