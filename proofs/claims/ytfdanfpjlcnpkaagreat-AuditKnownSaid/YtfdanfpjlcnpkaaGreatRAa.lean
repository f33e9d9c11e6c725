/- the program's code, spelled out by a program of ours (lift3.lean) -/
import Derived.Test.YtfdanfpjlcnpkaaGreatProg
import Derived.Test.YtfdanfpjlcnpkaaGreatGhPJ
import Derived.Test.YtfdanfpjlcnpkaaGreatGhPG
import Derived.KernelRfl
namespace Go.Proofs.YtfdanfpjlcnpkaaGreat.Lift
open Go Go.Proofs.YtfdanfpjlcnpkaaGreat.Gh Go.Proofs
set_option linter.unusedVariables false
set_option maxRecDepth 100000
@[reducible] noncomputable def Q : Program := Tryz.prog
@[reducible] noncomputable def E (orc : FuncId → Bool) : Ev := evL Tryz.prog orc
noncomputable section
abbrev OG : Type := Option (Value × GS)
abbrev OL : Type := Option (Exit × Env × GS)
abbrev LpF : Type := Env → GS → OL
variable {orc : FuncId → Bool} {e : Ex}
abbrev gP (x : Value) (b : Bool) (o : Option Value) (G : GS) : Option (Value × GS) := gd x b (bP o fun y => some (y, G)) G
abbrev gS (x : Value) (b : Bool) (o : Option (Value × GS)) (G : GS) : Option (Value × GS) := gd x b (bS o fun y G => some (y, G)) G
abbrev gV (x : Value) (b : Bool) (v : Value) (G : GS) : Option (Value × GS) := gd x b (some (v, G)) G
abbrev nf {β : Type} (q : Bool) (t f o : Nat) (v : Value) (k : Value → Option β) : Option β := bP (pNil v) fun x => bP (fa Q q t f o x) k
abbrev fl {β : Type} (q : Bool) (t f o u : Nat) (v : Value) (G : GS) (k : Value → Option β) : Option β := bP (fa Q q t f o v) fun x => bP (ld Q q u x G) k
abbrev nl {β : Type} (q : Bool) (t f o u : Nat) (v : Value) (G : GS) (k : Value → Option β) : Option β := bP (pNil v) fun x => bP (fa Q q t f o x) fun y => bP (ld Q q u y G) k
@[simp] theorem gP_s (x : Value) (b : Bool) (o : Option Value) (G : GS) : gP x b o G = gd x b (bP o fun y => some (y, G)) G := Eq.trans rfl rfl
@[simp] theorem gS_s (x : Value) (b : Bool) (o : Option (Value × GS)) (G : GS) : gS x b o G = gd x b (bS o fun y G => some (y, G)) G := Eq.trans rfl rfl
@[simp] theorem gV_s (x : Value) (b : Bool) (v : Value) (G : GS) : gV x b v G = gd x b (some (v, G)) G := Eq.trans rfl rfl
@[simp] theorem nf_s {β : Type} (q : Bool) (t f o : Nat) (v : Value) (k : Value → Option β) : nf q t f o v k = bP (pNil v) fun x => bP (fa Q q t f o x) k := Eq.trans rfl rfl
@[simp] theorem fl_s {β : Type} (q : Bool) (t f o u : Nat) (v : Value) (G : GS) (k : Value → Option β) : fl q t f o u v G k = bP (fa Q q t f o v) fun x => bP (ld Q q u x G) k := Eq.trans rfl rfl
@[simp] theorem nl_s {β : Type} (q : Bool) (t f o u : Nat) (v : Value) (G : GS) (k : Value → Option β) : nl q t f o u v G k = bP (pNil v) fun x => bP (fa Q q t f o x) fun y => bP (ld Q q u y G) k := Eq.trans rfl rfl
/-- a function's two forms, and what it is -/
theorem cS {k : FuncId} {fn : Func} {vs : List Value} {G : GS} {S : Bool → Ex → Option (Value × GS)} (hf : Q.funcs[k]? = some fn) (m : Ref (S true e) (S false (Ex.of (E orc)))) (hn : (fn.name == "runtime.NumGoroutine") = false := by kernel_rfl) (hb : fn.body.isSome = true := by kernel_rfl)
    (ho : (vs.isEmpty && orc k) = false := by kernel_rfl) (hp : isPur Q orc k = false := by kernel_rfl) (hl : Nat.ble vs.length fn.ntmps = true := by kernel_rfl) (hx : sxE Q (evL Q orc) fn.ntmps (bodyOf fn) (nth undef vs) G (retE Q fn.results.toList) = S false (Ex.of (E orc)) := by kernel_rfl) :
    Ref (S true e) ((E orc).cl k vs G) := fun r hr => cl_sxE_some Q orc G hf hn hb ho hp hl hx (m r hr)
abbrev LT (orc : FuncId → Bool) (N : Nat) (c : Code) (b : LpF → LpF) : Prop := ∀ lp : LpF, (∀ τ G, Ref (lp τ G) (mapE ((E orc).lp c (lst N τ) G))) → ∀ (T : List Value) (G : GS), T.length = N → Ref (b lp (nth undef T) G) (mapE ((E orc).lp c T G))
/-- a loop's -/
theorem cL {N : Nat} {c : Code} {B : Bool → Ex → LpF → LpF} (m : ∀ {lp lp' : LpF}, LpLe lp lp' → ∀ τ G, Ref (B true e lp τ G) (B false (Ex.of (E orc)) lp' τ G))
    (hx : ∀ T G, sxE Q (evL Q orc) N c (nth undef T) G (seqXE (fun τ G' => mapE ((evL Q orc).lp c (lst N (nth undef (lst N τ))) G')) fun e τ G' => some (e, nth undef (lst N τ), G')) = B false (Ex.of (E orc)) (fun τ G => mapE ((E orc).lp c (lst N τ) G)) (nth undef T) G := by intro T G; kernel_rfl) :
    LT orc N c (B true e) := fun lp hlp T G hT r hr => lp_sxN Q orc G hT (hx T G) (m ⟨hlp⟩ _ _ r hr)
theorem cf {n f : FuncId} {vs : List Value} {G : GS} {x : Option (Value × GS)} (h : Ref x ((E orc).cl n vs G)) : Ref (leaf f n x) ((E orc).cl f vs G) := Ref.leaf (y := fun f => (E orc).cl f vs G) h
theorem ck {j f k : Nat} {τ : Env} {G : GS} {x : Option (Exit × Env × GS)} (h : Ref x (mapE ((E orc).lp (codeAt Q f j) (lst (nOf Q f) τ) G))) : Ref (leaf k j x) (mapE ((E orc).lp (codeAt Q f k) (lst (nOf Q f) τ) G)) := Ref.leaf (y := fun k => mapE ((E orc).lp (codeAt Q f k) (lst (nOf Q f) τ) G)) h
theorem cl' {n f k : Nat} {τ : Env} {G : GS} {x : Option (Exit × Env × GS)} (h : Ref x (mapE ((E orc).lp (codeAt Q n k) (lst (nOf Q n) τ) G))) : Ref (leaf f n x) (mapE ((E orc).lp (codeAt Q f k) (lst (nOf Q f) τ) G)) := Ref.leaf (y := fun f => mapE ((E orc).lp (codeAt Q f k) (lst (nOf Q f) τ) G)) h
theorem Ref.gj {α : Type} {x y : Option α} (t : Ref x y := by repeat' (with_reducible first | exact Ref.rfl' _ | exact ROp.r | refine Ref.bP ?_ fun _ => ?_ | refine Ref.bS ?_ fun _ _ => ?_ | exact Ref.cl (by assumption) | refine Ref.ifV ?_ ?_ | refine LpLe.rx (by assumption) ?_ | refine Ref.xitq ?_ | exact UOk.z | refine UOk.c (by assumption) ?_ | exact Ref.nil _ | refine Ref.bVe fun _ _ => ?_ | refine Ref.bLq (by assumption) ?_ fun _ _ _ => ?_ | refine Ref.ifE ?_ ?_ | refine Ref.chk ?_ ?_ | refine Imp.and ?_ ?_ | refine Imp.or ?_ | exact Imp.rfl' _ | refine Imp.sameO ?_ | refine Ref.gd ?_ | exact Ref.cValue (by assumption) | refine Ref.bX ?_ fun _ _ _ => ?_ | exact Ref.scQ (by assumption) | exact Ref.xRangeQ (by assumption) | exact Ref.cInvoke (by assumption) | refine j0 ?_ | refine j1 ?_ | refine j2 ?_ | refine j3 ?_ | refine j4 ?_ | refine j5 ?_ | refine j6 ?_)) : Ref x y := t
instance ilp3_0 : LpIs Q 3 0 (subAt [1, 1, 1, 1, 1, 1, 0, 1, 0, 0] (bodyOf Tryz.f3)) 121 := ⟨by kernel_rfl, by kernel_rfl⟩
instance ilp15_0 : LpIs Q 15 0 (subAt [1, 1, 1, 0, 1, 0, 0] (bodyOf Tryz.f15)) 39 := ⟨by kernel_rfl, by kernel_rfl⟩
instance ilp22_0 : LpIs Q 22 0 (subAt [1, 1, 1, 1, 0, 0] (bodyOf Tryz.f22)) 24 := ⟨by kernel_rfl, by kernel_rfl⟩
instance ilp34_0 : LpIs Q 34 0 (subAt [1, 1, 1, 0, 1, 0, 0] (bodyOf Tryz.f34)) 42 := ⟨by kernel_rfl, by kernel_rfl⟩
instance ilp36_0 : LpIs Q 36 0 (subAt [1, 1, 0, 1, 0, 0] (bodyOf Tryz.f36)) 29 := ⟨by kernel_rfl, by kernel_rfl⟩
instance ilp56_0 : LpIs Q 56 0 (subAt [1, 0, 1, 0, 0] (bodyOf Tryz.f56)) 20 := ⟨by kernel_rfl, by kernel_rfl⟩
instance ilp71_0 : LpIs Q 71 0 (subAt [1, 1, 1, 1, 0, 0] (bodyOf Tryz.f71)) 23 := ⟨by kernel_rfl, by kernel_rfl⟩
instance ilp100_0 : LpIs Q 100 0 (subAt [0, 1, 0, 0] (bodyOf Tryz.f100)) 74 := ⟨by kernel_rfl, by kernel_rfl⟩
instance ilp100_1 : LpIs Q 100 1 (subAt [1, 0, 1, 0, 0] (bodyOf Tryz.f100)) 74 := ⟨by kernel_rfl, by kernel_rfl⟩
instance ilp100_2 : LpIs Q 100 2 (subAt [1, 1, 1, 0, 0] (bodyOf Tryz.f100)) 74 := ⟨by kernel_rfl, by kernel_rfl⟩
instance ilp100_3 : LpIs Q 100 3 (subAt [1, 1, 1, 0, 0, 1, 1, 0, 0, 1, 1, 1, 1, 0, 0] (bodyOf Tryz.f100)) 74 := ⟨by kernel_rfl, by kernel_rfl⟩
instance ilp115_0 : LpIs Q 115 0 (subAt [1, 0, 1, 0, 0] (bodyOf Tryz.f115)) 26 := ⟨by kernel_rfl, by kernel_rfl⟩
instance ilp116_0 : LpIs Q 116 0 (subAt [1, 1, 0, 1, 0, 0] (bodyOf Tryz.f116)) 36 := ⟨by kernel_rfl, by kernel_rfl⟩
instance ilp118_0 : LpIs Q 118 0 (subAt [1, 0, 1, 0, 0] (bodyOf Tryz.f118)) 27 := ⟨by kernel_rfl, by kernel_rfl⟩
instance ilp119_0 : LpIs Q 119 0 (subAt [1, 0, 1, 0, 0] (bodyOf Tryz.f119)) 40 := ⟨by kernel_rfl, by kernel_rfl⟩
instance ilp129_0 : LpIs Q 129 0 (subAt [1, 1, 1, 1, 1, 0, 0] (bodyOf Tryz.f129)) 29 := ⟨by kernel_rfl, by kernel_rfl⟩
instance ilp188_0 : LpIs Q 188 0 (subAt [1, 1, 1, 1, 0, 0] (bodyOf Tryz.f188)) 34 := ⟨by kernel_rfl, by kernel_rfl⟩
instance ilp192_0 : LpIs Q 192 0 (subAt [1, 0, 1, 1, 1, 1, 1, 0, 0] (bodyOf Tryz.f192)) 91 := ⟨by kernel_rfl, by kernel_rfl⟩
instance ilp231_0 : LpIs Q 231 0 (subAt [1, 1, 0, 0] (bodyOf Tryz.f231)) 35 := ⟨by kernel_rfl, by kernel_rfl⟩
instance ilp233_0 : LpIs Q 233 0 (subAt [1, 1, 0, 0] (bodyOf Tryz.f233)) 40 := ⟨by kernel_rfl, by kernel_rfl⟩
instance ilp241_0 : LpIs Q 241 0 (subAt [1, 0, 0] (bodyOf Tryz.f241)) 18 := ⟨by kernel_rfl, by kernel_rfl⟩
instance ilp282_0 : LpIs Q 282 0 (subAt [1, 0, 1, 0, 0] (bodyOf Tryz.f282)) 24 := ⟨by kernel_rfl, by kernel_rfl⟩
instance ilp284_0 : LpIs Q 284 0 (subAt [1, 1, 0, 1, 0, 0] (bodyOf Tryz.f284)) 24 := ⟨by kernel_rfl, by kernel_rfl⟩
instance ilp356_0 : LpIs Q 356 0 (subAt [1, 1, 0, 0] (bodyOf Tryz.f356)) 25 := ⟨by kernel_rfl, by kernel_rfl⟩
instance ilp376_0 : LpIs Q 376 0 (subAt [1, 0, 1, 1, 0, 0, 0] (bodyOf Tryz.f376)) 162 := ⟨by kernel_rfl, by kernel_rfl⟩
instance ilp386_0 : LpIs Q 386 0 (subAt [1, 0, 1, 1, 1, 1, 1, 0, 0, 0] (bodyOf Tryz.f386)) 195 := ⟨by kernel_rfl, by kernel_rfl⟩
instance ilp419_0 : LpIs Q 419 0 (subAt [1, 1, 0, 1, 0, 0] (bodyOf Tryz.f419)) 36 := ⟨by kernel_rfl, by kernel_rfl⟩
instance ilp425_0 : LpIs Q 425 0 (subAt [1, 0, 1, 1, 0, 1, 0, 0] (bodyOf Tryz.f425)) 66 := ⟨by kernel_rfl, by kernel_rfl⟩
instance ilp437_0 : LpIs Q 437 0 (subAt [1, 1, 0, 1, 0, 0] (bodyOf Tryz.f437)) 20 := ⟨by kernel_rfl, by kernel_rfl⟩
instance ilp443_0 : LpIs Q 443 0 (subAt [1, 1, 0, 1, 0, 0] (bodyOf Tryz.f443)) 20 := ⟨by kernel_rfl, by kernel_rfl⟩
instance ilp444_0 : LpIs Q 444 0 (subAt [1, 1, 0, 1, 0, 0] (bodyOf Tryz.f444)) 20 := ⟨by kernel_rfl, by kernel_rfl⟩
abbrev z31 : List Value := [(.int .i64 0), (.int .i64 0), (.int .i64 0), (.int .i64 0), (.int .i64 0), (.int .i64 0), (.int .i64 0), (.int .i64 0), (.int .i64 0), (.int .i64 0), (.int .i64 0), (.int .i64 0), (.int .i64 0)]
instance ial31 : AlOk Q 31 z31 := ⟨fun G => by kernel_rfl⟩
instance ist31 : StOk Q 31 13 := ⟨fun b o s v G => by kernel_rfl⟩
instance iep33 : EpOk Q 33 := ⟨fun neg x y => by cases neg <;> kernel_rfl, fun neg x y a => by cases neg <;> kernel_rfl, fun neg x y a => by cases neg <;> kernel_rfl⟩
instance ilda31 : LdAOk Q 31 13 := ⟨fun b o s G => by kernel_rfl⟩
abbrev z45 : List Value := [(.int .u64 0), (.int .i64 0)]
instance ial45 : AlOk Q 45 z45 := ⟨fun G => by kernel_rfl⟩
instance ist45 : StOk Q 45 2 := ⟨fun b o s v G => by kernel_rfl⟩
instance ilda45 : LdAOk Q 45 2 := ⟨fun b o s G => by kernel_rfl⟩
instance ibd45_0_1 : BdOk Q 45 z45 [(0, 0, 1), (1, 1, 1)] := bd_ok Q (by kernel_rfl) (by kernel_rfl) (by kernel_rfl)
abbrev z49 : List Value := [(.int .i64 0), (.int .i64 0), (.int .i64 0), (.int .i64 0), (.int .i64 0)]
instance ibd49_0_1_2 : BdOk Q 49 z49 [(0, 0, 1), (1, 1, 1), (2, 2, 1)] := bd_ok Q (by kernel_rfl) (by kernel_rfl) (by kernel_rfl)
abbrev z23 : List Value := [(.int .i64 0), (.int .i64 0), (.int .i64 0)]
instance ibd23_0_1_2 : BdOk Q 23 z23 [(0, 0, 1), (1, 1, 1), (2, 2, 1)] := bd_ok Q (by kernel_rfl) (by kernel_rfl) (by kernel_rfl)
abbrev z25 : List Value := [(.int .i64 0), (.int .i64 0), (.int .i64 0), (.int .i64 0), (.int .i64 0), (.int .i64 0)]
instance ibd25_0_1_2_3 : BdOk Q 25 z25 [(0, 0, 3), (1, 3, 1), (2, 4, 1), (3, 5, 1)] := bd_ok Q (by kernel_rfl) (by kernel_rfl) (by kernel_rfl)
instance ial25 : AlOk Q 25 z25 := ⟨fun G => by kernel_rfl⟩
instance ist25 : StOk Q 25 6 := ⟨fun b o s v G => by kernel_rfl⟩
instance ilda25 : LdAOk Q 25 6 := ⟨fun b o s G => by kernel_rfl⟩
abbrev z27 : List Value := [(.int .i64 0), (.int .i64 0), (.int .i64 0)]
instance ibd27_0_1_2 : BdOk Q 27 z27 [(0, 0, 1), (1, 1, 1), (2, 2, 1)] := bd_ok Q (by kernel_rfl) (by kernel_rfl) (by kernel_rfl)
abbrev z29 : List Value := [(.int .i64 0), (.int .i64 0), (.int .i64 0), (.int .i64 0), (.int .i64 0), (.int .i64 0), (.int .i64 0), (.int .i64 0), (.int .i64 0), (.int .i64 0)]
instance ibd29_0_1_2 : BdOk Q 29 z29 [(0, 0, 6), (1, 6, 3), (2, 9, 1)] := bd_ok Q (by kernel_rfl) (by kernel_rfl) (by kernel_rfl)
instance ial29 : AlOk Q 29 z29 := ⟨fun G => by kernel_rfl⟩
instance ist29 : StOk Q 29 10 := ⟨fun b o s v G => by kernel_rfl⟩
instance ilda29 : LdAOk Q 29 10 := ⟨fun b o s G => by kernel_rfl⟩
instance ibd31_0_1_2_3 : BdOk Q 31 z31 [(0, 0, 1), (1, 1, 1), (2, 2, 1), (3, 3, 10)] := bd_ok Q (by kernel_rfl) (by kernel_rfl) (by kernel_rfl)
abbrev z3 : List Value := [(.int .i64 0)]
instance ial3 : AlOk Q 3 z3 := ⟨fun G => by kernel_rfl⟩
instance ild3 : LdOk Q 3 := ⟨fun b o s G => (show _ = loadOne b o G by kernel_rfl).trans (loadOne_eq b o G)⟩
instance ifa31_3 : FaOk Q 31 3 3 := ⟨fun b o s => by kernel_rfl⟩
instance ifa29_0 : FaOk Q 29 0 0 := ⟨fun b o s => by kernel_rfl⟩
instance ifa25_0 : FaOk Q 25 0 0 := ⟨fun b o s => by kernel_rfl⟩
instance ifa23_2 : FaOk Q 23 2 2 := ⟨fun b o s => by kernel_rfl⟩
instance ist3 : StOk Q 3 1 := ⟨fun b o s v G => by kernel_rfl⟩
abbrev z80 : List Value := [(.int .i64 0), (.int .i64 0), (.int .u64 0), (.int .u64 0), (.bool false)]
instance ibd80_0_1 : BdOk Q 80 z80 [(0, 0, 1), (1, 1, 1)] := bd_ok Q (by kernel_rfl) (by kernel_rfl) (by kernel_rfl)
abbrev z102 : List Value := [(.int .i64 0), (.int .i64 0), (.int .i64 0), (.int .i64 0), (.int .i64 0), (.int .i64 0), (.int .i64 0), (.int .i64 0), (.int .i64 0), (.int .i64 0), (.int .i64 0), (.int .i64 0), (.int .i64 0), (.int .i64 0), (.bool false), (.int .i64 0), (.slice none 0 0), (.int .u64 0), (.int .i64 0), (.int .u64 0), (.int .i64 0), (.int .i64 0)]
instance ibd102_0 : BdOk Q 102 z102 [(0, 0, 19)] := bd_ok Q (by kernel_rfl) (by kernel_rfl) (by kernel_rfl)
abbrev z40 : List Value := [(.pointer none)]
instance ial40 : AlOk Q 40 z40 := ⟨fun G => by kernel_rfl⟩
instance ist40 : StOk Q 40 1 := ⟨fun b o s v G => by kernel_rfl⟩
instance ild40 : LdOk Q 40 := ⟨fun b o s G => (show _ = loadOne b o G by kernel_rfl).trans (loadOne_eq b o G)⟩
instance ifa102_0 : FaOk Q 102 0 0 := ⟨fun b o s => by kernel_rfl⟩
instance ifa97_6 : FaOk Q 97 6 18 := ⟨fun b o s => by kernel_rfl⟩
instance ild38 : LdOk Q 38 := ⟨fun b o s G => (show _ = loadOne b o G by kernel_rfl).trans (loadOne_eq b o G)⟩
abbrev z113 : List Value := [.nilFunc, .nilFunc, .nilFunc, (.pointer none), (.bool false)]
instance ibd113_0_1_2 : BdOk Q 113 z113 [(0, 0, 1), (1, 1, 1), (2, 2, 1)] := bd_ok Q (by kernel_rfl) (by kernel_rfl) (by kernel_rfl)
instance iifc106 : IfcOk Q 106 := ⟨fun v => by kernel_rfl⟩
abbrev z104 : List Value := [.nilIface]
instance ibs95_3_0_1_2 : BsOk Q 95 3 (rep z104 3) 1 [(0, 0, 1), (1, 1, 1), (2, 2, 1)] := bs_ok Q (z0 := z104) (by kernel_rfl) rfl (by decide) (by kernel_rfl)
instance ifa97_4 : FaOk Q 97 4 16 := ⟨fun b o s => by kernel_rfl⟩
instance ist95 : StOk Q 95 1 := ⟨fun b o s v G => by kernel_rfl⟩
instance iep40 : EpOk Q 40 := ⟨fun neg x y => by cases neg <;> kernel_rfl, fun neg x y a => by cases neg <;> kernel_rfl, fun neg x y a => by cases neg <;> kernel_rfl⟩
instance ifa97_5 : FaOk Q 97 5 17 := ⟨fun b o s => by kernel_rfl⟩
instance ild37 : LdOk Q 37 := ⟨fun b o s G => (show _ = loadOne b o G by kernel_rfl).trans (loadOne_eq b o G)⟩
instance ibd45_ : BdOk Q 45 z45 [] := bd_ok Q (by kernel_rfl) (by kernel_rfl) (by kernel_rfl)
instance ifa102_1 : FaOk Q 102 1 19 := ⟨fun b o s => by kernel_rfl⟩
instance ilda100 : LdAOk Q 100 3 := ⟨fun b o s G => by kernel_rfl⟩
instance ial49 : AlOk Q 49 z49 := ⟨fun G => by kernel_rfl⟩
instance ibd49_ : BdOk Q 49 z49 [] := bd_ok Q (by kernel_rfl) (by kernel_rfl) (by kernel_rfl)
instance ist49 : StOk Q 49 5 := ⟨fun b o s v G => by kernel_rfl⟩
abbrev z91 : List Value := [(.int .i64 0), (.int .i64 0), (.int .i64 0), (.int .i64 0), (.int .i64 0), (.int .i64 0), (.int .i64 0), (.int .i64 0), (.int .i64 0), (.int .i64 0), (.int .i64 0), (.int .i64 0), (.int .i64 0), (.pointer none), (.slice none 0 0)]
instance ial91 : AlOk Q 91 z91 := ⟨fun G => by kernel_rfl⟩
instance ist91 : StOk Q 91 15 := ⟨fun b o s v G => by kernel_rfl⟩
instance ilda91 : LdAOk Q 91 15 := ⟨fun b o s G => by kernel_rfl⟩
instance ifa25_2 : FaOk Q 25 2 4 := ⟨fun b o s => by kernel_rfl⟩
instance icv3_37 : CvOk Q 3 37 .i64 .u64 := ⟨fun n => by kernel_rfl⟩
instance icv37_3 : CvOk Q 37 3 .u64 .i64 := ⟨fun n => by kernel_rfl⟩
instance ibd49_3 : BdOk Q 49 z49 [(3, 3, 1)] := bd_ok Q (by kernel_rfl) (by kernel_rfl) (by kernel_rfl)
instance ifa49_0 : FaOk Q 49 0 0 := ⟨fun b o s => by kernel_rfl⟩
instance ifa49_1 : FaOk Q 49 1 1 := ⟨fun b o s => by kernel_rfl⟩
instance ifa49_2 : FaOk Q 49 2 2 := ⟨fun b o s => by kernel_rfl⟩
instance ifa49_3 : FaOk Q 49 3 3 := ⟨fun b o s => by kernel_rfl⟩
instance ifa49_4 : FaOk Q 49 4 4 := ⟨fun b o s => by kernel_rfl⟩
instance ilda49 : LdAOk Q 49 5 := ⟨fun b o s G => by kernel_rfl⟩
abbrev z117 : List Value := [.nilFunc]
instance ibs118_6_0_1_2_3_4_5 : BsOk Q 118 6 (rep z117 6) 1 [(0, 0, 1), (1, 1, 1), (2, 2, 1), (3, 3, 1), (4, 4, 1), (5, 5, 1)] := bs_ok Q (z0 := z117) (by kernel_rfl) rfl (by decide) (by kernel_rfl)
instance iln118 : LnOk Q 118 := ⟨fun a n c => by kernel_rfl⟩
instance iias118 : IasOk Q 118 1 := ⟨fun b o s n c k j => by kernel_rfl⟩
instance ild117 : LdOk Q 117 := ⟨fun b o s G => (show _ = loadOne b o G by kernel_rfl).trans (loadOne_eq b o G)⟩
abbrev z122 : List Value := [(.pointer none), (.int .u64 0), (.int .u64 0)]
instance ibd122_0_1 : BdOk Q 122 z122 [(0, 0, 1), (1, 1, 1)] := bd_ok Q (by kernel_rfl) (by kernel_rfl) (by kernel_rfl)
instance ial122 : AlOk Q 122 z122 := ⟨fun G => by kernel_rfl⟩
instance ist122 : StOk Q 122 3 := ⟨fun b o s v G => by kernel_rfl⟩
instance ifa122_0 : FaOk Q 122 0 0 := ⟨fun b o s => by kernel_rfl⟩
instance ild119 : LdOk Q 119 := ⟨fun b o s G => (show _ = loadOne b o G by kernel_rfl).trans (loadOne_eq b o G)⟩
instance ilda122 : LdAOk Q 122 3 := ⟨fun b o s G => by kernel_rfl⟩
instance ibd49_0_1 : BdOk Q 49 z49 [(0, 0, 1), (1, 1, 1)] := bd_ok Q (by kernel_rfl) (by kernel_rfl) (by kernel_rfl)
abbrev z135 : List Value := (zs 4096 (.int .u64 0))
instance ial135 : AlOk Q 135 z135 := ⟨fun G => by kernel_rfl⟩
abbrev z137 : List Value := [(.pointer none), (.int .i64 0), (.int .i64 0), (.int .i64 0), (.int .u64 0), (.int .u64 0), (.bool false), (.int .i64 0)]
instance ibd137_0_1 : BdOk Q 137 z137 [(0, 0, 1), (1, 1, 1)] := bd_ok Q (by kernel_rfl) (by kernel_rfl) (by kernel_rfl)
instance ifa31_2 : FaOk Q 31 2 2 := ⟨fun b o s => by kernel_rfl⟩
instance ifa31_1 : FaOk Q 31 1 1 := ⟨fun b o s => by kernel_rfl⟩
instance ifa137_0 : FaOk Q 137 0 0 := ⟨fun b o s => by kernel_rfl⟩
instance ild132 : LdOk Q 132 := ⟨fun b o s G => (show _ = loadOne b o G by kernel_rfl).trans (loadOne_eq b o G)⟩
instance iep132 : EpOk Q 132 := ⟨fun neg x y => by cases neg <;> kernel_rfl, fun neg x y a => by cases neg <;> kernel_rfl, fun neg x y a => by cases neg <;> kernel_rfl⟩
instance ifa137_1 : FaOk Q 137 1 1 := ⟨fun b o s => by kernel_rfl⟩
abbrev z37 : List Value := [(.int .u64 0)]
instance imk54 : MkSlOk Q 54 1 8 z37 := ⟨fun k k' l c G => by kernel_rfl⟩
instance isla135 : SlAOk Q 135 4096 1 := ⟨fun a lo hi mx G => by kernel_rfl⟩
instance iln169 : LnOk Q 169 := ⟨fun a n c => by kernel_rfl⟩
instance iias169 : IasOk Q 169 1 := ⟨fun b o s n c k j => by kernel_rfl⟩
instance ild133 : LdOk Q 133 := ⟨fun b o s G => (show _ = loadOne b o G by kernel_rfl).trans (loadOne_eq b o G)⟩
instance iias54 : IasOk Q 54 1 := ⟨fun b o s n c k j => by kernel_rfl⟩
instance ist37 : StOk Q 37 1 := ⟨fun b o s v G => by kernel_rfl⟩
instance ibd91_0_1_2 : BdOk Q 91 z91 [(0, 0, 13), (1, 13, 1), (2, 14, 1)] := bd_ok Q (by kernel_rfl) (by kernel_rfl) (by kernel_rfl)
instance ifa80_1 : FaOk Q 80 1 1 := ⟨fun b o s => by kernel_rfl⟩
abbrev z97 : List Value := [(.int .i64 0), (.int .i64 0), (.int .i64 0), (.int .i64 0), (.int .i64 0), (.int .i64 0), (.int .i64 0), (.int .i64 0), (.int .i64 0), (.int .i64 0), (.int .i64 0), (.int .i64 0), (.int .i64 0), (.int .i64 0), (.bool false), (.int .i64 0), (.slice none 0 0), (.int .u64 0), (.int .i64 0)]
instance ial97 : AlOk Q 97 z97 := ⟨fun G => by kernel_rfl⟩
instance ibd97_0_1_2 : BdOk Q 97 z97 [(0, 0, 13), (1, 13, 1), (2, 14, 1)] := bd_ok Q (by kernel_rfl) (by kernel_rfl) (by kernel_rfl)
instance ist97 : StOk Q 97 19 := ⟨fun b o s v G => by kernel_rfl⟩
instance ist38 : StOk Q 38 1 := ⟨fun b o s v G => by kernel_rfl⟩
instance ifa29_1 : FaOk Q 29 1 6 := ⟨fun b o s => by kernel_rfl⟩
instance ifa27_2 : FaOk Q 27 2 2 := ⟨fun b o s => by kernel_rfl⟩
instance ilda97 : LdAOk Q 97 19 := ⟨fun b o s G => by kernel_rfl⟩
abbrev z185 : List Value := [.nilFunc, .nilFunc, .nilFunc, (.pointer none), (.bool false)]
instance ibd185_0_2 : BdOk Q 185 z185 [(0, 0, 1), (2, 2, 1)] := bd_ok Q (by kernel_rfl) (by kernel_rfl) (by kernel_rfl)
instance iifc178 : IfcOk Q 178 := ⟨fun v => by kernel_rfl⟩
abbrev z195 : List Value := [(.int .i64 0), (.int .i64 0), (.int .i64 0), (.int .i64 0), (.int .i64 0), (.int .i64 0), (.int .i64 0), (.int .i64 0), (.int .i64 0), (.int .i64 0), (.int .i64 0), (.int .i64 0), (.int .i64 0), (.int .i64 0), (.bool false), (.pointer none), (.pointer none), (.int .i64 0), (.int .u64 0), (.int .i64 0), (.int .u64 0), (.int .u64 0), (.int .i64 0), (.int .u64 0), (.bool false), (.int .i64 0)]
instance ibd195_0 : BdOk Q 195 z195 [(0, 0, 26)] := bd_ok Q (by kernel_rfl) (by kernel_rfl) (by kernel_rfl)
instance iep107 : EpOk Q 107 := ⟨fun neg x y => by cases neg <;> kernel_rfl, fun neg x y a => by cases neg <;> kernel_rfl, fun neg x y a => by cases neg <;> kernel_rfl⟩
instance ifa195_0 : FaOk Q 195 0 0 := ⟨fun b o s => by kernel_rfl⟩
instance ifa192_7 : FaOk Q 192 7 23 := ⟨fun b o s => by kernel_rfl⟩
instance ifa100_0 : FaOk Q 100 0 0 := ⟨fun b o s => by kernel_rfl⟩
instance ifa100_1 : FaOk Q 100 1 2 := ⟨fun b o s => by kernel_rfl⟩
abbrev z203 : List Value := [.nilFunc, .nilFunc, .nilFunc, (.pointer none), (.bool false)]
instance ibd203_0 : BdOk Q 203 z203 [(0, 0, 1)] := bd_ok Q (by kernel_rfl) (by kernel_rfl) (by kernel_rfl)
instance iifc196 : IfcOk Q 196 := ⟨fun v => by kernel_rfl⟩
instance ild95 : LdOk Q 95 := ⟨fun b o s G => (show _ = loadOne b o G by kernel_rfl).trans (loadOne_eq b o G)⟩
instance iln95 : LnOk Q 95 := ⟨fun a n c => by kernel_rfl⟩
instance iias95 : IasOk Q 95 1 := ⟨fun b o s n c k j => by kernel_rfl⟩
instance ild104 : LdOk Q 104 := ⟨fun b o s G => (show _ = loadOne b o G by kernel_rfl).trans (loadOne_eq b o G)⟩
instance isl95 : SlOk Q 95 1 := ⟨fun a n c lo hi mx G => sl_eq Q (e := 104) (by kernel_rfl) (by kernel_rfl) a n c lo hi mx G⟩
instance ibs95_1_0 : BsOk Q 95 1 (rep z104 1) 1 [(0, 0, 1)] := bs_ok Q (z0 := z104) (by kernel_rfl) rfl (by decide) (by kernel_rfl)
instance iap95_95 : ApOk Q 95 95 1 16 := ⟨fun s x G => by kernel_rfl⟩
instance ifa91_2 : FaOk Q 91 2 14 := ⟨fun b o s => by kernel_rfl⟩
instance ild54 : LdOk Q 54 := ⟨fun b o s G => (show _ = loadOne b o G by kernel_rfl).trans (loadOne_eq b o G)⟩
instance iln54 : LnOk Q 54 := ⟨fun a n c => by kernel_rfl⟩
abbrev z116 : List Value := [.nilFunc]
instance ial116 : AlOk Q 116 z116 := ⟨fun G => by kernel_rfl⟩
instance ist116 : StOk Q 116 1 := ⟨fun b o s v G => by kernel_rfl⟩
instance ifa91_0 : FaOk Q 91 0 0 := ⟨fun b o s => by kernel_rfl⟩
instance ifa91_1 : FaOk Q 91 1 13 := ⟨fun b o s => by kernel_rfl⟩
instance ild33 : LdOk Q 33 := ⟨fun b o s G => (show _ = loadOne b o G by kernel_rfl).trans (loadOne_eq b o G)⟩
abbrev z127 : List Value := [(.slice none 0 0)]
instance ial127 : AlOk Q 127 z127 := ⟨fun G => by kernel_rfl⟩
instance ist127 : StOk Q 127 1 := ⟨fun b o s v G => by kernel_rfl⟩
abbrev z38 : List Value := [(.int .i64 0)]
instance ial38 : AlOk Q 38 z38 := ⟨fun G => by kernel_rfl⟩
abbrev z4 : List Value := [(.bool false)]
instance imk208 : MkSlOk Q 208 1 1 z4 := ⟨fun k k' l c G => by kernel_rfl⟩
abbrev z208 : List Value := [(.slice none 0 0)]
instance ial208 : AlOk Q 208 z208 := ⟨fun G => by kernel_rfl⟩
instance ist208 : StOk Q 208 1 := ⟨fun b o s v G => by kernel_rfl⟩
instance ild208 : LdOk Q 208 := ⟨fun b o s G => (show _ = loadOne b o G by kernel_rfl).trans (loadOne_eq b o G)⟩
instance iias208 : IasOk Q 208 1 := ⟨fun b o s n c k j => by kernel_rfl⟩
instance ild4 : LdOk Q 4 := ⟨fun b o s G => (show _ = loadOne b o G by kernel_rfl).trans (loadOne_eq b o G)⟩
instance ist4 : StOk Q 4 1 := ⟨fun b o s v G => by kernel_rfl⟩
instance ilda27 : LdAOk Q 27 3 := ⟨fun b o s G => by kernel_rfl⟩
instance iln127 : LnOk Q 127 := ⟨fun a n c => by kernel_rfl⟩
instance iias127 : IasOk Q 127 1 := ⟨fun b o s n c k j => by kernel_rfl⟩
instance ifd49_4 : FdOk Q 49 4 4 := ⟨fun l => by kernel_rfl⟩
instance iiaa135 : IaaOk Q 135 4096 1 := ⟨fun b o s k j => by kernel_rfl⟩
instance ial80 : AlOk Q 80 z80 := ⟨fun G => by kernel_rfl⟩
instance ibd80_ : BdOk Q 80 z80 [] := bd_ok Q (by kernel_rfl) (by kernel_rfl) (by kernel_rfl)
instance ist80 : StOk Q 80 5 := ⟨fun b o s v G => by kernel_rfl⟩
instance ifa137_3 : FaOk Q 137 3 7 := ⟨fun b o s => by kernel_rfl⟩
instance ifa137_2 : FaOk Q 137 2 2 := ⟨fun b o s => by kernel_rfl⟩
instance ifa80_2 : FaOk Q 80 2 2 := ⟨fun b o s => by kernel_rfl⟩
instance ifa80_3 : FaOk Q 80 3 3 := ⟨fun b o s => by kernel_rfl⟩
instance ifa80_4 : FaOk Q 80 4 4 := ⟨fun b o s => by kernel_rfl⟩
instance ist133 : StOk Q 133 1 := ⟨fun b o s v G => by kernel_rfl⟩
instance ilda80 : LdAOk Q 80 5 := ⟨fun b o s G => by kernel_rfl⟩
instance ifa122_1 : FaOk Q 122 1 1 := ⟨fun b o s => by kernel_rfl⟩
instance ifa31_0 : FaOk Q 31 0 0 := ⟨fun b o s => by kernel_rfl⟩
instance ifd23_0 : FdOk Q 23 0 0 := ⟨fun l => by kernel_rfl⟩
abbrev z224 : List Value := [(.int .i64 0), (.int .i64 0), (.int .i64 0), (.int .i64 0), (.int .i64 0), (.int .i64 0), (.int .i64 0), (.int .i64 0), (.int .i64 0), (.int .i64 0), (.int .i64 0), (.int .i64 0), (.int .i64 0), (.int .i64 0), (.bool false), (.int .i64 0), (.slice none 0 0), (.int .u64 0), (.int .i64 0), (.int .u64 0), (.int .i64 0), (.int .i64 0), (.int .i64 0), (.int .u64 0)]
instance ibd224_0_1_2_3 : BdOk Q 224 z224 [(0, 0, 19), (1, 19, 1), (2, 20, 1), (3, 21, 1)] := bd_ok Q (by kernel_rfl) (by kernel_rfl) (by kernel_rfl)
instance ifa224_0 : FaOk Q 224 0 0 := ⟨fun b o s => by kernel_rfl⟩
instance ibs95_2_0_1 : BsOk Q 95 2 (rep z104 2) 1 [(0, 0, 1), (1, 1, 1)] := bs_ok Q (z0 := z104) (by kernel_rfl) rfl (by decide) (by kernel_rfl)
instance iep68 : EpOk Q 68 := ⟨fun neg x y => by cases neg <;> kernel_rfl, fun neg x y a => by cases neg <;> kernel_rfl, fun neg x y a => by cases neg <;> kernel_rfl⟩
instance iep71 : EpOk Q 71 := ⟨fun neg x y => by cases neg <;> kernel_rfl, fun neg x y a => by cases neg <;> kernel_rfl, fun neg x y a => by cases neg <;> kernel_rfl⟩
instance ifa227_0 : FaOk Q 227 0 0 := ⟨fun b o s => by kernel_rfl⟩
instance iep73 : EpOk Q 73 := ⟨fun neg x y => by cases neg <;> kernel_rfl, fun neg x y a => by cases neg <;> kernel_rfl, fun neg x y a => by cases neg <;> kernel_rfl⟩
instance ifa238_0 : FaOk Q 238 0 0 := ⟨fun b o s => by kernel_rfl⟩
instance ilda23 : LdAOk Q 23 3 := ⟨fun b o s G => by kernel_rfl⟩
instance ial23 : AlOk Q 23 z23 := ⟨fun G => by kernel_rfl⟩
instance ist23 : StOk Q 23 3 := ⟨fun b o s v G => by kernel_rfl⟩
instance ifa29_2 : FaOk Q 29 2 9 := ⟨fun b o s => by kernel_rfl⟩
instance ifa23_0 : FaOk Q 23 0 0 := ⟨fun b o s => by kernel_rfl⟩
instance ild127 : LdOk Q 127 := ⟨fun b o s G => (show _ = loadOne b o G by kernel_rfl).trans (loadOne_eq b o G)⟩
instance ibs127_1_0 : BsOk Q 127 1 (rep z3 1) 1 [(0, 0, 1)] := bs_ok Q (z0 := z3) (by kernel_rfl) rfl (by decide) (by kernel_rfl)
instance iap127_127 : ApOk Q 127 127 1 8 := ⟨fun s x G => by kernel_rfl⟩
abbrev z270 : List Value := [(.int .i64 0), (.int .i64 0), (.bool false)]
instance ial270 : AlOk Q 270 z270 := ⟨fun G => by kernel_rfl⟩
instance ist270 : StOk Q 270 3 := ⟨fun b o s v G => by kernel_rfl⟩
instance ifa270_2 : FaOk Q 270 2 2 := ⟨fun b o s => by kernel_rfl⟩
instance ifa270_0 : FaOk Q 270 0 0 := ⟨fun b o s => by kernel_rfl⟩
instance ifa270_1 : FaOk Q 270 1 1 := ⟨fun b o s => by kernel_rfl⟩
instance ifa25_1 : FaOk Q 25 1 3 := ⟨fun b o s => by kernel_rfl⟩
instance ild115 : LdOk Q 115 := ⟨fun b o s G => (show _ = loadOne b o G by kernel_rfl).trans (loadOne_eq b o G)⟩
instance ifa97_0 : FaOk Q 97 0 0 := ⟨fun b o s => by kernel_rfl⟩
instance ifa97_1 : FaOk Q 97 1 13 := ⟨fun b o s => by kernel_rfl⟩
abbrev z277 : List Value := [.nilFunc, .nilFunc, .nilFunc, (.int .i64 0), (.bool false), (.int .i64 0)]
instance ibd277_2 : BdOk Q 277 z277 [(2, 4, 1)] := bd_ok Q (by kernel_rfl) (by kernel_rfl) (by kernel_rfl)
abbrev z281 : List Value := [.nilFunc, .nilFunc, .nilFunc, (.int .i64 0), (.bool false), (.int .i64 0), (.int .i64 0), (.int .i64 0), (.int .i64 0), (.int .i64 0), (.int .u32 0)]
instance ibd281_0_1 : BdOk Q 281 z281 [(0, 0, 6), (1, 6, 3)] := bd_ok Q (by kernel_rfl) (by kernel_rfl) (by kernel_rfl)
instance ifa281_0 : FaOk Q 281 0 0 := ⟨fun b o s => by kernel_rfl⟩
instance ifa27_1 : FaOk Q 27 1 1 := ⟨fun b o s => by kernel_rfl⟩
instance ifa281_2 : FaOk Q 281 2 9 := ⟨fun b o s => by kernel_rfl⟩
abbrev z275 : List Value := [.nilFunc, .nilFunc, .nilFunc]
instance ibd275_0_1_2 : BdOk Q 275 z275 [(0, 0, 1), (1, 1, 1), (2, 2, 1)] := bd_ok Q (by kernel_rfl) (by kernel_rfl) (by kernel_rfl)
instance ifa277_0 : FaOk Q 277 0 0 := ⟨fun b o s => by kernel_rfl⟩
instance ist275 : StOk Q 275 3 := ⟨fun b o s v G => by kernel_rfl⟩
instance ifa97_3 : FaOk Q 97 3 15 := ⟨fun b o s => by kernel_rfl⟩
instance iep179 : EpOk Q 179 := ⟨fun neg x y => by cases neg <;> kernel_rfl, fun neg x y a => by cases neg <;> kernel_rfl, fun neg x y a => by cases neg <;> kernel_rfl⟩
instance ifa281_3 : FaOk Q 281 3 10 := ⟨fun b o s => by kernel_rfl⟩
instance ild279 : LdOk Q 279 := ⟨fun b o s G => (show _ = loadOne b o G by kernel_rfl).trans (loadOne_eq b o G)⟩
instance icv279_3 : CvOk Q 279 3 .u32 .i64 := ⟨fun n => by kernel_rfl⟩
abbrev z192 : List Value := [(.int .i64 0), (.int .i64 0), (.int .i64 0), (.int .i64 0), (.int .i64 0), (.int .i64 0), (.int .i64 0), (.int .i64 0), (.int .i64 0), (.int .i64 0), (.int .i64 0), (.int .i64 0), (.int .i64 0), (.int .i64 0), (.bool false), (.pointer none), (.pointer none), (.int .i64 0), (.int .u64 0), (.int .i64 0), (.int .u64 0), (.int .u64 0), (.int .i64 0), (.int .u64 0), (.bool false), (.int .i64 0)]
instance ial192 : AlOk Q 192 z192 := ⟨fun G => by kernel_rfl⟩
instance ibd192_8_2_9 : BdOk Q 192 z192 [(8, 24, 1), (2, 17, 1), (9, 25, 1)] := bd_ok Q (by kernel_rfl) (by kernel_rfl) (by kernel_rfl)
instance ist192 : StOk Q 192 26 := ⟨fun b o s v G => by kernel_rfl⟩
instance ibd192_0_8_2 : BdOk Q 192 z192 [(0, 0, 13), (8, 24, 1), (2, 17, 1)] := bd_ok Q (by kernel_rfl) (by kernel_rfl) (by kernel_rfl)
instance ilda192 : LdAOk Q 192 26 := ⟨fun b o s G => by kernel_rfl⟩
instance ifa192_8 : FaOk Q 192 8 24 := ⟨fun b o s => by kernel_rfl⟩
instance ifa192_2 : FaOk Q 192 2 17 := ⟨fun b o s => by kernel_rfl⟩
instance ifa192_9 : FaOk Q 192 9 25 := ⟨fun b o s => by kernel_rfl⟩
instance ifa192_6 : FaOk Q 192 6 21 := ⟨fun b o s => by kernel_rfl⟩
abbrev z286 : List Value := [.nilFunc, .nilFunc, .nilFunc, (.int .i64 0), (.bool false), (.int .i64 0), (.int .i64 0)]
instance ibd286_0_1 : BdOk Q 286 z286 [(0, 0, 6), (1, 6, 1)] := bd_ok Q (by kernel_rfl) (by kernel_rfl) (by kernel_rfl)
instance ifa286_0 : FaOk Q 286 0 0 := ⟨fun b o s => by kernel_rfl⟩
instance iiaa275 : IaaOk Q 275 3 1 := ⟨fun b o s k j => by kernel_rfl⟩
instance ist274 : StOk Q 274 1 := ⟨fun b o s v G => by kernel_rfl⟩
instance ifa97_2 : FaOk Q 97 2 14 := ⟨fun b o s => by kernel_rfl⟩
instance ild116 : LdOk Q 116 := ⟨fun b o s G => (show _ = loadOne b o G by kernel_rfl).trans (loadOne_eq b o G)⟩
instance isl127 : SlOk Q 127 1 := ⟨fun a n c lo hi mx G => sl_eq Q (e := 3) (by kernel_rfl) (by kernel_rfl) a n c lo hi mx G⟩
abbrev z54 : List Value := [(.slice none 0 0)]
instance ial54 : AlOk Q 54 z54 := ⟨fun G => by kernel_rfl⟩
instance ist54 : StOk Q 54 1 := ⟨fun b o s v G => by kernel_rfl⟩
instance icv37_279 : CvOk Q 37 279 .u64 .u32 := ⟨fun n => by kernel_rfl⟩
instance iep119 : EpOk Q 119 := ⟨fun neg x y => by cases neg <;> kernel_rfl, fun neg x y a => by cases neg <;> kernel_rfl, fun neg x y a => by cases neg <;> kernel_rfl⟩
instance ifa27_0 : FaOk Q 27 0 0 := ⟨fun b o s => by kernel_rfl⟩
instance ifa23_1 : FaOk Q 23 1 1 := ⟨fun b o s => by kernel_rfl⟩
instance ild68 : LdOk Q 68 := ⟨fun b o s G => (show _ = loadOne b o G by kernel_rfl).trans (loadOne_eq b o G)⟩
abbrev z302 : List Value := [.nilFunc, .nilFunc, .nilFunc, (.pointer none), (.bool false)]
instance ibd302_0_2 : BdOk Q 302 z302 [(0, 0, 1), (2, 2, 1)] := bd_ok Q (by kernel_rfl) (by kernel_rfl) (by kernel_rfl)
instance iifc295 : IfcOk Q 295 := ⟨fun v => by kernel_rfl⟩
abbrev z314 : List Value := [.nilFunc, .nilFunc, .nilFunc, (.pointer none), (.bool false)]
instance ibd314_0_2 : BdOk Q 314 z314 [(0, 0, 1), (2, 2, 1)] := bd_ok Q (by kernel_rfl) (by kernel_rfl) (by kernel_rfl)
instance iifc309 : IfcOk Q 309 := ⟨fun v => by kernel_rfl⟩
abbrev z262 : List Value := [(.int .i64 0), (.int .i64 0), (.int .i64 0)]
instance ial262 : AlOk Q 262 z262 := ⟨fun G => by kernel_rfl⟩
instance ibd262_0_1_2 : BdOk Q 262 z262 [(0, 0, 1), (1, 1, 1), (2, 2, 1)] := bd_ok Q (by kernel_rfl) (by kernel_rfl) (by kernel_rfl)
instance ist262 : StOk Q 262 3 := ⟨fun b o s v G => by kernel_rfl⟩
instance ilda262 : LdAOk Q 262 3 := ⟨fun b o s G => by kernel_rfl⟩
instance ifa262_0 : FaOk Q 262 0 0 := ⟨fun b o s => by kernel_rfl⟩
instance ifa262_1 : FaOk Q 262 1 1 := ⟨fun b o s => by kernel_rfl⟩
instance ifa262_2 : FaOk Q 262 2 2 := ⟨fun b o s => by kernel_rfl⟩
instance ild260 : LdOk Q 260 := ⟨fun b o s G => (show _ = loadOne b o G by kernel_rfl).trans (loadOne_eq b o G)⟩
instance iifc260 : IfcOk Q 260 := ⟨fun v => by kernel_rfl⟩
abbrev z267 : List Value := [(.int .i64 0), (.int .i64 0), (.int .i64 0)]
instance ial267 : AlOk Q 267 z267 := ⟨fun G => by kernel_rfl⟩
instance ibd267_0_1_2 : BdOk Q 267 z267 [(0, 0, 1), (1, 1, 1), (2, 2, 1)] := bd_ok Q (by kernel_rfl) (by kernel_rfl) (by kernel_rfl)
instance ist267 : StOk Q 267 3 := ⟨fun b o s v G => by kernel_rfl⟩
instance ilda267 : LdAOk Q 267 3 := ⟨fun b o s G => by kernel_rfl⟩
instance ifa267_0 : FaOk Q 267 0 0 := ⟨fun b o s => by kernel_rfl⟩
instance ifa267_1 : FaOk Q 267 1 1 := ⟨fun b o s => by kernel_rfl⟩
instance ifa267_2 : FaOk Q 267 2 2 := ⟨fun b o s => by kernel_rfl⟩
instance ild265 : LdOk Q 265 := ⟨fun b o s G => (show _ = loadOne b o G by kernel_rfl).trans (loadOne_eq b o G)⟩
instance iifc265 : IfcOk Q 265 := ⟨fun v => by kernel_rfl⟩
abbrev z363 : List Value := [(.int .i64 0), (.int .i64 0), (.int .i64 0), (.int .i64 0)]
instance ial363 : AlOk Q 363 z363 := ⟨fun G => by kernel_rfl⟩
instance ist363 : StOk Q 363 4 := ⟨fun b o s v G => by kernel_rfl⟩
instance iiaa363 : IaaOk Q 363 2 2 := ⟨fun b o s k j => by kernel_rfl⟩
instance ilda362 : LdAOk Q 362 2 := ⟨fun b o s G => by kernel_rfl⟩
instance ibd270_0_1_2 : BdOk Q 270 z270 [(0, 0, 1), (1, 1, 1), (2, 2, 1)] := bd_ok Q (by kernel_rfl) (by kernel_rfl) (by kernel_rfl)
instance ilda270 : LdAOk Q 270 3 := ⟨fun b o s G => by kernel_rfl⟩
instance ibd270_ : BdOk Q 270 z270 [] := bd_ok Q (by kernel_rfl) (by kernel_rfl) (by kernel_rfl)
instance ifa277_1 : FaOk Q 277 1 3 := ⟨fun b o s => by kernel_rfl⟩
instance ifa277_3 : FaOk Q 277 3 5 := ⟨fun b o s => by kernel_rfl⟩
instance ifa281_1 : FaOk Q 281 1 6 := ⟨fun b o s => by kernel_rfl⟩
instance ist279 : StOk Q 279 1 := ⟨fun b o s v G => by kernel_rfl⟩
instance icv279_37 : CvOk Q 279 37 .u32 .u64 := ⟨fun n => by kernel_rfl⟩
instance ifa277_2 : FaOk Q 277 2 4 := ⟨fun b o s => by kernel_rfl⟩
instance ifa286_1 : FaOk Q 286 1 6 := ⟨fun b o s => by kernel_rfl⟩
abbrev z375 : List Value := [(.pointer none), (.int .i64 0), (.int .i64 0), (.int .i64 0), (.int .i64 0), (.int .i64 0), (.int .i64 0), (.bool false), .nilFunc, (.int .i64 0), (.int .u64 0), (.int .i64 0)]
instance ibd375_0_1_2_3 : BdOk Q 375 z375 [(0, 0, 1), (1, 1, 6), (2, 7, 1), (3, 8, 1)] := bd_ok Q (by kernel_rfl) (by kernel_rfl) (by kernel_rfl)
instance ifa224_5 : FaOk Q 224 5 23 := ⟨fun b o s => by kernel_rfl⟩
abbrev z105 : List Value := [.nilFunc]
instance ibs376_3_0_1_2 : BsOk Q 376 3 (rep z105 3) 1 [(0, 0, 1), (1, 1, 1), (2, 2, 1)] := bs_ok Q (z0 := z105) (by kernel_rfl) rfl (by decide) (by kernel_rfl)
instance iln376 : LnOk Q 376 := ⟨fun a n c => by kernel_rfl⟩
instance iias376 : IasOk Q 376 1 := ⟨fun b o s n c k j => by kernel_rfl⟩
instance ild105 : LdOk Q 105 := ⟨fun b o s G => (show _ = loadOne b o G by kernel_rfl).trans (loadOne_eq b o G)⟩
instance ifa224_4 : FaOk Q 224 4 22 := ⟨fun b o s => by kernel_rfl⟩
instance ibs376_4_0_1_2_3 : BsOk Q 376 4 (rep z105 4) 1 [(0, 0, 1), (1, 1, 1), (2, 2, 1), (3, 3, 1)] := bs_ok Q (z0 := z105) (by kernel_rfl) rfl (by decide) (by kernel_rfl)
abbrev z318 : List Value := [.nilFunc, (.bool false), (.int .i64 0)]
instance ibd318_1 : BdOk Q 318 z318 [(1, 1, 1)] := bd_ok Q (by kernel_rfl) (by kernel_rfl) (by kernel_rfl)
abbrev z325 : List Value := [.nilFunc, (.bool false), (.int .i64 0), (.int .i64 0), (.int .i64 0), (.int .i64 0), (.int .i64 0), (.int .i64 0), (.int .i64 0), (.int .i64 0), (.int .i64 0), (.int .i64 0), (.int .i64 0), (.pointer none), (.pointer none), (.int .i64 0), (.pointer none), (.int .i64 0), (.int .i64 0)]
instance ibd325_0_1 : BdOk Q 325 z325 [(0, 0, 3), (1, 3, 10)] := bd_ok Q (by kernel_rfl) (by kernel_rfl) (by kernel_rfl)
instance ifa325_0 : FaOk Q 325 0 0 := ⟨fun b o s => by kernel_rfl⟩
instance ifa318_2 : FaOk Q 318 2 2 := ⟨fun b o s => by kernel_rfl⟩
instance ifa325_2 : FaOk Q 325 2 13 := ⟨fun b o s => by kernel_rfl⟩
instance ist319 : StOk Q 319 1 := ⟨fun b o s v G => by kernel_rfl⟩
instance ifa325_3 : FaOk Q 325 3 14 := ⟨fun b o s => by kernel_rfl⟩
instance ist320 : StOk Q 320 1 := ⟨fun b o s v G => by kernel_rfl⟩
instance ifa318_0 : FaOk Q 318 0 0 := ⟨fun b o s => by kernel_rfl⟩
instance ist316 : StOk Q 316 1 := ⟨fun b o s v G => by kernel_rfl⟩
abbrev z340 : List Value := [(.int .i64 0), (.int .i64 0)]
instance ial340 : AlOk Q 340 z340 := ⟨fun G => by kernel_rfl⟩
instance ist340 : StOk Q 340 2 := ⟨fun b o s v G => by kernel_rfl⟩
instance ifa340_0 : FaOk Q 340 0 0 := ⟨fun b o s => by kernel_rfl⟩
instance ild258 : LdOk Q 258 := ⟨fun b o s G => (show _ = loadOne b o G by kernel_rfl).trans (loadOne_eq b o G)⟩
instance iln258 : LnOk Q 258 := ⟨fun a n c => by kernel_rfl⟩
instance iias258 : IasOk Q 258 1 := ⟨fun b o s n c k j => by kernel_rfl⟩
abbrev z362 : List Value := [(.int .i64 0), (.int .i64 0)]
instance ibd362_0_1 : BdOk Q 362 z362 [(0, 0, 1), (1, 1, 1)] := bd_ok Q (by kernel_rfl) (by kernel_rfl) (by kernel_rfl)
instance ibd363_0_1 : BdOk Q 363 z363 [(0, 0, 2), (1, 2, 2)] := bd_ok Q (by kernel_rfl) (by kernel_rfl) (by kernel_rfl)
instance ilda363 : LdAOk Q 363 4 := ⟨fun b o s G => by kernel_rfl⟩
instance ifa362_0 : FaOk Q 362 0 0 := ⟨fun b o s => by kernel_rfl⟩
instance ifa362_1 : FaOk Q 362 1 1 := ⟨fun b o s => by kernel_rfl⟩
abbrev z404 : List Value := [(.int .i64 0), (.int .i64 0), (.int .i64 0)]
instance ibd404_0_1_2 : BdOk Q 404 z404 [(0, 0, 1), (1, 1, 1), (2, 2, 1)] := bd_ok Q (by kernel_rfl) (by kernel_rfl) (by kernel_rfl)
instance ibs440_2_0_1 : BsOk Q 440 2 (rep z404 2) 3 [(0, 0, 3), (1, 3, 3)] := bs_ok Q (z0 := z404) (by kernel_rfl) rfl (by decide) (by kernel_rfl)
instance isla363 : SlAOk Q 363 2 2 := ⟨fun a lo hi mx G => by kernel_rfl⟩
instance ibs127_2_0_1 : BsOk Q 127 2 (rep z3 2) 1 [(0, 0, 1), (1, 1, 1)] := bs_ok Q (z0 := z3) (by kernel_rfl) rfl (by decide) (by kernel_rfl)
instance ibd122_0 : BdOk Q 122 z122 [(0, 0, 1)] := bd_ok Q (by kernel_rfl) (by kernel_rfl) (by kernel_rfl)
instance ifd80_3 : FdOk Q 80 3 3 := ⟨fun l => by kernel_rfl⟩
instance ibd340_0 : BdOk Q 340 z340 [(0, 0, 1)] := bd_ok Q (by kernel_rfl) (by kernel_rfl) (by kernel_rfl)
abbrev z410 : List Value := [(.int .i64 0), (.int .i64 0), (.int .i64 0), (.int .u64 0), (.int .i64 0), (.int .i64 0), (.bool false), (.bool false), (.int .i64 0)]
instance ibd410_0_4 : BdOk Q 410 z410 [(0, 0, 3), (4, 6, 1)] := bd_ok Q (by kernel_rfl) (by kernel_rfl) (by kernel_rfl)
abbrev z413 : List Value := [(.int .i64 0), (.int .i64 0), (.int .i64 0), (.int .u64 0), (.int .i64 0), (.int .i64 0), (.bool false), (.bool false), (.int .i64 0), .nilFunc]
instance ibd413_0_1 : BdOk Q 413 z413 [(0, 0, 9), (1, 9, 1)] := bd_ok Q (by kernel_rfl) (by kernel_rfl) (by kernel_rfl)
instance ifa375_0 : FaOk Q 375 0 0 := ⟨fun b o s => by kernel_rfl⟩
instance ild371 : LdOk Q 371 := ⟨fun b o s G => (show _ = loadOne b o G by kernel_rfl).trans (loadOne_eq b o G)⟩
instance ifa375_4 : FaOk Q 375 4 9 := ⟨fun b o s => by kernel_rfl⟩
instance ifa375_3 : FaOk Q 375 3 8 := ⟨fun b o s => by kernel_rfl⟩
instance ist373 : StOk Q 373 1 := ⟨fun b o s v G => by kernel_rfl⟩
instance iep296 : EpOk Q 296 := ⟨fun neg x y => by cases neg <;> kernel_rfl, fun neg x y a => by cases neg <;> kernel_rfl, fun neg x y a => by cases neg <;> kernel_rfl⟩
instance ifa375_2 : FaOk Q 375 2 7 := ⟨fun b o s => by kernel_rfl⟩
instance ild373 : LdOk Q 373 := ⟨fun b o s G => (show _ = loadOne b o G by kernel_rfl).trans (loadOne_eq b o G)⟩
instance ief373 : EfOk Q 373 := ⟨fun neg x y => by cases neg <;> kernel_rfl, fun neg x y f a b => by cases neg <;> kernel_rfl⟩
instance ifa375_5 : FaOk Q 375 5 10 := ⟨fun b o s => by kernel_rfl⟩
instance ifa375_6 : FaOk Q 375 6 11 := ⟨fun b o s => by kernel_rfl⟩
abbrev z421 : List Value := [.nilFunc, .nilFunc, .nilFunc, (.pointer none), (.bool false)]
instance ibd421_0_1 : BdOk Q 421 z421 [(0, 0, 1), (1, 1, 1)] := bd_ok Q (by kernel_rfl) (by kernel_rfl) (by kernel_rfl)
instance iifc414 : IfcOk Q 414 := ⟨fun v => by kernel_rfl⟩
abbrev z429 : List Value := [.nilFunc, .nilFunc, .nilFunc, (.pointer none), (.bool false)]
instance ibd429_0_1 : BdOk Q 429 z429 [(0, 0, 1), (1, 1, 1)] := bd_ok Q (by kernel_rfl) (by kernel_rfl) (by kernel_rfl)
instance iifc422 : IfcOk Q 422 := ⟨fun v => by kernel_rfl⟩
abbrev z431 : List Value := [.nilFunc, .nilFunc, .nilFunc, (.int .i64 0), (.bool false), (.int .i64 0), (.int .i64 0), (.int .i64 0), (.int .i64 0), (.int .i64 0), (.int .i64 0), (.int .u64 0), (.int .i64 0)]
instance ibd431_0_1_2_3 : BdOk Q 431 z431 [(0, 0, 6), (1, 6, 3), (2, 9, 1), (3, 10, 1)] := bd_ok Q (by kernel_rfl) (by kernel_rfl) (by kernel_rfl)
instance ifa431_0 : FaOk Q 431 0 0 := ⟨fun b o s => by kernel_rfl⟩
abbrev z434 : List Value := [(.int .i64 0), (.int .i64 0), (.int .i64 0), (.int .u64 0), (.int .i64 0), (.int .i64 0), (.bool false), (.bool false), (.int .i64 0), .nilFunc]
instance ibd434_0_1 : BdOk Q 434 z434 [(0, 0, 9), (1, 9, 1)] := bd_ok Q (by kernel_rfl) (by kernel_rfl) (by kernel_rfl)
instance ild319 : LdOk Q 319 := ⟨fun b o s G => (show _ = loadOne b o G by kernel_rfl).trans (loadOne_eq b o G)⟩
instance ibd340_0_1 : BdOk Q 340 z340 [(0, 0, 1), (1, 1, 1)] := bd_ok Q (by kernel_rfl) (by kernel_rfl) (by kernel_rfl)
instance ilda340 : LdAOk Q 340 2 := ⟨fun b o s G => by kernel_rfl⟩
instance iln440 : LnOk Q 440 := ⟨fun a n c => by kernel_rfl⟩
instance iias440 : IasOk Q 440 3 := ⟨fun b o s n c k j => by kernel_rfl⟩
instance ilda404 : LdAOk Q 404 3 := ⟨fun b o s G => by kernel_rfl⟩
instance ial404 : AlOk Q 404 z404 := ⟨fun G => by kernel_rfl⟩
instance ist404 : StOk Q 404 3 := ⟨fun b o s v G => by kernel_rfl⟩
instance ifa404_0 : FaOk Q 404 0 0 := ⟨fun b o s => by kernel_rfl⟩
instance ifa404_1 : FaOk Q 404 1 1 := ⟨fun b o s => by kernel_rfl⟩
instance ifa404_2 : FaOk Q 404 2 2 := ⟨fun b o s => by kernel_rfl⟩
instance iln407 : LnOk Q 407 := ⟨fun a n c => by kernel_rfl⟩
instance iias407 : IasOk Q 407 2 := ⟨fun b o s n c k j => by kernel_rfl⟩
instance ial362 : AlOk Q 362 z362 := ⟨fun G => by kernel_rfl⟩
instance ist362 : StOk Q 362 2 := ⟨fun b o s v G => by kernel_rfl⟩
instance ifa340_1 : FaOk Q 340 1 1 := ⟨fun b o s => by kernel_rfl⟩
instance ifa413_1 : FaOk Q 413 1 9 := ⟨fun b o s => by kernel_rfl⟩
instance ist411 : StOk Q 411 1 := ⟨fun b o s v G => by kernel_rfl⟩
instance ifa413_0 : FaOk Q 413 0 0 := ⟨fun b o s => by kernel_rfl⟩
instance ifa410_2 : FaOk Q 410 2 4 := ⟨fun b o s => by kernel_rfl⟩
instance iep371 : EpOk Q 371 := ⟨fun neg x y => by cases neg <;> kernel_rfl, fun neg x y a => by cases neg <;> kernel_rfl, fun neg x y a => by cases neg <;> kernel_rfl⟩
instance ild411 : LdOk Q 411 := ⟨fun b o s G => (show _ = loadOne b o G by kernel_rfl).trans (loadOne_eq b o G)⟩
instance ifa410_5 : FaOk Q 410 5 7 := ⟨fun b o s => by kernel_rfl⟩
instance ifa375_1 : FaOk Q 375 1 1 := ⟨fun b o s => by kernel_rfl⟩
instance ibd270_0_1 : BdOk Q 270 z270 [(0, 0, 1), (1, 1, 1)] := bd_ok Q (by kernel_rfl) (by kernel_rfl) (by kernel_rfl)
instance ifa224_1 : FaOk Q 224 1 19 := ⟨fun b o s => by kernel_rfl⟩
instance ifa224_2 : FaOk Q 224 2 20 := ⟨fun b o s => by kernel_rfl⟩
instance ifa224_3 : FaOk Q 224 3 21 := ⟨fun b o s => by kernel_rfl⟩
abbrev z446 : List Value := [(.bool false), (.int .u64 0), .nilFunc, .nilFunc, .nilFunc, .nilFunc, (.int .i64 0), (.int .i64 0)]
instance ibd446_0_1_4 : BdOk Q 446 z446 [(0, 0, 1), (1, 1, 1), (4, 7, 1)] := bd_ok Q (by kernel_rfl) (by kernel_rfl) (by kernel_rfl)
instance ifa446_4 : FaOk Q 446 4 7 := ⟨fun b o s => by kernel_rfl⟩
instance ifa446_3 : FaOk Q 446 3 6 := ⟨fun b o s => by kernel_rfl⟩
abbrev z444 : List Value := [.nilFunc, .nilFunc, .nilFunc, .nilFunc]
instance ibd444_0_1_2_3 : BdOk Q 444 z444 [(0, 0, 1), (1, 1, 1), (2, 2, 1), (3, 3, 1)] := bd_ok Q (by kernel_rfl) (by kernel_rfl) (by kernel_rfl)
instance ifa446_2 : FaOk Q 446 2 2 := ⟨fun b o s => by kernel_rfl⟩
instance ist444 : StOk Q 444 4 := ⟨fun b o s v G => by kernel_rfl⟩
instance iep415 : EpOk Q 415 := ⟨fun neg x y => by cases neg <;> kernel_rfl, fun neg x y a => by cases neg <;> kernel_rfl, fun neg x y a => by cases neg <;> kernel_rfl⟩
instance ifa446_1 : FaOk Q 446 1 1 := ⟨fun b o s => by kernel_rfl⟩
abbrev z450 : List Value := [(.int .i64 0), (.int .i64 0), (.int .i64 0), (.int .i64 0), (.int .i64 0), (.int .i64 0), (.int .i64 0), (.int .i64 0), (.int .i64 0), (.int .i64 0), (.int .i64 0), (.int .i64 0), (.int .i64 0), (.bool false), (.bool false), (.int .u64 0), (.int .u64 0), (.int .i64 0), (.int .i64 0), (.int .i64 0), (.int .i64 0), (.int .u64 0), (.pointer none), (.pointer none), (.int .u64 0), (.int .i64 0)]
instance ibd450_0_1_3_4_6_13 : BdOk Q 450 z450 [(0, 0, 13), (1, 13, 1), (3, 15, 1), (4, 16, 1), (6, 18, 1), (13, 25, 1)] := bd_ok Q (by kernel_rfl) (by kernel_rfl) (by kernel_rfl)
instance ifa450_13 : FaOk Q 450 13 25 := ⟨fun b o s => by kernel_rfl⟩
instance ifa450_5 : FaOk Q 450 5 17 := ⟨fun b o s => by kernel_rfl⟩
instance ifa450_7 : FaOk Q 450 7 19 := ⟨fun b o s => by kernel_rfl⟩
instance ist448 : StOk Q 448 1 := ⟨fun b o s v G => by kernel_rfl⟩
instance iep423 : EpOk Q 423 := ⟨fun neg x y => by cases neg <;> kernel_rfl, fun neg x y a => by cases neg <;> kernel_rfl, fun neg x y a => by cases neg <;> kernel_rfl⟩
instance ifa450_12 : FaOk Q 450 12 24 := ⟨fun b o s => by kernel_rfl⟩
instance ifa431_1 : FaOk Q 431 1 6 := ⟨fun b o s => by kernel_rfl⟩
instance ifa431_4 : FaOk Q 431 4 11 := ⟨fun b o s => by kernel_rfl⟩
instance ifa431_3 : FaOk Q 431 3 10 := ⟨fun b o s => by kernel_rfl⟩
instance ifa431_5 : FaOk Q 431 5 12 := ⟨fun b o s => by kernel_rfl⟩
instance ifa434_1 : FaOk Q 434 1 9 := ⟨fun b o s => by kernel_rfl⟩
instance ist432 : StOk Q 432 1 := ⟨fun b o s v G => by kernel_rfl⟩
instance ifa434_0 : FaOk Q 434 0 0 := ⟨fun b o s => by kernel_rfl⟩
instance iep319 : EpOk Q 319 := ⟨fun neg x y => by cases neg <;> kernel_rfl, fun neg x y a => by cases neg <;> kernel_rfl, fun neg x y a => by cases neg <;> kernel_rfl⟩
instance ild320 : LdOk Q 320 := ⟨fun b o s G => (show _ = loadOne b o G by kernel_rfl).trans (loadOne_eq b o G)⟩
instance ifa325_4 : FaOk Q 325 4 15 := ⟨fun b o s => by kernel_rfl⟩
instance ifa410_0 : FaOk Q 410 0 0 := ⟨fun b o s => by kernel_rfl⟩
instance ifa410_3 : FaOk Q 410 3 5 := ⟨fun b o s => by kernel_rfl⟩
instance ifa410_1 : FaOk Q 410 1 3 := ⟨fun b o s => by kernel_rfl⟩
instance ifa410_6 : FaOk Q 410 6 8 := ⟨fun b o s => by kernel_rfl⟩
instance iep454 : EpOk Q 454 := ⟨fun neg x y => by cases neg <;> kernel_rfl, fun neg x y a => by cases neg <;> kernel_rfl, fun neg x y a => by cases neg <;> kernel_rfl⟩
instance ifa410_4 : FaOk Q 410 4 6 := ⟨fun b o s => by kernel_rfl⟩
instance ifa450_0 : FaOk Q 450 0 0 := ⟨fun b o s => by kernel_rfl⟩
instance ifa450_4 : FaOk Q 450 4 16 := ⟨fun b o s => by kernel_rfl⟩
instance ifa450_10 : FaOk Q 450 10 22 := ⟨fun b o s => by kernel_rfl⟩
instance ist186 : StOk Q 186 1 := ⟨fun b o s v G => by kernel_rfl⟩
instance ifa431_2 : FaOk Q 431 2 9 := ⟨fun b o s => by kernel_rfl⟩
instance ibd122_0_1_2 : BdOk Q 122 z122 [(0, 0, 1), (1, 1, 1), (2, 2, 1)] := bd_ok Q (by kernel_rfl) (by kernel_rfl) (by kernel_rfl)
instance ifd80_4 : FdOk Q 80 4 4 := ⟨fun l => by kernel_rfl⟩
instance ild274 : LdOk Q 274 := ⟨fun b o s G => (show _ = loadOne b o G by kernel_rfl).trans (loadOne_eq b o G)⟩
instance iep320 : EpOk Q 320 := ⟨fun neg x y => by cases neg <;> kernel_rfl, fun neg x y a => by cases neg <;> kernel_rfl, fun neg x y a => by cases neg <;> kernel_rfl⟩
instance ild432 : LdOk Q 432 := ⟨fun b o s G => (show _ = loadOne b o G by kernel_rfl).trans (loadOne_eq b o G)⟩
instance ifa325_1 : FaOk Q 325 1 3 := ⟨fun b o s => by kernel_rfl⟩
abbrev z323 : List Value := [(.pointer none), (.int .i64 0)]
instance ibd323_0_1 : BdOk Q 323 z323 [(0, 0, 1), (1, 1, 1)] := bd_ok Q (by kernel_rfl) (by kernel_rfl) (by kernel_rfl)
instance ifa325_5 : FaOk Q 325 5 16 := ⟨fun b o s => by kernel_rfl⟩
instance ist323 : StOk Q 323 2 := ⟨fun b o s v G => by kernel_rfl⟩
abbrev z462 : List Value := [(.int .i64 0), (.int .i64 0), (.int .i64 0), (.int .i64 0), (.int .i64 0), (.int .i64 0), (.int .i64 0), (.int .i64 0), (.int .i64 0), (.int .i64 0), (.int .i64 0), (.int .i64 0), (.int .i64 0), (.int .u64 0), (.int .i64 0), (.int .i64 0), (.int .i64 0), (.int .u64 0), (.int .u64 0), (.int .u64 0), (.slice none 0 0), (.int .u64 0), (.bool false), (.int .i64 0)]
instance ibd462_0_1_7 : BdOk Q 462 z462 [(0, 0, 13), (1, 13, 1), (7, 22, 1)] := bd_ok Q (by kernel_rfl) (by kernel_rfl) (by kernel_rfl)
instance ifa462_2 : FaOk Q 462 2 14 := ⟨fun b o s => by kernel_rfl⟩
instance ifa462_8 : FaOk Q 462 8 23 := ⟨fun b o s => by kernel_rfl⟩
abbrev z459 : List Value := [(.int .i64 0), (.int .i64 0), (.int .u64 0), (.int .u64 0)]
instance imk460 : MkSlOk Q 460 4 32 z459 := ⟨fun k k' l c G => by kernel_rfl⟩
instance ifa462_5 : FaOk Q 462 5 20 := ⟨fun b o s => by kernel_rfl⟩
instance ist460 : StOk Q 460 1 := ⟨fun b o s v G => by kernel_rfl⟩
instance ifa122_2 : FaOk Q 122 2 2 := ⟨fun b o s => by kernel_rfl⟩
abbrev z467 : List Value := [(.pointer none), (.int .i64 0), (.int .i64 0), (.int .i64 0), (.int .i64 0), (.int .i64 0), (.int .i64 0), (.bool false), .nilFunc, (.int .i64 0), (.int .u64 0), (.int .i64 0)]
instance ibd467_0_1_2_4 : BdOk Q 467 z467 [(0, 0, 1), (1, 1, 6), (2, 7, 1), (4, 9, 1)] := bd_ok Q (by kernel_rfl) (by kernel_rfl) (by kernel_rfl)
instance ifa467_6 : FaOk Q 467 6 11 := ⟨fun b o s => by kernel_rfl⟩
instance ifa467_3 : FaOk Q 467 3 8 := ⟨fun b o s => by kernel_rfl⟩
instance ist465 : StOk Q 465 1 := ⟨fun b o s v G => by kernel_rfl⟩
instance ifa323_0 : FaOk Q 323 0 0 := ⟨fun b o s => by kernel_rfl⟩
instance ild321 : LdOk Q 321 := ⟨fun b o s G => (show _ = loadOne b o G by kernel_rfl).trans (loadOne_eq b o G)⟩
instance ifa325_6 : FaOk Q 325 6 18 := ⟨fun b o s => by kernel_rfl⟩
instance ifa323_1 : FaOk Q 323 1 1 := ⟨fun b o s => by kernel_rfl⟩
instance ifa462_0 : FaOk Q 462 0 0 := ⟨fun b o s => by kernel_rfl⟩
instance ibd410_0_2_4 : BdOk Q 410 z410 [(0, 0, 3), (2, 4, 1), (4, 6, 1)] := bd_ok Q (by kernel_rfl) (by kernel_rfl) (by kernel_rfl)
abbrev z470 : List Value := [(.int .i64 0), (.int .i64 0), (.int .i64 0), (.int .u64 0), (.int .i64 0), (.int .i64 0), (.bool false), (.bool false), (.int .i64 0), .nilFunc]
instance ibd470_0_1 : BdOk Q 470 z470 [(0, 0, 9), (1, 9, 1)] := bd_ok Q (by kernel_rfl) (by kernel_rfl) (by kernel_rfl)
instance ifa470_0 : FaOk Q 470 0 0 := ⟨fun b o s => by kernel_rfl⟩
instance ifa467_1 : FaOk Q 467 1 1 := ⟨fun b o s => by kernel_rfl⟩
instance ifa467_4 : FaOk Q 467 4 9 := ⟨fun b o s => by kernel_rfl⟩
instance ifa467_5 : FaOk Q 467 5 10 := ⟨fun b o s => by kernel_rfl⟩
instance ifa25_3 : FaOk Q 25 3 5 := ⟨fun b o s => by kernel_rfl⟩
instance iep321 : EpOk Q 321 := ⟨fun neg x y => by cases neg <;> kernel_rfl, fun neg x y a => by cases neg <;> kernel_rfl, fun neg x y a => by cases neg <;> kernel_rfl⟩
instance ild465 : LdOk Q 465 := ⟨fun b o s G => (show _ = loadOne b o G by kernel_rfl).trans (loadOne_eq b o G)⟩
instance ief465 : EfOk Q 465 := ⟨fun neg x y => by cases neg <;> kernel_rfl, fun neg x y f a b => by cases neg <;> kernel_rfl⟩
instance ild186 : LdOk Q 186 := ⟨fun b o s G => (show _ = loadOne b o G by kernel_rfl).trans (loadOne_eq b o G)⟩
instance ild460 : LdOk Q 460 := ⟨fun b o s G => (show _ = loadOne b o G by kernel_rfl).trans (loadOne_eq b o G)⟩
instance ial459 : AlOk Q 459 z459 := ⟨fun G => by kernel_rfl⟩
instance ist459 : StOk Q 459 4 := ⟨fun b o s v G => by kernel_rfl⟩
instance ilda459 : LdAOk Q 459 4 := ⟨fun b o s G => by kernel_rfl⟩
instance ifa462_3 : FaOk Q 462 3 15 := ⟨fun b o s => by kernel_rfl⟩
instance ifa470_1 : FaOk Q 470 1 9 := ⟨fun b o s => by kernel_rfl⟩
instance ist468 : StOk Q 468 1 := ⟨fun b o s v G => by kernel_rfl⟩
instance ifa467_0 : FaOk Q 467 0 0 := ⟨fun b o s => by kernel_rfl⟩
instance ild463 : LdOk Q 463 := ⟨fun b o s G => (show _ = loadOne b o G by kernel_rfl).trans (loadOne_eq b o G)⟩
instance ibd459_1 : BdOk Q 459 z459 [(1, 1, 1)] := bd_ok Q (by kernel_rfl) (by kernel_rfl) (by kernel_rfl)
instance ifa459_0 : FaOk Q 459 0 0 := ⟨fun b o s => by kernel_rfl⟩
instance ifa459_3 : FaOk Q 459 3 3 := ⟨fun b o s => by kernel_rfl⟩
instance iias460 : IasOk Q 460 4 := ⟨fun b o s n c k j => by kernel_rfl⟩
instance iep463 : EpOk Q 463 := ⟨fun neg x y => by cases neg <;> kernel_rfl, fun neg x y a => by cases neg <;> kernel_rfl, fun neg x y a => by cases neg <;> kernel_rfl⟩
instance ild468 : LdOk Q 468 := ⟨fun b o s G => (show _ = loadOne b o G by kernel_rfl).trans (loadOne_eq b o G)⟩
instance ifa113_4 : FaOk Q 113 4 4 := ⟨fun b o s => by kernel_rfl⟩
instance ifa113_0 : FaOk Q 113 0 0 := ⟨fun b o s => by kernel_rfl⟩
instance ild109 : LdOk Q 109 := ⟨fun b o s G => (show _ = loadOne b o G by kernel_rfl).trans (loadOne_eq b o G)⟩
instance ifa113_3 : FaOk Q 113 3 3 := ⟨fun b o s => by kernel_rfl⟩
instance ist107 : StOk Q 107 1 := ⟨fun b o s v G => by kernel_rfl⟩
instance ild107 : LdOk Q 107 := ⟨fun b o s G => (show _ = loadOne b o G by kernel_rfl).trans (loadOne_eq b o G)⟩
instance iifc107 : IfcOk Q 107 := ⟨fun v => by kernel_rfl⟩
instance ifa113_1 : FaOk Q 113 1 1 := ⟨fun b o s => by kernel_rfl⟩
instance ild110 : LdOk Q 110 := ⟨fun b o s G => (show _ = loadOne b o G by kernel_rfl).trans (loadOne_eq b o G)⟩
instance ief110 : EfOk Q 110 := ⟨fun neg x y => by cases neg <;> kernel_rfl, fun neg x y f a b => by cases neg <;> kernel_rfl⟩
instance ifa113_2 : FaOk Q 113 2 2 := ⟨fun b o s => by kernel_rfl⟩
instance ild111 : LdOk Q 111 := ⟨fun b o s G => (show _ = loadOne b o G by kernel_rfl).trans (loadOne_eq b o G)⟩
instance ief111 : EfOk Q 111 := ⟨fun neg x y => by cases neg <;> kernel_rfl, fun neg x y f a b => by cases neg <;> kernel_rfl⟩
instance ifa192_5 : FaOk Q 192 5 20 := ⟨fun b o s => by kernel_rfl⟩
instance ist190 : StOk Q 190 1 := ⟨fun b o s v G => by kernel_rfl⟩
instance ild190 : LdOk Q 190 := ⟨fun b o s G => (show _ = loadOne b o G by kernel_rfl).trans (loadOne_eq b o G)⟩
instance ifa192_3 : FaOk Q 192 3 18 := ⟨fun b o s => by kernel_rfl⟩
instance ifa192_0 : FaOk Q 192 0 0 := ⟨fun b o s => by kernel_rfl⟩
instance ifa192_4 : FaOk Q 192 4 19 := ⟨fun b o s => by kernel_rfl⟩
instance ifa192_1 : FaOk Q 192 1 13 := ⟨fun b o s => by kernel_rfl⟩
instance ifa189_1 : FaOk Q 189 1 1 := ⟨fun b o s => by kernel_rfl⟩
instance ifa45_0 : FaOk Q 45 0 0 := ⟨fun b o s => by kernel_rfl⟩
instance ifa189_2 : FaOk Q 189 2 2 := ⟨fun b o s => by kernel_rfl⟩
instance ifa189_0 : FaOk Q 189 0 0 := ⟨fun b o s => by kernel_rfl⟩
instance ifa45_1 : FaOk Q 45 1 1 := ⟨fun b o s => by kernel_rfl⟩
instance ifa189_3 : FaOk Q 189 3 3 := ⟨fun b o s => by kernel_rfl⟩
instance ist187 : StOk Q 187 1 := ⟨fun b o s v G => by kernel_rfl⟩
instance ild187 : LdOk Q 187 := ⟨fun b o s G => (show _ = loadOne b o G by kernel_rfl).trans (loadOne_eq b o G)⟩
instance iep186 : EpOk Q 186 := ⟨fun neg x y => by cases neg <;> kernel_rfl, fun neg x y a => by cases neg <;> kernel_rfl, fun neg x y a => by cases neg <;> kernel_rfl⟩
instance ifa462_7 : FaOk Q 462 7 22 := ⟨fun b o s => by kernel_rfl⟩
instance ifa459_1 : FaOk Q 459 1 1 := ⟨fun b o s => by kernel_rfl⟩
instance ifa459_2 : FaOk Q 459 2 2 := ⟨fun b o s => by kernel_rfl⟩
instance ifa462_6 : FaOk Q 462 6 21 := ⟨fun b o s => by kernel_rfl⟩
instance ifa462_4 : FaOk Q 462 4 19 := ⟨fun b o s => by kernel_rfl⟩
instance ifa462_1 : FaOk Q 462 1 13 := ⟨fun b o s => by kernel_rfl⟩
abbrev z493 : List Value := [.nilFunc, (.bool false), (.int .i64 0), (.int .i64 0), (.int .i64 0), (.int .i64 0), (.int .i64 0), (.int .i64 0), (.int .i64 0), (.int .i64 0), (.int .i64 0), (.int .i64 0), (.int .i64 0), (.int .i64 0), (.pointer none)]
instance ibd493_0_1_2 : BdOk Q 493 z493 [(0, 0, 3), (1, 3, 10), (2, 13, 1)] := bd_ok Q (by kernel_rfl) (by kernel_rfl) (by kernel_rfl)
instance ifa493_0 : FaOk Q 493 0 0 := ⟨fun b o s => by kernel_rfl⟩
instance iep187 : EpOk Q 187 := ⟨fun neg x y => by cases neg <;> kernel_rfl, fun neg x y a => by cases neg <;> kernel_rfl, fun neg x y a => by cases neg <;> kernel_rfl⟩
instance ifa493_1 : FaOk Q 493 1 3 := ⟨fun b o s => by kernel_rfl⟩
instance icv37_219 : CvOk Q 37 219 .u64 .i64 := ⟨fun n => by kernel_rfl⟩
instance ifa493_2 : FaOk Q 493 2 13 := ⟨fun b o s => by kernel_rfl⟩
instance ifa493_3 : FaOk Q 493 3 14 := ⟨fun b o s => by kernel_rfl⟩
instance ist463 : StOk Q 463 1 := ⟨fun b o s v G => by kernel_rfl⟩
instance ild316 : LdOk Q 316 := ⟨fun b o s G => (show _ = loadOne b o G by kernel_rfl).trans (loadOne_eq b o G)⟩
instance ief316 : EfOk Q 316 := ⟨fun neg x y => by cases neg <;> kernel_rfl, fun neg x y f a b => by cases neg <;> kernel_rfl⟩
instance ifa185_4 : FaOk Q 185 4 4 := ⟨fun b o s => by kernel_rfl⟩
instance ifa185_0 : FaOk Q 185 0 0 := ⟨fun b o s => by kernel_rfl⟩
instance ild181 : LdOk Q 181 := ⟨fun b o s G => (show _ = loadOne b o G by kernel_rfl).trans (loadOne_eq b o G)⟩
instance ifa185_3 : FaOk Q 185 3 3 := ⟨fun b o s => by kernel_rfl⟩
instance ist179 : StOk Q 179 1 := ⟨fun b o s v G => by kernel_rfl⟩
instance ild179 : LdOk Q 179 := ⟨fun b o s G => (show _ = loadOne b o G by kernel_rfl).trans (loadOne_eq b o G)⟩
instance iifc179 : IfcOk Q 179 := ⟨fun v => by kernel_rfl⟩
instance ifa185_1 : FaOk Q 185 1 1 := ⟨fun b o s => by kernel_rfl⟩
instance ild183 : LdOk Q 183 := ⟨fun b o s G => (show _ = loadOne b o G by kernel_rfl).trans (loadOne_eq b o G)⟩
instance ief183 : EfOk Q 183 := ⟨fun neg x y => by cases neg <;> kernel_rfl, fun neg x y f a b => by cases neg <;> kernel_rfl⟩
instance ifa185_2 : FaOk Q 185 2 2 := ⟨fun b o s => by kernel_rfl⟩
instance ild182 : LdOk Q 182 := ⟨fun b o s G => (show _ = loadOne b o G by kernel_rfl).trans (loadOne_eq b o G)⟩
instance ief182 : EfOk Q 182 := ⟨fun neg x y => by cases neg <;> kernel_rfl, fun neg x y f a b => by cases neg <;> kernel_rfl⟩
instance ifa203_4 : FaOk Q 203 4 4 := ⟨fun b o s => by kernel_rfl⟩
instance ifa203_0 : FaOk Q 203 0 0 := ⟨fun b o s => by kernel_rfl⟩
instance ild199 : LdOk Q 199 := ⟨fun b o s G => (show _ = loadOne b o G by kernel_rfl).trans (loadOne_eq b o G)⟩
instance ifa203_3 : FaOk Q 203 3 3 := ⟨fun b o s => by kernel_rfl⟩
instance ist197 : StOk Q 197 1 := ⟨fun b o s v G => by kernel_rfl⟩
instance ild197 : LdOk Q 197 := ⟨fun b o s G => (show _ = loadOne b o G by kernel_rfl).trans (loadOne_eq b o G)⟩
instance iifc197 : IfcOk Q 197 := ⟨fun v => by kernel_rfl⟩
instance ifa203_1 : FaOk Q 203 1 1 := ⟨fun b o s => by kernel_rfl⟩
instance ild200 : LdOk Q 200 := ⟨fun b o s G => (show _ = loadOne b o G by kernel_rfl).trans (loadOne_eq b o G)⟩
instance ief200 : EfOk Q 200 := ⟨fun neg x y => by cases neg <;> kernel_rfl, fun neg x y f a b => by cases neg <;> kernel_rfl⟩
instance ifa203_2 : FaOk Q 203 2 2 := ⟨fun b o s => by kernel_rfl⟩
instance ild201 : LdOk Q 201 := ⟨fun b o s G => (show _ = loadOne b o G by kernel_rfl).trans (loadOne_eq b o G)⟩
instance ief201 : EfOk Q 201 := ⟨fun neg x y => by cases neg <;> kernel_rfl, fun neg x y f a b => by cases neg <;> kernel_rfl⟩
instance iep197 : EpOk Q 197 := ⟨fun neg x y => by cases neg <;> kernel_rfl, fun neg x y a => by cases neg <;> kernel_rfl, fun neg x y a => by cases neg <;> kernel_rfl⟩
instance ifa235_4 : FaOk Q 235 4 4 := ⟨fun b o s => by kernel_rfl⟩
instance ifa235_0 : FaOk Q 235 0 0 := ⟨fun b o s => by kernel_rfl⟩
instance ild231 : LdOk Q 231 := ⟨fun b o s G => (show _ = loadOne b o G by kernel_rfl).trans (loadOne_eq b o G)⟩
instance ifa235_3 : FaOk Q 235 3 3 := ⟨fun b o s => by kernel_rfl⟩
instance ist229 : StOk Q 229 1 := ⟨fun b o s v G => by kernel_rfl⟩
instance ild229 : LdOk Q 229 := ⟨fun b o s G => (show _ = loadOne b o G by kernel_rfl).trans (loadOne_eq b o G)⟩
instance iifc229 : IfcOk Q 229 := ⟨fun v => by kernel_rfl⟩
instance ifa235_1 : FaOk Q 235 1 1 := ⟨fun b o s => by kernel_rfl⟩
instance ild232 : LdOk Q 232 := ⟨fun b o s G => (show _ = loadOne b o G by kernel_rfl).trans (loadOne_eq b o G)⟩
instance ief232 : EfOk Q 232 := ⟨fun neg x y => by cases neg <;> kernel_rfl, fun neg x y f a b => by cases neg <;> kernel_rfl⟩
instance ifa235_2 : FaOk Q 235 2 2 := ⟨fun b o s => by kernel_rfl⟩
instance ild233 : LdOk Q 233 := ⟨fun b o s G => (show _ = loadOne b o G by kernel_rfl).trans (loadOne_eq b o G)⟩
instance ief233 : EfOk Q 233 := ⟨fun neg x y => by cases neg <;> kernel_rfl, fun neg x y f a b => by cases neg <;> kernel_rfl⟩
instance iep229 : EpOk Q 229 := ⟨fun neg x y => by cases neg <;> kernel_rfl, fun neg x y a => by cases neg <;> kernel_rfl, fun neg x y a => by cases neg <;> kernel_rfl⟩
instance ifa308_0 : FaOk Q 308 0 0 := ⟨fun b o s => by kernel_rfl⟩
instance ifa305_2 : FaOk Q 305 2 13 := ⟨fun b o s => by kernel_rfl⟩
instance ifa305_6 : FaOk Q 305 6 17 := ⟨fun b o s => by kernel_rfl⟩
instance ifa305_8 : FaOk Q 305 8 20 := ⟨fun b o s => by kernel_rfl⟩
instance ifa305_7 : FaOk Q 305 7 19 := ⟨fun b o s => by kernel_rfl⟩
instance ifa305_0 : FaOk Q 305 0 0 := ⟨fun b o s => by kernel_rfl⟩
instance ifa305_3 : FaOk Q 305 3 14 := ⟨fun b o s => by kernel_rfl⟩
instance ifa305_4 : FaOk Q 305 4 15 := ⟨fun b o s => by kernel_rfl⟩
instance ifa305_9 : FaOk Q 305 9 21 := ⟨fun b o s => by kernel_rfl⟩
instance ifa305_5 : FaOk Q 305 5 16 := ⟨fun b o s => by kernel_rfl⟩
instance iep240 : EpOk Q 240 := ⟨fun neg x y => by cases neg <;> kernel_rfl, fun neg x y a => by cases neg <;> kernel_rfl, fun neg x y a => by cases neg <;> kernel_rfl⟩
instance ifa302_4 : FaOk Q 302 4 4 := ⟨fun b o s => by kernel_rfl⟩
instance ifa302_0 : FaOk Q 302 0 0 := ⟨fun b o s => by kernel_rfl⟩
instance ild298 : LdOk Q 298 := ⟨fun b o s G => (show _ = loadOne b o G by kernel_rfl).trans (loadOne_eq b o G)⟩
instance ifa302_3 : FaOk Q 302 3 3 := ⟨fun b o s => by kernel_rfl⟩
instance ist296 : StOk Q 296 1 := ⟨fun b o s v G => by kernel_rfl⟩
instance ild296 : LdOk Q 296 := ⟨fun b o s G => (show _ = loadOne b o G by kernel_rfl).trans (loadOne_eq b o G)⟩
instance iifc296 : IfcOk Q 296 := ⟨fun v => by kernel_rfl⟩
instance ifa302_1 : FaOk Q 302 1 1 := ⟨fun b o s => by kernel_rfl⟩
instance ild300 : LdOk Q 300 := ⟨fun b o s G => (show _ = loadOne b o G by kernel_rfl).trans (loadOne_eq b o G)⟩
instance ief300 : EfOk Q 300 := ⟨fun neg x y => by cases neg <;> kernel_rfl, fun neg x y f a b => by cases neg <;> kernel_rfl⟩
instance ifa302_2 : FaOk Q 302 2 2 := ⟨fun b o s => by kernel_rfl⟩
instance ild299 : LdOk Q 299 := ⟨fun b o s G => (show _ = loadOne b o G by kernel_rfl).trans (loadOne_eq b o G)⟩
instance ief299 : EfOk Q 299 := ⟨fun neg x y => by cases neg <;> kernel_rfl, fun neg x y f a b => by cases neg <;> kernel_rfl⟩
instance ifa314_4 : FaOk Q 314 4 4 := ⟨fun b o s => by kernel_rfl⟩
instance ifa314_0 : FaOk Q 314 0 0 := ⟨fun b o s => by kernel_rfl⟩
instance ild311 : LdOk Q 311 := ⟨fun b o s G => (show _ = loadOne b o G by kernel_rfl).trans (loadOne_eq b o G)⟩
instance ifa314_3 : FaOk Q 314 3 3 := ⟨fun b o s => by kernel_rfl⟩
instance ist240 : StOk Q 240 1 := ⟨fun b o s v G => by kernel_rfl⟩
instance ild240 : LdOk Q 240 := ⟨fun b o s G => (show _ = loadOne b o G by kernel_rfl).trans (loadOne_eq b o G)⟩
instance iifc240 : IfcOk Q 240 := ⟨fun v => by kernel_rfl⟩
instance ifa314_1 : FaOk Q 314 1 1 := ⟨fun b o s => by kernel_rfl⟩
instance ild312 : LdOk Q 312 := ⟨fun b o s G => (show _ = loadOne b o G by kernel_rfl).trans (loadOne_eq b o G)⟩
instance ief312 : EfOk Q 312 := ⟨fun neg x y => by cases neg <;> kernel_rfl, fun neg x y f a b => by cases neg <;> kernel_rfl⟩
instance ifa314_2 : FaOk Q 314 2 2 := ⟨fun b o s => by kernel_rfl⟩
instance ild241 : LdOk Q 241 := ⟨fun b o s G => (show _ = loadOne b o G by kernel_rfl).trans (loadOne_eq b o G)⟩
instance ief241 : EfOk Q 241 := ⟨fun neg x y => by cases neg <;> kernel_rfl, fun neg x y f a b => by cases neg <;> kernel_rfl⟩
instance ifa421_4 : FaOk Q 421 4 4 := ⟨fun b o s => by kernel_rfl⟩
instance ifa421_0 : FaOk Q 421 0 0 := ⟨fun b o s => by kernel_rfl⟩
instance ild417 : LdOk Q 417 := ⟨fun b o s G => (show _ = loadOne b o G by kernel_rfl).trans (loadOne_eq b o G)⟩
instance ifa421_3 : FaOk Q 421 3 3 := ⟨fun b o s => by kernel_rfl⟩
instance ist415 : StOk Q 415 1 := ⟨fun b o s v G => by kernel_rfl⟩
instance ild415 : LdOk Q 415 := ⟨fun b o s G => (show _ = loadOne b o G by kernel_rfl).trans (loadOne_eq b o G)⟩
instance iifc415 : IfcOk Q 415 := ⟨fun v => by kernel_rfl⟩
instance ifa421_1 : FaOk Q 421 1 1 := ⟨fun b o s => by kernel_rfl⟩
instance ild418 : LdOk Q 418 := ⟨fun b o s G => (show _ = loadOne b o G by kernel_rfl).trans (loadOne_eq b o G)⟩
instance ief418 : EfOk Q 418 := ⟨fun neg x y => by cases neg <;> kernel_rfl, fun neg x y f a b => by cases neg <;> kernel_rfl⟩
instance ifa421_2 : FaOk Q 421 2 2 := ⟨fun b o s => by kernel_rfl⟩
instance ild419 : LdOk Q 419 := ⟨fun b o s G => (show _ = loadOne b o G by kernel_rfl).trans (loadOne_eq b o G)⟩
instance ief419 : EfOk Q 419 := ⟨fun neg x y => by cases neg <;> kernel_rfl, fun neg x y f a b => by cases neg <;> kernel_rfl⟩
instance ilda444 : LdAOk Q 444 4 := ⟨fun b o s G => by kernel_rfl⟩
instance iix444 : IxOk Q 444 4 := ⟨fun l k j => by kernel_rfl⟩
instance ifa446_0 : FaOk Q 446 0 0 := ⟨fun b o s => by kernel_rfl⟩
instance ifa429_4 : FaOk Q 429 4 4 := ⟨fun b o s => by kernel_rfl⟩
instance ifa429_0 : FaOk Q 429 0 0 := ⟨fun b o s => by kernel_rfl⟩
instance ild425 : LdOk Q 425 := ⟨fun b o s G => (show _ = loadOne b o G by kernel_rfl).trans (loadOne_eq b o G)⟩
instance ifa429_3 : FaOk Q 429 3 3 := ⟨fun b o s => by kernel_rfl⟩
instance ist423 : StOk Q 423 1 := ⟨fun b o s v G => by kernel_rfl⟩
instance ild423 : LdOk Q 423 := ⟨fun b o s G => (show _ = loadOne b o G by kernel_rfl).trans (loadOne_eq b o G)⟩
instance iifc423 : IfcOk Q 423 := ⟨fun v => by kernel_rfl⟩
instance ifa429_1 : FaOk Q 429 1 1 := ⟨fun b o s => by kernel_rfl⟩
instance ild426 : LdOk Q 426 := ⟨fun b o s G => (show _ = loadOne b o G by kernel_rfl).trans (loadOne_eq b o G)⟩
instance ief426 : EfOk Q 426 := ⟨fun neg x y => by cases neg <;> kernel_rfl, fun neg x y f a b => by cases neg <;> kernel_rfl⟩
instance ifa429_2 : FaOk Q 429 2 2 := ⟨fun b o s => by kernel_rfl⟩
instance ild427 : LdOk Q 427 := ⟨fun b o s G => (show _ = loadOne b o G by kernel_rfl).trans (loadOne_eq b o G)⟩
instance ief427 : EfOk Q 427 := ⟨fun neg x y => by cases neg <;> kernel_rfl, fun neg x y f a b => by cases neg <;> kernel_rfl⟩
instance ild448 : LdOk Q 448 := ⟨fun b o s G => (show _ = loadOne b o G by kernel_rfl).trans (loadOne_eq b o G)⟩
abbrev z496 : List Value := [.nilFunc, .nilFunc, .nilFunc, .nilFunc, .nilFunc, .nilFunc, .nilFunc, .nilFunc, .nilFunc, .nilFunc, .nilFunc, .nilFunc, .nilFunc]
instance ial496 : AlOk Q 496 z496 := ⟨fun G => by kernel_rfl⟩
instance ist496 : StOk Q 496 13 := ⟨fun b o s v G => by kernel_rfl⟩
instance iiaa496 : IaaOk Q 496 13 1 := ⟨fun b o s k j => by kernel_rfl⟩
instance ild495 : LdOk Q 495 := ⟨fun b o s G => (show _ = loadOne b o G by kernel_rfl).trans (loadOne_eq b o G)⟩
instance ibd496_1_2_3_4_5_6_7_8_9_10_11_12 : BdOk Q 496 z496 [(1, 1, 1), (2, 2, 1), (3, 3, 1), (4, 4, 1), (5, 5, 1), (6, 6, 1), (7, 7, 1), (8, 8, 1), (9, 9, 1), (10, 10, 1), (11, 11, 1), (12, 12, 1)] := bd_ok Q (by kernel_rfl) (by kernel_rfl) (by kernel_rfl)
instance ilda496 : LdAOk Q 496 13 := ⟨fun b o s G => by kernel_rfl⟩
instance ifa450_8 : FaOk Q 450 8 20 := ⟨fun b o s => by kernel_rfl⟩
instance ifa450_3 : FaOk Q 450 3 15 := ⟨fun b o s => by kernel_rfl⟩
instance ifa450_6 : FaOk Q 450 6 18 := ⟨fun b o s => by kernel_rfl⟩
instance ifa450_2 : FaOk Q 450 2 14 := ⟨fun b o s => by kernel_rfl⟩
instance ifa450_9 : FaOk Q 450 9 21 := ⟨fun b o s => by kernel_rfl⟩
instance ifa450_11 : FaOk Q 450 11 23 := ⟨fun b o s => by kernel_rfl⟩
instance iln460 : LnOk Q 460 := ⟨fun a n c => by kernel_rfl⟩
instance ibs54_1_0 : BsOk Q 54 1 (rep z37 1) 1 [(0, 0, 1)] := bs_ok Q (z0 := z37) (by kernel_rfl) rfl (by decide) (by kernel_rfl)
instance iap54_54 : ApOk Q 54 54 1 8 := ⟨fun s x G => by kernel_rfl⟩
def b3_0 (q : Bool) (e : Ex) (lp : LpF) (τ : Env) (G : GS) : OL :=
  bV q (τ 2) fun a2_ =>
  bV q (τ 3) fun a3_ =>
  bV q (τ 5) fun a5_ =>
  bV q (τ 6) fun a6_ =>
  bP (bn Q q .lss 3 (.tmp 56) (.const (.int .i64 200)) a6_ (.int .i64 200)) fun x0 =>
  bS (gV x0 true a5_ G) fun x1 G2 =>
  bS (gV x0 true a2_ G2) fun x3 G4 =>
  bS (gS x0 true (e.ev.cl 11 [x1, x3] G4) G4) fun x5 G6 =>
  bS (gP x0 true (un Q q .not x5) G6) fun x7 G8 =>
  bP (pickV x0 x7 (.bool false)) fun x9 =>
  ifV x9 (
  bS (gV a3_ true a5_ G8) fun x10 G11 =>
  bS (gS a3_ true (e.ev.cl 12 [x10] G11) G11) fun x12 G13 =>
  bS (gP a3_ true (bn Q q .lss 37 (.tmp 69) (.const (.int .u64 281474976710656)) x12 (.int .u64 281474976710656)) G13) fun x14 G15 =>
  bP (pickV a3_ x14 (.bool false)) fun x16 =>
  bP (bn Q q .add 3 (.tmp 64) (.const (.int .i64 1)) a6_ (.int .i64 1)) fun x17 =>
  lp (xq q 121 τ [(6, x17), (65, x17), (64, a6_), (3, x16), (71, x16), (70, x14), (69, x12), (68, x10), (67, a3_), (66, a3_), (63, x9), (62, x7), (61, x5), (60, x3), (59, x1), (58, x0), (57, x0), (56, a6_)] [(2, a2_), (5, a5_)]) G15) (
  some ((.exit 0), xq q 121 τ [(63, x9), (62, x7), (61, x5), (60, x3), (59, x1), (58, x0), (57, x0), (56, a6_)] [(2, a2_), (3, a3_), (5, a5_), (6, a6_)], G8))
theorem mb3_0 {e : Ex} {E : Ev} (h : ExLe Q e E) {lp lp' : LpF} (hlp : LpLe lp lp') (τ : Env) (G : GS) : Ref (b3_0 true e lp τ G) (b3_0 false (Ex.of E) lp' τ G) := by
  unfold b3_0
  exact Ref.gq
set_option maxHeartbeats 8000000 in
theorem l3_0 {orc : FuncId → Bool} {e : Ex} (h : ExLe Q e (E orc)) (lp : LpF) (hlp : ∀ τ G, Ref (lp τ G) (mapE ((E orc).lp (subAt [1, 1, 1, 1, 1, 1, 0, 1, 0, 0] (bodyOf Tryz.f3)) (lst 121 τ) G))) (T : List Value) (G : GS) (hT : T.length = 121) : Ref (b3_0 true e lp (nth undef T) G) (mapE ((E orc).lp (subAt [1, 1, 1, 1, 1, 1, 0, 1, 0, 0] (bodyOf Tryz.f3)) T G)) :=
  fun r hr => lp_sxN Q orc G hT (by kernel_rfl) (mb3_0 h ⟨hlp⟩ _ _ r hr)
/-- coxswain/coxswainlaw20.AuditKnown -/
def s3 (q : Bool) (e : Ex) (G : GS) : OG :=
  bS (e.ev.cl 5 [] G) fun x0 G1 =>
  bS (e.ev.cl 6 [] G1) fun x2 G3 =>
  bS (al Q q 31 z31 G3) fun x4 G5 =>
  bP (st Q q 31 13 x4 x0 G5) fun G6 =>
  bP (ep Q q false 33 (.tmp 12) (.const (.pointer none)) x2 (.pointer none)) fun x7 =>
  ifV x7 (
  some ((.bool false), G6)) (
  bP (lda Q q 31 13 x4 G6) fun x8 =>
  bS (e.ev.cl 7 [x8, x2, (.int .i64 1)] G6) fun x9 G10 =>
  bP (bn Q q .eql 3 (.tmp 16) (.const (.int .i64 2)) x9 (.int .i64 2)) fun x11 =>
  bS (gP x11 true (lda Q q 31 13 x4 G10) G10) fun x12 G13 =>
  bS (gV x11 true x2 G13) fun x14 G15 =>
  bS (gS x11 true (e.ev.cl 7 [x12, x14, (.int .i64 2)] G15) G15) fun x16 G17 =>
  bS (gP x11 true (bn Q q .eql 3 (.tmp 21) (.const (.int .i64 1)) x16 (.int .i64 1)) G17) fun x18 G19 =>
  bP (pickV x11 x18 (.bool false)) fun x20 =>
  bS (gP x20 true (lda Q q 31 13 x4 G19) G19) fun x21 G22 =>
  bS (gV x20 true x2 G22) fun x23 G24 =>
  bS (gS x20 true (e.ev.cl 7 [x21, x23, (.int .i64 3)] G24) G24) fun x25 G26 =>
  bS (gP x20 true (bn Q q .eql 3 (.tmp 27) (.const (.int .i64 (-1))) x25 (.int .i64 (-1))) G26) fun x27 G28 =>
  bP (pickV x20 x27 (.bool false)) fun x29 =>
  bS (gV x29 true x2 G28) fun x30 G31 =>
  bS (gS x29 true (e.ev.cl 8 [x30, (.int .i64 16), (.int .u64 65538)] G31) G31) fun x32 G33 =>
  bS (gP x29 true (un Q q .not x32) G33) fun x34 G35 =>
  bP (pickV x29 x34 (.bool false)) fun x36 =>
  bS (gV x36 true x2 G35) fun x37 G38 =>
  bS (gS x36 true (e.ev.cl 8 [x37, (.int .i64 16), (.int .u64 0)] G38) G38) fun x39 G40 =>
  bS (gP x36 true (un Q q .not x39) G40) fun x41 G42 =>
  bP (pickV x36 x41 (.bool false)) fun x43 =>
  bS (gV x43 true x2 G42) fun x44 G45 =>
  bS (gS x43 true (e.ev.cl 8 [x44, (.int .i64 0), (.int .u64 5)] G45) G45) fun x46 G47 =>
  bP (pickV x43 x46 (.bool false)) fun x48 =>
  bS (e.ev.cl 9 [(.int .i64 20), (.int .u64 131074)] G47) fun x49 G50 =>
  bP (bn Q q .eql 38 (.tmp 44) (.const (.int .i64 5)) x49 (.int .i64 5)) fun x51 =>
  bS (gS x51 true (e.ev.cl 9 [(.int .i64 15), (.int .u64 65537)] G50) G50) fun x52 G53 =>
  bS (gP x51 true (bn Q q .eql 38 (.tmp 47) (.const (.int .i64 11)) x52 (.int .i64 11)) G53) fun x54 G55 =>
  bP (pickV x51 x54 (.bool false)) fun x56 =>
  bS (gS x56 true (e.ev.cl 9 [(.int .i64 7), (.int .u64 1)] G55) G55) fun x57 G58 =>
  bS (gP x56 true (bn Q q .eql 38 (.tmp 51) (.const (.int .i64 10)) x57 (.int .i64 10)) G58) fun x59 G60 =>
  bP (pickV x56 x59 (.bool false)) fun x61 =>
  bP (lda Q q 31 13 x4 G60) fun x62 =>
  bS (e.ev.cl 10 [x62, (.int .i64 0)] G60) fun x63 G64 =>
  bLq q e 3 0 (subAt [1, 1, 1, 1, 1, 1, 0, 1, 0, 0] (bodyOf Tryz.f3)) 121 (nth undef []) [(6, (.int .i64 0)), (5, x63), (55, x63), (54, x62), (4, x61), (53, x61), (52, x59), (51, x57), (50, x56), (49, x56), (48, x54), (47, x52), (46, x51), (45, x51), (44, x49), (3, x48), (43, x48), (42, x46), (41, x44), (40, x43), (39, x43), (38, x41), (37, x39), (36, x37), (35, x36), (34, x36), (33, x34), (32, x32), (31, x30), (30, x29), (29, x29), (28, x27), (27, x25), (26, x23), (25, x21), (24, x20), (23, x20), (22, x18), (21, x16), (20, x14), (19, x12), (18, x11), (17, x11), (16, x9), (15, x2), (14, x8), (13, x7), (12, x2), (2, x2), (1, x4), (11, x2), (10, x0), (0, (.bool false))] [] G64 fun e65 t66 G67 =>
  bV q (t66 1) fun t66x1_ =>
  bV q (t66 2) fun t66x2_ =>
  bV q (t66 3) fun t66x3_ =>
  bV q (t66 4) fun t66x4_ =>
  bV q (t66 5) fun t66x5_ =>
  ifE e65 (.exit 0) (
  bS (e.ev.cl 13 [t66x5_] G67) fun x68 G69 =>
  bP (pExtract x68 0) fun x70 =>
  bP (pExtract x68 1) fun x71 =>
  bS (al Q q 45 z45 G69) fun x72 G73 =>
  bP (st Q q 45 2 x72 x70 G73) fun G74 =>
  bP (bn Q q .eql 38 (.tmp 77) (.const (.int .i64 0)) x71 (.int .i64 0)) fun x75 =>
  bS (gP x75 true (lda Q q 45 2 x72 G74) G74) fun x76 G77 =>
  bS (gP x75 true (bd Q q 45 z45 [(0, 0, 1), (1, 1, 1)] [(.int .u64 4), (.int .i64 6)]) G77) fun x78 G79 =>
  bS (gP x75 true (bn Q q .eql 45 (.tmp 80) (.tmp 81) x76 x78) G79) fun x80 G81 =>
  bP (pickV x75 x80 (.bool false)) fun x82 =>
  bS (gP x82 true (lda Q q 31 13 t66x1_ G81) G81) fun x83 G84 =>
  bS (gV x82 true t66x2_ G84) fun x85 G86 =>
  bS (gS x82 true (e.ev.cl 14 [x83, x85] G86) G86) fun x87 G88 =>
  bS (gP x82 true (bd Q q 49 z49 [(0, 0, 1), (1, 1, 1), (2, 2, 1)] [(.int .i64 1), (.int .i64 1), (.int .i64 1)]) G88) fun x89 G90 =>
  bS (gP x82 true (bn Q q .eql 49 (.tmp 87) (.tmp 88) x87 x89) G90) fun x91 G92 =>
  bP (pickV x82 x91 (.bool false)) fun x93 =>
  bS (gP x93 true (lda Q q 31 13 t66x1_ G92) G92) fun x94 G95 =>
  bS (gV x93 true t66x2_ G95) fun x96 G97 =>
  bS (gS x93 true (e.ev.cl 7 [x94, x96, (.int .i64 1)] G97) G97) fun x98 G99 =>
  bS (gP x93 true (bn Q q .eql 3 (.tmp 94) (.const (.int .i64 3)) x98 (.int .i64 3)) G99) fun x100 G101 =>
  bP (pickV x93 x100 (.bool false)) fun x102 =>
  bS (gP x102 true (lda Q q 31 13 t66x1_ G101) G101) fun x103 G104 =>
  bS (gV x102 true t66x2_ G104) fun x105 G106 =>
  bS (gS x102 true (e.ev.cl 15 [x103, x105] G106) G106) fun x107 G108 =>
  bS (gP x102 true (bn Q q .eql 38 (.tmp 100) (.const (.int .i64 0)) x107 (.int .i64 0)) G108) fun x109 G110 =>
  bP (pickV x102 x109 (.bool false)) fun x111 =>
  bS (e.ev.cl 16 [t66x2_, (.int .i64 9), (.int .u64 1)] G110) fun x112 G113 =>
  bS (e.ev.cl 17 [] G113) fun x114 G115 =>
  bS (gV x114 true t66x3_ G115) fun x116 G117 =>
  bP (pickV x114 x116 (.bool false)) fun x118 =>
  bS (gV x118 true t66x4_ G117) fun x119 G120 =>
  bP (pickV x118 x119 (.bool false)) fun x121 =>
  bS (gV x121 true x111 G120) fun x122 G123 =>
  bP (pickV x121 x122 (.bool false)) fun x124 =>
  bS (gP x124 true (lda Q q 31 13 t66x1_ G123) G123) fun x125 G126 =>
  bS (gV x124 true t66x2_ G126) fun x127 G128 =>
  bS (gS x124 true (e.ev.cl 15 [x125, x127] G128) G128) fun x129 G130 =>
  bS (gP x124 true (bn Q q .eql 38 (.tmp 118) (.const (.int .i64 14)) x129 (.int .i64 14)) G130) fun x131 G132 =>
  bP (pickV x124 x131 (.bool false)) fun x133 =>
  some (x133, G132)) (none))
theorem m3 {e : Ex} {E : Ev} (h : ExLe Q e E) (G : GS) : Ref (s3 true e  G) (s3 false (Ex.of E)  G) := by
  unfold s3
  exact Ref.gq
set_option maxHeartbeats 8000000 in
theorem f3 {orc : FuncId → Bool} {e : Ex} (h : ExLe Q e (E orc)) (ho : orc 3 = false) (G : GS) : Ref (s3 true e  G) ((E orc).cl 3 [] G) :=
  fun r hr => cl_sxE_some Q orc (vs := []) G Tryz.func3 (by kernel_rfl) (by kernel_rfl) ho (by kernel_rfl) (by kernel_rfl) (by kernel_rfl) (m3 h  G r hr)
/-- coxswain/coxswainlaw20.chapter -/
def s5 (q : Bool) (e : Ex) (G : GS) : OG :=
  bS (al Q q 31 z31 G) fun x0 G1 =>
  bP (bd Q q 23 z23 [(0, 0, 1), (1, 1, 1), (2, 2, 1)] [(.int .i64 0), (.int .i64 1), (.int .i64 3)]) fun x2 =>
  bP (bd Q q 25 z25 [(0, 0, 3), (1, 3, 1), (2, 4, 1), (3, 5, 1)] [x2, (.int .i64 4), (.int .i64 7), (.int .i64 9)]) fun x3 =>
  bS (al Q q 25 z25 G1) fun x4 G5 =>
  bP (st Q q 25 6 x4 x3 G5) fun G6 =>
  bP (lda Q q 25 6 x4 G6) fun x7 =>
  bP (bd Q q 27 z27 [(0, 0, 1), (1, 1, 1), (2, 2, 1)] [(.int .i64 8), (.int .i64 9), (.int .i64 2)]) fun x8 =>
  bP (bd Q q 29 z29 [(0, 0, 6), (1, 6, 3), (2, 9, 1)] [x7, x8, (.int .i64 11)]) fun x9 =>
  bS (al Q q 29 z29 G6) fun x10 G11 =>
  bP (st Q q 29 10 x10 x9 G11) fun G12 =>
  bP (lda Q q 29 10 x10 G12) fun x13 =>
  bP (bd Q q 31 z31 [(0, 0, 1), (1, 1, 1), (2, 2, 1), (3, 3, 10)] [(.int .i64 16), (.int .i64 14), (.int .i64 2), x13]) fun x14 =>
  bP (st Q q 31 13 x0 x14 G12) fun G15 =>
  bP (lda Q q 31 13 x0 G15) fun x16 =>
  some (x16, G15)
theorem f5 (h : ExLe Q e (E orc)) (ho : orc 5 = false) (G : GS) : Ref (s5 true e  G) ((E orc).cl 5 [] G) := cS (S := fun q e => s5 q e  G) (ho := ho) Tryz.func5 (by unfold s5; exact Ref.gq)
/-- coxswain/coxswainlaw20.put -/
def s6 (q : Bool) (e : Ex) (G : GS) : OG :=
  bS (e.ev.cl 20 [(.int .i64 34)] G) fun x0 G1 =>
  bP (pExtract x0 0) fun x2 =>
  bP (pExtract x0 1) fun x3 =>
  bP (bn Q q .neq 38 (.tmp 7) (.const (.int .i64 0)) x3 (.int .i64 0)) fun x4 =>
  bS (gV x4 false x2 G1) fun x5 G6 =>
  bS (gP x4 false (ep Q q false 33 (.tmp 10) (.const (.pointer none)) x5 (.pointer none)) G6) fun x7 G8 =>
  bP (pickV x4 (.bool true) x7) fun x9 =>
  ifV x9 (
  some ((.pointer none), G8)) (
  bS (e.ev.cl 5 [] G8) fun x10 G11 =>
  bS (e.ev.cl 22 [x10, x2] G11) fun x12 G13 =>
  bS (e.ev.cl 36 [x2, (.int .u64 9), (.int .i64 5)] G13) fun x14 G15 =>
  bP (un Q q .not x14) fun x16 =>
  bS (gV x16 false x2 G15) fun x17 G18 =>
  bS (gS x16 false (e.ev.cl 36 [x17, (.int .u64 4), (.int .i64 6)] G18) G18) fun x19 G20 =>
  bS (gP x16 false (un Q q .not x19) G20) fun x21 G22 =>
  bP (pickV x16 (.bool true) x21) fun x23 =>
  ifV x23 (
  some ((.pointer none), G22)) (
  some (x2, G22)))
theorem f6 (h : ExLe Q e (E orc)) (ho : orc 6 = false) (G : GS) : Ref (s6 true e  G) ((E orc).cl 6 [] G) := cS (S := fun q e => s6 q e  G) (ho := ho) Tryz.func6 (by unfold s6; exact Ref.gq)
/-- coxswain/audit.Where -/
def s7 (q : Bool) (e : Ex) (v0 v1 v2 : Value) (G : GS) : OG :=
  bS (bx q v0 G) fun x0 G1 =>
  bS (bx q v2 G1) fun x2 G3 =>
  bS (al Q q 3 z3 G3) fun x4 G5 =>
  bP (lda Q q 31 13 x0 G5) fun x6 =>
  bS (e.ev.cl 37 [x6] G5) fun x7 G8 =>
  bP (un Q q .not x7) fun x9 =>
  bS (gP x9 false (ld Q q 3 x2 G8) G8) fun x10 G11 =>
  bS (gP x9 false (bn Q q .lss 3 (.tmp 13) (.const (.int .i64 0)) x10 (.int .i64 0)) G11) fun x12 G13 =>
  bP (pickV x9 (.bool true) x12) fun x14 =>
  bS (gP x14 false (ld Q q 3 x2 G13) G13) fun x15 G16 =>
  bS (gP x14 false (fa Q q 31 3 3 x0) G16) fun x17 G18 =>
  bS (gP x14 false (fa Q q 29 0 0 x17) G18) fun x19 G20 =>
  bS (gP x14 false (fa Q q 25 0 0 x19) G20) fun x21 G22 =>
  bS (gP x14 false (fa Q q 23 2 2 x21) G22) fun x23 G24 =>
  bS (gP x14 false (ld Q q 3 x23 G24) G24) fun x25 G26 =>
  bS (gP x14 false (bn Q q .geq 3 (.tmp 17) (.tmp 22) x15 x25) G26) fun x27 G28 =>
  bP (pickV x14 (.bool true) x27) fun x29 =>
  ifV x29 (
  bP (st Q q 3 1 x4 (.int .i64 (-1)) G28) fun G30 =>
  bP (ld Q q 3 x4 G30) fun x31 =>
  some (x31, G30)) (
  bP (lda Q q 31 13 x0 G28) fun x32 =>
  bS (e.ev.cl 38 [x32, v1] G28) fun x33 G34 =>
  bS (e.ev.cl 39 [x33] G34) fun x35 G36 =>
  bX (xRange e.ev x35 #[29, 30] (subAt [1, 1, 0, 1, 0, 0] (bodyOf Tryz.f7)) (subAt [1, 1, 0, 1, 0, 1] (bodyOf Tryz.f7)) (lsq q 35 (nth undef [v0, v1, v2]) [(28, x35), (27, x33), (26, v1), (25, x32), (24, x29), (23, x27), (22, x25), (21, x23), (20, x21), (19, x19), (18, x17), (17, x15), (16, x14), (15, x14), (14, x12), (13, x10), (12, x9), (11, x9), (10, x7), (9, x6), (6, x4), (5, x2), (3, x0)]) G36) fun e37 T38 G39 =>
  bV q (nth undef T38 6) fun T38x6_ =>
  ifE e37 .normal (
  bP (st Q q 3 1 T38x6_ (.int .i64 0) G39) fun G40 =>
  bP (ld Q q 3 T38x6_ G40) fun x41 =>
  some (x41, G40)) (ifE e37 .ret (
  bP (ld Q q 3 T38x6_ G39) fun x42 =>
  some (x42, G39)) (none)))
theorem f7 (h : ExLe Q e (E orc)) (v0 v1 v2 : Value) (G : GS) : Ref (s7 true e v0 v1 v2 G) ((E orc).cl 7 [v0, v1, v2] G) := cS (S := fun q e => s7 q e v0 v1 v2 G) Tryz.func7 (by unfold s7; exact Ref.gq)
def r7_0 (q : Bool) (e : Ex) (l : Nat) (τ : Env) (u0 u1 : Value) (G : GS) : OG :=
  bV q (τ 5) fun a5_ =>
  bV q (τ 6) fun a6_ =>
  bP (G.loop l) fun r0 => if r0.st = .ready then
  bP (ld Q q 3 a5_ (G.putLoop l (Lp.setSt r0 .busy))) fun x1 =>
  bP (bn Q q .eql 3 (.tmp 31) (.tmp 32) u0 x1) fun x2 =>
  ifV x2 (
  bP (st Q q 3 1 a6_ u1 (G.putLoop l (Lp.setSt r0 .busy))) fun G3 =>
  roundEnd l .ret G3) (
  roundEnd l .normal (G.putLoop l (Lp.setSt r0 .busy)))
  else none
theorem mr7_0 {e : Ex} {E : Ev} (h : ExLe Q e E) (l : Nat) (τ : Env) (u0 u1 : Value) (G : GS) : Ref (r7_0 true e l τ u0 u1 G) (r7_0 false (Ex.of E) l τ u0 u1 G) := by
  unfold r7_0
  repeat' (with_reducible first | exact Ref.rfl' _ | exact ROp.r | refine Ref.bP ?_ fun _ => ?_ | refine Ref.bS ?_ fun _ _ => ?_ | exact Ref.cl (by assumption) | refine Ref.ifV ?_ ?_ | refine LpLe.rx (by assumption) ?_ | refine Ref.xitq ?_ | exact UOk.z | refine UOk.c (by assumption) ?_ | exact Ref.nil _ | refine Ref.bVe fun _ _ => ?_ | refine Ref.bLq (by assumption) ?_ fun _ _ _ => ?_ | refine Ref.ifE ?_ ?_ | refine Ref.chk ?_ ?_ | refine Imp.and ?_ ?_ | refine Imp.or ?_ | exact Imp.rfl' _ | refine Imp.sameO ?_ | refine Ref.gd ?_ | exact Ref.cValue (by assumption) | refine Ref.bX ?_ fun _ _ _ => ?_ | exact Ref.scQ (by assumption) | exact Ref.xRangeQ (by assumption) | exact Ref.cInvoke (by assumption) | refine Ref.rdy ?_)
theorem d7_0 {orc : FuncId → Bool} {e : Ex} (h : ExLe Q e (E orc)) (l : Nat) (T : List Value) (u0 u1 : Value) (G : GS) {st : LoopState} {pend : Option Code} (hl : G.loop l = some ⟨st, pend, T, [29, 30], (subAt [1, 1, 0, 1, 0, 0] (bodyOf Tryz.f7)), (subAt [1, 1, 0, 1, 0, 1] (bodyOf Tryz.f7))⟩) (hT : T.length = 35) : Ref (r7_0 true e l (nth undef T) u0 u1 G) ((E orc).rd l [u0, u1] G) :=
  fun r hr => rd_sxE Q orc hl (by kernel_rfl) hT (by kernel_rfl) (mr7_0 h l _ u0 u1 G r hr)
/-- coxswain/coxswainlaw20.held -/
def s8 (q : Bool) (e : Ex) (v0 v1 v2 : Value) (G : GS) : OG :=
  bS (e.ev.cl 5 [] G) fun x0 G1 =>
  bP (bd Q q 80 z80 [(0, 0, 1), (1, 1, 1)] [(.int .i64 1), v1]) fun x2 =>
  bS (e.ev.cl 40 [x0, v0, x2, v2] G1) fun x3 G4 =>
  some (x3, G4)
theorem f8 (h : ExLe Q e (E orc)) (v0 v1 v2 : Value) (G : GS) : Ref (s8 true e v0 v1 v2 G) ((E orc).cl 8 [v0, v1, v2] G) := cS (S := fun q e => s8 q e v0 v1 v2 G) Tryz.func8 (by unfold s8; exact Ref.gq)
/-- coxswain/coxswainlaw20.spoilt -/
def s9 (q : Bool) (e : Ex) (v0 v1 : Value) (G : GS) : OG :=
  bS (e.ev.cl 6 [] G) fun x0 G1 =>
  bP (ep Q q false 33 (.tmp 7) (.const (.pointer none)) x0 (.pointer none)) fun x2 =>
  ifV x2 (
  some ((.int .i64 0), G1)) (
  bS (e.ev.cl 16 [x0, v0, v1] G1) fun x3 G4 =>
  bS (e.ev.cl 5 [] G4) fun x5 G6 =>
  bS (e.ev.cl 15 [x5, x0] G6) fun x7 G8 =>
  some (x7, G8))
theorem f9 (h : ExLe Q e (E orc)) (hp : isPur Q orc 9 = false) (v0 v1 : Value) (G : GS) : Ref (s9 true e v0 v1 G) ((E orc).cl 9 [v0, v1] G) := cS (S := fun q e => s9 q e v0 v1 G) (hp := hp) Tryz.func9 (by unfold s9; exact Ref.gq)
/-- coxswain/ready.NewPick -/
def s10 (q : Bool) (e : Ex) (v0 v1 : Value) (G : GS) : OG :=
  bS (bx q v0 G) fun x0 G1 =>
  bP (lda Q q 31 13 x0 G1) fun x2 =>
  bS (e.ev.cl 41 [x2, v1] G1) fun x3 G4 =>
  bP (bd Q q 102 z102 [(0, 0, 19)] [x3]) fun x5 =>
  bS (bx q x5 G4) fun x6 G7 =>
  bS (al Q q 40 z40 G7) fun x8 G9 =>
  bP (st Q q 40 1 x8 x6 G9) fun G10 =>
  bP (ld Q q 40 x8 G10) fun x11 =>
  nf q 102 0 0 x11 fun x13 =>
  fl q 97 6 18 38 x13 G10 fun x15 =>
  bP (bn Q q .eql 38 (.tmp 15) (.const (.int .i64 0)) x15 (.int .i64 0)) fun x16 =>
  ifV x16 (
  bP (ld Q q 40 x8 (G10.room 19)) fun x17 =>
  bP (ld Q q 40 x8 (G10.room 19)) fun x18 =>
  nf q 102 0 0 x18 fun x20 =>
  bS (e.ev.cl 42 [x20] (G10.room 19)) fun x22 G21 =>
  chk ((sameO (ld Q q 40 x8 G21) x17 && true)) <|
  bP (bd Q q 113 z113 [(0, 0, 1), (1, 1, 1), (2, 2, 1)] [(.func (.func 43) #[] #[x0]), (.func (.func 45) #[] #[]), (.func (.func 46) #[] #[x8])]) fun x23 =>
  bS (bx q x23 (G21.at' (G10.nx + 8))) fun x24 G25 =>
  bP (ifc Q q 106 x24) fun x26 =>
  bP (ld Q q 40 x8 (G25.back G21)) fun x27 =>
  chk ((sameO (ld Q q 40 x8 (G10.room 19)) x27 && true)) <|
  nf q 102 0 0 x27 fun x29 =>
  bS (e.ev.cl 48 [x29] (G25.back G21)) fun x31 G30 =>
  chk ((sameO (ld Q q 40 x8 G30) x17 && true)) <|
  bS (bs Q q 95 3 (rep z104 3) 1 [(0, 0, 1), (1, 1, 1), (2, 2, 1)] [x22, x26, x31] (G30.at' (G10.nx + 14))) fun x32 G33 =>
  nf q 102 0 0 x17 fun x35 =>
  bP (fa Q q 97 4 16 x35) fun x36 =>
  bP (st Q q 95 1 x36 x32 (G33.back G30)) fun G37 =>
  bP (ld Q q 40 x8 G37) fun x38 =>
  some (x38, G37)) (
  bP (ld Q q 40 x8 G10) fun x39 =>
  some (x39, G10))
theorem f10 (h : ExLe Q e (E orc)) (v0 v1 : Value) (G : GS) : Ref (s10 true e v0 v1 G) ((E orc).cl 10 [v0, v1] G) := cS (S := fun q e => s10 q e v0 v1 G) Tryz.func10 (by unfold s10; exact Ref.gq)
/-- (*coxswain/ready.Pick).Step -/
def s11 (q : Bool) (e : Ex) (v0 v1 : Value) (G : GS) : OG :=
  bP (ep Q q false 40 (.tmp 5) (.const (.pointer none)) v0 (.pointer none)) fun x0 =>
  bS (gV x0 false v0 G) fun x1 G2 =>
  bS (gP x0 false (pNil x1) G2) fun x3 G4 =>
  bS (gP x0 false (fa Q q 102 0 0 x3) G4) fun x5 G6 =>
  bS (gV x0 false v1 G6) fun x7 G8 =>
  bS (gS x0 false (e.ev.cl 49 [x5, x7] G8) G8) fun x9 G10 =>
  bP (pickV x0 (.bool true) x9) fun x11 =>
  some (x11, G10)
theorem f11 (h : ExLe Q e (E orc)) (v0 v1 : Value) (G : GS) : Ref (s11 true e v0 v1 G) ((E orc).cl 11 [v0, v1] G) := cS (S := fun q e => s11 q e v0 v1 G) Tryz.func11 (by unfold s11; exact Ref.gq)
/-- (*coxswain/ready.Pick).By -/
def s12 (q : Bool) (e : Ex) (v0 : Value) (G : GS) : OG :=
  bP (ep Q q false 40 (.tmp 3) (.const (.pointer none)) v0 (.pointer none)) fun x0 =>
  ifV x0 (
  some ((.int .u64 0), G)) (
  nf q 102 0 0 v0 fun x2 =>
  fl q 97 5 17 37 x2 G fun x4 =>
  some (x4, G))
theorem f12 (h : ExLe Q e (E orc)) (v0 : Value) (G : GS) : Ref (s12 true e v0 G) ((E orc).cl 12 [v0] G) := cS (S := fun q e => s12 q e v0 G) Tryz.func12 (by unfold s12; exact Ref.gq)
/-- (*coxswain/ready.Pick).Item -/
def s13 (q : Bool) (e : Ex) (v0 : Value) (G : GS) : OG :=
  bS (al Q q 45 z45 G) fun x0 G1 =>
  bP (ep Q q false 40 (.tmp 4) (.const (.pointer none)) v0 (.pointer none)) fun x2 =>
  ifV x2 (
  bP (bd Q q 45 z45 [] []) fun x3 =>
  bP (st Q q 45 2 x0 x3 G1) fun G4 =>
  bP (lda Q q 45 2 x0 G4) fun x5 =>
  some (.tuple #[x5, (.int .i64 1)], G4)) (
  nf q 102 1 19 v0 fun x7 =>
  bP (lda Q q 100 3 x7 (G1.room 12)) fun x8 =>
  nf q 102 0 0 v0 fun x10 =>
  bS (e.ev.cl 50 [x8, x10] (G1.room 12)) fun x12 G11 =>
  bP (pExtract x12 0) fun x13 =>
  bP (pExtract x12 1) fun x14 =>
  bP (st Q q 45 2 x0 x13 G11) fun G15 =>
  bP (lda Q q 45 2 x0 G15) fun x16 =>
  some (.tuple #[x16, x14], G15))
theorem f13 (h : ExLe Q e (E orc)) (v0 : Value) (G : GS) : Ref (s13 true e v0 G) ((E orc).cl 13 [v0] G) := cS (S := fun q e => s13 q e v0 G) Tryz.func13 (by unfold s13; exact Ref.gq)
/-- coxswain/audit.Sums -/
def s14 (q : Bool) (e : Ex) (v0 v1 : Value) (G : GS) : OG :=
  bS (bx q v0 G) fun x0 G1 =>
  bS (al Q q 49 z49 G1) fun x2 G3 =>
  bP (lda Q q 31 13 x0 G3) fun x4 =>
  bS (e.ev.cl 37 [x4] G3) fun x5 G6 =>
  bP (un Q q .not x5) fun x7 =>
  ifV x7 (
  bP (bd Q q 49 z49 [] []) fun x8 =>
  bP (st Q q 49 5 x2 x8 G6) fun G9 =>
  bP (lda Q q 49 5 x2 G9) fun x10 =>
  some (x10, G9)) (
  bP (lda Q q 31 13 x0 G6) fun x11 =>
  bS (e.ev.cl 38 [x11, v1] G6) fun x12 G13 =>
  bS (al Q q 91 z91 G13) fun x14 G15 =>
  bP (st Q q 91 15 x14 x12 G15) fun G16 =>
  bP (fa Q q 31 3 3 x0) fun x17 =>
  bP (fa Q q 29 0 0 x17) fun x18 =>
  bP (fa Q q 25 0 0 x18) fun x19 =>
  bP (fa Q q 23 2 2 x19) fun x20 =>
  bP (ld Q q 3 x20 G16) fun x21 =>
  bP (lda Q q 91 15 x14 G16) fun x22 =>
  bP (fa Q q 31 3 3 x0) fun x23 =>
  bP (fa Q q 29 0 0 x23) fun x24 =>
  bP (fa Q q 25 2 4 x24) fun x25 =>
  bP (ld Q q 3 x25 G16) fun x26 =>
  bS (e.ev.cl 51 [x22, x26] G16) fun x27 G28 =>
  bP (cv Q q 3 37 .i64 .u64 x21) fun x29 =>
  bP (mn Q q #[37, 37] x27 x29) fun x30 =>
  bP (cv Q q 37 3 .u64 .i64 x30) fun x31 =>
  bP (bd Q q 49 z49 [(3, 3, 1)] [x31]) fun x32 =>
  bS (al Q q 49 z49 G28) fun x33 G34 =>
  bP (st Q q 49 5 x33 x32 G34) fun G35 =>
  bP (lda Q q 91 15 x14 G35) fun x36 =>
  bS (e.ev.cl 39 [x36] G35) fun x37 G38 =>
  bX (xRange e.ev x37 #[35, 36] (subAt [1, 1, 1, 1, 1, 0, 1, 0, 0] (bodyOf Tryz.f14)) (subAt [1, 1, 1, 1, 1, 0, 1, 0, 1] (bodyOf Tryz.f14)) (lsq q 69 (nth undef [v0, v1]) [(34, x37), (33, x36), (7, x33), (32, x32), (31, x31), (30, x30), (29, x29), (28, x21), (27, x27), (26, x26), (25, x25), (24, x24), (23, x23), (22, x22), (6, x21), (21, x21), (20, x20), (19, x19), (18, x18), (17, x17), (5, x14), (16, x12), (15, v1), (14, x11), (12, x7), (11, x5), (10, x4), (4, x2), (2, x0)]) G38) fun e39 T40 G41 =>
  bV q (nth undef T40 4) fun T40x4_ =>
  bV q (nth undef T40 6) fun T40x6_ =>
  bV q (nth undef T40 7) fun T40x7_ =>
  ifE e39 .normal (
  fl q 49 0 0 3 T40x7_ G41 fun x43 =>
  bP (bn Q q .sub 3 (.tmp 54) (.tmp 56) T40x6_ x43) fun x44 =>
  fl q 49 1 1 3 T40x7_ G41 fun x46 =>
  bP (bn Q q .sub 3 (.tmp 57) (.tmp 59) x44 x46) fun x47 =>
  fl q 49 2 2 3 T40x7_ G41 fun x49 =>
  bP (bn Q q .sub 3 (.tmp 60) (.tmp 62) x47 x49) fun x50 =>
  fl q 49 3 3 3 T40x7_ G41 fun x52 =>
  bP (bn Q q .sub 3 (.tmp 63) (.tmp 65) x50 x52) fun x53 =>
  bP (fa Q q 49 4 4 T40x7_) fun x54 =>
  bP (st Q q 3 1 x54 x53 G41) fun G55 =>
  bP (lda Q q 49 5 T40x7_ G55) fun x56 =>
  bP (st Q q 49 5 T40x4_ x56 G55) fun G57 =>
  bP (lda Q q 49 5 T40x4_ G57) fun x58 =>
  some (x58, G57)) (none))
theorem f14 (h : ExLe Q e (E orc)) (v0 v1 : Value) (G : GS) : Ref (s14 true e v0 v1 G) ((E orc).cl 14 [v0, v1] G) := cS (S := fun q e => s14 q e v0 v1 G) Tryz.func14 (by unfold s14; exact Ref.gq)
def r14_0 (q : Bool) (e : Ex) (l : Nat) (τ : Env) (u0 u1 : Value) (G : GS) : OG :=
  bV q (τ 7) fun a7_ =>
  bP (G.loop l) fun r0 => if r0.st = .ready then
  bP (bn Q q .eql 3 (.tmp 37) (.const (.int .i64 1)) u1 (.int .i64 1)) fun x1 =>
  ifV x1 (
  bP (fa Q q 49 0 0 a7_) fun x2 =>
  bP (ld Q q 3 x2 (G.putLoop l (Lp.setSt r0 .busy))) fun x3 =>
  bP (bn Q q .add 3 (.tmp 45) (.const (.int .i64 1)) x3 (.int .i64 1)) fun x4 =>
  bP (fa Q q 49 0 0 a7_) fun x5 =>
  bP (st Q q 3 1 x5 x4 (G.putLoop l (Lp.setSt r0 .busy))) fun G6 =>
  roundEnd l .normal G6) (
  bP (bn Q q .eql 3 (.tmp 37) (.const (.int .i64 2)) u1 (.int .i64 2)) fun x7 =>
  ifV x7 (
  bP (fa Q q 49 1 1 a7_) fun x8 =>
  bP (ld Q q 3 x8 (G.putLoop l (Lp.setSt r0 .busy))) fun x9 =>
  bP (bn Q q .add 3 (.tmp 51) (.const (.int .i64 1)) x9 (.int .i64 1)) fun x10 =>
  bP (fa Q q 49 1 1 a7_) fun x11 =>
  bP (st Q q 3 1 x11 x10 (G.putLoop l (Lp.setSt r0 .busy))) fun G12 =>
  roundEnd l .normal G12) (
  bP (fa Q q 49 2 2 a7_) fun x13 =>
  bP (ld Q q 3 x13 (G.putLoop l (Lp.setSt r0 .busy))) fun x14 =>
  bP (bn Q q .add 3 (.tmp 39) (.const (.int .i64 1)) x14 (.int .i64 1)) fun x15 =>
  bP (fa Q q 49 2 2 a7_) fun x16 =>
  bP (st Q q 3 1 x16 x15 (G.putLoop l (Lp.setSt r0 .busy))) fun G17 =>
  roundEnd l .normal G17))
  else none
theorem mr14_0 {e : Ex} {E : Ev} (h : ExLe Q e E) (l : Nat) (τ : Env) (u0 u1 : Value) (G : GS) : Ref (r14_0 true e l τ u0 u1 G) (r14_0 false (Ex.of E) l τ u0 u1 G) := by
  unfold r14_0
  repeat' (with_reducible first | exact Ref.rfl' _ | exact ROp.r | refine Ref.bP ?_ fun _ => ?_ | refine Ref.bS ?_ fun _ _ => ?_ | exact Ref.cl (by assumption) | refine Ref.ifV ?_ ?_ | refine LpLe.rx (by assumption) ?_ | refine Ref.xitq ?_ | exact UOk.z | refine UOk.c (by assumption) ?_ | exact Ref.nil _ | refine Ref.bVe fun _ _ => ?_ | refine Ref.bLq (by assumption) ?_ fun _ _ _ => ?_ | refine Ref.ifE ?_ ?_ | refine Ref.chk ?_ ?_ | refine Imp.and ?_ ?_ | refine Imp.or ?_ | exact Imp.rfl' _ | refine Imp.sameO ?_ | refine Ref.gd ?_ | exact Ref.cValue (by assumption) | refine Ref.bX ?_ fun _ _ _ => ?_ | exact Ref.scQ (by assumption) | exact Ref.xRangeQ (by assumption) | exact Ref.cInvoke (by assumption) | refine Ref.rdy ?_)
theorem d14_0 {orc : FuncId → Bool} {e : Ex} (h : ExLe Q e (E orc)) (l : Nat) (T : List Value) (u0 u1 : Value) (G : GS) {st : LoopState} {pend : Option Code} (hl : G.loop l = some ⟨st, pend, T, [35, 36], (subAt [1, 1, 1, 1, 1, 0, 1, 0, 0] (bodyOf Tryz.f14)), (subAt [1, 1, 1, 1, 1, 0, 1, 0, 1] (bodyOf Tryz.f14))⟩) (hT : T.length = 69) : Ref (r14_0 true e l (nth undef T) u0 u1 G) ((E orc).rd l [u0, u1] G) :=
  fun r hr => rd_sxE Q orc hl (by kernel_rfl) hT (by kernel_rfl) (mr14_0 h l _ u0 u1 G r hr)
def b15_0 (q : Bool) (e : Ex) (lp : LpF) (τ : Env) (G : GS) : OL :=
  bV q (τ 27) fun a27_ =>
  bV q (τ 28) fun a28_ =>
  bV q (τ 29) fun a29_ =>
  bP (bn Q q .lss 3 (.tmp 29) (.tmp 28) a29_ a28_) fun x0 =>
  ifV x0 (
  bP (ias Q q 118 1 a27_ a29_) fun x1 =>
  bP (ld Q q 117 x1 G) fun x2 =>
  bS (cValue e.ev x2 [] G) fun x3 G4 =>
  bP (bn Q q .neq 38 (.tmp 35) (.const (.int .i64 0)) x3 (.int .i64 0)) fun x5 =>
  ifV x5 (
  some (.ret, xq q 39 τ [(4, x3), (37, x3), (36, x5), (35, x3), (8, x3), (34, x3), (33, x2), (7, x2), (32, x2), (31, x1), (30, x0)] [(27, a27_), (28, a28_), (29, a29_)], G4)) (
  bP (bn Q q .add 3 (.tmp 29) (.const (.int .i64 1)) a29_ (.int .i64 1)) fun x6 =>
  lp (xq q 39 τ [(29, x6), (38, x6), (36, x5), (35, x3), (8, x3), (34, x3), (33, x2), (7, x2), (32, x2), (31, x1), (30, x0)] [(27, a27_), (28, a28_)]) G4)) (
  some ((.exit 0), xq q 39 τ [(30, x0)] [(27, a27_), (28, a28_), (29, a29_)], G))
theorem l15_0 (h : ExLe Q e (E orc)) : LT orc 39 (subAt [1, 1, 1, 0, 1, 0, 0] (bodyOf Tryz.f15)) (b15_0 true e) := cL fun hlp τ G => by unfold b15_0; exact Ref.gq
/-- coxswain/audit.Whole -/
def s15 (q : Bool) (e : Ex) (v0 v1 : Value) (G : GS) : OG :=
  bS (bx q v0 G) fun x0 G1 =>
  bP (lda Q q 31 13 x0 G1) fun x2 =>
  bS (e.ev.cl 37 [x2] G1) fun x3 G4 =>
  bP (un Q q .not x3) fun x5 =>
  ifV x5 (
  some ((.int .i64 2), G4)) (
  bP (lda Q q 31 13 x0 G4) fun x6 =>
  bS (e.ev.cl 38 [x6, v1] G4) fun x7 G8 =>
  bS (al Q q 91 z91 G8) fun x9 G10 =>
  bP (st Q q 91 15 x9 x7 G10) fun G11 =>
  bP (lda Q q 91 15 x9 G11) fun x12 =>
  bP (lda Q q 91 15 x9 G11) fun x13 =>
  bP (lda Q q 91 15 x9 G11) fun x14 =>
  bP (lda Q q 91 15 x9 G11) fun x15 =>
  bP (lda Q q 91 15 x9 G11) fun x16 =>
  bP (lda Q q 91 15 x9 G11) fun x17 =>
  bS (bs Q q 118 6 (rep z117 6) 1 [(0, 0, 1), (1, 1, 1), (2, 2, 1), (3, 3, 1), (4, 4, 1), (5, 5, 1)] [(.func (.func 52) #[x12] #[]), (.func (.func 53) #[x13] #[]), (.func (.func 54) #[x14] #[]), (.func (.func 55) #[x15] #[]), (.func (.func 56) #[x16] #[]), (.func (.func 57) #[x17] #[])] G11) fun x18 G19 =>
  bP (ln Q q 118 x18) fun x20 =>
  bLq q e 15 0 (subAt [1, 1, 1, 0, 1, 0, 0] (bodyOf Tryz.f15)) 39 (nth undef [v0, v1]) [(29, (.int .i64 0)), (28, x20), (27, x18), (26, (.func (.func 57) #[x17] #[])), (25, x17), (24, (.func (.func 56) #[x16] #[])), (23, x16), (22, (.func (.func 55) #[x15] #[])), (21, x15), (20, (.func (.func 54) #[x14] #[])), (19, x14), (18, (.func (.func 53) #[x13] #[])), (17, x13), (16, (.func (.func 52) #[x12] #[])), (15, x12), (5, x9), (14, x7), (13, v1), (12, x6), (11, x5), (10, x3), (9, x2), (4, (.int .i64 0)), (2, x0)] [] G19 fun e21 t22 G23 =>
  bV q (t22 4) fun t22x4_ =>
  ifE e21 (.exit 0) (
  some ((.int .i64 0), G23)) (ifE e21 .ret (
  some (t22x4_, G23)) (none)))
theorem f15 (h : ExLe Q e (E orc)) (v0 v1 : Value) (G : GS) : Ref (s15 true e v0 v1 G) ((E orc).cl 15 [v0, v1] G) := cS (S := fun q e => s15 q e v0 v1 G) Tryz.func15 (by unfold s15; exact Ref.gq)
/-- (*coxswain/cells.Mem).Store -/
def s16 (q : Bool) (e : Ex) (v0 v1 v2 : Value) (G : GS) : OG :=
  bS (e.ev.cl 58 [v0, v1] G) fun x0 G1 =>
  bP (bd Q q 122 z122 [(0, 0, 1), (1, 1, 1)] [x0, v2]) fun x2 =>
  bS (al Q q 122 z122 G1) fun x3 G4 =>
  bP (st Q q 122 3 x3 x2 G4) fun G5 =>
  fl q 122 0 0 119 x3 G5 fun x7 =>
  bP (lda Q q 122 3 x3 G5) fun x8 =>
  bS (e.ev.cl 59 [v0, (.int .i64 2), v1, x7, (.func (.func 60) #[x8] #[])] G5) fun x9 G10 =>
  some (.tuple #[], G10)
theorem f16 (h : ExLe Q e (E orc)) (v0 v1 v2 : Value) (G : GS) : Ref (s16 true e v0 v1 v2 G) ((E orc).cl 16 [v0, v1, v2] G) := cS (S := fun q e => s16 q e v0 v1 v2 G) Tryz.func16 (by unfold s16; exact Ref.gq)
/-- coxswain/coxswainlaw20.awake -/
def s17 (q : Bool) (e : Ex) (G : GS) : OG :=
  bS (e.ev.cl 6 [] G) fun x0 G1 =>
  bP (ep Q q true 33 (.tmp 3) (.const (.pointer none)) x0 (.pointer none)) fun x2 =>
  bS (gS x2 true (e.ev.cl 5 [] G1) G1) fun x3 G4 =>
  bS (gV x2 true x0 G4) fun x5 G6 =>
  bS (gS x2 true (e.ev.cl 15 [x3, x5] G6) G6) fun x7 G8 =>
  bS (gP x2 true (bn Q q .eql 38 (.tmp 8) (.const (.int .i64 0)) x7 (.int .i64 0)) G8) fun x9 G10 =>
  bP (pickV x2 x9 (.bool false)) fun x11 =>
  bS (gS x11 true (e.ev.cl 5 [] G10) G10) fun x12 G13 =>
  bS (gV x11 true x0 G13) fun x14 G15 =>
  bS (gS x11 true (e.ev.cl 14 [x12, x14] G15) G15) fun x16 G17 =>
  bS (gP x11 true (bd Q q 49 z49 [(0, 0, 1), (1, 1, 1)] [(.int .i64 1), (.int .i64 2)]) G17) fun x18 G19 =>
  bS (gP x11 true (bn Q q .eql 49 (.tmp 14) (.tmp 15) x16 x18) G19) fun x20 G21 =>
  bP (pickV x11 x20 (.bool false)) fun x22 =>
  bS (gS x22 true (e.ev.cl 5 [] G21) G21) fun x23 G24 =>
  bS (gV x22 true x0 G24) fun x25 G26 =>
  bS (gS x22 true (e.ev.cl 7 [x23, x25, (.int .i64 0)] G26) G26) fun x27 G28 =>
  bS (gP x22 true (bn Q q .eql 3 (.tmp 21) (.const (.int .i64 2)) x27 (.int .i64 2)) G28) fun x29 G30 =>
  bP (pickV x22 x29 (.bool false)) fun x31 =>
  bS (gV x31 true x0 G30) fun x32 G33 =>
  bS (gS x31 true (e.ev.cl 8 [x32, (.int .i64 16), (.int .u64 65537)] G33) G33) fun x34 G35 =>
  bP (pickV x31 x34 (.bool false)) fun x36 =>
  bS (gV x36 true x0 G35) fun x37 G38 =>
  bS (gS x36 true (e.ev.cl 8 [x37, (.int .i64 16), (.int .u64 131073)] G38) G38) fun x39 G40 =>
  bS (gP x36 true (un Q q .not x39) G40) fun x41 G42 =>
  bP (pickV x36 x41 (.bool false)) fun x43 =>
  bS (gS x43 true (e.ev.cl 9 [(.int .i64 16), (.int .u64 3)] G42) G42) fun x44 G45 =>
  bS (gP x43 true (bn Q q .eql 38 (.tmp 34) (.const (.int .i64 9)) x44 (.int .i64 9)) G45) fun x46 G47 =>
  bP (pickV x43 x46 (.bool false)) fun x48 =>
  some (x48, G47)
theorem f17 (h : ExLe Q e (E orc)) (ho : orc 17 = false) (G : GS) : Ref (s17 true e  G) ((E orc).cl 17 [] G) := cS (S := fun q e => s17 q e  G) (ho := ho) Tryz.func17 (by unfold s17; exact Ref.gq)
/-- coxswain/cells.New -/
def s20 (q : Bool) (e : Ex) (v0 : Value) (G : GS) : OG :=
  bP (bn Q q .lss 3 (.tmp 4) (.const (.int .i64 1)) v0 (.int .i64 1)) fun x0 =>
  bS (gV x0 false v0 G) fun x1 G2 =>
  bS (gP x0 false (bn Q q .gtr 3 (.tmp 7) (.const (.int .i64 4096)) x1 (.int .i64 4096)) G2) fun x3 G4 =>
  bP (pickV x0 (.bool true) x3) fun x5 =>
  ifV x5 (
  some (.tuple #[(.pointer none), (.int .i64 3)], G4)) (
  bS (al Q q 135 z135 G4) fun x6 G7 =>
  bP (bd Q q 137 z137 [(0, 0, 1), (1, 1, 1)] [x6, v0]) fun x8 =>
  bS (bx q x8 G7) fun x9 G10 =>
  some (.tuple #[x9, (.int .i64 0)], G10))
theorem f20 (h : ExLe Q e (E orc)) (v0 : Value) (G : GS) : Ref (s20 true e v0 G) ((E orc).cl 20 [v0] G) := cS (S := fun q e => s20 q e v0 G) Tryz.func20 (by unfold s20; exact Ref.gq)
def b22_0 (q : Bool) (e : Ex) (lp : LpF) (τ : Env) (G : GS) : OL :=
  bV q (τ 1) fun a1_ =>
  bV q (τ 2) fun a2_ =>
  bV q (τ 13) fun a13_ =>
  bV q (τ 14) fun a14_ =>
  bP (bn Q q .lss 3 (.tmp 14) (.tmp 13) a14_ a13_) fun x0 =>
  ifV x0 (
  bP (fa Q q 31 1 1 a2_) fun x1 =>
  bP (ld Q q 3 x1 G) fun x2 =>
  bP (bn Q q .add 3 (.tmp 19) (.tmp 20) x2 a14_) fun x3 =>
  bS (e.ev.cl 16 [a1_, x3, (.int .u64 0)] G) fun x4 G5 =>
  bP (bn Q q .add 3 (.tmp 14) (.const (.int .i64 1)) a14_ (.int .i64 1)) fun x6 =>
  lp (xq q 24 τ [(14, x6), (23, x6), (22, x4), (21, x3), (20, a14_), (19, x2), (18, x1), (17, a1_), (4, a14_), (16, a14_), (15, x0)] [(1, a1_), (2, a2_), (13, a13_)]) G5) (
  some ((.exit 0), xq q 24 τ [(15, x0)] [(1, a1_), (2, a2_), (13, a13_), (14, a14_)], G))
theorem l22_0 (h : ExLe Q e (E orc)) : LT orc 24 (subAt [1, 1, 1, 1, 0, 0] (bodyOf Tryz.f22)) (b22_0 true e) := cL fun hlp τ G => by unfold b22_0; exact Ref.gq
/-- coxswain/tower.Fill -/
def s22 (q : Bool) (e : Ex) (v0 v1 : Value) (G : GS) : OG :=
  bS (bx q v0 G) fun x0 G1 =>
  bP (lda Q q 31 13 x0 G1) fun x2 =>
  bS (e.ev.cl 70 [x2] G1) fun x3 G4 =>
  bP (un Q q .not x3) fun x5 =>
  ifV x5 (
  some (.tuple #[], G4)) (
  bP (fa Q q 31 3 3 x0) fun x6 =>
  bP (lda Q q 29 10 x6 G4) fun x7 =>
  bS (e.ev.cl 71 [x7, v1] G4) fun x8 G9 =>
  bP (fa Q q 31 2 2 x0) fun x10 =>
  bP (ld Q q 3 x10 G9) fun x11 =>
  bLq q e 22 0 (subAt [1, 1, 1, 1, 0, 0] (bodyOf Tryz.f22)) 24 (nth undef [v0, v1]) [(14, (.int .i64 0)), (13, x11), (12, x10), (11, x8), (10, v1), (9, x7), (8, x6), (7, x5), (6, x3), (5, x2), (2, x0)] [] G9 fun e12 t13 G14 =>
  ifE e12 (.exit 0) (
  some (.tuple #[], G14)) (none))
theorem f22 (h : ExLe Q e (E orc)) (v0 v1 : Value) (G : GS) : Ref (s22 true e v0 v1 G) ((E orc).cl 22 [v0, v1] G) := cS (S := fun q e => s22 q e v0 v1 G) Tryz.func22 (by unfold s22; exact Ref.gq)
def b34_0 (q : Bool) (e : Ex) (lp : LpF) (τ : Env) (G : GS) : OL :=
  bV q (τ 3) fun a3_ =>
  bV q (τ 29) fun a29_ =>
  bV q (τ 30) fun a30_ =>
  bV q (τ 31) fun a31_ =>
  bP (bn Q q .lss 3 (.tmp 31) (.tmp 30) a31_ a30_) fun x0 =>
  ifV x0 (
  bP (ias Q q 169 1 a29_ a31_) fun x1 =>
  bP (ld Q q 133 x1 G) fun x2 =>
  bP (ias Q q 54 1 a3_ a31_) fun x3 =>
  bP (st Q q 37 1 x3 x2 G) fun G4 =>
  bP (bn Q q .add 3 (.tmp 31) (.const (.int .i64 1)) a31_ (.int .i64 1)) fun x5 =>
  lp (xq q 42 τ [(31, x5), (40, x5), (39, x3), (38, x2), (37, a31_), (36, a3_), (5, x2), (4, a31_), (35, x2), (34, x1), (33, a31_), (32, x0)] [(3, a3_), (29, a29_), (30, a30_)]) G4) (
  some ((.exit 0), xq q 42 τ [(32, x0)] [(3, a3_), (29, a29_), (30, a30_), (31, a31_)], G))
theorem l34_0 (h : ExLe Q e (E orc)) : LT orc 42 (subAt [1, 1, 1, 0, 1, 0, 0] (bodyOf Tryz.f34)) (b34_0 true e) := cL fun hlp τ G => by unfold b34_0; exact Ref.gq
/-- (*coxswain/cells.Mem).Words -/
def s34 (q : Bool) (e : Ex) (v0 : Value) (G : GS) : OG :=
  bP (ep Q q false 33 (.tmp 6) (.const (.pointer none)) v0 (.pointer none)) fun x0 =>
  bS (gV x0 false v0 G) fun x1 G2 =>
  bS (gP x0 false (pNil x1) G2) fun x3 G4 =>
  bS (gP x0 false (fa Q q 137 0 0 x3) G4) fun x5 G6 =>
  bS (gP x0 false (ld Q q 132 x5 G6) G6) fun x7 G8 =>
  bS (gP x0 false (ep Q q false 132 (.tmp 12) (.const (.pointer none)) x7 (.pointer none)) G8) fun x9 G10 =>
  bP (pickV x0 (.bool true) x9) fun x11 =>
  ifV x11 (
  some ((.slice none 0 0), G10)) (
  bP (pNil v0) fun x12 =>
  bP (fa Q q 137 1 1 x12) fun x13 =>
  bP (ld Q q 3 x13 G10) fun x14 =>
  bS (mk Q q 54 1 8 z37 x14 x14 G10) fun x15 G16 =>
  bP (pNil v0) fun x17 =>
  bP (fa Q q 137 0 0 x17) fun x18 =>
  bP (ld Q q 132 x18 (G16.room 12)) fun x19 =>
  bP (pNil x19) fun x20 =>
  bP (pNil v0) fun x21 =>
  bP (fa Q q 137 1 1 x21) fun x22 =>
  bP (ld Q q 3 x22 (G16.room 12)) fun x23 =>
  bP (sla Q q 135 4096 1 x20 none (some x23) none (G16.room 12)) fun x24 =>
  bP (ln Q q 169 x24) fun x25 =>
  bLq q e 34 0 (subAt [1, 1, 1, 0, 1, 0, 0] (bodyOf Tryz.f34)) 42 (nth undef [v0]) [(31, (.int .i64 0)), (30, x25), (29, x24), (28, x23), (27, x22), (26, x21), (25, v0), (24, x20), (23, x19), (22, x18), (21, x17), (20, v0), (3, x15), (19, x15), (18, x14), (17, x13), (16, x12), (15, v0), (14, x11), (13, x9), (12, x7), (11, x5), (10, x3), (9, x1), (8, x0), (7, x0), (6, v0), (2, (.slice none 0 0))] [] (G16.room 12) fun e26 t27 G28 =>
  bV q (t27 3) fun t27x3_ =>
  ifE e26 (.exit 0) (
  some (t27x3_, G28)) (none))
theorem f34 (h : ExLe Q e (E orc)) (v0 : Value) (G : GS) : Ref (s34 true e v0 G) ((E orc).cl 34 [v0] G) := cS (S := fun q e => s34 q e v0 G) Tryz.func34 (by unfold s34; exact Ref.gq)
def b36_0 (q : Bool) (e : Ex) (lp : LpF) (τ : Env) (G : GS) : OL :=
  bV q (τ 0) fun a0_ =>
  bV q (τ 7) fun a7_ =>
  bV q (τ 8) fun a8_ =>
  bP (bn Q q .lss 3 (.tmp 13) (.const (.int .i64 200)) a8_ (.int .i64 200)) fun x0 =>
  bS (gV x0 true a7_ G) fun x1 G2 =>
  bS (gV x0 true a0_ G2) fun x3 G4 =>
  bS (gS x0 true (e.ev.cl 81 [x1, x3] G4) G4) fun x5 G6 =>
  bS (gP x0 true (un Q q .not x5) G6) fun x7 G8 =>
  bP (pickV x0 x7 (.bool false)) fun x9 =>
  ifV x9 (
  bS (e.ev.cl 88 [a7_] G8) fun x10 G11 =>
  bP (bn Q q .neq 38 (.tmp 24) (.const (.int .i64 14)) x10 (.int .i64 14)) fun x12 =>
  ifV x12 (
  some (.ret, xq q 29 τ [(6, (.bool false)), (25, x12), (24, x10), (23, a7_), (20, x9), (19, x7), (18, x5), (17, x3), (16, x1), (15, x0), (14, x0), (13, a8_)] [(0, a0_), (7, a7_), (8, a8_)], G11)) (
  bP (bn Q q .add 3 (.tmp 21) (.const (.int .i64 1)) a8_ (.int .i64 1)) fun x13 =>
  lp (xq q 29 τ [(8, x13), (22, x13), (21, a8_), (25, x12), (24, x10), (23, a7_), (20, x9), (19, x7), (18, x5), (17, x3), (16, x1), (15, x0), (14, x0), (13, a8_)] [(0, a0_), (7, a7_)]) G11)) (
  some ((.exit 0), xq q 29 τ [(20, x9), (19, x7), (18, x5), (17, x3), (16, x1), (15, x0), (14, x0), (13, a8_)] [(0, a0_), (7, a7_), (8, a8_)], G8))
theorem l36_0 (h : ExLe Q e (E orc)) : LT orc 29 (subAt [1, 1, 0, 1, 0, 0] (bodyOf Tryz.f36)) (b36_0 true e) := cL fun hlp τ G => by unfold b36_0; exact Ref.gq
/-- coxswain/coxswainlaw20.puts -/
def s36 (q : Bool) (e : Ex) (v0 v1 v2 : Value) (G : GS) : OG :=
  bS (e.ev.cl 5 [] G) fun x0 G1 =>
  bS (e.ev.cl 74 [x0, (.int .i64 0), v1, v2, (.int .i64 1)] G1) fun x2 G3 =>
  bLq q e 36 0 (subAt [1, 1, 0, 1, 0, 0] (bodyOf Tryz.f36)) 29 (nth undef [v0, v1, v2]) [(8, (.int .i64 0)), (7, x2), (12, x2), (11, v2), (10, v1), (9, x0), (6, (.bool false))] [] G3 fun e4 t5 G6 =>
  bV q (t5 6) fun t5x6_ =>
  bV q (t5 7) fun t5x7_ =>
  ifE e4 (.exit 0) (
  bS (e.ev.cl 88 [t5x7_] G6) fun x7 G8 =>
  bP (bn Q q .eql 38 (.tmp 27) (.const (.int .i64 0)) x7 (.int .i64 0)) fun x9 =>
  some (x9, G8)) (ifE e4 .ret (
  some (t5x6_, G6)) (none))
theorem f36 (h : ExLe Q e (E orc)) (v0 v1 v2 : Value) (G : GS) : Ref (s36 true e v0 v1 v2 G) ((E orc).cl 36 [v0, v1, v2] G) := cS (S := fun q e => s36 q e v0 v1 v2 G) Tryz.func36 (by unfold s36; exact Ref.gq)
/-- coxswain/audit.sound -/
def s37 (q : Bool) (e : Ex) (v0 : Value) (G : GS) : OG :=
  bS (bx q v0 G) fun x0 G1 =>
  bP (lda Q q 31 13 x0 G1) fun x2 =>
  bS (e.ev.cl 99 [x2, (.int .i64 (-1)), (.int .i64 0)] G1) fun x3 G4 =>
  bP (bn Q q .geq 3 (.tmp 4) (.const (.int .i64 0)) x3 (.int .i64 0)) fun x5 =>
  some (x5, G4)
theorem f37 (h : ExLe Q e (E orc)) (v0 : Value) (G : GS) : Ref (s37 true e v0 G) ((E orc).cl 37 [v0] G) := cS (S := fun q e => s37 q e v0 G) Tryz.func37 (by unfold s37; exact Ref.gq)
/-- coxswain/audit.of -/
def s38 (q : Bool) (e : Ex) (v0 v1 : Value) (G : GS) : OG :=
  bS (bx q v0 G) fun x0 G1 =>
  bS (al Q q 91 z91 G1) fun x2 G3 =>
  bP (lda Q q 31 13 x0 (G3.room 6)) fun x4 =>
  bS (e.ev.cl 34 [v1] (G3.room 6)) fun x6 G5 =>
  chk ((sameO (lda Q q 31 13 x0 G5) x4 && true)) <|
  bP (bd Q q 91 z91 [(0, 0, 13), (1, 13, 1), (2, 14, 1)] [x4, v1, x6]) fun x7 =>
  bP (st Q q 91 15 x2 x7 G5) fun G8 =>
  bP (lda Q q 91 15 x2 G8) fun x9 =>
  some (x9, G8)
theorem f38 (h : ExLe Q e (E orc)) (v0 v1 : Value) (G : GS) : Ref (s38 true e v0 v1 G) ((E orc).cl 38 [v0, v1] G) := cS (S := fun q e => s38 q e v0 v1 G) Tryz.func38 (by unfold s38; exact Ref.gq)
/-- (coxswain/audit.whole).places -/
def s39 (q : Bool) (e : Ex) (v0 : Value) (G : GS) : OG :=
  bS (bx q v0 G) fun x0 G1 =>
  some ((.func (.func 100) #[] #[x0]), G1)
theorem f39 (h : ExLe Q e (E orc)) (v0 : Value) (G : GS) : Ref (s39 true e v0 G) ((E orc).cl 39 [v0] G) := cS (S := fun q e => s39 q e v0 G) Tryz.func39 (by unfold s39; exact Ref.gq)
/-- coxswain/audit.Held -/
def s40 (q : Bool) (e : Ex) (v0 v1 v2 v3 : Value) (G : GS) : OG :=
  bS (bx q v0 G) fun x0 G1 =>
  bS (bx q v2 G1) fun x2 G3 =>
  bP (lda Q q 31 13 x0 G3) fun x4 =>
  fl q 80 1 1 3 x2 G3 fun x6 =>
  bS (e.ev.cl 103 [x4, x6] G3) fun x7 G8 =>
  bP (pExtract x7 0) fun x9 =>
  bP (pExtract x7 1) fun x10 =>
  bP (pExtract x7 2) fun x11 =>
  bP (un Q q .not x11) fun x12 =>
  bS (gV x12 false x9 G8) fun x13 G14 =>
  bS (gP x12 false (bn Q q .lss 3 (.tmp 23) (.const (.int .i64 0)) x13 (.int .i64 0)) G14) fun x15 G16 =>
  bP (pickV x12 (.bool true) x15) fun x17 =>
  bS (gP x17 false (lda Q q 31 13 x0 G16) G16) fun x18 G19 =>
  bS (gV x17 false v1 G19) fun x20 G21 =>
  bS (gS x17 false (e.ev.cl 38 [x18, x20] G21) G21) fun x22 G23 =>
  bS (gV x17 false v3 G23) fun x24 G25 =>
  bS (gV x17 false x9 G25) fun x26 G27 =>
  bS (gS x17 false (e.ev.cl 104 [x22, x24, x26] G27) G27) fun x28 G29 =>
  bP (pickV x17 (.bool true) x28) fun x30 =>
  some (x30, G29)
theorem f40 (h : ExLe Q e (E orc)) (v0 v1 v2 v3 : Value) (G : GS) : Ref (s40 true e v0 v1 v2 v3 G) ((E orc).cl 40 [v0, v1, v2, v3] G) := cS (S := fun q e => s40 q e v0 v1 v2 v3 G) Tryz.func40 (by unfold s40; exact Ref.gq)
/-- coxswain/ready.begun -/
def s41 (q : Bool) (e : Ex) (v0 v1 : Value) (G : GS) : OG :=
  bS (bx q v0 G) fun x0 G1 =>
  bS (al Q q 97 z97 G1) fun x2 G3 =>
  bP (lda Q q 31 13 x0 G3) fun x4 =>
  bP (bd Q q 97 z97 [(0, 0, 13), (1, 13, 1), (2, 14, 1)] [x4, v1, (.bool true)]) fun x5 =>
  bS (al Q q 97 z97 G3) fun x6 G7 =>
  bP (st Q q 97 19 x6 x5 G7) fun G8 =>
  bP (lda Q q 31 13 x0 G8) fun x9 =>
  bS (e.ev.cl 105 [x9, (.int .i64 0), (.int .i64 0)] G8) fun x10 G11 =>
  bP (bn Q q .lss 3 (.tmp 11) (.const (.int .i64 0)) x10 (.int .i64 0)) fun x12 =>
  ifV x12 (
  bP (fa Q q 97 6 18 x6) fun x13 =>
  bP (st Q q 38 1 x13 (.int .i64 2) G11) fun G14 =>
  bP (lda Q q 97 19 x6 G14) fun x15 =>
  bP (st Q q 97 19 x2 x15 G14) fun G16 =>
  bP (lda Q q 97 19 x2 G16) fun x17 =>
  some (x17, G16)) (
  bP (bn Q q .lss 3 (.tmp 15) (.const (.int .i64 0)) v1 (.int .i64 0)) fun x18 =>
  bS (gV x18 false v1 G11) fun x19 G20 =>
  bS (gP x18 false (fa Q q 31 3 3 x0) G20) fun x21 G22 =>
  bS (gP x18 false (fa Q q 29 1 6 x21) G22) fun x23 G24 =>
  bS (gP x18 false (fa Q q 27 2 2 x23) G24) fun x25 G26 =>
  bS (gP x18 false (ld Q q 3 x25 G26) G26) fun x27 G28 =>
  bS (gP x18 false (bn Q q .geq 3 (.tmp 18) (.tmp 22) x19 x27) G28) fun x29 G30 =>
  bP (pickV x18 (.bool true) x29) fun x31 =>
  ifV x31 (
  bP (fa Q q 97 6 18 x6) fun x32 =>
  bP (st Q q 38 1 x32 (.int .i64 3) G30) fun G33 =>
  bP (lda Q q 97 19 x6 G33) fun x34 =>
  bP (st Q q 97 19 x2 x34 G33) fun G35 =>
  bP (lda Q q 97 19 x2 G35) fun x36 =>
  some (x36, G35)) (
  bP (lda Q q 97 19 x6 G30) fun x37 =>
  bP (st Q q 97 19 x2 x37 G30) fun G38 =>
  bP (lda Q q 97 19 x2 G38) fun x39 =>
  some (x39, G38)))
theorem f41 (h : ExLe Q e (E orc)) (v0 v1 : Value) (G : GS) : Ref (s41 true e v0 v1 G) ((E orc).cl 41 [v0, v1] G) := cS (S := fun q e => s41 q e v0 v1 G) Tryz.func41 (by unfold s41; exact Ref.gq)
/-- (*coxswain/ready.work).pin -/
def s42 (q : Bool) (e : Ex) (v0 : Value) (G : GS) : OG :=
  bS (bx q v0 G) fun x0 G1 =>
  bP (bd Q q 185 z185 [(0, 0, 1), (2, 2, 1)] [(.func (.func 106) #[] #[x0]), (.func (.func 108) #[] #[x0])]) fun x2 =>
  bS (bx q x2 G1) fun x3 G4 =>
  bP (ifc Q q 178 x3) fun x5 =>
  some (x5, G4)
theorem f42 (h : ExLe Q e (E orc)) (v0 : Value) (G : GS) : Ref (s42 true e v0 G) ((E orc).cl 42 [v0] G) := cS (S := fun q e => s42 q e v0 G) Tryz.func42 (by unfold s42; exact Ref.gq)
/-- coxswain/ready.NewPick$1 -/
def s43 (q : Bool) (e : Ex) (v0 : Value) (G : GS) : OG :=
  bP (lda Q q 31 13 v0 G) fun x0 =>
  bS (e.ev.cl 44 [x0] G) fun x1 G2 =>
  some (x1, G2)
theorem f43 (h : ExLe Q e (E orc)) (v0 : Value) (G : GS) : Ref (s43 true e v0 G) ((E orc).cl 43 [v0] G) := cS (S := fun q e => s43 q e v0 G) Tryz.func43 (by unfold s43; exact Ref.gq)
/-- coxswain/claim.NewClaim -/
def s44 (q : Bool) (e : Ex) (v0 : Value) (G : GS) : OG :=
  bS (bx q v0 G) fun x0 G1 =>
  bP (lda Q q 31 13 x0 G1) fun x2 =>
  bS (e.ev.cl 110 [x2] G1) fun x3 G4 =>
  bP (bd Q q 195 z195 [(0, 0, 26)] [x3]) fun x5 =>
  bS (bx q x5 G4) fun x6 G7 =>
  some (x6, G7)
theorem f44 (h : ExLe Q e (E orc)) (v0 : Value) (G : GS) : Ref (s44 true e v0 G) ((E orc).cl 44 [v0] G) := cS (S := fun q e => s44 q e v0 G) Tryz.func44 (by unfold s44; exact Ref.gq)
/-- (*coxswain/claim.Claim).By -/
def s45 (q : Bool) (e : Ex) (v0 : Value) (G : GS) : OG :=
  bP (ep Q q false 107 (.tmp 3) (.const (.pointer none)) v0 (.pointer none)) fun x0 =>
  ifV x0 (
  some ((.int .u64 0), G)) (
  nf q 195 0 0 v0 fun x2 =>
  fl q 192 7 23 37 x2 G fun x4 =>
  some (x4, G))
theorem f45 (h : ExLe Q e (E orc)) (v0 : Value) (G : GS) : Ref (s45 true e v0 G) ((E orc).cl 45 [v0] G) := cS (S := fun q e => s45 q e v0 G) Tryz.func45 (by unfold s45; exact Ref.gq)
/-- coxswain/ready.NewPick$2 -/
def s46 (q : Bool) (e : Ex) (v0 v1 : Value) (G : GS) : OG :=
  bP (ld Q q 40 v1 (G.room 15)) fun x0 =>
  bP (ld Q q 40 v1 (G.room 15)) fun x1 =>
  bS (e.ev.cl 47 [v0] (G.room 15)) fun x3 G2 =>
  chk ((sameO (ld Q q 40 v1 G2) x1 && (sameO (ld Q q 40 v1 G2) x0 && true))) <|
  bP (pExtract x3 0) fun x4 =>
  bP (pExtract x3 1) fun x5 =>
  nf q 102 1 19 x0 fun x7 =>
  bP (fa Q q 100 0 0 x7) fun x8 =>
  bP (st Q q 45 2 x8 x4 G2) fun G9 =>
  chk ((sameO (ld Q q 40 v1 G9) x1 && true)) <|
  nf q 102 1 19 x1 fun x11 =>
  bP (fa Q q 100 1 2 x11) fun x12 =>
  bP (st Q q 38 1 x12 x5 G9) fun G13 =>
  some (.tuple #[], G13)
theorem f46 (h : ExLe Q e (E orc)) (v0 v1 : Value) (G : GS) : Ref (s46 true e v0 v1 G) ((E orc).cl 46 [v0, v1] G) := cS (S := fun q e => s46 q e v0 v1 G) Tryz.func46 (by unfold s46; exact Ref.gq)
/-- (*coxswain/claim.Claim).Item -/
def s47 (q : Bool) (e : Ex) (v0 : Value) (G : GS) : OG :=
  bS (al Q q 45 z45 G) fun x0 G1 =>
  bP (ep Q q false 107 (.tmp 4) (.const (.pointer none)) v0 (.pointer none)) fun x2 =>
  ifV x2 (
  bP (bd Q q 45 z45 [] []) fun x3 =>
  bP (st Q q 45 2 x0 x3 G1) fun G4 =>
  bP (lda Q q 45 2 x0 G4) fun x5 =>
  some (.tuple #[x5, (.int .i64 1)], G4)) (
  nf q 195 0 0 v0 fun x7 =>
  bS (e.ev.cl 111 [x7] G1) fun x8 G9 =>
  bP (pExtract x8 0) fun x10 =>
  bP (pExtract x8 1) fun x11 =>
  bP (st Q q 45 2 x0 x10 G9) fun G12 =>
  bP (lda Q q 45 2 x0 G12) fun x13 =>
  some (.tuple #[x13, x11], G12))
theorem f47 (h : ExLe Q e (E orc)) (v0 : Value) (G : GS) : Ref (s47 true e v0 G) ((E orc).cl 47 [v0] G) := cS (S := fun q e => s47 q e v0 G) Tryz.func47 (by unfold s47; exact Ref.gq)
/-- (*coxswain/ready.work).unpin -/
def s48 (q : Bool) (e : Ex) (v0 : Value) (G : GS) : OG :=
  bS (bx q v0 G) fun x0 G1 =>
  bP (bd Q q 203 z203 [(0, 0, 1)] [(.func (.func 112) #[] #[x0])]) fun x2 =>
  bS (bx q x2 G1) fun x3 G4 =>
  bP (ifc Q q 196 x3) fun x5 =>
  some (x5, G4)
theorem f48 (h : ExLe Q e (E orc)) (v0 : Value) (G : GS) : Ref (s48 true e v0 G) ((E orc).cl 48 [v0] G) := cS (S := fun q e => s48 q e v0 G) Tryz.func48 (by unfold s48; exact Ref.gq)
def jb49_0 (q : Bool) (e : Ex) (τ : Env) (G : GS) : OG :=
  bV q (τ 0) fun a0_ =>
  nl q 97 4 16 95 a0_ G fun x26 =>
  bP (ln Q q 95 x26) fun x27 =>
  bP (bn Q q .eql 3 (.tmp 54) (.const (.int .i64 0)) x27 (.int .i64 0)) fun x28 =>
  some (x28, G)
def j49_0 (q : Bool) (e : Ex) (τ : Env) (G : GS) : OG := jb49_0 q e τ G
theorem mj49_0 {e : Ex} {E : Ev} (h : ExLe Q e E) (τ : Env) (G : GS) : Ref (j49_0 true e τ G) (j49_0 false (Ex.of E) τ G) := by
  unfold j49_0 jb49_0
  exact Ref.gq
theorem mkj49_0 {e : Ex} {E : Ev} (h : ExLe Q e E) {τ : Env} {l U : List (Nat × Value)} {G : GS} (hU : UOk τ U) : Ref (j49_0 true e (xq true 56 τ l U) G) (j49_0 false (Ex.of E) (xq false 56 τ l U) G) := by
  rw [xq_eq hU]
  exact mj49_0 h _ _
def sb49 (q : Bool) (e : Ex) (J0 : Env → GS → OG) (v0 v1 : Value) (G : GS) : OG :=
  bP (pNil v0) fun x0 =>
  bP (fa Q q 97 4 16 x0) fun x1 =>
  bP (ld Q q 95 x1 G) fun x2 =>
  bP (ln Q q 95 x2) fun x3 =>
  bP (bn Q q .eql 3 (.tmp 12) (.const (.int .i64 0)) x3 (.int .i64 0)) fun x4 =>
  ifV x4 (
  some ((.bool true), G)) (
  bP (pNil v0) fun x5 =>
  bP (fa Q q 97 4 16 x5) fun x6 =>
  bP (ld Q q 95 x6 G) fun x7 =>
  bP (ias Q q 95 1 x7 (.int .i64 0)) fun x8 =>
  bP (ld Q q 104 x8 G) fun x9 =>
  bP (pNil v0) fun x10 =>
  bP (fa Q q 97 4 16 x10) fun x11 =>
  bP (ld Q q 95 x11 G) fun x12 =>
  bP (sl Q q 95 1 x12 (some (.int .i64 1)) none none G) fun x13 =>
  bP (pNil v0) fun x14 =>
  bP (fa Q q 97 4 16 x14) fun x15 =>
  bP (st Q q 95 1 x15 x13 G) fun G16 =>
  bS (cInvoke Q e.ev x9 "coxswain/ready.run" [v1] G16) fun x17 G18 =>
  bP (pExtract x17 0) fun x19 =>
  bP (pExtract x17 1) fun x20 =>
  bP (pNil v0) fun x21 =>
  bP (fa Q q 97 5 17 x21) fun x22 =>
  bP (st Q q 37 1 x22 x20 G18) fun G23 =>
  bP (un Q q .not x19) fun x29 =>
  ifV x29 (
  bS (bs Q q 95 1 (rep z104 1) 1 [(0, 0, 1)] [x9] G23) fun x30 G31 =>
  bP (pNil v0) fun x32 =>
  bP (fa Q q 97 4 16 x32) fun x33 =>
  bP (ld Q q 95 x33 G31) fun x34 =>
  bS (ap Q q 95 95 1 16 x30 x34 G31) fun x35 G36 =>
  bP (pNil v0) fun x37 =>
  bP (fa Q q 97 4 16 x37) fun x38 =>
  bP (st Q q 95 1 x38 x35 G36) fun G39 =>
  J0 (xq q 56 (nth undef [v0, v1]) [(49, x38), (48, x37), (47, x35), (46, x34), (45, x33), (44, x32), (43, v0), (42, x30), (41, x9), (40, v0), (39, x29), (38, x19), (37, x22), (36, x21), (35, x20), (34, v0), (7, x20), (6, x19), (33, x20), (32, x19), (28, x17), (31, x17), (30, v1), (29, x9), (27, x15), (26, x14), (25, x13), (24, x12), (23, x11), (22, x10), (21, v0), (20, v0), (5, x9), (19, x9), (18, x8), (17, x7), (16, x6), (15, x5), (14, v0), (13, x4), (12, x3), (11, x2), (10, x1), (9, x0), (8, v0), (4, (.bool false))] []) G39) (
  J0 (xq q 56 (nth undef [v0, v1]) [(39, x29), (38, x19), (37, x22), (36, x21), (35, x20), (34, v0), (7, x20), (6, x19), (33, x20), (32, x19), (28, x17), (31, x17), (30, v1), (29, x9), (27, x15), (26, x14), (25, x13), (24, x12), (23, x11), (22, x10), (21, v0), (20, v0), (5, x9), (19, x9), (18, x8), (17, x7), (16, x6), (15, x5), (14, v0), (13, x4), (12, x3), (11, x2), (10, x1), (9, x0), (8, v0), (4, (.bool false))] []) G23))
/-- (*coxswain/ready.work).step -/
def s49 (q : Bool) (e : Ex) (v0 v1 : Value) (G : GS) : OG := sb49 q e (j49_0 q e) v0 v1 G
theorem m49 {e : Ex} {E : Ev} (h : ExLe Q e E) (v0 v1 : Value) (G : GS) : Ref (s49 true e v0 v1 G) (s49 false (Ex.of E) v0 v1 G) := by
  unfold s49 sb49
  have j0 := @mkj49_0 e E h
  exact Ref.gj
def jt49 (J0 : Env → GS → OG) : JT (Value × GS) :=
  (.n none .e (.n none .e (.n none .e (.n none .e (.n none .e (.n none .e (.n (some (fun T G => J0 (nth undef T) G)) .e .e)))))))
theorem jr49_0 (orc : FuncId → Bool) (J0 : Env → GS → OG) (T : List Value) (G : GS) : runC Q (evL Q orc) Tryz.f49.ntmps (jt49 J0) (bodyOf Tryz.f49) (retE Q Tryz.f49.results.toList) [true, true, true, true, true, true] (nth undef T) G = jb49_0 false (Ex.of (E orc))  (nth undef T) G := by kernel_rfl
theorem jo49 (orc : FuncId → Bool) : JOk Q orc Tryz.f49.ntmps (jt49 (j49_0 false (Ex.of (E orc))) ) (bodyOf Tryz.f49) (retE Q Tryz.f49.results.toList) :=
  jOk Q orc (l := [([true, true, true, true, true, true], (fun T G => j49_0 false (Ex.of (E orc)) (nth undef T) G))]) (by kernel_rfl) (AllE.c (fun T G => jr49_0 orc (j49_0 false (Ex.of (E orc))) T G) (AllE.z))
theorem je49 (orc : FuncId → Bool) (J0 : Env → GS → OG) (v0 v1 : Value) (G : GS) : sxC Q (evL Q orc) Tryz.f49.ntmps (jt49 J0) (bodyOf Tryz.f49) (nth undef [v0, v1]) G (retE Q Tryz.f49.results.toList) = sb49 false (Ex.of (E orc)) J0 v0 v1 G := by kernel_rfl
theorem f49 {orc : FuncId → Bool} {e : Ex} (h : ExLe Q e (E orc)) (v0 v1 : Value) (G : GS) : Ref (s49 true e v0 v1 G) ((E orc).cl 49 [v0, v1] G) :=
  fun r hr => cl_sxC Q orc (vs := [v0, v1]) G (jt49 (j49_0 false (Ex.of (E orc))) ) Tryz.func49 (by kernel_rfl) (by kernel_rfl) (by kernel_rfl) (by kernel_rfl) (by kernel_rfl) (jo49 orc) (je49 orc (j49_0 false (Ex.of (E orc))) v0 v1 G) (m49 h v0 v1 G r hr)
/-- (coxswain/ready.seen).told -/
def s50 (q : Bool) (e : Ex) (v0 v1 : Value) (G : GS) : OG :=
  bS (bx q v0 G) fun x0 G1 =>
  bS (al Q q 45 z45 G1) fun x2 G3 =>
  bS (e.ev.cl 114 [v1] G3) fun x4 G5 =>
  bP (bn Q q .neq 38 (.tmp 9) (.const (.int .i64 0)) x4 (.int .i64 0)) fun x6 =>
  ifV x6 (
  bP (bd Q q 45 z45 [] []) fun x7 =>
  bP (st Q q 45 2 x2 x7 G5) fun G8 =>
  bP (lda Q q 45 2 x2 G8) fun x9 =>
  some (.tuple #[x9, x4], G8)) (
  bP (fa Q q 100 0 0 x0) fun x10 =>
  bP (lda Q q 45 2 x10 (G5.room 6)) fun x11 =>
  bP (fa Q q 100 1 2 x0) fun x12 =>
  bP (ld Q q 38 x12 (G5.room 6)) fun x13 =>
  bP (st Q q 45 2 x2 x11 (G5.room 6)) fun G14 =>
  chk ((sameO (ld Q q 38 x12 G14) x13 && true)) <|
  bP (lda Q q 45 2 x2 G14) fun x15 =>
  some (.tuple #[x15, x13], G14))
theorem f50 (h : ExLe Q e (E orc)) (v0 v1 : Value) (G : GS) : Ref (s50 true e v0 v1 G) ((E orc).cl 50 [v0, v1] G) := cS (S := fun q e => s50 q e v0 v1 G) Tryz.func50 (by unfold s50; exact Ref.gq)
/-- (coxswain/audit.whole).at -/
def s51 (q : Bool) (e : Ex) (v0 v1 : Value) (G : GS) : OG :=
  bS (bx q v0 G) fun x0 G1 =>
  bP (bn Q q .lss 3 (.tmp 5) (.const (.int .i64 0)) v1 (.int .i64 0)) fun x2 =>
  bS (gV x2 false v1 G1) fun x3 G4 =>
  bS (gP x2 false (fa Q q 91 2 14 x0) G4) fun x5 G6 =>
  bS (gP x2 false (ld Q q 54 x5 G6) G6) fun x7 G8 =>
  bS (gP x2 false (ln Q q 54 x7) G8) fun x9 G10 =>
  bS (gP x2 false (bn Q q .geq 3 (.tmp 8) (.tmp 11) x3 x9) G10) fun x11 G12 =>
  bP (pickV x2 (.bool true) x11) fun x13 =>
  ifV x13 (
  some ((.int .u64 0), G12)) (
  fl q 91 2 14 54 x0 G12 fun x15 =>
  bP (ias Q q 54 1 x15 v1) fun x16 =>
  bP (ld Q q 37 x16 G12) fun x17 =>
  some (x17, G12))
theorem f51 (h : ExLe Q e (E orc)) (v0 v1 : Value) (G : GS) : Ref (s51 true e v0 v1 G) ((E orc).cl 51 [v0, v1] G) := cS (S := fun q e => s51 q e v0 v1 G) Tryz.func51 (by unfold s51; exact Ref.gq)
/-- (coxswain/audit.whole).linked -/
def s52 (q : Bool) (e : Ex) (v0 : Value) (G : GS) : OG :=
  bS (bx q v0 G) fun x0 G1 =>
  bP (lda Q q 91 15 x0 G1) fun x2 =>
  bS (e.ev.cl 115 [x2, (.int .i64 0), (.func (.func 116) #[] #[x0])] G1) fun x3 G4 =>
  bP (un Q q .not x3) fun x5 =>
  ifV x5 (
  some ((.int .i64 5), G4)) (
  some ((.int .i64 0), G4))
theorem f52 (h : ExLe Q e (E orc)) (v0 : Value) (G : GS) : Ref (s52 true e v0 G) ((E orc).cl 52 [v0] G) := cS (S := fun q e => s52 q e v0 G) Tryz.func52 (by unfold s52; exact Ref.gq)
/-- (coxswain/audit.whole).rises -/
def s53 (q : Bool) (e : Ex) (v0 : Value) (G : GS) : OG :=
  bS (bx q v0 G) fun x0 G1 =>
  bS (al Q q 116 z116 G1) fun x2 G3 =>
  bP (st Q q 116 1 x2 (.func (.func 117) #[] #[x0]) G3) fun G4 =>
  bP (lda Q q 91 15 x0 G4) fun x5 =>
  bS (e.ev.cl 115 [x5, (.int .i64 0), (.func (.func 118) #[] #[x2])] G4) fun x6 G7 =>
  bP (un Q q .not x6) fun x8 =>
  ifV x8 (
  some ((.int .i64 9), G7)) (
  some ((.int .i64 0), G7))
theorem f53 (h : ExLe Q e (E orc)) (v0 : Value) (G : GS) : Ref (s53 true e v0 G) ((E orc).cl 53 [v0] G) := cS (S := fun q e => s53 q e v0 G) Tryz.func53 (by unfold s53; exact Ref.gq)
/-- (coxswain/audit.whole).stands -/
def s54 (q : Bool) (e : Ex) (v0 : Value) (G : GS) : OG :=
  bS (bx q v0 G) fun x0 G1 =>
  bP (fa Q q 91 0 0 x0) fun x2 =>
  bP (lda Q q 31 13 x2 G1) fun x3 =>
  fl q 91 1 13 33 x0 G1 fun x5 =>
  bS (e.ev.cl 102 [x3, (.int .i64 0), x5] G1) fun x6 G7 =>
  bS (al Q q 127 z127 G7) fun x8 G9 =>
  bP (st Q q 127 1 x8 x6 G9) fun G10 =>
  bP (lda Q q 91 15 x0 G10) fun x11 =>
  bS (e.ev.cl 115 [x11, (.int .i64 1), (.func (.func 119) #[] #[x8, x0])] G10) fun x12 G13 =>
  bP (un Q q .not x12) fun x14 =>
  ifV x14 (
  some ((.int .i64 11), G13)) (
  some ((.int .i64 0), G13))
theorem f54 (h : ExLe Q e (E orc)) (v0 : Value) (G : GS) : Ref (s54 true e v0 G) ((E orc).cl 54 [v0] G) := cS (S := fun q e => s54 q e v0 G) Tryz.func54 (by unfold s54; exact Ref.gq)
/-- (coxswain/audit.whole).once -/
def s55 (q : Bool) (e : Ex) (v0 : Value) (G : GS) : OG :=
  bS (bx q v0 G) fun x0 G1 =>
  bS (al Q q 38 z38 G1) fun x2 G3 =>
  bP (fa Q q 91 0 0 x0) fun x4 =>
  bP (fa Q q 31 3 3 x4) fun x5 =>
  bP (fa Q q 29 0 0 x5) fun x6 =>
  bP (fa Q q 25 0 0 x6) fun x7 =>
  bP (fa Q q 23 2 2 x7) fun x8 =>
  bP (ld Q q 3 x8 G3) fun x9 =>
  bS (mk Q q 208 1 1 z4 x9 x9 G3) fun x10 G11 =>
  bS (al Q q 208 z208 G11) fun x12 G13 =>
  bP (st Q q 208 1 x12 x10 G13) fun G14 =>
  bP (lda Q q 91 15 x0 G14) fun x15 =>
  bS (e.ev.cl 39 [x15] G14) fun x16 G17 =>
  bX (xRange e.ev x16 #[14, 15] (subAt [1, 1, 0, 1, 0, 0] (bodyOf Tryz.f55)) (subAt [1, 1, 0, 1, 0, 1] (bodyOf Tryz.f55)) (lsq q 23 (nth undef [v0]) [(13, x16), (12, x15), (3, x12), (11, x10), (10, x9), (9, x8), (8, x7), (7, x6), (6, x5), (5, x4), (2, x2), (1, x0)]) G17) fun e18 T19 G20 =>
  bV q (nth undef T19 2) fun T19x2_ =>
  ifE e18 .normal (
  bP (st Q q 38 1 T19x2_ (.int .i64 0) G20) fun G21 =>
  bP (ld Q q 38 T19x2_ G21) fun x22 =>
  some (x22, G21)) (ifE e18 .ret (
  bP (ld Q q 38 T19x2_ G20) fun x23 =>
  some (x23, G20)) (none))
theorem f55 (h : ExLe Q e (E orc)) (v0 : Value) (G : GS) : Ref (s55 true e v0 G) ((E orc).cl 55 [v0] G) := cS (S := fun q e => s55 q e v0 G) Tryz.func55 (by unfold s55; exact Ref.gq)
def r55_0 (q : Bool) (e : Ex) (l : Nat) (τ : Env) (u0 u1 : Value) (G : GS) : OG :=
  bV q (τ 2) fun a2_ =>
  bV q (τ 3) fun a3_ =>
  bP (G.loop l) fun r0 => if r0.st = .ready then
  bP (ld Q q 208 a3_ (G.putLoop l (Lp.setSt r0 .busy))) fun x1 =>
  bP (ias Q q 208 1 x1 u0) fun x2 =>
  bP (ld Q q 4 x2 (G.putLoop l (Lp.setSt r0 .busy))) fun x3 =>
  ifV x3 (
  bP (st Q q 38 1 a2_ (.int .i64 8) (G.putLoop l (Lp.setSt r0 .busy))) fun G4 =>
  roundEnd l .ret G4) (
  bP (ld Q q 208 a3_ (G.putLoop l (Lp.setSt r0 .busy))) fun x5 =>
  bP (ias Q q 208 1 x5 u0) fun x6 =>
  bP (st Q q 4 1 x6 (.bool true) (G.putLoop l (Lp.setSt r0 .busy))) fun G7 =>
  roundEnd l .normal G7)
  else none
theorem mr55_0 {e : Ex} {E : Ev} (h : ExLe Q e E) (l : Nat) (τ : Env) (u0 u1 : Value) (G : GS) : Ref (r55_0 true e l τ u0 u1 G) (r55_0 false (Ex.of E) l τ u0 u1 G) := by
  unfold r55_0
  repeat' (with_reducible first | exact Ref.rfl' _ | exact ROp.r | refine Ref.bP ?_ fun _ => ?_ | refine Ref.bS ?_ fun _ _ => ?_ | exact Ref.cl (by assumption) | refine Ref.ifV ?_ ?_ | refine LpLe.rx (by assumption) ?_ | refine Ref.xitq ?_ | exact UOk.z | refine UOk.c (by assumption) ?_ | exact Ref.nil _ | refine Ref.bVe fun _ _ => ?_ | refine Ref.bLq (by assumption) ?_ fun _ _ _ => ?_ | refine Ref.ifE ?_ ?_ | refine Ref.chk ?_ ?_ | refine Imp.and ?_ ?_ | refine Imp.or ?_ | exact Imp.rfl' _ | refine Imp.sameO ?_ | refine Ref.gd ?_ | exact Ref.cValue (by assumption) | refine Ref.bX ?_ fun _ _ _ => ?_ | exact Ref.scQ (by assumption) | exact Ref.xRangeQ (by assumption) | exact Ref.cInvoke (by assumption) | refine Ref.rdy ?_)
theorem d55_0 {orc : FuncId → Bool} {e : Ex} (h : ExLe Q e (E orc)) (l : Nat) (T : List Value) (u0 u1 : Value) (G : GS) {st : LoopState} {pend : Option Code} (hl : G.loop l = some ⟨st, pend, T, [14, 15], (subAt [1, 1, 0, 1, 0, 0] (bodyOf Tryz.f55)), (subAt [1, 1, 0, 1, 0, 1] (bodyOf Tryz.f55))⟩) (hT : T.length = 23) : Ref (r55_0 true e l (nth undef T) u0 u1 G) ((E orc).rd l [u0, u1] G) :=
  fun r hr => rd_sxE Q orc hl (by kernel_rfl) hT (by kernel_rfl) (mr55_0 h l _ u0 u1 G r hr)
def b56_0 (q : Bool) (e : Ex) (lp : LpF) (τ : Env) (G : GS) : OL :=
  bV q (τ 11) fun a11_ =>
  bV q (τ 12) fun a12_ =>
  bV q (τ 13) fun a13_ =>
  bP (bn Q q .lss 3 (.tmp 13) (.tmp 12) a13_ a12_) fun x0 =>
  ifV x0 (
  bP (ias Q q 127 1 a11_ a13_) fun x1 =>
  bP (ld Q q 3 x1 G) fun x2 =>
  bP (bn Q q .geq 3 (.tmp 17) (.const (.int .i64 0)) x2 (.int .i64 0)) fun x3 =>
  ifV x3 (
  some (.ret, xq q 20 τ [(2, (.int .i64 14)), (18, x3), (17, x2), (4, x2), (16, x2), (15, x1), (14, x0)] [(11, a11_), (12, a12_), (13, a13_)], G)) (
  bP (bn Q q .add 3 (.tmp 13) (.const (.int .i64 1)) a13_ (.int .i64 1)) fun x4 =>
  lp (xq q 20 τ [(13, x4), (19, x4), (18, x3), (17, x2), (4, x2), (16, x2), (15, x1), (14, x0)] [(11, a11_), (12, a12_)]) G)) (
  some ((.exit 0), xq q 20 τ [(14, x0)] [(11, a11_), (12, a12_), (13, a13_)], G))
theorem l56_0 (h : ExLe Q e (E orc)) : LT orc 20 (subAt [1, 0, 1, 0, 0] (bodyOf Tryz.f56)) (b56_0 true e) := cL fun hlp τ G => by unfold b56_0; exact Ref.gq
/-- (coxswain/audit.whole).idle -/
def s56 (q : Bool) (e : Ex) (v0 : Value) (G : GS) : OG :=
  bS (bx q v0 G) fun x0 G1 =>
  bP (fa Q q 91 0 0 x0) fun x2 =>
  bP (fa Q q 31 3 3 x2) fun x3 =>
  bP (fa Q q 29 1 6 x3) fun x4 =>
  bP (lda Q q 27 3 x4 G1) fun x5 =>
  bP (fa Q q 91 1 13 x0) fun x6 =>
  bP (ld Q q 33 x6 G1) fun x7 =>
  bS (e.ev.cl 120 [x5, x7] G1) fun x8 G9 =>
  bP (ln Q q 127 x8) fun x10 =>
  bLq q e 56 0 (subAt [1, 0, 1, 0, 0] (bodyOf Tryz.f56)) 20 (nth undef [v0]) [(13, (.int .i64 0)), (12, x10), (11, x8), (10, x7), (9, x6), (8, x5), (7, x4), (6, x3), (5, x2), (2, (.int .i64 0)), (1, x0)] [] G9 fun e11 t12 G13 =>
  bV q (t12 2) fun t12x2_ =>
  ifE e11 (.exit 0) (
  some ((.int .i64 0), G13)) (ifE e11 .ret (
  some (t12x2_, G13)) (none))
theorem f56 (h : ExLe Q e (E orc)) (v0 : Value) (G : GS) : Ref (s56 true e v0 G) ((E orc).cl 56 [v0] G) := cS (S := fun q e => s56 q e v0 G) Tryz.func56 (by unfold s56; exact Ref.gq)
/-- (coxswain/audit.whole).all -/
def s57 (q : Bool) (e : Ex) (v0 : Value) (G : GS) : OG :=
  bS (bx q v0 G) fun x0 G1 =>
  bP (fa Q q 91 0 0 x0) fun x2 =>
  bP (lda Q q 31 13 x2 G1) fun x3 =>
  fl q 91 1 13 33 x0 G1 fun x5 =>
  bS (e.ev.cl 14 [x3, x5] G1) fun x6 G7 =>
  bP (fd Q q 49 4 4 x6) fun x8 =>
  bP (bn Q q .neq 3 (.tmp 8) (.const (.int .i64 0)) x8 (.int .i64 0)) fun x9 =>
  ifV x9 (
  some ((.int .i64 10), G7)) (
  some ((.int .i64 0), G7))
theorem f57 (h : ExLe Q e (E orc)) (v0 : Value) (G : GS) : Ref (s57 true e v0 G) ((E orc).cl 57 [v0] G) := cS (S := fun q e => s57 q e v0 G) Tryz.func57 (by unfold s57; exact Ref.gq)
/-- (*coxswain/cells.Mem).cell -/
def s58 (q : Bool) (e : Ex) (v0 v1 : Value) (G : GS) : OG :=
  bP (ep Q q false 33 (.tmp 5) (.const (.pointer none)) v0 (.pointer none)) fun x0 =>
  bS (gV x0 false v0 G) fun x1 G2 =>
  bS (gP x0 false (pNil x1) G2) fun x3 G4 =>
  bS (gP x0 false (fa Q q 137 0 0 x3) G4) fun x5 G6 =>
  bS (gP x0 false (ld Q q 132 x5 G6) G6) fun x7 G8 =>
  bS (gP x0 false (ep Q q false 132 (.tmp 11) (.const (.pointer none)) x7 (.pointer none)) G8) fun x9 G10 =>
  bP (pickV x0 (.bool true) x9) fun x11 =>
  bS (gV x11 false v1 G10) fun x12 G13 =>
  bS (gP x11 false (bn Q q .lss 3 (.tmp 15) (.const (.int .i64 0)) x12 (.int .i64 0)) G13) fun x14 G15 =>
  bP (pickV x11 (.bool true) x14) fun x16 =>
  bS (gV x16 false v1 G15) fun x17 G18 =>
  bS (gV x16 false v0 G18) fun x19 G20 =>
  bS (gP x16 false (pNil x19) G20) fun x21 G22 =>
  bS (gP x16 false (fa Q q 137 1 1 x21) G22) fun x23 G24 =>
  bS (gP x16 false (ld Q q 3 x23 G24) G24) fun x25 G26 =>
  bS (gP x16 false (bn Q q .geq 3 (.tmp 19) (.tmp 23) x17 x25) G26) fun x27 G28 =>
  bP (pickV x16 (.bool true) x27) fun x29 =>
  ifV x29 (
  some ((.pointer none), G28)) (
  nl q 137 0 0 132 v0 G28 fun x32 =>
  bP (pNil x32) fun x33 =>
  bP (iaa Q q 135 4096 1 x33 v1) fun x34 =>
  some (x34, G28))
theorem f58 (h : ExLe Q e (E orc)) (v0 v1 : Value) (G : GS) : Ref (s58 true e v0 v1 G) ((E orc).cl 58 [v0, v1] G) := cS (S := fun q e => s58 q e v0 v1 G) Tryz.func58 (by unfold s58; exact Ref.gq)
def jb59_0 (q : Bool) (e : Ex) (τ : Env) (G : GS) : OG :=
  bV q (τ 0) fun a0_ =>
  bV q (τ 10) fun a10_ =>
  nf q 137 2 2 a0_ fun x29 =>
  bP (lda Q q 80 5 x29 G) fun x30 =>
  bP (st Q q 80 5 a10_ x30 G) fun G31 =>
  bP (lda Q q 80 5 a10_ G31) fun x32 =>
  some (x32, G31)
def j59_0 (q : Bool) (e : Ex) (τ : Env) (G : GS) : OG := jb59_0 q e τ G
theorem mj59_0 {e : Ex} {E : Ev} (h : ExLe Q e E) (τ : Env) (G : GS) : Ref (j59_0 true e τ G) (j59_0 false (Ex.of E) τ G) := by
  unfold j59_0 jb59_0
  exact Ref.gq
theorem mkj59_0 {e : Ex} {E : Ev} (h : ExLe Q e E) {τ : Env} {l U : List (Nat × Value)} {G : GS} (hU : UOk τ U) : Ref (j59_0 true e (xq true 67 τ l U) G) (j59_0 false (Ex.of E) (xq false 67 τ l U) G) := by
  rw [xq_eq hU]
  exact mj59_0 h _ _
def sb59 (q : Bool) (e : Ex) (J0 : Env → GS → OG) (v0 v1 v2 v3 v4 : Value) (G : GS) : OG :=
  bS (al Q q 80 z80 G) fun x0 G1 =>
  bP (ep Q q false 33 (.tmp 13) (.const (.pointer none)) v0 (.pointer none)) fun x2 =>
  bS (gV x2 false v0 G1) fun x3 G4 =>
  bS (gP x2 false (pNil x3) G4) fun x5 G6 =>
  bS (gP x2 false (fa Q q 137 0 0 x5) G6) fun x7 G8 =>
  bS (gP x2 false (ld Q q 132 x7 G8) G8) fun x9 G10 =>
  bS (gP x2 false (ep Q q false 132 (.tmp 19) (.const (.pointer none)) x9 (.pointer none)) G10) fun x11 G12 =>
  bP (pickV x2 (.bool true) x11) fun x13 =>
  ifV x13 (
  bP (bd Q q 80 z80 [] []) fun x14 =>
  bP (st Q q 80 5 x0 x14 G12) fun G15 =>
  bP (lda Q q 80 5 x0 G15) fun x16 =>
  some (x16, G15)) (
  bP (pNil v0) fun x17 =>
  bP (fa Q q 137 3 7 x17) fun x18 =>
  bP (ld Q q 3 x18 G12) fun x19 =>
  bP (bn Q q .add 3 (.tmp 26) (.const (.int .i64 1)) x19 (.int .i64 1)) fun x20 =>
  bP (pNil v0) fun x21 =>
  bP (fa Q q 137 3 7 x21) fun x22 =>
  bP (st Q q 3 1 x22 x20 G12) fun G23 =>
  bP (bd Q q 80 z80 [(0, 0, 1), (1, 1, 1)] [v1, v2]) fun x24 =>
  bP (pNil v0) fun x25 =>
  bP (fa Q q 137 2 2 x25) fun x26 =>
  bP (st Q q 80 5 x26 x24 G23) fun G27 =>
  bS (e.ev.cl 121 [v3] G27) fun x33 G34 =>
  ifV x33 (
  bS (cValue e.ev v4 [] G34) fun x35 G36 =>
  bP (pExtract x35 0) fun x37 =>
  bP (pExtract x35 1) fun x38 =>
  bP (pNil v3) fun x39 =>
  bP (ld Q q 133 x39 G36) fun x40 =>
  bP (pNil v0) fun x41 =>
  bP (fa Q q 137 2 2 x41) fun x42 =>
  bP (fa Q q 80 2 2 x42) fun x43 =>
  bP (st Q q 37 1 x43 x40 G36) fun G44 =>
  bP (pNil v0) fun x45 =>
  bP (fa Q q 137 2 2 x45) fun x46 =>
  bP (fa Q q 80 3 3 x46) fun x47 =>
  bP (st Q q 37 1 x47 x37 G44) fun G48 =>
  bP (pNil v0) fun x49 =>
  bP (fa Q q 137 2 2 x49) fun x50 =>
  bP (fa Q q 80 4 4 x50) fun x51 =>
  bP (st Q q 4 1 x51 x38 G48) fun G52 =>
  bP (pNil v3) fun x53 =>
  bP (st Q q 133 1 x53 x37 G52) fun G54 =>
  J0 (xq q 67 (nth undef [v0, v1, v2, v3, v4]) [(62, x53), (61, x37), (60, v3), (59, x51), (58, x50), (57, x49), (56, x47), (55, x46), (54, x45), (53, x43), (52, x42), (51, x41), (50, x38), (49, x37), (48, x40), (47, x39), (46, v3), (45, v0), (44, v0), (43, v0), (12, x38), (11, x37), (42, x38), (41, x37), (38, x35), (40, x35), (39, v4), (37, x33), (36, v3), (35, x26), (34, x25), (33, x24), (32, v2), (31, v1), (30, v0), (29, x22), (28, x21), (27, x20), (26, x19), (25, x18), (24, x17), (23, v0), (21, x13), (20, x11), (19, x9), (18, x7), (17, x5), (16, x3), (15, x2), (14, x2), (13, v0), (10, x0)] []) G54) (
  J0 (xq q 67 (nth undef [v0, v1, v2, v3, v4]) [(37, x33), (36, v3), (35, x26), (34, x25), (33, x24), (32, v2), (31, v1), (30, v0), (29, x22), (28, x21), (27, x20), (26, x19), (25, x18), (24, x17), (23, v0), (21, x13), (20, x11), (19, x9), (18, x7), (17, x5), (16, x3), (15, x2), (14, x2), (13, v0), (10, x0)] []) G34))
/-- (*coxswain/cells.Mem).do -/
def s59 (q : Bool) (e : Ex) (v0 v1 v2 v3 v4 : Value) (G : GS) : OG := sb59 q e (j59_0 q e) v0 v1 v2 v3 v4 G
theorem m59 {e : Ex} {E : Ev} (h : ExLe Q e E) (v0 v1 v2 v3 v4 : Value) (G : GS) : Ref (s59 true e v0 v1 v2 v3 v4 G) (s59 false (Ex.of E) v0 v1 v2 v3 v4 G) := by
  unfold s59 sb59
  have j0 := @mkj59_0 e E h
  exact Ref.gj
def jt59 (J0 : Env → GS → OG) : JT (Value × GS) :=
  (.n none .e (.n none .e (.n none .e (.n none .e (.n (some (fun T G => J0 (nth undef T) G)) .e .e)))))
theorem jr59_0 (orc : FuncId → Bool) (J0 : Env → GS → OG) (T : List Value) (G : GS) : runC Q (evL Q orc) Tryz.f59.ntmps (jt59 J0) (bodyOf Tryz.f59) (retE Q Tryz.f59.results.toList) [true, true, true, true] (nth undef T) G = jb59_0 false (Ex.of (E orc))  (nth undef T) G := by kernel_rfl
theorem jo59 (orc : FuncId → Bool) : JOk Q orc Tryz.f59.ntmps (jt59 (j59_0 false (Ex.of (E orc))) ) (bodyOf Tryz.f59) (retE Q Tryz.f59.results.toList) :=
  jOk Q orc (l := [([true, true, true, true], (fun T G => j59_0 false (Ex.of (E orc)) (nth undef T) G))]) (by kernel_rfl) (AllE.c (fun T G => jr59_0 orc (j59_0 false (Ex.of (E orc))) T G) (AllE.z))
theorem je59 (orc : FuncId → Bool) (J0 : Env → GS → OG) (v0 v1 v2 v3 v4 : Value) (G : GS) : sxC Q (evL Q orc) Tryz.f59.ntmps (jt59 J0) (bodyOf Tryz.f59) (nth undef [v0, v1, v2, v3, v4]) G (retE Q Tryz.f59.results.toList) = sb59 false (Ex.of (E orc)) J0 v0 v1 v2 v3 v4 G := by kernel_rfl
theorem f59 {orc : FuncId → Bool} {e : Ex} (h : ExLe Q e (E orc)) (v0 v1 v2 v3 v4 : Value) (G : GS) : Ref (s59 true e v0 v1 v2 v3 v4 G) ((E orc).cl 59 [v0, v1, v2, v3, v4] G) :=
  fun r hr => cl_sxC Q orc (vs := [v0, v1, v2, v3, v4]) G (jt59 (j59_0 false (Ex.of (E orc))) ) Tryz.func59 (by kernel_rfl) (by kernel_rfl) (by kernel_rfl) (by kernel_rfl) (by kernel_rfl) (jo59 orc) (je59 orc (j59_0 false (Ex.of (E orc))) v0 v1 v2 v3 v4 G) (m59 h v0 v1 v2 v3 v4 G r hr)
/-- (coxswain/cells.deed).store -/
def s60 (q : Bool) (e : Ex) (v0 : Value) (G : GS) : OG :=
  bS (bx q v0 G) fun x0 G1 =>
  fl q 122 1 1 37 x0 G1 fun x3 =>
  some (.tuple #[x3, (.bool true)], G1)
theorem f60 (h : ExLe Q e (E orc)) (v0 : Value) (G : GS) : Ref (s60 true e v0 G) ((E orc).cl 60 [v0] G) := cS (S := fun q e => s60 q e v0 G) Tryz.func60 (by unfold s60; exact Ref.gq)
/-- coxswain/tower.sound -/
def s70 (q : Bool) (e : Ex) (v0 : Value) (G : GS) : OG :=
  bS (bx q v0 G) fun x0 G1 =>
  bP (fa Q q 31 3 3 x0) fun x2 =>
  bP (fa Q q 29 0 0 x2) fun x3 =>
  bP (fa Q q 25 0 0 x3) fun x4 =>
  fl q 23 2 2 3 x4 G1 fun x6 =>
  fl q 31 2 2 3 x0 G1 fun x8 =>
  bP (bn Q q .geq 3 (.tmp 10) (.const (.int .i64 1)) x8 (.int .i64 1)) fun x9 =>
  bS (gP x9 true (fa Q q 31 2 2 x0) G1) fun x10 G11 =>
  bS (gP x9 true (ld Q q 3 x10 G11) G11) fun x12 G13 =>
  bS (gP x9 true (bn Q q .leq 3 (.tmp 14) (.const (.int .i64 4)) x12 (.int .i64 4)) G13) fun x14 G15 =>
  bP (pickV x9 x14 (.bool false)) fun x16 =>
  bS (gV x16 true x6 G15) fun x17 G18 =>
  bS (gP x16 true (bn Q q .geq 3 (.tmp 18) (.const (.int .i64 1)) x17 (.int .i64 1)) G18) fun x19 G20 =>
  bP (pickV x16 x19 (.bool false)) fun x21 =>
  bS (gV x21 true x6 G20) fun x22 G23 =>
  bS (gP x21 true (bn Q q .leq 3 (.tmp 22) (.const (.int .i64 128)) x22 (.int .i64 128)) G23) fun x24 G25 =>
  bP (pickV x21 x24 (.bool false)) fun x26 =>
  bS (gP x26 true (fa Q q 31 0 0 x0) G25) fun x27 G28 =>
  bS (gP x26 true (ld Q q 3 x27 G28) G28) fun x29 G30 =>
  bS (gP x26 true (bn Q q .geq 3 (.tmp 27) (.const (.int .i64 0)) x29 (.int .i64 0)) G30) fun x31 G32 =>
  bP (pickV x26 x31 (.bool false)) fun x33 =>
  bS (gP x33 true (fa Q q 31 0 0 x0) G32) fun x34 G35 =>
  bS (gP x33 true (ld Q q 3 x34 G35) G35) fun x36 G37 =>
  bS (gP x33 true (bn Q q .lss 3 (.tmp 32) (.const (.int .i64 4096)) x36 (.int .i64 4096)) G37) fun x38 G39 =>
  bP (pickV x33 x38 (.bool false)) fun x40 =>
  bS (gP x40 true (fa Q q 31 1 1 x0) G39) fun x41 G42 =>
  bS (gP x40 true (ld Q q 3 x41 G42) G42) fun x43 G44 =>
  bS (gP x40 true (bn Q q .geq 3 (.tmp 37) (.const (.int .i64 0)) x43 (.int .i64 0)) G44) fun x45 G46 =>
  bP (pickV x40 x45 (.bool false)) fun x47 =>
  bS (gP x47 true (fa Q q 31 1 1 x0) G46) fun x48 G49 =>
  bS (gP x47 true (ld Q q 3 x48 G49) G49) fun x50 G51 =>
  bS (gP x47 true (bn Q q .lss 3 (.tmp 42) (.const (.int .i64 4096)) x50 (.int .i64 4096)) G51) fun x52 G53 =>
  bP (pickV x47 x52 (.bool false)) fun x54 =>
  some (x54, G53)
theorem f70 (h : ExLe Q e (E orc)) (v0 : Value) (G : GS) : Ref (s70 true e v0 G) ((E orc).cl 70 [v0] G) := cS (S := fun q e => s70 q e v0 G) Tryz.func70 (by unfold s70; exact Ref.gq)
def b71_0 (q : Bool) (e : Ex) (lp : LpF) (τ : Env) (G : GS) : OL :=
  bV q (τ 1) fun a1_ =>
  bV q (τ 2) fun a2_ =>
  bV q (τ 13) fun a13_ =>
  bP (bn Q q .lss 3 (.tmp 13) (.const (.int .i64 3)) a13_ (.int .i64 3)) fun x0 =>
  ifV x0 (
  bP (lda Q q 29 10 a2_ G) fun x1 =>
  bS (e.ev.cl 131 [a13_, x1] G) fun x2 G3 =>
  bP (fd Q q 23 0 0 x2) fun x4 =>
  bS (e.ev.cl 16 [a1_, x4, (.int .u64 0)] G3) fun x5 G6 =>
  bP (bn Q q .add 3 (.tmp 13) (.const (.int .i64 1)) a13_ (.int .i64 1)) fun x7 =>
  lp (xq q 23 τ [(13, x7), (22, x7), (21, x5), (20, x4), (19, x2), (18, x1), (17, a13_), (16, a1_), (4, a13_), (15, a13_), (14, x0)] [(1, a1_), (2, a2_)]) G6) (
  some ((.exit 0), xq q 23 τ [(14, x0)] [(1, a1_), (2, a2_), (13, a13_)], G))
theorem l71_0 (h : ExLe Q e (E orc)) : LT orc 23 (subAt [1, 1, 1, 1, 0, 0] (bodyOf Tryz.f71)) (b71_0 true e) := cL fun hlp τ G => by unfold b71_0; exact Ref.gq
/-- coxswain/limbo.Fill -/
def s71 (q : Bool) (e : Ex) (v0 v1 : Value) (G : GS) : OG :=
  bS (bx q v0 G) fun x0 G1 =>
  bP (fa Q q 29 0 0 x0) fun x2 =>
  bP (lda Q q 25 6 x2 G1) fun x3 =>
  bS (e.ev.cl 129 [x3, v1] G1) fun x4 G5 =>
  bP (fa Q q 29 1 6 x0) fun x6 =>
  bP (lda Q q 27 3 x6 G5) fun x7 =>
  bS (e.ev.cl 130 [x7, v1] G5) fun x8 G9 =>
  bLq q e 71 0 (subAt [1, 1, 1, 1, 0, 0] (bodyOf Tryz.f71)) 23 (nth undef [v0, v1]) [(13, (.int .i64 0)), (12, x8), (11, v1), (10, x7), (9, x6), (8, x4), (7, v1), (6, x3), (5, x2), (2, x0)] [] G9 fun e10 t11 G12 =>
  ifE e10 (.exit 0) (
  some (.tuple #[], G12)) (none)
theorem f71 (h : ExLe Q e (E orc)) (v0 v1 : Value) (G : GS) : Ref (s71 true e v0 v1 G) ((E orc).cl 71 [v0, v1] G) := cS (S := fun q e => s71 q e v0 v1 G) Tryz.func71 (by unfold s71; exact Ref.gq)
def jb74_0 (q : Bool) (e : Ex) (τ : Env) (G : GS) : OG :=
  bV q (τ 11) fun a11_ =>
  nf q 224 0 0 a11_ fun x9 =>
  fl q 97 6 18 38 x9 G fun x11 =>
  bP (bn Q q .eql 38 (.tmp 56) (.const (.int .i64 0)) x11 (.int .i64 0)) fun x12 =>
  ifV x12 (
  nf q 224 0 0 a11_ fun x14 =>
  bS (e.ev.cl 42 [x14] G) fun x15 G16 =>
  bS (e.ev.cl 134 [a11_] G16) fun x17 G18 =>
  bS (bs Q q 95 2 (rep z104 2) 1 [(0, 0, 1), (1, 1, 1)] [x15, x17] G18) fun x19 G20 =>
  nf q 224 0 0 a11_ fun x22 =>
  bP (fa Q q 97 4 16 x22) fun x23 =>
  bP (st Q q 95 1 x23 x19 G20) fun G24 =>
  some (a11_, G24)) (
  some (a11_, G))
def j74_0 (q : Bool) (e : Ex) (τ : Env) (G : GS) : OG := jb74_0 q e τ G
theorem mj74_0 {e : Ex} {E : Ev} (h : ExLe Q e E) (τ : Env) (G : GS) : Ref (j74_0 true e τ G) (j74_0 false (Ex.of E) τ G) := by
  unfold j74_0 jb74_0
  exact Ref.gq
theorem mkj74_0 {e : Ex} {E : Ev} (h : ExLe Q e E) {τ : Env} {l U : List (Nat × Value)} {G : GS} (hU : UOk τ U) : Ref (j74_0 true e (xq true 70 τ l U) G) (j74_0 false (Ex.of E) (xq false 70 τ l U) G) := by
  rw [xq_eq hU]
  exact mj74_0 h _ _
def sb74 (q : Bool) (e : Ex) (J0 : Env → GS → OG) (v0 v1 v2 v3 v4 : Value) (G : GS) : OG :=
  bS (bx q v0 G) fun x0 G1 =>
  bP (lda Q q 31 13 x0 G1) fun x2 =>
  bS (e.ev.cl 41 [x2, v1] G1) fun x3 G4 =>
  bP (bd Q q 224 z224 [(0, 0, 19), (1, 19, 1), (2, 20, 1), (3, 21, 1)] [x3, v2, v3, v4]) fun x5 =>
  bS (bx q x5 G4) fun x6 G7 =>
  bP (pNil x6) fun x25 =>
  bP (fa Q q 224 0 0 x25) fun x26 =>
  bP (fa Q q 97 6 18 x26) fun x27 =>
  bP (ld Q q 38 x27 G7) fun x28 =>
  bP (bn Q q .eql 38 (.tmp 24) (.const (.int .i64 0)) x28 (.int .i64 0)) fun x29 =>
  bS (gV x29 true v2 G7) fun x30 G31 =>
  bS (gP x29 true (bn Q q .eql 37 (.tmp 27) (.const (.int .u64 18446744073709551615)) x30 (.int .u64 18446744073709551615)) G31) fun x32 G33 =>
  bS (gV x29 true x32 G33) fun x34 G35 =>
  bS (gV x34 false v3 G35) fun x36 G37 =>
  bS (gP x34 false (bn Q q .lss 3 (.tmp 30) (.const (.int .i64 0)) x36 (.int .i64 0)) G37) fun x38 G39 =>
  bS (gP x29 true (pickV x34 (.bool true) x38) G39) fun x40 G41 =>
  bS (gV x29 true x40 G41) fun x42 G43 =>
  bS (gV x42 false v3 G43) fun x44 G45 =>
  bS (gP x42 false (bn Q q .gtr 3 (.tmp 34) (.const (.int .i64 65534)) x44 (.int .i64 65534)) G45) fun x46 G47 =>
  bS (gP x29 true (pickV x42 (.bool true) x46) G47) fun x48 G49 =>
  bS (gV x29 true x48 G49) fun x50 G51 =>
  bS (gV x50 false v4 G51) fun x52 G53 =>
  bS (gP x50 false (bn Q q .lss 3 (.tmp 38) (.const (.int .i64 1)) x52 (.int .i64 1)) G53) fun x54 G55 =>
  bS (gP x29 true (pickV x50 (.bool true) x54) G55) fun x56 G57 =>
  bS (gV x29 true x56 G57) fun x58 G59 =>
  bS (gV x58 false v4 G59) fun x60 G61 =>
  bS (gP x58 false (fa Q q 31 2 2 x0) G61) fun x62 G63 =>
  bS (gP x58 false (ld Q q 3 x62 G63) G63) fun x64 G65 =>
  bS (gP x58 false (bn Q q .gtr 3 (.tmp 42) (.tmp 44) x60 x64) G65) fun x66 G67 =>
  bS (gP x29 true (pickV x58 (.bool true) x66) G67) fun x68 G69 =>
  bP (pickV x29 x68 (.bool false)) fun x70 =>
  ifV x70 (
  bP (pNil x6) fun x71 =>
  bP (fa Q q 224 0 0 x71) fun x72 =>
  bP (fa Q q 97 6 18 x72) fun x73 =>
  bP (st Q q 38 1 x73 (.int .i64 3) G69) fun G74 =>
  J0 (xq q 70 (nth undef [v0, v1, v2, v3, v4]) [(51, x73), (50, x72), (49, x71), (48, x6), (47, x70), (46, x68), (45, x66), (44, x64), (43, x62), (42, x60), (41, x58), (40, x56), (39, x54), (38, x52), (37, x50), (36, x48), (35, x46), (34, x44), (33, x42), (32, x40), (31, x38), (30, x36), (29, x34), (28, x32), (27, x30), (26, x29), (25, x29), (24, x28), (23, x27), (22, x26), (21, x25), (20, x6), (11, x6), (19, x6), (18, x5), (17, v4), (16, v3), (15, v2), (14, x3), (13, v1), (12, x2), (10, (.pointer none)), (5, x0)] []) G74) (
  J0 (xq q 70 (nth undef [v0, v1, v2, v3, v4]) [(47, x70), (46, x68), (45, x66), (44, x64), (43, x62), (42, x60), (41, x58), (40, x56), (39, x54), (38, x52), (37, x50), (36, x48), (35, x46), (34, x44), (33, x42), (32, x40), (31, x38), (30, x36), (29, x34), (28, x32), (27, x30), (26, x29), (25, x29), (24, x28), (23, x27), (22, x26), (21, x25), (20, x6), (11, x6), (19, x6), (18, x5), (17, v4), (16, v3), (15, v2), (14, x3), (13, v1), (12, x2), (10, (.pointer none)), (5, x0)] []) G69)
/-- coxswain/ready.NewPut -/
def s74 (q : Bool) (e : Ex) (v0 v1 v2 v3 v4 : Value) (G : GS) : OG := sb74 q e (j74_0 q e) v0 v1 v2 v3 v4 G
theorem m74 {e : Ex} {E : Ev} (h : ExLe Q e E) (v0 v1 v2 v3 v4 : Value) (G : GS) : Ref (s74 true e v0 v1 v2 v3 v4 G) (s74 false (Ex.of E) v0 v1 v2 v3 v4 G) := by
  unfold s74 sb74
  have j0 := @mkj74_0 e E h
  exact Ref.gj
def jt74 (J0 : Env → GS → OG) : JT (Value × GS) :=
  (.n none .e (.n none .e (.n (some (fun T G => J0 (nth undef T) G)) .e .e)))
theorem jr74_0 (orc : FuncId → Bool) (J0 : Env → GS → OG) (T : List Value) (G : GS) : runC Q (evL Q orc) Tryz.f74.ntmps (jt74 J0) (bodyOf Tryz.f74) (retE Q Tryz.f74.results.toList) [true, true] (nth undef T) G = jb74_0 false (Ex.of (E orc))  (nth undef T) G := by kernel_rfl
theorem jo74 (orc : FuncId → Bool) : JOk Q orc Tryz.f74.ntmps (jt74 (j74_0 false (Ex.of (E orc))) ) (bodyOf Tryz.f74) (retE Q Tryz.f74.results.toList) :=
  jOk Q orc (l := [([true, true], (fun T G => j74_0 false (Ex.of (E orc)) (nth undef T) G))]) (by kernel_rfl) (AllE.c (fun T G => jr74_0 orc (j74_0 false (Ex.of (E orc))) T G) (AllE.z))
theorem je74 (orc : FuncId → Bool) (J0 : Env → GS → OG) (v0 v1 v2 v3 v4 : Value) (G : GS) : sxC Q (evL Q orc) Tryz.f74.ntmps (jt74 J0) (bodyOf Tryz.f74) (nth undef [v0, v1, v2, v3, v4]) G (retE Q Tryz.f74.results.toList) = sb74 false (Ex.of (E orc)) J0 v0 v1 v2 v3 v4 G := by kernel_rfl
theorem f74 {orc : FuncId → Bool} {e : Ex} (h : ExLe Q e (E orc)) (v0 v1 v2 v3 v4 : Value) (G : GS) : Ref (s74 true e v0 v1 v2 v3 v4 G) ((E orc).cl 74 [v0, v1, v2, v3, v4] G) :=
  fun r hr => cl_sxC Q orc (vs := [v0, v1, v2, v3, v4]) G (jt74 (j74_0 false (Ex.of (E orc))) ) Tryz.func74 (by kernel_rfl) (by kernel_rfl) (by kernel_rfl) (by kernel_rfl) (by kernel_rfl) (jo74 orc) (je74 orc (j74_0 false (Ex.of (E orc))) v0 v1 v2 v3 v4 G) (m74 h v0 v1 v2 v3 v4 G r hr)
/-- (*coxswain/ready.Put).Step -/
def s81 (q : Bool) (e : Ex) (v0 v1 : Value) (G : GS) : OG :=
  bP (ep Q q false 68 (.tmp 5) (.const (.pointer none)) v0 (.pointer none)) fun x0 =>
  bS (gV x0 false v0 G) fun x1 G2 =>
  bS (gP x0 false (pNil x1) G2) fun x3 G4 =>
  bS (gP x0 false (fa Q q 224 0 0 x3) G4) fun x5 G6 =>
  bS (gV x0 false v1 G6) fun x7 G8 =>
  bS (gS x0 false (e.ev.cl 49 [x5, x7] G8) G8) fun x9 G10 =>
  bP (pickV x0 (.bool true) x9) fun x11 =>
  some (x11, G10)
theorem f81 (h : ExLe Q e (E orc)) (v0 v1 : Value) (G : GS) : Ref (s81 true e v0 v1 G) ((E orc).cl 81 [v0, v1] G) := cS (S := fun q e => s81 q e v0 v1 G) Tryz.func81 (by unfold s81; exact Ref.gq)
/-- (*coxswain/ready.Look).Step -/
def s84 (q : Bool) (e : Ex) (v0 v1 : Value) (G : GS) : OG :=
  bP (ep Q q false 71 (.tmp 5) (.const (.pointer none)) v0 (.pointer none)) fun x0 =>
  bS (gV x0 false v0 G) fun x1 G2 =>
  bS (gP x0 false (pNil x1) G2) fun x3 G4 =>
  bS (gP x0 false (fa Q q 227 0 0 x3) G4) fun x5 G6 =>
  bS (gV x0 false v1 G6) fun x7 G8 =>
  bS (gS x0 false (e.ev.cl 49 [x5, x7] G8) G8) fun x9 G10 =>
  bP (pickV x0 (.bool true) x9) fun x11 =>
  some (x11, G10)
theorem f84 (h : ExLe Q e (E orc)) (v0 v1 : Value) (G : GS) : Ref (s84 true e v0 v1 G) ((E orc).cl 84 [v0, v1] G) := cS (S := fun q e => s84 q e v0 v1 G) Tryz.func84 (by unfold s84; exact Ref.gq)
/-- (*coxswain/ready.Tidy).Step -/
def s86 (q : Bool) (e : Ex) (v0 v1 : Value) (G : GS) : OG :=
  bP (ep Q q false 73 (.tmp 5) (.const (.pointer none)) v0 (.pointer none)) fun x0 =>
  bS (gV x0 false v0 G) fun x1 G2 =>
  bS (gP x0 false (pNil x1) G2) fun x3 G4 =>
  bS (gP x0 false (fa Q q 238 0 0 x3) G4) fun x5 G6 =>
  bS (gV x0 false v1 G6) fun x7 G8 =>
  bS (gS x0 false (e.ev.cl 49 [x5, x7] G8) G8) fun x9 G10 =>
  bP (pickV x0 (.bool true) x9) fun x11 =>
  some (x11, G10)
theorem f86 (h : ExLe Q e (E orc)) (v0 v1 : Value) (G : GS) : Ref (s86 true e v0 v1 G) ((E orc).cl 86 [v0, v1] G) := cS (S := fun q e => s86 q e v0 v1 G) Tryz.func86 (by unfold s86; exact Ref.gq)
/-- (*coxswain/ready.Put).Err -/
def s88 (q : Bool) (e : Ex) (v0 : Value) (G : GS) : OG :=
  bP (ep Q q false 68 (.tmp 3) (.const (.pointer none)) v0 (.pointer none)) fun x0 =>
  ifV x0 (
  some ((.int .i64 1), G)) (
  nf q 224 0 0 v0 fun x2 =>
  bS (e.ev.cl 114 [x2] G) fun x3 G4 =>
  some (x3, G4))
theorem f88 (h : ExLe Q e (E orc)) (v0 : Value) (G : GS) : Ref (s88 true e v0 G) ((E orc).cl 88 [v0] G) := cS (S := fun q e => s88 q e v0 G) Tryz.func88 (by unfold s88; exact Ref.gq)
/-- coxswain/tower.Next -/
def s99 (q : Bool) (e : Ex) (v0 v1 v2 : Value) (G : GS) : OG :=
  bS (bx q v0 G) fun x0 G1 =>
  bP (bn Q q .lss 3 (.tmp 7) (.const (.int .i64 0)) v2 (.int .i64 0)) fun x2 =>
  bS (gV x2 false v2 G1) fun x3 G4 =>
  bS (gP x2 false (bn Q q .geq 3 (.tmp 10) (.const (.int .i64 4)) x3 (.int .i64 4)) G4) fun x5 G6 =>
  bP (pickV x2 (.bool true) x5) fun x7 =>
  ifV x7 (
  some ((.int .i64 (-1)), G6)) (
  bP (lda Q q 31 13 x0 G6) fun x8 =>
  bP (bn Q q .add 3 (.const (.int .i64 4)) (.tmp 15) (.int .i64 4) v2) fun x9 =>
  bS (e.ev.cl 105 [x8, v1, x9] G6) fun x10 G11 =>
  some (x10, G11))
theorem f99 (h : ExLe Q e (E orc)) (v0 v1 v2 : Value) (G : GS) : Ref (s99 true e v0 v1 v2 G) ((E orc).cl 99 [v0, v1, v2] G) := cS (S := fun q e => s99 q e v0 v1 v2 G) Tryz.func99 (by unfold s99; exact Ref.gq)
def b100_0 (q : Bool) (e : Ex) (lp : LpF) (τ : Env) (G : GS) : OL :=
  bV q (τ 0) fun a0_ =>
  bV q (τ 18) fun a18_ =>
  bV q (τ 19) fun a19_ =>
  bV q (τ 20) fun a20_ =>
  bP (bn Q q .lss 3 (.tmp 20) (.tmp 19) a20_ a19_) fun x0 =>
  ifV x0 (
  bP (ias Q q 127 1 a18_ a20_) fun x1 =>
  bP (ld Q q 3 x1 G) fun x2 =>
  bS (cValue e.ev a0_ [x2, (.int .i64 1)] G) fun x3 G4 =>
  bP (un Q q .not x3) fun x5 =>
  ifV x5 (
  some (.ret, xq q 74 τ [(27, x5), (26, x3), (25, x2), (24, a0_), (4, x2), (23, x2), (22, x1), (21, x0)] [(0, a0_), (18, a18_), (19, a19_), (20, a20_)], G4)) (
  bP (bn Q q .add 3 (.tmp 20) (.const (.int .i64 1)) a20_ (.int .i64 1)) fun x6 =>
  lp (xq q 74 τ [(20, x6), (28, x6), (27, x5), (26, x3), (25, x2), (24, a0_), (4, x2), (23, x2), (22, x1), (21, x0)] [(0, a0_), (18, a18_), (19, a19_)]) G4)) (
  some ((.exit 0), xq q 74 τ [(21, x0)] [(0, a0_), (18, a18_), (19, a19_), (20, a20_)], G))
theorem l100_0 (h : ExLe Q e (E orc)) : LT orc 74 (subAt [0, 1, 0, 0] (bodyOf Tryz.f100)) (b100_0 true e) := cL fun hlp τ G => by unfold b100_0; exact Ref.gq
def b100_1 (q : Bool) (e : Ex) (lp : LpF) (τ : Env) (G : GS) : OL :=
  bV q (τ 0) fun a0_ =>
  bV q (τ 33) fun a33_ =>
  bV q (τ 34) fun a34_ =>
  bV q (τ 35) fun a35_ =>
  bP (bn Q q .lss 3 (.tmp 35) (.tmp 34) a35_ a34_) fun x0 =>
  ifV x0 (
  bP (ias Q q 127 1 a33_ a35_) fun x1 =>
  bP (ld Q q 3 x1 G) fun x2 =>
  bS (cValue e.ev a0_ [x2, (.int .i64 2)] G) fun x3 G4 =>
  bP (un Q q .not x3) fun x5 =>
  ifV x5 (
  some (.ret, xq q 74 τ [(42, x5), (41, x3), (40, x2), (39, a0_), (6, x2), (38, x2), (37, x1), (36, x0)] [(0, a0_), (33, a33_), (34, a34_), (35, a35_)], G4)) (
  bP (bn Q q .add 3 (.tmp 35) (.const (.int .i64 1)) a35_ (.int .i64 1)) fun x6 =>
  lp (xq q 74 τ [(35, x6), (43, x6), (42, x5), (41, x3), (40, x2), (39, a0_), (6, x2), (38, x2), (37, x1), (36, x0)] [(0, a0_), (33, a33_), (34, a34_)]) G4)) (
  some ((.exit 2), xq q 74 τ [(36, x0)] [(0, a0_), (33, a33_), (34, a34_), (35, a35_)], G))
theorem l100_1 (h : ExLe Q e (E orc)) : LT orc 74 (subAt [1, 0, 1, 0, 0] (bodyOf Tryz.f100)) (b100_1 true e) := cL fun hlp τ G => by unfold b100_1; exact Ref.gq
def b100_2 (q : Bool) (e : Ex) (lp : LpF) (τ : Env) (G : GS) : OL :=
  bV q (τ 1) fun a1_ =>
  bV q (τ 44) fun a44_ =>
  bP (bn Q q .lss 3 (.tmp 44) (.const (.int .i64 3)) a44_ (.int .i64 3)) fun x0 =>
  ifV x0 (
  bP (fa Q q 91 0 0 a1_) fun x1 =>
  bP (fa Q q 31 3 3 x1) fun x2 =>
  bP (fa Q q 29 0 0 x2) fun x3 =>
  bP (fa Q q 25 0 0 x3) fun x4 =>
  bP (lda Q q 23 3 x4 G) fun x5 =>
  bS (al Q q 23 z23 G) fun x6 G7 =>
  bP (st Q q 23 3 x6 x5 G7) fun G8 =>
  bP (fa Q q 91 0 0 a1_) fun x9 =>
  bP (fa Q q 31 3 3 x9) fun x10 =>
  bP (fa Q q 29 2 9 x10) fun x11 =>
  bP (ld Q q 3 x11 G8) fun x12 =>
  bP (bn Q q .add 3 (.tmp 55) (.tmp 56) x12 a44_) fun x13 =>
  bP (fa Q q 23 0 0 x6) fun x14 =>
  bP (st Q q 3 1 x14 x13 G8) fun G15 =>
  bP (lda Q q 23 3 x6 G15) fun x16 =>
  bP (fa Q q 91 1 13 a1_) fun x17 =>
  bP (ld Q q 33 x17 G15) fun x18 =>
  bS (e.ev.cl 101 [x16, x18] G15) fun x19 G20 =>
  bP (ln Q q 127 x19) fun x21 =>
  bLq q e 100 3 (subAt [1, 1, 1, 0, 0, 1, 1, 0, 0, 1, 1, 1, 1, 0, 0] (bodyOf Tryz.f100)) 74 τ [(64, (.int .i64 0)), (63, x21), (62, x19), (61, x18), (60, x17), (59, x16), (58, x14), (57, x13), (56, a44_), (55, x12), (54, x11), (53, x10), (52, x9), (8, x6), (51, x5), (50, x4), (49, x3), (48, x2), (47, x1), (7, a44_), (46, a44_), (45, x0)] [] G20 fun e22 t23 G24 =>
  bV q (t23 1) fun t23x1_ =>
  bV q (t23 44) fun t23x44_ =>
  ifE e22 (.exit 6) (
  bP (bn Q q .add 3 (.tmp 44) (.const (.int .i64 1)) t23x44_ (.int .i64 1)) fun x25 =>
  lp (xq q 74 t23 [(44, x25), (73, x25)] [(1, t23x1_)]) G24) (ifE e22 .ret (
  some (.ret, xq q 74 t23 [] [(1, t23x1_), (44, t23x44_)], G24)) (none))) (
  some ((.exit 4), xq q 74 τ [(45, x0)] [(1, a1_), (44, a44_)], G))
theorem l100_2 (h : ExLe Q e (E orc)) : LT orc 74 (subAt [1, 1, 1, 0, 0] (bodyOf Tryz.f100)) (b100_2 true e) := cL fun hlp τ G => by unfold b100_2; exact Ref.gq
def b100_3 (q : Bool) (e : Ex) (lp : LpF) (τ : Env) (G : GS) : OL :=
  bV q (τ 0) fun a0_ =>
  bV q (τ 62) fun a62_ =>
  bV q (τ 63) fun a63_ =>
  bV q (τ 64) fun a64_ =>
  bP (bn Q q .lss 3 (.tmp 64) (.tmp 63) a64_ a63_) fun x0 =>
  ifV x0 (
  bP (ias Q q 127 1 a62_ a64_) fun x1 =>
  bP (ld Q q 3 x1 G) fun x2 =>
  bS (cValue e.ev a0_ [x2, (.int .i64 3)] G) fun x3 G4 =>
  bP (un Q q .not x3) fun x5 =>
  ifV x5 (
  some (.ret, xq q 74 τ [(71, x5), (70, x3), (69, x2), (68, a0_), (10, x2), (67, x2), (66, x1), (65, x0)] [(0, a0_), (62, a62_), (63, a63_), (64, a64_)], G4)) (
  bP (bn Q q .add 3 (.tmp 64) (.const (.int .i64 1)) a64_ (.int .i64 1)) fun x6 =>
  lp (xq q 74 τ [(64, x6), (72, x6), (71, x5), (70, x3), (69, x2), (68, a0_), (10, x2), (67, x2), (66, x1), (65, x0)] [(0, a0_), (62, a62_), (63, a63_)]) G4)) (
  some ((.exit 6), xq q 74 τ [(65, x0)] [(0, a0_), (62, a62_), (63, a63_), (64, a64_)], G))
theorem l100_3 (h : ExLe Q e (E orc)) : LT orc 74 (subAt [1, 1, 1, 0, 0, 1, 1, 0, 0, 1, 1, 1, 1, 0, 0] (bodyOf Tryz.f100)) (b100_3 true e) := cL fun hlp τ G => by unfold b100_3; exact Ref.gq
/-- (coxswain/audit.whole).places$1 -/
def s100 (q : Bool) (e : Ex) (v0 v1 : Value) (G : GS) : OG :=
  bP (fa Q q 91 0 0 v1) fun x0 =>
  bP (fa Q q 31 3 3 x0) fun x1 =>
  bP (fa Q q 29 0 0 x1) fun x2 =>
  bP (fa Q q 25 0 0 x2) fun x3 =>
  bP (lda Q q 23 3 x3 G) fun x4 =>
  bP (fa Q q 91 1 13 v1) fun x5 =>
  bP (ld Q q 33 x5 G) fun x6 =>
  bS (e.ev.cl 101 [x4, x6] G) fun x7 G8 =>
  bP (ln Q q 127 x7) fun x9 =>
  bLq q e 100 0 (subAt [0, 1, 0, 0] (bodyOf Tryz.f100)) 74 (nth undef [v0, v1]) [(20, (.int .i64 0)), (19, x9), (18, x7), (17, x6), (16, x5), (15, x4), (14, x3), (13, x2), (12, x1), (11, x0)] [] G8 fun e10 t11 G12 =>
  bV q (t11 1) fun t11x1_ =>
  ifE e10 (.exit 0) (
  bP (fa Q q 91 0 0 t11x1_) fun x13 =>
  bP (lda Q q 31 13 x13 G12) fun x14 =>
  bP (fa Q q 91 1 13 t11x1_) fun x15 =>
  bP (ld Q q 33 x15 G12) fun x16 =>
  bS (e.ev.cl 102 [x14, (.int .i64 0), x16] G12) fun x17 G18 =>
  bP (ln Q q 127 x17) fun x19 =>
  bLq q e 100 1 (subAt [1, 0, 1, 0, 0] (bodyOf Tryz.f100)) 74 t11 [(35, (.int .i64 0)), (34, x19), (33, x17), (32, x16), (31, x15), (30, x14), (29, x13)] [] G18 fun e20 t21 G22 =>
  ifE e20 (.exit 2) (
  bLq q e 100 2 (subAt [1, 1, 1, 0, 0] (bodyOf Tryz.f100)) 74 t21 [(44, (.int .i64 0))] [] G22 fun e23 t24 G25 =>
  ifE e23 (.exit 4) (
  some (.tuple #[], G25)) (ifE e23 .ret (
  some (.tuple #[], G25)) (none))) (ifE e20 .ret (
  some (.tuple #[], G22)) (none))) (ifE e10 .ret (
  some (.tuple #[], G12)) (none))
theorem f100 (h : ExLe Q e (E orc)) (v0 v1 : Value) (G : GS) : Ref (s100 true e v0 v1 G) ((E orc).cl 100 [v0, v1] G) := cS (S := fun q e => s100 q e v0 v1 G) Tryz.func100 (by unfold s100; exact Ref.gq)
/-- coxswain/stack.Chain -/
def s101 (q : Bool) (e : Ex) (v0 v1 : Value) (G : GS) : OG :=
  bS (bx q v0 G) fun x0 G1 =>
  bS (al Q q 127 z127 G1) fun x2 G3 =>
  bP (lda Q q 23 3 x0 (G3.room 4)) fun x4 =>
  bS (e.ev.cl 34 [v1] (G3.room 4)) fun x6 G5 =>
  chk ((sameO (lda Q q 23 3 x0 G5) x4 && true)) <|
  bS (e.ev.cl 165 [x4, x6] G5) fun x8 G7 =>
  bX (xRange e.ev x8 #[11] (subAt [1, 1, 0, 1, 0, 0] (bodyOf Tryz.f101)) (subAt [1, 1, 0, 1, 0, 1] (bodyOf Tryz.f101)) (lsq q 17 (nth undef [v0, v1]) [(10, x8), (9, x6), (8, v1), (7, x4), (5, x2), (4, (.slice none 0 0)), (2, x0)]) G7) fun e9 T10 G11 =>
  bV q (nth undef T10 5) fun T10x5_ =>
  ifE e9 .normal (
  bP (ld Q q 127 T10x5_ G11) fun x12 =>
  some (x12, G11)) (none)
theorem f101 (h : ExLe Q e (E orc)) (v0 v1 : Value) (G : GS) : Ref (s101 true e v0 v1 G) ((E orc).cl 101 [v0, v1] G) := cS (S := fun q e => s101 q e v0 v1 G) Tryz.func101 (by unfold s101; exact Ref.gq)
def r101_0 (q : Bool) (e : Ex) (l : Nat) (τ : Env) (u0 : Value) (G : GS) : OG :=
  bV q (τ 5) fun a5_ =>
  bP (G.loop l) fun r0 => if r0.st = .ready then
  bP (ld Q q 127 a5_ (G.putLoop l (Lp.setSt r0 .busy))) fun x1 =>
  bS (bs Q q 127 1 (rep z3 1) 1 [(0, 0, 1)] [u0] (G.putLoop l (Lp.setSt r0 .busy))) fun x2 G3 =>
  bS (ap Q q 127 127 1 8 x1 x2 G3) fun x4 G5 =>
  bP (st Q q 127 1 a5_ x4 G5) fun G6 =>
  roundEnd l .normal G6
  else none
theorem mr101_0 {e : Ex} {E : Ev} (h : ExLe Q e E) (l : Nat) (τ : Env) (u0 : Value) (G : GS) : Ref (r101_0 true e l τ u0 G) (r101_0 false (Ex.of E) l τ u0 G) := by
  unfold r101_0
  repeat' (with_reducible first | exact Ref.rfl' _ | exact ROp.r | refine Ref.bP ?_ fun _ => ?_ | refine Ref.bS ?_ fun _ _ => ?_ | exact Ref.cl (by assumption) | refine Ref.ifV ?_ ?_ | refine LpLe.rx (by assumption) ?_ | refine Ref.xitq ?_ | exact UOk.z | refine UOk.c (by assumption) ?_ | exact Ref.nil _ | refine Ref.bVe fun _ _ => ?_ | refine Ref.bLq (by assumption) ?_ fun _ _ _ => ?_ | refine Ref.ifE ?_ ?_ | refine Ref.chk ?_ ?_ | refine Imp.and ?_ ?_ | refine Imp.or ?_ | exact Imp.rfl' _ | refine Imp.sameO ?_ | refine Ref.gd ?_ | exact Ref.cValue (by assumption) | refine Ref.bX ?_ fun _ _ _ => ?_ | exact Ref.scQ (by assumption) | exact Ref.xRangeQ (by assumption) | exact Ref.cInvoke (by assumption) | refine Ref.rdy ?_)
theorem d101_0 {orc : FuncId → Bool} {e : Ex} (h : ExLe Q e (E orc)) (l : Nat) (T : List Value) (u0 : Value) (G : GS) {st : LoopState} {pend : Option Code} (hl : G.loop l = some ⟨st, pend, T, [11], (subAt [1, 1, 0, 1, 0, 0] (bodyOf Tryz.f101)), (subAt [1, 1, 0, 1, 0, 1] (bodyOf Tryz.f101))⟩) (hT : T.length = 17) : Ref (r101_0 true e l (nth undef T) u0 G) ((E orc).rd l [u0] G) :=
  fun r hr => rd_sxE Q orc hl (by kernel_rfl) hT (by kernel_rfl) (mr101_0 h l _ u0 G r hr)
/-- coxswain/tower.Level -/
def s102 (q : Bool) (e : Ex) (v0 v1 v2 : Value) (G : GS) : OG :=
  bS (bx q v0 G) fun x0 G1 =>
  bS (al Q q 127 z127 G1) fun x2 G3 =>
  bP (lda Q q 31 13 x0 G3) fun x4 =>
  bS (e.ev.cl 99 [x4, (.int .i64 (-1)), v1] G3) fun x5 G6 =>
  bP (bn Q q .lss 3 (.tmp 11) (.const (.int .i64 0)) x5 (.int .i64 0)) fun x7 =>
  ifV x7 (
  bP (ld Q q 127 x2 G6) fun x8 =>
  some (x8, G6)) (
  bS (e.ev.cl 34 [v2] (G6.room 5)) fun x10 G9 =>
  bP (lda Q q 31 13 x0 G9) fun x11 =>
  chk ((sameO (lda Q q 31 13 x0 (G6.room 5)) x11 && true)) <|
  bS (e.ev.cl 166 [x10, x11, v1] G9) fun x13 G12 =>
  bX (xRange e.ev x13 #[19] (subAt [1, 1, 1, 0, 1, 0, 0] (bodyOf Tryz.f102)) (subAt [1, 1, 1, 0, 1, 0, 1] (bodyOf Tryz.f102)) (lsq q 25 (nth undef [v0, v1, v2]) [(18, x13), (17, v1), (16, x11), (15, x10), (14, v2), (12, x7), (11, x5), (10, v1), (9, x4), (7, x2), (6, (.slice none 0 0)), (3, x0)]) G12) fun e14 T15 G16 =>
  bV q (nth undef T15 7) fun T15x7_ =>
  ifE e14 .normal (
  bP (ld Q q 127 T15x7_ G16) fun x17 =>
  some (x17, G16)) (none))
theorem f102 (h : ExLe Q e (E orc)) (v0 v1 v2 : Value) (G : GS) : Ref (s102 true e v0 v1 v2 G) ((E orc).cl 102 [v0, v1, v2] G) := cS (S := fun q e => s102 q e v0 v1 v2 G) Tryz.func102 (by unfold s102; exact Ref.gq)
def r102_0 (q : Bool) (e : Ex) (l : Nat) (τ : Env) (u0 : Value) (G : GS) : OG :=
  bV q (τ 7) fun a7_ =>
  bP (G.loop l) fun r0 => if r0.st = .ready then
  bP (ld Q q 127 a7_ (G.putLoop l (Lp.setSt r0 .busy))) fun x1 =>
  bS (bs Q q 127 1 (rep z3 1) 1 [(0, 0, 1)] [u0] (G.putLoop l (Lp.setSt r0 .busy))) fun x2 G3 =>
  bS (ap Q q 127 127 1 8 x1 x2 G3) fun x4 G5 =>
  bP (st Q q 127 1 a7_ x4 G5) fun G6 =>
  roundEnd l .normal G6
  else none
theorem mr102_0 {e : Ex} {E : Ev} (h : ExLe Q e E) (l : Nat) (τ : Env) (u0 : Value) (G : GS) : Ref (r102_0 true e l τ u0 G) (r102_0 false (Ex.of E) l τ u0 G) := by
  unfold r102_0
  repeat' (with_reducible first | exact Ref.rfl' _ | exact ROp.r | refine Ref.bP ?_ fun _ => ?_ | refine Ref.bS ?_ fun _ _ => ?_ | exact Ref.cl (by assumption) | refine Ref.ifV ?_ ?_ | refine LpLe.rx (by assumption) ?_ | refine Ref.xitq ?_ | exact UOk.z | refine UOk.c (by assumption) ?_ | exact Ref.nil _ | refine Ref.bVe fun _ _ => ?_ | refine Ref.bLq (by assumption) ?_ fun _ _ _ => ?_ | refine Ref.ifE ?_ ?_ | refine Ref.chk ?_ ?_ | refine Imp.and ?_ ?_ | refine Imp.or ?_ | exact Imp.rfl' _ | refine Imp.sameO ?_ | refine Ref.gd ?_ | exact Ref.cValue (by assumption) | refine Ref.bX ?_ fun _ _ _ => ?_ | exact Ref.scQ (by assumption) | exact Ref.xRangeQ (by assumption) | exact Ref.cInvoke (by assumption) | refine Ref.rdy ?_)
theorem d102_0 {orc : FuncId → Bool} {e : Ex} (h : ExLe Q e (E orc)) (l : Nat) (T : List Value) (u0 : Value) (G : GS) {st : LoopState} {pend : Option Code} (hl : G.loop l = some ⟨st, pend, T, [19], (subAt [1, 1, 1, 0, 1, 0, 0] (bodyOf Tryz.f102)), (subAt [1, 1, 1, 0, 1, 0, 1] (bodyOf Tryz.f102))⟩) (hT : T.length = 25) : Ref (r102_0 true e l (nth undef T) u0 G) ((E orc).rd l [u0] G) :=
  fun r hr => rd_sxE Q orc hl (by kernel_rfl) hT (by kernel_rfl) (mr102_0 h l _ u0 G r hr)
/-- coxswain/tower.Whose -/
def s103 (q : Bool) (e : Ex) (v0 v1 : Value) (G : GS) : OG :=
  bS (bx q v0 G) fun x0 G1 =>
  bP (lda Q q 31 13 x0 G1) fun x2 =>
  bS (e.ev.cl 70 [x2] G1) fun x3 G4 =>
  bP (un Q q .not x3) fun x5 =>
  ifV x5 (
  some (.tuple #[(.int .i64 0), (.int .i64 0), (.bool false)], G4)) (
  bP (lda Q q 31 13 x0 G4) fun x6 =>
  bS (e.ev.cl 167 [x6] G4) fun x7 G8 =>
  bS (e.ev.cl 168 [x7, v1] G8) fun x9 G10 =>
  bP (pExtract x9 0) fun x11 =>
  bP (pExtract x9 1) fun x12 =>
  bP (pExtract x9 2) fun x13 =>
  ifV x13 (
  some (.tuple #[x11, x12, (.bool true)], G10)) (
  bP (lda Q q 31 13 x0 G10) fun x14 =>
  bS (e.ev.cl 169 [x14] G10) fun x15 G16 =>
  bS (e.ev.cl 170 [x15, v1] G16) fun x17 G18 =>
  bP (pExtract x17 0) fun x19 =>
  bP (pExtract x17 1) fun x20 =>
  bP (pExtract x17 2) fun x21 =>
  ifV x21 (
  bP (bn Q q .add 3 (.const (.int .i64 4)) (.tmp 36) (.int .i64 4) x20) fun x22 =>
  some (.tuple #[(.int .i64 (-1)), x22, (.bool true)], G18)) (
  some (.tuple #[(.int .i64 0), (.int .i64 0), (.bool false)], G18))))
theorem f103 (h : ExLe Q e (E orc)) (v0 v1 : Value) (G : GS) : Ref (s103 true e v0 v1 G) ((E orc).cl 103 [v0, v1] G) := cS (S := fun q e => s103 q e v0 v1 G) Tryz.func103 (by unfold s103; exact Ref.gq)
/-- (coxswain/audit.whole).right -/
def s104 (q : Bool) (e : Ex) (v0 v1 v2 : Value) (G : GS) : OG :=
  bS (bx q v0 G) fun x0 G1 =>
  bS (e.ev.cl 171 [v1] G1) fun x2 G3 =>
  bP (pExtract x2 0) fun x4 =>
  bP (pExtract x2 1) fun x5 =>
  bS (al Q q 270 z270 G3) fun x6 G7 =>
  bP (st Q q 270 3 x6 x4 G7) fun G8 =>
  bP (bn Q q .eql 38 (.tmp 14) (.const (.int .i64 0)) x5 (.int .i64 0)) fun x9 =>
  bS (gP x9 true (fa Q q 270 2 2 x6) (G8.room 30)) fun x10 _ =>
  bS (gP x9 true (ld Q q 4 x10 (G8.room 30)) (G8.room 30)) fun x11 _ =>
  bS (gP x9 true (un Q q .not x11) (G8.room 30)) fun x12 _ =>
  bP (pickV x9 x12 (.bool false)) fun x13 =>
  bS (gP x13 true (fa Q q 270 0 0 x6) (G8.room 30)) fun x14 _ =>
  bS (gP x13 true (ld Q q 3 x14 (G8.room 30)) (G8.room 30)) fun x15 _ =>
  bS (gV x13 true v2 (G8.room 30)) fun x16 _ =>
  bS (gP x13 true (bn Q q .eql 3 (.tmp 23) (.tmp 24) x15 x16) (G8.room 30)) fun x17 _ =>
  bP (pickV x13 x17 (.bool false)) fun x18 =>
  bS (gP x18 true (fa Q q 270 1 1 x6) (G8.room 30)) fun x19 _ =>
  bS (gP x18 true (ld Q q 3 x19 (G8.room 30)) (G8.room 30)) fun x20 _ =>
  bS (gP x18 true (cv Q q 3 37 .i64 .u64 x20) (G8.room 30)) fun x21 _ =>
  bS (gP x18 true (fa Q q 91 0 0 x0) (G8.room 30)) fun x22 _ =>
  bS (gP x18 true (fa Q q 31 3 3 x22) (G8.room 30)) fun x23 _ =>
  bS (gP x18 true (fa Q q 29 0 0 x23) (G8.room 30)) fun x24 _ =>
  bS (gP x18 true (fa Q q 25 1 3 x24) (G8.room 30)) fun x25 _ =>
  bS (gP x18 true (ld Q q 3 x25 (G8.room 30)) (G8.room 30)) fun x26 _ =>
  bS (gV x18 true v2 (G8.room 30)) fun x27 _ =>
  bS (gP x18 true (bn Q q .add 3 (.tmp 35) (.tmp 36) x26 x27) (G8.room 30)) fun x28 _ =>
  bS (gP x18 true (lda Q q 91 15 x0 (G8.room 30)) (G8.room 30)) fun x29 _ =>
  bS (gd x18 true (some ((.func (.func 51) #[x29] #[]), (G8.room 30))) (G8.room 30)) fun x30 _ =>
  bS (gS x18 true (e.ev.cl 172 [x28, x30, (.int .u64 4294967296)] (G8.room 30)) (G8.room 30)) fun x32 G31 =>
  chk (((!(gB x18 true) || (!(gB x18 true) || sameO (ld Q q 3 x19 G31) x20)) && true)) <|
  bS (gP x18 true (bn Q q .eql 37 (.tmp 30) (.tmp 40) x21 x32) G31) fun x33 _ =>
  bP (pickV x18 x33 (.bool false)) fun x34 =>
  some (x34, G31)
theorem f104 (h : ExLe Q e (E orc)) (v0 v1 v2 : Value) (G : GS) : Ref (s104 true e v0 v1 v2 G) ((E orc).cl 104 [v0, v1, v2] G) := cS (S := fun q e => s104 q e v0 v1 v2 G) Tryz.func104 (by unfold s104; exact Ref.gq)
/-- coxswain/tower.At -/
def s105 (q : Bool) (e : Ex) (v0 v1 v2 : Value) (G : GS) : OG :=
  bS (bx q v0 G) fun x0 G1 =>
  bP (lda Q q 31 13 x0 G1) fun x2 =>
  bS (e.ev.cl 70 [x2] G1) fun x3 G4 =>
  bP (un Q q .not x3) fun x5 =>
  ifV x5 (
  some ((.int .i64 (-1)), G4)) (
  bP (bn Q q .neq 3 (.tmp 12) (.const (.int .i64 (-1))) v1 (.int .i64 (-1))) fun x6 =>
  ifV x6 (
  bP (lda Q q 31 13 x0 G4) fun x7 =>
  bS (e.ev.cl 167 [x7] G4) fun x8 G9 =>
  bS (e.ev.cl 173 [x8, v1, v2] G9) fun x10 G11 =>
  some (x10, G11)) (
  bP (bn Q q .lss 3 (.tmp 20) (.const (.int .i64 4)) v2 (.int .i64 4)) fun x12 =>
  bS (gV x12 false v2 G4) fun x13 G14 =>
  bS (gP x12 false (fa Q q 31 2 2 x0) G14) fun x15 G16 =>
  bS (gP x12 false (ld Q q 3 x15 G16) G16) fun x17 G18 =>
  bS (gP x12 false (bn Q q .add 3 (.const (.int .i64 4)) (.tmp 25) (.int .i64 4) x17) G18) fun x19 G20 =>
  bS (gP x12 false (bn Q q .geq 3 (.tmp 23) (.tmp 26) x13 x19) G20) fun x21 G22 =>
  bP (pickV x12 (.bool true) x21) fun x23 =>
  ifV x23 (
  some ((.int .i64 (-1)), G22)) (
  bP (lda Q q 31 13 x0 G22) fun x24 =>
  bS (e.ev.cl 169 [x24] G22) fun x25 G26 =>
  bP (bn Q q .sub 3 (.tmp 31) (.const (.int .i64 4)) v2 (.int .i64 4)) fun x27 =>
  bS (e.ev.cl 174 [x25, (.int .i64 0), x27] G26) fun x28 G29 =>
  some (x28, G29))))
theorem f105 (h : ExLe Q e (E orc)) (v0 v1 v2 : Value) (G : GS) : Ref (s105 true e v0 v1 v2 G) ((E orc).cl 105 [v0, v1, v2] G) := cS (S := fun q e => s105 q e v0 v1 v2 G) Tryz.func105 (by unfold s105; exact Ref.gq)
/-- (*coxswain/ready.work).pin$1 -/
def s106 (q : Bool) (e : Ex) (v0 : Value) (G : GS) : OG :=
  bP (ld Q q 115 v0 (G.room 12)) fun x0 =>
  nf q 97 0 0 x0 fun x2 =>
  bP (fa Q q 31 3 3 x2) fun x3 =>
  bP (fa Q q 29 1 6 x3) fun x4 =>
  bP (lda Q q 27 3 x4 (G.room 12)) fun x5 =>
  bP (ld Q q 115 v0 (G.room 12)) fun x6 =>
  nl q 97 1 13 3 x6 (G.room 12) fun x9 =>
  bS (e.ev.cl 107 [x5, x9] (G.room 12)) fun x11 G10 =>
  some (x11, G10)
theorem f106 (h : ExLe Q e (E orc)) (v0 : Value) (G : GS) : Ref (s106 true e v0 G) ((E orc).cl 106 [v0] G) := cS (S := fun q e => s106 q e v0 G) Tryz.func106 (by unfold s106; exact Ref.gq)
/-- coxswain/epoch.NewPin -/
def s107 (q : Bool) (e : Ex) (v0 v1 : Value) (G : GS) : OG :=
  bS (bx q v0 G) fun x0 G1 =>
  bP (bd Q q 277 z277 [(2, 4, 1)] [(.bool true)]) fun x2 =>
  bP (lda Q q 27 3 x0 G1) fun x3 =>
  bP (bd Q q 281 z281 [(0, 0, 6), (1, 6, 3)] [x2, x3]) fun x4 =>
  bS (bx q x4 G1) fun x5 G6 =>
  bP (lda Q q 27 3 x0 G6) fun x7 =>
  bS (e.ev.cl 175 [x7, v1] G6) fun x8 G9 =>
  ifV x8 (
  nf q 281 0 0 x5 fun x11 =>
  bS (e.ev.cl 176 [x11, (.int .i64 3)] G9) fun x12 G13 =>
  some (x5, G13)) (
  fl q 27 1 1 3 x0 G9 fun x15 =>
  bP (bn Q q .add 3 (.tmp 20) (.tmp 21) x15 v1) fun x16 =>
  nf q 281 2 9 x5 fun x18 =>
  bP (st Q q 3 1 x18 x16 G9) fun G19 =>
  bP (bd Q q 275 z275 [(0, 0, 1), (1, 1, 1), (2, 2, 1)] [(.func (.func 177) #[x5] #[]), (.func (.func 178) #[x5] #[]), (.func (.func 179) #[x5] #[])]) fun x20 =>
  nf q 281 0 0 x5 fun x22 =>
  bP (fa Q q 277 0 0 x22) fun x23 =>
  bP (st Q q 275 3 x23 x20 G19) fun G24 =>
  some (x5, G24))
theorem f107 (h : ExLe Q e (E orc)) (v0 v1 : Value) (G : GS) : Ref (s107 true e v0 v1 G) ((E orc).cl 107 [v0, v1] G) := cS (S := fun q e => s107 q e v0 v1 G) Tryz.func107 (by unfold s107; exact Ref.gq)
/-- (*coxswain/ready.work).pin$2 -/
def s108 (q : Bool) (e : Ex) (v0 v1 : Value) (G : GS) : OG :=
  bP (ld Q q 115 v1 (G.room 9)) fun x0 =>
  bS (e.ev.cl 109 [v0] (G.room 9)) fun x2 G1 =>
  chk ((sameO (ld Q q 115 v1 G1) x0 && true)) <|
  bP (pExtract x2 0) fun x3 =>
  bP (pExtract x2 1) fun x4 =>
  nf q 97 3 15 x0 fun x6 =>
  bP (st Q q 3 1 x6 x3 G1) fun G7 =>
  some (.tuple #[], G7)
theorem f108 (h : ExLe Q e (E orc)) (v0 v1 : Value) (G : GS) : Ref (s108 true e v0 v1 G) ((E orc).cl 108 [v0, v1] G) := cS (S := fun q e => s108 q e v0 v1 G) Tryz.func108 (by unfold s108; exact Ref.gq)
/-- (*coxswain/epoch.Pin).At -/
def s109 (q : Bool) (e : Ex) (v0 : Value) (G : GS) : OG :=
  bP (ep Q q false 179 (.tmp 5) (.const (.pointer none)) v0 (.pointer none)) fun x0 =>
  ifV x0 (
  some (.tuple #[(.int .i64 0), (.int .i64 1)], G)) (
  nf q 281 0 0 v0 fun x2 =>
  bS (e.ev.cl 180 [x2] G) fun x3 G4 =>
  bP (bn Q q .neq 38 (.tmp 11) (.const (.int .i64 0)) x3 (.int .i64 0)) fun x5 =>
  ifV x5 (
  some (.tuple #[(.int .i64 0), x3], G4)) (
  nl q 281 3 10 279 v0 G4 fun x8 =>
  bP (cv Q q 279 3 .u32 .i64 x8) fun x9 =>
  some (.tuple #[x9, (.int .i64 0)], G4)))
theorem f109 (h : ExLe Q e (E orc)) (v0 : Value) (G : GS) : Ref (s109 true e v0 G) ((E orc).cl 109 [v0] G) := cS (S := fun q e => s109 q e v0 G) Tryz.func109 (by unfold s109; exact Ref.gq)
/-- coxswain/claim.seek[coxswain/claim.taking] -/
def s110 (q : Bool) (e : Ex) (v0 : Value) (G : GS) : OG :=
  bS (bx q v0 G) fun x0 G1 =>
  bS (al Q q 192 z192 G1) fun x2 G3 =>
  bP (lda Q q 31 13 x0 G3) fun x4 =>
  bS (e.ev.cl 99 [x4, (.int .i64 (-1)), (.int .i64 0)] G3) fun x5 G6 =>
  bP (bn Q q .lss 3 (.tmp 4) (.const (.int .i64 0)) x5 (.int .i64 0)) fun x7 =>
  ifV x7 (
  bP (bd Q q 192 z192 [(8, 24, 1), (2, 17, 1), (9, 25, 1)] [(.bool true), (.int .i64 99), (.int .i64 2)]) fun x8 =>
  bP (st Q q 192 26 x2 x8 G6) fun G9 =>
  bP (lda Q q 192 26 x2 G9) fun x10 =>
  some (x10, G9)) (
  bP (lda Q q 31 13 x0 G6) fun x11 =>
  bP (bd Q q 192 z192 [(0, 0, 13), (8, 24, 1), (2, 17, 1)] [x11, (.bool true), (.int .i64 1)]) fun x12 =>
  bP (st Q q 192 26 x2 x12 G6) fun G13 =>
  bP (lda Q q 192 26 x2 G13) fun x14 =>
  some (x14, G13))
theorem f110 (h : ExLe Q e (E orc)) (v0 : Value) (G : GS) : Ref (s110 true e v0 G) ((E orc).cl 110 [v0] G) := cS (S := fun q e => s110 q e v0 G) Tryz.func110 (by unfold s110; exact Ref.gq)
/-- (*coxswain/claim.seeker[coxswain/claim.taking]).item -/
def s111 (q : Bool) (e : Ex) (v0 : Value) (G : GS) : OG :=
  bS (al Q q 45 z45 G) fun x0 G1 =>
  nl q 192 8 24 4 v0 G1 fun x4 =>
  bP (un Q q .not x4) fun x5 =>
  ifV x5 (
  bP (bd Q q 45 z45 [] []) fun x6 =>
  bP (st Q q 45 2 x0 x6 G1) fun G7 =>
  bP (lda Q q 45 2 x0 G7) fun x8 =>
  some (.tuple #[x8, (.int .i64 1)], G7)) (
  nl q 192 2 17 3 v0 G1 fun x11 =>
  bP (bn Q q .neq 3 (.tmp 15) (.const (.int .i64 99)) x11 (.int .i64 99)) fun x12 =>
  ifV x12 (
  bP (bd Q q 45 z45 [] []) fun x13 =>
  bP (st Q q 45 2 x0 x13 G1) fun G14 =>
  bP (lda Q q 45 2 x0 G14) fun x15 =>
  some (.tuple #[x15, (.int .i64 14)], G14)) (
  nl q 192 9 25 38 v0 G1 fun x18 =>
  bP (bn Q q .neq 38 (.tmp 22) (.const (.int .i64 0)) x18 (.int .i64 0)) fun x19 =>
  ifV x19 (
  bP (bd Q q 45 z45 [] []) fun x20 =>
  nf q 192 9 25 v0 fun x22 =>
  bP (ld Q q 38 x22 (G1.room 7)) fun x23 =>
  bP (st Q q 45 2 x0 x20 (G1.room 7)) fun G24 =>
  chk ((sameO (ld Q q 38 x22 G24) x23 && true)) <|
  bP (lda Q q 45 2 x0 G24) fun x25 =>
  some (.tuple #[x25, x23], G24)) (
  nf q 192 6 21 v0 fun x27 =>
  bP (lda Q q 45 2 x27 G1) fun x28 =>
  bP (st Q q 45 2 x0 x28 G1) fun G29 =>
  bP (lda Q q 45 2 x0 G29) fun x30 =>
  some (.tuple #[x30, (.int .i64 0)], G29))))
theorem f111 (h : ExLe Q e (E orc)) (v0 : Value) (G : GS) : Ref (s111 true e v0 G) ((E orc).cl 111 [v0] G) := cS (S := fun q e => s111 q e v0 G) Tryz.func111 (by unfold s111; exact Ref.gq)
/-- (*coxswain/ready.work).unpin$1 -/
def s112 (q : Bool) (e : Ex) (v0 : Value) (G : GS) : OG :=
  bP (ld Q q 115 v0 (G.room 12)) fun x0 =>
  nf q 97 0 0 x0 fun x2 =>
  bP (fa Q q 31 3 3 x2) fun x3 =>
  bP (fa Q q 29 1 6 x3) fun x4 =>
  bP (lda Q q 27 3 x4 (G.room 12)) fun x5 =>
  bP (ld Q q 115 v0 (G.room 12)) fun x6 =>
  nl q 97 1 13 3 x6 (G.room 12) fun x9 =>
  bS (e.ev.cl 113 [x5, x9] (G.room 12)) fun x11 G10 =>
  some (x11, G10)
theorem f112 (h : ExLe Q e (E orc)) (v0 : Value) (G : GS) : Ref (s112 true e v0 G) ((E orc).cl 112 [v0] G) := cS (S := fun q e => s112 q e v0 G) Tryz.func112 (by unfold s112; exact Ref.gq)
/-- coxswain/epoch.NewUnpin -/
def s113 (q : Bool) (e : Ex) (v0 v1 : Value) (G : GS) : OG :=
  bS (bx q v0 G) fun x0 G1 =>
  bP (bd Q q 277 z277 [(2, 4, 1)] [(.bool true)]) fun x2 =>
  fl q 27 1 1 3 x0 G1 fun x4 =>
  bP (bn Q q .add 3 (.tmp 8) (.tmp 9) x4 v1) fun x5 =>
  bP (bd Q q 286 z286 [(0, 0, 6), (1, 6, 1)] [x2, x5]) fun x6 =>
  bS (bx q x6 G1) fun x7 G8 =>
  bP (lda Q q 27 3 x0 G8) fun x9 =>
  bS (e.ev.cl 175 [x9, v1] G8) fun x10 G11 =>
  ifV x10 (
  nf q 286 0 0 x7 fun x13 =>
  bS (e.ev.cl 176 [x13, (.int .i64 3)] G11) fun x14 G15 =>
  some (x7, G15)) (
  nf q 286 0 0 x7 fun x17 =>
  bP (fa Q q 277 0 0 x17) fun x18 =>
  bP (iaa Q q 275 3 1 x18 (.int .i64 0)) fun x19 =>
  bP (st Q q 274 1 x19 (.func (.func 181) #[x7] #[]) G11) fun G20 =>
  some (x7, G20))
theorem f113 (h : ExLe Q e (E orc)) (v0 v1 : Value) (G : GS) : Ref (s113 true e v0 v1 G) ((E orc).cl 113 [v0, v1] G) := cS (S := fun q e => s113 q e v0 v1 G) Tryz.func113 (by unfold s113; exact Ref.gq)
/-- (*coxswain/ready.work).told -/
def s114 (q : Bool) (e : Ex) (v0 : Value) (G : GS) : OG :=
  nl q 97 2 14 4 v0 G fun x2 =>
  bP (un Q q .not x2) fun x3 =>
  ifV x3 (
  some ((.int .i64 1), G)) (
  nl q 97 4 16 95 v0 G fun x6 =>
  bP (ln Q q 95 x6) fun x7 =>
  bP (bn Q q .gtr 3 (.tmp 14) (.const (.int .i64 0)) x7 (.int .i64 0)) fun x8 =>
  ifV x8 (
  some ((.int .i64 14), G)) (
  nl q 97 6 18 38 v0 G fun x11 =>
  some (x11, G)))
theorem f114 (h : ExLe Q e (E orc)) (v0 : Value) (G : GS) : Ref (s114 true e v0 G) ((E orc).cl 114 [v0] G) := cS (S := fun q e => s114 q e v0 G) Tryz.func114 (by unfold s114; exact Ref.gq)
def b115_0 (q : Bool) (e : Ex) (lp : LpF) (τ : Env) (G : GS) : OL :=
  bV q (τ 2) fun a2_ =>
  bV q (τ 3) fun a3_ =>
  bV q (τ 7) fun a7_ =>
  bP (fa Q q 91 0 0 a3_) fun x0 =>
  bP (fa Q q 31 2 2 x0) fun x1 =>
  bP (ld Q q 3 x1 G) fun x2 =>
  bP (bn Q q .lss 3 (.tmp 9) (.tmp 12) a7_ x2) fun x3 =>
  ifV x3 (
  bP (fa Q q 91 0 0 a3_) fun x4 =>
  bP (lda Q q 31 13 x4 G) fun x5 =>
  bP (fa Q q 91 1 13 a3_) fun x6 =>
  bP (ld Q q 33 x6 G) fun x7 =>
  bS (e.ev.cl 102 [x5, a7_, x7] G) fun x8 G9 =>
  bS (cValue e.ev a2_ [a7_, x8] G9) fun x10 G11 =>
  bP (un Q q .not x10) fun x12 =>
  ifV x12 (
  some (.ret, xq q 26 τ [(6, (.bool false)), (25, x12), (24, x10), (23, x8), (22, x7), (21, x6), (20, a7_), (19, x5), (18, x4), (17, a7_), (16, a2_), (13, x3), (12, x2), (11, x1), (10, x0), (9, a7_)] [(2, a2_), (3, a3_), (7, a7_)], G11)) (
  bP (bn Q q .add 3 (.tmp 14) (.const (.int .i64 1)) a7_ (.int .i64 1)) fun x13 =>
  lp (xq q 26 τ [(7, x13), (15, x13), (14, a7_), (25, x12), (24, x10), (23, x8), (22, x7), (21, x6), (20, a7_), (19, x5), (18, x4), (17, a7_), (16, a2_), (13, x3), (12, x2), (11, x1), (10, x0), (9, a7_)] [(2, a2_), (3, a3_)]) G11)) (
  some ((.exit 0), xq q 26 τ [(13, x3), (12, x2), (11, x1), (10, x0), (9, a7_)] [(2, a2_), (3, a3_), (7, a7_)], G))
theorem l115_0 (h : ExLe Q e (E orc)) : LT orc 26 (subAt [1, 0, 1, 0, 0] (bodyOf Tryz.f115)) (b115_0 true e) := cL fun hlp τ G => by unfold b115_0; exact Ref.gq
/-- (coxswain/audit.whole).levels -/
def s115 (q : Bool) (e : Ex) (v0 v1 v2 : Value) (G : GS) : OG :=
  bS (bx q v0 G) fun x0 G1 =>
  bLq q e 115 0 (subAt [1, 0, 1, 0, 0] (bodyOf Tryz.f115)) 26 (nth undef [v0, v1, v2]) [(7, v1), (8, v1), (6, (.bool false)), (3, x0)] [] G1 fun e2 t3 G4 =>
  bV q (t3 6) fun t3x6_ =>
  ifE e2 (.exit 0) (
  some ((.bool true), G4)) (ifE e2 .ret (
  some (t3x6_, G4)) (none))
theorem f115 (h : ExLe Q e (E orc)) (v0 v1 v2 : Value) (G : GS) : Ref (s115 true e v0 v1 v2 G) ((E orc).cl 115 [v0, v1, v2] G) := cS (S := fun q e => s115 q e v0 v1 v2 G) Tryz.func115 (by unfold s115; exact Ref.gq)
def b116_0 (q : Bool) (e : Ex) (lp : LpF) (τ : Env) (G : GS) : OL :=
  bV q (τ 0) fun a0_ =>
  bV q (τ 2) fun a2_ =>
  bV q (τ 6) fun a6_ =>
  bV q (τ 9) fun a9_ =>
  bV q (τ 10) fun a10_ =>
  bV q (τ 11) fun a11_ =>
  bP (bn Q q .lss 3 (.tmp 11) (.tmp 10) a11_ a10_) fun x0 =>
  ifV x0 (
  bP (ias Q q 127 1 a9_ a11_) fun x1 =>
  bP (ld Q q 3 x1 G) fun x2 =>
  bP (lda Q q 91 15 a2_ (G.room 11)) fun x3 =>
  bP (lda Q q 91 15 a2_ (G.room 11)) fun x4 =>
  bP (fa Q q 91 0 0 a2_) fun x5 =>
  bP (lda Q q 31 13 x5 (G.room 11)) fun x6 =>
  bS (e.ev.cl 99 [x6, a6_, a0_] (G.room 11)) fun x8 G7 =>
  chk ((sameO (lda Q q 91 15 a2_ G7) x4 && (sameO (lda Q q 91 15 a2_ G7) x3 && true))) <|
  bS (e.ev.cl 51 [x4, x8] G7) fun x10 G9 =>
  chk ((sameO (lda Q q 91 15 a2_ G9) x3 && true)) <|
  bS (e.ev.cl 104 [x3, x10, x2] G9) fun x12 G11 =>
  bP (un Q q .not x12) fun x13 =>
  ifV x13 (
  some (.ret, xq q 36 τ [(5, (.bool false)), (25, x13), (24, x12), (23, x2), (22, x10), (21, x8), (20, a0_), (19, a6_), (18, x6), (17, x5), (16, x4), (15, x3), (8, x2), (14, x2), (13, x1), (12, x0)] [(0, a0_), (2, a2_), (6, a6_), (9, a9_), (10, a10_), (11, a11_)], G11)) (
  bP (bn Q q .add 3 (.tmp 11) (.const (.int .i64 1)) a11_ (.int .i64 1)) fun x14 =>
  lp (xq q 36 τ [(11, x14), (27, x14), (6, x2), (26, x2), (25, x13), (24, x12), (23, x2), (22, x10), (21, x8), (20, a0_), (19, a6_), (18, x6), (17, x5), (16, x4), (15, x3), (8, x2), (14, x2), (13, x1), (12, x0)] [(0, a0_), (2, a2_), (9, a9_), (10, a10_)]) G11)) (
  some ((.exit 0), xq q 36 τ [(12, x0)] [(0, a0_), (2, a2_), (6, a6_), (9, a9_), (10, a10_), (11, a11_)], G))
theorem l116_0 (h : ExLe Q e (E orc)) : LT orc 36 (subAt [1, 1, 0, 1, 0, 0] (bodyOf Tryz.f116)) (b116_0 true e) := cL fun hlp τ G => by unfold b116_0; exact Ref.gq
/-- (coxswain/audit.whole).linked$1 -/
def s116 (q : Bool) (e : Ex) (v0 v1 v2 : Value) (G : GS) : OG :=
  bP (ln Q q 127 v1) fun x0 =>
  bLq q e 116 0 (subAt [1, 1, 0, 1, 0, 0] (bodyOf Tryz.f116)) 36 (nth undef [v0, v1, v2]) [(11, (.int .i64 0)), (10, x0), (9, v1), (6, (.int .i64 (-1))), (5, (.bool false))] [] G fun e1 t2 G3 =>
  bV q (t2 0) fun t2x0_ =>
  bV q (t2 2) fun t2x2_ =>
  bV q (t2 5) fun t2x5_ =>
  bV q (t2 6) fun t2x6_ =>
  ifE e1 (.exit 0) (
  bP (lda Q q 91 15 t2x2_ (G3.room 9)) fun x4 =>
  bP (fa Q q 91 0 0 t2x2_) fun x5 =>
  bP (lda Q q 31 13 x5 (G3.room 9)) fun x6 =>
  bS (e.ev.cl 99 [x6, t2x6_, t2x0_] (G3.room 9)) fun x8 G7 =>
  chk ((sameO (lda Q q 91 15 t2x2_ G7) x4 && true)) <|
  bS (e.ev.cl 51 [x4, x8] G7) fun x10 G9 =>
  bP (bn Q q .eql 37 (.tmp 34) (.const (.int .u64 0)) x10 (.int .u64 0)) fun x11 =>
  some (x11, G9)) (ifE e1 .ret (
  some (t2x5_, G3)) (none))
theorem f116 (h : ExLe Q e (E orc)) (v0 v1 v2 : Value) (G : GS) : Ref (s116 true e v0 v1 v2 G) ((E orc).cl 116 [v0, v1, v2] G) := cS (S := fun q e => s116 q e v0 v1 v2 G) Tryz.func116 (by unfold s116; exact Ref.gq)
/-- (coxswain/audit.whole).rises$1 -/
def s117 (q : Bool) (e : Ex) (v0 v1 : Value) (G : GS) : OG :=
  bP (lda Q q 91 15 v1 (G.room 7)) fun x0 =>
  bP (fa Q q 91 0 0 v1) fun x1 =>
  bP (lda Q q 31 13 x1 (G.room 7)) fun x2 =>
  bS (e.ev.cl 105 [x2, v0, (.int .i64 0)] (G.room 7)) fun x4 G3 =>
  chk ((sameO (lda Q q 91 15 v1 G3) x0 && true)) <|
  bS (e.ev.cl 51 [x0, x4] G3) fun x6 G5 =>
  some (x6, G5)
theorem f117 (h : ExLe Q e (E orc)) (v0 v1 : Value) (G : GS) : Ref (s117 true e v0 v1 G) ((E orc).cl 117 [v0, v1] G) := cS (S := fun q e => s117 q e v0 v1 G) Tryz.func117 (by unfold s117; exact Ref.gq)
def b118_0 (q : Bool) (e : Ex) (lp : LpF) (τ : Env) (G : GS) : OL :=
  bV q (τ 1) fun a1_ =>
  bV q (τ 2) fun a2_ =>
  bV q (τ 6) fun a6_ =>
  bP (ln Q q 127 a1_) fun x0 =>
  bP (bn Q q .lss 3 (.tmp 7) (.tmp 9) a6_ x0) fun x1 =>
  ifV x1 (
  bP (ld Q q 116 a2_ (G.room 14)) fun x2 =>
  bP (ias Q q 127 1 a1_ a6_) fun x3 =>
  bP (ld Q q 3 x3 (G.room 14)) fun x4 =>
  bS (cValue e.ev x2 [x4] (G.room 14)) fun x6 G5 =>
  bP (ld Q q 116 a2_ G5) fun x7 =>
  chk ((sameO (ld Q q 116 a2_ (G.room 14)) x7 && true)) <|
  bP (bn Q q .sub 3 (.tmp 21) (.const (.int .i64 1)) a6_ (.int .i64 1)) fun x8 =>
  bP (ias Q q 127 1 a1_ x8) fun x9 =>
  bP (ld Q q 3 x9 G5) fun x10 =>
  chk ((sameO (ld Q q 3 x9 (G.room 14)) x10 && true)) <|
  bS (cValue e.ev x7 [x10] G5) fun x12 G11 =>
  bP (bn Q q .leq 37 (.tmp 18) (.tmp 25) x6 x12) fun x13 =>
  ifV x13 (
  some (.ret, xq q 27 τ [(5, (.bool false)), (26, x13), (25, x12), (24, x10), (23, x9), (22, x8), (21, a6_), (20, a1_), (19, x7), (18, x6), (17, x4), (16, x3), (15, a6_), (14, a1_), (13, x2), (10, x1), (9, x0), (8, a1_), (7, a6_)] [(1, a1_), (2, a2_), (6, a6_)], G11)) (
  bP (bn Q q .add 3 (.tmp 11) (.const (.int .i64 1)) a6_ (.int .i64 1)) fun x14 =>
  lp (xq q 27 τ [(6, x14), (12, x14), (11, a6_), (26, x13), (25, x12), (24, x10), (23, x9), (22, x8), (21, a6_), (20, a1_), (19, x7), (18, x6), (17, x4), (16, x3), (15, a6_), (14, a1_), (13, x2), (10, x1), (9, x0), (8, a1_), (7, a6_)] [(1, a1_), (2, a2_)]) G11)) (
  some ((.exit 0), xq q 27 τ [(10, x1), (9, x0), (8, a1_), (7, a6_)] [(1, a1_), (2, a2_), (6, a6_)], G))
theorem l118_0 (h : ExLe Q e (E orc)) : LT orc 27 (subAt [1, 0, 1, 0, 0] (bodyOf Tryz.f118)) (b118_0 true e) := cL fun hlp τ G => by unfold b118_0; exact Ref.gq
/-- (coxswain/audit.whole).rises$2 -/
def s118 (q : Bool) (e : Ex) (v0 v1 v2 : Value) (G : GS) : OG :=
  bLq q e 118 0 (subAt [1, 0, 1, 0, 0] (bodyOf Tryz.f118)) 27 (nth undef [v0, v1, v2]) [(6, (.int .i64 1)), (5, (.bool false))] [] G fun e0 t1 G2 =>
  bV q (t1 5) fun t1x5_ =>
  ifE e0 (.exit 0) (
  some ((.bool true), G2)) (ifE e0 .ret (
  some (t1x5_, G2)) (none))
theorem f118 (h : ExLe Q e (E orc)) (v0 v1 v2 : Value) (G : GS) : Ref (s118 true e v0 v1 v2 G) ((E orc).cl 118 [v0, v1, v2] G) := cS (S := fun q e => s118 q e v0 v1 v2 G) Tryz.func118 (by unfold s118; exact Ref.gq)
def b119_0 (q : Bool) (e : Ex) (lp : LpF) (τ : Env) (G : GS) : OL :=
  bV q (τ 0) fun a0_ =>
  bV q (τ 1) fun a1_ =>
  bV q (τ 3) fun a3_ =>
  bV q (τ 9) fun a9_ =>
  bV q (τ 10) fun a10_ =>
  bV q (τ 11) fun a11_ =>
  bP (bn Q q .lss 3 (.tmp 11) (.tmp 10) a11_ a10_) fun x0 =>
  ifV x0 (
  bP (ias Q q 127 1 a9_ a11_) fun x1 =>
  bP (ld Q q 3 x1 G) fun x2 =>
  bP (lda Q q 91 15 a3_ (G.room 9)) fun x3 =>
  bP (fa Q q 91 0 0 a3_) fun x4 =>
  bP (lda Q q 31 13 x4 (G.room 9)) fun x5 =>
  bS (e.ev.cl 105 [x5, x2, (.int .i64 2)] (G.room 9)) fun x7 G6 =>
  chk ((sameO (lda Q q 91 15 a3_ G6) x3 && true)) <|
  bS (e.ev.cl 51 [x3, x7] G6) fun x9 G8 =>
  bP (cv Q q 3 37 .i64 .u64 a0_) fun x10 =>
  bP (bn Q q .leq 37 (.tmp 20) (.tmp 22) x9 x10) fun x11 =>
  ifV x11 (
  bP (bn Q q .add 3 (.tmp 11) (.const (.int .i64 1)) a11_ (.int .i64 1)) fun x12 =>
  lp (xq q 40 τ [(11, x12), (36, x12), (23, x11), (22, x10), (21, a0_), (20, x9), (19, x7), (18, x2), (17, x5), (16, x4), (15, x3), (8, x2), (14, x2), (13, x1), (12, x0)] [(0, a0_), (1, a1_), (3, a3_), (9, a9_), (10, a10_)]) G8) (
  bP (ln Q q 127 a1_) fun x13 =>
  bP (bn Q q .eql 3 (.tmp 25) (.const (.int .i64 0)) x13 (.int .i64 0)) fun x14 =>
  bS (gV x14 false a1_ G8) fun x15 G16 =>
  bS (gP x14 false (ias Q q 127 1 x15 (.int .i64 0)) G16) fun x17 G18 =>
  bS (gP x14 false (ld Q q 3 x17 G18) G18) fun x19 G20 =>
  bS (gV x14 false x2 G20) fun x21 G22 =>
  bS (gP x14 false (bn Q q .neq 3 (.tmp 30) (.tmp 31) x19 x21) G22) fun x23 G24 =>
  bP (pickV x14 (.bool true) x23) fun x25 =>
  ifV x25 (
  some (.ret, xq q 40 τ [(6, (.bool false)), (33, x25), (32, x23), (31, x21), (30, x19), (29, x17), (28, x15), (27, x14), (26, x14), (25, x13), (24, a1_), (23, x11), (22, x10), (21, a0_), (20, x9), (19, x7), (18, x2), (17, x5), (16, x4), (15, x3), (8, x2), (14, x2), (13, x1), (12, x0)] [(0, a0_), (1, a1_), (3, a3_), (9, a9_), (10, a10_), (11, a11_)], G24)) (
  bP (sl Q q 127 1 a1_ (some (.int .i64 1)) none none G24) fun x26 =>
  bP (bn Q q .add 3 (.tmp 11) (.const (.int .i64 1)) a11_ (.int .i64 1)) fun x27 =>
  lp (xq q 40 τ [(11, x27), (36, x27), (1, x26), (35, x26), (34, a1_), (33, x25), (32, x23), (31, x21), (30, x19), (29, x17), (28, x15), (27, x14), (26, x14), (25, x13), (24, a1_), (23, x11), (22, x10), (21, a0_), (20, x9), (19, x7), (18, x2), (17, x5), (16, x4), (15, x3), (8, x2), (14, x2), (13, x1), (12, x0)] [(0, a0_), (3, a3_), (9, a9_), (10, a10_)]) G24))) (
  some ((.exit 0), xq q 40 τ [(12, x0)] [(0, a0_), (1, a1_), (3, a3_), (9, a9_), (10, a10_), (11, a11_)], G))
theorem l119_0 (h : ExLe Q e (E orc)) : LT orc 40 (subAt [1, 0, 1, 0, 0] (bodyOf Tryz.f119)) (b119_0 true e) := cL fun hlp τ G => by unfold b119_0; exact Ref.gq
/-- (coxswain/audit.whole).stands$1 -/
def s119 (q : Bool) (e : Ex) (v0 v1 v2 v3 : Value) (G : GS) : OG :=
  bP (ld Q q 127 v2 G) fun x0 =>
  bP (ln Q q 127 x0) fun x1 =>
  bLq q e 119 0 (subAt [1, 0, 1, 0, 0] (bodyOf Tryz.f119)) 40 (nth undef [v0, v1, v2, v3]) [(11, (.int .i64 0)), (10, x1), (9, x0), (6, (.bool false))] [] G fun e2 t3 G4 =>
  bV q (t3 1) fun t3x1_ =>
  bV q (t3 6) fun t3x6_ =>
  ifE e2 (.exit 0) (
  bP (ln Q q 127 t3x1_) fun x5 =>
  bP (bn Q q .eql 3 (.tmp 38) (.const (.int .i64 0)) x5 (.int .i64 0)) fun x6 =>
  some (x6, G4)) (ifE e2 .ret (
  some (t3x6_, G4)) (none))
theorem f119 (h : ExLe Q e (E orc)) (v0 v1 v2 v3 : Value) (G : GS) : Ref (s119 true e v0 v1 v2 v3 G) ((E orc).cl 119 [v0, v1, v2, v3] G) := cS (S := fun q e => s119 q e v0 v1 v2 v3 G) Tryz.func119 (by unfold s119; exact Ref.gq)
/-- coxswain/epoch.Pinned -/
def s120 (q : Bool) (e : Ex) (v0 v1 : Value) (G : GS) : OG :=
  bS (bx q v0 G) fun x0 G1 =>
  bP (lda Q q 27 3 x0 G1) fun x2 =>
  bS (e.ev.cl 182 [x2] G1) fun x3 G4 =>
  bP (un Q q .not x3) fun x5 =>
  ifV x5 (
  some ((.slice none 0 0), G4)) (
  bS (al Q q 127 z127 G4) fun x6 G7 =>
  bS (e.ev.cl 34 [v1] G7) fun x8 G9 =>
  bS (al Q q 54 z54 G9) fun x10 G11 =>
  bP (st Q q 54 1 x10 x8 G11) fun G12 =>
  bP (lda Q q 27 3 x0 G12) fun x13 =>
  bS (e.ev.cl 183 [x13] G12) fun x14 G15 =>
  bX (xRange e.ev x14 #[18, 19] (subAt [1, 1, 1, 1, 0, 1, 0, 0] (bodyOf Tryz.f120)) (subAt [1, 1, 1, 1, 0, 1, 0, 1] (bodyOf Tryz.f120)) (lsq q 34 (nth undef [v0, v1]) [(17, x14), (16, x13), (6, x10), (15, x8), (14, v1), (5, x6), (13, x5), (12, x3), (11, x2), (4, (.slice none 0 0)), (2, x0)]) G15) fun e16 T17 G18 =>
  bV q (nth undef T17 5) fun T17x5_ =>
  ifE e16 .normal (
  bP (ld Q q 127 T17x5_ G18) fun x19 =>
  some (x19, G18)) (none))
theorem f120 (h : ExLe Q e (E orc)) (v0 v1 : Value) (G : GS) : Ref (s120 true e v0 v1 G) ((E orc).cl 120 [v0, v1] G) := cS (S := fun q e => s120 q e v0 v1 G) Tryz.func120 (by unfold s120; exact Ref.gq)
def r120_0 (q : Bool) (e : Ex) (l : Nat) (τ : Env) (u0 u1 : Value) (G : GS) : OG :=
  bV q (τ 5) fun a5_ =>
  bV q (τ 6) fun a6_ =>
  bP (G.loop l) fun r0 => if r0.st = .ready then
  bP (ld Q q 54 a6_ (G.putLoop l (Lp.setSt r0 .busy))) fun x1 =>
  bS (e.ev.cl 184 [x1, u1] (G.putLoop l (Lp.setSt r0 .busy))) fun x2 G3 =>
  bP (bn Q q .neq 37 (.tmp 23) (.const (.int .u64 0)) x2 (.int .u64 0)) fun x4 =>
  ifV x4 (
  bP (bn Q q .sub 37 (.tmp 25) (.const (.int .u64 1)) x2 (.int .u64 1)) fun x5 =>
  bP (cv Q q 37 279 .u64 .u32 x5) fun x6 =>
  bP (cv Q q 279 3 .u32 .i64 x6) fun x7 =>
  bP (ld Q q 127 a5_ G3) fun x8 =>
  bS (bs Q q 127 1 (rep z3 1) 1 [(0, 0, 1)] [x7] G3) fun x9 G10 =>
  bS (ap Q q 127 127 1 8 x8 x9 G10) fun x11 G12 =>
  bP (st Q q 127 1 a5_ x11 G12) fun G13 =>
  roundEnd l .normal G13) (
  bP (ld Q q 127 a5_ G3) fun x14 =>
  bS (bs Q q 127 1 (rep z3 1) 1 [(0, 0, 1)] [(.int .i64 (-1))] G3) fun x15 G16 =>
  bS (ap Q q 127 127 1 8 x14 x15 G16) fun x17 G18 =>
  bP (st Q q 127 1 a5_ x17 G18) fun G19 =>
  roundEnd l .normal G19)
  else none
theorem mr120_0 {e : Ex} {E : Ev} (h : ExLe Q e E) (l : Nat) (τ : Env) (u0 u1 : Value) (G : GS) : Ref (r120_0 true e l τ u0 u1 G) (r120_0 false (Ex.of E) l τ u0 u1 G) := by
  unfold r120_0
  repeat' (with_reducible first | exact Ref.rfl' _ | exact ROp.r | refine Ref.bP ?_ fun _ => ?_ | refine Ref.bS ?_ fun _ _ => ?_ | exact Ref.cl (by assumption) | refine Ref.ifV ?_ ?_ | refine LpLe.rx (by assumption) ?_ | refine Ref.xitq ?_ | exact UOk.z | refine UOk.c (by assumption) ?_ | exact Ref.nil _ | refine Ref.bVe fun _ _ => ?_ | refine Ref.bLq (by assumption) ?_ fun _ _ _ => ?_ | refine Ref.ifE ?_ ?_ | refine Ref.chk ?_ ?_ | refine Imp.and ?_ ?_ | refine Imp.or ?_ | exact Imp.rfl' _ | refine Imp.sameO ?_ | refine Ref.gd ?_ | exact Ref.cValue (by assumption) | refine Ref.bX ?_ fun _ _ _ => ?_ | exact Ref.scQ (by assumption) | exact Ref.xRangeQ (by assumption) | exact Ref.cInvoke (by assumption) | refine Ref.rdy ?_)
theorem d120_0 {orc : FuncId → Bool} {e : Ex} (h : ExLe Q e (E orc)) (l : Nat) (T : List Value) (u0 u1 : Value) (G : GS) {st : LoopState} {pend : Option Code} (hl : G.loop l = some ⟨st, pend, T, [18, 19], (subAt [1, 1, 1, 1, 0, 1, 0, 0] (bodyOf Tryz.f120)), (subAt [1, 1, 1, 1, 0, 1, 0, 1] (bodyOf Tryz.f120))⟩) (hT : T.length = 34) : Ref (r120_0 true e l (nth undef T) u0 u1 G) ((E orc).rd l [u0, u1] G) :=
  fun r hr => rd_sxE Q orc hl (by kernel_rfl) hT (by kernel_rfl) (mr120_0 h l _ u0 u1 G r hr)
/-- (*coxswain/cells.place).is -/
def s121 (q : Bool) (e : Ex) (v0 : Value) (G : GS) : OG :=
  bP (ep Q q true 119 (.tmp 3) (.const (.pointer none)) v0 (.pointer none)) fun x0 =>
  some (x0, G)
theorem f121 (h : ExLe Q e (E orc)) (v0 : Value) (G : GS) : Ref (s121 true e v0 G) ((E orc).cl 121 [v0] G) := cS (S := fun q e => s121 q e v0 G) Tryz.func121 (by unfold s121; exact Ref.gq)
def b129_0 (q : Bool) (e : Ex) (lp : LpF) (τ : Env) (G : GS) : OL :=
  bV q (τ 1) fun a1_ =>
  bV q (τ 2) fun a2_ =>
  bV q (τ 18) fun a18_ =>
  bV q (τ 19) fun a19_ =>
  bP (bn Q q .lss 3 (.tmp 19) (.tmp 18) a19_ a18_) fun x0 =>
  ifV x0 (
  bP (fa Q q 25 1 3 a2_) fun x1 =>
  bP (ld Q q 3 x1 G) fun x2 =>
  bP (bn Q q .add 3 (.tmp 24) (.tmp 25) x2 a19_) fun x3 =>
  bS (e.ev.cl 16 [a1_, x3, (.int .u64 1)] G) fun x4 G5 =>
  bP (bn Q q .add 3 (.tmp 19) (.const (.int .i64 1)) a19_ (.int .i64 1)) fun x6 =>
  lp (xq q 29 τ [(19, x6), (28, x6), (27, x4), (26, x3), (25, a19_), (24, x2), (23, x1), (22, a1_), (4, a19_), (21, a19_), (20, x0)] [(1, a1_), (2, a2_), (18, a18_)]) G5) (
  some ((.exit 0), xq q 29 τ [(20, x0)] [(1, a1_), (2, a2_), (18, a18_), (19, a19_)], G))
theorem l129_0 (h : ExLe Q e (E orc)) : LT orc 29 (subAt [1, 1, 1, 1, 1, 0, 0] (bodyOf Tryz.f129)) (b129_0 true e) := cL fun hlp τ G => by unfold b129_0; exact Ref.gq
/-- coxswain/arena.Fill -/
def s129 (q : Bool) (e : Ex) (v0 v1 : Value) (G : GS) : OG :=
  bS (bx q v0 G) fun x0 G1 =>
  bP (lda Q q 25 6 x0 G1) fun x2 =>
  bS (e.ev.cl 187 [x2] G1) fun x3 G4 =>
  bP (un Q q .not x3) fun x5 =>
  ifV x5 (
  some (.tuple #[], G4)) (
  bP (fa Q q 25 0 0 x0) fun x6 =>
  bP (lda Q q 23 3 x6 G4) fun x7 =>
  bS (e.ev.cl 188 [x7, v1] G4) fun x8 G9 =>
  bP (fa Q q 25 2 4 x0) fun x10 =>
  bP (ld Q q 3 x10 G9) fun x11 =>
  bS (e.ev.cl 16 [v1, x11, (.int .u64 0)] G9) fun x12 G13 =>
  bP (fa Q q 25 0 0 x0) fun x14 =>
  bP (fa Q q 23 2 2 x14) fun x15 =>
  bP (ld Q q 3 x15 G13) fun x16 =>
  bLq q e 129 0 (subAt [1, 1, 1, 1, 1, 0, 0] (bodyOf Tryz.f129)) 29 (nth undef [v0, v1]) [(19, (.int .i64 0)), (18, x16), (17, x15), (16, x14), (15, x12), (14, x11), (13, x10), (12, v1), (11, x8), (10, v1), (9, x7), (8, x6), (7, x5), (6, x3), (5, x2), (2, x0)] [] G13 fun e17 t18 G19 =>
  ifE e17 (.exit 0) (
  some (.tuple #[], G19)) (none))
theorem f129 (h : ExLe Q e (E orc)) (v0 v1 : Value) (G : GS) : Ref (s129 true e v0 v1 G) ((E orc).cl 129 [v0, v1] G) := cS (S := fun q e => s129 q e v0 v1 G) Tryz.func129 (by unfold s129; exact Ref.gq)
/-- coxswain/epoch.Fill -/
def s130 (q : Bool) (e : Ex) (v0 v1 : Value) (G : GS) : OG :=
  bS (bx q v0 G) fun x0 G1 =>
  bS (bx q v1 G1) fun x2 G3 =>
  bP (lda Q q 27 3 x0 G3) fun x4 =>
  bS (e.ev.cl 182 [x4] G3) fun x5 G6 =>
  bP (un Q q .not x5) fun x7 =>
  ifV x7 (
  some (.tuple #[], G6)) (
  bP (ld Q q 33 x2 G6) fun x8 =>
  bP (fa Q q 27 0 0 x0) fun x9 =>
  bP (ld Q q 3 x9 G6) fun x10 =>
  bS (e.ev.cl 16 [x8, x10, (.int .u64 0)] G6) fun x11 G12 =>
  bP (lda Q q 27 3 x0 G12) fun x13 =>
  bS (e.ev.cl 183 [x13] G12) fun x14 G15 =>
  bX (xRange e.ev x14 #[15, 16] (subAt [1, 1, 1, 1, 0, 0] (bodyOf Tryz.f130)) (subAt [1, 1, 1, 1, 0, 1] (bodyOf Tryz.f130)) (lsq q 20 (nth undef [v0, v1]) [(14, x14), (13, x13), (12, x11), (11, x10), (10, x9), (9, x8), (8, x7), (7, x5), (6, x4), (3, x2), (2, x0)]) G15) fun e16 T17 G18 =>
  ifE e16 .normal (
  some (.tuple #[], G18)) (none))
theorem f130 (h : ExLe Q e (E orc)) (v0 v1 : Value) (G : GS) : Ref (s130 true e v0 v1 G) ((E orc).cl 130 [v0, v1] G) := cS (S := fun q e => s130 q e v0 v1 G) Tryz.func130 (by unfold s130; exact Ref.gq)
def r130_0 (q : Bool) (e : Ex) (l : Nat) (τ : Env) (u0 u1 : Value) (G : GS) : OG :=
  bV q (τ 3) fun a3_ =>
  bP (G.loop l) fun r0 => if r0.st = .ready then
  bP (ld Q q 33 a3_ (G.putLoop l (Lp.setSt r0 .busy))) fun x1 =>
  bS (e.ev.cl 16 [x1, u1, (.int .u64 0)] (G.putLoop l (Lp.setSt r0 .busy))) fun x2 G3 =>
  roundEnd l .normal G3
  else none
theorem mr130_0 {e : Ex} {E : Ev} (h : ExLe Q e E) (l : Nat) (τ : Env) (u0 u1 : Value) (G : GS) : Ref (r130_0 true e l τ u0 u1 G) (r130_0 false (Ex.of E) l τ u0 u1 G) := by
  unfold r130_0
  repeat' (with_reducible first | exact Ref.rfl' _ | exact ROp.r | refine Ref.bP ?_ fun _ => ?_ | refine Ref.bS ?_ fun _ _ => ?_ | exact Ref.cl (by assumption) | refine Ref.ifV ?_ ?_ | refine LpLe.rx (by assumption) ?_ | refine Ref.xitq ?_ | exact UOk.z | refine UOk.c (by assumption) ?_ | exact Ref.nil _ | refine Ref.bVe fun _ _ => ?_ | refine Ref.bLq (by assumption) ?_ fun _ _ _ => ?_ | refine Ref.ifE ?_ ?_ | refine Ref.chk ?_ ?_ | refine Imp.and ?_ ?_ | refine Imp.or ?_ | exact Imp.rfl' _ | refine Imp.sameO ?_ | refine Ref.gd ?_ | exact Ref.cValue (by assumption) | refine Ref.bX ?_ fun _ _ _ => ?_ | exact Ref.scQ (by assumption) | exact Ref.xRangeQ (by assumption) | exact Ref.cInvoke (by assumption) | refine Ref.rdy ?_)
theorem d130_0 {orc : FuncId → Bool} {e : Ex} (h : ExLe Q e (E orc)) (l : Nat) (T : List Value) (u0 u1 : Value) (G : GS) {st : LoopState} {pend : Option Code} (hl : G.loop l = some ⟨st, pend, T, [15, 16], (subAt [1, 1, 1, 1, 0, 0] (bodyOf Tryz.f130)), (subAt [1, 1, 1, 1, 0, 1] (bodyOf Tryz.f130))⟩) (hT : T.length = 20) : Ref (r130_0 true e l (nth undef T) u0 u1 G) ((E orc).rd l [u0, u1] G) :=
  fun r hr => rd_sxE Q orc hl (by kernel_rfl) hT (by kernel_rfl) (mr130_0 h l _ u0 u1 G r hr)
/-- (coxswain/limbo.turn).stack -/
def s131 (q : Bool) (e : Ex) (v0 v1 : Value) (G : GS) : OG :=
  bS (bx q v1 G) fun x0 G1 =>
  bS (al Q q 23 z23 G1) fun x2 G3 =>
  fl q 29 2 9 3 x0 G3 fun x5 =>
  bP (bn Q q .add 3 (.tmp 6) (.tmp 7) x5 v0) fun x6 =>
  bP (fa Q q 29 0 0 x0) fun x7 =>
  bP (fa Q q 25 0 0 x7) fun x8 =>
  fl q 23 1 1 3 x8 G3 fun x10 =>
  bP (fa Q q 29 0 0 x0) fun x11 =>
  bP (fa Q q 25 0 0 x11) fun x12 =>
  fl q 23 2 2 3 x12 G3 fun x14 =>
  bP (bd Q q 23 z23 [(0, 0, 1), (1, 1, 1), (2, 2, 1)] [x6, x10, x14]) fun x15 =>
  bP (st Q q 23 3 x2 x15 G3) fun G16 =>
  bP (lda Q q 23 3 x2 G16) fun x17 =>
  some (x17, G16)
theorem f131 (h : ExLe Q e (E orc)) (v0 v1 : Value) (G : GS) : Ref (s131 true e v0 v1 G) ((E orc).cl 131 [v0, v1] G) := cS (S := fun q e => s131 q e v0 v1 G) Tryz.func131 (by unfold s131; exact Ref.gq)
/-- (*coxswain/ready.Put).alloc -/
def s134 (q : Bool) (e : Ex) (v0 : Value) (G : GS) : OG :=
  bS (bx q v0 G) fun x0 G1 =>
  bP (ld Q q 68 x0 G1) fun x2 =>
  bP (bd Q q 302 z302 [(0, 0, 1), (2, 2, 1)] [(.func (.func 190) #[] #[x0]), (.func (.func 192) #[x2] #[])]) fun x3 =>
  bS (bx q x3 G1) fun x4 G5 =>
  bP (ifc Q q 295 x4) fun x6 =>
  some (x6, G5)
theorem f134 (h : ExLe Q e (E orc)) (v0 : Value) (G : GS) : Ref (s134 true e v0 G) ((E orc).cl 134 [v0] G) := cS (S := fun q e => s134 q e v0 G) Tryz.func134 (by unfold s134; exact Ref.gq)
/-- (*coxswain/ready.work).collect -/
def s144 (q : Bool) (e : Ex) (v0 v1 : Value) (G : GS) : OG :=
  bS (bx q v0 G) fun x0 G1 =>
  bP (bd Q q 314 z314 [(0, 0, 1), (2, 2, 1)] [(.func (.func 195) #[] #[x0]), v1]) fun x2 =>
  bS (bx q x2 G1) fun x3 G4 =>
  bP (ifc Q q 309 x3) fun x5 =>
  some (x5, G4)
theorem f144 (h : ExLe Q e (E orc)) (v0 v1 : Value) (G : GS) : Ref (s144 true e v0 v1 G) ((E orc).cl 144 [v0, v1] G) := cS (S := fun q e => s144 q e v0 v1 G) Tryz.func144 (by unfold s144; exact Ref.gq)
/-- coxswain/stack.on -/
def s165 (q : Bool) (e : Ex) (v0 v1 : Value) (G : GS) : OG :=
  bS (bx q v0 G) fun x0 G1 =>
  bS (bx q v1 G1) fun x2 G3 =>
  bS (al Q q 116 z116 G3) fun x4 G5 =>
  bP (st Q q 116 1 x4 (.func (.func 230) #[] #[x2]) G5) fun G6 =>
  some ((.func (.func 231) #[] #[x0, x4]), G6)
theorem f165 (h : ExLe Q e (E orc)) (v0 v1 : Value) (G : GS) : Ref (s165 true e v0 v1 G) ((E orc).cl 165 [v0, v1] G) := cS (S := fun q e => s165 q e v0 v1 G) Tryz.func165 (by unfold s165; exact Ref.gq)
/-- (coxswain/tower.memory).level -/
def s166 (q : Bool) (e : Ex) (v0 v1 v2 : Value) (G : GS) : OG :=
  bS (bx q v0 G) fun x0 G1 =>
  bS (bx q v1 G1) fun x2 G3 =>
  bS (bx q v2 G3) fun x4 G5 =>
  some ((.func (.func 233) #[] #[x2, x0, x4]), G5)
theorem f166 (h : ExLe Q e (E orc)) (v0 v1 v2 : Value) (G : GS) : Ref (s166 true e v0 v1 v2 G) ((E orc).cl 166 [v0, v1, v2] G) := cS (S := fun q e => s166 q e v0 v1 v2 G) Tryz.func166 (by unfold s166; exact Ref.gq)
/-- coxswain/tower.nodes -/
def s167 (q : Bool) (e : Ex) (v0 : Value) (G : GS) : OG :=
  bS (bx q v0 G) fun x0 G1 =>
  bS (al Q q 262 z262 G1) fun x2 G3 =>
  fl q 31 0 0 3 x0 G3 fun x5 =>
  bP (fa Q q 31 3 3 x0) fun x6 =>
  bP (fa Q q 29 0 0 x6) fun x7 =>
  bP (fa Q q 25 0 0 x7) fun x8 =>
  fl q 23 2 2 3 x8 G3 fun x10 =>
  fl q 31 2 2 3 x0 G3 fun x12 =>
  bP (bd Q q 262 z262 [(0, 0, 1), (1, 1, 1), (2, 2, 1)] [x5, x10, x12]) fun x13 =>
  bP (st Q q 262 3 x2 x13 G3) fun G14 =>
  bP (lda Q q 262 3 x2 G14) fun x15 =>
  some (x15, G14)
theorem f167 (h : ExLe Q e (E orc)) (v0 : Value) (G : GS) : Ref (s167 true e v0 G) ((E orc).cl 167 [v0] G) := cS (S := fun q e => s167 q e v0 G) Tryz.func167 (by unfold s167; exact Ref.gq)
/-- (coxswain/tower.rows[coxswain/tower.node]).whose -/
def s168 (q : Bool) (e : Ex) (v0 v1 : Value) (G : GS) : OG :=
  bS (bx q v0 G) fun x0 G1 =>
  fl q 262 0 0 3 x0 (G1.room 18) fun x3 =>
  bP (bn Q q .lss 3 (.tmp 7) (.tmp 9) v1 x3) fun x4 =>
  bS (gV x4 false v1 (G1.room 18)) fun x5 _ =>
  bS (gP x4 false (fa Q q 262 0 0 x0) (G1.room 18)) fun x6 _ =>
  bS (gP x4 false (ld Q q 3 x6 (G1.room 18)) (G1.room 18)) fun x7 _ =>
  bS (gP x4 false (fa Q q 262 1 1 x0) (G1.room 18)) fun x8 _ =>
  bS (gP x4 false (ld Q q 3 x8 (G1.room 18)) (G1.room 18)) fun x9 _ =>
  bS (gP x4 false (fa Q q 262 2 2 x0) (G1.room 18)) fun x10 _ =>
  bS (gP x4 false (ld Q q 260 x10 (G1.room 18)) (G1.room 18)) fun x11 _ =>
  bS (gP x4 false (ifc Q q 260 x11) (G1.room 18)) fun x12 _ =>
  bS (gS x4 false (cInvoke Q e.ev x12 "coxswain/tower.cells" [] (G1.room 18)) (G1.room 18)) fun x14 G13 =>
  chk (((!(gB x4 false) || (!(gB x4 false) || sameO (ld Q q 3 x8 G13) x9)) && ((!(gB x4 false) || (!(gB x4 false) || sameO (ld Q q 3 x6 G13) x7)) && true))) <|
  bS (gP x4 false (bn Q q .mul 3 (.tmp 16) (.tmp 20) x9 x14) G13) fun x15 _ =>
  bS (gP x4 false (bn Q q .add 3 (.tmp 14) (.tmp 21) x7 x15) G13) fun x16 _ =>
  bS (gP x4 false (bn Q q .geq 3 (.tmp 12) (.tmp 22) x5 x16) G13) fun x17 _ =>
  bP (pickV x4 (.bool true) x17) fun x18 =>
  ifV x18 (
  some (.tuple #[(.int .i64 0), (.int .i64 0), (.bool false)], G13)) (
  bP (fa Q q 262 0 0 x0) fun x19 =>
  bP (ld Q q 3 x19 (G13.room 21)) fun x20 =>
  bP (bn Q q .sub 3 (.tmp 25) (.tmp 27) v1 x20) fun x21 =>
  fl q 262 2 2 260 x0 (G13.room 21) fun x23 =>
  bP (ifc Q q 260 x23) fun x24 =>
  bS (cInvoke Q e.ev x24 "coxswain/tower.cells" [] (G13.room 21)) fun x26 G25 =>
  chk ((sameO (ld Q q 3 x19 G25) x20 && true)) <|
  bP (bn Q q .quo 3 (.tmp 28) (.tmp 32) x21 x26) fun x27 =>
  bP (fa Q q 262 0 0 x0) fun x28 =>
  bP (ld Q q 3 x28 G25) fun x29 =>
  chk ((sameO (ld Q q 3 x28 (G13.room 21)) x29 && true)) <|
  bP (bn Q q .sub 3 (.tmp 34) (.tmp 36) v1 x29) fun x30 =>
  bP (fa Q q 262 2 2 x0) fun x31 =>
  bP (ld Q q 260 x31 G25) fun x32 =>
  chk ((sameO (ld Q q 260 x31 (G13.room 21)) x32 && true)) <|
  bP (ifc Q q 260 x32) fun x33 =>
  bS (cInvoke Q e.ev x33 "coxswain/tower.cells" [] G25) fun x35 G34 =>
  chk ((sameO (ld Q q 3 x28 G34) x29 && (sameO (ld Q q 3 x19 G34) x20 && true))) <|
  bP (bn Q q .rem 3 (.tmp 37) (.tmp 41) x30 x35) fun x36 =>
  some (.tuple #[x27, x36, (.bool true)], G34))
theorem f168 (h : ExLe Q e (E orc)) (v0 v1 : Value) (G : GS) : Ref (s168 true e v0 v1 G) ((E orc).cl 168 [v0, v1] G) := cS (S := fun q e => s168 q e v0 v1 G) Tryz.func168 (by unfold s168; exact Ref.gq)
/-- coxswain/tower.heads -/
def s169 (q : Bool) (e : Ex) (v0 : Value) (G : GS) : OG :=
  bS (bx q v0 G) fun x0 G1 =>
  bS (al Q q 267 z267 G1) fun x2 G3 =>
  fl q 31 1 1 3 x0 G3 fun x5 =>
  fl q 31 2 2 3 x0 G3 fun x7 =>
  bP (bd Q q 267 z267 [(0, 0, 1), (1, 1, 1), (2, 2, 1)] [x5, (.int .i64 1), x7]) fun x8 =>
  bP (st Q q 267 3 x2 x8 G3) fun G9 =>
  bP (lda Q q 267 3 x2 G9) fun x10 =>
  some (x10, G9)
theorem f169 (h : ExLe Q e (E orc)) (v0 : Value) (G : GS) : Ref (s169 true e v0 G) ((E orc).cl 169 [v0] G) := cS (S := fun q e => s169 q e v0 G) Tryz.func169 (by unfold s169; exact Ref.gq)
/-- (coxswain/tower.rows[coxswain/tower.head]).whose -/
def s170 (q : Bool) (e : Ex) (v0 v1 : Value) (G : GS) : OG :=
  bS (bx q v0 G) fun x0 G1 =>
  fl q 267 0 0 3 x0 (G1.room 18) fun x3 =>
  bP (bn Q q .lss 3 (.tmp 7) (.tmp 9) v1 x3) fun x4 =>
  bS (gV x4 false v1 (G1.room 18)) fun x5 _ =>
  bS (gP x4 false (fa Q q 267 0 0 x0) (G1.room 18)) fun x6 _ =>
  bS (gP x4 false (ld Q q 3 x6 (G1.room 18)) (G1.room 18)) fun x7 _ =>
  bS (gP x4 false (fa Q q 267 1 1 x0) (G1.room 18)) fun x8 _ =>
  bS (gP x4 false (ld Q q 3 x8 (G1.room 18)) (G1.room 18)) fun x9 _ =>
  bS (gP x4 false (fa Q q 267 2 2 x0) (G1.room 18)) fun x10 _ =>
  bS (gP x4 false (ld Q q 265 x10 (G1.room 18)) (G1.room 18)) fun x11 _ =>
  bS (gP x4 false (ifc Q q 265 x11) (G1.room 18)) fun x12 _ =>
  bS (gS x4 false (cInvoke Q e.ev x12 "coxswain/tower.cells" [] (G1.room 18)) (G1.room 18)) fun x14 G13 =>
  chk (((!(gB x4 false) || (!(gB x4 false) || sameO (ld Q q 3 x8 G13) x9)) && ((!(gB x4 false) || (!(gB x4 false) || sameO (ld Q q 3 x6 G13) x7)) && true))) <|
  bS (gP x4 false (bn Q q .mul 3 (.tmp 16) (.tmp 20) x9 x14) G13) fun x15 _ =>
  bS (gP x4 false (bn Q q .add 3 (.tmp 14) (.tmp 21) x7 x15) G13) fun x16 _ =>
  bS (gP x4 false (bn Q q .geq 3 (.tmp 12) (.tmp 22) x5 x16) G13) fun x17 _ =>
  bP (pickV x4 (.bool true) x17) fun x18 =>
  ifV x18 (
  some (.tuple #[(.int .i64 0), (.int .i64 0), (.bool false)], G13)) (
  bP (fa Q q 267 0 0 x0) fun x19 =>
  bP (ld Q q 3 x19 (G13.room 21)) fun x20 =>
  bP (bn Q q .sub 3 (.tmp 25) (.tmp 27) v1 x20) fun x21 =>
  fl q 267 2 2 265 x0 (G13.room 21) fun x23 =>
  bP (ifc Q q 265 x23) fun x24 =>
  bS (cInvoke Q e.ev x24 "coxswain/tower.cells" [] (G13.room 21)) fun x26 G25 =>
  chk ((sameO (ld Q q 3 x19 G25) x20 && true)) <|
  bP (bn Q q .quo 3 (.tmp 28) (.tmp 32) x21 x26) fun x27 =>
  bP (fa Q q 267 0 0 x0) fun x28 =>
  bP (ld Q q 3 x28 G25) fun x29 =>
  chk ((sameO (ld Q q 3 x28 (G13.room 21)) x29 && true)) <|
  bP (bn Q q .sub 3 (.tmp 34) (.tmp 36) v1 x29) fun x30 =>
  bP (fa Q q 267 2 2 x0) fun x31 =>
  bP (ld Q q 265 x31 G25) fun x32 =>
  chk ((sameO (ld Q q 265 x31 (G13.room 21)) x32 && true)) <|
  bP (ifc Q q 265 x32) fun x33 =>
  bS (cInvoke Q e.ev x33 "coxswain/tower.cells" [] G25) fun x35 G34 =>
  chk ((sameO (ld Q q 3 x28 G34) x29 && (sameO (ld Q q 3 x19 G34) x20 && true))) <|
  bP (bn Q q .rem 3 (.tmp 37) (.tmp 41) x30 x35) fun x36 =>
  some (.tuple #[x27, x36, (.bool true)], G34))
theorem f170 (h : ExLe Q e (E orc)) (v0 v1 : Value) (G : GS) : Ref (s170 true e v0 v1 G) ((E orc).cl 170 [v0, v1] G) := cS (S := fun q e => s170 q e v0 v1 G) Tryz.func170 (by unfold s170; exact Ref.gq)
/-- coxswain/word.GetRef -/
def s171 (q : Bool) (e : Ex) (v0 : Value) (G : GS) : OG :=
  bS (al Q q 270 z270 G) fun x0 G1 =>
  bS (e.ev.cl 236 [] G1) fun x2 G3 =>
  bS (al Q q 363 z363 G3) fun x4 G5 =>
  bP (st Q q 363 4 x4 x2 G5) fun G6 =>
  bP (iaa Q q 363 2 2 x4 (.int .i64 0)) fun x7 =>
  bP (lda Q q 362 2 x7 (G6.room 14)) fun x8 =>
  bS (e.ev.cl 237 [v0, x8] (G6.room 14)) fun x10 G9 =>
  bP (bn Q q .sub 3 (.tmp 12) (.const (.int .i64 1)) x10 (.int .i64 1)) fun x11 =>
  bP (iaa Q q 363 2 2 x4 (.int .i64 1)) fun x12 =>
  bP (lda Q q 362 2 x12 G9) fun x13 =>
  chk ((sameO (lda Q q 362 2 x12 (G6.room 14)) x13 && true)) <|
  bS (e.ev.cl 237 [v0, x13] G9) fun x15 G14 =>
  bS (e.ev.cl 238 [v0] G14) fun x17 G16 =>
  bP (bd Q q 270 z270 [(0, 0, 1), (1, 1, 1), (2, 2, 1)] [x11, x15, x17]) fun x18 =>
  bS (al Q q 270 z270 (G16.at' (G6.nx + 12))) fun x19 G20 =>
  bP (st Q q 270 3 x19 x18 (G20.back G16)) fun G21 =>
  bP (lda Q q 270 3 x19 G21) fun x22 =>
  bS (e.ev.cl 239 [x22] G21) fun x23 G24 =>
  bP (pExtract x23 0) fun x25 =>
  bP (pExtract x23 1) fun x26 =>
  bP (bn Q q .neq 38 (.tmp 26) (.const (.int .i64 0)) x26 (.int .i64 0)) fun x27 =>
  bS (gV x27 false x25 G24) fun x28 G29 =>
  bS (gV x27 false v0 G29) fun x30 G31 =>
  bS (gP x27 false (bn Q q .neq 37 (.tmp 29) (.tmp 30) x28 x30) G31) fun x32 G33 =>
  bP (pickV x27 (.bool true) x32) fun x34 =>
  ifV x34 (
  bP (bd Q q 270 z270 [] []) fun x35 =>
  bP (st Q q 270 3 x0 x35 G33) fun G36 =>
  bP (lda Q q 270 3 x0 G36) fun x37 =>
  some (.tuple #[x37, (.int .i64 5)], G36)) (
  bP (lda Q q 270 3 x19 G33) fun x38 =>
  bP (st Q q 270 3 x0 x38 G33) fun G39 =>
  bP (lda Q q 270 3 x0 G39) fun x40 =>
  some (.tuple #[x40, (.int .i64 0)], G39))
theorem f171 (h : ExLe Q e (E orc)) (v0 : Value) (G : GS) : Ref (s171 true e v0 G) ((E orc).cl 171 [v0] G) := cS (S := fun q e => s171 q e v0 G) Tryz.func171 (by unfold s171; exact Ref.gq)
/-- coxswain/audit.low[int] -/
def s172 (q : Bool) (e : Ex) (v0 v1 v2 : Value) (G : GS) : OG :=
  bS (cValue e.ev v1 [v0] G) fun x0 G1 =>
  bP (bn Q q .sub 37 (.tmp 10) (.const (.int .u64 1)) v2 (.int .u64 1)) fun x2 =>
  bP (bn Q q .and 37 (.tmp 9) (.tmp 11) x0 x2) fun x3 =>
  some (x3, G1)
theorem f172 (h : ExLe Q e (E orc)) (v0 v1 v2 : Value) (G : GS) : Ref (s172 true e v0 v1 v2 G) ((E orc).cl 172 [v0, v1, v2] G) := cS (S := fun q e => s172 q e v0 v1 v2 G) Tryz.func172 (by unfold s172; exact Ref.gq)
/-- (coxswain/tower.rows[coxswain/tower.node]).at -/
def s173 (q : Bool) (e : Ex) (v0 v1 v2 : Value) (G : GS) : OG :=
  bS (bx q v0 G) fun x0 G1 =>
  bP (bn Q q .lss 3 (.tmp 7) (.const (.int .i64 0)) v1 (.int .i64 0)) fun x2 =>
  bS (gV x2 false v1 G1) fun x3 G4 =>
  bS (gP x2 false (fa Q q 262 1 1 x0) G4) fun x5 G6 =>
  bS (gP x2 false (ld Q q 3 x5 G6) G6) fun x7 G8 =>
  bS (gP x2 false (bn Q q .geq 3 (.tmp 10) (.tmp 12) x3 x7) G8) fun x9 G10 =>
  bP (pickV x2 (.bool true) x9) fun x11 =>
  bS (gV x11 false v2 G10) fun x12 G13 =>
  bS (gP x11 false (bn Q q .lss 3 (.tmp 16) (.const (.int .i64 0)) x12 (.int .i64 0)) G13) fun x14 G15 =>
  bP (pickV x11 (.bool true) x14) fun x16 =>
  bS (gV x16 false v2 G15) fun x17 G18 =>
  bS (gP x16 false (fa Q q 262 2 2 x0) G18) fun x19 G20 =>
  bS (gP x16 false (ld Q q 260 x19 G20) G20) fun x21 G22 =>
  bS (gP x16 false (ifc Q q 260 x21) G22) fun x23 G24 =>
  bS (gS x16 false (cInvoke Q e.ev x23 "coxswain/tower.cells" [] G24) G24) fun x25 G26 =>
  bS (gP x16 false (bn Q q .geq 3 (.tmp 20) (.tmp 24) x17 x25) G26) fun x27 G28 =>
  bP (pickV x16 (.bool true) x27) fun x29 =>
  ifV x29 (
  some ((.int .i64 (-1)), G28)) (
  bP (fa Q q 262 0 0 x0) fun x30 =>
  bP (ld Q q 3 x30 (G28.room 12)) fun x31 =>
  fl q 262 2 2 260 x0 (G28.room 12) fun x33 =>
  bP (ifc Q q 260 x33) fun x34 =>
  bS (cInvoke Q e.ev x34 "coxswain/tower.cells" [] (G28.room 12)) fun x36 G35 =>
  chk ((sameO (ld Q q 3 x30 G35) x31 && true)) <|
  bP (bn Q q .mul 3 (.tmp 29) (.tmp 33) v1 x36) fun x37 =>
  bP (bn Q q .add 3 (.tmp 28) (.tmp 34) x31 x37) fun x38 =>
  bP (bn Q q .add 3 (.tmp 35) (.tmp 36) x38 v2) fun x39 =>
  some (x39, G35))
theorem f173 (h : ExLe Q e (E orc)) (v0 v1 v2 : Value) (G : GS) : Ref (s173 true e v0 v1 v2 G) ((E orc).cl 173 [v0, v1, v2] G) := cS (S := fun q e => s173 q e v0 v1 v2 G) Tryz.func173 (by unfold s173; exact Ref.gq)
/-- (coxswain/tower.rows[coxswain/tower.head]).at -/
def s174 (q : Bool) (e : Ex) (v0 v1 v2 : Value) (G : GS) : OG :=
  bS (bx q v0 G) fun x0 G1 =>
  bP (bn Q q .lss 3 (.tmp 7) (.const (.int .i64 0)) v1 (.int .i64 0)) fun x2 =>
  bS (gV x2 false v1 G1) fun x3 G4 =>
  bS (gP x2 false (fa Q q 267 1 1 x0) G4) fun x5 G6 =>
  bS (gP x2 false (ld Q q 3 x5 G6) G6) fun x7 G8 =>
  bS (gP x2 false (bn Q q .geq 3 (.tmp 10) (.tmp 12) x3 x7) G8) fun x9 G10 =>
  bP (pickV x2 (.bool true) x9) fun x11 =>
  bS (gV x11 false v2 G10) fun x12 G13 =>
  bS (gP x11 false (bn Q q .lss 3 (.tmp 16) (.const (.int .i64 0)) x12 (.int .i64 0)) G13) fun x14 G15 =>
  bP (pickV x11 (.bool true) x14) fun x16 =>
  bS (gV x16 false v2 G15) fun x17 G18 =>
  bS (gP x16 false (fa Q q 267 2 2 x0) G18) fun x19 G20 =>
  bS (gP x16 false (ld Q q 265 x19 G20) G20) fun x21 G22 =>
  bS (gP x16 false (ifc Q q 265 x21) G22) fun x23 G24 =>
  bS (gS x16 false (cInvoke Q e.ev x23 "coxswain/tower.cells" [] G24) G24) fun x25 G26 =>
  bS (gP x16 false (bn Q q .geq 3 (.tmp 20) (.tmp 24) x17 x25) G26) fun x27 G28 =>
  bP (pickV x16 (.bool true) x27) fun x29 =>
  ifV x29 (
  some ((.int .i64 (-1)), G28)) (
  bP (fa Q q 267 0 0 x0) fun x30 =>
  bP (ld Q q 3 x30 (G28.room 12)) fun x31 =>
  fl q 267 2 2 265 x0 (G28.room 12) fun x33 =>
  bP (ifc Q q 265 x33) fun x34 =>
  bS (cInvoke Q e.ev x34 "coxswain/tower.cells" [] (G28.room 12)) fun x36 G35 =>
  chk ((sameO (ld Q q 3 x30 G35) x31 && true)) <|
  bP (bn Q q .mul 3 (.tmp 29) (.tmp 33) v1 x36) fun x37 =>
  bP (bn Q q .add 3 (.tmp 28) (.tmp 34) x31 x37) fun x38 =>
  bP (bn Q q .add 3 (.tmp 35) (.tmp 36) x38 v2) fun x39 =>
  some (x39, G35))
theorem f174 (h : ExLe Q e (E orc)) (v0 v1 v2 : Value) (G : GS) : Ref (s174 true e v0 v1 v2 G) ((E orc).cl 174 [v0, v1, v2] G) := cS (S := fun q e => s174 q e v0 v1 v2 G) Tryz.func174 (by unfold s174; exact Ref.gq)
/-- coxswain/epoch.none -/
def s175 (q : Bool) (e : Ex) (v0 v1 : Value) (G : GS) : OG :=
  bS (bx q v0 G) fun x0 G1 =>
  bP (bn Q q .lss 3 (.tmp 5) (.const (.int .i64 0)) v1 (.int .i64 0)) fun x2 =>
  bS (gV x2 false v1 G1) fun x3 G4 =>
  bS (gP x2 false (fa Q q 27 2 2 x0) G4) fun x5 G6 =>
  bS (gP x2 false (ld Q q 3 x5 G6) G6) fun x7 G8 =>
  bS (gP x2 false (bn Q q .geq 3 (.tmp 8) (.tmp 10) x3 x7) G8) fun x9 G10 =>
  bP (pickV x2 (.bool true) x9) fun x11 =>
  some (x11, G10)
theorem f175 (h : ExLe Q e (E orc)) (v0 v1 : Value) (G : GS) : Ref (s175 true e v0 v1 G) ((E orc).cl 175 [v0, v1] G) := cS (S := fun q e => s175 q e v0 v1 G) Tryz.func175 (by unfold s175; exact Ref.gq)
/-- (*coxswain/epoch.lines).ends -/
def s176 (q : Bool) (e : Ex) (v0 v1 : Value) (G : GS) : OG :=
  nf q 277 1 3 v0 fun x1 =>
  bP (st Q q 3 1 x1 (.int .i64 (-1)) G) fun G2 =>
  nf q 277 3 5 v0 fun x4 =>
  bP (st Q q 38 1 x4 v1 G2) fun G5 =>
  some (.tuple #[], G5)
theorem f176 (h : ExLe Q e (E orc)) (v0 v1 : Value) (G : GS) : Ref (s176 true e v0 v1 G) ((E orc).cl 176 [v0, v1] G) := cS (S := fun q e => s176 q e v0 v1 G) Tryz.func176 (by unfold s176; exact Ref.gq)
/-- (*coxswain/epoch.Pin).load -/
def s177 (q : Bool) (e : Ex) (v0 v1 : Value) (G : GS) : OG :=
  nf q 281 1 6 v0 fun x1 =>
  fl q 27 0 0 3 x1 G fun x3 =>
  bS (e.ev.cl 240 [v1, x3] G) fun x4 G5 =>
  bP (cv Q q 37 279 .u64 .u32 x4) fun x6 =>
  nf q 281 3 10 v0 fun x8 =>
  bP (st Q q 279 1 x8 x6 G5) fun G9 =>
  nf q 281 0 0 v0 fun x11 =>
  bP (fa Q q 277 1 3 x11) fun x12 =>
  bP (st Q q 3 1 x12 (.int .i64 1) G9) fun G13 =>
  some (.tuple #[], G13)
theorem f177 (h : ExLe Q e (E orc)) (v0 v1 : Value) (G : GS) : Ref (s177 true e v0 v1 G) ((E orc).cl 177 [v0, v1] G) := cS (S := fun q e => s177 q e v0 v1 G) Tryz.func177 (by unfold s177; exact Ref.gq)
/-- (*coxswain/epoch.Pin).store -/
def s178 (q : Bool) (e : Ex) (v0 v1 : Value) (G : GS) : OG :=
  nl q 281 2 9 3 v0 (G.room 12) fun x2 =>
  nl q 281 3 10 279 v0 (G.room 12) fun x5 =>
  bP (cv Q q 279 37 .u32 .u64 x5) fun x6 =>
  bP (bn Q q .add 37 (.tmp 13) (.const (.int .u64 1)) x6 (.int .u64 1)) fun x7 =>
  bS (e.ev.cl 16 [v1, x2, x7] (G.room 12)) fun x9 G8 =>
  nf q 281 0 0 v0 fun x11 =>
  bP (fa Q q 277 1 3 x11) fun x12 =>
  bP (st Q q 3 1 x12 (.int .i64 2) G8) fun G13 =>
  some (.tuple #[], G13)
theorem f178 (h : ExLe Q e (E orc)) (v0 v1 : Value) (G : GS) : Ref (s178 true e v0 v1 G) ((E orc).cl 178 [v0, v1] G) := cS (S := fun q e => s178 q e v0 v1 G) Tryz.func178 (by unfold s178; exact Ref.gq)
/-- (*coxswain/epoch.Pin).again -/
def s179 (q : Bool) (e : Ex) (v0 v1 : Value) (G : GS) : OG :=
  nf q 281 1 6 v0 fun x1 =>
  fl q 27 0 0 3 x1 G fun x3 =>
  bS (e.ev.cl 240 [v1, x3] G) fun x4 G5 =>
  bP (cv Q q 37 279 .u64 .u32 x4) fun x6 =>
  nl q 281 3 10 279 v0 G5 fun x9 =>
  bP (bn Q q .eql 279 (.tmp 13) (.tmp 17) x6 x9) fun x10 =>
  ifV x10 (
  nf q 281 0 0 v0 fun x12 =>
  bS (e.ev.cl 176 [x12, (.int .i64 0)] G5) fun x13 G14 =>
  some (.tuple #[], G14)) (
  nf q 281 3 10 v0 fun x16 =>
  bP (st Q q 279 1 x16 x6 G5) fun G17 =>
  nf q 281 0 0 v0 fun x19 =>
  bP (fa Q q 277 1 3 x19) fun x20 =>
  bP (st Q q 3 1 x20 (.int .i64 1) G17) fun G21 =>
  some (.tuple #[], G21))
theorem f179 (h : ExLe Q e (E orc)) (v0 v1 : Value) (G : GS) : Ref (s179 true e v0 v1 G) ((E orc).cl 179 [v0, v1] G) := cS (S := fun q e => s179 q e v0 v1 G) Tryz.func179 (by unfold s179; exact Ref.gq)
/-- (*coxswain/epoch.lines).told -/
def s180 (q : Bool) (e : Ex) (v0 : Value) (G : GS) : OG :=
  nl q 277 2 4 4 v0 G fun x2 =>
  bP (un Q q .not x2) fun x3 =>
  ifV x3 (
  some ((.int .i64 1), G)) (
  nl q 277 1 3 3 v0 G fun x6 =>
  bP (bn Q q .neq 3 (.tmp 13) (.const (.int .i64 (-1))) x6 (.int .i64 (-1))) fun x7 =>
  ifV x7 (
  some ((.int .i64 14), G)) (
  nl q 277 3 5 38 v0 G fun x10 =>
  some (x10, G)))
theorem f180 (h : ExLe Q e (E orc)) (v0 : Value) (G : GS) : Ref (s180 true e v0 G) ((E orc).cl 180 [v0] G) := cS (S := fun q e => s180 q e v0 G) Tryz.func180 (by unfold s180; exact Ref.gq)
/-- (*coxswain/epoch.Unpin).clear -/
def s181 (q : Bool) (e : Ex) (v0 v1 : Value) (G : GS) : OG :=
  nl q 286 1 6 3 v0 G fun x2 =>
  bS (e.ev.cl 16 [v1, x2, (.int .u64 0)] G) fun x3 G4 =>
  nf q 286 0 0 v0 fun x6 =>
  bS (e.ev.cl 176 [x6, (.int .i64 0)] G4) fun x7 G8 =>
  some (.tuple #[], G8)
theorem f181 (h : ExLe Q e (E orc)) (v0 v1 : Value) (G : GS) : Ref (s181 true e v0 v1 G) ((E orc).cl 181 [v0, v1] G) := cS (S := fun q e => s181 q e v0 v1 G) Tryz.func181 (by unfold s181; exact Ref.gq)
/-- coxswain/epoch.sized -/
def s182 (q : Bool) (e : Ex) (v0 : Value) (G : GS) : OG :=
  bS (bx q v0 G) fun x0 G1 =>
  fl q 27 2 2 3 x0 G1 fun x3 =>
  bP (bn Q q .geq 3 (.tmp 4) (.const (.int .i64 1)) x3 (.int .i64 1)) fun x4 =>
  bS (gP x4 true (fa Q q 27 2 2 x0) G1) fun x5 G6 =>
  bS (gP x4 true (ld Q q 3 x5 G6) G6) fun x7 G8 =>
  bS (gP x4 true (bn Q q .leq 3 (.tmp 8) (.const (.int .i64 64)) x7 (.int .i64 64)) G8) fun x9 G10 =>
  bP (pickV x4 x9 (.bool false)) fun x11 =>
  some (x11, G10)
theorem f182 (h : ExLe Q e (E orc)) (v0 : Value) (G : GS) : Ref (s182 true e v0 G) ((E orc).cl 182 [v0] G) := cS (S := fun q e => s182 q e v0 G) Tryz.func182 (by unfold s182; exact Ref.gq)
/-- coxswain/epoch.pins -/
def s183 (q : Bool) (e : Ex) (v0 : Value) (G : GS) : OG :=
  bS (bx q v0 G) fun x0 G1 =>
  some ((.func (.func 241) #[] #[x0]), G1)
theorem f183 (h : ExLe Q e (E orc)) (v0 : Value) (G : GS) : Ref (s183 true e v0 G) ((E orc).cl 183 [v0] G) := cS (S := fun q e => s183 q e v0 G) Tryz.func183 (by unfold s183; exact Ref.gq)
/-- coxswain/epoch.at -/
def s184 (q : Bool) (e : Ex) (v0 v1 : Value) (G : GS) : OG :=
  bP (bn Q q .lss 3 (.tmp 5) (.const (.int .i64 0)) v1 (.int .i64 0)) fun x0 =>
  bS (gV x0 false v1 G) fun x1 G2 =>
  bS (gV x0 false v0 G2) fun x3 G4 =>
  bS (gP x0 false (ln Q q 54 x3) G4) fun x5 G6 =>
  bS (gP x0 false (bn Q q .geq 3 (.tmp 8) (.tmp 10) x1 x5) G6) fun x7 G8 =>
  bP (pickV x0 (.bool true) x7) fun x9 =>
  ifV x9 (
  some ((.int .u64 0), G8)) (
  bP (ias Q q 54 1 v0 v1) fun x10 =>
  bP (ld Q q 37 x10 G8) fun x11 =>
  some (x11, G8))
theorem f184 (h : ExLe Q e (E orc)) (v0 v1 : Value) (G : GS) : Ref (s184 true e v0 v1 G) ((E orc).cl 184 [v0, v1] G) := cS (S := fun q e => s184 q e v0 v1 G) Tryz.func184 (by unfold s184; exact Ref.gq)
end
end Go.Proofs.YtfdanfpjlcnpkaaGreat.Lift
