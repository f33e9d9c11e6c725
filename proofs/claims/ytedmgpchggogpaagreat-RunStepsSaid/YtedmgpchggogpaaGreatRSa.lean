import Derived.Test.YtedmgpchggogpaaGreatProg
import Derived.Test.YtedmgpchggogpaaGreatGhPJ
import Derived.Test.YtedmgpchggogpaaGreatGhPG
import Derived.KernelRfl
namespace Go.Proofs.YtedmgpchggogpaaGreat.Lift
open Go Go.Proofs.YtedmgpchggogpaaGreat.Gh Go.Proofs
set_option linter.unusedVariables false
set_option maxRecDepth 100000
@[reducible] noncomputable def Q:Program:=Tryz.prog
@[reducible] noncomputable def E (orc:FuncId → Bool):Ev:=evL Tryz.prog orc
noncomputable section
abbrev OG:Type:=Option (Value × GS)
abbrev OL:Type:=Option (Exit × Env × GS)
abbrev LpF:Type:=Env → GS → OL
variable {orc:FuncId → Bool} {e:Ex}
abbrev gP (x:Value) (b:Bool) (o:Option Value) (G:GS):Option (Value × GS):=gd x b (bP o fun y=>some (y,G)) G
abbrev gS (x:Value) (b:Bool) (o:Option (Value × GS)) (G:GS):Option (Value × GS):=gd x b (bS o fun y G=>some (y,G)) G
abbrev gV (x:Value) (b:Bool) (v:Value) (G:GS):Option (Value × GS):=gd x b (some (v,G)) G
abbrev nf {β:Type} (q:Bool) (t f o:Nat) (v:Value) (k:Value → Option β):Option β:=bP (pNil v) fun x=>bP (fa Q q t f o x) k
abbrev fl {β:Type} (q:Bool) (t f o u:Nat) (v:Value) (G:GS) (k:Value → Option β):Option β:=bP (fa Q q t f o v) fun x=>bP (ld Q q u x G) k
abbrev nl {β:Type} (q:Bool) (t f o u:Nat) (v:Value) (G:GS) (k:Value → Option β):Option β:=bP (pNil v) fun x=>bP (fa Q q t f o x) fun y=>bP (ld Q q u y G) k
@[simp] theorem gP_s (x:Value) (b:Bool) (o:Option Value) (G:GS):gP x b o G = gd x b (bP o fun y=>some (y,G)) G:=Eq.trans rfl rfl
@[simp] theorem gS_s (x:Value) (b:Bool) (o:Option (Value × GS)) (G:GS):gS x b o G = gd x b (bS o fun y G=>some (y,G)) G:=Eq.trans rfl rfl
@[simp] theorem gV_s (x:Value) (b:Bool) (v:Value) (G:GS):gV x b v G = gd x b (some (v,G)) G:=Eq.trans rfl rfl
@[simp] theorem nf_s {β:Type} (q:Bool) (t f o:Nat) (v:Value) (k:Value → Option β):nf q t f o v k = bP (pNil v) fun x=>bP (fa Q q t f o x) k:=Eq.trans rfl rfl
@[simp] theorem fl_s {β:Type} (q:Bool) (t f o u:Nat) (v:Value) (G:GS) (k:Value → Option β):fl q t f o u v G k = bP (fa Q q t f o v) fun x=>bP (ld Q q u x G) k:=Eq.trans rfl rfl
@[simp] theorem nl_s {β:Type} (q:Bool) (t f o u:Nat) (v:Value) (G:GS) (k:Value → Option β):nl q t f o u v G k = bP (pNil v) fun x=>bP (fa Q q t f o x) fun y=>bP (ld Q q u y G) k:=Eq.trans rfl rfl
theorem cS {k : FuncId} {fn : Func} {vs : List Value} {G : GS} {S : Bool → Ex → Option (Value × GS)} (hf : Q.funcs[k]? = some fn) (m : Ref (S true e) (S false (Ex.of (E orc)))) (hn : (fn.name == "runtime.NumGoroutine") = false := by kernel_rfl) (hb : fn.body.isSome = true := by kernel_rfl)
  (ho:(vs.isEmpty && orc k) = false:=by kernel_rfl) (hp:isPur Q orc k = false:=by kernel_rfl) (hl:Nat.ble vs.length fn.ntmps = true:=by kernel_rfl) (hx:sxE Q (evL Q orc) fn.ntmps (bodyOf fn) (nth undef vs) G (retE Q fn.results.toList) = S false (Ex.of (E orc)):=by kernel_rfl) :
  Ref (S true e) ((E orc).cl k vs G):=fun r hr=>cl_sxE_some Q orc G hf hn hb ho hp hl hx (m r hr)
abbrev LT (orc:FuncId → Bool) (N:Nat) (c:Code) (b:LpF → LpF):Prop:=∀ lp:LpF,(∀ τ G,Ref (lp τ G) (mapE ((E orc).lp c (lst N τ) G))) → ∀ (T:List Value) (G:GS),T.length = N → Ref (b lp (nth undef T) G) (mapE ((E orc).lp c T G))
theorem cL {N:Nat} {c:Code} {B:Bool → Ex → LpF → LpF} (m:∀ {lp lp':LpF},LpLe lp lp' → ∀ τ G,Ref (B true e lp τ G) (B false (Ex.of (E orc)) lp' τ G))
  (hx:∀ T G,sxE Q (evL Q orc) N c (nth undef T) G (seqXE (fun τ G'=>mapE ((evL Q orc).lp c (lst N (nth undef (lst N τ))) G')) fun e τ G'=>some (e,nth undef (lst N τ),G')) = B false (Ex.of (E orc)) (fun τ G=>mapE ((E orc).lp c (lst N τ) G)) (nth undef T) G:=by intro T G; kernel_rfl) :
  LT orc N c (B true e):=fun lp hlp T G hT r hr=>lp_sxN Q orc G hT (hx T G) (m ⟨hlp⟩ _ _ r hr)
theorem cf {n f:FuncId} {vs:List Value} {G:GS} {x:Option (Value × GS)} (h:Ref x ((E orc).cl n vs G)):Ref (leaf f n x) ((E orc).cl f vs G):=Ref.leaf (y:=fun f=>(E orc).cl f vs G) h
theorem ck {j f k:Nat} {τ:Env} {G:GS} {x:Option (Exit × Env × GS)} (h:Ref x (mapE ((E orc).lp (codeAt Q f j) (lst (nOf Q f) τ) G))):Ref (leaf k j x) (mapE ((E orc).lp (codeAt Q f k) (lst (nOf Q f) τ) G)):=Ref.leaf (y:=fun k=>mapE ((E orc).lp (codeAt Q f k) (lst (nOf Q f) τ) G)) h
theorem cl' {n f k:Nat} {τ:Env} {G:GS} {x:Option (Exit × Env × GS)} (h:Ref x (mapE ((E orc).lp (codeAt Q n k) (lst (nOf Q n) τ) G))):Ref (leaf f n x) (mapE ((E orc).lp (codeAt Q f k) (lst (nOf Q f) τ) G)):=Ref.leaf (y:=fun f=>mapE ((E orc).lp (codeAt Q f k) (lst (nOf Q f) τ) G)) h
theorem Ref.gj {α:Type} {x y:Option α} (t:Ref x y:=by repeat' (with_reducible first | exact Ref.rfl' _ | exact ROp.r | refine Ref.bP ?_ fun _=>?_ | refine Ref.bS ?_ fun _ _=>?_ | exact Ref.cl (by assumption) | refine Ref.ifV ?_ ?_ | refine LpLe.rx (by assumption) ?_ | refine Ref.xitq ?_ | exact UOk.z | refine UOk.c (by assumption) ?_ | exact Ref.nil _ | refine Ref.bVe fun _ _=>?_ | refine Ref.bLq (by assumption) ?_ fun _ _ _=>?_ | refine Ref.ifE ?_ ?_ | refine Ref.chk ?_ ?_ | refine Imp.and ?_ ?_ | refine Imp.or ?_ | exact Imp.rfl' _ | refine Imp.sameO ?_ | refine Ref.gd ?_ | exact Ref.cValue (by assumption) | refine Ref.bX ?_ fun _ _ _=>?_ | exact Ref.scQ (by assumption) | exact Ref.xRangeQ (by assumption) | exact Ref.cInvoke (by assumption) | refine j0 ?_ | refine j1 ?_ | refine j2 ?_ | refine j3 ?_ | refine j4 ?_ | refine j5 ?_ | refine j6 ?_)):Ref x y:=t
instance ilp6_0:LpIs Q 6 0 (subAt [1,1,1,1,1,1,0,1,0,0] (bodyOf Tryz.f6)) 240:=⟨by kernel_rfl,by kernel_rfl⟩
instance ilp10_0:LpIs Q 10 0 (subAt [1,1,0,1,0,0] (bodyOf Tryz.f10)) 39:=⟨by kernel_rfl,by kernel_rfl⟩
instance ilp13_0:LpIs Q 13 0 (subAt [1,1,0,1,0,0] (bodyOf Tryz.f13)) 31:=⟨by kernel_rfl,by kernel_rfl⟩
instance ilp14_0:LpIs Q 14 0 (subAt [1,0,0] (bodyOf Tryz.f14)) 12:=⟨by kernel_rfl,by kernel_rfl⟩
instance ilp20_0:LpIs Q 20 0 (subAt [1,1,1,1,0,0] (bodyOf Tryz.f20)) 24:=⟨by kernel_rfl,by kernel_rfl⟩
instance ilp21_0:LpIs Q 21 0 (subAt [1,1,1,0,0] (bodyOf Tryz.f21)) 26:=⟨by kernel_rfl,by kernel_rfl⟩
instance ilp22_0:LpIs Q 22 0 (subAt [1,1,0,1,0,0] (bodyOf Tryz.f22)) 34:=⟨by kernel_rfl,by kernel_rfl⟩
instance ilp24_0:LpIs Q 24 0 (subAt [1,1,1,0,1,0,0] (bodyOf Tryz.f24)) 42:=⟨by kernel_rfl,by kernel_rfl⟩
instance ilp32_0:LpIs Q 32 0 (subAt [1,1,1,1,1,1,1,1,0,1,0,0] (bodyOf Tryz.f32)) 69:=⟨by kernel_rfl,by kernel_rfl⟩
instance ilp49_0:LpIs Q 49 0 (subAt [1,1,1,0,1,0,0] (bodyOf Tryz.f49)) 44:=⟨by kernel_rfl,by kernel_rfl⟩
instance ilp50_0:LpIs Q 50 0 (subAt [1,1,0,1,0,0] (bodyOf Tryz.f50)) 47:=⟨by kernel_rfl,by kernel_rfl⟩
instance ilp52_0:LpIs Q 52 0 (subAt [1,1,0,1,0,0] (bodyOf Tryz.f52)) 30:=⟨by kernel_rfl,by kernel_rfl⟩
instance ilp57_0:LpIs Q 57 0 (subAt [1,1,1,1,0,0] (bodyOf Tryz.f57)) 23:=⟨by kernel_rfl,by kernel_rfl⟩
instance ilp74_0:LpIs Q 74 0 (subAt [1,0,1,0,0] (bodyOf Tryz.f74)) 35:=⟨by kernel_rfl,by kernel_rfl⟩
instance ilp75_0:LpIs Q 75 0 (subAt [1,1,0,1,0,0] (bodyOf Tryz.f75)) 37:=⟨by kernel_rfl,by kernel_rfl⟩
instance ilp76_0:LpIs Q 76 0 (subAt [1,1,0,1,0,0] (bodyOf Tryz.f76)) 40:=⟨by kernel_rfl,by kernel_rfl⟩
instance ilp76_1:LpIs Q 76 1 (subAt [1,1,1,0,1,0,0] (bodyOf Tryz.f76)) 40:=⟨by kernel_rfl,by kernel_rfl⟩
instance ilp78_0:LpIs Q 78 0 (subAt [1,1,1,1,0,0] (bodyOf Tryz.f78)) 24:=⟨by kernel_rfl,by kernel_rfl⟩
instance ilp79_0:LpIs Q 79 0 (subAt [1,1,0,0] (bodyOf Tryz.f79)) 28:=⟨by kernel_rfl,by kernel_rfl⟩
instance ilp80_0:LpIs Q 80 0 (subAt [1,1,0,1,0,0] (bodyOf Tryz.f80)) 28:=⟨by kernel_rfl,by kernel_rfl⟩
instance ilp81_0:LpIs Q 81 0 (subAt [1,1,0,1,0,0] (bodyOf Tryz.f81)) 39:=⟨by kernel_rfl,by kernel_rfl⟩
instance ilp82_0:LpIs Q 82 0 (subAt [1,1,0,1,0,0] (bodyOf Tryz.f82)) 25:=⟨by kernel_rfl,by kernel_rfl⟩
instance ilp83_0:LpIs Q 83 0 (subAt [1,1,0,1,0,0] (bodyOf Tryz.f83)) 29:=⟨by kernel_rfl,by kernel_rfl⟩
instance ilp91_0:LpIs Q 91 0 (subAt [1,1,1,1,0,1,0,0] (bodyOf Tryz.f91)) 44:=⟨by kernel_rfl,by kernel_rfl⟩
instance ilp92_0:LpIs Q 92 0 (subAt [1,0,1,0,0] (bodyOf Tryz.f92)) 18:=⟨by kernel_rfl,by kernel_rfl⟩
instance ilp96_0:LpIs Q 96 0 (subAt [1,1,1,1,1,0,0] (bodyOf Tryz.f96)) 29:=⟨by kernel_rfl,by kernel_rfl⟩
instance ilp117_0:LpIs Q 117 0 (subAt [1,1,0,1,0,0] (bodyOf Tryz.f117)) 31:=⟨by kernel_rfl,by kernel_rfl⟩
instance ilp118_0:LpIs Q 118 0 (subAt [1,1,1,1,0,0] (bodyOf Tryz.f118)) 23:=⟨by kernel_rfl,by kernel_rfl⟩
instance ilp139_0:LpIs Q 139 0 (subAt [1,1,1,1,0,0] (bodyOf Tryz.f139)) 34:=⟨by kernel_rfl,by kernel_rfl⟩
instance ilp156_0:LpIs Q 156 0 (subAt [1,1,1,1,1,0,0] (bodyOf Tryz.f156)) 36:=⟨by kernel_rfl,by kernel_rfl⟩
instance ilp157_0:LpIs Q 157 0 (subAt [1,1,1,1,0,0] (bodyOf Tryz.f157)) 25:=⟨by kernel_rfl,by kernel_rfl⟩
instance ilp176_0:LpIs Q 176 0 (subAt [1,0,0] (bodyOf Tryz.f176)) 18:=⟨by kernel_rfl,by kernel_rfl⟩
instance ilp196_0:LpIs Q 196 0 (subAt [1,1,1,0,1,0,0] (bodyOf Tryz.f196)) 41:=⟨by kernel_rfl,by kernel_rfl⟩
instance ilp235_0:LpIs Q 235 0 (subAt [1,0,1,0,0] (bodyOf Tryz.f235)) 24:=⟨by kernel_rfl,by kernel_rfl⟩
instance ilp237_0:LpIs Q 237 0 (subAt [1,1,0,1,0,0] (bodyOf Tryz.f237)) 24:=⟨by kernel_rfl,by kernel_rfl⟩
instance ilda49:LdAOk Q 49 3:=⟨fun b o s G=>by kernel_rfl⟩
instance ilda45:LdAOk Q 45 13:=⟨fun b o s G=>by kernel_rfl⟩
instance ifa45_3:FaOk Q 45 3 3:=⟨fun b o s=>by kernel_rfl⟩
instance ifa43_0:FaOk Q 43 0 0:=⟨fun b o s=>by kernel_rfl⟩
instance ifa39_0:FaOk Q 39 0 0:=⟨fun b o s=>by kernel_rfl⟩
instance ifa37_2:FaOk Q 37 2 2:=⟨fun b o s=>by kernel_rfl⟩
instance ild3:LdOk Q 3:=⟨fun b o s G=>(show _ = loadOne b o G by kernel_rfl).trans (loadOne_eq b o G)⟩
instance iln22:LnOk Q 22:=⟨fun a n c=>by kernel_rfl⟩
instance iln65:LnOk Q 65:=⟨fun a n c=>by kernel_rfl⟩
instance iep50:EpOk Q 50:=⟨fun neg x y=>by cases neg <;> kernel_rfl,fun neg x y a=>by cases neg <;> kernel_rfl,fun neg x y a=>by cases neg <;> kernel_rfl⟩
abbrev z78:List Value:=[(.pointer none),(.pointer none)]
instance imk72:MkSlOk Q 72 2 16 z78:=⟨fun k k' l c G=>by kernel_rfl⟩
instance iias65:IasOk Q 65 5:=⟨fun b o s n c k j=>by kernel_rfl⟩
instance ifa74_0:FaOk Q 74 0 0:=⟨fun b o s=>by kernel_rfl⟩
instance ifa74_1:FaOk Q 74 1 1:=⟨fun b o s=>by kernel_rfl⟩
instance ifa74_2:FaOk Q 74 2 2:=⟨fun b o s=>by kernel_rfl⟩
instance ibd78_0_1:BdOk Q 78 z78 [(0,0,1),(1,1,1)]:=bd_ok Q (by kernel_rfl) (by kernel_rfl) (by kernel_rfl)
instance iias72:IasOk Q 72 2:=⟨fun b o s n c k j=>by kernel_rfl⟩
instance ist78:StOk Q 78 2:=⟨fun b o s v G=>by kernel_rfl⟩
instance ifa74_3:FaOk Q 74 3 3:=⟨fun b o s=>by kernel_rfl⟩
instance ifa74_4:FaOk Q 74 4 4:=⟨fun b o s=>by kernel_rfl⟩
instance ild23:LdOk Q 23:=⟨fun b o s G=>(show _ = loadOne b o G by kernel_rfl).trans (loadOne_eq b o G)⟩
instance ifa78_1:FaOk Q 78 1 1:=⟨fun b o s=>by kernel_rfl⟩
instance ild75:LdOk Q 75:=⟨fun b o s G=>(show _ = loadOne b o G by kernel_rfl).trans (loadOne_eq b o G)⟩
instance iep75:EpOk Q 75:=⟨fun neg x y=>by cases neg <;> kernel_rfl,fun neg x y a=>by cases neg <;> kernel_rfl,fun neg x y a=>by cases neg <;> kernel_rfl⟩
instance ifa78_0:FaOk Q 78 0 0:=⟨fun b o s=>by kernel_rfl⟩
instance ild59:LdOk Q 59:=⟨fun b o s G=>(show _ = loadOne b o G by kernel_rfl).trans (loadOne_eq b o G)⟩
instance ieb4:EbOk Q 4:=⟨fun neg x y a b=>by cases neg <;> cases a <;> cases b <;> kernel_rfl⟩
instance ilda78:LdAOk Q 78 2:=⟨fun b o s G=>by kernel_rfl⟩
instance ial78:AlOk Q 78 z78:=⟨fun G=>by kernel_rfl⟩
abbrev z23:List Value:=[(.int .u64 0)]
instance ibs22_2_0_1:BsOk Q 22 2 (rep z23 2) 1 [(0,0,1),(1,1,1)]:=bs_ok Q (z0:=z23) (by kernel_rfl) rfl (by decide) (by kernel_rfl)
abbrev z3:List Value:=[(.int .i64 0)]
instance ibs35_1_0:BsOk Q 35 1 (rep z3 1) 1 [(0,0,1)]:=bs_ok Q (z0:=z3) (by kernel_rfl) rfl (by decide) (by kernel_rfl)
instance ibs22_0_:BsOk Q 22 0 (rep z23 0) 1 []:=bs_ok Q (z0:=z23) (by kernel_rfl) rfl (by decide) (by kernel_rfl)
instance iap22_22:ApOk Q 22 22 1 8:=⟨fun s x G=>by kernel_rfl⟩
instance iias22:IasOk Q 22 1:=⟨fun b o s n c k j=>by kernel_rfl⟩
instance ist23:StOk Q 23 1:=⟨fun b o s v G=>by kernel_rfl⟩
abbrev z98:List Value:=(zs 4096 (.int .u64 0))
instance ial98:AlOk Q 98 z98:=⟨fun G=>by kernel_rfl⟩
abbrev z100:List Value:=[(.pointer none),(.int .i64 0),(.int .i64 0),(.int .i64 0),(.int .u64 0),(.int .u64 0),(.bool false),(.int .i64 0)]
instance ibd100_0_1:BdOk Q 100 z100 [(0,0,1),(1,1,1)]:=bd_ok Q (by kernel_rfl) (by kernel_rfl) (by kernel_rfl)
instance ilda43:LdAOk Q 43 10:=⟨fun b o s G=>by kernel_rfl⟩
instance ifa45_2:FaOk Q 45 2 2:=⟨fun b o s=>by kernel_rfl⟩
instance ifa45_1:FaOk Q 45 1 1:=⟨fun b o s=>by kernel_rfl⟩
instance ifa49_2:FaOk Q 49 2 2:=⟨fun b o s=>by kernel_rfl⟩
instance ifa49_0:FaOk Q 49 0 0:=⟨fun b o s=>by kernel_rfl⟩
instance ifa49_1:FaOk Q 49 1 1:=⟨fun b o s=>by kernel_rfl⟩
abbrev z109:List Value:=[(.pointer none),(.int .u64 0),(.int .u64 0)]
instance ibd109_0_1:BdOk Q 109 z109 [(0,0,1),(1,1,1)]:=bd_ok Q (by kernel_rfl) (by kernel_rfl) (by kernel_rfl)
instance ial109:AlOk Q 109 z109:=⟨fun G=>by kernel_rfl⟩
instance ist109:StOk Q 109 3:=⟨fun b o s v G=>by kernel_rfl⟩
instance ifa109_0:FaOk Q 109 0 0:=⟨fun b o s=>by kernel_rfl⟩
instance ild106:LdOk Q 106:=⟨fun b o s G=>(show _ = loadOne b o G by kernel_rfl).trans (loadOne_eq b o G)⟩
instance ilda109:LdAOk Q 109 3:=⟨fun b o s G=>by kernel_rfl⟩
instance ifa100_0:FaOk Q 100 0 0:=⟨fun b o s=>by kernel_rfl⟩
instance ild95:LdOk Q 95:=⟨fun b o s G=>(show _ = loadOne b o G by kernel_rfl).trans (loadOne_eq b o G)⟩
instance iep95:EpOk Q 95:=⟨fun neg x y=>by cases neg <;> kernel_rfl,fun neg x y a=>by cases neg <;> kernel_rfl,fun neg x y a=>by cases neg <;> kernel_rfl⟩
instance ifa100_1:FaOk Q 100 1 1:=⟨fun b o s=>by kernel_rfl⟩
instance imk22:MkSlOk Q 22 1 8 z23:=⟨fun k k' l c G=>by kernel_rfl⟩
instance isla98:SlAOk Q 98 4096 1:=⟨fun a lo hi mx G=>by kernel_rfl⟩
instance iln112:LnOk Q 112:=⟨fun a n c=>by kernel_rfl⟩
instance iias112:IasOk Q 112 1:=⟨fun b o s n c k j=>by kernel_rfl⟩
instance ild96:LdOk Q 96:=⟨fun b o s G=>(show _ = loadOne b o G by kernel_rfl).trans (loadOne_eq b o G)⟩
abbrev z114:List Value:=[(.int .i64 0),(.int .i64 0)]
instance ibd114_0_1:BdOk Q 114 z114 [(0,0,1),(1,1,1)]:=bd_ok Q (by kernel_rfl) (by kernel_rfl) (by kernel_rfl)
abbrev z118:List Value:=[(.int .i64 0),(.int .i64 0),(.int .i64 0),(.int .i64 0),(.int .i64 0),(.pointer none),(.int .u64 0),(.slice none 0 0),(.int .i64 0),(.int .i64 0),(.int .u64 0),(.bool false),(.bool false),(.int .i64 0)]
instance ibd118_0_1_2_5_6_8:BdOk Q 118 z118 [(0,0,2),(1,2,3),(2,5,1),(5,8,1),(6,9,1),(8,11,1)]:=bd_ok Q (by kernel_rfl) (by kernel_rfl) (by kernel_rfl)
instance ifa118_2:FaOk Q 118 2 5:=⟨fun b o s=>by kernel_rfl⟩
instance ild115:LdOk Q 115:=⟨fun b o s G=>(show _ = loadOne b o G by kernel_rfl).trans (loadOne_eq b o G)⟩
abbrev z120:List Value:=[(.int .u64 0),(.int .i64 0)]
instance ial120:AlOk Q 120 z120:=⟨fun G=>by kernel_rfl⟩
instance ist120:StOk Q 120 2:=⟨fun b o s v G=>by kernel_rfl⟩
instance iep59:EpOk Q 59:=⟨fun neg x y=>by cases neg <;> kernel_rfl,fun neg x y a=>by cases neg <;> kernel_rfl,fun neg x y a=>by cases neg <;> kernel_rfl⟩
instance ifa118_8:FaOk Q 118 8 11:=⟨fun b o s=>by kernel_rfl⟩
instance ild4:LdOk Q 4:=⟨fun b o s G=>(show _ = loadOne b o G by kernel_rfl).trans (loadOne_eq b o G)⟩
instance ifa118_9:FaOk Q 118 9 12:=⟨fun b o s=>by kernel_rfl⟩
instance ifa118_7:FaOk Q 118 7 10:=⟨fun b o s=>by kernel_rfl⟩
instance iep115:EpOk Q 115:=⟨fun neg x y=>by cases neg <;> kernel_rfl,fun neg x y a=>by cases neg <;> kernel_rfl,fun neg x y a=>by cases neg <;> kernel_rfl⟩
instance ifa118_0:FaOk Q 118 0 0:=⟨fun b o s=>by kernel_rfl⟩
instance ifa118_4:FaOk Q 118 4 7:=⟨fun b o s=>by kernel_rfl⟩
instance ild22:LdOk Q 22:=⟨fun b o s G=>(show _ = loadOne b o G by kernel_rfl).trans (loadOne_eq b o G)⟩
instance ibs22_1_0:BsOk Q 22 1 (rep z23 1) 1 [(0,0,1)]:=bs_ok Q (z0:=z23) (by kernel_rfl) rfl (by decide) (by kernel_rfl)
instance ist22:StOk Q 22 1:=⟨fun b o s v G=>by kernel_rfl⟩
instance ifa114_1:FaOk Q 114 1 1:=⟨fun b o s=>by kernel_rfl⟩
instance ifa118_3:FaOk Q 118 3 6:=⟨fun b o s=>by kernel_rfl⟩
instance ifa118_5:FaOk Q 118 5 8:=⟨fun b o s=>by kernel_rfl⟩
instance ist3:StOk Q 3 1:=⟨fun b o s v G=>by kernel_rfl⟩
instance ist4:StOk Q 4 1:=⟨fun b o s v G=>by kernel_rfl⟩
instance ifa118_1:FaOk Q 118 1 2:=⟨fun b o s=>by kernel_rfl⟩
instance ifa118_6:FaOk Q 118 6 9:=⟨fun b o s=>by kernel_rfl⟩
instance ifa118_10:FaOk Q 118 10 13:=⟨fun b o s=>by kernel_rfl⟩
instance ild51:LdOk Q 51:=⟨fun b o s G=>(show _ = loadOne b o G by kernel_rfl).trans (loadOne_eq b o G)⟩
instance iap35_35:ApOk Q 35 35 1 8:=⟨fun s x G=>by kernel_rfl⟩
abbrev z143:List Value:=[(.int .i64 0),(.int .i64 0),(.int .i64 0),(.pointer none),(.int .i64 0),(.int .u64 0),(.slice none 0 0),(.int .i64 0),(.int .u64 0),(.int .i64 0)]
instance ibd143_2_5_7:BdOk Q 143 z143 [(2,4,1),(5,7,1),(7,9,1)]:=bd_ok Q (by kernel_rfl) (by kernel_rfl) (by kernel_rfl)
instance ibd143_0_1_2_5:BdOk Q 143 z143 [(0,0,3),(1,3,1),(2,4,1),(5,7,1)]:=bd_ok Q (by kernel_rfl) (by kernel_rfl) (by kernel_rfl)
instance ifa143_6:FaOk Q 143 6 8:=⟨fun b o s=>by kernel_rfl⟩
instance ifa143_2:FaOk Q 143 2 4:=⟨fun b o s=>by kernel_rfl⟩
instance ifa143_1:FaOk Q 143 1 3:=⟨fun b o s=>by kernel_rfl⟩
instance ild141:LdOk Q 141:=⟨fun b o s G=>(show _ = loadOne b o G by kernel_rfl).trans (loadOne_eq b o G)⟩
instance ifa152_0:FaOk Q 152 0 0:=⟨fun b o s=>by kernel_rfl⟩
instance ifa143_4:FaOk Q 143 4 6:=⟨fun b o s=>by kernel_rfl⟩
instance ifa143_0:FaOk Q 143 0 0:=⟨fun b o s=>by kernel_rfl⟩
instance ifa143_3:FaOk Q 143 3 5:=⟨fun b o s=>by kernel_rfl⟩
instance ifa143_5:FaOk Q 143 5 7:=⟨fun b o s=>by kernel_rfl⟩
instance ifa143_7:FaOk Q 143 7 9:=⟨fun b o s=>by kernel_rfl⟩
abbrev z82:List Value:=[(.int .i64 0),(.int .i64 0),(.int .u64 0),(.int .u64 0),(.bool false)]
instance ial82:AlOk Q 82 z82:=⟨fun G=>by kernel_rfl⟩
instance ibd82_:BdOk Q 82 z82 []:=bd_ok Q (by kernel_rfl) (by kernel_rfl) (by kernel_rfl)
instance ist82:StOk Q 82 5:=⟨fun b o s v G=>by kernel_rfl⟩
instance ifa100_2:FaOk Q 100 2 2:=⟨fun b o s=>by kernel_rfl⟩
instance ilda82:LdAOk Q 82 5:=⟨fun b o s G=>by kernel_rfl⟩
instance ifa154_1:FaOk Q 154 1 1:=⟨fun b o s=>by kernel_rfl⟩
instance ifa100_3:FaOk Q 100 3 7:=⟨fun b o s=>by kernel_rfl⟩
instance ifa154_2:FaOk Q 154 2 6:=⟨fun b o s=>by kernel_rfl⟩
instance ifa154_0:FaOk Q 154 0 0:=⟨fun b o s=>by kernel_rfl⟩
abbrev z49:List Value:=[(.int .i64 0),(.int .i64 0),(.int .i64 0)]
instance ial49:AlOk Q 49 z49:=⟨fun G=>by kernel_rfl⟩
instance ibd49_0_1_2:BdOk Q 49 z49 [(0,0,1),(1,1,1),(2,2,1)]:=bd_ok Q (by kernel_rfl) (by kernel_rfl) (by kernel_rfl)
instance ist49:StOk Q 49 3:=⟨fun b o s v G=>by kernel_rfl⟩
instance iln138:LnOk Q 138:=⟨fun a n c=>by kernel_rfl⟩
instance iias138:IasOk Q 138 1:=⟨fun b o s n c k j=>by kernel_rfl⟩
instance iln35:LnOk Q 35:=⟨fun a n c=>by kernel_rfl⟩
abbrev z45:List Value:=[(.int .i64 0),(.int .i64 0),(.int .i64 0),(.int .i64 0),(.int .i64 0),(.int .i64 0),(.int .i64 0),(.int .i64 0),(.int .i64 0),(.int .i64 0),(.int .i64 0),(.int .i64 0),(.int .i64 0)]
instance ial45:AlOk Q 45 z45:=⟨fun G=>by kernel_rfl⟩
abbrev z37:List Value:=[(.int .i64 0),(.int .i64 0),(.int .i64 0)]
instance ibd37_0_1_2:BdOk Q 37 z37 [(0,0,1),(1,1,1),(2,2,1)]:=bd_ok Q (by kernel_rfl) (by kernel_rfl) (by kernel_rfl)
abbrev z39:List Value:=[(.int .i64 0),(.int .i64 0),(.int .i64 0),(.int .i64 0),(.int .i64 0),(.int .i64 0)]
instance ibd39_0_1_2_3:BdOk Q 39 z39 [(0,0,3),(1,3,1),(2,4,1),(3,5,1)]:=bd_ok Q (by kernel_rfl) (by kernel_rfl) (by kernel_rfl)
instance ial39:AlOk Q 39 z39:=⟨fun G=>by kernel_rfl⟩
instance ist39:StOk Q 39 6:=⟨fun b o s v G=>by kernel_rfl⟩
instance ilda39:LdAOk Q 39 6:=⟨fun b o s G=>by kernel_rfl⟩
abbrev z41:List Value:=[(.int .i64 0),(.int .i64 0),(.int .i64 0)]
instance ibd41_0_1_2:BdOk Q 41 z41 [(0,0,1),(1,1,1),(2,2,1)]:=bd_ok Q (by kernel_rfl) (by kernel_rfl) (by kernel_rfl)
abbrev z43:List Value:=[(.int .i64 0),(.int .i64 0),(.int .i64 0),(.int .i64 0),(.int .i64 0),(.int .i64 0),(.int .i64 0),(.int .i64 0),(.int .i64 0),(.int .i64 0)]
instance ibd43_0_1_2:BdOk Q 43 z43 [(0,0,6),(1,6,3),(2,9,1)]:=bd_ok Q (by kernel_rfl) (by kernel_rfl) (by kernel_rfl)
instance ial43:AlOk Q 43 z43:=⟨fun G=>by kernel_rfl⟩
instance ist43:StOk Q 43 10:=⟨fun b o s v G=>by kernel_rfl⟩
instance ibd45_0_1_2_3:BdOk Q 45 z45 [(0,0,1),(1,1,1),(2,2,1),(3,3,10)]:=bd_ok Q (by kernel_rfl) (by kernel_rfl) (by kernel_rfl)
instance ist45:StOk Q 45 13:=⟨fun b o s v G=>by kernel_rfl⟩
instance ifa45_0:FaOk Q 45 0 0:=⟨fun b o s=>by kernel_rfl⟩
instance ifa43_1:FaOk Q 43 1 6:=⟨fun b o s=>by kernel_rfl⟩
instance ilda41:LdAOk Q 41 3:=⟨fun b o s G=>by kernel_rfl⟩
instance ifd37_0:FdOk Q 37 0 0:=⟨fun l=>by kernel_rfl⟩
instance iiaa98:IaaOk Q 98 4096 1:=⟨fun b o s k j=>by kernel_rfl⟩
instance ibd82_0_1:BdOk Q 82 z82 [(0,0,1),(1,1,1)]:=bd_ok Q (by kernel_rfl) (by kernel_rfl) (by kernel_rfl)
instance ifa82_2:FaOk Q 82 2 2:=⟨fun b o s=>by kernel_rfl⟩
instance ifa82_3:FaOk Q 82 3 3:=⟨fun b o s=>by kernel_rfl⟩
instance ifa82_4:FaOk Q 82 4 4:=⟨fun b o s=>by kernel_rfl⟩
instance ist96:StOk Q 96 1:=⟨fun b o s v G=>by kernel_rfl⟩
instance ifa109_1:FaOk Q 109 1 1:=⟨fun b o s=>by kernel_rfl⟩
abbrev z177:List Value:=[(.int .i64 0),(.int .i64 0),(.int .i64 0),(.int .i64 0),(.int .i64 0),(.int .i64 0),(.int .i64 0),(.int .i64 0),(.int .i64 0),(.int .i64 0),(.int .i64 0),(.int .i64 0),(.int .i64 0),(.int .i64 0),(.bool false),(.int .i64 0),(.slice none 0 0),(.int .u64 0),(.int .i64 0),(.int .u64 0),(.int .i64 0),(.int .i64 0)]
instance ibd177_0:BdOk Q 177 z177 [(0,0,19)]:=bd_ok Q (by kernel_rfl) (by kernel_rfl) (by kernel_rfl)
abbrev z115:List Value:=[(.pointer none)]
instance ial115:AlOk Q 115 z115:=⟨fun G=>by kernel_rfl⟩
instance ist115:StOk Q 115 1:=⟨fun b o s v G=>by kernel_rfl⟩
instance ifa177_0:FaOk Q 177 0 0:=⟨fun b o s=>by kernel_rfl⟩
instance ifa166_6:FaOk Q 166 6 18:=⟨fun b o s=>by kernel_rfl⟩
abbrev z185:List Value:=[.nilFunc,.nilFunc,.nilFunc,(.pointer none),(.bool false)]
instance ibd185_0_1_2:BdOk Q 185 z185 [(0,0,1),(1,1,1),(2,2,1)]:=bd_ok Q (by kernel_rfl) (by kernel_rfl) (by kernel_rfl)
instance iifc178:IfcOk Q 178:=⟨fun v=>by kernel_rfl⟩
abbrev z171:List Value:=[.nilIface]
instance ibs164_3_0_1_2:BsOk Q 164 3 (rep z171 3) 1 [(0,0,1),(1,1,1),(2,2,1)]:=bs_ok Q (z0:=z171) (by kernel_rfl) rfl (by decide) (by kernel_rfl)
instance ifa166_4:FaOk Q 166 4 16:=⟨fun b o s=>by kernel_rfl⟩
instance ist164:StOk Q 164 1:=⟨fun b o s v G=>by kernel_rfl⟩
instance ibd120_:BdOk Q 120 z120 []:=bd_ok Q (by kernel_rfl) (by kernel_rfl) (by kernel_rfl)
instance ifa177_1:FaOk Q 177 1 19:=⟨fun b o s=>by kernel_rfl⟩
instance ilda175:LdAOk Q 175 3:=⟨fun b o s G=>by kernel_rfl⟩
instance ilda120:LdAOk Q 120 2:=⟨fun b o s G=>by kernel_rfl⟩
instance ist51:StOk Q 51 1:=⟨fun b o s v G=>by kernel_rfl⟩
instance ifa120_0:FaOk Q 120 0 0:=⟨fun b o s=>by kernel_rfl⟩
instance ifa114_0:FaOk Q 114 0 0:=⟨fun b o s=>by kernel_rfl⟩
instance ibd109_0:BdOk Q 109 z109 [(0,0,1)]:=bd_ok Q (by kernel_rfl) (by kernel_rfl) (by kernel_rfl)
instance ifd82_3:FdOk Q 82 3 3:=⟨fun l=>by kernel_rfl⟩
instance iias35:IasOk Q 35 1:=⟨fun b o s n c k j=>by kernel_rfl⟩
instance isl35:SlOk Q 35 1:=⟨fun a n c lo hi mx G=>sl_eq Q (e:=3) (by kernel_rfl) (by kernel_rfl) a n c lo hi mx G⟩
instance ifa41_0:FaOk Q 41 0 0:=⟨fun b o s=>by kernel_rfl⟩
instance ifa43_2:FaOk Q 43 2 9:=⟨fun b o s=>by kernel_rfl⟩
instance ibs35_4_0_1_2_3:BsOk Q 35 4 (rep z3 4) 1 [(0,0,1),(1,1,1),(2,2,1),(3,3,1)]:=bs_ok Q (z0:=z3) (by kernel_rfl) rfl (by decide) (by kernel_rfl)
instance ifa41_2:FaOk Q 41 2 2:=⟨fun b o s=>by kernel_rfl⟩
instance ifa41_1:FaOk Q 41 1 1:=⟨fun b o s=>by kernel_rfl⟩
abbrev z154:List Value:=[(.slice none 0 0),(.int .i64 0),(.int .i64 0),(.int .u64 0),(.int .u64 0),(.bool false),(.int .i64 0)]
instance ibd154_0:BdOk Q 154 z154 [(0,0,1)]:=bd_ok Q (by kernel_rfl) (by kernel_rfl) (by kernel_rfl)
abbrev z4:List Value:=[(.bool false)]
instance ibs138_1_0:BsOk Q 138 1 (rep z4 1) 1 [(0,0,1)]:=bs_ok Q (z0:=z4) (by kernel_rfl) rfl (by decide) (by kernel_rfl)
instance iap138_138:ApOk Q 138 138 1 1:=⟨fun s x G=>by kernel_rfl⟩
abbrev z152:List Value:=[(.int .i64 0),(.int .i64 0),(.int .i64 0),(.int .i64 0),(.int .i64 0),(.int .i64 0),(.int .i64 0),(.int .i64 0),(.int .i64 0),(.int .i64 0),(.int .i64 0),(.int .i64 0),(.int .i64 0),(.int .i64 0),(.int .i64 0),(.pointer none),(.int .i64 0),(.pointer none),(.int .u64 0),(.int .i64 0),(.pointer none)]
instance ibd152_0_1:BdOk Q 152 z152 [(0,0,20),(1,20,1)]:=bd_ok Q (by kernel_rfl) (by kernel_rfl) (by kernel_rfl)
instance ifa149_6:FaOk Q 149 6 18:=⟨fun b o s=>by kernel_rfl⟩
instance ifa149_2:FaOk Q 149 2 14:=⟨fun b o s=>by kernel_rfl⟩
instance ifa152_1:FaOk Q 152 1 20:=⟨fun b o s=>by kernel_rfl⟩
instance ild150:LdOk Q 150:=⟨fun b o s G=>(show _ = loadOne b o G by kernel_rfl).trans (loadOne_eq b o G)⟩
instance ifa200_0:FaOk Q 200 0 0:=⟨fun b o s=>by kernel_rfl⟩
instance ifa149_5:FaOk Q 149 5 17:=⟨fun b o s=>by kernel_rfl⟩
instance ild147:LdOk Q 147:=⟨fun b o s G=>(show _ = loadOne b o G by kernel_rfl).trans (loadOne_eq b o G)⟩
instance ilda37:LdAOk Q 37 3:=⟨fun b o s G=>by kernel_rfl⟩
instance ifa39_2:FaOk Q 39 2 4:=⟨fun b o s=>by kernel_rfl⟩
instance ifa39_1:FaOk Q 39 1 3:=⟨fun b o s=>by kernel_rfl⟩
instance ild50:LdOk Q 50:=⟨fun b o s G=>(show _ = loadOne b o G by kernel_rfl).trans (loadOne_eq b o G)⟩
instance ial37:AlOk Q 37 z37:=⟨fun G=>by kernel_rfl⟩
instance ifa37_1:FaOk Q 37 1 1:=⟨fun b o s=>by kernel_rfl⟩
instance ist37:StOk Q 37 3:=⟨fun b o s v G=>by kernel_rfl⟩
abbrev z166:List Value:=[(.int .i64 0),(.int .i64 0),(.int .i64 0),(.int .i64 0),(.int .i64 0),(.int .i64 0),(.int .i64 0),(.int .i64 0),(.int .i64 0),(.int .i64 0),(.int .i64 0),(.int .i64 0),(.int .i64 0),(.int .i64 0),(.bool false),(.int .i64 0),(.slice none 0 0),(.int .u64 0),(.int .i64 0)]
instance ial166:AlOk Q 166 z166:=⟨fun G=>by kernel_rfl⟩
instance ibd166_0_1_2:BdOk Q 166 z166 [(0,0,13),(1,13,1),(2,14,1)]:=bd_ok Q (by kernel_rfl) (by kernel_rfl) (by kernel_rfl)
instance ist166:StOk Q 166 19:=⟨fun b o s v G=>by kernel_rfl⟩
instance ilda166:LdAOk Q 166 19:=⟨fun b o s G=>by kernel_rfl⟩
abbrev z229:List Value:=[.nilFunc,.nilFunc,.nilFunc,(.pointer none),(.bool false)]
instance ibd229_0_2:BdOk Q 229 z229 [(0,0,1),(2,2,1)]:=bd_ok Q (by kernel_rfl) (by kernel_rfl) (by kernel_rfl)
instance iifc220:IfcOk Q 220:=⟨fun v=>by kernel_rfl⟩
instance ild164:LdOk Q 164:=⟨fun b o s G=>(show _ = loadOne b o G by kernel_rfl).trans (loadOne_eq b o G)⟩
instance iln164:LnOk Q 164:=⟨fun a n c=>by kernel_rfl⟩
instance iias164:IasOk Q 164 1:=⟨fun b o s n c k j=>by kernel_rfl⟩
instance ild171:LdOk Q 171:=⟨fun b o s G=>(show _ = loadOne b o G by kernel_rfl).trans (loadOne_eq b o G)⟩
instance isl164:SlOk Q 164 1:=⟨fun a n c lo hi mx G=>sl_eq Q (e:=171) (by kernel_rfl) (by kernel_rfl) a n c lo hi mx G⟩
instance ifa166_5:FaOk Q 166 5 17:=⟨fun b o s=>by kernel_rfl⟩
instance ibs164_1_0:BsOk Q 164 1 (rep z171 1) 1 [(0,0,1)]:=bs_ok Q (z0:=z171) (by kernel_rfl) rfl (by decide) (by kernel_rfl)
instance iap164_164:ApOk Q 164 164 1 16:=⟨fun s x G=>by kernel_rfl⟩
instance ifa166_2:FaOk Q 166 2 14:=⟨fun b o s=>by kernel_rfl⟩
instance iep106:EpOk Q 106:=⟨fun neg x y=>by cases neg <;> kernel_rfl,fun neg x y a=>by cases neg <;> kernel_rfl,fun neg x y a=>by cases neg <;> kernel_rfl⟩
abbrev z246:List Value:=[(.int .i64 0),(.int .i64 0),(.int .i64 0),(.int .i64 0),(.int .i64 0),(.int .i64 0),(.int .i64 0),(.int .i64 0),(.int .i64 0),(.int .i64 0),(.int .i64 0),(.int .i64 0),(.int .i64 0),(.int .i64 0),(.int .u64 0),(.int .i64 0),(.int .u64 0),(.int .u64 0),(.int .i64 0),(.int .u64 0),(.bool false),(.int .i64 0)]
instance ibd246_0:BdOk Q 246 z246 [(0,0,22)]:=bd_ok Q (by kernel_rfl) (by kernel_rfl) (by kernel_rfl)
instance iep179:EpOk Q 179:=⟨fun neg x y=>by cases neg <;> kernel_rfl,fun neg x y a=>by cases neg <;> kernel_rfl,fun neg x y a=>by cases neg <;> kernel_rfl⟩
instance ifa246_0:FaOk Q 246 0 0:=⟨fun b o s=>by kernel_rfl⟩
instance ifa243_7:FaOk Q 243 7 19:=⟨fun b o s=>by kernel_rfl⟩
instance ifa175_0:FaOk Q 175 0 0:=⟨fun b o s=>by kernel_rfl⟩
instance ifa175_1:FaOk Q 175 1 2:=⟨fun b o s=>by kernel_rfl⟩
abbrev z254:List Value:=[.nilFunc,.nilFunc,.nilFunc,(.pointer none),(.bool false)]
instance ibd254_0:BdOk Q 254 z254 [(0,0,1)]:=bd_ok Q (by kernel_rfl) (by kernel_rfl) (by kernel_rfl)
instance iifc247:IfcOk Q 247:=⟨fun v=>by kernel_rfl⟩
instance ifa39_3:FaOk Q 39 3 5:=⟨fun b o s=>by kernel_rfl⟩
instance ifa37_0:FaOk Q 37 0 0:=⟨fun b o s=>by kernel_rfl⟩
instance ibs35_2_0_1:BsOk Q 35 2 (rep z3 2) 1 [(0,0,1),(1,1,1)]:=bs_ok Q (z0:=z3) (by kernel_rfl) rfl (by decide) (by kernel_rfl)
abbrev z149:List Value:=[(.int .i64 0),(.int .i64 0),(.int .i64 0),(.int .i64 0),(.int .i64 0),(.int .i64 0),(.int .i64 0),(.int .i64 0),(.int .i64 0),(.int .i64 0),(.int .i64 0),(.int .i64 0),(.int .i64 0),(.int .i64 0),(.int .i64 0),(.pointer none),(.int .i64 0),(.pointer none),(.int .u64 0),(.int .i64 0)]
instance ial149:AlOk Q 149 z149:=⟨fun G=>by kernel_rfl⟩
instance ibd149_2_7:BdOk Q 149 z149 [(2,14,1),(7,19,1)]:=bd_ok Q (by kernel_rfl) (by kernel_rfl) (by kernel_rfl)
instance ist149:StOk Q 149 20:=⟨fun b o s v G=>by kernel_rfl⟩
instance ibd149_0_1_2_3:BdOk Q 149 z149 [(0,0,13),(1,13,1),(2,14,1),(3,15,1)]:=bd_ok Q (by kernel_rfl) (by kernel_rfl) (by kernel_rfl)
instance ilda149:LdAOk Q 149 20:=⟨fun b o s G=>by kernel_rfl⟩
instance ilda198:LdAOk Q 198 26:=⟨fun b o s G=>by kernel_rfl⟩
abbrev z200:List Value:=[(.int .i64 0),(.int .i64 0),(.int .i64 0),(.int .i64 0),(.int .i64 0),(.int .i64 0),(.int .i64 0),(.int .i64 0),(.int .i64 0),(.int .i64 0),(.int .i64 0),(.int .i64 0),(.int .i64 0),(.bool false),(.int .i64 0),(.int .u64 0),(.int .u64 0),(.int .i64 0),(.int .i64 0),(.int .u64 0),(.int .i64 0),(.pointer none),(.pointer none),(.bool false),(.int .u64 0),(.int .i64 0)]
instance ibd200_0:BdOk Q 200 z200 [(0,0,26)]:=bd_ok Q (by kernel_rfl) (by kernel_rfl) (by kernel_rfl)
instance ifa198_1:FaOk Q 198 1 13:=⟨fun b o s=>by kernel_rfl⟩
instance ifa149_3:FaOk Q 149 3 15:=⟨fun b o s=>by kernel_rfl⟩
instance ild146:LdOk Q 146:=⟨fun b o s G=>(show _ = loadOne b o G by kernel_rfl).trans (loadOne_eq b o G)⟩
instance ifa149_4:FaOk Q 149 4 16:=⟨fun b o s=>by kernel_rfl⟩
instance ifa198_2:FaOk Q 198 2 14:=⟨fun b o s=>by kernel_rfl⟩
instance ifa198_11:FaOk Q 198 11 24:=⟨fun b o s=>by kernel_rfl⟩
instance ifa149_0:FaOk Q 149 0 0:=⟨fun b o s=>by kernel_rfl⟩
instance ifa149_1:FaOk Q 149 1 13:=⟨fun b o s=>by kernel_rfl⟩
instance ist147:StOk Q 147 1:=⟨fun b o s v G=>by kernel_rfl⟩
instance ifa264_2:FaOk Q 264 2 4:=⟨fun b o s=>by kernel_rfl⟩
instance ifa264_0:FaOk Q 264 0 0:=⟨fun b o s=>by kernel_rfl⟩
instance ifa264_1:FaOk Q 264 1 3:=⟨fun b o s=>by kernel_rfl⟩
instance ifa149_7:FaOk Q 149 7 19:=⟨fun b o s=>by kernel_rfl⟩
instance ild187:LdOk Q 187:=⟨fun b o s G=>(show _ = loadOne b o G by kernel_rfl).trans (loadOne_eq b o G)⟩
instance ifa166_0:FaOk Q 166 0 0:=⟨fun b o s=>by kernel_rfl⟩
instance ifa166_1:FaOk Q 166 1 13:=⟨fun b o s=>by kernel_rfl⟩
abbrev z282:List Value:=[.nilFunc,.nilFunc,.nilFunc,(.int .i64 0),(.bool false),(.int .i64 0)]
instance ibd282_2:BdOk Q 282 z282 [(2,4,1)]:=bd_ok Q (by kernel_rfl) (by kernel_rfl) (by kernel_rfl)
abbrev z285:List Value:=[.nilFunc,.nilFunc,.nilFunc,(.int .i64 0),(.bool false),(.int .i64 0),(.int .i64 0),(.int .i64 0),(.int .i64 0),(.int .i64 0),(.int .u32 0)]
instance ibd285_0_1:BdOk Q 285 z285 [(0,0,6),(1,6,3)]:=bd_ok Q (by kernel_rfl) (by kernel_rfl) (by kernel_rfl)
instance ifa285_0:FaOk Q 285 0 0:=⟨fun b o s=>by kernel_rfl⟩
instance ifa285_2:FaOk Q 285 2 9:=⟨fun b o s=>by kernel_rfl⟩
abbrev z280:List Value:=[.nilFunc,.nilFunc,.nilFunc]
instance ibd280_0_1_2:BdOk Q 280 z280 [(0,0,1),(1,1,1),(2,2,1)]:=bd_ok Q (by kernel_rfl) (by kernel_rfl) (by kernel_rfl)
instance ifa282_0:FaOk Q 282 0 0:=⟨fun b o s=>by kernel_rfl⟩
instance ist280:StOk Q 280 3:=⟨fun b o s v G=>by kernel_rfl⟩
instance ifa166_3:FaOk Q 166 3 15:=⟨fun b o s=>by kernel_rfl⟩
instance iep221:EpOk Q 221:=⟨fun neg x y=>by cases neg <;> kernel_rfl,fun neg x y a=>by cases neg <;> kernel_rfl,fun neg x y a=>by cases neg <;> kernel_rfl⟩
instance ifa285_3:FaOk Q 285 3 10:=⟨fun b o s=>by kernel_rfl⟩
instance ild283:LdOk Q 283:=⟨fun b o s G=>(show _ = loadOne b o G by kernel_rfl).trans (loadOne_eq b o G)⟩
instance icv283_3:CvOk Q 283 3 .u32 .i64:=⟨fun n=>by kernel_rfl⟩
abbrev z243:List Value:=[(.int .i64 0),(.int .i64 0),(.int .i64 0),(.int .i64 0),(.int .i64 0),(.int .i64 0),(.int .i64 0),(.int .i64 0),(.int .i64 0),(.int .i64 0),(.int .i64 0),(.int .i64 0),(.int .i64 0),(.int .i64 0),(.int .u64 0),(.int .i64 0),(.int .u64 0),(.int .u64 0),(.int .i64 0),(.int .u64 0),(.bool false),(.int .i64 0)]
instance ial243:AlOk Q 243 z243:=⟨fun G=>by kernel_rfl⟩
instance ibd243_8_2_9:BdOk Q 243 z243 [(8,20,1),(2,13,1),(9,21,1)]:=bd_ok Q (by kernel_rfl) (by kernel_rfl) (by kernel_rfl)
instance ist243:StOk Q 243 22:=⟨fun b o s v G=>by kernel_rfl⟩
instance ibd243_0_8_2:BdOk Q 243 z243 [(0,0,13),(8,20,1),(2,13,1)]:=bd_ok Q (by kernel_rfl) (by kernel_rfl) (by kernel_rfl)
instance ilda243:LdAOk Q 243 22:=⟨fun b o s G=>by kernel_rfl⟩
instance ifa243_8:FaOk Q 243 8 20:=⟨fun b o s=>by kernel_rfl⟩
instance ifa243_2:FaOk Q 243 2 13:=⟨fun b o s=>by kernel_rfl⟩
instance ifa243_9:FaOk Q 243 9 21:=⟨fun b o s=>by kernel_rfl⟩
instance ifa243_6:FaOk Q 243 6 17:=⟨fun b o s=>by kernel_rfl⟩
abbrev z298:List Value:=[.nilFunc,.nilFunc,.nilFunc,(.int .i64 0),(.bool false),(.int .i64 0),(.int .i64 0)]
instance ibd298_0_1:BdOk Q 298 z298 [(0,0,6),(1,6,1)]:=bd_ok Q (by kernel_rfl) (by kernel_rfl) (by kernel_rfl)
instance ifa298_0:FaOk Q 298 0 0:=⟨fun b o s=>by kernel_rfl⟩
instance iiaa280:IaaOk Q 280 3 1:=⟨fun b o s k j=>by kernel_rfl⟩
instance ist124:StOk Q 124 1:=⟨fun b o s v G=>by kernel_rfl⟩
abbrev z301:List Value:=[(.int .i64 0),(.int .i64 0),(.int .i64 0),(.int .i64 0),(.int .i64 0),(.int .i64 0),(.int .i64 0)]
instance ibd301_2_4:BdOk Q 301 z301 [(2,4,1),(4,6,1)]:=bd_ok Q (by kernel_rfl) (by kernel_rfl) (by kernel_rfl)
instance ibd301_0_1_2:BdOk Q 301 z301 [(0,0,3),(1,3,1),(2,4,1)]:=bd_ok Q (by kernel_rfl) (by kernel_rfl) (by kernel_rfl)
abbrev z198:List Value:=[(.int .i64 0),(.int .i64 0),(.int .i64 0),(.int .i64 0),(.int .i64 0),(.int .i64 0),(.int .i64 0),(.int .i64 0),(.int .i64 0),(.int .i64 0),(.int .i64 0),(.int .i64 0),(.int .i64 0),(.bool false),(.int .i64 0),(.int .u64 0),(.int .u64 0),(.int .i64 0),(.int .i64 0),(.int .u64 0),(.int .i64 0),(.pointer none),(.pointer none),(.bool false),(.int .u64 0),(.int .i64 0)]
instance ibd198_2_12:BdOk Q 198 z198 [(2,14,1),(12,25,1)]:=bd_ok Q (by kernel_rfl) (by kernel_rfl) (by kernel_rfl)
instance ibd198_0_2:BdOk Q 198 z198 [(0,0,13),(2,14,1)]:=bd_ok Q (by kernel_rfl) (by kernel_rfl) (by kernel_rfl)
instance ifa301_2:FaOk Q 301 2 4:=⟨fun b o s=>by kernel_rfl⟩
instance ifa301_0:FaOk Q 301 0 0:=⟨fun b o s=>by kernel_rfl⟩
instance ifa301_3:FaOk Q 301 3 5:=⟨fun b o s=>by kernel_rfl⟩
instance ifa301_1:FaOk Q 301 1 3:=⟨fun b o s=>by kernel_rfl⟩
instance icv3_23:CvOk Q 3 23 .i64 .u64:=⟨fun n=>by kernel_rfl⟩
instance ifa301_4:FaOk Q 301 4 6:=⟨fun b o s=>by kernel_rfl⟩
instance ifa198_3:FaOk Q 198 3 15:=⟨fun b o s=>by kernel_rfl⟩
instance ifa198_0:FaOk Q 198 0 0:=⟨fun b o s=>by kernel_rfl⟩
instance ifa198_5:FaOk Q 198 5 17:=⟨fun b o s=>by kernel_rfl⟩
instance ifa198_12:FaOk Q 198 12 25:=⟨fun b o s=>by kernel_rfl⟩
instance ifa198_4:FaOk Q 198 4 16:=⟨fun b o s=>by kernel_rfl⟩
instance ifa198_6:FaOk Q 198 6 18:=⟨fun b o s=>by kernel_rfl⟩
instance icv23_3:CvOk Q 23 3 .u64 .i64:=⟨fun n=>by kernel_rfl⟩
instance ifa198_10:FaOk Q 198 10 23:=⟨fun b o s=>by kernel_rfl⟩
instance ifa198_7:FaOk Q 198 7 19:=⟨fun b o s=>by kernel_rfl⟩
instance ifa120_1:FaOk Q 120 1 1:=⟨fun b o s=>by kernel_rfl⟩
instance ifa198_8:FaOk Q 198 8 21:=⟨fun b o s=>by kernel_rfl⟩
instance ist195:StOk Q 195 1:=⟨fun b o s v G=>by kernel_rfl⟩
instance ild195:LdOk Q 195:=⟨fun b o s G=>(show _ = loadOne b o G by kernel_rfl).trans (loadOne_eq b o G)⟩
instance ifa198_9:FaOk Q 198 9 22:=⟨fun b o s=>by kernel_rfl⟩
instance ist196:StOk Q 196 1:=⟨fun b o s v G=>by kernel_rfl⟩
instance ild196:LdOk Q 196:=⟨fun b o s G=>(show _ = loadOne b o G by kernel_rfl).trans (loadOne_eq b o G)⟩
abbrev z264:List Value:=[(.int .i64 0),(.int .i64 0),(.int .i64 0),(.int .i64 0),(.int .i64 0),(.int .i64 0)]
instance ibd264_2_3:BdOk Q 264 z264 [(2,4,1),(3,5,1)]:=bd_ok Q (by kernel_rfl) (by kernel_rfl) (by kernel_rfl)
instance ibd264_0_1_2:BdOk Q 264 z264 [(0,0,3),(1,3,1),(2,4,1)]:=bd_ok Q (by kernel_rfl) (by kernel_rfl) (by kernel_rfl)
abbrev z313:List Value:=[(.int .i64 0),(.int .i64 0)]
instance ibd313_0:BdOk Q 313 z313 [(0,0,1)]:=bd_ok Q (by kernel_rfl) (by kernel_rfl) (by kernel_rfl)
abbrev z274:List Value:=[(.int .i64 0),(.int .i64 0),(.int .i64 0)]
instance ial274:AlOk Q 274 z274:=⟨fun G=>by kernel_rfl⟩
instance ibd274_0_1_2:BdOk Q 274 z274 [(0,0,1),(1,1,1),(2,2,1)]:=bd_ok Q (by kernel_rfl) (by kernel_rfl) (by kernel_rfl)
instance ist274:StOk Q 274 3:=⟨fun b o s v G=>by kernel_rfl⟩
instance ilda274:LdAOk Q 274 3:=⟨fun b o s G=>by kernel_rfl⟩
instance ifa274_1:FaOk Q 274 1 1:=⟨fun b o s=>by kernel_rfl⟩
instance ifa274_2:FaOk Q 274 2 2:=⟨fun b o s=>by kernel_rfl⟩
instance ild272:LdOk Q 272:=⟨fun b o s G=>(show _ = loadOne b o G by kernel_rfl).trans (loadOne_eq b o G)⟩
instance iifc272:IfcOk Q 272:=⟨fun v=>by kernel_rfl⟩
instance ifa274_0:FaOk Q 274 0 0:=⟨fun b o s=>by kernel_rfl⟩
abbrev z278:List Value:=[(.int .i64 0),(.int .i64 0),(.int .i64 0)]
instance ial278:AlOk Q 278 z278:=⟨fun G=>by kernel_rfl⟩
instance ibd278_0_1_2:BdOk Q 278 z278 [(0,0,1),(1,1,1),(2,2,1)]:=bd_ok Q (by kernel_rfl) (by kernel_rfl) (by kernel_rfl)
instance ist278:StOk Q 278 3:=⟨fun b o s v G=>by kernel_rfl⟩
instance ilda278:LdAOk Q 278 3:=⟨fun b o s G=>by kernel_rfl⟩
instance ifa278_1:FaOk Q 278 1 1:=⟨fun b o s=>by kernel_rfl⟩
instance ifa278_2:FaOk Q 278 2 2:=⟨fun b o s=>by kernel_rfl⟩
instance ild276:LdOk Q 276:=⟨fun b o s G=>(show _ = loadOne b o G by kernel_rfl).trans (loadOne_eq b o G)⟩
instance iifc276:IfcOk Q 276:=⟨fun v=>by kernel_rfl⟩
instance ifa278_0:FaOk Q 278 0 0:=⟨fun b o s=>by kernel_rfl⟩
instance ifa282_1:FaOk Q 282 1 3:=⟨fun b o s=>by kernel_rfl⟩
instance ifa282_3:FaOk Q 282 3 5:=⟨fun b o s=>by kernel_rfl⟩
instance ifa285_1:FaOk Q 285 1 6:=⟨fun b o s=>by kernel_rfl⟩
instance icv23_283:CvOk Q 23 283 .u64 .u32:=⟨fun n=>by kernel_rfl⟩
instance ist283:StOk Q 283 1:=⟨fun b o s v G=>by kernel_rfl⟩
instance icv283_23:CvOk Q 283 23 .u32 .u64:=⟨fun n=>by kernel_rfl⟩
instance ifa282_2:FaOk Q 282 2 4:=⟨fun b o s=>by kernel_rfl⟩
instance ifa298_1:FaOk Q 298 1 6:=⟨fun b o s=>by kernel_rfl⟩
abbrev z346:List Value:=[(.int .i64 0),(.int .i64 0),(.int .i64 0),(.int .i64 0),(.int .i64 0),(.int .i64 0),(.int .i64 0),(.int .i64 0),(.int .i64 0),(.int .i64 0),(.int .i64 0),(.int .i64 0),(.int .i64 0),(.int .u64 0),(.int .i64 0),(.int .i64 0),(.int .i64 0),(.int .u64 0),(.int .u64 0),(.int .u64 0),(.slice none 0 0),(.slice none 0 0),(.slice none 0 0),(.int .u64 0),(.int .i64 0)]
instance ibd346_2_12:BdOk Q 346 z346 [(2,14,1),(12,24,1)]:=bd_ok Q (by kernel_rfl) (by kernel_rfl) (by kernel_rfl)
instance imk35:MkSlOk Q 35 1 8 z3:=⟨fun k k' l c G=>by kernel_rfl⟩
instance ibd346_0_1_8_9_10:BdOk Q 346 z346 [(0,0,13),(1,13,1),(8,20,1),(9,21,1),(10,22,1)]:=bd_ok Q (by kernel_rfl) (by kernel_rfl) (by kernel_rfl)
instance ifa313_0:FaOk Q 313 0 0:=⟨fun b o s=>by kernel_rfl⟩
abbrev z354:List Value:=[(.int .i64 0),(.int .i64 0),(.int .i64 0)]
instance ibd354_0_1_2:BdOk Q 354 z354 [(0,0,1),(1,1,1),(2,2,1)]:=bd_ok Q (by kernel_rfl) (by kernel_rfl) (by kernel_rfl)
instance ifa313_1:FaOk Q 313 1 1:=⟨fun b o s=>by kernel_rfl⟩
instance ibs395_2_0_1:BsOk Q 395 2 (rep z354 2) 3 [(0,0,3),(1,3,3)]:=bs_ok Q (z0:=z354) (by kernel_rfl) rfl (by decide) (by kernel_rfl)
abbrev z357:List Value:=[(.int .i64 0),(.int .i64 0),(.int .i64 0),(.int .i64 0)]
instance ial357:AlOk Q 357 z357:=⟨fun G=>by kernel_rfl⟩
instance ist357:StOk Q 357 4:=⟨fun b o s v G=>by kernel_rfl⟩
instance isla357:SlAOk Q 357 2 2:=⟨fun a lo hi mx G=>by kernel_rfl⟩
instance ifa346_2:FaOk Q 346 2 14:=⟨fun b o s=>by kernel_rfl⟩
instance ifa346_0:FaOk Q 346 0 0:=⟨fun b o s=>by kernel_rfl⟩
instance ifa346_3:FaOk Q 346 3 15:=⟨fun b o s=>by kernel_rfl⟩
instance ifa346_4:FaOk Q 346 4 16:=⟨fun b o s=>by kernel_rfl⟩
instance ifa346_5:FaOk Q 346 5 17:=⟨fun b o s=>by kernel_rfl⟩
instance ifa394_1:FaOk Q 394 1 3:=⟨fun b o s=>by kernel_rfl⟩
instance ifa394_0:FaOk Q 394 0 0:=⟨fun b o s=>by kernel_rfl⟩
instance ifa394_2:FaOk Q 394 2 4:=⟨fun b o s=>by kernel_rfl⟩
instance ifa394_3:FaOk Q 394 3 5:=⟨fun b o s=>by kernel_rfl⟩
instance iln395:LnOk Q 395:=⟨fun a n c=>by kernel_rfl⟩
instance iias395:IasOk Q 395 3:=⟨fun b o s n c k j=>by kernel_rfl⟩
instance ilda354:LdAOk Q 354 3:=⟨fun b o s G=>by kernel_rfl⟩
instance ial354:AlOk Q 354 z354:=⟨fun G=>by kernel_rfl⟩
instance ist354:StOk Q 354 3:=⟨fun b o s v G=>by kernel_rfl⟩
instance ifa354_0:FaOk Q 354 0 0:=⟨fun b o s=>by kernel_rfl⟩
instance ifa354_1:FaOk Q 354 1 1:=⟨fun b o s=>by kernel_rfl⟩
instance ifa354_2:FaOk Q 354 2 2:=⟨fun b o s=>by kernel_rfl⟩
abbrev z356:List Value:=[(.int .i64 0),(.int .i64 0)]
instance ibd356_0_1:BdOk Q 356 z356 [(0,0,1),(1,1,1)]:=bd_ok Q (by kernel_rfl) (by kernel_rfl) (by kernel_rfl)
instance ibd357_0_1:BdOk Q 357 z357 [(0,0,2),(1,2,2)]:=bd_ok Q (by kernel_rfl) (by kernel_rfl) (by kernel_rfl)
instance ilda357:LdAOk Q 357 4:=⟨fun b o s G=>by kernel_rfl⟩
instance iln361:LnOk Q 361:=⟨fun a n c=>by kernel_rfl⟩
instance iias361:IasOk Q 361 2:=⟨fun b o s n c k j=>by kernel_rfl⟩
instance ilda356:LdAOk Q 356 2:=⟨fun b o s G=>by kernel_rfl⟩
instance ial356:AlOk Q 356 z356:=⟨fun G=>by kernel_rfl⟩
instance ist356:StOk Q 356 2:=⟨fun b o s v G=>by kernel_rfl⟩
instance ifa356_0:FaOk Q 356 0 0:=⟨fun b o s=>by kernel_rfl⟩
instance ial313:AlOk Q 313 z313:=⟨fun G=>by kernel_rfl⟩
instance iiaa357:IaaOk Q 357 2 2:=⟨fun b o s k j=>by kernel_rfl⟩
instance ibd313_0_1:BdOk Q 313 z313 [(0,0,1),(1,1,1)]:=bd_ok Q (by kernel_rfl) (by kernel_rfl) (by kernel_rfl)
instance ist313:StOk Q 313 2:=⟨fun b o s v G=>by kernel_rfl⟩
instance ilda313:LdAOk Q 313 2:=⟨fun b o s G=>by kernel_rfl⟩
instance ifa356_1:FaOk Q 356 1 1:=⟨fun b o s=>by kernel_rfl⟩
instance ibd109_0_1_2:BdOk Q 109 z109 [(0,0,1),(1,1,1),(2,2,1)]:=bd_ok Q (by kernel_rfl) (by kernel_rfl) (by kernel_rfl)
instance ifd82_4:FdOk Q 82 4 4:=⟨fun l=>by kernel_rfl⟩
instance ild124:LdOk Q 124:=⟨fun b o s G=>(show _ = loadOne b o G by kernel_rfl).trans (loadOne_eq b o G)⟩
instance ifa109_2:FaOk Q 109 2 2:=⟨fun b o s=>by kernel_rfl⟩
instance ifa185_4:FaOk Q 185 4 4:=⟨fun b o s=>by kernel_rfl⟩
instance ifa185_0:FaOk Q 185 0 0:=⟨fun b o s=>by kernel_rfl⟩
instance ild181:LdOk Q 181:=⟨fun b o s G=>(show _ = loadOne b o G by kernel_rfl).trans (loadOne_eq b o G)⟩
instance ifa185_3:FaOk Q 185 3 3:=⟨fun b o s=>by kernel_rfl⟩
instance ist179:StOk Q 179 1:=⟨fun b o s v G=>by kernel_rfl⟩
instance ild179:LdOk Q 179:=⟨fun b o s G=>(show _ = loadOne b o G by kernel_rfl).trans (loadOne_eq b o G)⟩
instance iifc179:IfcOk Q 179:=⟨fun v=>by kernel_rfl⟩
instance ifa185_1:FaOk Q 185 1 1:=⟨fun b o s=>by kernel_rfl⟩
instance ild182:LdOk Q 182:=⟨fun b o s G=>(show _ = loadOne b o G by kernel_rfl).trans (loadOne_eq b o G)⟩
instance ief182:EfOk Q 182:=⟨fun neg x y=>by cases neg <;> kernel_rfl,fun neg x y f a b=>by cases neg <;> kernel_rfl⟩
instance ifa185_2:FaOk Q 185 2 2:=⟨fun b o s=>by kernel_rfl⟩
instance ild183:LdOk Q 183:=⟨fun b o s G=>(show _ = loadOne b o G by kernel_rfl).trans (loadOne_eq b o G)⟩
instance ief183:EfOk Q 183:=⟨fun neg x y=>by cases neg <;> kernel_rfl,fun neg x y f a b=>by cases neg <;> kernel_rfl⟩
instance ifa243_0:FaOk Q 243 0 0:=⟨fun b o s=>by kernel_rfl⟩
instance ifa243_3:FaOk Q 243 3 14:=⟨fun b o s=>by kernel_rfl⟩
instance ifa243_4:FaOk Q 243 4 15:=⟨fun b o s=>by kernel_rfl⟩
instance ifa243_5:FaOk Q 243 5 16:=⟨fun b o s=>by kernel_rfl⟩
instance ist241:StOk Q 241 1:=⟨fun b o s v G=>by kernel_rfl⟩
instance ild241:LdOk Q 241:=⟨fun b o s G=>(show _ = loadOne b o G by kernel_rfl).trans (loadOne_eq b o G)⟩
instance ifa229_4:FaOk Q 229 4 4:=⟨fun b o s=>by kernel_rfl⟩
instance ifa229_0:FaOk Q 229 0 0:=⟨fun b o s=>by kernel_rfl⟩
instance ild223:LdOk Q 223:=⟨fun b o s G=>(show _ = loadOne b o G by kernel_rfl).trans (loadOne_eq b o G)⟩
instance ifa229_3:FaOk Q 229 3 3:=⟨fun b o s=>by kernel_rfl⟩
instance ist221:StOk Q 221 1:=⟨fun b o s v G=>by kernel_rfl⟩
instance ild221:LdOk Q 221:=⟨fun b o s G=>(show _ = loadOne b o G by kernel_rfl).trans (loadOne_eq b o G)⟩
instance iifc221:IfcOk Q 221:=⟨fun v=>by kernel_rfl⟩
instance ifa229_1:FaOk Q 229 1 1:=⟨fun b o s=>by kernel_rfl⟩
instance ild227:LdOk Q 227:=⟨fun b o s G=>(show _ = loadOne b o G by kernel_rfl).trans (loadOne_eq b o G)⟩
instance ief227:EfOk Q 227:=⟨fun neg x y=>by cases neg <;> kernel_rfl,fun neg x y f a b=>by cases neg <;> kernel_rfl⟩
instance ifa229_2:FaOk Q 229 2 2:=⟨fun b o s=>by kernel_rfl⟩
instance ild226:LdOk Q 226:=⟨fun b o s G=>(show _ = loadOne b o G by kernel_rfl).trans (loadOne_eq b o G)⟩
instance ief226:EfOk Q 226:=⟨fun neg x y=>by cases neg <;> kernel_rfl,fun neg x y f a b=>by cases neg <;> kernel_rfl⟩
instance ifa254_4:FaOk Q 254 4 4:=⟨fun b o s=>by kernel_rfl⟩
instance ifa254_0:FaOk Q 254 0 0:=⟨fun b o s=>by kernel_rfl⟩
instance ild250:LdOk Q 250:=⟨fun b o s G=>(show _ = loadOne b o G by kernel_rfl).trans (loadOne_eq b o G)⟩
instance ifa254_3:FaOk Q 254 3 3:=⟨fun b o s=>by kernel_rfl⟩
instance ist248:StOk Q 248 1:=⟨fun b o s v G=>by kernel_rfl⟩
instance ild248:LdOk Q 248:=⟨fun b o s G=>(show _ = loadOne b o G by kernel_rfl).trans (loadOne_eq b o G)⟩
instance iifc248:IfcOk Q 248:=⟨fun v=>by kernel_rfl⟩
instance ifa254_1:FaOk Q 254 1 1:=⟨fun b o s=>by kernel_rfl⟩
instance ild251:LdOk Q 251:=⟨fun b o s G=>(show _ = loadOne b o G by kernel_rfl).trans (loadOne_eq b o G)⟩
instance ief251:EfOk Q 251:=⟨fun neg x y=>by cases neg <;> kernel_rfl,fun neg x y f a b=>by cases neg <;> kernel_rfl⟩
instance ifa254_2:FaOk Q 254 2 2:=⟨fun b o s=>by kernel_rfl⟩
instance ild252:LdOk Q 252:=⟨fun b o s G=>(show _ = loadOne b o G by kernel_rfl).trans (loadOne_eq b o G)⟩
instance ief252:EfOk Q 252:=⟨fun neg x y=>by cases neg <;> kernel_rfl,fun neg x y f a b=>by cases neg <;> kernel_rfl⟩
instance iep248:EpOk Q 248:=⟨fun neg x y=>by cases neg <;> kernel_rfl,fun neg x y a=>by cases neg <;> kernel_rfl,fun neg x y a=>by cases neg <;> kernel_rfl⟩
instance ifa327_4:FaOk Q 327 4 4:=⟨fun b o s=>by kernel_rfl⟩
instance ifa327_0:FaOk Q 327 0 0:=⟨fun b o s=>by kernel_rfl⟩
instance ild323:LdOk Q 323:=⟨fun b o s G=>(show _ = loadOne b o G by kernel_rfl).trans (loadOne_eq b o G)⟩
instance ifa327_3:FaOk Q 327 3 3:=⟨fun b o s=>by kernel_rfl⟩
instance ist321:StOk Q 321 1:=⟨fun b o s v G=>by kernel_rfl⟩
instance ild321:LdOk Q 321:=⟨fun b o s G=>(show _ = loadOne b o G by kernel_rfl).trans (loadOne_eq b o G)⟩
instance iifc321:IfcOk Q 321:=⟨fun v=>by kernel_rfl⟩
instance ifa327_1:FaOk Q 327 1 1:=⟨fun b o s=>by kernel_rfl⟩
instance ild324:LdOk Q 324:=⟨fun b o s G=>(show _ = loadOne b o G by kernel_rfl).trans (loadOne_eq b o G)⟩
instance ief324:EfOk Q 324:=⟨fun neg x y=>by cases neg <;> kernel_rfl,fun neg x y f a b=>by cases neg <;> kernel_rfl⟩
instance ifa327_2:FaOk Q 327 2 2:=⟨fun b o s=>by kernel_rfl⟩
instance ild325:LdOk Q 325:=⟨fun b o s G=>(show _ = loadOne b o G by kernel_rfl).trans (loadOne_eq b o G)⟩
instance ief325:EfOk Q 325:=⟨fun neg x y=>by cases neg <;> kernel_rfl,fun neg x y f a b=>by cases neg <;> kernel_rfl⟩
def jbl6_0_0 (q:Bool) (e:Ex) (lp:LpF) (τ:Env) (G:GS):OL :=
 bV q (τ 4) fun a4_ =>
 bV q (τ 5) fun a5_ =>
 bV q (τ 6) fun a6_ =>
 bV q (τ 11) fun a11_ =>
 bV q (τ 12) fun a12_ =>
 bV q (τ 13) fun a13_ =>
 bV q (τ 14) fun a14_ =>
 bV q (τ 15) fun a15_ =>
 bP (ias Q q 72 2 a13_ a15_) fun x7 =>
 bP (lda Q q 78 2 x7 G) fun x8 =>
 bS (al Q q 78 z78 G) fun x9 G10 =>
 bP (st Q q 78 2 x9 x8 G10) fun G11 =>
 bP (fa Q q 78 1 1 x9) fun x12 =>
 bP (ld Q q 75 x12 (G11.room 30)) fun x13 =>
 bP (ep Q q true 75 (.tmp 184) (.const (.pointer none)) x13 (.pointer none)) fun x14 =>
 bS (gP x14 true (fa Q q 78 0 0 x9) (G11.room 30)) fun x15 _ =>
 bS (gP x14 true (ld Q q 59 x15 (G11.room 30)) (G11.room 30)) fun x16 _ =>
 bS (gS x14 true (e.ev.cl 27 [x16] (G11.room 30)) (G11.room 30)) fun x18 G17 =>
 bS (gP x14 true (fa Q q 78 1 1 x9) G17) fun x19 _ =>
 bS (gP x14 true (ld Q q 75 x19 G17) G17) fun x20 _ =>
 chk (((!(gB x14 true) || (!(gB x14 true) || sameO (ld Q q 75 x19 (G11.room 30)) x20)) && true)) <|
 bS (gS x14 true (e.ev.cl 37 [x20] G17) G17) fun x22 G21 =>
 bS (gP x14 true (bn Q q .neq 51 (.tmp 189) (.tmp 192) x18 x22) G21) fun x23 _ =>
 bS (gV x14 true x23 G21) fun x24 _ =>
 bS (gP x24 false (fa Q q 78 0 0 x9) G21) fun x25 _ =>
 bS (gP x24 false (ld Q q 59 x25 G21) G21) fun x26 _ =>
 bS (gS x24 false (e.ev.cl 28 [x26] G21) G21) fun x28 G27 =>
 bS (gP x24 false (fa Q q 78 1 1 x9) G27) fun x29 _ =>
 bS (gP x24 false (ld Q q 75 x29 G27) G27) fun x30 _ =>
 chk (((!(gB x24 false) || (!(gB x24 false) || sameO (ld Q q 75 x29 G21) x30)) && true)) <|
 bS (gS x24 false (e.ev.cl 38 [x30] G27) G27) fun x32 G31 =>
 bS (gP x24 false (bn Q q .neq 3 (.tmp 197) (.tmp 200) x28 x32) G31) fun x33 _ =>
 bS (gP x14 true (pickV x24 (.bool true) x33) G31) fun x34 _ =>
 bS (gV x14 true x34 G31) fun x35 _ =>
 bS (gP x35 false (fa Q q 78 0 0 x9) G31) fun x36 _ =>
 bS (gP x35 false (ld Q q 59 x36 G31) G31) fun x37 _ =>
 bS (gS x35 false (e.ev.cl 39 [x37] G31) G31) fun x39 G38 =>
 bS (gP x35 false (fa Q q 78 1 1 x9) G38) fun x40 _ =>
 bS (gP x35 false (ld Q q 75 x40 G38) G38) fun x41 _ =>
 chk (((!(gB x35 false) || (!(gB x35 false) || sameO (ld Q q 75 x40 G31) x41)) && true)) <|
 bS (gS x35 false (e.ev.cl 40 [x41] G38) G38) fun x43 G42 =>
 bS (gP x35 false (bn Q q .neq 23 (.tmp 206) (.tmp 209) x39 x43) G42) fun x44 _ =>
 bS (gP x14 true (pickV x35 (.bool true) x44) G42) fun x45 _ =>
 bP (pickV x14 x45 (.bool false)) fun x46 =>
 ifV x46 (
 some (.ret,xq q 240 τ [(10,(.bool false)),(212,x46),(211,x45),(210,x44),(209,x43),(208,x41),(207,x40),(206,x39),(205,x37),(204,x36),(203,x35),(202,x34),(201,x33),(200,x32),(199,x30),(198,x29),(197,x28),(196,x26),(195,x25),(194,x24),(193,x23),(192,x22),(191,x20),(190,x19),(189,x18),(188,x16),(187,x15),(186,x14),(185,x14),(184,x13),(183,x12),(18,x9),(182,x8),(181,x7),(180,a15_),(179,a13_)] [(4,a4_),(5,a5_),(6,a6_),(11,a11_),(12,a12_),(13,a13_),(14,a14_),(15,a15_)],G42)) (
 bS (e.ev.cl 41 [a11_] G42) fun x47 G48 =>
 bS (e.ev.cl 42 [a12_] G48) fun x49 G50 =>
 bP (bn Q q .neq 82 (.tmp 214) (.tmp 216) x47 x49) fun x51 =>
 bS (gV x51 false a11_ G50) fun x52 G53 =>
 bS (gS x51 false (e.ev.cl 43 [x52] G53) G53) fun x54 G55 =>
 bS (gV x51 false a12_ G55) fun x56 G57 =>
 bS (gS x51 false (e.ev.cl 44 [x56] G57) G57) fun x58 G59 =>
 bS (gP x51 false (bn Q q .neq 3 (.tmp 220) (.tmp 222) x54 x58) G59) fun x60 G61 =>
 bP (pickV x51 (.bool true) x60) fun x62 =>
 bS (gV x62 false a11_ G61) fun x63 G64 =>
 bS (gS x62 false (e.ev.cl 24 [x63] G64) G64) fun x65 G66 =>
 bS (gV x62 false a12_ G66) fun x67 G68 =>
 bS (gS x62 false (e.ev.cl 45 [x67] G68) G68) fun x69 G70 =>
 bS (gS x62 false (e.ev.cl 13 [x65,x69] G70) G70) fun x71 G72 =>
 bS (gP x62 false (un Q q .not x71) G72) fun x73 G74 =>
 bP (pickV x62 (.bool true) x73) fun x75 =>
 ifV x75 (
 some (.ret,xq q 240 τ [(10,(.bool false)),(232,x75),(231,x73),(230,x71),(229,x69),(228,x67),(227,x65),(226,x63),(225,x62),(224,x62),(223,x60),(222,x58),(221,x56),(220,x54),(219,x52),(218,x51),(217,x51),(216,x49),(215,a12_),(214,x47),(213,a11_),(212,x46),(211,x45),(210,x44),(209,x43),(208,x41),(207,x40),(206,x39),(205,x37),(204,x36),(203,x35),(202,x34),(201,x33),(200,x32),(199,x30),(198,x29),(197,x28),(196,x26),(195,x25),(194,x24),(193,x23),(192,x22),(191,x20),(190,x19),(189,x18),(188,x16),(187,x15),(186,x14),(185,x14),(184,x13),(183,x12),(18,x9),(182,x8),(181,x7),(180,a15_),(179,a13_)] [(4,a4_),(5,a5_),(6,a6_),(11,a11_),(12,a12_),(13,a13_),(14,a14_),(15,a15_)],G74)) (
 bP (bn Q q .add 3 (.tmp 81) (.const (.int .i64 1)) a14_ (.int .i64 1)) fun x76 =>
 lp (xq q 240 τ [(14,x76),(82,x76),(81,a14_),(232,x75),(231,x73),(230,x71),(229,x69),(228,x67),(227,x65),(226,x63),(225,x62),(224,x62),(223,x60),(222,x58),(221,x56),(220,x54),(219,x52),(218,x51),(217,x51),(216,x49),(215,a12_),(214,x47),(213,a11_),(212,x46),(211,x45),(210,x44),(209,x43),(208,x41),(207,x40),(206,x39),(205,x37),(204,x36),(203,x35),(202,x34),(201,x33),(200,x32),(199,x30),(198,x29),(197,x28),(196,x26),(195,x25),(194,x24),(193,x23),(192,x22),(191,x20),(190,x19),(189,x18),(188,x16),(187,x15),(186,x14),(185,x14),(184,x13),(183,x12),(18,x9),(182,x8),(181,x7),(180,a15_),(179,a13_)] [(4,a4_),(5,a5_),(6,a6_),(11,a11_),(12,a12_),(13,a13_),(15,a15_)]) G74))
def jl6_0_0 (q:Bool) (e:Ex) (lp:LpF) (τ:Env) (G:GS):OL:=jbl6_0_0 q e lp τ G
theorem mjl6_0_0 {e:Ex} {E:Ev} (h:ExLe Q e E) {lp lp':LpF} (hlp:LpLe lp lp') (τ:Env) (G:GS):Ref (jl6_0_0 true e lp τ G) (jl6_0_0 false (Ex.of E) lp' τ G):=by
 unfold jl6_0_0 jbl6_0_0
 exact Ref.gq
theorem mkjl6_0_0 {e:Ex} {E:Ev} (h:ExLe Q e E) {lp lp':LpF} (hlp:LpLe lp lp') {τ:Env} {l U:List (Nat × Value)} {G:GS} (hU:UOk τ U):Ref (jl6_0_0 true e lp (xq true 240 τ l U) G) (jl6_0_0 false (Ex.of E) lp' (xq false 240 τ l U) G):=by
 rw [xq_eq hU]
 exact mjl6_0_0 h hlp _ _
def bb6_0 (q:Bool) (e:Ex) (lp:LpF) (J0:LpF) (τ:Env) (G:GS):OL :=
 bV q (τ 4) fun a4_ =>
 bV q (τ 5) fun a5_ =>
 bV q (τ 6) fun a6_ =>
 bV q (τ 11) fun a11_ =>
 bV q (τ 12) fun a12_ =>
 bV q (τ 13) fun a13_ =>
 bV q (τ 14) fun a14_ =>
 bV q (τ 15) fun a15_ =>
 bP (ln Q q 65 a4_) fun x0 =>
 bP (bn Q q .lss 3 (.tmp 77) (.tmp 79) a14_ x0) fun x1 =>
 ifV x1 (
 bP (ias Q q 65 5 a4_ a14_) fun x2 =>
 bP (fa Q q 74 0 0 x2) fun x3 =>
 bP (ld Q q 3 x3 G) fun x4 =>
 bS (e.ev.cl 16 [x4,(.int .i64 3)] G) fun x5 G6 =>
 bP (ias Q q 65 5 a4_ a14_) fun x77 =>
 bP (fa Q q 74 1 1 x77) fun x78 =>
 bP (ld Q q 3 x78 G6) fun x79 =>
 bP (bn Q q .eql 3 (.tmp 94) (.const (.int .i64 1)) x79 (.int .i64 1)) fun x80 =>
 ifV x80 (
 bP (lda Q q 45 13 a5_ (G6.room 21)) fun x81 =>
 bP (lda Q q 49 3 a6_ (G6.room 21)) fun x82 =>
 bP (ias Q q 65 5 a4_ a14_) fun x83 =>
 bP (fa Q q 74 2 2 x83) fun x84 =>
 bP (ld Q q 3 x84 (G6.room 21)) fun x85 =>
 bS (e.ev.cl 25 [x81,x82,x85] (G6.room 21)) fun x87 G86 =>
 bP (lda Q q 45 13 a5_ G86) fun x88 =>
 chk ((sameO (lda Q q 45 13 a5_ (G6.room 21)) x88 && true)) <|
 bP (lda Q q 49 3 a6_ G86) fun x89 =>
 chk ((sameO (lda Q q 49 3 a6_ (G6.room 21)) x89 && true)) <|
 bP (ias Q q 65 5 a4_ a14_) fun x90 =>
 bP (fa Q q 74 2 2 x90) fun x91 =>
 bP (ld Q q 3 x91 G86) fun x92 =>
 chk ((sameO (ld Q q 3 x91 (G6.room 21)) x92 && true)) <|
 bS (e.ev.cl 34 [x88,x89,x92] G86) fun x94 G93 =>
 bP (bd Q q 78 z78 [(0,0,1),(1,1,1)] [x87,x94]) fun x95 =>
 bP (ias Q q 72 2 a13_ x5) fun x96 =>
 bP (st Q q 78 2 x96 x95 G93) fun G97 =>
 J0 (xq q 240 τ [(115,x96),(114,x95),(113,x94),(112,x92),(111,x91),(110,x90),(109,a14_),(108,a4_),(107,x89),(106,x88),(105,x87),(104,x85),(103,x84),(102,x83),(101,a14_),(100,a4_),(99,x82),(98,x81),(97,x5),(96,a13_),(89,x80),(95,x80),(94,x79),(93,x78),(92,x77),(91,a14_),(90,a4_),(15,x5),(88,x5),(87,x4),(86,x3),(85,x2),(84,a14_),(83,a4_),(80,x1),(79,x0),(78,a4_),(77,a14_)] [(4,a4_),(5,a5_),(6,a6_),(11,a11_),(12,a12_),(13,a13_),(14,a14_)]) G97) (
 bP (ias Q q 65 5 a4_ a14_) fun x98 =>
 bP (fa Q q 74 1 1 x98) fun x99 =>
 bP (ld Q q 3 x99 G6) fun x100 =>
 bP (bn Q q .eql 3 (.tmp 121) (.const (.int .i64 2)) x100 (.int .i64 2)) fun x101 =>
 ifV x101 (
 bP (ias Q q 65 5 a4_ a14_) fun x102 =>
 bP (fa Q q 74 3 3 x102) fun x103 =>
 bP (ld Q q 3 x103 (G6.room 12)) fun x104 =>
 bP (ias Q q 65 5 a4_ a14_) fun x105 =>
 bP (fa Q q 74 4 4 x105) fun x106 =>
 bP (ld Q q 23 x106 (G6.room 12)) fun x107 =>
 bS (e.ev.cl 23 [a11_,x104,x107] (G6.room 12)) fun x109 G108 =>
 bP (ias Q q 65 5 a4_ a14_) fun x110 =>
 bP (fa Q q 74 3 3 x110) fun x111 =>
 bP (ld Q q 3 x111 (G108.room 12)) fun x112 =>
 bP (ias Q q 65 5 a4_ a14_) fun x113 =>
 bP (fa Q q 74 4 4 x113) fun x114 =>
 bP (ld Q q 23 x114 (G108.room 12)) fun x115 =>
 bS (e.ev.cl 35 [a12_,x112,x115] (G108.room 12)) fun x117 G116 =>
 J0 (xq q 240 τ [(146,x117),(145,x115),(144,x114),(143,x113),(142,a14_),(141,a4_),(140,x112),(139,x111),(138,x110),(137,a14_),(136,a4_),(135,a12_),(134,x109),(133,x107),(132,x106),(131,x105),(130,a14_),(129,a4_),(128,x104),(127,x103),(126,x102),(125,a14_),(124,a4_),(123,a11_),(116,x101),(122,x101),(121,x100),(120,x99),(119,x98),(118,a14_),(117,a4_),(89,x80),(95,x80),(94,x79),(93,x78),(92,x77),(91,a14_),(90,a4_),(15,x5),(88,x5),(87,x4),(86,x3),(85,x2),(84,a14_),(83,a4_),(80,x1),(79,x0),(78,a4_),(77,a14_)] [(4,a4_),(5,a5_),(6,a6_),(11,a11_),(12,a12_),(13,a13_),(14,a14_)]) G116) (
 bP (ias Q q 65 5 a4_ a14_) fun x118 =>
 bP (fa Q q 74 1 1 x118) fun x119 =>
 bP (ld Q q 3 x119 G6) fun x120 =>
 bP (bn Q q .eql 3 (.tmp 152) (.const (.int .i64 0)) x120 (.int .i64 0)) fun x121 =>
 bS (gV x121 true a13_ G6) fun x122 G123 =>
 bS (gV x121 true x5 G123) fun x124 G125 =>
 bS (gP x121 true (ias Q q 72 2 x122 x124) G125) fun x126 G127 =>
 bS (gP x121 true (fa Q q 78 1 1 x126) G127) fun x128 G129 =>
 bS (gP x121 true (ld Q q 75 x128 G129) G129) fun x130 G131 =>
 bS (gP x121 true (ep Q q true 75 (.tmp 159) (.const (.pointer none)) x130 (.pointer none)) G131) fun x132 G133 =>
 bP (pickV x121 x132 (.bool false)) fun x134 =>
 ifV x134 (
 bP (ias Q q 72 2 a13_ x5) fun x135 =>
 bP (fa Q q 78 0 0 x135) fun x136 =>
 bP (ld Q q 59 x136 (G133.room 16)) fun x137 =>
 bS (e.ev.cl 26 [x137,a11_] (G133.room 16)) fun x139 G138 =>
 bP (ias Q q 72 2 a13_ x5) fun x140 =>
 bP (fa Q q 78 1 1 x140) fun x141 =>
 bP (ld Q q 75 x141 G138) fun x142 =>
 chk ((sameO (ld Q q 75 x141 (G133.room 16)) x142 && true)) <|
 bS (e.ev.cl 36 [x142,a12_] G138) fun x144 G143 =>
 bP (eb Q q true 4 (.tmp 176) (.tmp 177) x139 x144) fun x145 =>
 ifV x145 (
 some (.ret,xq q 240 τ [(10,(.bool false)),(178,x145),(177,x144),(176,x139),(17,x144),(16,x139),(175,x144),(174,a12_),(173,x142),(172,x141),(171,x140),(170,x5),(169,a13_),(168,x139),(167,a11_),(166,x137),(165,x136),(164,x135),(163,x5),(162,a13_),(147,x134),(161,x134),(160,x132),(159,x130),(158,x128),(157,x126),(156,x124),(155,x122),(154,x121),(153,x121),(152,x120),(151,x119),(150,x118),(149,a14_),(148,a4_),(116,x101),(122,x101),(121,x100),(120,x99),(119,x98),(118,a14_),(117,a4_),(89,x80),(95,x80),(94,x79),(93,x78),(92,x77),(91,a14_),(90,a4_),(15,x5),(88,x5),(87,x4),(86,x3),(85,x2),(84,a14_),(83,a4_),(80,x1),(79,x0),(78,a4_),(77,a14_)] [(4,a4_),(5,a5_),(6,a6_),(11,a11_),(12,a12_),(13,a13_),(14,a14_)],G143)) (
 J0 (xq q 240 τ [(178,x145),(177,x144),(176,x139),(17,x144),(16,x139),(175,x144),(174,a12_),(173,x142),(172,x141),(171,x140),(170,x5),(169,a13_),(168,x139),(167,a11_),(166,x137),(165,x136),(164,x135),(163,x5),(162,a13_),(147,x134),(161,x134),(160,x132),(159,x130),(158,x128),(157,x126),(156,x124),(155,x122),(154,x121),(153,x121),(152,x120),(151,x119),(150,x118),(149,a14_),(148,a4_),(116,x101),(122,x101),(121,x100),(120,x99),(119,x98),(118,a14_),(117,a4_),(89,x80),(95,x80),(94,x79),(93,x78),(92,x77),(91,a14_),(90,a4_),(15,x5),(88,x5),(87,x4),(86,x3),(85,x2),(84,a14_),(83,a4_),(80,x1),(79,x0),(78,a4_),(77,a14_)] [(4,a4_),(5,a5_),(6,a6_),(11,a11_),(12,a12_),(13,a13_),(14,a14_)]) G143)) (
 J0 (xq q 240 τ [(147,x134),(161,x134),(160,x132),(159,x130),(158,x128),(157,x126),(156,x124),(155,x122),(154,x121),(153,x121),(152,x120),(151,x119),(150,x118),(149,a14_),(148,a4_),(116,x101),(122,x101),(121,x100),(120,x99),(119,x98),(118,a14_),(117,a4_),(89,x80),(95,x80),(94,x79),(93,x78),(92,x77),(91,a14_),(90,a4_),(15,x5),(88,x5),(87,x4),(86,x3),(85,x2),(84,a14_),(83,a4_),(80,x1),(79,x0),(78,a4_),(77,a14_)] [(4,a4_),(5,a5_),(6,a6_),(11,a11_),(12,a12_),(13,a13_),(14,a14_)]) G133)))) (
 some ((.exit 0),xq q 240 τ [(80,x1),(79,x0),(78,a4_),(77,a14_)] [(4,a4_),(5,a5_),(6,a6_),(11,a11_),(12,a12_),(13,a13_),(14,a14_),(15,a15_)],G))
def b6_0 (q:Bool) (e:Ex) (lp:LpF) (τ:Env) (G:GS):OL:=bb6_0 q e lp (jl6_0_0 q e lp) τ G
theorem mb6_0 {e:Ex} {E:Ev} (h:ExLe Q e E) {lp lp':LpF} (hlp:LpLe lp lp') (τ:Env) (G:GS):Ref (b6_0 true e lp τ G) (b6_0 false (Ex.of E) lp' τ G):=by
 unfold b6_0 bb6_0
 have j0:=@mkjl6_0_0 e E h lp lp' hlp
 exact Ref.gj
def jtl6_0 (J0:LpF):JT (Exit × Env × GS) :=
 (.n none .e (.n none (.n none (.n none .e (.n (some (fun T G=>J0 (nth undef T) G)) .e .e)) .e) .e))
set_option maxHeartbeats 8000000 in
theorem jrl6_0_0 (orc:FuncId → Bool) (J0:LpF) (T:List Value) (G:GS):runC Q (evL Q orc) 240 (jtl6_0 J0) (subAt [1,1,1,1,1,1,0,1,0,0] (bodyOf Tryz.f6)) (seqXE (fun τ G'=>mapE ((E orc).lp (subAt [1,1,1,1,1,1,0,1,0,0] (bodyOf Tryz.f6)) (lst 240 (nth undef (lst 240 τ))) G')) fun e τ G'=>some (e,nth undef (lst 240 τ),G')) [true,false,false,true] (nth undef T) G = jbl6_0_0 false (Ex.of (E orc)) (fun τ G=>mapE ((E orc).lp (subAt [1,1,1,1,1,1,0,1,0,0] (bodyOf Tryz.f6)) (lst 240 τ) G))  (nth undef T) G:=by kernel_rfl
set_option maxHeartbeats 8000000 in
theorem jol6_0 (orc:FuncId → Bool):JOk Q orc 240 (jtl6_0 (jl6_0_0 false (Ex.of (E orc)) (fun τ G=>mapE ((E orc).lp (subAt [1,1,1,1,1,1,0,1,0,0] (bodyOf Tryz.f6)) (lst 240 τ) G))) ) (subAt [1,1,1,1,1,1,0,1,0,0] (bodyOf Tryz.f6)) (seqXE (fun τ G'=>mapE ((E orc).lp (subAt [1,1,1,1,1,1,0,1,0,0] (bodyOf Tryz.f6)) (lst 240 (nth undef (lst 240 τ))) G')) fun e τ G'=>some (e,nth undef (lst 240 τ),G')) :=
 jOk Q orc (l:=[([true,false,false,true],(fun T G=>jl6_0_0 false (Ex.of (E orc)) (fun τ G=>mapE ((E orc).lp (subAt [1,1,1,1,1,1,0,1,0,0] (bodyOf Tryz.f6)) (lst 240 τ) G)) (nth undef T) G))]) (by kernel_rfl) (AllE.c (fun T G=>jrl6_0_0 orc (jl6_0_0 false (Ex.of (E orc)) (fun τ G=>mapE ((E orc).lp (subAt [1,1,1,1,1,1,0,1,0,0] (bodyOf Tryz.f6)) (lst 240 τ) G))) T G) (AllE.z))
set_option maxHeartbeats 8000000 in
theorem jel6_0 (orc:FuncId → Bool) (J0:LpF) (T:List Value) (G:GS):sxC Q (evL Q orc) 240 (jtl6_0 J0) (subAt [1,1,1,1,1,1,0,1,0,0] (bodyOf Tryz.f6)) (nth undef T) G (seqXE (fun τ G'=>mapE ((E orc).lp (subAt [1,1,1,1,1,1,0,1,0,0] (bodyOf Tryz.f6)) (lst 240 (nth undef (lst 240 τ))) G')) fun e τ G'=>some (e,nth undef (lst 240 τ),G')) = bb6_0 false (Ex.of (E orc)) (fun τ G=>mapE ((E orc).lp (subAt [1,1,1,1,1,1,0,1,0,0] (bodyOf Tryz.f6)) (lst 240 τ) G)) J0 (nth undef T) G:=by kernel_rfl
set_option maxHeartbeats 8000000 in
theorem l6_0 {orc:FuncId → Bool} {e:Ex} (h:ExLe Q e (E orc)) (lp:LpF) (hlp:∀ τ G,Ref (lp τ G) (mapE ((E orc).lp (subAt [1,1,1,1,1,1,0,1,0,0] (bodyOf Tryz.f6)) (lst 240 τ) G))) (T:List Value) (G:GS) (hT:T.length = 240):Ref (b6_0 true e lp (nth undef T) G) (mapE ((E orc).lp (subAt [1,1,1,1,1,1,0,1,0,0] (bodyOf Tryz.f6)) T G)) :=
 fun r hr=>lp_sxC Q orc G (jtl6_0 (jl6_0_0 false (Ex.of (E orc)) (fun τ G=>mapE ((E orc).lp (subAt [1,1,1,1,1,1,0,1,0,0] (bodyOf Tryz.f6)) (lst 240 τ) G))) ) hT (jol6_0 orc) (jel6_0 orc (jl6_0_0 false (Ex.of (E orc)) (fun τ G=>mapE ((E orc).lp (subAt [1,1,1,1,1,1,0,1,0,0] (bodyOf Tryz.f6)) (lst 240 τ) G))) T G) (mb6_0 h ⟨hlp⟩ _ _ r hr)
def s6 (q:Bool) (e:Ex) (v0 v1 v2 v3 v4:Value) (G:GS):OG :=
 bS (bx q v0 G) fun x0 G1 =>
 bS (bx q v1 G1) fun x2 G3 =>
 bP (lda Q q 49 3 x2 (G3.room 7)) fun x4 =>
 bS (e.ev.cl 29 [x4,v2] (G3.room 7)) fun x6 G5 =>
 bP (lda Q q 49 3 x2 G5) fun x7 =>
 chk ((sameO (lda Q q 49 3 x2 (G3.room 7)) x7 && true)) <|
 bS (e.ev.cl 30 [x7,v2] G5) fun x9 G8 =>
 bP (bn Q q .neq 51 (.tmp 21) (.tmp 24) x6 x9) fun x10 =>
 ifV x10 (
 some ((.bool false),G8)) (
 bP (lda Q q 49 3 x2 G8) fun x11 =>
 bS (e.ev.cl 30 [x11,v2] G8) fun x12 G13 =>
 bP (bn Q q .neq 51 (.tmp 28) (.const (.int .i64 0)) x12 (.int .i64 0)) fun x14 =>
 bS (gP x14 false (lda Q q 45 13 x0 G13) G13) fun x15 G16 =>
 bS (gV x14 false v2 G16) fun x17 G18 =>
 bS (gS x14 false (e.ev.cl 31 [x15,x17] G18) G18) fun x19 G20 =>
 bS (gP x14 false (bn Q q .neq 51 (.tmp 33) (.const (.int .i64 0)) x19 (.int .i64 0)) G20) fun x21 G22 =>
 bP (pickV x14 (.bool true) x21) fun x23 =>
 bS (gP x23 false (fa Q q 45 3 3 x0) G22) fun x24 G25 =>
 bS (gP x23 false (fa Q q 43 0 0 x24) G25) fun x26 G27 =>
 bS (gP x23 false (fa Q q 39 0 0 x26) G27) fun x28 G29 =>
 bS (gP x23 false (fa Q q 37 2 2 x28) G29) fun x30 G31 =>
 bS (gP x23 false (ld Q q 3 x30 G31) G31) fun x32 G33 =>
 bS (gP x23 false (bn Q q .gtr 3 (.tmp 41) (.const (.int .i64 12)) x32 (.int .i64 12)) G33) fun x34 G35 =>
 bP (pickV x23 (.bool true) x34) fun x36 =>
 bS (gV x36 false v2 G35) fun x37 G38 =>
 bS (gP x36 false (bn Q q .gtr 3 (.tmp 45) (.const (.int .i64 160)) x37 (.int .i64 160)) G38) fun x39 G40 =>
 bP (pickV x36 (.bool true) x39) fun x41 =>
 bS (gV x41 false v3 G40) fun x42 G43 =>
 bS (gP x41 false (ln Q q 22 x42) G43) fun x44 G45 =>
 bS (gP x41 false (bn Q q .gtr 3 (.tmp 50) (.const (.int .i64 160)) x44 (.int .i64 160)) G45) fun x46 G47 =>
 bP (pickV x41 (.bool true) x46) fun x48 =>
 bS (gV x48 false v4 G47) fun x49 G50 =>
 bS (gP x48 false (ln Q q 65 x49) G50) fun x51 G52 =>
 bS (gP x48 false (bn Q q .gtr 3 (.tmp 55) (.const (.int .i64 150)) x51 (.int .i64 150)) G52) fun x53 G54 =>
 bP (pickV x48 (.bool true) x53) fun x55 =>
 ifV x55 (
 bS (e.ev.cl 7 [] G54) fun x56 G57 =>
 some (x56,G57)) (
 bP (lda Q q 45 13 x0 G54) fun x58 =>
 bP (lda Q q 49 3 x2 G54) fun x59 =>
 bS (e.ev.cl 32 [x58,x59,v2,v3] G54) fun x60 G61 =>
 bP (pExtract x60 0) fun x62 =>
 bP (pExtract x60 1) fun x63 =>
 bP (ep Q q false 50 (.tmp 67) (.const (.pointer none)) x62 (.pointer none)) fun x64 =>
 bS (gP x64 false (lda Q q 49 3 x2 G61) G61) fun x65 G66 =>
 bS (gV x64 false x62 G66) fun x67 G68 =>
 bS (gV x64 false x63 G68) fun x69 G70 =>
 bS (gS x64 false (e.ev.cl 33 [x65,x67,x69] G70) G70) fun x71 G72 =>
 bS (gP x64 false (un Q q .not x71) G72) fun x73 G74 =>
 bP (pickV x64 (.bool true) x73) fun x75 =>
 ifV x75 (
 some ((.bool false),G74)) (
 bS (mk Q q 72 2 16 z78 (.int .i64 3) (.int .i64 3) G74) fun x76 G77 =>
 bLq q e 6 0 (subAt [1,1,1,1,1,1,0,1,0,0] (bodyOf Tryz.f6)) 240 (nth undef [v0,v1,v2,v3,v4]) [(14,(.int .i64 0)),(13,x76),(76,x76),(75,x75),(74,x73),(73,x71),(72,x69),(71,x67),(70,x65),(69,x64),(68,x64),(67,x62),(12,x63),(11,x62),(66,x63),(65,x62),(59,x60),(64,x60),(63,v3),(62,v2),(61,x59),(60,x58),(57,x55),(56,x53),(55,x51),(54,x49),(53,x48),(52,x48),(51,x46),(50,x44),(49,x42),(48,x41),(47,x41),(46,x39),(45,x37),(44,x36),(43,x36),(42,x34),(41,x32),(40,x30),(39,x28),(38,x26),(37,x24),(36,x23),(35,x23),(34,x21),(33,x19),(32,x17),(31,x15),(30,x14),(29,x14),(28,x12),(27,v2),(26,x11),(25,x10),(24,x9),(23,v2),(22,x7),(21,x6),(20,v2),(19,x4),(10,(.bool false)),(6,x2),(5,x0)] [] G77 fun e78 t79 G80 =>
 bV q (t79 6) fun t79x6_ =>
 bV q (t79 10) fun t79x10_ =>
 bV q (t79 11) fun t79x11_ =>
 bV q (t79 12) fun t79x12_ =>
 ifE e78 (.exit 0) (
 bP (lda Q q 49 3 t79x6_ G80) fun x81 =>
 bS (e.ev.cl 33 [x81,t79x11_,t79x12_] G80) fun x82 G83 =>
 bS (gS x82 true (e.ev.cl 7 [] G83) G83) fun x84 G85 =>
 bP (pickV x82 x84 (.bool false)) fun x86 =>
 some (x86,G85)) (ifE e78 .ret (
 some (t79x10_,G80)) (none)))))
theorem m6 {e:Ex} {E:Ev} (h:ExLe Q e E) (v0 v1 v2 v3 v4:Value) (G:GS):Ref (s6 true e v0 v1 v2 v3 v4 G) (s6 false (Ex.of E) v0 v1 v2 v3 v4 G):=by
 unfold s6
 exact Ref.gq
set_option maxHeartbeats 8000000 in
theorem f6 {orc:FuncId → Bool} {e:Ex} (h:ExLe Q e (E orc)) (v0 v1 v2 v3 v4:Value) (G:GS):Ref (s6 true e v0 v1 v2 v3 v4 G) ((E orc).cl 6 [v0,v1,v2,v3,v4] G) :=
 fun r hr=>cl_sxE_some Q orc (vs:=[v0,v1,v2,v3,v4]) G Tryz.func6 (by kernel_rfl) (by kernel_rfl) (by kernel_rfl) (by kernel_rfl) (by kernel_rfl) (by kernel_rfl) (m6 h v0 v1 v2 v3 v4 G r hr)
def s7 (q:Bool) (e:Ex) (G:GS):OG :=
 bS (e.ev.cl 46 [] G) fun x0 G1 =>
 bP (ep Q q true 50 (.tmp 3) (.const (.pointer none)) x0 (.pointer none)) fun x2 =>
 bS (gS x2 true (e.ev.cl 48 [] G1) G1) fun x3 G4 =>
 bS (gV x2 true x0 G4) fun x5 G6 =>
 bS (gS x2 true (e.ev.cl 47 [x3,x5] G6) G6) fun x7 G8 =>
 bS (gS x2 true (bs Q q 22 2 (rep z23 2) 1 [(0,0,1),(1,1,1)] [(.int .u64 18446744073709551615),(.int .u64 18446744073709551615)] G8) G8) fun x9 G10 =>
 bS (gS x2 true (e.ev.cl 13 [x7,x9] G10) G10) fun x11 G12 =>
 bP (pickV x2 x11 (.bool false)) fun x13 =>
 bS (gS x13 true (e.ev.cl 48 [] G12) G12) fun x14 G15 =>
 bS (gV x13 true x0 G15) fun x16 G17 =>
 bS (gS x13 true (e.ev.cl 49 [x14,x16,(.slice none 0 0)] G17) G17) fun x18 G19 =>
 bP (pickV x13 x18 (.bool false)) fun x20 =>
 bS (gV x20 true x0 G19) fun x21 G22 =>
 bS (gS x20 true (e.ev.cl 50 [x21,(.int .i64 0),(.int .i64 5),(.int .i64 (-1))] G22) G22) fun x23 G24 =>
 bP (pickV x20 x23 (.bool false)) fun x25 =>
 bS (gS x25 true (e.ev.cl 51 [] G24) G24) fun x26 G27 =>
 bS (gV x25 true x0 G27) fun x28 G29 =>
 bS (gS x25 true (e.ev.cl 22 [x26,x28,(.int .u64 9),(.int .i64 5),(.int .i64 1)] G29) G29) fun x30 G31 =>
 bP (pickV x25 x30 (.bool false)) fun x32 =>
 bS (gV x32 true x0 G31) fun x33 G34 =>
 bS (gS x32 true (e.ev.cl 50 [x33,(.int .i64 1),(.int .i64 11),(.int .i64 0)] G34) G34) fun x35 G36 =>
 bP (pickV x32 x35 (.bool false)) fun x37 =>
 bS (gS x37 true (e.ev.cl 48 [] G36) G36) fun x38 G39 =>
 bS (gV x37 true x0 G39) fun x40 G41 =>
 bS (gS x37 true (bs Q q 35 1 (rep z3 1) 1 [(0,0,1)] [(.int .i64 0)] G41) G41) fun x42 G43 =>
 bS (gS x37 true (e.ev.cl 49 [x38,x40,x42] G43) G43) fun x44 G45 =>
 bP (pickV x37 x44 (.bool false)) fun x46 =>
 some (x46,G45)
theorem f7 (h:ExLe Q e (E orc)) (ho:orc 7 = false) (G:GS):Ref (s7 true e  G) ((E orc).cl 7 [] G):=cS (S:=fun q e=>s7 q e  G) (ho:=ho) Tryz.func7 (by unfold s7; exact Ref.gq)
def s8 (q:Bool) (e:Ex) (v0:Value) (G:GS):OG :=
 bS (bs Q q 22 0 (rep z23 0) 1 [] [] G) fun x0 G1 =>
 bS (ap Q q 22 22 1 8 x0 v0 G1) fun x2 G3 =>
 some (x2,G3)
theorem f8 (h:ExLe Q e (E orc)) (v0:Value) (G:GS):Ref (s8 true e v0 G) ((E orc).cl 8 [v0] G):=cS (S:=fun q e=>s8 q e v0 G) Tryz.func8 (by unfold s8; exact Ref.gq)
def s9 (q:Bool) (e:Ex) (v0 v1:Value) (G:GS):OG :=
 bS (e.ev.cl 52 [v0,(.func (.func 53) #[] #[])] G) fun x0 G1 =>
 bP (bn Q q .lss 3 (.tmp 9) (.const (.int .i64 0)) x0 (.int .i64 0)) fun x2 =>
 bS (gV x2 false v0 G1) fun x3 G4 =>
 bS (gV x2 false x0 G4) fun x5 G6 =>
 bS (gP x2 false (ias Q q 22 1 x3 x5) G6) fun x7 G8 =>
 bS (gP x2 false (ld Q q 23 x7 G8) G8) fun x9 G10 =>
 bS (gV x2 false v1 G10) fun x11 G12 =>
 bS (gP x2 false (bn Q q .leq 23 (.tmp 15) (.tmp 16) x9 x11) G12) fun x13 G14 =>
 bP (pickV x2 (.bool true) x13) fun x15 =>
 ifV x15 (
 some (.tuple #[(.int .i64 (-1)),(.bool false)],G14)) (
 some (.tuple #[x0,(.bool true)],G14))
theorem f9 (h:ExLe Q e (E orc)) (v0 v1:Value) (G:GS):Ref (s9 true e v0 v1 G) ((E orc).cl 9 [v0,v1] G):=cS (S:=fun q e=>s9 q e v0 v1 G) Tryz.func9 (by unfold s9; exact Ref.gq)
def jbl10_0_0 (q:Bool) (e:Ex) (lp:LpF) (τ:Env) (G:GS):OL :=
 bV q (τ 0) fun a0_ =>
 bV q (τ 6) fun a6_ =>
 bV q (τ 7) fun a7_ =>
 bP (bn Q q .add 3 (.tmp 12) (.const (.int .i64 1)) a7_ (.int .i64 1)) fun x2 =>
 lp (xq q 39 τ [(7,x2),(13,x2),(12,a7_)] [(0,a0_),(6,a6_)]) G
def jl10_0_0 (q:Bool) (e:Ex) (lp:LpF) (τ:Env) (G:GS):OL:=jbl10_0_0 q e lp τ G
theorem mjl10_0_0 {e:Ex} {E:Ev} (h:ExLe Q e E) {lp lp':LpF} (hlp:LpLe lp lp') (τ:Env) (G:GS):Ref (jl10_0_0 true e lp τ G) (jl10_0_0 false (Ex.of E) lp' τ G):=by
 unfold jl10_0_0 jbl10_0_0
 exact Ref.gq
theorem mkjl10_0_0 {e:Ex} {E:Ev} (h:ExLe Q e E) {lp lp':LpF} (hlp:LpLe lp lp') {τ:Env} {l U:List (Nat × Value)} {G:GS} (hU:UOk τ U):Ref (jl10_0_0 true e lp (xq true 39 τ l U) G) (jl10_0_0 false (Ex.of E) lp' (xq false 39 τ l U) G):=by
 rw [xq_eq hU]
 exact mjl10_0_0 h hlp _ _
def bb10_0 (q:Bool) (e:Ex) (lp:LpF) (J0:LpF) (τ:Env) (G:GS):OL :=
 bV q (τ 0) fun a0_ =>
 bV q (τ 6) fun a6_ =>
 bV q (τ 7) fun a7_ =>
 bP (ln Q q 22 a0_) fun x0 =>
 bP (bn Q q .lss 3 (.tmp 8) (.tmp 10) a7_ x0) fun x1 =>
 ifV x1 (
 bP (bn Q q .lss 3 (.tmp 14) (.const (.int .i64 0)) a6_ (.int .i64 0)) fun x3 =>
 bS (gV x3 false a0_ (G.room 13)) fun x4 _ =>
 bS (gV x3 false a7_ (G.room 13)) fun x5 _ =>
 bS (gP x3 false (ias Q q 22 1 x4 x5) (G.room 13)) fun x6 _ =>
 bS (gP x3 false (ld Q q 23 x6 (G.room 13)) (G.room 13)) fun x7 _ =>
 bS (gV x3 false a0_ (G.room 13)) fun x8 _ =>
 bS (gV x3 false a6_ (G.room 13)) fun x9 _ =>
 bS (gP x3 false (ias Q q 22 1 x8 x9) (G.room 13)) fun x10 _ =>
 bS (gP x3 false (ld Q q 23 x10 (G.room 13)) (G.room 13)) fun x11 _ =>
 bS (gP x3 false (bn Q q .gtr 23 (.tmp 20) (.tmp 24) x7 x11) (G.room 13)) fun x12 _ =>
 bP (pickV x3 (.bool true) x12) fun x13 =>
 ifV x13 (
 J0 (xq q 39 τ [(6,a7_),(27,a7_),(26,x13),(25,x12),(24,x11),(23,x10),(22,x9),(21,x8),(20,x7),(19,x6),(18,x5),(17,x4),(16,x3),(15,x3),(14,a6_),(11,x1),(10,x0),(9,a0_),(8,a7_)] [(0,a0_),(7,a7_)]) (G.room 13)) (
 J0 (xq q 39 τ [(26,x13),(25,x12),(24,x11),(23,x10),(22,x9),(21,x8),(20,x7),(19,x6),(18,x5),(17,x4),(16,x3),(15,x3),(14,a6_),(11,x1),(10,x0),(9,a0_),(8,a7_)] [(0,a0_),(6,a6_),(7,a7_)]) (G.room 13))) (
 some ((.exit 0),xq q 39 τ [(11,x1),(10,x0),(9,a0_),(8,a7_)] [(0,a0_),(6,a6_),(7,a7_)],G))
def b10_0 (q:Bool) (e:Ex) (lp:LpF) (τ:Env) (G:GS):OL:=bb10_0 q e lp (jl10_0_0 q e lp) τ G
theorem mb10_0 {e:Ex} {E:Ev} (h:ExLe Q e E) {lp lp':LpF} (hlp:LpLe lp lp') (τ:Env) (G:GS):Ref (b10_0 true e lp τ G) (b10_0 false (Ex.of E) lp' τ G):=by
 unfold b10_0 bb10_0
 have j0:=@mkjl10_0_0 e E h lp lp' hlp
 exact Ref.gj
def jtl10_0 (J0:LpF):JT (Exit × Env × GS) :=
 (.n none .e (.n (some (fun T G=>J0 (nth undef T) G)) .e .e))
theorem jrl10_0_0 (orc:FuncId → Bool) (J0:LpF) (T:List Value) (G:GS):runC Q (evL Q orc) 39 (jtl10_0 J0) (subAt [1,1,0,1,0,0] (bodyOf Tryz.f10)) (seqXE (fun τ G'=>mapE ((E orc).lp (subAt [1,1,0,1,0,0] (bodyOf Tryz.f10)) (lst 39 (nth undef (lst 39 τ))) G')) fun e τ G'=>some (e,nth undef (lst 39 τ),G')) [true] (nth undef T) G = jbl10_0_0 false (Ex.of (E orc)) (fun τ G=>mapE ((E orc).lp (subAt [1,1,0,1,0,0] (bodyOf Tryz.f10)) (lst 39 τ) G))  (nth undef T) G:=by kernel_rfl
theorem jol10_0 (orc:FuncId → Bool):JOk Q orc 39 (jtl10_0 (jl10_0_0 false (Ex.of (E orc)) (fun τ G=>mapE ((E orc).lp (subAt [1,1,0,1,0,0] (bodyOf Tryz.f10)) (lst 39 τ) G))) ) (subAt [1,1,0,1,0,0] (bodyOf Tryz.f10)) (seqXE (fun τ G'=>mapE ((E orc).lp (subAt [1,1,0,1,0,0] (bodyOf Tryz.f10)) (lst 39 (nth undef (lst 39 τ))) G')) fun e τ G'=>some (e,nth undef (lst 39 τ),G')) :=
 jOk Q orc (l:=[([true],(fun T G=>jl10_0_0 false (Ex.of (E orc)) (fun τ G=>mapE ((E orc).lp (subAt [1,1,0,1,0,0] (bodyOf Tryz.f10)) (lst 39 τ) G)) (nth undef T) G))]) (by kernel_rfl) (AllE.c (fun T G=>jrl10_0_0 orc (jl10_0_0 false (Ex.of (E orc)) (fun τ G=>mapE ((E orc).lp (subAt [1,1,0,1,0,0] (bodyOf Tryz.f10)) (lst 39 τ) G))) T G) (AllE.z))
theorem jel10_0 (orc:FuncId → Bool) (J0:LpF) (T:List Value) (G:GS):sxC Q (evL Q orc) 39 (jtl10_0 J0) (subAt [1,1,0,1,0,0] (bodyOf Tryz.f10)) (nth undef T) G (seqXE (fun τ G'=>mapE ((E orc).lp (subAt [1,1,0,1,0,0] (bodyOf Tryz.f10)) (lst 39 (nth undef (lst 39 τ))) G')) fun e τ G'=>some (e,nth undef (lst 39 τ),G')) = bb10_0 false (Ex.of (E orc)) (fun τ G=>mapE ((E orc).lp (subAt [1,1,0,1,0,0] (bodyOf Tryz.f10)) (lst 39 τ) G)) J0 (nth undef T) G:=by kernel_rfl
theorem l10_0 {orc:FuncId → Bool} {e:Ex} (h:ExLe Q e (E orc)) (lp:LpF) (hlp:∀ τ G,Ref (lp τ G) (mapE ((E orc).lp (subAt [1,1,0,1,0,0] (bodyOf Tryz.f10)) (lst 39 τ) G))) (T:List Value) (G:GS) (hT:T.length = 39):Ref (b10_0 true e lp (nth undef T) G) (mapE ((E orc).lp (subAt [1,1,0,1,0,0] (bodyOf Tryz.f10)) T G)) :=
 fun r hr=>lp_sxC Q orc G (jtl10_0 (jl10_0_0 false (Ex.of (E orc)) (fun τ G=>mapE ((E orc).lp (subAt [1,1,0,1,0,0] (bodyOf Tryz.f10)) (lst 39 τ) G))) ) hT (jol10_0 orc) (jel10_0 orc (jl10_0_0 false (Ex.of (E orc)) (fun τ G=>mapE ((E orc).lp (subAt [1,1,0,1,0,0] (bodyOf Tryz.f10)) (lst 39 τ) G))) T G) (mb10_0 h ⟨hlp⟩ _ _ r hr)
def s10 (q:Bool) (e:Ex) (v0 v1:Value) (G:GS):OG :=
 bLq q e 10 0 (subAt [1,1,0,1,0,0] (bodyOf Tryz.f10)) 39 (nth undef [v0,v1]) [(7,(.int .i64 0)),(6,(.int .i64 (-1))),(5,(.bool false)),(4,(.int .i64 0))] [] G fun e0 t1 G2 =>
 bV q (t1 0) fun t1x0_ =>
 bV q (t1 1) fun t1x1_ =>
 bV q (t1 6) fun t1x6_ =>
 ifE e0 (.exit 0) (
 bP (bn Q q .lss 3 (.tmp 28) (.const (.int .i64 0)) t1x6_ (.int .i64 0)) fun x3 =>
 bS (gV x3 false t1x0_ G2) fun x4 G5 =>
 bS (gV x3 false t1x6_ G5) fun x6 G7 =>
 bS (gP x3 false (ias Q q 22 1 x4 x6) G7) fun x8 G9 =>
 bS (gP x3 false (ld Q q 23 x8 G9) G9) fun x10 G11 =>
 bS (gV x3 false t1x1_ G11) fun x12 G13 =>
 bS (gP x3 false (bn Q q .leq 23 (.tmp 34) (.tmp 35) x10 x12) G13) fun x14 G15 =>
 bP (pickV x3 (.bool true) x14) fun x16 =>
 ifV x16 (
 some (.tuple #[(.int .i64 (-1)),(.bool false)],G15)) (
 some (.tuple #[t1x6_,(.bool true)],G15))) (none)
theorem f10 (h:ExLe Q e (E orc)) (v0 v1:Value) (G:GS):Ref (s10 true e v0 v1 G) ((E orc).cl 10 [v0,v1] G):=cS (S:=fun q e=>s10 q e v0 v1 G) Tryz.func10 (by unfold s10; exact Ref.gq)
def b13_0 (q:Bool) (e:Ex) (lp:LpF) (τ:Env) (G:GS):OL :=
 bV q (τ 0) fun a0_ =>
 bV q (τ 1) fun a1_ =>
 bV q (τ 5) fun a5_ =>
 bV q (τ 6) fun a6_ =>
 bS (gV a5_ true a6_ G) fun x0 G1 =>
 bS (gV a5_ true a0_ G1) fun x2 G3 =>
 bS (gP a5_ true (ln Q q 22 x2) G3) fun x4 G5 =>
 bS (gP a5_ true (bn Q q .lss 3 (.tmp 14) (.tmp 16) x0 x4) G5) fun x6 G7 =>
 bP (pickV a5_ x6 (.bool false)) fun x8 =>
 ifV x8 (
 bP (ias Q q 22 1 a0_ a6_) fun x9 =>
 bP (ld Q q 23 x9 (G7.room 10)) fun x10 =>
 bP (ias Q q 22 1 a1_ a6_) fun x11 =>
 bP (ld Q q 23 x11 (G7.room 10)) fun x12 =>
 bP (bn Q q .eql 23 (.tmp 24) (.tmp 28) x10 x12) fun x13 =>
 bP (bn Q q .add 3 (.tmp 19) (.const (.int .i64 1)) a6_ (.int .i64 1)) fun x14 =>
 lp (xq q 31 τ [(6,x14),(20,x14),(19,a6_),(5,x13),(29,x13),(28,x12),(27,x11),(26,a6_),(25,a1_),(24,x10),(23,x9),(22,a6_),(21,a0_),(18,x8),(17,x6),(16,x4),(15,x2),(14,x0),(13,a5_),(12,a5_)] [(0,a0_),(1,a1_)]) (G7.room 10)) (
 some ((.exit 0),xq q 31 τ [(18,x8),(17,x6),(16,x4),(15,x2),(14,x0),(13,a5_),(12,a5_)] [(0,a0_),(1,a1_),(5,a5_),(6,a6_)],G7))
theorem l13_0 (h:ExLe Q e (E orc)):LT orc 31 (subAt [1,1,0,1,0,0] (bodyOf Tryz.f13)) (b13_0 true e):=cL fun hlp τ G=>by unfold b13_0; exact Ref.gq
def s13 (q:Bool) (e:Ex) (v0 v1:Value) (G:GS):OG :=
 bP (ln Q q 22 v0) fun x0 =>
 bP (ln Q q 22 v1) fun x1 =>
 bP (bn Q q .eql 3 (.tmp 8) (.tmp 10) x0 x1) fun x2 =>
 bLq q e 13 0 (subAt [1,1,0,1,0,0] (bodyOf Tryz.f13)) 31 (nth undef [v0,v1]) [(6,(.int .i64 0)),(5,x2),(11,x2),(10,x1),(9,v1),(8,x0),(7,v0),(4,(.bool false))] [] G fun e3 t4 G5 =>
 bV q (t4 5) fun t4x5_ =>
 ifE e3 (.exit 0) (
 some (t4x5_,G5)) (none)
theorem f13 (h:ExLe Q e (E orc)) (v0 v1:Value) (G:GS):Ref (s13 true e v0 v1 G) ((E orc).cl 13 [v0,v1] G):=cS (S:=fun q e=>s13 q e v0 v1 G) Tryz.func13 (by unfold s13; exact Ref.gq)
def b14_0 (q:Bool) (e:Ex) (lp:LpF) (τ:Env) (G:GS):OL :=
 bV q (τ 0) fun a0_ =>
 bV q (τ 2) fun a2_ =>
 bP (ln Q q 22 a0_) fun x0 =>
 bP (bn Q q .lss 3 (.tmp 3) (.tmp 5) a2_ x0) fun x1 =>
 ifV x1 (
 bP (ias Q q 22 1 a0_ a2_) fun x2 =>
 bP (st Q q 23 1 x2 (.int .u64 7777777) G) fun G3 =>
 bP (bn Q q .add 3 (.tmp 7) (.const (.int .i64 1)) a2_ (.int .i64 1)) fun x4 =>
 lp (xq q 12 τ [(2,x4),(8,x4),(7,a2_),(11,x2),(10,a2_),(9,a0_),(6,x1),(5,x0),(4,a0_),(3,a2_)] [(0,a0_)]) G3) (
 some ((.exit 0),xq q 12 τ [(6,x1),(5,x0),(4,a0_),(3,a2_)] [(0,a0_),(2,a2_)],G))
theorem l14_0 (h:ExLe Q e (E orc)):LT orc 12 (subAt [1,0,0] (bodyOf Tryz.f14)) (b14_0 true e):=cL fun hlp τ G=>by unfold b14_0; exact Ref.gq
def s14 (q:Bool) (e:Ex) (v0:Value) (G:GS):OG :=
 bLq q e 14 0 (subAt [1,0,0] (bodyOf Tryz.f14)) 12 (nth undef [v0]) [(2,(.int .i64 0))] [] G fun e0 t1 G2 =>
 ifE e0 (.exit 0) (
 some (.tuple #[],G2)) (none)
theorem f14 (h:ExLe Q e (E orc)) (v0:Value) (G:GS):Ref (s14 true e v0 G) ((E orc).cl 14 [v0] G):=cS (S:=fun q e=>s14 q e v0 G) Tryz.func14 (by unfold s14; exact Ref.gq)
def s16 (q:Bool) (e:Ex) (v0 v1:Value) (G:GS):OG :=
 bP (bn Q q .leq 3 (.tmp 5) (.const (.int .i64 0)) v1 (.int .i64 0)) fun x0 =>
 ifV x0 (
 some ((.int .i64 0),G)) (
 bP (bn Q q .rem 3 (.tmp 7) (.tmp 8) v0 v1) fun x1 =>
 bP (bn Q q .lss 3 (.tmp 10) (.const (.int .i64 0)) x1 (.int .i64 0)) fun x2 =>
 ifV x2 (
 bP (bn Q q .add 3 (.tmp 12) (.tmp 13) x1 v1) fun x3 =>
 some (x3,G)) (
 some (x1,G)))
theorem f16 (h:ExLe Q e (E orc)) (v0 v1:Value) (G:GS):Ref (s16 true e v0 v1 G) ((E orc).cl 16 [v0,v1] G):=cS (S:=fun q e=>s16 q e v0 v1 G) Tryz.func16 (by unfold s16; exact Ref.gq)
def s19 (q:Bool) (e:Ex) (v0:Value) (G:GS):OG :=
 bP (bn Q q .lss 3 (.tmp 4) (.const (.int .i64 1)) v0 (.int .i64 1)) fun x0 =>
 bS (gV x0 false v0 G) fun x1 G2 =>
 bS (gP x0 false (bn Q q .gtr 3 (.tmp 7) (.const (.int .i64 4096)) x1 (.int .i64 4096)) G2) fun x3 G4 =>
 bP (pickV x0 (.bool true) x3) fun x5 =>
 ifV x5 (
 some (.tuple #[(.pointer none),(.int .i64 3)],G4)) (
 bS (al Q q 98 z98 G4) fun x6 G7 =>
 bP (bd Q q 100 z100 [(0,0,1),(1,1,1)] [x6,v0]) fun x8 =>
 bS (bx q x8 G7) fun x9 G10 =>
 some (.tuple #[x9,(.int .i64 0)],G10))
theorem f19 (h:ExLe Q e (E orc)) (v0:Value) (G:GS):Ref (s19 true e v0 G) ((E orc).cl 19 [v0] G):=cS (S:=fun q e=>s19 q e v0 G) Tryz.func19 (by unfold s19; exact Ref.gq)
def b20_0 (q:Bool) (e:Ex) (lp:LpF) (τ:Env) (G:GS):OL :=
 bV q (τ 1) fun a1_ =>
 bV q (τ 2) fun a2_ =>
 bV q (τ 13) fun a13_ =>
 bV q (τ 14) fun a14_ =>
 bP (bn Q q .lss 3 (.tmp 14) (.tmp 13) a14_ a13_) fun x0 =>
 ifV x0 (
 bP (fa Q q 45 1 1 a2_) fun x1 =>
 bP (ld Q q 3 x1 G) fun x2 =>
 bP (bn Q q .add 3 (.tmp 19) (.tmp 20) x2 a14_) fun x3 =>
 bS (e.ev.cl 23 [a1_,x3,(.int .u64 0)] G) fun x4 G5 =>
 bP (bn Q q .add 3 (.tmp 14) (.const (.int .i64 1)) a14_ (.int .i64 1)) fun x6 =>
 lp (xq q 24 τ [(14,x6),(23,x6),(22,x4),(21,x3),(20,a14_),(19,x2),(18,x1),(17,a1_),(4,a14_),(16,a14_),(15,x0)] [(1,a1_),(2,a2_),(13,a13_)]) G5) (
 some ((.exit 0),xq q 24 τ [(15,x0)] [(1,a1_),(2,a2_),(13,a13_),(14,a14_)],G))
theorem l20_0 (h:ExLe Q e (E orc)):LT orc 24 (subAt [1,1,1,1,0,0] (bodyOf Tryz.f20)) (b20_0 true e):=cL fun hlp τ G=>by unfold b20_0; exact Ref.gq
def s20 (q:Bool) (e:Ex) (v0 v1:Value) (G:GS):OG :=
 bS (bx q v0 G) fun x0 G1 =>
 bP (lda Q q 45 13 x0 G1) fun x2 =>
 bS (e.ev.cl 56 [x2] G1) fun x3 G4 =>
 bP (un Q q .not x3) fun x5 =>
 ifV x5 (
 some (.tuple #[],G4)) (
 bP (fa Q q 45 3 3 x0) fun x6 =>
 bP (lda Q q 43 10 x6 G4) fun x7 =>
 bS (e.ev.cl 57 [x7,v1] G4) fun x8 G9 =>
 bP (fa Q q 45 2 2 x0) fun x10 =>
 bP (ld Q q 3 x10 G9) fun x11 =>
 bLq q e 20 0 (subAt [1,1,1,1,0,0] (bodyOf Tryz.f20)) 24 (nth undef [v0,v1]) [(14,(.int .i64 0)),(13,x11),(12,x10),(11,x8),(10,v1),(9,x7),(8,x6),(7,x5),(6,x3),(5,x2),(2,x0)] [] G9 fun e12 t13 G14 =>
 ifE e12 (.exit 0) (
 some (.tuple #[],G14)) (none))
theorem f20 (h:ExLe Q e (E orc)) (v0 v1:Value) (G:GS):Ref (s20 true e v0 v1 G) ((E orc).cl 20 [v0,v1] G):=cS (S:=fun q e=>s20 q e v0 v1 G) Tryz.func20 (by unfold s20; exact Ref.gq)
def b21_0 (q:Bool) (e:Ex) (lp:LpF) (τ:Env) (G:GS):OL :=
 bV q (τ 1) fun a1_ =>
 bV q (τ 2) fun a2_ =>
 bV q (τ 9) fun a9_ =>
 bV q (τ 10) fun a10_ =>
 bP (bn Q q .lss 3 (.tmp 10) (.tmp 9) a10_ a9_) fun x0 =>
 ifV x0 (
 bP (fa Q q 49 0 0 a2_) fun x1 =>
 bP (ld Q q 3 x1 G) fun x2 =>
 bP (bn Q q .add 3 (.tmp 15) (.tmp 16) x2 a10_) fun x3 =>
 bS (e.ev.cl 23 [a1_,x3,(.int .u64 18446744073709551615)] G) fun x4 G5 =>
 bP (fa Q q 49 1 1 a2_) fun x6 =>
 bP (ld Q q 3 x6 G5) fun x7 =>
 bP (bn Q q .add 3 (.tmp 21) (.tmp 22) x7 a10_) fun x8 =>
 bS (e.ev.cl 23 [a1_,x8,(.int .u64 0)] G5) fun x9 G10 =>
 bP (bn Q q .add 3 (.tmp 10) (.const (.int .i64 1)) a10_ (.int .i64 1)) fun x11 =>
 lp (xq q 26 τ [(10,x11),(25,x11),(24,x9),(23,x8),(22,a10_),(21,x7),(20,x6),(19,a1_),(18,x4),(17,x3),(16,a10_),(15,x2),(14,x1),(13,a1_),(4,a10_),(12,a10_),(11,x0)] [(1,a1_),(2,a2_),(9,a9_)]) G10) (
 some ((.exit 0),xq q 26 τ [(11,x0)] [(1,a1_),(2,a2_),(9,a9_),(10,a10_)],G))
theorem l21_0 (h:ExLe Q e (E orc)):LT orc 26 (subAt [1,1,1,0,0] (bodyOf Tryz.f21)) (b21_0 true e):=cL fun hlp τ G=>by unfold b21_0; exact Ref.gq
def s21 (q:Bool) (e:Ex) (v0 v1:Value) (G:GS):OG :=
 bS (bx q v0 G) fun x0 G1 =>
 bP (lda Q q 49 3 x0 G1) fun x2 =>
 bS (e.ev.cl 58 [x2] G1) fun x3 G4 =>
 bP (un Q q .not x3) fun x5 =>
 ifV x5 (
 some (.tuple #[],G4)) (
 bP (fa Q q 49 2 2 x0) fun x6 =>
 bP (ld Q q 3 x6 G4) fun x7 =>
 bLq q e 21 0 (subAt [1,1,1,0,0] (bodyOf Tryz.f21)) 26 (nth undef [v0,v1]) [(10,(.int .i64 0)),(9,x7),(8,x6),(7,x5),(6,x3),(5,x2),(2,x0)] [] G4 fun e8 t9 G10 =>
 ifE e8 (.exit 0) (
 some (.tuple #[],G10)) (none))
theorem f21 (h:ExLe Q e (E orc)) (v0 v1:Value) (G:GS):Ref (s21 true e v0 v1 G) ((E orc).cl 21 [v0,v1] G):=cS (S:=fun q e=>s21 q e v0 v1 G) Tryz.func21 (by unfold s21; exact Ref.gq)
def b22_0 (q:Bool) (e:Ex) (lp:LpF) (τ:Env) (G:GS):OL :=
 bV q (τ 1) fun a1_ =>
 bV q (τ 11) fun a11_ =>
 bV q (τ 12) fun a12_ =>
 bP (bn Q q .lss 3 (.tmp 18) (.const (.int .i64 400)) a12_ (.int .i64 400)) fun x0 =>
 bS (gV x0 true a11_ G) fun x1 G2 =>
 bS (gV x0 true a1_ G2) fun x3 G4 =>
 bS (gS x0 true (e.ev.cl 60 [x1,x3] G4) G4) fun x5 G6 =>
 bS (gP x0 true (un Q q .not x5) G6) fun x7 G8 =>
 bP (pickV x0 x7 (.bool false)) fun x9 =>
 ifV x9 (
 bS (e.ev.cl 61 [a11_] G8) fun x10 G11 =>
 bP (bn Q q .neq 51 (.tmp 29) (.const (.int .i64 14)) x10 (.int .i64 14)) fun x12 =>
 ifV x12 (
 some (.ret,xq q 34 τ [(10,(.bool false)),(30,x12),(29,x10),(28,a11_),(25,x9),(24,x7),(23,x5),(22,x3),(21,x1),(20,x0),(19,x0),(18,a12_)] [(1,a1_),(11,a11_),(12,a12_)],G11)) (
 bP (bn Q q .add 3 (.tmp 26) (.const (.int .i64 1)) a12_ (.int .i64 1)) fun x13 =>
 lp (xq q 34 τ [(12,x13),(27,x13),(26,a12_),(30,x12),(29,x10),(28,a11_),(25,x9),(24,x7),(23,x5),(22,x3),(21,x1),(20,x0),(19,x0),(18,a12_)] [(1,a1_),(11,a11_)]) G11)) (
 some ((.exit 0),xq q 34 τ [(25,x9),(24,x7),(23,x5),(22,x3),(21,x1),(20,x0),(19,x0),(18,a12_)] [(1,a1_),(11,a11_),(12,a12_)],G8))
theorem l22_0 (h:ExLe Q e (E orc)):LT orc 34 (subAt [1,1,0,1,0,0] (bodyOf Tryz.f22)) (b22_0 true e):=cL fun hlp τ G=>by unfold b22_0; exact Ref.gq
def s22 (q:Bool) (e:Ex) (v0 v1 v2 v3 v4:Value) (G:GS):OG :=
 bS (bx q v0 G) fun x0 G1 =>
 bP (lda Q q 45 13 x0 G1) fun x2 =>
 bS (e.ev.cl 59 [x2,(.int .i64 0),v2,v3,v4] G1) fun x3 G4 =>
 bLq q e 22 0 (subAt [1,1,0,1,0,0] (bodyOf Tryz.f22)) 34 (nth undef [v0,v1,v2,v3,v4]) [(12,(.int .i64 0)),(11,x3),(17,x3),(16,v4),(15,v3),(14,v2),(13,x2),(10,(.bool false)),(5,x0)] [] G4 fun e5 t6 G7 =>
 bV q (t6 10) fun t6x10_ =>
 bV q (t6 11) fun t6x11_ =>
 ifE e5 (.exit 0) (
 bS (e.ev.cl 61 [t6x11_] G7) fun x8 G9 =>
 bP (bn Q q .eql 51 (.tmp 32) (.const (.int .i64 0)) x8 (.int .i64 0)) fun x10 =>
 some (x10,G9)) (ifE e5 .ret (
 some (t6x10_,G7)) (none))
theorem f22 (h:ExLe Q e (E orc)) (v0 v1 v2 v3 v4:Value) (G:GS):Ref (s22 true e v0 v1 v2 v3 v4 G) ((E orc).cl 22 [v0,v1,v2,v3,v4] G):=cS (S:=fun q e=>s22 q e v0 v1 v2 v3 v4 G) Tryz.func22 (by unfold s22; exact Ref.gq)
def s23 (q:Bool) (e:Ex) (v0 v1 v2:Value) (G:GS):OG :=
 bS (e.ev.cl 62 [v0,v1] G) fun x0 G1 =>
 bP (bd Q q 109 z109 [(0,0,1),(1,1,1)] [x0,v2]) fun x2 =>
 bS (al Q q 109 z109 G1) fun x3 G4 =>
 bP (st Q q 109 3 x3 x2 G4) fun G5 =>
 fl q 109 0 0 106 x3 G5 fun x7 =>
 bP (lda Q q 109 3 x3 G5) fun x8 =>
 bS (e.ev.cl 63 [v0,(.int .i64 2),v1,x7,(.func (.func 64) #[x8] #[])] G5) fun x9 G10 =>
 some (.tuple #[],G10)
theorem f23 (h:ExLe Q e (E orc)) (v0 v1 v2:Value) (G:GS):Ref (s23 true e v0 v1 v2 G) ((E orc).cl 23 [v0,v1,v2] G):=cS (S:=fun q e=>s23 q e v0 v1 v2 G) Tryz.func23 (by unfold s23; exact Ref.gq)
def b24_0 (q:Bool) (e:Ex) (lp:LpF) (τ:Env) (G:GS):OL :=
 bV q (τ 3) fun a3_ =>
 bV q (τ 29) fun a29_ =>
 bV q (τ 30) fun a30_ =>
 bV q (τ 31) fun a31_ =>
 bP (bn Q q .lss 3 (.tmp 31) (.tmp 30) a31_ a30_) fun x0 =>
 ifV x0 (
 bP (ias Q q 112 1 a29_ a31_) fun x1 =>
 bP (ld Q q 96 x1 G) fun x2 =>
 bP (ias Q q 22 1 a3_ a31_) fun x3 =>
 bP (st Q q 23 1 x3 x2 G) fun G4 =>
 bP (bn Q q .add 3 (.tmp 31) (.const (.int .i64 1)) a31_ (.int .i64 1)) fun x5 =>
 lp (xq q 42 τ [(31,x5),(40,x5),(39,x3),(38,x2),(37,a31_),(36,a3_),(5,x2),(4,a31_),(35,x2),(34,x1),(33,a31_),(32,x0)] [(3,a3_),(29,a29_),(30,a30_)]) G4) (
 some ((.exit 0),xq q 42 τ [(32,x0)] [(3,a3_),(29,a29_),(30,a30_),(31,a31_)],G))
theorem l24_0 (h:ExLe Q e (E orc)):LT orc 42 (subAt [1,1,1,0,1,0,0] (bodyOf Tryz.f24)) (b24_0 true e):=cL fun hlp τ G=>by unfold b24_0; exact Ref.gq
def s24 (q:Bool) (e:Ex) (v0:Value) (G:GS):OG :=
 bP (ep Q q false 50 (.tmp 6) (.const (.pointer none)) v0 (.pointer none)) fun x0 =>
 bS (gV x0 false v0 G) fun x1 G2 =>
 bS (gP x0 false (pNil x1) G2) fun x3 G4 =>
 bS (gP x0 false (fa Q q 100 0 0 x3) G4) fun x5 G6 =>
 bS (gP x0 false (ld Q q 95 x5 G6) G6) fun x7 G8 =>
 bS (gP x0 false (ep Q q false 95 (.tmp 12) (.const (.pointer none)) x7 (.pointer none)) G8) fun x9 G10 =>
 bP (pickV x0 (.bool true) x9) fun x11 =>
 ifV x11 (
 some ((.slice none 0 0),G10)) (
 bP (pNil v0) fun x12 =>
 bP (fa Q q 100 1 1 x12) fun x13 =>
 bP (ld Q q 3 x13 G10) fun x14 =>
 bS (mk Q q 22 1 8 z23 x14 x14 G10) fun x15 G16 =>
 bP (pNil v0) fun x17 =>
 bP (fa Q q 100 0 0 x17) fun x18 =>
 bP (ld Q q 95 x18 (G16.room 12)) fun x19 =>
 bP (pNil x19) fun x20 =>
 bP (pNil v0) fun x21 =>
 bP (fa Q q 100 1 1 x21) fun x22 =>
 bP (ld Q q 3 x22 (G16.room 12)) fun x23 =>
 bP (sla Q q 98 4096 1 x20 none (some x23) none (G16.room 12)) fun x24 =>
 bP (ln Q q 112 x24) fun x25 =>
 bLq q e 24 0 (subAt [1,1,1,0,1,0,0] (bodyOf Tryz.f24)) 42 (nth undef [v0]) [(31,(.int .i64 0)),(30,x25),(29,x24),(28,x23),(27,x22),(26,x21),(25,v0),(24,x20),(23,x19),(22,x18),(21,x17),(20,v0),(3,x15),(19,x15),(18,x14),(17,x13),(16,x12),(15,v0),(14,x11),(13,x9),(12,x7),(11,x5),(10,x3),(9,x1),(8,x0),(7,x0),(6,v0),(2,(.slice none 0 0))] [] (G16.room 12) fun e26 t27 G28 =>
 bV q (t27 3) fun t27x3_ =>
 ifE e26 (.exit 0) (
 some (t27x3_,G28)) (none))
theorem f24 (h:ExLe Q e (E orc)) (v0:Value) (G:GS):Ref (s24 true e v0 G) ((E orc).cl 24 [v0] G):=cS (S:=fun q e=>s24 q e v0 G) Tryz.func24 (by unfold s24; exact Ref.gq)
def s25 (q:Bool) (e:Ex) (v0 v1 v2:Value) (G:GS):OG :=
 bS (bx q v0 G) fun x0 G1 =>
 bS (bx q v1 G1) fun x2 G3 =>
 bP (fa Q q 49 0 0 x2) fun x4 =>
 bP (ld Q q 3 x4 (G3.room 12)) fun x5 =>
 bP (fa Q q 49 2 2 x2) fun x6 =>
 bP (ld Q q 3 x6 (G3.room 12)) fun x7 =>
 bP (bd Q q 114 z114 [(0,0,1),(1,1,1)] [x5,x7]) fun x8 =>
 bP (lda Q q 49 3 x2 (G3.room 12)) fun x9 =>
 bP (lda Q q 45 13 x0 (G3.room 12)) fun x10 =>
 bS (e.ev.cl 65 [x10,v2] (G3.room 12)) fun x12 G11 =>
 chk ((sameO (lda Q q 49 3 x2 G11) x9 && (sameO (ld Q q 3 x6 G11) x7 && (sameO (ld Q q 3 x4 G11) x5 && true)))) <|
 bP (bd Q q 118 z118 [(0,0,2),(1,2,3),(2,5,1),(5,8,1),(6,9,1),(8,11,1)] [x8,x9,x12,(.int .i64 (-1)),(.int .i64 (-1)),(.bool true)]) fun x13 =>
 bS (bx q x13 (G11.at' (G3.nx + 10))) fun x14 G15 =>
 nf q 118 2 5 x14 fun x17 =>
 bP (ld Q q 115 x17 (G15.back G11)) fun x18 =>
 bS (e.ev.cl 66 [x18] (G15.back G11)) fun x19 G20 =>
 bP (pExtract x19 0) fun x21 =>
 bP (pExtract x19 1) fun x22 =>
 bS (al Q q 120 z120 G20) fun x23 G24 =>
 bP (st Q q 120 2 x23 x21 G24) fun G25 =>
 bP (bn Q q .neq 51 (.tmp 29) (.const (.int .i64 14)) x22 (.int .i64 14)) fun x26 =>
 ifV x26 (
 bS (e.ev.cl 67 [x14,x22] G25) fun x27 G28 =>
 some (x14,G28)) (
 bP (lda Q q 49 3 x2 G25) fun x29 =>
 bS (e.ev.cl 58 [x29] G25) fun x30 G31 =>
 bP (un Q q .not x30) fun x32 =>
 ifV x32 (
 bS (e.ev.cl 67 [x14,(.int .i64 2)] G31) fun x33 G34 =>
 some (x14,G34)) (
 some (x14,G31)))
theorem f25 (h:ExLe Q e (E orc)) (v0 v1 v2:Value) (G:GS):Ref (s25 true e v0 v1 v2 G) ((E orc).cl 25 [v0,v1,v2] G):=cS (S:=fun q e=>s25 q e v0 v1 v2 G) Tryz.func25 (by unfold s25; exact Ref.gq)
def jb26_0 (q:Bool) (e:Ex) (τ:Env) (G:GS):OG :=
 bV q (τ 0) fun a0_ =>
 nl q 118 9 12 4 a0_ G fun x53 =>
 some (x53,G)
def j26_0 (q:Bool) (e:Ex) (τ:Env) (G:GS):OG:=jb26_0 q e τ G
theorem mj26_0 {e:Ex} {E:Ev} (h:ExLe Q e E) (τ:Env) (G:GS):Ref (j26_0 true e τ G) (j26_0 false (Ex.of E) τ G):=by
 unfold j26_0 jb26_0
 exact Ref.gq
theorem mkj26_0 {e:Ex} {E:Ev} (h:ExLe Q e E) {τ:Env} {l U:List (Nat × Value)} {G:GS} (hU:UOk τ U):Ref (j26_0 true e (xq true 111 τ l U) G) (j26_0 false (Ex.of E) (xq false 111 τ l U) G):=by
 rw [xq_eq hU]
 exact mj26_0 h _ _
def sb26 (q:Bool) (e:Ex) (J0:Env → GS → OG) (v0 v1:Value) (G:GS):OG :=
 bP (ep Q q false 59 (.tmp 9) (.const (.pointer none)) v0 (.pointer none)) fun x0 =>
 bS (gV x0 false v0 G) fun x1 G2 =>
 bS (gP x0 false (pNil x1) G2) fun x3 G4 =>
 bS (gP x0 false (fa Q q 118 8 11 x3) G4) fun x5 G6 =>
 bS (gP x0 false (ld Q q 4 x5 G6) G6) fun x7 G8 =>
 bS (gP x0 false (un Q q .not x7) G8) fun x9 G10 =>
 bP (pickV x0 (.bool true) x9) fun x11 =>
 bS (gV x11 false v0 G10) fun x12 G13 =>
 bS (gP x11 false (pNil x12) G13) fun x14 G15 =>
 bS (gP x11 false (fa Q q 118 9 12 x14) G15) fun x16 G17 =>
 bS (gP x11 false (ld Q q 4 x16 G17) G17) fun x18 G19 =>
 bP (pickV x11 (.bool true) x18) fun x20 =>
 ifV x20 (
 some ((.bool true),G19)) (
 bP (pNil v0) fun x21 =>
 bP (fa Q q 118 7 10 x21) fun x22 =>
 bP (st Q q 23 1 x22 (.int .u64 0) G19) fun G23 =>
 bP (pNil v0) fun x24 =>
 bP (fa Q q 118 2 5 x24) fun x25 =>
 bP (ld Q q 115 x25 G23) fun x26 =>
 bP (ep Q q true 115 (.tmp 30) (.const (.pointer none)) x26 (.pointer none)) fun x27 =>
 ifV x27 (
 bS (e.ev.cl 68 [v0,v1] G23) fun x28 G29 =>
 nl q 118 9 12 4 v0 G29 fun x32 =>
 some (x32,G29)) (
 bP (pNil v0) fun x33 =>
 bP (fa Q q 118 0 0 x33) fun x34 =>
 bS (e.ev.cl 69 [x34] G23) fun x35 G36 =>
 bP (pExtract x35 0) fun x37 =>
 bP (pExtract x35 1) fun x38 =>
 ifV x38 (
 bP (pNil v0) fun x39 =>
 bP (fa Q q 118 4 7 x39) fun x40 =>
 bP (ld Q q 22 x40 (G36.room 13)) fun x41 =>
 bS (e.ev.cl 70 [v1,x37] (G36.room 13)) fun x43 G42 =>
 chk ((sameO (ld Q q 22 x40 G42) x41 && true)) <|
 bS (bs Q q 22 1 (rep z23 1) 1 [(0,0,1)] [x43] (G42.at' (G36.nx + 8))) fun x44 G45 =>
 bS (ap Q q 22 22 1 8 x41 x44 (G45.back G42)) fun x47 G46 =>
 bP (pNil v0) fun x48 =>
 bP (fa Q q 118 4 7 x48) fun x49 =>
 bP (st Q q 22 1 x49 x47 G46) fun G50 =>
 bP (pNil v0) fun x54 =>
 bP (fa Q q 118 0 0 x54) fun x55 =>
 bP (fa Q q 114 1 1 x55) fun x56 =>
 bP (ld Q q 3 x56 G50) fun x57 =>
 bP (bn Q q .eql 3 (.tmp 63) (.const (.int .i64 0)) x57 (.int .i64 0)) fun x58 =>
 ifV x58 (
 bP (pNil v0) fun x59 =>
 bP (fa Q q 118 4 7 x59) fun x60 =>
 bP (ld Q q 22 x60 (G50.room 14)) fun x61 =>
 bP (pNil v0) fun x62 =>
 bP (fa Q q 118 3 6 x62) fun x63 =>
 bP (ld Q q 23 x63 (G50.room 14)) fun x64 =>
 bS (e.ev.cl 9 [x61,x64] (G50.room 14)) fun x66 G65 =>
 bP (pExtract x66 0) fun x67 =>
 bP (pExtract x66 1) fun x68 =>
 bP (un Q q .not x68) fun x69 =>
 bP (pNil v0) fun x70 =>
 bP (fa Q q 118 5 8 x70) fun x71 =>
 bP (st Q q 3 1 x71 x67 G65) fun G72 =>
 bP (pNil v0) fun x73 =>
 bP (fa Q q 118 9 12 x73) fun x74 =>
 bP (st Q q 4 1 x74 x69 G72) fun G75 =>
 J0 (xq q 111 (nth undef [v0,v1]) [(85,x74),(84,x73),(83,x71),(82,x70),(81,x69),(80,x68),(79,x67),(78,v0),(77,v0),(8,x68),(7,x67),(76,x68),(75,x67),(65,x66),(74,x66),(73,x64),(72,x63),(71,x62),(70,v0),(69,x61),(68,x60),(67,x59),(66,v0),(64,x58),(63,x57),(62,x56),(61,x55),(60,x54),(59,v0),(58,x49),(57,x48),(56,x47),(55,x44),(54,x43),(53,x37),(52,v1),(51,x41),(50,x40),(49,x39),(48,v0),(47,v0),(46,x38),(6,x38),(5,x37),(45,x38),(44,x37),(39,x35),(43,x35),(42,x34),(41,x33),(40,v0),(31,x27),(30,x26),(29,x25),(28,x24),(27,v0),(26,x22),(25,x21),(24,v0),(23,x20),(22,x18),(21,x16),(20,x14),(19,x12),(18,x11),(17,x11),(16,x9),(15,x7),(14,x5),(13,x3),(12,x1),(11,x0),(10,x0),(9,v0),(4,(.bool false))] []) G75) (
 J0 (xq q 111 (nth undef [v0,v1]) [(64,x58),(63,x57),(62,x56),(61,x55),(60,x54),(59,v0),(58,x49),(57,x48),(56,x47),(55,x44),(54,x43),(53,x37),(52,v1),(51,x41),(50,x40),(49,x39),(48,v0),(47,v0),(46,x38),(6,x38),(5,x37),(45,x38),(44,x37),(39,x35),(43,x35),(42,x34),(41,x33),(40,v0),(31,x27),(30,x26),(29,x25),(28,x24),(27,v0),(26,x22),(25,x21),(24,v0),(23,x20),(22,x18),(21,x16),(20,x14),(19,x12),(18,x11),(17,x11),(16,x9),(15,x7),(14,x5),(13,x3),(12,x1),(11,x0),(10,x0),(9,v0),(4,(.bool false))] []) G50)) (
 nf q 118 1 2 v0 fun x77 =>
 fl q 49 1 1 3 x77 (G36.room 12) fun x79 =>
 nl q 118 5 8 3 v0 (G36.room 12) fun x82 =>
 bP (bn Q q .add 3 (.tmp 95) (.tmp 99) x79 x82) fun x83 =>
 bS (e.ev.cl 23 [v1,x83,(.int .u64 1)] (G36.room 12)) fun x85 G84 =>
 nl q 118 5 8 3 v0 G84 fun x88 =>
 nf q 118 6 9 v0 fun x90 =>
 bP (st Q q 3 1 x90 x88 G84) fun G91 =>
 bS (e.ev.cl 67 [v0,(.int .i64 0)] G91) fun x92 G93 =>
 some ((.bool true),G93))))
def s26 (q:Bool) (e:Ex) (v0 v1:Value) (G:GS):OG:=sb26 q e (j26_0 q e) v0 v1 G
theorem m26 {e:Ex} {E:Ev} (h:ExLe Q e E) (v0 v1:Value) (G:GS):Ref (s26 true e v0 v1 G) (s26 false (Ex.of E) v0 v1 G):=by
 unfold s26 sb26
 have j0:=@mkj26_0 e E h
 exact Ref.gj
def jt26 (J0:Env → GS → OG):JT (Value × GS) :=
 (.n none .e (.n none .e (.n none .e (.n none .e (.n none (.n none .e (.n none .e (.n none (.n none .e (.n (some (fun T G=>J0 (nth undef T) G)) .e .e)) .e))) .e)))))
set_option maxHeartbeats 8000000 in
theorem jr26_0 (orc:FuncId → Bool) (J0:Env → GS → OG) (T:List Value) (G:GS):runC Q (evL Q orc) Tryz.f26.ntmps (jt26 J0) (bodyOf Tryz.f26) (retE Q Tryz.f26.results.toList) [true,true,true,true,false,true,true,false,true] (nth undef T) G = jb26_0 false (Ex.of (E orc))  (nth undef T) G:=by kernel_rfl
set_option maxHeartbeats 8000000 in
theorem jo26 (orc:FuncId → Bool):JOk Q orc Tryz.f26.ntmps (jt26 (j26_0 false (Ex.of (E orc))) ) (bodyOf Tryz.f26) (retE Q Tryz.f26.results.toList) :=
 jOk Q orc (l:=[([true,true,true,true,false,true,true,false,true],(fun T G=>j26_0 false (Ex.of (E orc)) (nth undef T) G))]) (by kernel_rfl) (AllE.c (fun T G=>jr26_0 orc (j26_0 false (Ex.of (E orc))) T G) (AllE.z))
set_option maxHeartbeats 8000000 in
theorem je26 (orc:FuncId → Bool) (J0:Env → GS → OG) (v0 v1:Value) (G:GS):sxC Q (evL Q orc) Tryz.f26.ntmps (jt26 J0) (bodyOf Tryz.f26) (nth undef [v0,v1]) G (retE Q Tryz.f26.results.toList) = sb26 false (Ex.of (E orc)) J0 v0 v1 G:=by kernel_rfl
set_option maxHeartbeats 8000000 in
theorem f26 {orc:FuncId → Bool} {e:Ex} (h:ExLe Q e (E orc)) (v0 v1:Value) (G:GS):Ref (s26 true e v0 v1 G) ((E orc).cl 26 [v0,v1] G) :=
 fun r hr=>cl_sxC Q orc (vs:=[v0,v1]) G (jt26 (j26_0 false (Ex.of (E orc))) ) Tryz.func26 (by kernel_rfl) (by kernel_rfl) (by kernel_rfl) (by kernel_rfl) (by kernel_rfl) (jo26 orc) (je26 orc (j26_0 false (Ex.of (E orc))) v0 v1 G) (m26 h v0 v1 G r hr)
def s27 (q:Bool) (e:Ex) (v0:Value) (G:GS):OG :=
 bP (ep Q q false 59 (.tmp 4) (.const (.pointer none)) v0 (.pointer none)) fun x0 =>
 bS (gV x0 false v0 G) fun x1 G2 =>
 bS (gP x0 false (pNil x1) G2) fun x3 G4 =>
 bS (gP x0 false (fa Q q 118 8 11 x3) G4) fun x5 G6 =>
 bS (gP x0 false (ld Q q 4 x5 G6) G6) fun x7 G8 =>
 bS (gP x0 false (un Q q .not x7) G8) fun x9 G10 =>
 bP (pickV x0 (.bool true) x9) fun x11 =>
 ifV x11 (
 some ((.int .i64 1),G10)) (
 nl q 118 9 12 4 v0 G10 fun x14 =>
 bP (un Q q .not x14) fun x15 =>
 ifV x15 (
 some ((.int .i64 14),G10)) (
 nl q 118 10 13 51 v0 G10 fun x18 =>
 some (x18,G10)))
theorem f27 (h:ExLe Q e (E orc)) (v0:Value) (G:GS):Ref (s27 true e v0 G) ((E orc).cl 27 [v0] G):=cS (S:=fun q e=>s27 q e v0 G) Tryz.func27 (by unfold s27; exact Ref.gq)
def s28 (q:Bool) (e:Ex) (v0:Value) (G:GS):OG :=
 bP (ep Q q false 59 (.tmp 3) (.const (.pointer none)) v0 (.pointer none)) fun x0 =>
 bS (gV x0 false v0 G) fun x1 G2 =>
 bS (gP x0 false (pNil x1) G2) fun x3 G4 =>
 bS (gP x0 false (fa Q q 118 8 11 x3) G4) fun x5 G6 =>
 bS (gP x0 false (ld Q q 4 x5 G6) G6) fun x7 G8 =>
 bS (gP x0 false (un Q q .not x7) G8) fun x9 G10 =>
 bP (pickV x0 (.bool true) x9) fun x11 =>
 ifV x11 (
 some ((.int .i64 (-1)),G10)) (
 nl q 118 6 9 3 v0 G10 fun x14 =>
 some (x14,G10))
theorem f28 (h:ExLe Q e (E orc)) (v0:Value) (G:GS):Ref (s28 true e v0 G) ((E orc).cl 28 [v0] G):=cS (S:=fun q e=>s28 q e v0 G) Tryz.func28 (by unfold s28; exact Ref.gq)
def s29 (q:Bool) (e:Ex) (v0 v1:Value) (G:GS):OG :=
 bS (bx q v0 G) fun x0 G1 =>
 bP (bn Q q .lss 3 (.tmp 5) (.const (.int .i64 1)) v1 (.int .i64 1)) fun x2 =>
 bS (gV x2 false v1 G1) fun x3 G4 =>
 bS (gP x2 false (bn Q q .gtr 3 (.tmp 8) (.const (.int .i64 4096)) x3 (.int .i64 4096)) G4) fun x5 G6 =>
 bP (pickV x2 (.bool true) x5) fun x7 =>
 ifV x7 (
 some ((.int .i64 3),G6)) (
 bP (lda Q q 49 3 x0 G6) fun x8 =>
 bS (e.ev.cl 58 [x8] G6) fun x9 G10 =>
 bP (un Q q .not x9) fun x11 =>
 bS (gP x11 false (fa Q q 49 0 0 x0) G10) fun x12 G13 =>
 bS (gP x11 false (ld Q q 3 x12 G13) G13) fun x14 G15 =>
 bS (gP x11 false (fa Q q 49 1 1 x0) G15) fun x16 G17 =>
 bS (gP x11 false (ld Q q 3 x16 G17) G17) fun x18 G19 =>
 bS (gP x11 false (mn Q q #[3,3] x14 x18) G19) fun x20 G21 =>
 bS (gP x11 false (bn Q q .lss 3 (.tmp 19) (.const (.int .i64 0)) x20 (.int .i64 0)) G21) fun x22 G23 =>
 bP (pickV x11 (.bool true) x22) fun x24 =>
 bS (gP x24 false (fa Q q 49 0 0 x0) G23) fun x25 G26 =>
 bS (gP x24 false (ld Q q 3 x25 G26) G26) fun x27 G28 =>
 bS (gP x24 false (fa Q q 49 1 1 x0) G28) fun x29 G30 =>
 bS (gP x24 false (ld Q q 3 x29 G30) G30) fun x31 G32 =>
 bS (gP x24 false (mx Q q #[3,3] x27 x31) G32) fun x33 G34 =>
 bS (gV x24 false v1 G34) fun x35 G36 =>
 bS (gP x24 false (fa Q q 49 2 2 x0) G36) fun x37 G38 =>
 bS (gP x24 false (ld Q q 3 x37 G38) G38) fun x39 G40 =>
 bS (gP x24 false (bn Q q .sub 3 (.tmp 28) (.tmp 30) x35 x39) G40) fun x41 G42 =>
 bS (gP x24 false (bn Q q .gtr 3 (.tmp 27) (.tmp 31) x33 x41) G42) fun x43 G44 =>
 bP (pickV x24 (.bool true) x43) fun x45 =>
 bS (gP x45 false (fa Q q 49 0 0 x0) G44) fun x46 G47 =>
 bS (gP x45 false (ld Q q 3 x46 G47) G47) fun x48 G49 =>
 bS (gP x45 false (fa Q q 49 1 1 x0) G49) fun x50 G51 =>
 bS (gP x45 false (ld Q q 3 x50 G51) G51) fun x52 G53 =>
 bS (gP x45 false (mx Q q #[3,3] x48 x52) G53) fun x54 G55 =>
 bS (gP x45 false (fa Q q 49 0 0 x0) G55) fun x56 G57 =>
 bS (gP x45 false (ld Q q 3 x56 G57) G57) fun x58 G59 =>
 bS (gP x45 false (fa Q q 49 1 1 x0) G59) fun x60 G61 =>
 bS (gP x45 false (ld Q q 3 x60 G61) G61) fun x62 G63 =>
 bS (gP x45 false (mn Q q #[3,3] x58 x62) G63) fun x64 G65 =>
 bS (gP x45 false (bn Q q .sub 3 (.tmp 39) (.tmp 44) x54 x64) G65) fun x66 G67 =>
 bS (gP x45 false (fa Q q 49 2 2 x0) G67) fun x68 G69 =>
 bS (gP x45 false (ld Q q 3 x68 G69) G69) fun x70 G71 =>
 bS (gP x45 false (bn Q q .lss 3 (.tmp 45) (.tmp 47) x66 x70) G71) fun x72 G73 =>
 bP (pickV x45 (.bool true) x72) fun x74 =>
 ifV x74 (
 some ((.int .i64 2),G73)) (
 some ((.int .i64 0),G73)))
theorem f29 (h:ExLe Q e (E orc)) (v0 v1:Value) (G:GS):Ref (s29 true e v0 v1 G) ((E orc).cl 29 [v0,v1] G):=cS (S:=fun q e=>s29 q e v0 v1 G) Tryz.func29 (by unfold s29; exact Ref.gq)
def s30 (q:Bool) (e:Ex) (v0 v1:Value) (G:GS):OG :=
 bS (bx q v0 G) fun x0 G1 =>
 bP (bn Q q .lss 3 (.tmp 5) (.const (.int .i64 1)) v1 (.int .i64 1)) fun x2 =>
 bS (gV x2 false v1 G1) fun x3 G4 =>
 bS (gP x2 false (bn Q q .gtr 3 (.tmp 8) (.const (.int .i64 4096)) x3 (.int .i64 4096)) G4) fun x5 G6 =>
 bP (pickV x2 (.bool true) x5) fun x7 =>
 ifV x7 (
 some ((.int .i64 3),G6)) (
 fl q 49 2 2 3 x0 G6 fun x9 =>
 bS (e.ev.cl 71 [x9] G6) fun x10 G11 =>
 bP (un Q q .not x10) fun x12 =>
 bS (gP x12 false (fa Q q 49 0 0 x0) G11) fun x13 G14 =>
 bS (gP x12 false (ld Q q 3 x13 G14) G14) fun x15 G16 =>
 bS (gP x12 false (bn Q q .lss 3 (.tmp 17) (.const (.int .i64 0)) x15 (.int .i64 0)) G16) fun x17 G18 =>
 bP (pickV x12 (.bool true) x17) fun x19 =>
 bS (gP x19 false (fa Q q 49 0 0 x0) G18) fun x20 G21 =>
 bS (gP x19 false (ld Q q 3 x20 G21) G21) fun x22 G23 =>
 bS (gV x19 false v1 G23) fun x24 G25 =>
 bS (gP x19 false (fa Q q 49 2 2 x0) G25) fun x26 G27 =>
 bS (gP x19 false (ld Q q 3 x26 G27) G27) fun x28 G29 =>
 bS (gP x19 false (bn Q q .sub 3 (.tmp 23) (.tmp 25) x24 x28) G29) fun x30 G31 =>
 bS (gP x19 false (bn Q q .gtr 3 (.tmp 22) (.tmp 26) x22 x30) G31) fun x32 G33 =>
 bP (pickV x19 (.bool true) x32) fun x34 =>
 bS (gP x34 false (fa Q q 49 1 1 x0) G33) fun x35 G36 =>
 bS (gP x34 false (ld Q q 3 x35 G36) G36) fun x37 G38 =>
 bS (gP x34 false (bn Q q .lss 3 (.tmp 31) (.const (.int .i64 0)) x37 (.int .i64 0)) G38) fun x39 G40 =>
 bP (pickV x34 (.bool true) x39) fun x41 =>
 bS (gP x41 false (fa Q q 49 1 1 x0) G40) fun x42 G43 =>
 bS (gP x41 false (ld Q q 3 x42 G43) G43) fun x44 G45 =>
 bS (gV x41 false v1 G45) fun x46 G47 =>
 bS (gP x41 false (fa Q q 49 2 2 x0) G47) fun x48 G49 =>
 bS (gP x41 false (ld Q q 3 x48 G49) G49) fun x50 G51 =>
 bS (gP x41 false (bn Q q .sub 3 (.tmp 37) (.tmp 39) x46 x50) G51) fun x52 G53 =>
 bS (gP x41 false (bn Q q .gtr 3 (.tmp 36) (.tmp 40) x44 x52) G53) fun x54 G55 =>
 bP (pickV x41 (.bool true) x54) fun x56 =>
 ifV x56 (
 some ((.int .i64 2),G55)) (
 fl q 49 0 0 3 x0 G55 fun x58 =>
 fl q 49 1 1 3 x0 G55 fun x60 =>
 fl q 49 2 2 3 x0 G55 fun x62 =>
 bP (bn Q q .add 3 (.tmp 46) (.tmp 48) x60 x62) fun x63 =>
 bP (bn Q q .lss 3 (.tmp 44) (.tmp 49) x58 x63) fun x64 =>
 bS (gP x64 true (fa Q q 49 1 1 x0) G55) fun x65 G66 =>
 bS (gP x64 true (ld Q q 3 x65 G66) G66) fun x67 G68 =>
 bS (gP x64 true (fa Q q 49 0 0 x0) G68) fun x69 G70 =>
 bS (gP x64 true (ld Q q 3 x69 G70) G70) fun x71 G72 =>
 bS (gP x64 true (fa Q q 49 2 2 x0) G72) fun x73 G74 =>
 bS (gP x64 true (ld Q q 3 x73 G74) G74) fun x75 G76 =>
 bS (gP x64 true (bn Q q .add 3 (.tmp 55) (.tmp 57) x71 x75) G76) fun x77 G78 =>
 bS (gP x64 true (bn Q q .lss 3 (.tmp 53) (.tmp 58) x67 x77) G78) fun x79 G80 =>
 bP (pickV x64 x79 (.bool false)) fun x81 =>
 ifV x81 (
 some ((.int .i64 2),G80)) (
 some ((.int .i64 0),G80))))
theorem f30 (h:ExLe Q e (E orc)) (v0 v1:Value) (G:GS):Ref (s30 true e v0 v1 G) ((E orc).cl 30 [v0,v1] G):=cS (S:=fun q e=>s30 q e v0 v1 G) Tryz.func30 (by unfold s30; exact Ref.gq)
def s31 (q:Bool) (e:Ex) (v0 v1:Value) (G:GS):OG :=
 bS (bx q v0 G) fun x0 G1 =>
 bP (bn Q q .lss 3 (.tmp 6) (.const (.int .i64 1)) v1 (.int .i64 1)) fun x2 =>
 bS (gV x2 false v1 G1) fun x3 G4 =>
 bS (gP x2 false (bn Q q .gtr 3 (.tmp 9) (.const (.int .i64 4096)) x3 (.int .i64 4096)) G4) fun x5 G6 =>
 bP (pickV x2 (.bool true) x5) fun x7 =>
 ifV x7 (
 some ((.int .i64 3),G6)) (
 bP (lda Q q 45 13 x0 (G6.room 22)) fun x8 =>
 bS (e.ev.cl 72 [x8] (G6.room 22)) fun x10 G9 =>
 bP (un Q q .not x10) fun x11 =>
 bS (gP x11 false (fa Q q 45 3 3 x0) G9) fun x12 _ =>
 bS (gP x11 false (lda Q q 43 10 x12 G9) G9) fun x13 _ =>
 bS (gV x11 false v1 G9) fun x14 _ =>
 bS (gS x11 false (e.ev.cl 73 [x13,x14] G9) G9) fun x16 G15 =>
 bS (gP x11 false (bn Q q .neq 51 (.tmp 20) (.const (.int .i64 0)) x16 (.int .i64 0)) G15) fun x17 _ =>
 bP (pickV x11 (.bool true) x17) fun x18 =>
 bS (gP x18 false (fa Q q 45 3 3 x0) G15) fun x19 _ =>
 bS (gP x18 false (lda Q q 43 10 x19 G15) G15) fun x20 _ =>
 bS (gS x18 false (e.ev.cl 75 [x20] G15) G15) fun x22 G21 =>
 bS (gP x18 false (lda Q q 45 13 x0 G21) G21) fun x23 _ =>
 chk (((!(gB x18 false) || (!(gB x18 false) || sameO (lda Q q 45 13 x0 G15) x23)) && true)) <|
 bS (gS x18 false (e.ev.cl 76 [x23] G21) G21) fun x25 G24 =>
 bS (gS x18 false (ap Q q 35 35 1 8 x22 x25 G24) G24) fun x27 G26 =>
 bS (gV x18 false v1 G26) fun x28 _ =>
 bS (gS x18 false (e.ev.cl 74 [x27,x28] G26) G26) fun x30 G29 =>
 bS (gP x18 false (un Q q .not x30) G29) fun x31 _ =>
 bP (pickV x18 (.bool true) x31) fun x32 =>
 ifV x32 (
 some ((.int .i64 2),G29)) (
 some ((.int .i64 0),G29)))
theorem f31 (h:ExLe Q e (E orc)) (v0 v1:Value) (G:GS):Ref (s31 true e v0 v1 G) ((E orc).cl 31 [v0,v1] G):=cS (S:=fun q e=>s31 q e v0 v1 G) Tryz.func31 (by unfold s31; exact Ref.gq)
def b32_0 (q:Bool) (e:Ex) (lp:LpF) (τ:Env) (G:GS):OL :=
 bV q (τ 3) fun a3_ =>
 bV q (τ 10) fun a10_ =>
 bV q (τ 12) fun a12_ =>
 bV q (τ 14) fun a14_ =>
 bP (ln Q q 22 a3_) fun x0 =>
 bP (bn Q q .lss 3 (.tmp 47) (.tmp 49) a14_ x0) fun x1 =>
 ifV x1 (
 bP (ias Q q 22 1 a3_ a14_) fun x2 =>
 bP (ld Q q 23 x2 G) fun x3 =>
 bS (e.ev.cl 23 [a10_,a14_,x3] G) fun x4 G5 =>
 bP (ias Q q 22 1 a3_ a14_) fun x6 =>
 bP (ld Q q 23 x6 G5) fun x7 =>
 bS (e.ev.cl 35 [a12_,a14_,x7] G5) fun x8 G9 =>
 bP (bn Q q .add 3 (.tmp 51) (.const (.int .i64 1)) a14_ (.int .i64 1)) fun x10 =>
 lp (xq q 69 τ [(14,x10),(52,x10),(51,a14_),(66,x8),(65,x7),(64,x6),(63,a14_),(62,a3_),(61,a14_),(60,a12_),(59,x4),(58,x3),(57,x2),(56,a14_),(55,a3_),(54,a14_),(53,a10_),(50,x1),(49,x0),(48,a3_),(47,a14_)] [(3,a3_),(10,a10_),(12,a12_)]) G9) (
 some ((.exit 0),xq q 69 τ [(50,x1),(49,x0),(48,a3_),(47,a14_)] [(3,a3_),(10,a10_),(12,a12_),(14,a14_)],G))
theorem l32_0 (h:ExLe Q e (E orc)):LT orc 69 (subAt [1,1,1,1,1,1,1,1,0,1,0,0] (bodyOf Tryz.f32)) (b32_0 true e):=cL fun hlp τ G=>by unfold b32_0; exact Ref.gq
def s32 (q:Bool) (e:Ex) (v0 v1 v2 v3:Value) (G:GS):OG :=
 bS (bx q v0 G) fun x0 G1 =>
 bS (bx q v1 G1) fun x2 G3 =>
 bS (e.ev.cl 19 [v2] G3) fun x4 G5 =>
 bP (pExtract x4 0) fun x6 =>
 bP (pExtract x4 1) fun x7 =>
 bS (e.ev.cl 77 [v2] G5) fun x8 G9 =>
 bP (pExtract x8 0) fun x10 =>
 bP (pExtract x8 1) fun x11 =>
 bP (bn Q q .neq 51 (.tmp 25) (.const (.int .i64 0)) x7 (.int .i64 0)) fun x12 =>
 bS (gV x12 false x11 G9) fun x13 G14 =>
 bS (gP x12 false (bn Q q .neq 51 (.tmp 28) (.const (.int .i64 0)) x13 (.int .i64 0)) G14) fun x15 G16 =>
 bP (pickV x12 (.bool true) x15) fun x17 =>
 bS (gV x17 false x6 G16) fun x18 G19 =>
 bS (gP x17 false (ep Q q false 50 (.tmp 32) (.const (.pointer none)) x18 (.pointer none)) G19) fun x20 G21 =>
 bP (pickV x17 (.bool true) x20) fun x22 =>
 ifV x22 (
 some (.tuple #[(.pointer none),(.pointer none)],G21)) (
 bP (lda Q q 45 13 x0 G21) fun x23 =>
 bS (e.ev.cl 20 [x23,x6] G21) fun x24 G25 =>
 bP (lda Q q 45 13 x0 G25) fun x26 =>
 bS (e.ev.cl 78 [x26,x10] G25) fun x27 G28 =>
 bP (lda Q q 49 3 x2 G28) fun x29 =>
 bS (e.ev.cl 21 [x29,x6] G28) fun x30 G31 =>
 bP (lda Q q 49 3 x2 G31) fun x32 =>
 bS (e.ev.cl 79 [x32,x10] G31) fun x33 G34 =>
 bLq q e 32 0 (subAt [1,1,1,1,1,1,1,1,0,1,0,0] (bodyOf Tryz.f32)) 69 (nth undef [v0,v1,v2,v3]) [(14,(.int .i64 0)),(46,x33),(45,x10),(44,x32),(43,x30),(42,x6),(41,x29),(40,x27),(39,x10),(38,x26),(37,x24),(36,x6),(35,x23),(34,x22),(33,x20),(32,x18),(31,x17),(30,x17),(29,x15),(28,x13),(27,x12),(26,x12),(25,x7),(13,x11),(12,x10),(24,x11),(23,x10),(20,x8),(22,x8),(21,v2),(11,x7),(10,x6),(19,x7),(18,x6),(15,x4),(17,x4),(16,v2),(9,(.pointer none)),(8,(.pointer none)),(5,x2),(4,x0)] [] G34 fun e35 t36 G37 =>
 bV q (t36 10) fun t36x10_ =>
 bV q (t36 12) fun t36x12_ =>
 ifE e35 (.exit 0) (
 some (.tuple #[t36x10_,t36x12_],G37)) (none))
theorem f32 (h:ExLe Q e (E orc)) (v0 v1 v2 v3:Value) (G:GS):Ref (s32 true e v0 v1 v2 v3 G) ((E orc).cl 32 [v0,v1,v2,v3] G):=cS (S:=fun q e=>s32 q e v0 v1 v2 v3 G) Tryz.func32 (by unfold s32; exact Ref.gq)
def s33 (q:Bool) (e:Ex) (v0 v1 v2:Value) (G:GS):OG :=
 bS (bx q v0 G) fun x0 G1 =>
 bP (lda Q q 49 3 x0 G1) fun x2 =>
 bS (e.ev.cl 47 [x2,v1] G1) fun x3 G4 =>
 bP (lda Q q 49 3 x0 (G4.room 15)) fun x5 =>
 bS (e.ev.cl 80 [x5,v2] (G4.room 15)) fun x7 G6 =>
 bS (e.ev.cl 13 [x3,x7] G6) fun x9 G8 =>
 bS (gP x9 true (lda Q q 49 3 x0 G8) G8) fun x10 _ =>
 bS (gV x9 true v1 G8) fun x11 _ =>
 bS (gS x9 true (e.ev.cl 82 [x10,x11] G8) G8) fun x13 G12 =>
 bS (gP x9 true (lda Q q 49 3 x0 G12) G12) fun x14 _ =>
 chk (((!(gB x9 true) || (!(gB x9 true) || sameO (lda Q q 49 3 x0 G8) x14)) && true)) <|
 bS (gV x9 true v2 G12) fun x15 _ =>
 bS (gS x9 true (e.ev.cl 83 [x14,x15] G12) G12) fun x17 G16 =>
 bS (gS x9 true (e.ev.cl 81 [x13,x17] G16) G16) fun x19 G18 =>
 bP (pickV x9 x19 (.bool false)) fun x20 =>
 bS (e.ev.cl 14 [x3] G18) fun x21 G22 =>
 bS (gP x20 true (lda Q q 49 3 x0 (G22.room 20)) (G22.room 20)) fun x23 _ =>
 bS (gV x20 true v1 (G22.room 20)) fun x24 _ =>
 bS (gS x20 true (e.ev.cl 47 [x23,x24] (G22.room 20)) (G22.room 20)) fun x26 G25 =>
 bS (gP x20 true (lda Q q 49 3 x0 G25) G25) fun x27 _ =>
 chk (((!(gB x20 true) || (!(gB x20 true) || sameO (lda Q q 49 3 x0 (G22.room 20)) x27)) && true)) <|
 bS (gV x20 true v2 G25) fun x28 _ =>
 bS (gS x20 true (e.ev.cl 80 [x27,x28] G25) G25) fun x30 G29 =>
 bS (gS x20 true (e.ev.cl 13 [x26,x30] G29) G29) fun x32 G31 =>
 bP (pickV x20 x32 (.bool false)) fun x33 =>
 bS (gP x33 true (lda Q q 49 3 x0 G31) G31) fun x34 _ =>
 bS (gV x33 true v1 G31) fun x35 _ =>
 bS (gS x33 true (e.ev.cl 82 [x34,x35] G31) G31) fun x37 G36 =>
 bS (gP x33 true (lda Q q 49 3 x0 G36) G36) fun x38 _ =>
 chk (((!(gB x33 true) || (!(gB x33 true) || sameO (lda Q q 49 3 x0 G31) x38)) && true)) <|
 bS (gV x33 true v2 G36) fun x39 _ =>
 bS (gS x33 true (e.ev.cl 83 [x38,x39] G36) G36) fun x41 G40 =>
 bS (gS x33 true (e.ev.cl 81 [x37,x41] G40) G40) fun x43 G42 =>
 bP (pickV x33 x43 (.bool false)) fun x44 =>
 some (x44,G42)
theorem f33 (h:ExLe Q e (E orc)) (v0 v1 v2:Value) (G:GS):Ref (s33 true e v0 v1 v2 G) ((E orc).cl 33 [v0,v1,v2] G):=cS (S:=fun q e=>s33 q e v0 v1 v2 G) Tryz.func33 (by unfold s33; exact Ref.gq)
def jb34_0 (q:Bool) (e:Ex) (τ:Env) (G:GS):OG :=
 bV q (τ 2) fun a2_ =>
 bV q (τ 3) fun a3_ =>
 bV q (τ 4) fun a4_ =>
 bV q (τ 7) fun a7_ =>
 bP (bn Q q .neq 51 (.tmp 19) (.const (.int .i64 0)) a7_ (.int .i64 0)) fun x7 =>
 ifV x7 (
 bP (bd Q q 143 z143 [(2,4,1),(5,7,1),(7,9,1)] [(.int .i64 9),(.int .i64 (-1)),a7_]) fun x8 =>
 bS (bx q x8 G) fun x9 G10 =>
 some (x9,G10)) (
 bP (lda Q q 49 3 a4_ (G.room 7)) fun x11 =>
 bP (lda Q q 45 13 a3_ (G.room 7)) fun x12 =>
 bS (e.ev.cl 85 [x12,a2_] (G.room 7)) fun x14 G13 =>
 chk ((sameO (lda Q q 49 3 a4_ G13) x11 && true)) <|
 bP (bd Q q 143 z143 [(0,0,3),(1,3,1),(2,4,1),(5,7,1)] [x11,x14,(.int .i64 0),(.int .i64 (-1))]) fun x15 =>
 bS (bx q x15 (G13.at' (G.nx + 5))) fun x16 G17 =>
 some (x16,(G17.back G13)))
def j34_0 (q:Bool) (e:Ex) (τ:Env) (G:GS):OG:=jb34_0 q e τ G
theorem mj34_0 {e:Ex} {E:Ev} (h:ExLe Q e E) (τ:Env) (G:GS):Ref (j34_0 true e τ G) (j34_0 false (Ex.of E) τ G):=by
 unfold j34_0 jb34_0
 exact Ref.gq
theorem mkj34_0 {e:Ex} {E:Ev} (h:ExLe Q e E) {τ:Env} {l U:List (Nat × Value)} {G:GS} (hU:UOk τ U):Ref (j34_0 true e (xq true 30 τ l U) G) (j34_0 false (Ex.of E) (xq false 30 τ l U) G):=by
 rw [xq_eq hU]
 exact mj34_0 h _ _
def sb34 (q:Bool) (e:Ex) (J0:Env → GS → OG) (v0 v1 v2:Value) (G:GS):OG :=
 bS (bx q v0 G) fun x0 G1 =>
 bS (bx q v1 G1) fun x2 G3 =>
 bP (lda Q q 45 13 x0 G3) fun x4 =>
 bS (e.ev.cl 84 [x4,v2] G3) fun x5 G6 =>
 bP (bn Q q .eql 51 (.tmp 11) (.const (.int .i64 0)) x5 (.int .i64 0)) fun x18 =>
 bS (gP x18 true (fa Q q 49 2 2 x2) G6) fun x19 G20 =>
 bS (gP x18 true (ld Q q 3 x19 G20) G20) fun x21 G22 =>
 bS (gS x18 true (e.ev.cl 71 [x21] G22) G22) fun x23 G24 =>
 bS (gP x18 true (un Q q .not x23) G24) fun x25 G26 =>
 bP (pickV x18 x25 (.bool false)) fun x27 =>
 ifV x27 (
 J0 (xq q 30 (nth undef [v0,v1,v2]) [(7,(.int .i64 2)),(18,x27),(17,x25),(16,x23),(15,x21),(14,x19),(13,x18),(12,x18),(11,x5),(7,x5),(10,x5),(9,v2),(8,x4),(6,(.pointer none)),(4,x2),(3,x0)] []) G26) (
 J0 (xq q 30 (nth undef [v0,v1,v2]) [(18,x27),(17,x25),(16,x23),(15,x21),(14,x19),(13,x18),(12,x18),(11,x5),(7,x5),(10,x5),(9,v2),(8,x4),(6,(.pointer none)),(4,x2),(3,x0)] []) G26)
def s34 (q:Bool) (e:Ex) (v0 v1 v2:Value) (G:GS):OG:=sb34 q e (j34_0 q e) v0 v1 v2 G
theorem m34 {e:Ex} {E:Ev} (h:ExLe Q e E) (v0 v1 v2:Value) (G:GS):Ref (s34 true e v0 v1 v2 G) (s34 false (Ex.of E) v0 v1 v2 G):=by
 unfold s34 sb34
 have j0:=@mkj34_0 e E h
 exact Ref.gj
def jt34 (J0:Env → GS → OG):JT (Value × GS) :=
 (.n none .e (.n none .e (.n (some (fun T G=>J0 (nth undef T) G)) .e .e)))
theorem jr34_0 (orc:FuncId → Bool) (J0:Env → GS → OG) (T:List Value) (G:GS):runC Q (evL Q orc) Tryz.f34.ntmps (jt34 J0) (bodyOf Tryz.f34) (retE Q Tryz.f34.results.toList) [true,true] (nth undef T) G = jb34_0 false (Ex.of (E orc))  (nth undef T) G:=by kernel_rfl
theorem jo34 (orc:FuncId → Bool):JOk Q orc Tryz.f34.ntmps (jt34 (j34_0 false (Ex.of (E orc))) ) (bodyOf Tryz.f34) (retE Q Tryz.f34.results.toList) :=
 jOk Q orc (l:=[([true,true],(fun T G=>j34_0 false (Ex.of (E orc)) (nth undef T) G))]) (by kernel_rfl) (AllE.c (fun T G=>jr34_0 orc (j34_0 false (Ex.of (E orc))) T G) (AllE.z))
theorem je34 (orc:FuncId → Bool) (J0:Env → GS → OG) (v0 v1 v2:Value) (G:GS):sxC Q (evL Q orc) Tryz.f34.ntmps (jt34 J0) (bodyOf Tryz.f34) (nth undef [v0,v1,v2]) G (retE Q Tryz.f34.results.toList) = sb34 false (Ex.of (E orc)) J0 v0 v1 v2 G:=by kernel_rfl
theorem f34 {orc:FuncId → Bool} {e:Ex} (h:ExLe Q e (E orc)) (v0 v1 v2:Value) (G:GS):Ref (s34 true e v0 v1 v2 G) ((E orc).cl 34 [v0,v1,v2] G) :=
 fun r hr=>cl_sxC Q orc (vs:=[v0,v1,v2]) G (jt34 (j34_0 false (Ex.of (E orc))) ) Tryz.func34 (by kernel_rfl) (by kernel_rfl) (by kernel_rfl) (by kernel_rfl) (by kernel_rfl) (jo34 orc) (je34 orc (j34_0 false (Ex.of (E orc))) v0 v1 v2 G) (m34 h v0 v1 v2 G r hr)
def s35 (q:Bool) (e:Ex) (v0 v1 v2:Value) (G:GS):OG :=
 bS (e.ev.cl 86 [v0,(.int .i64 2),v1,(.bool true),v2] G) fun x0 G1 =>
 some (.tuple #[],G1)
theorem f35 (h:ExLe Q e (E orc)) (v0 v1 v2:Value) (G:GS):Ref (s35 true e v0 v1 v2 G) ((E orc).cl 35 [v0,v1,v2] G):=cS (S:=fun q e=>s35 q e v0 v1 v2 G) Tryz.func35 (by unfold s35; exact Ref.gq)
def jb36_0 (q:Bool) (e:Ex) (τ:Env) (G:GS):OG :=
 bV q (τ 0) fun a0_ =>
 nl q 143 2 4 3 a0_ G fun x5 =>
 bP (bn Q q .eql 3 (.tmp 114) (.const (.int .i64 9)) x5 (.int .i64 9)) fun x6 =>
 some (x6,G)
def j36_0 (q:Bool) (e:Ex) (τ:Env) (G:GS):OG:=jb36_0 q e τ G
theorem mj36_0 {e:Ex} {E:Ev} (h:ExLe Q e E) (τ:Env) (G:GS):Ref (j36_0 true e τ G) (j36_0 false (Ex.of E) τ G):=by
 unfold j36_0 jb36_0
 exact Ref.gq
theorem mkj36_0 {e:Ex} {E:Ev} (h:ExLe Q e E) {τ:Env} {l U:List (Nat × Value)} {G:GS} (hU:UOk τ U):Ref (j36_0 true e (xq true 116 τ l U) G) (j36_0 false (Ex.of E) (xq false 116 τ l U) G):=by
 rw [xq_eq hU]
 exact mj36_0 h _ _
def sb36 (q:Bool) (e:Ex) (J0:Env → GS → OG) (v0 v1:Value) (G:GS):OG :=
 bP (pNil v0) fun x0 =>
 bP (fa Q q 143 6 8 x0) fun x1 =>
 bP (st Q q 23 1 x1 (.int .u64 0) G) fun G2 =>
 bP (pNil v0) fun x7 =>
 bP (fa Q q 143 2 4 x7) fun x8 =>
 bP (ld Q q 3 x8 G2) fun x9 =>
 bP (bn Q q .eql 3 (.tmp 14) (.const (.int .i64 0)) x9 (.int .i64 0)) fun x10 =>
 ifV x10 (
 bP (pNil v0) fun x11 =>
 bP (fa Q q 143 1 3 x11) fun x12 =>
 bP (ld Q q 141 x12 G2) fun x13 =>
 bS (e.ev.cl 87 [x13,v1] G2) fun x14 G15 =>
 bP (pNil v0) fun x16 =>
 bP (fa Q q 143 1 3 x16) fun x17 =>
 bP (ld Q q 141 x17 G15) fun x18 =>
 bP (pNil x18) fun x19 =>
 bP (fa Q q 152 0 0 x19) fun x20 =>
 bS (e.ev.cl 88 [x20] G15) fun x21 G22 =>
 bP (pNil v0) fun x23 =>
 bP (fa Q q 143 6 8 x23) fun x24 =>
 bP (st Q q 23 1 x24 x21 G22) fun G25 =>
 ifV x14 (
 bS (e.ev.cl 89 [v0] G25) fun x26 G27 =>
 J0 (xq q 116 (nth undef [v0,v1]) [(35,x26),(34,v0),(33,x14),(32,x24),(31,x23),(30,x21),(29,x20),(28,x19),(27,x18),(26,x17),(25,x16),(24,v0),(23,v0),(5,x14),(22,x14),(21,v1),(20,x13),(19,x12),(18,x11),(17,v0),(15,x10),(16,x10),(14,x9),(13,x8),(12,x7),(11,v0),(10,x1),(9,x0),(8,v0),(4,(.bool false))] []) G27) (
 J0 (xq q 116 (nth undef [v0,v1]) [(33,x14),(32,x24),(31,x23),(30,x21),(29,x20),(28,x19),(27,x18),(26,x17),(25,x16),(24,v0),(23,v0),(5,x14),(22,x14),(21,v1),(20,x13),(19,x12),(18,x11),(17,v0),(15,x10),(16,x10),(14,x9),(13,x8),(12,x7),(11,v0),(10,x1),(9,x0),(8,v0),(4,(.bool false))] []) G25)) (
 bP (bn Q q .eql 3 (.tmp 14) (.const (.int .i64 1)) x9 (.int .i64 1)) fun x28 =>
 ifV x28 (
 bP (pNil v0) fun x29 =>
 bP (fa Q q 143 4 6 x29) fun x30 =>
 bP (ld Q q 22 x30 (G2.room 23)) fun x31 =>
 bP (pNil v0) fun x32 =>
 bP (fa Q q 143 0 0 x32) fun x33 =>
 bP (fa Q q 49 0 0 x33) fun x34 =>
 bP (ld Q q 3 x34 (G2.room 23)) fun x35 =>
 bP (pNil v0) fun x36 =>
 bP (fa Q q 143 4 6 x36) fun x37 =>
 bP (ld Q q 22 x37 (G2.room 23)) fun x38 =>
 bP (ln Q q 22 x38) fun x39 =>
 bP (bn Q q .add 3 (.tmp 48) (.tmp 53) x35 x39) fun x40 =>
 bS (e.ev.cl 90 [v1,x40] (G2.room 23)) fun x42 G41 =>
 chk ((sameO (ld Q q 22 x30 G41) x31 && true)) <|
 bS (bs Q q 22 1 (rep z23 1) 1 [(0,0,1)] [x42] (G41.at' (G2.nx + 18))) fun x43 G44 =>
 bS (ap Q q 22 22 1 8 x31 x43 (G44.back G41)) fun x46 G45 =>
 bP (pNil v0) fun x47 =>
 bP (fa Q q 143 4 6 x47) fun x48 =>
 bP (st Q q 22 1 x48 x46 G45) fun G49 =>
 bP (pNil v0) fun x50 =>
 bP (fa Q q 143 4 6 x50) fun x51 =>
 bP (ld Q q 22 x51 (G49.room 11)) fun x52 =>
 bP (ln Q q 22 x52) fun x53 =>
 bP (pNil v0) fun x54 =>
 bP (fa Q q 143 0 0 x54) fun x55 =>
 bP (fa Q q 49 2 2 x55) fun x56 =>
 bP (ld Q q 3 x56 (G49.room 11)) fun x57 =>
 bP (bn Q q .eql 3 (.tmp 64) (.tmp 69) x53 x57) fun x58 =>
 ifV x58 (
 bP (pNil v0) fun x59 =>
 bP (fa Q q 143 4 6 x59) fun x60 =>
 bP (ld Q q 22 x60 ((G49.room 11).room 14)) fun x61 =>
 bP (pNil v0) fun x62 =>
 bP (fa Q q 143 3 5 x62) fun x63 =>
 bP (ld Q q 23 x63 ((G49.room 11).room 14)) fun x64 =>
 bS (e.ev.cl 10 [x61,x64] ((G49.room 11).room 14)) fun x66 G65 =>
 bP (pExtract x66 0) fun x67 =>
 bP (pExtract x66 1) fun x68 =>
 bP (pNil v0) fun x69 =>
 bP (fa Q q 143 2 4 x69) fun x70 =>
 bP (st Q q 3 1 x70 (.int .i64 9) G65) fun G71 =>
 ifV x68 (
 bP (pNil v0) fun x72 =>
 bP (fa Q q 143 2 4 x72) fun x73 =>
 bP (st Q q 3 1 x73 (.int .i64 2) G71) fun G74 =>
 bP (pNil v0) fun x75 =>
 bP (fa Q q 143 5 7 x75) fun x76 =>
 bP (st Q q 3 1 x76 x67 G74) fun G77 =>
 J0 (xq q 116 (nth undef [v0,v1]) [(93,x76),(92,x75),(91,x67),(90,v0),(89,x73),(88,x72),(87,v0),(86,x68),(85,x70),(84,x69),(83,v0),(7,x68),(6,x67),(82,x68),(81,x67),(71,x66),(80,x66),(79,x64),(78,x63),(77,x62),(76,v0),(75,x61),(74,x60),(73,x59),(72,v0),(70,x58),(69,x57),(68,x56),(67,x55),(66,x54),(65,v0),(64,x53),(63,x52),(62,x51),(61,x50),(60,v0),(59,x48),(58,x47),(57,x46),(56,x43),(55,x42),(54,x40),(53,x39),(52,x38),(51,x37),(50,x36),(49,v0),(48,x35),(47,x34),(46,x33),(45,x32),(44,v0),(43,v1),(42,x31),(41,x30),(40,x29),(39,v0),(38,v0),(36,x28),(37,x28),(15,x10),(16,x10),(14,x9),(13,x8),(12,x7),(11,v0),(10,x1),(9,x0),(8,v0),(4,(.bool false))] []) G77) (
 J0 (xq q 116 (nth undef [v0,v1]) [(86,x68),(85,x70),(84,x69),(83,v0),(7,x68),(6,x67),(82,x68),(81,x67),(71,x66),(80,x66),(79,x64),(78,x63),(77,x62),(76,v0),(75,x61),(74,x60),(73,x59),(72,v0),(70,x58),(69,x57),(68,x56),(67,x55),(66,x54),(65,v0),(64,x53),(63,x52),(62,x51),(61,x50),(60,v0),(59,x48),(58,x47),(57,x46),(56,x43),(55,x42),(54,x40),(53,x39),(52,x38),(51,x37),(50,x36),(49,v0),(48,x35),(47,x34),(46,x33),(45,x32),(44,v0),(43,v1),(42,x31),(41,x30),(40,x29),(39,v0),(38,v0),(36,x28),(37,x28),(15,x10),(16,x10),(14,x9),(13,x8),(12,x7),(11,v0),(10,x1),(9,x0),(8,v0),(4,(.bool false))] []) G71)) (
 J0 (xq q 116 (nth undef [v0,v1]) [(70,x58),(69,x57),(68,x56),(67,x55),(66,x54),(65,v0),(64,x53),(63,x52),(62,x51),(61,x50),(60,v0),(59,x48),(58,x47),(57,x46),(56,x43),(55,x42),(54,x40),(53,x39),(52,x38),(51,x37),(50,x36),(49,v0),(48,x35),(47,x34),(46,x33),(45,x32),(44,v0),(43,v1),(42,x31),(41,x30),(40,x29),(39,v0),(38,v0),(36,x28),(37,x28),(15,x10),(16,x10),(14,x9),(13,x8),(12,x7),(11,v0),(10,x1),(9,x0),(8,v0),(4,(.bool false))] []) (G49.room 11))) (
 bP (bn Q q .eql 3 (.tmp 14) (.const (.int .i64 2)) x9 (.int .i64 2)) fun x78 =>
 ifV x78 (
 bP (pNil v0) fun x79 =>
 bP (fa Q q 143 0 0 x79) fun x80 =>
 bP (fa Q q 49 1 1 x80) fun x81 =>
 bP (ld Q q 3 x81 (G2.room 12)) fun x82 =>
 bP (pNil v0) fun x83 =>
 bP (fa Q q 143 5 7 x83) fun x84 =>
 bP (ld Q q 3 x84 (G2.room 12)) fun x85 =>
 bP (bn Q q .add 3 (.tmp 101) (.tmp 105) x82 x85) fun x86 =>
 bS (e.ev.cl 35 [v1,x86,(.int .u64 1)] (G2.room 12)) fun x88 G87 =>
 bP (pNil v0) fun x89 =>
 bP (fa Q q 143 2 4 x89) fun x90 =>
 bP (st Q q 3 1 x90 (.int .i64 9) G87) fun G91 =>
 J0 (xq q 116 (nth undef [v0,v1]) [(110,x90),(109,x89),(108,v0),(107,x88),(106,x86),(105,x85),(104,x84),(103,x83),(102,v0),(101,x82),(100,x81),(99,x80),(98,x79),(97,v0),(96,v1),(94,x78),(95,x78),(36,x28),(37,x28),(15,x10),(16,x10),(14,x9),(13,x8),(12,x7),(11,v0),(10,x1),(9,x0),(8,v0),(4,(.bool false))] []) G91) (
 J0 (xq q 116 (nth undef [v0,v1]) [(94,x78),(95,x78),(36,x28),(37,x28),(15,x10),(16,x10),(14,x9),(13,x8),(12,x7),(11,v0),(10,x1),(9,x0),(8,v0),(4,(.bool false))] []) G2)))
def s36 (q:Bool) (e:Ex) (v0 v1:Value) (G:GS):OG:=sb36 q e (j36_0 q e) v0 v1 G
theorem m36 {e:Ex} {E:Ev} (h:ExLe Q e E) (v0 v1:Value) (G:GS):Ref (s36 true e v0 v1 G) (s36 false (Ex.of E) v0 v1 G):=by
 unfold s36 sb36
 have j0:=@mkj36_0 e E h
 exact Ref.gj
def jt36 (J0:Env → GS → OG):JT (Value × GS) :=
 (.n none .e (.n none .e (.n (some (fun T G=>J0 (nth undef T) G)) .e .e)))
set_option maxHeartbeats 8000000 in
theorem jr36_0 (orc:FuncId → Bool) (J0:Env → GS → OG) (T:List Value) (G:GS):runC Q (evL Q orc) Tryz.f36.ntmps (jt36 J0) (bodyOf Tryz.f36) (retE Q Tryz.f36.results.toList) [true,true] (nth undef T) G = jb36_0 false (Ex.of (E orc))  (nth undef T) G:=by kernel_rfl
set_option maxHeartbeats 8000000 in
theorem jo36 (orc:FuncId → Bool):JOk Q orc Tryz.f36.ntmps (jt36 (j36_0 false (Ex.of (E orc))) ) (bodyOf Tryz.f36) (retE Q Tryz.f36.results.toList) :=
 jOk Q orc (l:=[([true,true],(fun T G=>j36_0 false (Ex.of (E orc)) (nth undef T) G))]) (by kernel_rfl) (AllE.c (fun T G=>jr36_0 orc (j36_0 false (Ex.of (E orc))) T G) (AllE.z))
set_option maxHeartbeats 8000000 in
theorem je36 (orc:FuncId → Bool) (J0:Env → GS → OG) (v0 v1:Value) (G:GS):sxC Q (evL Q orc) Tryz.f36.ntmps (jt36 J0) (bodyOf Tryz.f36) (nth undef [v0,v1]) G (retE Q Tryz.f36.results.toList) = sb36 false (Ex.of (E orc)) J0 v0 v1 G:=by kernel_rfl
set_option maxHeartbeats 8000000 in
theorem f36 {orc:FuncId → Bool} {e:Ex} (h:ExLe Q e (E orc)) (v0 v1:Value) (G:GS):Ref (s36 true e v0 v1 G) ((E orc).cl 36 [v0,v1] G) :=
 fun r hr=>cl_sxC Q orc (vs:=[v0,v1]) G (jt36 (j36_0 false (Ex.of (E orc))) ) Tryz.func36 (by kernel_rfl) (by kernel_rfl) (by kernel_rfl) (by kernel_rfl) (by kernel_rfl) (jo36 orc) (je36 orc (j36_0 false (Ex.of (E orc))) v0 v1 G) (m36 h v0 v1 G r hr)
def s37 (q:Bool) (e:Ex) (v0:Value) (G:GS):OG :=
 nl q 143 2 4 3 v0 G fun x2 =>
 bP (bn Q q .neq 3 (.tmp 6) (.const (.int .i64 9)) x2 (.int .i64 9)) fun x3 =>
 ifV x3 (
 some ((.int .i64 14),G)) (
 nl q 143 7 9 51 v0 G fun x6 =>
 some (x6,G))
theorem f37 (h:ExLe Q e (E orc)) (v0:Value) (G:GS):Ref (s37 true e v0 G) ((E orc).cl 37 [v0] G):=cS (S:=fun q e=>s37 q e v0 G) Tryz.func37 (by unfold s37; exact Ref.gq)
def s38 (q:Bool) (e:Ex) (v0:Value) (G:GS):OG :=
 nl q 143 2 4 3 v0 G fun x2 =>
 bP (bn Q q .neq 3 (.tmp 6) (.const (.int .i64 9)) x2 (.int .i64 9)) fun x3 =>
 ifV x3 (
 some ((.int .i64 (-1)),G)) (
 nl q 143 5 7 3 v0 G fun x6 =>
 some (x6,G))
theorem f38 (h:ExLe Q e (E orc)) (v0:Value) (G:GS):Ref (s38 true e v0 G) ((E orc).cl 38 [v0] G):=cS (S:=fun q e=>s38 q e v0 G) Tryz.func38 (by unfold s38; exact Ref.gq)
def s39 (q:Bool) (e:Ex) (v0:Value) (G:GS):OG :=
 bP (ep Q q false 59 (.tmp 3) (.const (.pointer none)) v0 (.pointer none)) fun x0 =>
 ifV x0 (
 some ((.int .u64 0),G)) (
 nl q 118 7 10 23 v0 G fun x3 =>
 some (x3,G))
theorem f39 (h:ExLe Q e (E orc)) (v0:Value) (G:GS):Ref (s39 true e v0 G) ((E orc).cl 39 [v0] G):=cS (S:=fun q e=>s39 q e v0 G) Tryz.func39 (by unfold s39; exact Ref.gq)
def s40 (q:Bool) (e:Ex) (v0:Value) (G:GS):OG :=
 nl q 143 6 8 23 v0 G fun x2 =>
 some (x2,G)
theorem f40 (h:ExLe Q e (E orc)) (v0:Value) (G:GS):Ref (s40 true e v0 G) ((E orc).cl 40 [v0] G):=cS (S:=fun q e=>s40 q e v0 G) Tryz.func40 (by unfold s40; exact Ref.gq)
def s41 (q:Bool) (e:Ex) (v0:Value) (G:GS):OG :=
 bS (al Q q 82 z82 G) fun x0 G1 =>
 bP (ep Q q false 50 (.tmp 3) (.const (.pointer none)) v0 (.pointer none)) fun x2 =>
 ifV x2 (
 bP (bd Q q 82 z82 [] []) fun x3 =>
 bP (st Q q 82 5 x0 x3 G1) fun G4 =>
 bP (lda Q q 82 5 x0 G4) fun x5 =>
 some (x5,G4)) (
 nf q 100 2 2 v0 fun x7 =>
 bP (lda Q q 82 5 x7 G1) fun x8 =>
 bP (st Q q 82 5 x0 x8 G1) fun G9 =>
 bP (lda Q q 82 5 x0 G9) fun x10 =>
 some (x10,G9))
theorem f41 (h:ExLe Q e (E orc)) (v0:Value) (G:GS):Ref (s41 true e v0 G) ((E orc).cl 41 [v0] G):=cS (S:=fun q e=>s41 q e v0 G) Tryz.func41 (by unfold s41; exact Ref.gq)
def s42 (q:Bool) (e:Ex) (v0:Value) (G:GS):OG :=
 bS (al Q q 82 z82 G) fun x0 G1 =>
 nf q 154 1 1 v0 fun x3 =>
 bP (lda Q q 82 5 x3 G1) fun x4 =>
 bP (st Q q 82 5 x0 x4 G1) fun G5 =>
 bP (lda Q q 82 5 x0 G5) fun x6 =>
 some (x6,G5)
theorem f42 (h:ExLe Q e (E orc)) (v0:Value) (G:GS):Ref (s42 true e v0 G) ((E orc).cl 42 [v0] G):=cS (S:=fun q e=>s42 q e v0 G) Tryz.func42 (by unfold s42; exact Ref.gq)
def s43 (q:Bool) (e:Ex) (v0:Value) (G:GS):OG :=
 bP (ep Q q false 50 (.tmp 3) (.const (.pointer none)) v0 (.pointer none)) fun x0 =>
 ifV x0 (
 some ((.int .i64 0),G)) (
 nl q 100 3 7 3 v0 G fun x3 =>
 some (x3,G))
theorem f43 (h:ExLe Q e (E orc)) (v0:Value) (G:GS):Ref (s43 true e v0 G) ((E orc).cl 43 [v0] G):=cS (S:=fun q e=>s43 q e v0 G) Tryz.func43 (by unfold s43; exact Ref.gq)
def s44 (q:Bool) (e:Ex) (v0:Value) (G:GS):OG :=
 nl q 154 2 6 3 v0 G fun x2 =>
 some (x2,G)
theorem f44 (h:ExLe Q e (E orc)) (v0:Value) (G:GS):Ref (s44 true e v0 G) ((E orc).cl 44 [v0] G):=cS (S:=fun q e=>s44 q e v0 G) Tryz.func44 (by unfold s44; exact Ref.gq)
def s45 (q:Bool) (e:Ex) (v0:Value) (G:GS):OG :=
 nl q 154 0 0 22 v0 G fun x2 =>
 bS (e.ev.cl 8 [x2] G) fun x3 G4 =>
 some (x3,G4)
theorem f45 (h:ExLe Q e (E orc)) (v0:Value) (G:GS):Ref (s45 true e v0 G) ((E orc).cl 45 [v0] G):=cS (S:=fun q e=>s45 q e v0 G) Tryz.func45 (by unfold s45; exact Ref.gq)
def s46 (q:Bool) (e:Ex) (G:GS):OG :=
 bS (e.ev.cl 19 [(.int .i64 40)] G) fun x0 G1 =>
 bP (pExtract x0 0) fun x2 =>
 bP (pExtract x0 1) fun x3 =>
 bP (bn Q q .neq 51 (.tmp 7) (.const (.int .i64 0)) x3 (.int .i64 0)) fun x4 =>
 bS (gV x4 false x2 G1) fun x5 G6 =>
 bS (gP x4 false (ep Q q false 50 (.tmp 10) (.const (.pointer none)) x5 (.pointer none)) G6) fun x7 G8 =>
 bP (pickV x4 (.bool true) x7) fun x9 =>
 ifV x9 (
 some ((.pointer none),G8)) (
 bS (e.ev.cl 51 [] G8) fun x10 G11 =>
 bS (e.ev.cl 20 [x10,x2] G11) fun x12 G13 =>
 bS (e.ev.cl 48 [] G13) fun x14 G15 =>
 bS (e.ev.cl 21 [x14,x2] G15) fun x16 G17 =>
 some (x2,G17))
theorem f46 (h:ExLe Q e (E orc)) (ho:orc 46 = false) (G:GS):Ref (s46 true e  G) ((E orc).cl 46 [] G):=cS (S:=fun q e=>s46 q e  G) (ho:=ho) Tryz.func46 (by unfold s46; exact Ref.gq)
def s47 (q:Bool) (e:Ex) (v0 v1:Value) (G:GS):OG :=
 bS (bx q v0 G) fun x0 G1 =>
 bP (lda Q q 49 3 x0 G1) fun x2 =>
 fl q 49 0 0 3 x0 G1 fun x4 =>
 bS (e.ev.cl 91 [x2,x4,v1] G1) fun x5 G6 =>
 some (x5,G6)
theorem f47 (h:ExLe Q e (E orc)) (v0 v1:Value) (G:GS):Ref (s47 true e v0 v1 G) ((E orc).cl 47 [v0,v1] G):=cS (S:=fun q e=>s47 q e v0 v1 G) Tryz.func47 (by unfold s47; exact Ref.gq)
def s48 (q:Bool) (e:Ex) (G:GS):OG :=
 bS (al Q q 49 z49 G) fun x0 G1 =>
 bP (bd Q q 49 z49 [(0,0,1),(1,1,1),(2,2,1)] [(.int .i64 34),(.int .i64 36),(.int .i64 2)]) fun x2 =>
 bP (st Q q 49 3 x0 x2 G1) fun G3 =>
 bP (lda Q q 49 3 x0 G3) fun x4 =>
 some (x4,G3)
theorem f48 (h:ExLe Q e (E orc)) (ho:orc 48 = false) (G:GS):Ref (s48 true e  G) ((E orc).cl 48 [] G):=cS (S:=fun q e=>s48 q e  G) (ho:=ho) Tryz.func48 (by unfold s48; exact Ref.gq)
def jbl49_0_0 (q:Bool) (e:Ex) (lp:LpF) (τ:Env) (G:GS):OL :=
 bV q (τ 2) fun a2_ =>
 bV q (τ 7) fun a7_ =>
 bV q (τ 8) fun a8_ =>
 bV q (τ 9) fun a9_ =>
 bP (ias Q q 138 1 a7_ a9_) fun x2 =>
 bP (ld Q q 4 x2 (G.room 8)) fun x3 =>
 bS (e.ev.cl 92 [a2_,a9_] (G.room 8)) fun x5 G4 =>
 chk ((sameO (ld Q q 4 x2 G4) x3 && true)) <|
 bP (eb Q q true 4 (.tmp 28) (.tmp 31) x3 x5) fun x6 =>
 ifV x6 (
 some (.ret,xq q 44 τ [(6,(.bool false)),(32,x6),(31,x5),(30,a9_),(29,a2_),(28,x3),(27,x2),(26,a9_),(25,a7_)] [(2,a2_),(7,a7_),(8,a8_),(9,a9_)],G4)) (
 bP (bn Q q .add 3 (.tmp 17) (.const (.int .i64 1)) a9_ (.int .i64 1)) fun x7 =>
 lp (xq q 44 τ [(9,x7),(18,x7),(17,a9_),(32,x6),(31,x5),(30,a9_),(29,a2_),(28,x3),(27,x2),(26,a9_),(25,a7_)] [(2,a2_),(7,a7_),(8,a8_)]) G4)
def jl49_0_0 (q:Bool) (e:Ex) (lp:LpF) (τ:Env) (G:GS):OL:=jbl49_0_0 q e lp τ G
theorem mjl49_0_0 {e:Ex} {E:Ev} (h:ExLe Q e E) {lp lp':LpF} (hlp:LpLe lp lp') (τ:Env) (G:GS):Ref (jl49_0_0 true e lp τ G) (jl49_0_0 false (Ex.of E) lp' τ G):=by
 unfold jl49_0_0 jbl49_0_0
 exact Ref.gq
theorem mkjl49_0_0 {e:Ex} {E:Ev} (h:ExLe Q e E) {lp lp':LpF} (hlp:LpLe lp lp') {τ:Env} {l U:List (Nat × Value)} {G:GS} (hU:UOk τ U):Ref (jl49_0_0 true e lp (xq true 44 τ l U) G) (jl49_0_0 false (Ex.of E) lp' (xq false 44 τ l U) G):=by
 rw [xq_eq hU]
 exact mjl49_0_0 h hlp _ _
def bb49_0 (q:Bool) (e:Ex) (lp:LpF) (J0:LpF) (τ:Env) (G:GS):OL :=
 bV q (τ 2) fun a2_ =>
 bV q (τ 7) fun a7_ =>
 bV q (τ 8) fun a8_ =>
 bV q (τ 9) fun a9_ =>
 bP (ln Q q 138 a7_) fun x0 =>
 bP (bn Q q .lss 3 (.tmp 13) (.tmp 15) a9_ x0) fun x1 =>
 ifV x1 (
 bP (ias Q q 138 1 a7_ a9_) fun x8 =>
 bP (ld Q q 4 x8 G) fun x9 =>
 ifV x9 (
 bP (bn Q q .add 3 (.tmp 23) (.const (.int .i64 1)) a8_ (.int .i64 1)) fun x10 =>
 J0 (xq q 44 τ [(8,x10),(24,x10),(23,a8_),(22,x9),(21,x8),(20,a9_),(19,a7_),(16,x1),(15,x0),(14,a7_),(13,a9_)] [(2,a2_),(7,a7_),(9,a9_)]) G) (
 J0 (xq q 44 τ [(22,x9),(21,x8),(20,a9_),(19,a7_),(16,x1),(15,x0),(14,a7_),(13,a9_)] [(2,a2_),(7,a7_),(8,a8_),(9,a9_)]) G)) (
 some ((.exit 0),xq q 44 τ [(16,x1),(15,x0),(14,a7_),(13,a9_)] [(2,a2_),(7,a7_),(8,a8_),(9,a9_)],G))
def b49_0 (q:Bool) (e:Ex) (lp:LpF) (τ:Env) (G:GS):OL:=bb49_0 q e lp (jl49_0_0 q e lp) τ G
theorem mb49_0 {e:Ex} {E:Ev} (h:ExLe Q e E) {lp lp':LpF} (hlp:LpLe lp lp') (τ:Env) (G:GS):Ref (b49_0 true e lp τ G) (b49_0 false (Ex.of E) lp' τ G):=by
 unfold b49_0 bb49_0
 have j0:=@mkjl49_0_0 e E h lp lp' hlp
 exact Ref.gj
def jtl49_0 (J0:LpF):JT (Exit × Env × GS) :=
 (.n none .e (.n none (.n none (.n (some (fun T G=>J0 (nth undef T) G)) .e .e) .e) .e))
theorem jrl49_0_0 (orc:FuncId → Bool) (J0:LpF) (T:List Value) (G:GS):runC Q (evL Q orc) 44 (jtl49_0 J0) (subAt [1,1,1,0,1,0,0] (bodyOf Tryz.f49)) (seqXE (fun τ G'=>mapE ((E orc).lp (subAt [1,1,1,0,1,0,0] (bodyOf Tryz.f49)) (lst 44 (nth undef (lst 44 τ))) G')) fun e τ G'=>some (e,nth undef (lst 44 τ),G')) [true,false,false] (nth undef T) G = jbl49_0_0 false (Ex.of (E orc)) (fun τ G=>mapE ((E orc).lp (subAt [1,1,1,0,1,0,0] (bodyOf Tryz.f49)) (lst 44 τ) G))  (nth undef T) G:=by kernel_rfl
theorem jol49_0 (orc:FuncId → Bool):JOk Q orc 44 (jtl49_0 (jl49_0_0 false (Ex.of (E orc)) (fun τ G=>mapE ((E orc).lp (subAt [1,1,1,0,1,0,0] (bodyOf Tryz.f49)) (lst 44 τ) G))) ) (subAt [1,1,1,0,1,0,0] (bodyOf Tryz.f49)) (seqXE (fun τ G'=>mapE ((E orc).lp (subAt [1,1,1,0,1,0,0] (bodyOf Tryz.f49)) (lst 44 (nth undef (lst 44 τ))) G')) fun e τ G'=>some (e,nth undef (lst 44 τ),G')) :=
 jOk Q orc (l:=[([true,false,false],(fun T G=>jl49_0_0 false (Ex.of (E orc)) (fun τ G=>mapE ((E orc).lp (subAt [1,1,1,0,1,0,0] (bodyOf Tryz.f49)) (lst 44 τ) G)) (nth undef T) G))]) (by kernel_rfl) (AllE.c (fun T G=>jrl49_0_0 orc (jl49_0_0 false (Ex.of (E orc)) (fun τ G=>mapE ((E orc).lp (subAt [1,1,1,0,1,0,0] (bodyOf Tryz.f49)) (lst 44 τ) G))) T G) (AllE.z))
theorem jel49_0 (orc:FuncId → Bool) (J0:LpF) (T:List Value) (G:GS):sxC Q (evL Q orc) 44 (jtl49_0 J0) (subAt [1,1,1,0,1,0,0] (bodyOf Tryz.f49)) (nth undef T) G (seqXE (fun τ G'=>mapE ((E orc).lp (subAt [1,1,1,0,1,0,0] (bodyOf Tryz.f49)) (lst 44 (nth undef (lst 44 τ))) G')) fun e τ G'=>some (e,nth undef (lst 44 τ),G')) = bb49_0 false (Ex.of (E orc)) (fun τ G=>mapE ((E orc).lp (subAt [1,1,1,0,1,0,0] (bodyOf Tryz.f49)) (lst 44 τ) G)) J0 (nth undef T) G:=by kernel_rfl
theorem l49_0 {orc:FuncId → Bool} {e:Ex} (h:ExLe Q e (E orc)) (lp:LpF) (hlp:∀ τ G,Ref (lp τ G) (mapE ((E orc).lp (subAt [1,1,1,0,1,0,0] (bodyOf Tryz.f49)) (lst 44 τ) G))) (T:List Value) (G:GS) (hT:T.length = 44):Ref (b49_0 true e lp (nth undef T) G) (mapE ((E orc).lp (subAt [1,1,1,0,1,0,0] (bodyOf Tryz.f49)) T G)) :=
 fun r hr=>lp_sxC Q orc G (jtl49_0 (jl49_0_0 false (Ex.of (E orc)) (fun τ G=>mapE ((E orc).lp (subAt [1,1,1,0,1,0,0] (bodyOf Tryz.f49)) (lst 44 τ) G))) ) hT (jol49_0 orc) (jel49_0 orc (jl49_0_0 false (Ex.of (E orc)) (fun τ G=>mapE ((E orc).lp (subAt [1,1,1,0,1,0,0] (bodyOf Tryz.f49)) (lst 44 τ) G))) T G) (mb49_0 h ⟨hlp⟩ _ _ r hr)
def s49 (q:Bool) (e:Ex) (v0 v1 v2:Value) (G:GS):OG :=
 bS (bx q v0 G) fun x0 G1 =>
 bP (lda Q q 49 3 x0 G1) fun x2 =>
 bS (e.ev.cl 82 [x2,v1] G1) fun x3 G4 =>
 bLq q e 49 0 (subAt [1,1,1,0,1,0,0] (bodyOf Tryz.f49)) 44 (nth undef [v0,v1,v2]) [(9,(.int .i64 0)),(8,(.int .i64 0)),(7,x3),(12,x3),(11,v1),(10,x2),(6,(.bool false)),(3,x0)] [] G4 fun e5 t6 G7 =>
 bV q (t6 2) fun t6x2_ =>
 bV q (t6 3) fun t6x3_ =>
 bV q (t6 6) fun t6x6_ =>
 bV q (t6 7) fun t6x7_ =>
 bV q (t6 8) fun t6x8_ =>
 ifE e5 (.exit 0) (
 bP (ln Q q 138 t6x7_) fun x8 =>
 fl q 49 2 2 3 t6x3_ G7 fun x10 =>
 bP (bn Q q .eql 3 (.tmp 34) (.tmp 36) x8 x10) fun x11 =>
 bS (gV x11 true t6x8_ G7) fun x12 G13 =>
 bS (gV x11 true t6x2_ G13) fun x14 G15 =>
 bS (gP x11 true (ln Q q 35 x14) G15) fun x16 G17 =>
 bS (gP x11 true (bn Q q .eql 3 (.tmp 39) (.tmp 41) x12 x16) G17) fun x18 G19 =>
 bP (pickV x11 x18 (.bool false)) fun x20 =>
 some (x20,G19)) (ifE e5 .ret (
 some (t6x6_,G7)) (none))
theorem f49 (h:ExLe Q e (E orc)) (v0 v1 v2:Value) (G:GS):Ref (s49 true e v0 v1 v2 G) ((E orc).cl 49 [v0,v1,v2] G):=cS (S:=fun q e=>s49 q e v0 v1 v2 G) Tryz.func49 (by unfold s49; exact Ref.gq)
def b50_0 (q:Bool) (e:Ex) (lp:LpF) (τ:Env) (G:GS):OL :=
 bV q (τ 0) fun a0_ =>
 bV q (τ 2) fun a2_ =>
 bV q (τ 9) fun a9_ =>
 bV q (τ 10) fun a10_ =>
 bP (bn Q q .lss 3 (.tmp 15) (.tmp 16) a10_ a2_) fun x0 =>
 ifV x0 (
 bS (e.ev.cl 26 [a9_,a0_] G) fun x1 G2 =>
 bS (gV x1 false a9_ G2) fun x3 G4 =>
 bS (gS x1 false (e.ev.cl 27 [x3] G4) G4) fun x5 G6 =>
 bS (gP x1 false (bn Q q .neq 51 (.tmp 25) (.const (.int .i64 14)) x5 (.int .i64 14)) G6) fun x7 G8 =>
 bP (pickV x1 (.bool true) x7) fun x9 =>
 bS (gV x9 false a9_ G8) fun x10 G11 =>
 bS (gS x9 false (e.ev.cl 28 [x10] G11) G11) fun x12 G13 =>
 bS (gP x9 false (bn Q q .neq 3 (.tmp 30) (.const (.int .i64 (-1))) x12 (.int .i64 (-1))) G13) fun x14 G15 =>
 bP (pickV x9 (.bool true) x14) fun x16 =>
 ifV x16 (
 some (.ret,xq q 47 τ [(8,(.bool false)),(32,x16),(31,x14),(30,x12),(29,x10),(28,x9),(27,x9),(26,x7),(25,x5),(24,x3),(23,x1),(22,x1),(21,a0_),(20,a9_),(17,x0),(16,a2_),(15,a10_)] [(0,a0_),(2,a2_),(9,a9_),(10,a10_)],G15)) (
 bP (bn Q q .add 3 (.tmp 18) (.const (.int .i64 1)) a10_ (.int .i64 1)) fun x17 =>
 lp (xq q 47 τ [(10,x17),(19,x17),(18,a10_),(32,x16),(31,x14),(30,x12),(29,x10),(28,x9),(27,x9),(26,x7),(25,x5),(24,x3),(23,x1),(22,x1),(21,a0_),(20,a9_),(17,x0),(16,a2_),(15,a10_)] [(0,a0_),(2,a2_),(9,a9_)]) G15)) (
 some ((.exit 0),xq q 47 τ [(17,x0),(16,a2_),(15,a10_)] [(0,a0_),(2,a2_),(9,a9_),(10,a10_)],G))
theorem l50_0 (h:ExLe Q e (E orc)):LT orc 47 (subAt [1,1,0,1,0,0] (bodyOf Tryz.f50)) (b50_0 true e):=cL fun hlp τ G=>by unfold b50_0; exact Ref.gq
def s50 (q:Bool) (e:Ex) (v0 v1 v2 v3:Value) (G:GS):OG :=
 bS (e.ev.cl 51 [] G) fun x0 G1 =>
 bS (e.ev.cl 48 [] G1) fun x2 G3 =>
 bS (e.ev.cl 25 [x0,x2,v1] G3) fun x4 G5 =>
 bLq q e 50 0 (subAt [1,1,0,1,0,0] (bodyOf Tryz.f50)) 47 (nth undef [v0,v1,v2,v3]) [(10,(.int .i64 1)),(9,x4),(14,x4),(13,v1),(12,x2),(11,x0),(8,(.bool false))] [] G5 fun e6 t7 G8 =>
 bV q (t7 0) fun t7x0_ =>
 bV q (t7 3) fun t7x3_ =>
 bV q (t7 8) fun t7x8_ =>
 bV q (t7 9) fun t7x9_ =>
 ifE e6 (.exit 0) (
 bS (e.ev.cl 26 [t7x9_,t7x0_] G8) fun x9 G10 =>
 bS (gV x9 true t7x9_ G10) fun x11 G12 =>
 bS (gS x9 true (e.ev.cl 27 [x11] G12) G12) fun x13 G14 =>
 bS (gP x9 true (bn Q q .eql 51 (.tmp 38) (.const (.int .i64 0)) x13 (.int .i64 0)) G14) fun x15 G16 =>
 bP (pickV x9 x15 (.bool false)) fun x17 =>
 bS (gV x17 true t7x9_ G16) fun x18 G19 =>
 bS (gS x17 true (e.ev.cl 28 [x18] G19) G19) fun x20 G21 =>
 bS (gV x17 true t7x3_ G21) fun x22 G23 =>
 bS (gP x17 true (bn Q q .eql 3 (.tmp 43) (.tmp 44) x20 x22) G23) fun x24 G25 =>
 bP (pickV x17 x24 (.bool false)) fun x26 =>
 some (x26,G25)) (ifE e6 .ret (
 some (t7x8_,G8)) (none))
theorem f50 (h:ExLe Q e (E orc)) (v0 v1 v2 v3:Value) (G:GS):Ref (s50 true e v0 v1 v2 v3 G) ((E orc).cl 50 [v0,v1,v2,v3] G):=cS (S:=fun q e=>s50 q e v0 v1 v2 v3 G) Tryz.func50 (by unfold s50; exact Ref.gq)
def s51 (q:Bool) (e:Ex) (G:GS):OG :=
 bS (al Q q 45 z45 G) fun x0 G1 =>
 bP (bd Q q 37 z37 [(0,0,1),(1,1,1),(2,2,1)] [(.int .i64 0),(.int .i64 1),(.int .i64 3)]) fun x2 =>
 bP (bd Q q 39 z39 [(0,0,3),(1,3,1),(2,4,1),(3,5,1)] [x2,(.int .i64 4),(.int .i64 7),(.int .i64 9)]) fun x3 =>
 bS (al Q q 39 z39 G1) fun x4 G5 =>
 bP (st Q q 39 6 x4 x3 G5) fun G6 =>
 bP (lda Q q 39 6 x4 G6) fun x7 =>
 bP (bd Q q 41 z41 [(0,0,1),(1,1,1),(2,2,1)] [(.int .i64 8),(.int .i64 9),(.int .i64 2)]) fun x8 =>
 bP (bd Q q 43 z43 [(0,0,6),(1,6,3),(2,9,1)] [x7,x8,(.int .i64 11)]) fun x9 =>
 bS (al Q q 43 z43 G6) fun x10 G11 =>
 bP (st Q q 43 10 x10 x9 G11) fun G12 =>
 bP (lda Q q 43 10 x10 G12) fun x13 =>
 bP (bd Q q 45 z45 [(0,0,1),(1,1,1),(2,2,1),(3,3,10)] [(.int .i64 16),(.int .i64 14),(.int .i64 2),x13]) fun x14 =>
 bP (st Q q 45 13 x0 x14 G12) fun G15 =>
 bP (lda Q q 45 13 x0 G15) fun x16 =>
 some (x16,G15)
theorem f51 (h:ExLe Q e (E orc)) (ho:orc 51 = false) (G:GS):Ref (s51 true e  G) ((E orc).cl 51 [] G):=cS (S:=fun q e=>s51 q e  G) (ho:=ho) Tryz.func51 (by unfold s51; exact Ref.gq)
def b52_0 (q:Bool) (e:Ex) (lp:LpF) (τ:Env) (G:GS):OL :=
 bV q (τ 0) fun a0_ =>
 bV q (τ 1) fun a1_ =>
 bV q (τ 5) fun a5_ =>
 bV q (τ 8) fun a8_ =>
 bV q (τ 9) fun a9_ =>
 bV q (τ 10) fun a10_ =>
 bP (bn Q q .lss 3 (.tmp 10) (.tmp 9) a10_ a9_) fun x0 =>
 ifV x0 (
 bP (ias Q q 22 1 a8_ a10_) fun x1 =>
 bP (ld Q q 23 x1 G) fun x2 =>
 bP (bn Q q .lss 3 (.tmp 15) (.const (.int .i64 0)) a5_ (.int .i64 0)) fun x3 =>
 bS (gV x3 false a1_ G) fun x4 G5 =>
 bS (gV x3 false x2 G5) fun x6 G7 =>
 bS (gV x3 false a0_ G7) fun x8 G9 =>
 bS (gV x3 false a5_ G9) fun x10 G11 =>
 bS (gP x3 false (ias Q q 22 1 x8 x10) G11) fun x12 G13 =>
 bS (gP x3 false (ld Q q 23 x12 G13) G13) fun x14 G15 =>
 bS (gS x3 false (cValue e.ev x4 [x6,x14] G15) G15) fun x16 G17 =>
 bS (gP x3 false (bn Q q .gtr 3 (.tmp 24) (.const (.int .i64 0)) x16 (.int .i64 0)) G17) fun x18 G19 =>
 bP (pickV x3 (.bool true) x18) fun x20 =>
 ifV x20 (
 bP (bn Q q .add 3 (.tmp 10) (.const (.int .i64 1)) a10_ (.int .i64 1)) fun x21 =>
 lp (xq q 30 τ [(10,x21),(28,x21),(5,a10_),(27,a10_),(26,x20),(25,x18),(24,x16),(23,x14),(22,x12),(21,x10),(20,x8),(19,x6),(18,x4),(17,x3),(16,x3),(15,a5_),(7,x2),(6,a10_),(14,x2),(13,x1),(12,a10_),(11,x0)] [(0,a0_),(1,a1_),(8,a8_),(9,a9_)]) G19) (
 bP (bn Q q .add 3 (.tmp 10) (.const (.int .i64 1)) a10_ (.int .i64 1)) fun x22 =>
 lp (xq q 30 τ [(10,x22),(28,x22),(26,x20),(25,x18),(24,x16),(23,x14),(22,x12),(21,x10),(20,x8),(19,x6),(18,x4),(17,x3),(16,x3),(15,a5_),(7,x2),(6,a10_),(14,x2),(13,x1),(12,a10_),(11,x0)] [(0,a0_),(1,a1_),(5,a5_),(8,a8_),(9,a9_)]) G19)) (
 some ((.exit 0),xq q 30 τ [(11,x0)] [(0,a0_),(1,a1_),(5,a5_),(8,a8_),(9,a9_),(10,a10_)],G))
theorem l52_0 (h:ExLe Q e (E orc)):LT orc 30 (subAt [1,1,0,1,0,0] (bodyOf Tryz.f52)) (b52_0 true e):=cL fun hlp τ G=>by unfold b52_0; exact Ref.gq
def s52 (q:Bool) (e:Ex) (v0 v1:Value) (G:GS):OG :=
 bP (ln Q q 22 v0) fun x0 =>
 bLq q e 52 0 (subAt [1,1,0,1,0,0] (bodyOf Tryz.f52)) 30 (nth undef [v0,v1]) [(10,(.int .i64 0)),(9,x0),(8,v0),(5,(.int .i64 (-1))),(4,(.int .i64 0))] [] G fun e1 t2 G3 =>
 bV q (t2 5) fun t2x5_ =>
 ifE e1 (.exit 0) (
 some (t2x5_,G3)) (none)
theorem f52 (h:ExLe Q e (E orc)) (v0 v1:Value) (G:GS):Ref (s52 true e v0 v1 G) ((E orc).cl 52 [v0,v1] G):=cS (S:=fun q e=>s52 q e v0 v1 G) Tryz.func52 (by unfold s52; exact Ref.gq)
def s53 (q:Bool) (e:Ex) (v0 v1:Value) (G:GS):OG :=
 bS (e.ev.cl 93 [v0] G) fun x0 G1 =>
 bS (e.ev.cl 93 [v1] G1) fun x2 G3 =>
 ifV x0 (
 ifV x2 (
 some ((.int .i64 0),G3)) (
 some ((.int .i64 (-1)),G3))) (
 ifV x2 (
 some ((.int .i64 1),G3)) (
 bP (bn Q q .lss 23 (.tmp 14) (.tmp 15) v0 v1) fun x4 =>
 ifV x4 (
 some ((.int .i64 (-1)),G3)) (
 bP (bn Q q .gtr 23 (.tmp 17) (.tmp 18) v0 v1) fun x5 =>
 ifV x5 (
 some ((.int .i64 1),G3)) (
 some ((.int .i64 0),G3)))))
theorem f53 (h:ExLe Q e (E orc)) (v0 v1:Value) (G:GS):Ref (s53 true e v0 v1 G) ((E orc).cl 53 [v0,v1] G):=cS (S:=fun q e=>s53 q e v0 v1 G) Tryz.func53 (by unfold s53; exact Ref.gq)
def s56 (q:Bool) (e:Ex) (v0:Value) (G:GS):OG :=
 bS (bx q v0 G) fun x0 G1 =>
 bP (fa Q q 45 3 3 x0) fun x2 =>
 bP (fa Q q 43 0 0 x2) fun x3 =>
 bP (fa Q q 39 0 0 x3) fun x4 =>
 fl q 37 2 2 3 x4 G1 fun x6 =>
 fl q 45 2 2 3 x0 G1 fun x8 =>
 bP (bn Q q .geq 3 (.tmp 10) (.const (.int .i64 1)) x8 (.int .i64 1)) fun x9 =>
 bS (gP x9 true (fa Q q 45 2 2 x0) G1) fun x10 G11 =>
 bS (gP x9 true (ld Q q 3 x10 G11) G11) fun x12 G13 =>
 bS (gP x9 true (bn Q q .leq 3 (.tmp 14) (.const (.int .i64 4)) x12 (.int .i64 4)) G13) fun x14 G15 =>
 bP (pickV x9 x14 (.bool false)) fun x16 =>
 bS (gV x16 true x6 G15) fun x17 G18 =>
 bS (gP x16 true (bn Q q .geq 3 (.tmp 18) (.const (.int .i64 1)) x17 (.int .i64 1)) G18) fun x19 G20 =>
 bP (pickV x16 x19 (.bool false)) fun x21 =>
 bS (gV x21 true x6 G20) fun x22 G23 =>
 bS (gP x21 true (bn Q q .leq 3 (.tmp 22) (.const (.int .i64 128)) x22 (.int .i64 128)) G23) fun x24 G25 =>
 bP (pickV x21 x24 (.bool false)) fun x26 =>
 bS (gP x26 true (fa Q q 45 0 0 x0) G25) fun x27 G28 =>
 bS (gP x26 true (ld Q q 3 x27 G28) G28) fun x29 G30 =>
 bS (gP x26 true (bn Q q .geq 3 (.tmp 27) (.const (.int .i64 0)) x29 (.int .i64 0)) G30) fun x31 G32 =>
 bP (pickV x26 x31 (.bool false)) fun x33 =>
 bS (gP x33 true (fa Q q 45 0 0 x0) G32) fun x34 G35 =>
 bS (gP x33 true (ld Q q 3 x34 G35) G35) fun x36 G37 =>
 bS (gP x33 true (bn Q q .lss 3 (.tmp 32) (.const (.int .i64 4096)) x36 (.int .i64 4096)) G37) fun x38 G39 =>
 bP (pickV x33 x38 (.bool false)) fun x40 =>
 bS (gP x40 true (fa Q q 45 1 1 x0) G39) fun x41 G42 =>
 bS (gP x40 true (ld Q q 3 x41 G42) G42) fun x43 G44 =>
 bS (gP x40 true (bn Q q .geq 3 (.tmp 37) (.const (.int .i64 0)) x43 (.int .i64 0)) G44) fun x45 G46 =>
 bP (pickV x40 x45 (.bool false)) fun x47 =>
 bS (gP x47 true (fa Q q 45 1 1 x0) G46) fun x48 G49 =>
 bS (gP x47 true (ld Q q 3 x48 G49) G49) fun x50 G51 =>
 bS (gP x47 true (bn Q q .lss 3 (.tmp 42) (.const (.int .i64 4096)) x50 (.int .i64 4096)) G51) fun x52 G53 =>
 bP (pickV x47 x52 (.bool false)) fun x54 =>
 some (x54,G53)
theorem f56 (h:ExLe Q e (E orc)) (v0:Value) (G:GS):Ref (s56 true e v0 G) ((E orc).cl 56 [v0] G):=cS (S:=fun q e=>s56 q e v0 G) Tryz.func56 (by unfold s56; exact Ref.gq)
def b57_0 (q:Bool) (e:Ex) (lp:LpF) (τ:Env) (G:GS):OL :=
 bV q (τ 1) fun a1_ =>
 bV q (τ 2) fun a2_ =>
 bV q (τ 13) fun a13_ =>
 bP (bn Q q .lss 3 (.tmp 13) (.const (.int .i64 3)) a13_ (.int .i64 3)) fun x0 =>
 ifV x0 (
 bP (lda Q q 43 10 a2_ G) fun x1 =>
 bS (e.ev.cl 98 [a13_,x1] G) fun x2 G3 =>
 bP (fd Q q 37 0 0 x2) fun x4 =>
 bS (e.ev.cl 23 [a1_,x4,(.int .u64 0)] G3) fun x5 G6 =>
 bP (bn Q q .add 3 (.tmp 13) (.const (.int .i64 1)) a13_ (.int .i64 1)) fun x7 =>
 lp (xq q 23 τ [(13,x7),(22,x7),(21,x5),(20,x4),(19,x2),(18,x1),(17,a13_),(16,a1_),(4,a13_),(15,a13_),(14,x0)] [(1,a1_),(2,a2_)]) G6) (
 some ((.exit 0),xq q 23 τ [(14,x0)] [(1,a1_),(2,a2_),(13,a13_)],G))
theorem l57_0 (h:ExLe Q e (E orc)):LT orc 23 (subAt [1,1,1,1,0,0] (bodyOf Tryz.f57)) (b57_0 true e):=cL fun hlp τ G=>by unfold b57_0; exact Ref.gq
def s57 (q:Bool) (e:Ex) (v0 v1:Value) (G:GS):OG :=
 bS (bx q v0 G) fun x0 G1 =>
 bP (fa Q q 43 0 0 x0) fun x2 =>
 bP (lda Q q 39 6 x2 G1) fun x3 =>
 bS (e.ev.cl 96 [x3,v1] G1) fun x4 G5 =>
 bP (fa Q q 43 1 6 x0) fun x6 =>
 bP (lda Q q 41 3 x6 G5) fun x7 =>
 bS (e.ev.cl 97 [x7,v1] G5) fun x8 G9 =>
 bLq q e 57 0 (subAt [1,1,1,1,0,0] (bodyOf Tryz.f57)) 23 (nth undef [v0,v1]) [(13,(.int .i64 0)),(12,x8),(11,v1),(10,x7),(9,x6),(8,x4),(7,v1),(6,x3),(5,x2),(2,x0)] [] G9 fun e10 t11 G12 =>
 ifE e10 (.exit 0) (
 some (.tuple #[],G12)) (none)
theorem f57 (h:ExLe Q e (E orc)) (v0 v1:Value) (G:GS):Ref (s57 true e v0 v1 G) ((E orc).cl 57 [v0,v1] G):=cS (S:=fun q e=>s57 q e v0 v1 G) Tryz.func57 (by unfold s57; exact Ref.gq)
def s58 (q:Bool) (e:Ex) (v0:Value) (G:GS):OG :=
 bS (bx q v0 G) fun x0 G1 =>
 fl q 49 2 2 3 x0 G1 fun x3 =>
 bP (bn Q q .geq 3 (.tmp 4) (.const (.int .i64 1)) x3 (.int .i64 1)) fun x4 =>
 bS (gP x4 true (fa Q q 49 2 2 x0) G1) fun x5 G6 =>
 bS (gP x4 true (ld Q q 3 x5 G6) G6) fun x7 G8 =>
 bS (gP x4 true (bn Q q .leq 3 (.tmp 8) (.const (.int .i64 64)) x7 (.int .i64 64)) G8) fun x9 G10 =>
 bP (pickV x4 x9 (.bool false)) fun x11 =>
 some (x11,G10)
theorem f58 (h:ExLe Q e (E orc)) (v0:Value) (G:GS):Ref (s58 true e v0 G) ((E orc).cl 58 [v0] G):=cS (S:=fun q e=>s58 q e v0 G) Tryz.func58 (by unfold s58; exact Ref.gq)
def s62 (q:Bool) (e:Ex) (v0 v1:Value) (G:GS):OG :=
 bP (ep Q q false 50 (.tmp 5) (.const (.pointer none)) v0 (.pointer none)) fun x0 =>
 bS (gV x0 false v0 G) fun x1 G2 =>
 bS (gP x0 false (pNil x1) G2) fun x3 G4 =>
 bS (gP x0 false (fa Q q 100 0 0 x3) G4) fun x5 G6 =>
 bS (gP x0 false (ld Q q 95 x5 G6) G6) fun x7 G8 =>
 bS (gP x0 false (ep Q q false 95 (.tmp 11) (.const (.pointer none)) x7 (.pointer none)) G8) fun x9 G10 =>
 bP (pickV x0 (.bool true) x9) fun x11 =>
 bS (gV x11 false v1 G10) fun x12 G13 =>
 bS (gP x11 false (bn Q q .lss 3 (.tmp 15) (.const (.int .i64 0)) x12 (.int .i64 0)) G13) fun x14 G15 =>
 bP (pickV x11 (.bool true) x14) fun x16 =>
 bS (gV x16 false v1 G15) fun x17 G18 =>
 bS (gV x16 false v0 G18) fun x19 G20 =>
 bS (gP x16 false (pNil x19) G20) fun x21 G22 =>
 bS (gP x16 false (fa Q q 100 1 1 x21) G22) fun x23 G24 =>
 bS (gP x16 false (ld Q q 3 x23 G24) G24) fun x25 G26 =>
 bS (gP x16 false (bn Q q .geq 3 (.tmp 19) (.tmp 23) x17 x25) G26) fun x27 G28 =>
 bP (pickV x16 (.bool true) x27) fun x29 =>
 ifV x29 (
 some ((.pointer none),G28)) (
 nl q 100 0 0 95 v0 G28 fun x32 =>
 bP (pNil x32) fun x33 =>
 bP (iaa Q q 98 4096 1 x33 v1) fun x34 =>
 some (x34,G28))
theorem f62 (h:ExLe Q e (E orc)) (v0 v1:Value) (G:GS):Ref (s62 true e v0 v1 G) ((E orc).cl 62 [v0,v1] G):=cS (S:=fun q e=>s62 q e v0 v1 G) Tryz.func62 (by unfold s62; exact Ref.gq)
def jb63_0 (q:Bool) (e:Ex) (τ:Env) (G:GS):OG :=
 bV q (τ 0) fun a0_ =>
 bV q (τ 10) fun a10_ =>
 nf q 100 2 2 a0_ fun x29 =>
 bP (lda Q q 82 5 x29 G) fun x30 =>
 bP (st Q q 82 5 a10_ x30 G) fun G31 =>
 bP (lda Q q 82 5 a10_ G31) fun x32 =>
 some (x32,G31)
def j63_0 (q:Bool) (e:Ex) (τ:Env) (G:GS):OG:=jb63_0 q e τ G
theorem mj63_0 {e:Ex} {E:Ev} (h:ExLe Q e E) (τ:Env) (G:GS):Ref (j63_0 true e τ G) (j63_0 false (Ex.of E) τ G):=by
 unfold j63_0 jb63_0
 exact Ref.gq
theorem mkj63_0 {e:Ex} {E:Ev} (h:ExLe Q e E) {τ:Env} {l U:List (Nat × Value)} {G:GS} (hU:UOk τ U):Ref (j63_0 true e (xq true 67 τ l U) G) (j63_0 false (Ex.of E) (xq false 67 τ l U) G):=by
 rw [xq_eq hU]
 exact mj63_0 h _ _
def sb63 (q:Bool) (e:Ex) (J0:Env → GS → OG) (v0 v1 v2 v3 v4:Value) (G:GS):OG :=
 bS (al Q q 82 z82 G) fun x0 G1 =>
 bP (ep Q q false 50 (.tmp 13) (.const (.pointer none)) v0 (.pointer none)) fun x2 =>
 bS (gV x2 false v0 G1) fun x3 G4 =>
 bS (gP x2 false (pNil x3) G4) fun x5 G6 =>
 bS (gP x2 false (fa Q q 100 0 0 x5) G6) fun x7 G8 =>
 bS (gP x2 false (ld Q q 95 x7 G8) G8) fun x9 G10 =>
 bS (gP x2 false (ep Q q false 95 (.tmp 19) (.const (.pointer none)) x9 (.pointer none)) G10) fun x11 G12 =>
 bP (pickV x2 (.bool true) x11) fun x13 =>
 ifV x13 (
 bP (bd Q q 82 z82 [] []) fun x14 =>
 bP (st Q q 82 5 x0 x14 G12) fun G15 =>
 bP (lda Q q 82 5 x0 G15) fun x16 =>
 some (x16,G15)) (
 bP (pNil v0) fun x17 =>
 bP (fa Q q 100 3 7 x17) fun x18 =>
 bP (ld Q q 3 x18 G12) fun x19 =>
 bP (bn Q q .add 3 (.tmp 26) (.const (.int .i64 1)) x19 (.int .i64 1)) fun x20 =>
 bP (pNil v0) fun x21 =>
 bP (fa Q q 100 3 7 x21) fun x22 =>
 bP (st Q q 3 1 x22 x20 G12) fun G23 =>
 bP (bd Q q 82 z82 [(0,0,1),(1,1,1)] [v1,v2]) fun x24 =>
 bP (pNil v0) fun x25 =>
 bP (fa Q q 100 2 2 x25) fun x26 =>
 bP (st Q q 82 5 x26 x24 G23) fun G27 =>
 bS (e.ev.cl 104 [v3] G27) fun x33 G34 =>
 ifV x33 (
 bS (cValue e.ev v4 [] G34) fun x35 G36 =>
 bP (pExtract x35 0) fun x37 =>
 bP (pExtract x35 1) fun x38 =>
 bP (pNil v3) fun x39 =>
 bP (ld Q q 96 x39 G36) fun x40 =>
 bP (pNil v0) fun x41 =>
 bP (fa Q q 100 2 2 x41) fun x42 =>
 bP (fa Q q 82 2 2 x42) fun x43 =>
 bP (st Q q 23 1 x43 x40 G36) fun G44 =>
 bP (pNil v0) fun x45 =>
 bP (fa Q q 100 2 2 x45) fun x46 =>
 bP (fa Q q 82 3 3 x46) fun x47 =>
 bP (st Q q 23 1 x47 x37 G44) fun G48 =>
 bP (pNil v0) fun x49 =>
 bP (fa Q q 100 2 2 x49) fun x50 =>
 bP (fa Q q 82 4 4 x50) fun x51 =>
 bP (st Q q 4 1 x51 x38 G48) fun G52 =>
 bP (pNil v3) fun x53 =>
 bP (st Q q 96 1 x53 x37 G52) fun G54 =>
 J0 (xq q 67 (nth undef [v0,v1,v2,v3,v4]) [(62,x53),(61,x37),(60,v3),(59,x51),(58,x50),(57,x49),(56,x47),(55,x46),(54,x45),(53,x43),(52,x42),(51,x41),(50,x38),(49,x37),(48,x40),(47,x39),(46,v3),(45,v0),(44,v0),(43,v0),(12,x38),(11,x37),(42,x38),(41,x37),(38,x35),(40,x35),(39,v4),(37,x33),(36,v3),(35,x26),(34,x25),(33,x24),(32,v2),(31,v1),(30,v0),(29,x22),(28,x21),(27,x20),(26,x19),(25,x18),(24,x17),(23,v0),(21,x13),(20,x11),(19,x9),(18,x7),(17,x5),(16,x3),(15,x2),(14,x2),(13,v0),(10,x0)] []) G54) (
 J0 (xq q 67 (nth undef [v0,v1,v2,v3,v4]) [(37,x33),(36,v3),(35,x26),(34,x25),(33,x24),(32,v2),(31,v1),(30,v0),(29,x22),(28,x21),(27,x20),(26,x19),(25,x18),(24,x17),(23,v0),(21,x13),(20,x11),(19,x9),(18,x7),(17,x5),(16,x3),(15,x2),(14,x2),(13,v0),(10,x0)] []) G34))
def s63 (q:Bool) (e:Ex) (v0 v1 v2 v3 v4:Value) (G:GS):OG:=sb63 q e (j63_0 q e) v0 v1 v2 v3 v4 G
theorem m63 {e:Ex} {E:Ev} (h:ExLe Q e E) (v0 v1 v2 v3 v4:Value) (G:GS):Ref (s63 true e v0 v1 v2 v3 v4 G) (s63 false (Ex.of E) v0 v1 v2 v3 v4 G):=by
 unfold s63 sb63
 have j0:=@mkj63_0 e E h
 exact Ref.gj
def jt63 (J0:Env → GS → OG):JT (Value × GS) :=
 (.n none .e (.n none .e (.n none .e (.n none .e (.n (some (fun T G=>J0 (nth undef T) G)) .e .e)))))
theorem jr63_0 (orc:FuncId → Bool) (J0:Env → GS → OG) (T:List Value) (G:GS):runC Q (evL Q orc) Tryz.f63.ntmps (jt63 J0) (bodyOf Tryz.f63) (retE Q Tryz.f63.results.toList) [true,true,true,true] (nth undef T) G = jb63_0 false (Ex.of (E orc))  (nth undef T) G:=by kernel_rfl
theorem jo63 (orc:FuncId → Bool):JOk Q orc Tryz.f63.ntmps (jt63 (j63_0 false (Ex.of (E orc))) ) (bodyOf Tryz.f63) (retE Q Tryz.f63.results.toList) :=
 jOk Q orc (l:=[([true,true,true,true],(fun T G=>j63_0 false (Ex.of (E orc)) (nth undef T) G))]) (by kernel_rfl) (AllE.c (fun T G=>jr63_0 orc (j63_0 false (Ex.of (E orc))) T G) (AllE.z))
theorem je63 (orc:FuncId → Bool) (J0:Env → GS → OG) (v0 v1 v2 v3 v4:Value) (G:GS):sxC Q (evL Q orc) Tryz.f63.ntmps (jt63 J0) (bodyOf Tryz.f63) (nth undef [v0,v1,v2,v3,v4]) G (retE Q Tryz.f63.results.toList) = sb63 false (Ex.of (E orc)) J0 v0 v1 v2 v3 v4 G:=by kernel_rfl
theorem f63 {orc:FuncId → Bool} {e:Ex} (h:ExLe Q e (E orc)) (v0 v1 v2 v3 v4:Value) (G:GS):Ref (s63 true e v0 v1 v2 v3 v4 G) ((E orc).cl 63 [v0,v1,v2,v3,v4] G) :=
 fun r hr=>cl_sxC Q orc (vs:=[v0,v1,v2,v3,v4]) G (jt63 (j63_0 false (Ex.of (E orc))) ) Tryz.func63 (by kernel_rfl) (by kernel_rfl) (by kernel_rfl) (by kernel_rfl) (by kernel_rfl) (jo63 orc) (je63 orc (j63_0 false (Ex.of (E orc))) v0 v1 v2 v3 v4 G) (m63 h v0 v1 v2 v3 v4 G r hr)
def s64 (q:Bool) (e:Ex) (v0:Value) (G:GS):OG :=
 bS (bx q v0 G) fun x0 G1 =>
 fl q 109 1 1 23 x0 G1 fun x3 =>
 some (.tuple #[x3,(.bool true)],G1)
theorem f64 (h:ExLe Q e (E orc)) (v0:Value) (G:GS):Ref (s64 true e v0 G) ((E orc).cl 64 [v0] G):=cS (S:=fun q e=>s64 q e v0 G) Tryz.func64 (by unfold s64; exact Ref.gq)
def s65 (q:Bool) (e:Ex) (v0 v1:Value) (G:GS):OG :=
 bS (bx q v0 G) fun x0 G1 =>
 bP (lda Q q 45 13 x0 G1) fun x2 =>
 bS (e.ev.cl 99 [x2,v1] G1) fun x3 G4 =>
 bP (bd Q q 177 z177 [(0,0,19)] [x3]) fun x5 =>
 bS (bx q x5 G4) fun x6 G7 =>
 bS (al Q q 115 z115 G7) fun x8 G9 =>
 bP (st Q q 115 1 x8 x6 G9) fun G10 =>
 bP (ld Q q 115 x8 G10) fun x11 =>
 nf q 177 0 0 x11 fun x13 =>
 fl q 166 6 18 51 x13 G10 fun x15 =>
 bP (bn Q q .eql 51 (.tmp 15) (.const (.int .i64 0)) x15 (.int .i64 0)) fun x16 =>
 ifV x16 (
 bP (ld Q q 115 x8 (G10.room 19)) fun x17 =>
 bP (ld Q q 115 x8 (G10.room 19)) fun x18 =>
 nf q 177 0 0 x18 fun x20 =>
 bS (e.ev.cl 100 [x20] (G10.room 19)) fun x22 G21 =>
 chk ((sameO (ld Q q 115 x8 G21) x17 && true)) <|
 bP (bd Q q 185 z185 [(0,0,1),(1,1,1),(2,2,1)] [(.func (.func 105) #[] #[x0]),(.func (.func 107) #[] #[]),(.func (.func 108) #[] #[x8])]) fun x23 =>
 bS (bx q x23 (G21.at' (G10.nx + 8))) fun x24 G25 =>
 bP (ifc Q q 178 x24) fun x26 =>
 bP (ld Q q 115 x8 (G25.back G21)) fun x27 =>
 chk ((sameO (ld Q q 115 x8 (G10.room 19)) x27 && true)) <|
 nf q 177 0 0 x27 fun x29 =>
 bS (e.ev.cl 110 [x29] (G25.back G21)) fun x31 G30 =>
 chk ((sameO (ld Q q 115 x8 G30) x17 && true)) <|
 bS (bs Q q 164 3 (rep z171 3) 1 [(0,0,1),(1,1,1),(2,2,1)] [x22,x26,x31] (G30.at' (G10.nx + 14))) fun x32 G33 =>
 nf q 177 0 0 x17 fun x35 =>
 bP (fa Q q 166 4 16 x35) fun x36 =>
 bP (st Q q 164 1 x36 x32 (G33.back G30)) fun G37 =>
 bP (ld Q q 115 x8 G37) fun x38 =>
 some (x38,G37)) (
 bP (ld Q q 115 x8 G10) fun x39 =>
 some (x39,G10))
theorem f65 (h:ExLe Q e (E orc)) (v0 v1:Value) (G:GS):Ref (s65 true e v0 v1 G) ((E orc).cl 65 [v0,v1] G):=cS (S:=fun q e=>s65 q e v0 v1 G) Tryz.func65 (by unfold s65; exact Ref.gq)
def s66 (q:Bool) (e:Ex) (v0:Value) (G:GS):OG :=
 bS (al Q q 120 z120 G) fun x0 G1 =>
 bP (ep Q q false 115 (.tmp 4) (.const (.pointer none)) v0 (.pointer none)) fun x2 =>
 ifV x2 (
 bP (bd Q q 120 z120 [] []) fun x3 =>
 bP (st Q q 120 2 x0 x3 G1) fun G4 =>
 bP (lda Q q 120 2 x0 G4) fun x5 =>
 some (.tuple #[x5,(.int .i64 1)],G4)) (
 nf q 177 1 19 v0 fun x7 =>
 bP (lda Q q 175 3 x7 (G1.room 12)) fun x8 =>
 nf q 177 0 0 v0 fun x10 =>
 bS (e.ev.cl 111 [x8,x10] (G1.room 12)) fun x12 G11 =>
 bP (pExtract x12 0) fun x13 =>
 bP (pExtract x12 1) fun x14 =>
 bP (st Q q 120 2 x0 x13 G11) fun G15 =>
 bP (lda Q q 120 2 x0 G15) fun x16 =>
 some (.tuple #[x16,x14],G15))
theorem f66 (h:ExLe Q e (E orc)) (v0:Value) (G:GS):Ref (s66 true e v0 G) ((E orc).cl 66 [v0] G):=cS (S:=fun q e=>s66 q e v0 G) Tryz.func66 (by unfold s66; exact Ref.gq)
def s67 (q:Bool) (e:Ex) (v0 v1:Value) (G:GS):OG :=
 nf q 118 9 12 v0 fun x1 =>
 bP (st Q q 4 1 x1 (.bool true) G) fun G2 =>
 nf q 118 10 13 v0 fun x4 =>
 bP (st Q q 51 1 x4 v1 G2) fun G5 =>
 some (.tuple #[],G5)
theorem f67 (h:ExLe Q e (E orc)) (v0 v1:Value) (G:GS):Ref (s67 true e v0 v1 G) ((E orc).cl 67 [v0,v1] G):=cS (S:=fun q e=>s67 q e v0 v1 G) Tryz.func67 (by unfold s67; exact Ref.gq)
def s68 (q:Bool) (e:Ex) (v0 v1:Value) (G:GS):OG :=
 nl q 118 2 5 115 v0 G fun x2 =>
 bS (e.ev.cl 112 [x2,v1] G) fun x3 G4 =>
 nl q 118 2 5 115 v0 G4 fun x7 =>
 bS (e.ev.cl 113 [x7] G4) fun x8 G9 =>
 nf q 118 7 10 v0 fun x11 =>
 bP (st Q q 23 1 x11 x8 G9) fun G12 =>
 bP (un Q q .not x3) fun x13 =>
 ifV x13 (
 some (.tuple #[],G12)) (
 nl q 118 2 5 115 v0 G12 fun x16 =>
 bS (e.ev.cl 66 [x16] G12) fun x17 G18 =>
 bP (pExtract x17 0) fun x19 =>
 bP (pExtract x17 1) fun x20 =>
 bS (al Q q 120 z120 G18) fun x21 G22 =>
 bP (st Q q 120 2 x21 x19 G22) fun G23 =>
 bP (fa Q q 120 0 0 x21) fun x24 =>
 bP (ld Q q 23 x24 (G23.room 10)) fun x25 =>
 nf q 118 2 5 v0 fun x27 =>
 bP (st Q q 115 1 x27 (.pointer none) (G23.room 10)) fun G28 =>
 chk ((sameO (ld Q q 23 x24 G28) x25 && true)) <|
 nf q 118 3 6 v0 fun x30 =>
 bP (st Q q 23 1 x30 x25 G28) fun G31 =>
 bP (bn Q q .eql 51 (.tmp 39) (.const (.int .i64 0)) x20 (.int .i64 0)) fun x32 =>
 ifV x32 (
 some (.tuple #[],G31)) (
 bP (bn Q q .eql 51 (.tmp 39) (.const (.int .i64 15)) x20 (.int .i64 15)) fun x33 =>
 ifV x33 (
 bS (e.ev.cl 67 [v0,(.int .i64 0)] G31) fun x34 G35 =>
 some (.tuple #[],G35)) (
 bS (e.ev.cl 67 [v0,x20] G31) fun x36 G37 =>
 some (.tuple #[],G37))))
theorem f68 (h:ExLe Q e (E orc)) (v0 v1:Value) (G:GS):Ref (s68 true e v0 v1 G) ((E orc).cl 68 [v0,v1] G):=cS (S:=fun q e=>s68 q e v0 v1 G) Tryz.func68 (by unfold s68; exact Ref.gq)
def s69 (q:Bool) (e:Ex) (v0:Value) (G:GS):OG :=
 nl q 114 1 1 3 v0 G fun x2 =>
 bP (bn Q q .eql 3 (.tmp 7) (.const (.int .i64 0)) x2 (.int .i64 0)) fun x3 =>
 ifV x3 (
 some (.tuple #[(.int .i64 0),(.bool false)],G)) (
 nl q 114 0 0 3 v0 G fun x6 =>
 bP (bn Q q .add 3 (.tmp 12) (.const (.int .i64 1)) x6 (.int .i64 1)) fun x7 =>
 nf q 114 0 0 v0 fun x9 =>
 bP (st Q q 3 1 x9 x7 G) fun G10 =>
 nl q 114 1 1 3 v0 G10 fun x13 =>
 bP (bn Q q .sub 3 (.tmp 19) (.const (.int .i64 1)) x13 (.int .i64 1)) fun x14 =>
 nf q 114 1 1 v0 fun x16 =>
 bP (st Q q 3 1 x16 x14 G10) fun G17 =>
 nl q 114 0 0 3 v0 G17 fun x20 =>
 bP (bn Q q .sub 3 (.tmp 26) (.const (.int .i64 1)) x20 (.int .i64 1)) fun x21 =>
 some (.tuple #[x21,(.bool true)],G17))
theorem f69 (h:ExLe Q e (E orc)) (v0:Value) (G:GS):Ref (s69 true e v0 G) ((E orc).cl 69 [v0] G):=cS (S:=fun q e=>s69 q e v0 G) Tryz.func69 (by unfold s69; exact Ref.gq)
def s70 (q:Bool) (e:Ex) (v0 v1:Value) (G:GS):OG :=
 bS (e.ev.cl 62 [v0,v1] G) fun x0 G1 =>
 bP (bd Q q 109 z109 [(0,0,1)] [x0]) fun x2 =>
 bS (al Q q 109 z109 G1) fun x3 G4 =>
 bP (st Q q 109 3 x3 x2 G4) fun G5 =>
 fl q 109 0 0 106 x3 G5 fun x7 =>
 bP (lda Q q 109 3 x3 G5) fun x8 =>
 bS (e.ev.cl 63 [v0,(.int .i64 1),v1,x7,(.func (.func 114) #[x8] #[])] G5) fun x9 G10 =>
 bP (fd Q q 82 3 3 x9) fun x11 =>
 some (x11,G10)
theorem f70 (h:ExLe Q e (E orc)) (v0 v1:Value) (G:GS):Ref (s70 true e v0 v1 G) ((E orc).cl 70 [v0,v1] G):=cS (S:=fun q e=>s70 q e v0 v1 G) Tryz.func70 (by unfold s70; exact Ref.gq)
def s71 (q:Bool) (e:Ex) (v0:Value) (G:GS):OG :=
 bP (bn Q q .geq 3 (.tmp 3) (.const (.int .i64 1)) v0 (.int .i64 1)) fun x0 =>
 bS (gV x0 true v0 G) fun x1 G2 =>
 bS (gP x0 true (bn Q q .leq 3 (.tmp 6) (.const (.int .i64 64)) x1 (.int .i64 64)) G2) fun x3 G4 =>
 bP (pickV x0 x3 (.bool false)) fun x5 =>
 some (x5,G4)
theorem f71 (h:ExLe Q e (E orc)) (v0:Value) (G:GS):Ref (s71 true e v0 G) ((E orc).cl 71 [v0] G):=cS (S:=fun q e=>s71 q e v0 G) Tryz.func71 (by unfold s71; exact Ref.gq)
def s72 (q:Bool) (e:Ex) (v0:Value) (G:GS):OG :=
 bS (bx q v0 G) fun x0 G1 =>
 bP (fa Q q 45 3 3 x0) fun x2 =>
 bP (fa Q q 43 0 0 x2) fun x3 =>
 bP (fa Q q 39 0 0 x3) fun x4 =>
 fl q 37 2 2 3 x4 G1 fun x6 =>
 fl q 45 2 2 3 x0 G1 fun x8 =>
 bP (bn Q q .geq 3 (.tmp 10) (.const (.int .i64 1)) x8 (.int .i64 1)) fun x9 =>
 bS (gP x9 true (fa Q q 45 2 2 x0) G1) fun x10 G11 =>
 bS (gP x9 true (ld Q q 3 x10 G11) G11) fun x12 G13 =>
 bS (gP x9 true (bn Q q .leq 3 (.tmp 14) (.const (.int .i64 4)) x12 (.int .i64 4)) G13) fun x14 G15 =>
 bP (pickV x9 x14 (.bool false)) fun x16 =>
 bS (gV x16 true x6 G15) fun x17 G18 =>
 bS (gP x16 true (bn Q q .geq 3 (.tmp 18) (.const (.int .i64 1)) x17 (.int .i64 1)) G18) fun x19 G20 =>
 bP (pickV x16 x19 (.bool false)) fun x21 =>
 bS (gV x21 true x6 G20) fun x22 G23 =>
 bS (gP x21 true (bn Q q .leq 3 (.tmp 22) (.const (.int .i64 128)) x22 (.int .i64 128)) G23) fun x24 G25 =>
 bP (pickV x21 x24 (.bool false)) fun x26 =>
 bS (gP x26 true (fa Q q 45 0 0 x0) G25) fun x27 G28 =>
 bS (gP x26 true (ld Q q 3 x27 G28) G28) fun x29 G30 =>
 bS (gP x26 true (bn Q q .geq 3 (.tmp 27) (.const (.int .i64 0)) x29 (.int .i64 0)) G30) fun x31 G32 =>
 bP (pickV x26 x31 (.bool false)) fun x33 =>
 bS (gP x33 true (fa Q q 45 0 0 x0) G32) fun x34 G35 =>
 bS (gP x33 true (ld Q q 3 x34 G35) G35) fun x36 G37 =>
 bS (gP x33 true (bn Q q .lss 3 (.tmp 32) (.const (.int .i64 4096)) x36 (.int .i64 4096)) G37) fun x38 G39 =>
 bP (pickV x33 x38 (.bool false)) fun x40 =>
 bS (gP x40 true (fa Q q 45 1 1 x0) G39) fun x41 G42 =>
 bS (gP x40 true (ld Q q 3 x41 G42) G42) fun x43 G44 =>
 bS (gP x40 true (bn Q q .geq 3 (.tmp 37) (.const (.int .i64 0)) x43 (.int .i64 0)) G44) fun x45 G46 =>
 bP (pickV x40 x45 (.bool false)) fun x47 =>
 bS (gP x47 true (fa Q q 45 1 1 x0) G46) fun x48 G49 =>
 bS (gP x47 true (ld Q q 3 x48 G49) G49) fun x50 G51 =>
 bS (gP x47 true (bn Q q .lss 3 (.tmp 42) (.const (.int .i64 4096)) x50 (.int .i64 4096)) G51) fun x52 G53 =>
 bP (pickV x47 x52 (.bool false)) fun x54 =>
 some (x54,G53)
theorem f72 (h:ExLe Q e (E orc)) (v0:Value) (G:GS):Ref (s72 true e v0 G) ((E orc).cl 72 [v0] G):=cS (S:=fun q e=>s72 q e v0 G) Tryz.func72 (by unfold s72; exact Ref.gq)
def s73 (q:Bool) (e:Ex) (v0 v1:Value) (G:GS):OG :=
 bS (bx q v0 G) fun x0 G1 =>
 bP (bn Q q .lss 3 (.tmp 5) (.const (.int .i64 1)) v1 (.int .i64 1)) fun x2 =>
 bS (gV x2 false v1 G1) fun x3 G4 =>
 bS (gP x2 false (bn Q q .gtr 3 (.tmp 8) (.const (.int .i64 4096)) x3 (.int .i64 4096)) G4) fun x5 G6 =>
 bP (pickV x2 (.bool true) x5) fun x7 =>
 ifV x7 (
 some ((.int .i64 3),G6)) (
 bP (fa Q q 43 0 0 x0) fun x8 =>
 bP (lda Q q 39 6 x8 G6) fun x9 =>
 bS (e.ev.cl 115 [x9,v1] G6) fun x10 G11 =>
 bP (bn Q q .neq 51 (.tmp 14) (.const (.int .i64 0)) x10 (.int .i64 0)) fun x12 =>
 bS (gP x12 false (fa Q q 43 1 6 x0) G11) fun x13 G14 =>
 bS (gP x12 false (lda Q q 41 3 x13 G14) G14) fun x15 G16 =>
 bS (gV x12 false v1 G16) fun x17 G18 =>
 bS (gS x12 false (e.ev.cl 116 [x15,x17] G18) G18) fun x19 G20 =>
 bS (gP x12 false (bn Q q .neq 51 (.tmp 20) (.const (.int .i64 0)) x19 (.int .i64 0)) G20) fun x21 G22 =>
 bP (pickV x12 (.bool true) x21) fun x23 =>
 bS (gP x23 false (lda Q q 43 10 x0 G22) G22) fun x24 G25 =>
 bS (gS x23 false (e.ev.cl 75 [x24] G25) G25) fun x26 G27 =>
 bS (gV x23 false v1 G27) fun x28 G29 =>
 bS (gS x23 false (e.ev.cl 74 [x26,x28] G29) G29) fun x30 G31 =>
 bS (gP x23 false (un Q q .not x30) G31) fun x32 G33 =>
 bP (pickV x23 (.bool true) x32) fun x34 =>
 ifV x34 (
 some ((.int .i64 2),G33)) (
 some ((.int .i64 0),G33)))
theorem f73 (h:ExLe Q e (E orc)) (v0 v1:Value) (G:GS):Ref (s73 true e v0 v1 G) ((E orc).cl 73 [v0,v1] G):=cS (S:=fun q e=>s73 q e v0 v1 G) Tryz.func73 (by unfold s73; exact Ref.gq)
def b74_0 (q:Bool) (e:Ex) (lp:LpF) (τ:Env) (G:GS):OL :=
 bV q (τ 0) fun a0_ =>
 bV q (τ 1) fun a1_ =>
 bV q (τ 5) fun a5_ =>
 bP (ln Q q 35 a0_) fun x0 =>
 bP (bn Q q .lss 3 (.tmp 6) (.tmp 8) a5_ x0) fun x1 =>
 ifV x1 (
 bP (ias Q q 35 1 a0_ a5_) fun x2 =>
 bP (ld Q q 3 x2 (G.room 23)) fun x3 =>
 bP (bn Q q .lss 3 (.tmp 15) (.const (.int .i64 0)) x3 (.int .i64 0)) fun x4 =>
 bS (gV x4 false a0_ (G.room 23)) fun x5 _ =>
 bS (gV x4 false a5_ (G.room 23)) fun x6 _ =>
 bS (gP x4 false (ias Q q 35 1 x5 x6) (G.room 23)) fun x7 _ =>
 bS (gP x4 false (ld Q q 3 x7 (G.room 23)) (G.room 23)) fun x8 _ =>
 bS (gV x4 false a1_ (G.room 23)) fun x9 _ =>
 bS (gP x4 false (bn Q q .geq 3 (.tmp 21) (.tmp 22) x8 x9) (G.room 23)) fun x10 _ =>
 bP (pickV x4 (.bool true) x10) fun x11 =>
 bS (gV x11 false a0_ (G.room 23)) fun x12 _ =>
 bS (gV x11 false a5_ (G.room 23)) fun x13 _ =>
 bS (gP x11 false (sl Q q 35 1 x12 none (some x13) none (G.room 23)) (G.room 23)) fun x14 _ =>
 bS (gV x11 false a0_ (G.room 23)) fun x15 _ =>
 bS (gV x11 false a5_ (G.room 23)) fun x16 _ =>
 bS (gP x11 false (ias Q q 35 1 x15 x16) (G.room 23)) fun x17 _ =>
 bS (gP x11 false (ld Q q 3 x17 (G.room 23)) (G.room 23)) fun x18 _ =>
 bS (gS x11 false (e.ev.cl 92 [x14,x18] (G.room 23)) (G.room 23)) fun x20 G19 =>
 bP (pickV x11 (.bool true) x20) fun x21 =>
 ifV x21 (
 some (.ret,xq q 35 τ [(4,(.bool false)),(34,x21),(33,x20),(32,x18),(31,x17),(30,x16),(29,x15),(28,x14),(27,x13),(26,x12),(25,x11),(24,x11),(23,x10),(22,x9),(21,x8),(20,x7),(19,x6),(18,x5),(17,x4),(16,x4),(15,x3),(14,x2),(13,a5_),(12,a0_),(9,x1),(8,x0),(7,a0_),(6,a5_)] [(0,a0_),(1,a1_),(5,a5_)],G19)) (
 bP (bn Q q .add 3 (.tmp 10) (.const (.int .i64 1)) a5_ (.int .i64 1)) fun x22 =>
 lp (xq q 35 τ [(5,x22),(11,x22),(10,a5_),(34,x21),(33,x20),(32,x18),(31,x17),(30,x16),(29,x15),(28,x14),(27,x13),(26,x12),(25,x11),(24,x11),(23,x10),(22,x9),(21,x8),(20,x7),(19,x6),(18,x5),(17,x4),(16,x4),(15,x3),(14,x2),(13,a5_),(12,a0_),(9,x1),(8,x0),(7,a0_),(6,a5_)] [(0,a0_),(1,a1_)]) G19)) (
 some ((.exit 0),xq q 35 τ [(9,x1),(8,x0),(7,a0_),(6,a5_)] [(0,a0_),(1,a1_),(5,a5_)],G))
theorem l74_0 (h:ExLe Q e (E orc)):LT orc 35 (subAt [1,0,1,0,0] (bodyOf Tryz.f74)) (b74_0 true e):=cL fun hlp τ G=>by unfold b74_0; exact Ref.gq
def s74 (q:Bool) (e:Ex) (v0 v1:Value) (G:GS):OG :=
 bLq q e 74 0 (subAt [1,0,1,0,0] (bodyOf Tryz.f74)) 35 (nth undef [v0,v1]) [(5,(.int .i64 0)),(4,(.bool false))] [] G fun e0 t1 G2 =>
 bV q (t1 4) fun t1x4_ =>
 ifE e0 (.exit 0) (
 some ((.bool true),G2)) (ifE e0 .ret (
 some (t1x4_,G2)) (none))
theorem f74 (h:ExLe Q e (E orc)) (v0 v1:Value) (G:GS):Ref (s74 true e v0 v1 G) ((E orc).cl 74 [v0,v1] G):=cS (S:=fun q e=>s74 q e v0 v1 G) Tryz.func74 (by unfold s74; exact Ref.gq)
def b75_0 (q:Bool) (e:Ex) (lp:LpF) (τ:Env) (G:GS):OL :=
 bV q (τ 1) fun a1_ =>
 bV q (τ 3) fun a3_ =>
 bV q (τ 4) fun a4_ =>
 bP (fa Q q 43 1 6 a1_) fun x0 =>
 bP (fa Q q 41 2 2 x0) fun x1 =>
 bP (ld Q q 3 x1 G) fun x2 =>
 bP (bn Q q .lss 3 (.tmp 21) (.tmp 24) a4_ x2) fun x3 =>
 ifV x3 (
 bP (fa Q q 43 1 6 a1_) fun x4 =>
 bP (fa Q q 41 1 1 x4) fun x5 =>
 bP (ld Q q 3 x5 G) fun x6 =>
 bP (bn Q q .add 3 (.tmp 31) (.tmp 32) x6 a4_) fun x7 =>
 bS (bs Q q 35 1 (rep z3 1) 1 [(0,0,1)] [x7] G) fun x8 G9 =>
 bS (ap Q q 35 35 1 8 a3_ x8 G9) fun x10 G11 =>
 bP (bn Q q .add 3 (.tmp 26) (.const (.int .i64 1)) a4_ (.int .i64 1)) fun x12 =>
 lp (xq q 37 τ [(4,x12),(27,x12),(26,a4_),(3,x10),(35,x10),(34,x8),(33,x7),(32,a4_),(31,x6),(30,x5),(29,x4),(28,a3_),(25,x3),(24,x2),(23,x1),(22,x0),(21,a4_)] [(1,a1_)]) G11) (
 some ((.exit 0),xq q 37 τ [(25,x3),(24,x2),(23,x1),(22,x0),(21,a4_)] [(1,a1_),(3,a3_),(4,a4_)],G))
theorem l75_0 (h:ExLe Q e (E orc)):LT orc 37 (subAt [1,1,0,1,0,0] (bodyOf Tryz.f75)) (b75_0 true e):=cL fun hlp τ G=>by unfold b75_0; exact Ref.gq
def s75 (q:Bool) (e:Ex) (v0:Value) (G:GS):OG :=
 bS (bx q v0 G) fun x0 G1 =>
 bP (fa Q q 43 0 0 x0) fun x2 =>
 bP (lda Q q 39 6 x2 (G1.room 17)) fun x3 =>
 bS (e.ev.cl 117 [x3] (G1.room 17)) fun x5 G4 =>
 bP (fa Q q 43 1 6 x0) fun x6 =>
 bP (fa Q q 41 0 0 x6) fun x7 =>
 bP (ld Q q 3 x7 G4) fun x8 =>
 chk ((sameO (ld Q q 3 x7 (G1.room 17)) x8 && true)) <|
 bP (fa Q q 43 2 9 x0) fun x9 =>
 bP (ld Q q 3 x9 G4) fun x10 =>
 chk ((sameO (ld Q q 3 x9 (G1.room 17)) x10 && true)) <|
 bP (fa Q q 43 2 9 x0) fun x11 =>
 bP (ld Q q 3 x11 G4) fun x12 =>
 chk ((sameO (ld Q q 3 x11 (G1.room 17)) x12 && true)) <|
 bP (bn Q q .add 3 (.tmp 14) (.const (.int .i64 1)) x12 (.int .i64 1)) fun x13 =>
 bP (fa Q q 43 2 9 x0) fun x14 =>
 bP (ld Q q 3 x14 G4) fun x15 =>
 chk ((sameO (ld Q q 3 x14 (G1.room 17)) x15 && true)) <|
 bP (bn Q q .add 3 (.tmp 17) (.const (.int .i64 2)) x15 (.int .i64 2)) fun x16 =>
 bS (bs Q q 35 4 (rep z3 4) 1 [(0,0,1),(1,1,1),(2,2,1),(3,3,1)] [x8,x10,x13,x16] (G4.at' (G1.nx + 14))) fun x17 G18 =>
 bS (ap Q q 35 35 1 8 x5 x17 (G18.back G4)) fun x20 G19 =>
 bLq q e 75 0 (subAt [1,1,0,1,0,0] (bodyOf Tryz.f75)) 37 (nth undef [v0]) [(4,(.int .i64 0)),(3,x20),(20,x20),(19,x17),(18,x16),(17,x15),(16,x14),(15,x13),(14,x12),(13,x11),(12,x10),(11,x9),(10,x8),(9,x7),(8,x6),(7,x5),(6,x3),(5,x2),(2,(.slice none 0 0)),(1,x0)] [] G19 fun e21 t22 G23 =>
 bV q (t22 3) fun t22x3_ =>
 ifE e21 (.exit 0) (
 some (t22x3_,G23)) (none)
theorem f75 (h:ExLe Q e (E orc)) (v0:Value) (G:GS):Ref (s75 true e v0 G) ((E orc).cl 75 [v0] G):=cS (S:=fun q e=>s75 q e v0 G) Tryz.func75 (by unfold s75; exact Ref.gq)
def b76_0 (q:Bool) (e:Ex) (lp:LpF) (τ:Env) (G:GS):OL :=
 bV q (τ 1) fun a1_ =>
 bV q (τ 3) fun a3_ =>
 bV q (τ 4) fun a4_ =>
 bP (fa Q q 45 3 3 a1_) fun x0 =>
 bP (fa Q q 43 0 0 x0) fun x1 =>
 bP (fa Q q 39 0 0 x1) fun x2 =>
 bP (fa Q q 37 2 2 x2) fun x3 =>
 bP (ld Q q 3 x3 G) fun x4 =>
 bP (fa Q q 45 2 2 a1_) fun x5 =>
 bP (ld Q q 3 x5 G) fun x6 =>
 bP (bn Q q .add 3 (.const (.int .i64 4)) (.tmp 13) (.int .i64 4) x6) fun x7 =>
 bP (bn Q q .mul 3 (.tmp 11) (.tmp 14) x4 x7) fun x8 =>
 bP (bn Q q .lss 3 (.tmp 6) (.tmp 15) a4_ x8) fun x9 =>
 ifV x9 (
 bP (fa Q q 45 0 0 a1_) fun x10 =>
 bP (ld Q q 3 x10 G) fun x11 =>
 bP (bn Q q .add 3 (.tmp 21) (.tmp 22) x11 a4_) fun x12 =>
 bS (bs Q q 35 1 (rep z3 1) 1 [(0,0,1)] [x12] G) fun x13 G14 =>
 bS (ap Q q 35 35 1 8 a3_ x13 G14) fun x15 G16 =>
 bP (bn Q q .add 3 (.tmp 17) (.const (.int .i64 1)) a4_ (.int .i64 1)) fun x17 =>
 lp (xq q 40 τ [(4,x17),(18,x17),(17,a4_),(3,x15),(25,x15),(24,x13),(23,x12),(22,a4_),(21,x11),(20,x10),(19,a3_),(16,x9),(15,x8),(14,x7),(13,x6),(12,x5),(11,x4),(10,x3),(9,x2),(8,x1),(7,x0),(6,a4_)] [(1,a1_)]) G16) (
 some ((.exit 0),xq q 40 τ [(16,x9),(15,x8),(14,x7),(13,x6),(12,x5),(11,x4),(10,x3),(9,x2),(8,x1),(7,x0),(6,a4_)] [(1,a1_),(3,a3_),(4,a4_)],G))
theorem l76_0 (h:ExLe Q e (E orc)):LT orc 40 (subAt [1,1,0,1,0,0] (bodyOf Tryz.f76)) (b76_0 true e):=cL fun hlp τ G=>by unfold b76_0; exact Ref.gq
def b76_1 (q:Bool) (e:Ex) (lp:LpF) (τ:Env) (G:GS):OL :=
 bV q (τ 1) fun a1_ =>
 bV q (τ 3) fun a3_ =>
 bV q (τ 5) fun a5_ =>
 bP (fa Q q 45 2 2 a1_) fun x0 =>
 bP (ld Q q 3 x0 G) fun x1 =>
 bP (bn Q q .lss 3 (.tmp 26) (.tmp 28) a5_ x1) fun x2 =>
 ifV x2 (
 bP (fa Q q 45 1 1 a1_) fun x3 =>
 bP (ld Q q 3 x3 G) fun x4 =>
 bP (bn Q q .add 3 (.tmp 34) (.tmp 35) x4 a5_) fun x5 =>
 bS (bs Q q 35 1 (rep z3 1) 1 [(0,0,1)] [x5] G) fun x6 G7 =>
 bS (ap Q q 35 35 1 8 a3_ x6 G7) fun x8 G9 =>
 bP (bn Q q .add 3 (.tmp 30) (.const (.int .i64 1)) a5_ (.int .i64 1)) fun x10 =>
 lp (xq q 40 τ [(5,x10),(31,x10),(30,a5_),(3,x8),(38,x8),(37,x6),(36,x5),(35,a5_),(34,x4),(33,x3),(32,a3_),(29,x2),(28,x1),(27,x0),(26,a5_)] [(1,a1_)]) G9) (
 some ((.exit 2),xq q 40 τ [(29,x2),(28,x1),(27,x0),(26,a5_)] [(1,a1_),(3,a3_),(5,a5_)],G))
theorem l76_1 (h:ExLe Q e (E orc)):LT orc 40 (subAt [1,1,1,0,1,0,0] (bodyOf Tryz.f76)) (b76_1 true e):=cL fun hlp τ G=>by unfold b76_1; exact Ref.gq
def s76 (q:Bool) (e:Ex) (v0:Value) (G:GS):OG :=
 bS (bx q v0 G) fun x0 G1 =>
 bLq q e 76 0 (subAt [1,1,0,1,0,0] (bodyOf Tryz.f76)) 40 (nth undef [v0]) [(4,(.int .i64 0)),(3,(.slice none 0 0)),(2,(.slice none 0 0)),(1,x0)] [] G1 fun e2 t3 G4 =>
 ifE e2 (.exit 0) (
 bLq q e 76 1 (subAt [1,1,1,0,1,0,0] (bodyOf Tryz.f76)) 40 t3 [(5,(.int .i64 0))] [] G4 fun e5 t6 G7 =>
 bV q (t6 3) fun t6x3_ =>
 ifE e5 (.exit 2) (
 some (t6x3_,G7)) (none)) (none)
theorem f76 (h:ExLe Q e (E orc)) (v0:Value) (G:GS):Ref (s76 true e v0 G) ((E orc).cl 76 [v0] G):=cS (S:=fun q e=>s76 q e v0 G) Tryz.func76 (by unfold s76; exact Ref.gq)
def s77 (q:Bool) (e:Ex) (v0:Value) (G:GS):OG :=
 bP (bn Q q .lss 3 (.tmp 4) (.const (.int .i64 1)) v0 (.int .i64 1)) fun x0 =>
 bS (gV x0 false v0 G) fun x1 G2 =>
 bS (gP x0 false (bn Q q .gtr 3 (.tmp 7) (.const (.int .i64 4096)) x1 (.int .i64 4096)) G2) fun x3 G4 =>
 bP (pickV x0 (.bool true) x3) fun x5 =>
 ifV x5 (
 some (.tuple #[(.pointer none),(.int .i64 3)],G4)) (
 bS (mk Q q 22 1 8 z23 v0 v0 G4) fun x6 G7 =>
 bP (bd Q q 154 z154 [(0,0,1)] [x6]) fun x8 =>
 bS (bx q x8 G7) fun x9 G10 =>
 some (.tuple #[x9,(.int .i64 0)],G10))
theorem f77 (h:ExLe Q e (E orc)) (v0:Value) (G:GS):Ref (s77 true e v0 G) ((E orc).cl 77 [v0] G):=cS (S:=fun q e=>s77 q e v0 G) Tryz.func77 (by unfold s77; exact Ref.gq)
def b78_0 (q:Bool) (e:Ex) (lp:LpF) (τ:Env) (G:GS):OL :=
 bV q (τ 1) fun a1_ =>
 bV q (τ 2) fun a2_ =>
 bV q (τ 4) fun a4_ =>
 bP (fa Q q 45 2 2 a2_) fun x0 =>
 bP (ld Q q 3 x0 G) fun x1 =>
 bP (bn Q q .lss 3 (.tmp 12) (.tmp 14) a4_ x1) fun x2 =>
 ifV x2 (
 bP (fa Q q 45 1 1 a2_) fun x3 =>
 bP (ld Q q 3 x3 G) fun x4 =>
 bP (bn Q q .add 3 (.tmp 20) (.tmp 21) x4 a4_) fun x5 =>
 bS (e.ev.cl 35 [a1_,x5,(.int .u64 0)] G) fun x6 G7 =>
 bP (bn Q q .add 3 (.tmp 16) (.const (.int .i64 1)) a4_ (.int .i64 1)) fun x8 =>
 lp (xq q 24 τ [(4,x8),(17,x8),(16,a4_),(23,x6),(22,x5),(21,a4_),(20,x4),(19,x3),(18,a1_),(15,x2),(14,x1),(13,x0),(12,a4_)] [(1,a1_),(2,a2_)]) G7) (
 some ((.exit 0),xq q 24 τ [(15,x2),(14,x1),(13,x0),(12,a4_)] [(1,a1_),(2,a2_),(4,a4_)],G))
theorem l78_0 (h:ExLe Q e (E orc)):LT orc 24 (subAt [1,1,1,1,0,0] (bodyOf Tryz.f78)) (b78_0 true e):=cL fun hlp τ G=>by unfold b78_0; exact Ref.gq
def s78 (q:Bool) (e:Ex) (v0 v1:Value) (G:GS):OG :=
 bS (bx q v0 G) fun x0 G1 =>
 bP (lda Q q 45 13 x0 G1) fun x2 =>
 bS (e.ev.cl 72 [x2] G1) fun x3 G4 =>
 bP (un Q q .not x3) fun x5 =>
 ifV x5 (
 some (.tuple #[],G4)) (
 bP (fa Q q 45 3 3 x0) fun x6 =>
 bP (lda Q q 43 10 x6 G4) fun x7 =>
 bS (e.ev.cl 118 [x7,v1] G4) fun x8 G9 =>
 bLq q e 78 0 (subAt [1,1,1,1,0,0] (bodyOf Tryz.f78)) 24 (nth undef [v0,v1]) [(4,(.int .i64 0)),(11,x8),(10,v1),(9,x7),(8,x6),(7,x5),(6,x3),(5,x2),(2,x0)] [] G9 fun e10 t11 G12 =>
 ifE e10 (.exit 0) (
 some (.tuple #[],G12)) (none))
theorem f78 (h:ExLe Q e (E orc)) (v0 v1:Value) (G:GS):Ref (s78 true e v0 v1 G) ((E orc).cl 78 [v0,v1] G):=cS (S:=fun q e=>s78 q e v0 v1 G) Tryz.func78 (by unfold s78; exact Ref.gq)
def b79_0 (q:Bool) (e:Ex) (lp:LpF) (τ:Env) (G:GS):OL :=
 bV q (τ 1) fun a1_ =>
 bV q (τ 2) fun a2_ =>
 bV q (τ 4) fun a4_ =>
 bP (fa Q q 49 2 2 a2_) fun x0 =>
 bP (ld Q q 3 x0 G) fun x1 =>
 bS (e.ev.cl 71 [x1] G) fun x2 G3 =>
 bS (gV x2 true a4_ G3) fun x4 G5 =>
 bS (gP x2 true (fa Q q 49 2 2 a2_) G5) fun x6 G7 =>
 bS (gP x2 true (ld Q q 3 x6 G7) G7) fun x8 G9 =>
 bS (gP x2 true (bn Q q .lss 3 (.tmp 9) (.tmp 11) x4 x8) G9) fun x10 G11 =>
 bP (pickV x2 x10 (.bool false)) fun x12 =>
 ifV x12 (
 bP (fa Q q 49 0 0 a2_) fun x13 =>
 bP (ld Q q 3 x13 G11) fun x14 =>
 bP (bn Q q .add 3 (.tmp 18) (.tmp 19) x14 a4_) fun x15 =>
 bS (e.ev.cl 35 [a1_,x15,(.int .u64 18446744073709551615)] G11) fun x16 G17 =>
 bP (fa Q q 49 1 1 a2_) fun x18 =>
 bP (ld Q q 3 x18 G17) fun x19 =>
 bP (bn Q q .add 3 (.tmp 24) (.tmp 25) x19 a4_) fun x20 =>
 bS (e.ev.cl 35 [a1_,x20,(.int .u64 0)] G17) fun x21 G22 =>
 bP (bn Q q .add 3 (.tmp 14) (.const (.int .i64 1)) a4_ (.int .i64 1)) fun x23 =>
 lp (xq q 28 τ [(4,x23),(15,x23),(14,a4_),(27,x21),(26,x20),(25,a4_),(24,x19),(23,x18),(22,a1_),(21,x16),(20,x15),(19,a4_),(18,x14),(17,x13),(16,a1_),(13,x12),(12,x10),(11,x8),(10,x6),(9,x4),(8,x2),(7,x2),(6,x1),(5,x0)] [(1,a1_),(2,a2_)]) G22) (
 some ((.exit 0),xq q 28 τ [(13,x12),(12,x10),(11,x8),(10,x6),(9,x4),(8,x2),(7,x2),(6,x1),(5,x0)] [(1,a1_),(2,a2_),(4,a4_)],G11))
theorem l79_0 (h:ExLe Q e (E orc)):LT orc 28 (subAt [1,1,0,0] (bodyOf Tryz.f79)) (b79_0 true e):=cL fun hlp τ G=>by unfold b79_0; exact Ref.gq
def s79 (q:Bool) (e:Ex) (v0 v1:Value) (G:GS):OG :=
 bS (bx q v0 G) fun x0 G1 =>
 bLq q e 79 0 (subAt [1,1,0,0] (bodyOf Tryz.f79)) 28 (nth undef [v0,v1]) [(4,(.int .i64 0)),(2,x0)] [] G1 fun e2 t3 G4 =>
 ifE e2 (.exit 0) (
 some (.tuple #[],G4)) (none)
theorem f79 (h:ExLe Q e (E orc)) (v0 v1:Value) (G:GS):Ref (s79 true e v0 v1 G) ((E orc).cl 79 [v0,v1] G):=cS (S:=fun q e=>s79 q e v0 v1 G) Tryz.func79 (by unfold s79; exact Ref.gq)
def b80_0 (q:Bool) (e:Ex) (lp:LpF) (τ:Env) (G:GS):OL :=
 bV q (τ 1) fun a1_ =>
 bV q (τ 2) fun a2_ =>
 bV q (τ 5) fun a5_ =>
 bV q (τ 6) fun a6_ =>
 bP (fa Q q 49 2 2 a2_) fun x0 =>
 bP (ld Q q 3 x0 G) fun x1 =>
 bS (e.ev.cl 71 [x1] G) fun x2 G3 =>
 bS (gV x2 true a6_ G3) fun x4 G5 =>
 bS (gP x2 true (fa Q q 49 2 2 a2_) G5) fun x6 G7 =>
 bS (gP x2 true (ld Q q 3 x6 G7) G7) fun x8 G9 =>
 bS (gP x2 true (bn Q q .lss 3 (.tmp 11) (.tmp 13) x4 x8) G9) fun x10 G11 =>
 bP (pickV x2 x10 (.bool false)) fun x12 =>
 ifV x12 (
 bP (fa Q q 49 0 0 a2_) fun x13 =>
 bP (ld Q q 3 x13 G11) fun x14 =>
 bP (bn Q q .add 3 (.tmp 21) (.tmp 22) x14 a6_) fun x15 =>
 bS (e.ev.cl 119 [a1_,x15] G11) fun x16 G17 =>
 bS (bs Q q 22 1 (rep z23 1) 1 [(0,0,1)] [x16] G17) fun x18 G19 =>
 bS (ap Q q 22 22 1 8 a5_ x18 G19) fun x20 G21 =>
 bP (bn Q q .add 3 (.tmp 16) (.const (.int .i64 1)) a6_ (.int .i64 1)) fun x22 =>
 lp (xq q 28 τ [(6,x22),(17,x22),(16,a6_),(5,x20),(26,x20),(25,x18),(24,x16),(23,x15),(22,a6_),(21,x14),(20,x13),(19,a1_),(18,a5_),(15,x12),(14,x10),(13,x8),(12,x6),(11,x4),(10,x2),(9,x2),(8,x1),(7,x0)] [(1,a1_),(2,a2_)]) G21) (
 some ((.exit 0),xq q 28 τ [(15,x12),(14,x10),(13,x8),(12,x6),(11,x4),(10,x2),(9,x2),(8,x1),(7,x0)] [(1,a1_),(2,a2_),(5,a5_),(6,a6_)],G11))
theorem l80_0 (h:ExLe Q e (E orc)):LT orc 28 (subAt [1,1,0,1,0,0] (bodyOf Tryz.f80)) (b80_0 true e):=cL fun hlp τ G=>by unfold b80_0; exact Ref.gq
def s80 (q:Bool) (e:Ex) (v0 v1:Value) (G:GS):OG :=
 bS (bx q v0 G) fun x0 G1 =>
 bLq q e 80 0 (subAt [1,1,0,1,0,0] (bodyOf Tryz.f80)) 28 (nth undef [v0,v1]) [(6,(.int .i64 0)),(5,(.slice none 0 0)),(4,(.slice none 0 0)),(2,x0)] [] G1 fun e2 t3 G4 =>
 bV q (t3 5) fun t3x5_ =>
 ifE e2 (.exit 0) (
 some (t3x5_,G4)) (none)
theorem f80 (h:ExLe Q e (E orc)) (v0 v1:Value) (G:GS):Ref (s80 true e v0 v1 G) ((E orc).cl 80 [v0,v1] G):=cS (S:=fun q e=>s80 q e v0 v1 G) Tryz.func80 (by unfold s80; exact Ref.gq)
def b81_0 (q:Bool) (e:Ex) (lp:LpF) (τ:Env) (G:GS):OL :=
 bV q (τ 0) fun a0_ =>
 bV q (τ 1) fun a1_ =>
 bV q (τ 5) fun a5_ =>
 bV q (τ 6) fun a6_ =>
 bS (gV a5_ true a6_ G) fun x0 G1 =>
 bS (gV a5_ true a0_ G1) fun x2 G3 =>
 bS (gP a5_ true (ln Q q 138 x2) G3) fun x4 G5 =>
 bS (gP a5_ true (bn Q q .lss 3 (.tmp 14) (.tmp 16) x0 x4) G5) fun x6 G7 =>
 bP (pickV a5_ x6 (.bool false)) fun x8 =>
 ifV x8 (
 bP (ias Q q 138 1 a0_ a6_) fun x9 =>
 bP (ld Q q 4 x9 (G7.room 10)) fun x10 =>
 bP (ias Q q 138 1 a1_ a6_) fun x11 =>
 bP (ld Q q 4 x11 (G7.room 10)) fun x12 =>
 bP (eb Q q false 4 (.tmp 24) (.tmp 28) x10 x12) fun x13 =>
 bP (ias Q q 138 1 a0_ a6_) fun x14 =>
 bP (ld Q q 4 x14 (G7.room 10)) fun x15 =>
 bP (un Q q .not x15) fun x16 =>
 bP (ias Q q 138 1 a0_ a6_) fun x17 =>
 bP (st Q q 4 1 x17 x16 (G7.room 10)) fun G18 =>
 bP (bn Q q .add 3 (.tmp 19) (.const (.int .i64 1)) a6_ (.int .i64 1)) fun x19 =>
 lp (xq q 39 τ [(6,x19),(20,x19),(19,a6_),(37,x17),(36,x16),(35,x15),(34,x14),(33,a6_),(32,a0_),(31,a6_),(30,a0_),(5,x13),(29,x13),(28,x12),(27,x11),(26,a6_),(25,a1_),(24,x10),(23,x9),(22,a6_),(21,a0_),(18,x8),(17,x6),(16,x4),(15,x2),(14,x0),(13,a5_),(12,a5_)] [(0,a0_),(1,a1_)]) G18) (
 some ((.exit 0),xq q 39 τ [(18,x8),(17,x6),(16,x4),(15,x2),(14,x0),(13,a5_),(12,a5_)] [(0,a0_),(1,a1_),(5,a5_),(6,a6_)],G7))
theorem l81_0 (h:ExLe Q e (E orc)):LT orc 39 (subAt [1,1,0,1,0,0] (bodyOf Tryz.f81)) (b81_0 true e):=cL fun hlp τ G=>by unfold b81_0; exact Ref.gq
def s81 (q:Bool) (e:Ex) (v0 v1:Value) (G:GS):OG :=
 bP (ln Q q 138 v0) fun x0 =>
 bP (ln Q q 138 v1) fun x1 =>
 bP (bn Q q .eql 3 (.tmp 8) (.tmp 10) x0 x1) fun x2 =>
 bLq q e 81 0 (subAt [1,1,0,1,0,0] (bodyOf Tryz.f81)) 39 (nth undef [v0,v1]) [(6,(.int .i64 0)),(5,x2),(11,x2),(10,x1),(9,v1),(8,x0),(7,v0),(4,(.bool false))] [] G fun e3 t4 G5 =>
 bV q (t4 5) fun t4x5_ =>
 ifE e3 (.exit 0) (
 some (t4x5_,G5)) (none)
theorem f81 (h:ExLe Q e (E orc)) (v0 v1:Value) (G:GS):Ref (s81 true e v0 v1 G) ((E orc).cl 81 [v0,v1] G):=cS (S:=fun q e=>s81 q e v0 v1 G) Tryz.func81 (by unfold s81; exact Ref.gq)
def b82_0 (q:Bool) (e:Ex) (lp:LpF) (τ:Env) (G:GS):OL :=
 bV q (τ 5) fun a5_ =>
 bV q (τ 12) fun a12_ =>
 bV q (τ 13) fun a13_ =>
 bV q (τ 14) fun a14_ =>
 bP (bn Q q .lss 3 (.tmp 14) (.tmp 13) a14_ a13_) fun x0 =>
 ifV x0 (
 bP (ias Q q 22 1 a12_ a14_) fun x1 =>
 bP (ld Q q 23 x1 G) fun x2 =>
 bP (bn Q q .neq 23 (.tmp 19) (.const (.int .u64 0)) x2 (.int .u64 0)) fun x3 =>
 bS (bs Q q 138 1 (rep z4 1) 1 [(0,0,1)] [x3] G) fun x4 G5 =>
 bS (ap Q q 138 138 1 1 a5_ x4 G5) fun x6 G7 =>
 bP (bn Q q .add 3 (.tmp 14) (.const (.int .i64 1)) a14_ (.int .i64 1)) fun x8 =>
 lp (xq q 25 τ [(14,x8),(23,x8),(5,x6),(22,x6),(21,x4),(20,x3),(19,x2),(18,a5_),(7,x2),(17,x2),(16,x1),(15,x0)] [(12,a12_),(13,a13_)]) G7) (
 some ((.exit 0),xq q 25 τ [(15,x0)] [(5,a5_),(12,a12_),(13,a13_),(14,a14_)],G))
theorem l82_0 (h:ExLe Q e (E orc)):LT orc 25 (subAt [1,1,0,1,0,0] (bodyOf Tryz.f82)) (b82_0 true e):=cL fun hlp τ G=>by unfold b82_0; exact Ref.gq
def s82 (q:Bool) (e:Ex) (v0 v1:Value) (G:GS):OG :=
 bS (bx q v0 G) fun x0 G1 =>
 bP (lda Q q 49 3 x0 G1) fun x2 =>
 bP (fa Q q 49 1 1 x0) fun x3 =>
 bP (ld Q q 3 x3 G1) fun x4 =>
 bS (e.ev.cl 91 [x2,x4,v1] G1) fun x5 G6 =>
 bP (ln Q q 22 x5) fun x7 =>
 bLq q e 82 0 (subAt [1,1,0,1,0,0] (bodyOf Tryz.f82)) 25 (nth undef [v0,v1]) [(14,(.int .i64 0)),(13,x7),(12,x5),(11,v1),(10,x4),(9,x3),(8,x2),(5,(.slice none 0 0)),(4,(.slice none 0 0)),(2,x0)] [] G6 fun e8 t9 G10 =>
 bV q (t9 5) fun t9x5_ =>
 ifE e8 (.exit 0) (
 some (t9x5_,G10)) (none)
theorem f82 (h:ExLe Q e (E orc)) (v0 v1:Value) (G:GS):Ref (s82 true e v0 v1 G) ((E orc).cl 82 [v0,v1] G):=cS (S:=fun q e=>s82 q e v0 v1 G) Tryz.func82 (by unfold s82; exact Ref.gq)
def b83_0 (q:Bool) (e:Ex) (lp:LpF) (τ:Env) (G:GS):OL :=
 bV q (τ 1) fun a1_ =>
 bV q (τ 2) fun a2_ =>
 bV q (τ 5) fun a5_ =>
 bV q (τ 6) fun a6_ =>
 bP (fa Q q 49 2 2 a2_) fun x0 =>
 bP (ld Q q 3 x0 G) fun x1 =>
 bS (e.ev.cl 71 [x1] G) fun x2 G3 =>
 bS (gV x2 true a6_ G3) fun x4 G5 =>
 bS (gP x2 true (fa Q q 49 2 2 a2_) G5) fun x6 G7 =>
 bS (gP x2 true (ld Q q 3 x6 G7) G7) fun x8 G9 =>
 bS (gP x2 true (bn Q q .lss 3 (.tmp 11) (.tmp 13) x4 x8) G9) fun x10 G11 =>
 bP (pickV x2 x10 (.bool false)) fun x12 =>
 ifV x12 (
 bP (fa Q q 49 1 1 a2_) fun x13 =>
 bP (ld Q q 3 x13 G11) fun x14 =>
 bP (bn Q q .add 3 (.tmp 21) (.tmp 22) x14 a6_) fun x15 =>
 bS (e.ev.cl 119 [a1_,x15] G11) fun x16 G17 =>
 bP (bn Q q .neq 23 (.tmp 24) (.const (.int .u64 0)) x16 (.int .u64 0)) fun x18 =>
 bS (bs Q q 138 1 (rep z4 1) 1 [(0,0,1)] [x18] G17) fun x19 G20 =>
 bS (ap Q q 138 138 1 1 a5_ x19 G20) fun x21 G22 =>
 bP (bn Q q .add 3 (.tmp 16) (.const (.int .i64 1)) a6_ (.int .i64 1)) fun x23 =>
 lp (xq q 29 τ [(6,x23),(17,x23),(16,a6_),(5,x21),(27,x21),(26,x19),(25,x18),(24,x16),(23,x15),(22,a6_),(21,x14),(20,x13),(19,a1_),(18,a5_),(15,x12),(14,x10),(13,x8),(12,x6),(11,x4),(10,x2),(9,x2),(8,x1),(7,x0)] [(1,a1_),(2,a2_)]) G22) (
 some ((.exit 0),xq q 29 τ [(15,x12),(14,x10),(13,x8),(12,x6),(11,x4),(10,x2),(9,x2),(8,x1),(7,x0)] [(1,a1_),(2,a2_),(5,a5_),(6,a6_)],G11))
theorem l83_0 (h:ExLe Q e (E orc)):LT orc 29 (subAt [1,1,0,1,0,0] (bodyOf Tryz.f83)) (b83_0 true e):=cL fun hlp τ G=>by unfold b83_0; exact Ref.gq
def s83 (q:Bool) (e:Ex) (v0 v1:Value) (G:GS):OG :=
 bS (bx q v0 G) fun x0 G1 =>
 bLq q e 83 0 (subAt [1,1,0,1,0,0] (bodyOf Tryz.f83)) 29 (nth undef [v0,v1]) [(6,(.int .i64 0)),(5,(.slice none 0 0)),(4,(.slice none 0 0)),(2,x0)] [] G1 fun e2 t3 G4 =>
 bV q (t3 5) fun t3x5_ =>
 ifE e2 (.exit 0) (
 some (t3x5_,G4)) (none)
theorem f83 (h:ExLe Q e (E orc)) (v0 v1:Value) (G:GS):Ref (s83 true e v0 v1 G) ((E orc).cl 83 [v0,v1] G):=cS (S:=fun q e=>s83 q e v0 v1 G) Tryz.func83 (by unfold s83; exact Ref.gq)
def s84 (q:Bool) (e:Ex) (v0 v1:Value) (G:GS):OG :=
 bS (bx q v0 G) fun x0 G1 =>
 bP (lda Q q 45 13 x0 G1) fun x2 =>
 bS (e.ev.cl 72 [x2] G1) fun x3 G4 =>
 bP (un Q q .not x3) fun x5 =>
 ifV x5 (
 some ((.int .i64 2),G4)) (
 bP (bn Q q .lss 3 (.tmp 10) (.const (.int .i64 0)) v1 (.int .i64 0)) fun x6 =>
 bS (gV x6 false v1 G4) fun x7 G8 =>
 bS (gP x6 false (fa Q q 45 3 3 x0) G8) fun x9 G10 =>
 bS (gP x6 false (fa Q q 43 1 6 x9) G10) fun x11 G12 =>
 bS (gP x6 false (fa Q q 41 2 2 x11) G12) fun x13 G14 =>
 bS (gP x6 false (ld Q q 3 x13 G14) G14) fun x15 G16 =>
 bS (gP x6 false (bn Q q .geq 3 (.tmp 13) (.tmp 17) x7 x15) G16) fun x17 G18 =>
 bP (pickV x6 (.bool true) x17) fun x19 =>
 ifV x19 (
 some ((.int .i64 3),G18)) (
 some ((.int .i64 0),G18)))
theorem f84 (h:ExLe Q e (E orc)) (v0 v1:Value) (G:GS):Ref (s84 true e v0 v1 G) ((E orc).cl 84 [v0,v1] G):=cS (S:=fun q e=>s84 q e v0 v1 G) Tryz.func84 (by unfold s84; exact Ref.gq)
def s85 (q:Bool) (e:Ex) (v0 v1:Value) (G:GS):OG :=
 bS (bx q v0 G) fun x0 G1 =>
 bP (lda Q q 45 13 x0 (G1.room 11)) fun x2 =>
 bP (lda Q q 45 13 x0 (G1.room 11)) fun x3 =>
 bS (e.ev.cl 84 [x3,v1] (G1.room 11)) fun x5 G4 =>
 chk ((sameO (lda Q q 45 13 x0 G4) x2 && true)) <|
 bS (e.ev.cl 120 [x2,v1,x5] G4) fun x7 G6 =>
 bP (lda Q q 45 13 x0 G6) fun x8 =>
 chk ((sameO (lda Q q 45 13 x0 G4) x8 && (sameO (lda Q q 45 13 x0 (G1.room 11)) x8 && true))) <|
 bS (e.ev.cl 121 [x8] G6) fun x10 G9 =>
 bP (bd Q q 152 z152 [(0,0,20),(1,20,1)] [x7,x10]) fun x11 =>
 bS (bx q x11 (G9.at' (G1.nx + 9))) fun x12 G13 =>
 some (x12,(G13.back G9))
theorem f85 (h:ExLe Q e (E orc)) (v0 v1:Value) (G:GS):Ref (s85 true e v0 v1 G) ((E orc).cl 85 [v0,v1] G):=cS (S:=fun q e=>s85 q e v0 v1 G) Tryz.func85 (by unfold s85; exact Ref.gq)
def jb86_0 (q:Bool) (e:Ex) (τ:Env) (G:GS):OG :=
 bV q (τ 0) fun a0_ =>
 bV q (τ 2) fun a2_ =>
 bV q (τ 3) fun a3_ =>
 nl q 154 0 0 22 a0_ G fun x38 =>
 bP (ias Q q 22 1 x38 a2_) fun x39 =>
 bP (ld Q q 23 x39 G) fun x40 =>
 nf q 154 1 1 a0_ fun x42 =>
 bP (fa Q q 82 3 3 x42) fun x43 =>
 bP (st Q q 23 1 x43 x40 G) fun G44 =>
 nf q 154 1 1 a0_ fun x46 =>
 bP (fa Q q 82 4 4 x46) fun x47 =>
 bP (st Q q 4 1 x47 a3_ G44) fun G48 =>
 some (.tuple #[],G48)
def j86_0 (q:Bool) (e:Ex) (τ:Env) (G:GS):OG:=jb86_0 q e τ G
theorem mj86_0 {e:Ex} {E:Ev} (h:ExLe Q e E) (τ:Env) (G:GS):Ref (j86_0 true e τ G) (j86_0 false (Ex.of E) τ G):=by
 unfold j86_0 jb86_0
 exact Ref.gq
theorem mkj86_0 {e:Ex} {E:Ev} (h:ExLe Q e E) {τ:Env} {l U:List (Nat × Value)} {G:GS} (hU:UOk τ U):Ref (j86_0 true e (xq true 69 τ l U) G) (j86_0 false (Ex.of E) (xq false 69 τ l U) G):=by
 rw [xq_eq hU]
 exact mj86_0 h _ _
def sb86 (q:Bool) (e:Ex) (J0:Env → GS → OG) (v0 v1 v2 v3 v4:Value) (G:GS):OG :=
 bP (pNil v0) fun x0 =>
 bP (fa Q q 154 2 6 x0) fun x1 =>
 bP (ld Q q 3 x1 G) fun x2 =>
 bP (bn Q q .add 3 (.tmp 13) (.const (.int .i64 1)) x2 (.int .i64 1)) fun x3 =>
 bP (pNil v0) fun x4 =>
 bP (fa Q q 154 2 6 x4) fun x5 =>
 bP (st Q q 3 1 x5 x3 G) fun G6 =>
 bP (bd Q q 82 z82 [(0,0,1),(1,1,1)] [v1,v2]) fun x7 =>
 bP (pNil v0) fun x8 =>
 bP (fa Q q 154 1 1 x8) fun x9 =>
 bP (st Q q 82 5 x9 x7 G6) fun G10 =>
 bP (bn Q q .lss 3 (.tmp 23) (.const (.int .i64 0)) v2 (.int .i64 0)) fun x11 =>
 bS (gV x11 false v2 G10) fun x12 G13 =>
 bS (gV x11 false v0 G13) fun x14 G15 =>
 bS (gP x11 false (pNil x14) G15) fun x16 G17 =>
 bS (gP x11 false (fa Q q 154 0 0 x16) G17) fun x18 G19 =>
 bS (gP x11 false (ld Q q 22 x18 G19) G19) fun x20 G21 =>
 bS (gP x11 false (ln Q q 22 x20) G21) fun x22 G23 =>
 bS (gP x11 false (bn Q q .geq 3 (.tmp 26) (.tmp 31) x12 x22) G23) fun x24 G25 =>
 bP (pickV x11 (.bool true) x24) fun x26 =>
 ifV x26 (
 some (.tuple #[],G25)) (
 bP (pNil v0) fun x27 =>
 bP (fa Q q 154 0 0 x27) fun x28 =>
 bP (ld Q q 22 x28 G25) fun x29 =>
 bP (ias Q q 22 1 x29 v2) fun x30 =>
 bP (ld Q q 23 x30 G25) fun x31 =>
 bP (pNil v0) fun x32 =>
 bP (fa Q q 154 1 1 x32) fun x33 =>
 bP (fa Q q 82 2 2 x33) fun x34 =>
 bP (st Q q 23 1 x34 x31 G25) fun G35 =>
 ifV v3 (
 bP (pNil v0) fun x49 =>
 bP (fa Q q 154 0 0 x49) fun x50 =>
 bP (ld Q q 22 x50 G35) fun x51 =>
 bP (ias Q q 22 1 x51 v2) fun x52 =>
 bP (st Q q 23 1 x52 v4 G35) fun G53 =>
 J0 (xq q 69 (nth undef [v0,v1,v2,v3,v4]) [(52,x52),(51,v4),(50,v2),(49,x51),(48,x50),(47,x49),(46,v0),(45,v3),(44,x34),(43,x33),(42,x32),(41,x31),(40,x30),(39,v2),(38,x29),(37,x28),(36,x27),(35,v0),(34,v0),(33,x26),(32,x24),(31,x22),(30,x20),(29,x18),(28,x16),(27,x14),(26,x12),(25,x11),(24,x11),(23,v2),(22,x9),(21,x8),(20,x7),(19,v2),(18,v1),(17,v0),(16,x5),(15,x4),(14,x3),(13,x2),(12,x1),(11,x0),(10,v0)] []) G53) (
 J0 (xq q 69 (nth undef [v0,v1,v2,v3,v4]) [(45,v3),(44,x34),(43,x33),(42,x32),(41,x31),(40,x30),(39,v2),(38,x29),(37,x28),(36,x27),(35,v0),(34,v0),(33,x26),(32,x24),(31,x22),(30,x20),(29,x18),(28,x16),(27,x14),(26,x12),(25,x11),(24,x11),(23,v2),(22,x9),(21,x8),(20,x7),(19,v2),(18,v1),(17,v0),(16,x5),(15,x4),(14,x3),(13,x2),(12,x1),(11,x0),(10,v0)] []) G35))
def s86 (q:Bool) (e:Ex) (v0 v1 v2 v3 v4:Value) (G:GS):OG:=sb86 q e (j86_0 q e) v0 v1 v2 v3 v4 G
theorem m86 {e:Ex} {E:Ev} (h:ExLe Q e E) (v0 v1 v2 v3 v4:Value) (G:GS):Ref (s86 true e v0 v1 v2 v3 v4 G) (s86 false (Ex.of E) v0 v1 v2 v3 v4 G):=by
 unfold s86 sb86
 have j0:=@mkj86_0 e E h
 exact Ref.gj
def jt86 (J0:Env → GS → OG):JT (Value × GS) :=
 (.n none .e (.n none .e (.n none .e (.n none .e (.n (some (fun T G=>J0 (nth undef T) G)) .e .e)))))
theorem jr86_0 (orc:FuncId → Bool) (J0:Env → GS → OG) (T:List Value) (G:GS):runC Q (evL Q orc) Tryz.f86.ntmps (jt86 J0) (bodyOf Tryz.f86) (retE Q Tryz.f86.results.toList) [true,true,true,true] (nth undef T) G = jb86_0 false (Ex.of (E orc))  (nth undef T) G:=by kernel_rfl
theorem jo86 (orc:FuncId → Bool):JOk Q orc Tryz.f86.ntmps (jt86 (j86_0 false (Ex.of (E orc))) ) (bodyOf Tryz.f86) (retE Q Tryz.f86.results.toList) :=
 jOk Q orc (l:=[([true,true,true,true],(fun T G=>j86_0 false (Ex.of (E orc)) (nth undef T) G))]) (by kernel_rfl) (AllE.c (fun T G=>jr86_0 orc (j86_0 false (Ex.of (E orc))) T G) (AllE.z))
theorem je86 (orc:FuncId → Bool) (J0:Env → GS → OG) (v0 v1 v2 v3 v4:Value) (G:GS):sxC Q (evL Q orc) Tryz.f86.ntmps (jt86 J0) (bodyOf Tryz.f86) (nth undef [v0,v1,v2,v3,v4]) G (retE Q Tryz.f86.results.toList) = sb86 false (Ex.of (E orc)) J0 v0 v1 v2 v3 v4 G:=by kernel_rfl
theorem f86 {orc:FuncId → Bool} {e:Ex} (h:ExLe Q e (E orc)) (v0 v1 v2 v3 v4:Value) (G:GS):Ref (s86 true e v0 v1 v2 v3 v4 G) ((E orc).cl 86 [v0,v1,v2,v3,v4] G) :=
 fun r hr=>cl_sxC Q orc (vs:=[v0,v1,v2,v3,v4]) G (jt86 (j86_0 false (Ex.of (E orc))) ) Tryz.func86 (by kernel_rfl) (by kernel_rfl) (by kernel_rfl) (by kernel_rfl) (by kernel_rfl) (jo86 orc) (je86 orc (j86_0 false (Ex.of (E orc))) v0 v1 v2 v3 v4 G) (m86 h v0 v1 v2 v3 v4 G r hr)
def jb87_0 (q:Bool) (e:Ex) (τ:Env) (G:GS):OG :=
 bV q (τ 0) fun a0_ =>
 nf q 152 0 0 a0_ fun x5 =>
 fl q 149 2 14 3 x5 G fun x7 =>
 bP (bn Q q .eql 3 (.tmp 69) (.const (.int .i64 9)) x7 (.int .i64 9)) fun x8 =>
 some (x8,G)
def j87_0 (q:Bool) (e:Ex) (τ:Env) (G:GS):OG:=jb87_0 q e τ G
theorem mj87_0 {e:Ex} {E:Ev} (h:ExLe Q e E) (τ:Env) (G:GS):Ref (j87_0 true e τ G) (j87_0 false (Ex.of E) τ G):=by
 unfold j87_0 jb87_0
 exact Ref.gq
theorem mkj87_0 {e:Ex} {E:Ev} (h:ExLe Q e E) {τ:Env} {l U:List (Nat × Value)} {G:GS} (hU:UOk τ U):Ref (j87_0 true e (xq true 71 τ l U) G) (j87_0 false (Ex.of E) (xq false 71 τ l U) G):=by
 rw [xq_eq hU]
 exact mj87_0 h _ _
def sb87 (q:Bool) (e:Ex) (J0:Env → GS → OG) (v0 v1:Value) (G:GS):OG :=
 bP (pNil v0) fun x0 =>
 bP (fa Q q 152 0 0 x0) fun x1 =>
 bP (fa Q q 149 6 18 x1) fun x2 =>
 bP (st Q q 23 1 x2 (.int .u64 0) G) fun G3 =>
 bP (pNil v0) fun x9 =>
 bP (fa Q q 152 0 0 x9) fun x10 =>
 bP (fa Q q 149 2 14 x10) fun x11 =>
 bP (ld Q q 3 x11 G3) fun x12 =>
 bP (bn Q q .eql 3 (.tmp 14) (.const (.int .i64 1)) x12 (.int .i64 1)) fun x13 =>
 ifV x13 (
 bP (pNil v0) fun x14 =>
 bP (fa Q q 152 0 0 x14) fun x15 =>
 bS (e.ev.cl 122 [x15,v1] G3) fun x16 G17 =>
 ifV x16 (
 bP (pNil v0) fun x18 =>
 bP (fa Q q 152 0 0 x18) fun x19 =>
 bP (fa Q q 149 2 14 x19) fun x20 =>
 bP (st Q q 3 1 x20 (.int .i64 4) G17) fun G21 =>
 J0 (xq q 71 (nth undef [v0,v1]) [(25,x20),(24,x19),(23,x18),(22,v0),(21,x16),(20,v1),(19,x15),(18,x14),(17,v0),(15,x13),(16,x13),(14,x12),(13,x11),(12,x10),(11,x9),(10,v0),(9,x2),(8,x1),(7,x0),(6,v0),(4,(.bool false))] []) G21) (
 J0 (xq q 71 (nth undef [v0,v1]) [(21,x16),(20,v1),(19,x15),(18,x14),(17,v0),(15,x13),(16,x13),(14,x12),(13,x11),(12,x10),(11,x9),(10,v0),(9,x2),(8,x1),(7,x0),(6,v0),(4,(.bool false))] []) G17)) (
 bP (bn Q q .eql 3 (.tmp 14) (.const (.int .i64 4)) x12 (.int .i64 4)) fun x22 =>
 ifV x22 (
 bP (pNil v0) fun x23 =>
 bP (fa Q q 152 1 20 x23) fun x24 =>
 bP (ld Q q 150 x24 G3) fun x25 =>
 bP (pNil x25) fun x26 =>
 bP (fa Q q 200 0 0 x26) fun x27 =>
 bS (e.ev.cl 123 [x27,v1] G3) fun x28 G29 =>
 bP (pNil v0) fun x30 =>
 bP (fa Q q 152 1 20 x30) fun x31 =>
 bP (ld Q q 150 x31 G29) fun x32 =>
 bP (pNil x32) fun x33 =>
 bP (fa Q q 200 0 0 x33) fun x34 =>
 bS (e.ev.cl 124 [x34] G29) fun x35 G36 =>
 bP (pNil v0) fun x37 =>
 bP (fa Q q 152 0 0 x37) fun x38 =>
 bP (fa Q q 149 6 18 x38) fun x39 =>
 bP (st Q q 23 1 x39 x35 G36) fun G40 =>
 ifV x28 (
 bP (pNil v0) fun x41 =>
 bP (fa Q q 152 0 0 x41) fun x42 =>
 bS (e.ev.cl 125 [x42,(.int .i64 5)] G40) fun x43 G44 =>
 J0 (xq q 71 (nth undef [v0,v1]) [(51,x43),(50,x42),(49,x41),(48,v0),(47,x28),(46,x39),(45,x38),(44,x37),(43,x35),(42,x34),(41,x33),(40,x32),(39,x31),(38,x30),(37,v0),(36,v0),(5,x28),(35,x28),(34,v1),(33,x27),(32,x26),(31,x25),(30,x24),(29,x23),(28,v0),(26,x22),(27,x22),(15,x13),(16,x13),(14,x12),(13,x11),(12,x10),(11,x9),(10,v0),(9,x2),(8,x1),(7,x0),(6,v0),(4,(.bool false))] []) G44) (
 J0 (xq q 71 (nth undef [v0,v1]) [(47,x28),(46,x39),(45,x38),(44,x37),(43,x35),(42,x34),(41,x33),(40,x32),(39,x31),(38,x30),(37,v0),(36,v0),(5,x28),(35,x28),(34,v1),(33,x27),(32,x26),(31,x25),(30,x24),(29,x23),(28,v0),(26,x22),(27,x22),(15,x13),(16,x13),(14,x12),(13,x11),(12,x10),(11,x9),(10,v0),(9,x2),(8,x1),(7,x0),(6,v0),(4,(.bool false))] []) G40)) (
 bP (bn Q q .eql 3 (.tmp 14) (.const (.int .i64 5)) x12 (.int .i64 5)) fun x45 =>
 ifV x45 (
 bP (pNil v0) fun x46 =>
 bP (fa Q q 152 0 0 x46) fun x47 =>
 bP (fa Q q 149 5 17 x47) fun x48 =>
 bP (ld Q q 147 x48 G3) fun x49 =>
 bS (e.ev.cl 126 [x49,v1] G3) fun x50 G51 =>
 ifV x50 (
 bP (pNil v0) fun x52 =>
 bP (fa Q q 152 0 0 x52) fun x53 =>
 bP (fa Q q 149 2 14 x53) fun x54 =>
 bP (st Q q 3 1 x54 (.int .i64 9) G51) fun G55 =>
 J0 (xq q 71 (nth undef [v0,v1]) [(64,x54),(63,x53),(62,x52),(61,v0),(60,x50),(59,v1),(58,x49),(57,x48),(56,x47),(55,x46),(54,v0),(52,x45),(53,x45),(26,x22),(27,x22),(15,x13),(16,x13),(14,x12),(13,x11),(12,x10),(11,x9),(10,v0),(9,x2),(8,x1),(7,x0),(6,v0),(4,(.bool false))] []) G55) (
 J0 (xq q 71 (nth undef [v0,v1]) [(60,x50),(59,v1),(58,x49),(57,x48),(56,x47),(55,x46),(54,v0),(52,x45),(53,x45),(26,x22),(27,x22),(15,x13),(16,x13),(14,x12),(13,x11),(12,x10),(11,x9),(10,v0),(9,x2),(8,x1),(7,x0),(6,v0),(4,(.bool false))] []) G51)) (
 J0 (xq q 71 (nth undef [v0,v1]) [(52,x45),(53,x45),(26,x22),(27,x22),(15,x13),(16,x13),(14,x12),(13,x11),(12,x10),(11,x9),(10,v0),(9,x2),(8,x1),(7,x0),(6,v0),(4,(.bool false))] []) G3)))
def s87 (q:Bool) (e:Ex) (v0 v1:Value) (G:GS):OG:=sb87 q e (j87_0 q e) v0 v1 G
theorem m87 {e:Ex} {E:Ev} (h:ExLe Q e E) (v0 v1:Value) (G:GS):Ref (s87 true e v0 v1 G) (s87 false (Ex.of E) v0 v1 G):=by
 unfold s87 sb87
 have j0:=@mkj87_0 e E h
 exact Ref.gj
def jt87 (J0:Env → GS → OG):JT (Value × GS) :=
 (.n none .e (.n none .e (.n (some (fun T G=>J0 (nth undef T) G)) .e .e)))
theorem jr87_0 (orc:FuncId → Bool) (J0:Env → GS → OG) (T:List Value) (G:GS):runC Q (evL Q orc) Tryz.f87.ntmps (jt87 J0) (bodyOf Tryz.f87) (retE Q Tryz.f87.results.toList) [true,true] (nth undef T) G = jb87_0 false (Ex.of (E orc))  (nth undef T) G:=by kernel_rfl
theorem jo87 (orc:FuncId → Bool):JOk Q orc Tryz.f87.ntmps (jt87 (j87_0 false (Ex.of (E orc))) ) (bodyOf Tryz.f87) (retE Q Tryz.f87.results.toList) :=
 jOk Q orc (l:=[([true,true],(fun T G=>j87_0 false (Ex.of (E orc)) (nth undef T) G))]) (by kernel_rfl) (AllE.c (fun T G=>jr87_0 orc (j87_0 false (Ex.of (E orc))) T G) (AllE.z))
theorem je87 (orc:FuncId → Bool) (J0:Env → GS → OG) (v0 v1:Value) (G:GS):sxC Q (evL Q orc) Tryz.f87.ntmps (jt87 J0) (bodyOf Tryz.f87) (nth undef [v0,v1]) G (retE Q Tryz.f87.results.toList) = sb87 false (Ex.of (E orc)) J0 v0 v1 G:=by kernel_rfl
theorem f87 {orc:FuncId → Bool} {e:Ex} (h:ExLe Q e (E orc)) (v0 v1:Value) (G:GS):Ref (s87 true e v0 v1 G) ((E orc).cl 87 [v0,v1] G) :=
 fun r hr=>cl_sxC Q orc (vs:=[v0,v1]) G (jt87 (j87_0 false (Ex.of (E orc))) ) Tryz.func87 (by kernel_rfl) (by kernel_rfl) (by kernel_rfl) (by kernel_rfl) (by kernel_rfl) (jo87 orc) (je87 orc (j87_0 false (Ex.of (E orc))) v0 v1 G) (m87 h v0 v1 G r hr)
def s88 (q:Bool) (e:Ex) (v0:Value) (G:GS):OG :=
 nl q 149 6 18 23 v0 G fun x2 =>
 some (x2,G)
theorem f88 (h:ExLe Q e (E orc)) (v0:Value) (G:GS):Ref (s88 true e v0 G) ((E orc).cl 88 [v0] G):=cS (S:=fun q e=>s88 q e v0 G) Tryz.func88 (by unfold s88; exact Ref.gq)
def jb89_0 (q:Bool) (e:Ex) (τ:Env) (G:GS):OG :=
 bV q (τ 0) fun a0_ =>
 bV q (τ 3) fun a3_ =>
 bP (bn Q q .neq 51 (.tmp 25) (.const (.int .i64 0)) a3_ (.int .i64 0)) fun x18 =>
 bS (gV x18 true a3_ G) fun x19 G20 =>
 bS (gP x18 true (bn Q q .neq 51 (.tmp 28) (.const (.int .i64 15)) x19 (.int .i64 15)) G20) fun x21 G22 =>
 bP (pickV x18 x21 (.bool false)) fun x23 =>
 ifV x23 (
 nf q 143 7 9 a0_ fun x25 =>
 bP (st Q q 51 1 x25 a3_ G22) fun G26 =>
 some (.tuple #[],G26)) (
 some (.tuple #[],G22))
def j89_0 (q:Bool) (e:Ex) (τ:Env) (G:GS):OG:=jb89_0 q e τ G
theorem mj89_0 {e:Ex} {E:Ev} (h:ExLe Q e E) (τ:Env) (G:GS):Ref (j89_0 true e τ G) (j89_0 false (Ex.of E) τ G):=by
 unfold j89_0 jb89_0
 exact Ref.gq
theorem mkj89_0 {e:Ex} {E:Ev} (h:ExLe Q e E) {τ:Env} {l U:List (Nat × Value)} {G:GS} (hU:UOk τ U):Ref (j89_0 true e (xq true 35 τ l U) G) (j89_0 false (Ex.of E) (xq false 35 τ l U) G):=by
 rw [xq_eq hU]
 exact mj89_0 h _ _
end
end Go.Proofs.YtedmgpchggogpaaGreat.Lift
