import Derived.Test.YtlaojmcekeohnaaGreatDoorProg
import Derived.Test.YtlaojmcekeohnaaGreatDoorGhPJ
import Derived.Test.YtlaojmcekeohnaaGreatDoorGhPG
import Derived.KernelRfl
namespace Go.Proofs.YtlaojmcekeohnaaGreatDoor.Lift
open Go Go.Proofs.YtlaojmcekeohnaaGreatDoor.Gh Go.Proofs
set_option linter.unusedVariables false
set_option maxRecDepth 100000
@[reducible] noncomputable def Q:Program:=Tryz.prog
@[reducible] noncomputable def E (orc:FuncId → Bool):Ev:=evL Tryz.prog orc
noncomputable section
abbrev OG:Type:=Option (Value × GS)
abbrev OL:Type:=Option (Exit × Env × GS)
abbrev LpF:Type:=Env → GS → OL
variable {orc:FuncId → Bool} {e:Ex}
abbrev gP (x:Value) (b:Bool) (o:Option Value) (G:GS):Option (Value × GS):=gd x b (bP o fun y=>some (y,G)) G
abbrev gS (x:Value) (b:Bool) (o:Option (Value × GS)) (G:GS):Option (Value × GS):=gd x b (bS o fun y G=>some (y,G)) G
abbrev gV (x:Value) (b:Bool) (v:Value) (G:GS):Option (Value × GS):=gd x b (some (v,G)) G
abbrev nf {β:Type} (q:Bool) (t f o:Nat) (v:Value) (k:Value → Option β):Option β:=bP (pNil v) fun x=>bP (fa Q q t f o x) k
abbrev fl {β:Type} (q:Bool) (t f o u:Nat) (v:Value) (G:GS) (k:Value → Option β):Option β:=bP (fa Q q t f o v) fun x=>bP (ld Q q u x G) k
abbrev nl {β:Type} (q:Bool) (t f o u:Nat) (v:Value) (G:GS) (k:Value → Option β):Option β:=bP (pNil v) fun x=>bP (fa Q q t f o x) fun y=>bP (ld Q q u y G) k
@[simp] theorem gP_s (x:Value) (b:Bool) (o:Option Value) (G:GS):gP x b o G = gd x b (bP o fun y=>some (y,G)) G:=Eq.trans rfl rfl
@[simp] theorem gS_s (x:Value) (b:Bool) (o:Option (Value × GS)) (G:GS):gS x b o G = gd x b (bS o fun y G=>some (y,G)) G:=Eq.trans rfl rfl
@[simp] theorem gV_s (x:Value) (b:Bool) (v:Value) (G:GS):gV x b v G = gd x b (some (v,G)) G:=Eq.trans rfl rfl
@[simp] theorem nf_s {β:Type} (q:Bool) (t f o:Nat) (v:Value) (k:Value → Option β):nf q t f o v k = bP (pNil v) fun x=>bP (fa Q q t f o x) k:=Eq.trans rfl rfl
@[simp] theorem fl_s {β:Type} (q:Bool) (t f o u:Nat) (v:Value) (G:GS) (k:Value → Option β):fl q t f o u v G k = bP (fa Q q t f o v) fun x=>bP (ld Q q u x G) k:=Eq.trans rfl rfl
@[simp] theorem nl_s {β:Type} (q:Bool) (t f o u:Nat) (v:Value) (G:GS) (k:Value → Option β):nl q t f o u v G k = bP (pNil v) fun x=>bP (fa Q q t f o x) fun y=>bP (ld Q q u y G) k:=Eq.trans rfl rfl
theorem cS {k : FuncId} {fn : Func} {vs : List Value} {G : GS} {S : Bool → Ex → Option (Value × GS)} (hf : Q.funcs[k]? = some fn) (m : Ref (S true e) (S false (Ex.of (E orc)))) (hn : (fn.name == "runtime.NumGoroutine") = false := by kernel_rfl) (hb : fn.body.isSome = true := by kernel_rfl)
  (ho:(vs.isEmpty && orc k) = false:=by kernel_rfl) (hp:isPur Q orc k = false:=by kernel_rfl) (hl:Nat.ble vs.length fn.ntmps = true:=by kernel_rfl) (hx:sxE Q (evL Q orc) fn.ntmps (bodyOf fn) (nth undef vs) G (retE Q fn.results.toList) = S false (Ex.of (E orc)):=by kernel_rfl) :
  Ref (S true e) ((E orc).cl k vs G):=fun r hr=>cl_sxE_some Q orc G hf hn hb ho hp hl hx (m r hr)
abbrev LT (orc:FuncId → Bool) (N:Nat) (c:Code) (b:LpF → LpF):Prop:=∀ lp:LpF,(∀ τ G,Ref (lp τ G) (mapE ((E orc).lp c (lst N τ) G))) → ∀ (T:List Value) (G:GS),T.length = N → Ref (b lp (nth undef T) G) (mapE ((E orc).lp c T G))
theorem cL {N:Nat} {c:Code} {B:Bool → Ex → LpF → LpF} (m:∀ {lp lp':LpF},LpLe lp lp' → ∀ τ G,Ref (B true e lp τ G) (B false (Ex.of (E orc)) lp' τ G))
  (hx:∀ T G,sxE Q (evL Q orc) N c (nth undef T) G (seqXE (fun τ G'=>mapE ((evL Q orc).lp c (lst N (nth undef (lst N τ))) G')) fun e τ G'=>some (e,nth undef (lst N τ),G')) = B false (Ex.of (E orc)) (fun τ G=>mapE ((E orc).lp c (lst N τ) G)) (nth undef T) G:=by intro T G; kernel_rfl) :
  LT orc N c (B true e):=fun lp hlp T G hT r hr=>lp_sxN Q orc G hT (hx T G) (m ⟨hlp⟩ _ _ r hr)
theorem cf {n f:FuncId} {vs:List Value} {G:GS} {x:Option (Value × GS)} (h:Ref x ((E orc).cl n vs G)):Ref (leaf f n x) ((E orc).cl f vs G):=Ref.leaf (y:=fun f=>(E orc).cl f vs G) h
theorem ck {j f k:Nat} {τ:Env} {G:GS} {x:Option (Exit × Env × GS)} (h:Ref x (mapE ((E orc).lp (codeAt Q f j) (lst (nOf Q f) τ) G))):Ref (leaf k j x) (mapE ((E orc).lp (codeAt Q f k) (lst (nOf Q f) τ) G)):=Ref.leaf (y:=fun k=>mapE ((E orc).lp (codeAt Q f k) (lst (nOf Q f) τ) G)) h
theorem Ref.gj {α:Type} {x y:Option α} (t:Ref x y:=by repeat' (with_reducible first | exact Ref.rfl' _ | exact ROp.r | refine Ref.bP ?_ fun _=>?_ | refine Ref.bS ?_ fun _ _=>?_ | exact Ref.cl (by assumption) | refine Ref.ifV ?_ ?_ | refine LpLe.rx (by assumption) ?_ | refine Ref.xitq ?_ | exact UOk.z | refine UOk.c (by assumption) ?_ | exact Ref.nil _ | refine Ref.bVe fun _ _=>?_ | refine Ref.bLq (by assumption) ?_ fun _ _ _=>?_ | refine Ref.ifE ?_ ?_ | refine Ref.chk ?_ ?_ | refine Imp.and ?_ ?_ | refine Imp.or ?_ | exact Imp.rfl' _ | refine Imp.sameO ?_ | refine Ref.gd ?_ | exact Ref.cValue (by assumption) | refine Ref.bX ?_ fun _ _ _=>?_ | exact Ref.scQ (by assumption) | exact Ref.xRangeQ (by assumption) | exact Ref.cInvoke (by assumption) | refine j0 ?_ | refine j1 ?_ | refine j2 ?_ | refine j3 ?_ | refine j4 ?_ | refine j5 ?_ | refine j6 ?_)):Ref x y:=t
instance ilp8_0:LpIs Q 8 0 (subAt [1,1,1,1,1,1,1,0,1,0,0] (bodyOf Tryz.f8)) 262:=⟨by kernel_rfl,by kernel_rfl⟩
instance ilp39_0:LpIs Q 39 0 (subAt [1,1,1,0,1,0,0] (bodyOf Tryz.f39)) 60:=⟨by kernel_rfl,by kernel_rfl⟩
instance ilp40_0:LpIs Q 40 0 (subAt [1,1,1,0,1,0,0] (bodyOf Tryz.f40)) 56:=⟨by kernel_rfl,by kernel_rfl⟩
instance ilp40_1:LpIs Q 40 1 (subAt [1,1,1,0,1,0,0,1,0,1,0,0] (bodyOf Tryz.f40)) 56:=⟨by kernel_rfl,by kernel_rfl⟩
instance ilp42_0:LpIs Q 42 0 (subAt [1,1,1,0,1,0,0] (bodyOf Tryz.f42)) 56:=⟨by kernel_rfl,by kernel_rfl⟩
instance ilp42_1:LpIs Q 42 1 (subAt [1,1,1,0,1,0,0,1,0,1,0,0] (bodyOf Tryz.f42)) 56:=⟨by kernel_rfl,by kernel_rfl⟩
instance ilp44_0:LpIs Q 44 0 (subAt [1,1,1,0,1,0,0] (bodyOf Tryz.f44)) 56:=⟨by kernel_rfl,by kernel_rfl⟩
instance ilp44_1:LpIs Q 44 1 (subAt [1,1,1,0,1,0,0,1,0,1,0,0] (bodyOf Tryz.f44)) 56:=⟨by kernel_rfl,by kernel_rfl⟩
instance ilp71_0:LpIs Q 71 0 (subAt [1,1,1,1,1,0,0] (bodyOf Tryz.f71)) 28:=⟨by kernel_rfl,by kernel_rfl⟩
instance ilp99_0:LpIs Q 99 0 (subAt [1,1,0,1,0,0] (bodyOf Tryz.f99)) 25:=⟨by kernel_rfl,by kernel_rfl⟩
instance ilp101_0:LpIs Q 101 0 (subAt [1,0,1,0,0] (bodyOf Tryz.f101)) 25:=⟨by kernel_rfl,by kernel_rfl⟩
instance ilp102_0:LpIs Q 102 0 (subAt [1,1,0,1,0,0] (bodyOf Tryz.f102)) 40:=⟨by kernel_rfl,by kernel_rfl⟩
instance ilp114_0:LpIs Q 114 0 (subAt [1,1,1,0,1,0,0] (bodyOf Tryz.f114)) 26:=⟨by kernel_rfl,by kernel_rfl⟩
instance ilp125_0:LpIs Q 125 0 (subAt [1,1,0,1,0,0] (bodyOf Tryz.f125)) 23:=⟨by kernel_rfl,by kernel_rfl⟩
instance ilp126_0:LpIs Q 126 0 (subAt [1,1,0,1,0,0] (bodyOf Tryz.f126)) 29:=⟨by kernel_rfl,by kernel_rfl⟩
instance ilp176_0:LpIs Q 176 0 (subAt [1,1,0,1,0,0] (bodyOf Tryz.f176)) 16:=⟨by kernel_rfl,by kernel_rfl⟩
instance ilp177_0:LpIs Q 177 0 (subAt [1,1,0,1,0,0] (bodyOf Tryz.f177)) 19:=⟨by kernel_rfl,by kernel_rfl⟩
instance ilp181_0:LpIs Q 181 0 (subAt [1,0,1,0,0] (bodyOf Tryz.f181)) 32:=⟨by kernel_rfl,by kernel_rfl⟩
instance ilp181_1:LpIs Q 181 1 (subAt [1,1,0,1,0,0] (bodyOf Tryz.f181)) 32:=⟨by kernel_rfl,by kernel_rfl⟩
instance ilp194_0:LpIs Q 194 0 (subAt [1,1,0,0,0] (bodyOf Tryz.f194)) 44:=⟨by kernel_rfl,by kernel_rfl⟩
instance ilp222_0:LpIs Q 222 0 (subAt [1,0,0] (bodyOf Tryz.f222)) 31:=⟨by kernel_rfl,by kernel_rfl⟩
instance ilp226_0:LpIs Q 226 0 (subAt [1,1,1,1,1,0,1,0,0] (bodyOf Tryz.f226)) 120:=⟨by kernel_rfl,by kernel_rfl⟩
instance ilp226_1:LpIs Q 226 1 (subAt [1,1,1,1,1,0,1,0,0,1,1,0,0,1,1,1,0,0] (bodyOf Tryz.f226)) 120:=⟨by kernel_rfl,by kernel_rfl⟩
instance ilp232_0:LpIs Q 232 0 (subAt [1,1,1,1,1,0,1,0,0] (bodyOf Tryz.f232)) 120:=⟨by kernel_rfl,by kernel_rfl⟩
instance ilp232_1:LpIs Q 232 1 (subAt [1,1,1,1,1,0,1,0,0,1,1,0,0,1,1,1,0,0] (bodyOf Tryz.f232)) 120:=⟨by kernel_rfl,by kernel_rfl⟩
instance ilp234_0:LpIs Q 234 0 (subAt [1,1,1,1,1,0,1,0,0] (bodyOf Tryz.f234)) 120:=⟨by kernel_rfl,by kernel_rfl⟩
instance ilp234_1:LpIs Q 234 1 (subAt [1,1,1,1,1,0,1,0,0,1,1,0,0,1,1,1,0,0] (bodyOf Tryz.f234)) 120:=⟨by kernel_rfl,by kernel_rfl⟩
instance ilp236_0:LpIs Q 236 0 (subAt [1,0,0] (bodyOf Tryz.f236)) 25:=⟨by kernel_rfl,by kernel_rfl⟩
instance ilp236_1:LpIs Q 236 1 (subAt [1,0,0,1,1,0,0,1,0,0] (bodyOf Tryz.f236)) 25:=⟨by kernel_rfl,by kernel_rfl⟩
instance iln35:LnOk Q 35:=⟨fun a n c=>by kernel_rfl⟩
instance iep77:EpOk Q 77:=⟨fun neg x y=>by cases neg <;> kernel_rfl,fun neg x y a=>by cases neg <;> kernel_rfl,fun neg x y a=>by cases neg <;> kernel_rfl⟩
abbrev z3:List Value:=[(.int .i64 0)]
instance ibs35_3_0_1_2:BsOk Q 35 3 (rep z3 3) 1 [(0,0,1),(1,1,1),(2,2,1)]:=bs_ok Q (z0:=z3) (by kernel_rfl) rfl (by decide) (by kernel_rfl)
instance iias35:IasOk Q 35 1:=⟨fun b o s n c k j=>by kernel_rfl⟩
instance ild3:LdOk Q 3:=⟨fun b o s G=>(show _ = loadOne b o G by kernel_rfl).trans (loadOne_eq b o G)⟩
instance iln38:LnOk Q 38:=⟨fun a n c=>by kernel_rfl⟩
instance ist3:StOk Q 3 1:=⟨fun b o s v G=>by kernel_rfl⟩
instance icv3_22:CvOk Q 3 22 .i64 .u64:=⟨fun n=>by kernel_rfl⟩
abbrev z24:List Value:=[(.int .i64 0),(.int .i64 0),(.int .i64 0),(.int .u64 0)]
instance ibd24_0_3:BdOk Q 24 z24 [(0,0,1),(3,3,1)]:=bd_ok Q (by kernel_rfl) (by kernel_rfl) (by kernel_rfl)
abbrev z29:List Value:=[(.int .i64 0),(.int .i64 0),(.int .i64 0),(.int .i64 0),(.int .i64 0),(.int .i64 0),(.int .u64 0),(.int .i64 0),(.int .i64 0),(.int .u64 0)]
instance ibd29_0_1_2_3:BdOk Q 29 z29 [(0,0,1),(1,1,1),(2,2,1),(3,3,4)]:=bd_ok Q (by kernel_rfl) (by kernel_rfl) (by kernel_rfl)
instance ial29:AlOk Q 29 z29:=⟨fun G=>by kernel_rfl⟩
instance ist29:StOk Q 29 10:=⟨fun b o s v G=>by kernel_rfl⟩
instance ifa88_2:FaOk Q 88 2 4:=⟨fun b o s=>by kernel_rfl⟩
instance ild83:LdOk Q 83:=⟨fun b o s G=>(show _ = loadOne b o G by kernel_rfl).trans (loadOne_eq b o G)⟩
instance ifa88_0:FaOk Q 88 0 0:=⟨fun b o s=>by kernel_rfl⟩
instance ilda82:LdAOk Q 82 3:=⟨fun b o s G=>by kernel_rfl⟩
instance iias83:IasOk Q 83 1:=⟨fun b o s n c k j=>by kernel_rfl⟩
instance ist79:StOk Q 79 1:=⟨fun b o s v G=>by kernel_rfl⟩
instance ifa88_5:FaOk Q 88 5 7:=⟨fun b o s=>by kernel_rfl⟩
instance ild84:LdOk Q 84:=⟨fun b o s G=>(show _ = loadOne b o G by kernel_rfl).trans (loadOne_eq b o G)⟩
instance iias84:IasOk Q 84 1:=⟨fun b o s n c k j=>by kernel_rfl⟩
instance ist89:StOk Q 89 1:=⟨fun b o s v G=>by kernel_rfl⟩
instance ibd24_0:BdOk Q 24 z24 [(0,0,1)]:=bd_ok Q (by kernel_rfl) (by kernel_rfl) (by kernel_rfl)
instance ifa29_3:FaOk Q 29 3 3:=⟨fun b o s=>by kernel_rfl⟩
instance ist24:StOk Q 24 4:=⟨fun b o s v G=>by kernel_rfl⟩
instance ilda29:LdAOk Q 29 10:=⟨fun b o s G=>by kernel_rfl⟩
instance ibs38_1_0:BsOk Q 38 1 (rep z29 1) 10 [(0,0,10)]:=bs_ok Q (z0:=z29) (by kernel_rfl) rfl (by decide) (by kernel_rfl)
instance iap38_38:ApOk Q 38 38 10 80:=⟨fun s x G=>by kernel_rfl⟩
instance iias38:IasOk Q 38 10:=⟨fun b o s n c k j=>by kernel_rfl⟩
instance ild79:LdOk Q 79:=⟨fun b o s G=>(show _ = loadOne b o G by kernel_rfl).trans (loadOne_eq b o G)⟩
instance ifa88_1:FaOk Q 88 1 3:=⟨fun b o s=>by kernel_rfl⟩
instance ild58:LdOk Q 58:=⟨fun b o s G=>(show _ = loadOne b o G by kernel_rfl).trans (loadOne_eq b o G)⟩
abbrev z27:List Value:=[(.int .i64 0),(.int .i64 0),(.int .u64 0)]
instance ibd27_0:BdOk Q 27 z27 [(0,0,1)]:=bd_ok Q (by kernel_rfl) (by kernel_rfl) (by kernel_rfl)
instance ifa29_2:FaOk Q 29 2 2:=⟨fun b o s=>by kernel_rfl⟩
instance ifa29_4:FaOk Q 29 4 7:=⟨fun b o s=>by kernel_rfl⟩
instance ist27:StOk Q 27 3:=⟨fun b o s v G=>by kernel_rfl⟩
instance ild89:LdOk Q 89:=⟨fun b o s G=>(show _ = loadOne b o G by kernel_rfl).trans (loadOne_eq b o G)⟩
instance ifa27_0:FaOk Q 27 0 0:=⟨fun b o s=>by kernel_rfl⟩
instance ist25:StOk Q 25 1:=⟨fun b o s v G=>by kernel_rfl⟩
instance ifa27_2:FaOk Q 27 2 2:=⟨fun b o s=>by kernel_rfl⟩
instance ist22:StOk Q 22 1:=⟨fun b o s v G=>by kernel_rfl⟩
instance ifa29_1:FaOk Q 29 1 1:=⟨fun b o s=>by kernel_rfl⟩
instance ifa82_2:FaOk Q 82 2 2:=⟨fun b o s=>by kernel_rfl⟩
abbrev z82:List Value:=[(.int .i64 0),(.int .i64 0),(.int .i64 0)]
instance ial82:AlOk Q 82 z82:=⟨fun G=>by kernel_rfl⟩
instance ist82:StOk Q 82 3:=⟨fun b o s v G=>by kernel_rfl⟩
instance iep58:EpOk Q 58:=⟨fun neg x y=>by cases neg <;> kernel_rfl,fun neg x y a=>by cases neg <;> kernel_rfl,fun neg x y a=>by cases neg <;> kernel_rfl⟩
abbrev z57:List Value:=[(.int .i64 0),(.int .i64 0),(.int .i64 0),(.int .i64 0)]
instance ial57:AlOk Q 57 z57:=⟨fun G=>by kernel_rfl⟩
instance ist57:StOk Q 57 4:=⟨fun b o s v G=>by kernel_rfl⟩
instance ilda57:LdAOk Q 57 4:=⟨fun b o s G=>by kernel_rfl⟩
instance ibd57_0_1_2_3:BdOk Q 57 z57 [(0,0,1),(1,1,1),(2,2,1),(3,3,1)]:=bd_ok Q (by kernel_rfl) (by kernel_rfl) (by kernel_rfl)
instance ibs35_1_0:BsOk Q 35 1 (rep z3 1) 1 [(0,0,1)]:=bs_ok Q (z0:=z3) (by kernel_rfl) rfl (by decide) (by kernel_rfl)
instance ibd82_0_1_2:BdOk Q 82 z82 [(0,0,1),(1,1,1),(2,2,1)]:=bd_ok Q (by kernel_rfl) (by kernel_rfl) (by kernel_rfl)
instance ibd82_1_2:BdOk Q 82 z82 [(1,1,1),(2,2,1)]:=bd_ok Q (by kernel_rfl) (by kernel_rfl) (by kernel_rfl)
abbrev z79:List Value:=[(.pointer none)]
instance imk83:MkSlOk Q 83 1 8 z79:=⟨fun k k' l c G=>by kernel_rfl⟩
instance imk35:MkSlOk Q 35 1 8 z3:=⟨fun k k' l c G=>by kernel_rfl⟩
abbrev z89:List Value:=[(.pointer none)]
instance imk84:MkSlOk Q 84 1 8 z89:=⟨fun k k' l c G=>by kernel_rfl⟩
abbrev z35:List Value:=[(.slice none 0 0)]
instance imk85:MkSlOk Q 85 1 24 z35:=⟨fun k k' l c G=>by kernel_rfl⟩
abbrev z4:List Value:=[(.bool false)]
instance imk86:MkSlOk Q 86 1 1 z4:=⟨fun k k' l c G=>by kernel_rfl⟩
abbrev z88:List Value:=[(.int .i64 0),(.int .i64 0),(.int .i64 0),(.pointer none),(.slice none 0 0),(.slice none 0 0),(.slice none 0 0),(.slice none 0 0),(.slice none 0 0),(.slice none 0 0),(.slice none 0 0),(.slice none 0 0),(.int .i64 0)]
instance ibd88_0_1_2_3_4_5_6_7_8_9:BdOk Q 88 z88 [(0,0,3),(1,3,1),(2,4,1),(3,5,1),(4,6,1),(5,7,1),(6,8,1),(7,9,1),(8,10,1),(9,11,1)]:=bd_ok Q (by kernel_rfl) (by kernel_rfl) (by kernel_rfl)
abbrev z166:List Value:=[(.bool false),(.pointer none),(.int .i64 0)]
instance ibd166_0_2:BdOk Q 166 z166 [(0,0,1),(2,2,1)]:=bd_ok Q (by kernel_rfl) (by kernel_rfl) (by kernel_rfl)
instance ifa166_2:FaOk Q 166 2 2:=⟨fun b o s=>by kernel_rfl⟩
instance ild25:LdOk Q 25:=⟨fun b o s G=>(show _ = loadOne b o G by kernel_rfl).trans (loadOne_eq b o G)⟩
instance ifa166_1:FaOk Q 166 1 1:=⟨fun b o s=>by kernel_rfl⟩
instance ist133:StOk Q 133 1:=⟨fun b o s v G=>by kernel_rfl⟩
abbrev z170:List Value:=[(.bool false),(.int .i64 0),(.int .i64 0),(.int .i64 0),(.int .i64 0),(.int .i64 0),.nilIface,(.slice none 0 0),(.int .i64 0),(.int .i64 0)]
instance ibd170_0_2_6:BdOk Q 170 z170 [(0,0,1),(2,5,1),(6,9,1)]:=bd_ok Q (by kernel_rfl) (by kernel_rfl) (by kernel_rfl)
instance ifa170_6:FaOk Q 170 6 9:=⟨fun b o s=>by kernel_rfl⟩
instance iifc60:IfcOk Q 60:=⟨fun v=>by kernel_rfl⟩
instance ifa170_1:FaOk Q 170 1 1:=⟨fun b o s=>by kernel_rfl⟩
instance ifa170_3:FaOk Q 170 3 6:=⟨fun b o s=>by kernel_rfl⟩
instance ist168:StOk Q 168 1:=⟨fun b o s v G=>by kernel_rfl⟩
instance iep79:EpOk Q 79:=⟨fun neg x y=>by cases neg <;> kernel_rfl,fun neg x y a=>by cases neg <;> kernel_rfl,fun neg x y a=>by cases neg <;> kernel_rfl⟩
instance ild133:LdOk Q 133:=⟨fun b o s G=>(show _ = loadOne b o G by kernel_rfl).trans (loadOne_eq b o G)⟩
instance iep133:EpOk Q 133:=⟨fun neg x y=>by cases neg <;> kernel_rfl,fun neg x y a=>by cases neg <;> kernel_rfl,fun neg x y a=>by cases neg <;> kernel_rfl⟩
instance ifa166_0:FaOk Q 166 0 0:=⟨fun b o s=>by kernel_rfl⟩
instance ild4:LdOk Q 4:=⟨fun b o s G=>(show _ = loadOne b o G by kernel_rfl).trans (loadOne_eq b o G)⟩
instance iep89:EpOk Q 89:=⟨fun neg x y=>by cases neg <;> kernel_rfl,fun neg x y a=>by cases neg <;> kernel_rfl,fun neg x y a=>by cases neg <;> kernel_rfl⟩
instance ild168:LdOk Q 168:=⟨fun b o s G=>(show _ = loadOne b o G by kernel_rfl).trans (loadOne_eq b o G)⟩
instance ifa170_5:FaOk Q 170 5 8:=⟨fun b o s=>by kernel_rfl⟩
instance iifc61:IfcOk Q 61:=⟨fun v=>by kernel_rfl⟩
instance ifa170_4:FaOk Q 170 4 7:=⟨fun b o s=>by kernel_rfl⟩
instance ild35:LdOk Q 35:=⟨fun b o s G=>(show _ = loadOne b o G by kernel_rfl).trans (loadOne_eq b o G)⟩
instance iap35_35:ApOk Q 35 35 1 8:=⟨fun s x G=>by kernel_rfl⟩
instance ist35:StOk Q 35 1:=⟨fun b o s v G=>by kernel_rfl⟩
instance ifa170_2:FaOk Q 170 2 5:=⟨fun b o s=>by kernel_rfl⟩
instance ifa170_0:FaOk Q 170 0 0:=⟨fun b o s=>by kernel_rfl⟩
instance ifa29_0:FaOk Q 29 0 0:=⟨fun b o s=>by kernel_rfl⟩
instance ilda104:LdAOk Q 104 4:=⟨fun b o s G=>by kernel_rfl⟩
abbrev z104:List Value:=[(.slice none 0 0),.nilFunc,.nilFunc,.nilFunc]
instance ial104:AlOk Q 104 z104:=⟨fun G=>by kernel_rfl⟩
instance ibd104_1_2_3:BdOk Q 104 z104 [(1,1,1),(2,2,1),(3,3,1)]:=bd_ok Q (by kernel_rfl) (by kernel_rfl) (by kernel_rfl)
instance ist104:StOk Q 104 4:=⟨fun b o s v G=>by kernel_rfl⟩
instance ilda112:LdAOk Q 112 4:=⟨fun b o s G=>by kernel_rfl⟩
abbrev z112:List Value:=[(.slice none 0 0),.nilFunc,.nilFunc,.nilFunc]
instance ial112:AlOk Q 112 z112:=⟨fun G=>by kernel_rfl⟩
instance ibd112_1_2_3:BdOk Q 112 z112 [(1,1,1),(2,2,1),(3,3,1)]:=bd_ok Q (by kernel_rfl) (by kernel_rfl) (by kernel_rfl)
instance ist112:StOk Q 112 4:=⟨fun b o s v G=>by kernel_rfl⟩
instance ilda119:LdAOk Q 119 4:=⟨fun b o s G=>by kernel_rfl⟩
abbrev z119:List Value:=[(.slice none 0 0),.nilFunc,.nilFunc,.nilFunc]
instance ial119:AlOk Q 119 z119:=⟨fun G=>by kernel_rfl⟩
instance ibd119_0_1_2_3:BdOk Q 119 z119 [(0,0,1),(1,1,1),(2,2,1),(3,3,1)]:=bd_ok Q (by kernel_rfl) (by kernel_rfl) (by kernel_rfl)
instance ist119:StOk Q 119 4:=⟨fun b o s v G=>by kernel_rfl⟩
instance ilda24:LdAOk Q 24 4:=⟨fun b o s G=>by kernel_rfl⟩
instance ial27:AlOk Q 27 z27:=⟨fun G=>by kernel_rfl⟩
instance ilda27:LdAOk Q 27 3:=⟨fun b o s G=>by kernel_rfl⟩
instance ifa24_0:FaOk Q 24 0 0:=⟨fun b o s=>by kernel_rfl⟩
instance ibd27_:BdOk Q 27 z27 []:=bd_ok Q (by kernel_rfl) (by kernel_rfl) (by kernel_rfl)
abbrev z206:List Value:=[.nilFunc,.nilFunc,.nilFunc]
instance ial206:AlOk Q 206 z206:=⟨fun G=>by kernel_rfl⟩
instance ist206:StOk Q 206 3:=⟨fun b o s v G=>by kernel_rfl⟩
instance iiaa206:IaaOk Q 206 3 1:=⟨fun b o s k j=>by kernel_rfl⟩
instance ild129:LdOk Q 129:=⟨fun b o s G=>(show _ = loadOne b o G by kernel_rfl).trans (loadOne_eq b o G)⟩
instance isl107:SlOk Q 107 2:=⟨fun a n c lo hi mx G=>sl_eq Q (e:=184) (by kernel_rfl) (by kernel_rfl) a n c lo hi mx G⟩
instance ifa24_3:FaOk Q 24 3 3:=⟨fun b o s=>by kernel_rfl⟩
instance ild22:LdOk Q 22:=⟨fun b o s G=>(show _ = loadOne b o G by kernel_rfl).trans (loadOne_eq b o G)⟩
instance ifa24_1:FaOk Q 24 1 1:=⟨fun b o s=>by kernel_rfl⟩
abbrev z184:List Value:=[(.int .u64 0),(.int .i64 0)]
instance ibd184_0_1:BdOk Q 184 z184 [(0,0,1),(1,1,1)]:=bd_ok Q (by kernel_rfl) (by kernel_rfl) (by kernel_rfl)
instance ibs107_1_0:BsOk Q 107 1 (rep z184 1) 2 [(0,0,2)]:=bs_ok Q (z0:=z184) (by kernel_rfl) rfl (by decide) (by kernel_rfl)
instance iap107_107:ApOk Q 107 107 2 16:=⟨fun s x G=>by kernel_rfl⟩
abbrev z218:List Value:=[(.int .i64 0),(.int .i64 0),(.int .i64 0),(.int .i64 0),.nilFunc,(.bool false),(.int .i64 0),(.int .i64 0),(.int .u64 0),(.int .u64 0)]
instance ibd218_0_1:BdOk Q 218 z218 [(0,0,7),(1,7,1)]:=bd_ok Q (by kernel_rfl) (by kernel_rfl) (by kernel_rfl)
instance ifa218_0:FaOk Q 218 0 0:=⟨fun b o s=>by kernel_rfl⟩
instance ifa214_3:FaOk Q 214 3 6:=⟨fun b o s=>by kernel_rfl⟩
instance ifa214_1:FaOk Q 214 1 4:=⟨fun b o s=>by kernel_rfl⟩
instance ist212:StOk Q 212 1:=⟨fun b o s v G=>by kernel_rfl⟩
abbrev z223:List Value:=[(.pointer none),(.int .u64 0),(.int .u64 0)]
instance ibd223_0:BdOk Q 223 z223 [(0,0,1)]:=bd_ok Q (by kernel_rfl) (by kernel_rfl) (by kernel_rfl)
instance ial223:AlOk Q 223 z223:=⟨fun G=>by kernel_rfl⟩
instance ist223:StOk Q 223 3:=⟨fun b o s v G=>by kernel_rfl⟩
instance ifa223_0:FaOk Q 223 0 0:=⟨fun b o s=>by kernel_rfl⟩
instance ild220:LdOk Q 220:=⟨fun b o s G=>(show _ = loadOne b o G by kernel_rfl).trans (loadOne_eq b o G)⟩
instance ilda223:LdAOk Q 223 3:=⟨fun b o s G=>by kernel_rfl⟩
instance ifd225_3:FdOk Q 225 3 3:=⟨fun l=>by kernel_rfl⟩
abbrev z235:List Value:=[(.int .i64 0),(.int .i64 0),(.int .i64 0),(.int .i64 0),.nilFunc,(.bool false),(.int .i64 0),(.int .u64 0),(.int .i64 0)]
instance ibd235_0:BdOk Q 235 z235 [(0,0,7)]:=bd_ok Q (by kernel_rfl) (by kernel_rfl) (by kernel_rfl)
instance ifa235_0:FaOk Q 235 0 0:=⟨fun b o s=>by kernel_rfl⟩
instance iep60:EpOk Q 60:=⟨fun neg x y=>by cases neg <;> kernel_rfl,fun neg x y a=>by cases neg <;> kernel_rfl,fun neg x y a=>by cases neg <;> kernel_rfl⟩
instance ifa235_2:FaOk Q 235 2 8:=⟨fun b o s=>by kernel_rfl⟩
abbrev z239:List Value:=(zs 4096 (.int .u64 0))
instance ial239:AlOk Q 239 z239:=⟨fun G=>by kernel_rfl⟩
abbrev z241:List Value:=[(.pointer none),(.int .i64 0),(.int .i64 0),(.int .i64 0),(.int .u64 0),(.int .u64 0),(.bool false),(.int .i64 0)]
instance ibd241_0_1:BdOk Q 241 z241 [(0,0,1),(1,1,1)]:=bd_ok Q (by kernel_rfl) (by kernel_rfl) (by kernel_rfl)
instance ifa57_0:FaOk Q 57 0 0:=⟨fun b o s=>by kernel_rfl⟩
instance ifa57_1:FaOk Q 57 1 1:=⟨fun b o s=>by kernel_rfl⟩
instance ifa57_3:FaOk Q 57 3 3:=⟨fun b o s=>by kernel_rfl⟩
instance ifa57_2:FaOk Q 57 2 2:=⟨fun b o s=>by kernel_rfl⟩
instance iep150:EpOk Q 150:=⟨fun neg x y=>by cases neg <;> kernel_rfl,fun neg x y a=>by cases neg <;> kernel_rfl,fun neg x y a=>by cases neg <;> kernel_rfl⟩
instance ifa247_3:FaOk Q 247 3 8:=⟨fun b o s=>by kernel_rfl⟩
instance ild245:LdOk Q 245:=⟨fun b o s G=>(show _ = loadOne b o G by kernel_rfl).trans (loadOne_eq b o G)⟩
instance ief245:EfOk Q 245:=⟨fun neg x y=>by cases neg <;> kernel_rfl,fun neg x y f a b=>by cases neg <;> kernel_rfl⟩
instance ial4:AlOk Q 4 z4:=⟨fun G=>by kernel_rfl⟩
instance ibd57_:BdOk Q 57 z57 []:=bd_ok Q (by kernel_rfl) (by kernel_rfl) (by kernel_rfl)
instance ist4:StOk Q 4 1:=⟨fun b o s v G=>by kernel_rfl⟩
instance ifa82_1:FaOk Q 82 1 1:=⟨fun b o s=>by kernel_rfl⟩
abbrev z271:List Value:=[(.int .i64 0),(.int .i64 0),(.int .i64 0),(.int .i64 0),.nilFunc,(.bool false),(.int .i64 0),(.int .u64 0)]
instance ibd271_0_1:BdOk Q 271 z271 [(0,0,7),(1,7,1)]:=bd_ok Q (by kernel_rfl) (by kernel_rfl) (by kernel_rfl)
instance ifa271_0:FaOk Q 271 0 0:=⟨fun b o s=>by kernel_rfl⟩
instance ifa235_1:FaOk Q 235 1 7:=⟨fun b o s=>by kernel_rfl⟩
instance ies35:EsOk Q 35:=⟨fun neg x y=>by cases neg <;> kernel_rfl,fun neg x y a n c=>by cases neg <;> kernel_rfl⟩
instance ibs35_0_:BsOk Q 35 0 (rep z3 0) 1 []:=bs_ok Q (z0:=z3) (by kernel_rfl) rfl (by decide) (by kernel_rfl)
instance ibs180_1_0:BsOk Q 180 1 (rep z27 1) 3 [(0,0,3)]:=bs_ok Q (z0:=z27) (by kernel_rfl) rfl (by decide) (by kernel_rfl)
instance iln74:LnOk Q 74:=⟨fun a n c=>by kernel_rfl⟩
instance iias74:IasOk Q 74 1:=⟨fun b o s n c k j=>by kernel_rfl⟩
instance ibd27_2:BdOk Q 27 z27 [(2,2,1)]:=bd_ok Q (by kernel_rfl) (by kernel_rfl) (by kernel_rfl)
abbrev z5:List Value:=[(.int .u8 0)]
instance ibs181_1_0:BsOk Q 181 1 (rep z5 1) 1 [(0,0,1)]:=bs_ok Q (z0:=z5) (by kernel_rfl) rfl (by decide) (by kernel_rfl)
instance iap181_181:ApOk Q 181 181 1 1:=⟨fun s x G=>by kernel_rfl⟩
instance iln107:LnOk Q 107:=⟨fun a n c=>by kernel_rfl⟩
instance iias107:IasOk Q 107 2:=⟨fun b o s n c k j=>by kernel_rfl⟩
instance ifa184_1:FaOk Q 184 1 1:=⟨fun b o s=>by kernel_rfl⟩
instance ifa184_0:FaOk Q 184 0 0:=⟨fun b o s=>by kernel_rfl⟩
instance ibd27_1_2:BdOk Q 27 z27 [(1,1,1),(2,2,1)]:=bd_ok Q (by kernel_rfl) (by kernel_rfl) (by kernel_rfl)
instance ilda184:LdAOk Q 184 2:=⟨fun b o s G=>by kernel_rfl⟩
instance ial184:AlOk Q 184 z184:=⟨fun G=>by kernel_rfl⟩
instance ist184:StOk Q 184 2:=⟨fun b o s v G=>by kernel_rfl⟩
abbrev z276:List Value:=[(.int .u64 0),(.int .u64 0),(.int .u64 0),(.int .u64 0),(.int .u64 0),(.int .u64 0),(.int .u64 0),(.int .u64 0),(.int .u64 0),(.int .u64 0),(.int .u64 0),(.int .u64 0),(.int .u64 0),(.int .u64 0),(.int .u64 0),(.int .u64 0)]
instance ial276:AlOk Q 276 z276:=⟨fun G=>by kernel_rfl⟩
instance ist276:StOk Q 276 16:=⟨fun b o s v G=>by kernel_rfl⟩
instance ilda276:LdAOk Q 276 16:=⟨fun b o s G=>by kernel_rfl⟩
instance ifa27_1:FaOk Q 27 1 1:=⟨fun b o s=>by kernel_rfl⟩
instance ibd27_1:BdOk Q 27 z27 [(1,1,1)]:=bd_ok Q (by kernel_rfl) (by kernel_rfl) (by kernel_rfl)
instance iap180_180:ApOk Q 180 180 3 24:=⟨fun s x G=>by kernel_rfl⟩
instance ifa104_2:FaOk Q 104 2 2:=⟨fun b o s=>by kernel_rfl⟩
instance ild101:LdOk Q 101:=⟨fun b o s G=>(show _ = loadOne b o G by kernel_rfl).trans (loadOne_eq b o G)⟩
instance ifa112_2:FaOk Q 112 2 2:=⟨fun b o s=>by kernel_rfl⟩
instance ild109:LdOk Q 109:=⟨fun b o s G=>(show _ = loadOne b o G by kernel_rfl).trans (loadOne_eq b o G)⟩
instance ifa119_2:FaOk Q 119 2 2:=⟨fun b o s=>by kernel_rfl⟩
instance ild116:LdOk Q 116:=⟨fun b o s G=>(show _ = loadOne b o G by kernel_rfl).trans (loadOne_eq b o G)⟩
instance ifa202_2:FaOk Q 202 2 1025:=⟨fun b o s=>by kernel_rfl⟩
instance ilda202:LdAOk Q 202 1026:=⟨fun b o s G=>by kernel_rfl⟩
abbrev z202:List Value:=(zs 1024 (.int .u64 0) ++ [(.int .i64 0),(.int .i64 0)])
instance ial202:AlOk Q 202 z202:=⟨fun G=>by kernel_rfl⟩
instance ifa202_0:FaOk Q 202 0 0:=⟨fun b o s=>by kernel_rfl⟩
instance isla200:SlAOk Q 200 1024 1:=⟨fun a lo hi mx G=>by kernel_rfl⟩
instance icp74:CpOk Q 74 1:=⟨fun d s G=>by kernel_rfl⟩
instance ist202:StOk Q 202 1026:=⟨fun b o s v G=>by kernel_rfl⟩
instance ifa202_1:FaOk Q 202 1 1024:=⟨fun b o s=>by kernel_rfl⟩
instance iiaa200:IaaOk Q 200 1024 1:=⟨fun b o s k j=>by kernel_rfl⟩
abbrev z22:List Value:=[(.int .u64 0)]
instance ibs74_1_0:BsOk Q 74 1 (rep z22 1) 1 [(0,0,1)]:=bs_ok Q (z0:=z22) (by kernel_rfl) rfl (by decide) (by kernel_rfl)
instance iap74_74:ApOk Q 74 74 1 8:=⟨fun s x G=>by kernel_rfl⟩
instance ibd206_0_1_2:BdOk Q 206 z206 [(0,0,1),(1,1,1),(2,2,1)]:=bd_ok Q (by kernel_rfl) (by kernel_rfl) (by kernel_rfl)
instance ilda206:LdAOk Q 206 3:=⟨fun b o s G=>by kernel_rfl⟩
instance ies107:EsOk Q 107:=⟨fun neg x y=>by cases neg <;> kernel_rfl,fun neg x y a n c=>by cases neg <;> kernel_rfl⟩
instance ibs107_0_:BsOk Q 107 0 (rep z184 0) 2 []:=bs_ok Q (z0:=z184) (by kernel_rfl) rfl (by decide) (by kernel_rfl)
abbrev z214:List Value:=[(.int .i64 0),(.int .i64 0),(.int .i64 0),(.int .i64 0),.nilFunc,(.bool false),(.int .i64 0)]
instance ial214:AlOk Q 214 z214:=⟨fun G=>by kernel_rfl⟩
instance ibd214_2_3:BdOk Q 214 z214 [(2,5,1),(3,6,1)]:=bd_ok Q (by kernel_rfl) (by kernel_rfl) (by kernel_rfl)
instance ist214:StOk Q 214 7:=⟨fun b o s v G=>by kernel_rfl⟩
instance ibd214_0_2:BdOk Q 214 z214 [(0,0,4),(2,5,1)]:=bd_ok Q (by kernel_rfl) (by kernel_rfl) (by kernel_rfl)
instance ilda214:LdAOk Q 214 7:=⟨fun b o s G=>by kernel_rfl⟩
instance ifa214_0:FaOk Q 214 0 0:=⟨fun b o s=>by kernel_rfl⟩
instance ifa218_2:FaOk Q 218 2 8:=⟨fun b o s=>by kernel_rfl⟩
instance ifa241_0:FaOk Q 241 0 0:=⟨fun b o s=>by kernel_rfl⟩
instance ild236:LdOk Q 236:=⟨fun b o s G=>(show _ = loadOne b o G by kernel_rfl).trans (loadOne_eq b o G)⟩
instance iep236:EpOk Q 236:=⟨fun neg x y=>by cases neg <;> kernel_rfl,fun neg x y a=>by cases neg <;> kernel_rfl,fun neg x y a=>by cases neg <;> kernel_rfl⟩
instance ifa241_1:FaOk Q 241 1 1:=⟨fun b o s=>by kernel_rfl⟩
instance iiaa239:IaaOk Q 239 4096 1:=⟨fun b o s k j=>by kernel_rfl⟩
abbrev z225:List Value:=[(.int .i64 0),(.int .i64 0),(.int .u64 0),(.int .u64 0),(.bool false)]
instance ial225:AlOk Q 225 z225:=⟨fun G=>by kernel_rfl⟩
instance ibd225_:BdOk Q 225 z225 []:=bd_ok Q (by kernel_rfl) (by kernel_rfl) (by kernel_rfl)
instance ist225:StOk Q 225 5:=⟨fun b o s v G=>by kernel_rfl⟩
instance ifa241_3:FaOk Q 241 3 7:=⟨fun b o s=>by kernel_rfl⟩
instance ibd225_0_1:BdOk Q 225 z225 [(0,0,1),(1,1,1)]:=bd_ok Q (by kernel_rfl) (by kernel_rfl) (by kernel_rfl)
instance ifa241_2:FaOk Q 241 2 2:=⟨fun b o s=>by kernel_rfl⟩
instance ild237:LdOk Q 237:=⟨fun b o s G=>(show _ = loadOne b o G by kernel_rfl).trans (loadOne_eq b o G)⟩
instance ifa225_2:FaOk Q 225 2 2:=⟨fun b o s=>by kernel_rfl⟩
instance ifa225_3:FaOk Q 225 3 3:=⟨fun b o s=>by kernel_rfl⟩
instance ifa225_4:FaOk Q 225 4 4:=⟨fun b o s=>by kernel_rfl⟩
instance ist237:StOk Q 237 1:=⟨fun b o s v G=>by kernel_rfl⟩
instance ilda225:LdAOk Q 225 5:=⟨fun b o s G=>by kernel_rfl⟩
instance iep61:EpOk Q 61:=⟨fun neg x y=>by cases neg <;> kernel_rfl,fun neg x y a=>by cases neg <;> kernel_rfl,fun neg x y a=>by cases neg <;> kernel_rfl⟩
instance ild212:LdOk Q 212:=⟨fun b o s G=>(show _ = loadOne b o G by kernel_rfl).trans (loadOne_eq b o G)⟩
instance ief212:EfOk Q 212:=⟨fun neg x y=>by cases neg <;> kernel_rfl,fun neg x y f a b=>by cases neg <;> kernel_rfl⟩
instance ifa214_2:FaOk Q 214 2 5:=⟨fun b o s=>by kernel_rfl⟩
instance icv22_3:CvOk Q 22 3 .u64 .i64:=⟨fun n=>by kernel_rfl⟩
instance icv216_3:CvOk Q 216 3 .u64 .i64:=⟨fun n=>by kernel_rfl⟩
instance ibd223_0_1:BdOk Q 223 z223 [(0,0,1),(1,1,1)]:=bd_ok Q (by kernel_rfl) (by kernel_rfl) (by kernel_rfl)
instance iep249:EpOk Q 249:=⟨fun neg x y=>by cases neg <;> kernel_rfl,fun neg x y a=>by cases neg <;> kernel_rfl,fun neg x y a=>by cases neg <;> kernel_rfl⟩
instance ifa309_3:FaOk Q 309 3 8:=⟨fun b o s=>by kernel_rfl⟩
instance ild307:LdOk Q 307:=⟨fun b o s G=>(show _ = loadOne b o G by kernel_rfl).trans (loadOne_eq b o G)⟩
instance ief307:EfOk Q 307:=⟨fun neg x y=>by cases neg <;> kernel_rfl,fun neg x y f a b=>by cases neg <;> kernel_rfl⟩
instance ifa82_0:FaOk Q 82 0 0:=⟨fun b o s=>by kernel_rfl⟩
instance ifa271_1:FaOk Q 271 1 7:=⟨fun b o s=>by kernel_rfl⟩
instance iiaa276:IaaOk Q 276 16 1:=⟨fun b o s k j=>by kernel_rfl⟩
instance ial35:AlOk Q 35 z35:=⟨fun G=>by kernel_rfl⟩
instance ifa218_3:FaOk Q 218 3 9:=⟨fun b o s=>by kernel_rfl⟩
instance ist216:StOk Q 216 1:=⟨fun b o s v G=>by kernel_rfl⟩
instance ild216:LdOk Q 216:=⟨fun b o s G=>(show _ = loadOne b o G by kernel_rfl).trans (loadOne_eq b o G)⟩
instance iep220:EpOk Q 220:=⟨fun neg x y=>by cases neg <;> kernel_rfl,fun neg x y a=>by cases neg <;> kernel_rfl,fun neg x y a=>by cases neg <;> kernel_rfl⟩
instance icv216_295:CvOk Q 216 295 .u64 .u32:=⟨fun n=>by kernel_rfl⟩
instance icv22_295:CvOk Q 22 295 .u64 .u32:=⟨fun n=>by kernel_rfl⟩
instance ifa223_1:FaOk Q 223 1 1:=⟨fun b o s=>by kernel_rfl⟩
instance icv295_216:CvOk Q 295 216 .u32 .u64:=⟨fun n=>by kernel_rfl⟩
abbrev z320:List Value:=[(.map none)]
instance ial320:AlOk Q 320 z320:=⟨fun G=>by kernel_rfl⟩
instance ist320:StOk Q 320 1:=⟨fun b o s v G=>by kernel_rfl⟩
abbrev z321:List Value:=[.nilFunc]
instance ial321:AlOk Q 321 z321:=⟨fun G=>by kernel_rfl⟩
instance ist321:StOk Q 321 1:=⟨fun b o s v G=>by kernel_rfl⟩
instance ild321:LdOk Q 321:=⟨fun b o s G=>(show _ = loadOne b o G by kernel_rfl).trans (loadOne_eq b o G)⟩
instance ifa104_0:FaOk Q 104 0 0:=⟨fun b o s=>by kernel_rfl⟩
instance ild74:LdOk Q 74:=⟨fun b o s G=>(show _ = loadOne b o G by kernel_rfl).trans (loadOne_eq b o G)⟩
instance ild38:LdOk Q 38:=⟨fun b o s G=>(show _ = loadOne b o G by kernel_rfl).trans (loadOne_eq b o G)⟩
instance ild55:LdOk Q 55:=⟨fun b o s G=>(show _ = loadOne b o G by kernel_rfl).trans (loadOne_eq b o G)⟩
instance ifa104_3:FaOk Q 104 3 3:=⟨fun b o s=>by kernel_rfl⟩
instance ild102:LdOk Q 102:=⟨fun b o s G=>(show _ = loadOne b o G by kernel_rfl).trans (loadOne_eq b o G)⟩
abbrev z323:List Value:=[(.int .i64 0),(.string ⟨#[]⟩)]
instance ibd323_0_1:BdOk Q 323 z323 [(0,0,1),(1,1,1)]:=bd_ok Q (by kernel_rfl) (by kernel_rfl) (by kernel_rfl)
instance ial323:AlOk Q 323 z323:=⟨fun G=>by kernel_rfl⟩
instance ist323:StOk Q 323 2:=⟨fun b o s v G=>by kernel_rfl⟩
instance ild320:LdOk Q 320:=⟨fun b o s G=>(show _ = loadOne b o G by kernel_rfl).trans (loadOne_eq b o G)⟩
instance ilda323:LdAOk Q 323 2:=⟨fun b o s G=>by kernel_rfl⟩
abbrev z324:List Value:=[]
instance ial324:AlOk Q 324 z324:=⟨fun G=>by kernel_rfl⟩
instance ist324:StOk Q 324 0:=⟨fun b o s v G=>by kernel_rfl⟩
instance iln180:LnOk Q 180:=⟨fun a n c=>by kernel_rfl⟩
instance iias180:IasOk Q 180 3:=⟨fun b o s n c k j=>by kernel_rfl⟩
instance ifa104_1:FaOk Q 104 1 1:=⟨fun b o s=>by kernel_rfl⟩
instance ild100:LdOk Q 100:=⟨fun b o s G=>(show _ = loadOne b o G by kernel_rfl).trans (loadOne_eq b o G)⟩
instance ibd324_:BdOk Q 324 z324 []:=bd_ok Q (by kernel_rfl) (by kernel_rfl) (by kernel_rfl)
abbrev z331:List Value:=[.nilFunc]
instance ial331:AlOk Q 331 z331:=⟨fun G=>by kernel_rfl⟩
instance ist331:StOk Q 331 1:=⟨fun b o s v G=>by kernel_rfl⟩
instance ild331:LdOk Q 331:=⟨fun b o s G=>(show _ = loadOne b o G by kernel_rfl).trans (loadOne_eq b o G)⟩
instance ifa112_0:FaOk Q 112 0 0:=⟨fun b o s=>by kernel_rfl⟩
instance ild107:LdOk Q 107:=⟨fun b o s G=>(show _ = loadOne b o G by kernel_rfl).trans (loadOne_eq b o G)⟩
instance ifa112_3:FaOk Q 112 3 3:=⟨fun b o s=>by kernel_rfl⟩
instance ild110:LdOk Q 110:=⟨fun b o s G=>(show _ = loadOne b o G by kernel_rfl).trans (loadOne_eq b o G)⟩
instance ifa112_1:FaOk Q 112 1 1:=⟨fun b o s=>by kernel_rfl⟩
instance ild108:LdOk Q 108:=⟨fun b o s G=>(show _ = loadOne b o G by kernel_rfl).trans (loadOne_eq b o G)⟩
abbrev z332:List Value:=[.nilFunc]
instance ial332:AlOk Q 332 z332:=⟨fun G=>by kernel_rfl⟩
instance ist332:StOk Q 332 1:=⟨fun b o s v G=>by kernel_rfl⟩
instance ild332:LdOk Q 332:=⟨fun b o s G=>(show _ = loadOne b o G by kernel_rfl).trans (loadOne_eq b o G)⟩
instance ifa119_0:FaOk Q 119 0 0:=⟨fun b o s=>by kernel_rfl⟩
instance ifa119_3:FaOk Q 119 3 3:=⟨fun b o s=>by kernel_rfl⟩
instance ild117:LdOk Q 117:=⟨fun b o s G=>(show _ = loadOne b o G by kernel_rfl).trans (loadOne_eq b o G)⟩
instance ifa119_1:FaOk Q 119 1 1:=⟨fun b o s=>by kernel_rfl⟩
instance ild115:LdOk Q 115:=⟨fun b o s G=>(show _ = loadOne b o G by kernel_rfl).trans (loadOne_eq b o G)⟩
instance iix276:IxOk Q 276 16:=⟨fun l k j=>by kernel_rfl⟩
instance iiaa354:IaaOk Q 354 64 1:=⟨fun b o s k j=>by kernel_rfl⟩
instance ild5:LdOk Q 5:=⟨fun b o s G=>(show _ = loadOne b o G by kernel_rfl).trans (loadOne_eq b o G)⟩
instance icv5_3:CvOk Q 5 3 .u8 .i64:=⟨fun n=>by kernel_rfl⟩
instance ifa218_1:FaOk Q 218 1 7:=⟨fun b o s=>by kernel_rfl⟩
instance iep305:EpOk Q 305:=⟨fun neg x y=>by cases neg <;> kernel_rfl,fun neg x y a=>by cases neg <;> kernel_rfl,fun neg x y a=>by cases neg <;> kernel_rfl⟩
instance ifa339_0:FaOk Q 339 0 0:=⟨fun b o s=>by kernel_rfl⟩
instance ifa339_1:FaOk Q 339 1 9:=⟨fun b o s=>by kernel_rfl⟩
instance ild337:LdOk Q 337:=⟨fun b o s G=>(show _ = loadOne b o G by kernel_rfl).trans (loadOne_eq b o G)⟩
instance ifa300_5:FaOk Q 300 5 7:=⟨fun b o s=>by kernel_rfl⟩
instance ibd223_0_1_2:BdOk Q 223 z223 [(0,0,1),(1,1,1),(2,2,1)]:=bd_ok Q (by kernel_rfl) (by kernel_rfl) (by kernel_rfl)
instance ifd225_4:FdOk Q 225 4 4:=⟨fun l=>by kernel_rfl⟩
instance icv3_216:CvOk Q 3 216 .i64 .u64:=⟨fun n=>by kernel_rfl⟩
instance iep243:EpOk Q 243:=⟨fun neg x y=>by cases neg <;> kernel_rfl,fun neg x y a=>by cases neg <;> kernel_rfl,fun neg x y a=>by cases neg <;> kernel_rfl⟩
instance ifa303_0:FaOk Q 303 0 0:=⟨fun b o s=>by kernel_rfl⟩
instance ifa303_1:FaOk Q 303 1 9:=⟨fun b o s=>by kernel_rfl⟩
instance ild301:LdOk Q 301:=⟨fun b o s G=>(show _ = loadOne b o G by kernel_rfl).trans (loadOne_eq b o G)⟩
instance iep335:EpOk Q 335:=⟨fun neg x y=>by cases neg <;> kernel_rfl,fun neg x y a=>by cases neg <;> kernel_rfl,fun neg x y a=>by cases neg <;> kernel_rfl⟩
instance ifa300_4:FaOk Q 300 4 6:=⟨fun b o s=>by kernel_rfl⟩
instance ifa223_2:FaOk Q 223 2 2:=⟨fun b o s=>by kernel_rfl⟩
def jbl8_0_0 (q:Bool) (e:Ex) (lp:LpF) (τ:Env) (G:GS):OL :=
 bV q (τ 1) fun a1_ =>
 bV q (τ 6) fun a6_ =>
 bV q (τ 7) fun a7_ =>
 bV q (τ 8) fun a8_ =>
 bV q (τ 9) fun a9_ =>
 bV q (τ 10) fun a10_ =>
 bV q (τ 11) fun a11_ =>
 bV q (τ 12) fun a12_ =>
 bP (bn Q q .add 3 (.tmp 35) (.const (.int .i64 1)) a9_ (.int .i64 1)) fun x3 =>
 lp (xq q 262 τ [(9,x3),(36,x3),(35,a9_)] [(1,a1_),(6,a6_),(7,a7_),(8,a8_),(10,a10_),(11,a11_),(12,a12_)]) G
def jl8_0_0 (q:Bool) (e:Ex) (lp:LpF) (τ:Env) (G:GS):OL:=jbl8_0_0 q e lp τ G
theorem mjl8_0_0 {e:Ex} {E:Ev} (h:ExLe Q e E) {lp lp':LpF} (hlp:LpLe lp lp') (τ:Env) (G:GS):Ref (jl8_0_0 true e lp τ G) (jl8_0_0 false (Ex.of E) lp' τ G):=by
 unfold jl8_0_0 jbl8_0_0
 exact Ref.gq
theorem mkjl8_0_0 {e:Ex} {E:Ev} (h:ExLe Q e E) {lp lp':LpF} (hlp:LpLe lp lp') {τ:Env} {l U:List (Nat × Value)} {G:GS} (hU:UOk τ U):Ref (jl8_0_0 true e lp (xq true 262 τ l U) G) (jl8_0_0 false (Ex.of E) lp' (xq false 262 τ l U) G):=by
 rw [xq_eq hU]
 exact mjl8_0_0 h hlp _ _
def jbl8_0_1 (q:Bool) (e:Ex) (lp:LpF) (J0:LpF) (τ:Env) (G:GS):OL :=
 bV q (τ 1) fun a1_ =>
 bV q (τ 6) fun a6_ =>
 bV q (τ 7) fun a7_ =>
 bV q (τ 8) fun a8_ =>
 bV q (τ 9) fun a9_ =>
 bV q (τ 10) fun a10_ =>
 bV q (τ 11) fun a11_ =>
 bV q (τ 12) fun a12_ =>
 bP (lda Q q 29 10 a11_ G) fun x30 =>
 bS (bs Q q 38 1 (rep z29 1) 10 [(0,0,10)] [x30] G) fun x31 G32 =>
 bS (ap Q q 38 38 10 80 a7_ x31 G32) fun x33 G34 =>
 J0 (xq q 262 τ [(7,x33),(107,x33),(106,x31),(105,x30),(104,a7_)] [(1,a1_),(6,a6_),(8,a8_),(9,a9_),(10,a10_),(11,a11_),(12,a12_)]) G34
def jl8_0_1 (q:Bool) (e:Ex) (lp:LpF) (τ:Env) (G:GS):OL:=jbl8_0_1 q e lp (jl8_0_0 q e lp) τ G
theorem mjl8_0_1 {e:Ex} {E:Ev} (h:ExLe Q e E) {lp lp':LpF} (hlp:LpLe lp lp') (τ:Env) (G:GS):Ref (jl8_0_1 true e lp τ G) (jl8_0_1 false (Ex.of E) lp' τ G):=by
 unfold jl8_0_1 jbl8_0_1
 have j0:=@mkjl8_0_0 e E h lp lp' hlp
 exact Ref.gj
theorem mkjl8_0_1 {e:Ex} {E:Ev} (h:ExLe Q e E) {lp lp':LpF} (hlp:LpLe lp lp') {τ:Env} {l U:List (Nat × Value)} {G:GS} (hU:UOk τ U):Ref (jl8_0_1 true e lp (xq true 262 τ l U) G) (jl8_0_1 false (Ex.of E) lp' (xq false 262 τ l U) G):=by
 rw [xq_eq hU]
 exact mjl8_0_1 h hlp _ _
def jbl8_0_2 (q:Bool) (e:Ex) (lp:LpF) (J0 J1:LpF) (τ:Env) (G:GS):OL :=
 bV q (τ 1) fun a1_ =>
 bV q (τ 6) fun a6_ =>
 bV q (τ 7) fun a7_ =>
 bV q (τ 8) fun a8_ =>
 bV q (τ 9) fun a9_ =>
 bV q (τ 10) fun a10_ =>
 bV q (τ 11) fun a11_ =>
 bV q (τ 12) fun a12_ =>
 bP (bn Q q .eql 3 (.tmp 151) (.const (.int .i64 2)) a10_ (.int .i64 2)) fun x62 =>
 bS (gV x62 true a6_ (G.room 15)) fun x63 _ =>
 bS (gP x62 true (pNil x63) (G.room 15)) fun x64 _ =>
 bS (gP x62 true (fa Q q 88 5 7 x64) (G.room 15)) fun x65 _ =>
 bS (gP x62 true (ld Q q 84 x65 (G.room 15)) (G.room 15)) fun x66 _ =>
 bS (gP x62 true (ias Q q 84 1 x66 (.int .i64 1)) (G.room 15)) fun x67 _ =>
 bS (gP x62 true (ld Q q 89 x67 (G.room 15)) (G.room 15)) fun x68 _ =>
 bS (gV x62 true a6_ (G.room 15)) fun x69 _ =>
 bS (gP x62 true (pNil x69) (G.room 15)) fun x70 _ =>
 bS (gP x62 true (fa Q q 88 1 3 x70) (G.room 15)) fun x71 _ =>
 bS (gP x62 true (ld Q q 58 x71 (G.room 15)) (G.room 15)) fun x72 _ =>
 bS (gS x62 true (e.ev.cl 36 [x68,x72] (G.room 15)) (G.room 15)) fun x74 G73 =>
 bP (pickV x62 x74 (.bool false)) fun x75 =>
 ifV x75 (
 bP (pNil a6_) fun x76 =>
 bP (fa Q q 88 5 7 x76) fun x77 =>
 bP (ld Q q 84 x77 G73) fun x78 =>
 bP (ias Q q 84 1 x78 (.int .i64 1)) fun x79 =>
 bP (ld Q q 89 x79 G73) fun x80 =>
 bS (e.ev.cl 37 [x80] G73) fun x81 G82 =>
 bP (pExtract x81 0) fun x83 =>
 bP (pExtract x81 1) fun x84 =>
 bP (bn Q q .mul 3 (.const (.int .i64 2)) (.tmp 179) (.int .i64 2) a9_) fun x85 =>
 bP (bn Q q .add 3 (.tmp 180) (.const (.int .i64 1)) x85 (.int .i64 1)) fun x86 =>
 bP (pNil a12_) fun x87 =>
 bP (fa Q q 29 2 2 x87) fun x88 =>
 bP (st Q q 3 1 x88 x86 G82) fun G89 =>
 bP (ias Q q 35 1 a8_ a10_) fun x90 =>
 bP (st Q q 3 1 x90 (.int .i64 (-1)) G89) fun G91 =>
 bP (bn Q q .neq 25 (.tmp 210) (.const (.int .i64 0)) x84 (.int .i64 0)) fun x92 =>
 bS (gV x92 false x83 G91) fun x93 G94 =>
 bS (gP x92 false (ln Q q 35 x93) G94) fun x95 G96 =>
 bS (gP x92 false (bn Q q .gtr 3 (.tmp 214) (.const (.int .i64 1)) x95 (.int .i64 1)) G96) fun x97 G98 =>
 bP (pickV x92 (.bool true) x97) fun x99 =>
 ifV x99 (
 some (.ret,xq q 262 τ [(4,(.bool false)),(209,x99),(216,x99),(215,x97),(214,x95),(213,x93),(212,x92),(211,x92),(210,x84),(184,x90),(183,x88),(182,x87),(181,x86),(180,x85),(179,a9_),(178,a10_),(177,a8_),(176,a12_),(14,x84),(13,x83),(175,x84),(174,x83),(166,x81),(173,x81),(172,x80),(171,x79),(170,x78),(169,x77),(168,x76),(167,a6_),(165,x75),(164,x74),(163,x72),(162,x71),(161,x70),(160,x69),(159,x68),(158,x67),(157,x66),(156,x65),(155,x64),(154,x63),(153,x62),(152,x62),(151,a10_)] [(1,a1_),(6,a6_),(7,a7_),(8,a8_),(9,a9_),(10,a10_),(11,a11_),(12,a12_)],G98)) (
 bP (ln Q q 35 x83) fun x100 =>
 bP (bn Q q .eql 3 (.tmp 219) (.const (.int .i64 0)) x100 (.int .i64 0)) fun x101 =>
 ifV x101 (
 bP (pNil a12_) fun x102 =>
 bP (fa Q q 29 4 7 x102) fun x103 =>
 bP (fa Q q 27 0 0 x103) fun x104 =>
 bP (st Q q 25 1 x104 (.int .i64 15) G98) fun G105 =>
 J0 (xq q 262 τ [(224,x104),(223,x103),(222,x102),(221,a12_),(217,x101),(220,x101),(219,x100),(218,x83),(209,x99),(216,x99),(215,x97),(214,x95),(213,x93),(212,x92),(211,x92),(210,x84),(184,x90),(183,x88),(182,x87),(181,x86),(180,x85),(179,a9_),(178,a10_),(177,a8_),(176,a12_),(14,x84),(13,x83),(175,x84),(174,x83),(166,x81),(173,x81),(172,x80),(171,x79),(170,x78),(169,x77),(168,x76),(167,a6_),(165,x75),(164,x74),(163,x72),(162,x71),(161,x70),(160,x69),(159,x68),(158,x67),(157,x66),(156,x65),(155,x64),(154,x63),(153,x62),(152,x62),(151,a10_)] [(1,a1_),(6,a6_),(7,a7_),(8,a8_),(9,a9_),(10,a10_),(11,a11_),(12,a12_)]) G105) (
 bP (ias Q q 35 1 x83 (.int .i64 0)) fun x106 =>
 bP (ld Q q 3 x106 G98) fun x107 =>
 bP (cv Q q 3 22 .i64 .u64 x107) fun x108 =>
 bP (pNil a12_) fun x109 =>
 bP (fa Q q 29 4 7 x109) fun x110 =>
 bP (fa Q q 27 2 2 x110) fun x111 =>
 bP (st Q q 22 1 x111 x108 G98) fun G112 =>
 bP (bn Q q .mul 3 (.const (.int .i64 2)) (.tmp 194) (.int .i64 2) a9_) fun x113 =>
 bP (bn Q q .add 3 (.tmp 195) (.const (.int .i64 1)) x113 (.int .i64 1)) fun x114 =>
 bP (pNil a12_) fun x115 =>
 bP (fa Q q 29 1 1 x115) fun x116 =>
 bP (ld Q q 3 x116 (G112.room 17)) fun x117 =>
 bP (pNil a12_) fun x118 =>
 bP (fa Q q 29 2 2 x118) fun x119 =>
 bP (ld Q q 3 x119 (G112.room 17)) fun x120 =>
 bP (bd Q q 24 z24 [(0,0,1)] [(.int .i64 3)]) fun x121 =>
 bP (bd Q q 29 z29 [(0,0,1),(1,1,1),(2,2,1),(3,3,4)] [x114,x117,x120,x121]) fun x122 =>
 bS (bs Q q 38 1 (rep z29 1) 10 [(0,0,10)] [x122] ((G112.room 17).at' (G112.nx + 14))) fun x123 G124 =>
 bS (ap Q q 38 38 10 80 a7_ x123 (G124.back (G112.room 17))) fun x126 G125 =>
 J0 (xq q 262 τ [(7,x126),(208,x126),(207,x123),(206,x122),(205,x121),(204,x120),(203,x119),(202,x118),(201,a12_),(200,x117),(199,x116),(198,x115),(197,a12_),(196,x114),(195,x113),(194,a9_),(193,a7_),(192,x111),(191,x110),(190,x109),(189,x108),(188,x107),(187,x106),(186,x83),(185,a12_),(217,x101),(220,x101),(219,x100),(218,x83),(209,x99),(216,x99),(215,x97),(214,x95),(213,x93),(212,x92),(211,x92),(210,x84),(184,x90),(183,x88),(182,x87),(181,x86),(180,x85),(179,a9_),(178,a10_),(177,a8_),(176,a12_),(14,x84),(13,x83),(175,x84),(174,x83),(166,x81),(173,x81),(172,x80),(171,x79),(170,x78),(169,x77),(168,x76),(167,a6_),(165,x75),(164,x74),(163,x72),(162,x71),(161,x70),(160,x69),(159,x68),(158,x67),(157,x66),(156,x65),(155,x64),(154,x63),(153,x62),(152,x62),(151,a10_)] [(1,a1_),(6,a6_),(8,a8_),(9,a9_),(10,a10_),(11,a11_),(12,a12_)]) G125))) (
 J0 (xq q 262 τ [(165,x75),(164,x74),(163,x72),(162,x71),(161,x70),(160,x69),(159,x68),(158,x67),(157,x66),(156,x65),(155,x64),(154,x63),(153,x62),(152,x62),(151,a10_)] [(1,a1_),(6,a6_),(7,a7_),(8,a8_),(9,a9_),(10,a10_),(11,a11_),(12,a12_)]) G73)
def jl8_0_2 (q:Bool) (e:Ex) (lp:LpF) (τ:Env) (G:GS):OL:=jbl8_0_2 q e lp (jl8_0_0 q e lp) (jl8_0_1 q e lp) τ G
theorem mjl8_0_2 {e:Ex} {E:Ev} (h:ExLe Q e E) {lp lp':LpF} (hlp:LpLe lp lp') (τ:Env) (G:GS):Ref (jl8_0_2 true e lp τ G) (jl8_0_2 false (Ex.of E) lp' τ G):=by
 unfold jl8_0_2 jbl8_0_2
 have j0:=@mkjl8_0_0 e E h lp lp' hlp
 have j1:=@mkjl8_0_1 e E h lp lp' hlp
 exact Ref.gj
theorem mkjl8_0_2 {e:Ex} {E:Ev} (h:ExLe Q e E) {lp lp':LpF} (hlp:LpLe lp lp') {τ:Env} {l U:List (Nat × Value)} {G:GS} (hU:UOk τ U):Ref (jl8_0_2 true e lp (xq true 262 τ l U) G) (jl8_0_2 false (Ex.of E) lp' (xq false 262 τ l U) G):=by
 rw [xq_eq hU]
 exact mjl8_0_2 h hlp _ _
def jbl8_0_3 (q:Bool) (e:Ex) (lp:LpF) (J0 J1 J2:LpF) (τ:Env) (G:GS):OL :=
 bV q (τ 1) fun a1_ =>
 bV q (τ 6) fun a6_ =>
 bV q (τ 7) fun a7_ =>
 bV q (τ 8) fun a8_ =>
 bV q (τ 9) fun a9_ =>
 bV q (τ 10) fun a10_ =>
 bV q (τ 11) fun a11_ =>
 bV q (τ 12) fun a12_ =>
 bP (ias Q q 35 1 a8_ a10_) fun x7 =>
 bP (ld Q q 3 x7 G) fun x8 =>
 bP (bn Q q .lss 3 (.tmp 54) (.const (.int .i64 0)) x8 (.int .i64 0)) fun x9 =>
 ifV x9 (
 bP (ln Q q 35 a1_) fun x10 =>
 bP (bn Q q .geq 3 (.tmp 56) (.tmp 58) a9_ x10) fun x11 =>
 bS (gV x11 false a7_ G) fun x12 G13 =>
 bS (gP x11 false (ln Q q 38 x12) G13) fun x14 G15 =>
 bS (gP x11 false (bn Q q .geq 3 (.tmp 62) (.const (.int .i64 6)) x14 (.int .i64 6)) G15) fun x16 G17 =>
 bP (pickV x11 (.bool true) x16) fun x18 =>
 ifV x18 (
 J0 (xq q 262 τ [(64,x18),(63,x16),(62,x14),(61,x12),(60,x11),(59,x11),(58,x10),(57,a1_),(56,a9_),(55,x9),(54,x8),(53,x7),(52,a10_),(51,a8_)] [(1,a1_),(6,a6_),(7,a7_),(8,a8_),(9,a9_),(10,a10_),(11,a11_),(12,a12_)]) G17) (
 bP (ln Q q 38 a7_) fun x19 =>
 bP (ias Q q 35 1 a8_ a10_) fun x20 =>
 bP (st Q q 3 1 x20 x19 G17) fun G21 =>
 bP (bn Q q .mul 3 (.const (.int .i64 2)) (.tmp 70) (.int .i64 2) a9_) fun x22 =>
 bP (bn Q q .mul 3 (.const (.int .i64 2)) (.tmp 72) (.int .i64 2) a9_) fun x23 =>
 bP (cv Q q 3 22 .i64 .u64 a9_) fun x24 =>
 bP (bd Q q 24 z24 [(0,0,1),(3,3,1)] [(.int .i64 1),x24]) fun x25 =>
 bP (bd Q q 29 z29 [(0,0,1),(1,1,1),(2,2,1),(3,3,4)] [x22,x23,(.int .i64 (-1)),x25]) fun x26 =>
 bS (al Q q 29 z29 G21) fun x27 G28 =>
 bP (st Q q 29 10 x27 x26 G28) fun G29 =>
 bP (bn Q q .lss 3 (.tmp 78) (.const (.int .i64 2)) a10_ (.int .i64 2)) fun x35 =>
 ifV x35 (
 bP (pNil a6_) fun x36 =>
 bP (fa Q q 88 2 4 x36) fun x37 =>
 bP (ld Q q 83 x37 (G29.room 13)) fun x38 =>
 bP (pNil a6_) fun x39 =>
 bP (fa Q q 88 0 0 x39) fun x40 =>
 bP (lda Q q 82 3 x40 (G29.room 13)) fun x41 =>
 bS (e.ev.cl 32 [x41,(.int .i64 1),a9_] (G29.room 13)) fun x43 G42 =>
 chk ((sameO (ld Q q 83 x37 G42) x38 && true)) <|
 bP (ias Q q 83 1 x38 a10_) fun x44 =>
 bP (st Q q 79 1 x44 x43 G42) fun G45 =>
 J1 (xq q 262 τ [(91,x44),(90,x43),(89,a9_),(88,x41),(87,x40),(86,x39),(85,a6_),(84,a10_),(83,x38),(82,x37),(81,x36),(80,a6_),(79,x35),(78,a10_),(11,x27),(77,x26),(76,x25),(75,x24),(74,a9_),(73,x23),(72,a9_),(71,x22),(70,a9_),(69,x20),(68,x19),(67,a7_),(66,a10_),(65,a8_),(64,x18),(63,x16),(62,x14),(61,x12),(60,x11),(59,x11),(58,x10),(57,a1_),(56,a9_),(55,x9),(54,x8),(53,x7),(52,a10_),(51,a8_)] [(1,a1_),(6,a6_),(7,a7_),(8,a8_),(9,a9_),(10,a10_),(12,a12_)]) G45) (
 bP (pNil a6_) fun x46 =>
 bP (fa Q q 88 5 7 x46) fun x47 =>
 bP (ld Q q 84 x47 (G29.room 11)) fun x48 =>
 bP (pNil a6_) fun x49 =>
 bP (fa Q q 88 0 0 x49) fun x50 =>
 bP (lda Q q 82 3 x50 (G29.room 11)) fun x51 =>
 bS (e.ev.cl 33 [x51,(.int .i64 1),(.int .i64 1)] (G29.room 11)) fun x53 G52 =>
 chk ((sameO (ld Q q 84 x47 G52) x48 && true)) <|
 bP (ias Q q 84 1 x48 (.int .i64 1)) fun x54 =>
 bP (st Q q 89 1 x54 x53 G52) fun G55 =>
 bP (bd Q q 24 z24 [(0,0,1)] [(.int .i64 2)]) fun x56 =>
 bP (fa Q q 29 3 3 x27) fun x57 =>
 bP (st Q q 24 4 x57 x56 G55) fun G58 =>
 J1 (xq q 262 τ [(103,x57),(102,x56),(101,x54),(100,x53),(99,x51),(98,x50),(97,x49),(96,a6_),(95,x48),(94,x47),(93,x46),(92,a6_),(79,x35),(78,a10_),(11,x27),(77,x26),(76,x25),(75,x24),(74,a9_),(73,x23),(72,a9_),(71,x22),(70,a9_),(69,x20),(68,x19),(67,a7_),(66,a10_),(65,a8_),(64,x18),(63,x16),(62,x14),(61,x12),(60,x11),(59,x11),(58,x10),(57,a1_),(56,a9_),(55,x9),(54,x8),(53,x7),(52,a10_),(51,a8_)] [(1,a1_),(6,a6_),(7,a7_),(8,a8_),(9,a9_),(10,a10_),(12,a12_)]) G58))) (
 bP (ias Q q 35 1 a8_ a10_) fun x59 =>
 bP (ld Q q 3 x59 G) fun x60 =>
 bP (ias Q q 38 10 a7_ x60) fun x61 =>
 bP (bn Q q .lss 3 (.tmp 114) (.const (.int .i64 2)) a10_ (.int .i64 2)) fun x127 =>
 bS (gV x127 true a6_ (G.room 16)) fun x128 _ =>
 bS (gP x127 true (pNil x128) (G.room 16)) fun x129 _ =>
 bS (gP x127 true (fa Q q 88 2 4 x129) (G.room 16)) fun x130 _ =>
 bS (gP x127 true (ld Q q 83 x130 (G.room 16)) (G.room 16)) fun x131 _ =>
 bS (gV x127 true a10_ (G.room 16)) fun x132 _ =>
 bS (gP x127 true (ias Q q 83 1 x131 x132) (G.room 16)) fun x133 _ =>
 bS (gP x127 true (ld Q q 79 x133 (G.room 16)) (G.room 16)) fun x134 _ =>
 bS (gV x127 true a6_ (G.room 16)) fun x135 _ =>
 bS (gP x127 true (pNil x135) (G.room 16)) fun x136 _ =>
 bS (gP x127 true (fa Q q 88 1 3 x136) (G.room 16)) fun x137 _ =>
 bS (gP x127 true (ld Q q 58 x137 (G.room 16)) (G.room 16)) fun x138 _ =>
 bS (gS x127 true (e.ev.cl 34 [x134,x138] (G.room 16)) (G.room 16)) fun x140 G139 =>
 bP (pickV x127 x140 (.bool false)) fun x141 =>
 ifV x141 (
 bP (bn Q q .mul 3 (.const (.int .i64 2)) (.tmp 134) (.int .i64 2) a9_) fun x142 =>
 bP (bn Q q .add 3 (.tmp 135) (.const (.int .i64 1)) x142 (.int .i64 1)) fun x143 =>
 bP (pNil a6_) fun x144 =>
 bP (fa Q q 88 2 4 x144) fun x145 =>
 bP (ld Q q 83 x145 G139) fun x146 =>
 bP (ias Q q 83 1 x146 a10_) fun x147 =>
 bP (ld Q q 79 x147 G139) fun x148 =>
 bS (e.ev.cl 35 [x148] G139) fun x149 G150 =>
 bP (bd Q q 27 z27 [(0,0,1)] [x149]) fun x151 =>
 bP (pNil x61) fun x152 =>
 bP (fa Q q 29 2 2 x152) fun x153 =>
 bP (st Q q 3 1 x153 x143 G150) fun G154 =>
 bP (pNil x61) fun x155 =>
 bP (fa Q q 29 4 7 x155) fun x156 =>
 bP (st Q q 27 3 x156 x151 G154) fun G157 =>
 bP (ias Q q 35 1 a8_ a10_) fun x158 =>
 bP (st Q q 3 1 x158 (.int .i64 (-1)) G157) fun G159 =>
 J2 (xq q 262 τ [(150,x158),(149,x156),(148,x155),(147,x153),(146,x152),(145,x151),(144,x149),(143,x148),(142,x147),(141,a10_),(140,x146),(139,x145),(138,x144),(137,a6_),(136,x143),(135,x142),(134,a9_),(133,a10_),(132,a8_),(131,x61),(130,x61),(129,x141),(128,x140),(127,x138),(126,x137),(125,x136),(124,x135),(123,x134),(122,x133),(121,x132),(120,x131),(119,x130),(118,x129),(117,x128),(116,x127),(115,x127),(114,a10_),(12,x61),(113,x61),(112,x60),(111,x59),(110,a10_),(109,a8_),(108,a7_),(55,x9),(54,x8),(53,x7),(52,a10_),(51,a8_)] [(1,a1_),(6,a6_),(7,a7_),(8,a8_),(9,a9_),(10,a10_),(11,a11_)]) G159) (
 J2 (xq q 262 τ [(129,x141),(128,x140),(127,x138),(126,x137),(125,x136),(124,x135),(123,x134),(122,x133),(121,x132),(120,x131),(119,x130),(118,x129),(117,x128),(116,x127),(115,x127),(114,a10_),(12,x61),(113,x61),(112,x60),(111,x59),(110,a10_),(109,a8_),(108,a7_),(55,x9),(54,x8),(53,x7),(52,a10_),(51,a8_)] [(1,a1_),(6,a6_),(7,a7_),(8,a8_),(9,a9_),(10,a10_),(11,a11_)]) G139))
def jl8_0_3 (q:Bool) (e:Ex) (lp:LpF) (τ:Env) (G:GS):OL:=jbl8_0_3 q e lp (jl8_0_0 q e lp) (jl8_0_1 q e lp) (jl8_0_2 q e lp) τ G
theorem mjl8_0_3 {e:Ex} {E:Ev} (h:ExLe Q e E) {lp lp':LpF} (hlp:LpLe lp lp') (τ:Env) (G:GS):Ref (jl8_0_3 true e lp τ G) (jl8_0_3 false (Ex.of E) lp' τ G):=by
 unfold jl8_0_3 jbl8_0_3
 have j0:=@mkjl8_0_0 e E h lp lp' hlp
 have j1:=@mkjl8_0_1 e E h lp lp' hlp
 have j2:=@mkjl8_0_2 e E h lp lp' hlp
 exact Ref.gj
theorem mkjl8_0_3 {e:Ex} {E:Ev} (h:ExLe Q e E) {lp lp':LpF} (hlp:LpLe lp lp') {τ:Env} {l U:List (Nat × Value)} {G:GS} (hU:UOk τ U):Ref (jl8_0_3 true e lp (xq true 262 τ l U) G) (jl8_0_3 false (Ex.of E) lp' (xq false 262 τ l U) G):=by
 rw [xq_eq hU]
 exact mjl8_0_3 h hlp _ _
def bb8_0 (q:Bool) (e:Ex) (lp:LpF) (J0 J1 J2 J3:LpF) (τ:Env) (G:GS):OL :=
 bV q (τ 1) fun a1_ =>
 bV q (τ 6) fun a6_ =>
 bV q (τ 7) fun a7_ =>
 bV q (τ 8) fun a8_ =>
 bV q (τ 9) fun a9_ =>
 bV q (τ 10) fun a10_ =>
 bV q (τ 11) fun a11_ =>
 bV q (τ 12) fun a12_ =>
 bP (ln Q q 35 a1_) fun x0 =>
 bP (bn Q q .add 3 (.tmp 32) (.const (.int .i64 60)) x0 (.int .i64 60)) fun x1 =>
 bP (bn Q q .lss 3 (.tmp 30) (.tmp 33) a9_ x1) fun x2 =>
 ifV x2 (
 bP (ln Q q 35 a1_) fun x4 =>
 bP (bn Q q .sub 3 (.tmp 37) (.tmp 39) a9_ x4) fun x5 =>
 bP (bn Q q .quo 3 (.tmp 40) (.const (.int .i64 20)) x5 (.int .i64 20)) fun x6 =>
 bP (ln Q q 35 a1_) fun x160 =>
 bP (bn Q q .lss 3 (.tmp 42) (.tmp 44) a9_ x160) fun x161 =>
 ifV x161 (
 bP (ias Q q 35 1 a1_ a9_) fun x162 =>
 bP (ld Q q 3 x162 G) fun x163 =>
 bS (e.ev.cl 19 [x163,(.int .i64 3)] G) fun x164 G165 =>
 J3 (xq q 262 τ [(10,x164),(50,x164),(49,x163),(48,x162),(47,a9_),(46,a1_),(45,x161),(44,x160),(43,a1_),(42,a9_),(10,x6),(41,x6),(40,x5),(39,x4),(38,a1_),(37,a9_),(34,x2),(33,x1),(32,x0),(31,a1_),(30,a9_)] [(1,a1_),(6,a6_),(7,a7_),(8,a8_),(9,a9_),(11,a11_),(12,a12_)]) G165) (
 J3 (xq q 262 τ [(45,x161),(44,x160),(43,a1_),(42,a9_),(10,x6),(41,x6),(40,x5),(39,x4),(38,a1_),(37,a9_),(34,x2),(33,x1),(32,x0),(31,a1_),(30,a9_)] [(1,a1_),(6,a6_),(7,a7_),(8,a8_),(9,a9_),(11,a11_),(12,a12_)]) G)) (
 some ((.exit 0),xq q 262 τ [(34,x2),(33,x1),(32,x0),(31,a1_),(30,a9_)] [(1,a1_),(6,a6_),(7,a7_),(8,a8_),(9,a9_),(10,a10_),(11,a11_),(12,a12_)],G))
def b8_0 (q:Bool) (e:Ex) (lp:LpF) (τ:Env) (G:GS):OL:=bb8_0 q e lp (jl8_0_0 q e lp) (jl8_0_1 q e lp) (jl8_0_2 q e lp) (jl8_0_3 q e lp) τ G
theorem mb8_0 {e:Ex} {E:Ev} (h:ExLe Q e E) {lp lp':LpF} (hlp:LpLe lp lp') (τ:Env) (G:GS):Ref (b8_0 true e lp τ G) (b8_0 false (Ex.of E) lp' τ G):=by
 unfold b8_0 bb8_0
 have j0:=@mkjl8_0_0 e E h lp lp' hlp
 have j1:=@mkjl8_0_1 e E h lp lp' hlp
 have j2:=@mkjl8_0_2 e E h lp lp' hlp
 have j3:=@mkjl8_0_3 e E h lp lp' hlp
 exact Ref.gj
def jtl8_0 (J0 J1 J2 J3:LpF):JT (Exit × Env × GS) :=
 (.n none .e (.n (some (fun T G=>J0 (nth undef T) G)) (.n none (.n none .e (.n (some (fun T G=>J3 (nth undef T) G)) .e (.n none (.n none .e (.n none (.n none .e (.n none .e (.n none .e (.n (some (fun T G=>J1 (nth undef T) G)) .e .e)))) .e)) (.n none .e (.n (some (fun T G=>J2 (nth undef T) G)) .e .e))))) .e) .e))
set_option maxHeartbeats 8000000 in
theorem jrl8_0_0 (orc:FuncId → Bool) (J0 J1 J2 J3:LpF) (T:List Value) (G:GS):runC Q (evL Q orc) 262 (jtl8_0 J0 J1 J2 J3) (subAt [1,1,1,1,1,1,1,0,1,0,0] (bodyOf Tryz.f8)) (seqXE (fun τ G'=>mapE ((E orc).lp (subAt [1,1,1,1,1,1,1,0,1,0,0] (bodyOf Tryz.f8)) (lst 262 (nth undef (lst 262 τ))) G')) fun e τ G'=>some (e,nth undef (lst 262 τ),G')) [true] (nth undef T) G = jbl8_0_0 false (Ex.of (E orc)) (fun τ G=>mapE ((E orc).lp (subAt [1,1,1,1,1,1,1,0,1,0,0] (bodyOf Tryz.f8)) (lst 262 τ) G))  (nth undef T) G:=by kernel_rfl
set_option maxHeartbeats 8000000 in
theorem jrl8_0_3 (orc:FuncId → Bool) (J0 J1 J2 J3:LpF) (T:List Value) (G:GS):runC Q (evL Q orc) 262 (jtl8_0 J0 J1 J2 J3) (subAt [1,1,1,1,1,1,1,0,1,0,0] (bodyOf Tryz.f8)) (seqXE (fun τ G'=>mapE ((E orc).lp (subAt [1,1,1,1,1,1,1,0,1,0,0] (bodyOf Tryz.f8)) (lst 262 (nth undef (lst 262 τ))) G')) fun e τ G'=>some (e,nth undef (lst 262 τ),G')) [true,false,false,true] (nth undef T) G = jbl8_0_3 false (Ex.of (E orc)) (fun τ G=>mapE ((E orc).lp (subAt [1,1,1,1,1,1,1,0,1,0,0] (bodyOf Tryz.f8)) (lst 262 τ) G)) J0 J1 J2 (nth undef T) G:=by kernel_rfl
set_option maxHeartbeats 8000000 in
theorem jrl8_0_1 (orc:FuncId → Bool) (J0 J1 J2 J3:LpF) (T:List Value) (G:GS):runC Q (evL Q orc) 262 (jtl8_0 J0 J1 J2 J3) (subAt [1,1,1,1,1,1,1,0,1,0,0] (bodyOf Tryz.f8)) (seqXE (fun τ G'=>mapE ((E orc).lp (subAt [1,1,1,1,1,1,1,0,1,0,0] (bodyOf Tryz.f8)) (lst 262 (nth undef (lst 262 τ))) G')) fun e τ G'=>some (e,nth undef (lst 262 τ),G')) [true,false,false,true,true,false,true,false,true,true,true] (nth undef T) G = jbl8_0_1 false (Ex.of (E orc)) (fun τ G=>mapE ((E orc).lp (subAt [1,1,1,1,1,1,1,0,1,0,0] (bodyOf Tryz.f8)) (lst 262 τ) G)) J0 (nth undef T) G:=by kernel_rfl
set_option maxHeartbeats 8000000 in
theorem jrl8_0_2 (orc:FuncId → Bool) (J0 J1 J2 J3:LpF) (T:List Value) (G:GS):runC Q (evL Q orc) 262 (jtl8_0 J0 J1 J2 J3) (subAt [1,1,1,1,1,1,1,0,1,0,0] (bodyOf Tryz.f8)) (seqXE (fun τ G'=>mapE ((E orc).lp (subAt [1,1,1,1,1,1,1,0,1,0,0] (bodyOf Tryz.f8)) (lst 262 (nth undef (lst 262 τ))) G')) fun e τ G'=>some (e,nth undef (lst 262 τ),G')) [true,false,false,true,true,true,true] (nth undef T) G = jbl8_0_2 false (Ex.of (E orc)) (fun τ G=>mapE ((E orc).lp (subAt [1,1,1,1,1,1,1,0,1,0,0] (bodyOf Tryz.f8)) (lst 262 τ) G)) J0 J1 (nth undef T) G:=by kernel_rfl
set_option maxHeartbeats 8000000 in
theorem jol8_0 (orc:FuncId → Bool):JOk Q orc 262 (jtl8_0 (jl8_0_0 false (Ex.of (E orc)) (fun τ G=>mapE ((E orc).lp (subAt [1,1,1,1,1,1,1,0,1,0,0] (bodyOf Tryz.f8)) (lst 262 τ) G))) (jl8_0_1 false (Ex.of (E orc)) (fun τ G=>mapE ((E orc).lp (subAt [1,1,1,1,1,1,1,0,1,0,0] (bodyOf Tryz.f8)) (lst 262 τ) G))) (jl8_0_2 false (Ex.of (E orc)) (fun τ G=>mapE ((E orc).lp (subAt [1,1,1,1,1,1,1,0,1,0,0] (bodyOf Tryz.f8)) (lst 262 τ) G))) (jl8_0_3 false (Ex.of (E orc)) (fun τ G=>mapE ((E orc).lp (subAt [1,1,1,1,1,1,1,0,1,0,0] (bodyOf Tryz.f8)) (lst 262 τ) G))) ) (subAt [1,1,1,1,1,1,1,0,1,0,0] (bodyOf Tryz.f8)) (seqXE (fun τ G'=>mapE ((E orc).lp (subAt [1,1,1,1,1,1,1,0,1,0,0] (bodyOf Tryz.f8)) (lst 262 (nth undef (lst 262 τ))) G')) fun e τ G'=>some (e,nth undef (lst 262 τ),G')) :=
 jOk Q orc (l:=[([true],(fun T G=>jl8_0_0 false (Ex.of (E orc)) (fun τ G=>mapE ((E orc).lp (subAt [1,1,1,1,1,1,1,0,1,0,0] (bodyOf Tryz.f8)) (lst 262 τ) G)) (nth undef T) G)),([true,false,false,true],(fun T G=>jl8_0_3 false (Ex.of (E orc)) (fun τ G=>mapE ((E orc).lp (subAt [1,1,1,1,1,1,1,0,1,0,0] (bodyOf Tryz.f8)) (lst 262 τ) G)) (nth undef T) G)),([true,false,false,true,true,false,true,false,true,true,true],(fun T G=>jl8_0_1 false (Ex.of (E orc)) (fun τ G=>mapE ((E orc).lp (subAt [1,1,1,1,1,1,1,0,1,0,0] (bodyOf Tryz.f8)) (lst 262 τ) G)) (nth undef T) G)),([true,false,false,true,true,true,true],(fun T G=>jl8_0_2 false (Ex.of (E orc)) (fun τ G=>mapE ((E orc).lp (subAt [1,1,1,1,1,1,1,0,1,0,0] (bodyOf Tryz.f8)) (lst 262 τ) G)) (nth undef T) G))]) (by kernel_rfl) (AllE.c (fun T G=>jrl8_0_0 orc (jl8_0_0 false (Ex.of (E orc)) (fun τ G=>mapE ((E orc).lp (subAt [1,1,1,1,1,1,1,0,1,0,0] (bodyOf Tryz.f8)) (lst 262 τ) G))) (jl8_0_1 false (Ex.of (E orc)) (fun τ G=>mapE ((E orc).lp (subAt [1,1,1,1,1,1,1,0,1,0,0] (bodyOf Tryz.f8)) (lst 262 τ) G))) (jl8_0_2 false (Ex.of (E orc)) (fun τ G=>mapE ((E orc).lp (subAt [1,1,1,1,1,1,1,0,1,0,0] (bodyOf Tryz.f8)) (lst 262 τ) G))) (jl8_0_3 false (Ex.of (E orc)) (fun τ G=>mapE ((E orc).lp (subAt [1,1,1,1,1,1,1,0,1,0,0] (bodyOf Tryz.f8)) (lst 262 τ) G))) T G) (AllE.c (fun T G=>jrl8_0_3 orc (jl8_0_0 false (Ex.of (E orc)) (fun τ G=>mapE ((E orc).lp (subAt [1,1,1,1,1,1,1,0,1,0,0] (bodyOf Tryz.f8)) (lst 262 τ) G))) (jl8_0_1 false (Ex.of (E orc)) (fun τ G=>mapE ((E orc).lp (subAt [1,1,1,1,1,1,1,0,1,0,0] (bodyOf Tryz.f8)) (lst 262 τ) G))) (jl8_0_2 false (Ex.of (E orc)) (fun τ G=>mapE ((E orc).lp (subAt [1,1,1,1,1,1,1,0,1,0,0] (bodyOf Tryz.f8)) (lst 262 τ) G))) (jl8_0_3 false (Ex.of (E orc)) (fun τ G=>mapE ((E orc).lp (subAt [1,1,1,1,1,1,1,0,1,0,0] (bodyOf Tryz.f8)) (lst 262 τ) G))) T G) (AllE.c (fun T G=>jrl8_0_1 orc (jl8_0_0 false (Ex.of (E orc)) (fun τ G=>mapE ((E orc).lp (subAt [1,1,1,1,1,1,1,0,1,0,0] (bodyOf Tryz.f8)) (lst 262 τ) G))) (jl8_0_1 false (Ex.of (E orc)) (fun τ G=>mapE ((E orc).lp (subAt [1,1,1,1,1,1,1,0,1,0,0] (bodyOf Tryz.f8)) (lst 262 τ) G))) (jl8_0_2 false (Ex.of (E orc)) (fun τ G=>mapE ((E orc).lp (subAt [1,1,1,1,1,1,1,0,1,0,0] (bodyOf Tryz.f8)) (lst 262 τ) G))) (jl8_0_3 false (Ex.of (E orc)) (fun τ G=>mapE ((E orc).lp (subAt [1,1,1,1,1,1,1,0,1,0,0] (bodyOf Tryz.f8)) (lst 262 τ) G))) T G) (AllE.c (fun T G=>jrl8_0_2 orc (jl8_0_0 false (Ex.of (E orc)) (fun τ G=>mapE ((E orc).lp (subAt [1,1,1,1,1,1,1,0,1,0,0] (bodyOf Tryz.f8)) (lst 262 τ) G))) (jl8_0_1 false (Ex.of (E orc)) (fun τ G=>mapE ((E orc).lp (subAt [1,1,1,1,1,1,1,0,1,0,0] (bodyOf Tryz.f8)) (lst 262 τ) G))) (jl8_0_2 false (Ex.of (E orc)) (fun τ G=>mapE ((E orc).lp (subAt [1,1,1,1,1,1,1,0,1,0,0] (bodyOf Tryz.f8)) (lst 262 τ) G))) (jl8_0_3 false (Ex.of (E orc)) (fun τ G=>mapE ((E orc).lp (subAt [1,1,1,1,1,1,1,0,1,0,0] (bodyOf Tryz.f8)) (lst 262 τ) G))) T G) (AllE.z)))))
set_option maxHeartbeats 8000000 in
theorem jel8_0 (orc:FuncId → Bool) (J0 J1 J2 J3:LpF) (T:List Value) (G:GS):sxC Q (evL Q orc) 262 (jtl8_0 J0 J1 J2 J3) (subAt [1,1,1,1,1,1,1,0,1,0,0] (bodyOf Tryz.f8)) (nth undef T) G (seqXE (fun τ G'=>mapE ((E orc).lp (subAt [1,1,1,1,1,1,1,0,1,0,0] (bodyOf Tryz.f8)) (lst 262 (nth undef (lst 262 τ))) G')) fun e τ G'=>some (e,nth undef (lst 262 τ),G')) = bb8_0 false (Ex.of (E orc)) (fun τ G=>mapE ((E orc).lp (subAt [1,1,1,1,1,1,1,0,1,0,0] (bodyOf Tryz.f8)) (lst 262 τ) G)) J0 J1 J2 J3 (nth undef T) G:=by kernel_rfl
set_option maxHeartbeats 8000000 in
theorem l8_0 {orc:FuncId → Bool} {e:Ex} (h:ExLe Q e (E orc)) (lp:LpF) (hlp:∀ τ G,Ref (lp τ G) (mapE ((E orc).lp (subAt [1,1,1,1,1,1,1,0,1,0,0] (bodyOf Tryz.f8)) (lst 262 τ) G))) (T:List Value) (G:GS) (hT:T.length = 262):Ref (b8_0 true e lp (nth undef T) G) (mapE ((E orc).lp (subAt [1,1,1,1,1,1,1,0,1,0,0] (bodyOf Tryz.f8)) T G)) :=
 fun r hr=>lp_sxC Q orc G (jtl8_0 (jl8_0_0 false (Ex.of (E orc)) (fun τ G=>mapE ((E orc).lp (subAt [1,1,1,1,1,1,1,0,1,0,0] (bodyOf Tryz.f8)) (lst 262 τ) G))) (jl8_0_1 false (Ex.of (E orc)) (fun τ G=>mapE ((E orc).lp (subAt [1,1,1,1,1,1,1,0,1,0,0] (bodyOf Tryz.f8)) (lst 262 τ) G))) (jl8_0_2 false (Ex.of (E orc)) (fun τ G=>mapE ((E orc).lp (subAt [1,1,1,1,1,1,1,0,1,0,0] (bodyOf Tryz.f8)) (lst 262 τ) G))) (jl8_0_3 false (Ex.of (E orc)) (fun τ G=>mapE ((E orc).lp (subAt [1,1,1,1,1,1,1,0,1,0,0] (bodyOf Tryz.f8)) (lst 262 τ) G))) ) hT (jol8_0 orc) (jel8_0 orc (jl8_0_0 false (Ex.of (E orc)) (fun τ G=>mapE ((E orc).lp (subAt [1,1,1,1,1,1,1,0,1,0,0] (bodyOf Tryz.f8)) (lst 262 τ) G))) (jl8_0_1 false (Ex.of (E orc)) (fun τ G=>mapE ((E orc).lp (subAt [1,1,1,1,1,1,1,0,1,0,0] (bodyOf Tryz.f8)) (lst 262 τ) G))) (jl8_0_2 false (Ex.of (E orc)) (fun τ G=>mapE ((E orc).lp (subAt [1,1,1,1,1,1,1,0,1,0,0] (bodyOf Tryz.f8)) (lst 262 τ) G))) (jl8_0_3 false (Ex.of (E orc)) (fun τ G=>mapE ((E orc).lp (subAt [1,1,1,1,1,1,1,0,1,0,0] (bodyOf Tryz.f8)) (lst 262 τ) G))) T G) (mb8_0 h ⟨hlp⟩ _ _ r hr)
def s8 (q:Bool) (e:Ex) (v0 v1:Value) (G:GS):OG :=
 bS (e.ev.cl 30 [] G) fun x0 G1 =>
 bP (ln Q q 35 v1) fun x2 =>
 bP (bn Q q .gtr 3 (.tmp 20) (.const (.int .i64 120)) x2 (.int .i64 120)) fun x3 =>
 ifV x3 (
 some (x0,G1)) (
 bS (e.ev.cl 19 [v0,(.int .i64 3)] G1) fun x4 G5 =>
 bP (bn Q q .add 3 (.const (.int .i64 1)) (.tmp 24) (.int .i64 1) x4) fun x6 =>
 bS (e.ev.cl 31 [x6] G5) fun x7 G8 =>
 bP (ep Q q false 77 (.tmp 27) (.const (.pointer none)) x7 (.pointer none)) fun x9 =>
 ifV x9 (
 some ((.bool false),G8)) (
 bS (bs Q q 35 3 (rep z3 3) 1 [(0,0,1),(1,1,1),(2,2,1)] [(.int .i64 (-1)),(.int .i64 (-1)),(.int .i64 (-1))] G8) fun x10 G11 =>
 bLq q e 8 0 (subAt [1,1,1,1,1,1,1,0,1,0,0] (bodyOf Tryz.f8)) 262 (nth undef [v0,v1]) [(9,(.int .i64 0)),(8,x10),(29,x10),(7,(.slice none 0 0)),(28,x9),(27,x7),(6,x7),(26,x7),(25,x6),(24,x4),(23,v0),(21,x3),(20,x2),(19,v1),(5,x0),(18,x0),(4,(.bool false))] [] G11 fun e12 t13 G14 =>
 bV q (t13 4) fun t13x4_ =>
 bV q (t13 5) fun t13x5_ =>
 bV q (t13 6) fun t13x6_ =>
 bV q (t13 7) fun t13x7_ =>
 bV q (t13 8) fun t13x8_ =>
 ifE e12 (.exit 0) (
 nf q 88 0 0 t13x6_ fun x16 =>
 fl q 82 2 2 3 x16 G14 fun x18 =>
 bS (e.ev.cl 14 [(.int .i64 1),x18,t13x7_] G14) fun x19 G20 =>
 bP (pExtract x19 0) fun x21 =>
 bP (pExtract x19 1) fun x22 =>
 bP (pExtract x19 2) fun x23 =>
 bS (gV t13x5_ true x22 G20) fun x24 G25 =>
 bP (pickV t13x5_ x24 (.bool false)) fun x26 =>
 bS (gV x26 true x23 G25) fun x27 G28 =>
 bS (gP x26 true (bn Q q .eql 25 (.tmp 241) (.const (.int .i64 0)) x27 (.int .i64 0)) G28) fun x29 G30 =>
 bP (pickV x26 x29 (.bool false)) fun x31 =>
 bS (gV x31 true t13x8_ G30) fun x32 G33 =>
 bS (gP x31 true (ias Q q 35 1 x32 (.int .i64 0)) G33) fun x34 G35 =>
 bS (gP x31 true (ld Q q 3 x34 G35) G35) fun x36 G37 =>
 bS (gP x31 true (bn Q q .lss 3 (.tmp 247) (.const (.int .i64 0)) x36 (.int .i64 0)) G37) fun x38 G39 =>
 bP (pickV x31 x38 (.bool false)) fun x40 =>
 bS (gV x40 true t13x8_ G39) fun x41 G42 =>
 bS (gP x40 true (ias Q q 35 1 x41 (.int .i64 1)) G42) fun x43 G44 =>
 bS (gP x40 true (ld Q q 3 x43 G44) G44) fun x45 G46 =>
 bS (gP x40 true (bn Q q .lss 3 (.tmp 253) (.const (.int .i64 0)) x45 (.int .i64 0)) G46) fun x47 G48 =>
 bP (pickV x40 x47 (.bool false)) fun x49 =>
 bS (gV x49 true t13x8_ G48) fun x50 G51 =>
 bS (gP x49 true (ias Q q 35 1 x50 (.int .i64 2)) G51) fun x52 G53 =>
 bS (gP x49 true (ld Q q 3 x52 G53) G53) fun x54 G55 =>
 bS (gP x49 true (bn Q q .lss 3 (.tmp 259) (.const (.int .i64 0)) x54 (.int .i64 0)) G55) fun x56 G57 =>
 bP (pickV x49 x56 (.bool false)) fun x58 =>
 some (x58,G57)) (ifE e12 .ret (
 some (t13x4_,G14)) (none))))
theorem m8 {e:Ex} {E:Ev} (h:ExLe Q e E) (v0 v1:Value) (G:GS):Ref (s8 true e v0 v1 G) (s8 false (Ex.of E) v0 v1 G):=by
 unfold s8
 exact Ref.gq
set_option maxHeartbeats 8000000 in
theorem f8 {orc:FuncId → Bool} {e:Ex} (h:ExLe Q e (E orc)) (v0 v1:Value) (G:GS):Ref (s8 true e v0 v1 G) ((E orc).cl 8 [v0,v1] G) :=
 fun r hr=>cl_sxE_some Q orc (vs:=[v0,v1]) G Tryz.func8 (by kernel_rfl) (by kernel_rfl) (by kernel_rfl) (by kernel_rfl) (by kernel_rfl) (by kernel_rfl) (m8 h v0 v1 G r hr)
def jb14_0 (q:Bool) (e:Ex) (τ:Env) (G:GS):OG :=
 bV q (τ 10) fun a10_ =>
 bV q (τ 11) fun a11_ =>
 some (.tuple #[a10_,a11_,(.int .i64 0)],G)
def j14_0 (q:Bool) (e:Ex) (τ:Env) (G:GS):OG:=jb14_0 q e τ G
theorem mj14_0 {e:Ex} {E:Ev} (h:ExLe Q e E) (τ:Env) (G:GS):Ref (j14_0 true e τ G) (j14_0 false (Ex.of E) τ G):=by
 unfold j14_0 jb14_0
 exact Ref.gq
theorem mkj14_0 {e:Ex} {E:Ev} (h:ExLe Q e E) {τ:Env} {l U:List (Nat × Value)} {G:GS} (hU:UOk τ U):Ref (j14_0 true e (xq true 46 τ l U) G) (j14_0 false (Ex.of E) (xq false 46 τ l U) G):=by
 rw [xq_eq hU]
 exact mj14_0 h _ _
def sb14 (q:Bool) (e:Ex) (J0:Env → GS → OG) (v0 v1 v2:Value) (G:GS):OG :=
 bS (e.ev.cl 39 [v0,v1,v2] G) fun x0 G1 =>
 bP (bn Q q .neq 25 (.tmp 16) (.const (.int .i64 0)) x0 (.int .i64 0)) fun x2 =>
 ifV x2 (
 some (.tuple #[(.slice none 0 0),(.bool false),x0],G1)) (
 bP (bn Q q .eql 3 (.tmp 19) (.const (.int .i64 1)) v0 (.int .i64 1)) fun x3 =>
 ifV x3 (
 bS (e.ev.cl 41 [v1] G1) fun x4 G5 =>
 bS (e.ev.cl 40 [x4,v2] G5) fun x6 G7 =>
 bP (pExtract x6 0) fun x8 =>
 bP (pExtract x6 1) fun x9 =>
 J0 (xq q 46 (nth undef [v0,v1,v2]) [(11,x9),(10,x8),(35,x9),(34,x8),(29,x6),(33,x6),(32,v2),(31,x4),(30,v1),(27,x3),(28,x3),(19,v0),(11,(.bool false)),(10,(.slice none 0 0)),(17,x2),(16,x0),(9,x0),(15,x0),(14,v2),(13,v1),(12,v0),(8,(.int .i64 0)),(7,(.bool false)),(6,(.slice none 0 0))] []) G7) (
 bP (bn Q q .eql 3 (.tmp 19) (.const (.int .i64 2)) v0 (.int .i64 2)) fun x10 =>
 ifV x10 (
 bS (e.ev.cl 43 [] G1) fun x11 G12 =>
 bS (e.ev.cl 42 [x11,v2] G12) fun x13 G14 =>
 bP (pExtract x13 0) fun x15 =>
 bP (pExtract x13 1) fun x16 =>
 J0 (xq q 46 (nth undef [v0,v1,v2]) [(11,x16),(10,x15),(43,x16),(42,x15),(38,x13),(41,x13),(40,v2),(39,x11),(36,x10),(37,x10),(27,x3),(28,x3),(19,v0),(11,(.bool false)),(10,(.slice none 0 0)),(17,x2),(16,x0),(9,x0),(15,x0),(14,v2),(13,v1),(12,v0),(8,(.int .i64 0)),(7,(.bool false)),(6,(.slice none 0 0))] []) G14) (
 bS (e.ev.cl 45 [v1] G1) fun x17 G18 =>
 bS (e.ev.cl 44 [x17,v2] G18) fun x19 G20 =>
 bP (pExtract x19 0) fun x21 =>
 bP (pExtract x19 1) fun x22 =>
 J0 (xq q 46 (nth undef [v0,v1,v2]) [(11,x22),(10,x21),(26,x22),(25,x21),(20,x19),(24,x19),(23,v2),(22,x17),(21,v1),(36,x10),(37,x10),(27,x3),(28,x3),(19,v0),(11,(.bool false)),(10,(.slice none 0 0)),(17,x2),(16,x0),(9,x0),(15,x0),(14,v2),(13,v1),(12,v0),(8,(.int .i64 0)),(7,(.bool false)),(6,(.slice none 0 0))] []) G20)))
def s14 (q:Bool) (e:Ex) (v0 v1 v2:Value) (G:GS):OG:=sb14 q e (j14_0 q e) v0 v1 v2 G
theorem m14 {e:Ex} {E:Ev} (h:ExLe Q e E) (v0 v1 v2:Value) (G:GS):Ref (s14 true e v0 v1 v2 G) (s14 false (Ex.of E) v0 v1 v2 G):=by
 unfold s14 sb14
 have j0:=@mkj14_0 e E h
 exact Ref.gj
def jt14 (J0:Env → GS → OG):JT (Value × GS) :=
 (.n none .e (.n none .e (.n none .e (.n none .e (.n (some (fun T G=>J0 (nth undef T) G)) .e .e)))))
theorem jr14_0 (orc:FuncId → Bool) (J0:Env → GS → OG) (T:List Value) (G:GS):runC Q (evL Q orc) Tryz.f14.ntmps (jt14 J0) (bodyOf Tryz.f14) (retE Q Tryz.f14.results.toList) [true,true,true,true] (nth undef T) G = jb14_0 false (Ex.of (E orc))  (nth undef T) G:=by kernel_rfl
theorem jo14 (orc:FuncId → Bool):JOk Q orc Tryz.f14.ntmps (jt14 (j14_0 false (Ex.of (E orc))) ) (bodyOf Tryz.f14) (retE Q Tryz.f14.results.toList) :=
 jOk Q orc (l:=[([true,true,true,true],(fun T G=>j14_0 false (Ex.of (E orc)) (nth undef T) G))]) (by kernel_rfl) (AllE.c (fun T G=>jr14_0 orc (j14_0 false (Ex.of (E orc))) T G) (AllE.z))
theorem je14 (orc:FuncId → Bool) (J0:Env → GS → OG) (v0 v1 v2:Value) (G:GS):sxC Q (evL Q orc) Tryz.f14.ntmps (jt14 J0) (bodyOf Tryz.f14) (nth undef [v0,v1,v2]) G (retE Q Tryz.f14.results.toList) = sb14 false (Ex.of (E orc)) J0 v0 v1 v2 G:=by kernel_rfl
theorem f14 {orc:FuncId → Bool} {e:Ex} (h:ExLe Q e (E orc)) (v0 v1 v2:Value) (G:GS):Ref (s14 true e v0 v1 v2 G) ((E orc).cl 14 [v0,v1,v2] G) :=
 fun r hr=>cl_sxC Q orc (vs:=[v0,v1,v2]) G (jt14 (j14_0 false (Ex.of (E orc))) ) Tryz.func14 (by kernel_rfl) (by kernel_rfl) (by kernel_rfl) (by kernel_rfl) (by kernel_rfl) (jo14 orc) (je14 orc (j14_0 false (Ex.of (E orc))) v0 v1 v2 G) (m14 h v0 v1 v2 G r hr)
def s19 (q:Bool) (e:Ex) (v0 v1:Value) (G:GS):OG :=
 bP (bn Q q .leq 3 (.tmp 5) (.const (.int .i64 0)) v1 (.int .i64 0)) fun x0 =>
 ifV x0 (
 some ((.int .i64 0),G)) (
 bP (bn Q q .rem 3 (.tmp 7) (.tmp 8) v0 v1) fun x1 =>
 bP (bn Q q .lss 3 (.tmp 10) (.const (.int .i64 0)) x1 (.int .i64 0)) fun x2 =>
 ifV x2 (
 bP (bn Q q .add 3 (.tmp 12) (.tmp 13) x1 v1) fun x3 =>
 some (x3,G)) (
 some (x1,G)))
theorem f19 (h:ExLe Q e (E orc)) (v0 v1:Value) (G:GS):Ref (s19 true e v0 v1 G) ((E orc).cl 19 [v0,v1] G):=cS (S:=fun q e=>s19 q e v0 v1 G) Tryz.func19 (by unfold s19; exact Ref.gq)
def s21 (q:Bool) (e:Ex) (v0 v1:Value) (G:GS):OG :=
 bS (bx q v0 G) fun x0 G1 =>
 bS (bx q v1 G1) fun x2 G3 =>
 fl q 29 2 2 3 x0 G3 fun x5 =>
 bP (bn Q q .geq 3 (.tmp 6) (.const (.int .i64 0)) x5 (.int .i64 0)) fun x6 =>
 bS (gP x6 true (fa Q q 29 2 2 x0) G3) fun x7 G8 =>
 bS (gP x6 true (ld Q q 3 x7 G8) G8) fun x9 G10 =>
 bS (gP x6 true (fa Q q 29 1 1 x2) G10) fun x11 G12 =>
 bS (gP x6 true (ld Q q 3 x11 G12) G12) fun x13 G14 =>
 bS (gP x6 true (bn Q q .lss 3 (.tmp 10) (.tmp 12) x9 x13) G14) fun x15 G16 =>
 bP (pickV x6 x15 (.bool false)) fun x17 =>
 some (x17,G16)
theorem f21 (h:ExLe Q e (E orc)) (v0 v1:Value) (G:GS):Ref (s21 true e v0 v1 G) ((E orc).cl 21 [v0,v1] G):=cS (S:=fun q e=>s21 q e v0 v1 G) Tryz.func21 (by unfold s21; exact Ref.gq)
def s31 (q:Bool) (e:Ex) (v0:Value) (G:GS):OG :=
 bP (bd Q q 82 z82 [(0,0,1),(1,1,1),(2,2,1)] [(.int .i64 3),(.int .i64 2),v0]) fun x0 =>
 bS (al Q q 82 z82 G) fun x1 G2 =>
 bP (st Q q 82 3 x1 x0 G2) fun G3 =>
 bP (lda Q q 82 3 x1 G3) fun x4 =>
 bP (bn Q q .add 3 (.tmp 8) (.const (.int .i64 2)) v0 (.int .i64 2)) fun x5 =>
 bP (bn Q q .mul 3 (.const (.int .i64 2)) (.tmp 9) (.int .i64 2) x5) fun x6 =>
 bP (bn Q q .add 3 (.const (.int .i64 3)) (.tmp 10) (.int .i64 3) x6) fun x7 =>
 bS (e.ev.cl 94 [x4,x7] G3) fun x8 G9 =>
 bP (ep Q q false 58 (.tmp 13) (.const (.pointer none)) x8 (.pointer none)) fun x10 =>
 ifV x10 (
 some ((.pointer none),G9)) (
 bP (lda Q q 82 3 x1 (G9.room 13)) fun x11 =>
 bS (mk Q q 83 1 8 z79 (.int .i64 3) (.int .i64 3) ((G9.room 13).at' (G9.nx + 2))) fun x12 G13 =>
 bS (mk Q q 35 1 8 z3 (.int .i64 3) (.int .i64 3) ((G13.back (G9.room 13)).at' (G9.nx + 3))) fun x14 G15 =>
 bS (mk Q q 35 1 8 z3 (.int .i64 3) (.int .i64 3) ((G15.back (G13.back (G9.room 13))).at' (G9.nx + 4))) fun x16 G17 =>
 bS (mk Q q 84 1 8 z89 (.int .i64 2) (.int .i64 2) ((G17.back (G15.back (G13.back (G9.room 13)))).at' (G9.nx + 5))) fun x18 G19 =>
 bS (mk Q q 85 1 24 z35 (.int .i64 2) (.int .i64 2) ((G19.back (G17.back (G15.back (G13.back (G9.room 13))))).at' (G9.nx + 6))) fun x20 G21 =>
 bS (mk Q q 35 1 8 z3 (.int .i64 2) (.int .i64 2) ((G21.back (G19.back (G17.back (G15.back (G13.back (G9.room 13)))))).at' (G9.nx + 7))) fun x22 G23 =>
 bS (mk Q q 35 1 8 z3 (.int .i64 2) (.int .i64 2) ((G23.back (G21.back (G19.back (G17.back (G15.back (G13.back (G9.room 13))))))).at' (G9.nx + 8))) fun x24 G25 =>
 bS (mk Q q 86 1 1 z4 (.int .i64 2) (.int .i64 2) ((G25.back (G23.back (G21.back (G19.back (G17.back (G15.back (G13.back (G9.room 13)))))))).at' (G9.nx + 9))) fun x26 G27 =>
 bP (bd Q q 88 z88 [(0,0,3),(1,3,1),(2,4,1),(3,5,1),(4,6,1),(5,7,1),(6,8,1),(7,9,1),(8,10,1),(9,11,1)] [x11,x8,x12,x14,x16,x18,x20,x22,x24,x26]) fun x28 =>
 bS (bx q x28 ((G27.back (G25.back (G23.back (G21.back (G19.back (G17.back (G15.back (G13.back (G9.room 13))))))))).at' (G9.nx + 11))) fun x29 G30 =>
 some (x29,(G30.back (G27.back (G25.back (G23.back (G21.back (G19.back (G17.back (G15.back (G13.back (G9.room 13))))))))))))
theorem f31 (h:ExLe Q e (E orc)) (v0:Value) (G:GS):Ref (s31 true e v0 G) ((E orc).cl 31 [v0] G):=cS (S:=fun q e=>s31 q e v0 G) Tryz.func31 (by unfold s31; exact Ref.gq)
def jb32_0 (q:Bool) (e:Ex) (τ:Env) (G:GS):OG :=
 bV q (τ 1) fun a1_ =>
 bV q (τ 2) fun a2_ =>
 bV q (τ 3) fun a3_ =>
 bV q (τ 7) fun a7_ =>
 bP (lda Q q 82 3 a3_ G) fun x8 =>
 bS (e.ev.cl 88 [x8,a1_] G) fun x9 G10 =>
 bP (pExtract x9 0) fun x11 =>
 bP (pExtract x9 1) fun x12 =>
 bS (al Q q 57 z57 G10) fun x13 G14 =>
 bP (st Q q 57 4 x13 x11 G14) fun G15 =>
 bS (gV x12 true a7_ G15) fun x16 G17 =>
 bS (gP x12 true (pNil x16) G17) fun x18 G19 =>
 bS (gP x12 true (fa Q q 166 2 2 x18) G19) fun x20 G21 =>
 bS (gP x12 true (ld Q q 25 x20 G21) G21) fun x22 G23 =>
 bS (gP x12 true (bn Q q .eql 25 (.tmp 42) (.const (.int .i64 0)) x22 (.int .i64 0)) G23) fun x24 G25 =>
 bP (pickV x12 x24 (.bool false)) fun x26 =>
 ifV x26 (
 bP (lda Q q 57 4 x13 G25) fun x27 =>
 bS (e.ev.cl 57 [x27,a2_] G25) fun x28 G29 =>
 nf q 166 1 1 a7_ fun x31 =>
 bP (st Q q 133 1 x31 x28 G29) fun G32 =>
 some (a7_,G32)) (
 some (a7_,G25))
def j32_0 (q:Bool) (e:Ex) (τ:Env) (G:GS):OG:=jb32_0 q e τ G
theorem mj32_0 {e:Ex} {E:Ev} (h:ExLe Q e E) (τ:Env) (G:GS):Ref (j32_0 true e τ G) (j32_0 false (Ex.of E) τ G):=by
 unfold j32_0 jb32_0
 exact Ref.gq
theorem mkj32_0 {e:Ex} {E:Ev} (h:ExLe Q e E) {τ:Env} {l U:List (Nat × Value)} {G:GS} (hU:UOk τ U):Ref (j32_0 true e (xq true 52 τ l U) G) (j32_0 false (Ex.of E) (xq false 52 τ l U) G):=by
 rw [xq_eq hU]
 exact mj32_0 h _ _
def sb32 (q:Bool) (e:Ex) (J0:Env → GS → OG) (v0 v1 v2:Value) (G:GS):OG :=
 bS (bx q v0 G) fun x0 G1 =>
 bP (lda Q q 82 3 x0 G1) fun x2 =>
 bS (e.ev.cl 95 [x2,v1] G1) fun x3 G4 =>
 bP (bd Q q 166 z166 [(0,0,1),(2,2,1)] [(.bool true),x3]) fun x5 =>
 bS (bx q x5 G4) fun x6 G7 =>
 bP (pNil x6) fun x33 =>
 bP (fa Q q 166 2 2 x33) fun x34 =>
 bP (ld Q q 25 x34 G7) fun x35 =>
 bP (bn Q q .eql 25 (.tmp 18) (.const (.int .i64 0)) x35 (.int .i64 0)) fun x36 =>
 bS (gV x36 true v2 G7) fun x37 G38 =>
 bS (gP x36 true (bn Q q .lss 3 (.tmp 21) (.const (.int .i64 0)) x37 (.int .i64 0)) G38) fun x39 G40 =>
 bS (gV x36 true x39 G40) fun x41 G42 =>
 bS (gV x41 false v2 G42) fun x43 G44 =>
 bS (gP x41 false (bn Q q .gtr 3 (.tmp 24) (.const (.int .i64 65535)) x43 (.int .i64 65535)) G44) fun x45 G46 =>
 bS (gP x36 true (pickV x41 (.bool true) x45) G46) fun x47 G48 =>
 bP (pickV x36 x47 (.bool false)) fun x49 =>
 ifV x49 (
 bP (pNil x6) fun x50 =>
 bP (fa Q q 166 2 2 x50) fun x51 =>
 bP (st Q q 25 1 x51 (.int .i64 3) G48) fun G52 =>
 J0 (xq q 52 (nth undef [v0,v1,v2]) [(30,x51),(29,x50),(28,x6),(27,x49),(26,x47),(25,x45),(24,x43),(23,x41),(22,x39),(21,x37),(20,x36),(19,x36),(18,x35),(17,x34),(16,x33),(15,x6),(7,x6),(14,x6),(13,x5),(12,x3),(11,v1),(10,x2),(6,(.pointer none)),(3,x0)] []) G52) (
 J0 (xq q 52 (nth undef [v0,v1,v2]) [(27,x49),(26,x47),(25,x45),(24,x43),(23,x41),(22,x39),(21,x37),(20,x36),(19,x36),(18,x35),(17,x34),(16,x33),(15,x6),(7,x6),(14,x6),(13,x5),(12,x3),(11,v1),(10,x2),(6,(.pointer none)),(3,x0)] []) G48)
def s32 (q:Bool) (e:Ex) (v0 v1 v2:Value) (G:GS):OG:=sb32 q e (j32_0 q e) v0 v1 v2 G
theorem m32 {e:Ex} {E:Ev} (h:ExLe Q e E) (v0 v1 v2:Value) (G:GS):Ref (s32 true e v0 v1 v2 G) (s32 false (Ex.of E) v0 v1 v2 G):=by
 unfold s32 sb32
 have j0:=@mkj32_0 e E h
 exact Ref.gj
def jt32 (J0:Env → GS → OG):JT (Value × GS) :=
 (.n none .e (.n none .e (.n (some (fun T G=>J0 (nth undef T) G)) .e .e)))
theorem jr32_0 (orc:FuncId → Bool) (J0:Env → GS → OG) (T:List Value) (G:GS):runC Q (evL Q orc) Tryz.f32.ntmps (jt32 J0) (bodyOf Tryz.f32) (retE Q Tryz.f32.results.toList) [true,true] (nth undef T) G = jb32_0 false (Ex.of (E orc))  (nth undef T) G:=by kernel_rfl
theorem jo32 (orc:FuncId → Bool):JOk Q orc Tryz.f32.ntmps (jt32 (j32_0 false (Ex.of (E orc))) ) (bodyOf Tryz.f32) (retE Q Tryz.f32.results.toList) :=
 jOk Q orc (l:=[([true,true],(fun T G=>j32_0 false (Ex.of (E orc)) (nth undef T) G))]) (by kernel_rfl) (AllE.c (fun T G=>jr32_0 orc (j32_0 false (Ex.of (E orc))) T G) (AllE.z))
theorem je32 (orc:FuncId → Bool) (J0:Env → GS → OG) (v0 v1 v2:Value) (G:GS):sxC Q (evL Q orc) Tryz.f32.ntmps (jt32 J0) (bodyOf Tryz.f32) (nth undef [v0,v1,v2]) G (retE Q Tryz.f32.results.toList) = sb32 false (Ex.of (E orc)) J0 v0 v1 v2 G:=by kernel_rfl
theorem f32 {orc:FuncId → Bool} {e:Ex} (h:ExLe Q e (E orc)) (v0 v1 v2:Value) (G:GS):Ref (s32 true e v0 v1 v2 G) ((E orc).cl 32 [v0,v1,v2] G) :=
 fun r hr=>cl_sxC Q orc (vs:=[v0,v1,v2]) G (jt32 (j32_0 false (Ex.of (E orc))) ) Tryz.func32 (by kernel_rfl) (by kernel_rfl) (by kernel_rfl) (by kernel_rfl) (by kernel_rfl) (jo32 orc) (je32 orc (j32_0 false (Ex.of (E orc))) v0 v1 v2 G) (m32 h v0 v1 v2 G r hr)
def jb33_0 (q:Bool) (e:Ex) (τ:Env) (G:GS):OG :=
 bV q (τ 1) fun a1_ =>
 bV q (τ 3) fun a3_ =>
 bV q (τ 7) fun a7_ =>
 bP (lda Q q 82 3 a3_ G) fun x8 =>
 bS (e.ev.cl 88 [x8,a1_] G) fun x9 G10 =>
 bP (pExtract x9 0) fun x11 =>
 bP (pExtract x9 1) fun x12 =>
 bS (al Q q 57 z57 G10) fun x13 G14 =>
 bP (st Q q 57 4 x13 x11 G14) fun G15 =>
 bS (gV x12 true a7_ G15) fun x16 G17 =>
 bS (gP x12 true (pNil x16) G17) fun x18 G19 =>
 bS (gP x12 true (fa Q q 170 6 9 x18) G19) fun x20 G21 =>
 bS (gP x12 true (ld Q q 25 x20 G21) G21) fun x22 G23 =>
 bS (gP x12 true (bn Q q .eql 25 (.tmp 39) (.const (.int .i64 0)) x22 (.int .i64 0)) G23) fun x24 G25 =>
 bP (pickV x12 x24 (.bool false)) fun x26 =>
 ifV x26 (
 bP (lda Q q 57 4 x13 (G25.room 12)) fun x27 =>
 bP (lda Q q 57 4 x13 (G25.room 12)) fun x28 =>
 bS (e.ev.cl 66 [x28] (G25.room 12)) fun x30 G29 =>
 chk ((sameO (lda Q q 57 4 x13 G29) x27 && true)) <|
 bP (ifc Q q 60 x30) fun x31 =>
 nf q 170 1 1 a7_ fun x33 =>
 bP (st Q q 57 4 x33 x27 G29) fun G34 =>
 nf q 170 3 6 a7_ fun x36 =>
 bP (st Q q 168 1 x36 x31 G34) fun G37 =>
 some (a7_,G37)) (
 some (a7_,G25))
def j33_0 (q:Bool) (e:Ex) (τ:Env) (G:GS):OG:=jb33_0 q e τ G
theorem mj33_0 {e:Ex} {E:Ev} (h:ExLe Q e E) (τ:Env) (G:GS):Ref (j33_0 true e τ G) (j33_0 false (Ex.of E) τ G):=by
 unfold j33_0 jb33_0
 exact Ref.gq
theorem mkj33_0 {e:Ex} {E:Ev} (h:ExLe Q e E) {τ:Env} {l U:List (Nat × Value)} {G:GS} (hU:UOk τ U):Ref (j33_0 true e (xq true 53 τ l U) G) (j33_0 false (Ex.of E) (xq false 53 τ l U) G):=by
 rw [xq_eq hU]
 exact mj33_0 h _ _
def sb33 (q:Bool) (e:Ex) (J0:Env → GS → OG) (v0 v1 v2:Value) (G:GS):OG :=
 bS (bx q v0 G) fun x0 G1 =>
 bP (lda Q q 82 3 x0 G1) fun x2 =>
 bS (e.ev.cl 95 [x2,v1] G1) fun x3 G4 =>
 bP (bd Q q 170 z170 [(0,0,1),(2,5,1),(6,9,1)] [(.bool true),v2,x3]) fun x5 =>
 bS (bx q x5 G4) fun x6 G7 =>
 bP (pNil x6) fun x38 =>
 bP (fa Q q 170 6 9 x38) fun x39 =>
 bP (ld Q q 25 x39 G7) fun x40 =>
 bP (bn Q q .eql 25 (.tmp 19) (.const (.int .i64 0)) x40 (.int .i64 0)) fun x41 =>
 bS (gV x41 true v2 G7) fun x42 G43 =>
 bS (gP x41 true (bn Q q .lss 3 (.tmp 22) (.const (.int .i64 1)) x42 (.int .i64 1)) G43) fun x44 G45 =>
 bP (pickV x41 x44 (.bool false)) fun x46 =>
 ifV x46 (
 bP (pNil x6) fun x47 =>
 bP (fa Q q 170 6 9 x47) fun x48 =>
 bP (st Q q 25 1 x48 (.int .i64 3) G45) fun G49 =>
 J0 (xq q 53 (nth undef [v0,v1,v2]) [(27,x48),(26,x47),(25,x6),(24,x46),(23,x44),(22,x42),(21,x41),(20,x41),(19,x40),(18,x39),(17,x38),(16,x6),(7,x6),(15,x6),(14,x5),(13,x3),(12,v1),(11,x2),(10,v2),(6,(.pointer none)),(3,x0)] []) G49) (
 J0 (xq q 53 (nth undef [v0,v1,v2]) [(24,x46),(23,x44),(22,x42),(21,x41),(20,x41),(19,x40),(18,x39),(17,x38),(16,x6),(7,x6),(15,x6),(14,x5),(13,x3),(12,v1),(11,x2),(10,v2),(6,(.pointer none)),(3,x0)] []) G45)
def s33 (q:Bool) (e:Ex) (v0 v1 v2:Value) (G:GS):OG:=sb33 q e (j33_0 q e) v0 v1 v2 G
theorem m33 {e:Ex} {E:Ev} (h:ExLe Q e E) (v0 v1 v2:Value) (G:GS):Ref (s33 true e v0 v1 v2 G) (s33 false (Ex.of E) v0 v1 v2 G):=by
 unfold s33 sb33
 have j0:=@mkj33_0 e E h
 exact Ref.gj
def jt33 (J0:Env → GS → OG):JT (Value × GS) :=
 (.n none .e (.n none .e (.n (some (fun T G=>J0 (nth undef T) G)) .e .e)))
theorem jr33_0 (orc:FuncId → Bool) (J0:Env → GS → OG) (T:List Value) (G:GS):runC Q (evL Q orc) Tryz.f33.ntmps (jt33 J0) (bodyOf Tryz.f33) (retE Q Tryz.f33.results.toList) [true,true] (nth undef T) G = jb33_0 false (Ex.of (E orc))  (nth undef T) G:=by kernel_rfl
theorem jo33 (orc:FuncId → Bool):JOk Q orc Tryz.f33.ntmps (jt33 (j33_0 false (Ex.of (E orc))) ) (bodyOf Tryz.f33) (retE Q Tryz.f33.results.toList) :=
 jOk Q orc (l:=[([true,true],(fun T G=>j33_0 false (Ex.of (E orc)) (nth undef T) G))]) (by kernel_rfl) (AllE.c (fun T G=>jr33_0 orc (j33_0 false (Ex.of (E orc))) T G) (AllE.z))
theorem je33 (orc:FuncId → Bool) (J0:Env → GS → OG) (v0 v1 v2:Value) (G:GS):sxC Q (evL Q orc) Tryz.f33.ntmps (jt33 J0) (bodyOf Tryz.f33) (nth undef [v0,v1,v2]) G (retE Q Tryz.f33.results.toList) = sb33 false (Ex.of (E orc)) J0 v0 v1 v2 G:=by kernel_rfl
theorem f33 {orc:FuncId → Bool} {e:Ex} (h:ExLe Q e (E orc)) (v0 v1 v2:Value) (G:GS):Ref (s33 true e v0 v1 v2 G) ((E orc).cl 33 [v0,v1,v2] G) :=
 fun r hr=>cl_sxC Q orc (vs:=[v0,v1,v2]) G (jt33 (j33_0 false (Ex.of (E orc))) ) Tryz.func33 (by kernel_rfl) (by kernel_rfl) (by kernel_rfl) (by kernel_rfl) (by kernel_rfl) (jo33 orc) (je33 orc (j33_0 false (Ex.of (E orc))) v0 v1 v2 G) (m33 h v0 v1 v2 G r hr)
def s34 (q:Bool) (e:Ex) (v0 v1:Value) (G:GS):OG :=
 bP (ep Q q false 79 (.tmp 6) (.const (.pointer none)) v0 (.pointer none)) fun x0 =>
 bS (gV x0 false v0 G) fun x1 G2 =>
 bS (gP x0 false (pNil x1) G2) fun x3 G4 =>
 bS (gP x0 false (fa Q q 166 1 1 x3) G4) fun x5 G6 =>
 bS (gP x0 false (ld Q q 133 x5 G6) G6) fun x7 G8 =>
 bS (gP x0 false (ep Q q false 133 (.tmp 12) (.const (.pointer none)) x7 (.pointer none)) G8) fun x9 G10 =>
 bP (pickV x0 (.bool true) x9) fun x11 =>
 ifV x11 (
 some ((.bool true),G10)) (
 nl q 166 1 1 133 v0 G10 fun x14 =>
 bS (e.ev.cl 63 [x14,v1] G10) fun x15 G16 =>
 ifV x15 (
 nl q 166 1 1 133 v0 G16 fun x19 =>
 bS (e.ev.cl 64 [x19] G16) fun x20 G21 =>
 nf q 166 2 2 v0 fun x23 =>
 bP (st Q q 25 1 x23 x20 G21) fun G24 =>
 nf q 166 1 1 v0 fun x26 =>
 bP (st Q q 133 1 x26 (.pointer none) G24) fun G27 =>
 some (x15,G27)) (
 some (x15,G16)))
theorem f34 (h:ExLe Q e (E orc)) (v0 v1:Value) (G:GS):Ref (s34 true e v0 v1 G) ((E orc).cl 34 [v0,v1] G):=cS (S:=fun q e=>s34 q e v0 v1 G) Tryz.func34 (by unfold s34; exact Ref.gq)
def s35 (q:Bool) (e:Ex) (v0:Value) (G:GS):OG :=
 bP (ep Q q false 79 (.tmp 4) (.const (.pointer none)) v0 (.pointer none)) fun x0 =>
 bS (gV x0 false v0 G) fun x1 G2 =>
 bS (gP x0 false (pNil x1) G2) fun x3 G4 =>
 bS (gP x0 false (fa Q q 166 0 0 x3) G4) fun x5 G6 =>
 bS (gP x0 false (ld Q q 4 x5 G6) G6) fun x7 G8 =>
 bS (gP x0 false (un Q q .not x7) G8) fun x9 G10 =>
 bP (pickV x0 (.bool true) x9) fun x11 =>
 ifV x11 (
 some ((.int .i64 1),G10)) (
 nl q 166 1 1 133 v0 G10 fun x14 =>
 bP (ep Q q true 133 (.tmp 17) (.const (.pointer none)) x14 (.pointer none)) fun x15 =>
 ifV x15 (
 some ((.int .i64 14),G10)) (
 nl q 166 2 2 25 v0 G10 fun x18 =>
 some (x18,G10)))
theorem f35 (h:ExLe Q e (E orc)) (v0:Value) (G:GS):Ref (s35 true e v0 G) ((E orc).cl 35 [v0] G):=cS (S:=fun q e=>s35 q e v0 G) Tryz.func35 (by unfold s35; exact Ref.gq)
def jb36_0 (q:Bool) (e:Ex) (τ:Env) (G:GS):OG :=
 bV q (τ 0) fun a0_ =>
 nl q 170 3 6 168 a0_ G fun x20 =>
 bP (bn Q q .eql 168 (.tmp 98) (.const .nilIface) x20 .nilIface) fun x21 =>
 some (x21,G)
def j36_0 (q:Bool) (e:Ex) (τ:Env) (G:GS):OG:=jb36_0 q e τ G
theorem mj36_0 {e:Ex} {E:Ev} (h:ExLe Q e E) (τ:Env) (G:GS):Ref (j36_0 true e τ G) (j36_0 false (Ex.of E) τ G):=by
 unfold j36_0 jb36_0
 exact Ref.gq
theorem mkj36_0 {e:Ex} {E:Ev} (h:ExLe Q e E) {τ:Env} {l U:List (Nat × Value)} {G:GS} (hU:UOk τ U):Ref (j36_0 true e (xq true 100 τ l U) G) (j36_0 false (Ex.of E) (xq false 100 τ l U) G):=by
 rw [xq_eq hU]
 exact mj36_0 h _ _
def sb36 (q:Bool) (e:Ex) (J0:Env → GS → OG) (v0 v1:Value) (G:GS):OG :=
 bP (ep Q q false 89 (.tmp 9) (.const (.pointer none)) v0 (.pointer none)) fun x0 =>
 bS (gV x0 false v0 G) fun x1 G2 =>
 bS (gP x0 false (pNil x1) G2) fun x3 G4 =>
 bS (gP x0 false (fa Q q 170 3 6 x3) G4) fun x5 G6 =>
 bS (gP x0 false (ld Q q 168 x5 G6) G6) fun x7 G8 =>
 bS (gP x0 false (bn Q q .eql 168 (.tmp 15) (.const .nilIface) x7 .nilIface) G8) fun x9 G10 =>
 bP (pickV x0 (.bool true) x9) fun x11 =>
 ifV x11 (
 some ((.bool true),G10)) (
 bP (pNil v0) fun x12 =>
 bP (fa Q q 170 3 6 x12) fun x13 =>
 bP (ld Q q 168 x13 G10) fun x14 =>
 bS (cInvoke Q e.ev x14 "Step" [v1] G10) fun x15 G16 =>
 bP (un Q q .not x15) fun x17 =>
 ifV x17 (
 some ((.bool false),G16)) (
 bP (pNil v0) fun x22 =>
 bP (fa Q q 170 3 6 x22) fun x23 =>
 bP (ld Q q 168 x23 G16) fun x24 =>
 bP (gAssert Q x24 60 true) fun x25 =>
 bP (pExtract x25 1) fun x26 =>
 bP (pExtract x25 0) fun x27 =>
 ifV x26 (
 bS (e.ev.cl 67 [x27] G16) fun x28 G29 =>
 bP (pExtract x28 0) fun x30 =>
 bP (pExtract x28 1) fun x31 =>
 bP (pNil v0) fun x32 =>
 bP (fa Q q 170 5 8 x32) fun x33 =>
 bP (st Q q 3 1 x33 x30 G29) fun G34 =>
 bP (pNil v0) fun x35 =>
 bP (fa Q q 170 3 6 x35) fun x36 =>
 bP (st Q q 168 1 x36 .nilIface G34) fun G37 =>
 bP (bn Q q .eql 25 (.tmp 44) (.const (.int .i64 0)) x31 (.int .i64 0)) fun x38 =>
 ifV x38 (
 bP (pNil v0) fun x39 =>
 bP (fa Q q 170 1 1 x39) fun x40 =>
 bP (lda Q q 57 4 x40 (G37.room 12)) fun x41 =>
 bS (e.ev.cl 97 [x27] (G37.room 12)) fun x43 G42 =>
 chk ((sameO (lda Q q 57 4 x40 G42) x41 && true)) <|
 bS (e.ev.cl 96 [x41,x43] G42) fun x45 G44 =>
 bP (ifc Q q 61 x45) fun x46 =>
 bP (pNil v0) fun x47 =>
 bP (fa Q q 170 3 6 x47) fun x48 =>
 bP (st Q q 168 1 x48 x46 G44) fun G49 =>
 J0 (xq q 100 (nth undef [v0,v1]) [(56,x48),(55,x47),(54,x46),(53,x45),(52,x43),(51,x27),(50,x41),(49,x40),(48,x39),(47,v0),(46,v0),(45,x38),(44,x31),(43,x36),(42,x35),(41,x33),(40,x32),(39,x30),(38,v0),(37,v0),(7,x31),(6,x30),(36,x31),(35,x30),(32,x28),(34,x28),(33,x27),(5,x27),(31,x27),(30,x26),(29,x25),(28,x24),(27,x23),(26,x22),(25,v0),(24,x17),(23,x15),(22,v1),(21,x14),(20,x13),(19,x12),(18,v0),(17,x11),(16,x9),(15,x7),(14,x5),(13,x3),(12,x1),(11,x0),(10,x0),(9,v0),(4,(.bool false))] []) G49) (
 J0 (xq q 100 (nth undef [v0,v1]) [(45,x38),(44,x31),(43,x36),(42,x35),(41,x33),(40,x32),(39,x30),(38,v0),(37,v0),(7,x31),(6,x30),(36,x31),(35,x30),(32,x28),(34,x28),(33,x27),(5,x27),(31,x27),(30,x26),(29,x25),(28,x24),(27,x23),(26,x22),(25,v0),(24,x17),(23,x15),(22,v1),(21,x14),(20,x13),(19,x12),(18,v0),(17,x11),(16,x9),(15,x7),(14,x5),(13,x3),(12,x1),(11,x0),(10,x0),(9,v0),(4,(.bool false))] []) G37)) (
 bP (gAssert Q x24 61 true) fun x50 =>
 bP (pExtract x50 1) fun x51 =>
 bP (pExtract x50 0) fun x52 =>
 ifV x51 (
 bP (pNil v0) fun x53 =>
 bP (fa Q q 170 4 7 x53) fun x54 =>
 bP (ld Q q 35 x54 (G16.room 18)) fun x55 =>
 bP (pNil v0) fun x56 =>
 bP (fa Q q 170 5 8 x56) fun x57 =>
 bP (ld Q q 3 x57 (G16.room 18)) fun x58 =>
 bS (bs Q q 35 1 (rep z3 1) 1 [(0,0,1)] [x58] ((G16.room 18).at' (G16.nx + 10))) fun x59 G60 =>
 bS (ap Q q 35 35 1 8 x55 x59 (G60.back (G16.room 18))) fun x62 G61 =>
 bP (pNil v0) fun x63 =>
 bP (fa Q q 170 4 7 x63) fun x64 =>
 bP (st Q q 35 1 x64 x62 G61) fun G65 =>
 bP (pNil v0) fun x66 =>
 bP (fa Q q 170 3 6 x66) fun x67 =>
 bP (st Q q 168 1 x67 .nilIface G65) fun G68 =>
 bP (pNil v0) fun x69 =>
 bP (fa Q q 170 4 7 x69) fun x70 =>
 bP (ld Q q 35 x70 (G68.room 10)) fun x71 =>
 bP (ln Q q 35 x71) fun x72 =>
 bP (pNil v0) fun x73 =>
 bP (fa Q q 170 2 5 x73) fun x74 =>
 bP (ld Q q 3 x74 (G68.room 10)) fun x75 =>
 bP (bn Q q .lss 3 (.tmp 80) (.tmp 84) x72 x75) fun x76 =>
 ifV x76 (
 bP (pNil v0) fun x77 =>
 bP (fa Q q 170 1 1 x77) fun x78 =>
 bP (lda Q q 57 4 x78 (G68.room 10)) fun x79 =>
 bS (e.ev.cl 66 [x79] (G68.room 10)) fun x80 G81 =>
 bP (ifc Q q 60 x80) fun x82 =>
 bP (pNil v0) fun x83 =>
 bP (fa Q q 170 3 6 x83) fun x84 =>
 bP (st Q q 168 1 x84 x82 G81) fun G85 =>
 J0 (xq q 100 (nth undef [v0,v1]) [(94,x84),(93,x83),(92,x82),(91,x80),(90,x79),(89,x78),(88,x77),(87,v0),(86,v0),(85,x76),(84,x75),(83,x74),(82,x73),(81,v0),(80,x72),(79,x71),(78,x70),(77,x69),(76,v0),(75,x67),(74,x66),(73,x64),(72,x63),(71,x62),(70,x59),(69,x58),(68,x57),(67,x56),(66,v0),(65,x55),(64,x54),(63,x53),(62,v0),(61,v0),(60,v0),(8,x52),(59,x52),(58,x51),(57,x50),(31,x27),(30,x26),(29,x25),(28,x24),(27,x23),(26,x22),(25,v0),(24,x17),(23,x15),(22,v1),(21,x14),(20,x13),(19,x12),(18,v0),(17,x11),(16,x9),(15,x7),(14,x5),(13,x3),(12,x1),(11,x0),(10,x0),(9,v0),(4,(.bool false))] []) G85) (
 J0 (xq q 100 (nth undef [v0,v1]) [(85,x76),(84,x75),(83,x74),(82,x73),(81,v0),(80,x72),(79,x71),(78,x70),(77,x69),(76,v0),(75,x67),(74,x66),(73,x64),(72,x63),(71,x62),(70,x59),(69,x58),(68,x57),(67,x56),(66,v0),(65,x55),(64,x54),(63,x53),(62,v0),(61,v0),(60,v0),(8,x52),(59,x52),(58,x51),(57,x50),(31,x27),(30,x26),(29,x25),(28,x24),(27,x23),(26,x22),(25,v0),(24,x17),(23,x15),(22,v1),(21,x14),(20,x13),(19,x12),(18,v0),(17,x11),(16,x9),(15,x7),(14,x5),(13,x3),(12,x1),(11,x0),(10,x0),(9,v0),(4,(.bool false))] []) (G68.room 10))) (
 J0 (xq q 100 (nth undef [v0,v1]) [(59,x52),(58,x51),(57,x50),(31,x27),(30,x26),(29,x25),(28,x24),(27,x23),(26,x22),(25,v0),(24,x17),(23,x15),(22,v1),(21,x14),(20,x13),(19,x12),(18,v0),(17,x11),(16,x9),(15,x7),(14,x5),(13,x3),(12,x1),(11,x0),(10,x0),(9,v0),(4,(.bool false))] []) G16))))
def s36 (q:Bool) (e:Ex) (v0 v1:Value) (G:GS):OG:=sb36 q e (j36_0 q e) v0 v1 G
theorem m36 {e:Ex} {E:Ev} (h:ExLe Q e E) (v0 v1:Value) (G:GS):Ref (s36 true e v0 v1 G) (s36 false (Ex.of E) v0 v1 G):=by
 unfold s36 sb36
 have j0:=@mkj36_0 e E h
 exact Ref.gj
def jt36 (J0:Env → GS → OG):JT (Value × GS) :=
 (.n none .e (.n none .e (.n none .e (.n (some (fun T G=>J0 (nth undef T) G)) .e .e))))
set_option maxHeartbeats 8000000 in
theorem jr36_0 (orc:FuncId → Bool) (J0:Env → GS → OG) (T:List Value) (G:GS):runC Q (evL Q orc) Tryz.f36.ntmps (jt36 J0) (bodyOf Tryz.f36) (retE Q Tryz.f36.results.toList) [true,true,true] (nth undef T) G = jb36_0 false (Ex.of (E orc))  (nth undef T) G:=by kernel_rfl
set_option maxHeartbeats 8000000 in
theorem jo36 (orc:FuncId → Bool):JOk Q orc Tryz.f36.ntmps (jt36 (j36_0 false (Ex.of (E orc))) ) (bodyOf Tryz.f36) (retE Q Tryz.f36.results.toList) :=
 jOk Q orc (l:=[([true,true,true],(fun T G=>j36_0 false (Ex.of (E orc)) (nth undef T) G))]) (by kernel_rfl) (AllE.c (fun T G=>jr36_0 orc (j36_0 false (Ex.of (E orc))) T G) (AllE.z))
set_option maxHeartbeats 8000000 in
theorem je36 (orc:FuncId → Bool) (J0:Env → GS → OG) (v0 v1:Value) (G:GS):sxC Q (evL Q orc) Tryz.f36.ntmps (jt36 J0) (bodyOf Tryz.f36) (nth undef [v0,v1]) G (retE Q Tryz.f36.results.toList) = sb36 false (Ex.of (E orc)) J0 v0 v1 G:=by kernel_rfl
set_option maxHeartbeats 8000000 in
theorem f36 {orc:FuncId → Bool} {e:Ex} (h:ExLe Q e (E orc)) (v0 v1:Value) (G:GS):Ref (s36 true e v0 v1 G) ((E orc).cl 36 [v0,v1] G) :=
 fun r hr=>cl_sxC Q orc (vs:=[v0,v1]) G (jt36 (j36_0 false (Ex.of (E orc))) ) Tryz.func36 (by kernel_rfl) (by kernel_rfl) (by kernel_rfl) (by kernel_rfl) (by kernel_rfl) (jo36 orc) (je36 orc (j36_0 false (Ex.of (E orc))) v0 v1 G) (m36 h v0 v1 G r hr)
def s37 (q:Bool) (e:Ex) (v0:Value) (G:GS):OG :=
 bP (ep Q q false 89 (.tmp 5) (.const (.pointer none)) v0 (.pointer none)) fun x0 =>
 bS (gV x0 false v0 G) fun x1 G2 =>
 bS (gP x0 false (pNil x1) G2) fun x3 G4 =>
 bS (gP x0 false (fa Q q 170 0 0 x3) G4) fun x5 G6 =>
 bS (gP x0 false (ld Q q 4 x5 G6) G6) fun x7 G8 =>
 bS (gP x0 false (un Q q .not x7) G8) fun x9 G10 =>
 bP (pickV x0 (.bool true) x9) fun x11 =>
 ifV x11 (
 some (.tuple #[(.slice none 0 0),(.int .i64 1)],G10)) (
 nl q 170 3 6 168 v0 G10 fun x14 =>
 bP (bn Q q .neq 168 (.tmp 18) (.const .nilIface) x14 .nilIface) fun x15 =>
 ifV x15 (
 some (.tuple #[(.slice none 0 0),(.int .i64 14)],G10)) (
 nl q 170 6 9 25 v0 G10 fun x18 =>
 bP (bn Q q .neq 25 (.tmp 24) (.const (.int .i64 0)) x18 (.int .i64 0)) fun x19 =>
 ifV x19 (
 nl q 170 6 9 25 v0 (G10.room 6) fun x22 =>
 some (.tuple #[(.slice none 0 0),x22],(G10.room 6))) (
 nl q 170 4 7 35 v0 G10 fun x25 =>
 bS (e.ev.cl 98 [x25] G10) fun x26 G27 =>
 some (.tuple #[x26,(.int .i64 0)],G27))))
theorem f37 (h:ExLe Q e (E orc)) (v0:Value) (G:GS):Ref (s37 true e v0 G) ((E orc).cl 37 [v0] G):=cS (S:=fun q e=>s37 q e v0 G) Tryz.func37 (by unfold s37; exact Ref.gq)
def b39_0 (q:Bool) (e:Ex) (lp:LpF) (τ:Env) (G:GS):OL :=
 bV q (τ 7) fun a7_ =>
 bV q (τ 40) fun a40_ =>
 bV q (τ 41) fun a41_ =>
 bV q (τ 42) fun a42_ =>
 bP (bn Q q .lss 3 (.tmp 42) (.tmp 41) a42_ a41_) fun x0 =>
 ifV x0 (
 bP (ias Q q 38 10 a40_ a42_) fun x1 =>
 bP (lda Q q 29 10 x1 G) fun x2 =>
 bS (al Q q 29 z29 G) fun x3 G4 =>
 bP (st Q q 29 10 x3 x2 G4) fun G5 =>
 bP (fa Q q 29 0 0 x3) fun x6 =>
 bP (ld Q q 3 x6 G5) fun x7 =>
 bP (gLookup Q 175 a7_ x7 true G5) fun x8 =>
 bP (pExtract x8 0) fun x9 =>
 bP (pExtract x8 1) fun x10 =>
 ifV x10 (
 some (.ret,xq q 60 τ [(6,(.int .i64 8)),(54,x10),(11,x10),(10,x9),(53,x10),(52,x9),(47,x8),(51,x8),(50,x7),(49,x6),(48,a7_),(8,a42_),(9,x3),(46,x2),(45,x1),(44,a42_),(43,x0)] [(7,a7_),(40,a40_),(41,a41_),(42,a42_)],G5)) (
 bP (fa Q q 29 0 0 x3) fun x11 =>
 bP (ld Q q 3 x11 G5) fun x12 =>
 bP (gMapPut Q 175 a7_ x12 a42_ G5) fun G13 =>
 bP (bn Q q .add 3 (.tmp 42) (.const (.int .i64 1)) a42_ (.int .i64 1)) fun x14 =>
 lp (xq q 60 τ [(42,x14),(59,x14),(58,a42_),(57,x12),(56,x11),(55,a7_),(54,x10),(11,x10),(10,x9),(53,x10),(52,x9),(47,x8),(51,x8),(50,x7),(49,x6),(48,a7_),(8,a42_),(9,x3),(46,x2),(45,x1),(44,a42_),(43,x0)] [(7,a7_),(40,a40_),(41,a41_)]) G13)) (
 some ((.exit 1),xq q 60 τ [(43,x0)] [(7,a7_),(40,a40_),(41,a41_),(42,a42_)],G))
theorem l39_0 (h:ExLe Q e (E orc)):LT orc 60 (subAt [1,1,1,0,1,0,0] (bodyOf Tryz.f39)) (b39_0 true e):=cL fun hlp τ G=>by unfold b39_0; exact Ref.gq
def s39 (q:Bool) (e:Ex) (v0 v1 v2:Value) (G:GS):OG :=
 bP (bn Q q .lss 3 (.tmp 13) (.const (.int .i64 1)) v0 (.int .i64 1)) fun x0 =>
 bS (gV x0 false v0 G) fun x1 G2 =>
 bS (gP x0 false (bn Q q .gtr 3 (.tmp 16) (.const (.int .i64 3)) x1 (.int .i64 3)) G2) fun x3 G4 =>
 bP (pickV x0 (.bool true) x3) fun x5 =>
 ifV x5 (
 some ((.int .i64 2),G4)) (
 bP (bn Q q .lss 3 (.tmp 20) (.const (.int .i64 1)) v1 (.int .i64 1)) fun x6 =>
 bS (gV x6 false v1 G4) fun x7 G8 =>
 bS (gP x6 false (bn Q q .gtr 3 (.tmp 23) (.const (.int .i64 64)) x7 (.int .i64 64)) G8) fun x9 G10 =>
 bP (pickV x6 (.bool true) x9) fun x11 =>
 ifV x11 (
 some ((.int .i64 3),G10)) (
 bP (ln Q q 38 v2) fun x12 =>
 bP (bn Q q .gtr 3 (.tmp 28) (.const (.int .i64 10)) x12 (.int .i64 10)) fun x13 =>
 bS (gV x13 false v0 G10) fun x14 G15 =>
 bS (gP x13 false (bn Q q .eql 3 (.tmp 31) (.const (.int .i64 3)) x14 (.int .i64 3)) G15) fun x16 G17 =>
 bS (gV x13 false x16 G17) fun x18 G19 =>
 bS (gV x18 true v2 G19) fun x20 G21 =>
 bS (gS x18 true (e.ev.cl 99 [x20] G21) G21) fun x22 G23 =>
 bS (gP x18 true (bn Q q .gtr 3 (.tmp 35) (.const (.int .i64 2)) x22 (.int .i64 2)) G23) fun x24 G25 =>
 bS (gP x13 false (pickV x18 x24 (.bool false)) G25) fun x26 G27 =>
 bP (pickV x13 (.bool true) x26) fun x28 =>
 ifV x28 (
 some ((.int .i64 4),G27)) (
 bS (nm G27) fun x29 G30 =>
 bP (ln Q q 38 v2) fun x31 =>
 bLq q e 39 0 (subAt [1,1,1,0,1,0,0] (bodyOf Tryz.f39)) 60 (nth undef [v0,v1,v2]) [(42,(.int .i64 0)),(41,x31),(40,v2),(7,x29),(39,x29),(26,x28),(38,x28),(37,x26),(36,x24),(35,x22),(34,x20),(33,x18),(32,x16),(31,x14),(30,x13),(29,x13),(28,x12),(27,v2),(19,x11),(25,x11),(24,x9),(23,x7),(22,x6),(21,x6),(20,v1),(12,x5),(18,x5),(17,x3),(16,x1),(15,x0),(14,x0),(13,v0),(6,(.int .i64 0))] [] G30 fun e32 t33 G34 =>
 bV q (t33 6) fun t33x6_ =>
 ifE e32 (.exit 1) (
 some ((.int .i64 0),G34)) (ifE e32 .ret (
 some (t33x6_,G34)) (none)))))
theorem f39 (h:ExLe Q e (E orc)) (v0 v1 v2:Value) (G:GS):Ref (s39 true e v0 v1 v2 G) ((E orc).cl 39 [v0,v1,v2] G):=cS (S:=fun q e=>s39 q e v0 v1 v2 G) Tryz.func39 (by unfold s39; exact Ref.gq)
def b40_0 (q:Bool) (e:Ex) (lp:LpF) (τ:Env) (G:GS):OL :=
 bV q (τ 1) fun a1_ =>
 bV q (τ 8) fun a8_ =>
 bS (e.ev.cl 101 [a1_,a8_] G) fun x0 G1 =>
 bP (un Q q .not x0) fun x2 =>
 ifV x2 (
 bP (ln Q q 38 a1_) fun x3 =>
 bLq q e 40 1 (subAt [1,1,1,0,1,0,0,1,0,1,0,0] (bodyOf Tryz.f40)) 56 τ [(22,(.int .i64 0)),(21,x3),(20,a1_),(19,x2),(18,x0),(17,a8_),(16,a1_)] [] G1 fun e4 t5 G6 =>
 bV q (t5 1) fun t5x1_ =>
 bV q (t5 8) fun t5x8_ =>
 ifE e4 (.exit 2) (
 lp (xq q 56 t5 [] [(1,t5x1_),(8,t5x8_)]) G6) (none)) (
 some ((.exit 0),xq q 56 τ [(19,x2),(18,x0),(17,a8_),(16,a1_)] [(1,a1_),(8,a8_)],G1))
theorem l40_0 (h:ExLe Q e (E orc)):LT orc 56 (subAt [1,1,1,0,1,0,0] (bodyOf Tryz.f40)) (b40_0 true e):=cL fun hlp τ G=>by unfold b40_0; exact Ref.gq
def b40_1 (q:Bool) (e:Ex) (lp:LpF) (τ:Env) (G:GS):OL :=
 bV q (τ 1) fun a1_ =>
 bV q (τ 2) fun a2_ =>
 bV q (τ 6) fun a6_ =>
 bV q (τ 7) fun a7_ =>
 bV q (τ 8) fun a8_ =>
 bV q (τ 20) fun a20_ =>
 bV q (τ 21) fun a21_ =>
 bV q (τ 22) fun a22_ =>
 bP (bn Q q .lss 3 (.tmp 22) (.tmp 21) a22_ a21_) fun x0 =>
 ifV x0 (
 bP (ias Q q 38 10 a20_ a22_) fun x1 =>
 bP (lda Q q 29 10 x1 G) fun x2 =>
 bS (al Q q 29 z29 G) fun x3 G4 =>
 bP (st Q q 29 10 x3 x2 G4) fun G5 =>
 bS (e.ev.cl 102 [a1_,a8_,a22_] (G5.room 14)) fun x7 G6 =>
 bS (gP x7 true (lda Q q 104 4 a2_ G6) G6) fun x8 _ =>
 bS (gV x7 true a1_ G6) fun x9 _ =>
 bS (gV x7 true a6_ G6) fun x10 _ =>
 bS (gS x7 true (e.ev.cl 98 [x10] G6) G6) fun x12 G11 =>
 chk (((!(gB x7 true) || (!(gB x7 true) || sameO (lda Q q 104 4 a2_ G11) x8)) && true)) <|
 bS (gV x7 true a22_ G11) fun x13 _ =>
 bS (gd x7 true (bS (bs Q q 35 1 (rep z3 1) 1 [(0,0,1)] [x13] (G11.at' (G5.nx + 10))) fun y G'=>some (y,(G'.back G11))) G11) fun x14 G15 =>
 bS (gS x7 true (ap Q q 35 35 1 8 x12 x14 G15) G15) fun x17 G16 =>
 chk (((!(gB x7 true) || (!(gB x7 true) || sameO (lda Q q 104 4 a2_ G16) x8)) && true)) <|
 bS (gS x7 true (e.ev.cl 100 [x8,x9,x17] G16) G16) fun x19 G18 =>
 bP (pickV x7 x19 (.bool false)) fun x20 =>
 ifV x20 (
 bS (bs Q q 35 1 (rep z3 1) 1 [(0,0,1)] [a22_] ((G18.room 16).at' (G18.nx + 2))) fun x21 G22 =>
 bS (ap Q q 35 35 1 8 a6_ x21 (G22.back (G18.room 16))) fun x24 G23 =>
 bP (fa Q q 29 0 0 x3) fun x25 =>
 bP (ld Q q 3 x25 G23) fun x26 =>
 chk ((sameO (ld Q q 3 x25 (G22.back (G18.room 16))) x26 && true)) <|
 bS (bs Q q 35 1 (rep z3 1) 1 [(0,0,1)] [x26] (G23.at' (G18.nx + 7))) fun x27 G28 =>
 bS (ap Q q 35 35 1 8 a7_ x27 (G28.back G23)) fun x30 G29 =>
 bP (bn Q q .shl 3 (.const (.int .i64 1)) (.tmp 51) (.int .i64 1) a22_) fun x31 =>
 bP (bn Q q .or 3 (.tmp 50) (.tmp 52) a8_ x31) fun x32 =>
 some ((.exit 2),xq q 56 τ [(8,x32),(7,x30),(6,x24),(53,x32),(52,x31),(51,a22_),(50,a8_),(49,x30),(48,x27),(47,x26),(46,x25),(45,a7_),(44,x24),(43,x21),(42,a22_),(41,a6_),(40,x20),(39,x19),(38,x17),(37,x14),(36,x13),(35,x12),(34,x10),(33,x9),(32,x8),(31,x7),(30,x7),(29,a22_),(28,a8_),(27,a1_),(9,a22_),(10,x3),(26,x2),(25,x1),(24,a22_),(23,x0)] [(1,a1_),(2,a2_),(20,a20_),(21,a21_),(22,a22_)],G29)) (
 bP (bn Q q .add 3 (.tmp 22) (.const (.int .i64 1)) a22_ (.int .i64 1)) fun x33 =>
 lp (xq q 56 τ [(22,x33),(54,x33),(40,x20),(39,x19),(38,x17),(37,x14),(36,x13),(35,x12),(34,x10),(33,x9),(32,x8),(31,x7),(30,x7),(29,a22_),(28,a8_),(27,a1_),(9,a22_),(10,x3),(26,x2),(25,x1),(24,a22_),(23,x0)] [(1,a1_),(2,a2_),(6,a6_),(7,a7_),(8,a8_),(20,a20_),(21,a21_)]) G18)) (
 some ((.exit 2),xq q 56 τ [(23,x0)] [(1,a1_),(2,a2_),(6,a6_),(7,a7_),(8,a8_),(20,a20_),(21,a21_),(22,a22_)],G))
theorem l40_1 (h:ExLe Q e (E orc)):LT orc 56 (subAt [1,1,1,0,1,0,0,1,0,1,0,0] (bodyOf Tryz.f40)) (b40_1 true e):=cL fun hlp τ G=>by unfold b40_1; exact Ref.gq
def s40 (q:Bool) (e:Ex) (v0 v1:Value) (G:GS):OG :=
 bS (bx q v0 G) fun x0 G1 =>
 bP (lda Q q 104 4 x0 G1) fun x2 =>
 bS (e.ev.cl 100 [x2,v1,(.slice none 0 0)] G1) fun x3 G4 =>
 bP (un Q q .not x3) fun x5 =>
 ifV x5 (
 some (.tuple #[(.slice none 0 0),(.bool false)],G4)) (
 bLq q e 40 0 (subAt [1,1,1,0,1,0,0] (bodyOf Tryz.f40)) 56 (nth undef [v0,v1]) [(8,(.int .i64 0)),(15,x5),(14,x3),(13,(.slice none 0 0)),(12,v1),(11,x2),(7,(.slice none 0 0)),(6,(.slice none 0 0)),(5,(.bool false)),(4,(.slice none 0 0)),(2,x0)] [] G4 fun e6 t7 G8 =>
 bV q (t7 7) fun t7x7_ =>
 ifE e6 (.exit 0) (
 some (.tuple #[t7x7_,(.bool true)],G8)) (none))
theorem f40 (h:ExLe Q e (E orc)) (v0 v1:Value) (G:GS):Ref (s40 true e v0 v1 G) ((E orc).cl 40 [v0,v1] G):=cS (S:=fun q e=>s40 q e v0 v1 G) Tryz.func40 (by unfold s40; exact Ref.gq)
def s41 (q:Bool) (e:Ex) (v0:Value) (G:GS):OG :=
 bS (bx q v0 G) fun x0 G1 =>
 bS (al Q q 104 z104 G1) fun x2 G3 =>
 bP (bd Q q 104 z104 [(1,1,1),(2,2,1),(3,3,1)] [(.func (.func 103) #[] #[x0]),(.func (.func 104) #[] #[]),(.func (.func 105) #[] #[])]) fun x4 =>
 bP (st Q q 104 4 x2 x4 G3) fun G5 =>
 bP (lda Q q 104 4 x2 G5) fun x6 =>
 some (x6,G5)
theorem f41 (h:ExLe Q e (E orc)) (v0:Value) (G:GS):Ref (s41 true e v0 G) ((E orc).cl 41 [v0] G):=cS (S:=fun q e=>s41 q e v0 G) Tryz.func41 (by unfold s41; exact Ref.gq)
def s42 (q:Bool) (e:Ex) (v0 v1:Value) (G:GS):OG :=
 bS (bx q v0 G) fun x0 G1 =>
 bP (lda Q q 112 4 x0 G1) fun x2 =>
 bS (e.ev.cl 107 [x2,v1,(.slice none 0 0)] G1) fun x3 G4 =>
 bP (un Q q .not x3) fun x5 =>
 ifV x5 (
 some (.tuple #[(.slice none 0 0),(.bool false)],G4)) (
 bLq q e 42 0 (subAt [1,1,1,0,1,0,0] (bodyOf Tryz.f42)) 56 (nth undef [v0,v1]) [(8,(.int .i64 0)),(15,x5),(14,x3),(13,(.slice none 0 0)),(12,v1),(11,x2),(7,(.slice none 0 0)),(6,(.slice none 0 0)),(5,(.bool false)),(4,(.slice none 0 0)),(2,x0)] [] G4 fun e6 t7 G8 =>
 bV q (t7 7) fun t7x7_ =>
 ifE e6 (.exit 0) (
 some (.tuple #[t7x7_,(.bool true)],G8)) (none))
theorem f42 (h:ExLe Q e (E orc)) (v0 v1:Value) (G:GS):Ref (s42 true e v0 v1 G) ((E orc).cl 42 [v0,v1] G):=cS (S:=fun q e=>s42 q e v0 v1 G) Tryz.func42 (by unfold s42; exact Ref.gq)
def s44 (q:Bool) (e:Ex) (v0 v1:Value) (G:GS):OG :=
 bS (bx q v0 G) fun x0 G1 =>
 bP (lda Q q 119 4 x0 G1) fun x2 =>
 bS (e.ev.cl 111 [x2,v1,(.slice none 0 0)] G1) fun x3 G4 =>
 bP (un Q q .not x3) fun x5 =>
 ifV x5 (
 some (.tuple #[(.slice none 0 0),(.bool false)],G4)) (
 bLq q e 44 0 (subAt [1,1,1,0,1,0,0] (bodyOf Tryz.f44)) 56 (nth undef [v0,v1]) [(8,(.int .i64 0)),(15,x5),(14,x3),(13,(.slice none 0 0)),(12,v1),(11,x2),(7,(.slice none 0 0)),(6,(.slice none 0 0)),(5,(.bool false)),(4,(.slice none 0 0)),(2,x0)] [] G4 fun e6 t7 G8 =>
 bV q (t7 7) fun t7x7_ =>
 ifE e6 (.exit 0) (
 some (.tuple #[t7x7_,(.bool true)],G8)) (none))
theorem f44 (h:ExLe Q e (E orc)) (v0 v1:Value) (G:GS):Ref (s44 true e v0 v1 G) ((E orc).cl 44 [v0,v1] G):=cS (S:=fun q e=>s44 q e v0 v1 G) Tryz.func44 (by unfold s44; exact Ref.gq)
def s45 (q:Bool) (e:Ex) (v0:Value) (G:GS):OG :=
 bS (al Q q 119 z119 G) fun x0 G1 =>
 bS (e.ev.cl 112 [(.slice none 0 0),v0] G1) fun x2 G3 =>
 bP (bd Q q 119 z119 [(0,0,1),(1,1,1),(2,2,1),(3,3,1)] [x2,(.func (.func 113) #[] #[]),(.func (.func 114) #[] #[]),(.func (.func 115) #[] #[])]) fun x4 =>
 bP (st Q q 119 4 x0 x4 G3) fun G5 =>
 bP (lda Q q 119 4 x0 G5) fun x6 =>
 some (x6,G5)
def s52 (q:Bool) (e:Ex) (v0 v1 v2 v3:Value) (G:GS):OG :=
 bS (bx q v2 G) fun x0 G1 =>
 bS (bx q v3 G1) fun x2 G3 =>
 bS (e.ev.cl 122 [v0,v1] G3) fun x4 G5 =>
 bP (bn Q q .neq 25 (.tmp 15) (.const (.int .i64 0)) x4 (.int .i64 0)) fun x6 =>
 ifV x6 (
 some (.tuple #[(.slice none 0 0),(.bool false)],G5)) (
 bS (e.ev.cl 124 [v1] (G5.room 13)) fun x8 G7 =>
 bP (lda Q q 24 4 x0 G7) fun x9 =>
 chk ((sameO (lda Q q 24 4 x0 (G5.room 13)) x9 && true)) <|
 bS (e.ev.cl 123 [v0,x8,x9] G7) fun x11 G10 =>
 bP (pExtract x11 0) fun x12 =>
 bP (pExtract x11 1) fun x13 =>
 bP (pExtract x11 2) fun x14 =>
 bS (al Q q 27 z27 (G10.at' (G5.nx + 9))) fun x15 G16 =>
 bP (st Q q 27 3 x15 x12 (G16.back G10)) fun G17 =>
 bP (un Q q .not x14) fun x18 =>
 bS (gP x18 false (lda Q q 27 3 x15 G17) G17) fun x19 G20 =>
 bS (gP x18 false (lda Q q 27 3 x2 G20) G20) fun x21 G22 =>
 bS (gP x18 false (bn Q q .neq 27 (.tmp 29) (.tmp 30) x19 x21) G22) fun x23 G24 =>
 bP (pickV x18 (.bool true) x23) fun x25 =>
 ifV x25 (
 some (.tuple #[(.slice none 0 0),(.bool false)],G24)) (
 bS (cValue e.ev x13 [] G24) fun x26 G27 =>
 bS (e.ev.cl 125 [x26] G27) fun x28 G29 =>
 some (.tuple #[x28,(.bool true)],G29)))
theorem f52 (h:ExLe Q e (E orc)) (v0 v1 v2 v3:Value) (G:GS):Ref (s52 true e v0 v1 v2 v3 G) ((E orc).cl 52 [v0,v1,v2,v3] G):=cS (S:=fun q e=>s52 q e v0 v1 v2 v3 G) Tryz.func52 (by unfold s52; exact Ref.gq)
def s57 (q:Bool) (e:Ex) (v0 v1:Value) (G:GS):OG :=
 bS (bx q v0 G) fun x0 G1 =>
 bP (lda Q q 57 4 x0 G1) fun x2 =>
 bS (e.ev.cl 133 [x2] G1) fun x3 G4 =>
 bP (bd Q q 218 z218 [(0,0,7),(1,7,1)] [x3,v1]) fun x5 =>
 bS (bx q x5 G4) fun x6 G7 =>
 nf q 218 0 0 x6 fun x9 =>
 fl q 214 3 6 25 x9 G7 fun x11 =>
 bP (bn Q q .neq 25 (.tmp 22) (.const (.int .i64 0)) x11 (.int .i64 0)) fun x12 =>
 ifV x12 (
 some (x6,G7)) (
 bP (bn Q q .lss 3 (.tmp 25) (.const (.int .i64 0)) v1 (.int .i64 0)) fun x13 =>
 bS (gV x13 false v1 G7) fun x14 G15 =>
 bS (gP x13 false (bn Q q .gtr 3 (.tmp 28) (.const (.int .i64 65535)) x14 (.int .i64 65535)) G15) fun x16 G17 =>
 bP (pickV x13 (.bool true) x16) fun x18 =>
 ifV x18 (
 nf q 218 0 0 x6 fun x20 =>
 bS (e.ev.cl 134 [x20,(.int .i64 3)] G17) fun x21 G22 =>
 some (x6,G22)) (
 nf q 218 0 0 x6 fun x24 =>
 bP (fa Q q 214 1 4 x24) fun x25 =>
 bP (st Q q 212 1 x25 (.func (.func 135) #[x6] #[]) G17) fun G26 =>
 some (x6,G26)))
theorem f57 (h:ExLe Q e (E orc)) (v0 v1:Value) (G:GS):Ref (s57 true e v0 v1 G) ((E orc).cl 57 [v0,v1] G):=cS (S:=fun q e=>s57 q e v0 v1 G) Tryz.func57 (by unfold s57; exact Ref.gq)
def s59 (q:Bool) (e:Ex) (v0 v1:Value) (G:GS):OG :=
 bS (e.ev.cl 136 [v0,v1] G) fun x0 G1 =>
 bP (bd Q q 223 z223 [(0,0,1)] [x0]) fun x2 =>
 bS (al Q q 223 z223 G1) fun x3 G4 =>
 bP (st Q q 223 3 x3 x2 G4) fun G5 =>
 fl q 223 0 0 220 x3 G5 fun x7 =>
 bP (lda Q q 223 3 x3 G5) fun x8 =>
 bS (e.ev.cl 137 [v0,(.int .i64 1),v1,x7,(.func (.func 138) #[x8] #[])] G5) fun x9 G10 =>
 bP (fd Q q 225 3 3 x9) fun x11 =>
 some (x11,G10)
theorem f59 (h:ExLe Q e (E orc)) (v0 v1:Value) (G:GS):Ref (s59 true e v0 v1 G) ((E orc).cl 59 [v0,v1] G):=cS (S:=fun q e=>s59 q e v0 v1 G) Tryz.func59 (by unfold s59; exact Ref.gq)
def s63 (q:Bool) (e:Ex) (v0 v1:Value) (G:GS):OG :=
 bP (ep Q q false 133 (.tmp 5) (.const (.pointer none)) v0 (.pointer none)) fun x0 =>
 bS (gV x0 false v0 G) fun x1 G2 =>
 bS (gP x0 false (pNil x1) G2) fun x3 G4 =>
 bS (gP x0 false (fa Q q 218 0 0 x3) G4) fun x5 G6 =>
 bS (gV x0 false v1 G6) fun x7 G8 =>
 bS (gS x0 false (e.ev.cl 142 [x5,x7] G8) G8) fun x9 G10 =>
 bP (pickV x0 (.bool true) x9) fun x11 =>
 some (x11,G10)
theorem f63 (h:ExLe Q e (E orc)) (v0 v1:Value) (G:GS):Ref (s63 true e v0 v1 G) ((E orc).cl 63 [v0,v1] G):=cS (S:=fun q e=>s63 q e v0 v1 G) Tryz.func63 (by unfold s63; exact Ref.gq)
def s64 (q:Bool) (e:Ex) (v0:Value) (G:GS):OG :=
 bP (ep Q q false 133 (.tmp 3) (.const (.pointer none)) v0 (.pointer none)) fun x0 =>
 ifV x0 (
 some ((.int .i64 1),G)) (
 nf q 218 0 0 v0 fun x2 =>
 bS (e.ev.cl 143 [x2] G) fun x3 G4 =>
 some (x3,G4))
theorem f64 (h:ExLe Q e (E orc)) (v0:Value) (G:GS):Ref (s64 true e v0 G) ((E orc).cl 64 [v0] G):=cS (S:=fun q e=>s64 q e v0 G) Tryz.func64 (by unfold s64; exact Ref.gq)
def s66 (q:Bool) (e:Ex) (v0:Value) (G:GS):OG :=
 bS (bx q v0 G) fun x0 G1 =>
 bP (lda Q q 57 4 x0 G1) fun x2 =>
 bS (e.ev.cl 133 [x2] G1) fun x3 G4 =>
 bP (bd Q q 235 z235 [(0,0,7)] [x3]) fun x5 =>
 bS (bx q x5 G4) fun x6 G7 =>
 nf q 235 0 0 x6 fun x9 =>
 fl q 214 3 6 25 x9 G7 fun x11 =>
 bP (bn Q q .eql 25 (.tmp 12) (.const (.int .i64 0)) x11 (.int .i64 0)) fun x12 =>
 ifV x12 (
 nf q 235 0 0 x6 fun x14 =>
 bP (fa Q q 214 1 4 x14) fun x15 =>
 bP (st Q q 212 1 x15 (.func (.func 149) #[x6] #[]) G7) fun G16 =>
 some (x6,G16)) (
 some (x6,G7))
theorem f66 (h:ExLe Q e (E orc)) (v0:Value) (G:GS):Ref (s66 true e v0 G) ((E orc).cl 66 [v0] G):=cS (S:=fun q e=>s66 q e v0 G) Tryz.func66 (by unfold s66; exact Ref.gq)
def s67 (q:Bool) (e:Ex) (v0:Value) (G:GS):OG :=
 bP (ep Q q false 60 (.tmp 4) (.const (.pointer none)) v0 (.pointer none)) fun x0 =>
 ifV x0 (
 some (.tuple #[(.int .i64 0),(.int .i64 1)],G)) (
 nf q 235 2 8 v0 fun x2 =>
 bP (ld Q q 3 x2 (G.room 10)) fun x3 =>
 nf q 235 0 0 v0 fun x5 =>
 bS (e.ev.cl 143 [x5] (G.room 10)) fun x7 G6 =>
 chk ((sameO (ld Q q 3 x2 G6) x3 && true)) <|
 some (.tuple #[x3,x7],G6))
theorem f67 (h:ExLe Q e (E orc)) (v0:Value) (G:GS):Ref (s67 true e v0 G) ((E orc).cl 67 [v0] G):=cS (S:=fun q e=>s67 q e v0 G) Tryz.func67 (by unfold s67; exact Ref.gq)
def s70 (q:Bool) (e:Ex) (v0:Value) (G:GS):OG :=
 bP (bn Q q .lss 3 (.tmp 4) (.const (.int .i64 1)) v0 (.int .i64 1)) fun x0 =>
 bS (gV x0 false v0 G) fun x1 G2 =>
 bS (gP x0 false (bn Q q .gtr 3 (.tmp 7) (.const (.int .i64 4096)) x1 (.int .i64 4096)) G2) fun x3 G4 =>
 bP (pickV x0 (.bool true) x3) fun x5 =>
 ifV x5 (
 some (.tuple #[(.pointer none),(.int .i64 3)],G4)) (
 bS (al Q q 239 z239 G4) fun x6 G7 =>
 bP (bd Q q 241 z241 [(0,0,1),(1,1,1)] [x6,v0]) fun x8 =>
 bS (bx q x8 G7) fun x9 G10 =>
 some (.tuple #[x9,(.int .i64 0)],G10))
theorem f70 (h:ExLe Q e (E orc)) (v0:Value) (G:GS):Ref (s70 true e v0 G) ((E orc).cl 70 [v0] G):=cS (S:=fun q e=>s70 q e v0 G) Tryz.func70 (by unfold s70; exact Ref.gq)
def b71_0 (q:Bool) (e:Ex) (lp:LpF) (τ:Env) (G:GS):OL :=
 bV q (τ 1) fun a1_ =>
 bV q (τ 2) fun a2_ =>
 bV q (τ 17) fun a17_ =>
 bV q (τ 18) fun a18_ =>
 bP (bn Q q .lss 3 (.tmp 18) (.tmp 17) a18_ a17_) fun x0 =>
 ifV x0 (
 bP (fa Q q 57 2 2 a2_) fun x1 =>
 bP (ld Q q 3 x1 G) fun x2 =>
 bP (bn Q q .add 3 (.tmp 23) (.tmp 24) x2 a18_) fun x3 =>
 bS (e.ev.cl 150 [a1_,x3,(.int .u64 0)] G) fun x4 G5 =>
 bP (bn Q q .add 3 (.tmp 18) (.const (.int .i64 1)) a18_ (.int .i64 1)) fun x6 =>
 lp (xq q 28 τ [(18,x6),(27,x6),(26,x4),(25,x3),(24,a18_),(23,x2),(22,x1),(21,a1_),(4,a18_),(20,a18_),(19,x0)] [(1,a1_),(2,a2_),(17,a17_)]) G5) (
 some ((.exit 0),xq q 28 τ [(19,x0)] [(1,a1_),(2,a2_),(17,a17_),(18,a18_)],G))
theorem l71_0 (h:ExLe Q e (E orc)):LT orc 28 (subAt [1,1,1,1,1,0,0] (bodyOf Tryz.f71)) (b71_0 true e):=cL fun hlp τ G=>by unfold b71_0; exact Ref.gq
def s71 (q:Bool) (e:Ex) (v0 v1:Value) (G:GS):OG :=
 bS (bx q v0 G) fun x0 G1 =>
 bP (lda Q q 57 4 x0 G1) fun x2 =>
 bS (e.ev.cl 144 [x2] G1) fun x3 G4 =>
 bP (un Q q .not x3) fun x5 =>
 ifV x5 (
 some (.tuple #[],G4)) (
 bP (fa Q q 57 0 0 x0) fun x6 =>
 bP (ld Q q 3 x6 G4) fun x7 =>
 bS (e.ev.cl 150 [v1,x7,(.int .u64 0)] G4) fun x8 G9 =>
 bP (fa Q q 57 1 1 x0) fun x10 =>
 bP (ld Q q 3 x10 G9) fun x11 =>
 bS (e.ev.cl 150 [v1,x11,(.int .u64 0)] G9) fun x12 G13 =>
 bP (fa Q q 57 3 3 x0) fun x14 =>
 bP (ld Q q 3 x14 G13) fun x15 =>
 bLq q e 71 0 (subAt [1,1,1,1,1,0,0] (bodyOf Tryz.f71)) 28 (nth undef [v0,v1]) [(18,(.int .i64 0)),(17,x15),(16,x14),(15,x12),(14,x11),(13,x10),(12,v1),(11,x8),(10,x7),(9,x6),(8,v1),(7,x5),(6,x3),(5,x2),(2,x0)] [] G13 fun e16 t17 G18 =>
 ifE e16 (.exit 0) (
 some (.tuple #[],G18)) (none))
theorem f71 (h:ExLe Q e (E orc)) (v0 v1:Value) (G:GS):Ref (s71 true e v0 v1 G) ((E orc).cl 71 [v0,v1] G):=cS (S:=fun q e=>s71 q e v0 v1 G) Tryz.func71 (by unfold s71; exact Ref.gq)
def s88 (q:Bool) (e:Ex) (v0 v1:Value) (G:GS):OG :=
 bS (bx q v0 G) fun x0 G1 =>
 bS (bx q v1 G1) fun x2 G3 =>
 bS (al Q q 57 z57 G3) fun x4 G5 =>
 bS (al Q q 4 z4 G5) fun x6 G7 =>
 bP (lda Q q 82 3 x0 G7) fun x8 =>
 bS (e.ev.cl 166 [x8] G7) fun x9 G10 =>
 bP (un Q q .not x9) fun x11 =>
 ifV x11 (
 bP (bd Q q 57 z57 [] []) fun x12 =>
 bP (st Q q 57 4 x4 x12 G10) fun G13 =>
 bP (st Q q 4 1 x6 (.bool false) G13) fun G14 =>
 bP (lda Q q 57 4 x4 G14) fun x15 =>
 bP (ld Q q 4 x6 G14) fun x16 =>
 some (.tuple #[x15,x16],G14)) (
 bP (lda Q q 82 3 x0 G10) fun x17 =>
 bS (e.ev.cl 167 [x17] G10) fun x18 G19 =>
 bX (xRange e.ev x18 #[14,15] (subAt [1,1,0,1,0,0] (bodyOf Tryz.f88)) (subAt [1,1,0,1,0,1] (bodyOf Tryz.f88)) (lsq q 21 (nth undef [v0,v1]) [(13,x18),(12,x17),(10,x11),(9,x9),(8,x8),(5,x6),(4,x4),(3,x2),(2,x0)]) G19) fun e20 T21 G22 =>
 bV q (nth undef T21 4) fun T21x4_ =>
 bV q (nth undef T21 5) fun T21x5_ =>
 ifE e20 .normal (
 bP (bd Q q 57 z57 [] []) fun x23 =>
 bP (st Q q 57 4 T21x4_ x23 G22) fun G24 =>
 bP (st Q q 4 1 T21x5_ (.bool false) G24) fun G25 =>
 bP (lda Q q 57 4 T21x4_ G25) fun x26 =>
 bP (ld Q q 4 T21x5_ G25) fun x27 =>
 some (.tuple #[x26,x27],G25)) (ifE e20 .ret (
 bP (lda Q q 57 4 T21x4_ G22) fun x28 =>
 bP (ld Q q 4 T21x5_ G22) fun x29 =>
 some (.tuple #[x28,x29],G22)) (none)))
theorem f88 (h:ExLe Q e (E orc)) (v0 v1:Value) (G:GS):Ref (s88 true e v0 v1 G) ((E orc).cl 88 [v0,v1] G):=cS (S:=fun q e=>s88 q e v0 v1 G) Tryz.func88 (by unfold s88; exact Ref.gq)
def r88_0 (q:Bool) (e:Ex) (l:Nat) (τ:Env) (u0 u1:Value) (G:GS):OG :=
 bV q (τ 3) fun a3_ =>
 bV q (τ 4) fun a4_ =>
 bV q (τ 5) fun a5_ =>
 bS (al Q q 57 z57 G) fun x0 G1 =>
 bP (st Q q 57 4 x0 u1 G1) fun G2 =>
 bP (G2.loop l) fun r3=>if r3.st = .ready then
 bP (ld Q q 3 a3_ (G2.putLoop l (Lp.setSt r3 .busy))) fun x4 =>
 bP (bn Q q .eql 3 (.tmp 16) (.tmp 17) u0 x4) fun x5 =>
 ifV x5 (
 bP (lda Q q 57 4 x0 (G2.putLoop l (Lp.setSt r3 .busy))) fun x6 =>
 bP (st Q q 57 4 a4_ x6 (G2.putLoop l (Lp.setSt r3 .busy))) fun G7 =>
 bP (st Q q 4 1 a5_ (.bool true) G7) fun G8 =>
 roundEnd l .ret G8) (
 roundEnd l .normal (G2.putLoop l (Lp.setSt r3 .busy)))
 else none
theorem mr88_0 {e:Ex} {E:Ev} (h:ExLe Q e E) (l:Nat) (τ:Env) (u0 u1:Value) (G:GS):Ref (r88_0 true e l τ u0 u1 G) (r88_0 false (Ex.of E) l τ u0 u1 G):=by
 unfold r88_0
 repeat' (with_reducible first | exact Ref.rfl' _ | exact ROp.r | refine Ref.bP ?_ fun _=>?_ | refine Ref.bS ?_ fun _ _=>?_ | exact Ref.cl (by assumption) | refine Ref.ifV ?_ ?_ | refine LpLe.rx (by assumption) ?_ | refine Ref.xitq ?_ | exact UOk.z | refine UOk.c (by assumption) ?_ | exact Ref.nil _ | refine Ref.bVe fun _ _=>?_ | refine Ref.bLq (by assumption) ?_ fun _ _ _=>?_ | refine Ref.ifE ?_ ?_ | refine Ref.chk ?_ ?_ | refine Imp.and ?_ ?_ | refine Imp.or ?_ | exact Imp.rfl' _ | refine Imp.sameO ?_ | refine Ref.gd ?_ | exact Ref.cValue (by assumption) | refine Ref.bX ?_ fun _ _ _=>?_ | exact Ref.scQ (by assumption) | exact Ref.xRangeQ (by assumption) | exact Ref.cInvoke (by assumption) | refine Ref.rdy ?_)
theorem d88_0 {orc:FuncId → Bool} {e:Ex} (h:ExLe Q e (E orc)) (l:Nat) (T:List Value) (u0 u1:Value) (G:GS) {st:LoopState} {pend:Option Code} (hl:G.loop l = some ⟨st,pend,T,[14,15],(subAt [1,1,0,1,0,0] (bodyOf Tryz.f88)),(subAt [1,1,0,1,0,1] (bodyOf Tryz.f88))⟩) (hT:T.length = 21):Ref (r88_0 true e l (nth undef T) u0 u1 G) ((E orc).rd l [u0,u1] G) :=
 fun r hr=>rd_sxE Q orc hl (by kernel_rfl) hT (by kernel_rfl) (mr88_0 h l _ u0 u1 G r hr)
def s94 (q:Bool) (e:Ex) (v0 v1:Value) (G:GS):OG :=
 bS (bx q v0 G) fun x0 G1 =>
 bS (e.ev.cl 70 [v1] G1) fun x2 G3 =>
 bP (pExtract x2 0) fun x4 =>
 bP (pExtract x2 1) fun x5 =>
 bP (bn Q q .neq 25 (.tmp 12) (.const (.int .i64 0)) x5 (.int .i64 0)) fun x6 =>
 bS (gV x6 false x4 G3) fun x7 G8 =>
 bS (gP x6 false (ep Q q false 58 (.tmp 15) (.const (.pointer none)) x7 (.pointer none)) G8) fun x9 G10 =>
 bP (pickV x6 (.bool true) x9) fun x11 =>
 ifV x11 (
 some ((.pointer none),G10)) (
 bP (lda Q q 82 3 x0 G10) fun x12 =>
 bS (e.ev.cl 169 [x12,x4] G10) fun x13 G14 =>
 some (x4,G14))
theorem f94 (h:ExLe Q e (E orc)) (v0 v1:Value) (G:GS):Ref (s94 true e v0 v1 G) ((E orc).cl 94 [v0,v1] G):=cS (S:=fun q e=>s94 q e v0 v1 G) Tryz.func94 (by unfold s94; exact Ref.gq)
def s95 (q:Bool) (e:Ex) (v0 v1:Value) (G:GS):OG :=
 bS (bx q v0 G) fun x0 G1 =>
 bP (lda Q q 82 3 x0 G1) fun x2 =>
 bS (e.ev.cl 166 [x2] G1) fun x3 G4 =>
 bP (un Q q .not x3) fun x5 =>
 ifV x5 (
 some ((.int .i64 2),G4)) (
 bP (bn Q q .lss 3 (.tmp 10) (.const (.int .i64 0)) v1 (.int .i64 0)) fun x6 =>
 bS (gV x6 false v1 G4) fun x7 G8 =>
 bS (gP x6 false (fa Q q 82 1 1 x0) G8) fun x9 G10 =>
 bS (gP x6 false (ld Q q 3 x9 G10) G10) fun x11 G12 =>
 bS (gP x6 false (bn Q q .geq 3 (.tmp 13) (.tmp 15) x7 x11) G12) fun x13 G14 =>
 bP (pickV x6 (.bool true) x13) fun x15 =>
 ifV x15 (
 some ((.int .i64 3),G14)) (
 some ((.int .i64 0),G14)))
theorem f95 (h:ExLe Q e (E orc)) (v0 v1:Value) (G:GS):Ref (s95 true e v0 v1 G) ((E orc).cl 95 [v0,v1] G):=cS (S:=fun q e=>s95 q e v0 v1 G) Tryz.func95 (by unfold s95; exact Ref.gq)
def s96 (q:Bool) (e:Ex) (v0 v1:Value) (G:GS):OG :=
 bS (bx q v0 G) fun x0 G1 =>
 bP (lda Q q 57 4 x0 G1) fun x2 =>
 bS (e.ev.cl 133 [x2] G1) fun x3 G4 =>
 bP (bd Q q 271 z271 [(0,0,7),(1,7,1)] [x3,v1]) fun x5 =>
 bS (bx q x5 G4) fun x6 G7 =>
 nf q 271 0 0 x6 fun x9 =>
 fl q 214 3 6 25 x9 G7 fun x11 =>
 bP (bn Q q .eql 25 (.tmp 15) (.const (.int .i64 0)) x11 (.int .i64 0)) fun x12 =>
 ifV x12 (
 nf q 271 0 0 x6 fun x14 =>
 bP (fa Q q 214 1 4 x14) fun x15 =>
 bP (st Q q 212 1 x15 (.func (.func 170) #[x6] #[]) G7) fun G16 =>
 some (x6,G16)) (
 some (x6,G7))
theorem f96 (h:ExLe Q e (E orc)) (v0 v1:Value) (G:GS):Ref (s96 true e v0 v1 G) ((E orc).cl 96 [v0,v1] G):=cS (S:=fun q e=>s96 q e v0 v1 G) Tryz.func96 (by unfold s96; exact Ref.gq)
def s97 (q:Bool) (e:Ex) (v0:Value) (G:GS):OG :=
 bP (ep Q q false 60 (.tmp 3) (.const (.pointer none)) v0 (.pointer none)) fun x0 =>
 ifV x0 (
 some ((.int .u64 0),G)) (
 nl q 235 1 7 22 v0 G fun x3 =>
 some (x3,G))
theorem f97 (h:ExLe Q e (E orc)) (v0:Value) (G:GS):Ref (s97 true e v0 G) ((E orc).cl 97 [v0] G):=cS (S:=fun q e=>s97 q e v0 G) Tryz.func97 (by unfold s97; exact Ref.gq)
def s98 (q:Bool) (e:Ex) (v0:Value) (G:GS):OG :=
 bP (es Q q false 35 (.tmp 3) (.const (.slice none 0 0)) v0 (.slice none 0 0)) fun x0 =>
 ifV x0 (
 some ((.slice none 0 0),G)) (
 bS (bs Q q 35 0 (rep z3 0) 1 [] [] G) fun x1 G2 =>
 bS (ap Q q 35 35 1 8 x1 v0 G2) fun x3 G4 =>
 some (x3,G4))
theorem f98 (h:ExLe Q e (E orc)) (v0:Value) (G:GS):Ref (s98 true e v0 G) ((E orc).cl 98 [v0] G):=cS (S:=fun q e=>s98 q e v0 G) Tryz.func98 (by unfold s98; exact Ref.gq)
def b99_0 (q:Bool) (e:Ex) (lp:LpF) (τ:Env) (G:GS):OL :=
 bV q (τ 3) fun a3_ =>
 bV q (τ 6) fun a6_ =>
 bV q (τ 7) fun a7_ =>
 bV q (τ 8) fun a8_ =>
 bP (bn Q q .lss 3 (.tmp 8) (.tmp 7) a8_ a7_) fun x0 =>
 ifV x0 (
 bP (ias Q q 38 10 a6_ a8_) fun x1 =>
 bP (lda Q q 29 10 x1 G) fun x2 =>
 bS (al Q q 29 z29 G) fun x3 G4 =>
 bP (st Q q 29 10 x3 x2 G4) fun G5 =>
 bP (fa Q q 29 2 2 x3) fun x6 =>
 bP (ld Q q 3 x6 G5) fun x7 =>
 bP (bn Q q .lss 3 (.tmp 13) (.const (.int .i64 0)) x7 (.int .i64 0)) fun x8 =>
 bS (gP x8 true (fa Q q 29 3 3 x3) G5) fun x9 G10 =>
 bS (gP x8 true (fa Q q 24 0 0 x9) G10) fun x11 G12 =>
 bS (gP x8 true (ld Q q 3 x11 G12) G12) fun x13 G14 =>
 bS (gP x8 true (bn Q q .eql 3 (.tmp 18) (.const (.int .i64 7)) x13 (.int .i64 7)) G14) fun x15 G16 =>
 bP (pickV x8 x15 (.bool false)) fun x17 =>
 ifV x17 (
 bP (bn Q q .add 3 (.tmp 21) (.const (.int .i64 1)) a3_ (.int .i64 1)) fun x18 =>
 bP (bn Q q .add 3 (.tmp 8) (.const (.int .i64 1)) a8_ (.int .i64 1)) fun x19 =>
 lp (xq q 25 τ [(8,x19),(23,x19),(3,x18),(22,x18),(21,a3_),(20,x17),(19,x15),(18,x13),(17,x11),(16,x9),(15,x8),(14,x8),(13,x7),(12,x6),(5,x3),(11,x2),(10,x1),(9,x0)] [(6,a6_),(7,a7_)]) G16) (
 bP (bn Q q .add 3 (.tmp 8) (.const (.int .i64 1)) a8_ (.int .i64 1)) fun x20 =>
 lp (xq q 25 τ [(8,x20),(23,x20),(20,x17),(19,x15),(18,x13),(17,x11),(16,x9),(15,x8),(14,x8),(13,x7),(12,x6),(5,x3),(11,x2),(10,x1),(9,x0)] [(3,a3_),(6,a6_),(7,a7_)]) G16)) (
 some ((.exit 0),xq q 25 τ [(9,x0)] [(3,a3_),(6,a6_),(7,a7_),(8,a8_)],G))
theorem l99_0 (h:ExLe Q e (E orc)):LT orc 25 (subAt [1,1,0,1,0,0] (bodyOf Tryz.f99)) (b99_0 true e):=cL fun hlp τ G=>by unfold b99_0; exact Ref.gq
def s99 (q:Bool) (e:Ex) (v0:Value) (G:GS):OG :=
 bP (ln Q q 38 v0) fun x0 =>
 bLq q e 99 0 (subAt [1,1,0,1,0,0] (bodyOf Tryz.f99)) 25 (nth undef [v0]) [(8,(.int .i64 0)),(7,x0),(6,v0),(3,(.int .i64 0)),(2,(.int .i64 0))] [] G fun e1 t2 G3 =>
 bV q (t2 3) fun t2x3_ =>
 ifE e1 (.exit 0) (
 some (t2x3_,G3)) (none)
theorem f99 (h:ExLe Q e (E orc)) (v0:Value) (G:GS):Ref (s99 true e v0 G) ((E orc).cl 99 [v0] G):=cS (S:=fun q e=>s99 q e v0 G) Tryz.func99 (by unfold s99; exact Ref.gq)
def s100 (q:Bool) (e:Ex) (v0 v1 v2:Value) (G:GS):OG :=
 bS (bx q v0 G) fun x0 G1 =>
 bS (al Q q 4 z4 G1) fun x2 G3 =>
 bP (lda Q q 104 4 x0 G3) fun x4 =>
 bS (e.ev.cl 171 [x4,v1,v2] G3) fun x5 G6 =>
 bX (xRange e.ev x5 #[11] (subAt [1,0,1,0,0] (bodyOf Tryz.f100)) (subAt [1,0,1,0,1] (bodyOf Tryz.f100)) (lsq q 12 (nth undef [v0,v1,v2]) [(10,x5),(9,v2),(8,v1),(7,x4),(6,x2),(3,x0)]) G6) fun e7 T8 G9 =>
 bV q (nth undef T8 6) fun T8x6_ =>
 ifE e7 .normal (
 bP (st Q q 4 1 T8x6_ (.bool false) G9) fun G10 =>
 bP (ld Q q 4 T8x6_ G10) fun x11 =>
 some (x11,G10)) (ifE e7 .ret (
 bP (ld Q q 4 T8x6_ G9) fun x12 =>
 some (x12,G9)) (none))
theorem f100 (h:ExLe Q e (E orc)) (v0 v1 v2:Value) (G:GS):Ref (s100 true e v0 v1 v2 G) ((E orc).cl 100 [v0,v1,v2] G):=cS (S:=fun q e=>s100 q e v0 v1 v2 G) Tryz.func100 (by unfold s100; exact Ref.gq)
def r100_0 (q:Bool) (e:Ex) (l:Nat) (τ:Env) (u0:Value) (G:GS):OG :=
 bV q (τ 6) fun a6_ =>
 bP (G.loop l) fun r0=>if r0.st = .ready then
 bP (st Q q 4 1 a6_ (.bool true) (G.putLoop l (Lp.setSt r0 .busy))) fun G1 =>
 roundEnd l .ret G1
 else none
theorem mr100_0 {e:Ex} {E:Ev} (h:ExLe Q e E) (l:Nat) (τ:Env) (u0:Value) (G:GS):Ref (r100_0 true e l τ u0 G) (r100_0 false (Ex.of E) l τ u0 G):=by
 unfold r100_0
 repeat' (with_reducible first | exact Ref.rfl' _ | exact ROp.r | refine Ref.bP ?_ fun _=>?_ | refine Ref.bS ?_ fun _ _=>?_ | exact Ref.cl (by assumption) | refine Ref.ifV ?_ ?_ | refine LpLe.rx (by assumption) ?_ | refine Ref.xitq ?_ | exact UOk.z | refine UOk.c (by assumption) ?_ | exact Ref.nil _ | refine Ref.bVe fun _ _=>?_ | refine Ref.bLq (by assumption) ?_ fun _ _ _=>?_ | refine Ref.ifE ?_ ?_ | refine Ref.chk ?_ ?_ | refine Imp.and ?_ ?_ | refine Imp.or ?_ | exact Imp.rfl' _ | refine Imp.sameO ?_ | refine Ref.gd ?_ | exact Ref.cValue (by assumption) | refine Ref.bX ?_ fun _ _ _=>?_ | exact Ref.scQ (by assumption) | exact Ref.xRangeQ (by assumption) | exact Ref.cInvoke (by assumption) | refine Ref.rdy ?_)
theorem d100_0 {orc:FuncId → Bool} {e:Ex} (h:ExLe Q e (E orc)) (l:Nat) (T:List Value) (u0:Value) (G:GS) {st:LoopState} {pend:Option Code} (hl:G.loop l = some ⟨st,pend,T,[11],(subAt [1,0,1,0,0] (bodyOf Tryz.f100)),(subAt [1,0,1,0,1] (bodyOf Tryz.f100))⟩) (hT:T.length = 12):Ref (r100_0 true e l (nth undef T) u0 G) ((E orc).rd l [u0] G) :=
 fun r hr=>rd_sxE Q orc hl (by kernel_rfl) hT (by kernel_rfl) (mr100_0 h l _ u0 G r hr)
def b101_0 (q:Bool) (e:Ex) (lp:LpF) (τ:Env) (G:GS):OL :=
 bV q (τ 1) fun a1_ =>
 bV q (τ 7) fun a7_ =>
 bV q (τ 8) fun a8_ =>
 bV q (τ 9) fun a9_ =>
 bP (bn Q q .lss 3 (.tmp 9) (.tmp 8) a9_ a8_) fun x0 =>
 ifV x0 (
 bP (ias Q q 38 10 a7_ a9_) fun x1 =>
 bP (lda Q q 29 10 x1 G) fun x2 =>
 bS (al Q q 29 z29 G) fun x3 G4 =>
 bP (st Q q 29 10 x3 x2 G4) fun G5 =>
 bP (fa Q q 29 2 2 x3) fun x6 =>
 bP (ld Q q 3 x6 G5) fun x7 =>
 bP (bn Q q .geq 3 (.tmp 15) (.const (.int .i64 0)) x7 (.int .i64 0)) fun x8 =>
 bS (gV x8 true a1_ G5) fun x9 G10 =>
 bS (gV x8 true a9_ G10) fun x11 G12 =>
 bS (gP x8 true (bn Q q .shr 3 (.tmp 18) (.tmp 19) x9 x11) G12) fun x13 G14 =>
 bS (gP x8 true (bn Q q .and 3 (.tmp 20) (.const (.int .i64 1)) x13 (.int .i64 1)) G14) fun x15 G16 =>
 bS (gP x8 true (bn Q q .eql 3 (.tmp 21) (.const (.int .i64 0)) x15 (.int .i64 0)) G16) fun x17 G18 =>
 bP (pickV x8 x17 (.bool false)) fun x19 =>
 ifV x19 (
 some (.ret,xq q 25 τ [(4,(.bool false)),(23,x19),(22,x17),(21,x15),(20,x13),(19,x11),(18,x9),(17,x8),(16,x8),(15,x7),(14,x6),(5,a9_),(6,x3),(13,x2),(12,x1),(11,a9_),(10,x0)] [(1,a1_),(7,a7_),(8,a8_),(9,a9_)],G18)) (
 bP (bn Q q .add 3 (.tmp 9) (.const (.int .i64 1)) a9_ (.int .i64 1)) fun x20 =>
 lp (xq q 25 τ [(9,x20),(24,x20),(23,x19),(22,x17),(21,x15),(20,x13),(19,x11),(18,x9),(17,x8),(16,x8),(15,x7),(14,x6),(5,a9_),(6,x3),(13,x2),(12,x1),(11,a9_),(10,x0)] [(1,a1_),(7,a7_),(8,a8_)]) G18)) (
 some ((.exit 0),xq q 25 τ [(10,x0)] [(1,a1_),(7,a7_),(8,a8_),(9,a9_)],G))
theorem l101_0 (h:ExLe Q e (E orc)):LT orc 25 (subAt [1,0,1,0,0] (bodyOf Tryz.f101)) (b101_0 true e):=cL fun hlp τ G=>by unfold b101_0; exact Ref.gq
def s101 (q:Bool) (e:Ex) (v0 v1:Value) (G:GS):OG :=
 bP (ln Q q 38 v0) fun x0 =>
 bLq q e 101 0 (subAt [1,0,1,0,0] (bodyOf Tryz.f101)) 25 (nth undef [v0,v1]) [(9,(.int .i64 0)),(8,x0),(7,v0),(4,(.bool false))] [] G fun e1 t2 G3 =>
 bV q (t2 4) fun t2x4_ =>
 ifE e1 (.exit 0) (
 some ((.bool true),G3)) (ifE e1 .ret (
 some (t2x4_,G3)) (none))
theorem f101 (h:ExLe Q e (E orc)) (v0 v1:Value) (G:GS):Ref (s101 true e v0 v1 G) ((E orc).cl 101 [v0,v1] G):=cS (S:=fun q e=>s101 q e v0 v1 G) Tryz.func101 (by unfold s101; exact Ref.gq)
def b102_0 (q:Bool) (e:Ex) (lp:LpF) (τ:Env) (G:GS):OL :=
 bV q (τ 0) fun a0_ =>
 bV q (τ 1) fun a1_ =>
 bV q (τ 2) fun a2_ =>
 bV q (τ 14) fun a14_ =>
 bV q (τ 15) fun a15_ =>
 bV q (τ 16) fun a16_ =>
 bP (bn Q q .lss 3 (.tmp 16) (.tmp 15) a16_ a15_) fun x0 =>
 ifV x0 (
 bP (ias Q q 38 10 a14_ a16_) fun x1 =>
 bP (lda Q q 29 10 x1 G) fun x2 =>
 bS (al Q q 29 z29 G) fun x3 G4 =>
 bP (st Q q 29 10 x3 x2 G4) fun G5 =>
 bP (bn Q q .neq 3 (.tmp 21) (.tmp 22) a16_ a2_) fun x6 =>
 bS (gV x6 true a1_ (G5.room 18)) fun x7 _ =>
 bS (gV x6 true a16_ (G5.room 18)) fun x8 _ =>
 bS (gP x6 true (bn Q q .shr 3 (.tmp 25) (.tmp 26) x7 x8) (G5.room 18)) fun x9 _ =>
 bS (gP x6 true (bn Q q .and 3 (.tmp 27) (.const (.int .i64 1)) x9 (.int .i64 1)) (G5.room 18)) fun x10 _ =>
 bS (gP x6 true (bn Q q .eql 3 (.tmp 28) (.const (.int .i64 0)) x10 (.int .i64 0)) (G5.room 18)) fun x11 _ =>
 bP (pickV x6 x11 (.bool false)) fun x12 =>
 bS (gP x12 true (lda Q q 29 10 x3 (G5.room 18)) (G5.room 18)) fun x13 _ =>
 bS (gV x12 true a0_ (G5.room 18)) fun x14 _ =>
 bS (gV x12 true a2_ (G5.room 18)) fun x15 _ =>
 bS (gP x12 true (ias Q q 38 10 x14 x15) (G5.room 18)) fun x16 _ =>
 bS (gP x12 true (lda Q q 29 10 x16 (G5.room 18)) (G5.room 18)) fun x17 _ =>
 bS (gS x12 true (e.ev.cl 21 [x13,x17] (G5.room 18)) (G5.room 18)) fun x19 G18 =>
 bP (pickV x12 x19 (.bool false)) fun x20 =>
 ifV x20 (
 some (.ret,xq q 40 τ [(6,(.bool false)),(38,x20),(37,x19),(36,x17),(35,x16),(34,x15),(33,x14),(32,x13),(31,x12),(30,x12),(29,x11),(28,x10),(27,x9),(26,x8),(25,x7),(24,x6),(23,x6),(22,a2_),(21,a16_),(7,a16_),(8,x3),(20,x2),(19,x1),(18,a16_),(17,x0)] [(0,a0_),(1,a1_),(2,a2_),(14,a14_),(15,a15_),(16,a16_)],G18)) (
 bP (bn Q q .add 3 (.tmp 16) (.const (.int .i64 1)) a16_ (.int .i64 1)) fun x21 =>
 lp (xq q 40 τ [(16,x21),(39,x21),(38,x20),(37,x19),(36,x17),(35,x16),(34,x15),(33,x14),(32,x13),(31,x12),(30,x12),(29,x11),(28,x10),(27,x9),(26,x8),(25,x7),(24,x6),(23,x6),(22,a2_),(21,a16_),(7,a16_),(8,x3),(20,x2),(19,x1),(18,a16_),(17,x0)] [(0,a0_),(1,a1_),(2,a2_),(14,a14_),(15,a15_)]) G18)) (
 some ((.exit 0),xq q 40 τ [(17,x0)] [(0,a0_),(1,a1_),(2,a2_),(14,a14_),(15,a15_),(16,a16_)],G))
theorem l102_0 (h:ExLe Q e (E orc)):LT orc 40 (subAt [1,1,0,1,0,0] (bodyOf Tryz.f102)) (b102_0 true e):=cL fun hlp τ G=>by unfold b102_0; exact Ref.gq
def s102 (q:Bool) (e:Ex) (v0 v1 v2:Value) (G:GS):OG :=
 bP (bn Q q .shr 3 (.tmp 9) (.tmp 10) v1 v2) fun x0 =>
 bP (bn Q q .and 3 (.tmp 11) (.const (.int .i64 1)) x0 (.int .i64 1)) fun x1 =>
 bP (bn Q q .eql 3 (.tmp 12) (.const (.int .i64 1)) x1 (.int .i64 1)) fun x2 =>
 ifV x2 (
 some ((.bool false),G)) (
 bP (ln Q q 38 v0) fun x3 =>
 bLq q e 102 0 (subAt [1,1,0,1,0,0] (bodyOf Tryz.f102)) 40 (nth undef [v0,v1,v2]) [(16,(.int .i64 0)),(15,x3),(14,v0),(13,x2),(12,x1),(11,x0),(10,v2),(9,v1),(6,(.bool false))] [] G fun e4 t5 G6 =>
 bV q (t5 6) fun t5x6_ =>
 ifE e4 (.exit 0) (
 some ((.bool true),G6)) (ifE e4 .ret (
 some (t5x6_,G6)) (none)))
theorem f102 (h:ExLe Q e (E orc)) (v0 v1 v2:Value) (G:GS):Ref (s102 true e v0 v1 v2 G) ((E orc).cl 102 [v0,v1,v2] G):=cS (S:=fun q e=>s102 q e v0 v1 v2 G) Tryz.func102 (by unfold s102; exact Ref.gq)
def s103 (q:Bool) (e:Ex) (v0 v1 v2 v3:Value) (G:GS):OG :=
 bS (bx q v1 G) fun x0 G1 =>
 bS (bx q v2 G1) fun x2 G3 =>
 bP (ld Q q 3 v3 G3) fun x4 =>
 bP (lda Q q 24 4 x0 G3) fun x5 =>
 bP (lda Q q 27 3 x2 G3) fun x6 =>
 bS (e.ev.cl 52 [x4,v0,x5,x6] G3) fun x7 G8 =>
 bP (pExtract x7 0) fun x9 =>
 bP (pExtract x7 1) fun x10 =>
 some (.tuple #[x9,x10],G8)
theorem f103 (h:ExLe Q e (E orc)) (v0 v1 v2 v3:Value) (G:GS):Ref (s103 true e v0 v1 v2 v3 G) ((E orc).cl 103 [v0,v1,v2,v3] G):=cS (S:=fun q e=>s103 q e v0 v1 v2 v3 G) Tryz.func103 (by unfold s103; exact Ref.gq)
def s104 (q:Bool) (e:Ex) (v0 v1:Value) (G:GS):OG :=
 bS (bx q v1 G) fun x0 G1 =>
 fl q 24 0 0 3 x0 G1 fun x3 =>
 bP (bn Q q .neq 3 (.tmp 6) (.const (.int .i64 2)) x3 (.int .i64 2)) fun x4 =>
 ifV x4 (
 bP (bd Q q 27 z27 [] []) fun x5 =>
 bS (bs Q q 180 1 (rep z27 1) 3 [(0,0,3)] [x5] G1) fun x6 G7 =>
 some (x6,G7)) (
 bP (ln Q q 74 v0) fun x8 =>
 bP (bn Q q .eql 3 (.tmp 11) (.const (.int .i64 0)) x8 (.int .i64 0)) fun x9 =>
 ifV x9 (
 some ((.slice none 0 0),G1)) (
 bP (ias Q q 74 1 v0 (.int .i64 0)) fun x10 =>
 bP (ld Q q 22 x10 G1) fun x11 =>
 bP (bd Q q 27 z27 [(2,2,1)] [x11]) fun x12 =>
 bS (bs Q q 180 1 (rep z27 1) 3 [(0,0,3)] [x12] G1) fun x13 G14 =>
 some (x13,G14)))
theorem f104 (h:ExLe Q e (E orc)) (v0 v1:Value) (G:GS):Ref (s104 true e v0 v1 G) ((E orc).cl 104 [v0,v1] G):=cS (S:=fun q e=>s104 q e v0 v1 G) Tryz.func104 (by unfold s104; exact Ref.gq)
def s114 (q:Bool) (e:Ex) (v0 v1:Value) (G:GS):OG :=
 bS (bx q v1 G) fun x0 G1 =>
 bP (fa Q q 24 0 0 x0) fun x2 =>
 bP (ld Q q 3 x2 G1) fun x3 =>
 bP (bn Q q .neq 3 (.tmp 9) (.const (.int .i64 7)) x3 (.int .i64 7)) fun x4 =>
 ifV x4 (
 bP (bd Q q 27 z27 [] []) fun x5 =>
 bS (bs Q q 180 1 (rep z27 1) 3 [(0,0,3)] [x5] G1) fun x6 G7 =>
 some (x6,G7)) (
 bP (ln Q q 35 v0) fun x8 =>
 bLq q e 114 0 (subAt [1,1,1,0,1,0,0] (bodyOf Tryz.f114)) 26 (nth undef [v0,v1]) [(15,(.int .i64 0)),(14,x8),(13,v0),(5,(.slice none 0 0)),(10,x4),(9,x3),(8,x2),(4,(.slice none 0 0)),(3,x0)] [] G1 fun e9 t10 G11 =>
 bV q (t10 5) fun t10x5_ =>
 ifE e9 (.exit 0) (
 some (t10x5_,G11)) (none))
theorem f114 (h:ExLe Q e (E orc)) (v0 v1:Value) (G:GS):Ref (s114 true e v0 v1 G) ((E orc).cl 114 [v0,v1] G):=cS (S:=fun q e=>s114 q e v0 v1 G) Tryz.func114 (by unfold s114; exact Ref.gq)
def s119 (q:Bool) (e:Ex) (v0 v1 v2:Value) (G:GS):OG :=
 bS (bx q v0 G) fun x0 G1 =>
 bS (bx q v2 G1) fun x2 G3 =>
 fl q 29 2 2 3 x2 G3 fun x5 =>
 bP (bn Q q .geq 3 (.tmp 8) (.const (.int .i64 0)) x5 (.int .i64 0)) fun x6 =>
 ifV x6 (
 bP (fa Q q 29 4 7 x2) fun x7 =>
 bP (lda Q q 27 3 x7 G3) fun x8 =>
 bS (bs Q q 180 1 (rep z27 1) 3 [(0,0,3)] [x8] G3) fun x9 G10 =>
 some (x9,G10)) (
 fl q 104 2 2 101 x0 G3 fun x12 =>
 bP (fa Q q 29 3 3 x2) fun x13 =>
 bP (lda Q q 24 4 x13 G3) fun x14 =>
 bS (cValue e.ev x12 [v1,x14] G3) fun x15 G16 =>
 some (x15,G16))
theorem f119 (h:ExLe Q e (E orc)) (v0 v1 v2:Value) (G:GS):Ref (s119 true e v0 v1 v2 G) ((E orc).cl 119 [v0,v1,v2] G):=cS (S:=fun q e=>s119 q e v0 v1 v2 G) Tryz.func119 (by unfold s119; exact Ref.gq)
def s122 (q:Bool) (e:Ex) (v0 v1:Value) (G:GS):OG :=
 bP (bn Q q .lss 3 (.tmp 6) (.const (.int .i64 1)) v0 (.int .i64 1)) fun x0 =>
 bS (gV x0 false v0 G) fun x1 G2 =>
 bS (gP x0 false (bn Q q .gtr 3 (.tmp 9) (.const (.int .i64 1024)) x1 (.int .i64 1024)) G2) fun x3 G4 =>
 bP (pickV x0 (.bool true) x3) fun x5 =>
 ifV x5 (
 some ((.int .i64 3),G4)) (
 bP (ln Q q 74 v1) fun x6 =>
 bP (bn Q q .gtr 3 (.tmp 14) (.tmp 15) x6 v0) fun x7 =>
 ifV x7 (
 some ((.int .i64 7),G4)) (
 some ((.int .i64 0),G4)))
theorem f122 (h:ExLe Q e (E orc)) (v0 v1:Value) (G:GS):Ref (s122 true e v0 v1 G) ((E orc).cl 122 [v0,v1] G):=cS (S:=fun q e=>s122 q e v0 v1 G) Tryz.func122 (by unfold s122; exact Ref.gq)
def s123 (q:Bool) (e:Ex) (v0 v1 v2:Value) (G:GS):OG :=
 bS (bx q v1 G) fun x0 G1 =>
 bS (bx q v2 G1) fun x2 G3 =>
 bS (al Q q 27 z27 G3) fun x4 G5 =>
 bS (al Q q 27 z27 G5) fun x6 G7 =>
 bP (fa Q q 24 0 0 x2) fun x8 =>
 bP (ld Q q 3 x8 G7) fun x9 =>
 bP (bn Q q .eql 3 (.tmp 13) (.const (.int .i64 1)) x9 (.int .i64 1)) fun x10 =>
 ifV x10 (
 fl q 202 2 1025 3 x0 G7 fun x12 =>
 bP (bn Q q .geq 3 (.tmp 17) (.tmp 18) x12 v0) fun x13 =>
 ifV x13 (
 bP (bd Q q 27 z27 [(0,0,1)] [(.int .i64 7)]) fun x14 =>
 bP (st Q q 27 3 x4 x14 G7) fun G15 =>
 bP (lda Q q 27 3 x4 G15) fun x16 =>
 some (.tuple #[x16,(.func (.func 186) #[] #[x0]),(.bool true)],G15)) (
 bP (lda Q q 27 3 x6 G7) fun x17 =>
 bP (st Q q 27 3 x4 x17 G7) fun G18 =>
 bP (lda Q q 27 3 x4 G18) fun x19 =>
 some (.tuple #[x19,(.func (.func 187) #[] #[x0,x2]),(.bool true)],G18))) (
 bP (bn Q q .eql 3 (.tmp 13) (.const (.int .i64 2)) x9 (.int .i64 2)) fun x20 =>
 ifV x20 (
 bP (fa Q q 202 2 1025 x0) fun x21 =>
 bP (ld Q q 3 x21 G7) fun x22 =>
 bP (bn Q q .eql 3 (.tmp 27) (.const (.int .i64 0)) x22 (.int .i64 0)) fun x23 =>
 ifV x23 (
 bX (e.ev.sc (subAt [1,0] (bodyOf Tryz.f123)) (labelAt 0 (subAt [1,0] (bodyOf Tryz.f123))) (lsq q 45 (nth undef [v0,v1,v2]) [(28,x23),(27,x22),(26,x21),(24,x20),(25,x20),(14,x10),(15,x10),(13,x9),(12,x8),(10,x6),(9,(.func (.func 186) #[] #[x0])),(11,(.func (.func 186) #[] #[x0])),(8,(.bool false)),(7,.nilFunc),(6,x4),(5,x2),(4,x0)]) G7) fun e24 T25 G26 =>
 bV q (nth undef T25 6) fun T25x6_ =>
 bV q (nth undef T25 7) fun T25x7_ =>
 bV q (nth undef T25 8) fun T25x8_ =>
 ifE e24 .normal (
 bP (lda Q q 27 3 T25x6_ G26) fun x27 =>
 some (.tuple #[x27,T25x7_,T25x8_],G26)) (ifE e24 (.goto 0) (
 none) (ifE e24 .ret (
 bP (lda Q q 27 3 T25x6_ G26) fun x28 =>
 some (.tuple #[x28,T25x7_,T25x8_],G26)) (none)))) (
 bP (lda Q q 202 1026 x0 G7) fun x29 =>
 bS (e.ev.cl 189 [x29] G7) fun x30 G31 =>
 bP (fa Q q 27 2 2 x6) fun x32 =>
 bP (st Q q 22 1 x32 x30 G31) fun G33 =>
 bP (lda Q q 27 3 x6 G33) fun x34 =>
 bP (st Q q 27 3 x4 x34 G33) fun G35 =>
 bP (lda Q q 27 3 x4 G35) fun x36 =>
 some (.tuple #[x36,(.func (.func 186) #[] #[x0]),(.bool true)],G35))) (
 bP (bn Q q .eql 3 (.tmp 13) (.const (.int .i64 3)) x9 (.int .i64 3)) fun x37 =>
 ifV x37 (
 bP (fa Q q 202 2 1025 x0) fun x38 =>
 bP (ld Q q 3 x38 G7) fun x39 =>
 bP (bn Q q .eql 3 (.tmp 37) (.const (.int .i64 0)) x39 (.int .i64 0)) fun x40 =>
 ifV x40 (
 bX (e.ev.sc (subAt [1,0] (bodyOf Tryz.f123)) (labelAt 0 (subAt [1,0] (bodyOf Tryz.f123))) (lsq q 45 (nth undef [v0,v1,v2]) [(38,x40),(37,x39),(36,x38),(34,x37),(35,x37),(24,x20),(25,x20),(14,x10),(15,x10),(13,x9),(12,x8),(10,x6),(9,(.func (.func 186) #[] #[x0])),(11,(.func (.func 186) #[] #[x0])),(8,(.bool false)),(7,.nilFunc),(6,x4),(5,x2),(4,x0)]) G7) fun e41 T42 G43 =>
 bV q (nth undef T42 6) fun T42x6_ =>
 bV q (nth undef T42 7) fun T42x7_ =>
 bV q (nth undef T42 8) fun T42x8_ =>
 ifE e41 .normal (
 bP (lda Q q 27 3 T42x6_ G43) fun x44 =>
 some (.tuple #[x44,T42x7_,T42x8_],G43)) (ifE e41 (.goto 0) (
 none) (ifE e41 .ret (
 bP (lda Q q 27 3 T42x6_ G43) fun x45 =>
 some (.tuple #[x45,T42x7_,T42x8_],G43)) (none)))) (
 bP (lda Q q 27 3 x6 G7) fun x46 =>
 bP (st Q q 27 3 x4 x46 G7) fun G47 =>
 bP (lda Q q 27 3 x4 G47) fun x48 =>
 some (.tuple #[x48,(.func (.func 190) #[] #[x0]),(.bool true)],G47))) (
 bP (lda Q q 27 3 x6 G7) fun x49 =>
 bP (st Q q 27 3 x4 x49 G7) fun G50 =>
 bP (lda Q q 27 3 x4 G50) fun x51 =>
 some (.tuple #[x51,(.func (.func 186) #[] #[x0]),(.bool false)],G50))))
theorem f123 (h:ExLe Q e (E orc)) (v0 v1 v2:Value) (G:GS):Ref (s123 true e v0 v1 v2 G) ((E orc).cl 123 [v0,v1,v2] G):=cS (S:=fun q e=>s123 q e v0 v1 v2 G) Tryz.func123 (by unfold s123; exact Ref.gq)
def s124 (q:Bool) (e:Ex) (v0:Value) (G:GS):OG :=
 bS (al Q q 202 z202 G) fun x0 G1 =>
 bS (al Q q 202 z202 G1) fun x2 G3 =>
 bP (fa Q q 202 0 0 x2) fun x4 =>
 bP (sla Q q 200 1024 1 x4 none none none G3) fun x5 =>
 bS (cp Q q 74 1 x5 v0 G3) fun x6 G7 =>
 bP (fa Q q 202 2 1025 x2) fun x8 =>
 bP (st Q q 3 1 x8 x6 G7) fun G9 =>
 bP (lda Q q 202 1026 x2 G9) fun x10 =>
 bP (st Q q 202 1026 x0 x10 G9) fun G11 =>
 bP (lda Q q 202 1026 x0 G11) fun x12 =>
 some (x12,G11)
theorem f124 (h:ExLe Q e (E orc)) (v0:Value) (G:GS):Ref (s124 true e v0 G) ((E orc).cl 124 [v0] G):=cS (S:=fun q e=>s124 q e v0 G) Tryz.func124 (by unfold s124; exact Ref.gq)
def b125_0 (q:Bool) (e:Ex) (lp:LpF) (τ:Env) (G:GS):OL :=
 bV q (τ 1) fun a1_ =>
 bV q (τ 3) fun a3_ =>
 bV q (τ 6) fun a6_ =>
 bV q (τ 7) fun a7_ =>
 bP (bn Q q .lss 3 (.tmp 7) (.tmp 6) a7_ a6_) fun x0 =>
 ifV x0 (
 bP (fa Q q 202 1 1024 a1_) fun x1 =>
 bP (ld Q q 3 x1 G) fun x2 =>
 bP (bn Q q .add 3 (.tmp 12) (.tmp 13) x2 a7_) fun x3 =>
 bP (bn Q q .rem 3 (.tmp 14) (.const (.int .i64 1024)) x3 (.int .i64 1024)) fun x4 =>
 bP (fa Q q 202 0 0 a1_) fun x5 =>
 bP (iaa Q q 200 1024 1 x5 x4) fun x6 =>
 bP (ld Q q 22 x6 G) fun x7 =>
 bS (bs Q q 74 1 (rep z22 1) 1 [(0,0,1)] [x7] G) fun x8 G9 =>
 bS (ap Q q 74 74 1 8 a3_ x8 G9) fun x10 G11 =>
 bP (bn Q q .add 3 (.tmp 7) (.const (.int .i64 1)) a7_ (.int .i64 1)) fun x12 =>
 lp (xq q 23 τ [(7,x12),(21,x12),(3,x10),(20,x10),(19,x8),(18,x7),(17,x6),(16,x5),(15,x4),(14,x3),(13,a7_),(12,x2),(11,x1),(10,a3_),(4,a7_),(9,a7_),(8,x0)] [(1,a1_),(6,a6_)]) G11) (
 some ((.exit 0),xq q 23 τ [(8,x0)] [(1,a1_),(3,a3_),(6,a6_),(7,a7_)],G))
theorem l125_0 (h:ExLe Q e (E orc)):LT orc 23 (subAt [1,1,0,1,0,0] (bodyOf Tryz.f125)) (b125_0 true e):=cL fun hlp τ G=>by unfold b125_0; exact Ref.gq
def s125 (q:Bool) (e:Ex) (v0:Value) (G:GS):OG :=
 bS (bx q v0 G) fun x0 G1 =>
 bP (fa Q q 202 2 1025 x0) fun x2 =>
 bP (ld Q q 3 x2 G1) fun x3 =>
 bLq q e 125 0 (subAt [1,1,0,1,0,0] (bodyOf Tryz.f125)) 23 (nth undef [v0]) [(7,(.int .i64 0)),(6,x3),(5,x2),(3,(.slice none 0 0)),(2,(.slice none 0 0)),(1,x0)] [] G1 fun e4 t5 G6 =>
 bV q (t5 3) fun t5x3_ =>
 ifE e4 (.exit 0) (
 some (t5x3_,G6)) (none)
theorem f125 (h:ExLe Q e (E orc)) (v0:Value) (G:GS):Ref (s125 true e v0 G) ((E orc).cl 125 [v0] G):=cS (S:=fun q e=>s125 q e v0 G) Tryz.func125 (by unfold s125; exact Ref.gq)
def s126 (q:Bool) (e:Ex) (v0:Value) (G:GS):OG :=
 bP (ln Q q 107 v0) fun x0 =>
 bP (bn Q q .gtr 3 (.tmp 5) (.const (.int .i64 1024)) x0 (.int .i64 1024)) fun x1 =>
 ifV x1 (
 some ((.int .i64 7),G)) (
 bP (ln Q q 107 v0) fun x2 =>
 bLq q e 126 0 (subAt [1,1,0,1,0,0] (bodyOf Tryz.f126)) 29 (nth undef [v0]) [(9,(.int .i64 0)),(8,x2),(7,v0),(6,x1),(5,x0),(4,v0),(2,(.int .i64 0))] [] G fun e3 t4 G5 =>
 bV q (t4 2) fun t4x2_ =>
 ifE e3 (.exit 0) (
 some ((.int .i64 0),G5)) (ifE e3 .ret (
 some (t4x2_,G5)) (none)))
theorem f126 (h:ExLe Q e (E orc)) (v0:Value) (G:GS):Ref (s126 true e v0 G) ((E orc).cl 126 [v0] G):=cS (S:=fun q e=>s126 q e v0 G) Tryz.func126 (by unfold s126; exact Ref.gq)
def s129 (q:Bool) (e:Ex) (v0:Value) (G:GS):OG :=
 bP (es Q q false 107 (.tmp 3) (.const (.slice none 0 0)) v0 (.slice none 0 0)) fun x0 =>
 ifV x0 (
 some ((.slice none 0 0),G)) (
 bS (bs Q q 107 0 (rep z184 0) 2 [] [] G) fun x1 G2 =>
 bS (ap Q q 107 107 2 16 x1 v0 G2) fun x3 G4 =>
 some (x3,G4))
theorem f129 (h:ExLe Q e (E orc)) (v0:Value) (G:GS):Ref (s129 true e v0 G) ((E orc).cl 129 [v0] G):=cS (S:=fun q e=>s129 q e v0 G) Tryz.func129 (by unfold s129; exact Ref.gq)
def s133 (q:Bool) (e:Ex) (v0:Value) (G:GS):OG :=
 bS (bx q v0 G) fun x0 G1 =>
 bS (al Q q 214 z214 G1) fun x2 G3 =>
 bP (lda Q q 57 4 x0 G3) fun x4 =>
 bS (e.ev.cl 144 [x4] G3) fun x5 G6 =>
 bP (un Q q .not x5) fun x7 =>
 ifV x7 (
 bP (bd Q q 214 z214 [(2,5,1),(3,6,1)] [(.bool true),(.int .i64 2)]) fun x8 =>
 bP (st Q q 214 7 x2 x8 G6) fun G9 =>
 bP (lda Q q 214 7 x2 G9) fun x10 =>
 some (x10,G9)) (
 bP (lda Q q 57 4 x0 G6) fun x11 =>
 bP (bd Q q 214 z214 [(0,0,4),(2,5,1)] [x11,(.bool true)]) fun x12 =>
 bP (st Q q 214 7 x2 x12 G6) fun G13 =>
 bP (lda Q q 214 7 x2 G13) fun x14 =>
 some (x14,G13))
theorem f133 (h:ExLe Q e (E orc)) (v0:Value) (G:GS):Ref (s133 true e v0 G) ((E orc).cl 133 [v0] G):=cS (S:=fun q e=>s133 q e v0 G) Tryz.func133 (by unfold s133; exact Ref.gq)
def s134 (q:Bool) (e:Ex) (v0 v1:Value) (G:GS):OG :=
 nf q 214 1 4 v0 fun x1 =>
 bP (st Q q 212 1 x1 .nilFunc G) fun G2 =>
 nf q 214 3 6 v0 fun x4 =>
 bP (st Q q 25 1 x4 v1 G2) fun G5 =>
 some (.tuple #[],G5)
theorem f134 (h:ExLe Q e (E orc)) (v0 v1:Value) (G:GS):Ref (s134 true e v0 v1 G) ((E orc).cl 134 [v0,v1] G):=cS (S:=fun q e=>s134 q e v0 v1 G) Tryz.func134 (by unfold s134; exact Ref.gq)
def s135 (q:Bool) (e:Ex) (v0 v1:Value) (G:GS):OG :=
 nf q 218 0 0 v0 fun x1 =>
 bP (fa Q q 214 0 0 x1) fun x2 =>
 fl q 57 1 1 3 x2 G fun x4 =>
 bS (e.ev.cl 59 [v1,x4] G) fun x5 G6 =>
 nf q 218 2 8 v0 fun x8 =>
 bP (st Q q 22 1 x8 x5 G6) fun G9 =>
 nf q 218 0 0 v0 fun x11 =>
 bP (fa Q q 214 1 4 x11) fun x12 =>
 bP (st Q q 212 1 x12 (.func (.func 197) #[v0] #[]) G9) fun G13 =>
 some (.tuple #[],G13)
theorem f135 (h:ExLe Q e (E orc)) (v0 v1:Value) (G:GS):Ref (s135 true e v0 v1 G) ((E orc).cl 135 [v0,v1] G):=cS (S:=fun q e=>s135 q e v0 v1 G) Tryz.func135 (by unfold s135; exact Ref.gq)
def s136 (q:Bool) (e:Ex) (v0 v1:Value) (G:GS):OG :=
 bP (ep Q q false 58 (.tmp 5) (.const (.pointer none)) v0 (.pointer none)) fun x0 =>
 bS (gV x0 false v0 G) fun x1 G2 =>
 bS (gP x0 false (pNil x1) G2) fun x3 G4 =>
 bS (gP x0 false (fa Q q 241 0 0 x3) G4) fun x5 G6 =>
 bS (gP x0 false (ld Q q 236 x5 G6) G6) fun x7 G8 =>
 bS (gP x0 false (ep Q q false 236 (.tmp 11) (.const (.pointer none)) x7 (.pointer none)) G8) fun x9 G10 =>
 bP (pickV x0 (.bool true) x9) fun x11 =>
 bS (gV x11 false v1 G10) fun x12 G13 =>
 bS (gP x11 false (bn Q q .lss 3 (.tmp 15) (.const (.int .i64 0)) x12 (.int .i64 0)) G13) fun x14 G15 =>
 bP (pickV x11 (.bool true) x14) fun x16 =>
 bS (gV x16 false v1 G15) fun x17 G18 =>
 bS (gV x16 false v0 G18) fun x19 G20 =>
 bS (gP x16 false (pNil x19) G20) fun x21 G22 =>
 bS (gP x16 false (fa Q q 241 1 1 x21) G22) fun x23 G24 =>
 bS (gP x16 false (ld Q q 3 x23 G24) G24) fun x25 G26 =>
 bS (gP x16 false (bn Q q .geq 3 (.tmp 19) (.tmp 23) x17 x25) G26) fun x27 G28 =>
 bP (pickV x16 (.bool true) x27) fun x29 =>
 ifV x29 (
 some ((.pointer none),G28)) (
 nl q 241 0 0 236 v0 G28 fun x32 =>
 bP (pNil x32) fun x33 =>
 bP (iaa Q q 239 4096 1 x33 v1) fun x34 =>
 some (x34,G28))
theorem f136 (h:ExLe Q e (E orc)) (v0 v1:Value) (G:GS):Ref (s136 true e v0 v1 G) ((E orc).cl 136 [v0,v1] G):=cS (S:=fun q e=>s136 q e v0 v1 G) Tryz.func136 (by unfold s136; exact Ref.gq)
def jb137_0 (q:Bool) (e:Ex) (τ:Env) (G:GS):OG :=
 bV q (τ 0) fun a0_ =>
 bV q (τ 10) fun a10_ =>
 nf q 241 2 2 a0_ fun x29 =>
 bP (lda Q q 225 5 x29 G) fun x30 =>
 bP (st Q q 225 5 a10_ x30 G) fun G31 =>
 bP (lda Q q 225 5 a10_ G31) fun x32 =>
 some (x32,G31)
def j137_0 (q:Bool) (e:Ex) (τ:Env) (G:GS):OG:=jb137_0 q e τ G
theorem mj137_0 {e:Ex} {E:Ev} (h:ExLe Q e E) (τ:Env) (G:GS):Ref (j137_0 true e τ G) (j137_0 false (Ex.of E) τ G):=by
 unfold j137_0 jb137_0
 exact Ref.gq
theorem mkj137_0 {e:Ex} {E:Ev} (h:ExLe Q e E) {τ:Env} {l U:List (Nat × Value)} {G:GS} (hU:UOk τ U):Ref (j137_0 true e (xq true 67 τ l U) G) (j137_0 false (Ex.of E) (xq false 67 τ l U) G):=by
 rw [xq_eq hU]
 exact mj137_0 h _ _
def sb137 (q:Bool) (e:Ex) (J0:Env → GS → OG) (v0 v1 v2 v3 v4:Value) (G:GS):OG :=
 bS (al Q q 225 z225 G) fun x0 G1 =>
 bP (ep Q q false 58 (.tmp 13) (.const (.pointer none)) v0 (.pointer none)) fun x2 =>
 bS (gV x2 false v0 G1) fun x3 G4 =>
 bS (gP x2 false (pNil x3) G4) fun x5 G6 =>
 bS (gP x2 false (fa Q q 241 0 0 x5) G6) fun x7 G8 =>
 bS (gP x2 false (ld Q q 236 x7 G8) G8) fun x9 G10 =>
 bS (gP x2 false (ep Q q false 236 (.tmp 19) (.const (.pointer none)) x9 (.pointer none)) G10) fun x11 G12 =>
 bP (pickV x2 (.bool true) x11) fun x13 =>
 ifV x13 (
 bP (bd Q q 225 z225 [] []) fun x14 =>
 bP (st Q q 225 5 x0 x14 G12) fun G15 =>
 bP (lda Q q 225 5 x0 G15) fun x16 =>
 some (x16,G15)) (
 bP (pNil v0) fun x17 =>
 bP (fa Q q 241 3 7 x17) fun x18 =>
 bP (ld Q q 3 x18 G12) fun x19 =>
 bP (bn Q q .add 3 (.tmp 26) (.const (.int .i64 1)) x19 (.int .i64 1)) fun x20 =>
 bP (pNil v0) fun x21 =>
 bP (fa Q q 241 3 7 x21) fun x22 =>
 bP (st Q q 3 1 x22 x20 G12) fun G23 =>
 bP (bd Q q 225 z225 [(0,0,1),(1,1,1)] [v1,v2]) fun x24 =>
 bP (pNil v0) fun x25 =>
 bP (fa Q q 241 2 2 x25) fun x26 =>
 bP (st Q q 225 5 x26 x24 G23) fun G27 =>
 bS (e.ev.cl 198 [v3] G27) fun x33 G34 =>
 ifV x33 (
 bS (cValue e.ev v4 [] G34) fun x35 G36 =>
 bP (pExtract x35 0) fun x37 =>
 bP (pExtract x35 1) fun x38 =>
 bP (pNil v3) fun x39 =>
 bP (ld Q q 237 x39 G36) fun x40 =>
 bP (pNil v0) fun x41 =>
 bP (fa Q q 241 2 2 x41) fun x42 =>
 bP (fa Q q 225 2 2 x42) fun x43 =>
 bP (st Q q 22 1 x43 x40 G36) fun G44 =>
 bP (pNil v0) fun x45 =>
 bP (fa Q q 241 2 2 x45) fun x46 =>
 bP (fa Q q 225 3 3 x46) fun x47 =>
 bP (st Q q 22 1 x47 x37 G44) fun G48 =>
 bP (pNil v0) fun x49 =>
 bP (fa Q q 241 2 2 x49) fun x50 =>
 bP (fa Q q 225 4 4 x50) fun x51 =>
 bP (st Q q 4 1 x51 x38 G48) fun G52 =>
 bP (pNil v3) fun x53 =>
 bP (st Q q 237 1 x53 x37 G52) fun G54 =>
 J0 (xq q 67 (nth undef [v0,v1,v2,v3,v4]) [(62,x53),(61,x37),(60,v3),(59,x51),(58,x50),(57,x49),(56,x47),(55,x46),(54,x45),(53,x43),(52,x42),(51,x41),(50,x38),(49,x37),(48,x40),(47,x39),(46,v3),(45,v0),(44,v0),(43,v0),(12,x38),(11,x37),(42,x38),(41,x37),(38,x35),(40,x35),(39,v4),(37,x33),(36,v3),(35,x26),(34,x25),(33,x24),(32,v2),(31,v1),(30,v0),(29,x22),(28,x21),(27,x20),(26,x19),(25,x18),(24,x17),(23,v0),(21,x13),(20,x11),(19,x9),(18,x7),(17,x5),(16,x3),(15,x2),(14,x2),(13,v0),(10,x0)] []) G54) (
 J0 (xq q 67 (nth undef [v0,v1,v2,v3,v4]) [(37,x33),(36,v3),(35,x26),(34,x25),(33,x24),(32,v2),(31,v1),(30,v0),(29,x22),(28,x21),(27,x20),(26,x19),(25,x18),(24,x17),(23,v0),(21,x13),(20,x11),(19,x9),(18,x7),(17,x5),(16,x3),(15,x2),(14,x2),(13,v0),(10,x0)] []) G34))
def s137 (q:Bool) (e:Ex) (v0 v1 v2 v3 v4:Value) (G:GS):OG:=sb137 q e (j137_0 q e) v0 v1 v2 v3 v4 G
theorem m137 {e:Ex} {E:Ev} (h:ExLe Q e E) (v0 v1 v2 v3 v4:Value) (G:GS):Ref (s137 true e v0 v1 v2 v3 v4 G) (s137 false (Ex.of E) v0 v1 v2 v3 v4 G):=by
 unfold s137 sb137
 have j0:=@mkj137_0 e E h
 exact Ref.gj
def jt137 (J0:Env → GS → OG):JT (Value × GS) :=
 (.n none .e (.n none .e (.n none .e (.n none .e (.n (some (fun T G=>J0 (nth undef T) G)) .e .e)))))
theorem jr137_0 (orc:FuncId → Bool) (J0:Env → GS → OG) (T:List Value) (G:GS):runC Q (evL Q orc) Tryz.f137.ntmps (jt137 J0) (bodyOf Tryz.f137) (retE Q Tryz.f137.results.toList) [true,true,true,true] (nth undef T) G = jb137_0 false (Ex.of (E orc))  (nth undef T) G:=by kernel_rfl
theorem jo137 (orc:FuncId → Bool):JOk Q orc Tryz.f137.ntmps (jt137 (j137_0 false (Ex.of (E orc))) ) (bodyOf Tryz.f137) (retE Q Tryz.f137.results.toList) :=
 jOk Q orc (l:=[([true,true,true,true],(fun T G=>j137_0 false (Ex.of (E orc)) (nth undef T) G))]) (by kernel_rfl) (AllE.c (fun T G=>jr137_0 orc (j137_0 false (Ex.of (E orc))) T G) (AllE.z))
theorem je137 (orc:FuncId → Bool) (J0:Env → GS → OG) (v0 v1 v2 v3 v4:Value) (G:GS):sxC Q (evL Q orc) Tryz.f137.ntmps (jt137 J0) (bodyOf Tryz.f137) (nth undef [v0,v1,v2,v3,v4]) G (retE Q Tryz.f137.results.toList) = sb137 false (Ex.of (E orc)) J0 v0 v1 v2 v3 v4 G:=by kernel_rfl
theorem f137 {orc:FuncId → Bool} {e:Ex} (h:ExLe Q e (E orc)) (v0 v1 v2 v3 v4:Value) (G:GS):Ref (s137 true e v0 v1 v2 v3 v4 G) ((E orc).cl 137 [v0,v1,v2,v3,v4] G) :=
 fun r hr=>cl_sxC Q orc (vs:=[v0,v1,v2,v3,v4]) G (jt137 (j137_0 false (Ex.of (E orc))) ) Tryz.func137 (by kernel_rfl) (by kernel_rfl) (by kernel_rfl) (by kernel_rfl) (by kernel_rfl) (jo137 orc) (je137 orc (j137_0 false (Ex.of (E orc))) v0 v1 v2 v3 v4 G) (m137 h v0 v1 v2 v3 v4 G r hr)
def s138 (q:Bool) (e:Ex) (v0:Value) (G:GS):OG :=
 bS (bx q v0 G) fun x0 G1 =>
 fl q 223 0 0 220 x0 G1 fun x3 =>
 bP (pNil x3) fun x4 =>
 bP (ld Q q 237 x4 G1) fun x5 =>
 some (.tuple #[x5,(.bool false)],G1)
theorem f138 (h:ExLe Q e (E orc)) (v0:Value) (G:GS):Ref (s138 true e v0 G) ((E orc).cl 138 [v0] G):=cS (S:=fun q e=>s138 q e v0 G) Tryz.func138 (by unfold s138; exact Ref.gq)
def s139 (q:Bool) (e:Ex) (v0 v1:Value) (G:GS):OG :=
 bP (ep Q q false 60 (.tmp 5) (.const (.pointer none)) v0 (.pointer none)) fun x0 =>
 bS (gV x0 false v0 G) fun x1 G2 =>
 bS (gP x0 false (pNil x1) G2) fun x3 G4 =>
 bS (gP x0 false (fa Q q 235 0 0 x3) G4) fun x5 G6 =>
 bS (gV x0 false v1 G6) fun x7 G8 =>
 bS (gS x0 false (e.ev.cl 142 [x5,x7] G8) G8) fun x9 G10 =>
 bP (pickV x0 (.bool true) x9) fun x11 =>
 some (x11,G10)
theorem f139 (h:ExLe Q e (E orc)) (v0 v1:Value) (G:GS):Ref (s139 true e v0 v1 G) ((E orc).cl 139 [v0,v1] G):=cS (S:=fun q e=>s139 q e v0 v1 G) Tryz.func139 (by unfold s139; exact Ref.gq)
def s140 (q:Bool) (e:Ex) (v0 v1:Value) (G:GS):OG :=
 bP (ep Q q false 61 (.tmp 5) (.const (.pointer none)) v0 (.pointer none)) fun x0 =>
 bS (gV x0 false v0 G) fun x1 G2 =>
 bS (gP x0 false (pNil x1) G2) fun x3 G4 =>
 bS (gP x0 false (fa Q q 271 0 0 x3) G4) fun x5 G6 =>
 bS (gV x0 false v1 G6) fun x7 G8 =>
 bS (gS x0 false (e.ev.cl 142 [x5,x7] G8) G8) fun x9 G10 =>
 bP (pickV x0 (.bool true) x9) fun x11 =>
 some (x11,G10)
theorem f140 (h:ExLe Q e (E orc)) (v0 v1:Value) (G:GS):Ref (s140 true e v0 v1 G) ((E orc).cl 140 [v0,v1] G):=cS (S:=fun q e=>s140 q e v0 v1 G) Tryz.func140 (by unfold s140; exact Ref.gq)
def jb142_0 (q:Bool) (e:Ex) (τ:Env) (G:GS):OG :=
 bV q (τ 0) fun a0_ =>
 nl q 214 1 4 212 a0_ G fun x2 =>
 bP (ef Q q false 212 (.tmp 19) (.const .nilFunc) x2 .nilFunc) fun x3 =>
 some (x3,G)
def j142_0 (q:Bool) (e:Ex) (τ:Env) (G:GS):OG:=jb142_0 q e τ G
theorem mj142_0 {e:Ex} {E:Ev} (h:ExLe Q e E) (τ:Env) (G:GS):Ref (j142_0 true e τ G) (j142_0 false (Ex.of E) τ G):=by
 unfold j142_0 jb142_0
 exact Ref.gq
theorem mkj142_0 {e:Ex} {E:Ev} (h:ExLe Q e E) {τ:Env} {l U:List (Nat × Value)} {G:GS} (hU:UOk τ U):Ref (j142_0 true e (xq true 21 τ l U) G) (j142_0 false (Ex.of E) (xq false 21 τ l U) G):=by
 rw [xq_eq hU]
 exact mj142_0 h _ _
def sb142 (q:Bool) (e:Ex) (J0:Env → GS → OG) (v0 v1:Value) (G:GS):OG :=
 bP (pNil v0) fun x4 =>
 bP (fa Q q 214 1 4 x4) fun x5 =>
 bP (ld Q q 212 x5 G) fun x6 =>
 bP (ef Q q true 212 (.tmp 8) (.const .nilFunc) x6 .nilFunc) fun x7 =>
 ifV x7 (
 bP (pNil v0) fun x8 =>
 bP (fa Q q 214 1 4 x8) fun x9 =>
 bP (ld Q q 212 x9 G) fun x10 =>
 bS (cValue e.ev x10 [v1] G) fun x11 G12 =>
 J0 (xq q 21 (nth undef [v0,v1]) [(15,x11),(14,v1),(13,x10),(12,x9),(11,x8),(10,v0),(9,x7),(8,x6),(7,x5),(6,x4),(5,v0),(4,(.bool false))] []) G12) (
 J0 (xq q 21 (nth undef [v0,v1]) [(9,x7),(8,x6),(7,x5),(6,x4),(5,v0),(4,(.bool false))] []) G)
def s142 (q:Bool) (e:Ex) (v0 v1:Value) (G:GS):OG:=sb142 q e (j142_0 q e) v0 v1 G
theorem m142 {e:Ex} {E:Ev} (h:ExLe Q e E) (v0 v1:Value) (G:GS):Ref (s142 true e v0 v1 G) (s142 false (Ex.of E) v0 v1 G):=by
 unfold s142 sb142
 have j0:=@mkj142_0 e E h
 exact Ref.gj
def jt142 (J0:Env → GS → OG):JT (Value × GS) :=
 (.n none .e (.n (some (fun T G=>J0 (nth undef T) G)) .e .e))
theorem jr142_0 (orc:FuncId → Bool) (J0:Env → GS → OG) (T:List Value) (G:GS):runC Q (evL Q orc) Tryz.f142.ntmps (jt142 J0) (bodyOf Tryz.f142) (retE Q Tryz.f142.results.toList) [true] (nth undef T) G = jb142_0 false (Ex.of (E orc))  (nth undef T) G:=by kernel_rfl
theorem jo142 (orc:FuncId → Bool):JOk Q orc Tryz.f142.ntmps (jt142 (j142_0 false (Ex.of (E orc))) ) (bodyOf Tryz.f142) (retE Q Tryz.f142.results.toList) :=
 jOk Q orc (l:=[([true],(fun T G=>j142_0 false (Ex.of (E orc)) (nth undef T) G))]) (by kernel_rfl) (AllE.c (fun T G=>jr142_0 orc (j142_0 false (Ex.of (E orc))) T G) (AllE.z))
theorem je142 (orc:FuncId → Bool) (J0:Env → GS → OG) (v0 v1:Value) (G:GS):sxC Q (evL Q orc) Tryz.f142.ntmps (jt142 J0) (bodyOf Tryz.f142) (nth undef [v0,v1]) G (retE Q Tryz.f142.results.toList) = sb142 false (Ex.of (E orc)) J0 v0 v1 G:=by kernel_rfl
theorem f142 {orc:FuncId → Bool} {e:Ex} (h:ExLe Q e (E orc)) (v0 v1:Value) (G:GS):Ref (s142 true e v0 v1 G) ((E orc).cl 142 [v0,v1] G) :=
 fun r hr=>cl_sxC Q orc (vs:=[v0,v1]) G (jt142 (j142_0 false (Ex.of (E orc))) ) Tryz.func142 (by kernel_rfl) (by kernel_rfl) (by kernel_rfl) (by kernel_rfl) (by kernel_rfl) (jo142 orc) (je142 orc (j142_0 false (Ex.of (E orc))) v0 v1 G) (m142 h v0 v1 G r hr)
def s143 (q:Bool) (e:Ex) (v0:Value) (G:GS):OG :=
 nl q 214 2 5 4 v0 G fun x2 =>
 bP (un Q q .not x2) fun x3 =>
 ifV x3 (
 some ((.int .i64 1),G)) (
 nl q 214 1 4 212 v0 G fun x6 =>
 bP (ef Q q true 212 (.tmp 13) (.const .nilFunc) x6 .nilFunc) fun x7 =>
 ifV x7 (
 some ((.int .i64 14),G)) (
 nl q 214 3 6 25 v0 G fun x10 =>
 some (x10,G)))
theorem f143 (h:ExLe Q e (E orc)) (v0:Value) (G:GS):Ref (s143 true e v0 G) ((E orc).cl 143 [v0] G):=cS (S:=fun q e=>s143 q e v0 G) Tryz.func143 (by unfold s143; exact Ref.gq)
def s144 (q:Bool) (e:Ex) (v0:Value) (G:GS):OG :=
 bS (bx q v0 G) fun x0 G1 =>
 fl q 57 3 3 3 x0 G1 fun x3 =>
 bP (bn Q q .geq 3 (.tmp 4) (.const (.int .i64 1)) x3 (.int .i64 1)) fun x4 =>
 bS (gP x4 true (fa Q q 57 3 3 x0) G1) fun x5 G6 =>
 bS (gP x4 true (ld Q q 3 x5 G6) G6) fun x7 G8 =>
 bS (gP x4 true (bn Q q .leq 3 (.tmp 8) (.const (.int .i64 4096)) x7 (.int .i64 4096)) G8) fun x9 G10 =>
 bP (pickV x4 x9 (.bool false)) fun x11 =>
 some (x11,G10)
theorem f144 (h:ExLe Q e (E orc)) (v0:Value) (G:GS):Ref (s144 true e v0 G) ((E orc).cl 144 [v0] G):=cS (S:=fun q e=>s144 q e v0 G) Tryz.func144 (by unfold s144; exact Ref.gq)
def s147 (q:Bool) (e:Ex) (v0 v1:Value) (G:GS):OG :=
 bS (bx q v0 G) fun x0 G1 =>
 fl q 57 2 2 3 x0 (G1.room 10) fun x3 =>
 fl q 57 3 3 3 x0 (G1.room 10) fun x5 =>
 bP (cv Q q 3 22 .i64 .u64 x5) fun x6 =>
 bP (bn Q q .rem 22 (.tmp 7) (.tmp 10) v1 x6) fun x7 =>
 bP (cv Q q 22 3 .u64 .i64 x7) fun x8 =>
 bP (bn Q q .add 3 (.tmp 6) (.tmp 12) x3 x8) fun x9 =>
 some (x9,(G1.room 10))
theorem f147 (h:ExLe Q e (E orc)) (v0 v1:Value) (G:GS):Ref (s147 true e v0 v1 G) ((E orc).cl 147 [v0,v1] G):=cS (S:=fun q e=>s147 q e v0 v1 G) Tryz.func147 (by unfold s147; exact Ref.gq)
def s148 (q:Bool) (e:Ex) (v0:Value) (G:GS):OG :=
 bP (bn Q q .and 216 (.tmp 3) (.const (.int .u64 65535)) v0 (.int .u64 65535)) fun x0 =>
 bP (cv Q q 216 3 .u64 .i64 x0) fun x1 =>
 some (x1,G)
theorem f148 (h:ExLe Q e (E orc)) (v0:Value) (G:GS):Ref (s148 true e v0 G) ((E orc).cl 148 [v0] G):=cS (S:=fun q e=>s148 q e v0 G) Tryz.func148 (by unfold s148; exact Ref.gq)
def s149 (q:Bool) (e:Ex) (v0 v1:Value) (G:GS):OG :=
 nf q 235 0 0 v0 fun x1 =>
 bP (fa Q q 214 0 0 x1) fun x2 =>
 fl q 57 0 0 3 x2 G fun x4 =>
 bS (e.ev.cl 59 [v1,x4] G) fun x5 G6 =>
 nf q 235 1 7 v0 fun x8 =>
 bP (st Q q 22 1 x8 x5 G6) fun G9 =>
 nf q 235 0 0 v0 fun x11 =>
 bP (fa Q q 214 1 4 x11) fun x12 =>
 bP (st Q q 212 1 x12 (.func (.func 202) #[v0] #[]) G9) fun G13 =>
 some (.tuple #[],G13)
theorem f149 (h:ExLe Q e (E orc)) (v0 v1:Value) (G:GS):Ref (s149 true e v0 v1 G) ((E orc).cl 149 [v0,v1] G):=cS (S:=fun q e=>s149 q e v0 v1 G) Tryz.func149 (by unfold s149; exact Ref.gq)
def s150 (q:Bool) (e:Ex) (v0 v1 v2:Value) (G:GS):OG :=
 bS (e.ev.cl 136 [v0,v1] G) fun x0 G1 =>
 bP (bd Q q 223 z223 [(0,0,1),(1,1,1)] [x0,v2]) fun x2 =>
 bS (al Q q 223 z223 G1) fun x3 G4 =>
 bP (st Q q 223 3 x3 x2 G4) fun G5 =>
 fl q 223 0 0 220 x3 G5 fun x7 =>
 bP (lda Q q 223 3 x3 G5) fun x8 =>
 bS (e.ev.cl 137 [v0,(.int .i64 2),v1,x7,(.func (.func 203) #[x8] #[])] G5) fun x9 G10 =>
 some (.tuple #[],G10)
theorem f150 (h:ExLe Q e (E orc)) (v0 v1 v2:Value) (G:GS):Ref (s150 true e v0 v1 v2 G) ((E orc).cl 150 [v0,v1,v2] G):=cS (S:=fun q e=>s150 q e v0 v1 v2 G) Tryz.func150 (by unfold s150; exact Ref.gq)
def s166 (q:Bool) (e:Ex) (v0:Value) (G:GS):OG :=
 bS (bx q v0 G) fun x0 G1 =>
 bP (lda Q q 82 3 x0 G1) fun x2 =>
 bS (e.ev.cl 168 [x2] G1) fun x3 G4 =>
 bS (gP x3 true (fa Q q 82 0 0 x0) G4) fun x5 G6 =>
 bS (gP x3 true (ld Q q 3 x5 G6) G6) fun x7 G8 =>
 bS (gP x3 true (bn Q q .geq 3 (.tmp 7) (.const (.int .i64 0)) x7 (.int .i64 0)) G8) fun x9 G10 =>
 bP (pickV x3 x9 (.bool false)) fun x11 =>
 bS (gP x11 true (fa Q q 82 0 0 x0) G10) fun x12 G13 =>
 bS (gP x11 true (ld Q q 3 x12 G13) G13) fun x14 G15 =>
 bS (gP x11 true (bn Q q .lss 3 (.tmp 12) (.const (.int .i64 4096)) x14 (.int .i64 4096)) G15) fun x16 G17 =>
 bP (pickV x11 x16 (.bool false)) fun x18 =>
 some (x18,G17)
theorem f166 (h:ExLe Q e (E orc)) (v0:Value) (G:GS):Ref (s166 true e v0 G) ((E orc).cl 166 [v0] G):=cS (S:=fun q e=>s166 q e v0 G) Tryz.func166 (by unfold s166; exact Ref.gq)
def s167 (q:Bool) (e:Ex) (v0:Value) (G:GS):OG :=
 bS (bx q v0 G) fun x0 G1 =>
 some ((.func (.func 222) #[] #[x0]),G1)
theorem f167 (h:ExLe Q e (E orc)) (v0:Value) (G:GS):Ref (s167 true e v0 G) ((E orc).cl 167 [v0] G):=cS (S:=fun q e=>s167 q e v0 G) Tryz.func167 (by unfold s167; exact Ref.gq)
def s168 (q:Bool) (e:Ex) (v0:Value) (G:GS):OG :=
 bS (bx q v0 G) fun x0 G1 =>
 fl q 82 1 1 3 x0 G1 fun x3 =>
 bP (bn Q q .geq 3 (.tmp 4) (.const (.int .i64 1)) x3 (.int .i64 1)) fun x4 =>
 bS (gP x4 true (fa Q q 82 1 1 x0) G1) fun x5 G6 =>
 bS (gP x4 true (ld Q q 3 x5 G6) G6) fun x7 G8 =>
 bS (gP x4 true (bn Q q .leq 3 (.tmp 8) (.const (.int .i64 64)) x7 (.int .i64 64)) G8) fun x9 G10 =>
 bP (pickV x4 x9 (.bool false)) fun x11 =>
 bS (gP x11 true (fa Q q 82 2 2 x0) G10) fun x12 G13 =>
 bS (gP x11 true (ld Q q 3 x12 G13) G13) fun x14 G15 =>
 bS (gP x11 true (bn Q q .geq 3 (.tmp 13) (.const (.int .i64 1)) x14 (.int .i64 1)) G15) fun x16 G17 =>
 bP (pickV x11 x16 (.bool false)) fun x18 =>
 bS (gP x18 true (fa Q q 82 2 2 x0) G17) fun x19 G20 =>
 bS (gP x18 true (ld Q q 3 x19 G20) G20) fun x21 G22 =>
 bS (gP x18 true (bn Q q .leq 3 (.tmp 18) (.const (.int .i64 16)) x21 (.int .i64 16)) G22) fun x23 G24 =>
 bP (pickV x18 x23 (.bool false)) fun x25 =>
 some (x25,G24)
theorem f168 (h:ExLe Q e (E orc)) (v0:Value) (G:GS):Ref (s168 true e v0 G) ((E orc).cl 168 [v0] G):=cS (S:=fun q e=>s168 q e v0 G) Tryz.func168 (by unfold s168; exact Ref.gq)
def s169 (q:Bool) (e:Ex) (v0 v1:Value) (G:GS):OG :=
 bS (bx q v0 G) fun x0 G1 =>
 bS (bx q v1 G1) fun x2 G3 =>
 bP (lda Q q 82 3 x0 G3) fun x4 =>
 bS (e.ev.cl 168 [x4] G3) fun x5 G6 =>
 bP (un Q q .not x5) fun x7 =>
 ifV x7 (
 some (.tuple #[],G6)) (
 bP (lda Q q 82 3 x0 G6) fun x8 =>
 bS (e.ev.cl 167 [x8] G6) fun x9 G10 =>
 bX (xRange e.ev x9 #[11,12] (subAt [1,1,1,0,0] (bodyOf Tryz.f169)) (subAt [1,1,1,0,1] (bodyOf Tryz.f169)) (lsq q 16 (nth undef [v0,v1]) [(10,x9),(9,x8),(8,x7),(7,x5),(6,x4),(3,x2),(2,x0)]) G10) fun e11 T12 G13 =>
 ifE e11 .normal (
 some (.tuple #[],G13)) (none))
theorem f169 (h:ExLe Q e (E orc)) (v0 v1:Value) (G:GS):Ref (s169 true e v0 v1 G) ((E orc).cl 169 [v0,v1] G):=cS (S:=fun q e=>s169 q e v0 v1 G) Tryz.func169 (by unfold s169; exact Ref.gq)
def r169_0 (q:Bool) (e:Ex) (l:Nat) (τ:Env) (u0 u1:Value) (G:GS):OG :=
 bV q (τ 3) fun a3_ =>
 bS (al Q q 57 z57 G) fun x0 G1 =>
 bP (st Q q 57 4 x0 u1 G1) fun G2 =>
 bP (G2.loop l) fun r3=>if r3.st = .ready then
 bP (lda Q q 57 4 x0 (G2.putLoop l (Lp.setSt r3 .busy))) fun x4 =>
 bP (ld Q q 58 a3_ (G2.putLoop l (Lp.setSt r3 .busy))) fun x5 =>
 bS (e.ev.cl 71 [x4,x5] (G2.putLoop l (Lp.setSt r3 .busy))) fun x6 G7 =>
 roundEnd l .normal G7
 else none
theorem mr169_0 {e:Ex} {E:Ev} (h:ExLe Q e E) (l:Nat) (τ:Env) (u0 u1:Value) (G:GS):Ref (r169_0 true e l τ u0 u1 G) (r169_0 false (Ex.of E) l τ u0 u1 G):=by
 unfold r169_0
 repeat' (with_reducible first | exact Ref.rfl' _ | exact ROp.r | refine Ref.bP ?_ fun _=>?_ | refine Ref.bS ?_ fun _ _=>?_ | exact Ref.cl (by assumption) | refine Ref.ifV ?_ ?_ | refine LpLe.rx (by assumption) ?_ | refine Ref.xitq ?_ | exact UOk.z | refine UOk.c (by assumption) ?_ | exact Ref.nil _ | refine Ref.bVe fun _ _=>?_ | refine Ref.bLq (by assumption) ?_ fun _ _ _=>?_ | refine Ref.ifE ?_ ?_ | refine Ref.chk ?_ ?_ | refine Imp.and ?_ ?_ | refine Imp.or ?_ | exact Imp.rfl' _ | refine Imp.sameO ?_ | refine Ref.gd ?_ | exact Ref.cValue (by assumption) | refine Ref.bX ?_ fun _ _ _=>?_ | exact Ref.scQ (by assumption) | exact Ref.xRangeQ (by assumption) | exact Ref.cInvoke (by assumption) | refine Ref.rdy ?_)
theorem d169_0 {orc:FuncId → Bool} {e:Ex} (h:ExLe Q e (E orc)) (l:Nat) (T:List Value) (u0 u1:Value) (G:GS) {st:LoopState} {pend:Option Code} (hl:G.loop l = some ⟨st,pend,T,[11,12],(subAt [1,1,1,0,0] (bodyOf Tryz.f169)),(subAt [1,1,1,0,1] (bodyOf Tryz.f169))⟩) (hT:T.length = 16):Ref (r169_0 true e l (nth undef T) u0 u1 G) ((E orc).rd l [u0,u1] G) :=
 fun r hr=>rd_sxE Q orc hl (by kernel_rfl) hT (by kernel_rfl) (mr169_0 h l _ u0 u1 G r hr)
end
end Go.Proofs.YtlaojmcekeohnaaGreatDoor.Lift
