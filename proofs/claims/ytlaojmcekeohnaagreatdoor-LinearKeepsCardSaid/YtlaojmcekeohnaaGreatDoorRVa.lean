import Derived.Test.YtlaojmcekeohnaaGreatDoorProg
import Derived.Test.YtlaojmcekeohnaaGreatDoorGhPJ
import Derived.Test.YtlaojmcekeohnaaGreatDoorGhPG
import Derived.KernelRfl
namespace Go.Proofs.YtlaojmcekeohnaaGreatDoor.Lift
open Go Go.Proofs.YtlaojmcekeohnaaGreatDoor.Gh Go.Proofs
set_option linter.unusedVariables false
set_option maxRecDepth 100000
@[reducible] noncomputable def Q:Program:=Tryz.prog
@[reducible] noncomputable def E (orc:FuncId→Bool):Ev:=evL Tryz.prog orc
noncomputable section
abbrev OG:Type:=Option (Value×GS)
abbrev OL:Type:=Option (Exit×Env×GS)
abbrev LpF:Type:=Env→GS→OL
variable {orc:FuncId→Bool} {e:Ex}
abbrev gP (x:Value) (b:Bool) (o:Option Value) (G:GS):Option (Value×GS):=gd x b (bP o fun y=>some (y,G)) G
abbrev gS (x:Value) (b:Bool) (o:Option (Value×GS)) (G:GS):Option (Value×GS):=gd x b (bS o fun y G=>some (y,G)) G
abbrev gV (x:Value) (b:Bool) (v:Value) (G:GS):Option (Value×GS):=gd x b (some (v,G)) G
abbrev nf {β:Type} (q:Bool) (t f o:Nat) (v:Value) (k:Value→Option β):Option β:=bP (pNil v) fun x=>bP (fa Q q t f o x) k
abbrev fl {β:Type} (q:Bool) (t f o u:Nat) (v:Value) (G:GS) (k:Value→Option β):Option β:=bP (fa Q q t f o v) fun x=>bP (ld Q q u x G) k
abbrev nl {β:Type} (q:Bool) (t f o u:Nat) (v:Value) (G:GS) (k:Value→Option β):Option β:=bP (pNil v) fun x=>bP (fa Q q t f o x) fun y=>bP (ld Q q u y G) k
@[simp] theorem gP_s (x:Value) (b:Bool) (o:Option Value) (G:GS):gP x b o G=gd x b (bP o fun y=>some (y,G)) G:=Eq.trans rfl rfl
@[simp] theorem gS_s (x:Value) (b:Bool) (o:Option (Value×GS)) (G:GS):gS x b o G=gd x b (bS o fun y G=>some (y,G)) G:=Eq.trans rfl rfl
@[simp] theorem gV_s (x:Value) (b:Bool) (v:Value) (G:GS):gV x b v G=gd x b (some (v,G)) G:=Eq.trans rfl rfl
@[simp] theorem nf_s {β:Type} (q:Bool) (t f o:Nat) (v:Value) (k:Value→Option β):nf q t f o v k=bP (pNil v) fun x=>bP (fa Q q t f o x) k:=Eq.trans rfl rfl
@[simp] theorem fl_s {β:Type} (q:Bool) (t f o u:Nat) (v:Value) (G:GS) (k:Value→Option β):fl q t f o u v G k=bP (fa Q q t f o v) fun x=>bP (ld Q q u x G) k:=Eq.trans rfl rfl
@[simp] theorem nl_s {β:Type} (q:Bool) (t f o u:Nat) (v:Value) (G:GS) (k:Value→Option β):nl q t f o u v G k=bP (pNil v) fun x=>bP (fa Q q t f o x) fun y=>bP (ld Q q u y G) k:=Eq.trans rfl rfl
theorem cS {k:FuncId} {fn:Func} {vs:List Value} {G:GS} {S:Bool→Ex→Option (Value×GS)} (hf:Q.funcs[k]? =some fn) (m:Ref (S true e) (S false (Ex.of (E orc)))) (hn:(fn.name == "runtime.NumGoroutine")=false:=by kernel_rfl) (hb:fn.body.isSome=true:=by kernel_rfl)
  (ho:(vs.isEmpty&&orc k)=false:=by kernel_rfl) (hp:isPur Q orc k=false:=by kernel_rfl) (hl:Nat.ble vs.length fn.ntmps=true:=by kernel_rfl) (hx:sxE Q (evL Q orc) fn.ntmps (bodyOf fn) (nth undef vs) G (retE Q fn.results.toList)=S false (Ex.of (E orc)):=by kernel_rfl) :
  Ref (S true e) ((E orc).cl k vs G):=fun r hr=>cl_sxE_some Q orc G hf hn hb ho hp hl hx (m r hr)
abbrev LT (orc:FuncId→Bool) (N:Nat) (c:Code) (b:LpF→LpF):Prop:=∀ lp:LpF,(∀ τ G,Ref (lp τ G) (mapE ((E orc).lp c (lst N τ) G)))→∀ (T:List Value) (G:GS),T.length=N→Ref (b lp (nth undef T) G) (mapE ((E orc).lp c T G))
theorem cL {N:Nat} {c:Code} {B:Bool→Ex→LpF→LpF} (m:∀ {lp lp':LpF},LpLe lp lp' →∀ τ G,Ref (B true e lp τ G) (B false (Ex.of (E orc)) lp' τ G))
  (hx:∀ T G,sxE Q (evL Q orc) N c (nth undef T) G (seqXE (fun τ G'=>mapE ((evL Q orc).lp c (lst N (nth undef (lst N τ))) G')) fun e τ G'=>some (e,nth undef (lst N τ),G'))=B false (Ex.of (E orc)) (fun τ G=>mapE ((E orc).lp c (lst N τ) G)) (nth undef T) G:=by intro T G; kernel_rfl) :
  LT orc N c (B true e):=fun lp hlp T G hT r hr=>lp_sxN Q orc G hT (hx T G) (m ⟨hlp⟩ _ _ r hr)
theorem cf {n f:FuncId} {vs:List Value} {G:GS} {x:Option (Value×GS)} (h:Ref x ((E orc).cl n vs G)):Ref (leaf f n x) ((E orc).cl f vs G):=Ref.leaf (y:=fun f=>(E orc).cl f vs G) h
theorem ck {j f k:Nat} {τ:Env} {G:GS} {x:Option (Exit×Env×GS)} (h:Ref x (mapE ((E orc).lp (codeAt Q f j) (lst (nOf Q f) τ) G))):Ref (leaf k j x) (mapE ((E orc).lp (codeAt Q f k) (lst (nOf Q f) τ) G)):=Ref.leaf (y:=fun k=>mapE ((E orc).lp (codeAt Q f k) (lst (nOf Q f) τ) G)) h
theorem cl' {n f k:Nat} {τ:Env} {G:GS} {x:Option (Exit×Env×GS)} (h:Ref x (mapE ((E orc).lp (codeAt Q n k) (lst (nOf Q n) τ) G))):Ref (leaf f n x) (mapE ((E orc).lp (codeAt Q f k) (lst (nOf Q f) τ) G)):=Ref.leaf (y:=fun f=>mapE ((E orc).lp (codeAt Q f k) (lst (nOf Q f) τ) G)) h
theorem Ref.gj {α:Type} {x y:Option α} (t:Ref x y:=by repeat' (with_reducible first | exact Ref.rfl' _ | exact ROp.r | refine Ref.bP ?_ fun _=>?_ | refine Ref.bS ?_ fun _ _=>?_ | exact Ref.cl (by assumption) | refine Ref.ifV ?_ ?_ | refine LpLe.rx (by assumption) ?_ | refine Ref.xitq ?_ | exact UOk.z | refine UOk.c (by assumption) ?_ | exact Ref.nil _ | refine Ref.bVe fun _ _=>?_ | refine Ref.bLq (by assumption) ?_ fun _ _ _=>?_ | refine Ref.ifE ?_ ?_ | refine Ref.chk ?_ ?_ | refine Imp.and ?_ ?_ | refine Imp.or ?_ | exact Imp.rfl' _ | refine Imp.sameO ?_ | refine Ref.gd ?_ | exact Ref.cValue (by assumption) | refine Ref.bX ?_ fun _ _ _=>?_ | exact Ref.scQ (by assumption) | exact Ref.xRangeQ (by assumption) | exact Ref.cInvoke (by assumption) | refine j0 ?_ | refine j1 ?_ | refine j2 ?_ | refine j3 ?_ | refine j4 ?_ | refine j5 ?_ | refine j6 ?_)):Ref x y:=t
instance ilp4_0:LpIs Q 4 0 (subAt [1,1,1,1,1,1,1,1,1,1,1,0,1,0,0] (bodyOf Tryz.f4)) 157:=⟨by kernel_rfl,by kernel_rfl⟩
instance ilp4_1:LpIs Q 4 1 (subAt [1,1,1,1,1,1,1,1,1,1,1,0,1,0,0,1,0,0,1,1,0,0] (bodyOf Tryz.f4)) 157:=⟨by kernel_rfl,by kernel_rfl⟩
instance ilp20_0:LpIs Q 20 0 (subAt [1,0,1,0,0] (bodyOf Tryz.f20)) 18:=⟨by kernel_rfl,by kernel_rfl⟩
instance ilp22_0:LpIs Q 22 0 (subAt [1,0,1,0,0] (bodyOf Tryz.f22)) 19:=⟨by kernel_rfl,by kernel_rfl⟩
instance ilp38_0:LpIs Q 38 0 (subAt [1,1,0,1,0,0] (bodyOf Tryz.f38)) 31:=⟨by kernel_rfl,by kernel_rfl⟩
instance ilp39_0:LpIs Q 39 0 (subAt [1,1,1,0,1,0,0] (bodyOf Tryz.f39)) 60:=⟨by kernel_rfl,by kernel_rfl⟩
instance ilp40_0:LpIs Q 40 0 (subAt [1,1,1,0,1,0,0] (bodyOf Tryz.f40)) 56:=⟨by kernel_rfl,by kernel_rfl⟩
instance ilp40_1:LpIs Q 40 1 (subAt [1,1,1,0,1,0,0,1,0,1,0,0] (bodyOf Tryz.f40)) 56:=⟨by kernel_rfl,by kernel_rfl⟩
instance ilp42_0:LpIs Q 42 0 (subAt [1,1,1,0,1,0,0] (bodyOf Tryz.f42)) 56:=⟨by kernel_rfl,by kernel_rfl⟩
instance ilp42_1:LpIs Q 42 1 (subAt [1,1,1,0,1,0,0,1,0,1,0,0] (bodyOf Tryz.f42)) 56:=⟨by kernel_rfl,by kernel_rfl⟩
instance ilp44_0:LpIs Q 44 0 (subAt [1,1,1,0,1,0,0] (bodyOf Tryz.f44)) 56:=⟨by kernel_rfl,by kernel_rfl⟩
instance ilp44_1:LpIs Q 44 1 (subAt [1,1,1,0,1,0,0,1,0,1,0,0] (bodyOf Tryz.f44)) 56:=⟨by kernel_rfl,by kernel_rfl⟩
instance ilp46_0:LpIs Q 46 0 (subAt [1,1,0,1,0,0] (bodyOf Tryz.f46)) 42:=⟨by kernel_rfl,by kernel_rfl⟩
instance ilp46_1:LpIs Q 46 1 (subAt [1,1,1,0,1,0,0] (bodyOf Tryz.f46)) 42:=⟨by kernel_rfl,by kernel_rfl⟩
instance ilp47_0:LpIs Q 47 0 (subAt [1,1,0,1,0,0] (bodyOf Tryz.f47)) 125:=⟨by kernel_rfl,by kernel_rfl⟩
instance ilp47_1:LpIs Q 47 1 (subAt [1,1,0,1,0,0,1,1,0,0,1,0,1,0,0] (bodyOf Tryz.f47)) 125:=⟨by kernel_rfl,by kernel_rfl⟩
instance ilp47_2:LpIs Q 47 2 (subAt [1,1,0,1,0,0,1,1,0,0,1,1,1,1,0,1,0,0] (bodyOf Tryz.f47)) 125:=⟨by kernel_rfl,by kernel_rfl⟩
instance ilp47_3:LpIs Q 47 3 (subAt [1,1,0,1,0,0,1,1,0,0,1,1,1,1,0,1,0,0,1,1,0,0,1,1,0,0] (bodyOf Tryz.f47)) 125:=⟨by kernel_rfl,by kernel_rfl⟩
instance ilp48_0:LpIs Q 48 0 (subAt [1,1,0,1,0,0] (bodyOf Tryz.f48)) 125:=⟨by kernel_rfl,by kernel_rfl⟩
instance ilp48_1:LpIs Q 48 1 (subAt [1,1,0,1,0,0,1,1,0,0,1,0,1,0,0] (bodyOf Tryz.f48)) 125:=⟨by kernel_rfl,by kernel_rfl⟩
instance ilp48_2:LpIs Q 48 2 (subAt [1,1,0,1,0,0,1,1,0,0,1,1,1,1,0,1,0,0] (bodyOf Tryz.f48)) 125:=⟨by kernel_rfl,by kernel_rfl⟩
instance ilp48_3:LpIs Q 48 3 (subAt [1,1,0,1,0,0,1,1,0,0,1,1,1,1,0,1,0,0,1,1,0,0,1,1,0,0] (bodyOf Tryz.f48)) 125:=⟨by kernel_rfl,by kernel_rfl⟩
instance ilp49_0:LpIs Q 49 0 (subAt [1,1,0,1,0,0] (bodyOf Tryz.f49)) 125:=⟨by kernel_rfl,by kernel_rfl⟩
instance ilp49_1:LpIs Q 49 1 (subAt [1,1,0,1,0,0,1,1,0,0,1,0,1,0,0] (bodyOf Tryz.f49)) 125:=⟨by kernel_rfl,by kernel_rfl⟩
instance ilp49_2:LpIs Q 49 2 (subAt [1,1,0,1,0,0,1,1,0,0,1,1,1,1,0,1,0,0] (bodyOf Tryz.f49)) 125:=⟨by kernel_rfl,by kernel_rfl⟩
instance ilp49_3:LpIs Q 49 3 (subAt [1,1,0,1,0,0,1,1,0,0,1,1,1,1,0,1,0,0,1,1,0,0,1,1,0,0] (bodyOf Tryz.f49)) 125:=⟨by kernel_rfl,by kernel_rfl⟩
instance ilp99_0:LpIs Q 99 0 (subAt [1,1,0,1,0,0] (bodyOf Tryz.f99)) 25:=⟨by kernel_rfl,by kernel_rfl⟩
instance ilp101_0:LpIs Q 101 0 (subAt [1,0,1,0,0] (bodyOf Tryz.f101)) 25:=⟨by kernel_rfl,by kernel_rfl⟩
instance ilp102_0:LpIs Q 102 0 (subAt [1,1,0,1,0,0] (bodyOf Tryz.f102)) 40:=⟨by kernel_rfl,by kernel_rfl⟩
instance ilp114_0:LpIs Q 114 0 (subAt [1,1,1,0,1,0,0] (bodyOf Tryz.f114)) 26:=⟨by kernel_rfl,by kernel_rfl⟩
instance ilp116_0:LpIs Q 116 0 (subAt [1,0,1,0,0] (bodyOf Tryz.f116)) 19:=⟨by kernel_rfl,by kernel_rfl⟩
instance ilp125_0:LpIs Q 125 0 (subAt [1,1,0,1,0,0] (bodyOf Tryz.f125)) 23:=⟨by kernel_rfl,by kernel_rfl⟩
instance ilp126_0:LpIs Q 126 0 (subAt [1,1,0,1,0,0] (bodyOf Tryz.f126)) 29:=⟨by kernel_rfl,by kernel_rfl⟩
instance ilp176_0:LpIs Q 176 0 (subAt [1,1,0,1,0,0] (bodyOf Tryz.f176)) 16:=⟨by kernel_rfl,by kernel_rfl⟩
instance ilp177_0:LpIs Q 177 0 (subAt [1,1,0,1,0,0] (bodyOf Tryz.f177)) 19:=⟨by kernel_rfl,by kernel_rfl⟩
instance ilp181_0:LpIs Q 181 0 (subAt [1,0,1,0,0] (bodyOf Tryz.f181)) 32:=⟨by kernel_rfl,by kernel_rfl⟩
instance ilp181_1:LpIs Q 181 1 (subAt [1,1,0,1,0,0] (bodyOf Tryz.f181)) 32:=⟨by kernel_rfl,by kernel_rfl⟩
instance ilp185_0:LpIs Q 185 0 (subAt [1,0,1,0,0] (bodyOf Tryz.f185)) 19:=⟨by kernel_rfl,by kernel_rfl⟩
instance ilp194_0:LpIs Q 194 0 (subAt [1,1,0,0,0] (bodyOf Tryz.f194)) 44:=⟨by kernel_rfl,by kernel_rfl⟩
instance ilp226_0:LpIs Q 226 0 (subAt [1,1,1,1,1,0,1,0,0] (bodyOf Tryz.f226)) 120:=⟨by kernel_rfl,by kernel_rfl⟩
instance ilp226_1:LpIs Q 226 1 (subAt [1,1,1,1,1,0,1,0,0,1,1,0,0,1,1,1,0,0] (bodyOf Tryz.f226)) 120:=⟨by kernel_rfl,by kernel_rfl⟩
instance ilp232_0:LpIs Q 232 0 (subAt [1,1,1,1,1,0,1,0,0] (bodyOf Tryz.f232)) 120:=⟨by kernel_rfl,by kernel_rfl⟩
instance ilp232_1:LpIs Q 232 1 (subAt [1,1,1,1,1,0,1,0,0,1,1,0,0,1,1,1,0,0] (bodyOf Tryz.f232)) 120:=⟨by kernel_rfl,by kernel_rfl⟩
instance ilp234_0:LpIs Q 234 0 (subAt [1,1,1,1,1,0,1,0,0] (bodyOf Tryz.f234)) 120:=⟨by kernel_rfl,by kernel_rfl⟩
instance ilp234_1:LpIs Q 234 1 (subAt [1,1,1,1,1,0,1,0,0,1,1,0,0,1,1,1,0,0] (bodyOf Tryz.f234)) 120:=⟨by kernel_rfl,by kernel_rfl⟩
instance ilp236_0:LpIs Q 236 0 (subAt [1,0,0] (bodyOf Tryz.f236)) 25:=⟨by kernel_rfl,by kernel_rfl⟩
instance ilp236_1:LpIs Q 236 1 (subAt [1,0,0,1,1,0,0,1,0,0] (bodyOf Tryz.f236)) 25:=⟨by kernel_rfl,by kernel_rfl⟩
abbrev z24:List Value:=[(.int .i64 0),(.int .i64 0),(.int .i64 0),(.int .u64 0)]
instance ibd24_0:BdOk Q 24 z24 [(0,0,1)]:=bd_ok Q (by kernel_rfl) (by kernel_rfl) (by kernel_rfl)
abbrev z27:List Value:=[(.int .i64 0),(.int .i64 0),(.int .u64 0)]
instance ibd27_2:BdOk Q 27 z27 [(2,2,1)]:=bd_ok Q (by kernel_rfl) (by kernel_rfl) (by kernel_rfl)
abbrev z29:List Value:=[(.int .i64 0),(.int .i64 0),(.int .i64 0),(.int .i64 0),(.int .i64 0),(.int .i64 0),(.int .u64 0),(.int .i64 0),(.int .i64 0),(.int .u64 0)]
instance ial29:AlOk Q 29 z29:=⟨fun G=>by kernel_rfl⟩
instance ist29:StOk Q 29 10:=⟨fun b o s v G=>by kernel_rfl⟩
instance ibd27_:BdOk Q 27 z27 []:=bd_ok Q (by kernel_rfl) (by kernel_rfl) (by kernel_rfl)
instance ilda29:LdAOk Q 29 10:=⟨fun b o s G=>by kernel_rfl⟩
instance ibs38_4_0_1_2_3:BsOk Q 38 4 (rep z29 4) 10 [(0,0,10),(1,10,10),(2,20,10),(3,30,10)]:=bs_ok Q (z0:=z29) (by kernel_rfl) rfl (by decide) (by kernel_rfl)
abbrev z3:List Value:=[(.int .i64 0)]
instance ibs35_3_0_1_2:BsOk Q 35 3 (rep z3 3) 1 [(0,0,1),(1,1,1),(2,2,1)]:=bs_ok Q (z0:=z3) (by kernel_rfl) rfl (by decide) (by kernel_rfl)
instance ibs38_3_0_1_2:BsOk Q 38 3 (rep z29 3) 10 [(0,0,10),(1,10,10),(2,20,10)]:=bs_ok Q (z0:=z29) (by kernel_rfl) rfl (by decide) (by kernel_rfl)
instance ibs38_2_0_1:BsOk Q 38 2 (rep z29 2) 10 [(0,0,10),(1,10,10)]:=bs_ok Q (z0:=z29) (by kernel_rfl) rfl (by decide) (by kernel_rfl)
instance imk38:MkSlOk Q 38 10 80 z29:=⟨fun k k' l c G=>by kernel_rfl⟩
instance ibs38_1_0:BsOk Q 38 1 (rep z29 1) 10 [(0,0,10)]:=bs_ok Q (z0:=z29) (by kernel_rfl) rfl (by decide) (by kernel_rfl)
instance ibs35_2_0_1:BsOk Q 35 2 (rep z3 2) 1 [(0,0,1),(1,1,1)]:=bs_ok Q (z0:=z3) (by kernel_rfl) rfl (by decide) (by kernel_rfl)
instance ibs35_1_0:BsOk Q 35 1 (rep z3 1) 1 [(0,0,1)]:=bs_ok Q (z0:=z3) (by kernel_rfl) rfl (by decide) (by kernel_rfl)
instance iln38:LnOk Q 38:=⟨fun a n c=>by kernel_rfl⟩
instance ifa29_2:FaOk Q 29 2 2:=⟨fun b o s=>by kernel_rfl⟩
instance ist3:StOk Q 3 1:=⟨fun b o s v G=>by kernel_rfl⟩
instance ibs38_0_:BsOk Q 38 0 (rep z29 0) 10 []:=bs_ok Q (z0:=z29) (by kernel_rfl) rfl (by decide) (by kernel_rfl)
instance iap38_38:ApOk Q 38 38 10 80:=⟨fun s x G=>by kernel_rfl⟩
instance iln35:LnOk Q 35:=⟨fun a n c=>by kernel_rfl⟩
instance iias38:IasOk Q 38 10:=⟨fun b o s n c k j=>by kernel_rfl⟩
instance ild3:LdOk Q 3:=⟨fun b o s G=>(show _=loadOne b o G by kernel_rfl).trans (loadOne_eq b o G)⟩
instance ifa29_0:FaOk Q 29 0 0:=⟨fun b o s=>by kernel_rfl⟩
instance ilda24:LdAOk Q 24 4:=⟨fun b o s G=>by kernel_rfl⟩
instance ilda27:LdAOk Q 27 3:=⟨fun b o s G=>by kernel_rfl⟩
instance ibd29_0_1_2_3_4:BdOk Q 29 z29 [(0,0,1),(1,1,1),(2,2,1),(3,3,4),(4,7,3)]:=bd_ok Q (by kernel_rfl) (by kernel_rfl) (by kernel_rfl)
instance ieb4:EbOk Q 4:=⟨fun neg x y a b=>by cases neg<;>cases a<;>cases b<;>kernel_rfl⟩
instance ibd24_0_3:BdOk Q 24 z24 [(0,0,1),(3,3,1)]:=bd_ok Q (by kernel_rfl) (by kernel_rfl) (by kernel_rfl)
instance iias35:IasOk Q 35 1:=⟨fun b o s n c k j=>by kernel_rfl⟩
instance ifa29_1:FaOk Q 29 1 1:=⟨fun b o s=>by kernel_rfl⟩
instance ilda104:LdAOk Q 104 4:=⟨fun b o s G=>by kernel_rfl⟩
instance iap35_35:ApOk Q 35 35 1 8:=⟨fun s x G=>by kernel_rfl⟩
abbrev z104:List Value:=[(.slice none 0 0),.nilFunc,.nilFunc,.nilFunc]
instance ial104:AlOk Q 104 z104:=⟨fun G=>by kernel_rfl⟩
instance ibd104_1_2_3:BdOk Q 104 z104 [(1,1,1),(2,2,1),(3,3,1)]:=bd_ok Q (by kernel_rfl) (by kernel_rfl) (by kernel_rfl)
instance ist104:StOk Q 104 4:=⟨fun b o s v G=>by kernel_rfl⟩
instance ilda112:LdAOk Q 112 4:=⟨fun b o s G=>by kernel_rfl⟩
abbrev z112:List Value:=[(.slice none 0 0),.nilFunc,.nilFunc,.nilFunc]
instance ial112:AlOk Q 112 z112:=⟨fun G=>by kernel_rfl⟩
instance ibd112_1_2_3:BdOk Q 112 z112 [(1,1,1),(2,2,1),(3,3,1)]:=bd_ok Q (by kernel_rfl) (by kernel_rfl) (by kernel_rfl)
instance ist112:StOk Q 112 4:=⟨fun b o s v G=>by kernel_rfl⟩
instance ilda119:LdAOk Q 119 4:=⟨fun b o s G=>by kernel_rfl⟩
abbrev z119:List Value:=[(.slice none 0 0),.nilFunc,.nilFunc,.nilFunc]
instance ial119:AlOk Q 119 z119:=⟨fun G=>by kernel_rfl⟩
instance ibd119_0_1_2_3:BdOk Q 119 z119 [(0,0,1),(1,1,1),(2,2,1),(3,3,1)]:=bd_ok Q (by kernel_rfl) (by kernel_rfl) (by kernel_rfl)
instance ist119:StOk Q 119 4:=⟨fun b o s v G=>by kernel_rfl⟩
instance ial3:AlOk Q 3 z3:=⟨fun G=>by kernel_rfl⟩
instance isl35:SlOk Q 35 1:=⟨fun a n c lo hi mx G=>sl_eq Q (e:=3) (by kernel_rfl) (by kernel_rfl) a n c lo hi mx G⟩
instance ifa104_0:FaOk Q 104 0 0:=⟨fun b o s=>by kernel_rfl⟩
instance ild74:LdOk Q 74:=⟨fun b o s G=>(show _=loadOne b o G by kernel_rfl).trans (loadOne_eq b o G)⟩
abbrev z74:List Value:=[(.slice none 0 0)]
instance ibs189_1_0:BsOk Q 189 1 (rep z74 1) 1 [(0,0,1)]:=bs_ok Q (z0:=z74) (by kernel_rfl) rfl (by decide) (by kernel_rfl)
instance iln189:LnOk Q 189:=⟨fun a n c=>by kernel_rfl⟩
instance iias189:IasOk Q 189 1:=⟨fun b o s n c k j=>by kernel_rfl⟩
instance iln180:LnOk Q 180:=⟨fun a n c=>by kernel_rfl⟩
instance iias180:IasOk Q 180 3:=⟨fun b o s n c k j=>by kernel_rfl⟩
instance ial27:AlOk Q 27 z27:=⟨fun G=>by kernel_rfl⟩
instance ist27:StOk Q 27 3:=⟨fun b o s v G=>by kernel_rfl⟩
instance ifa104_1:FaOk Q 104 1 1:=⟨fun b o s=>by kernel_rfl⟩
instance ild100:LdOk Q 100:=⟨fun b o s G=>(show _=loadOne b o G by kernel_rfl).trans (loadOne_eq b o G)⟩
instance ifa29_3:FaOk Q 29 3 3:=⟨fun b o s=>by kernel_rfl⟩
instance ifa104_3:FaOk Q 104 3 3:=⟨fun b o s=>by kernel_rfl⟩
instance ild102:LdOk Q 102:=⟨fun b o s G=>(show _=loadOne b o G by kernel_rfl).trans (loadOne_eq b o G)⟩
instance iap189_189:ApOk Q 189 189 1 24:=⟨fun s x G=>by kernel_rfl⟩
instance ifa112_0:FaOk Q 112 0 0:=⟨fun b o s=>by kernel_rfl⟩
instance ild107:LdOk Q 107:=⟨fun b o s G=>(show _=loadOne b o G by kernel_rfl).trans (loadOne_eq b o G)⟩
abbrev z107:List Value:=[(.slice none 0 0)]
instance ibs192_1_0:BsOk Q 192 1 (rep z107 1) 1 [(0,0,1)]:=bs_ok Q (z0:=z107) (by kernel_rfl) rfl (by decide) (by kernel_rfl)
instance iln192:LnOk Q 192:=⟨fun a n c=>by kernel_rfl⟩
instance iias192:IasOk Q 192 1:=⟨fun b o s n c k j=>by kernel_rfl⟩
instance ifa112_1:FaOk Q 112 1 1:=⟨fun b o s=>by kernel_rfl⟩
instance ild108:LdOk Q 108:=⟨fun b o s G=>(show _=loadOne b o G by kernel_rfl).trans (loadOne_eq b o G)⟩
instance ifa112_3:FaOk Q 112 3 3:=⟨fun b o s=>by kernel_rfl⟩
instance ild110:LdOk Q 110:=⟨fun b o s G=>(show _=loadOne b o G by kernel_rfl).trans (loadOne_eq b o G)⟩
instance iap192_192:ApOk Q 192 192 1 24:=⟨fun s x G=>by kernel_rfl⟩
instance ifa119_0:FaOk Q 119 0 0:=⟨fun b o s=>by kernel_rfl⟩
instance ild35:LdOk Q 35:=⟨fun b o s G=>(show _=loadOne b o G by kernel_rfl).trans (loadOne_eq b o G)⟩
abbrev z35:List Value:=[(.slice none 0 0)]
instance ibs85_1_0:BsOk Q 85 1 (rep z35 1) 1 [(0,0,1)]:=bs_ok Q (z0:=z35) (by kernel_rfl) rfl (by decide) (by kernel_rfl)
instance iln85:LnOk Q 85:=⟨fun a n c=>by kernel_rfl⟩
instance iias85:IasOk Q 85 1:=⟨fun b o s n c k j=>by kernel_rfl⟩
instance ifa119_1:FaOk Q 119 1 1:=⟨fun b o s=>by kernel_rfl⟩
instance ild115:LdOk Q 115:=⟨fun b o s G=>(show _=loadOne b o G by kernel_rfl).trans (loadOne_eq b o G)⟩
instance ifa119_3:FaOk Q 119 3 3:=⟨fun b o s=>by kernel_rfl⟩
instance ild117:LdOk Q 117:=⟨fun b o s G=>(show _=loadOne b o G by kernel_rfl).trans (loadOne_eq b o G)⟩
instance iap85_85:ApOk Q 85 85 1 24:=⟨fun s x G=>by kernel_rfl⟩
instance ifa24_0:FaOk Q 24 0 0:=⟨fun b o s=>by kernel_rfl⟩
abbrev z206:List Value:=[.nilFunc,.nilFunc,.nilFunc]
instance ial206:AlOk Q 206 z206:=⟨fun G=>by kernel_rfl⟩
instance ist206:StOk Q 206 3:=⟨fun b o s v G=>by kernel_rfl⟩
instance iiaa206:IaaOk Q 206 3 1:=⟨fun b o s k j=>by kernel_rfl⟩
instance ild129:LdOk Q 129:=⟨fun b o s G=>(show _=loadOne b o G by kernel_rfl).trans (loadOne_eq b o G)⟩
instance ifa27_0:FaOk Q 27 0 0:=⟨fun b o s=>by kernel_rfl⟩
instance ild25:LdOk Q 25:=⟨fun b o s G=>(show _=loadOne b o G by kernel_rfl).trans (loadOne_eq b o G)⟩
instance isl107:SlOk Q 107 2:=⟨fun a n c lo hi mx G=>sl_eq Q (e:=184) (by kernel_rfl) (by kernel_rfl) a n c lo hi mx G⟩
instance ifa24_3:FaOk Q 24 3 3:=⟨fun b o s=>by kernel_rfl⟩
instance ild22:LdOk Q 22:=⟨fun b o s G=>(show _=loadOne b o G by kernel_rfl).trans (loadOne_eq b o G)⟩
instance ifa24_1:FaOk Q 24 1 1:=⟨fun b o s=>by kernel_rfl⟩
abbrev z184:List Value:=[(.int .u64 0),(.int .i64 0)]
instance ibd184_0_1:BdOk Q 184 z184 [(0,0,1),(1,1,1)]:=bd_ok Q (by kernel_rfl) (by kernel_rfl) (by kernel_rfl)
instance ibs107_1_0:BsOk Q 107 1 (rep z184 1) 2 [(0,0,2)]:=bs_ok Q (z0:=z184) (by kernel_rfl) rfl (by decide) (by kernel_rfl)
instance iap107_107:ApOk Q 107 107 2 16:=⟨fun s x G=>by kernel_rfl⟩
instance ies35:EsOk Q 35:=⟨fun neg x y=>by cases neg<;>kernel_rfl,fun neg x y a n c=>by cases neg<;>kernel_rfl⟩
instance ibs35_0_:BsOk Q 35 0 (rep z3 0) 1 []:=bs_ok Q (z0:=z3) (by kernel_rfl) rfl (by decide) (by kernel_rfl)
abbrev z4:List Value:=[(.bool false)]
instance ial4:AlOk Q 4 z4:=⟨fun G=>by kernel_rfl⟩
instance ist4:StOk Q 4 1:=⟨fun b o s v G=>by kernel_rfl⟩
instance ild4:LdOk Q 4:=⟨fun b o s G=>(show _=loadOne b o G by kernel_rfl).trans (loadOne_eq b o G)⟩
instance ibs180_1_0:BsOk Q 180 1 (rep z27 1) 3 [(0,0,3)]:=bs_ok Q (z0:=z27) (by kernel_rfl) rfl (by decide) (by kernel_rfl)
instance iln74:LnOk Q 74:=⟨fun a n c=>by kernel_rfl⟩
instance iias74:IasOk Q 74 1:=⟨fun b o s n c k j=>by kernel_rfl⟩
abbrev z5:List Value:=[(.int .u8 0)]
instance ibs181_1_0:BsOk Q 181 1 (rep z5 1) 1 [(0,0,1)]:=bs_ok Q (z0:=z5) (by kernel_rfl) rfl (by decide) (by kernel_rfl)
instance iap181_181:ApOk Q 181 181 1 1:=⟨fun s x G=>by kernel_rfl⟩
instance iln107:LnOk Q 107:=⟨fun a n c=>by kernel_rfl⟩
instance iias107:IasOk Q 107 2:=⟨fun b o s n c k j=>by kernel_rfl⟩
instance ifa184_1:FaOk Q 184 1 1:=⟨fun b o s=>by kernel_rfl⟩
instance ifa184_0:FaOk Q 184 0 0:=⟨fun b o s=>by kernel_rfl⟩
instance ibd27_1_2:BdOk Q 27 z27 [(1,1,1),(2,2,1)]:=bd_ok Q (by kernel_rfl) (by kernel_rfl) (by kernel_rfl)
instance ilda184:LdAOk Q 184 2:=⟨fun b o s G=>by kernel_rfl⟩
instance ial184:AlOk Q 184 z184:=⟨fun G=>by kernel_rfl⟩
instance ist184:StOk Q 184 2:=⟨fun b o s v G=>by kernel_rfl⟩
abbrev z276:List Value:=[(.int .u64 0),(.int .u64 0),(.int .u64 0),(.int .u64 0),(.int .u64 0),(.int .u64 0),(.int .u64 0),(.int .u64 0),(.int .u64 0),(.int .u64 0),(.int .u64 0),(.int .u64 0),(.int .u64 0),(.int .u64 0),(.int .u64 0),(.int .u64 0)]
instance ial276:AlOk Q 276 z276:=⟨fun G=>by kernel_rfl⟩
instance ist276:StOk Q 276 16:=⟨fun b o s v G=>by kernel_rfl⟩
instance ilda276:LdAOk Q 276 16:=⟨fun b o s G=>by kernel_rfl⟩
instance ibd27_0:BdOk Q 27 z27 [(0,0,1)]:=bd_ok Q (by kernel_rfl) (by kernel_rfl) (by kernel_rfl)
instance ifa27_1:FaOk Q 27 1 1:=⟨fun b o s=>by kernel_rfl⟩
instance ibd27_1:BdOk Q 27 z27 [(1,1,1)]:=bd_ok Q (by kernel_rfl) (by kernel_rfl) (by kernel_rfl)
instance iap180_180:ApOk Q 180 180 3 24:=⟨fun s x G=>by kernel_rfl⟩
instance ifa29_4:FaOk Q 29 4 7:=⟨fun b o s=>by kernel_rfl⟩
instance ifa104_2:FaOk Q 104 2 2:=⟨fun b o s=>by kernel_rfl⟩
instance ild101:LdOk Q 101:=⟨fun b o s G=>(show _=loadOne b o G by kernel_rfl).trans (loadOne_eq b o G)⟩
instance ifa112_2:FaOk Q 112 2 2:=⟨fun b o s=>by kernel_rfl⟩
instance ild109:LdOk Q 109:=⟨fun b o s G=>(show _=loadOne b o G by kernel_rfl).trans (loadOne_eq b o G)⟩
instance ifa119_2:FaOk Q 119 2 2:=⟨fun b o s=>by kernel_rfl⟩
instance ild116:LdOk Q 116:=⟨fun b o s G=>(show _=loadOne b o G by kernel_rfl).trans (loadOne_eq b o G)⟩
instance ifa202_2:FaOk Q 202 2 1025:=⟨fun b o s=>by kernel_rfl⟩
instance ilda202:LdAOk Q 202 1026:=⟨fun b o s G=>by kernel_rfl⟩
instance ifa27_2:FaOk Q 27 2 2:=⟨fun b o s=>by kernel_rfl⟩
instance ist22:StOk Q 22 1:=⟨fun b o s v G=>by kernel_rfl⟩
abbrev z202:List Value:=(zs 1024 (.int .u64 0)++[(.int .i64 0),(.int .i64 0)])
instance ial202:AlOk Q 202 z202:=⟨fun G=>by kernel_rfl⟩
instance ifa202_0:FaOk Q 202 0 0:=⟨fun b o s=>by kernel_rfl⟩
instance isla200:SlAOk Q 200 1024 1:=⟨fun a lo hi mx G=>by kernel_rfl⟩
instance icp74:CpOk Q 74 1:=⟨fun d s G=>by kernel_rfl⟩
instance ist202:StOk Q 202 1026:=⟨fun b o s v G=>by kernel_rfl⟩
instance ifa202_1:FaOk Q 202 1 1024:=⟨fun b o s=>by kernel_rfl⟩
instance iiaa200:IaaOk Q 200 1024 1:=⟨fun b o s k j=>by kernel_rfl⟩
abbrev z22:List Value:=[(.int .u64 0)]
instance ibs74_1_0:BsOk Q 74 1 (rep z22 1) 1 [(0,0,1)]:=bs_ok Q (z0:=z22) (by kernel_rfl) rfl (by decide) (by kernel_rfl)
instance iap74_74:ApOk Q 74 74 1 8:=⟨fun s x G=>by kernel_rfl⟩
instance ibd206_0_1_2:BdOk Q 206 z206 [(0,0,1),(1,1,1),(2,2,1)]:=bd_ok Q (by kernel_rfl) (by kernel_rfl) (by kernel_rfl)
instance ilda206:LdAOk Q 206 3:=⟨fun b o s G=>by kernel_rfl⟩
instance ies107:EsOk Q 107:=⟨fun neg x y=>by cases neg<;>kernel_rfl,fun neg x y a n c=>by cases neg<;>kernel_rfl⟩
instance ibs107_0_:BsOk Q 107 0 (rep z184 0) 2 []:=bs_ok Q (z0:=z184) (by kernel_rfl) rfl (by decide) (by kernel_rfl)
instance iiaa276:IaaOk Q 276 16 1:=⟨fun b o s k j=>by kernel_rfl⟩
instance ial35:AlOk Q 35 z35:=⟨fun G=>by kernel_rfl⟩
instance ist35:StOk Q 35 1:=⟨fun b o s v G=>by kernel_rfl⟩
abbrev z320:List Value:=[(.map none)]
instance ial320:AlOk Q 320 z320:=⟨fun G=>by kernel_rfl⟩
instance ist320:StOk Q 320 1:=⟨fun b o s v G=>by kernel_rfl⟩
abbrev z321:List Value:=[.nilFunc]
instance ial321:AlOk Q 321 z321:=⟨fun G=>by kernel_rfl⟩
instance ist321:StOk Q 321 1:=⟨fun b o s v G=>by kernel_rfl⟩
instance ild321:LdOk Q 321:=⟨fun b o s G=>(show _=loadOne b o G by kernel_rfl).trans (loadOne_eq b o G)⟩
instance ild38:LdOk Q 38:=⟨fun b o s G=>(show _=loadOne b o G by kernel_rfl).trans (loadOne_eq b o G)⟩
instance ild55:LdOk Q 55:=⟨fun b o s G=>(show _=loadOne b o G by kernel_rfl).trans (loadOne_eq b o G)⟩
abbrev z323:List Value:=[(.int .i64 0),(.string ⟨#[]⟩)]
instance ibd323_0_1:BdOk Q 323 z323 [(0,0,1),(1,1,1)]:=bd_ok Q (by kernel_rfl) (by kernel_rfl) (by kernel_rfl)
instance ial323:AlOk Q 323 z323:=⟨fun G=>by kernel_rfl⟩
instance ist323:StOk Q 323 2:=⟨fun b o s v G=>by kernel_rfl⟩
instance ild320:LdOk Q 320:=⟨fun b o s G=>(show _=loadOne b o G by kernel_rfl).trans (loadOne_eq b o G)⟩
instance ilda323:LdAOk Q 323 2:=⟨fun b o s G=>by kernel_rfl⟩
abbrev z324:List Value:=[]
instance ial324:AlOk Q 324 z324:=⟨fun G=>by kernel_rfl⟩
instance ist324:StOk Q 324 0:=⟨fun b o s v G=>by kernel_rfl⟩
instance ibd324_:BdOk Q 324 z324 []:=bd_ok Q (by kernel_rfl) (by kernel_rfl) (by kernel_rfl)
abbrev z331:List Value:=[.nilFunc]
instance ial331:AlOk Q 331 z331:=⟨fun G=>by kernel_rfl⟩
instance ist331:StOk Q 331 1:=⟨fun b o s v G=>by kernel_rfl⟩
instance ild331:LdOk Q 331:=⟨fun b o s G=>(show _=loadOne b o G by kernel_rfl).trans (loadOne_eq b o G)⟩
abbrev z332:List Value:=[.nilFunc]
instance ial332:AlOk Q 332 z332:=⟨fun G=>by kernel_rfl⟩
instance ist332:StOk Q 332 1:=⟨fun b o s v G=>by kernel_rfl⟩
instance ild332:LdOk Q 332:=⟨fun b o s G=>(show _=loadOne b o G by kernel_rfl).trans (loadOne_eq b o G)⟩
instance iix276:IxOk Q 276 16:=⟨fun l k j=>by kernel_rfl⟩
instance iiaa354:IaaOk Q 354 64 1:=⟨fun b o s k j=>by kernel_rfl⟩
instance ild5:LdOk Q 5:=⟨fun b o s G=>(show _=loadOne b o G by kernel_rfl).trans (loadOne_eq b o G)⟩
instance icv5_3:CvOk Q 5 3 .u8 .i64:=⟨fun n=>by kernel_rfl⟩
def s3 (q:Bool) (e:Ex) (G:GS):OG :=
 bP (bd Q q 24 z24 [(0,0,1)] [(.int .i64 6)]) fun x0 =>
 bP (bd Q q 27 z27 [(2,2,1)] [(.int .u64 3)]) fun x1 =>
 bS (e.ev.cl 9 [(.int .i64 4),(.int .i64 5),(.int .i64 6),x0,x1] G) fun x2 G3 =>
 bS (al Q q 29 z29 G3) fun x4 G5 =>
 bP (st Q q 29 10 x4 x2 G5) fun G6 =>
 bP (bd Q q 24 z24 [(0,0,1)] [(.int .i64 8)]) fun x7 =>
 bP (bd Q q 27 z27 [] []) fun x8 =>
 bS (e.ev.cl 9 [(.int .i64 3),(.int .i64 2),(.int .i64 (-1)),x7,x8] G6) fun x9 G10 =>
 bS (al Q q 29 z29 G10) fun x11 G12 =>
 bP (st Q q 29 10 x11 x9 G12) fun G13 =>
 bS (e.ev.cl 12 [(.int .i64 1),(.int .i64 0),(.int .i64 9),(.int .u64 4)] (G13.room 25)) fun x15 G14 =>
 bS (e.ev.cl 12 [(.int .i64 2),(.int .i64 1),(.int .i64 2),(.int .u64 3)] G14) fun x17 G16 =>
 bS (e.ev.cl 13 [] G16) fun x19 G18 =>
 bP (lda Q q 29 10 x4 G18) fun x20 =>
 chk ((sameO (lda Q q 29 10 x4 G16) x20&&(sameO (lda Q q 29 10 x4 G14) x20&&(sameO (lda Q q 29 10 x4 (G13.room 25)) x20&&true)))) <|
 bS (bs Q q 38 4 (rep z29 4) 10 [(0,0,10),(1,10,10),(2,20,10),(3,30,10)] [x15,x17,x19,x20] (G18.at' (G13.nx+4))) fun x21 G22 =>
 bS (e.ev.cl 11 [(.int .i64 2),(.int .i64 1),(.slice none 0 0),x21] (G22.back G18)) fun x24 G23 =>
 bS (gd x24 true (bS (bs Q q 35 3 (rep z3 3) 1 [(0,0,1),(1,1,1),(2,2,1)] [(.int .i64 1),(.int .i64 3),(.int .i64 2)] (G23.at' (G13.nx+7))) fun y G'=>some (y,(G'.back G23))) G23) fun x25 G26 =>
 bS (gd x24 true (some ((.func (.func 10) #[] #[]),G26)) G26) fun x27 _ =>
 bS (gS x24 true (cValue e.ev x27 [(.int .i64 1),(.int .i64 0),(.int .i64 1)] G26) G26) fun x29 G28 =>
 bS (gd x24 true (some ((.func (.func 10) #[] #[]),G28)) G28) fun x30 _ =>
 bS (gS x24 true (cValue e.ev x30 [(.int .i64 2),(.int .i64 4),(.int .i64 5)] G28) G28) fun x32 G31 =>
 bS (gP x24 true (lda Q q 29 10 x11 G31) G31) fun x33 _ =>
 chk (((!(gB x24 true)||(!(gB x24 true)||sameO (lda Q q 29 10 x11 G28) x33))&&((!(gB x24 true)||(!(gB x24 true)||sameO (lda Q q 29 10 x11 G26) x33))&&true))) <|
 bS (gd x24 true (bS (bs Q q 38 3 (rep z29 3) 10 [(0,0,10),(1,10,10),(2,20,10)] [x29,x32,x33] (G31.at' (G13.nx+13))) fun y G'=>some (y,(G'.back G31))) G31) fun x34 G35 =>
 bS (gS x24 true (e.ev.cl 11 [(.int .i64 3),(.int .i64 1),x25,x34] G35) G35) fun x37 G36 =>
 bP (pickV x24 x37 (.bool false)) fun x38 =>
 bS (gd x38 true (some ((.func (.func 10) #[] #[]),G36)) G36) fun x39 _ =>
 bS (gS x38 true (cValue e.ev x39 [(.int .i64 1),(.int .i64 0),(.int .i64 1)] G36) G36) fun x41 G40 =>
 bS (gd x38 true (some ((.func (.func 10) #[] #[]),G40)) G40) fun x42 _ =>
 bS (gS x38 true (cValue e.ev x42 [(.int .i64 2),(.int .i64 4),(.int .i64 5)] G40) G40) fun x44 G43 =>
 bS (gd x38 true (bS (bs Q q 38 2 (rep z29 2) 10 [(0,0,10),(1,10,10)] [x41,x44] (G43.at' (G13.nx+21))) fun y G'=>some (y,(G'.back G43))) G43) fun x45 G46 =>
 bS (gS x38 true (e.ev.cl 11 [(.int .i64 3),(.int .i64 1),(.slice none 0 0),x45] G46) G46) fun x48 G47 =>
 bP (pickV x38 x48 (.bool false)) fun x49 =>
 bS (e.ev.cl 14 [(.int .i64 4),(.int .i64 1),(.slice none 0 0)] G47) fun x50 G51 =>
 bP (pExtract x50 0) fun x52 =>
 bP (pExtract x50 1) fun x53 =>
 bP (pExtract x50 2) fun x54 =>
 bS (e.ev.cl 14 [(.int .i64 1),(.int .i64 0),(.slice none 0 0)] G51) fun x55 G56 =>
 bP (pExtract x55 0) fun x57 =>
 bP (pExtract x55 1) fun x58 =>
 bP (pExtract x55 2) fun x59 =>
 bS (mk Q q 38 10 80 z29 (.int .i64 11) (.int .i64 11) G56) fun x60 G61 =>
 bS (e.ev.cl 14 [(.int .i64 1),(.int .i64 1),x60] G61) fun x62 G63 =>
 bP (pExtract x62 0) fun x64 =>
 bP (pExtract x62 1) fun x65 =>
 bP (pExtract x62 2) fun x66 =>
 bS (mk Q q 38 10 80 z29 (.int .i64 2) (.int .i64 2) G63) fun x67 G68 =>
 bS (e.ev.cl 14 [(.int .i64 1),(.int .i64 1),x67] G68) fun x69 G70 =>
 bP (pExtract x69 0) fun x71 =>
 bP (pExtract x69 1) fun x72 =>
 bP (pExtract x69 2) fun x73 =>
 bS (e.ev.cl 15 [(.int .i64 1)] G70) fun x74 G75 =>
 bS (e.ev.cl 15 [(.int .i64 2)] G75) fun x76 G77 =>
 bS (e.ev.cl 15 [(.int .i64 3)] G77) fun x78 G79 =>
 bS (bs Q q 38 3 (rep z29 3) 10 [(0,0,10),(1,10,10),(2,20,10)] [x74,x76,x78] G79) fun x80 G81 =>
 bS (e.ev.cl 14 [(.int .i64 3),(.int .i64 4),x80] G81) fun x82 G83 =>
 bP (pExtract x82 0) fun x84 =>
 bP (pExtract x82 1) fun x85 =>
 bP (pExtract x82 2) fun x86 =>
 bS (e.ev.cl 17 [(.int .i64 0),(.int .i64 3)] G83) fun x87 G88 =>
 bS (bs Q q 38 1 (rep z29 1) 10 [(0,0,10)] [x87] G88) fun x89 G90 =>
 bS (bs Q q 35 2 (rep z3 2) 1 [(0,0,1),(1,1,1)] [(.int .i64 1),(.int .i64 1)] G90) fun x91 G92 =>
 bS (e.ev.cl 16 [(.int .i64 1),(.int .i64 2),x89,x91] G92) fun x93 G94 =>
 bP (pExtract x93 0) fun x95 =>
 bP (pExtract x93 1) fun x96 =>
 bS (e.ev.cl 17 [(.int .i64 0),(.int .i64 3)] G94) fun x97 G98 =>
 bS (bs Q q 38 1 (rep z29 1) 10 [(0,0,10)] [x97] G98) fun x99 G100 =>
 bS (bs Q q 35 1 (rep z3 1) 1 [(0,0,1)] [(.int .i64 9)] G100) fun x101 G102 =>
 bS (e.ev.cl 16 [(.int .i64 1),(.int .i64 2),x99,x101] G102) fun x103 G104 =>
 bP (pExtract x103 0) fun x105 =>
 bP (pExtract x103 1) fun x106 =>
 bS (e.ev.cl 18 [] G104) fun x107 G108 =>
 bS (gV x107 true x49 G108) fun x109 G110 =>
 bP (pickV x107 x109 (.bool false)) fun x111 =>
 bS (gV x111 true x54 G110) fun x112 G113 =>
 bS (gP x111 true (bn Q q .eql 25 (.tmp 104) (.const (.int .i64 2)) x112 (.int .i64 2)) G113) fun x114 G115 =>
 bP (pickV x111 x114 (.bool false)) fun x116 =>
 bS (gV x116 true x59 G115) fun x117 G118 =>
 bS (gP x116 true (bn Q q .eql 25 (.tmp 108) (.const (.int .i64 3)) x117 (.int .i64 3)) G118) fun x119 G120 =>
 bP (pickV x116 x119 (.bool false)) fun x121 =>
 bS (gV x121 true x66 G120) fun x122 G123 =>
 bS (gP x121 true (bn Q q .eql 25 (.tmp 112) (.const (.int .i64 4)) x122 (.int .i64 4)) G123) fun x124 G125 =>
 bP (pickV x121 x124 (.bool false)) fun x126 =>
 bS (gV x126 true x73 G125) fun x127 G128 =>
 bS (gP x126 true (bn Q q .eql 25 (.tmp 116) (.const (.int .i64 8)) x127 (.int .i64 8)) G128) fun x129 G130 =>
 bP (pickV x126 x129 (.bool false)) fun x131 =>
 bS (gV x131 true x86 G130) fun x132 G133 =>
 bS (gP x131 true (bn Q q .eql 25 (.tmp 120) (.const (.int .i64 4)) x132 (.int .i64 4)) G133) fun x134 G135 =>
 bP (pickV x131 x134 (.bool false)) fun x136 =>
 bS (gV x136 true x96 G135) fun x137 G138 =>
 bS (gP x136 true (bn Q q .eql 25 (.tmp 124) (.const (.int .i64 8)) x137 (.int .i64 8)) G138) fun x139 G140 =>
 bP (pickV x136 x139 (.bool false)) fun x141 =>
 bS (gV x141 true x106 G140) fun x142 G143 =>
 bS (gP x141 true (bn Q q .eql 25 (.tmp 128) (.const (.int .i64 10)) x142 (.int .i64 10)) G143) fun x144 G145 =>
 bP (pickV x141 x144 (.bool false)) fun x146 =>
 some (x146,G145)
theorem m3 {e:Ex} {E:Ev} (h:ExLe Q e E) (G:GS):Ref (s3 true e  G) (s3 false (Ex.of E)  G):=by
 unfold s3
 exact Ref.gq
set_option maxHeartbeats 8000000 in
theorem f3 {orc:FuncId→Bool} {e:Ex} (h:ExLe Q e (E orc)) (ho:orc 3=false) (G:GS):Ref (s3 true e  G) ((E orc).cl 3 [] G) :=
 fun r hr=>cl_sxE_some Q orc (vs:=[]) G Tryz.func3 (by kernel_rfl) (by kernel_rfl) ho (by kernel_rfl) (by kernel_rfl) (by kernel_rfl) (m3 h  G r hr)
def b4_0 (q:Bool) (e:Ex) (lp:LpF) (τ:Env) (G:GS):OL :=
 bV q (τ 2) fun a2_ =>
 bV q (τ 10) fun a10_ =>
 bV q (τ 17) fun a17_ =>
 bP (ln Q q 38 a2_) fun x0 =>
 bP (bn Q q .lss 3 (.tmp 72) (.tmp 74) a17_ x0) fun x1 =>
 ifV x1 (
 bP (ias Q q 38 10 a2_ a17_) fun x2 =>
 bP (fa Q q 29 2 2 x2) fun x3 =>
 bP (ld Q q 3 x3 G) fun x4 =>
 bP (bn Q q .geq 3 (.tmp 82) (.const (.int .i64 0)) x4 (.int .i64 0)) fun x5 =>
 bS (gV x5 true a10_ G) fun x6 G7 =>
 bS (gV x5 true a2_ G7) fun x8 G9 =>
 bS (gV x5 true a17_ G9) fun x10 G11 =>
 bS (gP x5 true (ias Q q 38 10 x8 x10) G11) fun x12 G13 =>
 bS (gP x5 true (fa Q q 29 0 0 x12) G13) fun x14 G15 =>
 bS (gP x5 true (ld Q q 3 x14 G15) G15) fun x16 G17 =>
 bS (gS x5 true (e.ev.cl 20 [x6,x16] G17) G17) fun x18 G19 =>
 bS (gP x5 true (un Q q .not x18) G19) fun x20 G21 =>
 bP (pickV x5 x20 (.bool false)) fun x22 =>
 ifV x22 (
 some (.ret,xq q 157 τ [(8,(.bool false)),(93,x22),(92,x20),(91,x18),(90,x16),(89,x14),(88,x12),(87,x10),(86,x8),(85,x6),(84,x5),(83,x5),(82,x4),(81,x3),(80,x2),(79,a17_),(78,a2_),(75,x1),(74,x0),(73,a2_),(72,a17_)] [(2,a2_),(10,a10_),(17,a17_)],G21)) (
 bLq q e 4 1 (subAt [1,1,1,1,1,1,1,1,1,1,1,0,1,0,0,1,0,0,1,1,0,0] (bodyOf Tryz.f4)) 157 τ [(18,(.int .i64 0)),(93,x22),(92,x20),(91,x18),(90,x16),(89,x14),(88,x12),(87,x10),(86,x8),(85,x6),(84,x5),(83,x5),(82,x4),(81,x3),(80,x2),(79,a17_),(78,a2_),(75,x1),(74,x0),(73,a2_),(72,a17_)] [] G21 fun e23 t24 G25 =>
 bV q (t24 2) fun t24x2_ =>
 bV q (t24 10) fun t24x10_ =>
 bV q (t24 17) fun t24x17_ =>
 ifE e23 (.exit 2) (
 bP (bn Q q .add 3 (.tmp 76) (.const (.int .i64 1)) t24x17_ (.int .i64 1)) fun x26 =>
 lp (xq q 157 t24 [(17,x26),(77,x26),(76,t24x17_)] [(2,t24x2_),(10,t24x10_)]) G25) (ifE e23 .ret (
 some (.ret,xq q 157 t24 [] [(2,t24x2_),(10,t24x10_),(17,t24x17_)],G25)) (none)))) (
 some ((.exit 0),xq q 157 τ [(75,x1),(74,x0),(73,a2_),(72,a17_)] [(2,a2_),(10,a10_),(17,a17_)],G))
theorem mb4_0 {e:Ex} {E:Ev} (h:ExLe Q e E) {lp lp':LpF} (hlp:LpLe lp lp') (τ:Env) (G:GS):Ref (b4_0 true e lp τ G) (b4_0 false (Ex.of E) lp' τ G):=by
 unfold b4_0
 exact Ref.gq
set_option maxHeartbeats 8000000 in
theorem l4_0 {orc:FuncId→Bool} {e:Ex} (h:ExLe Q e (E orc)) (lp:LpF) (hlp:∀ τ G,Ref (lp τ G) (mapE ((E orc).lp (subAt [1,1,1,1,1,1,1,1,1,1,1,0,1,0,0] (bodyOf Tryz.f4)) (lst 157 τ) G))) (T:List Value) (G:GS) (hT:T.length=157):Ref (b4_0 true e lp (nth undef T) G) (mapE ((E orc).lp (subAt [1,1,1,1,1,1,1,1,1,1,1,0,1,0,0] (bodyOf Tryz.f4)) T G)) :=
 fun r hr=>lp_sxN Q orc G hT (by kernel_rfl) (mb4_0 h ⟨hlp⟩ _ _ r hr)
def b4_1 (q:Bool) (e:Ex) (lp:LpF) (τ:Env) (G:GS):OL :=
 bV q (τ 2) fun a2_ =>
 bV q (τ 10) fun a10_ =>
 bV q (τ 17) fun a17_ =>
 bV q (τ 18) fun a18_ =>
 bP (ln Q q 38 a2_) fun x0 =>
 bP (bn Q q .lss 3 (.tmp 94) (.tmp 96) a18_ x0) fun x1 =>
 ifV x1 (
 bP (bn Q q .neq 3 (.tmp 100) (.tmp 101) a17_ a18_) fun x2 =>
 bS (gV x2 true a2_ (G.room 41)) fun x3 _ =>
 bS (gV x2 true a17_ (G.room 41)) fun x4 _ =>
 bS (gP x2 true (ias Q q 38 10 x3 x4) (G.room 41)) fun x5 _ =>
 bS (gP x2 true (lda Q q 29 10 x5 (G.room 41)) (G.room 41)) fun x6 _ =>
 bS (gV x2 true a2_ (G.room 41)) fun x7 _ =>
 bS (gV x2 true a18_ (G.room 41)) fun x8 _ =>
 bS (gP x2 true (ias Q q 38 10 x7 x8) (G.room 41)) fun x9 _ =>
 bS (gP x2 true (lda Q q 29 10 x9 (G.room 41)) (G.room 41)) fun x10 _ =>
 bS (gS x2 true (e.ev.cl 21 [x6,x10] (G.room 41)) (G.room 41)) fun x12 G11 =>
 bP (pickV x2 x12 (.bool false)) fun x13 =>
 bS (gV x13 true a10_ G11) fun x14 _ =>
 bS (gV x13 true a2_ G11) fun x15 _ =>
 bS (gV x13 true a18_ G11) fun x16 _ =>
 bS (gP x13 true (ias Q q 38 10 x15 x16) G11) fun x17 _ =>
 bS (gP x13 true (fa Q q 29 0 0 x17) G11) fun x18 _ =>
 bS (gP x13 true (ld Q q 3 x18 G11) G11) fun x19 _ =>
 bS (gS x13 true (e.ev.cl 22 [x14,x19] G11) G11) fun x21 G20 =>
 bS (gP x13 true (bn Q q .geq 3 (.tmp 121) (.const (.int .i64 0)) x21 (.int .i64 0)) G20) fun x22 _ =>
 bP (pickV x13 x22 (.bool false)) fun x23 =>
 bS (gV x23 true a10_ G20) fun x24 _ =>
 bS (gV x23 true a2_ G20) fun x25 _ =>
 bS (gV x23 true a17_ G20) fun x26 _ =>
 bS (gP x23 true (ias Q q 38 10 x25 x26) G20) fun x27 _ =>
 bS (gP x23 true (fa Q q 29 0 0 x27) G20) fun x28 _ =>
 bS (gP x23 true (ld Q q 3 x28 G20) G20) fun x29 _ =>
 bS (gS x23 true (e.ev.cl 22 [x24,x29] G20) G20) fun x31 G30 =>
 bS (gV x23 true a10_ G30) fun x32 _ =>
 bS (gV x23 true a2_ G30) fun x33 _ =>
 bS (gV x23 true a18_ G30) fun x34 _ =>
 bS (gP x23 true (ias Q q 38 10 x33 x34) G30) fun x35 _ =>
 bS (gP x23 true (fa Q q 29 0 0 x35) G30) fun x36 _ =>
 bS (gP x23 true (ld Q q 3 x36 G30) G30) fun x37 _ =>
 chk (((!(gB x23 true)||(!(gB x23 true)||sameO (ld Q q 3 x36 G20) x37))&&true)) <|
 bS (gS x23 true (e.ev.cl 22 [x32,x37] G30) G30) fun x39 G38 =>
 bS (gP x23 true (bn Q q .gtr 3 (.tmp 131) (.tmp 138) x31 x39) G38) fun x40 _ =>
 bP (pickV x23 x40 (.bool false)) fun x41 =>
 ifV x41 (
 some (.ret,xq q 157 τ [(8,(.bool false)),(140,x41),(139,x40),(138,x39),(137,x37),(136,x36),(135,x35),(134,x34),(133,x33),(132,x32),(131,x31),(130,x29),(129,x28),(128,x27),(127,x26),(126,x25),(125,x24),(124,x23),(123,x23),(122,x22),(121,x21),(120,x19),(119,x18),(118,x17),(117,x16),(116,x15),(115,x14),(114,x13),(113,x13),(112,x12),(111,x10),(110,x9),(109,x8),(108,x7),(107,x6),(106,x5),(105,x4),(104,x3),(103,x2),(102,x2),(101,a18_),(100,a17_),(97,x1),(96,x0),(95,a2_),(94,a18_)] [(2,a2_),(10,a10_),(17,a17_),(18,a18_)],G38)) (
 bP (bn Q q .add 3 (.tmp 98) (.const (.int .i64 1)) a18_ (.int .i64 1)) fun x42 =>
 lp (xq q 157 τ [(18,x42),(99,x42),(98,a18_),(140,x41),(139,x40),(138,x39),(137,x37),(136,x36),(135,x35),(134,x34),(133,x33),(132,x32),(131,x31),(130,x29),(129,x28),(128,x27),(127,x26),(126,x25),(125,x24),(124,x23),(123,x23),(122,x22),(121,x21),(120,x19),(119,x18),(118,x17),(117,x16),(116,x15),(115,x14),(114,x13),(113,x13),(112,x12),(111,x10),(110,x9),(109,x8),(108,x7),(107,x6),(106,x5),(105,x4),(104,x3),(103,x2),(102,x2),(101,a18_),(100,a17_),(97,x1),(96,x0),(95,a2_),(94,a18_)] [(2,a2_),(10,a10_),(17,a17_)]) G38)) (
 some ((.exit 2),xq q 157 τ [(97,x1),(96,x0),(95,a2_),(94,a18_)] [(2,a2_),(10,a10_),(17,a17_),(18,a18_)],G))
theorem mb4_1 {e:Ex} {E:Ev} (h:ExLe Q e E) {lp lp':LpF} (hlp:LpLe lp lp') (τ:Env) (G:GS):Ref (b4_1 true e lp τ G) (b4_1 false (Ex.of E) lp' τ G):=by
 unfold b4_1
 exact Ref.gq
set_option maxHeartbeats 8000000 in
theorem l4_1 {orc:FuncId→Bool} {e:Ex} (h:ExLe Q e (E orc)) (lp:LpF) (hlp:∀ τ G,Ref (lp τ G) (mapE ((E orc).lp (subAt [1,1,1,1,1,1,1,1,1,1,1,0,1,0,0,1,0,0,1,1,0,0] (bodyOf Tryz.f4)) (lst 157 τ) G))) (T:List Value) (G:GS) (hT:T.length=157):Ref (b4_1 true e lp (nth undef T) G) (mapE ((E orc).lp (subAt [1,1,1,1,1,1,1,1,1,1,1,0,1,0,0,1,0,0,1,1,0,0] (bodyOf Tryz.f4)) T G)) :=
 fun r hr=>lp_sxN Q orc G hT (by kernel_rfl) (mb4_1 h ⟨hlp⟩ _ _ r hr)
def s4 (q:Bool) (e:Ex) (v0 v1 v2 v3:Value) (G:GS):OG :=
 bS (bx q v3 G) fun x0 G1 =>
 bS (e.ev.cl 3 [] G1) fun x2 G3 =>
 bS (e.ev.cl 19 [v1,(.int .i64 4)] G3) fun x4 G5 =>
 bP (bn Q q .add 3 (.const (.int .i64 1)) (.tmp 23) (.int .i64 1) x4) fun x6 =>
 bP (ln Q q 38 v2) fun x7 =>
 bP (bn Q q .gtr 3 (.tmp 26) (.const (.int .i64 6)) x7 (.int .i64 6)) fun x8 =>
 ifV x8 (
 some (x2,G5)) (
 bS (e.ev.cl 14 [v0,x6,v2] G5) fun x9 G10 =>
 bP (pExtract x9 0) fun x11 =>
 bP (pExtract x9 1) fun x12 =>
 bP (pExtract x9 2) fun x13 =>
 bP (bn Q q .neq 25 (.tmp 37) (.const (.int .i64 0)) x13 (.int .i64 0)) fun x14 =>
 ifV x14 (
 some (x2,G10)) (
 bP (fa Q q 29 2 2 x0) fun x15 =>
 bP (st Q q 3 1 x15 (.int .i64 (-1)) G10) fun G16 =>
 bS (bs Q q 38 0 (rep z29 0) 10 [] [] ((G16.room 7).at' (G16.nx+0))) fun x17 G18 =>
 bS (ap Q q 38 38 10 80 x17 v2 (G18.back (G16.room 7))) fun x20 G19 =>
 bP (lda Q q 29 10 x0 G19) fun x21 =>
 chk ((sameO (lda Q q 29 10 x0 (G18.back (G16.room 7))) x21&&true)) <|
 bS (bs Q q 38 1 (rep z29 1) 10 [(0,0,10)] [x21] (G19.at' (G16.nx+4))) fun x22 G23 =>
 bS (ap Q q 38 38 10 80 x20 x22 (G23.back G19)) fun x25 G24 =>
 bS (e.ev.cl 14 [v0,x6,x25] G24) fun x26 G27 =>
 bP (pExtract x26 0) fun x28 =>
 bP (pExtract x26 1) fun x29 =>
 bP (pExtract x26 2) fun x30 =>
 bS (gV x12 true x30 G27) fun x31 G32 =>
 bS (gP x12 true (bn Q q .eql 25 (.tmp 57) (.const (.int .i64 0)) x31 (.int .i64 0)) G32) fun x33 G34 =>
 bP (pickV x12 x33 (.bool false)) fun x35 =>
 bS (gV x35 true x29 G34) fun x36 G37 =>
 bS (gP x35 true (un Q q .not x36) G37) fun x38 G39 =>
 bP (pickV x35 x38 (.bool false)) fun x40 =>
 ifV x40 (
 some ((.bool false),G39)) (
 bP (un Q q .not x12) fun x41 =>
 ifV x41 (
 bS (gV x2 true x11 G39) fun x42 G43 =>
 bS (gP x2 true (ln Q q 35 x42) G43) fun x44 G45 =>
 bS (gP x2 true (bn Q q .eql 3 (.tmp 69) (.const (.int .i64 0)) x44 (.int .i64 0)) G45) fun x46 G47 =>
 bP (pickV x2 x46 (.bool false)) fun x48 =>
 some (x48,G47)) (
 bLq q e 4 0 (subAt [1,1,1,1,1,1,1,1,1,1,1,0,1,0,0] (bodyOf Tryz.f4)) 157 (nth undef [v0,v1,v2,v3]) [(17,(.int .i64 0)),(65,x41),(64,x12),(63,x40),(62,x38),(61,x36),(60,x35),(59,x35),(58,x33),(57,x31),(56,x12),(55,x12),(16,x30),(15,x29),(14,x28),(54,x30),(53,x29),(52,x28),(47,x26),(51,x26),(50,x25),(49,x6),(48,v0),(13,x25),(46,x25),(45,x22),(44,x21),(43,x20),(42,v2),(41,x17),(40,x15),(38,x14),(37,x13),(12,x13),(11,x12),(10,x11),(36,x13),(35,x12),(34,x11),(29,x9),(33,x9),(32,v2),(31,x6),(30,v0),(27,x8),(26,x7),(25,v2),(1,x6),(24,x6),(23,x4),(22,v1),(9,x2),(21,x2),(8,(.bool false)),(7,x0)] [] G39 fun e49 t50 G51 =>
 bV q (t50 0) fun t50x0_ =>
 bV q (t50 1) fun t50x1_ =>
 bV q (t50 2) fun t50x2_ =>
 bV q (t50 8) fun t50x8_ =>
 bV q (t50 9) fun t50x9_ =>
 bV q (t50 10) fun t50x10_ =>
 ifE e49 (.exit 0) (
 bS (e.ev.cl 16 [t50x0_,t50x1_,t50x2_,t50x10_] G51) fun x52 G53 =>
 bP (pExtract x52 0) fun x54 =>
 bP (pExtract x52 1) fun x55 =>
 bS (gV t50x9_ true x54 G53) fun x56 G57 =>
 bP (pickV t50x9_ x56 (.bool false)) fun x58 =>
 bS (gV x58 true x55 G57) fun x59 G60 =>
 bS (gP x58 true (bn Q q .eql 25 (.tmp 154) (.const (.int .i64 0)) x59 (.int .i64 0)) G60) fun x61 G62 =>
 bP (pickV x58 x61 (.bool false)) fun x63 =>
 some (x63,G62)) (ifE e49 .ret (
 some (t50x8_,G51)) (none))))))
theorem m4 {e:Ex} {E:Ev} (h:ExLe Q e E) (v0 v1 v2 v3:Value) (G:GS):Ref (s4 true e v0 v1 v2 v3 G) (s4 false (Ex.of E) v0 v1 v2 v3 G):=by
 unfold s4
 exact Ref.gq
set_option maxHeartbeats 8000000 in
theorem f4 {orc:FuncId→Bool} {e:Ex} (h:ExLe Q e (E orc)) (v0 v1 v2 v3:Value) (G:GS):Ref (s4 true e v0 v1 v2 v3 G) ((E orc).cl 4 [v0,v1,v2,v3] G) :=
 fun r hr=>cl_sxE_some Q orc (vs:=[v0,v1,v2,v3]) G Tryz.func4 (by kernel_rfl) (by kernel_rfl) (by kernel_rfl) (by kernel_rfl) (by kernel_rfl) (by kernel_rfl) (m4 h v0 v1 v2 v3 G r hr)
def s9 (q:Bool) (e:Ex) (v0 v1 v2 v3 v4:Value) (G:GS):OG :=
 bS (bx q v3 G) fun x0 G1 =>
 bS (bx q v4 G1) fun x2 G3 =>
 bS (al Q q 29 z29 G3) fun x4 G5 =>
 bP (lda Q q 24 4 x0 G5) fun x6 =>
 bP (lda Q q 27 3 x2 G5) fun x7 =>
 bP (bd Q q 29 z29 [(0,0,1),(1,1,1),(2,2,1),(3,3,4),(4,7,3)] [v0,v1,v2,x6,x7]) fun x8 =>
 bP (st Q q 29 10 x4 x8 G5) fun G9 =>
 bP (lda Q q 29 10 x4 G9) fun x10 =>
 some (x10,G9)
theorem f9 (h:ExLe Q e (E orc)) (v0 v1 v2 v3 v4:Value) (G:GS):Ref (s9 true e v0 v1 v2 v3 v4 G) ((E orc).cl 9 [v0,v1,v2,v3,v4] G):=cS (S:=fun q e=>s9 q e v0 v1 v2 v3 v4 G) Tryz.func9 (by unfold s9; exact Ref.gq)
def s10 (q:Bool) (e:Ex) (v0 v1 v2:Value) (G:GS):OG :=
 bS (al Q q 29 z29 G) fun x0 G1 =>
 bP (bd Q q 24 z24 [(0,0,1)] [(.int .i64 7)]) fun x2 =>
 bP (bd Q q 27 z27 [] []) fun x3 =>
 bS (e.ev.cl 9 [v0,v1,v2,x2,x3] G1) fun x4 G5 =>
 bP (st Q q 29 10 x0 x4 G5) fun G6 =>
 bP (lda Q q 29 10 x0 G6) fun x7 =>
 some (x7,G6)
theorem f10 (h:ExLe Q e (E orc)) (v0 v1 v2:Value) (G:GS):Ref (s10 true e v0 v1 v2 G) ((E orc).cl 10 [v0,v1,v2] G):=cS (S:=fun q e=>s10 q e v0 v1 v2 G) Tryz.func10 (by unfold s10; exact Ref.gq)
def s11 (q:Bool) (e:Ex) (v0 v1 v2 v3:Value) (G:GS):OG :=
 bS (e.ev.cl 14 [v0,v1,v3] G) fun x0 G1 =>
 bP (pExtract x0 0) fun x2 =>
 bP (pExtract x0 1) fun x3 =>
 bP (pExtract x0 2) fun x4 =>
 bS (e.ev.cl 38 [x2,v2] G1) fun x5 G6 =>
 bS (gV x5 true x3 G6) fun x7 G8 =>
 bS (gV x5 true v2 G8) fun x9 G10 =>
 bS (gP x5 true (ln Q q 35 x9) G10) fun x11 G12 =>
 bS (gP x5 true (bn Q q .gtr 3 (.tmp 26) (.const (.int .i64 0)) x11 (.int .i64 0)) G12) fun x13 G14 =>
 bS (gP x5 true (eb Q q false 4 (.tmp 24) (.tmp 27) x7 x13) G14) fun x15 G16 =>
 bP (pickV x5 x15 (.bool false)) fun x17 =>
 bS (gV x17 true x4 G16) fun x18 G19 =>
 bS (gP x17 true (bn Q q .eql 25 (.tmp 31) (.const (.int .i64 0)) x18 (.int .i64 0)) G19) fun x20 G21 =>
 bP (pickV x17 x20 (.bool false)) fun x22 =>
 some (x22,G21)
theorem f11 (h:ExLe Q e (E orc)) (v0 v1 v2 v3:Value) (G:GS):Ref (s11 true e v0 v1 v2 v3 G) ((E orc).cl 11 [v0,v1,v2,v3] G):=cS (S:=fun q e=>s11 q e v0 v1 v2 v3 G) Tryz.func11 (by unfold s11; exact Ref.gq)
def s12 (q:Bool) (e:Ex) (v0 v1 v2 v3:Value) (G:GS):OG :=
 bS (al Q q 29 z29 G) fun x0 G1 =>
 bP (bd Q q 24 z24 [(0,0,1),(3,3,1)] [(.int .i64 4),v3]) fun x2 =>
 bP (bd Q q 27 z27 [] []) fun x3 =>
 bS (e.ev.cl 9 [v0,v1,v2,x2,x3] G1) fun x4 G5 =>
 bP (st Q q 29 10 x0 x4 G5) fun G6 =>
 bP (lda Q q 29 10 x0 G6) fun x7 =>
 some (x7,G6)
theorem f12 (h:ExLe Q e (E orc)) (v0 v1 v2 v3:Value) (G:GS):Ref (s12 true e v0 v1 v2 v3 G) ((E orc).cl 12 [v0,v1,v2,v3] G):=cS (S:=fun q e=>s12 q e v0 v1 v2 v3 G) Tryz.func12 (by unfold s12; exact Ref.gq)
def s13 (q:Bool) (e:Ex) (G:GS):OG :=
 bS (al Q q 29 z29 G) fun x0 G1 =>
 bP (bd Q q 24 z24 [(0,0,1)] [(.int .i64 5)]) fun x2 =>
 bP (bd Q q 27 z27 [(2,2,1)] [(.int .u64 4)]) fun x3 =>
 bS (e.ev.cl 9 [(.int .i64 3),(.int .i64 3),(.int .i64 4),x2,x3] G1) fun x4 G5 =>
 bP (st Q q 29 10 x0 x4 G5) fun G6 =>
 bP (lda Q q 29 10 x0 G6) fun x7 =>
 some (x7,G6)
theorem f13 (h:ExLe Q e (E orc)) (ho:orc 13=false) (G:GS):Ref (s13 true e  G) ((E orc).cl 13 [] G):=cS (S:=fun q e=>s13 q e  G) (ho:=ho) Tryz.func13 (by unfold s13; exact Ref.gq)
def jb14_0 (q:Bool) (e:Ex) (τ:Env) (G:GS):OG :=
 bV q (τ 10) fun a10_ =>
 bV q (τ 11) fun a11_ =>
 some (.tuple #[a10_,a11_,(.int .i64 0)],G)
def j14_0 (q:Bool) (e:Ex) (τ:Env) (G:GS):OG:=jb14_0 q e τ G
theorem mj14_0 {e:Ex} {E:Ev} (h:ExLe Q e E) (τ:Env) (G:GS):Ref (j14_0 true e τ G) (j14_0 false (Ex.of E) τ G):=by
 unfold j14_0 jb14_0
 exact Ref.gq
theorem mkj14_0 {e:Ex} {E:Ev} (h:ExLe Q e E) {τ:Env} {l U:List (Nat×Value)} {G:GS} (hU:UOk τ U):Ref (j14_0 true e (xq true 46 τ l U) G) (j14_0 false (Ex.of E) (xq false 46 τ l U) G):=by
 rw [xq_eq hU]
 exact mj14_0 h _ _
def sb14 (q:Bool) (e:Ex) (J0:Env→GS→OG) (v0 v1 v2:Value) (G:GS):OG :=
 bS (e.ev.cl 39 [v0,v1,v2] G) fun x0 G1 =>
 bP (bn Q q .neq 25 (.tmp 16) (.const (.int .i64 0)) x0 (.int .i64 0)) fun x2 =>
 ifV x2 (
 some (.tuple #[(.slice none 0 0),(.bool false),x0],G1)) (
 bP (bn Q q .eql 3 (.tmp 19) (.const (.int .i64 1)) v0 (.int .i64 1)) fun x3 =>
 ifV x3 (
 bS (e.ev.cl 41 [v1] G1) fun x4 G5 =>
 bS (e.ev.cl 40 [x4,v2] G5) fun x6 G7 =>
 bP (pExtract x6 0) fun x8 =>
 bP (pExtract x6 1) fun x9 =>
 J0 (xq q 46 (nth undef [v0,v1,v2]) [(11,x9),(10,x8),(35,x9),(34,x8),(29,x6),(33,x6),(32,v2),(31,x4),(30,v1),(27,x3),(28,x3),(19,v0),(11,(.bool false)),(10,(.slice none 0 0)),(17,x2),(16,x0),(9,x0),(15,x0),(14,v2),(13,v1),(12,v0),(8,(.int .i64 0)),(7,(.bool false)),(6,(.slice none 0 0))] []) G7) (
 bP (bn Q q .eql 3 (.tmp 19) (.const (.int .i64 2)) v0 (.int .i64 2)) fun x10 =>
 ifV x10 (
 bS (e.ev.cl 43 [] G1) fun x11 G12 =>
 bS (e.ev.cl 42 [x11,v2] G12) fun x13 G14 =>
 bP (pExtract x13 0) fun x15 =>
 bP (pExtract x13 1) fun x16 =>
 J0 (xq q 46 (nth undef [v0,v1,v2]) [(11,x16),(10,x15),(43,x16),(42,x15),(38,x13),(41,x13),(40,v2),(39,x11),(36,x10),(37,x10),(27,x3),(28,x3),(19,v0),(11,(.bool false)),(10,(.slice none 0 0)),(17,x2),(16,x0),(9,x0),(15,x0),(14,v2),(13,v1),(12,v0),(8,(.int .i64 0)),(7,(.bool false)),(6,(.slice none 0 0))] []) G14) (
 bS (e.ev.cl 45 [v1] G1) fun x17 G18 =>
 bS (e.ev.cl 44 [x17,v2] G18) fun x19 G20 =>
 bP (pExtract x19 0) fun x21 =>
 bP (pExtract x19 1) fun x22 =>
 J0 (xq q 46 (nth undef [v0,v1,v2]) [(11,x22),(10,x21),(26,x22),(25,x21),(20,x19),(24,x19),(23,v2),(22,x17),(21,v1),(36,x10),(37,x10),(27,x3),(28,x3),(19,v0),(11,(.bool false)),(10,(.slice none 0 0)),(17,x2),(16,x0),(9,x0),(15,x0),(14,v2),(13,v1),(12,v0),(8,(.int .i64 0)),(7,(.bool false)),(6,(.slice none 0 0))] []) G20)))
def s14 (q:Bool) (e:Ex) (v0 v1 v2:Value) (G:GS):OG:=sb14 q e (j14_0 q e) v0 v1 v2 G
theorem m14 {e:Ex} {E:Ev} (h:ExLe Q e E) (v0 v1 v2:Value) (G:GS):Ref (s14 true e v0 v1 v2 G) (s14 false (Ex.of E) v0 v1 v2 G):=by
 unfold s14 sb14
 have j0:=@mkj14_0 e E h
 exact Ref.gj
def jt14 (J0:Env→GS→OG):JT (Value×GS) :=
 (.n none .e (.n none .e (.n none .e (.n none .e (.n (some (fun T G=>J0 (nth undef T) G)) .e .e)))))
theorem jr14_0 (orc:FuncId→Bool) (J0:Env→GS→OG) (T:List Value) (G:GS):runC Q (evL Q orc) Tryz.f14.ntmps (jt14 J0) (bodyOf Tryz.f14) (retE Q Tryz.f14.results.toList) [true,true,true,true] (nth undef T) G=jb14_0 false (Ex.of (E orc))  (nth undef T) G:=by kernel_rfl
theorem jo14 (orc:FuncId→Bool):JOk Q orc Tryz.f14.ntmps (jt14 (j14_0 false (Ex.of (E orc))) ) (bodyOf Tryz.f14) (retE Q Tryz.f14.results.toList) :=
 jOk Q orc (l:=[([true,true,true,true],(fun T G=>j14_0 false (Ex.of (E orc)) (nth undef T) G))]) (by kernel_rfl) (AllE.c (fun T G=>jr14_0 orc (j14_0 false (Ex.of (E orc))) T G) (AllE.z))
theorem je14 (orc:FuncId→Bool) (J0:Env→GS→OG) (v0 v1 v2:Value) (G:GS):sxC Q (evL Q orc) Tryz.f14.ntmps (jt14 J0) (bodyOf Tryz.f14) (nth undef [v0,v1,v2]) G (retE Q Tryz.f14.results.toList)=sb14 false (Ex.of (E orc)) J0 v0 v1 v2 G:=by kernel_rfl
theorem f14 {orc:FuncId→Bool} {e:Ex} (h:ExLe Q e (E orc)) (v0 v1 v2:Value) (G:GS):Ref (s14 true e v0 v1 v2 G) ((E orc).cl 14 [v0,v1,v2] G) :=
 fun r hr=>cl_sxC Q orc (vs:=[v0,v1,v2]) G (jt14 (j14_0 false (Ex.of (E orc))) ) Tryz.func14 (by kernel_rfl) (by kernel_rfl) (by kernel_rfl) (by kernel_rfl) (by kernel_rfl) (jo14 orc) (je14 orc (j14_0 false (Ex.of (E orc))) v0 v1 v2 G) (m14 h v0 v1 v2 G r hr)
def s15 (q:Bool) (e:Ex) (v0:Value) (G:GS):OG :=
 bS (al Q q 29 z29 G) fun x0 G1 =>
 bP (bd Q q 24 z24 [(0,0,1)] [(.int .i64 7)]) fun x2 =>
 bP (bd Q q 27 z27 [] []) fun x3 =>
 bS (e.ev.cl 9 [v0,(.int .i64 0),(.int .i64 (-1)),x2,x3] G1) fun x4 G5 =>
 bP (st Q q 29 10 x0 x4 G5) fun G6 =>
 bP (lda Q q 29 10 x0 G6) fun x7 =>
 some (x7,G6)
theorem f15 (h:ExLe Q e (E orc)) (v0:Value) (G:GS):Ref (s15 true e v0 G) ((E orc).cl 15 [v0] G):=cS (S:=fun q e=>s15 q e v0 G) Tryz.func15 (by unfold s15; exact Ref.gq)
def s16 (q:Bool) (e:Ex) (v0 v1 v2 v3:Value) (G:GS):OG :=
 bS (e.ev.cl 39 [v0,v1,v2] G) fun x0 G1 =>
 bP (bn Q q .neq 25 (.tmp 17) (.const (.int .i64 0)) x0 (.int .i64 0)) fun x2 =>
 ifV x2 (
 some (.tuple #[(.bool false),x0],G1)) (
 bS (e.ev.cl 46 [v2,v3] G1) fun x3 G4 =>
 bP (pExtract x3 0) fun x5 =>
 bP (pExtract x3 1) fun x6 =>
 bP (bn Q q .neq 25 (.tmp 26) (.const (.int .i64 0)) x6 (.int .i64 0)) fun x7 =>
 ifV x7 (
 some (.tuple #[(.bool false),x6],G4)) (
 bP (bn Q q .eql 3 (.tmp 29) (.const (.int .i64 1)) v0 (.int .i64 1)) fun x8 =>
 ifV x8 (
 bS (e.ev.cl 41 [v1] G4) fun x9 G10 =>
 bS (e.ev.cl 47 [x9,v2,x5] G10) fun x11 G12 =>
 some (.tuple #[x11,(.int .i64 0)],G12)) (
 bP (bn Q q .eql 3 (.tmp 29) (.const (.int .i64 2)) v0 (.int .i64 2)) fun x13 =>
 ifV x13 (
 bS (e.ev.cl 43 [] G4) fun x14 G15 =>
 bS (e.ev.cl 48 [x14,v2,x5] G15) fun x16 G17 =>
 some (.tuple #[x16,(.int .i64 0)],G17)) (
 bS (e.ev.cl 45 [v1] G4) fun x18 G19 =>
 bS (e.ev.cl 49 [x18,v2,x5] G19) fun x20 G21 =>
 some (.tuple #[x20,(.int .i64 0)],G21)))))
theorem f16 (h:ExLe Q e (E orc)) (v0 v1 v2 v3:Value) (G:GS):Ref (s16 true e v0 v1 v2 v3 G) ((E orc).cl 16 [v0,v1,v2,v3] G):=cS (S:=fun q e=>s16 q e v0 v1 v2 v3 G) Tryz.func16 (by unfold s16; exact Ref.gq)
def s17 (q:Bool) (e:Ex) (v0 v1:Value) (G:GS):OG :=
 bS (al Q q 29 z29 G) fun x0 G1 =>
 bP (bd Q q 24 z24 [(0,0,1),(3,3,1)] [(.int .i64 1),(.int .u64 5)]) fun x2 =>
 bP (bd Q q 27 z27 [] []) fun x3 =>
 bS (e.ev.cl 9 [(.int .i64 1),v0,v1,x2,x3] G1) fun x4 G5 =>
 bP (st Q q 29 10 x0 x4 G5) fun G6 =>
 bP (lda Q q 29 10 x0 G6) fun x7 =>
 some (x7,G6)
theorem f17 (h:ExLe Q e (E orc)) (v0 v1:Value) (G:GS):Ref (s17 true e v0 v1 G) ((E orc).cl 17 [v0,v1] G):=cS (S:=fun q e=>s17 q e v0 v1 G) Tryz.func17 (by unfold s17; exact Ref.gq)
def s18 (q:Bool) (e:Ex) (G:GS):OG :=
 bS (bs Q q 35 2 (rep z3 2) 1 [(0,0,1),(1,1,1)] [(.int .i64 1),(.int .i64 2)] G) fun x0 G1 =>
 bS (e.ev.cl 17 [(.int .i64 0),(.int .i64 3)] G1) fun x2 G3 =>
 bS (e.ev.cl 50 [(.int .i64 1),(.int .i64 2)] G3) fun x4 G5 =>
 bS (bs Q q 38 2 (rep z29 2) 10 [(0,0,10),(1,10,10)] [x2,x4] G5) fun x6 G7 =>
 bS (e.ev.cl 11 [(.int .i64 1),(.int .i64 2),x0,x6] G7) fun x8 G9 =>
 bS (gS x8 true (e.ev.cl 50 [(.int .i64 0),(.int .i64 1)] G9) G9) fun x10 G11 =>
 bS (gS x8 true (e.ev.cl 17 [(.int .i64 2),(.int .i64 3)] G11) G11) fun x12 G13 =>
 bS (gS x8 true (bs Q q 38 2 (rep z29 2) 10 [(0,0,10),(1,10,10)] [x10,x12] G13) G13) fun x14 G15 =>
 bS (gS x8 true (e.ev.cl 11 [(.int .i64 1),(.int .i64 2),(.slice none 0 0),x14] G15) G15) fun x16 G17 =>
 bP (pickV x8 x16 (.bool false)) fun x18 =>
 bS (gS x18 true (bs Q q 35 3 (rep z3 3) 1 [(0,0,1),(1,1,1),(2,2,1)] [(.int .i64 1),(.int .i64 3),(.int .i64 2)] G17) G17) fun x19 G20 =>
 bS (gS x18 true (e.ev.cl 12 [(.int .i64 1),(.int .i64 0),(.int .i64 9),(.int .u64 4)] G20) G20) fun x21 G22 =>
 bS (gS x18 true (e.ev.cl 12 [(.int .i64 2),(.int .i64 1),(.int .i64 9),(.int .u64 3)] G22) G22) fun x23 G24 =>
 bS (gS x18 true (e.ev.cl 13 [] G24) G24) fun x25 G26 =>
 bS (gS x18 true (bs Q q 38 3 (rep z29 3) 10 [(0,0,10),(1,10,10),(2,20,10)] [x21,x23,x25] G26) G26) fun x27 G28 =>
 bS (gS x18 true (e.ev.cl 11 [(.int .i64 2),(.int .i64 1),x19,x27] G28) G28) fun x29 G30 =>
 bP (pickV x18 x29 (.bool false)) fun x31 =>
 some (x31,G30)
theorem f18 (h:ExLe Q e (E orc)) (ho:orc 18=false) (G:GS):Ref (s18 true e  G) ((E orc).cl 18 [] G):=cS (S:=fun q e=>s18 q e  G) (ho:=ho) Tryz.func18 (by unfold s18; exact Ref.gq)
def s19 (q:Bool) (e:Ex) (v0 v1:Value) (G:GS):OG :=
 bP (bn Q q .leq 3 (.tmp 5) (.const (.int .i64 0)) v1 (.int .i64 0)) fun x0 =>
 ifV x0 (
 some ((.int .i64 0),G)) (
 bP (bn Q q .rem 3 (.tmp 7) (.tmp 8) v0 v1) fun x1 =>
 bP (bn Q q .lss 3 (.tmp 10) (.const (.int .i64 0)) x1 (.int .i64 0)) fun x2 =>
 ifV x2 (
 bP (bn Q q .add 3 (.tmp 12) (.tmp 13) x1 v1) fun x3 =>
 some (x3,G)) (
 some (x1,G)))
theorem f19 (h:ExLe Q e (E orc)) (v0 v1:Value) (G:GS):Ref (s19 true e v0 v1 G) ((E orc).cl 19 [v0,v1] G):=cS (S:=fun q e=>s19 q e v0 v1 G) Tryz.func19 (by unfold s19; exact Ref.gq)
def b20_0 (q:Bool) (e:Ex) (lp:LpF) (τ:Env) (G:GS):OL :=
 bV q (τ 0) fun a0_ =>
 bV q (τ 1) fun a1_ =>
 bV q (τ 5) fun a5_ =>
 bP (ln Q q 35 a0_) fun x0 =>
 bP (bn Q q .lss 3 (.tmp 6) (.tmp 8) a5_ x0) fun x1 =>
 ifV x1 (
 bP (ias Q q 35 1 a0_ a5_) fun x2 =>
 bP (ld Q q 3 x2 G) fun x3 =>
 bP (bn Q q .eql 3 (.tmp 15) (.tmp 16) x3 a1_) fun x4 =>
 ifV x4 (
 some (.ret,xq q 18 τ [(4,(.bool true)),(17,x4),(16,a1_),(15,x3),(14,x2),(13,a5_),(12,a0_),(9,x1),(8,x0),(7,a0_),(6,a5_)] [(0,a0_),(1,a1_),(5,a5_)],G)) (
 bP (bn Q q .add 3 (.tmp 10) (.const (.int .i64 1)) a5_ (.int .i64 1)) fun x5 =>
 lp (xq q 18 τ [(5,x5),(11,x5),(10,a5_),(17,x4),(16,a1_),(15,x3),(14,x2),(13,a5_),(12,a0_),(9,x1),(8,x0),(7,a0_),(6,a5_)] [(0,a0_),(1,a1_)]) G)) (
 some ((.exit 0),xq q 18 τ [(9,x1),(8,x0),(7,a0_),(6,a5_)] [(0,a0_),(1,a1_),(5,a5_)],G))
theorem l20_0 (h:ExLe Q e (E orc)):LT orc 18 (subAt [1,0,1,0,0] (bodyOf Tryz.f20)) (b20_0 true e):=cL fun hlp τ G=>by unfold b20_0; exact Ref.gq
def s20 (q:Bool) (e:Ex) (v0 v1:Value) (G:GS):OG :=
 bLq q e 20 0 (subAt [1,0,1,0,0] (bodyOf Tryz.f20)) 18 (nth undef [v0,v1]) [(5,(.int .i64 0)),(4,(.bool false))] [] G fun e0 t1 G2 =>
 bV q (t1 4) fun t1x4_ =>
 ifE e0 (.exit 0) (
 some ((.bool false),G2)) (ifE e0 .ret (
 some (t1x4_,G2)) (none))
theorem f20 (h:ExLe Q e (E orc)) (v0 v1:Value) (G:GS):Ref (s20 true e v0 v1 G) ((E orc).cl 20 [v0,v1] G):=cS (S:=fun q e=>s20 q e v0 v1 G) Tryz.func20 (by unfold s20; exact Ref.gq)
def s21 (q:Bool) (e:Ex) (v0 v1:Value) (G:GS):OG :=
 bS (bx q v0 G) fun x0 G1 =>
 bS (bx q v1 G1) fun x2 G3 =>
 fl q 29 2 2 3 x0 G3 fun x5 =>
 bP (bn Q q .geq 3 (.tmp 6) (.const (.int .i64 0)) x5 (.int .i64 0)) fun x6 =>
 bS (gP x6 true (fa Q q 29 2 2 x0) G3) fun x7 G8 =>
 bS (gP x6 true (ld Q q 3 x7 G8) G8) fun x9 G10 =>
 bS (gP x6 true (fa Q q 29 1 1 x2) G10) fun x11 G12 =>
 bS (gP x6 true (ld Q q 3 x11 G12) G12) fun x13 G14 =>
 bS (gP x6 true (bn Q q .lss 3 (.tmp 10) (.tmp 12) x9 x13) G14) fun x15 G16 =>
 bP (pickV x6 x15 (.bool false)) fun x17 =>
 some (x17,G16)
theorem f21 (h:ExLe Q e (E orc)) (v0 v1:Value) (G:GS):Ref (s21 true e v0 v1 G) ((E orc).cl 21 [v0,v1] G):=cS (S:=fun q e=>s21 q e v0 v1 G) Tryz.func21 (by unfold s21; exact Ref.gq)
def b22_0 (q:Bool) (e:Ex) (lp:LpF) (τ:Env) (G:GS):OL :=
 bV q (τ 0) fun a0_ =>
 bV q (τ 1) fun a1_ =>
 bV q (τ 5) fun a5_ =>
 bP (ln Q q 35 a0_) fun x0 =>
 bP (bn Q q .lss 3 (.tmp 6) (.tmp 8) a5_ x0) fun x1 =>
 ifV x1 (
 bP (ias Q q 35 1 a0_ a5_) fun x2 =>
 bP (ld Q q 3 x2 G) fun x3 =>
 bP (bn Q q .eql 3 (.tmp 15) (.tmp 16) x3 a1_) fun x4 =>
 ifV x4 (
 some (.ret,xq q 19 τ [(4,a5_),(18,a5_),(17,x4),(16,a1_),(15,x3),(14,x2),(13,a5_),(12,a0_),(9,x1),(8,x0),(7,a0_),(6,a5_)] [(0,a0_),(1,a1_),(5,a5_)],G)) (
 bP (bn Q q .add 3 (.tmp 10) (.const (.int .i64 1)) a5_ (.int .i64 1)) fun x5 =>
 lp (xq q 19 τ [(5,x5),(11,x5),(10,a5_),(17,x4),(16,a1_),(15,x3),(14,x2),(13,a5_),(12,a0_),(9,x1),(8,x0),(7,a0_),(6,a5_)] [(0,a0_),(1,a1_)]) G)) (
 some ((.exit 0),xq q 19 τ [(9,x1),(8,x0),(7,a0_),(6,a5_)] [(0,a0_),(1,a1_),(5,a5_)],G))
theorem l22_0 (h:ExLe Q e (E orc)):LT orc 19 (subAt [1,0,1,0,0] (bodyOf Tryz.f22)) (b22_0 true e):=cL fun hlp τ G=>by unfold b22_0; exact Ref.gq
def s22 (q:Bool) (e:Ex) (v0 v1:Value) (G:GS):OG :=
 bLq q e 22 0 (subAt [1,0,1,0,0] (bodyOf Tryz.f22)) 19 (nth undef [v0,v1]) [(5,(.int .i64 0)),(4,(.int .i64 0))] [] G fun e0 t1 G2 =>
 bV q (t1 4) fun t1x4_ =>
 ifE e0 (.exit 0) (
 some ((.int .i64 (-1)),G2)) (ifE e0 .ret (
 some (t1x4_,G2)) (none))
theorem f22 (h:ExLe Q e (E orc)) (v0 v1:Value) (G:GS):Ref (s22 true e v0 v1 G) ((E orc).cl 22 [v0,v1] G):=cS (S:=fun q e=>s22 q e v0 v1 G) Tryz.func22 (by unfold s22; exact Ref.gq)
def b38_0 (q:Bool) (e:Ex) (lp:LpF) (τ:Env) (G:GS):OL :=
 bV q (τ 0) fun a0_ =>
 bV q (τ 1) fun a1_ =>
 bV q (τ 5) fun a5_ =>
 bV q (τ 6) fun a6_ =>
 bS (gV a5_ true a6_ G) fun x0 G1 =>
 bS (gV a5_ true a0_ G1) fun x2 G3 =>
 bS (gP a5_ true (ln Q q 35 x2) G3) fun x4 G5 =>
 bS (gP a5_ true (bn Q q .lss 3 (.tmp 14) (.tmp 16) x0 x4) G5) fun x6 G7 =>
 bP (pickV a5_ x6 (.bool false)) fun x8 =>
 ifV x8 (
 bP (ias Q q 35 1 a0_ a6_) fun x9 =>
 bP (ld Q q 3 x9 (G7.room 10)) fun x10 =>
 bP (ias Q q 35 1 a1_ a6_) fun x11 =>
 bP (ld Q q 3 x11 (G7.room 10)) fun x12 =>
 bP (bn Q q .eql 3 (.tmp 24) (.tmp 28) x10 x12) fun x13 =>
 bP (bn Q q .add 3 (.tmp 19) (.const (.int .i64 1)) a6_ (.int .i64 1)) fun x14 =>
 lp (xq q 31 τ [(6,x14),(20,x14),(19,a6_),(5,x13),(29,x13),(28,x12),(27,x11),(26,a6_),(25,a1_),(24,x10),(23,x9),(22,a6_),(21,a0_),(18,x8),(17,x6),(16,x4),(15,x2),(14,x0),(13,a5_),(12,a5_)] [(0,a0_),(1,a1_)]) (G7.room 10)) (
 some ((.exit 0),xq q 31 τ [(18,x8),(17,x6),(16,x4),(15,x2),(14,x0),(13,a5_),(12,a5_)] [(0,a0_),(1,a1_),(5,a5_),(6,a6_)],G7))
theorem l38_0 (h:ExLe Q e (E orc)):LT orc 31 (subAt [1,1,0,1,0,0] (bodyOf Tryz.f38)) (b38_0 true e):=cL fun hlp τ G=>by unfold b38_0; exact Ref.gq
def s38 (q:Bool) (e:Ex) (v0 v1:Value) (G:GS):OG :=
 bP (ln Q q 35 v0) fun x0 =>
 bP (ln Q q 35 v1) fun x1 =>
 bP (bn Q q .eql 3 (.tmp 8) (.tmp 10) x0 x1) fun x2 =>
 bLq q e 38 0 (subAt [1,1,0,1,0,0] (bodyOf Tryz.f38)) 31 (nth undef [v0,v1]) [(6,(.int .i64 0)),(5,x2),(11,x2),(10,x1),(9,v1),(8,x0),(7,v0),(4,(.bool false))] [] G fun e3 t4 G5 =>
 bV q (t4 5) fun t4x5_ =>
 ifE e3 (.exit 0) (
 some (t4x5_,G5)) (none)
theorem f38 (h:ExLe Q e (E orc)) (v0 v1:Value) (G:GS):Ref (s38 true e v0 v1 G) ((E orc).cl 38 [v0,v1] G):=cS (S:=fun q e=>s38 q e v0 v1 G) Tryz.func38 (by unfold s38; exact Ref.gq)
def b39_0 (q:Bool) (e:Ex) (lp:LpF) (τ:Env) (G:GS):OL :=
 bV q (τ 7) fun a7_ =>
 bV q (τ 40) fun a40_ =>
 bV q (τ 41) fun a41_ =>
 bV q (τ 42) fun a42_ =>
 bP (bn Q q .lss 3 (.tmp 42) (.tmp 41) a42_ a41_) fun x0 =>
 ifV x0 (
 bP (ias Q q 38 10 a40_ a42_) fun x1 =>
 bP (lda Q q 29 10 x1 G) fun x2 =>
 bS (al Q q 29 z29 G) fun x3 G4 =>
 bP (st Q q 29 10 x3 x2 G4) fun G5 =>
 bP (fa Q q 29 0 0 x3) fun x6 =>
 bP (ld Q q 3 x6 G5) fun x7 =>
 bP (gLookup Q 175 a7_ x7 true G5) fun x8 =>
 bP (pExtract x8 0) fun x9 =>
 bP (pExtract x8 1) fun x10 =>
 ifV x10 (
 some (.ret,xq q 60 τ [(6,(.int .i64 8)),(54,x10),(11,x10),(10,x9),(53,x10),(52,x9),(47,x8),(51,x8),(50,x7),(49,x6),(48,a7_),(8,a42_),(9,x3),(46,x2),(45,x1),(44,a42_),(43,x0)] [(7,a7_),(40,a40_),(41,a41_),(42,a42_)],G5)) (
 bP (fa Q q 29 0 0 x3) fun x11 =>
 bP (ld Q q 3 x11 G5) fun x12 =>
 bP (gMapPut Q 175 a7_ x12 a42_ G5) fun G13 =>
 bP (bn Q q .add 3 (.tmp 42) (.const (.int .i64 1)) a42_ (.int .i64 1)) fun x14 =>
 lp (xq q 60 τ [(42,x14),(59,x14),(58,a42_),(57,x12),(56,x11),(55,a7_),(54,x10),(11,x10),(10,x9),(53,x10),(52,x9),(47,x8),(51,x8),(50,x7),(49,x6),(48,a7_),(8,a42_),(9,x3),(46,x2),(45,x1),(44,a42_),(43,x0)] [(7,a7_),(40,a40_),(41,a41_)]) G13)) (
 some ((.exit 1),xq q 60 τ [(43,x0)] [(7,a7_),(40,a40_),(41,a41_),(42,a42_)],G))
theorem l39_0 (h:ExLe Q e (E orc)):LT orc 60 (subAt [1,1,1,0,1,0,0] (bodyOf Tryz.f39)) (b39_0 true e):=cL fun hlp τ G=>by unfold b39_0; exact Ref.gq
def s39 (q:Bool) (e:Ex) (v0 v1 v2:Value) (G:GS):OG :=
 bP (bn Q q .lss 3 (.tmp 13) (.const (.int .i64 1)) v0 (.int .i64 1)) fun x0 =>
 bS (gV x0 false v0 G) fun x1 G2 =>
 bS (gP x0 false (bn Q q .gtr 3 (.tmp 16) (.const (.int .i64 3)) x1 (.int .i64 3)) G2) fun x3 G4 =>
 bP (pickV x0 (.bool true) x3) fun x5 =>
 ifV x5 (
 some ((.int .i64 2),G4)) (
 bP (bn Q q .lss 3 (.tmp 20) (.const (.int .i64 1)) v1 (.int .i64 1)) fun x6 =>
 bS (gV x6 false v1 G4) fun x7 G8 =>
 bS (gP x6 false (bn Q q .gtr 3 (.tmp 23) (.const (.int .i64 64)) x7 (.int .i64 64)) G8) fun x9 G10 =>
 bP (pickV x6 (.bool true) x9) fun x11 =>
 ifV x11 (
 some ((.int .i64 3),G10)) (
 bP (ln Q q 38 v2) fun x12 =>
 bP (bn Q q .gtr 3 (.tmp 28) (.const (.int .i64 10)) x12 (.int .i64 10)) fun x13 =>
 bS (gV x13 false v0 G10) fun x14 G15 =>
 bS (gP x13 false (bn Q q .eql 3 (.tmp 31) (.const (.int .i64 3)) x14 (.int .i64 3)) G15) fun x16 G17 =>
 bS (gV x13 false x16 G17) fun x18 G19 =>
 bS (gV x18 true v2 G19) fun x20 G21 =>
 bS (gS x18 true (e.ev.cl 99 [x20] G21) G21) fun x22 G23 =>
 bS (gP x18 true (bn Q q .gtr 3 (.tmp 35) (.const (.int .i64 2)) x22 (.int .i64 2)) G23) fun x24 G25 =>
 bS (gP x13 false (pickV x18 x24 (.bool false)) G25) fun x26 G27 =>
 bP (pickV x13 (.bool true) x26) fun x28 =>
 ifV x28 (
 some ((.int .i64 4),G27)) (
 bS (nm G27) fun x29 G30 =>
 bP (ln Q q 38 v2) fun x31 =>
 bLq q e 39 0 (subAt [1,1,1,0,1,0,0] (bodyOf Tryz.f39)) 60 (nth undef [v0,v1,v2]) [(42,(.int .i64 0)),(41,x31),(40,v2),(7,x29),(39,x29),(26,x28),(38,x28),(37,x26),(36,x24),(35,x22),(34,x20),(33,x18),(32,x16),(31,x14),(30,x13),(29,x13),(28,x12),(27,v2),(19,x11),(25,x11),(24,x9),(23,x7),(22,x6),(21,x6),(20,v1),(12,x5),(18,x5),(17,x3),(16,x1),(15,x0),(14,x0),(13,v0),(6,(.int .i64 0))] [] G30 fun e32 t33 G34 =>
 bV q (t33 6) fun t33x6_ =>
 ifE e32 (.exit 1) (
 some ((.int .i64 0),G34)) (ifE e32 .ret (
 some (t33x6_,G34)) (none)))))
theorem f39 (h:ExLe Q e (E orc)) (v0 v1 v2:Value) (G:GS):Ref (s39 true e v0 v1 v2 G) ((E orc).cl 39 [v0,v1,v2] G):=cS (S:=fun q e=>s39 q e v0 v1 v2 G) Tryz.func39 (by unfold s39; exact Ref.gq)
def b40_0 (q:Bool) (e:Ex) (lp:LpF) (τ:Env) (G:GS):OL :=
 bV q (τ 1) fun a1_ =>
 bV q (τ 8) fun a8_ =>
 bS (e.ev.cl 101 [a1_,a8_] G) fun x0 G1 =>
 bP (un Q q .not x0) fun x2 =>
 ifV x2 (
 bP (ln Q q 38 a1_) fun x3 =>
 bLq q e 40 1 (subAt [1,1,1,0,1,0,0,1,0,1,0,0] (bodyOf Tryz.f40)) 56 τ [(22,(.int .i64 0)),(21,x3),(20,a1_),(19,x2),(18,x0),(17,a8_),(16,a1_)] [] G1 fun e4 t5 G6 =>
 bV q (t5 1) fun t5x1_ =>
 bV q (t5 8) fun t5x8_ =>
 ifE e4 (.exit 2) (
 lp (xq q 56 t5 [] [(1,t5x1_),(8,t5x8_)]) G6) (none)) (
 some ((.exit 0),xq q 56 τ [(19,x2),(18,x0),(17,a8_),(16,a1_)] [(1,a1_),(8,a8_)],G1))
theorem l40_0 (h:ExLe Q e (E orc)):LT orc 56 (subAt [1,1,1,0,1,0,0] (bodyOf Tryz.f40)) (b40_0 true e):=cL fun hlp τ G=>by unfold b40_0; exact Ref.gq
def b40_1 (q:Bool) (e:Ex) (lp:LpF) (τ:Env) (G:GS):OL :=
 bV q (τ 1) fun a1_ =>
 bV q (τ 2) fun a2_ =>
 bV q (τ 6) fun a6_ =>
 bV q (τ 7) fun a7_ =>
 bV q (τ 8) fun a8_ =>
 bV q (τ 20) fun a20_ =>
 bV q (τ 21) fun a21_ =>
 bV q (τ 22) fun a22_ =>
 bP (bn Q q .lss 3 (.tmp 22) (.tmp 21) a22_ a21_) fun x0 =>
 ifV x0 (
 bP (ias Q q 38 10 a20_ a22_) fun x1 =>
 bP (lda Q q 29 10 x1 G) fun x2 =>
 bS (al Q q 29 z29 G) fun x3 G4 =>
 bP (st Q q 29 10 x3 x2 G4) fun G5 =>
 bS (e.ev.cl 102 [a1_,a8_,a22_] (G5.room 14)) fun x7 G6 =>
 bS (gP x7 true (lda Q q 104 4 a2_ G6) G6) fun x8 _ =>
 bS (gV x7 true a1_ G6) fun x9 _ =>
 bS (gV x7 true a6_ G6) fun x10 _ =>
 bS (gS x7 true (e.ev.cl 98 [x10] G6) G6) fun x12 G11 =>
 chk (((!(gB x7 true)||(!(gB x7 true)||sameO (lda Q q 104 4 a2_ G11) x8))&&true)) <|
 bS (gV x7 true a22_ G11) fun x13 _ =>
 bS (gd x7 true (bS (bs Q q 35 1 (rep z3 1) 1 [(0,0,1)] [x13] (G11.at' (G5.nx+10))) fun y G'=>some (y,(G'.back G11))) G11) fun x14 G15 =>
 bS (gS x7 true (ap Q q 35 35 1 8 x12 x14 G15) G15) fun x17 G16 =>
 chk (((!(gB x7 true)||(!(gB x7 true)||sameO (lda Q q 104 4 a2_ G16) x8))&&true)) <|
 bS (gS x7 true (e.ev.cl 100 [x8,x9,x17] G16) G16) fun x19 G18 =>
 bP (pickV x7 x19 (.bool false)) fun x20 =>
 ifV x20 (
 bS (bs Q q 35 1 (rep z3 1) 1 [(0,0,1)] [a22_] ((G18.room 16).at' (G18.nx+2))) fun x21 G22 =>
 bS (ap Q q 35 35 1 8 a6_ x21 (G22.back (G18.room 16))) fun x24 G23 =>
 bP (fa Q q 29 0 0 x3) fun x25 =>
 bP (ld Q q 3 x25 G23) fun x26 =>
 chk ((sameO (ld Q q 3 x25 (G22.back (G18.room 16))) x26&&true)) <|
 bS (bs Q q 35 1 (rep z3 1) 1 [(0,0,1)] [x26] (G23.at' (G18.nx+7))) fun x27 G28 =>
 bS (ap Q q 35 35 1 8 a7_ x27 (G28.back G23)) fun x30 G29 =>
 bP (bn Q q .shl 3 (.const (.int .i64 1)) (.tmp 51) (.int .i64 1) a22_) fun x31 =>
 bP (bn Q q .or 3 (.tmp 50) (.tmp 52) a8_ x31) fun x32 =>
 some ((.exit 2),xq q 56 τ [(8,x32),(7,x30),(6,x24),(53,x32),(52,x31),(51,a22_),(50,a8_),(49,x30),(48,x27),(47,x26),(46,x25),(45,a7_),(44,x24),(43,x21),(42,a22_),(41,a6_),(40,x20),(39,x19),(38,x17),(37,x14),(36,x13),(35,x12),(34,x10),(33,x9),(32,x8),(31,x7),(30,x7),(29,a22_),(28,a8_),(27,a1_),(9,a22_),(10,x3),(26,x2),(25,x1),(24,a22_),(23,x0)] [(1,a1_),(2,a2_),(20,a20_),(21,a21_),(22,a22_)],G29)) (
 bP (bn Q q .add 3 (.tmp 22) (.const (.int .i64 1)) a22_ (.int .i64 1)) fun x33 =>
 lp (xq q 56 τ [(22,x33),(54,x33),(40,x20),(39,x19),(38,x17),(37,x14),(36,x13),(35,x12),(34,x10),(33,x9),(32,x8),(31,x7),(30,x7),(29,a22_),(28,a8_),(27,a1_),(9,a22_),(10,x3),(26,x2),(25,x1),(24,a22_),(23,x0)] [(1,a1_),(2,a2_),(6,a6_),(7,a7_),(8,a8_),(20,a20_),(21,a21_)]) G18)) (
 some ((.exit 2),xq q 56 τ [(23,x0)] [(1,a1_),(2,a2_),(6,a6_),(7,a7_),(8,a8_),(20,a20_),(21,a21_),(22,a22_)],G))
theorem l40_1 (h:ExLe Q e (E orc)):LT orc 56 (subAt [1,1,1,0,1,0,0,1,0,1,0,0] (bodyOf Tryz.f40)) (b40_1 true e):=cL fun hlp τ G=>by unfold b40_1; exact Ref.gq
def s40 (q:Bool) (e:Ex) (v0 v1:Value) (G:GS):OG :=
 bS (bx q v0 G) fun x0 G1 =>
 bP (lda Q q 104 4 x0 G1) fun x2 =>
 bS (e.ev.cl 100 [x2,v1,(.slice none 0 0)] G1) fun x3 G4 =>
 bP (un Q q .not x3) fun x5 =>
 ifV x5 (
 some (.tuple #[(.slice none 0 0),(.bool false)],G4)) (
 bLq q e 40 0 (subAt [1,1,1,0,1,0,0] (bodyOf Tryz.f40)) 56 (nth undef [v0,v1]) [(8,(.int .i64 0)),(15,x5),(14,x3),(13,(.slice none 0 0)),(12,v1),(11,x2),(7,(.slice none 0 0)),(6,(.slice none 0 0)),(5,(.bool false)),(4,(.slice none 0 0)),(2,x0)] [] G4 fun e6 t7 G8 =>
 bV q (t7 7) fun t7x7_ =>
 ifE e6 (.exit 0) (
 some (.tuple #[t7x7_,(.bool true)],G8)) (none))
theorem f40 (h:ExLe Q e (E orc)) (v0 v1:Value) (G:GS):Ref (s40 true e v0 v1 G) ((E orc).cl 40 [v0,v1] G):=cS (S:=fun q e=>s40 q e v0 v1 G) Tryz.func40 (by unfold s40; exact Ref.gq)
def s41 (q:Bool) (e:Ex) (v0:Value) (G:GS):OG :=
 bS (bx q v0 G) fun x0 G1 =>
 bS (al Q q 104 z104 G1) fun x2 G3 =>
 bP (bd Q q 104 z104 [(1,1,1),(2,2,1),(3,3,1)] [(.func (.func 103) #[] #[x0]),(.func (.func 104) #[] #[]),(.func (.func 105) #[] #[])]) fun x4 =>
 bP (st Q q 104 4 x2 x4 G3) fun G5 =>
 bP (lda Q q 104 4 x2 G5) fun x6 =>
 some (x6,G5)
theorem f41 (h:ExLe Q e (E orc)) (v0:Value) (G:GS):Ref (s41 true e v0 G) ((E orc).cl 41 [v0] G):=cS (S:=fun q e=>s41 q e v0 G) Tryz.func41 (by unfold s41; exact Ref.gq)
def b42_0 (q:Bool) (e:Ex) (lp:LpF) (τ:Env) (G:GS):OL :=
 bV q (τ 1) fun a1_ =>
 bV q (τ 8) fun a8_ =>
 bS (e.ev.cl 101 [a1_,a8_] G) fun x0 G1 =>
 bP (un Q q .not x0) fun x2 =>
 ifV x2 (
 bP (ln Q q 38 a1_) fun x3 =>
 bLq q e 42 1 (subAt [1,1,1,0,1,0,0,1,0,1,0,0] (bodyOf Tryz.f42)) 56 τ [(22,(.int .i64 0)),(21,x3),(20,a1_),(19,x2),(18,x0),(17,a8_),(16,a1_)] [] G1 fun e4 t5 G6 =>
 bV q (t5 1) fun t5x1_ =>
 bV q (t5 8) fun t5x8_ =>
 ifE e4 (.exit 2) (
 lp (xq q 56 t5 [] [(1,t5x1_),(8,t5x8_)]) G6) (none)) (
 some ((.exit 0),xq q 56 τ [(19,x2),(18,x0),(17,a8_),(16,a1_)] [(1,a1_),(8,a8_)],G1))
theorem l42_0 (h:ExLe Q e (E orc)):LT orc 56 (subAt [1,1,1,0,1,0,0] (bodyOf Tryz.f42)) (b42_0 true e):=cL fun hlp τ G=>by unfold b42_0; exact Ref.gq
def b42_1 (q:Bool) (e:Ex) (lp:LpF) (τ:Env) (G:GS):OL :=
 bV q (τ 1) fun a1_ =>
 bV q (τ 2) fun a2_ =>
 bV q (τ 6) fun a6_ =>
 bV q (τ 7) fun a7_ =>
 bV q (τ 8) fun a8_ =>
 bV q (τ 20) fun a20_ =>
 bV q (τ 21) fun a21_ =>
 bV q (τ 22) fun a22_ =>
 bP (bn Q q .lss 3 (.tmp 22) (.tmp 21) a22_ a21_) fun x0 =>
 ifV x0 (
 bP (ias Q q 38 10 a20_ a22_) fun x1 =>
 bP (lda Q q 29 10 x1 G) fun x2 =>
 bS (al Q q 29 z29 G) fun x3 G4 =>
 bP (st Q q 29 10 x3 x2 G4) fun G5 =>
 bS (e.ev.cl 102 [a1_,a8_,a22_] (G5.room 14)) fun x7 G6 =>
 bS (gP x7 true (lda Q q 112 4 a2_ G6) G6) fun x8 _ =>
 bS (gV x7 true a1_ G6) fun x9 _ =>
 bS (gV x7 true a6_ G6) fun x10 _ =>
 bS (gS x7 true (e.ev.cl 98 [x10] G6) G6) fun x12 G11 =>
 chk (((!(gB x7 true)||(!(gB x7 true)||sameO (lda Q q 112 4 a2_ G11) x8))&&true)) <|
 bS (gV x7 true a22_ G11) fun x13 _ =>
 bS (gd x7 true (bS (bs Q q 35 1 (rep z3 1) 1 [(0,0,1)] [x13] (G11.at' (G5.nx+10))) fun y G'=>some (y,(G'.back G11))) G11) fun x14 G15 =>
 bS (gS x7 true (ap Q q 35 35 1 8 x12 x14 G15) G15) fun x17 G16 =>
 chk (((!(gB x7 true)||(!(gB x7 true)||sameO (lda Q q 112 4 a2_ G16) x8))&&true)) <|
 bS (gS x7 true (e.ev.cl 107 [x8,x9,x17] G16) G16) fun x19 G18 =>
 bP (pickV x7 x19 (.bool false)) fun x20 =>
 ifV x20 (
 bS (bs Q q 35 1 (rep z3 1) 1 [(0,0,1)] [a22_] ((G18.room 16).at' (G18.nx+2))) fun x21 G22 =>
 bS (ap Q q 35 35 1 8 a6_ x21 (G22.back (G18.room 16))) fun x24 G23 =>
 bP (fa Q q 29 0 0 x3) fun x25 =>
 bP (ld Q q 3 x25 G23) fun x26 =>
 chk ((sameO (ld Q q 3 x25 (G22.back (G18.room 16))) x26&&true)) <|
 bS (bs Q q 35 1 (rep z3 1) 1 [(0,0,1)] [x26] (G23.at' (G18.nx+7))) fun x27 G28 =>
 bS (ap Q q 35 35 1 8 a7_ x27 (G28.back G23)) fun x30 G29 =>
 bP (bn Q q .shl 3 (.const (.int .i64 1)) (.tmp 51) (.int .i64 1) a22_) fun x31 =>
 bP (bn Q q .or 3 (.tmp 50) (.tmp 52) a8_ x31) fun x32 =>
 some ((.exit 2),xq q 56 τ [(8,x32),(7,x30),(6,x24),(53,x32),(52,x31),(51,a22_),(50,a8_),(49,x30),(48,x27),(47,x26),(46,x25),(45,a7_),(44,x24),(43,x21),(42,a22_),(41,a6_),(40,x20),(39,x19),(38,x17),(37,x14),(36,x13),(35,x12),(34,x10),(33,x9),(32,x8),(31,x7),(30,x7),(29,a22_),(28,a8_),(27,a1_),(9,a22_),(10,x3),(26,x2),(25,x1),(24,a22_),(23,x0)] [(1,a1_),(2,a2_),(20,a20_),(21,a21_),(22,a22_)],G29)) (
 bP (bn Q q .add 3 (.tmp 22) (.const (.int .i64 1)) a22_ (.int .i64 1)) fun x33 =>
 lp (xq q 56 τ [(22,x33),(54,x33),(40,x20),(39,x19),(38,x17),(37,x14),(36,x13),(35,x12),(34,x10),(33,x9),(32,x8),(31,x7),(30,x7),(29,a22_),(28,a8_),(27,a1_),(9,a22_),(10,x3),(26,x2),(25,x1),(24,a22_),(23,x0)] [(1,a1_),(2,a2_),(6,a6_),(7,a7_),(8,a8_),(20,a20_),(21,a21_)]) G18)) (
 some ((.exit 2),xq q 56 τ [(23,x0)] [(1,a1_),(2,a2_),(6,a6_),(7,a7_),(8,a8_),(20,a20_),(21,a21_),(22,a22_)],G))
theorem l42_1 (h:ExLe Q e (E orc)):LT orc 56 (subAt [1,1,1,0,1,0,0,1,0,1,0,0] (bodyOf Tryz.f42)) (b42_1 true e):=cL fun hlp τ G=>by unfold b42_1; exact Ref.gq
def s42 (q:Bool) (e:Ex) (v0 v1:Value) (G:GS):OG :=
 bS (bx q v0 G) fun x0 G1 =>
 bP (lda Q q 112 4 x0 G1) fun x2 =>
 bS (e.ev.cl 107 [x2,v1,(.slice none 0 0)] G1) fun x3 G4 =>
 bP (un Q q .not x3) fun x5 =>
 ifV x5 (
 some (.tuple #[(.slice none 0 0),(.bool false)],G4)) (
 bLq q e 42 0 (subAt [1,1,1,0,1,0,0] (bodyOf Tryz.f42)) 56 (nth undef [v0,v1]) [(8,(.int .i64 0)),(15,x5),(14,x3),(13,(.slice none 0 0)),(12,v1),(11,x2),(7,(.slice none 0 0)),(6,(.slice none 0 0)),(5,(.bool false)),(4,(.slice none 0 0)),(2,x0)] [] G4 fun e6 t7 G8 =>
 bV q (t7 7) fun t7x7_ =>
 ifE e6 (.exit 0) (
 some (.tuple #[t7x7_,(.bool true)],G8)) (none))
theorem f42 (h:ExLe Q e (E orc)) (v0 v1:Value) (G:GS):Ref (s42 true e v0 v1 G) ((E orc).cl 42 [v0,v1] G):=cS (S:=fun q e=>s42 q e v0 v1 G) Tryz.func42 (by unfold s42; exact Ref.gq)
def s43 (q:Bool) (e:Ex) (G:GS):OG :=
 bS (al Q q 112 z112 G) fun x0 G1 =>
 bP (bd Q q 112 z112 [(1,1,1),(2,2,1),(3,3,1)] [(.func (.func 54) #[] #[]),(.func (.func 108) #[] #[]),(.func (.func 109) #[] #[])]) fun x2 =>
 bP (st Q q 112 4 x0 x2 G1) fun G3 =>
 bP (lda Q q 112 4 x0 G3) fun x4 =>
 some (x4,G3)
theorem f43 (h:ExLe Q e (E orc)) (ho:orc 43=false) (G:GS):Ref (s43 true e  G) ((E orc).cl 43 [] G):=cS (S:=fun q e=>s43 q e  G) (ho:=ho) Tryz.func43 (by unfold s43; exact Ref.gq)
def b44_0 (q:Bool) (e:Ex) (lp:LpF) (τ:Env) (G:GS):OL :=
 bV q (τ 1) fun a1_ =>
 bV q (τ 8) fun a8_ =>
 bS (e.ev.cl 101 [a1_,a8_] G) fun x0 G1 =>
 bP (un Q q .not x0) fun x2 =>
 ifV x2 (
 bP (ln Q q 38 a1_) fun x3 =>
 bLq q e 44 1 (subAt [1,1,1,0,1,0,0,1,0,1,0,0] (bodyOf Tryz.f44)) 56 τ [(22,(.int .i64 0)),(21,x3),(20,a1_),(19,x2),(18,x0),(17,a8_),(16,a1_)] [] G1 fun e4 t5 G6 =>
 bV q (t5 1) fun t5x1_ =>
 bV q (t5 8) fun t5x8_ =>
 ifE e4 (.exit 2) (
 lp (xq q 56 t5 [] [(1,t5x1_),(8,t5x8_)]) G6) (none)) (
 some ((.exit 0),xq q 56 τ [(19,x2),(18,x0),(17,a8_),(16,a1_)] [(1,a1_),(8,a8_)],G1))
theorem l44_0 (h:ExLe Q e (E orc)):LT orc 56 (subAt [1,1,1,0,1,0,0] (bodyOf Tryz.f44)) (b44_0 true e):=cL fun hlp τ G=>by unfold b44_0; exact Ref.gq
def b44_1 (q:Bool) (e:Ex) (lp:LpF) (τ:Env) (G:GS):OL :=
 bV q (τ 1) fun a1_ =>
 bV q (τ 2) fun a2_ =>
 bV q (τ 6) fun a6_ =>
 bV q (τ 7) fun a7_ =>
 bV q (τ 8) fun a8_ =>
 bV q (τ 20) fun a20_ =>
 bV q (τ 21) fun a21_ =>
 bV q (τ 22) fun a22_ =>
 bP (bn Q q .lss 3 (.tmp 22) (.tmp 21) a22_ a21_) fun x0 =>
 ifV x0 (
 bP (ias Q q 38 10 a20_ a22_) fun x1 =>
 bP (lda Q q 29 10 x1 G) fun x2 =>
 bS (al Q q 29 z29 G) fun x3 G4 =>
 bP (st Q q 29 10 x3 x2 G4) fun G5 =>
 bS (e.ev.cl 102 [a1_,a8_,a22_] (G5.room 14)) fun x7 G6 =>
 bS (gP x7 true (lda Q q 119 4 a2_ G6) G6) fun x8 _ =>
 bS (gV x7 true a1_ G6) fun x9 _ =>
 bS (gV x7 true a6_ G6) fun x10 _ =>
 bS (gS x7 true (e.ev.cl 98 [x10] G6) G6) fun x12 G11 =>
 chk (((!(gB x7 true)||(!(gB x7 true)||sameO (lda Q q 119 4 a2_ G11) x8))&&true)) <|
 bS (gV x7 true a22_ G11) fun x13 _ =>
 bS (gd x7 true (bS (bs Q q 35 1 (rep z3 1) 1 [(0,0,1)] [x13] (G11.at' (G5.nx+10))) fun y G'=>some (y,(G'.back G11))) G11) fun x14 G15 =>
 bS (gS x7 true (ap Q q 35 35 1 8 x12 x14 G15) G15) fun x17 G16 =>
 chk (((!(gB x7 true)||(!(gB x7 true)||sameO (lda Q q 119 4 a2_ G16) x8))&&true)) <|
 bS (gS x7 true (e.ev.cl 111 [x8,x9,x17] G16) G16) fun x19 G18 =>
 bP (pickV x7 x19 (.bool false)) fun x20 =>
 ifV x20 (
 bS (bs Q q 35 1 (rep z3 1) 1 [(0,0,1)] [a22_] ((G18.room 16).at' (G18.nx+2))) fun x21 G22 =>
 bS (ap Q q 35 35 1 8 a6_ x21 (G22.back (G18.room 16))) fun x24 G23 =>
 bP (fa Q q 29 0 0 x3) fun x25 =>
 bP (ld Q q 3 x25 G23) fun x26 =>
 chk ((sameO (ld Q q 3 x25 (G22.back (G18.room 16))) x26&&true)) <|
 bS (bs Q q 35 1 (rep z3 1) 1 [(0,0,1)] [x26] (G23.at' (G18.nx+7))) fun x27 G28 =>
 bS (ap Q q 35 35 1 8 a7_ x27 (G28.back G23)) fun x30 G29 =>
 bP (bn Q q .shl 3 (.const (.int .i64 1)) (.tmp 51) (.int .i64 1) a22_) fun x31 =>
 bP (bn Q q .or 3 (.tmp 50) (.tmp 52) a8_ x31) fun x32 =>
 some ((.exit 2),xq q 56 τ [(8,x32),(7,x30),(6,x24),(53,x32),(52,x31),(51,a22_),(50,a8_),(49,x30),(48,x27),(47,x26),(46,x25),(45,a7_),(44,x24),(43,x21),(42,a22_),(41,a6_),(40,x20),(39,x19),(38,x17),(37,x14),(36,x13),(35,x12),(34,x10),(33,x9),(32,x8),(31,x7),(30,x7),(29,a22_),(28,a8_),(27,a1_),(9,a22_),(10,x3),(26,x2),(25,x1),(24,a22_),(23,x0)] [(1,a1_),(2,a2_),(20,a20_),(21,a21_),(22,a22_)],G29)) (
 bP (bn Q q .add 3 (.tmp 22) (.const (.int .i64 1)) a22_ (.int .i64 1)) fun x33 =>
 lp (xq q 56 τ [(22,x33),(54,x33),(40,x20),(39,x19),(38,x17),(37,x14),(36,x13),(35,x12),(34,x10),(33,x9),(32,x8),(31,x7),(30,x7),(29,a22_),(28,a8_),(27,a1_),(9,a22_),(10,x3),(26,x2),(25,x1),(24,a22_),(23,x0)] [(1,a1_),(2,a2_),(6,a6_),(7,a7_),(8,a8_),(20,a20_),(21,a21_)]) G18)) (
 some ((.exit 2),xq q 56 τ [(23,x0)] [(1,a1_),(2,a2_),(6,a6_),(7,a7_),(8,a8_),(20,a20_),(21,a21_),(22,a22_)],G))
theorem l44_1 (h:ExLe Q e (E orc)):LT orc 56 (subAt [1,1,1,0,1,0,0,1,0,1,0,0] (bodyOf Tryz.f44)) (b44_1 true e):=cL fun hlp τ G=>by unfold b44_1; exact Ref.gq
def s44 (q:Bool) (e:Ex) (v0 v1:Value) (G:GS):OG :=
 bS (bx q v0 G) fun x0 G1 =>
 bP (lda Q q 119 4 x0 G1) fun x2 =>
 bS (e.ev.cl 111 [x2,v1,(.slice none 0 0)] G1) fun x3 G4 =>
 bP (un Q q .not x3) fun x5 =>
 ifV x5 (
 some (.tuple #[(.slice none 0 0),(.bool false)],G4)) (
 bLq q e 44 0 (subAt [1,1,1,0,1,0,0] (bodyOf Tryz.f44)) 56 (nth undef [v0,v1]) [(8,(.int .i64 0)),(15,x5),(14,x3),(13,(.slice none 0 0)),(12,v1),(11,x2),(7,(.slice none 0 0)),(6,(.slice none 0 0)),(5,(.bool false)),(4,(.slice none 0 0)),(2,x0)] [] G4 fun e6 t7 G8 =>
 bV q (t7 7) fun t7x7_ =>
 ifE e6 (.exit 0) (
 some (.tuple #[t7x7_,(.bool true)],G8)) (none))
theorem f44 (h:ExLe Q e (E orc)) (v0 v1:Value) (G:GS):Ref (s44 true e v0 v1 G) ((E orc).cl 44 [v0,v1] G):=cS (S:=fun q e=>s44 q e v0 v1 G) Tryz.func44 (by unfold s44; exact Ref.gq)
def s45 (q:Bool) (e:Ex) (v0:Value) (G:GS):OG :=
 bS (al Q q 119 z119 G) fun x0 G1 =>
 bS (e.ev.cl 112 [(.slice none 0 0),v0] G1) fun x2 G3 =>
 bP (bd Q q 119 z119 [(0,0,1),(1,1,1),(2,2,1),(3,3,1)] [x2,(.func (.func 113) #[] #[]),(.func (.func 114) #[] #[]),(.func (.func 115) #[] #[])]) fun x4 =>
 bP (st Q q 119 4 x0 x4 G3) fun G5 =>
 bP (lda Q q 119 4 x0 G5) fun x6 =>
 some (x6,G5)
theorem f45 (h:ExLe Q e (E orc)) (v0:Value) (G:GS):Ref (s45 true e v0 G) ((E orc).cl 45 [v0] G):=cS (S:=fun q e=>s45 q e v0 G) Tryz.func45 (by unfold s45; exact Ref.gq)
def b46_0 (q:Bool) (e:Ex) (lp:LpF) (τ:Env) (G:GS):OL :=
 bV q (τ 0) fun a0_ =>
 bV q (τ 6) fun a6_ =>
 bV q (τ 12) fun a12_ =>
 bV q (τ 13) fun a13_ =>
 bV q (τ 14) fun a14_ =>
 bP (bn Q q .lss 3 (.tmp 14) (.tmp 13) a14_ a13_) fun x0 =>
 ifV x0 (
 bP (ias Q q 35 1 a12_ a14_) fun x1 =>
 bP (ld Q q 3 x1 G) fun x2 =>
 bS (al Q q 3 z3 G) fun x3 G4 =>
 bP (st Q q 3 1 x3 x2 G4) fun G5 =>
 bS (e.ev.cl 116 [a0_,(.func (.func 117) #[] #[x3])] G5) fun x6 G7 =>
 bP (bn Q q .lss 3 (.tmp 21) (.const (.int .i64 0)) x6 (.int .i64 0)) fun x8 =>
 ifV x8 (
 some (.ret,xq q 42 τ [(5,(.int .i64 10)),(4,(.slice none 0 0)),(22,x8),(21,x6),(9,x6),(20,x6),(19,(.func (.func 117) #[] #[x3])),(18,a0_),(8,x3),(17,x2),(16,x1),(15,x0)] [(0,a0_),(6,a6_),(12,a12_),(13,a13_),(14,a14_)],G7)) (
 bS (bs Q q 35 1 (rep z3 1) 1 [(0,0,1)] [x6] G7) fun x9 G10 =>
 bS (ap Q q 35 35 1 8 a6_ x9 G10) fun x11 G12 =>
 bP (bn Q q .add 3 (.tmp 14) (.const (.int .i64 1)) a14_ (.int .i64 1)) fun x13 =>
 lp (xq q 42 τ [(14,x13),(27,x13),(6,x11),(26,x11),(25,x9),(24,x6),(23,a6_),(22,x8),(21,x6),(9,x6),(20,x6),(19,(.func (.func 117) #[] #[x3])),(18,a0_),(8,x3),(17,x2),(16,x1),(15,x0)] [(0,a0_),(12,a12_),(13,a13_)]) G12)) (
 some ((.exit 0),xq q 42 τ [(15,x0)] [(0,a0_),(6,a6_),(12,a12_),(13,a13_),(14,a14_)],G))
theorem l46_0 (h:ExLe Q e (E orc)):LT orc 42 (subAt [1,1,0,1,0,0] (bodyOf Tryz.f46)) (b46_0 true e):=cL fun hlp τ G=>by unfold b46_0; exact Ref.gq
def b46_1 (q:Bool) (e:Ex) (lp:LpF) (τ:Env) (G:GS):OL :=
 bV q (τ 6) fun a6_ =>
 bV q (τ 28) fun a28_ =>
 bV q (τ 29) fun a29_ =>
 bV q (τ 30) fun a30_ =>
 bP (bn Q q .lss 3 (.tmp 30) (.tmp 29) a30_ a29_) fun x0 =>
 ifV x0 (
 bP (ias Q q 35 1 a28_ a30_) fun x1 =>
 bP (ld Q q 3 x1 G) fun x2 =>
 bP (sl Q q 35 1 a6_ none (some a30_) none G) fun x3 =>
 bS (e.ev.cl 118 [x3,x2] G) fun x4 G5 =>
 ifV x4 (
 some (.ret,xq q 42 τ [(5,(.int .i64 8)),(4,(.slice none 0 0)),(39,x4),(38,x2),(37,x3),(36,a30_),(35,a6_),(11,x2),(10,a30_),(34,x2),(33,x1),(32,a30_),(31,x0)] [(6,a6_),(28,a28_),(29,a29_),(30,a30_)],G5)) (
 bP (bn Q q .add 3 (.tmp 30) (.const (.int .i64 1)) a30_ (.int .i64 1)) fun x6 =>
 lp (xq q 42 τ [(30,x6),(40,x6),(39,x4),(38,x2),(37,x3),(36,a30_),(35,a6_),(11,x2),(10,a30_),(34,x2),(33,x1),(32,a30_),(31,x0)] [(6,a6_),(28,a28_),(29,a29_)]) G5)) (
 some ((.exit 2),xq q 42 τ [(31,x0)] [(6,a6_),(28,a28_),(29,a29_),(30,a30_)],G))
theorem l46_1 (h:ExLe Q e (E orc)):LT orc 42 (subAt [1,1,1,0,1,0,0] (bodyOf Tryz.f46)) (b46_1 true e):=cL fun hlp τ G=>by unfold b46_1; exact Ref.gq
def s46 (q:Bool) (e:Ex) (v0 v1:Value) (G:GS):OG :=
 bP (ln Q q 35 v1) fun x0 =>
 bLq q e 46 0 (subAt [1,1,0,1,0,0] (bodyOf Tryz.f46)) 42 (nth undef [v0,v1]) [(14,(.int .i64 0)),(13,x0),(12,v1),(6,(.slice none 0 0)),(5,(.int .i64 0)),(4,(.slice none 0 0))] [] G fun e1 t2 G3 =>
 bV q (t2 4) fun t2x4_ =>
 bV q (t2 5) fun t2x5_ =>
 bV q (t2 6) fun t2x6_ =>
 ifE e1 (.exit 0) (
 bP (ln Q q 35 t2x6_) fun x4 =>
 bLq q e 46 1 (subAt [1,1,1,0,1,0,0] (bodyOf Tryz.f46)) 42 t2 [(30,(.int .i64 0)),(29,x4),(28,t2x6_)] [] G3 fun e5 t6 G7 =>
 bV q (t6 4) fun t6x4_ =>
 bV q (t6 5) fun t6x5_ =>
 bV q (t6 6) fun t6x6_ =>
 ifE e5 (.exit 2) (
 some (.tuple #[t6x6_,(.int .i64 0)],G7)) (ifE e5 .ret (
 some (.tuple #[t6x4_,t6x5_],G7)) (none))) (ifE e1 .ret (
 some (.tuple #[t2x4_,t2x5_],G3)) (none))
theorem f46 (h:ExLe Q e (E orc)) (v0 v1:Value) (G:GS):Ref (s46 true e v0 v1 G) ((E orc).cl 46 [v0,v1] G):=cS (S:=fun q e=>s46 q e v0 v1 G) Tryz.func46 (by unfold s46; exact Ref.gq)
def b47_0 (q:Bool) (e:Ex) (lp:LpF) (τ:Env) (G:GS):OL :=
 bV q (τ 1) fun a1_ =>
 bV q (τ 25) fun a25_ =>
 bV q (τ 26) fun a26_ =>
 bV q (τ 27) fun a27_ =>
 bP (bn Q q .lss 3 (.tmp 27) (.tmp 26) a27_ a26_) fun x0 =>
 ifV x0 (
 bP (ias Q q 35 1 a25_ a27_) fun x1 =>
 bP (ld Q q 3 x1 G) fun x2 =>
 bP (ln Q q 38 a1_) fun x3 =>
 bLq q e 47 1 (subAt [1,1,0,1,0,0,1,1,0,0,1,0,1,0,0] (bodyOf Tryz.f47)) 125 τ [(33,(.int .i64 0)),(32,x3),(31,a1_),(10,x2),(30,x2),(29,x1),(28,x0)] [] G fun e4 t5 G6 =>
 bV q (t5 1) fun t5x1_ =>
 bV q (t5 7) fun t5x7_ =>
 bV q (t5 25) fun t5x25_ =>
 bV q (t5 26) fun t5x26_ =>
 bV q (t5 27) fun t5x27_ =>
 ifE e4 (.exit 2) (
 bS (nm G6) fun x7 G8 =>
 bP (ln Q q 189 t5x7_) fun x9 =>
 bLq q e 47 2 (subAt [1,1,0,1,0,0,1,1,0,0,1,1,1,1,0,1,0,0] (bodyOf Tryz.f47)) 125 t5 [(56,(.int .i64 0)),(55,x9),(54,t5x7_),(13,x7),(53,x7),(12,(.slice none 0 0))] [] G8 fun e10 t11 G12 =>
 bV q (t11 1) fun t11x1_ =>
 bV q (t11 8) fun t11x8_ =>
 bV q (t11 10) fun t11x10_ =>
 bV q (t11 12) fun t11x12_ =>
 bV q (t11 25) fun t11x25_ =>
 bV q (t11 26) fun t11x26_ =>
 bV q (t11 27) fun t11x27_ =>
 ifE e10 (.exit 4) (
 bP (bn Q q .shl 3 (.const (.int .i64 1)) (.tmp 113) (.int .i64 1) t11x10_) fun x13 =>
 bP (bn Q q .or 3 (.tmp 112) (.tmp 114) t11x8_ x13) fun x14 =>
 bP (bn Q q .add 3 (.tmp 27) (.const (.int .i64 1)) t11x27_ (.int .i64 1)) fun x15 =>
 lp (xq q 125 t11 [(27,x15),(116,x15),(8,x14),(7,t11x12_),(115,x14),(114,x13),(113,t11x10_),(112,t11x8_),(111,t11x12_)] [(1,t11x1_),(25,t11x25_),(26,t11x26_)]) (G12.room 7)) (none)) (ifE e4 .ret (
 some (.ret,xq q 125 t5 [] [(1,t5x1_),(25,t5x25_),(26,t5x26_),(27,t5x27_)],G6)) (none))) (
 some ((.exit 0),xq q 125 τ [(28,x0)] [(1,a1_),(25,a25_),(26,a26_),(27,a27_)],G))
theorem mb47_0 {e:Ex} {E:Ev} (h:ExLe Q e E) {lp lp':LpF} (hlp:LpLe lp lp') (τ:Env) (G:GS):Ref (b47_0 true e lp τ G) (b47_0 false (Ex.of E) lp' τ G):=by
 unfold b47_0
 exact Ref.gq
set_option maxHeartbeats 8000000 in
theorem l47_0 {orc:FuncId→Bool} {e:Ex} (h:ExLe Q e (E orc)) (lp:LpF) (hlp:∀ τ G,Ref (lp τ G) (mapE ((E orc).lp (subAt [1,1,0,1,0,0] (bodyOf Tryz.f47)) (lst 125 τ) G))) (T:List Value) (G:GS) (hT:T.length=125):Ref (b47_0 true e lp (nth undef T) G) (mapE ((E orc).lp (subAt [1,1,0,1,0,0] (bodyOf Tryz.f47)) T G)) :=
 fun r hr=>lp_sxN Q orc G hT (by kernel_rfl) (mb47_0 h ⟨hlp⟩ _ _ r hr)
def b47_1 (q:Bool) (e:Ex) (lp:LpF) (τ:Env) (G:GS):OL :=
 bV q (τ 1) fun a1_ =>
 bV q (τ 8) fun a8_ =>
 bV q (τ 10) fun a10_ =>
 bV q (τ 32) fun a32_ =>
 bV q (τ 33) fun a33_ =>
 bP (bn Q q .lss 3 (.tmp 33) (.tmp 32) a33_ a32_) fun x0 =>
 ifV x0 (
 bP (bn Q q .shr 3 (.tmp 36) (.tmp 37) a8_ a33_) fun x1 =>
 bP (bn Q q .and 3 (.tmp 38) (.const (.int .i64 1)) x1 (.int .i64 1)) fun x2 =>
 bP (bn Q q .eql 3 (.tmp 39) (.const (.int .i64 1)) x2 (.int .i64 1)) fun x3 =>
 bS (gV x3 true a1_ (G.room 16)) fun x4 _ =>
 bS (gV x3 true a10_ (G.room 16)) fun x5 _ =>
 bS (gP x3 true (ias Q q 38 10 x4 x5) (G.room 16)) fun x6 _ =>
 bS (gP x3 true (lda Q q 29 10 x6 (G.room 16)) (G.room 16)) fun x7 _ =>
 bS (gV x3 true a1_ (G.room 16)) fun x8 _ =>
 bS (gV x3 true a33_ (G.room 16)) fun x9 _ =>
 bS (gP x3 true (ias Q q 38 10 x8 x9) (G.room 16)) fun x10 _ =>
 bS (gP x3 true (lda Q q 29 10 x10 (G.room 16)) (G.room 16)) fun x11 _ =>
 bS (gS x3 true (e.ev.cl 21 [x7,x11] (G.room 16)) (G.room 16)) fun x13 G12 =>
 bP (pickV x3 x13 (.bool false)) fun x14 =>
 ifV x14 (
 some (.ret,xq q 125 τ [(6,(.bool false)),(51,x14),(50,x13),(49,x11),(48,x10),(47,x9),(46,x8),(45,x7),(44,x6),(43,x5),(42,x4),(41,x3),(40,x3),(39,x2),(38,x1),(37,a33_),(36,a8_),(11,a33_),(35,a33_),(34,x0)] [(1,a1_),(8,a8_),(10,a10_),(32,a32_),(33,a33_)],G12)) (
 bP (bn Q q .add 3 (.tmp 33) (.const (.int .i64 1)) a33_ (.int .i64 1)) fun x15 =>
 lp (xq q 125 τ [(33,x15),(52,x15),(51,x14),(50,x13),(49,x11),(48,x10),(47,x9),(46,x8),(45,x7),(44,x6),(43,x5),(42,x4),(41,x3),(40,x3),(39,x2),(38,x1),(37,a33_),(36,a8_),(11,a33_),(35,a33_),(34,x0)] [(1,a1_),(8,a8_),(10,a10_),(32,a32_)]) G12)) (
 some ((.exit 2),xq q 125 τ [(34,x0)] [(1,a1_),(8,a8_),(10,a10_),(32,a32_),(33,a33_)],G))
theorem mb47_1 {e:Ex} {E:Ev} (h:ExLe Q e E) {lp lp':LpF} (hlp:LpLe lp lp') (τ:Env) (G:GS):Ref (b47_1 true e lp τ G) (b47_1 false (Ex.of E) lp' τ G):=by
 unfold b47_1
 exact Ref.gq
set_option maxHeartbeats 8000000 in
theorem l47_1 {orc:FuncId→Bool} {e:Ex} (h:ExLe Q e (E orc)) (lp:LpF) (hlp:∀ τ G,Ref (lp τ G) (mapE ((E orc).lp (subAt [1,1,0,1,0,0,1,1,0,0,1,0,1,0,0] (bodyOf Tryz.f47)) (lst 125 τ) G))) (T:List Value) (G:GS) (hT:T.length=125):Ref (b47_1 true e lp (nth undef T) G) (mapE ((E orc).lp (subAt [1,1,0,1,0,0,1,1,0,0,1,0,1,0,0] (bodyOf Tryz.f47)) T G)) :=
 fun r hr=>lp_sxN Q orc G hT (by kernel_rfl) (mb47_1 h ⟨hlp⟩ _ _ r hr)
def b47_2 (q:Bool) (e:Ex) (lp:LpF) (τ:Env) (G:GS):OL :=
 bV q (τ 1) fun a1_ =>
 bV q (τ 3) fun a3_ =>
 bV q (τ 10) fun a10_ =>
 bV q (τ 54) fun a54_ =>
 bV q (τ 55) fun a55_ =>
 bV q (τ 56) fun a56_ =>
 bP (bn Q q .lss 3 (.tmp 56) (.tmp 55) a56_ a55_) fun x0 =>
 ifV x0 (
 bP (ias Q q 189 1 a54_ a56_) fun x1 =>
 bP (ld Q q 74 x1 G) fun x2 =>
 bP (lda Q q 104 4 a3_ (G.room 9)) fun x3 =>
 bP (ias Q q 38 10 a1_ a10_) fun x4 =>
 bP (lda Q q 29 10 x4 (G.room 9)) fun x5 =>
 bS (e.ev.cl 119 [x3,x2,x5] (G.room 9)) fun x7 G6 =>
 bP (ln Q q 180 x7) fun x8 =>
 bLq q e 47 3 (subAt [1,1,0,1,0,0,1,1,0,0,1,1,1,1,0,1,0,0,1,1,0,0,1,1,0,0] (bodyOf Tryz.f47)) 125 τ [(68,(.int .i64 0)),(67,x8),(66,x7),(65,x5),(64,x4),(63,a10_),(62,a1_),(61,x2),(60,x3),(15,x2),(59,x2),(58,x1),(57,x0)] [] G6 fun e9 t10 G11 =>
 bV q (t10 1) fun t10x1_ =>
 bV q (t10 3) fun t10x3_ =>
 bV q (t10 10) fun t10x10_ =>
 bV q (t10 54) fun t10x54_ =>
 bV q (t10 55) fun t10x55_ =>
 bV q (t10 56) fun t10x56_ =>
 ifE e9 (.exit 6) (
 bP (bn Q q .add 3 (.tmp 56) (.const (.int .i64 1)) t10x56_ (.int .i64 1)) fun x12 =>
 lp (xq q 125 t10 [(56,x12),(110,x12)] [(1,t10x1_),(3,t10x3_),(10,t10x10_),(54,t10x54_),(55,t10x55_)]) G11) (none)) (
 some ((.exit 4),xq q 125 τ [(57,x0)] [(1,a1_),(3,a3_),(10,a10_),(54,a54_),(55,a55_),(56,a56_)],G))
theorem mb47_2 {e:Ex} {E:Ev} (h:ExLe Q e E) {lp lp':LpF} (hlp:LpLe lp lp') (τ:Env) (G:GS):Ref (b47_2 true e lp τ G) (b47_2 false (Ex.of E) lp' τ G):=by
 unfold b47_2
 exact Ref.gq
set_option maxHeartbeats 8000000 in
theorem l47_2 {orc:FuncId→Bool} {e:Ex} (h:ExLe Q e (E orc)) (lp:LpF) (hlp:∀ τ G,Ref (lp τ G) (mapE ((E orc).lp (subAt [1,1,0,1,0,0,1,1,0,0,1,1,1,1,0,1,0,0] (bodyOf Tryz.f47)) (lst 125 τ) G))) (T:List Value) (G:GS) (hT:T.length=125):Ref (b47_2 true e lp (nth undef T) G) (mapE ((E orc).lp (subAt [1,1,0,1,0,0,1,1,0,0,1,1,1,1,0,1,0,0] (bodyOf Tryz.f47)) T G)) :=
 fun r hr=>lp_sxN Q orc G hT (by kernel_rfl) (mb47_2 h ⟨hlp⟩ _ _ r hr)
def b47_3 (q:Bool) (e:Ex) (lp:LpF) (τ:Env) (G:GS):OL :=
 bV q (τ 1) fun a1_ =>
 bV q (τ 3) fun a3_ =>
 bV q (τ 10) fun a10_ =>
 bV q (τ 12) fun a12_ =>
 bV q (τ 13) fun a13_ =>
 bV q (τ 15) fun a15_ =>
 bV q (τ 66) fun a66_ =>
 bV q (τ 67) fun a67_ =>
 bV q (τ 68) fun a68_ =>
 bP (bn Q q .lss 3 (.tmp 68) (.tmp 67) a68_ a67_) fun x0 =>
 ifV x0 (
 bP (ias Q q 180 3 a66_ a68_) fun x1 =>
 bP (lda Q q 27 3 x1 G) fun x2 =>
 bS (al Q q 27 z27 G) fun x3 G4 =>
 bP (st Q q 27 3 x3 x2 G4) fun G5 =>
 bP (fa Q q 104 1 1 a3_) fun x6 =>
 bP (ld Q q 100 x6 (G5.room 15)) fun x7 =>
 bP (ias Q q 38 10 a1_ a10_) fun x8 =>
 bP (fa Q q 29 3 3 x8) fun x9 =>
 bP (lda Q q 24 4 x9 (G5.room 15)) fun x10 =>
 bP (lda Q q 27 3 x3 (G5.room 15)) fun x11 =>
 bS (cValue e.ev x7 [a15_,x10,x11] (G5.room 15)) fun x13 G12 =>
 bP (pExtract x13 0) fun x14 =>
 bP (pExtract x13 1) fun x15 =>
 bP (un Q q .not x15) fun x16 =>
 ifV x16 (
 bP (bn Q q .add 3 (.tmp 68) (.const (.int .i64 1)) a68_ (.int .i64 1)) fun x17 =>
 lp (xq q 125 τ [(68,x17),(109,x17),(86,x16),(85,x15),(19,x15),(18,x14),(84,x15),(83,x14),(72,x13),(82,x13),(81,x11),(80,x10),(79,x9),(78,x8),(77,a10_),(76,a1_),(75,a15_),(74,x7),(73,x6),(17,x3),(71,x2),(70,x1),(69,x0)] [(1,a1_),(3,a3_),(10,a10_),(12,a12_),(13,a13_),(15,a15_),(66,a66_),(67,a67_)]) G12) (
 bP (fa Q q 104 3 3 a3_) fun x18 =>
 bP (ld Q q 102 x18 G12) fun x19 =>
 bS (cValue e.ev x19 [x14] G12) fun x20 G21 =>
 bP (gLookup Q 190 a13_ x20 true G21) fun x22 =>
 bP (pExtract x22 0) fun x23 =>
 bP (pExtract x22 1) fun x24 =>
 bP (un Q q .not x24) fun x25 =>
 ifV x25 (
 bP (fa Q q 104 3 3 a3_) fun x26 =>
 bP (ld Q q 102 x26 G21) fun x27 =>
 bS (cValue e.ev x27 [x14] G21) fun x28 G29 =>
 bP (ln Q q 189 a12_) fun x30 =>
 bP (gMapPut Q 190 a13_ x28 x30 G29) fun G31 =>
 bS (bs Q q 189 1 (rep z74 1) 1 [(0,0,1)] [x14] G31) fun x32 G33 =>
 bS (ap Q q 189 189 1 24 a12_ x32 G33) fun x34 G35 =>
 bP (bn Q q .add 3 (.tmp 68) (.const (.int .i64 1)) a68_ (.int .i64 1)) fun x36 =>
 lp (xq q 125 τ [(68,x36),(109,x36),(12,x34),(108,x34),(107,x32),(106,x14),(105,a12_),(104,x30),(103,a12_),(102,x28),(101,x14),(100,x27),(99,x26),(98,a13_),(97,x25),(96,x24),(21,x24),(20,x23),(95,x24),(94,x23),(87,x22),(93,x22),(92,x20),(91,x14),(90,x19),(89,x18),(88,a13_),(86,x16),(85,x15),(19,x15),(18,x14),(84,x15),(83,x14),(72,x13),(82,x13),(81,x11),(80,x10),(79,x9),(78,x8),(77,a10_),(76,a1_),(75,a15_),(74,x7),(73,x6),(17,x3),(71,x2),(70,x1),(69,x0)] [(1,a1_),(3,a3_),(10,a10_),(13,a13_),(15,a15_),(66,a66_),(67,a67_)]) G35) (
 bP (bn Q q .add 3 (.tmp 68) (.const (.int .i64 1)) a68_ (.int .i64 1)) fun x37 =>
 lp (xq q 125 τ [(68,x37),(109,x37),(97,x25),(96,x24),(21,x24),(20,x23),(95,x24),(94,x23),(87,x22),(93,x22),(92,x20),(91,x14),(90,x19),(89,x18),(88,a13_),(86,x16),(85,x15),(19,x15),(18,x14),(84,x15),(83,x14),(72,x13),(82,x13),(81,x11),(80,x10),(79,x9),(78,x8),(77,a10_),(76,a1_),(75,a15_),(74,x7),(73,x6),(17,x3),(71,x2),(70,x1),(69,x0)] [(1,a1_),(3,a3_),(10,a10_),(12,a12_),(13,a13_),(15,a15_),(66,a66_),(67,a67_)]) G21))) (
 some ((.exit 6),xq q 125 τ [(69,x0)] [(1,a1_),(3,a3_),(10,a10_),(12,a12_),(13,a13_),(15,a15_),(66,a66_),(67,a67_),(68,a68_)],G))
theorem mb47_3 {e:Ex} {E:Ev} (h:ExLe Q e E) {lp lp':LpF} (hlp:LpLe lp lp') (τ:Env) (G:GS):Ref (b47_3 true e lp τ G) (b47_3 false (Ex.of E) lp' τ G):=by
 unfold b47_3
 exact Ref.gq
set_option maxHeartbeats 8000000 in
theorem l47_3 {orc:FuncId→Bool} {e:Ex} (h:ExLe Q e (E orc)) (lp:LpF) (hlp:∀ τ G,Ref (lp τ G) (mapE ((E orc).lp (subAt [1,1,0,1,0,0,1,1,0,0,1,1,1,1,0,1,0,0,1,1,0,0,1,1,0,0] (bodyOf Tryz.f47)) (lst 125 τ) G))) (T:List Value) (G:GS) (hT:T.length=125):Ref (b47_3 true e lp (nth undef T) G) (mapE ((E orc).lp (subAt [1,1,0,1,0,0,1,1,0,0,1,1,1,1,0,1,0,0,1,1,0,0,1,1,0,0] (bodyOf Tryz.f47)) T G)) :=
 fun r hr=>lp_sxN Q orc G hT (by kernel_rfl) (mb47_3 h ⟨hlp⟩ _ _ r hr)
def s47 (q:Bool) (e:Ex) (v0 v1 v2:Value) (G:GS):OG :=
 bS (bx q v0 G) fun x0 G1 =>
 bP (fa Q q 104 0 0 x0) fun x2 =>
 bP (ld Q q 74 x2 G1) fun x3 =>
 bS (bs Q q 189 1 (rep z74 1) 1 [(0,0,1)] [x3] G1) fun x4 G5 =>
 bP (ln Q q 35 v2) fun x6 =>
 bLq q e 47 0 (subAt [1,1,0,1,0,0] (bodyOf Tryz.f47)) 125 (nth undef [v0,v1,v2]) [(27,(.int .i64 0)),(26,x6),(25,v2),(8,(.int .i64 0)),(7,x4),(24,x4),(23,x3),(22,x2),(6,(.bool false)),(3,x0)] [] G5 fun e7 t8 G9 =>
 bV q (t8 1) fun t8x1_ =>
 bV q (t8 6) fun t8x6_ =>
 bV q (t8 7) fun t8x7_ =>
 bV q (t8 8) fun t8x8_ =>
 ifE e7 (.exit 0) (
 bP (ln Q q 189 t8x7_) fun x10 =>
 bP (bn Q q .gtr 3 (.tmp 118) (.const (.int .i64 0)) x10 (.int .i64 0)) fun x11 =>
 bS (gV x11 true t8x1_ G9) fun x12 G13 =>
 bS (gV x11 true t8x8_ G13) fun x14 G15 =>
 bS (gS x11 true (e.ev.cl 101 [x12,x14] G15) G15) fun x16 G17 =>
 bP (pickV x11 x16 (.bool false)) fun x18 =>
 some (x18,G17)) (ifE e7 .ret (
 some (t8x6_,G9)) (none))
theorem m47 {e:Ex} {E:Ev} (h:ExLe Q e E) (v0 v1 v2:Value) (G:GS):Ref (s47 true e v0 v1 v2 G) (s47 false (Ex.of E) v0 v1 v2 G):=by
 unfold s47
 exact Ref.gq
set_option maxHeartbeats 8000000 in
theorem f47 {orc:FuncId→Bool} {e:Ex} (h:ExLe Q e (E orc)) (v0 v1 v2:Value) (G:GS):Ref (s47 true e v0 v1 v2 G) ((E orc).cl 47 [v0,v1,v2] G) :=
 fun r hr=>cl_sxE_some Q orc (vs:=[v0,v1,v2]) G Tryz.func47 (by kernel_rfl) (by kernel_rfl) (by kernel_rfl) (by kernel_rfl) (by kernel_rfl) (by kernel_rfl) (m47 h v0 v1 v2 G r hr)
def b48_0 (q:Bool) (e:Ex) (lp:LpF) (τ:Env) (G:GS):OL :=
 bV q (τ 1) fun a1_ =>
 bV q (τ 25) fun a25_ =>
 bV q (τ 26) fun a26_ =>
 bV q (τ 27) fun a27_ =>
 bP (bn Q q .lss 3 (.tmp 27) (.tmp 26) a27_ a26_) fun x0 =>
 ifV x0 (
 bP (ias Q q 35 1 a25_ a27_) fun x1 =>
 bP (ld Q q 3 x1 G) fun x2 =>
 bP (ln Q q 38 a1_) fun x3 =>
 bLq q e 48 1 (subAt [1,1,0,1,0,0,1,1,0,0,1,0,1,0,0] (bodyOf Tryz.f48)) 125 τ [(33,(.int .i64 0)),(32,x3),(31,a1_),(10,x2),(30,x2),(29,x1),(28,x0)] [] G fun e4 t5 G6 =>
 bV q (t5 1) fun t5x1_ =>
 bV q (t5 7) fun t5x7_ =>
 bV q (t5 25) fun t5x25_ =>
 bV q (t5 26) fun t5x26_ =>
 bV q (t5 27) fun t5x27_ =>
 ifE e4 (.exit 2) (
 bS (nm G6) fun x7 G8 =>
 bP (ln Q q 192 t5x7_) fun x9 =>
 bLq q e 48 2 (subAt [1,1,0,1,0,0,1,1,0,0,1,1,1,1,0,1,0,0] (bodyOf Tryz.f48)) 125 t5 [(56,(.int .i64 0)),(55,x9),(54,t5x7_),(13,x7),(53,x7),(12,(.slice none 0 0))] [] G8 fun e10 t11 G12 =>
 bV q (t11 1) fun t11x1_ =>
 bV q (t11 8) fun t11x8_ =>
 bV q (t11 10) fun t11x10_ =>
 bV q (t11 12) fun t11x12_ =>
 bV q (t11 25) fun t11x25_ =>
 bV q (t11 26) fun t11x26_ =>
 bV q (t11 27) fun t11x27_ =>
 ifE e10 (.exit 4) (
 bP (bn Q q .shl 3 (.const (.int .i64 1)) (.tmp 113) (.int .i64 1) t11x10_) fun x13 =>
 bP (bn Q q .or 3 (.tmp 112) (.tmp 114) t11x8_ x13) fun x14 =>
 bP (bn Q q .add 3 (.tmp 27) (.const (.int .i64 1)) t11x27_ (.int .i64 1)) fun x15 =>
 lp (xq q 125 t11 [(27,x15),(116,x15),(8,x14),(7,t11x12_),(115,x14),(114,x13),(113,t11x10_),(112,t11x8_),(111,t11x12_)] [(1,t11x1_),(25,t11x25_),(26,t11x26_)]) (G12.room 7)) (none)) (ifE e4 .ret (
 some (.ret,xq q 125 t5 [] [(1,t5x1_),(25,t5x25_),(26,t5x26_),(27,t5x27_)],G6)) (none))) (
 some ((.exit 0),xq q 125 τ [(28,x0)] [(1,a1_),(25,a25_),(26,a26_),(27,a27_)],G))
theorem mb48_0 {e:Ex} {E:Ev} (h:ExLe Q e E) {lp lp':LpF} (hlp:LpLe lp lp') (τ:Env) (G:GS):Ref (b48_0 true e lp τ G) (b48_0 false (Ex.of E) lp' τ G):=by
 unfold b48_0
 exact Ref.gq
set_option maxHeartbeats 8000000 in
theorem l48_0 {orc:FuncId→Bool} {e:Ex} (h:ExLe Q e (E orc)) (lp:LpF) (hlp:∀ τ G,Ref (lp τ G) (mapE ((E orc).lp (subAt [1,1,0,1,0,0] (bodyOf Tryz.f48)) (lst 125 τ) G))) (T:List Value) (G:GS) (hT:T.length=125):Ref (b48_0 true e lp (nth undef T) G) (mapE ((E orc).lp (subAt [1,1,0,1,0,0] (bodyOf Tryz.f48)) T G)) :=
 fun r hr=>lp_sxN Q orc G hT (by kernel_rfl) (mb48_0 h ⟨hlp⟩ _ _ r hr)
def b48_1 (q:Bool) (e:Ex) (lp:LpF) (τ:Env) (G:GS):OL :=
 bV q (τ 1) fun a1_ =>
 bV q (τ 8) fun a8_ =>
 bV q (τ 10) fun a10_ =>
 bV q (τ 32) fun a32_ =>
 bV q (τ 33) fun a33_ =>
 bP (bn Q q .lss 3 (.tmp 33) (.tmp 32) a33_ a32_) fun x0 =>
 ifV x0 (
 bP (bn Q q .shr 3 (.tmp 36) (.tmp 37) a8_ a33_) fun x1 =>
 bP (bn Q q .and 3 (.tmp 38) (.const (.int .i64 1)) x1 (.int .i64 1)) fun x2 =>
 bP (bn Q q .eql 3 (.tmp 39) (.const (.int .i64 1)) x2 (.int .i64 1)) fun x3 =>
 bS (gV x3 true a1_ (G.room 16)) fun x4 _ =>
 bS (gV x3 true a10_ (G.room 16)) fun x5 _ =>
 bS (gP x3 true (ias Q q 38 10 x4 x5) (G.room 16)) fun x6 _ =>
 bS (gP x3 true (lda Q q 29 10 x6 (G.room 16)) (G.room 16)) fun x7 _ =>
 bS (gV x3 true a1_ (G.room 16)) fun x8 _ =>
 bS (gV x3 true a33_ (G.room 16)) fun x9 _ =>
 bS (gP x3 true (ias Q q 38 10 x8 x9) (G.room 16)) fun x10 _ =>
 bS (gP x3 true (lda Q q 29 10 x10 (G.room 16)) (G.room 16)) fun x11 _ =>
 bS (gS x3 true (e.ev.cl 21 [x7,x11] (G.room 16)) (G.room 16)) fun x13 G12 =>
 bP (pickV x3 x13 (.bool false)) fun x14 =>
 ifV x14 (
 some (.ret,xq q 125 τ [(6,(.bool false)),(51,x14),(50,x13),(49,x11),(48,x10),(47,x9),(46,x8),(45,x7),(44,x6),(43,x5),(42,x4),(41,x3),(40,x3),(39,x2),(38,x1),(37,a33_),(36,a8_),(11,a33_),(35,a33_),(34,x0)] [(1,a1_),(8,a8_),(10,a10_),(32,a32_),(33,a33_)],G12)) (
 bP (bn Q q .add 3 (.tmp 33) (.const (.int .i64 1)) a33_ (.int .i64 1)) fun x15 =>
 lp (xq q 125 τ [(33,x15),(52,x15),(51,x14),(50,x13),(49,x11),(48,x10),(47,x9),(46,x8),(45,x7),(44,x6),(43,x5),(42,x4),(41,x3),(40,x3),(39,x2),(38,x1),(37,a33_),(36,a8_),(11,a33_),(35,a33_),(34,x0)] [(1,a1_),(8,a8_),(10,a10_),(32,a32_)]) G12)) (
 some ((.exit 2),xq q 125 τ [(34,x0)] [(1,a1_),(8,a8_),(10,a10_),(32,a32_),(33,a33_)],G))
theorem mb48_1 {e:Ex} {E:Ev} (h:ExLe Q e E) {lp lp':LpF} (hlp:LpLe lp lp') (τ:Env) (G:GS):Ref (b48_1 true e lp τ G) (b48_1 false (Ex.of E) lp' τ G):=by
 unfold b48_1
 exact Ref.gq
set_option maxHeartbeats 8000000 in
theorem l48_1 {orc:FuncId→Bool} {e:Ex} (h:ExLe Q e (E orc)) (lp:LpF) (hlp:∀ τ G,Ref (lp τ G) (mapE ((E orc).lp (subAt [1,1,0,1,0,0,1,1,0,0,1,0,1,0,0] (bodyOf Tryz.f48)) (lst 125 τ) G))) (T:List Value) (G:GS) (hT:T.length=125):Ref (b48_1 true e lp (nth undef T) G) (mapE ((E orc).lp (subAt [1,1,0,1,0,0,1,1,0,0,1,0,1,0,0] (bodyOf Tryz.f48)) T G)) :=
 fun r hr=>lp_sxN Q orc G hT (by kernel_rfl) (mb48_1 h ⟨hlp⟩ _ _ r hr)
def b48_2 (q:Bool) (e:Ex) (lp:LpF) (τ:Env) (G:GS):OL :=
 bV q (τ 1) fun a1_ =>
 bV q (τ 3) fun a3_ =>
 bV q (τ 10) fun a10_ =>
 bV q (τ 54) fun a54_ =>
 bV q (τ 55) fun a55_ =>
 bV q (τ 56) fun a56_ =>
 bP (bn Q q .lss 3 (.tmp 56) (.tmp 55) a56_ a55_) fun x0 =>
 ifV x0 (
 bP (ias Q q 192 1 a54_ a56_) fun x1 =>
 bP (ld Q q 107 x1 G) fun x2 =>
 bP (lda Q q 112 4 a3_ (G.room 9)) fun x3 =>
 bP (ias Q q 38 10 a1_ a10_) fun x4 =>
 bP (lda Q q 29 10 x4 (G.room 9)) fun x5 =>
 bS (e.ev.cl 120 [x3,x2,x5] (G.room 9)) fun x7 G6 =>
 bP (ln Q q 180 x7) fun x8 =>
 bLq q e 48 3 (subAt [1,1,0,1,0,0,1,1,0,0,1,1,1,1,0,1,0,0,1,1,0,0,1,1,0,0] (bodyOf Tryz.f48)) 125 τ [(68,(.int .i64 0)),(67,x8),(66,x7),(65,x5),(64,x4),(63,a10_),(62,a1_),(61,x2),(60,x3),(15,x2),(59,x2),(58,x1),(57,x0)] [] G6 fun e9 t10 G11 =>
 bV q (t10 1) fun t10x1_ =>
 bV q (t10 3) fun t10x3_ =>
 bV q (t10 10) fun t10x10_ =>
 bV q (t10 54) fun t10x54_ =>
 bV q (t10 55) fun t10x55_ =>
 bV q (t10 56) fun t10x56_ =>
 ifE e9 (.exit 6) (
 bP (bn Q q .add 3 (.tmp 56) (.const (.int .i64 1)) t10x56_ (.int .i64 1)) fun x12 =>
 lp (xq q 125 t10 [(56,x12),(110,x12)] [(1,t10x1_),(3,t10x3_),(10,t10x10_),(54,t10x54_),(55,t10x55_)]) G11) (none)) (
 some ((.exit 4),xq q 125 τ [(57,x0)] [(1,a1_),(3,a3_),(10,a10_),(54,a54_),(55,a55_),(56,a56_)],G))
theorem mb48_2 {e:Ex} {E:Ev} (h:ExLe Q e E) {lp lp':LpF} (hlp:LpLe lp lp') (τ:Env) (G:GS):Ref (b48_2 true e lp τ G) (b48_2 false (Ex.of E) lp' τ G):=by
 unfold b48_2
 exact Ref.gq
set_option maxHeartbeats 8000000 in
theorem l48_2 {orc:FuncId→Bool} {e:Ex} (h:ExLe Q e (E orc)) (lp:LpF) (hlp:∀ τ G,Ref (lp τ G) (mapE ((E orc).lp (subAt [1,1,0,1,0,0,1,1,0,0,1,1,1,1,0,1,0,0] (bodyOf Tryz.f48)) (lst 125 τ) G))) (T:List Value) (G:GS) (hT:T.length=125):Ref (b48_2 true e lp (nth undef T) G) (mapE ((E orc).lp (subAt [1,1,0,1,0,0,1,1,0,0,1,1,1,1,0,1,0,0] (bodyOf Tryz.f48)) T G)) :=
 fun r hr=>lp_sxN Q orc G hT (by kernel_rfl) (mb48_2 h ⟨hlp⟩ _ _ r hr)
def b48_3 (q:Bool) (e:Ex) (lp:LpF) (τ:Env) (G:GS):OL :=
 bV q (τ 1) fun a1_ =>
 bV q (τ 3) fun a3_ =>
 bV q (τ 10) fun a10_ =>
 bV q (τ 12) fun a12_ =>
 bV q (τ 13) fun a13_ =>
 bV q (τ 15) fun a15_ =>
 bV q (τ 66) fun a66_ =>
 bV q (τ 67) fun a67_ =>
 bV q (τ 68) fun a68_ =>
 bP (bn Q q .lss 3 (.tmp 68) (.tmp 67) a68_ a67_) fun x0 =>
 ifV x0 (
 bP (ias Q q 180 3 a66_ a68_) fun x1 =>
 bP (lda Q q 27 3 x1 G) fun x2 =>
 bS (al Q q 27 z27 G) fun x3 G4 =>
 bP (st Q q 27 3 x3 x2 G4) fun G5 =>
 bP (fa Q q 112 1 1 a3_) fun x6 =>
 bP (ld Q q 108 x6 (G5.room 15)) fun x7 =>
 bP (ias Q q 38 10 a1_ a10_) fun x8 =>
 bP (fa Q q 29 3 3 x8) fun x9 =>
 bP (lda Q q 24 4 x9 (G5.room 15)) fun x10 =>
 bP (lda Q q 27 3 x3 (G5.room 15)) fun x11 =>
 bS (cValue e.ev x7 [a15_,x10,x11] (G5.room 15)) fun x13 G12 =>
 bP (pExtract x13 0) fun x14 =>
 bP (pExtract x13 1) fun x15 =>
 bP (un Q q .not x15) fun x16 =>
 ifV x16 (
 bP (bn Q q .add 3 (.tmp 68) (.const (.int .i64 1)) a68_ (.int .i64 1)) fun x17 =>
 lp (xq q 125 τ [(68,x17),(109,x17),(86,x16),(85,x15),(19,x15),(18,x14),(84,x15),(83,x14),(72,x13),(82,x13),(81,x11),(80,x10),(79,x9),(78,x8),(77,a10_),(76,a1_),(75,a15_),(74,x7),(73,x6),(17,x3),(71,x2),(70,x1),(69,x0)] [(1,a1_),(3,a3_),(10,a10_),(12,a12_),(13,a13_),(15,a15_),(66,a66_),(67,a67_)]) G12) (
 bP (fa Q q 112 3 3 a3_) fun x18 =>
 bP (ld Q q 110 x18 G12) fun x19 =>
 bS (cValue e.ev x19 [x14] G12) fun x20 G21 =>
 bP (gLookup Q 190 a13_ x20 true G21) fun x22 =>
 bP (pExtract x22 0) fun x23 =>
 bP (pExtract x22 1) fun x24 =>
 bP (un Q q .not x24) fun x25 =>
 ifV x25 (
 bP (fa Q q 112 3 3 a3_) fun x26 =>
 bP (ld Q q 110 x26 G21) fun x27 =>
 bS (cValue e.ev x27 [x14] G21) fun x28 G29 =>
 bP (ln Q q 192 a12_) fun x30 =>
 bP (gMapPut Q 190 a13_ x28 x30 G29) fun G31 =>
 bS (bs Q q 192 1 (rep z107 1) 1 [(0,0,1)] [x14] G31) fun x32 G33 =>
 bS (ap Q q 192 192 1 24 a12_ x32 G33) fun x34 G35 =>
 bP (bn Q q .add 3 (.tmp 68) (.const (.int .i64 1)) a68_ (.int .i64 1)) fun x36 =>
 lp (xq q 125 τ [(68,x36),(109,x36),(12,x34),(108,x34),(107,x32),(106,x14),(105,a12_),(104,x30),(103,a12_),(102,x28),(101,x14),(100,x27),(99,x26),(98,a13_),(97,x25),(96,x24),(21,x24),(20,x23),(95,x24),(94,x23),(87,x22),(93,x22),(92,x20),(91,x14),(90,x19),(89,x18),(88,a13_),(86,x16),(85,x15),(19,x15),(18,x14),(84,x15),(83,x14),(72,x13),(82,x13),(81,x11),(80,x10),(79,x9),(78,x8),(77,a10_),(76,a1_),(75,a15_),(74,x7),(73,x6),(17,x3),(71,x2),(70,x1),(69,x0)] [(1,a1_),(3,a3_),(10,a10_),(13,a13_),(15,a15_),(66,a66_),(67,a67_)]) G35) (
 bP (bn Q q .add 3 (.tmp 68) (.const (.int .i64 1)) a68_ (.int .i64 1)) fun x37 =>
 lp (xq q 125 τ [(68,x37),(109,x37),(97,x25),(96,x24),(21,x24),(20,x23),(95,x24),(94,x23),(87,x22),(93,x22),(92,x20),(91,x14),(90,x19),(89,x18),(88,a13_),(86,x16),(85,x15),(19,x15),(18,x14),(84,x15),(83,x14),(72,x13),(82,x13),(81,x11),(80,x10),(79,x9),(78,x8),(77,a10_),(76,a1_),(75,a15_),(74,x7),(73,x6),(17,x3),(71,x2),(70,x1),(69,x0)] [(1,a1_),(3,a3_),(10,a10_),(12,a12_),(13,a13_),(15,a15_),(66,a66_),(67,a67_)]) G21))) (
 some ((.exit 6),xq q 125 τ [(69,x0)] [(1,a1_),(3,a3_),(10,a10_),(12,a12_),(13,a13_),(15,a15_),(66,a66_),(67,a67_),(68,a68_)],G))
theorem mb48_3 {e:Ex} {E:Ev} (h:ExLe Q e E) {lp lp':LpF} (hlp:LpLe lp lp') (τ:Env) (G:GS):Ref (b48_3 true e lp τ G) (b48_3 false (Ex.of E) lp' τ G):=by
 unfold b48_3
 exact Ref.gq
set_option maxHeartbeats 8000000 in
theorem l48_3 {orc:FuncId→Bool} {e:Ex} (h:ExLe Q e (E orc)) (lp:LpF) (hlp:∀ τ G,Ref (lp τ G) (mapE ((E orc).lp (subAt [1,1,0,1,0,0,1,1,0,0,1,1,1,1,0,1,0,0,1,1,0,0,1,1,0,0] (bodyOf Tryz.f48)) (lst 125 τ) G))) (T:List Value) (G:GS) (hT:T.length=125):Ref (b48_3 true e lp (nth undef T) G) (mapE ((E orc).lp (subAt [1,1,0,1,0,0,1,1,0,0,1,1,1,1,0,1,0,0,1,1,0,0,1,1,0,0] (bodyOf Tryz.f48)) T G)) :=
 fun r hr=>lp_sxN Q orc G hT (by kernel_rfl) (mb48_3 h ⟨hlp⟩ _ _ r hr)
def s48 (q:Bool) (e:Ex) (v0 v1 v2:Value) (G:GS):OG :=
 bS (bx q v0 G) fun x0 G1 =>
 bP (fa Q q 112 0 0 x0) fun x2 =>
 bP (ld Q q 107 x2 G1) fun x3 =>
 bS (bs Q q 192 1 (rep z107 1) 1 [(0,0,1)] [x3] G1) fun x4 G5 =>
 bP (ln Q q 35 v2) fun x6 =>
 bLq q e 48 0 (subAt [1,1,0,1,0,0] (bodyOf Tryz.f48)) 125 (nth undef [v0,v1,v2]) [(27,(.int .i64 0)),(26,x6),(25,v2),(8,(.int .i64 0)),(7,x4),(24,x4),(23,x3),(22,x2),(6,(.bool false)),(3,x0)] [] G5 fun e7 t8 G9 =>
 bV q (t8 1) fun t8x1_ =>
 bV q (t8 6) fun t8x6_ =>
 bV q (t8 7) fun t8x7_ =>
 bV q (t8 8) fun t8x8_ =>
 ifE e7 (.exit 0) (
 bP (ln Q q 192 t8x7_) fun x10 =>
 bP (bn Q q .gtr 3 (.tmp 118) (.const (.int .i64 0)) x10 (.int .i64 0)) fun x11 =>
 bS (gV x11 true t8x1_ G9) fun x12 G13 =>
 bS (gV x11 true t8x8_ G13) fun x14 G15 =>
 bS (gS x11 true (e.ev.cl 101 [x12,x14] G15) G15) fun x16 G17 =>
 bP (pickV x11 x16 (.bool false)) fun x18 =>
 some (x18,G17)) (ifE e7 .ret (
 some (t8x6_,G9)) (none))
theorem m48 {e:Ex} {E:Ev} (h:ExLe Q e E) (v0 v1 v2:Value) (G:GS):Ref (s48 true e v0 v1 v2 G) (s48 false (Ex.of E) v0 v1 v2 G):=by
 unfold s48
 exact Ref.gq
set_option maxHeartbeats 8000000 in
theorem f48 {orc:FuncId→Bool} {e:Ex} (h:ExLe Q e (E orc)) (v0 v1 v2:Value) (G:GS):Ref (s48 true e v0 v1 v2 G) ((E orc).cl 48 [v0,v1,v2] G) :=
 fun r hr=>cl_sxE_some Q orc (vs:=[v0,v1,v2]) G Tryz.func48 (by kernel_rfl) (by kernel_rfl) (by kernel_rfl) (by kernel_rfl) (by kernel_rfl) (by kernel_rfl) (m48 h v0 v1 v2 G r hr)
def b49_0 (q:Bool) (e:Ex) (lp:LpF) (τ:Env) (G:GS):OL :=
 bV q (τ 1) fun a1_ =>
 bV q (τ 25) fun a25_ =>
 bV q (τ 26) fun a26_ =>
 bV q (τ 27) fun a27_ =>
 bP (bn Q q .lss 3 (.tmp 27) (.tmp 26) a27_ a26_) fun x0 =>
 ifV x0 (
 bP (ias Q q 35 1 a25_ a27_) fun x1 =>
 bP (ld Q q 3 x1 G) fun x2 =>
 bP (ln Q q 38 a1_) fun x3 =>
 bLq q e 49 1 (subAt [1,1,0,1,0,0,1,1,0,0,1,0,1,0,0] (bodyOf Tryz.f49)) 125 τ [(33,(.int .i64 0)),(32,x3),(31,a1_),(10,x2),(30,x2),(29,x1),(28,x0)] [] G fun e4 t5 G6 =>
 bV q (t5 1) fun t5x1_ =>
 bV q (t5 7) fun t5x7_ =>
 bV q (t5 25) fun t5x25_ =>
 bV q (t5 26) fun t5x26_ =>
 bV q (t5 27) fun t5x27_ =>
 ifE e4 (.exit 2) (
 bS (nm G6) fun x7 G8 =>
 bP (ln Q q 85 t5x7_) fun x9 =>
 bLq q e 49 2 (subAt [1,1,0,1,0,0,1,1,0,0,1,1,1,1,0,1,0,0] (bodyOf Tryz.f49)) 125 t5 [(56,(.int .i64 0)),(55,x9),(54,t5x7_),(13,x7),(53,x7),(12,(.slice none 0 0))] [] G8 fun e10 t11 G12 =>
 bV q (t11 1) fun t11x1_ =>
 bV q (t11 8) fun t11x8_ =>
 bV q (t11 10) fun t11x10_ =>
 bV q (t11 12) fun t11x12_ =>
 bV q (t11 25) fun t11x25_ =>
 bV q (t11 26) fun t11x26_ =>
 bV q (t11 27) fun t11x27_ =>
 ifE e10 (.exit 4) (
 bP (bn Q q .shl 3 (.const (.int .i64 1)) (.tmp 113) (.int .i64 1) t11x10_) fun x13 =>
 bP (bn Q q .or 3 (.tmp 112) (.tmp 114) t11x8_ x13) fun x14 =>
 bP (bn Q q .add 3 (.tmp 27) (.const (.int .i64 1)) t11x27_ (.int .i64 1)) fun x15 =>
 lp (xq q 125 t11 [(27,x15),(116,x15),(8,x14),(7,t11x12_),(115,x14),(114,x13),(113,t11x10_),(112,t11x8_),(111,t11x12_)] [(1,t11x1_),(25,t11x25_),(26,t11x26_)]) (G12.room 7)) (none)) (ifE e4 .ret (
 some (.ret,xq q 125 t5 [] [(1,t5x1_),(25,t5x25_),(26,t5x26_),(27,t5x27_)],G6)) (none))) (
 some ((.exit 0),xq q 125 τ [(28,x0)] [(1,a1_),(25,a25_),(26,a26_),(27,a27_)],G))
theorem mb49_0 {e:Ex} {E:Ev} (h:ExLe Q e E) {lp lp':LpF} (hlp:LpLe lp lp') (τ:Env) (G:GS):Ref (b49_0 true e lp τ G) (b49_0 false (Ex.of E) lp' τ G):=by
 unfold b49_0
 exact Ref.gq
set_option maxHeartbeats 8000000 in
theorem l49_0 {orc:FuncId→Bool} {e:Ex} (h:ExLe Q e (E orc)) (lp:LpF) (hlp:∀ τ G,Ref (lp τ G) (mapE ((E orc).lp (subAt [1,1,0,1,0,0] (bodyOf Tryz.f49)) (lst 125 τ) G))) (T:List Value) (G:GS) (hT:T.length=125):Ref (b49_0 true e lp (nth undef T) G) (mapE ((E orc).lp (subAt [1,1,0,1,0,0] (bodyOf Tryz.f49)) T G)) :=
 fun r hr=>lp_sxN Q orc G hT (by kernel_rfl) (mb49_0 h ⟨hlp⟩ _ _ r hr)
def b49_1 (q:Bool) (e:Ex) (lp:LpF) (τ:Env) (G:GS):OL :=
 bV q (τ 1) fun a1_ =>
 bV q (τ 8) fun a8_ =>
 bV q (τ 10) fun a10_ =>
 bV q (τ 32) fun a32_ =>
 bV q (τ 33) fun a33_ =>
 bP (bn Q q .lss 3 (.tmp 33) (.tmp 32) a33_ a32_) fun x0 =>
 ifV x0 (
 bP (bn Q q .shr 3 (.tmp 36) (.tmp 37) a8_ a33_) fun x1 =>
 bP (bn Q q .and 3 (.tmp 38) (.const (.int .i64 1)) x1 (.int .i64 1)) fun x2 =>
 bP (bn Q q .eql 3 (.tmp 39) (.const (.int .i64 1)) x2 (.int .i64 1)) fun x3 =>
 bS (gV x3 true a1_ (G.room 16)) fun x4 _ =>
 bS (gV x3 true a10_ (G.room 16)) fun x5 _ =>
 bS (gP x3 true (ias Q q 38 10 x4 x5) (G.room 16)) fun x6 _ =>
 bS (gP x3 true (lda Q q 29 10 x6 (G.room 16)) (G.room 16)) fun x7 _ =>
 bS (gV x3 true a1_ (G.room 16)) fun x8 _ =>
 bS (gV x3 true a33_ (G.room 16)) fun x9 _ =>
 bS (gP x3 true (ias Q q 38 10 x8 x9) (G.room 16)) fun x10 _ =>
 bS (gP x3 true (lda Q q 29 10 x10 (G.room 16)) (G.room 16)) fun x11 _ =>
 bS (gS x3 true (e.ev.cl 21 [x7,x11] (G.room 16)) (G.room 16)) fun x13 G12 =>
 bP (pickV x3 x13 (.bool false)) fun x14 =>
 ifV x14 (
 some (.ret,xq q 125 τ [(6,(.bool false)),(51,x14),(50,x13),(49,x11),(48,x10),(47,x9),(46,x8),(45,x7),(44,x6),(43,x5),(42,x4),(41,x3),(40,x3),(39,x2),(38,x1),(37,a33_),(36,a8_),(11,a33_),(35,a33_),(34,x0)] [(1,a1_),(8,a8_),(10,a10_),(32,a32_),(33,a33_)],G12)) (
 bP (bn Q q .add 3 (.tmp 33) (.const (.int .i64 1)) a33_ (.int .i64 1)) fun x15 =>
 lp (xq q 125 τ [(33,x15),(52,x15),(51,x14),(50,x13),(49,x11),(48,x10),(47,x9),(46,x8),(45,x7),(44,x6),(43,x5),(42,x4),(41,x3),(40,x3),(39,x2),(38,x1),(37,a33_),(36,a8_),(11,a33_),(35,a33_),(34,x0)] [(1,a1_),(8,a8_),(10,a10_),(32,a32_)]) G12)) (
 some ((.exit 2),xq q 125 τ [(34,x0)] [(1,a1_),(8,a8_),(10,a10_),(32,a32_),(33,a33_)],G))
theorem mb49_1 {e:Ex} {E:Ev} (h:ExLe Q e E) {lp lp':LpF} (hlp:LpLe lp lp') (τ:Env) (G:GS):Ref (b49_1 true e lp τ G) (b49_1 false (Ex.of E) lp' τ G):=by
 unfold b49_1
 exact Ref.gq
set_option maxHeartbeats 8000000 in
theorem l49_1 {orc:FuncId→Bool} {e:Ex} (h:ExLe Q e (E orc)) (lp:LpF) (hlp:∀ τ G,Ref (lp τ G) (mapE ((E orc).lp (subAt [1,1,0,1,0,0,1,1,0,0,1,0,1,0,0] (bodyOf Tryz.f49)) (lst 125 τ) G))) (T:List Value) (G:GS) (hT:T.length=125):Ref (b49_1 true e lp (nth undef T) G) (mapE ((E orc).lp (subAt [1,1,0,1,0,0,1,1,0,0,1,0,1,0,0] (bodyOf Tryz.f49)) T G)) :=
 fun r hr=>lp_sxN Q orc G hT (by kernel_rfl) (mb49_1 h ⟨hlp⟩ _ _ r hr)
def b49_2 (q:Bool) (e:Ex) (lp:LpF) (τ:Env) (G:GS):OL :=
 bV q (τ 1) fun a1_ =>
 bV q (τ 3) fun a3_ =>
 bV q (τ 10) fun a10_ =>
 bV q (τ 54) fun a54_ =>
 bV q (τ 55) fun a55_ =>
 bV q (τ 56) fun a56_ =>
 bP (bn Q q .lss 3 (.tmp 56) (.tmp 55) a56_ a55_) fun x0 =>
 ifV x0 (
 bP (ias Q q 85 1 a54_ a56_) fun x1 =>
 bP (ld Q q 35 x1 G) fun x2 =>
 bP (lda Q q 119 4 a3_ (G.room 9)) fun x3 =>
 bP (ias Q q 38 10 a1_ a10_) fun x4 =>
 bP (lda Q q 29 10 x4 (G.room 9)) fun x5 =>
 bS (e.ev.cl 121 [x3,x2,x5] (G.room 9)) fun x7 G6 =>
 bP (ln Q q 180 x7) fun x8 =>
 bLq q e 49 3 (subAt [1,1,0,1,0,0,1,1,0,0,1,1,1,1,0,1,0,0,1,1,0,0,1,1,0,0] (bodyOf Tryz.f49)) 125 τ [(68,(.int .i64 0)),(67,x8),(66,x7),(65,x5),(64,x4),(63,a10_),(62,a1_),(61,x2),(60,x3),(15,x2),(59,x2),(58,x1),(57,x0)] [] G6 fun e9 t10 G11 =>
 bV q (t10 1) fun t10x1_ =>
 bV q (t10 3) fun t10x3_ =>
 bV q (t10 10) fun t10x10_ =>
 bV q (t10 54) fun t10x54_ =>
 bV q (t10 55) fun t10x55_ =>
 bV q (t10 56) fun t10x56_ =>
 ifE e9 (.exit 6) (
 bP (bn Q q .add 3 (.tmp 56) (.const (.int .i64 1)) t10x56_ (.int .i64 1)) fun x12 =>
 lp (xq q 125 t10 [(56,x12),(110,x12)] [(1,t10x1_),(3,t10x3_),(10,t10x10_),(54,t10x54_),(55,t10x55_)]) G11) (none)) (
 some ((.exit 4),xq q 125 τ [(57,x0)] [(1,a1_),(3,a3_),(10,a10_),(54,a54_),(55,a55_),(56,a56_)],G))
theorem mb49_2 {e:Ex} {E:Ev} (h:ExLe Q e E) {lp lp':LpF} (hlp:LpLe lp lp') (τ:Env) (G:GS):Ref (b49_2 true e lp τ G) (b49_2 false (Ex.of E) lp' τ G):=by
 unfold b49_2
 exact Ref.gq
set_option maxHeartbeats 8000000 in
theorem l49_2 {orc:FuncId→Bool} {e:Ex} (h:ExLe Q e (E orc)) (lp:LpF) (hlp:∀ τ G,Ref (lp τ G) (mapE ((E orc).lp (subAt [1,1,0,1,0,0,1,1,0,0,1,1,1,1,0,1,0,0] (bodyOf Tryz.f49)) (lst 125 τ) G))) (T:List Value) (G:GS) (hT:T.length=125):Ref (b49_2 true e lp (nth undef T) G) (mapE ((E orc).lp (subAt [1,1,0,1,0,0,1,1,0,0,1,1,1,1,0,1,0,0] (bodyOf Tryz.f49)) T G)) :=
 fun r hr=>lp_sxN Q orc G hT (by kernel_rfl) (mb49_2 h ⟨hlp⟩ _ _ r hr)
def b49_3 (q:Bool) (e:Ex) (lp:LpF) (τ:Env) (G:GS):OL :=
 bV q (τ 1) fun a1_ =>
 bV q (τ 3) fun a3_ =>
 bV q (τ 10) fun a10_ =>
 bV q (τ 12) fun a12_ =>
 bV q (τ 13) fun a13_ =>
 bV q (τ 15) fun a15_ =>
 bV q (τ 66) fun a66_ =>
 bV q (τ 67) fun a67_ =>
 bV q (τ 68) fun a68_ =>
 bP (bn Q q .lss 3 (.tmp 68) (.tmp 67) a68_ a67_) fun x0 =>
 ifV x0 (
 bP (ias Q q 180 3 a66_ a68_) fun x1 =>
 bP (lda Q q 27 3 x1 G) fun x2 =>
 bS (al Q q 27 z27 G) fun x3 G4 =>
 bP (st Q q 27 3 x3 x2 G4) fun G5 =>
 bP (fa Q q 119 1 1 a3_) fun x6 =>
 bP (ld Q q 115 x6 (G5.room 15)) fun x7 =>
 bP (ias Q q 38 10 a1_ a10_) fun x8 =>
 bP (fa Q q 29 3 3 x8) fun x9 =>
 bP (lda Q q 24 4 x9 (G5.room 15)) fun x10 =>
 bP (lda Q q 27 3 x3 (G5.room 15)) fun x11 =>
 bS (cValue e.ev x7 [a15_,x10,x11] (G5.room 15)) fun x13 G12 =>
 bP (pExtract x13 0) fun x14 =>
 bP (pExtract x13 1) fun x15 =>
 bP (un Q q .not x15) fun x16 =>
 ifV x16 (
 bP (bn Q q .add 3 (.tmp 68) (.const (.int .i64 1)) a68_ (.int .i64 1)) fun x17 =>
 lp (xq q 125 τ [(68,x17),(109,x17),(86,x16),(85,x15),(19,x15),(18,x14),(84,x15),(83,x14),(72,x13),(82,x13),(81,x11),(80,x10),(79,x9),(78,x8),(77,a10_),(76,a1_),(75,a15_),(74,x7),(73,x6),(17,x3),(71,x2),(70,x1),(69,x0)] [(1,a1_),(3,a3_),(10,a10_),(12,a12_),(13,a13_),(15,a15_),(66,a66_),(67,a67_)]) G12) (
 bP (fa Q q 119 3 3 a3_) fun x18 =>
 bP (ld Q q 117 x18 G12) fun x19 =>
 bS (cValue e.ev x19 [x14] G12) fun x20 G21 =>
 bP (gLookup Q 190 a13_ x20 true G21) fun x22 =>
 bP (pExtract x22 0) fun x23 =>
 bP (pExtract x22 1) fun x24 =>
 bP (un Q q .not x24) fun x25 =>
 ifV x25 (
 bP (fa Q q 119 3 3 a3_) fun x26 =>
 bP (ld Q q 117 x26 G21) fun x27 =>
 bS (cValue e.ev x27 [x14] G21) fun x28 G29 =>
 bP (ln Q q 85 a12_) fun x30 =>
 bP (gMapPut Q 190 a13_ x28 x30 G29) fun G31 =>
 bS (bs Q q 85 1 (rep z35 1) 1 [(0,0,1)] [x14] G31) fun x32 G33 =>
 bS (ap Q q 85 85 1 24 a12_ x32 G33) fun x34 G35 =>
 bP (bn Q q .add 3 (.tmp 68) (.const (.int .i64 1)) a68_ (.int .i64 1)) fun x36 =>
 lp (xq q 125 τ [(68,x36),(109,x36),(12,x34),(108,x34),(107,x32),(106,x14),(105,a12_),(104,x30),(103,a12_),(102,x28),(101,x14),(100,x27),(99,x26),(98,a13_),(97,x25),(96,x24),(21,x24),(20,x23),(95,x24),(94,x23),(87,x22),(93,x22),(92,x20),(91,x14),(90,x19),(89,x18),(88,a13_),(86,x16),(85,x15),(19,x15),(18,x14),(84,x15),(83,x14),(72,x13),(82,x13),(81,x11),(80,x10),(79,x9),(78,x8),(77,a10_),(76,a1_),(75,a15_),(74,x7),(73,x6),(17,x3),(71,x2),(70,x1),(69,x0)] [(1,a1_),(3,a3_),(10,a10_),(13,a13_),(15,a15_),(66,a66_),(67,a67_)]) G35) (
 bP (bn Q q .add 3 (.tmp 68) (.const (.int .i64 1)) a68_ (.int .i64 1)) fun x37 =>
 lp (xq q 125 τ [(68,x37),(109,x37),(97,x25),(96,x24),(21,x24),(20,x23),(95,x24),(94,x23),(87,x22),(93,x22),(92,x20),(91,x14),(90,x19),(89,x18),(88,a13_),(86,x16),(85,x15),(19,x15),(18,x14),(84,x15),(83,x14),(72,x13),(82,x13),(81,x11),(80,x10),(79,x9),(78,x8),(77,a10_),(76,a1_),(75,a15_),(74,x7),(73,x6),(17,x3),(71,x2),(70,x1),(69,x0)] [(1,a1_),(3,a3_),(10,a10_),(12,a12_),(13,a13_),(15,a15_),(66,a66_),(67,a67_)]) G21))) (
 some ((.exit 6),xq q 125 τ [(69,x0)] [(1,a1_),(3,a3_),(10,a10_),(12,a12_),(13,a13_),(15,a15_),(66,a66_),(67,a67_),(68,a68_)],G))
theorem mb49_3 {e:Ex} {E:Ev} (h:ExLe Q e E) {lp lp':LpF} (hlp:LpLe lp lp') (τ:Env) (G:GS):Ref (b49_3 true e lp τ G) (b49_3 false (Ex.of E) lp' τ G):=by
 unfold b49_3
 exact Ref.gq
set_option maxHeartbeats 8000000 in
theorem l49_3 {orc:FuncId→Bool} {e:Ex} (h:ExLe Q e (E orc)) (lp:LpF) (hlp:∀ τ G,Ref (lp τ G) (mapE ((E orc).lp (subAt [1,1,0,1,0,0,1,1,0,0,1,1,1,1,0,1,0,0,1,1,0,0,1,1,0,0] (bodyOf Tryz.f49)) (lst 125 τ) G))) (T:List Value) (G:GS) (hT:T.length=125):Ref (b49_3 true e lp (nth undef T) G) (mapE ((E orc).lp (subAt [1,1,0,1,0,0,1,1,0,0,1,1,1,1,0,1,0,0,1,1,0,0,1,1,0,0] (bodyOf Tryz.f49)) T G)) :=
 fun r hr=>lp_sxN Q orc G hT (by kernel_rfl) (mb49_3 h ⟨hlp⟩ _ _ r hr)
def s49 (q:Bool) (e:Ex) (v0 v1 v2:Value) (G:GS):OG :=
 bS (bx q v0 G) fun x0 G1 =>
 bP (fa Q q 119 0 0 x0) fun x2 =>
 bP (ld Q q 35 x2 G1) fun x3 =>
 bS (bs Q q 85 1 (rep z35 1) 1 [(0,0,1)] [x3] G1) fun x4 G5 =>
 bP (ln Q q 35 v2) fun x6 =>
 bLq q e 49 0 (subAt [1,1,0,1,0,0] (bodyOf Tryz.f49)) 125 (nth undef [v0,v1,v2]) [(27,(.int .i64 0)),(26,x6),(25,v2),(8,(.int .i64 0)),(7,x4),(24,x4),(23,x3),(22,x2),(6,(.bool false)),(3,x0)] [] G5 fun e7 t8 G9 =>
 bV q (t8 1) fun t8x1_ =>
 bV q (t8 6) fun t8x6_ =>
 bV q (t8 7) fun t8x7_ =>
 bV q (t8 8) fun t8x8_ =>
 ifE e7 (.exit 0) (
 bP (ln Q q 85 t8x7_) fun x10 =>
 bP (bn Q q .gtr 3 (.tmp 118) (.const (.int .i64 0)) x10 (.int .i64 0)) fun x11 =>
 bS (gV x11 true t8x1_ G9) fun x12 G13 =>
 bS (gV x11 true t8x8_ G13) fun x14 G15 =>
 bS (gS x11 true (e.ev.cl 101 [x12,x14] G15) G15) fun x16 G17 =>
 bP (pickV x11 x16 (.bool false)) fun x18 =>
 some (x18,G17)) (ifE e7 .ret (
 some (t8x6_,G9)) (none))
theorem m49 {e:Ex} {E:Ev} (h:ExLe Q e E) (v0 v1 v2:Value) (G:GS):Ref (s49 true e v0 v1 v2 G) (s49 false (Ex.of E) v0 v1 v2 G):=by
 unfold s49
 exact Ref.gq
set_option maxHeartbeats 8000000 in
theorem f49 {orc:FuncId→Bool} {e:Ex} (h:ExLe Q e (E orc)) (v0 v1 v2:Value) (G:GS):Ref (s49 true e v0 v1 v2 G) ((E orc).cl 49 [v0,v1,v2] G) :=
 fun r hr=>cl_sxE_some Q orc (vs:=[v0,v1,v2]) G Tryz.func49 (by kernel_rfl) (by kernel_rfl) (by kernel_rfl) (by kernel_rfl) (by kernel_rfl) (by kernel_rfl) (m49 h v0 v1 v2 G r hr)
def s50 (q:Bool) (e:Ex) (v0 v1:Value) (G:GS):OG :=
 bS (al Q q 29 z29 G) fun x0 G1 =>
 bP (bd Q q 24 z24 [(0,0,1)] [(.int .i64 2)]) fun x2 =>
 bP (bd Q q 27 z27 [(2,2,1)] [(.int .u64 5)]) fun x3 =>
 bS (e.ev.cl 9 [(.int .i64 2),v0,v1,x2,x3] G1) fun x4 G5 =>
 bP (st Q q 29 10 x0 x4 G5) fun G6 =>
 bP (lda Q q 29 10 x0 G6) fun x7 =>
 some (x7,G6)
theorem f50 (h:ExLe Q e (E orc)) (v0 v1:Value) (G:GS):Ref (s50 true e v0 v1 G) ((E orc).cl 50 [v0,v1] G):=cS (S:=fun q e=>s50 q e v0 v1 G) Tryz.func50 (by unfold s50; exact Ref.gq)
def s52 (q:Bool) (e:Ex) (v0 v1 v2 v3:Value) (G:GS):OG :=
 bS (bx q v2 G) fun x0 G1 =>
 bS (bx q v3 G1) fun x2 G3 =>
 bS (e.ev.cl 122 [v0,v1] G3) fun x4 G5 =>
 bP (bn Q q .neq 25 (.tmp 15) (.const (.int .i64 0)) x4 (.int .i64 0)) fun x6 =>
 ifV x6 (
 some (.tuple #[(.slice none 0 0),(.bool false)],G5)) (
 bS (e.ev.cl 124 [v1] (G5.room 13)) fun x8 G7 =>
 bP (lda Q q 24 4 x0 G7) fun x9 =>
 chk ((sameO (lda Q q 24 4 x0 (G5.room 13)) x9&&true)) <|
 bS (e.ev.cl 123 [v0,x8,x9] G7) fun x11 G10 =>
 bP (pExtract x11 0) fun x12 =>
 bP (pExtract x11 1) fun x13 =>
 bP (pExtract x11 2) fun x14 =>
 bS (al Q q 27 z27 (G10.at' (G5.nx+9))) fun x15 G16 =>
 bP (st Q q 27 3 x15 x12 (G16.back G10)) fun G17 =>
 bP (un Q q .not x14) fun x18 =>
 bS (gP x18 false (lda Q q 27 3 x15 G17) G17) fun x19 G20 =>
 bS (gP x18 false (lda Q q 27 3 x2 G20) G20) fun x21 G22 =>
 bS (gP x18 false (bn Q q .neq 27 (.tmp 29) (.tmp 30) x19 x21) G22) fun x23 G24 =>
 bP (pickV x18 (.bool true) x23) fun x25 =>
 ifV x25 (
 some (.tuple #[(.slice none 0 0),(.bool false)],G24)) (
 bS (cValue e.ev x13 [] G24) fun x26 G27 =>
 bS (e.ev.cl 125 [x26] G27) fun x28 G29 =>
 some (.tuple #[x28,(.bool true)],G29)))
theorem f52 (h:ExLe Q e (E orc)) (v0 v1 v2 v3:Value) (G:GS):Ref (s52 true e v0 v1 v2 v3 G) ((E orc).cl 52 [v0,v1,v2,v3] G):=cS (S:=fun q e=>s52 q e v0 v1 v2 v3 G) Tryz.func52 (by unfold s52; exact Ref.gq)
def s53 (q:Bool) (e:Ex) (v0 v1:Value) (G:GS):OG :=
 bS (bx q v1 G) fun x0 G1 =>
 bS (al Q q 27 z27 G1) fun x2 G3 =>
 fl q 24 0 0 3 x0 G3 fun x5 =>
 bP (bn Q q .lss 3 (.tmp 8) (.const (.int .i64 4)) x5 (.int .i64 4)) fun x6 =>
 bS (gP x6 false (fa Q q 24 0 0 x0) G3) fun x7 G8 =>
 bS (gP x6 false (ld Q q 3 x7 G8) G8) fun x9 G10 =>
 bS (gP x6 false (bn Q q .gtr 3 (.tmp 12) (.const (.int .i64 6)) x9 (.int .i64 6)) G10) fun x11 G12 =>
 bP (pickV x6 (.bool true) x11) fun x13 =>
 bS (gV x13 false v0 G12) fun x14 G15 =>
 bS (gS x13 false (e.ev.cl 126 [x14] G15) G15) fun x16 G17 =>
 bS (gP x13 false (bn Q q .neq 25 (.tmp 17) (.const (.int .i64 0)) x16 (.int .i64 0)) G17) fun x18 G19 =>
 bP (pickV x13 (.bool true) x18) fun x20 =>
 ifV x20 (
 bP (bd Q q 27 z27 [] []) fun x21 =>
 bP (st Q q 27 3 x2 x21 G19) fun G22 =>
 bP (lda Q q 27 3 x2 G22) fun x23 =>
 some (.tuple #[x23,(.bool false)],G22)) (
 bS (e.ev.cl 127 [] G19) fun x24 G25 =>
 bS (al Q q 206 z206 G25) fun x26 G27 =>
 bP (st Q q 206 3 x26 x24 G27) fun G28 =>
 fl q 24 0 0 3 x0 (G28.room 12) fun x30 =>
 bP (bn Q q .sub 3 (.tmp 23) (.const (.int .i64 4)) x30 (.int .i64 4)) fun x31 =>
 bP (iaa Q q 206 3 1 x26 x31) fun x32 =>
 bP (ld Q q 129 x32 (G28.room 12)) fun x33 =>
 bP (lda Q q 24 4 x0 (G28.room 12)) fun x34 =>
 bS (cValue e.ev x33 [v0,x34] (G28.room 12)) fun x36 G35 =>
 bP (pExtract x36 0) fun x37 =>
 bP (pExtract x36 1) fun x38 =>
 bP (st Q q 27 3 x2 x37 G35) fun G39 =>
 bP (lda Q q 27 3 x2 G39) fun x40 =>
 some (.tuple #[x40,x38],G39))
theorem f53 (h:ExLe Q e (E orc)) (v0 v1:Value) (G:GS):Ref (s53 true e v0 v1 G) ((E orc).cl 53 [v0,v1] G):=cS (S:=fun q e=>s53 q e v0 v1 G) Tryz.func53 (by unfold s53; exact Ref.gq)
def s54 (q:Bool) (e:Ex) (v0 v1 v2:Value) (G:GS):OG :=
 bS (bx q v1 G) fun x0 G1 =>
 bS (bx q v2 G1) fun x2 G3 =>
 bS (e.ev.cl 126 [v0] G3) fun x4 G5 =>
 bP (bn Q q .neq 25 (.tmp 14) (.const (.int .i64 0)) x4 (.int .i64 0)) fun x6 =>
 ifV x6 (
 some (.tuple #[(.slice none 0 0),(.bool false)],G5)) (
 fl q 24 0 0 3 x0 G5 fun x8 =>
 bP (bn Q q .eql 3 (.tmp 17) (.const (.int .i64 4)) x8 (.int .i64 4)) fun x9 =>
 bS (gP x9 true (lda Q q 27 3 x2 G5) G5) fun x10 G11 =>
 bS (gS x9 true (e.ev.cl 128 [x10] G11) G11) fun x12 G13 =>
 bP (pickV x9 x12 (.bool false)) fun x14 =>
 ifV x14 (
 bS (e.ev.cl 129 [v0] G13) fun x15 G16 =>
 some (.tuple #[x15,(.bool true)],G16)) (
 bP (lda Q q 24 4 x0 G13) fun x17 =>
 bS (e.ev.cl 53 [v0,x17] G13) fun x18 G19 =>
 bP (pExtract x18 0) fun x20 =>
 bP (pExtract x18 1) fun x21 =>
 bS (al Q q 27 z27 G19) fun x22 G23 =>
 bP (st Q q 27 3 x22 x20 G23) fun G24 =>
 bP (un Q q .not x21) fun x25 =>
 bS (gP x25 false (lda Q q 27 3 x22 G24) G24) fun x26 G27 =>
 bS (gP x25 false (lda Q q 27 3 x2 G27) G27) fun x28 G29 =>
 bS (gP x25 false (bn Q q .neq 27 (.tmp 34) (.tmp 35) x26 x28) G29) fun x30 G31 =>
 bP (pickV x25 (.bool true) x30) fun x32 =>
 ifV x32 (
 some (.tuple #[(.slice none 0 0),(.bool false)],G31)) (
 fl q 27 0 0 25 x2 G31 fun x34 =>
 bP (bn Q q .neq 25 (.tmp 40) (.const (.int .i64 0)) x34 (.int .i64 0)) fun x35 =>
 bS (gP x35 false (fa Q q 24 0 0 x0) G31) fun x36 G37 =>
 bS (gP x35 false (ld Q q 3 x36 G37) G37) fun x38 G39 =>
 bS (gP x35 false (bn Q q .eql 3 (.tmp 44) (.const (.int .i64 6)) x38 (.int .i64 6)) G39) fun x40 G41 =>
 bP (pickV x35 (.bool true) x40) fun x42 =>
 ifV x42 (
 bS (e.ev.cl 129 [v0] G41) fun x43 G44 =>
 some (.tuple #[x43,(.bool true)],G44)) (
 fl q 24 0 0 3 x0 G41 fun x46 =>
 bP (bn Q q .eql 3 (.tmp 51) (.const (.int .i64 5)) x46 (.int .i64 5)) fun x47 =>
 ifV x47 (
 bP (sl Q q 107 2 v0 (some (.int .i64 1)) none none G41) fun x48 =>
 bS (e.ev.cl 129 [x48] G41) fun x49 G50 =>
 some (.tuple #[x49,(.bool true)],G50)) (
 fl q 24 3 3 22 x0 G41 fun x52 =>
 bS (e.ev.cl 130 [v0,x52] G41) fun x53 G54 =>
 bP (pExtract x53 0) fun x55 =>
 bP (pExtract x53 1) fun x56 =>
 bP (sl Q q 107 2 v0 none (some x55) (some x55) (G54.room 13)) fun x57 =>
 bS (e.ev.cl 129 [x57] (G54.room 13)) fun x59 G58 =>
 bP (fa Q q 24 3 3 x0) fun x60 =>
 bP (ld Q q 22 x60 G58) fun x61 =>
 chk ((sameO (ld Q q 22 x60 (G54.room 13)) x61&&true)) <|
 bP (fa Q q 24 1 1 x0) fun x62 =>
 bP (ld Q q 3 x62 G58) fun x63 =>
 chk ((sameO (ld Q q 3 x62 (G54.room 13)) x63&&true)) <|
 bP (bd Q q 184 z184 [(0,0,1),(1,1,1)] [x61,x63]) fun x64 =>
 bS (bs Q q 107 1 (rep z184 1) 2 [(0,0,2)] [x64] (G58.at' (G54.nx+10))) fun x65 G66 =>
 bS (ap Q q 107 107 2 16 x59 x65 (G66.back G58)) fun x68 G67 =>
 bP (sl Q q 107 2 v0 (some x55) none none G67) fun x69 =>
 bS (ap Q q 107 107 2 16 x68 x69 G67) fun x70 G71 =>
 some (.tuple #[x70,(.bool true)],G71))))))
theorem f54 (h:ExLe Q e (E orc)) (v0 v1 v2:Value) (G:GS):Ref (s54 true e v0 v1 v2 G) ((E orc).cl 54 [v0,v1,v2] G):=cS (S:=fun q e=>s54 q e v0 v1 v2 G) Tryz.func54 (by unfold s54; exact Ref.gq)
def s98 (q:Bool) (e:Ex) (v0:Value) (G:GS):OG :=
 bP (es Q q false 35 (.tmp 3) (.const (.slice none 0 0)) v0 (.slice none 0 0)) fun x0 =>
 ifV x0 (
 some ((.slice none 0 0),G)) (
 bS (bs Q q 35 0 (rep z3 0) 1 [] [] G) fun x1 G2 =>
 bS (ap Q q 35 35 1 8 x1 v0 G2) fun x3 G4 =>
 some (x3,G4))
theorem f98 (h:ExLe Q e (E orc)) (v0:Value) (G:GS):Ref (s98 true e v0 G) ((E orc).cl 98 [v0] G):=cS (S:=fun q e=>s98 q e v0 G) Tryz.func98 (by unfold s98; exact Ref.gq)
def b99_0 (q:Bool) (e:Ex) (lp:LpF) (τ:Env) (G:GS):OL :=
 bV q (τ 3) fun a3_ =>
 bV q (τ 6) fun a6_ =>
 bV q (τ 7) fun a7_ =>
 bV q (τ 8) fun a8_ =>
 bP (bn Q q .lss 3 (.tmp 8) (.tmp 7) a8_ a7_) fun x0 =>
 ifV x0 (
 bP (ias Q q 38 10 a6_ a8_) fun x1 =>
 bP (lda Q q 29 10 x1 G) fun x2 =>
 bS (al Q q 29 z29 G) fun x3 G4 =>
 bP (st Q q 29 10 x3 x2 G4) fun G5 =>
 bP (fa Q q 29 2 2 x3) fun x6 =>
 bP (ld Q q 3 x6 G5) fun x7 =>
 bP (bn Q q .lss 3 (.tmp 13) (.const (.int .i64 0)) x7 (.int .i64 0)) fun x8 =>
 bS (gP x8 true (fa Q q 29 3 3 x3) G5) fun x9 G10 =>
 bS (gP x8 true (fa Q q 24 0 0 x9) G10) fun x11 G12 =>
 bS (gP x8 true (ld Q q 3 x11 G12) G12) fun x13 G14 =>
 bS (gP x8 true (bn Q q .eql 3 (.tmp 18) (.const (.int .i64 7)) x13 (.int .i64 7)) G14) fun x15 G16 =>
 bP (pickV x8 x15 (.bool false)) fun x17 =>
 ifV x17 (
 bP (bn Q q .add 3 (.tmp 21) (.const (.int .i64 1)) a3_ (.int .i64 1)) fun x18 =>
 bP (bn Q q .add 3 (.tmp 8) (.const (.int .i64 1)) a8_ (.int .i64 1)) fun x19 =>
 lp (xq q 25 τ [(8,x19),(23,x19),(3,x18),(22,x18),(21,a3_),(20,x17),(19,x15),(18,x13),(17,x11),(16,x9),(15,x8),(14,x8),(13,x7),(12,x6),(5,x3),(11,x2),(10,x1),(9,x0)] [(6,a6_),(7,a7_)]) G16) (
 bP (bn Q q .add 3 (.tmp 8) (.const (.int .i64 1)) a8_ (.int .i64 1)) fun x20 =>
 lp (xq q 25 τ [(8,x20),(23,x20),(20,x17),(19,x15),(18,x13),(17,x11),(16,x9),(15,x8),(14,x8),(13,x7),(12,x6),(5,x3),(11,x2),(10,x1),(9,x0)] [(3,a3_),(6,a6_),(7,a7_)]) G16)) (
 some ((.exit 0),xq q 25 τ [(9,x0)] [(3,a3_),(6,a6_),(7,a7_),(8,a8_)],G))
theorem l99_0 (h:ExLe Q e (E orc)):LT orc 25 (subAt [1,1,0,1,0,0] (bodyOf Tryz.f99)) (b99_0 true e):=cL fun hlp τ G=>by unfold b99_0; exact Ref.gq
def s99 (q:Bool) (e:Ex) (v0:Value) (G:GS):OG :=
 bP (ln Q q 38 v0) fun x0 =>
 bLq q e 99 0 (subAt [1,1,0,1,0,0] (bodyOf Tryz.f99)) 25 (nth undef [v0]) [(8,(.int .i64 0)),(7,x0),(6,v0),(3,(.int .i64 0)),(2,(.int .i64 0))] [] G fun e1 t2 G3 =>
 bV q (t2 3) fun t2x3_ =>
 ifE e1 (.exit 0) (
 some (t2x3_,G3)) (none)
theorem f99 (h:ExLe Q e (E orc)) (v0:Value) (G:GS):Ref (s99 true e v0 G) ((E orc).cl 99 [v0] G):=cS (S:=fun q e=>s99 q e v0 G) Tryz.func99 (by unfold s99; exact Ref.gq)
def s100 (q:Bool) (e:Ex) (v0 v1 v2:Value) (G:GS):OG :=
 bS (bx q v0 G) fun x0 G1 =>
 bS (al Q q 4 z4 G1) fun x2 G3 =>
 bP (lda Q q 104 4 x0 G3) fun x4 =>
 bS (e.ev.cl 171 [x4,v1,v2] G3) fun x5 G6 =>
 bX (xRange e.ev x5 #[11] (subAt [1,0,1,0,0] (bodyOf Tryz.f100)) (subAt [1,0,1,0,1] (bodyOf Tryz.f100)) (lsq q 12 (nth undef [v0,v1,v2]) [(10,x5),(9,v2),(8,v1),(7,x4),(6,x2),(3,x0)]) G6) fun e7 T8 G9 =>
 bV q (nth undef T8 6) fun T8x6_ =>
 ifE e7 .normal (
 bP (st Q q 4 1 T8x6_ (.bool false) G9) fun G10 =>
 bP (ld Q q 4 T8x6_ G10) fun x11 =>
 some (x11,G10)) (ifE e7 .ret (
 bP (ld Q q 4 T8x6_ G9) fun x12 =>
 some (x12,G9)) (none))
theorem f100 (h:ExLe Q e (E orc)) (v0 v1 v2:Value) (G:GS):Ref (s100 true e v0 v1 v2 G) ((E orc).cl 100 [v0,v1,v2] G):=cS (S:=fun q e=>s100 q e v0 v1 v2 G) Tryz.func100 (by unfold s100; exact Ref.gq)
def r100_0 (q:Bool) (e:Ex) (l:Nat) (τ:Env) (u0:Value) (G:GS):OG :=
 bV q (τ 6) fun a6_ =>
 bP (G.loop l) fun r0=>if r0.st= .ready then
 bP (st Q q 4 1 a6_ (.bool true) (G.putLoop l (Lp.setSt r0 .busy))) fun G1 =>
 roundEnd l .ret G1
 else none
theorem mr100_0 {e:Ex} {E:Ev} (h:ExLe Q e E) (l:Nat) (τ:Env) (u0:Value) (G:GS):Ref (r100_0 true e l τ u0 G) (r100_0 false (Ex.of E) l τ u0 G):=by
 unfold r100_0
 repeat' (with_reducible first | exact Ref.rfl' _ | exact ROp.r | refine Ref.bP ?_ fun _=>?_ | refine Ref.bS ?_ fun _ _=>?_ | exact Ref.cl (by assumption) | refine Ref.ifV ?_ ?_ | refine LpLe.rx (by assumption) ?_ | refine Ref.xitq ?_ | exact UOk.z | refine UOk.c (by assumption) ?_ | exact Ref.nil _ | refine Ref.bVe fun _ _=>?_ | refine Ref.bLq (by assumption) ?_ fun _ _ _=>?_ | refine Ref.ifE ?_ ?_ | refine Ref.chk ?_ ?_ | refine Imp.and ?_ ?_ | refine Imp.or ?_ | exact Imp.rfl' _ | refine Imp.sameO ?_ | refine Ref.gd ?_ | exact Ref.cValue (by assumption) | refine Ref.bX ?_ fun _ _ _=>?_ | exact Ref.scQ (by assumption) | exact Ref.xRangeQ (by assumption) | exact Ref.cInvoke (by assumption) | refine Ref.rdy ?_)
theorem d100_0 {orc:FuncId→Bool} {e:Ex} (h:ExLe Q e (E orc)) (l:Nat) (T:List Value) (u0:Value) (G:GS) {st:LoopState} {pend:Option Code} (hl:G.loop l=some ⟨st,pend,T,[11],(subAt [1,0,1,0,0] (bodyOf Tryz.f100)),(subAt [1,0,1,0,1] (bodyOf Tryz.f100))⟩) (hT:T.length=12):Ref (r100_0 true e l (nth undef T) u0 G) ((E orc).rd l [u0] G) :=
 fun r hr=>rd_sxE Q orc hl (by kernel_rfl) hT (by kernel_rfl) (mr100_0 h l _ u0 G r hr)
def b101_0 (q:Bool) (e:Ex) (lp:LpF) (τ:Env) (G:GS):OL :=
 bV q (τ 1) fun a1_ =>
 bV q (τ 7) fun a7_ =>
 bV q (τ 8) fun a8_ =>
 bV q (τ 9) fun a9_ =>
 bP (bn Q q .lss 3 (.tmp 9) (.tmp 8) a9_ a8_) fun x0 =>
 ifV x0 (
 bP (ias Q q 38 10 a7_ a9_) fun x1 =>
 bP (lda Q q 29 10 x1 G) fun x2 =>
 bS (al Q q 29 z29 G) fun x3 G4 =>
 bP (st Q q 29 10 x3 x2 G4) fun G5 =>
 bP (fa Q q 29 2 2 x3) fun x6 =>
 bP (ld Q q 3 x6 G5) fun x7 =>
 bP (bn Q q .geq 3 (.tmp 15) (.const (.int .i64 0)) x7 (.int .i64 0)) fun x8 =>
 bS (gV x8 true a1_ G5) fun x9 G10 =>
 bS (gV x8 true a9_ G10) fun x11 G12 =>
 bS (gP x8 true (bn Q q .shr 3 (.tmp 18) (.tmp 19) x9 x11) G12) fun x13 G14 =>
 bS (gP x8 true (bn Q q .and 3 (.tmp 20) (.const (.int .i64 1)) x13 (.int .i64 1)) G14) fun x15 G16 =>
 bS (gP x8 true (bn Q q .eql 3 (.tmp 21) (.const (.int .i64 0)) x15 (.int .i64 0)) G16) fun x17 G18 =>
 bP (pickV x8 x17 (.bool false)) fun x19 =>
 ifV x19 (
 some (.ret,xq q 25 τ [(4,(.bool false)),(23,x19),(22,x17),(21,x15),(20,x13),(19,x11),(18,x9),(17,x8),(16,x8),(15,x7),(14,x6),(5,a9_),(6,x3),(13,x2),(12,x1),(11,a9_),(10,x0)] [(1,a1_),(7,a7_),(8,a8_),(9,a9_)],G18)) (
 bP (bn Q q .add 3 (.tmp 9) (.const (.int .i64 1)) a9_ (.int .i64 1)) fun x20 =>
 lp (xq q 25 τ [(9,x20),(24,x20),(23,x19),(22,x17),(21,x15),(20,x13),(19,x11),(18,x9),(17,x8),(16,x8),(15,x7),(14,x6),(5,a9_),(6,x3),(13,x2),(12,x1),(11,a9_),(10,x0)] [(1,a1_),(7,a7_),(8,a8_)]) G18)) (
 some ((.exit 0),xq q 25 τ [(10,x0)] [(1,a1_),(7,a7_),(8,a8_),(9,a9_)],G))
theorem l101_0 (h:ExLe Q e (E orc)):LT orc 25 (subAt [1,0,1,0,0] (bodyOf Tryz.f101)) (b101_0 true e):=cL fun hlp τ G=>by unfold b101_0; exact Ref.gq
def s101 (q:Bool) (e:Ex) (v0 v1:Value) (G:GS):OG :=
 bP (ln Q q 38 v0) fun x0 =>
 bLq q e 101 0 (subAt [1,0,1,0,0] (bodyOf Tryz.f101)) 25 (nth undef [v0,v1]) [(9,(.int .i64 0)),(8,x0),(7,v0),(4,(.bool false))] [] G fun e1 t2 G3 =>
 bV q (t2 4) fun t2x4_ =>
 ifE e1 (.exit 0) (
 some ((.bool true),G3)) (ifE e1 .ret (
 some (t2x4_,G3)) (none))
theorem f101 (h:ExLe Q e (E orc)) (v0 v1:Value) (G:GS):Ref (s101 true e v0 v1 G) ((E orc).cl 101 [v0,v1] G):=cS (S:=fun q e=>s101 q e v0 v1 G) Tryz.func101 (by unfold s101; exact Ref.gq)
def b102_0 (q:Bool) (e:Ex) (lp:LpF) (τ:Env) (G:GS):OL :=
 bV q (τ 0) fun a0_ =>
 bV q (τ 1) fun a1_ =>
 bV q (τ 2) fun a2_ =>
 bV q (τ 14) fun a14_ =>
 bV q (τ 15) fun a15_ =>
 bV q (τ 16) fun a16_ =>
 bP (bn Q q .lss 3 (.tmp 16) (.tmp 15) a16_ a15_) fun x0 =>
 ifV x0 (
 bP (ias Q q 38 10 a14_ a16_) fun x1 =>
 bP (lda Q q 29 10 x1 G) fun x2 =>
 bS (al Q q 29 z29 G) fun x3 G4 =>
 bP (st Q q 29 10 x3 x2 G4) fun G5 =>
 bP (bn Q q .neq 3 (.tmp 21) (.tmp 22) a16_ a2_) fun x6 =>
 bS (gV x6 true a1_ (G5.room 18)) fun x7 _ =>
 bS (gV x6 true a16_ (G5.room 18)) fun x8 _ =>
 bS (gP x6 true (bn Q q .shr 3 (.tmp 25) (.tmp 26) x7 x8) (G5.room 18)) fun x9 _ =>
 bS (gP x6 true (bn Q q .and 3 (.tmp 27) (.const (.int .i64 1)) x9 (.int .i64 1)) (G5.room 18)) fun x10 _ =>
 bS (gP x6 true (bn Q q .eql 3 (.tmp 28) (.const (.int .i64 0)) x10 (.int .i64 0)) (G5.room 18)) fun x11 _ =>
 bP (pickV x6 x11 (.bool false)) fun x12 =>
 bS (gP x12 true (lda Q q 29 10 x3 (G5.room 18)) (G5.room 18)) fun x13 _ =>
 bS (gV x12 true a0_ (G5.room 18)) fun x14 _ =>
 bS (gV x12 true a2_ (G5.room 18)) fun x15 _ =>
 bS (gP x12 true (ias Q q 38 10 x14 x15) (G5.room 18)) fun x16 _ =>
 bS (gP x12 true (lda Q q 29 10 x16 (G5.room 18)) (G5.room 18)) fun x17 _ =>
 bS (gS x12 true (e.ev.cl 21 [x13,x17] (G5.room 18)) (G5.room 18)) fun x19 G18 =>
 bP (pickV x12 x19 (.bool false)) fun x20 =>
 ifV x20 (
 some (.ret,xq q 40 τ [(6,(.bool false)),(38,x20),(37,x19),(36,x17),(35,x16),(34,x15),(33,x14),(32,x13),(31,x12),(30,x12),(29,x11),(28,x10),(27,x9),(26,x8),(25,x7),(24,x6),(23,x6),(22,a2_),(21,a16_),(7,a16_),(8,x3),(20,x2),(19,x1),(18,a16_),(17,x0)] [(0,a0_),(1,a1_),(2,a2_),(14,a14_),(15,a15_),(16,a16_)],G18)) (
 bP (bn Q q .add 3 (.tmp 16) (.const (.int .i64 1)) a16_ (.int .i64 1)) fun x21 =>
 lp (xq q 40 τ [(16,x21),(39,x21),(38,x20),(37,x19),(36,x17),(35,x16),(34,x15),(33,x14),(32,x13),(31,x12),(30,x12),(29,x11),(28,x10),(27,x9),(26,x8),(25,x7),(24,x6),(23,x6),(22,a2_),(21,a16_),(7,a16_),(8,x3),(20,x2),(19,x1),(18,a16_),(17,x0)] [(0,a0_),(1,a1_),(2,a2_),(14,a14_),(15,a15_)]) G18)) (
 some ((.exit 0),xq q 40 τ [(17,x0)] [(0,a0_),(1,a1_),(2,a2_),(14,a14_),(15,a15_),(16,a16_)],G))
theorem l102_0 (h:ExLe Q e (E orc)):LT orc 40 (subAt [1,1,0,1,0,0] (bodyOf Tryz.f102)) (b102_0 true e):=cL fun hlp τ G=>by unfold b102_0; exact Ref.gq
def s102 (q:Bool) (e:Ex) (v0 v1 v2:Value) (G:GS):OG :=
 bP (bn Q q .shr 3 (.tmp 9) (.tmp 10) v1 v2) fun x0 =>
 bP (bn Q q .and 3 (.tmp 11) (.const (.int .i64 1)) x0 (.int .i64 1)) fun x1 =>
 bP (bn Q q .eql 3 (.tmp 12) (.const (.int .i64 1)) x1 (.int .i64 1)) fun x2 =>
 ifV x2 (
 some ((.bool false),G)) (
 bP (ln Q q 38 v0) fun x3 =>
 bLq q e 102 0 (subAt [1,1,0,1,0,0] (bodyOf Tryz.f102)) 40 (nth undef [v0,v1,v2]) [(16,(.int .i64 0)),(15,x3),(14,v0),(13,x2),(12,x1),(11,x0),(10,v2),(9,v1),(6,(.bool false))] [] G fun e4 t5 G6 =>
 bV q (t5 6) fun t5x6_ =>
 ifE e4 (.exit 0) (
 some ((.bool true),G6)) (ifE e4 .ret (
 some (t5x6_,G6)) (none)))
theorem f102 (h:ExLe Q e (E orc)) (v0 v1 v2:Value) (G:GS):Ref (s102 true e v0 v1 v2 G) ((E orc).cl 102 [v0,v1,v2] G):=cS (S:=fun q e=>s102 q e v0 v1 v2 G) Tryz.func102 (by unfold s102; exact Ref.gq)
def s103 (q:Bool) (e:Ex) (v0 v1 v2 v3:Value) (G:GS):OG :=
 bS (bx q v1 G) fun x0 G1 =>
 bS (bx q v2 G1) fun x2 G3 =>
 bP (ld Q q 3 v3 G3) fun x4 =>
 bP (lda Q q 24 4 x0 G3) fun x5 =>
 bP (lda Q q 27 3 x2 G3) fun x6 =>
 bS (e.ev.cl 52 [x4,v0,x5,x6] G3) fun x7 G8 =>
 bP (pExtract x7 0) fun x9 =>
 bP (pExtract x7 1) fun x10 =>
 some (.tuple #[x9,x10],G8)
theorem f103 (h:ExLe Q e (E orc)) (v0 v1 v2 v3:Value) (G:GS):Ref (s103 true e v0 v1 v2 v3 G) ((E orc).cl 103 [v0,v1,v2,v3] G):=cS (S:=fun q e=>s103 q e v0 v1 v2 v3 G) Tryz.func103 (by unfold s103; exact Ref.gq)
def s104 (q:Bool) (e:Ex) (v0 v1:Value) (G:GS):OG :=
 bS (bx q v1 G) fun x0 G1 =>
 fl q 24 0 0 3 x0 G1 fun x3 =>
 bP (bn Q q .neq 3 (.tmp 6) (.const (.int .i64 2)) x3 (.int .i64 2)) fun x4 =>
 ifV x4 (
 bP (bd Q q 27 z27 [] []) fun x5 =>
 bS (bs Q q 180 1 (rep z27 1) 3 [(0,0,3)] [x5] G1) fun x6 G7 =>
 some (x6,G7)) (
 bP (ln Q q 74 v0) fun x8 =>
 bP (bn Q q .eql 3 (.tmp 11) (.const (.int .i64 0)) x8 (.int .i64 0)) fun x9 =>
 ifV x9 (
 some ((.slice none 0 0),G1)) (
 bP (ias Q q 74 1 v0 (.int .i64 0)) fun x10 =>
 bP (ld Q q 22 x10 G1) fun x11 =>
 bP (bd Q q 27 z27 [(2,2,1)] [x11]) fun x12 =>
 bS (bs Q q 180 1 (rep z27 1) 3 [(0,0,3)] [x12] G1) fun x13 G14 =>
 some (x13,G14)))
theorem f104 (h:ExLe Q e (E orc)) (v0 v1:Value) (G:GS):Ref (s104 true e v0 v1 G) ((E orc).cl 104 [v0,v1] G):=cS (S:=fun q e=>s104 q e v0 v1 G) Tryz.func104 (by unfold s104; exact Ref.gq)
def s107 (q:Bool) (e:Ex) (v0 v1 v2:Value) (G:GS):OG :=
 bS (bx q v0 G) fun x0 G1 =>
 bS (al Q q 4 z4 G1) fun x2 G3 =>
 bP (lda Q q 112 4 x0 G3) fun x4 =>
 bS (e.ev.cl 173 [x4,v1,v2] G3) fun x5 G6 =>
 bX (xRange e.ev x5 #[11] (subAt [1,0,1,0,0] (bodyOf Tryz.f107)) (subAt [1,0,1,0,1] (bodyOf Tryz.f107)) (lsq q 12 (nth undef [v0,v1,v2]) [(10,x5),(9,v2),(8,v1),(7,x4),(6,x2),(3,x0)]) G6) fun e7 T8 G9 =>
 bV q (nth undef T8 6) fun T8x6_ =>
 ifE e7 .normal (
 bP (st Q q 4 1 T8x6_ (.bool false) G9) fun G10 =>
 bP (ld Q q 4 T8x6_ G10) fun x11 =>
 some (x11,G10)) (ifE e7 .ret (
 bP (ld Q q 4 T8x6_ G9) fun x12 =>
 some (x12,G9)) (none))
theorem f107 (h:ExLe Q e (E orc)) (v0 v1 v2:Value) (G:GS):Ref (s107 true e v0 v1 v2 G) ((E orc).cl 107 [v0,v1,v2] G):=cS (S:=fun q e=>s107 q e v0 v1 v2 G) Tryz.func107 (by unfold s107; exact Ref.gq)
def r107_0 (q:Bool) (e:Ex) (l:Nat) (τ:Env) (u0:Value) (G:GS):OG :=
 bV q (τ 6) fun a6_ =>
 bP (G.loop l) fun r0=>if r0.st= .ready then
 bP (st Q q 4 1 a6_ (.bool true) (G.putLoop l (Lp.setSt r0 .busy))) fun G1 =>
 roundEnd l .ret G1
 else none
theorem mr107_0 {e:Ex} {E:Ev} (h:ExLe Q e E) (l:Nat) (τ:Env) (u0:Value) (G:GS):Ref (r107_0 true e l τ u0 G) (r107_0 false (Ex.of E) l τ u0 G):=by
 unfold r107_0
 repeat' (with_reducible first | exact Ref.rfl' _ | exact ROp.r | refine Ref.bP ?_ fun _=>?_ | refine Ref.bS ?_ fun _ _=>?_ | exact Ref.cl (by assumption) | refine Ref.ifV ?_ ?_ | refine LpLe.rx (by assumption) ?_ | refine Ref.xitq ?_ | exact UOk.z | refine UOk.c (by assumption) ?_ | exact Ref.nil _ | refine Ref.bVe fun _ _=>?_ | refine Ref.bLq (by assumption) ?_ fun _ _ _=>?_ | refine Ref.ifE ?_ ?_ | refine Ref.chk ?_ ?_ | refine Imp.and ?_ ?_ | refine Imp.or ?_ | exact Imp.rfl' _ | refine Imp.sameO ?_ | refine Ref.gd ?_ | exact Ref.cValue (by assumption) | refine Ref.bX ?_ fun _ _ _=>?_ | exact Ref.scQ (by assumption) | exact Ref.xRangeQ (by assumption) | exact Ref.cInvoke (by assumption) | refine Ref.rdy ?_)
theorem d107_0 {orc:FuncId→Bool} {e:Ex} (h:ExLe Q e (E orc)) (l:Nat) (T:List Value) (u0:Value) (G:GS) {st:LoopState} {pend:Option Code} (hl:G.loop l=some ⟨st,pend,T,[11],(subAt [1,0,1,0,0] (bodyOf Tryz.f107)),(subAt [1,0,1,0,1] (bodyOf Tryz.f107))⟩) (hT:T.length=12):Ref (r107_0 true e l (nth undef T) u0 G) ((E orc).rd l [u0] G) :=
 fun r hr=>rd_sxE Q orc hl (by kernel_rfl) hT (by kernel_rfl) (mr107_0 h l _ u0 G r hr)
def s108 (q:Bool) (e:Ex) (v0 v1:Value) (G:GS):OG :=
 bS (bx q v1 G) fun x0 G1 =>
 fl q 24 0 0 3 x0 G1 fun x3 =>
 bP (bn Q q .neq 3 (.tmp 6) (.const (.int .i64 5)) x3 (.int .i64 5)) fun x4 =>
 bS (gP x4 true (fa Q q 24 0 0 x0) G1) fun x5 G6 =>
 bS (gP x4 true (ld Q q 3 x5 G6) G6) fun x7 G8 =>
 bS (gP x4 true (bn Q q .neq 3 (.tmp 10) (.const (.int .i64 6)) x7 (.int .i64 6)) G8) fun x9 G10 =>
 bP (pickV x4 x9 (.bool false)) fun x11 =>
 ifV x11 (
 bP (bd Q q 27 z27 [] []) fun x12 =>
 bS (bs Q q 180 1 (rep z27 1) 3 [(0,0,3)] [x12] G10) fun x13 G14 =>
 some (x13,G14)) (
 bP (ln Q q 107 v0) fun x15 =>
 bP (bn Q q .eql 3 (.tmp 16) (.const (.int .i64 0)) x15 (.int .i64 0)) fun x16 =>
 ifV x16 (
 some ((.slice none 0 0),G10)) (
 bP (ias Q q 107 2 v0 (.int .i64 0)) fun x17 =>
 fl q 184 1 1 3 x17 (G10.room 11) fun x19 =>
 bP (ias Q q 107 2 v0 (.int .i64 0)) fun x20 =>
 fl q 184 0 0 22 x20 (G10.room 11) fun x22 =>
 bP (bd Q q 27 z27 [(1,1,1),(2,2,1)] [x19,x22]) fun x23 =>
 bS (bs Q q 180 1 (rep z27 1) 3 [(0,0,3)] [x23] ((G10.room 11).at' (G10.nx+9))) fun x24 G25 =>
 some (x24,(G25.back (G10.room 11)))))
theorem f108 (h:ExLe Q e (E orc)) (v0 v1:Value) (G:GS):Ref (s108 true e v0 v1 G) ((E orc).cl 108 [v0,v1] G):=cS (S:=fun q e=>s108 q e v0 v1 G) Tryz.func108 (by unfold s108; exact Ref.gq)
def s111 (q:Bool) (e:Ex) (v0 v1 v2:Value) (G:GS):OG :=
 bS (bx q v0 G) fun x0 G1 =>
 bS (al Q q 4 z4 G1) fun x2 G3 =>
 bP (lda Q q 119 4 x0 G3) fun x4 =>
 bS (e.ev.cl 175 [x4,v1,v2] G3) fun x5 G6 =>
 bX (xRange e.ev x5 #[11] (subAt [1,0,1,0,0] (bodyOf Tryz.f111)) (subAt [1,0,1,0,1] (bodyOf Tryz.f111)) (lsq q 12 (nth undef [v0,v1,v2]) [(10,x5),(9,v2),(8,v1),(7,x4),(6,x2),(3,x0)]) G6) fun e7 T8 G9 =>
 bV q (nth undef T8 6) fun T8x6_ =>
 ifE e7 .normal (
 bP (st Q q 4 1 T8x6_ (.bool false) G9) fun G10 =>
 bP (ld Q q 4 T8x6_ G10) fun x11 =>
 some (x11,G10)) (ifE e7 .ret (
 bP (ld Q q 4 T8x6_ G9) fun x12 =>
 some (x12,G9)) (none))
theorem f111 (h:ExLe Q e (E orc)) (v0 v1 v2:Value) (G:GS):Ref (s111 true e v0 v1 v2 G) ((E orc).cl 111 [v0,v1,v2] G):=cS (S:=fun q e=>s111 q e v0 v1 v2 G) Tryz.func111 (by unfold s111; exact Ref.gq)
def r111_0 (q:Bool) (e:Ex) (l:Nat) (τ:Env) (u0:Value) (G:GS):OG :=
 bV q (τ 6) fun a6_ =>
 bP (G.loop l) fun r0=>if r0.st= .ready then
 bP (st Q q 4 1 a6_ (.bool true) (G.putLoop l (Lp.setSt r0 .busy))) fun G1 =>
 roundEnd l .ret G1
 else none
theorem mr111_0 {e:Ex} {E:Ev} (h:ExLe Q e E) (l:Nat) (τ:Env) (u0:Value) (G:GS):Ref (r111_0 true e l τ u0 G) (r111_0 false (Ex.of E) l τ u0 G):=by
 unfold r111_0
 repeat' (with_reducible first | exact Ref.rfl' _ | exact ROp.r | refine Ref.bP ?_ fun _=>?_ | refine Ref.bS ?_ fun _ _=>?_ | exact Ref.cl (by assumption) | refine Ref.ifV ?_ ?_ | refine LpLe.rx (by assumption) ?_ | refine Ref.xitq ?_ | exact UOk.z | refine UOk.c (by assumption) ?_ | exact Ref.nil _ | refine Ref.bVe fun _ _=>?_ | refine Ref.bLq (by assumption) ?_ fun _ _ _=>?_ | refine Ref.ifE ?_ ?_ | refine Ref.chk ?_ ?_ | refine Imp.and ?_ ?_ | refine Imp.or ?_ | exact Imp.rfl' _ | refine Imp.sameO ?_ | refine Ref.gd ?_ | exact Ref.cValue (by assumption) | refine Ref.bX ?_ fun _ _ _=>?_ | exact Ref.scQ (by assumption) | exact Ref.xRangeQ (by assumption) | exact Ref.cInvoke (by assumption) | refine Ref.rdy ?_)
theorem d111_0 {orc:FuncId→Bool} {e:Ex} (h:ExLe Q e (E orc)) (l:Nat) (T:List Value) (u0:Value) (G:GS) {st:LoopState} {pend:Option Code} (hl:G.loop l=some ⟨st,pend,T,[11],(subAt [1,0,1,0,0] (bodyOf Tryz.f111)),(subAt [1,0,1,0,1] (bodyOf Tryz.f111))⟩) (hT:T.length=12):Ref (r111_0 true e l (nth undef T) u0 G) ((E orc).rd l [u0] G) :=
 fun r hr=>rd_sxE Q orc hl (by kernel_rfl) hT (by kernel_rfl) (mr111_0 h l _ u0 G r hr)
def s112 (q:Bool) (e:Ex) (v0 v1:Value) (G:GS):OG :=
 bS (e.ev.cl 176 [v1] G) fun x0 G1 =>
 bS (al Q q 276 z276 G1) fun x2 G3 =>
 bP (st Q q 276 16 x2 x0 G3) fun G4 =>
 bS (e.ev.cl 177 [v0] G4) fun x5 G6 =>
 bS (e.ev.cl 178 [x5] G6) fun x7 G8 =>
 bX (xRange e.ev x7 #[12] (subAt [1,1,0,1,0,0] (bodyOf Tryz.f112)) (subAt [1,1,0,1,0,1] (bodyOf Tryz.f112)) (lsq q 18 (nth undef [v0,v1]) [(11,x7),(10,x5),(9,v0),(5,x2),(8,x0),(7,v1),(4,(.slice none 0 0))]) G8) fun e9 T10 G11 =>
 bV q (nth undef T10 5) fun T10x5_ =>
 ifE e9 .normal (
 bP (lda Q q 276 16 T10x5_ G11) fun x12 =>
 bS (e.ev.cl 180 [x12,(.int .i64 1024)] G11) fun x13 G14 =>
 some (x13,G14)) (none)
theorem f112 (h:ExLe Q e (E orc)) (v0 v1:Value) (G:GS):Ref (s112 true e v0 v1 G) ((E orc).cl 112 [v0,v1] G):=cS (S:=fun q e=>s112 q e v0 v1 G) Tryz.func112 (by unfold s112; exact Ref.gq)
def r112_0 (q:Bool) (e:Ex) (l:Nat) (τ:Env) (u0:Value) (G:GS):OG :=
 bV q (τ 5) fun a5_ =>
 bP (G.loop l) fun r0=>if r0.st= .ready then
 bP (lda Q q 276 16 a5_ (G.putLoop l (Lp.setSt r0 .busy))) fun x1 =>
 bS (e.ev.cl 179 [x1,u0] (G.putLoop l (Lp.setSt r0 .busy))) fun x2 G3 =>
 bP (st Q q 276 16 a5_ x2 G3) fun G4 =>
 roundEnd l .normal G4
 else none
theorem mr112_0 {e:Ex} {E:Ev} (h:ExLe Q e E) (l:Nat) (τ:Env) (u0:Value) (G:GS):Ref (r112_0 true e l τ u0 G) (r112_0 false (Ex.of E) l τ u0 G):=by
 unfold r112_0
 repeat' (with_reducible first | exact Ref.rfl' _ | exact ROp.r | refine Ref.bP ?_ fun _=>?_ | refine Ref.bS ?_ fun _ _=>?_ | exact Ref.cl (by assumption) | refine Ref.ifV ?_ ?_ | refine LpLe.rx (by assumption) ?_ | refine Ref.xitq ?_ | exact UOk.z | refine UOk.c (by assumption) ?_ | exact Ref.nil _ | refine Ref.bVe fun _ _=>?_ | refine Ref.bLq (by assumption) ?_ fun _ _ _=>?_ | refine Ref.ifE ?_ ?_ | refine Ref.chk ?_ ?_ | refine Imp.and ?_ ?_ | refine Imp.or ?_ | exact Imp.rfl' _ | refine Imp.sameO ?_ | refine Ref.gd ?_ | exact Ref.cValue (by assumption) | refine Ref.bX ?_ fun _ _ _=>?_ | exact Ref.scQ (by assumption) | exact Ref.xRangeQ (by assumption) | exact Ref.cInvoke (by assumption) | refine Ref.rdy ?_)
theorem d112_0 {orc:FuncId→Bool} {e:Ex} (h:ExLe Q e (E orc)) (l:Nat) (T:List Value) (u0:Value) (G:GS) {st:LoopState} {pend:Option Code} (hl:G.loop l=some ⟨st,pend,T,[12],(subAt [1,1,0,1,0,0] (bodyOf Tryz.f112)),(subAt [1,1,0,1,0,1] (bodyOf Tryz.f112))⟩) (hT:T.length=18):Ref (r112_0 true e l (nth undef T) u0 G) ((E orc).rd l [u0] G) :=
 fun r hr=>rd_sxE Q orc hl (by kernel_rfl) hT (by kernel_rfl) (mr112_0 h l _ u0 G r hr)
def jb113_0 (q:Bool) (e:Ex) (τ:Env) (G:GS):OG :=
 bV q (τ 8) fun a8_ =>
 bP (lda Q q 276 16 a8_ G) fun x12 =>
 bS (e.ev.cl 180 [x12,(.int .i64 1024)] G) fun x13 G14 =>
 some (.tuple #[x13,(.bool true)],G14)
def j113_0 (q:Bool) (e:Ex) (τ:Env) (G:GS):OG:=jb113_0 q e τ G
theorem mj113_0 {e:Ex} {E:Ev} (h:ExLe Q e E) (τ:Env) (G:GS):Ref (j113_0 true e τ G) (j113_0 false (Ex.of E) τ G):=by
 unfold j113_0 jb113_0
 exact Ref.gq
theorem mkj113_0 {e:Ex} {E:Ev} (h:ExLe Q e E) {τ:Env} {l U:List (Nat×Value)} {G:GS} (hU:UOk τ U):Ref (j113_0 true e (xq true 72 τ l U) G) (j113_0 false (Ex.of E) (xq false 72 τ l U) G):=by
 rw [xq_eq hU]
 exact mj113_0 h _ _
def sb113 (q:Bool) (e:Ex) (J0:Env→GS→OG) (v0 v1 v2:Value) (G:GS):OG :=
 bS (bx q v1 G) fun x0 G1 =>
 bS (bx q v2 G1) fun x2 G3 =>
 bS (e.ev.cl 181 [v0] G3) fun x4 G5 =>
 bP (bn Q q .neq 25 (.tmp 14) (.const (.int .i64 0)) x4 (.int .i64 0)) fun x6 =>
 ifV x6 (
 some (.tuple #[(.slice none 0 0),(.bool false)],G5)) (
 bS (e.ev.cl 177 [v0] G5) fun x7 G8 =>
 bS (al Q q 276 z276 G8) fun x9 G10 =>
 bP (st Q q 276 16 x9 x7 G10) fun G11 =>
 bP (fa Q q 24 0 0 x0) fun x15 =>
 bP (ld Q q 3 x15 G11) fun x16 =>
 bP (bn Q q .eql 3 (.tmp 19) (.const (.int .i64 8)) x16 (.int .i64 8)) fun x17 =>
 ifV x17 (
 bP (lda Q q 276 16 x9 G11) fun x18 =>
 bP (fa Q q 24 1 1 x0) fun x19 =>
 bP (ld Q q 3 x19 G11) fun x20 =>
 bS (e.ev.cl 182 [x18,x20] G11) fun x21 G22 =>
 bP (pExtract x21 0) fun x23 =>
 bP (pExtract x21 1) fun x24 =>
 bS (al Q q 27 z27 G22) fun x25 G26 =>
 bS (al Q q 276 z276 G26) fun x27 G28 =>
 bP (st Q q 27 3 x25 x23 G28) fun G29 =>
 bP (st Q q 276 16 x27 x24 G29) fun G30 =>
 bP (lda Q q 27 3 x25 G30) fun x31 =>
 bP (lda Q q 27 3 x2 G30) fun x32 =>
 bP (bn Q q .neq 27 (.tmp 29) (.tmp 30) x31 x32) fun x33 =>
 ifV x33 (
 some (.tuple #[(.slice none 0 0),(.bool false)],G30)) (
 bP (lda Q q 276 16 x27 G30) fun x34 =>
 bP (st Q q 276 16 x9 x34 G30) fun G35 =>
 J0 (xq q 72 (nth undef [v0,v1,v2]) [(32,x34),(31,x33),(30,x32),(29,x31),(10,x27),(9,x25),(28,x24),(27,x23),(22,x21),(26,x21),(25,x20),(24,x19),(23,x18),(20,x17),(21,x17),(19,x16),(18,x15),(8,x9),(17,x7),(16,v0),(15,x6),(14,x4),(13,v0),(7,(.bool false)),(6,(.slice none 0 0)),(5,x2),(4,x0)] []) G35)) (
 bP (bn Q q .eql 3 (.tmp 19) (.const (.int .i64 7)) x16 (.int .i64 7)) fun x36 =>
 ifV x36 (
 bP (lda Q q 27 3 x2 G11) fun x37 =>
 bP (bd Q q 27 z27 [(0,0,1)] [(.int .i64 7)]) fun x38 =>
 bP (bn Q q .eql 27 (.tmp 35) (.tmp 36) x37 x38) fun x39 =>
 bS (gP x39 false (lda Q q 27 3 x2 G11) G11) fun x40 G41 =>
 bS (gP x39 false (bd Q q 27 z27 [(0,0,1)] [(.int .i64 12)]) G41) fun x42 G43 =>
 bS (gP x39 false (bn Q q .eql 27 (.tmp 39) (.tmp 40) x40 x42) G43) fun x44 G45 =>
 bP (pickV x39 (.bool true) x44) fun x46 =>
 bP (fa Q q 27 1 1 x2) fun x47 =>
 bP (ld Q q 3 x47 G45) fun x48 =>
 bS (e.ev.cl 183 [x48] G45) fun x49 G50 =>
 bS (gP x49 true (lda Q q 27 3 x2 G50) G50) fun x51 G52 =>
 bS (gP x49 true (fa Q q 27 1 1 x2) G52) fun x53 G54 =>
 bS (gP x49 true (ld Q q 3 x53 G54) G54) fun x55 G56 =>
 bS (gP x49 true (bd Q q 27 z27 [(1,1,1)] [x55]) G56) fun x57 G58 =>
 bS (gP x49 true (bn Q q .eql 27 (.tmp 47) (.tmp 50) x51 x57) G58) fun x59 G60 =>
 bP (pickV x49 x59 (.bool false)) fun x61 =>
 bS (gP x61 true (lda Q q 276 16 x9 G60) G60) fun x62 G63 =>
 bS (gP x61 true (fa Q q 27 1 1 x2) G63) fun x64 G65 =>
 bS (gP x61 true (ld Q q 3 x64 G65) G65) fun x66 G67 =>
 bS (gS x61 true (e.ev.cl 184 [x62,x66] G67) G67) fun x68 G69 =>
 bP (pickV x61 x68 (.bool false)) fun x70 =>
 bP (un Q q .not x46) fun x71 =>
 bS (gV x71 true x70 G69) fun x72 G73 =>
 bS (gP x71 true (un Q q .not x72) G73) fun x74 G75 =>
 bP (pickV x71 x74 (.bool false)) fun x76 =>
 ifV x76 (
 some (.tuple #[(.slice none 0 0),(.bool false)],G75)) (
 ifV x70 (
 bP (lda Q q 276 16 x9 G75) fun x77 =>
 bP (fa Q q 27 1 1 x2) fun x78 =>
 bP (ld Q q 3 x78 G75) fun x79 =>
 bS (e.ev.cl 179 [x77,x79] G75) fun x80 G81 =>
 bP (st Q q 276 16 x9 x80 G81) fun G82 =>
 J0 (xq q 72 (nth undef [v0,v1,v2]) [(69,x80),(68,x79),(67,x78),(66,x77),(65,x70),(64,x76),(63,x74),(62,x72),(61,x71),(60,x71),(59,x46),(12,x70),(58,x70),(57,x68),(56,x66),(55,x64),(54,x62),(53,x61),(52,x61),(51,x59),(50,x57),(49,x55),(48,x53),(47,x51),(46,x49),(45,x49),(44,x48),(43,x47),(11,x46),(42,x46),(41,x44),(40,x42),(39,x40),(38,x39),(37,x39),(36,x38),(35,x37),(33,x36),(34,x36),(20,x17),(21,x17),(19,x16),(18,x15),(8,x9),(17,x7),(16,v0),(15,x6),(14,x4),(13,v0),(7,(.bool false)),(6,(.slice none 0 0)),(5,x2),(4,x0)] []) G82) (
 J0 (xq q 72 (nth undef [v0,v1,v2]) [(65,x70),(64,x76),(63,x74),(62,x72),(61,x71),(60,x71),(59,x46),(12,x70),(58,x70),(57,x68),(56,x66),(55,x64),(54,x62),(53,x61),(52,x61),(51,x59),(50,x57),(49,x55),(48,x53),(47,x51),(46,x49),(45,x49),(44,x48),(43,x47),(11,x46),(42,x46),(41,x44),(40,x42),(39,x40),(38,x39),(37,x39),(36,x38),(35,x37),(33,x36),(34,x36),(20,x17),(21,x17),(19,x16),(18,x15),(8,x9),(17,x7),(16,v0),(15,x6),(14,x4),(13,v0),(7,(.bool false)),(6,(.slice none 0 0)),(5,x2),(4,x0)] []) G75))) (
 some (.tuple #[(.slice none 0 0),(.bool false)],G11))))
def s113 (q:Bool) (e:Ex) (v0 v1 v2:Value) (G:GS):OG:=sb113 q e (j113_0 q e) v0 v1 v2 G
theorem m113 {e:Ex} {E:Ev} (h:ExLe Q e E) (v0 v1 v2:Value) (G:GS):Ref (s113 true e v0 v1 v2 G) (s113 false (Ex.of E) v0 v1 v2 G):=by
 unfold s113 sb113
 have j0:=@mkj113_0 e E h
 exact Ref.gj
def jt113 (J0:Env→GS→OG):JT (Value×GS) :=
 (.n none .e (.n none .e (.n none .e (.n (some (fun T G=>J0 (nth undef T) G)) .e .e))))
theorem jr113_0 (orc:FuncId→Bool) (J0:Env→GS→OG) (T:List Value) (G:GS):runC Q (evL Q orc) Tryz.f113.ntmps (jt113 J0) (bodyOf Tryz.f113) (retE Q Tryz.f113.results.toList) [true,true,true] (nth undef T) G=jb113_0 false (Ex.of (E orc))  (nth undef T) G:=by kernel_rfl
theorem jo113 (orc:FuncId→Bool):JOk Q orc Tryz.f113.ntmps (jt113 (j113_0 false (Ex.of (E orc))) ) (bodyOf Tryz.f113) (retE Q Tryz.f113.results.toList) :=
 jOk Q orc (l:=[([true,true,true],(fun T G=>j113_0 false (Ex.of (E orc)) (nth undef T) G))]) (by kernel_rfl) (AllE.c (fun T G=>jr113_0 orc (j113_0 false (Ex.of (E orc))) T G) (AllE.z))
theorem je113 (orc:FuncId→Bool) (J0:Env→GS→OG) (v0 v1 v2:Value) (G:GS):sxC Q (evL Q orc) Tryz.f113.ntmps (jt113 J0) (bodyOf Tryz.f113) (nth undef [v0,v1,v2]) G (retE Q Tryz.f113.results.toList)=sb113 false (Ex.of (E orc)) J0 v0 v1 v2 G:=by kernel_rfl
theorem f113 {orc:FuncId→Bool} {e:Ex} (h:ExLe Q e (E orc)) (v0 v1 v2:Value) (G:GS):Ref (s113 true e v0 v1 v2 G) ((E orc).cl 113 [v0,v1,v2] G) :=
 fun r hr=>cl_sxC Q orc (vs:=[v0,v1,v2]) G (jt113 (j113_0 false (Ex.of (E orc))) ) Tryz.func113 (by kernel_rfl) (by kernel_rfl) (by kernel_rfl) (by kernel_rfl) (by kernel_rfl) (jo113 orc) (je113 orc (j113_0 false (Ex.of (E orc))) v0 v1 v2 G) (m113 h v0 v1 v2 G r hr)
def b114_0 (q:Bool) (e:Ex) (lp:LpF) (τ:Env) (G:GS):OL :=
 bV q (τ 5) fun a5_ =>
 bV q (τ 13) fun a13_ =>
 bV q (τ 14) fun a14_ =>
 bV q (τ 15) fun a15_ =>
 bP (bn Q q .lss 3 (.tmp 15) (.tmp 14) a15_ a14_) fun x0 =>
 ifV x0 (
 bP (ias Q q 35 1 a13_ a15_) fun x1 =>
 bP (ld Q q 3 x1 G) fun x2 =>
 bP (bd Q q 27 z27 [(1,1,1)] [x2]) fun x3 =>
 bS (bs Q q 180 1 (rep z27 1) 3 [(0,0,3)] [x3] G) fun x4 G5 =>
 bS (ap Q q 180 180 3 24 a5_ x4 G5) fun x6 G7 =>
 bP (bn Q q .add 3 (.tmp 15) (.const (.int .i64 1)) a15_ (.int .i64 1)) fun x8 =>
 lp (xq q 26 τ [(15,x8),(24,x8),(5,x6),(23,x6),(22,x4),(21,x3),(20,x2),(19,a5_),(7,x2),(18,x2),(17,x1),(16,x0)] [(13,a13_),(14,a14_)]) G7) (
 some ((.exit 0),xq q 26 τ [(16,x0)] [(5,a5_),(13,a13_),(14,a14_),(15,a15_)],G))
theorem l114_0 (h:ExLe Q e (E orc)):LT orc 26 (subAt [1,1,1,0,1,0,0] (bodyOf Tryz.f114)) (b114_0 true e):=cL fun hlp τ G=>by unfold b114_0; exact Ref.gq
def s114 (q:Bool) (e:Ex) (v0 v1:Value) (G:GS):OG :=
 bS (bx q v1 G) fun x0 G1 =>
 bP (fa Q q 24 0 0 x0) fun x2 =>
 bP (ld Q q 3 x2 G1) fun x3 =>
 bP (bn Q q .neq 3 (.tmp 9) (.const (.int .i64 7)) x3 (.int .i64 7)) fun x4 =>
 ifV x4 (
 bP (bd Q q 27 z27 [] []) fun x5 =>
 bS (bs Q q 180 1 (rep z27 1) 3 [(0,0,3)] [x5] G1) fun x6 G7 =>
 some (x6,G7)) (
 bP (ln Q q 35 v0) fun x8 =>
 bLq q e 114 0 (subAt [1,1,1,0,1,0,0] (bodyOf Tryz.f114)) 26 (nth undef [v0,v1]) [(15,(.int .i64 0)),(14,x8),(13,v0),(5,(.slice none 0 0)),(10,x4),(9,x3),(8,x2),(4,(.slice none 0 0)),(3,x0)] [] G1 fun e9 t10 G11 =>
 bV q (t10 5) fun t10x5_ =>
 ifE e9 (.exit 0) (
 some (t10x5_,G11)) (none))
theorem f114 (h:ExLe Q e (E orc)) (v0 v1:Value) (G:GS):Ref (s114 true e v0 v1 G) ((E orc).cl 114 [v0,v1] G):=cS (S:=fun q e=>s114 q e v0 v1 G) Tryz.func114 (by unfold s114; exact Ref.gq)
def b116_0 (q:Bool) (e:Ex) (lp:LpF) (τ:Env) (G:GS):OL :=
 bV q (τ 0) fun a0_ =>
 bV q (τ 1) fun a1_ =>
 bV q (τ 7) fun a7_ =>
 bV q (τ 8) fun a8_ =>
 bP (bn Q q .lss 3 (.tmp 8) (.tmp 7) a8_ a7_) fun x0 =>
 ifV x0 (
 bP (ias Q q 38 10 a0_ a8_) fun x1 =>
 bP (lda Q q 29 10 x1 G) fun x2 =>
 bS (cValue e.ev a1_ [x2] G) fun x3 G4 =>
 ifV x3 (
 some (.ret,xq q 19 τ [(4,a8_),(17,a8_),(16,x3),(15,x2),(14,x1),(13,a8_),(12,a0_),(11,a1_),(5,a8_),(10,a8_),(9,x0)] [(0,a0_),(1,a1_),(7,a7_),(8,a8_)],G4)) (
 bP (bn Q q .add 3 (.tmp 8) (.const (.int .i64 1)) a8_ (.int .i64 1)) fun x5 =>
 lp (xq q 19 τ [(8,x5),(18,x5),(16,x3),(15,x2),(14,x1),(13,a8_),(12,a0_),(11,a1_),(5,a8_),(10,a8_),(9,x0)] [(0,a0_),(1,a1_),(7,a7_)]) G4)) (
 some ((.exit 0),xq q 19 τ [(9,x0)] [(0,a0_),(1,a1_),(7,a7_),(8,a8_)],G))
theorem l116_0 (h:ExLe Q e (E orc)):LT orc 19 (subAt [1,0,1,0,0] (bodyOf Tryz.f116)) (b116_0 true e):=cL fun hlp τ G=>by unfold b116_0; exact Ref.gq
def s116 (q:Bool) (e:Ex) (v0 v1:Value) (G:GS):OG :=
 bP (ln Q q 38 v0) fun x0 =>
 bLq q e 116 0 (subAt [1,0,1,0,0] (bodyOf Tryz.f116)) 19 (nth undef [v0,v1]) [(8,(.int .i64 0)),(7,x0),(6,v0),(4,(.int .i64 0))] [] G fun e1 t2 G3 =>
 bV q (t2 4) fun t2x4_ =>
 ifE e1 (.exit 0) (
 some ((.int .i64 (-1)),G3)) (ifE e1 .ret (
 some (t2x4_,G3)) (none))
theorem f116 (h:ExLe Q e (E orc)) (v0 v1:Value) (G:GS):Ref (s116 true e v0 v1 G) ((E orc).cl 116 [v0,v1] G):=cS (S:=fun q e=>s116 q e v0 v1 G) Tryz.func116 (by unfold s116; exact Ref.gq)
def s117 (q:Bool) (e:Ex) (v0 v1:Value) (G:GS):OG :=
 bS (bx q v0 G) fun x0 G1 =>
 fl q 29 0 0 3 x0 G1 fun x3 =>
 bP (ld Q q 3 v1 G1) fun x4 =>
 bP (bn Q q .eql 3 (.tmp 5) (.tmp 6) x3 x4) fun x5 =>
 some (x5,G1)
theorem f117 (h:ExLe Q e (E orc)) (v0 v1:Value) (G:GS):Ref (s117 true e v0 v1 G) ((E orc).cl 117 [v0,v1] G):=cS (S:=fun q e=>s117 q e v0 v1 G) Tryz.func117 (by unfold s117; exact Ref.gq)
def s118 (q:Bool) (e:Ex) (v0 v1:Value) (G:GS):OG :=
 bS (e.ev.cl 185 [v0,v1] G) fun x0 G1 =>
 bP (bn Q q .geq 3 (.tmp 7) (.const (.int .i64 0)) x0 (.int .i64 0)) fun x2 =>
 some (x2,G1)
theorem f118 (h:ExLe Q e (E orc)) (v0 v1:Value) (G:GS):Ref (s118 true e v0 v1 G) ((E orc).cl 118 [v0,v1] G):=cS (S:=fun q e=>s118 q e v0 v1 G) Tryz.func118 (by unfold s118; exact Ref.gq)
def s119 (q:Bool) (e:Ex) (v0 v1 v2:Value) (G:GS):OG :=
 bS (bx q v0 G) fun x0 G1 =>
 bS (bx q v2 G1) fun x2 G3 =>
 fl q 29 2 2 3 x2 G3 fun x5 =>
 bP (bn Q q .geq 3 (.tmp 8) (.const (.int .i64 0)) x5 (.int .i64 0)) fun x6 =>
 ifV x6 (
 bP (fa Q q 29 4 7 x2) fun x7 =>
 bP (lda Q q 27 3 x7 G3) fun x8 =>
 bS (bs Q q 180 1 (rep z27 1) 3 [(0,0,3)] [x8] G3) fun x9 G10 =>
 some (x9,G10)) (
 fl q 104 2 2 101 x0 G3 fun x12 =>
 bP (fa Q q 29 3 3 x2) fun x13 =>
 bP (lda Q q 24 4 x13 G3) fun x14 =>
 bS (cValue e.ev x12 [v1,x14] G3) fun x15 G16 =>
 some (x15,G16))
theorem f119 (h:ExLe Q e (E orc)) (v0 v1 v2:Value) (G:GS):Ref (s119 true e v0 v1 v2 G) ((E orc).cl 119 [v0,v1,v2] G):=cS (S:=fun q e=>s119 q e v0 v1 v2 G) Tryz.func119 (by unfold s119; exact Ref.gq)
def s120 (q:Bool) (e:Ex) (v0 v1 v2:Value) (G:GS):OG :=
 bS (bx q v0 G) fun x0 G1 =>
 bS (bx q v2 G1) fun x2 G3 =>
 fl q 29 2 2 3 x2 G3 fun x5 =>
 bP (bn Q q .geq 3 (.tmp 8) (.const (.int .i64 0)) x5 (.int .i64 0)) fun x6 =>
 ifV x6 (
 bP (fa Q q 29 4 7 x2) fun x7 =>
 bP (lda Q q 27 3 x7 G3) fun x8 =>
 bS (bs Q q 180 1 (rep z27 1) 3 [(0,0,3)] [x8] G3) fun x9 G10 =>
 some (x9,G10)) (
 fl q 112 2 2 109 x0 G3 fun x12 =>
 bP (fa Q q 29 3 3 x2) fun x13 =>
 bP (lda Q q 24 4 x13 G3) fun x14 =>
 bS (cValue e.ev x12 [v1,x14] G3) fun x15 G16 =>
 some (x15,G16))
theorem f120 (h:ExLe Q e (E orc)) (v0 v1 v2:Value) (G:GS):Ref (s120 true e v0 v1 v2 G) ((E orc).cl 120 [v0,v1,v2] G):=cS (S:=fun q e=>s120 q e v0 v1 v2 G) Tryz.func120 (by unfold s120; exact Ref.gq)
def s121 (q:Bool) (e:Ex) (v0 v1 v2:Value) (G:GS):OG :=
 bS (bx q v0 G) fun x0 G1 =>
 bS (bx q v2 G1) fun x2 G3 =>
 fl q 29 2 2 3 x2 G3 fun x5 =>
 bP (bn Q q .geq 3 (.tmp 8) (.const (.int .i64 0)) x5 (.int .i64 0)) fun x6 =>
 ifV x6 (
 bP (fa Q q 29 4 7 x2) fun x7 =>
 bP (lda Q q 27 3 x7 G3) fun x8 =>
 bS (bs Q q 180 1 (rep z27 1) 3 [(0,0,3)] [x8] G3) fun x9 G10 =>
 some (x9,G10)) (
 fl q 119 2 2 116 x0 G3 fun x12 =>
 bP (fa Q q 29 3 3 x2) fun x13 =>
 bP (lda Q q 24 4 x13 G3) fun x14 =>
 bS (cValue e.ev x12 [v1,x14] G3) fun x15 G16 =>
 some (x15,G16))
theorem f121 (h:ExLe Q e (E orc)) (v0 v1 v2:Value) (G:GS):Ref (s121 true e v0 v1 v2 G) ((E orc).cl 121 [v0,v1,v2] G):=cS (S:=fun q e=>s121 q e v0 v1 v2 G) Tryz.func121 (by unfold s121; exact Ref.gq)
def s122 (q:Bool) (e:Ex) (v0 v1:Value) (G:GS):OG :=
 bP (bn Q q .lss 3 (.tmp 6) (.const (.int .i64 1)) v0 (.int .i64 1)) fun x0 =>
 bS (gV x0 false v0 G) fun x1 G2 =>
 bS (gP x0 false (bn Q q .gtr 3 (.tmp 9) (.const (.int .i64 1024)) x1 (.int .i64 1024)) G2) fun x3 G4 =>
 bP (pickV x0 (.bool true) x3) fun x5 =>
 ifV x5 (
 some ((.int .i64 3),G4)) (
 bP (ln Q q 74 v1) fun x6 =>
 bP (bn Q q .gtr 3 (.tmp 14) (.tmp 15) x6 v0) fun x7 =>
 ifV x7 (
 some ((.int .i64 7),G4)) (
 some ((.int .i64 0),G4)))
theorem f122 (h:ExLe Q e (E orc)) (v0 v1:Value) (G:GS):Ref (s122 true e v0 v1 G) ((E orc).cl 122 [v0,v1] G):=cS (S:=fun q e=>s122 q e v0 v1 G) Tryz.func122 (by unfold s122; exact Ref.gq)
def s123 (q:Bool) (e:Ex) (v0 v1 v2:Value) (G:GS):OG :=
 bS (bx q v1 G) fun x0 G1 =>
 bS (bx q v2 G1) fun x2 G3 =>
 bS (al Q q 27 z27 G3) fun x4 G5 =>
 bS (al Q q 27 z27 G5) fun x6 G7 =>
 bP (fa Q q 24 0 0 x2) fun x8 =>
 bP (ld Q q 3 x8 G7) fun x9 =>
 bP (bn Q q .eql 3 (.tmp 13) (.const (.int .i64 1)) x9 (.int .i64 1)) fun x10 =>
 ifV x10 (
 fl q 202 2 1025 3 x0 G7 fun x12 =>
 bP (bn Q q .geq 3 (.tmp 17) (.tmp 18) x12 v0) fun x13 =>
 ifV x13 (
 bP (bd Q q 27 z27 [(0,0,1)] [(.int .i64 7)]) fun x14 =>
 bP (st Q q 27 3 x4 x14 G7) fun G15 =>
 bP (lda Q q 27 3 x4 G15) fun x16 =>
 some (.tuple #[x16,(.func (.func 186) #[] #[x0]),(.bool true)],G15)) (
 bP (lda Q q 27 3 x6 G7) fun x17 =>
 bP (st Q q 27 3 x4 x17 G7) fun G18 =>
 bP (lda Q q 27 3 x4 G18) fun x19 =>
 some (.tuple #[x19,(.func (.func 187) #[] #[x0,x2]),(.bool true)],G18))) (
 bP (bn Q q .eql 3 (.tmp 13) (.const (.int .i64 2)) x9 (.int .i64 2)) fun x20 =>
 ifV x20 (
 bP (fa Q q 202 2 1025 x0) fun x21 =>
 bP (ld Q q 3 x21 G7) fun x22 =>
 bP (bn Q q .eql 3 (.tmp 27) (.const (.int .i64 0)) x22 (.int .i64 0)) fun x23 =>
 ifV x23 (
 bX (e.ev.sc (subAt [1,0] (bodyOf Tryz.f123)) (labelAt 0 (subAt [1,0] (bodyOf Tryz.f123))) (lsq q 45 (nth undef [v0,v1,v2]) [(28,x23),(27,x22),(26,x21),(24,x20),(25,x20),(14,x10),(15,x10),(13,x9),(12,x8),(10,x6),(9,(.func (.func 186) #[] #[x0])),(11,(.func (.func 186) #[] #[x0])),(8,(.bool false)),(7,.nilFunc),(6,x4),(5,x2),(4,x0)]) G7) fun e24 T25 G26 =>
 bV q (nth undef T25 6) fun T25x6_ =>
 bV q (nth undef T25 7) fun T25x7_ =>
 bV q (nth undef T25 8) fun T25x8_ =>
 ifE e24 .normal (
 bP (lda Q q 27 3 T25x6_ G26) fun x27 =>
 some (.tuple #[x27,T25x7_,T25x8_],G26)) (ifE e24 (.goto 0) (
 none) (ifE e24 .ret (
 bP (lda Q q 27 3 T25x6_ G26) fun x28 =>
 some (.tuple #[x28,T25x7_,T25x8_],G26)) (none)))) (
 bP (lda Q q 202 1026 x0 G7) fun x29 =>
 bS (e.ev.cl 189 [x29] G7) fun x30 G31 =>
 bP (fa Q q 27 2 2 x6) fun x32 =>
 bP (st Q q 22 1 x32 x30 G31) fun G33 =>
 bP (lda Q q 27 3 x6 G33) fun x34 =>
 bP (st Q q 27 3 x4 x34 G33) fun G35 =>
 bP (lda Q q 27 3 x4 G35) fun x36 =>
 some (.tuple #[x36,(.func (.func 186) #[] #[x0]),(.bool true)],G35))) (
 bP (bn Q q .eql 3 (.tmp 13) (.const (.int .i64 3)) x9 (.int .i64 3)) fun x37 =>
 ifV x37 (
 bP (fa Q q 202 2 1025 x0) fun x38 =>
 bP (ld Q q 3 x38 G7) fun x39 =>
 bP (bn Q q .eql 3 (.tmp 37) (.const (.int .i64 0)) x39 (.int .i64 0)) fun x40 =>
 ifV x40 (
 bX (e.ev.sc (subAt [1,0] (bodyOf Tryz.f123)) (labelAt 0 (subAt [1,0] (bodyOf Tryz.f123))) (lsq q 45 (nth undef [v0,v1,v2]) [(38,x40),(37,x39),(36,x38),(34,x37),(35,x37),(24,x20),(25,x20),(14,x10),(15,x10),(13,x9),(12,x8),(10,x6),(9,(.func (.func 186) #[] #[x0])),(11,(.func (.func 186) #[] #[x0])),(8,(.bool false)),(7,.nilFunc),(6,x4),(5,x2),(4,x0)]) G7) fun e41 T42 G43 =>
 bV q (nth undef T42 6) fun T42x6_ =>
 bV q (nth undef T42 7) fun T42x7_ =>
 bV q (nth undef T42 8) fun T42x8_ =>
 ifE e41 .normal (
 bP (lda Q q 27 3 T42x6_ G43) fun x44 =>
 some (.tuple #[x44,T42x7_,T42x8_],G43)) (ifE e41 (.goto 0) (
 none) (ifE e41 .ret (
 bP (lda Q q 27 3 T42x6_ G43) fun x45 =>
 some (.tuple #[x45,T42x7_,T42x8_],G43)) (none)))) (
 bP (lda Q q 27 3 x6 G7) fun x46 =>
 bP (st Q q 27 3 x4 x46 G7) fun G47 =>
 bP (lda Q q 27 3 x4 G47) fun x48 =>
 some (.tuple #[x48,(.func (.func 190) #[] #[x0]),(.bool true)],G47))) (
 bP (lda Q q 27 3 x6 G7) fun x49 =>
 bP (st Q q 27 3 x4 x49 G7) fun G50 =>
 bP (lda Q q 27 3 x4 G50) fun x51 =>
 some (.tuple #[x51,(.func (.func 186) #[] #[x0]),(.bool false)],G50))))
theorem f123 (h:ExLe Q e (E orc)) (v0 v1 v2:Value) (G:GS):Ref (s123 true e v0 v1 v2 G) ((E orc).cl 123 [v0,v1,v2] G):=cS (S:=fun q e=>s123 q e v0 v1 v2 G) Tryz.func123 (by unfold s123; exact Ref.gq)
def s124 (q:Bool) (e:Ex) (v0:Value) (G:GS):OG :=
 bS (al Q q 202 z202 G) fun x0 G1 =>
 bS (al Q q 202 z202 G1) fun x2 G3 =>
 bP (fa Q q 202 0 0 x2) fun x4 =>
 bP (sla Q q 200 1024 1 x4 none none none G3) fun x5 =>
 bS (cp Q q 74 1 x5 v0 G3) fun x6 G7 =>
 bP (fa Q q 202 2 1025 x2) fun x8 =>
 bP (st Q q 3 1 x8 x6 G7) fun G9 =>
 bP (lda Q q 202 1026 x2 G9) fun x10 =>
 bP (st Q q 202 1026 x0 x10 G9) fun G11 =>
 bP (lda Q q 202 1026 x0 G11) fun x12 =>
 some (x12,G11)
theorem f124 (h:ExLe Q e (E orc)) (v0:Value) (G:GS):Ref (s124 true e v0 G) ((E orc).cl 124 [v0] G):=cS (S:=fun q e=>s124 q e v0 G) Tryz.func124 (by unfold s124; exact Ref.gq)
def b125_0 (q:Bool) (e:Ex) (lp:LpF) (τ:Env) (G:GS):OL :=
 bV q (τ 1) fun a1_ =>
 bV q (τ 3) fun a3_ =>
 bV q (τ 6) fun a6_ =>
 bV q (τ 7) fun a7_ =>
 bP (bn Q q .lss 3 (.tmp 7) (.tmp 6) a7_ a6_) fun x0 =>
 ifV x0 (
 bP (fa Q q 202 1 1024 a1_) fun x1 =>
 bP (ld Q q 3 x1 G) fun x2 =>
 bP (bn Q q .add 3 (.tmp 12) (.tmp 13) x2 a7_) fun x3 =>
 bP (bn Q q .rem 3 (.tmp 14) (.const (.int .i64 1024)) x3 (.int .i64 1024)) fun x4 =>
 bP (fa Q q 202 0 0 a1_) fun x5 =>
 bP (iaa Q q 200 1024 1 x5 x4) fun x6 =>
 bP (ld Q q 22 x6 G) fun x7 =>
 bS (bs Q q 74 1 (rep z22 1) 1 [(0,0,1)] [x7] G) fun x8 G9 =>
 bS (ap Q q 74 74 1 8 a3_ x8 G9) fun x10 G11 =>
 bP (bn Q q .add 3 (.tmp 7) (.const (.int .i64 1)) a7_ (.int .i64 1)) fun x12 =>
 lp (xq q 23 τ [(7,x12),(21,x12),(3,x10),(20,x10),(19,x8),(18,x7),(17,x6),(16,x5),(15,x4),(14,x3),(13,a7_),(12,x2),(11,x1),(10,a3_),(4,a7_),(9,a7_),(8,x0)] [(1,a1_),(6,a6_)]) G11) (
 some ((.exit 0),xq q 23 τ [(8,x0)] [(1,a1_),(3,a3_),(6,a6_),(7,a7_)],G))
theorem l125_0 (h:ExLe Q e (E orc)):LT orc 23 (subAt [1,1,0,1,0,0] (bodyOf Tryz.f125)) (b125_0 true e):=cL fun hlp τ G=>by unfold b125_0; exact Ref.gq
def s125 (q:Bool) (e:Ex) (v0:Value) (G:GS):OG :=
 bS (bx q v0 G) fun x0 G1 =>
 bP (fa Q q 202 2 1025 x0) fun x2 =>
 bP (ld Q q 3 x2 G1) fun x3 =>
 bLq q e 125 0 (subAt [1,1,0,1,0,0] (bodyOf Tryz.f125)) 23 (nth undef [v0]) [(7,(.int .i64 0)),(6,x3),(5,x2),(3,(.slice none 0 0)),(2,(.slice none 0 0)),(1,x0)] [] G1 fun e4 t5 G6 =>
 bV q (t5 3) fun t5x3_ =>
 ifE e4 (.exit 0) (
 some (t5x3_,G6)) (none)
theorem f125 (h:ExLe Q e (E orc)) (v0:Value) (G:GS):Ref (s125 true e v0 G) ((E orc).cl 125 [v0] G):=cS (S:=fun q e=>s125 q e v0 G) Tryz.func125 (by unfold s125; exact Ref.gq)
def b126_0 (q:Bool) (e:Ex) (lp:LpF) (τ:Env) (G:GS):OL :=
 bV q (τ 0) fun a0_ =>
 bV q (τ 8) fun a8_ =>
 bV q (τ 9) fun a9_ =>
 bP (bn Q q .lss 3 (.tmp 9) (.tmp 8) a9_ a8_) fun x0 =>
 ifV x0 (
 bP (bn Q q .gtr 3 (.tmp 12) (.const (.int .i64 0)) a9_ (.int .i64 0)) fun x1 =>
 bS (gV x1 true a0_ (G.room 16)) fun x2 _ =>
 bS (gV x1 true a9_ (G.room 16)) fun x3 _ =>
 bS (gP x1 true (bn Q q .sub 3 (.tmp 16) (.const (.int .i64 1)) x3 (.int .i64 1)) (G.room 16)) fun x4 _ =>
 bS (gP x1 true (ias Q q 107 2 x2 x4) (G.room 16)) fun x5 _ =>
 bS (gP x1 true (fa Q q 184 0 0 x5) (G.room 16)) fun x6 _ =>
 bS (gP x1 true (ld Q q 22 x6 (G.room 16)) (G.room 16)) fun x7 _ =>
 bS (gV x1 true a0_ (G.room 16)) fun x8 _ =>
 bS (gV x1 true a9_ (G.room 16)) fun x9 _ =>
 bS (gP x1 true (ias Q q 107 2 x8 x9) (G.room 16)) fun x10 _ =>
 bS (gP x1 true (fa Q q 184 0 0 x10) (G.room 16)) fun x11 _ =>
 bS (gP x1 true (ld Q q 22 x11 (G.room 16)) (G.room 16)) fun x12 _ =>
 bS (gP x1 true (bn Q q .geq 22 (.tmp 20) (.tmp 25) x7 x12) (G.room 16)) fun x13 _ =>
 bP (pickV x1 x13 (.bool false)) fun x14 =>
 ifV x14 (
 some (.ret,xq q 29 τ [(2,(.int .i64 9)),(27,x14),(26,x13),(25,x12),(24,x11),(23,x10),(22,x9),(21,x8),(20,x7),(19,x6),(18,x5),(17,x4),(16,x3),(15,x2),(14,x1),(13,x1),(12,a9_),(3,a9_),(11,a9_),(10,x0)] [(0,a0_),(8,a8_),(9,a9_)],(G.room 16))) (
 bP (bn Q q .add 3 (.tmp 9) (.const (.int .i64 1)) a9_ (.int .i64 1)) fun x15 =>
 lp (xq q 29 τ [(9,x15),(28,x15),(27,x14),(26,x13),(25,x12),(24,x11),(23,x10),(22,x9),(21,x8),(20,x7),(19,x6),(18,x5),(17,x4),(16,x3),(15,x2),(14,x1),(13,x1),(12,a9_),(3,a9_),(11,a9_),(10,x0)] [(0,a0_),(8,a8_)]) (G.room 16))) (
 some ((.exit 0),xq q 29 τ [(10,x0)] [(0,a0_),(8,a8_),(9,a9_)],G))
theorem l126_0 (h:ExLe Q e (E orc)):LT orc 29 (subAt [1,1,0,1,0,0] (bodyOf Tryz.f126)) (b126_0 true e):=cL fun hlp τ G=>by unfold b126_0; exact Ref.gq
def s126 (q:Bool) (e:Ex) (v0:Value) (G:GS):OG :=
 bP (ln Q q 107 v0) fun x0 =>
 bP (bn Q q .gtr 3 (.tmp 5) (.const (.int .i64 1024)) x0 (.int .i64 1024)) fun x1 =>
 ifV x1 (
 some ((.int .i64 7),G)) (
 bP (ln Q q 107 v0) fun x2 =>
 bLq q e 126 0 (subAt [1,1,0,1,0,0] (bodyOf Tryz.f126)) 29 (nth undef [v0]) [(9,(.int .i64 0)),(8,x2),(7,v0),(6,x1),(5,x0),(4,v0),(2,(.int .i64 0))] [] G fun e3 t4 G5 =>
 bV q (t4 2) fun t4x2_ =>
 ifE e3 (.exit 0) (
 some ((.int .i64 0),G5)) (ifE e3 .ret (
 some (t4x2_,G5)) (none)))
theorem f126 (h:ExLe Q e (E orc)) (v0:Value) (G:GS):Ref (s126 true e v0 G) ((E orc).cl 126 [v0] G):=cS (S:=fun q e=>s126 q e v0 G) Tryz.func126 (by unfold s126; exact Ref.gq)
def s127 (q:Bool) (e:Ex) (G:GS):OG :=
 bS (al Q q 206 z206 G) fun x0 G1 =>
 bP (bd Q q 206 z206 [(0,0,1),(1,1,1),(2,2,1)] [(.func (.func 192) #[] #[]),(.func (.func 193) #[] #[]),(.func (.func 193) #[] #[])]) fun x2 =>
 bP (st Q q 206 3 x0 x2 G1) fun G3 =>
 bP (lda Q q 206 3 x0 G3) fun x4 =>
 some (x4,G3)
theorem f127 (h:ExLe Q e (E orc)) (ho:orc 127=false) (G:GS):Ref (s127 true e  G) ((E orc).cl 127 [] G):=cS (S:=fun q e=>s127 q e  G) (ho:=ho) Tryz.func127 (by unfold s127; exact Ref.gq)
def s128 (q:Bool) (e:Ex) (v0:Value) (G:GS):OG :=
 bS (bx q v0 G) fun x0 G1 =>
 bP (lda Q q 27 3 x0 G1) fun x2 =>
 bP (bd Q q 27 z27 [(0,0,1)] [(.int .i64 7)]) fun x3 =>
 bP (bn Q q .eql 27 (.tmp 3) (.tmp 4) x2 x3) fun x4 =>
 bS (gP x4 false (lda Q q 27 3 x0 G1) G1) fun x5 G6 =>
 bS (gP x4 false (bd Q q 27 z27 [(0,0,1)] [(.int .i64 12)]) G6) fun x7 G8 =>
 bS (gP x4 false (bn Q q .eql 27 (.tmp 7) (.tmp 8) x5 x7) G8) fun x9 G10 =>
 bP (pickV x4 (.bool true) x9) fun x11 =>
 some (x11,G10)
theorem f128 (h:ExLe Q e (E orc)) (v0:Value) (G:GS):Ref (s128 true e v0 G) ((E orc).cl 128 [v0] G):=cS (S:=fun q e=>s128 q e v0 G) Tryz.func128 (by unfold s128; exact Ref.gq)
def s129 (q:Bool) (e:Ex) (v0:Value) (G:GS):OG :=
 bP (es Q q false 107 (.tmp 3) (.const (.slice none 0 0)) v0 (.slice none 0 0)) fun x0 =>
 ifV x0 (
 some ((.slice none 0 0),G)) (
 bS (bs Q q 107 0 (rep z184 0) 2 [] [] G) fun x1 G2 =>
 bS (ap Q q 107 107 2 16 x1 v0 G2) fun x3 G4 =>
 some (x3,G4))
theorem f129 (h:ExLe Q e (E orc)) (v0:Value) (G:GS):Ref (s129 true e v0 G) ((E orc).cl 129 [v0] G):=cS (S:=fun q e=>s129 q e v0 G) Tryz.func129 (by unfold s129; exact Ref.gq)
def s130 (q:Bool) (e:Ex) (v0 v1:Value) (G:GS):OG :=
 bS (bx q v1 G) fun x0 G1 =>
 bS (e.ev.cl 194 [v0,(.func (.func 195) #[] #[x0])] G1) fun x2 G3 =>
 bP (pExtract x2 0) fun x4 =>
 bP (pExtract x2 1) fun x5 =>
 some (.tuple #[x4,x5],G3)
theorem f130 (h:ExLe Q e (E orc)) (v0 v1:Value) (G:GS):Ref (s130 true e v0 v1 G) ((E orc).cl 130 [v0,v1] G):=cS (S:=fun q e=>s130 q e v0 v1 G) Tryz.func130 (by unfold s130; exact Ref.gq)
def s171 (q:Bool) (e:Ex) (v0 v1 v2:Value) (G:GS):OG :=
 bS (bx q v0 G) fun x0 G1 =>
 bS (bx q v1 G1) fun x2 G3 =>
 bS (bx q v2 G3) fun x4 G5 =>
 some ((.func (.func 225) #[] #[x4,x2,x0]),G5)
theorem f171 (h:ExLe Q e (E orc)) (v0 v1 v2:Value) (G:GS):Ref (s171 true e v0 v1 v2 G) ((E orc).cl 171 [v0,v1,v2] G):=cS (S:=fun q e=>s171 q e v0 v1 v2 G) Tryz.func171 (by unfold s171; exact Ref.gq)
def s173 (q:Bool) (e:Ex) (v0 v1 v2:Value) (G:GS):OG :=
 bS (bx q v0 G) fun x0 G1 =>
 bS (bx q v1 G1) fun x2 G3 =>
 bS (bx q v2 G3) fun x4 G5 =>
 some ((.func (.func 231) #[] #[x4,x2,x0]),G5)
theorem f173 (h:ExLe Q e (E orc)) (v0 v1 v2:Value) (G:GS):Ref (s173 true e v0 v1 v2 G) ((E orc).cl 173 [v0,v1,v2] G):=cS (S:=fun q e=>s173 q e v0 v1 v2 G) Tryz.func173 (by unfold s173; exact Ref.gq)
def s175 (q:Bool) (e:Ex) (v0 v1 v2:Value) (G:GS):OG :=
 bS (bx q v0 G) fun x0 G1 =>
 bS (bx q v1 G1) fun x2 G3 =>
 bS (bx q v2 G3) fun x4 G5 =>
 some ((.func (.func 233) #[] #[x4,x2,x0]),G5)
theorem f175 (h:ExLe Q e (E orc)) (v0 v1 v2:Value) (G:GS):Ref (s175 true e v0 v1 v2 G) ((E orc).cl 175 [v0,v1,v2] G):=cS (S:=fun q e=>s175 q e v0 v1 v2 G) Tryz.func175 (by unfold s175; exact Ref.gq)
def b176_0 (q:Bool) (e:Ex) (lp:LpF) (τ:Env) (G:GS):OL :=
 bV q (τ 3) fun a3_ =>
 bV q (τ 7) fun a7_ =>
 bV q (τ 8) fun a8_ =>
 bP (bn Q q .lss 3 (.tmp 8) (.tmp 7) a8_ a7_) fun x0 =>
 ifV x0 (
 bP (lda Q q 276 16 a3_ G) fun x1 =>
 bS (e.ev.cl 235 [x1,a8_] G) fun x2 G3 =>
 bP (st Q q 276 16 a3_ x2 G3) fun G4 =>
 bP (bn Q q .add 3 (.tmp 8) (.const (.int .i64 1)) a8_ (.int .i64 1)) fun x5 =>
 lp (xq q 16 τ [(8,x5),(14,x5),(13,x2),(12,a8_),(11,x1),(4,a8_),(10,a8_),(9,x0)] [(3,a3_),(7,a7_)]) G4) (
 some ((.exit 0),xq q 16 τ [(9,x0)] [(3,a3_),(7,a7_),(8,a8_)],G))
theorem l176_0 (h:ExLe Q e (E orc)):LT orc 16 (subAt [1,1,0,1,0,0] (bodyOf Tryz.f176)) (b176_0 true e):=cL fun hlp τ G=>by unfold b176_0; exact Ref.gq
def s176 (q:Bool) (e:Ex) (v0:Value) (G:GS):OG :=
 bS (al Q q 276 z276 G) fun x0 G1 =>
 bS (al Q q 276 z276 G1) fun x2 G3 =>
 bP (mx Q q #[3,3] v0 (.int .i64 0)) fun x4 =>
 bP (mn Q q #[3,3] x4 (.int .i64 1024)) fun x5 =>
 bLq q e 176 0 (subAt [1,1,0,1,0,0] (bodyOf Tryz.f176)) 16 (nth undef [v0]) [(8,(.int .i64 0)),(7,x5),(6,x4),(5,v0),(3,x2),(2,x0)] [] G3 fun e6 t7 G8 =>
 bV q (t7 2) fun t7x2_ =>
 bV q (t7 3) fun t7x3_ =>
 ifE e6 (.exit 0) (
 bP (lda Q q 276 16 t7x3_ G8) fun x9 =>
 bP (st Q q 276 16 t7x2_ x9 G8) fun G10 =>
 bP (lda Q q 276 16 t7x2_ G10) fun x11 =>
 some (x11,G10)) (none)
theorem f176 (h:ExLe Q e (E orc)) (v0:Value) (G:GS):Ref (s176 true e v0 G) ((E orc).cl 176 [v0] G):=cS (S:=fun q e=>s176 q e v0 G) Tryz.func176 (by unfold s176; exact Ref.gq)
def b177_0 (q:Bool) (e:Ex) (lp:LpF) (τ:Env) (G:GS):OL :=
 bV q (τ 3) fun a3_ =>
 bV q (τ 6) fun a6_ =>
 bV q (τ 7) fun a7_ =>
 bV q (τ 8) fun a8_ =>
 bP (bn Q q .lss 3 (.tmp 8) (.tmp 7) a8_ a7_) fun x0 =>
 ifV x0 (
 bP (ias Q q 35 1 a6_ a8_) fun x1 =>
 bP (ld Q q 3 x1 G) fun x2 =>
 bS (e.ev.cl 183 [x2] G) fun x3 G4 =>
 ifV x3 (
 bP (lda Q q 276 16 a3_ G4) fun x5 =>
 bS (e.ev.cl 235 [x5,x2] G4) fun x6 G7 =>
 bP (st Q q 276 16 a3_ x6 G7) fun G8 =>
 bP (bn Q q .add 3 (.tmp 8) (.const (.int .i64 1)) a8_ (.int .i64 1)) fun x9 =>
 lp (xq q 19 τ [(8,x9),(17,x9),(16,x6),(15,x2),(14,x5),(13,x3),(12,x2),(5,x2),(11,x2),(10,x1),(9,x0)] [(3,a3_),(6,a6_),(7,a7_)]) G8) (
 bP (bn Q q .add 3 (.tmp 8) (.const (.int .i64 1)) a8_ (.int .i64 1)) fun x10 =>
 lp (xq q 19 τ [(8,x10),(17,x10),(13,x3),(12,x2),(5,x2),(11,x2),(10,x1),(9,x0)] [(3,a3_),(6,a6_),(7,a7_)]) G4)) (
 some ((.exit 0),xq q 19 τ [(9,x0)] [(3,a3_),(6,a6_),(7,a7_),(8,a8_)],G))
theorem l177_0 (h:ExLe Q e (E orc)):LT orc 19 (subAt [1,1,0,1,0,0] (bodyOf Tryz.f177)) (b177_0 true e):=cL fun hlp τ G=>by unfold b177_0; exact Ref.gq
def s177 (q:Bool) (e:Ex) (v0:Value) (G:GS):OG :=
 bS (al Q q 276 z276 G) fun x0 G1 =>
 bS (al Q q 276 z276 G1) fun x2 G3 =>
 bP (ln Q q 35 v0) fun x4 =>
 bLq q e 177 0 (subAt [1,1,0,1,0,0] (bodyOf Tryz.f177)) 19 (nth undef [v0]) [(8,(.int .i64 0)),(7,x4),(6,v0),(3,x2),(2,x0)] [] G3 fun e5 t6 G7 =>
 bV q (t6 2) fun t6x2_ =>
 bV q (t6 3) fun t6x3_ =>
 ifE e5 (.exit 0) (
 bP (lda Q q 276 16 t6x3_ G7) fun x8 =>
 bP (st Q q 276 16 t6x2_ x8 G7) fun G9 =>
 bP (lda Q q 276 16 t6x2_ G9) fun x10 =>
 some (x10,G9)) (none)
theorem f177 (h:ExLe Q e (E orc)) (v0:Value) (G:GS):Ref (s177 true e v0 G) ((E orc).cl 177 [v0] G):=cS (S:=fun q e=>s177 q e v0 G) Tryz.func177 (by unfold s177; exact Ref.gq)
def s178 (q:Bool) (e:Ex) (v0:Value) (G:GS):OG :=
 bS (bx q v0 G) fun x0 G1 =>
 some ((.func (.func 236) #[] #[x0]),G1)
theorem f178 (h:ExLe Q e (E orc)) (v0:Value) (G:GS):Ref (s178 true e v0 G) ((E orc).cl 178 [v0] G):=cS (S:=fun q e=>s178 q e v0 G) Tryz.func178 (by unfold s178; exact Ref.gq)
def s179 (q:Bool) (e:Ex) (v0 v1:Value) (G:GS):OG :=
 bS (bx q v0 G) fun x0 G1 =>
 bS (al Q q 276 z276 G1) fun x2 G3 =>
 bP (bn Q q .quo 3 (.tmp 5) (.const (.int .i64 64)) v1 (.int .i64 64)) fun x4 =>
 bP (iaa Q q 276 16 1 x0 x4) fun x5 =>
 bP (ld Q q 22 x5 (G3.room 10)) fun x6 =>
 bP (bn Q q .rem 3 (.tmp 9) (.const (.int .i64 64)) v1 (.int .i64 64)) fun x7 =>
 bP (bn Q q .shl 22 (.const (.int .u64 1)) (.tmp 10) (.int .u64 1) x7) fun x8 =>
 bP (bn Q q .andNot 22 (.tmp 8) (.tmp 11) x6 x8) fun x9 =>
 bP (iaa Q q 276 16 1 x0 x4) fun x10 =>
 bP (st Q q 22 1 x10 x9 (G3.room 10)) fun G11 =>
 bP (lda Q q 276 16 x0 G11) fun x12 =>
 bP (st Q q 276 16 x2 x12 G11) fun G13 =>
 bP (lda Q q 276 16 x2 G13) fun x14 =>
 some (x14,G13)
theorem f179 (h:ExLe Q e (E orc)) (v0 v1:Value) (G:GS):Ref (s179 true e v0 v1 G) ((E orc).cl 179 [v0,v1] G):=cS (S:=fun q e=>s179 q e v0 v1 G) Tryz.func179 (by unfold s179; exact Ref.gq)
def s180 (q:Bool) (e:Ex) (v0 v1:Value) (G:GS):OG :=
 bS (bx q v0 G) fun x0 G1 =>
 bS (bx q v1 G1) fun x2 G3 =>
 bS (al Q q 35 z35 G3) fun x4 G5 =>
 bP (lda Q q 276 16 x0 G5) fun x6 =>
 bS (e.ev.cl 178 [x6] G5) fun x7 G8 =>
 bX (xRange e.ev x7 #[9] (subAt [1,1,0,1,0,0] (bodyOf Tryz.f180)) (subAt [1,1,0,1,0,1] (bodyOf Tryz.f180)) (lsq q 19 (nth undef [v0,v1]) [(8,x7),(7,x6),(5,x4),(4,(.slice none 0 0)),(3,x2),(2,x0)]) G8) fun e9 T10 G11 =>
 bV q (nth undef T10 5) fun T10x5_ =>
 ifE e9 .normal (
 bP (ld Q q 35 T10x5_ G11) fun x12 =>
 some (x12,G11)) (ifE e9 (.exit 0) (
 bP (ld Q q 35 T10x5_ G11) fun x13 =>
 some (x13,G11)) (none))
theorem f180 (h:ExLe Q e (E orc)) (v0 v1:Value) (G:GS):Ref (s180 true e v0 v1 G) ((E orc).cl 180 [v0,v1] G):=cS (S:=fun q e=>s180 q e v0 v1 G) Tryz.func180 (by unfold s180; exact Ref.gq)
def r180_0 (q:Bool) (e:Ex) (l:Nat) (τ:Env) (u0:Value) (G:GS):OG :=
 bV q (τ 3) fun a3_ =>
 bV q (τ 5) fun a5_ =>
 bP (G.loop l) fun r0=>if r0.st= .ready then
 bP (ld Q q 35 a5_ (G.putLoop l (Lp.setSt r0 .busy))) fun x1 =>
 bP (ln Q q 35 x1) fun x2 =>
 bP (ld Q q 3 a3_ (G.putLoop l (Lp.setSt r0 .busy))) fun x3 =>
 bP (bn Q q .geq 3 (.tmp 11) (.tmp 12) x2 x3) fun x4 =>
 ifV x4 (
 roundEnd l (.exit 0) (G.putLoop l (Lp.setSt r0 .busy))) (
 bP (ld Q q 35 a5_ (G.putLoop l (Lp.setSt r0 .busy))) fun x5 =>
 bS (bs Q q 35 1 (rep z3 1) 1 [(0,0,1)] [u0] (G.putLoop l (Lp.setSt r0 .busy))) fun x6 G7 =>
 bS (ap Q q 35 35 1 8 x5 x6 G7) fun x8 G9 =>
 bP (st Q q 35 1 a5_ x8 G9) fun G10 =>
 roundEnd l .normal G10)
 else none
theorem mr180_0 {e:Ex} {E:Ev} (h:ExLe Q e E) (l:Nat) (τ:Env) (u0:Value) (G:GS):Ref (r180_0 true e l τ u0 G) (r180_0 false (Ex.of E) l τ u0 G):=by
 unfold r180_0
 repeat' (with_reducible first | exact Ref.rfl' _ | exact ROp.r | refine Ref.bP ?_ fun _=>?_ | refine Ref.bS ?_ fun _ _=>?_ | exact Ref.cl (by assumption) | refine Ref.ifV ?_ ?_ | refine LpLe.rx (by assumption) ?_ | refine Ref.xitq ?_ | exact UOk.z | refine UOk.c (by assumption) ?_ | exact Ref.nil _ | refine Ref.bVe fun _ _=>?_ | refine Ref.bLq (by assumption) ?_ fun _ _ _=>?_ | refine Ref.ifE ?_ ?_ | refine Ref.chk ?_ ?_ | refine Imp.and ?_ ?_ | refine Imp.or ?_ | exact Imp.rfl' _ | refine Imp.sameO ?_ | refine Ref.gd ?_ | exact Ref.cValue (by assumption) | refine Ref.bX ?_ fun _ _ _=>?_ | exact Ref.scQ (by assumption) | exact Ref.xRangeQ (by assumption) | exact Ref.cInvoke (by assumption) | refine Ref.rdy ?_)
theorem d180_0 {orc:FuncId→Bool} {e:Ex} (h:ExLe Q e (E orc)) (l:Nat) (T:List Value) (u0:Value) (G:GS) {st:LoopState} {pend:Option Code} (hl:G.loop l=some ⟨st,pend,T,[9],(subAt [1,1,0,1,0,0] (bodyOf Tryz.f180)),(subAt [1,1,0,1,0,1] (bodyOf Tryz.f180))⟩) (hT:T.length=19):Ref (r180_0 true e l (nth undef T) u0 G) ((E orc).rd l [u0] G) :=
 fun r hr=>rd_sxE Q orc hl (by kernel_rfl) hT (by kernel_rfl) (mr180_0 h l _ u0 G r hr)
def b181_0 (q:Bool) (e:Ex) (lp:LpF) (τ:Env) (G:GS):OL :=
 bV q (τ 6) fun a6_ =>
 bV q (τ 7) fun a7_ =>
 bV q (τ 8) fun a8_ =>
 bP (bn Q q .lss 3 (.tmp 8) (.tmp 7) a8_ a7_) fun x0 =>
 ifV x0 (
 bP (ias Q q 35 1 a6_ a8_) fun x1 =>
 bP (ld Q q 3 x1 G) fun x2 =>
 bS (e.ev.cl 183 [x2] G) fun x3 G4 =>
 bP (un Q q .not x3) fun x5 =>
 ifV x5 (
 some (.ret,xq q 32 τ [(2,(.int .i64 3)),(14,x5),(13,x3),(12,x2),(4,x2),(11,x2),(10,x1),(9,x0)] [(6,a6_),(7,a7_),(8,a8_)],G4)) (
 bP (bn Q q .add 3 (.tmp 8) (.const (.int .i64 1)) a8_ (.int .i64 1)) fun x6 =>
 lp (xq q 32 τ [(8,x6),(15,x6),(14,x5),(13,x3),(12,x2),(4,x2),(11,x2),(10,x1),(9,x0)] [(6,a6_),(7,a7_)]) G4)) (
 some ((.exit 0),xq q 32 τ [(9,x0)] [(6,a6_),(7,a7_),(8,a8_)],G))
theorem l181_0 (h:ExLe Q e (E orc)):LT orc 32 (subAt [1,0,1,0,0] (bodyOf Tryz.f181)) (b181_0 true e):=cL fun hlp τ G=>by unfold b181_0; exact Ref.gq
def b181_1 (q:Bool) (e:Ex) (lp:LpF) (τ:Env) (G:GS):OL :=
 bV q (τ 0) fun a0_ =>
 bV q (τ 5) fun a5_ =>
 bP (ln Q q 35 a0_) fun x0 =>
 bP (bn Q q .lss 3 (.tmp 16) (.tmp 18) a5_ x0) fun x1 =>
 ifV x1 (
 bP (ias Q q 35 1 a0_ a5_) fun x2 =>
 bP (ld Q q 3 x2 (G.room 10)) fun x3 =>
 bP (bn Q q .sub 3 (.tmp 27) (.const (.int .i64 1)) a5_ (.int .i64 1)) fun x4 =>
 bP (ias Q q 35 1 a0_ x4) fun x5 =>
 bP (ld Q q 3 x5 (G.room 10)) fun x6 =>
 bP (bn Q q .leq 3 (.tmp 25) (.tmp 30) x3 x6) fun x7 =>
 ifV x7 (
 some (.ret,xq q 32 τ [(2,(.int .i64 9)),(31,x7),(30,x6),(29,x5),(28,x4),(27,a5_),(26,a0_),(25,x3),(24,x2),(23,a5_),(22,a0_),(19,x1),(18,x0),(17,a0_),(16,a5_)] [(0,a0_),(5,a5_)],(G.room 10))) (
 bP (bn Q q .add 3 (.tmp 20) (.const (.int .i64 1)) a5_ (.int .i64 1)) fun x8 =>
 lp (xq q 32 τ [(5,x8),(21,x8),(20,a5_),(31,x7),(30,x6),(29,x5),(28,x4),(27,a5_),(26,a0_),(25,x3),(24,x2),(23,a5_),(22,a0_),(19,x1),(18,x0),(17,a0_),(16,a5_)] [(0,a0_)]) (G.room 10))) (
 some ((.exit 2),xq q 32 τ [(19,x1),(18,x0),(17,a0_),(16,a5_)] [(0,a0_),(5,a5_)],G))
theorem l181_1 (h:ExLe Q e (E orc)):LT orc 32 (subAt [1,1,0,1,0,0] (bodyOf Tryz.f181)) (b181_1 true e):=cL fun hlp τ G=>by unfold b181_1; exact Ref.gq
def s181 (q:Bool) (e:Ex) (v0:Value) (G:GS):OG :=
 bP (ln Q q 35 v0) fun x0 =>
 bLq q e 181 0 (subAt [1,0,1,0,0] (bodyOf Tryz.f181)) 32 (nth undef [v0]) [(8,(.int .i64 0)),(7,x0),(6,v0),(2,(.int .i64 0))] [] G fun e1 t2 G3 =>
 bV q (t2 2) fun t2x2_ =>
 ifE e1 (.exit 0) (
 bLq q e 181 1 (subAt [1,1,0,1,0,0] (bodyOf Tryz.f181)) 32 t2 [(5,(.int .i64 1))] [] G3 fun e4 t5 G6 =>
 bV q (t5 2) fun t5x2_ =>
 ifE e4 (.exit 2) (
 some ((.int .i64 0),G6)) (ifE e4 .ret (
 some (t5x2_,G6)) (none))) (ifE e1 .ret (
 some (t2x2_,G3)) (none))
theorem f181 (h:ExLe Q e (E orc)) (v0:Value) (G:GS):Ref (s181 true e v0 G) ((E orc).cl 181 [v0] G):=cS (S:=fun q e=>s181 q e v0 G) Tryz.func181 (by unfold s181; exact Ref.gq)
def s182 (q:Bool) (e:Ex) (v0 v1:Value) (G:GS):OG :=
 bS (bx q v0 G) fun x0 G1 =>
 bS (al Q q 27 z27 G1) fun x2 G3 =>
 bS (al Q q 276 z276 G3) fun x4 G5 =>
 bS (e.ev.cl 183 [v1] G5) fun x6 G7 =>
 bP (un Q q .not x6) fun x8 =>
 ifV x8 (
 bP (bd Q q 27 z27 [(0,0,1)] [(.int .i64 3)]) fun x9 =>
 bP (lda Q q 276 16 x0 (G7.room 4)) fun x10 =>
 bP (st Q q 27 3 x2 x9 (G7.room 4)) fun G11 =>
 chk ((sameO (lda Q q 276 16 x0 G11) x10&&true)) <|
 bP (st Q q 276 16 x4 x10 G11) fun G12 =>
 bP (lda Q q 27 3 x2 G12) fun x13 =>
 bP (lda Q q 276 16 x4 G12) fun x14 =>
 some (.tuple #[x13,x14],G12)) (
 bP (lda Q q 276 16 x0 G7) fun x15 =>
 bS (e.ev.cl 184 [x15,v1] G7) fun x16 G17 =>
 ifV x16 (
 bP (bd Q q 27 z27 [(0,0,1)] [(.int .i64 8)]) fun x18 =>
 bP (lda Q q 276 16 x0 (G17.room 4)) fun x19 =>
 bP (st Q q 27 3 x2 x18 (G17.room 4)) fun G20 =>
 chk ((sameO (lda Q q 276 16 x0 G20) x19&&true)) <|
 bP (st Q q 276 16 x4 x19 G20) fun G21 =>
 bP (lda Q q 27 3 x2 G21) fun x22 =>
 bP (lda Q q 276 16 x4 G21) fun x23 =>
 some (.tuple #[x22,x23],G21)) (
 bP (bd Q q 27 z27 [] []) fun x24 =>
 bP (lda Q q 276 16 x0 G17) fun x25 =>
 bS (e.ev.cl 235 [x25,v1] G17) fun x26 G27 =>
 bP (st Q q 27 3 x2 x24 G27) fun G28 =>
 bP (st Q q 276 16 x4 x26 G28) fun G29 =>
 bP (lda Q q 27 3 x2 G29) fun x30 =>
 bP (lda Q q 276 16 x4 G29) fun x31 =>
 some (.tuple #[x30,x31],G29)))
theorem f182 (h:ExLe Q e (E orc)) (v0 v1:Value) (G:GS):Ref (s182 true e v0 v1 G) ((E orc).cl 182 [v0,v1] G):=cS (S:=fun q e=>s182 q e v0 v1 G) Tryz.func182 (by unfold s182; exact Ref.gq)
def s183 (q:Bool) (e:Ex) (v0:Value) (G:GS):OG :=
 bP (bn Q q .geq 3 (.tmp 3) (.const (.int .i64 0)) v0 (.int .i64 0)) fun x0 =>
 bS (gV x0 true v0 G) fun x1 G2 =>
 bS (gP x0 true (bn Q q .lss 3 (.tmp 6) (.const (.int .i64 1024)) x1 (.int .i64 1024)) G2) fun x3 G4 =>
 bP (pickV x0 x3 (.bool false)) fun x5 =>
 some (x5,G4)
theorem f183 (h:ExLe Q e (E orc)) (v0:Value) (G:GS):Ref (s183 true e v0 G) ((E orc).cl 183 [v0] G):=cS (S:=fun q e=>s183 q e v0 G) Tryz.func183 (by unfold s183; exact Ref.gq)
def s184 (q:Bool) (e:Ex) (v0 v1:Value) (G:GS):OG :=
 bS (bx q v0 G) fun x0 G1 =>
 bP (bn Q q .quo 3 (.tmp 5) (.const (.int .i64 64)) v1 (.int .i64 64)) fun x2 =>
 bP (iaa Q q 276 16 1 x0 x2) fun x3 =>
 bP (ld Q q 22 x3 G1) fun x4 =>
 bP (bn Q q .rem 3 (.tmp 9) (.const (.int .i64 64)) v1 (.int .i64 64)) fun x5 =>
 bP (bn Q q .shr 22 (.tmp 8) (.tmp 10) x4 x5) fun x6 =>
 bP (bn Q q .and 22 (.tmp 11) (.const (.int .u64 1)) x6 (.int .u64 1)) fun x7 =>
 bP (bn Q q .eql 22 (.tmp 12) (.const (.int .u64 1)) x7 (.int .u64 1)) fun x8 =>
 some (x8,G1)
theorem f184 (h:ExLe Q e (E orc)) (v0 v1:Value) (G:GS):Ref (s184 true e v0 v1 G) ((E orc).cl 184 [v0,v1] G):=cS (S:=fun q e=>s184 q e v0 v1 G) Tryz.func184 (by unfold s184; exact Ref.gq)
def b185_0 (q:Bool) (e:Ex) (lp:LpF) (τ:Env) (G:GS):OL :=
 bV q (τ 0) fun a0_ =>
 bV q (τ 1) fun a1_ =>
 bV q (τ 7) fun a7_ =>
 bV q (τ 8) fun a8_ =>
 bP (bn Q q .lss 3 (.tmp 8) (.tmp 7) a8_ a7_) fun x0 =>
 ifV x0 (
 bP (ias Q q 35 1 a0_ a8_) fun x1 =>
 bP (ld Q q 3 x1 G) fun x2 =>
 bP (bn Q q .eql 3 (.tmp 11) (.tmp 15) a1_ x2) fun x3 =>
 ifV x3 (
 some (.ret,xq q 19 τ [(4,a8_),(17,a8_),(16,x3),(15,x2),(14,x1),(13,a8_),(12,a0_),(11,a1_),(5,a8_),(10,a8_),(9,x0)] [(0,a0_),(1,a1_),(7,a7_),(8,a8_)],G)) (
 bP (bn Q q .add 3 (.tmp 8) (.const (.int .i64 1)) a8_ (.int .i64 1)) fun x4 =>
 lp (xq q 19 τ [(8,x4),(18,x4),(16,x3),(15,x2),(14,x1),(13,a8_),(12,a0_),(11,a1_),(5,a8_),(10,a8_),(9,x0)] [(0,a0_),(1,a1_),(7,a7_)]) G)) (
 some ((.exit 0),xq q 19 τ [(9,x0)] [(0,a0_),(1,a1_),(7,a7_),(8,a8_)],G))
theorem l185_0 (h:ExLe Q e (E orc)):LT orc 19 (subAt [1,0,1,0,0] (bodyOf Tryz.f185)) (b185_0 true e):=cL fun hlp τ G=>by unfold b185_0; exact Ref.gq
def s185 (q:Bool) (e:Ex) (v0 v1:Value) (G:GS):OG :=
 bP (ln Q q 35 v0) fun x0 =>
 bLq q e 185 0 (subAt [1,0,1,0,0] (bodyOf Tryz.f185)) 19 (nth undef [v0,v1]) [(8,(.int .i64 0)),(7,x0),(6,v0),(4,(.int .i64 0))] [] G fun e1 t2 G3 =>
 bV q (t2 4) fun t2x4_ =>
 ifE e1 (.exit 0) (
 some ((.int .i64 (-1)),G3)) (ifE e1 .ret (
 some (t2x4_,G3)) (none))
theorem f185 (h:ExLe Q e (E orc)) (v0 v1:Value) (G:GS):Ref (s185 true e v0 v1 G) ((E orc).cl 185 [v0,v1] G):=cS (S:=fun q e=>s185 q e v0 v1 G) Tryz.func185 (by unfold s185; exact Ref.gq)
def s186 (q:Bool) (e:Ex) (v0:Value) (G:GS):OG :=
 bS (al Q q 202 z202 G) fun x0 G1 =>
 bP (lda Q q 202 1026 v0 G1) fun x2 =>
 bP (st Q q 202 1026 x0 x2 G1) fun G3 =>
 bP (lda Q q 202 1026 x0 G3) fun x4 =>
 some (x4,G3)
theorem f186 (h:ExLe Q e (E orc)) (v0:Value) (G:GS):Ref (s186 true e v0 G) ((E orc).cl 186 [v0] G):=cS (S:=fun q e=>s186 q e v0 G) Tryz.func186 (by unfold s186; exact Ref.gq)
def s187 (q:Bool) (e:Ex) (v0 v1:Value) (G:GS):OG :=
 bS (al Q q 202 z202 G) fun x0 G1 =>
 bP (lda Q q 202 1026 v0 G1) fun x2 =>
 fl q 24 3 3 22 v1 G1 fun x4 =>
 bS (e.ev.cl 188 [x2,x4] G1) fun x5 G6 =>
 bP (st Q q 202 1026 x0 x5 G6) fun G7 =>
 bP (lda Q q 202 1026 x0 G7) fun x8 =>
 some (x8,G7)
theorem f187 (h:ExLe Q e (E orc)) (v0 v1:Value) (G:GS):Ref (s187 true e v0 v1 G) ((E orc).cl 187 [v0,v1] G):=cS (S:=fun q e=>s187 q e v0 v1 G) Tryz.func187 (by unfold s187; exact Ref.gq)
def s188 (q:Bool) (e:Ex) (v0 v1:Value) (G:GS):OG :=
 bS (bx q v0 G) fun x0 G1 =>
 bS (al Q q 202 z202 G1) fun x2 G3 =>
 fl q 202 1 1024 3 x0 G3 fun x5 =>
 fl q 202 2 1025 3 x0 G3 fun x7 =>
 bP (bn Q q .add 3 (.tmp 6) (.tmp 8) x5 x7) fun x8 =>
 bP (bn Q q .rem 3 (.tmp 9) (.const (.int .i64 1024)) x8 (.int .i64 1024)) fun x9 =>
 bP (fa Q q 202 0 0 x0) fun x10 =>
 bP (iaa Q q 200 1024 1 x10 x9) fun x11 =>
 bP (st Q q 22 1 x11 v1 G3) fun G12 =>
 fl q 202 2 1025 3 x0 G12 fun x14 =>
 bP (bn Q q .add 3 (.tmp 15) (.const (.int .i64 1)) x14 (.int .i64 1)) fun x15 =>
 bP (fa Q q 202 2 1025 x0) fun x16 =>
 bP (st Q q 3 1 x16 x15 G12) fun G17 =>
 bP (lda Q q 202 1026 x0 G17) fun x18 =>
 bP (st Q q 202 1026 x2 x18 G17) fun G19 =>
 bP (lda Q q 202 1026 x2 G19) fun x20 =>
 some (x20,G19)
theorem f188 (h:ExLe Q e (E orc)) (v0 v1:Value) (G:GS):Ref (s188 true e v0 v1 G) ((E orc).cl 188 [v0,v1] G):=cS (S:=fun q e=>s188 q e v0 v1 G) Tryz.func188 (by unfold s188; exact Ref.gq)
def s189 (q:Bool) (e:Ex) (v0:Value) (G:GS):OG :=
 bS (bx q v0 G) fun x0 G1 =>
 fl q 202 1 1024 3 x0 G1 fun x3 =>
 bP (fa Q q 202 0 0 x0) fun x4 =>
 bP (iaa Q q 200 1024 1 x4 x3) fun x5 =>
 bP (ld Q q 22 x5 G1) fun x6 =>
 some (x6,G1)
theorem f189 (h:ExLe Q e (E orc)) (v0:Value) (G:GS):Ref (s189 true e v0 G) ((E orc).cl 189 [v0] G):=cS (S:=fun q e=>s189 q e v0 G) Tryz.func189 (by unfold s189; exact Ref.gq)
def s190 (q:Bool) (e:Ex) (v0:Value) (G:GS):OG :=
 bS (al Q q 202 z202 G) fun x0 G1 =>
 bP (lda Q q 202 1026 v0 G1) fun x2 =>
 bS (e.ev.cl 191 [x2] G1) fun x3 G4 =>
 bP (st Q q 202 1026 x0 x3 G4) fun G5 =>
 bP (lda Q q 202 1026 x0 G5) fun x6 =>
 some (x6,G5)
theorem f190 (h:ExLe Q e (E orc)) (v0:Value) (G:GS):Ref (s190 true e v0 G) ((E orc).cl 190 [v0] G):=cS (S:=fun q e=>s190 q e v0 G) Tryz.func190 (by unfold s190; exact Ref.gq)
def s191 (q:Bool) (e:Ex) (v0:Value) (G:GS):OG :=
 bS (bx q v0 G) fun x0 G1 =>
 bS (al Q q 202 z202 G1) fun x2 G3 =>
 fl q 202 1 1024 3 x0 G3 fun x5 =>
 bP (bn Q q .add 3 (.tmp 4) (.const (.int .i64 1)) x5 (.int .i64 1)) fun x6 =>
 bP (bn Q q .rem 3 (.tmp 5) (.const (.int .i64 1024)) x6 (.int .i64 1024)) fun x7 =>
 bP (fa Q q 202 1 1024 x0) fun x8 =>
 bP (st Q q 3 1 x8 x7 G3) fun G9 =>
 fl q 202 2 1025 3 x0 G9 fun x11 =>
 bP (bn Q q .sub 3 (.tmp 9) (.const (.int .i64 1)) x11 (.int .i64 1)) fun x12 =>
 bP (fa Q q 202 2 1025 x0) fun x13 =>
 bP (st Q q 3 1 x13 x12 G9) fun G14 =>
 bP (lda Q q 202 1026 x0 G14) fun x15 =>
 bP (st Q q 202 1026 x2 x15 G14) fun G16 =>
 bP (lda Q q 202 1026 x2 G16) fun x17 =>
 some (x17,G16)
theorem f191 (h:ExLe Q e (E orc)) (v0:Value) (G:GS):Ref (s191 true e v0 G) ((E orc).cl 191 [v0] G):=cS (S:=fun q e=>s191 q e v0 G) Tryz.func191 (by unfold s191; exact Ref.gq)
def s192 (q:Bool) (e:Ex) (v0 v1:Value) (G:GS):OG :=
 bS (bx q v1 G) fun x0 G1 =>
 bS (al Q q 27 z27 G1) fun x2 G3 =>
 fl q 24 3 3 22 x0 G3 fun x5 =>
 bS (e.ev.cl 130 [v0,x5] G3) fun x6 G7 =>
 bP (pExtract x6 0) fun x8 =>
 bP (pExtract x6 1) fun x9 =>
 ifV x9 (
 bP (bd Q q 27 z27 [(0,0,1)] [(.int .i64 8)]) fun x10 =>
 bP (st Q q 27 3 x2 x10 G7) fun G11 =>
 bP (lda Q q 27 3 x2 G11) fun x12 =>
 some (.tuple #[x12,(.bool true)],G11)) (
 bP (bd Q q 27 z27 [] []) fun x13 =>
 bP (ln Q q 107 v0) fun x14 =>
 bP (bn Q q .lss 3 (.tmp 19) (.const (.int .i64 1024)) x14 (.int .i64 1024)) fun x15 =>
 bP (st Q q 27 3 x2 x13 G7) fun G16 =>
 bP (lda Q q 27 3 x2 G16) fun x17 =>
 some (.tuple #[x17,x15],G16))
theorem f192 (h:ExLe Q e (E orc)) (v0 v1:Value) (G:GS):Ref (s192 true e v0 v1 G) ((E orc).cl 192 [v0,v1] G):=cS (S:=fun q e=>s192 q e v0 v1 G) Tryz.func192 (by unfold s192; exact Ref.gq)
def s193 (q:Bool) (e:Ex) (v0 v1:Value) (G:GS):OG :=
 bS (bx q v1 G) fun x0 G1 =>
 bS (al Q q 27 z27 G1) fun x2 G3 =>
 bP (ln Q q 107 v0) fun x4 =>
 bP (bn Q q .eql 3 (.tmp 7) (.const (.int .i64 0)) x4 (.int .i64 0)) fun x5 =>
 ifV x5 (
 bP (bd Q q 27 z27 [(0,0,1)] [(.int .i64 15)]) fun x6 =>
 bP (st Q q 27 3 x2 x6 G3) fun G7 =>
 bP (lda Q q 27 3 x2 G7) fun x8 =>
 some (.tuple #[x8,(.bool true)],G7)) (
 bP (ias Q q 107 2 v0 (.int .i64 0)) fun x9 =>
 fl q 184 1 1 3 x9 (G3.room 11) fun x11 =>
 bP (ias Q q 107 2 v0 (.int .i64 0)) fun x12 =>
 fl q 184 0 0 22 x12 (G3.room 11) fun x14 =>
 bP (bd Q q 27 z27 [(1,1,1),(2,2,1)] [x11,x14]) fun x15 =>
 bP (st Q q 27 3 x2 x15 (G3.room 11)) fun G16 =>
 bP (lda Q q 27 3 x2 G16) fun x17 =>
 some (.tuple #[x17,(.bool true)],G16))
theorem f193 (h:ExLe Q e (E orc)) (v0 v1:Value) (G:GS):Ref (s193 true e v0 v1 G) ((E orc).cl 193 [v0,v1] G):=cS (S:=fun q e=>s193 q e v0 v1 G) Tryz.func193 (by unfold s193; exact Ref.gq)
def b194_0 (q:Bool) (e:Ex) (lp:LpF) (τ:Env) (G:GS):OL :=
 bV q (τ 0) fun a0_ =>
 bV q (τ 1) fun a1_ =>
 bV q (τ 6) fun a6_ =>
 bV q (τ 7) fun a7_ =>
 bP (bn Q q .lss 3 (.tmp 11) (.tmp 12) a6_ a7_) fun x0 =>
 ifV x0 (
 bP (bn Q q .sub 3 (.tmp 15) (.tmp 16) a7_ a6_) fun x1 =>
 bP (bn Q q .quo 3 (.tmp 17) (.const (.int .i64 2)) x1 (.int .i64 2)) fun x2 =>
 bP (bn Q q .add 3 (.tmp 14) (.tmp 18) a6_ x2) fun x3 =>
 bP (ias Q q 107 2 a0_ x3) fun x4 =>
 bP (lda Q q 184 2 x4 G) fun x5 =>
 bS (cValue e.ev a1_ [x5] G) fun x6 G7 =>
 bP (bn Q q .lss 3 (.tmp 25) (.const (.int .i64 0)) x6 (.int .i64 0)) fun x8 =>
 ifV x8 (
 bP (bn Q q .add 3 (.tmp 27) (.const (.int .i64 1)) x3 (.int .i64 1)) fun x9 =>
 lp (xq q 44 τ [(6,x9),(28,x9),(27,x3),(26,x8),(25,x6),(24,x5),(23,x4),(22,x3),(21,a0_),(20,a1_),(8,x3),(19,x3),(18,x2),(17,x1),(16,a6_),(15,a7_),(14,a6_),(13,x0),(12,a7_),(11,a6_)] [(0,a0_),(1,a1_),(7,a7_)]) G7) (
 lp (xq q 44 τ [(7,x3),(29,x3),(26,x8),(25,x6),(24,x5),(23,x4),(22,x3),(21,a0_),(20,a1_),(8,x3),(19,x3),(18,x2),(17,x1),(16,a6_),(15,a7_),(14,a6_),(13,x0),(12,a7_),(11,a6_)] [(0,a0_),(1,a1_),(6,a6_)]) G7)) (
 some ((.exit 0),xq q 44 τ [(13,x0),(12,a7_),(11,a6_)] [(0,a0_),(1,a1_),(6,a6_),(7,a7_)],G))
theorem l194_0 (h:ExLe Q e (E orc)):LT orc 44 (subAt [1,1,0,0,0] (bodyOf Tryz.f194)) (b194_0 true e):=cL fun hlp τ G=>by unfold b194_0; exact Ref.gq
def s194 (q:Bool) (e:Ex) (v0 v1:Value) (G:GS):OG :=
 bP (ln Q q 107 v0) fun x0 =>
 bLq q e 194 0 (subAt [1,1,0,0,0] (bodyOf Tryz.f194)) 44 (nth undef [v0,v1]) [(7,x0),(6,(.int .i64 0)),(10,x0),(9,v0),(5,(.bool false)),(4,(.int .i64 0))] [] G fun e1 t2 G3 =>
 bV q (t2 0) fun t2x0_ =>
 bV q (t2 1) fun t2x1_ =>
 bV q (t2 6) fun t2x6_ =>
 ifE e1 (.exit 0) (
 bP (ln Q q 107 t2x0_) fun x4 =>
 bP (bn Q q .lss 3 (.tmp 31) (.tmp 33) t2x6_ x4) fun x5 =>
 bS (gV x5 true t2x1_ G3) fun x6 G7 =>
 bS (gV x5 true t2x0_ G7) fun x8 G9 =>
 bS (gV x5 true t2x6_ G9) fun x10 G11 =>
 bS (gP x5 true (ias Q q 107 2 x8 x10) G11) fun x12 G13 =>
 bS (gP x5 true (lda Q q 184 2 x12 G13) G13) fun x14 G15 =>
 bS (gS x5 true (cValue e.ev x6 [x14] G15) G15) fun x16 G17 =>
 bS (gP x5 true (bn Q q .eql 3 (.tmp 41) (.const (.int .i64 0)) x16 (.int .i64 0)) G17) fun x18 G19 =>
 bP (pickV x5 x18 (.bool false)) fun x20 =>
 some (.tuple #[t2x6_,x20],G19)) (none)
theorem f194 (h:ExLe Q e (E orc)) (v0 v1:Value) (G:GS):Ref (s194 true e v0 v1 G) ((E orc).cl 194 [v0,v1] G):=cS (S:=fun q e=>s194 q e v0 v1 G) Tryz.func194 (by unfold s194; exact Ref.gq)
def s195 (q:Bool) (e:Ex) (v0 v1:Value) (G:GS):OG :=
 bS (bx q v0 G) fun x0 G1 =>
 fl q 184 0 0 22 x0 G1 fun x3 =>
 bP (ld Q q 22 v1 G1) fun x4 =>
 bS (e.ev.cl 196 [x3,x4] G1) fun x5 G6 =>
 some (x5,G6)
theorem f195 (h:ExLe Q e (E orc)) (v0 v1:Value) (G:GS):Ref (s195 true e v0 v1 G) ((E orc).cl 195 [v0,v1] G):=cS (S:=fun q e=>s195 q e v0 v1 G) Tryz.func195 (by unfold s195; exact Ref.gq)
def s196 (q:Bool) (e:Ex) (v0 v1:Value) (G:GS):OG :=
 bS (e.ev.cl 238 [v0] G) fun x0 G1 =>
 bS (e.ev.cl 238 [v1] G1) fun x2 G3 =>
 ifV x0 (
 ifV x2 (
 some ((.int .i64 0),G3)) (
 some ((.int .i64 (-1)),G3))) (
 ifV x2 (
 some ((.int .i64 1),G3)) (
 bP (bn Q q .lss 22 (.tmp 14) (.tmp 15) v0 v1) fun x4 =>
 ifV x4 (
 some ((.int .i64 (-1)),G3)) (
 bP (bn Q q .gtr 22 (.tmp 17) (.tmp 18) v0 v1) fun x5 =>
 ifV x5 (
 some ((.int .i64 1),G3)) (
 some ((.int .i64 0),G3)))))
theorem f196 (h:ExLe Q e (E orc)) (v0 v1:Value) (G:GS):Ref (s196 true e v0 v1 G) ((E orc).cl 196 [v0,v1] G):=cS (S:=fun q e=>s196 q e v0 v1 G) Tryz.func196 (by unfold s196; exact Ref.gq)
def s225 (q:Bool) (e:Ex) (v0 v1 v2 v3:Value) (G:GS):OG :=
 bS (bx q v0 G) fun x0 G1 =>
 bS (nm G1) fun x2 G3 =>
 bS (al Q q 320 z320 G3) fun x4 G5 =>
 bP (st Q q 320 1 x4 x2 G5) fun G6 =>
 bS (al Q q 321 z321 G6) fun x7 G8 =>
 bP (st Q q 321 1 x7 (.func (.func 226) #[] #[v1,v2,x0,v3,x4,x7]) G8) fun G9 =>
 bP (ld Q q 321 x7 G9) fun x10 =>
 fl q 104 0 0 74 v3 G9 fun x12 =>
 bS (cValue e.ev x10 [x12,(.int .i64 0),(.slice none 0 0)] G9) fun x13 G14 =>
 some (.tuple #[],G14)
theorem f225 (h:ExLe Q e (E orc)) (v0 v1 v2 v3:Value) (G:GS):Ref (s225 true e v0 v1 v2 v3 G) ((E orc).cl 225 [v0,v1,v2,v3] G):=cS (S:=fun q e=>s225 q e v0 v1 v2 v3 G) Tryz.func225 (by unfold s225; exact Ref.gq)
def b226_0 (q:Bool) (e:Ex) (lp:LpF) (τ:Env) (G:GS):OL :=
 bV q (τ 0) fun a0_ =>
 bV q (τ 1) fun a1_ =>
 bV q (τ 2) fun a2_ =>
 bV q (τ 3) fun a3_ =>
 bV q (τ 4) fun a4_ =>
 bV q (τ 6) fun a6_ =>
 bV q (τ 13) fun a13_ =>
 bV q (τ 54) fun a54_ =>
 bV q (τ 55) fun a55_ =>
 bV q (τ 56) fun a56_ =>
 bP (bn Q q .lss 3 (.tmp 56) (.tmp 55) a56_ a55_) fun x0 =>
 ifV x0 (
 bP (ias Q q 38 10 a54_ a56_) fun x1 =>
 bP (lda Q q 29 10 x1 G) fun x2 =>
 bS (al Q q 29 z29 G) fun x3 G4 =>
 bP (st Q q 29 10 x3 x2 G4) fun G5 =>
 bP (un Q q .not a13_) fun x6 =>
 bS (gV x6 true a56_ G5) fun x7 G8 =>
 bS (gP x6 true (ld Q q 35 a3_ G8) G8) fun x9 G10 =>
 bS (gV x6 true a2_ G10) fun x11 G12 =>
 bS (gP x6 true (ln Q q 35 x11) G12) fun x13 G14 =>
 bS (gP x6 true (ias Q q 35 1 x9 x13) G14) fun x15 G16 =>
 bS (gP x6 true (ld Q q 3 x15 G16) G16) fun x17 G18 =>
 bS (gP x6 true (bn Q q .neq 3 (.tmp 64) (.tmp 69) x7 x17) G18) fun x19 G20 =>
 bP (pickV x6 x19 (.bool false)) fun x21 =>
 bS (gP x21 false (ld Q q 38 a4_ G20) G20) fun x22 G23 =>
 bS (gV x21 false a1_ G23) fun x24 G25 =>
 bS (gV x21 false a56_ G25) fun x26 G27 =>
 bS (gS x21 false (e.ev.cl 102 [x22,x24,x26] G27) G27) fun x28 G29 =>
 bS (gP x21 false (un Q q .not x28) G29) fun x30 G31 =>
 bP (pickV x21 (.bool true) x30) fun x32 =>
 ifV x32 (
 bP (bn Q q .add 3 (.tmp 56) (.const (.int .i64 1)) a56_ (.int .i64 1)) fun x33 =>
 lp (xq q 120 τ [(56,x33),(115,x33),(78,x32),(77,x30),(76,x28),(75,x26),(74,x24),(73,x22),(72,x21),(71,x21),(70,x19),(69,x17),(68,x15),(67,x13),(66,x11),(65,x9),(64,x7),(63,x6),(62,x6),(61,a13_),(17,a56_),(18,x3),(60,x2),(59,x1),(58,a56_),(57,x0)] [(0,a0_),(1,a1_),(2,a2_),(3,a3_),(4,a4_),(6,a6_),(13,a13_),(54,a54_),(55,a55_)]) G31) (
 bP (lda Q q 104 4 a6_ G31) fun x34 =>
 bP (lda Q q 29 10 x3 G31) fun x35 =>
 bS (e.ev.cl 119 [x34,a0_,x35] G31) fun x36 G37 =>
 bP (ln Q q 180 x36) fun x38 =>
 bLq q e 226 1 (subAt [1,1,1,1,1,0,1,0,0,1,1,0,0,1,1,1,0,0] (bodyOf Tryz.f226)) 120 τ [(84,(.int .i64 0)),(83,x38),(82,x36),(81,x35),(80,a0_),(79,x34),(78,x32),(77,x30),(76,x28),(75,x26),(74,x24),(73,x22),(72,x21),(71,x21),(70,x19),(69,x17),(68,x15),(67,x13),(66,x11),(65,x9),(64,x7),(63,x6),(62,x6),(61,a13_),(17,a56_),(18,x3),(60,x2),(59,x1),(58,a56_),(57,x0)] [] G37 fun e39 t40 G41 =>
 bV q (t40 0) fun t40x0_ =>
 bV q (t40 1) fun t40x1_ =>
 bV q (t40 2) fun t40x2_ =>
 bV q (t40 3) fun t40x3_ =>
 bV q (t40 4) fun t40x4_ =>
 bV q (t40 6) fun t40x6_ =>
 bV q (t40 13) fun t40x13_ =>
 bV q (t40 54) fun t40x54_ =>
 bV q (t40 55) fun t40x55_ =>
 bV q (t40 56) fun t40x56_ =>
 ifE e39 (.exit 2) (
 bP (bn Q q .add 3 (.tmp 56) (.const (.int .i64 1)) t40x56_ (.int .i64 1)) fun x42 =>
 lp (xq q 120 t40 [(56,x42),(115,x42)] [(0,t40x0_),(1,t40x1_),(2,t40x2_),(3,t40x3_),(4,t40x4_),(6,t40x6_),(13,t40x13_),(54,t40x54_),(55,t40x55_)]) G41) (ifE e39 .ret (
 some (.ret,xq q 120 t40 [] [(0,t40x0_),(1,t40x1_),(2,t40x2_),(3,t40x3_),(4,t40x4_),(6,t40x6_),(13,t40x13_),(54,t40x54_),(55,t40x55_),(56,t40x56_)],G41)) (none)))) (
 some ((.exit 0),xq q 120 τ [(57,x0)] [(0,a0_),(1,a1_),(2,a2_),(3,a3_),(4,a4_),(6,a6_),(13,a13_),(54,a54_),(55,a55_),(56,a56_)],G))
theorem mb226_0 {e:Ex} {E:Ev} (h:ExLe Q e E) {lp lp':LpF} (hlp:LpLe lp lp') (τ:Env) (G:GS):Ref (b226_0 true e lp τ G) (b226_0 false (Ex.of E) lp' τ G):=by
 unfold b226_0
 exact Ref.gq
set_option maxHeartbeats 8000000 in
theorem l226_0 {orc:FuncId→Bool} {e:Ex} (h:ExLe Q e (E orc)) (lp:LpF) (hlp:∀ τ G,Ref (lp τ G) (mapE ((E orc).lp (subAt [1,1,1,1,1,0,1,0,0] (bodyOf Tryz.f226)) (lst 120 τ) G))) (T:List Value) (G:GS) (hT:T.length=120):Ref (b226_0 true e lp (nth undef T) G) (mapE ((E orc).lp (subAt [1,1,1,1,1,0,1,0,0] (bodyOf Tryz.f226)) T G)) :=
 fun r hr=>lp_sxN Q orc G hT (by kernel_rfl) (mb226_0 h ⟨hlp⟩ _ _ r hr)
end
end Go.Proofs.YtlaojmcekeohnaaGreatDoor.Lift
