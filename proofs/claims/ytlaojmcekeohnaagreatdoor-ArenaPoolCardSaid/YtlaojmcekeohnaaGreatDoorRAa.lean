import Derived.Test.YtlaojmcekeohnaaGreatDoorProg
import Derived.Test.YtlaojmcekeohnaaGreatDoorGhPJ
import Derived.Test.YtlaojmcekeohnaaGreatDoorGhPG
import Derived.KernelRfl
namespace Go.Proofs.YtlaojmcekeohnaaGreatDoor.Lift
open Go Go.Proofs.YtlaojmcekeohnaaGreatDoor.Gh Go.Proofs
set_option linter.unusedVariables false
set_option maxRecDepth 100000
@[reducible] noncomputable def Q:Program:=Tryz.prog
@[reducible] noncomputable def E (orc:FuncId → Bool):Ev:=evL Tryz.prog orc
noncomputable section
abbrev OG:Type:=Option (Value × GS)
abbrev OL:Type:=Option (Exit × Env × GS)
abbrev LpF:Type:=Env → GS → OL
variable {orc:FuncId → Bool} {e:Ex}
abbrev gP (x:Value) (b:Bool) (o:Option Value) (G:GS):Option (Value × GS):=gd x b (bP o fun y=>some (y,G)) G
abbrev gS (x:Value) (b:Bool) (o:Option (Value × GS)) (G:GS):Option (Value × GS):=gd x b (bS o fun y G=>some (y,G)) G
abbrev gV (x:Value) (b:Bool) (v:Value) (G:GS):Option (Value × GS):=gd x b (some (v,G)) G
abbrev nf {β:Type} (q:Bool) (t f o:Nat) (v:Value) (k:Value → Option β):Option β:=bP (pNil v) fun x=>bP (fa Q q t f o x) k
abbrev fl {β:Type} (q:Bool) (t f o u:Nat) (v:Value) (G:GS) (k:Value → Option β):Option β:=bP (fa Q q t f o v) fun x=>bP (ld Q q u x G) k
abbrev nl {β:Type} (q:Bool) (t f o u:Nat) (v:Value) (G:GS) (k:Value → Option β):Option β:=bP (pNil v) fun x=>bP (fa Q q t f o x) fun y=>bP (ld Q q u y G) k
@[simp] theorem gP_s (x:Value) (b:Bool) (o:Option Value) (G:GS):gP x b o G = gd x b (bP o fun y=>some (y,G)) G:=Eq.trans rfl rfl
@[simp] theorem gS_s (x:Value) (b:Bool) (o:Option (Value × GS)) (G:GS):gS x b o G = gd x b (bS o fun y G=>some (y,G)) G:=Eq.trans rfl rfl
@[simp] theorem gV_s (x:Value) (b:Bool) (v:Value) (G:GS):gV x b v G = gd x b (some (v,G)) G:=Eq.trans rfl rfl
@[simp] theorem nf_s {β:Type} (q:Bool) (t f o:Nat) (v:Value) (k:Value → Option β):nf q t f o v k = bP (pNil v) fun x=>bP (fa Q q t f o x) k:=Eq.trans rfl rfl
@[simp] theorem fl_s {β:Type} (q:Bool) (t f o u:Nat) (v:Value) (G:GS) (k:Value → Option β):fl q t f o u v G k = bP (fa Q q t f o v) fun x=>bP (ld Q q u x G) k:=Eq.trans rfl rfl
@[simp] theorem nl_s {β:Type} (q:Bool) (t f o u:Nat) (v:Value) (G:GS) (k:Value → Option β):nl q t f o u v G k = bP (pNil v) fun x=>bP (fa Q q t f o x) fun y=>bP (ld Q q u y G) k:=Eq.trans rfl rfl
theorem cS {k : FuncId} {fn : Func} {vs : List Value} {G : GS} {S : Bool → Ex → Option (Value × GS)} (hf : Q.funcs[k]? = some fn) (m : Ref (S true e) (S false (Ex.of (E orc)))) (hn : (fn.name == "runtime.NumGoroutine") = false := by kernel_rfl) (hb : fn.body.isSome = true := by kernel_rfl)
  (ho:(vs.isEmpty && orc k) = false:=by kernel_rfl) (hp:isPur Q orc k = false:=by kernel_rfl) (hl:Nat.ble vs.length fn.ntmps = true:=by kernel_rfl) (hx:sxE Q (evL Q orc) fn.ntmps (bodyOf fn) (nth undef vs) G (retE Q fn.results.toList) = S false (Ex.of (E orc)):=by kernel_rfl) :
  Ref (S true e) ((E orc).cl k vs G):=fun r hr=>cl_sxE_some Q orc G hf hn hb ho hp hl hx (m r hr)
abbrev LT (orc:FuncId → Bool) (N:Nat) (c:Code) (b:LpF → LpF):Prop:=∀ lp:LpF,(∀ τ G,Ref (lp τ G) (mapE ((E orc).lp c (lst N τ) G))) → ∀ (T:List Value) (G:GS),T.length = N → Ref (b lp (nth undef T) G) (mapE ((E orc).lp c T G))
theorem cL {N:Nat} {c:Code} {B:Bool → Ex → LpF → LpF} (m:∀ {lp lp':LpF},LpLe lp lp' → ∀ τ G,Ref (B true e lp τ G) (B false (Ex.of (E orc)) lp' τ G))
  (hx:∀ T G,sxE Q (evL Q orc) N c (nth undef T) G (seqXE (fun τ G'=>mapE ((evL Q orc).lp c (lst N (nth undef (lst N τ))) G')) fun e τ G'=>some (e,nth undef (lst N τ),G')) = B false (Ex.of (E orc)) (fun τ G=>mapE ((E orc).lp c (lst N τ) G)) (nth undef T) G:=by intro T G; kernel_rfl) :
  LT orc N c (B true e):=fun lp hlp T G hT r hr=>lp_sxN Q orc G hT (hx T G) (m ⟨hlp⟩ _ _ r hr)
theorem cf {n f:FuncId} {vs:List Value} {G:GS} {x:Option (Value × GS)} (h:Ref x ((E orc).cl n vs G)):Ref (leaf f n x) ((E orc).cl f vs G):=Ref.leaf (y:=fun f=>(E orc).cl f vs G) h
theorem ck {j f k:Nat} {τ:Env} {G:GS} {x:Option (Exit × Env × GS)} (h:Ref x (mapE ((E orc).lp (codeAt Q f j) (lst (nOf Q f) τ) G))):Ref (leaf k j x) (mapE ((E orc).lp (codeAt Q f k) (lst (nOf Q f) τ) G)):=Ref.leaf (y:=fun k=>mapE ((E orc).lp (codeAt Q f k) (lst (nOf Q f) τ) G)) h
theorem Ref.gj {α:Type} {x y:Option α} (t:Ref x y:=by repeat' (with_reducible first | exact Ref.rfl' _ | exact ROp.r | refine Ref.bP ?_ fun _=>?_ | refine Ref.bS ?_ fun _ _=>?_ | exact Ref.cl (by assumption) | refine Ref.ifV ?_ ?_ | refine LpLe.rx (by assumption) ?_ | refine Ref.xitq ?_ | exact UOk.z | refine UOk.c (by assumption) ?_ | exact Ref.nil _ | refine Ref.bVe fun _ _=>?_ | refine Ref.bLq (by assumption) ?_ fun _ _ _=>?_ | refine Ref.ifE ?_ ?_ | refine Ref.chk ?_ ?_ | refine Imp.and ?_ ?_ | refine Imp.or ?_ | exact Imp.rfl' _ | refine Imp.sameO ?_ | refine Ref.gd ?_ | exact Ref.cValue (by assumption) | refine Ref.bX ?_ fun _ _ _=>?_ | exact Ref.scQ (by assumption) | exact Ref.xRangeQ (by assumption) | exact Ref.cInvoke (by assumption) | refine j0 ?_ | refine j1 ?_ | refine j2 ?_ | refine j3 ?_ | refine j4 ?_ | refine j5 ?_ | refine j6 ?_)):Ref x y:=t
instance ilp29_0:LpIs Q 29 0 (subAt [1,0,1,0,0] (bodyOf Tryz.f29)) 80:=⟨by kernel_rfl,by kernel_rfl⟩
instance ilp29_1:LpIs Q 29 1 (subAt [1,1,0,1,0,0] (bodyOf Tryz.f29)) 80:=⟨by kernel_rfl,by kernel_rfl⟩
instance ilp29_2:LpIs Q 29 2 (subAt [1,1,0,1,0,0,1,0,0,1,0,0] (bodyOf Tryz.f29)) 80:=⟨by kernel_rfl,by kernel_rfl⟩
instance ilp39_0:LpIs Q 39 0 (subAt [1,1,1,0,1,0,0] (bodyOf Tryz.f39)) 60:=⟨by kernel_rfl,by kernel_rfl⟩
instance ilp40_0:LpIs Q 40 0 (subAt [1,1,1,0,1,0,0] (bodyOf Tryz.f40)) 56:=⟨by kernel_rfl,by kernel_rfl⟩
instance ilp40_1:LpIs Q 40 1 (subAt [1,1,1,0,1,0,0,1,0,1,0,0] (bodyOf Tryz.f40)) 56:=⟨by kernel_rfl,by kernel_rfl⟩
instance ilp42_0:LpIs Q 42 0 (subAt [1,1,1,0,1,0,0] (bodyOf Tryz.f42)) 56:=⟨by kernel_rfl,by kernel_rfl⟩
instance ilp42_1:LpIs Q 42 1 (subAt [1,1,1,0,1,0,0,1,0,1,0,0] (bodyOf Tryz.f42)) 56:=⟨by kernel_rfl,by kernel_rfl⟩
instance ilp44_0:LpIs Q 44 0 (subAt [1,1,1,0,1,0,0] (bodyOf Tryz.f44)) 56:=⟨by kernel_rfl,by kernel_rfl⟩
instance ilp44_1:LpIs Q 44 1 (subAt [1,1,1,0,1,0,0,1,0,1,0,0] (bodyOf Tryz.f44)) 56:=⟨by kernel_rfl,by kernel_rfl⟩
instance ilp81_0:LpIs Q 81 0 (subAt [1,1,1,1,1,0,0] (bodyOf Tryz.f81)) 29:=⟨by kernel_rfl,by kernel_rfl⟩
instance ilp83_0:LpIs Q 83 0 (subAt [1,1,1,1,1,1,1,1,1,1,1,0,1,0,0] (bodyOf Tryz.f83)) 204:=⟨by kernel_rfl,by kernel_rfl⟩
instance ilp99_0:LpIs Q 99 0 (subAt [1,1,0,1,0,0] (bodyOf Tryz.f99)) 25:=⟨by kernel_rfl,by kernel_rfl⟩
instance ilp101_0:LpIs Q 101 0 (subAt [1,0,1,0,0] (bodyOf Tryz.f101)) 25:=⟨by kernel_rfl,by kernel_rfl⟩
instance ilp102_0:LpIs Q 102 0 (subAt [1,1,0,1,0,0] (bodyOf Tryz.f102)) 40:=⟨by kernel_rfl,by kernel_rfl⟩
instance ilp114_0:LpIs Q 114 0 (subAt [1,1,1,0,1,0,0] (bodyOf Tryz.f114)) 26:=⟨by kernel_rfl,by kernel_rfl⟩
instance ilp125_0:LpIs Q 125 0 (subAt [1,1,0,1,0,0] (bodyOf Tryz.f125)) 23:=⟨by kernel_rfl,by kernel_rfl⟩
instance ilp126_0:LpIs Q 126 0 (subAt [1,1,0,1,0,0] (bodyOf Tryz.f126)) 29:=⟨by kernel_rfl,by kernel_rfl⟩
instance ilp162_0:LpIs Q 162 0 (subAt [1,1,1,1,0,0] (bodyOf Tryz.f162)) 34:=⟨by kernel_rfl,by kernel_rfl⟩
instance ilp176_0:LpIs Q 176 0 (subAt [1,1,0,1,0,0] (bodyOf Tryz.f176)) 16:=⟨by kernel_rfl,by kernel_rfl⟩
instance ilp177_0:LpIs Q 177 0 (subAt [1,1,0,1,0,0] (bodyOf Tryz.f177)) 19:=⟨by kernel_rfl,by kernel_rfl⟩
instance ilp181_0:LpIs Q 181 0 (subAt [1,0,1,0,0] (bodyOf Tryz.f181)) 32:=⟨by kernel_rfl,by kernel_rfl⟩
instance ilp181_1:LpIs Q 181 1 (subAt [1,1,0,1,0,0] (bodyOf Tryz.f181)) 32:=⟨by kernel_rfl,by kernel_rfl⟩
instance ilp194_0:LpIs Q 194 0 (subAt [1,1,0,0,0] (bodyOf Tryz.f194)) 44:=⟨by kernel_rfl,by kernel_rfl⟩
instance ilp226_0:LpIs Q 226 0 (subAt [1,1,1,1,1,0,1,0,0] (bodyOf Tryz.f226)) 120:=⟨by kernel_rfl,by kernel_rfl⟩
instance ilp226_1:LpIs Q 226 1 (subAt [1,1,1,1,1,0,1,0,0,1,1,0,0,1,1,1,0,0] (bodyOf Tryz.f226)) 120:=⟨by kernel_rfl,by kernel_rfl⟩
instance ilp232_0:LpIs Q 232 0 (subAt [1,1,1,1,1,0,1,0,0] (bodyOf Tryz.f232)) 120:=⟨by kernel_rfl,by kernel_rfl⟩
instance ilp232_1:LpIs Q 232 1 (subAt [1,1,1,1,1,0,1,0,0,1,1,0,0,1,1,1,0,0] (bodyOf Tryz.f232)) 120:=⟨by kernel_rfl,by kernel_rfl⟩
instance ilp234_0:LpIs Q 234 0 (subAt [1,1,1,1,1,0,1,0,0] (bodyOf Tryz.f234)) 120:=⟨by kernel_rfl,by kernel_rfl⟩
instance ilp234_1:LpIs Q 234 1 (subAt [1,1,1,1,1,0,1,0,0,1,1,0,0,1,1,1,0,0] (bodyOf Tryz.f234)) 120:=⟨by kernel_rfl,by kernel_rfl⟩
instance ilp236_0:LpIs Q 236 0 (subAt [1,0,0] (bodyOf Tryz.f236)) 25:=⟨by kernel_rfl,by kernel_rfl⟩
instance ilp236_1:LpIs Q 236 1 (subAt [1,0,0,1,1,0,0,1,0,0] (bodyOf Tryz.f236)) 25:=⟨by kernel_rfl,by kernel_rfl⟩
instance ilp252_0:LpIs Q 252 0 (subAt [1,0,1,0,0] (bodyOf Tryz.f252)) 24:=⟨by kernel_rfl,by kernel_rfl⟩
instance ilp254_0:LpIs Q 254 0 (subAt [1,1,0,1,0,0] (bodyOf Tryz.f254)) 24:=⟨by kernel_rfl,by kernel_rfl⟩
instance iln35:LnOk Q 35:=⟨fun a n c=>by kernel_rfl⟩
instance iep66:EpOk Q 66:=⟨fun neg x y=>by cases neg <;> kernel_rfl,fun neg x y a=>by cases neg <;> kernel_rfl,fun neg x y a=>by cases neg <;> kernel_rfl⟩
instance ifa76_6:FaOk Q 76 6 11:=⟨fun b o s=>by kernel_rfl⟩
instance ild38:LdOk Q 38:=⟨fun b o s G=>(show _ = loadOne b o G by kernel_rfl).trans (loadOne_eq b o G)⟩
instance iln38:LnOk Q 38:=⟨fun a n c=>by kernel_rfl⟩
instance ifa76_0:FaOk Q 76 0 0:=⟨fun b o s=>by kernel_rfl⟩
instance ifa71_0:FaOk Q 71 0 0:=⟨fun b o s=>by kernel_rfl⟩
instance ifa69_2:FaOk Q 69 2 2:=⟨fun b o s=>by kernel_rfl⟩
instance ild3:LdOk Q 3:=⟨fun b o s G=>(show _ = loadOne b o G by kernel_rfl).trans (loadOne_eq b o G)⟩
instance ifa29_2:FaOk Q 29 2 2:=⟨fun b o s=>by kernel_rfl⟩
instance ifa29_1:FaOk Q 29 1 1:=⟨fun b o s=>by kernel_rfl⟩
abbrev z71:List Value:=[(.int .i64 0),(.int .i64 0),(.int .i64 0),(.int .i64 0),(.int .i64 0),(.int .i64 0)]
instance ial71:AlOk Q 71 z71:=⟨fun G=>by kernel_rfl⟩
instance ist71:StOk Q 71 6:=⟨fun b o s v G=>by kernel_rfl⟩
instance ifa71_3:FaOk Q 71 3 5:=⟨fun b o s=>by kernel_rfl⟩
instance ist3:StOk Q 3 1:=⟨fun b o s v G=>by kernel_rfl⟩
instance ifa71_2:FaOk Q 71 2 4:=⟨fun b o s=>by kernel_rfl⟩
instance ilda71:LdAOk Q 71 6:=⟨fun b o s G=>by kernel_rfl⟩
abbrev z69:List Value:=[(.int .i64 0),(.int .i64 0),(.int .i64 0)]
instance ibd69_0_1_2:BdOk Q 69 z69 [(0,0,1),(1,1,1),(2,2,1)]:=bd_ok Q (by kernel_rfl) (by kernel_rfl) (by kernel_rfl)
instance ibd71_0_1_2_3:BdOk Q 71 z71 [(0,0,3),(1,3,1),(2,4,1),(3,5,1)]:=bd_ok Q (by kernel_rfl) (by kernel_rfl) (by kernel_rfl)
instance iep58:EpOk Q 58:=⟨fun neg x y=>by cases neg <;> kernel_rfl,fun neg x y a=>by cases neg <;> kernel_rfl,fun neg x y a=>by cases neg <;> kernel_rfl⟩
abbrev z249:List Value:=[(.pointer none)]
instance imk72:MkSlOk Q 72 1 8 z249:=⟨fun k k' l c G=>by kernel_rfl⟩
abbrev z150:List Value:=[(.pointer none)]
instance imk73:MkSlOk Q 73 1 8 z150:=⟨fun k k' l c G=>by kernel_rfl⟩
abbrev z22:List Value:=[(.int .u64 0)]
instance imk74:MkSlOk Q 74 1 8 z22:=⟨fun k k' l c G=>by kernel_rfl⟩
abbrev z3:List Value:=[(.int .i64 0)]
instance ibs35_3_0_1_2:BsOk Q 35 3 (rep z3 3) 1 [(0,0,1),(1,1,1),(2,2,1)]:=bs_ok Q (z0:=z3) (by kernel_rfl) rfl (by decide) (by kernel_rfl)
abbrev z76:List Value:=[(.int .i64 0),(.int .i64 0),(.int .i64 0),(.int .i64 0),(.int .i64 0),(.int .i64 0),(.pointer none),(.slice none 0 0),(.slice none 0 0),(.slice none 0 0),(.slice none 0 0),(.slice none 0 0),(.slice none 0 0),(.int .i64 0)]
instance ibd76_0_1_2_3_5_7:BdOk Q 76 z76 [(0,0,6),(1,6,1),(2,7,1),(3,8,1),(5,10,1),(7,12,1)]:=bd_ok Q (by kernel_rfl) (by kernel_rfl) (by kernel_rfl)
instance iias35:IasOk Q 35 1:=⟨fun b o s n c k j=>by kernel_rfl⟩
instance ifa76_7:FaOk Q 76 7 12:=⟨fun b o s=>by kernel_rfl⟩
instance ild35:LdOk Q 35:=⟨fun b o s G=>(show _ = loadOne b o G by kernel_rfl).trans (loadOne_eq b o G)⟩
instance ifa76_4:FaOk Q 76 4 9:=⟨fun b o s=>by kernel_rfl⟩
instance ild74:LdOk Q 74:=⟨fun b o s G=>(show _ = loadOne b o G by kernel_rfl).trans (loadOne_eq b o G)⟩
instance iln74:LnOk Q 74:=⟨fun a n c=>by kernel_rfl⟩
instance iias38:IasOk Q 38 10:=⟨fun b o s n c k j=>by kernel_rfl⟩
instance ilda29:LdAOk Q 29 10:=⟨fun b o s G=>by kernel_rfl⟩
abbrev z29:List Value:=[(.int .i64 0),(.int .i64 0),(.int .i64 0),(.int .i64 0),(.int .i64 0),(.int .i64 0),(.int .u64 0),(.int .i64 0),(.int .i64 0),(.int .u64 0)]
instance ial29:AlOk Q 29 z29:=⟨fun G=>by kernel_rfl⟩
instance ist29:StOk Q 29 10:=⟨fun b o s v G=>by kernel_rfl⟩
instance ifa29_0:FaOk Q 29 0 0:=⟨fun b o s=>by kernel_rfl⟩
instance ilda104:LdAOk Q 104 4:=⟨fun b o s G=>by kernel_rfl⟩
instance ibs35_1_0:BsOk Q 35 1 (rep z3 1) 1 [(0,0,1)]:=bs_ok Q (z0:=z3) (by kernel_rfl) rfl (by decide) (by kernel_rfl)
instance iap35_35:ApOk Q 35 35 1 8:=⟨fun s x G=>by kernel_rfl⟩
abbrev z104:List Value:=[(.slice none 0 0),.nilFunc,.nilFunc,.nilFunc]
instance ial104:AlOk Q 104 z104:=⟨fun G=>by kernel_rfl⟩
instance ibd104_1_2_3:BdOk Q 104 z104 [(1,1,1),(2,2,1),(3,3,1)]:=bd_ok Q (by kernel_rfl) (by kernel_rfl) (by kernel_rfl)
instance ist104:StOk Q 104 4:=⟨fun b o s v G=>by kernel_rfl⟩
instance ilda112:LdAOk Q 112 4:=⟨fun b o s G=>by kernel_rfl⟩
abbrev z112:List Value:=[(.slice none 0 0),.nilFunc,.nilFunc,.nilFunc]
instance ial112:AlOk Q 112 z112:=⟨fun G=>by kernel_rfl⟩
instance ibd112_1_2_3:BdOk Q 112 z112 [(1,1,1),(2,2,1),(3,3,1)]:=bd_ok Q (by kernel_rfl) (by kernel_rfl) (by kernel_rfl)
instance ist112:StOk Q 112 4:=⟨fun b o s v G=>by kernel_rfl⟩
instance ilda119:LdAOk Q 119 4:=⟨fun b o s G=>by kernel_rfl⟩
abbrev z119:List Value:=[(.slice none 0 0),.nilFunc,.nilFunc,.nilFunc]
instance ial119:AlOk Q 119 z119:=⟨fun G=>by kernel_rfl⟩
instance ibd119_0_1_2_3:BdOk Q 119 z119 [(0,0,1),(1,1,1),(2,2,1),(3,3,1)]:=bd_ok Q (by kernel_rfl) (by kernel_rfl) (by kernel_rfl)
instance ist119:StOk Q 119 4:=⟨fun b o s v G=>by kernel_rfl⟩
instance ilda24:LdAOk Q 24 4:=⟨fun b o s G=>by kernel_rfl⟩
abbrev z27:List Value:=[(.int .i64 0),(.int .i64 0),(.int .u64 0)]
instance ial27:AlOk Q 27 z27:=⟨fun G=>by kernel_rfl⟩
instance ist27:StOk Q 27 3:=⟨fun b o s v G=>by kernel_rfl⟩
instance ilda27:LdAOk Q 27 3:=⟨fun b o s G=>by kernel_rfl⟩
instance ifa24_0:FaOk Q 24 0 0:=⟨fun b o s=>by kernel_rfl⟩
instance ibd27_:BdOk Q 27 z27 []:=bd_ok Q (by kernel_rfl) (by kernel_rfl) (by kernel_rfl)
abbrev z206:List Value:=[.nilFunc,.nilFunc,.nilFunc]
instance ial206:AlOk Q 206 z206:=⟨fun G=>by kernel_rfl⟩
instance ist206:StOk Q 206 3:=⟨fun b o s v G=>by kernel_rfl⟩
instance iiaa206:IaaOk Q 206 3 1:=⟨fun b o s k j=>by kernel_rfl⟩
instance ild129:LdOk Q 129:=⟨fun b o s G=>(show _ = loadOne b o G by kernel_rfl).trans (loadOne_eq b o G)⟩
instance ifa27_0:FaOk Q 27 0 0:=⟨fun b o s=>by kernel_rfl⟩
instance ild25:LdOk Q 25:=⟨fun b o s G=>(show _ = loadOne b o G by kernel_rfl).trans (loadOne_eq b o G)⟩
instance isl107:SlOk Q 107 2:=⟨fun a n c lo hi mx G=>sl_eq Q (e:=184) (by kernel_rfl) (by kernel_rfl) a n c lo hi mx G⟩
instance ifa24_3:FaOk Q 24 3 3:=⟨fun b o s=>by kernel_rfl⟩
instance ild22:LdOk Q 22:=⟨fun b o s G=>(show _ = loadOne b o G by kernel_rfl).trans (loadOne_eq b o G)⟩
instance ifa24_1:FaOk Q 24 1 1:=⟨fun b o s=>by kernel_rfl⟩
abbrev z184:List Value:=[(.int .u64 0),(.int .i64 0)]
instance ibd184_0_1:BdOk Q 184 z184 [(0,0,1),(1,1,1)]:=bd_ok Q (by kernel_rfl) (by kernel_rfl) (by kernel_rfl)
instance ibs107_1_0:BsOk Q 107 1 (rep z184 1) 2 [(0,0,2)]:=bs_ok Q (z0:=z184) (by kernel_rfl) rfl (by decide) (by kernel_rfl)
instance iap107_107:ApOk Q 107 107 2 16:=⟨fun s x G=>by kernel_rfl⟩
abbrev z223:List Value:=[(.pointer none),(.int .u64 0),(.int .u64 0)]
instance ibd223_0:BdOk Q 223 z223 [(0,0,1)]:=bd_ok Q (by kernel_rfl) (by kernel_rfl) (by kernel_rfl)
instance ial223:AlOk Q 223 z223:=⟨fun G=>by kernel_rfl⟩
instance ist223:StOk Q 223 3:=⟨fun b o s v G=>by kernel_rfl⟩
instance ifa223_0:FaOk Q 223 0 0:=⟨fun b o s=>by kernel_rfl⟩
instance ild220:LdOk Q 220:=⟨fun b o s G=>(show _ = loadOne b o G by kernel_rfl).trans (loadOne_eq b o G)⟩
instance ilda223:LdAOk Q 223 3:=⟨fun b o s G=>by kernel_rfl⟩
instance ifd225_3:FdOk Q 225 3 3:=⟨fun l=>by kernel_rfl⟩
abbrev z239:List Value:=(zs 4096 (.int .u64 0))
instance ial239:AlOk Q 239 z239:=⟨fun G=>by kernel_rfl⟩
abbrev z241:List Value:=[(.pointer none),(.int .i64 0),(.int .i64 0),(.int .i64 0),(.int .u64 0),(.int .u64 0),(.bool false),(.int .i64 0)]
instance ibd241_0_1:BdOk Q 241 z241 [(0,0,1),(1,1,1)]:=bd_ok Q (by kernel_rfl) (by kernel_rfl) (by kernel_rfl)
instance ilda69:LdAOk Q 69 3:=⟨fun b o s G=>by kernel_rfl⟩
abbrev z247:List Value:=[(.pointer none),(.int .i64 0),(.int .i64 0),(.int .i64 0),(.int .i64 0),(.int .i64 0),(.int .i64 0),(.bool false),.nilFunc,(.int .i64 0),(.int .u64 0),(.int .i64 0)]
instance ibd247_0_1_2_4:BdOk Q 247 z247 [(0,0,1),(1,1,6),(2,7,1),(4,9,1)]:=bd_ok Q (by kernel_rfl) (by kernel_rfl) (by kernel_rfl)
instance ifa247_6:FaOk Q 247 6 11:=⟨fun b o s=>by kernel_rfl⟩
instance ist25:StOk Q 25 1:=⟨fun b o s v G=>by kernel_rfl⟩
instance ifa247_3:FaOk Q 247 3 8:=⟨fun b o s=>by kernel_rfl⟩
instance ist245:StOk Q 245 1:=⟨fun b o s v G=>by kernel_rfl⟩
instance iep150:EpOk Q 150:=⟨fun neg x y=>by cases neg <;> kernel_rfl,fun neg x y a=>by cases neg <;> kernel_rfl,fun neg x y a=>by cases neg <;> kernel_rfl⟩
instance ild245:LdOk Q 245:=⟨fun b o s G=>(show _ = loadOne b o G by kernel_rfl).trans (loadOne_eq b o G)⟩
instance ief245:EfOk Q 245:=⟨fun neg x y=>by cases neg <;> kernel_rfl,fun neg x y f a b=>by cases neg <;> kernel_rfl⟩
instance ifa71_1:FaOk Q 71 1 3:=⟨fun b o s=>by kernel_rfl⟩
instance ifa76_8:FaOk Q 76 8 13:=⟨fun b o s=>by kernel_rfl⟩
abbrev z24:List Value:=[(.int .i64 0),(.int .i64 0),(.int .i64 0),(.int .u64 0)]
instance ibd24_0:BdOk Q 24 z24 [(0,0,1)]:=bd_ok Q (by kernel_rfl) (by kernel_rfl) (by kernel_rfl)
instance ibd29_0_1_2_3:BdOk Q 29 z29 [(0,0,1),(1,1,1),(2,2,1),(3,3,4)]:=bd_ok Q (by kernel_rfl) (by kernel_rfl) (by kernel_rfl)
instance ifa76_5:FaOk Q 76 5 10:=⟨fun b o s=>by kernel_rfl⟩
instance iias74:IasOk Q 74 1:=⟨fun b o s n c k j=>by kernel_rfl⟩
instance ist22:StOk Q 22 1:=⟨fun b o s v G=>by kernel_rfl⟩
instance ibs74_0_:BsOk Q 74 0 (rep z22 0) 1 []:=bs_ok Q (z0:=z22) (by kernel_rfl) rfl (by decide) (by kernel_rfl)
instance isl74:SlOk Q 74 1:=⟨fun a n c lo hi mx G=>sl_eq Q (e:=22) (by kernel_rfl) (by kernel_rfl) a n c lo hi mx G⟩
instance iap74_74:ApOk Q 74 74 1 8:=⟨fun s x G=>by kernel_rfl⟩
instance ist74:StOk Q 74 1:=⟨fun b o s v G=>by kernel_rfl⟩
abbrev z260:List Value:=[(.int .i64 0),(.int .i64 0),(.bool false)]
instance ial260:AlOk Q 260 z260:=⟨fun G=>by kernel_rfl⟩
instance ist260:StOk Q 260 3:=⟨fun b o s v G=>by kernel_rfl⟩
instance ifa76_3:FaOk Q 76 3 8:=⟨fun b o s=>by kernel_rfl⟩
instance ild73:LdOk Q 73:=⟨fun b o s G=>(show _ = loadOne b o G by kernel_rfl).trans (loadOne_eq b o G)⟩
instance ifa260_0:FaOk Q 260 0 0:=⟨fun b o s=>by kernel_rfl⟩
instance iias73:IasOk Q 73 1:=⟨fun b o s n c k j=>by kernel_rfl⟩
instance ist150:StOk Q 150 1:=⟨fun b o s v G=>by kernel_rfl⟩
instance ibd24_0_1:BdOk Q 24 z24 [(0,0,1),(1,1,1)]:=bd_ok Q (by kernel_rfl) (by kernel_rfl) (by kernel_rfl)
instance ifa29_3:FaOk Q 29 3 3:=⟨fun b o s=>by kernel_rfl⟩
instance ist24:StOk Q 24 4:=⟨fun b o s v G=>by kernel_rfl⟩
instance ifa76_2:FaOk Q 76 2 7:=⟨fun b o s=>by kernel_rfl⟩
instance ild72:LdOk Q 72:=⟨fun b o s G=>(show _ = loadOne b o G by kernel_rfl).trans (loadOne_eq b o G)⟩
instance iias72:IasOk Q 72 1:=⟨fun b o s n c k j=>by kernel_rfl⟩
instance ist249:StOk Q 249 1:=⟨fun b o s v G=>by kernel_rfl⟩
instance ibs38_1_0:BsOk Q 38 1 (rep z29 1) 10 [(0,0,10)]:=bs_ok Q (z0:=z29) (by kernel_rfl) rfl (by decide) (by kernel_rfl)
instance iap38_38:ApOk Q 38 38 10 80:=⟨fun s x G=>by kernel_rfl⟩
instance ist38:StOk Q 38 1:=⟨fun b o s v G=>by kernel_rfl⟩
instance ild150:LdOk Q 150:=⟨fun b o s G=>(show _ = loadOne b o G by kernel_rfl).trans (loadOne_eq b o G)⟩
instance ifa76_1:FaOk Q 76 1 6:=⟨fun b o s=>by kernel_rfl⟩
instance ild58:LdOk Q 58:=⟨fun b o s G=>(show _ = loadOne b o G by kernel_rfl).trans (loadOne_eq b o G)⟩
instance ild249:LdOk Q 249:=⟨fun b o s G=>(show _ = loadOne b o G by kernel_rfl).trans (loadOne_eq b o G)⟩
instance ifa29_4:FaOk Q 29 4 7:=⟨fun b o s=>by kernel_rfl⟩
instance ifa27_1:FaOk Q 27 1 1:=⟨fun b o s=>by kernel_rfl⟩
instance ibs74_1_0:BsOk Q 74 1 (rep z22 1) 1 [(0,0,1)]:=bs_ok Q (z0:=z22) (by kernel_rfl) rfl (by decide) (by kernel_rfl)
instance ifa260_2:FaOk Q 260 2 2:=⟨fun b o s=>by kernel_rfl⟩
instance ild4:LdOk Q 4:=⟨fun b o s G=>(show _ = loadOne b o G by kernel_rfl).trans (loadOne_eq b o G)⟩
instance ies35:EsOk Q 35:=⟨fun neg x y=>by cases neg <;> kernel_rfl,fun neg x y a n c=>by cases neg <;> kernel_rfl⟩
instance ibs35_0_:BsOk Q 35 0 (rep z3 0) 1 []:=bs_ok Q (z0:=z3) (by kernel_rfl) rfl (by decide) (by kernel_rfl)
abbrev z4:List Value:=[(.bool false)]
instance ial4:AlOk Q 4 z4:=⟨fun G=>by kernel_rfl⟩
instance ist4:StOk Q 4 1:=⟨fun b o s v G=>by kernel_rfl⟩
instance ibs180_1_0:BsOk Q 180 1 (rep z27 1) 3 [(0,0,3)]:=bs_ok Q (z0:=z27) (by kernel_rfl) rfl (by decide) (by kernel_rfl)
instance ibd27_2:BdOk Q 27 z27 [(2,2,1)]:=bd_ok Q (by kernel_rfl) (by kernel_rfl) (by kernel_rfl)
abbrev z5:List Value:=[(.int .u8 0)]
instance ibs181_1_0:BsOk Q 181 1 (rep z5 1) 1 [(0,0,1)]:=bs_ok Q (z0:=z5) (by kernel_rfl) rfl (by decide) (by kernel_rfl)
instance iap181_181:ApOk Q 181 181 1 1:=⟨fun s x G=>by kernel_rfl⟩
instance iln107:LnOk Q 107:=⟨fun a n c=>by kernel_rfl⟩
instance iias107:IasOk Q 107 2:=⟨fun b o s n c k j=>by kernel_rfl⟩
instance ifa184_1:FaOk Q 184 1 1:=⟨fun b o s=>by kernel_rfl⟩
instance ifa184_0:FaOk Q 184 0 0:=⟨fun b o s=>by kernel_rfl⟩
instance ibd27_1_2:BdOk Q 27 z27 [(1,1,1),(2,2,1)]:=bd_ok Q (by kernel_rfl) (by kernel_rfl) (by kernel_rfl)
instance ilda184:LdAOk Q 184 2:=⟨fun b o s G=>by kernel_rfl⟩
instance ial184:AlOk Q 184 z184:=⟨fun G=>by kernel_rfl⟩
instance ist184:StOk Q 184 2:=⟨fun b o s v G=>by kernel_rfl⟩
abbrev z276:List Value:=[(.int .u64 0),(.int .u64 0),(.int .u64 0),(.int .u64 0),(.int .u64 0),(.int .u64 0),(.int .u64 0),(.int .u64 0),(.int .u64 0),(.int .u64 0),(.int .u64 0),(.int .u64 0),(.int .u64 0),(.int .u64 0),(.int .u64 0),(.int .u64 0)]
instance ial276:AlOk Q 276 z276:=⟨fun G=>by kernel_rfl⟩
instance ist276:StOk Q 276 16:=⟨fun b o s v G=>by kernel_rfl⟩
instance ilda276:LdAOk Q 276 16:=⟨fun b o s G=>by kernel_rfl⟩
instance ibd27_0:BdOk Q 27 z27 [(0,0,1)]:=bd_ok Q (by kernel_rfl) (by kernel_rfl) (by kernel_rfl)
instance ibd27_1:BdOk Q 27 z27 [(1,1,1)]:=bd_ok Q (by kernel_rfl) (by kernel_rfl) (by kernel_rfl)
instance iap180_180:ApOk Q 180 180 3 24:=⟨fun s x G=>by kernel_rfl⟩
instance ifa104_2:FaOk Q 104 2 2:=⟨fun b o s=>by kernel_rfl⟩
instance ild101:LdOk Q 101:=⟨fun b o s G=>(show _ = loadOne b o G by kernel_rfl).trans (loadOne_eq b o G)⟩
instance ifa112_2:FaOk Q 112 2 2:=⟨fun b o s=>by kernel_rfl⟩
instance ild109:LdOk Q 109:=⟨fun b o s G=>(show _ = loadOne b o G by kernel_rfl).trans (loadOne_eq b o G)⟩
instance ifa119_2:FaOk Q 119 2 2:=⟨fun b o s=>by kernel_rfl⟩
instance ild116:LdOk Q 116:=⟨fun b o s G=>(show _ = loadOne b o G by kernel_rfl).trans (loadOne_eq b o G)⟩
instance ifa202_2:FaOk Q 202 2 1025:=⟨fun b o s=>by kernel_rfl⟩
instance ilda202:LdAOk Q 202 1026:=⟨fun b o s G=>by kernel_rfl⟩
instance ifa27_2:FaOk Q 27 2 2:=⟨fun b o s=>by kernel_rfl⟩
abbrev z202:List Value:=(zs 1024 (.int .u64 0) ++ [(.int .i64 0),(.int .i64 0)])
instance ial202:AlOk Q 202 z202:=⟨fun G=>by kernel_rfl⟩
instance ifa202_0:FaOk Q 202 0 0:=⟨fun b o s=>by kernel_rfl⟩
instance isla200:SlAOk Q 200 1024 1:=⟨fun a lo hi mx G=>by kernel_rfl⟩
instance icp74:CpOk Q 74 1:=⟨fun d s G=>by kernel_rfl⟩
instance ist202:StOk Q 202 1026:=⟨fun b o s v G=>by kernel_rfl⟩
instance ifa202_1:FaOk Q 202 1 1024:=⟨fun b o s=>by kernel_rfl⟩
instance iiaa200:IaaOk Q 200 1024 1:=⟨fun b o s k j=>by kernel_rfl⟩
instance ibd206_0_1_2:BdOk Q 206 z206 [(0,0,1),(1,1,1),(2,2,1)]:=bd_ok Q (by kernel_rfl) (by kernel_rfl) (by kernel_rfl)
instance ilda206:LdAOk Q 206 3:=⟨fun b o s G=>by kernel_rfl⟩
instance ies107:EsOk Q 107:=⟨fun neg x y=>by cases neg <;> kernel_rfl,fun neg x y a n c=>by cases neg <;> kernel_rfl⟩
instance ibs107_0_:BsOk Q 107 0 (rep z184 0) 2 []:=bs_ok Q (z0:=z184) (by kernel_rfl) rfl (by decide) (by kernel_rfl)
instance ifa241_0:FaOk Q 241 0 0:=⟨fun b o s=>by kernel_rfl⟩
instance ild236:LdOk Q 236:=⟨fun b o s G=>(show _ = loadOne b o G by kernel_rfl).trans (loadOne_eq b o G)⟩
instance iep236:EpOk Q 236:=⟨fun neg x y=>by cases neg <;> kernel_rfl,fun neg x y a=>by cases neg <;> kernel_rfl,fun neg x y a=>by cases neg <;> kernel_rfl⟩
instance ifa241_1:FaOk Q 241 1 1:=⟨fun b o s=>by kernel_rfl⟩
instance iiaa239:IaaOk Q 239 4096 1:=⟨fun b o s k j=>by kernel_rfl⟩
abbrev z225:List Value:=[(.int .i64 0),(.int .i64 0),(.int .u64 0),(.int .u64 0),(.bool false)]
instance ial225:AlOk Q 225 z225:=⟨fun G=>by kernel_rfl⟩
instance ibd225_:BdOk Q 225 z225 []:=bd_ok Q (by kernel_rfl) (by kernel_rfl) (by kernel_rfl)
instance ist225:StOk Q 225 5:=⟨fun b o s v G=>by kernel_rfl⟩
instance ifa241_3:FaOk Q 241 3 7:=⟨fun b o s=>by kernel_rfl⟩
instance ibd225_0_1:BdOk Q 225 z225 [(0,0,1),(1,1,1)]:=bd_ok Q (by kernel_rfl) (by kernel_rfl) (by kernel_rfl)
instance ifa241_2:FaOk Q 241 2 2:=⟨fun b o s=>by kernel_rfl⟩
instance ild237:LdOk Q 237:=⟨fun b o s G=>(show _ = loadOne b o G by kernel_rfl).trans (loadOne_eq b o G)⟩
instance ifa225_2:FaOk Q 225 2 2:=⟨fun b o s=>by kernel_rfl⟩
instance ifa225_3:FaOk Q 225 3 3:=⟨fun b o s=>by kernel_rfl⟩
instance ifa225_4:FaOk Q 225 4 4:=⟨fun b o s=>by kernel_rfl⟩
instance ist237:StOk Q 237 1:=⟨fun b o s v G=>by kernel_rfl⟩
instance ilda225:LdAOk Q 225 5:=⟨fun b o s G=>by kernel_rfl⟩
instance ibd223_0_1:BdOk Q 223 z223 [(0,0,1),(1,1,1)]:=bd_ok Q (by kernel_rfl) (by kernel_rfl) (by kernel_rfl)
abbrev z300:List Value:=[(.int .i64 0),(.int .i64 0),(.int .i64 0),(.int .u64 0),(.int .i64 0),(.int .i64 0),(.bool false),(.bool false),(.int .i64 0)]
instance ibd300_0_2_4:BdOk Q 300 z300 [(0,0,3),(2,4,1),(4,6,1)]:=bd_ok Q (by kernel_rfl) (by kernel_rfl) (by kernel_rfl)
abbrev z303:List Value:=[(.int .i64 0),(.int .i64 0),(.int .i64 0),(.int .u64 0),(.int .i64 0),(.int .i64 0),(.bool false),(.bool false),(.int .i64 0),.nilFunc]
instance ibd303_0_1:BdOk Q 303 z303 [(0,0,9),(1,9,1)]:=bd_ok Q (by kernel_rfl) (by kernel_rfl) (by kernel_rfl)
instance ifa303_0:FaOk Q 303 0 0:=⟨fun b o s=>by kernel_rfl⟩
instance ifa247_1:FaOk Q 247 1 1:=⟨fun b o s=>by kernel_rfl⟩
instance ifa247_4:FaOk Q 247 4 9:=⟨fun b o s=>by kernel_rfl⟩
instance ifa247_5:FaOk Q 247 5 10:=⟨fun b o s=>by kernel_rfl⟩
abbrev z309:List Value:=[(.pointer none),(.int .i64 0),(.int .i64 0),(.int .i64 0),(.int .i64 0),(.int .i64 0),(.int .i64 0),(.bool false),.nilFunc,(.int .i64 0),(.int .u64 0),(.int .i64 0)]
instance ibd309_0_1_2_3:BdOk Q 309 z309 [(0,0,1),(1,1,6),(2,7,1),(3,8,1)]:=bd_ok Q (by kernel_rfl) (by kernel_rfl) (by kernel_rfl)
instance iep249:EpOk Q 249:=⟨fun neg x y=>by cases neg <;> kernel_rfl,fun neg x y a=>by cases neg <;> kernel_rfl,fun neg x y a=>by cases neg <;> kernel_rfl⟩
instance ifa309_2:FaOk Q 309 2 7:=⟨fun b o s=>by kernel_rfl⟩
instance ifa309_3:FaOk Q 309 3 8:=⟨fun b o s=>by kernel_rfl⟩
instance ild307:LdOk Q 307:=⟨fun b o s G=>(show _ = loadOne b o G by kernel_rfl).trans (loadOne_eq b o G)⟩
instance ief307:EfOk Q 307:=⟨fun neg x y=>by cases neg <;> kernel_rfl,fun neg x y f a b=>by cases neg <;> kernel_rfl⟩
instance ifa309_5:FaOk Q 309 5 10:=⟨fun b o s=>by kernel_rfl⟩
instance ifa309_6:FaOk Q 309 6 11:=⟨fun b o s=>by kernel_rfl⟩
instance ifa69_0:FaOk Q 69 0 0:=⟨fun b o s=>by kernel_rfl⟩
instance ifa69_1:FaOk Q 69 1 1:=⟨fun b o s=>by kernel_rfl⟩
abbrev z313:List Value:=[(.int .i64 0),(.int .i64 0),(.int .i64 0),(.int .i64 0)]
instance ial313:AlOk Q 313 z313:=⟨fun G=>by kernel_rfl⟩
instance ist313:StOk Q 313 4:=⟨fun b o s v G=>by kernel_rfl⟩
instance iiaa313:IaaOk Q 313 2 2:=⟨fun b o s k j=>by kernel_rfl⟩
instance ilda312:LdAOk Q 312 2:=⟨fun b o s G=>by kernel_rfl⟩
instance ibd260_0_1_2:BdOk Q 260 z260 [(0,0,1),(1,1,1),(2,2,1)]:=bd_ok Q (by kernel_rfl) (by kernel_rfl) (by kernel_rfl)
instance ilda260:LdAOk Q 260 3:=⟨fun b o s G=>by kernel_rfl⟩
instance ibd260_:BdOk Q 260 z260 []:=bd_ok Q (by kernel_rfl) (by kernel_rfl) (by kernel_rfl)
instance iiaa276:IaaOk Q 276 16 1:=⟨fun b o s k j=>by kernel_rfl⟩
abbrev z35:List Value:=[(.slice none 0 0)]
instance ial35:AlOk Q 35 z35:=⟨fun G=>by kernel_rfl⟩
instance ist35:StOk Q 35 1:=⟨fun b o s v G=>by kernel_rfl⟩
instance iep220:EpOk Q 220:=⟨fun neg x y=>by cases neg <;> kernel_rfl,fun neg x y a=>by cases neg <;> kernel_rfl,fun neg x y a=>by cases neg <;> kernel_rfl⟩
instance ifa223_1:FaOk Q 223 1 1:=⟨fun b o s=>by kernel_rfl⟩
instance ifa300_3:FaOk Q 300 3 5:=⟨fun b o s=>by kernel_rfl⟩
instance ifa303_1:FaOk Q 303 1 9:=⟨fun b o s=>by kernel_rfl⟩
instance ist301:StOk Q 301 1:=⟨fun b o s v G=>by kernel_rfl⟩
instance ifa300_5:FaOk Q 300 5 7:=⟨fun b o s=>by kernel_rfl⟩
instance ifa300_6:FaOk Q 300 6 8:=⟨fun b o s=>by kernel_rfl⟩
instance icv22_3:CvOk Q 22 3 .u64 .i64:=⟨fun n=>by kernel_rfl⟩
instance ibd300_0_4:BdOk Q 300 z300 [(0,0,3),(4,6,1)]:=bd_ok Q (by kernel_rfl) (by kernel_rfl) (by kernel_rfl)
abbrev z339:List Value:=[(.int .i64 0),(.int .i64 0),(.int .i64 0),(.int .u64 0),(.int .i64 0),(.int .i64 0),(.bool false),(.bool false),(.int .i64 0),.nilFunc]
instance ibd339_0_1:BdOk Q 339 z339 [(0,0,9),(1,9,1)]:=bd_ok Q (by kernel_rfl) (by kernel_rfl) (by kernel_rfl)
instance ifa309_0:FaOk Q 309 0 0:=⟨fun b o s=>by kernel_rfl⟩
instance ild305:LdOk Q 305:=⟨fun b o s G=>(show _ = loadOne b o G by kernel_rfl).trans (loadOne_eq b o G)⟩
instance ifa309_4:FaOk Q 309 4 9:=⟨fun b o s=>by kernel_rfl⟩
instance ist307:StOk Q 307 1:=⟨fun b o s v G=>by kernel_rfl⟩
abbrev z342:List Value:=[(.int .i64 0),(.int .i64 0)]
instance ibd342_0:BdOk Q 342 z342 [(0,0,1)]:=bd_ok Q (by kernel_rfl) (by kernel_rfl) (by kernel_rfl)
abbrev z312:List Value:=[(.int .i64 0),(.int .i64 0)]
instance ibd312_0_1:BdOk Q 312 z312 [(0,0,1),(1,1,1)]:=bd_ok Q (by kernel_rfl) (by kernel_rfl) (by kernel_rfl)
instance ibd313_0_1:BdOk Q 313 z313 [(0,0,2),(1,2,2)]:=bd_ok Q (by kernel_rfl) (by kernel_rfl) (by kernel_rfl)
instance ilda313:LdAOk Q 313 4:=⟨fun b o s G=>by kernel_rfl⟩
instance ifa312_0:FaOk Q 312 0 0:=⟨fun b o s=>by kernel_rfl⟩
instance ifa312_1:FaOk Q 312 1 1:=⟨fun b o s=>by kernel_rfl⟩
abbrev z345:List Value:=[(.int .i64 0),(.int .i64 0),(.int .i64 0)]
instance ibd345_0_1_2:BdOk Q 345 z345 [(0,0,1),(1,1,1),(2,2,1)]:=bd_ok Q (by kernel_rfl) (by kernel_rfl) (by kernel_rfl)
instance ifa260_1:FaOk Q 260 1 1:=⟨fun b o s=>by kernel_rfl⟩
instance ibs358_2_0_1:BsOk Q 358 2 (rep z345 2) 3 [(0,0,3),(1,3,3)]:=bs_ok Q (z0:=z345) (by kernel_rfl) rfl (by decide) (by kernel_rfl)
instance isla313:SlAOk Q 313 2 2:=⟨fun a lo hi mx G=>by kernel_rfl⟩
instance ibs35_2_0_1:BsOk Q 35 2 (rep z3 2) 1 [(0,0,1),(1,1,1)]:=bs_ok Q (z0:=z3) (by kernel_rfl) rfl (by decide) (by kernel_rfl)
abbrev z320:List Value:=[(.map none)]
instance ial320:AlOk Q 320 z320:=⟨fun G=>by kernel_rfl⟩
instance ist320:StOk Q 320 1:=⟨fun b o s v G=>by kernel_rfl⟩
abbrev z321:List Value:=[.nilFunc]
instance ial321:AlOk Q 321 z321:=⟨fun G=>by kernel_rfl⟩
instance ist321:StOk Q 321 1:=⟨fun b o s v G=>by kernel_rfl⟩
instance ild321:LdOk Q 321:=⟨fun b o s G=>(show _ = loadOne b o G by kernel_rfl).trans (loadOne_eq b o G)⟩
instance ifa104_0:FaOk Q 104 0 0:=⟨fun b o s=>by kernel_rfl⟩
instance ild55:LdOk Q 55:=⟨fun b o s G=>(show _ = loadOne b o G by kernel_rfl).trans (loadOne_eq b o G)⟩
instance ifa104_3:FaOk Q 104 3 3:=⟨fun b o s=>by kernel_rfl⟩
instance ild102:LdOk Q 102:=⟨fun b o s G=>(show _ = loadOne b o G by kernel_rfl).trans (loadOne_eq b o G)⟩
abbrev z323:List Value:=[(.int .i64 0),(.string ⟨#[]⟩)]
instance ibd323_0_1:BdOk Q 323 z323 [(0,0,1),(1,1,1)]:=bd_ok Q (by kernel_rfl) (by kernel_rfl) (by kernel_rfl)
instance ial323:AlOk Q 323 z323:=⟨fun G=>by kernel_rfl⟩
instance ist323:StOk Q 323 2:=⟨fun b o s v G=>by kernel_rfl⟩
instance ild320:LdOk Q 320:=⟨fun b o s G=>(show _ = loadOne b o G by kernel_rfl).trans (loadOne_eq b o G)⟩
instance ilda323:LdAOk Q 323 2:=⟨fun b o s G=>by kernel_rfl⟩
abbrev z324:List Value:=[]
instance ial324:AlOk Q 324 z324:=⟨fun G=>by kernel_rfl⟩
instance ist324:StOk Q 324 0:=⟨fun b o s v G=>by kernel_rfl⟩
instance iln180:LnOk Q 180:=⟨fun a n c=>by kernel_rfl⟩
instance iias180:IasOk Q 180 3:=⟨fun b o s n c k j=>by kernel_rfl⟩
instance ifa104_1:FaOk Q 104 1 1:=⟨fun b o s=>by kernel_rfl⟩
instance ild100:LdOk Q 100:=⟨fun b o s G=>(show _ = loadOne b o G by kernel_rfl).trans (loadOne_eq b o G)⟩
instance ibd324_:BdOk Q 324 z324 []:=bd_ok Q (by kernel_rfl) (by kernel_rfl) (by kernel_rfl)
abbrev z331:List Value:=[.nilFunc]
instance ial331:AlOk Q 331 z331:=⟨fun G=>by kernel_rfl⟩
instance ist331:StOk Q 331 1:=⟨fun b o s v G=>by kernel_rfl⟩
instance ild331:LdOk Q 331:=⟨fun b o s G=>(show _ = loadOne b o G by kernel_rfl).trans (loadOne_eq b o G)⟩
instance ifa112_0:FaOk Q 112 0 0:=⟨fun b o s=>by kernel_rfl⟩
instance ild107:LdOk Q 107:=⟨fun b o s G=>(show _ = loadOne b o G by kernel_rfl).trans (loadOne_eq b o G)⟩
instance ifa112_3:FaOk Q 112 3 3:=⟨fun b o s=>by kernel_rfl⟩
instance ild110:LdOk Q 110:=⟨fun b o s G=>(show _ = loadOne b o G by kernel_rfl).trans (loadOne_eq b o G)⟩
instance ifa112_1:FaOk Q 112 1 1:=⟨fun b o s=>by kernel_rfl⟩
instance ild108:LdOk Q 108:=⟨fun b o s G=>(show _ = loadOne b o G by kernel_rfl).trans (loadOne_eq b o G)⟩
abbrev z332:List Value:=[.nilFunc]
instance ial332:AlOk Q 332 z332:=⟨fun G=>by kernel_rfl⟩
instance ist332:StOk Q 332 1:=⟨fun b o s v G=>by kernel_rfl⟩
instance ild332:LdOk Q 332:=⟨fun b o s G=>(show _ = loadOne b o G by kernel_rfl).trans (loadOne_eq b o G)⟩
instance ifa119_0:FaOk Q 119 0 0:=⟨fun b o s=>by kernel_rfl⟩
instance ifa119_3:FaOk Q 119 3 3:=⟨fun b o s=>by kernel_rfl⟩
instance ild117:LdOk Q 117:=⟨fun b o s G=>(show _ = loadOne b o G by kernel_rfl).trans (loadOne_eq b o G)⟩
instance ifa119_1:FaOk Q 119 1 1:=⟨fun b o s=>by kernel_rfl⟩
instance ild115:LdOk Q 115:=⟨fun b o s G=>(show _ = loadOne b o G by kernel_rfl).trans (loadOne_eq b o G)⟩
instance iix276:IxOk Q 276 16:=⟨fun l k j=>by kernel_rfl⟩
instance iiaa354:IaaOk Q 354 64 1:=⟨fun b o s k j=>by kernel_rfl⟩
instance ild5:LdOk Q 5:=⟨fun b o s G=>(show _ = loadOne b o G by kernel_rfl).trans (loadOne_eq b o G)⟩
instance icv5_3:CvOk Q 5 3 .u8 .i64:=⟨fun n=>by kernel_rfl⟩
instance ifa300_0:FaOk Q 300 0 0:=⟨fun b o s=>by kernel_rfl⟩
instance ifa300_1:FaOk Q 300 1 3:=⟨fun b o s=>by kernel_rfl⟩
instance ifa300_2:FaOk Q 300 2 4:=⟨fun b o s=>by kernel_rfl⟩
instance ifa247_0:FaOk Q 247 0 0:=⟨fun b o s=>by kernel_rfl⟩
instance ild243:LdOk Q 243:=⟨fun b o s G=>(show _ = loadOne b o G by kernel_rfl).trans (loadOne_eq b o G)⟩
instance ifa339_1:FaOk Q 339 1 9:=⟨fun b o s=>by kernel_rfl⟩
instance ist337:StOk Q 337 1:=⟨fun b o s v G=>by kernel_rfl⟩
instance ifa339_0:FaOk Q 339 0 0:=⟨fun b o s=>by kernel_rfl⟩
instance iep305:EpOk Q 305:=⟨fun neg x y=>by cases neg <;> kernel_rfl,fun neg x y a=>by cases neg <;> kernel_rfl,fun neg x y a=>by cases neg <;> kernel_rfl⟩
instance ild337:LdOk Q 337:=⟨fun b o s G=>(show _ = loadOne b o G by kernel_rfl).trans (loadOne_eq b o G)⟩
instance ifa309_1:FaOk Q 309 1 1:=⟨fun b o s=>by kernel_rfl⟩
instance ibd260_0_1:BdOk Q 260 z260 [(0,0,1),(1,1,1)]:=bd_ok Q (by kernel_rfl) (by kernel_rfl) (by kernel_rfl)
instance icv3_22:CvOk Q 3 22 .i64 .u64:=⟨fun n=>by kernel_rfl⟩
instance ifa342_0:FaOk Q 342 0 0:=⟨fun b o s=>by kernel_rfl⟩
instance ifa342_1:FaOk Q 342 1 1:=⟨fun b o s=>by kernel_rfl⟩
instance iln358:LnOk Q 358:=⟨fun a n c=>by kernel_rfl⟩
instance iias358:IasOk Q 358 3:=⟨fun b o s n c k j=>by kernel_rfl⟩
instance ilda345:LdAOk Q 345 3:=⟨fun b o s G=>by kernel_rfl⟩
instance ial345:AlOk Q 345 z345:=⟨fun G=>by kernel_rfl⟩
instance ist345:StOk Q 345 3:=⟨fun b o s v G=>by kernel_rfl⟩
instance ifa345_0:FaOk Q 345 0 0:=⟨fun b o s=>by kernel_rfl⟩
instance ifa345_1:FaOk Q 345 1 1:=⟨fun b o s=>by kernel_rfl⟩
instance ifa345_2:FaOk Q 345 2 2:=⟨fun b o s=>by kernel_rfl⟩
instance iln348:LnOk Q 348:=⟨fun a n c=>by kernel_rfl⟩
instance iias348:IasOk Q 348 2:=⟨fun b o s n c k j=>by kernel_rfl⟩
instance ial312:AlOk Q 312 z312:=⟨fun G=>by kernel_rfl⟩
instance ist312:StOk Q 312 2:=⟨fun b o s v G=>by kernel_rfl⟩
instance ibd223_0_1_2:BdOk Q 223 z223 [(0,0,1),(1,1,1),(2,2,1)]:=bd_ok Q (by kernel_rfl) (by kernel_rfl) (by kernel_rfl)
instance ifd225_4:FdOk Q 225 4 4:=⟨fun l=>by kernel_rfl⟩
instance ial342:AlOk Q 342 z342:=⟨fun G=>by kernel_rfl⟩
instance ist342:StOk Q 342 2:=⟨fun b o s v G=>by kernel_rfl⟩
instance iep243:EpOk Q 243:=⟨fun neg x y=>by cases neg <;> kernel_rfl,fun neg x y a=>by cases neg <;> kernel_rfl,fun neg x y a=>by cases neg <;> kernel_rfl⟩
instance ild301:LdOk Q 301:=⟨fun b o s G=>(show _ = loadOne b o G by kernel_rfl).trans (loadOne_eq b o G)⟩
instance iep335:EpOk Q 335:=⟨fun neg x y=>by cases neg <;> kernel_rfl,fun neg x y a=>by cases neg <;> kernel_rfl,fun neg x y a=>by cases neg <;> kernel_rfl⟩
instance ifa300_4:FaOk Q 300 4 6:=⟨fun b o s=>by kernel_rfl⟩
instance ifa223_2:FaOk Q 223 2 2:=⟨fun b o s=>by kernel_rfl⟩
instance ibd342_0_1:BdOk Q 342 z342 [(0,0,1),(1,1,1)]:=bd_ok Q (by kernel_rfl) (by kernel_rfl) (by kernel_rfl)
instance ilda342:LdAOk Q 342 2:=⟨fun b o s G=>by kernel_rfl⟩
def s7 (q:Bool) (e:Ex) (v0 v1:Value) (G:GS):OG :=
 bS (e.ev.cl 27 [] G) fun x0 G1 =>
 bP (ln Q q 35 v1) fun x2 =>
 bP (bn Q q .gtr 3 (.tmp 12) (.const (.int .i64 70)) x2 (.int .i64 70)) fun x3 =>
 ifV x3 (
 some (x0,G1)) (
 bS (e.ev.cl 19 [v0,(.int .i64 4)] G1) fun x4 G5 =>
 bP (bn Q q .add 3 (.const (.int .i64 1)) (.tmp 16) (.int .i64 1) x4) fun x6 =>
 bS (e.ev.cl 28 [x6,(.int .i64 1000)] G5) fun x7 G8 =>
 bP (ep Q q false 66 (.tmp 19) (.const (.pointer none)) x7 (.pointer none)) fun x9 =>
 bS (gV x9 false x7 G8) fun x10 G11 =>
 bS (gV x9 false v1 G11) fun x12 G13 =>
 bS (gS x9 false (e.ev.cl 29 [x10,x12] G13) G13) fun x14 G15 =>
 bS (gP x9 false (un Q q .not x14) G15) fun x16 G17 =>
 bP (pickV x9 (.bool true) x16) fun x18 =>
 ifV x18 (
 some ((.bool false),G17)) (
 nl q 76 6 11 38 x7 G17 fun x21 =>
 bP (ln Q q 38 x21) fun x22 =>
 bP (bn Q q .gtr 3 (.tmp 31) (.const (.int .i64 8)) x22 (.int .i64 8)) fun x23 =>
 ifV x23 (
 some (x0,G17)) (
 nf q 76 0 0 x7 fun x25 =>
 bP (fa Q q 71 0 0 x25) fun x26 =>
 fl q 69 2 2 3 x26 (G17.room 18) fun x28 =>
 nl q 76 6 11 38 x7 (G17.room 18) fun x31 =>
 bS (e.ev.cl 14 [(.int .i64 3),x28,x31] (G17.room 18)) fun x33 G32 =>
 bP (pExtract x33 0) fun x34 =>
 bP (pExtract x33 1) fun x35 =>
 bP (pExtract x33 2) fun x36 =>
 bS (gV x0 true x35 G32) fun x37 G38 =>
 bP (pickV x0 x37 (.bool false)) fun x39 =>
 bS (gV x39 true x36 G38) fun x40 G41 =>
 bS (gP x39 true (bn Q q .eql 25 (.tmp 54) (.const (.int .i64 0)) x40 (.int .i64 0)) G41) fun x42 G43 =>
 bP (pickV x39 x42 (.bool false)) fun x44 =>
 some (x44,G43))))
theorem f7 (h:ExLe Q e (E orc)) (v0 v1:Value) (G:GS):Ref (s7 true e v0 v1 G) ((E orc).cl 7 [v0,v1] G):=cS (S:=fun q e=>s7 q e v0 v1 G) Tryz.func7 (by unfold s7; exact Ref.gq)
def jb14_0 (q:Bool) (e:Ex) (τ:Env) (G:GS):OG :=
 bV q (τ 10) fun a10_ =>
 bV q (τ 11) fun a11_ =>
 some (.tuple #[a10_,a11_,(.int .i64 0)],G)
def j14_0 (q:Bool) (e:Ex) (τ:Env) (G:GS):OG:=jb14_0 q e τ G
theorem mj14_0 {e:Ex} {E:Ev} (h:ExLe Q e E) (τ:Env) (G:GS):Ref (j14_0 true e τ G) (j14_0 false (Ex.of E) τ G):=by
 unfold j14_0 jb14_0
 exact Ref.gq
theorem mkj14_0 {e:Ex} {E:Ev} (h:ExLe Q e E) {τ:Env} {l U:List (Nat × Value)} {G:GS} (hU:UOk τ U):Ref (j14_0 true e (xq true 46 τ l U) G) (j14_0 false (Ex.of E) (xq false 46 τ l U) G):=by
 rw [xq_eq hU]
 exact mj14_0 h _ _
def sb14 (q:Bool) (e:Ex) (J0:Env → GS → OG) (v0 v1 v2:Value) (G:GS):OG :=
 bS (e.ev.cl 39 [v0,v1,v2] G) fun x0 G1 =>
 bP (bn Q q .neq 25 (.tmp 16) (.const (.int .i64 0)) x0 (.int .i64 0)) fun x2 =>
 ifV x2 (
 some (.tuple #[(.slice none 0 0),(.bool false),x0],G1)) (
 bP (bn Q q .eql 3 (.tmp 19) (.const (.int .i64 1)) v0 (.int .i64 1)) fun x3 =>
 ifV x3 (
 bS (e.ev.cl 41 [v1] G1) fun x4 G5 =>
 bS (e.ev.cl 40 [x4,v2] G5) fun x6 G7 =>
 bP (pExtract x6 0) fun x8 =>
 bP (pExtract x6 1) fun x9 =>
 J0 (xq q 46 (nth undef [v0,v1,v2]) [(11,x9),(10,x8),(35,x9),(34,x8),(29,x6),(33,x6),(32,v2),(31,x4),(30,v1),(27,x3),(28,x3),(19,v0),(11,(.bool false)),(10,(.slice none 0 0)),(17,x2),(16,x0),(9,x0),(15,x0),(14,v2),(13,v1),(12,v0),(8,(.int .i64 0)),(7,(.bool false)),(6,(.slice none 0 0))] []) G7) (
 bP (bn Q q .eql 3 (.tmp 19) (.const (.int .i64 2)) v0 (.int .i64 2)) fun x10 =>
 ifV x10 (
 bS (e.ev.cl 43 [] G1) fun x11 G12 =>
 bS (e.ev.cl 42 [x11,v2] G12) fun x13 G14 =>
 bP (pExtract x13 0) fun x15 =>
 bP (pExtract x13 1) fun x16 =>
 J0 (xq q 46 (nth undef [v0,v1,v2]) [(11,x16),(10,x15),(43,x16),(42,x15),(38,x13),(41,x13),(40,v2),(39,x11),(36,x10),(37,x10),(27,x3),(28,x3),(19,v0),(11,(.bool false)),(10,(.slice none 0 0)),(17,x2),(16,x0),(9,x0),(15,x0),(14,v2),(13,v1),(12,v0),(8,(.int .i64 0)),(7,(.bool false)),(6,(.slice none 0 0))] []) G14) (
 bS (e.ev.cl 45 [v1] G1) fun x17 G18 =>
 bS (e.ev.cl 44 [x17,v2] G18) fun x19 G20 =>
 bP (pExtract x19 0) fun x21 =>
 bP (pExtract x19 1) fun x22 =>
 J0 (xq q 46 (nth undef [v0,v1,v2]) [(11,x22),(10,x21),(26,x22),(25,x21),(20,x19),(24,x19),(23,v2),(22,x17),(21,v1),(36,x10),(37,x10),(27,x3),(28,x3),(19,v0),(11,(.bool false)),(10,(.slice none 0 0)),(17,x2),(16,x0),(9,x0),(15,x0),(14,v2),(13,v1),(12,v0),(8,(.int .i64 0)),(7,(.bool false)),(6,(.slice none 0 0))] []) G20)))
def s14 (q:Bool) (e:Ex) (v0 v1 v2:Value) (G:GS):OG:=sb14 q e (j14_0 q e) v0 v1 v2 G
theorem m14 {e:Ex} {E:Ev} (h:ExLe Q e E) (v0 v1 v2:Value) (G:GS):Ref (s14 true e v0 v1 v2 G) (s14 false (Ex.of E) v0 v1 v2 G):=by
 unfold s14 sb14
 have j0:=@mkj14_0 e E h
 exact Ref.gj
def jt14 (J0:Env → GS → OG):JT (Value × GS) :=
 (.n none .e (.n none .e (.n none .e (.n none .e (.n (some (fun T G=>J0 (nth undef T) G)) .e .e)))))
theorem jr14_0 (orc:FuncId → Bool) (J0:Env → GS → OG) (T:List Value) (G:GS):runC Q (evL Q orc) Tryz.f14.ntmps (jt14 J0) (bodyOf Tryz.f14) (retE Q Tryz.f14.results.toList) [true,true,true,true] (nth undef T) G = jb14_0 false (Ex.of (E orc))  (nth undef T) G:=by kernel_rfl
theorem jo14 (orc:FuncId → Bool):JOk Q orc Tryz.f14.ntmps (jt14 (j14_0 false (Ex.of (E orc))) ) (bodyOf Tryz.f14) (retE Q Tryz.f14.results.toList) :=
 jOk Q orc (l:=[([true,true,true,true],(fun T G=>j14_0 false (Ex.of (E orc)) (nth undef T) G))]) (by kernel_rfl) (AllE.c (fun T G=>jr14_0 orc (j14_0 false (Ex.of (E orc))) T G) (AllE.z))
theorem je14 (orc:FuncId → Bool) (J0:Env → GS → OG) (v0 v1 v2:Value) (G:GS):sxC Q (evL Q orc) Tryz.f14.ntmps (jt14 J0) (bodyOf Tryz.f14) (nth undef [v0,v1,v2]) G (retE Q Tryz.f14.results.toList) = sb14 false (Ex.of (E orc)) J0 v0 v1 v2 G:=by kernel_rfl
theorem f14 {orc:FuncId → Bool} {e:Ex} (h:ExLe Q e (E orc)) (v0 v1 v2:Value) (G:GS):Ref (s14 true e v0 v1 v2 G) ((E orc).cl 14 [v0,v1,v2] G) :=
 fun r hr=>cl_sxC Q orc (vs:=[v0,v1,v2]) G (jt14 (j14_0 false (Ex.of (E orc))) ) Tryz.func14 (by kernel_rfl) (by kernel_rfl) (by kernel_rfl) (by kernel_rfl) (by kernel_rfl) (jo14 orc) (je14 orc (j14_0 false (Ex.of (E orc))) v0 v1 v2 G) (m14 h v0 v1 v2 G r hr)
def s19 (q:Bool) (e:Ex) (v0 v1:Value) (G:GS):OG :=
 bP (bn Q q .leq 3 (.tmp 5) (.const (.int .i64 0)) v1 (.int .i64 0)) fun x0 =>
 ifV x0 (
 some ((.int .i64 0),G)) (
 bP (bn Q q .rem 3 (.tmp 7) (.tmp 8) v0 v1) fun x1 =>
 bP (bn Q q .lss 3 (.tmp 10) (.const (.int .i64 0)) x1 (.int .i64 0)) fun x2 =>
 ifV x2 (
 bP (bn Q q .add 3 (.tmp 12) (.tmp 13) x1 v1) fun x3 =>
 some (x3,G)) (
 some (x1,G)))
theorem f19 (h:ExLe Q e (E orc)) (v0 v1:Value) (G:GS):Ref (s19 true e v0 v1 G) ((E orc).cl 19 [v0,v1] G):=cS (S:=fun q e=>s19 q e v0 v1 G) Tryz.func19 (by unfold s19; exact Ref.gq)
def s21 (q:Bool) (e:Ex) (v0 v1:Value) (G:GS):OG :=
 bS (bx q v0 G) fun x0 G1 =>
 bS (bx q v1 G1) fun x2 G3 =>
 fl q 29 2 2 3 x0 G3 fun x5 =>
 bP (bn Q q .geq 3 (.tmp 6) (.const (.int .i64 0)) x5 (.int .i64 0)) fun x6 =>
 bS (gP x6 true (fa Q q 29 2 2 x0) G3) fun x7 G8 =>
 bS (gP x6 true (ld Q q 3 x7 G8) G8) fun x9 G10 =>
 bS (gP x6 true (fa Q q 29 1 1 x2) G10) fun x11 G12 =>
 bS (gP x6 true (ld Q q 3 x11 G12) G12) fun x13 G14 =>
 bS (gP x6 true (bn Q q .lss 3 (.tmp 10) (.tmp 12) x9 x13) G14) fun x15 G16 =>
 bP (pickV x6 x15 (.bool false)) fun x17 =>
 some (x17,G16)
theorem f21 (h:ExLe Q e (E orc)) (v0 v1:Value) (G:GS):Ref (s21 true e v0 v1 G) ((E orc).cl 21 [v0,v1] G):=cS (S:=fun q e=>s21 q e v0 v1 G) Tryz.func21 (by unfold s21; exact Ref.gq)
def s28 (q:Bool) (e:Ex) (v0 v1:Value) (G:GS):OG :=
 bP (bd Q q 69 z69 [(0,0,1),(1,1,1),(2,2,1)] [(.int .i64 0),(.int .i64 1),v0]) fun x0 =>
 bP (bn Q q .add 3 (.const (.int .i64 1)) (.tmp 10) (.int .i64 1) v0) fun x1 =>
 bP (bn Q q .mul 3 (.const (.int .i64 2)) (.tmp 12) (.int .i64 2) v0) fun x2 =>
 bP (bn Q q .add 3 (.const (.int .i64 1)) (.tmp 13) (.int .i64 1) x2) fun x3 =>
 bP (bd Q q 71 z71 [(0,0,3),(1,3,1),(2,4,1),(3,5,1)] [x0,x1,x3,v1]) fun x4 =>
 bS (al Q q 71 z71 G) fun x5 G6 =>
 bP (st Q q 71 6 x5 x4 G6) fun G7 =>
 bP (bn Q q .mul 3 (.const (.int .i64 2)) (.tmp 18) (.int .i64 2) v0) fun x8 =>
 bP (bn Q q .add 3 (.const (.int .i64 2)) (.tmp 19) (.int .i64 2) x8) fun x9 =>
 bS (e.ev.cl 70 [x9] G7) fun x10 G11 =>
 bP (pExtract x10 0) fun x12 =>
 bP (pExtract x10 1) fun x13 =>
 bP (bn Q q .neq 25 (.tmp 24) (.const (.int .i64 0)) x13 (.int .i64 0)) fun x14 =>
 bS (gV x14 false x12 G11) fun x15 G16 =>
 bS (gP x14 false (ep Q q false 58 (.tmp 27) (.const (.pointer none)) x15 (.pointer none)) G16) fun x17 G18 =>
 bP (pickV x14 (.bool true) x17) fun x19 =>
 ifV x19 (
 some ((.pointer none),G18)) (
 bP (lda Q q 71 6 x5 G18) fun x20 =>
 bS (e.ev.cl 81 [x20,x12] G18) fun x21 G22 =>
 bP (lda Q q 71 6 x5 (G22.room 9)) fun x23 =>
 bS (mk Q q 72 1 8 z249 (.int .i64 3) (.int .i64 3) ((G22.room 9).at' (G22.nx + 2))) fun x24 G25 =>
 bS (mk Q q 73 1 8 z150 (.int .i64 3) (.int .i64 3) ((G25.back (G22.room 9)).at' (G22.nx + 3))) fun x26 G27 =>
 bS (mk Q q 74 1 8 z22 (.int .i64 3) (.int .i64 3) ((G27.back (G25.back (G22.room 9))).at' (G22.nx + 4))) fun x28 G29 =>
 bS (bs Q q 35 3 (rep z3 3) 1 [(0,0,1),(1,1,1),(2,2,1)] [(.int .i64 (-1)),(.int .i64 (-1)),(.int .i64 (-1))] ((G29.back (G27.back (G25.back (G22.room 9)))).at' (G22.nx + 5))) fun x30 G31 =>
 bP (bd Q q 76 z76 [(0,0,6),(1,6,1),(2,7,1),(3,8,1),(5,10,1),(7,12,1)] [x23,x12,x24,x26,x28,x30]) fun x32 =>
 bS (bx q x32 ((G31.back (G29.back (G27.back (G25.back (G22.room 9))))).at' (G22.nx + 7))) fun x33 G34 =>
 some (x33,(G34.back (G31.back (G29.back (G27.back (G25.back (G22.room 9))))))))
theorem f28 (h:ExLe Q e (E orc)) (v0 v1:Value) (G:GS):Ref (s28 true e v0 v1 G) ((E orc).cl 28 [v0,v1] G):=cS (S:=fun q e=>s28 q e v0 v1 G) Tryz.func28 (by unfold s28; exact Ref.gq)
def jbl29_0_0 (q:Bool) (e:Ex) (lp:LpF) (τ:Env) (G:GS):OL :=
 bV q (τ 0) fun a0_ =>
 bV q (τ 1) fun a1_ =>
 bV q (τ 5) fun a5_ =>
 bP (bn Q q .add 3 (.tmp 13) (.const (.int .i64 1)) a5_ (.int .i64 1)) fun x2 =>
 lp (xq q 80 τ [(5,x2),(14,x2),(13,a5_)] [(0,a0_),(1,a1_)]) G
def jl29_0_0 (q:Bool) (e:Ex) (lp:LpF) (τ:Env) (G:GS):OL:=jbl29_0_0 q e lp τ G
theorem mjl29_0_0 {e:Ex} {E:Ev} (h:ExLe Q e E) {lp lp':LpF} (hlp:LpLe lp lp') (τ:Env) (G:GS):Ref (jl29_0_0 true e lp τ G) (jl29_0_0 false (Ex.of E) lp' τ G):=by
 unfold jl29_0_0 jbl29_0_0
 exact Ref.gq
theorem mkjl29_0_0 {e:Ex} {E:Ev} (h:ExLe Q e E) {lp lp':LpF} (hlp:LpLe lp lp') {τ:Env} {l U:List (Nat × Value)} {G:GS} (hU:UOk τ U):Ref (jl29_0_0 true e lp (xq true 80 τ l U) G) (jl29_0_0 false (Ex.of E) lp' (xq false 80 τ l U) G):=by
 rw [xq_eq hU]
 exact mjl29_0_0 h hlp _ _
def bb29_0 (q:Bool) (e:Ex) (lp:LpF) (J0:LpF) (τ:Env) (G:GS):OL :=
 bV q (τ 0) fun a0_ =>
 bV q (τ 1) fun a1_ =>
 bV q (τ 5) fun a5_ =>
 bP (ln Q q 35 a1_) fun x0 =>
 bP (bn Q q .lss 3 (.tmp 9) (.tmp 11) a5_ x0) fun x1 =>
 ifV x1 (
 bP (ias Q q 35 1 a1_ a5_) fun x3 =>
 bP (ld Q q 3 x3 G) fun x4 =>
 bS (e.ev.cl 19 [x4,(.int .i64 3)] G) fun x5 G6 =>
 bP (pNil a0_) fun x7 =>
 bP (fa Q q 76 7 12 x7) fun x8 =>
 bP (ld Q q 35 x8 G6) fun x9 =>
 bP (ias Q q 35 1 x9 x5) fun x10 =>
 bP (ld Q q 3 x10 G6) fun x11 =>
 bP (bn Q q .lss 3 (.tmp 26) (.const (.int .i64 0)) x11 (.int .i64 0)) fun x12 =>
 ifV x12 (
 bP (pNil a0_) fun x13 =>
 bP (fa Q q 76 4 9 x13) fun x14 =>
 bP (ld Q q 74 x14 (G6.room 23)) fun x15 =>
 bP (ln Q q 74 x15) fun x16 =>
 bP (bn Q q .gtr 3 (.tmp 34) (.const (.int .i64 0)) x16 (.int .i64 0)) fun x17 =>
 bS (gV x17 true a1_ (G6.room 23)) fun x18 _ =>
 bS (gV x17 true a5_ (G6.room 23)) fun x19 _ =>
 bS (gP x17 true (ias Q q 35 1 x18 x19) (G6.room 23)) fun x20 _ =>
 bS (gP x17 true (ld Q q 3 x20 (G6.room 23)) (G6.room 23)) fun x21 _ =>
 bS (gP x17 true (bn Q q .quo 3 (.tmp 40) (.const (.int .i64 3)) x21 (.int .i64 3)) (G6.room 23)) fun x22 _ =>
 bS (gS x17 true (e.ev.cl 19 [x22,(.int .i64 2)] (G6.room 23)) (G6.room 23)) fun x24 G23 =>
 bS (gP x17 true (bn Q q .eql 3 (.tmp 42) (.const (.int .i64 1)) x24 (.int .i64 1)) G23) fun x25 _ =>
 bP (pickV x17 x25 (.bool false)) fun x26 =>
 bP (ias Q q 35 1 a1_ a5_) fun x27 =>
 bP (ld Q q 3 x27 G23) fun x28 =>
 chk (((!(gB x17 true) || sameO (ld Q q 3 x27 (G6.room 23)) x28) && true)) <|
 bP (bn Q q .quo 3 (.tmp 48) (.const (.int .i64 6)) x28 (.int .i64 6)) fun x29 =>
 bS (e.ev.cl 82 [a0_,x5,x26,x29] G23) fun x31 G30 =>
 J0 (xq q 80 τ [(50,x31),(49,x29),(48,x28),(47,x27),(46,a5_),(45,a1_),(44,x26),(43,x25),(42,x24),(41,x22),(40,x21),(39,x20),(38,x19),(37,x18),(36,x17),(35,x17),(34,x16),(33,x15),(32,x14),(31,x13),(30,a0_),(29,x5),(28,a0_),(27,x12),(26,x11),(25,x10),(24,x5),(23,x9),(22,x8),(21,x7),(20,a0_),(6,x5),(19,x5),(18,x4),(17,x3),(16,a5_),(15,a1_),(12,x1),(11,x0),(10,a1_),(9,a5_)] [(0,a0_),(1,a1_),(5,a5_)]) G30) (
 bS (e.ev.cl 83 [a0_,x5] G6) fun x32 G33 =>
 bP (un Q q .not x32) fun x34 =>
 ifV x34 (
 some (.ret,xq q 80 τ [(4,(.bool false)),(54,x34),(53,x32),(52,x5),(51,a0_),(27,x12),(26,x11),(25,x10),(24,x5),(23,x9),(22,x8),(21,x7),(20,a0_),(6,x5),(19,x5),(18,x4),(17,x3),(16,a5_),(15,a1_),(12,x1),(11,x0),(10,a1_),(9,a5_)] [(0,a0_),(1,a1_),(5,a5_)],G33)) (
 J0 (xq q 80 τ [(54,x34),(53,x32),(52,x5),(51,a0_),(27,x12),(26,x11),(25,x10),(24,x5),(23,x9),(22,x8),(21,x7),(20,a0_),(6,x5),(19,x5),(18,x4),(17,x3),(16,a5_),(15,a1_),(12,x1),(11,x0),(10,a1_),(9,a5_)] [(0,a0_),(1,a1_),(5,a5_)]) G33))) (
 some ((.exit 0),xq q 80 τ [(12,x1),(11,x0),(10,a1_),(9,a5_)] [(0,a0_),(1,a1_),(5,a5_)],G))
def b29_0 (q:Bool) (e:Ex) (lp:LpF) (τ:Env) (G:GS):OL:=bb29_0 q e lp (jl29_0_0 q e lp) τ G
theorem mb29_0 {e:Ex} {E:Ev} (h:ExLe Q e E) {lp lp':LpF} (hlp:LpLe lp lp') (τ:Env) (G:GS):Ref (b29_0 true e lp τ G) (b29_0 false (Ex.of E) lp' τ G):=by
 unfold b29_0 bb29_0
 have j0:=@mkjl29_0_0 e E h lp lp' hlp
 exact Ref.gj
def jtl29_0 (J0:LpF):JT (Exit × Env × GS) :=
 (.n none .e (.n (some (fun T G=>J0 (nth undef T) G)) .e .e))
theorem jrl29_0_0 (orc:FuncId → Bool) (J0:LpF) (T:List Value) (G:GS):runC Q (evL Q orc) 80 (jtl29_0 J0) (subAt [1,0,1,0,0] (bodyOf Tryz.f29)) (seqXE (fun τ G'=>mapE ((E orc).lp (subAt [1,0,1,0,0] (bodyOf Tryz.f29)) (lst 80 (nth undef (lst 80 τ))) G')) fun e τ G'=>some (e,nth undef (lst 80 τ),G')) [true] (nth undef T) G = jbl29_0_0 false (Ex.of (E orc)) (fun τ G=>mapE ((E orc).lp (subAt [1,0,1,0,0] (bodyOf Tryz.f29)) (lst 80 τ) G))  (nth undef T) G:=by kernel_rfl
theorem jol29_0 (orc:FuncId → Bool):JOk Q orc 80 (jtl29_0 (jl29_0_0 false (Ex.of (E orc)) (fun τ G=>mapE ((E orc).lp (subAt [1,0,1,0,0] (bodyOf Tryz.f29)) (lst 80 τ) G))) ) (subAt [1,0,1,0,0] (bodyOf Tryz.f29)) (seqXE (fun τ G'=>mapE ((E orc).lp (subAt [1,0,1,0,0] (bodyOf Tryz.f29)) (lst 80 (nth undef (lst 80 τ))) G')) fun e τ G'=>some (e,nth undef (lst 80 τ),G')) :=
 jOk Q orc (l:=[([true],(fun T G=>jl29_0_0 false (Ex.of (E orc)) (fun τ G=>mapE ((E orc).lp (subAt [1,0,1,0,0] (bodyOf Tryz.f29)) (lst 80 τ) G)) (nth undef T) G))]) (by kernel_rfl) (AllE.c (fun T G=>jrl29_0_0 orc (jl29_0_0 false (Ex.of (E orc)) (fun τ G=>mapE ((E orc).lp (subAt [1,0,1,0,0] (bodyOf Tryz.f29)) (lst 80 τ) G))) T G) (AllE.z))
theorem jel29_0 (orc:FuncId → Bool) (J0:LpF) (T:List Value) (G:GS):sxC Q (evL Q orc) 80 (jtl29_0 J0) (subAt [1,0,1,0,0] (bodyOf Tryz.f29)) (nth undef T) G (seqXE (fun τ G'=>mapE ((E orc).lp (subAt [1,0,1,0,0] (bodyOf Tryz.f29)) (lst 80 (nth undef (lst 80 τ))) G')) fun e τ G'=>some (e,nth undef (lst 80 τ),G')) = bb29_0 false (Ex.of (E orc)) (fun τ G=>mapE ((E orc).lp (subAt [1,0,1,0,0] (bodyOf Tryz.f29)) (lst 80 τ) G)) J0 (nth undef T) G:=by kernel_rfl
theorem l29_0 {orc:FuncId → Bool} {e:Ex} (h:ExLe Q e (E orc)) (lp:LpF) (hlp:∀ τ G,Ref (lp τ G) (mapE ((E orc).lp (subAt [1,0,1,0,0] (bodyOf Tryz.f29)) (lst 80 τ) G))) (T:List Value) (G:GS) (hT:T.length = 80):Ref (b29_0 true e lp (nth undef T) G) (mapE ((E orc).lp (subAt [1,0,1,0,0] (bodyOf Tryz.f29)) T G)) :=
 fun r hr=>lp_sxC Q orc G (jtl29_0 (jl29_0_0 false (Ex.of (E orc)) (fun τ G=>mapE ((E orc).lp (subAt [1,0,1,0,0] (bodyOf Tryz.f29)) (lst 80 τ) G))) ) hT (jol29_0 orc) (jel29_0 orc (jl29_0_0 false (Ex.of (E orc)) (fun τ G=>mapE ((E orc).lp (subAt [1,0,1,0,0] (bodyOf Tryz.f29)) (lst 80 τ) G))) T G) (mb29_0 h ⟨hlp⟩ _ _ r hr)
def b29_1 (q:Bool) (e:Ex) (lp:LpF) (τ:Env) (G:GS):OL :=
 bV q (τ 7) fun a7_ =>
 bP (bn Q q .lss 3 (.tmp 55) (.const (.int .i64 3)) a7_ (.int .i64 3)) fun x0 =>
 ifV x0 (
 bLq q e 29 2 (subAt [1,1,0,1,0,0,1,0,0,1,0,0] (bodyOf Tryz.f29)) 80 τ [(8,(.int .i64 0)),(56,x0),(55,a7_)] [] G fun e1 t2 G3 =>
 bV q (t2 7) fun t2x7_ =>
 ifE e1 (.exit 4) (
 bP (bn Q q .add 3 (.tmp 57) (.const (.int .i64 1)) t2x7_ (.int .i64 1)) fun x4 =>
 lp (xq q 80 t2 [(7,x4),(58,x4),(57,t2x7_)] []) G3) (ifE e1 .ret (
 some (.ret,xq q 80 t2 [] [(7,t2x7_)],G3)) (none))) (
 some ((.exit 2),xq q 80 τ [(56,x0),(55,a7_)] [(7,a7_)],G))
theorem l29_1 (h:ExLe Q e (E orc)):LT orc 80 (subAt [1,1,0,1,0,0] (bodyOf Tryz.f29)) (b29_1 true e):=cL fun hlp τ G=>by unfold b29_1; exact Ref.gq
def b29_2 (q:Bool) (e:Ex) (lp:LpF) (τ:Env) (G:GS):OL :=
 bV q (τ 0) fun a0_ =>
 bV q (τ 7) fun a7_ =>
 bV q (τ 8) fun a8_ =>
 bP (pNil a0_) fun x0 =>
 bP (fa Q q 76 7 12 x0) fun x1 =>
 bP (ld Q q 35 x1 G) fun x2 =>
 bP (ias Q q 35 1 x2 a7_) fun x3 =>
 bP (ld Q q 3 x3 G) fun x4 =>
 bP (bn Q q .geq 3 (.tmp 65) (.const (.int .i64 0)) x4 (.int .i64 0)) fun x5 =>
 ifV x5 (
 bP (bn Q q .gtr 3 (.tmp 69) (.const (.int .i64 6)) a8_ (.int .i64 6)) fun x6 =>
 bS (gV x6 false a0_ G) fun x7 G8 =>
 bS (gV x6 false a7_ G8) fun x9 G10 =>
 bS (gS x6 false (e.ev.cl 83 [x7,x9] G10) G10) fun x11 G12 =>
 bS (gP x6 false (un Q q .not x11) G12) fun x13 G14 =>
 bP (pickV x6 (.bool true) x13) fun x15 =>
 ifV x15 (
 some (.ret,xq q 80 τ [(4,(.bool false)),(76,x15),(75,x13),(74,x11),(73,x9),(72,x7),(71,x6),(70,x6),(69,a8_),(66,x5),(65,x4),(64,x3),(63,a7_),(62,x2),(61,x1),(60,x0),(59,a0_)] [(0,a0_),(7,a7_),(8,a8_)],G14)) (
 bP (bn Q q .add 3 (.tmp 67) (.const (.int .i64 1)) a8_ (.int .i64 1)) fun x16 =>
 lp (xq q 80 τ [(8,x16),(68,x16),(67,a8_),(76,x15),(75,x13),(74,x11),(73,x9),(72,x7),(71,x6),(70,x6),(69,a8_),(66,x5),(65,x4),(64,x3),(63,a7_),(62,x2),(61,x1),(60,x0),(59,a0_)] [(0,a0_),(7,a7_)]) G14)) (
 some ((.exit 4),xq q 80 τ [(66,x5),(65,x4),(64,x3),(63,a7_),(62,x2),(61,x1),(60,x0),(59,a0_)] [(0,a0_),(7,a7_),(8,a8_)],G))
theorem l29_2 (h:ExLe Q e (E orc)):LT orc 80 (subAt [1,1,0,1,0,0,1,0,0,1,0,0] (bodyOf Tryz.f29)) (b29_2 true e):=cL fun hlp τ G=>by unfold b29_2; exact Ref.gq
def s29 (q:Bool) (e:Ex) (v0 v1:Value) (G:GS):OG :=
 bLq q e 29 0 (subAt [1,0,1,0,0] (bodyOf Tryz.f29)) 80 (nth undef [v0,v1]) [(5,(.int .i64 0)),(4,(.bool false))] [] G fun e0 t1 G2 =>
 bV q (t1 4) fun t1x4_ =>
 ifE e0 (.exit 0) (
 bLq q e 29 1 (subAt [1,1,0,1,0,0] (bodyOf Tryz.f29)) 80 t1 [(7,(.int .i64 0))] [] G2 fun e3 t4 G5 =>
 bV q (t4 0) fun t4x0_ =>
 bV q (t4 4) fun t4x4_ =>
 ifE e3 (.exit 2) (
 bS (e.ev.cl 84 [t4x0_] G5) fun x6 G7 =>
 bP (un Q q .not x6) fun x8 =>
 some (x8,G7)) (ifE e3 .ret (
 some (t4x4_,G5)) (none))) (ifE e0 .ret (
 some (t1x4_,G2)) (none))
theorem f29 (h:ExLe Q e (E orc)) (v0 v1:Value) (G:GS):Ref (s29 true e v0 v1 G) ((E orc).cl 29 [v0,v1] G):=cS (S:=fun q e=>s29 q e v0 v1 G) Tryz.func29 (by unfold s29; exact Ref.gq)
def b39_0 (q:Bool) (e:Ex) (lp:LpF) (τ:Env) (G:GS):OL :=
 bV q (τ 7) fun a7_ =>
 bV q (τ 40) fun a40_ =>
 bV q (τ 41) fun a41_ =>
 bV q (τ 42) fun a42_ =>
 bP (bn Q q .lss 3 (.tmp 42) (.tmp 41) a42_ a41_) fun x0 =>
 ifV x0 (
 bP (ias Q q 38 10 a40_ a42_) fun x1 =>
 bP (lda Q q 29 10 x1 G) fun x2 =>
 bS (al Q q 29 z29 G) fun x3 G4 =>
 bP (st Q q 29 10 x3 x2 G4) fun G5 =>
 bP (fa Q q 29 0 0 x3) fun x6 =>
 bP (ld Q q 3 x6 G5) fun x7 =>
 bP (gLookup Q 175 a7_ x7 true G5) fun x8 =>
 bP (pExtract x8 0) fun x9 =>
 bP (pExtract x8 1) fun x10 =>
 ifV x10 (
 some (.ret,xq q 60 τ [(6,(.int .i64 8)),(54,x10),(11,x10),(10,x9),(53,x10),(52,x9),(47,x8),(51,x8),(50,x7),(49,x6),(48,a7_),(8,a42_),(9,x3),(46,x2),(45,x1),(44,a42_),(43,x0)] [(7,a7_),(40,a40_),(41,a41_),(42,a42_)],G5)) (
 bP (fa Q q 29 0 0 x3) fun x11 =>
 bP (ld Q q 3 x11 G5) fun x12 =>
 bP (gMapPut Q 175 a7_ x12 a42_ G5) fun G13 =>
 bP (bn Q q .add 3 (.tmp 42) (.const (.int .i64 1)) a42_ (.int .i64 1)) fun x14 =>
 lp (xq q 60 τ [(42,x14),(59,x14),(58,a42_),(57,x12),(56,x11),(55,a7_),(54,x10),(11,x10),(10,x9),(53,x10),(52,x9),(47,x8),(51,x8),(50,x7),(49,x6),(48,a7_),(8,a42_),(9,x3),(46,x2),(45,x1),(44,a42_),(43,x0)] [(7,a7_),(40,a40_),(41,a41_)]) G13)) (
 some ((.exit 1),xq q 60 τ [(43,x0)] [(7,a7_),(40,a40_),(41,a41_),(42,a42_)],G))
theorem l39_0 (h:ExLe Q e (E orc)):LT orc 60 (subAt [1,1,1,0,1,0,0] (bodyOf Tryz.f39)) (b39_0 true e):=cL fun hlp τ G=>by unfold b39_0; exact Ref.gq
def s39 (q:Bool) (e:Ex) (v0 v1 v2:Value) (G:GS):OG :=
 bP (bn Q q .lss 3 (.tmp 13) (.const (.int .i64 1)) v0 (.int .i64 1)) fun x0 =>
 bS (gV x0 false v0 G) fun x1 G2 =>
 bS (gP x0 false (bn Q q .gtr 3 (.tmp 16) (.const (.int .i64 3)) x1 (.int .i64 3)) G2) fun x3 G4 =>
 bP (pickV x0 (.bool true) x3) fun x5 =>
 ifV x5 (
 some ((.int .i64 2),G4)) (
 bP (bn Q q .lss 3 (.tmp 20) (.const (.int .i64 1)) v1 (.int .i64 1)) fun x6 =>
 bS (gV x6 false v1 G4) fun x7 G8 =>
 bS (gP x6 false (bn Q q .gtr 3 (.tmp 23) (.const (.int .i64 64)) x7 (.int .i64 64)) G8) fun x9 G10 =>
 bP (pickV x6 (.bool true) x9) fun x11 =>
 ifV x11 (
 some ((.int .i64 3),G10)) (
 bP (ln Q q 38 v2) fun x12 =>
 bP (bn Q q .gtr 3 (.tmp 28) (.const (.int .i64 10)) x12 (.int .i64 10)) fun x13 =>
 bS (gV x13 false v0 G10) fun x14 G15 =>
 bS (gP x13 false (bn Q q .eql 3 (.tmp 31) (.const (.int .i64 3)) x14 (.int .i64 3)) G15) fun x16 G17 =>
 bS (gV x13 false x16 G17) fun x18 G19 =>
 bS (gV x18 true v2 G19) fun x20 G21 =>
 bS (gS x18 true (e.ev.cl 99 [x20] G21) G21) fun x22 G23 =>
 bS (gP x18 true (bn Q q .gtr 3 (.tmp 35) (.const (.int .i64 2)) x22 (.int .i64 2)) G23) fun x24 G25 =>
 bS (gP x13 false (pickV x18 x24 (.bool false)) G25) fun x26 G27 =>
 bP (pickV x13 (.bool true) x26) fun x28 =>
 ifV x28 (
 some ((.int .i64 4),G27)) (
 bS (nm G27) fun x29 G30 =>
 bP (ln Q q 38 v2) fun x31 =>
 bLq q e 39 0 (subAt [1,1,1,0,1,0,0] (bodyOf Tryz.f39)) 60 (nth undef [v0,v1,v2]) [(42,(.int .i64 0)),(41,x31),(40,v2),(7,x29),(39,x29),(26,x28),(38,x28),(37,x26),(36,x24),(35,x22),(34,x20),(33,x18),(32,x16),(31,x14),(30,x13),(29,x13),(28,x12),(27,v2),(19,x11),(25,x11),(24,x9),(23,x7),(22,x6),(21,x6),(20,v1),(12,x5),(18,x5),(17,x3),(16,x1),(15,x0),(14,x0),(13,v0),(6,(.int .i64 0))] [] G30 fun e32 t33 G34 =>
 bV q (t33 6) fun t33x6_ =>
 ifE e32 (.exit 1) (
 some ((.int .i64 0),G34)) (ifE e32 .ret (
 some (t33x6_,G34)) (none)))))
theorem f39 (h:ExLe Q e (E orc)) (v0 v1 v2:Value) (G:GS):Ref (s39 true e v0 v1 v2 G) ((E orc).cl 39 [v0,v1,v2] G):=cS (S:=fun q e=>s39 q e v0 v1 v2 G) Tryz.func39 (by unfold s39; exact Ref.gq)
def s40 (q:Bool) (e:Ex) (v0 v1:Value) (G:GS):OG :=
 bS (bx q v0 G) fun x0 G1 =>
 bP (lda Q q 104 4 x0 G1) fun x2 =>
 bS (e.ev.cl 100 [x2,v1,(.slice none 0 0)] G1) fun x3 G4 =>
 bP (un Q q .not x3) fun x5 =>
 ifV x5 (
 some (.tuple #[(.slice none 0 0),(.bool false)],G4)) (
 bLq q e 40 0 (subAt [1,1,1,0,1,0,0] (bodyOf Tryz.f40)) 56 (nth undef [v0,v1]) [(8,(.int .i64 0)),(15,x5),(14,x3),(13,(.slice none 0 0)),(12,v1),(11,x2),(7,(.slice none 0 0)),(6,(.slice none 0 0)),(5,(.bool false)),(4,(.slice none 0 0)),(2,x0)] [] G4 fun e6 t7 G8 =>
 bV q (t7 7) fun t7x7_ =>
 ifE e6 (.exit 0) (
 some (.tuple #[t7x7_,(.bool true)],G8)) (none))
theorem f40 (h:ExLe Q e (E orc)) (v0 v1:Value) (G:GS):Ref (s40 true e v0 v1 G) ((E orc).cl 40 [v0,v1] G):=cS (S:=fun q e=>s40 q e v0 v1 G) Tryz.func40 (by unfold s40; exact Ref.gq)
def s42 (q:Bool) (e:Ex) (v0 v1:Value) (G:GS):OG :=
 bS (bx q v0 G) fun x0 G1 =>
 bP (lda Q q 112 4 x0 G1) fun x2 =>
 bS (e.ev.cl 107 [x2,v1,(.slice none 0 0)] G1) fun x3 G4 =>
 bP (un Q q .not x3) fun x5 =>
 ifV x5 (
 some (.tuple #[(.slice none 0 0),(.bool false)],G4)) (
 bLq q e 42 0 (subAt [1,1,1,0,1,0,0] (bodyOf Tryz.f42)) 56 (nth undef [v0,v1]) [(8,(.int .i64 0)),(15,x5),(14,x3),(13,(.slice none 0 0)),(12,v1),(11,x2),(7,(.slice none 0 0)),(6,(.slice none 0 0)),(5,(.bool false)),(4,(.slice none 0 0)),(2,x0)] [] G4 fun e6 t7 G8 =>
 bV q (t7 7) fun t7x7_ =>
 ifE e6 (.exit 0) (
 some (.tuple #[t7x7_,(.bool true)],G8)) (none))
theorem f42 (h:ExLe Q e (E orc)) (v0 v1:Value) (G:GS):Ref (s42 true e v0 v1 G) ((E orc).cl 42 [v0,v1] G):=cS (S:=fun q e=>s42 q e v0 v1 G) Tryz.func42 (by unfold s42; exact Ref.gq)
def b44_0 (q:Bool) (e:Ex) (lp:LpF) (τ:Env) (G:GS):OL :=
 bV q (τ 1) fun a1_ =>
 bV q (τ 8) fun a8_ =>
 bS (e.ev.cl 101 [a1_,a8_] G) fun x0 G1 =>
 bP (un Q q .not x0) fun x2 =>
 ifV x2 (
 bP (ln Q q 38 a1_) fun x3 =>
 bLq q e 44 1 (subAt [1,1,1,0,1,0,0,1,0,1,0,0] (bodyOf Tryz.f44)) 56 τ [(22,(.int .i64 0)),(21,x3),(20,a1_),(19,x2),(18,x0),(17,a8_),(16,a1_)] [] G1 fun e4 t5 G6 =>
 bV q (t5 1) fun t5x1_ =>
 bV q (t5 8) fun t5x8_ =>
 ifE e4 (.exit 2) (
 lp (xq q 56 t5 [] [(1,t5x1_),(8,t5x8_)]) G6) (none)) (
 some ((.exit 0),xq q 56 τ [(19,x2),(18,x0),(17,a8_),(16,a1_)] [(1,a1_),(8,a8_)],G1))
theorem l44_0 (h:ExLe Q e (E orc)):LT orc 56 (subAt [1,1,1,0,1,0,0] (bodyOf Tryz.f44)) (b44_0 true e):=cL fun hlp τ G=>by unfold b44_0; exact Ref.gq
def b44_1 (q:Bool) (e:Ex) (lp:LpF) (τ:Env) (G:GS):OL :=
 bV q (τ 1) fun a1_ =>
 bV q (τ 2) fun a2_ =>
 bV q (τ 6) fun a6_ =>
 bV q (τ 7) fun a7_ =>
 bV q (τ 8) fun a8_ =>
 bV q (τ 20) fun a20_ =>
 bV q (τ 21) fun a21_ =>
 bV q (τ 22) fun a22_ =>
 bP (bn Q q .lss 3 (.tmp 22) (.tmp 21) a22_ a21_) fun x0 =>
 ifV x0 (
 bP (ias Q q 38 10 a20_ a22_) fun x1 =>
 bP (lda Q q 29 10 x1 G) fun x2 =>
 bS (al Q q 29 z29 G) fun x3 G4 =>
 bP (st Q q 29 10 x3 x2 G4) fun G5 =>
 bS (e.ev.cl 102 [a1_,a8_,a22_] (G5.room 14)) fun x7 G6 =>
 bS (gP x7 true (lda Q q 119 4 a2_ G6) G6) fun x8 _ =>
 bS (gV x7 true a1_ G6) fun x9 _ =>
 bS (gV x7 true a6_ G6) fun x10 _ =>
 bS (gS x7 true (e.ev.cl 98 [x10] G6) G6) fun x12 G11 =>
 chk (((!(gB x7 true) || (!(gB x7 true) || sameO (lda Q q 119 4 a2_ G11) x8)) && true)) <|
 bS (gV x7 true a22_ G11) fun x13 _ =>
 bS (gd x7 true (bS (bs Q q 35 1 (rep z3 1) 1 [(0,0,1)] [x13] (G11.at' (G5.nx + 10))) fun y G'=>some (y,(G'.back G11))) G11) fun x14 G15 =>
 bS (gS x7 true (ap Q q 35 35 1 8 x12 x14 G15) G15) fun x17 G16 =>
 chk (((!(gB x7 true) || (!(gB x7 true) || sameO (lda Q q 119 4 a2_ G16) x8)) && true)) <|
 bS (gS x7 true (e.ev.cl 111 [x8,x9,x17] G16) G16) fun x19 G18 =>
 bP (pickV x7 x19 (.bool false)) fun x20 =>
 ifV x20 (
 bS (bs Q q 35 1 (rep z3 1) 1 [(0,0,1)] [a22_] ((G18.room 16).at' (G18.nx + 2))) fun x21 G22 =>
 bS (ap Q q 35 35 1 8 a6_ x21 (G22.back (G18.room 16))) fun x24 G23 =>
 bP (fa Q q 29 0 0 x3) fun x25 =>
 bP (ld Q q 3 x25 G23) fun x26 =>
 chk ((sameO (ld Q q 3 x25 (G22.back (G18.room 16))) x26 && true)) <|
 bS (bs Q q 35 1 (rep z3 1) 1 [(0,0,1)] [x26] (G23.at' (G18.nx + 7))) fun x27 G28 =>
 bS (ap Q q 35 35 1 8 a7_ x27 (G28.back G23)) fun x30 G29 =>
 bP (bn Q q .shl 3 (.const (.int .i64 1)) (.tmp 51) (.int .i64 1) a22_) fun x31 =>
 bP (bn Q q .or 3 (.tmp 50) (.tmp 52) a8_ x31) fun x32 =>
 some ((.exit 2),xq q 56 τ [(8,x32),(7,x30),(6,x24),(53,x32),(52,x31),(51,a22_),(50,a8_),(49,x30),(48,x27),(47,x26),(46,x25),(45,a7_),(44,x24),(43,x21),(42,a22_),(41,a6_),(40,x20),(39,x19),(38,x17),(37,x14),(36,x13),(35,x12),(34,x10),(33,x9),(32,x8),(31,x7),(30,x7),(29,a22_),(28,a8_),(27,a1_),(9,a22_),(10,x3),(26,x2),(25,x1),(24,a22_),(23,x0)] [(1,a1_),(2,a2_),(20,a20_),(21,a21_),(22,a22_)],G29)) (
 bP (bn Q q .add 3 (.tmp 22) (.const (.int .i64 1)) a22_ (.int .i64 1)) fun x33 =>
 lp (xq q 56 τ [(22,x33),(54,x33),(40,x20),(39,x19),(38,x17),(37,x14),(36,x13),(35,x12),(34,x10),(33,x9),(32,x8),(31,x7),(30,x7),(29,a22_),(28,a8_),(27,a1_),(9,a22_),(10,x3),(26,x2),(25,x1),(24,a22_),(23,x0)] [(1,a1_),(2,a2_),(6,a6_),(7,a7_),(8,a8_),(20,a20_),(21,a21_)]) G18)) (
 some ((.exit 2),xq q 56 τ [(23,x0)] [(1,a1_),(2,a2_),(6,a6_),(7,a7_),(8,a8_),(20,a20_),(21,a21_),(22,a22_)],G))
theorem l44_1 (h:ExLe Q e (E orc)):LT orc 56 (subAt [1,1,1,0,1,0,0,1,0,1,0,0] (bodyOf Tryz.f44)) (b44_1 true e):=cL fun hlp τ G=>by unfold b44_1; exact Ref.gq
def s44 (q:Bool) (e:Ex) (v0 v1:Value) (G:GS):OG :=
 bS (bx q v0 G) fun x0 G1 =>
 bP (lda Q q 119 4 x0 G1) fun x2 =>
 bS (e.ev.cl 111 [x2,v1,(.slice none 0 0)] G1) fun x3 G4 =>
 bP (un Q q .not x3) fun x5 =>
 ifV x5 (
 some (.tuple #[(.slice none 0 0),(.bool false)],G4)) (
 bLq q e 44 0 (subAt [1,1,1,0,1,0,0] (bodyOf Tryz.f44)) 56 (nth undef [v0,v1]) [(8,(.int .i64 0)),(15,x5),(14,x3),(13,(.slice none 0 0)),(12,v1),(11,x2),(7,(.slice none 0 0)),(6,(.slice none 0 0)),(5,(.bool false)),(4,(.slice none 0 0)),(2,x0)] [] G4 fun e6 t7 G8 =>
 bV q (t7 7) fun t7x7_ =>
 ifE e6 (.exit 0) (
 some (.tuple #[t7x7_,(.bool true)],G8)) (none))
theorem f44 (h:ExLe Q e (E orc)) (v0 v1:Value) (G:GS):Ref (s44 true e v0 v1 G) ((E orc).cl 44 [v0,v1] G):=cS (S:=fun q e=>s44 q e v0 v1 G) Tryz.func44 (by unfold s44; exact Ref.gq)
def s45 (q:Bool) (e:Ex) (v0:Value) (G:GS):OG :=
 bS (al Q q 119 z119 G) fun x0 G1 =>
 bS (e.ev.cl 112 [(.slice none 0 0),v0] G1) fun x2 G3 =>
 bP (bd Q q 119 z119 [(0,0,1),(1,1,1),(2,2,1),(3,3,1)] [x2,(.func (.func 113) #[] #[]),(.func (.func 114) #[] #[]),(.func (.func 115) #[] #[])]) fun x4 =>
 bP (st Q q 119 4 x0 x4 G3) fun G5 =>
 bP (lda Q q 119 4 x0 G5) fun x6 =>
 some (x6,G5)
theorem f45 (h:ExLe Q e (E orc)) (v0:Value) (G:GS):Ref (s45 true e v0 G) ((E orc).cl 45 [v0] G):=cS (S:=fun q e=>s45 q e v0 G) Tryz.func45 (by unfold s45; exact Ref.gq)
def s54 (q:Bool) (e:Ex) (v0 v1 v2:Value) (G:GS):OG :=
 bS (bx q v1 G) fun x0 G1 =>
 bS (bx q v2 G1) fun x2 G3 =>
 bS (e.ev.cl 126 [v0] G3) fun x4 G5 =>
 bP (bn Q q .neq 25 (.tmp 14) (.const (.int .i64 0)) x4 (.int .i64 0)) fun x6 =>
 ifV x6 (
 some (.tuple #[(.slice none 0 0),(.bool false)],G5)) (
 fl q 24 0 0 3 x0 G5 fun x8 =>
 bP (bn Q q .eql 3 (.tmp 17) (.const (.int .i64 4)) x8 (.int .i64 4)) fun x9 =>
 bS (gP x9 true (lda Q q 27 3 x2 G5) G5) fun x10 G11 =>
 bS (gS x9 true (e.ev.cl 128 [x10] G11) G11) fun x12 G13 =>
 bP (pickV x9 x12 (.bool false)) fun x14 =>
 ifV x14 (
 bS (e.ev.cl 129 [v0] G13) fun x15 G16 =>
 some (.tuple #[x15,(.bool true)],G16)) (
 bP (lda Q q 24 4 x0 G13) fun x17 =>
 bS (e.ev.cl 53 [v0,x17] G13) fun x18 G19 =>
 bP (pExtract x18 0) fun x20 =>
 bP (pExtract x18 1) fun x21 =>
 bS (al Q q 27 z27 G19) fun x22 G23 =>
 bP (st Q q 27 3 x22 x20 G23) fun G24 =>
 bP (un Q q .not x21) fun x25 =>
 bS (gP x25 false (lda Q q 27 3 x22 G24) G24) fun x26 G27 =>
 bS (gP x25 false (lda Q q 27 3 x2 G27) G27) fun x28 G29 =>
 bS (gP x25 false (bn Q q .neq 27 (.tmp 34) (.tmp 35) x26 x28) G29) fun x30 G31 =>
 bP (pickV x25 (.bool true) x30) fun x32 =>
 ifV x32 (
 some (.tuple #[(.slice none 0 0),(.bool false)],G31)) (
 fl q 27 0 0 25 x2 G31 fun x34 =>
 bP (bn Q q .neq 25 (.tmp 40) (.const (.int .i64 0)) x34 (.int .i64 0)) fun x35 =>
 bS (gP x35 false (fa Q q 24 0 0 x0) G31) fun x36 G37 =>
 bS (gP x35 false (ld Q q 3 x36 G37) G37) fun x38 G39 =>
 bS (gP x35 false (bn Q q .eql 3 (.tmp 44) (.const (.int .i64 6)) x38 (.int .i64 6)) G39) fun x40 G41 =>
 bP (pickV x35 (.bool true) x40) fun x42 =>
 ifV x42 (
 bS (e.ev.cl 129 [v0] G41) fun x43 G44 =>
 some (.tuple #[x43,(.bool true)],G44)) (
 fl q 24 0 0 3 x0 G41 fun x46 =>
 bP (bn Q q .eql 3 (.tmp 51) (.const (.int .i64 5)) x46 (.int .i64 5)) fun x47 =>
 ifV x47 (
 bP (sl Q q 107 2 v0 (some (.int .i64 1)) none none G41) fun x48 =>
 bS (e.ev.cl 129 [x48] G41) fun x49 G50 =>
 some (.tuple #[x49,(.bool true)],G50)) (
 fl q 24 3 3 22 x0 G41 fun x52 =>
 bS (e.ev.cl 130 [v0,x52] G41) fun x53 G54 =>
 bP (pExtract x53 0) fun x55 =>
 bP (pExtract x53 1) fun x56 =>
 bP (sl Q q 107 2 v0 none (some x55) (some x55) (G54.room 13)) fun x57 =>
 bS (e.ev.cl 129 [x57] (G54.room 13)) fun x59 G58 =>
 bP (fa Q q 24 3 3 x0) fun x60 =>
 bP (ld Q q 22 x60 G58) fun x61 =>
 chk ((sameO (ld Q q 22 x60 (G54.room 13)) x61 && true)) <|
 bP (fa Q q 24 1 1 x0) fun x62 =>
 bP (ld Q q 3 x62 G58) fun x63 =>
 chk ((sameO (ld Q q 3 x62 (G54.room 13)) x63 && true)) <|
 bP (bd Q q 184 z184 [(0,0,1),(1,1,1)] [x61,x63]) fun x64 =>
 bS (bs Q q 107 1 (rep z184 1) 2 [(0,0,2)] [x64] (G58.at' (G54.nx + 10))) fun x65 G66 =>
 bS (ap Q q 107 107 2 16 x59 x65 (G66.back G58)) fun x68 G67 =>
 bP (sl Q q 107 2 v0 (some x55) none none G67) fun x69 =>
 bS (ap Q q 107 107 2 16 x68 x69 G67) fun x70 G71 =>
 some (.tuple #[x70,(.bool true)],G71))))))
def s59 (q:Bool) (e:Ex) (v0 v1:Value) (G:GS):OG :=
 bS (e.ev.cl 136 [v0,v1] G) fun x0 G1 =>
 bP (bd Q q 223 z223 [(0,0,1)] [x0]) fun x2 =>
 bS (al Q q 223 z223 G1) fun x3 G4 =>
 bP (st Q q 223 3 x3 x2 G4) fun G5 =>
 fl q 223 0 0 220 x3 G5 fun x7 =>
 bP (lda Q q 223 3 x3 G5) fun x8 =>
 bS (e.ev.cl 137 [v0,(.int .i64 1),v1,x7,(.func (.func 138) #[x8] #[])] G5) fun x9 G10 =>
 bP (fd Q q 225 3 3 x9) fun x11 =>
 some (x11,G10)
theorem f59 (h:ExLe Q e (E orc)) (v0 v1:Value) (G:GS):Ref (s59 true e v0 v1 G) ((E orc).cl 59 [v0,v1] G):=cS (S:=fun q e=>s59 q e v0 v1 G) Tryz.func59 (by unfold s59; exact Ref.gq)
def s70 (q:Bool) (e:Ex) (v0:Value) (G:GS):OG :=
 bP (bn Q q .lss 3 (.tmp 4) (.const (.int .i64 1)) v0 (.int .i64 1)) fun x0 =>
 bS (gV x0 false v0 G) fun x1 G2 =>
 bS (gP x0 false (bn Q q .gtr 3 (.tmp 7) (.const (.int .i64 4096)) x1 (.int .i64 4096)) G2) fun x3 G4 =>
 bP (pickV x0 (.bool true) x3) fun x5 =>
 ifV x5 (
 some (.tuple #[(.pointer none),(.int .i64 3)],G4)) (
 bS (al Q q 239 z239 G4) fun x6 G7 =>
 bP (bd Q q 241 z241 [(0,0,1),(1,1,1)] [x6,v0]) fun x8 =>
 bS (bx q x8 G7) fun x9 G10 =>
 some (.tuple #[x9,(.int .i64 0)],G10))
theorem f70 (h:ExLe Q e (E orc)) (v0:Value) (G:GS):Ref (s70 true e v0 G) ((E orc).cl 70 [v0] G):=cS (S:=fun q e=>s70 q e v0 G) Tryz.func70 (by unfold s70; exact Ref.gq)
def s76 (q:Bool) (e:Ex) (v0 v1:Value) (G:GS):OG :=
 bS (bx q v0 G) fun x0 G1 =>
 bP (fa Q q 71 0 0 x0) fun x2 =>
 bP (lda Q q 69 3 x2 (G1.room 9)) fun x3 =>
 bS (e.ev.cl 153 [x3,v1] (G1.room 9)) fun x5 G4 =>
 bP (lda Q q 71 6 x0 G4) fun x6 =>
 chk ((sameO (lda Q q 71 6 x0 (G1.room 9)) x6 && true)) <|
 bP (bd Q q 247 z247 [(0,0,1),(1,1,6),(2,7,1),(4,9,1)] [x5,x6,(.bool true),v1]) fun x7 =>
 bS (bx q x7 (G4.at' (G1.nx + 7))) fun x8 G9 =>
 bP (bn Q q .lss 3 (.tmp 14) (.const (.int .i64 0)) v1 (.int .i64 0)) fun x10 =>
 bS (gd x10 false (some (v1,(G9.back G4))) (G9.back G4)) fun x11 G12 =>
 bS (gP x10 false (fa Q q 71 0 0 x0) G12) fun x13 G14 =>
 bS (gP x10 false (fa Q q 69 2 2 x13) G14) fun x15 G16 =>
 bS (gP x10 false (ld Q q 3 x15 G16) G16) fun x17 G18 =>
 bS (gP x10 false (bn Q q .geq 3 (.tmp 17) (.tmp 20) x11 x17) G18) fun x19 G20 =>
 bP (pickV x10 (.bool true) x19) fun x21 =>
 ifV x21 (
 nf q 247 6 11 x8 fun x23 =>
 bP (st Q q 25 1 x23 (.int .i64 3) G20) fun G24 =>
 some (x8,G24)) (
 nf q 247 3 8 x8 fun x26 =>
 bP (st Q q 245 1 x26 (.func (.func 154) #[] #[]) G20) fun G27 =>
 some (x8,G27))
theorem f76 (h:ExLe Q e (E orc)) (v0 v1:Value) (G:GS):Ref (s76 true e v0 v1 G) ((E orc).cl 76 [v0,v1] G):=cS (S:=fun q e=>s76 q e v0 v1 G) Tryz.func76 (by unfold s76; exact Ref.gq)
def s78 (q:Bool) (e:Ex) (v0 v1:Value) (G:GS):OG :=
 bP (ep Q q false 150 (.tmp 5) (.const (.pointer none)) v0 (.pointer none)) fun x0 =>
 bS (gV x0 false v0 G) fun x1 G2 =>
 bS (gP x0 false (pNil x1) G2) fun x3 G4 =>
 bS (gP x0 false (fa Q q 247 3 8 x3) G4) fun x5 G6 =>
 bS (gP x0 false (ld Q q 245 x5 G6) G6) fun x7 G8 =>
 bS (gP x0 false (ef Q q false 245 (.tmp 11) (.const .nilFunc) x7 .nilFunc) G8) fun x9 G10 =>
 bP (pickV x0 (.bool true) x9) fun x11 =>
 ifV x11 (
 some ((.bool true),G10)) (
 nl q 247 3 8 245 v0 G10 fun x14 =>
 bS (cValue e.ev x14 [v0,v1] G10) fun x15 G16 =>
 nl q 247 3 8 245 v0 G16 fun x19 =>
 bP (ef Q q false 245 (.tmp 24) (.const .nilFunc) x19 .nilFunc) fun x20 =>
 some (x20,G16))
theorem f78 (h:ExLe Q e (E orc)) (v0 v1:Value) (G:GS):Ref (s78 true e v0 v1 G) ((E orc).cl 78 [v0,v1] G):=cS (S:=fun q e=>s78 q e v0 v1 G) Tryz.func78 (by unfold s78; exact Ref.gq)
def b81_0 (q:Bool) (e:Ex) (lp:LpF) (τ:Env) (G:GS):OL :=
 bV q (τ 1) fun a1_ =>
 bV q (τ 2) fun a2_ =>
 bV q (τ 18) fun a18_ =>
 bV q (τ 19) fun a19_ =>
 bP (bn Q q .lss 3 (.tmp 19) (.tmp 18) a19_ a18_) fun x0 =>
 ifV x0 (
 bP (fa Q q 71 1 3 a2_) fun x1 =>
 bP (ld Q q 3 x1 G) fun x2 =>
 bP (bn Q q .add 3 (.tmp 24) (.tmp 25) x2 a19_) fun x3 =>
 bS (e.ev.cl 150 [a1_,x3,(.int .u64 1)] G) fun x4 G5 =>
 bP (bn Q q .add 3 (.tmp 19) (.const (.int .i64 1)) a19_ (.int .i64 1)) fun x6 =>
 lp (xq q 29 τ [(19,x6),(28,x6),(27,x4),(26,x3),(25,a19_),(24,x2),(23,x1),(22,a1_),(4,a19_),(21,a19_),(20,x0)] [(1,a1_),(2,a2_),(18,a18_)]) G5) (
 some ((.exit 0),xq q 29 τ [(20,x0)] [(1,a1_),(2,a2_),(18,a18_),(19,a19_)],G))
theorem l81_0 (h:ExLe Q e (E orc)):LT orc 29 (subAt [1,1,1,1,1,0,0] (bodyOf Tryz.f81)) (b81_0 true e):=cL fun hlp τ G=>by unfold b81_0; exact Ref.gq
def s81 (q:Bool) (e:Ex) (v0 v1:Value) (G:GS):OG :=
 bS (bx q v0 G) fun x0 G1 =>
 bP (lda Q q 71 6 x0 G1) fun x2 =>
 bS (e.ev.cl 161 [x2] G1) fun x3 G4 =>
 bP (un Q q .not x3) fun x5 =>
 ifV x5 (
 some (.tuple #[],G4)) (
 bP (fa Q q 71 0 0 x0) fun x6 =>
 bP (lda Q q 69 3 x6 G4) fun x7 =>
 bS (e.ev.cl 162 [x7,v1] G4) fun x8 G9 =>
 bP (fa Q q 71 2 4 x0) fun x10 =>
 bP (ld Q q 3 x10 G9) fun x11 =>
 bS (e.ev.cl 150 [v1,x11,(.int .u64 0)] G9) fun x12 G13 =>
 bP (fa Q q 71 0 0 x0) fun x14 =>
 bP (fa Q q 69 2 2 x14) fun x15 =>
 bP (ld Q q 3 x15 G13) fun x16 =>
 bLq q e 81 0 (subAt [1,1,1,1,1,0,0] (bodyOf Tryz.f81)) 29 (nth undef [v0,v1]) [(19,(.int .i64 0)),(18,x16),(17,x15),(16,x14),(15,x12),(14,x11),(13,x10),(12,v1),(11,x8),(10,v1),(9,x7),(8,x6),(7,x5),(6,x3),(5,x2),(2,x0)] [] G13 fun e17 t18 G19 =>
 ifE e17 (.exit 0) (
 some (.tuple #[],G19)) (none))
theorem f81 (h:ExLe Q e (E orc)) (v0 v1:Value) (G:GS):Ref (s81 true e v0 v1 G) ((E orc).cl 81 [v0,v1] G):=cS (S:=fun q e=>s81 q e v0 v1 G) Tryz.func81 (by unfold s81; exact Ref.gq)
def jb82_0 (q:Bool) (e:Ex) (τ:Env) (G:GS):OG :=
 bV q (τ 0) fun a0_ =>
 bV q (τ 1) fun a1_ =>
 bV q (τ 8) fun a8_ =>
 nl q 76 7 12 35 a0_ (G.room 12) fun x21 =>
 nl q 76 6 11 38 a0_ (G.room 12) fun x24 =>
 bP (ln Q q 38 x24) fun x25 =>
 bP (ias Q q 35 1 x21 a1_) fun x26 =>
 bP (st Q q 3 1 x26 x25 (G.room 12)) fun G27 =>
 nl q 76 6 11 38 a0_ (G27.room 11) fun x30 =>
 bP (lda Q q 29 10 a8_ (G27.room 11)) fun x31 =>
 bS (bs Q q 38 1 (rep z29 1) 10 [(0,0,10)] [x31] ((G27.room 11).at' (G27.nx + 6))) fun x32 G33 =>
 bS (ap Q q 38 38 10 80 x30 x32 (G33.back (G27.room 11))) fun x35 G34 =>
 nf q 76 6 11 a0_ fun x37 =>
 bP (st Q q 38 1 x37 x35 G34) fun G38 =>
 some (.tuple #[],G38)
def j82_0 (q:Bool) (e:Ex) (τ:Env) (G:GS):OG:=jb82_0 q e τ G
theorem mj82_0 {e:Ex} {E:Ev} (h:ExLe Q e E) (τ:Env) (G:GS):Ref (j82_0 true e τ G) (j82_0 false (Ex.of E) τ G):=by
 unfold j82_0 jb82_0
 exact Ref.gq
theorem mkj82_0 {e:Ex} {E:Ev} (h:ExLe Q e E) {τ:Env} {l U:List (Nat × Value)} {G:GS} (hU:UOk τ U):Ref (j82_0 true e (xq true 130 τ l U) G) (j82_0 false (Ex.of E) (xq false 130 τ l U) G):=by
 rw [xq_eq hU]
 exact mj82_0 h _ _
def sb82 (q:Bool) (e:Ex) (J0:Env → GS → OG) (v0 v1 v2 v3:Value) (G:GS):OG :=
 bP (pNil v0) fun x0 =>
 bP (fa Q q 76 8 13 x0) fun x1 =>
 bP (ld Q q 3 x1 G) fun x2 =>
 bP (bn Q q .add 3 (.tmp 15) (.const (.int .i64 1)) x2 (.int .i64 1)) fun x3 =>
 bP (pNil v0) fun x4 =>
 bP (fa Q q 76 8 13 x4) fun x5 =>
 bP (st Q q 3 1 x5 x3 G) fun G6 =>
 bP (pNil v0) fun x7 =>
 bP (fa Q q 76 6 11 x7) fun x8 =>
 bP (ld Q q 38 x8 (G6.room 13)) fun x9 =>
 bP (ln Q q 38 x9) fun x10 =>
 bP (pNil v0) fun x11 =>
 bP (fa Q q 76 8 13 x11) fun x12 =>
 bP (ld Q q 3 x12 (G6.room 13)) fun x13 =>
 bP (bd Q q 24 z24 [(0,0,1)] [(.int .i64 7)]) fun x14 =>
 bP (bd Q q 29 z29 [(0,0,1),(1,1,1),(2,2,1),(3,3,4)] [x10,x13,(.int .i64 (-1)),x14]) fun x15 =>
 bS (al Q q 29 z29 ((G6.room 13).at' (G6.nx + 11))) fun x16 G17 =>
 bP (st Q q 29 10 x16 x15 (G17.back (G6.room 13))) fun G18 =>
 ifV v2 (
 bP (pNil v0) fun x39 =>
 bP (fa Q q 76 4 9 x39) fun x40 =>
 bP (ld Q q 74 x40 G18) fun x41 =>
 bP (ln Q q 74 x41) fun x42 =>
 bS (e.ev.cl 19 [v3,x42] G18) fun x43 G44 =>
 bP (pNil v0) fun x45 =>
 bP (fa Q q 76 5 10 x45) fun x46 =>
 bP (ld Q q 74 x46 (G44.room 14)) fun x47 =>
 bP (pNil v0) fun x48 =>
 bP (fa Q q 76 4 9 x48) fun x49 =>
 bP (ld Q q 74 x49 (G44.room 14)) fun x50 =>
 bP (ias Q q 74 1 x50 x43) fun x51 =>
 bP (ld Q q 22 x51 (G44.room 14)) fun x52 =>
 bP (ias Q q 74 1 x47 v1) fun x53 =>
 bP (st Q q 22 1 x53 x52 (G44.room 14)) fun G54 =>
 bS (bs Q q 74 0 (rep z22 0) 1 [] [] ((G54.room 20).at' (G54.nx + 1))) fun x55 G56 =>
 bP (pNil v0) fun x57 =>
 bP (fa Q q 76 4 9 x57) fun x58 =>
 bP (ld Q q 74 x58 (G56.back (G54.room 20))) fun x59 =>
 bP (sl Q q 74 1 x59 none (some x43) none (G56.back (G54.room 20))) fun x60 =>
 bS (ap Q q 74 74 1 8 x55 x60 (G56.back (G54.room 20))) fun x62 G61 =>
 bP (pNil v0) fun x63 =>
 bP (fa Q q 76 4 9 x63) fun x64 =>
 bP (ld Q q 74 x64 G61) fun x65 =>
 chk ((sameO (ld Q q 74 x64 (G56.back (G54.room 20))) x65 && true)) <|
 bP (bn Q q .add 3 (.tmp 64) (.const (.int .i64 1)) x43 (.int .i64 1)) fun x66 =>
 bP (sl Q q 74 1 x65 (some x66) none none G61) fun x67 =>
 chk ((sameO (sl Q q 74 1 x65 (some x66) none none (G56.back (G54.room 20))) x67 && true)) <|
 bS (ap Q q 74 74 1 8 x62 x67 G61) fun x69 G68 =>
 bP (pNil v0) fun x70 =>
 bP (fa Q q 76 4 9 x70) fun x71 =>
 bP (st Q q 74 1 x71 x69 G68) fun G72 =>
 bP (pNil v0) fun x73 =>
 bP (fa Q q 76 5 10 x73) fun x74 =>
 bP (ld Q q 74 x74 G72) fun x75 =>
 bP (ias Q q 74 1 x75 v1) fun x76 =>
 bP (ld Q q 22 x76 G72) fun x77 =>
 bS (e.ev.cl 163 [x77] G72) fun x78 G79 =>
 bP (pExtract x78 0) fun x80 =>
 bP (pExtract x78 1) fun x81 =>
 bS (al Q q 260 z260 G79) fun x82 G83 =>
 bP (st Q q 260 3 x82 x80 G83) fun G84 =>
 bP (pNil v0) fun x85 =>
 bP (fa Q q 76 3 8 x85) fun x86 =>
 bP (ld Q q 73 x86 (G84.room 14)) fun x87 =>
 bP (pNil v0) fun x88 =>
 bP (fa Q q 76 0 0 x88) fun x89 =>
 bP (lda Q q 71 6 x89 (G84.room 14)) fun x90 =>
 bP (fa Q q 260 0 0 x82) fun x91 =>
 bP (ld Q q 3 x91 (G84.room 14)) fun x92 =>
 bS (e.ev.cl 76 [x90,x92] (G84.room 14)) fun x94 G93 =>
 chk ((sameO (ld Q q 73 x86 G93) x87 && true)) <|
 bP (ias Q q 73 1 x87 v1) fun x95 =>
 bP (st Q q 150 1 x95 x94 G93) fun G96 =>
 bP (fa Q q 260 0 0 x82) fun x97 =>
 bP (ld Q q 3 x97 G96) fun x98 =>
 bP (bd Q q 24 z24 [(0,0,1),(1,1,1)] [(.int .i64 8),x98]) fun x99 =>
 bP (fa Q q 29 3 3 x16) fun x100 =>
 bP (st Q q 24 4 x100 x99 G96) fun G101 =>
 J0 (xq q 130 (nth undef [v0,v1,v2,v3]) [(97,x100),(96,x99),(95,x98),(94,x97),(93,x95),(92,x94),(91,x92),(90,x91),(89,x90),(88,x89),(87,x88),(86,v0),(85,v1),(84,x87),(83,x86),(82,x85),(81,v0),(11,x81),(10,x82),(80,x81),(79,x80),(70,x78),(78,x78),(77,x77),(76,x76),(75,v1),(74,x75),(73,x74),(72,x73),(71,v0),(69,x71),(68,x70),(67,x69),(66,x67),(65,x66),(64,x43),(63,x65),(62,x64),(61,x63),(60,v0),(59,x62),(58,x60),(57,x43),(56,x59),(55,x58),(54,x57),(53,v0),(52,x55),(51,v0),(50,x53),(49,x52),(48,x51),(47,x43),(46,x50),(45,x49),(44,x48),(43,v0),(42,v1),(41,x47),(40,x46),(39,x45),(38,v0),(9,x43),(37,x43),(36,x42),(35,x41),(34,x40),(33,x39),(32,v0),(31,v3),(30,v2),(8,x16),(29,x15),(28,x14),(27,x13),(26,x12),(25,x11),(24,v0),(23,x10),(22,x9),(21,x8),(20,x7),(19,v0),(18,x5),(17,x4),(16,x3),(15,x2),(14,x1),(13,x0),(12,v0)] []) G101) (
 bP (pNil v0) fun x102 =>
 bP (fa Q q 76 2 7 x102) fun x103 =>
 bP (ld Q q 72 x103 (G18.room 12)) fun x104 =>
 bP (pNil v0) fun x105 =>
 bP (fa Q q 76 0 0 x105) fun x106 =>
 bP (lda Q q 71 6 x106 (G18.room 12)) fun x107 =>
 bS (e.ev.cl 155 [x107] (G18.room 12)) fun x109 G108 =>
 chk ((sameO (ld Q q 72 x103 G108) x104 && true)) <|
 bP (ias Q q 72 1 x104 v1) fun x110 =>
 bP (st Q q 249 1 x110 x109 G108) fun G111 =>
 J0 (xq q 130 (nth undef [v0,v1,v2,v3]) [(108,x110),(107,x109),(106,x107),(105,x106),(104,x105),(103,v0),(102,v1),(101,x104),(100,x103),(99,x102),(98,v0),(30,v2),(8,x16),(29,x15),(28,x14),(27,x13),(26,x12),(25,x11),(24,v0),(23,x10),(22,x9),(21,x8),(20,x7),(19,v0),(18,x5),(17,x4),(16,x3),(15,x2),(14,x1),(13,x0),(12,v0)] []) G111)
def s82 (q:Bool) (e:Ex) (v0 v1 v2 v3:Value) (G:GS):OG:=sb82 q e (j82_0 q e) v0 v1 v2 v3 G
theorem m82 {e:Ex} {E:Ev} (h:ExLe Q e E) (v0 v1 v2 v3:Value) (G:GS):Ref (s82 true e v0 v1 v2 v3 G) (s82 false (Ex.of E) v0 v1 v2 v3 G):=by
 unfold s82 sb82
 have j0:=@mkj82_0 e E h
 exact Ref.gj
def jt82 (J0:Env → GS → OG):JT (Value × GS) :=
 (.n none .e (.n none .e (.n (some (fun T G=>J0 (nth undef T) G)) .e .e)))
set_option maxHeartbeats 8000000 in
theorem jr82_0 (orc:FuncId → Bool) (J0:Env → GS → OG) (T:List Value) (G:GS):runC Q (evL Q orc) Tryz.f82.ntmps (jt82 J0) (bodyOf Tryz.f82) (retE Q Tryz.f82.results.toList) [true,true] (nth undef T) G = jb82_0 false (Ex.of (E orc))  (nth undef T) G:=by kernel_rfl
set_option maxHeartbeats 8000000 in
theorem jo82 (orc:FuncId → Bool):JOk Q orc Tryz.f82.ntmps (jt82 (j82_0 false (Ex.of (E orc))) ) (bodyOf Tryz.f82) (retE Q Tryz.f82.results.toList) :=
 jOk Q orc (l:=[([true,true],(fun T G=>j82_0 false (Ex.of (E orc)) (nth undef T) G))]) (by kernel_rfl) (AllE.c (fun T G=>jr82_0 orc (j82_0 false (Ex.of (E orc))) T G) (AllE.z))
set_option maxHeartbeats 8000000 in
theorem je82 (orc:FuncId → Bool) (J0:Env → GS → OG) (v0 v1 v2 v3:Value) (G:GS):sxC Q (evL Q orc) Tryz.f82.ntmps (jt82 J0) (bodyOf Tryz.f82) (nth undef [v0,v1,v2,v3]) G (retE Q Tryz.f82.results.toList) = sb82 false (Ex.of (E orc)) J0 v0 v1 v2 v3 G:=by kernel_rfl
set_option maxHeartbeats 8000000 in
theorem f82 {orc:FuncId → Bool} {e:Ex} (h:ExLe Q e (E orc)) (v0 v1 v2 v3:Value) (G:GS):Ref (s82 true e v0 v1 v2 v3 G) ((E orc).cl 82 [v0,v1,v2,v3] G) :=
 fun r hr=>cl_sxC Q orc (vs:=[v0,v1,v2,v3]) G (jt82 (j82_0 false (Ex.of (E orc))) ) Tryz.func82 (by kernel_rfl) (by kernel_rfl) (by kernel_rfl) (by kernel_rfl) (by kernel_rfl) (jo82 orc) (je82 orc (j82_0 false (Ex.of (E orc))) v0 v1 v2 v3 G) (m82 h v0 v1 v2 v3 G r hr)
def b83_0 (q:Bool) (e:Ex) (lp:LpF) (τ:Env) (G:GS):OL :=
 bV q (τ 0) fun a0_ =>
 bV q (τ 8) fun a8_ =>
 bV q (τ 10) fun a10_ =>
 bP (pNil a0_) fun x0 =>
 bP (fa Q q 76 4 9 x0) fun x1 =>
 bP (ld Q q 74 x1 G) fun x2 =>
 bP (ln Q q 74 x2) fun x3 =>
 bP (bn Q q .lss 3 (.tmp 145) (.tmp 150) a10_ x3) fun x4 =>
 ifV x4 (
 bP (pNil a0_) fun x5 =>
 bP (fa Q q 76 4 9 x5) fun x6 =>
 bP (ld Q q 74 x6 G) fun x7 =>
 bP (ias Q q 74 1 x7 a10_) fun x8 =>
 bP (ld Q q 22 x8 G) fun x9 =>
 bS (e.ev.cl 163 [x9] G) fun x10 G11 =>
 bP (pExtract x10 0) fun x12 =>
 bP (pExtract x10 1) fun x13 =>
 bS (al Q q 260 z260 G11) fun x14 G15 =>
 bP (st Q q 260 3 x14 x12 G15) fun G16 =>
 bP (fa Q q 260 0 0 x14) fun x17 =>
 bP (ld Q q 3 x17 G16) fun x18 =>
 bP (fa Q q 260 0 0 a8_) fun x19 =>
 bP (ld Q q 3 x19 G16) fun x20 =>
 bP (bn Q q .eql 3 (.tmp 166) (.tmp 168) x18 x20) fun x21 =>
 ifV x21 (
 some (.ret,xq q 204 τ [(4,(.bool false)),(169,x21),(168,x20),(167,x19),(166,x18),(165,x17),(12,x13),(11,x14),(164,x13),(163,x12),(154,x10),(162,x10),(161,x9),(160,x8),(159,a10_),(158,x7),(157,x6),(156,x5),(155,a0_),(151,x4),(150,x3),(149,x2),(148,x1),(147,x0),(146,a0_),(145,a10_)] [(0,a0_),(8,a8_),(10,a10_)],G16)) (
 bP (bn Q q .add 3 (.tmp 152) (.const (.int .i64 1)) a10_ (.int .i64 1)) fun x22 =>
 lp (xq q 204 τ [(10,x22),(153,x22),(152,a10_),(169,x21),(168,x20),(167,x19),(166,x18),(165,x17),(12,x13),(11,x14),(164,x13),(163,x12),(154,x10),(162,x10),(161,x9),(160,x8),(159,a10_),(158,x7),(157,x6),(156,x5),(155,a0_),(151,x4),(150,x3),(149,x2),(148,x1),(147,x0),(146,a0_),(145,a10_)] [(0,a0_),(8,a8_)]) G16)) (
 some ((.exit 0),xq q 204 τ [(151,x4),(150,x3),(149,x2),(148,x1),(147,x0),(146,a0_),(145,a10_)] [(0,a0_),(8,a8_),(10,a10_)],G))
theorem mb83_0 {e:Ex} {E:Ev} (h:ExLe Q e E) {lp lp':LpF} (hlp:LpLe lp lp') (τ:Env) (G:GS):Ref (b83_0 true e lp τ G) (b83_0 false (Ex.of E) lp' τ G):=by
 unfold b83_0
 exact Ref.gq
set_option maxHeartbeats 8000000 in
theorem l83_0 {orc:FuncId → Bool} {e:Ex} (h:ExLe Q e (E orc)) (lp:LpF) (hlp:∀ τ G,Ref (lp τ G) (mapE ((E orc).lp (subAt [1,1,1,1,1,1,1,1,1,1,1,0,1,0,0] (bodyOf Tryz.f83)) (lst 204 τ) G))) (T:List Value) (G:GS) (hT:T.length = 204):Ref (b83_0 true e lp (nth undef T) G) (mapE ((E orc).lp (subAt [1,1,1,1,1,1,1,1,1,1,1,0,1,0,0] (bodyOf Tryz.f83)) T G)) :=
 fun r hr=>lp_sxN Q orc G hT (by kernel_rfl) (mb83_0 h ⟨hlp⟩ _ _ r hr)
def s83 (q:Bool) (e:Ex) (v0 v1:Value) (G:GS):OG :=
 bP (pNil v0) fun x0 =>
 bP (fa Q q 76 7 12 x0) fun x1 =>
 bP (ld Q q 35 x1 G) fun x2 =>
 bP (ias Q q 35 1 x2 v1) fun x3 =>
 bP (ld Q q 3 x3 G) fun x4 =>
 bP (bn Q q .lss 3 (.tmp 19) (.const (.int .i64 0)) x4 (.int .i64 0)) fun x5 =>
 ifV x5 (
 some ((.bool true),G)) (
 bP (pNil v0) fun x6 =>
 bP (fa Q q 76 8 13 x6) fun x7 =>
 bP (ld Q q 3 x7 G) fun x8 =>
 bP (bn Q q .add 3 (.tmp 24) (.const (.int .i64 1)) x8 (.int .i64 1)) fun x9 =>
 bP (pNil v0) fun x10 =>
 bP (fa Q q 76 8 13 x10) fun x11 =>
 bP (st Q q 3 1 x11 x9 G) fun G12 =>
 bP (pNil v0) fun x13 =>
 bP (fa Q q 76 6 11 x13) fun x14 =>
 bP (ld Q q 38 x14 (G12.room 13)) fun x15 =>
 bP (pNil v0) fun x16 =>
 bP (fa Q q 76 7 12 x16) fun x17 =>
 bP (ld Q q 35 x17 (G12.room 13)) fun x18 =>
 bP (ias Q q 35 1 x18 v1) fun x19 =>
 bP (ld Q q 3 x19 (G12.room 13)) fun x20 =>
 bP (ias Q q 38 10 x15 x20) fun x21 =>
 bP (pNil v0) fun x22 =>
 bP (fa Q q 76 3 8 x22) fun x23 =>
 bP (ld Q q 73 x23 (G12.room 13)) fun x24 =>
 bP (ias Q q 73 1 x24 v1) fun x25 =>
 bP (ld Q q 150 x25 (G12.room 13)) fun x26 =>
 bP (ep Q q true 150 (.tmp 46) (.const (.pointer none)) x26 (.pointer none)) fun x27 =>
 ifV x27 (
 nf q 76 3 8 v0 fun x29 =>
 bP (ld Q q 73 x29 ((G12.room 13).room 13)) fun x30 =>
 bP (ias Q q 73 1 x30 v1) fun x31 =>
 bP (ld Q q 150 x31 ((G12.room 13).room 13)) fun x32 =>
 nf q 76 1 6 v0 fun x34 =>
 bP (ld Q q 58 x34 ((G12.room 13).room 13)) fun x35 =>
 bS (e.ev.cl 78 [x32,x35] ((G12.room 13).room 13)) fun x37 G36 =>
 bP (un Q q .not x37) fun x38 =>
 ifV x38 (
 some ((.bool true),G36)) (
 nl q 76 3 8 73 v0 (G36.room 22) fun x41 =>
 nl q 76 7 12 35 v0 (G36.room 22) fun x44 =>
 nl q 76 8 13 3 v0 (G36.room 22) fun x47 =>
 nf q 29 2 2 x21 fun x49 =>
 bP (st Q q 3 1 x49 x47 (G36.room 22)) fun G50 =>
 bP (ias Q q 73 1 x41 v1) fun x51 =>
 bP (st Q q 150 1 x51 (.pointer none) G50) fun G52 =>
 bP (ias Q q 35 1 x44 v1) fun x53 =>
 bP (st Q q 3 1 x53 (.int .i64 (-1)) G52) fun G54 =>
 some ((.bool true),G54))) (
 bP (pNil v0) fun x55 =>
 bP (fa Q q 76 2 7 x55) fun x56 =>
 bP (ld Q q 72 x56 ((G12.room 13).room 13)) fun x57 =>
 bP (ias Q q 72 1 x57 v1) fun x58 =>
 bP (ld Q q 249 x58 ((G12.room 13).room 13)) fun x59 =>
 bP (pNil v0) fun x60 =>
 bP (fa Q q 76 1 6 x60) fun x61 =>
 bP (ld Q q 58 x61 ((G12.room 13).room 13)) fun x62 =>
 bS (e.ev.cl 164 [x59,x62] ((G12.room 13).room 13)) fun x64 G63 =>
 bP (un Q q .not x64) fun x65 =>
 ifV x65 (
 some ((.bool true),G63)) (
 bP (pNil v0) fun x66 =>
 bP (fa Q q 76 2 7 x66) fun x67 =>
 bP (ld Q q 72 x67 G63) fun x68 =>
 bP (ias Q q 72 1 x68 v1) fun x69 =>
 bP (ld Q q 249 x69 G63) fun x70 =>
 bS (e.ev.cl 156 [x70] G63) fun x71 G72 =>
 bP (pExtract x71 0) fun x73 =>
 bP (pExtract x71 1) fun x74 =>
 bP (pNil v0) fun x75 =>
 bP (fa Q q 76 2 7 x75) fun x76 =>
 bP (ld Q q 72 x76 (G72.room 22)) fun x77 =>
 bP (pNil v0) fun x78 =>
 bP (fa Q q 76 7 12 x78) fun x79 =>
 bP (ld Q q 35 x79 (G72.room 22)) fun x80 =>
 bP (pNil v0) fun x81 =>
 bP (fa Q q 76 8 13 x81) fun x82 =>
 bP (ld Q q 3 x82 (G72.room 22)) fun x83 =>
 bP (pNil x21) fun x84 =>
 bP (fa Q q 29 2 2 x84) fun x85 =>
 bP (st Q q 3 1 x85 x83 (G72.room 22)) fun G86 =>
 bP (ias Q q 72 1 x77 v1) fun x87 =>
 bP (st Q q 249 1 x87 (.pointer none) G86) fun G88 =>
 bP (ias Q q 35 1 x80 v1) fun x89 =>
 bP (st Q q 3 1 x89 (.int .i64 (-1)) G88) fun G90 =>
 bP (pNil x21) fun x91 =>
 bP (fa Q q 29 4 7 x91) fun x92 =>
 bP (fa Q q 27 0 0 x92) fun x93 =>
 bP (st Q q 25 1 x93 x74 G90) fun G94 =>
 bP (bn Q q .neq 25 (.tmp 128) (.const (.int .i64 0)) x74 (.int .i64 0)) fun x95 =>
 ifV x95 (
 bP (bn Q q .eql 22 (.tmp 130) (.const (.int .u64 0)) x73 (.int .u64 0)) fun x96 =>
 bS (gV x96 true x74 G94) fun x97 G98 =>
 bS (gP x96 true (bn Q q .eql 25 (.tmp 133) (.const (.int .i64 7)) x97 (.int .i64 7)) G98) fun x99 G100 =>
 bS (gV x96 true x99 G100) fun x101 G102 =>
 bS (gV x101 false x74 G102) fun x103 G104 =>
 bS (gP x101 false (bn Q q .eql 25 (.tmp 136) (.const (.int .i64 12)) x103 (.int .i64 12)) G104) fun x105 G106 =>
 bS (gP x96 true (pickV x101 (.bool true) x105) G106) fun x107 G108 =>
 bP (pickV x96 x107 (.bool false)) fun x109 =>
 some (x109,G108)) (
 bS (e.ev.cl 163 [x73] G94) fun x110 G111 =>
 bP (pExtract x110 0) fun x112 =>
 bP (pExtract x110 1) fun x113 =>
 bS (al Q q 260 z260 G111) fun x114 G115 =>
 bP (st Q q 260 3 x114 x112 G115) fun G116 =>
 bLq q e 83 0 (subAt [1,1,1,1,1,1,1,1,1,1,1,0,1,0,0] (bodyOf Tryz.f83)) 204 (nth undef [v0,v1]) [(10,(.int .i64 0)),(9,x113),(8,x114),(144,x113),(143,x112),(140,x110),(142,x110),(141,x73),(129,x95),(128,x74),(127,x93),(126,x92),(125,x91),(124,x74),(123,x21),(122,x89),(121,x87),(120,x85),(119,x84),(118,x83),(117,x82),(116,x81),(115,v0),(114,v1),(113,x80),(112,x79),(111,x78),(110,v0),(109,v1),(108,x77),(107,x76),(106,x75),(105,v0),(104,x21),(7,x74),(6,x73),(103,x74),(102,x73),(93,x71),(101,x71),(100,x70),(99,x69),(98,v1),(97,x68),(96,x67),(95,x66),(94,v0),(92,x65),(91,x64),(90,x62),(89,x61),(88,x60),(87,v0),(86,x59),(85,x58),(84,v1),(83,x57),(82,x56),(81,x55),(80,v0),(47,x27),(46,x26),(45,x25),(44,v1),(43,x24),(42,x23),(41,x22),(40,v0),(5,x21),(39,x21),(38,x20),(37,x19),(36,v1),(35,x18),(34,x17),(33,x16),(32,v0),(31,x15),(30,x14),(29,x13),(28,v0),(27,x11),(26,x10),(25,x9),(24,x8),(23,x7),(22,x6),(21,v0),(20,x5),(19,x4),(18,x3),(17,v1),(16,x2),(15,x1),(14,x0),(13,v0),(4,(.bool false))] [] G116 fun e117 t118 G119 =>
 bV q (t118 0) fun t118x0_ =>
 bV q (t118 4) fun t118x4_ =>
 bV q (t118 5) fun t118x5_ =>
 bV q (t118 6) fun t118x6_ =>
 bV q (t118 8) fun t118x8_ =>
 bV q (t118 9) fun t118x9_ =>
 ifE e117 (.exit 0) (
 fl q 260 0 0 3 t118x8_ G119 fun x121 =>
 nf q 29 4 7 t118x5_ fun x123 =>
 bP (fa Q q 27 1 1 x123) fun x124 =>
 bP (st Q q 3 1 x124 x121 G119) fun G125 =>
 nl q 76 4 9 74 t118x0_ G125 fun x128 =>
 bS (bs Q q 74 1 (rep z22 1) 1 [(0,0,1)] [t118x6_] G125) fun x129 G130 =>
 bS (ap Q q 74 74 1 8 x128 x129 G130) fun x131 G132 =>
 nf q 76 4 9 t118x0_ fun x134 =>
 bP (st Q q 74 1 x134 x131 G132) fun G135 =>
 bP (bn Q q .eql 25 (.tmp 186) (.const (.int .i64 0)) t118x9_ (.int .i64 0)) fun x136 =>
 bS (gP x136 true (fa Q q 260 2 2 t118x8_) (G135.room 19)) fun x137 _ =>
 bS (gP x136 true (ld Q q 4 x137 (G135.room 19)) (G135.room 19)) fun x138 _ =>
 bS (gP x136 true (un Q q .not x138) (G135.room 19)) fun x139 _ =>
 bP (pickV x136 x139 (.bool false)) fun x140 =>
 bS (gP x140 true (fa Q q 260 0 0 t118x8_) (G135.room 19)) fun x141 _ =>
 bS (gP x140 true (ld Q q 3 x141 (G135.room 19)) (G135.room 19)) fun x142 _ =>
 bS (gV x140 true t118x0_ (G135.room 19)) fun x143 _ =>
 bS (gP x140 true (pNil x143) (G135.room 19)) fun x144 _ =>
 bS (gP x140 true (fa Q q 76 0 0 x144) (G135.room 19)) fun x145 _ =>
 bS (gP x140 true (fa Q q 71 0 0 x145) (G135.room 19)) fun x146 _ =>
 bS (gP x140 true (fa Q q 69 2 2 x146) (G135.room 19)) fun x147 _ =>
 bS (gP x140 true (ld Q q 3 x147 (G135.room 19)) (G135.room 19)) fun x148 _ =>
 bS (gP x140 true (bn Q q .lss 3 (.tmp 195) (.tmp 201) x142 x148) (G135.room 19)) fun x149 _ =>
 bP (pickV x140 x149 (.bool false)) fun x150 =>
 some (x150,(G135.room 19))) (ifE e117 .ret (
 some (t118x4_,G119)) (none))))))
theorem m83 {e:Ex} {E:Ev} (h:ExLe Q e E) (v0 v1:Value) (G:GS):Ref (s83 true e v0 v1 G) (s83 false (Ex.of E) v0 v1 G):=by
 unfold s83
 exact Ref.gq
set_option maxHeartbeats 8000000 in
theorem f83 {orc:FuncId → Bool} {e:Ex} (h:ExLe Q e (E orc)) (v0 v1:Value) (G:GS):Ref (s83 true e v0 v1 G) ((E orc).cl 83 [v0,v1] G) :=
 fun r hr=>cl_sxE_some Q orc (vs:=[v0,v1]) G Tryz.func83 (by kernel_rfl) (by kernel_rfl) (by kernel_rfl) (by kernel_rfl) (by kernel_rfl) (by kernel_rfl) (m83 h v0 v1 G r hr)
def s84 (q:Bool) (e:Ex) (v0:Value) (G:GS):OG :=
 nl q 76 7 12 35 v0 G fun x2 =>
 bP (ias Q q 35 1 x2 (.int .i64 0)) fun x3 =>
 bP (ld Q q 3 x3 G) fun x4 =>
 bP (bn Q q .geq 3 (.tmp 8) (.const (.int .i64 0)) x4 (.int .i64 0)) fun x5 =>
 bS (gV x5 false v0 G) fun x6 G7 =>
 bS (gP x5 false (pNil x6) G7) fun x8 G9 =>
 bS (gP x5 false (fa Q q 76 7 12 x8) G9) fun x10 G11 =>
 bS (gP x5 false (ld Q q 35 x10 G11) G11) fun x12 G13 =>
 bS (gP x5 false (ias Q q 35 1 x12 (.int .i64 1)) G13) fun x14 G15 =>
 bS (gP x5 false (ld Q q 3 x14 G15) G15) fun x16 G17 =>
 bS (gP x5 false (bn Q q .geq 3 (.tmp 16) (.const (.int .i64 0)) x16 (.int .i64 0)) G17) fun x18 G19 =>
 bP (pickV x5 (.bool true) x18) fun x20 =>
 bS (gV x20 false v0 G19) fun x21 G22 =>
 bS (gP x20 false (pNil x21) G22) fun x23 G24 =>
 bS (gP x20 false (fa Q q 76 7 12 x23) G24) fun x25 G26 =>
 bS (gP x20 false (ld Q q 35 x25 G26) G26) fun x27 G28 =>
 bS (gP x20 false (ias Q q 35 1 x27 (.int .i64 2)) G28) fun x29 G30 =>
 bS (gP x20 false (ld Q q 3 x29 G30) G30) fun x31 G32 =>
 bS (gP x20 false (bn Q q .geq 3 (.tmp 25) (.const (.int .i64 0)) x31 (.int .i64 0)) G32) fun x33 G34 =>
 bP (pickV x20 (.bool true) x33) fun x35 =>
 some (x35,G34)
theorem f84 (h:ExLe Q e (E orc)) (v0:Value) (G:GS):Ref (s84 true e v0 G) ((E orc).cl 84 [v0] G):=cS (S:=fun q e=>s84 q e v0 G) Tryz.func84 (by unfold s84; exact Ref.gq)
def s98 (q:Bool) (e:Ex) (v0:Value) (G:GS):OG :=
 bP (es Q q false 35 (.tmp 3) (.const (.slice none 0 0)) v0 (.slice none 0 0)) fun x0 =>
 ifV x0 (
 some ((.slice none 0 0),G)) (
 bS (bs Q q 35 0 (rep z3 0) 1 [] [] G) fun x1 G2 =>
 bS (ap Q q 35 35 1 8 x1 v0 G2) fun x3 G4 =>
 some (x3,G4))
theorem f98 (h:ExLe Q e (E orc)) (v0:Value) (G:GS):Ref (s98 true e v0 G) ((E orc).cl 98 [v0] G):=cS (S:=fun q e=>s98 q e v0 G) Tryz.func98 (by unfold s98; exact Ref.gq)
def b99_0 (q:Bool) (e:Ex) (lp:LpF) (τ:Env) (G:GS):OL :=
 bV q (τ 3) fun a3_ =>
 bV q (τ 6) fun a6_ =>
 bV q (τ 7) fun a7_ =>
 bV q (τ 8) fun a8_ =>
 bP (bn Q q .lss 3 (.tmp 8) (.tmp 7) a8_ a7_) fun x0 =>
 ifV x0 (
 bP (ias Q q 38 10 a6_ a8_) fun x1 =>
 bP (lda Q q 29 10 x1 G) fun x2 =>
 bS (al Q q 29 z29 G) fun x3 G4 =>
 bP (st Q q 29 10 x3 x2 G4) fun G5 =>
 bP (fa Q q 29 2 2 x3) fun x6 =>
 bP (ld Q q 3 x6 G5) fun x7 =>
 bP (bn Q q .lss 3 (.tmp 13) (.const (.int .i64 0)) x7 (.int .i64 0)) fun x8 =>
 bS (gP x8 true (fa Q q 29 3 3 x3) G5) fun x9 G10 =>
 bS (gP x8 true (fa Q q 24 0 0 x9) G10) fun x11 G12 =>
 bS (gP x8 true (ld Q q 3 x11 G12) G12) fun x13 G14 =>
 bS (gP x8 true (bn Q q .eql 3 (.tmp 18) (.const (.int .i64 7)) x13 (.int .i64 7)) G14) fun x15 G16 =>
 bP (pickV x8 x15 (.bool false)) fun x17 =>
 ifV x17 (
 bP (bn Q q .add 3 (.tmp 21) (.const (.int .i64 1)) a3_ (.int .i64 1)) fun x18 =>
 bP (bn Q q .add 3 (.tmp 8) (.const (.int .i64 1)) a8_ (.int .i64 1)) fun x19 =>
 lp (xq q 25 τ [(8,x19),(23,x19),(3,x18),(22,x18),(21,a3_),(20,x17),(19,x15),(18,x13),(17,x11),(16,x9),(15,x8),(14,x8),(13,x7),(12,x6),(5,x3),(11,x2),(10,x1),(9,x0)] [(6,a6_),(7,a7_)]) G16) (
 bP (bn Q q .add 3 (.tmp 8) (.const (.int .i64 1)) a8_ (.int .i64 1)) fun x20 =>
 lp (xq q 25 τ [(8,x20),(23,x20),(20,x17),(19,x15),(18,x13),(17,x11),(16,x9),(15,x8),(14,x8),(13,x7),(12,x6),(5,x3),(11,x2),(10,x1),(9,x0)] [(3,a3_),(6,a6_),(7,a7_)]) G16)) (
 some ((.exit 0),xq q 25 τ [(9,x0)] [(3,a3_),(6,a6_),(7,a7_),(8,a8_)],G))
theorem l99_0 (h:ExLe Q e (E orc)):LT orc 25 (subAt [1,1,0,1,0,0] (bodyOf Tryz.f99)) (b99_0 true e):=cL fun hlp τ G=>by unfold b99_0; exact Ref.gq
def s99 (q:Bool) (e:Ex) (v0:Value) (G:GS):OG :=
 bP (ln Q q 38 v0) fun x0 =>
 bLq q e 99 0 (subAt [1,1,0,1,0,0] (bodyOf Tryz.f99)) 25 (nth undef [v0]) [(8,(.int .i64 0)),(7,x0),(6,v0),(3,(.int .i64 0)),(2,(.int .i64 0))] [] G fun e1 t2 G3 =>
 bV q (t2 3) fun t2x3_ =>
 ifE e1 (.exit 0) (
 some (t2x3_,G3)) (none)
theorem f99 (h:ExLe Q e (E orc)) (v0:Value) (G:GS):Ref (s99 true e v0 G) ((E orc).cl 99 [v0] G):=cS (S:=fun q e=>s99 q e v0 G) Tryz.func99 (by unfold s99; exact Ref.gq)
def b101_0 (q:Bool) (e:Ex) (lp:LpF) (τ:Env) (G:GS):OL :=
 bV q (τ 1) fun a1_ =>
 bV q (τ 7) fun a7_ =>
 bV q (τ 8) fun a8_ =>
 bV q (τ 9) fun a9_ =>
 bP (bn Q q .lss 3 (.tmp 9) (.tmp 8) a9_ a8_) fun x0 =>
 ifV x0 (
 bP (ias Q q 38 10 a7_ a9_) fun x1 =>
 bP (lda Q q 29 10 x1 G) fun x2 =>
 bS (al Q q 29 z29 G) fun x3 G4 =>
 bP (st Q q 29 10 x3 x2 G4) fun G5 =>
 bP (fa Q q 29 2 2 x3) fun x6 =>
 bP (ld Q q 3 x6 G5) fun x7 =>
 bP (bn Q q .geq 3 (.tmp 15) (.const (.int .i64 0)) x7 (.int .i64 0)) fun x8 =>
 bS (gV x8 true a1_ G5) fun x9 G10 =>
 bS (gV x8 true a9_ G10) fun x11 G12 =>
 bS (gP x8 true (bn Q q .shr 3 (.tmp 18) (.tmp 19) x9 x11) G12) fun x13 G14 =>
 bS (gP x8 true (bn Q q .and 3 (.tmp 20) (.const (.int .i64 1)) x13 (.int .i64 1)) G14) fun x15 G16 =>
 bS (gP x8 true (bn Q q .eql 3 (.tmp 21) (.const (.int .i64 0)) x15 (.int .i64 0)) G16) fun x17 G18 =>
 bP (pickV x8 x17 (.bool false)) fun x19 =>
 ifV x19 (
 some (.ret,xq q 25 τ [(4,(.bool false)),(23,x19),(22,x17),(21,x15),(20,x13),(19,x11),(18,x9),(17,x8),(16,x8),(15,x7),(14,x6),(5,a9_),(6,x3),(13,x2),(12,x1),(11,a9_),(10,x0)] [(1,a1_),(7,a7_),(8,a8_),(9,a9_)],G18)) (
 bP (bn Q q .add 3 (.tmp 9) (.const (.int .i64 1)) a9_ (.int .i64 1)) fun x20 =>
 lp (xq q 25 τ [(9,x20),(24,x20),(23,x19),(22,x17),(21,x15),(20,x13),(19,x11),(18,x9),(17,x8),(16,x8),(15,x7),(14,x6),(5,a9_),(6,x3),(13,x2),(12,x1),(11,a9_),(10,x0)] [(1,a1_),(7,a7_),(8,a8_)]) G18)) (
 some ((.exit 0),xq q 25 τ [(10,x0)] [(1,a1_),(7,a7_),(8,a8_),(9,a9_)],G))
theorem l101_0 (h:ExLe Q e (E orc)):LT orc 25 (subAt [1,0,1,0,0] (bodyOf Tryz.f101)) (b101_0 true e):=cL fun hlp τ G=>by unfold b101_0; exact Ref.gq
def s101 (q:Bool) (e:Ex) (v0 v1:Value) (G:GS):OG :=
 bP (ln Q q 38 v0) fun x0 =>
 bLq q e 101 0 (subAt [1,0,1,0,0] (bodyOf Tryz.f101)) 25 (nth undef [v0,v1]) [(9,(.int .i64 0)),(8,x0),(7,v0),(4,(.bool false))] [] G fun e1 t2 G3 =>
 bV q (t2 4) fun t2x4_ =>
 ifE e1 (.exit 0) (
 some ((.bool true),G3)) (ifE e1 .ret (
 some (t2x4_,G3)) (none))
theorem f101 (h:ExLe Q e (E orc)) (v0 v1:Value) (G:GS):Ref (s101 true e v0 v1 G) ((E orc).cl 101 [v0,v1] G):=cS (S:=fun q e=>s101 q e v0 v1 G) Tryz.func101 (by unfold s101; exact Ref.gq)
def b102_0 (q:Bool) (e:Ex) (lp:LpF) (τ:Env) (G:GS):OL :=
 bV q (τ 0) fun a0_ =>
 bV q (τ 1) fun a1_ =>
 bV q (τ 2) fun a2_ =>
 bV q (τ 14) fun a14_ =>
 bV q (τ 15) fun a15_ =>
 bV q (τ 16) fun a16_ =>
 bP (bn Q q .lss 3 (.tmp 16) (.tmp 15) a16_ a15_) fun x0 =>
 ifV x0 (
 bP (ias Q q 38 10 a14_ a16_) fun x1 =>
 bP (lda Q q 29 10 x1 G) fun x2 =>
 bS (al Q q 29 z29 G) fun x3 G4 =>
 bP (st Q q 29 10 x3 x2 G4) fun G5 =>
 bP (bn Q q .neq 3 (.tmp 21) (.tmp 22) a16_ a2_) fun x6 =>
 bS (gV x6 true a1_ (G5.room 18)) fun x7 _ =>
 bS (gV x6 true a16_ (G5.room 18)) fun x8 _ =>
 bS (gP x6 true (bn Q q .shr 3 (.tmp 25) (.tmp 26) x7 x8) (G5.room 18)) fun x9 _ =>
 bS (gP x6 true (bn Q q .and 3 (.tmp 27) (.const (.int .i64 1)) x9 (.int .i64 1)) (G5.room 18)) fun x10 _ =>
 bS (gP x6 true (bn Q q .eql 3 (.tmp 28) (.const (.int .i64 0)) x10 (.int .i64 0)) (G5.room 18)) fun x11 _ =>
 bP (pickV x6 x11 (.bool false)) fun x12 =>
 bS (gP x12 true (lda Q q 29 10 x3 (G5.room 18)) (G5.room 18)) fun x13 _ =>
 bS (gV x12 true a0_ (G5.room 18)) fun x14 _ =>
 bS (gV x12 true a2_ (G5.room 18)) fun x15 _ =>
 bS (gP x12 true (ias Q q 38 10 x14 x15) (G5.room 18)) fun x16 _ =>
 bS (gP x12 true (lda Q q 29 10 x16 (G5.room 18)) (G5.room 18)) fun x17 _ =>
 bS (gS x12 true (e.ev.cl 21 [x13,x17] (G5.room 18)) (G5.room 18)) fun x19 G18 =>
 bP (pickV x12 x19 (.bool false)) fun x20 =>
 ifV x20 (
 some (.ret,xq q 40 τ [(6,(.bool false)),(38,x20),(37,x19),(36,x17),(35,x16),(34,x15),(33,x14),(32,x13),(31,x12),(30,x12),(29,x11),(28,x10),(27,x9),(26,x8),(25,x7),(24,x6),(23,x6),(22,a2_),(21,a16_),(7,a16_),(8,x3),(20,x2),(19,x1),(18,a16_),(17,x0)] [(0,a0_),(1,a1_),(2,a2_),(14,a14_),(15,a15_),(16,a16_)],G18)) (
 bP (bn Q q .add 3 (.tmp 16) (.const (.int .i64 1)) a16_ (.int .i64 1)) fun x21 =>
 lp (xq q 40 τ [(16,x21),(39,x21),(38,x20),(37,x19),(36,x17),(35,x16),(34,x15),(33,x14),(32,x13),(31,x12),(30,x12),(29,x11),(28,x10),(27,x9),(26,x8),(25,x7),(24,x6),(23,x6),(22,a2_),(21,a16_),(7,a16_),(8,x3),(20,x2),(19,x1),(18,a16_),(17,x0)] [(0,a0_),(1,a1_),(2,a2_),(14,a14_),(15,a15_)]) G18)) (
 some ((.exit 0),xq q 40 τ [(17,x0)] [(0,a0_),(1,a1_),(2,a2_),(14,a14_),(15,a15_),(16,a16_)],G))
theorem l102_0 (h:ExLe Q e (E orc)):LT orc 40 (subAt [1,1,0,1,0,0] (bodyOf Tryz.f102)) (b102_0 true e):=cL fun hlp τ G=>by unfold b102_0; exact Ref.gq
def s102 (q:Bool) (e:Ex) (v0 v1 v2:Value) (G:GS):OG :=
 bP (bn Q q .shr 3 (.tmp 9) (.tmp 10) v1 v2) fun x0 =>
 bP (bn Q q .and 3 (.tmp 11) (.const (.int .i64 1)) x0 (.int .i64 1)) fun x1 =>
 bP (bn Q q .eql 3 (.tmp 12) (.const (.int .i64 1)) x1 (.int .i64 1)) fun x2 =>
 ifV x2 (
 some ((.bool false),G)) (
 bP (ln Q q 38 v0) fun x3 =>
 bLq q e 102 0 (subAt [1,1,0,1,0,0] (bodyOf Tryz.f102)) 40 (nth undef [v0,v1,v2]) [(16,(.int .i64 0)),(15,x3),(14,v0),(13,x2),(12,x1),(11,x0),(10,v2),(9,v1),(6,(.bool false))] [] G fun e4 t5 G6 =>
 bV q (t5 6) fun t5x6_ =>
 ifE e4 (.exit 0) (
 some ((.bool true),G6)) (ifE e4 .ret (
 some (t5x6_,G6)) (none)))
theorem f102 (h:ExLe Q e (E orc)) (v0 v1 v2:Value) (G:GS):Ref (s102 true e v0 v1 v2 G) ((E orc).cl 102 [v0,v1,v2] G):=cS (S:=fun q e=>s102 q e v0 v1 v2 G) Tryz.func102 (by unfold s102; exact Ref.gq)
def s111 (q:Bool) (e:Ex) (v0 v1 v2:Value) (G:GS):OG :=
 bS (bx q v0 G) fun x0 G1 =>
 bS (al Q q 4 z4 G1) fun x2 G3 =>
 bP (lda Q q 119 4 x0 G3) fun x4 =>
 bS (e.ev.cl 175 [x4,v1,v2] G3) fun x5 G6 =>
 bX (xRange e.ev x5 #[11] (subAt [1,0,1,0,0] (bodyOf Tryz.f111)) (subAt [1,0,1,0,1] (bodyOf Tryz.f111)) (lsq q 12 (nth undef [v0,v1,v2]) [(10,x5),(9,v2),(8,v1),(7,x4),(6,x2),(3,x0)]) G6) fun e7 T8 G9 =>
 bV q (nth undef T8 6) fun T8x6_ =>
 ifE e7 .normal (
 bP (st Q q 4 1 T8x6_ (.bool false) G9) fun G10 =>
 bP (ld Q q 4 T8x6_ G10) fun x11 =>
 some (x11,G10)) (ifE e7 .ret (
 bP (ld Q q 4 T8x6_ G9) fun x12 =>
 some (x12,G9)) (none))
theorem f111 (h:ExLe Q e (E orc)) (v0 v1 v2:Value) (G:GS):Ref (s111 true e v0 v1 v2 G) ((E orc).cl 111 [v0,v1,v2] G):=cS (S:=fun q e=>s111 q e v0 v1 v2 G) Tryz.func111 (by unfold s111; exact Ref.gq)
def r111_0 (q:Bool) (e:Ex) (l:Nat) (τ:Env) (u0:Value) (G:GS):OG :=
 bV q (τ 6) fun a6_ =>
 bP (G.loop l) fun r0=>if r0.st = .ready then
 bP (st Q q 4 1 a6_ (.bool true) (G.putLoop l (Lp.setSt r0 .busy))) fun G1 =>
 roundEnd l .ret G1
 else none
theorem mr111_0 {e:Ex} {E:Ev} (h:ExLe Q e E) (l:Nat) (τ:Env) (u0:Value) (G:GS):Ref (r111_0 true e l τ u0 G) (r111_0 false (Ex.of E) l τ u0 G):=by
 unfold r111_0
 repeat' (with_reducible first | exact Ref.rfl' _ | exact ROp.r | refine Ref.bP ?_ fun _=>?_ | refine Ref.bS ?_ fun _ _=>?_ | exact Ref.cl (by assumption) | refine Ref.ifV ?_ ?_ | refine LpLe.rx (by assumption) ?_ | refine Ref.xitq ?_ | exact UOk.z | refine UOk.c (by assumption) ?_ | exact Ref.nil _ | refine Ref.bVe fun _ _=>?_ | refine Ref.bLq (by assumption) ?_ fun _ _ _=>?_ | refine Ref.ifE ?_ ?_ | refine Ref.chk ?_ ?_ | refine Imp.and ?_ ?_ | refine Imp.or ?_ | exact Imp.rfl' _ | refine Imp.sameO ?_ | refine Ref.gd ?_ | exact Ref.cValue (by assumption) | refine Ref.bX ?_ fun _ _ _=>?_ | exact Ref.scQ (by assumption) | exact Ref.xRangeQ (by assumption) | exact Ref.cInvoke (by assumption) | refine Ref.rdy ?_)
theorem d111_0 {orc:FuncId → Bool} {e:Ex} (h:ExLe Q e (E orc)) (l:Nat) (T:List Value) (u0:Value) (G:GS) {st:LoopState} {pend:Option Code} (hl:G.loop l = some ⟨st,pend,T,[11],(subAt [1,0,1,0,0] (bodyOf Tryz.f111)),(subAt [1,0,1,0,1] (bodyOf Tryz.f111))⟩) (hT:T.length = 12):Ref (r111_0 true e l (nth undef T) u0 G) ((E orc).rd l [u0] G) :=
 fun r hr=>rd_sxE Q orc hl (by kernel_rfl) hT (by kernel_rfl) (mr111_0 h l _ u0 G r hr)
def s112 (q:Bool) (e:Ex) (v0 v1:Value) (G:GS):OG :=
 bS (e.ev.cl 176 [v1] G) fun x0 G1 =>
 bS (al Q q 276 z276 G1) fun x2 G3 =>
 bP (st Q q 276 16 x2 x0 G3) fun G4 =>
 bS (e.ev.cl 177 [v0] G4) fun x5 G6 =>
 bS (e.ev.cl 178 [x5] G6) fun x7 G8 =>
 bX (xRange e.ev x7 #[12] (subAt [1,1,0,1,0,0] (bodyOf Tryz.f112)) (subAt [1,1,0,1,0,1] (bodyOf Tryz.f112)) (lsq q 18 (nth undef [v0,v1]) [(11,x7),(10,x5),(9,v0),(5,x2),(8,x0),(7,v1),(4,(.slice none 0 0))]) G8) fun e9 T10 G11 =>
 bV q (nth undef T10 5) fun T10x5_ =>
 ifE e9 .normal (
 bP (lda Q q 276 16 T10x5_ G11) fun x12 =>
 bS (e.ev.cl 180 [x12,(.int .i64 1024)] G11) fun x13 G14 =>
 some (x13,G14)) (none)
theorem f112 (h:ExLe Q e (E orc)) (v0 v1:Value) (G:GS):Ref (s112 true e v0 v1 G) ((E orc).cl 112 [v0,v1] G):=cS (S:=fun q e=>s112 q e v0 v1 G) Tryz.func112 (by unfold s112; exact Ref.gq)
def r112_0 (q:Bool) (e:Ex) (l:Nat) (τ:Env) (u0:Value) (G:GS):OG :=
 bV q (τ 5) fun a5_ =>
 bP (G.loop l) fun r0=>if r0.st = .ready then
 bP (lda Q q 276 16 a5_ (G.putLoop l (Lp.setSt r0 .busy))) fun x1 =>
 bS (e.ev.cl 179 [x1,u0] (G.putLoop l (Lp.setSt r0 .busy))) fun x2 G3 =>
 bP (st Q q 276 16 a5_ x2 G3) fun G4 =>
 roundEnd l .normal G4
 else none
theorem mr112_0 {e:Ex} {E:Ev} (h:ExLe Q e E) (l:Nat) (τ:Env) (u0:Value) (G:GS):Ref (r112_0 true e l τ u0 G) (r112_0 false (Ex.of E) l τ u0 G):=by
 unfold r112_0
 repeat' (with_reducible first | exact Ref.rfl' _ | exact ROp.r | refine Ref.bP ?_ fun _=>?_ | refine Ref.bS ?_ fun _ _=>?_ | exact Ref.cl (by assumption) | refine Ref.ifV ?_ ?_ | refine LpLe.rx (by assumption) ?_ | refine Ref.xitq ?_ | exact UOk.z | refine UOk.c (by assumption) ?_ | exact Ref.nil _ | refine Ref.bVe fun _ _=>?_ | refine Ref.bLq (by assumption) ?_ fun _ _ _=>?_ | refine Ref.ifE ?_ ?_ | refine Ref.chk ?_ ?_ | refine Imp.and ?_ ?_ | refine Imp.or ?_ | exact Imp.rfl' _ | refine Imp.sameO ?_ | refine Ref.gd ?_ | exact Ref.cValue (by assumption) | refine Ref.bX ?_ fun _ _ _=>?_ | exact Ref.scQ (by assumption) | exact Ref.xRangeQ (by assumption) | exact Ref.cInvoke (by assumption) | refine Ref.rdy ?_)
theorem d112_0 {orc:FuncId → Bool} {e:Ex} (h:ExLe Q e (E orc)) (l:Nat) (T:List Value) (u0:Value) (G:GS) {st:LoopState} {pend:Option Code} (hl:G.loop l = some ⟨st,pend,T,[12],(subAt [1,1,0,1,0,0] (bodyOf Tryz.f112)),(subAt [1,1,0,1,0,1] (bodyOf Tryz.f112))⟩) (hT:T.length = 18):Ref (r112_0 true e l (nth undef T) u0 G) ((E orc).rd l [u0] G) :=
 fun r hr=>rd_sxE Q orc hl (by kernel_rfl) hT (by kernel_rfl) (mr112_0 h l _ u0 G r hr)
def jb113_0 (q:Bool) (e:Ex) (τ:Env) (G:GS):OG :=
 bV q (τ 8) fun a8_ =>
 bP (lda Q q 276 16 a8_ G) fun x12 =>
 bS (e.ev.cl 180 [x12,(.int .i64 1024)] G) fun x13 G14 =>
 some (.tuple #[x13,(.bool true)],G14)
def j113_0 (q:Bool) (e:Ex) (τ:Env) (G:GS):OG:=jb113_0 q e τ G
theorem mj113_0 {e:Ex} {E:Ev} (h:ExLe Q e E) (τ:Env) (G:GS):Ref (j113_0 true e τ G) (j113_0 false (Ex.of E) τ G):=by
 unfold j113_0 jb113_0
 exact Ref.gq
theorem mkj113_0 {e:Ex} {E:Ev} (h:ExLe Q e E) {τ:Env} {l U:List (Nat × Value)} {G:GS} (hU:UOk τ U):Ref (j113_0 true e (xq true 72 τ l U) G) (j113_0 false (Ex.of E) (xq false 72 τ l U) G):=by
 rw [xq_eq hU]
 exact mj113_0 h _ _
def sb113 (q:Bool) (e:Ex) (J0:Env → GS → OG) (v0 v1 v2:Value) (G:GS):OG :=
 bS (bx q v1 G) fun x0 G1 =>
 bS (bx q v2 G1) fun x2 G3 =>
 bS (e.ev.cl 181 [v0] G3) fun x4 G5 =>
 bP (bn Q q .neq 25 (.tmp 14) (.const (.int .i64 0)) x4 (.int .i64 0)) fun x6 =>
 ifV x6 (
 some (.tuple #[(.slice none 0 0),(.bool false)],G5)) (
 bS (e.ev.cl 177 [v0] G5) fun x7 G8 =>
 bS (al Q q 276 z276 G8) fun x9 G10 =>
 bP (st Q q 276 16 x9 x7 G10) fun G11 =>
 bP (fa Q q 24 0 0 x0) fun x15 =>
 bP (ld Q q 3 x15 G11) fun x16 =>
 bP (bn Q q .eql 3 (.tmp 19) (.const (.int .i64 8)) x16 (.int .i64 8)) fun x17 =>
 ifV x17 (
 bP (lda Q q 276 16 x9 G11) fun x18 =>
 bP (fa Q q 24 1 1 x0) fun x19 =>
 bP (ld Q q 3 x19 G11) fun x20 =>
 bS (e.ev.cl 182 [x18,x20] G11) fun x21 G22 =>
 bP (pExtract x21 0) fun x23 =>
 bP (pExtract x21 1) fun x24 =>
 bS (al Q q 27 z27 G22) fun x25 G26 =>
 bS (al Q q 276 z276 G26) fun x27 G28 =>
 bP (st Q q 27 3 x25 x23 G28) fun G29 =>
 bP (st Q q 276 16 x27 x24 G29) fun G30 =>
 bP (lda Q q 27 3 x25 G30) fun x31 =>
 bP (lda Q q 27 3 x2 G30) fun x32 =>
 bP (bn Q q .neq 27 (.tmp 29) (.tmp 30) x31 x32) fun x33 =>
 ifV x33 (
 some (.tuple #[(.slice none 0 0),(.bool false)],G30)) (
 bP (lda Q q 276 16 x27 G30) fun x34 =>
 bP (st Q q 276 16 x9 x34 G30) fun G35 =>
 J0 (xq q 72 (nth undef [v0,v1,v2]) [(32,x34),(31,x33),(30,x32),(29,x31),(10,x27),(9,x25),(28,x24),(27,x23),(22,x21),(26,x21),(25,x20),(24,x19),(23,x18),(20,x17),(21,x17),(19,x16),(18,x15),(8,x9),(17,x7),(16,v0),(15,x6),(14,x4),(13,v0),(7,(.bool false)),(6,(.slice none 0 0)),(5,x2),(4,x0)] []) G35)) (
 bP (bn Q q .eql 3 (.tmp 19) (.const (.int .i64 7)) x16 (.int .i64 7)) fun x36 =>
 ifV x36 (
 bP (lda Q q 27 3 x2 G11) fun x37 =>
 bP (bd Q q 27 z27 [(0,0,1)] [(.int .i64 7)]) fun x38 =>
 bP (bn Q q .eql 27 (.tmp 35) (.tmp 36) x37 x38) fun x39 =>
 bS (gP x39 false (lda Q q 27 3 x2 G11) G11) fun x40 G41 =>
 bS (gP x39 false (bd Q q 27 z27 [(0,0,1)] [(.int .i64 12)]) G41) fun x42 G43 =>
 bS (gP x39 false (bn Q q .eql 27 (.tmp 39) (.tmp 40) x40 x42) G43) fun x44 G45 =>
 bP (pickV x39 (.bool true) x44) fun x46 =>
 bP (fa Q q 27 1 1 x2) fun x47 =>
 bP (ld Q q 3 x47 G45) fun x48 =>
 bS (e.ev.cl 183 [x48] G45) fun x49 G50 =>
 bS (gP x49 true (lda Q q 27 3 x2 G50) G50) fun x51 G52 =>
 bS (gP x49 true (fa Q q 27 1 1 x2) G52) fun x53 G54 =>
 bS (gP x49 true (ld Q q 3 x53 G54) G54) fun x55 G56 =>
 bS (gP x49 true (bd Q q 27 z27 [(1,1,1)] [x55]) G56) fun x57 G58 =>
 bS (gP x49 true (bn Q q .eql 27 (.tmp 47) (.tmp 50) x51 x57) G58) fun x59 G60 =>
 bP (pickV x49 x59 (.bool false)) fun x61 =>
 bS (gP x61 true (lda Q q 276 16 x9 G60) G60) fun x62 G63 =>
 bS (gP x61 true (fa Q q 27 1 1 x2) G63) fun x64 G65 =>
 bS (gP x61 true (ld Q q 3 x64 G65) G65) fun x66 G67 =>
 bS (gS x61 true (e.ev.cl 184 [x62,x66] G67) G67) fun x68 G69 =>
 bP (pickV x61 x68 (.bool false)) fun x70 =>
 bP (un Q q .not x46) fun x71 =>
 bS (gV x71 true x70 G69) fun x72 G73 =>
 bS (gP x71 true (un Q q .not x72) G73) fun x74 G75 =>
 bP (pickV x71 x74 (.bool false)) fun x76 =>
 ifV x76 (
 some (.tuple #[(.slice none 0 0),(.bool false)],G75)) (
 ifV x70 (
 bP (lda Q q 276 16 x9 G75) fun x77 =>
 bP (fa Q q 27 1 1 x2) fun x78 =>
 bP (ld Q q 3 x78 G75) fun x79 =>
 bS (e.ev.cl 179 [x77,x79] G75) fun x80 G81 =>
 bP (st Q q 276 16 x9 x80 G81) fun G82 =>
 J0 (xq q 72 (nth undef [v0,v1,v2]) [(69,x80),(68,x79),(67,x78),(66,x77),(65,x70),(64,x76),(63,x74),(62,x72),(61,x71),(60,x71),(59,x46),(12,x70),(58,x70),(57,x68),(56,x66),(55,x64),(54,x62),(53,x61),(52,x61),(51,x59),(50,x57),(49,x55),(48,x53),(47,x51),(46,x49),(45,x49),(44,x48),(43,x47),(11,x46),(42,x46),(41,x44),(40,x42),(39,x40),(38,x39),(37,x39),(36,x38),(35,x37),(33,x36),(34,x36),(20,x17),(21,x17),(19,x16),(18,x15),(8,x9),(17,x7),(16,v0),(15,x6),(14,x4),(13,v0),(7,(.bool false)),(6,(.slice none 0 0)),(5,x2),(4,x0)] []) G82) (
 J0 (xq q 72 (nth undef [v0,v1,v2]) [(65,x70),(64,x76),(63,x74),(62,x72),(61,x71),(60,x71),(59,x46),(12,x70),(58,x70),(57,x68),(56,x66),(55,x64),(54,x62),(53,x61),(52,x61),(51,x59),(50,x57),(49,x55),(48,x53),(47,x51),(46,x49),(45,x49),(44,x48),(43,x47),(11,x46),(42,x46),(41,x44),(40,x42),(39,x40),(38,x39),(37,x39),(36,x38),(35,x37),(33,x36),(34,x36),(20,x17),(21,x17),(19,x16),(18,x15),(8,x9),(17,x7),(16,v0),(15,x6),(14,x4),(13,v0),(7,(.bool false)),(6,(.slice none 0 0)),(5,x2),(4,x0)] []) G75))) (
 some (.tuple #[(.slice none 0 0),(.bool false)],G11))))
def s113 (q:Bool) (e:Ex) (v0 v1 v2:Value) (G:GS):OG:=sb113 q e (j113_0 q e) v0 v1 v2 G
theorem m113 {e:Ex} {E:Ev} (h:ExLe Q e E) (v0 v1 v2:Value) (G:GS):Ref (s113 true e v0 v1 v2 G) (s113 false (Ex.of E) v0 v1 v2 G):=by
 unfold s113 sb113
 have j0:=@mkj113_0 e E h
 exact Ref.gj
def jt113 (J0:Env → GS → OG):JT (Value × GS) :=
 (.n none .e (.n none .e (.n none .e (.n (some (fun T G=>J0 (nth undef T) G)) .e .e))))
theorem jr113_0 (orc:FuncId → Bool) (J0:Env → GS → OG) (T:List Value) (G:GS):runC Q (evL Q orc) Tryz.f113.ntmps (jt113 J0) (bodyOf Tryz.f113) (retE Q Tryz.f113.results.toList) [true,true,true] (nth undef T) G = jb113_0 false (Ex.of (E orc))  (nth undef T) G:=by kernel_rfl
theorem jo113 (orc:FuncId → Bool):JOk Q orc Tryz.f113.ntmps (jt113 (j113_0 false (Ex.of (E orc))) ) (bodyOf Tryz.f113) (retE Q Tryz.f113.results.toList) :=
 jOk Q orc (l:=[([true,true,true],(fun T G=>j113_0 false (Ex.of (E orc)) (nth undef T) G))]) (by kernel_rfl) (AllE.c (fun T G=>jr113_0 orc (j113_0 false (Ex.of (E orc))) T G) (AllE.z))
theorem je113 (orc:FuncId → Bool) (J0:Env → GS → OG) (v0 v1 v2:Value) (G:GS):sxC Q (evL Q orc) Tryz.f113.ntmps (jt113 J0) (bodyOf Tryz.f113) (nth undef [v0,v1,v2]) G (retE Q Tryz.f113.results.toList) = sb113 false (Ex.of (E orc)) J0 v0 v1 v2 G:=by kernel_rfl
theorem f113 {orc:FuncId → Bool} {e:Ex} (h:ExLe Q e (E orc)) (v0 v1 v2:Value) (G:GS):Ref (s113 true e v0 v1 v2 G) ((E orc).cl 113 [v0,v1,v2] G) :=
 fun r hr=>cl_sxC Q orc (vs:=[v0,v1,v2]) G (jt113 (j113_0 false (Ex.of (E orc))) ) Tryz.func113 (by kernel_rfl) (by kernel_rfl) (by kernel_rfl) (by kernel_rfl) (by kernel_rfl) (jo113 orc) (je113 orc (j113_0 false (Ex.of (E orc))) v0 v1 v2 G) (m113 h v0 v1 v2 G r hr)
def b114_0 (q:Bool) (e:Ex) (lp:LpF) (τ:Env) (G:GS):OL :=
 bV q (τ 5) fun a5_ =>
 bV q (τ 13) fun a13_ =>
 bV q (τ 14) fun a14_ =>
 bV q (τ 15) fun a15_ =>
 bP (bn Q q .lss 3 (.tmp 15) (.tmp 14) a15_ a14_) fun x0 =>
 ifV x0 (
 bP (ias Q q 35 1 a13_ a15_) fun x1 =>
 bP (ld Q q 3 x1 G) fun x2 =>
 bP (bd Q q 27 z27 [(1,1,1)] [x2]) fun x3 =>
 bS (bs Q q 180 1 (rep z27 1) 3 [(0,0,3)] [x3] G) fun x4 G5 =>
 bS (ap Q q 180 180 3 24 a5_ x4 G5) fun x6 G7 =>
 bP (bn Q q .add 3 (.tmp 15) (.const (.int .i64 1)) a15_ (.int .i64 1)) fun x8 =>
 lp (xq q 26 τ [(15,x8),(24,x8),(5,x6),(23,x6),(22,x4),(21,x3),(20,x2),(19,a5_),(7,x2),(18,x2),(17,x1),(16,x0)] [(13,a13_),(14,a14_)]) G7) (
 some ((.exit 0),xq q 26 τ [(16,x0)] [(5,a5_),(13,a13_),(14,a14_),(15,a15_)],G))
theorem l114_0 (h:ExLe Q e (E orc)):LT orc 26 (subAt [1,1,1,0,1,0,0] (bodyOf Tryz.f114)) (b114_0 true e):=cL fun hlp τ G=>by unfold b114_0; exact Ref.gq
def s114 (q:Bool) (e:Ex) (v0 v1:Value) (G:GS):OG :=
 bS (bx q v1 G) fun x0 G1 =>
 bP (fa Q q 24 0 0 x0) fun x2 =>
 bP (ld Q q 3 x2 G1) fun x3 =>
 bP (bn Q q .neq 3 (.tmp 9) (.const (.int .i64 7)) x3 (.int .i64 7)) fun x4 =>
 ifV x4 (
 bP (bd Q q 27 z27 [] []) fun x5 =>
 bS (bs Q q 180 1 (rep z27 1) 3 [(0,0,3)] [x5] G1) fun x6 G7 =>
 some (x6,G7)) (
 bP (ln Q q 35 v0) fun x8 =>
 bLq q e 114 0 (subAt [1,1,1,0,1,0,0] (bodyOf Tryz.f114)) 26 (nth undef [v0,v1]) [(15,(.int .i64 0)),(14,x8),(13,v0),(5,(.slice none 0 0)),(10,x4),(9,x3),(8,x2),(4,(.slice none 0 0)),(3,x0)] [] G1 fun e9 t10 G11 =>
 bV q (t10 5) fun t10x5_ =>
 ifE e9 (.exit 0) (
 some (t10x5_,G11)) (none))
theorem f114 (h:ExLe Q e (E orc)) (v0 v1:Value) (G:GS):Ref (s114 true e v0 v1 G) ((E orc).cl 114 [v0,v1] G):=cS (S:=fun q e=>s114 q e v0 v1 G) Tryz.func114 (by unfold s114; exact Ref.gq)
def s121 (q:Bool) (e:Ex) (v0 v1 v2:Value) (G:GS):OG :=
 bS (bx q v0 G) fun x0 G1 =>
 bS (bx q v2 G1) fun x2 G3 =>
 fl q 29 2 2 3 x2 G3 fun x5 =>
 bP (bn Q q .geq 3 (.tmp 8) (.const (.int .i64 0)) x5 (.int .i64 0)) fun x6 =>
 ifV x6 (
 bP (fa Q q 29 4 7 x2) fun x7 =>
 bP (lda Q q 27 3 x7 G3) fun x8 =>
 bS (bs Q q 180 1 (rep z27 1) 3 [(0,0,3)] [x8] G3) fun x9 G10 =>
 some (x9,G10)) (
 fl q 119 2 2 116 x0 G3 fun x12 =>
 bP (fa Q q 29 3 3 x2) fun x13 =>
 bP (lda Q q 24 4 x13 G3) fun x14 =>
 bS (cValue e.ev x12 [v1,x14] G3) fun x15 G16 =>
 some (x15,G16))
theorem f121 (h:ExLe Q e (E orc)) (v0 v1 v2:Value) (G:GS):Ref (s121 true e v0 v1 v2 G) ((E orc).cl 121 [v0,v1,v2] G):=cS (S:=fun q e=>s121 q e v0 v1 v2 G) Tryz.func121 (by unfold s121; exact Ref.gq)
def s125 (q:Bool) (e:Ex) (v0:Value) (G:GS):OG :=
 bS (bx q v0 G) fun x0 G1 =>
 bP (fa Q q 202 2 1025 x0) fun x2 =>
 bP (ld Q q 3 x2 G1) fun x3 =>
 bLq q e 125 0 (subAt [1,1,0,1,0,0] (bodyOf Tryz.f125)) 23 (nth undef [v0]) [(7,(.int .i64 0)),(6,x3),(5,x2),(3,(.slice none 0 0)),(2,(.slice none 0 0)),(1,x0)] [] G1 fun e4 t5 G6 =>
 bV q (t5 3) fun t5x3_ =>
 ifE e4 (.exit 0) (
 some (t5x3_,G6)) (none)
theorem f125 (h:ExLe Q e (E orc)) (v0:Value) (G:GS):Ref (s125 true e v0 G) ((E orc).cl 125 [v0] G):=cS (S:=fun q e=>s125 q e v0 G) Tryz.func125 (by unfold s125; exact Ref.gq)
def s126 (q:Bool) (e:Ex) (v0:Value) (G:GS):OG :=
 bP (ln Q q 107 v0) fun x0 =>
 bP (bn Q q .gtr 3 (.tmp 5) (.const (.int .i64 1024)) x0 (.int .i64 1024)) fun x1 =>
 ifV x1 (
 some ((.int .i64 7),G)) (
 bP (ln Q q 107 v0) fun x2 =>
 bLq q e 126 0 (subAt [1,1,0,1,0,0] (bodyOf Tryz.f126)) 29 (nth undef [v0]) [(9,(.int .i64 0)),(8,x2),(7,v0),(6,x1),(5,x0),(4,v0),(2,(.int .i64 0))] [] G fun e3 t4 G5 =>
 bV q (t4 2) fun t4x2_ =>
 ifE e3 (.exit 0) (
 some ((.int .i64 0),G5)) (ifE e3 .ret (
 some (t4x2_,G5)) (none)))
theorem f126 (h:ExLe Q e (E orc)) (v0:Value) (G:GS):Ref (s126 true e v0 G) ((E orc).cl 126 [v0] G):=cS (S:=fun q e=>s126 q e v0 G) Tryz.func126 (by unfold s126; exact Ref.gq)
def s129 (q:Bool) (e:Ex) (v0:Value) (G:GS):OG :=
 bP (es Q q false 107 (.tmp 3) (.const (.slice none 0 0)) v0 (.slice none 0 0)) fun x0 =>
 ifV x0 (
 some ((.slice none 0 0),G)) (
 bS (bs Q q 107 0 (rep z184 0) 2 [] [] G) fun x1 G2 =>
 bS (ap Q q 107 107 2 16 x1 v0 G2) fun x3 G4 =>
 some (x3,G4))
theorem f129 (h:ExLe Q e (E orc)) (v0:Value) (G:GS):Ref (s129 true e v0 G) ((E orc).cl 129 [v0] G):=cS (S:=fun q e=>s129 q e v0 G) Tryz.func129 (by unfold s129; exact Ref.gq)
def s136 (q:Bool) (e:Ex) (v0 v1:Value) (G:GS):OG :=
 bP (ep Q q false 58 (.tmp 5) (.const (.pointer none)) v0 (.pointer none)) fun x0 =>
 bS (gV x0 false v0 G) fun x1 G2 =>
 bS (gP x0 false (pNil x1) G2) fun x3 G4 =>
 bS (gP x0 false (fa Q q 241 0 0 x3) G4) fun x5 G6 =>
 bS (gP x0 false (ld Q q 236 x5 G6) G6) fun x7 G8 =>
 bS (gP x0 false (ep Q q false 236 (.tmp 11) (.const (.pointer none)) x7 (.pointer none)) G8) fun x9 G10 =>
 bP (pickV x0 (.bool true) x9) fun x11 =>
 bS (gV x11 false v1 G10) fun x12 G13 =>
 bS (gP x11 false (bn Q q .lss 3 (.tmp 15) (.const (.int .i64 0)) x12 (.int .i64 0)) G13) fun x14 G15 =>
 bP (pickV x11 (.bool true) x14) fun x16 =>
 bS (gV x16 false v1 G15) fun x17 G18 =>
 bS (gV x16 false v0 G18) fun x19 G20 =>
 bS (gP x16 false (pNil x19) G20) fun x21 G22 =>
 bS (gP x16 false (fa Q q 241 1 1 x21) G22) fun x23 G24 =>
 bS (gP x16 false (ld Q q 3 x23 G24) G24) fun x25 G26 =>
 bS (gP x16 false (bn Q q .geq 3 (.tmp 19) (.tmp 23) x17 x25) G26) fun x27 G28 =>
 bP (pickV x16 (.bool true) x27) fun x29 =>
 ifV x29 (
 some ((.pointer none),G28)) (
 nl q 241 0 0 236 v0 G28 fun x32 =>
 bP (pNil x32) fun x33 =>
 bP (iaa Q q 239 4096 1 x33 v1) fun x34 =>
 some (x34,G28))
theorem f136 (h:ExLe Q e (E orc)) (v0 v1:Value) (G:GS):Ref (s136 true e v0 v1 G) ((E orc).cl 136 [v0,v1] G):=cS (S:=fun q e=>s136 q e v0 v1 G) Tryz.func136 (by unfold s136; exact Ref.gq)
def jb137_0 (q:Bool) (e:Ex) (τ:Env) (G:GS):OG :=
 bV q (τ 0) fun a0_ =>
 bV q (τ 10) fun a10_ =>
 nf q 241 2 2 a0_ fun x29 =>
 bP (lda Q q 225 5 x29 G) fun x30 =>
 bP (st Q q 225 5 a10_ x30 G) fun G31 =>
 bP (lda Q q 225 5 a10_ G31) fun x32 =>
 some (x32,G31)
def j137_0 (q:Bool) (e:Ex) (τ:Env) (G:GS):OG:=jb137_0 q e τ G
theorem mj137_0 {e:Ex} {E:Ev} (h:ExLe Q e E) (τ:Env) (G:GS):Ref (j137_0 true e τ G) (j137_0 false (Ex.of E) τ G):=by
 unfold j137_0 jb137_0
 exact Ref.gq
theorem mkj137_0 {e:Ex} {E:Ev} (h:ExLe Q e E) {τ:Env} {l U:List (Nat × Value)} {G:GS} (hU:UOk τ U):Ref (j137_0 true e (xq true 67 τ l U) G) (j137_0 false (Ex.of E) (xq false 67 τ l U) G):=by
 rw [xq_eq hU]
 exact mj137_0 h _ _
def sb137 (q:Bool) (e:Ex) (J0:Env → GS → OG) (v0 v1 v2 v3 v4:Value) (G:GS):OG :=
 bS (al Q q 225 z225 G) fun x0 G1 =>
 bP (ep Q q false 58 (.tmp 13) (.const (.pointer none)) v0 (.pointer none)) fun x2 =>
 bS (gV x2 false v0 G1) fun x3 G4 =>
 bS (gP x2 false (pNil x3) G4) fun x5 G6 =>
 bS (gP x2 false (fa Q q 241 0 0 x5) G6) fun x7 G8 =>
 bS (gP x2 false (ld Q q 236 x7 G8) G8) fun x9 G10 =>
 bS (gP x2 false (ep Q q false 236 (.tmp 19) (.const (.pointer none)) x9 (.pointer none)) G10) fun x11 G12 =>
 bP (pickV x2 (.bool true) x11) fun x13 =>
 ifV x13 (
 bP (bd Q q 225 z225 [] []) fun x14 =>
 bP (st Q q 225 5 x0 x14 G12) fun G15 =>
 bP (lda Q q 225 5 x0 G15) fun x16 =>
 some (x16,G15)) (
 bP (pNil v0) fun x17 =>
 bP (fa Q q 241 3 7 x17) fun x18 =>
 bP (ld Q q 3 x18 G12) fun x19 =>
 bP (bn Q q .add 3 (.tmp 26) (.const (.int .i64 1)) x19 (.int .i64 1)) fun x20 =>
 bP (pNil v0) fun x21 =>
 bP (fa Q q 241 3 7 x21) fun x22 =>
 bP (st Q q 3 1 x22 x20 G12) fun G23 =>
 bP (bd Q q 225 z225 [(0,0,1),(1,1,1)] [v1,v2]) fun x24 =>
 bP (pNil v0) fun x25 =>
 bP (fa Q q 241 2 2 x25) fun x26 =>
 bP (st Q q 225 5 x26 x24 G23) fun G27 =>
 bS (e.ev.cl 198 [v3] G27) fun x33 G34 =>
 ifV x33 (
 bS (cValue e.ev v4 [] G34) fun x35 G36 =>
 bP (pExtract x35 0) fun x37 =>
 bP (pExtract x35 1) fun x38 =>
 bP (pNil v3) fun x39 =>
 bP (ld Q q 237 x39 G36) fun x40 =>
 bP (pNil v0) fun x41 =>
 bP (fa Q q 241 2 2 x41) fun x42 =>
 bP (fa Q q 225 2 2 x42) fun x43 =>
 bP (st Q q 22 1 x43 x40 G36) fun G44 =>
 bP (pNil v0) fun x45 =>
 bP (fa Q q 241 2 2 x45) fun x46 =>
 bP (fa Q q 225 3 3 x46) fun x47 =>
 bP (st Q q 22 1 x47 x37 G44) fun G48 =>
 bP (pNil v0) fun x49 =>
 bP (fa Q q 241 2 2 x49) fun x50 =>
 bP (fa Q q 225 4 4 x50) fun x51 =>
 bP (st Q q 4 1 x51 x38 G48) fun G52 =>
 bP (pNil v3) fun x53 =>
 bP (st Q q 237 1 x53 x37 G52) fun G54 =>
 J0 (xq q 67 (nth undef [v0,v1,v2,v3,v4]) [(62,x53),(61,x37),(60,v3),(59,x51),(58,x50),(57,x49),(56,x47),(55,x46),(54,x45),(53,x43),(52,x42),(51,x41),(50,x38),(49,x37),(48,x40),(47,x39),(46,v3),(45,v0),(44,v0),(43,v0),(12,x38),(11,x37),(42,x38),(41,x37),(38,x35),(40,x35),(39,v4),(37,x33),(36,v3),(35,x26),(34,x25),(33,x24),(32,v2),(31,v1),(30,v0),(29,x22),(28,x21),(27,x20),(26,x19),(25,x18),(24,x17),(23,v0),(21,x13),(20,x11),(19,x9),(18,x7),(17,x5),(16,x3),(15,x2),(14,x2),(13,v0),(10,x0)] []) G54) (
 J0 (xq q 67 (nth undef [v0,v1,v2,v3,v4]) [(37,x33),(36,v3),(35,x26),(34,x25),(33,x24),(32,v2),(31,v1),(30,v0),(29,x22),(28,x21),(27,x20),(26,x19),(25,x18),(24,x17),(23,v0),(21,x13),(20,x11),(19,x9),(18,x7),(17,x5),(16,x3),(15,x2),(14,x2),(13,v0),(10,x0)] []) G34))
def s137 (q:Bool) (e:Ex) (v0 v1 v2 v3 v4:Value) (G:GS):OG:=sb137 q e (j137_0 q e) v0 v1 v2 v3 v4 G
theorem m137 {e:Ex} {E:Ev} (h:ExLe Q e E) (v0 v1 v2 v3 v4:Value) (G:GS):Ref (s137 true e v0 v1 v2 v3 v4 G) (s137 false (Ex.of E) v0 v1 v2 v3 v4 G):=by
 unfold s137 sb137
 have j0:=@mkj137_0 e E h
 exact Ref.gj
def jt137 (J0:Env → GS → OG):JT (Value × GS) :=
 (.n none .e (.n none .e (.n none .e (.n none .e (.n (some (fun T G=>J0 (nth undef T) G)) .e .e)))))
theorem jr137_0 (orc:FuncId → Bool) (J0:Env → GS → OG) (T:List Value) (G:GS):runC Q (evL Q orc) Tryz.f137.ntmps (jt137 J0) (bodyOf Tryz.f137) (retE Q Tryz.f137.results.toList) [true,true,true,true] (nth undef T) G = jb137_0 false (Ex.of (E orc))  (nth undef T) G:=by kernel_rfl
theorem jo137 (orc:FuncId → Bool):JOk Q orc Tryz.f137.ntmps (jt137 (j137_0 false (Ex.of (E orc))) ) (bodyOf Tryz.f137) (retE Q Tryz.f137.results.toList) :=
 jOk Q orc (l:=[([true,true,true,true],(fun T G=>j137_0 false (Ex.of (E orc)) (nth undef T) G))]) (by kernel_rfl) (AllE.c (fun T G=>jr137_0 orc (j137_0 false (Ex.of (E orc))) T G) (AllE.z))
theorem je137 (orc:FuncId → Bool) (J0:Env → GS → OG) (v0 v1 v2 v3 v4:Value) (G:GS):sxC Q (evL Q orc) Tryz.f137.ntmps (jt137 J0) (bodyOf Tryz.f137) (nth undef [v0,v1,v2,v3,v4]) G (retE Q Tryz.f137.results.toList) = sb137 false (Ex.of (E orc)) J0 v0 v1 v2 v3 v4 G:=by kernel_rfl
theorem f137 {orc:FuncId → Bool} {e:Ex} (h:ExLe Q e (E orc)) (v0 v1 v2 v3 v4:Value) (G:GS):Ref (s137 true e v0 v1 v2 v3 v4 G) ((E orc).cl 137 [v0,v1,v2,v3,v4] G) :=
 fun r hr=>cl_sxC Q orc (vs:=[v0,v1,v2,v3,v4]) G (jt137 (j137_0 false (Ex.of (E orc))) ) Tryz.func137 (by kernel_rfl) (by kernel_rfl) (by kernel_rfl) (by kernel_rfl) (by kernel_rfl) (jo137 orc) (je137 orc (j137_0 false (Ex.of (E orc))) v0 v1 v2 v3 v4 G) (m137 h v0 v1 v2 v3 v4 G r hr)
def s138 (q:Bool) (e:Ex) (v0:Value) (G:GS):OG :=
 bS (bx q v0 G) fun x0 G1 =>
 fl q 223 0 0 220 x0 G1 fun x3 =>
 bP (pNil x3) fun x4 =>
 bP (ld Q q 237 x4 G1) fun x5 =>
 some (.tuple #[x5,(.bool false)],G1)
theorem f138 (h:ExLe Q e (E orc)) (v0:Value) (G:GS):Ref (s138 true e v0 G) ((E orc).cl 138 [v0] G):=cS (S:=fun q e=>s138 q e v0 G) Tryz.func138 (by unfold s138; exact Ref.gq)
def s150 (q:Bool) (e:Ex) (v0 v1 v2:Value) (G:GS):OG :=
 bS (e.ev.cl 136 [v0,v1] G) fun x0 G1 =>
 bP (bd Q q 223 z223 [(0,0,1),(1,1,1)] [x0,v2]) fun x2 =>
 bS (al Q q 223 z223 G1) fun x3 G4 =>
 bP (st Q q 223 3 x3 x2 G4) fun G5 =>
 fl q 223 0 0 220 x3 G5 fun x7 =>
 bP (lda Q q 223 3 x3 G5) fun x8 =>
 bS (e.ev.cl 137 [v0,(.int .i64 2),v1,x7,(.func (.func 203) #[x8] #[])] G5) fun x9 G10 =>
 some (.tuple #[],G10)
theorem f150 (h:ExLe Q e (E orc)) (v0 v1 v2:Value) (G:GS):Ref (s150 true e v0 v1 v2 G) ((E orc).cl 150 [v0,v1,v2] G):=cS (S:=fun q e=>s150 q e v0 v1 v2 G) Tryz.func150 (by unfold s150; exact Ref.gq)
def s153 (q:Bool) (e:Ex) (v0 v1:Value) (G:GS):OG :=
 bS (bx q v0 G) fun x0 G1 =>
 bP (lda Q q 69 3 x0 G1) fun x2 =>
 bP (bd Q q 300 z300 [(0,0,3),(2,4,1),(4,6,1)] [x2,v1,(.bool true)]) fun x3 =>
 bP (bd Q q 303 z303 [(0,0,9),(1,9,1)] [x3,(.func (.func 208) #[] #[])]) fun x4 =>
 bS (bx q x4 G1) fun x5 G6 =>
 bP (bn Q q .lss 3 (.tmp 11) (.const (.int .i64 0)) v1 (.int .i64 0)) fun x7 =>
 bS (gV x7 false v1 G6) fun x8 G9 =>
 bS (gP x7 false (fa Q q 69 2 2 x0) G9) fun x10 G11 =>
 bS (gP x7 false (ld Q q 3 x10 G11) G11) fun x12 G13 =>
 bS (gP x7 false (bn Q q .geq 3 (.tmp 14) (.tmp 16) x8 x12) G13) fun x14 G15 =>
 bP (pickV x7 (.bool true) x14) fun x16 =>
 ifV x16 (
 nf q 303 0 0 x5 fun x18 =>
 bS (e.ev.cl 209 [x18,(.int .i64 3)] G15) fun x19 G20 =>
 some (x5,G20)) (
 some (x5,G15))
theorem f153 (h:ExLe Q e (E orc)) (v0 v1:Value) (G:GS):Ref (s153 true e v0 v1 G) ((E orc).cl 153 [v0,v1] G):=cS (S:=fun q e=>s153 q e v0 v1 G) Tryz.func153 (by unfold s153; exact Ref.gq)
def s154 (q:Bool) (e:Ex) (v0 v1:Value) (G:GS):OG :=
 nf q 247 1 1 v0 fun x1 =>
 fl q 71 1 3 3 x1 (G.room 16) fun x3 =>
 nl q 247 4 9 3 v0 (G.room 16) fun x6 =>
 bP (bn Q q .add 3 (.tmp 10) (.tmp 14) x3 x6) fun x7 =>
 bS (e.ev.cl 59 [v1,x7] (G.room 16)) fun x9 G8 =>
 nf q 247 5 10 v0 fun x11 =>
 bP (st Q q 22 1 x11 x9 G8) fun G12 =>
 nf q 247 3 8 v0 fun x14 =>
 bP (st Q q 245 1 x14 (.func (.func 210) #[] #[]) G12) fun G15 =>
 nl q 247 5 10 22 v0 (G15.room 11) fun x18 =>
 bS (e.ev.cl 211 [x18] (G15.room 11)) fun x20 G19 =>
 nf q 247 1 1 v0 fun x22 =>
 bP (fa Q q 71 3 5 x22) fun x23 =>
 bP (ld Q q 3 x23 G19) fun x24 =>
 chk ((sameO (ld Q q 3 x23 (G15.room 11)) x24 && true)) <|
 bP (bn Q q .geq 3 (.tmp 26) (.tmp 31) x20 x24) fun x25 =>
 ifV x25 (
 nf q 247 3 8 v0 fun x27 =>
 bP (st Q q 245 1 x27 (.func (.func 212) #[] #[]) G19) fun G28 =>
 some (.tuple #[],G28)) (
 some (.tuple #[],G19))
theorem f154 (h:ExLe Q e (E orc)) (v0 v1:Value) (G:GS):Ref (s154 true e v0 v1 G) ((E orc).cl 154 [v0,v1] G):=cS (S:=fun q e=>s154 q e v0 v1 G) Tryz.func154 (by unfold s154; exact Ref.gq)
def s155 (q:Bool) (e:Ex) (v0:Value) (G:GS):OG :=
 bS (bx q v0 G) fun x0 G1 =>
 bP (fa Q q 71 0 0 x0) fun x2 =>
 bP (lda Q q 69 3 x2 (G1.room 7)) fun x3 =>
 bS (e.ev.cl 213 [x3] (G1.room 7)) fun x5 G4 =>
 bP (lda Q q 71 6 x0 G4) fun x6 =>
 chk ((sameO (lda Q q 71 6 x0 (G1.room 7)) x6 && true)) <|
 bP (bd Q q 309 z309 [(0,0,1),(1,1,6),(2,7,1),(3,8,1)] [x5,x6,(.bool true),(.func (.func 214) #[] #[])]) fun x7 =>
 bS (bx q x7 (G4.at' (G1.nx + 5))) fun x8 G9 =>
 some (x8,(G9.back G4))
theorem f155 (h:ExLe Q e (E orc)) (v0:Value) (G:GS):Ref (s155 true e v0 G) ((E orc).cl 155 [v0] G):=cS (S:=fun q e=>s155 q e v0 G) Tryz.func155 (by unfold s155; exact Ref.gq)
def s156 (q:Bool) (e:Ex) (v0:Value) (G:GS):OG :=
 bP (ep Q q false 249 (.tmp 5) (.const (.pointer none)) v0 (.pointer none)) fun x0 =>
 bS (gV x0 false v0 G) fun x1 G2 =>
 bS (gP x0 false (pNil x1) G2) fun x3 G4 =>
 bS (gP x0 false (fa Q q 309 2 7 x3) G4) fun x5 G6 =>
 bS (gP x0 false (ld Q q 4 x5 G6) G6) fun x7 G8 =>
 bS (gP x0 false (un Q q .not x7) G8) fun x9 G10 =>
 bP (pickV x0 (.bool true) x9) fun x11 =>
 ifV x11 (
 some (.tuple #[(.int .u64 0),(.int .i64 1)],G10)) (
 nl q 309 3 8 307 v0 G10 fun x14 =>
 bP (ef Q q true 307 (.tmp 18) (.const .nilFunc) x14 .nilFunc) fun x15 =>
 ifV x15 (
 some (.tuple #[(.int .u64 0),(.int .i64 14)],G10)) (
 nl q 309 5 10 22 v0 (G10.room 10) fun x18 =>
 nl q 309 6 11 25 v0 (G10.room 10) fun x21 =>
 some (.tuple #[x18,x21],(G10.room 10))))
theorem f156 (h:ExLe Q e (E orc)) (v0:Value) (G:GS):Ref (s156 true e v0 G) ((E orc).cl 156 [v0] G):=cS (S:=fun q e=>s156 q e v0 G) Tryz.func156 (by unfold s156; exact Ref.gq)
def s161 (q:Bool) (e:Ex) (v0:Value) (G:GS):OG :=
 bS (bx q v0 G) fun x0 G1 =>
 bP (fa Q q 71 0 0 x0) fun x2 =>
 fl q 69 2 2 3 x2 G1 fun x4 =>
 bP (bn Q q .geq 3 (.tmp 5) (.const (.int .i64 1)) x4 (.int .i64 1)) fun x5 =>
 bS (gP x5 true (fa Q q 71 0 0 x0) G1) fun x6 G7 =>
 bS (gP x5 true (fa Q q 69 2 2 x6) G7) fun x8 G9 =>
 bS (gP x5 true (ld Q q 3 x8 G9) G9) fun x10 G11 =>
 bS (gP x5 true (bn Q q .leq 3 (.tmp 10) (.const (.int .i64 4096)) x10 (.int .i64 4096)) G11) fun x12 G13 =>
 bP (pickV x5 x12 (.bool false)) fun x14 =>
 some (x14,G13)
theorem f161 (h:ExLe Q e (E orc)) (v0:Value) (G:GS):Ref (s161 true e v0 G) ((E orc).cl 161 [v0] G):=cS (S:=fun q e=>s161 q e v0 G) Tryz.func161 (by unfold s161; exact Ref.gq)
def jbl162_0_0 (q:Bool) (e:Ex) (lp:LpF) (τ:Env) (G:GS):OL :=
 bV q (τ 1) fun a1_ =>
 bV q (τ 2) fun a2_ =>
 bV q (τ 4) fun a4_ =>
 bV q (τ 5) fun a5_ =>
 bV q (τ 15) fun a15_ =>
 bV q (τ 16) fun a16_ =>
 bP (fa Q q 69 1 1 a2_) fun x2 =>
 bP (ld Q q 3 x2 (G.room 8)) fun x3 =>
 bP (bn Q q .add 3 (.tmp 27) (.tmp 28) x3 a4_) fun x4 =>
 bS (e.ev.cl 217 [a5_] (G.room 8)) fun x6 G5 =>
 chk ((sameO (ld Q q 3 x2 G5) x3 && true)) <|
 bS (e.ev.cl 150 [a1_,x4,x6] G5) fun x8 G7 =>
 bP (bn Q q .add 3 (.tmp 16) (.const (.int .i64 1)) a16_ (.int .i64 1)) fun x9 =>
 lp (xq q 34 τ [(16,x9),(33,x9),(32,x8),(31,x6),(30,a5_),(29,x4),(28,a4_),(27,x3),(26,x2),(25,a1_)] [(1,a1_),(2,a2_),(4,a4_),(5,a5_),(15,a15_)]) G7
def jl162_0_0 (q:Bool) (e:Ex) (lp:LpF) (τ:Env) (G:GS):OL:=jbl162_0_0 q e lp τ G
theorem mjl162_0_0 {e:Ex} {E:Ev} (h:ExLe Q e E) {lp lp':LpF} (hlp:LpLe lp lp') (τ:Env) (G:GS):Ref (jl162_0_0 true e lp τ G) (jl162_0_0 false (Ex.of E) lp' τ G):=by
 unfold jl162_0_0 jbl162_0_0
 exact Ref.gq
theorem mkjl162_0_0 {e:Ex} {E:Ev} (h:ExLe Q e E) {lp lp':LpF} (hlp:LpLe lp lp') {τ:Env} {l U:List (Nat × Value)} {G:GS} (hU:UOk τ U):Ref (jl162_0_0 true e lp (xq true 34 τ l U) G) (jl162_0_0 false (Ex.of E) lp' (xq false 34 τ l U) G):=by
 rw [xq_eq hU]
 exact mjl162_0_0 h hlp _ _
def bb162_0 (q:Bool) (e:Ex) (lp:LpF) (J0:LpF) (τ:Env) (G:GS):OL :=
 bV q (τ 1) fun a1_ =>
 bV q (τ 2) fun a2_ =>
 bV q (τ 4) fun a4_ =>
 bV q (τ 5) fun a5_ =>
 bV q (τ 15) fun a15_ =>
 bV q (τ 16) fun a16_ =>
 bP (bn Q q .lss 3 (.tmp 16) (.tmp 15) a16_ a15_) fun x0 =>
 ifV x0 (
 bP (bn Q q .add 3 (.tmp 19) (.const (.int .i64 1)) a16_ (.int .i64 1)) fun x1 =>
 bP (fa Q q 69 2 2 a2_) fun x10 =>
 bP (ld Q q 3 x10 G) fun x11 =>
 bP (bn Q q .eql 3 (.tmp 21) (.tmp 23) x1 x11) fun x12 =>
 ifV x12 (
 J0 (xq q 34 τ [(5,(.int .i64 (-1))),(24,x12),(23,x11),(22,x10),(21,x1),(5,x1),(20,x1),(19,a16_),(4,a16_),(18,a16_),(17,x0)] [(1,a1_),(2,a2_),(15,a15_),(16,a16_)]) G) (
 J0 (xq q 34 τ [(24,x12),(23,x11),(22,x10),(21,x1),(5,x1),(20,x1),(19,a16_),(4,a16_),(18,a16_),(17,x0)] [(1,a1_),(2,a2_),(15,a15_),(16,a16_)]) G)) (
 some ((.exit 0),xq q 34 τ [(17,x0)] [(1,a1_),(2,a2_),(4,a4_),(5,a5_),(15,a15_),(16,a16_)],G))
def b162_0 (q:Bool) (e:Ex) (lp:LpF) (τ:Env) (G:GS):OL:=bb162_0 q e lp (jl162_0_0 q e lp) τ G
theorem mb162_0 {e:Ex} {E:Ev} (h:ExLe Q e E) {lp lp':LpF} (hlp:LpLe lp lp') (τ:Env) (G:GS):Ref (b162_0 true e lp τ G) (b162_0 false (Ex.of E) lp' τ G):=by
 unfold b162_0 bb162_0
 have j0:=@mkjl162_0_0 e E h lp lp' hlp
 exact Ref.gj
def jtl162_0 (J0:LpF):JT (Exit × Env × GS) :=
 (.n none .e (.n none .e (.n none (.n none (.n none .e (.n none .e (.n (some (fun T G=>J0 (nth undef T) G)) .e .e))) .e) .e)))
theorem jrl162_0_0 (orc:FuncId → Bool) (J0:LpF) (T:List Value) (G:GS):runC Q (evL Q orc) 34 (jtl162_0 J0) (subAt [1,1,1,1,0,0] (bodyOf Tryz.f162)) (seqXE (fun τ G'=>mapE ((E orc).lp (subAt [1,1,1,1,0,0] (bodyOf Tryz.f162)) (lst 34 (nth undef (lst 34 τ))) G')) fun e τ G'=>some (e,nth undef (lst 34 τ),G')) [true,true,false,false,true,true] (nth undef T) G = jbl162_0_0 false (Ex.of (E orc)) (fun τ G=>mapE ((E orc).lp (subAt [1,1,1,1,0,0] (bodyOf Tryz.f162)) (lst 34 τ) G))  (nth undef T) G:=by kernel_rfl
theorem jol162_0 (orc:FuncId → Bool):JOk Q orc 34 (jtl162_0 (jl162_0_0 false (Ex.of (E orc)) (fun τ G=>mapE ((E orc).lp (subAt [1,1,1,1,0,0] (bodyOf Tryz.f162)) (lst 34 τ) G))) ) (subAt [1,1,1,1,0,0] (bodyOf Tryz.f162)) (seqXE (fun τ G'=>mapE ((E orc).lp (subAt [1,1,1,1,0,0] (bodyOf Tryz.f162)) (lst 34 (nth undef (lst 34 τ))) G')) fun e τ G'=>some (e,nth undef (lst 34 τ),G')) :=
 jOk Q orc (l:=[([true,true,false,false,true,true],(fun T G=>jl162_0_0 false (Ex.of (E orc)) (fun τ G=>mapE ((E orc).lp (subAt [1,1,1,1,0,0] (bodyOf Tryz.f162)) (lst 34 τ) G)) (nth undef T) G))]) (by kernel_rfl) (AllE.c (fun T G=>jrl162_0_0 orc (jl162_0_0 false (Ex.of (E orc)) (fun τ G=>mapE ((E orc).lp (subAt [1,1,1,1,0,0] (bodyOf Tryz.f162)) (lst 34 τ) G))) T G) (AllE.z))
theorem jel162_0 (orc:FuncId → Bool) (J0:LpF) (T:List Value) (G:GS):sxC Q (evL Q orc) 34 (jtl162_0 J0) (subAt [1,1,1,1,0,0] (bodyOf Tryz.f162)) (nth undef T) G (seqXE (fun τ G'=>mapE ((E orc).lp (subAt [1,1,1,1,0,0] (bodyOf Tryz.f162)) (lst 34 (nth undef (lst 34 τ))) G')) fun e τ G'=>some (e,nth undef (lst 34 τ),G')) = bb162_0 false (Ex.of (E orc)) (fun τ G=>mapE ((E orc).lp (subAt [1,1,1,1,0,0] (bodyOf Tryz.f162)) (lst 34 τ) G)) J0 (nth undef T) G:=by kernel_rfl
theorem l162_0 {orc:FuncId → Bool} {e:Ex} (h:ExLe Q e (E orc)) (lp:LpF) (hlp:∀ τ G,Ref (lp τ G) (mapE ((E orc).lp (subAt [1,1,1,1,0,0] (bodyOf Tryz.f162)) (lst 34 τ) G))) (T:List Value) (G:GS) (hT:T.length = 34):Ref (b162_0 true e lp (nth undef T) G) (mapE ((E orc).lp (subAt [1,1,1,1,0,0] (bodyOf Tryz.f162)) T G)) :=
 fun r hr=>lp_sxC Q orc G (jtl162_0 (jl162_0_0 false (Ex.of (E orc)) (fun τ G=>mapE ((E orc).lp (subAt [1,1,1,1,0,0] (bodyOf Tryz.f162)) (lst 34 τ) G))) ) hT (jol162_0 orc) (jel162_0 orc (jl162_0_0 false (Ex.of (E orc)) (fun τ G=>mapE ((E orc).lp (subAt [1,1,1,1,0,0] (bodyOf Tryz.f162)) (lst 34 τ) G))) T G) (mb162_0 h ⟨hlp⟩ _ _ r hr)
def s162 (q:Bool) (e:Ex) (v0 v1:Value) (G:GS):OG :=
 bS (bx q v0 G) fun x0 G1 =>
 bP (lda Q q 69 3 x0 G1) fun x2 =>
 bS (e.ev.cl 215 [x2] G1) fun x3 G4 =>
 bP (un Q q .not x3) fun x5 =>
 ifV x5 (
 some (.tuple #[],G4)) (
 bP (fa Q q 69 0 0 x0) fun x6 =>
 bP (ld Q q 3 x6 (G4.room 5)) fun x7 =>
 bS (e.ev.cl 217 [(.int .i64 0)] (G4.room 5)) fun x9 G8 =>
 chk ((sameO (ld Q q 3 x6 G8) x7 && true)) <|
 bS (e.ev.cl 150 [v1,x7,x9] G8) fun x11 G10 =>
 bP (fa Q q 69 2 2 x0) fun x12 =>
 bP (ld Q q 3 x12 G10) fun x13 =>
 bLq q e 162 0 (subAt [1,1,1,1,0,0] (bodyOf Tryz.f162)) 34 (nth undef [v0,v1]) [(16,(.int .i64 0)),(15,x13),(14,x12),(13,x11),(12,x9),(11,x7),(10,x6),(9,v1),(8,x5),(7,x3),(6,x2),(2,x0)] [] G10 fun e14 t15 G16 =>
 ifE e14 (.exit 0) (
 some (.tuple #[],G16)) (none))
theorem f162 (h:ExLe Q e (E orc)) (v0 v1:Value) (G:GS):Ref (s162 true e v0 v1 G) ((E orc).cl 162 [v0,v1] G):=cS (S:=fun q e=>s162 q e v0 v1 G) Tryz.func162 (by unfold s162; exact Ref.gq)
def s163 (q:Bool) (e:Ex) (v0:Value) (G:GS):OG :=
 bS (al Q q 260 z260 G) fun x0 G1 =>
 bS (e.ev.cl 218 [] G1) fun x2 G3 =>
 bS (al Q q 313 z313 G3) fun x4 G5 =>
 bP (st Q q 313 4 x4 x2 G5) fun G6 =>
 bP (iaa Q q 313 2 2 x4 (.int .i64 0)) fun x7 =>
 bP (lda Q q 312 2 x7 (G6.room 14)) fun x8 =>
 bS (e.ev.cl 219 [v0,x8] (G6.room 14)) fun x10 G9 =>
 bP (bn Q q .sub 3 (.tmp 12) (.const (.int .i64 1)) x10 (.int .i64 1)) fun x11 =>
 bP (iaa Q q 313 2 2 x4 (.int .i64 1)) fun x12 =>
 bP (lda Q q 312 2 x12 G9) fun x13 =>
 chk ((sameO (lda Q q 312 2 x12 (G6.room 14)) x13 && true)) <|
 bS (e.ev.cl 219 [v0,x13] G9) fun x15 G14 =>
 bS (e.ev.cl 220 [v0] G14) fun x17 G16 =>
 bP (bd Q q 260 z260 [(0,0,1),(1,1,1),(2,2,1)] [x11,x15,x17]) fun x18 =>
 bS (al Q q 260 z260 (G16.at' (G6.nx + 12))) fun x19 G20 =>
 bP (st Q q 260 3 x19 x18 (G20.back G16)) fun G21 =>
 bP (lda Q q 260 3 x19 G21) fun x22 =>
 bS (e.ev.cl 221 [x22] G21) fun x23 G24 =>
 bP (pExtract x23 0) fun x25 =>
 bP (pExtract x23 1) fun x26 =>
 bP (bn Q q .neq 25 (.tmp 26) (.const (.int .i64 0)) x26 (.int .i64 0)) fun x27 =>
 bS (gV x27 false x25 G24) fun x28 G29 =>
 bS (gV x27 false v0 G29) fun x30 G31 =>
 bS (gP x27 false (bn Q q .neq 22 (.tmp 29) (.tmp 30) x28 x30) G31) fun x32 G33 =>
 bP (pickV x27 (.bool true) x32) fun x34 =>
 ifV x34 (
 bP (bd Q q 260 z260 [] []) fun x35 =>
 bP (st Q q 260 3 x0 x35 G33) fun G36 =>
 bP (lda Q q 260 3 x0 G36) fun x37 =>
 some (.tuple #[x37,(.int .i64 5)],G36)) (
 bP (lda Q q 260 3 x19 G33) fun x38 =>
 bP (st Q q 260 3 x0 x38 G33) fun G39 =>
 bP (lda Q q 260 3 x0 G39) fun x40 =>
 some (.tuple #[x40,(.int .i64 0)],G39))
theorem f163 (h:ExLe Q e (E orc)) (v0:Value) (G:GS):Ref (s163 true e v0 G) ((E orc).cl 163 [v0] G):=cS (S:=fun q e=>s163 q e v0 G) Tryz.func163 (by unfold s163; exact Ref.gq)
def s164 (q:Bool) (e:Ex) (v0 v1:Value) (G:GS):OG :=
 bP (ep Q q false 249 (.tmp 5) (.const (.pointer none)) v0 (.pointer none)) fun x0 =>
 bS (gV x0 false v0 G) fun x1 G2 =>
 bS (gP x0 false (pNil x1) G2) fun x3 G4 =>
 bS (gP x0 false (fa Q q 309 3 8 x3) G4) fun x5 G6 =>
 bS (gP x0 false (ld Q q 307 x5 G6) G6) fun x7 G8 =>
 bS (gP x0 false (ef Q q false 307 (.tmp 11) (.const .nilFunc) x7 .nilFunc) G8) fun x9 G10 =>
 bP (pickV x0 (.bool true) x9) fun x11 =>
 ifV x11 (
 some ((.bool true),G10)) (
 nl q 309 3 8 307 v0 G10 fun x14 =>
 bS (cValue e.ev x14 [v0,v1] G10) fun x15 G16 =>
 nl q 309 3 8 307 v0 G16 fun x19 =>
 bP (ef Q q false 307 (.tmp 24) (.const .nilFunc) x19 .nilFunc) fun x20 =>
 some (x20,G16))
theorem f164 (h:ExLe Q e (E orc)) (v0 v1:Value) (G:GS):Ref (s164 true e v0 v1 G) ((E orc).cl 164 [v0,v1] G):=cS (S:=fun q e=>s164 q e v0 v1 G) Tryz.func164 (by unfold s164; exact Ref.gq)
def s175 (q:Bool) (e:Ex) (v0 v1 v2:Value) (G:GS):OG :=
 bS (bx q v0 G) fun x0 G1 =>
 bS (bx q v1 G1) fun x2 G3 =>
 bS (bx q v2 G3) fun x4 G5 =>
 some ((.func (.func 233) #[] #[x4,x2,x0]),G5)
theorem f175 (h:ExLe Q e (E orc)) (v0 v1 v2:Value) (G:GS):Ref (s175 true e v0 v1 v2 G) ((E orc).cl 175 [v0,v1,v2] G):=cS (S:=fun q e=>s175 q e v0 v1 v2 G) Tryz.func175 (by unfold s175; exact Ref.gq)
def b176_0 (q:Bool) (e:Ex) (lp:LpF) (τ:Env) (G:GS):OL :=
 bV q (τ 3) fun a3_ =>
 bV q (τ 7) fun a7_ =>
 bV q (τ 8) fun a8_ =>
 bP (bn Q q .lss 3 (.tmp 8) (.tmp 7) a8_ a7_) fun x0 =>
 ifV x0 (
 bP (lda Q q 276 16 a3_ G) fun x1 =>
 bS (e.ev.cl 235 [x1,a8_] G) fun x2 G3 =>
 bP (st Q q 276 16 a3_ x2 G3) fun G4 =>
 bP (bn Q q .add 3 (.tmp 8) (.const (.int .i64 1)) a8_ (.int .i64 1)) fun x5 =>
 lp (xq q 16 τ [(8,x5),(14,x5),(13,x2),(12,a8_),(11,x1),(4,a8_),(10,a8_),(9,x0)] [(3,a3_),(7,a7_)]) G4) (
 some ((.exit 0),xq q 16 τ [(9,x0)] [(3,a3_),(7,a7_),(8,a8_)],G))
theorem l176_0 (h:ExLe Q e (E orc)):LT orc 16 (subAt [1,1,0,1,0,0] (bodyOf Tryz.f176)) (b176_0 true e):=cL fun hlp τ G=>by unfold b176_0; exact Ref.gq
def s176 (q:Bool) (e:Ex) (v0:Value) (G:GS):OG :=
 bS (al Q q 276 z276 G) fun x0 G1 =>
 bS (al Q q 276 z276 G1) fun x2 G3 =>
 bP (mx Q q #[3,3] v0 (.int .i64 0)) fun x4 =>
 bP (mn Q q #[3,3] x4 (.int .i64 1024)) fun x5 =>
 bLq q e 176 0 (subAt [1,1,0,1,0,0] (bodyOf Tryz.f176)) 16 (nth undef [v0]) [(8,(.int .i64 0)),(7,x5),(6,x4),(5,v0),(3,x2),(2,x0)] [] G3 fun e6 t7 G8 =>
 bV q (t7 2) fun t7x2_ =>
 bV q (t7 3) fun t7x3_ =>
 ifE e6 (.exit 0) (
 bP (lda Q q 276 16 t7x3_ G8) fun x9 =>
 bP (st Q q 276 16 t7x2_ x9 G8) fun G10 =>
 bP (lda Q q 276 16 t7x2_ G10) fun x11 =>
 some (x11,G10)) (none)
theorem f176 (h:ExLe Q e (E orc)) (v0:Value) (G:GS):Ref (s176 true e v0 G) ((E orc).cl 176 [v0] G):=cS (S:=fun q e=>s176 q e v0 G) Tryz.func176 (by unfold s176; exact Ref.gq)
def b177_0 (q:Bool) (e:Ex) (lp:LpF) (τ:Env) (G:GS):OL :=
 bV q (τ 3) fun a3_ =>
 bV q (τ 6) fun a6_ =>
 bV q (τ 7) fun a7_ =>
 bV q (τ 8) fun a8_ =>
 bP (bn Q q .lss 3 (.tmp 8) (.tmp 7) a8_ a7_) fun x0 =>
 ifV x0 (
 bP (ias Q q 35 1 a6_ a8_) fun x1 =>
 bP (ld Q q 3 x1 G) fun x2 =>
 bS (e.ev.cl 183 [x2] G) fun x3 G4 =>
 ifV x3 (
 bP (lda Q q 276 16 a3_ G4) fun x5 =>
 bS (e.ev.cl 235 [x5,x2] G4) fun x6 G7 =>
 bP (st Q q 276 16 a3_ x6 G7) fun G8 =>
 bP (bn Q q .add 3 (.tmp 8) (.const (.int .i64 1)) a8_ (.int .i64 1)) fun x9 =>
 lp (xq q 19 τ [(8,x9),(17,x9),(16,x6),(15,x2),(14,x5),(13,x3),(12,x2),(5,x2),(11,x2),(10,x1),(9,x0)] [(3,a3_),(6,a6_),(7,a7_)]) G8) (
 bP (bn Q q .add 3 (.tmp 8) (.const (.int .i64 1)) a8_ (.int .i64 1)) fun x10 =>
 lp (xq q 19 τ [(8,x10),(17,x10),(13,x3),(12,x2),(5,x2),(11,x2),(10,x1),(9,x0)] [(3,a3_),(6,a6_),(7,a7_)]) G4)) (
 some ((.exit 0),xq q 19 τ [(9,x0)] [(3,a3_),(6,a6_),(7,a7_),(8,a8_)],G))
theorem l177_0 (h:ExLe Q e (E orc)):LT orc 19 (subAt [1,1,0,1,0,0] (bodyOf Tryz.f177)) (b177_0 true e):=cL fun hlp τ G=>by unfold b177_0; exact Ref.gq
def s177 (q:Bool) (e:Ex) (v0:Value) (G:GS):OG :=
 bS (al Q q 276 z276 G) fun x0 G1 =>
 bS (al Q q 276 z276 G1) fun x2 G3 =>
 bP (ln Q q 35 v0) fun x4 =>
 bLq q e 177 0 (subAt [1,1,0,1,0,0] (bodyOf Tryz.f177)) 19 (nth undef [v0]) [(8,(.int .i64 0)),(7,x4),(6,v0),(3,x2),(2,x0)] [] G3 fun e5 t6 G7 =>
 bV q (t6 2) fun t6x2_ =>
 bV q (t6 3) fun t6x3_ =>
 ifE e5 (.exit 0) (
 bP (lda Q q 276 16 t6x3_ G7) fun x8 =>
 bP (st Q q 276 16 t6x2_ x8 G7) fun G9 =>
 bP (lda Q q 276 16 t6x2_ G9) fun x10 =>
 some (x10,G9)) (none)
theorem f177 (h:ExLe Q e (E orc)) (v0:Value) (G:GS):Ref (s177 true e v0 G) ((E orc).cl 177 [v0] G):=cS (S:=fun q e=>s177 q e v0 G) Tryz.func177 (by unfold s177; exact Ref.gq)
def s178 (q:Bool) (e:Ex) (v0:Value) (G:GS):OG :=
 bS (bx q v0 G) fun x0 G1 =>
 some ((.func (.func 236) #[] #[x0]),G1)
theorem f178 (h:ExLe Q e (E orc)) (v0:Value) (G:GS):Ref (s178 true e v0 G) ((E orc).cl 178 [v0] G):=cS (S:=fun q e=>s178 q e v0 G) Tryz.func178 (by unfold s178; exact Ref.gq)
def s179 (q:Bool) (e:Ex) (v0 v1:Value) (G:GS):OG :=
 bS (bx q v0 G) fun x0 G1 =>
 bS (al Q q 276 z276 G1) fun x2 G3 =>
 bP (bn Q q .quo 3 (.tmp 5) (.const (.int .i64 64)) v1 (.int .i64 64)) fun x4 =>
 bP (iaa Q q 276 16 1 x0 x4) fun x5 =>
 bP (ld Q q 22 x5 (G3.room 10)) fun x6 =>
 bP (bn Q q .rem 3 (.tmp 9) (.const (.int .i64 64)) v1 (.int .i64 64)) fun x7 =>
 bP (bn Q q .shl 22 (.const (.int .u64 1)) (.tmp 10) (.int .u64 1) x7) fun x8 =>
 bP (bn Q q .andNot 22 (.tmp 8) (.tmp 11) x6 x8) fun x9 =>
 bP (iaa Q q 276 16 1 x0 x4) fun x10 =>
 bP (st Q q 22 1 x10 x9 (G3.room 10)) fun G11 =>
 bP (lda Q q 276 16 x0 G11) fun x12 =>
 bP (st Q q 276 16 x2 x12 G11) fun G13 =>
 bP (lda Q q 276 16 x2 G13) fun x14 =>
 some (x14,G13)
theorem f179 (h:ExLe Q e (E orc)) (v0 v1:Value) (G:GS):Ref (s179 true e v0 v1 G) ((E orc).cl 179 [v0,v1] G):=cS (S:=fun q e=>s179 q e v0 v1 G) Tryz.func179 (by unfold s179; exact Ref.gq)
def s180 (q:Bool) (e:Ex) (v0 v1:Value) (G:GS):OG :=
 bS (bx q v0 G) fun x0 G1 =>
 bS (bx q v1 G1) fun x2 G3 =>
 bS (al Q q 35 z35 G3) fun x4 G5 =>
 bP (lda Q q 276 16 x0 G5) fun x6 =>
 bS (e.ev.cl 178 [x6] G5) fun x7 G8 =>
 bX (xRange e.ev x7 #[9] (subAt [1,1,0,1,0,0] (bodyOf Tryz.f180)) (subAt [1,1,0,1,0,1] (bodyOf Tryz.f180)) (lsq q 19 (nth undef [v0,v1]) [(8,x7),(7,x6),(5,x4),(4,(.slice none 0 0)),(3,x2),(2,x0)]) G8) fun e9 T10 G11 =>
 bV q (nth undef T10 5) fun T10x5_ =>
 ifE e9 .normal (
 bP (ld Q q 35 T10x5_ G11) fun x12 =>
 some (x12,G11)) (ifE e9 (.exit 0) (
 bP (ld Q q 35 T10x5_ G11) fun x13 =>
 some (x13,G11)) (none))
theorem f180 (h:ExLe Q e (E orc)) (v0 v1:Value) (G:GS):Ref (s180 true e v0 v1 G) ((E orc).cl 180 [v0,v1] G):=cS (S:=fun q e=>s180 q e v0 v1 G) Tryz.func180 (by unfold s180; exact Ref.gq)
def r180_0 (q:Bool) (e:Ex) (l:Nat) (τ:Env) (u0:Value) (G:GS):OG :=
 bV q (τ 3) fun a3_ =>
 bV q (τ 5) fun a5_ =>
 bP (G.loop l) fun r0=>if r0.st = .ready then
 bP (ld Q q 35 a5_ (G.putLoop l (Lp.setSt r0 .busy))) fun x1 =>
 bP (ln Q q 35 x1) fun x2 =>
 bP (ld Q q 3 a3_ (G.putLoop l (Lp.setSt r0 .busy))) fun x3 =>
 bP (bn Q q .geq 3 (.tmp 11) (.tmp 12) x2 x3) fun x4 =>
 ifV x4 (
 roundEnd l (.exit 0) (G.putLoop l (Lp.setSt r0 .busy))) (
 bP (ld Q q 35 a5_ (G.putLoop l (Lp.setSt r0 .busy))) fun x5 =>
 bS (bs Q q 35 1 (rep z3 1) 1 [(0,0,1)] [u0] (G.putLoop l (Lp.setSt r0 .busy))) fun x6 G7 =>
 bS (ap Q q 35 35 1 8 x5 x6 G7) fun x8 G9 =>
 bP (st Q q 35 1 a5_ x8 G9) fun G10 =>
 roundEnd l .normal G10)
 else none
theorem mr180_0 {e:Ex} {E:Ev} (h:ExLe Q e E) (l:Nat) (τ:Env) (u0:Value) (G:GS):Ref (r180_0 true e l τ u0 G) (r180_0 false (Ex.of E) l τ u0 G):=by
 unfold r180_0
 repeat' (with_reducible first | exact Ref.rfl' _ | exact ROp.r | refine Ref.bP ?_ fun _=>?_ | refine Ref.bS ?_ fun _ _=>?_ | exact Ref.cl (by assumption) | refine Ref.ifV ?_ ?_ | refine LpLe.rx (by assumption) ?_ | refine Ref.xitq ?_ | exact UOk.z | refine UOk.c (by assumption) ?_ | exact Ref.nil _ | refine Ref.bVe fun _ _=>?_ | refine Ref.bLq (by assumption) ?_ fun _ _ _=>?_ | refine Ref.ifE ?_ ?_ | refine Ref.chk ?_ ?_ | refine Imp.and ?_ ?_ | refine Imp.or ?_ | exact Imp.rfl' _ | refine Imp.sameO ?_ | refine Ref.gd ?_ | exact Ref.cValue (by assumption) | refine Ref.bX ?_ fun _ _ _=>?_ | exact Ref.scQ (by assumption) | exact Ref.xRangeQ (by assumption) | exact Ref.cInvoke (by assumption) | refine Ref.rdy ?_)
theorem d180_0 {orc:FuncId → Bool} {e:Ex} (h:ExLe Q e (E orc)) (l:Nat) (T:List Value) (u0:Value) (G:GS) {st:LoopState} {pend:Option Code} (hl:G.loop l = some ⟨st,pend,T,[9],(subAt [1,1,0,1,0,0] (bodyOf Tryz.f180)),(subAt [1,1,0,1,0,1] (bodyOf Tryz.f180))⟩) (hT:T.length = 19):Ref (r180_0 true e l (nth undef T) u0 G) ((E orc).rd l [u0] G) :=
 fun r hr=>rd_sxE Q orc hl (by kernel_rfl) hT (by kernel_rfl) (mr180_0 h l _ u0 G r hr)
def b181_0 (q:Bool) (e:Ex) (lp:LpF) (τ:Env) (G:GS):OL :=
 bV q (τ 6) fun a6_ =>
 bV q (τ 7) fun a7_ =>
 bV q (τ 8) fun a8_ =>
 bP (bn Q q .lss 3 (.tmp 8) (.tmp 7) a8_ a7_) fun x0 =>
 ifV x0 (
 bP (ias Q q 35 1 a6_ a8_) fun x1 =>
 bP (ld Q q 3 x1 G) fun x2 =>
 bS (e.ev.cl 183 [x2] G) fun x3 G4 =>
 bP (un Q q .not x3) fun x5 =>
 ifV x5 (
 some (.ret,xq q 32 τ [(2,(.int .i64 3)),(14,x5),(13,x3),(12,x2),(4,x2),(11,x2),(10,x1),(9,x0)] [(6,a6_),(7,a7_),(8,a8_)],G4)) (
 bP (bn Q q .add 3 (.tmp 8) (.const (.int .i64 1)) a8_ (.int .i64 1)) fun x6 =>
 lp (xq q 32 τ [(8,x6),(15,x6),(14,x5),(13,x3),(12,x2),(4,x2),(11,x2),(10,x1),(9,x0)] [(6,a6_),(7,a7_)]) G4)) (
 some ((.exit 0),xq q 32 τ [(9,x0)] [(6,a6_),(7,a7_),(8,a8_)],G))
theorem l181_0 (h:ExLe Q e (E orc)):LT orc 32 (subAt [1,0,1,0,0] (bodyOf Tryz.f181)) (b181_0 true e):=cL fun hlp τ G=>by unfold b181_0; exact Ref.gq
def b181_1 (q:Bool) (e:Ex) (lp:LpF) (τ:Env) (G:GS):OL :=
 bV q (τ 0) fun a0_ =>
 bV q (τ 5) fun a5_ =>
 bP (ln Q q 35 a0_) fun x0 =>
 bP (bn Q q .lss 3 (.tmp 16) (.tmp 18) a5_ x0) fun x1 =>
 ifV x1 (
 bP (ias Q q 35 1 a0_ a5_) fun x2 =>
 bP (ld Q q 3 x2 (G.room 10)) fun x3 =>
 bP (bn Q q .sub 3 (.tmp 27) (.const (.int .i64 1)) a5_ (.int .i64 1)) fun x4 =>
 bP (ias Q q 35 1 a0_ x4) fun x5 =>
 bP (ld Q q 3 x5 (G.room 10)) fun x6 =>
 bP (bn Q q .leq 3 (.tmp 25) (.tmp 30) x3 x6) fun x7 =>
 ifV x7 (
 some (.ret,xq q 32 τ [(2,(.int .i64 9)),(31,x7),(30,x6),(29,x5),(28,x4),(27,a5_),(26,a0_),(25,x3),(24,x2),(23,a5_),(22,a0_),(19,x1),(18,x0),(17,a0_),(16,a5_)] [(0,a0_),(5,a5_)],(G.room 10))) (
 bP (bn Q q .add 3 (.tmp 20) (.const (.int .i64 1)) a5_ (.int .i64 1)) fun x8 =>
 lp (xq q 32 τ [(5,x8),(21,x8),(20,a5_),(31,x7),(30,x6),(29,x5),(28,x4),(27,a5_),(26,a0_),(25,x3),(24,x2),(23,a5_),(22,a0_),(19,x1),(18,x0),(17,a0_),(16,a5_)] [(0,a0_)]) (G.room 10))) (
 some ((.exit 2),xq q 32 τ [(19,x1),(18,x0),(17,a0_),(16,a5_)] [(0,a0_),(5,a5_)],G))
theorem l181_1 (h:ExLe Q e (E orc)):LT orc 32 (subAt [1,1,0,1,0,0] (bodyOf Tryz.f181)) (b181_1 true e):=cL fun hlp τ G=>by unfold b181_1; exact Ref.gq
def s181 (q:Bool) (e:Ex) (v0:Value) (G:GS):OG :=
 bP (ln Q q 35 v0) fun x0 =>
 bLq q e 181 0 (subAt [1,0,1,0,0] (bodyOf Tryz.f181)) 32 (nth undef [v0]) [(8,(.int .i64 0)),(7,x0),(6,v0),(2,(.int .i64 0))] [] G fun e1 t2 G3 =>
 bV q (t2 2) fun t2x2_ =>
 ifE e1 (.exit 0) (
 bLq q e 181 1 (subAt [1,1,0,1,0,0] (bodyOf Tryz.f181)) 32 t2 [(5,(.int .i64 1))] [] G3 fun e4 t5 G6 =>
 bV q (t5 2) fun t5x2_ =>
 ifE e4 (.exit 2) (
 some ((.int .i64 0),G6)) (ifE e4 .ret (
 some (t5x2_,G6)) (none))) (ifE e1 .ret (
 some (t2x2_,G3)) (none))
theorem f181 (h:ExLe Q e (E orc)) (v0:Value) (G:GS):Ref (s181 true e v0 G) ((E orc).cl 181 [v0] G):=cS (S:=fun q e=>s181 q e v0 G) Tryz.func181 (by unfold s181; exact Ref.gq)
def s182 (q:Bool) (e:Ex) (v0 v1:Value) (G:GS):OG :=
 bS (bx q v0 G) fun x0 G1 =>
 bS (al Q q 27 z27 G1) fun x2 G3 =>
 bS (al Q q 276 z276 G3) fun x4 G5 =>
 bS (e.ev.cl 183 [v1] G5) fun x6 G7 =>
 bP (un Q q .not x6) fun x8 =>
 ifV x8 (
 bP (bd Q q 27 z27 [(0,0,1)] [(.int .i64 3)]) fun x9 =>
 bP (lda Q q 276 16 x0 (G7.room 4)) fun x10 =>
 bP (st Q q 27 3 x2 x9 (G7.room 4)) fun G11 =>
 chk ((sameO (lda Q q 276 16 x0 G11) x10 && true)) <|
 bP (st Q q 276 16 x4 x10 G11) fun G12 =>
 bP (lda Q q 27 3 x2 G12) fun x13 =>
 bP (lda Q q 276 16 x4 G12) fun x14 =>
 some (.tuple #[x13,x14],G12)) (
 bP (lda Q q 276 16 x0 G7) fun x15 =>
 bS (e.ev.cl 184 [x15,v1] G7) fun x16 G17 =>
 ifV x16 (
 bP (bd Q q 27 z27 [(0,0,1)] [(.int .i64 8)]) fun x18 =>
 bP (lda Q q 276 16 x0 (G17.room 4)) fun x19 =>
 bP (st Q q 27 3 x2 x18 (G17.room 4)) fun G20 =>
 chk ((sameO (lda Q q 276 16 x0 G20) x19 && true)) <|
 bP (st Q q 276 16 x4 x19 G20) fun G21 =>
 bP (lda Q q 27 3 x2 G21) fun x22 =>
 bP (lda Q q 276 16 x4 G21) fun x23 =>
 some (.tuple #[x22,x23],G21)) (
 bP (bd Q q 27 z27 [] []) fun x24 =>
 bP (lda Q q 276 16 x0 G17) fun x25 =>
 bS (e.ev.cl 235 [x25,v1] G17) fun x26 G27 =>
 bP (st Q q 27 3 x2 x24 G27) fun G28 =>
 bP (st Q q 276 16 x4 x26 G28) fun G29 =>
 bP (lda Q q 27 3 x2 G29) fun x30 =>
 bP (lda Q q 276 16 x4 G29) fun x31 =>
 some (.tuple #[x30,x31],G29)))
theorem f182 (h:ExLe Q e (E orc)) (v0 v1:Value) (G:GS):Ref (s182 true e v0 v1 G) ((E orc).cl 182 [v0,v1] G):=cS (S:=fun q e=>s182 q e v0 v1 G) Tryz.func182 (by unfold s182; exact Ref.gq)
def s183 (q:Bool) (e:Ex) (v0:Value) (G:GS):OG :=
 bP (bn Q q .geq 3 (.tmp 3) (.const (.int .i64 0)) v0 (.int .i64 0)) fun x0 =>
 bS (gV x0 true v0 G) fun x1 G2 =>
 bS (gP x0 true (bn Q q .lss 3 (.tmp 6) (.const (.int .i64 1024)) x1 (.int .i64 1024)) G2) fun x3 G4 =>
 bP (pickV x0 x3 (.bool false)) fun x5 =>
 some (x5,G4)
theorem f183 (h:ExLe Q e (E orc)) (v0:Value) (G:GS):Ref (s183 true e v0 G) ((E orc).cl 183 [v0] G):=cS (S:=fun q e=>s183 q e v0 G) Tryz.func183 (by unfold s183; exact Ref.gq)
def s184 (q:Bool) (e:Ex) (v0 v1:Value) (G:GS):OG :=
 bS (bx q v0 G) fun x0 G1 =>
 bP (bn Q q .quo 3 (.tmp 5) (.const (.int .i64 64)) v1 (.int .i64 64)) fun x2 =>
 bP (iaa Q q 276 16 1 x0 x2) fun x3 =>
 bP (ld Q q 22 x3 G1) fun x4 =>
 bP (bn Q q .rem 3 (.tmp 9) (.const (.int .i64 64)) v1 (.int .i64 64)) fun x5 =>
 bP (bn Q q .shr 22 (.tmp 8) (.tmp 10) x4 x5) fun x6 =>
 bP (bn Q q .and 22 (.tmp 11) (.const (.int .u64 1)) x6 (.int .u64 1)) fun x7 =>
 bP (bn Q q .eql 22 (.tmp 12) (.const (.int .u64 1)) x7 (.int .u64 1)) fun x8 =>
 some (x8,G1)
theorem f184 (h:ExLe Q e (E orc)) (v0 v1:Value) (G:GS):Ref (s184 true e v0 v1 G) ((E orc).cl 184 [v0,v1] G):=cS (S:=fun q e=>s184 q e v0 v1 G) Tryz.func184 (by unfold s184; exact Ref.gq)
def s194 (q:Bool) (e:Ex) (v0 v1:Value) (G:GS):OG :=
 bP (ln Q q 107 v0) fun x0 =>
 bLq q e 194 0 (subAt [1,1,0,0,0] (bodyOf Tryz.f194)) 44 (nth undef [v0,v1]) [(7,x0),(6,(.int .i64 0)),(10,x0),(9,v0),(5,(.bool false)),(4,(.int .i64 0))] [] G fun e1 t2 G3 =>
 bV q (t2 0) fun t2x0_ =>
 bV q (t2 1) fun t2x1_ =>
 bV q (t2 6) fun t2x6_ =>
 ifE e1 (.exit 0) (
 bP (ln Q q 107 t2x0_) fun x4 =>
 bP (bn Q q .lss 3 (.tmp 31) (.tmp 33) t2x6_ x4) fun x5 =>
 bS (gV x5 true t2x1_ G3) fun x6 G7 =>
 bS (gV x5 true t2x0_ G7) fun x8 G9 =>
 bS (gV x5 true t2x6_ G9) fun x10 G11 =>
 bS (gP x5 true (ias Q q 107 2 x8 x10) G11) fun x12 G13 =>
 bS (gP x5 true (lda Q q 184 2 x12 G13) G13) fun x14 G15 =>
 bS (gS x5 true (cValue e.ev x6 [x14] G15) G15) fun x16 G17 =>
 bS (gP x5 true (bn Q q .eql 3 (.tmp 41) (.const (.int .i64 0)) x16 (.int .i64 0)) G17) fun x18 G19 =>
 bP (pickV x5 x18 (.bool false)) fun x20 =>
 some (.tuple #[t2x6_,x20],G19)) (none)
theorem f194 (h:ExLe Q e (E orc)) (v0 v1:Value) (G:GS):Ref (s194 true e v0 v1 G) ((E orc).cl 194 [v0,v1] G):=cS (S:=fun q e=>s194 q e v0 v1 G) Tryz.func194 (by unfold s194; exact Ref.gq)
def s198 (q:Bool) (e:Ex) (v0:Value) (G:GS):OG :=
 bP (ep Q q true 220 (.tmp 3) (.const (.pointer none)) v0 (.pointer none)) fun x0 =>
 some (x0,G)
theorem f198 (h:ExLe Q e (E orc)) (v0:Value) (G:GS):Ref (s198 true e v0 G) ((E orc).cl 198 [v0] G):=cS (S:=fun q e=>s198 q e v0 G) Tryz.func198 (by unfold s198; exact Ref.gq)
def s203 (q:Bool) (e:Ex) (v0:Value) (G:GS):OG :=
 bS (bx q v0 G) fun x0 G1 =>
 fl q 223 1 1 22 x0 G1 fun x3 =>
 some (.tuple #[x3,(.bool true)],G1)
theorem f203 (h:ExLe Q e (E orc)) (v0:Value) (G:GS):Ref (s203 true e v0 G) ((E orc).cl 203 [v0] G):=cS (S:=fun q e=>s203 q e v0 G) Tryz.func203 (by unfold s203; exact Ref.gq)
def s208 (q:Bool) (e:Ex) (v0 v1:Value) (G:GS):OG :=
 nf q 303 0 0 v0 fun x1 =>
 bS (e.ev.cl 242 [x1,v1] G) fun x2 G3 =>
 nf q 303 0 0 v0 fun x5 =>
 bP (fa Q q 300 3 5 x5) fun x6 =>
 bP (st Q q 3 1 x6 x2 G3) fun G7 =>
 nf q 303 1 9 v0 fun x9 =>
 bP (st Q q 301 1 x9 (.func (.func 243) #[] #[]) G7) fun G10 =>
 some (.tuple #[],G10)
theorem f208 (h:ExLe Q e (E orc)) (v0 v1:Value) (G:GS):Ref (s208 true e v0 v1 G) ((E orc).cl 208 [v0,v1] G):=cS (S:=fun q e=>s208 q e v0 v1 G) Tryz.func208 (by unfold s208; exact Ref.gq)
def s209 (q:Bool) (e:Ex) (v0 v1:Value) (G:GS):OG :=
 nf q 300 5 7 v0 fun x1 =>
 bP (st Q q 4 1 x1 (.bool true) G) fun G2 =>
 nf q 300 6 8 v0 fun x4 =>
 bP (st Q q 25 1 x4 v1 G2) fun G5 =>
 some (.tuple #[],G5)
theorem f209 (h:ExLe Q e (E orc)) (v0 v1:Value) (G:GS):Ref (s209 true e v0 v1 G) ((E orc).cl 209 [v0,v1] G):=cS (S:=fun q e=>s209 q e v0 v1 G) Tryz.func209 (by unfold s209; exact Ref.gq)
def s210 (q:Bool) (e:Ex) (v0 v1:Value) (G:GS):OG :=
 nf q 247 1 1 v0 fun x1 =>
 fl q 71 1 3 3 x1 (G.room 17) fun x3 =>
 nl q 247 4 9 3 v0 (G.room 17) fun x6 =>
 bP (bn Q q .add 3 (.tmp 9) (.tmp 13) x3 x6) fun x7 =>
 nl q 247 5 10 22 v0 (G.room 17) fun x10 =>
 bP (bn Q q .add 22 (.tmp 18) (.const (.int .u64 1)) x10 (.int .u64 1)) fun x11 =>
 bS (e.ev.cl 150 [v1,x7,x11] (G.room 17)) fun x13 G12 =>
 nf q 247 3 8 v0 fun x15 =>
 bP (st Q q 245 1 x15 (.func (.func 244) #[] #[]) G12) fun G16 =>
 some (.tuple #[],G16)
theorem f210 (h:ExLe Q e (E orc)) (v0 v1:Value) (G:GS):Ref (s210 true e v0 v1 G) ((E orc).cl 210 [v0,v1] G):=cS (S:=fun q e=>s210 q e v0 v1 G) Tryz.func210 (by unfold s210; exact Ref.gq)
def s211 (q:Bool) (e:Ex) (v0:Value) (G:GS):OG :=
 bP (bn Q q .and 22 (.tmp 3) (.const (.int .u64 4294967295)) v0 (.int .u64 4294967295)) fun x0 =>
 bP (cv Q q 22 3 .u64 .i64 x0) fun x1 =>
 some (x1,G)
theorem f211 (h:ExLe Q e (E orc)) (v0:Value) (G:GS):Ref (s211 true e v0 G) ((E orc).cl 211 [v0] G):=cS (S:=fun q e=>s211 q e v0 G) Tryz.func211 (by unfold s211; exact Ref.gq)
def s212 (q:Bool) (e:Ex) (v0 v1:Value) (G:GS):OG :=
 nf q 247 1 1 v0 fun x1 =>
 fl q 71 2 4 3 x1 G fun x3 =>
 bS (e.ev.cl 245 [v1,x3,(.int .u64 1)] G) fun x4 G5 =>
 nf q 247 3 8 v0 fun x7 =>
 bP (st Q q 245 1 x7 .nilFunc G5) fun G8 =>
 some (.tuple #[],G8)
theorem f212 (h:ExLe Q e (E orc)) (v0 v1:Value) (G:GS):Ref (s212 true e v0 v1 G) ((E orc).cl 212 [v0,v1] G):=cS (S:=fun q e=>s212 q e v0 v1 G) Tryz.func212 (by unfold s212; exact Ref.gq)
def s213 (q:Bool) (e:Ex) (v0:Value) (G:GS):OG :=
 bS (bx q v0 G) fun x0 G1 =>
 bP (lda Q q 69 3 x0 G1) fun x2 =>
 bP (bd Q q 300 z300 [(0,0,3),(4,6,1)] [x2,(.bool true)]) fun x3 =>
 bP (bd Q q 339 z339 [(0,0,9),(1,9,1)] [x3,(.func (.func 246) #[] #[])]) fun x4 =>
 bS (bx q x4 G1) fun x5 G6 =>
 some (x5,G6)
theorem f213 (h:ExLe Q e (E orc)) (v0:Value) (G:GS):Ref (s213 true e v0 G) ((E orc).cl 213 [v0] G):=cS (S:=fun q e=>s213 q e v0 G) Tryz.func213 (by unfold s213; exact Ref.gq)
end
end Go.Proofs.YtlaojmcekeohnaaGreatDoor.Lift
