import Derived.Test.YtphandknhnkhfaaGreatProg
import Derived.Test.YtphandknhnkhfaaGreatGhPN
import Derived.Test.YtphandknhnkhfaaGreatGhPG
import Derived.KernelRfl
namespace Go.Proofs.YtphandknhnkhfaaGreat.Lift
open Go Go.Proofs.YtphandknhnkhfaaGreat.Gh Go.Proofs
set_option linter.unusedVariables false
set_option linter.unusedSimpArgs false
set_option maxRecDepth 100000
@[reducible] noncomputable def Q:Program:=Tryz.prog
@[reducible] noncomputable def E (ae:FuncId→Bool):Ev:=aC Tryz.prog ae
noncomputable section
variable {ae:FuncId→Bool} {e:Ex}
abbrev EL (ae:FuncId→Bool) (e:Ex):Prop:=cf Q e (E ae)
abbrev RF (ae:FuncId→Bool) (k:Nat) (vs:List Value) (G:GS) (x:OG):Prop:=Ref x ((E ae).cl k vs G)
abbrev gP (x:Value) (b:Bool) (o:Option Value) (G:GS):Option (Value×GS):=gd x b (bP o fun y=>some (y,G)) G
abbrev gS (x:Value) (b:Bool) (o:Option (Value×GS)) (G:GS):Option (Value×GS):=gd x b (bS o fun y G=>some (y,G)) G
abbrev gV (x:Value) (b:Bool) (v:Value) (G:GS):Option (Value×GS):=gd x b (some (v,G)) G
abbrev nf {β:Type} (q:Bool) (t f o:Nat) (v:Value) (k:Value→Option β):Option β:=bP (cg v) fun x=>bP (fa Q q t f o x) k
abbrev fl {β:Type} (q:Bool) (t f o u:Nat) (v:Value) (G:GS) (k:Value→Option β):Option β:=bP (fa Q q t f o v) fun x=>bP (ld Q q u x G) k
abbrev nl {β:Type} (q:Bool) (t f o u:Nat) (v:Value) (G:GS) (k:Value→Option β):Option β:=bP (cg v) fun x=>bP (fa Q q t f o x) fun y=>bP (ld Q q u y G) k
@[simp] theorem agF (x:Value) (b:Bool) (o:Option Value) (G:GS):gP x b o G=gd x b (bP o fun y=>some (y,G)) G:=Eq.trans rfl rfl
@[simp] theorem agG (x:Value) (b:Bool) (o:Option (Value×GS)) (G:GS):gS x b o G=gd x b (bS o fun y G=>some (y,G)) G:=Eq.trans rfl rfl
@[simp] theorem agH (x:Value) (b:Bool) (v:Value) (G:GS):gV x b v G=gd x b (some (v,G)) G:=Eq.trans rfl rfl
@[simp] theorem agI {β:Type} (q:Bool) (t f o:Nat) (v:Value) (k:Value→Option β):nf q t f o v k=bP (cg v) fun x=>bP (fa Q q t f o x) k:=Eq.trans rfl rfl
@[simp] theorem agJ {β:Type} (q:Bool) (t f o u:Nat) (v:Value) (G:GS) (k:Value→Option β):fl q t f o u v G k=bP (fa Q q t f o v) fun x=>bP (ld Q q u x G) k:=Eq.trans rfl rfl
@[simp] theorem agK {β:Type} (q:Bool) (t f o u:Nat) (v:Value) (G:GS) (k:Value→Option β):nl q t f o u v G k=bP (cg v) fun x=>bP (fa Q q t f o x) fun y=>bP (ld Q q u y G) k:=Eq.trans rfl rfl
theorem cS {k:FuncId} {fn:Func} {vs:List Value} {G:GS} {S:Bool→Ex→Option (Value×GS)} (hf:Q.funcs[k]? =some fn) (m:Ref (S true e) (S false (Ex.of (E ae)))) (hn:(fn.name == "runtime.NumGoroutine")=false:=by kernel_rfl) (hb:fn.body.isSome=true:=by kernel_rfl)
  (ho:(vs.isEmpty&&ae k)=false:=by kernel_rfl) (hp:po Q ae k=false:=by kernel_rfl) (hl:Nat.ble vs.length fn.ntmps=true:=by kernel_rfl) (hx:fU Q (aC Q ae) fn.ntmps (aS fn) (nth undef vs) G (qy Q fn.results.toList)=S false (Ex.of (E ae)):=by kernel_rfl) :
  Ref (S true e) ((E ae).cl k vs G):=fun r hr=>Dz Q ae G hf hn hb ho hp hl hx (m r hr)
abbrev LT (ae:FuncId→Bool) (N:Nat) (c:Code) (b:bU→bU):Prop:=∀ lp:bU,(∀ τ G,Ref (lp τ G) (bZ ((E ae).lp c (aN N τ) G)))→∀ (T:List Value) (G:GS),T.length=N→Ref (b lp (nth undef T) G) (bZ ((E ae).lp c T G))
theorem cL {N:Nat} {c:Code} {B:Bool→Ex→bU→bU} (m:∀ {lp cN:bU},jr lp cN →∀ τ G,Ref (B true e lp τ G) (B false (Ex.of (E ae)) cN τ G))
  (hx:∀ T G,fU Q (aC Q ae) N c (nth undef T) G (iq (fun τ G'=>bZ ((aC Q ae).lp c (aN N (nth undef (aN N τ))) G')) fun e τ G'=>some (e,nth undef (aN N τ),G'))=B false (Ex.of (E ae)) (fun τ G=>bZ ((E ae).lp c (aN N τ) G)) (nth undef T) G:=by intro T G; kernel_rfl) :
  LT ae N c (B true e):=fun lp bJ T G hT r hr=>yQ Q ae G hT (hx T G) (m ⟨bJ⟩ _ _ r hr)
theorem ck {j f k:Nat} {τ:Env} {G:GS} {x:Option (Exit×Env×GS)} (h:Ref x (bZ ((E ae).lp (my Q f j) (aN (nh Q f) τ) G))):Ref (leaf k j x) (bZ ((E ae).lp (my Q f k) (aN (nh Q f) τ) G)):=Ref.leaf (y:=fun k=>bZ ((E ae).lp (my Q f k) (aN (nh Q f) τ) G)) h
theorem Ref.gj {α:Type} {x y:Option α} (t:Ref x y:=by repeat' (with_reducible first | exact Ref.rfl' _ | exact eE.r | refine Ref.bP ?_ fun _=>?_ | refine Ref.bS ?_ fun _ _=>?_ | exact Ref.cl (by assumption) | refine Ref.cD ?_ ?_ | refine jr.rx (by assumption) ?_ | refine Ref.DW ?_ | exact gI.z | refine gI.c (by assumption) ?_ | exact Ref.nil _ | refine Ref.DV fun _ _=>?_ | refine Ref.kP (by assumption) ?_ fun _ _ _=>?_ | refine Ref.dt ?_ ?_ | refine Ref.gp ?_ ?_ | refine fx.and ?_ ?_ | refine fx.or ?_ | exact fx.rfl' _ | refine fx.br ?_ | refine Ref.gd ?_ | exact Ref.dO (by assumption) | refine Ref.bX ?_ fun _ _ _=>?_ | exact Ref.DY (by assumption) | exact Ref.DX (by assumption) | exact Ref.dS (by assumption) | refine j0 ?_ | refine j1 ?_ | refine j2 ?_ | refine j3 ?_ | refine j4 ?_ | refine j5 ?_ | refine j6 ?_)):Ref x y:=t
instance agL:fM Q 3 0 (bm [1,1,1,1,1,1,1,1,1,1,1,1,0,1,0,0] (aS Tryz.f3)) 209:=⟨by kernel_rfl,by kernel_rfl⟩
instance agM:fM Q 3 1 (bm [1,1,1,1,1,1,1,1,1,1,1,1,1,1,1,0,1,0,0] (aS Tryz.f3)) 209:=⟨by kernel_rfl,by kernel_rfl⟩
instance agN:fM Q 3 2 (bm [1,1,1,1,1,1,1,1,1,1,1,1,1,1,1,1,1,1,1,0,0,0] (aS Tryz.f3)) 209:=⟨by kernel_rfl,by kernel_rfl⟩
instance agO:fM Q 9 0 (dw Tryz.f9 0) 24:=⟨by kernel_rfl,by kernel_rfl⟩
instance agP:fM Q 10 0 (bm [1,1,1,0,0] (aS Tryz.f10)) 26:=⟨by kernel_rfl,by kernel_rfl⟩
instance agQ:fM Q 11 0 (dw Tryz.f11 0) 34:=⟨by kernel_rfl,by kernel_rfl⟩
instance agR:fM Q 13 0 (dw Tryz.f13 0) 42:=⟨by kernel_rfl,by kernel_rfl⟩
instance agS:fM Q 16 0 (dw Tryz.f16 0) 18:=⟨by kernel_rfl,by kernel_rfl⟩
instance agT:fM Q 19 0 (dw Tryz.f19 0) 31:=⟨by kernel_rfl,by kernel_rfl⟩
instance agU:fM Q 36 0 (dw Tryz.f36 0) 23:=⟨by kernel_rfl,by kernel_rfl⟩
instance agV:fM Q 69 0 (dw Tryz.f69 0) 30:=⟨by kernel_rfl,by kernel_rfl⟩
instance agW:fM Q 73 0 (dw Tryz.f73 0) 29:=⟨by kernel_rfl,by kernel_rfl⟩
instance agX:fM Q 107 0 (bm [1,1,1,1,0,0] (aS Tryz.f107)) 34:=⟨by kernel_rfl,by kernel_rfl⟩
instance agY:fM Q 117 0 (bm [1,0,1,1,1,1,1,0,0] (aS Tryz.f117)) 91:=⟨by kernel_rfl,by kernel_rfl⟩
instance agZ:fM Q 142 0 (bm [1,0,0] (aS Tryz.f142)) 18:=⟨by kernel_rfl,by kernel_rfl⟩
instance ag0:fM Q 190 0 (dw Tryz.f190 0) 24:=⟨by kernel_rfl,by kernel_rfl⟩
instance ag1:fM Q 191 0 (dw Tryz.f191 0) 24:=⟨by kernel_rfl,by kernel_rfl⟩
instance ag2:fM Q 238 0 (dw Tryz.f238 0) 25:=⟨by kernel_rfl,by kernel_rfl⟩
instance ag3:fM Q 283 0 (bm [1,0,1,1,1,1,1,0,0,0] (aS Tryz.f283)) 195:=⟨by kernel_rfl,by kernel_rfl⟩
instance ag5:fM Q 305 0 (dw Tryz.f305 0) 36:=⟨by kernel_rfl,by kernel_rfl⟩
instance ag6:fM Q 311 0 (bm [1,0,1,1,0,1,0,0] (aS Tryz.f311)) 66:=⟨by kernel_rfl,by kernel_rfl⟩
instance ag7:fM Q 323 0 (dw Tryz.f323 0) 20:=⟨by kernel_rfl,by kernel_rfl⟩
instance aha:fM Q 329 0 (dw Tryz.f329 0) 20:=⟨by kernel_rfl,by kernel_rfl⟩
instance ahb:fM Q 330 0 (dw Tryz.f330 0) 20:=⟨by kernel_rfl,by kernel_rfl⟩
instance ahc:qC Q 22:=⟨fun a n c=>by kernel_rfl⟩
abbrev z34:List Value:=[(.int .i64 0),(.int .i64 0),(.int .i64 0),(.int .i64 0),(.int .i64 0),(.int .i64 0),(.int .i64 0),(.int .i64 0),(.int .i64 0),(.int .i64 0),(.int .i64 0),(.int .i64 0),(.int .i64 0)]
instance ahd:gH Q 34 z34:=⟨fun G=>by kernel_rfl⟩
instance ahe:cU Q 34 13:=⟨fun b o s v G=>by kernel_rfl⟩
abbrev z38:List Value:=[(.int .i64 0),(.int .i64 0),(.int .i64 0)]
instance ahf:yL Q 38 z38 [(0,0,1),(1,1,1),(2,2,1)]:=cJ Q (by kernel_rfl) (by kernel_rfl) (by kernel_rfl)
instance ahg:gH Q 38 z38:=⟨fun G=>by kernel_rfl⟩
instance ahh:cU Q 38 3:=⟨fun b o s v G=>by kernel_rfl⟩
instance ahi:iK Q 39:=⟨fun neg x y=>by cases neg<;>kernel_rfl,fun neg x y a=>by cases neg<;>kernel_rfl,fun neg x y a=>by cases neg<;>kernel_rfl⟩
instance ahj:gG Q 34 13:=⟨fun b o s G=>by kernel_rfl⟩
instance ahk:gG Q 38 3:=⟨fun b o s G=>by kernel_rfl⟩
instance ahl:qz Q 22 1:=⟨fun b o s n c k j=>by kernel_rfl⟩
instance ahm:cy Q 3:=⟨fun b o s G=>(show _=ct b o G by kernel_rfl).trans (cH b o G)⟩
instance ahn:tO Q 3 46 .i64 .u64:=⟨fun n=>by kernel_rfl⟩
abbrev z46:List Value:=[(.int .u64 0)]
instance aho:mw Q 45 1 (rep z46 1) 1 [(0,0,1)]:=qB Q (z0:=z46) (by kernel_rfl) rfl (by decide) (by kernel_rfl)
instance ahp:yO Q 45 45 1 8:=⟨fun s x G=>by kernel_rfl⟩
instance ahq:aA Q 38 0 0:=⟨fun b o s=>by kernel_rfl⟩
instance ahr:qz Q 45 1:=⟨fun b o s n c k j=>by kernel_rfl⟩
instance ahs:cy Q 46:=⟨fun b o s G=>(show _=ct b o G by kernel_rfl).trans (cH b o G)⟩
instance aht:aA Q 38 1 1:=⟨fun b o s=>by kernel_rfl⟩
instance ahu:cU Q 46 1:=⟨fun b o s v G=>by kernel_rfl⟩
abbrev z3:List Value:=[(.int .i64 0)]
instance ahv:qC Q 45:=⟨fun a n c=>by kernel_rfl⟩
instance ahw:aA Q 38 2 2:=⟨fun b o s=>by kernel_rfl⟩
instance ahx:cU Q 3 1:=⟨fun b o s v G=>by kernel_rfl⟩
abbrev z26:List Value:=[(.int .i64 0),(.int .i64 0),(.int .i64 0)]
abbrev z28:List Value:=[(.int .i64 0),(.int .i64 0),(.int .i64 0),(.int .i64 0),(.int .i64 0),(.int .i64 0)]
instance ahy:gH Q 28 z28:=⟨fun G=>by kernel_rfl⟩
instance ahz:cU Q 28 6:=⟨fun b o s v G=>by kernel_rfl⟩
instance ahA:gG Q 28 6:=⟨fun b o s G=>by kernel_rfl⟩
abbrev z30:List Value:=[(.int .i64 0),(.int .i64 0),(.int .i64 0)]
abbrev z32:List Value:=[(.int .i64 0),(.int .i64 0),(.int .i64 0),(.int .i64 0),(.int .i64 0),(.int .i64 0),(.int .i64 0),(.int .i64 0),(.int .i64 0),(.int .i64 0)]
instance ahB:gH Q 32 z32:=⟨fun G=>by kernel_rfl⟩
instance ahC:cU Q 32 10:=⟨fun b o s v G=>by kernel_rfl⟩
instance ahD:gG Q 32 10:=⟨fun b o s G=>by kernel_rfl⟩
instance ahE:aA Q 34 0 0:=⟨fun b o s=>by kernel_rfl⟩
abbrev z87:List Value:=(zs 4096 (.int .u64 0))
instance ahF:gH Q 87 z87:=⟨fun G=>by kernel_rfl⟩
abbrev z91:List Value:=[(.pointer none),(.int .i64 0),(.int .i64 0),(.int .i64 0),(.int .u64 0),(.int .u64 0),(.bool false),(.int .i64 0)]
instance ahG:aA Q 34 3 3:=⟨fun b o s=>by kernel_rfl⟩
instance ahH:aA Q 34 2 2:=⟨fun b o s=>by kernel_rfl⟩
instance ahI:aA Q 34 1 1:=⟨fun b o s=>by kernel_rfl⟩
abbrev z100:List Value:=[(.pointer none),(.int .u64 0),(.int .u64 0)]
instance ahJ:gH Q 100 z100:=⟨fun G=>by kernel_rfl⟩
instance ahK:cU Q 100 3:=⟨fun b o s v G=>by kernel_rfl⟩
instance ahL:aA Q 100 0 0:=⟨fun b o s=>by kernel_rfl⟩
instance ahM:cy Q 97:=⟨fun b o s G=>(show _=ct b o G by kernel_rfl).trans (cH b o G)⟩
instance ahN:gG Q 100 3:=⟨fun b o s G=>by kernel_rfl⟩
instance ahO:aA Q 91 0 0:=⟨fun b o s=>by kernel_rfl⟩
instance ahP:cy Q 84:=⟨fun b o s G=>(show _=ct b o G by kernel_rfl).trans (cH b o G)⟩
instance ahQ:iK Q 84:=⟨fun neg x y=>by cases neg<;>kernel_rfl,fun neg x y a=>by cases neg<;>kernel_rfl,fun neg x y a=>by cases neg<;>kernel_rfl⟩
instance ahR:aA Q 91 1 1:=⟨fun b o s=>by kernel_rfl⟩
instance ahS:Bl Q 45 1 8 z46:=⟨fun k k' l c G=>by kernel_rfl⟩
instance ahT:Bk Q 87 4096 1:=⟨fun a lo hi mx G=>by kernel_rfl⟩
instance ahU:qC Q 103:=⟨fun a n c=>by kernel_rfl⟩
instance ahV:qz Q 103 1:=⟨fun b o s n c k j=>by kernel_rfl⟩
instance ahW:cy Q 85:=⟨fun b o s G=>(show _=ct b o G by kernel_rfl).trans (cH b o G)⟩
abbrev z105:List Value:=[(.int .i64 0),(.int .i64 0)]
abbrev z109:List Value:=[(.int .i64 0),(.int .i64 0),(.int .i64 0),(.int .i64 0),(.int .i64 0),(.pointer none),(.int .u64 0),(.slice none 0 0),(.int .i64 0),(.int .i64 0),(.int .u64 0),(.bool false),(.bool false),(.int .i64 0)]
instance ahX:aA Q 109 2 5:=⟨fun b o s=>by kernel_rfl⟩
instance ahY:cy Q 106:=⟨fun b o s G=>(show _=ct b o G by kernel_rfl).trans (cH b o G)⟩
abbrev z71:List Value:=[(.int .u64 0),(.int .i64 0)]
instance ahZ:gH Q 71 z71:=⟨fun G=>by kernel_rfl⟩
instance ah0:cU Q 71 2:=⟨fun b o s v G=>by kernel_rfl⟩
instance ah1:iK Q 50:=⟨fun neg x y=>by cases neg<;>kernel_rfl,fun neg x y a=>by cases neg<;>kernel_rfl,fun neg x y a=>by cases neg<;>kernel_rfl⟩
instance ah2:aA Q 109 8 11:=⟨fun b o s=>by kernel_rfl⟩
instance ah3:cy Q 4:=⟨fun b o s G=>(show _=ct b o G by kernel_rfl).trans (cH b o G)⟩
instance ah4:aA Q 109 9 12:=⟨fun b o s=>by kernel_rfl⟩
instance ah5:aA Q 109 7 10:=⟨fun b o s=>by kernel_rfl⟩
instance ah6:iK Q 106:=⟨fun neg x y=>by cases neg<;>kernel_rfl,fun neg x y a=>by cases neg<;>kernel_rfl,fun neg x y a=>by cases neg<;>kernel_rfl⟩
instance ah7:aA Q 109 0 0:=⟨fun b o s=>by kernel_rfl⟩
instance ah8:aA Q 109 4 7:=⟨fun b o s=>by kernel_rfl⟩
instance ah9:cy Q 45:=⟨fun b o s G=>(show _=ct b o G by kernel_rfl).trans (cH b o G)⟩
instance aia:cU Q 45 1:=⟨fun b o s v G=>by kernel_rfl⟩
instance aib:aA Q 105 1 1:=⟨fun b o s=>by kernel_rfl⟩
instance aic:aA Q 109 3 6:=⟨fun b o s=>by kernel_rfl⟩
instance aid:aA Q 109 5 8:=⟨fun b o s=>by kernel_rfl⟩
instance aie:cU Q 4 1:=⟨fun b o s v G=>by kernel_rfl⟩
instance aif:aA Q 109 1 2:=⟨fun b o s=>by kernel_rfl⟩
instance aih:aA Q 109 6 9:=⟨fun b o s=>by kernel_rfl⟩
instance aii:aA Q 109 10 13:=⟨fun b o s=>by kernel_rfl⟩
instance aij:cy Q 40:=⟨fun b o s G=>(show _=ct b o G by kernel_rfl).trans (cH b o G)⟩
instance aik:aA Q 32 0 0:=⟨fun b o s=>by kernel_rfl⟩
instance ail:aA Q 28 0 0:=⟨fun b o s=>by kernel_rfl⟩
instance aim:aA Q 26 2 2:=⟨fun b o s=>by kernel_rfl⟩
instance ain:aA Q 32 1 6:=⟨fun b o s=>by kernel_rfl⟩
instance aio:gG Q 30 3:=⟨fun b o s G=>by kernel_rfl⟩
instance aip:yM Q 26 0 0:=⟨fun l=>by kernel_rfl⟩
abbrev z138:List Value:=[(.int .i64 0),(.int .i64 0),(.int .i64 0),(.int .i64 0),(.int .i64 0),(.int .i64 0),(.int .i64 0),(.int .i64 0),(.int .i64 0),(.int .i64 0),(.int .i64 0),(.int .i64 0),(.int .i64 0),(.int .i64 0),(.bool false),(.int .i64 0),(.slice none 0 0),(.int .u64 0),(.int .i64 0),(.int .u64 0),(.int .i64 0),(.int .i64 0),(.int .i64 0),(.int .u64 0)]
instance aiq:aA Q 138 0 0:=⟨fun b o s=>by kernel_rfl⟩
instance air:aA Q 135 6 18:=⟨fun b o s=>by kernel_rfl⟩
instance ais:cU Q 40 1:=⟨fun b o s v G=>by kernel_rfl⟩
abbrev z140:List Value:=[.nilIface]
instance ait:aA Q 135 4 16:=⟨fun b o s=>by kernel_rfl⟩
instance aiu:cU Q 133 1:=⟨fun b o s v G=>by kernel_rfl⟩
instance aiv:iK Q 95:=⟨fun neg x y=>by cases neg<;>kernel_rfl,fun neg x y a=>by cases neg<;>kernel_rfl,fun neg x y a=>by cases neg<;>kernel_rfl⟩
instance aiw:wU Q 87 4096 1:=⟨fun b o s k j=>by kernel_rfl⟩
abbrev z89:List Value:=[(.int .i64 0),(.int .i64 0),(.int .u64 0),(.int .u64 0),(.bool false)]
instance aix:gH Q 89 z89:=⟨fun G=>by kernel_rfl⟩
instance aiy:cU Q 89 5:=⟨fun b o s v G=>by kernel_rfl⟩
instance aiz:aA Q 91 3 7:=⟨fun b o s=>by kernel_rfl⟩
instance aiA:aA Q 91 2 2:=⟨fun b o s=>by kernel_rfl⟩
instance aiB:aA Q 89 2 2:=⟨fun b o s=>by kernel_rfl⟩
instance aiC:aA Q 89 3 3:=⟨fun b o s=>by kernel_rfl⟩
instance aiD:aA Q 89 4 4:=⟨fun b o s=>by kernel_rfl⟩
instance aiE:cU Q 85 1:=⟨fun b o s v G=>by kernel_rfl⟩
instance aiF:gG Q 89 5:=⟨fun b o s G=>by kernel_rfl⟩
instance aiG:aA Q 100 1 1:=⟨fun b o s=>by kernel_rfl⟩
abbrev z146:List Value:=[(.int .i64 0),(.int .i64 0),(.int .i64 0),(.int .i64 0),(.int .i64 0),(.int .i64 0),(.int .i64 0),(.int .i64 0),(.int .i64 0),(.int .i64 0),(.int .i64 0),(.int .i64 0),(.int .i64 0),(.int .i64 0),(.bool false),(.int .i64 0),(.slice none 0 0),(.int .u64 0),(.int .i64 0),(.int .u64 0),(.int .i64 0),(.int .i64 0)]
abbrev z106:List Value:=[(.pointer none)]
instance aiH:gH Q 106 z106:=⟨fun G=>by kernel_rfl⟩
instance aiI:cU Q 106 1:=⟨fun b o s v G=>by kernel_rfl⟩
instance aiJ:aA Q 146 0 0:=⟨fun b o s=>by kernel_rfl⟩
abbrev z155:List Value:=[.nilFunc,.nilFunc,.nilFunc,(.pointer none),(.bool false)]
instance aiK:kO Q 147:=⟨fun v=>by kernel_rfl⟩
instance aiL:aA Q 146 1 19:=⟨fun b o s=>by kernel_rfl⟩
instance aiM:gG Q 144 3:=⟨fun b o s G=>by kernel_rfl⟩
instance aiN:gG Q 71 2:=⟨fun b o s G=>by kernel_rfl⟩
instance aiO:aA Q 71 0 0:=⟨fun b o s=>by kernel_rfl⟩
instance aiP:aA Q 105 0 0:=⟨fun b o s=>by kernel_rfl⟩
instance aiQ:yM Q 89 3 3:=⟨fun l=>by kernel_rfl⟩
instance aiR:gG Q 26 3:=⟨fun b o s G=>by kernel_rfl⟩
instance aiS:aA Q 28 2 4:=⟨fun b o s=>by kernel_rfl⟩
instance aiT:aA Q 28 1 3:=⟨fun b o s=>by kernel_rfl⟩
instance aiU:cy Q 39:=⟨fun b o s G=>(show _=ct b o G by kernel_rfl).trans (cH b o G)⟩
instance aiV:aA Q 30 0 0:=⟨fun b o s=>by kernel_rfl⟩
instance aiW:gH Q 26 z26:=⟨fun G=>by kernel_rfl⟩
instance aiX:aA Q 32 2 9:=⟨fun b o s=>by kernel_rfl⟩
instance aiY:aA Q 26 1 1:=⟨fun b o s=>by kernel_rfl⟩
instance aiZ:cU Q 26 3:=⟨fun b o s v G=>by kernel_rfl⟩
abbrev z135:List Value:=[(.int .i64 0),(.int .i64 0),(.int .i64 0),(.int .i64 0),(.int .i64 0),(.int .i64 0),(.int .i64 0),(.int .i64 0),(.int .i64 0),(.int .i64 0),(.int .i64 0),(.int .i64 0),(.int .i64 0),(.int .i64 0),(.bool false),(.int .i64 0),(.slice none 0 0),(.int .u64 0),(.int .i64 0)]
instance ai0:gH Q 135 z135:=⟨fun G=>by kernel_rfl⟩
instance ai1:cU Q 135 19:=⟨fun b o s v G=>by kernel_rfl⟩
instance ai2:aA Q 30 2 2:=⟨fun b o s=>by kernel_rfl⟩
instance ai3:gG Q 135 19:=⟨fun b o s G=>by kernel_rfl⟩
abbrev z195:List Value:=[.nilFunc,.nilFunc,.nilFunc,(.pointer none),(.bool false)]
instance ai4:kO Q 187:=⟨fun v=>by kernel_rfl⟩
instance ai5:cy Q 95:=⟨fun b o s G=>(show _=ct b o G by kernel_rfl).trans (cH b o G)⟩
abbrev z203:List Value:=[.nilFunc,.nilFunc,.nilFunc,(.pointer none),(.bool false)]
instance ai6:kO Q 196:=⟨fun v=>by kernel_rfl⟩
instance ai7:cy Q 133:=⟨fun b o s G=>(show _=ct b o G by kernel_rfl).trans (cH b o G)⟩
instance ai8:qC Q 133:=⟨fun a n c=>by kernel_rfl⟩
instance ai9:qz Q 133 1:=⟨fun b o s n c k j=>by kernel_rfl⟩
instance aja:cy Q 140:=⟨fun b o s G=>(show _=ct b o G by kernel_rfl).trans (cH b o G)⟩
instance ajb:DN Q 133 1:=⟨fun a n c lo hi mx G=>Xe Q (e:=140) (by kernel_rfl) (by kernel_rfl) a n c lo hi mx G⟩
instance ajc:aA Q 135 5 17:=⟨fun b o s=>by kernel_rfl⟩
instance ajd:mw Q 133 1 (rep z140 1) 1 [(0,0,1)]:=qB Q (z0:=z140) (by kernel_rfl) rfl (by decide) (by kernel_rfl)
instance aje:yO Q 133 133 1 16:=⟨fun s x G=>by kernel_rfl⟩
instance ajf:aA Q 135 2 14:=⟨fun b o s=>by kernel_rfl⟩
instance ajg:iK Q 97:=⟨fun neg x y=>by cases neg<;>kernel_rfl,fun neg x y a=>by cases neg<;>kernel_rfl,fun neg x y a=>by cases neg<;>kernel_rfl⟩
abbrev z212:List Value:=[(.int .i64 0),(.int .i64 0),(.int .i64 0),(.int .i64 0),(.int .i64 0),(.int .i64 0),(.int .i64 0),(.int .i64 0),(.int .i64 0),(.int .i64 0),(.int .i64 0),(.int .i64 0),(.int .i64 0),(.int .i64 0),(.int .u64 0),(.int .i64 0),(.int .u64 0),(.int .u64 0),(.int .i64 0),(.int .u64 0),(.bool false),(.int .i64 0)]
instance ajh:iK Q 148:=⟨fun neg x y=>by cases neg<;>kernel_rfl,fun neg x y a=>by cases neg<;>kernel_rfl,fun neg x y a=>by cases neg<;>kernel_rfl⟩
instance aji:aA Q 212 0 0:=⟨fun b o s=>by kernel_rfl⟩
instance ajj:aA Q 209 7 19:=⟨fun b o s=>by kernel_rfl⟩
instance ajk:aA Q 144 0 0:=⟨fun b o s=>by kernel_rfl⟩
instance ajl:aA Q 144 1 2:=⟨fun b o s=>by kernel_rfl⟩
abbrev z220:List Value:=[.nilFunc,.nilFunc,.nilFunc,(.pointer none),(.bool false)]
instance ajm:kO Q 213:=⟨fun v=>by kernel_rfl⟩
instance ajn:aA Q 26 0 0:=⟨fun b o s=>by kernel_rfl⟩
instance ajo:cy Q 157:=⟨fun b o s G=>(show _=ct b o G by kernel_rfl).trans (cH b o G)⟩
instance ajp:aA Q 135 0 0:=⟨fun b o s=>by kernel_rfl⟩
instance ajq:aA Q 135 1 13:=⟨fun b o s=>by kernel_rfl⟩
abbrev z257:List Value:=[.nilFunc,.nilFunc,.nilFunc,(.int .i64 0),(.bool false),(.int .i64 0)]
abbrev z260:List Value:=[.nilFunc,.nilFunc,.nilFunc,(.int .i64 0),(.bool false),(.int .i64 0),(.int .i64 0),(.int .i64 0),(.int .i64 0),(.int .i64 0),(.int .u32 0)]
instance ajr:aA Q 260 0 0:=⟨fun b o s=>by kernel_rfl⟩
instance ajs:aA Q 30 1 1:=⟨fun b o s=>by kernel_rfl⟩
instance ajt:aA Q 260 2 9:=⟨fun b o s=>by kernel_rfl⟩
abbrev z255:List Value:=[.nilFunc,.nilFunc,.nilFunc]
instance aju:aA Q 257 0 0:=⟨fun b o s=>by kernel_rfl⟩
instance ajv:cU Q 255 3:=⟨fun b o s v G=>by kernel_rfl⟩
instance ajw:aA Q 135 3 15:=⟨fun b o s=>by kernel_rfl⟩
instance ajx:iK Q 188:=⟨fun neg x y=>by cases neg<;>kernel_rfl,fun neg x y a=>by cases neg<;>kernel_rfl,fun neg x y a=>by cases neg<;>kernel_rfl⟩
instance ajy:aA Q 260 3 10:=⟨fun b o s=>by kernel_rfl⟩
instance ajz:cy Q 258:=⟨fun b o s G=>(show _=ct b o G by kernel_rfl).trans (cH b o G)⟩
instance ajA:tO Q 258 3 .u32 .i64:=⟨fun n=>by kernel_rfl⟩
abbrev z266:List Value:=[(.pointer none),(.int .i64 0),(.int .i64 0),(.int .i64 0),(.int .i64 0),(.int .i64 0),(.int .i64 0),(.bool false),.nilFunc,(.int .i64 0),(.int .u64 0),(.int .i64 0)]
instance ajB:aA Q 138 5 23:=⟨fun b o s=>by kernel_rfl⟩
abbrev z141:List Value:=[.nilFunc]
instance ajC:mw Q 269 3 (rep z141 3) 1 [(0,0,1),(1,1,1),(2,2,1)]:=qB Q (z0:=z141) (by kernel_rfl) rfl (by decide) (by kernel_rfl)
instance ajD:qC Q 269:=⟨fun a n c=>by kernel_rfl⟩
instance ajE:qz Q 269 1:=⟨fun b o s n c k j=>by kernel_rfl⟩
instance ajF:cy Q 141:=⟨fun b o s G=>(show _=ct b o G by kernel_rfl).trans (cH b o G)⟩
instance ajG:aA Q 138 4 22:=⟨fun b o s=>by kernel_rfl⟩
instance ajH:mw Q 269 4 (rep z141 4) 1 [(0,0,1),(1,1,1),(2,2,1),(3,3,1)]:=qB Q (z0:=z141) (by kernel_rfl) rfl (by decide) (by kernel_rfl)
abbrev z209:List Value:=[(.int .i64 0),(.int .i64 0),(.int .i64 0),(.int .i64 0),(.int .i64 0),(.int .i64 0),(.int .i64 0),(.int .i64 0),(.int .i64 0),(.int .i64 0),(.int .i64 0),(.int .i64 0),(.int .i64 0),(.int .i64 0),(.int .u64 0),(.int .i64 0),(.int .u64 0),(.int .u64 0),(.int .i64 0),(.int .u64 0),(.bool false),(.int .i64 0)]
instance ajI:gH Q 209 z209:=⟨fun G=>by kernel_rfl⟩
instance ajJ:cU Q 209 22:=⟨fun b o s v G=>by kernel_rfl⟩
instance ajK:gG Q 209 22:=⟨fun b o s G=>by kernel_rfl⟩
instance ajL:aA Q 209 8 20:=⟨fun b o s=>by kernel_rfl⟩
instance ajM:aA Q 209 2 13:=⟨fun b o s=>by kernel_rfl⟩
instance ajN:aA Q 209 9 21:=⟨fun b o s=>by kernel_rfl⟩
instance ajO:aA Q 209 6 17:=⟨fun b o s=>by kernel_rfl⟩
abbrev z273:List Value:=[.nilFunc,.nilFunc,.nilFunc,(.int .i64 0),(.bool false),(.int .i64 0),(.int .i64 0)]
instance ajP:aA Q 273 0 0:=⟨fun b o s=>by kernel_rfl⟩
instance ajQ:wU Q 255 3 1:=⟨fun b o s k j=>by kernel_rfl⟩
instance ajR:cU Q 112 1:=⟨fun b o s v G=>by kernel_rfl⟩
abbrev z281:List Value:=[(.int .i64 0),(.int .i64 0)]
instance ajS:gH Q 281 z281:=⟨fun G=>by kernel_rfl⟩
instance ajT:cU Q 281 2:=⟨fun b o s v G=>by kernel_rfl⟩
instance ajU:aA Q 281 0 0:=⟨fun b o s=>by kernel_rfl⟩
abbrev z249:List Value:=[(.int .i64 0),(.int .i64 0),(.int .i64 0)]
instance ajV:gH Q 249 z249:=⟨fun G=>by kernel_rfl⟩
instance ajW:cU Q 249 3:=⟨fun b o s v G=>by kernel_rfl⟩
instance ajX:gG Q 249 3:=⟨fun b o s G=>by kernel_rfl⟩
instance ajY:aA Q 249 1 1:=⟨fun b o s=>by kernel_rfl⟩
instance ajZ:aA Q 249 2 2:=⟨fun b o s=>by kernel_rfl⟩
instance aj0:cy Q 247:=⟨fun b o s G=>(show _=ct b o G by kernel_rfl).trans (cH b o G)⟩
instance aj1:kO Q 247:=⟨fun v=>by kernel_rfl⟩
instance aj2:aA Q 249 0 0:=⟨fun b o s=>by kernel_rfl⟩
abbrev z253:List Value:=[(.int .i64 0),(.int .i64 0),(.int .i64 0)]
instance aj3:gH Q 253 z253:=⟨fun G=>by kernel_rfl⟩
instance aj4:cU Q 253 3:=⟨fun b o s v G=>by kernel_rfl⟩
instance aj5:gG Q 253 3:=⟨fun b o s G=>by kernel_rfl⟩
instance aj6:aA Q 253 1 1:=⟨fun b o s=>by kernel_rfl⟩
instance aj7:aA Q 253 2 2:=⟨fun b o s=>by kernel_rfl⟩
instance aj8:cy Q 251:=⟨fun b o s G=>(show _=ct b o G by kernel_rfl).trans (cH b o G)⟩
instance aj9:kO Q 251:=⟨fun v=>by kernel_rfl⟩
instance aka:aA Q 253 0 0:=⟨fun b o s=>by kernel_rfl⟩
instance akb:aA Q 257 1 3:=⟨fun b o s=>by kernel_rfl⟩
instance akc:aA Q 257 3 5:=⟨fun b o s=>by kernel_rfl⟩
instance akd:aA Q 260 1 6:=⟨fun b o s=>by kernel_rfl⟩
instance ake:tO Q 46 258 .u64 .u32:=⟨fun n=>by kernel_rfl⟩
instance akf:cU Q 258 1:=⟨fun b o s v G=>by kernel_rfl⟩
instance akg:tO Q 258 46 .u32 .u64:=⟨fun n=>by kernel_rfl⟩
instance akh:aA Q 257 2 4:=⟨fun b o s=>by kernel_rfl⟩
abbrev z292:List Value:=[(.int .i64 0),(.int .i64 0),(.int .i64 0),(.int .u64 0),(.int .i64 0),(.int .i64 0),(.bool false),(.bool false),(.int .i64 0)]
abbrev z295:List Value:=[(.int .i64 0),(.int .i64 0),(.int .i64 0),(.int .u64 0),(.int .i64 0),(.int .i64 0),(.bool false),(.bool false),(.int .i64 0),.nilFunc]
instance aki:aA Q 266 0 0:=⟨fun b o s=>by kernel_rfl⟩
instance akj:cy Q 262:=⟨fun b o s G=>(show _=ct b o G by kernel_rfl).trans (cH b o G)⟩
instance akk:aA Q 266 4 9:=⟨fun b o s=>by kernel_rfl⟩
instance akl:aA Q 266 3 8:=⟨fun b o s=>by kernel_rfl⟩
instance akm:cU Q 264 1:=⟨fun b o s v G=>by kernel_rfl⟩
instance akn:iK Q 197:=⟨fun neg x y=>by cases neg<;>kernel_rfl,fun neg x y a=>by cases neg<;>kernel_rfl,fun neg x y a=>by cases neg<;>kernel_rfl⟩
instance ako:aA Q 266 2 7:=⟨fun b o s=>by kernel_rfl⟩
instance akp:cy Q 264:=⟨fun b o s G=>(show _=ct b o G by kernel_rfl).trans (cH b o G)⟩
instance akq:j7 Q 264:=⟨fun neg x y=>by cases neg<;>kernel_rfl,fun neg x y f a b=>by cases neg<;>kernel_rfl⟩
instance akr:aA Q 266 5 10:=⟨fun b o s=>by kernel_rfl⟩
instance aks:aA Q 266 6 11:=⟨fun b o s=>by kernel_rfl⟩
abbrev z303:List Value:=[.nilFunc,.nilFunc,.nilFunc,(.pointer none),(.bool false)]
instance akt:kO Q 296:=⟨fun v=>by kernel_rfl⟩
abbrev z311:List Value:=[.nilFunc,.nilFunc,.nilFunc,(.pointer none),(.bool false)]
instance aku:kO Q 304:=⟨fun v=>by kernel_rfl⟩
instance akv:aA Q 273 1 6:=⟨fun b o s=>by kernel_rfl⟩
abbrev z331:List Value:=[(.int .i64 0),(.int .i64 0),(.int .i64 0),(.int .i64 0)]
instance akw:gH Q 331 z331:=⟨fun G=>by kernel_rfl⟩
instance akx:cU Q 331 4:=⟨fun b o s v G=>by kernel_rfl⟩
instance aky:wU Q 331 2 2:=⟨fun b o s k j=>by kernel_rfl⟩
instance akz:gG Q 330 2:=⟨fun b o s G=>by kernel_rfl⟩
instance akA:gG Q 281 2:=⟨fun b o s G=>by kernel_rfl⟩
abbrev z339:List Value:=[(.int .i64 0),(.int .i64 0),(.int .i64 0)]
instance akB:aA Q 281 1 1:=⟨fun b o s=>by kernel_rfl⟩
instance akC:Bk Q 331 2 2:=⟨fun a lo hi mx G=>by kernel_rfl⟩
instance akD:aA Q 295 1 9:=⟨fun b o s=>by kernel_rfl⟩
instance akE:cU Q 293 1:=⟨fun b o s v G=>by kernel_rfl⟩
instance akF:aA Q 295 0 0:=⟨fun b o s=>by kernel_rfl⟩
instance akG:aA Q 292 2 4:=⟨fun b o s=>by kernel_rfl⟩
instance akH:iK Q 262:=⟨fun neg x y=>by cases neg<;>kernel_rfl,fun neg x y a=>by cases neg<;>kernel_rfl,fun neg x y a=>by cases neg<;>kernel_rfl⟩
instance akI:cy Q 293:=⟨fun b o s G=>(show _=ct b o G by kernel_rfl).trans (cH b o G)⟩
instance akJ:aA Q 292 5 7:=⟨fun b o s=>by kernel_rfl⟩
instance akK:aA Q 266 1 1:=⟨fun b o s=>by kernel_rfl⟩
abbrev z345:List Value:=[(.int .i64 0),(.int .i64 0),(.bool false)]
instance akL:aA Q 138 1 19:=⟨fun b o s=>by kernel_rfl⟩
instance akM:aA Q 138 2 20:=⟨fun b o s=>by kernel_rfl⟩
instance akN:aA Q 138 3 21:=⟨fun b o s=>by kernel_rfl⟩
abbrev z349:List Value:=[(.bool false),(.int .u64 0),.nilFunc,.nilFunc,.nilFunc,.nilFunc,(.int .i64 0),(.int .i64 0)]
instance akO:yL Q 349 z349 [(0,0,1),(1,1,1),(4,7,1)]:=cJ Q (by kernel_rfl) (by kernel_rfl) (by kernel_rfl)
instance akP:aA Q 349 4 7:=⟨fun b o s=>by kernel_rfl⟩
instance akQ:aA Q 349 3 6:=⟨fun b o s=>by kernel_rfl⟩
instance akR:gH Q 3 z3:=⟨fun G=>by kernel_rfl⟩
abbrev z347:List Value:=[.nilFunc,.nilFunc,.nilFunc,.nilFunc]
instance akS:yL Q 347 z347 [(0,0,1),(1,1,1),(2,2,1),(3,3,1)]:=cJ Q (by kernel_rfl) (by kernel_rfl) (by kernel_rfl)
instance akT:aA Q 349 2 2:=⟨fun b o s=>by kernel_rfl⟩
instance akU:cU Q 347 4:=⟨fun b o s v G=>by kernel_rfl⟩
instance akV:iK Q 297:=⟨fun neg x y=>by cases neg<;>kernel_rfl,fun neg x y a=>by cases neg<;>kernel_rfl,fun neg x y a=>by cases neg<;>kernel_rfl⟩
instance akW:aA Q 349 1 1:=⟨fun b o s=>by kernel_rfl⟩
abbrev z354:List Value:=[(.int .i64 0),(.int .i64 0),(.int .i64 0),(.int .i64 0),(.int .i64 0),(.int .i64 0),(.int .i64 0),(.int .i64 0),(.int .i64 0),(.int .i64 0),(.int .i64 0),(.int .i64 0),(.int .i64 0),(.bool false),(.bool false),(.int .u64 0),(.int .u64 0),(.int .i64 0),(.int .i64 0),(.int .i64 0),(.int .i64 0),(.int .u64 0),(.pointer none),(.pointer none),(.int .u64 0),(.int .i64 0)]
instance akX:aA Q 354 13 25:=⟨fun b o s=>by kernel_rfl⟩
instance akY:gH Q 345 z345:=⟨fun G=>by kernel_rfl⟩
instance akZ:cU Q 345 3:=⟨fun b o s v G=>by kernel_rfl⟩
instance ak0:aA Q 345 0 0:=⟨fun b o s=>by kernel_rfl⟩
instance ak1:aA Q 354 5 17:=⟨fun b o s=>by kernel_rfl⟩
instance ak2:aA Q 354 7 19:=⟨fun b o s=>by kernel_rfl⟩
instance ak3:cU Q 352 1:=⟨fun b o s v G=>by kernel_rfl⟩
instance ak4:iK Q 305:=⟨fun neg x y=>by cases neg<;>kernel_rfl,fun neg x y a=>by cases neg<;>kernel_rfl,fun neg x y a=>by cases neg<;>kernel_rfl⟩
instance ak5:aA Q 354 12 24:=⟨fun b o s=>by kernel_rfl⟩
abbrev z321:List Value:=[.nilFunc,(.bool false),(.int .i64 0)]
instance ak6:aA Q 321 2 2:=⟨fun b o s=>by kernel_rfl⟩
instance ak7:aA Q 321 0 0:=⟨fun b o s=>by kernel_rfl⟩
instance ak8:cU Q 319 1:=⟨fun b o s v G=>by kernel_rfl⟩
abbrev z330:List Value:=[(.int .i64 0),(.int .i64 0)]
instance ak9:gG Q 331 4:=⟨fun b o s G=>by kernel_rfl⟩
instance ala:aA Q 330 0 0:=⟨fun b o s=>by kernel_rfl⟩
instance alb:aA Q 330 1 1:=⟨fun b o s=>by kernel_rfl⟩
instance alc:tO Q 46 3 .u64 .i64:=⟨fun n=>by kernel_rfl⟩
instance ald:qC Q 361:=⟨fun a n c=>by kernel_rfl⟩
instance ale:qz Q 361 3:=⟨fun b o s n c k j=>by kernel_rfl⟩
instance alf:gG Q 339 3:=⟨fun b o s G=>by kernel_rfl⟩
instance alg:gH Q 339 z339:=⟨fun G=>by kernel_rfl⟩
instance alh:cU Q 339 3:=⟨fun b o s v G=>by kernel_rfl⟩
instance ali:aA Q 339 0 0:=⟨fun b o s=>by kernel_rfl⟩
instance alj:aA Q 339 1 1:=⟨fun b o s=>by kernel_rfl⟩
instance alk:aA Q 339 2 2:=⟨fun b o s=>by kernel_rfl⟩
instance alm:qC Q 341:=⟨fun a n c=>by kernel_rfl⟩
instance aln:qz Q 341 2:=⟨fun b o s n c k j=>by kernel_rfl⟩
instance alo:gH Q 330 z330:=⟨fun G=>by kernel_rfl⟩
instance alp:cU Q 330 2:=⟨fun b o s v G=>by kernel_rfl⟩
instance alq:aA Q 292 0 0:=⟨fun b o s=>by kernel_rfl⟩
instance alr:aA Q 292 3 5:=⟨fun b o s=>by kernel_rfl⟩
instance als:aA Q 292 1 3:=⟨fun b o s=>by kernel_rfl⟩
instance alu:aA Q 292 6 8:=⟨fun b o s=>by kernel_rfl⟩
instance alv:iK Q 363:=⟨fun neg x y=>by cases neg<;>kernel_rfl,fun neg x y a=>by cases neg<;>kernel_rfl,fun neg x y a=>by cases neg<;>kernel_rfl⟩
instance alw:aA Q 292 4 6:=⟨fun b o s=>by kernel_rfl⟩
instance alx:aA Q 345 1 1:=⟨fun b o s=>by kernel_rfl⟩
instance aly:aA Q 345 2 2:=⟨fun b o s=>by kernel_rfl⟩
instance alz:gG Q 345 3:=⟨fun b o s G=>by kernel_rfl⟩
instance alA:aA Q 354 0 0:=⟨fun b o s=>by kernel_rfl⟩
instance alB:aA Q 354 4 16:=⟨fun b o s=>by kernel_rfl⟩
instance alC:aA Q 354 10 22:=⟨fun b o s=>by kernel_rfl⟩
instance alD:cU Q 221 1:=⟨fun b o s v G=>by kernel_rfl⟩
abbrev z376:List Value:=[(.int .i64 0),(.int .i64 0),(.int .i64 0),(.int .i64 0),(.int .i64 0),(.int .i64 0),(.int .i64 0),(.int .i64 0),(.int .i64 0),(.int .i64 0),(.int .i64 0),(.int .i64 0),(.int .i64 0),(.int .u64 0),(.int .i64 0),(.int .i64 0),(.int .i64 0),(.int .u64 0),(.int .u64 0),(.int .u64 0),(.slice none 0 0),(.int .u64 0),(.bool false),(.int .i64 0)]
instance alE:aA Q 376 2 14:=⟨fun b o s=>by kernel_rfl⟩
instance alF:aA Q 376 8 23:=⟨fun b o s=>by kernel_rfl⟩
abbrev z373:List Value:=[(.int .i64 0),(.int .i64 0),(.int .u64 0),(.int .u64 0)]
instance alG:Bl Q 374 4 32 z373:=⟨fun k k' l c G=>by kernel_rfl⟩
instance alH:aA Q 376 5 20:=⟨fun b o s=>by kernel_rfl⟩
instance alI:cU Q 374 1:=⟨fun b o s v G=>by kernel_rfl⟩
instance alJ:aA Q 376 0 0:=⟨fun b o s=>by kernel_rfl⟩
instance alK:yM Q 89 4 4:=⟨fun l=>by kernel_rfl⟩
instance alL:cy Q 112:=⟨fun b o s G=>(show _=ct b o G by kernel_rfl).trans (cH b o G)⟩
instance alM:cy Q 221:=⟨fun b o s G=>(show _=ct b o G by kernel_rfl).trans (cH b o G)⟩
instance alN:cy Q 374:=⟨fun b o s G=>(show _=ct b o G by kernel_rfl).trans (cH b o G)⟩
instance alO:gH Q 373 z373:=⟨fun G=>by kernel_rfl⟩
instance alP:cU Q 373 4:=⟨fun b o s v G=>by kernel_rfl⟩
instance alQ:gG Q 373 4:=⟨fun b o s G=>by kernel_rfl⟩
instance alR:aA Q 376 3 15:=⟨fun b o s=>by kernel_rfl⟩
instance alS:aA Q 100 2 2:=⟨fun b o s=>by kernel_rfl⟩
abbrev z391:List Value:=[(.int .i64 0),(.int .i64 0),(.int .i64 0),(.int .u64 0),(.int .i64 0),(.int .i64 0),(.bool false),(.bool false),(.int .i64 0),.nilFunc]
instance alT:aA Q 391 0 0:=⟨fun b o s=>by kernel_rfl⟩
instance alU:aA Q 373 0 0:=⟨fun b o s=>by kernel_rfl⟩
instance alV:aA Q 373 3 3:=⟨fun b o s=>by kernel_rfl⟩
instance alW:qz Q 374 4:=⟨fun b o s n c k j=>by kernel_rfl⟩
instance alX:aA Q 391 1 9:=⟨fun b o s=>by kernel_rfl⟩
instance alY:cU Q 389 1:=⟨fun b o s v G=>by kernel_rfl⟩
instance alZ:cy Q 383:=⟨fun b o s G=>(show _=ct b o G by kernel_rfl).trans (cH b o G)⟩
instance al0:iK Q 383:=⟨fun neg x y=>by cases neg<;>kernel_rfl,fun neg x y a=>by cases neg<;>kernel_rfl,fun neg x y a=>by cases neg<;>kernel_rfl⟩
instance al5:cy Q 389:=⟨fun b o s G=>(show _=ct b o G by kernel_rfl).trans (cH b o G)⟩
instance al6:aA Q 155 4 4:=⟨fun b o s=>by kernel_rfl⟩
instance al7:aA Q 155 0 0:=⟨fun b o s=>by kernel_rfl⟩
instance al8:cy Q 150:=⟨fun b o s G=>(show _=ct b o G by kernel_rfl).trans (cH b o G)⟩
instance al9:aA Q 155 3 3:=⟨fun b o s=>by kernel_rfl⟩
instance ama:cU Q 148 1:=⟨fun b o s v G=>by kernel_rfl⟩
instance amb:cy Q 148:=⟨fun b o s G=>(show _=ct b o G by kernel_rfl).trans (cH b o G)⟩
instance amc:kO Q 148:=⟨fun v=>by kernel_rfl⟩
instance amd:aA Q 155 1 1:=⟨fun b o s=>by kernel_rfl⟩
instance ame:cy Q 151:=⟨fun b o s G=>(show _=ct b o G by kernel_rfl).trans (cH b o G)⟩
instance amf:j7 Q 151:=⟨fun neg x y=>by cases neg<;>kernel_rfl,fun neg x y f a b=>by cases neg<;>kernel_rfl⟩
instance amg:aA Q 155 2 2:=⟨fun b o s=>by kernel_rfl⟩
instance amh:cy Q 153:=⟨fun b o s G=>(show _=ct b o G by kernel_rfl).trans (cH b o G)⟩
instance ami:j7 Q 153:=⟨fun neg x y=>by cases neg<;>kernel_rfl,fun neg x y f a b=>by cases neg<;>kernel_rfl⟩
instance amj:aA Q 209 0 0:=⟨fun b o s=>by kernel_rfl⟩
instance amk:aA Q 209 3 14:=⟨fun b o s=>by kernel_rfl⟩
instance aml:aA Q 209 4 15:=⟨fun b o s=>by kernel_rfl⟩
instance amm:aA Q 209 5 16:=⟨fun b o s=>by kernel_rfl⟩
instance amn:cU Q 207 1:=⟨fun b o s v G=>by kernel_rfl⟩
instance amo:cy Q 207:=⟨fun b o s G=>(show _=ct b o G by kernel_rfl).trans (cH b o G)⟩
instance amp:aA Q 71 1 1:=⟨fun b o s=>by kernel_rfl⟩
instance amq:cU Q 222 1:=⟨fun b o s v G=>by kernel_rfl⟩
instance amr:cy Q 222:=⟨fun b o s G=>(show _=ct b o G by kernel_rfl).trans (cH b o G)⟩
instance ams:iK Q 221:=⟨fun neg x y=>by cases neg<;>kernel_rfl,fun neg x y a=>by cases neg<;>kernel_rfl,fun neg x y a=>by cases neg<;>kernel_rfl⟩
instance amt:aA Q 376 7 22:=⟨fun b o s=>by kernel_rfl⟩
instance amu:aA Q 373 1 1:=⟨fun b o s=>by kernel_rfl⟩
instance amv:aA Q 373 2 2:=⟨fun b o s=>by kernel_rfl⟩
instance amw:aA Q 376 6 21:=⟨fun b o s=>by kernel_rfl⟩
instance amx:aA Q 376 4 19:=⟨fun b o s=>by kernel_rfl⟩
instance amy:aA Q 376 1 13:=⟨fun b o s=>by kernel_rfl⟩
abbrev z417:List Value:=[.nilFunc,(.bool false),(.int .i64 0),(.int .i64 0),(.int .i64 0),(.int .i64 0),(.int .i64 0),(.int .i64 0),(.int .i64 0),(.int .i64 0),(.int .i64 0),(.int .i64 0),(.int .i64 0),(.int .i64 0),(.pointer none)]
instance amz:aA Q 417 0 0:=⟨fun b o s=>by kernel_rfl⟩
instance amA:iK Q 222:=⟨fun neg x y=>by cases neg<;>kernel_rfl,fun neg x y a=>by cases neg<;>kernel_rfl,fun neg x y a=>by cases neg<;>kernel_rfl⟩
instance amB:aA Q 417 1 3:=⟨fun b o s=>by kernel_rfl⟩
instance amC:tO Q 46 131 .u64 .i64:=⟨fun n=>by kernel_rfl⟩
instance amD:aA Q 417 2 13:=⟨fun b o s=>by kernel_rfl⟩
instance amE:aA Q 417 3 14:=⟨fun b o s=>by kernel_rfl⟩
instance amF:cU Q 383 1:=⟨fun b o s v G=>by kernel_rfl⟩
instance amG:cy Q 319:=⟨fun b o s G=>(show _=ct b o G by kernel_rfl).trans (cH b o G)⟩
instance amH:j7 Q 319:=⟨fun neg x y=>by cases neg<;>kernel_rfl,fun neg x y f a b=>by cases neg<;>kernel_rfl⟩
instance amI:aA Q 195 4 4:=⟨fun b o s=>by kernel_rfl⟩
instance amJ:aA Q 195 0 0:=⟨fun b o s=>by kernel_rfl⟩
instance amK:cy Q 190:=⟨fun b o s G=>(show _=ct b o G by kernel_rfl).trans (cH b o G)⟩
instance amL:aA Q 195 3 3:=⟨fun b o s=>by kernel_rfl⟩
instance amM:cU Q 188 1:=⟨fun b o s v G=>by kernel_rfl⟩
instance amN:cy Q 188:=⟨fun b o s G=>(show _=ct b o G by kernel_rfl).trans (cH b o G)⟩
instance amO:kO Q 188:=⟨fun v=>by kernel_rfl⟩
instance amP:aA Q 195 1 1:=⟨fun b o s=>by kernel_rfl⟩
instance amQ:cy Q 193:=⟨fun b o s G=>(show _=ct b o G by kernel_rfl).trans (cH b o G)⟩
instance amR:j7 Q 193:=⟨fun neg x y=>by cases neg<;>kernel_rfl,fun neg x y f a b=>by cases neg<;>kernel_rfl⟩
instance amS:aA Q 195 2 2:=⟨fun b o s=>by kernel_rfl⟩
instance amT:cy Q 192:=⟨fun b o s G=>(show _=ct b o G by kernel_rfl).trans (cH b o G)⟩
instance amU:j7 Q 192:=⟨fun neg x y=>by cases neg<;>kernel_rfl,fun neg x y f a b=>by cases neg<;>kernel_rfl⟩
instance amV:aA Q 203 4 4:=⟨fun b o s=>by kernel_rfl⟩
instance amW:aA Q 203 0 0:=⟨fun b o s=>by kernel_rfl⟩
instance amX:cy Q 199:=⟨fun b o s G=>(show _=ct b o G by kernel_rfl).trans (cH b o G)⟩
instance amY:aA Q 203 3 3:=⟨fun b o s=>by kernel_rfl⟩
instance amZ:cU Q 197 1:=⟨fun b o s v G=>by kernel_rfl⟩
instance am0:cy Q 197:=⟨fun b o s G=>(show _=ct b o G by kernel_rfl).trans (cH b o G)⟩
instance am1:kO Q 197:=⟨fun v=>by kernel_rfl⟩
instance am2:aA Q 203 1 1:=⟨fun b o s=>by kernel_rfl⟩
instance am3:cy Q 201:=⟨fun b o s G=>(show _=ct b o G by kernel_rfl).trans (cH b o G)⟩
instance am4:j7 Q 201:=⟨fun neg x y=>by cases neg<;>kernel_rfl,fun neg x y f a b=>by cases neg<;>kernel_rfl⟩
instance am5:aA Q 203 2 2:=⟨fun b o s=>by kernel_rfl⟩
instance am6:cy Q 200:=⟨fun b o s G=>(show _=ct b o G by kernel_rfl).trans (cH b o G)⟩
instance am7:j7 Q 200:=⟨fun neg x y=>by cases neg<;>kernel_rfl,fun neg x y f a b=>by cases neg<;>kernel_rfl⟩
instance am8:aA Q 220 4 4:=⟨fun b o s=>by kernel_rfl⟩
instance am9:aA Q 220 0 0:=⟨fun b o s=>by kernel_rfl⟩
instance ana:cy Q 216:=⟨fun b o s G=>(show _=ct b o G by kernel_rfl).trans (cH b o G)⟩
instance anb:aA Q 220 3 3:=⟨fun b o s=>by kernel_rfl⟩
instance anc:cU Q 214 1:=⟨fun b o s v G=>by kernel_rfl⟩
instance ane:cy Q 214:=⟨fun b o s G=>(show _=ct b o G by kernel_rfl).trans (cH b o G)⟩
instance anf:kO Q 214:=⟨fun v=>by kernel_rfl⟩
instance ang:aA Q 220 1 1:=⟨fun b o s=>by kernel_rfl⟩
instance anh:cy Q 217:=⟨fun b o s G=>(show _=ct b o G by kernel_rfl).trans (cH b o G)⟩
instance ani:j7 Q 217:=⟨fun neg x y=>by cases neg<;>kernel_rfl,fun neg x y f a b=>by cases neg<;>kernel_rfl⟩
instance anj:aA Q 220 2 2:=⟨fun b o s=>by kernel_rfl⟩
instance ank:cy Q 218:=⟨fun b o s G=>(show _=ct b o G by kernel_rfl).trans (cH b o G)⟩
instance anl:j7 Q 218:=⟨fun neg x y=>by cases neg<;>kernel_rfl,fun neg x y f a b=>by cases neg<;>kernel_rfl⟩
instance anm:iK Q 214:=⟨fun neg x y=>by cases neg<;>kernel_rfl,fun neg x y a=>by cases neg<;>kernel_rfl,fun neg x y a=>by cases neg<;>kernel_rfl⟩
instance ann:aA Q 303 4 4:=⟨fun b o s=>by kernel_rfl⟩
instance ano:aA Q 303 0 0:=⟨fun b o s=>by kernel_rfl⟩
instance anp:cy Q 299:=⟨fun b o s G=>(show _=ct b o G by kernel_rfl).trans (cH b o G)⟩
instance anq:aA Q 303 3 3:=⟨fun b o s=>by kernel_rfl⟩
instance anr:cU Q 297 1:=⟨fun b o s v G=>by kernel_rfl⟩
instance ant:cy Q 297:=⟨fun b o s G=>(show _=ct b o G by kernel_rfl).trans (cH b o G)⟩
instance anu:kO Q 297:=⟨fun v=>by kernel_rfl⟩
instance anv:aA Q 303 1 1:=⟨fun b o s=>by kernel_rfl⟩
instance anw:cy Q 300:=⟨fun b o s G=>(show _=ct b o G by kernel_rfl).trans (cH b o G)⟩
instance anx:j7 Q 300:=⟨fun neg x y=>by cases neg<;>kernel_rfl,fun neg x y f a b=>by cases neg<;>kernel_rfl⟩
instance anz:aA Q 303 2 2:=⟨fun b o s=>by kernel_rfl⟩
instance anA:cy Q 301:=⟨fun b o s G=>(show _=ct b o G by kernel_rfl).trans (cH b o G)⟩
instance anB:j7 Q 301:=⟨fun neg x y=>by cases neg<;>kernel_rfl,fun neg x y f a b=>by cases neg<;>kernel_rfl⟩
instance anC:gG Q 347 4:=⟨fun b o s G=>by kernel_rfl⟩
instance anD:DM Q 347 4:=⟨fun l k j=>by kernel_rfl⟩
instance anE:aA Q 349 0 0:=⟨fun b o s=>by kernel_rfl⟩
instance anF:aA Q 311 4 4:=⟨fun b o s=>by kernel_rfl⟩
instance anG:aA Q 311 0 0:=⟨fun b o s=>by kernel_rfl⟩
instance anH:cy Q 307:=⟨fun b o s G=>(show _=ct b o G by kernel_rfl).trans (cH b o G)⟩
instance anI:aA Q 311 3 3:=⟨fun b o s=>by kernel_rfl⟩
instance anJ:cU Q 305 1:=⟨fun b o s v G=>by kernel_rfl⟩
instance anK:cy Q 305:=⟨fun b o s G=>(show _=ct b o G by kernel_rfl).trans (cH b o G)⟩
instance anL:kO Q 305:=⟨fun v=>by kernel_rfl⟩
instance anM:aA Q 311 1 1:=⟨fun b o s=>by kernel_rfl⟩
instance anN:cy Q 308:=⟨fun b o s G=>(show _=ct b o G by kernel_rfl).trans (cH b o G)⟩
instance anO:j7 Q 308:=⟨fun neg x y=>by cases neg<;>kernel_rfl,fun neg x y f a b=>by cases neg<;>kernel_rfl⟩
instance anP:aA Q 311 2 2:=⟨fun b o s=>by kernel_rfl⟩
instance anQ:cy Q 309:=⟨fun b o s G=>(show _=ct b o G by kernel_rfl).trans (cH b o G)⟩
instance anR:j7 Q 309:=⟨fun neg x y=>by cases neg<;>kernel_rfl,fun neg x y f a b=>by cases neg<;>kernel_rfl⟩
instance anS:cy Q 352:=⟨fun b o s G=>(show _=ct b o G by kernel_rfl).trans (cH b o G)⟩
abbrev z420:List Value:=[.nilFunc,.nilFunc,.nilFunc,.nilFunc,.nilFunc,.nilFunc,.nilFunc,.nilFunc,.nilFunc,.nilFunc,.nilFunc,.nilFunc,.nilFunc]
instance anT:gH Q 420 z420:=⟨fun G=>by kernel_rfl⟩
instance anU:cU Q 420 13:=⟨fun b o s v G=>by kernel_rfl⟩
instance anV:wU Q 420 13 1:=⟨fun b o s k j=>by kernel_rfl⟩
instance anW:cy Q 419:=⟨fun b o s G=>(show _=ct b o G by kernel_rfl).trans (cH b o G)⟩
instance anX:gG Q 420 13:=⟨fun b o s G=>by kernel_rfl⟩
instance anY:aA Q 354 8 20:=⟨fun b o s=>by kernel_rfl⟩
instance anZ:aA Q 354 3 15:=⟨fun b o s=>by kernel_rfl⟩
instance an0:aA Q 354 6 18:=⟨fun b o s=>by kernel_rfl⟩
instance an1:aA Q 354 2 14:=⟨fun b o s=>by kernel_rfl⟩
instance an2:aA Q 354 9 21:=⟨fun b o s=>by kernel_rfl⟩
instance an3:aA Q 354 11 23:=⟨fun b o s=>by kernel_rfl⟩
instance an4:qC Q 374:=⟨fun a n c=>by kernel_rfl⟩
instance an5:yO Q 22 22 1 8:=⟨fun s x G=>by kernel_rfl⟩
instance jb1:mE Q 45 1 [0] (rep z46 1) 1 [(0,0,1)]:=⟨(qB Q (z0:=z46) (by kernel_rfl) rfl (by decide) (by kernel_rfl)).ok⟩
instance jb2:mE Q 22 1 [0] (rep z3 1) 1 [(0,0,1)]:=⟨(qB Q (z0:=z3) (by kernel_rfl) rfl (by decide) (by kernel_rfl)).ok⟩
instance jb7:ca Q 26 [0,1,2] z26 [(0,0,1),(1,1,1),(2,2,1)]:=⟨(cJ Q (by kernel_rfl) (by kernel_rfl) (by kernel_rfl)).ok⟩
instance jb8:ca Q 28 [0,1,2,3] z28 [(0,0,3),(1,3,1),(2,4,1),(3,5,1)]:=⟨(cJ Q (by kernel_rfl) (by kernel_rfl) (by kernel_rfl)).ok⟩
instance jb9:ca Q 30 [0,1,2] z30 [(0,0,1),(1,1,1),(2,2,1)]:=⟨(cJ Q (by kernel_rfl) (by kernel_rfl) (by kernel_rfl)).ok⟩
instance an6:ca Q 32 [0,1,2] z32 [(0,0,6),(1,6,3),(2,9,1)]:=⟨(cJ Q (by kernel_rfl) (by kernel_rfl) (by kernel_rfl)).ok⟩
instance an7:ca Q 34 [1,0,2,3] z34 [(1,1,1),(0,0,1),(2,2,1),(3,3,10)]:=⟨(cJ Q (by kernel_rfl) (by kernel_rfl) (by kernel_rfl)).ok⟩
instance an8:ca Q 91 [0,1] z91 [(0,0,1),(1,1,1)]:=⟨(cJ Q (by kernel_rfl) (by kernel_rfl) (by kernel_rfl)).ok⟩
instance an9:ca Q 100 [0,1] z100 [(0,0,1),(1,1,1)]:=⟨(cJ Q (by kernel_rfl) (by kernel_rfl) (by kernel_rfl)).ok⟩
instance aoa:ca Q 105 [0,1] z105 [(0,0,1),(1,1,1)]:=⟨(cJ Q (by kernel_rfl) (by kernel_rfl) (by kernel_rfl)).ok⟩
instance aob:ca Q 109 [0,1,2,5,6,8] z109 [(0,0,2),(1,2,3),(2,5,1),(5,8,1),(6,9,1),(8,11,1)]:=⟨(cJ Q (by kernel_rfl) (by kernel_rfl) (by kernel_rfl)).ok⟩
instance aoc:ca Q 138 [0,1,2,3] z138 [(0,0,19),(1,19,1),(2,20,1),(3,21,1)]:=⟨(cJ Q (by kernel_rfl) (by kernel_rfl) (by kernel_rfl)).ok⟩
instance aod:mE Q 133 2 [0,1] (rep z140 2) 1 [(0,0,1),(1,1,1)]:=⟨(qB Q (z0:=z140) (by kernel_rfl) rfl (by decide) (by kernel_rfl)).ok⟩
instance aoe:ca Q 89 [] z89 []:=⟨(cJ Q (by kernel_rfl) (by kernel_rfl) (by kernel_rfl)).ok⟩
instance aof:ca Q 89 [0,1] z89 [(0,0,1),(1,1,1)]:=⟨(cJ Q (by kernel_rfl) (by kernel_rfl) (by kernel_rfl)).ok⟩
instance aog:ca Q 146 [0] z146 [(0,0,19)]:=⟨(cJ Q (by kernel_rfl) (by kernel_rfl) (by kernel_rfl)).ok⟩
instance aoh:ca Q 155 [0,1,2] z155 [(0,0,1),(1,1,1),(2,2,1)]:=⟨(cJ Q (by kernel_rfl) (by kernel_rfl) (by kernel_rfl)).ok⟩
instance aoi:mE Q 133 3 [0,1,2] (rep z140 3) 1 [(0,0,1),(1,1,1),(2,2,1)]:=⟨(qB Q (z0:=z140) (by kernel_rfl) rfl (by decide) (by kernel_rfl)).ok⟩
instance aoj:ca Q 71 [] z71 []:=⟨(cJ Q (by kernel_rfl) (by kernel_rfl) (by kernel_rfl)).ok⟩
instance aol:ca Q 100 [0] z100 [(0,0,1)]:=⟨(cJ Q (by kernel_rfl) (by kernel_rfl) (by kernel_rfl)).ok⟩
instance aom:ca Q 135 [0,1,2] z135 [(0,0,13),(1,13,1),(2,14,1)]:=⟨(cJ Q (by kernel_rfl) (by kernel_rfl) (by kernel_rfl)).ok⟩
instance aon:ca Q 195 [0,2] z195 [(0,0,1),(2,2,1)]:=⟨(cJ Q (by kernel_rfl) (by kernel_rfl) (by kernel_rfl)).ok⟩
instance aoo:ca Q 203 [0,2] z203 [(0,0,1),(2,2,1)]:=⟨(cJ Q (by kernel_rfl) (by kernel_rfl) (by kernel_rfl)).ok⟩
instance aop:mE Q 133 1 [0] (rep z140 1) 1 [(0,0,1)]:=⟨(qB Q (z0:=z140) (by kernel_rfl) rfl (by decide) (by kernel_rfl)).ok⟩
instance aoq:ca Q 212 [0] z212 [(0,0,22)]:=⟨(cJ Q (by kernel_rfl) (by kernel_rfl) (by kernel_rfl)).ok⟩
instance aor:ca Q 220 [0] z220 [(0,0,1)]:=⟨(cJ Q (by kernel_rfl) (by kernel_rfl) (by kernel_rfl)).ok⟩
instance aos:ca Q 257 [2] z257 [(2,4,1)]:=⟨(cJ Q (by kernel_rfl) (by kernel_rfl) (by kernel_rfl)).ok⟩
instance aot:ca Q 260 [0,1] z260 [(0,0,6),(1,6,3)]:=⟨(cJ Q (by kernel_rfl) (by kernel_rfl) (by kernel_rfl)).ok⟩
instance aou:ca Q 255 [0,1,2] z255 [(0,0,1),(1,1,1),(2,2,1)]:=⟨(cJ Q (by kernel_rfl) (by kernel_rfl) (by kernel_rfl)).ok⟩
instance aow:ca Q 266 [0,1,2,3] z266 [(0,0,1),(1,1,6),(2,7,1),(3,8,1)]:=⟨(cJ Q (by kernel_rfl) (by kernel_rfl) (by kernel_rfl)).ok⟩
instance aox:ca Q 209 [8,2,9] z209 [(8,20,1),(2,13,1),(9,21,1)]:=⟨(cJ Q (by kernel_rfl) (by kernel_rfl) (by kernel_rfl)).ok⟩
instance aoy:ca Q 209 [0,8,2] z209 [(0,0,13),(8,20,1),(2,13,1)]:=⟨(cJ Q (by kernel_rfl) (by kernel_rfl) (by kernel_rfl)).ok⟩
instance aoz:ca Q 273 [0,1] z273 [(0,0,6),(1,6,1)]:=⟨(cJ Q (by kernel_rfl) (by kernel_rfl) (by kernel_rfl)).ok⟩
instance aoA:ca Q 281 [0] z281 [(0,0,1)]:=⟨(cJ Q (by kernel_rfl) (by kernel_rfl) (by kernel_rfl)).ok⟩
instance aoB:ca Q 249 [0,1,2] z249 [(0,0,1),(1,1,1),(2,2,1)]:=⟨(cJ Q (by kernel_rfl) (by kernel_rfl) (by kernel_rfl)).ok⟩
instance aoC:ca Q 253 [0,1,2] z253 [(0,0,1),(1,1,1),(2,2,1)]:=⟨(cJ Q (by kernel_rfl) (by kernel_rfl) (by kernel_rfl)).ok⟩
instance aoD:ca Q 292 [0,4] z292 [(0,0,3),(4,6,1)]:=⟨(cJ Q (by kernel_rfl) (by kernel_rfl) (by kernel_rfl)).ok⟩
instance aoE:ca Q 295 [0,1] z295 [(0,0,9),(1,9,1)]:=⟨(cJ Q (by kernel_rfl) (by kernel_rfl) (by kernel_rfl)).ok⟩
instance aoF:ca Q 303 [0,1] z303 [(0,0,1),(1,1,1)]:=⟨(cJ Q (by kernel_rfl) (by kernel_rfl) (by kernel_rfl)).ok⟩
instance aoG:ca Q 311 [0,1] z311 [(0,0,1),(1,1,1)]:=⟨(cJ Q (by kernel_rfl) (by kernel_rfl) (by kernel_rfl)).ok⟩
instance aoH:ca Q 281 [0,1] z281 [(0,0,1),(1,1,1)]:=⟨(cJ Q (by kernel_rfl) (by kernel_rfl) (by kernel_rfl)).ok⟩
instance aoI:ca Q 339 [0,1,2] z339 [(0,0,1),(1,1,1),(2,2,1)]:=⟨(cJ Q (by kernel_rfl) (by kernel_rfl) (by kernel_rfl)).ok⟩
instance aoJ:mE Q 361 2 [0,1] (rep z339 2) 3 [(0,0,3),(1,3,3)]:=⟨(qB Q (z0:=z339) (by kernel_rfl) rfl (by decide) (by kernel_rfl)).ok⟩
instance aoK:mE Q 22 2 [0,1] (rep z3 2) 1 [(0,0,1),(1,1,1)]:=⟨(qB Q (z0:=z3) (by kernel_rfl) rfl (by decide) (by kernel_rfl)).ok⟩
instance aoL:ca Q 345 [0,1] z345 [(0,0,1),(1,1,1)]:=⟨(cJ Q (by kernel_rfl) (by kernel_rfl) (by kernel_rfl)).ok⟩
instance aoM:ca Q 354 [0,1,3,4,6,13] z354 [(0,0,13),(1,13,1),(3,15,1),(4,16,1),(6,18,1),(13,25,1)]:=⟨(cJ Q (by kernel_rfl) (by kernel_rfl) (by kernel_rfl)).ok⟩
instance aoN:ca Q 321 [1] z321 [(1,1,1)]:=⟨(cJ Q (by kernel_rfl) (by kernel_rfl) (by kernel_rfl)).ok⟩
instance aoO:ca Q 330 [0,1] z330 [(0,0,1),(1,1,1)]:=⟨(cJ Q (by kernel_rfl) (by kernel_rfl) (by kernel_rfl)).ok⟩
instance aoP:ca Q 331 [0,1] z331 [(0,0,2),(1,2,2)]:=⟨(cJ Q (by kernel_rfl) (by kernel_rfl) (by kernel_rfl)).ok⟩
instance aoQ:ca Q 345 [0,1,2] z345 [(0,0,1),(1,1,1),(2,2,1)]:=⟨(cJ Q (by kernel_rfl) (by kernel_rfl) (by kernel_rfl)).ok⟩
instance aoR:ca Q 345 [] z345 []:=⟨(cJ Q (by kernel_rfl) (by kernel_rfl) (by kernel_rfl)).ok⟩
instance aoS:ca Q 376 [0,1,7] z376 [(0,0,13),(1,13,1),(7,22,1)]:=⟨(cJ Q (by kernel_rfl) (by kernel_rfl) (by kernel_rfl)).ok⟩
instance aoT:ca Q 100 [0,1,2] z100 [(0,0,1),(1,1,1),(2,2,1)]:=⟨(cJ Q (by kernel_rfl) (by kernel_rfl) (by kernel_rfl)).ok⟩
instance aoU:ca Q 292 [0,2,4] z292 [(0,0,3),(2,4,1),(4,6,1)]:=⟨(cJ Q (by kernel_rfl) (by kernel_rfl) (by kernel_rfl)).ok⟩
instance aoV:ca Q 391 [0,1] z391 [(0,0,9),(1,9,1)]:=⟨(cJ Q (by kernel_rfl) (by kernel_rfl) (by kernel_rfl)).ok⟩
instance aoW:ca Q 373 [1] z373 [(1,1,1)]:=⟨(cJ Q (by kernel_rfl) (by kernel_rfl) (by kernel_rfl)).ok⟩
instance aoX:ca Q 417 [0,1,2] z417 [(0,0,3),(1,3,10),(2,13,1)]:=⟨(cJ Q (by kernel_rfl) (by kernel_rfl) (by kernel_rfl)).ok⟩
instance aoY:ca Q 420 [1,2,3,4,5,6,7,8,9,10,11,12] z420 [(1,1,1),(2,2,1),(3,3,1),(4,4,1),(5,5,1),(6,6,1),(7,7,1),(8,8,1),(9,9,1),(10,10,1),(11,11,1),(12,12,1)]:=⟨(cJ Q (by kernel_rfl) (by kernel_rfl) (by kernel_rfl)).ok⟩
end
end Go.Proofs.YtphandknhnkhfaaGreat.Lift
