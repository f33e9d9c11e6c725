import Derived.Test.YtkhlabammcghbaaGreatProg
import Derived.Test.YtkhlabammcghbaaGreatGhPN
import Derived.Test.YtkhlabammcghbaaGreatGhPG
import Derived.KernelRfl
namespace Go.Proofs.YtkhlabammcghbaaGreat.Lift
open Go Go.Proofs.YtkhlabammcghbaaGreat.Gh Go.Proofs
set_option linter.unusedVariables false
set_option linter.unusedSimpArgs false
set_option maxRecDepth 100000
@[reducible] noncomputable def Q:Program:=Tryz.prog
@[reducible] noncomputable def E (ae:FuncId→Bool):Ev:=aD Tryz.prog ae
noncomputable section
variable {ae:FuncId→Bool} {e:Ex}
abbrev EL (ae:FuncId→Bool) (e:Ex):Prop:=bm Q e (E ae)
abbrev RF (ae:FuncId→Bool) (k:Nat) (vs:List Value) (G:GS) (x:OG):Prop:=Ref x ((E ae).cl k vs G)
abbrev gP (x:Value) (b:Bool) (o:Option Value) (G:GS):Option (Value×GS):=gd x b (bP o fun y=>some (y,G)) G
abbrev gS (x:Value) (b:Bool) (o:Option (Value×GS)) (G:GS):Option (Value×GS):=gd x b (bS o fun y G=>some (y,G)) G
abbrev gV (x:Value) (b:Bool) (v:Value) (G:GS):Option (Value×GS):=gd x b (some (v,G)) G
abbrev nf {β:Type} (q:Bool) (t f o:Nat) (v:Value) (k:Value→Option β):Option β:=bP (aR v) fun x=>bP (fa Q q t f o x) k
abbrev fl {β:Type} (q:Bool) (t f o u:Nat) (v:Value) (G:GS) (k:Value→Option β):Option β:=bP (fa Q q t f o v) fun x=>bP (ld Q q u x G) k
abbrev nl {β:Type} (q:Bool) (t f o u:Nat) (v:Value) (G:GS) (k:Value→Option β):Option β:=bP (aR v) fun x=>bP (fa Q q t f o x) fun y=>bP (ld Q q u y G) k
@[simp] theorem ahE (x:Value) (b:Bool) (o:Option Value) (G:GS):gP x b o G=gd x b (bP o fun y=>some (y,G)) G:=Eq.trans rfl rfl
@[simp] theorem ahF (x:Value) (b:Bool) (o:Option (Value×GS)) (G:GS):gS x b o G=gd x b (bS o fun y G=>some (y,G)) G:=Eq.trans rfl rfl
@[simp] theorem ahG (x:Value) (b:Bool) (v:Value) (G:GS):gV x b v G=gd x b (some (v,G)) G:=Eq.trans rfl rfl
@[simp] theorem ahH {β:Type} (q:Bool) (t f o:Nat) (v:Value) (k:Value→Option β):nf q t f o v k=bP (aR v) fun x=>bP (fa Q q t f o x) k:=Eq.trans rfl rfl
@[simp] theorem ahI {β:Type} (q:Bool) (t f o u:Nat) (v:Value) (G:GS) (k:Value→Option β):fl q t f o u v G k=bP (fa Q q t f o v) fun x=>bP (ld Q q u x G) k:=Eq.trans rfl rfl
@[simp] theorem ahJ {β:Type} (q:Bool) (t f o u:Nat) (v:Value) (G:GS) (k:Value→Option β):nl q t f o u v G k=bP (aR v) fun x=>bP (fa Q q t f o x) fun y=>bP (ld Q q u y G) k:=Eq.trans rfl rfl
theorem cS {k:FuncId} {fn:Func} {vs:List Value} {G:GS} {S:Bool→Ex→Option (Value×GS)} (hf:Q.funcs[k]? =some fn) (m:Ref (S true e) (S false (Ex.of (E ae)))) (hn:(fn.name == "runtime.NumGoroutine")=false:=by kernel_rfl) (hb:fn.body.isSome=true:=by kernel_rfl)
  (ho:(vs.isEmpty&&ae k)=false:=by kernel_rfl) (hp:py Q ae k=false:=by kernel_rfl) (hl:Nat.ble vs.length fn.ntmps=true:=by kernel_rfl) (hx:fM Q (aD Q ae) fn.ntmps (aL fn) (nth undef vs) G (j8 Q fn.results.toList)=S false (Ex.of (E ae)):=by kernel_rfl) :
  Ref (S true e) ((E ae).cl k vs G):=fun r hr=>zd Q ae G hf hn hb ho hp hl hx (m r hr)
abbrev LT (ae:FuncId→Bool) (N:Nat) (c:Code) (b:bF→bF):Prop:=∀ lp:bF,(∀ τ G,Ref (lp τ G) (bc ((E ae).lp c (aG N τ) G)))→∀ (T:List Value) (G:GS),T.length=N→Ref (b lp (nth undef T) G) (bc ((E ae).lp c T G))
theorem cL {N:Nat} {c:Code} {B:Bool→Ex→bF→bF} (m:∀ {lp bO:bF},g0 lp bO →∀ τ G,Ref (B true e lp τ G) (B false (Ex.of (E ae)) bO τ G))
  (hx:∀ T G,fM Q (aD Q ae) N c (nth undef T) G (fU (fun τ G'=>bc ((aD Q ae).lp c (aG N (nth undef (aG N τ))) G')) fun e τ G'=>some (e,nth undef (aG N τ),G'))=B false (Ex.of (E ae)) (fun τ G=>bc ((E ae).lp c (aG N τ) G)) (nth undef T) G:=by intro T G; kernel_rfl) :
  LT ae N c (B true e):=fun lp bw T G hT r hr=>EH Q ae G hT (hx T G) (m ⟨bw⟩ _ _ r hr)
theorem cf {n f:FuncId} {vs:List Value} {G:GS} {x:Option (Value×GS)} (h:Ref x ((E ae).cl n vs G)):Ref (leaf f n x) ((E ae).cl f vs G):=Ref.leaf (y:=fun f=>(E ae).cl f vs G) h
theorem ck {j f k:Nat} {τ:Env} {G:GS} {x:Option (Exit×Env×GS)} (h:Ref x (bc ((E ae).lp (iO Q f j) (aG (jd Q f) τ) G))):Ref (leaf k j x) (bc ((E ae).lp (iO Q f k) (aG (jd Q f) τ) G)):=Ref.leaf (y:=fun k=>bc ((E ae).lp (iO Q f k) (aG (jd Q f) τ) G)) h
theorem cl' {n f k:Nat} {τ:Env} {G:GS} {x:Option (Exit×Env×GS)} (h:Ref x (bc ((E ae).lp (iO Q n k) (aG (jd Q n) τ) G))):Ref (leaf f n x) (bc ((E ae).lp (iO Q f k) (aG (jd Q f) τ) G)):=Ref.leaf (y:=fun f=>bc ((E ae).lp (iO Q f k) (aG (jd Q f) τ) G)) h
theorem Ref.gj {α:Type} {x y:Option α} (t:Ref x y:=by repeat' (with_reducible first | exact Ref.rfl' _ | exact dV.r | refine Ref.bP ?_ fun _=>?_ | refine Ref.bS ?_ fun _ _=>?_ | exact Ref.cl (by assumption) | refine Ref.bl ?_ ?_ | refine g0.rx (by assumption) ?_ | refine Ref.BZ ?_ | exact eO.z | refine eO.c (by assumption) ?_ | exact Ref.nil _ | refine Ref.BX fun _ _=>?_ | refine Ref.ml (by assumption) ?_ fun _ _ _=>?_ | refine Ref.dP ?_ ?_ | refine Ref.eV ?_ ?_ | refine eA.and ?_ ?_ | refine eA.or ?_ | exact eA.rfl' _ | refine eA.bp ?_ | refine Ref.gd ?_ | exact Ref.fJ (by assumption) | refine Ref.bX ?_ fun _ _ _=>?_ | exact Ref.B3 (by assumption) | exact Ref.B0 (by assumption) | exact Ref.jF (by assumption) | refine j0 ?_ | refine j1 ?_ | refine j2 ?_ | refine j3 ?_ | refine j4 ?_ | refine j5 ?_ | refine j6 ?_)):Ref x y:=t
theorem aK {t:TypeId} {f o:Nat} (h:∀ b p s,qn Q t (.pointer (some ⟨b,p,s⟩)) f=some (.pointer (some ⟨b,p+o,none⟩)):=by intros;kernel_rfl):aJ Q t f o:=⟨h⟩
theorem cR {t:TypeId} {z:Nat} (h:∀ b o s v G,mT Q t (.pointer (some ⟨b,o,s⟩)) v G=lq z b o v G:=by intros;kernel_rfl):cT Q t z:=⟨h⟩
theorem fh {t:TypeId} (h:∀ b o s G,jE Q t (.pointer (some ⟨b,o,s⟩)) G=Bs b o G:=by intros;kernel_rfl):eC Q t:=⟨fun b o s G=>(h b o s G).trans (Yn b o G)⟩
theorem eP {t:TypeId} {z:List Value} {l:List Nat} {pl:List (Nat×Nat×Nat)} (hz:mR Q t=some z:=by kernel_rfl) (ha:Jb Q t=true:=by kernel_rfl) (hp:BQ Q t pl=true:=by kernel_rfl):cZ Q t l z pl:=⟨(lA Q hz ha hp).ok⟩
instance ahK:fx Q 6 0 (aU [1,1,1,1,1,1,0,1,0,0] (aL Tryz.f6)) 120:=⟨by kernel_rfl,by kernel_rfl⟩
instance ahL:fx Q 6 1 (aU [1,1,1,1,1,1,0,1,0,0,1,0,0,1,1,1,1,1,0,1,0,0] (aL Tryz.f6)) 120:=⟨by kernel_rfl,by kernel_rfl⟩
instance ahM:fx Q 8 0 (cP Tryz.f8 0) 46:=⟨by kernel_rfl,by kernel_rfl⟩
instance ahN:fx Q 8 1 (cP Tryz.f8 1) 46:=⟨by kernel_rfl,by kernel_rfl⟩
instance ahO:fx Q 8 2 (cP Tryz.f8 2) 46:=⟨by kernel_rfl,by kernel_rfl⟩
instance ahP:fx Q 11 0 (cP Tryz.f11 0) 18:=⟨by kernel_rfl,by kernel_rfl⟩
instance ahQ:fx Q 20 0 (aU [1,0,1,1,0,0,0] (aL Tryz.f20)) 162:=⟨by kernel_rfl,by kernel_rfl⟩
instance ahR:fx Q 29 0 (cP Tryz.f29 0) 24:=⟨by kernel_rfl,by kernel_rfl⟩
instance ahS:fx Q 31 0 (cP Tryz.f31 0) 36:=⟨by kernel_rfl,by kernel_rfl⟩
instance ahT:fx Q 37 0 (cP Tryz.f37 0) 42:=⟨by kernel_rfl,by kernel_rfl⟩
instance ahU:fx Q 64 0 (cP Tryz.f64 0) 23:=⟨by kernel_rfl,by kernel_rfl⟩
instance ahV:fx Q 76 0 (cP Tryz.f76 0) 40:=⟨by kernel_rfl,by kernel_rfl⟩
instance ahW:fx Q 91 0 (aU [1,0,1,1,1,1,1,0,0,0] (aL Tryz.f91)) 195:=⟨by kernel_rfl,by kernel_rfl⟩
instance ahX:fx Q 96 0 (cP Tryz.f96 0) 29:=⟨by kernel_rfl,by kernel_rfl⟩
instance ahY:fx Q 117 0 (aU [1,1,1,1,0,0] (aL Tryz.f117)) 34:=⟨by kernel_rfl,by kernel_rfl⟩
instance ahZ:fx Q 125 0 (aU [1,0,1,1,0,1,0,0] (aL Tryz.f125)) 66:=⟨by kernel_rfl,by kernel_rfl⟩
instance ah0:fx Q 141 0 (cP Tryz.f141 0) 18:=⟨by kernel_rfl,by kernel_rfl⟩
instance ah1:fx Q 142 0 (cP Tryz.f142 0) 24:=⟨by kernel_rfl,by kernel_rfl⟩
instance ah2:fx Q 143 0 (cP Tryz.f143 0) 24:=⟨by kernel_rfl,by kernel_rfl⟩
instance ah3:fx Q 145 0 (cP Tryz.f145 0) 20:=⟨by kernel_rfl,by kernel_rfl⟩
instance ah4:fx Q 150 0 (cP Tryz.f150 0) 25:=⟨by kernel_rfl,by kernel_rfl⟩
instance ah5:fx Q 157 0 (cP Tryz.f157 0) 20:=⟨by kernel_rfl,by kernel_rfl⟩
instance ah6:fx Q 158 0 (cP Tryz.f158 0) 20:=⟨by kernel_rfl,by kernel_rfl⟩
instance ah7:pD Q 22:=⟨fun a n c=>by kernel_rfl⟩
instance ah8:lD Q 24:=⟨fun neg x y=>by cases neg<;>kernel_rfl,fun neg x y a=>by cases neg<;>kernel_rfl,fun neg x y a=>by cases neg<;>kernel_rfl⟩
abbrev z39:List Value:=[(.int .i64 0),(.int .i64 0),(.int .i64 0),(.int .i64 0),(.int .i64 0),(.int .i64 0),(.int .i64 0),(.int .i64 0),(.int .i64 0),(.int .i64 0),(.int .i64 0),(.int .i64 0),(.int .i64 0)]
instance ah9:fX Q 39 z39:=⟨fun G=>by kernel_rfl⟩
instance aia:cT Q 39 13:=cR
instance aib:lD Q 40:=⟨fun neg x y=>by cases neg<;>kernel_rfl,fun neg x y a=>by cases neg<;>kernel_rfl,fun neg x y a=>by cases neg<;>kernel_rfl⟩
instance aic:gF Q 39 13:=⟨fun b o s G=>by kernel_rfl⟩
abbrev z63:List Value:=[(.pointer none)]
instance aid:xl Q 44 1 8 z63:=⟨fun k k' l c G=>by kernel_rfl⟩
abbrev z22:List Value:=[(.slice none 0 0)]
instance aie:xl Q 46 1 24 z22:=⟨fun k k' l c G=>by kernel_rfl⟩
abbrev z3:List Value:=[(.int .i64 0)]
instance aif:lC Q 22 4 (rep z3 4) 1 [(0,0,1),(1,1,1),(2,2,1),(3,3,1)]:=tP Q (z0:=z3) (by kernel_rfl) rfl (by decide) (by kernel_rfl)
abbrev z49:List Value:=[(.int .i64 0),(.int .i64 0),(.int .i64 0),(.int .i64 0),(.int .i64 0),(.int .i64 0),(.int .i64 0),(.int .i64 0),(.int .i64 0),(.int .i64 0),(.int .i64 0),(.int .i64 0),(.int .i64 0),(.pointer none),(.slice none 0 0),(.slice none 0 0),(.pointer none),(.slice none 0 0),(.slice none 0 0),(.pointer none),(.slice none 0 0),(.slice none 0 0),(.slice none 0 0),(.slice none 0 0),(.int .i64 0)]
instance aih:jH Q 49 z49 [(0,0,13),(1,13,1),(6,18,1),(8,20,1),(11,23,1)]:=lA Q (by kernel_rfl) (by kernel_rfl) (by kernel_rfl)
instance aii:oB Q 22 1:=⟨fun b o s n c k j=>by kernel_rfl⟩
instance aij:eC Q 3:=fh
instance aik:aJ Q 49 2 14:=aK
instance ail:eC Q 41:=fh
instance aim:zk Q 3 51 .i64 .u64:=⟨fun n=>by kernel_rfl⟩
abbrev z51:List Value:=[(.int .u64 0)]
instance ain:lC Q 41 1 (rep z51 1) 1 [(0,0,1)]:=tP Q (z0:=z51) (by kernel_rfl) rfl (by decide) (by kernel_rfl)
instance aio:xk Q 41 41 1 8:=⟨fun s x G=>by kernel_rfl⟩
instance aip:cT Q 41 1:=cR
instance aiq:aJ Q 49 3 15:=aK
instance air:eC Q 22:=fh
instance ais:lC Q 22 1 (rep z3 1) 1 [(0,0,1)]:=tP Q (z0:=z3) (by kernel_rfl) rfl (by decide) (by kernel_rfl)
instance ait:xk Q 22 22 1 8:=⟨fun s x G=>by kernel_rfl⟩
instance aiu:cT Q 22 1:=cR
instance aiv:oB Q 41 1:=⟨fun b o s n c k j=>by kernel_rfl⟩
instance aiw:eC Q 51:=fh
instance aix:aJ Q 49 11 23:=aK
instance aiy:fX Q 22 z22:=⟨fun G=>by kernel_rfl⟩
abbrev z82:List Value:=[(.slice none 0 0)]
instance aiz:fX Q 82 z82:=⟨fun G=>by kernel_rfl⟩
instance aiA:cT Q 82 1:=cR
instance aiB:eC Q 82:=fh
abbrev z102:List Value:=[(.int .i64 0),(.int .i64 0),(.int .i64 0),(.int .i64 0),(.int .i64 0),(.int .i64 0),(.int .i64 0),(.int .i64 0),(.int .i64 0),(.int .i64 0),(.int .i64 0),(.int .i64 0),(.int .i64 0),(.int .i64 0),(.bool false),(.pointer none),(.pointer none),(.int .i64 0),(.int .u64 0),(.int .i64 0),(.int .u64 0),(.int .u64 0),(.int .i64 0),(.int .u64 0),(.bool false),(.int .i64 0)]
instance aiC:lD Q 63:=⟨fun neg x y=>by cases neg<;>kernel_rfl,fun neg x y a=>by cases neg<;>kernel_rfl,fun neg x y a=>by cases neg<;>kernel_rfl⟩
instance aiD:aJ Q 102 0 0:=aK
instance aiE:aJ Q 99 2 17:=aK
instance aiF:aJ Q 99 5 20:=aK
instance aiG:cT Q 97 1:=cR
instance aiH:cT Q 3 1:=cR
instance aiI:eC Q 97:=fh
instance aiJ:aJ Q 99 3 18:=aK
instance aiK:aJ Q 99 7 23:=aK
instance aiL:cT Q 51 1:=cR
instance aiM:aJ Q 99 0 0:=aK
instance aiN:aJ Q 99 4 19:=aK
instance aiO:aJ Q 99 1 13:=aK
instance aiP:aJ Q 96 1 1:=aK
instance aiQ:cT Q 4 1:=cR
instance aiR:aJ Q 99 6 21:=aK
instance aiS:aJ Q 60 0 0:=aK
instance aiT:aJ Q 96 2 2:=aK
instance aiU:cT Q 93 1:=cR
abbrev z60:List Value:=[(.int .u64 0),(.int .i64 0)]
instance aiV:fX Q 60 z60:=⟨fun G=>by kernel_rfl⟩
instance aiW:jH Q 60 z60 []:=lA Q (by kernel_rfl) (by kernel_rfl) (by kernel_rfl)
instance aiX:cT Q 60 2:=cR
instance aiY:gF Q 60 2:=⟨fun b o s G=>by kernel_rfl⟩
instance aiZ:lD Q 45:=⟨fun neg x y=>by cases neg<;>kernel_rfl,fun neg x y a=>by cases neg<;>kernel_rfl,fun neg x y a=>by cases neg<;>kernel_rfl⟩
instance ai0:aJ Q 112 0 0:=aK
instance ai1:aJ Q 110 2 13:=aK
instance ai2:aJ Q 110 6 17:=aK
abbrev z31:List Value:=[(.int .i64 0),(.int .i64 0),(.int .i64 0)]
instance ai3:jH Q 31 z31 [(0,0,1),(1,1,1),(2,2,1)]:=lA Q (by kernel_rfl) (by kernel_rfl) (by kernel_rfl)
abbrev z33:List Value:=[(.int .i64 0),(.int .i64 0),(.int .i64 0),(.int .i64 0),(.int .i64 0),(.int .i64 0)]
instance ai4:jH Q 33 z33 [(0,0,3),(1,3,1),(2,4,1),(3,5,1)]:=lA Q (by kernel_rfl) (by kernel_rfl) (by kernel_rfl)
instance ai5:fX Q 33 z33:=⟨fun G=>by kernel_rfl⟩
instance ai6:cT Q 33 6:=cR
instance ai7:gF Q 33 6:=⟨fun b o s G=>by kernel_rfl⟩
abbrev z35:List Value:=[(.int .i64 0),(.int .i64 0),(.int .i64 0)]
instance ai8:jH Q 35 z35 [(0,0,1),(1,1,1),(2,2,1)]:=lA Q (by kernel_rfl) (by kernel_rfl) (by kernel_rfl)
abbrev z37:List Value:=[(.int .i64 0),(.int .i64 0),(.int .i64 0),(.int .i64 0),(.int .i64 0),(.int .i64 0),(.int .i64 0),(.int .i64 0),(.int .i64 0),(.int .i64 0)]
instance ai9:jH Q 37 z37 [(0,0,6),(1,6,3),(2,9,1)]:=lA Q (by kernel_rfl) (by kernel_rfl) (by kernel_rfl)
instance aja:fX Q 37 z37:=⟨fun G=>by kernel_rfl⟩
instance ajb:cT Q 37 10:=cR
instance ajc:gF Q 37 10:=⟨fun b o s G=>by kernel_rfl⟩
instance ajd:jH Q 39 z39 [(1,1,1),(0,0,1),(2,2,1),(3,3,10)]:=lA Q (by kernel_rfl) (by kernel_rfl) (by kernel_rfl)
instance aje:aJ Q 39 0 0:=aK
abbrev z116:List Value:=(zs 4096 (.int .u64 0))
instance ajf:fX Q 116 z116:=⟨fun G=>by kernel_rfl⟩
abbrev z120:List Value:=[(.pointer none),(.int .i64 0),(.int .i64 0),(.int .i64 0),(.int .u64 0),(.int .u64 0),(.bool false),(.int .i64 0)]
instance ajg:aJ Q 39 3 3:=aK
instance ajh:aJ Q 39 2 2:=aK
instance aji:aJ Q 39 1 1:=aK
abbrev z125:List Value:=[(.bool false),(.int .u64 0),.nilFunc,.nilFunc,.nilFunc,.nilFunc,(.int .i64 0),(.int .i64 0)]
instance ajj:jH Q 125 z125 [(0,0,1),(1,1,1),(4,7,1)]:=lA Q (by kernel_rfl) (by kernel_rfl) (by kernel_rfl)
instance ajk:aJ Q 125 4 7:=aK
instance ajl:eC Q 61:=fh
instance ajm:aJ Q 125 3 6:=aK
instance ajn:fX Q 3 z3:=⟨fun G=>by kernel_rfl⟩
abbrev z123:List Value:=[.nilFunc,.nilFunc,.nilFunc,.nilFunc]
instance ajo:jH Q 123 z123 [(0,0,1),(1,1,1),(2,2,1),(3,3,1)]:=lA Q (by kernel_rfl) (by kernel_rfl) (by kernel_rfl)
instance ajp:aJ Q 125 2 2:=aK
instance ajq:cT Q 123 4:=cR
instance ajr:gF Q 123 4:=⟨fun b o s G=>by kernel_rfl⟩
instance ajs:EC Q 123 4:=⟨fun l k j=>by kernel_rfl⟩
instance ajt:lD Q 75:=⟨fun neg x y=>by cases neg<;>kernel_rfl,fun neg x y a=>by cases neg<;>kernel_rfl,fun neg x y a=>by cases neg<;>kernel_rfl⟩
instance aju:aJ Q 125 0 0:=aK
instance ajv:eC Q 4:=fh
instance ajw:aJ Q 49 8 20:=aK
instance ajx:eC Q 46:=fh
instance ajy:oB Q 46 1:=⟨fun b o s n c k j=>by kernel_rfl⟩
instance ajz:aJ Q 49 4 16:=aK
instance ajA:eC Q 42:=fh
instance ajB:aJ Q 49 1 13:=aK
instance ajC:eC Q 40:=fh
instance ajD:aJ Q 49 6 18:=aK
instance ajE:eC Q 44:=fh
instance ajF:oB Q 44 1:=⟨fun b o s n c k j=>by kernel_rfl⟩
instance ajG:eC Q 63:=fh
instance ajH:aJ Q 49 7 19:=aK
instance ajI:eC Q 45:=fh
instance ajJ:aJ Q 49 0 0:=aK
instance ajK:pD Q 41:=⟨fun a n c=>by kernel_rfl⟩
instance ajL:aJ Q 37 0 0:=aK
instance ajM:aJ Q 33 0 0:=aK
instance ajN:aJ Q 31 2 2:=aK
instance ajO:aJ Q 120 0 0:=aK
instance ajP:eC Q 113:=fh
instance ajQ:lD Q 113:=⟨fun neg x y=>by cases neg<;>kernel_rfl,fun neg x y a=>by cases neg<;>kernel_rfl,fun neg x y a=>by cases neg<;>kernel_rfl⟩
instance ajR:aJ Q 120 1 1:=aK
instance ajS:xl Q 41 1 8 z51:=⟨fun k k' l c G=>by kernel_rfl⟩
instance ajT:BT Q 116 4096 1:=⟨fun a lo hi mx G=>by kernel_rfl⟩
instance ajU:pD Q 131:=⟨fun a n c=>by kernel_rfl⟩
instance ajV:oB Q 131 1:=⟨fun b o s n c k j=>by kernel_rfl⟩
instance ajW:eC Q 114:=fh
instance ajX:pD Q 82:=⟨fun a n c=>by kernel_rfl⟩
instance ajY:oB Q 82 1:=⟨fun b o s n c k j=>by kernel_rfl⟩
abbrev z144:List Value:=[(.pointer none),(.int .u64 0),(.int .u64 0)]
instance ajZ:jH Q 144 z144 [(0,0,1),(1,1,1)]:=lA Q (by kernel_rfl) (by kernel_rfl) (by kernel_rfl)
instance aj0:fX Q 144 z144:=⟨fun G=>by kernel_rfl⟩
instance aj1:cT Q 144 3:=cR
instance aj2:aJ Q 144 0 0:=aK
instance aj3:eC Q 141:=fh
instance aj4:gF Q 144 3:=⟨fun b o s G=>by kernel_rfl⟩
abbrev z112:List Value:=[(.int .i64 0),(.int .i64 0),(.int .i64 0),(.int .i64 0),(.int .i64 0),(.int .i64 0),(.int .i64 0),(.int .i64 0),(.int .i64 0),(.int .i64 0),(.int .i64 0),(.int .i64 0),(.int .i64 0),(.int .i64 0),(.int .u64 0),(.int .i64 0),(.int .u64 0),(.int .u64 0),(.int .i64 0),(.int .u64 0),(.bool false),(.int .i64 0)]
abbrev z99:List Value:=[(.int .i64 0),(.int .i64 0),(.int .i64 0),(.int .i64 0),(.int .i64 0),(.int .i64 0),(.int .i64 0),(.int .i64 0),(.int .i64 0),(.int .i64 0),(.int .i64 0),(.int .i64 0),(.int .i64 0),(.int .i64 0),(.bool false),(.pointer none),(.pointer none),(.int .i64 0),(.int .u64 0),(.int .i64 0),(.int .u64 0),(.int .u64 0),(.int .i64 0),(.int .u64 0),(.bool false),(.int .i64 0)]
instance aj5:fX Q 99 z99:=⟨fun G=>by kernel_rfl⟩
instance aj6:cT Q 99 26:=cR
instance aj7:gF Q 99 26:=⟨fun b o s G=>by kernel_rfl⟩
instance aj8:aJ Q 99 8 24:=aK
abbrev z150:List Value:=[(.int .i64 0),(.int .i64 0)]
instance aj9:fX Q 150 z150:=⟨fun G=>by kernel_rfl⟩
instance aka:cT Q 150 2:=cR
instance akb:aJ Q 150 0 0:=aK
instance akc:aJ Q 99 9 25:=aK
instance akd:cT Q 61 1:=cR
instance ake:aJ Q 96 0 0:=aK
instance akf:zk Q 51 3 .u64 .i64:=⟨fun n=>by kernel_rfl⟩
instance akg:zn Q 118 4 4:=⟨fun l=>by kernel_rfl⟩
instance akh:aJ Q 60 1 1:=aK
abbrev z158:List Value:=[(.int .i64 0),(.int .i64 0),(.int .i64 0),(.int .i64 0),(.int .i64 0),(.int .i64 0),(.int .i64 0),(.int .i64 0),(.int .i64 0),(.int .i64 0),(.int .i64 0),(.int .i64 0),(.int .i64 0),(.int .u64 0),(.int .i64 0),(.int .i64 0),(.int .i64 0),(.int .u64 0),(.int .u64 0),(.int .u64 0),(.slice none 0 0),(.int .u64 0),(.bool false),(.int .i64 0)]
instance aki:aJ Q 158 2 14:=aK
instance akj:aJ Q 158 8 23:=aK
abbrev z155:List Value:=[(.int .i64 0),(.int .i64 0),(.int .u64 0),(.int .u64 0)]
instance akk:xl Q 156 4 32 z155:=⟨fun k k' l c G=>by kernel_rfl⟩
instance akl:aJ Q 158 5 20:=aK
instance akm:cT Q 156 1:=cR
instance akn:eC Q 93:=fh
instance ako:aJ Q 96 3 3:=aK
instance akp:cT Q 94 1:=cR
instance akq:eC Q 94:=fh
instance akr:aJ Q 110 8 20:=aK
instance aks:aJ Q 110 9 21:=aK
instance akt:aJ Q 110 7 19:=aK
instance aku:aJ Q 110 0 0:=aK
instance akv:aJ Q 110 3 14:=aK
instance akw:aJ Q 110 4 15:=aK
instance akx:aJ Q 110 5 16:=aK
instance aky:aJ Q 37 1 6:=aK
instance akz:gF Q 35 3:=⟨fun b o s G=>by kernel_rfl⟩
instance akA:zn Q 31 0 0:=⟨fun l=>by kernel_rfl⟩
abbrev z167:List Value:=[(.int .i64 0),(.int .i64 0),(.bool false)]
instance akB:fX Q 167 z167:=⟨fun G=>by kernel_rfl⟩
instance akC:cT Q 167 3:=cR
instance akD:aJ Q 167 0 0:=aK
instance akE:aJ Q 167 2 2:=aK
instance akF:aJ Q 49 12 24:=aK
instance akG:aJ Q 49 10 22:=aK
instance akH:eC Q 47:=fh
instance akI:pD Q 47:=⟨fun a n c=>by kernel_rfl⟩
abbrev z171:List Value:=[(.int .i64 0),(.int .i64 0),(.int .i64 0),(.int .u64 0)]
instance akJ:jH Q 171 z171 [(0,0,1)]:=lA Q (by kernel_rfl) (by kernel_rfl) (by kernel_rfl)
abbrev z175:List Value:=[(.int .i64 0),(.int .i64 0),(.int .i64 0),(.int .i64 0),(.int .i64 0),(.int .i64 0),(.int .u64 0),(.int .i64 0),(.int .i64 0),(.int .u64 0)]
instance akK:jH Q 175 z175 [(0,0,1),(1,1,1),(2,2,1),(3,3,4)]:=lA Q (by kernel_rfl) (by kernel_rfl) (by kernel_rfl)
instance akL:fX Q 175 z175:=⟨fun G=>by kernel_rfl⟩
instance akM:cT Q 175 10:=cR
instance akN:aJ Q 49 5 17:=aK
instance akO:eC Q 43:=fh
instance akP:pD Q 43:=⟨fun a n c=>by kernel_rfl⟩
instance akQ:cT Q 42 1:=cR
abbrev z42:List Value:=[(.pointer none)]
instance akR:lC Q 43 1 (rep z42 1) 1 [(0,0,1)]:=tP Q (z0:=z42) (by kernel_rfl) rfl (by decide) (by kernel_rfl)
instance akS:xk Q 43 43 1 8:=⟨fun s x G=>by kernel_rfl⟩
instance akT:cT Q 43 1:=cR
instance akU:jH Q 171 z171 [(0,0,1),(1,1,1),(3,3,1)]:=lA Q (by kernel_rfl) (by kernel_rfl) (by kernel_rfl)
instance akV:aJ Q 175 3 3:=aK
instance akW:cT Q 171 4:=cR
instance akX:cT Q 63 1:=cR
instance akY:cT Q 45 1:=cR
instance akZ:aJ Q 171 0 0:=aK
instance ak0:gF Q 175 10:=⟨fun b o s G=>by kernel_rfl⟩
instance ak1:lC Q 47 1 (rep z175 1) 10 [(0,0,10)]:=tP Q (z0:=z175) (by kernel_rfl) rfl (by decide) (by kernel_rfl)
instance ak2:xk Q 47 47 10 80:=⟨fun s x G=>by kernel_rfl⟩
instance ak3:cT Q 47 1:=cR
instance ak4:lD Q 42:=⟨fun neg x y=>by cases neg<;>kernel_rfl,fun neg x y a=>by cases neg<;>kernel_rfl,fun neg x y a=>by cases neg<;>kernel_rfl⟩
instance ak5:aJ Q 179 7 19:=aK
instance ak6:eC Q 177:=fh
abbrev z182:List Value:=[.nilFunc,.nilFunc,.nilFunc,.nilFunc,.nilFunc,.nilFunc,.nilFunc,.nilFunc,.nilFunc,.nilFunc,.nilFunc,.nilFunc,.nilFunc]
instance ak7:fX Q 182 z182:=⟨fun G=>by kernel_rfl⟩
instance ak8:cT Q 182 13:=cR
instance ak9:zm Q 182 13 1:=⟨fun b o s k j=>by kernel_rfl⟩
instance ala:eC Q 181:=fh
instance alb:cT Q 177 1:=cR
instance alc:oB Q 47 10:=⟨fun b o s n c k j=>by kernel_rfl⟩
instance ald:aJ Q 175 2 2:=aK
abbrev z173:List Value:=[(.int .i64 0),(.int .i64 0),(.int .u64 0)]
instance ale:jH Q 173 z173 [(0,0,1),(1,1,1),(2,2,1)]:=lA Q (by kernel_rfl) (by kernel_rfl) (by kernel_rfl)
instance alf:aJ Q 175 4 7:=aK
instance alg:cT Q 173 3:=cR
instance alh:aJ Q 49 9 21:=aK
instance ali:aJ Q 179 1 13:=aK
instance alj:aJ Q 179 13 25:=aK
abbrev z135:List Value:=[(.int .i64 0),(.int .i64 0),(.int .i64 0)]
instance alk:fX Q 135 z135:=⟨fun G=>by kernel_rfl⟩
instance alm:cT Q 135 3:=cR
instance aln:gF Q 135 3:=⟨fun b o s G=>by kernel_rfl⟩
instance alo:aJ Q 135 1 1:=aK
instance alp:aJ Q 135 2 2:=aK
instance alq:eC Q 133:=fh
instance alr:BP Q 133:=⟨fun v=>by kernel_rfl⟩
instance als:aJ Q 135 0 0:=aK
abbrev z139:List Value:=[(.int .i64 0),(.int .i64 0),(.int .i64 0)]
instance alu:fX Q 139 z139:=⟨fun G=>by kernel_rfl⟩
instance alv:cT Q 139 3:=cR
instance alw:gF Q 139 3:=⟨fun b o s G=>by kernel_rfl⟩
instance alx:aJ Q 139 1 1:=aK
instance aly:aJ Q 139 2 2:=aK
instance alz:eC Q 137:=fh
instance alA:BP Q 137:=⟨fun v=>by kernel_rfl⟩
instance alB:aJ Q 139 0 0:=aK
instance alC:zm Q 116 4096 1:=⟨fun b o s k j=>by kernel_rfl⟩
abbrev z118:List Value:=[(.int .i64 0),(.int .i64 0),(.int .u64 0),(.int .u64 0),(.bool false)]
instance alD:fX Q 118 z118:=⟨fun G=>by kernel_rfl⟩
instance alF:cT Q 118 5:=cR
instance alG:aJ Q 120 3 7:=aK
instance alH:aJ Q 120 2 2:=aK
instance alI:aJ Q 118 2 2:=aK
instance alJ:aJ Q 118 3 3:=aK
instance alK:aJ Q 118 4 4:=aK
instance alL:cT Q 114 1:=cR
instance alM:gF Q 118 5:=⟨fun b o s G=>by kernel_rfl⟩
instance alN:aJ Q 144 1 1:=aK
abbrev z110:List Value:=[(.int .i64 0),(.int .i64 0),(.int .i64 0),(.int .i64 0),(.int .i64 0),(.int .i64 0),(.int .i64 0),(.int .i64 0),(.int .i64 0),(.int .i64 0),(.int .i64 0),(.int .i64 0),(.int .i64 0),(.int .i64 0),(.int .u64 0),(.int .i64 0),(.int .u64 0),(.int .u64 0),(.int .i64 0),(.int .u64 0),(.bool false),(.int .i64 0)]
instance alO:fX Q 110 z110:=⟨fun G=>by kernel_rfl⟩
instance alP:cT Q 110 22:=cR
instance alQ:gF Q 110 22:=⟨fun b o s G=>by kernel_rfl⟩
instance alR:jH Q 144 z144 [(0,0,1)]:=lA Q (by kernel_rfl) (by kernel_rfl) (by kernel_rfl)
instance alS:zn Q 118 3 3:=⟨fun l=>by kernel_rfl⟩
abbrev z189:List Value:=[(.int .i64 0),(.int .i64 0),(.int .i64 0),(.int .i64 0)]
instance alT:fX Q 189 z189:=⟨fun G=>by kernel_rfl⟩
instance alU:cT Q 189 4:=cR
instance alV:zm Q 189 2 2:=⟨fun b o s k j=>by kernel_rfl⟩
instance alW:gF Q 188 2:=⟨fun b o s G=>by kernel_rfl⟩
instance alX:gF Q 150 2:=⟨fun b o s G=>by kernel_rfl⟩
instance alY:aJ Q 144 2 2:=aK
instance alZ:aJ Q 158 0 0:=aK
instance al0:lD Q 93:=⟨fun neg x y=>by cases neg<;>kernel_rfl,fun neg x y a=>by cases neg<;>kernel_rfl,fun neg x y a=>by cases neg<;>kernel_rfl⟩
instance al3:aJ Q 158 7 22:=aK
instance al4:aJ Q 158 3 15:=aK
instance al5:aJ Q 155 1 1:=aK
instance al6:aJ Q 155 0 0:=aK
instance al7:aJ Q 155 3 3:=aK
instance al8:aJ Q 155 2 2:=aK
instance al9:aJ Q 158 6 21:=aK
instance ama:aJ Q 158 4 19:=aK
instance amb:aJ Q 158 1 13:=aK
abbrev z197:List Value:=[.nilFunc,(.bool false),(.int .i64 0)]
abbrev z200:List Value:=[.nilFunc,(.bool false),(.int .i64 0),(.int .i64 0),(.int .i64 0),(.int .i64 0),(.int .i64 0),(.int .i64 0),(.int .i64 0),(.int .i64 0),(.int .i64 0),(.int .i64 0),(.int .i64 0),(.int .i64 0),(.pointer none)]
instance amc:aJ Q 200 0 0:=aK
instance amd:aJ Q 197 2 2:=aK
instance ame:aJ Q 197 0 0:=aK
instance amf:cT Q 195 1:=cR
instance amg:lD Q 94:=⟨fun neg x y=>by cases neg<;>kernel_rfl,fun neg x y a=>by cases neg<;>kernel_rfl,fun neg x y a=>by cases neg<;>kernel_rfl⟩
instance amh:gF Q 31 3:=⟨fun b o s G=>by kernel_rfl⟩
instance ami:aJ Q 33 2 4:=aK
instance amj:aJ Q 33 1 3:=aK
instance amk:aJ Q 35 0 0:=aK
instance aml:fX Q 31 z31:=⟨fun G=>by kernel_rfl⟩
instance amm:aJ Q 37 2 9:=aK
instance amn:aJ Q 31 1 1:=aK
instance amo:cT Q 31 3:=cR
instance amp:gF Q 167 3:=⟨fun b o s G=>by kernel_rfl⟩
abbrev z179:List Value:=[(.int .i64 0),(.int .i64 0),(.int .i64 0),(.int .i64 0),(.int .i64 0),(.int .i64 0),(.int .i64 0),(.int .i64 0),(.int .i64 0),(.int .i64 0),(.int .i64 0),(.int .i64 0),(.int .i64 0),(.bool false),(.bool false),(.int .u64 0),(.int .u64 0),(.int .i64 0),(.int .i64 0),(.int .i64 0),(.int .i64 0),(.int .u64 0),(.pointer none),(.pointer none),(.int .u64 0),(.int .i64 0)]
instance amq:aJ Q 179 5 17:=aK
instance amr:gF Q 182 13:=⟨fun b o s G=>by kernel_rfl⟩
instance ams:lD Q 141:=⟨fun neg x y=>by cases neg<;>kernel_rfl,fun neg x y a=>by cases neg<;>kernel_rfl,fun neg x y a=>by cases neg<;>kernel_rfl⟩
abbrev z188:List Value:=[(.int .i64 0),(.int .i64 0)]
instance amt:gF Q 189 4:=⟨fun b o s G=>by kernel_rfl⟩
instance amu:aJ Q 188 0 0:=aK
instance amv:aJ Q 188 1 1:=aK
instance amw:eC Q 156:=fh
instance amx:fX Q 155 z155:=⟨fun G=>by kernel_rfl⟩
instance amy:cT Q 155 4:=cR
instance amz:gF Q 155 4:=⟨fun b o s G=>by kernel_rfl⟩
instance amA:oB Q 156 4:=⟨fun b o s n c k j=>by kernel_rfl⟩
instance amB:aJ Q 200 1 3:=aK
instance amC:zk Q 51 164 .u64 .i64:=⟨fun n=>by kernel_rfl⟩
instance amD:aJ Q 200 2 13:=aK
instance amE:aJ Q 200 3 14:=aK
instance amF:cT Q 198 1:=cR
instance amG:eC Q 195:=fh
instance amH:BU Q 195:=⟨fun neg x y=>by cases neg<;>kernel_rfl,fun neg x y f a b=>by cases neg<;>kernel_rfl⟩
instance amI:aJ Q 31 0 0:=aK
instance amJ:aJ Q 35 2 2:=aK
abbrev z221:List Value:=[(.int .i64 0),(.int .i64 0),(.int .i64 0)]
instance amK:aJ Q 167 1 1:=aK
instance amL:BT Q 189 2 2:=⟨fun a lo hi mx G=>by kernel_rfl⟩
instance amM:aJ Q 179 0 0:=aK
instance amN:aJ Q 179 4 16:=aK
instance amO:aJ Q 179 10 22:=aK
instance amP:aJ Q 179 8 20:=aK
instance amQ:aJ Q 179 3 15:=aK
instance amR:aJ Q 179 12 24:=aK
instance amS:aJ Q 179 6 18:=aK
instance amT:aJ Q 179 2 14:=aK
instance amU:aJ Q 179 9 21:=aK
instance amV:aJ Q 179 11 23:=aK
abbrev z228:List Value:=[(.int .i64 0),(.int .i64 0),(.int .i64 0),(.int .u64 0),(.int .i64 0),(.int .i64 0),(.bool false),(.bool false),(.int .i64 0)]
abbrev z231:List Value:=[(.int .i64 0),(.int .i64 0),(.int .i64 0),(.int .u64 0),(.int .i64 0),(.int .i64 0),(.bool false),(.bool false),(.int .i64 0),.nilFunc]
instance amW:aJ Q 231 0 0:=aK
instance amX:eC Q 198:=fh
instance amY:aJ Q 35 1 1:=aK
instance amZ:pD Q 234:=⟨fun a n c=>by kernel_rfl⟩
instance am0:oB Q 234 3:=⟨fun b o s n c k j=>by kernel_rfl⟩
instance am1:gF Q 221 3:=⟨fun b o s G=>by kernel_rfl⟩
instance am2:fX Q 221 z221:=⟨fun G=>by kernel_rfl⟩
instance am3:cT Q 221 3:=cR
instance am4:aJ Q 221 0 0:=aK
instance am5:aJ Q 221 1 1:=aK
instance am6:aJ Q 221 2 2:=aK
instance am7:pD Q 223:=⟨fun a n c=>by kernel_rfl⟩
instance am8:oB Q 223 2:=⟨fun b o s n c k j=>by kernel_rfl⟩
instance am9:fX Q 188 z188:=⟨fun G=>by kernel_rfl⟩
instance ana:cT Q 188 2:=cR
instance anb:pD Q 156:=⟨fun a n c=>by kernel_rfl⟩
instance anc:aJ Q 228 3 5:=aK
instance ane:aJ Q 231 1 9:=aK
instance anf:cT Q 229 1:=cR
instance ang:aJ Q 228 5 7:=aK
instance anh:aJ Q 228 6 8:=aK
instance ani:lD Q 198:=⟨fun neg x y=>by cases neg<;>kernel_rfl,fun neg x y a=>by cases neg<;>kernel_rfl,fun neg x y a=>by cases neg<;>kernel_rfl⟩
instance anj:eC Q 229:=fh
instance ank:aJ Q 150 1 1:=aK
instance anl:aJ Q 228 0 0:=aK
instance anm:aJ Q 228 1 3:=aK
instance ann:aJ Q 228 2 4:=aK
instance ano:lD Q 239:=⟨fun neg x y=>by cases neg<;>kernel_rfl,fun neg x y a=>by cases neg<;>kernel_rfl,fun neg x y a=>by cases neg<;>kernel_rfl⟩
instance anp:aJ Q 228 4 6:=aK
instance anq:pG Q 41 1 [0] (rep z51 1) 1 [(0,0,1)]:=⟨(tP Q (z0:=z51) (by kernel_rfl) rfl (by decide) (by kernel_rfl)).ok⟩
instance anr:pG Q 22 1 [0] (rep z3 1) 1 [(0,0,1)]:=⟨(tP Q (z0:=z3) (by kernel_rfl) rfl (by decide) (by kernel_rfl)).ok⟩
instance ant:cZ Q 102 [0] z102 [(0,0,26)]:=eP
instance anu:cZ Q 60 [] z60 []:=eP
instance anv:cZ Q 31 [0,1,2] z31 [(0,0,1),(1,1,1),(2,2,1)]:=eP
instance anw:cZ Q 120 [0,1] z120 [(0,0,1),(1,1,1)]:=eP
instance anx:cZ Q 144 [0,1] z144 [(0,0,1),(1,1,1)]:=eP
instance anz:cZ Q 112 [0] z112 [(0,0,22)]:=eP
instance anA:cZ Q 99 [8,2,9] z99 [(8,24,1),(2,17,1),(9,25,1)]:=eP
instance anB:cZ Q 99 [0,8,2] z99 [(0,0,13),(8,24,1),(2,17,1)]:=eP
instance anC:cZ Q 144 [0,1,2] z144 [(0,0,1),(1,1,1),(2,2,1)]:=eP
instance anD:cZ Q 158 [0,1,7] z158 [(0,0,13),(1,13,1),(7,22,1)]:=eP
instance anE:cZ Q 135 [0,1,2] z135 [(0,0,1),(1,1,1),(2,2,1)]:=eP
instance anF:cZ Q 139 [0,1,2] z139 [(0,0,1),(1,1,1),(2,2,1)]:=eP
instance anG:cZ Q 118 [] z118 []:=eP
instance anH:cZ Q 118 [0,1] z118 [(0,0,1),(1,1,1)]:=eP
instance anI:cZ Q 110 [8,2,9] z110 [(8,20,1),(2,13,1),(9,21,1)]:=eP
instance anJ:cZ Q 110 [0,8,2] z110 [(0,0,13),(8,20,1),(2,13,1)]:=eP
instance anK:cZ Q 144 [0] z144 [(0,0,1)]:=eP
instance anL:cZ Q 150 [0,1] z150 [(0,0,1),(1,1,1)]:=eP
instance anM:cZ Q 197 [1] z197 [(1,1,1)]:=eP
instance anN:cZ Q 200 [0,1,2] z200 [(0,0,3),(1,3,10),(2,13,1)]:=eP
instance anO:cZ Q 167 [0,1,2] z167 [(0,0,1),(1,1,1),(2,2,1)]:=eP
instance anP:cZ Q 167 [] z167 []:=eP
instance anQ:cZ Q 179 [0,1,3,4,6,13] z179 [(0,0,13),(1,13,1),(3,15,1),(4,16,1),(6,18,1),(13,25,1)]:=eP
instance anR:cZ Q 182 [1,2,3,4,5,6,7,8,9,10,11,12] z182 [(1,1,1),(2,2,1),(3,3,1),(4,4,1),(5,5,1),(6,6,1),(7,7,1),(8,8,1),(9,9,1),(10,10,1),(11,11,1),(12,12,1)]:=eP
instance anS:cZ Q 188 [0,1] z188 [(0,0,1),(1,1,1)]:=eP
instance anT:cZ Q 189 [0,1] z189 [(0,0,2),(1,2,2)]:=eP
instance anU:cZ Q 221 [0,1,2] z221 [(0,0,1),(1,1,1),(2,2,1)]:=eP
instance anV:pG Q 234 2 [0,1] (rep z221 2) 3 [(0,0,3),(1,3,3)]:=⟨(tP Q (z0:=z221) (by kernel_rfl) rfl (by decide) (by kernel_rfl)).ok⟩
instance anW:pG Q 22 2 [0,1] (rep z3 2) 1 [(0,0,1),(1,1,1)]:=⟨(tP Q (z0:=z3) (by kernel_rfl) rfl (by decide) (by kernel_rfl)).ok⟩
instance anX:cZ Q 228 [0,2,4] z228 [(0,0,3),(2,4,1),(4,6,1)]:=eP
instance anY:cZ Q 231 [0,1] z231 [(0,0,9),(1,9,1)]:=eP
instance anZ:cZ Q 150 [0] z150 [(0,0,1)]:=eP
instance an0:cZ Q 155 [1] z155 [(1,1,1)]:=eP
end
end Go.Proofs.YtkhlabammcghbaaGreat.Lift
