import Derived.Test.YtkhlabammcghbaaGreatPB
set_option linter.unusedVariables false
set_option linter.unusedSimpArgs false
set_option maxRecDepth 20000
namespace Go.Proofs.YtkhlabammcghbaaGreat.Lift
open Go Go.Proofs.YtkhlabammcghbaaGreat.Gh Go.Proofs
section
variable {own own':Nat→Nat} {tag m r b:Nat} {t:TW} {G G':GS} {i:Int} {s:MS}
theorem Sz (ae:FuncId→Bool) (aZ:ae 107=false) (hl:t.gm) (h0:0≤i) (h1:i<t.size) (h:PM own G m s) (hs:s.ok) {p:da} (hp:p.ok t) (ht:tag≠10) (hb:At own tag G b) (hr:pS own tag t G b i p) :
  ∃ ah G1,(E ae).cl 95 [P0 b,P0 m] G=some (.bool (p.step t i s).1.over,G1)∧PW (Own own tag) own G ah G1 m (p.step t i s).2∧pS ah tag t G1 b i (p.step t i s).1:=by
 have wm:∃ ah G1,(E ae).cl 115 [P0 b,P0 m] G=some (.bool (p.step t i s).1.over,G1)∧PW (Own own tag) own G ah G1 m (p.step t i s).2∧pS ah tag t G1 b i (p.step t i s).1:=by
  cases p with
  | done =>
   obtain ⟨u,ho⟩:=hr
   refine ⟨own,G,f115 (aq Q ae) _ _ G _ ?_,PW.refl h,u,ho⟩
   simp [s115,aw,ho,da.step,da.over]
  | looks =>
   have ho:G.obj b=_:=hr
   have hu:=(hs.load t.u9).2
   obtain ⟨ah,G1,e1,w1⟩:=h.load ae t.u9
   simp only [da.step]
   generalize s.load t.u9=s' at *
   generalize s'.new=v at *
   have o1:=(w1.keep hb.lt (by rw [hb.tag]; exact ht) id).trans ho
   have bu:=hb.to w1.nx w1.bH.dm
   have hv:=hu.1
   have ea:xf .u64 v 4294967295=v % 4294967296:=RQ hu
   have eb:(v % 4294967296).tmod 3=v % 4294967296 % 3:=Int.tmod_eq_emod_of_nonneg (by omega)
   have ec:IntKind.wrap .i64 (v % 4294967296 % 3)=v % 4294967296 % 3:=wrap64 (by omega) (by omega)
   have ed:IntKind.wrap .u64 (v % 4294967296 % 3)=v % 4294967296 % 3:=by rw [wrap_u64]; omega
   have ee:IntKind.wrap .u64 (v % 4294967296)=v % 4294967296:=by rw [wrap_u64]; omega
   obtain ⟨G2,e2,x2⟩:=Sy ae t (v % 4294967296 % 3) (G1.room 17)
   have y2:=((Ext.refl G1).room 17).trans x2
   have o2:=(y2.obj b bu.lt).trans o1
   obtain ⟨q,G3,e3,x3,q1,q2,r3⟩:=abV ae (t.wait v) i G2
   have e3':(E ae).cl 137 [.agg ⟨[.int .i64 (IntKind.wrap .i64 (t.u12+v % 4294967296 % 3)),.int .i64 t.links,.int .i64 t.size]⟩,.int .i64 i] G2=some (P0 q,G3):=e3
   have y3:=y2.trans x3
   have o3:=(y3.obj b bu.lt).trans o1
   have w3:=(w1.any (B:=Own own tag)).ej y3 tag
   have dX:=bu.df y3 tag
   have n2:=y2.nx
   have DT:At (grown ah G1 tag) tag G3 q:=At.new (by omega) q2
   have xH:b≠q:=by have:=bu.lt; omega
   generalize grown ah G1 tag=cQ at *
   refine ⟨cQ,(G3.put b (sq t (ub 114 b) i (P0 q))).put b (sq t (ub 138 b) i (P0 q)),f115 (aq Q ae) _ _ G _ ?_,(w3.aW dX.tag ht _).aW dX.tag ht _,q,by simp,(DT.br _ _).br _ _,xH,r3.kept (by rw [cM,if_neg (fun e=>xH e.symm),cM,if_neg (fun e=>xH e.symm)])⟩
   have e4:(E ae).cl 114 [P0 b,P0 m] G=some (ub 138 b,G3.put b (sq t (ub 114 b) i (P0 q))):=by
    refine f114 (aq Q ae) _ _ G _ ?_
    simp [s114,ho,e1,ea,eb,ec,ed,ee,o1,e2,o2,e3',o3]
   simp [s115,aw,ho,e4,da.over]
  | push R p =>
   obtain ⟨q,ho,hq,xH,hr⟩:=hr
   obtain ⟨hR,hpo,SA⟩:=hp
   obtain ⟨ah,G1,e1,w1,r1⟩:=abT ae aZ h hs hR hq.lt (by rw [hq.tag]; exact ht) hpo hr
   have qQ:PW (Own own tag) own G ah G1 m (p.step R s).2:=w1.mono fun x _ hx=>by rw [hx]; exact hq.tag
   have o1:=(w1.keep hb.lt (by rw [hb.tag]; exact ht) xH).trans ho
   have bu:=hb.to w1.nx w1.bH.dm
   have yH:=hq.to w1.nx w1.bH.dm
   simp only [da.step]
   generalize (p.step R s).2=s' at *
   generalize (p.step R s).1=p' at *
   unfold da.after
   cases hz:p'.over with
   | true =>
    rw [hz] at e1
    rw [if_pos rfl]
    have e4:(E ae).cl 138 [P0 b,P0 m] G=some (.nilFunc,G1):=by
     refine f138 (aq Q ae) _ _ G _ ?_
     simp [s138,ho,e1]
    refine ⟨ah,G1.put b (sq t .nilFunc i (P0 q)),f115 (aq Q ae) _ _ G _ ?_,qQ.aW bu.tag ht _,some ⟨q,0,none⟩,by simp⟩
    simp [s115,aw,ho,e4,o1,da.over]
   | false =>
    rw [hz] at e1
    rw [if_neg (by decide)]
    have e4:(E ae).cl 138 [P0 b,P0 m] G=some (ub 138 b,G1):=by
     refine f138 (aq Q ae) _ _ G _ ?_
     simp [s138,ho,e1]
    refine ⟨ah,G1.put b (sq t (ub 138 b) i (P0 q)),f115 (aq Q ae) _ _ G _ ?_,qQ.aW bu.tag ht _,q,by simp,yH.br _ _,xH,r1.kept (by rw [cM,if_neg (fun e=>xH e.symm)])⟩
    simp [s115,aw,ho,e4,o1,da.over]
 obtain ⟨ah,G1,e,w,r⟩:=wm
 refine ⟨ah,G1,f95 (aq Q ae) _ _ G _ ?_,w,r⟩
 simp [s95,e]
end
structure ai where
 line:Int
 a:Int
 w:Int
 i:Int
 level:Int
 key:Int
 job:Int
 ar:Int
 cj:Bool
 err:Int
 find:ao
 ret:da
def ai.below (x:ai):ai:={ x with level:=x.level - 1,line:=if x.level - 1<1 then 7 else 5 }
def ai.l1 (t:TW) (x:ai) (s:MS):ai×MS :=
 let s':=s.load (aN t (-1) 0)
 (if s'.new % 65536 - 1<0∨t.size≤s'.new % 65536 - 1 then { x with ar:=0,a:=s'.new,i:=s'.new % 65536 - 1,line:=99,err:=15 } else { x with ar:=0,a:=s'.new,i:=s'.new % 65536 - 1,line:=2 },s')
def ai.l2 (look:Bool) (t:TW) (x:ai) (s:MS):ai×MS :=
 let s':=s.load (az t x.i 4)
 ({ x with ar:=x.a,w:=s'.new,line:=if aM≤s'.new then 3 else if look then 9 else 4 },s')
def ai.l3 (t:TW) (x:ai) (s:MS):ai×MS:=({ x with ar:=0,line:=1 },s.bM (aN t (-1) 0) x.a (x.w - aM))
def ai.l4 (t:TW) (x:ai) (s:MS):ai×MS :=
 let s':=s.load (az t x.i 2)
 (({ x with ar:=x.a,level:=if s'.new<t.ay then s'.new else t.ay }:ai).below,s')
def ai.l5 (t:TW) (x:ai) (s:MS):ai×MS :=
 let s':=s.load (az t x.i (4+x.level))
 (if aM≤s'.new then ({ x with ar:=x.a,w:=s'.new,line:=6 }:ai).below else { x with ar:=x.a,w:=s'.new,line:=6 },s')
def ai.l6 (t:TW) (x:ai) (s:MS):ai×MS :=
 let s':=s.bM (aN t x.i x.level) x.w (x.w+aM)
 (if s'.held=true then ({ x with ar:=x.a,line:=5 }:ai).below else { x with ar:=x.a,line:=5 },s')
def ai.l7 (t:TW) (x:ai) (s:MS):ai×MS :=
 let s':=s.load (az t x.i 4)
 ({ x with ar:=x.a,w:=s'.new,line:=if aM≤s'.new then 3 else 8 },s')
def ai.l8 (t:TW) (x:ai) (s:MS):ai×MS :=
 let s':=s.bM (aN t x.i 0) x.w (x.w+aM)
 (if s'.held=true then { x with ar:=x.a,cj:=true,line:=9 } else { x with ar:=x.a,line:=7 },s')
def ai.l9 (t:TW) (x:ai) (s:MS):ai×MS :=
 let s':=s.load (az t x.i 0)
 ({ x with ar:=x.a,key:=s'.new,line:=91 },s')
def ai.l91 (look:Bool) (t:TW) (x:ai) (s:MS):ai×MS :=
 let s':=s.load (az t x.i 1)
 (if look then { x with ar:=x.a,job:=s'.new % 65536,line:=99 } else { x with ar:=x.a,job:=s'.new % 65536,line:=10,find:=ao.new t x.key },s')
def ai.l10 (t:TW) (x:ai) (s:MS):ai×MS:=({ x with find:=(x.find.step t s).1,ar:=(x.find.step t s).1.ar,line:=if (x.find.step t s).1.line=9 then 11 else 10 },(x.find.step t s).2)
def ai.l11 (t:TW) (x:ai) (s:MS):ai×MS :=
 let s':=s.add (az t x.i 3) 18446744073709551615
 (if s'.new=0 then { x with ar:=x.a,line:=12,ret:=.looks } else { x with ar:=x.a,line:=99 },s')
def ai.l12 (t:TW) (x:ai) (s:MS):ai×MS:=({ x with ar:=0,ret:=(x.ret.step t x.i s).1,line:=if (x.ret.step t x.i s).1.over=true then 99 else 12 },(x.ret.step t x.i s).2)
def ai.step (look:Bool) (t:TW) (x:ai) (s:MS):ai×MS :=
 if x.line=1 then x.l1 t s else if x.line=2 then x.l2 look t s else if x.line=3 then x.l3 t s else if x.line=4 then x.l4 t s else if x.line=5 then x.l5 t s
 else if x.line=6 then x.l6 t s else if x.line=7 then x.l7 t s else if x.line=8 then x.l8 t s else if x.line=9 then x.l9 t s else if x.line=91 then x.l91 look t s
 else if x.line=10 then x.l10 t s else if x.line=11 then x.l11 t s else if x.line=12 then x.l12 t s else (x,s)
def cI (look:Bool) (l:Int):Prop:=l=1∨l=2∨l=3∨l=9∨l=91∨l=99∨(look=false∧(l=4∨l=5∨l=6∨l=7∨l=8∨l=10∨l=11∨l=12))
structure ai.ok (look:Bool) (t:TW) (x:ai):Prop where
 line:cI look x.line
 a:U x.a
 w:U x.w
 idx:x.line≠1→x.line≠99→0≤x.i∧x.i<t.size
 top:x.line≠1→x.line≠99→x.i=x.a % 65536 - 1
 aQ:-2≤x.level∧x.level≤t.ay∧(x.line=5∨x.line=6→1≤x.level)
 key:U x.key
 ar:U x.ar
 m3:x.line=3→aM≤x.w
 m8:x.line=6∨x.line=8→x.w<aM
 find:x.line=10→x.find.ok t
 ret:x.line=12→x.ret.ok t
section
variable {look:Bool} {t:TW} {x:ai} {s:MS}
theorem ai.Ku (h1:U x.a) (h2:U x.w) (h3:0≤x.i∧x.i<t.size) (pf:x.i=x.a % 65536 - 1) (h4:-1≤x.level∧x.level≤t.ay) (h5:U x.key) (h6:U x.ar):x.below.ok false t:=by
 unfold ai.below
 by_cases h:x.level - 1<1
 ·rw [if_pos h]
  exact ⟨by simp [cI],h1,h2,fun _ _=>h3,fun _ _=>pf,by simp; omega,h5,h6,by simp,by simp,by simp,by simp⟩
 ·rw [if_neg h]
  exact ⟨by simp [cI],h1,h2,fun _ _=>h3,fun _ _=>pf,by simp; omega,h5,h6,by simp,by simp,by simp,by simp⟩
theorem SB {w:Int} (h:U w) (hm:w<aM):U (w+aM):=by have:=h.1; unfold aM at *; unfold U; omega
theorem ai.ok.step (hs:t.sound) (hl:t.gm) (h:x.ok look t) (hm:s.ok):(x.step look t s).1.ok look t∧(x.step look t s).2.ok:=by
 obtain ⟨c1,c2,c3,c4,qU,c5,c6,c7,c8,c9,c10,c11⟩:=h
 have hh:=hs.1
 rcases c1 with e | e | e | e | e | e | ⟨rfl,e | e | e | e | e | e | e | e⟩
 all_goals unfold ai.step; simp only [e]
 ·have hn:=(hm.load (aN t (-1) 0)).2
  simp [ai.l1]
  refine ⟨?_,(hm.load _).1⟩
  split
  ·exact ⟨by simp [cI],hn,c3,by simp,by simp,by simp; omega,c6,gH,by simp,by simp,by simp,by simp⟩
  ·exact ⟨by simp [cI],hn,c3,fun _ _=>by simp only; omega,fun _ _=>rfl,by simp; omega,c6,gH,by simp,by simp,by simp,by simp⟩
 ·have hn:=(hm.load (az t x.i 4)).2
  have hi:=c4 (by omega) (by omega)
  have bG:=qU (by omega) (by omega)
  simp [ai.l2]
  refine ⟨?_,(hm.load _).1⟩
  by_cases hk:aM≤(s.load (az t x.i 4)).new
  ·simp only [hk,if_true]
   exact ⟨by simp [cI],c2,hn,fun _ _=>hi,fun _ _=>bG,by simp; omega,c6,c2,fun _=>hk,by simp,by simp,by simp⟩
  ·cases look with
   | true =>
    simp only [hk,if_false,if_true]
    exact ⟨by simp [cI],c2,hn,fun _ _=>hi,fun _ _=>bG,by simp; omega,c6,c2,by simp,by simp,by simp,by simp⟩
   | false =>
    simp only [hk,if_false,Bool.false_eq_true]
    exact ⟨by simp [cI],c2,hn,fun _ _=>hi,fun _ _=>bG,by simp; omega,c6,c2,by simp,by simp,by simp,by simp⟩
 ·simp [ai.l3]
  exact ⟨⟨by simp [cI],c2,c3,by simp,by simp,by simp; omega,c6,gH,by simp,by simp,by simp,by simp⟩,hm.bM _ _ (Fh c3 (c8 e))⟩
 ·have hn:=(hm.load (az t x.i 0)).2
  have hi:=c4 (by omega) (by omega)
  have bG:=qU (by omega) (by omega)
  simp [ai.l9]
  exact ⟨⟨by simp [cI],c2,c3,fun _ _=>hi,fun _ _=>bG,by simp; omega,hn,c2,by simp,by simp,by simp,by simp⟩,(hm.load _).1⟩
 ·have hn:=(hm.load (az t x.i 1)).2
  have hi:=c4 (by omega) (by omega)
  have bG:=qU (by omega) (by omega)
  simp [ai.l91]
  refine ⟨?_,(hm.load _).1⟩
  cases look with
  | true=>exact ⟨by simp [cI],c2,c3,by simp,by simp,by simp; omega,c6,c2,by simp,by simp,by simp,by simp⟩
  | false=>exact ⟨by simp [cI],c2,c3,fun _ _=>hi,fun _ _=>bG,by simp; omega,c6,c2,by simp,by simp,fun _=>ao.tX hs _,by simp⟩
 ·simp
  exact ⟨⟨by simp [cI,e],c2,c3,by simp [e],by simp [e],⟨c5.1,c5.2.1,c5.2.2⟩,c6,c7,c8,c9,c10,c11⟩,hm⟩
 ·have hn:=(hm.load (az t x.i 2)).2
  have hi:=c4 (by omega) (by omega)
  have bG:=qU (by omega) (by omega)
  simp [ai.l4]
  refine ⟨ai.Ku c2 c3 hi bG ?_ c6 c2,(hm.load _).1⟩
  have:=hn.1
  simp only
  split<;>omega
 ·have hn:=(hm.load (az t x.i (4+x.level))).2
  have hi:=c4 (by omega) (by omega)
  have bG:=qU (by omega) (by omega)
  have hv:=c5.2.2 (.inl e)
  simp [ai.l5]
  refine ⟨?_,(hm.load _).1⟩
  split
  ·exact ai.Ku c2 hn hi bG (by simp only; omega) c6 c2
  ·exact ⟨by simp [cI],c2,hn,fun _ _=>hi,fun _ _=>bG,by simp; omega,c6,c2,by simp,fun _=>by simp only; omega,by simp,by simp⟩
 ·have hi:=c4 (by omega) (by omega)
  have bG:=qU (by omega) (by omega)
  have hv:=c5.2.2 (.inr e)
  have hc:=hm.bM (aN t x.i x.level) x.w (SB c3 (c9 (.inl e)))
  simp [ai.l6]
  refine ⟨?_,hc⟩
  split
  ·exact ai.Ku c2 c3 hi bG (by simp only; omega) c6 c2
  ·exact ⟨by simp [cI],c2,c3,fun _ _=>hi,fun _ _=>bG,by simp; omega,c6,c2,by simp,by simp,by simp,by simp⟩
 ·have hn:=(hm.load (az t x.i 4)).2
  have hi:=c4 (by omega) (by omega)
  have bG:=qU (by omega) (by omega)
  simp [ai.l7]
  refine ⟨?_,(hm.load _).1⟩
  by_cases hk:aM≤(s.load (az t x.i 4)).new
  ·simp only [hk,if_true]
   exact ⟨by simp [cI],c2,hn,fun _ _=>hi,fun _ _=>bG,by simp; omega,c6,c2,fun _=>hk,by simp,by simp,by simp⟩
  ·simp only [hk,if_false]
   exact ⟨by simp [cI],c2,hn,fun _ _=>hi,fun _ _=>bG,by simp; omega,c6,c2,by simp,fun _=>by simp only; omega,by simp,by simp⟩
 ·have hi:=c4 (by omega) (by omega)
  have bG:=qU (by omega) (by omega)
  have hc:=hm.bM (aN t x.i 0) x.w (SB c3 (c9 (.inr e)))
  simp [ai.l8]
  refine ⟨?_,hc⟩
  split
  ·exact ⟨by simp [cI],c2,c3,fun _ _=>hi,fun _ _=>bG,by simp; omega,c6,c2,by simp,by simp,by simp,by simp⟩
  ·exact ⟨by simp [cI],c2,c3,fun _ _=>hi,fun _ _=>bG,by simp; omega,c6,c2,by simp,by simp,by simp,by simp⟩
 ·have hi:=c4 (by omega) (by omega)
  have bG:=qU (by omega) (by omega)
  have hf:=(c10 e).step hs hm
  simp [ai.l10]
  refine ⟨?_,hf.2⟩
  by_cases h9:(x.find.step t s).1.line=9
  ·simp only [h9,if_true]
   exact ⟨by simp [cI],c2,c3,fun _ _=>hi,fun _ _=>bG,by simp; omega,c6,hf.1.ar,by simp,by simp,by simp,by simp⟩
  ·simp only [h9,if_false]
   exact ⟨by simp [cI],c2,c3,fun _ _=>hi,fun _ _=>bG,by simp; omega,c6,hf.1.ar,by simp,by simp,fun _=>hf.1,by simp⟩
 ·have hi:=c4 (by omega) (by omega)
  have bG:=qU (by omega) (by omega)
  simp [ai.l11]
  refine ⟨?_,(hm.add _ _).1⟩
  split
  ·exact ⟨by simp [cI],c2,c3,fun _ _=>hi,fun _ _=>bG,by simp; omega,c6,c2,by simp,by simp,by simp,fun _=>trivial⟩
  ·exact ⟨by simp [cI],c2,c3,by simp,by simp,by simp; omega,c6,c2,by simp,by simp,by simp,by simp⟩
 ·have hi:=c4 (by omega) (by omega)
  have bG:=qU (by omega) (by omega)
  have hr:=da.ok.step (i:=x.i) hl hi.1 hi.2 (c11 e) hm
  simp [ai.l12]
  refine ⟨?_,hr.2⟩
  by_cases h9:(x.ret.step t x.i s).1.over=true
  ·simp only [h9,if_true]
   exact ⟨by simp [cI],c2,c3,by simp,by simp,by simp; omega,c6,gH,by simp,by simp,by simp,by simp⟩
  ·simp only [h9,if_false]
   exact ⟨by simp [cI],c2,c3,fun _ _=>hi,fun _ _=>bG,by simp; omega,c6,gH,by simp,by simp,by simp,fun _=>hr.1⟩
end
structure aj where
 ref:Int
 key:Int
 i:Int
 hi:Int
 eW:Bool
 line:Int
 level:Int
 w:Int
 find:ao
 ret:da
 ar:Int
def ao.spot (x:ao) (l:Int):dy:=(x.told[l.toNat]?).getD ⟨-1,0,0⟩
section
variable (t:TW)
def aj.anew (x:aj) (l:Int):aj:={ x with find:=ao.new t x.key,line:=l }
def aj.up (x:aj):aj:={ x with line:=if x.hi≤x.level then 9 else 4 }
def aj.dp (x:aj) (s:MS) (no yes:Int):aj×MS:=({ x with find:=(x.find.step t s).1,ar:=(x.find.step t s).1.ar,line:=if (x.find.step t s).1.line=9 then yes else no },(x.find.step t s).2)
def aj.l1 (x:aj) (s:MS):aj×MS:=({ (x.dp t s 1 2).1 with level:=if (x.find.step t s).1.line=9 then 0 else x.level },(x.dp t s 1 2).2)
def aj.l2 (x:aj) (s:MS):aj×MS :=
 (if x.level+1<x.hi then { x with ar:=x.ref,level:=x.level+1,line:=2 } else { x with ar:=x.ref,level:=0,line:=3 },s.store (aN t x.i x.level) (x.find.spot x.level).cur)
def aj.iB (x:aj) (s:MS):MS:=s.bM (aN t (x.find.spot x.level).pred x.level) (x.find.spot x.level).cur x.ref
def aj.l3 (x:aj) (s:MS):aj×MS :=
 (if (x.iB t s).held=true then ({ x with ar:=(x.find.spot x.level).known,eW:=true,level:=1 }:aj).up else ({ x with ar:=(x.find.spot x.level).known }:aj).anew t 1,x.iB t s)
def aj.l4 (x:aj) (s:MS):aj×MS :=
 ({ x with ar:=x.ref,w:=(s.load (aN t x.i x.level)).new,line:=if aM≤(s.load (aN t x.i x.level)).new then 9 else if (s.load (aN t x.i x.level)).new=(x.find.spot x.level).cur then 6 else 5 },s.load (aN t x.i x.level))
def aj.l5 (x:aj) (s:MS):aj×MS :=
 ({ x with ar:=x.ref,line:=if (s.bM (aN t x.i x.level) x.w (x.find.spot x.level).cur).held=true then 6 else 9 },s.bM (aN t x.i x.level) x.w (x.find.spot x.level).cur)
def aj.l6 (x:aj) (s:MS):aj×MS :=
 (if (x.iB t s).held=true then ({ x with ar:=(x.find.spot x.level).known,level:=x.level+1 }:aj).up else ({ x with ar:=(x.find.spot x.level).known }:aj).anew t 7,x.iB t s)
def aj.l89 (x:aj) (s:MS) (no:Int):aj×MS :=
 (if aM≤(s.load (aN t x.i 0)).new then ({ x with ar:=x.ref }:aj).anew t 10 else { x with ar:=x.ref,line:=no },s.load (aN t x.i 0))
def aj.l11 (x:aj) (s:MS):aj×MS :=
 (if (s.add (az t x.i 3) 18446744073709551615).new=0 then { x with ar:=x.ref,ret:=.looks,line:=12 } else { x with ar:=x.ref,line:=0 },s.add (az t x.i 3) 18446744073709551615)
def aj.l12 (x:aj) (s:MS):aj×MS:=({ x with ar:=0,ret:=(x.ret.step t x.i s).1,line:=if (x.ret.step t x.i s).1.over=true then 0 else 12 },(x.ret.step t x.i s).2)
def aj.step (x:aj) (s:MS):aj×MS :=
 if x.line=1 then x.l1 t s else if x.line=2 then x.l2 t s else if x.line=3 then x.l3 t s else if x.line=4 then x.l4 t s else if x.line=5 then x.l5 t s
 else if x.line=6 then x.l6 t s else if x.line=7 then x.dp t s 7 8 else if x.line=8 then x.l89 t s 4 else if x.line=9 then x.l89 t s 11
 else if x.line=10 then x.dp t s 10 11 else if x.line=11 then x.l11 t s else if x.line=12 then x.l12 t s else (x,s)
def aj.new (ref key i hi:Int):aj:=⟨ref,key,i,hi,false,1,0,0,ao.new t key,.done,0⟩
end
def ao.tok (t:TW) (x:ao):Prop:=∀ y∈x.told,-1≤y.pred∧y.pred<t.size∧U y.known∧U y.cur
structure aj.ok (t:TW) (x:aj):Prop where
 line:x.line=0∨x.line=1∨x.line=2∨x.line=3∨x.line=4∨x.line=5∨x.line=6∨x.line=7∨x.line=8∨x.line=9∨x.line=10∨x.line=11∨x.line=12
 idx:0≤x.i∧x.i<t.size
 high:1≤x.hi∧x.hi≤t.ay
 ref:U x.ref
 aQ:0≤x.level∧x.level≤x.hi∧(x.line=2∨x.line=4∨x.line=5∨x.line=6∨x.line=7∨x.line=8→x.level<x.hi)∧(x.line=3→x.level=0)
 w:U x.w
 find:x.find.ok t
 tok:x.find.tok t
 zR:x.line=2∨x.line=3∨x.line=4∨x.line=5∨x.line=6∨x.line=8→x.find.line=9
 ret:x.line=12→x.ret.ok t
 ar:U x.ar
section
variable {t:TW} {x:ao} {s:MS} {y:aj}
theorem ao.SC (h:x.tok t) (h3:-1≤x.at_.pred∧x.at_.pred<t.size) (h4:U x.at_.known) (h5:U x.at_.cur):x.tell.tok t:=by
 unfold ao.tell ao.tok
 split<;>(simp only; intro y hy; rcases List.mem_or_eq_of_mem_set hy with hy | rfl<;>first | exact h y hy | exact ⟨h3.1,h3.2,h4,h5⟩)
theorem ao.Kv (h:x.tok t) (h3:-1≤x.at_.pred∧x.at_.pred<t.size) (h4:U x.at_.known) (h5:U x.at_.cur):(x.looks t).tok t:=by
 unfold ao.looks
 split
 ·exact ao.SC h h3 h4 h5
 ·exact h
theorem ao.tok.step (hs:t.sound) (h:x.ok t) (k:x.tok t) (hm:s.ok):(x.step t s).1.tok t:=by
 obtain ⟨c1,c2,c3,c4,c5,c6,c7,c8,c9,c10⟩:=h
 have hl:=fun a=>(hm.load a).2
 rcases c1 with e | e | e | e | e
 all_goals unfold ao.step; simp only [e]
 ·have:=hl (aN t x.at_.pred x.l)
  simp
  split
  ·exact k
  ·exact ao.Kv k c4 c5 this
 ·simp; exact k
 ·simp
  split
  ·exact ao.Kv k c4 c5 (Fh c8 (c9.1 e))
  ·exact k
 ·simp
  have hi:=c7 (.inr (.inr e))
  split
  ·exact ao.SC k c4 c5 c6
  ·refine ao.Kv k ⟨by simp only; omega,?_⟩ c6 c8
   show aF t.size x.at_.cur<t.size
   unfold aF
   split
   ·have:=hs.2.2.1; omega
   ·omega
 ·simp; exact k
theorem ao.SD (hs:t.sound) (key:Int):(ao.new t key).tok t:=by
 intro y hy
 simp only [ao.new,ao.anew,ao.zero] at hy
 rw [List.eq_of_mem_replicate hy]
 exact ⟨by simp,by have:=hs.2.2.1; simp; omega,gH,gH⟩
theorem ao.abX (h:x.ok t) (k:x.tok t) {l:Int} (h0:0≤l) (h1:l<t.ay):-1≤(x.spot l).pred∧(x.spot l).pred<t.size∧U (x.spot l).known∧U (x.spot l).cur:=by
 have hl:=h.told
 have:l.toNat<x.told.length:=by omega
 unfold ao.spot
 rw [List.getElem?_eq_getElem this]
 exact k _ (List.getElem_mem _)
theorem aj.ok.step (hs:t.sound) (dT:t.gm) (h:y.ok t) (hm:s.ok):(y.step t s).1.ok t∧(y.step t s).2.ok:=by
 obtain ⟨c1,c2,c3,c4,c5,c6,c7,c8,c9,c10,c11⟩:=h
 obtain ⟨d1,d2,d3,d4⟩:=c5
 have hf:=c7.step hs hm
 have hk:=ao.tok.step hs c7 c8 hm
 have g5:=fun (h1:y.level<t.ay)=>ao.abX c7 c8 d1 h1
 have nf:=ao.tX hs y.key
 have nk:=ao.SD hs y.key
 rcases c1 with e | e | e | e | e | e | e | e | e | e | e | e | e
 all_goals unfold aj.step; simp only [e]
 ·simp; exact ⟨⟨by simp [e],c2,c3,c4,⟨d1,d2,d3,d4⟩,c6,c7,c8,c9,c10,c11⟩,hm⟩
 ·simp [aj.l1,aj.dp]
  refine ⟨?_,hf.2⟩
  by_cases h9:(y.find.step t s).1.line=9
  ·simp [h9]
   exact ⟨by simp,c2,c3,c4,by simp; omega,c6,hf.1,hk,fun _=>h9,by simp,hf.1.ar⟩
  ·simp [h9]
   exact ⟨by simp,c2,c3,c4,by simp; omega,c6,hf.1,hk,by simp,by simp,hf.1.ar⟩
 ·have h9:=c9 (by simp [e])
  have hv:=d3 (by simp [e])
  simp [aj.l2]
  refine ⟨?_,hm.store _ (g5 (by omega)).2.2.2⟩
  split
  ·exact ⟨by simp,c2,c3,c4,by simp; omega,c6,c7,c8,fun _=>h9,by simp,c4⟩
  ·exact ⟨by simp,c2,c3,c4,by simp; omega,c6,c7,c8,fun _=>h9,by simp,c4⟩
 ·have h9:=c9 (by simp [e])
  have hv:=d4 e
  have hu:=g5 (by omega)
  simp [aj.l3]
  have hh:(y.iB t s).ok:=hm.bM _ _ c4
  refine ⟨?_,hh⟩
  by_cases hq:(y.iB t s).held=true
  ·rw [if_pos hq]
   unfold aj.up
   refine ⟨by simp only; split<;>simp,c2,c3,c4,?_,c6,c7,c8,fun _=>h9,?_,hu.2.2.1⟩
   ·simp only; split<;>simp<;>omega
   ·simp only; split<;>simp
  ·rw [if_neg hq]
   exact ⟨by simp [aj.anew],c2,c3,c4,by simp [aj.anew]; omega,c6,nf,nk,by simp [aj.anew],by simp [aj.anew],hu.2.2.1⟩
 ·have h9:=c9 (by simp [e])
  have hv:=d3 (by simp [e])
  have hl:=(hm.load (aN t y.i y.level))
  simp [aj.l4]
  refine ⟨⟨?_,c2,c3,c4,?_,hl.2,c7,c8,fun _=>h9,?_,c4⟩,hl.1⟩<;>simp only
  ·split
   ·simp
   ·split<;>simp
  ·split
   ·simp; omega
   ·split<;>simp<;>omega
  ·split
   ·simp
   ·split<;>simp
 ·have h9:=c9 (by simp [e])
  have hv:=d3 (by simp [e])
  have hu:=g5 (by omega)
  simp [aj.l5]
  refine ⟨⟨?_,c2,c3,c4,?_,c6,c7,c8,fun _=>h9,?_,c4⟩,hm.bM _ _ hu.2.2.2⟩<;>simp only
  ·split<;>simp
  ·split<;>simp<;>omega
  ·split<;>simp
 ·have h9:=c9 (by simp [e])
  have hv:=d3 (by simp [e])
  have hu:=g5 (by omega)
  simp [aj.l6]
  have hh:(y.iB t s).ok:=hm.bM _ _ c4
  refine ⟨?_,hh⟩
  by_cases hq:(y.iB t s).held=true
  ·rw [if_pos hq]
   unfold aj.up
   refine ⟨by simp only; split<;>simp,c2,c3,c4,?_,c6,c7,c8,fun _=>h9,?_,hu.2.2.1⟩
   ·simp only; split<;>simp<;>omega
   ·simp only; split<;>simp
  ·rw [if_neg hq]
   exact ⟨by simp [aj.anew],c2,c3,c4,by simp [aj.anew]; omega,c6,nf,nk,by simp [aj.anew],by simp [aj.anew],hu.2.2.1⟩
 ·have hv:=d3 (by simp [e])
  simp [aj.dp]
  refine ⟨?_,hf.2⟩
  by_cases h9:(y.find.step t s).1.line=9
  ·simp [h9]
   exact ⟨by simp,c2,c3,c4,by simp; omega,c6,hf.1,hk,fun _=>h9,by simp,hf.1.ar⟩
  ·simp [h9]
   exact ⟨by simp,c2,c3,c4,by simp; omega,c6,hf.1,hk,by simp,by simp,hf.1.ar⟩
 ·have h9:=c9 (by simp [e])
  have hv:=d3 (by simp [e])
  simp [aj.l89]
  refine ⟨?_,(hm.load _).1⟩
  split
  ·exact ⟨by simp [aj.anew],c2,c3,c4,by simp [aj.anew]; omega,c6,nf,nk,by simp [aj.anew],by simp [aj.anew],c4⟩
  ·exact ⟨by simp,c2,c3,c4,by simp; omega,c6,c7,c8,fun _=>h9,by simp,c4⟩
 ·simp [aj.l89]
  refine ⟨?_,(hm.load _).1⟩
  split
  ·exact ⟨by simp [aj.anew],c2,c3,c4,by simp [aj.anew]; omega,c6,nf,nk,by simp [aj.anew],by simp [aj.anew],c4⟩
  ·exact ⟨by simp,c2,c3,c4,by simp; omega,c6,c7,c8,by simp,by simp,c4⟩
 ·simp [aj.dp]
  refine ⟨?_,hf.2⟩
  by_cases h9:(y.find.step t s).1.line=9
  ·simp [h9]
   exact ⟨by simp,c2,c3,c4,by simp; omega,c6,hf.1,hk,by simp,by simp,hf.1.ar⟩
  ·simp [h9]
   exact ⟨by simp,c2,c3,c4,by simp; omega,c6,hf.1,hk,by simp,by simp,hf.1.ar⟩
 ·simp [aj.l11]
  refine ⟨?_,(hm.add _ _).1⟩
  split
  ·exact ⟨by simp,c2,c3,c4,by simp; omega,c6,c7,c8,by simp,fun _=>trivial,c4⟩
  ·exact ⟨by simp,c2,c3,c4,by simp; omega,c6,c7,c8,by simp,by simp,c4⟩
 ·have hr:=da.ok.step (i:=y.i) dT c2.1 c2.2 (c10 e) hm
  simp [aj.l12]
  refine ⟨?_,hr.2⟩
  by_cases h9:(y.ret.step t y.i s).1.over=true
  ·simp [h9]; exact ⟨by simp,c2,c3,c4,by simp; omega,c6,c7,c8,by simp,by simp,gH⟩
  ·simp [h9]; exact ⟨by simp,c2,c3,c4,by simp; omega,c6,c7,c8,by simp,fun _=>hr.1,gH⟩
theorem aj.tX (hs:t.sound) {ref key i hi:Int} (h0:0≤i∧i<t.size) (h1:1≤hi∧hi≤t.ay) (hr:U ref):(aj.new t ref key i hi).ok t :=
 ⟨by simp [aj.new],h0,h1,hr,by simp [aj.new]; omega,gH,ao.tX hs key,ao.SD hs key,by simp [aj.new],by simp [aj.new],gH⟩
end
structure Ar where
 top:Int
 links:Int
 size:Int
 lH:Int
 Cs:Int
 limit:Int
abbrev Ar.R (A:Ar):Sk:=⟨A.top,A.links,A.size⟩
abbrev Ar.cells (A:Ar):List Value:=[.int .i64 A.top,.int .i64 A.links,.int .i64 A.size,.int .i64 A.lH,.int .i64 A.Cs,.int .i64 A.limit]
abbrev Ar.v (A:Ar):Value:=.agg ⟨A.cells⟩
def Ar.ok (A:Ar):Prop:=A.R.ok∧0≤A.lH∧A.lH+A.size≤4096∧0≤A.Cs∧A.Cs<4096∧1≤A.limit∧A.limit≤4294967295
section
variable {m r b c:Nat} {own ah:Nat→Nat} {G G1:GS} {s s':MS} {A:Ar}
end
section
variable {m r b c:Nat} {own ah:Nat→Nat} {G G1:GS} {s s':MS} {A:Ar}
end
section
variable {s:MS} {a b v x y:Int} {k:Int} {u:Int→Int×Bool}
theorem MS.Fj (s:MS) (h:0≤a∧a<s.W.length):s.aS a=(s.W[a.toNat]?).getD 0:=by unfold MS.aS; rw [if_pos h]
theorem Ct (s:MS) (k a:Int) (u:Int→Int×Bool):(s.acc k a u).W.length=s.W.length:=by unfold MS.acc; split<;>simp
theorem Kw (h:0≤a∧a<s.W.length):(s.acc k a u).new=(u (s.aS a)).1∧(s.acc k a u).held=(u (s.aS a)).2:=by
 unfold MS.acc
 rw [if_pos h,s.Fj h]
 exact ⟨rfl,rfl⟩
theorem Cu (h:0≤a∧a<s.W.length) (b:Int):(s.acc k a u).aS b=if b=a then (u (s.aS a)).1 else s.aS b:=by
 have hl:=Ct s k a u
 by_cases hb:0≤b∧b<s.W.length
 ·rw [MS.Fj _ (by rw [hl]; exact hb),s.Fj h,s.Fj hb]
  unfold MS.acc
  rw [if_pos h]
  simp only [List.getElem?_set]
  by_cases e:b=a
  ·subst e
   rw [if_pos rfl,if_pos rfl,if_pos (by omega)]
   rfl
  ·rw [if_neg (by omega),if_neg e]
 ·have e:¬ b=a:=by rintro rfl; exact hb h
  rw [if_neg e]
  unfold MS.aS
  rw [if_neg (by rw [hl]; exact hb),if_neg hb]
theorem SE (h:0≤a∧a<s.W.length):(s.load a).new=s.aS a:=(Kw (k:=1) (u:=si) h).1
theorem Kx (h:0≤a∧a<s.W.length) (b:Int):(s.load a).aS b=s.aS b:=by
 have:=Cu (k:=1) (u:=si) h b
 rw [show (s.load a).aS b=_ from this]
 split
 ·rename_i e; rw [e]; rfl
 ·rfl
theorem SF (s:MS) (a:Int):(s.load a).W.length=s.W.length:=Ct _ _ _ _
theorem xI (h:0≤a∧a<s.W.length) (v b:Int):(s.store a v).aS b=if b=a then v else s.aS b:=Cu (k:=2) (u:=Cj v) h b
theorem qV (s:MS) (a v:Int):(s.store a v).W.length=s.W.length:=Ct _ _ _ _
theorem Fk (h:0≤a∧a<s.W.length) (x y:Int):(s.bM a x y).held=decide (s.aS a=x):=by
 have:=(Kw (k:=3) (u:=pK x y) h).2
 rw [show (s.bM a x y).held=_ from this]
 unfold pK
 split
 ·rename_i e; simp [e]
 ·rename_i e; simp [e]
theorem SG (h:0≤a∧a<s.W.length) (x y b:Int):(s.bM a x y).aS b=if b=a∧s.aS a=x then y else s.aS b:=by
 have:=Cu (k:=3) (u:=pK x y) h b
 rw [show (s.bM a x y).aS b=_ from this]
 unfold pK
 by_cases e:b=a
 ·by_cases e2:s.aS a=x
  ·simp [e,e2]
  ·simp [e,e2]
 ·simp [e]
theorem abY (s:MS) (a x y:Int):(s.bM a x y).W.length=s.W.length:=Ct _ _ _ _
theorem abZ (h:0≤a∧a<s.W.length) (v b:Int):(s.add a v).aS b=if b=a then IntKind.wrap .u64 (s.aS a+v) else s.aS b:=Cu (k:=4) (u:=xA v) h b
end
abbrev Vw:=Int→Int→Int
def Vw.set (c:Vw) (i p v:Int):Vw:=fun j q=>if j=i∧q=p then v else c j q
def um (w:Int):Int:=w % aM
abbrev Mk (w:Int):Prop:=aM≤w
theorem sr {w:Int} (h:U w) (k:¬ Mk w):um w=w:=by have:=h.1; unfold um Mk aM at *; omega
theorem Ky {w:Int} (h:U w) (k:Mk w):um w=w - aM:=by have:=h.2; have:=h.1; unfold um Mk aM at *; omega
theorem SH {w:Int} (h0:0≤w) (h:w<aM):um (w+aM)=w:=by unfold um aM at *; omega
theorem Cv (w:Int):0≤um w∧um w<aM:=by unfold um aM; omega
theorem SI (w:Int):um (um w)=um w:=by unfold um aM; omega
theorem ab0 (w:Int):um w % 65536=w % 65536:=by unfold um aM; omega
theorem SJ (n w:Int):aF n (um w)=aF n w:=by unfold aF; rw [ab0]
theorem Vw.oL (c:Vw) (i p v:Int):c.set i p v i p=v:=by simp [Vw.set]
theorem Vw.nE (c:Vw) {i p j q:Int} (v:Int) (h:¬ (j=i∧q=p)):c.set i p v j q=c j q:=by simp [Vw.set,h]
theorem Vw.jO (c:Vw) {i p j q:Int} (v:Int) (h:j≠i):c.set i p v j q=c j q:=c.nE v fun k=>h k.1
theorem Vw.dg (c:Vw) {i p j q:Int} (v:Int) (h:q≠p):c.set i p v j q=c j q:=c.nE v fun k=>h k.2
def vw (t:TW) (s:MS):Vw:=fun i p=>s.aS (az t i p)
def cd (t:TW) (i p:Int):Prop:=(i= -1∧4≤p∧p<4+t.ay)∨(0≤i∧i<t.size∧0≤p∧p<4+t.ay)
structure fy (t:TW) (N:Nat):Prop where
 sound:t.sound
 Cw:∀ i p,cd t i p→0≤az t i p∧az t i p<N
 inj:∀ i p j q,cd t i p→cd t j q→az t i p=az t j q→i=j∧p=q
section
variable {t:TW} {s:MS} {i p j q v w a:Int} {N:Nat}
theorem SK (h:¬ cd t i p):az t i p= -1:=by
 unfold az cd at *
 split
 ·split
  ·rw [if_neg (fun k=>h (.inl ⟨by assumption,k⟩))]
  ·rw [if_neg (fun k=>h (.inr k))]
 ·rfl
theorem Cy (h:¬ cd t i p):vw t s i p=0:=by
 unfold vw
 rw [SK h]
 unfold MS.aS
 rw [if_neg (by omega)]
theorem Kz (L:fy t s.W.length) (h:cd t i p) {s':MS} (hs:∀ b,s'.aS b=if b=az t i p then v else s.aS b):vw t s' =(vw t s).set i p v:=by
 funext j q
 unfold Vw.set
 by_cases hj:cd t j q
 ·by_cases e:j=i∧q=p
  ·rw [if_pos e]; unfold vw; rw [hs,e.1,e.2,if_pos rfl]
  ·rw [if_neg e]; unfold vw; rw [hs,if_neg]
   intro k
   exact e (L.inj _ _ _ _ hj h k)
 ·rw [Cy hj,if_neg,Cy hj]
  rintro ⟨rfl,rfl⟩; exact hj h
theorem fZ (L:fy t s.W.length) (h:cd t i p):(s.load (az t i p)).new=vw t s i p∧vw t (s.load (az t i p))=vw t s:=by
 have r:=L.Cw _ _ h
 exact ⟨SE r,by funext j q; exact Kx r _⟩
theorem zS (L:fy t s.W.length) (h:cd t i p) (v:Int):vw t (s.store (az t i p) v)=(vw t s).set i p v:=Kz L h (xI (L.Cw _ _ h) v)
theorem pT (L:fy t s.W.length) (h:cd t i p) {x:Int} (v:Int) (e:vw t s i p=x):(s.bM (az t i p) x v).held=true∧vw t (s.bM (az t i p) x v)=(vw t s).set i p v:=by
 have r:=L.Cw _ _ h
 refine ⟨by rw [Fk r]; exact decide_eq_true e,Kz L h fun b=>?_⟩
 rw [SG r]
 by_cases hb:b=az t i p
 ·rw [if_pos ⟨hb,e⟩,if_pos hb]
 ·rw [if_neg (fun k=>hb k.1),if_neg hb]
theorem pU (L:fy t s.W.length) (h:cd t i p) {x:Int} (v:Int) (e:vw t s i p≠x):(s.bM (az t i p) x v).held=false∧vw t (s.bM (az t i p) x v)=vw t s:=by
 have r:=L.Cw _ _ h
 refine ⟨by rw [Fk r]; exact decide_eq_false e,?_⟩
 funext j q
 unfold vw
 rw [SG r,if_neg (fun k=>e k.2)]
theorem SL (L:fy t s.W.length) (h:cd t i p) (v:Int):(s.add (az t i p) v).new=IntKind.wrap .u64 (vw t s i p+v)∧vw t (s.add (az t i p) v)=(vw t s).set i p (IntKind.wrap .u64 (vw t s i p+v)):=by
 have r:=L.Cw _ _ h
 exact ⟨(Kw (k:=4) (u:=xA v) r).1,Kz L h (abZ r v)⟩
theorem gI {l:Int} (h:t.sound) (h0:0≤l) (h1:l<t.ay) (i:Int):aN t i l=az t i (4+l):=by
 have:=h.2.1
 unfold aN; rw [if_pos (by omega)]
theorem jk {l:Int} (h0:0≤l) (h1:l<t.ay) (hi:i= -1∨0≤i∧i<t.size):cd t i (4+l):=by
 rcases hi with e | e
 ·exact .inl ⟨e,by omega,by omega⟩
 ·exact .inr ⟨e.1,e.2,by omega,by omega⟩
theorem ab1 (hs:s.ok):U (vw t s i p):=hs.aS _
end
structure Pl (t:TW) (N:Nat):Prop where
 snd:t.sound
 top:t.top=0
 links:t.links=1
 u6:t.u6=1+t.size
 u7:t.u7=1+2*t.size
 lim:1≤t.u8∧t.u8≤4294967295
 u9:t.u9=2+2*t.size
 u10:t.u10=3+2*t.size
 u11:1≤t.u11∧t.u11≤64
 u12:t.u12=3+2*t.size+t.u11
 cG:t.cG=6+2*t.size+t.u11
 nodes:t.nodes=6+2*t.size+t.u11+t.ay
 fit:t.nodes+t.size*(4+t.ay)≤N
 le:N≤4096
section
variable {t:TW} {N:Nat} {i p j q a v:Int} {s s':MS}
theorem Pl.row (h:Pl t N) (h0:0≤i) (h1:i<t.size):0≤i*(4+t.ay)∧i*(4+t.ay)+(4+t.ay)≤t.size*(4+t.ay):=by
 have hh:=h.snd.1
 have a:=Int.mul_nonneg h0 (show 0≤4+t.ay by omega)
 have b:=Int.mul_le_mul_of_nonneg_right (show i+1≤t.size by omega) (show 0≤4+t.ay by omega)
 rw [Int.add_mul] at b
 omega
theorem Pl.zT (h:Pl t N) (h0:4≤p∧p<4+t.ay):az t (-1) p=t.cG+(p - 4):=by
 unfold az; rw [if_pos h.snd,if_pos rfl,if_pos h0]
theorem Pl.zU (h:Pl t N) (h0:0≤i∧i<t.size∧0≤p∧p<4+t.ay):az t i p=t.nodes+i*(4+t.ay)+p:=by
 unfold az; rw [if_pos h.snd,if_neg (by omega),if_pos h0]
theorem Pl.sv (h:Pl t N):fy t N:=by
 have hh:=h.snd.1
 have e1:=h.cG; have e2:=h.nodes; have e3:=h.fit
 have z1:=h.snd.2.2.1
 have z2:=h.u11.1
 have mz:0≤t.size*(4+t.ay):=Int.mul_nonneg (by omega) (by omega)
 refine ⟨h.snd,fun i p hp=>?_,fun i p j q hp hq e=>?_⟩
 ·rcases hp with ⟨rfl,hp⟩ | hp
  ·rw [h.zT hp]; omega
  ·rw [h.zU hp]; have:=h.row hp.1 hp.2.1; omega
 ·rcases hp with ⟨rfl,hp⟩ | hp<;>rcases hq with ⟨rfl,hq⟩ | hq
  ·rw [h.zT hp,h.zT hq] at e; exact ⟨rfl,by omega⟩
  ·rw [h.zT hp,h.zU hq] at e; have:=h.row hq.1 hq.2.1; omega
  ·rw [h.zU hp,h.zT hq] at e; have:=h.row hp.1 hp.2.1; omega
  ·rw [h.zU hp,h.zU hq] at e
   have gD:i=j:=by
    rcases Int.lt_trichotomy i j with k | k | k
    ·have:=Int.mul_le_mul_of_nonneg_right (show i+1≤j by omega) (show 0≤4+t.ay by omega)
     rw [Int.add_mul] at this
     omega
    ·exact k
    ·have:=Int.mul_le_mul_of_nonneg_right (show j+1≤i by omega) (show 0≤4+t.ay by omega)
     rw [Int.add_mul] at this
     omega
   subst gD
   exact ⟨rfl,by omega⟩
theorem Pl.hi (h:Pl t N) (hp:cd t i p):t.cG≤az t i p∧az t i p<N:=by
 have e1:=h.cG; have e2:=h.nodes; have e3:=h.fit
 have:=h.snd.1
 have mz:0≤t.size*(4+t.ay):=Int.mul_nonneg (by have:=h.snd.2.2.1; omega) (by omega)
 rcases hp with ⟨rfl,hp⟩ | hp
 ·rw [h.zT hp]; omega
 ·rw [h.zU hp]
  have:=h.row hp.1 hp.2.1
  omega
theorem Pl.fits (h:Pl t N):t.cG+t.ay≤N:=by
 have e1:=h.cG; have e2:=h.nodes; have e3:=h.fit
 have mz:0≤t.size*(4+t.ay):=Int.mul_nonneg (by have:=h.snd.2.2.1; omega) (by have:=h.snd.1; omega)
 omega
theorem Pl.gm (h:Pl t N):t.gm:=by
 have:=h.links; have:=h.u12; have:=h.fits; have:=h.cG; have:=h.snd.1; have:=h.snd.2.2.1; have:=h.snd.2.2.2.1; have:=h.u11.1; have:=h.le
 refine ⟨?_,?_,?_,?_,?_,?_⟩<;>omega
end
structure Lw (t:TW) (s s':MS):Prop where
 len:s'.W.length=s.W.length
 low:∀ b,b<t.cG→s'.aS b=s.aS b
section
variable {t:TW} {s s' s1:MS} {a b v x k:Int} {u:Int→Int×Bool} {N:Nat} {f:ao} {y:aj}
theorem Fl (h:b≠a):(s.acc k a u).aS b=s.aS b:=by
 by_cases ha:0≤a∧a<s.W.length
 ·rw [Cu ha,if_neg h]
 ·unfold MS.acc
  rw [if_neg ha]
  rfl
theorem SM (h:¬ (0≤a∧a<s.W.length)):(s.acc k a u).aS b=s.aS b:=by
 unfold MS.acc
 rw [if_neg h]
 rfl
theorem SN (s:MS) (a b:Int):(s.load a).aS b=s.aS b:=by
 by_cases ha:0≤a∧a<s.W.length
 ·exact Kx ha b
 ·exact SM ha
theorem Lw.refl (t:TW) (s:MS):Lw t s s:=⟨rfl,fun _ _=>rfl⟩
theorem Lw.acc (h:0≤t.cG) (ha:a= -1∨t.cG≤a):Lw t s (s.acc k a u):=by
 refine ⟨Ct _ _ _ _,fun b hb=>?_⟩
 rcases ha with rfl | ha
 ·exact SM (by omega)
 ·exact Fl (by omega)
theorem Cz (h:Pl t N) (i p:Int):az t i p= -1∨t.cG≤az t i p:=by
 by_cases hp:cd t i p
 ·exact .inr (h.hi hp).1
 ·exact .inl (SK hp)
theorem xJ (h:Pl t N) (i l:Int):aN t i l= -1∨t.cG≤aN t i l:=by
 unfold aN
 split
 ·exact Cz h _ _
 ·exact .inl rfl
theorem Pl.h0 (h:Pl t N):0≤t.cG:=h.snd.2.2.2.2.2.2.1
theorem Lw.find (h:Pl t N):Lw t s (f.step t s).2:=by
 have n:=fun i l=>Lw.acc (s:=s) (u:=si) (k:=1) h.h0 (xJ h i l)
 have a:=fun i p=>Lw.acc (s:=s) (u:=si) (k:=1) h.h0 (Cz h i p)
 have c:=fun i l x v=>Lw.acc (s:=s) (u:=pK x v) (k:=3) h.h0 (xJ h i l)
 unfold ao.step
 simp only
 split
 ·exact Lw.refl _ _
 split
 ·exact n _ _
 split
 ·split
  ·exact c _ _ _ _
  ·exact c _ _ _ _
 split
 ·split
  ·exact a _ _
  ·exact a _ _
 ·split
  ·exact n _ _
  ·exact n _ _
theorem Lw.ins (h:Pl t N) (hl:y.line≠12):Lw t s (y.step t s).2:=by
 have n:=fun i l=>Lw.acc (s:=s) (u:=si) (k:=1) h.h0 (xJ h i l)
 have a:=fun i p v=>Lw.acc (s:=s) (u:=xA v) (k:=4) h.h0 (Cz h i p)
 have c:=fun i l x v=>Lw.acc (s:=s) (u:=pK x v) (k:=3) h.h0 (xJ h i l)
 have w:=fun i l v=>Lw.acc (s:=s) (u:=Cj v) (k:=2) h.h0 (xJ h i l)
 have F:Lw t s (y.find.step t s).2:=Lw.find h
 unfold aj.step
 split
 ·exact F
 split
 ·exact w _ _ _
 split
 ·exact c _ _ _ _
 split
 ·exact n _ _
 split
 ·exact c _ _ _ _
 split
 ·exact c _ _ _ _
 split
 ·exact F
 split
 ·exact n _ _
 split
 ·exact n _ _
 split
 ·exact F
 split
 ·exact a _ _ _
 ·exact Lw.refl _ _
end
def iC (c:Vw) (rf:Int→Int) (l:Int):Int→List Int→Prop
 | p,[]=>um (c p (4+l))=0
 | p,i::L=>um (c p (4+l))=rf i∧iC c rf l i L
def fm (c:Vw) (rf:Int→Int) (l:Int):Int→List Int→Int→Prop
 | p,[],q=>p=q
 | p,i::L,q=>um (c p (4+l))=rf i∧fm c rf l i L q
section
variable {c c':Vw} {rf:Int→Int} {l p q i j v:Int} {A B L:List Int}
theorem iC.split (h:iC c rf l p (A++B)):∃ q,fm c rf l p A q∧iC c rf l q B:=by
 induction A generalizing p with
 | nil=>exact ⟨p,rfl,h⟩
 | cons a A ih=>obtain ⟨q,h1,h2⟩:=ih h.2; exact ⟨q,⟨h.1,h1⟩,h2⟩
theorem fm.oM (h:fm c rf l p A q) (k:iC c rf l q B):iC c rf l p (A++B):=by
 induction A generalizing p with
 | nil=>cases h; exact k
 | cons a A ih=>exact ⟨h.1,ih h.2⟩
theorem fm.end (h:fm c rf l p A q):(A=[]∧q=p)∨∃ A',A=A' ++[q]:=by
 induction A generalizing p with
 | nil=>exact .inl ⟨rfl,h.symm⟩
 | cons a A ih =>
  rcases ih h.2 with ⟨rfl,rfl⟩ | ⟨A',rfl⟩
  ·exact .inr ⟨[],rfl⟩
  ·exact .inr ⟨a::A',rfl⟩
theorem iC.at (h:iC c rf l p L) (hq:q=p∨q∈L) (hp:p∉L):∃ A B,L=A++B∧fm c rf l p A q∧iC c rf l q B:=by
 rcases hq with rfl | hq
 ·exact ⟨[],L,rfl,rfl,h⟩
 ·obtain ⟨A,B,rfl⟩:=List.append_of_mem hq
  have e:A++q::B=(A++[q])++B:=by simp
  rw [e] at h ⊢
  obtain ⟨r,h1,h2⟩:=h.split
  have:r=q:=by
   rcases h1.end with ⟨h3,_⟩ | ⟨A',h3⟩
   ·simp at h3
   ·have:=List.append_inj' h3 rfl
    simpa using this.2.symm
  subst this
  exact ⟨A++[r],B,rfl,h1,h2⟩
theorem iC.same (h:iC c rf l p L) (k:∀ q,q=p∨q∈L→um (c' q (4+l))=um (c q (4+l))):iC c' rf l p L:=by
 induction L generalizing p with
 | nil=>exact (k p (.inl rfl)).trans h
 | cons a L ih=>exact ⟨(k p (.inl rfl)).trans h.1,ih h.2 fun q hq=>k q (.inr (by simpa using hq))⟩
theorem fm.same (h:fm c rf l p A q) (k:∀ r,r∈(p::A).dropLast→um (c' r (4+l))=um (c r (4+l))):fm c' rf l p A q:=by
 induction A generalizing p with
 | nil=>exact h
 | cons a A ih=>exact ⟨(k p (by simp)).trans h.1,ih h.2 fun r hr=>k r (by simp only [List.dropLast_cons_cons]; exact List.mem_cons_of_mem _ hr)⟩
theorem fm.KA (h:fm c rf l p A q) (hn:(p::(A++B)).Nodup):q∉(p::A).dropLast∧q∉B:=by
 rcases h.end with ⟨rfl,rfl⟩ | ⟨A',rfl⟩
 ·simp at hn ⊢
  exact hn.1
 ·have e:(p::(A' ++[q])).dropLast=p::A':=by
   rw [show p::(A' ++[q])=(p::A')++[q] from rfl,List.dropLast_concat]
  rw [e]
  simp [List.nodup_append] at hn ⊢
  grind
theorem iC.unlink (h:iC c rf l p (A++j::B)) (hq:fm c rf l p A q) (hn:(p::(A++j::B)).Nodup):iC (c.set q (4+l) (um (c j (4+l)))) rf l p (A++B):=by
 obtain ⟨r,h1,h2⟩:=h.split
 have e:r=q:=by
  clear h2 hn h
  induction A generalizing p with
  | nil=>exact h1.symm.trans hq
  | cons a A ih=>exact ih hq.2 h1.2
 subst e
 obtain ⟨n1,n2⟩:=h1.KA hn
 have hj:j≠r:=fun e=>n2 (by simp [e])
 have hB:r∉B:=fun hb=>n2 (by simp [hb])
 refine fm.oM (h1.same fun z hz=>?_) ?_
 ·rw [Vw.jO _ _ (fun e=>n1 (by rw [← e]; exact hz))]
 ·have h3:=h2.2
  cases B with
  | nil =>
   show um _=0
   rw [Vw.oL,SI]
   exact h3
  | cons b B =>
   refine ⟨by rw [Vw.oL,SI]; exact h3.1,h3.2.same fun z hz=>?_⟩
   rw [Vw.jO]
   rintro rfl
   exact hB (by simpa using hz)
theorem iC.link (h:iC c rf l p (A++B)) (hq:fm c rf l p A q) (hn:(p::(A++B)).Nodup) (hi:i∉p::(A++B)) (hw:um (c i (4+l))=um (c q (4+l))) (hr:um (rf i)=rf i):iC (c.set q (4+l) (rf i)) rf l p (A++i::B):=by
 obtain ⟨r,h1,h2⟩:=h.split
 have e:r=q:=by
  clear h2 hn h hw hi
  induction A generalizing p with
  | nil=>exact h1.symm.trans hq
  | cons a A ih=>exact ih hq.2 h1.2
 subst e
 obtain ⟨n1,n2⟩:=h1.KA hn
 have SP:i≠r:=by
  rintro rfl
  rcases h1.end with ⟨rfl,rfl⟩ | ⟨A',rfl⟩
  ·exact hi (by simp)
  ·exact hi (by simp)
 refine fm.oM (h1.same fun z hz=>?_) ⟨by rw [Vw.oL]; exact hr,?_⟩
 ·rw [Vw.jO _ _ (fun e=>n1 (by rw [← e]; exact hz))]
 ·cases B with
  | nil =>
   show um _=0
   rw [Vw.jO _ _ SP,hw]
   exact h2
  | cons b B =>
   refine ⟨by rw [Vw.jO _ _ SP,hw]; exact h2.1,h2.2.same fun z hz=>?_⟩
   rw [Vw.jO]
   rintro rfl
   exact n2 (by simpa using hz)
end
structure Sh where
 c:Vw
 C:Int→List Int
 born:Int→Int→Prop
 ld:Int→Prop
 rf:Int→Int
 bz:Int→Prop
structure aP (t:TW) (g:Sh):Prop where
 rf:∀ i,0≤i→i<t.size→aF t.size (g.rf i)=i∧0<g.rf i∧g.rf i<aM
 u:∀ i p,U (g.c i p)
 oM:∀ l,0≤l→l<t.ay→iC g.c g.rf l (-1) (g.C l)
 hd:∀ l,0≤l→l<t.ay→¬ Mk (g.c (-1) (4+l))
 ma:∀ l,0≤l→l<t.ay→(g.C l).Pairwise fun a b=>g.c a 0<g.c b 0
 jl:∀ l i,0≤l→l<t.ay→i∈g.C l→g.born l i
 bo:∀ l i,g.born l i→0≤i∧i<t.size∧0≤l∧l<t.ay∧g.ld i∧l<g.c i 2
 dn:∀ l l' i,g.born l i→0≤l' →l' ≤l→g.born l' i
 hi:∀ i,g.ld i→0≤i∧i<t.size∧1≤g.c i 2∧g.c i 2≤t.ay
 on:∀ l i,g.born l i→¬ Mk (g.c i (4+l))→i∈g.C l
 up:∀ l l' i,g.born 0 i→0≤l→l<l' →l' <g.c i 2→Mk (g.c i (4+l))→Mk (g.c i (4+l'))
 vH:∀ i j,g.ld i→g.ld j→g.c i 0=g.c j 0→i=j
structure cC (t:TW) (own kn:Int→Prop) (g g':Sh):Prop where
 rf:∀ i,kn i→g'.rf i=g.rf i
 ld:∀ i,kn i→g.ld i→g'.ld i
 born:∀ l i,kn i→g.born l i→g'.born l i
 fix:∀ i p,kn i→g.ld i→p=0∨p=1∨p=2→g'.c i p=g.c i p
 mark:∀ l i,kn i→g.born 0 i→0≤l→Mk (g.c i (4+l))→g'.c i (4+l)=g.c i (4+l)
 back:∀ l i,kn i→g.born 0 i→¬ g.bz i→0≤l→l<t.ay→i∈g'.C l→i∈g.C l
 Fm:∀ i,kn i→g.born 0 i→¬ g.bz i→¬ g'.bz i
 bzo:∀ i,kn i→g.born 0 i→g.bz i→¬ g'.bz i→Mk (g'.c i 4)→∀ l,0≤l→l<t.ay→i∉g'.C l
 KB:∀ l i,own i→g'.born l i→g.born l i
 SQ:∀ l i,own i→0≤l→l<t.ay→i∈g'.C l→i∈g.C l
 ab2:∀ i p,own i→¬ g.born 0 i→g'.c i p=g.c i p
 ab3:∀ l i,own i→g.born 0 i→¬ g.born l i→0≤l→g'.c i (4+l)=g.c i (4+l)∨(¬ Mk (g.c i (4+l))∧g'.c i (4+l)=g.c i (4+l)+aM)
 KC:∀ i,own i→(g'.bz i↔g.bz i)
def gJ (C:Int→List Int) (l:Int) (L:List Int):Int→List Int:=fun k=>if k=l then L else C k
section
variable {t:TW} {own kn:Int→Prop} {g g':Sh} {l p i j v:Int} {A B:List Int}
theorem cC.refl (t:TW) (own kn:Int→Prop) (g:Sh):cC t own kn g g :=
 ⟨fun _ _=>rfl,fun _ _ h=>h,fun _ _ _ h=>h,fun _ _ _ _ _=>rfl,fun _ _ _ _ _ _=>rfl,fun _ _ _ _ _ _ _ h=>h,fun _ _ _ h=>h,fun _ _ _ h k=>absurd h k,fun _ _ _ h=>h,fun _ _ _ _ _ h=>h,fun _ _ _ _=>rfl,fun _ _ _ _ _ _=>.inl rfl,fun _ _=>Iff.rfl⟩
theorem aP.vI (h:aP t g) (hb:g.born l i):g.born 0 i:=h.dn l 0 i hb (by omega) (h.bo _ _ hb).2.2.1
theorem aP.SR (h:aP t g) (h0:0≤l) (h1:l<t.ay) (hi:i∈g.C l):g.born 0 i:=h.vI (h.jl l i h0 h1 hi)
theorem aP.nodup (h:aP t g) (h0:0≤l) (h1:l<t.ay):((-1)::g.C l).Nodup:=by
 refine List.nodup_cons.2 ⟨fun hm=>?_,(h.ma l h0 h1).imp fun ng e=>by subst e; omega⟩
 have:=(h.bo _ _ (h.jl l _ h0 h1 hm)).1
 omega
theorem aP.ab4 (h:aP t g) (h0:0≤i) (h1:i<t.size):um (g.rf i)=g.rf i:=sr ⟨by have:=(h.rf i h0 h1).2; omega,by have:=(h.rf i h0 h1).2.2; unfold aM at this; omega⟩ (by have:=(h.rf i h0 h1).2.2; unfold Mk; omega)
structure eZ (t:TW) (g:Sh) (l p:Int):Prop where
 l0:0≤l
 l1:l<t.ay
 on:p= -1∨g.born l p
 um:¬ Mk (g.c p (4+l))
theorem eZ.mem (h:aP t g) (hp:eZ t g l p):p= -1∨p∈g.C l:=hp.on.imp id fun k=>h.on l p k hp.um
theorem eZ.split (h:aP t g) (hp:eZ t g l p):∃ A B,g.C l=A++B∧fm g.c g.rf l (-1) A p∧iC g.c g.rf l p B :=
 (h.oM l hp.l0 hp.l1).at (hp.mem h) (List.nodup_cons.1 (h.nodup hp.l0 hp.l1)).1
def Sh.unlink (g:Sh) (l p j:Int) (L:List Int):Sh:={ g with c:=g.c.set p (4+l) (um (g.c j (4+l))),C:=gJ g.C l L }
theorem KD (c:Vw) {i p:Int} {v:Int} (hv:Mk v↔Mk (c i p)) (j q:Int):Mk (c.set i p v j q)↔Mk (c j q):=by
 unfold Vw.set
 split
 ·rename_i e; rw [e.1,e.2]; exact hv
 ·exact Iff.rfl
theorem aP.unlink (h:aP t g) (hp:eZ t g l p) (hC:g.C l=A++j::B) (hP:fm g.c g.rf l (-1) A p) (hj:Mk (g.c j (4+l))):aP t (g.unlink l p j (A++B)):=by
 have hn:=h.nodup hp.l0 hp.l1
 have Fp:=Cv (g.c j (4+l))
 have hm:∀ j' q,Mk ((g.unlink l p j (A++B)).c j' q)↔Mk (g.c j' q):=KD _ ⟨fun k=>absurd k (by unfold Mk; omega),fun k=>absurd k hp.um⟩
 have kz:∀ j' q,q≤3→(g.unlink l p j (A++B)).c j' q=g.c j' q:=fun j' q hq=>g.c.dg _ (by have:=hp.l0; omega)
 have Ou:j≠p:=by rintro rfl; exact hp.um hj
 have xK:∀ l' i,i∈(g.unlink l p j (A++B)).C l' →i∈g.C l':=fun l' i hi=>by
  unfold Sh.unlink gJ at hi
  simp only at hi
  split at hi
  ·rename_i e; rw [e,hC]; simp at hi ⊢; exact hi.elim .inl fun k=>.inr (.inr k)
  ·exact hi
 refine ⟨h.rf,fun i q=>?_,fun l' h0 h1=>?_,fun l' h0 h1 k=>h.hd l' h0 h1 ((hm _ _).1 k),fun l' h0 h1=>?_,fun l' i h0 h1 hi=>h.jl l' i h0 h1 (xK l' i hi),fun l' i hb=>?_,h.dn,fun i hi=>?_,fun l' i hb hk=>?_,fun l1 l2 i hb h0 h1 h2 hk=>(hm _ _).2 (h.up l1 l2 i hb h0 h1 (by rw [kz _ _ (by omega)] at h2; exact h2) ((hm _ _).1 hk)),fun i i' hi bG hk=>h.vH i i' hi bG (by rwa [kz _ _ (by omega),kz _ _ (by omega)] at hk)⟩
 ·show U (g.c.set p (4+l) _ i q)
  unfold Vw.set
  split
  ·exact ⟨Fp.1,by have:=Fp.2; unfold aM at this; omega⟩
  ·exact h.u i q
 ·by_cases e:l' =l
  ·subst e
   have:=h.oM l' h0 h1
   rw [hC] at this hn
   simpa [Sh.unlink,gJ] using this.unlink hP hn
  ·have:=h.oM l' h0 h1
   simp only [Sh.unlink,gJ,if_neg e]
   exact this.same fun q _=>by rw [g.c.dg _ (by omega)]
 ·have:=h.ma l' h0 h1
  by_cases e:l' =l
  ·subst e
   rw [hC] at this
   simp only [Sh.unlink,gJ,if_true]
   refine (this.sublist ((List.Sublist.refl A).append (List.sublist_cons_self j B))).imp fun {a b} ng=>?_
   rw [g.c.dg _ (by have:=hp.l0; omega),g.c.dg _ (by have:=hp.l0; omega)]; exact ng
  ·simp only [Sh.unlink,gJ,if_neg e]
   refine this.imp fun {a b} ng=>?_
   rw [g.c.dg _ (by have:=hp.l0; omega),g.c.dg _ (by have:=hp.l0; omega)]; exact ng
 ·have:=h.bo l' i hb
  rw [kz _ _ (by omega)]; exact this
 ·have:=h.hi i hi
  rw [kz _ _ (by omega)]; exact this
 ·have h1:=h.on l' i hb (fun k=>hk ((hm _ _).2 k))
  by_cases e:l' =l
  ·subst e
   have gD:i≠j:=by rintro rfl; exact hk ((hm _ _).2 hj)
   rw [hC] at h1
   simp [Sh.unlink,gJ] at h1 ⊢
   exact h1.elim .inl fun k=>k.elim (fun e=>absurd e gD) .inr
  ·simpa [Sh.unlink,gJ,e] using h1
theorem cC.unlink (ho:∀ i,own i→0≤i) (h:aP t g) (hp:eZ t g l p) (hC:g.C l=A++j::B):cC t own kn g (g.unlink l p j (A++B)):=by
 have xK:∀ l' i,i∈(g.unlink l p j (A++B)).C l' →i∈g.C l':=fun l' i hi=>by
  unfold Sh.unlink gJ at hi
  simp only at hi
  split at hi
  ·rename_i e; rw [e,hC]; simp at hi ⊢; exact hi.elim .inl fun k=>.inr (.inr k)
  ·exact hi
 have l0:=hp.l0
 refine ⟨fun _ _=>rfl,fun _ _ h=>h,fun _ _ _ h=>h,fun i q _ _ hq=>g.c.dg _ (by omega),fun l' i _ hb _ hk=>g.c.nE _ ?_,fun l' i _ _ _ _ _ hi=>xK _ _ hi,fun _ _ _ h=>h,fun _ _ _ h k=>absurd h k,fun _ _ _ h=>h,fun l' i _ _ _ hi=>xK _ _ hi,fun i q yO hb=>g.c.jO _ ?_,fun l' i _ hb fG _=>.inl (g.c.nE _ ?_),fun _ _=>Iff.rfl⟩
 ·rintro ⟨rfl,e⟩
  rw [show l' =l by omega] at hk
  exact hp.um hk
 ·rintro rfl
  rcases hp.on with e | e
  ·have:=ho _ yO; omega
  ·exact hb (h.vI e)
 ·rintro ⟨rfl,e⟩
  rcases hp.on with e' | e'
  ·have:=(h.bo _ _ hb).1; omega
  ·rw [show l' =l by omega] at fG; exact fG e'
end
def Sh.link (g:Sh) (l p i:Int) (L:List Int):Sh:={ g with c:=g.c.set p (4+l) (g.rf i),C:=gJ g.C l L,born:=fun l' j=>g.born l' j∨(l' =l∧j=i),bz:=fun j=>g.bz j∨(l=0∧j=i) }
structure CA (t:TW) (g:Sh) (l p i:Int) (A B:List Int):Prop where
 hp:eZ t g l p
 hC:g.C l=A++B
 hP:fm g.c g.rf l (-1) A p
 nb:¬ g.born l i
 ld:g.ld i
 lh:l<g.c i 2
 w:um (g.c i (4+l))=g.c p (4+l)
 kA:∀ a∈A,g.c a 0<g.c i 0
 kB:∀ b∈B,g.c i 0<g.c b 0
 low:l=0→∀ l',0≤l' →l' <g.c i 2→¬ Mk (g.c i (4+l'))
 dK:l≠0→g.born (l - 1) i∧g.bz i
def Sh.mark (g:Sh) (l i:Int):Sh:={ g with c:=g.c.set i (4+l) (g.c i (4+l)+aM) }
structure Fq (g:Sh) (l i:Int):Prop where
 l0:0≤l
 lh:l<g.c i 2
 bo:g.born 0 i
 un:¬ Mk (g.c i (4+l))
 ab:∀ l',l<l' →l' <g.c i 2→Mk (g.c i (4+l'))
def Sh.put (g:Sh) (i p v:Int):Sh:={ g with c:=g.c.set i p v }
def Sh.lay (g:Sh) (i:Int):Sh:={ g with ld:=fun j=>g.ld j∨j=i }
def Sh.sy (g:Sh) (i:Int):Sh:={ g with bz:=fun j=>g.bz j∧j≠i }
section
variable {t:TW} {own kn:Int→Prop} {g g':Sh} {l p i j v:Int} {A B:List Int}
theorem CA.ne (h:aP t g) (k:CA t g l p i A B):i≠p∧i∉(-1)::g.C l∧0≤i∧i<t.size:=by
 have h1:=h.hi i k.ld
 refine ⟨?_,?_,h1.1,h1.2.1⟩
 ·rintro rfl
  rcases k.hp.on with e | e
  ·omega
  ·exact k.nb e
 ·intro hm
  rcases List.mem_cons.1 hm with e | e
  ·omega
  ·exact k.nb (h.jl l i k.hp.l0 k.hp.l1 e)
theorem aP.link (h:aP t g) (k:CA t g l p i A B):aP t (g.link l p i (A++i::B)):=by
 obtain ⟨sA,SS,i0,i1⟩:=k.ne h
 have l0:=k.hp.l0
 have l1:=k.hp.l1
 have hn:=h.nodup l0 l1
 have r:=h.rf i i0 i1
 have hr:=h.ab4 i0 i1
 have nr:¬ Mk (g.rf i):=by unfold Mk; omega
 have hm:∀ j' q,Mk ((g.link l p i (A++i::B)).c j' q)↔Mk (g.c j' q):=KD _ ⟨fun k'=>absurd k' nr,fun k'=>absurd k' k.hp.um⟩
 have kz:∀ j' q,q≤3→(g.link l p i (A++i::B)).c j' q=g.c j' q:=fun j' q hq=>g.c.dg _ (by omega)
 have gD:=h.hi i k.ld
 refine ⟨h.rf,fun i' q=>?_,fun l' h0 h1=>?_,fun l' h0 h1 k'=>h.hd l' h0 h1 ((hm _ _).1 k'),fun l' h0 h1=>?_,fun l' i' h0 h1 hi=>?_,fun l' i' hb=>?_,fun tY vC i' hb h0 h1=>?_,fun i' hi=>?_,fun l' i' hb hk=>?_,fun tY vC i' hb h0 h1 h2 hk=>?_,fun a b ha hb hk=>h.vH a b ha hb (by rwa [kz _ _ (by omega),kz _ _ (by omega)] at hk)⟩
 ·show U (g.c.set p (4+l) _ i' q)
  unfold Vw.set
  split
  ·exact ⟨by omega,by have:=r.2.2; unfold aM at this; omega⟩
  ·exact h.u i' q
 ·by_cases e:l' =l
  ·subst e
   have:=h.oM l' h0 h1
   rw [k.hC] at this hn SS
   have:=this.link k.hP hn SS (by rw [k.w,sr (h.u _ _) k.hp.um]) hr
   simpa [Sh.link,gJ] using this
  ·have:=h.oM l' h0 h1
   simp only [Sh.link,gJ,if_neg e]
   exact this.same fun q _=>by rw [g.c.dg _ (by omega)]
 ·have:=h.ma l' h0 h1
  by_cases e:l' =l
  ·subst e
   rw [k.hC] at this
   simp only [Sh.link,gJ,if_true]
   have q:=List.pairwise_append.1 this
   have:(A++i::B).Pairwise fun a b=>g.c a 0<g.c b 0:=by
    refine List.pairwise_append.2 ⟨q.1,List.pairwise_cons.2 ⟨k.kB,q.2.1⟩,fun a ha b hb=>?_⟩
    rcases List.mem_cons.1 hb with rfl | hb
    ·exact k.kA a ha
    ·exact q.2.2 a ha b hb
   refine this.imp fun {a b} ng=>?_
   rw [g.c.dg _ (by omega),g.c.dg _ (by omega)]; exact ng
  ·simp only [Sh.link,gJ,if_neg e]
   refine this.imp fun {a b} ng=>?_
   rw [g.c.dg _ (by omega),g.c.dg _ (by omega)]; exact ng
 ·by_cases e:l' =l
  ·subst e
   simp [Sh.link,gJ] at hi
   rcases hi with hi | rfl | hi
   ·exact .inl (h.jl l' i' h0 h1 (by rw [k.hC]; simp [hi]))
   ·exact .inr ⟨rfl,rfl⟩
   ·exact .inl (h.jl l' i' h0 h1 (by rw [k.hC]; simp [hi]))
  ·simp only [Sh.link,gJ,if_neg e] at hi
   exact .inl (h.jl l' i' h0 h1 hi)
 ·rw [kz _ _ (by omega)]
  rcases hb with hb | ⟨rfl,rfl⟩
  ·exact h.bo l' i' hb
  ·exact ⟨i0,i1,l0,l1,k.ld,k.lh⟩
 ·rcases hb with hb | ⟨rfl,rfl⟩
  ·exact .inl (h.dn _ _ _ hb h0 h1)
  ·by_cases e:vC =tY
   ·exact .inr ⟨e,rfl⟩
   ·exact .inl (h.dn _ _ _ (k.dK (by omega)).1 h0 (by omega))
 ·rw [kz _ _ (by omega)]; exact h.hi i' hi
 ·rcases hb with hb | ⟨rfl,rfl⟩
  ·have h1:=h.on l' i' hb (fun k'=>hk ((hm _ _).2 k'))
   by_cases e:l' =l
   ·subst e
    rw [k.hC] at h1
    simp [Sh.link,gJ] at h1 ⊢
    exact h1.elim .inl fun k'=>.inr (.inr k')
   ·simpa [Sh.link,gJ,e] using h1
  ·simp [Sh.link,gJ]
 ·rw [kz _ _ (by omega)] at h2
  rcases hb with hb | ⟨e,rfl⟩
  ·exact (hm _ _).2 (h.up tY vC i' hb h0 h1 h2 ((hm _ _).1 hk))
  ·exact absurd ((hm _ _).1 hk) (k.low e.symm tY h0 (by omega))
theorem cC.link (ho:∀ i,own i→0≤i) (h:aP t g) (k:CA t g l p i A B) (hi:¬ own i):cC t own kn g (g.link l p i (A++i::B)):=by
 have l0:=k.hp.l0
 have xK:∀ l' j,j∈(g.link l p i (A++i::B)).C l' →j∈g.C l' ∨(l' =l∧j=i):=fun l' j hj=>by
  unfold Sh.link gJ at hj
  simp only at hj
  split at hj
  ·rename_i e
   rw [e,k.hC]
   simp at hj ⊢
   rcases hj with hj | rfl | hj
   ·exact .inl (.inl hj)
   ·exact .inr rfl
   ·exact .inl (.inr hj)
  ·exact .inl hj
 refine ⟨fun _ _=>rfl,fun _ _ h=>h,fun _ _ _ h=>.inl h,fun j q _ _ hq=>g.c.dg _ (by omega),fun l' j _ hb _ hk=>g.c.nE _ ?_,fun l' j _ hb hz _ _ hj=>?_,fun j _ hb hz=>?_,fun j _ hb h1 h2=>absurd (Or.inl h1) h2,fun l' j dr hb=>?_,fun l' j dr _ _ hj=>?_,fun j q dr hb=>g.c.jO _ ?_,fun l' j dr hb fG _=>.inl (g.c.nE _ ?_),fun j dr=>⟨fun z=>?_,.inl⟩⟩
 ·rintro ⟨rfl,e⟩
  rw [show l' =l by omega] at hk
  exact k.hp.um hk
 ·rcases xK _ _ hj with h1 | ⟨rfl,rfl⟩
  ·exact h1
  ·by_cases e:l' =0
   ·subst e; exact absurd hb k.nb
   ·exact absurd (k.dK e).2 hz
 ·rintro (h1 | ⟨rfl,rfl⟩)
  ·exact hz h1
  ·exact k.nb hb
 ·rcases hb with hb | ⟨rfl,rfl⟩
  ·exact hb
  ·exact absurd dr hi
 ·rcases xK _ _ hj with h1 | ⟨rfl,rfl⟩
  ·exact h1
  ·exact absurd dr hi
 ·rintro rfl
  rcases k.hp.on with e | e
  ·have:=ho _ dr; omega
  ·exact hb (h.vI e)
 ·rintro ⟨rfl,e⟩
  rcases k.hp.on with e' | e'
  ·have:=(h.bo _ _ hb).1; omega
  ·rw [show l' =l by omega] at fG; exact fG e'
 ·rcases z with z | ⟨_,rfl⟩
  ·exact z
  ·exact absurd dr hi
theorem aP.mark (h:aP t g) (k:Fq g l i):aP t (g.mark l i):=by
 have l0:=k.l0
 have ui:=h.u i (4+l)
 have aT:g.c i (4+l)<aM:=by have:=k.un; unfold Mk at this; omega
 have b:=h.bo 0 i k.bo
 have eum:∀ j q,um ((g.mark l i).c j q)=um (g.c j q):=fun j q=>by
  show um (g.c.set i (4+l) _ j q)=_
  unfold Vw.set
  split
  ·rename_i e; rw [e.1,e.2,SH ui.1 aT,sr ui k.un]
  ·rfl
 have KE:∀ j q,Mk (g.c j q)→Mk ((g.mark l i).c j q):=fun j q hk=>by
  show Mk (g.c.set i (4+l) _ j q)
  unfold Vw.set
  split
  ·have:=ui.1; unfold Mk; omega
  ·exact hk
 have SU:∀ j q,Mk ((g.mark l i).c j q)→Mk (g.c j q)∨(j=i∧q=4+l):=fun j q hk=>by
  change Mk (g.c.set i (4+l) _ j q) at hk
  unfold Vw.set at hk
  split at hk
  ·rename_i e; exact .inr e
  ·exact .inl hk
 have kz:∀ j q,q≤3→(g.mark l i).c j q=g.c j q:=fun j q hq=>g.c.dg _ (by omega)
 refine ⟨h.rf,fun i' q=>?_,fun l' h0 h1=>(h.oM l' h0 h1).same fun q _=>eum _ _,fun l' h0 h1 k'=>?_,fun l' h0 h1=>(h.ma l' h0 h1).imp fun {a b} ng=>by rw [kz _ _ (by omega),kz _ _ (by omega)]; exact ng,h.jl,fun l' i' hb=>by rw [kz _ _ (by omega)]; exact h.bo l' i' hb,h.dn,fun i' hi=>by rw [kz _ _ (by omega)]; exact h.hi i' hi,fun l' i' hb hk=>h.on l' i' hb fun k'=>hk (KE _ _ k'),fun l1 l2 i' hb h0 h1 h2 hk=>?_,fun a b ha hb hk=>h.vH a b ha hb (by rwa [kz _ _ (by omega),kz _ _ (by omega)] at hk)⟩
 ·show U (g.c.set i (4+l) _ i' q)
  unfold Vw.set
  split
  ·exact ⟨by have:=ui.1; unfold aM; omega,by unfold aM at aT ⊢; omega⟩
  ·exact h.u i' q
 ·rcases SU _ _ k' with k' | ⟨e,_⟩
  ·exact h.hd l' h0 h1 k'
  ·omega
 ·rw [kz _ _ (by omega)] at h2
  rcases SU _ _ hk with k' | ⟨rfl,e⟩
  ·exact KE _ _ (h.up l1 l2 i' hb h0 h1 h2 k')
  ·exact KE _ _ (k.ab l2 (by omega) h2)
theorem cC.marks (h:aP t g) (k:Fq g l i):cC t own kn g (g.mark l i):=by
 have l0:=k.l0
 refine ⟨fun _ _=>rfl,fun _ _ h=>h,fun _ _ _ h=>h,fun j q _ _ hq=>g.c.dg _ (by omega),fun l' j _ hb _ hk=>g.c.nE _ ?_,fun l' j _ _ _ _ _ hj=>hj,fun _ _ _ h=>h,fun _ _ _ h k=>absurd h k,fun _ _ _ h=>h,fun _ _ _ _ _ h=>h,fun j q dr hb=>g.c.jO _ ?_,fun l' j dr hb fG _=>?_,fun _ _=>Iff.rfl⟩
 ·rintro ⟨rfl,e⟩
  rw [show l' =l by omega] at hk
  exact k.un hk
 ·rintro rfl; exact hb k.bo
 ·show g.c.set i (4+l) _ j (4+l')=_∨_∧g.c.set i (4+l) _ j (4+l')=_
  by_cases e:j=i∧4+l' =4+l
  ·obtain ⟨rfl,e⟩:=e
   rw [show l' =l by omega,Vw.oL]
   exact .inr ⟨k.un,rfl⟩
  ·rw [g.c.nE _ e]; exact .inl rfl
structure zV (t:TW) (g:Sh) (i p v:Int):Prop where
 i0:0≤i
 u:U v
 ok:¬ g.born 0 i∧(g.ld i→3≤p)∨(∃ l,0≤l∧p=4+l∧¬ g.born l i∧¬ Mk (g.c i p)∧¬ Mk v)∨p=3
theorem aP.put (h:aP t g) (k:zV t g i p v):aP t (g.put i p v):=by
 have i0:=k.i0
 have kc:∀ j q,g.born 0 j→q≤2→(g.put i p v).c j q=g.c j q:=fun j q hb hq=>g.c.nE _ (by
  rintro ⟨rfl,rfl⟩
  have ld:=(h.bo _ _ hb).2.2.2.2.1
  rcases k.ok with ⟨k1,k2⟩ | ⟨l,h0,e,_⟩ | e
  ·exact k1 hb
  ·omega
  ·omega)
 have kl:∀ j q,g.ld j→q≤2→(g.put i p v).c j q=g.c j q:=fun j q hb hq=>g.c.nE _ (by
  rintro ⟨rfl,rfl⟩
  rcases k.ok with ⟨k1,k2⟩ | ⟨l,h0,e,_⟩ | e
  ·have:=k2 hb; omega
  ·omega
  ·omega)
 have kw:∀ j l,0≤l→g.born l j→(g.put i p v).c j (4+l)=g.c j (4+l):=fun j l h0 hb=>g.c.nE _ (by
  rintro ⟨rfl,e⟩
  rcases k.ok with ⟨k1,k2⟩ | ⟨l',sB,e',nb,_⟩ | e'
  ·exact k1 (h.vI hb)
  ·rw [show l' =l by omega] at nb; exact nb hb
  ·omega)
 have kh:∀ l,(g.put i p v).c (-1) (4+l)=g.c (-1) (4+l):=fun l=>g.c.jO _ (by omega)
 have km:∀ j l,g.born 0 j→0≤l→(Mk ((g.put i p v).c j (4+l))↔Mk (g.c j (4+l))):=fun j l hb h0=>by
  show Mk (g.c.set i p v j (4+l))↔_
  unfold Vw.set
  split
  ·rename_i e
   obtain ⟨rfl,e⟩:=e
   rcases k.ok with ⟨k1,k2⟩ | ⟨l',sB,e',nb,n1,n2⟩ | e'
   ·exact absurd hb k1
   ·rw [e]; exact ⟨fun k'=>absurd k' n2,fun k'=>absurd k' n1⟩
   ·omega
  ·exact Iff.rfl
 refine ⟨h.rf,fun i' q=>?_,fun l' h0 h1=>(h.oM l' h0 h1).same fun q hq=>?_,fun l' h0 h1 k'=>h.hd l' h0 h1 (by rwa [kh] at k'),fun l' h0 h1=>?_,h.jl,fun l' i' hb=>by rw [kc _ _ (h.vI hb) (by omega)]; exact h.bo l' i' hb,h.dn,fun i' hi=>by rw [kl _ _ hi (by omega)]; exact h.hi i' hi,fun l' i' hb hk=>h.on l' i' hb fun k'=>hk (by rw [kw _ _ (h.bo _ _ hb).2.2.1 hb]; exact k'),fun l1 l2 i' hb h0 h1 h2 hk=>?_,fun a b ha hb hk=>h.vH a b ha hb (by rwa [kl _ _ ha (by omega),kl _ _ hb (by omega)] at hk)⟩
 ·show U (g.c.set i p v i' q)
  unfold Vw.set
  split
  ·exact k.u
  ·exact h.u i' q
 ·rcases hq with rfl | hq
  ·rw [kh]
  ·rw [kw _ _ h0 (h.jl _ _ h0 h1 hq)]
 ·refine List.Pairwise.imp_of_mem (fun {a b} ha hb ng=>?_) (h.ma l' h0 h1)
  rw [kc _ _ (h.SR h0 h1 ha) (by omega),kc _ _ (h.SR h0 h1 hb) (by omega)]; exact ng
 ·rw [kc _ _ hb (by omega)] at h2
  exact (km _ _ hb (by omega)).2 (h.up l1 l2 i' hb h0 h1 h2 ((km _ _ hb h0).1 hk))
theorem cC.put (h:aP t g) (k:zV t g i p v) (hi:¬ own i∨p=3∧g.born 0 i):cC t own kn g (g.put i p v):=by
 refine ⟨fun _ _=>rfl,fun _ _ h=>h,fun _ _ _ h=>h,fun j q _ hl hq=>g.c.nE _ ?_,fun l' j _ hb h0 hk=>g.c.nE _ ?_,fun l' j _ _ _ _ _ hj=>hj,fun _ _ _ h=>h,fun _ _ _ h k=>absurd h k,fun _ _ _ h=>h,fun _ _ _ _ _ h=>h,fun j q dr hb=>g.c.jO _ ?_,fun l' j dr hb fG h0=>.inl (g.c.nE _ ?_),fun _ _=>Iff.rfl⟩
 ·rintro ⟨rfl,rfl⟩
  rcases k.ok with ⟨k1,k2⟩ | ⟨l,h0,e,_⟩ | e
  ·have:=k2 hl; omega
  ·omega
  ·omega
 ·rintro ⟨rfl,e⟩
  rcases k.ok with ⟨k1,k2⟩ | ⟨l,sB,e',_,n1,_⟩ | e'
  ·exact k1 hb
  ·rw [e] at hk; exact n1 hk
  ·omega
 ·rintro rfl
  rcases hi with hi | ⟨_,hi⟩
  ·exact hi dr
  ·exact hb hi
 ·rintro ⟨rfl,e⟩
  rcases hi with hi | ⟨hi,_⟩
  ·exact hi dr
  ·omega
theorem aP.lay (h:aP t g) (h0:0≤i∧i<t.size) (h1:1≤g.c i 2∧g.c i 2≤t.ay) (hu:∀ j,g.ld j→g.c j 0≠g.c i 0):aP t (g.lay i):=by
 refine ⟨h.rf,h.u,h.oM,h.hd,h.ma,h.jl,fun l' i' hb=>?_,h.dn,fun i' hi=>?_,h.on,h.up,fun a b ha hb hk=>?_⟩
 ·obtain ⟨a1,a2,a3,a4,a5,a6⟩:=h.bo l' i' hb
  exact ⟨a1,a2,a3,a4,.inl a5,a6⟩
 ·rcases hi with hi | rfl
  ·exact h.hi i' hi
  ·exact ⟨h0.1,h0.2,h1⟩
 ·rcases ha with ha | rfl
  ·rcases hb with hb | rfl
   ·exact h.vH a b ha hb hk
   ·exact absurd hk (hu a ha)
  ·rcases hb with hb | rfl
   ·exact absurd hk.symm (hu b hb)
   ·rfl
theorem aP.sy (h:aP t g):aP t (g.sy i):=⟨h.rf,h.u,h.oM,h.hd,h.ma,h.jl,h.bo,h.dn,h.hi,h.on,h.up,h.vH⟩
theorem cC.sy (hi:¬ own i) (hg:Mk (g.c i 4)→∀ l,0≤l→l<t.ay→i∉g.C l):cC t own kn g (g.sy i) :=
 ⟨fun _ _=>rfl,fun _ _ h=>h,fun _ _ _ h=>h,fun _ _ _ _ _=>rfl,fun _ _ _ _ _ _=>rfl,fun _ _ _ _ _ _ _ h=>h,fun _ _ _ h k=>h k.1,fun j _ _ h k hm l h0 h1=>by
  have:j=i:=Classical.byContradiction fun e=>k ⟨h,e⟩
  subst this
  exact hg hm l h0 h1,fun _ _ _ h=>h,fun _ _ _ _ _ h=>h,fun _ _ _ _=>rfl,fun _ _ _ _ _ _=>.inl rfl,fun j hj=>⟨fun k=>k.1,fun k=>⟨k,fun e=>hi (e▸hj)⟩⟩⟩
end
def kf (c:Vw) (p:Int):Int:=if p= -1 then -1 else c p 0
def pV (t:TW) (g:Sh) (kn:Int→Prop):Prop:=∀ l j,0≤l→l<t.ay→j∈g.C l→kn j
def jm (g:Sh) (kn:Int→Prop) (key l p known:Int):Prop:=(p= -1∧known=0)∨(g.born l p∧kn p∧g.c p 0<key∧known=g.rf p)
def uc (t:TW) (g:Sh) (kn:Int→Prop) (l w:Int):Prop:=∃ j,w=g.rf j∧g.born l j∧kn j∧aF t.size w=j
def ud (t:TW) (g:Sh) (kn:Int→Prop) (key l:Int) (sp:dy):Prop:=jm g kn key l sp.pred sp.known∧(sp.cur=0∨uc t g kn l sp.cur∧key≤g.c (aF t.size sp.cur) 0)
structure ga (t:TW) (g:Sh) (kn:Int→Prop) (f:ao):Prop where
 snd:t.sound
 aQ:0≤f.l∧f.l<t.ay
 len:f.told.length=t.ay.toNat
 line:f.line=1∨f.line=2∨f.line=3∨f.line=4∨f.line=9
 pred:f.line≠9→jm g kn f.key f.l f.at_.pred f.at_.known
 cur:f.line=2∨f.line=3∨f.line=4→uc t g kn f.l f.at_.cur∧kf g.c f.at_.pred<g.c (aF t.size f.at_.cur) 0
 w3:f.line=3→g.c (aF t.size f.at_.cur) (4+f.l)=f.w∧Mk f.w
 w4:f.line=4→f.w=0∨uc t g kn f.l f.w∧g.c (aF t.size f.at_.cur) 0<g.c (aF t.size f.w) 0
 told:∀ l,(f.line=9∨f.l<l)→0≤l→l<t.ay→ud t g kn f.key l (f.spot l)
structure lI (t:TW) (g:Sh) (i:Int) (f:ao):Prop where
 key:g.c i 0=f.key
 bo:g.born 0 i
 iQ:∀ l,0≤l→l<g.c i 2→Mk (g.c i (4+l))
 up:∀ l,(f.line=9∨f.l<l)→0≤l→l<t.ay→i∉g.C l
 s23:f.line=2∨f.line=3∨f.line=4→i∈g.C f.l→g.c (aF t.size f.at_.cur) 0≤g.c i 0
 s4:f.line=4→i∈g.C f.l→g.c i 0≤g.c (aF t.size f.at_.cur) 0∨(0≤aF t.size f.w∧g.c (aF t.size f.w) 0≤g.c i 0)
 n4:f.line=4→i∈g.C f.l→aF t.size f.at_.cur≠i
section
variable {t:TW} {own kn:Int→Prop} {g g':Sh} {l p i j v key known w:Int} {A B:List Int} {f:ao} {s:MS} {sp:dy}
theorem KF (h:t.sound):aF t.size 0= -1:=by
 have:=h.2.2.1
 unfold aF; rw [if_neg (by omega)]; omega
theorem jm.dF (h:aP t g) (r:cC t own kn g g') (k:jm g kn key l p known):jm g' kn key l p known:=by
 rcases k with k | ⟨k1,k2,k3,k4⟩
 ·exact .inl k
 ·refine .inr ⟨r.born _ _ k2 k1,k2,?_,k4.trans (r.rf _ k2).symm⟩
  rw [r.fix _ 0 k2 (h.bo _ _ k1).2.2.2.2.1 (.inl rfl)]; exact k3
theorem uc.dF (r:cC t own kn g g') (k:uc t g kn l w):uc t g' kn l w:=by
 obtain ⟨j,k1,k2,k3,k4⟩:=k
 exact ⟨j,k1.trans (r.rf _ k3).symm,r.born _ _ k3 k2,k3,k4⟩
theorem uc.kk (h:aP t g) (r:cC t own kn g g') (k:uc t g kn l w):g'.c (aF t.size w) 0=g.c (aF t.size w) 0:=by
 obtain ⟨j,k1,k2,k3,k4⟩:=k
 rw [k4]
 exact r.fix _ 0 k3 (h.bo _ _ k2).2.2.2.2.1 (.inl rfl)
theorem jm.kk (h:aP t g) (r:cC t own kn g g') (k:jm g kn key l p known):kf g'.c p=kf g.c p:=by
 rcases k with ⟨rfl,_⟩ | ⟨k1,k2,_⟩
 ·rfl
 ·have:=(h.bo _ _ k1)
  unfold kf
  rw [if_neg (by omega),if_neg (by omega)]
  exact r.fix _ 0 k2 this.2.2.2.2.1 (.inl rfl)
theorem ud.dF (h:aP t g) (r:cC t own kn g g') (k:ud t g kn key l sp):ud t g' kn key l sp:=by
 refine ⟨k.1.dF h r,k.2.imp id fun ⟨k1,k2⟩=>⟨k1.dF r,?_⟩⟩
 rw [k1.kk h r]; exact k2
theorem ga.dF (h:aP t g) (r:cC t own kn g g') (k:ga t g kn f):ga t g' kn f:=by
 refine ⟨k.snd,k.aQ,k.len,k.line,fun e=>(k.pred e).dF h r,fun e=>?_,fun e=>?_,fun e=>?_,fun l e h0 h1=>(k.told l e h0 h1).dF h r⟩
 ·obtain ⟨k1,k2⟩:=k.cur e
  refine ⟨k1.dF r,?_⟩
  rw [k1.kk h r,(k.pred (by omega)).kk h r]; exact k2
 ·obtain ⟨k1,k2⟩:=k.w3 e
  obtain ⟨j,c1,c2,c3,c4⟩:=(k.cur (.inr (.inl e))).1
  refine ⟨?_,k2⟩
  rw [c4] at k1 ⊢
  rw [r.mark _ _ c3 (h.vI c2) k.aQ.1 (by rw [k1]; exact k2)]
  exact k1
 ·rcases k.w4 e with k1 | ⟨k1,k2⟩
  ·exact .inl k1
  ·refine .inr ⟨k1.dF r,?_⟩
   rw [k1.kk h r,(k.cur (.inr (.inr e))).1.kk h r]; exact k2
theorem lI.dF (h:aP t g) (r:cC t own kn g g') (hk:kn i) (hb:own i∨¬ g.bz i) (kF:ga t g kn f) (k:lI t g i f):lI t g' i f:=by
 have ld:=(h.bo _ _ k.bo).2.2.2.2.1
 have k0:g'.c i 0=g.c i 0:=r.fix i 0 hk ld (.inl rfl)
 have k2:g'.c i 2=g.c i 2:=r.fix i 2 hk ld (.inr (.inr rfl))
 have bk:∀ l,0≤l→l<t.ay→i∈g'.C l→i∈g.C l:=fun l h0 h1 hi=>hb.elim (fun o=>r.SQ l i o h0 h1 hi) fun z=>r.back l i hk k.bo z h0 h1 hi
 obtain ⟨l0,l1⟩:=kF.aQ
 refine ⟨k0.trans k.key,r.born _ _ hk k.bo,fun l h0 h1=>?_,fun l e h0 h1 hi=>k.up l e h0 h1 (bk l h0 h1 hi),fun e hi=>?_,fun e hi=>?_,fun e hi=>k.n4 e (bk _ l0 l1 hi)⟩
 ·rw [k2] at h1
  rw [r.mark l i hk k.bo h0 (k.iQ l h0 h1)]
  exact k.iQ l h0 h1
 ·rw [(kF.cur e).1.kk h r,k0]; exact k.s23 e (bk _ l0 l1 hi)
 ·rw [(kF.cur (.inr (.inr e))).1.kk h r,k0]
  refine (k.s4 e (bk _ l0 l1 hi)).imp id fun ⟨q1,q2⟩=>⟨q1,?_⟩
  rcases kF.w4 e with e0 | ⟨c1,_⟩
  ·rw [e0,KF] at q1
   ·omega
   ·exact kF.snd
  ·rw [c1.kk h r]; exact q2
end
structure nF (t:TW) (g:Sh) (kn:Int→Prop) (f:ao):Prop where
 snd:t.sound
 aQ:0≤f.l∧f.l<t.ay
 len:f.told.length=t.ay.toNat
 pred:jm g kn f.key f.l f.at_.pred f.at_.known
 told:∀ l,f.l<l→0≤l→l<t.ay→ud t g kn f.key l (f.spot l)
structure sC (t:TW) (g:Sh) (i:Int) (f:ao):Prop where
 key:g.c i 0=f.key
 bo:g.born 0 i
 iQ:∀ l,0≤l→l<g.c i 2→Mk (g.c i (4+l))
 up:∀ l,f.l<l→0≤l→l<t.ay→i∉g.C l
def KG (t:TW) (g:Sh) (kn:Int→Prop) (l p w:Int):Prop:=w=0∨uc t g kn l w∧kf g.c p<g.c (aF t.size w) 0
def SV (t:TW) (g:Sh) (l i w:Int):Prop:=i∈g.C l→0≤aF t.size w∧g.c (aF t.size w) 0≤g.c i 0
section
variable {t:TW} {own kn:Int→Prop} {g g':Sh} {l p i j v key known w:Int} {A B:List Int} {f:ao} {s:MS} {sp:dy}
theorem SW (f:ao) (a:dy) (n:Nat) (l:Int) (hl:f.l.toNat<f.told.length) (h0:0≤l) (h1:0≤f.l):({ f with told:=f.told.set f.l.toNat a }:ao).spot l=if l=f.l then a else f.spot l:=by
 unfold ao.spot
 simp only [List.getElem?_set]
 by_cases e:l=f.l
 ·rw [if_pos e,if_pos (by omega),if_pos hl]; rfl
 ·rw [if_neg e,if_neg (by omega)]
theorem jm.dn (h:aP t g) (k:jm g kn key l p known) {l':Int} (h0:0≤l') (h1:l' ≤l):jm g kn key l' p known:=k.imp id fun ⟨a,b⟩=>⟨h.dn _ _ _ a h0 h1,b⟩
theorem nF.tell (h:aP t g) (k:nF t g kn f) (ht:ud t g kn f.key f.l f.at_):ga t g kn f.tell:=by
 obtain ⟨l0,l1⟩:=k.aQ
 have hl:f.l.toNat<f.told.length:=by rw [k.len]; omega
 have sp:∀ l,0≤l→({ f with told:=f.told.set f.l.toNat f.at_ }:ao).spot l=if l=f.l then f.at_ else f.spot l:=fun l h0=>SW f f.at_ 0 l hl h0 l0
 have td:∀ l,f.l≤l→0≤l→l<t.ay→ud t g kn f.key l (({ f with told:=f.told.set f.l.toNat f.at_ }:ao).spot l):=fun l h0 h1 h2=>by
  rw [sp l h1]
  by_cases e:l=f.l
  ·rw [if_pos e,e]; exact ht
  ·rw [if_neg e]; exact k.told l (by omega) h1 h2
 unfold ao.tell
 by_cases c:f.l<1
 ·rw [if_pos c]
  exact ⟨k.snd,k.aQ,by simpa using k.len,by simp,by simp,by simp,by simp,by simp,fun l _ h0 h1=>td l (by omega) h0 h1⟩
 ·rw [if_neg c]
  refine ⟨k.snd,by simp only; omega,by simpa using k.len,by simp,fun _=>k.pred.dn h (by simp only; omega) (by simp only; omega),by simp,by simp,by simp,fun l e h0 h1=>td l ?_ h0 h1⟩
  simp only at e; omega
theorem sC.tell (k:sC t g i f) (hl:0≤f.l∧f.l<t.ay) (hi:i∉g.C f.l):lI t g i f.tell:=by
 have up:∀ l,f.l≤l→0≤l→l<t.ay→i∉g.C l:=fun l h0 h1 h2=>by
  by_cases e:l=f.l
  ·rw [e]; exact hi
  ·exact k.up l (by omega) h1 h2
 unfold ao.tell
 by_cases c:f.l<1
 ·rw [if_pos c]
  exact ⟨k.key,k.bo,k.iQ,fun l _ h0 h1=>up l (by omega) h0 h1,by simp,by simp,by simp⟩
 ·rw [if_neg c]
  refine ⟨k.key,k.bo,k.iQ,fun l e h0 h1=>up l ?_ h0 h1,by simp,by simp,by simp⟩
  simp only at e; omega
theorem nF.looks (h:aP t g) (k:nF t g kn f) (hm:KG t g kn f.l f.at_.pred f.at_.cur):ga t g kn (f.looks t):=by
 unfold ao.looks
 rcases hm with e | ⟨c1,c2⟩
 ·rw [if_pos (by rw [e,KF k.snd]; omega)]
  exact nF.tell (f:={ f with line:=2 }) h ⟨k.snd,k.aQ,k.len,k.pred,k.told⟩ ⟨k.pred,.inl e⟩
 ·obtain ⟨j,a1,a2,a3,a4⟩:=c1
  have j0:=(h.bo _ _ a2).1
  rw [if_neg (by rw [a4]; omega)]
  refine ⟨k.snd,k.aQ,k.len,by simp,fun _=>k.pred,fun _=>⟨⟨j,a1,a2,a3,a4⟩,c2⟩,by simp,by simp,fun l e h0 h1=>k.told l ?_ h0 h1⟩
  simp only at e; omega
theorem sC.looks (k:sC t g i f) (hl:0≤f.l∧f.l<t.ay) (hs:SV t g f.l i f.at_.cur):lI t g i (f.looks t):=by
 unfold ao.looks
 by_cases c:aF t.size f.at_.cur<0
 ·rw [if_pos c]
  exact sC.tell (f:={ f with line:=2 }) ⟨k.key,k.bo,k.iQ,k.up⟩ hl fun hi=>by have:=(hs hi).1; omega
 ·rw [if_neg c]
  refine ⟨k.key,k.bo,k.iQ,fun l e h0 h1=>k.up l ?_ h0 h1,fun _ hi=>(hs hi).2,by simp,by simp⟩
  simp only at e; omega
theorem zW (hs:t.sound) (hl:f.told.length=t.ay.toNat):ga t g kn (f.anew t):=by
 have:=hs.1
 refine ⟨hs,by simp only [ao.anew]; omega,hl,by simp [ao.anew],fun _=>.inl ⟨rfl,rfl⟩,by simp [ao.anew],by simp [ao.anew],by simp [ao.anew],fun l e h0 h1=>?_⟩
 simp only [ao.anew] at e
 omega
theorem Fs (k1:g.c i 0=f.key) (k2:g.born 0 i) (k3:∀ l,0≤l→l<g.c i 2→Mk (g.c i (4+l))):lI t g i (f.anew t):=by
 refine ⟨k1,k2,k3,fun l e h0 h1=>?_,by simp [ao.anew],by simp [ao.anew],by simp [ao.anew]⟩
 simp only [ao.anew] at e
 omega
theorem eZ.next (h:aP t g) (hp:eZ t g l p):∃ A B,g.C l=A++B∧fm g.c g.rf l (-1) A p∧(∀ a∈A,g.c a 0≤kf g.c p) ∧
  ((g.c p (4+l)=0∧B=[])∨∃ j B',B=j::B' ∧g.c p (4+l)=g.rf j∧kf g.c p<g.c j 0∧(∀ b∈B',g.c j 0<g.c b 0)∧aF t.size (g.rf j)=j∧g.born l j):=by
 obtain ⟨A,B,hC,hP,hB⟩:=hp.split h
 have ma:=h.ma l hp.l0 hp.l1
 rw [hC] at ma
 have q:=List.pairwise_append.1 ma
 have key:∀ b∈B,kf g.c p<g.c b 0:=fun b hb=>by
  rcases hP.end with ⟨rfl,rfl⟩ | ⟨A',rfl⟩
  ·have:=(h.u b 0).1; unfold kf; simp; omega
  ·have KH:p∈g.C l:=by rw [hC]; simp
   have:=(h.bo _ _ (h.jl l p hp.l0 hp.l1 KH)).1
   unfold kf
   rw [if_neg (by omega)]
   exact q.2.2 p (by simp) b hb
 refine ⟨A,B,hC,hP,fun a ha=>?_,?_⟩
 ·rcases hP.end with ⟨rfl,rfl⟩ | ⟨A',rfl⟩
  ·simp at ha
  ·have KH:p∈g.C l:=by rw [hC]; simp
   have:=(h.bo _ _ (h.jl l p hp.l0 hp.l1 KH)).1
   unfold kf
   rw [if_neg (by omega)]
   rcases List.mem_append.1 ha with ha | ha
   ·exact Int.le_of_lt ((List.pairwise_append.1 q.1).2.2 a ha p (by simp))
   ·simp at ha; rw [ha]; exact Int.le_refl _
 ·cases B with
  | nil =>
   have:Lift.um (g.c p (4+l))=0:=hB
   rw [sr (h.u _ _) hp.um] at this
   exact .inl ⟨this,rfl⟩
  | cons j B' =>
   have e:Lift.um (g.c p (4+l))=g.rf j:=hB.1
   rw [sr (h.u _ _) hp.um] at e
   have bj:g.born l j:=h.jl l j hp.l0 hp.l1 (by rw [hC]; simp)
   have b:=h.bo _ _ bj
   exact .inr ⟨j,B',rfl,e,key j (by simp),(List.pairwise_cons.1 q.2.1).1,(h.rf j b.1 b.2.1).1,bj⟩
theorem eZ.met (h:aP t g) (hk:pV t g kn) (hp:eZ t g l p):KG t g kn l p (g.c p (4+l)):=by
 obtain ⟨A,B,hC,hP,hA,hB⟩:=hp.next h
 rcases hB with ⟨e,_⟩ | ⟨j,B',rfl,e,k1,k2,k3,k4⟩
 ·exact .inl e
 ·refine .inr ⟨⟨j,e,k4,hk l j hp.l0 hp.l1 (by rw [hC]; simp),by rw [e]; exact k3⟩,by rw [e,k3]; exact k1⟩
theorem eZ.KI (h:aP t g) (hp:eZ t g l p) (hi:kf g.c p<g.c i 0):SV t g l i (g.c p (4+l)):=by
 intro hm
 obtain ⟨A,B,hC,hP,hA,hB⟩:=hp.next h
 rw [hC] at hm
 rcases List.mem_append.1 hm with hm | hm
 ·have:=hA i hm; omega
 ·rcases hB with ⟨e,rfl⟩ | ⟨j,B',rfl,e,k1,k2,k3,k4⟩
  ·simp at hm
  ·have j0:=(h.bo _ _ k4).1
   rw [e,k3]
   rcases List.mem_cons.1 hm with rfl | hm
   ·exact ⟨j0,Int.le_refl _⟩
   ·exact ⟨j0,Int.le_of_lt (k2 i hm)⟩
theorem jm.xL (k:jm g kn key l p known) (h0:0≤l) (h1:l<t.ay) (hu:¬ Mk (g.c p (4+l))):eZ t g l p:=⟨h0,h1,k.imp And.left And.left,hu⟩
theorem jm.lt (h:aP t g) (k:jm g kn key l p known) (h0:0≤key):kf g.c p<key:=by
 rcases k with ⟨rfl,_⟩ | ⟨k1,_,k2,_⟩
 ·unfold kf; simp; omega
 ·have:=(h.bo _ _ k1).1
  unfold kf; rw [if_neg (by omega)]; exact k2
theorem jm.cd (h:aP t g) (k:jm g kn key l p known) (h0:0≤l) (h1:l<t.ay):cd t p (4+l):=by
 rcases k with ⟨rfl,_⟩ | ⟨k1,_⟩
 ·exact jk h0 h1 (.inl rfl)
 ·have:=h.bo _ _ k1
  exact jk h0 h1 (.inr ⟨this.1,this.2.1⟩)
inductive jn (t:TW) (g:Sh):Sh→Prop
 | none:jn t g g
 | un {l p j:Int} {A B:List Int}:eZ t g l p→g.C l=A++j::B→fm g.c g.rf l (-1) A p→Mk (g.c j (4+l))→jn t g (g.unlink l p j (A++B))
theorem jn.inv (h:aP t g) (a:jn t g g'):aP t g':=by
 cases a with
 | none=>exact h
 | un hp hC hP hj=>exact h.unlink hp hC hP hj
theorem jn.dF (ho:∀ i,own i→0≤i) (h:aP t g) (a:jn t g g'):cC t own kn g g':=by
 cases a with
 | none=>exact cC.refl _ _ _ _
 | un hp hC hP hj=>exact cC.unlink ho h hp hC
theorem jn.bz (a:jn t g g'):g'.bz=g.bz:=by cases a<;>rfl
theorem jn.born (a:jn t g g'):g'.born=g.born:=by cases a<;>rfl
theorem jn.sub (a:jn t g g'):∀ l i,i∈g'.C l→i∈g.C l:=by
 cases a with
 | none=>exact fun _ _ h=>h
 | @un l p j A B hp hC hP hj =>
  intro l' i hi
  unfold Sh.unlink gJ at hi
  simp only at hi
  split at hi
  ·rename_i e; rw [e,hC]; simp at hi ⊢; exact hi.elim .inl fun k=>.inr (.inr k)
  ·exact hi
theorem jn.lo (a:jn t g g'):∀ i p,p≤3→g'.c i p=g.c i p:=by
 cases a with
 | none=>exact fun _ _ _=>rfl
 | un hp hC hP hj=>exact fun i p dB=>g.c.dg _ (by have:=hp.l0; omega)
end
end Go.Proofs.YtkhlabammcghbaaGreat.Lift
