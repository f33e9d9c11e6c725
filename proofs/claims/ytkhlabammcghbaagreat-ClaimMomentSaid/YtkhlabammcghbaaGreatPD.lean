import Derived.Test.YtkhlabammcghbaaGreatPC
set_option linter.unusedVariables false
set_option linter.unusedSimpArgs false
set_option maxRecDepth 20000
namespace Go.Proofs.YtkhlabammcghbaaGreat.Lift
open Go Go.Proofs.YtkhlabammcghbaaGreat.Gh Go.Proofs
section
variable {t:TW} {own kn:Int→Prop} {g g':Sh} {l p i j v key known w:Int} {A B:List Int} {f:ao} {s:MS} {sp:dy}
theorem ga.pre (k:ga t g kn f) (h9:f.line≠9):nF t g kn f:=⟨k.snd,k.aQ,k.len,k.pred h9,fun l e h0 h1=>k.told l (.inr e) h0 h1⟩
theorem lI.pre (k:lI t g i f):sC t g i f:=⟨k.key,k.bo,k.iQ,fun l e h0 h1=>k.up l (.inr e) h0 h1⟩
def Sh.fs (t:TW) (g:Sh) (f:ao):Sh:=open Classical in if f.line=3∧g.c f.at_.pred (4+f.l)=f.at_.cur then g.unlink f.l f.at_.pred (aF t.size f.at_.cur) ((g.C f.l).erase (aF t.size f.at_.cur)) else g
theorem pW (h:f.line≠3∨g.c f.at_.pred (4+f.l)≠f.at_.cur):g.fs t f=g:=by
 unfold Sh.fs
 rw [if_neg]
 rintro ⟨a,b⟩
 exact h.elim (fun k=>k a) fun k=>k b
theorem SX (h:aP t g) (h3:f.line=3) (hc:g.c f.at_.pred (4+f.l)=f.at_.cur) (hi:aF t.size f.at_.cur=j) (l0:0≤f.l) (l1:f.l<t.ay) (hC:g.C f.l=A++j::B):g.fs t f=g.unlink f.l f.at_.pred j (A++B):=by
 unfold Sh.fs
 rw [if_pos ⟨h3,hc⟩,hi,hC]
 have hn:=(List.nodup_cons.1 (h.nodup l0 l1)).2
 rw [hC] at hn
 have:j∉A:=fun hj=>by
  have:=(List.nodup_append.1 hn).2.2 j hj j (by simp)
  exact this rfl
 rw [List.erase_append_right _ this,List.erase_cons_head]
theorem Ft (L:fy t s.W.length) (h:aP t g) (hv:g.c=vw t s) (hk:pV t g kn) (k:ga t g kn f) (oN:0≤f.key) :
  jn t g (g.fs t f)∧(g.fs t f).c=vw t (f.step t s).2∧ga t (g.fs t f) kn (f.step t s).1∧(∀ i,kn i→lI t g i f→lI t (g.fs t f) i (f.step t s).1)∧(f.step t s).1.key=f.key:=by
 obtain ⟨l0,l1⟩:=k.aQ
 have hs:=k.snd
 rcases k.line with e | e | e | e | e
 ·-- the word behind the pred
  rw [pW (.inl (by omega))]
  have hp:=k.pred (by omega)
  have hP:=hp.cd h l0 l1
  have hn:aN t f.at_.pred f.l=az t f.at_.pred (4+f.l):=gI hs l0 l1 _
  obtain ⟨e1,e2⟩:=fZ L hP
  rw [← hv] at e1 e2
  have au:f.step t s=if Mk (g.c f.at_.pred (4+f.l)) then (({ f with ar:=f.at_.known,at_:={ f.at_ with cur:=g.c f.at_.pred (4+f.l) } }:ao).anew t,s.load (az t f.at_.pred (4+f.l))) else (({ f with ar:=f.at_.known,at_:={ f.at_ with cur:=g.c f.at_.pred (4+f.l) } }:ao).looks t,s.load (az t f.at_.pred (4+f.l))):=by
   unfold ao.step
   simp only [e,hn,e1]
   rfl
  by_cases c:Mk (g.c f.at_.pred (4+f.l))
  ·rw [au,if_pos c]
   exact ⟨.none,e2.symm,zW hs k.len,fun i _ q=>Fs q.key q.bo q.iQ,rfl⟩
  ·rw [au,if_neg c]
   have P:=hp.xL l0 l1 c
   have aT:=hp.lt h oN
   refine ⟨.none,e2.symm,nF.looks (f:={ f with ar:=f.at_.known,at_:={ f.at_ with cur:=g.c f.at_.pred (4+f.l) } }) h ⟨k.snd,k.aQ,k.len,hp,(k.pre (by omega)).told⟩ (P.met h hk),fun i _ q=>sC.looks (f:={ f with ar:=f.at_.known,at_:={ f.at_ with cur:=g.c f.at_.pred (4+f.l) } }) ⟨q.key,q.bo,q.iQ,q.pre.up⟩ k.aQ (P.KI h (by rw [q.key]; exact aT)),?_⟩
   unfold ao.looks ao.tell
   split<;>(try split)<;>rfl
 ·-- the word behind what it looks at
  rw [pW (.inl (by omega))]
  obtain ⟨⟨j,a1,a2,a3,a4⟩,a5⟩:=k.cur (.inl e)
  have b:=h.bo _ _ a2
  have hP:cd t (aF t.size f.at_.cur) (4+f.l):=by rw [a4]; exact jk l0 l1 (.inr ⟨b.1,b.2.1⟩)
  have hn:aN t (aF t.size f.at_.cur) f.l=az t (aF t.size f.at_.cur) (4+f.l):=gI hs l0 l1 _
  obtain ⟨e1,e2⟩:=fZ L hP
  rw [← hv] at e1 e2
  have au:f.step t s=({ f with ar:=f.at_.cur,w:=g.c (aF t.size f.at_.cur) (4+f.l),line:=if Mk (g.c (aF t.size f.at_.cur) (4+f.l)) then 3 else 4 },s.load (az t (aF t.size f.at_.cur) (4+f.l))):=by
   unfold ao.step
   simp only [e,hn,e1]
   rfl
  rw [au]
  refine ⟨.none,e2.symm,?_,fun i xM q=>?_,rfl⟩
  ·by_cases c:Mk (g.c (aF t.size f.at_.cur) (4+f.l))
   ·simp only [if_pos c]
    exact ⟨k.snd,k.aQ,k.len,by simp,fun _=>k.pred (by omega),fun _=>k.cur (.inl e),fun _=>⟨rfl,c⟩,by simp,fun l q h0 h1=>k.told l (.inr (by simpa using q)) h0 h1⟩
   ·simp only [if_neg c]
    refine ⟨k.snd,k.aQ,k.len,by simp,fun _=>k.pred (by omega),fun _=>k.cur (.inl e),by simp,fun _=>?_,fun l q h0 h1=>k.told l (.inr (by simpa using q)) h0 h1⟩
    rw [a4] at c ⊢
    have P:eZ t g f.l j:=⟨l0,l1,.inr a2,c⟩
    have:=P.met h hk
    unfold KG at this
    rw [show kf g.c j=g.c j 0 by unfold kf; rw [if_neg (by omega)]] at this
    exact this
  ·by_cases c:Mk (g.c (aF t.size f.at_.cur) (4+f.l))
   ·simp only [if_pos c]
    exact ⟨q.key,q.bo,q.iQ,fun l z h0 h1=>q.up l (.inr (by simpa using z)) h0 h1,fun _=>q.s23 (.inl e),by simp,by simp⟩
   ·simp only [if_neg c]
    refine ⟨q.key,q.bo,q.iQ,fun l z h0 h1=>q.up l (.inr (by simpa using z)) h0 h1,fun _=>q.s23 (.inl e),fun _ hi=>?_,fun _ _=>?_⟩
    ·rw [a4] at c ⊢
     have P:eZ t g f.l j:=⟨l0,l1,.inr a2,c⟩
     have:=P.KI h (i:=i)
     rw [show kf g.c j=g.c j 0 by unfold kf; rw [if_neg (by omega)]] at this
     by_cases hc:g.c j 0<g.c i 0
     ·exact .inr (this hc hi)
     ·exact .inl (by omega)
    ·rw [a4] at c ⊢
     rintro rfl
     exact c (q.iQ _ l0 b.2.2.2.2.2)
 ·-- it is taken out
  obtain ⟨⟨j,a1,a2,a3,a4⟩,a5⟩:=k.cur (.inr (.inl e))
  obtain ⟨w1,w2⟩:=k.w3 e
  have hp:=k.pred (by omega)
  have hP:=hp.cd h l0 l1
  have hn:aN t f.at_.pred f.l=az t f.at_.pred (4+f.l):=gI hs l0 l1 _
  have b:=h.bo _ _ a2
  by_cases c:g.c f.at_.pred (4+f.l)=f.at_.cur
  ·obtain ⟨e1,e2⟩:=pT L hP (x:=f.at_.cur) (f.w - aM) (by rw [← hv]; exact c)
   rw [← hv] at e2
   have au:f.step t s=(({ f with ar:=f.at_.known,at_:={ f.at_ with cur:=f.w - aM } }:ao).looks t,s.bM (az t f.at_.pred (4+f.l)) f.at_.cur (f.w - aM)):=by
    unfold ao.step
    simp [e,hn,e1]
   have r:=h.rf j b.1 b.2.1
   have hu:¬ Mk (g.c f.at_.pred (4+f.l)):=by rw [c,a1]; exact Int.not_le.2 r.2.2
   have P:=hp.xL l0 l1 hu
   obtain ⟨A,B,hC,oO,hA,hB⟩:=P.next h
   rw [c,a1] at hB
   obtain ⟨B',rfl⟩:∃ B',B=j::B':=by
    rcases hB with ⟨e0,_⟩ | ⟨j',B',rfl,e0,-,-,k3,k4⟩
    ·omega
    ·have:j' =j:=by rw [← k3,← e0,r.1]
     exact ⟨B',by rw [this]⟩
   have hj:Mk (g.c j (4+f.l)):=by rw [a4] at w1; rw [w1]; exact w2
   have act:jn t g (g.unlink f.l f.at_.pred j (A++B')):=.un P hC oO hj
   have hw:f.w - aM=um (g.c j (4+f.l)):=by rw [a4] at w1; rw [w1,Ky (w1▸h.u _ _) w2]
   have rl:cC t (fun _=>False) kn g (g.unlink f.l f.at_.pred j (A++B')):=act.dF (fun _ h=>h.elim) h
   have h':=act.inv h
   have k':=k.dF h rl
   have dB:=k'.pred (by omega)
   have Fp:=Cv (g.c j (4+f.l))
   have zX:(g.unlink f.l f.at_.pred j (A++B')).c f.at_.pred (4+f.l)=f.w - aM:=by rw [hw]; exact Vw.oL _ _ _ _
   have P':=dB.xL l0 l1 (by rw [zX,hw]; unfold Mk; omega)
   have iI:pV t (g.unlink f.l f.at_.pred j (A++B')) kn:=fun l x h0 h1 hx=>hk l x h0 h1 (act.sub l x hx)
   have aT:=dB.lt h' oN
   rw [au,SX h e c a4 l0 l1 hC]
   refine ⟨act,?_,nF.looks (f:={ f with ar:=f.at_.known,at_:={ f.at_ with cur:=f.w - aM } }) h' ⟨k.snd,k.aQ,k.len,dB,(k'.pre (by omega)).told⟩ (by have:=P'.met h' iI; rw [zX] at this; exact this),fun i xM q=>sC.looks (f:={ f with ar:=f.at_.known,at_:={ f.at_ with cur:=f.w - aM } }) ?_ k.aQ ?_,?_⟩
   ·rw [e2,hw]; rfl
   ·have kz:∀ x,(g.unlink f.l f.at_.pred j (A++B')).c i x=g.c i x∨x=4+f.l:=fun x=>by
     by_cases e:x=4+f.l
     ·exact .inr e
     ·exact .inl (g.c.dg _ e)
    refine ⟨?_,q.bo,fun l h0 h1=>?_,fun l z h0 h1 hi=>q.up l (.inr z) h0 h1 (act.sub l i hi)⟩
    ·rw [rl.fix i 0 xM (h.bo _ _ q.bo).2.2.2.2.1 (.inl rfl)]; exact q.key
    ·rw [rl.fix i 2 xM (h.bo _ _ q.bo).2.2.2.2.1 (.inr (.inr rfl))] at h1
     rw [rl.mark l i xM q.bo h0 (q.iQ l h0 h1)]
     exact q.iQ l h0 h1
   ·have tZ:(g.unlink f.l f.at_.pred j (A++B')).c i 0=f.key:=by rw [rl.fix i 0 xM (h.bo _ _ q.bo).2.2.2.2.1 (.inl rfl)]; exact q.key
    have:=P'.KI h' (i:=i) (by rw [tZ]; exact aT)
    rw [zX] at this
    exact this
   ·unfold ao.looks ao.tell
    split<;>(try split)<;>rfl
  ·obtain ⟨e1,e2⟩:=pU L hP (x:=f.at_.cur) (f.w - aM) (by rw [← hv]; exact c)
   rw [← hv] at e2
   have au:f.step t s=(({ f with ar:=f.at_.known }:ao).anew t,s.bM (az t f.at_.pred (4+f.l)) f.at_.cur (f.w - aM)):=by
    unfold ao.step
    simp [e,hn,e1]
   rw [au,pW (.inr c)]
   exact ⟨.none,e2.symm,zW hs k.len,fun i _ q=>Fs q.key q.bo q.iQ,rfl⟩
 ·-- its key
  rw [pW (.inl (by omega))]
  obtain ⟨⟨j,a1,a2,a3,a4⟩,a5⟩:=k.cur (.inr (.inr e))
  have b:=h.bo _ _ a2
  have hh:=hs.1
  have hP:cd t (aF t.size f.at_.cur) 0:=by rw [a4]; exact .inr ⟨b.1,b.2.1,by omega,by omega⟩
  obtain ⟨e1,e2⟩:=fZ L hP
  rw [← hv] at e1 e2
  have au:f.step t s=if f.key≤g.c (aF t.size f.at_.cur) 0 then (({ f with ar:=f.at_.cur }:ao).tell,s.load (az t (aF t.size f.at_.cur) 0)) else (({ f with ar:=f.at_.cur,at_:=⟨aF t.size f.at_.cur,f.at_.cur,f.w⟩ }:ao).looks t,s.load (az t (aF t.size f.at_.cur) 0)):=by
   unfold ao.step
   simp only [e,e1]
   rfl
  have hp:=k.pred (by omega)
  by_cases c:f.key≤g.c (aF t.size f.at_.cur) 0
  ·rw [au,if_pos c]
   refine ⟨.none,e2.symm,nF.tell (f:={ f with ar:=f.at_.cur }) h ⟨k.snd,k.aQ,k.len,hp,(k.pre (by omega)).told⟩ ⟨hp,.inr ⟨⟨j,a1,a2,a3,a4⟩,c⟩⟩,fun i xM q=>sC.tell (f:={ f with ar:=f.at_.cur }) ⟨q.key,q.bo,q.iQ,q.pre.up⟩ k.aQ fun hi=>?_,?_⟩
   ·have q1:=q.s23 (.inr (.inr e)) hi
    have q2:=q.key
    have q3:=q.n4 e hi
    rw [a4] at q1 q3 c
    exact q3 (h.vH j i b.2.2.2.2.1 (h.bo _ _ q.bo).2.2.2.2.1 (by omega))
   ·unfold ao.tell
    split<;>rfl
  ·rw [au,if_neg c]
   have KJ:kf g.c (aF t.size f.at_.cur)=g.c (aF t.size f.at_.cur) 0:=by rw [a4]; unfold kf; rw [if_neg (by omega)]
   refine ⟨.none,e2.symm,nF.looks (f:={ f with ar:=f.at_.cur,at_:=⟨aF t.size f.at_.cur,f.at_.cur,f.w⟩ }) h ⟨k.snd,k.aQ,k.len,.inr ⟨by rw [a4]; exact a2,by rw [a4]; exact a3,by simp only; omega,by rw [a4]; exact a1⟩,(k.pre (by omega)).told⟩ ?_,fun i xM q=>sC.looks (f:={ f with ar:=f.at_.cur,at_:=⟨aF t.size f.at_.cur,f.at_.cur,f.w⟩ }) ⟨q.key,q.bo,q.iQ,q.pre.up⟩ k.aQ fun hi=>?_,?_⟩
   ·exact (k.w4 e).imp id fun ⟨q1,q2⟩=>⟨q1,by rw [KJ]; exact q2⟩
   ·rcases q.s4 e hi with q1 | q1
    ·have:=q.key; omega
    ·exact q1
   ·unfold ao.looks ao.tell
    split<;>(try split)<;>rfl
 ·rw [pW (.inl (by omega))]
  have au:f.step t s=(f,s):=by unfold ao.step; simp [e]
  rw [au]
  exact ⟨.none,hv,k,fun _ _ q=>q,rfl⟩
end
structure fz (t:TW) (g:Sh) (own kn:Int→Prop) (x:aj):Prop where
 o:own x.i
 k:kn x.i
 ld:g.ld x.i
 ref:x.ref=g.rf x.i
 key:g.c x.i 0=x.key
 hi:g.c x.i 2=x.hi
 line:x.line=0∨x.line=1∨x.line=2∨x.line=3∨x.line=4∨x.line=5∨x.line=6∨x.line=7∨x.line=8∨x.line=9∨x.line=10∨x.line=11∨x.line=12
 fi:1≤x.line→x.line≤10→ga t g kn x.find∧x.find.key=x.key
 f9:x.line=2∨x.line=3∨x.line=4∨x.line=5∨x.line=6∨x.line=8→x.find.line=9
 low:x.line=1∨x.line=2∨x.line=3→¬ g.born 0 x.i
 aQ:0≤x.level∧x.level≤x.hi∧(x.line=2∨x.line=4∨x.line=5∨x.line=6∨x.line=7∨x.line=8→x.level<x.hi)∧(x.line=3→x.level=0)∧(x.line=4∨x.line=5∨x.line=6∨x.line=7∨x.line=8∨x.line=9→1≤x.level)
 st:x.line=2∨x.line=3→∀ l,0≤l→l<x.hi→(x.line=3∨l<x.level)→g.c x.i (4+l)=(x.find.spot l).cur
 bo:x.line=4∨x.line=5∨x.line=6∨x.line=7∨x.line=8∨x.line=9→∀ l,0≤l→l<x.level→g.born l x.i
 bz:x.line=4∨x.line=5∨x.line=6∨x.line=7∨x.line=8∨x.line=9∨x.line=10→g.bz x.i
 pX:x.line=4∨x.line=5∨x.line=6∨x.line=7∨x.line=8→¬ g.born x.level x.i
 w5:x.line=5→¬ Mk x.w
 w6:x.line=6→um (g.c x.i (4+x.level))=(x.find.spot x.level).cur
 c10:x.line=10→lI t g x.i x.find
 z11:x.line=11∨x.line=12∨x.line=0→¬ g.bz x.i∧g.born 0 x.i
 g12:x.line=12→∀ l,0≤l→l<t.ay→x.i∉g.C l
 n9:x.line=1∨x.line=7∨x.line=10→x.find.line≠9
inductive Gd (t:TW) (i:Int):Sh→Sh→Prop
 | nil (g:Sh):Gd t i g g
 | step {g g1 g':Sh}:aP t g→(∀ own kn:Int→Prop,(∀ j,own j→0≤j)→¬ own i→cC t own kn g g1)→Gd t i g1 g' →Gd t i g g'
section
variable {t:TW} {own kn:Int→Prop} {g g' g1:Sh} {l p i j v key known w:Int} {A B:List Int} {f:ao} {s:MS} {sp:dy} {x:aj}
theorem Gd.one (h:aP t g) (r:∀ own kn:Int→Prop,(∀ j,own j→0≤j)→¬ own i→cC t own kn g g'):Gd t i g g':=.step h r (.nil _)
theorem Gd.trans (a:Gd t i g g1) (b:Gd t i g1 g'):Gd t i g g':=by
 induction a with
 | nil=>exact b
 | step h r _ ih=>exact .step h r (ih b)
theorem fz.i0 (h:aP t g) (k:fz t g own kn x):0≤x.i∧x.i<t.size∧1≤x.hi∧x.hi≤t.ay:=by
 have:=h.hi _ k.ld
 rw [k.hi] at this; exact this
theorem fz.dF (h:aP t g) (h':aP t g') (r:cC t own kn g g') (k:fz t g own kn x):fz t g' own kn x:=by
 have i0:=k.i0 h
 refine ⟨k.o,k.k,r.ld _ k.k k.ld,k.ref.trans (r.rf _ k.k).symm,(r.fix _ 0 k.k k.ld (.inl rfl)).trans k.key,(r.fix _ 2 k.k k.ld (.inr (.inr rfl))).trans k.hi,k.line,fun e1 e2=>⟨(k.fi e1 e2).1.dF h r,(k.fi e1 e2).2⟩,k.f9,fun e hb=>k.low e (r.KB _ _ k.o hb),k.aQ,fun e l h0 h1 h2=>?_,fun e l h0 h1=>r.born _ _ k.k (k.bo e l h0 h1),fun e=>(r.KC _ k.o).2 (k.bz e),fun e hb=>k.pX e (r.KB _ _ k.o hb),k.w5,fun e=>?_,fun e=>(k.c10 e).dF h r k.k (.inl k.o) (k.fi (by omega) (by omega)).1,fun e=>⟨fun hz=>(k.z11 e).1 ((r.KC _ k.o).1 hz),r.born _ _ k.k (k.z11 e).2⟩,fun e l h0 h1 hi=>k.g12 e l h0 h1 (r.SQ _ _ k.o h0 h1 hi),k.n9⟩
 ·rw [r.ab2 _ _ k.o (k.low (by omega))]; exact k.st e l h0 h1 h2
 ·have b0:g.born 0 x.i:=k.bo (by omega) 0 (by omega) (by have:=k.aQ.2.2.2.2 (by omega); omega)
  rw [← k.w6 e]
  rcases r.ab3 x.level x.i k.o b0 (k.pX (by omega)) k.aQ.1 with e1 | ⟨e1,e2⟩
  ·rw [e1]
  ·have u:=h.u x.i (4+x.level)
   rw [e2,SH u.1 (by unfold Mk at e1; omega),sr u e1]
theorem ud.u (h:aP t g) (k:ud t g kn key l sp):U sp.cur∧¬ Mk sp.cur:=by
 rcases k.2 with e | ⟨⟨j,e,b,_⟩,_⟩
 ·rw [e]; exact ⟨⟨by decide,by decide⟩,by decide⟩
 ·have b:=h.bo _ _ b
  have r:=h.rf j b.1 b.2.1
  rw [e]
  exact ⟨⟨by omega,by have:=r.2.2; unfold aM at this; omega⟩,by unfold Mk; omega⟩
theorem fz.lnk (h:aP t g) (k:fz t g own kn x) (hX:0≤x.key) (h9:x.find.line=9) (l0:0≤x.level) (l1:x.level<x.hi) (nb:¬ g.born x.level x.i) (hw:um (g.c x.i (4+x.level))=(x.find.spot x.level).cur)
  (hl:x.line=3∨x.line=6) (hc:g.c (x.find.spot x.level).pred (4+x.level)=(x.find.spot x.level).cur) :
  ∃ A B,CA t g x.level (x.find.spot x.level).pred x.i A B:=by
 have i0:=k.i0 h
 obtain ⟨fi,fk⟩:=k.fi (by omega) (by omega)
 have T:=fi.told x.level (.inl h9) l0 (by omega)
 rw [fk] at T
 have P:eZ t g x.level (x.find.spot x.level).pred:=T.1.xL l0 (by omega) (by rw [hc]; exact (T.u h).2)
 obtain ⟨A,B,hC,hP,hA,hB⟩:=P.next h
 have aT:=T.1.lt h hX
 refine ⟨A,B,P,hC,hP,nb,k.ld,by rw [k.hi]; exact l1,by rw [hw,hc],fun a ha=>?_,fun b hb=>?_,fun e l' h0 h1=>?_,fun e=>?_⟩
 ·have:=hA a ha; have:=k.key; omega
 ·rcases hB with ⟨_,rfl⟩ | ⟨j,B',rfl,e,k1,k2,k3,k4⟩
  ·simp at hb
  ·have hj:g.c x.i 0<g.c j 0:=by
    rcases T.2 with e0 | ⟨_,c2⟩
    ·have r:=(h.rf j (h.bo _ _ k4).1 (h.bo _ _ k4).2.1).2.1
     omega
    ·rw [← hc,e,k3] at c2
     have aB:g.c j 0≠g.c x.i 0:=fun e=>by
      have:=h.vH j x.i (h.bo _ _ k4).2.2.2.2.1 k.ld e
      subst this
      exact nb k4
     have:=k.key
     omega
   rcases List.mem_cons.1 hb with rfl | hb
   ·exact hj
   ·have:=k2 b hb; omega
 ·rcases hl with hl | hl
  ·rw [k.hi] at h1
   rw [k.st (.inr hl) l' h0 h1 (.inl hl)]
   exact ((fi.told l' (.inl h9) h0 (by omega)).u h).2
  ·have:=k.aQ.2.2.2.2 (by omega); omega
 ·rcases hl with hl | hl
  ·have:=k.aQ.2.2.2.1 hl; omega
  ·exact ⟨k.bo (by omega) _ (by omega) (by omega),k.bz (by omega)⟩
end
section
variable {t:TW} {own kn:Int→Prop} {g g' g1:Sh} {l p i j v key known w:Int} {A B:List Int} {f:ao} {s:MS} {sp:dy} {x:aj}
abbrev xN (t:TW) (g:Sh) (own kn:Int→Prop) (x:aj) (y:aj×MS):Prop:=∃ g',aP t g' ∧Gd t x.i g g' ∧g'.c=vw t y.2∧fz t g' own kn y.1∧(x.line=1∨x.line=7∨(x.line=10∧y.1.line=10)→g' =g.fs t x.find)∧(∀ i p,p≤3→g'.c i p=g.c i p)
theorem zY (h:aP t g) (a:jn t g g'):Gd t i g g':=Gd.one h fun own kn ho _=>a.dF ho h
theorem SY (L:fy t s.W.length) (ho:∀ j,own j→0≤j) (h:aP t g) (hv:g.c=vw t s) (hk:pV t g kn) (k:fz t g own kn x) (hX:0≤x.key) {qW yes:Int} (e:(x.line=1∧qW =1∧yes=2)∨(x.line=7∧qW =7∧yes=8)) (hx:x.step t s=if yes=2 then x.l1 t s else x.dp t s qW yes):xN t g own kn x (x.step t s):=by
 obtain ⟨fi,fk⟩:=k.fi (by omega) (by omega)
 obtain ⟨a,e2,F,-,vJ⟩:=Ft L h hv hk fi (by omega)
 obtain ⟨g',dU⟩:∃ g',g' =g.fs t x.find:=⟨_,rfl⟩
 rw [← dU] at a e2 F
 have h':=a.inv h
 have r:cC t own kn g g':=a.dF ho h
 have k':=k.dF h h' r
 rw [hx]
 rcases e with ⟨e,rfl,rfl⟩ | ⟨e,rfl,rfl⟩
 ·rw [if_pos rfl]
  refine ⟨g',h',zY h a,e2,?_,fun _=>dU,by first | exact fun _ _ _=>rfl | exact fun i p hp=>g.c.dg _ (by omega) | exact a.lo⟩
  unfold aj.l1 aj.dp
  by_cases h9:(x.find.step t s).1.line=9
  ·simp only [h9,if_true]
   exact ⟨k'.o,k'.k,k'.ld,k'.ref,k'.key,k'.hi,by simp,fun _ _=>⟨F,vJ.trans fk⟩,fun _=>h9,fun _=>k'.low (.inl e),by have:=(k'.i0 h'); simp; omega,fun _ l h0 _ q=>by simp at q; omega,by simp,by simp,by simp,by simp,by simp,by simp,by simp,by simp,by first | (simp; done) | exact fun _=>h9 | simp [ao.new,ao.anew]⟩
  ·simp only [h9,if_false]
   exact ⟨k'.o,k'.k,k'.ld,k'.ref,k'.key,k'.hi,by simp,fun _ _=>⟨F,vJ.trans fk⟩,by simp,fun _=>k'.low (.inl e),by have:=k'.aQ; simp; omega,by simp,by simp,by simp,by simp,by simp,by simp,by simp,by simp,by simp,by first | (simp; done) | exact fun _=>h9 | simp [ao.new,ao.anew]⟩
 ·rw [if_neg (by decide)]
  refine ⟨g',h',zY h a,e2,?_,fun _=>dU,by first | exact fun _ _ _=>rfl | exact fun i p hp=>g.c.dg _ (by omega) | exact a.lo⟩
  unfold aj.dp
  by_cases h9:(x.find.step t s).1.line=9
  ·simp only [h9,if_true]
   exact ⟨k'.o,k'.k,k'.ld,k'.ref,k'.key,k'.hi,by simp,fun _ _=>⟨F,vJ.trans fk⟩,fun _=>h9,by simp,by have:=k'.aQ; simp; omega,by simp,fun _=>k'.bo (by omega),fun _=>k'.bz (by omega),fun _=>k'.pX (by omega),by simp,by simp,by simp,by simp,by simp,by first | (simp; done) | exact fun _=>h9 | simp [ao.new,ao.anew]⟩
  ·simp only [h9,if_false]
   exact ⟨k'.o,k'.k,k'.ld,k'.ref,k'.key,k'.hi,by simp,fun _ _=>⟨F,vJ.trans fk⟩,by simp,by simp,by have:=k'.aQ; simp; omega,by simp,fun _=>k'.bo (by omega),fun _=>k'.bz (by omega),fun _=>k'.pX (by omega),by simp,by simp,by simp,by simp,by simp,by first | (simp; done) | exact fun _=>h9 | simp [ao.new,ao.anew]⟩
theorem ab5 (L:fy t s.W.length) (ho:∀ j,own j→0≤j) (h:aP t g) (hv:g.c=vw t s) (k:fz t g own kn x) (e:x.line=2):xN t g own kn x (x.step t s):=by
 have au:x.step t s=x.l2 t s:=by unfold aj.step; simp [e]
 have i0:=k.i0 h
 obtain ⟨fi,fk⟩:=k.fi (by omega) (by omega)
 have h9:=k.f9 (by omega)
 have lv:=k.aQ.2.2.1 (by omega)
 have l0:=k.aQ.1
 have T:=fi.told x.level (.inl h9) l0 (by omega)
 have hP:cd t x.i (4+x.level):=jk l0 (by omega) (.inr ⟨i0.1,i0.2.1⟩)
 have hn:aN t x.i x.level=az t x.i (4+x.level):=gI fi.snd l0 (by omega) _
 have P:zV t g x.i (4+x.level) (x.find.spot x.level).cur:=⟨i0.1,(T.u h).1,.inl ⟨k.low (by omega),fun _=>by omega⟩⟩
 have e2:=zS L hP (x.find.spot x.level).cur
 rw [← hv] at e2
 have h':=h.put P
 have r0:cC t (fun _=>False) kn g (g.put x.i (4+x.level) (x.find.spot x.level).cur):=cC.put h P (.inl id)
 rw [au]
 refine ⟨g.put x.i (4+x.level) (x.find.spot x.level).cur,h',Gd.one h fun own' zZ _ hi=>cC.put h P (.inl hi),by simp only [aj.l2]; rw [hn]; exact e2.symm,?_,fun q=>by omega,by first | exact fun _ _ _=>rfl | exact fun i p hp=>g.c.dg _ (by omega) | exact a.lo⟩
 have kz:∀ q,q≤3→(g.put x.i (4+x.level) (x.find.spot x.level).cur).c x.i q=g.c x.i q:=fun q hq=>g.c.dg _ (by omega)
 have st:∀ l,0≤l→l<x.level+1→(g.put x.i (4+x.level) (x.find.spot x.level).cur).c x.i (4+l)=(x.find.spot l).cur:=fun l h0 h1=>by
  by_cases e':l=x.level
  ·rw [e']; exact Vw.oL _ _ _ _
  ·have:(g.put x.i (4+x.level) (x.find.spot x.level).cur).c x.i (4+l)=g.c x.i (4+l):=g.c.dg _ (by omega)
   rw [this]; exact k.st (by omega) l h0 (by omega) (.inr (by omega))
 unfold aj.l2
 simp only
 by_cases c:x.level+1<x.hi
 ·rw [if_pos c]
  exact ⟨k.o,k.k,k.ld,k.ref,(kz 0 (by omega)).trans k.key,(kz 2 (by omega)).trans k.hi,by simp,fun _ _=>⟨fi.dF h r0,fk⟩,fun _=>h9,fun _=>k.low (by omega),by simp; omega,fun _ l h0 _ q=>st l h0 (by simpa using q),by simp,by simp,by simp,by simp,by simp,by simp,by simp,by simp,by first | (simp; done) | exact fun _=>h9 | simp [ao.new,ao.anew]⟩
 ·rw [if_neg c]
  exact ⟨k.o,k.k,k.ld,k.ref,(kz 0 (by omega)).trans k.key,(kz 2 (by omega)).trans k.hi,by simp,fun _ _=>⟨fi.dF h r0,fk⟩,fun _=>h9,fun _=>k.low (by omega),by simp; omega,fun _ l h0 q _=>st l h0 (by simp only at q; omega),by simp,by simp,by simp,by simp,by simp,by simp,by simp,by simp,by first | (simp; done) | exact fun _=>h9 | simp [ao.new,ao.anew]⟩
theorem ab6 (L:fy t s.W.length) (ho:∀ j,own j→0≤j) (h:aP t g) (hv:g.c=vw t s) (k:fz t g own kn x) (hX:0≤x.key) (e:x.line=3∨x.line=6):xN t g own kn x (x.step t s):=by
 have i0:=k.i0 h
 obtain ⟨fi,fk⟩:=k.fi (by omega) (by omega)
 have h9:=k.f9 (by omega)
 have l0:=k.aQ.1
 have lv:x.level<x.hi:=by
  rcases e with e | e
  ·have:=k.aQ.2.2.2.1 e; omega
  ·exact k.aQ.2.2.1 (by omega)
 have T:=fi.told x.level (.inl h9) l0 (by omega)
 have hP:=T.1.cd h l0 (by omega)
 have hn:aN t (x.find.spot x.level).pred x.level=az t (x.find.spot x.level).pred (4+x.level):=gI fi.snd l0 (by omega) _
 have nb:¬ g.born x.level x.i:=by
  rcases e with e | e
  ·rw [k.aQ.2.2.2.1 e]; exact k.low (by omega)
  ·exact k.pX (by omega)
 have hw:um (g.c x.i (4+x.level))=(x.find.spot x.level).cur:=by
  rcases e with e | e
  ·rw [k.st (.inr e) x.level l0 lv (.inl e),sr (T.u h).1 (T.u h).2]
  ·exact k.w6 e
 have Fu:x.line=3→x.step t s=x.l3 t s:=fun e=>by unfold aj.step; simp [e]
 have Fv:x.line=6→x.step t s=x.l6 t s:=fun e=>by unfold aj.step; simp [e]
 have nf:∀ {g:Sh} {z:aj},z.find=ao.new t z.key→z.find.key=z.key:=fun e=>by rw [e]; rfl
 by_cases hc:g.c (x.find.spot x.level).pred (4+x.level)=(x.find.spot x.level).cur
 ·obtain ⟨A,B,K⟩:=k.lnk h hX h9 l0 lv nb hw e hc
  obtain ⟨e1,e2⟩:=pT L hP (x:=(x.find.spot x.level).cur) x.ref (by rw [← hv]; exact hc)
  rw [← hv] at e2
  have hh:x.iB t s=s.bM (az t (x.find.spot x.level).pred (4+x.level)) (x.find.spot x.level).cur x.ref:=by unfold aj.iB; rw [hn]
  rw [← hh] at e1 e2
  have h':=h.link K
  have r0:cC t (fun _=>False) kn g (g.link x.level (x.find.spot x.level).pred x.i (A++x.i::B)):=cC.link (fun _ h=>h.elim) h K id
  have gd:Gd t x.i g (g.link x.level (x.find.spot x.level).pred x.i (A++x.i::B)):=Gd.one h fun own' zZ cW hi=>cC.link cW h K hi
  obtain ⟨sA,-,-,-⟩:=K.ne h
  have kz:∀ q,(g.link x.level (x.find.spot x.level).pred x.i (A++x.i::B)).c x.i q=g.c x.i q:=fun q=>g.c.jO _ sA
  have cw:(g.link x.level (x.find.spot x.level).pred x.i (A++x.i::B)).c=vw t (x.iB t s):=by rw [e2,k.ref]; rfl
  have F':=fi.dF h r0
  have SZ:∀ l,x.level<l→¬ (g.link x.level (x.find.spot x.level).pred x.i (A++x.i::B)).born l x.i:=fun l hl hb=>by
   rcases hb with hb | ⟨e,_⟩
   ·exact nb (h.dn _ _ _ hb l0 (by omega))
   ·omega
  have Fw:∀ l,0≤l→l<x.level+1→(g.link x.level (x.find.spot x.level).pred x.i (A++x.i::B)).born l x.i:=fun l h0 h1=>by
   by_cases e':l=x.level
   ·exact .inr ⟨e',rfl⟩
   ·rcases e with e | e
    ·have:=k.aQ.2.2.2.1 e; omega
    ·exact .inl (k.bo (by omega) l h0 (by omega))
  have Fx:(g.link x.level (x.find.spot x.level).pred x.i (A++x.i::B)).bz x.i:=by
   rcases e with e | e
   ·exact .inr ⟨k.aQ.2.2.2.1 e,rfl⟩
   ·exact .inl (k.bz (by omega))
  refine ⟨_,h',gd,?_,?_,fun q=>by omega,by first | exact fun _ _ _=>rfl | exact fun i p hp=>g.c.dg _ (by omega) | exact a.lo⟩
  ·rcases e with e | e
   ·rw [Fu e]; exact cw
   ·rw [Fv e]; exact cw
  ·rcases e with e | e
   ·have lz:=k.aQ.2.2.2.1 e
    rw [Fu e]
    unfold aj.l3
    simp only [e1,if_true]
    unfold aj.up
    by_cases c:x.hi≤1
    ·simp only [if_pos c]
     exact ⟨k.o,k.k,k.ld,k.ref,(kz 0).trans k.key,(kz 2).trans k.hi,by simp,fun _ _=>⟨F',fk⟩,by simp,by simp,by simp; omega,by simp,fun _ l h0 h1=>Fw l h0 (by simp only at h1; omega),fun _=>Fx,by simp,by simp,by simp,by simp,by simp,by simp,by first | (simp; done) | exact fun _=>h9 | simp [ao.new,ao.anew]⟩
    ·simp only [if_neg c]
     exact ⟨k.o,k.k,k.ld,k.ref,(kz 0).trans k.key,(kz 2).trans k.hi,by simp,fun _ _=>⟨F',fk⟩,fun _=>h9,by simp,by simp; omega,by simp,fun _ l h0 h1=>Fw l h0 (by simp only at h1; omega),fun _=>Fx,fun _=>SZ 1 (by omega),by simp,by simp,by simp,by simp,by simp,by first | (simp; done) | exact fun _=>h9 | simp [ao.new,ao.anew]⟩
   ·rw [Fv e]
    unfold aj.l6
    simp only [e1,if_true]
    unfold aj.up
    by_cases c:x.hi≤x.level+1
    ·simp only [if_pos c]
     exact ⟨k.o,k.k,k.ld,k.ref,(kz 0).trans k.key,(kz 2).trans k.hi,by simp,fun _ _=>⟨F',fk⟩,by simp,by simp,by simp; omega,by simp,fun _ l h0 h1=>Fw l h0 h1,fun _=>Fx,by simp,by simp,by simp,by simp,by simp,by simp,by first | (simp; done) | exact fun _=>h9 | simp [ao.new,ao.anew]⟩
    ·simp only [if_neg c]
     exact ⟨k.o,k.k,k.ld,k.ref,(kz 0).trans k.key,(kz 2).trans k.hi,by simp,fun _ _=>⟨F',fk⟩,fun _=>h9,by simp,by simp; omega,by simp,fun _ l h0 h1=>Fw l h0 h1,fun _=>Fx,fun _=>SZ _ (by simp only; omega),by simp,by simp,by simp,by simp,by simp,by first | (simp; done) | exact fun _=>h9 | simp [ao.new,ao.anew]⟩
 ·obtain ⟨e1,e2⟩:=pU L hP (x:=(x.find.spot x.level).cur) x.ref (by rw [← hv]; exact hc)
  rw [← hv] at e2
  have hh:x.iB t s=s.bM (az t (x.find.spot x.level).pred (4+x.level)) (x.find.spot x.level).cur x.ref:=by unfold aj.iB; rw [hn]
  rw [← hh] at e1 e2
  have F':ga t g kn (ao.new t x.key):=zW fi.snd (by simp [ao.zero])
  refine ⟨g,h,.nil g,?_,?_,fun q=>by omega,by first | exact fun _ _ _=>rfl | exact fun i p hp=>g.c.dg _ (by omega) | exact a.lo⟩
  ·rcases e with e | e
   ·rw [Fu e]; exact e2.symm
   ·rw [Fv e]; exact e2.symm
  ·rcases e with e | e
   ·rw [Fu e]
    unfold aj.l3
    simp only [e1,Bool.false_eq_true,if_false]
    unfold aj.anew
    exact ⟨k.o,k.k,k.ld,k.ref,k.key,k.hi,by simp,fun _ _=>⟨F',rfl⟩,by simp,fun _=>k.low (by omega),by have:=k.aQ; simp; omega,by simp,by simp,by simp,by simp,by simp,by simp,by simp,by simp,by simp,by first | (simp; done) | exact fun _=>h9 | simp [ao.new,ao.anew]⟩
   ·rw [Fv e]
    unfold aj.l6
    simp only [e1,Bool.false_eq_true,if_false]
    unfold aj.anew
    exact ⟨k.o,k.k,k.ld,k.ref,k.key,k.hi,by simp,fun _ _=>⟨F',rfl⟩,by simp,by simp,by have:=k.aQ; simp; omega,by simp,fun _=>k.bo (by omega),fun _=>k.bz (by omega),fun _=>k.pX (by omega),by simp,by simp,by simp,by simp,by simp,by first | (simp; done) | exact fun _=>h9 | simp [ao.new,ao.anew]⟩
end
section
variable {t:TW} {own kn:Int→Prop} {g g' g1:Sh} {l p i j v key known w:Int} {A B:List Int} {f:ao} {s:MS} {sp:dy} {x:aj}
theorem ab7 (L:fy t s.W.length) (ho:∀ j,own j→0≤j) (h:aP t g) (hv:g.c=vw t s) (k:fz t g own kn x) (e:x.line=4∨x.line=5):xN t g own kn x (x.step t s):=by
 have i0:=k.i0 h
 obtain ⟨fi,fk⟩:=k.fi (by omega) (by omega)
 have h9:=k.f9 (by omega)
 have l0:=k.aQ.1
 have lv:=k.aQ.2.2.1 (by omega)
 have hP:cd t x.i (4+x.level):=jk l0 (by omega) (.inr ⟨i0.1,i0.2.1⟩)
 have hn:aN t x.i x.level=az t x.i (4+x.level):=gI fi.snd l0 (by omega) _
 have aQ:=k.aQ
 rcases e with e | e
 ·obtain ⟨e1,e2⟩:=fZ L hP
  rw [← hv] at e1 e2
  have au:x.step t s=({ x with ar:=x.ref,w:=g.c x.i (4+x.level),line:=if Mk (g.c x.i (4+x.level)) then 9 else if g.c x.i (4+x.level)=(x.find.spot x.level).cur then 6 else 5 },s.load (az t x.i (4+x.level))):=by
   unfold aj.step
   simp only [e]
   unfold aj.l4
   rw [hn,e1]
   rfl
  rw [au]
  refine ⟨g,h,.nil g,e2.symm,?_,fun q=>by omega,by first | exact fun _ _ _=>rfl | exact fun i p hp=>g.c.dg _ (by omega) | exact a.lo⟩
  by_cases c:Mk (g.c x.i (4+x.level))
  ·simp only [if_pos c]
   exact ⟨k.o,k.k,k.ld,k.ref,k.key,k.hi,by simp,fun _ _=>⟨fi,fk⟩,by simp,by simp,by simp; omega,by simp,fun _=>k.bo (by omega),fun _=>k.bz (by omega),by simp,by simp,by simp,by simp,by simp,by simp,by first | (simp; done) | exact fun _=>h9 | simp [ao.new,ao.anew]⟩
  ·simp only [if_neg c]
   by_cases c2:g.c x.i (4+x.level)=(x.find.spot x.level).cur
   ·simp only [if_pos c2]
    exact ⟨k.o,k.k,k.ld,k.ref,k.key,k.hi,by simp,fun _ _=>⟨fi,fk⟩,fun _=>h9,by simp,by simp; omega,by simp,fun _=>k.bo (by omega),fun _=>k.bz (by omega),fun _=>k.pX (by omega),by simp,fun _=>by rw [sr (h.u _ _) c]; exact c2,by simp,by simp,by simp,by first | (simp; done) | exact fun _=>h9 | simp [ao.new,ao.anew]⟩
   ·simp only [if_neg c2]
    exact ⟨k.o,k.k,k.ld,k.ref,k.key,k.hi,by simp,fun _ _=>⟨fi,fk⟩,fun _=>h9,by simp,by simp; omega,by simp,fun _=>k.bo (by omega),fun _=>k.bz (by omega),fun _=>k.pX (by omega),fun _=>c,by simp,by simp,by simp,by simp,by first | (simp; done) | exact fun _=>h9 | simp [ao.new,ao.anew]⟩
 ·have au:x.step t s=x.l5 t s:=by unfold aj.step; simp [e]
  have T:=fi.told x.level (.inl h9) l0 (by omega)
  by_cases c:g.c x.i (4+x.level)=x.w
  ·obtain ⟨e1,e2⟩:=pT L hP (x:=x.w) (x.find.spot x.level).cur (by rw [← hv]; exact c)
   rw [← hv] at e2
   have P:zV t g x.i (4+x.level) (x.find.spot x.level).cur:=⟨i0.1,(T.u h).1,.inr (.inl ⟨x.level,l0,rfl,k.pX (by omega),by rw [c]; exact k.w5 e,(T.u h).2⟩)⟩
   have h':=h.put P
   have r0:cC t (fun _=>False) kn g (g.put x.i (4+x.level) (x.find.spot x.level).cur):=cC.put h P (.inl id)
   have kz:∀ q,q≤3→(g.put x.i (4+x.level) (x.find.spot x.level).cur).c x.i q=g.c x.i q:=fun q hq=>g.c.dg _ (by omega)
   rw [au]
   refine ⟨_,h',Gd.one h fun own' zZ _ hi=>cC.put h P (.inl hi),by simp only [aj.l5]; rw [hn]; exact e2.symm,?_,fun q=>by omega,by first | exact fun _ _ _=>rfl | exact fun i p hp=>g.c.dg _ (by omega) | exact a.lo⟩
   unfold aj.l5
   simp only [hn,e1,if_true]
   exact ⟨k.o,k.k,k.ld,k.ref,(kz 0 (by omega)).trans k.key,(kz 2 (by omega)).trans k.hi,by simp,fun _ _=>⟨fi.dF h r0,fk⟩,fun _=>h9,by simp,by simp; omega,by simp,fun _=>k.bo (by omega),fun _=>k.bz (by omega),fun _=>k.pX (by omega),by simp,fun _=>by rw [show (g.put x.i (4+x.level) (x.find.spot x.level).cur).c x.i (4+x.level)=_ from Vw.oL _ _ _ _,sr (T.u h).1 (T.u h).2],by simp,by simp,by simp,by first | (simp; done) | exact fun _=>h9 | simp [ao.new,ao.anew]⟩
  ·obtain ⟨e1,e2⟩:=pU L hP (x:=x.w) (x.find.spot x.level).cur (by rw [← hv]; exact c)
   rw [← hv] at e2
   rw [au]
   refine ⟨g,h,.nil g,by simp only [aj.l5]; rw [hn]; exact e2.symm,?_,fun q=>by omega,by first | exact fun _ _ _=>rfl | exact fun i p hp=>g.c.dg _ (by omega) | exact a.lo⟩
   unfold aj.l5
   simp only [hn,e1,Bool.false_eq_true,if_false]
   exact ⟨k.o,k.k,k.ld,k.ref,k.key,k.hi,by simp,fun _ _=>⟨fi,fk⟩,by simp,by simp,by simp; omega,by simp,fun _=>k.bo (by omega),fun _=>k.bz (by omega),by simp,by simp,by simp,by simp,by simp,by simp,by first | (simp; done) | exact fun _=>h9 | simp [ao.new,ao.anew]⟩
theorem ab8 (L:fy t s.W.length) (ho:∀ j,own j→0≤j) (h:aP t g) (hv:g.c=vw t s) (k:fz t g own kn x) (e:x.line=8∨x.line=9):xN t g own kn x (x.step t s):=by
 have i0:=k.i0 h
 obtain ⟨fi,fk⟩:=k.fi (by omega) (by omega)
 have hh:=fi.snd.1
 have hP:cd t x.i (4+0):=jk (by omega) (by omega) (.inr ⟨i0.1,i0.2.1⟩)
 have hn:aN t x.i 0=az t x.i (4+0):=gI fi.snd (by omega) (by omega) _
 have aQ:=k.aQ
 have b0:g.born 0 x.i:=k.bo (by omega) 0 (by omega) (by omega)
 obtain ⟨e1,e2⟩:=fZ L hP
 rw [← hv] at e1 e2
 have F':ga t g kn (ao.new t x.key):=zW fi.snd (by simp [ao.zero])
 have iQ:Mk (g.c x.i (4+0))→∀ l,0≤l→l<g.c x.i 2→Mk (g.c x.i (4+l)):=fun c l h0 h1=>by
  by_cases e:l=0
  ·rw [e]; exact c
  ·exact h.up 0 l x.i b0 (by omega) (by omega) h1 c
 have au:∀ qW,(x.line=8∧qW =4)∨(x.line=9∧qW =11)→x.step t s=(if Mk (g.c x.i (4+0)) then ({ x with ar:=x.ref }:aj).anew t 10 else { x with ar:=x.ref,line:=qW },s.load (az t x.i (4+0))):=fun qW q=>by
  unfold aj.step
  rcases q with ⟨q,rfl⟩ | ⟨q,rfl⟩
  ·simp only [q]
   unfold aj.l89
   rw [hn,e1]
   rfl
  ·simp only [q]
   unfold aj.l89
   rw [hn,e1]
   rfl
 by_cases c:Mk (g.c x.i (4+0))
 ·have:fz t g own kn (({ x with ar:=x.ref }:aj).anew t 10):=by
   unfold aj.anew
   exact ⟨k.o,k.k,k.ld,k.ref,k.key,k.hi,by simp,fun _ _=>⟨F',rfl⟩,by simp,by simp,by simp; omega,by simp,by simp,fun _=>k.bz (by omega),by simp,by simp,by simp,fun _=>Fs k.key b0 (iQ c),by simp,by simp,by first | (simp; done) | exact fun _=>h9 | simp [ao.new,ao.anew]⟩
  rcases e with e | e
  ·rw [au 4 (.inl ⟨e,rfl⟩),if_pos c]; exact ⟨g,h,.nil g,e2.symm,this,fun q=>by omega,by first | exact fun _ _ _=>rfl | exact fun i p hp=>g.c.dg _ (by omega) | exact a.lo⟩
  ·rw [au 11 (.inr ⟨e,rfl⟩),if_pos c]; exact ⟨g,h,.nil g,e2.symm,this,fun q=>by omega,by first | exact fun _ _ _=>rfl | exact fun i p hp=>g.c.dg _ (by omega) | exact a.lo⟩
 ·rcases e with e | e
  ·rw [au 4 (.inl ⟨e,rfl⟩),if_neg c]
   refine ⟨g,h,.nil g,e2.symm,?_,fun q=>by omega,by first | exact fun _ _ _=>rfl | exact fun i p hp=>g.c.dg _ (by omega) | exact a.lo⟩
   have h9:=k.f9 (by omega)
   exact ⟨k.o,k.k,k.ld,k.ref,k.key,k.hi,by simp,fun _ _=>⟨fi,fk⟩,fun _=>h9,by simp,by simp; omega,by simp,fun _=>k.bo (by omega),fun _=>k.bz (by omega),fun _=>k.pX (by omega),by simp,by simp,by simp,by simp,by simp,by first | (simp; done) | exact fun _=>h9 | simp [ao.new,ao.anew]⟩
  ·rw [au 11 (.inr ⟨e,rfl⟩),if_neg c]
   refine ⟨g.sy x.i,h.sy,Gd.one h fun own' zZ _ hi=>cC.sy hi fun hm=>absurd (by simpa using hm) c,e2.symm,?_,fun q=>by omega,by first | exact fun _ _ _=>rfl | exact fun i p hp=>g.c.dg _ (by omega) | exact a.lo⟩
   exact ⟨k.o,k.k,k.ld,k.ref,k.key,k.hi,by simp,by simp,by simp,by simp,by simp; omega,by simp,by simp,by simp,by simp,by simp,by simp,by simp,fun _=>⟨fun q=>q.2 rfl,b0⟩,by simp,by first | (simp; done) | exact fun _=>h9 | simp [ao.new,ao.anew]⟩
theorem ab9 (L:fy t s.W.length) (ho:∀ j,own j→0≤j) (h:aP t g) (hv:g.c=vw t s) (hk:pV t g kn) (k:fz t g own kn x) (hX:0≤x.key) (e:x.line=10):xN t g own kn x (x.step t s)∧((x.step t s).1.line=11→∃ g',aP t g' ∧Gd t x.i g g' ∧g'.c=vw t (x.step t s).2∧fz t g' own kn (x.step t s).1∧(∀ l,0≤l→l<t.ay→x.i∉g'.C l)∧∀ i p,p≤3→g'.c i p=g.c i p):=by
 have au:x.step t s=x.dp t s 10 11:=by unfold aj.step; simp [e]
 obtain ⟨fi,fk⟩:=k.fi (by omega) (by omega)
 obtain ⟨a,e2,F,cl,vJ⟩:=Ft L h hv hk fi (by omega)
 obtain ⟨g',dU⟩:∃ g',g' =g.fs t x.find:=⟨_,rfl⟩
 rw [← dU] at a e2 F cl
 have h':=a.inv h
 have r:cC t own kn g g':=a.dF ho h
 have k':=k.dF h h' r
 have aQ:=k.aQ
 have C':=cl x.i k.k (k.c10 e)
 rw [au]
 by_cases h9:(x.find.step t s).1.line=9
 ·have gone:∀ l,0≤l→l<t.ay→x.i∉g'.C l:=fun l h0 h1=>C'.up l (.inl h9) h0 h1
  have q:∃ g2,aP t g2∧Gd t x.i g g2∧g2.c=vw t (x.dp t s 10 11).2∧fz t g2 own kn (x.dp t s 10 11).1∧(∀ l,0≤l→l<t.ay→x.i∉g2.C l)∧∀ i p,p≤3→g2.c i p=g.c i p:=by
   refine ⟨g'.sy x.i,h'.sy,(zY h a).trans (Gd.one h' fun own' zZ _ hi=>cC.sy hi fun _=>gone),e2,?_,gone,a.lo⟩
   unfold aj.dp
   simp only [h9,if_true]
   exact ⟨k'.o,k'.k,k'.ld,k'.ref,k'.key,k'.hi,by simp,by simp,by simp,by simp,by simp; omega,by simp,by simp,by simp,by simp,by simp,by simp,by simp,fun _=>⟨fun q=>q.2 rfl,C'.bo⟩,by simp,by first | (simp; done) | exact fun _=>h9 | simp [ao.new,ao.anew]⟩
  exact ⟨let ⟨g2,a1,a2,a3,a4,_,a6⟩:=q; ⟨g2,a1,a2,a3,a4,fun z=>absurd z (by unfold aj.dp; simp [h9]; omega),a6⟩,fun _=>q⟩
 ·refine ⟨⟨g',h',zY h a,e2,?_,fun _=>dU,by first | exact fun _ _ _=>rfl | exact fun i p hp=>g.c.dg _ (by omega) | exact a.lo⟩,fun h11=>?_⟩
  ·unfold aj.dp
   simp only [h9,if_false]
   exact ⟨k'.o,k'.k,k'.ld,k'.ref,k'.key,k'.hi,by simp,fun _ _=>⟨F,vJ.trans fk⟩,by simp,by simp,by simp; omega,by simp,by simp,fun _=>k'.bz (by omega),by simp,by simp,by simp,fun _=>C',by simp,by simp,by first | (simp; done) | exact fun _=>h9 | simp [ao.new,ao.anew]⟩
  ·unfold aj.dp at h11
   simp [h9] at h11
theorem S0 (L:fy t s.W.length) (ho:∀ j,own j→0≤j) (h:aP t g) (hv:g.c=vw t s) (hk:pV t g kn) (k:fz t g own kn x) (hX:0≤x.key) (e1:1≤x.line) (e2:x.line≤10):xN t g own kn x (x.step t s):=by
 rcases (show x.line=1∨x.line=2∨(x.line=3∨x.line=6)∨(x.line=4∨x.line=5)∨x.line=7∨(x.line=8∨x.line=9)∨x.line=10 by omega) with e | e | e | e | e | e | e
 ·exact SY L ho h hv hk k hX (.inl ⟨e,rfl,rfl⟩) (by unfold aj.step; simp [e])
 ·exact ab5 L ho h hv k e
 ·exact ab6 L ho h hv k hX e
 ·exact ab7 L ho h hv k e
 ·exact SY L ho h hv hk k hX (.inr ⟨e,rfl,rfl⟩) (by unfold aj.step; simp [e])
 ·exact ab8 L ho h hv k e
 ·exact (ab9 L ho h hv hk k hX e).1
end
def Gone (t:TW) (g:Sh) (i:Int):Prop:=∀ l,0≤l→l<t.ay→i∉g.C l
def bY (x:ai):Prop:=x.line=9∨x.line=91∨x.line=10∨x.line=11∨x.line=12∨(x.line=99∧x.err=0)
structure fo (t:TW) (g:Sh) (kn F:Int→Prop) (Fn:Prop) (look:Bool) (x:ai):Prop where
 snd:t.sound
 line:cI look x.line
 err:x.line≠99→x.err=0
 nd:x.line≠1→(x.line=99→x.err=0)→x.a=g.rf x.i∧kn x.i∧g.born 0 x.i
 fst:x.line=2∨x.line=4∨x.line=5∨x.line=6∨x.line=7∨x.line=8→Mk (g.c x.i 4)∨F x.i
 w3:x.line=3→g.c x.i 4=x.w∧Mk x.w
 lv:x.line=5∨x.line=6→1≤x.level∧x.level<g.c x.i 2∧∀ l,x.level<l→l<g.c x.i 2→Mk (g.c x.i (4+l))
 vL:x.line=7∨x.line=8→∀ l,1≤l→l<g.c x.i 2→Mk (g.c x.i (4+l))
 w6:x.line=6∨x.line=8→¬ Mk x.w
 own:bY x→F x.i∧(look=false→∀ l,0≤l→l<g.c x.i 2→Mk (g.c x.i (4+l)))
 key:x.line=91∨x.line=10∨x.line=11∨x.line=12∨(x.line=99∧x.err=0)→x.key=g.c x.i 0
 job:x.line=10∨x.line=11∨x.line=12∨(x.line=99∧x.err=0)→x.job=g.c x.i 1 % 65536
 find:x.line=10→ga t g kn x.find∧x.find.key=x.key∧(g.bz x.i∨lI t g x.i x.find)
 g11:x.line=11→g.bz x.i∨Gone t g x.i
 g12:x.line=12→¬ g.bz x.i∧Gone t g x.i
 e15:x.line=99→x.err=0∨(x.err=15∧Fn)
 f9:x.line=10→x.find.line≠9
section
variable {t:TW} {own kn F F':Int→Prop} {Fn gp:Prop} {g g' g1:Sh} {l p i j v key known w:Int} {A B:List Int} {f:ao} {s:MS} {sp:dy} {x:ai} {look:Bool}
theorem Gone.dF (h:aP t g) (r:cC t own kn g g') (hk:kn i) (hb:g.born 0 i) (hz:¬ g.bz i) (k:Gone t g i):Gone t g' i:=fun l h0 h1 hi=>k l h0 h1 (r.back l i hk hb hz h0 h1 hi)
theorem KK (h:aP t g) (r:cC t own kn g g') (hk:kn i) (hb:g.born 0 i) (hm:Mk (g.c i (4+0))) (k:g.bz i∨Gone t g i):g'.bz i∨Gone t g' i:=by
 rcases Classical.em (g'.bz i) with z | z
 ·exact .inl z
 ·rcases Classical.em (g.bz i) with y | y
  ·have jB:Mk (g'.c i 4):=by
    have:=r.mark 0 i hk hb (by omega) hm
    have h40:(4:Int)+0=4:=by omega
    rw [h40] at this hm
    rw [this]; exact hm
   exact .inr fun l h0 h1=>r.bzo i hk hb y z jB l h0 h1
  ·exact .inr ((k.resolve_left y).dF h r hk hb y)
theorem lI.aca (k1:g.c i 0=f.key) (k2:g.born 0 i) (k3:∀ l,0≤l→l<g.c i 2→Mk (g.c i (4+l))) (k:Gone t g i) (kF:ga t g kn f):lI t g i f :=
 ⟨k1,k2,k3,fun l _ h0 h1=>k l h0 h1,fun _ hi=>absurd hi (k _ kF.aQ.1 kF.aQ.2),fun _ hi=>absurd hi (k _ kF.aQ.1 kF.aQ.2),fun _ hi=>absurd hi (k _ kF.aQ.1 kF.aQ.2)⟩
theorem fo.dF (h:aP t g) (r:cC t own kn g g') (k:fo t g kn F Fn look x):fo t g' kn F Fn look x:=by
 have ld:x.line≠1→(x.line=99→x.err=0)→g.ld x.i:=fun a b=>(h.bo _ _ (k.nd a b).2.2).2.2.2.2.1
 have c0:∀ p,(p=0∨p=1∨p=2)→x.line≠1→(x.line=99→x.err=0)→g'.c x.i p=g.c x.i p:=fun p hp a b=>r.fix _ p (k.nd a b).2.1 (ld a b) hp
 have mm:∀ l,x.line≠1→(x.line=99→x.err=0)→0≤l→Mk (g.c x.i (4+l))→Mk (g'.c x.i (4+l)):=fun l a b h0 hm=>by
  rw [r.mark l _ (k.nd a b).2.1 (k.nd a b).2.2 h0 hm]; exact hm
 have m0:x.line≠1→(x.line=99→x.err=0)→Mk (g.c x.i 4)→Mk (g'.c x.i 4):=fun a b hm=>by
  have:=mm 0 a b (by omega) (by simpa using hm)
  simpa using this
 refine ⟨k.snd,k.line,k.err,fun a b=>⟨(k.nd a b).1.trans (r.rf _ (k.nd a b).2.1).symm,(k.nd a b).2.1,r.born _ _ (k.nd a b).2.1 (k.nd a b).2.2⟩,fun e=>(k.fst e).imp (m0 (by omega) (by omega)) id,fun e=>?_,fun e=>?_,fun e l h0 h1=>?_,k.w6,fun e=>⟨(k.own e).1,fun lk l h0 h1=>?_⟩,fun e=>?_,fun e=>?_,fun e=>?_,fun e=>?_,fun e=>?_,k.e15,k.f9⟩
 ·obtain ⟨w1,w2⟩:=k.w3 e
  refine ⟨?_,w2⟩
  have:=r.mark 0 _ (k.nd (by omega) (by omega)).2.1 (k.nd (by omega) (by omega)).2.2 (by omega) (by rw [show (4:Int)+0=4 by omega,w1]; exact w2)
  rw [show (4:Int)+0=4 by omega] at this
  rw [this]; exact w1
 ·rw [c0 2 (.inr (.inr rfl)) (by omega) (by omega)]
  obtain ⟨a1,a2,a3⟩:=k.lv e
  exact ⟨a1,a2,fun l h0 h1=>mm l (by omega) (by omega) (by omega) (a3 l h0 h1)⟩
 ·rw [c0 2 (.inr (.inr rfl)) (by omega) (by omega)] at h1
  exact mm l (by omega) (by omega) (by omega) (k.vL e l h0 h1)
 ·have e':x.line≠1:=by unfold bY at e; omega
  have e2:x.line=99→x.err=0:=by unfold bY at e; omega
  rw [c0 2 (.inr (.inr rfl)) e' e2] at h1
  exact mm l e' e2 h0 ((k.own e).2 lk l h0 h1)
 ·rw [c0 0 (.inl rfl) (by omega) (by omega)]; exact k.key e
 ·rw [c0 1 (.inr (.inl rfl)) (by omega) (by omega)]; exact k.job e
 ·obtain ⟨f1,f2,f3⟩:=k.find e
  have nd:=k.nd (by omega) (by omega)
  have lk:look=false:=by
   rcases k.line with q | q | q | q | q | q | ⟨q,_⟩<;>first | omega | exact q
  have mk:=(k.own (by unfold bY; omega)).2 lk
  have hi:=h.hi _ (ld (by omega) (by omega))
  refine ⟨f1.dF h r,f2,?_⟩
  rcases Classical.em (g'.bz x.i) with z | z
  ·exact .inl z
  ·refine .inr ?_
   rcases Classical.em (g.bz x.i) with y | y
   ·have gn:=(KK h r nd.2.1 nd.2.2 (mk 0 (by omega) (by omega)) (.inl y)).resolve_left z
    refine lI.aca ?_ (r.born _ _ nd.2.1 nd.2.2) (fun l h0 h1=>?_) gn (f1.dF h r)
    ·rw [c0 0 (.inl rfl) (by omega) (by omega),f2]; exact (k.key (by omega)).symm
    ·rw [c0 2 (.inr (.inr rfl)) (by omega) (by omega)] at h1
     exact mm l (by omega) (by omega) h0 (mk l h0 h1)
   ·exact (f3.resolve_left y).dF h r nd.2.1 (.inr y) f1
 ·have nd:=k.nd (by omega) (by omega)
  have lk:look=false:=by
   rcases k.line with q | q | q | q | q | q | ⟨q,_⟩<;>first | omega | exact q
  have hi:=h.hi _ (ld (by omega) (by omega))
  exact KK h r nd.2.1 nd.2.2 ((k.own (by unfold bY; omega)).2 lk 0 (by omega) (by omega)) (k.g11 e)
 ·have nd:=k.nd (by omega) (by omega)
  obtain ⟨z1,z2⟩:=k.g12 e
  exact ⟨r.Fm _ nd.2.1 nd.2.2 z1,z2.dF h r nd.2.1 nd.2.2 z1⟩
end
structure gK (t:TW) (g:Sh) (kn F':Int→Prop) (gp:Prop) (look:Bool) (x:ai) (y:ai×MS) (g':Sh):Prop where
 inv:aP t g'
 gd:Gd t (-1) g g'
 c:g'.c=vw t y.2
 loc:fo t g' kn F' gp look y.1
 cj:bY y.1→look=false→(bY x∧y.1.i=x.i)∨(y.1.i=x.i∧¬ Mk (g.c x.i 4))
 Ta:∀ j,Mk (g'.c j 4)→Mk (g.c j 4)∨(j=x.i∧bY y.1)
 born:g'.born=g.born
 C:(g'.C=g.C∧x.line≠10∧(x.line=3→g.c (-1) 4≠x.a))∨(x.line=3∧g.c (-1) 4=x.a∧(g'.C 0).length+1=(g.C 0).length)∨(x.line=10∧g' =g.fs t x.find)
 lo:∀ i p,p≤3→g'.c i p=g.c i p
section
variable {t:TW} {own kn F F':Int→Prop} {Fn gp:Prop} {g g' g1:Sh} {l p i j v key known w:Int} {A B:List Int} {f:ao} {s:MS} {sp:dy} {x:ai} {look:Bool}
theorem acb (h0:0≤i) (h:aF t.size w=i):w % 65536 - 1=i∧i<t.size:=by
 unfold aF at h
 split at h
 ·omega
 ·omega
theorem Tb (hs:t.sound) (h:aP t g):eZ t g 0 (-1):=⟨by omega,by have:=hs.1; omega,.inl rfl,h.hd 0 (by omega) (by have:=hs.1; omega)⟩
theorem KL (hs:t.sound) (h:aP t g):(g.c (-1) 4=0∧g.C 0=[])∨∃ j B,g.C 0=j::B∧g.c (-1) 4=g.rf j∧aF t.size (g.rf j)=j∧g.born 0 j∧fm g.c g.rf 0 (-1) [] (-1):=by
 have P:=Tb hs h
 obtain ⟨A,B,hC,hP,-,hB⟩:=P.next h
 have hA:A=[]:=by
  rcases hP.end with ⟨e,_⟩ | ⟨A',e⟩
  ·exact e
  ·exfalso
   have:=(h.bo _ _ (h.jl 0 (-1) P.l0 P.l1 (by rw [hC,e]; simp))).1
   omega
 subst hA
 rcases hB with ⟨e,rfl⟩ | ⟨j,B',rfl,e,-,-,k3,k4⟩
 ·exact .inl ⟨by simpa using e,hC⟩
 ·exact .inr ⟨j,B',hC,by simpa using e,k3,k4,rfl⟩
theorem gK.read {y:ai×MS} (h:aP t g) (c:g.c=vw t y.2) (loc:fo t g kn F' gp look y.1) (cj:bY y.1→bY x∧y.1.i=x.i) (h3:x.line=3→g.c (-1) 4≠x.a:=by intro q; omega) (h10:x.line≠10:=by omega):gK t g kn F' gp look x y g :=
 ⟨h,.nil g,c,loc,fun a _=>.inl (cj a),fun j h=>.inl h,rfl,.inl ⟨rfl,h10,h3⟩,fun _ _ _=>rfl⟩
theorem fo.grow (hF:∀ j,F j→F' j) (hn:Fn→gp) (k:fo t g kn F Fn look x):fo t g kn F' gp look x :=
 ⟨k.snd,k.line,k.err,k.nd,fun e=>(k.fst e).imp id (hF _),k.w3,k.lv,k.vL,k.w6,fun e=>⟨hF _ (k.own e).1,(k.own e).2⟩,k.key,k.job,k.find,k.g11,k.g12,fun e=>(k.e15 e).imp id (And.imp id hn),k.f9⟩
theorem KM (L:fy t s.W.length) (h:aP t g) (hv:g.c=vw t s) (hk:pV t g kn) (k:fo t g kn F Fn look x) (hF:∀ j,F j→F' j) (hn:Fn→gp) (kD:∀ j B,g.C 0=j::B→¬ Mk (g.c j 4)→F' j) (od:g.C 0=[]→gp)
  (e:x.line=1∨x.line=2∨x.line=3):∃ g',gK t g kn F' gp look x (x.step look t s) g':=by
 have hs:=k.snd
 have hh:=hs.1
 have h0t:t.size≤128:=hs.2.2.2.1
 have CC:cd t (-1) (4+0):=.inl ⟨rfl,by omega,by omega⟩
 have jX:aN t (-1) 0=az t (-1) (4+0):=gI hs (by omega) (by omega) _
 have yL:cI look 1:=.inl rfl
 have acd:cI look 99:=by unfold cI; simp
 have k':=k.grow hF hn
 rcases e with e | e | e
 ·obtain ⟨e1,e2⟩:=fZ L CC
  rw [← hv] at e1 e2
  have au:x.step look t s=x.l1 t s:=by unfold ai.step; simp [e]
  rw [au]
  have Tc:(s.load (az t (-1) (4+0))).new=g.c (-1) 4:=by simpa using e1
  rcases KL hs h with ⟨q1,q2⟩ | ⟨j,B,q1,q2,q3,q4,-⟩
  ·have hx:x.l1 t s=({ x with ar:=0,a:=0,i:=0 % 65536 - 1,line:=99,err:=15 },s.load (az t (-1) (4+0))):=by
    unfold ai.l1
    simp only [jX,Tc,q1]
    rw [if_pos (.inl (by omega))]
   rw [hx]
   refine ⟨g,gK.read h e2.symm ⟨hs,acd,by simp,by simp,by simp,by simp,by simp,by simp,by simp,by simp [bY],by simp,by simp,by simp,by simp,by simp,fun _=>.inr ⟨rfl,od q2⟩,by first | (simp; done) | exact fun _=>h9 | simp [ao.new,ao.anew]⟩ (by simp [bY])⟩
  ·have b:=h.bo _ _ q4
   obtain ⟨m1,m2⟩:=acb b.1 q3
   have hx:x.l1 t s=({ x with ar:=0,a:=g.rf j,i:=j,line:=2 },s.load (az t (-1) (4+0))):=by
    unfold ai.l1
    simp only [jX,Tc,q2,m1]
    rw [if_neg (by omega)]
   rw [hx]
   refine ⟨g,gK.read h e2.symm ⟨hs,by unfold cI; simp,fun _=>k.err (by omega),fun _ _=>⟨rfl,hk 0 j (by omega) (by omega) (by rw [q1]; simp),q4⟩,fun _=>?_,by simp,by simp,by simp,by simp,by simp [bY],by simp,by simp,by simp,by simp,by simp,by simp,by first | (simp; done) | exact fun _=>h9 | simp [ao.new,ao.anew]⟩ (by simp [bY])⟩
   rcases Classical.em (Mk (g.c j 4)) with m | m
   ·exact .inl m
   ·exact .inr (kD j B q1 m)
 ·have nd:=k.nd (by omega) (by omega)
  have b:=h.bo _ _ nd.2.2
  have hP:cd t x.i 4:=.inr ⟨b.1,b.2.1,by omega,by omega⟩
  obtain ⟨e1,e2⟩:=fZ L hP
  rw [← hv] at e1 e2
  have au:x.step look t s=({ x with ar:=x.a,w:=g.c x.i 4,line:=if Mk (g.c x.i 4) then 3 else if look then 9 else 4 },s.load (az t x.i 4)):=by
   have:x.step look t s=x.l2 look t s:=by unfold ai.step; simp [e]
   rw [this]
   unfold ai.l2
   simp only [e1]
  rw [au]
  by_cases c:Mk (g.c x.i 4)
  ·simp only [if_pos c]
   exact ⟨g,gK.read h e2.symm ⟨hs,by unfold cI; simp,fun _=>k.err (by omega),fun _ _=>nd,by simp,fun _=>⟨rfl,c⟩,by simp,by simp,by simp,by simp [bY],by simp,by simp,by simp,by simp,by simp,by simp,by first | (simp; done) | exact fun _=>h9 | simp [ao.new,ao.anew]⟩ (by simp [bY])⟩
  ·simp only [if_neg c]
   have f':=(k'.fst (.inl e)).resolve_left c
   cases look with
   | true =>
    simp only [if_true]
    refine ⟨g,h,.nil g,e2.symm,⟨hs,by unfold cI; simp,fun _=>k.err (by omega),fun _ _=>nd,by simp,by simp,by simp,by simp,by simp,fun _=>⟨f',by simp⟩,by simp,by simp,by simp,by simp,by simp,by simp,by first | (simp; done) | exact fun _=>h9 | simp [ao.new,ao.anew]⟩,by simp,fun j h=>.inl h,rfl,.inl ⟨rfl,by omega,fun q=>by omega⟩,by first | exact fun _ _ _=>rfl | exact fun i p hp=>g.c.dg _ (by omega) | exact a.lo⟩
   | false =>
    simp only [Bool.false_eq_true,if_false]
    exact ⟨g,gK.read h e2.symm ⟨hs,by unfold cI; simp,fun _=>k.err (by omega),fun _ _=>nd,fun _=>.inr f',by simp,by simp,by simp,by simp,by simp [bY],by simp,by simp,by simp,by simp,by simp,by simp,by first | (simp; done) | exact fun _=>h9 | simp [ao.new,ao.anew]⟩ (by simp [bY])⟩
 ·have nd:=k.nd (by omega) (by omega)
  have b:=h.bo _ _ nd.2.2
  obtain ⟨w1,w2⟩:=k.w3 e
  have au:x.step look t s=({ x with ar:=0,line:=1 },s.bM (az t (-1) (4+0)) x.a (x.w - aM)):=by
   unfold ai.step
   simp only [e]
   unfold ai.l3
   rw [jX]
   rfl
  rw [au]
  have loc:∀ g':Sh,fo t g' kn F' gp look { x with ar:=0,line:=1 }:=fun g' =>
   ⟨hs,yL,fun _=>k.err (by omega),by simp,by simp,by simp,by simp,by simp,by simp,by simp [bY],by simp,by simp,by simp,by simp,by simp,by simp,by first | (simp; done) | exact fun _=>h9 | simp [ao.new,ao.anew]⟩
  by_cases c:g.c (-1) (4+0)=x.a
  ·obtain ⟨e1,e2⟩:=pT L CC (x:=x.a) (x.w - aM) (by rw [← hv]; exact c)
   rw [← hv] at e2
   have KN:g.c (-1) 4=x.a:=by simpa using c
   have r:=h.rf x.i b.1 b.2.1
   rcases KL hs h with ⟨q1,q2⟩ | ⟨j,B,q1,q2,q3,q4,q5⟩
   ·rw [KN,nd.1] at q1; omega
   ·have gD:j=x.i:=by rw [← q3,← q2,KN,nd.1]; exact r.1
    subst gD
    have P:=Tb hs h
    have hj:Mk (g.c x.i (4+0)):=by rw [show (4:Int)+0=4 by omega,w1]; exact w2
    have act:jn t g (g.unlink 0 (-1) x.i ([]++B)):=.un P (A:=[]) q1 q5 hj
    have hw:x.w - aM=um (g.c x.i (4+0)):=by rw [show (4:Int)+0=4 by omega,w1,Ky (w1▸h.u _ _) w2]
    refine ⟨_,act.inv h,zY h act,by rw [e2,hw]; rfl,loc _,by simp [bY],fun j' hm=>.inl ?_,rfl,.inr (.inl ⟨e,KN,by simp [Sh.unlink,gJ,q1]⟩),act.lo⟩
    by_cases e:j' = -1
    ·subst e
     exfalso
     have:(g.unlink 0 (-1) x.i ([]++B)).c (-1) (4+0)=um (g.c x.i (4+0)):=by
      show g.c.set (-1) (4+0) (um (g.c x.i (4+0))) (-1) (4+0)=_
      exact Vw.oL _ _ _ _
     rw [show (4:Int)+0=4 by omega] at this
     rw [this] at hm
     have:=(Cv (g.c x.i 4)).2
     unfold Mk at hm; omega
    ·have:(g.unlink 0 (-1) x.i ([]++B)).c j' 4=g.c j' 4:=g.c.jO _ e
     rwa [this] at hm
  ·obtain ⟨e1,e2⟩:=pU L CC (x:=x.a) (x.w - aM) (by rw [← hv]; exact c)
   rw [← hv] at e2
   exact ⟨g,gK.read h e2.symm (loc g) (by simp [bY]) fun _=>by simpa using c⟩
end
section
variable {t:TW} {own kn F F':Int→Prop} {Fn gp:Prop} {g g' g1:Sh} {l p i j v key known w:Int} {A B:List Int} {f:ao} {s:MS} {sp:dy} {x:ai} {look:Bool}
theorem fo.my (k:fo t g kn F Fn look x) (e:x.line=4∨x.line=5∨x.line=6∨x.line=7∨x.line=8∨x.line=10∨x.line=11∨x.line=12):look=false:=by
 rcases k.line with q | q | q | q | q | q | ⟨q,_⟩<;>first | omega | exact q
theorem fo.below {y:ai} (hs:t.sound) (nd:y.a=g.rf y.i∧kn y.i∧g.born 0 y.i) (he:y.err=0) (hf:Mk (g.c y.i 4)∨F y.i) (hl:y.level≤g.c y.i 2) (hm:∀ l,y.level≤l→l<g.c y.i 2→Mk (g.c y.i (4+l))):fo t g kn F Fn false y.below:=by
 unfold ai.below
 by_cases c:y.level - 1<1
 ·rw [if_pos c]
  exact ⟨hs,by unfold cI; simp,fun _=>he,fun _ _=>nd,fun _=>hf,by simp,by simp,fun _ l h0 h1=>hm l (by simp only at *; omega) h1,by simp,by simp [bY],by simp,by simp,by simp,by simp,by simp,by simp,by first | (simp; done) | exact fun _=>h9 | simp [ao.new,ao.anew]⟩
 ·rw [if_neg c]
  exact ⟨hs,by unfold cI; simp,fun _=>he,fun _ _=>nd,fun _=>hf,by simp,fun _=>⟨by simp only; omega,by simp only; omega,fun l h0 h1=>hm l (by simp only at h0; omega) h1⟩,by simp,by simp,by simp [bY],by simp,by simp,by simp,by simp,by simp,by simp,by first | (simp; done) | exact fun _=>h9 | simp [ao.new,ao.anew]⟩
theorem KO (y:ai):y.below.i=y.i∧¬ bY y.below:=by
 unfold ai.below bY
 by_cases c:y.level - 1<1
 ·simp [c]
 ·simp [c]
theorem Td (hm:Mk ((g.mark l i).c j 4)):Mk (g.c j 4)∨(j=i∧l=0):=by
 change Mk (g.c.set i (4+l) _ j 4) at hm
 unfold Vw.set at hm
 split at hm
 ·rename_i e; exact .inr ⟨e.1,by omega⟩
 ·exact .inl hm
theorem KP (L:fy t s.W.length) (h:aP t g) (hv:g.c=vw t s) (k:fo t g kn F Fn look x) (hF:∀ j,F j→F' j) (hn:Fn→gp) (e:x.line=4∨x.line=5∨x.line=6):∃ g',gK t g kn F' gp look x (x.step look t s) g':=by
 have hs:=k.snd
 have lk:=k.my (by omega)
 subst lk
 have k':=k.grow hF hn
 have nd:=k.nd (by omega) (by omega)
 have b:=h.bo _ _ nd.2.2
 have hi:=h.hi _ b.2.2.2.2.1
 have fst:=k'.fst (by omega)
 have he:=k.err (by omega)
 rcases e with e | e | e
 ·have hP:cd t x.i 2:=.inr ⟨b.1,b.2.1,by omega,by omega⟩
  obtain ⟨e1,e2⟩:=fZ L hP
  rw [← hv] at e1 e2
  have au:x.step false t s=(({ x with ar:=x.a,level:=if g.c x.i 2<t.ay then g.c x.i 2 else t.ay }:ai).below,s.load (az t x.i 2)):=by
   have:x.step false t s=x.l4 t s:=by unfold ai.step; simp [e]
   rw [this]
   unfold ai.l4
   simp only [e1]
  have hl:(if g.c x.i 2<t.ay then g.c x.i 2 else t.ay)=g.c x.i 2:=by split<;>omega
  rw [au,hl]
  obtain ⟨q1,q2⟩:=KO { x with ar:=x.a,level:=g.c x.i 2 }
  exact ⟨g,gK.read h e2.symm (fo.below (y:={ x with ar:=x.a,level:=g.c x.i 2 }) hs nd he fst (Int.le_refl _) fun l h0 h1=>by simp only at h0 h1; omega) fun m=>absurd m q2⟩
 ·obtain ⟨v1,v2,v3⟩:=k.lv (.inl e)
  have hP:cd t x.i (4+x.level):=jk (by omega) (by omega) (.inr ⟨b.1,b.2.1⟩)
  obtain ⟨e1,e2⟩:=fZ L hP
  rw [← hv] at e1 e2
  have au:x.step false t s=(if Mk (g.c x.i (4+x.level)) then ({ x with ar:=x.a,w:=g.c x.i (4+x.level),line:=6 }:ai).below else { x with ar:=x.a,w:=g.c x.i (4+x.level),line:=6 },s.load (az t x.i (4+x.level))):=by
   have:x.step false t s=x.l5 t s:=by unfold ai.step; simp [e]
   rw [this]
   unfold ai.l5
   simp only [e1]
  rw [au]
  by_cases c:Mk (g.c x.i (4+x.level))
  ·rw [if_pos c]
   obtain ⟨q1,q2⟩:=KO { x with ar:=x.a,w:=g.c x.i (4+x.level),line:=6 }
   refine ⟨g,gK.read h e2.symm (fo.below (y:={ x with ar:=x.a,w:=g.c x.i (4+x.level),line:=6 }) hs nd he fst (by simp only; omega) fun l h0 h1=>?_) fun m=>absurd m q2⟩
   by_cases e':l=x.level
   ·subst e'; exact c
   ·exact v3 l (by simp only at h0; omega) h1
  ·rw [if_neg c]
   exact ⟨g,gK.read h e2.symm ⟨hs,by unfold cI; simp,fun _=>he,fun _ _=>nd,fun _=>fst,by simp,fun _=>⟨v1,v2,v3⟩,by simp,fun _=>c,by simp [bY],by simp,by simp,by simp,by simp,by simp,by simp,by first | (simp; done) | exact fun _=>h9 | simp [ao.new,ao.anew]⟩ (by simp [bY])⟩
 ·obtain ⟨v1,v2,v3⟩:=k.lv (.inr e)
  have wu:=k.w6 (.inl e)
  have hP:cd t x.i (4+x.level):=jk (by omega) (by omega) (.inr ⟨b.1,b.2.1⟩)
  have fT:aN t x.i x.level=az t x.i (4+x.level):=gI hs (by omega) (by omega) _
  have h6:x.step false t s=x.l6 t s:=by unfold ai.step; simp [e]
  by_cases c:g.c x.i (4+x.level)=x.w
  ·obtain ⟨e1,e2⟩:=pT L hP (x:=x.w) (x.w+aM) (by rw [← hv]; exact c)
   rw [← hv] at e2
   have au:x.step false t s=(({ x with ar:=x.a,line:=5 }:ai).below,s.bM (az t x.i (4+x.level)) x.w (x.w+aM)):=by
    rw [h6]
    unfold ai.l6
    simp only [fT,e1,if_true]
   have K:Fq g x.level x.i:=⟨by omega,v2,nd.2.2,by rw [c]; exact wu,v3⟩
   have h':=h.mark K
   have r:cC t (fun _=>False) kn g (g.mark x.level x.i):=cC.marks h K
   have kk:=k'.dF h r
   have kz:∀ q,q≤3→(g.mark x.level x.i).c x.i q=g.c x.i q:=fun q hq=>g.c.dg _ (by omega)
   rw [au]
   obtain ⟨q1,q2⟩:=KO { x with ar:=x.a,line:=5 }
   refine ⟨_,h',Gd.one h fun own' zZ _ _=>cC.marks h K,by rw [e2]; show g.c.set x.i (4+x.level) _=_; rw [c],fo.below (y:={ x with ar:=x.a,line:=5 }) hs (kk.nd (by omega) (by omega)) he (kk.fst (by omega)) (by rw [kz 2 (by omega)]; simp only; omega) fun l h0 h1=>?_,fun m=>absurd m q2,fun j hm=>?_,rfl,.inl ⟨rfl,by omega,fun q=>by omega⟩,by first | exact fun _ _ _=>rfl | exact fun i p hp=>g.c.dg _ (by omega) | exact a.lo⟩
   ·rw [kz 2 (by omega)] at h1
    simp only at h0 h1 ⊢
    by_cases e':l=x.level
    ·subst e'
     have:(g.mark x.level x.i).c x.i (4+x.level)=g.c x.i (4+x.level)+aM:=Vw.oL _ _ _ _
     rw [this]
     have:=(h.u x.i (4+x.level)).1
     unfold Mk; omega
    ·exact (kk.lv (.inr e)).2.2 l (by omega) (by rw [kz 2 (by omega)]; exact h1)
   ·rcases Td hm with m | ⟨_,m⟩
    ·exact .inl m
    ·omega
  ·obtain ⟨e1,e2⟩:=pU L hP (x:=x.w) (x.w+aM) (by rw [← hv]; exact c)
   rw [← hv] at e2
   have au:x.step false t s=({ x with ar:=x.a,line:=5 },s.bM (az t x.i (4+x.level)) x.w (x.w+aM)):=by
    rw [h6]
    unfold ai.l6
    simp only [fT,e1,Bool.false_eq_true,if_false]
   rw [au]
   exact ⟨g,gK.read h e2.symm ⟨hs,by unfold cI; simp,fun _=>he,fun _ _=>nd,fun _=>fst,by simp,fun _=>⟨v1,v2,v3⟩,by simp,by simp,by simp [bY],by simp,by simp,by simp,by simp,by simp,by simp,by first | (simp; done) | exact fun _=>h9 | simp [ao.new,ao.anew]⟩ (by simp [bY])⟩
theorem Te (L:fy t s.W.length) (h:aP t g) (hv:g.c=vw t s) (k:fo t g kn F Fn look x) (hF:∀ j,F j→F' j) (hn:Fn→gp) (e:x.line=7∨x.line=8):∃ g',gK t g kn F' gp look x (x.step look t s) g':=by
 have hs:=k.snd
 have lk:=k.my (by omega)
 subst lk
 have k':=k.grow hF hn
 have nd:=k.nd (by omega) (by omega)
 have b:=h.bo _ _ nd.2.2
 have hi:=h.hi _ b.2.2.2.2.1
 have fst:=k'.fst (by omega)
 have he:=k.err (by omega)
 have vL:=k.vL e
 rcases e with e | e
 ·have hP:cd t x.i 4:=.inr ⟨b.1,b.2.1,by omega,by omega⟩
  obtain ⟨e1,e2⟩:=fZ L hP
  rw [← hv] at e1 e2
  have au:x.step false t s=({ x with ar:=x.a,w:=g.c x.i 4,line:=if Mk (g.c x.i 4) then 3 else 8 },s.load (az t x.i 4)):=by
   have:x.step false t s=x.l7 t s:=by unfold ai.step; simp [e]
   rw [this]
   unfold ai.l7
   simp only [e1]
  rw [au]
  by_cases c:Mk (g.c x.i 4)
  ·simp only [if_pos c]
   exact ⟨g,gK.read h e2.symm ⟨hs,by unfold cI; simp,fun _=>he,fun _ _=>nd,by simp,fun _=>⟨rfl,c⟩,by simp,by simp,by simp,by simp [bY],by simp,by simp,by simp,by simp,by simp,by simp,by first | (simp; done) | exact fun _=>h9 | simp [ao.new,ao.anew]⟩ (by simp [bY])⟩
  ·simp only [if_neg c]
   exact ⟨g,gK.read h e2.symm ⟨hs,by unfold cI; simp,fun _=>he,fun _ _=>nd,fun _=>fst,by simp,by simp,fun _=>vL,fun _=>c,by simp [bY],by simp,by simp,by simp,by simp,by simp,by simp,by first | (simp; done) | exact fun _=>h9 | simp [ao.new,ao.anew]⟩ (by simp [bY])⟩
 ·have wu:=k.w6 (.inr e)
  have hP:cd t x.i (4+0):=jk (by omega) (by omega) (.inr ⟨b.1,b.2.1⟩)
  have fT:aN t x.i 0=az t x.i (4+0):=gI hs (by omega) (by omega) _
  have h8:x.step false t s=x.l8 t s:=by unfold ai.step; simp [e]
  by_cases c:g.c x.i (4+0)=x.w
  ·obtain ⟨e1,e2⟩:=pT L hP (x:=x.w) (x.w+aM) (by rw [← hv]; exact c)
   rw [← hv] at e2
   have au:x.step false t s=({ x with ar:=x.a,cj:=true,line:=9 },s.bM (az t x.i (4+0)) x.w (x.w+aM)):=by
    rw [h8]
    unfold ai.l8
    simp only [fT,e1,if_true]
   have un:¬ Mk (g.c x.i (4+0)):=by rw [c]; exact wu
   have K:Fq g 0 x.i:=⟨by omega,by omega,nd.2.2,un,fun l h0 h1=>vL l (by omega) h1⟩
   have h':=h.mark K
   have r:cC t (fun _=>False) kn g (g.mark 0 x.i):=cC.marks h K
   have kk:=k'.dF h r
   have kz:∀ q,q≤3→(g.mark 0 x.i).c x.i q=g.c x.i q:=fun q hq=>g.c.dg _ (by omega)
   have Fy:¬ Mk (g.c x.i 4):=by simpa using un
   have fF:=fst.resolve_left Fy
   rw [au]
   refine ⟨_,h',Gd.one h fun own' zZ _ _=>cC.marks h K,by rw [e2]; show g.c.set x.i (4+0) _=_; rw [c],⟨hs,by unfold cI; simp,fun _=>he,fun _ _=>kk.nd (by omega) (by omega),by simp,by simp,by simp,by simp,by simp,fun _=>⟨fF,fun _ l h0 h1=>?_⟩,by simp,by simp,by simp,by simp,by simp,by simp,by first | (simp; done) | exact fun _=>h9 | simp [ao.new,ao.anew]⟩,fun _ _=>.inr ⟨rfl,Fy⟩,fun j hm=>?_,rfl,.inl ⟨rfl,by omega,fun q=>by omega⟩,by first | exact fun _ _ _=>rfl | exact fun i p hp=>g.c.dg _ (by omega) | exact a.lo⟩
   ·by_cases e':l=0
    ·subst e'
     have:(g.mark 0 x.i).c x.i (4+0)=g.c x.i (4+0)+aM:=Vw.oL _ _ _ _
     simp only
     rw [this]
     have:=(h.u x.i (4+0)).1
     unfold Mk; omega
    ·exact kk.vL (.inr e) l (by omega) h1
   ·rcases Td hm with m | ⟨m,_⟩
    ·exact .inl m
    ·exact .inr ⟨m,by simp [bY]⟩
  ·obtain ⟨e1,e2⟩:=pU L hP (x:=x.w) (x.w+aM) (by rw [← hv]; exact c)
   rw [← hv] at e2
   have au:x.step false t s=({ x with ar:=x.a,line:=7 },s.bM (az t x.i (4+0)) x.w (x.w+aM)):=by
    rw [h8]
    unfold ai.l8
    simp only [fT,e1,Bool.false_eq_true,if_false]
   rw [au]
   exact ⟨g,gK.read h e2.symm ⟨hs,by unfold cI; simp,fun _=>he,fun _ _=>nd,fun _=>fst,by simp,by simp,fun _=>vL,by simp,by simp [bY],by simp,by simp,by simp,by simp,by simp,by simp,by first | (simp; done) | exact fun _=>h9 | simp [ao.new,ao.anew]⟩ (by simp [bY])⟩
theorem KQ (L:fy t s.W.length) (h:aP t g) (hv:g.c=vw t s) (hk:pV t g kn) (k:fo t g kn F Fn look x) (hF:∀ j,F j→F' j) (hn:Fn→gp) (e:x.line=9∨x.line=91∨x.line=10):∃ g',gK t g kn F' gp look x (x.step look t s) g':=by
 have hs:=k.snd
 have k':=k.grow hF hn
 have nd:=k.nd (by omega) (by omega)
 have b:=h.bo _ _ nd.2.2
 have hi:=h.hi _ b.2.2.2.2.1
 have he:=k.err (by omega)
 have hm:bY x:=by unfold bY; omega
 have own:=k'.own hm
 rcases e with e | e | e
 ·have hP:cd t x.i 0:=.inr ⟨b.1,b.2.1,by omega,by omega⟩
  obtain ⟨e1,e2⟩:=fZ L hP
  rw [← hv] at e1 e2
  have au:x.step look t s=({ x with ar:=x.a,key:=g.c x.i 0,line:=91 },s.load (az t x.i 0)):=by
   have:x.step look t s=x.l9 t s:=by unfold ai.step; simp [e]
   rw [this]
   unfold ai.l9
   simp only [e1]
  rw [au]
  exact ⟨g,gK.read h e2.symm ⟨hs,by unfold cI; simp,fun _=>he,fun _ _=>nd,by simp,by simp,by simp,by simp,by simp,fun _=>own,fun _=>rfl,by simp,by simp,by simp,by simp,by simp,by first | (simp; done) | exact fun _=>h9 | simp [ao.new,ao.anew]⟩ fun _=>⟨hm,rfl⟩⟩
 ·have hP:cd t x.i 1:=.inr ⟨b.1,b.2.1,by omega,by omega⟩
  obtain ⟨e1,e2⟩:=fZ L hP
  rw [← hv] at e1 e2
  have au:x.step look t s=(if look then { x with ar:=x.a,job:=g.c x.i 1 % 65536,line:=99 } else { x with ar:=x.a,job:=g.c x.i 1 % 65536,line:=10,find:=ao.new t x.key },s.load (az t x.i 1)):=by
   have:x.step look t s=x.l91 look t s:=by unfold ai.step; simp [e]
   rw [this]
   unfold ai.l91
   simp only [e1]
  have key:=k.key (by omega)
  rw [au]
  cases look with
  | true =>
   simp only [if_true]
   exact ⟨g,gK.read h e2.symm ⟨hs,by unfold cI; simp,fun _=>he,fun _ _=>nd,by simp,by simp,by simp,by simp,by simp,fun _=>own,fun _=>key,fun _=>rfl,by simp,by simp,by simp,fun _=>.inl he,by first | (simp; done) | exact fun _=>h9 | simp [ao.new,ao.anew]⟩ fun _=>⟨hm,rfl⟩⟩
  | false =>
   simp only [Bool.false_eq_true,if_false]
   have F0:ga t g kn (ao.new t x.key):=zW hs (by simp [ao.zero])
   exact ⟨g,gK.read h e2.symm ⟨hs,by unfold cI; simp,fun _=>he,fun _ _=>nd,by simp,by simp,by simp,by simp,by simp,fun _=>own,fun _=>key,fun _=>rfl,fun _=>⟨F0,rfl,.inr (Fs key.symm nd.2.2 (own.2 rfl))⟩,by simp,by simp,by simp,by first | (simp; done) | exact fun _=>h9 | simp [ao.new,ao.anew]⟩ fun _=>⟨hm,rfl⟩⟩
 ·have lk:=k.my (by omega)
  subst lk
  obtain ⟨f1,f2,f3⟩:=k'.find e
  have key:=k.key (by omega)
  have u0:=(h.u x.i 0).1
  obtain ⟨a,e2,Fi,cl,vJ⟩:=Ft L h hv hk f1 (by rw [f2,key]; exact u0)
  obtain ⟨g',dU⟩:∃ g',g' =g.fs t x.find:=⟨_,rfl⟩
  rw [← dU] at a e2 Fi cl
  have h':=a.inv h
  have r:cC t (fun _=>False) kn g g':=a.dF (fun _ h=>h.elim) h
  have kk:=k'.dF h r
  have au:x.step false t s=x.l10 t s:=by unfold ai.step; simp [e]
  have Ta:∀ j,Mk (g'.c j 4)→Mk (g.c j 4):=fun j hj=>by
   cases a with
   | none=>exact hj
   | @un l p j' A B hp hC hP sR =>
    have:=KD g.c (i:=p) (p:=4+l) (v:=um (g.c j' (4+l))) ⟨fun q=>absurd q (by have:=(Cv (g.c j' (4+l))).2; unfold Mk; omega),fun q=>absurd q hp.um⟩ j 4
    exact this.1 hj
  rw [au]
  have cl':g'.bz x.i∨lI t g' x.i (x.find.step t s).1:=by
   rw [a.bz]
   exact f3.imp id (cl x.i nd.2.1)
  refine ⟨g',h',zY h a,e2,?_,fun _ _=>.inl ⟨hm,rfl⟩,fun j hj=>.inl (Ta j hj),a.born,.inr (.inr ⟨e,dU⟩),a.lo⟩
  unfold ai.l10
  by_cases h9:(x.find.step t s).1.line=9
  ·simp only [h9,if_true]
   exact ⟨hs,by unfold cI; simp,fun _=>he,fun _ _=>kk.nd (by omega) (by omega),by simp,by simp,by simp,by simp,by simp,fun _=>kk.own hm,fun _=>kk.key (by omega),fun _=>kk.job (by omega),by simp,fun _=>cl'.imp id fun q l h0 h1=>q.up l (.inl h9) h0 h1,by simp,by simp,by first | (simp; done) | exact fun _=>h9 | simp [ao.new,ao.anew]⟩
  ·simp only [h9,if_false]
   exact ⟨hs,by unfold cI; simp,fun _=>he,fun _ _=>kk.nd (by omega) (by omega),by simp,by simp,by simp,by simp,by simp,fun _=>kk.own hm,fun _=>kk.key (by omega),fun _=>kk.job (by omega),fun _=>⟨Fi,vJ.trans f2,cl'⟩,by simp,by simp,by simp,by first | (simp; done) | exact fun _=>h9 | simp [ao.new,ao.anew]⟩
theorem KR (L:fy t s.W.length) (h:aP t g) (hv:g.c=vw t s) (hk:pV t g kn) (k:fo t g kn F Fn look x) (hF:∀ j,F j→F' j) (hn:Fn→gp) (kD:∀ j B,g.C 0=j::B→¬ Mk (g.c j 4)→F' j) (od:g.C 0=[]→gp)
  (e1:x.line≠99) (e2:x.line≠11) (e3:x.line≠12):∃ g',gK t g kn F' gp look x (x.step look t s) g':=by
 rcases k.line with q | q | q | q | q | q | ⟨_,q | q | q | q | q | q | q | q⟩
 ·exact KM L h hv hk k hF hn kD od (by omega)
 ·exact KM L h hv hk k hF hn kD od (by omega)
 ·exact KM L h hv hk k hF hn kD od (by omega)
 ·exact KQ L h hv hk k hF hn (by omega)
 ·exact KQ L h hv hk k hF hn (by omega)
 ·exact absurd q e1
 ·exact KP L h hv k hF hn (by omega)
 ·exact KP L h hv k hF hn (by omega)
 ·exact KP L h hv k hF hn (by omega)
 ·exact Te L h hv k hF hn (by omega)
 ·exact Te L h hv k hF hn (by omega)
 ·exact KQ L h hv hk k hF hn (by omega)
 ·exact absurd q e2
 ·exact absurd q e3
end
theorem ai.ind {P:ai×MS→Prop} (x:ai) (look:Bool) (t:TW) (s:MS) (h1:x.line=1→P (x.l1 t s)) (h2:x.line=2→P (x.l2 look t s)) (h3:x.line=3→P (x.l3 t s)) (h4:x.line=4→P (x.l4 t s)) (h5:x.line=5→P (x.l5 t s)) (h6:x.line=6→P (x.l6 t s)) (h7:x.line=7→P (x.l7 t s)) (h8:x.line=8→P (x.l8 t s)) (h9:x.line=9→P (x.l9 t s)) (h91:x.line=91→P (x.l91 look t s)) (h10:x.line=10→P (x.l10 t s)) (h11:x.line=11→P (x.l11 t s)) (h12:x.line=12→P (x.l12 t s)) (h0:P (x,s)):P (x.step look t s):=by
 unfold ai.step
 by_cases e1:x.line=1
 ·rw [if_pos e1]; exact h1 e1
 rw [if_neg e1]
 by_cases e2:x.line=2
 ·rw [if_pos e2]; exact h2 e2
 rw [if_neg e2]
 by_cases e3:x.line=3
 ·rw [if_pos e3]; exact h3 e3
 rw [if_neg e3]
 by_cases e4:x.line=4
 ·rw [if_pos e4]; exact h4 e4
 rw [if_neg e4]
 by_cases e5:x.line=5
 ·rw [if_pos e5]; exact h5 e5
 rw [if_neg e5]
 by_cases e6:x.line=6
 ·rw [if_pos e6]; exact h6 e6
 rw [if_neg e6]
 by_cases e7:x.line=7
 ·rw [if_pos e7]; exact h7 e7
 rw [if_neg e7]
 by_cases e8:x.line=8
 ·rw [if_pos e8]; exact h8 e8
 rw [if_neg e8]
 by_cases e9:x.line=9
 ·rw [if_pos e9]; exact h9 e9
 rw [if_neg e9]
 by_cases e91:x.line=91
 ·rw [if_pos e91]; exact h91 e91
 rw [if_neg e91]
 by_cases e10:x.line=10
 ·rw [if_pos e10]; exact h10 e10
 rw [if_neg e10]
 by_cases e11:x.line=11
 ·rw [if_pos e11]; exact h11 e11
 rw [if_neg e11]
 by_cases e12:x.line=12
 ·rw [if_pos e12]; exact h12 e12
 rw [if_neg e12]
 exact h0
theorem aj.ind {P:aj×MS→Prop} (x:aj) (t:TW) (s:MS) (h1:x.line=1→P (x.l1 t s)) (h2:x.line=2→P (x.l2 t s)) (h3:x.line=3→P (x.l3 t s)) (h4:x.line=4→P (x.l4 t s)) (h5:x.line=5→P (x.l5 t s)) (h6:x.line=6→P (x.l6 t s)) (h7:x.line=7→P (x.dp t s 7 8)) (h8:x.line=8→P (x.l89 t s 4)) (h9:x.line=9→P (x.l89 t s 11)) (h10:x.line=10→P (x.dp t s 10 11)) (h11:x.line=11→P (x.l11 t s)) (h12:x.line=12→P (x.l12 t s)) (h0:P (x,s)):P (x.step t s):=by
 unfold aj.step
 by_cases e1:x.line=1
 ·rw [if_pos e1]; exact h1 e1
 rw [if_neg e1]
 by_cases e2:x.line=2
 ·rw [if_pos e2]; exact h2 e2
 rw [if_neg e2]
 by_cases e3:x.line=3
 ·rw [if_pos e3]; exact h3 e3
 rw [if_neg e3]
 by_cases e4:x.line=4
 ·rw [if_pos e4]; exact h4 e4
 rw [if_neg e4]
 by_cases e5:x.line=5
 ·rw [if_pos e5]; exact h5 e5
 rw [if_neg e5]
 by_cases e6:x.line=6
 ·rw [if_pos e6]; exact h6 e6
 rw [if_neg e6]
 by_cases e7:x.line=7
 ·rw [if_pos e7]; exact h7 e7
 rw [if_neg e7]
 by_cases e8:x.line=8
 ·rw [if_pos e8]; exact h8 e8
 rw [if_neg e8]
 by_cases e9:x.line=9
 ·rw [if_pos e9]; exact h9 e9
 rw [if_neg e9]
 by_cases e10:x.line=10
 ·rw [if_pos e10]; exact h10 e10
 rw [if_neg e10]
 by_cases e11:x.line=11
 ·rw [if_pos e11]; exact h11 e11
 rw [if_neg e11]
 by_cases e12:x.line=12
 ·rw [if_pos e12]; exact h12 e12
 rw [if_neg e12]
 exact h0
section
variable {t:TW} {s s':MS} {N:Nat} {x:ai} {y:aj} {look:Bool} {own kn:Int→Prop} {g g' g1:Sh} {i:Int}
theorem Lw.cl (h:Pl t N) (hl:x.line≠12):Lw t s (x.step look t s).2:=by
 have n:=fun i l=>Lw.acc (s:=s) (u:=si) (k:=1) h.h0 (xJ h i l)
 have b:=fun i p=>Lw.acc (s:=s) (u:=si) (k:=1) h.h0 (Cz h i p)
 have a:=fun i p v=>Lw.acc (s:=s) (u:=xA v) (k:=4) h.h0 (Cz h i p)
 have c:=fun i l x v=>Lw.acc (s:=s) (u:=pK x v) (k:=3) h.h0 (xJ h i l)
 exact x.ind (P:=fun y=>Lw t s y.2) look t s (fun _=>n _ _) (fun _=>b _ _) (fun _=>c _ _ _ _) (fun _=>b _ _) (fun _=>b _ _) (fun _=>c _ _ _ _) (fun _=>b _ _) (fun _=>c _ _ _ _) (fun _=>b _ _) (fun _=>b _ _) (fun _=>Lw.find h) (fun _=>a _ _ _) (fun e=>absurd e hl) (Lw.refl _ _)
theorem aj.ace (y:aj) (t:TW) (s:MS):(y.step t s).1.ref=y.ref∧(y.step t s).1.key=y.key∧(y.step t s).1.i=y.i∧(y.step t s).1.hi=y.hi:=by
 refine y.ind (P:=fun z=>z.1.ref=y.ref∧z.1.key=y.key∧z.1.i=y.i∧z.1.hi=y.hi) t s ?_ ?_ ?_ ?_ ?_ ?_ ?_ ?_ ?_ ?_ ?_ ?_ ⟨rfl,rfl,rfl,rfl⟩
 all_goals
  intro _
  first | exact ⟨rfl,rfl,rfl,rfl⟩ | (simp only [aj.l2,aj.l3,aj.l6,aj.l89,aj.l11]; split<;>exact ⟨rfl,rfl,rfl,rfl⟩)
theorem aj.z8 (y:aj) (t:TW) (s:MS) (h1:1≤y.line) (h2:y.line≤10):1≤(y.step t s).1.line∧(y.step t s).1.line≤11:=by
 refine y.ind (P:=fun z=>1≤z.1.line∧z.1.line≤11) t s ?_ ?_ ?_ ?_ ?_ ?_ ?_ ?_ ?_ ?_ ?_ ?_ (by simp only; omega)
 all_goals
  intro _
  first | omega | (simp only [aj.l1,aj.l2,aj.l3,aj.l4,aj.l5,aj.l6,aj.l89,aj.dp,aj.up,aj.anew]; refine ⟨?_,?_⟩<;>(repeat' split)<;>first | decide | (simp only; omega) | simp)
theorem Gd.src (a:Gd t i g g') (h:aP t g'):aP t g:=by
 cases a with
 | nil=>exact h
 | step h1 _ _=>exact h1
theorem Gd.run (a:Gd t i g g') (h:aP t g') (own kn:Int→Prop) (ho:∀ j,own j→0≤j) (hi:¬ own i) {P:Sh→Prop} (hP:∀ g g1,aP t g→aP t g1→cC t own kn g g1→P g→P g1) (p:P g):P g':=by
 induction a with
 | nil=>exact p
 | step h1 r a ih=>exact ih h (hP _ _ h1 (a.src h) (r own kn ho hi) p)
end
def aI {α:Type} (f:Nat→α) (c:Nat) (v:α):Nat→α:=fun x=>if x=c then v else f x
theorem dG {α:Type} (f:Nat→α) (c:Nat) (v:α):aI f c v c=v:=if_pos rfl
theorem cN {α:Type} (f:Nat→α) {c d:Nat} (v:α) (h:d≠c):aI f c v d=f d:=if_neg h
structure Cm where
 s:MS
 ins:aj
 cl:Nat→ai
 na:Nat
 F:Nat→List Int
 got:List Int
 o:Nat→Int
def Cm.dH (x:Cm) (i:Int):Prop:=i<x.na∧¬ (0≤x.o 0∧i=x.na - 1∧x.ins.line≠12)
def Cm.add (x:Cm) (i:Int):Prop:=i∈x.got∨∃ c,(c=1∨c=2)∧0≤x.o c∧(x.cl c).line=12∧(x.cl c).i=i
open Classical in
noncomputable def Cm.hold (x:Cm) (i:Int):Int:=(if x.dH i then 0 else 1)+(if x.add i then 0 else 1)
def lk (c:Nat):Bool:=c==3
def ue (t:TW) (i:Int) (r:da):Prop:=∀ R p,r= .push R p→(∃ e,R=t.wait e)∧∃ n w,p= .go n w i
structure bJ (t:TW) (N:Nat) (K H:Int→Int) (x:Cm) (g:Sh):Prop where
 len:x.s.W.length=N
 ok:x.s.ok
 inv:aP t g
 c:g.c=vw t x.s
 nd:∀ i,0≤i→i<t.size→g.ld i∧g.c i 0=K i∧g.c i 1=i∧g.c i 2=H i
 rf:∀ i,0≤i→i<t.size→g.rf i=bN i 1
 na:(x.na:Int)≤t.size
 bo:∀ l i,g.born l i→i<x.na
 bi:∀ i:Int,0≤i→i<x.na→¬ (0≤x.o 0∧i=x.na - 1)→g.born 0 i
 bz:∀ i,0≤i→g.bz i→0≤x.o 0∧i=x.na - 1
 ins:0≤x.o 0→1≤x.na∧x.ins.i=x.na - 1∧fz t g (fun j=>j=x.na - 1) (fun _=>True) x.ins∧x.ins.line≠0∧x.ins.ok t
 cl:∀ c,1≤c→c≤3→0≤x.o c→fo t g (fun _=>True) (fun j=>j∈x.F c) (-1∈x.F c) (lk c) (x.cl c)∧(x.cl c).line≠99∧(x.cl c).ok (lk c) t
 nodup:x.got.Nodup
 got:∀ j∈x.got,g.born 0 j∧Mk (g.c j (4+0))
 min:∀ c,c=1∨c=2→0≤x.o c→bY (x.cl c)→(x.cl c).i∉x.got
 two:0≤x.o 1→0≤x.o 2→bY (x.cl 1)→bY (x.cl 2)→(x.cl 1).i≠(x.cl 2).i
 c12:∀ c,c=1∨c=2→0≤x.o c→(x.cl c).line=12→x.dH (x.cl c).i
 hold:∀ i,0≤i→i<t.size→g.c i 3=x.hold i
 uf:∀ i,x.add i→g.bz i∨Gone t g i
 ri:0≤x.o 0→x.ins.line=12→ue t x.ins.i x.ins.ret
 rc:∀ c,c=1∨c=2→0≤x.o c→(x.cl c).line=12→ue t (x.cl c).i (x.cl c).ret
section
variable {t:TW} {N:Nat} {K H:Int→Int} {x y:Cm} {g g':Sh} {c d:Nat} {i j:Int}
theorem vM (h1:y.dH i↔x.dH i) (h2:y.add i↔x.add i):y.hold i=x.hold i:=by
 have e1:y.dH i=x.dH i:=propext h1
 have e2:y.add i=x.add i:=propext h2
 unfold Cm.hold
 rw [e1,e2]
theorem Aa (h:c=1∨c=2):lk c=false:=by rcases h with rfl | rfl<;>rfl
theorem bJ.sv (I:bJ t N K H x g) (L:Pl t N):fy t x.s.W.length:=by rw [I.len]; exact L.sv
theorem bJ.vN (I:bJ t N K H x g) (hc:c=1∨c=2) (h0:0≤x.o c) (hm:bY (x.cl c)):g.born 0 (x.cl c).i∧Mk (g.c (x.cl c).i (4+0)):=by
 have k:=(I.cl c (by omega) (by omega) h0).1
 have nd:=k.nd (by unfold bY at hm; omega) (by unfold bY at hm; omega)
 have hi:=I.inv.hi _ (I.inv.bo _ _ nd.2.2).2.2.2.2.1
 exact ⟨nd.2.2,(k.own hm).2 (Aa hc) 0 (by omega) (by omega)⟩
theorem bJ.Tf (I:bJ t N K H x g) (h:x.add i):g.born 0 i∧Mk (g.c i (4+0)):=by
 rcases h with h | ⟨c,hc,h0,h12,rfl⟩
 ·exact I.got i h
 ·exact I.vN hc h0 (by unfold bY; omega)
theorem CD (a:Gd t i g g') (h:aP t g') (hb:g.born 0 j) (hm:Mk (g.c j (4+0))):g'.born 0 j∧Mk (g'.c j (4+0)) :=
 a.run h (fun _=>False) (fun _=>True) (fun _ k=>k.elim) id (P:=fun g=>g.born 0 j∧Mk (g.c j (4+0))) (fun g g1 h h1 r p=>⟨r.born _ _ trivial p.1,by rw [r.mark 0 j trivial p.1 (by omega) p.2]; exact p.2⟩) ⟨hb,hm⟩
theorem Tg (a:Gd t i g g') (h:aP t g') (hb:g.born 0 j) (hm:Mk (g.c j (4+0))) (hg:g.bz j∨Gone t g j):g'.bz j∨Gone t g' j :=
 (a.run h (fun _=>False) (fun _=>True) (fun _ k=>k.elim) id (P:=fun g=>(g.born 0 j∧Mk (g.c j (4+0)))∧(g.bz j∨Gone t g j)) (fun g g1 h h1 r p=>⟨⟨r.born _ _ trivial p.1.1,by rw [r.mark 0 j trivial p.1.1 (by omega) p.1.2]; exact p.1.2⟩,KK h r trivial p.1.1 p.1.2 p.2⟩) ⟨⟨hb,hm⟩,hg⟩).2
theorem fo.run {F:Int→Prop} {Fn:Prop} {look:Bool} {z:ai} (a:Gd t i g g') (h:aP t g') (k:fo t g (fun _=>True) F Fn look z):fo t g' (fun _=>True) F Fn look z :=
 a.run h (fun _=>False) (fun _=>True) (fun _ k=>k.elim) id (P:=fun g=>fo t g (fun _=>True) F Fn look z) (fun g g1 h h1 r p=>fo.dF h r p) k
theorem fz.run {own:Int→Prop} {z:aj} (a:Gd t i g g') (h:aP t g') (ho:∀ j,own j→0≤j) (hi:¬ own i) (k:fz t g own (fun _=>True) z):fz t g' own (fun _=>True) z :=
 a.run h own (fun _=>True) ho hi (P:=fun g=>fz t g own (fun _=>True) z) (fun g g1 h h1 r p=>fz.dF h h1 r p) k
theorem Ti (a:Gd t i g g') (h:aP t g') (hl:g.ld j):g'.ld j :=
 a.run h (fun _=>False) (fun _=>True) (fun _ k=>k.elim) id (P:=fun g=>g.ld j) (fun g g1 h h1 r p=>r.ld _ trivial p) hl
theorem Gd.old (h:Gd t i g g'):(∀ l j,0≤j→j≠i→g'.born l j→g.born l j)∧(∀ j,0≤j→j≠i→(g'.bz j↔g.bz j))∧(∀ j,g'.rf j=g.rf j)∧(∀ l j,g.born l j→g'.born l j):=by
 induction h with
 | nil=>exact ⟨fun _ _ _ _ h=>h,fun _ _ _=>Iff.rfl,fun _=>rfl,fun _ _ h=>h⟩
 | step h r _ ih =>
  have R:=r (fun j=>0≤j∧j≠i) (fun _=>True) (fun _ h=>h.1) (fun h=>h.2 rfl)
  exact ⟨fun l j h0 h1 hb=>R.KB l j ⟨h0,h1⟩ (ih.1 l j h0 h1 hb),fun j h0 h1=>(ih.2.1 j h0 h1).trans (R.KC j ⟨h0,h1⟩),fun j=>(ih.2.2.1 j).trans (R.rf j trivial),fun l j hb=>ih.2.2.2 l j (R.born l j trivial hb)⟩
end
def oP (t:TW) (s:MS) (l:Int):Nat→Int→List Int
 | 0,_=>[]
 | k+1,i=>if i<0 then [] else i::oP t s l k (aF t.size (vw t s i (4+l)))
def CF (t:TW) (s:MS) (l:Int):List Int:=oP t s l t.size.toNat (aF t.size (vw t s (-1) (4+l)))
def Ab (t:TW) (s:MS):List Int:=(CF t s 0).filter fun i=>decide (vw t s i 4<aM)
def gL (t:TW) (s:MS):Int:=match Ab t s with | []=>-1 | i::_=>i
def Cm.iD (t:TW) (x:Cm):Cm :=
 { x with s:=(x.ins.step t x.s).2,ins:=(x.ins.step t x.s).1,F:=aI x.F 0 (x.F 0++[gL t x.s]),o:=if (x.ins.step t x.s).1.line=0 then aI x.o 0 (-1) else x.o }
section
variable {t:TW} {N:Nat} {K H:Int→Int} {x y:Cm} {g g':Sh} {c d:Nat} {i j:Int} {s s':MS}
theorem Tj (L:Pl t N) (h0:0≤i∧i<t.size) {r:da} (hR:ue t i r):(r.step t i s).2.W.length=s.W.length∧(∀ b,t.cG≤b→(r.step t i s).2.aS b=s.aS b)∧vw t (r.step t i s).2=vw t s:=by
 have e1:=L.cG; have e2:=L.links; have e3:=L.u12; have z:=L.u11; have z1:=L.snd.2.2.2.1; have z2:=L.snd.2.2.1
 have hb:∀ s':MS,s'.W.length=s.W.length→(∀ b,t.cG≤b→s'.aS b=s.aS b)→s'.W.length=s.W.length∧(∀ b,t.cG≤b→s'.aS b=s.aS b)∧vw t s' =vw t s:=fun s' h1 h2=>⟨h1,h2,by
  funext j p
  by_cases hp:cd t j p
  ·exact h2 _ (L.hi hp).1
  ·rw [Cy hp,Cy hp]⟩
 cases r with
 | looks=>exact hb _ (SF _ _) fun b _=>SN _ _ _
 | done=>exact hb _ rfl fun _ _=>rfl
 | push R p =>
  obtain ⟨⟨e,rfl⟩,n,w,rfl⟩:=hR R p rfl
  have ht:(t.wait e).top<t.cG:=by
   have:IntKind.wrap .i64 (t.u12+e % 4294967296 % 3)=t.u12+e % 4294967296 % 3:=wrap64 (by omega) (by omega)
   unfold TW.wait; simp only [this]; omega
  refine hb _ ?_ fun b Fz=>?_
  ·unfold da.step eM.step
   simp only
   split
   ·exact SF _ _
   split
   ·exact qV _ _ _
   ·exact abY _ _ _ _
  ·unfold da.step eM.step
   simp only
   split
   ·exact SN _ _ _
   split
   ·exact Fl (by show b≠t.links+i; omega)
   ·exact Fl (by omega)
theorem ue.step (h0:0≤i∧i<t.size) {r:da} (h:ue t i r):ue t i (r.step t i s).1:=by
 cases r with
 | looks =>
  intro R p e
  simp only [da.step] at e
  injection e with e1 e2
  subst e1 e2
  rw [Kt h0.1 (by exact h0.2)]
  exact ⟨⟨_,rfl⟩,_,_,rfl⟩
 | done=>intro R p e; cases e
 | push R p =>
  obtain ⟨⟨e,rfl⟩,n,w,rfl⟩:=h R p rfl
  intro R' p' e'
  simp only [da.step,da.after] at e'
  split at e'
  ·cases e'
  ·injection e' with e1 e2
   refine ⟨⟨e,e1.symm⟩,?_⟩
   rw [← e2]
   unfold eM.step at *
   simp only at *
   split
   ·exact ⟨_,_,rfl⟩
   split
   ·exact ⟨_,_,rfl⟩
   ·rename_i q _ _
    split
    ·rename_i k1 k2 k3
     simp [k1,k2,k3,eM.over] at q
    ·exact ⟨_,_,rfl⟩
theorem bJ.Tk (I:bJ t N K H x g) (L:Pl t N) (h0:0≤x.o 0) (h10:x.ins.line≤10) (h':aP t g') (gd:Gd t x.ins.i g g') (hc:g'.c=vw t (x.ins.step t x.s).2) (k':fz t g' (fun j=>j=x.na - 1) (fun _=>True) (x.ins.step t x.s).1) (lo:∀ i p,p≤3→g'.c i p=g.c i p):bJ t N K H (x.iD t) g':=by
 obtain ⟨n1,n2,k,k0,dR⟩:=I.ins h0
 have l1:1≤x.ins.line:=by rcases k.line with e | e | e | e | e | e | e | e | e | e | e | e | e<;>omega
 have ho:∀ j:Int,j=x.na - 1→0≤j:=fun j e=>by omega
 have i0:=k.i0 I.inv
 obtain ⟨e1,e2,e3,e4⟩:=x.ins.ace t x.s
 have ln:=x.ins.z8 t x.s l1 h10
 obtain ⟨o1,o2,o3,o4⟩:=gd.old
 have kG:=dR.step L.snd L.gm I.ok
 have lw:=Lw.ins (s:=x.s) L (y:=x.ins) (by omega)
 obtain ⟨y,hy⟩:∃ y,y=x.iD t:=⟨_,rfl⟩
 have yo:y.o=x.o:=by rw [hy]; exact if_neg (by omega)
 have ys:y.s=(x.ins.step t x.s).2:=by rw [hy]; rfl
 have yi:y.ins=(x.ins.step t x.s).1:=by rw [hy]; rfl
 have yc:y.cl=x.cl:=by rw [hy]; rfl
 have yn:y.na=x.na:=by rw [hy]; rfl
 have yg:y.got=x.got:=by rw [hy]; rfl
 have yF:∀ c,1≤c→y.F c=x.F c:=fun c h=>by rw [hy]; exact cN _ _ (by omega)
 have hl:∀ i,y.dH i↔x.dH i:=fun i=>by unfold Cm.dH; rw [yn,yo,yi]; constructor<;>intro ⟨a,b⟩<;>exact ⟨a,fun ⟨c1,c2,c3⟩=>b ⟨c1,c2,by omega⟩⟩
 have ha:∀ i,y.add i↔x.add i:=fun i=>by unfold Cm.add; rw [yg,yo,yc]
 have hh:∀ i,y.hold i=x.hold i:=fun i=>vM (hl i) (ha i)
 rw [← hy]
 refine ⟨?_,?_,h',by rw [ys]; exact hc,fun i h0 h1=>?_,fun i h0 h1=>(o3 i).trans (I.rf i h0 h1),by rw [yn]; exact I.na,fun l i hb=>?_,fun i h1 h2 h3=>?_,fun i h1 hb=>?_,fun _=>?_,fun c c1 c2 c3=>?_,by rw [yg]; exact I.nodup,fun j hj=>?_,?_,?_,?_,fun i h0 h1=>?_,fun i hi=>?_,fun _ e=>?_,?_⟩
 ·rw [ys,lw.len]; exact I.len
 ·rw [ys]; exact kG.2
 ·obtain ⟨a1,a2,a3,a4⟩:=I.nd i h0 h1
  exact ⟨Ti gd h' a1,(lo i 0 (by omega)).trans a2,(lo i 1 (by omega)).trans a3,(lo i 2 (by omega)).trans a4⟩
 ·rw [yn]
  by_cases e:i=x.ins.i
  ·omega
  ·exact I.bo l i (o1 l i (h'.bo _ _ hb).1 e hb)
 ·rw [yn,yo] at *; exact o4 _ _ (I.bi i h1 h2 h3)
 ·rw [yn,yo]
  by_cases e:i=x.ins.i
  ·exact ⟨h0,by omega⟩
  ·exact I.bz i h1 ((o2 i h1 e).1 hb)
 ·rw [yn,yi]; exact ⟨n1,by omega,k',by omega,kG.1⟩
 ·rw [yo] at c3
  rw [yF c c1,yc]
  obtain ⟨a1,a2⟩:=I.cl c c1 c2 c3
  exact ⟨a1.run gd h',a2⟩
 ·rw [yg] at hj
  exact CD gd h' (I.got j hj).1 (I.got j hj).2
 ·rw [yo,yc,yg]; exact I.min
 ·rw [yo,yc]; exact I.two
 ·rw [yo,yc]; intro c a b e; rw [hl]; exact I.c12 c a b e
 ·rw [hh,lo i 3 (by omega)]; exact I.hold i h0 h1
 ·rw [ha] at hi
  obtain ⟨a1,a2⟩:=I.Tf hi
  exact Tg gd h' a1 a2 (I.uf i hi)
 ·rw [yi] at e; omega
 ·rw [yo,yc]; exact I.rc
end
end Go.Proofs.YtkhlabammcghbaaGreat.Lift
