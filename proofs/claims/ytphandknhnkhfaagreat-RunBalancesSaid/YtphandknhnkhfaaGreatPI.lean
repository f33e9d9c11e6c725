import Derived.Test.YtphandknhnkhfaaGreatPH
import Derived.Test.YtphandknhnkhfaaGreatPE
import Derived.Test.YtphandknhnkhfaaGreatPA
import Derived.Test.YtphandknhnkhfaaGreatPF
import Derived.Test.YtphandknhnkhfaaGreatPG
set_option linter.unusedVariables false
set_option linter.unusedSimpArgs false
set_option maxRecDepth 20000
namespace Go.Proofs.YtphandknhnkhfaaGreat.Lift
open Go Go.Proofs.YtphandknhnkhfaaGreat.Gh Go.Proofs
section
variable {t:TW} {own kn:Int→Prop} {g g':Sh} {l p i j v key known w a N:Int} {A B:List Int} {f:au} {s:MS} {sp:dZ}
theorem ac0:∀ (Z Z' B B':List Int) (p:Int),p∉Z→p∉Z' →Z++p::B=Z' ++p::B' →Z.length=Z'.length:=by
 intro Z
 induction Z with
 | nil =>
  intro Z' B B' p h1 h2 h3
  cases Z' with
  | nil=>rfl
  | cons z Z'=>simp at h3 h2; exact absurd h3.1 h2.1
 | cons z Z ih =>
  intro Z' B B' p h1 h2 h3
  cases Z' with
  | nil=>simp at h3 h1; exact absurd h3.1.symm h1.1
  | cons z' Z' =>
   simp at h3 h1 h2 ⊢
   exact ih Z' B B' p h1.2 h2.2 h3.2
theorem Kn (h:bh t g) (hs:t.sound):∃ a,Tr t g (f.anew t) a:=by
 have:=hs.1
 have P:fB t g (t.ay - 1) (-1):=⟨by omega,by omega,.inl rfl,h.hd _ (by omega) (by omega)⟩
 obtain ⟨A,B,hC,hP,-⟩:=P.split h
 exact ⟨_,⟨A,B,hC,hP,rfl⟩,P,by simp [au.anew],by simp [au.anew]⟩
theorem Ko (t:TW) (g:Sh) (f:au):1≤St t g f∧St t g f≤4:=by
 unfold St
 split
 ·omega
 ·split
  ·split<;>omega
  ·omega
theorem SQ (h:bh t g) (k:nI t g kn f):f.tell.line=9∨(∃ a,Tr t g f.tell a)∨St t g f.tell=1:=by
 unfold au.tell
 by_cases c:f.l<1
 ·rw [if_pos c]; exact .inl rfl
 ·rw [if_neg c]
  exact .inr (.inr (by unfold St; simp))
theorem ac1 (L:hY t s.W.length) (h:bh t g) (hv:g.c=vw t s) (k:iC t g kn f) (h9:f.line≠9) (T:¬ ∃ a,Tr t g f a) :
  g.fs t f=g∧((f.step t s).1.line=9∨(∃ a',Tr t g (f.step t s).1 a')∨St t g (f.step t s).1+1≤St t g f):=by
 obtain ⟨l0,l1⟩:=k.aQ
 have hs:=k.snd
 have hp:=k.pred h9
 have hP:=hp.dg h l0 l1
 have hn:aX t f.at_.pred f.l=aB t f.at_.pred (4+f.l):=jI hs l0 l1 _
 rcases k.line with e | e | e | e | e
 ·rw [pY (.inl (by omega))]
  obtain ⟨e1,e2⟩:=nH L hP
  rw [← hv] at e1 e2
  have c:bp≤g.c f.at_.pred (4+f.l):=by
   rcases Classical.em (Mk (g.c f.at_.pred (4+f.l))) with m | m
   ·exact m
   ·exact absurd (jJ.trE h (hp.xM l0 l1 m) e) T
  have ax:f.step t s=(({ f with by_:=f.at_.known,at_:={ f.at_ with cur:=g.c f.at_.pred (4+f.l) } }:au).anew t,s.load (aB t f.at_.pred (4+f.l))):=by
   unfold au.step
   simp [e,hn,e1,c]
  rw [ax]
  exact ⟨rfl,.inr (.inl (Kn h hs))⟩
 ·rw [pY (.inl (by omega))]
  obtain ⟨⟨j,a1,a2,a3,a4⟩,a5⟩:=k.cur (.inl e)
  have b:=h.bo _ _ a2
  have xQ:dg t (aH t.size f.at_.cur) (4+f.l):=by rw [a4]; exact oS l0 l1 (.inr ⟨b.1,b.2.1⟩)
  have Km:aX t (aH t.size f.at_.cur) f.l=aB t (aH t.size f.at_.cur) (4+f.l):=jI hs l0 l1 _
  obtain ⟨e1,e2⟩:=nH L xQ
  rw [← hv] at e1 e2
  have ax:f.step t s=({ f with by_:=f.at_.cur,w:=g.c (aH t.size f.at_.cur) (4+f.l),line:=if Mk (g.c (aH t.size f.at_.cur) (4+f.l)) then 3 else 4 },s.load (aB t (aH t.size f.at_.cur) (4+f.l))):=by
   unfold au.step
   simp only [e,Km,e1]
   rfl
  rw [ax]
  refine ⟨rfl,.inr (.inr ?_)⟩
  have:St t g f=3:=by unfold St; rw [if_pos e]
  rw [this]
  unfold St
  by_cases c:Mk (g.c (aH t.size f.at_.cur) (4+f.l))
  ·simp [c]
  ·simp [c]
 ·obtain ⟨⟨j,a1,a2,a3,a4⟩,a5⟩:=k.cur (.inr (.inl e))
  have b:=h.bo _ _ a2
  have r:=h.rf j b.1 b.2.1
  have c:g.c f.at_.pred (4+f.l)≠f.at_.cur:=fun c=>T (by
   have P:=hp.xM l0 l1 (by rw [c,a1]; exact Int.not_le.2 r.2.2)
   obtain ⟨A,B,hC,oT,-⟩:=P.split h
   exact ⟨_,⟨A,B,hC,oT,rfl⟩,P,fun _=>c,by omega⟩)
  rw [pY (.inr c)]
  obtain ⟨e1,e2⟩:=xI L hP (x:=f.at_.cur) (f.w - bp) (by rw [← hv]; exact c)
  have ax:f.step t s=(({ f with by_:=f.at_.known }:au).anew t,s.bT (aB t f.at_.pred (4+f.l)) f.at_.cur (f.w - bp)):=by
   unfold au.step
   simp [e,hn,e1]
  rw [ax]
  exact ⟨rfl,.inr (.inl (Kn h hs))⟩
 ·rw [pY (.inl (by omega))]
  obtain ⟨⟨j,a1,a2,a3,a4⟩,a5⟩:=k.cur (.inr (.inr e))
  have b:=h.bo _ _ a2
  have hh:=hs.1
  have xQ:dg t (aH t.size f.at_.cur) 0:=by rw [a4]; exact .inr ⟨b.1,b.2.1,by omega,by omega⟩
  obtain ⟨e1,e2⟩:=nH L xQ
  rw [← hv] at e1 e2
  have ax:f.step t s=if f.key≤g.c (aH t.size f.at_.cur) 0 then (({ f with by_:=f.at_.cur }:au).tell,s.load (aB t (aH t.size f.at_.cur) 0)) else (({ f with by_:=f.at_.cur,at_:=⟨aH t.size f.at_.cur,f.at_.cur,f.w⟩ }:au).looks t,s.load (aB t (aH t.size f.at_.cur) 0)):=by
   unfold au.step
   simp only [e,e1]
   rfl
  have hS:2≤St t g f∧(g.c (aH t.size f.at_.cur) (4+f.l)≠f.w→St t g f=4):=by
   unfold St
   rw [if_neg (by omega),if_pos e]
   split
   ·rename_i q; exact ⟨by omega,fun k=>absurd q k⟩
   ·exact ⟨by omega,fun _=>rfl⟩
  refine ⟨rfl,?_⟩
  by_cases ck:f.key≤g.c (aH t.size f.at_.cur) 0
  ·rw [ax,if_pos ck]
   rcases SQ (f:={ f with by_:=f.at_.cur }) h ⟨k.snd,k.aQ,k.len,hp,(k.pre h9).told⟩ with q | q | q
   ·exact .inl q
   ·exact .inr (.inl q)
   ·refine .inr (.inr ?_)
    show St t g ({ f with by_:=f.at_.cur }:au).tell+1≤_
    rw [q]; omega
  ·rw [ax,if_neg ck]
   have pre:nI t g kn { f with by_:=f.at_.cur,at_:=⟨aH t.size f.at_.cur,f.at_.cur,f.w⟩ }:=⟨k.snd,k.aQ,k.len,.inr ⟨by rw [a4]; exact a2,by rw [a4]; exact a3,by simp only; omega,by rw [a4]; exact a1⟩,(k.pre h9).told⟩
   unfold au.looks
   by_cases c:aH t.size f.w<0
   ·simp only [c,if_true]
    rcases SQ (f:={ f with by_:=f.at_.cur,at_:=⟨aH t.size f.at_.cur,f.at_.cur,f.w⟩,line:=2 }) h ⟨pre.snd,pre.aQ,pre.len,pre.pred,pre.told⟩ with q | q | q
    ·exact .inl q
    ·exact .inr (.inl q)
    ·refine .inr (.inr ?_)
     rw [q]; omega
   ·simp only [c,if_false]
    by_cases cw:g.c (aH t.size f.at_.cur) (4+f.l)=f.w
    ·refine .inr (.inl ?_)
     have uw:¬ Mk f.w:=by
      rcases k.w4 e with e0 | ⟨⟨j',x1,x2,-,-⟩,-⟩
      ·rw [e0]; decide
      ·have r:=h.rf j' (h.bo _ _ x2).1 (h.bo _ _ x2).2.1
       rw [x1]; exact Int.not_le.2 r.2.2
     have P:fB t g f.l (aH t.size f.at_.cur):=⟨l0,l1,.inr (by rw [a4]; exact a2),by rw [cw]; exact uw⟩
     obtain ⟨A,B,hC,oT,-⟩:=P.split h
     exact ⟨_,⟨A,B,hC,oT,rfl⟩,P,fun _=>cw,by simp⟩
    ·refine .inr (.inr ?_)
     rw [hS.2 cw]
     unfold St
     simp
 ·exact absurd e h9
theorem SR (h:bh t g) (k:iC t g kn f) (h9:f.line≠9) (T:Tr t g f a):1≤Rm g f a:=by
 have hb:=E6 g f.l.toNat
 have ha:=(T.le k.aQ).1
 unfold Rm
 rcases k.line with e | e | e | e | e
 ·rw [if_pos e]; omega
 ·obtain ⟨⟨j,a1,a2,a3,a4⟩,-⟩:=k.cur (.inl e)
  obtain ⟨A,B,_,_,ea⟩:=Cg h T ⟨j,a1.symm,a4,a2⟩ (T.cur (.inl e))
  rw [if_neg (by omega),if_pos e]; omega
 ·obtain ⟨⟨j,a1,a2,a3,a4⟩,-⟩:=k.cur (.inr (.inl e))
  obtain ⟨A,B,_,_,ea⟩:=Cg h T ⟨j,a1.symm,a4,a2⟩ (T.cur (.inr (.inl e)))
  rw [if_neg (by omega),if_neg (by omega)]; omega
 ·obtain ⟨⟨j,a1,a2,a3,a4⟩,-⟩:=k.cur (.inr (.inr e))
  obtain ⟨A,B,_,_,ea⟩:=Cg h T ⟨j,a1.symm,a4,a2⟩ (T.cur (.inr (.inr e)))
  rw [if_neg (by omega),if_neg (by omega)]; omega
 ·exact absurd e h9
theorem FB.pos (h:bh t g) (k:iC t g kn f) (h9:f.line≠9) (b:FB t g f N):1≤N:=by
 rcases b with ⟨a,T,q⟩ | q
 ·have:=SR h k h9 T; omega
 ·have:=(Ko t g f).1
  have:=E6 g t.ay.toNat
  have e:PP t g=dR g t.ay.toNat:=rfl
  omega
theorem FG.pos (h:bh t g) (k:iC t g kn f) (h9:f.line≠9) (b:FG t g f N):1≤N:=by
 obtain ⟨-,a,T,q⟩:=b
 have:=SR h k h9 T; omega
theorem FG.fb (b:FG t g f N):FB t g f N:=.inl b.2
theorem FG.fresh (h:bh t g) (hs:t.sound):FG t g (f.anew t) (PP t g):=by
 obtain ⟨a,T⟩:=Kn (f:=f) h hs
 refine ⟨fun l e h0 h1=>?_,a,T,(T.le (by have:=hs.1; simp only [au.anew]; omega)).2⟩
 simp only [au.anew] at e
 omega
theorem Kp (L:hY t s.W.length) (h:bh t g) (hv:g.c=vw t s) (hk:vJ t g kn) (k:iC t g kn f) (qV:0≤f.key) (h9:f.line≠9) (b:FB t g f N):(f.step t s).1.line=9∨FB t (g.fs t f) (f.step t s).1 (N - 1):=by
 rcases Classical.em (∃ a,Tr t g f a) with ⟨a,T⟩ | T
 ·have hN:Rm g f a≤N:=by
   rcases b with ⟨a',T',q⟩ | q
   ·obtain ⟨A,B,c1,c2,c3⟩:=T.ex
    obtain ⟨A',B',sf,c2',c3'⟩:=T'.ex
    have:a=a':=by
     obtain ⟨l0,l1⟩:=k.aQ
     have hn:=h.nodup l0 l1
     have m1:=c2.end
     have m2:=c2'.end
     have q:=(List.nodup_cons.1 hn).2
     have e0:=(List.nodup_cons.1 hn).1
     have len:A.length=A'.length:=by
      rcases m1 with ⟨rfl,e1⟩ | ⟨Z,rfl⟩
      ·rcases m2 with ⟨rfl,_⟩ | ⟨Z',rfl⟩
       ·rfl
       ·exfalso; apply e0; rw [← e1,sf]; simp
      ·rcases m2 with ⟨rfl,e1⟩ | ⟨Z',rfl⟩
       ·exfalso; apply e0; rw [← e1,c1]; simp
       ·have n1:(Z++[f.at_.pred]++B).Nodup:=c1▸q
        have n2:(Z' ++[f.at_.pred]++B').Nodup:=sf ▸q
        have z1:f.at_.pred∉Z:=fun hz=>(List.nodup_append.1 (List.nodup_append.1 n1).1).2.2 _ hz f.at_.pred (by simp) rfl
        have z2:f.at_.pred∉Z':=fun hz=>(List.nodup_append.1 (List.nodup_append.1 n2).1).2.2 _ hz f.at_.pred (by simp) rfl
        have:=ac0 Z Z' B B' f.at_.pred z1 z2 (by have:=c1.symm.trans sf; simpa using this)
        simp; omega
     have tU:(g.C f.l).length=A.length+B.length:=by rw [c1]; simp
     have vu:(g.C f.l).length=A'.length+B'.length:=by rw [sf]; simp
     omega
    subst this; exact q
   ·have:=(T.le k.aQ).2
    have:=(Ko t g f).1
    omega
  rcases (SN L h hv k qV h9 T).1 with q | ⟨a',T',q⟩
  ·exact .inl q
  ·exact .inr (.inl ⟨a',T',by omega⟩)
 ·have hN:St t g f+PP t g≤N:=b.resolve_left fun ⟨a,T',_⟩=>T ⟨a,T'⟩
  obtain ⟨e,q⟩:=ac1 L h hv k h9 T
  have k':=(Kk L h hv hk k qV).2.2.1
  rw [e] at k' ⊢
  rcases q with q | ⟨a',T'⟩ | q
  ·exact .inl q
  ·refine .inr (.inl ⟨a',T',?_⟩)
   have:=(T'.le k'.aQ).2
   have:=(Ko t g f).1
   omega
  ·exact .inr (.inr (by omega))
theorem E7 (L:hY t s.W.length) (h:bh t g) (hv:g.c=vw t s) (k:iC t g kn f) (qV:0≤f.key) (h9:f.line≠9) (b:FG t g f N):xP t (g.fs t f) (f.step t s).1∧((f.step t s).1.line=9∨FG t (g.fs t f) (f.step t s).1 (N - 1)):=by
 obtain ⟨V,a,T,q⟩:=b
 obtain ⟨q1,q2⟩:=SN L h hv k qV h9 T
 refine ⟨q2 V,?_⟩
 rcases q1 with q1 | ⟨a',T',q1⟩
 ·exact .inl q1
 ·exact .inr ⟨q2 V,a',T',by omega⟩
end
theorem SS:∀ (n:Nat) (L:List Int),L.Nodup→(∀ x∈L,0≤x∧x<n)→L.length≤n
 | 0,L,_,hb=>by
  cases L with
  | nil=>exact Nat.le_refl _
  | cons a L=>have:=hb a (by simp); omega
 | n+1,L,hn,hb=>by
  have h1:=SS n (L.erase (n:Int)) (hn.erase _) fun x hx=>by
   have h2:=hb x (List.mem_of_mem_erase hx)
   have h3:x≠(n:Int):=fun e=>by
    subst e
    exact absurd hx (by simp [hn.mem_erase_iff])
   omega
  have:=List.length_erase_le (a:=(n:Int)) (l:=L)
  by_cases hm:(n:Int)∈L
  ·rw [List.length_erase_of_mem hm] at h1; omega
  ·rw [List.erase_of_not_mem hm] at h1; omega
def gQ (t:TW):Int:=t.ay*(2*t.size+1)
def VF (t:TW) (g:Sh) (x:ak) (lv:Int):Prop:=∀ l,lv≤l→0≤l→l<x.hi→lU t g l (x.find.spot l)
abbrev c9 (t:TW):Int:=gQ t+7
abbrev cX (t:TW) (x:ak):Int:=gQ t+1+3*x.hi+c9 t
def IB (t:TW) (g:Sh) (x:ak) (N:Int):Prop :=
 (x.line=11∧6≤N) ∨
 (x.line=10∧∃ M,FB t g x.find M∧M+6≤N) ∨
 (x.line=9∧c9 t≤N) ∨
 (x.line=4∧(VF t g x x.level∧3*(x.hi - x.level)+c9 t≤N∨3*(x.hi - x.level)+cX t x≤N)) ∨
 (x.line=5∧(VF t g x x.level∧3*(x.hi - x.level) - 1+c9 t≤N∨3*(x.hi - x.level) - 1+cX t x≤N)) ∨
 (x.line=6∧(VF t g x x.level∧3*(x.hi - x.level) - 2+c9 t≤N∨3*(x.hi - x.level) - 2+cX t x≤N)) ∨
 (x.line=7∧((∃ M,FG t g x.find M∧M+1+3*(x.hi - x.level)+c9 t≤N)∨∃ M,FB t g x.find M∧M+1+3*(x.hi - x.level)+cX t x≤N)) ∨
 (x.line=8∧(VF t g x x.level∧1+3*(x.hi - x.level)+c9 t≤N∨1+3*(x.hi - x.level)+cX t x≤N)) ∨
 (x.line=3∧(VF t g x 0∧1+3*x.hi+c9 t≤N∨1+3*x.hi+cX t x≤N)) ∨
 (x.line=2∧(VF t g x 0∧(x.hi - x.level)+1+3*x.hi+c9 t≤N∨(x.hi - x.level)+1+3*x.hi+cX t x≤N)) ∨
 (x.line=1∧((∃ M,FG t g x.find M∧M+x.hi+1+3*x.hi+c9 t≤N)∨∃ M,FB t g x.find M∧M+x.hi+1+3*x.hi+cX t x≤N))
section
variable {t:TW} {own kn:Int→Prop} {g g' g1:Sh} {l p i j v key known w N M:Int} {A B:List Int} {f:au} {s:MS} {sp:dZ} {x:ak}
theorem zM (hs:t.sound) (h:bh t g):PP t g≤gQ t:=by
 have key:∀ n:Nat,(n:Int)≤t.ay→dR g n≤n*(2*t.size+1):=by
  intro n
  induction n with
  | zero=>intro _; simp [dR]
  | succ n ih =>
   intro hn
   have:=ih (by omega)
   have hl:(g.C (n:Int)).length≤t.size.toNat:=SS _ _ (List.nodup_cons.1 (h.nodup (by omega) (by omega))).2 fun x hx=>by
    have:=h.bo _ _ (h.dM _ x (by omega) (by omega) hx)
    omega
   have hz:=hs.2.2.1
   simp only [dR]
   rw [Int.natCast_add,Int.natCast_one,Int.add_mul]
   omega
 have:=key t.ay.toNat (by have:=hs.1; omega)
 unfold PP gQ
 have hh:((t.ay.toNat:Nat):Int)=t.ay:=by have:=hs.1; omega
 rw [hh] at this
 exact this
theorem Gd.ac2 (a:Gd t i g g') (hi:i= -1∨True):∀ l j,g.born l j→g'.born l j:=by
 induction a with
 | nil=>exact fun _ _ h=>h
 | step h r _ ih=>exact fun l j hb=>ih l j ((r (fun _=>False) (fun _=>True) (fun _ h=>h.elim) id).born l j trivial hb)
theorem lU.keep (a:Gd t i g g') (k:lU t g l sp) (hc:g'.c sp.pred (4+l)=g.c sp.pred (4+l)):lU t g' l sp :=
 ⟨⟨k.1.l0,k.1.l1,k.1.on.imp id fun q=>a.ac2 (.inr trivial) _ _ q,by rw [hc]; exact k.1.um⟩,by rw [hc]; exact k.2⟩
theorem ac3 (L:hY t s.W.length) (ho:∀ j,own j→0≤j) (h:bh t g) (hv:g.c=vw t s) (hk:vJ t g kn) (k:iD t g own kn x) (lu:0≤x.key) (e1:1≤x.line) (e2:x.line≤10) (b:IB t g x N) :
  ∃ g',bh t g' ∧Gd t x.i g g' ∧g'.c=vw t (x.step t s).2∧iD t g' own kn (x.step t s).1∧IB t g' (x.step t s).1 (N - 1)∧∀ i p,p≤3→g'.c i p=g.c i p:=by
 obtain ⟨g',h',gd,hc,k',B9,lo⟩:=acV L ho h hv hk k lu e1 e2
 refine ⟨g',h',gd,hc,k',?_,lo⟩
 obtain ⟨fi,fk⟩:=k.fi e1 e2
 have i0:=k.i0 h
 have hs:=fi.snd
 have hP:=zM hs h
 have hPn:0≤gQ t:=Int.le_trans (E6 g t.ay.toNat) hP
 have aQ:=k.aQ
 have hc9:c9 t=gQ t+7:=rfl
 have sD:∀ n:Int,x.line=n→∀ Q:Prop,((n=11→6≤N→Q)∧(n=10→(∃ M,FB t g x.find M∧M+6≤N)→Q)∧(n=9→c9 t≤N→Q)∧(n=4→(VF t g x x.level∧3*(x.hi - x.level)+c9 t≤N∨3*(x.hi - x.level)+cX t x≤N)→Q)∧(n=5→(VF t g x x.level∧3*(x.hi - x.level) - 1+c9 t≤N∨3*(x.hi - x.level) - 1+cX t x≤N)→Q)∧(n=6→(VF t g x x.level∧3*(x.hi - x.level) - 2+c9 t≤N∨3*(x.hi - x.level) - 2+cX t x≤N)→Q)∧(n=7→((∃ M,FG t g x.find M∧M+1+3*(x.hi - x.level)+c9 t≤N)∨∃ M,FB t g x.find M∧M+1+3*(x.hi - x.level)+cX t x≤N)→Q)∧(n=8→(VF t g x x.level∧1+3*(x.hi - x.level)+c9 t≤N∨1+3*(x.hi - x.level)+cX t x≤N)→Q)∧(n=3→(VF t g x 0∧1+3*x.hi+c9 t≤N∨1+3*x.hi+cX t x≤N)→Q)∧(n=2→(VF t g x 0∧(x.hi - x.level)+1+3*x.hi+c9 t≤N∨(x.hi - x.level)+1+3*x.hi+cX t x≤N)→Q)∧(n=1→((∃ M,FG t g x.find M∧M+x.hi+1+3*x.hi+c9 t≤N)∨∃ M,FB t g x.find M∧M+x.hi+1+3*x.hi+cX t x≤N)→Q))→Q:=by
  intro n e Q ⟨q1,q2,q3,q4,q5,q6,q7,q8,q9,q10,q11⟩
  rcases b with ⟨a,c⟩ | ⟨a,c⟩ | ⟨a,c⟩ | ⟨a,c⟩ | ⟨a,c⟩ | ⟨a,c⟩ | ⟨a,c⟩ | ⟨a,c⟩ | ⟨a,c⟩ | ⟨a,c⟩ | ⟨a,c⟩
  ·exact q1 (e.symm.trans a) c
  ·exact q2 (e.symm.trans a) c
  ·exact q3 (e.symm.trans a) c
  ·exact q4 (e.symm.trans a) c
  ·exact q5 (e.symm.trans a) c
  ·exact q6 (e.symm.trans a) c
  ·exact q7 (e.symm.trans a) c
  ·exact q8 (e.symm.trans a) c
  ·exact q9 (e.symm.trans a) c
  ·exact q10 (e.symm.trans a) c
  ·exact q11 (e.symm.trans a) c
 rcases (show x.line=1∨x.line=2∨x.line=3∨x.line=4∨x.line=5∨x.line=6∨x.line=7∨x.line=8∨x.line=9∨x.line=10 by omega) with e | e | e | e | e | e | e | e | e | e
 ·-- its search
  have ax:x.step t s=x.l1 t s:=by unfold ak.step; simp [e]
  have eZ:=B9 (.inl e)
  have b':(∃ M,FG t g x.find M∧M+x.hi+1+3*x.hi+c9 t≤N)∨∃ M,FB t g x.find M∧M+x.hi+1+3*x.hi+cX t x≤N:=sD 1 e _ (by refine ⟨?_,?_,?_,?_,?_,?_,?_,?_,?_,?_,fun _ h=>h⟩<;>(intro q; omega))
  have n9:=k.n9 (.inl e)
  rw [ax]
  unfold ak.l1 ak.dB
  by_cases h9:(x.find.step t s).1.line=9
  ·simp only [h9,if_true]
   unfold IB
   refine .inr (.inr (.inr (.inr (.inr (.inr (.inr (.inr (.inr (.inl ⟨rfl,?_⟩)))))))))
   rcases b' with ⟨M,q,r⟩ | ⟨M,q,r⟩
   ·have:=q.pos h fi n9
    have V:=(E7 L h hv fi (by omega) n9 q).1
    rw [← eZ] at V
    exact .inl ⟨fun l _ h0 h1=>V l (.inl h9) h0 (Int.lt_of_lt_of_le h1 i0.2.2.2),by simp only; omega⟩
   ·have:=q.pos h fi n9
    exact .inr (by unfold cX at r ⊢; simp only; omega)
  ·simp only [h9,if_false]
   unfold IB
   refine .inr (.inr (.inr (.inr (.inr (.inr (.inr (.inr (.inr (.inr ⟨rfl,?_⟩)))))))))
   rcases b' with ⟨M,q,r⟩ | ⟨M,q,r⟩
   ·have V:=(E7 L h hv fi (by omega) n9 q).2.resolve_left h9
    rw [← eZ] at V
    exact .inl ⟨M - 1,V,by simp only; omega⟩
   ·have V:=(Kp L h hv hk fi (by omega) n9 q).resolve_left h9
    rw [← eZ] at V
    exact .inr ⟨M - 1,V,by unfold cX at r ⊢; simp only; omega⟩
 ·-- a store
  have ax:x.step t s=x.l2 t s:=by unfold ak.step; simp [e]
  have b':(VF t g x 0∧(x.hi - x.level)+1+3*x.hi+c9 t≤N∨(x.hi - x.level)+1+3*x.hi+cX t x≤N):=sD 2 e _ (by refine ⟨?_,?_,?_,?_,?_,?_,?_,?_,?_,fun _ h=>h,?_⟩<;>(intro q; omega))
  have lv:=aQ.2.2.1 (by omega)
  have lV:dg t x.i (4+x.level):=oS aQ.1 (by omega) (.inr ⟨i0.1,i0.2.1⟩)
  have hn:aX t x.i x.level=aB t x.i (4+x.level):=jI hs aQ.1 (by omega) _
  have ec:g'.c=g.c.set x.i (4+x.level) (x.find.spot x.level).cur:=by
   rw [hc,ax]; simp only [ak.l2]; rw [hn,zH L lV,← hv]
  have nb:=k.low (by omega)
  have vk:∀ {l sp},lU t g l sp→lU t g' l sp:=fun {l sp} V=>V.keep gd (by
   rw [ec]; refine Vw.mM _ _ ?_
   rintro e'
   rcases V.1.on with o | o
   ·omega
   ·rw [e'] at o; exact nb (h.vI o))
  rw [ax]
  unfold ak.l2
  simp only
  by_cases c:x.level+1<x.hi
  ·rw [if_pos c]
   unfold IB
   refine .inr (.inr (.inr (.inr (.inr (.inr (.inr (.inr (.inr (.inl ⟨rfl,?_⟩)))))))))
   rcases b' with ⟨q,r⟩ | r
   ·exact .inl ⟨fun l z h0 h1=>vk (q l z h0 h1),by simp only; omega⟩
   ·exact .inr (by unfold cX at r ⊢; simp only; omega)
  ·rw [if_neg c]
   unfold IB
   refine .inr (.inr (.inr (.inr (.inr (.inr (.inr (.inr (.inl ⟨rfl,?_⟩))))))))
   rcases b' with ⟨q,r⟩ | r
   ·exact .inl ⟨fun l z h0 h1=>vk (q l z h0 h1),by simp only; omega⟩
   ·exact .inr (by unfold cX at r ⊢; simp only; omega)
 ·-- it comes in
  have ax:x.step t s=x.l3 t s:=by unfold ak.step; simp [e]
  have b':(VF t g x 0∧1+3*x.hi+c9 t≤N∨1+3*x.hi+cX t x≤N):=sD 3 e _ (by refine ⟨?_,?_,?_,?_,?_,?_,?_,?_,fun _ h=>h,?_,?_⟩<;>(intro q; omega))
  have l0:=aQ.2.2.2.1 e
  have n9:=k.f9 (by omega)
  have T:=fi.told x.level (.inl n9) aQ.1 (by omega)
  have lV:=T.1.dg h aQ.1 (by omega)
  have hn:aX t (x.find.spot x.level).pred x.level=aB t (x.find.spot x.level).pred (4+x.level):=jI hs aQ.1 (by omega) _
  have hh:x.iM t s=s.bT (aB t (x.find.spot x.level).pred (4+x.level)) (x.find.spot x.level).cur x.ref:=by unfold ak.iM; rw [hn]
  by_cases c:g.c (x.find.spot x.level).pred (4+x.level)=(x.find.spot x.level).cur
  ·obtain ⟨q1,q2⟩:=xH L lV (x:=(x.find.spot x.level).cur) x.ref (by rw [← hv]; exact c)
   rw [← hh,← hv] at q2
   rw [← hh] at q1
   have ec:g'.c=g.c.set (x.find.spot x.level).pred (4+x.level) x.ref:=by rw [hc,ax]; exact q2
   rw [ax]
   unfold ak.l3
   simp only [q1,if_true]
   unfold ak.up
   by_cases c2:x.hi≤1
   ·simp only [if_pos c2]
    unfold IB
    refine .inr (.inr (.inl ⟨rfl,?_⟩))
    rcases b' with ⟨q,r⟩ | r
    ·omega
    ·unfold cX at r; omega
   ·simp only [if_neg c2]
    unfold IB
    refine .inr (.inr (.inr (.inl ⟨rfl,?_⟩)))
    rcases b' with ⟨q,r⟩ | r
    ·refine .inl ⟨fun l z h0 h1=>(q l (by simp only at z; omega) h0 h1).keep gd ?_,by simp only; omega⟩
     rw [ec]; exact Vw.dC _ _ (by simp only at z; omega)
    ·exact .inr (by unfold cX at r ⊢; simp only; omega)
  ·obtain ⟨q1,q2⟩:=xI L lV (x:=(x.find.spot x.level).cur) x.ref (by rw [← hv]; exact c)
   rw [← hh] at q1
   rw [ax]
   unfold ak.l3
   simp only [q1,Bool.false_eq_true,if_false]
   unfold ak.anew IB
   have zL:=zM hs h'
   refine .inr (.inr (.inr (.inr (.inr (.inr (.inr (.inr (.inr (.inr ⟨rfl,.inl ⟨PP t g',FG.fresh h' hs,?_⟩⟩)))))))))
   rcases b' with ⟨q,r⟩ | r
   ·exfalso
    have:=(q x.level (by omega) aQ.1 (by omega)).2
    exact c this
   ·unfold cX at r; simp only; omega
 ·-- a load
  have b':(VF t g x x.level∧3*(x.hi - x.level)+c9 t≤N∨3*(x.hi - x.level)+cX t x≤N):=sD 4 e _ (by refine ⟨?_,?_,?_,fun _ h=>h,?_,?_,?_,?_,?_,?_,?_⟩<;>(intro q; omega))
  have lv:=aQ.2.2.1 (by omega)
  have lV:dg t x.i (4+x.level):=oS aQ.1 (by omega) (.inr ⟨i0.1,i0.2.1⟩)
  have hn:aX t x.i x.level=aB t x.i (4+x.level):=jI hs aQ.1 (by omega) _
  obtain ⟨q1,q2⟩:=nH L lV
  rw [← hv] at q1 q2
  have ax:x.step t s=({ x with by_:=x.ref,w:=g.c x.i (4+x.level),line:=if Mk (g.c x.i (4+x.level)) then 9 else if g.c x.i (4+x.level)=(x.find.spot x.level).cur then 6 else 5 },s.load (aB t x.i (4+x.level))):=by
   unfold ak.step
   simp only [e]
   unfold ak.l4
   rw [hn,q1]
   rfl
  have ec:g'.c=g.c:=by rw [hc,ax]; exact q2
  have vk:∀ {l sp},lU t g l sp→lU t g' l sp:=fun V=>V.keep gd (by rw [ec])
  rw [ax]
  by_cases c:Mk (g.c x.i (4+x.level))
  ·simp only [if_pos c]
   unfold IB
   refine .inr (.inr (.inl ⟨rfl,?_⟩))
   rcases b' with ⟨q,r⟩ | r
   ·omega
   ·unfold cX at r; omega
  ·simp only [if_neg c]
   by_cases c2:g.c x.i (4+x.level)=(x.find.spot x.level).cur
   ·simp only [if_pos c2]
    unfold IB
    refine .inr (.inr (.inr (.inr (.inr (.inl ⟨rfl,?_⟩)))))
    rcases b' with ⟨q,r⟩ | r
    ·exact .inl ⟨fun l z h0 h1=>vk (q l z h0 h1),by simp only; omega⟩
    ·exact .inr (by unfold cX at r ⊢; simp only; omega)
   ·simp only [if_neg c2]
    unfold IB
    refine .inr (.inr (.inr (.inr (.inl ⟨rfl,?_⟩))))
    rcases b' with ⟨q,r⟩ | r
    ·exact .inl ⟨fun l z h0 h1=>vk (q l z h0 h1),by simp only; omega⟩
    ·exact .inr (by unfold cX at r ⊢; simp only; omega)
 ·-- it turns
  have ax:x.step t s=x.l5 t s:=by unfold ak.step; simp [e]
  have b':(VF t g x x.level∧3*(x.hi - x.level) - 1+c9 t≤N∨3*(x.hi - x.level) - 1+cX t x≤N):=sD 5 e _ (by refine ⟨?_,?_,?_,?_,fun _ h=>h,?_,?_,?_,?_,?_,?_⟩<;>(intro q; omega))
  have lv:=aQ.2.2.1 (by omega)
  have lV:dg t x.i (4+x.level):=oS aQ.1 (by omega) (.inr ⟨i0.1,i0.2.1⟩)
  have hn:aX t x.i x.level=aB t x.i (4+x.level):=jI hs aQ.1 (by omega) _
  have nb:=k.pZ (by omega)
  by_cases c:g.c x.i (4+x.level)=x.w
  ·obtain ⟨q1,q2⟩:=xH L lV (x:=x.w) (x.find.spot x.level).cur (by rw [← hv]; exact c)
   rw [← hv] at q2
   have ec:g'.c=g.c.set x.i (4+x.level) (x.find.spot x.level).cur:=by rw [hc,ax]; simp only [ak.l5]; rw [hn,q2]
   rw [ax]
   unfold ak.l5
   simp only [hn,q1,if_true]
   unfold IB
   refine .inr (.inr (.inr (.inr (.inr (.inl ⟨rfl,?_⟩)))))
   rcases b' with ⟨q,r⟩ | r
   ·refine .inl ⟨fun l z h0 h1=>(q l z h0 h1).keep gd ?_,by simp only; omega⟩
    rw [ec]
    refine Vw.mM _ _ ?_
    intro e''
    have e':(x.find.spot l).pred=x.i:=e''
    rcases (q l z h0 h1).1.on with o | o
    ·have o':(x.find.spot l).pred= -1:=o
     omega
    ·have o':g.born l (x.find.spot l).pred:=o
     rw [e'] at o'
     exact nb (h.dn _ _ _ o' aQ.1 z)
   ·exact .inr (by unfold cX at r ⊢; simp only; omega)
  ·obtain ⟨q1,q2⟩:=xI L lV (x:=x.w) (x.find.spot x.level).cur (by rw [← hv]; exact c)
   rw [ax]
   unfold ak.l5
   simp only [hn,q1,Bool.false_eq_true,if_false]
   unfold IB
   refine .inr (.inr (.inl ⟨rfl,?_⟩))
   rcases b' with ⟨q,r⟩ | r
   ·omega
   ·unfold cX at r; omega
 ·-- a level more
  have ax:x.step t s=x.l6 t s:=by unfold ak.step; simp [e]
  have b':(VF t g x x.level∧3*(x.hi - x.level) - 2+c9 t≤N∨3*(x.hi - x.level) - 2+cX t x≤N):=sD 6 e _ (by refine ⟨?_,?_,?_,?_,?_,fun _ h=>h,?_,?_,?_,?_,?_⟩<;>(intro q; omega))
  have lv:=aQ.2.2.1 (by omega)
  have lv1:=aQ.2.2.2.2 (by omega)
  have n9:=k.f9 (by omega)
  have T:=fi.told x.level (.inl n9) aQ.1 (by omega)
  have lV:=T.1.dg h aQ.1 (by omega)
  have hn:aX t (x.find.spot x.level).pred x.level=aB t (x.find.spot x.level).pred (4+x.level):=jI hs aQ.1 (by omega) _
  have hh:x.iM t s=s.bT (aB t (x.find.spot x.level).pred (4+x.level)) (x.find.spot x.level).cur x.ref:=by unfold ak.iM; rw [hn]
  by_cases c:g.c (x.find.spot x.level).pred (4+x.level)=(x.find.spot x.level).cur
  ·obtain ⟨q1,q2⟩:=xH L lV (x:=(x.find.spot x.level).cur) x.ref (by rw [← hv]; exact c)
   rw [← hh,← hv] at q2
   rw [← hh] at q1
   have ec:g'.c=g.c.set (x.find.spot x.level).pred (4+x.level) x.ref:=by rw [hc,ax]; exact q2
   rw [ax]
   unfold ak.l6
   simp only [q1,if_true]
   unfold ak.up
   by_cases c2:x.hi≤x.level+1
   ·simp only [if_pos c2]
    unfold IB
    refine .inr (.inr (.inl ⟨rfl,?_⟩))
    rcases b' with ⟨q,r⟩ | r
    ·omega
    ·unfold cX at r; omega
   ·simp only [if_neg c2]
    unfold IB
    refine .inr (.inr (.inr (.inl ⟨rfl,?_⟩)))
    rcases b' with ⟨q,r⟩ | r
    ·refine .inl ⟨fun l z h0 h1=>(q l (by simp only at z; omega) h0 h1).keep gd ?_,by simp only; omega⟩
     rw [ec]; exact Vw.dC _ _ (by simp only at z; omega)
    ·exact .inr (by unfold cX at r ⊢; simp only; omega)
  ·obtain ⟨q1,q2⟩:=xI L lV (x:=(x.find.spot x.level).cur) x.ref (by rw [← hv]; exact c)
   rw [← hh] at q1
   rw [ax]
   unfold ak.l6
   simp only [q1,Bool.false_eq_true,if_false]
   unfold ak.anew IB
   have zL:=zM hs h'
   refine .inr (.inr (.inr (.inr (.inr (.inr (.inl ⟨rfl,.inl ⟨PP t g',FG.fresh h' hs,?_⟩⟩))))))
   rcases b' with ⟨q,r⟩ | r
   ·exfalso
    exact c (q x.level (Int.le_refl _) aQ.1 lv).2
   ·unfold cX at r; simp only; omega
 ·-- its search again
  have ax:x.step t s=x.dB t s 7 8:=by unfold ak.step; simp [e]
  have eZ:=B9 (.inr (.inl e))
  have b':((∃ M,FG t g x.find M∧M+1+3*(x.hi - x.level)+c9 t≤N)∨∃ M,FB t g x.find M∧M+1+3*(x.hi - x.level)+cX t x≤N):=sD 7 e _ (by refine ⟨?_,?_,?_,?_,?_,?_,fun _ h=>h,?_,?_,?_,?_⟩<;>(intro q; omega))
  have n9:=k.n9 (.inr (.inl e))
  rw [ax]
  unfold ak.dB
  by_cases h9:(x.find.step t s).1.line=9
  ·simp only [h9,if_true]
   unfold IB
   refine .inr (.inr (.inr (.inr (.inr (.inr (.inr (.inl ⟨rfl,?_⟩)))))))
   rcases b' with ⟨M,q,r⟩ | ⟨M,q,r⟩
   ·have:=q.pos h fi n9
    have V:=(E7 L h hv fi (by omega) n9 q).1
    rw [← eZ] at V
    exact .inl ⟨fun l _ h0 h1=>V l (.inl h9) h0 (Int.lt_of_lt_of_le h1 i0.2.2.2),by simp only; omega⟩
   ·have:=q.pos h fi n9
    exact .inr (by unfold cX at r ⊢; simp only; omega)
  ·simp only [h9,if_false]
   unfold IB
   refine .inr (.inr (.inr (.inr (.inr (.inr (.inl ⟨rfl,?_⟩))))))
   rcases b' with ⟨M,q,r⟩ | ⟨M,q,r⟩
   ·have V:=(E7 L h hv fi (by omega) n9 q).2.resolve_left h9
    rw [← eZ] at V
    exact .inl ⟨M - 1,V,by simp only; omega⟩
   ·have V:=(Kp L h hv hk fi (by omega) n9 q).resolve_left h9
    rw [← eZ] at V
    exact .inr ⟨M - 1,V,by unfold cX at r ⊢; simp only; omega⟩
 ·-- a look
  have b':(VF t g x x.level∧1+3*(x.hi - x.level)+c9 t≤N∨1+3*(x.hi - x.level)+cX t x≤N):=sD 8 e _ (by refine ⟨?_,?_,?_,?_,?_,?_,?_,fun _ h=>h,?_,?_,?_⟩<;>(intro q; omega))
  have lv:=aQ.2.2.1 (by omega)
  have lV:dg t x.i (4+0):=oS (by omega) (by omega) (.inr ⟨i0.1,i0.2.1⟩)
  have hn:aX t x.i 0=aB t x.i (4+0):=jI hs (by omega) (by omega) _
  obtain ⟨q1,q2⟩:=nH L lV
  rw [← hv] at q1 q2
  have ax:x.step t s=(if Mk (g.c x.i (4+0)) then ({ x with by_:=x.ref }:ak).anew t 10 else { x with by_:=x.ref,line:=4 },s.load (aB t x.i (4+0))):=by
   unfold ak.step
   simp only [e]
   unfold ak.l89
   rw [hn,q1]
   rfl
  have ec:g'.c=g.c:=by rw [hc,ax]; exact q2
  have vk:∀ {l sp},lU t g l sp→lU t g' l sp:=fun V=>V.keep gd (by rw [ec])
  have zL:=zM hs h'
  rw [ax]
  by_cases c:Mk (g.c x.i (4+0))
  ·rw [if_pos c]
   unfold ak.anew IB
   refine .inr (.inl ⟨rfl,PP t g',(FG.fresh h' hs).fb,?_⟩)
   rcases b' with ⟨q,r⟩ | r
   ·omega
   ·unfold cX at r; omega
  ·rw [if_neg c]
   unfold IB
   refine .inr (.inr (.inr (.inl ⟨rfl,?_⟩)))
   rcases b' with ⟨q,r⟩ | r
   ·exact .inl ⟨fun l z h0 h1=>vk (q l z h0 h1),by simp only; omega⟩
   ·exact .inr (by unfold cX at r ⊢; simp only; omega)
 ·-- it asks
  have b':c9 t≤N:=sD 9 e _ (by refine ⟨?_,?_,fun _ h=>h,?_,?_,?_,?_,?_,?_,?_,?_⟩<;>(intro q; omega))
  have lV:dg t x.i (4+0):=oS (by omega) (by omega) (.inr ⟨i0.1,i0.2.1⟩)
  have hn:aX t x.i 0=aB t x.i (4+0):=jI hs (by omega) (by omega) _
  obtain ⟨q1,q2⟩:=nH L lV
  rw [← hv] at q1 q2
  have ax:x.step t s=(if Mk (g.c x.i (4+0)) then ({ x with by_:=x.ref }:ak).anew t 10 else { x with by_:=x.ref,line:=11 },s.load (aB t x.i (4+0))):=by
   unfold ak.step
   simp only [e]
   unfold ak.l89
   rw [hn,q1]
   rfl
  have zL:=zM hs h'
  rw [ax]
  by_cases c:Mk (g.c x.i (4+0))
  ·rw [if_pos c]
   unfold ak.anew IB
   exact .inr (.inl ⟨rfl,PP t g',(FG.fresh h' hs).fb,by omega⟩)
  ·rw [if_neg c]
   unfold IB
   exact .inl ⟨rfl,by omega⟩
 ·-- it apV
  have ax:x.step t s=x.dB t s 10 11:=by unfold ak.step; simp [e]
  have b':∃ M,FB t g x.find M∧M+6≤N:=sD 10 e _ (by refine ⟨?_,fun _ h=>h,?_,?_,?_,?_,?_,?_,?_,?_,?_⟩<;>(intro q; omega))
  obtain ⟨M,q,r⟩:=b'
  have n9:=k.n9 (.inr (.inr e))
  have hf:=B9
  rw [ax] at hf ⊢
  unfold ak.dB at hf ⊢
  by_cases h9:(x.find.step t s).1.line=9
  ·simp only [h9,if_true]
   unfold IB
   have:=q.pos h fi n9
   exact .inl ⟨rfl,by omega⟩
  ·simp only [h9,if_false] at hf ⊢
   have eZ:=hf (by simp [e])
   have V:=(Kp L h hv hk fi (by omega) n9 q).resolve_left h9
   rw [← eZ] at V
   unfold IB
   exact .inr (.inl ⟨rfl,M - 1,V,by omega⟩)
end
theorem SU (ae:FuncId→Bool) (a b:Int) (G:GS):(E ae).cl 70 [.int .u64 a,.int .u64 b] G=some (.int .i64 (zr a b),G):=by
 have n:∀ (x:Int) (G:GS),(E ae).cl 103 [.int .u64 x] G=some (.bool false,G):=fun x G=>f103 (ai Q ae) _ G _ (by simp [s103])
 refine f70 (ai Q ae) _ _ G _ ?_
 unfold zr
 by_cases h1:a<b
 ·simp [s70,n,h1]
 ·by_cases h2:b<a<;>simp [s70,n,h1,h2]
theorem ac4 (ae:FuncId→Bool) {L:List Int} {v:Value}:∀ (k i:Nat) (τ:Env) (G:GS),i+k=L.length→τ 0=v→τ 1= .func (.func 70) #[] #[]→τ 8=v→τ 9= .int .i64 L.length→τ 10= .int .i64 i→τ 5= .int .i64 (gr L i) →
  bI (bK .u64) G v L→L.length<2 ^ 40→Wp ((bA Q ae).du 69 0 τ G) fun r=>r.1= .exit 0∧Ext G r.2.2∧r.2.1 5= .int .i64 (gr L L.length):=by
 intro k
 induction k with
 | zero =>
  intro i τ G hi h0 h1 h8 h9 h10 h5 hv aJ
  have bw:i=L.length:=by omega
  refine Wp.lp (PT (ai Q ae)) ?_
  simp [Bu,ao,h0,h1,h8,h9,h10,h5,bw,Ext.refl]
 | succ k ih =>
  intro i τ G hi h0 h1 h8 h9 h10 h5 hv aJ
  refine Wp.lp (PT (ai Q ae)) ?_
  have Ch:i<L.length:=by omega
  obtain ⟨b,o,c,e0,_,q0,_⟩:=hv.at Ch
  have hc:=q0 0 (by decide)
  simp [bK] at hc
  obtain ⟨g1,g2,g3⟩:=tZ L i
  have hw:IntKind.wrap .i64 ((i:Int)+1)=((i+1:Nat):Int):=wrap64 (by omega) (by omega)
  have ki:(0:Int)≤i:=by omega
  have hgi:L.getD i 0=L[i]:=by simp [Ch]
  by_cases hg:gr L i<0
  ·have hn:gr L (i+1)=i:=by unfold gr; rw [if_pos (.inl hg)]
   simp [-Int.natCast_add,Bu,ao,h0,h1,h8,h9,h10,h5,e0,hc,hw,Ch,ki,hg]
   refine ih (i+1) _ G (by omega) (by simp [ao,e0]) (by simp [ao]) (by simp [ao,e0]) (by simp [ao]) (by simp [ao]) (by simp [ao,hn]) hv aJ
  ·obtain ⟨m,hm⟩:∃ m:Nat,gr L i=m:=⟨(gr L i).toNat,by omega⟩
   have uu:m<L.length:=by omega
   obtain ⟨b',o',c',Kq,_,q1,_⟩:=hv.at uu
   rw [e0] at Kq
   simp only [Value.slice.injEq,Option.some.injEq,Addr.mk.injEq,and_true,true_and] at Kq
   obtain ⟨⟨rfl,rfl⟩,rfl⟩:=Kq
   have kJ:=q1 0 (by decide)
   simp [bK] at kJ
   have Kr:L.getD m 0=L[m]:=by simp [uu]
   have mg:¬ ((m:Int)<0):=by omega
   have sW:(0:Int)≤m:=by omega
   rw [hm] at h5
   have hn:gr L (i+1)=if L[m]<L[i] then (i:Int) else m:=by
    rw [gr,hm,Int.toNat_natCast,Kr,hgi]
    simp [mg]
   by_cases vF:L[m]<L[i]
   ·have AO:(0:Int)<zr L[i] L[m]:=by unfold zr; rw [if_neg (by omega),if_pos vF]; decide
    rw [if_pos vF] at hn
    simp [-Int.natCast_add,Bu,ao,h0,h1,h8,h9,h10,h5,e0,hc,kJ,hw,Ch,ki,mg,sW,uu,SU,AO]
    refine ih (i+1) _ G (by omega) (by simp [ao,e0]) (by simp [ao]) (by simp [ao,e0]) (by simp [ao]) (by simp [ao]) (by simp [ao,hn]) hv aJ
   ·have AO:¬ (0:Int)<zr L[i] L[m]:=by unfold zr; rw [if_neg vF]; split<;>decide
    rw [if_neg vF] at hn
    simp [-Int.natCast_add,Bu,ao,h0,h1,h8,h9,h10,h5,e0,hc,kJ,hw,Ch,ki,mg,sW,uu,SU,AO]
    refine ih (i+1) _ G (by omega) (by simp [ao,e0]) (by simp [ao]) (by simp [ao,e0]) (by simp [ao]) (by simp [ao]) (by simp [ao,hn]) hv aJ
theorem ac5 (ae:FuncId→Bool) {L:List Int} {v:Value} {G:GS} (hv:bI (bK .u64) G v L) (aJ:L.length<2 ^ 40) :
  ∃ G',(E ae).cl 69 [v,.func (.func 70) #[] #[]] G=some (.int .i64 (gr L L.length),G')∧Ext G G':=by
 have w:Wp (s69 true (bA Q ae) v (.func (.func 70) #[] #[]) G) fun r=>r.1= .int .i64 (gr L L.length)∧Ext G r.2:=by
  obtain ⟨a,c,ha⟩:=hv.len
  have l0:∀ t,ln Q true t v=some (.int .i64 L.length):=fun t=>by rw [ha]; simp
  simp [s69,l0]
  refine Wp.bE ((ac4 ae L.length 0 _ G (by omega) (by simp [ao]) (by simp [ao]) (by simp [ao]) (by simp [ao]) (by simp [ao]) (by simp [ao,gr]) hv aJ).mono ?_)
  rintro ⟨e,τ,G'⟩ ⟨rfl,x,y⟩
  simp only at x y
  simp [y,x]
 obtain ⟨⟨v',G'⟩,e1,rfl,e3⟩:=w
 exact ⟨G',f69 (ai Q ae) _ _ G _ e1,e3⟩
theorem ac6 (ae:FuncId→Bool) {L:List Int} {v:Value} {key:Int} {G:GS} (hv:bI (bK .u64) G v L) (aJ:L.length<2 ^ 40) :
  ∃ G',(E ae).cl 31 [v,.int .u64 key] G=some (ua L key,G')∧Ext G G':=by
 have w:Wp (s31 true (bA Q ae) v (.int .u64 key) G) fun r=>r.1=ua L key∧Ext G r.2:=by
  obtain ⟨g1,g2,g3⟩:=tZ L L.length
  unfold s31
  refine Wp.step (ac5 ae hv aJ) fun G1 x1=>?_
  by_cases hg:gr L L.length<0
  ·have:ua L key= .tuple #[.int .i64 (-1),.bool false]:=by simp [ua,jD,hg]
   rw [this]
   simp [hg,x1]
  ·obtain ⟨m,hm⟩:∃ m:Nat,gr L L.length=m:=⟨(gr L L.length).toNat,by omega⟩
   have uu:m<L.length:=by omega
   obtain ⟨b,o,c,e0,_,q1,_⟩:=(hv.ext x1).at uu
   have kJ:=q1 0 (by decide)
   simp [bK] at kJ
   have mg:¬ ((m:Int)<0):=by omega
   have sW:(0:Int)≤m:=by omega
   have Kr:L.getD m 0=L[m]:=by simp [uu]
   have hW:ua L key=if L[m]≤key then .tuple #[.int .i64 (-1),.bool false] else .tuple #[.int .i64 m,.bool true]:=by
    unfold ua jD
    simp only [hm,Int.toNat_natCast,Kr,mg,false_or]
    by_cases h:L[m]≤key<;>simp [h]
   rw [hm,hW]
   by_cases h:L[m]≤key
   ·simp [mg,sW,uu,e0,kJ,h,x1]
   ·simp [mg,sW,uu,e0,kJ,h,x1]
 obtain ⟨⟨v',G'⟩,e1,rfl,e3⟩:=w
 exact ⟨G',f31 (ai Q ae) _ _ G _ e1,e3⟩
structure dV (own:Nat→Nat) (t:Nat) (G:GS) (v:Value) (L:List Int):Prop where
 ow:cj (bK .u64) 0 G v L
 tag:∀ g,cY v g→own g=t
abbrev cK (r:dU) (at_ left:Int) (look:Value) (key:Int) (wv:Value) (jD flag by_:Int) (dn:Bool) (er:Int):aR:=⟨[.int .i64 at_,.int .i64 left,.int .i64 r.runs,.int .i64 r.flags,.int .i64 r.bc,look,.int .u64 key,wv,.int .i64 jD,.int .i64 flag,.int .u64 by_,.bool true,.bool dn,.int .i64 er],1,false,1⟩
section
variable {own own' own0 ah aG:Nat→Nat} {tb tag tg m b lb q:Nat} {t:TW} {w:dU} {c:Int} {G G' G1 G2:GS} {s s' s1:MS} {x:bg} {v:Value} {L:List Int}
theorem dV.lt (h:dV own tb G v L) {g:Nat} (hg:cY v g):g<G.nx:=h.ow.is.under g hg
theorem dV.nil (own:Nat→Nat) (t:Nat) (G:GS):dV own t G (.slice none 0 0) []:=⟨cj.nil _ _,fun g ⟨a,n,c,he,_⟩=>by cases he⟩
theorem dV.to (h:dV own tb G v L) (hn:G.nx≤G1.nx) (hk:∀ g,cY v g→G1.obj g=G.obj g) (ha:bW own ah G):dV ah tb G1 v L :=
 ⟨h.ow.kept hn hk,fun g hg=>(ha g (h.lt hg)).trans (h.tag g hg)⟩
theorem dV.bC (h:dV own tb G v L) (nb:¬ cY v b) (o:aR):dV own tb (G.put b o) v L :=
 h.to (Nat.le_refl _) (fun g hg=>by rw [aT,if_neg (fun (e:g=b)=>nb (by rw [← e]; exact hg))]) (bW.refl _ _)
abbrev p8 (own:Nat→Nat) (t u v:Nat):Nat→Prop:=fun x=>own x=t∨own x=u∨own x=v
def qa (own:Nat→Nat) (tb tag tg:Nat) (t:TW) (w:dU) (c:Int) (G:GS) (b:Nat) (x:bg):Prop :=
 At own tb G b ∧
 ((x.line=0∧∃ lb,G.obj b=some (cK w w.runs w.bc (P0 lb) 0 (.slice none 0 0) (-1) (-1) x.by_ false 0)∧nD own tag tg t c G lb x.look) ∨
  (x.line=1∧∃ v,G.obj b=some (cK w (IntKind.wrap .i64 (w.runs+x.words.length)) (w.bc - x.words.length) (.pointer none) x.key v (-1) (-1) x.by_ false 0)∧dV own tb G v x.words∧¬ cY v b) ∨
  (x.line=2∧∃ a k v,G.obj b=some (cK w a 0 (.pointer none) k v x.flag (-1) x.by_ false 0)∧dV own tb G v x.words) ∨
  (x.line=9∧∃ a l w' lk k v g wr,one lk=true∧one v=true∧G.obj b=some (cK w' a l lk k v g wr 0 true x.err)∧wr=x.flag))
theorem qa.to (h:qa own tb tag tg t w c G b x) (hn:G.nx≤G'.nx) (hk:∀ g,g<G.nx→own g=tb∨own g=tag∨own g=tg→G'.obj g=G.obj g) (a:bW own own' G):qa own' tb tag tg t w c G' b x:=by
 obtain ⟨hb,h⟩:=h
 have kb:=hk b hb.lt (.inl hb.tag)
 refine ⟨hb.to hn a,?_⟩
 rcases h with ⟨e,lb,h1,h2⟩ | ⟨e,v,h1,h2,h3⟩ | ⟨e,a',k,v,h1,h2⟩ | ⟨e,a',l,w',lk,k,v,g,wr,h1,h2,h3,h4⟩
 ·exact .inl ⟨e,lb,kb.trans h1,h2.to hn (fun g hg e=>hk g hg (.inr e)) a⟩
 ·exact .inr (.inl ⟨e,v,kb.trans h1,h2.to hn (fun g hg=>hk g (h2.lt hg) (.inl (h2.tag g hg))) a,h3⟩)
 ·exact .inr (.inr (.inl ⟨e,a',k,v,kb.trans h1,h2.to hn (fun g hg=>hk g (h2.lt hg) (.inl (h2.tag g hg))) a⟩))
 ·exact .inr (.inr (.inr ⟨e,a',l,w',lk,k,v,g,wr,h1,h2,kb.trans h3,h4⟩))
theorem ac7 (ae:FuncId→Bool) (hl:x.line=0∨x.line=1∨x.line=2∨x.line=9) (h:qa own tb tag tg t w c G b x):(E ae).cl 17 [P0 b] G=some (.int .i64 (if x.line=9 then x.err else 14),G):=by
 obtain ⟨hb,h⟩:=h
 refine f17 (ai Q ae) _ G _ ?_
 rcases h with ⟨e,lb,h1,h2⟩ | ⟨e,v,h1,h2,h3⟩ | ⟨e,a',k,v,h1,h2⟩ | ⟨e,a',l,w',lk,k,v,g,wr,h1,h2,h3,h4⟩
 ·simp [s17,h1,e]
 ·simp [s17,h1,e]
 ·simp [s17,h1,e]
 ·simp [s17,h3,e]
theorem ac8 (ae:FuncId→Bool) (h:qa own tb tag tg t w c G b x):(E ae).cl 18 [P0 b] G=some (.int .i64 (if x.line=9 then x.flag else -1),G):=by
 obtain ⟨hb,h⟩:=h
 refine f18 (ai Q ae) _ G _ ?_
 rcases h with ⟨e,lb,h1,h2⟩ | ⟨e,v,h1,h2,h3⟩ | ⟨e,a',k,v,h1,h2⟩ | ⟨e,a',l,w',lk,k,v,g,wr,h1,h2,h3,h4⟩
 ·simp [s18,h1,e]
 ·simp [s18,h1,e]
 ·simp [s18,h1,e]
 ·simp [s18,h3,e,h4]
theorem E8 (ae:FuncId→Bool) {a l k wr fl by_ er er':Int} {lk v:Value} {dn:Bool} (ho:G.obj b=some (cK w a l lk k v wr fl by_ dn er)) (h1:one lk=true) (h2:one v=true) :
  (E ae).cl 46 [P0 b,.int .i64 er'] G=some (.tuple #[],(G.put b (cK w a l lk k v wr fl by_ true er)).put b (cK w a l lk k v wr fl by_ true er')):=by
 refine f46 (ai Q ae) _ _ G _ ?_
 simp [s46,ho]
end
theorem Ci (G:GS) (n:Nat) (o:aR):((G.aI n).push o).back G=G.put n o:=rfl
section
variable {own own' own0 ah aG:Nat→Nat} {tb tag tg m b lb q:Nat} {t:TW} {w:dU} {c:Int} {G G' G1 G2:GS} {s s' s1:MS} {x:bg} {v:Value} {L:List Int}
theorem ac9 {n:Nat} (hw:w.qR) (hn:(n:Int)≤64):IntKind.wrap .i64 (w.runs+n)=w.runs+n∧IntKind.wrap .i64 (w.runs+n+1)=w.runs+n+1:=by
 obtain ⟨h1,h2,h3,h4,-,-⟩:=hw
 exact ⟨wrap64 (by omega) (by omega),wrap64 (by omega) (by omega)⟩
theorem ada (ae:FuncId→Bool) (bD:ae 187=false) (hs:t.sound) (cR:t.fA) (hc:0≤c∧c<t.u11) (hw:w.qR) (h:PM own G m s) (hm:s.ok) (hx:x.look.ok t) (hk:x.kp) (jQ:x.line=0)
  (h1:tb≠10) (h2:tag≠10) (h3:tg≠10) (d1:tb≠tag) (d2:tb≠tg) (d3:tag≠tg) (hb:At own tb G b) (ho:G.obj b=some (cK w w.runs w.bc (P0 lb) 0 (.slice none 0 0) (-1) (-1) 0 false 0)) (hL:nD own tag tg t c G lb x.look) :
  ∃ ah G1,(E ae).cl 47 [P0 b,P0 m] G=some (.tuple #[],G1)∧PW (p8 own tb tag tg) own G ah G1 m (x.l0 t c s).2∧qa ah tb tag tg t w c G1 b (x.l0 t c s).1:=by
 obtain ⟨k1,k2,k3⟩:=hk.l0 jQ
 obtain ⟨ah,G1,e1,w1,l1⟩:=ab1 ae bD hs cR hc h hm hx k1 h2 h3 d3 hL
 have rC:(x.look.step t c s).1.line=9→(x.look.step t c s).1.by_=0:=fun k=>(bY.ends k1 k).2
 unfold bg.l0
 simp only
 generalize (x.look.step t c s).2=s' at *
 generalize (x.look.step t c s).1=y at *
 have dq:=(w1.RX hb.lt (by rw [hb.tag]; exact h1) (by rw [hb.tag]; exact d1) (by rw [hb.tag]; exact d2)).trans ho
 have bM:=hb.to w1.nx w1.aO.cd
 have eQ:PW (p8 own tb tag tg) own G ah G1 m s':=w1.mono fun _ _ k=>.inr k
 have e2:=abW ae l1
 obtain ⟨G2,aD⟩:∃ G2,G2=G1.put b (cK w w.runs w.bc (P0 lb) 0 (.slice none 0 0) (-1) (-1) y.by_ false 0):=⟨_,rfl⟩
 have w2:PW (p8 own tb tag tg) own G ah G2 m s':=by rw [aD]; exact eQ.put (.inl (.inl hb.tag)) (fun _=>by rw [bM.tag]; exact h1) _
 have o2:G2.obj b=some (cK w w.runs w.bc (P0 lb) 0 (.slice none 0 0) (-1) (-1) y.by_ false 0):=by rw [aD]; simp
 have dy:At ah tb G2 b:=by rw [aD]; exact bM.bC _ _
 have l2:nD ah tag tg t c G2 lb y:=l1.to (by rw [aD]; exact Nat.le_refl _) (fun g _ k=>by rw [aD,aT,if_neg]; rintro rfl; rcases k with k | k; exact d1 (bM.tag.symm.trans k); exact d2 (bM.tag.symm.trans k)) (bW.refl _ _)
 by_cases hl:y.line=9
 ·simp only [hl,decide_true,if_true] at e1 ⊢
  have F0:=rC hl
  obtain ⟨G3,e3,x3⟩:=ab3 ae l2 hl
  have hz:z71=[.int .u64 0,.int .i64 0]:=rfl
  obtain ⟨G4,bR⟩:∃ G4,G4=((G3.push ⟨z71,1,false,1⟩).put G3.nx ⟨[.int .u64 y.cW.ik,.int .i64 y.cW.ij],1,false,1⟩).room 10:=⟨_,rfl⟩
  have x4:Ext G3 G4:=by rw [bR]; exact (Ey _ _).room 10
  have p4:G4.obj G3.nx=some ⟨[.int .u64 y.cW.ik,.int .i64 y.cW.ij],1,false,1⟩:=by rw [bR]; simp
  have x34:=x3.trans x4
  have w4:=w2.de x34 tb
  have iy:=dy.gO x34 tb
  have o4:=(x34.obj b dy.lt).trans o2
  have iu:¬ G3.nx=b:=by have:=dy.lt; have:=x3.nx; omega
  have Ks:¬ b=G3.nx:=fun k=>iu k.symm
  generalize grown ah G2 tb=eU at *
  obtain ⟨G5,dE⟩:∃ G5,G5=(G4.put b (cK w w.runs w.bc (.pointer none) 0 (.slice none 0 0) (-1) (-1) y.by_ false 0)).put b (cK w w.runs w.bc (.pointer none) y.cW.ik (.slice none 0 0) (-1) (-1) y.by_ false 0):=⟨_,rfl⟩
  have w5:PW (p8 own tb tag tg) own G eU G5 m s':=by rw [dE]; exact (w4.put (.inl (.inl hb.tag)) (fun _=>by rw [iy.tag]; exact h1) _).put (.inl (.inl hb.tag)) (fun _=>by rw [iy.tag]; exact h1) _
  have o5:G5.obj b=some (cK w w.runs w.bc (.pointer none) y.cW.ik (.slice none 0 0) (-1) (-1) y.by_ false 0):=by rw [dE]; simp
  have sE:At eU tb G5 b:=by rw [dE]; exact (iy.bC _ _).bC _ _
  unfold bg.seen
  simp only
  have o3:=(x3.obj b dy.lt).trans o2
  unfold gA at e3
  by_cases c0:y.cW.ie=0
  ·rw [if_pos c0,if_pos (.inl c0)]
   refine ⟨eU,G5,f47 (ai Q ae) _ _ G _ ?_,w5,sE,.inr (.inl ⟨rfl,.slice none 0 0,?_,by simp only [k3]; exact dV.nil _ _ _,fun ⟨a,n,c',k,_⟩=>by cases k⟩)⟩
   ·simp [s47,ho,e1,dq,e2,← aD,o2,e3,hz,bQ,bO]
    rw [hz] at bR
    rw [← bR]
    simp [p4,o4,o3,iu,Ks,br,same,cm,c0,← dE]
   ·have:=(ac9 (n:=0) hw (by decide)).1
    simp only [k3,List.length_nil]
    rw [this]
    simpa using o5
  ·rw [if_neg c0]
   by_cases c15:y.cW.ie=15
   ·rw [if_pos (.inr c15)]
    have e5:=E8 ae (er':=0) o5 rfl rfl
    refine ⟨eU,(G5.put b (cK w w.runs w.bc (.pointer none) y.cW.ik (.slice none 0 0) (-1) (-1) y.by_ true 0)).put b (cK w w.runs w.bc (.pointer none) y.cW.ik (.slice none 0 0) (-1) (-1) y.by_ true 0),f47 (ai Q ae) _ _ G _ ?_,(w5.put (.inl (.inl hb.tag)) (fun _=>by rw [sE.tag]; exact h1) _).put (.inl (.inl hb.tag)) (fun _=>by rw [sE.tag]; exact h1) _,(sE.bC _ _).bC _ _,.inr (.inr (.inr ⟨rfl,w.runs,w.bc,w,.pointer none,y.cW.ik,.slice none 0 0,-1,-1,rfl,rfl,by simp [F0],by simp only [k2]⟩))⟩
    simp [s47,ho,e1,dq,e2,← aD,o2,e3,hz,bQ,bO]
    rw [hz] at bR
    rw [← bR]
    simp [p4,o4,o3,iu,Ks,br,same,cm,c15,← dE,e5]
   ·rw [if_neg (by rintro (k | k); exact c0 k; exact c15 k)]
    have e5:=E8 ae (er':=y.cW.ie) o5 rfl rfl
    refine ⟨eU,(G5.put b (cK w w.runs w.bc (.pointer none) y.cW.ik (.slice none 0 0) (-1) (-1) y.by_ true 0)).put b (cK w w.runs w.bc (.pointer none) y.cW.ik (.slice none 0 0) (-1) (-1) y.by_ true y.cW.ie),f47 (ai Q ae) _ _ G _ ?_,(w5.put (.inl (.inl hb.tag)) (fun _=>by rw [sE.tag]; exact h1) _).put (.inl (.inl hb.tag)) (fun _=>by rw [sE.tag]; exact h1) _,(sE.bC _ _).bC _ _,.inr (.inr (.inr ⟨rfl,w.runs,w.bc,w,.pointer none,y.cW.ik,.slice none 0 0,-1,-1,rfl,rfl,by simp [F0],by simp only [k2]⟩))⟩
    simp [s47,ho,e1,dq,e2,← aD,o2,e3,hz,bQ,bO]
    rw [hz] at bR
    rw [← bR]
    simp [p4,o4,o3,iu,Ks,br,same,cm,c0,c15,← dE,e5]
 ·simp only [hl,decide_false,if_false] at e1 ⊢
  refine ⟨ah,G2,f47 (ai Q ae) _ _ G _ ?_,w2,dy,.inl ⟨jQ,lb,o2,l2⟩⟩
  simp [s47,ho,e1,dq,e2,← aD]
end
theorem adb (L:List Int) (key:Int):(jD L key=none∧ua L key= .tuple #[.int .i64 (-1),.bool false])∨∃ i,jD L key=some i∧ua L key= .tuple #[.int .i64 i,.bool true]:=by
 unfold ua
 cases h:jD L key with
 | none=>exact .inl ⟨rfl,rfl⟩
 | some i=>exact .inr ⟨i,rfl,rfl⟩
section
variable {own own' own0 ah aG:Nat→Nat} {tb tag tg m b lb q:Nat} {t:TW} {w:dU} {c:Int} {G G' G1 G2:GS} {s s' s1:MS} {x:bg} {v:Value} {L:List Int}
theorem ade (ae:FuncId→Bool) {a l k wr fl by_ er:Int} {lk wv:Value} {dn:Bool} (h1:one lk=true) (h2:one wv=true) (hl:l≠0) (ha:IntKind.wrap .i64 (a+1)=a+1) (ha':IntKind.wrap .i64 a=a) (su:IntKind.wrap .i64 (l - 1)=l - 1) (ho:G.obj b=some (cK w a l lk k wv wr fl by_ dn er)) :
  (E ae).cl 48 [P0 b] G=some (.tuple #[.int .i64 a,.bool true],(G.put b (cK w (a+1) l lk k wv wr fl by_ dn er)).put b (cK w (a+1) (l - 1) lk k wv wr fl by_ dn er)):=by
 have e:a+1 - 1=a:=by omega
 refine f48 (ai Q ae) _ G _ ?_
 simp [s48,ho,hl,ha,su,e,ha']
theorem adf (ae:FuncId→Bool) {a k wr fl by_ er:Int} {lk wv:Value} {dn:Bool} (ho:G.obj b=some (cK w a 0 lk k wv wr fl by_ dn er)) :
  (E ae).cl 48 [P0 b] G=some (.tuple #[.int .i64 0,.bool false],G):=by
 refine f48 (ai Q ae) _ G _ ?_
 simp [s48,ho]
theorem adg (ae:FuncId→Bool) (bD:ae 187=false) (hs:t.sound) (cR:t.fA) (hc:0≤c∧c<t.u11) (hw:w.qR) (h:PM own G m s) (hm:s.ok) (hx:x.ok t w) (hk:x.kp)
  (h1:tb≠10) (h2:tag≠10) (h3:tg≠10) (d1:tb≠tag) (d2:tb≠tg) (d3:tag≠tg) (hp:qa own tb tag tg t w c G b x) :
  ∃ ah G1,(E ae).cl 15 [P0 b,P0 m] G=some (.bool (decide ((x.step t w c s).1.line=9)),G1)∧PW (p8 own tb tag tg) own G ah G1 m (x.step t w c s).2∧qa ah tb tag tg t w c G1 b (x.step t w c s).1:=by
 obtain ⟨hb,hp⟩:=hp
 have fF:=hx.step (c:=c) hs cR hm
 rcases hp with ⟨e,lb,ho,hL⟩ | ⟨e,v,ho,hv,E9⟩ | ⟨e,a',k,v,ho,hv⟩ | ⟨e,a',l,w',lk,k,v,g,wr,EI,rD,ho,Kt⟩
 ·obtain ⟨G0,bl⟩:∃ G0,G0=G.put b (cK w w.runs w.bc (P0 lb) 0 (.slice none 0 0) (-1) (-1) 0 false 0):=⟨_,rfl⟩
  have w0:PW (p8 own tb tag tg) own G own G0 m s:=by rw [bl]; exact (PW.refl h).put (.inl (.inl hb.tag)) (fun _=>by rw [hb.tag]; exact h1) _
  have o0:G0.obj b=some (cK w w.runs w.bc (P0 lb) 0 (.slice none 0 0) (-1) (-1) 0 false 0):=by rw [bl]; simp
  have JM:nD own tag tg t c G0 lb x.look:=hL.to (by rw [bl]; exact Nat.le_refl _) (fun g _ k=>by rw [bl,aT,if_neg]; rintro rfl; rcases k with k | k; exact d1 (hb.tag.symm.trans k); exact d2 (hb.tag.symm.trans k)) (bW.refl _ _)
  have ax:x.step t w c s=x.l0 t c s:=by unfold bg.step; rw [if_pos e]
  rw [ax] at fF ⊢
  obtain ⟨ah,G1,e1,w1,p1⟩:=ada ae bD hs cR hc hw w0.pm hm hx.look hk e h1 h2 h3 d1 d2 d3 (by rw [bl]; exact hb.bC _ _) o0 JM
  refine ⟨ah,G1,f15 (ai Q ae) _ _ G _ ?_,w0.trans w1 fun _ _ k=>k,p1⟩
  have hl:=fF.1.line
  generalize (x.l0 t c s).1=y at *
  obtain ⟨-,p1⟩:=p1
  simp [s15,ho,← bl,o0,e1]
  rcases p1 with ⟨e',_,eN,_⟩ | ⟨e',_,eN,_,_⟩ | ⟨e',_,_,_,eN,_⟩ | ⟨e',_,_,_,_,_,_,_,_,_,_,eN,_⟩<;>simp [eN,e']
 ·have hsh:=hx.short (.inr e)
  obtain ⟨g1,g2,g3,g4,g5,g6⟩:=hw
  obtain ⟨n,hn⟩:∃ n,n=x.words.length:=⟨_,rfl⟩
  have hA:IntKind.wrap .i64 (w.runs+n)=w.runs+n:=wrap64 (by omega) (by omega)
  have EM:IntKind.wrap .i64 (w.runs+n+1)=w.runs+n+1:=wrap64 (by omega) (by omega)
  have hA2:w.runs+((n+1:Nat):Int)=w.runs+n+1:=by omega
  have iV:IntKind.wrap .i64 (w.bc - n - 1)=w.bc - n - 1:=wrap64 (by omega) (by omega)
  have jQ:w.bc - n≠0:=by omega
  have ax:x.step t w c s=x.l1 w s:=by unfold bg.step; rw [if_neg (by omega),if_pos e]
  rw [ax]
  rw [← hn,hA] at ho
  unfold bg.l1
  rw [← hn,hA]
  obtain ⟨va,vc,pT⟩:=hv.ow.is.len
  obtain ⟨G0,bl⟩:∃ G0,G0=G.put b (cK w (w.runs+n) (w.bc - n) (.pointer none) x.key v (-1) (-1) 0 false 0):=⟨_,rfl⟩
  have o0:G0.obj b=some (cK w (w.runs+n) (w.bc - n) (.pointer none) x.key v (-1) (-1) 0 false 0):=by rw [bl]; simp
  have Ew:one v=true:=by rw [pT]; rfl
  have en:=ade ae rfl Ew jQ EM hA iV o0
  obtain ⟨G1,aj⟩:∃ G1,G1=(G0.put b (cK w (w.runs+n+1) (w.bc - n) (.pointer none) x.key v (-1) (-1) 0 false 0)).put b (cK w (w.runs+n+1) (w.bc - n - 1) (.pointer none) x.key v (-1) (-1) 0 false 0):=⟨_,rfl⟩
  rw [← aj] at en
  have w1:PW (Own own tb) own G own G1 m s:=by rw [aj,bl]; exact (((PW.refl h).bf hb.tag h1 _).bf hb.tag h1 _).bf hb.tag h1 _
  have o1:G1.obj b=some (cK w (w.runs+n+1) (w.bc - n - 1) (.pointer none) x.key v (-1) (-1) 0 false 0):=by rw [aj]; simp
  have bM:At own tb G1 b:=by rw [aj,bl]; exact ((hb.bC _ _).bC _ _).bC _ _
  have v1:dV own tb G1 v x.words:=by rw [aj,bl]; exact ((hv.bC E9 _).bC E9 _).bC E9 _
  have x1:Ext G1 (G1.room 13):=(Ext.refl _).room 13
  have w2:=w1.de x1 tb
  have dy:=bM.gO x1 tb
  have v2:dV (grown own G1 tb) tb (G1.room 13) v x.words:=v1.to x1.nx (fun g hg=>x1.obj g (v1.lt hg)) db
  have o2:=(x1.obj b bM.lt).trans o1
  have tn:grown own G1 tb (G1.nx+8)=tb:=gx (by omega)
  have ln2:G1.nx+8<(G1.room 13).nx:=by simp
  generalize grown own G1 tb=aG at *
  obtain ⟨bB,G3,e3,w3⟩:=w2.pm.load ae (w.runs+n)
  have hz:=(hm.load (w.runs+n)).2
  generalize s.load (w.runs+n)=s' at *
  generalize s'.new=z at *
  have gy:=dy.to w3.nx w3.aO.cd
  have o3:=(dy.keep h1 w3).trans o2
  have v3:dV bB tb G3 v x.words:=v2.to w3.nx (fun g hg=>w3.keep (v2.lt hg) (by rw [v2.tag g hg]; exact h1) id) w3.aO.cd
  have fq:=w2.tr w3.any
  have tn3:bB (G1.nx+8)=tb:=(w3.aO.same ln2).trans tn
  have nvn:¬ cY v (G1.nx+8):=fun k=>by have:=v1.lt k; omega
  have nbn:b≠G1.nx+8:=by have:=bM.lt; omega
  obtain ⟨G4,bR⟩:∃ G4,G4=G3.put (G1.nx+8) ⟨[.int .u64 z],1,false,1⟩:=⟨_,rfl⟩
  have w4:PW (Own own tb) own G bB G4 m s':=by rw [bR]; exact fq.bf tn3 h1 _
  have iy:At bB tb G4 b:=by rw [bR]; exact gy.bC _ _
  have o4:G4.obj b=some (cK w (w.runs+n+1) (w.bc - n - 1) (.pointer none) x.key v (-1) (-1) 0 false 0):=by rw [bR,aT,if_neg nbn]; exact o3
  have v4:dV bB tb G4 v x.words:=by rw [bR]; exact v3.bC nvn _
  have sz:bI (bK .u64) G4 (.slice (some ⟨G1.nx+8,0,none⟩) 1 1) [z]:=bI.block (e:=bK .u64) (op:=false) (L:=[z]) (by rw [bR]; simp [cT.Eb]) (by rw [bR]; have:=w3.nx; simp at this ⊢; omega)
  obtain ⟨v5,G5,e5,md,zN⟩:=v4.ow.IP (ib:=8) (by decide) sz (by simp) (by simp; omega)
  simp only [ZM] at e5
  have w5:=w4.qI (md.mono fun g hg=>v4.tag g hg) h1 tb
  have sE:At (grown bB G4 tb) tb G5 b:=iy.to md.nx db
  have o5:G5.obj b=some (cK w (w.runs+n+1) (w.bc - n - 1) (.pointer none) x.key v (-1) (-1) 0 false 0):=(md.obj b iy.lt E9).trans o4
  have v5o:dV (grown bB G4 tb) tb G5 v5 (x.words++[z]):=⟨zN.mono (Nat.zero_le _),fun g hg=>gx (zN.from hg)⟩
  have Fa:¬ cY v5 b:=fun k=>by have:=zN.from k; have:=iy.lt; omega
  generalize grown bB G4 tb=jb at *
  obtain ⟨a5,c5,Cj⟩:=zN.is.len
  obtain ⟨G6,eg⟩:∃ G6,G6=G5.put b (cK w (w.runs+n+1) (w.bc - n - 1) (.pointer none) x.key v5 (-1) (-1) 0 false 0):=⟨_,rfl⟩
  have w6:PW (Own own tb) own G jb G6 m s':=by rw [eg]; exact w5.bf sE.tag h1 _
  have xp:At jb tb G6 b:=by rw [eg]; exact sE.bC _ _
  have o6:G6.obj b=some (cK w (w.runs+n+1) (w.bc - n - 1) (.pointer none) x.key v5 (-1) (-1) 0 false 0):=by rw [eg]; simp
  have v6:dV jb tb G6 v5 (x.words++[z]):=by rw [eg]; exact v5o.bC Fa _
  have hlen:(x.words++[z]).length=n+1:=by simp [hn]
  rw [hlen] at Cj
  have CT:br (some v) v=true:=by rw [pT]; simp [br,same,cm]
  have adh:one v5=true:=by rw [Cj]; rfl
  by_cases SV:((x.words++[z]).length:Int)=w.bc
  ·rw [if_pos SV]
   have ui:w.bc - n - 1=0:=by omega
   have x6:Ext G6 (G6.room 14):=(Ext.refl _).room 14
   obtain ⟨G7,e7,x7⟩:=ac6 ae (key:=x.key) (v6.ow.is.ext x6) (by omega)
   have y7:=x6.trans x7
   have w7:=w6.de y7 tb
   have mK:=xp.gO y7 tb
   have o7:=(y7.obj b xp.lt).trans o6
   have v7:dV (grown jb G6 tb) tb G7 v5 (x.words++[z]):=v6.to y7.nx (fun g hg=>y7.obj g (v6.lt hg)) db
   generalize grown jb G6 tb=tX at *
   have Fb:(G6.room 14).obj b=some (cK w (w.runs+n+1) (w.bc - n - 1) (.pointer none) x.key v5 (-1) (-1) 0 false 0):=by simpa using o6
   rcases adb (x.words++[z]) x.key with ⟨c1,c2⟩ | ⟨i,c1,c2⟩
   ·rw [c2] at e7
    rw [c1]
    refine ⟨tX,(G7.put b (cK w (w.runs+n+1) (w.bc - n - 1) (.pointer none) x.key v5 (-1) (-1) 0 false 0)).put b (cK w (w.runs+n+1) (w.bc - n - 1) (.pointer none) x.key v5 (-1) (-1) 0 true 0),f15 (ai Q ae) _ _ G _ ?_,((w7.bf mK.tag h1 _).bf mK.tag h1 _).mono (fun _ _ k=>.inl k),(mK.bC _ _).bC _ _,.inr (.inr (.inr ⟨rfl,w.runs+n+1,w.bc - n - 1,w,.pointer none,x.key,v5,-1,-1,rfl,adh,by rw [hk.e0 (by omega)]; simp,by simp only [hk.l1 e]⟩))⟩
    rw [ui] at eg o6 Fb o7
    subst Cj
    subst pT
    simp [s15,ho,← bl,o0,en,o1,o2,e3,o3,Ci,← bR,e5,o5,← eg,o6,ui,Fb,e7,o7,br,same,cm,ao]
   ·rw [c2] at e7
    rw [c1]
    refine ⟨tX,(G7.put b (cK w (w.runs+n+1) (w.bc - n - 1) (.pointer none) x.key v5 i (-1) 0 false 0)).put b (cK w (w.runs+n+1) (w.bc - n - 1) (.pointer none) x.key v5 i (-1) 0 false 0),f15 (ai Q ae) _ _ G _ ?_,((w7.bf mK.tag h1 _).bf mK.tag h1 _).mono (fun _ _ k=>.inl k),(mK.bC _ _).bC _ _,.inr (.inr (.inl ⟨rfl,w.runs+n+1,x.key,v5,by simp [ui],(v7.bC Fa _).bC Fa _⟩))⟩
    rw [ui] at eg o6 Fb o7
    subst Cj
    subst pT
    simp [s15,ho,← bl,o0,en,o1,o2,e3,o3,Ci,← bR,e5,o5,← eg,o6,ui,Fb,e7,o7,br,same,cm,ao]
  ·rw [if_neg SV]
   have ui:¬ w.bc - n - 1=0:=by omega
   have J4:IntKind.wrap .i64 (w.runs+((x.words++[z]).length:Int))=w.runs+n+1:=by rw [hlen,hA2,EM]
   have qo:w.bc - ((x.words++[z]).length:Int)=w.bc - n - 1:=by rw [hlen]; omega
   refine ⟨jb,G6,f15 (ai Q ae) _ _ G _ ?_,w6.mono (fun _ _ k=>.inl k),xp,.inr (.inl ⟨e,v5,by simp only [J4,qo]; exact o6,v6,Fa⟩)⟩
   subst Cj
   subst pT
   simp [s15,ho,← bl,o0,en,o1,o2,e3,o3,Ci,← bR,e5,o5,← eg,o6,ui,br,same,cm,ao,e]
 ·obtain ⟨va,vc,pT⟩:=hv.ow.is.len
  have ax:x.step t w c s=x.l2 w s:=by unfold bg.step; rw [if_neg (by omega),if_neg (by omega),if_pos e]
  rw [ax]
  unfold bg.l2
  have ke:=(hk.l2 e).2
  obtain ⟨G0,bl⟩:∃ G0,G0=G.put b (cK w a' 0 (.pointer none) k v x.flag (-1) 0 false 0):=⟨_,rfl⟩
  have w0:PW (Own own tb) own G own G0 m s:=by rw [bl]; exact (PW.refl h).bf hb.tag h1 _
  have o0:G0.obj b=some (cK w a' 0 (.pointer none) k v x.flag (-1) 0 false 0):=by rw [bl]; simp
  have kE:At own tb G0 b:=by rw [bl]; exact hb.bC _ _
  have en:=adf ae o0
  have x1:Ext G0 (G0.room 12):=(Ext.refl _).room 12
  have w1:=w0.de x1 tb
  have bM:=kE.gO x1 tb
  have o1:(G0.room 12).obj b=some (cK w a' 0 (.pointer none) k v x.flag (-1) 0 false 0):=by simpa using o0
  generalize grown own G0 tb=ah at *
  obtain ⟨aG,G2,e2,w2⟩:=w1.pm.store ae (IntKind.wrap .i64 (w.flags+x.flag)) 1
  generalize s.store (IntKind.wrap .i64 (w.flags+x.flag)) 1=s' at *
  have kR:=w1.tr w2.any
  have dy:=bM.to w2.nx w2.aO.cd
  have o2:=(bM.keep h1 w2).trans o1
  have e3:=E8 ae (G:=G2.put b (cK w a' 0 (.pointer none) k v x.flag x.flag 0 false 0)) (b:=b) (w:=w) (a:=a') (l:=0) (lk:=.pointer none) (k:=k) (v:=v) (wr:=x.flag) (fl:=x.flag) (by_:=0) (dn:=false) (er:=0) (er':=0) (by simp) rfl (by rw [pT]; rfl)
  refine ⟨aG,((G2.put b (cK w a' 0 (.pointer none) k v x.flag x.flag 0 false 0)).put b (cK w a' 0 (.pointer none) k v x.flag x.flag 0 true 0)).put b (cK w a' 0 (.pointer none) k v x.flag x.flag 0 true 0),f15 (ai Q ae) _ _ G _ ?_,(((kR.bf dy.tag h1 _).bf dy.tag h1 _).bf dy.tag h1 _).mono (fun _ _ k=>.inl k),((dy.bC _ _).bC _ _).bC _ _,.inr (.inr (.inr ⟨rfl,a',0,w,.pointer none,k,v,x.flag,x.flag,rfl,by rw [pT]; rfl,by simp [ke],rfl⟩))⟩
  subst pT
  simp [s15,ho,← bl,o0,en,o1,e2,o2,e3]
 ·have ax:x.step t w c s=({ x with by_:=0 },s):=by unfold bg.step; rw [if_neg (by omega),if_neg (by omega),if_neg (by omega)]
  rw [ax]
  refine ⟨own,G,f15 (ai Q ae) _ _ G _ ?_,.refl h,hb,.inr (.inr (.inr ⟨e,a',l,w',lk,k,v,g,wr,EI,rD,ho,Kt⟩))⟩
  simp [s15,ho,e]
end
def bg.new (t:TW):bg:=⟨0,.new t,0,[],-1,0,0⟩
def bg.no (t:TW):bg:=⟨9,.new t,0,[],-1,0,3⟩
abbrev dU.cells (w:dU):List Value:=[.int .i64 w.runs,.int .i64 w.flags,.int .i64 w.bc]
abbrev dU.v (w:dU):Value:=.agg ⟨w.cells⟩
section
variable {own own' own0 ah aG:Nat→Nat} {tb tag tg m r b lb q:Nat} {t:TW} {w:dU} {c:Int} {G G' G1 G2:GS} {s s' s1:MS} {x:bg} {v:Value} {L:List Int}
theorem bg.ju (hs:t.sound) (hw:w.qR):(bg.new t).ok t w:=⟨.inl rfl,bY.ju hs,dJ,by simp [bg.new],fun _=>by have:=hw.1; simp [bg.new]; omega,dJ⟩
theorem bg.adi (t:TW):(bg.new t).kp:=⟨fun _=>⟨by simp [bg.new,bY.new],rfl,rfl⟩,by simp [bg.new],by simp [bg.new],by simp [bg.new],fun _=>rfl⟩
theorem SW (ae:FuncId→Bool) (w:dU) (G:GS):(E ae).cl 37 [w.v] G=some (.bool (decide w.sized),G.push ⟨w.cells,1,false,1⟩):=by
 refine f37 (ai Q ae) _ G _ ?_
 unfold dU.sized
 by_cases h1:1≤w.bc
 ·by_cases h2:w.bc≤64<;>simp [s37,h1,h2]
 ·simp [s37,h1]
theorem adj (ae:FuncId→Bool) (nC:lb<G.nx) (ho:G.obj lb=some ⟨[.int .i64 t.nodes,.int .i64 t.cn,.int .i64 t.ay,.int .i64 t.top,.int .i64 t.links,.int .i64 t.size,.int .i64 t.u6,.int .i64 t.u7,.int .i64 t.u8,.int .i64 t.u9,.int .i64 t.u10,.int .i64 t.u11,.int .i64 t.u12,.int .i64 c,.bool true,.int .i64 0,.slice none 0 0,.int .u64 0,.int .i64 3,.int .u64 0,.int .i64 0,.int .i64 0],1,false,1⟩) :
  ∃ G',(E ae).cl 45 [P0 lb] G=some (.tuple #[gA 0 0,.int .i64 3],G')∧Ext G G':=by
 obtain ⟨G1,aj⟩:∃ G1,G1=(G.push ⟨z71,1,false,1⟩).room 12:=⟨_,rfl⟩
 have x1:Ext G G1:=by rw [aj]; exact ((Ext.refl G).push _).room 12
 have n1:G1.nx=G.nx+13:=by rw [aj]; simp
 have o1:=(x1.obj lb nC).trans ho
 have p1:G1.obj G.nx=some ⟨z71,1,false,1⟩:=by rw [aj]; simp
 have hz:z71=[.int .u64 0,.int .i64 0]:=rfl
 obtain ⟨G2,aD⟩:∃ G2,G2=(G1.push ⟨[.int .u64 0,.int .i64 0,.int .i64 0],1,false,1⟩).push ⟨z71,1,false,1⟩:=⟨_,rfl⟩
 have x2:Ext G1 G2:=by rw [aD]; exact ((Ext.refl _).push _).push _
 have o2:=(x2.obj lb (by omega)).trans o1
 have e2:(E ae).cl 80 [P0 lb] G2=some (.int .i64 3,G2):=f80 (ai Q ae) _ _ _ (by simp [s80,o2])
 have e3:(E ae).cl 88 [.agg ⟨[.int .u64 0,.int .i64 0,.int .i64 0]⟩,P0 lb] G1=some (.tuple #[gA 0 0,.int .i64 3],G2.put (G1.nx+1) ⟨[.int .u64 0,.int .i64 0],1,false,1⟩):=by
  refine f88 (ai Q ae) _ _ _ _ ?_
  have q2:G2.obj (G1.nx+1)=some ⟨z71,1,false,1⟩:=by rw [aD]; simp
  unfold gA
  simp [s88,← aD,e2,q2,hz,bQ,bO]
 have n2:=x2.nx
 have p2:(G2.put (G1.nx+1) ⟨[.int .u64 0,.int .i64 0],1,false,1⟩).obj G.nx=some ⟨z71,1,false,1⟩:=by
  rw [aT,if_neg (by omega)]
  exact (x2.obj G.nx (by omega)).trans p1
 have y:Ext G (G2.put (G1.nx+1) ⟨[.int .u64 0,.int .i64 0],1,false,1⟩):=(x1.trans x2).put (by omega) _
 generalize G2.put (G1.nx+1) ⟨[.int .u64 0,.int .i64 0],1,false,1⟩=G3 at *
 have w:Wp (s45 true (bA Q ae) (P0 lb) G) fun r=>r.1= .tuple #[gA 0 0,.int .i64 3]∧Ext G r.2:=by
  unfold gA at *
  simp [s45,← aj,o1,e3,p2,hz,bQ,bO]
  exact y.put (Nat.le_refl _) _
 obtain ⟨⟨v,G'⟩,e1,rfl,e3⟩:=w
 exact ⟨G',f45 (ai Q ae) _ G _ e1,e3⟩
theorem adk (ae:FuncId→Bool) (hs:t.sound) (h0:0≤aB t 0 0) (hw:w.qR) (c:Int) (G:GS):∃ b G',(E ae).cl 14 [t.v,w.v,.int .i64 c] G=some (P0 b,G')∧Ext G G' ∧(G.nx≤b∧b<G'.nx) ∧
  ∀ own tb tag tg,tb≠tag→tb≠tg→own b=tb→(∀ g,G.nx≤g→g<G'.nx→g≠b→own g=tag)→qa own tb tag tg t w c G' b (if 0≤c∧c<t.u11 then .new t else .no t):=by
 have hz:z109=[.int .i64 0,.int .i64 0,.int .i64 0,.int .i64 0,.int .i64 0,.pointer none,.int .u64 0,.slice none 0 0,.int .i64 0,.int .i64 0,.int .u64 0,.bool false,.bool false,.int .i64 0]:=rfl
 have dY:z105=[.int .i64 0,.int .i64 0]:=rfl
 have uc:z71=[.int .u64 0,.int .i64 0]:=rfl
 obtain ⟨G1,aj⟩:∃ G1,G1=((G.push ⟨t.cells,1,false,1⟩).push ⟨w.cells,1,false,1⟩):=⟨_,rfl⟩
 have x1:Ext G G1:=by rw [aj]; exact ((Ext.refl G).push _).push _
 have n1:G1.nx=G.nx+2:=by rw [aj]; rfl
 have ot1:G1.obj G.nx=some ⟨t.cells,1,false,1⟩:=by rw [aj]; simp
 have lQ:G1.obj (G.nx+1)=some ⟨w.cells,1,false,1⟩:=by rw [aj]; simp
 have SX:(G1.room 12).obj G.nx=some ⟨t.cells,1,false,1⟩:=by simpa using ot1
 have EG:(G1.room 12).obj (G.nx+1)=some ⟨w.cells,1,false,1⟩:=by simpa using lQ
 obtain ⟨b,hb⟩:∃ b,b=G1.nx+10:=⟨_,rfl⟩
 have cQ:w.sized:=⟨hw.1,hw.2.1⟩
 have key:∀ lb G2,(E ae).cl 44 [t.v,.int .i64 c] (G1.room 12)=some (P0 lb,G2)→Ext (G1.room 12) G2→(G1.room 12).nx≤lb→lb<G2.nx→∀ er G4,er≠0→(E ae).cl 45 [P0 lb] (G2.put b (cK w w.runs w.bc (P0 lb) 0 (.slice none 0 0) (-1) (-1) 0 false 0))=some (.tuple #[gA 0 0,.int .i64 er],G4)→Ext (G2.put b (cK w w.runs w.bc (P0 lb) 0 (.slice none 0 0) (-1) (-1) 0 false 0)) G4 →
   ∃ G',(E ae).cl 14 [t.v,w.v,.int .i64 c] G=some (P0 b,G')∧Ext G G' ∧b<G'.nx∧G2.nx≤G'.nx∧(∀ g,g<G2.nx→g≠b→G'.obj g=G2.obj g)∧G'.obj b=some (if er=14 then cK w w.runs w.bc (P0 lb) 0 (.slice none 0 0) (-1) (-1) 0 false 0 else cK w w.runs w.bc (P0 lb) 0 (.slice none 0 0) (-1) (-1) 0 true er):=by
  intro lb G2 e2 x2 iV su er G4 her e4 x4
  have y2:Ext G1 G2:=((Ext.refl G1).room 12).trans x2
  have n2:=x2.nx
  simp at n2
  obtain ⟨G3,cF⟩:∃ G3,G3=G2.put b (cK w w.runs w.bc (P0 lb) 0 (.slice none 0 0) (-1) (-1) 0 false 0):=⟨_,rfl⟩
  rw [← cF] at e4 x4
  have n3:G3.nx=G2.nx:=by rw [cF]; rfl
  have x3:Ext G1 G3:=by rw [cF]; exact y2.put (by omega) _
  have oM:=(y2.obj (G.nx+1) (by omega)).trans lQ
  have g9:G3.obj b=some (cK w w.runs w.bc (P0 lb) 0 (.slice none 0 0) (-1) (-1) 0 false 0):=by rw [cF]; simp
  have vC:=(x4.obj b (by omega)).trans g9
  have ow4:=(x4.obj (G.nx+1) (by omega)).trans ((x3.obj (G.nx+1) (by omega)).trans lQ)
  have n4:=x4.nx
  obtain ⟨G5,dE⟩:∃ G5,G5=(G4.push ⟨z71,1,false,1⟩).put G4.nx ⟨[.int .u64 0,.int .i64 0],1,false,1⟩:=⟨_,rfl⟩
  have x5:Ext G4 G5:=by rw [dE]; exact Ey _ _
  have pM:=(x5.obj b (by omega)).trans vC
  have zN:=(x5.obj (G.nx+1) (by omega)).trans ow4
  have n5:=x5.nx
  have x45:=x4.trans x5
  have hk:∀ g,g<G2.nx→g≠b→G5.obj g=G2.obj g:=fun g hg az=>by rw [x45.obj g (by omega),cF,aT,if_neg az]
  rw [uc] at dE
  unfold gA at e4
  by_cases c14:er=14
  ·subst c14
   have e6:=SW ae w G5
   simp only [cQ,decide_true] at e6
   refine ⟨G5.push ⟨w.cells,1,false,1⟩,f14 (ai Q ae) _ _ _ G _ ?_,((x1.trans x3).trans x45).push _,by simp; omega,by simp; omega,fun g hg az=>?_,?_⟩
   ·simp [s14,hz,dY,uc,bQ,bO,eC,← aj,SX,EG,e2,oM,br,same,cm,cm.lf,← hb,Ci,← cF,g9,e4,← dE,zN,e6]
   ·rw [jR,if_neg (by omega)]; exact hk g hg az
   ·rw [jR,if_neg (by omega)]; exact pM
  ·have e6:=E8 ae (er':=er) pM rfl rfl
   refine ⟨(G5.put b (cK w w.runs w.bc (P0 lb) 0 (.slice none 0 0) (-1) (-1) 0 true 0)).put b (cK w w.runs w.bc (P0 lb) 0 (.slice none 0 0) (-1) (-1) 0 true er),f14 (ai Q ae) _ _ _ G _ ?_,(((x1.trans x3).trans x45).put (by omega) _).put (by omega) _,by simp; omega,by simp; omega,fun g hg az=>?_,by simp [c14]⟩
   ·simp [s14,hz,dY,uc,bQ,bO,eC,← aj,SX,EG,e2,oM,br,same,cm,cm.lf,← hb,Ci,← cF,g9,e4,← dE,c14,e6]
   ·rw [aT,if_neg az,aT,if_neg az]; exact hk g hg az
 by_cases hc:0≤c∧c<t.u11
 ·rw [if_pos hc]
  obtain ⟨lb,G2,e2,x2,⟨iV,su⟩,hL⟩:=ab5 ae hs h0 hc (G1.room 12)
  have n2:=x2.nx
  simp at n2 iV
  obtain ⟨k,vv,p,LL,hF,ho,hV,EB⟩:=hL (fun _=>0) 0 1 fun _ _ _=>rfl
  have qo:LL.length≠0:=by
   rcases EB with ⟨_,e,_⟩ | ⟨e,_⟩ | ⟨e,_⟩ | ⟨e,_⟩
   ·rw [e]; simp
   ·exact absurd e (by simp [bY.new])
   ·exact absurd e (by simp [bY.new])
   ·exact absurd e (by simp [bY.new])
  obtain ⟨va,vc,rfl⟩:=hV.sl.len
  have nC:lb≠b:=by omega
  obtain ⟨G4,e4,x4⟩:=RE ae (G:=G2.put b (cK w w.runs w.bc (P0 lb) 0 (.slice none 0 0) (-1) (-1) 0 false 0)) (lb:=lb) (by simpa using su) (by rw [aT,if_neg nC]; exact ho)
  rw [if_neg qo,if_neg qo] at e4
  obtain ⟨G',k1,k2,k3,k4,k5,k6⟩:=key lb G2 e2 x2 (by simpa using iV) su 14 G4 (by decide) e4 x4
  refine ⟨b,G',k1,k2,⟨by omega,k3⟩,fun own tb tag tg d1 d2 Fc hg=>⟨⟨k3,Fc⟩,.inl ⟨rfl,lb,by simpa [bg.new] using k6,?_⟩⟩⟩
  have:=hL own tag tg fun g h1 h2=>hg g (by simp at h1; omega) (by omega) (by simp at h1; omega)
  exact this.to k4 (fun g Jw rH=>k5 g Jw (by rintro rfl; rw [Fc] at rH; rcases rH with h | h; exact d1 h; exact d2 h)) (bW.refl _ _)
 ·rw [if_neg hc]
  obtain ⟨lb,G2,e2,x2,⟨iV,su⟩,-,-,ho⟩:=ab4 ae hs h0 (c:=c) (by omega) (G1.room 12)
  have n2:=x2.nx
  simp at n2 iV
  have nC:lb≠b:=by omega
  obtain ⟨G4,e4,x4⟩:=adj ae (G:=G2.put b (cK w w.runs w.bc (P0 lb) 0 (.slice none 0 0) (-1) (-1) 0 false 0)) (lb:=lb) (by simpa using su) (by rw [aT,if_neg nC]; exact ho)
  obtain ⟨G',k1,k2,k3,k4,k5,k6⟩:=key lb G2 e2 x2 (by simpa using iV) su 3 G4 (by decide) e4 x4
  refine ⟨b,G',k1,k2,⟨by omega,k3⟩,fun own tb tag tg d1 d2 Fc hg=>⟨⟨k3,Fc⟩,.inr (.inr (.inr ⟨rfl,w.runs,w.bc,w,P0 lb,0,.slice none 0 0,-1,-1,rfl,rfl,by simpa [bg.no] using k6,rfl⟩))⟩⟩
end
section
variable {m r wb:Nat} {own own0 ah:Nat→Nat} {G G0 G1 A:GS} {s:MS} {w:dU}
theorem adl (ae:FuncId→Bool) (hw:w.qR) (jV:wb<G0.nx) (oE:own0 wb≠10) (oF:G0.obj wb=some ⟨w.cells,1,false,1⟩) :
  ∀ (k i:Nat) (τ:Env) (own:Nat→Nat) (G:GS) (s:MS),(i:Int)+k=w.bc→PW no own0 G0 own G m s→τ 1=P0 m→τ 2=P0 wb→τ 9= .int .i64 w.bc→τ 10= .int .i64 i →
  Wp ((bA Q ae).du 10 0 τ G) fun q=>q.1= .exit 0∧∃ own',PW no own0 G0 own' q.2.2 m (qS w k i s):=by
 obtain ⟨g1,g2,g3,g4,g5,g6⟩:=hw
 intro k
 induction k with
 | zero =>
  intro i τ own G s hi w' t1 t2 t9 t10
  have o:=(w'.keep jV oE id).trans oF
  have bw:¬ (i:Int)<w.bc:=by omega
  refine Wp.lp (P7 (ai Q ae)) ?_
  simp [-Int.natCast_add,D6,ao,t1,t2,t9,t10,o,bw,qS]
  exact ⟨own,w'⟩
 | succ k ih =>
  intro i τ own G s hi w' t1 t2 t9 t10
  have o:=(w'.keep jV oE id).trans oF
  have aJ:(i:Int)<w.bc:=by omega
  have mI:IntKind.wrap .i64 ((i:Int)+1)=((i+1:Nat):Int):=wrap64 (by omega) (by omega)
  have h1:IntKind.wrap .i64 (w.runs+i)=w.runs+i:=wrap64 (by omega) (by omega)
  have h2:IntKind.wrap .i64 (w.flags+i)=w.flags+i:=wrap64 (by omega) (by omega)
  refine Wp.lp (P7 (ai Q ae)) ?_
  obtain ⟨ah,G1,e1,w1⟩:=w'.pm.store ae (w.runs+i) 18446744073709551615
  have w01:=w'.trans w1 fun _ _ h=>h
  have o1:=(w01.keep jV oE id).trans oF
  obtain ⟨aG,G2,e2,w2⟩:=w1.pm.store ae (w.flags+i) 0
  simp [-Int.natCast_add,D6,ao,t1,t2,t9,t10,aJ,mI,h1,h2,o,e1,o1,e2]
  exact ih (i+1) _ _ G2 _ (by omega) (w01.trans w2 fun _ _ h=>h) (by simp [ao]) (by simp [ao]) (by simp [ao]) (by simp [ao])
theorem adn (ae:FuncId→Bool) (hw:w.qR) (h:PM own G m s):∃ own' G',(E ae).cl 10 [w.v,P0 m] G=some (.tuple #[],G')∧PW no own G own' G' m (qS w w.bc.toNat 0 s):=by
 have cQ:w.sized:=⟨hw.1,hw.2.1⟩
 obtain ⟨G1,aj⟩:∃ G1,G1=G.push ⟨w.cells,1,false,1⟩:=⟨_,rfl⟩
 have x1:Ext G G1:=by rw [aj]; exact (Ext.refl G).push _
 have o1:G1.obj G.nx=some ⟨w.cells,1,false,1⟩:=by rw [aj]; simp
 have n1:G1.nx=G.nx+1:=by rw [aj]; rfl
 have e2:=SW ae w G1
 simp only [cQ,decide_true] at e2
 obtain ⟨G2,aD⟩:∃ G2,G2=G1.push ⟨w.cells,1,false,1⟩:=⟨_,rfl⟩
 rw [← aD] at e2
 have x2:Ext G1 G2:=by rw [aD]; exact (Ext.refl _).push _
 have o2:=(x2.obj G.nx (by omega)).trans o1
 have n2:=x2.nx
 have w2:=(PW.refl (B:=no) h).ext (x1.trans x2)
 have w:Wp (s10 true (bA Q ae) w.v (P0 m) G) fun q=>q.1= .tuple #[]∧∃ own',PW no own G own' q.2 m (qS w w.bc.toNat 0 s):=by
  simp [s10,← aj,o1,e2,o2]
  refine Wp.bE ((adl ae hw (wb:=G.nx) (G0:=G2) (own0:=grown own G 13) (by omega) (by rw [gx (Nat.le_refl _)]; decide) o2 w.bc.toNat 0 _ _ G2 _ (by have:=hw.1; omega) (PW.refl w2.pm) (by simp [ao]) (by simp [ao]) (by simp [ao]) (by simp [ao])).mono ?_)
  rintro ⟨e,τ,G5⟩ ⟨rfl,jb,q⟩
  simp only at q
  simp
  exact ⟨jb,w2.trans q fun _ _ h=>h⟩
 obtain ⟨⟨v,G'⟩,e1,rfl,own',hh⟩:=w
 exact ⟨own',G',f10 (ai Q ae) _ _ G _ e1,hh⟩
end
structure Pl (t:TW) (N:Nat):Prop where
 snd:t.sound
 top:t.top=0
 links:t.links=1
 u6:t.u6=1+t.size
 u7:t.u7=1+2*t.size
 Eo:1≤t.u8∧t.u8≤4294967295
 u9:t.u9=2+2*t.size
 u10:t.u10=3+2*t.size
 u11:1≤t.u11∧t.u11≤64
 u12:t.u12=3+2*t.size+t.u11
 cn:t.cn=6+2*t.size+t.u11
 nodes:t.nodes=6+2*t.size+t.u11+t.ay
 fit:t.nodes+t.size*(4+t.ay)≤N
 le:N≤4096
section
variable {t:TW} {N:Nat} {i p j q a v:Int} {s s':MS}
theorem Pl.row (h:Pl t N) (h0:0≤i) (h1:i<t.size):0≤i*(4+t.ay)∧i*(4+t.ay)+(4+t.ay)≤t.size*(4+t.ay):=by
 have hh:=h.snd.1
 have a:=Int.mul_nonneg h0 (show 0≤4+t.ay by omega)
 have b:=Int.mul_le_mul_of_nonneg_right (show i+1≤t.size by omega) (show 0≤4+t.ay by omega)
 rw [Int.add_mul] at b
 omega
theorem Pl.vL (h:Pl t N) (h0:4≤p∧p<4+t.ay):aB t (-1) p=t.cn+(p - 4):=by
 unfold aB; rw [if_pos h.snd,if_pos rfl,if_pos h0]
theorem Pl.vM (h:Pl t N) (h0:0≤i∧i<t.size∧0≤p∧p<4+t.ay):aB t i p=t.nodes+i*(4+t.ay)+p:=by
 unfold aB; rw [if_pos h.snd,if_neg (by omega),if_pos h0]
theorem Pl.Fe (h:Pl t N):hY t N:=by
 have hh:=h.snd.1
 have e1:=h.cn; have e2:=h.nodes; have e3:=h.fit
 have z1:=h.snd.2.2.1
 have z2:=h.u11.1
 have mz:0≤t.size*(4+t.ay):=Int.mul_nonneg (by omega) (by omega)
 refine ⟨h.snd,fun i p hp=>?_,fun i p j q hp hq e=>?_⟩
 ·rcases hp with ⟨rfl,hp⟩ | hp
  ·rw [h.vL hp]; omega
  ·rw [h.vM hp]; have:=h.row hp.1 hp.2.1; omega
 ·rcases hp with ⟨rfl,hp⟩ | hp<;>rcases hq with ⟨rfl,hq⟩ | hq
  ·rw [h.vL hp,h.vL hq] at e; exact ⟨rfl,by omega⟩
  ·rw [h.vL hp,h.vM hq] at e; have:=h.row hq.1 hq.2.1; omega
  ·rw [h.vM hp,h.vL hq] at e; have:=h.row hp.1 hp.2.1; omega
  ·rw [h.vM hp,h.vM hq] at e
   have rE:i=j:=by
    rcases Int.lt_trichotomy i j with k | k | k
    ·have:=Int.mul_le_mul_of_nonneg_right (show i+1≤j by omega) (show 0≤4+t.ay by omega)
     rw [Int.add_mul] at this
     omega
    ·exact k
    ·have:=Int.mul_le_mul_of_nonneg_right (show j+1≤i by omega) (show 0≤4+t.ay by omega)
     rw [Int.add_mul] at this
     omega
   subst rE
   exact ⟨rfl,by omega⟩
theorem Pl.low (h:Pl t N) (ha:a<t.cn) (hp:dg t i p):aB t i p≠a:=by
 rcases hp with ⟨rfl,hp⟩ | hp
 ·rw [h.vL hp]; omega
 ·rw [h.vM hp]
  have:=h.row hp.1 hp.2.1
  have e1:=h.cn; have e2:=h.nodes
  have:=h.snd.1
  omega
theorem Pl.hi (h:Pl t N) (hp:dg t i p):t.cn≤aB t i p∧aB t i p<N:=by
 have e1:=h.cn; have e2:=h.nodes; have e3:=h.fit
 have:=h.snd.1
 have mz:0≤t.size*(4+t.ay):=Int.mul_nonneg (by have:=h.snd.2.2.1; omega) (by omega)
 rcases hp with ⟨rfl,hp⟩ | hp
 ·rw [h.vL hp]; omega
 ·rw [h.vM hp]
  have:=h.row hp.1 hp.2.1
  omega
theorem Pl.keep (h:Pl t N) (ha:a<t.cn) (hs:∀ b,b≠a→s'.aI b=s.aI b):vw t s' =vw t s:=by
 funext i p
 by_cases hp:dg t i p
 ·exact hs _ (h.low ha hp)
 ·rw [xG hp,xG hp]
theorem Pl.fits (h:Pl t N):t.cn+t.ay≤N:=by
 have e1:=h.cn; have e2:=h.nodes; have e3:=h.fit
 have mz:0≤t.size*(4+t.ay):=Int.mul_nonneg (by have:=h.snd.2.2.1; omega) (by have:=h.snd.1; omega)
 omega
theorem Pl.ar (h:Pl t N):t.ar.ok:=by
 have:=h.top; have:=h.links; have:=h.u6; have:=h.u7; have:=h.Eo; have:=h.fits; have:=h.cn; have:=h.snd.1; have:=h.snd.2.2.1; have:=h.snd.2.2.2.1; have:=h.u11.1; have:=h.le
 refine ⟨⟨?_,?_,?_,?_,?_,?_⟩,?_,?_,?_,?_,?_⟩<;>simp only<;>omega
theorem Pl.fA (h:Pl t N):t.fA:=by
 have:=h.links; have:=h.u12; have:=h.fits; have:=h.cn; have:=h.snd.1; have:=h.snd.2.2.1; have:=h.snd.2.2.2.1; have:=h.u11.1; have:=h.le
 refine ⟨?_,?_,?_,?_,?_,?_⟩<;>omega
theorem Pl.aW (h:Pl t N) {c:Int} (hc:0≤c∧c<t.u11):t.aW c=3+2*t.size+c∧0≤t.aW c∧t.aW c<t.cn:=by
 have:=h.u10; have:=h.cn; have:=h.snd.2.2.1; have:=h.snd.2.2.2.1; have:=h.u11
 have e:t.aW c=3+2*t.size+c:=by
  unfold TW.aW
  rw [wrap64 (by omega) (by omega)]
  omega
 refine ⟨e,?_,?_⟩<;>omega
end
structure Lw (t:TW) (s s':MS):Prop where
 len:s'.W.length=s.W.length
 low:∀ b,b<t.cn→s'.aI b=s.aI b
def Un (s:MS) (t:TW):Prop:=∀ i p,4≤p→¬ Mk (vw t s i p)
section
variable {t:TW} {s s' s1:MS} {a b v x k:Int} {u:Int→Int×Bool} {N:Nat} {f:au} {y:ak}
theorem zO (h:b≠a):(s.acc k a u).aI b=s.aI b:=by
 by_cases ha:0≤a∧a<s.W.length
 ·rw [Cc ha,if_neg h]
 ·unfold MS.acc
  rw [if_neg ha]
  rfl
theorem Ff (h:¬ (0≤a∧a<s.W.length)):(s.acc k a u).aI b=s.aI b:=by
 unfold MS.acc
 rw [if_neg h]
 rfl
theorem ado (s:MS) (a v b:Int):(s.store a v).aI b=v∨(s.store a v).aI b=s.aI b:=by
 by_cases ha:0≤a∧a<s.W.length
 ·rw [oR ha]; split<;>simp
 ·exact .inr (Ff ha)
theorem Ku (s:MS) (a x v b:Int):(s.bT a x v).aI b=v∨(s.bT a x v).aI b=s.aI b:=by
 by_cases ha:0≤a∧a<s.W.length
 ·rw [EY ha]; split<;>simp
 ·exact .inr (Ff ha)
theorem vN (s:MS) (a b:Int):(s.load a).aI b=s.aI b:=by
 by_cases ha:0≤a∧a<s.W.length
 ·exact Sv ha b
 ·exact Ff ha
theorem Lw.refl (t:TW) (s:MS):Lw t s s:=⟨rfl,fun _ _=>rfl⟩
theorem Lw.trans (h:Lw t s s1) (k:Lw t s1 s'):Lw t s s':=⟨k.len.trans h.len,fun b hb=>(k.low b hb).trans (h.low b hb)⟩
theorem Lw.acc (h:0≤t.cn) (ha:a= -1∨t.cn≤a):Lw t s (s.acc k a u):=by
 refine ⟨Cb _ _ _ _,fun b hb=>?_⟩
 rcases ha with rfl | ha
 ·exact Ff (by omega)
 ·exact zO (by omega)
theorem Fg (h:Pl t N) (i p:Int):aB t i p= -1∨t.cn≤aB t i p:=by
 by_cases hp:dg t i p
 ·exact .inr (h.hi hp).1
 ·exact .inl (Sy hp)
theorem Ck (h:Pl t N) (i l:Int):aX t i l= -1∨t.cn≤aX t i l:=by
 unfold aX
 split
 ·exact Fg h _ _
 ·exact .inl rfl
theorem Pl.h0 (h:Pl t N):0≤t.cn:=h.snd.2.2.2.2.2.2.1
theorem Un.or (h:Un s t) (hv:¬ Mk v) (k:∀ b,s'.aI b=v∨s'.aI b=s.aI b):Un s' t:=fun i p hp=>by
 have:=h i p hp
 unfold vw at *
 rcases k (aB t i p) with e | e
 ·rw [e]; exact hv
 ·rw [e]; exact this
theorem Un.sm (h:Un s t) (k:∀ b,s'.aI b=s.aI b):Un s' t:=fun i p hp=>by
 have:=h i p hp
 unfold vw at *
 rw [k]; exact this
theorem Lw.find (h:Pl t N):Lw t s (f.step t s).2:=by
 have n:=fun i l=>Lw.acc (s:=s) (u:=vx) (k:=1) h.h0 (Ck h i l)
 have a:=fun i p=>Lw.acc (s:=s) (u:=vx) (k:=1) h.h0 (Fg h i p)
 have c:=fun i l x v=>Lw.acc (s:=s) (u:=qG x v) (k:=3) h.h0 (Ck h i l)
 unfold au.step
 simp only
 split
 ·exact Lw.refl _ _
 split
 ·exact n _ _
 split
 ·split
  ·exact c _ _ _ _
  ·exact c _ _ _ _
 split
 ·split
  ·exact a _ _
  ·exact a _ _
 ·split
  ·exact n _ _
  ·exact n _ _
theorem Un.find (h:Un s t) (hw:U f.w):Un (f.step t s).2 t:=by
 have hm:¬ Mk (f.w - bp):=by have:=hw.2; unfold Mk bp; omega
 have l:=fun a=>h.sm (vN s a)
 have c:=fun a x=>h.or (v:=f.w - bp) hm (Ku s a x (f.w - bp))
 unfold au.step
 simp only
 split
 ·exact h
 split
 ·exact l _
 split
 ·split
  ·exact c _ _
  ·exact c _ _
 split
 ·split
  ·exact l _
  ·exact l _
 ·split
  ·exact l _
  ·exact l _
theorem Lw.ins (h:Pl t N) (hl:y.line≠12):Lw t s (y.step t s).2:=by
 have n:=fun i l=>Lw.acc (s:=s) (u:=vx) (k:=1) h.h0 (Ck h i l)
 have a:=fun i p v=>Lw.acc (s:=s) (u:=ze v) (k:=4) h.h0 (Fg h i p)
 have c:=fun i l x v=>Lw.acc (s:=s) (u:=qG x v) (k:=3) h.h0 (Ck h i l)
 have w:=fun i l v=>Lw.acc (s:=s) (u:=zd v) (k:=2) h.h0 (Ck h i l)
 have F:Lw t s (y.find.step t s).2:=Lw.find h
 unfold ak.step
 split
 ·exact F
 split
 ·exact w _ _ _
 split
 ·exact c _ _ _ _
 split
 ·exact n _ _
 split
 ·exact c _ _ _ _
 split
 ·exact c _ _ _ _
 split
 ·exact F
 split
 ·exact n _ _
 split
 ·exact n _ _
 split
 ·exact F
 split
 ·exact a _ _ _
 ·exact Lw.refl _ _
theorem adp (y:ak) (hl:y.line≠11∧y.line≠12):(y.step t s).2=(y.find.step t s).2∨(∃ a,(y.step t s).2=s.load a)∨(y.line=2∧∃ a,(y.step t s).2=s.store a (y.find.spot y.level).cur)∨(∃ a x,(y.step t s).2=s.bT a x y.ref)∨(y.line=5∧∃ a x,(y.step t s).2=s.bT a x (y.find.spot y.level).cur)∨(y.step t s).2=s:=by
 by_cases e1:y.line=1
 ·have st:y.step t s=y.l1 t s:=by unfold ak.step; rw [if_pos e1]
  rw [st]; exact .inl rfl
 by_cases e2:y.line=2
 ·have st:y.step t s=y.l2 t s:=by unfold ak.step; rw [if_neg e1,if_pos e2]
  rw [st]; exact .inr (.inr (.inl ⟨e2,_,rfl⟩))
 by_cases e3:y.line=3
 ·have st:y.step t s=y.l3 t s:=by unfold ak.step; rw [if_neg e1,if_neg e2,if_pos e3]
  rw [st]; exact .inr (.inr (.inr (.inl ⟨_,_,rfl⟩)))
 by_cases e4:y.line=4
 ·have st:y.step t s=y.l4 t s:=by unfold ak.step; rw [if_neg e1,if_neg e2,if_neg e3,if_pos e4]
  rw [st]; exact .inr (.inl ⟨_,rfl⟩)
 by_cases e5:y.line=5
 ·have st:y.step t s=y.l5 t s:=by unfold ak.step; rw [if_neg e1,if_neg e2,if_neg e3,if_neg e4,if_pos e5]
  rw [st]; exact .inr (.inr (.inr (.inr (.inl ⟨e5,_,_,rfl⟩))))
 by_cases e6:y.line=6
 ·have st:y.step t s=y.l6 t s:=by unfold ak.step; rw [if_neg e1,if_neg e2,if_neg e3,if_neg e4,if_neg e5,if_pos e6]
  rw [st]; exact .inr (.inr (.inr (.inl ⟨_,_,rfl⟩)))
 by_cases e7:y.line=7
 ·have st:y.step t s=y.dB t s 7 8:=by unfold ak.step; rw [if_neg e1,if_neg e2,if_neg e3,if_neg e4,if_neg e5,if_neg e6,if_pos e7]
  rw [st]; exact .inl rfl
 by_cases e8:y.line=8
 ·have st:y.step t s=y.l89 t s 4:=by unfold ak.step; rw [if_neg e1,if_neg e2,if_neg e3,if_neg e4,if_neg e5,if_neg e6,if_neg e7,if_pos e8]
  rw [st]; exact .inr (.inl ⟨_,rfl⟩)
 by_cases e9:y.line=9
 ·have st:y.step t s=y.l89 t s 11:=by unfold ak.step; rw [if_neg e1,if_neg e2,if_neg e3,if_neg e4,if_neg e5,if_neg e6,if_neg e7,if_neg e8,if_pos e9]
  rw [st]; exact .inr (.inl ⟨_,rfl⟩)
 by_cases e10:y.line=10
 ·have st:y.step t s=y.dB t s 10 11:=by unfold ak.step; rw [if_neg e1,if_neg e2,if_neg e3,if_neg e4,if_neg e5,if_neg e6,if_neg e7,if_neg e8,if_neg e9,if_pos e10]
  rw [st]; exact .inl rfl
 have st:y.step t s=(y,s):=by unfold ak.step; rw [if_neg e1,if_neg e2,if_neg e3,if_neg e4,if_neg e5,if_neg e6,if_neg e7,if_neg e8,if_neg e9,if_neg e10,if_neg hl.1,if_neg hl.2]
 rw [st]; exact .inr (.inr (.inr (.inr (.inr rfl))))
theorem Un.ins (h:Un s t) (hl:y.line≠11∧y.line≠12) (hw:U y.find.w) (hr:¬ Mk y.ref) (hc:y.line=2∨y.line=5→¬ Mk (y.find.spot y.level).cur):Un (y.step t s).2 t:=by
 rcases adp (t:=t) (s:=s) y hl with e | ⟨a,e⟩ | ⟨e2,a,e⟩ | ⟨a,x,e⟩ | ⟨e2,a,x,e⟩ | e<;>rw [e]
 ·exact h.find hw
 ·exact h.sm (vN s a)
 ·exact h.or (hc (.inl e2)) (ado s _ _)
 ·exact h.or hr (Ku s _ _ _)
 ·exact h.or (hc (.inr e2)) (Ku s _ _ _)
 ·exact h
end
end Go.Proofs.YtphandknhnkhfaaGreat.Lift
