import Derived.Test.YtkhlabammcghbaaGreatPE
import Derived.Test.YtkhlabammcghbaaGreatPD
import Derived.Test.YtkhlabammcghbaaGreatPC
import Derived.Test.YtkhlabammcghbaaGreatPA
set_option linter.unusedVariables false
set_option linter.unusedSimpArgs false
set_option maxRecDepth 20000
namespace Go.Proofs.YtkhlabammcghbaaGreat.Lift
open Go Go.Proofs.YtkhlabammcghbaaGreat.Gh Go.Proofs
abbrev q0 (g:Sh):Int:=((g.C 0).length:Int)
def r9 (t:TW) (look:Bool):Int:=if look then 2 else dN t+9
def r4 (t:TW) (look:Bool):Int:=if look then 2 else dN t+12+2*t.ay
open Classical in
noncomputable def r7 (t:TW) (g:Sh) (look:Bool) (x:ai):Int:=if Mk (g.c x.i 4) then 3+3*q0 g+r4 t look else 2+r9 t look
def CB (t:TW) (g:Sh) (look:Bool) (x:ai) (N:Int):Prop :=
 (x.line=1∧3*q0 g+1+r4 t look≤N) ∨
 (x.line=2∧(g.c (-1) 4=x.a∧3*q0 g+r4 t look≤N∨3*q0 g+3+r4 t look≤N)) ∨
 (x.line=3∧(g.c (-1) 4=x.a∧3*q0 g - 1+r4 t look≤N∨3*q0 g+2+r4 t look≤N)) ∨
 (x.line=4∧1+2*t.ay+r7 t g look x≤N) ∨
 (x.line=5∧2*x.level+r7 t g look x≤N) ∨
 (x.line=6∧(g.c x.i (4+x.level)=x.w∧2*x.level - 1+r7 t g look x≤N∨2*x.level+1+r7 t g look x≤N)) ∨
 (x.line=7∧r7 t g look x≤N) ∨
 (x.line=8∧(g.c x.i 4=x.w∧1+r9 t look≤N∨1+r7 t g look x≤N)) ∨
 (x.line=9∧r9 t look≤N) ∨
 (x.line=91∧r9 t look - 1≤N) ∨
 (x.line=10∧∃ M,FB t g x.find M∧M+6≤N) ∨
 (x.line=11∧6≤N)
section
variable {t:TW} {own kn F F':Int→Prop} {Fn gp:Prop} {g g' g1:Sh} {l p i j v key known w N M:Int} {A B:List Int} {f:ao} {s:MS} {sp:dy} {x:ai} {look:Bool}
theorem K4 {y:ai} (hl:y.level - 1<1∨2*(y.level - 1)+r7 t g look y≤N) (h7:r7 t g look y≤N):CB t g look y.below N:=by
 unfold ai.below CB
 by_cases c:y.level - 1<1
 ·rw [if_pos c]
  exact .inr (.inr (.inr (.inr (.inr (.inr (.inl ⟨rfl,h7⟩))))))
 ·rw [if_neg c]
  exact .inr (.inr (.inr (.inr (.inl ⟨rfl,hl.resolve_left c⟩))))
theorem acu (L:fy t s.W.length) (h:aP t g) (hv:g.c=vw t s) (hk:pV t g kn) (k:fo t g kn F Fn look x) (hF:∀ j,F j→F' j) (hn:Fn→gp) (kD:∀ j B,g.C 0=j::B→¬ Mk (g.c j 4)→F' j) (od:g.C 0=[]→gp)
  (e1:x.line≠99) (e2:x.line≠11) (e3:x.line≠12) (b:CB t g look x N):∃ g',gK t g kn F' gp look x (x.step look t s) g' ∧((x.step look t s).1.line=99∨CB t g' look (x.step look t s).1 (N - 1)):=by
 obtain ⟨g',G⟩:=KR L h hv hk k hF hn kD od e1 e2 e3
 refine ⟨g',G,?_⟩
 have hs:=k.snd
 have hh:=hs.1
 have hP:=ug hs h
 have hPn:0≤dN t:=Int.le_trans (CH g t.ay.toNat) hP
 have TF:look=true→r9 t look=2:=fun e=>by unfold r9; rw [e]; rfl
 have K5:look=false→r9 t look=dN t+9:=fun e=>by unfold r9; rw [e]; rfl
 have TG:look=true→r4 t look=2:=fun e=>by unfold r4; rw [e]; rfl
 have TH:look=false→r4 t look=dN t+12+2*t.ay:=fun e=>by unfold r4; rw [e]; rfl
 have p4:2≤r4 t look:=by cases look; (rw [TH rfl]; omega); (rw [TG rfl]; omega)
 have p9:2≤r9 t look:=by cases look; (rw [K5 rfl]; omega); (rw [TF rfl]; omega)
 have TI:∀ {g:Sh} {y:ai},Mk (g.c y.i 4)→r7 t g look y=3+3*q0 g+r4 t look:=fun m=>by unfold r7; rw [if_pos m]
 have FJ:∀ {g:Sh} {y:ai},¬ Mk (g.c y.i 4)→r7 t g look y=2+r9 t look:=fun m=>by unfold r7; rw [if_neg m]
 have q0n:0≤q0 g:=by show (0:Int)≤((g.C 0).length:Int); omega
 have p7:∀ y:ai,2≤r7 t g look y:=fun y=>by
  rcases Classical.em (Mk (g.c y.i 4)) with m | m
  ·rw [TI m]; omega
  ·rw [FJ m]; omega
 have CC:cd t (-1) (4+0):=.inl ⟨rfl,by omega,by omega⟩
 have jX:aN t (-1) 0=az t (-1) (4+0):=gI hs (by omega) (by omega) _
 have C0:x.line≠3→x.line≠10→g'.C=g.C:=fun a b=>by
  rcases G.C with ⟨q,_⟩ | ⟨q,_⟩ | ⟨q,_⟩
  ·exact q
  ·exact absurd q a
  ·exact absurd q b
 have vO:x.line≠3→x.line≠10→q0 g' =q0 g:=fun a b=>by show ((g'.C 0).length:Int)=_; rw [C0 a b]
 have nd:=k.nd
 rcases b with ⟨e,b⟩ | ⟨e,b⟩ | ⟨e,b⟩ | ⟨e,b⟩ | ⟨e,b⟩ | ⟨e,b⟩ | ⟨e,b⟩ | ⟨e,b⟩ | ⟨e,b⟩ | ⟨e,b⟩ | ⟨e,b⟩ | ⟨e,b⟩
 ·obtain ⟨c1,c2⟩:=fZ L CC
  rw [← hv] at c1 c2
  have jP:(s.load (az t (-1) (4+0))).new=g.c (-1) 4:=by simpa using c1
  have au:x.step look t s=x.l1 t s:=by unfold ai.step; simp [e]
  have hc:=G.c
  rw [au] at hc ⊢
  unfold ai.l1 at hc ⊢
  simp only [jX,jP] at hc ⊢
  split
  ·exact .inl rfl
  ·right
   unfold CB
   refine .inr (.inl ⟨rfl,.inl ⟨?_,?_⟩⟩)
   ·rw [hc,c2]
   ·rw [vO (by omega) (by omega)]; omega
 ·have pY:=nd (by omega) (by omega)
  have bb:=h.bo _ _ pY.2.2
  have Ae:cd t x.i 4:=.inr ⟨bb.1,bb.2.1,by omega,by omega⟩
  obtain ⟨c1,c2⟩:=fZ L Ae
  rw [← hv] at c1 c2
  have au:x.step look t s=({ x with ar:=x.a,w:=g.c x.i 4,line:=if Mk (g.c x.i 4) then 3 else if look then 9 else 4 },s.load (az t x.i 4)):=by
   have:x.step look t s=x.l2 look t s:=by unfold ai.step; simp [e]
   rw [this]
   unfold ai.l2
   simp only [c1]
  have hc:=G.c
  rw [au] at hc ⊢
  rw [c2] at hc
  right
  by_cases c:Mk (g.c x.i 4)
  ·simp only [if_pos c]
   unfold CB
   refine .inr (.inr (.inl ⟨rfl,?_⟩))
   rw [vO (by omega) (by omega),hc]
   exact b.imp (fun q=>⟨q.1,by omega⟩) fun q=>by omega
  ·simp only [if_neg c]
   have hq:1+r4 t look≤N:=by
    rcases b with ⟨b1,b2⟩ | b
    ·have:1≤q0 g:=by
      rcases KL hs h with ⟨z1,z2⟩ | ⟨j',B,z1,_⟩
      ·rw [b1,pY.1] at z1
       have:=(h.rf x.i bb.1 bb.2.1).2.1
       omega
      ·show (1:Int)≤((g.C 0).length:Int); rw [z1]; simp; omega
     omega
    ·omega
   cases look with
   | true =>
    simp only [if_true]
    unfold CB
    refine .inr (.inr (.inr (.inr (.inr (.inr (.inr (.inr (.inl ⟨rfl,?_⟩))))))))
    have:=TF rfl; have:=TG rfl; omega
   | false =>
    simp only [Bool.false_eq_true,if_false]
    unfold CB
    refine .inr (.inr (.inr (.inl ⟨rfl,?_⟩)))
    rw [FJ (by rw [hc]; exact c)]
    have:=K5 rfl; have:=TH rfl; omega
 ·right
  have au:x.step look t s=({ x with ar:=0,line:=1 },s.bM (az t (-1) (4+0)) x.a (x.w - aM)):=by
   have:x.step look t s=x.l3 t s:=by unfold ai.step; simp [e]
   rw [this]
   unfold ai.l3
   rw [jX]
  rw [au]
  unfold CB
  refine .inl ⟨rfl,?_⟩
  rcases G.C with ⟨z1,_,z2⟩ | ⟨_,_,z⟩ | ⟨z,_⟩
  ·have:q0 g' =q0 g:=by show ((g'.C 0).length:Int)=_; rw [z1]
   rcases b with ⟨b1,_⟩ | b
   ·exact absurd b1 (z2 e)
   ·omega
  ·have:q0 g' +1=q0 g:=by show ((g'.C 0).length:Int)+1=((g.C 0).length:Int); omega
   rcases b with ⟨b1,b⟩ | b<;>omega
  ·omega
 ·have pY:=nd (by omega) (by omega)
  have bb:=h.bo _ _ pY.2.2
  have hi:=h.hi _ bb.2.2.2.2.1
  have lk:=k.my (by omega)
  subst lk
  have hP2:cd t x.i 2:=.inr ⟨bb.1,bb.2.1,by omega,by omega⟩
  obtain ⟨c1,c2⟩:=fZ L hP2
  rw [← hv] at c1 c2
  have au:x.step false t s=(({ x with ar:=x.a,level:=if g.c x.i 2<t.ay then g.c x.i 2 else t.ay }:ai).below,s.load (az t x.i 2)):=by
   have:x.step false t s=x.l4 t s:=by unfold ai.step; simp [e]
   rw [this]
   unfold ai.l4
   simp only [c1]
  have hc:=G.c
  rw [au] at hc ⊢
  rw [c2] at hc
  right
  have e7:r7 t g' false { x with ar:=x.a,level:=if g.c x.i 2<t.ay then g.c x.i 2 else t.ay }=r7 t g false x:=by
   unfold r7
   rw [hc,vO (by omega) (by omega)]
  have hl:(if g.c x.i 2<t.ay then g.c x.i 2 else t.ay)=g.c x.i 2:=by split<;>omega
  refine K4 (.inr ?_) ?_
  ·rw [e7]; simp only [hl]; omega
  ·rw [e7]; omega
 ·have pY:=nd (by omega) (by omega)
  have bb:=h.bo _ _ pY.2.2
  have hi:=h.hi _ bb.2.2.2.2.1
  have lk:=k.my (by omega)
  subst lk
  obtain ⟨v1,v2,v3⟩:=k.lv (.inl e)
  have FK:cd t x.i (4+x.level):=jk (by omega) (by omega) (.inr ⟨bb.1,bb.2.1⟩)
  obtain ⟨c1,c2⟩:=fZ L FK
  rw [← hv] at c1 c2
  have au:x.step false t s=(if Mk (g.c x.i (4+x.level)) then ({ x with ar:=x.a,w:=g.c x.i (4+x.level),line:=6 }:ai).below else { x with ar:=x.a,w:=g.c x.i (4+x.level),line:=6 },s.load (az t x.i (4+x.level))):=by
   have:x.step false t s=x.l5 t s:=by unfold ai.step; simp [e]
   rw [this]
   unfold ai.l5
   simp only [c1]
  have hc:=G.c
  rw [au] at hc ⊢
  simp only [c2] at hc
  right
  have e7:r7 t g' false { x with ar:=x.a,w:=g.c x.i (4+x.level),line:=6 }=r7 t g false x:=by
   unfold r7
   rw [hc,vO (by omega) (by omega)]
  by_cases c:Mk (g.c x.i (4+x.level))
  ·rw [if_pos c]
   refine K4 (.inr ?_) ?_
   ·rw [e7]; simp only; omega
   ·rw [e7]; omega
  ·rw [if_neg c]
   unfold CB
   refine .inr (.inr (.inr (.inr (.inr (.inl ⟨rfl,.inl ⟨by rw [hc],?_⟩⟩)))))
   rw [e7]; simp only; omega
 ·have pY:=nd (by omega) (by omega)
  have bb:=h.bo _ _ pY.2.2
  have hi:=h.hi _ bb.2.2.2.2.1
  have lk:=k.my (by omega)
  subst lk
  obtain ⟨v1,v2,v3⟩:=k.lv (.inr e)
  have FK:cd t x.i (4+x.level):=jk (by omega) (by omega) (.inr ⟨bb.1,bb.2.1⟩)
  have fT:aN t x.i x.level=az t x.i (4+x.level):=gI hs (by omega) (by omega) _
  have h6:x.step false t s=x.l6 t s:=by unfold ai.step; simp [e]
  right
  by_cases c:g.c x.i (4+x.level)=x.w
  ·obtain ⟨c1,c2⟩:=pT L FK (x:=x.w) (x.w+aM) (by rw [← hv]; exact c)
   rw [← hv] at c2
   have au:x.step false t s=(({ x with ar:=x.a,line:=5 }:ai).below,s.bM (az t x.i (4+x.level)) x.w (x.w+aM)):=by
    rw [h6]
    unfold ai.l6
    simp only [fT,c1,if_true]
   have hc:=G.c
   rw [au] at hc ⊢
   rw [c2] at hc
   have e4:g'.c x.i 4=g.c x.i 4:=by rw [hc]; exact Vw.dg _ _ (by omega)
   have e7:r7 t g' false { x with ar:=x.a,line:=5 }=r7 t g false x:=by
    unfold r7
    simp only [e4,vO (by omega) (by omega)]
   refine K4 (.inr ?_) ?_
   ·rw [e7]; simp only; omega
   ·rw [e7]; omega
  ·obtain ⟨c1,c2⟩:=pU L FK (x:=x.w) (x.w+aM) (by rw [← hv]; exact c)
   rw [← hv] at c2
   have au:x.step false t s=({ x with ar:=x.a,line:=5 },s.bM (az t x.i (4+x.level)) x.w (x.w+aM)):=by
    rw [h6]
    unfold ai.l6
    simp only [fT,c1,Bool.false_eq_true,if_false]
   have hc:=G.c
   rw [au] at hc ⊢
   rw [c2] at hc
   have e7:r7 t g' false { x with ar:=x.a,line:=5 }=r7 t g false x:=by
    unfold r7
    rw [hc,vO (by omega) (by omega)]
   unfold CB
   refine .inr (.inr (.inr (.inr (.inl ⟨rfl,?_⟩))))
   rw [e7]
   have b':=b.resolve_left fun q=>c q.1
   simp only; omega
 ·have pY:=nd (by omega) (by omega)
  have bb:=h.bo _ _ pY.2.2
  have lk:=k.my (by omega)
  subst lk
  have Ae:cd t x.i 4:=.inr ⟨bb.1,bb.2.1,by omega,by omega⟩
  obtain ⟨c1,c2⟩:=fZ L Ae
  rw [← hv] at c1 c2
  have au:x.step false t s=({ x with ar:=x.a,w:=g.c x.i 4,line:=if Mk (g.c x.i 4) then 3 else 8 },s.load (az t x.i 4)):=by
   have:x.step false t s=x.l7 t s:=by unfold ai.step; simp [e]
   rw [this]
   unfold ai.l7
   simp only [c1]
  have hc:=G.c
  rw [au] at hc ⊢
  rw [c2] at hc
  right
  by_cases c:Mk (g.c x.i 4)
  ·simp only [if_pos c]
   rw [TI c] at b
   unfold CB
   refine .inr (.inr (.inl ⟨rfl,.inr ?_⟩))
   rw [vO (by omega) (by omega)]; omega
  ·simp only [if_neg c]
   rw [FJ c] at b
   unfold CB
   exact .inr (.inr (.inr (.inr (.inr (.inr (.inr (.inl ⟨rfl,.inl ⟨by rw [hc],by omega⟩⟩)))))))
 ·have pY:=nd (by omega) (by omega)
  have bb:=h.bo _ _ pY.2.2
  have lk:=k.my (by omega)
  subst lk
  have wu:=k.w6 (.inr e)
  have Ae:cd t x.i (4+0):=jk (by omega) (by omega) (.inr ⟨bb.1,bb.2.1⟩)
  have fT:aN t x.i 0=az t x.i (4+0):=gI hs (by omega) (by omega) _
  have h8:x.step false t s=x.l8 t s:=by unfold ai.step; simp [e]
  right
  by_cases c:g.c x.i (4+0)=x.w
  ·obtain ⟨c1,c2⟩:=pT L Ae (x:=x.w) (x.w+aM) (by rw [← hv]; exact c)
   have au:x.step false t s=({ x with ar:=x.a,cj:=true,line:=9 },s.bM (az t x.i (4+0)) x.w (x.w+aM)):=by
    rw [h8]
    unfold ai.l8
    simp only [fT,c1,if_true]
   have Fy:¬ Mk (g.c x.i 4):=by rw [show (4:Int)+0=4 by omega] at c; rw [c]; exact wu
   rw [au]
   unfold CB
   refine .inr (.inr (.inr (.inr (.inr (.inr (.inr (.inr (.inl ⟨rfl,?_⟩))))))))
   rw [FJ Fy] at b
   rcases b with ⟨_,b⟩ | b<;>omega
  ·obtain ⟨c1,c2⟩:=pU L Ae (x:=x.w) (x.w+aM) (by rw [← hv]; exact c)
   rw [← hv] at c2
   have au:x.step false t s=({ x with ar:=x.a,line:=7 },s.bM (az t x.i (4+0)) x.w (x.w+aM)):=by
    rw [h8]
    unfold ai.l8
    simp only [fT,c1,Bool.false_eq_true,if_false]
   have hc:=G.c
   rw [au] at hc ⊢
   rw [c2] at hc
   have e7:r7 t g' false { x with ar:=x.a,line:=7 }=r7 t g false x:=by
    unfold r7
    rw [hc,vO (by omega) (by omega)]
   unfold CB
   refine .inr (.inr (.inr (.inr (.inr (.inr (.inl ⟨rfl,?_⟩))))))
   rw [e7]
   have b':=b.resolve_left fun q=>c (by rw [show (4:Int)+0=4 by omega]; exact q.1)
   omega
 ·have au:(x.step look t s).1.line=91:=by
   have:x.step look t s=x.l9 t s:=by unfold ai.step; simp [e]
   rw [this]; rfl
  right
  unfold CB
  exact .inr (.inr (.inr (.inr (.inr (.inr (.inr (.inr (.inr (.inl ⟨au,by omega⟩)))))))))
 ·have au:x.step look t s=x.l91 look t s:=by unfold ai.step; simp [e]
  rw [au]
  unfold ai.l91
  cases look with
  | true=>exact .inl rfl
  | false =>
   right
   simp only [Bool.false_eq_true,if_false]
   unfold CB
   have xP:=ug hs G.inv
   refine .inr (.inr (.inr (.inr (.inr (.inr (.inr (.inr (.inr (.inr (.inl ⟨rfl,PP t g',(FG.fresh G.inv hs).fb,?_⟩))))))))))
   have:=K5 rfl; omega
 ·obtain ⟨M,q,r⟩:=b
  have lk:=k.my (by omega)
  subst lk
  obtain ⟨f1,f2,f3⟩:=k.find e
  have key:=k.key (by omega)
  have u0:=(h.u x.i 0).1
  have au:x.step false t s=x.l10 t s:=by unfold ai.step; simp [e]
  right
  rw [au]
  unfold ai.l10
  have n9:x.find.line≠9:=k.f9 e
  by_cases h9:(x.find.step t s).1.line=9
  ·simp only [h9,if_true]
   have:=q.pos h f1 n9
   unfold CB
   exact .inr (.inr (.inr (.inr (.inr (.inr (.inr (.inr (.inr (.inr (.inr ⟨rfl,by omega⟩))))))))))
  ·simp only [h9,if_false]
   have V:=(FE L h hv hk f1 (by rw [f2,key]; exact u0) n9 q).resolve_left h9
   have dU:g' =g.fs t x.find:=by
    rcases G.C with ⟨_,z,_⟩ | ⟨z,_⟩ | ⟨_,z⟩
    ·exact absurd e z
    ·omega
    ·exact z
   rw [← dU] at V
   unfold CB
   exact .inr (.inr (.inr (.inr (.inr (.inr (.inr (.inr (.inr (.inr (.inl ⟨rfl,M - 1,V,by omega⟩))))))))))
 ·exact absurd e e2
end
def RB (s:MS):da→Int→Prop
 | .looks,M=>4≤M
 | .push R (.go n w _),M=>(n=1∧3≤M)∨(n=2∧(s.aS R.top=w∧2≤M∨5≤M))∨(n=3∧(s.aS R.top=w∧1≤M∨4≤M))
 | _,M=>1≤M
def kJ (t:TW) (x:Cm) (g:Sh) (c:Nat) (M:Int):Prop :=
 if c=0 then (x.ins.line≤11∧IB t g x.ins M)∨(x.ins.line=12∧RB x.s x.ins.ret M)
 else ((x.cl c).line≠12∧CB t g (lk c) (x.cl c) M)∨((x.cl c).line=12∧RB x.s (x.cl c).ret M)
section
variable {t:TW} {N:Nat} {K H:Int→Int} {x y:Cm} {g g':Sh} {c d:Nat} {i j v l p M:Int} {s s':MS} {z:ai} {r:da}
theorem RB.pos (h:RB s r M):1≤M:=by
 unfold RB at h
 split at h<;>omega
theorem acv (L:Pl t N) (e:Int):(t.wait e).top=t.u12+e % 4294967296 % 3:=by
 have e1:=L.cG; have e2:=L.links; have e3:=L.u12; have z:=L.u11; have z1:=L.snd.2.2.2.1; have z2:=L.snd.2.2.1
 exact wrap64 (by omega) (by omega)
theorem RB.step (L:Pl t N) (hN:s.W.length=N) (h0:0≤i∧i<t.size) (hr:r.ok t) (hI:ue t i r) (h:RB s r M):(r.step t i s).1.over=true∨RB (r.step t i s).2 (r.step t i s).1 (M - 1):=by
 have e1:=L.cG; have e2:=L.links; have e3:=L.u12; have z:=L.u11; have z1:=L.snd.2.2.2.1; have z2:=L.snd.2.2.1; have z3:=L.snd.1; have e4:=L.fits
 cases r with
 | looks =>
  refine .inr ?_
  simp only [da.step]
  rw [Kt h0.1 (by exact h0.2)]
  have:4≤M:=h
  exact .inl ⟨rfl,by omega⟩
 | done=>exact .inl rfl
 | push R p =>
  obtain ⟨⟨e,rfl⟩,n,w,rfl⟩:=hI R p rfl
  have ht:=acv L e
  have eJ:0≤(t.wait e).top∧(t.wait e).top<s.W.length:=by omega
  obtain ⟨-,⟨n1,n3,-⟩,-⟩:=hr
  rcases (show n=1∨n=2∨n=3 by omega) with rfl | rfl | rfl
  ·refine .inr ?_
   have h3:3≤M:=by rcases h with h | h | h<;>omega
   refine .inr (.inl ⟨rfl,.inl ⟨?_,by omega⟩⟩)
   show (s.load (t.wait e).top).aS (t.wait e).top=(s.load (t.wait e).top).new
   rw [SE eJ,Kx eJ]
  ·refine .inr ?_
   have hs:(s.store ((t.wait e).links+i) (aF (t.wait e).size w+1)).aS (t.wait e).top=s.aS (t.wait e).top:=Fl (by show (t.wait e).top≠t.links+i; omega)
   refine .inr (.inr ⟨rfl,?_⟩)
   rcases h with h | ⟨_,h⟩ | h
   ·omega
   ·rcases h with ⟨a,b⟩ | b
    ·exact .inl ⟨hs.trans a,by omega⟩
    ·exact .inr (by omega)
   ·omega
  ·by_cases hc:s.aS (t.wait e).top=w
   ·refine .inl ?_
    have:(s.bM (t.wait e).top w (qO i w)).held=true:=by rw [Fk eJ]; exact decide_eq_true hc
    simp [da.step,da.after,eM.step,this,eM.over,da.over]
   ·refine .inr ?_
    have:(s.bM (t.wait e).top w (qO i w)).held=false:=by rw [Fk eJ]; exact decide_eq_false hc
    simp only [da.step,da.after,eM.step,this]
    refine .inl ⟨rfl,?_⟩
    rcases h with h | h | ⟨_,h⟩
    ·omega
    ·omega
    ·rcases h with ⟨a,b⟩ | b
     ·exact absurd a hc
     ·omega
theorem RB.mono {M':Int} (h:RB s r M) (hm:M≤M'):RB s r M':=by
 unfold RB at h ⊢
 split at h<;>omega
theorem RB.any (hr:r.ok t):RB s r 5:=by
 cases r with
 | looks=>show (4:Int)≤5; decide
 | done=>show (1:Int)≤5; decide
 | push R p =>
  cases p with
  | done e=>show (1:Int)≤5; decide
  | go n w i =>
   obtain ⟨-,⟨n1,n3,-⟩,-⟩:=hr
   rcases (show n=1∨n=2∨n=3 by omega) with rfl | rfl | rfl
   ·exact .inl ⟨rfl,by decide⟩
   ·exact .inr (.inl ⟨rfl,.inr (by decide)⟩)
   ·exact .inr (.inr ⟨rfl,.inr (by decide)⟩)
theorem IB.ln {x:aj} (b:IB t g x M):(1≤x.line∧x.line≤11):=by
 unfold IB at b
 rcases b with b | b | b | b | b | b | b | b | b | b | b<;>(have:=b.1; omega)
theorem IB.pos {x:aj} (L:Pl t N) (h:aP t g) (hl:0≤x.level∧x.level≤x.hi∧(x.line=2∨x.line=4∨x.line=5∨x.line=6∨x.line=7∨x.line=8→x.level<x.hi)) (hf:x.line≠11→ga t g (fun _=>True) x.find) (h9:x.line=1∨x.line=7∨x.line=10→x.find.line≠9) (b:IB t g x M):1≤M:=by
 have hP:0≤dN t:=Int.mul_nonneg (by have:=L.snd.1; omega) (by have:=L.snd.2.2.1; omega)
 have e9:c9 t=dN t+7:=rfl
 have eX:cX t x=dN t+1+3*x.hi+c9 t:=rfl
 unfold IB at b
 rcases b with ⟨e,b⟩ | ⟨e,m,q,b⟩ | ⟨e,b⟩ | ⟨e,⟨q,b⟩ | b⟩ | ⟨e,⟨q,b⟩ | b⟩ | ⟨e,⟨q,b⟩ | b⟩ | ⟨e,⟨m,q,b⟩ | ⟨m,q,b⟩⟩ | ⟨e,⟨q,b⟩ | b⟩ | ⟨e,⟨q,b⟩ | b⟩ | ⟨e,⟨q,b⟩ | b⟩ | ⟨e,⟨m,q,b⟩ | ⟨m,q,b⟩⟩
 ·omega
 ·have:=q.pos h (hf (by omega)) (h9 (by omega)); omega
 all_goals first
  | omega
  | (have:=q.pos h (hf (by omega)) (h9 (by omega)); omega)
theorem bJ.PM (L:Pl t N):3≤dN t:=by
 have h1:=L.snd.1; have h2:=L.snd.2.2.1
 have:=Int.mul_le_mul_of_nonneg_right h1 (show 0≤2*t.size+1 by omega)
 unfold dN
 omega
theorem bJ.anyI (I:bJ t N K H x g) (L:Pl t N) (h0:0≤x.o 0):kJ t x g 0 (6*dN t+40):=by
 obtain ⟨n1,n2,k,k0,dR⟩:=I.ins h0
 obtain ⟨a1,a2,a3⟩:=I.ik h0
 have P:=bJ.PM L
 have Pe:=ug L.snd I.inv
 have i0:=k.i0 I.inv
 have hh:=L.snd.1; have TJ:=L.snd.2.1
 unfold kJ
 rw [if_pos rfl]
 have fb:x.ins.line≤10→FB t g x.ins.find (4+PP t g):=fun e=>FB.any (k.fi a3 e).1
 have e9:c9 t=dN t+7:=rfl
 have eX:cX t x.ins=dN t+1+3*x.ins.hi+c9 t:=rfl
 have lv:=k.aQ
 rcases k.line with e | e | e | e | e | e | e | e | e | e | e | e | e
 ·omega
 ·exact .inl ⟨by omega,.inr (.inr (.inr (.inr (.inr (.inr (.inr (.inr (.inr (.inr ⟨e,.inr ⟨_,fb (by omega),by omega⟩⟩)))))))))⟩
 ·exact .inl ⟨by omega,.inr (.inr (.inr (.inr (.inr (.inr (.inr (.inr (.inr (.inl ⟨e,.inr (by omega)⟩)))))))))⟩
 ·exact .inl ⟨by omega,.inr (.inr (.inr (.inr (.inr (.inr (.inr (.inr (.inl ⟨e,.inr (by omega)⟩))))))))⟩
 ·exact .inl ⟨by omega,.inr (.inr (.inr (.inl ⟨e,.inr (by omega)⟩)))⟩
 ·exact .inl ⟨by omega,.inr (.inr (.inr (.inr (.inl ⟨e,.inr (by omega)⟩))))⟩
 ·exact .inl ⟨by omega,.inr (.inr (.inr (.inr (.inr (.inl ⟨e,.inr (by omega)⟩)))))⟩
 ·exact .inl ⟨by omega,.inr (.inr (.inr (.inr (.inr (.inr (.inl ⟨e,.inr ⟨_,fb (by omega),by omega⟩⟩))))))⟩
 ·exact .inl ⟨by omega,.inr (.inr (.inr (.inr (.inr (.inr (.inr (.inl ⟨e,.inr (by omega)⟩)))))))⟩
 ·exact .inl ⟨by omega,.inr (.inr (.inl ⟨e,by omega⟩))⟩
 ·exact .inl ⟨by omega,.inr (.inl ⟨e,_,fb (by omega),by omega⟩)⟩
 ·exact .inl ⟨by omega,.inl ⟨e,by omega⟩⟩
 ·refine .inr ⟨e,?_⟩
  have:=RB.any (s:=x.s) (dR.ret e)
  exact this.mono (by omega)
theorem bJ.acw (I:bJ t N K H x g) (L:Pl t N) (c1:1≤c) (c3:c≤3) (h0:0≤x.o c):kJ t x g c (6*dN t+40):=by
 obtain ⟨k,k99,dR⟩:=I.cl c c1 c3 h0
 have P:=bJ.PM L
 have Pe:=ug L.snd I.inv
 have hh:=L.snd.1; have TJ:=L.snd.2.1
 unfold kJ
 rw [if_neg (by omega)]
 have q0b:0≤q0 g∧2*q0 g≤dN t:=by
  have h0:(0:Int)≤0:=by omega
  have hb:∀ i∈g.C 0,0≤i∧i<t.size:=fun i hi=>by have:=I.inv.bo _ _ (I.inv.jl 0 i h0 (by omega) hi); exact ⟨this.1,this.2.1⟩
  have hn:=(List.nodup_cons.1 (I.inv.nodup h0 (by omega))).2
  have z:=L.snd.2.2.1
  have:=FH t.size.toNat (g.C 0) hn fun i hi=>by have:=hb i hi; omega
  have a:q0 g=((g.C 0).length:Int):=rfl
  have h2:=Int.mul_le_mul_of_nonneg_right hh (show 0≤2*t.size+1 by omega)
  unfold dN
  omega
 have e9:r9 t (lk c)≤dN t+9:=by unfold r9; split<;>omega
 have e4:r4 t (lk c)≤dN t+12+2*t.ay:=by unfold r4; split<;>omega
 have e7:r7 t g (lk c) (x.cl c)≤3+3*q0 g+dN t+12+2*t.ay:=by
  unfold r7; split<;>omega
 have mx:3*q0 g+dN t+15+2*t.ay+(2*t.ay+1)≤6*dN t+40:=by omega
 have lv:(x.cl c).level≤t.ay:=dR.aQ.2.1
 rcases k.line with e | e | e | e | e | e | ⟨_,e | e | e | e | e | e | e | e⟩
 ·exact .inl ⟨by omega,.inl ⟨e,by omega⟩⟩
 ·exact .inl ⟨by omega,.inr (.inl ⟨e,.inr (by omega)⟩)⟩
 ·exact .inl ⟨by omega,.inr (.inr (.inl ⟨e,.inr (by omega)⟩))⟩
 ·exact .inl ⟨by omega,.inr (.inr (.inr (.inr (.inr (.inr (.inr (.inr (.inl ⟨e,by omega⟩))))))))⟩
 ·exact .inl ⟨by omega,.inr (.inr (.inr (.inr (.inr (.inr (.inr (.inr (.inr (.inl ⟨e,by omega⟩)))))))))⟩
 ·omega
 ·exact .inl ⟨by omega,.inr (.inr (.inr (.inl ⟨e,by omega⟩)))⟩
 ·exact .inl ⟨by omega,.inr (.inr (.inr (.inr (.inl ⟨e,by omega⟩))))⟩
 ·exact .inl ⟨by omega,.inr (.inr (.inr (.inr (.inr (.inl ⟨e,.inr (by omega)⟩)))))⟩
 ·exact .inl ⟨by omega,.inr (.inr (.inr (.inr (.inr (.inr (.inl ⟨e,by omega⟩))))))⟩
 ·exact .inl ⟨by omega,.inr (.inr (.inr (.inr (.inr (.inr (.inr (.inl ⟨e,.inr (by omega)⟩)))))))⟩
 ·exact .inl ⟨by omega,.inr (.inr (.inr (.inr (.inr (.inr (.inr (.inr (.inr (.inr (.inl ⟨e,_,FB.any (k.find e).1,by omega⟩))))))))))⟩
 ·exact .inl ⟨by omega,.inr (.inr (.inr (.inr (.inr (.inr (.inr (.inr (.inr (.inr (.inr ⟨e,by omega⟩))))))))))⟩
 ·refine .inr ⟨e,?_⟩
  have:=RB.any (s:=x.s) (dR.ret e)
  exact this.mono (by omega)
theorem bJ.acx (I:bJ t N K H x g) (L:Pl t N) (h0:0≤x.o 0) (b:kJ t x g 0 M):1≤M:=by
 obtain ⟨n1,n2,k,k0,dR⟩:=I.ins h0
 obtain ⟨a1,a2,a3⟩:=I.ik h0
 unfold kJ at b
 rw [if_pos rfl] at b
 rcases b with ⟨e,b⟩ | ⟨e,b⟩
 ·exact IB.pos L I.inv ⟨k.aQ.1,k.aQ.2.1,k.aQ.2.2.1⟩ (fun q=>(k.fi a3 (by have:=b.ln; omega)).1) k.n9 b
 ·exact b.pos
theorem bJ.acy (I:bJ t N K H x g) (L:Pl t N) (c1:1≤c) (c3:c≤3) (h0:0≤x.o c) (b:kJ t x g c M):1≤M:=by
 obtain ⟨k,k99,dR⟩:=I.cl c c1 c3 h0
 have P:=bJ.PM L
 have hh:=L.snd.1; have TJ:=L.snd.2.1
 unfold kJ at b
 rw [if_neg (by omega)] at b
 rcases b with ⟨e,b⟩ | ⟨e,b⟩
 ·have q0n:0≤q0 g:=by show (0:Int)≤((g.C 0).length:Int); omega
  have e9:2≤r9 t (lk c):=by unfold r9; split<;>omega
  have e4:2≤r4 t (lk c):=by unfold r4; split<;>omega
  have e7:2≤r7 t g (lk c) (x.cl c):=by unfold r7; split<;>omega
  rcases b with ⟨e,b⟩ | ⟨e,⟨_,b⟩ | b⟩ | ⟨e,⟨_,b⟩ | b⟩ | ⟨e,b⟩ | ⟨e,b⟩ | ⟨e,⟨_,b⟩ | b⟩ | ⟨e,b⟩ | ⟨e,⟨_,b⟩ | b⟩ | ⟨e,b⟩ | ⟨e,b⟩ | ⟨e,m,q,b⟩ | ⟨e,b⟩
  all_goals first
   | omega
   | (have:=dR.aQ.2.2 (by omega); omega)
   | skip
  have:=q.pos I.inv (k.find e).1 (k.f9 e); omega
 ·exact b.pos
theorem bJ.acz (I:bJ t N K H x g) (L:Pl t N) (h0:0≤x.o 0) (b:kJ t x g 0 M):∃ g',bJ t N K H (x.iD t) g' ∧((x.iD t).o 0<0∨kJ t (x.iD t) g' 0 (M - 1)):=by
 obtain ⟨n1,n2,k,k0,dR⟩:=I.ins h0
 obtain ⟨a1,a2,a3⟩:=I.ik h0
 have i0:=k.i0 I.inv
 unfold kJ at b ⊢
 rw [if_pos rfl] at b
 simp only [if_true]
 rcases b with ⟨e,b⟩ | ⟨e,b⟩
 ·by_cases e10:x.ins.line≤10
  ·obtain ⟨g',h',gd,hc,k',b',lo⟩:=acp (I.sv L) a1 I.inv I.c (fun _ _ _ _ _=>trivial) k a2 a3 e10 b
   have ln:=x.ins.z8 t x.s a3 e10
   exact ⟨g',I.Tk L h0 e10 h' gd hc k' lo,.inr (.inl ⟨ln.2,b'⟩)⟩
  ·have e11:x.ins.line=11:=by omega
   obtain ⟨g',J⟩:=I.Tp L h0 e11
   refine ⟨g',J,?_⟩
   have au:x.ins.step t x.s=x.ins.l11 t x.s:=by unfold aj.step; simp [e11]
   have b6:6≤M:=by
    unfold IB at b
    rcases b with b | b | b | b | b | b | b | b | b | b | b<;>(have:=b.1; omega)
   by_cases q:(x.s.add (az t x.ins.i 3) 18446744073709551615).new=0
   ·refine .inr (.inr ⟨?_,?_⟩)
    ·show (x.ins.step t x.s).1.line=12
     rw [au]; unfold aj.l11; rw [if_pos q]
    ·show RB _ (x.ins.step t x.s).1.ret _
     rw [au]; unfold aj.l11; rw [if_pos q]
     show (4:Int)≤M - 1
     omega
   ·refine .inl ?_
    show (if _ then _ else _:Nat→Int) 0<0
    rw [au]; unfold aj.l11; rw [if_neg q,if_pos rfl,dG]; decide
 ·refine ⟨g,I.Tq L h0 e,?_⟩
  have au:x.ins.step t x.s=x.ins.l12 t x.s:=by unfold aj.step; simp [e]
  rcases b.step L I.len ⟨i0.1,i0.2.1⟩ (dR.ret e) (I.ri h0 e) with o | o
  ·refine .inl ?_
   show (if _ then _ else _:Nat→Int) 0<0
   rw [au]; unfold aj.l12; rw [if_pos (by simp only; rw [if_pos o]),dG]; decide
  ·by_cases q:(x.ins.ret.step t x.ins.i x.s).1.over=true
   ·refine .inl ?_
    show (if _ then _ else _:Nat→Int) 0<0
    rw [au]; unfold aj.l12; rw [if_pos (by simp only; rw [if_pos q]),dG]; decide
   ·refine .inr (.inr ⟨?_,?_⟩)
    ·show (x.ins.step t x.s).1.line=12
     rw [au]; unfold aj.l12; simp [q]
    ·show RB (x.ins.step t x.s).2 (x.ins.step t x.s).1.ret _
     rw [au]; exact o
theorem bJ.acA (I:bJ t N K H x g) (L:Pl t N) (c1:1≤c) (c3:c≤3) (h0:0≤x.o c) (b:kJ t x g c M):∃ g',bJ t N K H (x.eo t c) g' ∧((x.eo t c).o c<0∨kJ t (x.eo t c) g' c (M - 1)):=by
 obtain ⟨k,k99,dR⟩:=I.cl c c1 c3 h0
 have S:=uj t x c
 have FL:((x.cl c).step (lk c) t x.s).1.line=99→(x.eo t c).o c<0:=fun e=>Classical.byContradiction fun q=>S.oc (by omega) e
 unfold kJ at b ⊢
 rw [if_neg (by omega)] at b
 rw [S.cc,S.s]
 simp only [if_neg (show ¬ c=0 by omega)]
 rcases b with ⟨e,b⟩ | ⟨e,b⟩
 ·by_cases e11:(x.cl c).line=11
  ·have hc:c=1∨c=2:=by
    have:c≠3:=by rintro rfl; have:=k.my (by omega); simp [lk] at this
    omega
   obtain ⟨g',J⟩:=I.TD L hc h0 e11
   refine ⟨g',J,?_⟩
   have au:(x.cl c).step (lk c) t x.s=(x.cl c).l11 t x.s:=by unfold ai.step; simp [e11]
   have b6:6≤M:=by
    unfold CB at b
    rcases b with b | b | b | b | b | b | b | b | b | b | b | b<;>first | (have:=b.1; omega) | skip
   by_cases q:(x.s.add (az t (x.cl c).i 3) 18446744073709551615).new=0
   ·refine .inr (.inr ⟨?_,?_⟩)
    ·rw [au]; unfold ai.l11; simp only; rw [if_pos q]
    ·rw [au]; unfold ai.l11; simp only; rw [if_pos q]
     show (4:Int)≤M - 1
     omega
   ·refine .inl (FL ?_)
    rw [au]; unfold ai.l11; simp only; rw [if_neg q]
  ·obtain ⟨p1,p2,p3,p4⟩:=I.KZ L (c:=c)
   obtain ⟨g',G,q⟩:=acu (I.sv L) I.inv I.c (fun _ _ _ _ _=>trivial) k p1 p2 p3 p4 k99 e11 e b
   refine ⟨g',I.TC L c1 c3 h0 e11 e G,?_⟩
   rcases q with q | q
   ·exact .inl (FL q)
   ·exact .inr (.inl ⟨((x.cl c).z8 (lk c) t x.s e11 e k99 k.line).1,q⟩)
 ·have hc:c=1∨c=2:=by
   have:c≠3:=by rintro rfl; have:=k.my (by omega); simp [lk] at this
   omega
  have fc:bY (x.cl c):=by unfold bY; omega
  have bo:=I.inv.bo _ _ (I.vN hc h0 fc).1
  refine ⟨g,I.TE L hc h0 e,?_⟩
  have au:(x.cl c).step (lk c) t x.s=(x.cl c).l12 t x.s:=by unfold ai.step; simp [e]
  rcases b.step L I.len ⟨bo.1,bo.2.1⟩ (dR.ret e) (I.rc c hc h0 e) with o | o
  ·refine .inl (FL ?_)
   rw [au]; unfold ai.l12; simp only; rw [if_pos o]
  ·by_cases q:((x.cl c).ret.step t (x.cl c).i x.s).1.over=true
   ·refine .inl (FL ?_)
    rw [au]; unfold ai.l12; simp only; rw [if_pos q]
   ·refine .inr (.inr ⟨?_,?_⟩)
    ·rw [au]; unfold ai.l12; simp only; rw [if_neg q]
    ·rw [au]; exact o
end
abbrev bQ (t:TW) (lv:Int) (mn:Bool) (fp rp:Option Addr) (ln a i w k j ar er:Int):bK:=⟨[.int .i64 t.nodes,.int .i64 t.cG,.int .i64 t.ay,.int .i64 t.top,.int .i64 t.links,.int .i64 t.size,.int .i64 t.u6,.int .i64 t.u7,.int .i64 t.u8,.int .i64 t.u9,.int .i64 t.u10,.int .i64 t.u11,.int .i64 t.u12,.int .i64 lv,.bool mn,.pointer fp,.pointer rp,.int .i64 ln,.int .u64 a,.int .i64 i,.int .u64 w,.int .u64 k,.int .i64 j,.int .u64 ar,.bool true,.int .i64 er],1,false,1⟩
abbrev oQ (t:TW) (x:ai) (fp rp:Option Addr):bK:=bQ t x.level x.cj fp rp x.line x.a x.i x.w x.key x.job x.ar x.err
section
variable {own own':Nat→Nat} {tag m r b:Nat} {t:TW} {G G':GS} {s:MS} {lv ln a i w k j ar er:Int} {mn:Bool} {fp rp:Option Addr} {x:ai}
theorem FM (ae:FuncId→Bool) {v:Int} (h:U v) (G:GS):(E ae).cl 52 [.int .u64 v] G=some (.bool (decide (9223372036854775808≤v)),G) :=
 f52 (aq Q ae) _ G _ (by simp [s52,vE ae h])
theorem TK (ae:FuncId→Bool) {v:Int} (h:U v) (hm:aM≤v) (G:GS):(E ae).cl 54 [.int .u64 v,.bool false] G=some (.int .u64 (v - aM),G) :=
 f54 (aq Q ae) _ _ G _ (by
  have:=Kn ae h hm G
  simp [s54,this]; rfl)
theorem TM (ae:FuncId→Bool) {v:Int} (h:U v) (hm:v<aM) (G:GS):(E ae).cl 54 [.int .u64 v,.bool true] G=some (.int .u64 (v+aM),G) :=
 f54 (aq Q ae) _ _ G _ (by
  have:=abo ae h.1 hm G
  simp [s54,this]; rfl)
theorem Af (ae:FuncId→Bool) (h:PM own G m s) (ht:tag≠10) (hb:At own tag G b) (ho:G.obj b=some (bQ t lv mn fp rp ln a i w k j ar er)) (part:Int) :
  ∃ ah G1,(E ae).cl 51 [P0 b,P0 m,.int .i64 part] G=some (.int .u64 (s.load (az t i part)).new,G1)∧PW (Own own tag) own G ah G1 m (s.load (az t i part))∧At ah tag G1 b∧G1.obj b=some (bQ t lv mn fp rp ln a i w k j a er):=by
 obtain ⟨G1,ak⟩:∃ G1,G1=G.put b (bQ t lv mn fp rp ln a i w k j a er):=⟨_,rfl⟩
 have w1:PW (Own own tag) own G own G1 m s:=by rw [ak]; exact (PW.refl h).aW hb.tag ht _
 have bu:At own tag G1 b:=by rw [ak]; exact hb.br _ _
 have o1:G1.obj b=some (bQ t lv mn fp rp ln a i w k j a er):=by rw [ak]; simp
 obtain ⟨G2,e2,x2⟩:=vD ae t i part (G1.room 13)
 have y2:=((Ext.refl G1).room 13).trans x2
 have w2:=w1.ej y2 tag
 have bI:=bu.df y2 tag
 have o2:=(y2.obj b bu.lt).trans o1
 generalize grown own G1 tag=aX at *
 obtain ⟨cQ,G3,e3,w3⟩:=w2.pm.load ae (az t i part)
 have o3:=(bI.keep ht w3).trans o2
 refine ⟨cQ,G3,f51 (aq Q ae) _ _ _ G _ ?_,w2.tr w3.any,bI.to w3.nx w3.bH.dm,o3⟩
 simp [s51,ho,← ak,o1,e2,e3]
theorem acB (ae:FuncId→Bool) (h:PM own G m s) (hs:s.ok) (ht:tag≠10) (hb:At own tag G b) (ho:G.obj b=some (bQ t lv mn fp rp ln a i w k j ar er)) :
  ∃ ah G1,(E ae).cl 55 [P0 b,P0 m] G=some (.tuple #[],G1)∧PW (Own own tag) own G ah G1 m (s.load (az t i 1))∧At ah tag G1 b∧G1.obj b=some (bQ t lv mn fp rp ln a i w k ((s.load (az t i 1)).new % 65536) a er):=by
 obtain ⟨ah,G1,e1,w1,bu,o1⟩:=Af ae h ht hb ho 1
 have hu:=(hs.load (az t i 1)).2
 generalize s.load (az t i 1)=s' at *
 generalize s'.new=v at *
 have h1:=hu.1
 have e2:=J5 hu
 have e3:IntKind.wrap .i64 (v % 65536)=v % 65536:=wrap64 (by omega) (by omega)
 refine ⟨ah,G1.put b (bQ t lv mn fp rp ln a i w k (v % 65536) a er),f55 (aq Q ae) _ _ G _ ?_,w1.aW bu.tag ht _,bu.br _ _,by simp⟩
 simp [s55,e1,e2,e3,o1]
theorem FN (ae:FuncId→Bool) (hl:-9223372036854775808<lv∧lv≤4096) (hb:b<G.nx) (ho:G.obj b=some (bQ t lv mn fp rp ln a i w k j ar er)) :
  ∃ G1,(E ae).cl 87 [P0 b] G=some (.tuple #[],G1)∧bC (fun g=>g=b) G G1∧G1.obj b=some (bQ t (lv - 1) mn fp rp (if lv - 1<1 then 7 else 5) a i w k j ar er):=by
 have e:IntKind.wrap .i64 (lv - 1)=lv - 1:=wrap64 (by omega) (by omega)
 by_cases h1:lv - 1<1
 ·refine ⟨((G.put b (bQ t (lv - 1) mn fp rp ln a i w k j ar er)).put b (bQ t (lv - 1) mn fp rp 5 a i w k j ar er)).put b (bQ t (lv - 1) mn fp rp 7 a i w k j ar er),f87 (aq Q ae) _ G _ ?_,((((bC.refl (fun g=>g=b) G).put (.inl rfl) _).put (.inl rfl) _).put (.inl rfl) _),by rw [if_pos h1]; simp⟩
  simp [s87,ho,e,h1]
 ·refine ⟨((G.put b (bQ t (lv - 1) mn fp rp ln a i w k j ar er)).put b (bQ t (lv - 1) mn fp rp 5 a i w k j ar er)),f87 (aq Q ae) _ G _ ?_,(((bC.refl (fun g=>g=b) G).put (.inl rfl) _).put (.inl rfl) _),by rw [if_neg h1]; simp⟩
  simp [s87,ho,e,h1]
theorem FO (h:At own tag G b) (q:bC (fun g=>g=b) G G'):bC (Own own tag) G G':=q.mono fun g hg=>by rw [hg]; exact h.tag
theorem K6 (ae:FuncId→Bool) (aZ:ae 107=false) (hs:t.sound) (h:PM own G m s) (hm:s.ok) (hw:U x.w) (h3:x.line=3→aM≤x.w) (ht:tag≠10) (hb:At own tag G b) (ho:G.obj b=some (oQ t x fp rp)) (hl:x.line=1∨x.line=2∨x.line=3) :
  ∃ ah G1,(E ae).cl 49 [P0 b,P0 m] G=some (.tuple #[],G1)∧PW (Own own tag) own G ah G1 m (x.step false t s).2∧At ah tag G1 b∧G1.obj b=some (oQ t (x.step false t s).1 fp rp):=by
 rcases hl with e | e | e
 all_goals unfold ai.step; simp only [e]
 ·simp [ai.l1]
  have hn:=(hm.load (aN t (-1) 0)).2
  obtain ⟨G1,ak⟩:∃ G1,G1=G.put b (bQ t x.level x.cj fp rp 1 x.a x.i x.w x.key x.job 0 x.err):=⟨_,rfl⟩
  have w1:PW (Own own tag) own G own G1 m s:=by rw [ak]; exact (PW.refl h).aW hb.tag ht _
  have bu:At own tag G1 b:=by rw [ak]; exact hb.br _ _
  have o1:G1.obj b=some (bQ t x.level x.cj fp rp 1 x.a x.i x.w x.key x.job 0 x.err):=by rw [ak]; simp
  obtain ⟨G2,e2,x2⟩:=jM ae t (-1) 0 G1
  have w2:=w1.ej x2 tag
  have bI:=bu.df x2 tag
  have o2:=(x2.obj b bu.lt).trans o1
  generalize grown own G1 tag=aX at *
  obtain ⟨cQ,G3,e3,w3⟩:=w2.pm.load ae (aN t (-1) 0)
  generalize s.load (aN t (-1) 0)=s' at *
  generalize s'.new=v at *
  have qS:=w2.tr w3.any
  have dX:=bI.to w3.nx w3.bH.dm
  have o3:=(bI.keep ht w3).trans o2
  obtain ⟨G4,dw⟩:∃ G4,G4=G3.put b (bQ t x.level x.cj fp rp 1 v x.i x.w x.key x.job 0 x.err):=⟨_,rfl⟩
  have w4:PW (Own own tag) own G cQ G4 m s':=by rw [dw]; exact qS.aW dX.tag ht _
  have dY:At cQ tag G4 b:=by rw [dw]; exact dX.br _ _
  have o4:G4.obj b=some (bQ t x.level x.cj fp rp 1 v x.i x.w x.key x.job 0 x.err):=by rw [dw]; simp
  obtain ⟨G5,e5,x5⟩:=xC ae aZ hn G4
  obtain ⟨G6,cu⟩:∃ G6,G6=(G5.push ⟨z150,1,false,1⟩).put G5.nx ⟨[.int .i64 (v % 65536 - 1),.int .i64 (v / 65536)],1,false,1⟩:=⟨_,rfl⟩
  have x6:Ext G4 G6:=by rw [cu]; exact (x5.push _).put x5.nx _
  have p6:G6.obj G5.nx=some ⟨[.int .i64 (v % 65536 - 1),.int .i64 (v / 65536)],1,false,1⟩:=by rw [cu]; simp
  have o6:=(x6.obj b dY.lt).trans o4
  have w6:=w4.ej x6 tag
  have xR:=dY.df x6 tag
  generalize grown cQ G4 tag=CL at *
  obtain ⟨G7,lM⟩:∃ G7,G7=((G6.put b (bQ t x.level x.cj fp rp 1 v (v % 65536 - 1) x.w x.key x.job 0 x.err)).put b (bQ t x.level x.cj fp rp 2 v (v % 65536 - 1) x.w x.key x.job 0 x.err)).room 20:=⟨_,rfl⟩
  have K7:=(w6.aW xR.tag ht (bQ t x.level x.cj fp rp 1 v (v % 65536 - 1) x.w x.key x.job 0 x.err)).aW xR.tag ht (bQ t x.level x.cj fp rp 2 v (v % 65536 - 1) x.w x.key x.job 0 x.err)
  have K8:=(xR.br b (bQ t x.level x.cj fp rp 1 v (v % 65536 - 1) x.w x.key x.job 0 x.err)).br b (bQ t x.level x.cj fp rp 2 v (v % 65536 - 1) x.w x.key x.job 0 x.err)
  have w7:=K7.ej ((Ext.refl _).room 20) tag
  have kK:=K8.df ((Ext.refl _).room 20) tag
  rw [← lM] at w7 kK
  generalize grown CL _ tag=sE at *
  have o7:G7.obj b=some (bQ t x.level x.cj fp rp 2 v (v % 65536 - 1) x.w x.key x.job 0 x.err):=by rw [lM]; simp
  have iy:¬ b=G5.nx:=by have:=dY.lt; have:=x5.nx; omega
  by_cases c1:v % 65536 - 1<0
  ·rw [if_pos (.inl c1)]
   refine ⟨sE,(G7.put b (bQ t x.level x.cj fp rp 99 v (v % 65536 - 1) x.w x.key x.job 0 x.err)).put b (bQ t x.level x.cj fp rp 99 v (v % 65536 - 1) x.w x.key x.job 0 15),f49 (aq Q ae) _ _ G _ ?_,(w7.aW kK.tag ht _).aW kK.tag ht _,(kK.br _ _).br _ _,by simp⟩
   simp [s49,ho,e,← ak,o1,e2,e3,o3,← dw,o4,e5,ch,cg,← cu,p6,o6,iy,← lM,o7,c1]
  ·by_cases c2:t.size≤v % 65536 - 1
   ·rw [if_pos (.inr c2)]
    refine ⟨sE,(G7.put b (bQ t x.level x.cj fp rp 99 v (v % 65536 - 1) x.w x.key x.job 0 x.err)).put b (bQ t x.level x.cj fp rp 99 v (v % 65536 - 1) x.w x.key x.job 0 15),f49 (aq Q ae) _ _ G _ ?_,(w7.aW kK.tag ht _).aW kK.tag ht _,(kK.br _ _).br _ _,by simp⟩
    simp [s49,ho,e,← ak,o1,e2,e3,o3,← dw,o4,e5,ch,cg,← cu,p6,o6,iy,← lM,o7,c1,c2]
   ·rw [if_neg (by omega)]
    refine ⟨sE,G7,f49 (aq Q ae) _ _ G _ ?_,w7,kK,o7⟩
    simp [s49,ho,e,← ak,o1,e2,e3,o3,← dw,o4,e5,ch,cg,← cu,p6,o6,iy,← lM,o7,c1,c2]
 ·simp [ai.l2]
  have hn:=(hm.load (az t x.i 4)).2
  obtain ⟨ah,G1,e1,w1,bu,o1⟩:=Af ae h ht hb ho 4
  generalize s.load (az t x.i 4)=s' at *
  generalize s'.new=v at *
  obtain ⟨G2,bA⟩:∃ G2,G2=(G1.put b (bQ t x.level x.cj fp rp 2 x.a x.i v x.key x.job x.a x.err)).put b (bQ t x.level x.cj fp rp 4 x.a x.i v x.key x.job x.a x.err):=⟨_,rfl⟩
  have w2:PW (Own own tag) own G ah G2 m s':=by rw [bA]; exact (w1.aW bu.tag ht _).aW bu.tag ht _
  have bI:At ah tag G2 b:=by rw [bA]; exact (bu.br _ _).br _ _
  have o2:G2.obj b=some (bQ t x.level x.cj fp rp 4 x.a x.i v x.key x.job x.a x.err):=by rw [bA]; simp
  have e3:=FM ae hn G2
  by_cases c1:aM≤v
  ·have jP:9223372036854775808≤v:=c1
   rw [if_pos c1]
   refine ⟨ah,G2.put b (bQ t x.level x.cj fp rp 3 x.a x.i v x.key x.job x.a x.err),f49 (aq Q ae) _ _ G _ ?_,w2.aW bI.tag ht _,bI.br _ _,by simp⟩
   simp [s49,ho,e,e1,o1,← bA,o2,e3,jP]
  ·have jP:¬ 9223372036854775808≤v:=c1
   rw [if_neg c1]
   refine ⟨ah,G2,f49 (aq Q ae) _ _ G _ ?_,w2,bI,o2⟩
   simp [s49,ho,e,e1,o1,← bA,o2,e3,jP]
 ·simp [ai.l3]
  obtain ⟨G1,ak⟩:∃ G1,G1=G.put b (bQ t x.level x.cj fp rp 3 x.a x.i x.w x.key x.job 0 x.err):=⟨_,rfl⟩
  have w1:PW (Own own tag) own G own G1 m s:=by rw [ak]; exact (PW.refl h).aW hb.tag ht _
  have bu:At own tag G1 b:=by rw [ak]; exact hb.br _ _
  have o1:G1.obj b=some (bQ t x.level x.cj fp rp 3 x.a x.i x.w x.key x.job 0 x.err):=by rw [ak]; simp
  obtain ⟨G2,e2,x2⟩:=jM ae t (-1) 0 (G1.room 16)
  have y2:=((Ext.refl G1).room 16).trans x2
  have w2:=w1.ej y2 tag
  have bI:=bu.df y2 tag
  have o2:=(y2.obj b bu.lt).trans o1
  have e3:=TK ae hw (h3 e) G2
  generalize grown own G1 tag=aX at *
  obtain ⟨et,G4,e4,w4⟩:=w2.pm.bM ae (aN t (-1) 0) x.a (x.w - aM)
  have pZ:=w2.tr w4.any
  have dY:=bI.to w4.nx w4.bH.dm
  have o4:=(bI.keep ht w4).trans o2
  refine ⟨et,G4.put b (bQ t x.level x.cj fp rp 1 x.a x.i x.w x.key x.job 0 x.err),f49 (aq Q ae) _ _ G _ ?_,pZ.aW dY.tag ht _,dY.br _ _,by simp⟩
  simp [s49,ho,e,← ak,o1,e2,o2,e3,e4,o4]
end
abbrev ey (own:Nat→Nat) (t u:Nat):Nat→Prop:=fun x=>own x=t∨own x=u
section
variable {own own' ah aX:Nat→Nat} {tag tg m r b:Nat} {t:TW} {G G' G1 G2:GS} {s s' s1:MS} {x:ai}
theorem oR {own:Nat→Nat} {g b tag tg:Nat} (h1:own b=tag) (h2:own g=tg) (aB:tag≠tg):g≠b:=fun k=>aB (by rw [← h1,← h2,k])
theorem PW.lo (w:PW (Own own tag) own G ah G1 m s):PW (ey own tag tg) own G ah G1 m s:=w.mono fun _ _ h=>.inl h
theorem PW.hi (w:PW (Own own tg) own G ah G1 m s):PW (ey own tag tg) own G ah G1 m s:=w.mono fun _ _ h=>.inr h
theorem PW.oS (w:PW (ey own tag tg) own G ah G1 m s) (k:PW (ey ah tag tg) ah G1 aX G2 m s'):PW (ey own tag tg) own G aX G2 m s':=w.trans k fun _ hx h=>h.imp (w.bH.same hx).symm.trans (w.bH.same hx).symm.trans
theorem PW.gu (w:PW (ey own tag tg) own G ah G1 m s) (hb:ah b=tag) (ht:tag≠10) (o:bK):PW (ey own tag tg) own G ah (G1.put b o) m s:=by
 refine w.put ?_ (fun _=>by rw [hb]; exact ht) o
 by_cases hl:b<G.nx
 ·exact .inl (.inl ((w.bH.same hl).symm.trans hb))
 ·exact .inr (by omega)
theorem K9 (ae:FuncId→Bool) (hs:t.sound) (h:PM own G m s) (hm:s.ok) (hx:x.ok false t) (ht:tag≠10) (hb:At own tag G b) (fp rp:Option Addr) (ho:G.obj b=some (oQ t x fp rp)) (hl:x.line=4∨x.line=5∨x.line=6) :
  ∃ ah G1,(E ae).cl 50 [P0 b,P0 m] G=some (.tuple #[],G1)∧PW (Own own tag) own G ah G1 m (x.step false t s).2∧At ah tag G1 b∧G1.obj b=some (oQ t (x.step false t s).1 fp rp):=by
 have hh:=hs.1
 have hh2:=hs.2.1
 obtain ⟨v1,v2,v3⟩:=hx.aQ
 rcases hl with e | e | e
 all_goals unfold ai.step; simp only [e]
 ·simp [ai.l4,ai.below]
  have hn:=(hm.load (az t x.i 2)).2
  obtain ⟨G1,ak⟩:∃ G1,G1=G.put b (bQ t t.ay x.cj fp rp 4 x.a x.i x.w x.key x.job x.ar x.err):=⟨_,rfl⟩
  have w1:PW (Own own tag) own G own G1 m s:=by rw [ak]; exact (PW.refl h).aW hb.tag ht _
  have bu:At own tag G1 b:=by rw [ak]; exact hb.br _ _
  have o1:G1.obj b=some (bQ t t.ay x.cj fp rp 4 x.a x.i x.w x.key x.job x.ar x.err):=by rw [ak]; simp
  obtain ⟨aX,G2,e2,w2,bI,o2⟩:=Af ae w1.pm ht bu o1 2
  generalize s.load (az t x.i 2)=s' at *
  generalize s'.new=v at *
  have qT:=w1.tr w2
  have hv:=hn.1
  have eh:IntKind.wrap .u64 t.ay=t.ay:=by rw [wrap_u64]; omega
  by_cases c:v<t.ay
  ·have ev:IntKind.wrap .i64 v=v:=wrap64 (by omega) (by omega)
   obtain ⟨G3,cE⟩:∃ G3,G3=G2.put b (bQ t v x.cj fp rp 4 x.a x.i x.w x.key x.job x.a x.err):=⟨_,rfl⟩
   have w3:PW (Own own tag) own G aX G3 m s':=by rw [cE]; exact qT.aW bI.tag ht _
   have dX:At aX tag G3 b:=by rw [cE]; exact bI.br _ _
   have o3:G3.obj b=some (bQ t v x.cj fp rp 4 x.a x.i x.w x.key x.job x.a x.err):=by rw [cE]; simp
   obtain ⟨G4,e4,m4,o4⟩:=FN ae (by omega) dX.lt o3
   refine ⟨_,G4,f50 (aq Q ae) _ _ G _ ?_,w3.g8 (FO dX m4) ht tag,dX.to m4.nx dk,?_⟩
   ·simp [s50,ho,e,← ak,e2,o2,eh,c,ev,← cE,e4]
   ·rw [o4,if_pos c]
  ·obtain ⟨G4,e4,m4,o4⟩:=FN ae (by omega) bI.lt o2
   refine ⟨_,G4,f50 (aq Q ae) _ _ G _ ?_,qT.g8 (FO bI m4) ht tag,bI.to m4.nx dk,?_⟩
   ·simp [s50,ho,e,← ak,e2,o2,eh,c,e4]
   ·rw [o4,if_neg c]
 ·simp [ai.l5]
  have nG:=v3 (.inl e)
  have ew:IntKind.wrap .i64 (4+x.level)=4+x.level:=wrap64 (by omega) (by omega)
  have hn:=(hm.load (az t x.i (4+x.level))).2
  have x17:Ext G (G.room 17):=(Ext.refl G).room 17
  have w1:=(PW.refl (B:=Own own tag) h).ej x17 tag
  have bu:=hb.df x17 tag
  have o1:(G.room 17).obj b=some (bQ t x.level x.cj fp rp 5 x.a x.i x.w x.key x.job x.ar x.err):=by simp [ho,e]
  generalize grown own G tag=ah at *
  obtain ⟨aX,G2,e2,w2,bI,o2⟩:=Af ae w1.pm ht bu o1 (4+x.level)
  generalize s.load (az t x.i (4+x.level))=s' at *
  generalize s'.new=v at *
  have qT:=w1.tr w2
  obtain ⟨G3,cE⟩:∃ G3,G3=(G2.put b (bQ t x.level x.cj fp rp 5 x.a x.i v x.key x.job x.a x.err)).put b (bQ t x.level x.cj fp rp 6 x.a x.i v x.key x.job x.a x.err):=⟨_,rfl⟩
  have w3:PW (Own own tag) own G aX G3 m s':=by rw [cE]; exact (qT.aW bI.tag ht _).aW bI.tag ht _
  have dX:At aX tag G3 b:=by rw [cE]; exact (bI.br _ _).br _ _
  have o3:G3.obj b=some (bQ t x.level x.cj fp rp 6 x.a x.i v x.key x.job x.a x.err):=by rw [cE]; simp
  have e4:=FM ae hn G3
  by_cases c:aM≤v
  ·have c':9223372036854775808≤v:=c
   rw [if_pos c]
   obtain ⟨G5,e5,m5,o5⟩:=FN ae (by omega) dX.lt o3
   refine ⟨_,G5,f50 (aq Q ae) _ _ G _ ?_,w3.g8 (FO dX m5) ht tag,dX.to m5.nx dk,?_⟩
   ·simp [s50,ho,e,ew,e2,o2,← cE,o3,e4,c',e5]
   ·simp [o5,ai.below]
  ·have c':¬ 9223372036854775808≤v:=c
   rw [if_neg c]
   refine ⟨_,G3,f50 (aq Q ae) _ _ G _ ?_,w3,dX,o3⟩
   simp [s50,ho,e,ew,e2,o2,← cE,o3,e4,c']
 ·simp [ai.l6]
  have nG:=v3 (.inr e)
  obtain ⟨G1,ak⟩:∃ G1,G1=(G.put b (bQ t x.level x.cj fp rp 6 x.a x.i x.w x.key x.job x.a x.err)).put b (bQ t x.level x.cj fp rp 5 x.a x.i x.w x.key x.job x.a x.err):=⟨_,rfl⟩
  have w1:PW (Own own tag) own G own G1 m s:=by rw [ak]; exact ((PW.refl h).aW hb.tag ht _).aW hb.tag ht _
  have bu:At own tag G1 b:=by rw [ak]; exact (hb.br _ _).br _ _
  have o1:G1.obj b=some (bQ t x.level x.cj fp rp 5 x.a x.i x.w x.key x.job x.a x.err):=by rw [ak]; simp
  obtain ⟨G2,e2,x2⟩:=jM ae t x.i x.level (G1.room 30)
  have y2:=((Ext.refl G1).room 30).trans x2
  have w2:=w1.ej y2 tag
  have bI:=bu.df y2 tag
  have o2:=(y2.obj b bu.lt).trans o1
  have e3:=TM ae hx.w (hx.m8 (.inl e)) G2
  generalize grown own G1 tag=aX at *
  obtain ⟨et,G4,e4,w4⟩:=w2.pm.bM ae (aN t x.i x.level) x.w (x.w+aM)
  generalize s.bM (aN t x.i x.level) x.w (x.w+aM)=s' at *
  have pZ:=w2.tr w4.any
  have dY:=bI.to w4.nx w4.bH.dm
  have o4:=(bI.keep ht w4).trans o2
  cases hh:s'.held with
  | true =>
   rw [hh] at e4
   rw [if_pos rfl]
   obtain ⟨G5,e5,m5,o5⟩:=FN ae (by omega) dY.lt o4
   refine ⟨_,G5,f50 (aq Q ae) _ _ G _ ?_,pZ.g8 (FO dY m5) ht tag,dY.to m5.nx dk,?_⟩
   ·simp [s50,ho,e,← ak,o1,e2,o2,e3,e4,e5]
   ·simp [o5,ai.below]
  | false =>
   rw [hh] at e4
   rw [if_neg (by decide)]
   refine ⟨_,G4,f50 (aq Q ae) _ _ G _ ?_,pZ,dY,o4⟩
   simp [s50,ho,e,← ak,o1,e2,o2,e3,e4]
def eN (own:Nat→Nat) (tag tg:Nat) (t:TW) (G:GS) (b:Nat) (x:ai):Prop :=
 At own tag G b∧∃ fp rp,G.obj b=some (oQ t x fp rp)∧(x.line=10→∃ fb tb,fp=some ⟨fb,0,none⟩∧At own tg G fb∧At own tg G tb∧fb≠tb∧dE t G fb tb x.find)∧(x.line=12→∃ rb,rp=some ⟨rb,0,none⟩∧At own tg G rb∧pS own tg t G rb x.i x.ret)
theorem La (ae:FuncId→Bool) (aZ:ae 107=false) (hs:t.sound) (dT:t.gm) (h:PM own G m s) (hm:s.ok) (hx:x.ok false t) (ht:tag≠10) (hg:tg≠10) (aB:tag≠tg) (hp:eN own tag tg t G b x) (hl:x.line=10∨x.line=11∨x.line=12) :
  ∃ ah G1,(E ae).cl 57 [P0 b,P0 m] G=some (.tuple #[],G1)∧PW (ey own tag tg) own G ah G1 m (x.step false t s).2∧eN ah tag tg t G1 b (x.step false t s).1:=by
 obtain ⟨hb,fp,rp,ho,hf,hr⟩:=hp
 have qX:=hx.idx (by rcases hl with e | e | e<;>rw [e]<;>decide) (by rcases hl with e | e | e<;>rw [e]<;>decide)
 rcases hl with e | e | e
 all_goals unfold ai.step; simp only [e]
 ·simp [ai.l10]
  obtain ⟨fb,tb,rfl,a1,a2,d,F⟩:=hf e
  obtain ⟨ah,G1,e1,w1,F1⟩:=Sr ae aZ hs h hm (hx.find e) hg d a1 a2 F
  have o1:=(w1.Fa hb.lt hb.tag ht aB).trans ho
  have bu:=hb.to w1.nx w1.bH.dm
  have b1:=a1.to w1.nx w1.bH.dm
  have b2:=a2.to w1.nx w1.bH.dm
  have n1:fb≠b:=oR hb.tag a1.tag aB
  have n2:tb≠b:=oR hb.tag a2.tag aB
  generalize (x.find.step t s).2=s' at *
  generalize (x.find.step t s).1=f' at *
  have qQ:PW (ey own tag tg) own G ah G1 m s':=w1.hi
  by_cases h9:f'.line=9
  ·have F2:dE t (G1.put b (bQ t x.level x.cj (some ⟨fb,0,none⟩) rp 11 x.a x.i x.w x.key x.job x.ar x.err)) fb tb f':=F1.kept (eY _ _ n1) (eY _ _ n2)
   have e2:=Ko ae F2
   refine ⟨ah,(G1.put b (bQ t x.level x.cj (some ⟨fb,0,none⟩) rp 11 x.a x.i x.w x.key x.job x.ar x.err)).put b (bQ t x.level x.cj (some ⟨fb,0,none⟩) rp 11 x.a x.i x.w x.key x.job f'.ar x.err),f57 (aq Q ae) _ _ G _ ?_,(qQ.gu bu.tag ht _).gu bu.tag ht _,(bu.br _ _).br _ _,some ⟨fb,0,none⟩,rp,by simp [h9],by simp [h9],by simp [h9]⟩
   simp [h9] at e1
   simp [tU,kr,tV,s57,aw,ho,e,e1,o1,e2]
  ·have e2:=Ko ae F1
   refine ⟨ah,G1.put b (bQ t x.level x.cj (some ⟨fb,0,none⟩) rp 10 x.a x.i x.w x.key x.job f'.ar x.err),f57 (aq Q ae) _ _ G _ ?_,qQ.gu bu.tag ht _,bu.br _ _,some ⟨fb,0,none⟩,rp,by simp [h9],fun _=>⟨fb,tb,rfl,b1.br _ _,b2.br _ _,d,F1.kept (eY _ _ n1) (eY _ _ n2)⟩,by simp [h9]⟩
   simp [h9] at e1
   simp [tU,kr,tV,s57,aw,ho,e,e1,o1,e2]
 ·simp [ai.l11]
  obtain ⟨G1,ak⟩:∃ G1,G1=(G.put b (bQ t x.level x.cj fp rp 11 x.a x.i x.w x.key x.job x.a x.err)).put b (bQ t x.level x.cj fp rp 99 x.a x.i x.w x.key x.job x.a x.err):=⟨_,rfl⟩
  have w1:PW (Own own tag) own G own G1 m s:=by rw [ak]; exact ((PW.refl h).aW hb.tag ht _).aW hb.tag ht _
  have bu:At own tag G1 b:=by rw [ak]; exact (hb.br _ _).br _ _
  have o1:G1.obj b=some (bQ t x.level x.cj fp rp 99 x.a x.i x.w x.key x.job x.a x.err):=by rw [ak]; simp
  obtain ⟨G2,e2,x2⟩:=vD ae t x.i 3 (G1.room 14)
  have y2:=((Ext.refl G1).room 14).trans x2
  have w2:=w1.ej y2 tag
  have bI:=bu.df y2 tag
  have o2:=(y2.obj b bu.lt).trans o1
  generalize grown own G1 tag=aX at *
  obtain ⟨et,G4,e4,w4⟩:=w2.pm.add ae (az t x.i 3) 18446744073709551615
  generalize s.add (az t x.i 3) 18446744073709551615=s' at *
  generalize s'.new=v at *
  have pZ:=w2.tr w4.any
  have dY:=bI.to w4.nx w4.bH.dm
  have o4:=(bI.keep ht w4).trans o2
  by_cases c:v=0
  ·rw [if_pos c]
   obtain ⟨rb,G5,e5,x5,q5,r5⟩:=Sx ae t qX.1 qX.2 (G4.room 23)
   have y5:=((Ext.refl G4).room 23).trans x5
   have w5:=(pZ.lo (tg:=tg)).ej y5 tg
   have FP:=dY.df y5 tg
   have o5:=(y5.obj b dY.lt).trans o4
   have Lb:G4.nx≤rb:=by have:=q5.1; simp at this; omega
   have CM:At (grown et G4 tg) tg G5 rb:=At.new Lb q5.2
   have n1:rb≠b:=by have:=dY.lt; omega
   refine ⟨_,(G5.put b (bQ t x.level x.cj fp (some ⟨rb,0,none⟩) 99 x.a x.i x.w x.key x.job x.a x.err)).put b (bQ t x.level x.cj fp (some ⟨rb,0,none⟩) 12 x.a x.i x.w x.key x.job x.a x.err),f57 (aq Q ae) _ _ G _ ?_,(w5.gu FP.tag ht _).gu FP.tag ht _,(FP.br _ _).br _ _,fp,some ⟨rb,0,none⟩,by simp,by simp,fun _=>⟨rb,rfl,(CM.br _ _).br _ _,?_⟩⟩
   ·simp [tU,kr,tV,s57,aw,ho,e,← ak,o1,e2,o2,e4,c,o4,e5,o5]
   ·have:=r5 (grown et G4 tg) tg
    refine this.to CM (Nat.le_refl _) (fun g hg lZ=>?_) (bf.refl _ _)
    have:g≠b:=oR FP.tag lZ aB
    rw [eY _ _ this,eY _ _ this]
  ·rw [if_neg c]
   refine ⟨_,G4,f57 (aq Q ae) _ _ G _ ?_,pZ.lo,dY,fp,rp,o4,by simp,by simp⟩
   simp [tU,kr,tV,s57,aw,ho,e,← ak,o1,e2,o2,e4,c]
 ·simp [ai.l12]
  obtain ⟨rb,rfl,a1,hr⟩:=hr e
  obtain ⟨G1,ak⟩:∃ G1,G1=G.put b (bQ t x.level x.cj fp (some ⟨rb,0,none⟩) 12 x.a x.i x.w x.key x.job 0 x.err):=⟨_,rfl⟩
  have w1:PW (Own own tag) own G own G1 m s:=by rw [ak]; exact (PW.refl h).aW hb.tag ht _
  have bu:At own tag G1 b:=by rw [ak]; exact hb.br _ _
  have o1:G1.obj b=some (bQ t x.level x.cj fp (some ⟨rb,0,none⟩) 12 x.a x.i x.w x.key x.job 0 x.err):=by rw [ak]; simp
  have r1:pS own tg t G1 rb x.i x.ret:=hr.to a1 (by rw [ak]; exact Nat.le_refl _) (fun g hgl lZ=>by rw [ak,eY _ _ (oR hb.tag lZ aB)]) (bf.refl _ _)
  have CN:At own tg G1 rb:=by rw [ak]; exact a1.br _ _
  obtain ⟨aX,G2,e2,w2,r2⟩:=Sz ae aZ dT qX.1 qX.2 w1.pm hm (hx.ret e) hg CN r1
  have o2:=(w2.Fa bu.lt bu.tag ht aB).trans o1
  have bI:=bu.to w2.nx w2.bH.dm
  have a2:=CN.to w2.nx w2.bH.dm
  have qT:PW (ey own tag tg) own G aX G2 m (x.ret.step t x.i s).2:=(w1.lo (tg:=tg)).oS w2.hi
  generalize (x.ret.step t x.i s).2=s' at *
  generalize (x.ret.step t x.i s).1=p' at *
  by_cases h9:p'.over=true
  ·rw [h9] at e2
   refine ⟨aX,G2.put b (bQ t x.level x.cj fp (some ⟨rb,0,none⟩) 99 x.a x.i x.w x.key x.job 0 x.err),f57 (aq Q ae) _ _ G _ ?_,qT.gu bI.tag ht _,bI.br _ _,fp,some ⟨rb,0,none⟩,by simp [h9],by simp [h9],by simp [h9]⟩
   simp [tU,kr,tV,s57,aw,ho,e,← ak,o1,e2,o2]
  ·rw [Bool.not_eq_true] at h9
   rw [h9] at e2
   refine ⟨aX,G2,f57 (aq Q ae) _ _ G _ ?_,qT,bI,fp,some ⟨rb,0,none⟩,by simp [h9,o2],by simp [h9],fun _=>⟨rb,rfl,a2,r2⟩⟩
   simp [tU,kr,tV,s57,aw,ho,e,← ak,o1,e2]
end
section
variable {own own' ah aX:Nat→Nat} {tag tg m r b:Nat} {t:TW} {G G' G1 G2:GS} {s s' s1:MS} {x:ai} {fp rp:Option Addr}
theorem eN.low (hb:At own tag G b) (ho:G.obj b=some (oQ t x fp rp)) (h1:x.line≠10) (h2:x.line≠12):eN own tag tg t G b x:=⟨hb,fp,rp,ho,fun h=>absurd h h1,fun h=>absurd h h2⟩
theorem ai.Lc (hl:x.line=1∨x.line=2∨x.line=3):(x.step false t s).1.line≠10∧(x.step false t s).1.line≠12:=by
 rcases hl with e | e | e<;>(unfold ai.step; simp only [e])<;>simp [ai.l1,ai.l2,ai.l3]<;>split<;>simp
theorem ai.Ld (hl:x.line=4∨x.line=5∨x.line=6):(x.step false t s).1.line≠10∧(x.step false t s).1.line≠12:=by
 rcases hl with e | e | e<;>(unfold ai.step; simp only [e])<;>simp [ai.l4,ai.l5,ai.l6,ai.below]<;>(repeat' split)<;>simp
def TN (own0:Nat→Nat) (tag tg m b:Nat) (t:TW) (G0:GS) (y:ai×MS) (q:Exit×Env×GS):Prop:=q.1= .exit 0∧q.2.1 0=P0 b∧∃ ah,PW (ey own0 tag tg) own0 G0 ah q.2.2 m y.2∧eN ah tag tg t q.2.2 b y.1
theorem acC (ae:FuncId→Bool) (h:PM own G m s) (hm:s.ok) (hx:x.ok false t) (ht:tag≠10) (hb:At own tag G b) (ho:G.obj b=some (oQ t x fp rp)) (e:x.line=8) {τ:Env} (t0:τ 0=P0 b) (t1:τ 1=P0 m) :
  Wp (iz true (bD Q ae) ((bD Q ae).dj 20 0) τ G) (TN own tag tg m b t G (x.step false t s)):=by
 have au:x.step false t s=x.l8 t s:=by unfold ai.step; simp [e]
 rw [au]; unfold ai.l8; simp only
 obtain ⟨G1,ak⟩:∃ G1,G1=(G.put b (bQ t x.level x.cj fp rp 8 x.a x.i x.w x.key x.job x.a x.err)).put b (bQ t x.level x.cj fp rp 7 x.a x.i x.w x.key x.job x.a x.err):=⟨_,rfl⟩
 have w1:PW (Own own tag) own G own G1 m s:=by rw [ak]; exact ((PW.refl h).aW hb.tag ht _).aW hb.tag ht _
 have bu:At own tag G1 b:=by rw [ak]; exact (hb.br _ _).br _ _
 have o1:G1.obj b=some (bQ t x.level x.cj fp rp 7 x.a x.i x.w x.key x.job x.a x.err):=by rw [ak]; simp
 obtain ⟨G2,e2,x2⟩:=jM ae t x.i 0 (G1.room 24)
 have y2:=((Ext.refl G1).room 24).trans x2
 have w2:=w1.ej y2 tag
 have bI:=bu.df y2 tag
 have o2:=(y2.obj b bu.lt).trans o1
 have e3:=TM ae hx.w (hx.m8 (.inr e)) G2
 generalize grown own G1 tag=aX at *
 obtain ⟨et,G4,e4,w4⟩:=w2.pm.bM ae (aN t x.i 0) x.w (x.w+aM)
 generalize s.bM (aN t x.i 0) x.w (x.w+aM)=s' at *
 have pZ:=w2.tr w4.any
 have dY:=bI.to w4.nx w4.bH.dm
 have o4:=(bI.keep ht w4).trans o2
 cases hh:s'.held with
 | true =>
  rw [hh] at e4
  simp [iz,jK,im,pH,aw,t0,t1,ho,e,← ak,o1,e2,o2,e3,e4,o4]
  exact ⟨rfl,by simp [aw,t0],et,((pZ.aW dY.tag ht _).aW dY.tag ht _).lo,.low (fp:=fp) (rp:=rp) ((dY.br _ _).br _ _) (by simp) (by simp) (by simp)⟩
 | false =>
  rw [hh] at e4
  simp [iz,jK,im,pH,aw,t0,t1,ho,e,← ak,o1,e2,o2,e3,e4,o4]
  exact ⟨rfl,by simp [aw,t0],et,pZ.lo,.low (fp:=fp) (rp:=rp) dY (by simp [o4]) (by simp) (by simp)⟩
set_option maxHeartbeats 1000000 in
theorem acD (ae:FuncId→Bool) (aZ:ae 107=false) (hs:t.sound) (dT:t.gm) (h:PM own G m s) (hm:s.ok) (hx:x.ok false t) (h99:x.line≠99) (ht:tag≠10) (hg:tg≠10) (aB:tag≠tg) (hp:eN own tag tg t G b x) {τ:Env} (t0:τ 0=P0 b) (t1:τ 1=P0 m) :
  Wp ((bD Q ae).dj 20 0 τ G) (TN own tag tg m b t G (x.step false t s)):=by
 refine Wp.lp (Rx (aq Q ae)) ?_
 have dB:=hp
 obtain ⟨hb,fp,rp,ho,hf,hr⟩:=hp
 have qX:=hx.idx
 rcases hx.line with e | e | e | e | e | e | ⟨-,e | e | e | e | e | e | e | e⟩
 ·obtain ⟨ah,G1,e1,w1,b1,o1⟩:=K6 ae aZ hs h hm hx.w hx.m3 ht hb ho (.inl e)
  simp [iz,jK,kj,zB,aw,t0,t1,ho,e,e1]
  have kM:=ai.Lc (t:=t) (s:=s) (.inl e:x.line=1∨x.line=2∨x.line=3)
  exact ⟨rfl,by simp [aw,t0],ah,w1.lo,.low b1 o1 kM.1 kM.2⟩
 ·obtain ⟨ah,G1,e1,w1,b1,o1⟩:=K6 ae aZ hs h hm hx.w hx.m3 ht hb ho (.inr (.inl e))
  simp [iz,jK,kj,zB,aw,t0,t1,ho,e,e1]
  have kM:=ai.Lc (t:=t) (s:=s) (.inr (.inl e):x.line=1∨x.line=2∨x.line=3)
  exact ⟨rfl,by simp [aw,t0],ah,w1.lo,.low b1 o1 kM.1 kM.2⟩
 ·obtain ⟨ah,G1,e1,w1,b1,o1⟩:=K6 ae aZ hs h hm hx.w hx.m3 ht hb ho (.inr (.inr e))
  simp [iz,jK,kj,zB,aw,t0,t1,ho,e,e1]
  have kM:=ai.Lc (t:=t) (s:=s) (.inr (.inr e):x.line=1∨x.line=2∨x.line=3)
  exact ⟨rfl,by simp [aw,t0],ah,w1.lo,.low b1 o1 kM.1 kM.2⟩
 ·-- line 9
  have au:x.step false t s=x.l9 t s:=by unfold ai.step; simp [e]
  rw [au]; unfold ai.l9; simp only
  obtain ⟨ah,G1,e1,w1,b1,o1⟩:=Af ae h ht hb ho 0
  generalize s.load (az t x.i 0)=s' at *
  generalize s'.new=v at *
  simp [iz,jK,im,pH,aw,t0,t1,ho,e,e1,o1]
  refine ⟨rfl,by simp [aw,t0],ah,((w1.aW b1.tag ht _).aW b1.tag ht _).lo,.low (fp:=fp) (rp:=rp) ((b1.br _ _).br _ _) (by simp) (by simp) (by simp)⟩
 ·-- line 91
  have au:x.step false t s=x.l91 false t s:=by unfold ai.step; simp [e]
  rw [au]; unfold ai.l91; simp only [Bool.false_eq_true,if_false]
  obtain ⟨ah,G1,e1,w1,b1,o1⟩:=acB ae h hm ht hb ho
  generalize s.load (az t x.i 1)=s' at *
  generalize s'.new=v at *
  obtain ⟨fb,tb,G2,e2,x2,q1,q2,d,F⟩:=Kp ae hs x.key (G1.room 23)
  have y2:=((Ext.refl G1).room 23).trans x2
  have w2:=(w1.lo (tg:=tg)).ej y2 tg
  have bI:=b1.df y2 tg
  have o2:=(y2.obj b b1.lt).trans o1
  have q1':G1.nx≤fb:=by have:=q1.1; simp at this; omega
  have q2':G1.nx≤tb:=by have:=q2.1; simp at this; omega
  have Hd:At (grown ah G1 tg) tg G2 fb:=At.new q1' q1.2
  have HR:At (grown ah G1 tg) tg G2 tb:=At.new q2' q2.2
  have n1:fb≠b:=by have:=b1.lt; omega
  have n2:tb≠b:=by have:=b1.lt; omega
  generalize grown ah G1 tg=aX at *
  simp [iz,jK,im,pH,aw,t0,t1,ho,e,e1,o1,e2,o2]
  refine ⟨rfl,by simp [aw,t0],aX,(w2.gu bI.tag ht _).gu bI.tag ht _,(bI.br _ _).br _ _,some ⟨fb,0,none⟩,rp,by simp,fun _=>⟨fb,tb,rfl,(Hd.br _ _).br _ _,(HR.br _ _).br _ _,d,F.kept ?_ ?_⟩,by simp⟩
  ·rw [eY _ _ n1,eY _ _ n1]
  ·rw [eY _ _ n2,eY _ _ n2]
 ·exact absurd e h99
 ·obtain ⟨ah,G1,e1,w1,b1,o1⟩:=K9 ae hs h hm hx ht hb fp rp ho (.inl e)
  simp [iz,jK,jJ,zA,aw,t0,t1,ho,e,e1]
  have kM:=ai.Ld (t:=t) (s:=s) (.inl e:x.line=4∨x.line=5∨x.line=6)
  exact ⟨rfl,by simp [aw,t0],ah,w1.lo,.low b1 o1 kM.1 kM.2⟩
 ·obtain ⟨ah,G1,e1,w1,b1,o1⟩:=K9 ae hs h hm hx ht hb fp rp ho (.inr (.inl e))
  simp [iz,jK,jJ,zA,aw,t0,t1,ho,e,e1]
  have kM:=ai.Ld (t:=t) (s:=s) (.inr (.inl e):x.line=4∨x.line=5∨x.line=6)
  exact ⟨rfl,by simp [aw,t0],ah,w1.lo,.low b1 o1 kM.1 kM.2⟩
 ·obtain ⟨ah,G1,e1,w1,b1,o1⟩:=K9 ae hs h hm hx ht hb fp rp ho (.inr (.inr e))
  simp [iz,jK,jJ,zA,aw,t0,t1,ho,e,e1]
  have kM:=ai.Ld (t:=t) (s:=s) (.inr (.inr e):x.line=4∨x.line=5∨x.line=6)
  exact ⟨rfl,by simp [aw,t0],ah,w1.lo,.low b1 o1 kM.1 kM.2⟩
 ·-- line 7
  have au:x.step false t s=x.l7 t s:=by unfold ai.step; simp [e]
  rw [au]; unfold ai.l7; simp only
  have hn:=(hm.load (az t x.i 4)).2
  obtain ⟨ah,G1,e1,w1,b1,o1⟩:=Af ae h ht hb ho 4
  generalize s.load (az t x.i 4)=s' at *
  generalize s'.new=v at *
  obtain ⟨G2,bA⟩:∃ G2,G2=(G1.put b (bQ t x.level x.cj fp rp 7 x.a x.i v x.key x.job x.a x.err)).put b (bQ t x.level x.cj fp rp 8 x.a x.i v x.key x.job x.a x.err):=⟨_,rfl⟩
  have w2:PW (Own own tag) own G ah G2 m s':=by rw [bA]; exact (w1.aW b1.tag ht _).aW b1.tag ht _
  have bI:At ah tag G2 b:=by rw [bA]; exact (b1.br _ _).br _ _
  have o2:G2.obj b=some (bQ t x.level x.cj fp rp 8 x.a x.i v x.key x.job x.a x.err):=by rw [bA]; simp
  have e3:=FM ae hn G2
  by_cases c1:aM≤v
  ·have jP:9223372036854775808≤v:=c1
   simp [iz,jK,im,pH,aw,t0,t1,ho,e,e1,o1,← bA,o2,e3,jP]
   exact ⟨rfl,by simp [aw,t0],ah,(w2.aW bI.tag ht _).lo,.low (fp:=fp) (rp:=rp) (bI.br _ _) (by simp [c1]) (by simp [c1]) (by simp [c1])⟩
  ·have jP:¬ 9223372036854775808≤v:=c1
   simp [iz,jK,im,pH,aw,t0,t1,ho,e,e1,o1,← bA,o2,e3,jP]
   exact ⟨rfl,by simp [aw,t0],ah,w2.lo,.low (fp:=fp) (rp:=rp) bI (by simp [c1,o2]) (by simp [c1]) (by simp [c1])⟩
 ·exact acC ae h hm hx ht hb ho e t0 t1
 ·obtain ⟨ah,G1,e1,w1,p1⟩:=La ae aZ hs dT h hm hx ht hg aB dB (.inl e)
  simp [iz,jK,im,pH,aw,t0,t1,ho,e,e1]
  exact ⟨rfl,by simp [aw,t0],ah,w1,p1⟩
 ·obtain ⟨ah,G1,e1,w1,p1⟩:=La ae aZ hs dT h hm hx ht hg aB dB (.inr (.inl e))
  simp [iz,jK,im,pH,aw,t0,t1,ho,e,e1]
  exact ⟨rfl,by simp [aw,t0],ah,w1,p1⟩
 ·obtain ⟨ah,G1,e1,w1,p1⟩:=La ae aZ hs dT h hm hx ht hg aB dB (.inr (.inr e))
  simp [iz,jK,im,pH,aw,t0,t1,ho,e,e1]
  exact ⟨rfl,by simp [aw,t0],ah,w1,p1⟩
theorem TP (ae:FuncId→Bool) (aZ:ae 107=false) (hs:t.sound) (dT:t.gm) (h:PM own G m s) (hm:s.ok) (hx:x.ok false t) (ht:tag≠10) (hg:tg≠10) (aB:tag≠tg) (hp:eN own tag tg t G b x) :
  ∃ ah G1,(E ae).cl 20 [P0 b,P0 m] G=some (.bool (decide ((x.step false t s).1.line=99)),G1)∧PW (ey own tag tg) own G ah G1 m (x.step false t s).2∧eN ah tag tg t G1 b (x.step false t s).1:=by
 have dB:=hp
 obtain ⟨hb,fp,rp,ho,hf,hr⟩:=hp
 by_cases e:x.line=99
 ·have au:x.step false t s=(x,s):=by unfold ai.step; simp [e]
  rw [au]
  have e1:(E ae).cl 48 [P0 b] G=some (.bool true,G):=f48 (aq Q ae) _ G _ (by simp [s48,ho,e])
  refine ⟨own,G,f20 (aq Q ae) _ _ G _ ?_,.refl h,dB⟩
  simp [s20,e,e1]
 ·have e1:(E ae).cl 48 [P0 b] G=some (.bool false,G):=f48 (aq Q ae) _ G _ (by simp [s48,ho,e])
  have wW:Wp (s20 true (bD Q ae) (P0 b) (P0 m) G) fun q=>q.1= .bool (decide ((x.step false t s).1.line=99))∧∃ ah,PW (ey own tag tg) own G ah q.2 m (x.step false t s).2∧eN ah tag tg t q.2 b (x.step false t s).1:=by
   simp [s20,e1]
   refine Wp.bE ((acD ae aZ hs dT h hm hx e ht hg aB dB (by simp) (by simp)).mono ?_)
   rintro ⟨e,τ,G'⟩ ⟨h1,h2,ah,h3,h4⟩
   simp only at h1 h2 h3 h4
   subst h1
   have Bg:=h4
   obtain ⟨-,fp',Lf,o4,-⟩:=Bg
   simp [h2,o4]
   exact ⟨ah,h3,h4⟩
  obtain ⟨⟨v,G'⟩,e,rfl,ah,h3,h4⟩:=wW
  exact ⟨ah,G',f20 (aq Q ae) _ _ G _ e,h3,h4⟩
end
def ai.new (t:TW):ai:=⟨1,0,0,0,0,0,0,0,false,0,ao.new t 0,.looks⟩
def mC (k j:Int):Value:=.agg ⟨[.int .u64 k,.int .i64 j]⟩
def ai.ik (x:ai):Int:=if x.line≠99 then 0 else if x.err≠0 then 0 else x.key
def ai.ij (x:ai):Int:=if x.line≠99 then 0 else if x.err≠0 then 0 else x.job
def ai.ie (x:ai):Int:=if x.line≠99 then 14 else x.err
section
variable {look:Bool} {own own' ah aX:Nat→Nat} {tag tg m r b:Nat} {t:TW} {G G' G1 G2:GS} {s s' s1:MS} {x:ai} {fp rp:Option Addr}
theorem ai.tX (hs:t.sound):(ai.new t).ok look t:=⟨by simp [cI,ai.new],gH,gH,by simp [ai.new],by simp [ai.new],by have:=hs.1; simp [ai.new]; omega,gH,gH,by simp [ai.new],by simp [ai.new],by simp [ai.new],by simp [ai.new]⟩
theorem FQ {G:GS} (o o':bK):Ext G ((G.push o).put G.nx o'):=((Ext.refl G).push _).put (Nat.le_refl _) _
theorem acE (ae:FuncId→Bool) (ho:G.obj b=some (oQ t x fp rp)) (hb:b<G.nx):∃ G',(E ae).cl 58 [P0 b] G=some (.tuple #[mC x.ik x.ij,.int .i64 x.ie],G')∧Ext G G':=by
 have aB:¬ b=G.nx:=by omega
 have w:Wp (s58 true (bD Q ae) (P0 b) G) fun r=>r.1= .tuple #[mC x.ik x.ij,.int .i64 x.ie]∧Ext G r.2:=by
  unfold ai.ik ai.ij ai.ie mC
  by_cases e:x.line=99
  ·by_cases e2:x.err=0
   ·simp [s58,ho,aB,ch,cg,e,e2]
    exact FQ _ _
   ·simp [s58,ho,aB,ch,cg,e,e2]
    exact (((Ext.refl G).push _).room _).put (Nat.le_refl _) _
  ·simp [s58,ho,aB,ch,cg,e]
   exact FQ _ _
 obtain ⟨⟨v,G'⟩,e1,rfl,e3⟩:=w
 exact ⟨G',f58 (aq Q ae) _ G _ e1,e3⟩
theorem TQ (ae:FuncId→Bool) (ho:G.obj b=some (oQ t x fp rp)) (hb:b<G.nx):∃ G',(E ae).cl 22 [P0 b] G=some (.tuple #[mC x.ik x.ij,.int .i64 x.ie],G')∧Ext G G':=by
 obtain ⟨G1,ak⟩:∃ G1,G1=G.push ⟨z60,1,false,1⟩:=⟨_,rfl⟩
 have x1:Ext G G1:=by rw [ak]; exact (Ext.refl G).push _
 have p1:G1.obj G.nx=some ⟨z60,1,false,1⟩:=by rw [ak]; simp
 have n1:G1.nx=G.nx+1:=by rw [ak]; rfl
 obtain ⟨G2,e2,x2⟩:=acE ae ((x1.obj b hb).trans ho) (by omega)
 have p2:=(x2.obj G.nx (by omega)).trans p1
 have w:Wp (s22 true (bD Q ae) (P0 b) G) fun r=>r.1= .tuple #[mC x.ik x.ij,.int .i64 x.ie]∧Ext G r.2:=by
  unfold mC at *
  simp [s22,← ak,e2,p2,ch,cg]
  exact (x1.trans x2).put (Nat.le_refl _) _
 obtain ⟨⟨v,G'⟩,e1,rfl,e3⟩:=w
 exact ⟨G',f22 (aq Q ae) _ G _ e1,e3⟩
theorem TR (hs:t.sound):aN t (-1) 0=t.cG:=by
 have:=hs.1
 unfold aN az
 rw [if_pos (by decide),if_pos hs,if_pos rfl,if_pos (by omega)]
 omega
theorem acF (ae:FuncId→Bool) (hs:t.sound) (G:GS):∃ G',(E ae).cl 47 [t.v] G=some (.agg ⟨(oQ t (ai.new t) none none).cells⟩,G')∧Ext G G':=by
 obtain ⟨G1,ak⟩:∃ G1,G1=(G.push ⟨t.cells,1,false,1⟩).push ⟨z99,1,false,1⟩:=⟨_,rfl⟩
 have x1:Ext G G1:=by rw [ak]; exact ((Ext.refl G).push _).push _
 have n1:G1.nx=G.nx+2:=by rw [ak]; rfl
 have o1:G1.obj G.nx=some ⟨t.cells,1,false,1⟩:=by rw [ak]; simp
 have p1:G1.obj (G.nx+1)=some ⟨z99,1,false,1⟩:=by rw [ak]; simp
 obtain ⟨G2,e2,x2⟩:=jM ae t (-1) 0 G1
 rw [TR hs] at e2
 have o2:=(x2.obj G.nx (by omega)).trans o1
 have p2:=(x2.obj (G.nx+1) (by omega)).trans p1
 have h1:¬ t.cG<0:=by have:=hs.2.2.2.2.2.2.1; omega
 have w:Wp (s47 true (bD Q ae) t.v G) fun r=>r.1= .agg ⟨(oQ t (ai.new t) none none).cells⟩∧Ext G r.2:=by
  unfold ai.new
  simp [s47,← ak,o1,e2,h1,o2,p2,ch,cg,gA]
  exact (x1.trans x2).put (by omega) _
 obtain ⟨⟨v,G'⟩,e1,rfl,e3⟩:=w
 exact ⟨G',f47 (aq Q ae) _ G _ e1,e3⟩
theorem acG (ae:FuncId→Bool) (hs:t.sound) (G:GS):∃ b G',(E ae).cl 18 [t.v] G=some (P0 b,G')∧Ext G G' ∧G'.obj b=some (oQ t (ai.new t) none none)∧G.nx≤b∧b<G'.nx:=by
 obtain ⟨G1,ak⟩:∃ G1,G1=G.push ⟨t.cells,1,false,1⟩:=⟨_,rfl⟩
 have x1:Ext G G1:=by rw [ak]; exact (Ext.refl G).push _
 have o1:G1.obj G.nx=some ⟨t.cells,1,false,1⟩:=by rw [ak]; simp
 obtain ⟨G2,e2,x2⟩:=acF ae hs G1
 have y2:=x1.trans x2
 have w:Wp (s18 true (bD Q ae) t.v G) fun r=>r=(P0 G2.nx,G2.push (oQ t (ai.new t) none none)):=by
  unfold ai.new at e2 ⊢
  simp at e2
  simp [s18,← ak,o1,e2]
 obtain ⟨r,e3,rfl⟩:=w
 exact ⟨_,_,f18 (aq Q ae) _ G _ e3,y2.push _,by simp,y2.nx,by simp⟩
end
def Cm.oT (t:TW) (K H:Int→Int) (x:Cm) (oc:Int):Cm:={ x with ins:=aj.new t (bN x.na 1) (K x.na) x.na (H x.na),na:=x.na+1,F:=aI x.F 0 [],o:=aI x.o 0 oc }
def Cm.lN (t:TW) (x:Cm) (c:Nat) (oc:Int):Cm:={ x with cl:=aI x.cl c (ai.new t),F:=aI x.F c [],o:=aI x.o c oc }
section
variable {t:TW} {N:Nat} {K H:Int→Int} {x y:Cm} {g g':Sh} {c d:Nat} {i j v l p M oc:Int} {s s':MS} {z:ai} {r:da}
theorem bJ.oT (I:bJ t N K H x g) (L:Pl t N) (h0:x.o 0<0) (hn:(x.na:Int)<t.size) (ho:0≤oc):bJ t N K H (x.oT t K H oc) g:=by
 obtain ⟨a1,a2,a3,a4⟩:=I.nd x.na (by omega) hn
 have hi:=I.inv.hi _ a1
 have z1:=L.snd.2.2.2.1
 have nb:∀ l,¬ g.born l x.na:=fun l hb=>by have:=I.bo l _ hb; omega
 have hl:∀ i,(x.oT t K H oc).dH i↔x.dH i:=fun i=>by
  unfold Cm.dH Cm.oT
  simp only [dG,aj.new]
  constructor
  ·rintro ⟨a,b⟩
   have:i≠x.na:=fun e=>b ⟨ho,by omega,by decide⟩
   exact ⟨by omega,fun q=>by omega⟩
  ·rintro ⟨a,b⟩
   exact ⟨by omega,fun q=>by omega⟩
 have oo:∀ c,c≠0→(x.oT t K H oc).o c=x.o c:=fun c h=>cN _ _ h
 have oF:∀ c,c≠0→(x.oT t K H oc).F c=x.F c:=fun c h=>cN _ _ h
 have ha:∀ i,(x.oT t K H oc).add i↔x.add i:=fun i=>by
  unfold Cm.add
  constructor
  ·rintro (h | ⟨c,hc,h1,h2⟩)
   ·exact .inl h
   ·exact .inr ⟨c,hc,by rw [oo c (by omega)] at h1; exact h1,h2⟩
  ·rintro (h | ⟨c,hc,h1,h2⟩)
   ·exact .inl h
   ·exact .inr ⟨c,hc,by rw [oo c (by omega)]; exact h1,h2⟩
 refine ⟨I.len,I.ok,I.inv,I.c,I.nd,I.rf,?_,fun l i hb=>?_,fun i h1 h2 h3=>?_,fun i h1 hb=>?_,fun _=>⟨by show 1≤x.na+1; omega,?_,?_,by show (1:Int)≠0; decide,?_⟩,fun c c1 c3 q=>?_,I.nodup,I.got,fun c hc q=>?_,fun q1 q2=>?_,fun c hc q e=>?_,fun i h1 h2=>?_,fun i hi=>?_,fun _ e=>?_,fun c hc q=>?_⟩
 ·show ((x.na+1:Nat):Int)≤t.size
  omega
 ·have:=I.bo l i hb
  show i<((x.na+1:Nat):Int)
  omega
 ·have iw:i<((x.na+1:Nat):Int):=h2
  have pf:¬ (0≤aI x.o 0 oc 0∧i=((x.na+1:Nat):Int) - 1):=h3
  rw [dG] at pf
  exact I.bi i h1 (by omega) fun q=>by omega
 ·have:=I.bz i h1 hb; omega
 ·show (x.na:Int)=((x.na+1:Nat):Int) - 1
  omega
 ·have e:(((x.oT t K H oc).na:Nat):Int) - 1=x.na:=by show ((x.na+1:Nat):Int) - 1=_; omega
  rw [e]
  show fz t g _ _ (aj.new t (bN x.na 1) (K x.na) x.na (H x.na))
  refine ⟨rfl,trivial,a1,?_,a2,a4,by simp [aj.new],fun _ _=>⟨zW L.snd (by simp [ao.zero]),rfl⟩,by simp [aj.new],fun _=>nb 0,by rw [a4] at hi; simp [aj.new]; omega,by simp [aj.new],by simp [aj.new],by simp [aj.new],by simp [aj.new],by simp [aj.new],by simp [aj.new],by simp [aj.new],by simp [aj.new],by simp [aj.new],by simp [aj.new,ao.new,ao.anew]⟩
  exact (I.rf x.na (by omega) hn).symm
 ·rw [a4] at hi
  exact aj.tX L.snd ⟨by omega,hn⟩ ⟨hi.2.2.1,hi.2.2.2⟩ ⟨by unfold bN; omega,by unfold bN; omega⟩
 ·rw [oo c (by omega)] at q
  rw [oF c (by omega)]
  exact I.cl c c1 c3 q
 ·rw [oo c (by omega)] at q; exact I.min c hc q
 ·rw [oo 1 (by decide)] at q1; rw [oo 2 (by decide)] at q2; exact I.two q1 q2
 ·rw [oo c (by omega)] at q; rw [hl]; exact I.c12 c hc q e
 ·rw [vM (hl i) (ha i)]; exact I.hold i h1 h2
 ·exact I.uf i ((ha i).1 hi)
 ·have:(1:Int)=12:=e
  omega
 ·rw [oo c (by omega)] at q; exact I.rc c hc q
theorem bJ.lN (I:bJ t N K H x g) (L:Pl t N) (c1:1≤c) (c3:c≤3) (h0:x.o c<0) (ho:0≤oc):bJ t N K H (x.lN t c oc) g:=by
 have o0:(x.lN t c oc).o 0=x.o 0:=cN _ _ (by omega)
 have oo:∀ d,d≠c→(x.lN t c oc).o d=x.o d:=fun d h=>cN _ _ h
 have oF:∀ d,d≠c→(x.lN t c oc).F d=x.F d:=fun d h=>cN _ _ h
 have ol:∀ d,d≠c→(x.lN t c oc).cl d=x.cl d:=fun d h=>cN _ _ h
 have cc:(x.lN t c oc).cl c=ai.new t:=dG _ _ _
 have nm:¬ bY (ai.new t):=by unfold bY ai.new; simp
 have hl:∀ i,(x.lN t c oc).dH i↔x.dH i:=fun i=>by unfold Cm.dH; rw [o0]; exact Iff.rfl
 have ha:∀ i,(x.lN t c oc).add i↔x.add i:=fun i=>by
  unfold Cm.add
  constructor
  ·rintro (h | ⟨d,hd,h1,h2,h3⟩)
   ·exact .inl h
   ·by_cases e:d=c
    ·subst e; rw [cc] at h2; have:(1:Int)=12:=h2; omega
    ·rw [oo d e] at h1; rw [ol d e] at h2 h3; exact .inr ⟨d,hd,h1,h2,h3⟩
  ·rintro (h | ⟨d,hd,h1,h2,h3⟩)
   ·exact .inl h
   ·have e:d≠c:=by rintro rfl; omega
    exact .inr ⟨d,hd,by rw [oo d e]; exact h1,by rw [ol d e]; exact ⟨h2,h3⟩⟩
 refine ⟨I.len,I.ok,I.inv,I.c,I.nd,I.rf,I.na,I.bo,by rw [o0]; exact I.bi,by rw [o0]; exact I.bz,by rw [o0]; exact I.ins,fun d d1 d3 q=>?_,I.nodup,I.got,fun d hd q m=>?_,fun q1 q2 m1 m2=>?_,fun d hd q e=>?_,fun i h1 h2=>?_,fun i hi=>?_,by rw [o0]; exact I.ri,fun d hd q e=>?_⟩
 ·by_cases e:d=c
  ·subst e
   rw [cc]
   refine ⟨⟨L.snd,.inl rfl,fun _=>rfl,by simp [ai.new],by simp [ai.new],by simp [ai.new],by simp [ai.new],by simp [ai.new],by simp [ai.new],fun m=>absurd m nm,by simp [ai.new],by simp [ai.new],by simp [ai.new],by simp [ai.new],by simp [ai.new],by simp [ai.new],by simp [ai.new]⟩,by simp [ai.new],ai.tX L.snd⟩
  ·rw [oo d e] at q
   rw [oF d e,ol d e]
   exact I.cl d d1 d3 q
 ·have e:d≠c:=by rintro rfl; rw [cc] at m; exact nm m
  rw [oo d e] at q; rw [ol d e] at m ⊢; exact I.min d hd q m
 ·have e1:1≠c:=by rintro rfl; rw [cc] at m1; exact nm m1
  have e2:2≠c:=by rintro rfl; rw [cc] at m2; exact nm m2
  rw [oo 1 e1] at q1; rw [oo 2 e2] at q2; rw [ol 1 e1] at m1 ⊢; rw [ol 2 e2] at m2 ⊢
  exact I.two q1 q2 m1 m2
 ·have n:d≠c:=by rintro rfl; rw [cc] at e; have:(1:Int)=12:=e; omega
  rw [oo d n] at q; rw [ol d n] at e ⊢; rw [hl]; exact I.c12 d hd q e
 ·rw [vM (hl i) (ha i)]; exact I.hold i h1 h2
 ·exact I.uf i ((ha i).1 hi)
 ·have n:d≠c:=by rintro rfl; rw [cc] at e; have:(1:Int)=12:=e; omega
  rw [oo d n] at q; rw [ol d n] at e ⊢; exact I.rc d hd q e
theorem bJ.Lg (I:bJ t N K H x g) (L:Pl t N) (c1:1≤c) (c3:c≤3) (h0:0≤x.o c) (e:((x.cl c).step (lk c) t x.s).1.line=99) :
  (((x.cl c).step (lk c) t x.s).1.err=0∧0≤((x.cl c).step (lk c) t x.s).1.job∧((x.cl c).step (lk c) t x.s).1.job<x.na∧((x.cl c).step (lk c) t x.s).1.key=K ((x.cl c).step (lk c) t x.s).1.job∧(c<3→((x.cl c).step (lk c) t x.s).1.job∉x.got)∧((x.cl c).step (lk c) t x.s).1.job∈(x.eo t c).F c) ∨
  (((x.cl c).step (lk c) t x.s).1.err=15∧ -1∈(x.eo t c).F c):=by
 obtain ⟨k,k99,dR⟩:=I.cl c c1 c3 h0
 obtain ⟨p1,p2,p3,p4⟩:=I.KZ L (c:=c)
 have fin:∀ {g':Sh},aP t g' →g'.born=g.born→(∀ i p,p≤3→g'.c i p=g.c i p)→fo t g' (fun _=>True) (fun j=>j∈(x.eo t c).F c) (-1∈(x.eo t c).F c) (lk c) ((x.cl c).step (lk c) t x.s).1→(c<3→((x.cl c).step (lk c) t x.s).1.err=0→((x.cl c).step (lk c) t x.s).1.i∉x.got)→(((x.cl c).step (lk c) t x.s).1.err=0∧0≤((x.cl c).step (lk c) t x.s).1.job∧((x.cl c).step (lk c) t x.s).1.job<x.na∧((x.cl c).step (lk c) t x.s).1.key=K ((x.cl c).step (lk c) t x.s).1.job∧(c<3→((x.cl c).step (lk c) t x.s).1.job∉x.got)∧((x.cl c).step (lk c) t x.s).1.job∈(x.eo t c).F c)∨(((x.cl c).step (lk c) t x.s).1.err=15∧ -1∈(x.eo t c).F c):=fun {g'} h' hb lo C hg=>by
  rcases C.e15 e with q | q
  ·refine .inl ?_
   have nd:=C.nd (by omega) (fun _=>q)
   have bo:=h'.bo _ _ nd.2.2
   have i0:0≤((x.cl c).step (lk c) t x.s).1.i∧((x.cl c).step (lk c) t x.s).1.i<t.size:=⟨bo.1,bo.2.1⟩
   obtain ⟨a1,a2,a3,a4⟩:=I.nd _ i0.1 i0.2
   have hj:((x.cl c).step (lk c) t x.s).1.job=((x.cl c).step (lk c) t x.s).1.i:=by
    rw [C.job (by omega),lo _ 1 (by omega),a3,CJ L.snd i0]
   have b:=nd.2.2
   rw [hb] at b
   rw [hj]
   exact ⟨q,i0.1,I.bo _ _ b,by rw [C.key (by omega),lo _ 0 (by omega),a2],fun h=>hg h q,(C.own (by unfold bY; omega)).1⟩
  ·exact .inr q
 by_cases e11:(x.cl c).line=11
 ·have hc:c=1∨c=2:=by
   have:c≠3:=by rintro rfl; have:=k.my (by omega); simp [lk] at this
   omega
  have fc:bY (x.cl c):=by unfold bY; omega
  obtain ⟨b0,-⟩:=I.vN hc h0 fc
  have bo:=I.inv.bo _ _ b0
  have i0:0≤(x.cl c).i∧(x.cl c).i<t.size:=⟨bo.1,bo.2.1⟩
  obtain ⟨a1,a2,a3,a4⟩:=I.nd _ i0.1 i0.2
  have au:(x.cl c).step (lk c) t x.s=(x.cl c).l11 t x.s:=by unfold ai.step; simp [e11]
  have ex:((x.cl c).step (lk c) t x.s).1={ x.cl c with ar:=(x.cl c).a,line:=99 }:=by
   rw [au] at e ⊢
   unfold ai.l11 at e ⊢
   simp only at e ⊢
   split
   ·rename_i q; rw [if_pos q] at e; simp at e
   ·rfl
  refine .inl ?_
  rw [ex]
  have hj:(x.cl c).job=(x.cl c).i:=by rw [k.job (by omega),a3,CJ L.snd i0]
  exact ⟨k.err k99,by show 0≤(x.cl c).job; omega,by show (x.cl c).job<_; rw [hj]; exact I.bo _ _ b0,by show (x.cl c).key=K (x.cl c).job; rw [k.key (by omega),hj,a2],fun _=>by show (x.cl c).job∉_; rw [hj]; exact I.min c hc h0 fc,by show (x.cl c).job∈_; rw [hj]; exact p1 _ (k.own fc).1⟩
 by_cases e12:(x.cl c).line=12
 ·have hc:c=1∨c=2:=by
   have:c≠3:=by rintro rfl; have:=k.my (by omega); simp [lk] at this
   omega
  have fc:bY (x.cl c):=by unfold bY; omega
  obtain ⟨b0,-⟩:=I.vN hc h0 fc
  have bo:=I.inv.bo _ _ b0
  have i0:0≤(x.cl c).i∧(x.cl c).i<t.size:=⟨bo.1,bo.2.1⟩
  obtain ⟨a1,a2,a3,a4⟩:=I.nd _ i0.1 i0.2
  have au:(x.cl c).step (lk c) t x.s=(x.cl c).l12 t x.s:=by unfold ai.step; simp [e12]
  refine .inl ?_
  rw [au]
  have hj:(x.cl c).job=(x.cl c).i:=by rw [k.job (by omega),a3,CJ L.snd i0]
  exact ⟨k.err k99,by show 0≤(x.cl c).job; omega,by show (x.cl c).job<_; rw [hj]; exact I.bo _ _ b0,by show (x.cl c).key=K (x.cl c).job; rw [k.key (by omega),hj,a2],fun _=>by show (x.cl c).job∉_; rw [hj]; exact I.min c hc h0 fc,by show (x.cl c).job∈_; rw [hj]; exact p1 _ (k.own fc).1⟩
 obtain ⟨g',G⟩:=KR (I.sv L) I.inv I.c (fun _ _ _ _ _=>trivial) k p1 p2 p3 p4 k99 e11 e12
 refine fin G.inv G.born G.lo G.loc fun h q=>?_
 have:=((x.cl c).z8 (lk c) t x.s e11 e12 k99 k.line).2 (Aa (by omega)) e
 omega
end
theorem acH {A G:GS} (h:Ext A G) {n:Nat} (hn:A.nx≤n) (o:bK):Ext A (((G.aS n).push o).back G) :=
 ⟨h.nx,fun g hg=>by simp; rw [if_neg (by omega)]; exact h.obj g hg,h.nl,fun l hl=>by simpa using h.loop l hl⟩
theorem Lh (ae:FuncId→Bool) (ht:ae 120=false) {i g:Int} (h0:0≤i∧i≤65534) (h1:0≤g∧g<4294967296) (G:GS):∃ G',(E ae).cl 99 [.int .u64 (bN i g)] G=some (.tuple #[.agg ⟨[.int .i64 i,.int .i64 g,.bool false]⟩,.int .i64 0],G')∧Ext G G':=by
 have hU:U (bN i g):=by unfold bN U; omega
 obtain ⟨G1,ak⟩:∃ G1,G1=G.push ⟨[.int .i64 0,.int .i64 0,.bool false],1,false,1⟩:=⟨_,rfl⟩
 have x1:Ext G G1:=by rw [ak]; exact (Ext.refl G).push _
 have n1:G1.nx=G.nx+1:=by rw [ak]; rfl
 have o1:G1.obj G.nx=some ⟨[.int .i64 0,.int .i64 0,.bool false],1,false,1⟩:=by rw [ak]; simp
 obtain ⟨G2,e2,x2⟩:=RU ae ht G1
 have o2:=(x2.obj G.nx (by omega)).trans o1
 obtain ⟨G3,cE⟩:∃ G3,G3=((G2.push ⟨[.int .i64 0,.int .i64 0,.int .i64 0,.int .i64 0],1,false,1⟩).put G2.nx ⟨[.int .i64 0,.int .i64 16,.int .i64 16,.int .i64 32],1,false,1⟩).room 14:=⟨_,rfl⟩
 have n2:=x2.nx
 have x3:Ext G2 G3:=by rw [cE]; exact (((Ext.refl G2).push _).put (Nat.le_refl _) _).room 14
 have o3:=(x3.obj G.nx (by omega)).trans o2
 have p3:G3.obj G2.nx=some ⟨[.int .i64 0,.int .i64 16,.int .i64 16,.int .i64 32],1,false,1⟩:=by rw [cE]; simp
 have n3:G3.nx=G2.nx+15:=by rw [cE]; simp
 obtain ⟨G4,e4,x4⟩:=RR ae hU G3
 have o4:=(x4.obj G.nx (by omega)).trans o3
 have p4:=(x4.obj G2.nx (by omega)).trans p3
 obtain ⟨G5,e5,x5⟩:=abm ae hU G4
 have n4:=x4.nx
 have o5:=(x5.obj G.nx (by omega)).trans o4
 have n5:=x5.nx
 have e6:=vE ae hU G5
 have hm:¬ 9223372036854775808≤bN i g:=by unfold bN; omega
 rw [decide_eq_false hm] at e6
 have v1:bN i g % 65536=i+1:=by unfold bN; omega
 have v2:bN i g / 65536 % 4294967296=g:=by unfold bN; omega
 rw [v1] at e4
 rw [v2] at e5
 have hw:IntKind.wrap .i64 i=i:=wrap64 (by omega) (by omega)
 have hs:same (.agg ⟨[.int .i64 16,.int .i64 32]⟩) (.agg ⟨[.int .i64 16,.int .i64 32]⟩)=true:=by simp [same,dh,dh.mU]
 obtain ⟨G6,cu⟩:∃ G6,G6=((((G5.aS (G2.nx+1+12)).push ⟨[.int .i64 0,.int .i64 0,.bool false],1,false,1⟩).back G5).put (G2.nx+1+12) ⟨[.int .i64 i,.int .i64 g,.bool false],1,false,1⟩):=⟨_,rfl⟩
 have x6:Ext G G6:=by rw [cu]; exact (acH ((((x1.trans x2).trans x3).trans x4).trans x5) (by omega) _).put (by omega) _
 have o6:G6.obj (G2.nx+1+12)=some ⟨[.int .i64 i,.int .i64 g,.bool false],1,false,1⟩:=by rw [cu]; simp
 have q6:G6.obj G.nx=some ⟨[.int .i64 0,.int .i64 0,.bool false],1,false,1⟩:=by
  have:¬ G.nx=G2.nx+1+12:=by omega
  rw [cu]; simp [o5,this]
 have n6:G6.nx=G5.nx:=by rw [cu]; rfl
 obtain ⟨G7,e7,x7⟩:=abe ae ht h0 h1 G6
 have o7:=(x7.obj (G2.nx+1+12) (by omega)).trans o6
 have q7:=(x7.obj G.nx (by omega)).trans q6
 have w:Wp (s99 true (bD Q ae) (.int .u64 (bN i g)) G) fun r=>r.1= .tuple #[.agg ⟨[.int .i64 i,.int .i64 g,.bool false]⟩,.int .i64 0]∧Ext G r.2:=by
  have aB:¬ G.nx=G2.nx+1+12:=by omega
  have DC:¬ G2.nx=G.nx:=by omega
  simp [s99,← ak,e2,← cE,p3,e4,p4,bp,hs,e5,e6,hw,← cu,o6,e7,q7,o7,aB]
  exact (x6.trans x7).put (Nat.le_refl _) _
 obtain ⟨⟨v,G'⟩,e1,rfl,e3⟩:=w
 exact ⟨G',f99 (aq Q ae) _ G _ e1,e3⟩
theorem acI (ae:FuncId→Bool) (dZ:ae 120=false) {t:TW} (hs:t.sound) {i g job hi:Int} (h0:0≤i∧i<t.size) (h1:0≤g∧g<4294967296) (h2:0≤job∧job≤65534) (h3:1≤hi∧hi≤t.ay) (G:GS) :
  ∃ G',(E ae).cl 65 [t.v,.int .u64 (bN i g),.int .i64 job,.int .i64 hi] G=some (.int .i64 0,G')∧Ext G G':=by
 have cm:t.size≤128:=hs.2.2.2.1
 obtain ⟨G1,ak⟩:∃ G1,G1=G.push ⟨t.cells,1,false,1⟩:=⟨_,rfl⟩
 have x1:Ext G G1:=by rw [ak]; exact (Ext.refl G).push _
 have n1:G1.nx=G.nx+1:=by rw [ak]; rfl
 have o1:G1.obj G.nx=some ⟨t.cells,1,false,1⟩:=by rw [ak]; simp
 obtain ⟨G4,e4,x4⟩:=E2 ae t G1
 rw [decide_eq_true hs] at e4
 obtain ⟨G7,e7,x7⟩:=Lh ae dZ (i:=i) (g:=g) (by omega) h1 G4
 have x17:=(x1.trans x4).trans x7
 have o7:=((x4.trans x7).obj G.nx (by omega)).trans o1
 have aB:¬ G.nx=G7.nx:=by have:=(x4.trans x7).nx; omega
 have w:Wp (s65 true (bD Q ae) t.v (.int .u64 (bN i g)) (.int .i64 job) (.int .i64 hi) G) fun r=>r.1= .int .i64 0∧Ext G r.2:=by
  have a1:¬ i<0:=by omega
  have a2:¬ t.size≤i:=by omega
  have a3:¬ job<0:=by omega
  have a4:¬ 65534<job:=by omega
  have a5:¬ hi<1:=by omega
  have a6:¬ t.ay<hi:=by omega
  have ld:nD 13 0 (some ⟨t.cells,1,false,1⟩)=some t.v:=Cg rfl (by decide)
  simp [s65,← ak,o1,ld,e4,e7,o7,aB,gW,rE,rF,a1,a2,a3,a4,a5,a6]
  exact (x17.push _).put (by have:=x17.nx; omega) _
 obtain ⟨⟨v,G'⟩,e1,rfl,e3⟩:=w
 exact ⟨G',f65 (aq Q ae) _ _ _ _ G _ e1,e3⟩
section
variable {own:Nat→Nat} {G:GS} {m:Nat} {s:MS}
theorem acJ (ae:FuncId→Bool) {t:TW} (h:PM own G m s) {xb ib pb wb:Nat} {i p w:Int} (hx:G.obj xb=some ⟨t.cells,1,false,1⟩) (hi:G.obj ib=some ⟨[.int .i64 i],1,false,1⟩) (hp:G.obj pb=some ⟨[.int .i64 p],1,false,1⟩) (hw:G.obj wb=some ⟨[.int .u64 w],1,false,1⟩) (hl:wb<G.nx) :
  ∃ ah G1,fJ (E ae) (.func (.func 68) #[] #[P0 xb,P0 ib,P0 pb,P0 wb]) [P0 m] G=some (.tuple #[],G1)∧PW no own G ah G1 m (s.store (az t i p) w):=by
 obtain ⟨G3,e3,x3⟩:=vD ae t i p (G.room 7)
 have x03:Ext G G3:=((Ext.refl G).room 7).trans x3
 obtain ⟨ah,G6,e6,w6⟩:=PM.store ae (h.ext x03) (az t i p) w
 have ow:=(x03.obj wb hl).trans hw
 have ld:nD 13 0 (some ⟨t.cells,1,false,1⟩)=some t.v:=Cg rfl (by decide)
 have hs:same (.int .u64 w) (.int .u64 w)=true:=by simp [same,dh]
 have hc:Wp (fJ (E ae) (.func (.func 68) #[] #[P0 xb,P0 ib,P0 pb,P0 wb]) [P0 m] G) fun r=>r=(.tuple #[],G6):=by
  rw [xg]
  refine Wp.ref (f68 (aq Q ae) _ _ _ _ _ G) ?_
  simp [s68,hx,hi,hp,hw,ld,e3,ow,hs,bp,e6]
 obtain ⟨r,e,rfl⟩:=hc
 exact ⟨_,G6,e,(PW.refl h).ext x03 |>.trans w6 fun _ _ h=>h⟩
theorem acK (ae:FuncId→Bool) (xb ib:Nat) (p w:Int) (G:GS):fJ (E ae) (.func (.func 67) #[] #[P0 xb,P0 ib]) [.int .i64 p,.int .u64 w] G=some (.func (.func 68) #[] #[P0 xb,P0 ib,P0 G.nx,P0 (G.nx+1)],(G.push ⟨[.int .i64 p],1,false,1⟩).push ⟨[.int .u64 w],1,false,1⟩):=by
 have hc:Wp (fJ (E ae) (.func (.func 67) #[] #[P0 xb,P0 ib]) [.int .i64 p,.int .u64 w] G) fun r=>r=(.func (.func 68) #[] #[P0 xb,P0 ib,P0 G.nx,P0 (G.nx+1)],(G.push ⟨[.int .i64 p],1,false,1⟩).push ⟨[.int .u64 w],1,false,1⟩):=by
  rw [xg]
  refine Wp.ref (f67 (aq Q ae) _ _ _ _ G) ?_
  simp [s67]
 obtain ⟨r,e,rfl⟩:=hc
 exact e
end
theorem acL (ae:FuncId→Bool) (aZ:ae 107=false) {t:TW} (hs:t.sound) {i g:Int} (h0:0≤i∧i<t.size) (h1:0≤g∧g<4294967296) (G:GS):∃ G',(E ae).cl 66 [t.v,.int .u64 (bN i g)] G=some (.int .i64 i,G')∧Ext G G':=by
 have cm:t.size≤128:=hs.2.2.2.1
 have hU:U (bN i g):=by unfold bN U; omega
 obtain ⟨G1,ak⟩:∃ G1,G1=G.push ⟨t.cells,1,false,1⟩:=⟨_,rfl⟩
 have x1:Ext G G1:=by rw [ak]; exact (Ext.refl G).push _
 have n1:G1.nx=G.nx+1:=by rw [ak]; rfl
 have o1:G1.obj G.nx=some ⟨t.cells,1,false,1⟩:=by rw [ak]; simp
 obtain ⟨G3,e3,x3⟩:=xC ae aZ hU G1
 have v1:bN i g % 65536 - 1=i:=by unfold bN; omega
 rw [v1] at e3
 have o3:=(x3.obj G.nx (by omega)).trans o1
 have aB:¬ G.nx=G3.nx:=by have:=x3.nx; omega
 have w:Wp (s66 true (bD Q ae) t.v (.int .u64 (bN i g)) G) fun r=>r.1= .int .i64 i∧Ext G r.2:=by
  have a2:¬ t.size≤i:=by omega
  simp [s66,← ak,e3,o3,aB,gW,rE,rF,a2]
  exact ((x1.trans x3).push _).put (by have:=(x1.trans x3).nx; omega) _
 obtain ⟨⟨v,G'⟩,e1,rfl,e4⟩:=w
 exact ⟨G',f66 (aq Q ae) _ _ G _ e1,e4⟩
def qY (xb ib n k:Nat):Value:=.func (.func 68) #[] #[P0 xb,P0 ib,P0 (n+2*k),P0 (n+2*k+1)]
def mD (ref:Int) (xb ib n:Nat) (d:Int):bK:=⟨[.bool true,.int .u64 ref,qY xb ib n 0,qY xb ib n 1,qY xb ib n 2,qY xb ib n 3,.int .i64 d,.int .i64 0],1,false,1⟩
structure sG (t:TW) (G:GS) (b:Nat) (i ref:Int) (ws:Nat→Int) (d:Int) (xb ib n:Nat):Prop where
 ob:G.obj b=some (mD ref xb ib n d)
 ox:G.obj xb=some ⟨t.cells,1,false,1⟩
 oi:G.obj ib=some ⟨[.int .i64 i],1,false,1⟩
 op:∀ k,k<4→G.obj (n+2*k)=some ⟨[.int .i64 (k:Int)],1,false,1⟩∧G.obj (n+2*k+1)=some ⟨[.int .u64 (ws k)],1,false,1⟩
 lt:b<G.nx∧xb<G.nx∧ib<G.nx∧n+8≤G.nx
end Go.Proofs.YtkhlabammcghbaaGreat.Lift
