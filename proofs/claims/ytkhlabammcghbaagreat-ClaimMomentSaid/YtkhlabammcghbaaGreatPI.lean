import Derived.Test.YtkhlabammcghbaaGreatPH
import Derived.Test.YtkhlabammcghbaaGreatPF
import Derived.Test.YtkhlabammcghbaaGreatPB
import Derived.Test.YtkhlabammcghbaaGreatPA
import Derived.Test.YtkhlabammcghbaaGreatGhPR
import Derived.Test.YtkhlabammcghbaaGreatGhPC
import Derived.Test.YtkhlabammcghbaaGreatPC
set_option linter.unusedVariables false
set_option linter.unusedSimpArgs false
set_option maxRecDepth 20000
namespace Go.Proofs.YtkhlabammcghbaaGreat.Lift
open Go Go.Proofs.YtkhlabammcghbaaGreat.Gh Go.Proofs
section
variable {own own' ah:Nat→Nat} {G G' G1 G16:GS} {b tb m c sb tag tg k:Nat} {ts:List Nat} {x y:Cm} {w:Cx} {B B':dz} {v:Value} {t:TW} {key hi i e:Int} {s s':MS} {z:aj} {K H:Int→Int} {N:Nat} {g:Sh}
theorem ad3 (ae:FuncId→Bool) (aZ:ae 107=false) (L:Pl t N) (I:bJ t N K H x g) (W:qg t K H x w k) (hk:k≤900000) (h:bW own G t x w B) (h0:0≤x.o 1) :
  Wp ((E ae).cl 33 [P0 B.xb,.int .i64 1] G) (nJ t K H x w k 1 own G B):=by
 have hc:(1:Nat)<4:=by decide
 have bU:=h.cx.obj
 have gM:=h.co.obj
 have mJ:=h.cf.obj
 have eI:¬ x.o 1<0:=by omega
 have LP:=W.oc 1 hc h0
 obtain ⟨j,hj⟩:∃ j:Nat,x.o 1=j:=⟨(x.o 1).toNat,by omega⟩
 have yb:j<w.cs.length:=by omega
 rw [fB] at bU
 obtain ⟨G16,e16,x16⟩:=F4 ae aZ L.snd I.ok (h.df ((Ext.refl G).room 18))
 have kD:(x.F 1).length≤1000000:=by have:=W.fs 1 hc; omega
 obtain ⟨v',G20,e20,kQ,qZ,ra,yd⟩:=Gv h hc x16 kD (gL t x.s)
 obtain ⟨G23,cK⟩:∃ G23,G23=G20.put B.fb ⟨lF (aI B.F 1 v'),1,false,1⟩:=⟨_,rfl⟩
 obtain ⟨m23,h23⟩:=yd G23 cK
 have sF:bp (some (B.F 1)) (B.F 1)=true:=Ci (h.fs 1 hc).ow
 have y16:Ext G G16:=((Ext.refl G).room 18).trans x16
 have re:=(y16.obj _ h.cf.lt).trans mJ
 have oX:=(y16.obj _ h.cx.lt).trans bU
 have mK:bf own (grown own G (21+1)) G:=dk
 obtain ⟨rh,ye⟩:∃ rh,rh=grown own G (21+1):=⟨_,rfl⟩
 rw [← ye] at h23 mK
 have cU:=h23.df ((Ext.refl G23).room 13)
 have rj:aE dI own G (G23.room 13):=bC.room (aE.mono (us:=dI) m23 (by decide)) 13
 have dO:G23.obj B.xb=some ⟨cq t w B,1,false,1⟩:=h23.cx.obj
 rw [fB] at kQ dO
 obtain ⟨kk,k99,dR⟩:=I.cl 1 (by decide) (by decide) h0
 have nK:lk 1=false:=rfl
 rw [nK] at kk dR
 obtain ⟨rm,sA⟩:=cU.i1 h0
 obtain ⟨ah,G31,e31,w31,p31⟩:=TP ae aZ L.snd L.gm cU.hm I.ok dR (by decide) (by decide) (by decide) sA
 have m31:=w31.LO
 obtain ⟨x2,cH⟩:∃ x2:Cm,x2={ x with s:=((x.cl 1).step false t x.s).2,cl:=aI x.cl 1 ((x.cl 1).step false t x.s).1,F:=aI x.F 1 (x.F 1++[gL t x.s]) }:=⟨_,rfl⟩
 obtain ⟨B2,dq⟩:∃ B2:dz,B2={ B with F:=aI B.F 1 v' }:=⟨_,rfl⟩
 rw [← dq] at cU h23 rm e31 p31
 have a31:=w31.bH.dm
 have h31:bW ah G31 t x2 w B2:=by
  rw [cH]
  exact cU.bH (z:=x.ins) (cl':=aI x.cl 1 ((x.cl 1).step false t x.s).1) m31 a31 (by decide) (by rw [dq]; exact w31.pm) (fun q=>⟨(cU.i0 q).1,qd (cU.i0 q).2 m31 (by decide) (by decide) a31⟩) (fun q=>⟨(cU.i1 q).1,by show eN ah 33 34 t G31 _ _; rw [dG]; exact p31⟩) (fun q=>⟨(cU.i2 q).1,by show _; rw [cN _ _ (by decide)]; exact gb (cU.i2 q).2 m31 (by decide) (by decide) a31⟩) (fun q=>⟨(cU.i3 q).1,by show _; rw [cN _ _ (by decide)]; exact nH (cU.i3 q).2 m31 (by decide) a31⟩)
 have jR:bf own ah G:=fun g hg=>(a31 g (by have:=rj.nx; omega)).trans (mK g hg)
 have mA:aE dI own G G31:=rj.trans mK (aE.mono (us:=dI) m31 (by decide))
 have gx:x.goes t K H 1 w.cs.length=if ((x.cl 1).step false t x.s).1.line=99 then (if ((x.cl 1).step false t x.s).1.err=0∧1≤1∧1<3 then { x2.close 1 with got:=x2.got++[((x.cl 1).step false t x.s).1.job] } else x2.close 1) else x2:=by
  unfold Cm.goes
  rw [if_neg eI,if_neg (by decide),cH]
  unfold Cm.eo Cm.close
  rw [nK]
  by_cases q1:((x.cl 1).step false t x.s).1.line=99
  ·by_cases q2:((x.cl 1).step false t x.s).1.err=0
   ·simp [q1,q2]
   ·simp [q1,q2]
  ·simp [q1]
 have wf:∀ d,d<4→(x2.F d).length≤(x.F d).length+1:=fun d hd=>by
  rw [cH]
  show (aI x.F 1 (x.F 1++[gL t x.s]) d).length≤_
  by_cases e:d=1
  ·subst e; rw [dG]; simp
  ·rw [cN _ _ e]; omega
 have mL:x2.o=x.o:=by rw [cH]
 have iE:x2.got=x.got:=by rw [cH]
 have rn:=h31.cx.obj
 have mM:B2.xb=B.xb:=by rw [dq]
 have mN:B2.m=B.m:=by rw [dq]
 have p0:bZ B 1=P0 (B2.v 1):=by
  have:bZ B2 1=P0 (B2.v 1):=by unfold bZ; rw [rm]; rfl
  rw [← this,dq]; rfl
 have e31:(E ae).cl 20 [P0 (B2.v 1),P0 B.m] (G23.room 13)=some (.bool (decide (((x.cl 1).step false t x.s).1.line=99)),G31):=by rw [← mN]; exact e31
 have rr:=h23.cc.obj
 have uC:=h31.cc.obj
 rw [show B2.cb=B.cb by rw [dq]] at rr uC
 have pB:∀ d,bZ B2 d=bZ B d:=fun d=>by rw [dq]; rfl
 rw [fB,pB,pB,mM,show B2.cb=B.cb by rw [dq]] at rn
 simp only [pB] at rr uC
 rw [p0] at rr uC
 have mZ:z60=[.int .u64 0,.int .i64 0]:=rfl
 by_cases hl:((x.cl 1).step false t x.s).1.line=99
 ·rw [if_pos hl] at gx
  have E:=I.Lg L (c:=1) (by decide) (by decide) h0 (by rw [nK]; exact hl)
  rw [nK] at E
  have FC:(x.eo t 1).F 1=x2.F 1:=by rw [(uj t x 1).Fc,cH]; show _=aI x.F 1 (x.F 1++[gL t x.s]) 1; rw [dG]
  rw [FC] at E
  obtain ⟨⟨pl,Uo⟩,fp,rp,po,-⟩:=p31
  obtain ⟨G60,e60,x60⟩:=TQ ae po pl
  obtain ⟨z1,sL⟩:∃ z1,z1=((x.cl 1).step false t x.s).1:=⟨_,rfl⟩
  rw [← sL] at hl E e60 gx
  have h60:=h31.df x60
  obtain ⟨G65,nL⟩:∃ G65,G65=(G60.push ⟨z60,1,false,1⟩).put G60.nx ⟨[.int .u64 z1.ik,.int .i64 z1.ij],1,false,1⟩:=⟨_,rfl⟩
  have x65:Ext G60 G65:=by rw [nL]; exact ((Ext.refl _).push _).put (Nat.le_refl _) _
  have o65:G65.obj G60.nx=some ⟨[.int .u64 z1.ik,.int .i64 z1.ij],1,false,1⟩:=by rw [nL]; simp
  have h65:=h60.df x65
  have y65:Ext G31 G65:=x60.trans x65
  have ru:z1.ie=z1.err:=by unfold ai.ie; rw [if_neg (by omega)]
  have hr:(1=0∧z1.ie=0)∨(1≤1∧z1.ie=0∧0≤z1.ij∧z1.ij<x2.na∧w.KS[z1.ij.toNat]? =some z1.ik∧(1<3→z1.ij∉x2.got)∧z1.ij∈x2.F 1)∨(1≤1∧z1.ie=15∧z1.ik=0∧z1.ij=0∧ -1∈x2.F 1):=by
   rcases E with ⟨r1,r2,r3,r4,r5,r6⟩ | ⟨r1,r2⟩
   ·refine .inr (.inl ⟨by decide,by rw [ru]; exact r1,?_⟩)
    have C3:z1.ik=z1.key:=by unfold ai.ik; rw [if_neg (by omega),if_neg (by omega)]
    have gD:z1.ij=z1.job:=by unfold ai.ij; rw [if_neg (by omega),if_neg (by omega)]
    rw [gD,C3]
    refine ⟨r2,by rw [cH]; exact r3,?_,by rw [iE]; exact r5,r6⟩
    have:=(W.ke z1.job.toNat (by have:=I.na; omega)).1
    rw [this,r4,show ((z1.job.toNat:Nat):Int)=z1.job by omega]
   ·refine .inr (.inr ⟨by decide,by rw [ru]; exact r1,?_,?_,r2⟩)
    ·unfold ai.ik; rw [if_neg (by omega),if_pos (by omega)]
    ·unfold ai.ij; rw [if_neg (by omega),if_pos (by omega)]
  obtain ⟨⟨r,G40⟩,e40,q1,et,B4,b1,b2,b3,b4,b5⟩:=Ge (key:=z1.ik) (i:=z1.ij) (e:=z1.ie) ae h65 (by decide) (by rw [mL]; exact hj) yb (by rw [iE]; have:=W.gt; omega) (fun d hd=>by have:=wf d hd; have:=W.fs d hd; omega) hr
  simp only at q1 b4 b5
  subst q1
  rw [mM] at e40 b1
  rw [mN] at b2
  have vT:x.goes t K H 1 w.cs.length=if z1.ie=0∧1≤1∧1<3 then { x2.close 1 with got:=x2.got++[z1.ij] } else x2.close 1:=by
   rw [gx,ru]
   by_cases q:z1.err=0
   ·have gD:z1.ij=z1.job:=by unfold ai.ij; rw [if_neg (by omega),if_neg (by omega)]
    rw [gD]
   ·rw [if_neg (fun k=>q k.1),if_neg (fun k=>q k.1)]
  have gg:∀ y:Cm,y=(if z1.ie=0∧1≤1∧1<3 then { x2.close 1 with got:=x2.got++[z1.ij] } else x2.close 1)→y.got.length≤x.got.length+1∧y.F=x2.F∧y.o=aI x2.o 1 (-1):=fun y hy=>by
   rw [hy]
   split
   ·exact ⟨by show (x2.got++[z1.ij]).length≤_; rw [iE]; simp,rfl,rfl⟩
   ·exact ⟨by show x2.got.length≤_; rw [iE]; omega,rfl,rfl⟩
  obtain ⟨C4,C5,C6⟩:=gg _ vT
  have mB:aE dI own G G65:=mA.trans jR (aE.ext y65)
  have post:nJ t K H x w k 1 own G B (.bool true,G40):=by
   refine ⟨w.gy j z1.ie z1.ij z1.ik,?_,rfl,et,B4,b1,b2,(fun g hg=>(b3 g (by have:=mB.nx; omega)).trans (jR g hg)),mB.trans jR b4,by rw [vT]; exact b5⟩
   refine W.ext rfl rfl ⟨?_,?_⟩ C4 (by rw [C5]; exact wf) (fun d hd q=>.inl ?_)
   ·have:=W.cs; simp [Cx.gy]; omega
   ·simp [Cx.gy]
   ·rw [C6] at q ⊢
    by_cases e:d=1
    ·subst e; rw [dG] at q; omega
    ·rw [cN _ _ e,mL]
  refine Wp.ref (f33 (aq Q ae) _ _ G) ?_
  refine Wp.mono (Q:=fun q=>q=(.bool true,G40)) ?_ (fun q hq=>by subst hq; exact post)
  simp at e40
  simp [aI,lF] at cK
  rw [← sL] at e31
  simp [hl] at e31
  unfold mC at e60
  have w0:IntKind.wrap .i64 0=0:=by decide
  have w1:IntKind.wrap .i64 1=1:=by decide
  rw [mZ] at nL
  simp [-Int.natCast_add,s33,bU,gM,mJ,eI,e16,re,oX,sF,e20,kQ,qZ,ra,iq,← cK,dO,rr,uC,w0,w1,e31,rn,e60,mZ,ch,cg,gA,gW,rE,rF,← nL,o65,e40]
 ·rw [if_neg hl] at gx
  have post:nJ t K H x w k 1 own G B (.bool true,G31):=by
   refine ⟨w,?_,rfl,ah,B2,mM,mN,jR,mA,by rw [gx]; exact h31⟩
   rw [gx]
   exact W.ext rfl rfl ⟨by have:=W.cs; omega,Nat.le_refl _⟩ (by rw [iE]; omega) wf (fun d hd q=>.inl (by rw [mL]))
  refine Wp.ref (f33 (aq Q ae) _ _ G) ?_
  refine Wp.mono (Q:=fun q=>q=(.bool true,G31)) ?_ (fun q hq=>by subst hq; exact post)
  simp [aI,lF] at cK
  simp [hl] at e31
  have w0:IntKind.wrap .i64 0=0:=by decide
  have w1:IntKind.wrap .i64 1=1:=by decide
  simp [-Int.natCast_add,s33,bU,gM,mJ,eI,e16,re,oX,sF,e20,kQ,qZ,ra,iq,← cK,dO,rr,w0,w1,e31]
theorem ad4 (ae:FuncId→Bool) (aZ:ae 107=false) (L:Pl t N) (I:bJ t N K H x g) (W:qg t K H x w k) (hk:k≤900000) (h:bW own G t x w B) (h0:0≤x.o 2) :
  Wp ((E ae).cl 33 [P0 B.xb,.int .i64 2] G) (nJ t K H x w k 2 own G B):=by
 have hc:(2:Nat)<4:=by decide
 have bU:=h.cx.obj
 have gM:=h.co.obj
 have mJ:=h.cf.obj
 have eI:¬ x.o 2<0:=by omega
 have LP:=W.oc 2 hc h0
 obtain ⟨j,hj⟩:∃ j:Nat,x.o 2=j:=⟨(x.o 2).toNat,by omega⟩
 have yb:j<w.cs.length:=by omega
 rw [fB] at bU
 obtain ⟨G16,e16,x16⟩:=F4 ae aZ L.snd I.ok (h.df ((Ext.refl G).room 18))
 have kD:(x.F 2).length≤1000000:=by have:=W.fs 2 hc; omega
 obtain ⟨v',G20,e20,kQ,qZ,ra,yd⟩:=Gv h hc x16 kD (gL t x.s)
 obtain ⟨G23,cK⟩:∃ G23,G23=G20.put B.fb ⟨lF (aI B.F 2 v'),1,false,1⟩:=⟨_,rfl⟩
 obtain ⟨m23,h23⟩:=yd G23 cK
 have sF:bp (some (B.F 2)) (B.F 2)=true:=Ci (h.fs 2 hc).ow
 have y16:Ext G G16:=((Ext.refl G).room 18).trans x16
 have re:=(y16.obj _ h.cf.lt).trans mJ
 have oX:=(y16.obj _ h.cx.lt).trans bU
 have mK:bf own (grown own G (21+2)) G:=dk
 obtain ⟨rh,ye⟩:∃ rh,rh=grown own G (21+2):=⟨_,rfl⟩
 rw [← ye] at h23 mK
 have cU:=h23.df ((Ext.refl G23).room 13)
 have rj:aE dI own G (G23.room 13):=bC.room (aE.mono (us:=dI) m23 (by decide)) 13
 have dO:G23.obj B.xb=some ⟨cq t w B,1,false,1⟩:=h23.cx.obj
 rw [fB] at kQ dO
 obtain ⟨kk,k99,dR⟩:=I.cl 2 (by decide) (by decide) h0
 have nK:lk 2=false:=rfl
 rw [nK] at kk dR
 obtain ⟨rm,sA⟩:=cU.i2 h0
 obtain ⟨ah,G31,e31,w31,p31⟩:=TP ae aZ L.snd L.gm cU.hm I.ok dR (by decide) (by decide) (by decide) sA
 have m31:=w31.LO
 obtain ⟨x2,cH⟩:∃ x2:Cm,x2={ x with s:=((x.cl 2).step false t x.s).2,cl:=aI x.cl 2 ((x.cl 2).step false t x.s).1,F:=aI x.F 2 (x.F 2++[gL t x.s]) }:=⟨_,rfl⟩
 obtain ⟨B2,dq⟩:∃ B2:dz,B2={ B with F:=aI B.F 2 v' }:=⟨_,rfl⟩
 rw [← dq] at cU h23 rm e31 p31
 have a31:=w31.bH.dm
 have h31:bW ah G31 t x2 w B2:=by
  rw [cH]
  exact cU.bH (z:=x.ins) (cl':=aI x.cl 2 ((x.cl 2).step false t x.s).1) m31 a31 (by decide) (by rw [dq]; exact w31.pm) (fun q=>⟨(cU.i0 q).1,qd (cU.i0 q).2 m31 (by decide) (by decide) a31⟩) (fun q=>⟨(cU.i1 q).1,by show _; rw [cN _ _ (by decide)]; exact gb (cU.i1 q).2 m31 (by decide) (by decide) a31⟩) (fun q=>⟨(cU.i2 q).1,by show eN ah 35 36 t G31 _ _; rw [dG]; exact p31⟩) (fun q=>⟨(cU.i3 q).1,by show _; rw [cN _ _ (by decide)]; exact nH (cU.i3 q).2 m31 (by decide) a31⟩)
 have jR:bf own ah G:=fun g hg=>(a31 g (by have:=rj.nx; omega)).trans (mK g hg)
 have mA:aE dI own G G31:=rj.trans mK (aE.mono (us:=dI) m31 (by decide))
 have gx:x.goes t K H 2 w.cs.length=if ((x.cl 2).step false t x.s).1.line=99 then (if ((x.cl 2).step false t x.s).1.err=0∧1≤2∧2<3 then { x2.close 2 with got:=x2.got++[((x.cl 2).step false t x.s).1.job] } else x2.close 2) else x2:=by
  unfold Cm.goes
  rw [if_neg eI,if_neg (by decide),cH]
  unfold Cm.eo Cm.close
  rw [nK]
  by_cases q1:((x.cl 2).step false t x.s).1.line=99
  ·by_cases q2:((x.cl 2).step false t x.s).1.err=0
   ·simp [q1,q2]
   ·simp [q1,q2]
  ·simp [q1]
 have wf:∀ d,d<4→(x2.F d).length≤(x.F d).length+1:=fun d hd=>by
  rw [cH]
  show (aI x.F 2 (x.F 2++[gL t x.s]) d).length≤_
  by_cases e:d=2
  ·subst e; rw [dG]; simp
  ·rw [cN _ _ e]; omega
 have mL:x2.o=x.o:=by rw [cH]
 have iE:x2.got=x.got:=by rw [cH]
 have rn:=h31.cx.obj
 have mM:B2.xb=B.xb:=by rw [dq]
 have mN:B2.m=B.m:=by rw [dq]
 have p0:bZ B 2=P0 (B2.v 2):=by
  have:bZ B2 2=P0 (B2.v 2):=by unfold bZ; rw [rm]; rfl
  rw [← this,dq]; rfl
 have e31:(E ae).cl 20 [P0 (B2.v 2),P0 B.m] (G23.room 13)=some (.bool (decide (((x.cl 2).step false t x.s).1.line=99)),G31):=by rw [← mN]; exact e31
 have rr:=h23.cc.obj
 have uC:=h31.cc.obj
 rw [show B2.cb=B.cb by rw [dq]] at rr uC
 have pB:∀ d,bZ B2 d=bZ B d:=fun d=>by rw [dq]; rfl
 rw [fB,pB,pB,mM,show B2.cb=B.cb by rw [dq]] at rn
 simp only [pB] at rr uC
 rw [p0] at rr uC
 have mZ:z60=[.int .u64 0,.int .i64 0]:=rfl
 by_cases hl:((x.cl 2).step false t x.s).1.line=99
 ·rw [if_pos hl] at gx
  have E:=I.Lg L (c:=2) (by decide) (by decide) h0 (by rw [nK]; exact hl)
  rw [nK] at E
  have FC:(x.eo t 2).F 2=x2.F 2:=by rw [(uj t x 2).Fc,cH]; show _=aI x.F 2 (x.F 2++[gL t x.s]) 2; rw [dG]
  rw [FC] at E
  obtain ⟨⟨pl,Uo⟩,fp,rp,po,-⟩:=p31
  obtain ⟨G60,e60,x60⟩:=TQ ae po pl
  obtain ⟨z1,sL⟩:∃ z1,z1=((x.cl 2).step false t x.s).1:=⟨_,rfl⟩
  rw [← sL] at hl E e60 gx
  have h60:=h31.df x60
  obtain ⟨G65,nL⟩:∃ G65,G65=(G60.push ⟨z60,1,false,1⟩).put G60.nx ⟨[.int .u64 z1.ik,.int .i64 z1.ij],1,false,1⟩:=⟨_,rfl⟩
  have x65:Ext G60 G65:=by rw [nL]; exact ((Ext.refl _).push _).put (Nat.le_refl _) _
  have o65:G65.obj G60.nx=some ⟨[.int .u64 z1.ik,.int .i64 z1.ij],1,false,1⟩:=by rw [nL]; simp
  have h65:=h60.df x65
  have y65:Ext G31 G65:=x60.trans x65
  have ru:z1.ie=z1.err:=by unfold ai.ie; rw [if_neg (by omega)]
  have hr:(2=0∧z1.ie=0)∨(1≤2∧z1.ie=0∧0≤z1.ij∧z1.ij<x2.na∧w.KS[z1.ij.toNat]? =some z1.ik∧(2<3→z1.ij∉x2.got)∧z1.ij∈x2.F 2)∨(1≤2∧z1.ie=15∧z1.ik=0∧z1.ij=0∧ -1∈x2.F 2):=by
   rcases E with ⟨r1,r2,r3,r4,r5,r6⟩ | ⟨r1,r2⟩
   ·refine .inr (.inl ⟨by decide,by rw [ru]; exact r1,?_⟩)
    have C3:z1.ik=z1.key:=by unfold ai.ik; rw [if_neg (by omega),if_neg (by omega)]
    have gD:z1.ij=z1.job:=by unfold ai.ij; rw [if_neg (by omega),if_neg (by omega)]
    rw [gD,C3]
    refine ⟨r2,by rw [cH]; exact r3,?_,by rw [iE]; exact r5,r6⟩
    have:=(W.ke z1.job.toNat (by have:=I.na; omega)).1
    rw [this,r4,show ((z1.job.toNat:Nat):Int)=z1.job by omega]
   ·refine .inr (.inr ⟨by decide,by rw [ru]; exact r1,?_,?_,r2⟩)
    ·unfold ai.ik; rw [if_neg (by omega),if_pos (by omega)]
    ·unfold ai.ij; rw [if_neg (by omega),if_pos (by omega)]
  obtain ⟨⟨r,G40⟩,e40,q1,et,B4,b1,b2,b3,b4,b5⟩:=Ge (key:=z1.ik) (i:=z1.ij) (e:=z1.ie) ae h65 (by decide) (by rw [mL]; exact hj) yb (by rw [iE]; have:=W.gt; omega) (fun d hd=>by have:=wf d hd; have:=W.fs d hd; omega) hr
  simp only at q1 b4 b5
  subst q1
  rw [mM] at e40 b1
  rw [mN] at b2
  have vT:x.goes t K H 2 w.cs.length=if z1.ie=0∧1≤2∧2<3 then { x2.close 2 with got:=x2.got++[z1.ij] } else x2.close 2:=by
   rw [gx,ru]
   by_cases q:z1.err=0
   ·have gD:z1.ij=z1.job:=by unfold ai.ij; rw [if_neg (by omega),if_neg (by omega)]
    rw [gD]
   ·rw [if_neg (fun k=>q k.1),if_neg (fun k=>q k.1)]
  have gg:∀ y:Cm,y=(if z1.ie=0∧1≤2∧2<3 then { x2.close 2 with got:=x2.got++[z1.ij] } else x2.close 2)→y.got.length≤x.got.length+1∧y.F=x2.F∧y.o=aI x2.o 2 (-1):=fun y hy=>by
   rw [hy]
   split
   ·exact ⟨by show (x2.got++[z1.ij]).length≤_; rw [iE]; simp,rfl,rfl⟩
   ·exact ⟨by show x2.got.length≤_; rw [iE]; omega,rfl,rfl⟩
  obtain ⟨C4,C5,C6⟩:=gg _ vT
  have mB:aE dI own G G65:=mA.trans jR (aE.ext y65)
  have post:nJ t K H x w k 2 own G B (.bool true,G40):=by
   refine ⟨w.gy j z1.ie z1.ij z1.ik,?_,rfl,et,B4,b1,b2,(fun g hg=>(b3 g (by have:=mB.nx; omega)).trans (jR g hg)),mB.trans jR b4,by rw [vT]; exact b5⟩
   refine W.ext rfl rfl ⟨?_,?_⟩ C4 (by rw [C5]; exact wf) (fun d hd q=>.inl ?_)
   ·have:=W.cs; simp [Cx.gy]; omega
   ·simp [Cx.gy]
   ·rw [C6] at q ⊢
    by_cases e:d=2
    ·subst e; rw [dG] at q; omega
    ·rw [cN _ _ e,mL]
  refine Wp.ref (f33 (aq Q ae) _ _ G) ?_
  refine Wp.mono (Q:=fun q=>q=(.bool true,G40)) ?_ (fun q hq=>by subst hq; exact post)
  simp at e40
  simp [aI,lF] at cK
  rw [← sL] at e31
  simp [hl] at e31
  unfold mC at e60
  have w0:IntKind.wrap .i64 0=0:=by decide
  have w1:IntKind.wrap .i64 1=1:=by decide
  rw [mZ] at nL
  simp [-Int.natCast_add,s33,bU,gM,mJ,eI,e16,re,oX,sF,e20,kQ,qZ,ra,iq,← cK,dO,rr,uC,w0,w1,e31,rn,e60,mZ,ch,cg,gA,gW,rE,rF,← nL,o65,e40]
 ·rw [if_neg hl] at gx
  have post:nJ t K H x w k 2 own G B (.bool true,G31):=by
   refine ⟨w,?_,rfl,ah,B2,mM,mN,jR,mA,by rw [gx]; exact h31⟩
   rw [gx]
   exact W.ext rfl rfl ⟨by have:=W.cs; omega,Nat.le_refl _⟩ (by rw [iE]; omega) wf (fun d hd q=>.inl (by rw [mL]))
  refine Wp.ref (f33 (aq Q ae) _ _ G) ?_
  refine Wp.mono (Q:=fun q=>q=(.bool true,G31)) ?_ (fun q hq=>by subst hq; exact post)
  simp [aI,lF] at cK
  simp [hl] at e31
  have w0:IntKind.wrap .i64 0=0:=by decide
  have w1:IntKind.wrap .i64 1=1:=by decide
  simp [-Int.natCast_add,s33,bU,gM,mJ,eI,e16,re,oX,sF,e20,kQ,qZ,ra,iq,← cK,dO,rr,w0,w1,e31]
theorem ad5 (ae:FuncId→Bool) (aZ:ae 107=false) (L:Pl t N) (I:bJ t N K H x g) (W:qg t K H x w k) (hk:k≤900000) (h:bW own G t x w B) (h0:0≤x.o 3) :
  Wp ((E ae).cl 33 [P0 B.xb,.int .i64 3] G) (nJ t K H x w k 3 own G B):=by
 have hc:(3:Nat)<4:=by decide
 have bU:=h.cx.obj
 have gM:=h.co.obj
 have mJ:=h.cf.obj
 have eI:¬ x.o 3<0:=by omega
 have LP:=W.oc 3 hc h0
 obtain ⟨j,hj⟩:∃ j:Nat,x.o 3=j:=⟨(x.o 3).toNat,by omega⟩
 have yb:j<w.cs.length:=by omega
 rw [fB] at bU
 obtain ⟨G16,e16,x16⟩:=F4 ae aZ L.snd I.ok (h.df ((Ext.refl G).room 18))
 have kD:(x.F 3).length≤1000000:=by have:=W.fs 3 hc; omega
 obtain ⟨v',G20,e20,kQ,qZ,ra,yd⟩:=Gv h hc x16 kD (gL t x.s)
 obtain ⟨G23,cK⟩:∃ G23,G23=G20.put B.fb ⟨lF (aI B.F 3 v'),1,false,1⟩:=⟨_,rfl⟩
 obtain ⟨m23,h23⟩:=yd G23 cK
 have sF:bp (some (B.F 3)) (B.F 3)=true:=Ci (h.fs 3 hc).ow
 have y16:Ext G G16:=((Ext.refl G).room 18).trans x16
 have re:=(y16.obj _ h.cf.lt).trans mJ
 have oX:=(y16.obj _ h.cx.lt).trans bU
 have mK:bf own (grown own G (21+3)) G:=dk
 obtain ⟨rh,ye⟩:∃ rh,rh=grown own G (21+3):=⟨_,rfl⟩
 rw [← ye] at h23 mK
 have cU:=h23.df ((Ext.refl G23).room 9)
 have rj:aE dI own G (G23.room 9):=bC.room (aE.mono (us:=dI) m23 (by decide)) 9
 have dO:G23.obj B.xb=some ⟨cq t w B,1,false,1⟩:=h23.cx.obj
 rw [fB] at kQ dO
 obtain ⟨kk,k99,dR⟩:=I.cl 3 (by decide) (by decide) h0
 have nK:lk 3=true:=rfl
 rw [nK] at kk dR
 obtain ⟨rm,sA⟩:=cU.i3 h0
 obtain ⟨ah,G31,e31,w31,p31⟩:=ado ae aZ L.snd L.gm cU.hm I.ok dR (by decide) sA
 have m31:=w31.Un
 obtain ⟨x2,cH⟩:∃ x2:Cm,x2={ x with s:=((x.cl 3).step true t x.s).2,cl:=aI x.cl 3 ((x.cl 3).step true t x.s).1,F:=aI x.F 3 (x.F 3++[gL t x.s]) }:=⟨_,rfl⟩
 obtain ⟨B2,dq⟩:∃ B2:dz,B2={ B with F:=aI B.F 3 v' }:=⟨_,rfl⟩
 rw [← dq] at cU h23 rm e31 p31
 have a31:=w31.bH.dm
 have h31:bW ah G31 t x2 w B2:=by
  rw [cH]
  exact cU.bH (z:=x.ins) (cl':=aI x.cl 3 ((x.cl 3).step true t x.s).1) m31 a31 (by decide) (by rw [dq]; exact w31.pm) (fun q=>⟨(cU.i0 q).1,qd (cU.i0 q).2 m31 (by decide) (by decide) a31⟩) (fun q=>⟨(cU.i1 q).1,by show _; rw [cN _ _ (by decide)]; exact gb (cU.i1 q).2 m31 (by decide) (by decide) a31⟩) (fun q=>⟨(cU.i2 q).1,by show _; rw [cN _ _ (by decide)]; exact gb (cU.i2 q).2 m31 (by decide) (by decide) a31⟩) (fun q=>⟨(cU.i3 q).1,by show mG ah 37 t G31 _ _; rw [dG]; exact p31⟩)
 have jR:bf own ah G:=fun g hg=>(a31 g (by have:=rj.nx; omega)).trans (mK g hg)
 have mA:aE dI own G G31:=rj.trans mK (aE.mono (us:=dI) m31 (by decide))
 have gx:x.goes t K H 3 w.cs.length=if ((x.cl 3).step true t x.s).1.line=99 then (if ((x.cl 3).step true t x.s).1.err=0∧1≤3∧3<3 then { x2.close 3 with got:=x2.got++[((x.cl 3).step true t x.s).1.job] } else x2.close 3) else x2:=by
  unfold Cm.goes
  rw [if_neg eI,if_neg (by decide),cH]
  unfold Cm.eo Cm.close
  rw [nK]
  by_cases q1:((x.cl 3).step true t x.s).1.line=99
  ·by_cases q2:((x.cl 3).step true t x.s).1.err=0
   ·simp [q1,q2]
   ·simp [q1,q2]
  ·simp [q1]
 have wf:∀ d,d<4→(x2.F d).length≤(x.F d).length+1:=fun d hd=>by
  rw [cH]
  show (aI x.F 3 (x.F 3++[gL t x.s]) d).length≤_
  by_cases e:d=3
  ·subst e; rw [dG]; simp
  ·rw [cN _ _ e]; omega
 have mL:x2.o=x.o:=by rw [cH]
 have iE:x2.got=x.got:=by rw [cH]
 have rn:=h31.cx.obj
 have mM:B2.xb=B.xb:=by rw [dq]
 have mN:B2.m=B.m:=by rw [dq]
 have p0:bZ B 3=P0 (B2.v 3):=by
  have:bZ B2 3=P0 (B2.v 3):=by unfold bZ; rw [rm]; rfl
  rw [← this,dq]; rfl
 have e31:(E ae).cl 26 [P0 (B2.v 3),P0 B.m] (G23.room 9)=some (.bool (decide (((x.cl 3).step true t x.s).1.line=99)),G31):=by rw [← mN]; exact e31
 rw [p0] at bU oX kQ dO
 have pB:∀ d,bZ B2 d=bZ B d:=fun d=>by rw [dq]; rfl
 rw [fB,pB,pB,p0,mM] at rn
 have mZ:z60=[.int .u64 0,.int .i64 0]:=rfl
 by_cases hl:((x.cl 3).step true t x.s).1.line=99
 ·rw [if_pos hl] at gx
  have E:=I.Lg L (c:=3) (by decide) (by decide) h0 (by rw [nK]; exact hl)
  rw [nK] at E
  have FC:(x.eo t 3).F 3=x2.F 3:=by rw [(uj t x 3).Fc,cH]; show _=aI x.F 3 (x.F 3++[gL t x.s]) 3; rw [dG]
  rw [FC] at E
  obtain ⟨⟨pl,Uo⟩,po⟩:=p31
  have pok:=(dR.step L.snd L.gm I.ok).1
  obtain ⟨G60,e60,x60⟩:=adq ae pok po pl
  obtain ⟨z1,sL⟩:∃ z1,z1=((x.cl 3).step true t x.s).1:=⟨_,rfl⟩
  rw [← sL] at hl E e60 gx
  have h60:=h31.df x60
  obtain ⟨G65,nL⟩:∃ G65,G65=(G60.push ⟨z60,1,false,1⟩).put G60.nx ⟨[.int .u64 z1.ik,.int .i64 z1.ij],1,false,1⟩:=⟨_,rfl⟩
  have x65:Ext G60 G65:=by rw [nL]; exact ((Ext.refl _).push _).put (Nat.le_refl _) _
  have o65:G65.obj G60.nx=some ⟨[.int .u64 z1.ik,.int .i64 z1.ij],1,false,1⟩:=by rw [nL]; simp
  have h65:=h60.df x65
  have y65:Ext G31 G65:=x60.trans x65
  have ru:z1.ie=z1.err:=by unfold ai.ie; rw [if_neg (by omega)]
  have hr:(3=0∧z1.ie=0)∨(1≤3∧z1.ie=0∧0≤z1.ij∧z1.ij<x2.na∧w.KS[z1.ij.toNat]? =some z1.ik∧(3<3→z1.ij∉x2.got)∧z1.ij∈x2.F 3)∨(1≤3∧z1.ie=15∧z1.ik=0∧z1.ij=0∧ -1∈x2.F 3):=by
   rcases E with ⟨r1,r2,r3,r4,r5,r6⟩ | ⟨r1,r2⟩
   ·refine .inr (.inl ⟨by decide,by rw [ru]; exact r1,?_⟩)
    have C3:z1.ik=z1.key:=by unfold ai.ik; rw [if_neg (by omega),if_neg (by omega)]
    have gD:z1.ij=z1.job:=by unfold ai.ij; rw [if_neg (by omega),if_neg (by omega)]
    rw [gD,C3]
    refine ⟨r2,by rw [cH]; exact r3,?_,by rw [iE]; exact r5,r6⟩
    have:=(W.ke z1.job.toNat (by have:=I.na; omega)).1
    rw [this,r4,show ((z1.job.toNat:Nat):Int)=z1.job by omega]
   ·refine .inr (.inr ⟨by decide,by rw [ru]; exact r1,?_,?_,r2⟩)
    ·unfold ai.ik; rw [if_neg (by omega),if_pos (by omega)]
    ·unfold ai.ij; rw [if_neg (by omega),if_pos (by omega)]
  obtain ⟨⟨r,G40⟩,e40,q1,et,B4,b1,b2,b3,b4,b5⟩:=Ge (key:=z1.ik) (i:=z1.ij) (e:=z1.ie) ae h65 (by decide) (by rw [mL]; exact hj) yb (by rw [iE]; have:=W.gt; omega) (fun d hd=>by have:=wf d hd; have:=W.fs d hd; omega) hr
  simp only at q1 b4 b5
  subst q1
  rw [mM] at e40 b1
  rw [mN] at b2
  have vT:x.goes t K H 3 w.cs.length=if z1.ie=0∧1≤3∧3<3 then { x2.close 3 with got:=x2.got++[z1.ij] } else x2.close 3:=by
   rw [gx,ru]
   by_cases q:z1.err=0
   ·have gD:z1.ij=z1.job:=by unfold ai.ij; rw [if_neg (by omega),if_neg (by omega)]
    rw [gD]
   ·rw [if_neg (fun k=>q k.1),if_neg (fun k=>q k.1)]
  have gg:∀ y:Cm,y=(if z1.ie=0∧1≤3∧3<3 then { x2.close 3 with got:=x2.got++[z1.ij] } else x2.close 3)→y.got.length≤x.got.length+1∧y.F=x2.F∧y.o=aI x2.o 3 (-1):=fun y hy=>by
   rw [hy]
   split
   ·exact ⟨by show (x2.got++[z1.ij]).length≤_; rw [iE]; simp,rfl,rfl⟩
   ·exact ⟨by show x2.got.length≤_; rw [iE]; omega,rfl,rfl⟩
  obtain ⟨C4,C5,C6⟩:=gg _ vT
  have mB:aE dI own G G65:=mA.trans jR (aE.ext y65)
  have post:nJ t K H x w k 3 own G B (.bool true,G40):=by
   refine ⟨w.gy j z1.ie z1.ij z1.ik,?_,rfl,et,B4,b1,b2,(fun g hg=>(b3 g (by have:=mB.nx; omega)).trans (jR g hg)),mB.trans jR b4,by rw [vT]; exact b5⟩
   refine W.ext rfl rfl ⟨?_,?_⟩ C4 (by rw [C5]; exact wf) (fun d hd q=>.inl ?_)
   ·have:=W.cs; simp [Cx.gy]; omega
   ·simp [Cx.gy]
   ·rw [C6] at q ⊢
    by_cases e:d=3
    ·subst e; rw [dG] at q; omega
    ·rw [cN _ _ e,mL]
  refine Wp.ref (f33 (aq Q ae) _ _ G) ?_
  refine Wp.mono (Q:=fun q=>q=(.bool true,G40)) ?_ (fun q hq=>by subst hq; exact post)
  simp at e40
  simp [aI,lF] at cK
  rw [← sL] at e31
  simp [hl] at e31
  unfold mC at e60
  have w0:IntKind.wrap .i64 0=0:=by decide
  have w1:IntKind.wrap .i64 1=1:=by decide
  rw [mZ] at nL
  simp [-Int.natCast_add,s33,bU,gM,mJ,eI,e16,re,oX,sF,e20,kQ,qZ,ra,iq,← cK,dO,w0,w1,e31,rn,e60,mZ,ch,cg,gA,gW,rE,rF,← nL,o65,e40]
 ·rw [if_neg hl] at gx
  have post:nJ t K H x w k 3 own G B (.bool true,G31):=by
   refine ⟨w,?_,rfl,ah,B2,mM,mN,jR,mA,by rw [gx]; exact h31⟩
   rw [gx]
   exact W.ext rfl rfl ⟨by have:=W.cs; omega,Nat.le_refl _⟩ (by rw [iE]; omega) wf (fun d hd q=>.inl (by rw [mL]))
  refine Wp.ref (f33 (aq Q ae) _ _ G) ?_
  refine Wp.mono (Q:=fun q=>q=(.bool true,G31)) ?_ (fun q hq=>by subst hq; exact post)
  simp [aI,lF] at cK
  simp [hl] at e31
  have w0:IntKind.wrap .i64 0=0:=by decide
  have w1:IntKind.wrap .i64 1=1:=by decide
  simp [-Int.natCast_add,s33,bU,gM,mJ,eI,e16,re,oX,sF,e20,kQ,qZ,ra,iq,← cK,dO,w0,w1,e31]
end
structure Ap {α:Type} (e:ct α) (own:Nat→Nat) (t:Nat) (G:GS) (v:Value) (L:List α):Prop where
 sl:bT e G v L
 tag:∀ g,iA v g→own g=t
structure vU (t:TW) (N:Nat) (K H:Int→Int) (k:Nat) (own:Nat→Nat) (G:GS) (x:Cm) (w:Cx) (B:dz) (g:Sh):Prop where
 I:bJ t N K H x g
 W:qg t K H x w k
 h:bW own G t x w B
def PlP (t:TW) (N:Nat) (K H:Int→Int) (k xb:Nat) (G:GS):Prop:=∃ own x w B g,vU t N K H k own G x w B g∧B.xb=xb
def uD (t:TW) (N:Nat) (K H:Int→Int) (k xb c:Nat) (G:GS):Prop:=∃ own x w B g k',k' ≤k∧vU t N K H k' own G x w B g∧B.xb=xb∧∀ d,c≤d→d<4→x.o d<0
section
variable {own own' ah:Nat→Nat} {G G' G1 G16:GS} {b tb m c sb tag tg k xb:Nat} {ts:List Nat} {x y:Cm} {w:Cx} {B B':dz} {v v1:Value} {t:TW} {key hi i e:Int} {s s':MS} {z:aj} {K H:Int→Int} {N:Nat} {g:Sh} {LS:List Int}
theorem Ap.mt {α:Type} {e:ct α} {L:List α} (h:Ap e own tag G v L) (m:aE ts own G G') (ht:tag∉ts) (a:bf own own' G):Ap e own' tag G' v L:=by
 have lt:∀ g,iA v g→g<G.nx:=fun g ⟨a',n,c,he,hb⟩=>by rw [← hb]; exact h.sl.lt _ _ _ he
 exact ⟨h.sl.kept m.nx fun g hg=>m.same (lt g hg) (by rw [h.tag g hg]; exact ht),fun g hg=>(a g (lt g hg)).trans (h.tag g hg)⟩
theorem ad6 (ae:FuncId→Bool) (aZ:ae 107=false) (iv:ae 101=false) (dZ:ae 120=false) (L:Pl t N) (jq:0≤az t 0 0) (hz:t.size≤6) (A:vU t N K H k own G x w B g) (hk:k≤900000) (hc:c<4) :
  Wp ((E ae).cl 33 [P0 B.xb,.int .i64 c] G) (nJ t K H x w k c own G B):=by
 obtain ⟨I,W,h⟩:=A
 by_cases h0:x.o c<0
 ·exact ad1 ae dZ L jq I W hk h hc h0 hz
 ·rcases (show c=0∨c=1∨c=2∨c=3 by omega) with rfl | rfl | rfl | rfl
  ·exact ad2 ae aZ iv L I W hk h (by omega)
  ·exact ad3 ae aZ L I W hk h (by omega)
  ·exact ad4 ae aZ L I W hk h (by omega)
  ·exact ad5 ae aZ L I W hk h (by omega)
theorem Up (ae:FuncId→Bool) (aZ:ae 107=false) (iv:ae 101=false) (dZ:ae 120=false) (L:Pl t N) (jq:0≤az t 0 0) (hz:t.size≤6) (A:vU t N K H k own G x w B g) (hk:k≤900000) (hc:c<4) {g':Sh} (I':bJ t N K H (x.goes t K H c w.cs.length) g') :
  ∃ own' G' w' B',(E ae).cl 33 [P0 B.xb,.int .i64 c] G=some (.bool true,G')∧B'.xb=B.xb∧bf own own' G∧aE dI own G G' ∧vU t N K H (k+1) own' G' (x.goes t K H c w.cs.length) w' B' g':=by
 obtain ⟨⟨r,G'⟩,e1,w',W',e2,own',B',b1,b2,b3,b4,b5⟩:=ad6 ae aZ iv dZ L jq hz A hk hc
 simp only at e2 b4 b5
 subst e2
 exact ⟨own',G',w',B',e1,b1,b3,b4,I',W',b5⟩
theorem ad7 (ae:FuncId→Bool) (aZ:ae 107=false) (iv:ae 101=false) (dZ:ae 120=false) (L:Pl t N) (jq:0≤az t 0 0) (hz:t.size≤6) (Gw:LS.length≤400) :
  ∀ (f i k:Nat) (τ:Env) (own:Nat→Nat) (G:GS) (x:Cm) (w:Cx) (B:dz) (g:Sh),i+f=LS.length→k+f≤1000→vU t N K H k own G x w B g→B.xb=xb→Ap (bh .i64) own 20 G v1 LS→τ 0=P0 xb→τ 1=v1→τ 5= .int .i64 i →
  Wp ((bD Q ae).dj 8 0 τ G) fun q=>q.1= .exit 0∧q.2.1 0=P0 xb∧PlP t N K H (k+f) xb q.2.2:=by
 intro f
 induction f with
 | zero =>
  intro i k τ own G x w B g hi hk A hB hr t0 t1 t5
  have bG:i=LS.length:=by omega
  subst bG
  obtain ⟨a,c,e0⟩:=hr.sl.len
  refine Wp.lp (Rb (aq Q ae)) ?_
  simp [JC,aw,t0,t1,t5,e0]
  exact ⟨own,x,w,B,g,A,hB⟩
 | succ f ih =>
  intro i k τ own G x w B g hi hk A hB hr t0 t1 t5
  have aT:i<LS.length:=by omega
  have tZ:(0:Int)≤i:=by omega
  have zM:(i:Int)<LS.length:=by omega
  obtain ⟨b,o,c',e0,TT,q0,q1⟩:=hr.sl.at aT
  have c0:=q0 0 (by decide)
  simp [bh] at c0
  generalize LS[i]=n at c0
  have p0:=Int.emod_nonneg n (show (4:Int)≠0 by decide)
  have p1:=Int.emod_lt_of_pos n (show (0:Int)<4 by decide)
  obtain ⟨c,hc⟩:∃ c:Nat,n % 4=c:=⟨(n % 4).toNat,by omega⟩
  have e4:(E ae).cl 7 [.int .i64 n,.int .i64 4] G=some (.int .i64 c,G):=by rw [← hc]; exact Cl ae _ 4 (by decide) (by decide) G
  obtain ⟨g',I'⟩:=A.I.go L (c:=c) (by omega) w.cs.length (by omega)
  obtain ⟨own',G',w',B',e5,b1,b3,b4,A'⟩:=Up ae aZ iv dZ L jq hz A (by omega) (by omega) I'
  rw [hB] at e5
  have Bd:=hr.mt b4 (by decide) b3
  have pL:IntKind.wrap .i64 ((i:Int)+1)=((i+1:Nat):Int):=wrap64 (by omega) (by omega)
  refine Wp.lp (Rb (aq Q ae)) ?_
  simp [-Int.natCast_add,JC,aw,t0,t1,t5,e0,aT,tZ,zM,c0,e4,e5,pL]
  rw [show k+(f+1)=k+1+f by omega]
  refine ih (i+1) (k+1) _ own' G' _ w' B' g' (by omega) (by omega) A' (b1.trans hB) Bd ?_ ?_ ?_
  ·simp [aw]
  ·simp [aw,e0]
  ·simp [aw]
theorem ad8 (ae:FuncId→Bool) (aZ:ae 107=false) (iv:ae 101=false) (dZ:ae 120=false) (L:Pl t N) (jq:0≤az t 0 0) (hz:t.size≤6) (hc:c<4) :
  ∀ (f n k:Nat) (τ:Env) (own:Nat→Nat) (G:GS) (x:Cm) (w:Cx) (B:dz) (g:Sh),(n:Int)+f=6*dN t+40→k+f≤800000→vU t N K H k own G x w B g→B.xb=xb→(x.o c<0∨kJ t x g c f)→(∀ d,c<d→d<4→x.o d<0)→τ 0=P0 xb→τ 6= .int .i64 c→τ 7= .int .i64 n →
  Wp ((bD Q ae).dj 8 2 τ G) fun q=>q.1= .exit 4∧q.2.1 0=P0 xb∧q.2.1 6= .int .i64 c∧uD t N K H (k+f) xb c q.2.2:=by
 have P:=bJ.PM L
 have hPM:dN t≤52:=by
  have h1:=L.snd.2.1
  have h2:=L.snd.2.2.1
  have:=Int.mul_le_mul_of_nonneg_right h1 (show 0≤2*t.size+1 by omega)
  unfold dN; omega
 intro f
 induction f with
 | zero =>
  intro n k τ own G x w B g hn hk A hB hb jW t0 t6 t7
  have bU:=A.h.cx.obj
  have gM:=A.h.co.obj
  rw [fB,hB] at bU
  have h0:x.o c<0:=by
   rcases hb with h | h
   ·exact h
   ·refine Classical.byContradiction fun q=>?_
    by_cases e:c=0
    ·subst e; have:=A.I.acx L (by omega) h; omega
    ·have:=A.I.acy L (by omega) (by omega) (by omega) h; omega
  have C7:∀ d,c≤d→d<4→x.o d<0:=fun d h1 h2=>by
   by_cases e:d=c
   ·rw [e]; exact h0
   ·exact jW d (by omega) h2
  have sB:¬ 0≤x.o c:=by omega
  refine Wp.lp (JE (aq Q ae)) ?_
  have fin:uD t N K H (k+0) xb c G:=⟨own,x,w,B,g,k,Nat.le_refl _,A,hB,C7⟩
  refine Wp.mono (Q:=fun q=>q.1= .exit 4∧q.2.1 0=P0 xb∧q.2.1 6= .int .i64 c∧q.2.2=G) ?_ (fun q ⟨q1,q2,q3,q4⟩=>⟨q1,q2,q3,by rw [q4]; exact fin⟩)
  rcases (show c=0∨c=1∨c=2∨c=3 by omega) with rfl | rfl | rfl | rfl
  all_goals
   simp [EJ,aw,t0,t6,t7,bU,gM,sB]
 | succ f ih =>
  intro n k τ own G x w B g hn hk A hB hb jW t0 t6 t7
  have bU:=A.h.cx.obj
  have gM:=A.h.co.obj
  rw [fB,hB] at bU
  by_cases h0:x.o c<0
  ·have C7:∀ d,c≤d→d<4→x.o d<0:=fun d h1 h2=>by
    by_cases e:d=c
    ·rw [e]; exact h0
    ·exact jW d (by omega) h2
   have sB:¬ 0≤x.o c:=by omega
   refine Wp.lp (JE (aq Q ae)) ?_
   have fin:uD t N K H (k+(f+1)) xb c G:=⟨own,x,w,B,g,k,by omega,A,hB,C7⟩
   refine Wp.mono (Q:=fun q=>q.1= .exit 4∧q.2.1 0=P0 xb∧q.2.1 6= .int .i64 c∧q.2.2=G) ?_ (fun q ⟨q1,q2,q3,q4⟩=>⟨q1,q2,q3,by rw [q4]; exact fin⟩)
   rcases (show c=0∨c=1∨c=2∨c=3 by omega) with rfl | rfl | rfl | rfl
   all_goals
    simp [EJ,aw,t0,t6,t7,bU,gM,sB]
  ·have fG:=hb.resolve_left h0
   have sB:0≤x.o c:=by omega
   have go:x.goes t K H c w.cs.length=if c=0 then x.iD t else x.eo t c:=by unfold Cm.goes; rw [if_neg h0]
   obtain ⟨g',I',fT⟩:∃ g',bJ t N K H (x.goes t K H c w.cs.length) g' ∧((x.goes t K H c w.cs.length).o c<0∨kJ t (x.goes t K H c w.cs.length) g' c f):=by
    rw [go]
    have hf:(((f+1:Nat):Int)) - 1=f:=by omega
    by_cases e:c=0
    ·subst e
     rw [if_pos rfl]
     obtain ⟨g',a,b⟩:=A.I.acz L sB fG
     rw [hf] at b
     exact ⟨g',a,b⟩
    ·rw [if_neg e]
     obtain ⟨g',a,b⟩:=A.I.acA L (by omega) (by omega) sB fG
     rw [hf] at b
     exact ⟨g',a,b⟩
   have ad9:∀ d,c<d→d<4→(x.goes t K H c w.cs.length).o d<0:=fun d h1 h2=>by
    have:=jW d h1 h2
    rw [go]
    by_cases e:c=0
    ·subst e
     rw [if_pos rfl]
     have:(x.iD t).o d=x.o d:=by
      show (if _ then _ else _:Nat→Int) d=_
      split
      ·exact cN _ _ (by omega)
      ·rfl
     omega
    ·rw [if_neg e]
     have:=(uj t x c).oo d (by omega)
     omega
   obtain ⟨Gb,eb,LQ⟩:=adw ae L.snd A.h A.W.kl
   obtain ⟨own',G',w',B',e5,b1,b3,b4,A'⟩:=Up ae aZ iv dZ L jq hz (A:=⟨A.I,A.W,A.h.df LQ⟩) (by omega) hc I'
   rw [hB] at eb e5
   have aT:¬ (6*dN t+40:Int)≤n:=by omega
   have pL:IntKind.wrap .i64 ((n:Int)+1)=((n+1:Nat):Int):=wrap64 (by omega) (by omega)
   have post:∀ q:Exit×Env×GS,(q.1= .exit 4∧q.2.1 0=P0 xb∧q.2.1 6= .int .i64 c∧uD t N K H (k+1+f) xb c q.2.2)→(q.1= .exit 4∧q.2.1 0=P0 xb∧q.2.1 6= .int .i64 c∧uD t N K H (k+(f+1)) xb c q.2.2):=fun q h=>by
    rw [show k+(f+1)=k+1+f by omega]; exact h
   refine Wp.mono ?_ post
   have go:=fun τ a b c'=>ih (n+1) (k+1) τ own' G' _ w' B' g' (by omega) (by omega) A' (b1.trans hB) fT ad9 a b c'
   refine Wp.lp (JE (aq Q ae)) ?_
   rcases (show c=0∨c=1∨c=2∨c=3 by omega) with rfl | rfl | rfl | rfl
   all_goals
    simp at e5
    simp [-Int.natCast_add,EJ,aw,t0,t6,t7,bU,gM,sB,eb,aT,e5,pL]
    refine go _ ?_ ?_ ?_<;>simp [aw]
theorem aea (ae:FuncId→Bool) (aZ:ae 107=false) (iv:ae 101=false) (dZ:ae 120=false) (L:Pl t N) (jq:0≤az t 0 0) (hz:t.size≤6) :
  ∀ (c k:Nat) (τ:Env) (G:GS),c≤4→k≤1000+400*(4 - c)→uD t N K H k xb c G→τ 0=P0 xb→τ 6= .int .i64 ((c:Int) - 1) →
  Wp ((bD Q ae).dj 8 1 τ G) fun q=>q.1= .exit 2∧∃ k,uD t N K H k xb 0 q.2.2:=by
 have P:=bJ.PM L
 have hPM:dN t≤52:=by
  have h1:=L.snd.2.1
  have h2:=L.snd.2.2.1
  have:=Int.mul_le_mul_of_nonneg_right h1 (show 0≤2*t.size+1 by omega)
  unfold dN; omega
 intro c
 induction c with
 | zero =>
  intro k τ G hc hk hP t0 t6
  refine Wp.lp (Rc (aq Q ae)) ?_
  simp at t6
  simp [JD,aw,t6]
  exact ⟨k,hP⟩
 | succ c ih =>
  intro k τ G hc hk hP t0 t6
  have e6:((c+1:Nat):Int) - 1=c:=by omega
  rw [e6] at t6
  have c0:(0:Int)≤c:=by omega
  obtain ⟨own,x,w,B,g,k',iI,A,hB,jW⟩:=hP
  have hb:x.o c<0∨kJ t x g c (6*dN t+40):=by
   by_cases h0:x.o c<0
   ·exact .inl h0
   ·refine .inr ?_
    by_cases e:c=0
    ·subst e; exact A.I.anyI L (by omega)
    ·exact A.I.acw L (by omega) (by omega) (by omega)
  obtain ⟨f,hf⟩:∃ f:Nat,6*dN t+40=f:=⟨(6*dN t+40).toNat,by omega⟩
  rw [hf] at hb
  have hw0:IntKind.wrap .i64 0=0:=by decide
  have pL:IntKind.wrap .i64 ((c:Int) - 1)=(c:Int) - 1:=wrap64 (by omega) (by omega)
  refine Wp.lp (Rc (aq Q ae)) ?_
  simp [-Int.natCast_add,JD,aw,t6,c0]
  refine Wp.bE ((ad8 (xb:=xb) ae aZ iv dZ L jq hz (c:=c) (by omega) f 0 k' _ own G x w B g (by omega) (by omega) A hB hb (fun d h1 h2=>jW d (by omega) h2) ?_ ?_ ?_).mono ?_)
  ·simp [aw,t0]
  ·simp [aw,t6]
  ·simp [aw]
  rintro ⟨e,τ',G'⟩ ⟨h1,h2,h3,own',x',w',B',g',k2,AZ,A',hB',C7⟩
  simp only at h1 h2 h3 A'
  subst h1
  simp [-Int.natCast_add,h3,pL]
  refine ih k2 _ G' (by omega) (by omega) ⟨own',x',w',B',g',k2,Nat.le_refl _,A',hB',C7⟩ ?_ ?_<;>simp [aw,h2]
theorem aeb (ae:FuncId→Bool) (aZ:ae 107=false) (iv:ae 101=false) (dZ:ae 120=false) (L:Pl t N) (jq:0≤az t 0 0) (hz:t.size≤6) (Gw:LS.length≤400) (A:vU t N K H 0 own G x w B g) (hr:Ap (bh .i64) own 20 G v1 LS) :
  Wp ((E ae).cl 8 [P0 B.xb,v1] G) fun q=>q.1= .bool true∧∃ k,uD t N K H k B.xb 0 q.2:=by
 refine Wp.ref (f8 (aq Q ae) _ _ G) ?_
 simp [s8]
 refine Wp.bE ((ad7 (xb:=B.xb) ae aZ iv dZ L jq hz Gw LS.length 0 0 _ own G x w B g (by omega) (by omega) A rfl hr ?_ ?_ ?_).mono ?_)
 ·simp
 ·simp
 ·simp
 rintro ⟨e,τ,G1⟩ ⟨h1,h2,ah,x1,w1,B1,g1,A1,vV⟩
 simp only at h1 h2 A1
 subst h1
 simp
 refine Wp.bE ((aea (xb:=B.xb) ae aZ iv dZ L jq hz 4 (0+LS.length) _ G1 (by omega) (by omega) ⟨ah,x1,w1,B1,g1,_,Nat.le_refl _,A1,vV,fun d h1 h2=>by omega⟩ ?_ ?_).mono ?_)
 ·simp [h2]
 ·simp
 rintro ⟨e,τ2,G2⟩ ⟨h3,k,h4⟩
 simp only at h3 h4
 subst h3
 simp
 exact ⟨k,h4⟩
end
def sM (key job hi:Int) (k:Nat):Int:=match k with | 0=>key | 1=>job | 2=>hi | _=>2
theorem aec (ae:FuncId→Bool) (aZ:ae 107=false) (dZ:ae 120=false) {t:TW} (hs:t.sound) {i g key job hi:Int} (h0:0≤i∧i<t.size) (h1:0≤g∧g<4294967296) (h2:0≤job∧job≤65534) (h3:1≤hi∧hi≤t.ay) (G:GS) :
  ∃ b G' xb ib n,(E ae).cl 30 [t.v,.int .u64 (bN i g),.int .u64 key,.int .i64 job,.int .i64 hi] G=some (P0 b,G')∧Ext G G' ∧(G.nx≤b∧G.nx≤xb∧G.nx≤ib∧G.nx≤n)∧sG t G' b i (bN i g) (sM key job hi) 0 xb ib n:=by
 have Gx:t.ay≤4:=hs.2.1
 obtain ⟨G1,ak⟩:∃ G1,G1=G.push ⟨t.cells,1,false,1⟩:=⟨_,rfl⟩
 have x1:Ext G G1:=by rw [ak]; exact (Ext.refl G).push _
 have n1:G1.nx=G.nx+1:=by rw [ak]; rfl
 have o1:G1.obj G.nx=some ⟨t.cells,1,false,1⟩:=by rw [ak]; simp
 obtain ⟨G4,e4,x4⟩:=acI ae dZ hs h0 h1 h2 h3 G1
 have o4:=(x4.obj G.nx (by omega)).trans o1
 obtain ⟨G7,lM⟩:∃ G7,G7=G4.push ⟨[.bool true,.int .u64 (bN i g),.nilFunc,.nilFunc,.nilFunc,.nilFunc,.int .i64 0,.int .i64 0],1,false,1⟩:=⟨_,rfl⟩
 have n4:=x4.nx
 have x7:Ext G4 G7:=by rw [lM]; exact (Ext.refl G4).push _
 have n7:G7.nx=G4.nx+1:=by rw [lM]; rfl
 have p7:G7.obj G4.nx=some ⟨[.bool true,.int .u64 (bN i g),.nilFunc,.nilFunc,.nilFunc,.nilFunc,.int .i64 0,.int .i64 0],1,false,1⟩:=by rw [lM]; simp
 have o7:=(x7.obj G.nx (by omega)).trans o4
 obtain ⟨G17,e17,x17⟩:=acL ae aZ hs h0 h1 G7
 have n17:=x17.nx
 have ld:nD 13 0 (some ⟨t.cells,1,false,1⟩)=some t.v:=Cg rfl (by decide)
 have w:Wp (s30 true (bD Q ae) t.v (.int .u64 (bN i g)) (.int .u64 key) (.int .i64 job) (.int .i64 hi) G) fun r=>∃ b xb ib n,r.1=P0 b∧Ext G r.2∧(G.nx≤b∧G.nx≤xb∧G.nx≤ib∧G.nx≤n)∧sG t r.2 b i (bN i g) (sM key job hi) 0 xb ib n:=by
  have c1:IntKind.wrap .u64 job=job:=by rw [wrap_u64]; omega
  have c2:IntKind.wrap .u64 hi=hi:=by rw [wrap_u64]; omega
  have p17:=(x17.obj G4.nx (by omega)).trans p7
  have q17:=(x17.obj G.nx (by omega)).trans o7
  have hz:∀ k,¬ G4.nx=G17.nx+k:=fun k=>by omega
  have mZ:¬ G4.nx=G17.nx:=by omega
  have hy:∀ k,¬ G.nx=G17.nx+k:=fun k=>by omega
  have hy0:¬ G.nx=G17.nx:=by omega
  have Ln:¬ G.nx=G4.nx:=by omega
  have hq:∀ k,¬ G17.nx+k=G4.nx:=fun k=>by omega
  have Ao:¬ G17.nx=G4.nx:=by omega
  simp [-xg,s30,← ak,o1,ld,e4,← lM,p7,o7,e17,acK,c1,c2,Nat.add_assoc,hz,mZ,p17,ch,cg,gA]
  have xs:=((x1.trans x4).trans x7).trans x17
  refine ⟨?_,G.nx,G17.nx,G17.nx+1,by omega,⟨?_,?_,?_,fun k hk=>?_,?_⟩⟩
  ·repeat first | exact xs | refine Ext.push ?_ _ | refine Ext.put ?_ (by omega) _
  ·simp [mD,qY,Nat.add_assoc]
  ·simp [hy,hy0,Ln,Nat.add_assoc,q17]
  ·simp [Ao,Nat.add_assoc]
  ·rcases (show k=0∨k=1∨k=2∨k=3 by omega) with rfl | rfl | rfl | rfl<;>simp [hq,Ao,Nat.add_assoc,sM]
  ·simp; omega
 obtain ⟨⟨v,G'⟩,e1,b,xb,ib,n,rfl,q1,q2,q3⟩:=w
 exact ⟨b,G',xb,ib,n,f30 (aq Q ae) _ _ _ _ _ G _ e1,q1,q2,q3⟩
theorem Uq (P:Program) (t n:Nat) (l:List Value) (k:IntKind) (j:Int):ix P true t n (.agg ⟨l⟩) (.int k j)=if 0≤j∧j<n then l[j.toNat]? else none:=by
 show eW j n _=_
 rw [xh]; simp only [AF]
def LR (xb ib n:Nat):List Value:=[qY xb ib n 0,qY xb ib n 1,qY xb ib n 2,qY xb ib n 3]
theorem Ur (xb ib n:Nat) {k:Nat} (h:k<4):(LR xb ib n)[k]? =some (qY xb ib n k):=by
 rcases (show k=0∨k=1∨k=2∨k=3 by omega) with rfl | rfl | rfl | rfl<;>rfl
section
variable {own:Nat→Nat} {G:GS} {m b xb ib n tag:Nat} {s:MS} {t:TW} {i ref:Int} {ws:Nat→Int}
theorem aed (ae:FuncId→Bool) {d:Nat} (hd:d<4) (h:PM own G m s) (hL:sG t G b i ref ws d xb ib n):∀ j k:Nat,k+j=d→∀ τ:Env,τ 0=P0 b→τ 1=P0 m→τ 12= .agg ⟨LR xb ib n⟩→τ 13= .int .i64 k →
  Wp ((bD Q ae).dj 31 0 τ G) fun r=>r.1= .exit 0∧r.2.1 0=P0 b∧∃ ah,PW no own G ah r.2.2 m (s.store (az t i d) (ws d)):=by
 obtain ⟨l1,l2,l3,l4⟩:=hL.lt
 obtain ⟨ah,G1,e1,w1⟩:=acJ ae h hL.ox hL.oi (hL.op d hd).1 (hL.op d hd).2 (by omega)
 have pq:=hL.ob
 intro j
 induction j with
 | zero =>
  intro k hk τ t0 t1 t12 t13
  have hk:k=d:=by omega
  subst hk
  have g:=Ur xb ib n (k:=k) (by omega)
  have c1:((k:Int)<4):=by omega
  have c2:(0≤(k:Int)∧(k:Int)<((4:Nat):Int)):=by omega
  refine Wp.lp (Q8 (aq Q ae)) ?_
  change fJ (E ae) (qY xb ib n k) [P0 m] G=_ at e1
  simp [-xg,Jy,aw,t0,t1,t12,t13,Uq,c1,c2,pq,mD,g,e1]
  exact ⟨_,w1⟩
 | succ j ih =>
  intro k hk τ t0 t1 t12 t13
  have c0:¬ ((k:Int)=d):=by omega
  have c1:((k:Int)<4):=by omega
  have c2:(0≤(k:Int)∧(k:Int)<((4:Nat):Int)):=by omega
  have g:=Ur xb ib n (k:=k) (by omega)
  have c3:IntKind.wrap .i64 ((k:Int)+1)=(k:Int)+1:=wrap64 (by omega) (by omega)
  refine Wp.lp (Q8 (aq Q ae)) ?_
  simp [-xg,Jy,aw,t0,t1,t12,t13,Uq,c0,c1,c2,c3,pq,mD,g]
  refine ih (k+1) (by omega) _ ?_ ?_ ?_ ?_<;>simp [aw,t0,t1,t12,t13]
end
structure rv where
 i:Int
 ref:Int
 key:Int
 job:Int
 hi:Int
 d:Nat
def rv.step (t:TW) (x:rv) (s:MS):rv×MS:=if x.d<4 then ({ x with d:=x.d+1 },s.store (az t x.i x.d) (sM x.key x.job x.hi x.d)) else (x,s)
def yf (own:Nat→Nat) (tag:Nat) (t:TW) (G:GS) (b:Nat) (x:rv):Prop :=
 x.d≤4∧∃ xb ib n,sG t G b x.i x.ref (sM x.key x.job x.hi) x.d xb ib n∧own b=tag∧own xb=tag∧own ib=tag∧∀ j,j<8→own (n+j)=tag
section
variable {own own' ah:Nat→Nat} {G G' G1:GS} {m b xb ib n tag:Nat} {s:MS} {t:TW} {i ref d:Int} {ws:Nat→Int} {x:rv}
theorem sG.to (h:sG t G b i ref ws d xb ib n) (hn:G.nx≤G'.nx) (k1:G'.obj b=G.obj b) (k2:G'.obj xb=G.obj xb) (k3:G'.obj ib=G.obj ib) (k4:∀ j,j<8→G'.obj (n+j)=G.obj (n+j)):sG t G' b i ref ws d xb ib n :=
 ⟨k1.trans h.ob,k2.trans h.ox,k3.trans h.oi,fun k hk=>⟨(k4 (2*k) (by omega)).trans (h.op k hk).1,(k4 (2*k+1) (by omega)).trans (h.op k hk).2⟩,by have:=h.lt; omega⟩
theorem LU (ae:FuncId→Bool) (ho:G.obj b=some (mD ref xb ib n d)):(E ae).cl 69 [P0 b] G=some (.bool (decide (d=4)),G):=by
 refine f69 (aq Q ae) _ G _ ?_
 simp [s69,ho,mD]
theorem sG.put (h:sG t G b i ref ws d xb ib n) (d':Int):sG t (G.put b (mD ref xb ib n d')) b i ref ws d' xb ib n:=by
 have hb:=h.ob
 have n1:xb≠b:=fun e=>by have:=h.ox; rw [e,hb] at this; simp [mD,TW.cells] at this
 have n2:ib≠b:=fun e=>by have:=h.oi; rw [e,hb] at this; simp [mD] at this
 have n3:∀ k,k<4→n+2*k≠b:=fun k hk e=>by have:=(h.op k hk).1; rw [e,hb] at this; simp [mD] at this
 have n4:∀ k,k<4→n+2*k+1≠b:=fun k hk e=>by have:=(h.op k hk).2; rw [e,hb] at this; simp [mD] at this
 exact ⟨by simp,by rw [cM,if_neg n1]; exact h.ox,by rw [cM,if_neg n2]; exact h.oi,fun k hk=>⟨by rw [cM,if_neg (n3 k hk)]; exact (h.op k hk).1,by rw [cM,if_neg (n4 k hk)]; exact (h.op k hk).2⟩,h.lt⟩
theorem aee (ae:FuncId→Bool) (hd:x.d<4) (h:PM own G m s) (ht:tag≠10) (hx:yf own tag t G b x) :
  ∃ ah G1,(E ae).cl 31 [P0 b,P0 m] G=some (.bool (decide (x.d=3)),G1)∧PW (Own own tag) own G ah G1 m (x.step t s).2∧yf ah tag t G1 b (x.step t s).1:=by
 obtain ⟨h0,xb,ib,n,h1,t1,t2,t3,t4⟩:=hx
 obtain ⟨l1,l2,l3,l4⟩:=h1.lt
 have au:x.step t s=({ x with d:=x.d+1 },s.store (az t x.i x.d) (sM x.key x.job x.hi x.d)):=by unfold rv.step; rw [if_pos hd]
 rw [au]
 simp only
 have e0:=LU ae h1.ob
 have d0:¬ ((x.d:Int)=4):=by omega
 rw [decide_eq_false d0] at e0
 have ho:=h1.ob
 have w:Wp (s31 true (bD Q ae) (P0 b) (P0 m) G) fun r=>r.1= .bool (decide (x.d=3))∧∃ ah,PW (Own own tag) own G ah r.2 m (s.store (az t x.i x.d) (sM x.key x.job x.hi x.d))∧yf ah tag t r.2 b { x with d:=x.d+1 }:=by
  have ld:fO 4 b 2 G=some (.agg ⟨LR xb ib n⟩):=by
   rw [pF (o:=2) (n:=3) ho (by decide) (by simp)]; rfl
  simp [-mw,s31,e0,ld]
  refine Wp.bE ((aed ae hd h h1 x.d 0 (by omega) _ ?_ ?_ ?_ ?_).mono ?_)
  ·simp
  ·simp
  ·simp
  ·simp
  ·rintro ⟨e,τ,G1⟩ ⟨rfl,t0,ah,w1⟩
   simp only at t0 w1 ⊢
   have kp:∀ g,g<G.nx→own g=tag→G1.obj g=G.obj g:=fun g hg hu=>w1.keep hg (by rw [hu]; exact ht) id
   have Us:=(kp b l1 t1).trans ho
   have c1:IntKind.wrap .i64 ((x.d:Int)+1)=(x.d:Int)+1:=wrap64 (by omega) (by omega)
   have e9:=LU (G:=G1.put b (mD x.ref xb ib n ((x.d:Int)+1))) (b:=b) (ref:=x.ref) (xb:=xb) (ib:=ib) (n:=n) (d:=(x.d:Int)+1) ae (by simp)
   have c2:decide ((x.d:Int)+1=4)=decide (x.d=3):=by
    by_cases hh:x.d=3
    ·simp [hh]
    ·have:¬ ((x.d:Int)+1=4):=by omega
     simp [hh,this]
   rw [c2] at e9
   have R1:=h1.to w1.nx (kp b l1 t1) (kp xb l2 t2) (kp ib l3 t3) fun j hj=>kp _ (by omega) (t4 j hj)
   have R2:=R1.put ((x.d:Int)+1)
   unfold mD at Us e9
   simp [t0,Us,c1,e9]
   have a:=w1.bH.dm
   exact ⟨ah,w1.any.aW ((a _ l1).trans t1) ht _,by simp; omega,xb,ib,n,by simpa [mD] using R2,(a _ l1).trans t1,(a _ l2).trans t2,(a _ l3).trans t3,fun j hj=>(a _ (by omega)).trans (t4 j hj)⟩
 obtain ⟨⟨v,G'⟩,e1,rfl,ah,w1,w2⟩:=w
 exact ⟨ah,G',f31 (aq Q ae) _ _ G _ e1,w1,w2⟩
end
section
variable {G B:GS} {A:List Int} {v0:Value}
end
abbrev Sk.v (R:Sk):Value:=.agg ⟨[.int .i64 R.top,.int .i64 R.links,.int .i64 R.size]⟩
def Sk.sized (R:Sk):Prop:=1≤R.size∧R.size≤4096
instance (R:Sk):Decidable R.sized:=by unfold Sk.sized; exact inferInstance
def Sk.Ut (R:Sk) (c:Int):Prop:=R.sized∧0≤R.top∧R.top<c∧0≤R.links∧R.links≤c - R.size∧¬ (R.links≤R.top∧R.top<R.links+R.size)
instance (R:Sk) (c:Int):Decidable (R.Ut c):=by unfold Sk.Ut; exact inferInstance
section
variable {G B:GS} {A:Ar} {R:Sk} {c:Int}
theorem aef (ae:FuncId→Bool) (R:Sk) (G:GS):(E ae).cl 139 [R.v] G=some (.bool (decide R.sized),G.push ⟨[.int .i64 R.top,.int .i64 R.links,.int .i64 R.size],1,false,1⟩):=by
 refine f139 (aq Q ae) _ G _ ?_
 unfold Sk.sized
 by_cases h1:1≤R.size
 ·by_cases h2:R.size≤4096<;>simp [s139,h1,h2]
 ·simp [s139,h1]
def Uu (L:List Int) (n:Int) (i:Nat):Prop:=0≤(L[i]?).getD 0∧(L[i]?).getD 0<n∧(L[i]?).getD 0∉L.take i
instance (L:List Int) (n:Int) (i:Nat):Decidable (Uu L n i):=by unfold Uu; exact inferInstance
def Ar.lim (A:Ar):Prop:=1≤A.limit∧A.limit≤4294967295
instance (A:Ar):Decidable A.lim:=by unfold Ar.lim; exact inferInstance
end
def ry (R:Sk) (i:Nat):Int:=if (i:Int)+1=R.size then 0 else i+2
def rA (R:Sk):Nat→Nat→MS→MS
 | 0,_,s=>s
 | k+1,i,s=>rA R k (i+1) (s.store (R.links+i) (ry R i))
def pC (R:Sk) (s:MS):MS:=rA R R.size.toNat 0 (s.store R.top 1)
def sN (A:Ar):Nat→Nat→MS→MS
 | 0,_,s=>s
 | k+1,i,s=>sN A k (i+1) (s.store (A.lH+i) 1)
def C8 (A:Ar) (s:MS):MS:=sN A A.size.toNat 0 ((Lift.pC A.R s).store A.Cs 0)
theorem Uv (R:Sk) (hR:R.ok):∀ (k i:Nat) (s:MS),(i+k:Nat)≤R.size→s.ok→(rA R k i s).ok
 | 0,_,s,_,h=>h
 | k+1,i,s,hi,h=>Uv R hR k (i+1) _ (by omega) (h.store _ (by have:=hR.2.1; unfold ry U; split<;>omega))
theorem Uw (A:Ar):∀ (k i:Nat) (s:MS),s.ok→(sN A k i s).ok
 | 0,_,s,h=>h
 | k+1,i,s,h=>Uw A k (i+1) _ (h.store _ ⟨by decide,by decide⟩)
theorem aeg {A:Ar} (hA:A.ok) {s:MS} (h:s.ok):(C8 A s).ok:=by
 have h1:=hA.1.1
 simp only at h1
 exact Uw A _ _ _ ((Uv A.R hA.1 _ _ _ (by simp only; omega) (h.store _ ⟨by decide,by decide⟩)).store _ ⟨by decide,by decide⟩)
section
variable {m r rb:Nat} {own own0:Nat→Nat} {G G0:GS} {s:MS} {R:Sk} {A:Ar}
theorem aeh (ae:FuncId→Bool) (ht:ae 107=false) (hR:R.ok) (ni:rb<G0.nx) (uE:own0 rb≠10) (uF:G0.obj rb=some ⟨[.int .i64 R.top,.int .i64 R.links,.int .i64 R.size],1,false,1⟩) {n:Nat} (hn:R.size=n) :
  ∀ (k i:Nat) (τ:Env) (own:Nat→Nat) (G:GS) (s:MS),i+k=n→PW no own0 G0 own G m s→τ 1=P0 m→τ 2=P0 rb→τ 15= .int .i64 n→τ 16= .int .i64 i →
  Wp ((bD Q ae).dj 117 0 τ G) fun q=>q.1= .exit 0∧∃ own',PW no own0 G0 own' q.2.2 m (rA R k i s):=by
 intro k
 induction k with
 | zero =>
  intro i τ own G s hi w t1 t2 t15 t16
  have bG:i=n:=by omega
  subst bG
  refine Wp.lp (RA (aq Q ae)) ?_
  simp [xw,zG,aw,t1,t2,t15,t16,rA]
  exact ⟨own,w⟩
 | succ k ih =>
  intro i τ own G s hi w t1 t2 t15 t16
  have yM:=hR.1; have hR2:=hR.2.1; have hR5:=hR.2.2.2.2.1; have hR6:=hR.2.2.2.2.2
  have o:=(w.keep ni uE id).trans uF
  have aT:i<n:=by omega
  have hw:IntKind.wrap .i64 ((i:Int)+1)=((i+1:Nat):Int):=wrap64 (by omega) (by omega)
  have ha:IntKind.wrap .i64 (R.links+i)=R.links+i:=wrap64 (by omega) (by omega)
  refine Wp.lp (RA (aq Q ae)) ?_
  have w0:=w.ext ((Ext.refl G).room 8)
  have o0:(G.room 8).obj rb=some ⟨[.int .i64 R.top,.int .i64 R.links,.int .i64 R.size],1,false,1⟩:=o
  by_cases hl:(i:Int)+1=R.size
  ·have eg:((i+1:Nat):Int)=R.size:=by omega
   have hv:ry R i=0:=by unfold ry; rw [if_pos hl]
   obtain ⟨G1,e1,x1⟩:=E7 ae ht (i:=-1) (by decide) (G.room 8)
   have w1:=w0.ext x1
   have o1:=(x1.obj rb (Nat.lt_of_lt_of_le ni w0.nx)).trans o0
   obtain ⟨aX,G2,e2,w2⟩:=w1.pm.store ae (R.links+i) 0
   simp [-Int.natCast_add,xw,zG,oH,Cd,aw,t1,t2,t15,t16,aT,hw,o,eg,ha,e1,o1,e2]
   refine (ih (i+1) _ _ G2 _ (by omega) (w1.trans w2 fun _ _ h=>h) (by simp [aw]) (by simp [aw]) (by simp [aw]) (by simp [aw]; omega)).mono ?_
   rintro q ⟨q1,own',q2⟩
   exact ⟨q1,own',by simpa [rA,hv] using q2⟩
  ·have eg:¬ ((i+1:Nat):Int)=R.size:=by omega
   have hv:ry R i=i+2:=by unfold ry; rw [if_neg hl]
   obtain ⟨G1,e1,x1⟩:=E7 ae ht (i:=((i+1:Nat):Int)) (by omega) (G.room 8)
   have w1:=w0.ext x1
   have o1:=(x1.obj rb (Nat.lt_of_lt_of_le ni w0.nx)).trans o0
   have rP:((i+1:Nat):Int)+1=i+2:=by omega
   rw [rP] at e1
   obtain ⟨aX,G2,e2,w2⟩:=w1.pm.store ae (R.links+i) (i+2)
   simp [-Int.natCast_add,xw,zG,oH,Cd,aw,t1,t2,t15,t16,aT,hw,o,eg,ha,e1,o1,e2]
   refine (ih (i+1) _ _ G2 _ (by omega) (w1.trans w2 fun _ _ h=>h) (by simp [aw]) (by simp [aw]) (by simp [aw]) (by simp [aw])).mono ?_
   rintro q ⟨q1,own',q2⟩
   exact ⟨q1,own',by simpa [rA,hv] using q2⟩
theorem aei (ae:FuncId→Bool) (ht:ae 107=false) (hR:R.ok) (h:PM own G m s):∃ own' G',(E ae).cl 117 [R.v,P0 m] G=some (.tuple #[],G')∧PW no own G own' G' m (Lift.pC R s):=by
 obtain ⟨n,hn⟩:∃ n:Nat,R.size=n:=⟨R.size.toNat,by have:=hR.1; omega⟩
 have w:Wp (s117 true (bD Q ae) R.v (P0 m) G) fun q=>q.1= .tuple #[]∧∃ own',PW no own G own' q.2 m (Lift.pC R s):=by
  obtain ⟨G1,ak⟩:∃ G1,G1=G.push ⟨[.int .i64 R.top,.int .i64 R.links,.int .i64 R.size],1,false,1⟩:=⟨_,rfl⟩
  have x1:Ext G G1:=by rw [ak]; exact (Ext.refl G).push _
  have o1:G1.obj G.nx=some ⟨[.int .i64 R.top,.int .i64 R.links,.int .i64 R.size],1,false,1⟩:=by rw [ak]; simp
  have n1:G1.nx=G.nx+1:=by rw [ak]; rfl
  have e2:=aef ae R G1
  have hz:R.sized:=⟨hR.1,hR.2.1⟩
  simp only [hz,decide_true] at e2
  obtain ⟨G2,bA⟩:∃ G2,G2=G1.push ⟨[.int .i64 R.top,.int .i64 R.links,.int .i64 R.size],1,false,1⟩:=⟨_,rfl⟩
  rw [← bA] at e2
  have x2:Ext G1 G2:=by rw [bA]; exact (Ext.refl _).push _
  have o2:=(x2.obj _ (by omega)).trans o1
  obtain ⟨G3,e3,x3⟩:=E7 ae ht (i:=0) (by decide) (G2.room 5)
  have y3:=(x1.trans x2).trans (((Ext.refl G2).room 5).trans x3)
  have o3:=((((Ext.refl G2).room 5).trans x3).obj _ (by have:=x2.nx; omega)).trans o2
  have w3:=(PW.refl (B:=no) h).ext y3
  obtain ⟨et,G4,e4,w4⟩:=w3.pm.store ae R.top (0+1)
  have t0:grown own G 13 G.nx=13:=lG (Nat.le_refl _)
  have n3:G.nx<G3.nx:=by have:=x2.nx; have:=x3.nx; simp at this; omega
  have o4:=(w4.keep n3 (by rw [t0]; decide) id).trans o3
  have w34:=w3.trans w4 fun _ _ h=>h
  simp only [Int.zero_add] at e3 e4 w4 w34
  simp [s117,← ak,o1,e2,o2,e3,o3,e4,o4]
  refine Wp.bE ((aeh ae ht hR (rb:=G.nx) (G0:=G3) (own0:=grown own G 13) n3 (by rw [t0]; decide) o3 hn n 0 _ et G4 (s.store R.top 1) (by omega) w4 (by simp) (by simp) (by simp [hn]) (by simp)).mono ?_)
  rintro ⟨e,τ,G5⟩ ⟨rfl,ky,q⟩
  simp only at q
  simp
  refine ⟨ky,w3.trans ?_ fun _ _ h=>h⟩
  simpa [Lift.pC,hn] using q
 obtain ⟨⟨v,G'⟩,e1,rfl,own',hh⟩:=w
 exact ⟨own',G',f117 (aq Q ae) _ _ G _ e1,hh⟩
theorem aej (ae:FuncId→Bool) (hA:A.ok) (ni:rb<G0.nx) (uE:own0 rb≠10) (uF:G0.obj rb=some ⟨A.cells,1,false,1⟩) {n:Nat} (hn:A.size=n) :
  ∀ (k i:Nat) (τ:Env) (own:Nat→Nat) (G:GS) (s:MS),i+k=n→PW no own0 G0 own G m s→τ 1=P0 m→τ 2=P0 rb→τ 18= .int .i64 n→τ 19= .int .i64 i →
  Wp ((bD Q ae).dj 96 0 τ G) fun q=>q.1= .exit 0∧∃ own',PW no own0 G0 own' q.2.2 m (sN A k i s):=by
 intro k
 induction k with
 | zero =>
  intro i τ own G s hi w t1 t2 t15 t16
  have bG:i=n:=by omega
  subst bG
  refine Wp.lp (Rk (aq Q ae)) ?_
  simp [JK,aw,t1,t2,t15,t16,sN]
  exact ⟨own,w⟩
 | succ k ih =>
  intro i τ own G s hi w t1 t2 t15 t16
  have h1:=hA.2.1; have h2:=hA.2.2.1; have h3:=hA.1.2.1
  simp only at h3
  have o:=(w.keep ni uE id).trans uF
  have aT:i<n:=by omega
  have hw:IntKind.wrap .i64 ((i:Int)+1)=((i+1:Nat):Int):=wrap64 (by omega) (by omega)
  have ha:IntKind.wrap .i64 (A.lH+i)=A.lH+i:=wrap64 (by omega) (by omega)
  refine Wp.lp (Rk (aq Q ae)) ?_
  obtain ⟨aX,G2,e2,w2⟩:=w.pm.store ae (A.lH+i) 1
  simp [-Int.natCast_add,JK,aw,t1,t2,t15,t16,aT,hw,o,ha,e2]
  refine (ih (i+1) _ _ G2 _ (by omega) (w.trans w2 fun _ _ h=>h) (by simp [aw]) (by simp [aw]) (by simp [aw]) (by simp [aw])).mono ?_
  rintro q ⟨q1,own',q2⟩
  exact ⟨q1,own',by simpa [sN] using q2⟩
theorem aek (ae:FuncId→Bool) (ht:ae 107=false) (hA:A.ok) (h:PM own G m s):∃ own' G',(E ae).cl 96 [A.v,P0 m] G=some (.tuple #[],G')∧PW no own G own' G' m (C8 A s):=by
 obtain ⟨n,hn⟩:∃ n:Nat,A.size=n:=⟨A.size.toNat,by have:=hA.1.1; simp only at this; omega⟩
 have w:Wp (s96 true (bD Q ae) A.v (P0 m) G) fun q=>q.1= .tuple #[]∧∃ own',PW no own G own' q.2 m (C8 A s):=by
  obtain ⟨G1,ak⟩:∃ G1,G1=G.push ⟨A.cells,1,false,1⟩:=⟨_,rfl⟩
  have x1:Ext G G1:=by rw [ak]; exact (Ext.refl G).push _
  have o1:G1.obj G.nx=some ⟨A.cells,1,false,1⟩:=by rw [ak]; simp
  have n1:G1.nx=G.nx+1:=by rw [ak]; rfl
  have e2:∃ G2,(E ae).cl 116 [A.v] G1=some (.bool true,G2)∧Ext G1 G2:=by
   have z1:=hA.1.1; have z2:=hA.1.2.1
   simp only at z1 z2
   exact ⟨G1.push ⟨A.cells,1,false,1⟩,f116 (aq Q ae) _ G1 _ (by simp [s116,z1,z2]),(Ext.refl _).push _⟩
  obtain ⟨G2,e2,x2⟩:=e2
  have o2:=(x2.obj _ (by omega)).trans o1
  have n2:=x2.nx
  have w2:=(PW.refl (B:=no) h).ext (x1.trans x2)
  obtain ⟨cQ,G3,e3,w3⟩:=aei ae ht (R:=A.R) hA.1 w2.pm
  have t0:grown own G 13 G.nx=13:=lG (Nat.le_refl _)
  have o3:=(w3.keep (show G.nx<G2.nx by omega) (by rw [t0]; decide) id).trans o2
  have t3:cQ G.nx=13:=(w3.bH.same (by omega)).trans t0
  obtain ⟨et,G4,e4,w4⟩:=w3.pm.store ae A.Cs 0
  have n3:=w3.nx
  have o4:=(w4.keep (show G.nx<G3.nx by omega) (by rw [t3]; decide) id).trans o3
  simp [s96,← ak,o1,e2,o2,e3,o3,e4,o4]
  refine Wp.bE ((aej ae hA (rb:=G.nx) (G0:=G3) (own0:=cQ) (by omega) (by rw [t3]; decide) o3 hn n 0 _ et G4 _ (by omega) w4 (by simp) (by simp) (by simp [hn]) (by simp)).mono ?_)
  rintro ⟨e,τ,G5⟩ ⟨rfl,ky,q⟩
  simp only at q
  simp
  refine ⟨ky,(w2.trans w3 fun _ _ h=>h).trans ?_ fun _ _ h=>h⟩
  simpa [C8,hn] using q
 obtain ⟨⟨v,G'⟩,e1,rfl,own',hh⟩:=w
 exact ⟨own',G',f96 (aq Q ae) _ _ G _ e1,hh⟩
end
section
variable {m r rb:Nat} {own own0:Nat→Nat} {G G0:GS} {s:MS} {R:Sk} {A:Ar}
end
def TW.A (t:TW):Ar:=⟨t.top,t.links,t.size,t.u6,t.u7,t.u8⟩
section
variable {G B:GS} {t:TW} {n:Int}
end
section
variable {G B:GS} {t:TW} {n:Int}
end
def jt (base:Int):Nat→Nat→MS→MS
 | 0,_,s=>s
 | k+1,i,s=>jt base k (i+1) (s.store (IntKind.wrap .i64 (base+i)) 0)
theorem Gy (base:Int):∀ (k i:Nat) (s:MS),s.ok→(jt base k i s).ok
 | 0,_,_,h=>h
 | k+1,i,s,h=>Gy base k (i+1) _ (h.store _ gH)
def GC (t:TW) (s:MS):MS:=jt t.u10 t.u11.toNat 0 (s.store t.u9 0)
def sa (t:TW) (s:MS):MS:=jt t.u12 3 0 (GC t (C8 t.A s))
def qh (t:TW) (s:MS):MS:=jt t.cG t.ay.toNat 0 (sa t s)
theorem ael {t:TW} (hA:t.A.ok) {s:MS} (h:s.ok):(qh t s).ok:=Gy _ _ _ _ (Gy _ _ _ _ (Gy _ _ _ _ ((aeg hA h).store _ gH)))
section
variable {m r rb mb l:Nat} {own own0:Nat→Nat} {G G0 G1 A:GS} {s:MS} {t:TW} {T:List Value}
theorem aem (ae:FuncId→Bool) (ni:rb<G0.nx) (uE:own0 rb≠10) (uF:G0.obj rb=some ⟨t.cells,1,false,1⟩) {n:Nat} (hn:t.ay=n) (hn9:n≤4096) :
  ∀ (k i:Nat) (τ:Env) (own:Nat→Nat) (G:GS) (s:MS),i+k=n→PW no own0 G0 own G m s→τ 1=P0 m→τ 2=P0 rb→τ 13= .int .i64 t.ay→τ 14= .int .i64 i →
  Wp ((bD Q ae).dj 29 0 τ G) fun q=>q.1= .exit 0∧∃ own',PW no own0 G0 own' q.2.2 m (jt t.cG k i s):=by
 intro k
 induction k with
 | zero =>
  intro i τ own G s hi w t1 t2 t13 t4
  have o:=(w.keep ni uE id).trans uF
  have bG:¬ (i:Int)<t.ay:=by omega
  have C9:i=n:=by omega
  refine Wp.lp (Rj (aq Q ae)) ?_
  simp [-Int.natCast_add,JJ,aw,t1,t2,t13,t4,o,bG,C9,← hn,jt]
  exact ⟨own,w⟩
 | succ k ih =>
  intro i τ own G s hi w t1 t2 t13 t4
  have o:=(w.keep ni uE id).trans uF
  have aT:(i:Int)<t.ay:=by omega
  have LV:i<n:=by omega
  have hw:IntKind.wrap .i64 ((i:Int)+1)=((i+1:Nat):Int):=wrap64 (by omega) (by omega)
  refine Wp.lp (Rj (aq Q ae)) ?_
  obtain ⟨aX,G2,e2,w2⟩:=w.pm.store ae (IntKind.wrap .i64 (t.cG+i)) 0
  simp [-Int.natCast_add,JJ,aw,t1,t2,t13,t4,aT,LV,hw,o,e2]
  refine (ih (i+1) _ _ G2 _ (by omega) (w.trans w2 fun _ _ h=>h) (by simp [aw]) (by simp [aw]) (by simp [aw]) (by simp [aw])).mono ?_
  rintro q ⟨q1,own',q2⟩
  exact ⟨q1,own',by simpa [jt] using q2⟩
theorem aen (ae:FuncId→Bool) (ni:rb<G0.nx) (uE:own0 rb≠10) (uF:G0.obj rb=some ⟨pR t,1,false,1⟩) {n:Nat} (hn:(3:Int)=n) (hn9:n≤4096) :
  ∀ (k i:Nat) (τ:Env) (own:Nat→Nat) (G:GS) (s:MS),i+k=n→PW no own0 G0 own G m s→τ 1=P0 m→τ 2=P0 rb→τ 13= .int .i64 i →
  Wp ((bD Q ae).dj 64 0 τ G) fun q=>q.1= .exit 0∧∃ own',PW no own0 G0 own' q.2.2 m (jt t.u12 k i s):=by
 intro k
 induction k with
 | zero =>
  intro i τ own G s hi w t1 t2 t4
  have o:=(w.keep ni uE id).trans uF
  have bG:¬ (i:Int)<(3:Int):=by omega
  have C9:i=n:=by omega
  refine Wp.lp (Rf (aq Q ae)) ?_
  simp [-Int.natCast_add,JG,aw,t1,t2,t4,o,bG,C9,← hn,jt]
  exact ⟨own,w⟩
 | succ k ih =>
  intro i τ own G s hi w t1 t2 t4
  have o:=(w.keep ni uE id).trans uF
  have aT:(i:Int)<(3:Int):=by omega
  have LV:i<n:=by omega
  have hw:IntKind.wrap .i64 ((i:Int)+1)=((i+1:Nat):Int):=wrap64 (by omega) (by omega)
  refine Wp.lp (Rf (aq Q ae)) ?_
  obtain ⟨G1,e1,x1⟩:=Sy ae t i G
  have w1:=w.ext x1
  obtain ⟨aX,G2,e2,w2⟩:=w1.pm.store ae (IntKind.wrap .i64 (t.u12+i)) 0
  simp [-Int.natCast_add,JG,aw,t1,t2,t4,aT,LV,hw,o,e1,e2]
  refine (ih (i+1) _ _ G2 _ (by omega) (w1.trans w2 fun _ _ h=>h) (by simp [aw]) (by simp [aw]) (by simp [aw])).mono ?_
  rintro q ⟨q1,own',q2⟩
  exact ⟨q1,own',by simpa [jt] using q2⟩
end
section
variable {m r rb xb mb l:Nat} {own own0 ah:Nat→Nat} {G G0 G1 A:GS} {s:MS} {t:TW} {T:List Value}
abbrev rB (t:TW):List Value:=[.int .i64 t.u9,.int .i64 t.u10,.int .i64 t.u11]
noncomputable abbrev yh (T:List Value):Lp:=⟨.ready,none,T,[15,16],(aU [1,1,1,1,0,0] (aL Tryz.f97)),(aU [1,1,1,1,0,1] (aL Tryz.f97))⟩
structure Aq (t:TW) (own0:Nat→Nat) (A:GS) (l xb mb m:Nat) (T:List Value) (own:Nat→Nat) (G:GS) (s:MS):Prop where
 w:PW no own0 A own G m s
 lp:G.loop l=some (yh T)
 nl:A.nl≤l
 ll:l<G.nl
 ox:G.obj xb=some ⟨rB t,1,false,1⟩
 om:G.obj mb=some ⟨[P0 m],1,false,1⟩
 lx:xb<G.nx
 lm:mb<G.nx
 tx:own xb≠10
 tm:own mb≠10
theorem aeo {u:Nat} {B:Nat→Prop} {q:Lp} (h:dW u B own G ah G1) (hl:G.nl≤l):dW u B own G ah (G1.bR l q):=⟨h.dm,h.mod.bR hl q⟩
theorem aep {q:Lp} (h:PM own G m s):PM own (G.bR l q) m s:=(zN m s).mono ((zN m s).kept h (Nat.le_refl _) fun g hg=>by simp) (fun y hy=>⟨by simpa using hy.1,hy.2⟩) Tag.under
theorem LW {B:Nat→Prop} {q:Lp} (h:PW B own G ah G1 m s) (hl:G.nl≤l):PW B own G ah (G1.bR l q) m s:=⟨aeo h.bH hl,aep h.pm⟩
theorem aeq (ae:FuncId→Bool) {i a:Int} (hT:T.length=20) (t3:nth undef T 3=P0 mb) (h:Aq t own0 A l xb mb m T own G s) :
  Wp ((E ae).rd l [.int .i64 i,.int .i64 a] G) fun q=>q.1= .bool true∧∃ own',Aq t own0 A l xb mb m T own' q.2 (s.store a 0):=by
 refine Wp.ref (aaF (aq Q ae) l T _ _ G h.lp hT) ?_
 obtain ⟨G2,bA⟩:∃ G2,G2=G.bR l (Lp.gf (yh T) .busy):=⟨_,rfl⟩
 have n2:G2.nx=G.nx:=by rw [bA,Qc]
 have l1:=h.lp
 have w2:PW no own0 A own G2 m s:=by rw [bA]; exact LW h.w h.nl
 have l2:G2.loop l=some (Lp.gf (yh T) .busy):=by rw [bA]; simp [h.ll]
 have R9:G2.nl=G.nl:=by rw [bA]; simp
 have vR:G2.obj xb=some ⟨rB t,1,false,1⟩:=by rw [bA]; simpa using h.ox
 have Ux:G2.obj mb=some ⟨[P0 m],1,false,1⟩:=by rw [bA]; simpa using h.om
 obtain ⟨cQ,G3,e3,w3⟩:=w2.pm.store ae a 0
 have l3:G3.loop l=some (Lp.gf (yh T) .busy):=(w3.bH.mod.loop l (by rw [R9]; exact h.ll)).trans l2
 have LX:=w3.bH.mod.nl
 have lx:=h.lx
 have lm:=h.lm
 have ll:=h.ll
 have ua:me l .normal G3=some (.bool true,G3.bR l (yh T)):=by
  rw [BJ l .normal _ (j:=none) rfl l3]
  rfl
 simp [Cc,t3,l1,← bA,Ux,e3,ua]
 refine ⟨cQ,LW (w2.trans w3 fun _ _ h=>h) h.nl,by simp,h.nl,?_,?_,?_,?_,?_,?_,?_⟩
 ·show l<G3.nl; omega
 ·simpa using (w3.keep (by omega) h.tx id).trans vR
 ·simpa using (w3.keep (by omega) h.tm id).trans Ux
 ·have:=w3.nx; simp; omega
 ·have:=w3.nx; simp; omega
 ·rw [w3.bH.same (by omega)]; exact h.tx
 ·rw [w3.bH.same (by omega)]; exact h.tm
theorem aer (ae:FuncId→Bool) (hT:T.length=20) (t3:nth undef T 3=P0 mb) (hc:1≤t.u11∧t.u11≤64):∀ (k i:Nat) (own:Nat→Nat) (τ:Env) (G:GS) (s:MS),(i:Int)+k=t.u11→τ 0= .func (.yield l) #[] #[]→τ 1=P0 xb→τ 5= .int .i64 t.u11→τ 6= .int .i64 i →
  Aq t own0 A l xb mb m T own G s→Wp ((bD Q ae).dj 141 0 τ G) fun q=>q.1= .exit 0∧∃ own',Aq t own0 A l xb mb m T own' q.2.2 (jt t.u10 k i s):=by
 intro k
 induction k with
 | zero =>
  intro i own τ G s hi t0 t1 t5 t6 h
  refine Wp.lp (Rl (aq Q ae)) ?_
  have bG:¬ (i:Int)<t.u11:=by omega
  simp [-Int.natCast_add,JL,aw,t0,t1,t5,t6,bG]
  exact ⟨own,h⟩
 | succ k ih =>
  intro i own τ G s hi t0 t1 t5 t6 h
  refine Wp.lp (Rl (aq Q ae)) ?_
  have bG:(i:Int)<t.u11:=by omega
  have hw:IntKind.wrap .i64 ((i:Int)+1)=((i+1:Nat):Int):=wrap64 (by omega) (by omega)
  have ox:=h.ox
  obtain ⟨⟨v,G1⟩,e1,rfl,ah,h1⟩:=aeq ae (i:=i) (a:=IntKind.wrap .i64 (t.u10+i)) hT t3 h
  simp [-Int.natCast_add,JL,aw,t0,t1,t5,t6,bG,ox,e1,hw]
  exact ih (i+1) ah _ G1 _ (by omega) (by simp [aw]) (by simp [aw]) (by simp [aw]) (by simp [aw]) h1
theorem aes (ae:FuncId→Bool) (t:TW) (G:GS):(E ae).cl 119 [.agg ⟨rB t⟩] G=some (.func (.func 141) #[] #[P0 G.nx],G.push ⟨rB t,1,false,1⟩):=by
 refine f119 (aq Q ae) _ G _ ?_
 simp [s119]
theorem aet (ae:FuncId→Bool) (hc:1≤t.u11∧t.u11≤64) (h:PM own G m s):∃ ah G1,(E ae).cl 97 [.agg ⟨rB t⟩,P0 m] G=some (.tuple #[],G1)∧PW no own G ah G1 m (GC t s):=by
 obtain ⟨G1,ak⟩:∃ G1,G1=(G.push ⟨rB t,1,false,1⟩).push ⟨[P0 m],1,false,1⟩:=⟨_,rfl⟩
 have x1:Ext G G1:=by rw [ak]; exact ((Ext.refl G).push _).push _
 have o1:G1.obj G.nx=some ⟨rB t,1,false,1⟩:=by rw [ak]; simp
 have p1:G1.obj (G.nx+1)=some ⟨[P0 m],1,false,1⟩:=by rw [ak]; simp
 have n1:G1.nx=G.nx+2:=by rw [ak]; rfl
 obtain ⟨G2,bA⟩:∃ G2,G2=G1.push ⟨rB t,1,false,1⟩:=⟨_,rfl⟩
 have x2:Ext G1 G2:=by rw [bA]; exact (Ext.refl _).push _
 have e2:(E ae).cl 118 [.agg ⟨rB t⟩] G1=some (.bool true,G2):=by
  rw [bA]
  exact f118 (aq Q ae) _ G1 _ (by simp [s118,hc.1,hc.2])
 have y2:=x1.trans x2
 have n2:=x2.nx
 have o2:=(x2.obj G.nx (by omega)).trans o1
 have p2:=(x2.obj (G.nx+1) (by omega)).trans p1
 have t0:∀ g,G.nx≤g→grown own G 13 g=13:=fun g hg=>lG hg
 have w2:PW no own G (grown own G 13) G2 m s:=(PW.refl h).ext y2
 obtain ⟨cQ,G3,e3,w3⟩:=w2.pm.store ae t.u9 0
 have n3:=w3.nx
 have o3:=(w3.keep (show G.nx<G2.nx by omega) (by rw [t0 _ (Nat.le_refl _)]; decide) id).trans o2
 have p3:=(w3.keep (show G.nx+1<G2.nx by omega) (by rw [t0 _ (by omega)]; decide) id).trans p2
 have t3o:cQ G.nx=13:=(w3.bH.same (by omega)).trans (t0 _ (Nat.le_refl _))
 have t3p:cQ (G.nx+1)=13:=(w3.bH.same (by omega)).trans (t0 _ (by omega))
 have w:=w2.trans w3 fun _ _ h=>h
 have LX:=w.bH.mod.nl
 have w':Wp (s97 true (bD Q ae) (.agg ⟨rB t⟩) (P0 m) G) fun q=>q.1= .tuple #[]∧∃ ah,PW no own G ah q.2 m (GC t s):=by
  simp [s97,← ak,o1,e2,o2,p2,e3,o3,aes]
  generalize vG:aG 20 (tu (nth undef _) _)=T
  have hT:T.length=20:=by rw [← vG]; exact zq 20 _
  have t3:nth undef T 3=P0 (G.nx+1):=by rw [← vG,pE]; simp [aw]
  clear vG
  obtain ⟨G5,eR⟩:∃ G5,G5=(G3.push ⟨rB t,1,false,1⟩).dS (yh T):=⟨_,rfl⟩
  have x5:Ext G3 G5:=by rw [eR]; exact ((Ext.refl G3).push _).dS _
  have n5:G5.nx=G3.nx+1:=by rw [eR]; rfl
  have l5:G5.loop G3.nl=some (yh T):=by rw [eR]; simp
  have w5:PW no own G (grown cQ G3 13) G5 m (s.store t.u9 0):=w.ext x5
  have hS:Aq t own G G3.nl G3.nx (G.nx+1) m T (grown cQ G3 13) G5 (s.store t.u9 0):=⟨w5,l5,LX,by rw [eR]; simp,by rw [eR]; simp,(x5.obj _ (by omega)).trans p3,by omega,by omega,by rw [lG (Nat.le_refl _)]; decide,by rw [dk _ (by omega),t3p]; decide⟩
  have ox:=hS.ox
  have wl:Wp (s141 true (bD Q ae) (.func (.yield G3.nl) #[] #[]) (P0 G3.nx) G5) fun q=>q.1= .tuple #[]∧∃ own',Aq t own G G3.nl G3.nx (G.nx+1) m T own' q.2 (GC t s):=by
   simp [s141,ox]
   refine Wp.bE ((aer ae hT t3 hc t.u11.toNat 0 _ _ G5 _ (by omega) (by simp [aw]) (by simp [aw]) (by simp [aw]) (by simp [aw]) hS).mono ?_)
   rintro ⟨e,τ,G'⟩ ⟨rfl,own',h'⟩
   simp
   exact ⟨own',h'⟩
  obtain ⟨⟨v,G6⟩,e6,rfl,CL,h6⟩:=wl
  have e6':=f141 (aq Q ae) _ _ G5 _ e6
  rw [← eR]
  simp only [List.nil_append,List.singleton_append,List.cons_append,e6']
  rw [Et G3.nl T _ G6 h6.lp (by simp) rfl]
  simp
  exact ⟨CL,LW h6.w LX⟩
 obtain ⟨⟨v,G'⟩,e1,rfl,ah,h1⟩:=w'
 exact ⟨ah,G',f97 (aq Q ae) _ _ G _ e1,h1⟩
theorem aeu (ae:FuncId→Bool) (ht:ae 107=false) (hA:t.A.ok) (hc:1≤t.u11∧t.u11≤64) (h:PM own G m s):∃ own' G',(E ae).cl 64 [.agg ⟨pR t⟩,P0 m] G=some (.tuple #[],G')∧PW no own G own' G' m (sa t s):=by
 have w:Wp (s64 true (bD Q ae) (.agg ⟨pR t⟩) (P0 m) G) fun q=>q.1= .tuple #[]∧∃ own',PW no own G own' q.2 m (sa t s):=by
  obtain ⟨G1,ak⟩:∃ G1,G1=G.push ⟨pR t,1,false,1⟩:=⟨_,rfl⟩
  have x1:Ext G G1:=by rw [ak]; exact (Ext.refl G).push _
  have o1:G1.obj G.nx=some ⟨pR t,1,false,1⟩:=by rw [ak]; simp
  have n1:G1.nx=G.nx+1:=by rw [ak]; rfl
  have w1:=(PW.refl (B:=no) h).ext x1
  have t0:grown own G 13 G.nx=13:=lG (Nat.le_refl _)
  obtain ⟨aX,G2,e2,w2⟩:=aek ae ht hA w1.pm
  have n2:=w2.nx
  have t2:aX G.nx=13:=(w2.bH.same (by omega)).trans t0
  have o2:=(w2.keep (show G.nx<G1.nx by omega) (by rw [t0]; decide) id).trans o1
  obtain ⟨cQ,G3,e3,w3⟩:=aet ae hc w2.pm
  have n3:=w3.nx
  have t3:cQ G.nx=13:=(w3.bH.same (by omega)).trans t2
  have o3:=(w3.keep (show G.nx<G2.nx by omega) (by rw [t2]; decide) id).trans o2
  simp [TW.A] at e2
  simp [s64,← ak,o1,e2,o2,e3]
  refine Wp.bE ((aen ae (t:=t) (rb:=G.nx) (G0:=G3) (own0:=cQ) (n:=3) (by omega) (by rw [t3]; decide) o3 rfl (by omega) 3 0 _ cQ G3 _ (by omega) (PW.refl w3.pm) (by simp) (by simp) (by simp)).mono ?_)
  rintro ⟨e,τ,G5⟩ ⟨rfl,ky,q⟩
  simp only at q
  simp
  exact ⟨ky,((w1.trans w2 fun _ _ h=>h).trans w3 fun _ _ h=>h).trans q fun _ _ h=>h⟩
 obtain ⟨⟨v,G'⟩,e1,rfl,own',hh⟩:=w
 exact ⟨own',G',f64 (aq Q ae) _ _ G _ e1,hh⟩
theorem aev (ae:FuncId→Bool) (ht:ae 107=false) (hs:t.sound) (hA:t.A.ok) (hc:1≤t.u11∧t.u11≤64) (h:PM own G m s):∃ own' G',(E ae).cl 29 [t.v,P0 m] G=some (.tuple #[],G')∧PW no own G own' G' m (qh t s):=by
 have s1:=hs.1
 have s2:=hs.2.1
 have w:Wp (s29 true (bD Q ae) t.v (P0 m) G) fun q=>q.1= .tuple #[]∧∃ own',PW no own G own' q.2 m (qh t s):=by
  obtain ⟨G1,ak⟩:∃ G1,G1=G.push ⟨t.cells,1,false,1⟩:=⟨_,rfl⟩
  have x1:Ext G G1:=by rw [ak]; exact (Ext.refl G).push _
  have o1:G1.obj G.nx=some ⟨t.cells,1,false,1⟩:=by rw [ak]; simp
  have n1:G1.nx=G.nx+1:=by rw [ak]; rfl
  obtain ⟨Ga,ea,xa⟩:=E2 ae t G1
  simp only [hs,decide_true] at ea
  have na:=xa.nx
  have oa:=(xa.obj G.nx (by omega)).trans o1
  have w1:=(PW.refl (B:=no) h).ext (x1.trans xa)
  have t0:grown own G 13 G.nx=13:=lG (Nat.le_refl _)
  obtain ⟨aX,G2,e2,w2⟩:=aeu ae ht hA hc w1.pm
  have n2:=w2.nx
  have t2:aX G.nx=13:=(w2.bH.same (by omega)).trans t0
  have o2:=(w2.keep (show G.nx<Ga.nx by omega) (by rw [t0]; decide) id).trans oa
  obtain ⟨n,hn⟩:∃ n:Nat,t.ay=n:=⟨t.ay.toNat,by omega⟩
  simp [s29,← ak,o1,ea,oa,e2,o2]
  refine Wp.bE ((aem ae (t:=t) (rb:=G.nx) (G0:=G2) (own0:=aX) (by omega) (by rw [t2]; decide) o2 hn (by omega) n 0 _ aX G2 _ (by omega) (PW.refl w2.pm) (by simp) (by simp) (by simp) (by simp)).mono ?_)
  rintro ⟨e,τ,G5⟩ ⟨rfl,ky,q⟩
  simp only at q
  simp
  refine ⟨ky,(w1.trans w2 fun _ _ h=>h).trans ?_ fun _ _ h=>h⟩
  simpa [qh,hn] using q
 obtain ⟨⟨v,G'⟩,e1,rfl,own',hh⟩:=w
 exact ⟨own',G',f29 (aq Q ae) _ _ G _ e1,hh⟩
end
def qi (n cr H lim:Int):TW:=⟨6+2*n+cr+H,6+2*n+cr,H,0,1,n,1+n,1+2*n,lim,2+2*n,3+2*n,cr,3+2*n+cr⟩
def qj (n cr H:Int):Int:=6+2*n+cr+H+n*(4+H)
section
variable {n cr H lim:Int}
theorem LY (h0:1≤n∧n≤64) (h2:1≤H∧H≤4):0≤n*(4+H)∧n*(4+H)≤512:=by
 have a:=Int.mul_nonneg (show 0≤n by omega) (show 0≤4+H by omega)
 have b:=Int.mul_le_mul_of_nonneg_left (show 4+H≤8 by omega) (show 0≤n by omega)
 omega
theorem Uy (h0:1≤n∧n≤64) (h1:1≤cr∧cr≤64) (h2:1≤H∧H≤4) (h3:1≤lim∧lim≤4294967295):Pl (qi n cr H lim) (qj n cr H).toNat:=by
 have b:=LY h0 h2
 unfold qj
 refine ⟨?_,rfl,rfl,rfl,rfl,h3,rfl,rfl,h1,rfl,rfl,rfl,?_,by omega⟩
 ·simp only [TW.sound,qi]; omega
 ·simp only [qi]; omega
theorem aew (ae:FuncId→Bool) (h0:1≤n∧n≤64) (h1:1≤cr∧cr≤64) (h2:1≤H∧H≤4) (G:GS):∃ G',(E ae).cl 27 [.int .i64 n,.int .i64 cr,.int .i64 H,.int .i64 lim] G=some (.tuple #[(qi n cr H lim).v,.int .i64 (qj n cr H)],G')∧Ext G G':=by
 have b:=LY h0 h2
 have w1:IntKind.wrap .i64 (1+n)=1+n:=wrap64 (by omega) (by omega)
 have w2:IntKind.wrap .i64 (2*n)=2*n:=wrap64 (by omega) (by omega)
 have w3:IntKind.wrap .i64 (1+2*n)=1+2*n:=wrap64 (by omega) (by omega)
 have w4:IntKind.wrap .i64 (2+2*n)=2+2*n:=wrap64 (by omega) (by omega)
 have w5:IntKind.wrap .i64 (3+2*n)=3+2*n:=wrap64 (by omega) (by omega)
 have w6:IntKind.wrap .i64 (3+2*n+cr)=3+2*n+cr:=wrap64 (by omega) (by omega)
 have w7:IntKind.wrap .i64 (6+2*n)=6+2*n:=wrap64 (by omega) (by omega)
 have w8:IntKind.wrap .i64 (6+2*n+cr)=6+2*n+cr:=wrap64 (by omega) (by omega)
 have w9:IntKind.wrap .i64 (6+2*n+cr+H)=6+2*n+cr+H:=wrap64 (by omega) (by omega)
 have w10:IntKind.wrap .i64 (4+H)=4+H:=wrap64 (by omega) (by omega)
 have w11:IntKind.wrap .i64 (n*(4+H))=n*(4+H):=wrap64 (by omega) (by omega)
 have w12:IntKind.wrap .i64 (6+2*n+cr+H+n*(4+H))=6+2*n+cr+H+n*(4+H):=wrap64 (by omega) (by omega)
 have sL:z39=List.replicate 13 (.int .i64 0):=rfl
 have pQ:z33=List.replicate 6 (.int .i64 0):=rfl
 have Gr:z37=List.replicate 10 (.int .i64 0):=rfl
 have LZ:z31=List.replicate 3 (.int .i64 0):=rfl
 have hz5:z35=List.replicate 3 (.int .i64 0):=rfl
 have n1:¬ G.nx=G.nx+1:=by omega
 have n2:¬ G.nx=G.nx+1+1:=by omega
 have n3:¬ G.nx=G.nx+1+1+1:=by omega
 have xU:¬ G.nx+1=G.nx:=by omega
 have n2':¬ G.nx+1+1=G.nx:=by omega
 have xV:¬ G.nx+1+1+1=G.nx:=by omega
 have W:Wp (s27 true (bD Q ae) (.int .i64 n) (.int .i64 cr) (.int .i64 H) (.int .i64 lim) G) fun q=>q.1= .tuple #[(qi n cr H lim).v,.int .i64 (qj n cr H)]∧Ext G q.2:=by
  simp [s27,w1,w2,w3,w4,w5,w6,w7,w8,w9,w10,w11,w12,sL,pQ,Gr,LZ,hz5,n1,n2,n3,xU,n2',xV,ch,cg,gA]
  refine ⟨⟨⟨rfl,rfl,rfl,rfl,rfl,rfl,rfl,rfl,rfl,rfl,rfl,rfl,rfl⟩,rfl⟩,?_⟩
  exact ((((((((((Ext.refl G).push _).push _).put (by omega) _).push _).put (by omega) _).push _).put (by omega) _).room _).put (by omega) _)
 obtain ⟨⟨v,G'⟩,e,q,x⟩:=W
 simp only at q x
 subst q
 exact ⟨G',f27 (aq Q ae) _ _ _ _ G _ e,x⟩
end
structure yj (t:TW) (N:Nat) (K H:Int→Int) (k:Nat) (s:MS) (g:Sh):Prop where
 len:s.W.length=N
 ok:s.ok
 inv:aP t g
 c:g.c=vw t s
 nd:∀ i:Int,0≤i→i<k→g.ld i∧g.c i 0=K i∧g.c i 1=i∧g.c i 2=H i∧g.c i 3=2
 ld:∀ i,g.ld i→i<k
 rf:∀ i,0≤i→i<t.size→g.rf i=bN i 1
 born:∀ l i,¬ g.born l i
 bz:∀ i,¬ g.bz i
section
variable {t:TW} {N k:Nat} {K H:Int→Int} {s:MS} {g:Sh} {key hi:Int}
theorem yj.one (h:yj t N K H k s g) (L:Pl t N) (hk:(k:Int)<t.size) (eK:K k=key) (eH:H k=hi) (uK:U key) (uH:1≤hi∧hi≤t.ay) (hu:∀ i:Int,0≤i→i<k→K i≠key) :
  ∃ g',yj t N K H (k+1) ((((s.store (az t k 0) key).store (az t k 1) k).store (az t k 2) hi).store (az t k 3) 2) g':=by
 have hlen:=h.len
 have z1:=L.snd.2.2.2.1
 have Gx:=L.snd.2.1
 have GD:∀ d:Int,0≤d→d<4→cd t k d:=fun d h0 h1=>.inr ⟨by omega,hk,h0,by have:=L.snd.1; omega⟩
 have LL:∀ s':MS,s'.W.length=N→fy t s'.W.length:=fun s' e=>by rw [e]; exact L.sv
 obtain ⟨s1,h1⟩:∃ s1,s1=s.store (az t k 0) key:=⟨_,rfl⟩
 obtain ⟨s2,h2⟩:∃ s2,s2=s1.store (az t k 1) k:=⟨_,rfl⟩
 obtain ⟨s3,h3⟩:∃ s3,s3=s2.store (az t k 2) hi:=⟨_,rfl⟩
 obtain ⟨s4,h4⟩:∃ s4,s4=s3.store (az t k 3) 2:=⟨_,rfl⟩
 have l1:s1.W.length=N:=by rw [h1,qV]; exact hlen
 have l2:s2.W.length=N:=by rw [h2,qV]; exact l1
 have l3:s3.W.length=N:=by rw [h3,qV]; exact l2
 have l4:s4.W.length=N:=by rw [h4,qV]; exact l3
 have v1:vw t s1=(vw t s).set k 0 key:=by rw [h1]; exact zS (LL s hlen) (GD 0 (by omega) (by omega)) _
 have v2:vw t s2=(vw t s1).set k 1 k:=by rw [h2]; exact zS (LL s1 l1) (GD 1 (by omega) (by omega)) _
 have v3:vw t s3=(vw t s2).set k 2 hi:=by rw [h3]; exact zS (LL s2 l2) (GD 2 (by omega) (by omega)) _
 have v4:vw t s4=(vw t s3).set k 3 2:=by rw [h4]; exact zS (LL s3 l3) (GD 3 (by omega) (by omega)) _
 have uh:U hi:=⟨by omega,by omega⟩
 have uk:U (k:Int):=⟨by omega,by omega⟩
 have ok4:s4.ok:=by
  rw [h4,h3,h2,h1]
  exact (((h.ok.store _ uK).store _ uk).store _ uh).store _ ⟨by decide,by decide⟩
 have nb:¬ g.born 0 k:=h.born _ _
 have nl:¬ g.ld k:=fun hb=>by have:=h.ld k hb; omega
 have k0:(0:Int)≤k:=by omega
 have I1:aP t (g.put k 0 key):=h.inv.put ⟨k0,uK,.inl ⟨nb,fun q=>absurd q nl⟩⟩
 have I2:aP t ((g.put k 0 key).put k 1 k):=I1.put ⟨k0,uk,.inl ⟨nb,fun q=>absurd q nl⟩⟩
 have I3:aP t (((g.put k 0 key).put k 1 k).put k 2 hi):=I2.put ⟨k0,uh,.inl ⟨nb,fun q=>absurd q nl⟩⟩
 have I4:aP t ((((g.put k 0 key).put k 1 k).put k 2 hi).put k 3 2):=I3.put ⟨k0,⟨by decide,by decide⟩,.inl ⟨nb,fun q=>absurd q nl⟩⟩
 obtain ⟨g4,hg⟩:∃ g4,g4=(((g.put k 0 key).put k 1 k).put k 2 hi).put k 3 2:=⟨_,rfl⟩
 have c4:g4.c=vw t s4:=by rw [hg,v4,v3,v2,v1,← h.c]; rfl
 have ck:g4.c k 0=key∧g4.c k 1=k∧g4.c k 2=hi∧g4.c k 3=2:=by
  rw [hg]
  refine ⟨?_,?_,?_,?_⟩<;>simp [Sh.put,Vw.set]
 have co:∀ i p,i≠(k:Int)→g4.c i p=g.c i p:=fun i p hi=>by rw [hg]; simp [Sh.put,Vw.set,hi]
 have hb:g4.born=g.born:=by rw [hg]; rfl
 have hl:g4.ld=g.ld:=by rw [hg]; rfl
 have hz:g4.bz=g.bz:=by rw [hg]; rfl
 have dZ:g4.rf=g.rf:=by rw [hg]; rfl
 rw [← hg] at I4
 have I5:aP t (g4.lay k):=I4.lay ⟨k0,hk⟩ (by rw [ck.2.2.1]; exact uH) fun j hj=>by
  rw [hl] at hj
  have j1:=h.ld j hj
  have j0:=(h.inv.hi j hj).1
  rw [co j 0 (by omega),ck.1,(h.nd j j0 j1).2.1]
  exact hu j j0 j1
 refine ⟨g4.lay k,by rw [← h1,← h2,← h3,← h4]; exact l4,by rw [← h1,← h2,← h3,← h4]; exact ok4,I5,by rw [← h1,← h2,← h3,← h4]; exact c4,fun i i0 i1=>?_,fun i bG=>?_,fun i i0 i1=>?_,fun l i fG=>?_,fun i Ha=>?_⟩
 ·by_cases e:i=k
  ·subst e
   exact ⟨.inr rfl,ck.1.trans eK.symm,ck.2.1,ck.2.2.1.trans eH.symm,ck.2.2.2⟩
  ·obtain ⟨a1,a2,a3,a4,a5⟩:=h.nd i i0 (by omega)
   refine ⟨.inl (by rw [hl]; exact a1),?_,?_,?_,?_⟩
   ·exact (co i 0 e).trans a2
   ·exact (co i 1 e).trans a3
   ·exact (co i 2 e).trans a4
   ·exact (co i 3 e).trans a5
 ·rcases bG with q | q
  ·rw [hl] at q; have:=h.ld i q; omega
  ·omega
 ·show g4.rf i=_
  rw [dZ]; exact h.rf i i0 i1
 ·have:g4.born l i:=fG
  rw [hb] at this; exact h.born l i this
 ·have:g4.bz i:=Ha
  rw [hz] at this; exact h.bz i this
def Cm.start (t:TW) (s:MS):Cm:=⟨s,aj.new t 0 0 0 0,fun _=>ai.new t,0,fun _=>[],[],fun _=>-1⟩
theorem yj.start (h:yj t N K H k s g) (hk:(k:Int)=t.size):bJ t N K H (Cm.start t s) g:=by
 have na:∀ i,¬ (Cm.start t s).add i:=fun i q=>by
  rcases q with q | ⟨c,_,q,_⟩
  ·cases q
  ·have:(0:Int)≤ -1:=q
   omega
 have nl:∀ i,0≤i→¬ (Cm.start t s).dH i:=fun i i0 q=>by
  have:i<((0:Nat):Int):=q.1
  omega
 have no:∀ c,¬ 0≤(Cm.start t s).o c:=fun c q=>by
  have:(0:Int)≤ -1:=q
  omega
 refine ⟨h.len,h.ok,h.inv,h.c,fun i i0 i1=>?_,h.rf,?_,fun l i hb=>absurd hb (h.born l i),fun i i0 i1=>?_,fun i _ hb=>absurd hb (h.bz i),fun q=>absurd q (no 0),fun c _ _ q=>absurd q (no c),List.nodup_nil,fun j hj=>(by cases hj),fun c _ q=>absurd q (no c),fun q=>absurd q (no 1),fun c _ q=>absurd q (no c),fun i i0 i1=>?_,fun i q=>absurd q (na i),fun q=>absurd q (no 0),fun c _ q=>absurd q (no c)⟩
 ·obtain ⟨a1,a2,a3,a4,_⟩:=h.nd i i0 (by omega)
  exact ⟨a1,a2,a3,a4⟩
 ·show ((0:Nat):Int)≤t.size
  omega
 ·have:i<((0:Nat):Int):=i1
  omega
 ·rw [KT (nl i i0) (na i)]
  exact (h.nd i i0 (by omega)).2.2.2.2
end
end Go.Proofs.YtkhlabammcghbaaGreat.Lift
