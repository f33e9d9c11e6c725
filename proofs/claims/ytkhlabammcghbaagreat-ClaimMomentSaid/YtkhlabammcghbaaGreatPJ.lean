import Derived.Test.YtkhlabammcghbaaGreatPI
set_option linter.unusedVariables false
set_option linter.unusedSimpArgs false
set_option maxRecDepth 20000
namespace Go.Proofs.YtkhlabammcghbaaGreat.Lift
open Go Go.Proofs.YtkhlabammcghbaaGreat.Gh Go.Proofs
section
variable {t:TW} {s s':MS} {a v tp c k M i key job hi base:Int} {P P' K J H:Int→Int} {N n n':Nat} {g g':Sh} {R:Sk} {A:Ar}
theorem Pl.aA (h:Pl t N):t.A.ok:=by
 have:=h.top; have:=h.links; have:=h.u6; have:=h.u7; have:=h.lim; have:=h.fits; have:=h.cG; have:=h.snd.1; have:=h.snd.2.2.1; have:=h.snd.2.2.2.1; have:=h.u11.1; have:=h.le
 refine ⟨⟨?_,?_,?_,?_,?_,?_⟩,?_,?_,?_,?_,?_⟩<;>simp only [TW.A]<;>omega
theorem aex (h0:0≤R.links):∀ (k i:Nat) (s:MS),R.links+i+k≤s.W.length→(rA R k i s).W.length=s.W.length∧∀ b,(rA R k i s).aS b=if R.links+i≤b∧b<R.links+i+k then ry R (b - R.links).toNat else s.aS b:=by
 intro k
 induction k with
 | zero=>intro i s h; exact ⟨rfl,fun b=>by rw [if_neg (by omega)]; rfl⟩
 | succ k ih =>
  intro i s h
  have l:=qV s (R.links+i) (ry R i)
  obtain ⟨h1,h2⟩:=ih (i+1) (s.store (R.links+i) (ry R i)) (by rw [l]; omega)
  refine ⟨h1.trans l,fun b=>?_⟩
  rw [rA,h2,xI (by omega)]
  by_cases e:b=R.links+i
  ·rw [if_neg (by omega),if_pos e,if_pos (by omega)]; congr 1; omega
  ·by_cases e2:R.links+i≤b∧b<R.links+i+(k+1:Nat)
   ·rw [if_pos (by omega),if_pos e2]
   ·rw [if_neg (by omega),if_neg e,if_neg e2]
theorem aey (h0:0≤A.lH):∀ (k i:Nat) (s:MS),A.lH+i+k≤s.W.length→(sN A k i s).W.length=s.W.length∧∀ b,(sN A k i s).aS b=if A.lH+i≤b∧b<A.lH+i+k then 1 else s.aS b:=by
 intro k
 induction k with
 | zero=>intro i s h; exact ⟨rfl,fun b=>by rw [if_neg (by omega)]; rfl⟩
 | succ k ih =>
  intro i s h
  have l:=qV s (A.lH+i) 1
  obtain ⟨h1,h2⟩:=ih (i+1) (s.store (A.lH+i) 1) (by rw [l]; omega)
  refine ⟨h1.trans l,fun b=>?_⟩
  rw [sN,h2,xI (by omega)]
  by_cases e:b=A.lH+i
  ·rw [if_neg (by omega),if_pos e,if_pos (by omega)]
  ·by_cases e2:A.lH+i≤b∧b<A.lH+i+(k+1:Nat)
   ·rw [if_pos (by omega),if_pos e2]
   ·rw [if_neg (by omega),if_neg e,if_neg e2]
theorem L0 (h0:0≤base):∀ (k i:Nat) (s:MS),base+i+k≤s.W.length→s.W.length≤4096→(jt base k i s).W.length=s.W.length∧∀ b,(jt base k i s).aS b=if base+i≤b∧b<base+i+k then 0 else s.aS b:=by
 intro k
 induction k with
 | zero=>intro i s h _; exact ⟨rfl,fun b=>by rw [if_neg (by omega)]; rfl⟩
 | succ k ih =>
  intro i s h hl
  have w:IntKind.wrap .i64 (base+i)=base+i:=wrap64 (by omega) (by omega)
  have l:=qV s (base+i) 0
  obtain ⟨h1,h2⟩:=ih (i+1) (s.store (base+i) 0) (by rw [l]; omega) (by rw [l]; exact hl)
  refine ⟨by rw [jt,w]; exact h1.trans l,fun b=>?_⟩
  rw [jt,w,h2,xI (by omega)]
  by_cases e:b=base+i
  ·rw [if_neg (by omega),if_pos e,if_pos (by omega)]
  ·by_cases e2:base+i≤b∧b<base+i+(k+1:Nat)
   ·rw [if_pos (by omega),if_pos e2]
   ·rw [if_neg (by omega),if_neg e,if_neg e2]
theorem aez (n:Nat) (b:Int):(MS.zero n).aS b=0:=by
 unfold MS.aS
 split
 ·rename_i h
  have hl:(MS.zero n).W.length=n:=by simp [MS.zero]
  have:b.toNat<n:=by omega
  simp [MS.zero,List.getElem?_replicate,this]
 ·rfl
def Sh.none (t:TW) (s:MS):Sh:=⟨vw t s,fun _=>[],fun _ _=>False,fun _=>False,fun i=>bN i 1,fun _=>False⟩
theorem aeA (L:Pl t N) (hs:s.ok) (h0:∀ l,0≤l→l<t.ay→vw t s (-1) (4+l)=0):aP t (.none t s):=by
 have z:=L.snd.2.2.2.1
 refine ⟨fun i i0 i1=>⟨?_,?_,?_⟩,fun i p=>ab1 hs,fun l l0 l1=>?_,fun l l0 l1=>?_,fun _ _ _=>.nil,fun l i _ _ h=>by simp [Sh.none] at h,fun _ _ h=>h.elim,fun _ _ _ h=>h.elim,fun _ h=>h.elim,fun _ _ h=>h.elim,fun _ _ _ h=>h.elim,fun _ _ h=>h.elim⟩
 ·show aF t.size (bN i 1)=i
  unfold aF bN; split<;>omega
 ·show 0<bN i 1
  unfold bN; omega
 ·show bN i 1<aM
  unfold bN aM; omega
 ·show um (vw t s (-1) (4+l))=0
  rw [h0 l l0 l1]; rfl
 ·show ¬ Mk (vw t s (-1) (4+l))
  rw [h0 l l0 l1]; decide
theorem Uz (L:Pl t N):(qh t (.zero N)).W.length=N∧(qh t (.zero N)).ok∧∀ b,(qh t (.zero N)).aS b=if b=t.top then 1 else if t.links≤b∧b<t.links+t.size then ry t.A.R (b - t.links).toNat else if t.u6≤b∧b<t.u6+t.size then 1 else 0:=by
 have e1:=L.top; have e2:=L.links; have e3:=L.u6; have e4:=L.u7; have e5:=L.u9; have e6:=L.u10; have e7:=L.u11; have e8:=L.u12; have e9:=L.cG
 have z:=L.snd.2.2.1; have z2:=L.snd.2.2.2.1; have h1:=L.snd.1; have h2:=L.snd.2.1
 have f:=L.fits; have le:=L.le
 have hA:t.A.ok:=L.aA
 have l0:(MS.zero N).W.length=N:=by simp [MS.zero]
 obtain ⟨s1,d1⟩:∃ s1,s1=(MS.zero N).store t.top 1:=⟨_,rfl⟩
 obtain ⟨s2,d2⟩:∃ s2,s2=rA t.A.R t.size.toNat 0 s1:=⟨_,rfl⟩
 obtain ⟨s3,d3⟩:∃ s3,s3=s2.store t.u7 0:=⟨_,rfl⟩
 obtain ⟨s4,d4⟩:∃ s4,s4=sN t.A t.size.toNat 0 s3:=⟨_,rfl⟩
 obtain ⟨s5,d5⟩:∃ s5,s5=s4.store t.u9 0:=⟨_,rfl⟩
 obtain ⟨s6,d6⟩:∃ s6,s6=jt t.u10 t.u11.toNat 0 s5:=⟨_,rfl⟩
 obtain ⟨s7,d7⟩:∃ s7,s7=jt t.u12 3 0 s6:=⟨_,rfl⟩
 obtain ⟨s8,d8⟩:∃ s8,s8=jt t.cG t.ay.toNat 0 s7:=⟨_,rfl⟩
 have UA:qh t (.zero N)=s8:=by rw [d8,d7,d6,d5,d4,d3,d2,d1]; rfl
 have l1:s1.W.length=N:=by rw [d1,qV,l0]
 have a1:∀ b,s1.aS b=if b=t.top then 1 else 0:=fun b=>by rw [d1,xI (by omega)]; split<;>simp [aez]
 have A2:=aex (R:=t.A.R) (by simp only [TW.A]; omega) t.size.toNat 0 s1 (by simp only [TW.A]; omega)
 rw [← d2] at A2
 have l2:=A2.1.trans l1
 have l3:s3.W.length=N:=by rw [d3,qV,l2]
 have a3:=fun b=>xI (s:=s2) (a:=t.u7) (by omega) 0 b
 rw [← d3] at a3
 have A4:=aey (A:=t.A) (by simp only [TW.A]; omega) t.size.toNat 0 s3 (by simp only [TW.A]; omega)
 rw [← d4] at A4
 have l4:=A4.1.trans l3
 have l5:s5.W.length=N:=by rw [d5,qV,l4]
 have a5:=fun b=>xI (s:=s4) (a:=t.u9) (by omega) 0 b
 rw [← d5] at a5
 have A6:=L0 (base:=t.u10) (by omega) t.u11.toNat 0 s5 (by omega) (by omega)
 rw [← d6] at A6
 have l6:=A6.1.trans l5
 have A7:=L0 (base:=t.u12) (by omega) 3 0 s6 (by omega) (by omega)
 rw [← d7] at A7
 have l7:=A7.1.trans l6
 have A8:=L0 (base:=t.cG) (by omega) t.ay.toNat 0 s7 (by omega) (by omega)
 rw [← d8] at A8
 have l8:=A8.1.trans l7
 refine ⟨by rw [UA]; exact l8,ael hA (abu le),fun b=>?_⟩
 have B2:∀ b,s2.aS b=if t.links≤b∧b<t.links+t.size then ry t.A.R (b - t.links).toNat else s1.aS b:=fun b=>by
  rw [A2.2 b]
  by_cases c:t.links≤b∧b<t.links+t.size
  ·rw [if_pos c]; exact if_pos (show t.links+((0:Nat):Int)≤b∧b<t.links+((0:Nat):Int)+(t.size.toNat:Int) by omega)
  ·rw [if_neg c]; exact if_neg (show ¬ (t.links+((0:Nat):Int)≤b∧b<t.links+((0:Nat):Int)+(t.size.toNat:Int)) by omega)
 have B4:∀ b,s4.aS b=if t.u6≤b∧b<t.u6+t.size then 1 else s3.aS b:=fun b=>by
  rw [A4.2 b]
  by_cases c:t.u6≤b∧b<t.u6+t.size
  ·rw [if_pos c]; exact if_pos (show t.u6+((0:Nat):Int)≤b∧b<t.u6+((0:Nat):Int)+(t.size.toNat:Int) by omega)
  ·rw [if_neg c]; exact if_neg (show ¬ (t.u6+((0:Nat):Int)≤b∧b<t.u6+((0:Nat):Int)+(t.size.toNat:Int)) by omega)
 rw [UA,A8.2,A7.2,A6.2,a5,B4,a3,B2,a1]
 by_cases c1:b=t.top
 ·rw [if_pos c1,if_neg (by omega),if_neg (by omega),if_neg (by omega),if_neg (by omega),if_neg (by omega),if_neg (by omega),if_neg (by omega),if_pos c1]
 ·rw [if_neg c1,if_neg c1]
  by_cases c2:t.links≤b∧b<t.links+t.size
  ·rw [if_pos c2,if_neg (by omega),if_neg (by omega),if_neg (by omega),if_neg (by omega),if_neg (by omega),if_neg (by omega)]; exact (if_pos c2).symm
  ·rw [if_neg c2]
   by_cases c3:t.u6≤b∧b<t.u6+t.size
   ·rw [if_pos c3,if_neg (by omega),if_neg (by omega),if_neg (by omega),if_neg (by omega)]; exact ((if_neg c2).trans (if_pos c3)).symm
   ·rw [if_neg c3]
    split
    ·rfl
    split
    ·rfl
    split
    ·rfl
    split
    ·rfl
    split<;>rfl
theorem aeB (L:Pl t N) {i p:Int}:vw t (qh t (.zero N)) i p=0:=by
 by_cases h:cd t i p
 ·have q:=L.hi h
  have e1:=L.top; have e2:=L.links; have e3:=L.u6; have e9:=L.cG
  have z:=L.snd.2.2.1; have e7:=L.u11
  unfold vw
  rw [(Uz L).2.2,if_neg (by omega),if_neg (by omega),if_neg (by omega)]
 ·exact Cy h
theorem aeC (L:Pl t N) (K H:Int→Int):yj t N K H 0 (qh t (.zero N)) (.none t (qh t (.zero N))):=by
 obtain ⟨hl,aV,ha⟩:=Uz L
 exact ⟨hl,aV,aeA L aV fun l _ _=>aeB L,rfl,fun i i0 i1=>by omega,fun i h=>h.elim,fun i h0 h1=>rfl,fun _ _ h=>h,fun _ h=>h⟩
end
section
variable {own own' ah own0:Nat→Nat} {G G' G1 G10 G0:GS} {b tb m c sb tag tg k xb:Nat} {ts:List Nat} {x y:Cm} {w:Cx} {B B':dz} {v v1 xv:Value} {t:TW} {key hi i e:Int} {s s':MS} {z:aj} {K H:Int→Int} {N:Nat} {g:Sh} {LS:List Int}
theorem bW.aeD (h:bW own G t x w B) (hl:w.KS.length≤100) (x1:Ext G G10) (hx:bT (bh .u64) G10 xv [key]) :
  ∃ v' G12,j9 1 8 B.kv xv G10=some (v',G12)∧G12.obj B.xb=some ⟨cq t w B,1,false,1⟩∧one v' =true∧∀ G15,G15=G12.put B.xb ⟨cq t w { B with kv:=v' },1,false,1⟩→aE [1,5] own G G15∧bW (grown own G 5) G15 t x { w with KS:=w.KS++[key] } { B with kv:=v' }:=by
 obtain ⟨v',G2,e,m,o,nn,eJ⟩:=h.kk.app (ib:=8) (by decide) hx x1 (by simp) (by simp; omega)
 have ag:bf own (grown own G 5) G:=dk
 refine ⟨v',G2,e,(m.same h.cx.lt (by rw [h.cx.tag]; decide)).trans h.cx.obj,tW o.ow,fun G3 hG=>?_⟩
 have m3:aE [1,5] own G G3:=by
  rw [hG]
  exact aE.put (aE.mono m (by simp)) (.inl (by rw [h.cx.tag]; decide)) _
 have oW:=m3.nx
 obtain ⟨AL,fS,fA⟩:=h.al
 refine ⟨m3,⟨⟨Nat.lt_of_lt_of_le h.cx.lt oW,(ag _ h.cx.lt).trans h.cx.tag,by rw [hG]; simp; rfl⟩,h.cc.to m3 (by decide) ag,h.cf.to m3 (by decide) ag,h.co.to m3 (by decide) ag,h.hm.g8 m3 (by decide) ag,?_,h.kh.mt m3 (by decide) ag,⟨AL,fS,fA.mt m3 (by decide) ag⟩,h.gt.mt m3 (by decide) ag,h.ca.mt m3 (by decide) ag,fun c hc=>(h.fs c hc).mt m3 ?_ ag,fun q=>⟨(h.i0 q).1,qd (h.i0 q).2 m3 (by decide) (by decide) ag⟩,fun q=>⟨(h.i1 q).1,gb (h.i1 q).2 m3 (by decide) (by decide) ag⟩,fun q=>⟨(h.i2 q).1,gb (h.i2 q).2 m3 (by decide) (by decide) ag⟩,fun q=>⟨(h.i3 q).1,nH (h.i3 q).2 m3 (by decide) ag⟩⟩⟩
 ·refine o.to (by rw [hG]; exact Nat.le_refl _) (fun g hg=>?_) (bf.refl _ _)
  have t8:=o.tag g hg
  have:g≠B.xb:=fun q=>by rw [q,ag _ h.cx.lt,h.cx.tag] at t8; omega
  rw [hG,cM,if_neg this]
 ·rcases (show c=0∨c=1∨c=2∨c=3 by omega) with rfl | rfl | rfl | rfl<;>decide
theorem bW.aeE (h:bW own G t x w B) (hl:w.HS.length≤100) (x1:Ext G G10) (hx:bT (bh .i64) G10 xv [key]) :
  ∃ v' G12,j9 1 8 B.hv xv G10=some (v',G12)∧G12.obj B.xb=some ⟨cq t w B,1,false,1⟩∧one v' =true∧∀ G15,G15=G12.put B.xb ⟨cq t w { B with hv:=v' },1,false,1⟩→aE [1,6] own G G15∧bW (grown own G 6) G15 t x { w with HS:=w.HS++[key] } { B with hv:=v' }:=by
 obtain ⟨v',G2,e,m,o,nn,eJ⟩:=h.kh.app (ib:=8) (by decide) hx x1 (by simp) (by simp; omega)
 have ag:bf own (grown own G 6) G:=dk
 refine ⟨v',G2,e,(m.same h.cx.lt (by rw [h.cx.tag]; decide)).trans h.cx.obj,tW o.ow,fun G3 hG=>?_⟩
 have m3:aE [1,6] own G G3:=by
  rw [hG]
  exact aE.put (aE.mono m (by simp)) (.inl (by rw [h.cx.tag]; decide)) _
 have oW:=m3.nx
 obtain ⟨AL,fS,fA⟩:=h.al
 refine ⟨m3,⟨⟨Nat.lt_of_lt_of_le h.cx.lt oW,(ag _ h.cx.lt).trans h.cx.tag,by rw [hG]; simp; rfl⟩,h.cc.to m3 (by decide) ag,h.cf.to m3 (by decide) ag,h.co.to m3 (by decide) ag,h.hm.g8 m3 (by decide) ag,h.kk.mt m3 (by decide) ag,?_,⟨AL,fS,fA.mt m3 (by decide) ag⟩,h.gt.mt m3 (by decide) ag,h.ca.mt m3 (by decide) ag,fun c hc=>(h.fs c hc).mt m3 ?_ ag,fun q=>⟨(h.i0 q).1,qd (h.i0 q).2 m3 (by decide) (by decide) ag⟩,fun q=>⟨(h.i1 q).1,gb (h.i1 q).2 m3 (by decide) (by decide) ag⟩,fun q=>⟨(h.i2 q).1,gb (h.i2 q).2 m3 (by decide) (by decide) ag⟩,fun q=>⟨(h.i3 q).1,nH (h.i3 q).2 m3 (by decide) ag⟩⟩⟩
 ·refine o.to (by rw [hG]; exact Nat.le_refl _) (fun g hg=>?_) (bf.refl _ _)
  have t8:=o.tag g hg
  have:g≠B.xb:=fun q=>by rw [q,ag _ h.cx.lt,h.cx.tag] at t8; omega
  rw [hG,cM,if_neg this]
 ·rcases (show c=0∨c=1∨c=2∨c=3 by omega) with rfl | rfl | rfl | rfl<;>decide
def L1 (t:TW):Nat→rv→MS→MS
 | 0,_,s=>s
 | f+1,x,s=>L1 t f { x with d:=x.d+1 } (s.store (az t x.i x.d) (sM x.key x.job x.hi x.d))
theorem aeF (ae:FuncId→Bool):∀ (f:Nat) (τ:Env) (own:Nat→Nat) (G:GS) (s:MS) (l:rv),l.d+f=4→PW (Own own0 38) own0 G0 own G m s→yf own 38 t G b l→τ 9=P0 m→τ 14=P0 b→τ 15= .int .i64 l.d →
  Wp ((bD Q ae).dj 6 1 τ G) fun q=>q.1= .exit 2∧(q.2.1 0=τ 0∧q.2.1 1=τ 1∧q.2.1 2=τ 2∧q.2.1 7=τ 7∧q.2.1 9=τ 9∧q.2.1 11=τ 11∧q.2.1 12=τ 12∧q.2.1 13=τ 13∧q.2.1 14=P0 b)∧∃ ah,PW (Own own0 38) own0 G0 ah q.2.2 m (L1 t f l s)∧yf ah 38 t q.2.2 b { l with d:=4 }:=by
 intro f
 induction f with
 | zero =>
  intro τ own G s l hd w hp t9 t14 t15
  have L2:l.d=4:=by omega
  have hl:({ l with d:=4 }:rv)=l:=by cases l; simp only at L2; subst L2; rfl
  refine Wp.lp (Rv (aq Q ae)) ?_
  rw [L2] at t15
  rw [hl]
  simp [zy,aw,t9,t14,t15]
  exact ⟨own,w,hp⟩
 | succ f ih =>
  intro τ own G s l hd w hp t9 t14 t15
  obtain ⟨ah,G1,e1,w1,p1⟩:=aee ae (by omega) w.pm (by decide) hp
  have au:l.step t s=({ l with d:=l.d+1 },s.store (az t l.i l.d) (sM l.key l.job l.hi l.d)):=by unfold rv.step; rw [if_pos (by omega)]
  rw [au] at w1 p1
  have aT:(l.d:Int)<4:=by omega
  have pL:IntKind.wrap .i64 ((l.d:Int)+1)=((l.d+1:Nat):Int):=wrap64 (by omega) (by omega)
  have w2:PW (Own own0 38) own0 G0 ah G1 m (s.store (az t l.i l.d) (sM l.key l.job l.hi l.d)):=w.trans w1 fun g hg k=>by
   have:=w.bH.same hg
   have k':own g=38:=k
   show own0 g=38
   omega
  refine Wp.lp (Rv (aq Q ae)) ?_
  simp [-Int.natCast_add,zy,aw,t9,t14,t15,aT,e1,pL]
  refine (ih _ ah G1 _ { l with d:=l.d+1 } (by simp only; omega) w2 p1 ?_ ?_ ?_).mono ?_
  ·simp [aw]
  ·simp [aw]
  ·simp [aw]
  rintro q ⟨h1,⟨h2,h3,h4,h5,h6,h7,h8,h9,h10⟩,aX,h11,h12⟩
  refine ⟨h1,⟨?_,?_,?_,?_,?_,?_,?_,?_,h10⟩,aX,h11,h12⟩
  all_goals first
   | (rw [h2]; simp [aw])
   | (rw [h3]; simp [aw])
   | (rw [h4]; simp [aw])
   | (rw [h5]; simp [aw])
   | (rw [h6]; simp [aw,t9])
   | (rw [h7]; simp [aw])
   | (rw [h8]; simp [aw])
   | (rw [h9]; simp [aw])
theorem aeG (ae:FuncId→Bool) {l:rv} (h:yf own tag t G b l) (hd:l.d=4):(E ae).cl 32 [P0 b] G=some (.int .i64 0,G):=by
 obtain ⟨-,xb,ib,n,hr,-⟩:=h
 have ob:=hr.ob
 have e0:=LU ae hr.ob
 rw [hd] at ob e0
 refine f32 (aq Q ae) _ G _ ?_
 simp at e0
 simp [s32,ob,mD,e0]
end
def mO (NS:List Int) (i:Nat):Int:=NS.getD i 0 % 1000
def mP (n:Int) (NS:List Int) (i:Int):Int:=1+mO NS i.toNat % 50*n+i
def qk (Hh:Int) (NS:List Int) (i:Int):Int:=1+mO NS i.toNat / 50 % Hh
def kL (n:Int) (NS:List Int) (k:Nat):List Int:=(List.range k).map fun (i:Nat)=>mP n NS i
def sO (Hh:Int) (NS:List Int) (k:Nat):List Int:=(List.range k).map fun (i:Nat)=>qk Hh NS i
theorem aeH (n:Int) (NS:List Int) (k:Nat):kL n NS (k+1)=kL n NS k++[mP n NS k]:=by simp [kL,List.range_succ]
theorem aeI (n:Int) (NS:List Int) (k:Nat):sO n NS (k+1)=sO n NS k++[qk n NS k]:=by simp [sO,List.range_succ]
theorem UB (NS:List Int) (i:Nat):0≤mO NS i∧mO NS i<1000:=by
 unfold mO
 exact ⟨Int.emod_nonneg _ (by decide),Int.emod_lt_of_pos _ (by decide)⟩
theorem aeJ {n:Int} (h:1≤n∧n≤6) (NS:List Int) {i:Int} (hi:0≤i∧i<n):1≤mP n NS i∧mP n NS i≤400:=by
 have:=UB NS i.toNat
 unfold mP
 generalize mO NS i.toNat=k at *
 have b0:=Int.emod_nonneg k (show (50:Int)≠0 by decide)
 have b1:=Int.emod_lt_of_pos k (show (0:Int)<50 by decide)
 generalize k % 50=a at *
 rcases (show n=1∨n=2∨n=3∨n=4∨n=5∨n=6 by omega) with rfl | rfl | rfl | rfl | rfl | rfl<;>omega
theorem aeK {n:Int} (h:1≤n∧n≤6) (NS:List Int) {i j:Int} (hi:0≤i∧i<n) (hj:0≤j∧j<n) (e:i≠j):mP n NS i≠mP n NS j:=by
 unfold mP
 generalize mO NS i.toNat % 50=a
 generalize mO NS j.toNat % 50=b
 rcases (show n=1∨n=2∨n=3∨n=4∨n=5∨n=6 by omega) with rfl | rfl | rfl | rfl | rfl | rfl<;>omega
theorem aeL {n:Int} (h:1≤n∧n≤4) (NS:List Int) (i:Int):1≤qk n NS i∧qk n NS i≤n:=by
 unfold qk
 have b0:=Int.emod_nonneg (mO NS i.toNat / 50) (show n≠0 by omega)
 have b1:=Int.emod_lt_of_pos (mO NS i.toNat / 50) (show 0<n by omega)
 omega
structure L3 (t:TW) (N:Nat) (n Hh:Int) (NS:List Int) (A:GS) (k:Nat) (own:Nat→Nat) (G:GS) (s:MS) (w:Cx) (B:dz) (g:Sh) (xb m:Nat):Prop where
 h:bW own G t (Cm.start t s) w B
 l:yj t N (mP n NS) (qk Hh NS) k s g
 ks:w.KS=kL n NS k
 hs:w.HS=sO Hh NS k
 cs:w.cs=[]
 x:Ext A G
 own:∀ q,q<A.nx→own q=20
 xb:B.xb=xb
 m:B.m=m
def Da (t:TW) (N:Nat) (n Hh:Int) (NS:List Int) (A:GS) (k xb:Nat) (G:GS):Prop:=∃ own s w B g m,L3 t N n Hh NS A k own G s w B g xb m
section
variable {own own' ah own0:Nat→Nat} {G G' G1 G10 G0 A:GS} {b tb m c sb tag tg k xb:Nat} {ts:List Nat} {x y:Cm} {w:Cx} {B B':dz} {v v1 v2 xv:Value} {t:TW} {key hi i e n Hh:Int} {s s':MS} {z:aj} {K H:Int→Int} {N:Nat} {g:Sh} {LS NS:List Int}
set_option maxHeartbeats 1000000 in
theorem aeM (ae:FuncId→Bool) (aZ:ae 107=false) (dZ:ae 120=false) (L:Pl t N) (hn:1≤n∧n≤6) (cm:t.size=n) (hH:1≤Hh∧Hh≤4) (Gx:t.ay=Hh) (hv:bT (bh .i64) A v2 NS) :
  ∀ (f i:Nat) (τ:Env) (own:Nat→Nat) (G:GS) (s:MS) (w:Cx) (B:dz) (g:Sh),i+f=n.toNat→L3 t N n Hh NS A i own G s w B g xb m→(tb<G.nx∧own tb=20∧G.obj tb=some ⟨t.cells,1,false,1⟩) →
   τ 0= .int .i64 n→τ 1= .int .i64 Hh→τ 2=v2→τ 7=P0 tb→τ 9=P0 m→τ 11=P0 xb→τ 12= .int .i64 i →
  Wp ((bD Q ae).dj 6 0 τ G) fun q=>q.1= .exit 0∧q.2.1 11=P0 xb∧Da t N n Hh NS A n.toNat xb q.2.2:=by
 intro f
 induction f with
 | zero =>
  intro i τ own G s w B g hi I du t0 t1 t2 t7 t9 t11 t12
  have bG:(i:Int)=n:=by omega
  have C9:i=n.toNat:=by omega
  refine Wp.lp (Ru (aq Q ae)) ?_
  rw [bG] at t12
  simp [xo,zx,aw,t0,t1,t2,t7,t9,t11,t12]
  exact ⟨own,s,w,B,g,m,C9▸I⟩
 | succ f ih =>
  intro i τ own G s w B g hi I du t0 t1 t2 t7 t9 t11 t12
  have aT:(i:Int)<n:=by omega
  have i0:(0:Int)≤i:=by omega
  obtain ⟨L4,kb1⟩:=UB NS i
  obtain ⟨k1,k2⟩:=aeJ hn NS (i:=i) ⟨i0,aT⟩
  obtain ⟨L5,L6⟩:=aeL hH NS i
  have L7:mP n NS i=1+mO NS i % 50*n+i:=by unfold mP; rw [Int.toNat_natCast]
  have L8:qk Hh NS i=1+mO NS i / 50 % Hh:=by unfold qk; rw [Int.toNat_natCast]
  obtain ⟨kv,L9⟩:∃ kv,kv=mO NS i:=⟨_,rfl⟩
  rw [← L9] at L4 kb1 L7 L8
  obtain ⟨key,oN⟩:∃ key,key=mP n NS i:=⟨_,rfl⟩
  obtain ⟨hg,Ma⟩:∃ hg,hg=qk Hh NS i:=⟨_,rfl⟩
  rw [← oN] at k1 k2 L7
  rw [← Ma] at L5 L6 L8
  have Am:=I.xb
  have Gq:=I.m
  obtain ⟨v',G12,e12,Db,UC,aeN⟩:=I.h.aeD (key:=key) (by rw [I.ks]; simp [kL]; omega) ((Ext.refl G).push _) (bT.one (bh .u64) G key)
  obtain ⟨G15,vW⟩:∃ G15,G15=G12.put B.xb ⟨cq t w { B with kv:=v' },1,false,1⟩:=⟨_,rfl⟩
  obtain ⟨m15,h15⟩:=aeN G15 vW
  obtain ⟨Gd,mH⟩:∃ Gd,Gd=(((G15.room 15).aS (G15.nx+10)).push ⟨[.int .i64 hg],1,false,1⟩).back (G15.room 15):=⟨_,rfl⟩
  have xd:Ext G15 Gd:=by rw [mH]; exact Ext.drawn ((Ext.refl G15).room 15) (by omega) (by simp) _
  have xX:bT (bh .i64) Gd (.slice (some ⟨G15.nx+10,0,none⟩) 1 1) [hg]:=by rw [mH]; exact bT.EZ (bh .i64) (G15.room 15) hg (by simp)
  obtain ⟨u',G25,e25,As,aeO,aeP⟩:=h15.aeE (key:=hg) (by show w.HS.length≤_; rw [I.hs]; simp [sO]; omega) xd xX
  rw [mH] at e25
  obtain ⟨B1,vV⟩:∃ B1:dz,B1={ B with kv:=v',hv:=u' }:=⟨_,rfl⟩
  obtain ⟨w1,pg⟩:∃ w1:Cx,w1={ w with KS:=w.KS++[key],HS:=w.HS++[hg] }:=⟨_,rfl⟩
  obtain ⟨G29,uG⟩:∃ G29,G29=G25.put B.xb ⟨cq t w B1,1,false,1⟩:=⟨_,rfl⟩
  obtain ⟨m29,h29⟩:=aeP G29 (by rw [uG,vV]; rfl)
  obtain ⟨vX,UD⟩:∃ vX,vX=grown (grown own G 5) G15 6:=⟨_,rfl⟩
  have Mb:bW vX G29 t (Cm.start t s) w1 B1:=by rw [UD,pg,vV]; exact h29
  have M15:aE [1,5,6] own G G15:=aE.mono m15 (by decide)
  have M29:aE [1,5,6] own G G29:=M15.trans dk (aE.mono m29 (by decide))
  have A29:bf own vX G:=by
   rw [UD]
   exact fun q hq=>(dk (G:=G15) q (by have:=m15.nx; omega)).trans (dk q hq)
  obtain ⟨lb,G44,lxb,lib,lnn,e44,x44,⟨b0,b1,b2,b3⟩,hLy⟩:=aec (key:=key) (job:=i) (hi:=hg) ae aZ dZ L.snd (i:=i) (g:=1) ⟨i0,by rw [cm]; exact aT⟩ ⟨by decide,by decide⟩ ⟨i0,by omega⟩ ⟨L5,by rw [Gx]; exact L6⟩ (G29.room 22)
  have y44:Ext G29 G44:=((Ext.refl G29).room 22).trans x44
  obtain ⟨rC,UE⟩:∃ rC:Nat→Nat,rC=fun q=>if q<G29.nx then vX q else 38:=⟨_,rfl⟩
  have a44:bf vX rC G29:=fun q hq=>by rw [UE]; exact if_pos hq
  have t44:∀ q,G29.nx≤q→rC q=38:=fun q hq=>by rw [UE]; exact if_neg (by omega)
  have r29:(G29.room 22).nx=G29.nx+22:=rfl
  have h44:bW rC G44 t (Cm.start t s) w1 B1:=Mb.to (ts:=[]) (aE.ext y44) a44 (by simp)
  have hP:yf rC 38 t G44 lb ⟨i,bN i 1,key,i,hg,0⟩:=⟨by simp,lxb,lib,lnn,hLy,t44 _ (by omega),t44 _ (by omega),t44 _ (by omega),fun j _=>t44 _ (by omega)⟩
  have B1x:B1.xb=xb:=by rw [vV]; exact Am
  have Mc:B1.m=m:=by rw [vV]; exact Gq
  have aeQ:PM rC G44 m s:=by have:=h44.hm; rw [Mc] at this; exact this
  obtain ⟨g',I'⟩:=I.l.one L (key:=key) (hi:=hg) (by rw [cm]; exact aT) oN.symm Ma.symm ⟨by omega,by omega⟩ ⟨L5,by rw [Gx]; exact L6⟩ (fun j j0 j1=>by rw [oN]; exact aeK hn NS ⟨j0,by omega⟩ ⟨i0,aT⟩ (by omega))
  obtain ⟨s',Kr⟩:∃ s',s' =L1 t 4 ⟨i,bN i 1,key,i,hg,0⟩ s:=⟨_,rfl⟩
  have es':s' =(((s.store (az t i 0) key).store (az t i 1) i).store (az t i 2) hg).store (az t i 3) 2:=by rw [Kr]; rfl
  rw [← es'] at I'
  have next:∀ (ky:Nat→Nat) (G48:GS),PW (Own rC 38) rC G44 ky G48 m s' →∀ τ':Env,τ' 0= .int .i64 n→τ' 1= .int .i64 Hh→τ' 2=v2→τ' 7=P0 tb→τ' 9=P0 m→τ' 11=P0 xb→τ' 12= .int .i64 (i+1:Nat) →
    Wp ((bD Q ae).dj 6 0 τ' G48) fun q=>q.1= .exit 0∧q.2.1 11=P0 xb∧Da t N n Hh NS A n.toNat xb q.2.2:=by
   intro ky G48 w5 τ' u0 u1 u2 u7 u9 u11 u12
   have m5:=w5.Un
   have a5:=w5.bH.dm
   have h5:bW ky G48 t (Cm.start t s') w1 B1:=by
    have no:∀ c,¬ 0≤(Cm.start t s).o c:=fun c q=>by
     have:(0:Int)≤ -1:=q
     omega
    exact h44.bH (z:=aj.new t 0 0 0 0) (cl':=fun _=>ai.new t) m5 a5 (by decide) (by rw [Mc]; exact w5.pm) (fun q=>absurd q (no 0)) (fun q=>absurd q (no 1)) (fun q=>absurd q (no 2)) (fun q=>absurd q (no 3))
   have MM:aE [1,5,6,10,38] own G G48:=aE.trans (aE.mono M29 (by decide)) A29 (aE.trans (aE.ext y44) a44 (aE.mono m5 (by decide)))
   have AA:bf own ky G:=fun q hq=>(a5 q (by have:=M29.nx; have:=y44.nx; omega)).trans ((a44 q (by have:=M29.nx; omega)).trans (A29 q hq))
   refine ih (i+1) τ' ky G48 s' w1 B1 g' (by omega) ⟨h5,I',?_,?_,by rw [pg]; exact I.cs,aE.JZ MM (fun q hq=>by rw [I.own q hq]; decide) I.x,fun q hq=>(AA q (Nat.lt_of_lt_of_le hq I.x.nx)).trans (I.own q hq),B1x,Mc⟩ ⟨Nat.lt_of_lt_of_le du.1 MM.nx,(AA _ du.1).trans du.2.1,(MM.same du.1 (by rw [du.2.1]; decide)).trans du.2.2⟩ u0 u1 u2 u7 u9 u11 u12
   ·rw [pg,aeH,← I.ks,← oN]
   ·rw [pg,aeI,← I.hs,← Ma]
  have bU:=I.h.cx.obj
  rw [fB,Am] at bU
  have Au:G15.obj B.xb=some ⟨cq t w { B with kv:=v' },1,false,1⟩:=by rw [vW]; simp
  have yk:G29.obj B.xb=some ⟨cq t w B1,1,false,1⟩:=by rw [uG]; simp
  have p1:∀ d,bZ { B with kv:=v' } d=bZ B d:=fun _=>rfl
  have p2:∀ d,bZ B1 d=bZ B d:=fun d=>by rw [vV]; rfl
  have d1:B1.m=B.m∧B1.kv=v' ∧B1.hv=u' ∧B1.av=B.av∧B1.cb=B.cb∧B1.fb=B.fb∧B1.gv=B.gv∧B1.lv=B.lv∧B1.ob=B.ob:=by rw [vV]; exact ⟨rfl,rfl,rfl,rfl,rfl,rfl,rfl,rfl,rfl⟩
  obtain ⟨d0,d1,d2,d3,d4,d5,d6,d7,d8⟩:=d1
  have kl1:w1.KS.length=i+1:=by rw [pg]; simp only [List.length_append,List.length_singleton]; rw [I.ks]; simp [kL]
  have ph:w1.HS.length=i+1:=by rw [pg]; simp only [List.length_append,List.length_singleton]; rw [I.hs]; simp [sO]
  have aeR:dC (bh .u64) vX 5 G29 v' w1.KS:=by have:=Mb.kk; rw [d1] at this; exact this
  have aeS:dC (bh .i64) vX 6 G29 u' w1.HS:=by have:=Mb.kh; rw [d2] at this; exact this
  have ki:i<w1.KS.length:=by omega
  have zM:i<w1.HS.length:=by omega
  have kE:w1.KS[i]=key:=by
   have h1:w1.KS=w.KS++[key]:=by rw [pg]
   have h2:w.KS.length=i:=by rw [I.ks]; simp [kL]
   simp only [h1]
   rw [List.getElem_append_right (by omega)]
   simp [h2]
  have hE:w1.HS[i]=hg:=by
   have h1:w1.HS=w.HS++[hg]:=by rw [pg]
   have h2:w.HS.length=i:=by rw [I.hs]; simp [sO]
   simp only [h1]
   rw [List.getElem_append_right (by omega)]
   simp [h2]
  obtain ⟨qb,qo,qc,UF,_,qq,_⟩:=aeR.ow.is.at ki
  obtain ⟨rb,ro,rc,UG,_,rq,_⟩:=aeS.ow.is.at zM
  have Md:=qq 0 (by decide)
  have Me:=rq 0 (by decide)
  simp [bh] at Md Me
  rw [kE] at Md
  rw [hE] at Me
  have aoV:one v' =true:=UC
  dsimp only at e25
  rw [fB] at Db As yk Au vW uG
  simp only [p1,p2] at Db As yk Au vW uG
  rw [Am] at Db As yk Au vW uG
  simp only [d0,d1,d2,d3,d4,d5,d6,d7,d8] at Db As yk Au vW uG
  rw [UF] at As yk Au vW uG
  rw [UG] at yk uG
  have aeT:G29.obj tb=some ⟨t.cells,1,false,1⟩:=(M29.same du.1 (by rw [du.2.1]; decide)).trans du.2.2
  rw [show (bh .u64).row key=[.int .u64 key] from rfl,show (bh .u64).sz=1 from rfl] at e12
  have hw0:IntKind.wrap .i64 0=0:=by decide
  have Gt:IntKind.wrap .i64 ((i:Int)+1)=((i+1:Nat):Int):=wrap64 (by omega) (by omega)
  have LM:IntKind.wrap .u64 ((i+1:Nat):Int)=(i:Int)+1:=by unfold IntKind.wrap; simp [IntKind.bits,IntKind.signed]; omega
  have LN:lu .u64 ((i:Int)+1) 65536=bN i 1:=Uf (by omega)
  have r1:Int.tmod kv 50=kv % 50:=Int.tmod_eq_emod_of_nonneg L4
  have r2:Int.tdiv kv 50=kv / 50:=Int.tdiv_eq_ediv_of_nonneg L4
  have wk0:IntKind.wrap .i64 (kv % 50)=kv % 50:=wrap64 (by omega) (by omega)
  have wk5:IntKind.wrap .i64 (kv / 50)=kv / 50:=wrap64 (by omega) (by omega)
  have RN:0≤kv % 50*n∧kv % 50*n≤300:=by
   have b0:=Int.emod_nonneg kv (show (50:Int)≠0 by decide)
   have b1:=Int.emod_lt_of_pos kv (show (0:Int)<50 by decide)
   have c0:=Int.mul_nonneg b0 (show 0≤n by omega)
   have c1:=Int.mul_le_mul_of_nonneg_left (show n≤6 by omega) b0
   omega
  have wk1:IntKind.wrap .i64 (kv % 50*n)=kv % 50*n:=wrap64 (by omega) (by omega)
  have wk2:IntKind.wrap .i64 (1+kv % 50*n)=1+kv % 50*n:=wrap64 (by omega) (by omega)
  have wk3:IntKind.wrap .i64 (1+kv % 50*n+i)=key:=by rw [L7]; exact wrap64 (by omega) (by omega)
  have wk4:IntKind.wrap .u64 key=key:=by unfold IntKind.wrap; simp [IntKind.bits,IntKind.signed]; omega
  have epk:∀ G,(E ae).cl 7 [.int .i64 (kv / 50),.int .i64 Hh] G=some (.int .i64 (kv / 50 % Hh),G):=fun G=>Cl ae _ Hh (by omega) (by omega) G
  have wk6:IntKind.wrap .i64 (1+kv / 50 % Hh)=hg:=by rw [L8]; exact wrap64 (by omega) (by omega)
  have su:bp (some B.hv) B.hv=true:=Ci I.h.kh.ow
  have join:∀ τ':Env,τ' 0= .int .i64 n→τ' 1= .int .i64 Hh→τ' 2=v2→τ' 7=P0 tb→τ' 9=P0 m→τ' 11=P0 xb→τ' 12= .int .i64 i→τ' 13= .int .i64 kv →
    Wp (oC true (bD Q ae) ((bD Q ae).dj 6 0) τ' G) fun q=>q.1= .exit 0∧q.2.1 11=P0 xb∧Da t N n Hh NS A n.toNat xb q.2.2:=by
   intro τ' u0 u1 u2 u7 u9 u11 u12 u13
   simp [-Int.natCast_add,oC,EO,aw,u0,u1,u2,u7,u11,u12,u13,bU,r1,r2,wk0,wk1,wk2,wk3,wk4,e12,Db,UC,iq,← vW,Au,wk5,epk,su,wk6,e25,As,aeO,← uG,aeT,Gt,LM,LN,yk,UF,UG,ki,zM,Md,Me,e44]
   refine Wp.bE ((aeF ae (own0:=rC) (G0:=G44) (m:=m) (b:=lb) 4 _ rC G44 s ⟨i,bN i 1,key,i,hg,0⟩ rfl (PW.refl aeQ) hP ?_ ?_ ?_).mono ?_)
   ·simp [aw,u9]
   ·simp [aw]
   ·simp [aw]
   rintro ⟨e,τ2,G48⟩ ⟨h1,⟨z0,z1,z2,z7,z9,z11,z12,z13,z14⟩,ky,w5,p5⟩
   simp only at h1 z0 z1 z2 z7 z9 z11 z12 z13 z14 w5 p5
   subst h1
   rw [← Kr] at w5
   have el:=aeG ae p5 rfl
   simp [aw,u0,u1,u2,u7,u9,u11,u12,u13] at z0 z1 z2 z7 z9 z11 z12 z13
   simp [-Int.natCast_add,z0,z1,z2,z7,z11,z12,z13,z14,el,Gt]
   refine next ky G48 w5 _ ?_ ?_ ?_ ?_ ?_ ?_ ?_<;>simp [aw,z9]
  refine Wp.lp (Ru (aq Q ae)) ?_
  obtain ⟨va,vc,ev⟩:=(hv.ext I.x).len
  have lv:∀ q,ln Q true q v2=some (.int .i64 NS.length):=fun q=>by rw [ev]; simp
  by_cases eJ:i<NS.length
  ·have Mf:(i:Int)<NS.length:=by omega
   obtain ⟨nb,no,nc,en,_,nq,_⟩:=(hv.ext I.x).at eJ
   have UH:=nq 0 (by decide)
   simp [bh] at UH
   have ep:∀ G,(E ae).cl 7 [.int .i64 NS[i],.int .i64 1000] G=some (.int .i64 kv,G):=fun G=>by
    rw [Cl ae _ 1000 (by decide) (by decide) G,L9]
    unfold mO
    rw [List.getD_eq_getElem?_getD,List.getElem?_eq_getElem eJ,Option.getD_some]
   simp [-Int.natCast_add,xo,zx,aw,t0,t1,t2,t7,t9,t11,t12,aT,lv,Mf,en,i0,eJ,UH,ep]
   refine join _ ?_ ?_ ?_ ?_ ?_ ?_ ?_ ?_<;>simp [aw,t9,en]
  ·have Mf:¬ (i:Int)<NS.length:=by omega
   have k0:kv=0:=by
    rw [L9]; unfold mO
    rw [List.getD_eq_getElem?_getD,List.getElem?_eq_none (by omega)]; rfl
   simp [-Int.natCast_add,xo,zx,aw,t0,t1,t2,t7,t9,t11,t12,aT,lv,Mf]
   refine join _ ?_ ?_ ?_ ?_ ?_ ?_ ?_ ?_<;>simp [aw,t9,k0]
end
set_option maxRecDepth 100000
section
variable {own own' ah own0:Nat→Nat} {G G' G1 G10 G0 A:GS} {b m c xb:Nat} {v v1 v2 xv:Value} {n Hh:Int} {LS NS:List Int}
theorem aeU (G:GS):qJ 1 8 z63 2 2 G=some (.slice (some ⟨G.nx,0,none⟩) 2 2,G.push ⟨[.pointer none,.pointer none],1,false,1⟩):=by
 unfold qJ
 rw [if_pos ⟨by decide,by decide,by decide,by decide,wrap64 (by decide) (by decide),wrap64 (by decide) (by decide)⟩]
 rfl
theorem aeV (G:GS):qJ 1 24 z22 4 4 G=some (.slice (some ⟨G.nx,0,none⟩) 4 4,G.push ⟨[.slice none 0 0,.slice none 0 0,.slice none 0 0,.slice none 0 0],1,false,1⟩):=by
 unfold qJ
 rw [if_pos ⟨by decide,by decide,by decide,by decide,wrap64 (by decide) (by decide),wrap64 (by decide) (by decide)⟩]
 rfl
theorem aeW (ae:FuncId→Bool) (aZ:ae 107=false) (dZ:ae 120=false) (hn:1≤n∧n≤6) (hH:1≤Hh∧Hh≤4) (hv:bT (bh .i64) A v2 NS) :
  Wp ((E ae).cl 6 [.int .i64 n,.int .i64 Hh,v2] A) fun q=>∃ xb,q.1=P0 xb∧Da (qi n 4 Hh 9) (qj n 4 Hh).toNat n Hh NS A n.toNat xb q.2:=by
 have hM:=LY (n:=n) (H:=Hh) (by omega) hH
 have hMd:qj n 4 Hh=6+2*n+4+Hh+n*(4+Hh):=rfl
 have L:=Uy (n:=n) (cr:=4) (H:=Hh) (lim:=9) (by omega) (by omega) hH (by omega)
 obtain ⟨t,ht⟩:∃ t,t=qi n 4 Hh 9:=⟨_,rfl⟩
 obtain ⟨G1,e1,x1⟩:=aew (n:=n) (cr:=4) (H:=Hh) (lim:=9) ae (by omega) (by omega) hH A
 rw [← ht] at e1 L ⊢
 obtain ⟨G6,cu⟩:∃ G6,G6=(G1.push ⟨z39,1,false,1⟩).put G1.nx ⟨t.cells,1,false,1⟩:=⟨_,rfl⟩
 have x6:Ext G1 G6:=by rw [cu]; exact ((Ext.refl G1).push _).put (Nat.le_refl _) _
 have n6:G6.nx=G1.nx+1:=by rw [cu]; rfl
 have o6:G6.obj G1.nx=some ⟨t.cells,1,false,1⟩:=by rw [cu]; simp
 obtain ⟨m,G8,e8,x8,hm⟩:=(tX ae (qj n 4 Hh) G6).2 (by omega) (by omega)
 obtain ⟨aX,DR⟩:∃ aX:Nat→Nat,aX=fun x=>if x<G6.nx then 20 else 10:=⟨_,rfl⟩
 have dq:∀ x,x<G6.nx→aX x=20:=fun x hx=>by rw [DR]; simp only; rw [if_pos hx]
 have yN:PM aX G8 m (MS.zero (qj n 4 Hh).toNat):=hm.mono (fun x hx=>⟨hx.2,by rw [DR]; simp only; rw [if_neg (by omega)]⟩) Tag.under
 have o8:=(x8.obj G1.nx (by omega)).trans o6
 obtain ⟨cQ,G19,e19,q3⟩:=aev ae aZ L.snd L.aA L.u11 yN
 have x19:Ext G6 G19:=q3.bH.JZ x8 fun g hg=>⟨by rw [dq g hg]; decide,id⟩
 have UI:∀ x,x<G6.nx→cQ x=20:=fun x hx=>(q3.bH.same (Nat.lt_of_lt_of_le hx x8.nx)).trans (dq x hx)
 have o19:=(x19.obj G1.nx (by omega)).trans o6
 have n19:=x19.nx
 have hz:z39=List.replicate 13 (.int .i64 0):=rfl
 have Gr:z3=[.int .i64 0]:=rfl
 have LZ:z49=[.int .i64 0,.int .i64 0,.int .i64 0,.int .i64 0,.int .i64 0,.int .i64 0,.int .i64 0,.int .i64 0,.int .i64 0,.int .i64 0,.int .i64 0,.int .i64 0,.int .i64 0,.pointer none,.slice none 0 0,.slice none 0 0,.pointer none,.slice none 0 0,.slice none 0 0,.pointer none,.slice none 0 0,.slice none 0 0,.slice none 0 0,.slice none 0 0,.int .i64 0]:=rfl
 have el8:nD 13 0 (G8.obj G1.nx)=some t.v:=by rw [o8]; simp
 have aeX:nD 13 0 (G19.obj G1.nx)=some t.v:=by rw [o19]; simp
 obtain ⟨Ga,GF⟩:∃ Ga,Ga=(((G19.room 8).aS (G19.nx+2)).push ⟨[.pointer none,.pointer none],1,false,1⟩).back (G19.room 8):=⟨_,rfl⟩
 obtain ⟨Gb,Dc⟩:∃ Gb,Gb=((Ga.aS (G19.nx+3)).push ⟨[.slice none 0 0,.slice none 0 0,.slice none 0 0,.slice none 0 0],1,false,1⟩).back Ga:=⟨_,rfl⟩
 obtain ⟨Gc,Av⟩:∃ Gc,Gc=((Gb.aS (G19.nx+4)).push ⟨[.int .i64 (-1),.int .i64 (-1),.int .i64 (-1),.int .i64 (-1)],1,false,1⟩).back Gb:=⟨_,rfl⟩
 obtain ⟨xc,UJ⟩:∃ xc:List Value,xc=[.int .i64 t.nodes,.int .i64 t.cG,.int .i64 t.ay,.int .i64 t.top,.int .i64 t.links,.int .i64 t.size,.int .i64 t.u6,.int .i64 t.u7,.int .i64 t.u8,.int .i64 t.u9,.int .i64 t.u10,.int .i64 t.u11,.int .i64 t.u12,P0 m,.slice none 0 0,.slice none 0 0,.pointer none,.slice none 0 0,.slice (some ⟨G19.nx+2,0,none⟩) 2 2,.pointer none,.slice (some ⟨G19.nx+3,0,none⟩) 4 4,.slice none 0 0,.slice none 0 0,.slice (some ⟨G19.nx+4,0,none⟩) 4 4,.int .i64 0]:=⟨_,rfl⟩
 obtain ⟨Gz,yl⟩:∃ Gz,Gz=((Gc.aS (G19.nx+6)).push ⟨xc,1,false,1⟩).back Gc:=⟨_,rfl⟩
 have na:Ga.nx=G19.nx+8:=by rw [GF]; rfl
 have nb:Gb.nx=G19.nx+8:=by rw [Dc]; exact na
 have nc:Gc.nx=G19.nx+8:=by rw [Av]; exact nb
 have nz:Gz.nx=G19.nx+8:=by rw [yl]; exact nc
 have xa:Ext G19 Ga:=by rw [GF]; exact Ext.drawn ((Ext.refl G19).room 8) (by omega) (by simp) _
 have LQ:Ext G19 Gb:=by rw [Dc]; exact Ext.drawn xa (by omega) (by omega) _
 have xc':Ext G19 Gc:=by rw [Av]; exact Ext.drawn LQ (by omega) (by omega) _
 have xz:Ext G19 Gz:=by rw [yl]; exact Ext.drawn xc' (by omega) (by omega) _
 have q2:Gz.obj (G19.nx+2)=some ⟨[.pointer none,.pointer none],1,false,1⟩:=by rw [yl,Av,Dc,GF]; simp
 have q3':Gz.obj (G19.nx+3)=some ⟨[.slice none 0 0,.slice none 0 0,.slice none 0 0,.slice none 0 0],1,false,1⟩:=by rw [yl,Av,Dc]; simp
 have q4:Gz.obj (G19.nx+4)=some ⟨[.int .i64 (-1),.int .i64 (-1),.int .i64 (-1),.int .i64 (-1)],1,false,1⟩:=by rw [yl,Av]; simp
 have q6:Gz.obj (G19.nx+6)=some ⟨xc,1,false,1⟩:=by rw [yl]; simp
 obtain ⟨et,Dd⟩:∃ et:Nat→Nat,et=fun g=>if g<G19.nx then cQ g else if g=G19.nx+2 then 2 else if g=G19.nx+3 then 3 else if g=G19.nx+4 then 4 else if g=G19.nx+6 then 1 else 13:=⟨_,rfl⟩
 have Mg:bf cQ et G19:=fun g hg=>by rw [Dd]; exact if_pos hg
 have tg2:et (G19.nx+2)=2:=by rw [Dd]; simp only; rw [if_neg (by omega),if_pos trivial]
 have tg3:et (G19.nx+3)=3:=by rw [Dd]; simp only; rw [if_neg (by omega),if_neg (by omega),if_pos trivial]
 have tg4:et (G19.nx+4)=4:=by rw [Dd]; simp only; rw [if_neg (by omega),if_neg (by omega),if_neg (by omega),if_pos trivial]
 have tg6:et (G19.nx+6)=1:=by rw [Dd]; simp only; rw [if_neg (by omega),if_neg (by omega),if_neg (by omega),if_neg (by omega),if_pos trivial]
 obtain ⟨B,hB⟩:∃ B:dz,B=⟨m,G19.nx+6,G19.nx+2,G19.nx+3,G19.nx+4,.slice none 0 0,.slice none 0 0,.slice none 0 0,.slice none 0 0,.slice none 0 0,fun _=>false,fun _=>0,fun _=>.slice none 0 0⟩:=⟨_,rfl⟩
 obtain ⟨s,hs⟩:∃ s,s=qh t (.zero (qj n 4 Hh).toNat):=⟨_,rfl⟩
 have hC:bW et Gz t (Cm.start t s) ⟨[],[],[],0⟩ B:=by
  have no:∀ c,¬ 0≤(Cm.start t s).o c:=fun c q=>by
   have:(0:Int)≤ -1:=q
   omega
  rw [hB]
  refine ⟨⟨by show G19.nx+6<_; omega,tg6,by show Gz.obj (G19.nx+6)=_; rw [q6,UJ]; rfl⟩,⟨by show G19.nx+2<_; omega,tg2,q2⟩,⟨by show G19.nx+3<_; omega,tg3,q3'⟩,⟨by show G19.nx+4<_; omega,tg4,q4⟩,?_,dC.nil _ _ _ _,dC.nil _ _ _ _,⟨[],rfl,dC.nil _ _ _ _⟩,dC.nil _ _ _ _,dC.nil _ _ _ _,fun c _=>dC.nil _ _ _ _,fun q=>absurd q (no 0),fun q=>absurd q (no 1),fun q=>absurd q (no 2),fun q=>absurd q (no 3)⟩
  show PM et Gz m s
  rw [hs]
  exact q3.pm.g8 (ts:=[]) (aE.ext xz) (by simp) Mg
 have hBg:L3 t (qj n 4 Hh).toNat n Hh NS A 0 et Gz s ⟨[],[],[],0⟩ B (.none t s) (G19.nx+6) m:=by
  refine ⟨hC,by rw [hs]; exact aeC L _ _,rfl,rfl,rfl,(x1.trans x6).trans (x19.trans xz),fun q hq=>?_,by rw [hB],by rw [hB]⟩
  have:=x1.nx
  rw [Mg q (by omega)]
  exact UI q (by omega)
 have tb:G1.nx<Gz.nx∧et G1.nx=20∧Gz.obj G1.nx=some ⟨t.cells,1,false,1⟩:=⟨by omega,by rw [Mg _ (by omega)]; exact UI _ (by omega),(xz.obj _ (by omega)).trans o19⟩
 refine Wp.ref (f6 (aq Q ae) _ _ _ A) ?_
 simp [s6,e1,hz,ch,cg,gA]
 simp [← cu,e8,el8,e19,aeX,aeU,aeV,rep,Gr,LZ,ch,cg,gA,← GF,← Dc,← Av,← UJ,← yl]
 refine Wp.bE ((aeM (tb:=G1.nx) (m:=m) (xb:=G19.nx+6) ae aZ dZ L hn (by rw [ht]; rfl) hH (by rw [ht]; rfl) hv n.toNat 0 _ et Gz s _ B _ (by omega) hBg tb ?_ ?_ ?_ ?_ ?_ ?_ ?_).mono ?_)
 all_goals try (simp; done)
 rintro ⟨e,τ,G'⟩ ⟨h1,h2,h3⟩
 simp only at h1 h2 h3
 subst h1
 simp [h2]
 exact h3
end
set_option maxRecDepth 20000
section
variable {own own' ah own0:Nat→Nat} {G G' G1 G10 G0 A:GS} {b m c xb:Nat} {v v1 v2 v3 xv:Value} {n Hh:Int} {LS NS:List Int} {t:TW}
theorem aeY (hs:t.sound):0≤az t 0 0:=by
 have h:=hs
 unfold TW.sound at h
 unfold az
 rw [if_pos hs,if_neg (by decide),if_pos (by omega)]
 omega
theorem aeZ (n:Int) (NS:List Int) (k:Nat) {i:Nat} (h:i<k):(kL n NS k)[i]? =some (mP n NS i):=by
 unfold kL
 rw [List.getElem?_map,List.getElem?_range h]; rfl
theorem ae0 (n:Int) (NS:List Int) (k:Nat) {i:Nat} (h:i<k):(sO n NS k)[i]? =some (qk n NS i):=by
 unfold sO
 rw [List.getElem?_map,List.getElem?_range h]; rfl
theorem ae1 (ae:FuncId→Bool) (aZ:ae 107=false) (iv:ae 101=false) (dZ:ae 120=false) (hn:1≤n∧n≤6) (hH:1≤Hh∧Hh≤4) (h3:bT (bh .i64) A v3 LS) (Gw:LS.length≤400) (hB:Da (qi n 4 Hh 9) (qj n 4 Hh).toNat n Hh NS A n.toNat xb G) :
  Wp ((E ae).cl 8 [P0 xb,v3] G) fun q=>q.1= .bool true∧∃ k,uD (qi n 4 Hh 9) (qj n 4 Hh).toNat (mP n NS) (qk Hh NS) k xb 0 q.2:=by
 obtain ⟨own,s,w,B,g,m,I⟩:=hB
 have L:=Uy (n:=n) (cr:=4) (H:=Hh) (lim:=9) (by omega) (by omega) hH (by omega)
 have cm:(qi n 4 Hh 9).size=n:=rfl
 have hC:=I.l.start (by rw [cm]; omega)
 have e1:w.KS.length=n.toNat:=by rw [I.ks]; simp [kL]
 have e2:w.HS.length=n.toNat:=by rw [I.hs]; simp [sO]
 have W:qg (qi n 4 Hh 9) (mP n NS) (qk Hh NS) (Cm.start (qi n 4 Hh 9) s) w 0:=by
  refine ⟨by rw [e1,cm]; omega,by rw [e2,cm]; omega,fun i hi=>?_,by rw [I.cs]; exact Nat.le_refl _,Nat.le_refl _,fun c _=>Nat.le_refl _,fun c _ q=>?_⟩
  ·rw [cm] at hi
   rw [I.ks,I.hs]
   exact ⟨aeZ n NS _ (by omega),ae0 Hh NS _ (by omega)⟩
  ·have:(0:Int)≤ -1:=q
   omega
 have hr:Ap (bh .i64) own 20 G v3 LS:=⟨h3.ext I.x,fun g ⟨a',n',c',he,hb⟩=>by rw [← hb]; exact I.own _ (h3.lt _ _ _ he)⟩
 have:=aeb ae aZ iv dZ L (aeY L.snd) (by rw [cm]; omega) Gw ⟨hC,W,I.h⟩ hr
 rw [I.xb] at this
 exact this
theorem claimMoment (ae:FuncId→Bool) (hrk:ae 5=true) (aZ:ae 107=false) (iv:ae 101=false) (dZ:ae 120=false) (v2 v3:Value) (NS LS:List Int) (n h:Int) (G:GS) (h2:bT (bh .i64) G v2 NS) (h3:bT (bh .i64) G v3 LS) :
  Wp ((E ae).cl 3 [.int .i64 n,.int .i64 h,v2,v3] G) fun q=>q.1= .bool true:=by
 have rk:∀ G,(E ae).cl 5 [] G=some (.bool true,G):=fun G=>Ys Q ae hrk G
 refine Wp.ref (f3 (aq Q ae) _ _ _ _ G) ?_
 have Bj:∀ t,ln Q true t v3=some (.int .i64 LS.length):=fun t=>by obtain ⟨a,c,rfl⟩:=h3.len; simp
 by_cases b1:400<LS.length
 ·have Mh:(400:Int)<LS.length:=by omega
  simp [s3,rk,Bj,Mh]
 have Mh:¬ (400:Int)<LS.length:=by omega
 have p0:=Int.emod_nonneg n (show (6:Int)≠0 by decide)
 have p1:=Int.emod_lt_of_pos n (show (0:Int)<6 by decide)
 have p2:=Int.emod_nonneg h (show (4:Int)≠0 by decide)
 have p3:=Int.emod_lt_of_pos h (show (0:Int)<4 by decide)
 have e6:∀ G,(E ae).cl 7 [.int .i64 n,.int .i64 6] G=some (.int .i64 (n % 6),G):=fun G=>Cl ae _ 6 (by decide) (by decide) G
 have e4:∀ G,(E ae).cl 7 [.int .i64 h,.int .i64 4] G=some (.int .i64 (h % 4),G):=fun G=>Cl ae _ 4 (by decide) (by decide) G
 have w1:IntKind.wrap .i64 (1+n % 6)=1+n % 6:=wrap64 (by omega) (by omega)
 have w2:IntKind.wrap .i64 (1+h % 4)=1+h % 4:=wrap64 (by omega) (by omega)
 obtain ⟨⟨r,G1⟩,e1,xb,q1,hB⟩:=aeW (n:=1+n % 6) (Hh:=1+h % 4) ae aZ dZ (by omega) (by omega) h2
 simp only at q1 hB
 subst q1
 obtain ⟨⟨r,G2⟩,e2,q2,-⟩:=ae1 ae aZ iv dZ (by omega) (by omega) h3 (by omega) hB
 simp only at q2
 subst q2
 simp [s3,rk,Bj,Mh,e6,e4,w1,w2,e1,e2]
end
end Go.Proofs.YtkhlabammcghbaaGreat.Lift
