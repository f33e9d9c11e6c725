import Derived.Test.YtphandknhnkhfaaGreatPJ
set_option linter.unusedVariables false
set_option linter.unusedSimpArgs false
set_option maxRecDepth 20000
namespace Go.Proofs.YtphandknhnkhfaaGreat.Lift
open Go Go.Proofs.YtphandknhnkhfaaGreat.Gh Go.Proofs
theorem ad4 (KS:List Int) {i:Int} (h0:0≤i) (h1:i<6):0≤kr KS i∧kr KS i<1000:=by
 unfold kr
 omega
theorem Tm (KS:List Int) {n j:Nat} (h:j<n):(iP KS n).getD j 0=kr KS j:=by
 rw [List.getD_eq_getElem?_getD,List.getElem?_eq_getElem (by rw [Fj]; exact h)]
 simp [iP]
theorem ad5 {KS:List Int} {n:Nat} (hn:n≤6) {L:List Int} (hL:1≤L.length) (hU:∀ i,i<L.length→L.getD i 0≤18446744073709551615) {wt:Option Nat}
  (h:((n:Int)=0∧wt=none)∨∃ i:Int,0≤i∧i<n∧(∀ j:Int,0≤j→j<n→kr KS i≤kr KS j)∧wt=jD L (kr KS i)) :
  (aN (iP KS n) n<L.getD (gM L).toNat 0∧wt=some (gM L).toNat)∨(¬ aN (iP KS n) n<L.getD (gM L).toNat 0∧wt=none):=by
 have gb:=tZ L L.length
 have ew:gM L=gr L L.length:=by unfold gM; rw [if_neg (by omega)]
 have g0:=gb.2.2 (by omega)
 rcases h with ⟨h0,rfl⟩ | ⟨i,i0,i1,Ky,rfl⟩
 ·have:n=0:=by omega
  subst this
  refine .inr ⟨?_,rfl⟩
  have:=hU (gM L).toNat (by rw [ew]; omega)
  unfold aN
  omega
 ·have e:aN (iP KS n) n=kr KS i:=by
   obtain ⟨k,rfl⟩:=Int.eq_ofNat_of_zero_le i0
   have l1:=Tj (iP KS n) n k (by omega)
   rw [Tm KS (by omega)] at l1
   rcases Tk (iP KS n) n with e | ⟨j,j1,e⟩
   ·have:=(ad4 KS i0 (by omega)).2
    omega
   ·rw [Tm KS j1] at e
    have:=Ky j (by omega) (by omega)
    omega
  rw [e,ew]
  unfold jD
  simp only
  by_cases q:kr KS i<L.getD (gr L L.length).toNat 0
  ·exact .inl ⟨q,by rw [if_neg (by omega)]⟩
  ·exact .inr ⟨q,by rw [if_pos (.inr (by omega))]⟩
theorem ad6 {t:TW} (hs:t.sound):0≤aB t 0 0:=by
 have h:=hs
 unfold TW.sound at h
 unfold aB
 rw [if_pos hs,if_neg (by decide),if_pos (by omega)]
 omega
def ku (cr H:Int):dU:=⟨jK cr H,jK cr H+cr,cr⟩
theorem runBalances (ae:FuncId→Bool) (hrk:ae 5=true) (bD:ae 187=false) (kU:ae 309=false) (eu:ae 211=false) (v0 v3:Value) (KS RS:List Int) (h2 c2 sF:Int) (G:GS) (h0:bI (bK .i64) G v0 KS) (h3:bI (bK .i64) G v3 RS) :
  Wp ((E ae).cl 3 [v0,.int .i64 h2,.int .i64 c2,v3,.int .i64 sF] G) fun q=>q.1= .bool true:=by
 have rk:∀ G,(E ae).cl 5 [] G=some (.bool true,G):=fun G=>Xi Q ae hrk G
 refine Wp.ref (f3 (ai Q ae) _ _ _ _ _ G) ?_
 have jQ:∀ t,ln Q true t v0=some (.int .i64 KS.length):=fun t=>by obtain ⟨a,c,rfl⟩:=h0.len; simp
 have qo:∀ t,ln Q true t v3=some (.int .i64 RS.length):=fun t=>by obtain ⟨a,c,rfl⟩:=h3.len; simp
 by_cases b1:6<KS.length
 ·have Fo:(6:Int)<KS.length:=by omega
  simp [s3,yY,rk,jQ,Fo]
 have Fo:¬ (6:Int)<KS.length:=by omega
 by_cases b2:5<RS.length
 ·have KE:(5:Int)<RS.length:=by omega
  simp [s3,yY,rk,jQ,Fo,qo,KE]
 have KE:¬ (5:Int)<RS.length:=by omega
 have p0:=Int.emod_nonneg c2 (show (5:Int)≠0 by decide)
 have p1:=Int.emod_lt_of_pos c2 (show (0:Int)<5 by decide)
 have p2:=Int.emod_nonneg h2 (show (3:Int)≠0 by decide)
 have p3:=Int.emod_lt_of_pos h2 (show (0:Int)<3 by decide)
 have e5:∀ G,(E ae).cl 6 [.int .i64 c2,.int .i64 5] G=some (.int .i64 (c2 % 5),G):=fun G=>zh ae _ 5 (by decide) (by decide) G
 have e3:∀ G,(E ae).cl 6 [.int .i64 h2,.int .i64 3] G=some (.int .i64 (h2 % 3),G):=fun G=>zh ae _ 3 (by decide) (by decide) G
 obtain ⟨cr,gm⟩:∃ cr,cr=1+c2 % 5:=⟨_,rfl⟩
 obtain ⟨H,hH⟩:∃ H,H=1+h2 % 3:=⟨_,rfl⟩
 have c15:1≤cr∧cr≤5:=by omega
 have H13:1≤H∧H≤3:=by omega
 have w1:IntKind.wrap .i64 (1+c2 % 5)=cr:=by rw [gm]; exact wrap64 (by omega) (by omega)
 have w2:IntKind.wrap .i64 (1+h2 % 3)=H:=by rw [hH]; exact wrap64 (by omega) (by omega)
 obtain ⟨G1,e6,x1⟩:=adL ae c15 H13 G
 have hn:jK cr H=20+cr+H+7*(4+H):=rfl
 have w3:IntKind.wrap .i64 (jK cr H+cr)=jK cr H+cr:=wrap64 (by omega) (by omega)
 have w4:IntKind.wrap .i64 (2*cr)=2*cr:=wrap64 (by omega) (by omega)
 have w5:IntKind.wrap .i64 (jK cr H+2*cr)=jK cr H+2*cr:=wrap64 (by omega) (by omega)
 obtain ⟨A,hA⟩:∃ A,A=(((G1.push ⟨z34,1,false,1⟩).put G1.nx ⟨(iE cr H).cells,1,false,1⟩).push ⟨z38,1,false,1⟩).put (G1.nx+1) ⟨[.int .i64 (jK cr H),.int .i64 (jK cr H+cr),.int .i64 cr],1,false,1⟩:=⟨_,rfl⟩
 have xA:Ext G1 A:=by rw [hA]; exact (((((Ext.refl G1).push _).put (by omega) _).push _).put (by omega) _)
 have nA:A.nx=G1.nx+2:=by rw [hA]; simp
 have oA:A.obj G1.nx=some ⟨(iE cr H).cells,1,false,1⟩:=by rw [hA]; simp
 have pA:A.obj (G1.nx+1)=some ⟨(ku cr H).cells,1,false,1⟩:=by rw [hA]; simp [ku]
 obtain ⟨m,G2,e7,x2,hm⟩:=(ju ae (jK cr H+2*cr) A).2 (by omega) (by omega)
 simp [s3,yY,rk,jQ,Fo,qo,KE,e5,w1,e3,w2,e6,w3,w4,w5,bQ,bO,eC,← hA,e7]
 have L:=adK c15 H13
 have ko:0≤aB (iE cr H) 0 0:=ad6 L.snd
 have Cp:(ku cr H).qR:=by
  unfold ku
  refine ⟨c15.1,?_,?_,?_,?_,?_⟩<;>simp only<;>omega
 obtain ⟨aG,rD⟩:∃ aG:Nat→Nat,aG=fun x=>if x<A.nx then 20 else 10:=⟨_,rfl⟩
 have Co:∀ x,x<A.nx→aG x=20:=fun x hx=>by rw [rD]; simp only; rw [if_pos hx]
 have wo:PM aG G2 m (MS.zero (jK cr H+2*cr).toNat):=hm.mono (fun x hx=>⟨hx.2,by rw [rD]; simp only; rw [if_neg (by omega)]⟩) Tag.under
 have o2:=(x2.obj G1.nx (by omega)).trans oA
 obtain ⟨bB,G3,e8,q3⟩:=abN ae bD L.snd (L.ar:(iE cr H).A.ok) L.u11 wo
 have x3:Ext A G3:=q3.aO.vr x2 fun g hg=>⟨by rw [Co g hg]; decide,id⟩
 have zU:∀ x,x<A.nx→bB x=20:=fun x hx=>(q3.aO.same (Nat.lt_of_lt_of_le hx x2.nx)).trans (Co x hx)
 have o3:=(x3.obj (G1.nx+1) (by omega)).trans pA
 obtain ⟨eU,G4,e9,q4⟩:=adn ae Cp q3.pm
 have x4:Ext A G4:=q4.aO.vr x3 fun g hg=>⟨by rw [zU g hg]; decide,id⟩
 have hB4:∀ x,x<A.nx→eU x=20:=fun x hx=>(q4.aO.same (Nat.lt_of_lt_of_le hx x3.nx)).trans (zU x hx)
 have hE:(iE cr H).nodes+(iE cr H).size*(4+(iE cr H).ay)≤(ku cr H).runs:=Int.le_refl _
 have hE2:(iE cr H).nodes+(iE cr H).size*(4+(iE cr H).ay)≤(ku cr H).flags:=by simp only [iE,ku]; omega
 have S4:=(adE L (kr KS) (fun i=>i)).runs L (ku cr H) hE hE2 (ku cr H).bc.toNat 0
 have yG:Ext G A:=x1.trans xA
 have el2:np 13 0 (G2.obj G1.nx)=some (iE cr H).v:=by rw [o2]; simp
 have el3:np 3 0 (G3.obj (G1.nx+1))=some (ku cr H).v:=by rw [o3]; simp
 simp [el2,e8,el3,e9]
 refine Wp.bE ((adN ae bD kU eu L ko rfl rfl H13.2 (A:=A) (H:=H) (tb:=G1.nx) (xb:=G1.nx+1) (v3:=v3) (v4:=.int .i64 sF) (z11:=.bool true) (cr:=cr) (h0.ext yG) (by omega) (by omega) oA KS.length 0 _ eU G4 _ _ (.slice none 0 0) (by omega) x4 hB4 q4.pm (dV.nil _ _ _) S4 ?_ ?_ ?_ ?_ ?_ ?_ ?_ ?_ ?_ ?_ ?_).mono ?_)
 all_goals try (simp; done)
 rintro ⟨e,τ,G5⟩ ⟨rfl,⟨t1,t2,t3,t4,t11,t12,t14,t15⟩,x5,jb,s5,g5,hB5,h5,Tn,S5⟩
 simp only at t1 t2 t3 t4 t11 t12 t14 t15 x5 h5 Tn
 simp
 have KF:(ku cr H).bc=cr:=rfl
 refine Wp.bE ((adS ae L c15 KF hE (by simp only [ku]; omega) (A:=A) (tb:=G1.nx) (xb:=G1.nx+1) (H:=H) (v3:=v3) (v4:=.int .i64 sF) (z11:=.bool true) (RS:=RS) (KS:=KS) (h3.ext yG) (by omega) (by omega) pA cr.toNat 0 _ jb G5 s5 g5 (τ 17) (.slice none 0 0) (by omega) ⟨x5,hB5,h5,Tn,dV.nil _ _ _,S5,rfl⟩ ⟨?_,?_,?_,?_,?_,?_,?_,?_,?_⟩ ?_ ?_ ?_).mono ?_)
 all_goals try (simp [t1,t2,t3,t4,t11,t12,t14,t15,dz,gM]; done)
 rintro ⟨e,τ2,G6⟩ ⟨he,u20,zp,s6,g6,u6,v6,⟨u1,u2,u4,u11,u12,u14,u15,u17,u21⟩,I6⟩
 simp only at he u20 u1 u2 u4 u11 u12 u14 u15 u17 u21 I6
 subst he
 obtain ⟨x6,hB6,h6,To,l6,S6,ad7⟩:=I6
 obtain ⟨wv,G7,e10,x7,Cq⟩:∃ v G',(E ae).cl 13 [P0 m] G6=some (v,G')∧Ext G6 G' ∧cj (bK .u64) G6.nx G' v s6.W:=by
  obtain ⟨bb,rest,hm⟩:=h6
  exact Qw ae hm
 have p4:=Int.emod_nonneg sF (show cr≠0 by omega)
 have p5:=Int.emod_lt_of_pos sF (show (0:Int)<cr by omega)
 have ew:∀ G,(E ae).cl 6 [.int .i64 sF,.int .i64 cr] G=some (.int .i64 (sF % cr),G):=fun G=>zh ae _ cr (by omega) (by omega) G
 have x67:=x6.trans x7
 have o7:=(x67.obj G1.nx (by omega)).trans oA
 have q7:=(x67.obj (G1.nx+1) (by omega)).trans pA
 have el7:eI 13 G1.nx 0 G7=some (iE cr H).v:=by simp [o7]
 have em7:eI 3 (G1.nx+1) 0 G7=some (ku cr H).v:=by simp [q7]
 have hc:0≤sF % cr∧sF % cr<(iE cr H).u11:=⟨p4,p5⟩
 obtain ⟨b,G8,e11,x8,⟨b1,b2⟩,hP⟩:=adk (t:=iE cr H) (w:=ku cr H) ae L.snd ko Cp (sF % cr) (G7.room 7)
 rw [if_pos hc] at hP
 simp [-iw,u1,u2,u4,u11,u12,u14,u15,u17,u20,u21,e10,el7,em7,ew,e11]
 have r7:G7.nx≤(G7.room 7).nx:=((Ext.refl G7).room 7).nx
 have n67:=x7.nx
 have n78:=x8.nx
 have x78:Ext G7 G8:=((Ext.refl G7).room 7).trans x8
 have x68:Ext G6 G8:=x7.trans x78
 obtain ⟨lM,Fp⟩:∃ lM:Nat→Nat,lM=fun x=>if x<G6.nx then zp x else if x<G7.nx then 23 else if x=b then 31 else 32:=⟨_,rfl⟩
 have Fq:bW zp lM G6:=fun x hx=>by rw [Fp]; simp only; rw [if_pos hx]
 have hp8:=hP lM 31 32 33 (by decide) (by decide) (by rw [Fp]; simp only; rw [if_neg (by omega),if_neg (by omega),if_pos trivial]) (fun g g1 g2 g3=>by rw [Fp]; simp only; rw [if_neg (by omega),if_neg (by omega),if_neg g3])
 have h8:PM lM G8 m s6:=h6.qI (ts:=[]) (nq.ext x68) (by simp) Fq
 have Tp:∀ x,x<A.nx→lM x=20:=fun x hx=>(Fq x (Nat.lt_of_lt_of_le hx x6.nx)).trans (hB6 x hx)
 have t23:∀ g,G6.nx≤g→g<G7.nx→lM g=23:=fun g g1 g2=>by rw [Fp]; simp only; rw [if_neg (by omega),if_pos g2]
 obtain ⟨wt,ad8,AP⟩:=adH L Cp hc (by simp only [ku]; omega) S6
 rw [KF,ad7] at AP
 refine Wp.bE ((adZ ae bD L hc Cp c15 H13 (own0:=lM) (G0:=G8) _ 0 _ lM G8 s6 _ (by rw [KF]; omega) (by simp [bg.new]) ad8 (bg.ju L.snd Cp) (bg.adi _) S6.sm.ok (PW.refl h8) hp8 ?_ ?_ ?_ ?_ ?_).mono ?_)
 all_goals try (simp [u1,u2,u15]; done)
 rintro ⟨e,τ3,G9⟩ ⟨he,⟨z11,z14,z17,z20,z21,z24,z15,z25⟩,xS,s9,x9,q9,p9,l9,bq⟩
 simp only at he z11 z14 z17 z20 z21 z24 z15 z25 q9 p9
 subst he
 simp at z11 z14 z17 z20 z21 z24
 rw [u11] at z11; rw [u14] at z14; rw [u17] at z17; rw [u20] at z20; rw [u21] at z21
 have KG:=q9.aO.cd
 have KH:∀ {g:Nat},g<G8.nx→lM g≠10→lM g≠31→lM g≠32→lM g≠33→G9.obj g=G8.obj g:=fun hg k1 k2 k3 k4=>q9.keep hg k1 (by unfold p8; omega)
 have x9':Ext A G9:=q9.aO.vr (x67.trans x78) fun g hg=>⟨by rw [Tp g hg]; decide,by unfold p8; rw [Tp g hg]; decide⟩
 have KI:dV lM 21 G8 u6 (iP KS KS.length):=To.to x68.nx (fun g hg=>x68.obj g (To.lt hg)) Fq
 have ad9:dV xS 21 G9 u6 (iP KS KS.length):=KI.to q9.nx (fun g hg=>by have:=KI.tag g hg; exact KH (KI.lt hg) (by omega) (by omega) (by omega) (by omega)) KG
 have l8:dV lM 22 G8 v6 (dz RS cr.toNat):=l6.to x68.nx (fun g hg=>x68.obj g (l6.lt hg)) Fq
 have l9':dV xS 22 G9 v6 (dz RS cr.toNat):=l8.to q9.nx (fun g hg=>by have:=l8.tag g hg; exact KH (l8.lt hg) (by omega) (by omega) (by omega) (by omega)) KG
 have ow8:cj (bK .u64) G6.nx G8 wv s6.W:=Cq.ext x78
 have Tq:cj (bK .u64) G6.nx G9 wv s6.W:=ow8.kept q9.nx fun g hg=>by
  have k1:=Cq.from hg
  have k2:=Cq.is.under g hg
  have:=t23 g k1 k2
  exact KH (by omega) (by omega) (by omega) (by omega) (by omega)
 have rm:Ext G9 (G9.room 7):=(Ext.refl G9).room 7
 have el:=adY ae (ad9.ow.is.ext rm) (by rw [Fj]; omega)
 rw [Fj] at el
 have wl:=xR RS cr.toNat
 have gb:=tZ (dz RS cr.toNat) (dz RS cr.toNat).length
 have apX:gM (dz RS cr.toNat)=gr (dz RS cr.toNat) (dz RS cr.toNat).length:=by unfold gM; rw [if_neg (by omega)]
 obtain ⟨wn,qb⟩:∃ wn:Nat,gM (dz RS cr.toNat)=wn:=⟨(gM (dz RS cr.toNat)).toNat,by have:=gb.2.2 (by omega); omega⟩
 have Ts:wn<(dz RS cr.toNat).length:=by omega
 have apY:wn<cr.toNat:=by omega
 have apZ:(wn:Int)<cr:=by omega
 have Tt:(0:Int)≤wn:=by omega
 obtain ⟨bb,oo,cc,e0,Fk,qq0,-⟩:=(l9'.ow.is.ext rm).at Ts
 have c0:=qq0 0 (by decide)
 simp [-iv,bK] at c0
 obtain ⟨ck,AH⟩:∃ ck:Nat,cr.toNat=ck:=⟨_,rfl⟩
 rw [wl,AH] at e0
 have Tv:wn<ck:=by omega
 have Tw:(wn:Int)<(ck:Int):=by omega
 obtain ⟨y,hy⟩:∃ y,y=(dz RS cr.toNat)[wn]:=⟨_,rfl⟩
 rw [← hy] at c0
 have hyd:(dz RS cr.toNat).getD (gM (dz RS cr.toNat)).toNat 0=y:=by
  rw [qb,Int.toNat_natCast,List.getD_eq_getElem?_getD,List.getElem?_eq_getElem Ts,Option.getD_some,hy]
 have FL:=ad5 (KS:=KS) (n:=KS.length) (by omega) (L:=dz RS cr.toNat) (by omega) (fun i hi=>by
  rw [List.getD_eq_getElem?_getD,List.getElem?_eq_getElem hi,Option.getD_some]
  have:=(Td RS i).2
  have e:(dz RS cr.toNat)[i]=iF RS i:=by simp [dz]
  rw [e]; omega) AP
 rw [hyd] at FL
 rw [qb] at z20 FL
 rw [Int.toNat_natCast] at FL
 have pA9:=(x9'.obj (G1.nx+1) (by omega)).trans pA
 obtain ⟨hlen,Tx⟩:s9.W.length=s6.W.length∧_:=bq.2
 have Ty:=bq.1
 have KJ:=S6.sm.len
 rcases FL with ⟨aJ,rfl⟩ | ⟨aJ,rfl⟩
 ·obtain ⟨hf,KK⟩:=Tx
  have cx:G9.cell (G1.nx+1) 1=some (.int .i64 (jK cr H+cr)):=by simp [pA9,ku]
  obtain ⟨fi,hfi⟩:∃ fi:Nat,jK cr H+cr+wn=fi:=⟨(jK cr H+cr+wn).toNat,by omega⟩
  have wf:IntKind.wrap .i64 (jK cr H+cr+wn)=fi:=by rw [hfi]; exact wrap64 (by omega) (by omega)
  have fG:fi<s6.W.length:=by rw [KJ]; omega
  have aea:(fi:Int)<s6.W.length:=by omega
  have fi0:(0:Int)≤fi:=by omega
  obtain ⟨sb,Tz,es,sb1,sb2,est,sls⟩:=ad1 (Tq.ext rm) fG 1
  have KL:s9.W=s6.W.set fi 1:=ad3 hlen fG fun b=>by
   rw [KK]
   have:(ku cr H).flags+(wn:Int)=(fi:Int):=by simp only [ku]; omega
   rw [this]
  simp [-Int.natCast_add,-iv,-BI,z17,z20,z21,z14,z24,el,e0,Tt,Tv,Tw,c0,aJ,cx,wf,es,fG,aea,fi0,est]
  have TA:cY wv sb:=⟨_,_,_,es,rfl⟩
  have k1:=Cq.from TA
  have k2:=Cq.is.under sb TA
  have t8:=t23 sb k1 k2
  have t9:xS sb=23:=(KG sb (by omega)).trans t8
  have hs9:sb<G9.nx:=Nat.lt_of_lt_of_le (by omega) q9.nx
  have h10:=q9.pm.ext rm
  have p10:=p9.to (own':=grown xS G9 13) rm.nx (fun g hg _=>rm.obj g hg) db
  have t10:grown xS G9 13 sb=23:=(db sb hs9).trans t9
  have h11:=h10.put (b:=sb) (fun _=>by rw [t10]; decide) ⟨(bK .u64).flat (s6.W.set fi 1),1,Tz,1⟩
  have p11:=p10.to (G':=(G9.room 7).put sb ⟨(bK .u64).flat (s6.W.set fi 1),1,Tz,1⟩) (own':=grown xS G9 13) (by simp) (fun g hg k=>by rw [aT,if_neg]; rintro rfl; omega) (bW.refl _ _)
  rw [← es]
  refine Tl ae h11 ?_ p11 l9 Ty (by rw [KL]; exact sls) ?_ ?_ ?_ ?_ ?_
  ·rw [hlen,KJ]; exact L.le
  ·simp [ao,z11]
  ·simp [ao,z15]
  ·simp [ao,z24]
  ·simp [ao,z25]
  ·simp [ao,hf]
 ·obtain ⟨hf,KK⟩:=Tx
  have KL:s9.W=s6.W:=ad2 hlen KK
  have h10:=q9.pm.ext rm
  have p10:=p9.to (own':=grown xS G9 13) rm.nx (fun g hg _=>rm.obj g hg) db
  simp [-Int.natCast_add,-iv,-BI,z17,z20,z21,z14,z24,el,e0,Tt,Tv,Tw,c0,aJ]
  refine Tl ae h10 ?_ p10 l9 Ty (by rw [KL]; exact (Tq.ext rm).is) ?_ ?_ ?_ ?_ ?_
  ·rw [hlen,KJ]; exact L.le
  ·simp [ao,z11]
  ·simp [ao,z15]
  ·simp [ao,z24]
  ·simp [ao,z25]
  ·simp [ao,hf]
end Go.Proofs.YtphandknhnkhfaaGreat.Lift
