import Derived.Test.YtphandknhnkhfaaGreatPF
import Derived.Test.YtphandknhnkhfaaGreatPB
import Derived.Test.YtphandknhnkhfaaGreatPC
set_option linter.unusedVariables false
set_option linter.unusedSimpArgs false
set_option maxRecDepth 20000
namespace Go.Proofs.YtphandknhnkhfaaGreat.Lift
open Go Go.Proofs.YtphandknhnkhfaaGreat.Gh Go.Proofs
structure gD (G:GS) (v:Value) (L:List (Nat×Nat)):Prop where
 sl:bI dk G v L
 cap:(v= .slice none 0 0∧L=[])∨∃ b o ob,v= .slice (some ⟨b,o,none⟩) L.length L.length∧b<G.nx∧G.obj b=some ob∧ob.mode=1∧ob.esz=1
section
variable {own own' own0 ah aG:Nat→Nat} {tag tg th m r b lb pb wb xb q:Nat} {t:TW} {c p by_ er tries g key job hi:Int} {v:Value} {md:Bool} {G G' G1 G2:GS} {L:List (Nat×Nat)} {f:Nat×Nat}
theorem gD.kept (h:gD G v L) (hn:G.nx≤G'.nx) (hk:∀ g,cY v g→G'.obj g=G.obj g):gD G' v L:=by
 refine ⟨h.sl.kept hn hk,?_⟩
 rcases h.cap with h1 | ⟨b,o,ob,rfl,h2,h3,h4⟩
 ·exact .inl h1
 ·exact .inr ⟨b,o,ob,rfl,by omega,(hk b ⟨_,_,_,rfl,rfl⟩).trans h3,h4⟩
theorem gD.lt (h:gD G v L) {g':Nat} (hg:cY v g'):g' <G.nx:=h.sl.under g' hg
theorem gD.one (h:gD G v L) (hl:L.length≤10) {N:Nat} (hN:N<G.nx) (oN:G.obj N=some ⟨[.iface f.1 (P0 f.2)],1,false,1⟩) :
  ∃ v' G',oz 1 16 v (.slice (some ⟨N,0,none⟩) 1 1) G=some (v',G')∧gD G' v' (L++[f])∧(∀ g,cY v' g→g=G.nx)∧G'.nx=G.nx+1∧bG (cY v) G G':=by
 have hx:bI dk G (.slice (some ⟨N,0,none⟩) 1 1) [f]:=bI.block (e:=dk) (op:=false) (L:=[f]) (by rw [oN]; rfl) hN
 have qk:=vl hx.is
 have hfl:(dk.flat (L++[f])).length=L.length+1:=by rw [cT.qF]; simp
 have acn:=dk.IK [f]
 have new:∀ (GA:GS),GA.nx=G.nx→gD (GA.push ⟨dk.flat L++dk.flat [f],1,true,1⟩) (.slice (some ⟨G.nx,0,none⟩) (L.length+1) (L.length+1)) (L++[f]):=fun GA vy=>by
  have e1:dk.flat L++dk.flat [f]=dk.flat (L++[f]):=(cT.Ea ..).symm
  rw [e1]
  have su:L.length+1=(L++[f]).length:=by simp
  rw [su,← vy]
  exact ⟨bI.block (e:=dk) (op:=true) (L:=L++[f]) (by simp) (by simp),.inr ⟨_,_,_,rfl,by simp,by simp; rfl,rfl,rfl⟩⟩
 simp only [List.length_singleton,abU] at qk
 unfold oz
 rw [if_neg (by decide)]
 simp only [qk,acn,Bool.not_true,Bool.false_eq_true,if_false]
 rcases h.cap with ⟨rfl,rfl⟩ | ⟨b,o,ob,rfl,h2,h3,h4,h5⟩
 ·simp only [if_neg (show ¬ (1=0) by decide)]
  rw [if_pos (by decide)]
  refine ⟨_,_,rfl,?_,?_,by simp,(bG.refl _ G).push _⟩
  ·have:=new G rfl
   simpa [cT.flat] using this
  ·rintro g ⟨a,n,c,he,rfl⟩; cases he; rfl
 ·have hr:fE G b o (L.length*1)=some (dk.flat L):=by
   have:=vl h.sl.is
   exact this
  simp only [if_neg (show ¬ (1=0) by decide),h3]
  rw [if_neg (by omega)]
  simp only [hr]
  rw [if_pos (by omega)]
  by_cases fc:(ob.opn&&decide (o+L.length*ob.esz=ob.cells.length))=true
  ·rw [if_pos fc]
   have hmo:(decide (ob.mode=1)&&decide (ob.esz=1))=true:=by simp [h4,h5]
   rw [if_pos hmo]
   refine ⟨_,_,rfl,new (G.put b { ob with mode:=2 }) rfl,?_,by simp,((bG.refl _ G).put (.inl ⟨_,_,_,rfl,rfl⟩) _).push _⟩
   ·rintro g ⟨a,n,c,he,rfl⟩; cases he; rfl
  ·rw [if_neg fc]
   refine ⟨_,_,rfl,new G rfl,?_,by simp,(bG.refl _ G).push _⟩
   rintro g ⟨a,n,c,he,rfl⟩; cases he; rfl
end
section
variable {own own' own0 ah aG:Nat→Nat} {tag tg th m r b lb pb wb xb q sb:Nat} {t:TW} {c p by_ er tries g key job hi ref:Int} {v:Value} {md:Bool} {G G' G1 G2:GS} {L:List (Nat×Nat)} {f:Nat×Nat} {R:List Value}
theorem aco (ae:FuncId→Bool) (lb:Nat) (G:GS):(E ae).cl 156 [P0 lb] G=some (.iface 296 (P0 (G.nx+1)),(G.push ⟨[P0 lb],1,false,1⟩).push (bH (bu 178 G.nx) (gC 180) .nilFunc (.pointer none) false)):=by
 have hz:z303=[.nilFunc,.nilFunc,.nilFunc,.pointer none,.bool false]:=rfl
 refine f156 (ai Q ae) _ G _ ?_
 simp [s156,hz,bQ,bO,eC]
theorem acp (ae:FuncId→Bool) (lb:Nat) (G:GS):(E ae).cl 157 [P0 lb] G=some (.iface 304 (P0 (G.nx+1)),(G.push ⟨[P0 lb],1,false,1⟩).push (bH (bu 181 G.nx) (gC 183) .nilFunc (.pointer none) false)):=by
 have hz:z311=[.nilFunc,.nilFunc,.nilFunc,.pointer none,.bool false]:=rfl
 refine f157 (ai Q ae) _ G _ ?_
 simp [s157,hz,bQ,bO,eC]
theorem acq (ae:FuncId→Bool) (lb:Nat) (G:GS):(E ae).cl 78 [P0 lb] G=some (.iface 196 (P0 (G.nx+1)),(G.push ⟨[P0 lb],1,false,1⟩).push (bH (bu 115 G.nx) .nilFunc (cu 117 lb) (.pointer none) false)):=by
 have hz:z203=[.nilFunc,.nilFunc,.nilFunc,.pointer none,.bool false]:=rfl
 refine f78 (ai Q ae) _ G _ ?_
 simp [s78,hz,bQ,bO,eC]
structure GvR (G:GS) (lb:Nat) (t:TW) (c p by_ er:Int) (R:List Value) (v:Value) (L:List (Nat×Nat)) (ty:Nat) (pB:Nat→aR) (v':Value) (G':GS):Prop where
 ap:gD G' v' (L++[(ty,G.nx+15)])
 ob:G'.obj lb=some (bN t c p v' by_ er R)
 nx:G'.nx=G.nx+17
 md:bG (fun g=>g=lb∨cY v g) G G'
 o1:G'.obj (G.nx+14)=some ⟨[P0 lb],1,false,1⟩
 o2:G'.obj (G.nx+15)=some (pB (G.nx+14))
 dM:∀ g,cY v' g→g=G.nx+16
theorem JY (ae:FuncId→Bool) {F:FuncId} {ty:Nat} {pB:Nat→aR} (iT:∀ G:GS,(E ae).cl F [P0 lb] G=some (.iface ty (P0 (G.nx+1)),(G.push ⟨[P0 lb],1,false,1⟩).push (pB G.nx)))
  {k:Nat} (hk:k<3) {fs:List Value} (B9:fs[k]? =some (cu F lb))
  (ox:G.obj xb=some ⟨[P0 lb],1,false,1⟩) (os:G.obj sb=some ⟨fs,1,false,1⟩) (ol:G.obj lb=some (bN t c p v by_ er (eL key job hi tries ref))) (ha:gD G v L) (hl:L.length≤10) (lx:xb<G.nx) (ls:sb<G.nx) (ll:lb<G.nx) (nv1:¬ cY v lb) (nv2:¬ cY v xb) (nv3:¬ cY v sb) :
  ∃ v' G',GvR G lb t c p by_ er (eL key job hi tries ref) v L ty pB v' G' ∧∀ τ:Env,τ 2=P0 xb→τ 5= .int .i64 0→τ 27= .slice (some ⟨sb,0,none⟩) 3 3→τ 28= .int .i64 3→τ 29= .int .i64 k→∀ P:Exit×Env×GS→Prop,(∀ τ':Env,τ' 2=P0 xb→τ' 5= .int .i64 0→τ' 27= .slice (some ⟨sb,0,none⟩) 3 3→τ' 28= .int .i64 3→τ' 29= .int .i64 ((k+1:Nat):Int)→Wp ((bA Q ae).du 117 0 τ' G') P)→Wp ((bA Q ae).du 117 0 τ G) P:=by
 obtain ⟨N,hN⟩:∃ N,N=G.nx:=⟨_,rfl⟩
 obtain ⟨G1,aj⟩:∃ G1,G1=(((G.room 14).push ⟨[P0 lb],1,false,1⟩).push (pB (N+14))):=⟨_,rfl⟩
 have e1:(E ae).cl F [P0 lb] (G.room 14)=some (.iface ty (P0 (N+15)),G1):=by
  have:=iT (G.room 14)
  simp only [Xm] at this
  rw [this,aj,hN]
 have x1:Ext G G1:=by rw [aj]; exact (((Ext.refl G).room 14).push _).push _
 have n1:G1.nx=N+16:=by rw [aj,hN]; simp
 have o14:G1.obj (N+14)=some ⟨[P0 lb],1,false,1⟩:=by rw [aj,hN]; simp
 have o15:G1.obj (N+15)=some (pB (N+14)):=by rw [aj,hN]; simp
 have JZ:=(x1.obj xb lx).trans ox
 have g8:=(x1.obj lb ll).trans ol
 obtain ⟨G2,aD⟩:∃ G2,G2=((G1.aI (N+8)).push ⟨[.iface ty (P0 (N+15))],1,false,1⟩).back G1:=⟨_,rfl⟩
 have x2:Ext G G2:=by rw [aD]; exact Ext.drawn x1 (by omega) (by omega) _
 have n2:G2.nx=N+16:=by rw [aD]; simp [n1]
 have o8:G2.obj (N+8)=some ⟨[.iface ty (P0 (N+15))],1,false,1⟩:=by rw [aD]; simp
 have k2:∀ g,g≠N+8→G2.obj g=G1.obj g:=fun g hg=>by rw [aD]; simp [hg]
 have ha2:gD G2 v L:=ha.kept (by omega) fun g hg=>x2.obj g (ha.lt hg)
 obtain ⟨v',G3,e3,EK,RY,n3,m3⟩:=ha2.one (f:=(ty,N+15)) hl (N:=N+8) (by omega) o8
 have k3:∀ g,g<G2.nx→¬ cY v g→G3.obj g=G2.obj g:=m3.obj
 have RZ:∀ g,N≤g→¬ cY v g:=fun g hg hv=>by have:=ha.lt hv; omega
 have eV:=(x2.obj lb ll).trans ol
 have JE:=(x2.obj xb lx).trans ox
 have ft:=(k3 lb (by omega) nv1).trans eV
 have ug:=(k3 xb (by omega) nv2).trans JE
 obtain ⟨a1,c1,hv⟩:=ha.sl.len
 obtain ⟨a4,c4,rB⟩:=EK.sl.len
 refine ⟨v',G3.put lb (bN t c p v' by_ er (eL key job hi tries ref)),⟨?_,by simp,by simp [n3,n2,hN],?_,?_,?_,fun g hg=>?_⟩,fun τ t2 t5 t27 t28 t29 P hP=>?_⟩
 ·rw [← hN]
  exact EK.kept (by simp) fun g hg=>by rw [aT,if_neg]; have:=RY g hg; omega
 ·exact ((bG.pre x2 m3).mono fun g hg=>.inr hg).put (.inl (.inl rfl)) _
 ·rw [← hN,aT,if_neg (by omega),k3 _ (by omega) (RZ _ (by omega)),k2 _ (by omega)]; exact o14
 ·rw [← hN,aT,if_neg (by omega),k3 _ (by omega) (RZ _ (by omega)),k2 _ (by omega)]; exact o15
 ·have:=RY g hg; omega
 ·have sf:((k:Int)<3):=by omega
  have c3:IntKind.wrap .i64 ((k:Int)+1)=(k:Int)+1:=wrap64 (by omega) (by omega)
  have ecv:dO (E ae) (cu F lb) [] (G.room 14)=some (.iface ty (P0 (N+15)),G1):=by rw [jq]; exact e1
  have xu:z140=[.nilIface]:=rfl
  have hr:rep [Value.nilIface] 1=[.nilIface]:=rfl
  subst hv
  subst rB
  refine Wp.lp (P9 (ai Q ae)) ?_
  have smL:∀ (x:Option Addr) (n c:Nat),same (.slice x n c) (.slice x n c)=true:=fun x n c=>by simp [same,cm]
  simp [-jq,y6,← hN,ao,t2,t5,t27,t28,t29,sf,c3,os,B9,ox,ol,ecv,g8,JZ,br,smL,BZ,xu,hr,BJ,bQ,bO,← aD,e3,ug,ft]
  simp only [List.length_append,List.length_singleton] at hP
  refine hP _ ?_ ?_ ?_ ?_ ?_<;>simp [ao]
end
def jF (G:GS) (lb pb wb:Nat) (o:Nat→aR):Prop:=G.obj pb=some (o wb)∧G.obj wb=some ⟨[P0 lb],1,false,1⟩
abbrev J2 (w:Nat):aR:=bH (bu 178 w) (gC 180) .nilFunc (.pointer none) false
abbrev Ca (w:Nat):aR:=bH (bu 181 w) (gC 183) .nilFunc (.pointer none) false
abbrev uj (w:Nat):aR:=bH (bu 120 w) .nilFunc .nilFunc (.pointer none) false
abbrev uk:Nat:=296
abbrev qT:Nat:=304
abbrev oO:Nat:=213
abbrev sv:Nat:=187
abbrev oQ:Nat:=196
structure R0 (G:GS) (lb:Nat) (t:TW) (c p by_ er:Int) (R:List Value) (v:Value) (p1 w1 p2 w2 p3 w3:Nat) (v':Value) (G':GS):Prop where
 ob:G'.obj lb=some (bN t c p v' by_ er R)
 ap:gD G' v' [(uk,p1),(qT,p2),(oO,p3)]
 u1:jF G' lb p1 w1 J2
 u2:jF G' lb p2 w2 Ca
 u3:jF G' lb p3 w3 uj
 ge:G.nx≤w1∧w1<p1∧p1<w2∧w2<p2∧p2<w3∧w3<p3∧p3<G'.nx
 dM:∀ g,cY v' g→p3<g
 md:bG (fun g=>g=lb∨cY v g) G G'
section
variable {own own' own0 ah aG:Nat→Nat} {tag tg th m r b lb pb wb xb q sb:Nat} {t:TW} {c p by_ er tries g key job hi ref:Int} {v:Value} {md:Bool} {G G' G1 G2:GS} {L:List (Nat×Nat)} {f:Nat×Nat} {R:List Value} {A:Ar}
theorem acr (ae:FuncId→Bool) (hA:oD A G q r (.done g 0)) (ol:G.obj lb=some (bN t c p v by_ er (eL key job hi tries ref))) (ha:gD G v []) (ll:lb<G.nx) (lq:q<G.nx) (nv:¬ cY v lb) :
  ∃ p1 w1 p2 w2 p3 w3 v' G',(E ae).cl 117 [P0 lb,P0 q] G=some (.tuple #[],G')∧R0 G lb t c p by_ er (eL key job hi tries g) v p1 w1 p2 w2 p3 w3 v' G':=by
 obtain ⟨N,hN⟩:∃ N,N=G.nx:=⟨_,rfl⟩
 obtain ⟨G1,aj⟩:∃ G1,G1=G.push ⟨[P0 lb],1,false,1⟩:=⟨_,rfl⟩
 have x1:Ext G G1:=by rw [aj]; exact (Ext.refl G).push _
 have n1:G1.nx=N+1:=by rw [aj,hN]; rfl
 have JZ:G1.obj N=some ⟨[P0 lb],1,false,1⟩:=by rw [aj,hN]; simp
 have EM:oD A G1 q r (.done g 0):=by
  obtain ⟨i,h⟩:=hA
  exact ⟨i,(x1.obj q lq).trans h⟩
 obtain ⟨G3,e3,x3⟩:=aac ae EM
 have n3:=x3.nx
 have y3:=x1.trans x3
 have ug:=(x3.obj N (by omega)).trans JZ
 have ft:=(y3.obj lb ll).trans ol
 obtain ⟨G9,zz⟩:∃ G9,G9=G3.put lb (bN t c p v by_ er (eL key job hi tries g)):=⟨_,rfl⟩
 have CS:N≠lb:=by omega
 have R3:G9.obj N=some ⟨[P0 lb],1,false,1⟩:=by rw [zz,aT,if_neg CS]; exact ug
 have ol9:G9.obj lb=some (bN t c p v by_ er (eL key job hi tries g)):=by rw [zz]; simp
 have n9:G9.nx=G3.nx:=by rw [zz]; rfl
 have m9:bG (fun g=>g=lb∨cY v g) G G9:=by rw [zz]; exact (y3.rW _).put (.inl (.inl rfl)) _
 obtain ⟨sb,R4⟩:∃ sb,sb=G9.nx+8:=⟨_,rfl⟩
 obtain ⟨G16,EN⟩:∃ G16,G16=(((G9.room 10).aI (G9.nx+8)).push ⟨[cu 156 lb,cu 157 lb,cu 87 lb],1,false,1⟩).back (G9.room 10):=⟨_,rfl⟩
 have x16:Ext G9 G16:=by rw [EN]; exact Ext.drawn ((Ext.refl G9).room 10) (by omega) (by simp) _
 have n16:G16.nx=G9.nx+10:=by rw [EN]; simp
 have R5:G16.obj sb=some ⟨[cu 156 lb,cu 157 lb,cu 87 lb],1,false,1⟩:=by rw [EN,R4]; simp
 have R6:=(x16.obj N (by omega)).trans R3
 have acs:=(x16.obj lb (by omega)).trans ol9
 have m16:bG (fun g=>g=lb∨cY v g) G G16:=m9.trans (x16.rW _)
 have kv:∀ z,cY v z→G16.obj z=G.obj z:=fun z hz=>by
  have FN:=ha.lt hz
  have Gq:z≠lb:=fun e=>nv (by rw [← e]; exact hz)
  rw [x16.obj z (by omega),zz,aT,if_neg Gq]
  exact y3.obj z FN
 have acu:gD G16 v []:=ha.kept (by omega) kv
 have J3:∀ g,N≤g→¬ cY v g:=fun g hg hv=>by have:=ha.lt hv; omega
 have nfs:sb≠lb:=by omega
 have wL:Wp (s117 true (bA Q ae) (P0 lb) (P0 q) G) fun z=>z.1= .tuple #[]∧∃ p1 w1 p2 w2 p3 w3 v',R0 G lb t c p by_ er (eL key job hi tries g) v p1 w1 p2 w2 p3 w3 v' z.2:=by
  have hz:rep z141 3=[.nilFunc,.nilFunc,.nilFunc]:=rfl
  have ht1:(cG.done g 0).told.1=g:=rfl
  have GM:(cG.done g 0).told.2=0:=rfl
  have hgb:(((G9.room 10).aI (G9.nx+8)).push ⟨[cu 156 lb,cu 157 lb,cu 87 lb],1,false,1⟩).back (G9.room 10)=G16:=EN.symm
  simp [-jq,s117,← aj,← hN,e3,ug,ft,ht1,GM,← zz,R3,hz,bQ,bO,eC,hgb]
  refine Wp.bE ?_
  obtain ⟨va,Ga,ra,ka⟩:=JY ae (ty:=uk) (pB:=J2) (aco ae lb) (k:=0) (by decide) (fs:=[cu 156 lb,cu 157 lb,cu 87 lb]) rfl R6 R5 acs acu (by simp) (by omega) (by omega) (by omega) nv (J3 _ (by omega)) (J3 _ (by omega))
  refine ka _ (by simp) (by simp) (by simp [R4]) (by simp) (by simp) _ fun τ1 a2 a5 a27 a28 a29=>?_
  have na:=ra.nx
  have R7:∀ z,z<G16.nx→N≤z→Ga.obj z=G16.obj z:=fun z h1 h2=>ra.md.obj z h1 (fun k=>k.elim (fun e=>by omega) (J3 z h2))
  have EO:∀ z,z<G16.nx+16→¬ cY va z:=fun z hz hv=>by have:=ra.dM z hv; omega
  have R8:=(R7 N (by omega) (by omega)).trans R6
  have R9:=(R7 sb (by omega) (by omega)).trans R5
  obtain ⟨vb,Gb,rb,kb⟩:=JY ae (ty:=qT) (pB:=Ca) (acp ae lb) (k:=1) (by decide) (fs:=[cu 156 lb,cu 157 lb,cu 87 lb]) rfl R8 R9 ra.ob ra.ap (by simp) (by omega) (by omega) (by omega) (EO _ (by omega)) (EO _ (by omega)) (EO _ (by omega))
  refine kb _ a2 a5 a27 a28 a29 _ fun τ2 b2 b5 b27 b28 b29=>?_
  have nb:=rb.nx
  have EP:∀ z,z<G16.nx+16→z≠lb→Gb.obj z=Ga.obj z:=fun z h1 h2=>rb.md.obj z (by omega) (fun k=>k.elim h2 (EO z h1))
  have ER:∀ z,z<Ga.nx+16→¬ cY vb z:=fun z hz hv=>by have:=rb.dM z hv; omega
  have zx:=(EP N (by omega) CS).trans R8
  have osb:=(EP sb (by omega) nfs).trans R9
  obtain ⟨vc,Gc,rc,kc⟩:=JY ae (ty:=oO) (pB:=uj) (RI ae lb) (k:=2) (by decide) (fs:=[cu 156 lb,cu 157 lb,cu 87 lb]) rfl zx osb rb.ob rb.ap (by simp) (by omega) (by omega) (by omega) (ER _ (by omega)) (ER _ (by omega)) (ER _ (by omega))
  refine kc _ b2 b5 b27 b28 b29 _ fun τ3 c2 c5 c27 c28 c29=>?_
  have nc:=rc.nx
  have ES:∀ z,z<Ga.nx+16→z≠lb→Gc.obj z=Gb.obj z:=fun z h1 h2=>rc.md.obj z (by omega) (fun k=>k.elim h2 (ER z h1))
  refine Wp.lp (P9 (ai Q ae)) ?_
  simp [y6,ao,c2,c5,c27,c28,c29]
  refine ⟨G16.nx+15,G16.nx+14,Ga.nx+15,Ga.nx+14,Gb.nx+15,Gb.nx+14,vc,rc.ob,by simpa using rc.ap,⟨?_,?_⟩,⟨?_,?_⟩,⟨rc.o2,rc.o1⟩,by omega,fun z hz=>by have:=rc.dM z hz; omega,?_⟩
  ·rw [ES _ (by omega) (by omega),EP _ (by omega) (by omega)]; exact ra.o2
  ·rw [ES _ (by omega) (by omega),EP _ (by omega) (by omega)]; exact ra.o1
  ·rw [ES _ (by omega) (by omega)]; exact rb.o2
  ·rw [ES _ (by omega) (by omega)]; exact rb.o1
  ·refine ((m16.trans (ra.md.mono fun z hz=>.inl hz)).trans (rb.md.mono fun z hz=>?_)).trans (rc.md.mono fun z hz=>?_)
   ·rcases hz with e | hz
    ·exact .inl (.inl e)
    ·have:=ra.dM z hz; exact .inr ⟨by omega,by omega⟩
   ·rcases hz with e | hz
    ·exact .inl (.inl e)
    ·have:=rb.dM z hz; exact .inr ⟨by omega,by omega⟩
 obtain ⟨⟨z,G'⟩,e,rfl,p1,w1,p2,w2,p3,w3,v',h⟩:=wL
 exact ⟨p1,w1,p2,w2,p3,w3,v',G',f117 (ai Q ae) _ _ G _ e,h⟩
end
abbrev TW.ar (t:TW):Ar:=⟨t.top,t.links,t.size,t.u6,t.u7,t.u8⟩
abbrev ET (lb w:Nat):aR:=bH (bu 115 w) .nilFunc (cu 117 lb) (.pointer none) false
structure xy (own:Nat→Nat) (tg:Nat) (A:Ar) (G:GS) (q r:Nat) (x:cG):Prop where
 a1:At own tg G q
 a2:At own tg G r
 ne:q≠r
 al:oD A G q r x
def xC (own:Nat→Nat) (tg:Nat) (A:Ar) (G:GS) (now:Value) (md:Bool) (x:cG):Prop:=(md=false∧x= .pop (.go 1 0 0 0))∨(md=true∧∃ q r,now=P0 q∧xy own tg A G q r x)
section
variable {B:Nat→Prop} {own own' own0 ah aG:Nat→Nat} {tag tg th m r b lb pb wb xb q sb:Nat} {t:TW} {c p by_ er tries g key job hi ref:Int} {v now:Value} {md:Bool} {G G' G1 G2:GS} {s s':MS} {x:cG} {A:Ar}
theorem xy.to (h:xy own tg A G q r x) (hn:G.nx≤G'.nx) (hk:∀ g,g<G.nx→own g=tg→G'.obj g=G.obj g) (a:bW own own' G):xy own' tg A G' q r x :=
 ⟨h.a1.to hn a,h.a2.to hn a,h.ne,h.al.kept (hk _ h.a1.lt h.a1.tag) (hk _ h.a2.lt h.a2.tag)⟩
theorem PW.vB (w:PW B own G ah G1 m s) (q:bG (fun z=>ah z=tag) G1 G2) (ht:tag≠10) (u:Nat) (hB:∀ x,x<G.nx→own x=tag→B x):PW B own G (grown ah G1 u) G2 m s :=
 w.trans (B':=Own ah tag) ⟨⟨db,q.mono fun _ h=>.inr h⟩,w.pm.to (t:=tag) (B:=Own ah tag) ⟨db,q.mono fun _ h=>.inl h⟩ ht fun _ _ h=>by rw [h]; exact ht⟩ fun x hx h=>hB x hx ((w.aO.same hx).symm.trans h)
structure GvP (own:Nat→Nat) (tag:Nat) (G:GS) (lb:Nat) (t:TW) (c p by_ er:Int) (R:List Value) (p1 w1 p2 w2 p3 w3:Nat) (v:Value):Prop where
 ob:G.obj lb=some (bN t c p v by_ er R)
 ap:gD G v [(uk,p1),(qT,p2),(oO,p3)]
 u1:jF G lb p1 w1 J2
 u2:jF G lb p2 w2 Ca
 u3:jF G lb p3 w3 uj
 ge:lb<w1∧w1<p1∧p1<w2∧w2<p2∧p2<w3∧w3<p3∧p3<G.nx
 at_:∀ z,z∈[w1,p1,w2,p2,w3,p3]→own z=tag
 dM:∀ z,cY v z→p3<z∧own z=tag
theorem acv (ae:FuncId→Bool) (bD:ae 187=false) (eu:ae 211=false) (hA:t.ar.ok) (h:PM own G m s) (hm:s.ok) (hx:x.ok t.ar) (h10:tg≠10) (aV:tag≠tg) (ht:tag≠10)
  (ap:At own tag G pb) (al:At own tag G lb) (aw:At own tag G xb) (d1:lb≠pb) (d2:xb≠lb) (d3:xb≠pb)
  (op:G.obj pb=some (bH (bu 115 xb) .nilFunc (cu 117 lb) now md)) (ol:G.obj lb=some (bN t c p v by_ er (eL key job hi tries ref))) (ow:G.obj xb=some ⟨[P0 lb],1,false,1⟩)
  (ha:gD G v []) (tv:∀ z,cY v z→own z=tag∧z≠lb∧z≠pb) (hq:xC own tg t.ar G now md x) :
  ∃ ah G1 q r,PW (Bq own tg lb pb) own G ah G1 m (x.step t.ar s).2∧xy ah tg t.ar G1 q r (x.step t.ar s).1 ∧
   G1.obj pb=some (bH (bu 115 xb) .nilFunc (cu 117 lb) (P0 q) true)∧G1.obj lb=G.obj lb ∧
   ((x.step t.ar s).1.over=false→(E ae).cl 295 [P0 pb,P0 m] G=some (.tuple #[.bool false,.int .u64 0],G1)) ∧
   (∀ g,(x.step t.ar s).1= .done g 0→∃ aG G2 p1 w1 p2 w2 p3 w3 v',(E ae).cl 295 [P0 pb,P0 m] G=some (.tuple #[.bool true,.int .u64 0],G2)∧PW (eK own tag tg) own G aG G2 m (x.step t.ar s).2∧GvP aG tag G2 lb t c p by_ er (eL key job hi tries g) p1 w1 p2 w2 p3 w3 v'):=by
 have mk:∃ lS Gm q r,((md=true∧now=P0 q∧Gm=G)∨(md=false∧∃ F a c G0,bu 115 xb= .func (.func F) a c∧(Value.nilFunc= .nilFunc∨∃ F a c,Value.nilFunc= .func (.func F) a c)∧(cu 117 lb= .nilFunc∨∃ F a c,cu 117 lb= .func (.func F) a c)∧dO (E ae) (bu 115 xb) [] G=some (P0 q,G0)∧G0.obj pb=some (bH (bu 115 xb) .nilFunc (cu 117 lb) now md)∧Gm=(G0.put pb (bH (bu 115 xb) .nilFunc (cu 117 lb) (P0 q) false)).put pb (bH (bu 115 xb) .nilFunc (cu 117 lb) (P0 q) true))) ∧
   PW (Bq own tg lb pb) own G lS Gm m s∧xy lS tg t.ar Gm q r x∧Gm.obj pb=some (bH (bu 115 xb) .nilFunc (cu 117 lb) (P0 q) true)∧Gm.obj lb=G.obj lb∧∀ z,cY v z→Gm.obj z=G.obj z:=by
  rcases hq with ⟨rfl,rfl⟩ | ⟨rfl,q,r,rfl,hq⟩
  ·obtain ⟨q,r,G1,e1,y1,k1,k2,k3,k4,k5,hR⟩:=Z9 ae t.ar G
   have e2:(E ae).cl 115 [P0 xb] G=some (P0 q,G1):=by
    refine f115 (ai Q ae) _ G _ ?_
    have ld:eI 6 lb 3 G=some t.ar.v:=by rw [mC (n:=5) (o:=3) ol (by decide) (by simp)]; rfl
    simp [-iw,s115,ow,ol,ld,e1]
   obtain ⟨G2,aD⟩:∃ G2,G2=(G1.put pb (bH (bu 115 xb) .nilFunc (cu 117 lb) (P0 q) false)).put pb (bH (bu 115 xb) .nilFunc (cu 117 lb) (P0 q) true):=⟨_,rfl⟩
   have a1:∀ {g},At own tag G g→At (grown own G tg) tag G1 g:=fun a=>a.to y1.nx db
   have w1:PW (Bq own tg lb pb) own G (grown own G tg) G1 m s:=(PW.refl h).de y1 tg
   have w2:PW (Bq own tg lb pb) own G (grown own G tg) G2 m s:=by
    rw [aD]
    exact (w1.put (.inl (.inr (.inl rfl))) (fun _=>by rw [(a1 ap).tag]; exact ht) _).put (.inl (.inr (.inl rfl))) (fun _=>by rw [(a1 ap).tag]; exact ht) _
   have n2:G2.nx=G1.nx:=by rw [aD]; rfl
   have kp:∀ g,g≠pb→G2.obj g=G1.obj g:=fun g hg=>by rw [aD,aT,if_neg hg,aT,if_neg hg]
   have nS:=ap.lt
   refine ⟨_,G2,q,r,.inr ⟨rfl,_,_,_,G1,rfl,.inl rfl,.inr ⟨_,_,_,rfl⟩,(JW ae _ _ G).trans e2,(y1.obj _ ap.lt).trans op,aD⟩,w2,⟨⟨by omega,gx k1⟩,⟨by omega,gx k3⟩,k5,hR.kept (kp _ (by omega)) (kp _ (by omega))⟩,by rw [aD]; simp,(kp lb d1).trans (y1.obj _ al.lt),fun z hz=>(kp z (tv z hz).2.2).trans (y1.obj z (ha.lt hz))⟩
  ·exact ⟨own,G,q,r,.inl ⟨rfl,rfl,rfl⟩,PW.refl h,hq,op,rfl,fun _ _=>rfl⟩
 obtain ⟨lS,Gm,q,r,iT,w1,di,oK,B6,vm⟩:=mk
 obtain ⟨aG,G2,e2,w2,r2⟩:=Z5 ae bD eu w1.pm hm hA di.a1.lt di.a2.lt (by rw [di.a1.tag]; exact h10) (by rw [di.a2.tag]; exact h10) di.ne hx di.al
 have kR:PW (Own lS tg) lS Gm aG G2 m (x.step t.ar s).2:=w2.mono fun z _ hz=>by rcases hz with e | e<;>rw [e]; exact di.a1.tag; exact di.a2.tag
 have fJ:xy aG tg t.ar G2 q r (x.step t.ar s).1:=⟨di.a1.to w2.nx w2.aO.cd,di.a2.to w2.nx w2.aO.cd,di.ne,r2⟩
 have am:∀ {g},At own tag G g→At lS tag Gm g:=fun a=>a.to w1.nx w1.aO.cd
 have kp:∀ {g},At own tag G g→G2.obj g=Gm.obj g:=fun a=>kR.tV (am a).lt (am a).tag ht aV
 have cV:=(kp ap).trans oK
 have w12:PW (Bq own tg lb pb) own G aG G2 m (x.step t.ar s).2:=w1.sub kR fun x hx k=>.inr (.inr k)
 have eV:=(kp al).trans B6
 have inv:∀ z,cY v z→At own tag G z:=fun z hz=>⟨ha.lt hz,(tv z hz).1⟩
 refine ⟨aG,G2,q,r,w12,fJ,cV,eV,fun ho=>?_,fun g hg=>?_⟩
 ·rw [ho] at e2
  exact RT ae op iT oK e2 cV (.inl ⟨rfl,rfl,rfl⟩) cV (.inl ⟨.inl rfl,.inr ⟨_,_,_,rfl⟩,rfl⟩)
 ·generalize ax:(x.step t.ar s).1=x' at *
  subst hg
  have x3:Ext G2 (G2.room 9):=(Ext.refl G2).room 9
  have w3:=w12.de x3 tag
  have J4:oD t.ar (G2.room 9) q r (.done g 0):=fJ.al.kept (by simp) (by simp)
  have EK:gD (G2.room 9) v []:=ha.kept (Nat.le_trans w12.nx x3.nx) fun z hz=>((x3.obj z (by have:=w12.nx; have:=ha.lt hz; omega)).trans (kp (inv z hz))).trans (vm z hz)
  have n12:=w12.nx
  obtain ⟨p1,eQ,p2,kR,p3,fq,v',G4,e4,g4⟩:=acr ae J4 (by simpa using eV.trans ol) EK (by have:=al.lt; simp; omega) (by have:=fJ.a1.lt; simp; omega) (fun hz=>(tv lb hz).2.1 rfl)
  have n4:=g4.md.nx
  have tz:∀ z,z<G2.nx→aG z=tag→grown aG G2 tag z=tag:=fun z h1 h2=>(db z h1).trans h2
  have md4:bG (fun z=>grown aG G2 tag z=tag) (G2.room 9) G4:=g4.md.mono fun z hz=>by
   rcases hz with rfl | hz
   ·exact tz z (am al |>.to w2.nx w2.aO.cd).lt (am al |>.to w2.nx w2.aO.cd).tag
   ·exact tz z (am (inv z hz) |>.to w2.nx w2.aO.cd).lt (am (inv z hz) |>.to w2.nx w2.aO.cd).tag
  have fq:PW (eK own tag tg) own G (grown aG G2 tag) (G2.room 9) m (x.step t.ar s).2:=w3.mono fun z _ hz=>by
   rcases hz with rfl | rfl | hz
   ·exact .inl al.tag
   ·exact .inl ap.tag
   ·exact .inr hz
  have w4:=fq.vB md4 ht tag fun z _ hz=>.inl hz
  have nn:(G2.room 9).nx=G2.nx+9:=by simp
  have new:∀ z,G2.nx+9≤z→grown (grown aG G2 tag) (G2.room 9) tag z=tag:=fun z hz=>gx (by omega)
  obtain ⟨q1,q2,q3,q4,q5,q6,q7⟩:=g4.ge
  have mX:=al.lt
  rw [show (cG.done g 0).over=true from rfl] at e2
  refine ⟨_,G4,p1,_,p2,_,p3,_,v',RT ae op iT oK e2 cV (.inl ⟨rfl,rfl,rfl⟩) cV (.inr ⟨rfl,_,_,_,rfl,(acj ae _ _ _ _).trans e4⟩),w4,g4.ob,g4.ap,g4.u1,g4.u2,g4.u3,⟨by omega,q2,q3,q4,q5,q6,q7⟩,fun z hz=>new z ?_,fun z hz=>⟨g4.dM z hz,new z (by have:=g4.dM z hz; omega)⟩⟩
  simp at hz
  rcases hz with e | e | e | e | e | e<;>omega
end
structure iB (own:Nat→Nat) (tag:Nat) (G:GS) (lb:Nat) (v:Value) (L:List (Nat×Nat)):Prop where
 hb:At own tag G lb
 ap:gD G v L
 vt:∀ z,cY v z→own z=tag∧z≠lb∧∀ f∈L,z≠f.2
 short:L.length≤8
abbrev gE (own:Nat→Nat) (t u v:Nat):Nat→Prop:=fun x=>own x=t∨own x=u∨own x=v
section
variable {B:Nat→Prop} {own own' own0 ah aG:Nat→Nat} {tag tg th m r b lb pb wb xb q sb:Nat} {t:TW} {c p p' by_ eY er er':Int} {v v1 now:Value} {md:Bool} {G G' G1 G2 G18:GS} {s s':MS} {f:Nat×Nat} {rest L:List (Nat×Nat)} {R R':List Value} {o:Nat→aR}
theorem fg {o o':aR} {a b:Nat} (h1:G.obj a=some o) (h2:G.obj b=some o') (h:o≠o'):a≠b:=fun e=>by rw [e,h2] at h1; exact h (Option.some.inj h1).symm
theorem jF.kept (h:jF G lb pb wb o) (k1:G'.obj pb=G.obj pb) (k2:G'.obj wb=G.obj wb):jF G' lb pb wb o:=⟨k1.trans h.1,k2.trans h.2⟩
theorem gD.drop (h:gD G v (f::rest)):∃ v1,jo 1 v (some (.int .i64 1)) none none G=some v1∧gD G v1 rest∧∀ g,cY v1 g→cY v g:=by
 obtain ⟨b,o,cap,v1,e0,c0,e1,s1,i1⟩:=vG h.sl
 refine ⟨v1,e1,⟨s1,?_⟩,i1⟩
 rcases h.cap with ⟨_,h0⟩ | ⟨b',o',ob,e,h2,h3,h4,h5⟩
 ·cases h0
 ·rw [e] at e1
  simp only [jo,h3] at e1
  have az:(ob.opn&&(1:Nat) != ob.esz)=false:=by rw [h5]; simp
  have b1:bound (none:Option Value) (rest.length+1) (rest.length+1)=some (rest.length+1):=rfl
  rw [az] at e1
  simp only [Bool.false_eq_true,if_false,List.length_cons,b1] at e1
  have b2:bound (some (.int .i64 1)) 0 (rest.length+1)=some 1:=by simp [bound]; omega
  simp only [b2] at e1
  rw [if_pos (Nat.le_refl _)] at e1
  cases e1
  exact .inr ⟨b',o' +1*1,ob,rfl,h2,h3,h4,h5⟩
theorem gD.acw {B':Nat} (h:cj dk B' G v (f::L)):gD G v (f::L):=by
 refine ⟨h.is,?_⟩
 rcases h.2 with ⟨rfl,h0⟩ | ⟨b,op,rfl,h2,h3,h4⟩
 ·simp at h0
 ·exact .inr ⟨b,0,_,rfl,h3,h4,rfl,rfl⟩
theorem iB.to (h:iB own tag G lb v L) (hn:G.nx≤G'.nx) (hk:∀ z,cY v z→G'.obj z=G.obj z) (a:bW own own' G):iB own' tag G' lb v L :=
 ⟨h.hb.to hn a,h.ap.kept hn hk,fun z hz=>⟨(a z (h.ap.lt hz)).trans (h.vt z hz).1,(h.vt z hz).2⟩,h.short⟩
theorem Sb (hb:own lb=tag) (hp:own pb=tag):∀ x,nF own tg th lb pb x→gE own tag tg th x:=fun x h=>by
 rcases h with rfl | rfl | h | h
 ·exact .inl hb
 ·exact .inl hp
 ·exact .inr (.inl h)
 ·exact .inr (.inr h)
theorem EU (ae:FuncId→Bool) (h:iB own tag G lb v (f::rest)) (ht:tag≠10) (aV:tag≠tg) (dP:tag≠th) (hf:own f.2=tag) (ho:G.obj lb=some (bN t c p v by_ er R)) (h1:jo 1 v (some (.int .i64 1)) none none G=some v1)
  (et:dS Q (aC Q ae) (.iface f.1 (P0 f.2)) "coxswain/ready.run" [P0 m] (G.put lb (bN t c p v1 by_ er R))=some (.tuple #[.bool true,.int .u64 eY],G18)) (o18:G18.obj lb=some (bN t c p' v1 by_ er' R'))
  (w:PW (nF own tg th lb f.2) own (G.put lb (bN t c p v1 by_ er R)) ah G18 m s) :
  ∃ G4,(E ae).cl 79 [P0 lb,P0 m] G=some (.bool (decide (rest.length=0)),G4)∧PW (gE own tag tg th) own G ah G4 m s∧iB ah tag G4 lb v1 rest∧G4.obj lb=some (bN t c p' v1 eY er' R')∧(∀ z,z≠lb→G4.obj z=G18.obj z)∧G18.nx≤G4.nx:=by
 obtain ⟨v1',e1,a1,i1⟩:=h.ap.drop
 rw [h1] at e1
 cases e1
 obtain ⟨x1,n1,fR⟩:=a1.sl.len
 have hl:=h.short
 have dp:rest.length<10:=by simp at hl; omega
 rw [fR] at o18
 have e4:=RQ ae h.ap.sl ho h1 et o18 dp dp
 rw [← fR] at e4 o18
 have mX:=h.hb.lt
 have nx:G.nx≤G18.nx:=w.nx
 have wG:PW (gE own tag tg th) own G ah G18 m s:=by
  have q0:dx 10 (gE own tag tg th) own G own (G.put lb (bN t c p v1 by_ er R)):=(dx.refl 10 (gE own tag tg th) own G).put (.inl (.inl h.hb.tag)) _
  exact ⟨q0.trans (B':=gE own tag tg th) (w.aO.mono fun x _ hx=>Sb h.hb.tag hf x hx) fun _ _ k=>k,w.pm⟩
 have iO:ah lb=tag:=(w.aO.same (by simpa using mX)).trans h.hb.tag
 have hw:iB own tag (G.put lb (bN t c p v1 by_ er R)) lb v1 rest:=⟨h.hb.bC _ _,a1.kept (Nat.le_refl _) fun z hz=>by rw [aT,if_neg (h.vt z (i1 z hz)).2.1],fun z hz=>⟨(h.vt z (i1 z hz)).1,(h.vt z (i1 z hz)).2.1,fun g hg=>(h.vt z (i1 z hz)).2.2 g (by simp [hg])⟩,by simp at hl; omega⟩
 have kv:∀ z,cY v1 z→G18.obj z=(G.put lb (bN t c p v1 by_ er R)).obj z:=fun z hz=>by
  obtain ⟨q1,q2,q3⟩:=h.vt z (i1 z hz)
  refine w.keep (by have:=h.ap.lt (i1 z hz); simpa using this) (by rw [q1]; exact ht) ?_
  rintro (k | k | k | k)
  ·exact q2 k
  ·exact q3 f (by simp) k
  ·exact aV (q1.symm.trans k)
  ·exact dP (q1.symm.trans k)
 have wh:=hw.to (by simpa using nx) kv w.aO.cd
 refine ⟨_,e4,wG.put (.inl (.inl h.hb.tag)) (fun _=>by rw [iO]; exact ht) _,wh.to (Nat.le_refl _) (fun z hz=>by rw [aT,if_neg (wh.vt z hz).2.1]) (bW.refl _ _),by simp,fun z hz=>by rw [aT,if_neg hz],Nat.le_refl _⟩
theorem zA (ae:FuncId→Bool) (h:iB own tag G lb v (f::rest)) (ht:tag≠10) (aV:tag≠tg) (dP:tag≠th) (hf:At own tag G f.2) (GK:∀ g∈rest,g.2<G.nx) (ho:G.obj lb=some (bN t c p v by_ er R)) (h1:jo 1 v (some (.int .i64 1)) none none G=some v1)
  (et:dS Q (aC Q ae) (.iface f.1 (P0 f.2)) "coxswain/ready.run" [P0 m] (G.put lb (bN t c p v1 by_ er R))=some (.tuple #[.bool false,.int .u64 eY],G18)) (o18:G18.obj lb=some (bN t c p' v1 by_ er' R'))
  (w:PW (nF own tg th lb f.2) own (G.put lb (bN t c p v1 by_ er R)) ah G18 m s) :
  ∃ aG G4 v2,(E ae).cl 79 [P0 lb,P0 m] G=some (.bool false,G4)∧PW (gE own tag tg th) own G aG G4 m s∧iB aG tag G4 lb v2 (f::rest)∧G4.obj lb=some (bN t c p' v2 eY er' R')∧(∀ z,z<G18.nx→z≠lb→G4.obj z=G18.obj z)∧G18.nx≤G4.nx∧bW ah aG G18:=by
 obtain ⟨v1',e1,a1,i1⟩:=h.ap.drop
 rw [h1] at e1
 cases e1
 have hl:=h.short
 have dp:rest.length<10:=by simp at hl; omega
 have mX:=h.hb.lt
 have nx:G.nx≤G18.nx:=w.nx
 have wG:PW (gE own tag tg th) own G ah G18 m s:=by
  have q0:dx 10 (gE own tag tg th) own G own (G.put lb (bN t c p v1 by_ er R)):=(dx.refl 10 (gE own tag tg th) own G).put (.inl (.inl h.hb.tag)) _
  exact ⟨q0.trans (B':=gE own tag tg th) (w.aO.mono fun x _ hx=>Sb h.hb.tag hf.tag x hx) fun _ _ k=>k,w.pm⟩
 have iO:ah lb=tag:=(w.aO.same (by simpa using mX)).trans h.hb.tag
 have kv:∀ z,cY v1 z→G18.obj z=(G.put lb (bN t c p v1 by_ er R)).obj z:=fun z hz=>by
  obtain ⟨q1,q2,q3⟩:=h.vt z (i1 z hz)
  refine w.keep (by have:=h.ap.lt (i1 z hz); simpa using this) (by rw [q1]; exact ht) ?_
  rintro (k | k | k | k)
  ·exact q2 k
  ·exact q3 f (by simp) k
  ·exact aV (q1.symm.trans k)
  ·exact dP (q1.symm.trans k)
 have acx:bI dk G18 v1 rest:=a1.sl.kept nx fun z hz=>(kv z hz).trans (by rw [aT,if_neg (h.vt z (i1 z hz)).2.1])
 obtain ⟨v2,G3,e4,x3,o3⟩:=acb ae h.ap.sl ho h1 acx (fun hz=>(h.vt lb (i1 lb hz)).2.1 rfl) (by omega) dp et o18
 have w1:=wG.put (.inl (.inl h.hb.tag)) (fun _=>by rw [iO]; exact ht) (bN t c p' v1 eY er' R')
 have w2:=w1.de x3 tag
 have ag:bW ah (grown ah (G18.put lb (bN t c p' v1 eY er' R')) tag) G18:=db
 have Sc:grown ah (G18.put lb (bN t c p' v1 eY er' R')) tag lb=tag:=(ag lb (by omega)).trans iO
 have n3:G18.nx≤G3.nx:=x3.nx
 have J5:∀ z,cY v2 z→G18.nx≤z:=fun z hz=>o3.from hz
 have h2:iB (grown ah (G18.put lb (bN t c p' v1 eY er' R')) tag) tag G3 lb v2 (f::rest) :=
  ⟨⟨by omega,Sc⟩,gD.acw o3,fun z hz=>⟨gx (by simpa using J5 z hz),by have:=J5 z hz; omega,fun g hg=>by
   have:=J5 z hz
   rcases List.mem_cons.1 hg with rfl | hg
   ·have:=hf.lt; omega
   ·have:=GK g hg; omega⟩,hl⟩
 refine ⟨_,_,v2,e4,w2.put (.inl (.inl h.hb.tag)) (fun _=>by rw [Sc]; exact ht) _,h2.to (Nat.le_refl _) (fun z hz=>by rw [aT,if_neg (h2.vt z hz).2.1]) (bW.refl _ _),by simp,fun z h3 h4=>by rw [aT,if_neg h4,x3.obj z h3,aT,if_neg h4],n3,ag⟩
end
structure aY where
 line:Int
 key:Int
 job:Int
 hi:Int
 tries:Int
 ref:Int
 by_:Int
 er:Int
 aW:dG
 al:cG
 ly:lR
 ins:ak
def aY.given (x:aY) (g e:Int):aY:=if e=0 then { x with by_:=0,al:=.done g e,ref:=g,line:=3,ly:=⟨g % 65536 - 1,g,x.key,x.job,x.hi,0⟩ } else { x with by_:=0,al:=.done g e,er:=e,line:=5 }
def aY.l1 (t:TW) (c:Int) (x:aY) (s:MS):aY×MS:=({ x with by_:=0,aW:=(x.aW.step t c s).1,line:=if (x.aW.step t c s).1.line=9 then 2 else 1 },(x.aW.step t c s).2)
def aY.l2 (t:TW) (x:aY) (s:MS):aY×MS :=
 (match (x.al.step t.ar s).1 with
  | .done g e=>x.given g e
  | a=>{ x with by_:=0,al:=a },(x.al.step t.ar s).2)
def aY.l3 (t:TW) (x:aY) (s:MS):aY×MS :=
 ({ x with by_:=(x.ly.step t s).1.by_,ly:=(x.ly.step t s).1,line:=if (x.ly.step t s).1.d=4 then 4 else 3,ins:=if (x.ly.step t s).1.d=4 then ak.new t x.ref x.key (x.ref % 65536 - 1) x.hi else x.ins },(x.ly.step t s).2)
def aY.l4 (t:TW) (x:aY) (s:MS):aY×MS:=({ x with by_:=(x.ins.step t s).1.by_,ins:=(x.ins.step t s).1,line:=if (x.ins.step t s).1.line=0 then 5 else 4 },(x.ins.step t s).2)
def aY.l5 (t:TW) (c:Int) (x:aY) (s:MS):aY×MS:=({ x with by_:=0,line:=9 },mL t c s)
def aY.step (t:TW) (c:Int) (x:aY) (s:MS):aY×MS :=
 if x.line=1 then x.l1 t c s else if x.line=2 then x.l2 t s else if x.line=3 then x.l3 t s else if x.line=4 then x.l4 t s else if x.line=5 then x.l5 t c s else (x,s)
def aY.new (t:TW) (key job hi:Int):aY:=⟨1,key,job,hi,0,0,0,0,.new,.pop (.go 1 0 0 0),⟨0,0,0,0,0,0⟩,ak.new t 0 0 0 0⟩
def acy (t:TW) (ref:Int):Prop:=∃ i g,ref=aU i g∧0≤i∧i<t.size∧0≤g∧g<4294967296
theorem zB (i g:Int) (h0:0≤i) (h1:i<65535):aU i g % 65536 - 1=i:=by unfold aU; omega
structure aY.ok (t:TW) (x:aY):Prop where
 line:x.line=1∨x.line=2∨x.line=3∨x.line=4∨x.line=5∨x.line=9
 job:0≤x.job∧x.job≤65534
 high:1≤x.hi∧x.hi≤t.ay
 key:U x.key
 aW:x.aW.ok
 al:x.line=1∨x.line=2→x.al.ok t.ar∧x.al.over=false
 J6:x.line=1→x.al= .pop (.go 1 0 0 0)
 ref:x.line=3∨x.line=4→acy t x.ref
 ly:x.line=3→x.ly.d<4∧x.ly.i=x.ref % 65536 - 1∧x.ly.ref=x.ref∧x.ly.key=x.key∧x.ly.job=x.job∧x.ly.hi=x.hi
 ins:x.line=4→x.ins.ok t∧x.ins.line≠0∧x.ins.ref=x.ref∧x.ins.key=x.key∧x.ins.i=x.ref % 65536 - 1∧x.ins.hi=x.hi
section
variable {t:TW} {c:Int} {x:aY} {s:MS}
theorem cG.Sd {A:Ar} {a:cG} {g:Int} (ha:a.ok A) (ho:a.over=false) (h:(a.step A s).1= .done g 0):∃ i k,g=aU i k∧0≤i∧i<A.size∧0≤k∧k<4294967296:=by
 cases a with
 | pop p =>
  simp only [cG.step] at h
  generalize p.step A.R s=q at h
  obtain ⟨q,s'⟩:=q
  cases q with
  | done i=>simp only at h; split at h<;>cases h
  | go n w i j=>cases h
 | gives i =>
  simp only [cG.step] at h
  cases h
  exact ⟨i,_,rfl,ha.1,ha.2,by omega,by omega⟩
 | qH =>
  simp only [cG.step] at h
  injection h with h1 h2
  split at h2<;>cases h2
 | done g e=>cases ho
def ak.like (x:ak) (y:ak×MS):Prop:=y.1.ref=x.ref∧y.1.key=x.key∧y.1.i=x.i∧y.1.hi=x.hi
theorem ak.pU {x:ak} {q:Prop} [Decidable q] {a b:ak×MS} (ha:x.like a) (hb:x.like b):x.like (if q then a else b):=by split<;>assumption
theorem ak.zC {x:ak} {q:Prop} [Decidable q] {a b:ak} {s:MS} (ha:x.like (a,s)) (hb:x.like (b,s)):x.like ((if q then a else b),s):=by split<;>assumption
theorem ak.Se (x:ak):x.like (x.step t s):=by
 have r:∀ {a:ak} {s:MS},a.ref=x.ref→a.key=x.key→a.i=x.i→a.hi=x.hi→x.like (a,s):=fun h1 h2 h3 h4=>⟨h1,h2,h3,h4⟩
 unfold ak.step
 refine pU ?_ (pU ?_ (pU ?_ (pU ?_ (pU ?_ (pU ?_ (pU ?_ (pU ?_ (pU ?_ (pU ?_ (pU ?_ (pU ?_ ?_)))))))))))
 ·exact r rfl rfl rfl rfl
 ·exact zC (r rfl rfl rfl rfl) (r rfl rfl rfl rfl)
 ·exact zC (r rfl rfl rfl rfl) (r rfl rfl rfl rfl)
 ·exact r rfl rfl rfl rfl
 ·exact r rfl rfl rfl rfl
 ·exact zC (r rfl rfl rfl rfl) (r rfl rfl rfl rfl)
 ·exact r rfl rfl rfl rfl
 ·exact zC (r rfl rfl rfl rfl) (r rfl rfl rfl rfl)
 ·exact zC (r rfl rfl rfl rfl) (r rfl rfl rfl rfl)
 ·exact r rfl rfl rfl rfl
 ·exact zC (r rfl rfl rfl rfl) (r rfl rfl rfl rfl)
 ·exact r rfl rfl rfl rfl
 ·exact r rfl rfl rfl rfl
theorem aY.ju (hs:t.sound) {key job hi:Int} (hj:0≤job∧job≤65534) (hh:1≤hi∧hi≤t.ay) (hk:U key) (hA:t.ar.ok):(aY.new t key job hi).ok t :=
 ⟨.inl rfl,hj,hh,hk,dG.ju,fun _=>⟨⟨⟨by decide,by decide,dJ,by simp,by have:=hs.2.2.1; simp; omega⟩,rfl⟩,rfl⟩,fun _=>rfl,by simp [aY.new],by simp [aY.new],by simp [aY.new]⟩
theorem aY.ok.step (hs:t.sound) (cR:t.fA) (hA:t.ar.ok) (h:x.ok t) (hm:s.ok):(x.step t c s).1.ok t∧(x.step t c s).2.ok:=by
 obtain ⟨c1,c2,c3,c4,c5,c6,c7,c8,c9,c10⟩:=h
 have hz:t.size≤128:=hs.2.2.2.1
 rcases c1 with e | e | e | e | e | e
 all_goals unfold aY.step; simp only [e]
 ·have hp:=dG.ok.step (t:=t) (c:=c) c5 hm
  simp [aY.l1]
  refine ⟨⟨?_,c2,c3,c4,hp.1,fun _=>c6 (.inl e),fun _=>c7 e,?_,?_,?_⟩,hp.2⟩<;>simp only
  ·split<;>simp
  ·split<;>simp
  ·split<;>simp
  ·split<;>simp
 ·obtain ⟨a1,a2⟩:=c6 (.inr e)
  have ha:=cG.ok.step hA a1 hm
  simp [aY.l2]
  refine ⟨?_,ha.2⟩
  generalize hq:(x.al.step t.ar s).1=q at *
  cases q with
  | done g e' =>
   simp only
   unfold aY.given
   by_cases he:e' =0
   ·subst he
    obtain ⟨i,k,rfl,i0,i1,k0,k1⟩:=cG.Sd a1 a2 hq
    simp only [if_true]
    exact ⟨by simp,c2,c3,c4,c5,by simp,by simp,fun _=>⟨i,k,rfl,i0,i1,k0,k1⟩,by simp,by simp⟩
   ·simp only [he,if_false]
    exact ⟨by simp,c2,c3,c4,c5,by simp,by simp,by simp,by simp,by simp⟩
  | pop p=>exact ⟨.inr (.inl e),c2,c3,c4,c5,fun _=>⟨ha.1,rfl⟩,by simp [e],by simp [e],by simp [e],by simp [e]⟩
  | gives i=>exact ⟨.inr (.inl e),c2,c3,c4,c5,fun _=>⟨ha.1,rfl⟩,by simp [e],by simp [e],by simp [e],by simp [e]⟩
  | qH=>exact ⟨.inr (.inl e),c2,c3,c4,c5,fun _=>⟨ha.1,rfl⟩,by simp [e],by simp [e],by simp [e],by simp [e]⟩
 ·obtain ⟨b1,b2,b3,b4,b5,b6⟩:=c9 e
  obtain ⟨i,k,hr,i0,i1,k0,k1⟩:=c8 (.inl e)
  have ax:x.ly.step t s=({ x.ly with d:=x.ly.d+1 },s.store (aB t x.ly.i x.ly.d) (kY x.ly.key x.ly.job x.ly.hi x.ly.d)):=by unfold lR.step; rw [if_pos b1]
  have hU:U (kY x.ly.key x.ly.job x.ly.hi x.ly.d):=by
   have:=hs.2.1
   unfold kY
   split
   ·rw [b4]; exact c4
   ·rw [b5]; exact ⟨c2.1,by omega⟩
   ·rw [b6]; exact ⟨by omega,by omega⟩
   ·exact ⟨by decide,by decide⟩
  simp only [aY.l3,ax]
  refine ⟨?_,hm.store _ hU⟩
  have xD:x.ref % 65536 - 1=i:=by rw [hr]; exact zB i k i0 (by omega)
  by_cases hd:x.ly.d+1=4
  ·simp [hd]
   refine ⟨by simp,c2,c3,c4,c5,by simp,by simp,fun _=>⟨i,k,hr,i0,i1,k0,k1⟩,by simp,fun _=>⟨ak.ju hs ⟨by rw [xD]; exact i0,by rw [xD]; exact i1⟩ c3 ?_,by simp [ak.new],rfl,rfl,rfl,rfl⟩⟩
   rw [hr]; unfold aU U; omega
  ·simp [hd]
   exact ⟨by simp,c2,c3,c4,c5,by simp,by simp,fun _=>⟨i,k,hr,i0,i1,k0,k1⟩,fun _=>⟨by simp only; omega,b2,b3,b4,b5,b6⟩,by simp⟩
 ·obtain ⟨b1,b2,b3,b4,b5,b6⟩:=c10 e
  have hi:=b1.step hs cR hm
  have ym:=x.ins.Se (t:=t) (s:=s)
  simp [aY.l4]
  refine ⟨?_,hi.2⟩
  by_cases h0:(x.ins.step t s).1.line=0
  ·simp [h0]
   exact ⟨by simp,c2,c3,c4,c5,by simp,by simp,by simp,by simp,by simp⟩
  ·simp [h0]
   exact ⟨by simp,c2,c3,c4,c5,by simp,by simp,fun _=>c8 (.inr e),by simp,fun _=>⟨hi.1,h0,ym.1.trans b3,ym.2.1.trans b4,ym.2.2.1.trans b5,ym.2.2.2.trans b6⟩⟩
 ·simp [aY.l5,mL]
  exact ⟨⟨by simp,c2,c3,c4,c5,by simp,by simp,by simp,by simp,by simp⟩,hm.store _ dJ⟩
 ·simp
  exact ⟨⟨by simp [e],c2,c3,c4,c5,c6,c7,c8,c9,c10⟩,hm⟩
end
abbrev EV (w:Nat) (now:Value) (md:Bool):aR:=bH (bu 111 w) .nilFunc (bu 113 w) now md
abbrev Sf (lb w:Nat) (now:Value) (md:Bool):aR:=bH (bu 115 w) .nilFunc (cu 117 lb) now md
abbrev Sg (w:Nat) (now:Value) (md:Bool):aR:=bH (bu 178 w) (gC 180) .nilFunc now md
abbrev Sj (w:Nat) (now:Value) (md:Bool):aR:=bH (bu 181 w) (gC 183) .nilFunc now md
abbrev sw (lb:Nat):aR:=⟨[P0 lb],1,false,1⟩
abbrev jc (own:Nat→Nat) (tag:Nat) (G:GS) (l:List Nat):Prop:=∀ z,z∈l→At own tag G z
inductive xE (own:Nat→Nat) (tag tg th:Nat) (t:TW) (c:Int) (G:GS) (lb:Nat) (x:aY) (v:Value):Prop
 | aW (p1 w1 p2 w2:Nat) (now:Value) (md:Bool):x.line=1→iB own tag G lb v [(sv,p1),(oQ,p2)]→jc own tag G [p1,w1,p2,w2]→G.obj p1=some (EV w1 now md)→G.obj w1=some (sw lb)→oL own tg t c G now md x.aW→jF G lb p2 w2 (ET lb)→xE own tag tg th t c G lb x v
 | al (p2 w2:Nat) (now:Value) (md:Bool):x.line=2→iB own tag G lb v [(oQ,p2)]→jc own tag G [p2,w2]→G.obj p2=some (Sf lb w2 now md)→G.obj w2=some (sw lb)→xC own tg t.ar G now md x.al→xE own tag tg th t c G lb x v
 | ly (p1 w1 p2 w2 p3 w3:Nat) (now:Value) (md:Bool):x.line=3→iB own tag G lb v [(uk,p1),(qT,p2),(oO,p3)]→jc own tag G [p1,w1,p2,w2,p3,w3]→G.obj p1=some (Sg w1 now md)→G.obj w1=some (sw lb)→xv own tg t G now md x.ly→jF G lb p2 w2 Ca→jF G lb p3 w3 uj→xE own tag tg th t c G lb x v
 | ins (p2 w2 p3 w3:Nat) (now:Value) (md:Bool):x.line=4→iB own tag G lb v [(qT,p2),(oO,p3)]→jc own tag G [p2,w2,p3,w3]→G.obj p2=some (Sj w2 now md)→G.obj w2=some (sw lb)→xw own tg th t G now md x.ins→jF G lb p3 w3 uj→xE own tag tg th t c G lb x v
 | un (p3 w3:Nat):x.line=5→iB own tag G lb v [(oO,p3)]→jc own tag G [p3,w3]→jF G lb p3 w3 uj→xE own tag tg th t c G lb x v
 | over:x.line=9→iB own tag G lb v []→xE own tag tg th t c G lb x v
def xF (own:Nat→Nat) (tag tg th:Nat) (t:TW) (c:Int) (G:GS) (lb:Nat) (x:aY):Prop :=
 ∃ v p,G.obj lb=some (bN t c p v x.by_ x.er (eL x.key x.job x.hi x.tries x.ref))∧xE own tag tg th t c G lb x v
section
variable {B:Nat→Prop} {own own' own0 ah aG:Nat→Nat} {tag tg th m r b lb pb wb xb q sb:Nat} {t:TW} {c p p' by_ eY er er':Int} {v v1 now:Value} {md:Bool} {G G' G1 G2 G18:GS} {s s':MS} {f:Nat×Nat} {rest L:List (Nat×Nat)} {R R':List Value} {o:Nat→aR} {x:aY}
theorem xv.to {y:lR} (h:xv own tg t G now md y) (hn:G.nx≤G'.nx) (hk:∀ g,g<G.nx→own g=tg→G'.obj g=G.obj g) (a:bW own own' G):xv own' tg t G' now md y:=h.imp id fun ⟨e,q,e2,h⟩=>⟨e,q,e2,h.to hn hk a⟩
theorem xC.to {A:Ar} {y:cG} (h:xC own tg A G now md y) (hn:G.nx≤G'.nx) (hk:∀ g,g<G.nx→own g=tg→G'.obj g=G.obj g) (a:bW own own' G):xC own' tg A G' now md y:=h.imp id fun ⟨e,q,r,e2,h⟩=>⟨e,q,r,e2,h.to hn hk a⟩
theorem xw.to {y:ak} (h:xw own tg th t G now md y) (hn:G.nx≤G'.nx) (hk:∀ g,g<G.nx→own g=tg∨own g=th→G'.obj g=G.obj g) (a:bW own own' G):xw own' tg th t G' now md y:=h.imp id fun ⟨e,q,e2,h⟩=>⟨e,q,e2,h.to hn hk a⟩
theorem oL.toQ {y:dG} (h:oL own tg t c G now md y) (hn:G.nx≤G'.nx) (hk:∀ g,g<G.nx→own g=tg→G'.obj g=G.obj g) (a:bW own own' G):oL own' tg t c G' now md y:=h.imp id fun ⟨e,q,e2,h⟩=>⟨e,q,e2,h.to hn hk a⟩
theorem PW.EW (w:PW (Bq own tg lb pb) own G ah G1 m s):PW (nF own tg th lb pb) own G ah G1 m s:=w.mono fun _ _ h=>h.imp id (Or.imp id .inl)
theorem zD {o':aR} (ht:tag≠10) (aV:tag≠tg) (dP:tag≠th) (w:PW (nF own tg th lb pb) own (G.put lb o') ah G18 m s) {z:Nat} (hz:At own tag G z) (h1:z≠lb) (h2:z≠pb):G18.obj z=G.obj z:=by
 refine (w.keep (by simpa using hz.lt) (by rw [hz.tag]; exact ht) ?_).trans (by rw [aT,if_neg h1])
 rintro (k | k | k | k)
 ·exact h1 k
 ·exact h2 k
 ·exact aV (hz.tag.symm.trans k)
 ·exact dP (hz.tag.symm.trans k)
theorem Sn (ae:FuncId→Bool) (q m:Nat) (G:GS):dS Q (aC Q ae) (.iface sv (P0 q)) "coxswain/ready.run" [P0 m] G=(E ae).cl 293 [P0 q,P0 m] G:=by kernel_rfl
theorem acz (ae:FuncId→Bool) (q m:Nat) (G:GS):dS Q (aC Q ae) (.iface oO (P0 q)) "coxswain/ready.run" [P0 m] G=(E ae).cl 297 [P0 q,P0 m] G:=by kernel_rfl
abbrev pV (own:Nat→Nat) (tag tg th m:Nat) (t:TW) (c:Int) (G:GS) (lb:Nat) (s:MS) (x:aY) (ae:FuncId→Bool):Prop :=
 ∃ ah G1,(E ae).cl 79 [P0 lb,P0 m] G=some (.bool (decide ((x.step t c s).1.line=9)),G1)∧PW (gE own tag tg th) own G ah G1 m (x.step t c s).2∧xF ah tag tg th t c G1 lb (x.step t c s).1
theorem acA (ae:FuncId→Bool) (hc:0≤c∧c<t.u11) (h:PM own G m s) (hm:s.ok) (hx:x.ok t) (ht:tag≠10) (h10:tg≠10) (aV:tag≠tg) (dP:tag≠th) (ho:G.obj lb=some (bN t c p v x.by_ x.er (eL x.key x.job x.hi x.tries x.ref)))
  {p1 w1 p2 w2:Nat} (e:x.line=1) (hw:iB own tag G lb v [(sv,p1),(oQ,p2)]) (ha:jc own tag G [p1,w1,p2,w2]) (o1:G.obj p1=some (EV w1 now md)) (o2:G.obj w1=some (sw lb)) (hq:oL own tg t c G now md x.aW) (u:jF G lb p2 w2 (ET lb)):pV own tag tg th m t c G lb s x ae:=by
 have ax:x.step t c s=x.l1 t c s:=by unfold aY.step; simp [e]
 obtain ⟨v1,e1,-,-⟩:=hw.ap.drop
 obtain ⟨G0,bl⟩:∃ G0,G0=G.put lb (bN t c p v1 x.by_ x.er (eL x.key x.job x.hi x.tries x.ref)):=⟨_,rfl⟩
 have d1:p1≠lb:=fg o1 ho (by simp)
 have d2:w1≠lb:=fg o2 ho (by simp)
 have d3:p2≠lb:=fg u.1 ho (by simp)
 have d4:w2≠lb:=fg u.2 ho (by simp)
 have d5:p2≠p1:=fg u.1 o1 (by simp)
 have d6:w2≠p1:=fg u.2 o1 (by simp)
 have d7:w1≠p1:=fg o2 o1 (by simp)
 have k0:∀ z,z≠lb→G0.obj z=G.obj z:=fun z hz=>by rw [bl,aT,if_neg hz]
 have a0:∀ {z},At own tag G z→At own tag G0 z:=fun a=>by rw [bl]; exact a.bC _ _
 have h0:PM own G0 m s:=by rw [bl]; exact h.put (fun _=>by rw [hw.hb.tag]; exact ht) _
 have o0:G0.obj lb=some (bN t c p v1 x.by_ x.er (eL x.key x.job x.hi x.tries x.ref)):=by rw [bl]; simp
 have q0:oL own tg t c G0 now md x.aW:=hq.toQ (by rw [bl]; exact Nat.le_refl _) (fun z hz dY=>k0 z (iN hw.hb.tag dY aV)) (bW.refl _ _)
 obtain ⟨ah,G1,p',q,e2,kR,k2,cV,eV⟩:=acd ae hc h0 hm hx.aW h10 aV ht (a0 (ha p1 (by simp))) (a0 hw.hb) (a0 (ha w1 (by simp))) d1.symm d2 d7 ((k0 p1 d1).trans o1) o0 ((k0 w1 d2).trans o2) q0
 have w3:PW (nF own tg th lb p1) own G0 ah G1 m (x.aW.step t c s).2:=kR.EW
 rw [bl] at w3 e2
 have kz:∀ {z},At own tag G z→z≠lb→z≠p1→G1.obj z=G.obj z:=fun hz h1 h2=>zD ht aV dP w3 hz h1 h2
 unfold pV
 rw [ax]
 unfold aY.l1
 generalize (x.aW.step t c s).2=s' at *
 generalize (x.aW.step t c s).1=y at *
 have n1:=w3.nx
 by_cases h9:y.line=9
 ·rw [decide_eq_true h9] at e2
  obtain ⟨G4,e4,w4,jG,o4,k4,n4⟩:=EU (f:=(sv,p1)) ae hw ht aV dP (ha p1 (by simp)).tag ho e1 ((Sn ae p1 m _).trans e2) eV w3
  have jH:jc ah tag G4 [p2,w2]:=fun z hz=>(ha z (by simp at hz ⊢; rcases hz with e | e<;>simp [e])).to (Nat.le_trans (by simpa using n1) n4) w3.aO.cd
  refine ⟨ah,G4,?_,w4,v1,p',o4,.al p2 w2 (.pointer none) false (by simp [h9]) jG jH (((k4 p2 d3).trans (kz (ha p2 (by simp)) d3 d5)).trans u.1) (((k4 w2 d4).trans (kz (ha w2 (by simp)) d4 d6)).trans u.2) (.inl ⟨rfl,hx.J6 e⟩)⟩
  simpa [h9] using e4
 ·rw [decide_eq_false h9] at e2
  obtain ⟨eU,G4,v4,e4,w4,jG,o4,k4,n4,kZ⟩:=zA (f:=(sv,p1)) ae hw ht aV dP (ha p1 (by simp)) (fun g hg=>by simp at hg; rw [hg]; exact (ha p2 (by simp)).lt) ho e1 ((Sn ae p1 m _).trans e2) eV w3
  have l1:∀ {z},At own tag G z→z<G1.nx:=fun a=>Nat.lt_of_lt_of_le a.lt (by simpa using n1)
  have jH:jc eU tag G4 [p1,w1,p2,w2]:=fun z hz=>((ha z hz).to (by simpa using n1) w3.aO.cd).to n4 kZ
  refine ⟨eU,G4,?_,w4,v4,p',o4,.aW p1 w1 p2 w2 (P0 q) true (by simp [h9]) jG jH ((k4 p1 (l1 (ha p1 (by simp))) d1).trans cV) (((k4 w1 (l1 (ha w1 (by simp))) d2).trans (kz (ha w1 (by simp)) d2 d7)).trans o2) (.inr ⟨rfl,q,rfl,k2.to n4 (fun z hz dY=>k4 z hz (iN ((w3.aO.same (by simpa using hw.hb.lt)).trans hw.hb.tag) dY aV)) kZ⟩) ⟨((k4 p2 (l1 (ha p2 (by simp))) d3).trans (kz (ha p2 (by simp)) d3 d5)).trans u.1,((k4 w2 (l1 (ha w2 (by simp))) d4).trans (kz (ha w2 (by simp)) d4 d6)).trans u.2⟩⟩
  simpa [h9] using e4
end
section
variable {B:Nat→Prop} {own own' own0 ah aG:Nat→Nat} {tag tg th m r b lb pb wb xb q sb:Nat} {t:TW} {c p p' by_ eY er er':Int} {v v1 now:Value} {md:Bool} {G G' G1 G2 G18:GS} {s s':MS} {f:Nat×Nat} {rest L:List (Nat×Nat)} {R R':List Value} {o:Nat→aR} {x:aY}
theorem acB (ae:FuncId→Bool) (bD:ae 187=false) (eu:ae 211=false) (hA:t.ar.ok) (h:PM own G m s) (hm:s.ok) (hx:x.ok t) (ht:tag≠10) (h10:tg≠10) (aV:tag≠tg) (dP:tag≠th) (ho:G.obj lb=some (bN t c p v x.by_ x.er (eL x.key x.job x.hi x.tries x.ref)))
  {p2 w2:Nat} (e:x.line=2) (qs:∀ g er,(x.al.step t.ar s).1= .done g er→er=0) (hw:iB own tag G lb v [(oQ,p2)]) (ha:jc own tag G [p2,w2]) (o1:G.obj p2=some (Sf lb w2 now md)) (o2:G.obj w2=some (sw lb)) (hq:xC own tg t.ar G now md x.al):pV own tag tg th m t c G lb s x ae:=by
 have ax:x.step t c s=x.l2 t s:=by unfold aY.step; simp [e]
 obtain ⟨v1,e1,ap1,i1⟩:=hw.ap.drop
 obtain ⟨G0,bl⟩:∃ G0,G0=G.put lb (bN t c p v1 x.by_ x.er (eL x.key x.job x.hi x.tries x.ref)):=⟨_,rfl⟩
 have d1:p2≠lb:=fg o1 ho (by simp)
 have d2:w2≠lb:=fg o2 ho (by simp)
 have d7:w2≠p2:=fg o2 o1 (by simp)
 have k0:∀ z,z≠lb→G0.obj z=G.obj z:=fun z hz=>by rw [bl,aT,if_neg hz]
 have a0:∀ {z},At own tag G z→At own tag G0 z:=fun a=>by rw [bl]; exact a.bC _ _
 have h0:PM own G0 m s:=by rw [bl]; exact h.put (fun _=>by rw [hw.hb.tag]; exact ht) _
 have o0:G0.obj lb=some (bN t c p v1 x.by_ x.er (eL x.key x.job x.hi x.tries x.ref)):=by rw [bl]; simp
 have q0:xC own tg t.ar G0 now md x.al:=hq.to (by rw [bl]; exact Nat.le_refl _) (fun z hz dY=>k0 z (iN hw.hb.tag dY aV)) (bW.refl _ _)
 have ap0:gD G0 v1 []:=ap1.kept (by rw [bl]; exact Nat.le_refl _) fun z hz=>k0 z (hw.vt z (i1 z hz)).2.1
 obtain ⟨So,aov⟩:=hx.al (.inr e)
 obtain ⟨ah,G1,q,r,kR,k2,cV,eV,more,done⟩:=acv ae bD eu hA h0 hm So h10 aV ht (a0 (ha p2 (by simp))) (a0 hw.hb) (a0 (ha w2 (by simp))) d1.symm d2 d7 ((k0 p2 d1).trans o1) o0 ((k0 w2 d2).trans o2) ap0 (fun z hz=>⟨(hw.vt z (i1 z hz)).1,(hw.vt z (i1 z hz)).2.1,(hw.vt z (i1 z hz)).2.2 (oQ,p2) (by simp)⟩) q0
 have gv:=fun g=>cG.Sd (g:=g) (s:=s) So aov
 unfold pV
 rw [ax]
 unfold aY.l2
 generalize (x.al.step t.ar s).2=s' at *
 generalize (x.al.step t.ar s).1=y at *
 have w3:PW (nF own tg th lb p2) own G0 ah G1 m s':=kR.EW
 rw [bl] at w3
 have n1:=w3.nx
 cases y with
 | done g er =>
  have he:=qs g er rfl
  subst he
  obtain ⟨bB,G3,q1,u1,q2,u2,q3,u3,v',e3,w4,g4⟩:=done g rfl
  rw [bl] at e3
  have qo:([]:List (Nat×Nat)).length<10:=by decide
  obtain ⟨a3,n3,zE⟩:=g4.ap.sl.len
  have o18:=g4.ob
  rw [zE] at o18
  have e4:=RQ (L':=[(uk,q1),(qT,q2),(oO,q3)]) (m:=m) ae hw.ap.sl ho e1 ((EJ ae p2 m _).trans e3) (by simpa using o18) (by simp) (by simp)
  have Jw:=g4.ge
  have mX:=hw.hb.lt
  have w5:PW (gE own tag tg th) own G bB G3 m s':=by
   have q0:dx 10 (gE own tag tg th) own G own G0:=by rw [bl]; exact (dx.refl 10 (gE own tag tg th) own G).put (.inl (.inl hw.hb.tag)) _
   exact ⟨q0.trans (B':=gE own tag tg th) (w4.aO.mono fun z _ hz=>hz.elim .inl fun k=>.inr (.inl k)) fun _ _ k=>k,w4.pm⟩
  have n5:=w5.nx
  have Sp:bB lb=tag:=(w5.aO.same mX).trans hw.hb.tag
  have lt3:lb<G3.nx:=by omega
  have acC:x.given g 0={ x with by_:=0,al:=.done g 0,ref:=g,line:=3,ly:=⟨g % 65536 - 1,g,x.key,x.job,x.hi,0⟩ }:=by unfold aY.given; simp
  simp only [acC]
  have Sq:iB bB tag G3 lb v' [(uk,q1),(qT,q2),(oO,q3)]:=⟨⟨lt3,Sp⟩,g4.ap,fun z hz=>⟨(g4.dM z hz).2,by have:=(g4.dM z hz).1; omega,fun f hf=>by
   have:=(g4.dM z hz).1
   simp at hf
   rcases hf with rfl | rfl | rfl<;>simp only<;>omega⟩,by simp⟩
  obtain ⟨G4,bR⟩:∃ G4,G4=G3.put lb (bN t c p v' 0 x.er (eL x.key x.job x.hi x.tries g)):=⟨_,rfl⟩
  have k4:∀ z,z≠lb→G4.obj z=G3.obj z:=fun z hz=>by rw [bR,aT,if_neg hz]
  have jH:jc bB tag G4 [q1,u1,q2,u2,q3,u3]:=fun z hz=>⟨by simp at hz; rw [bR]; simp; rcases hz with e | e | e | e | e | e<;>omega,g4.at_ z (by simp at hz ⊢; rcases hz with e | e | e | e | e | e<;>simp [e])⟩
  refine ⟨bB,G4,?_,?_,v',p,by rw [bR]; simp,.ly q1 u1 q2 u2 q3 u3 (.pointer none) false rfl ?_ jH ((k4 _ (by omega)).trans g4.u1.1) ((k4 _ (by omega)).trans g4.u1.2) (.inl ⟨rfl,rfl⟩) (g4.u2.kept (k4 _ (by omega)) (k4 _ (by omega))) (g4.u3.kept (k4 _ (by omega)) (k4 _ (by omega)))⟩
  ·rw [bR,zE]; simpa using e4
  ·rw [bR]; exact w5.put (.inl (.inl hw.hb.tag)) (fun _=>by rw [Sp]; exact ht) _
  ·exact Sq.to (by rw [bR]; exact Nat.le_refl _) (fun z hz=>k4 z (Sq.vt z hz).2.1) (bW.refl _ _)
 | pop a =>
  have e2:=more rfl
  rw [bl] at e2
  obtain ⟨eU,G4,v4,e4,w4,jG,o4,k4,n4,kZ⟩:=zA (f:=(oQ,p2)) ae hw ht aV dP (ha p2 (by simp)) (fun g hg=>by simp at hg) ho e1 ((EJ ae p2 m _).trans e2) (eV.trans o0) w3
  have l1:∀ {z},At own tag G z→z<G1.nx:=fun a=>Nat.lt_of_lt_of_le a.lt (by simpa using n1)
  have jH:jc eU tag G4 [p2,w2]:=fun z hz=>((ha z hz).to (by simpa using n1) w3.aO.cd).to n4 kZ
  refine ⟨eU,G4,by simpa [e] using e4,w4,v4,p,o4,.al p2 w2 (P0 q) true e jG jH ((k4 p2 (l1 (ha p2 (by simp))) d1).trans cV) (((k4 w2 (l1 (ha w2 (by simp))) d2).trans (zD ht aV dP w3 (ha w2 (by simp)) d2 d7)).trans o2) (.inr ⟨rfl,q,r,rfl,k2.to n4 (fun z hz dY=>k4 z hz (iN ((w3.aO.same (by simpa using hw.hb.lt)).trans hw.hb.tag) dY aV)) kZ⟩)⟩
 | gives a =>
  have e2:=more rfl
  rw [bl] at e2
  obtain ⟨eU,G4,v4,e4,w4,jG,o4,k4,n4,kZ⟩:=zA (f:=(oQ,p2)) ae hw ht aV dP (ha p2 (by simp)) (fun g hg=>by simp at hg) ho e1 ((EJ ae p2 m _).trans e2) (eV.trans o0) w3
  have l1:∀ {z},At own tag G z→z<G1.nx:=fun a=>Nat.lt_of_lt_of_le a.lt (by simpa using n1)
  have jH:jc eU tag G4 [p2,w2]:=fun z hz=>((ha z hz).to (by simpa using n1) w3.aO.cd).to n4 kZ
  refine ⟨eU,G4,by simpa [e] using e4,w4,v4,p,o4,.al p2 w2 (P0 q) true e jG jH ((k4 p2 (l1 (ha p2 (by simp))) d1).trans cV) (((k4 w2 (l1 (ha w2 (by simp))) d2).trans (zD ht aV dP w3 (ha w2 (by simp)) d2 d7)).trans o2) (.inr ⟨rfl,q,r,rfl,k2.to n4 (fun z hz dY=>k4 z hz (iN ((w3.aO.same (by simpa using hw.hb.lt)).trans hw.hb.tag) dY aV)) kZ⟩)⟩
 | qH =>
  have e2:=more rfl
  rw [bl] at e2
  obtain ⟨eU,G4,v4,e4,w4,jG,o4,k4,n4,kZ⟩:=zA (f:=(oQ,p2)) ae hw ht aV dP (ha p2 (by simp)) (fun g hg=>by simp at hg) ho e1 ((EJ ae p2 m _).trans e2) (eV.trans o0) w3
  have l1:∀ {z},At own tag G z→z<G1.nx:=fun a=>Nat.lt_of_lt_of_le a.lt (by simpa using n1)
  have jH:jc eU tag G4 [p2,w2]:=fun z hz=>((ha z hz).to (by simpa using n1) w3.aO.cd).to n4 kZ
  refine ⟨eU,G4,by simpa [e] using e4,w4,v4,p,o4,.al p2 w2 (P0 q) true e jG jH ((k4 p2 (l1 (ha p2 (by simp))) d1).trans cV) (((k4 w2 (l1 (ha w2 (by simp))) d2).trans (zD ht aV dP w3 (ha w2 (by simp)) d2 d7)).trans o2) (.inr ⟨rfl,q,r,rfl,k2.to n4 (fun z hz dY=>k4 z hz (iN ((w3.aO.same (by simpa using hw.hb.lt)).trans hw.hb.tag) dY aV)) kZ⟩)⟩
theorem acD (ae:FuncId→Bool) (bD:ae 187=false) (eu:ae 211=false) (hs:t.sound) (h:PM own G m s) (hm:s.ok) (hx:x.ok t) (ht:tag≠10) (h10:tg≠10) (aV:tag≠tg) (dP:tag≠th) (ho:G.obj lb=some (bN t c p v x.by_ x.er (eL x.key x.job x.hi x.tries x.ref)))
  {p1 w1 p2 w2 p3 w3:Nat} (e:x.line=3) (hw:iB own tag G lb v [(uk,p1),(qT,p2),(oO,p3)]) (ha:jc own tag G [p1,w1,p2,w2,p3,w3]) (o1:G.obj p1=some (Sg w1 now md)) (o2:G.obj w1=some (sw lb)) (hq:xv own tg t G now md x.ly) (u:jF G lb p2 w2 Ca) (u':jF G lb p3 w3 uj):pV own tag tg th m t c G lb s x ae:=by
 have ax:x.step t c s=x.l3 t s:=by unfold aY.step; simp [e]
 obtain ⟨v1,e1,-,-⟩:=hw.ap.drop
 obtain ⟨G0,bl⟩:∃ G0,G0=G.put lb (bN t c p v1 x.by_ x.er (eL x.key x.job x.hi x.tries x.ref)):=⟨_,rfl⟩
 have d1:p1≠lb:=fg o1 ho (by simp)
 have d2:w1≠lb:=fg o2 ho (by simp)
 have d3:p2≠lb:=fg u.1 ho (by simp)
 have d4:w2≠lb:=fg u.2 ho (by simp)
 have d5:p2≠p1:=fg u.1 o1 (by simp)
 have d6:w2≠p1:=fg u.2 o1 (by simp)
 have d7:w1≠p1:=fg o2 o1 (by simp)
 have d8:p3≠lb:=fg u'.1 ho (by simp)
 have d9:w3≠lb:=fg u'.2 ho (by simp)
 have d10:p3≠p1:=fg u'.1 o1 (by simp)
 have d11:w3≠p1:=fg u'.2 o1 (by simp)
 have k0:∀ z,z≠lb→G0.obj z=G.obj z:=fun z hz=>by rw [bl,aT,if_neg hz]
 have a0:∀ {z},At own tag G z→At own tag G0 z:=fun a=>by rw [bl]; exact a.bC _ _
 have h0:PM own G0 m s:=by rw [bl]; exact h.put (fun _=>by rw [hw.hb.tag]; exact ht) _
 have o0:G0.obj lb=some (bN t c p v1 x.by_ x.er (eL x.key x.job x.hi x.tries x.ref)):=by rw [bl]; simp
 have q0:xv own tg t G0 now md x.ly:=hq.to (by rw [bl]; exact Nat.le_refl _) (fun z hz dY=>k0 z (iN hw.hb.tag dY aV)) (bW.refl _ _)
 obtain ⟨b1,b2,b3,b4,b5,b6⟩:=hx.ly e
 obtain ⟨i,k,hr,i0,i1,J7,J8⟩:=hx.ref (.inl e)
 have hz:t.size≤128:=hs.2.2.2.1
 have xD:x.ref % 65536 - 1=i:=by rw [hr]; exact zB i k i0 (by omega)
 have uf:G0.obj lb=some (bN t c p v1 x.by_ x.er (eL x.ly.key x.ly.job x.ly.hi x.tries x.ly.ref)):=by rw [b3,b4,b5,b6]; exact o0
 obtain ⟨ah,G1,q,e2,kR,k2,cV,eV⟩:=ack ae bD eu hs h0 b1 h10 aV ht (by rw [b2,xD]; exact ⟨i0,i1⟩) (g:=k) ⟨by rw [b3,b2,xD,hr],J7,J8⟩ (by rw [b5]; exact hx.job) (by rw [b6]; exact hx.high) (a0 (ha p1 (by simp))) (a0 hw.hb) (a0 (ha w1 (by simp))) d1.symm d2 d7 ((k0 p1 d1).trans o1) uf ((k0 w1 d2).trans o2) q0
 have hd:(x.ly.step t s).1.d=x.ly.d+1:=by unfold lR.step; rw [if_pos b1]
 have hd3:decide (x.ly.d=3)=decide ((x.ly.step t s).1.d=4):=by rw [hd]; by_cases k:x.ly.d=3<;>simp [k]
 rw [hd3] at e2
 unfold pV
 rw [ax]
 unfold aY.l3
 generalize (x.ly.step t s).2=s' at *
 generalize (x.ly.step t s).1=y at *
 have fq:PW (nF own tg th lb p1) own G0 ah G1 m s':=kR.EW
 rw [bl] at fq e2
 have kz:∀ {z},At own tag G z→z≠lb→z≠p1→G1.obj z=G.obj z:=fun hz h1 h2=>zD ht aV dP fq hz h1 h2
 have n1:=fq.nx
 by_cases h9:y.d=4
 ·rw [decide_eq_true h9] at e2
  obtain ⟨G4,e4,w4,jG,o4,k4,n4⟩:=EU (f:=(uk,p1)) ae hw ht aV dP (ha p1 (by simp)).tag ho e1 ((RU ae p1 m _).trans e2) (eV.trans o0) fq
  have jH:jc ah tag G4 [p2,w2,p3,w3]:=fun z hz=>(ha z (by simp at hz ⊢; rcases hz with e | e | e | e<;>simp [e])).to (Nat.le_trans (by simpa using n1) n4) fq.aO.cd
  refine ⟨ah,G4,?_,w4,v1,p,o4,.ins p2 w2 p3 w3 (.pointer none) false (by simp [h9]) jG jH (((k4 p2 d3).trans (kz (ha p2 (by simp)) d3 d5)).trans u.1) (((k4 w2 d4).trans (kz (ha w2 (by simp)) d4 d6)).trans u.2) (.inl ⟨rfl,by simp [h9,ak.new]⟩) (u'.kept ((k4 p3 d8).trans (kz (ha p3 (by simp)) d8 d10)) ((k4 w3 d9).trans (kz (ha w3 (by simp)) d9 d11)))⟩
  simpa [h9] using e4
 ·rw [decide_eq_false h9] at e2
  obtain ⟨eU,G4,v4,e4,w4,jG,o4,k4,n4,kZ⟩:=zA (f:=(uk,p1)) ae hw ht aV dP (ha p1 (by simp)) (fun g hg=>by simp at hg; rcases hg with e | e<;>(rw [e]; exact (ha _ (by simp)).lt)) ho e1 ((RU ae p1 m _).trans e2) (eV.trans o0) fq
  have l1:∀ {z},At own tag G z→z<G1.nx:=fun a=>Nat.lt_of_lt_of_le a.lt (by simpa using n1)
  have jH:jc eU tag G4 [p1,w1,p2,w2,p3,w3]:=fun z hz=>((ha z hz).to (by simpa using n1) fq.aO.cd).to n4 kZ
  have kk:∀ {z},At own tag G z→z≠lb→z≠p1→G4.obj z=G.obj z:=fun hz h1 h2=>(k4 _ (l1 hz) h1).trans (kz hz h1 h2)
  refine ⟨eU,G4,?_,w4,v4,p,o4,.ly p1 w1 p2 w2 p3 w3 (P0 q) true (by simp [h9]) jG jH ((k4 p1 (l1 (ha p1 (by simp))) d1).trans cV) ((kk (ha w1 (by simp)) d2 d7).trans o2) (.inr ⟨rfl,q,rfl,k2.to n4 (fun z hz dY=>k4 z hz (iN ((fq.aO.same (by simpa using hw.hb.lt)).trans hw.hb.tag) dY aV)) kZ⟩) (u.kept (kk (ha p2 (by simp)) d3 d5) (kk (ha w2 (by simp)) d4 d6)) (u'.kept (kk (ha p3 (by simp)) d8 d10) (kk (ha w3 (by simp)) d9 d11))⟩
  simpa [h9] using e4
theorem acE (ae:FuncId→Bool) (bD:ae 187=false) (kU:ae 309=false) (eu:ae 211=false) (hs:t.sound) (cR:t.fA) (ko:0≤aB t 0 0) (h:PM own G m s) (hm:s.ok) (hx:x.ok t) (ht:tag≠10) (h10:tg≠10) (B7:th≠10) (B8:tg≠th) (aV:tag≠tg) (dP:tag≠th) (ho:G.obj lb=some (bN t c p v x.by_ x.er (eL x.key x.job x.hi x.tries x.ref)))
  {p1 w1 p2 w2:Nat} (e:x.line=4) (hw:iB own tag G lb v [(qT,p1),(oO,p2)]) (ha:jc own tag G [p1,w1,p2,w2]) (o1:G.obj p1=some (Sj w1 now md)) (o2:G.obj w1=some (sw lb)) (hq:xw own tg th t G now md x.ins) (u:jF G lb p2 w2 uj):pV own tag tg th m t c G lb s x ae:=by
 have ax:x.step t c s=x.l4 t s:=by unfold aY.step; simp [e]
 obtain ⟨v1,e1,-,-⟩:=hw.ap.drop
 obtain ⟨G0,bl⟩:∃ G0,G0=G.put lb (bN t c p v1 x.by_ x.er (eL x.key x.job x.hi x.tries x.ref)):=⟨_,rfl⟩
 have d1:p1≠lb:=fg o1 ho (by simp)
 have d2:w1≠lb:=fg o2 ho (by simp)
 have d3:p2≠lb:=fg u.1 ho (by simp)
 have d4:w2≠lb:=fg u.2 ho (by simp)
 have d5:p2≠p1:=fg u.1 o1 (by simp)
 have d6:w2≠p1:=fg u.2 o1 (by simp)
 have d7:w1≠p1:=fg o2 o1 (by simp)
 have k0:∀ z,z≠lb→G0.obj z=G.obj z:=fun z hz=>by rw [bl,aT,if_neg hz]
 have a0:∀ {z},At own tag G z→At own tag G0 z:=fun a=>by rw [bl]; exact a.bC _ _
 have h0:PM own G0 m s:=by rw [bl]; exact h.put (fun _=>by rw [hw.hb.tag]; exact ht) _
 have o0:G0.obj lb=some (bN t c p v1 x.by_ x.er (eL x.key x.job x.hi x.tries x.ref)):=by rw [bl]; simp
 have q0:xw own tg th t G0 now md x.ins:=hq.to (by rw [bl]; exact Nat.le_refl _) (fun z hz dY=>k0 z (dY.elim (fun k=>iN hw.hb.tag k aV) fun k=>iN hw.hb.tag k dP)) (bW.refl _ _)
 obtain ⟨b1,b2,b3,b4,b5,b6⟩:=hx.ins e
 obtain ⟨i,k,hr,i0,i1,J7,J8⟩:=hx.ref (.inr e)
 have hz:t.size≤128:=hs.2.2.2.1
 have xD:x.ref % 65536 - 1=i:=by rw [hr]; exact zB i k i0 (by omega)
 have uf:G0.obj lb=some (bN t c p v1 x.by_ x.er (eL x.ins.key x.job x.ins.hi x.tries x.ins.ref)):=by rw [b3,b4,b6]; exact o0
 obtain ⟨ah,G1,q,e2,w3,k2,cV,eV⟩:=acm ae bD kU eu hs cR ko h0 hm b1 h10 B7 B8 aV dP ht (g:=k) ⟨by rw [b3,b5,xD,hr],J7,J8⟩ (a0 (ha p1 (by simp))) (a0 hw.hb) (a0 (ha w1 (by simp))) d1.symm d2 d7 ((k0 p1 d1).trans o1) uf ((k0 w1 d2).trans o2) q0
 rw [bl] at w3 e2
 have kz:∀ {z},At own tag G z→z≠lb→z≠p1→G1.obj z=G.obj z:=fun hz h1 h2=>zD ht aV dP w3 hz h1 h2
 unfold pV
 rw [ax]
 unfold aY.l4
 generalize (x.ins.step t s).2=s' at *
 generalize (x.ins.step t s).1=y at *
 have n1:=w3.nx
 by_cases h9:y.line=0
 ·rw [decide_eq_true h9] at e2
  obtain ⟨G4,e4,w4,jG,o4,k4,n4⟩:=EU (f:=(qT,p1)) ae hw ht aV dP (ha p1 (by simp)).tag ho e1 ((RV ae p1 m _).trans e2) (eV.trans o0) w3
  have jH:jc ah tag G4 [p2,w2]:=fun z hz=>(ha z (by simp at hz ⊢; rcases hz with e | e<;>simp [e])).to (Nat.le_trans (by simpa using n1) n4) w3.aO.cd
  refine ⟨ah,G4,?_,w4,v1,p,o4,.un p2 w2 (by simp [h9]) jG jH (u.kept ((k4 p2 d3).trans (kz (ha p2 (by simp)) d3 d5)) ((k4 w2 d4).trans (kz (ha w2 (by simp)) d4 d6)))⟩
  simpa [h9] using e4
 ·rw [decide_eq_false h9] at e2
  obtain ⟨eU,G4,v4,e4,w4,jG,o4,k4,n4,kZ⟩:=zA (f:=(qT,p1)) ae hw ht aV dP (ha p1 (by simp)) (fun g hg=>by simp at hg; rw [hg]; exact (ha p2 (by simp)).lt) ho e1 ((RV ae p1 m _).trans e2) (eV.trans o0) w3
  have l1:∀ {z},At own tag G z→z<G1.nx:=fun a=>Nat.lt_of_lt_of_le a.lt (by simpa using n1)
  have jH:jc eU tag G4 [p1,w1,p2,w2]:=fun z hz=>((ha z hz).to (by simpa using n1) w3.aO.cd).to n4 kZ
  have kk:∀ {z},At own tag G z→z≠lb→z≠p1→G4.obj z=G.obj z:=fun hz h1 h2=>(k4 _ (l1 hz) h1).trans (kz hz h1 h2)
  have iO:ah lb=tag:=(w3.aO.same (by simpa using hw.hb.lt)).trans hw.hb.tag
  refine ⟨eU,G4,?_,w4,v4,p,o4,.ins p1 w1 p2 w2 (P0 q) true (by simp [h9]) jG jH ((k4 p1 (l1 (ha p1 (by simp))) d1).trans cV) ((kk (ha w1 (by simp)) d2 d7).trans o2) (.inr ⟨rfl,q,rfl,k2.to n4 (fun z hz dY=>k4 z hz (dY.elim (fun k=>iN iO k aV) fun k=>iN iO k dP)) kZ⟩) (u.kept (kk (ha p2 (by simp)) d3 d5) (kk (ha w2 (by simp)) d4 d6))⟩
  simpa [h9] using e4
theorem acF (ae:FuncId→Bool) (hc:0≤c∧c<t.u11) (h:PM own G m s) (hm:s.ok) (ht:tag≠10) (h10:tg≠10) (aV:tag≠tg) (dP:tag≠th) (ho:G.obj lb=some (bN t c p v x.by_ x.er (eL x.key x.job x.hi x.tries x.ref)))
  {p1 w1:Nat} (e:x.line=5) (hw:iB own tag G lb v [(oO,p1)]) (ha:jc own tag G [p1,w1]) (u:jF G lb p1 w1 uj):pV own tag tg th m t c G lb s x ae:=by
 have ax:x.step t c s=x.l5 t c s:=by unfold aY.step; simp [e]
 obtain ⟨v1,e1,-,-⟩:=hw.ap.drop
 obtain ⟨G0,bl⟩:∃ G0,G0=G.put lb (bN t c p v1 x.by_ x.er (eL x.key x.job x.hi x.tries x.ref)):=⟨_,rfl⟩
 have d1:p1≠lb:=fg u.1 ho (by simp)
 have d2:w1≠lb:=fg u.2 ho (by simp)
 have d7:w1≠p1:=fg u.2 u.1 (by simp)
 have k0:∀ z,z≠lb→G0.obj z=G.obj z:=fun z hz=>by rw [bl,aT,if_neg hz]
 have a0:∀ {z},At own tag G z→At own tag G0 z:=fun a=>by rw [bl]; exact a.bC _ _
 have h0:PM own G0 m s:=by rw [bl]; exact h.put (fun _=>by rw [hw.hb.tag]; exact ht) _
 have o0:G0.obj lb=some (bN t c p v1 x.by_ x.er (eL x.key x.job x.hi x.tries x.ref)):=by rw [bl]; simp
 obtain ⟨ah,G1,e2,kR,eV⟩:=ace ae hc h0 h10 aV ht (a0 (ha p1 (by simp))) (a0 hw.hb) (a0 (ha w1 (by simp))) d1.symm d2 d7 ((k0 p1 d1).trans u.1) o0 ((k0 w1 d2).trans u.2)
 have w3:PW (nF own tg th lb p1) own G0 ah G1 m (mL t c s):=kR.EW
 rw [bl] at w3 e2
 unfold pV
 rw [ax]
 unfold aY.l5
 obtain ⟨G4,e4,w4,jG,o4,k4,n4⟩:=EU (f:=(oO,p1)) ae hw ht aV dP (ha p1 (by simp)).tag ho e1 ((acz ae p1 m _).trans e2) eV w3
 exact ⟨ah,G4,by simpa using e4,w4,v1,p,o4,.over rfl jG⟩
theorem acG (ae:FuncId→Bool) (bD:ae 187=false) (kU:ae 309=false) (eu:ae 211=false) (hs:t.sound) (cR:t.fA) (hA:t.ar.ok) (ko:0≤aB t 0 0) (hc:0≤c∧c<t.u11) (h:PM own G m s) (hm:s.ok) (hx:x.ok t) (qs:x.line=2→∀ g er,(x.al.step t.ar s).1= .done g er→er=0) (ht:tag≠10) (h10:tg≠10) (B7:th≠10) (B8:tg≠th) (aV:tag≠tg) (dP:tag≠th) (hp:xF own tag tg th t c G lb x) :
  ∃ ah G1,(E ae).cl 39 [P0 lb,P0 m] G=some (.bool (decide ((x.step t c s).1.line=9)),G1)∧PW (gE own tag tg th) own G ah G1 m (x.step t c s).2∧xF ah tag tg th t c G1 lb (x.step t c s).1:=by
 have key:pV own tag tg th m t c G lb s x ae:=by
  obtain ⟨v,p,ho,hL⟩:=hp
  cases hL with
  | aW p1 w1 p2 w2 now md e w at_ o1 o2 hq u=>exact acA ae hc h hm hx ht h10 aV dP ho e w at_ o1 o2 hq u
  | al p2 w2 now md e w at_ o1 o2 hq=>exact acB ae bD eu hA h hm hx ht h10 aV dP ho e (qs e) w at_ o1 o2 hq
  | ly p1 w1 p2 w2 p3 w3 now md e w at_ o1 o2 hq u u'=>exact acD ae bD eu hs h hm hx ht h10 aV dP ho e w at_ o1 o2 hq u u'
  | ins p2 w2 p3 w3 now md e w at_ o1 o2 hq u=>exact acE ae bD kU eu hs cR ko h hm hx ht h10 B7 B8 aV dP ho e w at_ o1 o2 hq u
  | un p3 w3 e w at_ u=>exact acF ae hc h hm ht h10 aV dP ho e w at_ u
  | over e w =>
   have ax:x.step t c s=(x,s):=by unfold aY.step; simp [e]
   obtain ⟨a3,n3,zE⟩:=w.ap.sl.len
   unfold pV
   rw [ax]
   refine ⟨own,G,f79 (ai Q ae) _ _ G _ ?_,PW.refl h,v,p,ho,.over e w⟩
   rw [zE] at ho
   simp [s79,ho,e]
 obtain ⟨ah,G1,e1,w1,p1⟩:=key
 refine ⟨ah,G1,f39 (ai Q ae) _ _ G _ ?_,w1,p1⟩
 simp [s39,e1]
end
section
variable {own own' own0 ah aG:Nat→Nat} {tag tg th m r b lb:Nat} {t:TW} {c key job hi:Int} {G G':GS} {s:MS} {x:aY}
theorem acH (ae:FuncId→Bool) (hs:t.sound) (h0:0≤aB t 0 0) (hc:0≤c∧c<t.u11) (hk:U key∧key≠18446744073709551615) (hj:0≤job∧job≤65534) (hh:1≤hi∧hi≤t.ay) (G:GS) :
  ∃ lb G',(E ae).cl 38 [t.v,.int .i64 c,.int .u64 key,.int .i64 job,.int .i64 hi] G=some (P0 lb,G')∧Ext G G' ∧(G.nx≤lb∧lb<G'.nx) ∧
  ∀ own tag tg th,(∀ g,G.nx≤g→g<G'.nx→own g=tag)→xF own tag tg th t c G' lb (.new t key job hi):=by
 obtain ⟨G1,aj⟩:∃ G1,G1=G.push ⟨t.cells,1,false,1⟩:=⟨_,rfl⟩
 have x1:Ext G G1:=by rw [aj]; exact (Ext.refl G).push _
 have n1:G1.nx=G.nx+1:=by rw [aj]; rfl
 have o1:G1.obj G.nx=some ⟨t.cells,1,false,1⟩:=by rw [aj]; simp
 obtain ⟨G2,e2,x2⟩:=JN ae hs h0 c G1
 rw [if_neg (by omega)] at e2
 have y2:=x1.trans x2
 have n2:=x2.nx
 have o2:=(x2.obj G.nx (by omega)).trans o1
 have hz:z138=[.int .i64 0,.int .i64 0,.int .i64 0,.int .i64 0,.int .i64 0,.int .i64 0,.int .i64 0,.int .i64 0,.int .i64 0,.int .i64 0,.int .i64 0,.int .i64 0,.int .i64 0,.int .i64 0,.bool false,.int .i64 0,.slice none 0 0,.int .u64 0,.int .i64 0,.int .u64 0,.int .i64 0,.int .i64 0,.int .i64 0,.int .u64 0]:=rfl
 have xu:z140=[.nilIface]:=rfl
 have hr:rep [Value.nilIface] 2=[.nilIface,.nilIface]:=rfl
 obtain ⟨N,hN⟩:∃ N,N=G2.nx:=⟨_,rfl⟩
 obtain ⟨G3,cF⟩:∃ G3,G3=G2.push (bN t c 0 (.slice none 0 0) 0 0 (eL key job hi 0 0)):=⟨_,rfl⟩
 have x3:Ext G2 G3:=by rw [cF]; exact (Ext.refl G2).push _
 have n3:G3.nx=N+1:=by rw [cF,hN]; rfl
 have ft:G3.obj N=some (bN t c 0 (.slice none 0 0) 0 0 (eL key job hi 0 0)):=by rw [cF,hN]; simp
 have ot3:=((x3.obj G.nx (by omega)).trans o2)
 obtain ⟨G4,bR⟩:∃ G4,G4=(G3.push ⟨[P0 N],1,false,1⟩).push (EV (N+1) (.pointer none) false):=⟨_,rfl⟩
 have e4:(E ae).cl 77 [P0 N] G3=some (.iface sv (P0 (N+2)),G4):=by
  have:=RH ae N G3
  rw [bR]
  simpa [n3] using this
 have x4:Ext G3 G4:=by rw [bR]; exact ((Ext.refl G3).push _).push _
 have n4:G4.nx=N+3:=by rw [bR]; simp [n3]
 have lQ:G4.obj (N+1)=some (sw N):=by rw [bR]; simp [n3]
 have dF:G4.obj (N+2)=some (EV (N+1) (.pointer none) false):=by rw [bR]; simp [n3]
 obtain ⟨G6,eg⟩:∃ G6,G6=(G4.push ⟨[P0 N],1,false,1⟩).push (ET N (N+3)):=⟨_,rfl⟩
 have e6:(E ae).cl 78 [P0 N] G4=some (.iface oQ (P0 (N+4)),G6):=by
  have:=acq ae N G4
  rw [eg]
  simpa [n4] using this
 have x6:Ext G4 G6:=by rw [eg]; exact ((Ext.refl G4).push _).push _
 have n6:G6.nx=N+5:=by rw [eg]; simp [n4]
 have oM:G6.obj (N+3)=some (sw N):=by rw [eg]; simp [n4]
 have cV:G6.obj (N+4)=some (ET N (N+3)):=by rw [eg]; simp [n4]
 obtain ⟨G7,gL⟩:∃ G7,G7=G6.push ⟨dk.flat [(sv,N+2),(oQ,N+4)],1,false,1⟩:=⟨_,rfl⟩
 have x7:Ext G6 G7:=by rw [gL]; exact (Ext.refl G6).push _
 have n7:G7.nx=N+6:=by rw [gL]; simp [n6]
 have JP:G7.obj (N+5)=some ⟨dk.flat [(sv,N+2),(oQ,N+4)],1,false,1⟩:=by rw [gL]; simp [n6]
 have JQ:=((x4.trans x6).obj N (by omega)).trans ft
 have JR:=(x7.obj N (by omega)).trans JQ
 obtain ⟨G8,lO⟩:∃ G8,G8=G7.put N (bN t c 0 (.slice (some ⟨N+5,0,none⟩) 2 2) 0 0 (eL key job hi 0 0)):=⟨_,rfl⟩
 have y7:Ext G G7:=(((y2.trans x3).trans x4).trans x6).trans x7
 have nG:G.nx+1≤N:=by rw [hN]; omega
 have x8:Ext G G8:=by rw [lO]; exact y7.put (by omega) _
 have n8:G8.nx=N+6:=by rw [lO]; exact n7
 have k8:∀ g,g≠N→G8.obj g=G7.obj g:=fun g hg=>by rw [lO,aT,if_neg hg]
 have olr:=ft
 refine ⟨N,G8,f38 (ai Q ae) _ _ _ _ _ G _ ?_,x8,⟨by omega,by omega⟩,fun own tag tg th sV=>?_⟩
 ·have a1:¬ key=18446744073709551615:=hk.2
  have a2:¬ job<0:=by omega
  have a3:¬ 65534<job:=by omega
  have a4:¬ hi<1:=by omega
  have a5:¬ t.ay<hi:=by omega
  rw [cT.pC,cT.Eb] at gL
  simp at gL
  simp [s38,← aj,o1,e2,hz,bQ,bO,eC,← hN,← cF,ft,a1,a2,a3,a4,a5,ot3,ao,e4,e6,xu,hr,BJ,n6,← gL,JR,← lO]
 ·have ha:∀ g,G.nx≤g→g<N+6→At own tag G8 g:=fun g h1 h2=>⟨by omega,sV g h1 (by omega)⟩
  have q6:∀ g,g≠N→g<N+5→G8.obj g=G6.obj g:=fun g h1 h2=>(k8 g h1).trans (x7.obj g (by omega))
  have q4:∀ g,g≠N→g<N+3→G8.obj g=G4.obj g:=fun g h1 h2=>(q6 g h1 (by omega)).trans (x6.obj g (by omega))
  have Sr:G8.obj (N+5)=some ⟨dk.flat [(sv,N+2),(oQ,N+4)],1,false,1⟩:=(k8 _ (by omega)).trans JP
  refine ⟨.slice (some ⟨N+5,0,none⟩) 2 2,0,by rw [lO]; simp [aY.new],.aW (N+2) (N+1) (N+4) (N+3) (.pointer none) false rfl ⟨ha N (by omega) (by omega),⟨?_,?_⟩,?_,by simp⟩ ?_ ((q4 _ (by omega) (by omega)).trans dF) ((q4 _ (by omega) (by omega)).trans lQ) (.inl ⟨rfl,rfl⟩) ⟨(q6 _ (by omega) (by omega)).trans cV,(q6 _ (by omega) (by omega)).trans oM⟩⟩
  ·exact bI.block (e:=dk) (op:=false) (L:=[(sv,N+2),(oQ,N+4)]) Sr (by omega)
  ·exact .inr ⟨N+5,0,_,rfl,by omega,Sr,rfl,rfl⟩
  ·rintro g ⟨a,n,cc,he,rfl⟩
   cases he
   refine ⟨sV _ (by simp; omega) (by simp; omega),by simp,fun f hf=>?_⟩
   simp at hf
   rcases hf with rfl | rfl<;>simp
  ·intro z hz
   simp at hz
   rcases hz with e | e | e | e<;>(rw [e]; exact ha _ (by omega) (by omega))
theorem Ss (ae:FuncId→Bool) (hx:x.line=1∨x.line=2∨x.line=3∨x.line=4∨x.line=5∨x.line=9) (h:xF own tag tg th t c G lb x):(E ae).cl 40 [P0 lb] G=some (.int .i64 (if x.line=9 then x.er else 14),G):=by
 obtain ⟨v,p,ho,hL⟩:=h
 have e1:(E ae).cl 80 [P0 lb] G=some (.int .i64 (if x.line=9 then x.er else 14),G):=by
  refine f80 (ai Q ae) _ G _ ?_
  have key:∀ {L:List (Nat×Nat)},iB own tag G lb v L→∃ a n,v= .slice a L.length n:=fun w=>w.ap.sl.len
  cases hL with
  | aW _ _ _ _ _ _ e w=>obtain ⟨a,n,rfl⟩:=key w; simp [s80,ho,e]
  | al _ _ _ _ e w=>obtain ⟨a,n,rfl⟩:=key w; simp [s80,ho,e]
  | ly _ _ _ _ _ _ _ _ e w=>obtain ⟨a,n,rfl⟩:=key w; simp [s80,ho,e]
  | ins _ _ _ _ _ _ e w=>obtain ⟨a,n,rfl⟩:=key w; simp [s80,ho,e]
  | un _ _ e w=>obtain ⟨a,n,rfl⟩:=key w; simp [s80,ho,e]
  | over e w=>obtain ⟨a,n,rfl⟩:=key w; simp [s80,ho,e]
 refine f40 (ai Q ae) _ G _ ?_
 simp [s40,e1]
end
section
variable {s:MS} {a b v x y:Int} {k:Int} {u:Int→Int×Bool}
theorem MS.EX (s:MS) (h:0≤a∧a<s.W.length):s.aI a=(s.W[a.toNat]?).getD 0:=by unfold MS.aI; rw [if_pos h]
theorem Cb (s:MS) (k a:Int) (u:Int→Int×Bool):(s.acc k a u).W.length=s.W.length:=by unfold MS.acc; split<;>simp
theorem J9 (h:0≤a∧a<s.W.length):(s.acc k a u).new=(u (s.aI a)).1∧(s.acc k a u).held=(u (s.aI a)).2:=by
 unfold MS.acc
 rw [if_pos h,s.EX h]
 exact ⟨rfl,rfl⟩
theorem Cc (h:0≤a∧a<s.W.length) (b:Int):(s.acc k a u).aI b=if b=a then (u (s.aI a)).1 else s.aI b:=by
 have hl:=Cb s k a u
 by_cases hb:0≤b∧b<s.W.length
 ·rw [MS.EX _ (by rw [hl]; exact hb),s.EX h,s.EX hb]
  unfold MS.acc
  rw [if_pos h]
  simp only [List.getElem?_set]
  by_cases e:b=a
  ·subst e
   rw [if_pos rfl,if_pos rfl,if_pos (by omega)]
   rfl
  ·rw [if_neg (by omega),if_neg e]
 ·have e:¬ b=a:=by rintro rfl; exact hb h
  rw [if_neg e]
  unfold MS.aI
  rw [if_neg (by rw [hl]; exact hb),if_neg hb]
theorem uo (h:0≤a∧a<s.W.length):(s.load a).new=s.aI a:=(J9 (k:=1) (u:=vx) h).1
theorem Sv (h:0≤a∧a<s.W.length) (b:Int):(s.load a).aI b=s.aI b:=by
 have:=Cc (k:=1) (u:=vx) h b
 rw [show (s.load a).aI b=_ from this]
 split
 ·rename_i e; rw [e]; rfl
 ·rfl
theorem zF (s:MS) (a:Int):(s.load a).W.length=s.W.length:=Cb _ _ _ _
theorem oR (h:0≤a∧a<s.W.length) (v b:Int):(s.store a v).aI b=if b=a then v else s.aI b:=Cc (k:=2) (u:=zd v) h b
theorem lT (s:MS) (a v:Int):(s.store a v).W.length=s.W.length:=Cb _ _ _ _
theorem Ka (h:0≤a∧a<s.W.length) (x y:Int):(s.bT a x y).held=decide (s.aI a=x):=by
 have:=(J9 (k:=3) (u:=qG x y) h).2
 rw [show (s.bT a x y).held=_ from this]
 unfold qG
 split
 ·rename_i e; simp [e]
 ·rename_i e; simp [e]
theorem EY (h:0≤a∧a<s.W.length) (x y b:Int):(s.bT a x y).aI b=if b=a∧s.aI a=x then y else s.aI b:=by
 have:=Cc (k:=3) (u:=qG x y) h b
 rw [show (s.bT a x y).aI b=_ from this]
 unfold qG
 by_cases e:b=a
 ·by_cases e2:s.aI a=x
  ·simp [e,e2]
  ·simp [e,e2]
 ·simp [e]
theorem acI (s:MS) (a x y:Int):(s.bT a x y).W.length=s.W.length:=Cb _ _ _ _
theorem acJ (h:0≤a∧a<s.W.length) (v b:Int):(s.add a v).aI b=if b=a then IntKind.wrap .u64 (s.aI a+v) else s.aI b:=Cc (k:=4) (u:=ze v) h b
end
abbrev Vw:=Int→Int→Int
def Vw.set (c:Vw) (i p v:Int):Vw:=fun j q=>if j=i∧q=p then v else c j q
def um (w:Int):Int:=w % bp
abbrev Mk (w:Int):Prop:=bp≤w
theorem sy {w:Int} (h:U w) (k:¬ Mk w):um w=w:=by have:=h.1; unfold um Mk bp at *; omega
theorem Sw {w:Int} (h:U w) (k:Mk w):um w=w - bp:=by have:=h.2; have:=h.1; unfold um Mk bp at *; omega
theorem acK {w:Int} (h0:0≤w) (h:w<bp):um (w+bp)=w:=by unfold um bp at *; omega
theorem Kb (w:Int):0≤um w∧um w<bp:=by unfold um bp; omega
theorem Sx (w:Int):um (um w)=um w:=by unfold um bp; omega
theorem Vw.vH (c:Vw) (i p v:Int):c.set i p v i p=v:=by simp [Vw.set]
theorem Vw.pW (c:Vw) {i p j q:Int} (v:Int) (h:¬ (j=i∧q=p)):c.set i p v j q=c j q:=by simp [Vw.set,h]
theorem Vw.mM (c:Vw) {i p j q:Int} (v:Int) (h:j≠i):c.set i p v j q=c j q:=c.pW v fun k=>h k.1
theorem Vw.dC (c:Vw) {i p j q:Int} (v:Int) (h:q≠p):c.set i p v j q=c j q:=c.pW v fun k=>h k.2
def vw (t:TW) (s:MS):Vw:=fun i p=>s.aI (aB t i p)
def dg (t:TW) (i p:Int):Prop:=(i= -1∧4≤p∧p<4+t.ay)∨(0≤i∧i<t.size∧0≤p∧p<4+t.ay)
structure hY (t:TW) (N:Nat):Prop where
 sound:t.sound
 zG:∀ i p,dg t i p→0≤aB t i p∧aB t i p<N
 inj:∀ i p j q,dg t i p→dg t j q→aB t i p=aB t j q→i=j∧p=q
section
variable {t:TW} {s:MS} {i p j q v w a:Int} {N:Nat}
theorem Sy (h:¬ dg t i p):aB t i p= -1:=by
 unfold aB dg at *
 split
 ·split
  ·rw [if_neg (fun k=>h (.inl ⟨by assumption,k⟩))]
  ·rw [if_neg (fun k=>h (.inr k))]
 ·rfl
theorem xG (h:¬ dg t i p):vw t s i p=0:=by
 unfold vw
 rw [Sy h]
 unfold MS.aI
 rw [if_neg (by omega)]
theorem Kc (L:hY t s.W.length) (h:dg t i p) {s':MS} (hs:∀ b,s'.aI b=if b=aB t i p then v else s.aI b):vw t s' =(vw t s).set i p v:=by
 funext j q
 unfold Vw.set
 by_cases hj:dg t j q
 ·by_cases e:j=i∧q=p
  ·rw [if_pos e]; unfold vw; rw [hs,e.1,e.2,if_pos rfl]
  ·rw [if_neg e]; unfold vw; rw [hs,if_neg]
   intro k
   exact e (L.inj _ _ _ _ hj h k)
 ·rw [xG hj,if_neg,xG hj]
  rintro ⟨rfl,rfl⟩; exact hj h
theorem nH (L:hY t s.W.length) (h:dg t i p):(s.load (aB t i p)).new=vw t s i p∧vw t (s.load (aB t i p))=vw t s:=by
 have r:=L.zG _ _ h
 exact ⟨uo r,by funext j q; exact Sv r _⟩
theorem zH (L:hY t s.W.length) (h:dg t i p) (v:Int):vw t (s.store (aB t i p) v)=(vw t s).set i p v:=Kc L h (oR (L.zG _ _ h) v)
theorem xH (L:hY t s.W.length) (h:dg t i p) {x:Int} (v:Int) (e:vw t s i p=x):(s.bT (aB t i p) x v).held=true∧vw t (s.bT (aB t i p) x v)=(vw t s).set i p v:=by
 have r:=L.zG _ _ h
 refine ⟨by rw [Ka r]; exact decide_eq_true e,Kc L h fun b=>?_⟩
 rw [EY r]
 by_cases hb:b=aB t i p
 ·rw [if_pos ⟨hb,e⟩,if_pos hb]
 ·rw [if_neg (fun k=>hb k.1),if_neg hb]
theorem xI (L:hY t s.W.length) (h:dg t i p) {x:Int} (v:Int) (e:vw t s i p≠x):(s.bT (aB t i p) x v).held=false∧vw t (s.bT (aB t i p) x v)=vw t s:=by
 have r:=L.zG _ _ h
 refine ⟨by rw [Ka r]; exact decide_eq_false e,?_⟩
 funext j q
 unfold vw
 rw [EY r,if_neg (fun k=>e k.2)]
theorem acL (L:hY t s.W.length) (h:dg t i p) (v:Int):(s.add (aB t i p) v).new=IntKind.wrap .u64 (vw t s i p+v)∧vw t (s.add (aB t i p) v)=(vw t s).set i p (IntKind.wrap .u64 (vw t s i p+v)):=by
 have r:=L.zG _ _ h
 exact ⟨(J9 (k:=4) (u:=ze v) r).1,Kc L h (acJ r v)⟩
theorem jI {l:Int} (h:t.sound) (h0:0≤l) (h1:l<t.ay) (i:Int):aX t i l=aB t i (4+l):=by
 have:=h.2.1
 unfold aX; rw [if_pos (by omega)]
theorem oS {l:Int} (h0:0≤l) (h1:l<t.ay) (hi:i= -1∨0≤i∧i<t.size):dg t i (4+l):=by
 rcases hi with e | e
 ·exact .inl ⟨e,by omega,by omega⟩
 ·exact .inr ⟨e.1,e.2,by omega,by omega⟩
theorem acM (hs:s.ok):U (vw t s i p):=hs.aI _
end
def jd (c:Vw) (rf:Int→Int) (l:Int):Int→List Int→Prop
 | p,[]=>um (c p (4+l))=0
 | p,i::L=>um (c p (4+l))=rf i∧jd c rf l i L
def fP (c:Vw) (rf:Int→Int) (l:Int):Int→List Int→Int→Prop
 | p,[],q=>p=q
 | p,i::L,q=>um (c p (4+l))=rf i∧fP c rf l i L q
section
variable {c c':Vw} {rf:Int→Int} {l p q i j v:Int} {A B L:List Int}
theorem jd.split (h:jd c rf l p (A++B)):∃ q,fP c rf l p A q∧jd c rf l q B:=by
 induction A generalizing p with
 | nil=>exact ⟨p,rfl,h⟩
 | cons a A ih=>obtain ⟨q,h1,h2⟩:=ih h.2; exact ⟨q,⟨h.1,h1⟩,h2⟩
theorem fP.pX (h:fP c rf l p A q) (k:jd c rf l q B):jd c rf l p (A++B):=by
 induction A generalizing p with
 | nil=>cases h; exact k
 | cons a A ih=>exact ⟨h.1,ih h.2⟩
theorem fP.end (h:fP c rf l p A q):(A=[]∧q=p)∨∃ A',A=A' ++[q]:=by
 induction A generalizing p with
 | nil=>exact .inl ⟨rfl,h.symm⟩
 | cons a A ih =>
  rcases ih h.2 with ⟨rfl,rfl⟩ | ⟨A',rfl⟩
  ·exact .inr ⟨[],rfl⟩
  ·exact .inr ⟨a::A',rfl⟩
theorem jd.at (h:jd c rf l p L) (hq:q=p∨q∈L) (hp:p∉L):∃ A B,L=A++B∧fP c rf l p A q∧jd c rf l q B:=by
 rcases hq with rfl | hq
 ·exact ⟨[],L,rfl,rfl,h⟩
 ·obtain ⟨A,B,rfl⟩:=List.append_of_mem hq
  have e:A++q::B=(A++[q])++B:=by simp
  rw [e] at h ⊢
  obtain ⟨r,h1,h2⟩:=h.split
  have:r=q:=by
   rcases h1.end with ⟨h3,_⟩ | ⟨A',h3⟩
   ·simp at h3
   ·have:=List.append_inj' h3 rfl
    simpa using this.2.symm
  subst this
  exact ⟨A++[r],B,rfl,h1,h2⟩
theorem jd.same (h:jd c rf l p L) (k:∀ q,q=p∨q∈L→um (c' q (4+l))=um (c q (4+l))):jd c' rf l p L:=by
 induction L generalizing p with
 | nil=>exact (k p (.inl rfl)).trans h
 | cons a L ih=>exact ⟨(k p (.inl rfl)).trans h.1,ih h.2 fun q hq=>k q (.inr (by simpa using hq))⟩
theorem fP.same (h:fP c rf l p A q) (k:∀ r,r∈(p::A).dropLast→um (c' r (4+l))=um (c r (4+l))):fP c' rf l p A q:=by
 induction A generalizing p with
 | nil=>exact h
 | cons a A ih=>exact ⟨(k p (by simp)).trans h.1,ih h.2 fun r hr=>k r (by simp only [List.dropLast_cons_cons]; exact List.mem_cons_of_mem _ hr)⟩
theorem fP.Kd (h:fP c rf l p A q) (hn:(p::(A++B)).Nodup):q∉(p::A).dropLast∧q∉B:=by
 rcases h.end with ⟨rfl,rfl⟩ | ⟨A',rfl⟩
 ·simp at hn ⊢
  exact hn.1
 ·have e:(p::(A' ++[q])).dropLast=p::A':=by
   rw [show p::(A' ++[q])=(p::A')++[q] from rfl,List.dropLast_concat]
  rw [e]
  simp [List.nodup_append] at hn ⊢
  grind
theorem jd.unlink (h:jd c rf l p (A++j::B)) (hq:fP c rf l p A q) (hn:(p::(A++j::B)).Nodup):jd (c.set q (4+l) (um (c j (4+l)))) rf l p (A++B):=by
 obtain ⟨r,h1,h2⟩:=h.split
 have e:r=q:=by
  clear h2 hn h
  induction A generalizing p with
  | nil=>exact h1.symm.trans hq
  | cons a A ih=>exact ih hq.2 h1.2
 subst e
 obtain ⟨n1,n2⟩:=h1.Kd hn
 have hj:j≠r:=fun e=>n2 (by simp [e])
 have hB:r∉B:=fun hb=>n2 (by simp [hb])
 refine fP.pX (h1.same fun z hz=>?_) ?_
 ·rw [Vw.mM _ _ (fun e=>n1 (by rw [← e]; exact hz))]
 ·have h3:=h2.2
  cases B with
  | nil =>
   show um _=0
   rw [Vw.vH,Sx]
   exact h3
  | cons b B =>
   refine ⟨by rw [Vw.vH,Sx]; exact h3.1,h3.2.same fun z hz=>?_⟩
   rw [Vw.mM]
   rintro rfl
   exact hB (by simpa using hz)
theorem jd.link (h:jd c rf l p (A++B)) (hq:fP c rf l p A q) (hn:(p::(A++B)).Nodup) (hi:i∉p::(A++B)) (hw:um (c i (4+l))=um (c q (4+l))) (hr:um (rf i)=rf i):jd (c.set q (4+l) (rf i)) rf l p (A++i::B):=by
 obtain ⟨r,h1,h2⟩:=h.split
 have e:r=q:=by
  clear h2 hn h hw hi
  induction A generalizing p with
  | nil=>exact h1.symm.trans hq
  | cons a A ih=>exact ih hq.2 h1.2
 subst e
 obtain ⟨n1,n2⟩:=h1.Kd hn
 have xJ:i≠r:=by
  rintro rfl
  rcases h1.end with ⟨rfl,rfl⟩ | ⟨A',rfl⟩
  ·exact hi (by simp)
  ·exact hi (by simp)
 refine fP.pX (h1.same fun z hz=>?_) ⟨by rw [Vw.vH]; exact hr,?_⟩
 ·rw [Vw.mM _ _ (fun e=>n1 (by rw [← e]; exact hz))]
 ·cases B with
  | nil =>
   show um _=0
   rw [Vw.mM _ _ xJ,hw]
   exact h2
  | cons b B =>
   refine ⟨by rw [Vw.mM _ _ xJ,hw]; exact h2.1,h2.2.same fun z hz=>?_⟩
   rw [Vw.mM]
   rintro rfl
   exact n2 (by simpa using hz)
end
end Go.Proofs.YtphandknhnkhfaaGreat.Lift
