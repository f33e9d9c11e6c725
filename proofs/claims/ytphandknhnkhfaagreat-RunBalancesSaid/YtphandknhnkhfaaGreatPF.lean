import Derived.Test.YtphandknhnkhfaaGreatPE
import Derived.Test.YtphandknhnkhfaaGreatPB
set_option linter.unusedVariables false
set_option linter.unusedSimpArgs false
set_option maxRecDepth 20000
namespace Go.Proofs.YtphandknhnkhfaaGreat.Lift
open Go Go.Proofs.YtphandknhnkhfaaGreat.Gh Go.Proofs
section
variable {own own' own0 ah aG:Nat→Nat} {tag tg m r b lb pb wb tb xb q:Nat} {t:TW} {c p0 by_ ik ij ie:Int} {parts:Value} {G G' G1 G2:GS} {s s' s1:MS}
theorem Rx (ae:FuncId→Bool) (h:PM own G m s) (ht:tag≠10) (hb:At own tag G q) (ho:G.obj q=some (nu t c q 0)) :
  ∃ ah G1,(E ae).cl 299 [P0 q,P0 m] G=some (.bool true,G1)∧PW (Own own tag) own G ah G1 m (mL t c s):=by
 have x0:Ext G (G.room 11):=(Ext.refl G).room 11
 have w0:=(PW.refl (B:=Own own tag) h).de x0 tag
 have kE:=hb.gO x0 tag
 have o0:(G.room 11).obj q=some (nu t c q 0):=by simpa using ho
 generalize grown own G tag=own0 at *
 obtain ⟨ah,G1,e1,w1⟩:=w0.pm.store ae (t.aW c) 0
 have eQ:=w0.tr w1.any
 have bM:=kE.to w1.nx w1.aO.cd
 have o1:=(kE.keep ht w1).trans o0
 refine ⟨ah,(G1.put q (nu t c q (-1))).put q (nu t c q (-1)),f299 (ai Q ae) _ _ G _ ?_,(eQ.bf bM.tag ht _).bf bM.tag ht _⟩
 have e3:(E ae).cl 148 [P0 q,.int .i64 0] G1=some (.tuple #[],(G1.put q (nu t c q (-1))).put q (nu t c q (-1))):=by
  refine f148 (ai Q ae) _ _ _ _ ?_
  simp [s148,o1]
 have e2:(E ae).cl 160 [P0 q,P0 m] (G.room 11)=some (.tuple #[],(G1.put q (nu t c q (-1))).put q (nu t c q (-1))):=by
  refine f160 (ai Q ae) _ _ _ _ ?_
  simp [s160,o0,e1,e3]
 have e4:(E ae).cl 226 [P0 q,P0 m] G=some (.bool true,(G1.put q (nu t c q (-1))).put q (nu t c q (-1))):=by
  refine f226 (ai Q ae) _ _ _ _ ?_
  simp [s226,ho,e2]
 simp [s299,e4]
abbrev ny (wb:Nat) (now:Value) (md:Bool):aR:=bH (bu 120 wb) .nilFunc .nilFunc now md
theorem abS (ae:FuncId→Bool) (hc:0≤c∧c<t.u11) (h:PM own G m s) (h10:tg≠10) (aV:tag≠tg) (ht:tag≠10)
  (ap:At own tag G pb) (al:At own tag G lb) (aw:At own tag G wb) (d1:lb≠pb) (d2:wb≠lb) (d3:wb≠pb)
  (op:G.obj pb=some (ny wb (.pointer none) false)) (ol:G.obj lb=some (cP t c p0 parts by_ ik ij ie)) (ow:G.obj wb=some ⟨[P0 lb],1,false,1⟩) :
  ∃ ah G1,(E ae).cl 297 [P0 pb,P0 m] G=some (.tuple #[.bool true,.int .u64 0],G1)∧PW (Bq own tg lb pb) own G ah G1 m (mL t c s)∧G1.obj lb=some (cP t c p0 parts by_ ik ij ie):=by
 have x0:Ext G (G.room 12):=(Ext.refl G).room 12
 obtain ⟨q,G1,e1,x1,q1,o1⟩:=Ro ae hc (G.room 12)
 have e2:(E ae).cl 120 [P0 wb] G=some (P0 q,G1):=by
  refine f120 (ai Q ae) _ G _ ?_
  simp [s120,ow,ol,e1]
 have y1:=x0.trans x1
 have tB:G.nx≤q:=by have:=q1.1; simp at this; omega
 obtain ⟨G2,aD⟩:∃ G2,G2=(G1.put pb (ny wb (P0 q) false)).put pb (ny wb (P0 q) true):=⟨_,rfl⟩
 have a1:∀ {g},At own tag G g→At (grown own G tg) tag G1 g:=fun a=>a.to y1.nx db
 have w1:PW (Bq own tg lb pb) own G (grown own G tg) G1 m s:=(PW.refl h).de y1 tg
 have w2:PW (Bq own tg lb pb) own G (grown own G tg) G2 m s:=by
  rw [aD]
  exact (w1.put (.inl (.inr (.inl rfl))) (fun _=>by rw [(a1 ap).tag]; exact ht) _).put (.inl (.inr (.inl rfl))) (fun _=>by rw [(a1 ap).tag]; exact ht) _
 have n2:G2.nx=G1.nx:=by rw [aD]; rfl
 have b2:∀ {g},At own tag G g→At (grown own G tg) tag G2 g:=fun a=>⟨by rw [n2]; exact (a1 a).lt,(a1 a).tag⟩
 have eV:G2.obj lb=some (cP t c p0 parts by_ ik ij ie):=by rw [aD,aT,if_neg d1,aT,if_neg d1]; exact (y1.obj _ al.lt).trans ol
 have cV:G2.obj pb=some (ny wb (P0 q) true):=by rw [aD]; simp
 have kX:q≠pb:=by have:=ap.lt; omega
 have aq:At (grown own G tg) tg G2 q:=⟨by rw [n2]; exact q1.2,gx tB⟩
 have oq:G2.obj q=some (nu t c q 0):=by rw [aD,aT,if_neg kX,aT,if_neg kX]; exact o1
 have dF:=(y1.obj _ ap.lt).trans op
 obtain ⟨bB,G3,e3,w3⟩:=Rx ae w2.pm h10 aq oq
 have kp:∀ {g},At own tag G g→G3.obj g=G2.obj g:=fun a=>w3.tV (b2 a).lt (b2 a).tag ht aV
 have gg:=(kp ap).trans cV
 have ft:=(kp al).trans eV
 exact ⟨bB,G3,ue.make ⟨_,_,e3,gg,.inl ⟨rfl,rfl,rfl⟩,gg,.inl ⟨.inr rfl,.inl rfl,rfl⟩⟩ (Ru ae) op (.inl rfl) (.inl rfl) (by simpa using e2) dF aD,w2.sub w3 fun x hx k=>.inr (.inr k),ft⟩
abbrev pP (tb xb:Nat) (now:Value) (md:Bool):aR:=bH (bu 82 tb) (.func (.func 84) #[] #[]) (bu 85 xb) now md
theorem Ry (ae:FuncId→Bool) {x:aE} (bD:ae 187=false) (hs:t.sound) (cR:t.fA) (h:PM own G m s) (hm:s.ok) (hx:x.ok true t) (h10:tg≠10) (aV:tag≠tg) (ht:tag≠10)
  (ap:At own tag G pb) (al:At own tag G lb) (aw:At own tag G xb) (d1:lb≠pb) (d2:xb≠lb) (d3:xb≠pb)
  (op:G.obj pb=some (pP tb xb (P0 q) true)) (ol:G.obj lb=some (cP t c p0 parts by_ ik ij ie)) (ow:G.obj xb=some ⟨[P0 lb],1,false,1⟩) (hq:pO own tg t G q x) :
  ∃ ah G1,ue ae 267 pb m q (bu 82 tb) (.func (.func 84) #[] #[]) (bu 85 xb) (decide ((x.step true t s).1.line=99)) (x.step true t s).1.by_ G G1∧PW (Bq own tg lb pb) own G ah G1 m (x.step true t s).2∧pO ah tg t G1 q (x.step true t s).1 ∧
   G1.obj pb=some (pP tb xb (P0 q) true)∧G1.obj lb=some (if (x.step true t s).1.line=99 then cP t c p0 parts by_ (x.step true t s).1.ik (x.step true t s).1.ij (x.step true t s).1.ie else cP t c p0 parts by_ ik ij ie):=by
 have fF:=(hx.step hs cR hm).1
 obtain ⟨ah,G1,e1,w1,k1⟩:=abx ae bD hs cR h hm hx h10 hq
 generalize (x.step true t s).2=s' at *
 generalize (x.step true t s).1=x' at *
 have kp:∀ {g},At own tag G g→G1.obj g=G.obj g:=fun a=>w1.tV a.lt a.tag ht aV
 have dF:=(kp ap).trans op
 have g8:=(kp al).trans ol
 have lQ:=(kp aw).trans ow
 have eQ:PW (Bq own tg lb pb) own G ah G1 m s':=w1.mono fun _ _ h=>.inr (.inr h)
 have x2:Ext G1 (G1.room 10):=(Ext.refl G1).room 10
 have e2:=abA ae (G:=G1.room 10) (by simpa using k1.2)
 have w2:=eQ.de x2 13
 have kX:q≠pb:=fun k=>by have:=hq.1.tag; rw [k,ap.tag] at this; exact aV this
 have k2:pO (grown ah G1 13) tg t (G1.room 10) q x':=k1.to x2.nx (fun g _ _=>by simp) db
 have a2:∀ {g},At own tag G g→At (grown ah G1 13) tag (G1.room 10) g:=fun a=>(a.to w1.nx w1.aO.cd).to x2.nx db
 have cV:(G1.room 10).obj pb=some (pP tb xb (P0 q) true):=by simpa using dF
 have eV:(G1.room 10).obj lb=some (cP t c p0 parts by_ ik ij ie):=by simpa using g8
 have oM:(G1.room 10).obj xb=some ⟨[P0 lb],1,false,1⟩:=by simpa using lQ
 generalize grown ah G1 13=aG at *
 by_cases hl:x'.line=99
 ·rw [if_pos hl]
  have x3:Ext (G1.room 10) (((G1.room 10).room 9).room 15):=((Ext.refl _).room 9).room 15
  obtain ⟨G3,e3,JH⟩:=abz ae fF (G:=((G1.room 10).room 9).room 15) (by simpa using k2.2) (by have:=k2.1.lt; simp at this ⊢; omega)
  have y3:=x3.trans JH
  have w3:=w2.de y3 13
  have k3:pO (grown aG (G1.room 10) 13) tg t G3 q x':=k2.to y3.nx (fun g hg _=>y3.obj g hg) db
  have a3:∀ {g},At own tag G g→At (grown aG (G1.room 10) 13) tag G3 g:=fun a=>(a2 a).to y3.nx db
  have ft:=(y3.obj lb (a2 al).lt).trans eV
  have gg:=(y3.obj pb (a2 ap).lt).trans cV
  have zu:=(y3.obj xb (a2 aw).lt).trans oM
  have EG:(((G1.room 10).room 9).room 15).obj xb=some ⟨[P0 lb],1,false,1⟩:=by simpa using oM
  generalize grown aG (G1.room 10) 13=bB at *
  have sg:q≠lb:=fun k=>by have:=hq.1.tag; rw [k,al.tag] at this; exact aV this
  refine ⟨bB,(G3.put lb (cP t c p0 parts by_ x'.ik x'.ij ie)).put lb (cP t c p0 parts by_ x'.ik x'.ij x'.ie),?_,(w3.put (.inl (.inl rfl)) (fun _=>by rw [(a3 al).tag]; exact ht) _).put (.inl (.inl rfl)) (fun _=>by rw [(a3 al).tag]; exact ht) _,⟨(k3.1.bC _ _).bC _ _,by rw [aT,if_neg sg,aT,if_neg sg]; exact k3.2⟩,by rw [aT,if_neg d1.symm,aT,if_neg d1.symm]; exact gg,by simp⟩
  have e4:(E ae).cl 85 [P0 q,P0 xb] ((G1.room 10).room 9)=some (.tuple #[],(G3.put lb (cP t c p0 parts by_ x'.ik x'.ij ie)).put lb (cP t c p0 parts by_ x'.ik x'.ij x'.ie)):=by
   refine f85 (ai Q ae) _ _ _ _ ?_
   unfold gA at e3
   simp [s85,EG,e3,zu,ft,br,same,cm,bQ,bO,eC,d2]
  exact ⟨_,_,e1,dF,.inr ⟨_,rfl,e2⟩,cV,.inr ⟨by simp [hl],_,_,_,rfl,by rw [jq]; exact e4⟩⟩
 ·rw [if_neg hl]
  refine ⟨aG,G1.room 10,?_,w2,k2,cV,eV⟩
  exact ⟨_,_,e1,dF,.inr ⟨_,rfl,e2⟩,cV,.inl ⟨.inl (by simp [hl]),.inr ⟨_,_,_,rfl⟩,rfl⟩⟩
def zw (own:Nat→Nat) (tg:Nat) (t:TW) (G:GS) (now:Value) (md:Bool) (x:aE):Prop:=(md=false∧x=aE.new t)∨(md=true∧∃ q,now=P0 q∧pO own tg t G q x)
theorem abT (ae:FuncId→Bool) {x:aE} (bD:ae 187=false) (hs:t.sound) (cR:t.fA) (h:PM own G m s) (hm:s.ok) (hx:x.ok true t) (h10:tg≠10) (aV:tag≠tg) (ht:tag≠10)
  (ap:At own tag G pb) (al:At own tag G lb) (aw:At own tag G xb) (at_:At own tag G tb) (d1:lb≠pb) (d2:xb≠lb) (d3:xb≠pb) {now:Value} {md:Bool}
  (op:G.obj pb=some (pP tb xb now md)) (ol:G.obj lb=some (cP t c p0 parts by_ ik ij ie)) (ow:G.obj xb=some ⟨[P0 lb],1,false,1⟩) (ot:G.obj tb=some ⟨t.cells,1,false,1⟩) (hq:zw own tg t G now md x) :
  ∃ ah G1 q,(E ae).cl 266 [P0 pb,P0 m] G=some (.tuple #[.bool (decide ((x.step true t s).1.line=99)),.int .u64 (x.step true t s).1.by_],G1)∧PW (Bq own tg lb pb) own G ah G1 m (x.step true t s).2∧pO ah tg t G1 q (x.step true t s).1 ∧
   G1.obj pb=some (pP tb xb (P0 q) true)∧G1.obj lb=some (if (x.step true t s).1.line=99 then cP t c p0 parts by_ (x.step true t s).1.ik (x.step true t s).1.ij (x.step true t s).1.ie else cP t c p0 parts by_ ik ij ie):=by
 rcases hq with ⟨rfl,rfl⟩ | ⟨rfl,q,rfl,hq⟩
 ·obtain ⟨q,G1,e1,y1,o1,q1,q2⟩:=abC ae hs G
  have e2:(E ae).cl 82 [P0 tb] G=some (P0 q,G1):=by
   refine f82 (ai Q ae) _ G _ ?_
   have el:eI 13 tb 0 G=some t.v:=by simp [ot]
   simp [-iw,s82,el,e1]
  obtain ⟨G2,aD⟩:∃ G2,G2=(G1.put pb (pP tb xb (P0 q) false)).put pb (pP tb xb (P0 q) true):=⟨_,rfl⟩
  have a1:∀ {g},At own tag G g→At (grown own G tg) tag G1 g:=fun a=>a.to y1.nx db
  have w1:PW (Bq own tg lb pb) own G (grown own G tg) G1 m s:=(PW.refl h).de y1 tg
  have w2:PW (Bq own tg lb pb) own G (grown own G tg) G2 m s:=by
   rw [aD]
   exact (w1.put (.inl (.inr (.inl rfl))) (fun _=>by rw [(a1 ap).tag]; exact ht) _).put (.inl (.inr (.inl rfl))) (fun _=>by rw [(a1 ap).tag]; exact ht) _
  have n2:G2.nx=G1.nx:=by rw [aD]; rfl
  have b2:∀ {g},At own tag G g→At (grown own G tg) tag G2 g:=fun a=>⟨by rw [n2]; exact (a1 a).lt,(a1 a).tag⟩
  have eV:G2.obj lb=some (cP t c p0 parts by_ ik ij ie):=by rw [aD,aT,if_neg d1,aT,if_neg d1]; exact (y1.obj _ al.lt).trans ol
  have oM:G2.obj xb=some ⟨[P0 lb],1,false,1⟩:=by rw [aD,aT,if_neg d3,aT,if_neg d3]; exact (y1.obj _ aw.lt).trans ow
  have cV:G2.obj pb=some (pP tb xb (P0 q) true):=by rw [aD]; simp
  have kX:q≠pb:=by have:=ap.lt; omega
  have B1:pO (grown own G tg) tg t G2 q (aE.new t):=⟨⟨by rw [n2]; exact q2,gx q1⟩,by rw [aD,aT,if_neg kX,aT,if_neg kX]; exact o1⟩
  have dF:=(y1.obj _ ap.lt).trans op
  obtain ⟨bB,G3,e3,w3,k3,gg,ft⟩:=Ry ae bD hs cR w2.pm hm hx h10 aV ht (b2 ap) (b2 al) (b2 aw) d1 d2 d3 cV eV oM B1
  refine ⟨bB,G3,q,e3.make (Rv ae) op (.inr ⟨_,_,_,rfl⟩) (.inr ⟨_,_,_,rfl⟩) (by simpa using e2) dF aD,w2.trans w3 ?_,k3,gg,ft⟩
  intro x hx k
  rcases k with k | k | k
  ·exact .inl k
  ·exact .inr (.inl k)
  ·exact .inr (.inr ((db _ hx).symm.trans k))
 ·obtain ⟨bB,G3,e3,w3,k3,gg,ft⟩:=Ry ae bD hs cR h hm hx h10 aV ht ap al aw d1 d2 d3 op ol ow hq
  exact ⟨bB,G3,q,e3.made (Rv ae) op,w3,k3,gg,ft⟩
end
def dk:cT (Nat×Nat):=⟨1,fun x=>[.iface x.1 (P0 x.2)],fun _=>rfl,fun _=>rfl,by decide⟩
@[simp] theorem abU:dk.sz=1:=rfl
@[simp] theorem apT (x:Nat×Nat):dk.row x=[.iface x.1 (P0 x.2)]:=rfl
section
variable {own own' own0 ah aG:Nat→Nat} {tag tg m r b lb pb wb tb xb q:Nat} {t:TW} {c p p' by_ eY ik ij ie pQ pR pS:Int} {v v1:Value} {G G' G1 G2 G18:GS} {s s' s1:MS} {f:Nat×Nat} {rest:List (Nat×Nat)} {d:Bool}
theorem abV {s:Nat} {a a':Addr} {n c n' c':Nat} {lo hi mx:Option Value} (h:jo s (.slice (some a) n c) lo hi mx G=some (.slice (some a') n' c')):a'.block=a.block:=by
 simp only [jo] at h
 cases ho:G.obj a.block with
 | none=>simp [ho] at h
 | some o =>
  simp only [ho] at h
  repeat' (split at h)
  all_goals first | (cases h; rfl) | cases h | contradiction
theorem vG (hv:bI dk G v (f::rest)):∃ b o cap v1,v= .slice (some ⟨b,o,none⟩) (rest.length+1) cap∧G.cell b o=some (.iface f.1 (P0 f.2))∧jo 1 v (some (.int .i64 1)) none none G=some v1∧bI dk G v1 rest∧∀ g,cY v1 g→cY v g:=by
 obtain ⟨b,o,cap,e0,_,q0,_⟩:=hv.at (i:=0) (by simp)
 have c0:=q0 0 (by decide)
 simp [-iv] at c0
 obtain ⟨v1,e1,s1⟩:=hv.drop (k:=.i64) (o:=1) (by simp)
 refine ⟨b,o,cap,v1,by simpa using e0,c0,by simpa using e1,by simpa using s1,?_⟩
 rintro g ⟨a,n,c',rfl,hg⟩
 rw [e0] at e1
 exact ⟨_,_,_,e0,(abV e1).symm.trans hg⟩
theorem JI (ae:FuncId→Bool) (hv:bI dk G v (f::rest)) (ho:G.obj lb=some (cP t c p v by_ ik ij ie)) (h1:jo 1 v (some (.int .i64 1)) none none G=some v1) (iJ:bI dk G18 v1 rest) (hlen:rest.length<10)
  (et:dS Q (aC Q ae) (.iface f.1 (P0 f.2)) "coxswain/ready.run" [P0 m] (G.put lb (cP t c p v1 by_ ik ij ie))=some (.tuple #[.bool true,.int .u64 eY],G18)) (o18:G18.obj lb=some (cP t c p' v1 by_ pQ pR pS)) :
  (E ae).cl 79 [P0 lb,P0 m] G=some (.bool (decide (rest.length=0)),G18.put lb (cP t c p' v1 eY pQ pR pS)):=by
 obtain ⟨b,o,cap,v2,e0,c0,e1,-,-⟩:=vG hv
 rw [h1] at e1
 simp at c0
 obtain ⟨a1,n1,rfl⟩:=iJ.len
 have iU:¬ ((rest.length:Int)+1=0):=by omega
 have kM:(0:Int)<(rest.length:Int)+1:=by omega
 refine f79 (ai Q ae) _ _ G _ ?_
 rw [e0] at h1 ho
 simp [s79,ho,iU,kM,c0,h1,et,o18,ao]
theorem Rz (ae:FuncId→Bool) (hv:bI dk G v (f::rest)) (ho:G.obj lb=some (cP t c p v by_ ik ij ie)) (h1:jo 1 v (some (.int .i64 1)) none none G=some v1) (iJ:bI dk G18 v1 rest) (BN:¬ cY v1 lb) (nC:lb<G18.nx) (hlen:rest.length<10)
  (et:dS Q (aC Q ae) (.iface f.1 (P0 f.2)) "coxswain/ready.run" [P0 m] (G.put lb (cP t c p v1 by_ ik ij ie))=some (.tuple #[.bool false,.int .u64 eY],G18)) (o18:G18.obj lb=some (cP t c p' v1 by_ pQ pR pS)) :
  ∃ v2 G3,(E ae).cl 79 [P0 lb,P0 m] G=some (.bool false,G3.put lb (cP t c p' v2 eY pQ pR pS))∧Ext (G18.put lb (cP t c p' v1 eY pQ pR pS)) G3∧cj dk G18.nx G3 v2 (f::rest):=by
 obtain ⟨b,o,cap,v2,e0,c0,e1,-,-⟩:=vG hv
 rw [h1] at e1
 simp at c0
 obtain ⟨A,hA⟩:∃ A,A=G18.put lb (cP t c p' v1 eY pQ pR pS):=⟨_,rfl⟩
 have nA:A.nx=G18.nx:=by rw [hA]; rfl
 have sA:bI dk A v1 rest:=iJ.same (Nat.le_of_eq nA.symm) fun a n c he=>by rw [hA,aT,if_neg]; intro k; exact BN ⟨a,n,c,he,k⟩
 have xA:Ext A (A.push ⟨dk.row f,1,false,1⟩):=(Ext.refl A).push _
 have ah:cj dk A.nx (A.push ⟨dk.row f,1,false,1⟩) (.slice (some ⟨A.nx,0,none⟩) 1 1) [f]:=⟨cT.qF _ _,.inr ⟨A.nx,false,rfl,Nat.le_refl _,by simp,by simp [cT.flat]⟩⟩
 obtain ⟨v2,G3,b1,a2,a3⟩:=cj.app (A:=A) (ib:=16) ah (by decide) xA (sA.ext xA) (by simp; omega)
 have oA:A.obj lb=some (cP t c p' v1 eY pQ pR pS):=by rw [hA]; simp
 have o3:=(a2.obj lb (by rw [nA]; exact nC)).trans oA
 obtain ⟨a4,n4,rfl⟩:=a3.is.len
 obtain ⟨a1,n1,fR⟩:=iJ.len
 have iU:¬ ((rest.length:Int)+1=0):=by omega
 have kM:(0:Int)<(rest.length:Int)+1:=by omega
 have oP:(A.push ⟨dk.row f,1,false,1⟩).obj lb=some (cP t c p' v1 eY pQ pR pS):=(xA.obj lb (by rw [nA]; exact nC)).trans oA
 refine ⟨_,G3,f79 (ai Q ae) _ _ G _ ?_,by rw [← hA]; exact a2,by rw [← nA]; exact a3⟩
 rw [e0] at h1 ho
 rw [fR] at h1 et o18 hA b1 oP o3
 simp at b1 oP
 simp [s79,ho,iU,kM,c0,h1,et,o18,← hA,BJ,oP,b1,o3,ao]
end
def bY.sk (x:bY):Int:=if x.line=5∨x.line=9 then x.cW.ik else 0
def bY.sj (x:bY):Int:=if x.line=5∨x.line=9 then x.cW.ij else 0
def bY.se (x:bY):Int:=if x.line=5∨x.line=9 then x.cW.ie else 0
structure si where
 p1:Nat
 p2:Nat
 p3:Nat
 w1:Nat
 tb:Nat
 xb:Nat
 w3:Nat
abbrev si.all (k:si) (lb:Nat):List Nat:=[lb,k.p1,k.p2,k.p3,k.w1,k.tb,k.xb,k.w3]
structure hX (own:Nat→Nat) (tag:Nat) (t:TW) (G:GS) (lb:Nat) (k:si):Prop where
 at_:∀ g,g∈k.all lb→At own tag G g
 nd:k.tb<lb∧lb<k.xb∧k.xb<k.p2∧k.p2<k.w1∧k.w1<k.p1∧k.p1<k.w3∧k.w3<k.p3
 lQ:G.obj k.w1=some ⟨[P0 lb],1,false,1⟩
 EH:G.obj k.tb=some ⟨t.cells,1,false,1⟩
 zx:G.obj k.xb=some ⟨[P0 lb],1,false,1⟩
 zu:G.obj k.w3=some ⟨[P0 lb],1,false,1⟩
section
variable {own own' own0 ah aG:Nat→Nat} {tag tg m r b lb q:Nat} {t:TW} {c p p' by_ eY ik ij ie pQ pR pS:Int} {v v1:Value} {G G' G1 G2 G18:GS} {s s' s1:MS} {f:Nat×Nat} {L rest:List (Nat×Nat)} {d:Bool} {k:si} {x:bY}
theorem hX.to (h:hX own tag t G lb k) (hn:G.nx≤G'.nx) (a:bW own own' G) (hk:∀ g,g∈[k.w1,k.tb,k.xb,k.w3]→G'.obj g=G.obj g):hX own' tag t G' lb k :=
 ⟨fun g hg=>(h.at_ g hg).to hn a,h.nd,(hk _ (by simp)).trans h.lQ,(hk _ (by simp)).trans h.EH,(hk _ (by simp)).trans h.zx,(hk _ (by simp)).trans h.zu⟩
structure jE (own:Nat→Nat) (tag:Nat) (G:GS) (lb:Nat) (k:si) (v:Value) (L:List (Nat×Nat)):Prop where
 sl:bI dk G v L
 dM:∀ g,cY v g→own g=tag∧g∉k.all lb
theorem jE.to (h:jE own tag G lb k v L) (hn:G.nx≤G'.nx) (a:bW own own' G) (hk:∀ g,g<G.nx→own g=tag→g∉k.all lb→G'.obj g=G.obj g):jE own' tag G' lb k v L :=
 ⟨h.sl.kept hn fun g hg=>hk g (h.sl.under g hg) (h.dM g hg).1 (h.dM g hg).2,fun g hg=>⟨(a g (h.sl.under g hg)).trans (h.dM g hg).1,(h.dM g hg).2⟩⟩
abbrev rf1 (k:si):Nat×Nat:=(187,k.p1)
abbrev JJ (k:si):Nat×Nat:=(147,k.p2)
abbrev B3 (k:si):Nat×Nat:=(213,k.p3)
def LkL (own:Nat→Nat) (tg:Nat) (t:TW) (c:Int) (G:GS) (k:si) (x:bY) (L:List (Nat×Nat)):Prop :=
 (x.line=1∧L=[rf1 k,JJ k,B3 k]∧x.cW=aE.new t∧(∃ now md,G.obj k.p1=some (bH (bu 111 k.w1) .nilFunc (bu 113 k.w1) now md)∧oL own tg t c G now md x.aW)∧G.obj k.p2=some (pP k.tb k.xb (.pointer none) false)∧G.obj k.p3=some (ny k.w3 (.pointer none) false)) ∨
 (x.line=4∧L=[JJ k,B3 k]∧(∃ now md,G.obj k.p2=some (pP k.tb k.xb now md)∧zw own tg t G now md x.cW)∧G.obj k.p3=some (ny k.w3 (.pointer none) false)) ∨
 (x.line=5∧L=[B3 k]∧G.obj k.p3=some (ny k.w3 (.pointer none) false)) ∨
 (x.line=9∧L=[])
def nD (own:Nat→Nat) (tag tg:Nat) (t:TW) (c:Int) (G:GS) (lb:Nat) (x:bY):Prop :=
 ∃ k v p L,hX own tag t G lb k∧G.obj lb=some (cP t c p v x.by_ x.sk x.sj x.se)∧jE own tag G lb k v L∧LkL own tg t c G k x L
theorem oL.to {now:Value} {md:Bool} {y:dG} (h:oL own tg t c G now md y) (hn:G.nx≤G'.nx) (hk:∀ g,g<G.nx→own g=tg→G'.obj g=G.obj g) (a:bW own own' G):oL own' tg t c G' now md y :=
 h.imp id fun ⟨e,q,e2,h⟩=>⟨e,q,e2,h.to hn hk a⟩
theorem zw.to {now:Value} {md:Bool} {y:aE} (h:zw own tg t G now md y) (hn:G.nx≤G'.nx) (hk:∀ g,g<G.nx→own g=tg→G'.obj g=G.obj g) (a:bW own own' G):zw own' tg t G' now md y :=
 h.imp id fun ⟨e,q,e2,h⟩=>⟨e,q,e2,h.to hn hk a⟩
theorem nD.to (h:nD own tag tg t c G lb x) (hn:G.nx≤G'.nx) (hk:∀ g,g<G.nx→own g=tag∨own g=tg→G'.obj g=G.obj g) (a:bW own own' G):nD own' tag tg t c G' lb x:=by
 obtain ⟨k,v,p,L,hF,ho,hV,hL⟩:=h
 have kt:∀ g,g∈k.all lb→G'.obj g=G.obj g:=fun g hg=>hk g (hF.at_ g hg).lt (.inl (hF.at_ g hg).tag)
 refine ⟨k,v,p,L,hF.to hn a fun g hg=>kt g ?_,(kt lb (by simp)).trans ho,hV.to hn a fun g hg e _=>hk g hg (.inl e),?_⟩
 ·simp at hg ⊢
  rcases hg with e | e | e | e<;>simp [e]
 ·have k1:=kt k.p1 (by simp)
  have k2:=kt k.p2 (by simp)
  have k3:=kt k.p3 (by simp)
  rcases hL with ⟨e,e2,e3,⟨now,md,h1,h2⟩,h3,h4⟩ | ⟨e,e2,⟨now,md,h1,h2⟩,h4⟩ | ⟨e,e2,h4⟩ | h
  ·exact .inl ⟨e,e2,e3,⟨now,md,k1.trans h1,h2.to hn (fun g hg e=>hk g hg (.inr e)) a⟩,k2.trans h3,k3.trans h4⟩
  ·exact .inr (.inl ⟨e,e2,⟨now,md,k2.trans h1,h2.to hn (fun g hg e=>hk g hg (.inr e)) a⟩,k3.trans h4⟩)
  ·exact .inr (.inr (.inl ⟨e,e2,k3.trans h4⟩))
  ·exact .inr (.inr (.inr h))
theorem abW (ae:FuncId→Bool) (h:nD own tag tg t c G lb x):(E ae).cl 89 [P0 lb] G=some (.int .u64 x.by_,G):=by
 obtain ⟨k,v,p,L,hF,ho,hV,hL⟩:=h
 exact f89 (ai Q ae) _ G _ (by simp [s89,ho])
theorem abX (ae:FuncId→Bool) (q m:Nat) (G:GS):dS Q (aC Q ae) (.iface 187 (P0 q)) "coxswain/ready.run" [P0 m] G=(E ae).cl 293 [P0 q,P0 m] G:=by kernel_rfl
theorem abY (ae:FuncId→Bool) (q m:Nat) (G:GS):dS Q (aC Q ae) (.iface 147 (P0 q)) "coxswain/ready.run" [P0 m] G=(E ae).cl 266 [P0 q,P0 m] G:=by kernel_rfl
theorem abZ (ae:FuncId→Bool) (q m:Nat) (G:GS):dS Q (aC Q ae) (.iface 213 (P0 q)) "coxswain/ready.run" [P0 m] G=(E ae).cl 297 [P0 q,P0 m] G:=by kernel_rfl
theorem hX.put (h:hX own tag t G lb k) (o:aR):hX own tag t (G.put lb o) lb k:=by
 obtain ⟨n1,n2,n3,n4,n5,n6,n7⟩:=h.nd
 refine h.to (Nat.le_refl _) (bW.refl _ _) fun g hg=>?_
 rw [aT,if_neg]
 simp at hg
 rcases hg with rfl | rfl | rfl | rfl<;>omega
theorem jE.put (h:jE own tag G lb k v L) (o:aR):jE own tag (G.put lb o) lb k v L :=
 h.to (Nat.le_refl _) (bW.refl _ _) fun g _ _ hg=>by rw [aT,if_neg]; rintro rfl; exact hg (by simp)
theorem hX.run (h:hX own tag t G lb k) {pb:Nat} (hp:pb∈[k.p1,k.p2,k.p3]) (ht:tag≠10) (aV:tag≠tg) (w:PW (Bq own tg lb pb) own G ah G1 m s):hX ah tag t G1 lb k:=by
 obtain ⟨n1,n2,n3,n4,n5,n6,n7⟩:=h.nd
 refine h.to w.nx w.aO.cd fun g hg=>?_
 have ha:At own tag G g:=h.at_ g (by simp at hg ⊢; rcases hg with e | e | e | e<;>simp [e])
 refine w.keep ha.lt (by rw [ha.tag]; exact ht) ?_
 rintro (k1 | k1 | k1)
 ·subst k1; simp at hg; rcases hg with e | e | e | e<;>omega
 ·subst k1; simp at hg hp; rcases hg with e | e | e | e<;>rcases hp with e' | e' | e' <;>omega
 ·exact aV (ha.tag.symm.trans k1)
theorem jE.run (h:jE own tag G lb k v L) {pb:Nat} (hp:pb∈[k.p1,k.p2,k.p3]) (ht:tag≠10) (aV:tag≠tg) (w:PW (Bq own tg lb pb) own G ah G1 m s):jE ah tag G1 lb k v L:=by
 refine h.to w.nx w.aO.cd fun g hg e hk=>w.keep hg (by rw [e]; exact ht) ?_
 rintro (k1 | k1 | k1)
 ·exact hk (by simp [k1])
 ·exact hk (by rw [k1]; simp at hp ⊢; rcases hp with e | e | e<;>simp [e])
 ·exact aV (e.symm.trans k1)
theorem JK (hF:hX own tag t G lb k) {pb g:Nat} (hg:g∈[k.p1,k.p2,k.p3]) (az:g≠pb) (ht:tag≠10) (aV:tag≠tg) (w:PW (Bq own tg lb pb) own G ah G1 m s):G1.obj g=G.obj g:=by
 obtain ⟨n1,n2,n3,n4,n5,n6,n7⟩:=hF.nd
 have ha:At own tag G g:=hF.at_ g (by simp at hg ⊢; rcases hg with e | e | e<;>simp [e])
 refine w.keep ha.lt (by rw [ha.tag]; exact ht) ?_
 rintro (k1 | k1 | k1)
 ·subst k1; simp at hg; rcases hg with e | e | e<;>omega
 ·exact az k1
 ·exact aV (ha.tag.symm.trans k1)
end
section
variable {own own' own0 ah aG:Nat→Nat} {tag tg m r b lb q pb:Nat} {t:TW} {c p p' by_ eY ik ij ie pQ pR pS:Int} {v v1 v2:Value} {G G' G1 G2 G3 G18:GS} {s s' s1:MS} {f:Nat×Nat} {L rest:List (Nat×Nat)} {d:Bool} {k:si} {x:bY} {o o1 o2:aR}
theorem hX.al (h:hX own tag t G lb k):At own tag G lb:=h.at_ lb (by simp)
theorem RA (hF:hX own tag t G lb k) (hp:pb∈[k.p1,k.p2,k.p3]):∀ y,Bq own tg lb pb y→eK own tag tg y:=by
 intro y h
 rcases h with rfl | rfl | h
 ·exact .inl hF.al.tag
 ·exact .inl (hF.at_ y (by simp at hp ⊢; rcases hp with e | e | e<;>simp [e])).tag
 ·exact .inr h
theorem JL (hF:hX own tag t G lb k) (hp:pb∈[k.p1,k.p2,k.p3]) (ht:tag≠10) (w:PW (Bq own tg lb pb) own G ah G1 m s') (dL:hX ah tag t G1 lb k) (nE:jE ah tag G1 lb k v1 rest) (o:aR) :
  PW (eK own tag tg) own G ah (G1.put lb o) m s' ∧hX ah tag t (G1.put lb o) lb k∧jE ah tag (G1.put lb o) lb k v1 rest :=
 ⟨(w.put (.inl (.inl rfl)) (fun _=>by rw [dL.al.tag]; exact ht) o).mono fun y _ hy=>RA hF hp y hy,dL.put o,nE.put o⟩
theorem RB (hF:hX own tag t G lb k) (hp:pb∈[k.p1,k.p2,k.p3]) (ht:tag≠10) (w:PW (Bq own tg lb pb) own G ah G1 m s') (dL:hX ah tag t G1 lb k) (x3:Ext (G1.put lb o1) G3) (hO:cj dk G1.nx G3 v2 L) (o2:aR) :
  PW (eK own tag tg) own G (grown ah G1 tag) (G3.put lb o2) m s' ∧hX (grown ah G1 tag) tag t (G3.put lb o2) lb k∧jE (grown ah G1 tag) tag (G3.put lb o2) lb k v2 L∧(∀ g,g<G1.nx→g≠lb→(G3.put lb o2).obj g=G1.obj g)∧G1.nx≤G3.nx:=by
 have n3:G1.nx≤G3.nx:=x3.nx
 have ag:bW ah (grown ah G1 tag) G1:=db
 have al:=dL.al
 have w1:=w.put (.inl (.inl rfl)) (fun _=>by rw [al.tag]; exact ht) o1
 have w2:=w1.de x3 tag
 have w3:PW (Bq own tg lb pb) own G (grown ah G1 tag) (G3.put lb o2) m s':=PW.put (G1:=G3) w2 (.inl (.inl rfl)) (fun _=>by rw [show grown ah (G1.put lb o1) tag lb=ah lb from ag lb al.lt,al.tag]; exact ht) o2
 have kp:∀ g,g<G1.nx→g≠lb→(G3.put lb o2).obj g=G1.obj g:=fun g hg az=>by rw [aT,if_neg az,x3.obj g hg,aT,if_neg az]
 obtain ⟨n1,n2,_,n4,n5,n6,n7⟩:=dL.nd
 refine ⟨w3.mono fun y _ hy=>RA hF hp y hy,dL.to n3 ag fun g hg=>?_,⟨(hO.is).kept (Nat.le_refl _) fun g hg=>?_,fun g hg=>⟨gx (hO.from hg),fun hk=>?_⟩⟩,kp,n3⟩
 ·simp at hg
  rcases hg with e | e | e | e
  ·rw [e]; exact kp _ (dL.at_ _ (by simp)).lt (by omega)
  ·rw [e]; exact kp _ (dL.at_ _ (by simp)).lt (by omega)
  ·rw [e]; exact kp _ (dL.at_ _ (by simp)).lt (by omega)
  ·rw [e]; exact kp _ (dL.at_ _ (by simp)).lt (by omega)
 ·have:=hO.from hg
  have:=al.lt
  rw [aT,if_neg (by omega)]
 ·have:=hO.from hg
  have:=(dL.at_ g hk).lt
  omega
theorem ab0 (ae:FuncId→Bool) (bD:ae 187=false) (hs:t.sound) (cR:t.fA) (hc:0≤c∧c<t.u11) (h:PM own G m s) (hm:s.ok) (hx:x.ok t) (az:x.line≠9) (ht:tag≠10) (h10:tg≠10) (aV:tag≠tg) (hl:nD own tag tg t c G lb x) :
  ∃ ah G1,(E ae).cl 79 [P0 lb,P0 m] G=some (.bool (decide ((x.step t c s).1.line=9)),G1)∧PW (eK own tag tg) own G ah G1 m (x.step t c s).2∧nD ah tag tg t c G1 lb (x.step t c s).1:=by
 obtain ⟨k,v,p,L,hF,ho,hV,hL⟩:=hl
 obtain ⟨n1,n2,n3,n4,n5,n6,n7⟩:=hF.nd
 rcases hL with ⟨e,rfl,RD,⟨now,md,op,hq⟩,cV,gg⟩ | ⟨e,rfl,⟨now,md,op,hq⟩,gg⟩ | ⟨e,rfl,gg⟩ | ⟨e,-⟩
 ·obtain ⟨b,o,cap,v1,pT,jT,h1,iJ,fG⟩:=vG hV.sl
  obtain ⟨G0,bl⟩:∃ G0,G0=G.put lb (cP t c p v1 x.by_ x.sk x.sj x.se):=⟨_,rfl⟩
  have w0:PW (Bq own tg lb k.p1) own G own G0 m s:=by rw [bl]; exact (PW.refl h).put (.inl (.inl rfl)) (fun _=>by rw [hF.al.tag]; exact ht) _
  have iA:hX own tag t G0 lb k:=by rw [bl]; exact hF.put _
  have B5:jE own tag G0 lb k v1 [JJ k,B3 k]:=by rw [bl]; exact jE.put ⟨iJ,fun g hg=>hV.dM g (fG g hg)⟩ _
  have k0:∀ g,g≠lb→G0.obj g=G.obj g:=fun g hg=>by rw [bl,aT,if_neg hg]
  have uf:G0.obj lb=some (cP t c p v1 x.by_ x.sk x.sj x.se):=by rw [bl]; simp
  have zy:oL own tg t c G0 now md x.aW:=hq.to (by rw [bl]; exact Nat.le_refl _) (fun g _ hg=>k0 g fun k=>aV (by rw [← hg,k,hF.al.tag])) (bW.refl _ _)
  obtain ⟨ah,G1,p1,q,e1,w1,k1,dF,g8⟩:=abR ae hc w0.pm hm hx.aW h10 aV ht (iA.at_ k.p1 (by simp)) iA.al (iA.at_ k.w1 (by simp)) (by omega) (by omega) (by omega) ((k0 _ (by omega)).trans op) uf iA.lQ zy
  have ax:x.step t c s=({ x with by_:=0,aW:=(x.aW.step t c s).1,line:=if (x.aW.step t c s).1.line=9 then 4 else 1 },(x.aW.step t c s).2):=by unfold bY.step; rw [if_pos e]
  rw [ax]
  simp only
  generalize (x.aW.step t c s).2=s' at *
  generalize (x.aW.step t c s).1=y' at *
  have hp:k.p1∈[k.p1,k.p2,k.p3]:=by simp
  have dL:=iA.run hp ht aV w1
  have nE:=B5.run hp ht aV w1
  have o2:=(JK iA (g:=k.p2) (by simp) (by omega) ht aV w1).trans ((k0 _ (by omega)).trans cV)
  have o3:=(JK iA (g:=k.p3) (by simp) (by omega) ht aV w1).trans ((k0 _ (by omega)).trans gg)
  have w01:PW (Bq own tg lb k.p1) own G ah G1 m s':=w0.trans w1 fun _ _ h=>h
  rw [bl] at e1
  rw [← abX] at e1
  by_cases hl:y'.line=9
  ·simp only [hl,decide_true,if_true] at e1 ⊢
   have e2:=JI ae hV.sl ho h1 nE.sl (by simp) e1 g8
   obtain ⟨f1,f2,f3⟩:=JL hF hp ht w01 dL nE (cP t c p1 v1 0 x.sk x.sj x.se)
   refine ⟨ah,_,e2,f1,k,v1,p1,_,f2,?_,f3,.inr (.inl ⟨rfl,rfl,⟨.pointer none,false,?_,.inl ⟨rfl,RD⟩⟩,?_⟩)⟩
   ·simp [bY.sk,bY.sj,bY.se,e]
   ·rw [aT,if_neg (by omega)]; exact o2
   ·rw [aT,if_neg (by omega)]; exact o3
  ·simp only [hl,decide_false,if_false] at e1 ⊢
   obtain ⟨v2,G3,e2,x3,hO⟩:=Rz ae hV.sl ho h1 nE.sl (fun hi=>(nE.dM _ hi).2 (by simp)) dL.al.lt (by simp) e1 g8
   obtain ⟨f1,f2,f3,f4,f5⟩:=RB hF hp ht w01 dL x3 hO (cP t c p1 v2 0 x.sk x.sj x.se)
   have sg:q≠lb:=fun k=>by have:=k1.1.tag; rw [k,dL.al.tag] at this; exact aV this
   refine ⟨_,_,e2,f1,k,v2,p1,_,f2,?_,f3,.inl ⟨rfl,rfl,RD,⟨P0 q,true,(f4 _ (dL.at_ k.p1 (by simp)).lt (by omega)).trans dF,.inr ⟨rfl,q,rfl,k1.1.to f5 db,(f4 q k1.1.lt sg).trans k1.2⟩⟩,(f4 _ (dL.at_ k.p2 (by simp)).lt (by omega)).trans o2,(f4 _ (dL.at_ k.p3 (by simp)).lt (by omega)).trans o3⟩⟩
   simp [bY.sk,bY.sj,bY.se,e]
 ·obtain ⟨b,o,cap,v1,pT,jT,h1,iJ,fG⟩:=vG hV.sl
  obtain ⟨G0,bl⟩:∃ G0,G0=G.put lb (cP t c p v1 x.by_ x.sk x.sj x.se):=⟨_,rfl⟩
  have w0:PW (Bq own tg lb k.p2) own G own G0 m s:=by rw [bl]; exact (PW.refl h).put (.inl (.inl rfl)) (fun _=>by rw [hF.al.tag]; exact ht) _
  have iA:hX own tag t G0 lb k:=by rw [bl]; exact hF.put _
  have B5:jE own tag G0 lb k v1 [B3 k]:=by rw [bl]; exact jE.put ⟨iJ,fun g hg=>hV.dM g (fG g hg)⟩ _
  have k0:∀ g,g≠lb→G0.obj g=G.obj g:=fun g hg=>by rw [bl,aT,if_neg hg]
  have uf:G0.obj lb=some (cP t c p v1 x.by_ x.sk x.sj x.se):=by rw [bl]; simp
  have zy:zw own tg t G0 now md x.cW:=hq.to (by rw [bl]; exact Nat.le_refl _) (fun g _ hg=>k0 g fun k=>aV (by rw [← hg,k,hF.al.tag])) (bW.refl _ _)
  obtain ⟨ah,G1,q,e1,w1,k1,dF,g8⟩:=abT ae bD hs cR w0.pm hm hx.cW h10 aV ht (iA.at_ k.p2 (by simp)) iA.al (iA.at_ k.xb (by simp)) (iA.at_ k.tb (by simp)) (by omega) (by omega) (by omega) ((k0 _ (by omega)).trans op) uf iA.zx iA.EH zy
  have ax:x.step t c s=({ x with cW:=(x.cW.step true t s).1,by_:=(x.cW.step true t s).1.by_,line:=if (x.cW.step true t s).1.line=99 then 5 else 4 },(x.cW.step true t s).2):=by unfold bY.step; rw [if_neg (by omega),if_pos e]
  rw [ax]
  simp only
  generalize (x.cW.step true t s).2=s' at *
  generalize (x.cW.step true t s).1=y' at *
  have hp:k.p2∈[k.p1,k.p2,k.p3]:=by simp
  have dL:=iA.run hp ht aV w1
  have nE:=B5.run hp ht aV w1
  have o3:=(JK iA (g:=k.p3) (by simp) (by omega) ht aV w1).trans ((k0 _ (by omega)).trans gg)
  have w01:PW (Bq own tg lb k.p2) own G ah G1 m s':=w0.trans w1 fun _ _ h=>h
  rw [bl] at e1
  rw [← abY] at e1
  by_cases hl:y'.line=99
  ·simp only [hl,decide_true,if_true] at e1 g8 ⊢
   have e2:=JI ae hV.sl ho h1 nE.sl (by simp) e1 g8
   obtain ⟨f1,f2,f3⟩:=JL hF hp ht w01 dL nE (cP t c p v1 y'.by_ y'.ik y'.ij y'.ie)
   refine ⟨ah,_,e2,f1,k,v1,p,_,f2,?_,f3,.inr (.inr (.inl ⟨rfl,rfl,?_⟩))⟩
   ·simp [bY.sk,bY.sj,bY.se]
   ·rw [aT,if_neg (by omega)]; exact o3
  ·simp only [hl,decide_false,if_false] at e1 g8 ⊢
   obtain ⟨v2,G3,e2,x3,hO⟩:=Rz ae hV.sl ho h1 nE.sl (fun hi=>(nE.dM _ hi).2 (by simp)) dL.al.lt (by simp) e1 g8
   obtain ⟨f1,f2,f3,f4,f5⟩:=RB hF hp ht w01 dL x3 hO (cP t c p v2 y'.by_ x.sk x.sj x.se)
   have sg:q≠lb:=fun k=>by have:=k1.1.tag; rw [k,dL.al.tag] at this; exact aV this
   refine ⟨_,_,e2,f1,k,v2,p,_,f2,?_,f3,.inr (.inl ⟨rfl,rfl,⟨P0 q,true,(f4 _ (dL.at_ k.p2 (by simp)).lt (by omega)).trans dF,.inr ⟨rfl,q,rfl,k1.1.to f5 db,(f4 q k1.1.lt sg).trans k1.2⟩⟩,(f4 _ (dL.at_ k.p3 (by simp)).lt (by omega)).trans o3⟩)⟩
   simp [bY.sk,bY.sj,bY.se,e]
 ·obtain ⟨b,o,cap,v1,pT,jT,h1,iJ,fG⟩:=vG hV.sl
  obtain ⟨G0,bl⟩:∃ G0,G0=G.put lb (cP t c p v1 x.by_ x.sk x.sj x.se):=⟨_,rfl⟩
  have w0:PW (Bq own tg lb k.p3) own G own G0 m s:=by rw [bl]; exact (PW.refl h).put (.inl (.inl rfl)) (fun _=>by rw [hF.al.tag]; exact ht) _
  have iA:hX own tag t G0 lb k:=by rw [bl]; exact hF.put _
  have B5:jE own tag G0 lb k v1 []:=by rw [bl]; exact jE.put ⟨iJ,fun g hg=>hV.dM g (fG g hg)⟩ _
  have k0:∀ g,g≠lb→G0.obj g=G.obj g:=fun g hg=>by rw [bl,aT,if_neg hg]
  have uf:G0.obj lb=some (cP t c p v1 x.by_ x.sk x.sj x.se):=by rw [bl]; simp
  obtain ⟨ah,G1,e1,w1,g8⟩:=abS ae hc w0.pm h10 aV ht (iA.at_ k.p3 (by simp)) iA.al (iA.at_ k.w3 (by simp)) (by omega) (by omega) (by omega) ((k0 _ (by omega)).trans gg) uf iA.zu
  have ax:x.step t c s=({ x with by_:=0,line:=9 },mL t c s):=by unfold bY.step; rw [if_neg (by omega),if_neg (by omega),if_pos e]
  rw [ax]
  simp only
  have hp:k.p3∈[k.p1,k.p2,k.p3]:=by simp
  have dL:=iA.run hp ht aV w1
  have nE:=B5.run hp ht aV w1
  have w01:PW (Bq own tg lb k.p3) own G ah G1 m (mL t c s):=w0.trans w1 fun _ _ h=>h
  rw [bl] at e1
  rw [← abZ] at e1
  have e2:=JI ae hV.sl ho h1 nE.sl (by simp) e1 g8
  obtain ⟨f1,f2,f3⟩:=JL hF hp ht w01 dL nE (cP t c p v1 0 x.sk x.sj x.se)
  refine ⟨ah,_,by simpa using e2,f1,k,v1,p,_,f2,?_,f3,.inr (.inr (.inr ⟨rfl,rfl⟩))⟩
  simp [bY.sk,bY.sj,bY.se,e]
 ·exact absurd e az
theorem ab1 (ae:FuncId→Bool) (bD:ae 187=false) (hs:t.sound) (cR:t.fA) (hc:0≤c∧c<t.u11) (h:PM own G m s) (hm:s.ok) (hx:x.ok t) (az:x.line≠9) (ht:tag≠10) (h10:tg≠10) (aV:tag≠tg) (hl:nD own tag tg t c G lb x) :
  ∃ ah G1,(E ae).cl 59 [P0 lb,P0 m] G=some (.bool (decide ((x.step t c s).1.line=9)),G1)∧PW (eK own tag tg) own G ah G1 m (x.step t c s).2∧nD ah tag tg t c G1 lb (x.step t c s).1:=by
 obtain ⟨ah,G1,e,k⟩:=ab0 ae bD hs cR hc h hm hx az ht h10 aV hl
 exact ⟨ah,G1,f59 (ai Q ae) _ _ G _ (by simp [s59,e]),k⟩
end
section
variable {own own' own0 ah aG:Nat→Nat} {tag tg m r b lb q pb:Nat} {t:TW} {c p p' by_ eY ik ij ie pQ pR pS:Int} {v v1 v2:Value} {G G' G1 G2 G3 G18:GS} {s s' s1:MS} {x:bY}
theorem ab2 (ae:FuncId→Bool) {n:Nat} {a:Option Addr} {cp:Nat} (ho:G.obj lb=some (cP t c p (.slice a n cp) by_ ik ij ie)):(E ae).cl 80 [P0 lb] G=some (.int .i64 (if n=0 then 0 else 14),G):=by
 refine f80 (ai Q ae) _ G _ ?_
 by_cases hn:n=0
 ·simp [s80,ho,hn]
 ·have:0<n:=by omega
  simp [s80,ho,hn,this]
theorem RE (ae:FuncId→Bool) {n:Nat} {a:Option Addr} {cp:Nat} (nC:lb<G.nx) (ho:G.obj lb=some (cP t c p (.slice a n cp) by_ ik ij ie)) :
  ∃ G',(E ae).cl 45 [P0 lb] G=some (.tuple #[if n=0 then gA ik ij else gA 0 0,.int .i64 (if n=0 then ie else 14)],G')∧Ext G G':=by
 obtain ⟨G1,aj⟩:∃ G1,G1=(G.push ⟨z71,1,false,1⟩).room 12:=⟨_,rfl⟩
 have x1:Ext G G1:=by rw [aj]; exact ((Ext.refl G).push _).room 12
 have n1:G1.nx=G.nx+13:=by rw [aj]; simp
 have o1:=(x1.obj lb nC).trans ho
 have p1:G1.obj G.nx=some ⟨z71,1,false,1⟩:=by rw [aj]; simp
 have hz:z71=[.int .u64 0,.int .i64 0]:=rfl
 obtain ⟨G2,aD⟩:∃ G2,G2=(G1.push ⟨[.int .u64 ik,.int .i64 ij,.int .i64 ie],1,false,1⟩).push ⟨z71,1,false,1⟩:=⟨_,rfl⟩
 have x2:Ext G1 G2:=by rw [aD]; exact ((Ext.refl _).push _).push _
 have o2:=(x2.obj lb (by omega)).trans o1
 have e2:=ab2 ae o2
 have w:Wp (s45 true (bA Q ae) (P0 lb) G) fun r=>r.1= .tuple #[if n=0 then gA ik ij else gA 0 0,.int .i64 (if n=0 then ie else 14)]∧Ext G r.2:=by
  by_cases hn:n=0
  ·have e3:(E ae).cl 88 [.agg ⟨[.int .u64 ik,.int .i64 ij,.int .i64 ie]⟩,P0 lb] G1=some (.tuple #[gA ik ij,.int .i64 ie],(G2.room 6).put (G1.nx+1) ⟨[.int .u64 ik,.int .i64 ij],1,false,1⟩):=by
    refine f88 (ai Q ae) _ _ _ _ ?_
    have q1:G2.obj G1.nx=some ⟨[.int .u64 ik,.int .i64 ij,.int .i64 ie],1,false,1⟩:=by rw [aD]; simp
    have q2:G2.obj (G1.nx+1)=some ⟨z71,1,false,1⟩:=by rw [aD]; simp
    simp [hn] at e2
    unfold gA
    simp [s88,← aD,e2,q1,q2,hz,bQ,bO,br,same,cm]
   have n2:=x2.nx
   have p2:((G2.room 6).put (G1.nx+1) ⟨[.int .u64 ik,.int .i64 ij],1,false,1⟩).obj G.nx=some ⟨z71,1,false,1⟩:=by
    rw [aT,if_neg (by omega)]
    simpa using (x2.obj G.nx (by omega)).trans p1
   have y:Ext G ((G2.room 6).put (G1.nx+1) ⟨[.int .u64 ik,.int .i64 ij],1,false,1⟩):=((x1.trans x2).room 6).put (by omega) _
   generalize (G2.room 6).put (G1.nx+1) ⟨[.int .u64 ik,.int .i64 ij],1,false,1⟩=G3 at *
   unfold gA at *
   simp [s45,← aj,o1,e3,p2,hz,hn,bQ,bO]
   exact y.put (Nat.le_refl _) _
  ·have e3:(E ae).cl 88 [.agg ⟨[.int .u64 ik,.int .i64 ij,.int .i64 ie]⟩,P0 lb] G1=some (.tuple #[gA 0 0,.int .i64 14],G2.put (G1.nx+1) ⟨[.int .u64 0,.int .i64 0],1,false,1⟩):=by
    refine f88 (ai Q ae) _ _ _ _ ?_
    have q2:G2.obj (G1.nx+1)=some ⟨z71,1,false,1⟩:=by rw [aD]; simp
    simp [hn] at e2
    unfold gA
    simp [s88,← aD,e2,q2,hz,bQ,bO]
   have n2:=x2.nx
   have p2:(G2.put (G1.nx+1) ⟨[.int .u64 0,.int .i64 0],1,false,1⟩).obj G.nx=some ⟨z71,1,false,1⟩:=by
    rw [aT,if_neg (by omega)]
    exact (x2.obj G.nx (by omega)).trans p1
   have y:Ext G (G2.put (G1.nx+1) ⟨[.int .u64 0,.int .i64 0],1,false,1⟩):=(x1.trans x2).put (by omega) _
   generalize G2.put (G1.nx+1) ⟨[.int .u64 0,.int .i64 0],1,false,1⟩=G3 at *
   unfold gA at *
   simp [s45,← aj,o1,e3,p2,hz,hn,bQ,bO]
   exact y.put (Nat.le_refl _) _
 obtain ⟨⟨v,G'⟩,e1,rfl,e3⟩:=w
 exact ⟨G',f45 (ai Q ae) _ G _ e1,e3⟩
theorem ab3 (ae:FuncId→Bool) (h:nD own tag tg t c G lb x) (h9:x.line=9):∃ G',(E ae).cl 45 [P0 lb] G=some (.tuple #[gA x.cW.ik x.cW.ij,.int .i64 x.cW.ie],G')∧Ext G G':=by
 obtain ⟨k,v,p,L,hF,ho,hV,hL⟩:=h
 have JM:L=[]:=by
  rcases hL with ⟨e,_⟩ | ⟨e,_⟩ | ⟨e,_⟩ | ⟨_,e⟩
  ·omega
  ·omega
  ·omega
  ·exact e
 subst JM
 obtain ⟨a,cp,rfl⟩:=hV.sl.len
 obtain ⟨G',e,x⟩:=RE ae hF.al.lt ho
 simp [bY.sk,bY.sj,bY.se,h9] at e
 exact ⟨G',e,x⟩
def bY.new (t:TW):bY:=⟨1,.new,aE.new t,0⟩
theorem bY.ju (hs:t.sound):(bY.new t).ok t:=⟨.inl rfl,dG.ju,aE.ju hs,dJ⟩
abbrev RG (t:TW) (c er:Int):Value:=.agg ⟨[.int .i64 t.nodes,.int .i64 t.cn,.int .i64 t.ay,.int .i64 t.top,.int .i64 t.links,.int .i64 t.size,.int .i64 t.u6,.int .i64 t.u7,.int .i64 t.u8,.int .i64 t.u9,.int .i64 t.u10,.int .i64 t.u11,.int .i64 t.u12,.int .i64 c,.bool true,.int .i64 0,.slice none 0 0,.int .u64 0,.int .i64 er]⟩
theorem JN (ae:FuncId→Bool) (hs:t.sound) (h0:0≤aB t 0 0) (c:Int) (G:GS):∃ G',(E ae).cl 76 [t.v,.int .i64 c] G=some (RG t c (if c<0∨t.u11≤c then 3 else 0),G')∧Ext G G':=by
 obtain ⟨W0,JO⟩:∃ W0:aR,W0=⟨[.int .i64 t.nodes,.int .i64 t.cn,.int .i64 t.ay,.int .i64 t.top,.int .i64 t.links,.int .i64 t.size,.int .i64 t.u6,.int .i64 t.u7,.int .i64 t.u8,.int .i64 t.u9,.int .i64 t.u10,.int .i64 t.u11,.int .i64 t.u12,.int .i64 c,.bool true,.int .i64 0,.slice none 0 0,.int .u64 0,.int .i64 0],1,false,1⟩:=⟨_,rfl⟩
 obtain ⟨G1,aj⟩:∃ G1,G1=(((G.push ⟨t.cells,1,false,1⟩).push ⟨z135,1,false,1⟩).push ⟨z135,1,false,1⟩).put (G.nx+2) W0:=⟨_,rfl⟩
 have x1:Ext G G1:=by rw [aj]; exact ((((Ext.refl G).push _).push _).push _).put (by omega) _
 have n1:G1.nx=G.nx+3:=by rw [aj]; rfl
 have o1:G1.obj G.nx=some ⟨t.cells,1,false,1⟩:=by rw [aj]; simp; omega
 have p1:G1.obj (G.nx+1)=some ⟨z135,1,false,1⟩:=by rw [aj]; simp
 have q1:G1.obj (G.nx+2)=some W0:=by rw [aj]; simp
 obtain ⟨G2,e2,x2⟩:=xj ae t 0 0 G1
 have o2:=(x2.obj G.nx (by omega)).trans o1
 have p2:=(x2.obj (G.nx+1) (by omega)).trans p1
 have q2:=(x2.obj (G.nx+2) (by omega)).trans q1
 have y2:=x1.trans x2
 have hz:z135=[.int .i64 0,.int .i64 0,.int .i64 0,.int .i64 0,.int .i64 0,.int .i64 0,.int .i64 0,.int .i64 0,.int .i64 0,.int .i64 0,.int .i64 0,.int .i64 0,.int .i64 0,.int .i64 0,.bool false,.int .i64 0,.slice none 0 0,.int .u64 0,.int .i64 0]:=rfl
 have hh:¬ aB t 0 0<0:=by omega
 have az:¬ G.nx=G.nx+1+1:=by omega
 subst JO
 have w:Wp (s76 true (bA Q ae) t.v (.int .i64 c) G) fun r=>r.1=RG t c (if c<0∨t.u11≤c then 3 else 0)∧Ext G r.2:=by
  by_cases c1:c<0
  ·simp [s76,hz,az,bQ,bO,eC]
   rw [hz] at aj p2
   rw [← aj]
   simp [e2,hh,c1,q2,p2,bQ,bO,eC]
   refine (y2.put ?_ _).put ?_ _<;>omega
  ·by_cases c2:t.u11≤c
   ·simp [s76,hz,az,bQ,bO,eC]
    rw [hz] at aj p2
    rw [← aj]
    simp [e2,hh,c1,c2,o2,q2,p2,bQ,bO,eC]
    refine (y2.put ?_ _).put ?_ _<;>omega
   ·simp [s76,hz,az,bQ,bO,eC]
    rw [hz] at aj p2
    rw [← aj]
    simp [e2,hh,c1,c2,o2,q2,p2,bQ,bO,eC]
    refine y2.put ?_ _
    omega
 obtain ⟨⟨v,G'⟩,e1,rfl,e3⟩:=w
 exact ⟨G',f76 (ai Q ae) _ _ G _ e1,e3⟩
end
section
variable {own own' own0 ah aG:Nat→Nat} {tag tg m r b lb q pb:Nat} {t:TW} {c p p' by_ eY ik ij ie pQ pR pS:Int} {v v1 v2:Value} {G G' G1 G2 G3 G18:GS} {s s' s1:MS} {x:bY}
theorem RH (ae:FuncId→Bool) (lb:Nat) (G:GS):(E ae).cl 77 [P0 lb] G=some (.iface 187 (P0 (G.nx+1)),(G.push ⟨[P0 lb],1,false,1⟩).push (bH (bu 111 G.nx) .nilFunc (bu 113 G.nx) (.pointer none) false)):=by
 have hz:z195=[.nilFunc,.nilFunc,.nilFunc,.pointer none,.bool false]:=rfl
 refine f77 (ai Q ae) _ G _ ?_
 simp [s77,hz,bQ,bO,eC]
theorem RI (ae:FuncId→Bool) (lb:Nat) (G:GS):(E ae).cl 87 [P0 lb] G=some (.iface 213 (P0 (G.nx+1)),(G.push ⟨[P0 lb],1,false,1⟩).push (ny G.nx (.pointer none) false)):=by
 have hz:z220=[.nilFunc,.nilFunc,.nilFunc,.pointer none,.bool false]:=rfl
 refine f87 (ai Q ae) _ G _ ?_
 simp [s87,hz,bQ,bO,eC]
theorem ab4 (ae:FuncId→Bool) (hs:t.sound) (h0:0≤aB t 0 0) (hc:c<0∨t.u11≤c) (G:GS):∃ lb G',(E ae).cl 44 [t.v,.int .i64 c] G=some (P0 lb,G')∧Ext G G' ∧(G.nx≤lb∧lb<G'.nx)∧∃ W:Value,True∧G'.obj lb=some ⟨[.int .i64 t.nodes,.int .i64 t.cn,.int .i64 t.ay,.int .i64 t.top,.int .i64 t.links,.int .i64 t.size,.int .i64 t.u6,.int .i64 t.u7,.int .i64 t.u8,.int .i64 t.u9,.int .i64 t.u10,.int .i64 t.u11,.int .i64 t.u12,.int .i64 c,.bool true,.int .i64 0,.slice none 0 0,.int .u64 0,.int .i64 3,.int .u64 0,.int .i64 0,.int .i64 0],1,false,1⟩:=by
 obtain ⟨G1,aj⟩:∃ G1,G1=G.push ⟨t.cells,1,false,1⟩:=⟨_,rfl⟩
 have x1:Ext G G1:=by rw [aj]; exact (Ext.refl G).push _
 have o1:G1.obj G.nx=some ⟨t.cells,1,false,1⟩:=by rw [aj]; simp
 obtain ⟨G2,e2,x2⟩:=JN ae hs h0 c G1
 rw [if_pos hc] at e2
 have y2:=x1.trans x2
 have hz:z146=[.int .i64 0,.int .i64 0,.int .i64 0,.int .i64 0,.int .i64 0,.int .i64 0,.int .i64 0,.int .i64 0,.int .i64 0,.int .i64 0,.int .i64 0,.int .i64 0,.int .i64 0,.int .i64 0,.bool false,.int .i64 0,.slice none 0 0,.int .u64 0,.int .i64 0,.int .u64 0,.int .i64 0,.int .i64 0]:=rfl
 have dY:z106=[.pointer none]:=rfl
 refine ⟨G2.nx,_,f44 (ai Q ae) _ _ G _ (by
  simp [s44,← aj,o1,e2,hz,dY,bQ,bO,eC]
  rfl),((y2.push _).push _).put (by have:=y2.nx; simp; omega) _,⟨y2.nx,by simp; omega⟩,.pointer none,trivial,by simp⟩
theorem ab5 (ae:FuncId→Bool) (hs:t.sound) (h0:0≤aB t 0 0) (hc:0≤c∧c<t.u11) (G:GS):∃ lb G',(E ae).cl 44 [t.v,.int .i64 c] G=some (P0 lb,G')∧Ext G G' ∧(G.nx≤lb∧lb<G'.nx) ∧
  ∀ own tag tg,(∀ g,G.nx≤g→g<G'.nx→own g=tag)→nD own tag tg t c G' lb (.new t):=by
 obtain ⟨G1,aj⟩:∃ G1,G1=G.push ⟨t.cells,1,false,1⟩:=⟨_,rfl⟩
 have x1:Ext G G1:=by rw [aj]; exact (Ext.refl G).push _
 have n1:G1.nx=G.nx+1:=by rw [aj]; rfl
 have o1:G1.obj G.nx=some ⟨t.cells,1,false,1⟩:=by rw [aj]; simp
 obtain ⟨G2,e2,x2⟩:=JN ae hs h0 c G1
 rw [if_neg (by omega)] at e2
 have y2:=x1.trans x2
 have n2:=x2.nx
 have o2:=(x2.obj G.nx (by omega)).trans o1
 have hz:z146=[.int .i64 0,.int .i64 0,.int .i64 0,.int .i64 0,.int .i64 0,.int .i64 0,.int .i64 0,.int .i64 0,.int .i64 0,.int .i64 0,.int .i64 0,.int .i64 0,.int .i64 0,.int .i64 0,.bool false,.int .i64 0,.slice none 0 0,.int .u64 0,.int .i64 0,.int .u64 0,.int .i64 0,.int .i64 0]:=rfl
 have dY:z106=[.pointer none]:=rfl
 have uc:z155=[.nilFunc,.nilFunc,.nilFunc,.pointer none,.bool false]:=rfl
 have xu:z140=[.nilIface]:=rfl
 have hr:rep [Value.nilIface] 3=[.nilIface,.nilIface,.nilIface]:=rfl
 obtain ⟨N,hN⟩:∃ N,N=G2.nx:=⟨_,rfl⟩
 obtain ⟨G3,cF⟩:∃ G3,G3=(((G2.push (cP t c 0 (.slice none 0 0) 0 0 0 0)).push ⟨[.pointer none],1,false,1⟩).put (N+1) ⟨[P0 N],1,false,1⟩):=⟨_,rfl⟩
 have x3:Ext G2 G3:=by rw [cF]; exact (((Ext.refl G2).push _).push _).put (by omega) _
 have n3:G3.nx=N+2:=by rw [cF,hN]; rfl
 have ft:G3.obj N=some (cP t c 0 (.slice none 0 0) 0 0 0 0):=by rw [cF,hN]; simp
 have ug:G3.obj (N+1)=some ⟨[P0 N],1,false,1⟩:=by rw [cF]; simp
 obtain ⟨G4,bR⟩:∃ G4,G4=((G3.room 19).push ⟨[P0 N],1,false,1⟩).push (bH (bu 111 (N+21)) .nilFunc (bu 113 (N+21)) (.pointer none) false):=⟨_,rfl⟩
 have e4:(E ae).cl 77 [P0 N] (G3.room 19)=some (.iface 187 (P0 (N+22)),G4):=by
  have:=RH ae N (G3.room 19)
  rw [bR]
  simpa [n3] using this
 have x4:Ext G3 G4:=by rw [bR]; exact (((Ext.refl G3).room 19).push _).push _
 have n4:G4.nx=N+23:=by rw [bR]; simp [n3]
 have lQ:G4.obj (N+21)=some ⟨[P0 N],1,false,1⟩:=by rw [bR]; simp [n3]
 have dF:G4.obj (N+22)=some (bH (bu 111 (N+21)) .nilFunc (bu 113 (N+21)) (.pointer none) false):=by rw [bR]; simp [n3]
 have RJ:=(x4.obj (N+1) (by omega)).trans ug
 obtain ⟨G5,dE⟩:∃ G5,G5=((G4.aI (N+10)).push (pP G.nx (N+1) (.pointer none) false)).back G4:=⟨_,rfl⟩
 have x5:Ext G3 G5:=by rw [dE]; exact Ext.drawn x4 (by omega) (by omega) _
 have n5:G5.nx=N+23:=by rw [dE]; simp [n4]
 have k5:∀ g,g≠N+10→G5.obj g=G4.obj g:=fun g hg=>by rw [dE]; simp [hg]
 have cV:G5.obj (N+10)=some (pP G.nx (N+1) (.pointer none) false):=by rw [dE]; simp
 obtain ⟨G6,eg⟩:∃ G6,G6=(G5.push ⟨[P0 N],1,false,1⟩).push (ny (N+23) (.pointer none) false):=⟨_,rfl⟩
 have e6:(E ae).cl 87 [P0 N] G5=some (.iface 213 (P0 (N+24)),G6):=by
  have:=RI ae N G5
  rw [eg]
  simpa [n5] using this
 have x6:Ext G5 G6:=by rw [eg]; exact ((Ext.refl G5).push _).push _
 have n6:G6.nx=N+25:=by rw [eg]; simp [n5]
 have zu:G6.obj (N+23)=some ⟨[P0 N],1,false,1⟩:=by rw [eg]; simp [n5]
 have gg:G6.obj (N+24)=some (ny (N+23) (.pointer none) false):=by rw [eg]; simp [n5]
 have RK:G5.obj (N+1)=some ⟨[P0 N],1,false,1⟩:=(k5 _ (by omega)).trans RJ
 have ox6:=(x6.obj (N+1) (by omega)).trans RK
 obtain ⟨G7,gL⟩:∃ G7,G7=((G6.aI (N+16)).push ⟨dk.flat [(187,N+22),(147,N+10),(213,N+24)],1,false,1⟩).back G6:=⟨_,rfl⟩
 have x7:Ext G3 G7:=by rw [gL]; exact Ext.drawn (x5.trans x6) (by omega) (by omega) _
 have n7:G7.nx=N+25:=by rw [gL]; simp [n6]
 have k7:∀ g,g≠N+16→G7.obj g=G6.obj g:=fun g hg=>by rw [gL]; simp [hg]
 have JP:G7.obj (N+16)=some ⟨dk.flat [(187,N+22),(147,N+10),(213,N+24)],1,false,1⟩:=by rw [gL]; simp
 have JQ:=((x5.trans x6).obj N (by omega)).trans ft
 have JR:=(x7.obj N (by omega)).trans ft
 have RL:=(x7.obj (N+1) (by omega)).trans ug
 obtain ⟨G8,lO⟩:∃ G8,G8=G7.put N (cP t c 0 (.slice (some ⟨N+16,0,none⟩) 3 3) 0 0 0 0):=⟨_,rfl⟩
 have y7:Ext G G7:=(y2.trans x3).trans x7
 have nG:G.nx+1≤N:=by rw [hN]; omega
 have x8:Ext G G8:=by rw [lO]; exact y7.put (by omega) _
 have n8:G8.nx=N+25:=by rw [lO]; exact n7
 have k8:∀ g,g≠N→G8.obj g=G7.obj g:=fun g hg=>by rw [lO,aT,if_neg hg]
 have RM:=(k8 (N+1) (by omega)).trans RL
 have oxr:(G3.room 19).obj (N+1)=some ⟨[P0 N],1,false,1⟩:=by simpa using ug
 have olr:(G3.room 19).obj N=some (cP t c 0 (.slice none 0 0) 0 0 0 0):=by simpa using ft
 refine ⟨N,G8,f44 (ai Q ae) _ _ G _ ?_,x8,⟨by omega,by omega⟩,fun own tag tg sV=>?_⟩
 ·have JS:G3.nx+8=N+10:=by omega
  have ab6:G3.nx+14=N+16:=by omega
  rw [cT.pC,cT.pC,cT.Eb] at gL
  simp at gL
  simp [s44,← aj,o1,e2,hz,dY,bQ,bO,eC,← hN,← cF,ug,ft,e4,RJ,br,same,cm,uc,JS,ab6,← dE,RK,e6,ox6,xu,hr,BJ,← gL,JQ,JR,RL,← lO,RM]
 ·have ha:∀ g,G.nx≤g→g<N+25→At own tag G8 g:=fun g h1 h2=>⟨by omega,sV g h1 (by omega)⟩
  have t2:G8.obj G.nx=some ⟨t.cells,1,false,1⟩:=by
   rw [k8 _ (by omega),x7.obj _ (by omega),x3.obj _ (by omega)]; exact o2
  have q6:∀ g,g≠N→g≠N+16→G8.obj g=G6.obj g:=fun g h1 h2=>(k8 g h1).trans (k7 g h2)
  have q5:∀ g,g≠N→g≠N+16→g<N+23→G8.obj g=G5.obj g:=fun g h1 h2 h3=>(q6 g h1 h2).trans (x6.obj g (by omega))
  refine ⟨⟨N+22,N+10,N+24,N+21,G.nx,N+1,N+23⟩,.slice (some ⟨N+16,0,none⟩) 3 3,0,[(187,N+22),(147,N+10),(213,N+24)],⟨fun g hg=>?_,⟨by simp; omega,by simp,by simp,by simp,by simp,by simp,by simp⟩,?_,t2,RM,?_⟩,?_,⟨?_,?_⟩,.inl ⟨rfl,rfl,rfl,⟨.pointer none,false,?_,.inl ⟨rfl,rfl⟩⟩,?_,?_⟩⟩
  ·simp at hg
   rcases hg with e | e | e | e | e | e | e | e<;>(rw [e]; exact ha _ (by omega) (by omega))
  ·exact ((q5 _ (by simp) (by simp) (by simp)).trans (k5 _ (by simp))).trans lQ
  ·exact (q6 _ (by simp) (by simp)).trans zu
  ·rw [lO]; simp [bY.new,bY.sk,bY.sj,bY.se]
  ·refine (bI.block (e:=dk) (op:=false) (L:=[(187,N+22),(147,N+10),(213,N+24)]) ?_ (by omega))
   exact (k8 _ (by omega)).trans JP
  ·rintro g ⟨a,n,cc,he,rfl⟩
   cases he
   refine ⟨sV _ (by simp; omega) (by simp; omega),?_⟩
   simp
   omega
  ·exact ((q5 _ (by simp) (by simp) (by simp)).trans (k5 _ (by simp))).trans dF
  ·exact (q5 _ (by simp) (by simp) (by simp)).trans cV
  ·exact (q6 _ (by simp) (by simp)).trans gg
end
def kY (key job hi:Int) (k:Nat):Int:=match k with | 0=>key | 1=>job | 2=>hi | _=>2
theorem ab7 (ae:FuncId→Bool) (bD:ae 187=false) (eu:ae 211=false) {t:TW} (hs:t.sound) {i g key job hi:Int} (h0:0≤i∧i<t.size) (h1:0≤g∧g<4294967296) (h2:0≤job∧job≤65534) (h3:1≤hi∧hi≤t.ay) (G:GS) :
  ∃ b G' xb ib n,(E ae).cl 179 [t.v,.int .u64 (aU i g),.int .u64 key,.int .i64 job,.int .i64 hi] G=some (P0 b,G')∧Ext G G' ∧(G.nx≤b∧G.nx≤xb∧G.nx≤ib∧G.nx≤n)∧sd t G' b i (aU i g) (kY key job hi) 0 xb ib n:=by
 have hht:t.ay≤4:=hs.2.1
 obtain ⟨G1,aj⟩:∃ G1,G1=G.push ⟨t.cells,1,false,1⟩:=⟨_,rfl⟩
 have x1:Ext G G1:=by rw [aj]; exact (Ext.refl G).push _
 have n1:G1.nx=G.nx+1:=by rw [aj]; rfl
 have o1:G1.obj G.nx=some ⟨t.cells,1,false,1⟩:=by rw [aj]; simp
 obtain ⟨G4,e4,x4⟩:=abg ae eu hs h0 h1 h2 h3 G1
 have o4:=(x4.obj G.nx (by omega)).trans o1
 obtain ⟨G7,gL⟩:∃ G7,G7=G4.push ⟨[.bool true,.int .u64 (aU i g),.nilFunc,.nilFunc,.nilFunc,.nilFunc,.int .i64 0,.int .i64 0],1,false,1⟩:=⟨_,rfl⟩
 have n4:=x4.nx
 have x7:Ext G4 G7:=by rw [gL]; exact (Ext.refl G4).push _
 have n7:G7.nx=G4.nx+1:=by rw [gL]; rfl
 have p7:G7.obj G4.nx=some ⟨[.bool true,.int .u64 (aU i g),.nilFunc,.nilFunc,.nilFunc,.nilFunc,.int .i64 0,.int .i64 0],1,false,1⟩:=by rw [gL]; simp
 have o7:=(x7.obj G.nx (by omega)).trans o4
 obtain ⟨G17,e17,x17⟩:=abp ae bD hs h0 h1 G7
 have n17:=x17.nx
 have ld:np 13 0 (some ⟨t.cells,1,false,1⟩)=some t.v:=BH rfl (by decide)
 have w:Wp (s179 true (bA Q ae) t.v (.int .u64 (aU i g)) (.int .u64 key) (.int .i64 job) (.int .i64 hi) G) fun r=>∃ b xb ib n,r.1=P0 b∧Ext G r.2∧(G.nx≤b∧G.nx≤xb∧G.nx≤ib∧G.nx≤n)∧sd t r.2 b i (aU i g) (kY key job hi) 0 xb ib n:=by
  have c1:IntKind.wrap .u64 job=job:=by rw [wrap_u64]; omega
  have c2:IntKind.wrap .u64 hi=hi:=by rw [wrap_u64]; omega
  have p17:=(x17.obj G4.nx (by omega)).trans p7
  have q17:=(x17.obj G.nx (by omega)).trans o7
  have hz:∀ k,¬ G4.nx=G17.nx+k:=fun k=>by omega
  have FM:¬ G4.nx=G17.nx:=by omega
  have hy:∀ k,¬ G.nx=G17.nx+k:=fun k=>by omega
  have JU:¬ G.nx=G17.nx:=by omega
  have zm:¬ G.nx=G4.nx:=by omega
  have hq:∀ k,¬ G17.nx+k=G4.nx:=fun k=>by omega
  have zy:¬ G17.nx=G4.nx:=by omega
  simp [-jq,s179,← aj,o1,ld,e4,← gL,p7,o7,e17,abo,c1,c2,Nat.add_assoc,hz,FM,p17,bQ,bO,eC]
  have xs:=((x1.trans x4).trans x7).trans x17
  refine ⟨?_,G.nx,G17.nx,G17.nx+1,by omega,⟨?_,?_,?_,fun k hk=>?_,?_⟩⟩
  ·repeat first | exact xs | refine Ext.push ?_ _ | refine Ext.put ?_ (by omega) _
  ·simp [lN,qO,Nat.add_assoc]
  ·simp [hy,JU,zm,Nat.add_assoc,q17]
  ·simp [zy,Nat.add_assoc]
  ·rcases (show k=0∨k=1∨k=2∨k=3 by omega) with rfl | rfl | rfl | rfl<;>simp [hq,zy,Nat.add_assoc,kY]
  ·simp; omega
 obtain ⟨⟨v,G'⟩,e1,b,xb,ib,n,rfl,q1,q2,q3⟩:=w
 exact ⟨b,G',xb,ib,n,f179 (ai Q ae) _ _ _ _ _ G _ e1,q1,q2,q3⟩
theorem RN (P:Program) (t n:Nat) (l:List Value) (k:IntKind) (j:Int):ix P true t n (.agg ⟨l⟩) (.int k j)=if 0≤j∧j<n then l[j.toNat]? else none:=by
 show fm j n _=_
 rw [wT]; simp only [Ab]
def JV (xb ib n:Nat):List Value:=[qO xb ib n 0,qO xb ib n 1,qO xb ib n 2,qO xb ib n 3]
theorem RO (xb ib n:Nat) {k:Nat} (h:k<4):(JV xb ib n)[k]? =some (qO xb ib n k):=by
 rcases (show k=0∨k=1∨k=2∨k=3 by omega) with rfl | rfl | rfl | rfl<;>rfl
section
variable {own:Nat→Nat} {G:GS} {m b xb ib n tag:Nat} {s:MS} {t:TW} {i ref:Int} {ws:Nat→Int}
theorem ab8 (ae:FuncId→Bool) {d:Nat} (hd:d<4) (h:PM own G m s) (hL:sd t G b i ref ws d xb ib n):∀ j k:Nat,k+j=d→∀ τ:Env,τ 0=P0 b→τ 1=P0 m→τ 12= .agg ⟨JV xb ib n⟩→τ 13= .int .i64 k →
  Wp ((bA Q ae).du 305 0 τ G) fun r=>r.1= .exit 0∧r.2.1 0=P0 b∧∃ ah,PW no own G ah r.2.2 m (s.store (aB t i d) (ws d)):=by
 obtain ⟨l1,l2,l3,l4⟩:=hL.lt
 obtain ⟨ah,G1,e1,w1⟩:=abn ae h hL.ox hL.oi (hL.op d hd).1 (hL.op d hd).2 (by omega)
 have tw:=hL.ob
 intro j
 induction j with
 | zero =>
  intro k hk τ t0 t1 t12 t13
  have hk:k=d:=by omega
  subst hk
  have g:=RO xb ib n (k:=k) (by omega)
  have c1:((k:Int)<4):=by omega
  have c2:(0≤(k:Int)∧(k:Int)<((4:Nat):Int)):=by omega
  refine Wp.lp (PU (ai Q ae)) ?_
  change dO (E ae) (qO xb ib n k) [P0 m] G=_ at e1
  simp [-jq,IG,ao,t0,t1,t12,t13,RN,c1,c2,tw,lN,g,e1]
  exact ⟨_,w1⟩
 | succ j ih =>
  intro k hk τ t0 t1 t12 t13
  have c0:¬ ((k:Int)=d):=by omega
  have c1:((k:Int)<4):=by omega
  have c2:(0≤(k:Int)∧(k:Int)<((4:Nat):Int)):=by omega
  have g:=RO xb ib n (k:=k) (by omega)
  have c3:IntKind.wrap .i64 ((k:Int)+1)=(k:Int)+1:=wrap64 (by omega) (by omega)
  refine Wp.lp (PU (ai Q ae)) ?_
  simp [-jq,IG,ao,t0,t1,t12,t13,RN,c0,c1,c2,c3,tw,lN,g]
  refine ih (k+1) (by omega) _ ?_ ?_ ?_ ?_<;>simp [ao,t0,t1,t12,t13]
end
structure lR where
 i:Int
 ref:Int
 key:Int
 job:Int
 hi:Int
 d:Nat
def lR.step (t:TW) (x:lR) (s:MS):lR×MS:=if x.d<4 then ({ x with d:=x.d+1 },s.store (aB t x.i x.d) (kY x.key x.job x.hi x.d)) else (x,s)
def lR.by_ (x:lR):Int:=if x.d=0 then 0 else x.ref
def sq (own:Nat→Nat) (tag:Nat) (t:TW) (G:GS) (b:Nat) (x:lR):Prop :=
 x.d≤4∧∃ xb ib n,sd t G b x.i x.ref (kY x.key x.job x.hi) x.d xb ib n∧own b=tag∧own xb=tag∧own ib=tag∧∀ j,j<8→own (n+j)=tag
section
variable {own own' ah:Nat→Nat} {G G' G1:GS} {m b xb ib n tag:Nat} {s:MS} {t:TW} {i ref d:Int} {ws:Nat→Int} {x:lR}
theorem sd.to (h:sd t G b i ref ws d xb ib n) (hn:G.nx≤G'.nx) (k1:G'.obj b=G.obj b) (k2:G'.obj xb=G.obj xb) (k3:G'.obj ib=G.obj ib) (k4:∀ j,j<8→G'.obj (n+j)=G.obj (n+j)):sd t G' b i ref ws d xb ib n :=
 ⟨k1.trans h.ob,k2.trans h.ox,k3.trans h.oi,fun k hk=>⟨(k4 (2*k) (by omega)).trans (h.op k hk).1,(k4 (2*k+1) (by omega)).trans (h.op k hk).2⟩,by have:=h.lt; omega⟩
theorem sq.to (h:sq own tag t G b x) (hn:G.nx≤G'.nx) (hk:∀ g,g<G.nx→own g=tag→G'.obj g=G.obj g) (a:bW own own' G):sq own' tag t G' b x:=by
 obtain ⟨h0,xb,ib,n,h1,t1,t2,t3,t4⟩:=h
 obtain ⟨l1,l2,l3,l4⟩:=h1.lt
 exact ⟨h0,xb,ib,n,h1.to hn (hk _ l1 t1) (hk _ l2 t2) (hk _ l3 t3) fun j hj=>hk _ (by omega) (t4 j hj),(a _ l1).trans t1,(a _ l2).trans t2,(a _ l3).trans t3,fun j hj=>(a _ (by omega)).trans (t4 j hj)⟩
theorem RP (ae:FuncId→Bool) (ho:G.obj b=some (lN ref xb ib n d)):(E ae).cl 306 [P0 b] G=some (.bool (decide (d=4)),G):=by
 refine f306 (ai Q ae) _ G _ ?_
 simp [s306,ho,lN]
theorem ab9 (ae:FuncId→Bool) (h:sq own tag t G b x):(E ae).cl 180 [P0 b] G=some (.int .u64 x.by_,G):=by
 obtain ⟨h0,xb,ib,n,h1,-⟩:=h
 have ho:=h1.ob
 refine f180 (ai Q ae) _ G _ ?_
 unfold lR.by_
 by_cases hd:x.d=0
 ·simp [s180,ho,lN,hd]
 ·have:¬ (x.d:Int)=0:=by omega
  simp [s180,ho,lN,hd,this]
theorem sd.put (h:sd t G b i ref ws d xb ib n) (d':Int):sd t (G.put b (lN ref xb ib n d')) b i ref ws d' xb ib n:=by
 have hb:=h.ob
 have n1:xb≠b:=fun e=>by have:=h.ox; rw [e,hb] at this; simp [lN,TW.cells] at this
 have n2:ib≠b:=fun e=>by have:=h.oi; rw [e,hb] at this; simp [lN] at this
 have n3:∀ k,k<4→n+2*k≠b:=fun k hk e=>by have:=(h.op k hk).1; rw [e,hb] at this; simp [lN] at this
 have n4:∀ k,k<4→n+2*k+1≠b:=fun k hk e=>by have:=(h.op k hk).2; rw [e,hb] at this; simp [lN] at this
 exact ⟨by simp,by rw [aT,if_neg n1]; exact h.ox,by rw [aT,if_neg n2]; exact h.oi,fun k hk=>⟨by rw [aT,if_neg (n3 k hk)]; exact (h.op k hk).1,by rw [aT,if_neg (n4 k hk)]; exact (h.op k hk).2⟩,h.lt⟩
theorem aca (ae:FuncId→Bool) (hd:x.d<4) (h:PM own G m s) (ht:tag≠10) (hx:sq own tag t G b x) :
  ∃ ah G1,(E ae).cl 305 [P0 b,P0 m] G=some (.bool (decide (x.d=3)),G1)∧PW (Own own tag) own G ah G1 m (x.step t s).2∧sq ah tag t G1 b (x.step t s).1:=by
 obtain ⟨h0,xb,ib,n,h1,t1,t2,t3,t4⟩:=hx
 obtain ⟨l1,l2,l3,l4⟩:=h1.lt
 have ax:x.step t s=({ x with d:=x.d+1 },s.store (aB t x.i x.d) (kY x.key x.job x.hi x.d)):=by unfold lR.step; rw [if_pos hd]
 rw [ax]
 simp only
 have e0:=RP ae h1.ob
 have d0:¬ ((x.d:Int)=4):=by omega
 rw [decide_eq_false d0] at e0
 have ho:=h1.ob
 have w:Wp (s305 true (bA Q ae) (P0 b) (P0 m) G) fun r=>r.1= .bool (decide (x.d=3))∧∃ ah,PW (Own own tag) own G ah r.2 m (s.store (aB t x.i x.d) (kY x.key x.job x.hi x.d))∧sq ah tag t r.2 b { x with d:=x.d+1 }:=by
  have ld:eI 4 b 2 G=some (.agg ⟨JV xb ib n⟩):=by
   rw [mC (o:=2) (n:=3) ho (by decide) (by simp)]; rfl
  simp [-iw,s305,e0,ld]
  refine Wp.bE ((ab8 ae hd h h1 x.d 0 (by omega) _ ?_ ?_ ?_ ?_).mono ?_)
  ·simp
  ·simp
  ·simp
  ·simp
  ·rintro ⟨e,τ,G1⟩ ⟨rfl,t0,ah,w1⟩
   simp only at t0 w1 ⊢
   have kp:∀ g,g<G.nx→own g=tag→G1.obj g=G.obj g:=fun g hg hu=>w1.keep hg (by rw [hu]; exact ht) id
   have EI:=(kp b l1 t1).trans ho
   have c1:IntKind.wrap .i64 ((x.d:Int)+1)=(x.d:Int)+1:=wrap64 (by omega) (by omega)
   have e9:=RP (G:=G1.put b (lN x.ref xb ib n ((x.d:Int)+1))) (b:=b) (ref:=x.ref) (xb:=xb) (ib:=ib) (n:=n) (d:=(x.d:Int)+1) ae (by simp)
   have c2:decide ((x.d:Int)+1=4)=decide (x.d=3):=by
    by_cases hh:x.d=3
    ·simp [hh]
    ·have:¬ ((x.d:Int)+1=4):=by omega
     simp [hh,this]
   rw [c2] at e9
   have R1:=h1.to w1.nx (kp b l1 t1) (kp xb l2 t2) (kp ib l3 t3) fun j hj=>kp _ (by omega) (t4 j hj)
   have R2:=R1.put ((x.d:Int)+1)
   unfold lN at EI e9
   simp [t0,EI,c1,e9]
   have a:=w1.aO.cd
   exact ⟨ah,w1.any.bf ((a _ l1).trans t1) ht _,by simp; omega,xb,ib,n,by simpa [lN] using R2,(a _ l1).trans t1,(a _ l2).trans t2,(a _ l3).trans t3,fun j hj=>(a _ (by omega)).trans (t4 j hj)⟩
 obtain ⟨⟨v,G'⟩,e1,rfl,ah,w1,w2⟩:=w
 exact ⟨ah,G',f305 (ai Q ae) _ _ G _ e1,w1,w2⟩
end
abbrev bN (t:TW) (c p:Int) (parts:Value) (by_ er:Int) (R:List Value):aR:=⟨.int .i64 t.nodes:: .int .i64 t.cn:: .int .i64 t.ay:: .int .i64 t.top:: .int .i64 t.links:: .int .i64 t.size:: .int .i64 t.u6:: .int .i64 t.u7:: .int .i64 t.u8:: .int .i64 t.u9:: .int .i64 t.u10:: .int .i64 t.u11:: .int .i64 t.u12:: .int .i64 c:: .bool true:: .int .i64 p::parts:: .int .u64 by_:: .int .i64 er::R,1,false,1⟩
section
variable {own own' own0 ah aG:Nat→Nat} {tag tg m r b lb pb wb tb xb q:Nat} {t:TW} {c p p' by_ eY er er':Int} {R R':List Value} {v v1:Value} {G G' G1 G2 G18:GS} {s s' s1:MS} {f:Nat×Nat} {rest L':List (Nat×Nat)} {d:Bool}
theorem RQ (ae:FuncId→Bool) {a1:Option Addr} {n1:Nat} (hv:bI dk G v (f::rest)) (ho:G.obj lb=some (bN t c p v by_ er R)) (h1:jo 1 v (some (.int .i64 1)) none none G=some v1)
  (et:dS Q (aC Q ae) (.iface f.1 (P0 f.2)) "coxswain/ready.run" [P0 m] (G.put lb (bN t c p v1 by_ er R))=some (.tuple #[.bool true,.int .u64 eY],G18)) (o18:G18.obj lb=some (bN t c p' (.slice a1 L'.length n1) by_ er' R')) (hlen:L'.length<10) (apU:rest.length<10) :
  (E ae).cl 79 [P0 lb,P0 m] G=some (.bool (decide (L'.length=0)),G18.put lb (bN t c p' (.slice a1 L'.length n1) eY er' R')):=by
 obtain ⟨b,o,cap,v2,e0,c0,e1,iJ,-⟩:=vG hv
 rw [h1] at e1
 cases e1
 obtain ⟨a2,n2,rfl⟩:=iJ.len
 simp at c0
 have iU:¬ ((rest.length:Int)+1=0):=by omega
 have kM:(0:Int)<(rest.length:Int)+1:=by omega
 refine f79 (ai Q ae) _ _ G _ ?_
 rw [e0] at h1 ho
 simp [s79,ho,iU,kM,c0,h1,et,o18,ao]
theorem acb (ae:FuncId→Bool) (hv:bI dk G v (f::rest)) (ho:G.obj lb=some (bN t c p v by_ er R)) (h1:jo 1 v (some (.int .i64 1)) none none G=some v1) (iJ:bI dk G18 v1 rest) (BN:¬ cY v1 lb) (nC:lb<G18.nx) (hlen:rest.length<10)
  (et:dS Q (aC Q ae) (.iface f.1 (P0 f.2)) "coxswain/ready.run" [P0 m] (G.put lb (bN t c p v1 by_ er R))=some (.tuple #[.bool false,.int .u64 eY],G18)) (o18:G18.obj lb=some (bN t c p' v1 by_ er' R')) :
  ∃ v2 G3,(E ae).cl 79 [P0 lb,P0 m] G=some (.bool false,G3.put lb (bN t c p' v2 eY er' R'))∧Ext (G18.put lb (bN t c p' v1 eY er' R')) G3∧cj dk G18.nx G3 v2 (f::rest):=by
 obtain ⟨b,o,cap,v2,e0,c0,e1,-,-⟩:=vG hv
 rw [h1] at e1
 simp at c0
 obtain ⟨A,hA⟩:∃ A,A=G18.put lb (bN t c p' v1 eY er' R'):=⟨_,rfl⟩
 have nA:A.nx=G18.nx:=by rw [hA]; rfl
 have sA:bI dk A v1 rest:=iJ.same (Nat.le_of_eq nA.symm) fun a n c he=>by rw [hA,aT,if_neg]; intro k; exact BN ⟨a,n,c,he,k⟩
 have xA:Ext A (A.push ⟨dk.row f,1,false,1⟩):=(Ext.refl A).push _
 have ah:cj dk A.nx (A.push ⟨dk.row f,1,false,1⟩) (.slice (some ⟨A.nx,0,none⟩) 1 1) [f]:=⟨cT.qF _ _,.inr ⟨A.nx,false,rfl,Nat.le_refl _,by simp,by simp [cT.flat]⟩⟩
 obtain ⟨v2,G3,b1,a2,a3⟩:=cj.app (A:=A) (ib:=16) ah (by decide) xA (sA.ext xA) (by simp; omega)
 have oA:A.obj lb=some (bN t c p' v1 eY er' R'):=by rw [hA]; simp
 have o3:=(a2.obj lb (by rw [nA]; exact nC)).trans oA
 obtain ⟨a4,n4,rfl⟩:=a3.is.len
 obtain ⟨a1,n1,fR⟩:=iJ.len
 have iU:¬ ((rest.length:Int)+1=0):=by omega
 have kM:(0:Int)<(rest.length:Int)+1:=by omega
 have oP:(A.push ⟨dk.row f,1,false,1⟩).obj lb=some (bN t c p' v1 eY er' R'):=(xA.obj lb (by rw [nA]; exact nC)).trans oA
 refine ⟨_,G3,f79 (ai Q ae) _ _ G _ ?_,by rw [← hA]; exact a2,by rw [← nA]; exact a3⟩
 rw [e0] at h1 ho
 rw [fR] at h1 et o18 hA b1 oP o3
 simp at b1 oP
 simp [s79,ho,iU,kM,c0,h1,et,o18,← hA,BJ,oP,b1,o3,ao]
end
section
variable {own own' own0 ah aG:Nat→Nat} {tag tg m r b lb pb wb q:Nat} {t:TW} {c p0 by_ er:Int} {R:List Value} {parts:Value} {G G' G1 G2:GS} {s s' s1:MS} {x:dG}
theorem RR (ae:FuncId→Bool) (h:PM own G m s) (hm:s.ok) (hx:x.ok) (h10:tg≠10) (aV:tag≠tg) (ht:tag≠10)
  (ap:At own tag G pb) (al:At own tag G lb) (aw:At own tag G wb) (d1:lb≠pb) (d2:wb≠lb) (d3:wb≠pb)
  (op:G.obj pb=some (bH (bu 111 wb) .nilFunc (bu 113 wb) (P0 q) true)) (ol:G.obj lb=some (bN t c p0 parts by_ er R)) (ow:G.obj wb=some ⟨[P0 lb],1,false,1⟩) (hq:kW own tg t c G q x) :
  ∃ ah G1 p1,ue ae 294 pb m q (bu 111 wb) .nilFunc (bu 113 wb) (decide ((x.step t c s).1.line=9)) 0 G G1∧PW (Bq own tg lb pb) own G ah G1 m (x.step t c s).2∧kW ah tg t c G1 q (x.step t c s).1 ∧
   G1.obj pb=some (bH (bu 111 wb) .nilFunc (bu 113 wb) (P0 q) true)∧G1.obj lb=some (bN t c p1 parts by_ er R):=by
 have fF:=(hx.step (t:=t) (c:=c) hm).1
 obtain ⟨ah,G1,e1,w1,k1⟩:=Rp ae h hm hx h10 hq
 generalize (x.step t c s).2=s' at *
 generalize (x.step t c s).1=x' at *
 have kp:∀ {g},At own tag G g→G1.obj g=G.obj g:=fun a=>w1.tV a.lt a.tag ht aV
 have dF:=(kp ap).trans op
 have g8:=(kp al).trans ol
 have lQ:=(kp aw).trans ow
 have eQ:PW (Bq own tg lb pb) own G ah G1 m s':=w1.mono fun _ _ h=>.inr (.inr h)
 by_cases hl:x'.line=9
 ·have x2:Ext G1 ((G1.room 9).room 9):=((Ext.refl G1).room 9).room 9
  have w2:=eQ.de x2 13
  have e3:=Rt ae (G:=(G1.room 9).room 9) (by simpa using k1.2) hl fF
  have aJ:=al.lt
  have sg:q≠lb:=fun k=>by have:=hq.1.tag; rw [k,al.tag] at this; exact aV this
  have kX:q≠pb:=fun k=>by have:=hq.1.tag; rw [k,ap.tag] at this; exact aV this
  have k2:kW (grown ah G1 13) tg t c ((G1.room 9).room 9) q x':=k1.to x2.nx (fun g _ _=>by simp) db
  have a2:=al.to (w1.nx) w1.aO.cd
  refine ⟨grown ah G1 13,((G1.room 9).room 9).put lb (bN t c x'.now parts by_ er R),x'.now,?_,w2.put (.inl (.inl rfl)) (fun _=>by rw [db _ a2.lt,a2.tag]; exact ht) _,⟨k2.1.bC _ _,by rw [aT,if_neg sg]; exact k2.2⟩,by rw [aT,if_neg d1.symm]; simpa using dF,by simp⟩
  have e2:(E ae).cl 113 [P0 q,P0 wb] (G1.room 9)=some (.tuple #[],((G1.room 9).room 9).put lb (bN t c x'.now parts by_ er R)):=by
   refine f113 (ai Q ae) _ _ _ _ ?_
   simp [s113,lQ,e3,g8,br,same,cm]
  exact ⟨_,_,e1,dF,.inl ⟨rfl,rfl,rfl⟩,dF,.inr ⟨by simp [hl],_,_,_,rfl,by rw [jq]; exact e2⟩⟩
 ·refine ⟨ah,G1,p0,?_,eQ,k1,dF,g8⟩
  exact ⟨_,_,e1,dF,.inl ⟨rfl,rfl,rfl⟩,dF,.inl ⟨.inl (by simp [hl]),.inr ⟨_,_,_,rfl⟩,rfl⟩⟩
theorem acd (ae:FuncId→Bool) (hc:0≤c∧c<t.u11) (h:PM own G m s) (hm:s.ok) (hx:x.ok) (h10:tg≠10) (aV:tag≠tg) (ht:tag≠10)
  (ap:At own tag G pb) (al:At own tag G lb) (aw:At own tag G wb) (d1:lb≠pb) (d2:wb≠lb) (d3:wb≠pb) {now:Value} {md:Bool}
  (op:G.obj pb=some (bH (bu 111 wb) .nilFunc (bu 113 wb) now md)) (ol:G.obj lb=some (bN t c p0 parts by_ er R)) (ow:G.obj wb=some ⟨[P0 lb],1,false,1⟩) (hq:oL own tg t c G now md x) :
  ∃ ah G1 p1 q,(E ae).cl 293 [P0 pb,P0 m] G=some (.tuple #[.bool (decide ((x.step t c s).1.line=9)),.int .u64 0],G1)∧PW (Bq own tg lb pb) own G ah G1 m (x.step t c s).2∧kW ah tg t c G1 q (x.step t c s).1 ∧
   G1.obj pb=some (bH (bu 111 wb) .nilFunc (bu 113 wb) (P0 q) true)∧G1.obj lb=some (bN t c p1 parts by_ er R):=by
 rcases hq with ⟨rfl,rfl⟩ | ⟨rfl,q,rfl,hq⟩
 ·have x0:Ext G (G.room 12):=(Ext.refl G).room 12
  obtain ⟨q,G1,e1,x1,q1,o1⟩:=Rn ae hc (G.room 12)
  have e2:(E ae).cl 111 [P0 wb] G=some (P0 q,G1):=by
   refine f111 (ai Q ae) _ G _ ?_
   simp [s111,ow,ol,e1]
  have y1:=x0.trans x1
  have tB:G.nx≤q:=by have:=q1.1; simp at this; omega
  obtain ⟨G2,aD⟩:∃ G2,G2=(G1.put pb (bH (bu 111 wb) .nilFunc (bu 113 wb) (P0 q) false)).put pb (bH (bu 111 wb) .nilFunc (bu 113 wb) (P0 q) true):=⟨_,rfl⟩
  have a1:∀ {g},At own tag G g→At (grown own G tg) tag G1 g:=fun a=>a.to y1.nx db
  have w1:PW (Bq own tg lb pb) own G (grown own G tg) G1 m s:=(PW.refl h).de y1 tg
  have w2:PW (Bq own tg lb pb) own G (grown own G tg) G2 m s:=by
   rw [aD]
   exact (w1.put (.inl (.inr (.inl rfl))) (fun _=>by rw [(a1 ap).tag]; exact ht) _).put (.inl (.inr (.inl rfl))) (fun _=>by rw [(a1 ap).tag]; exact ht) _
  have n2:G2.nx=G1.nx:=by rw [aD]; rfl
  have b2:∀ {g},At own tag G g→At (grown own G tg) tag G2 g:=fun a=>⟨by rw [n2]; exact (a1 a).lt,(a1 a).tag⟩
  have eV:G2.obj lb=some (bN t c p0 parts by_ er R):=by rw [aD,aT,if_neg d1,aT,if_neg d1]; exact (y1.obj _ al.lt).trans ol
  have oM:G2.obj wb=some ⟨[P0 lb],1,false,1⟩:=by rw [aD,aT,if_neg d3,aT,if_neg d3]; exact (y1.obj _ aw.lt).trans ow
  have cV:G2.obj pb=some (bH (bu 111 wb) .nilFunc (bu 113 wb) (P0 q) true):=by rw [aD]; simp
  have kX:q≠pb:=by have:=ap.lt; omega
  have B1:kW (grown own G tg) tg t c G2 q .new:=⟨⟨by rw [n2]; exact q1.2,gx tB⟩,by rw [aD,aT,if_neg kX,aT,if_neg kX]; exact o1⟩
  have dF:=(y1.obj _ ap.lt).trans op
  obtain ⟨bB,G3,p3,e3,w3,k3,gg,ft⟩:=RR ae w2.pm hm hx h10 aV ht (b2 ap) (b2 al) (b2 aw) d1 d2 d3 cV eV oM B1
  refine ⟨bB,G3,p3,q,e3.make (EF ae) op (.inl rfl) (.inr ⟨_,_,_,rfl⟩) (by simpa using e2) dF aD,w2.trans w3 ?_,k3,gg,ft⟩
  intro x hx k
  rcases k with k | k | k
  ·exact .inl k
  ·exact .inr (.inl k)
  ·exact .inr (.inr ((db _ hx).symm.trans k))
 ·obtain ⟨bB,G3,p3,e3,w3,k3,gg,ft⟩:=RR ae h hm hx h10 aV ht ap al aw d1 d2 d3 op ol ow hq
  exact ⟨bB,G3,p3,q,e3.made (EF ae) op,w3,k3,gg,ft⟩
theorem ace (ae:FuncId→Bool) (hc:0≤c∧c<t.u11) (h:PM own G m s) (h10:tg≠10) (aV:tag≠tg) (ht:tag≠10)
  (ap:At own tag G pb) (al:At own tag G lb) (aw:At own tag G wb) (d1:lb≠pb) (d2:wb≠lb) (d3:wb≠pb)
  (op:G.obj pb=some (ny wb (.pointer none) false)) (ol:G.obj lb=some (bN t c p0 parts by_ er R)) (ow:G.obj wb=some ⟨[P0 lb],1,false,1⟩) :
  ∃ ah G1,(E ae).cl 297 [P0 pb,P0 m] G=some (.tuple #[.bool true,.int .u64 0],G1)∧PW (Bq own tg lb pb) own G ah G1 m (mL t c s)∧G1.obj lb=some (bN t c p0 parts by_ er R):=by
 have x0:Ext G (G.room 12):=(Ext.refl G).room 12
 obtain ⟨q,G1,e1,x1,q1,o1⟩:=Ro ae hc (G.room 12)
 have e2:(E ae).cl 120 [P0 wb] G=some (P0 q,G1):=by
  refine f120 (ai Q ae) _ G _ ?_
  simp [s120,ow,ol,e1]
 have y1:=x0.trans x1
 have tB:G.nx≤q:=by have:=q1.1; simp at this; omega
 obtain ⟨G2,aD⟩:∃ G2,G2=(G1.put pb (ny wb (P0 q) false)).put pb (ny wb (P0 q) true):=⟨_,rfl⟩
 have a1:∀ {g},At own tag G g→At (grown own G tg) tag G1 g:=fun a=>a.to y1.nx db
 have w1:PW (Bq own tg lb pb) own G (grown own G tg) G1 m s:=(PW.refl h).de y1 tg
 have w2:PW (Bq own tg lb pb) own G (grown own G tg) G2 m s:=by
  rw [aD]
  exact (w1.put (.inl (.inr (.inl rfl))) (fun _=>by rw [(a1 ap).tag]; exact ht) _).put (.inl (.inr (.inl rfl))) (fun _=>by rw [(a1 ap).tag]; exact ht) _
 have n2:G2.nx=G1.nx:=by rw [aD]; rfl
 have b2:∀ {g},At own tag G g→At (grown own G tg) tag G2 g:=fun a=>⟨by rw [n2]; exact (a1 a).lt,(a1 a).tag⟩
 have eV:G2.obj lb=some (bN t c p0 parts by_ er R):=by rw [aD,aT,if_neg d1,aT,if_neg d1]; exact (y1.obj _ al.lt).trans ol
 have cV:G2.obj pb=some (ny wb (P0 q) true):=by rw [aD]; simp
 have kX:q≠pb:=by have:=ap.lt; omega
 have aq:At (grown own G tg) tg G2 q:=⟨by rw [n2]; exact q1.2,gx tB⟩
 have oq:G2.obj q=some (nu t c q 0):=by rw [aD,aT,if_neg kX,aT,if_neg kX]; exact o1
 have dF:=(y1.obj _ ap.lt).trans op
 obtain ⟨bB,G3,e3,w3⟩:=Rx ae w2.pm h10 aq oq
 have kp:∀ {g},At own tag G g→G3.obj g=G2.obj g:=fun a=>w3.tV (b2 a).lt (b2 a).tag ht aV
 have gg:=(kp ap).trans cV
 have ft:=(kp al).trans eV
 exact ⟨bB,G3,ue.make ⟨_,_,e3,gg,.inl ⟨rfl,rfl,rfl⟩,gg,.inl ⟨.inr rfl,.inl rfl,rfl⟩⟩ (Ru ae) op (.inl rfl) (.inl rfl) (by simpa using e2) dF aD,w2.sub w3 fun x hx k=>.inr (.inr k),ft⟩
end
theorem acf (ae:FuncId→Bool) (q m:Nat) (G:GS):dS Q (aC Q ae) (.iface 197 (P0 q)) "Step" [P0 m] G=(E ae).cl 296 [P0 q,P0 m] G:=by kernel_rfl
theorem EJ (ae:FuncId→Bool) (q m:Nat) (G:GS):dS Q (aC Q ae) (.iface 196 (P0 q)) "coxswain/ready.run" [P0 m] G=(E ae).cl 295 [P0 q,P0 m] G:=by kernel_rfl
section
attribute [local simp] s295
theorem RT (ae:FuncId→Bool):ud ae 295 296:=zt (f295 (ai Q ae)) (acf ae)
end
theorem acg (ae:FuncId→Bool) (q m:Nat) (G:GS):dS Q (aC Q ae) (.iface 297 (P0 q)) "Step" [P0 m] G=(E ae).cl 305 [P0 q,P0 m] G:=by kernel_rfl
theorem RU (ae:FuncId→Bool) (q m:Nat) (G:GS):dS Q (aC Q ae) (.iface 296 (P0 q)) "coxswain/ready.run" [P0 m] G=(E ae).cl 304 [P0 q,P0 m] G:=by kernel_rfl
section
attribute [local simp] s304
theorem ach (ae:FuncId→Bool):ud ae 304 305:=zt (f304 (ai Q ae)) (acg ae)
end
theorem aci (ae:FuncId→Bool) (q m:Nat) (G:GS):dS Q (aC Q ae) (.iface 305 (P0 q)) "Step" [P0 m] G=(E ae).cl 308 [P0 q,P0 m] G:=by kernel_rfl
theorem RV (ae:FuncId→Bool) (q m:Nat) (G:GS):dS Q (aC Q ae) (.iface 304 (P0 q)) "coxswain/ready.run" [P0 m] G=(E ae).cl 307 [P0 q,P0 m] G:=by kernel_rfl
section
attribute [local simp] s307
theorem run_in (ae:FuncId→Bool):ud ae 307 308:=zt (f307 (ai Q ae)) (aci ae)
end
section
attribute [local simp] s274
end
abbrev eL (key job hi tries ref:Int):List Value:=[.int .u64 key,.int .i64 job,.int .i64 hi,.int .i64 tries,.int .u64 ref]
abbrev gC (f:FuncId):Value:=.func (.func f) #[] #[]
def xv (own:Nat→Nat) (tg:Nat) (t:TW) (G:GS) (now:Value) (md:Bool) (x:lR):Prop:=(md=false∧x.d=0)∨(md=true∧∃ q,now=P0 q∧sq own tg t G q x)
def xw (own:Nat→Nat) (tg th:Nat) (t:TW) (G:GS) (now:Value) (md:Bool) (x:ak):Prop:=(md=false∧x=ak.new t x.ref x.key x.i x.hi)∨(md=true∧∃ q,now=P0 q∧nt own tg th t G q x)
abbrev nF (own:Nat→Nat) (tg th lb pb:Nat):Nat→Prop:=fun x=>x=lb∨x=pb∨own x=tg∨own x=th
section
variable {own own' own0 ah aG:Nat→Nat} {tag tg th m r b lb pb wb xb q:Nat} {t:TW} {c p0 by_ er tries g:Int} {parts now:Value} {md:Bool} {G G' G1 G2:GS} {s s' s1:MS} {x:lR} {y:ak}
theorem PW.RX (w:PW (eK own tag tg) own G ah G1 m s) {g:Nat} (hg:g<G.nx) (h1:own g≠10) (h2:own g≠tag) (h3:own g≠tg):G1.obj g=G.obj g:=w.keep hg h1 fun k=>k.elim h2 h3
theorem JW (ae:FuncId→Bool) (f:FuncId) (b:Nat) (G:GS):dO (E ae) (bu f b) [] G=(E ae).cl f [P0 b] G:=by rw [jq]; rfl
theorem acj (ae:FuncId→Bool) (f:FuncId) (b:Nat) (a:Value) (G:GS):dO (E ae) (cu f b) [a] G=(E ae).cl f [P0 b,a] G:=by rw [jq]; rfl
theorem ack (ae:FuncId→Bool) (bD:ae 187=false) (eu:ae 211=false) (hs:t.sound) (h:PM own G m s) (hd:x.d<4) (h10:tg≠10) (aV:tag≠tg) (ht:tag≠10)
  (hi:0≤x.i∧x.i<t.size) (hg:x.ref=aU x.i g∧0≤g∧g<4294967296) (hj:0≤x.job∧x.job≤65534) (hh:1≤x.hi∧x.hi≤t.ay)
  (ap:At own tag G pb) (al:At own tag G lb) (aw:At own tag G xb) (d1:lb≠pb) (d2:xb≠lb) (d3:xb≠pb)
  (op:G.obj pb=some (bH (bu 178 xb) (gC 180) .nilFunc now md)) (ol:G.obj lb=some (bN t c p0 parts by_ er (eL x.key x.job x.hi tries x.ref))) (ow:G.obj xb=some ⟨[P0 lb],1,false,1⟩) (hq:xv own tg t G now md x) :
  ∃ ah G1 q,(E ae).cl 304 [P0 pb,P0 m] G=some (.tuple #[.bool (decide (x.d=3)),.int .u64 (x.step t s).1.by_],G1)∧PW (Bq own tg lb pb) own G ah G1 m (x.step t s).2∧sq ah tg t G1 q (x.step t s).1 ∧
   G1.obj pb=some (bH (bu 178 xb) (gC 180) .nilFunc (P0 q) true)∧G1.obj lb=G.obj lb:=by
 have mk:∃ lS Gm q,((md=true∧now=P0 q∧Gm=G)∨(md=false∧∃ F a c G0,bu 178 xb= .func (.func F) a c∧(gC 180= .nilFunc∨∃ F a c,gC 180= .func (.func F) a c)∧(Value.nilFunc= .nilFunc∨∃ F a c,Value.nilFunc= .func (.func F) a c)∧dO (E ae) (bu 178 xb) [] G=some (P0 q,G0)∧G0.obj pb=some (bH (bu 178 xb) (gC 180) .nilFunc now md)∧Gm=(G0.put pb (bH (bu 178 xb) (gC 180) .nilFunc (P0 q) false)).put pb (bH (bu 178 xb) (gC 180) .nilFunc (P0 q) true))) ∧
   PW (Bq own tg lb pb) own G lS Gm m s∧sq lS tg t Gm q x∧Gm.obj pb=some (bH (bu 178 xb) (gC 180) .nilFunc (P0 q) true)∧Gm.obj lb=G.obj lb:=by
  rcases hq with ⟨rfl,ui⟩ | ⟨rfl,q,rfl,hq⟩
  ·have x0:Ext G (G.room 23):=(Ext.refl G).room 23
   obtain ⟨q,G1,vb,ib,n,e1,x1,⟨k1,k2,k3,k4⟩,R⟩:=ab7 ae bD eu hs hi (g:=g) hg.2 hj hh (key:=x.key) (G.room 23)
   have e2:(E ae).cl 178 [P0 xb] G=some (P0 q,G1):=by
    refine f178 (ai Q ae) _ G _ ?_
    have ld:eI 13 lb 0 (G.room 23)=some t.v:=by rw [mC (n:=12) (o:=0) (by simpa using ol) (by decide) (by simp)]; rfl
    rw [← hg.1] at e1
    simp [-iw,s178,ow,ol,ld,e1]
   have y1:=x0.trans x1
   simp at k1 k2 k3 k4
   obtain ⟨l1,l2,l3,l4⟩:=R.lt
   obtain ⟨G2,aD⟩:∃ G2,G2=(G1.put pb (bH (bu 178 xb) (gC 180) .nilFunc (P0 q) false)).put pb (bH (bu 178 xb) (gC 180) .nilFunc (P0 q) true):=⟨_,rfl⟩
   have a1:∀ {g},At own tag G g→At (grown own G tg) tag G1 g:=fun a=>a.to y1.nx db
   have w1:PW (Bq own tg lb pb) own G (grown own G tg) G1 m s:=(PW.refl h).de y1 tg
   have w2:PW (Bq own tg lb pb) own G (grown own G tg) G2 m s:=by
    rw [aD]
    exact (w1.put (.inl (.inr (.inl rfl))) (fun _=>by rw [(a1 ap).tag]; exact ht) _).put (.inl (.inr (.inl rfl))) (fun _=>by rw [(a1 ap).tag]; exact ht) _
   have n2:G2.nx=G1.nx:=by rw [aD]; rfl
   have kp:∀ g,g≠pb→G2.obj g=G1.obj g:=fun g hg=>by rw [aD,aT,if_neg hg,aT,if_neg hg]
   have nS:=ap.lt
   refine ⟨_,G2,q,.inr ⟨rfl,_,_,_,G1,rfl,.inr ⟨_,_,_,rfl⟩,.inl rfl,(JW ae _ _ G).trans e2,(y1.obj _ ap.lt).trans op,aD⟩,w2,⟨by omega,vb,ib,n,?_,gx (by omega),gx (by omega),gx (by omega),fun j hj=>gx (by omega)⟩,by rw [aD]; simp,(kp lb d1).trans (y1.obj _ al.lt)⟩
   rw [ui,hg.1]
   exact R.to (Nat.le_of_eq n2.symm) (kp _ (by omega)) (kp _ (by omega)) (kp _ (by omega)) fun j hj=>kp _ (by omega)
  ·exact ⟨own,G,q,.inl ⟨rfl,rfl,rfl⟩,PW.refl h,hq,op,rfl⟩
 obtain ⟨lS,Gm,q,hm,w1,di,oK,B6⟩:=mk
 obtain ⟨aG,G2,e2,w2,fJ⟩:=aca ae hd w1.pm h10 di
 have am:∀ {g},At own tag G g→At lS tag Gm g:=fun a=>a.to w1.nx w1.aO.cd
 have kp:∀ {g},At own tag G g→G2.obj g=Gm.obj g:=fun a=>w2.tV (am a).lt (am a).tag ht aV
 have cV:=(kp ap).trans oK
 have x3:Ext G2 (G2.room 10):=(Ext.refl G2).room 10
 have jB:=fJ.to x3.nx (fun g hg _=>x3.obj g hg) (db (t:=tg))
 have e3:=ab9 ae jB
 have w12:PW (Bq own tg lb pb) own G aG G2 m (x.step t s).2:=w1.sub w2 fun x hx k=>.inr (.inr k)
 refine ⟨_,_,q,ach ae op hm oK e2 cV (.inr ⟨_,rfl,e3⟩) (by simpa using cV) (.inl ⟨.inr rfl,.inl rfl,rfl⟩),w12.de x3 tg,jB,by simpa using cV,by simpa using (kp al).trans B6⟩
theorem acm (ae:FuncId→Bool) (bD:ae 187=false) (kU:ae 309=false) (eu:ae 211=false) (hs:t.sound) (cR:t.fA) (ko:0≤aB t 0 0) (h:PM own G m s) (hm:s.ok) (hk:y.ok t) (h10:tg≠10) (B7:th≠10) (B8:tg≠th) (aV:tag≠tg) (dP:tag≠th) (ht:tag≠10)
  (hg:y.ref=aU y.i g∧0≤g∧g<4294967296) {job:Int}
  (ap:At own tag G pb) (al:At own tag G lb) (aw:At own tag G xb) (d1:lb≠pb) (d2:xb≠lb) (d3:xb≠pb)
  (op:G.obj pb=some (bH (bu 181 xb) (gC 183) .nilFunc now md)) (ol:G.obj lb=some (bN t c p0 parts by_ er (eL y.key job y.hi tries y.ref))) (ow:G.obj xb=some ⟨[P0 lb],1,false,1⟩) (hq:xw own tg th t G now md y) :
  ∃ ah G1 q,(E ae).cl 307 [P0 pb,P0 m] G=some (.tuple #[.bool (decide ((y.step t s).1.line=0)),.int .u64 (y.step t s).1.by_],G1)∧PW (nF own tg th lb pb) own G ah G1 m (y.step t s).2∧nt ah tg th t G1 q (y.step t s).1 ∧
   G1.obj pb=some (bH (bu 181 xb) (gC 183) .nilFunc (P0 q) true)∧G1.obj lb=G.obj lb:=by
 have mk:∃ lS Gm q,((md=true∧now=P0 q∧Gm=G)∨(md=false∧∃ F a c G0,bu 181 xb= .func (.func F) a c∧(gC 183= .nilFunc∨∃ F a c,gC 183= .func (.func F) a c)∧(Value.nilFunc= .nilFunc∨∃ F a c,Value.nilFunc= .func (.func F) a c)∧dO (E ae) (bu 181 xb) [] G=some (P0 q,G0)∧G0.obj pb=some (bH (bu 181 xb) (gC 183) .nilFunc now md)∧Gm=(G0.put pb (bH (bu 181 xb) (gC 183) .nilFunc (P0 q) false)).put pb (bH (bu 181 xb) (gC 183) .nilFunc (P0 q) true))) ∧
   PW (nF own tg th lb pb) own G lS Gm m s∧nt lS tg th t Gm q y∧Gm.obj pb=some (bH (bu 181 xb) (gC 183) .nilFunc (P0 q) true)∧Gm.obj lb=G.obj lb:=by
  rcases hq with ⟨rfl,JU⟩ | ⟨rfl,q,rfl,hq⟩
  ·have x0:Ext G (G.room 19):=(Ext.refl G).room 19
   obtain ⟨q,G1,e1,x1,⟨k1,k2⟩,hI⟩:=abr ae eu hs ko hk.idx (g:=g) hg.2 hk.high (key:=y.key) (G.room 19)
   have e2:(E ae).cl 181 [P0 xb] G=some (P0 q,G1):=by
    refine f181 (ai Q ae) _ G _ ?_
    have ld:eI 13 lb 0 (G.room 19)=some t.v:=by rw [mC (n:=12) (o:=0) (by simpa using ol) (by decide) (by simp)]; rfl
    rw [← hg.1] at e1
    simp [-iw,s181,ow,ol,ld,e1]
   have y1:=x0.trans x1
   simp at k1
   obtain ⟨xx,JX⟩:∃ xx:Nat→Nat,xx =fun z=>if z<G.nx then own z else if z=q then tg else th:=⟨_,rfl⟩
   have ag:bW own xx G:=fun z hz=>by rw [JX]; simp [hz]
   have sY:=hI xx tg th (by rw [JX]; simp; omega) (fun z h1 h2=>by rw [JX]; simp at h1; simp [h2]; omega)
   rw [← hg.1,← JU] at sY
   obtain ⟨G2,aD⟩:∃ G2,G2=(G1.put pb (bH (bu 181 xb) (gC 183) .nilFunc (P0 q) false)).put pb (bH (bu 181 xb) (gC 183) .nilFunc (P0 q) true):=⟨_,rfl⟩
   have a1:∀ {g},At own tag G g→At xx tag G1 g:=fun a=>a.to y1.nx ag
   have w1:PW (nF own tg th lb pb) own G xx G1 m s:=(PW.refl h).zi y1 ag
   have w2:PW (nF own tg th lb pb) own G xx G2 m s:=by
    rw [aD]
    exact (w1.put (.inl (.inr (.inl rfl))) (fun _=>by rw [(a1 ap).tag]; exact ht) _).put (.inl (.inr (.inl rfl))) (fun _=>by rw [(a1 ap).tag]; exact ht) _
   have n2:G2.nx=G1.nx:=by rw [aD]; rfl
   have kp:∀ g,g≠pb→G2.obj g=G1.obj g:=fun g hg=>by rw [aD,aT,if_neg hg,aT,if_neg hg]
   refine ⟨_,G2,q,.inr ⟨rfl,_,_,_,G1,rfl,.inr ⟨_,_,_,rfl⟩,.inl rfl,(JW ae _ _ G).trans e2,(y1.obj _ ap.lt).trans op,aD⟩,w2,?_,by rw [aD]; simp,(kp lb d1).trans (y1.obj _ al.lt)⟩
   exact sY.to (Nat.le_of_eq n2.symm) (fun z _ hz=>kp z fun e=>by rw [e,(a1 ap).tag] at hz; exact hz.elim aV dP) (bW.refl _ _)
  ·exact ⟨own,G,q,.inl ⟨rfl,rfl,rfl⟩,PW.refl h,hq,op,rfl⟩
 obtain ⟨lS,Gm,q,iT,w1,di,oK,B6⟩:=mk
 obtain ⟨aG,G2,e2,w2,fJ⟩:=abj ae bD kU hs cR w1.pm hm hk h10 B7 B8 di
 have am:∀ {g},At own tag G g→At lS tag Gm g:=fun a=>a.to w1.nx w1.aO.cd
 have kp:∀ {g},At own tag G g→G2.obj g=Gm.obj g:=fun a=>w2.RX (am a).lt (by rw [(am a).tag]; exact ht) (by rw [(am a).tag]; exact aV) (by rw [(am a).tag]; exact dP)
 have cV:=(kp ap).trans oK
 have x3:Ext G2 (G2.room 10):=(Ext.refl G2).room 10
 have jB:=fJ.to x3.nx (fun g hg _=>x3.obj g hg) (db (t:=tg))
 have e3:=abt ae jB
 have w12:PW (nF own tg th lb pb) own G aG G2 m (y.step t s).2:=w1.trans w2 fun z hz k=>.inr (.inr (k.imp (w1.aO.same hz).symm.trans (w1.aO.same hz).symm.trans))
 refine ⟨_,_,q,run_in ae op iT oK e2 cV (.inr ⟨_,rfl,e3⟩) (by simpa using cV) (.inl ⟨.inr rfl,.inl rfl,rfl⟩),w12.de x3 tg,jB,by simpa using cV,by simpa using (kp al).trans B6⟩
end
end Go.Proofs.YtphandknhnkhfaaGreat.Lift
