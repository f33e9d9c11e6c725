import Derived.Test.YtphandknhnkhfaaGreatPC
import Derived.Test.YtphandknhnkhfaaGreatPB
set_option linter.unusedVariables false
set_option linter.unusedSimpArgs false
set_option maxRecDepth 20000
namespace Go.Proofs.YtphandknhnkhfaaGreat.Lift
open Go Go.Proofs.YtphandknhnkhfaaGreat.Gh Go.Proofs
section
variable {own own':Nat→Nat} {tag m r b:Nat} {t:TW} {G G':GS} {s:MS} {lv ln a i w k j by_ er:Int} {mn:Bool} {fp rp:Option Addr} {x:aE}
theorem aaS (ae:FuncId→Bool) {v:Int} (h:U v) (G:GS):(E ae).cl 272 [.int .u64 v] G=some (.bool (decide (9223372036854775808≤v)),G) :=
 f272 (ai Q ae) _ G _ (by simp [s272,xl ae h])
theorem aaT (ae:FuncId→Bool) {v:Int} (h:U v) (hm:bp≤v) (G:GS):(E ae).cl 273 [.int .u64 v,.bool false] G=some (.int .u64 (v - bp),G) :=
 f273 (ai Q ae) _ _ G _ (by
  have:=Jn ae h hm G
  simp [s273,this]; rfl)
end
abbrev eK (own:Nat→Nat) (t u:Nat):Nat→Prop:=fun x=>own x=t∨own x=u
section
variable {own own' ah aG:Nat→Nat} {tag tg m r b:Nat} {t:TW} {G G' G1 G2:GS} {s s' s1:MS} {x:aE}
theorem iN {own:Nat→Nat} {g b tag tg:Nat} (h1:own b=tag) (h2:own g=tg) (az:tag≠tg):g≠b:=fun k=>az (by rw [← h1,← h2,k])
theorem PW.hi (w:PW (Own own tg) own G ah G1 m s):PW (eK own tag tg) own G ah G1 m s:=w.mono fun _ _ h=>.inr h
theorem PW.pK (w:PW (eK own tag tg) own G ah G1 m s) (k:PW (eK ah tag tg) ah G1 aG G2 m s'):PW (eK own tag tg) own G aG G2 m s':=w.trans k fun _ hx h=>h.imp (w.aO.same hx).symm.trans (w.aO.same hx).symm.trans
theorem PW.jA (w:PW (eK own tag tg) own G ah G1 m s) (hb:ah b=tag) (ht:tag≠10) (o:aR):PW (eK own tag tg) own G ah (G1.put b o) m s:=by
 refine w.put ?_ (fun _=>by rw [hb]; exact ht) o
 by_cases hl:b<G.nx
 ·exact .inl (.inl ((w.aO.same hl).symm.trans hb))
 ·exact .inr (by omega)
end
section
variable {own own' ah aG:Nat→Nat} {tag tg m r b:Nat} {t:TW} {G G' G1 G2:GS} {s s' s1:MS} {x:aE} {fp rp:Option Addr}
end
def aE.new (t:TW):aE:=⟨1,0,0,0,0,0,0,0,false,0,au.new t 0,.looks⟩
def gA (k j:Int):Value:=.agg ⟨[.int .u64 k,.int .i64 j]⟩
def aE.ik (x:aE):Int:=if x.line≠99 then 0 else if x.err≠0 then 0 else x.key
def aE.ij (x:aE):Int:=if x.line≠99 then 0 else if x.err≠0 then 0 else x.job
def aE.ie (x:aE):Int:=if x.line≠99 then 14 else x.err
section
variable {look:Bool} {own own' ah aG:Nat→Nat} {tag tg m r b:Nat} {t:TW} {G G' G1 G2:GS} {s s' s1:MS} {x:aE} {fp rp:Option Addr}
theorem aE.ju (hs:t.sound):(aE.new t).ok look t:=⟨by simp [fO,aE.new],dJ,dJ,by simp [aE.new],by simp [aE.new],by have:=hs.1; simp [aE.new]; omega,dJ,dJ,by simp [aE.new],by simp [aE.new],by simp [aE.new],by simp [aE.new]⟩
theorem Ey {G:GS} (o o':aR):Ext G ((G.push o).put G.nx o'):=((Ext.refl G).push _).put (Nat.le_refl _) _
theorem aaU (hs:t.sound):aX t (-1) 0=t.cn:=by
 have:=hs.1
 unfold aX aB
 rw [if_pos (by decide),if_pos hs,if_pos rfl,if_pos (by omega)]
 omega
end
abbrev mJ (t:TW) (fm:Bool) (ref key i hi ln lv w:Int) (fp rp:Option Addr) (by_:Int):aR:=⟨[.int .i64 t.nodes,.int .i64 t.cn,.int .i64 t.ay,.int .i64 t.top,.int .i64 t.links,.int .i64 t.size,.int .i64 t.u6,.int .i64 t.u7,.int .i64 t.u8,.int .i64 t.u9,.int .i64 t.u10,.int .i64 t.u11,.int .i64 t.u12,.bool true,.bool fm,.int .u64 ref,.int .u64 key,.int .i64 i,.int .i64 hi,.int .i64 ln,.int .i64 lv,.int .u64 w,.pointer fp,.pointer rp,.int .u64 by_,.int .i64 0],1,false,1⟩
abbrev cZ (t:TW) (x:ak) (ln:Int) (fb:Nat) (rp:Option Addr):aR:=mJ t x.fm x.ref x.key x.i x.hi ln x.level x.w (some ⟨fb,0,none⟩) rp x.by_
structure cO (own:Nat→Nat) (tag tg:Nat) (t:TW) (G:GS) (b:Nat) (x:ak) (ln:Int) (fb tb:Nat) (rp:Option Addr):Prop where
 hb:At own tag G b
 ob:G.obj b=some (cZ t x ln fb rp)
 af:At own tg G fb
 pL:At own tg G tb
 ne:fb≠tb
 fi:ej t G fb tb x.find
structure BW (own:Nat→Nat) (tag tg:Nat) (t:TW) (G:GS) (b:Nat) (x:ak) (ln:Int):Prop where
 hb:At own tag G b
 ob:∃ fp rp:Option Addr,G.obj b=some (mJ t x.fm x.ref x.key x.i x.hi ln x.level x.w fp rp x.by_)∧(x.line=12→∃ rb,rp=some ⟨rb,0,none⟩∧At own tg G rb∧sa own tg t G rb x.i x.ret)
def tW (own:Nat→Nat) (tag tg:Nat) (t:TW) (G:GS) (b:Nat) (x:ak) (ln:Int):Prop :=
 (x.line≠12∧x.line≠0∧∃ fb tb rp,cO own tag tg t G b x ln fb tb rp)∨((x.line=12∨x.line=0)∧BW own tag tg t G b x ln)
def nt (own:Nat→Nat) (tag tg:Nat) (t:TW) (G:GS) (b:Nat) (x:ak):Prop:=tW own tag tg t G b x x.line
section
variable {own own' ah aG:Nat→Nat} {tag tg m b fb tb:Nat} {t:TW} {rp:Option Addr} {G G' G1 G2:GS} {s s':MS} {x y:ak} {ln vD:Int}
theorem cO.to (h:cO own tag tg t G b x ln fb tb rp) (hn:G.nx≤G'.nx) (hk:∀ g,g<G.nx→own g=tag∨own g=tg→G'.obj g=G.obj g) (a:bW own own' G):cO own' tag tg t G' b x ln fb tb rp :=
 ⟨h.hb.to hn a,(hk _ h.hb.lt (.inl h.hb.tag)).trans h.ob,h.af.to hn a,h.pL.to hn a,h.ne,h.fi.kept (hk _ h.af.lt (.inr h.af.tag)) (hk _ h.pL.lt (.inr h.pL.tag))⟩
theorem BW.to (h:BW own tag tg t G b x ln) (hn:G.nx≤G'.nx) (hk:∀ g,g<G.nx→own g=tag∨own g=tg→G'.obj g=G.obj g) (a:bW own own' G):BW own' tag tg t G' b x ln:=by
 obtain ⟨hb,fp,rp,h1,h2⟩:=h
 refine ⟨hb.to hn a,fp,rp,(hk _ hb.lt (.inl hb.tag)).trans h1,fun e=>?_⟩
 obtain ⟨rb,e1,e2,e3⟩:=h2 e
 exact ⟨rb,e1,e2.to hn a,e3.to e2 hn (fun g hg hh=>hk g hg (.inr hh)) a⟩
theorem nt.to (h:nt own tag tg t G b x) (hn:G.nx≤G'.nx) (hk:∀ g,g<G.nx→own g=tag∨own g=tg→G'.obj g=G.obj g) (a:bW own own' G):nt own' tag tg t G' b x:=by
 rcases h with ⟨e1,e2,fb,tb,rp,h1⟩ | ⟨e,h⟩
 ·exact .inl ⟨e1,e2,fb,tb,rp,h1.to hn hk a⟩
 ·exact .inr ⟨e,h.to hn hk a⟩
theorem cO.acc (h:cO own tag tg t G b x ln fb tb rp) (ht:tag≠10) (hg:tg≠10) (w:PW no own G ah G1 m s):cO ah tag tg t G1 b x ln fb tb rp :=
 h.to w.nx (fun g eZ k=>w.keep eZ (by rcases k with k | k<;>rw [k]<;>assumption) id) w.aO.cd
theorem cO.ext (h:cO own tag tg t G b x ln fb tb rp) (e:Ext G G1) (u:Nat):cO (grown own G u) tag tg t G1 b x ln fb tb rp:=h.to e.nx (fun g hg _=>e.obj g hg) db
theorem cO.set (h:cO own tag tg t G b x ln fb tb rp) (az:tag≠tg) (hf:y.find=x.find) (vD:Int) (Q8:Option Addr):cO own tag tg t (G.put b (cZ t y vD fb Q8)) b y vD fb tb Q8 :=
 ⟨h.hb.bC _ _,by simp,h.af.bC _ _,h.pL.bC _ _,h.ne,hf▸h.fi.kept (jy _ _ (iN h.hb.tag h.af.tag az)) (jy _ _ (iN h.hb.tag h.pL.tag az))⟩
theorem PW.z (w:PW no own G ah G1 m s):PW (eK own tag tg) own G ah G1 m s:=w.any
theorem Ez (ae:FuncId→Bool) (hs:t.sound) (h:PM own G m s) (ht:tag≠10) (hg:tg≠10) (az:tag≠tg) (hx:cO own tag tg t G b x ln fb tb rp) (l:Int) :
  ∃ ah G1 kT iO,(E ae).cl 204 [P0 b,.int .i64 l] G=some (.int .i64 l,G1)∧PW (eK own tag tg) own G ah G1 m s∧cO ah tag tg t G1 b (x.anew t l) ln kT iO rp:=by
 have ob:=hx.ob
 obtain ⟨kT,iO,G1,e1,x1,q1,q2,q3,F1⟩:=QY ae hs x.key (G.room 13)
 have y1:=((Ext.refl G).room 13).trans x1
 have n1:G.nx≤kT:=by have:=q1.1; simp at this; omega
 have n2:G.nx≤iO:=by have:=q2.1; simp at this; omega
 have w1:PW (eK own tag tg) own G (grown own G tg) G1 m s:=(PW.refl h).de y1 tg
 have di:=hx.ext y1 tg
 have dq:=di.ob
 have a1:At (grown own G tg) tg G1 kT:=At.new n1 q1.2
 have a2:At (grown own G tg) tg G1 iO:=At.new n2 q2.2
 have ld:eI 13 b 0 (G.room 13)=some t.v:=by rw [mC (n:=12) (o:=0) (by simpa using ob) (by decide) (by simp)]; rfl
 refine ⟨_,G1.put b (cZ t (x.anew t l) ln kT rp),kT,iO,f204 (ai Q ae) _ _ G _ ?_,w1.jA di.hb.tag ht _,di.hb.bC _ _,by simp,a1.bC _ _,a2.bC _ _,q3,F1.kept (jy _ _ (iN di.hb.tag a1.tag az)) (jy _ _ (iN di.hb.tag a2.tag az))⟩
 simp [-iw,s204,ob,ld,e1,dq,ak.anew]
theorem Jr (ae:FuncId→Bool) (bD:ae 187=false) (hs:t.sound) (h:PM own G m s) (hm:s.ok) (hk:x.find.ok t) (ht:tag≠10) (hg:tg≠10) (az:tag≠tg) (hx:cO own tag tg t G b x ln fb tb rp) (qN yes:Int) :
  ∃ ah G1,(E ae).cl 322 [P0 b,P0 m] G=some (.bool (decide ((x.find.step t s).1.line=9)),G1)∧PW (eK own tag tg) own G ah G1 m (x.dB t s qN yes).2∧cO ah tag tg t G1 b (x.dB t s qN yes).1 ln fb tb rp:=by
 have ob:=hx.ob
 obtain ⟨ah,G1,e1,w1,F1⟩:=aaB ae bD hs h hm hk hg hx.ne hx.af hx.pL hx.fi
 have o1:=(w1.tV hx.hb.lt hx.hb.tag ht az).trans ob
 have bM:=hx.hb.to w1.nx w1.aO.cd
 have b1:=hx.af.to w1.nx w1.aO.cd
 have b2:=hx.pL.to w1.nx w1.aO.cd
 have n1:fb≠b:=iN hx.hb.tag hx.af.tag az
 have n2:tb≠b:=iN hx.hb.tag hx.pL.tag az
 unfold ak.dB
 simp only
 generalize (x.find.step t s).2=s' at *
 generalize (x.find.step t s).1=f' at *
 have eQ:PW (eK own tag tg) own G ah G1 m s':=w1.hi
 have e2:=aaC ae F1
 refine ⟨ah,G1.put b (mJ t x.fm x.ref x.key x.i x.hi ln x.level x.w (some ⟨fb,0,none⟩) rp f'.by_),f322 (ai Q ae) _ _ G _ ?_,eQ.jA bM.tag ht _,bM.bC _ _,by simp,b1.bC _ _,b2.bC _ _,hx.ne,F1.kept (jy _ _ n1) (jy _ _ n2)⟩
 simp [s322,ob,e1,o1,e2]
theorem Js (ae:FuncId→Bool) (h:PM own G m s) (ht:tag≠10) (hg:tg≠10) (az:tag≠tg) (hx:cO own tag tg t G b x ln fb tb rp) (l:Int) :
  ∃ ah G1,(E ae).cl 326 [P0 b,P0 m,.int .i64 l] G=some (.int .u64 (s.load (aX t x.i l)).new,G1)∧PW (eK own tag tg) own G ah G1 m (s.load (aX t x.i l))∧cO ah tag tg t G1 b { x with by_:=x.ref } ln fb tb rp:=by
 have ob:=hx.ob
 obtain ⟨G1,aj⟩:∃ G1,G1=G.put b (cZ t { x with by_:=x.ref } ln fb rp):=⟨_,rfl⟩
 have di:cO own tag tg t G1 b { x with by_:=x.ref } ln fb tb rp:=by rw [aj]; exact hx.set (y:={ x with by_:=x.ref }) az rfl ln rp
 have w1:PW (eK own tag tg) own G own G1 m s:=by rw [aj]; exact (PW.refl h).jA hx.hb.tag ht _
 have o1:=di.ob
 obtain ⟨G2,e2,x2⟩:=rZ ae t x.i l (G1.room 13)
 have y2:=((Ext.refl G1).room 13).trans x2
 have w2:=w1.de y2 tg
 have fJ:=di.ext y2 tg
 generalize grown own G1 tg=aG at *
 obtain ⟨bB,G3,e3,w3⟩:=w2.pm.load ae (aX t x.i l)
 have ld:eI 13 b 0 (G1.room 13)=some t.v:=by rw [mC (n:=12) (o:=0) (by simpa using o1) (by decide) (by simp)]; rfl
 refine ⟨bB,G3,f326 (ai Q ae) _ _ _ G _ ?_,w2.pK w3.z,fJ.acc ht hg w3⟩
 simp only [cZ] at aj o1
 simp [-iw,s326,ob,← aj,ld,o1,e2,e3]
end
section
variable {own own' ah aG:Nat→Nat} {tag tg m b fb tb:Nat} {t:TW} {rp:Option Addr} {G G' G1 G2:GS} {s s':MS} {x y:ak} {ln vD l:Int} {k:IntKind} {v:Value} {L:List Int}
theorem Jt (h:bI (bK k) G v L) (h0:0≤l) (h1:l<L.length):∃ a n c,v= .slice (some ⟨a,n,none⟩) L.length c∧G.cell a (n+l.toNat*1)=some (.int k ((L[l.toNat]?).getD 0)):=by
 have hl:l.toNat<L.length:=by omega
 obtain ⟨a,n,c,e,_,q,_⟩:=h.at hl
 have:=q 0 (by show (0:Nat)<1; decide)
 refine ⟨a,n,c,e,?_⟩
 rw [List.getElem?_eq_getElem hl]
 simpa [bK] using this
theorem Ju (x:au) {n:Nat} (hl:x.told.length=n) (h0:0≤l) (h1:l<n) (f:dZ→Int):((x.told.map f)[l.toNat]?).getD 0=f (x.spot l):=by
 have:l.toNat<x.told.length:=by omega
 unfold au.spot
 rw [List.getElem?_map,List.getElem?_eq_getElem this]
 rfl
theorem BX (k:IntKind) (w:Int):same (.int k w) (.int k w)=true:=by simp [same,cm]
theorem BZ (p:Option Addr):same (.pointer p) (.pointer p)=true:=by simp [same,cm]
theorem Q9 (t:TW):same t.v t.v=true:=by simp [same,cm,cm.lf]
theorem EA (ae:FuncId→Bool) (hs:t.sound) (hx:cO own tag tg t G b x ln fb tb rp) (hk:x.find.ok t) (h9:x.find.line=9) (h0:0≤l) (h1:l<t.ay):∃ a n c N G',l<((N:Nat):Int)∧(E ae).cl 323 [P0 fb] G=some (.slice (some ⟨a,n,none⟩) N c,G')∧Ext G G' ∧G'.cell a (n+l.toNat*1)=some (.int .u64 (x.find.spot l).cur):=by
 obtain ⟨v,G',e1,x1,o1⟩:=aaJ ae hs hx.fi hx.pL.lt h9 hk.told
 have hl:(x.find.told.map (·.cur)).length=t.ay.toNat:=by simp [hk.told]
 obtain ⟨a,n,c,rfl,q⟩:=Jt o1.is h0 (by rw [hl]; omega)
 rw [Ju x.find hk.told h0 (by omega)] at q
 rw [hl] at e1
 exact ⟨a,n,c,_,G',by omega,e1,x1,q⟩
theorem aaV (ae:FuncId→Bool) (hs:t.sound) (hx:cO own tag tg t G b x ln fb tb rp) (hk:x.find.ok t) (h9:x.find.line=9) (h0:0≤l) (h1:l<t.ay):∃ a n c N G',l<((N:Nat):Int)∧(E ae).cl 329 [P0 fb] G=some (.slice (some ⟨a,n,none⟩) N c,G')∧Ext G G' ∧G'.cell a (n+l.toNat*1)=some (.int .u64 (x.find.spot l).known):=by
 obtain ⟨v,G',e1,x1,o1⟩:=aaL ae hs hx.fi hx.pL.lt h9 hk.told
 have hl:(x.find.told.map (·.known)).length=t.ay.toNat:=by simp [hk.told]
 obtain ⟨a,n,c,rfl,q⟩:=Jt o1.is h0 (by rw [hl]; omega)
 rw [Ju x.find hk.told h0 (by omega)] at q
 rw [hl] at e1
 exact ⟨a,n,c,_,G',by omega,e1,x1,q⟩
theorem aaW (ae:FuncId→Bool) (hs:t.sound) (hx:cO own tag tg t G b x ln fb tb rp) (hk:x.find.ok t) (h9:x.find.line=9) (h0:0≤l) (h1:l<t.ay):∃ a n c N G',l<((N:Nat):Int)∧(E ae).cl 330 [P0 fb] G=some (.slice (some ⟨a,n,none⟩) N c,G')∧Ext G G' ∧G'.cell a (n+l.toNat*1)=some (.int .i64 (x.find.spot l).pred):=by
 obtain ⟨v,G',e1,x1,o1⟩:=aaH ae hs hx.fi hx.pL.lt h9 hk.told
 have hl:(x.find.told.map (·.pred)).length=t.ay.toNat:=by simp [hk.told]
 obtain ⟨a,n,c,rfl,q⟩:=Jt o1.is h0 (by rw [hl]; omega)
 rw [Ju x.find hk.told h0 (by omega)] at q
 rw [hl] at e1
 exact ⟨a,n,c,_,G',by omega,e1,x1,q⟩
theorem Ra (ae:FuncId→Bool) (hs:t.sound) (h:PM own G m s) (ht:tag≠10) (hg:tg≠10) (az:tag≠tg) (hx:cO own tag tg t G b x ln fb tb rp) (hk:x.find.ok t) (h9:x.find.line=9) (h0:0≤x.level) (h1:x.level<t.ay) :
  ∃ ah G1,(E ae).cl 324 [P0 b,P0 m] G=some (.bool (x.iM t s).held,G1)∧PW (eK own tag tg) own G ah G1 m (x.iM t s)∧cO ah tag tg t G1 b { x with by_:=(x.find.spot x.level).known } ln fb tb rp:=by
 have ob:=hx.ob
 have hc:(t.ay.toNat:Int)=t.ay:=by omega
 have y0:Ext G (G.room 15):=(Ext.refl G).room 15
 have zm:=hx.ext y0 tg
 obtain ⟨a1,n1,c1,N1,G1,g1,e1,x1,q1⟩:=aaV ae hs zm hk h9 h0 h1
 have y1:=y0.trans x1
 have di:=hx.ext y1 tg
 have dq:=di.ob
 obtain ⟨G2,aD⟩:∃ G2,G2=G1.put b (cZ t { x with by_:=(x.find.spot x.level).known } ln fb rp):=⟨_,rfl⟩
 have fJ:cO (grown own G tg) tag tg t G2 b { x with by_:=(x.find.spot x.level).known } ln fb tb rp:=by rw [aD]; exact di.set (y:={ x with by_:=(x.find.spot x.level).known }) az rfl ln rp
 have w2:PW (eK own tag tg) own G (grown own G tg) G2 m s:=by rw [aD]; exact ((PW.refl h).de y1 tg).jA di.hb.tag ht _
 have eA:=fJ.ob
 generalize grown own G tag=apP at *
 obtain ⟨aG,aaX⟩:∃ aG,aG=grown own G tg:=⟨_,rfl⟩
 rw [← aaX] at fJ w2
 have z0:Ext G2 (G2.room 38):=(Ext.refl G2).room 38
 have jB:=fJ.ext z0 tg
 have g9:=jB.ob
 obtain ⟨a4,n4,c4,N4,G4,g4,e4,x4,q4⟩:=aaW ae hs jB hk h9 h0 h1
 have z4:=z0.trans x4
 have hx4:=fJ.ext z4 tg
 have vC:=hx4.ob
 obtain ⟨G5,e5,x5⟩:=rZ ae t (x.find.spot x.level).pred x.level G4
 have z5:=z4.trans x5
 have oJ:=fJ.ext z5 tg
 have pM:=oJ.ob
 obtain ⟨a6,n6,c6,N6,G6,g6,e6,x6,q6⟩:=EA ae hs oJ hk h9 h0 h1
 have z6:=z5.trans x6
 have vE:=fJ.ext z6 tg
 have pN:=vE.ob
 have w6:=w2.de z6 tg
 obtain ⟨tX,G7,e7,w7⟩:=w6.pm.bT ae (aX t (x.find.spot x.level).pred x.level) (x.find.spot x.level).cur x.ref
 have ld:∀ {G:GS} {o:aR},G.obj b=some (cZ t { x with by_:=(x.find.spot x.level).known } ln fb rp)→eI 13 b 0 G=some t.v:=fun k=>by rw [mC (n:=12) (o:=0) k (by decide) (by simp)]; rfl
 have ld3:eI 13 b 0 (G2.room 38)=some t.v:=ld (o:=cZ t x ln fb rp) g9
 have ld4:eI 13 b 0 G4=some t.v:=ld (o:=cZ t x ln fb rp) vC
 refine ⟨tX,G7,f324 (ai Q ae) _ _ G _ ?_,w6.pK w7.z,vE.acc ht hg w7⟩
 simp only [cZ] at ob dq eA g9 vC pM pN aD
 have obr:(G.room 15).obj b=G.obj b:=by simp
 have smv:=Q9 t
 simp at q1 q4 q6
 simp [-iw,s324,ob,e1,dq,br,BX,BZ,smv,h0,g1,g4,g6,q1,← aD,ld3,ld4,eA,g9,e4,vC,q4,e5,pM,e6,pN,q6]
 exact e7
end
section
variable {own own' ah aG:Nat→Nat} {tag tg m b fb tb:Nat} {t:TW} {rp:Option Addr} {G G' G1 G2:GS} {s s':MS} {x y:ak} {ln vD l:Int}
theorem cO.as (h:cO own tag tg t G b x ln fb tb rp) (e1:cZ t y ln fb rp=cZ t x ln fb rp) (e2:y.find=x.find):cO own tag tg t G b y ln fb tb rp :=
 ⟨h.hb,h.ob.trans (congrArg some e1.symm),h.af,h.pL,h.ne,e2▸h.fi⟩
theorem cO.qq (h:cO own tag tg t G b x ln fb tb rp) (e1:cZ t y ln fb rp=cZ t x ln fb rp) (e2:y.find=x.find) (h12:y.line≠12):tW own tag tg t G b y ln:=by
 by_cases h0:y.line=0
 ·exact .inr ⟨.inr h0,h.hb,some ⟨fb,0,none⟩,rp,h.ob.trans (congrArg some e1.symm),fun e=>absurd e h12⟩
 ·exact .inl ⟨h12,h0,fb,tb,rp,h.as e1 e2⟩
theorem cO.q (h:cO own tag tg t G b x ln fb tb rp) (h12:x.line≠12):tW own tag tg t G b x ln:=h.qq rfl rfl h12
abbrev gK (own:Nat→Nat) (tag tg m:Nat) (t:TW) (G:GS) (b:Nat) (s:MS) (x:ak) (f:FuncId) (ae:FuncId→Bool) (ln:Int):Prop :=
 ∃ ah G1,(E ae).cl f [P0 b,P0 m] G=some (.int .i64 (x.step t s).1.line,G1)∧PW (eK own tag tg) own G ah G1 m (x.step t s).2∧tW ah tag tg t G1 b (x.step t s).1 ln
theorem aaY (ae:FuncId→Bool) (bD:ae 187=false) (hs:t.sound) (h:PM own G m s) (hm:s.ok) (hk:x.ok t) (ht:tag≠10) (hg:tg≠10) (az:tag≠tg) (hx:cO own tag tg t G b x ln fb tb rp) (e:x.line=1):gK own tag tg m t G b s x 310 ae ln:=by
 have ax:x.step t s=x.l1 t s:=by unfold ak.step; simp [e]
 obtain ⟨ah,G1,e1,w1,F1⟩:=Jr ae bD hs h hm hk.find ht hg az hx 1 2
 have dq:=F1.ob
 unfold gK
 rw [ax]
 unfold ak.l1
 by_cases h9:(x.find.step t s).1.line=9
 ·have hl:(x.dB t s 1 2).1.line=2:=by simp [ak.dB,h9]
  simp only [h9,if_true,hl]
  refine ⟨ah,G1.put b (cZ t { (x.dB t s 1 2).1 with level:=0 } ln fb rp),f310 (ai Q ae) _ _ G _ ?_,w1.jA F1.hb.tag ht _,(F1.set (y:={ (x.dB t s 1 2).1 with level:=0 }) az rfl ln rp).qq rfl rfl (by simp [hl])⟩
  simp [s310,e1,h9,dq]
 ·have hl:(x.dB t s 1 2).1.line=1:=by simp [ak.dB,h9]
  simp only [h9,if_false,hl]
  refine ⟨ah,G1,f310 (ai Q ae) _ _ G _ ?_,w1,F1.qq rfl rfl (by simp [hl])⟩
  simp [s310,e1,h9]
theorem aaZ (ae:FuncId→Bool) (bD:ae 187=false) (hs:t.sound) (h:PM own G m s) (hm:s.ok) (hk:x.ok t) (ht:tag≠10) (hg:tg≠10) (az:tag≠tg) (hx:cO own tag tg t G b x ln fb tb rp) (e:x.line=7):gK own tag tg m t G b s x 316 ae ln:=by
 have ax:x.step t s=x.dB t s 7 8:=by unfold ak.step; simp [e]
 obtain ⟨ah,G1,e1,w1,F1⟩:=Jr ae bD hs h hm hk.find ht hg az hx 7 8
 unfold gK
 rw [ax]
 by_cases h9:(x.find.step t s).1.line=9
 ·have hl:(x.dB t s 7 8).1.line=8:=by simp [ak.dB,h9]
  rw [hl]
  exact ⟨ah,G1,f316 (ai Q ae) _ _ G _ (by simp [s316,e1,h9]),w1,F1.q (by simp [hl])⟩
 ·have hl:(x.dB t s 7 8).1.line=7:=by simp [ak.dB,h9]
  rw [hl]
  exact ⟨ah,G1,f316 (ai Q ae) _ _ G _ (by simp [s316,e1,h9]),w1,F1.q (by simp [hl])⟩
theorem aa0 (ae:FuncId→Bool) (bD:ae 187=false) (hs:t.sound) (h:PM own G m s) (hm:s.ok) (hk:x.ok t) (ht:tag≠10) (hg:tg≠10) (az:tag≠tg) (hx:cO own tag tg t G b x ln fb tb rp) (e:x.line=10):gK own tag tg m t G b s x 319 ae ln:=by
 have ax:x.step t s=x.dB t s 10 11:=by unfold ak.step; simp [e]
 obtain ⟨ah,G1,e1,w1,F1⟩:=Jr ae bD hs h hm hk.find ht hg az hx 10 11
 unfold gK
 rw [ax]
 by_cases h9:(x.find.step t s).1.line=9
 ·have hl:(x.dB t s 10 11).1.line=11:=by simp [ak.dB,h9]
  rw [hl]
  exact ⟨ah,G1,f319 (ai Q ae) _ _ G _ (by simp [s319,e1,h9]),w1,F1.q (by simp [hl])⟩
 ·have hl:(x.dB t s 10 11).1.line=10:=by simp [ak.dB,h9]
  rw [hl]
  exact ⟨ah,G1,f319 (ai Q ae) _ _ G _ (by simp [s319,e1,h9]),w1,F1.q (by simp [hl])⟩
theorem aa1 (ae:FuncId→Bool) (hx:cO own tag tg t G b x ln fb tb rp) (zn:0≤x.level):∀ (j:Nat) (k:Nat) (τ:Env),k+j=x.hi→x.level<k→τ 0=P0 b→τ 1=P0 m→τ 16= .int .i64 x.hi→τ 17= .int .i64 k→x.hi≤4 →
  Wp ((bA Q ae).du 311 0 τ G) fun r=>r.1= .exit 0∧r.2.1 0=P0 b∧r.2.2=G:=by
 have ob:=hx.ob
 simp only [cZ] at ob
 intro j
 induction j with
 | zero =>
  intro k τ hk r8 t0 t1 t16 t17 h4
  have c1:¬ ((k:Int)<x.hi):=by omega
  refine Wp.lp (D9 (ai Q ae)) ?_
  simp [za,ao,t0,t1,t16,t17,c1]
 | succ j ih =>
  intro k τ hk r8 t0 t1 t16 t17 h4
  have c1:((k:Int)<x.hi):=by omega
  have c2:¬ ((k:Int)=x.level):=by omega
  have c3:IntKind.wrap .i64 ((k:Int)+1)=(k:Int)+1:=wrap64 (by omega) (by omega)
  refine Wp.lp (D9 (ai Q ae)) ?_
  simp [za,ao,t0,t1,t16,t17,c1,c2,c3,ob]
  refine ih (k+1) _ (by omega) (by omega) ?_ ?_ ?_ ?_ h4<;>simp [ao,t0,t1,t16]
theorem aa2 (ae:FuncId→Bool) (hs:t.sound) (h:PM own G m s) (hk:x.ok t) (ht:tag≠10) (hg:tg≠10) (az:tag≠tg) (hx:cO own tag tg t G b x ln fb tb rp) (h9:x.find.line=9) (zn:x.level<x.hi):∀ (j:Nat) (k:Nat) (τ:Env),k+j=x.level→τ 0=P0 b→τ 1=P0 m→τ 16= .int .i64 x.hi→τ 17= .int .i64 k →
  Wp ((bA Q ae).du 311 0 τ G) fun r=>r.1= .exit 0∧r.2.1 0=P0 b∧∃ ah,PW (eK own tag tg) own G ah r.2.2 m (s.store (aX t x.i x.level) (x.find.spot x.level).cur)∧cO ah tag tg t r.2.2 b x ln fb tb rp:=by
 have ob:=hx.ob
 have h4:=hs.2.1
 have hh:=hk.high
 have h0:=hk.aQ.1
 intro j
 induction j with
 | zero =>
  intro k τ Jv t0 t1 t16 t17
  have c0:(k:Int)=x.level:=by omega
  have c1:((k:Int)<x.hi):=by omega
  have c3:IntKind.wrap .i64 ((k:Int)+1)=(k:Int)+1:=wrap64 (by omega) (by omega)
  have z0:Ext G (G.room 20):=(Ext.refl G).room 20
  obtain ⟨G5,e5,x5⟩:=rZ ae t x.i k (G.room 20)
  have z5:=z0.trans x5
  have oJ:=hx.ext z5 tg
  have pM:=oJ.ob
  obtain ⟨a6,n6,c6,N6,G6,g6,e6,x6,q6⟩:=EA ae hs oJ hk.find h9 h0 (by omega)
  have z6:=z5.trans x6
  have vE:=hx.ext z6 tg
  have w6:PW (eK own tag tg) own G (grown own G tg) G6 m s:=(PW.refl h).de z6 tg
  obtain ⟨tX,G7,e7,w7⟩:=w6.pm.store ae (aX t x.i k) (x.find.spot x.level).cur
  have Rb:=vE.acc ht hg w7
  have ld:eI 13 b 0 (G.room 20)=some t.v:=by rw [mC (n:=12) (o:=0) (by simpa using ob) (by decide) (by simp)]; rfl
  simp only [cZ] at ob pM
  simp at q6
  rw [← c0] at q6 e7
  simp at q6
  have g6':(k:Int)<N6:=by omega
  refine Wp.lp (D9 (ai Q ae)) ?_
  simp [-iw,za,ao,t0,t1,t16,t17,c1,c3,ob,← c0,ld,e5,pM,br,BZ,e6,g6',q6,e7]
  refine (aa1 ae Rb h0 (x.hi.toNat - (k+1)) (k+1) _ (by omega) (by omega) ?_ (m:=m) ?_ ?_ ?_ (by omega)).mono ?_
  ·simp [ao,t0]
  ·simp [ao,t1]
  ·simp [ao,t16]
  ·simp [ao]
  ·rintro ⟨e,τ',G'⟩ ⟨r1,r2,rfl⟩
   rw [c0] at w7
   exact ⟨r1,r2,_,w6.pK (by simpa [c0] using w7.z),Rb⟩
 | succ j ih =>
  intro k τ Jv t0 t1 t16 t17
  have c1:((k:Int)<x.hi):=by omega
  have c2:¬ ((k:Int)=x.level):=by omega
  have c3:IntKind.wrap .i64 ((k:Int)+1)=(k:Int)+1:=wrap64 (by omega) (by omega)
  simp only [cZ] at ob
  refine Wp.lp (D9 (ai Q ae)) ?_
  simp [za,ao,t0,t1,t16,t17,c1,c2,c3,ob]
  refine ih (k+1) _ (by omega) ?_ ?_ ?_ ?_<;>simp [ao,t0,t1,t16]
theorem aa3 (ae:FuncId→Bool) (hs:t.sound) (h:PM own G m s) (hk:x.ok t) (ht:tag≠10) (hg:tg≠10) (az:tag≠tg) (hx:cO own tag tg t G b x ln fb tb rp) (e:x.line=2):gK own tag tg m t G b s x 311 ae ln:=by
 have ax:x.step t s=x.l2 t s:=by unfold ak.step; simp [e]
 have ob:=hx.ob
 have h9:=hk.zk (by simp [e])
 have zn:=hk.aQ.2.2.1 (by simp [e])
 have h0:=hk.aQ.1
 have h4:=hs.2.1
 have hh:=hk.high
 obtain ⟨G1,aj⟩:∃ G1,G1=G.put b (cZ t { x with by_:=x.ref } ln fb rp):=⟨_,rfl⟩
 have di:cO own tag tg t G1 b { x with by_:=x.ref } ln fb tb rp:=by rw [aj]; exact hx.set (y:={ x with by_:=x.ref }) az rfl ln rp
 have w1:PW (eK own tag tg) own G own G1 m s:=by rw [aj]; exact (PW.refl h).jA hx.hb.tag ht _
 have iI:({ x with by_:=x.ref }:ak).ok t:=⟨hk.line,hk.idx,hk.high,hk.ref,hk.aQ,hk.w,hk.find,hk.tok,hk.zk,hk.ret,hk.ref⟩
 have dq:=di.ob
 have w:Wp (s311 true (bA Q ae) (P0 b) (P0 m) G) fun r=>r.1= .int .i64 (x.l2 t s).1.line∧∃ ah,PW (eK own tag tg) own G ah r.2 m (x.l2 t s).2∧tW ah tag tg t r.2 b (x.l2 t s).1 ln:=by
  simp only [cZ] at ob dq aj
  simp [s311,ob,← aj,dq]
  refine Wp.bE ((aa2 ae hs w1.pm iI ht hg az di h9 zn x.level.toNat 0 _ (by simp; omega) ?_ ?_ ?_ ?_).mono ?_)
  ·simp
  ·simp
  ·simp
  ·simp
  ·rintro ⟨e',τ,G2⟩ ⟨rfl,t0,aG,w2,fJ⟩
   simp only at t0 w2 fJ ⊢
   have eA:=fJ.ob
   simp only [cZ] at eA
   have c3:IntKind.wrap .i64 (x.level+1)=x.level+1:=wrap64 (by omega) (by omega)
   have w3:=w1.pK w2
   unfold ak.l2
   simp only
   obtain ⟨G3,cF⟩:∃ G3,G3=(G2.put b (cZ t { x with by_:=x.ref,level:=x.level+1 } ln fb rp)).room 9:=⟨_,rfl⟩
   have jB:cO (grown aG (G2.put b (cZ t { x with by_:=x.ref,level:=x.level+1 } ln fb rp)) tg) tag tg t G3 b { x with by_:=x.ref,level:=x.level+1 } ln fb tb rp:=by
    rw [cF]; exact (fJ.set (y:={ x with by_:=x.ref,level:=x.level+1 }) az rfl ln rp).ext ((Ext.refl _).room 9) tg
   have w4:=(w3.jA fJ.hb.tag ht (cZ t { x with by_:=x.ref,level:=x.level+1 } ln fb rp)).de ((Ext.refl _).room 9) tg
   rw [← cF] at w4
   have g9:=jB.ob
   simp only [cZ] at g9 cF
   by_cases c:x.level+1<x.hi
   ·simp only [if_pos c]
    simp [t0,eA,c3,← cF,g9,c]
    exact ⟨_,w4,jB.qq rfl rfl (by simp)⟩
   ·simp only [if_neg c]
    simp [t0,eA,c3,← cF,g9,c]
    exact ⟨_,w4.jA jB.hb.tag ht (cZ t { x with by_:=x.ref,level:=0 } ln fb rp),(jB.set (y:={ x with by_:=x.ref,level:=0 }) az rfl ln rp).qq rfl rfl (by simp)⟩
 obtain ⟨⟨v,G'⟩,e1,rfl,ah,w1,w2⟩:=w
 unfold gK
 rw [ax]
 exact ⟨ah,G',f311 (ai Q ae) _ _ G _ e1,w1,w2⟩
end
section
variable {own own' ah aG:Nat→Nat} {tag tg m b fb tb:Nat} {t:TW} {rp:Option Addr} {G G' G1 G2:GS} {s s':MS} {x y:ak} {ln vD l:Int}
theorem Rc (ae:FuncId→Bool) (hx:cO own tag tg t G b x ln fb tb rp):(E ae).cl 325 [P0 b] G=some (.int .i64 x.up.line,G.room 9):=by
 have ob:=hx.ob
 simp only [cZ] at ob
 refine f325 (ai Q ae) _ G _ ?_
 unfold ak.up
 by_cases c:x.hi≤x.level<;>simp [s325,ob,c]
theorem aa4 (ae:FuncId→Bool) (hs:t.sound) (h:PM own G m s) (hk:x.ok t) (ht:tag≠10) (hg:tg≠10) (az:tag≠tg) (hx:cO own tag tg t G b x ln fb tb rp) (e:x.line=3):gK own tag tg m t G b s x 312 ae ln:=by
 have ax:x.step t s=x.l3 t s:=by unfold ak.step; simp [e]
 have h9:=hk.zk (by simp [e])
 have jQ:=hk.aQ.2.2.2 e
 have hh:=hs.1
 obtain ⟨ah,G1,e1,w1,F1⟩:=Ra ae hs h ht hg az hx hk.find h9 hk.aQ.1 (by omega)
 unfold gK
 rw [ax]
 unfold ak.l3
 generalize x.iM t s=s' at *
 by_cases hq:s'.held=true
 ·rw [hq] at e1
  simp only [hq,if_true]
  have F2:=F1.set (y:={ x with by_:=(x.find.spot x.level).known,fm:=true }) az rfl ln rp
  have F3:=F2.set (y:={ x with by_:=(x.find.spot x.level).known,fm:=true,level:=1 }) az rfl ln rp
  have w3:=(w1.jA F1.hb.tag ht (cZ t { x with by_:=(x.find.spot x.level).known,fm:=true } ln fb rp)).jA F2.hb.tag ht (cZ t { x with by_:=(x.find.spot x.level).known,fm:=true,level:=1 } ln fb rp)
  have e4:=Rc ae F3
  have x4:Ext ((G1.put b (cZ t { x with by_:=(x.find.spot x.level).known,fm:=true } ln fb rp)).put b (cZ t { x with by_:=(x.find.spot x.level).known,fm:=true,level:=1 } ln fb rp)) (((G1.put b (cZ t { x with by_:=(x.find.spot x.level).known,fm:=true } ln fb rp)).put b (cZ t { x with by_:=(x.find.spot x.level).known,fm:=true,level:=1 } ln fb rp)).room 9):=(Ext.refl _).room 9
  have dq:=F1.ob
  have n12:¬ (({ x with by_:=(x.find.spot x.level).known,fm:=true,level:=1 }:ak).up.line=12):=by unfold ak.up; simp only; split<;>decide
  refine ⟨_,_,f312 (ai Q ae) _ _ G _ ?_,w3.de x4 tg,(F3.ext x4 tg).qq rfl rfl n12⟩
  simp only [cZ] at dq e4 ⊢
  simp [s312,e1,dq,e4]
 ·simp only [Bool.not_eq_true] at hq
  rw [hq] at e1
  simp only [hq,Bool.false_eq_true,if_false]
  obtain ⟨aG,G2,kT,iO,e2,w2,F2⟩:=Ez ae hs w1.pm ht hg az F1 1
  refine ⟨aG,G2,f312 (ai Q ae) _ _ G _ ?_,w1.pK w2,F2.qq rfl rfl (by simp [ak.anew])⟩
  simp [s312,e1,e2,ak.anew]
theorem aa5 (ae:FuncId→Bool) (hs:t.sound) (h:PM own G m s) (hk:x.ok t) (ht:tag≠10) (hg:tg≠10) (az:tag≠tg) (hx:cO own tag tg t G b x ln fb tb rp) (e:x.line=6):gK own tag tg m t G b s x 315 ae ln:=by
 have ax:x.step t s=x.l6 t s:=by unfold ak.step; simp [e]
 have h9:=hk.zk (by simp [e])
 have zn:=hk.aQ.2.2.1 (by simp [e])
 have sS:=hk.high
 have h0:=hk.aQ.1
 have h4:=hs.2.1
 obtain ⟨ah,G1,e1,w1,F1⟩:=Ra ae hs h ht hg az hx hk.find h9 hk.aQ.1 (by omega)
 unfold gK
 rw [ax]
 unfold ak.l6
 generalize x.iM t s=s' at *
 by_cases hq:s'.held=true
 ·rw [hq] at e1
  simp only [hq,if_true]
  have F3:=F1.set (y:={ x with by_:=(x.find.spot x.level).known,level:=x.level+1 }) az rfl ln rp
  have w3:=w1.jA F1.hb.tag ht (cZ t { x with by_:=(x.find.spot x.level).known,level:=x.level+1 } ln fb rp)
  have e4:=Rc ae F3
  have x4:Ext (G1.put b (cZ t { x with by_:=(x.find.spot x.level).known,level:=x.level+1 } ln fb rp)) ((G1.put b (cZ t { x with by_:=(x.find.spot x.level).known,level:=x.level+1 } ln fb rp)).room 9):=(Ext.refl _).room 9
  have dq:=F1.ob
  have c3:IntKind.wrap .i64 (x.level+1)=x.level+1:=wrap64 (by omega) (by omega)
  have n12:¬ (({ x with by_:=(x.find.spot x.level).known,level:=x.level+1 }:ak).up.line=12):=by unfold ak.up; simp only; split<;>decide
  refine ⟨_,_,f315 (ai Q ae) _ _ G _ ?_,w3.de x4 tg,(F3.ext x4 tg).qq rfl rfl n12⟩
  simp only [cZ] at dq e4 ⊢
  simp [s315,e1,dq,c3,e4]
 ·simp only [Bool.not_eq_true] at hq
  rw [hq] at e1
  simp only [hq,Bool.false_eq_true,if_false]
  obtain ⟨aG,G2,kT,iO,e2,w2,F2⟩:=Ez ae hs w1.pm ht hg az F1 7
  refine ⟨aG,G2,f315 (ai Q ae) _ _ G _ ?_,w1.pK w2,F2.qq rfl rfl (by simp [ak.anew])⟩
  simp [s315,e1,e2,ak.anew]
theorem aa6 (ae:FuncId→Bool) (hs:t.sound) (h:PM own G m s) (hm:s.ok) (hk:x.ok t) (ht:tag≠10) (hg:tg≠10) (az:tag≠tg) (hx:cO own tag tg t G b x ln fb tb rp) (e:x.line=4):gK own tag tg m t G b s x 313 ae ln:=by
 have ax:x.step t s=x.l4 t s:=by unfold ak.step; simp [e]
 have h9:=hk.zk (by simp [e])
 have zn:=hk.aQ.2.2.1 (by simp [e])
 have sS:=hk.high
 have h0:=hk.aQ.1
 have ob:=hx.ob
 obtain ⟨ah,G1,e1,w1,F1⟩:=Js ae h ht hg az hx x.level
 have hu:=(hm.load (aX t x.i x.level)).2
 unfold gK
 rw [ax]
 unfold ak.l4
 generalize s.load (aX t x.i x.level)=s' at *
 generalize s'.new=v at *
 have dq:=F1.ob
 obtain ⟨G2,aD⟩:∃ G2,G2=G1.put b (cZ t { x with by_:=x.ref,w:=v } ln fb rp):=⟨_,rfl⟩
 have F2:cO ah tag tg t G2 b { x with by_:=x.ref,w:=v } ln fb tb rp:=by rw [aD]; exact F1.set (y:={ x with by_:=x.ref,w:=v }) az rfl ln rp
 have w2:PW (eK own tag tg) own G ah G2 m s':=by rw [aD]; exact w1.jA F1.hb.tag ht _
 have eA:=F2.ob
 have em:=xl ae hu G2
 by_cases c:bp≤v
 ·simp only [if_pos c]
  refine ⟨ah,G2,f313 (ai Q ae) _ _ G _ ?_,w2,F2.qq rfl rfl (by simp)⟩
  simp only [cZ] at ob dq eA aD
  rw [decide_eq_true (show 9223372036854775808≤v from c)] at em
  simp [s313,ob,e1,dq,← aD,eA,em]
 ·simp only [if_neg c]
  have z0:Ext G2 (G2.room 17):=(Ext.refl G2).room 17
  have jB:=F2.ext z0 tg
  obtain ⟨a6,n6,c6,N6,G6,g6,e6,x6,q6⟩:=EA ae hs jB hk.find h9 h0 (by omega)
  have z6:=z0.trans x6
  have F6:=F2.ext z6 tg
  have w6:=w2.de z6 tg
  have pN:=F6.ob
  rw [decide_eq_false (show ¬ 9223372036854775808≤v from c)] at em
  simp at q6
  by_cases c2:v=(x.find.spot x.level).cur
  ·subst c2
   simp only [if_true]
   refine ⟨_,G6,f313 (ai Q ae) _ _ G _ ?_,w6,F6.qq rfl rfl (by simp)⟩
   simp only [cZ] at ob dq eA pN aD
   simp [s313,ob,e1,dq,← aD,eA,em,e6,pN,br,BX,h0,g6,q6]
  ·simp only [if_neg c2]
   refine ⟨_,G6,f313 (ai Q ae) _ _ G _ ?_,w6,F6.qq rfl rfl (by simp)⟩
   simp only [cZ] at ob dq eA pN aD
   simp [s313,ob,e1,dq,← aD,eA,em,e6,pN,br,BX,h0,g6,q6,c2]
theorem aa7 (ae:FuncId→Bool) (hs:t.sound) (h:PM own G m s) (hk:x.ok t) (ht:tag≠10) (hg:tg≠10) (az:tag≠tg) (hx:cO own tag tg t G b x ln fb tb rp) (e:x.line=5):gK own tag tg m t G b s x 314 ae ln:=by
 have ax:x.step t s=x.l5 t s:=by unfold ak.step; simp [e]
 have h9:=hk.zk (by simp [e])
 have zn:=hk.aQ.2.2.1 (by simp [e])
 have sS:=hk.high
 have h0:=hk.aQ.1
 have ob:=hx.ob
 have z0:Ext G (G.room 31):=(Ext.refl G).room 31
 obtain ⟨G5,e5,x5⟩:=rZ ae t x.i x.level (G.room 31)
 have z5:=z0.trans x5
 have oJ:=hx.ext z5 tg
 have pM:=oJ.ob
 obtain ⟨a6,n6,c6,N6,G6,g6,e6,x6,q6⟩:=EA ae hs oJ hk.find h9 h0 (by omega)
 have z6:=z5.trans x6
 have vE:=hx.ext z6 tg
 have pN:=vE.ob
 have w6:PW (eK own tag tg) own G (grown own G tg) G6 m s:=(PW.refl h).de z6 tg
 have F7:=vE.set (y:={ x with by_:=x.ref }) az rfl ln rp
 have w7:=w6.jA vE.hb.tag ht (cZ t { x with by_:=x.ref } ln fb rp)
 obtain ⟨lM,G8,e8,w8⟩:=w7.pm.bT ae (aX t x.i x.level) x.w (x.find.spot x.level).cur
 have F8:=F7.acc ht hg w8
 have w9:=w7.pK w8.z
 have ld:eI 13 b 0 (G.room 31)=some t.v:=by rw [mC (n:=12) (o:=0) (by simpa using ob) (by decide) (by simp)]; rfl
 simp at q6
 simp only [cZ] at ob pM pN e8
 have e9:(E ae).cl 327 [P0 b,P0 m,.int .i64 (aX t x.i x.level),.int .u64 x.w,.int .u64 (x.find.spot x.level).cur] G6=some (.bool (s.bT (aX t x.i x.level) x.w (x.find.spot x.level).cur).held,G8):=by
  refine f327 (ai Q ae) _ _ _ _ _ G6 _ ?_
  simp [s327,pN,e8]
 unfold gK
 rw [ax]
 unfold ak.l5
 generalize s.bT (aX t x.i x.level) x.w (x.find.spot x.level).cur=s' at *
 by_cases hq:s'.held=true
 ·rw [hq] at e9
  simp only [hq,if_true]
  refine ⟨_,G8,f314 (ai Q ae) _ _ G _ ?_,w9,F8.qq rfl rfl (by simp)⟩
  simp [-iw,s314,ob,ld,e5,pM,e6,pN,br,BX,BZ,h0,g6,q6,e9]
 ·simp only [Bool.not_eq_true] at hq
  rw [hq] at e9
  simp only [hq,Bool.false_eq_true,if_false]
  refine ⟨_,G8,f314 (ai Q ae) _ _ G _ ?_,w9,F8.qq rfl rfl (by simp)⟩
  simp [-iw,s314,ob,ld,e5,pM,e6,pN,br,BX,BZ,h0,g6,q6,e9]
theorem aa8 (ae:FuncId→Bool) (hs:t.sound) (h:PM own G m s) (hm:s.ok) (hk:x.ok t) (ht:tag≠10) (hg:tg≠10) (az:tag≠tg) (hx:cO own tag tg t G b x ln fb tb rp) (e:x.line=8):gK own tag tg m t G b s x 317 ae ln:=by
 have ax:x.step t s=x.l89 t s 4:=by unfold ak.step; simp [e]
 obtain ⟨ah,G1,e1,w1,F1⟩:=Js ae h ht hg az hx 0
 have hu:=(hm.load (aX t x.i 0)).2
 unfold gK
 rw [ax]
 unfold ak.l89
 generalize s.load (aX t x.i 0)=s' at *
 generalize s'.new=v at *
 have em:=xl ae hu G1
 by_cases c:bp≤v
 ·simp only [if_pos c]
  rw [decide_eq_true (show 9223372036854775808≤v from c)] at em
  obtain ⟨aG,G2,kT,iO,e2,w2,F2⟩:=Ez ae hs w1.pm ht hg az F1 10
  refine ⟨aG,G2,f317 (ai Q ae) _ _ G _ ?_,w1.pK w2,F2.qq rfl rfl (by simp [ak.anew])⟩
  simp [s317,e1,em,e2,ak.anew]
 ·simp only [if_neg c]
  rw [decide_eq_false (show ¬ 9223372036854775808≤v from c)] at em
  refine ⟨ah,G1,f317 (ai Q ae) _ _ G _ ?_,w1,F1.qq rfl rfl (by simp)⟩
  simp [s317,e1,em]
theorem aa9 (ae:FuncId→Bool) (hs:t.sound) (h:PM own G m s) (hm:s.ok) (hk:x.ok t) (ht:tag≠10) (hg:tg≠10) (az:tag≠tg) (hx:cO own tag tg t G b x ln fb tb rp) (e:x.line=9):gK own tag tg m t G b s x 318 ae ln:=by
 have ax:x.step t s=x.l89 t s 11:=by unfold ak.step; simp [e]
 obtain ⟨ah,G1,e1,w1,F1⟩:=Js ae h ht hg az hx 0
 have hu:=(hm.load (aX t x.i 0)).2
 unfold gK
 rw [ax]
 unfold ak.l89
 generalize s.load (aX t x.i 0)=s' at *
 generalize s'.new=v at *
 have em:=xl ae hu G1
 by_cases c:bp≤v
 ·simp only [if_pos c]
  rw [decide_eq_true (show 9223372036854775808≤v from c)] at em
  obtain ⟨aG,G2,kT,iO,e2,w2,F2⟩:=Ez ae hs w1.pm ht hg az F1 10
  refine ⟨aG,G2,f318 (ai Q ae) _ _ G _ ?_,w1.pK w2,F2.qq rfl rfl (by simp [ak.anew])⟩
  simp [s318,e1,em,e2,ak.anew]
 ·simp only [if_neg c]
  rw [decide_eq_false (show ¬ 9223372036854775808≤v from c)] at em
  refine ⟨ah,G1,f318 (ai Q ae) _ _ G _ ?_,w1,F1.qq rfl rfl (by simp)⟩
  simp [s318,e1,em]
theorem abb (ae:FuncId→Bool) (hs:t.sound) (h:PM own G m s) (hm:s.ok) (hk:x.ok t) (ht:tag≠10) (hg:tg≠10) (az:tag≠tg) (hx:cO own tag tg t G b x ln fb tb rp) (e:x.line=11):gK own tag tg m t G b s x 320 ae ln:=by
 have ax:x.step t s=x.l11 t s:=by unfold ak.step; simp [e]
 have ob:=hx.ob
 have B0:=hk.idx
 obtain ⟨G1,aj⟩:∃ G1,G1=G.put b (cZ t { x with by_:=x.ref } ln fb rp):=⟨_,rfl⟩
 have di:cO own tag tg t G1 b { x with by_:=x.ref } ln fb tb rp:=by rw [aj]; exact hx.set (y:={ x with by_:=x.ref }) az rfl ln rp
 have w1:PW (eK own tag tg) own G own G1 m s:=by rw [aj]; exact (PW.refl h).jA hx.hb.tag ht _
 have o1:=di.ob
 obtain ⟨G2,e2,x2⟩:=xj ae t x.i 3 (G1.room 12)
 have y2:=((Ext.refl G1).room 12).trans x2
 have w2:=w1.de y2 tg
 have fJ:=di.ext y2 tg
 generalize grown own G1 tg=aG at *
 obtain ⟨bB,G3,e3,w3⟩:=w2.pm.add ae (aB t x.i 3) 18446744073709551615
 have jB:=fJ.acc ht hg w3
 have w4:=w2.pK w3.z
 have o3:=jB.ob
 have ld:eI 13 b 0 (G1.room 12)=some t.v:=by rw [mC (n:=12) (o:=0) (by simpa using o1) (by decide) (by simp)]; rfl
 have Re:eI 13 b 0 G1=some t.v:=by rw [mC (n:=12) (o:=0) o1 (by decide) (by simp)]; rfl
 unfold gK
 rw [ax]
 unfold ak.l11
 generalize s.add (aB t x.i 3) 18446744073709551615=s' at *
 generalize s'.new=v at *
 simp only [cZ] at ob o1 aj o3
 by_cases c:v=0
 ·simp only [if_pos c]
  obtain ⟨rb,G5,e5,x5,q5,r5⟩:=aaO ae t B0.1 B0.2 (G3.room 14)
  have y5:=((Ext.refl G3).room 14).trans x5
  have w5:=w4.de y5 tg
  have oJ:=jB.ext y5 tg
  have o5:=oJ.ob
  have q5':G3.nx≤rb:=by have:=q5.1; simp at this; omega
  have Rf:At (grown bB G3 tg) tg G5 rb:=At.new q5' q5.2
  have F6:=oJ.set (y:={ x with by_:=x.ref }) az rfl ln (some ⟨rb,0,none⟩)
  have ldl:eI 10 b 3 (G3.room 14)=some (.agg ⟨pJ t⟩):=by rw [mC (n:=9) (o:=3) (by simpa using o3) (by decide) (by simp)]; rfl
  have abd:eI 10 b 3 G3=some (.agg ⟨pJ t⟩):=by rw [mC (n:=9) (o:=3) (by simpa using o3) (by decide) (by simp)]; rfl
  refine ⟨_,_,f320 (ai Q ae) _ _ G _ ?_,w5.jA oJ.hb.tag ht (cZ t { x with by_:=x.ref } ln fb (some ⟨rb,0,none⟩)),(.inr ⟨.inl rfl,F6.hb,some ⟨fb,0,none⟩,some ⟨rb,0,none⟩,F6.ob,fun _=>⟨rb,rfl,Rf.bC _ _,?_⟩⟩)⟩
  ·simp only [cZ] at o5
   simp [-iw,s320,ob,← aj,ld,Re,o1,e2,e3,c,ldl,abd,o3,e5,o5]
  ·refine (r5 (grown bB G3 tg) tg).to Rf (Nat.le_refl _) (fun g eZ rH=>?_) (bW.refl _ _)
   rw [jy _ _ (iN oJ.hb.tag rH az)]
 ·simp only [if_neg c]
  refine ⟨_,G3,f320 (ai Q ae) _ _ G _ ?_,w4,jB.qq rfl rfl (by simp)⟩
  simp [-iw,s320,ob,← aj,ld,Re,o1,e2,e3,c]
theorem abe (ae:FuncId→Bool) (bD:ae 187=false) (hs:t.sound) (cR:t.fA) (h:PM own G m s) (hm:s.ok) (hk:x.ok t) (ht:tag≠10) (hg:tg≠10) (az:tag≠tg) (hx:BW own tag tg t G b x ln) (e:x.line=12):gK own tag tg m t G b s x 321 ae ln:=by
 have ax:x.step t s=x.l12 t s:=by unfold ak.step; simp [e]
 have B0:=hk.idx
 obtain ⟨hb,fp,rp,ob,hr⟩:=hx
 obtain ⟨rb,rfl,a1,hr⟩:=hr e
 obtain ⟨G1,aj⟩:∃ G1,G1=G.put b (mJ t x.fm x.ref x.key x.i x.hi ln x.level x.w fp (some ⟨rb,0,none⟩) 0):=⟨_,rfl⟩
 have bM:At own tag G1 b:=by rw [aj]; exact hb.bC _ _
 have w1:PW (eK own tag tg) own G own G1 m s:=by rw [aj]; exact (PW.refl h).jA hb.tag ht _
 have o1:G1.obj b=some (mJ t x.fm x.ref x.key x.i x.hi ln x.level x.w fp (some ⟨rb,0,none⟩) 0):=by rw [aj]; simp
 have r1:sa own tg t G1 rb x.i x.ret:=hr.to a1 (by rw [aj]; exact Nat.le_refl _) (fun g Jw rH=>by rw [aj,jy _ _ (iN hb.tag rH az)]) (bW.refl _ _)
 have Rg:At own tg G1 rb:=by rw [aj]; exact a1.bC _ _
 obtain ⟨aG,G2,e2,w2,r2⟩:=aaP ae bD cR B0.1 B0.2 w1.pm hm (hk.ret e) hg Rg r1
 have o2:=(w2.tV bM.lt bM.tag ht az).trans o1
 have dy:=bM.to w2.nx w2.aO.cd
 have a2:=Rg.to w2.nx w2.aO.cd
 have w3:=w1.pK (w2.hi (tag:=tag))
 unfold gK
 rw [ax]
 unfold ak.l12
 generalize (x.ret.step t x.i s).2=s' at *
 generalize (x.ret.step t x.i s).1=q at *
 by_cases c:q.over=true
 ·rw [c] at e2
  simp only [c,if_true]
  refine ⟨aG,G2,f321 (ai Q ae) _ _ G _ ?_,w3,.inr ⟨.inr rfl,dy,fp,some ⟨rb,0,none⟩,o2,fun e=>by cases e⟩⟩
  simp [s321,ob,← aj,o1,e2]
 ·simp only [Bool.not_eq_true] at c
  rw [c] at e2
  simp only [c,Bool.false_eq_true,if_false]
  refine ⟨aG,G2,f321 (ai Q ae) _ _ G _ ?_,w3,.inr ⟨.inl rfl,dy,fp,some ⟨rb,0,none⟩,o2,fun _=>⟨rb,rfl,a2,r2⟩⟩⟩
  simp [s321,ob,← aj,o1,e2]
end
theorem abf {A G:GS} (h:Ext A G) {n:Nat} (hn:A.nx≤n) (o:aR):Ext A (((G.aI n).push o).back G) :=
 ⟨h.nx,fun g hg=>by simp; rw [if_neg (by omega)]; exact h.obj g hg,h.nl,fun l hl=>by simpa using h.loop l hl⟩
theorem Jx (ae:FuncId→Bool) (ht:ae 211=false) {i g:Int} (h0:0≤i∧i≤65534) (h1:0≤g∧g<4294967296) (G:GS):∃ G',(E ae).cl 203 [.int .u64 (aU i g)] G=some (.tuple #[.agg ⟨[.int .i64 i,.int .i64 g,.bool false]⟩,.int .i64 0],G')∧Ext G G':=by
 have hU:U (aU i g):=by unfold aU U; omega
 obtain ⟨G1,aj⟩:∃ G1,G1=G.push ⟨[.int .i64 0,.int .i64 0,.bool false],1,false,1⟩:=⟨_,rfl⟩
 have x1:Ext G G1:=by rw [aj]; exact (Ext.refl G).push _
 have n1:G1.nx=G.nx+1:=by rw [aj]; rfl
 have o1:G1.obj G.nx=some ⟨[.int .i64 0,.int .i64 0,.bool false],1,false,1⟩:=by rw [aj]; simp
 obtain ⟨G2,e2,x2⟩:=Ql ae ht G1
 have o2:=(x2.obj G.nx (by omega)).trans o1
 obtain ⟨G3,cF⟩:∃ G3,G3=((G2.push ⟨[.int .i64 0,.int .i64 0,.int .i64 0,.int .i64 0],1,false,1⟩).put G2.nx ⟨[.int .i64 0,.int .i64 16,.int .i64 16,.int .i64 32],1,false,1⟩).room 14:=⟨_,rfl⟩
 have n2:=x2.nx
 have x3:Ext G2 G3:=by rw [cF]; exact (((Ext.refl G2).push _).put (Nat.le_refl _) _).room 14
 have o3:=(x3.obj G.nx (by omega)).trans o2
 have p3:G3.obj G2.nx=some ⟨[.int .i64 0,.int .i64 16,.int .i64 16,.int .i64 32],1,false,1⟩:=by rw [cF]; simp
 have n3:G3.nx=G2.nx+15:=by rw [cF]; simp
 obtain ⟨G4,e4,x4⟩:=Qi ae hU G3
 have o4:=(x4.obj G.nx (by omega)).trans o3
 have p4:=(x4.obj G2.nx (by omega)).trans p3
 obtain ⟨G5,e5,x5⟩:=aao ae hU G4
 have n4:=x4.nx
 have o5:=(x5.obj G.nx (by omega)).trans o4
 have n5:=x5.nx
 have e6:=xl ae hU G5
 have hm:¬ 9223372036854775808≤aU i g:=by unfold aU; omega
 rw [decide_eq_false hm] at e6
 have v1:aU i g % 65536=i+1:=by unfold aU; omega
 have v2:aU i g / 65536 % 4294967296=g:=by unfold aU; omega
 rw [v1] at e4
 rw [v2] at e5
 have hw:IntKind.wrap .i64 i=i:=wrap64 (by omega) (by omega)
 have hs:same (.agg ⟨[.int .i64 16,.int .i64 32]⟩) (.agg ⟨[.int .i64 16,.int .i64 32]⟩)=true:=by simp [same,cm,cm.lf]
 obtain ⟨G6,eg⟩:∃ G6,G6=((((G5.aI (G2.nx+1+12)).push ⟨[.int .i64 0,.int .i64 0,.bool false],1,false,1⟩).back G5).put (G2.nx+1+12) ⟨[.int .i64 i,.int .i64 g,.bool false],1,false,1⟩):=⟨_,rfl⟩
 have x6:Ext G G6:=by rw [eg]; exact (abf ((((x1.trans x2).trans x3).trans x4).trans x5) (by omega) _).put (by omega) _
 have o6:G6.obj (G2.nx+1+12)=some ⟨[.int .i64 i,.int .i64 g,.bool false],1,false,1⟩:=by rw [eg]; simp
 have q6:G6.obj G.nx=some ⟨[.int .i64 0,.int .i64 0,.bool false],1,false,1⟩:=by
  have:¬ G.nx=G2.nx+1+12:=by omega
  rw [eg]; simp [o5,this]
 have n6:G6.nx=G5.nx:=by rw [eg]; rfl
 obtain ⟨G7,e7,x7⟩:=Qr ae ht h0 h1 G6
 have o7:=(x7.obj (G2.nx+1+12) (by omega)).trans o6
 have q7:=(x7.obj G.nx (by omega)).trans q6
 have w:Wp (s203 true (bA Q ae) (.int .u64 (aU i g)) G) fun r=>r.1= .tuple #[.agg ⟨[.int .i64 i,.int .i64 g,.bool false]⟩,.int .i64 0]∧Ext G r.2:=by
  have az:¬ G.nx=G2.nx+1+12:=by omega
  have CO:¬ G2.nx=G.nx:=by omega
  simp [s203,← aj,e2,← cF,p3,e4,p4,br,hs,e5,e6,hw,← eg,o6,e7,q7,o7,az]
  exact (x6.trans x7).put (Nat.le_refl _) _
 obtain ⟨⟨v,G'⟩,e1,rfl,e3⟩:=w
 exact ⟨G',f203 (ai Q ae) _ G _ e1,e3⟩
theorem abg (ae:FuncId→Bool) (eu:ae 211=false) {t:TW} (hs:t.sound) {i g job hi:Int} (h0:0≤i∧i<t.size) (h1:0≤g∧g<4294967296) (h2:0≤job∧job≤65534) (h3:1≤hi∧hi≤t.ay) (G:GS) :
  ∃ G',(E ae).cl 199 [t.v,.int .u64 (aU i g),.int .i64 job,.int .i64 hi] G=some (.int .i64 0,G')∧Ext G G':=by
 have cQ:t.size≤128:=hs.2.2.2.1
 obtain ⟨G1,aj⟩:∃ G1,G1=G.push ⟨t.cells,1,false,1⟩:=⟨_,rfl⟩
 have x1:Ext G G1:=by rw [aj]; exact (Ext.refl G).push _
 have n1:G1.nx=G.nx+1:=by rw [aj]; rfl
 have o1:G1.obj G.nx=some ⟨t.cells,1,false,1⟩:=by rw [aj]; simp
 obtain ⟨G4,e4,x4⟩:=Jc ae t G1
 rw [decide_eq_true hs] at e4
 obtain ⟨G7,e7,x7⟩:=Jx ae eu (i:=i) (g:=g) (by omega) h1 G4
 have x17:=(x1.trans x4).trans x7
 have o7:=((x4.trans x7).obj G.nx (by omega)).trans o1
 have az:¬ G.nx=G7.nx:=by have:=(x4.trans x7).nx; omega
 have w:Wp (s199 true (bA Q ae) t.v (.int .u64 (aU i g)) (.int .i64 job) (.int .i64 hi) G) fun r=>r.1= .int .i64 0∧Ext G r.2:=by
  have a1:¬ i<0:=by omega
  have a2:¬ t.size≤i:=by omega
  have a3:¬ job<0:=by omega
  have a4:¬ 65534<job:=by omega
  have a5:¬ hi<1:=by omega
  have a6:¬ t.ay<hi:=by omega
  have ld:np 13 0 (some ⟨t.cells,1,false,1⟩)=some t.v:=BH rfl (by decide)
  simp [s199,← aj,o1,ld,e4,e7,o7,az,lF,zY,zZ,a1,a2,a3,a4,a5,a6]
  exact (x17.push _).put (by have:=x17.nx; omega) _
 obtain ⟨⟨v,G'⟩,e1,rfl,e3⟩:=w
 exact ⟨G',f199 (ai Q ae) _ _ _ _ G _ e1,e3⟩
end Go.Proofs.YtphandknhnkhfaaGreat.Lift
