import Derived.Test.YtkhlabammcghbaaGreatPD
set_option linter.unusedVariables false
set_option linter.unusedSimpArgs false
set_option maxRecDepth 20000
namespace Go.Proofs.YtkhlabammcghbaaGreat.Lift
open Go Go.Proofs.YtkhlabammcghbaaGreat.Gh Go.Proofs
section
variable {t:TW} {N:Nat} {K H:Int→Int} {x y:Cm} {g g':Sh} {c d:Nat} {i j v:Int} {s s':MS}
theorem Tl (h:1≤v∧v≤2):IntKind.wrap .u64 (v+18446744073709551615)=v - 1:=by
 rcases (show v=1∨v=2 by omega) with rfl | rfl<;>decide
theorem Tm (h:¬ x.dH i) (k:x.add i):x.hold i=1:=by unfold Cm.hold; rw [if_neg h,if_pos k]; rfl
theorem KT (h:¬ x.dH i) (k:¬ x.add i):x.hold i=2:=by unfold Cm.hold; rw [if_neg h,if_neg k]; rfl
theorem Tn (h:x.dH i) (k:¬ x.add i):x.hold i=1:=by unfold Cm.hold; rw [if_pos h,if_neg k]; rfl
theorem To (h:x.dH i) (k:x.add i):x.hold i=0:=by unfold Cm.hold; rw [if_pos h,if_pos k]; rfl
open Classical in
theorem bJ.Tp (I:bJ t N K H x g) (L:Pl t N) (h0:0≤x.o 0) (h11:x.ins.line=11):∃ g',bJ t N K H (x.iD t) g':=by
 obtain ⟨n1,n2,k,k0,dR⟩:=I.ins h0
 have i0:=k.i0 I.inv
 obtain ⟨z1,z2⟩:=k.z11 (.inl h11)
 have LL:=I.sv L
 have hP:cd t x.ins.i 3:=.inr ⟨i0.1,i0.2.1,by omega,by have:=L.snd.1; omega⟩
 obtain ⟨q1,q2⟩:=SL LL hP 18446744073709551615
 have hh:=I.hold x.ins.i i0.1 i0.2.1
 have nl:¬ x.dH x.ins.i:=fun h=>h.2 ⟨h0,n2,by omega⟩
 obtain ⟨v,hv⟩:∃ v,v=g.c x.ins.i 3:=⟨_,rfl⟩
 have rP:v=if x.add x.ins.i then 1 else 2:=by
  rw [hv,hh]
  by_cases a:x.add x.ins.i
  ·rw [Tm nl a]; simp [a]
  ·rw [KT nl a]; simp [a]
 have KU:1≤v∧v≤2:=by rw [rP]; split<;>omega
 rw [← I.c,← hv,Tl KU] at q1 q2
 have au:x.ins.step t x.s=x.ins.l11 t x.s:=by unfold aj.step; simp [h11]
 have P3:zV t g x.ins.i 3 (v - 1):=⟨i0.1,⟨by omega,by omega⟩,.inr (.inr rfl)⟩
 have h':=I.inv.put P3
 have gd:∀ i,Gd t i g (g.put x.ins.i 3 (v - 1)):=fun i=>Gd.one I.inv fun own kn _ _=>cC.put I.inv P3 (.inr ⟨rfl,z2⟩)
 have lo:∀ i p,p≠3→(g.put x.ins.i 3 (v - 1)).c i p=g.c i p:=fun i p hp=>g.c.dg _ hp
 have kG:=dR.step L.snd L.gm I.ok
 have lw:=Lw.ins (s:=x.s) L (y:=x.ins) (by omega)
 have ex:(x.ins.step t x.s).1=if v=1 then { x.ins with ar:=x.ins.ref,ret:=.looks,line:=12 } else { x.ins with ar:=x.ins.ref,line:=0 }:=by
  rw [au]; unfold aj.l11; rw [q1]
  by_cases e:v=1
  ·rw [if_pos (by omega),if_pos e]
  ·rw [if_neg (by omega),if_neg e]
 obtain ⟨y,hy⟩:∃ y,y=x.iD t:=⟨_,rfl⟩
 have ys:y.s=(x.ins.step t x.s).2:=by rw [hy]; rfl
 have yi:y.ins=(x.ins.step t x.s).1:=by rw [hy]; rfl
 have yc:y.cl=x.cl:=by rw [hy]; rfl
 have yn:y.na=x.na:=by rw [hy]; rfl
 have yg:y.got=x.got:=by rw [hy]; rfl
 have yF:∀ c,1≤c→y.F c=x.F c:=fun c h=>by rw [hy]; exact cN _ _ (by omega)
 have yo:∀ c,1≤c→y.o c=x.o c:=fun c h=>by
  rw [hy]; unfold Cm.iD
  show (if _ then _ else _:Nat→Int) c=_
  split
  ·exact cN _ _ (by omega)
  ·rfl
 have KV:0≤y.o 0→v=1:=fun h=>by
  refine Classical.byContradiction fun e=>?_
  have:y.o 0= -1:=by
   rw [hy]; unfold Cm.iD
   show (if _ then _ else _:Nat→Int) 0=_
   rw [ex,if_neg e,if_pos rfl]; rfl
  omega
 have CG:0≤y.o 0→y.ins.line=12:=fun h=>by rw [yi,ex,if_pos (KV h)]
 have hl:∀ i,y.dH i↔(x.dH i∨i=x.ins.i):=fun i=>by
  unfold Cm.dH
  rw [yn]
  constructor
  ·rintro ⟨a,b⟩
   by_cases e:i=x.ins.i
   ·exact .inr e
   ·exact .inl ⟨a,fun c=>e (by omega)⟩
  ·rintro (⟨a,b⟩ | e)
   ·exact ⟨a,fun ⟨c1,c2,c3⟩=>c3 (CG c1)⟩
   ·exact ⟨by omega,fun ⟨c1,c2,c3⟩=>c3 (CG c1)⟩
 have ha:∀ i,y.add i↔x.add i:=fun i=>by
  unfold Cm.add
  rw [yg,yc]
  constructor
  ·rintro (h | ⟨c,hc,h1,h2⟩)
   ·exact .inl h
   ·exact .inr ⟨c,hc,by rw [yo c (by omega)] at h1; exact h1,h2⟩
  ·rintro (h | ⟨c,hc,h1,h2⟩)
   ·exact .inl h
   ·exact .inr ⟨c,hc,by rw [yo c (by omega)]; exact h1,h2⟩
 have acf:x.add x.ins.i→Gone t (g.put x.ins.i 3 (v - 1)) x.ins.i:=fun a=>by
  have:=(I.uf _ a).resolve_left z1
  exact this
 rw [← hy]
 refine ⟨g.put x.ins.i 3 (v - 1),⟨?_,?_,h',?_,fun i h0 h1=>?_,I.rf,by rw [yn]; exact I.na,by rw [yn]; exact I.bo,fun i h1 h2 h3=>?_,fun i h1 hb=>?_,fun q=>?_,fun c c1 c2 c3=>?_,by rw [yg]; exact I.nodup,fun j hj=>?_,?_,?_,?_,fun i h0 h1=>?_,fun i hi=>?_,fun q _=>?_,?_⟩⟩
 ·rw [ys,lw.len]; exact I.len
 ·rw [ys]; exact kG.2
 ·rw [ys,au]; show _=vw t (x.s.add (az t x.ins.i 3) 18446744073709551615); rw [q2]; rfl
 ·rw [lo _ _ (by decide),lo _ _ (by decide),lo _ _ (by decide)]; exact I.nd i h0 h1
 ·rw [yn] at h2 h3
  by_cases e:i=x.ins.i
  ·rw [e]; exact z2
  ·exact I.bi i h1 h2 fun q=>e (by omega)
 ·exfalso
  have:=(I.bz i h1 hb).2
  rw [show i=x.ins.i by omega] at hb
  exact z1 hb
 ·have e:=KV q
  have ad:x.add x.ins.i:=Classical.byContradiction fun a=>by rw [rP,if_neg a] at e; omega
  rw [yn,yi]
  refine ⟨n1,by rw [ex,if_pos e]; exact n2,?_,by rw [ex,if_pos e]; simp,kG.1⟩
  rw [ex,if_pos e]
  exact ⟨n2,trivial,k.ld,k.ref,(lo _ _ (by decide)).trans k.key,(lo _ _ (by decide)).trans k.hi,by simp,by simp,by simp,by simp,⟨k.aQ.1,k.aQ.2.1,by simp,by simp,by simp⟩,by simp,by simp,by simp,by simp,by simp,by simp,by simp,fun _=>⟨z1,z2⟩,fun _=>acf ad,by simp⟩
 ·rw [yo c c1] at c3
  rw [yF c c1,yc]
  obtain ⟨a1,a2⟩:=I.cl c c1 c2 c3
  exact ⟨a1.run (gd (-1)) h',a2⟩
 ·rw [yg] at hj
  exact CD (gd (-1)) h' (I.got j hj).1 (I.got j hj).2
 ·intro c hc q; rw [yo c (by omega)] at q; rw [yc,yg]; exact I.min c hc q
 ·rw [yo 1 (by omega),yo 2 (by omega),yc]; exact I.two
 ·intro c hc q; rw [yo c (by omega)] at q; rw [yc]; intro e; rw [hl]; exact .inl (I.c12 c hc q e)
 ·by_cases e:i=x.ins.i
  ·rw [e]
   show g.c.set _ _ _ _ _=_
   rw [Vw.oL]
   have l:y.dH x.ins.i:=(hl _).2 (.inr rfl)
   by_cases a:x.add x.ins.i
   ·rw [To l ((ha _).2 a),rP,if_pos a]; rfl
   ·rw [Tn l (fun q=>a ((ha _).1 q)),rP,if_neg a]; rfl
  ·show g.c.set _ _ _ _ _=_
   rw [Vw.jO _ _ e,I.hold i h0 h1]
   exact (vM ((hl i).trans ⟨fun q=>q.resolve_right e,.inl⟩) (ha i)).symm
 ·exact I.uf i ((ha i).1 hi)
 ·rw [yi,ex,if_pos (KV q)]
  intro R p e; cases e
 ·intro c hc q; rw [yo c (by omega)] at q; rw [yc]; exact I.rc c hc q
theorem bJ.Tq (I:bJ t N K H x g) (L:Pl t N) (h0:0≤x.o 0) (h12:x.ins.line=12):bJ t N K H (x.iD t) g:=by
 obtain ⟨n1,n2,k,k0,dR⟩:=I.ins h0
 have i0:=k.i0 I.inv
 obtain ⟨z1,z2⟩:=k.z11 (.inr (.inl h12))
 have au:x.ins.step t x.s=x.ins.l12 t x.s:=by unfold aj.step; simp [h12]
 obtain ⟨r1,r2,r3⟩:=Tj (s:=x.s) L ⟨i0.1,i0.2.1⟩ (I.ri h0 h12)
 have kG:=dR.step L.snd L.gm I.ok
 obtain ⟨y,hy⟩:∃ y,y=x.iD t:=⟨_,rfl⟩
 have ys:y.s=(x.ins.ret.step t x.ins.i x.s).2:=by rw [hy]; unfold Cm.iD; rw [au]; rfl
 have yi:y.ins=(x.ins.l12 t x.s).1:=by rw [hy,← au]; rfl
 have yc:y.cl=x.cl:=by rw [hy]; rfl
 have yn:y.na=x.na:=by rw [hy]; rfl
 have yg:y.got=x.got:=by rw [hy]; rfl
 have yF:∀ c,1≤c→y.F c=x.F c:=fun c h=>by rw [hy]; exact cN _ _ (by omega)
 have yo:∀ c,1≤c→y.o c=x.o c:=fun c h=>by
  rw [hy]; unfold Cm.iD
  show (if _ then _ else _:Nat→Int) c=_
  split
  ·exact cN _ _ (by omega)
  ·rfl
 have CG:0≤y.o 0→(x.ins.ret.step t x.ins.i x.s).1.over=false:=fun h=>by
  refine Classical.byContradiction fun e=>?_
  have:y.o 0= -1:=by
   rw [hy]; unfold Cm.iD
   show (if _ then _ else _:Nat→Int) 0=_
   rw [au,if_pos (by unfold aj.l12; simp only; rw [if_pos (by simpa using e)])]; rfl
  omega
 have acg:0≤y.o 0→y.ins.line=12:=fun h=>by rw [yi]; unfold aj.l12; simp [CG h]
 have hl:∀ i,y.dH i↔x.dH i:=fun i=>by
  unfold Cm.dH
  rw [yn]
  exact ⟨fun ⟨a,b⟩=>⟨a,fun ⟨c1,c2,c3⟩=>c3 h12⟩,fun ⟨a,b⟩=>⟨a,fun ⟨c1,c2,c3⟩=>c3 (acg c1)⟩⟩
 have ha:∀ i,y.add i↔x.add i:=fun i=>by
  unfold Cm.add
  rw [yg,yc]
  constructor
  ·rintro (h | ⟨c,hc,h1,h2⟩)
   ·exact .inl h
   ·exact .inr ⟨c,hc,by rw [yo c (by omega)] at h1; exact h1,h2⟩
  ·rintro (h | ⟨c,hc,h1,h2⟩)
   ·exact .inl h
   ·exact .inr ⟨c,hc,by rw [yo c (by omega)]; exact h1,h2⟩
 rw [← hy]
 refine ⟨by rw [ys,r1]; exact I.len,by rw [ys]; have:=kG.2; rw [au] at this; exact this,I.inv,by rw [ys,r3]; exact I.c,I.nd,I.rf,by rw [yn]; exact I.na,by rw [yn]; exact I.bo,fun i h1 h2 h3=>?_,fun i h1 hb=>?_,fun q=>?_,fun c c1 c2 c3=>?_,by rw [yg]; exact I.nodup,by rw [yg]; exact I.got,?_,?_,?_,fun i h0 h1=>?_,fun i hi=>?_,fun q _=>?_,?_⟩
 ·rw [yn] at h2 h3
  by_cases e:i=x.ins.i
  ·rw [e]; exact z2
  ·exact I.bi i h1 h2 fun q=>e (by omega)
 ·exfalso
  have:=(I.bz i h1 hb).2
  rw [show i=x.ins.i by omega] at hb
  exact z1 hb
 ·have o':=CG q
  have Ts:=kG.1
  rw [au] at Ts
  rw [yn,yi]
  refine ⟨n1,n2,?_,by unfold aj.l12; simp [o'],Ts⟩
  unfold aj.l12
  simp only [o',Bool.false_eq_true,if_false]
  exact ⟨n2,trivial,k.ld,k.ref,k.key,k.hi,by simp,by simp,by simp,by simp,⟨k.aQ.1,k.aQ.2.1,by simp,by simp,by simp⟩,by simp,by simp,by simp,by simp,by simp,by simp,by simp,fun _=>⟨z1,z2⟩,fun _=>k.g12 h12,by simp⟩
 ·rw [yo c c1] at c3
  rw [yF c c1,yc]
  exact I.cl c c1 c2 c3
 ·intro c hc q; rw [yo c (by omega)] at q; rw [yc,yg]; exact I.min c hc q
 ·rw [yo 1 (by omega),yo 2 (by omega),yc]; exact I.two
 ·intro c hc q; rw [yo c (by omega)] at q; rw [yc]; intro e; rw [hl]; exact I.c12 c hc q e
 ·rw [vM (hl i) (ha i)]; exact I.hold i h0 h1
 ·exact I.uf i ((ha i).1 hi)
 ·rw [yi]
  exact ue.step ⟨i0.1,i0.2.1⟩ (I.ri h0 h12)
 ·intro c hc q; rw [yo c (by omega)] at q; rw [yc]; exact I.rc c hc q
theorem bJ.ik (I:bJ t N K H x g) (h0:0≤x.o 0):(∀ j:Int,j=x.na - 1→0≤j)∧0≤x.ins.key∧1≤x.ins.line:=by
 obtain ⟨n1,n2,k,k0,dR⟩:=I.ins h0
 refine ⟨fun j e=>by omega,?_,?_⟩
 ·have:=(I.inv.u x.ins.i 0).1; rw [k.key] at this; exact this
 ·rcases k.line with e | e | e | e | e | e | e | e | e | e | e | e | e<;>omega
theorem bJ.iD (I:bJ t N K H x g) (L:Pl t N) (h0:0≤x.o 0):∃ g',bJ t N K H (x.iD t) g':=by
 have k:=(I.ins h0).2.2.1
 obtain ⟨a1,a2,a3⟩:=I.ik h0
 rcases (show x.ins.line≤10∨x.ins.line=11∨x.ins.line=12 by rcases k.line with e | e | e | e | e | e | e | e | e | e | e | e | e<;>omega) with e | e | e
 ·obtain ⟨g',h',gd,hc,k',FA,lo⟩:=S0 (I.sv L) a1 I.inv I.c (fun _ _ _ _ _=>trivial) k a2 a3 e
  exact ⟨g',I.Tk L h0 e h' gd hc k' lo⟩
 ·exact I.Tp L h0 e
 ·exact ⟨g,I.Tq L h0 e⟩
end
def lJ (t:TW) (g:Sh) (l:Int) (sp:dy):Prop:=eZ t g l sp.pred∧g.c sp.pred (4+l)=sp.cur
def xO (t:TW) (g:Sh) (f:ao):Prop:=∀ l,(f.line=9∨f.l<l)→0≤l→l<t.ay→lJ t g l (f.spot l)
def dK (g:Sh):Nat→Int
 | 0=>0
 | k+1=>dK g k+(1+2*(g.C (k:Int)).length)
abbrev PP (t:TW) (g:Sh):Int:=dK g t.ay.toNat
structure Tr (t:TW) (g:Sh) (f:ao) (a:Int):Prop where
 ex:∃ A B,g.C f.l=A++B∧fm g.c g.rf f.l (-1) A f.at_.pred∧(B.length:Int)=a
 p:eZ t g f.l f.at_.pred
 cur:f.line=2∨f.line=3∨f.line=4→g.c f.at_.pred (4+f.l)=f.at_.cur
 w:f.line=4→g.c (aF t.size f.at_.cur) (4+f.l)=f.w
def Rm (g:Sh) (f:ao) (a:Int):Int:=(if f.line=1 then 1+2*a else if f.line=2 then 2*a else 2*a - 1)+dK g f.l.toNat
open Classical in
noncomputable def St (t:TW) (g:Sh) (f:ao):Int:=if f.line=2 then 3 else if f.line=4 then (if g.c (aF t.size f.at_.cur) (4+f.l)=f.w then 2 else 4) else 1
def FB (t:TW) (g:Sh) (f:ao) (N:Int):Prop:=(∃ a,Tr t g f a∧Rm g f a≤N)∨St t g f+PP t g≤N
def FG (t:TW) (g:Sh) (f:ao) (N:Int):Prop:=xO t g f∧∃ a,Tr t g f a∧Rm g f a≤N
section
variable {t:TW} {own kn:Int→Prop} {g g':Sh} {l p i j v key known w a N:Int} {A B:List Int} {f:ao} {s:MS} {sp:dy}
theorem CH (g:Sh):∀ k,0≤dK g k
 | 0=>Int.le_refl _
 | k+1=>by have:=CH g k; simp only [dK]; omega
theorem ach (g:Sh) {m n:Nat} (h:m≤n):dK g m≤dK g n:=by
 induction n with
 | zero =>
  have:m=0:=by omega
  subst this; exact Int.le_refl _
 | succ n ih =>
  by_cases e:m=n+1
  ·subst e; exact Int.le_refl _
  ·have:=ih (by omega); simp only [dK]; omega
theorem Tt (g:Sh) (h:0≤l):dK g (l+1).toNat=dK g l.toNat+(1+2*(g.C l).length):=by
 have:(l+1).toNat=l.toNat+1:=by omega
 rw [this]
 simp only [dK]
 rw [show ((l.toNat:Nat):Int)=l by omega]
theorem aci {g g':Sh} (n:Nat) (h:∀ l:Int,0≤l→l<n→(g'.C l).length=(g.C l).length):dK g' n=dK g n:=by
 induction n with
 | zero=>rfl
 | succ n ih =>
  simp only [dK]
  rw [ih fun l h0 h1=>h l h0 (by omega),h n (by omega) (by omega)]
theorem Tr.le (k:Tr t g f a) (hl:0≤f.l∧f.l<t.ay):0≤a∧Rm g f a≤PP t g:=by
 obtain ⟨A,B,hC,_,e⟩:=k.ex
 have hb:(B.length:Int)≤(g.C f.l).length:=by rw [hC,List.length_append]; omega
 have h1:=Tt g hl.1
 have h2:=ach g (m:=(f.l+1).toNat) (n:=t.ay.toNat) (by omega)
 unfold Rm PP
 refine ⟨by omega,?_⟩
 split
 ·omega
 ·split<;>omega
theorem eZ.down (h:aP t g) (hp:eZ t g l p) (h1:1≤l):eZ t g (l - 1) p:=by
 refine ⟨by omega,by have:=hp.l1; omega,hp.on.imp id fun k=>h.dn _ _ _ k (by omega) (by omega),fun hm=>hp.um ?_⟩
 rcases hp.on with rfl | k
 ·exact absurd hm (h.hd _ (by omega) (by have:=hp.l1; omega))
 ·have b:=h.bo _ _ k
  have:=h.up (l - 1) l p (h.vI k) (by omega) (by omega) b.2.2.2.2.2 hm
  exact this
theorem jm.trE (h:aP t g) (hp:eZ t g f.l f.at_.pred) (h1:f.line=1):∃ a,Tr t g f a:=by
 obtain ⟨A,B,hC,hP,-⟩:=hp.split h
 exact ⟨_,⟨A,B,hC,hP,rfl⟩,hp,by omega,by omega⟩
theorem Tv (h:aP t g) (k:nF t g kn f) (hp:eZ t g f.l f.at_.pred) (hc:g.c f.at_.pred (4+f.l)=f.at_.cur):(f.tell.line=9∨∃ a,Tr t g f.tell a∧Rm g f.tell a≤dK g f.l.toNat)∧((∀ l,f.l<l→0≤l→l<t.ay→lJ t g l (f.spot l))→xO t g f.tell):=by
 obtain ⟨l0,l1⟩:=k.aQ
 have hl:f.l.toNat<f.told.length:=by rw [k.len]; omega
 have sp:∀ l,0≤l→({ f with told:=f.told.set f.l.toNat f.at_ }:ao).spot l=if l=f.l then f.at_ else f.spot l:=fun l h0=>SW f f.at_ 0 l hl h0 l0
 have td:(∀ l,f.l<l→0≤l→l<t.ay→lJ t g l (f.spot l))→∀ l,f.l≤l→0≤l→l<t.ay→lJ t g l (({ f with told:=f.told.set f.l.toNat f.at_ }:ao).spot l):=fun V l h0 h1 h2=>by
  rw [sp l h1]
  by_cases e:l=f.l
  ·rw [if_pos e,e]; exact ⟨hp,hc⟩
  ·rw [if_neg e]; exact V l (by omega) h1 h2
 unfold ao.tell
 by_cases c:f.l<1
 ·rw [if_pos c]
  exact ⟨.inl rfl,fun V l _ h0 h1=>td V l (by omega) h0 h1⟩
 ·rw [if_neg c]
  refine ⟨.inr ?_,fun V l e h0 h1=>td V l (by simp only at e; omega) h0 h1⟩
  have P:=hp.down h (by omega)
  obtain ⟨A,B,hC,hP,-⟩:=P.split h
  refine ⟨B.length,⟨⟨A,B,hC,hP,rfl⟩,P,by simp,by simp⟩,?_⟩
  have hb:(B.length:Int)≤(g.C (f.l - 1)).length:=by rw [hC,List.length_append]; omega
  have:=Tt g (l:=f.l - 1) (by omega)
  rw [show f.l - 1+1=f.l by omega] at this
  unfold Rm
  simp only [if_true]
  omega
theorem KW (h:aP t g) (k:nF t g kn f) (hp:eZ t g f.l f.at_.pred) (hc:g.c f.at_.pred (4+f.l)=f.at_.cur) (hC:g.C f.l=A++B) (hP:fm g.c g.rf f.l (-1) A f.at_.pred):((f.looks t).line=9∨∃ a,Tr t g (f.looks t) a∧Rm g (f.looks t) a≤2*B.length+dK g f.l.toNat)∧((∀ l,f.l<l→0≤l→l<t.ay→lJ t g l (f.spot l))→xO t g (f.looks t)):=by
 unfold ao.looks
 by_cases c:aF t.size f.at_.cur<0
 ·rw [if_pos c]
  obtain ⟨a1,a2⟩:=Tv (f:={ f with line:=2 }) h ⟨k.snd,k.aQ,k.len,k.pred,k.told⟩ hp hc
  exact ⟨a1.imp id fun ⟨a,b1,b2⟩=>⟨a,b1,by simp only at b2; omega⟩,fun V=>a2 V⟩
 ·rw [if_neg c]
  refine ⟨.inr ⟨B.length,⟨⟨A,B,hC,hP,rfl⟩,hp,fun _=>hc,by simp⟩,by unfold Rm; simp⟩,fun V l e h0 h1=>V l (by simp only at e; omega) h0 h1⟩
end
section
variable {t:TW} {own kn:Int→Prop} {g g':Sh} {l p i j v key known w a N:Int} {A B:List Int} {f:ao} {s:MS} {sp:dy}
theorem CI (h:aP t g) (T:Tr t g f a) (hh:∃ x,g.rf x=f.at_.cur∧aF t.size f.at_.cur=x∧g.born f.l x) (hc:g.c f.at_.pred (4+f.l)=f.at_.cur):∃ A B,g.C f.l=A++aF t.size f.at_.cur::B∧fm g.c g.rf f.l (-1) A f.at_.pred∧((B.length:Int)+1=a):=by
 obtain ⟨A,B,hC,hP,e⟩:=T.ex
 obtain ⟨A',B',Ac,xP,hA,hB⟩:=T.p.next h
 obtain ⟨x,x1,x2,x3⟩:=hh
 have bx:=h.bo _ _ x3
 have r:=h.rf x bx.1 bx.2.1
 have hn:=h.nodup T.p.l0 T.p.l1
 have e2:A=A' ∧B=B':=by
  have hlen:A.length=A'.length:=by
   rcases hP.end with ⟨rfl,e1⟩ | ⟨Z,rfl⟩
   ·rcases xP.end with ⟨rfl,_⟩ | ⟨Z',rfl⟩
    ·rfl
    ·exfalso
     have:f.at_.pred∈g.C f.l:=by rw [Ac]; simp
     rw [e1] at this
     exact (List.nodup_cons.1 hn).1 this
   ·rcases xP.end with ⟨rfl,e1⟩ | ⟨Z',rfl⟩
    ·exfalso
     have:f.at_.pred∈g.C f.l:=by rw [hC]; simp
     rw [e1] at this
     exact (List.nodup_cons.1 hn).1 this
    ·have q:=(List.nodup_cons.1 hn).2
     have w1:(Z++[f.at_.pred])++B=(Z' ++[f.at_.pred])++B':=by rw [← hC,← Ac]
     rw [hC] at q
     have nz:f.at_.pred∉Z:=fun hz=>by
      have:=(List.nodup_append.1 (List.nodup_append.1 q).1).2.2 _ hz f.at_.pred (by simp)
      exact this rfl
     have q':=(List.nodup_cons.1 hn).2
     rw [Ac] at q'
     have nz':f.at_.pred∉Z':=fun hz=>by
      have:=(List.nodup_append.1 (List.nodup_append.1 q').1).2.2 _ hz f.at_.pred (by simp)
      exact this rfl
     have key:∀ (Z Z' B B':List Int) (p:Int),p∉Z→p∉Z' →Z++p::B=Z' ++p::B' →Z.length=Z'.length:=by
      intro Z
      induction Z with
      | nil =>
       intro Z' B B' p h1 h2 h3
       cases Z' with
       | nil=>rfl
       | cons z Z'=>simp at h3 h2; exact absurd h3.1 h2.1
      | cons z Z ih =>
       intro Z' B B' p h1 h2 h3
       cases Z' with
       | nil=>simp at h3 h1; exact absurd h3.1.symm h1.1
       | cons z' Z' =>
        simp at h3 h1 h2 ⊢
        exact ih Z' B B' p h1.2 h2.2 h3.2
     have:=key Z Z' B B' f.at_.pred nz nz' (by simpa using w1)
     simp [this]
  have:=List.append_inj (by rw [← hC,← Ac]) hlen
  exact this
 rw [hc,← x1] at hB
 rcases hB with ⟨e0,_⟩ | ⟨j,B'',e1,e0,-,-,k3,-⟩
 ·omega
 ·have hj:j=x:=by rw [← k3,← e0,r.1]
  refine ⟨A,B'',?_,hP,?_⟩
  ·rw [x2,hC,e2.2,e1,hj]
  ·rw [← e,e2.2,e1]; simp
theorem Tw (L:fy t s.W.length) (h:aP t g) (hv:g.c=vw t s) (k:ga t g kn f) (oN:0≤f.key) (h9:f.line≠9) (T:Tr t g f a) :
  ((f.step t s).1.line=9∨∃ a',Tr t (g.fs t f) (f.step t s).1 a' ∧Rm (g.fs t f) (f.step t s).1 a' <Rm g f a)∧(xO t g f→xO t (g.fs t f) (f.step t s).1):=by
 obtain ⟨l0,l1⟩:=k.aQ
 have hs:=k.snd
 have hp:=k.pred h9
 have hP:=hp.cd h l0 l1
 have hn:aN t f.at_.pred f.l=az t f.at_.pred (4+f.l):=gI hs l0 l1 _
 have up:xO t g f→∀ l,f.l<l→0≤l→l<t.ay→lJ t g l (f.spot l):=fun V l e h0 h1=>V l (.inr e) h0 h1
 rcases k.line with e | e | e | e | e
 ·rw [pW (.inl (by omega))]
  obtain ⟨e1,e2⟩:=fZ L hP
  rw [← hv] at e1 e2
  have au:f.step t s=(({ f with ar:=f.at_.known,at_:={ f.at_ with cur:=g.c f.at_.pred (4+f.l) } }:ao).looks t,s.load (az t f.at_.pred (4+f.l))):=by
   have c:¬ aM≤g.c f.at_.pred (4+f.l):=T.p.um
   unfold ao.step
   simp [e,hn,e1,c]
  rw [au]
  obtain ⟨A,B,hC,oO,ea⟩:=T.ex
  obtain ⟨q1,q2⟩:=KW (f:={ f with ar:=f.at_.known,at_:={ f.at_ with cur:=g.c f.at_.pred (4+f.l) } }) h ⟨k.snd,k.aQ,k.len,hp,(k.pre h9).told⟩ T.p rfl hC oO
  have hR:Rm g f a=1+2*a+dK g f.l.toNat:=by unfold Rm; rw [if_pos e]
  refine ⟨?_,fun V=>q2 (up V)⟩
  rcases q1 with q1 | ⟨a',b1,b2⟩
  ·exact .inl q1
  ·exact .inr ⟨a',b1,Int.lt_of_le_of_lt b2 (by show 2*(B.length:Int)+dK g f.l.toNat<_; omega)⟩
 ·rw [pW (.inl (by omega))]
  obtain ⟨⟨j,a1,a2,a3,a4⟩,a5⟩:=k.cur (.inl e)
  have b:=h.bo _ _ a2
  have xQ:cd t (aF t.size f.at_.cur) (4+f.l):=by rw [a4]; exact jk l0 l1 (.inr ⟨b.1,b.2.1⟩)
  have KX:aN t (aF t.size f.at_.cur) f.l=az t (aF t.size f.at_.cur) (4+f.l):=gI hs l0 l1 _
  obtain ⟨e1,e2⟩:=fZ L xQ
  rw [← hv] at e1 e2
  have au:f.step t s=({ f with ar:=f.at_.cur,w:=g.c (aF t.size f.at_.cur) (4+f.l),line:=if Mk (g.c (aF t.size f.at_.cur) (4+f.l)) then 3 else 4 },s.load (az t (aF t.size f.at_.cur) (4+f.l))):=by
   unfold ao.step
   simp only [e,KX,e1]
   rfl
  rw [au]
  have hR:Rm g f a=2*a+dK g f.l.toNat:=by unfold Rm; rw [if_neg (by omega),if_pos e]
  have hl:(if Mk (g.c (aF t.size f.at_.cur) (4+f.l)) then (3:Int) else 4)=3∨(if Mk (g.c (aF t.size f.at_.cur) (4+f.l)) then (3:Int) else 4)=4:=by split<;>simp
  refine ⟨.inr ⟨a,⟨T.ex,T.p,fun _=>T.cur (.inl e),fun _=>rfl⟩,?_⟩,fun V l z h0 h1=>V l (.inr ?_) h0 h1⟩
  ·rw [hR]
   unfold Rm
   rw [if_neg (by simp only; omega),if_neg (by simp only; omega)]
   simp only; omega
  ·simp only at z; omega
 ·obtain ⟨⟨j,a1,a2,a3,a4⟩,a5⟩:=k.cur (.inr (.inl e))
  obtain ⟨w1,w2⟩:=k.w3 e
  have c:=T.cur (.inr (.inl e))
  have b:=h.bo _ _ a2
  obtain ⟨e1,e2⟩:=pT L hP (x:=f.at_.cur) (f.w - aM) (by rw [← hv]; exact c)
  rw [← hv] at e2
  have au:f.step t s=(({ f with ar:=f.at_.known,at_:={ f.at_ with cur:=f.w - aM } }:ao).looks t,s.bM (az t f.at_.pred (4+f.l)) f.at_.cur (f.w - aM)):=by
   unfold ao.step
   simp [e,hn,e1]
  obtain ⟨A,B,hC,oO,ea⟩:=CI h T ⟨j,a1.symm,a4,a2⟩ c
  rw [a4] at hC
  have hj:Mk (g.c j (4+f.l)):=by rw [a4] at w1; rw [w1]; exact w2
  have act:jn t g (g.unlink f.l f.at_.pred j (A++B)):=.un T.p hC oO hj
  have hw:f.w - aM=um (g.c j (4+f.l)):=by rw [a4] at w1; rw [w1,Ky (w1▸h.u _ _) w2]
  have rl:cC t (fun _=>False) kn g (g.unlink f.l f.at_.pred j (A++B)):=act.dF (fun _ h=>h.elim) h
  have h':=act.inv h
  have k':=k.dF h rl
  have dB:=k'.pred h9
  have Fp:=Cv (g.c j (4+f.l))
  have zX:(g.unlink f.l f.at_.pred j (A++B)).c f.at_.pred (4+f.l)=f.w - aM:=by rw [hw]; exact Vw.oL _ _ _ _
  have P':=dB.xL l0 l1 (by rw [zX,hw]; unfold Mk; omega)
  rw [au,SX h e c a4 l0 l1 hC]
  have Ac:(g.unlink f.l f.at_.pred j (A++B)).C f.l=A++B:=by simp [Sh.unlink,gJ]
  have acj:fm (g.unlink f.l f.at_.pred j (A++B)).c g.rf f.l (-1) A f.at_.pred:=by
   have fT:=h.nodup l0 l1
   rw [hC] at fT
   obtain ⟨n1,n2⟩:=oO.KA fT
   exact oO.same fun z hz=>by
    show um (g.c.set f.at_.pred (4+f.l) _ z (4+f.l))=_
    rw [Vw.jO _ _ (fun e=>n1 (by rw [← e]; exact hz))]
  obtain ⟨q1,q2⟩:=KW (g:=g.unlink f.l f.at_.pred j (A++B)) (f:={ f with ar:=f.at_.known,at_:={ f.at_ with cur:=f.w - aM } }) h' ⟨k.snd,k.aQ,k.len,dB,(k'.pre h9).told⟩ P' zX Ac acj
  have hR:Rm g f a=2*a - 1+dK g f.l.toNat:=by unfold Rm; rw [if_neg (by omega),if_neg (by omega)]
  have hb:dK (g.unlink f.l f.at_.pred j (A++B)) f.l.toNat=dK g f.l.toNat:=aci _ fun l h0 h1=>by
   simp only [Sh.unlink,gJ]
   rw [if_neg (by omega)]
  refine ⟨?_,fun V=>q2 fun l z h0 h1=>?_⟩
  ·rcases q1 with q1 | ⟨a',b1,b2⟩
   ·exact .inl q1
   ·exact .inr ⟨a',b1,Int.lt_of_le_of_lt b2 (by show 2*(B.length:Int)+dK (g.unlink f.l f.at_.pred j (A++B)) f.l.toNat<_; rw [hb]; omega)⟩
  ·obtain ⟨v1,v2⟩:=V l (.inr z) h0 h1
   have kz:∀ q,(g.unlink f.l f.at_.pred j (A++B)).c q (4+l)=g.c q (4+l):=fun q=>g.c.dg _ (by simp only at z; omega)
   refine ⟨⟨v1.l0,v1.l1,v1.on,?_⟩,?_⟩
   ·rw [kz]; exact v1.um
   ·rw [kz]; exact v2
 ·rw [pW (.inl (by omega))]
  obtain ⟨⟨j,a1,a2,a3,a4⟩,a5⟩:=k.cur (.inr (.inr e))
  have b:=h.bo _ _ a2
  have hh:=hs.1
  have xQ:cd t (aF t.size f.at_.cur) 0:=by rw [a4]; exact .inr ⟨b.1,b.2.1,by omega,by omega⟩
  obtain ⟨e1,e2⟩:=fZ L xQ
  rw [← hv] at e1 e2
  have au:f.step t s=if f.key≤g.c (aF t.size f.at_.cur) 0 then (({ f with ar:=f.at_.cur }:ao).tell,s.load (az t (aF t.size f.at_.cur) 0)) else (({ f with ar:=f.at_.cur,at_:=⟨aF t.size f.at_.cur,f.at_.cur,f.w⟩ }:ao).looks t,s.load (az t (aF t.size f.at_.cur) 0)):=by
   unfold ao.step
   simp only [e,e1]
   rfl
  have c:=T.cur (.inr (.inr e))
  have hR:Rm g f a=2*a - 1+dK g f.l.toNat:=by unfold Rm; rw [if_neg (by omega),if_neg (by omega)]
  obtain ⟨A,B,hC,oO,ea⟩:=CI h T ⟨j,a1.symm,a4,a2⟩ c
  rw [a4] at hC
  by_cases ck:f.key≤g.c (aF t.size f.at_.cur) 0
  ·rw [au,if_pos ck]
   obtain ⟨q1,q2⟩:=Tv (f:={ f with ar:=f.at_.cur }) h ⟨k.snd,k.aQ,k.len,hp,(k.pre h9).told⟩ T.p c
   refine ⟨?_,fun V=>q2 (up V)⟩
   rcases q1 with q1 | ⟨a',b1,b2⟩
   ·exact .inl q1
   ·exact .inr ⟨a',b1,Int.lt_of_le_of_lt b2 (by show dK g f.l.toNat<_; omega)⟩
  ·rw [au,if_neg ck]
   have Tx:g.c j (4+f.l)=f.w:=by have:=T.w e; rwa [a4] at this
   have uw:¬ Mk f.w:=by
    rcases k.w4 e with e0 | ⟨⟨j',x1,x2,-,-⟩,-⟩
    ·rw [e0]; decide
    ·have r:=h.rf j' (h.bo _ _ x2).1 (h.bo _ _ x2).2.1
     rw [x1]; exact Int.not_le.2 r.2.2
   have P:eZ t g f.l j:=⟨l0,l1,.inr a2,by rw [Tx]; exact uw⟩
   have hC2:g.C f.l=(A++[j])++B:=by rw [hC]; simp
   have ack:fm g.c g.rf f.l (-1) (A++[j]) j:=by
    have:∀ (q:Int) (A:List Int) (r:Int),fm g.c g.rf f.l q A r→um (g.c r (4+f.l))=g.rf j→fm g.c g.rf f.l q (A++[j]) j:=by
     intro q A
     induction A generalizing q with
     | nil=>intro r h1 h2; cases h1; exact ⟨h2,rfl⟩
     | cons y A ih=>intro r h1 h2; exact ⟨h1.1,ih y r h1.2 h2⟩
    refine this _ _ _ oO ?_
    rw [sr (h.u _ _) T.p.um,c,a1]
   obtain ⟨q1,q2⟩:=KW (f:={ f with ar:=f.at_.cur,at_:=⟨aF t.size f.at_.cur,f.at_.cur,f.w⟩ }) h ⟨k.snd,k.aQ,k.len,.inr ⟨by rw [a4]; exact a2,by rw [a4]; exact a3,by simp only; omega,by rw [a4]; exact a1⟩,(k.pre h9).told⟩ (by rw [a4]; exact P) (by rw [a4]; exact Tx) hC2 (by rw [a4]; exact ack)
   refine ⟨?_,fun V=>q2 (up V)⟩
   rcases q1 with q1 | ⟨a',b1,b2⟩
   ·exact .inl q1
   ·exact .inr ⟨a',b1,Int.lt_of_le_of_lt b2 (by show 2*(B.length:Int)+dK g f.l.toNat<_; omega)⟩
 ·exact absurd e h9
end
section
variable {t:TW} {own kn:Int→Prop} {g g':Sh} {l p i j v key known w a N:Int} {A B:List Int} {f:ao} {s:MS} {sp:dy}
theorem acm:∀ (Z Z' B B':List Int) (p:Int),p∉Z→p∉Z' →Z++p::B=Z' ++p::B' →Z.length=Z'.length:=by
 intro Z
 induction Z with
 | nil =>
  intro Z' B B' p h1 h2 h3
  cases Z' with
  | nil=>rfl
  | cons z Z'=>simp at h3 h2; exact absurd h3.1 h2.1
 | cons z Z ih =>
  intro Z' B B' p h1 h2 h3
  cases Z' with
  | nil=>simp at h3 h1; exact absurd h3.1.symm h1.1
  | cons z' Z' =>
   simp at h3 h1 h2 ⊢
   exact ih Z' B B' p h1.2 h2.2 h3.2
theorem KY (h:aP t g) (hs:t.sound):∃ a,Tr t g (f.anew t) a:=by
 have:=hs.1
 have P:eZ t g (t.ay - 1) (-1):=⟨by omega,by omega,.inl rfl,h.hd _ (by omega) (by omega)⟩
 obtain ⟨A,B,hC,hP,-⟩:=P.split h
 exact ⟨_,⟨A,B,hC,hP,rfl⟩,P,by simp [ao.anew],by simp [ao.anew]⟩
theorem FD (t:TW) (g:Sh) (f:ao):1≤St t g f∧St t g f≤4:=by
 unfold St
 split
 ·omega
 ·split
  ·split<;>omega
  ·omega
theorem Ty (h:aP t g) (k:nF t g kn f):f.tell.line=9∨(∃ a,Tr t g f.tell a)∨St t g f.tell=1:=by
 unfold ao.tell
 by_cases c:f.l<1
 ·rw [if_pos c]; exact .inl rfl
 ·rw [if_neg c]
  exact .inr (.inr (by unfold St; simp))
theorem acn (L:fy t s.W.length) (h:aP t g) (hv:g.c=vw t s) (k:ga t g kn f) (h9:f.line≠9) (T:¬ ∃ a,Tr t g f a) :
  g.fs t f=g∧((f.step t s).1.line=9∨(∃ a',Tr t g (f.step t s).1 a')∨St t g (f.step t s).1+1≤St t g f):=by
 obtain ⟨l0,l1⟩:=k.aQ
 have hs:=k.snd
 have hp:=k.pred h9
 have hP:=hp.cd h l0 l1
 have hn:aN t f.at_.pred f.l=az t f.at_.pred (4+f.l):=gI hs l0 l1 _
 rcases k.line with e | e | e | e | e
 ·rw [pW (.inl (by omega))]
  obtain ⟨e1,e2⟩:=fZ L hP
  rw [← hv] at e1 e2
  have c:aM≤g.c f.at_.pred (4+f.l):=by
   rcases Classical.em (Mk (g.c f.at_.pred (4+f.l))) with m | m
   ·exact m
   ·exact absurd (jm.trE h (hp.xL l0 l1 m) e) T
  have au:f.step t s=(({ f with ar:=f.at_.known,at_:={ f.at_ with cur:=g.c f.at_.pred (4+f.l) } }:ao).anew t,s.load (az t f.at_.pred (4+f.l))):=by
   unfold ao.step
   simp [e,hn,e1,c]
  rw [au]
  exact ⟨rfl,.inr (.inl (KY h hs))⟩
 ·rw [pW (.inl (by omega))]
  obtain ⟨⟨j,a1,a2,a3,a4⟩,a5⟩:=k.cur (.inl e)
  have b:=h.bo _ _ a2
  have xQ:cd t (aF t.size f.at_.cur) (4+f.l):=by rw [a4]; exact jk l0 l1 (.inr ⟨b.1,b.2.1⟩)
  have KX:aN t (aF t.size f.at_.cur) f.l=az t (aF t.size f.at_.cur) (4+f.l):=gI hs l0 l1 _
  obtain ⟨e1,e2⟩:=fZ L xQ
  rw [← hv] at e1 e2
  have au:f.step t s=({ f with ar:=f.at_.cur,w:=g.c (aF t.size f.at_.cur) (4+f.l),line:=if Mk (g.c (aF t.size f.at_.cur) (4+f.l)) then 3 else 4 },s.load (az t (aF t.size f.at_.cur) (4+f.l))):=by
   unfold ao.step
   simp only [e,KX,e1]
   rfl
  rw [au]
  refine ⟨rfl,.inr (.inr ?_)⟩
  have:St t g f=3:=by unfold St; rw [if_pos e]
  rw [this]
  unfold St
  by_cases c:Mk (g.c (aF t.size f.at_.cur) (4+f.l))
  ·simp [c]
  ·simp [c]
 ·obtain ⟨⟨j,a1,a2,a3,a4⟩,a5⟩:=k.cur (.inr (.inl e))
  have b:=h.bo _ _ a2
  have r:=h.rf j b.1 b.2.1
  have c:g.c f.at_.pred (4+f.l)≠f.at_.cur:=fun c=>T (by
   have P:=hp.xL l0 l1 (by rw [c,a1]; exact Int.not_le.2 r.2.2)
   obtain ⟨A,B,hC,oO,-⟩:=P.split h
   exact ⟨_,⟨A,B,hC,oO,rfl⟩,P,fun _=>c,by omega⟩)
  rw [pW (.inr c)]
  obtain ⟨e1,e2⟩:=pU L hP (x:=f.at_.cur) (f.w - aM) (by rw [← hv]; exact c)
  have au:f.step t s=(({ f with ar:=f.at_.known }:ao).anew t,s.bM (az t f.at_.pred (4+f.l)) f.at_.cur (f.w - aM)):=by
   unfold ao.step
   simp [e,hn,e1]
  rw [au]
  exact ⟨rfl,.inr (.inl (KY h hs))⟩
 ·rw [pW (.inl (by omega))]
  obtain ⟨⟨j,a1,a2,a3,a4⟩,a5⟩:=k.cur (.inr (.inr e))
  have b:=h.bo _ _ a2
  have hh:=hs.1
  have xQ:cd t (aF t.size f.at_.cur) 0:=by rw [a4]; exact .inr ⟨b.1,b.2.1,by omega,by omega⟩
  obtain ⟨e1,e2⟩:=fZ L xQ
  rw [← hv] at e1 e2
  have au:f.step t s=if f.key≤g.c (aF t.size f.at_.cur) 0 then (({ f with ar:=f.at_.cur }:ao).tell,s.load (az t (aF t.size f.at_.cur) 0)) else (({ f with ar:=f.at_.cur,at_:=⟨aF t.size f.at_.cur,f.at_.cur,f.w⟩ }:ao).looks t,s.load (az t (aF t.size f.at_.cur) 0)):=by
   unfold ao.step
   simp only [e,e1]
   rfl
  have hS:2≤St t g f∧(g.c (aF t.size f.at_.cur) (4+f.l)≠f.w→St t g f=4):=by
   unfold St
   rw [if_neg (by omega),if_pos e]
   split
   ·rename_i q; exact ⟨by omega,fun k=>absurd q k⟩
   ·exact ⟨by omega,fun _=>rfl⟩
  refine ⟨rfl,?_⟩
  by_cases ck:f.key≤g.c (aF t.size f.at_.cur) 0
  ·rw [au,if_pos ck]
   rcases Ty (f:={ f with ar:=f.at_.cur }) h ⟨k.snd,k.aQ,k.len,hp,(k.pre h9).told⟩ with q | q | q
   ·exact .inl q
   ·exact .inr (.inl q)
   ·refine .inr (.inr ?_)
    show St t g ({ f with ar:=f.at_.cur }:ao).tell+1≤_
    rw [q]; omega
  ·rw [au,if_neg ck]
   have pre:nF t g kn { f with ar:=f.at_.cur,at_:=⟨aF t.size f.at_.cur,f.at_.cur,f.w⟩ }:=⟨k.snd,k.aQ,k.len,.inr ⟨by rw [a4]; exact a2,by rw [a4]; exact a3,by simp only; omega,by rw [a4]; exact a1⟩,(k.pre h9).told⟩
   unfold ao.looks
   by_cases c:aF t.size f.w<0
   ·simp only [c,if_true]
    rcases Ty (f:={ f with ar:=f.at_.cur,at_:=⟨aF t.size f.at_.cur,f.at_.cur,f.w⟩,line:=2 }) h ⟨pre.snd,pre.aQ,pre.len,pre.pred,pre.told⟩ with q | q | q
    ·exact .inl q
    ·exact .inr (.inl q)
    ·refine .inr (.inr ?_)
     rw [q]; omega
   ·simp only [c,if_false]
    by_cases cw:g.c (aF t.size f.at_.cur) (4+f.l)=f.w
    ·refine .inr (.inl ?_)
     have uw:¬ Mk f.w:=by
      rcases k.w4 e with e0 | ⟨⟨j',x1,x2,-,-⟩,-⟩
      ·rw [e0]; decide
      ·have r:=h.rf j' (h.bo _ _ x2).1 (h.bo _ _ x2).2.1
       rw [x1]; exact Int.not_le.2 r.2.2
     have P:eZ t g f.l (aF t.size f.at_.cur):=⟨l0,l1,.inr (by rw [a4]; exact a2),by rw [cw]; exact uw⟩
     obtain ⟨A,B,hC,oO,-⟩:=P.split h
     exact ⟨_,⟨A,B,hC,oO,rfl⟩,P,fun _=>cw,by simp⟩
    ·refine .inr (.inr ?_)
     rw [hS.2 cw]
     unfold St
     simp
 ·exact absurd e h9
theorem FB.any (k:ga t g kn f):FB t g f (4+PP t g):=by
 rcases Classical.em (∃ a,Tr t g f a) with ⟨a,T⟩ | T
 ·exact .inl ⟨a,T,by have:=(T.le k.aQ).2; omega⟩
 ·exact .inr (by have:=(FD t g f).2; omega)
theorem Tz (h:aP t g) (k:ga t g kn f) (h9:f.line≠9) (T:Tr t g f a):1≤Rm g f a:=by
 have hb:=CH g f.l.toNat
 have ha:=(T.le k.aQ).1
 unfold Rm
 rcases k.line with e | e | e | e | e
 ·rw [if_pos e]; omega
 ·obtain ⟨⟨j,a1,a2,a3,a4⟩,-⟩:=k.cur (.inl e)
  obtain ⟨A,B,_,_,ea⟩:=CI h T ⟨j,a1.symm,a4,a2⟩ (T.cur (.inl e))
  rw [if_neg (by omega),if_pos e]; omega
 ·obtain ⟨⟨j,a1,a2,a3,a4⟩,-⟩:=k.cur (.inr (.inl e))
  obtain ⟨A,B,_,_,ea⟩:=CI h T ⟨j,a1.symm,a4,a2⟩ (T.cur (.inr (.inl e)))
  rw [if_neg (by omega),if_neg (by omega)]; omega
 ·obtain ⟨⟨j,a1,a2,a3,a4⟩,-⟩:=k.cur (.inr (.inr e))
  obtain ⟨A,B,_,_,ea⟩:=CI h T ⟨j,a1.symm,a4,a2⟩ (T.cur (.inr (.inr e)))
  rw [if_neg (by omega),if_neg (by omega)]; omega
 ·exact absurd e h9
theorem FB.pos (h:aP t g) (k:ga t g kn f) (h9:f.line≠9) (b:FB t g f N):1≤N:=by
 rcases b with ⟨a,T,q⟩ | q
 ·have:=Tz h k h9 T; omega
 ·have:=(FD t g f).1
  have:=CH g t.ay.toNat
  have e:PP t g=dK g t.ay.toNat:=rfl
  omega
theorem FG.pos (h:aP t g) (k:ga t g kn f) (h9:f.line≠9) (b:FG t g f N):1≤N:=by
 obtain ⟨-,a,T,q⟩:=b
 have:=Tz h k h9 T; omega
theorem FG.fb (b:FG t g f N):FB t g f N:=.inl b.2
theorem FG.fresh (h:aP t g) (hs:t.sound):FG t g (f.anew t) (PP t g):=by
 obtain ⟨a,T⟩:=KY (f:=f) h hs
 refine ⟨fun l e h0 h1=>?_,a,T,(T.le (by have:=hs.1; simp only [ao.anew]; omega)).2⟩
 simp only [ao.anew] at e
 omega
theorem FE (L:fy t s.W.length) (h:aP t g) (hv:g.c=vw t s) (hk:pV t g kn) (k:ga t g kn f) (oN:0≤f.key) (h9:f.line≠9) (b:FB t g f N):(f.step t s).1.line=9∨FB t (g.fs t f) (f.step t s).1 (N - 1):=by
 rcases Classical.em (∃ a,Tr t g f a) with ⟨a,T⟩ | T
 ·have hN:Rm g f a≤N:=by
   rcases b with ⟨a',T',q⟩ | q
   ·obtain ⟨A,B,c1,c2,c3⟩:=T.ex
    obtain ⟨A',B',jP,c2',c3'⟩:=T'.ex
    have:a=a':=by
     obtain ⟨l0,l1⟩:=k.aQ
     have hn:=h.nodup l0 l1
     have m1:=c2.end
     have m2:=c2'.end
     have q:=(List.nodup_cons.1 hn).2
     have e0:=(List.nodup_cons.1 hn).1
     have len:A.length=A'.length:=by
      rcases m1 with ⟨rfl,e1⟩ | ⟨Z,rfl⟩
      ·rcases m2 with ⟨rfl,_⟩ | ⟨Z',rfl⟩
       ·rfl
       ·exfalso; apply e0; rw [← e1,jP]; simp
      ·rcases m2 with ⟨rfl,e1⟩ | ⟨Z',rfl⟩
       ·exfalso; apply e0; rw [← e1,c1]; simp
       ·have n1:(Z++[f.at_.pred]++B).Nodup:=c1▸q
        have n2:(Z' ++[f.at_.pred]++B').Nodup:=jP ▸q
        have z1:f.at_.pred∉Z:=fun hz=>(List.nodup_append.1 (List.nodup_append.1 n1).1).2.2 _ hz f.at_.pred (by simp) rfl
        have z2:f.at_.pred∉Z':=fun hz=>(List.nodup_append.1 (List.nodup_append.1 n2).1).2.2 _ hz f.at_.pred (by simp) rfl
        have:=acm Z Z' B B' f.at_.pred z1 z2 (by have:=c1.symm.trans jP; simpa using this)
        simp; omega
     have tY:(g.C f.l).length=A.length+B.length:=by rw [c1]; simp
     have vC:(g.C f.l).length=A'.length+B'.length:=by rw [jP]; simp
     omega
    subst this; exact q
   ·have:=(T.le k.aQ).2
    have:=(FD t g f).1
    omega
  rcases (Tw L h hv k oN h9 T).1 with q | ⟨a',T',q⟩
  ·exact .inl q
  ·exact .inr (.inl ⟨a',T',by omega⟩)
 ·have hN:St t g f+PP t g≤N:=b.resolve_left fun ⟨a,T',_⟩=>T ⟨a,T'⟩
  obtain ⟨e,q⟩:=acn L h hv k h9 T
  have k':=(Ft L h hv hk k oN).2.2.1
  rw [e] at k' ⊢
  rcases q with q | ⟨a',T'⟩ | q
  ·exact .inl q
  ·refine .inr (.inl ⟨a',T',?_⟩)
   have:=(T'.le k'.aQ).2
   have:=(FD t g f).1
   omega
  ·exact .inr (.inr (by omega))
theorem FF (L:fy t s.W.length) (h:aP t g) (hv:g.c=vw t s) (k:ga t g kn f) (oN:0≤f.key) (h9:f.line≠9) (b:FG t g f N):xO t (g.fs t f) (f.step t s).1∧((f.step t s).1.line=9∨FG t (g.fs t f) (f.step t s).1 (N - 1)):=by
 obtain ⟨V,a,T,q⟩:=b
 obtain ⟨q1,q2⟩:=Tw L h hv k oN h9 T
 refine ⟨q2 V,?_⟩
 rcases q1 with q1 | ⟨a',T',q1⟩
 ·exact .inl q1
 ·exact .inr ⟨q2 V,a',T',by omega⟩
end
theorem FH:∀ (n:Nat) (L:List Int),L.Nodup→(∀ x∈L,0≤x∧x<n)→L.length≤n
 | 0,L,_,hb=>by
  cases L with
  | nil=>exact Nat.le_refl _
  | cons a L=>have:=hb a (by simp); omega
 | n+1,L,hn,hb=>by
  have h1:=FH n (L.erase (n:Int)) (hn.erase _) fun x hx=>by
   have h2:=hb x (List.mem_of_mem_erase hx)
   have h3:x≠(n:Int):=fun e=>by
    subst e
    exact absurd hx (by simp [hn.mem_erase_iff])
   omega
  have:=List.length_erase_le (a:=(n:Int)) (l:=L)
  by_cases hm:(n:Int)∈L
  ·rw [List.length_erase_of_mem hm] at h1; omega
  ·rw [List.erase_of_not_mem hm] at h1; omega
def dN (t:TW):Int:=t.ay*(2*t.size+1)
def VF (t:TW) (g:Sh) (x:aj) (lv:Int):Prop:=∀ l,lv≤l→0≤l→l<x.hi→lJ t g l (x.find.spot l)
abbrev c9 (t:TW):Int:=dN t+7
abbrev cX (t:TW) (x:aj):Int:=dN t+1+3*x.hi+c9 t
def IB (t:TW) (g:Sh) (x:aj) (N:Int):Prop :=
 (x.line=11∧6≤N) ∨
 (x.line=10∧∃ M,FB t g x.find M∧M+6≤N) ∨
 (x.line=9∧c9 t≤N) ∨
 (x.line=4∧(VF t g x x.level∧3*(x.hi - x.level)+c9 t≤N∨3*(x.hi - x.level)+cX t x≤N)) ∨
 (x.line=5∧(VF t g x x.level∧3*(x.hi - x.level) - 1+c9 t≤N∨3*(x.hi - x.level) - 1+cX t x≤N)) ∨
 (x.line=6∧(VF t g x x.level∧3*(x.hi - x.level) - 2+c9 t≤N∨3*(x.hi - x.level) - 2+cX t x≤N)) ∨
 (x.line=7∧((∃ M,FG t g x.find M∧M+1+3*(x.hi - x.level)+c9 t≤N)∨∃ M,FB t g x.find M∧M+1+3*(x.hi - x.level)+cX t x≤N)) ∨
 (x.line=8∧(VF t g x x.level∧1+3*(x.hi - x.level)+c9 t≤N∨1+3*(x.hi - x.level)+cX t x≤N)) ∨
 (x.line=3∧(VF t g x 0∧1+3*x.hi+c9 t≤N∨1+3*x.hi+cX t x≤N)) ∨
 (x.line=2∧(VF t g x 0∧(x.hi - x.level)+1+3*x.hi+c9 t≤N∨(x.hi - x.level)+1+3*x.hi+cX t x≤N)) ∨
 (x.line=1∧((∃ M,FG t g x.find M∧M+x.hi+1+3*x.hi+c9 t≤N)∨∃ M,FB t g x.find M∧M+x.hi+1+3*x.hi+cX t x≤N))
section
variable {t:TW} {own kn:Int→Prop} {g g' g1:Sh} {l p i j v key known w N M:Int} {A B:List Int} {f:ao} {s:MS} {sp:dy} {x:aj}
theorem ug (hs:t.sound) (h:aP t g):PP t g≤dN t:=by
 have key:∀ n:Nat,(n:Int)≤t.ay→dK g n≤n*(2*t.size+1):=by
  intro n
  induction n with
  | zero=>intro _; simp [dK]
  | succ n ih =>
   intro hn
   have:=ih (by omega)
   have hl:(g.C (n:Int)).length≤t.size.toNat:=FH _ _ (List.nodup_cons.1 (h.nodup (by omega) (by omega))).2 fun x hx=>by
    have:=h.bo _ _ (h.jl _ x (by omega) (by omega) hx)
    omega
   have hz:=hs.2.2.1
   simp only [dK]
   rw [Int.natCast_add,Int.natCast_one,Int.add_mul]
   omega
 have:=key t.ay.toNat (by have:=hs.1; omega)
 unfold PP dN
 have hh:((t.ay.toNat:Nat):Int)=t.ay:=by have:=hs.1; omega
 rw [hh] at this
 exact this
theorem Gd.aco (a:Gd t i g g') (hi:i= -1∨True):∀ l j,g.born l j→g'.born l j:=by
 induction a with
 | nil=>exact fun _ _ h=>h
 | step h r _ ih=>exact fun l j hb=>ih l j ((r (fun _=>False) (fun _=>True) (fun _ h=>h.elim) id).born l j trivial hb)
theorem lJ.keep (a:Gd t i g g') (k:lJ t g l sp) (hc:g'.c sp.pred (4+l)=g.c sp.pred (4+l)):lJ t g' l sp :=
 ⟨⟨k.1.l0,k.1.l1,k.1.on.imp id fun q=>a.aco (.inr trivial) _ _ q,by rw [hc]; exact k.1.um⟩,by rw [hc]; exact k.2⟩
theorem acp (L:fy t s.W.length) (ho:∀ j,own j→0≤j) (h:aP t g) (hv:g.c=vw t s) (hk:pV t g kn) (k:fz t g own kn x) (hX:0≤x.key) (e1:1≤x.line) (e2:x.line≤10) (b:IB t g x N) :
  ∃ g',aP t g' ∧Gd t x.i g g' ∧g'.c=vw t (x.step t s).2∧fz t g' own kn (x.step t s).1∧IB t g' (x.step t s).1 (N - 1)∧∀ i p,p≤3→g'.c i p=g.c i p:=by
 obtain ⟨g',h',gd,hc,k',FA,lo⟩:=S0 L ho h hv hk k hX e1 e2
 refine ⟨g',h',gd,hc,k',?_,lo⟩
 obtain ⟨fi,fk⟩:=k.fi e1 e2
 have i0:=k.i0 h
 have hs:=fi.snd
 have hP:=ug hs h
 have hPn:0≤dN t:=Int.le_trans (CH g t.ay.toNat) hP
 have aQ:=k.aQ
 have hc9:c9 t=dN t+7:=rfl
 have sD:∀ n:Int,x.line=n→∀ Q:Prop,((n=11→6≤N→Q)∧(n=10→(∃ M,FB t g x.find M∧M+6≤N)→Q)∧(n=9→c9 t≤N→Q)∧(n=4→(VF t g x x.level∧3*(x.hi - x.level)+c9 t≤N∨3*(x.hi - x.level)+cX t x≤N)→Q)∧(n=5→(VF t g x x.level∧3*(x.hi - x.level) - 1+c9 t≤N∨3*(x.hi - x.level) - 1+cX t x≤N)→Q)∧(n=6→(VF t g x x.level∧3*(x.hi - x.level) - 2+c9 t≤N∨3*(x.hi - x.level) - 2+cX t x≤N)→Q)∧(n=7→((∃ M,FG t g x.find M∧M+1+3*(x.hi - x.level)+c9 t≤N)∨∃ M,FB t g x.find M∧M+1+3*(x.hi - x.level)+cX t x≤N)→Q)∧(n=8→(VF t g x x.level∧1+3*(x.hi - x.level)+c9 t≤N∨1+3*(x.hi - x.level)+cX t x≤N)→Q)∧(n=3→(VF t g x 0∧1+3*x.hi+c9 t≤N∨1+3*x.hi+cX t x≤N)→Q)∧(n=2→(VF t g x 0∧(x.hi - x.level)+1+3*x.hi+c9 t≤N∨(x.hi - x.level)+1+3*x.hi+cX t x≤N)→Q)∧(n=1→((∃ M,FG t g x.find M∧M+x.hi+1+3*x.hi+c9 t≤N)∨∃ M,FB t g x.find M∧M+x.hi+1+3*x.hi+cX t x≤N)→Q))→Q:=by
  intro n e Q ⟨q1,q2,q3,q4,q5,q6,q7,q8,q9,q10,q11⟩
  rcases b with ⟨a,c⟩ | ⟨a,c⟩ | ⟨a,c⟩ | ⟨a,c⟩ | ⟨a,c⟩ | ⟨a,c⟩ | ⟨a,c⟩ | ⟨a,c⟩ | ⟨a,c⟩ | ⟨a,c⟩ | ⟨a,c⟩
  ·exact q1 (e.symm.trans a) c
  ·exact q2 (e.symm.trans a) c
  ·exact q3 (e.symm.trans a) c
  ·exact q4 (e.symm.trans a) c
  ·exact q5 (e.symm.trans a) c
  ·exact q6 (e.symm.trans a) c
  ·exact q7 (e.symm.trans a) c
  ·exact q8 (e.symm.trans a) c
  ·exact q9 (e.symm.trans a) c
  ·exact q10 (e.symm.trans a) c
  ·exact q11 (e.symm.trans a) c
 rcases (show x.line=1∨x.line=2∨x.line=3∨x.line=4∨x.line=5∨x.line=6∨x.line=7∨x.line=8∨x.line=9∨x.line=10 by omega) with e | e | e | e | e | e | e | e | e | e
 ·-- its search
  have au:x.step t s=x.l1 t s:=by unfold aj.step; simp [e]
  have dU:=FA (.inl e)
  have b':(∃ M,FG t g x.find M∧M+x.hi+1+3*x.hi+c9 t≤N)∨∃ M,FB t g x.find M∧M+x.hi+1+3*x.hi+cX t x≤N:=sD 1 e _ (by refine ⟨?_,?_,?_,?_,?_,?_,?_,?_,?_,?_,fun _ h=>h⟩<;>(intro q; omega))
  have n9:=k.n9 (.inl e)
  rw [au]
  unfold aj.l1 aj.dp
  by_cases h9:(x.find.step t s).1.line=9
  ·simp only [h9,if_true]
   unfold IB
   refine .inr (.inr (.inr (.inr (.inr (.inr (.inr (.inr (.inr (.inl ⟨rfl,?_⟩)))))))))
   rcases b' with ⟨M,q,r⟩ | ⟨M,q,r⟩
   ·have:=q.pos h fi n9
    have V:=(FF L h hv fi (by omega) n9 q).1
    rw [← dU] at V
    exact .inl ⟨fun l _ h0 h1=>V l (.inl h9) h0 (Int.lt_of_lt_of_le h1 i0.2.2.2),by simp only; omega⟩
   ·have:=q.pos h fi n9
    exact .inr (by unfold cX at r ⊢; simp only; omega)
  ·simp only [h9,if_false]
   unfold IB
   refine .inr (.inr (.inr (.inr (.inr (.inr (.inr (.inr (.inr (.inr ⟨rfl,?_⟩)))))))))
   rcases b' with ⟨M,q,r⟩ | ⟨M,q,r⟩
   ·have V:=(FF L h hv fi (by omega) n9 q).2.resolve_left h9
    rw [← dU] at V
    exact .inl ⟨M - 1,V,by simp only; omega⟩
   ·have V:=(FE L h hv hk fi (by omega) n9 q).resolve_left h9
    rw [← dU] at V
    exact .inr ⟨M - 1,V,by unfold cX at r ⊢; simp only; omega⟩
 ·-- a store
  have au:x.step t s=x.l2 t s:=by unfold aj.step; simp [e]
  have b':(VF t g x 0∧(x.hi - x.level)+1+3*x.hi+c9 t≤N∨(x.hi - x.level)+1+3*x.hi+cX t x≤N):=sD 2 e _ (by refine ⟨?_,?_,?_,?_,?_,?_,?_,?_,?_,fun _ h=>h,?_⟩<;>(intro q; omega))
  have lv:=aQ.2.2.1 (by omega)
  have lK:cd t x.i (4+x.level):=jk aQ.1 (by omega) (.inr ⟨i0.1,i0.2.1⟩)
  have hn:aN t x.i x.level=az t x.i (4+x.level):=gI hs aQ.1 (by omega) _
  have ec:g'.c=g.c.set x.i (4+x.level) (x.find.spot x.level).cur:=by
   rw [hc,au]; simp only [aj.l2]; rw [hn,zS L lK,← hv]
  have nb:=k.low (by omega)
  have vk:∀ {l sp},lJ t g l sp→lJ t g' l sp:=fun {l sp} V=>V.keep gd (by
   rw [ec]; refine Vw.jO _ _ ?_
   rintro e'
   rcases V.1.on with o | o
   ·omega
   ·rw [e'] at o; exact nb (h.vI o))
  rw [au]
  unfold aj.l2
  simp only
  by_cases c:x.level+1<x.hi
  ·rw [if_pos c]
   unfold IB
   refine .inr (.inr (.inr (.inr (.inr (.inr (.inr (.inr (.inr (.inl ⟨rfl,?_⟩)))))))))
   rcases b' with ⟨q,r⟩ | r
   ·exact .inl ⟨fun l z h0 h1=>vk (q l z h0 h1),by simp only; omega⟩
   ·exact .inr (by unfold cX at r ⊢; simp only; omega)
  ·rw [if_neg c]
   unfold IB
   refine .inr (.inr (.inr (.inr (.inr (.inr (.inr (.inr (.inl ⟨rfl,?_⟩))))))))
   rcases b' with ⟨q,r⟩ | r
   ·exact .inl ⟨fun l z h0 h1=>vk (q l z h0 h1),by simp only; omega⟩
   ·exact .inr (by unfold cX at r ⊢; simp only; omega)
 ·-- it comes in
  have au:x.step t s=x.l3 t s:=by unfold aj.step; simp [e]
  have b':(VF t g x 0∧1+3*x.hi+c9 t≤N∨1+3*x.hi+cX t x≤N):=sD 3 e _ (by refine ⟨?_,?_,?_,?_,?_,?_,?_,?_,fun _ h=>h,?_,?_⟩<;>(intro q; omega))
  have l0:=aQ.2.2.2.1 e
  have n9:=k.f9 (by omega)
  have T:=fi.told x.level (.inl n9) aQ.1 (by omega)
  have lK:=T.1.cd h aQ.1 (by omega)
  have hn:aN t (x.find.spot x.level).pred x.level=az t (x.find.spot x.level).pred (4+x.level):=gI hs aQ.1 (by omega) _
  have hh:x.iB t s=s.bM (az t (x.find.spot x.level).pred (4+x.level)) (x.find.spot x.level).cur x.ref:=by unfold aj.iB; rw [hn]
  by_cases c:g.c (x.find.spot x.level).pred (4+x.level)=(x.find.spot x.level).cur
  ·obtain ⟨q1,q2⟩:=pT L lK (x:=(x.find.spot x.level).cur) x.ref (by rw [← hv]; exact c)
   rw [← hh,← hv] at q2
   rw [← hh] at q1
   have ec:g'.c=g.c.set (x.find.spot x.level).pred (4+x.level) x.ref:=by rw [hc,au]; exact q2
   rw [au]
   unfold aj.l3
   simp only [q1,if_true]
   unfold aj.up
   by_cases c2:x.hi≤1
   ·simp only [if_pos c2]
    unfold IB
    refine .inr (.inr (.inl ⟨rfl,?_⟩))
    rcases b' with ⟨q,r⟩ | r
    ·omega
    ·unfold cX at r; omega
   ·simp only [if_neg c2]
    unfold IB
    refine .inr (.inr (.inr (.inl ⟨rfl,?_⟩)))
    rcases b' with ⟨q,r⟩ | r
    ·refine .inl ⟨fun l z h0 h1=>(q l (by simp only at z; omega) h0 h1).keep gd ?_,by simp only; omega⟩
     rw [ec]; exact Vw.dg _ _ (by simp only at z; omega)
    ·exact .inr (by unfold cX at r ⊢; simp only; omega)
  ·obtain ⟨q1,q2⟩:=pU L lK (x:=(x.find.spot x.level).cur) x.ref (by rw [← hv]; exact c)
   rw [← hh] at q1
   rw [au]
   unfold aj.l3
   simp only [q1,Bool.false_eq_true,if_false]
   unfold aj.anew IB
   have xP:=ug hs h'
   refine .inr (.inr (.inr (.inr (.inr (.inr (.inr (.inr (.inr (.inr ⟨rfl,.inl ⟨PP t g',FG.fresh h' hs,?_⟩⟩)))))))))
   rcases b' with ⟨q,r⟩ | r
   ·exfalso
    have:=(q x.level (by omega) aQ.1 (by omega)).2
    exact c this
   ·unfold cX at r; simp only; omega
 ·-- a load
  have b':(VF t g x x.level∧3*(x.hi - x.level)+c9 t≤N∨3*(x.hi - x.level)+cX t x≤N):=sD 4 e _ (by refine ⟨?_,?_,?_,fun _ h=>h,?_,?_,?_,?_,?_,?_,?_⟩<;>(intro q; omega))
  have lv:=aQ.2.2.1 (by omega)
  have lK:cd t x.i (4+x.level):=jk aQ.1 (by omega) (.inr ⟨i0.1,i0.2.1⟩)
  have hn:aN t x.i x.level=az t x.i (4+x.level):=gI hs aQ.1 (by omega) _
  obtain ⟨q1,q2⟩:=fZ L lK
  rw [← hv] at q1 q2
  have au:x.step t s=({ x with ar:=x.ref,w:=g.c x.i (4+x.level),line:=if Mk (g.c x.i (4+x.level)) then 9 else if g.c x.i (4+x.level)=(x.find.spot x.level).cur then 6 else 5 },s.load (az t x.i (4+x.level))):=by
   unfold aj.step
   simp only [e]
   unfold aj.l4
   rw [hn,q1]
   rfl
  have ec:g'.c=g.c:=by rw [hc,au]; exact q2
  have vk:∀ {l sp},lJ t g l sp→lJ t g' l sp:=fun V=>V.keep gd (by rw [ec])
  rw [au]
  by_cases c:Mk (g.c x.i (4+x.level))
  ·simp only [if_pos c]
   unfold IB
   refine .inr (.inr (.inl ⟨rfl,?_⟩))
   rcases b' with ⟨q,r⟩ | r
   ·omega
   ·unfold cX at r; omega
  ·simp only [if_neg c]
   by_cases c2:g.c x.i (4+x.level)=(x.find.spot x.level).cur
   ·simp only [if_pos c2]
    unfold IB
    refine .inr (.inr (.inr (.inr (.inr (.inl ⟨rfl,?_⟩)))))
    rcases b' with ⟨q,r⟩ | r
    ·exact .inl ⟨fun l z h0 h1=>vk (q l z h0 h1),by simp only; omega⟩
    ·exact .inr (by unfold cX at r ⊢; simp only; omega)
   ·simp only [if_neg c2]
    unfold IB
    refine .inr (.inr (.inr (.inr (.inl ⟨rfl,?_⟩))))
    rcases b' with ⟨q,r⟩ | r
    ·exact .inl ⟨fun l z h0 h1=>vk (q l z h0 h1),by simp only; omega⟩
    ·exact .inr (by unfold cX at r ⊢; simp only; omega)
 ·-- it turns
  have au:x.step t s=x.l5 t s:=by unfold aj.step; simp [e]
  have b':(VF t g x x.level∧3*(x.hi - x.level) - 1+c9 t≤N∨3*(x.hi - x.level) - 1+cX t x≤N):=sD 5 e _ (by refine ⟨?_,?_,?_,?_,fun _ h=>h,?_,?_,?_,?_,?_,?_⟩<;>(intro q; omega))
  have lv:=aQ.2.2.1 (by omega)
  have lK:cd t x.i (4+x.level):=jk aQ.1 (by omega) (.inr ⟨i0.1,i0.2.1⟩)
  have hn:aN t x.i x.level=az t x.i (4+x.level):=gI hs aQ.1 (by omega) _
  have nb:=k.pX (by omega)
  by_cases c:g.c x.i (4+x.level)=x.w
  ·obtain ⟨q1,q2⟩:=pT L lK (x:=x.w) (x.find.spot x.level).cur (by rw [← hv]; exact c)
   rw [← hv] at q2
   have ec:g'.c=g.c.set x.i (4+x.level) (x.find.spot x.level).cur:=by rw [hc,au]; simp only [aj.l5]; rw [hn,q2]
   rw [au]
   unfold aj.l5
   simp only [hn,q1,if_true]
   unfold IB
   refine .inr (.inr (.inr (.inr (.inr (.inl ⟨rfl,?_⟩)))))
   rcases b' with ⟨q,r⟩ | r
   ·refine .inl ⟨fun l z h0 h1=>(q l z h0 h1).keep gd ?_,by simp only; omega⟩
    rw [ec]
    refine Vw.jO _ _ ?_
    intro e''
    have e':(x.find.spot l).pred=x.i:=e''
    rcases (q l z h0 h1).1.on with o | o
    ·have o':(x.find.spot l).pred= -1:=o
     omega
    ·have o':g.born l (x.find.spot l).pred:=o
     rw [e'] at o'
     exact nb (h.dn _ _ _ o' aQ.1 z)
   ·exact .inr (by unfold cX at r ⊢; simp only; omega)
  ·obtain ⟨q1,q2⟩:=pU L lK (x:=x.w) (x.find.spot x.level).cur (by rw [← hv]; exact c)
   rw [au]
   unfold aj.l5
   simp only [hn,q1,Bool.false_eq_true,if_false]
   unfold IB
   refine .inr (.inr (.inl ⟨rfl,?_⟩))
   rcases b' with ⟨q,r⟩ | r
   ·omega
   ·unfold cX at r; omega
 ·-- a level more
  have au:x.step t s=x.l6 t s:=by unfold aj.step; simp [e]
  have b':(VF t g x x.level∧3*(x.hi - x.level) - 2+c9 t≤N∨3*(x.hi - x.level) - 2+cX t x≤N):=sD 6 e _ (by refine ⟨?_,?_,?_,?_,?_,fun _ h=>h,?_,?_,?_,?_,?_⟩<;>(intro q; omega))
  have lv:=aQ.2.2.1 (by omega)
  have lv1:=aQ.2.2.2.2 (by omega)
  have n9:=k.f9 (by omega)
  have T:=fi.told x.level (.inl n9) aQ.1 (by omega)
  have lK:=T.1.cd h aQ.1 (by omega)
  have hn:aN t (x.find.spot x.level).pred x.level=az t (x.find.spot x.level).pred (4+x.level):=gI hs aQ.1 (by omega) _
  have hh:x.iB t s=s.bM (az t (x.find.spot x.level).pred (4+x.level)) (x.find.spot x.level).cur x.ref:=by unfold aj.iB; rw [hn]
  by_cases c:g.c (x.find.spot x.level).pred (4+x.level)=(x.find.spot x.level).cur
  ·obtain ⟨q1,q2⟩:=pT L lK (x:=(x.find.spot x.level).cur) x.ref (by rw [← hv]; exact c)
   rw [← hh,← hv] at q2
   rw [← hh] at q1
   have ec:g'.c=g.c.set (x.find.spot x.level).pred (4+x.level) x.ref:=by rw [hc,au]; exact q2
   rw [au]
   unfold aj.l6
   simp only [q1,if_true]
   unfold aj.up
   by_cases c2:x.hi≤x.level+1
   ·simp only [if_pos c2]
    unfold IB
    refine .inr (.inr (.inl ⟨rfl,?_⟩))
    rcases b' with ⟨q,r⟩ | r
    ·omega
    ·unfold cX at r; omega
   ·simp only [if_neg c2]
    unfold IB
    refine .inr (.inr (.inr (.inl ⟨rfl,?_⟩)))
    rcases b' with ⟨q,r⟩ | r
    ·refine .inl ⟨fun l z h0 h1=>(q l (by simp only at z; omega) h0 h1).keep gd ?_,by simp only; omega⟩
     rw [ec]; exact Vw.dg _ _ (by simp only at z; omega)
    ·exact .inr (by unfold cX at r ⊢; simp only; omega)
  ·obtain ⟨q1,q2⟩:=pU L lK (x:=(x.find.spot x.level).cur) x.ref (by rw [← hv]; exact c)
   rw [← hh] at q1
   rw [au]
   unfold aj.l6
   simp only [q1,Bool.false_eq_true,if_false]
   unfold aj.anew IB
   have xP:=ug hs h'
   refine .inr (.inr (.inr (.inr (.inr (.inr (.inl ⟨rfl,.inl ⟨PP t g',FG.fresh h' hs,?_⟩⟩))))))
   rcases b' with ⟨q,r⟩ | r
   ·exfalso
    exact c (q x.level (Int.le_refl _) aQ.1 lv).2
   ·unfold cX at r; simp only; omega
 ·-- its search again
  have au:x.step t s=x.dp t s 7 8:=by unfold aj.step; simp [e]
  have dU:=FA (.inr (.inl e))
  have b':((∃ M,FG t g x.find M∧M+1+3*(x.hi - x.level)+c9 t≤N)∨∃ M,FB t g x.find M∧M+1+3*(x.hi - x.level)+cX t x≤N):=sD 7 e _ (by refine ⟨?_,?_,?_,?_,?_,?_,fun _ h=>h,?_,?_,?_,?_⟩<;>(intro q; omega))
  have n9:=k.n9 (.inr (.inl e))
  rw [au]
  unfold aj.dp
  by_cases h9:(x.find.step t s).1.line=9
  ·simp only [h9,if_true]
   unfold IB
   refine .inr (.inr (.inr (.inr (.inr (.inr (.inr (.inl ⟨rfl,?_⟩)))))))
   rcases b' with ⟨M,q,r⟩ | ⟨M,q,r⟩
   ·have:=q.pos h fi n9
    have V:=(FF L h hv fi (by omega) n9 q).1
    rw [← dU] at V
    exact .inl ⟨fun l _ h0 h1=>V l (.inl h9) h0 (Int.lt_of_lt_of_le h1 i0.2.2.2),by simp only; omega⟩
   ·have:=q.pos h fi n9
    exact .inr (by unfold cX at r ⊢; simp only; omega)
  ·simp only [h9,if_false]
   unfold IB
   refine .inr (.inr (.inr (.inr (.inr (.inr (.inl ⟨rfl,?_⟩))))))
   rcases b' with ⟨M,q,r⟩ | ⟨M,q,r⟩
   ·have V:=(FF L h hv fi (by omega) n9 q).2.resolve_left h9
    rw [← dU] at V
    exact .inl ⟨M - 1,V,by simp only; omega⟩
   ·have V:=(FE L h hv hk fi (by omega) n9 q).resolve_left h9
    rw [← dU] at V
    exact .inr ⟨M - 1,V,by unfold cX at r ⊢; simp only; omega⟩
 ·-- a look
  have b':(VF t g x x.level∧1+3*(x.hi - x.level)+c9 t≤N∨1+3*(x.hi - x.level)+cX t x≤N):=sD 8 e _ (by refine ⟨?_,?_,?_,?_,?_,?_,?_,fun _ h=>h,?_,?_,?_⟩<;>(intro q; omega))
  have lv:=aQ.2.2.1 (by omega)
  have lK:cd t x.i (4+0):=jk (by omega) (by omega) (.inr ⟨i0.1,i0.2.1⟩)
  have hn:aN t x.i 0=az t x.i (4+0):=gI hs (by omega) (by omega) _
  obtain ⟨q1,q2⟩:=fZ L lK
  rw [← hv] at q1 q2
  have au:x.step t s=(if Mk (g.c x.i (4+0)) then ({ x with ar:=x.ref }:aj).anew t 10 else { x with ar:=x.ref,line:=4 },s.load (az t x.i (4+0))):=by
   unfold aj.step
   simp only [e]
   unfold aj.l89
   rw [hn,q1]
   rfl
  have ec:g'.c=g.c:=by rw [hc,au]; exact q2
  have vk:∀ {l sp},lJ t g l sp→lJ t g' l sp:=fun V=>V.keep gd (by rw [ec])
  have xP:=ug hs h'
  rw [au]
  by_cases c:Mk (g.c x.i (4+0))
  ·rw [if_pos c]
   unfold aj.anew IB
   refine .inr (.inl ⟨rfl,PP t g',(FG.fresh h' hs).fb,?_⟩)
   rcases b' with ⟨q,r⟩ | r
   ·omega
   ·unfold cX at r; omega
  ·rw [if_neg c]
   unfold IB
   refine .inr (.inr (.inr (.inl ⟨rfl,?_⟩)))
   rcases b' with ⟨q,r⟩ | r
   ·exact .inl ⟨fun l z h0 h1=>vk (q l z h0 h1),by simp only; omega⟩
   ·exact .inr (by unfold cX at r ⊢; simp only; omega)
 ·-- it asks
  have b':c9 t≤N:=sD 9 e _ (by refine ⟨?_,?_,fun _ h=>h,?_,?_,?_,?_,?_,?_,?_,?_⟩<;>(intro q; omega))
  have lK:cd t x.i (4+0):=jk (by omega) (by omega) (.inr ⟨i0.1,i0.2.1⟩)
  have hn:aN t x.i 0=az t x.i (4+0):=gI hs (by omega) (by omega) _
  obtain ⟨q1,q2⟩:=fZ L lK
  rw [← hv] at q1 q2
  have au:x.step t s=(if Mk (g.c x.i (4+0)) then ({ x with ar:=x.ref }:aj).anew t 10 else { x with ar:=x.ref,line:=11 },s.load (az t x.i (4+0))):=by
   unfold aj.step
   simp only [e]
   unfold aj.l89
   rw [hn,q1]
   rfl
  have xP:=ug hs h'
  rw [au]
  by_cases c:Mk (g.c x.i (4+0))
  ·rw [if_pos c]
   unfold aj.anew IB
   exact .inr (.inl ⟨rfl,PP t g',(FG.fresh h' hs).fb,by omega⟩)
  ·rw [if_neg c]
   unfold IB
   exact .inl ⟨rfl,by omega⟩
 ·-- it aoN
  have au:x.step t s=x.dp t s 10 11:=by unfold aj.step; simp [e]
  have b':∃ M,FB t g x.find M∧M+6≤N:=sD 10 e _ (by refine ⟨?_,fun _ h=>h,?_,?_,?_,?_,?_,?_,?_,?_,?_⟩<;>(intro q; omega))
  obtain ⟨M,q,r⟩:=b'
  have n9:=k.n9 (.inr (.inr e))
  have hf:=FA
  rw [au] at hf ⊢
  unfold aj.dp at hf ⊢
  by_cases h9:(x.find.step t s).1.line=9
  ·simp only [h9,if_true]
   unfold IB
   have:=q.pos h fi n9
   exact .inl ⟨rfl,by omega⟩
  ·simp only [h9,if_false] at hf ⊢
   have dU:=hf (by simp [e])
   have V:=(FE L h hv hk fi (by omega) n9 q).resolve_left h9
   rw [← dU] at V
   unfold IB
   exact .inr (.inl ⟨rfl,M - 1,V,by omega⟩)
end
def Cm.eo (t:TW) (x:Cm) (c:Nat):Cm :=
 { x with s:=((x.cl c).step (lk c) t x.s).2,cl:=aI x.cl c ((x.cl c).step (lk c) t x.s).1,F:=aI x.F c (x.F c++[gL t x.s]),o:=if ((x.cl c).step (lk c) t x.s).1.line=99 then aI x.o c (-1) else x.o,got:=if ((x.cl c).step (lk c) t x.s).1.line=99∧((x.cl c).step (lk c) t x.s).1.err=0∧c<3 then x.got++[((x.cl c).step (lk c) t x.s).1.job] else x.got }
section
variable {t:TW} {N:Nat} {K H:Int→Int} {x y:Cm} {g g':Sh} {c d:Nat} {i j v l p:Int} {s s':MS} {z:ai} {M:List Int}
theorem TA (hs:t.sound) (hc:g.c=vw t s) (hr:∀ i,0≤i→i<t.size→aF t.size (g.rf i)=i):∀ (M:List Int) (k:Nat) (p:Int),iC g.c g.rf l p M→(∀ i∈M,0≤i∧i<t.size)→M.length≤k→oP t s l k (aF t.size (g.c p (4+l)))=M
 | [],k,p,h,hb,hk=>by
  have:um (g.c p (4+l))=0:=h
  rw [← SJ,this,KF hs]
  cases k<;>simp [oP]
 | i::M,0,p,h,hb,hk=>by simp at hk
 | i::M,k+1,p,h,hb,hk=>by
  have b:=hb i (by simp)
  rw [← SJ,h.1,hr i b.1 b.2]
  unfold oP
  rw [if_neg (by omega)]
  have:=TA hs hc hr M k i h.2 (fun j hj=>hb j (by simp [hj])) (by simpa using hk)
  rw [hc] at this
  rw [this]
theorem acq (hs:t.sound) (h:aP t g) (hc:g.c=vw t s) (h0:0≤l) (h1:l<t.ay):CF t s l=g.C l:=by
 have hb:∀ i∈g.C l,0≤i∧i<t.size:=fun i hi=>by have:=h.bo _ _ (h.jl l i h0 h1 hi); exact ⟨this.1,this.2.1⟩
 have hn:=(List.nodup_cons.1 (h.nodup h0 h1)).2
 have z:=hs.2.2.1
 have:=TA hs hc (fun i a b=>(h.rf i a b).1) (g.C l) t.size.toNat (-1) (h.oM l h0 h1) hb (FH _ _ hn fun i hi=>by have:=hb i hi; omega)
 unfold CF
 rw [hc] at this
 exact this
theorem TB (hs:t.sound) (h:aP t g) (hc:g.c=vw t s):Ab t s=(g.C 0).filter fun i=>decide (g.c i 4<aM):=by
 unfold Ab
 rw [acq hs h hc (by omega) (by have:=hs.1; omega),hc]
theorem acr (hs:t.sound) (h:aP t g) (hc:g.c=vw t s) (e:g.C 0=[]):gL t s= -1:=by
 unfold gL; rw [TB hs h hc,e]; rfl
theorem acs (hs:t.sound) (h:aP t g) (hc:g.c=vw t s) (e:g.C 0=j::M) (hm:¬ Mk (g.c j 4)):gL t s=j:=by
 unfold gL; rw [TB hs h hc,e,List.filter_cons_of_pos (by unfold Mk at hm; simpa using hm)]
theorem ai.z8 (z:ai) (look:Bool) (t:TW) (s:MS) (h11:z.line≠11) (h12:z.line≠12) (h99:z.line≠99) (hl:cI look z.line):(z.step look t s).1.line≠12∧(look=false→(z.step look t s).1.line=99→(z.step look t s).1.err=15):=by
 refine z.ind (P:=fun y=>y.1.line≠12∧(look=false→y.1.line=99→y.1.err=15)) look t s ?_ ?_ ?_ ?_ ?_ ?_ ?_ ?_ ?_ ?_ ?_ ?_ ?_ ?_
 all_goals
  intros
  first | omega | skip
 ·simp only [ai.l1]; split<;>simp
 ·simp only [ai.l2]; repeat' split<;>simp
 ·simp [ai.l3]
 ·simp only [ai.l4,ai.below]; repeat' split<;>simp
 ·simp only [ai.l5,ai.below]; repeat' split<;>simp
 ·simp only [ai.l6,ai.below]; repeat' split<;>simp
 ·simp only [ai.l7]; repeat' split<;>simp
 ·simp only [ai.l8]; repeat' split<;>simp
 ·simp [ai.l9]
 ·cases look<;>simp [ai.l91]
 ·simp only [ai.l10]; repeat' split<;>simp
 ·exact ⟨h12,fun _ e=>absurd e h99⟩
end
section
variable {t:TW} {N:Nat} {K H:Int→Int} {x y:Cm} {g g':Sh} {c d:Nat} {i j v l p:Int} {s s':MS} {z:ai} {M:List Int}
structure StC (t:TW) (x:Cm) (c:Nat) (y:Cm):Prop where
 s:y.s=((x.cl c).step (lk c) t x.s).2
 ins:y.ins=x.ins
 cc:y.cl c=((x.cl c).step (lk c) t x.s).1
 co:∀ d,d≠c→y.cl d=x.cl d
 na:y.na=x.na
 Fc:y.F c=x.F c++[gL t x.s]
 Fo:∀ d,d≠c→y.F d=x.F d
 oc:0≤y.o c→((x.cl c).step (lk c) t x.s).1.line≠99
 oo:∀ d,d≠c→y.o d=x.o d
 on:((x.cl c).step (lk c) t x.s).1.line≠99→y.o c=x.o c
 got:y.got=if ((x.cl c).step (lk c) t x.s).1.line=99∧((x.cl c).step (lk c) t x.s).1.err=0∧c<3 then x.got++[((x.cl c).step (lk c) t x.s).1.job] else x.got
theorem uj (t:TW) (x:Cm) (c:Nat):StC t x c (x.eo t c):=by
 refine ⟨rfl,rfl,dG _ _ _,fun d h=>cN _ _ h,rfl,dG _ _ _,fun d h=>cN _ _ h,fun h e=>?_,fun d h=>?_,fun h=>?_,rfl⟩
 ·have:(x.eo t c).o c= -1:=by
   show (if _ then _ else _:Nat→Int) c=_
   rw [if_pos e]; exact dG _ _ _
  omega
 ·show (if _ then _ else _:Nat→Int) d=_
  split
  ·exact cN _ _ h
  ·rfl
 ·show (if _ then _ else _:Nat→Int) c=_
  rw [if_neg h]
theorem bJ.KZ (I:bJ t N K H x g) (L:Pl t N):(∀ j,j∈x.F c→j∈(x.eo t c).F c)∧(-1∈x.F c→ -1∈(x.eo t c).F c)∧(∀ j B,g.C 0=j::B→¬ Mk (g.c j 4)→j∈(x.eo t c).F c)∧(g.C 0=[]→ -1∈(x.eo t c).F c):=by
 have e:=(uj t x c).Fc
 rw [e]
 exact ⟨fun j h=>List.mem_append_left _ h,fun h=>List.mem_append_left _ h,fun j B e hm=>List.mem_append_right _ (by rw [acs L.snd I.inv I.c e hm]; simp),fun e=>List.mem_append_right _ (by rw [acr L.snd I.inv I.c e]; simp)⟩
theorem bJ.TC (I:bJ t N K H x g) (L:Pl t N) (c1:1≤c) (c3:c≤3) (h0:0≤x.o c) (e2:(x.cl c).line≠11) (e3:(x.cl c).line≠12) (G:gK t g (fun _=>True) (fun j=>j∈(x.eo t c).F c) (-1∈(x.eo t c).F c) (lk c) (x.cl c) ((x.cl c).step (lk c) t x.s) g'):bJ t N K H (x.eo t c) g':=by
 obtain ⟨k,k99,dR⟩:=I.cl c c1 c3 h0
 have S:=uj t x c
 obtain ⟨y,hy⟩:∃ y,y=x.eo t c:=⟨_,rfl⟩
 rw [← hy] at S G ⊢
 obtain ⟨S1,S2,S3,S4,S5,S6,S7,S8,S9,S10,S11⟩:=S
 obtain ⟨m1,m2⟩:=(x.cl c).z8 (lk c) t x.s e2 e3 k99 k.line
 have h':=G.inv
 have gd:=G.gd
 obtain ⟨o1,o2,o3,o4⟩:=gd.old
 have kG:=dR.step L.snd L.gm I.ok
 have lw:=Lw.cl (s:=x.s) L (x:=x.cl c) (look:=lk c) e3
 have yg:y.got=x.got:=by
  rw [S11,if_neg]
  rintro ⟨a,b,d⟩
  have:=m2 (Aa (by omega)) a
  omega
 have y0:y.o 0=x.o 0:=S9 0 (by omega)
 have hl:∀ i,y.dH i↔x.dH i:=fun i=>by unfold Cm.dH; rw [S5,y0,S2]
 have ha:∀ i,y.add i↔x.add i:=fun i=>by
  unfold Cm.add
  rw [yg]
  constructor
  ·rintro (h | ⟨d,hd,h1,h2,h3⟩)
   ·exact .inl h
   ·by_cases e:d=c
    ·subst e; rw [S3] at h2; exact absurd h2 m1
    ·rw [S9 d e] at h1; rw [S4 d e] at h2 h3; exact .inr ⟨d,hd,h1,h2,h3⟩
  ·rintro (h | ⟨d,hd,h1,h2,h3⟩)
   ·exact .inl h
   ·by_cases e:d=c
    ·subst e; exact absurd h2 e3
    ·exact .inr ⟨d,hd,by rw [S9 d e]; exact h1,by rw [S4 d e]; exact ⟨h2,h3⟩⟩
 have FI:∀ d,d=1∨d=2→0≤y.o d→bY (y.cl d)→(d=c∧((bY (x.cl c)∧(y.cl d).i=(x.cl c).i)∨((y.cl d).i=(x.cl c).i∧¬ Mk (g.c (x.cl c).i 4))))∨(d≠c∧bY (x.cl d)∧(y.cl d).i=(x.cl d).i∧0≤x.o d):=fun d hd h1 hm=>by
  by_cases e:d=c
  ·subst e
   rw [S3] at hm ⊢
   exact .inl ⟨rfl,G.cj hm (Aa hd)⟩
  ·rw [S9 d e] at h1; rw [S4 d e] at hm ⊢
   exact .inr ⟨e,hm,rfl,h1⟩
 have m40:∀ {i},Mk (g.c i (4+0))→Mk (g.c i 4):=fun h=>by simpa using h
 refine ⟨?_,?_,h',by rw [S1]; exact G.c,fun i h0 h1=>?_,fun i h0 h1=>(o3 i).trans (I.rf i h0 h1),by rw [S5]; exact I.na,fun l i hb=>?_,fun i h1 h2 h3=>?_,fun i h1 hb=>?_,fun q=>?_,fun d d1 d3 d0=>?_,by rw [yg]; exact I.nodup,fun j hj=>?_,fun d hd h1 hm=>?_,fun h1 h2 m1 m2=>?_,fun d hd h1 h2=>?_,fun i h0 h1=>?_,fun i hi=>?_,fun q e=>?_,fun d hd h1 h2=>?_⟩
 ·rw [S1,lw.len]; exact I.len
 ·rw [S1]; exact kG.2
 ·obtain ⟨a1,a2,a3,a4⟩:=I.nd i h0 h1
  exact ⟨Ti gd h' a1,(G.lo i 0 (by omega)).trans a2,(G.lo i 1 (by omega)).trans a3,(G.lo i 2 (by omega)).trans a4⟩
 ·rw [S5]; rw [G.born] at hb; exact I.bo l i hb
 ·rw [S5,y0] at *; rw [G.born]; exact I.bi i h1 h2 h3
 ·rw [S5,y0]; exact I.bz i h1 ((o2 i h1 (by omega)).1 hb)
 ·rw [y0] at q
  obtain ⟨n1,n2,kk,k0,K0⟩:=I.ins q
  rw [S5,S2]
  exact ⟨n1,n2,kk.run gd h' (fun j e=>by omega) (by omega),k0,K0⟩
 ·by_cases e:d=c
  ·subst e
   rw [S3]
   exact ⟨G.loc,S8 d0,kG.1⟩
  ·rw [S9 d e] at d0
   rw [S4 d e,S7 d e]
   obtain ⟨a1,a2⟩:=I.cl d d1 d3 d0
   exact ⟨a1.run gd h',a2⟩
 ·rw [yg] at hj
  exact CD gd h' (I.got j hj).1 (I.got j hj).2
 ·rw [yg]
  rcases FI d hd h1 hm with ⟨rfl,(⟨a,b⟩ | ⟨a,b⟩)⟩ | ⟨_,a,b,e⟩
  ·rw [b]; exact I.min d hd h0 a
  ·rw [a]; exact fun hg=>b (m40 (I.got _ hg).2)
  ·rw [b]; exact I.min d hd e a
 ·rcases FI 1 (.inl rfl) h1 m1 with ⟨e1,a⟩ | ⟨e1,a1,b1,f1⟩
  ·rcases FI 2 (.inr rfl) h2 m2 with ⟨e2,b⟩ | ⟨e2,a2,b2,f2⟩
   ·omega
   ·rw [b2]
    subst e1
    rcases a with ⟨a,b⟩ | ⟨a,b⟩
    ·rw [b]; exact I.two h0 f2 a a2
    ·rw [a]; intro e; exact b (by rw [e]; exact m40 (I.vN (.inr rfl) f2 a2).2)
  ·rcases FI 2 (.inr rfl) h2 m2 with ⟨e2,b⟩ | ⟨e2,a2,b2,f2⟩
   ·rw [b1]
    subst e2
    rcases b with ⟨a,b⟩ | ⟨a,b⟩
    ·rw [b]; exact I.two f1 h0 a1 a
    ·rw [a]; intro e; exact b (by rw [← e]; exact m40 (I.vN (.inl rfl) f1 a1).2)
   ·rw [b1,b2]; exact I.two f1 f2 a1 a2
 ·rw [hl]
  by_cases e:d=c
  ·subst e; rw [S3] at h2; exact absurd h2 m1
  ·rw [S9 d e] at h1; rw [S4 d e] at h2 ⊢; exact I.c12 d hd h1 h2
 ·rw [vM (hl i) (ha i),G.lo i 3 (by omega)]; exact I.hold i h0 h1
 ·rw [ha] at hi
  obtain ⟨a1,a2⟩:=I.Tf hi
  exact Tg gd h' a1 a2 (I.uf i hi)
 ·rw [y0] at q; rw [S2] at e ⊢; exact I.ri q e
 ·by_cases e:d=c
  ·subst e; rw [S3] at h2; exact absurd h2 m1
  ·rw [S9 d e] at h1; rw [S4 d e] at h2 ⊢; exact I.rc d hd h1 h2
end
section
variable {t:TW} {N:Nat} {K H:Int→Int} {x y:Cm} {g g':Sh} {c d:Nat} {i j v l p:Int} {s s':MS} {z:ai} {M:List Int}
theorem CJ (hs:t.sound) (h:0≤i∧i<t.size):i % 65536=i:=by have:=hs.2.2.2.1; omega
theorem bJ.TD (I:bJ t N K H x g) (L:Pl t N) (hc:c=1∨c=2) (h0:0≤x.o c) (h11:(x.cl c).line=11):∃ g',bJ t N K H (x.eo t c) g':=by
 obtain ⟨k,k99,dR⟩:=I.cl c (by omega) (by omega) h0
 have S:=uj t x c
 obtain ⟨y,hy⟩:∃ y,y=x.eo t c:=⟨_,rfl⟩
 rw [← hy] at S ⊢
 obtain ⟨S1,S2,S3,S4,S5,S6,S7,S8,S9,S10,S11⟩:=S
 have fc:bY (x.cl c):=by unfold bY; omega
 obtain ⟨b0,K1⟩:=I.vN hc h0 fc
 have bo:=I.inv.bo _ _ b0
 have i0:0≤(x.cl c).i∧(x.cl c).i<t.size:=⟨bo.1,bo.2.1⟩
 have hP:cd t (x.cl c).i 3:=.inr ⟨i0.1,i0.2,by omega,by have:=L.snd.1; omega⟩
 obtain ⟨q1,q2⟩:=SL (I.sv L) hP 18446744073709551615
 have hh:=I.hold (x.cl c).i i0.1 i0.2
 have na:¬ x.add (x.cl c).i:=by
  rintro (h | ⟨d,hd,h1,h2,h3⟩)
  ·exact I.min c hc h0 fc h
  ·have m2:bY (x.cl d):=by unfold bY; omega
   rcases hc with rfl | rfl<;>rcases hd with rfl | rfl
   ·omega
   ·exact I.two h0 h1 fc m2 h3.symm
   ·exact I.two h1 h0 m2 fc h3
   ·omega
 obtain ⟨v,hv⟩:∃ v,v=g.c (x.cl c).i 3:=⟨_,rfl⟩
 have Ad:(v=1↔x.dH (x.cl c).i)∧1≤v∧v≤2:=by
  rw [hv,hh]
  by_cases a:x.dH (x.cl c).i
  ·rw [Tn a na]; simp [a]
  ·rw [KT a na]; simp [a]
 obtain ⟨Ad,KU⟩:=Ad
 rw [← I.c,← hv,Tl KU] at q1 q2
 have au:(x.cl c).step (lk c) t x.s=(x.cl c).l11 t x.s:=by unfold ai.step; simp [h11]
 have P3:zV t g (x.cl c).i 3 (v - 1):=⟨i0.1,⟨by omega,by omega⟩,.inr (.inr rfl)⟩
 have h':=I.inv.put P3
 have gd:Gd t (-1) g (g.put (x.cl c).i 3 (v - 1)):=Gd.one I.inv fun own kn _ _=>cC.put I.inv P3 (.inr ⟨rfl,b0⟩)
 have lo:∀ i p,p≠3→(g.put (x.cl c).i 3 (v - 1)).c i p=g.c i p:=fun i p hp=>g.c.dg _ hp
 have kG:=dR.step L.snd L.gm I.ok
 have lw:=Lw.cl (s:=x.s) L (x:=x.cl c) (look:=lk c) (by omega)
 have ex:((x.cl c).step (lk c) t x.s).1=if v=1 then { x.cl c with ar:=(x.cl c).a,line:=12,ret:=.looks } else { x.cl c with ar:=(x.cl c).a,line:=99 }:=by
  rw [au]; unfold ai.l11; simp only; rw [q1]
  by_cases e:v=1
  ·rw [if_pos (by omega),if_pos e]
  ·rw [if_neg (by omega),if_neg e]
 have K2:(x.cl c).job=(x.cl c).i:=by
  rw [k.job (by omega),(I.nd _ i0.1 i0.2).2.2.1,CJ L.snd i0]
 have CK:(x.cl c).err=0:=k.err k99
 have yg:y.got=if v=1 then x.got else x.got++[(x.cl c).i]:=by
  rw [S11,ex]
  by_cases e:v=1
  ·simp [e]
  ·simp only [if_neg e]
   rw [if_pos ⟨trivial,CK,by omega⟩,K2]
 have yo:0≤y.o c→v=1:=fun h=>by
  have:=S8 h
  rw [ex] at this
  exact Classical.byContradiction fun e=>this (by rw [if_neg e])
 have K3:v=1→y.o c=x.o c:=fun e=>S10 (by rw [ex,if_pos e]; simp)
 have y12:v=1→(y.cl c).line=12∧(y.cl c).i=(x.cl c).i:=fun e=>by rw [S3,ex,if_pos e]; exact ⟨rfl,rfl⟩
 have y0:y.o 0=x.o 0:=S9 0 (by omega)
 have hl:∀ i,y.dH i↔x.dH i:=fun i=>by unfold Cm.dH; rw [S5,y0,S2]
 have ha:∀ i,y.add i↔(x.add i∨i=(x.cl c).i):=fun i=>by
  unfold Cm.add
  constructor
  ·rintro (h | ⟨d,hd,h1,h2,h3⟩)
   ·rw [yg] at h
    by_cases e:v=1
    ·rw [if_pos e] at h; exact .inl (.inl h)
    ·rw [if_neg e] at h
     rcases List.mem_append.1 h with h | h
     ·exact .inl (.inl h)
     ·exact .inr (by simpa using h)
   ·by_cases e:d=c
    ·subst e
     exact .inr (by rw [← h3,(y12 (yo h1)).2])
    ·rw [S9 d e] at h1; rw [S4 d e] at h2 h3; exact .inl (.inr ⟨d,hd,h1,h2,h3⟩)
  ·rintro ((h | ⟨d,hd,h1,h2,h3⟩) | h)
   ·refine .inl ?_
    rw [yg]; split
    ·exact h
    ·exact List.mem_append_left _ h
   ·have e:d≠c:=by rintro rfl; omega
    exact .inr ⟨d,hd,by rw [S9 d e]; exact h1,by rw [S4 d e]; exact ⟨h2,h3⟩⟩
   ·by_cases e:v=1
    ·exact .inr ⟨c,hc,by rw [K3 e]; exact h0,(y12 e).1,by rw [h]; exact (y12 e).2⟩
    ·refine .inl ?_
     rw [yg,if_neg e,h]
     simp
 have g11:=k.g11 h11
 have Fm:v=1→¬ g.bz (x.cl c).i:=fun e hb=>by
  have a:=Ad.1 e
  obtain ⟨b1,b2⟩:=I.bz _ i0.1 hb
  have b3:x.ins.line=12:=Classical.byContradiction fun q=>a.2 ⟨b1,b2,q⟩
  obtain ⟨n1,n2,kk,_,_⟩:=I.ins b1
  rw [show (x.cl c).i=x.ins.i by omega] at hb
  exact (kk.z11 (.inr (.inl b3))).1 hb
 refine ⟨g.put (x.cl c).i 3 (v - 1),⟨?_,?_,h',?_,fun i h0 h1=>?_,I.rf,by rw [S5]; exact I.na,by rw [S5]; exact I.bo,fun i h1 h2 h3=>?_,fun i h1 hb=>?_,fun q=>?_,fun d d1 d3 d0=>?_,?_,fun j hj=>?_,fun d hd h1 hm=>?_,fun h1 h2 m1 m2=>?_,fun d hd h1 h2=>?_,fun i h1 h2=>?_,fun i hi=>?_,fun q e=>?_,fun d hd h1 h2=>?_⟩⟩
 ·rw [S1,lw.len]; exact I.len
 ·rw [S1]; exact kG.2
 ·rw [S1,au]; show _=vw t (x.s.add (az t (x.cl c).i 3) 18446744073709551615); rw [q2]; rfl
 ·rw [lo _ _ (by decide),lo _ _ (by decide),lo _ _ (by decide)]; exact I.nd i h0 h1
 ·rw [S5,y0] at *; exact I.bi i h1 h2 h3
 ·rw [S5,y0]; exact I.bz i h1 hb
 ·rw [y0] at q
  obtain ⟨n1,n2,kk,k0,K0⟩:=I.ins q
  rw [S5,S2]
  exact ⟨n1,n2,kk.run gd h' (fun j e=>by omega) (by omega),k0,K0⟩
 ·by_cases e:d=c
  ·subst e
   have e1:=yo d0
   rw [S3,ex,if_pos e1]
   have r:=k.run gd h'
   have gg:Gone t (g.put (x.cl d).i 3 (v - 1)) (x.cl d).i:=g11.resolve_left (Fm e1)
   refine ⟨⟨k.snd,.inr (.inr (.inr (.inr (.inr (.inr ⟨Aa hc,by simp⟩))))),fun _=>CK,fun _ _=>r.nd (by omega) (by omega),by simp,by simp,by simp,by simp,by simp,fun _=>?_,fun _=>r.key (by omega),fun _=>r.job (by omega),by simp,by simp,fun _=>⟨Fm e1,gg⟩,by simp,by simp⟩,by simp,?_⟩
   ·have:=r.own fc
    exact ⟨by rw [S6]; exact List.mem_append_left _ this.1,this.2⟩
   ·have:=kG.1
    rw [ex,if_pos e1] at this
    exact this
  ·rw [S9 d e] at d0
   rw [S4 d e,S7 d e]
   obtain ⟨a1,a2⟩:=I.cl d d1 d3 d0
   exact ⟨a1.run gd h',a2⟩
 ·rw [yg]; split
  ·exact I.nodup
  ·exact List.nodup_append.2 ⟨I.nodup,by simp,fun a ha b hb e=>by
    simp at hb; subst hb e; exact I.min c hc h0 fc ha⟩
 ·have:j∈x.got∨j=(x.cl c).i:=by
   rw [yg] at hj
   split at hj
   ·exact .inl hj
   ·rcases List.mem_append.1 hj with h | h
    ·exact .inl h
    ·exact .inr (by simpa using h)
  rcases this with h | rfl
  ·exact CD gd h' (I.got j h).1 (I.got j h).2
  ·exact CD gd h' b0 K1
 ·by_cases e:d=c
  ·subst e
   have e1:=yo h1
   rw [yg,if_pos e1,(y12 e1).2]
   exact I.min d hc h0 fc
  ·rw [S9 d e] at h1; rw [S4 d e] at hm ⊢
   have a:=I.min d hd h1 hm
   have b:(x.cl d).i≠(x.cl c).i:=by
    rcases hc with rfl | rfl<;>rcases hd with rfl | rfl
    ·exact absurd rfl e
    ·exact fun q=>I.two h0 h1 fc hm q.symm
    ·exact I.two h1 h0 hm fc
    ·exact absurd rfl e
   rw [yg]; split
   ·exact a
   ·simp [a,b]
 ·rcases hc with rfl | rfl
  ·rw [S9 2 (by decide)] at h2; rw [S4 2 (by decide)] at m2 ⊢
   rw [(y12 (yo h1)).2]
   exact I.two h0 h2 fc m2
  ·rw [S9 1 (by decide)] at h1; rw [S4 1 (by decide)] at m1 ⊢
   rw [(y12 (yo h2)).2]
   exact I.two h1 h0 m1 fc
 ·rw [hl]
  by_cases e:d=c
  ·subst e; rw [(y12 (yo h1)).2]; exact Ad.1 (yo h1)
  ·rw [S9 d e] at h1; rw [S4 d e] at h2 ⊢; exact I.c12 d hd h1 h2
 ·show g.c.set _ _ _ _ _=_
  by_cases e:i=(x.cl c).i
  ·rw [e,Vw.oL]
   have a:y.add (x.cl c).i:=(ha _).2 (.inr rfl)
   by_cases l:x.dH (x.cl c).i
   ·rw [To ((hl _).2 l) a,Ad.2 l]; rfl
   ·have:v≠1:=fun q=>l (Ad.1 q)
    rw [Tm (fun q=>l ((hl _).1 q)) a]; omega
  ·rw [Vw.jO _ _ e,I.hold i h1 h2]
   exact (vM (hl i) ((ha i).trans ⟨fun q=>q.resolve_right e,.inl⟩)).symm
 ·rcases (ha i).1 hi with a | rfl
  ·exact I.uf i a
  ·exact g11
 ·rw [y0] at q; rw [S2] at e ⊢; exact I.ri q e
 ·by_cases e:d=c
  ·subst e
   rw [S3,ex,if_pos (yo h1)]
   intro R p e; cases e
  ·rw [S9 d e] at h1; rw [S4 d e] at h2 ⊢; exact I.rc d hd h1 h2
theorem bJ.TE (I:bJ t N K H x g) (L:Pl t N) (hc:c=1∨c=2) (h0:0≤x.o c) (h12:(x.cl c).line=12):bJ t N K H (x.eo t c) g:=by
 obtain ⟨k,k99,dR⟩:=I.cl c (by omega) (by omega) h0
 have S:=uj t x c
 obtain ⟨y,hy⟩:∃ y,y=x.eo t c:=⟨_,rfl⟩
 rw [← hy] at S ⊢
 obtain ⟨S1,S2,S3,S4,S5,S6,S7,S8,S9,S10,S11⟩:=S
 have fc:bY (x.cl c):=by unfold bY; omega
 obtain ⟨b0,K1⟩:=I.vN hc h0 fc
 have bo:=I.inv.bo _ _ b0
 have i0:0≤(x.cl c).i∧(x.cl c).i<t.size:=⟨bo.1,bo.2.1⟩
 have au:(x.cl c).step (lk c) t x.s=(x.cl c).l12 t x.s:=by unfold ai.step; simp [h12]
 obtain ⟨r1,r2,r3⟩:=Tj (s:=x.s) L i0 (I.rc c hc h0 h12)
 have kG:=dR.step L.snd L.gm I.ok
 have K2:(x.cl c).job=(x.cl c).i:=by
  rw [k.job (by omega),(I.nd _ i0.1 i0.2).2.2.1,CJ L.snd i0]
 have CK:(x.cl c).err=0:=k.err k99
 obtain ⟨ov,SA⟩:∃ ov,ov=((x.cl c).ret.step t (x.cl c).i x.s).1.over:=⟨_,rfl⟩
 have ex:((x.cl c).step (lk c) t x.s).1={ x.cl c with ar:=0,ret:=((x.cl c).ret.step t (x.cl c).i x.s).1,line:=if ov=true then 99 else 12 }:=by rw [au,SA]; rfl
 have yg:y.got=if ov=true then x.got++[(x.cl c).i] else x.got:=by
  rw [S11,ex]
  cases ov
  ·simp
  ·simp only [if_true]
   rw [if_pos ⟨trivial,CK,by omega⟩,K2]
 have yo:0≤y.o c→ov=false:=fun h=>by
  have:=S8 h
  rw [ex] at this
  cases ov
  ·rfl
  ·exact absurd rfl this
 have K3:ov=false→y.o c=x.o c:=fun e=>S10 (by rw [ex,e]; simp)
 have y12:ov=false→(y.cl c).line=12∧(y.cl c).i=(x.cl c).i:=fun e=>by rw [S3,ex,e]; exact ⟨rfl,rfl⟩
 have y0:y.o 0=x.o 0:=S9 0 (by omega)
 have hl:∀ i,y.dH i↔x.dH i:=fun i=>by unfold Cm.dH; rw [S5,y0,S2]
 have xa:x.add (x.cl c).i:=.inr ⟨c,hc,h0,h12,rfl⟩
 have ha:∀ i,y.add i↔x.add i:=fun i=>by
  constructor
  ·rintro (h | ⟨d,hd,h1,h2,h3⟩)
   ·rw [yg] at h
    split at h
    ·rcases List.mem_append.1 h with h | h
     ·exact .inl h
     ·have:i=(x.cl c).i:=by simpa using h
      rw [this]; exact xa
    ·exact .inl h
   ·by_cases e:d=c
    ·subst e
     rw [← h3,(y12 (yo h1)).2]; exact xa
    ·rw [S9 d e] at h1; rw [S4 d e] at h2 h3; exact .inr ⟨d,hd,h1,h2,h3⟩
  ·rintro (h | ⟨d,hd,h1,h2,h3⟩)
   ·refine .inl ?_
    rw [yg]; split
    ·exact List.mem_append_left _ h
    ·exact h
   ·by_cases e:d=c
    ·subst e
     rcases ho:ov with _ | _
     ·exact .inr ⟨d,hd,by rw [K3 ho]; exact h0,(y12 ho).1,by rw [(y12 ho).2]; exact h3⟩
     ·refine .inl ?_
      rw [yg,if_pos ho,h3]
      simp
    ·exact .inr ⟨d,hd,by rw [S9 d e]; exact h1,by rw [S4 d e]; exact ⟨h2,h3⟩⟩
 refine ⟨by rw [S1,au]; exact r1.trans I.len,by rw [S1]; exact kG.2,I.inv,by rw [S1,au]; exact I.c.trans r3.symm,I.nd,I.rf,by rw [S5]; exact I.na,by rw [S5]; exact I.bo,fun i h1 h2 h3=>?_,fun i h1 hb=>?_,fun q=>?_,fun d d1 d3 d0=>?_,?_,fun j hj=>?_,fun d hd h1 hm=>?_,fun h1 h2 m1 m2=>?_,fun d hd h1 h2=>?_,fun i h1 h2=>?_,fun i hi=>?_,fun q e=>?_,fun d hd h1 h2=>?_⟩
 ·rw [S5,y0] at *; exact I.bi i h1 h2 h3
 ·rw [S5,y0]; exact I.bz i h1 hb
 ·rw [y0] at q
  rw [S5,S2]
  exact I.ins q
 ·by_cases e:d=c
  ·subst e
   have e1:=yo d0
   have o1:=kG.1
   rw [S3,ex,e1]
   rw [ex,e1] at o1
   refine ⟨⟨k.snd,.inr (.inr (.inr (.inr (.inr (.inr ⟨Aa hc,by simp⟩))))),fun _=>CK,fun _ _=>k.nd (by omega) (by omega),by simp,by simp,by simp,by simp,by simp,fun _=>?_,fun _=>k.key (by omega),fun _=>k.job (by omega),by simp,by simp,fun _=>k.g12 h12,by simp,by simp⟩,by simp,o1⟩
   have:=k.own fc
   exact ⟨by rw [S6]; exact List.mem_append_left _ this.1,this.2⟩
  ·rw [S9 d e] at d0
   rw [S4 d e,S7 d e]
   exact I.cl d d1 d3 d0
 ·rw [yg]; split
  ·exact List.nodup_append.2 ⟨I.nodup,by simp,fun a ha b hb e=>by
    simp at hb; subst hb e; exact I.min c hc h0 fc ha⟩
  ·exact I.nodup
 ·have:j∈x.got∨j=(x.cl c).i:=by
   rw [yg] at hj
   split at hj
   ·rcases List.mem_append.1 hj with h | h
    ·exact .inl h
    ·exact .inr (by simpa using h)
   ·exact .inl hj
  rcases this with h | rfl
  ·exact I.got j h
  ·exact ⟨b0,K1⟩
 ·by_cases e:d=c
  ·subst e
   have e1:=yo h1
   rw [yg,e1,if_neg (by simp),(y12 e1).2]
   exact I.min d hc h0 fc
  ·rw [S9 d e] at h1; rw [S4 d e] at hm ⊢
   have a:=I.min d hd h1 hm
   have b:(x.cl d).i≠(x.cl c).i:=by
    rcases hc with rfl | rfl<;>rcases hd with rfl | rfl
    ·exact absurd rfl e
    ·exact fun q=>I.two h0 h1 fc hm q.symm
    ·exact I.two h1 h0 hm fc
    ·exact absurd rfl e
   rw [yg]; split
   ·simp [a,b]
   ·exact a
 ·rcases hc with rfl | rfl
  ·rw [S9 2 (by decide)] at h2; rw [S4 2 (by decide)] at m2 ⊢
   rw [(y12 (yo h1)).2]
   exact I.two h0 h2 fc m2
  ·rw [S9 1 (by decide)] at h1; rw [S4 1 (by decide)] at m1 ⊢
   rw [(y12 (yo h2)).2]
   exact I.two h1 h0 m1 fc
 ·rw [hl]
  by_cases e:d=c
  ·subst e; rw [(y12 (yo h1)).2]; exact I.c12 d hc h0 h12
  ·rw [S9 d e] at h1; rw [S4 d e] at h2 ⊢; exact I.c12 d hd h1 h2
 ·rw [vM (hl i) (ha i)]; exact I.hold i h1 h2
 ·exact I.uf i ((ha i).1 hi)
 ·rw [y0] at q; rw [S2] at e ⊢; exact I.ri q e
 ·by_cases e:d=c
  ·subst e
   rw [S3,ex]
   exact ue.step i0 (I.rc d hc h0 h12)
  ·rw [S9 d e] at h1; rw [S4 d e] at h2 ⊢; exact I.rc d hd h1 h2
theorem bJ.eo (I:bJ t N K H x g) (L:Pl t N) (c1:1≤c) (c3:c≤3) (h0:0≤x.o c):∃ g',bJ t N K H (x.eo t c) g':=by
 have k:=(I.cl c c1 c3 h0).1
 by_cases e1:(x.cl c).line=11
 ·have:c≠3:=by rintro rfl; have:=k.my (by omega); simp [lk] at this
  exact I.TD L (by omega) h0 e1
 by_cases e2:(x.cl c).line=12
 ·have:c≠3:=by rintro rfl; have:=k.my (by omega); simp [lk] at this
  exact ⟨g,I.TE L (by omega) h0 e2⟩
 obtain ⟨p1,p2,p3,p4⟩:=I.KZ L (c:=c)
 obtain ⟨g',G⟩:=KR (I.sv L) I.inv I.c (fun _ _ _ _ _=>trivial) k p1 p2 p3 p4 (I.cl c c1 c3 h0).2.1 e1 e2
 exact ⟨g',I.TC L c1 c3 h0 e1 e2 G⟩
end
end Go.Proofs.YtkhlabammcghbaaGreat.Lift
