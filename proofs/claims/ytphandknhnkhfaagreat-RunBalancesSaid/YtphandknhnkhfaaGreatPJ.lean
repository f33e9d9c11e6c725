import Derived.Test.YtphandknhnkhfaaGreatPI
set_option linter.unusedVariables false
set_option linter.unusedSimpArgs false
set_option maxRecDepth 20000
namespace Go.Proofs.YtphandknhnkhfaaGreat.Lift
open Go Go.Proofs.YtphandknhnkhfaaGreat.Gh Go.Proofs
structure Sm (t:TW) (N:Nat) (tp:Int) (P:Int→Int) (s:MS):Prop where
 len:s.W.length=N
 ok:s.ok
 uv:0≤tp∧tp≤t.size
 top:s.aI t.top=(if tp<t.size then tp+1 else 0)+tp*65536
 links:∀ i,0≤i→i<t.size→s.aI (t.links+i)=if i+1=t.size then 0 else i+2
 eT:∀ i,0≤i→i<t.size→s.aI (t.u6+i)=1
 e:s.aI t.u9=0
 pins:∀ c,0≤c→c<t.u11→s.aI (t.aW c)=P c
def mN (P:Int→Int) (c v:Int):Int→Int:=fun x=>if x=c then v else P x
section
variable {t:TW} {s s':MS} {a v tp c k:Int} {P:Int→Int} {N:Nat}
theorem Sm.to (h:Sm t N tp P s) (L:Pl t N) (l:Lw t s s') (o:s'.ok):Sm t N tp P s':=by
 have e1:=L.cn; have z:=L.snd.2.2.1; have u:=L.u11; have e2:=L.links; have e3:=L.u6; have e4:=L.u9; have e5:=L.top
 refine ⟨l.len.trans h.len,o,h.uv,?_,fun i h0 h1=>?_,fun i h0 h1=>?_,?_,fun c h0 h1=>?_⟩
 ·rw [l.low _ (by omega)]; exact h.top
 ·rw [l.low _ (by omega)]; exact h.links i h0 h1
 ·rw [l.low _ (by omega)]; exact h.eT i h0 h1
 ·rw [l.low _ (by omega)]; exact h.e
 ·rw [l.low _ (L.aW ⟨h0,h1⟩).2.2]; exact h.pins c h0 h1
theorem Sm.load (h:Sm t N tp P s) (L:Pl t N) (a:Int):Sm t N tp P (s.load a) :=
 h.to L ⟨zF _ _,fun b _=>vN s a b⟩ (h.ok.load a).1
theorem Sm.aW (h:Sm t N tp P s) (L:Pl t N) (hc:0≤c∧c<t.u11) (hv:U v):Sm t N tp (mN P c v) (s.store (t.aW c) v):=by
 have e1:=L.cn; have z:=L.snd.2.2.1; have u:=L.u11; have e2:=L.links; have e3:=L.u6; have e4:=L.u9; have e5:=L.top
 have pc:=L.aW hc
 have f:=L.fits
 have hn:=h.len
 have hi:0≤t.aW c∧t.aW c<s.W.length:=⟨pc.2.1,by have:=L.snd.1; omega⟩
 have st:=fun b=>oR hi v b
 refine ⟨(lT _ _ _).trans hn,h.ok.store _ hv,h.uv,?_,fun i h0 h1=>?_,fun i h0 h1=>?_,?_,fun c' h0 h1=>?_⟩
 ·rw [st,if_neg (by omega)]; exact h.top
 ·rw [st,if_neg (by omega)]; exact h.links i h0 h1
 ·rw [st,if_neg (by omega)]; exact h.eT i h0 h1
 ·rw [st,if_neg (by omega)]; exact h.e
 ·have pc':=L.aW ⟨h0,h1⟩
  rw [st]
  unfold mN
  by_cases e:c' =c
  ·subst e; rw [if_pos rfl,if_pos rfl]
  ·rw [if_neg (by omega),if_neg e]; exact h.pins c' h0 h1
theorem zP (t:TW) (s:MS) (a:Int):vw t (s.load a)=vw t s:=by funext i p; exact vN s a _
theorem adq (L:Pl t N) (hc:0≤c∧c<t.u11):vw t (s.store (t.aW c) v)=vw t s:=L.keep (L.aW hc).2.2 fun b hb=>zO hb
theorem SY (h:Sm t N tp P s) (L:Pl t N) {p:dG} (e:p.line=1):p.step t c s=(⟨2,0⟩,s.load t.u9):=by
 have e1:=L.cn; have z:=L.snd.2.2.1; have u:=L.u11; have e4:=L.u9; have f:=L.fits; have hn:=h.len; have:=L.snd.1
 have:(s.load t.u9).new=0:=by rw [uo (by omega)]; exact h.e
 unfold dG.step
 rw [if_pos e,this]; rfl
theorem SZ {p:dG} (e:p.line=2) (e2:p.now=0):p.step t c s=(⟨3,0⟩,s.store (t.aW c) 1):=by
 unfold dG.step
 rw [if_neg (by omega),if_pos e,e2]; rfl
theorem S0 (h:Sm t N tp P s) (L:Pl t N) {p:dG} (e:p.line=3) (e2:p.now=0):p.step t c s=(⟨9,0⟩,s.load t.u9):=by
 have e1:=L.cn; have z:=L.snd.2.2.1; have u:=L.u11; have e4:=L.u9; have f:=L.fits; have hn:=h.len; have:=L.snd.1
 have:(s.load t.u9).new=0:=by rw [uo (by omega)]; exact h.e
 unfold dG.step
 rw [if_neg (by omega),if_neg (by omega),if_pos e,this,e2]; rfl
theorem adr (h0:0≤k) (h1:k<t.size) (hz:t.size≤128):aH t.size (k+1+k*65536)=k:=by unfold aH; split<;>omega
theorem J6 (h:Sm t N tp P s) (L:Pl t N) (h1:tp<t.size) {j i w:Int}:(cG.pop (.go 1 w i j)).step t.ar s=(.pop (.go 2 (tp+1+tp*65536) tp j),s.load t.top):=by
 have e1:=L.cn; have z:=L.snd.2.2.1; have u:=L.u11; have e4:=L.top; have f:=L.fits; have hn:=h.len; have:=L.snd.1; have z2:=L.snd.2.2.2.1
 have:(s.load t.top).new=tp+1+tp*65536:=by rw [uo (by omega),h.top,if_pos h1]
 have e:aH t.size (tp+1+tp*65536)=tp:=adr h.uv.1 h1 z2
 simp only [cG.step,fo.step]
 rw [if_pos trivial,this,e,if_neg (by have:=h.uv; omega)]
theorem al2 (h:Sm t N tp P s) (L:Pl t N) (h1:tp<t.size) {j w:Int}:(cG.pop (.go 2 w tp j)).step t.ar s=(.pop (.go 3 w tp (if tp+1=t.size then -1 else tp+1)),s.load (t.links+tp)):=by
 have e1:=L.cn; have z:=L.snd.2.2.1; have u:=L.u11; have e4:=L.links; have f:=L.fits; have hn:=h.len; have:=L.snd.1; have z2:=L.snd.2.2.2.1; have uv:=h.uv.1
 have:(s.load (t.links+tp)).new=if tp+1=t.size then 0 else tp+2:=by rw [uo (by omega)]; exact h.links tp uv h1
 have e:aH t.size (if tp+1=t.size then 0 else tp+2)=if tp+1=t.size then -1 else tp+1:=by
  unfold aH
  split
  ·rename_i q; split<;>omega
  ·split<;>omega
 simp only [cG.step,fo.step]
 rw [if_neg (by decide),if_pos trivial,this,e]
theorem al3 (h:Sm t N tp P s) (L:Pl t N) (h1:tp<t.size):∃ s',(cG.pop (.go 3 (tp+1+tp*65536) tp (if tp+1=t.size then -1 else tp+1))).step t.ar s=(.gives tp,s')∧Sm t N (tp+1) P s' ∧vw t s' =vw t s:=by
 have e1:=L.cn; have z:=L.snd.2.2.1; have u:=L.u11; have e4:=L.top; have f:=L.fits; have hn:=h.len; have:=L.snd.1; have z2:=L.snd.2.2.2.1; have uv:=h.uv.1
 have e2:=L.links; have e3:=L.u6; have e5:=L.u9
 have hi:0≤t.top∧t.top<s.W.length:=by omega
 have e:s.aI t.top=tp+1+tp*65536:=by rw [h.top,if_pos h1]
 have hT:jt (if tp+1=t.size then -1 else tp+1) (tp+1+tp*65536)=(if tp+1<t.size then tp+1+1 else 0)+(tp+1)*65536:=by
  have q1:(tp+1+tp*65536) / 65536=tp:=by omega
  have q2:(tp+1) % 281474976710656=tp+1:=Int.emod_eq_of_lt (by omega) (by omega)
  unfold jt aU
  rw [q1,q2]
  split<;>split<;>omega
 have hU:U (jt (if tp+1=t.size then -1 else tp+1) (tp+1+tp*65536)):=by rw [hT]; unfold U; split<;>omega
 have hh:(s.bT t.top (tp+1+tp*65536) (jt (if tp+1=t.size then -1 else tp+1) (tp+1+tp*65536))).held=true:=by rw [Ka hi]; exact decide_eq_true e
 have at_:∀ b,(s.bT t.top (tp+1+tp*65536) (jt (if tp+1=t.size then -1 else tp+1) (tp+1+tp*65536))).aI b=if b=t.top then jt (if tp+1=t.size then -1 else tp+1) (tp+1+tp*65536) else s.aI b:=fun b=>by
  rw [EY hi]
  by_cases k:b=t.top
  ·rw [if_pos ⟨k,e⟩,if_pos k]
  ·rw [if_neg (fun q=>k q.1),if_neg k]
 refine ⟨s.bT t.top (tp+1+tp*65536) (jt (if tp+1=t.size then -1 else tp+1) (tp+1+tp*65536)),?_,⟨(acI _ _ _ _).trans hn,h.ok.bT _ _ hU,by omega,?_,fun i h0 h1=>?_,fun i h0 h1=>?_,?_,fun c' h0 h1=>?_⟩,L.keep (a:=t.top) (by omega) fun b hb=>by rw [at_,if_neg hb]⟩
 ·simp only [cG.step,fo.step]
  rw [if_neg (by decide),if_neg (by decide),hh]
  simp only [if_true]
  rw [if_neg (by omega)]
 ·rw [at_,if_pos rfl,hT]
 ·rw [at_,if_neg (by omega)]; exact h.links i h0 h1
 ·rw [at_,if_neg (by omega)]; exact h.eT i h0 h1
 ·rw [at_,if_neg (by omega)]; exact h.e
 ·have pc':=L.aW ⟨h0,h1⟩
  rw [at_,if_neg (by omega)]; exact h.pins c' h0 h1
theorem al4 (h:Sm t N tp P s) (L:Pl t N) (h0:0≤k) (h1:k<t.size):(cG.gives k).step t.ar s=(.done (aU k 1) 0,s.load (t.u6+k)):=by
 have e1:=L.cn; have z:=L.snd.2.2.1; have u:=L.u11; have e4:=L.u6; have f:=L.fits; have hn:=h.len; have:=L.snd.1
 have:(s.load (t.u6+k)).new=1:=by rw [uo (by omega)]; exact h.eT k h0 h1
 simp only [cG.step]
 rw [this]; rfl
end
structure Sl (t:TW) (N:Nat) (k tp:Int) (K J:Int→Int) (P:Int→Int) (g:Sh) (s:MS):Prop where
 sm:Sm t N tp P s
 inv:bh t g
 c:g.c=vw t s
 un:Un s t
 k0:0≤k∧k≤t.size
 born:∀ i,0≤i→i<k→g.born 0 i
 ld:∀ i,g.ld i→i<k
 new:∀ i,k≤i→g.c i 2=0
 key:∀ i,0≤i→i<k→g.c i 0=K i
 job:∀ i,0≤i→i<k→g.c i 1=J i
 hold:∀ i,0≤i→i<k→g.c i 3=1
 bz:∀ i,0≤i→¬ g.bz i
 rf:∀ i,0≤i→i<t.size→g.rf i=aU i 1
structure Si (t:TW) (N:Nat) (k:Int) (K J:Int→Int) (P:Int→Int) (g:Sh) (s:MS) (x:ak) (M:Int):Prop where
 sm:Sm t N (k+1) P s
 inv:bh t g
 c:g.c=vw t s
 un:Un s t
 k0:0≤k∧k<t.size
 born:∀ i,0≤i→i<k→g.born 0 i
 ld:∀ i,g.ld i→i≤k
 new:∀ i,k<i→g.c i 2=0
 key:∀ i,0≤i→i≤k→g.c i 0=K i
 job:∀ i,0≤i→i≤k→g.c i 1=J i
 hold:∀ i,0≤i→i<k→g.c i 3=1
 two:g.c k 3=2
 bz:∀ i,0≤i→i≠k→¬ g.bz i
 rf:∀ i,0≤i→i<t.size→g.rf i=aU i 1
 ii:iD t g (fun j=>j=k) (fun _=>True) x
 xi:x.i=k
 ok:x.ok t
 line:1≤x.line∧x.line≤11
 xk:0≤x.key
 ib:IB t g x M
section
variable {t:TW} {s s':MS} {a v tp c k M i:Int} {P K J:Int→Int} {N:Nat} {g g':Sh} {x:ak}
theorem Gd.old (h:Gd t i g g'):(∀ l j,0≤j→j≠i→g'.born l j→g.born l j)∧(∀ j,0≤j→j≠i→(g'.bz j↔g.bz j))∧(∀ j,g'.rf j=g.rf j)∧(∀ l j,g.born l j→g'.born l j):=by
 induction h with
 | nil=>exact ⟨fun _ _ _ _ h=>h,fun _ _ _=>Iff.rfl,fun _=>rfl,fun _ _ h=>h⟩
 | step h r _ ih =>
  have R:=r (fun j=>0≤j∧j≠i) (fun _=>True) (fun _ h=>h.1) (fun h=>h.2 rfl)
  exact ⟨fun l j h0 h1 hb=>R.Ke l j ⟨h0,h1⟩ (ih.1 l j h0 h1 hb),fun j h0 h1=>(ih.2.1 j h0 h1).trans (R.Kf j ⟨h0,h1⟩),fun j=>(ih.2.2.1 j).trans (R.rf j trivial),fun l j hb=>ih.2.2.2 l j (R.born l j trivial hb)⟩
theorem IB.l (b:IB t g x M):(1≤x.line∧x.line≤11):=by
 unfold IB at b
 rcases b with b | b | b | b | b | b | b | b | b | b | b<;>(have:=b.1; omega)
theorem IB.pos (L:Pl t N) (h:bh t g) (hl:0≤x.level∧x.level≤x.hi∧(x.line=2∨x.line=4∨x.line=5∨x.line=6∨x.line=7∨x.line=8→x.level<x.hi)) (hf:x.line≠11→iC t g (fun _=>True) x.find) (h9:x.line=1∨x.line=7∨x.line=10→x.find.line≠9) (b:IB t g x M):1≤M:=by
 have hP:0≤gQ t:=Int.mul_nonneg (by have:=L.snd.1; omega) (by have:=L.snd.2.2.1; omega)
 have e9:c9 t=gQ t+7:=rfl
 have eX:cX t x=gQ t+1+3*x.hi+c9 t:=rfl
 unfold IB at b
 rcases b with ⟨e,b⟩ | ⟨e,m,q,b⟩ | ⟨e,b⟩ | ⟨e,⟨q,b⟩ | b⟩ | ⟨e,⟨q,b⟩ | b⟩ | ⟨e,⟨q,b⟩ | b⟩ | ⟨e,⟨m,q,b⟩ | ⟨m,q,b⟩⟩ | ⟨e,⟨q,b⟩ | b⟩ | ⟨e,⟨q,b⟩ | b⟩ | ⟨e,⟨q,b⟩ | b⟩ | ⟨e,⟨m,q,b⟩ | ⟨m,q,b⟩⟩
 ·omega
 ·have:=q.pos h (hf (by omega)) (h9 (by omega)); omega
 all_goals first
  | omega
  | (have:=q.pos h (hf (by omega)) (h9 (by omega)); omega)
theorem Si.go (h:Si t N k K J P g s x M) (L:Pl t N) (hl:x.line≤10):∃ g',Si t N k K J P g' (x.step t s).2 (x.step t s).1 (M - 1):=by
 have hlen:=h.sm.len
 have LL:hY t s.W.length:=by rw [hlen]; exact L.Fe
 obtain ⟨g',h',gd,hc,k',b',lo⟩:=ac3 LL (fun j e=>by rw [e]; exact h.k0.1) h.inv h.c (fun _ _ _ _ _=>trivial) h.ii h.xk h.line.1 hl h.ib
 rw [h.xi] at gd
 obtain ⟨o1,o2,o3,o4⟩:=gd.old
 have Fh:=h.ok.step L.snd L.fA h.sm.ok
 have sm:=x.Se (t:=t) (s:=s)
 have hr:¬ Mk x.ref:=by
  have:=(h.inv.rf k h.k0.1 h.k0.2).2.2
  rw [h.ii.ref,h.xi]; unfold Mk; omega
 have ads:x.line=2∨x.line=5→¬ Mk (x.find.spot x.level).cur:=fun e=>by
  obtain ⟨fi,fk⟩:=h.ii.fi h.line.1 hl
  have lv:=h.ii.aQ.2.2.1 (by omega)
  have i0:=h.ii.i0 h.inv
  exact ((fi.told x.level (.inl (h.ii.f9 (by omega))) h.ii.aQ.1 (by omega)).u h.inv).2
 refine ⟨g',⟨h.sm.to L (Lw.ins L (by omega)) Fh.2,h',hc,h.un.ins ⟨by omega,by omega⟩ h.ok.find.word hr ads,h.k0,fun i h0 h1=>o4 _ _ (h.born i h0 h1),fun i hi=>?_,fun i hi=>(lo i 2 (by omega)).trans (h.new i hi),fun i h0 h1=>(lo i 0 (by omega)).trans (h.key i h0 h1),fun i h0 h1=>(lo i 1 (by omega)).trans (h.job i h0 h1),fun i h0 h1=>(lo i 3 (by omega)).trans (h.hold i h0 h1),(lo k 3 (by omega)).trans h.two,fun i h0 h1 hb=>h.bz i h0 h1 ((o2 i h0 h1).1 hb),fun i h0 h1=>(o3 i).trans (h.rf i h0 h1),k',sm.2.2.1.trans h.xi,Fh.1,b'.l,?_,b'⟩⟩
 ·have:=(h'.hi i hi).2.2.1
  rw [lo i 2 (by omega)] at this
  exact Classical.byContradiction fun q=>by
   have:=h.new i (by omega)
   omega
 ·rw [sm.2.1]; exact h.xk
theorem Si.lets (h:Si t N k K J P g s x M) (L:Pl t N) (hl:x.line=11):(x.step t s).1.line=0∧∃ g',Sl t N (k+1) (k+1) K J P g' (x.step t s).2:=by
 have hlen:=h.sm.len
 have LL:hY t s.W.length:=by rw [hlen]; exact L.Fe
 have k0:=h.k0
 have hP:dg t k 3:=.inr ⟨k0.1,k0.2,by omega,by have:=L.snd.1; omega⟩
 obtain ⟨q1,q2⟩:=acL LL hP 18446744073709551615
 have h2:vw t s k 3=2:=by rw [← h.c]; exact h.two
 have ew:IntKind.wrap .u64 (2+18446744073709551615)=1:=by decide
 rw [h2,ew] at q1 q2
 have ax:x.step t s=x.l11 t s:=by unfold ak.step; simp [hl]
 have b0:=(h.ii.z11 (.inl hl))
 rw [h.xi] at b0
 have P3:Ce t g k 3 1:=⟨k0.1,⟨by decide,by decide⟩,.inr (.inr rfl)⟩
 have e2:(x.step t s).2=s.add (aB t k 3) 18446744073709551615:=by rw [ax]; simp only [ak.l11,h.xi]
 have e1:(x.step t s).1.line=0:=by
  rw [ax]; unfold ak.l11; rw [h.xi,q1]; simp
 have Fh:=(h.ok.step L.snd L.fA h.sm.ok).2
 refine ⟨e1,g.put k 3 1,⟨h.sm.to L (Lw.ins L (by omega)) Fh,h.inv.put P3,?_,?_,⟨by omega,by omega⟩,fun i h0 h1=>?_,fun i hi=>?_,fun i hi=>?_,fun i h0 h1=>?_,fun i h0 h1=>?_,fun i h0 h1=>?_,fun i h0 hb=>?_,h.rf⟩⟩
 ·rw [e2,q2,← h.c]; rfl
 ·intro i p hp
  rw [e2,q2,Vw.dC _ _ (by omega)]
  exact h.un i p hp
 ·by_cases e:i=k
  ·subst e; exact b0.2
  ·exact h.born i h0 (by omega)
 ·have:=h.ld i hi; omega
 ·show g.c.set k 3 1 i 2=0
  rw [Vw.dC _ _ (by omega)]; exact h.new i (by omega)
 ·show g.c.set k 3 1 i 0=_
  rw [Vw.dC _ _ (by omega)]; exact h.key i h0 (by omega)
 ·show g.c.set k 3 1 i 1=_
  rw [Vw.dC _ _ (by omega)]; exact h.job i h0 (by omega)
 ·show g.c.set k 3 1 i 3=_
  by_cases e:i=k
  ·rw [e,Vw.vH]
  ·rw [Vw.mM _ _ e]; exact h.hold i h0 (by omega)
 ·by_cases e:i=k
  ·subst e; exact b0.1 hb
  ·exact h.bz i h0 e hb
end
inductive gR (t:TW) (c:Int) (Q:aY→MS→Prop):Nat→aY→MS→Prop
 | done {n:Nat} {x:aY} {s:MS}:x.line=9→Q x s→gR t c Q n x s
 | more {n:Nat} {x:aY} {s:MS}:x.line≠9→(x.line=2→∀ g er,(x.al.step t.ar s).1= .done g er→er=0)→gR t c Q n (x.step t c s).1 (x.step t c s).2→gR t c Q (n+1) x s
def nK (t:TW) (N:Nat) (k:Int) (K J P:Int→Int) (x:aY) (s:MS):Prop:=x.er=0∧∃ g,Sl t N k k K J P g s
section
variable {t:TW} {s s':MS} {a v tp c k M i key job hi:Int} {P P' K J:Int→Int} {N n n':Nat} {g g':Sh} {x:aY} {Q:aY→MS→Prop}
theorem gR.mono (h:gR t c Q n x s) (hn:n≤n'):gR t c Q n' x s:=by
 induction h generalizing n' with
 | done e q=>exact .done e q
 | more e q _ ih =>
  obtain ⟨m,rfl⟩:∃ m,n' =m+1:=⟨n' - 1,by omega⟩
  exact .more e q (ih (by omega))
theorem Sl.aW (h:Sl t N k tp K J P g s) (L:Pl t N) (hc:0≤c∧c<t.u11) (hv:U v):Sl t N k tp K J (mN P c v) g (s.store (t.aW c) v):=by
 have e:vw t (s.store (t.aW c) v)=vw t s:=adq L hc
 refine ⟨h.sm.aW L hc hv,h.inv,h.c.trans e.symm,?_,h.k0,h.born,h.ld,h.new,h.key,h.job,h.hold,h.bz,h.rf⟩
 intro i p hp; rw [e]; exact h.un i p hp
theorem Sl.sub (h:Sl t N k tp K J P g s) (sm:Sm t N i P' s') (e:vw t s' =vw t s):Sl t N k i K J P' g s':=by
 refine ⟨sm,h.inv,h.c.trans e.symm,?_,h.k0,h.born,h.ld,h.new,h.key,h.job,h.hold,h.bz,h.rf⟩
 intro i p hp; rw [e]; exact h.un i p hp
theorem adt (L:Pl t N) (hc:0≤c∧c<t.u11) (e:x.line=5) (er:x.er=0) (h:Sl t N k k K J (mN P c v) g s) (hP:P c=0):gR t c (nK t N k K J P) 1 x s:=by
 refine .more (by omega) (by omega) ?_
 have ax:x.step t c s=x.l5 t c s:=by unfold aY.step; simp [e]
 rw [ax]
 have:=h.aW L hc (v:=0) dJ
 have eP:mN (mN P c v) c 0=P:=by
  funext y; unfold mN
  split
  ·rename_i q; rw [q,hP]
  ·rfl
 rw [eP] at this
 exact .done rfl ⟨er,g,this⟩
theorem adu (L:Pl t N) (hc:0≤c∧c<t.u11) (hP:P c=0):∀ (m:Nat) (x:aY) (s:MS) (g:Sh) (M:Int),M≤m→x.line=4→x.er=0→Si t N k K J (mN P c v) g s x.ins M→gR t c (nK t N (k+1) K J P) (m+1) x s:=by
 intro m
 induction m with
 | zero =>
  intro x s g M hM e er h
  have:=h.ib.pos L h.inv ⟨h.ii.aQ.1,h.ii.aQ.2.1,h.ii.aQ.2.2.1⟩ (fun e=>(h.ii.fi h.line.1 (by have:=h.line; omega)).1) h.ii.n9
  omega
 | succ m ih =>
  intro x s g M hM e er h
  have ax:x.step t c s=x.l4 t s:=by unfold aY.step; simp [e]
  refine .more (by omega) (by omega) ?_
  rw [ax]
  by_cases h11:x.ins.line=11
  ·obtain ⟨e0,g',S⟩:=h.lets L h11
   refine gR.mono (adt (v:=v) L hc ?_ er S hP) (Nat.le_add_left 1 m)
   simp only [aY.l4,e0,if_true]
  ·obtain ⟨g',S⟩:=h.go L (by have:=h.line; omega)
   have:=S.line
   have e4:(x.l4 t s).1.line=4:=by simp only [aY.l4]; rw [if_neg (show ¬ (x.ins.step t s).1.line=0 by omega)]
   exact ih (x.l4 t s).1 (x.l4 t s).2 g' (M - 1) (by omega) e4 er S
theorem adw (L:Pl t N) (hc:0≤c∧c<t.u11) (hP:P c=0) (e:x.line=3) (er:x.er=0) (zQ:x.ly=⟨k,aU k 1,key,job,hi,0⟩) (hr:x.ref=aU k 1) (ek:x.key=key) (eh:x.hi=hi)
  (hK:U key) (hJ:U job) (hH:1≤hi∧hi≤t.ay) (h:Sl t N k (k+1) K J (mN P c v) g s) (hk:K k=key) (hj:J k=job) (hu:∀ i,0≤i→i<k→K i≠key) (iI:k<t.size) :
  gR t c (nK t N (k+1) K J P) (4+((gQ t+hi+1+3*hi+c9 t).toNat+1)) x s:=by
 have hlen:=h.sm.len
 have k0:=h.k0
 have hht:=L.snd.2.1
 have step:∀ (d:Nat) (x:aY) (s:MS),x.line=3→x.ly.d=d→d<4→x.ly.i=k→x.step t c s=({ x with by_:=(x.ly.step t s).1.by_,ly:={ x.ly with d:=d+1 },line:=if d+1=4 then 4 else 3,ins:=if d+1=4 then ak.new t x.ref x.key (x.ref % 65536 - 1) x.hi else x.ins },s.store (aB t k d) (kY x.ly.key x.ly.job x.ly.hi d)):=by
  intro d x s e ed hd ei
  have ax:x.step t c s=x.l3 t s:=by unfold aY.step; simp [e]
  have:x.ly.step t s=({ x.ly with d:=d+1 },s.store (aB t k d) (kY x.ly.key x.ly.job x.ly.hi d)):=by unfold lR.step; simp [ed,ei,hd]
  rw [ax]; unfold aY.l3; rw [this]
 have Fi:∀ d:Int,0≤d→d<4→dg t k d:=fun d h0 h1=>.inr ⟨k0.1,iI,h0,by have:=L.snd.1; omega⟩
 have LL:∀ s':MS,s'.W.length=N→hY t s'.W.length:=fun s' e=>by rw [e]; exact L.Fe
 obtain ⟨s1,h1⟩:∃ s1,s1=s.store (aB t k 0) key:=⟨_,rfl⟩
 obtain ⟨s2,h2⟩:∃ s2,s2=s1.store (aB t k 1) job:=⟨_,rfl⟩
 obtain ⟨s3,h3⟩:∃ s3,s3=s2.store (aB t k 2) hi:=⟨_,rfl⟩
 obtain ⟨s4,h4⟩:∃ s4,s4=s3.store (aB t k 3) 2:=⟨_,rfl⟩
 have l1:s1.W.length=N:=by rw [h1,lT]; exact hlen
 have l2:s2.W.length=N:=by rw [h2,lT]; exact l1
 have l3:s3.W.length=N:=by rw [h3,lT]; exact l2
 have v1:vw t s1=(vw t s).set k 0 key:=by rw [h1]; exact zH (LL s hlen) (Fi 0 (by omega) (by omega)) _
 have v2:vw t s2=(vw t s1).set k 1 job:=by rw [h2]; exact zH (LL s1 l1) (Fi 1 (by omega) (by omega)) _
 have v3:vw t s3=(vw t s2).set k 2 hi:=by rw [h3]; exact zH (LL s2 l2) (Fi 2 (by omega) (by omega)) _
 have v4:vw t s4=(vw t s3).set k 3 2:=by rw [h4]; exact zH (LL s3 l3) (Fi 3 (by omega) (by omega)) _
 have uh:U hi:=⟨by omega,by omega⟩
 have low:Lw t s s4:=by
  have W:=fun (s:MS) p v=>Lw.acc (s:=s) (u:=zd v) (k:=2) L.h0 (Fg L k p)
  rw [h4,h3,h2,h1]
  exact (((W _ _ _).trans (W _ _ _)).trans (W _ _ _)).trans (W _ _ _)
 have ok4:s4.ok:=by
  rw [h4,h3,h2,h1]
  exact (((h.sm.ok.store _ hK).store _ hJ).store _ uh).store _ ⟨by decide,by decide⟩
 have nb:¬ g.born 0 k:=fun hb=>by have:=h.ld k (h.inv.bo _ _ hb).2.2.2.2.1; omega
 have nl:¬ g.ld k:=fun hb=>by have:=h.ld k hb; omega
 have I1:bh t (g.put k 0 key):=h.inv.put ⟨k0.1,hK,.inl ⟨nb,fun q=>absurd q nl⟩⟩
 have I2:bh t ((g.put k 0 key).put k 1 job):=I1.put ⟨k0.1,hJ,.inl ⟨nb,fun q=>absurd q nl⟩⟩
 have I3:bh t (((g.put k 0 key).put k 1 job).put k 2 hi):=I2.put ⟨k0.1,uh,.inl ⟨nb,fun q=>absurd q nl⟩⟩
 have I4:bh t ((((g.put k 0 key).put k 1 job).put k 2 hi).put k 3 2):=I3.put ⟨k0.1,⟨by decide,by decide⟩,.inl ⟨nb,fun q=>absurd q nl⟩⟩
 obtain ⟨g4,hg⟩:∃ g4,g4=(((g.put k 0 key).put k 1 job).put k 2 hi).put k 3 2:=⟨_,rfl⟩
 have c4:g4.c=vw t s4:=by rw [hg,v4,v3,v2,v1,← h.c]; rfl
 have ck:g4.c k 0=key∧g4.c k 1=job∧g4.c k 2=hi∧g4.c k 3=2:=by
  rw [hg]
  refine ⟨?_,?_,?_,?_⟩<;>simp [Sh.put,Vw.set]
 have co:∀ i p,i≠k→g4.c i p=g.c i p:=fun i p hi=>by rw [hg]; simp [Sh.put,Vw.set,hi]
 have hb:g4.born=g.born:=by rw [hg]; rfl
 have hl:g4.ld=g.ld:=by rw [hg]; rfl
 have hz:g4.bz=g.bz:=by rw [hg]; rfl
 have eu:g4.rf=g.rf:=by rw [hg]; rfl
 rw [← hg] at I4
 have I5:bh t (g4.lay k):=I4.lay ⟨k0.1,iI⟩ (by rw [ck.2.2.1]; exact hH) fun j hj=>by
  rw [hl] at hj
  have:=h.ld j hj
  have:=(h.inv.hi j hj).1
  rw [co j 0 (by omega),ck.1,h.key j (by omega) (by omega)]
  exact hu j (by omega) (by omega)
 have un4:Un s4 t:=fun i p hp=>by
  rw [v4,v3,v2,v1,Vw.dC _ _ (by omega),Vw.dC _ _ (by omega),Vw.dC _ _ (by omega),Vw.dC _ _ (by omega)]
  exact h.un i p hp
 have ri:aU k 1 % 65536 - 1=k:=zB k 1 k0.1 (by have:=L.snd.2.2.2.1; omega)
 have ii:iD t (g4.lay k) (fun j=>j=k) (fun _=>True) (ak.new t (aU k 1) key k hi):=by
  refine ⟨rfl,trivial,.inr rfl,?_,ck.1,ck.2.2.1,by simp [ak.new],fun _ _=>⟨Cf L.snd (by simp [au.zero]),rfl⟩,by simp [ak.new],fun _=>by rw [show (g4.lay k).born=g4.born from rfl,hb]; exact nb,by simp [ak.new]; omega,by simp [ak.new],by simp [ak.new],by simp [ak.new],by simp [ak.new],by simp [ak.new],by simp [ak.new],by simp [ak.new],by simp [ak.new],by simp [ak.new],by simp [ak.new,au.new,au.anew]⟩
  show aU k 1=g4.rf k
  rw [eu,h.rf k k0.1 iI]
 have iok:(ak.new t (aU k 1) key k hi).ok t:=ak.ju L.snd ⟨k0.1,iI⟩ hH ⟨by unfold aU; omega,by unfold aU; have:=L.snd.2.2.2.1; omega⟩
 have ib:IB t (g4.lay k) (ak.new t (aU k 1) key k hi) (gQ t+hi+1+3*hi+c9 t):=by
  unfold IB
  exact .inr (.inr (.inr (.inr (.inr (.inr (.inr (.inr (.inr (.inr ⟨rfl,.inl ⟨PP t (g4.lay k),FG.fresh I5 L.snd,by have:=zM L.snd I5; show PP t (g4.lay k)+hi+1+3*hi+c9 t≤_; omega⟩⟩)))))))))
 have S:Si t N k K J (mN P c v) (g4.lay k) s4 (ak.new t (aU k 1) key k hi) (gQ t+hi+1+3*hi+c9 t):=by
  refine ⟨h.sm.to L low ok4,I5,c4,un4,⟨k0.1,iI⟩,fun i h0 h1=>?_,fun i bw=>?_,fun i bw=>?_,fun i h0 h1=>?_,fun i h0 h1=>?_,fun i h0 h1=>?_,ck.2.2.2,fun i h0 h1=>?_,fun i h0 h1=>?_,ii,rfl,iok,by simp [ak.new],hK.1,ib⟩
  ·show g4.born 0 i
   rw [hb]; exact h.born i h0 h1
  ·rcases bw with q | q
   ·rw [hl] at q; have:=h.ld i q; omega
   ·omega
  ·show g4.c i 2=0
   rw [co i 2 (by omega)]; exact h.new i (by omega)
  ·show g4.c i 0=_
   by_cases q:i=k
   ·rw [q,ck.1,hk]
   ·rw [co i 0 q]; exact h.key i h0 (by omega)
  ·show g4.c i 1=_
   by_cases q:i=k
   ·rw [q,ck.2.1,hj]
   ·rw [co i 1 q]; exact h.job i h0 (by omega)
  ·show g4.c i 3=1
   rw [co i 3 (by omega)]; exact h.hold i h0 h1
  ·show ¬ g4.bz i
   rw [hz]; exact h.bz i h0
  ·show g4.rf i=_
   rw [eu]; exact h.rf i h0 h1
 have more:∀ {n:Nat} {x:aY} {s:MS},x.line=3→gR t c (nK t N (k+1) K J P) n (x.step t c s).1 (x.step t c s).2→gR t c (nK t N (k+1) K J P) (n+1) x s:=fun e h=>.more (by omega) (by omega) h
 have f4:∀ (x:aY),x.line=4→x.er=0→x.ins=ak.new t (aU k 1) key k hi→gR t c (nK t N (k+1) K J P) ((gQ t+hi+1+3*hi+c9 t).toNat+1) x s4:=fun x e er ei=>adu L hc hP _ x s4 (g4.lay k) (gQ t+hi+1+3*hi+c9 t) (by omega) e er (by rw [ei]; exact S)
 rw [show 4+((gQ t+hi+1+3*hi+c9 t).toNat+1)=(gQ t+hi+1+3*hi+c9 t).toNat+1+1+1+1+1 by omega]
 have w0:∀ (d:Nat),kY key job hi d=match d with | 0=>key | 1=>job | 2=>hi | _=>2:=fun d=>rfl
 refine more e ?_
 rw [step 0 x s e (by rw [zQ]) (by omega) (by rw [zQ])]
 refine more (by simp) ?_
 rw [step 1 _ _ (by simp) (by simp) (by omega) (by simp [zQ])]
 refine more (by simp) ?_
 rw [step 2 _ _ (by simp) (by simp) (by omega) (by simp [zQ])]
 refine more (by simp) ?_
 rw [step 3 _ _ (by simp) (by simp) (by omega) (by simp [zQ])]
 have es:(((s.store (aB t k ((0:Nat):Int)) (kY x.ly.key x.ly.job x.ly.hi 0)).store (aB t k ((1:Nat):Int)) (kY x.ly.key x.ly.job x.ly.hi 1)).store (aB t k ((2:Nat):Int)) (kY x.ly.key x.ly.job x.ly.hi 2)).store (aB t k ((3:Nat):Int)) (kY x.ly.key x.ly.job x.ly.hi 3)=s4:=by
  rw [h4,h3,h2,h1,zQ]; rfl
 simp only
 rw [es]
 exact f4 _ (by simp) er (by simp only; rw [if_pos trivial,hr,ek,eh,ri])
end
section
variable {t:TW} {s s':MS} {a v tp c k M i key job hi:Int} {P P' K J:Int→Int} {N n n':Nat} {g g':Sh} {x:aY} {Q:aY→MS→Prop}
theorem jA (L:Pl t N) (hc:0≤c∧c<t.u11) (hP:P c=0) (e:x.line=2) (er:x.er=0) (ha:x.al= .pop (.go 1 0 0 0)) (hH:1≤x.hi∧x.hi≤t.ay) (hK:U x.key) (hJ:U x.job)
  (h:Sl t N k k K J (mN P c v) g s) (hk:K k=x.key) (hj:J k=x.job) (hu:∀ i,0≤i→i<k→K i≠x.key) (iI:k<t.size) :
  gR t c (nK t N (k+1) K J P) (4+(4+((gQ t+x.hi+1+3*x.hi+c9 t).toNat+1))) x s:=by
 have k0:=h.k0
 have ax:∀ (x:aY) (s:MS),x.line=2→x.step t c s=x.l2 t s:=fun x s e=>by unfold aY.step; simp [e]
 have m2:∀ {n:Nat} {x:aY} {s:MS} {a':cG} {s':MS},x.line=2→x.al.step t.ar s=(a',s')→(∀ g er,a' ≠ .done g er)→gR t c (nK t N (k+1) K J P) n { x with by_:=0,al:=a' } s' →gR t c (nK t N (k+1) K J P) (n+1) x s:=fun {n x s a' s'} e ea hd q=>by
  refine .more (by omega) (fun _ g er hq=>absurd (by rw [ea] at hq; exact hq) (hd g er)) ?_
  rw [ax x s e]
  unfold aY.l2
  rw [ea]
  cases a' with
  | done g er=>exact absurd rfl (hd g er)
  | pop p=>exact q
  | gives i=>exact q
  | qH=>exact q
 rw [show 4+(4+((gQ t+x.hi+1+3*x.hi+c9 t).toNat+1))=(4+((gQ t+x.hi+1+3*x.hi+c9 t).toNat+1))+1+1+1+1 by omega]
 have Cl:Sl t N k k K J (mN P c v) g (s.load t.top):=h.sub (h.sm.load L _) (zP _ _ _)
 have zR:Sl t N k k K J (mN P c v) g ((s.load t.top).load (t.links+k)):=Cl.sub (Cl.sm.load L _) (zP _ _ _)
 obtain ⟨s3,a3,S3,v3⟩:=al3 zR.sm L iI
 have Cm:=zR.sub S3 v3
 have adx:Sl t N k (k+1) K J (mN P c v) g (s3.load (t.u6+k)):=Cm.sub (Cm.sm.load L _) (zP _ _ _)
 have a1:=J6 (i:=0) (j:=0) (w:=0) h.sm L iI
 rw [← ha] at a1
 refine m2 e a1 (fun _ _ h=>by cases h) ?_
 refine m2 e (al2 Cl.sm L iI) (fun _ _ h=>by cases h) ?_
 refine m2 e a3 (fun _ _ h=>by cases h) ?_
 have a4:=al4 Cm.sm L k0.1 iI
 refine .more (by simp only; omega) (fun _ g er hq=>by rw [a4] at hq; cases hq; rfl) ?_
 show gR t c (nK t N (k+1) K J P) _ (aY.step t c { x with by_:=0,al:=.gives k } s3).1 (aY.step t c { x with by_:=0,al:=.gives k } s3).2
 rw [ax { x with by_:=0,al:=.gives k } s3 e]
 have ri:aU k 1 % 65536 - 1=k:=zB k 1 k0.1 (by have:=L.snd.2.2.2.1; omega)
 have el:(aY.l2 t { x with by_:=0,al:=.gives k } s3)=(({ x with by_:=0,al:=.done (aU k 1) 0,ref:=aU k 1,line:=3,ly:=⟨k,aU k 1,x.key,x.job,x.hi,0⟩ }:aY),s3.load (t.u6+k)):=by
  unfold aY.l2
  rw [a4]
  simp only [aY.given,if_true,ri]
 show gR t c (nK t N (k+1) K J P) _ (aY.l2 t { x with by_:=0,al:=.gives k } s3).1 (aY.l2 t { x with by_:=0,al:=.gives k } s3).2
 rw [el]
 exact adw (x:={ x with by_:=0,al:=.done (aU k 1) 0,ref:=aU k 1,line:=3,ly:=⟨k,aU k 1,x.key,x.job,x.hi,0⟩ }) (v:=v) L hc hP rfl er rfl rfl rfl rfl hK hJ hH adx hk hj hu iI
theorem ady (L:Pl t N) (hz:t.size≤12) (hh:t.ay≤3):gQ t≤75:=by
 unfold gQ
 have a:=L.snd.1
 rcases (show t.ay=1∨t.ay=2∨t.ay=3 by omega) with e | e | e<;>rw [e]<;>omega
theorem adz (L:Pl t N) (hc:0≤c∧c<t.u11) (hP:P c=0) (hz:t.size≤12) (hh:t.ay≤3) (hH:1≤hi∧hi≤t.ay) (hK:U key) (hJ:U job)
  (h:Sl t N k k K J P g s) (hk:K k=key) (hj:J k=job) (hu:∀ i,0≤i→i<k→K i≠key) (iI:k<t.size):gR t c (nK t N (k+1) K J P) 300 (aY.new t key job hi) s:=by
 have ax:∀ (x:aY) (s:MS),x.line=1→x.step t c s=x.l1 t c s:=fun x s e=>by unfold aY.step; simp [e]
 have m1:∀ {n:Nat} {x:aY} {s:MS} {p':dG} {s':MS},x.line=1→x.aW.step t c s=(p',s')→gR t c (nK t N (k+1) K J P) n { x with by_:=0,aW:=p',line:=if p'.line=9 then 2 else 1 } s' →gR t c (nK t N (k+1) K J P) (n+1) x s:=fun {n x s p' s'} e ea q=>by
  refine .more (by omega) (fun e2=>by omega) ?_
  rw [ax x s e]
  unfold aY.l1
  rw [ea]
  exact q
 have Cl:Sl t N k k K J P g (s.load t.u9):=h.sub (h.sm.load L _) (zP _ _ _)
 have zR:=Cl.aW L hc (v:=1) ⟨by decide,by decide⟩
 have Cm:Sl t N k k K J (mN P c 1) g (((s.load t.u9).store (t.aW c) 1).load t.u9):=zR.sub (zR.sm.load L _) (zP _ _ _)
 have hPM:=ady L hz hh
 have hP0:0≤gQ t:=Int.mul_nonneg (by have:=L.snd.1; omega) (by have:=L.snd.2.2.1; omega)
 have e9:c9 t=gQ t+7:=rfl
 refine gR.mono (n:=4+(4+((gQ t+hi+1+3*hi+c9 t).toNat+1))+1+1+1) ?_ (by omega)
 refine m1 rfl (SY (c:=c) h.sm L rfl) ?_
 refine m1 rfl (SZ rfl rfl) ?_
 refine m1 rfl (S0 (c:=c) zR.sm L rfl rfl) ?_
 exact jA (x:={ aY.new t key job hi with aW:=⟨9,0⟩,line:=2 }) (v:=1) L hc hP rfl rfl rfl hH hK hJ Cm hk hj hu iI
end
section
variable {t:TW} {s s':MS} {a v tp c k M i key job hi base:Int} {P P' K J:Int→Int} {N n n':Nat} {g g':Sh} {R:Sk} {A:Ar}
theorem adA (h0:0≤R.links):∀ (k i:Nat) (s:MS),R.links+i+k≤s.W.length→(qJ R k i s).W.length=s.W.length∧∀ b,(qJ R k i s).aI b=if R.links+i≤b∧b<R.links+i+k then pE R (b - R.links).toNat else s.aI b:=by
 intro k
 induction k with
 | zero=>intro i s h; exact ⟨rfl,fun b=>by rw [if_neg (by omega)]; rfl⟩
 | succ k ih =>
  intro i s h
  have l:=lT s (R.links+i) (pE R i)
  obtain ⟨h1,h2⟩:=ih (i+1) (s.store (R.links+i) (pE R i)) (by rw [l]; omega)
  refine ⟨h1.trans l,fun b=>?_⟩
  rw [qJ,h2,oR (by omega)]
  by_cases e:b=R.links+i
  ·rw [if_neg (by omega),if_pos e,if_pos (by omega)]; congr 1; omega
  ·by_cases e2:R.links+i≤b∧b<R.links+i+(k+1:Nat)
   ·rw [if_pos (by omega),if_pos e2]
   ·rw [if_neg (by omega),if_neg e,if_neg e2]
theorem adB (h0:0≤A.eT):∀ (k i:Nat) (s:MS),A.eT+i+k≤s.W.length→(rY A k i s).W.length=s.W.length∧∀ b,(rY A k i s).aI b=if A.eT+i≤b∧b<A.eT+i+k then 1 else s.aI b:=by
 intro k
 induction k with
 | zero=>intro i s h; exact ⟨rfl,fun b=>by rw [if_neg (by omega)]; rfl⟩
 | succ k ih =>
  intro i s h
  have l:=lT s (A.eT+i) 1
  obtain ⟨h1,h2⟩:=ih (i+1) (s.store (A.eT+i) 1) (by rw [l]; omega)
  refine ⟨h1.trans l,fun b=>?_⟩
  rw [rY,h2,oR (by omega)]
  by_cases e:b=A.eT+i
  ·rw [if_neg (by omega),if_pos e,if_pos (by omega)]
  ·by_cases e2:A.eT+i≤b∧b<A.eT+i+(k+1:Nat)
   ·rw [if_pos (by omega),if_pos e2]
   ·rw [if_neg (by omega),if_neg e,if_neg e2]
theorem Kv (h0:0≤base):∀ (k i:Nat) (s:MS),base+i+k≤s.W.length→s.W.length≤4096→(jC base k i s).W.length=s.W.length∧∀ b,(jC base k i s).aI b=if base+i≤b∧b<base+i+k then 0 else s.aI b:=by
 intro k
 induction k with
 | zero=>intro i s h _; exact ⟨rfl,fun b=>by rw [if_neg (by omega)]; rfl⟩
 | succ k ih =>
  intro i s h hl
  have w:IntKind.wrap .i64 (base+i)=base+i:=wrap64 (by omega) (by omega)
  have l:=lT s (base+i) 0
  obtain ⟨h1,h2⟩:=ih (i+1) (s.store (base+i) 0) (by rw [l]; omega) (by rw [l]; exact hl)
  refine ⟨by rw [jC,w]; exact h1.trans l,fun b=>?_⟩
  rw [jC,w,h2,oR (by omega)]
  by_cases e:b=base+i
  ·rw [if_neg (by omega),if_pos e,if_pos (by omega)]
  ·by_cases e2:base+i≤b∧b<base+i+(k+1:Nat)
   ·rw [if_pos (by omega),if_pos e2]
   ·rw [if_neg (by omega),if_neg e,if_neg e2]
theorem adC (n:Nat) (b:Int):(MS.zero n).aI b=0:=by
 unfold MS.aI
 split
 ·rename_i h
  have hl:(MS.zero n).W.length=n:=by simp [MS.zero]
  have:b.toNat<n:=by omega
  simp [MS.zero,List.getElem?_replicate,this]
 ·rfl
def Sh.none (t:TW) (s:MS):Sh:=⟨vw t s,fun _=>[],fun _ _=>False,fun _=>False,fun i=>aU i 1,fun _=>False⟩
theorem adD (L:Pl t N) (hs:s.ok) (h0:∀ l,0≤l→l<t.ay→vw t s (-1) (4+l)=0):bh t (.none t s):=by
 have z:=L.snd.2.2.2.1
 refine ⟨fun i i0 i1=>⟨?_,?_,?_⟩,fun i p=>acM hs,fun l l0 l1=>?_,fun l l0 l1=>?_,fun _ _ _=>.nil,fun l i _ _ h=>by simp [Sh.none] at h,fun _ _ h=>h.elim,fun _ _ _ h=>h.elim,fun _ h=>h.elim,fun _ _ h=>h.elim,fun _ _ _ h=>h.elim,fun _ _ h=>h.elim⟩
 ·show aH t.size (aU i 1)=i
  unfold aH aU; split<;>omega
 ·show 0<aU i 1
  unfold aU; omega
 ·show aU i 1<bp
  unfold aU bp; omega
 ·show um (vw t s (-1) (4+l))=0
  rw [h0 l l0 l1]; rfl
 ·show ¬ Mk (vw t s (-1) (4+l))
  rw [h0 l l0 l1]; decide
theorem S7 (L:Pl t N):(qQ t (.zero N)).W.length=N∧(qQ t (.zero N)).ok∧∀ b,(qQ t (.zero N)).aI b=if b=t.top then 1 else if t.links≤b∧b<t.links+t.size then pE t.A.R (b - t.links).toNat else if t.u6≤b∧b<t.u6+t.size then 1 else 0:=by
 have e1:=L.top; have e2:=L.links; have e3:=L.u6; have e4:=L.u7; have e5:=L.u9; have e6:=L.u10; have e7:=L.u11; have e8:=L.u12; have e9:=L.cn
 have z:=L.snd.2.2.1; have z2:=L.snd.2.2.2.1; have h1:=L.snd.1; have h2:=L.snd.2.1
 have f:=L.fits; have le:=L.le
 have hA:t.A.ok:=L.ar
 have l0:(MS.zero N).W.length=N:=by simp [MS.zero]
 obtain ⟨s1,d1⟩:∃ s1,s1=(MS.zero N).store t.top 1:=⟨_,rfl⟩
 obtain ⟨s2,d2⟩:∃ s2,s2=qJ t.A.R t.size.toNat 0 s1:=⟨_,rfl⟩
 obtain ⟨s3,d3⟩:∃ s3,s3=s2.store t.u7 0:=⟨_,rfl⟩
 obtain ⟨s4,d4⟩:∃ s4,s4=rY t.A t.size.toNat 0 s3:=⟨_,rfl⟩
 obtain ⟨s5,d5⟩:∃ s5,s5=s4.store t.u9 0:=⟨_,rfl⟩
 obtain ⟨s6,d6⟩:∃ s6,s6=jC t.u10 t.u11.toNat 0 s5:=⟨_,rfl⟩
 obtain ⟨s7,d7⟩:∃ s7,s7=jC t.u12 3 0 s6:=⟨_,rfl⟩
 obtain ⟨s8,d8⟩:∃ s8,s8=jC t.cn t.ay.toNat 0 s7:=⟨_,rfl⟩
 have S8:qQ t (.zero N)=s8:=by rw [d8,d7,d6,d5,d4,d3,d2,d1]; rfl
 have l1:s1.W.length=N:=by rw [d1,lT,l0]
 have a1:∀ b,s1.aI b=if b=t.top then 1 else 0:=fun b=>by rw [d1,oR (by omega)]; split<;>simp [adC]
 have A2:=adA (R:=t.A.R) (by simp only [TW.A]; omega) t.size.toNat 0 s1 (by simp only [TW.A]; omega)
 rw [← d2] at A2
 have l2:=A2.1.trans l1
 have l3:s3.W.length=N:=by rw [d3,lT,l2]
 have a3:=fun b=>oR (s:=s2) (a:=t.u7) (by omega) 0 b
 rw [← d3] at a3
 have A4:=adB (A:=t.A) (by simp only [TW.A]; omega) t.size.toNat 0 s3 (by simp only [TW.A]; omega)
 rw [← d4] at A4
 have l4:=A4.1.trans l3
 have l5:s5.W.length=N:=by rw [d5,lT,l4]
 have a5:=fun b=>oR (s:=s4) (a:=t.u9) (by omega) 0 b
 rw [← d5] at a5
 have A6:=Kv (base:=t.u10) (by omega) t.u11.toNat 0 s5 (by omega) (by omega)
 rw [← d6] at A6
 have l6:=A6.1.trans l5
 have A7:=Kv (base:=t.u12) (by omega) 3 0 s6 (by omega) (by omega)
 rw [← d7] at A7
 have l7:=A7.1.trans l6
 have A8:=Kv (base:=t.cn) (by omega) t.ay.toNat 0 s7 (by omega) (by omega)
 rw [← d8] at A8
 have l8:=A8.1.trans l7
 refine ⟨by rw [S8]; exact l8,abD hA (ZT le),fun b=>?_⟩
 have B2:∀ b,s2.aI b=if t.links≤b∧b<t.links+t.size then pE t.A.R (b - t.links).toNat else s1.aI b:=fun b=>by
  rw [A2.2 b]
  by_cases c:t.links≤b∧b<t.links+t.size
  ·rw [if_pos c]; exact if_pos (show t.links+((0:Nat):Int)≤b∧b<t.links+((0:Nat):Int)+(t.size.toNat:Int) by omega)
  ·rw [if_neg c]; exact if_neg (show ¬ (t.links+((0:Nat):Int)≤b∧b<t.links+((0:Nat):Int)+(t.size.toNat:Int)) by omega)
 have B4:∀ b,s4.aI b=if t.u6≤b∧b<t.u6+t.size then 1 else s3.aI b:=fun b=>by
  rw [A4.2 b]
  by_cases c:t.u6≤b∧b<t.u6+t.size
  ·rw [if_pos c]; exact if_pos (show t.u6+((0:Nat):Int)≤b∧b<t.u6+((0:Nat):Int)+(t.size.toNat:Int) by omega)
  ·rw [if_neg c]; exact if_neg (show ¬ (t.u6+((0:Nat):Int)≤b∧b<t.u6+((0:Nat):Int)+(t.size.toNat:Int)) by omega)
 rw [S8,A8.2,A7.2,A6.2,a5,B4,a3,B2,a1]
 by_cases c1:b=t.top
 ·rw [if_pos c1,if_neg (by omega),if_neg (by omega),if_neg (by omega),if_neg (by omega),if_neg (by omega),if_neg (by omega),if_neg (by omega),if_pos c1]
 ·rw [if_neg c1,if_neg c1]
  by_cases c2:t.links≤b∧b<t.links+t.size
  ·rw [if_pos c2,if_neg (by omega),if_neg (by omega),if_neg (by omega),if_neg (by omega),if_neg (by omega),if_neg (by omega)]; exact (if_pos c2).symm
  ·rw [if_neg c2]
   by_cases c3:t.u6≤b∧b<t.u6+t.size
   ·rw [if_pos c3,if_neg (by omega),if_neg (by omega),if_neg (by omega),if_neg (by omega)]; exact ((if_neg c2).trans (if_pos c3)).symm
   ·rw [if_neg c3]
    split
    ·rfl
    split
    ·rfl
    split
    ·rfl
    split
    ·rfl
    split<;>rfl
theorem Kw (L:Pl t N) {i p:Int}:vw t (qQ t (.zero N)) i p=0:=by
 by_cases h:dg t i p
 ·have q:=L.hi h
  have e1:=L.top; have e2:=L.links; have e3:=L.u6; have e9:=L.cn
  have z:=L.snd.2.2.1; have e7:=L.u11
  unfold vw
  rw [(S7 L).2.2,if_neg (by omega),if_neg (by omega),if_neg (by omega)]
 ·exact xG h
theorem adE (L:Pl t N) (K J:Int→Int):Sl t N 0 0 K J (fun _=>0) (.none t (qQ t (.zero N))) (qQ t (.zero N)):=by
 obtain ⟨hl,aP,ha⟩:=S7 L
 have e1:=L.top; have e2:=L.links; have e3:=L.u6; have e4:=L.u7; have e5:=L.u9; have e6:=L.u10; have e7:=L.u11
 have z:=L.snd.2.2.1
 refine ⟨⟨hl,aP,by omega,?_,fun i h0 h1=>?_,fun i h0 h1=>?_,?_,fun c h0 h1=>?_⟩,adD L aP fun l _ _=>Kw L,rfl,fun i p _=>by rw [Kw L]; decide,by omega,fun i h0 h1=>by omega,fun i h=>h.elim,fun i _=>Kw L,fun i h0 h1=>by omega,fun i h0 h1=>by omega,fun i h0 h1=>by omega,fun _ _ h=>h,fun i h0 h1=>rfl⟩
 ·rw [ha,if_pos rfl,if_pos (by omega)]; rfl
 ·rw [ha,if_neg (by omega),if_pos (by omega)]
  rw [show t.links+i - t.links=i by omega]
  unfold pE
  simp only [TW.A]
  have:((i.toNat:Nat):Int)=i:=by omega
  rw [this]
  by_cases q:i+1=t.size
  ·rw [if_pos q]; exact if_pos q
  ·rw [if_neg q]; exact if_neg q
 ·rw [ha,if_neg (by omega),if_neg (by omega),if_pos (by omega)]
 ·rw [ha,if_neg (by omega),if_neg (by omega),if_neg (by omega)]
 ·have:=L.aW ⟨h0,h1⟩
  rw [ha,if_neg (by omega),if_neg (by omega),if_neg (by omega)]
theorem Sl.high (h:Sl t N k tp K J P g s) (L:Pl t N) (hl:s'.W.length=s.W.length) (ho:s'.ok) (hb:∀ b,b<t.nodes+t.size*(4+t.ay)→s'.aI b=s.aI b):Sl t N k tp K J P g s':=by
 have mz:0≤t.size*(4+t.ay):=Int.mul_nonneg (by have:=L.snd.2.2.1; omega) (by have:=L.snd.1; omega)
 have e9:=L.cn; have e10:=L.nodes; have h1:=L.snd.1
 have e:vw t s' =vw t s:=by
  funext i p
  by_cases hp:dg t i p
  ·refine hb _ ?_
   rcases hp with ⟨rfl,hp⟩ | hp
   ·rw [L.vL hp]; omega
   ·rw [L.vM hp]
    have:=L.row hp.1 hp.2.1
    omega
  ·rw [xG hp,xG hp]
 exact h.sub (h.sm.to L ⟨hl,fun b ig=>hb b (by omega)⟩ ho) e
theorem adF (r:dU) {E:Int} (h1:E≤r.runs) (h2:E≤r.flags):∀ (k i:Nat) (s:MS),(qS r k i s).W.length=s.W.length∧∀ b,b<E→(qS r k i s).aI b=s.aI b:=by
 intro k
 induction k with
 | zero=>intro i s; exact ⟨rfl,fun b hb=>rfl⟩
 | succ k ih =>
  intro i s
  obtain ⟨a1,a2⟩:=ih (i+1) ((s.store (r.runs+i) 18446744073709551615).store (r.flags+i) 0)
  refine ⟨?_,fun b hb=>?_⟩
  ·rw [qS,a1,lT,lT]
  ·rw [qS,a2 b hb]
   have e1:((s.store (r.runs+i) 18446744073709551615).store (r.flags+i) 0).aI b=(s.store (r.runs+i) 18446744073709551615).aI b:=zO (by omega)
   rw [e1]
   exact zO (by omega)
theorem Sl.runs (h:Sl t N k tp K J P g s) (L:Pl t N) (r:dU) (h1:t.nodes+t.size*(4+t.ay)≤r.runs) (h2:t.nodes+t.size*(4+t.ay)≤r.flags) (m i:Nat):Sl t N k tp K J P g (qS r m i s):=by
 obtain ⟨a1,a2⟩:=adF r h1 h2 m i s
 exact h.high L a1 (Rk r m i h.sm.ok) a2
end
inductive la (t:TW) (w:dU) (c:Int) (Q:bg→MS→Prop):Nat→bg→MS→Prop
 | done {n:Nat} {x:bg} {s:MS}:x.line=9→Q x s→la t w c Q n x s
 | more {n:Nat} {x:bg} {s:MS}:x.line≠9→la t w c Q n (x.step t w c s).1 (x.step t w c s).2→la t w c Q (n+1) x s
structure nL (a v:Int) (s0 s:MS):Prop where
 len:s.W.length=s0.W.length
 at_:∀ b,s.aI b=if b=a then v else s0.aI b
def Kx (w:dU) (s0:MS) (wt:Option Nat) (x:bg) (s:MS):Prop:=x.err=0∧s.W.length=s0.W.length ∧
 match wt with
 | none=>x.flag= -1∧∀ b,s.aI b=s0.aI b
 | some i=>x.flag=i∧∀ b,s.aI b=if b=w.flags+i then 1 else s0.aI b
section
variable {t:TW} {s s' s0:MS} {a v tp c k M i key job hi:Int} {P P' K J:Int→Int} {N n n':Nat} {g g':Sh} {x:bg} {Q:bg→MS→Prop} {w:dU} {y:bY} {z:aE}
theorem la.mono (h:la t w c Q n x s) (hn:n≤n'):la t w c Q n' x s:=by
 induction h generalizing n' with
 | done e q=>exact .done e q
 | more e _ ih =>
  obtain ⟨m,rfl⟩:∃ m,n' =m+1:=⟨n' - 1,by omega⟩
  exact .more e (ih (by omega))
theorem nL.load (h:nL a v s0 s) (b:Int):nL a v s0 (s.load b):=⟨(zF _ _).trans h.len,fun x=>(vN s b x).trans (h.at_ x)⟩
theorem nL.new (h:nL a v s0 s) {b:Int} (hb:0≤b∧b<s0.W.length) (hn:b≠a):(s.load b).new=s0.aI b:=by
 rw [uo (by rw [h.len]; exact hb),h.at_,if_neg hn]
theorem qW (e:x.line=0) (ey:x.look.step t c s=(y,s')) (h9:y.line≠9) (h:la t w c Q n { x with look:=y,by_:=y.by_ } s'):la t w c Q (n+1) x s:=by
 refine .more (by omega) ?_
 have ax:x.step t w c s=({ x with look:=y,by_:=y.by_ },s'):=by
  unfold bg.step bg.l0
  rw [if_pos e,ey]
  simp only
  rw [if_neg h9]
 rw [ax]; exact h
theorem S9 (e:x.line=0) (ey:x.look.step t c s=(y,s')) (h9:y.line=9) (h:la t w c Q n ({ x with look:=y,by_:=y.by_ }:bg).seen s'):la t w c Q (n+1) x s:=by
 refine .more (by omega) ?_
 have ax:x.step t w c s=(({ x with look:=y,by_:=y.by_ }:bg).seen,s'):=by
  unfold bg.step bg.l0
  rw [if_pos e,ey]
  simp only
  rw [if_pos h9]
 rw [ax]; exact h
theorem zS (e:y.line=1) {p:dG} (ep:y.aW.step t c s=(p,s')):y.step t c s=({ y with by_:=0,aW:=p,line:=if p.line=9 then 4 else 1 },s'):=by
 unfold bY.step; rw [if_pos e,ep]
theorem Cn (e:y.line=4) (ep:y.cW.step true t s=(z,s')):y.step t c s=({ y with cW:=z,by_:=z.by_,line:=if z.line=99 then 5 else 4 },s'):=by
 unfold bY.step; rw [if_neg (by omega),if_pos e,ep]
theorem Ta (e:y.line=5):y.step t c s=({ y with by_:=0,line:=9 },mL t c s):=by
 unfold bY.step; rw [if_neg (by omega),if_neg (by omega),if_pos e]
theorem ba1 (hw:w.qR) (hN:w.runs+w.bc≤s0.W.length∧w.flags+w.bc≤s0.W.length):∀ (m j:Nat) (x:bg) (s:MS),(j+m+1:Nat)=w.bc→x.line=1→x.words=gf s0 w.runs j→x.flag= -1→x.err=0→s.W.length=s0.W.length→(∀ b,s.aI b=s0.aI b) →
  la t w c (Kx w s0 (jD (gf s0 w.runs w.bc.toNat) x.key)) (m+2) x s:=by
 obtain ⟨w1,w2,w3,w4,w5,w6⟩:=hw
 intro m
 induction m with
 | zero =>
  intro j x s hj e ew ef er hl ha
  have el:(x.words.length:Int)=j:=by rw [ew]; simp
  have wr:IntKind.wrap .i64 (w.runs+x.words.length)=w.runs+j:=by rw [el]; exact wrap64 (by omega) (by omega)
  have nw:(s.load (w.runs+j)).new=s0.aI (w.runs+j):=by rw [uo (by omega),ha]
  have eW:x.words++[s0.aI (w.runs+j)]=gf s0 w.runs w.bc.toNat:=by
   rw [ew,show w.bc.toNat=j+1 by omega,JG]
  have ln:((gf s0 w.runs w.bc.toNat).length:Int)=w.bc:=by rw [Rj]; omega
  have ax:x.step t w c s=x.l1 w s:=by unfold bg.step; rw [if_neg (by omega),if_pos e]
  have dp:(s.load (w.runs+j)).W.length=s0.W.length:=(zF _ _).trans hl
  have ha':∀ b,(s.load (w.runs+j)).aI b=s0.aI b:=fun b=>(vN _ _ _).trans (ha b)
  refine .more (by omega) ?_
  rw [ax]
  unfold bg.l1
  rw [wr,nw,eW,if_pos ln]
  cases hq:jD (gf s0 w.runs w.bc.toNat) x.key with
  | none=>exact .done rfl ⟨er,dp,ef,ha'⟩
  | some i =>
   have hi:(i:Int)<w.bc:=by
    unfold jD at hq
    simp only at hq
    split at hq
    ·cases hq
    ·rename_i hg
     have:=tZ (gf s0 w.runs w.bc.toNat) (gf s0 w.runs w.bc.toNat).length
     cases hq
     rw [ln] at this
     omega
   refine .more (by simp) ?_
   have wf:IntKind.wrap .i64 (w.flags+(i:Int))=w.flags+i:=wrap64 (by omega) (by omega)
   have adG:({ x with by_:=0,words:=gf s0 w.runs w.bc.toNat,line:=2,flag:=(i:Int) }:bg).step t w c (s.load (w.runs+j))=({ x with by_:=0,words:=gf s0 w.runs w.bc.toNat,line:=9,flag:=(i:Int) },(s.load (w.runs+j)).store (w.flags+i) 1):=by
    unfold bg.step bg.l2
    simp [wf]
   show la t w c _ 0 (({ x with by_:=0,words:=gf s0 w.runs w.bc.toNat,line:=2,flag:=(i:Int) }:bg).step t w c (s.load (w.runs+j))).1 (({ x with by_:=0,words:=gf s0 w.runs w.bc.toNat,line:=2,flag:=(i:Int) }:bg).step t w c (s.load (w.runs+j))).2
   rw [adG]
   refine .done rfl ⟨er,(lT _ _ _).trans dp,rfl,fun b=>?_⟩
   rw [oR (by omega),ha']
 | succ m ih =>
  intro j x s hj e ew ef er hl ha
  have el:(x.words.length:Int)=j:=by rw [ew]; simp
  have wr:IntKind.wrap .i64 (w.runs+x.words.length)=w.runs+j:=by rw [el]; exact wrap64 (by omega) (by omega)
  have nw:(s.load (w.runs+j)).new=s0.aI (w.runs+j):=by rw [uo (by omega),ha]
  have eW:x.words++[s0.aI (w.runs+j)]=gf s0 w.runs (j+1):=by
   rw [ew,JG]
  have ln:¬ ((gf s0 w.runs (j+1)).length:Int)=w.bc:=by rw [Rj]; omega
  have ax:x.step t w c s=x.l1 w s:=by unfold bg.step; rw [if_neg (by omega),if_pos e]
  have dp:(s.load (w.runs+j)).W.length=s0.W.length:=(zF _ _).trans hl
  have ha':∀ b,(s.load (w.runs+j)).aI b=s0.aI b:=fun b=>(vN _ _ _).trans (ha b)
  refine .more (by omega) ?_
  rw [ax]
  unfold bg.l1
  rw [wr,nw,eW,if_neg ln]
  exact ih (j+1) { x with by_:=0,words:=gf s0 w.runs (j+1) } _ (by omega) e rfl ef er dp ha'
end
section
variable {t:TW} {s s' s0:MS} {a v tp c k M i key job hi:Int} {P P' K J:Int→Int} {N n n':Nat} {g g':Sh} {x:bg} {Q:bg→MS→Prop} {w:dU} {y:bY} {z:aE}
theorem Sl.first (h:Sl t N k k K J P g s) (L:Pl t N):(k=0∧vw t s (-1) 4=0)∨∃ i,0≤i∧i<k∧vw t s (-1) 4=aU i 1∧∀ j,0≤j→j<k→K i≤K j:=by
 have hh:=L.snd.1
 have ch:=h.inv.pX 0 (by omega) (by omega)
 have sr:=h.inv.ml 0 (by omega) (by omega)
 have u:um (g.c (-1) (4+0))=vw t s (-1) 4:=by
  rw [sy (h.inv.u _ _) (h.inv.hd 0 (by omega) (by omega)),h.c]; rfl
 have mem:∀ j,0≤j→j<k→j∈g.C 0:=fun j h0 h1=>h.inv.on 0 j (h.born j h0 h1) (by
  rw [h.c]; exact h.un j (4+0) (by omega))
 have dM:∀ j,j∈g.C 0→0≤j∧j<k:=fun j hj=>by
  have b:=h.inv.bo _ _ (h.inv.dM 0 j (by omega) (by omega) hj)
  exact ⟨b.1,h.ld j b.2.2.2.2.1⟩
 cases hC:g.C 0 with
 | nil =>
  rw [hC] at ch
  refine .inl ⟨?_,by rw [← u]; exact ch⟩
  have:=h.k0.1
  refine Classical.byContradiction fun q=>?_
  have:=mem 0 (by omega) (by omega)
  rw [hC] at this
  cases this
 | cons i B =>
  rw [hC] at ch sr
  have hi:=dM i (by rw [hC]; exact .head _)
  have z:=h.k0.2
  refine .inr ⟨i,hi.1,hi.2,by rw [← u,ch.1,h.rf i hi.1 (by omega)],fun j h0 h1=>?_⟩
  have hm:=mem j h0 h1
  rw [hC] at hm
  rcases List.mem_cons.1 hm with rfl | hm
  ·exact Int.le_refl _
  ·have:=(List.pairwise_cons.1 sr).1 j hm
   rw [h.key i hi.1 hi.2,h.key j h0 h1] at this
   omega
theorem adH (L:Pl t N) (hw:w.qR) (hc:0≤c∧c<t.u11) (hN:w.runs+w.bc≤N∧w.flags+w.bc≤N) (h:Sl t N k k K J (fun _=>0) g s0) :
  ∃ wt,la t w c (Kx w s0 wt) (w.bc.toNat+9) (bg.new t) s0∧((k=0∧wt=none)∨∃ i,0≤i∧i<k∧(∀ j,0≤j→j<k→K i≤K j)∧wt=jD (gf s0 w.runs w.bc.toNat) (K i)):=by
 have pc:=L.aW hc
 have hlen:=h.sm.len
 have f:=L.fits
 have hh:=L.snd.1
 have e1:=L.cn; have e9:=L.u9
 have kM:s0.aI (t.aW c)=0:=h.sm.pins c hc.1 hc.2
 have Tb:0≤t.aW c∧t.aW c<s0.W.length:=⟨pc.2.1,by omega⟩
 obtain ⟨s1,h1⟩:∃ s1,s1=s0.load t.u9:=⟨_,rfl⟩
 obtain ⟨s2,h2⟩:∃ s2,s2=s1.store (t.aW c) 1:=⟨_,rfl⟩
 obtain ⟨s3,h3⟩:∃ s3,s3=s2.load t.u9:=⟨_,rfl⟩
 have S1:Sl t N k k K J (fun _=>0) g s1:=by rw [h1]; exact h.sub (h.sm.load L _) (zP _ _ _)
 have S2:=S1.aW L hc (v:=1) ⟨by decide,by decide⟩
 rw [← h2] at S2
 have M2:nL (t.aW c) 1 s0 s2:=⟨by rw [h2,lT,h1,zF],fun b=>by rw [h2,oR (by rw [h1,zF]; exact Tb),h1,vN]⟩
 have M3:nL (t.aW c) 1 s0 s3:=by rw [h3]; exact M2.load _
 have p1:dG.new.step t c s0=(⟨2,0⟩,s1):=by rw [h1]; exact SY h.sm L rfl
 have p2:dG.step t c ⟨2,0⟩ s1=(⟨3,0⟩,s2):=by rw [h2]; exact SZ rfl rfl
 have p3:dG.step t c ⟨3,0⟩ s2=(⟨9,0⟩,s3):=by rw [h3]; exact S0 S2.sm L rfl rfl
 have fin:∀ s,nL (t.aW c) 1 s0 s→(mL t c s).W.length=s0.W.length∧∀ b,(mL t c s).aI b=s0.aI b:=fun s M=>by
  unfold mL
  refine ⟨(lT _ _ _).trans M.len,fun b=>?_⟩
  rw [oR (by rw [M.len]; exact Tb),M.at_]
  by_cases q:b=t.aW c
  ·rw [if_pos q,q,kM]
  ·rw [if_neg q,if_neg q]
 have nx:aX t (-1) 0=aB t (-1) 4:=jI L.snd (by omega) (by omega) _
 have rd:∀ {s i p},nL (t.aW c) 1 s0 s→dg t i p→(s.load (aB t i p)).new=vw t s0 i p:=fun {s i p} M hp=>M.new (by rw [hlen]; exact L.Fe.zG i p hp) (L.low pc.2.2 hp)
 have pH:dg t (-1) 4:=.inl ⟨rfl,by omega,by omega⟩
 rcases h.first L with ⟨k0,hv⟩ | ⟨i,i0,i1,hv,Ky⟩
 ·refine ⟨none,?_,.inl ⟨k0,rfl⟩⟩
  obtain ⟨s4,h4⟩:∃ s4,s4=s3.load (aX t (-1) 0):=⟨_,rfl⟩
  have M4:nL (t.aW c) 1 s0 s4:=by rw [h4]; exact M3.load _
  have n4:s4.new=0:=by rw [h4,nx,rd M3 pH,hv]
  have c1:(aE.new t).step true t s3=({ aE.new t with by_:=0,a:=0,i:=-1,line:=99,err:=15 },s4):=by
   unfold aE.step
   rw [if_pos (show (aE.new t).line=1 from rfl)]
   unfold aE.l1
   rw [← h4]
   simp only [n4]
   rw [if_pos (.inl (by decide))]
   rfl
  refine la.mono (n:=0+1+1+1+1+1) ?_ (by omega)
  refine qW rfl (zS rfl p1) (by simp) ?_
  refine qW rfl (zS rfl p2) (by simp) ?_
  refine qW rfl (zS rfl p3) (by simp) ?_
  refine qW rfl (Cn rfl c1) (by simp) ?_
  refine S9 rfl (Ta rfl) rfl ?_
  have:=fin s4 M4
  exact .done rfl ⟨rfl,this.1,rfl,this.2⟩
 ·refine ⟨jD (gf s0 w.runs w.bc.toNat) (K i),?_,.inr ⟨i,i0,i1,Ky,rfl⟩⟩
  have hz:=h.k0.2
  have z2:=L.snd.2.2.2.1
  obtain ⟨s4,h4⟩:∃ s4,s4=s3.load (aX t (-1) 0):=⟨_,rfl⟩
  obtain ⟨s5,h5⟩:∃ s5,s5=s4.load (aB t i 4):=⟨_,rfl⟩
  obtain ⟨s6,h6⟩:∃ s6,s6=s5.load (aB t i 0):=⟨_,rfl⟩
  obtain ⟨s7,h7⟩:∃ s7,s7=s6.load (aB t i 1):=⟨_,rfl⟩
  have M4:nL (t.aW c) 1 s0 s4:=by rw [h4]; exact M3.load _
  have M5:nL (t.aW c) 1 s0 s5:=by rw [h5]; exact M4.load _
  have M6:nL (t.aW c) 1 s0 s6:=by rw [h6]; exact M5.load _
  have M7:nL (t.aW c) 1 s0 s7:=by rw [h7]; exact M6.load _
  have n4:s4.new=aU i 1:=by rw [h4,nx,rd M3 pH,hv]
  have n5:¬ bp≤s5.new:=by rw [h5,rd M4 (.inr ⟨i0,by omega,by omega,by omega⟩)]; exact h.un i 4 (by omega)
  have n6:s6.new=K i:=by rw [h6,rd M5 (.inr ⟨i0,by omega,by omega,by omega⟩),← h.c]; exact h.key i i0 i1
  have ri:aU i 1 % 65536 - 1=i:=zB i 1 i0 (by omega)
  have c1:(aE.new t).step true t s3=({ aE.new t with by_:=0,a:=aU i 1,i:=i,line:=2 },s4):=by
   unfold aE.step
   rw [if_pos (show (aE.new t).line=1 from rfl)]
   unfold aE.l1
   rw [← h4]
   simp only [n4,ri]
   rw [if_neg (by omega)]
  have c2:aE.step true t { aE.new t with by_:=0,a:=aU i 1,i:=i,line:=2 } s4=({ aE.new t with by_:=aU i 1,a:=aU i 1,i:=i,w:=s5.new,line:=9 },s5):=by
   unfold aE.step
   simp only [show ¬ (2:Int)=1 by decide,if_false,if_true]
   unfold aE.l2
   simp only
   rw [← h5,if_neg n5,if_pos trivial]
  have c3:aE.step true t { aE.new t with by_:=aU i 1,a:=aU i 1,i:=i,w:=s5.new,line:=9 } s5=({ aE.new t with by_:=aU i 1,a:=aU i 1,i:=i,w:=s5.new,key:=K i,line:=91 },s6):=by
   unfold aE.step
   simp only [show ¬ (9:Int)=1 by decide,show ¬ (9:Int)=2 by decide,show ¬ (9:Int)=3 by decide,show ¬ (9:Int)=4 by decide,show ¬ (9:Int)=5 by decide,show ¬ (9:Int)=6 by decide,show ¬ (9:Int)=7 by decide,show ¬ (9:Int)=8 by decide,if_false,if_true]
   unfold aE.l9
   simp only
   rw [← h6,n6]
  have c4:aE.step true t { aE.new t with by_:=aU i 1,a:=aU i 1,i:=i,w:=s5.new,key:=K i,line:=91 } s6=({ aE.new t with by_:=aU i 1,a:=aU i 1,i:=i,w:=s5.new,key:=K i,job:=s7.new % 65536,line:=99 },s7):=by
   unfold aE.step
   simp only [show ¬ (91:Int)=1 by decide,show ¬ (91:Int)=2 by decide,show ¬ (91:Int)=3 by decide,show ¬ (91:Int)=4 by decide,show ¬ (91:Int)=5 by decide,show ¬ (91:Int)=6 by decide,show ¬ (91:Int)=7 by decide,show ¬ (91:Int)=8 by decide,show ¬ (91:Int)=9 by decide,if_false,if_true]
   unfold aE.l91
   simp only
   rw [← h7,if_pos trivial]
  have wh:=hw.1
  obtain ⟨m,hm⟩:∃ m:Nat,(m+1:Nat)=w.bc:=⟨(w.bc - 1).toNat,by omega⟩
  refine la.mono (n:=(m+2)+1+1+1+1+1+1+1+1) ?_ (by omega)
  refine qW rfl (zS rfl p1) (by simp) ?_
  refine qW rfl (zS rfl p2) (by simp) ?_
  refine qW rfl (zS rfl p3) (by simp) ?_
  refine qW rfl (Cn rfl c1) (by simp) ?_
  refine qW rfl (Cn rfl c2) (by simp) ?_
  refine qW rfl (Cn rfl c3) (by simp) ?_
  refine qW rfl (Cn rfl c4) (by simp) ?_
  refine S9 rfl (Ta rfl) rfl ?_
  have:=fin s7 M7
  have E:∀ x:bg,x.line=1→x.words=[]→x.flag= -1→x.err=0→x.key=K i→la t w c (Kx w s0 (jD (gf s0 w.runs w.bc.toNat) (K i))) (m+2) x (mL t c s7):=fun x q1 q2 q3 q4 q5=>by
   have r:=ba1 (t:=t) (c:=c) (s0:=s0) hw (by rw [hlen]; exact hN) m 0 x (mL t c s7) (by omega) q1 q2 q3 q4 this.1 this.2
   rw [q5] at r
   exact r
  exact E _ rfl rfl rfl rfl rfl
end
section
variable {own own0:Nat→Nat} {G G0:GS} {m lb:Nat} {s s0:MS} {t:TW} {c key job hi k:Int} {N n:Nat} {Q':aY→MS→Prop} {x:aY}
theorem adI (ae:FuncId→Bool) (bD:ae 187=false) (kU:ae 309=false) (eu:ae 211=false) (L:Pl t N) (ko:0≤aB t 0 0) (hc:0≤c∧c<t.u11) :
  ∀ (n i:Nat) (τ:Env) (own:Nat→Nat) (G:GS) (s:MS) (x:aY),i+n≤400→x.line≠9→gR t c Q' n x s→x.ok t→s.ok→PW (gE own0 1 2 3) own0 G0 own G m s→xF own 1 2 3 t c G lb x→τ 1=P0 m→τ 11=P0 lb→τ 12= .int .i64 i →
  Wp ((bA Q ae).du 11 0 τ G) fun q=>q.1= .exit 0∧q.2.1 10=τ 10∧q.2.1 11=P0 lb∧∃ ah s1 x1,PW (gE own0 1 2 3) own0 G0 ah q.2.2 m s1∧xF ah 1 2 3 t c q.2.2 lb x1∧x1.line=9∧Q' x1 s1:=by
 intro n
 induction n with
 | zero =>
  intro i τ own G s x hi h9 he
  cases he with
  | done e=>exact absurd e h9
 | succ n ih =>
  intro i τ own G s x hi h9 he hx hm w hp t1 t11 t12
  cases he with
  | done e=>exact absurd e h9
  | more _ qs he =>
   obtain ⟨ah,G1,e1,w1,p1⟩:=acG ae bD kU eu L.snd L.fA L.ar ko hc w.pm hm hx qs (by decide) (by decide) (by decide) (by decide) (by decide) (by decide) hp
   have di:=hx.step L.snd L.fA L.ar (c:=c) hm
   have w2:PW (gE own0 1 2 3) own0 G0 ah G1 m (x.step t c s).2:=w.trans w1 fun g hg k=>by
    have:=w.aO.same hg
    unfold gE at k ⊢
    rw [this] at k; exact k
   have aJ:(i:Int)<400:=by omega
   have mI:IntKind.wrap .i64 ((i:Int)+1)=((i+1:Nat):Int):=wrap64 (by omega) (by omega)
   generalize (x.step t c s).1=y at *
   generalize (x.step t c s).2=s' at *
   refine Wp.lp (YR (ai Q ae)) ?_
   by_cases hy:y.line=9
   ·simp [-Int.natCast_add,IE,ao,t1,t11,t12,aJ,e1,hy]
    refine ⟨ah,s',w2,y,p1,hy,?_⟩
    cases he with
    | done _ q=>exact q
    | more q=>exact absurd hy q
   ·have e2:=Ss ae di.1.line p1
    rw [if_neg hy] at e2
    simp [-Int.natCast_add,IE,ao,t1,t11,t12,aJ,e1,hy,e2,mI]
    refine (ih (i+1) _ ah G1 s' y (by omega) hy he di.1 di.2 w2 p1 (by simp [ao]) (by simp [ao]) (by simp [ao])).mono ?_
    rintro q ⟨q1,q2,q3,aG,s2,x2,r1,r2,r3,r4⟩
    exact ⟨q1,by rw [q2]; simp [ao],q3,aG,s2,r1,x2,r2,r3,r4⟩
theorem adJ (ae:FuncId→Bool) (bD:ae 187=false) (kU:ae 309=false) (eu:ae 211=false) (L:Pl t N) (ko:0≤aB t 0 0) (hn:n≤400) (h:PM own G m s) (hm:s.ok)
  (hk:U key∧key≠18446744073709551615) (hj:0≤job∧job≤65534) (hh:1≤hi∧hi≤t.ay) (he:gR t 0 Q' n (aY.new t key job hi) s) (hQ:∀ x s,Q' x s→x.er=0) :
  ∃ ah G1 s1 x1,(E ae).cl 11 [t.v,P0 m,.int .u64 key,.int .i64 job,.int .i64 hi] G=some (.bool true,G1)∧PW (gE own 1 2 3) own G ah G1 m s1∧Q' x1 s1:=by
 have hu:=L.u11
 obtain ⟨G1,aj⟩:∃ G1,G1=G.push ⟨t.cells,1,false,1⟩:=⟨_,rfl⟩
 have o1:G1.obj G.nx=some ⟨t.cells,1,false,1⟩:=by rw [aj]; simp
 have x1:Ext G G1:=by rw [aj]; exact (Ext.refl G).push _
 obtain ⟨lb,G2,e2,x2,nC,hP⟩:=acH (hi:=hi) (job:=job) (key:=key) (c:=0) ae L.snd ko ⟨by decide,by omega⟩ hk hj hh G1
 have x12:=x1.trans x2
 have w1:PW (gE own 1 2 3) own G (grown own G 1) G2 m s:=(PW.refl h).de x12 1
 have p1:=hP (grown own G 1) 1 2 3 fun g hg _=>by unfold grown; rw [if_neg (by have:=x1.nx; omega)]
 have W:Wp (s11 true (bA Q ae) t.v (P0 m) (.int .u64 key) (.int .i64 job) (.int .i64 hi) G) fun q=>q.1= .bool true∧∃ ah s1 x1,PW (gE own 1 2 3) own G ah q.2 m s1∧Q' x1 s1:=by
  simp [s11,← aj,o1,e2]
  refine Wp.bE ((adI ae bD kU eu L ko ⟨by decide,by omega⟩ n 0 _ _ G2 s _ (by omega) (by simp [aY.new]) he (aY.ju L.snd hj hh hk.1 L.ar) hm w1 p1 (by simp [ao]) (by simp [ao]) (by simp [ao])).mono ?_)
  rintro ⟨e,τ,G3⟩ ⟨rfl,t10,t11,ah,s1,x1,w3,p3,h9,q⟩
  simp only at t10 t11 w3 p3
  have e3:=Ss ae (.inr (.inr (.inr (.inr (.inr h9))))) p3
  rw [if_pos h9,hQ _ _ q] at e3
  simp [t10,t11,e3,ao]
  exact ⟨ah,s1,w3,x1,q⟩
 obtain ⟨⟨v,G'⟩,e,q,ah,s1,x1,w3,q3⟩:=W
 simp only at q
 subst q
 exact ⟨ah,G',s1,x1,f11 (ai Q ae) _ _ _ _ _ G _ e,w3,q3⟩
end
def iE (cr H:Int):TW:=⟨20+cr+H,20+cr,H,0,1,7,8,15,9,16,17,cr,17+cr⟩
def jK (cr H:Int):Int:=20+cr+H+7*(4+H)
theorem adK {cr H:Int} (h1:1≤cr∧cr≤5) (h2:1≤H∧H≤3):Pl (iE cr H) (jK cr H+2*cr).toNat:=by
 unfold jK
 refine ⟨?_,rfl,rfl,rfl,rfl,by simp [iE],rfl,rfl,by simp only [iE]; omega,rfl,rfl,rfl,by simp only [iE]; omega,by omega⟩
 simp only [TW.sound,iE]; omega
theorem adL (ae:FuncId→Bool) {cr H:Int} (h1:1≤cr∧cr≤5) (h2:1≤H∧H≤3) (G:GS):∃ G',(E ae).cl 7 [.int .i64 7,.int .i64 cr,.int .i64 H,.int .i64 9] G=some (.tuple #[(iE cr H).v,.int .i64 (jK cr H)],G')∧Ext G G':=by
 have w1:IntKind.wrap .i64 (17+cr)=17+cr:=wrap64 (by omega) (by omega)
 have w2:IntKind.wrap .i64 (20+cr)=20+cr:=wrap64 (by omega) (by omega)
 have w3:IntKind.wrap .i64 (20+cr+H)=20+cr+H:=wrap64 (by omega) (by omega)
 have w4:IntKind.wrap .i64 (4+H)=4+H:=wrap64 (by omega) (by omega)
 have w5:IntKind.wrap .i64 (7*(4+H))=7*(4+H):=wrap64 (by omega) (by omega)
 have w6:IntKind.wrap .i64 (20+cr+H+7*(4+H))=20+cr+H+7*(4+H):=wrap64 (by omega) (by omega)
 have c8:IntKind.wrap .i64 8=8:=by decide
 have c14:IntKind.wrap .i64 14=14:=by decide
 have c15:IntKind.wrap .i64 15=15:=by decide
 have c16:IntKind.wrap .i64 16=16:=by decide
 have c17:IntKind.wrap .i64 17=17:=by decide
 have c20:IntKind.wrap .i64 20=20:=by decide
 have hz1:z34=List.replicate 13 (.int .i64 0):=rfl
 have dY:z28=List.replicate 6 (.int .i64 0):=rfl
 have uc:z32=List.replicate 10 (.int .i64 0):=rfl
 have xu:z26=List.replicate 3 (.int .i64 0):=rfl
 have hz5:z30=List.replicate 3 (.int .i64 0):=rfl
 have n1:¬ G.nx=G.nx+1:=by omega
 have n2:¬ G.nx=G.nx+1+1:=by omega
 have n3:¬ G.nx=G.nx+1+1+1:=by omega
 have n1':¬ G.nx+1=G.nx:=by omega
 have n2':¬ G.nx+1+1=G.nx:=by omega
 have JS:¬ G.nx+1+1+1=G.nx:=by omega
 have W:Wp (s7 true (bA Q ae) (.int .i64 7) (.int .i64 cr) (.int .i64 H) (.int .i64 9) G) fun q=>q.1= .tuple #[(iE cr H).v,.int .i64 (jK cr H)]∧Ext G q.2:=by
  simp [s7,w1,w2,w3,w4,w5,w6,c8,c14,c15,c16,c17,c20,hz1,dY,uc,xu,hz5,n1,n2,n3,n1',n2',JS,bQ,bO,eC]
  refine ⟨⟨⟨rfl,rfl,rfl,rfl,rfl,rfl,rfl,rfl,rfl,rfl,rfl,rfl,rfl⟩,rfl⟩,?_⟩
  exact ((((((((((Ext.refl G).push _).push _).put (by omega) _).push _).put (by omega) _).push _).put (by omega) _).room _).put (by omega) _)
 obtain ⟨⟨v,G'⟩,e,q,x⟩:=W
 simp only at q x
 subst q
 exact ⟨G',f7 (ai Q ae) _ _ _ _ G _ e,x⟩
section
variable {own:Nat→Nat} {G:GS} {tb:Nat} {v:Value} {L:List Int}
theorem dV.Ib (h:dV own tb G v L) (x:Int) (hl:L.length≤1000):∃ v' G',oz 1 8 v (.slice (some ⟨G.nx,0,none⟩) 1 1) (G.push ⟨(bK .u64).row x,1,false,1⟩)=some (v',G')∧nq [tb] own G G' ∧dV (grown own G tb) tb G' v' (L++[x]):=by
 have x1:Ext G (G.push ⟨(bK .u64).row x,1,false,1⟩):=(Ext.refl G).push _
 obtain ⟨v',G',e,m,o⟩:=cj.IP (ib:=8) (h.ow.ext x1) (by decide) (bI.one (bK .u64) G x) (by simp) (by simp; omega)
 refine ⟨v',G',e,?_,o.mono (Nat.zero_le _),fun g hg=>?_⟩
 ·refine bG.trans (x1.rW _) (m.mono fun g hg=>?_)
  exact .inl (by have:=h.tag g hg; simp [this])
 ·have:=o.from hg
  exact gx (by have:=x1.nx; omega)
end
def kr (KS:List Int) (i:Int):Int:=7*(KS.getD i.toNat 0 % 20)+i+1
def iP (KS:List Int) (n:Nat):List Int:=(List.range n).map fun (c:Nat)=>kr KS c
theorem adM (KS:List Int) (n:Nat):iP KS (n+1)=iP KS n++[kr KS n]:=by
 simp [iP,List.range_succ]
theorem Fj (KS:List Int) (n:Nat):(iP KS n).length=n:=by simp [iP]
section
variable {own own0:Nat→Nat} {A G G0:GS} {m tb xb:Nat} {s s0:MS} {t:TW} {N:Nat} {v0 v3 v4 z11:Value} {KS:List Int} {cr H:Int}
theorem adN (ae:FuncId→Bool) (bD:ae 187=false) (kU:ae 309=false) (eu:ae 211=false) (L:Pl t N) (ko:0≤aB t 0 0) (hz:t.size=7) (hH:t.ay=H) (hH3:H≤3)
  (hv:bI (bK .i64) A v0 KS) (hl:KS.length≤6) (eJ:tb<A.nx) (EH:A.obj tb=some ⟨t.cells,1,false,1⟩) :
  ∀ (k i:Nat) (τ:Env) (own:Nat→Nat) (G:GS) (s:MS) (g:Sh) (u:Value),i+k=KS.length→Ext A G→(∀ x,x<A.nx→own x=20)→PM own G m s→dV own 21 G u (iP KS i)→Sl t N i i (kr KS) (fun i=>i) (fun _=>0) g s →
   τ 0=v0→τ 1= .int .i64 H→τ 2= .int .i64 cr→τ 3=v3→τ 4=v4→τ 11=z11→τ 12=P0 tb→τ 14=P0 xb→τ 15=P0 m→τ 17=u→τ 18= .int .i64 i →
  Wp ((bA Q ae).du 3 0 τ G) fun q=>q.1= .exit 0∧(q.2.1 1= .int .i64 H∧q.2.1 2= .int .i64 cr∧q.2.1 3=v3∧q.2.1 4=v4∧q.2.1 11=z11∧q.2.1 12=P0 tb∧q.2.1 14=P0 xb∧q.2.1 15=P0 m)∧Ext A q.2.2∧∃ own s g,(∀ x,x<A.nx→own x=20)∧PM own q.2.2 m s∧dV own 21 q.2.2 (q.2.1 17) (iP KS KS.length)∧Sl t N KS.length KS.length (kr KS) (fun i=>i) (fun _=>0) g s:=by
 intro k
 induction k with
 | zero =>
  intro i τ own G s g u hi hx hB h ho hS t0 t1 t2 t3 t4 t11 t12 t14 t15 t17 t18
  have bw:i=KS.length:=by omega
  subst bw
  obtain ⟨a,c,rfl⟩:=hv.len
  refine Wp.lp (PV (ai Q ae)) ?_
  simp [yU,ao,t0,t1,t2,t3,t4,t11,t12,t14,t15,t17,t18]
  exact ⟨hx,own,hB,s,h,ho,g,hS⟩
 | succ k ih =>
  intro i τ own G s g u hi hx hB h ho hS t0 t1 t2 t3 t4 t11 t12 t14 t15 t17 t18
  have aJ:i<KS.length:=by omega
  have ki:(0:Int)≤i:=by omega
  have hh:=L.snd.1
  obtain ⟨b,o,c,e0,Fk,q0,q1⟩:=(hv.ext hx).at aJ
  have c0:=q0 0 (by decide)
  simp [-iv,bK] at c0
  obtain ⟨K0,zT⟩:∃ K0,K0=KS[i]:=⟨_,rfl⟩
  rw [← zT] at c0
  have kM:=Int.emod_nonneg K0 (show (20:Int)≠0 by decide)
  have fH:=Int.emod_lt_of_pos K0 (show (0:Int)<20 by decide)
  have wo:=Int.emod_nonneg K0 (show H≠0 by omega)
  have hp3:=Int.emod_lt_of_pos K0 (show (0:Int)<H by omega)
  have e20:∀ G,(E ae).cl 6 [.int .i64 K0,.int .i64 20] G=some (.int .i64 (K0 % 20),G):=fun G=>zh ae _ 20 (by decide) (by decide) G
  have eH:∀ G,(E ae).cl 6 [.int .i64 K0,.int .i64 H] G=some (.int .i64 (K0 % H),G):=fun G=>zh ae _ H (by omega) (by omega) G
  have w1:IntKind.wrap .i64 (7*(K0 % 20))=7*(K0 % 20):=wrap64 (by omega) (by omega)
  have w2:IntKind.wrap .i64 (7*(K0 % 20)+i)=7*(K0 % 20)+i:=wrap64 (by omega) (by omega)
  have w3:IntKind.wrap .i64 (7*(K0 % 20)+i+1)=7*(K0 % 20)+i+1:=wrap64 (by omega) (by omega)
  have w4:IntKind.wrap .u64 (7*(K0 % 20)+i+1)=7*(K0 % 20)+i+1:=by unfold IntKind.wrap; simp [IntKind.bits,IntKind.signed]; omega
  have w5:IntKind.wrap .i64 (1+K0 % H)=1+K0 % H:=wrap64 (by omega) (by omega)
  have mI:IntKind.wrap .i64 ((i:Int)+1)=((i+1:Nat):Int):=wrap64 (by omega) (by omega)
  have qV:kr KS i=7*(K0 % 20)+i+1:=by
   unfold kr
   rw [Int.toNat_natCast,List.getD_eq_getElem?_getD,List.getElem?_eq_getElem aJ,Option.getD_some,← zT]
  obtain ⟨u',G1,a1,m1,o1⟩:=ho.Ib (7*(K0 % 20)+i+1) (by rw [Fj]; omega)
  obtain ⟨G2,aD⟩:∃ G2,G2=G1.room 13:=⟨_,rfl⟩
  have m2:nq [21] own G G2:=by rw [aD]; exact bG.room m1 13
  have ag:bW own (grown own G 21) G:=db
  have h2:PM (grown own G 21) G2 m s:=h.qI m2 (by decide) ag
  have rD:dV (grown own G 21) 21 G2 u' (iP KS i++[7*(K0 % 20)+i+1]):=o1.to (by rw [aD]; simp) (fun g _=>by rw [aD]; rfl) (bW.refl _ _)
  have x2:Ext A G2:=nq.vr m2 (fun g hg=>by rw [hB g hg]; decide) hx
  have Co:∀ x,x<A.nx→grown own G 21 x=20:=fun x qX=>(ag x (Nat.lt_of_lt_of_le qX hx.nx)).trans (hB x qX)
  obtain ⟨b2,o2,cc2,e02,_,q02,_⟩:=(hv.ext x2).at aJ
  have c02:=q02 0 (by decide)
  simp [-iv,bK] at c02
  rw [← zT] at c02
  rw [e0] at e02
  cases e02
  have Kz:=(x2.obj tb eJ).trans EH
  have el:eI 13 tb 0 G2=some t.v:=by simp [Kz]
  have adO:G1.obj tb=some ⟨t.cells,1,false,1⟩:=by rw [aD] at Kz; simpa using Kz
  have el1:eI 13 tb 0 G1=some t.v:=by simp [adO]
  have adP:=adz (c:=0) (key:=7*(K0 % 20)+i+1) (job:=i) (hi:=1+K0 % H) L ⟨by decide,by have:=L.u11; omega⟩ rfl (by omega) (by omega) (by omega) ⟨by omega,by omega⟩ ⟨by omega,by omega⟩ hS qV rfl (fun j j0 j1=>by unfold kr; omega) (by omega)
  obtain ⟨bB,G3,s3,x3,e3,fq,AF,g3,Tc⟩:=adJ ae bD kU eu L ko (by decide) h2 hS.sm.ok ⟨⟨by omega,by omega⟩,by omega⟩ ⟨by omega,by omega⟩ (by omega) adP (fun x s h=>h.1)
  have JH:Ext A G3:=fq.aO.vr x2 fun g hg=>by
   have:=Co g hg
   refine ⟨by omega,?_⟩
   unfold gE
   omega
  have zU:∀ x,x<A.nx→bB x=20:=fun x qX=>(fq.aO.same (Nat.lt_of_lt_of_le qX x2.nx)).trans (Co x qX)
  have ho3:dV bB 21 G3 u' (iP KS (i+1)):=by
   rw [adM,qV]
   refine rD.to fq.nx (fun g hg=>?_) fq.aO.cd
   have:=rD.tag g hg
   refine fq.keep (rD.lt hg) (by omega) ?_
   unfold gE
   omega
  rw [show ((i:Nat):Int)+1=((i+1:Nat):Int) by omega] at Tc
  simp [bK] at a1
  refine Wp.lp (PV (ai Q ae)) ?_
  simp [-Int.natCast_add,-iv,-iw,yU,ao,t0,t1,t2,t3,t4,t11,t12,t14,t15,t17,t18,e0,aJ,ki,c0,e20,eH,w1,w2,w3,w4,w5,mI,a1,← aD,el,el1,c02,e3]
  refine (ih (i+1) _ bB G3 s3 g3 u' (by omega) JH zU fq.pm ho3 Tc ?_ ?_ ?_ ?_ ?_ ?_ ?_ ?_ ?_ ?_ ?_).mono ?_
  ·simp [ao]; exact e0.symm
  rotate_right
  ·rintro q ⟨q1,q2,q3,own,s,g,r1,r2,r3,r4⟩
   exact ⟨q1,q2,q3,own,r1,s,r2,r3,g,r4⟩
  all_goals simp [ao,t2,t3,t4,t11,t14]
end
def iF (RS:List Int) (c:Nat):Int:=if c<RS.length∧(RS.getD c 0).tmod 5≠0 then RS.getD c 0 % 150 else 18446744073709551615
def dz (RS:List Int) (n:Nat):List Int:=(List.range n).map fun (c:Nat)=>iF RS c
theorem Fl (RS:List Int) (n:Nat):dz RS (n+1)=dz RS n++[iF RS n]:=by
 simp [dz,List.range_succ]
theorem xR (RS:List Int) (n:Nat):(dz RS n).length=n:=by simp [dz]
theorem Td (RS:List Int) (c:Nat):U (iF RS c):=by
 unfold iF U
 split<;>omega
theorem Te (L M:List Int) {i:Nat} (h:i<L.length):(L++M).getD i 0=L.getD i 0:=by
 simp [List.getD_eq_getElem?_getD,List.getElem?_append_left h]
theorem Tf (L M:List Int):∀ i,i≤L.length→gr (L++M) i=gr L i
 | 0,_=>rfl
 | i+1,h=>by
  have ih:=Tf L M i (by omega)
  have b:=tZ L i
  unfold gr
  rw [ih,Te L M (show i<L.length by omega)]
  by_cases q:gr L i<0
  ·rw [if_pos (.inl q),if_pos (.inl q)]
  ·rw [Te L M (show (gr L i).toNat<L.length by omega)]
def gM (L:List Int):Int:=if L.length=0 then 0 else gr L L.length
theorem adQ (L:List Int) (x:Int):gM (L++[x])=if (L++[x]).getD (gM L).toNat 0<x then (L.length:Int) else gM L:=by
 have e:(L++[x]).getD L.length 0=x:=by simp [List.getD_eq_getElem?_getD]
 unfold gM
 by_cases h:L.length=0
 ·have:L=[]:=List.eq_nil_of_length_eq_zero h
  subst this
  simp [gr]
 ·rw [if_neg (by simp),if_neg h]
  have b:=tZ L L.length
  have b0:=b.2.2 (by omega)
  have:(L++[x]).length=L.length+1:=by simp
  rw [this,gr,Tf L [x] L.length (Nat.le_refl _),e]
  by_cases q:(L++[x]).getD (gr L L.length).toNat 0<x
  ·rw [if_pos q,if_pos (.inr q)]
  ·rw [if_neg q,if_neg (by omega)]
theorem adR {s s':MS} {k:Int} {n:Nat} (h:∀ c:Nat,c<n→s'.aI (k+c)=s.aI (k+c)):gf s' k n=gf s k n:=by
 unfold gf
 refine List.map_congr_left fun c hc=>h c (List.mem_range.1 hc)
structure KA (A:GS) (t:TW) (N:Nat) (w:dU) (KS RS:List Int) (m:Nat) (own:Nat→Nat) (G:GS) (s:MS) (g:Sh) (u v:Value) (i:Nat):Prop where
 x:Ext A G
 hB:∀ x,x<A.nx→own x=20
 pm:PM own G m s
 all:dV own 21 G u (iP KS KS.length)
 l:dV own 22 G v (dz RS i)
 sl:Sl t N KS.length KS.length (kr KS) (fun i=>i) (fun _=>0) g s
 row:gf s w.runs i=dz RS i
def KB (H cr:Int) (v4 z11:Value) (tb xb m:Nat) (τ:Env) (u v:Value):Prop :=
 τ 1= .int .i64 H∧τ 2= .int .i64 cr∧τ 4=v4∧τ 11=z11∧τ 12=P0 tb∧τ 14=P0 xb∧τ 15=P0 m∧τ 17=u∧τ 21=v
def Tg (A:GS) (t:TW) (N:Nat) (w:dU) (KS RS:List Int) (H cr:Int) (v4 z11:Value) (tb xb m:Nat) (q:Exit×Env×GS):Prop :=
 q.1= .exit 2∧q.2.1 20= .int .i64 (gM (dz RS cr.toNat))∧∃ own s g u v,KB H cr v4 z11 tb xb m q.2.1 u v∧KA A t N w KS RS m own q.2.2 s g u v cr.toNat
section
variable {own own0:Nat→Nat} {A G G0:GS} {m tb xb:Nat} {s s0:MS} {t:TW} {N:Nat} {v0 v3 v4 z11:Value} {KS RS:List Int} {cr H:Int} {w:dU}
theorem adS (ae:FuncId→Bool) (L:Pl t N) (gm:1≤cr∧cr≤5) (hw:w.bc=cr) (hE:t.nodes+t.size*(4+t.ay)≤w.runs) (hN:w.runs+cr≤N)
  (hv:bI (bK .i64) A v3 RS) (hl:RS.length≤5) (hxb:xb<A.nx) (zx:A.obj xb=some ⟨w.cells,1,false,1⟩) :
  ∀ (k i:Nat) (τ:Env) (own:Nat→Nat) (G:GS) (s:MS) (g:Sh) (u v:Value),((i+k:Nat):Int)=cr→KA A t N w KS RS m own G s g u v i→KB H cr v4 z11 tb xb m τ u v→τ 3=v3→τ 20= .int .i64 (gM (dz RS i))→τ 22= .int .i64 i →
  Wp ((bA Q ae).du 3 1 τ G) (Tg A t N w KS RS H cr v4 z11 tb xb m):=by
 have le:=L.le
 intro k
 induction k with
 | zero =>
  intro i τ own G s g u v hi I Ev t3 t20 t22
  have bw:i=cr.toNat:=by omega
  have aJ:¬ (i:Int)<cr:=by omega
  have E':=Ev
  obtain ⟨t1,t2,t4,t11,t12,t14,t15,t17,t21⟩:=Ev
  refine Wp.lp (PY (ai Q ae)) ?_
  simp [vq,wZ,ao,t2,t3,t14,t15,t20,t21,t22,aJ]
  refine ⟨rfl,by simp [ao,bw],own,s,g,u,v,⟨?_,?_,?_,?_,?_,?_,?_,?_,?_⟩,bw ▸I⟩<;>simp [ao,t1,t4,t11,t12,t17]
 | succ k ih =>
  intro i τ own G s g u v hi I Ev t3 t20 t22
  have aJ:(i:Int)<cr:=by omega
  have mI:IntKind.wrap .i64 ((i:Int)+1)=((i+1:Nat):Int):=wrap64 (by omega) (by omega)
  have ki:(0:Int)≤i:=by omega
  have hB:=I.hB
  have n0:0≤w.runs:=by
   have mz:0≤t.size*(4+t.ay):=Int.mul_nonneg (by have:=L.snd.2.2.1; omega) (by have:=L.snd.1; omega)
   have:=L.snd.2.2.2.2.1
   omega
  have Kt:IntKind.wrap .i64 (w.runs+i)=w.runs+i:=wrap64 (by omega) (by omega)
  have gb:=tZ (dz RS i) (dz RS i).length
  have adT:0≤gM (dz RS i)∧gM (dz RS i)≤i:=by
   unfold gM
   split
   ·omega
   ·rw [xR] at *; omega
  have go:∀ (τ:Env),KB H cr v4 z11 tb xb m τ u v→τ 3=v3→τ 20= .int .i64 (gM (dz RS i))→τ 22= .int .i64 i→τ 23= .int .u64 (iF RS i) →
    Wp (nj true (bA Q ae) ((bA Q ae).du 3 1) τ G) (Tg A t N w KS RS H cr v4 z11 tb xb m):=by
   intro τ E t3 t20 t22 t23
   obtain ⟨t1,t2,t4,t11,t12,t14,t15,t17,t21⟩:=E
   have adU:=(I.x.obj xb hxb).trans zx
   obtain ⟨ah,G1,e1,w1⟩:=I.pm.store ae (w.runs+i) (iF RS i)
   have x1:Ext A G1:=w1.aO.vr I.x fun g hg=>⟨by rw [hB g hg]; decide,id⟩
   have Ti:∀ x,x<A.nx→ah x=20:=fun x qX=>(w1.aO.same (Nat.lt_of_lt_of_le qX I.x.nx)).trans (hB x qX)
   have keep:∀ {g:Nat},g<G.nx→own g≠10→G1.obj g=G.obj g:=fun hg h=>w1.keep hg h id
   have KC:dV ah 21 G1 u (iP KS KS.length):=I.all.to w1.nx (fun g hg=>keep (I.all.lt hg) (by rw [I.all.tag g hg]; decide)) w1.aO.cd
   have l1:dV ah 22 G1 v (dz RS i):=I.l.to w1.nx (fun g hg=>keep (I.l.lt hg) (by rw [I.l.tag g hg]; decide)) w1.aO.cd
   obtain ⟨v',G2,a2,m2,l2⟩:=l1.Ib (iF RS i) (by rw [xR]; omega)
   have ag:bW ah (grown ah G1 22) G1:=db
   obtain ⟨G3,cF⟩:∃ G3,G3=G2.room 9:=⟨_,rfl⟩
   have m3:nq [22] ah G1 G3:=by rw [cF]; exact bG.room m2 9
   have x3:Ext A G3:=nq.vr m3 (fun g hg=>by rw [Ti g hg]; decide) x1
   have zU:∀ x,x<A.nx→grown ah G1 22 x=20:=fun x qX=>(ag x (Nat.lt_of_lt_of_le qX x1.nx)).trans (Ti x qX)
   have h3:PM (grown ah G1 22) G3 m (s.store (w.runs+i) (iF RS i)):=w1.pm.qI m3 (by decide) ag
   have adV:dV (grown ah G1 22) 21 G3 u (iP KS KS.length):=KC.to m3.nx (fun g hg=>m3.same (KC.lt hg) (by rw [KC.tag g hg]; decide)) ag
   have l3:dV (grown ah G1 22) 22 G3 v' (dz RS (i+1)):=by
    rw [Fl]
    exact l2.to (by rw [cF]; simp) (fun g _=>by rw [cF]; rfl) (bW.refl _ _)
   have hlen:=I.sl.sm.len
   have fG:0≤w.runs+i∧w.runs+i<s.W.length:=⟨by omega,by omega⟩
   have sl3:=I.sl.high L (lT s (w.runs+i) (iF RS i)) (I.sl.sm.ok.store _ (Td RS i)) fun b hb=>zO (by omega)
   have adW:gf (s.store (w.runs+i) (iF RS i)) w.runs (i+1)=dz RS (i+1):=by
    rw [JG,Fl,oR fG,if_pos rfl,← I.row]
    congr 1
    exact adR fun c hc=>zO (by omega)
   have I3:KA A t N w KS RS m (grown ah G1 22) G3 (s.store (w.runs+i) (iF RS i)) g u v' (i+1):=⟨x3,zU,h3,adV,l3,sl3,adW⟩
   obtain ⟨wn,qb⟩:=Int.eq_ofNat_of_zero_le adT.1
   have wl:wn<(dz RS (i+1)).length:=by rw [xR]; omega
   have il:i<(dz RS (i+1)).length:=by rw [xR]; omega
   obtain ⟨b,o,c,e0,Fk,q0,q1⟩:=l3.ow.is.at il
   have c0:=q0 0 (by decide)
   obtain ⟨b2,o2,c2,e02,apW,q02,q12⟩:=l3.ow.is.at wl
   have c02:=q02 0 (by decide)
   simp [-iv,bK] at c0 c02
   rw [e0] at e02
   cases e02
   have gi:(dz RS (i+1))[i]=iF RS i:=by simp [dz]
   have gw:(dz RS (i+1))[wn]=(dz RS i++[iF RS i]).getD (gM (dz RS i)).toNat 0:=by
    rw [← Fl,qb]
    simp [List.getD_eq_getElem?_getD,List.getElem?_eq_getElem wl]
   rw [gi] at c0
   obtain ⟨y,hy⟩:∃ y,y=(dz RS (i+1))[wn]:=⟨_,rfl⟩
   rw [← hy] at c02
   have Fm:gM (dz RS (i+1))=if y<iF RS i then (i:Int) else gM (dz RS i):=by
    rw [Fl,adQ,hy,gw,xR]
   have iL:i<i+1:=by omega
   have wL:wn<i+1:=by omega
   have ll:=xR RS (i+1)
   have i0':(0:Int)≤(wn:Int):=by omega
   simp [bK] at a2
   have cx:G.cell xb 0=some (.int .i64 w.runs):=by simp [adU]
   simp only [ll] at e0
   simp [-Int.natCast_add,-iv,-iw,nj,D2,ao,t2,t3,t14,t15,t20,t21,t22,t23,cx,Kt,e1,a2,e0,ki,iL,wL,c0,c02,qb,i0',← cF]
   by_cases wg:y<iF RS i
   ·rw [if_pos wg] at Fm
    simp [-Int.natCast_add,-iv,mF,Bw,ao,wg,mI,t2,t3,t14,t15,t22]
    refine ih (i+1) _ _ G3 _ g u _ (by omega) I3 ⟨?_,?_,?_,?_,?_,?_,?_,?_,?_⟩ ?_ ?_ ?_
    ·simp [ao,t1]
    ·simp [ao]
    ·simp [ao,t4]
    ·simp [ao,t11]
    ·simp [ao,t12]
    ·simp [ao]
    ·simp [ao]
    ·simp [ao,t17]
    ·simp [ao]; exact e0.symm
    ·simp [ao]
    ·simp [ao,Fm]
    ·simp [ao]
   ·rw [if_neg wg,qb] at Fm
    simp [-Int.natCast_add,-iv,mF,Bw,ao,wg,mI,t2,t3,t14,t15,t22]
    refine ih (i+1) _ _ G3 _ g u _ (by omega) I3 ⟨?_,?_,?_,?_,?_,?_,?_,?_,?_⟩ ?_ ?_ ?_
    ·simp [ao,t1]
    ·simp [ao]
    ·simp [ao,t4]
    ·simp [ao,t11]
    ·simp [ao,t12]
    ·simp [ao]
    ·simp [ao]
    ·simp [ao,t17]
    ·simp [ao]; exact e0.symm
    ·simp [ao]
    ·simp [ao,Fm]
    ·simp [ao]
  have E':=Ev
  obtain ⟨t1,t2,t4,t11,t12,t14,t15,t17,t21⟩:=E'
  have lv:∀ t,ln Q true t v3=some (.int .i64 RS.length):=fun t=>by obtain ⟨a,c,h⟩:=hv.len; rw [h]; simp
  refine Wp.lp (PY (ai Q ae)) ?_
  by_cases hr:i<RS.length
  ·obtain ⟨b,o,c,e0,Fk,q0,q1⟩:=(hv.ext I.x).at hr
   have c0:=q0 0 (by decide)
   simp [-iv,bK] at c0
   obtain ⟨K0,zT⟩:∃ K0,K0=RS[i]:=⟨_,rfl⟩
   rw [← zT] at c0
   have hg:RS.getD i 0=K0:=by rw [List.getD_eq_getElem?_getD,List.getElem?_eq_getElem hr,Option.getD_some,zT]
   have kM:=Int.emod_nonneg K0 (show (150:Int)≠0 by decide)
   have fH:=Int.emod_lt_of_pos K0 (show (0:Int)<150 by decide)
   have e150:∀ G,(E ae).cl 6 [.int .i64 K0,.int .i64 150] G=some (.int .i64 (K0 % 150),G):=fun G=>zh ae _ 150 (by decide) (by decide) G
   have w4:IntKind.wrap .u64 (K0 % 150)=K0 % 150:=by unfold IntKind.wrap; simp [IntKind.bits,IntKind.signed]; omega
   have xJ:(i:Int)<RS.length:=by omega
   by_cases hd:K0.tmod 5=0
   ·have qb:iF RS i=18446744073709551615:=by unfold iF; rw [if_neg]; rintro ⟨_,q⟩; rw [hg] at q; exact q hd
    simp [-Int.natCast_add,-iv,vq,wZ,ao,t2,t3,t14,t15,t20,t21,t22,aJ,e0,xJ,ki,hr,c0,hd]
    refine go _ ⟨?_,?_,?_,?_,?_,?_,?_,?_,?_⟩ ?_ ?_ ?_ ?_
    all_goals first
     | (simp [ao,t1,t4,t11,t12,t17,qb]; done)
     | (simp [ao]; exact e0.symm)
   ·have qb:iF RS i=K0 % 150:=by unfold iF; rw [if_pos ⟨hr,by rw [hg]; exact hd⟩,hg]
    simp [-Int.natCast_add,-iv,vq,wZ,ao,t2,t3,t14,t15,t20,t21,t22,aJ,e0,xJ,ki,hr,c0,hd,e150,w4]
    refine go _ ⟨?_,?_,?_,?_,?_,?_,?_,?_,?_⟩ ?_ ?_ ?_ ?_
    all_goals first
     | (simp [ao,t1,t4,t11,t12,t17,qb]; done)
     | (simp [ao]; exact e0.symm)
  ·have qb:iF RS i=18446744073709551615:=by unfold iF; rw [if_neg]; rintro ⟨q,_⟩; exact hr q
   have xJ:¬ (i:Int)<RS.length:=by omega
   simp [-Int.natCast_add,-iv,vq,wZ,ao,t2,t3,t14,t15,t20,t21,t22,aJ,lv,xJ,hr]
   refine go _ ⟨?_,?_,?_,?_,?_,?_,?_,?_,?_⟩ ?_ ?_ ?_ ?_
   all_goals (simp [ao,t1,t3,t4,t11,t12,t17,qb]; done)
end
def aN (L:List Int):Nat→Int
 | 0=>18446744073709551615
 | i+1=>if L.getD i 0<aN L i then L.getD i 0 else aN L i
theorem Tj (L:List Int):∀ i j,j<i→aN L i≤L.getD j 0
 | i+1,j,h=>by
  unfold aN
  by_cases e:j=i
  ·subst e; split<;>omega
  ·have:=Tj L i j (by omega)
   split<;>omega
theorem Tk (L:List Int):∀ i,aN L i=18446744073709551615∨∃ j,j<i∧aN L i=L.getD j 0
 | 0=>.inl rfl
 | i+1=>by
  unfold aN
  split
  ·exact .inr ⟨i,by omega,rfl⟩
  ·rcases Tk L i with e | ⟨j,h,e⟩
   ·exact .inl e
   ·exact .inr ⟨j,by omega,e⟩
section
variable {own own0:Nat→Nat} {A G G0:GS} {m b:Nat} {s s0:MS} {t:TW} {N:Nat} {c cr H:Int} {w:dU} {Q':bg→MS→Prop} {v:Value} {L:List Int}
theorem adX (ae:FuncId→Bool) (hv:bI (bK .u64) A v L) (hL:L.length≤1000):∀ (k i:Nat) (τ:Env),i+k=L.length→τ 0=v→τ 3= .int .u64 (aN L i)→τ 4= .int .i64 i →
  Wp ((bA Q ae).du 16 0 τ A) fun q=>q.1= .exit 0∧q.2.1 3= .int .u64 (aN L L.length)∧q.2.2=A:=by
 intro k
 induction k with
 | zero =>
  intro i τ hi t0 t3 t4
  have bw:i=L.length:=by omega
  subst bw
  obtain ⟨a,c,rfl⟩:=hv.len
  refine Wp.lp (PN (ai Q ae)) ?_
  simp [Iy,ao,t0,t3,t4]
 | succ k ih =>
  intro i τ hi t0 t3 t4
  have aJ:i<L.length:=by omega
  have ki:(0:Int)≤i:=by omega
  have mI:IntKind.wrap .i64 ((i:Int)+1)=((i+1:Nat):Int):=wrap64 (by omega) (by omega)
  obtain ⟨b,o,c,e0,Fk,q0,q1⟩:=hv.at aJ
  have c0:=q0 0 (by decide)
  simp [-iv,bK] at c0
  have hd:L.getD i 0=L[i]:=by rw [List.getD_eq_getElem?_getD,List.getElem?_eq_getElem aJ,Option.getD_some]
  refine Wp.lp (PN (ai Q ae)) ?_
  simp [-Int.natCast_add,-iv,Iy,ao,t0,t3,t4,e0,aJ,ki,c0,mI]
  refine ih (i+1) _ (by omega) (by simp [ao]; exact e0.symm) ?_ (by simp [ao])
  have hn:aN L (i+1)=if L[i]<aN L i then L[i] else aN L i:=by rw [aN,hd]
  rw [hn]
  generalize aN L i=z at *
  by_cases q:L[i]<z
  ·rw [if_pos q]; simp [ao]
  ·rw [if_neg q]; simp [ao]
theorem adY (ae:FuncId→Bool) (hv:bI (bK .u64) G v L) (hL:L.length≤1000):(E ae).cl 16 [v] G=some (.int .u64 (aN L L.length),G):=by
 refine f16 (ai Q ae) _ G _ ?_
 have W:Wp (s16 true (bA Q ae) v G) fun q=>q=(.int .u64 (aN L L.length),G):=by
  simp [s16]
  refine Wp.bE ((adX ae hv hL L.length 0 _ (by omega) (by simp [ao]) (by simp [ao,aN]) (by simp [ao])).mono ?_)
  rintro ⟨e,τ,G'⟩ ⟨rfl,t3,rfl⟩
  simp only at t3
  simp [t3]
 obtain ⟨q,e,rfl⟩:=W
 exact e
theorem adZ (ae:FuncId→Bool) (bD:ae 187=false) (L:Pl t N) (hc:0≤c∧c<t.u11) (hw:w.qR) (gm:1≤cr∧cr≤5) (hH:1≤H∧H≤3) :
  ∀ (n i:Nat) (τ:Env) (own:Nat→Nat) (G:GS) (s:MS) (x:bg),(i+n:Nat)≤6*H*15+60+cr→x.line≠9→la t w c Q' n x s→x.ok t w→x.kp→s.ok→PW (p8 own0 31 32 33) own0 G0 own G m s→qa own 31 32 33 t w c G b x→τ 1= .int .i64 H→τ 2= .int .i64 cr→τ 15=P0 m→τ 25=P0 b→τ 26= .int .i64 i →
  Wp ((bA Q ae).du 3 2 τ G) fun q=>q.1= .exit 4∧(q.2.1 11=τ 11∧q.2.1 14=τ 14∧q.2.1 17=τ 17∧q.2.1 20=τ 20∧q.2.1 21=τ 21∧q.2.1 24=τ 24∧q.2.1 15=P0 m∧q.2.1 25=P0 b)∧∃ ah s1 x1,PW (p8 own0 31 32 33) own0 G0 ah q.2.2 m s1∧qa ah 31 32 33 t w c q.2.2 b x1∧x1.line=9∧Q' x1 s1:=by
 intro n
 induction n with
 | zero =>
  intro i τ own G s x hi h9 he
  cases he with
  | done e=>exact absurd e h9
 | succ n ih =>
  intro i τ own G s x hi h9 he hx hk hm wp hp t1 t2 t15 t25 t26
  cases he with
  | done e=>exact absurd e h9
  | more _ he =>
   obtain ⟨ah,G1,e1,w1,p1⟩:=adg ae bD L.snd L.fA hc hw wp.pm hm hx hk (by decide) (by decide) (by decide) (by decide) (by decide) (by decide) hp
   have di:=hx.step L.snd L.fA (c:=c) hm
   have iI:=hk.step (t:=t) (c:=c) (s:=s) hx
   have w2:PW (p8 own0 31 32 33) own0 G0 ah G1 m (x.step t w c s).2:=wp.trans w1 fun g hg k=>by
    have:=wp.aO.same hg
    unfold p8 at k ⊢
    rw [this] at k; exact k
   have aJ:(i:Int)<6*H*15+60+cr:=by omega
   have mI:IntKind.wrap .i64 ((i:Int)+1)=((i+1:Nat):Int):=wrap64 (by omega) (by omega)
   have a1:IntKind.wrap .i64 (6*H)=6*H:=wrap64 (by omega) (by omega)
   have a2:IntKind.wrap .i64 (6*H*15)=6*H*15:=wrap64 (by omega) (by omega)
   have a3:IntKind.wrap .i64 (6*H*15+60)=6*H*15+60:=wrap64 (by omega) (by omega)
   have a4:IntKind.wrap .i64 (6*H*15+60+cr)=6*H*15+60+cr:=wrap64 (by omega) (by omega)
   generalize (x.step t w c s).1=y at *
   generalize (x.step t w c s).2=s' at *
   refine Wp.lp (Y2 (ai Q ae)) ?_
   by_cases hy:y.line=9
   ·simp [-Int.natCast_add,yV,ao,t1,t2,t15,t25,t26,a1,a2,a3,a4,aJ,e1,hy]
    refine ⟨ah,s',w2,y,p1,hy,?_⟩
    cases he with
    | done _ q=>exact q
    | more q=>exact absurd hy q
   ·simp [-Int.natCast_add,yV,ao,t1,t2,t15,t25,t26,a1,a2,a3,a4,aJ,e1,hy,mI]
    refine (ih (i+1) _ ah G1 s' y (by omega) hy he di.1 iI di.2 w2 p1 (by simp [ao]) (by simp [ao]) (by simp [ao]) (by simp [ao]) (by simp [ao])).mono ?_
    rintro q ⟨q1,⟨q11,q14,q17,q20,q21,q24,q15,q25⟩,aG,s2,x2,r1,r2,r3,r4⟩
    refine ⟨q1,⟨?_,?_,?_,?_,?_,?_,q15,q25⟩,aG,s2,r1,x2,r2,r3,r4⟩
    ·rw [q11]; simp [ao]
    ·rw [q14]; simp [ao]
    ·rw [q17]; simp [ao]
    ·rw [q20]; simp [ao]
    ·rw [q21]; simp [ao]
    ·rw [q24]; simp [ao]
end
theorem ad0 {α:Type} (A B:List α) (x y:α):jZ (A++x::B) A.length [y]=A++y::B:=by
 unfold jZ
 simp
theorem KD (L:List Int):(bK .u64).flat L=L.map (Value.int .u64):=by
 induction L with
 | nil=>rfl
 | cons a l ih=>rw [cT.pC,ih]; rfl
section
variable {own own0:Nat→Nat} {A G G0:GS} {m b B:Nat} {s s0:MS} {t:TW} {N:Nat} {c cr H:Int} {w:dU} {Q':bg→MS→Prop} {v:Value} {L W:List Int}
theorem ad1 (h:cj (bK .u64) B G v W) {i:Nat} (hi:i<W.length) (x:Int):∃ b op,v= .slice (some ⟨b,0,none⟩) W.length W.length∧b<G.nx∧B≤b∧jY 1 b i (.int .u64 x) G=some (G.put b ⟨(bK .u64).flat (W.set i x),1,op,1⟩)∧bI (bK .u64) (G.put b ⟨(bK .u64).flat (W.set i x),1,op,1⟩) v (W.set i x):=by
 rcases h.2 with ⟨rfl,h0⟩ | ⟨b,op,rfl,h2,h3,h4⟩
 ·omega
 ·have ax:jY 1 b i (.int .u64 x) G=some (G.put b (aR.over ⟨(bK .u64).flat W,1,op,1⟩ i [.int .u64 x])):=by
   simp only [jY,Value.cells]
   exact HI h4 rfl rfl (by rw [KD]; simp; omega)
  have Ew:aR.over ⟨(bK .u64).flat W,1,op,1⟩ i [.int .u64 x]=⟨(bK .u64).flat (W.set i x),1,op,1⟩:=by
   unfold aR.over
   simp only
   congr 1
   rw [KD,KD]
   have hs:W=W.take i++W[i]::W.drop (i+1):=by simp
   have hl:(W.take i).length=i:=by simp; omega
   have e1:W.map (Value.int .u64)=(W.take i).map (Value.int .u64)++Value.int .u64 W[i]::(W.drop (i+1)).map (Value.int .u64):=by
    have:=congrArg (List.map (Value.int .u64)) hs
    rw [List.map_append,List.map_cons] at this
    exact this
   have e2:W.set i x=W.take i++x::W.drop (i+1):=by
    rw [List.set_eq_take_append_cons_drop,if_pos hi]
   rw [e2,e1]
   have:=ad0 ((W.take i).map (Value.int .u64)) ((W.drop (i+1)).map (Value.int .u64)) (Value.int .u64 W[i]) (Value.int .u64 x)
   rw [List.length_map,hl] at this
   rw [this]
   simp
  rw [Ew] at ax
  refine ⟨b,op,rfl,h3,h2,ax,?_⟩
  have:=bI.block (e:=bK .u64) (G:=G.put b ⟨(bK .u64).flat (W.set i x),1,op,1⟩) (b:=b) (L:=W.set i x) (op:=op) (by rw [aT,if_pos rfl]; rfl) (by simpa using h3)
  rw [List.length_set] at this
  exact this
theorem ad2 {s s':MS} (hl:s'.W.length=s.W.length) (h:∀ b,s'.aI b=s.aI b):s'.W=s.W:=by
 refine List.ext_getElem hl fun i h1 h2=>?_
 have:=h i
 unfold MS.aI at this
 rw [if_pos ⟨by omega,by omega⟩,if_pos ⟨by omega,by omega⟩,Int.toNat_natCast,List.getElem?_eq_getElem h1,List.getElem?_eq_getElem h2] at this
 exact this
theorem ad3 {s s':MS} {a:Nat} {x:Int} (hl:s'.W.length=s.W.length) (ha:a<s.W.length) (h:∀ b,s'.aI b=if b=(a:Int) then x else s.aI b):s'.W=s.W.set a x:=by
 refine List.ext_getElem (by simp [hl]) fun i h1 h2=>?_
 have:=h i
 have hi:i<s.W.length:=by omega
 have e1:s'.aI i=s'.W[i]:=by
  unfold MS.aI
  rw [if_pos ⟨by omega,by omega⟩,Int.toNat_natCast,List.getElem?_eq_getElem h1]; rfl
 have e2:s.aI i=s.W[i]:=by
  unfold MS.aI
  rw [if_pos ⟨by omega,by omega⟩,Int.toNat_natCast,List.getElem?_eq_getElem hi]; rfl
 rw [e1,e2] at this
 rw [this,List.getElem_set]
 by_cases e:(i:Int)=a
 ·rw [if_pos e,if_pos (by omega)]
 ·rw [if_neg e,if_neg (by omega)]
theorem Tl (ae:FuncId→Bool) {x:bg} {tb tag tg:Nat} {wv:Value} (h:PM own G m s) (hm:s.W.length≤4096) (hp:qa own tb tag tg t w c G b x) (hl:x.line=9) (he:x.err=0) (hv:bI (bK .u64) G wv s.W)
  {τ:Env} (t11:τ 11= .bool true) (t15:τ 15=P0 m) (t24:τ 24=wv) (t25:τ 25=P0 b) (t27:τ 27= .int .i64 x.flag):Wp (oB true (bA Q ae) τ G) fun q=>q.1= .bool true:=by
 have e1:=ac7 ae (.inr (.inr (.inr hl))) hp
 have e2:=ac8 ae hp
 rw [if_pos hl] at e1 e2
 rw [he] at e1
 obtain ⟨bb,rest,jS⟩:=h
 obtain ⟨v2,G2,e3,x3,o3⟩:=Qw ae jS
 obtain ⟨G4,e4,x4⟩:=ZS ae o3.is (hv.ext x3) (by omega)
 simp at e4
 simp [oB,D3,ao,t11,t15,t24,t25,t27,e1,e2,e3,e4]
end
end Go.Proofs.YtphandknhnkhfaaGreat.Lift
