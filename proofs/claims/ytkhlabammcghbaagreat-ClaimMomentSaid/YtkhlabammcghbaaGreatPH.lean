import Derived.Test.YtkhlabammcghbaaGreatPG
set_option linter.unusedVariables false
set_option linter.unusedSimpArgs false
set_option maxRecDepth 20000
namespace Go.Proofs.YtkhlabammcghbaaGreat.Lift
open Go Go.Proofs.YtkhlabammcghbaaGreat.Gh Go.Proofs
section
variable {G B:GS} {A:List Int} {v0:Value}
theorem adu (ae:FuncId→Bool) (hA:bT (bh .i64) G v0 A) (hlen:A.length<2 ^ 47) (x:Int):∀ (k i:Nat) (τ:Env),i+k=A.length→τ 0=v0→τ 1= .int .i64 x→τ 5= .int .i64 (i:Int) →
  Wp ((bD Q ae).dj 11 0 τ G) fun q=>q.2.2=G∧((q.1= .exit 0∧x∉A.drop i)∨(q.1= .ret∧x∈A.drop i∧q.2.1 4= .bool true)):=by
 intro k
 induction k with
 | zero =>
  intro i τ hi t0 t1 t5
  have bG:i=A.length:=by omega
  refine Wp.lp (Ri (aq Q ae)) ?_
  subst bG
  obtain ⟨a,c,e0⟩:=hA.len
  simp [EM,aw,t0,t1,t5,e0]
 | succ k ih =>
  intro i τ hi t0 t1 t5
  have aT:i<A.length:=by omega
  have hw:IntKind.wrap .i64 ((i:Int)+1)=((i+1:Nat):Int):=wrap64 (by omega) (by omega)
  have h1:(i:Int)<A.length:=by omega
  have h2:(0:Int)≤i:=by omega
  obtain ⟨b,o,c,e0,_,q,_⟩:=hA.at aT
  have q0:=q 0 (by decide)
  simp [bh] at q0
  rw [List.drop_eq_getElem_cons aT]
  generalize A[i]=y at *
  refine Wp.lp (Ri (aq Q ae)) ?_
  by_cases hy:y=x
  ·subst hy
   simp [-Int.natCast_add,EM,aw,t0,t1,t5,e0,h1,h2,aT,q0,hw]
  ·have qz:¬ x=y:=fun e=>hy e.symm
   simp [-Int.natCast_add,EM,aw,t0,t1,t5,e0,h1,h2,aT,q0,hw,hy]
   refine Wp.mono (ih (i+1) _ (by omega) ?_ ?_ ?_) fun q hq=>?_
   ·simp [aw,e0]
   ·simp [aw]
   ·simp [aw]
   ·simpa [qz] using hq
theorem FZ (ae:FuncId→Bool) (hA:bT (bh .i64) G v0 A) (hlen:A.length<2 ^ 47) (x:Int):(E ae).cl 11 [v0,.int .i64 x] G=some (.bool (decide (x∈A)),G):=by
 have w:Wp ((E ae).cl 11 [v0,.int .i64 x] G) fun q=>q.1= .bool (decide (x∈A))∧q.2=G:=by
  refine Wp.ref (f11 (aq Q ae) _ _ G) ?_
  simp [s11]
  refine Wp.bE ((adu ae hA hlen x A.length 0 _ (by omega) (by simp) (by simp) (by simp)).mono ?_)
  rintro ⟨e,τ,G'⟩ ⟨h1,(⟨h2,h3⟩ | ⟨h2,h3,h4⟩)⟩
  ·simp only [List.drop_zero] at h1 h2 h3
   subst h1 h2
   simp [h3]
  ·simp only [List.drop_zero] at h1 h2 h3 h4
   subst h1 h2
   simp [h3,h4]
 obtain ⟨⟨v,G'⟩,e,h1,h2⟩:=w
 simp only at h1 h2
 subst h1 h2
 exact e
end
structure dC {α:Type} (e:ct α) (own:Nat→Nat) (t:Nat) (G:GS) (v:Value) (L:List α):Prop where
 ow:cn e 0 G v L
 tag:∀ g,iA v g→own g=t
def uv:ct Nat:=⟨1,fun b=>[P0 b],fun _=>rfl,fun _=>rfl,by decide⟩
structure ux (own:Nat→Nat) (G:GS) (b t:Nat) (cs:List Value):Prop where
 lt:b<G.nx
 tag:own b=t
 obj:G.obj b=some ⟨cs,1,false,1⟩
section
variable {α:Type} {e:ct α} {own own' ah:Nat→Nat} {G G' G1:GS} {b t m:Nat} {ts:List Nat} {cs:List Value} {v:Value} {L:List α} {s:MS}
theorem dC.lt (h:dC e own t G v L) {g:Nat} (hg:iA v g):g<G.nx:=h.ow.is.under g hg
theorem dC.nil (e:ct α) (own:Nat→Nat) (t:Nat) (G:GS):dC e own t G (.slice none 0 0) []:=⟨cn.nil _ _,fun g ⟨a,n,c,he,_⟩=>by cases he⟩
theorem dC.to (h:dC e own t G v L) (hn:G.nx≤G'.nx) (hk:∀ g,iA v g→G'.obj g=G.obj g) (a:bf own own' G):dC e own' t G' v L :=
 ⟨h.ow.kept hn hk,fun g hg=>(a g (h.lt hg)).trans (h.tag g hg)⟩
theorem dC.mt (h:dC e own t G v L) (m:aE ts own G G') (ht:t∉ts) (a:bf own own' G):dC e own' t G' v L:=h.to m.nx (fun g hg=>m.same (h.lt hg) (by rw [h.tag g hg]; exact ht)) a
theorem dC.app {x:Value} {M:List α} {ib:Nat} (h:dC e own t G v L) (hb:ib≠0) (hx:bT e G1 x M) (x1:Ext G G1) (hM:0<M.length) (cm:(2*(L.length+M.length)+1000)*ib≤2 ^ 48) :
  ∃ v' G',j9 e.sz ib v x G1=some (v',G')∧aE [t] own G G' ∧dC e (grown own G t) t G' v' (L++M)∧G1.nx≤G'.nx∧(∀ g,iA v' g→G1.nx≤g∨iA v g):=by
 obtain ⟨v',G',e1,m,o⟩:=cn.JS (h.ow.ext x1) hb hx hM cm
 refine ⟨v',G',e1,?_,⟨o.mono (Nat.zero_le _),fun g hg=>?_⟩,m.nx,fun g hg=>.inl (o.from hg)⟩
 ·refine bC.trans (x1.vB _) (m.mono fun g hg=>?_)
  exact .inl (by have:=h.tag g hg; simp [this])
 ·have:=o.from hg
  exact lG (by have:=x1.nx; omega)
theorem ux.to (h:ux own G b t cs) (m:aE ts own G G') (ht:t∉ts) (a:bf own own' G):ux own' G' b t cs :=
 ⟨Nat.lt_of_lt_of_le h.lt m.nx,(a b h.lt).trans h.tag,(m.same h.lt (by rw [h.tag]; exact ht)).trans h.obj⟩
theorem ux.ne {t' b':Nat} (h:ux own G b t cs) (k:own b' =t') (hn:t≠t'):¬ b=b':=fun e=>hn (by rw [← h.tag,← k,e])
end
structure dz where
 m:Nat
 xb:Nat
 cb:Nat
 fb:Nat
 ob:Nat
 kv:Value
 hv:Value
 av:Value
 gv:Value
 lv:Value
 on:Nat→Bool
 v:Nat→Nat
 F:Nat→Value
def bZ (B:dz) (c:Nat):Value:=if B.on c=true then P0 (B.v c) else .pointer none
structure Cx where
 KS:List Int
 HS:List Int
 cs:List Sp
 ck:Int
def cq (t:TW) (w:Cx) (B:dz):List Value:=t.cells++[P0 B.m,B.kv,B.hv,bZ B 0,B.av,.slice (some ⟨B.cb,0,none⟩) 2 2,bZ B 3,.slice (some ⟨B.fb,0,none⟩) 4 4,B.gv,B.lv,.slice (some ⟨B.ob,0,none⟩) 4 4,.int .i64 w.ck]
structure bW (own:Nat→Nat) (G:GS) (t:TW) (x:Cm) (w:Cx) (B:dz):Prop where
 cx:ux own G B.xb 1 (cq t w B)
 cc:ux own G B.cb 2 [bZ B 1,bZ B 2]
 cf:ux own G B.fb 3 [B.F 0,B.F 1,B.F 2,B.F 3]
 co:ux own G B.ob 4 [.int .i64 (x.o 0),.int .i64 (x.o 1),.int .i64 (x.o 2),.int .i64 (x.o 3)]
 hm:PM own G B.m x.s
 kk:dC (bh .u64) own 5 G B.kv w.KS
 kh:dC (bh .i64) own 6 G B.hv w.HS
 al:∃ AL,AL.length=x.na∧dC uv own 7 G B.av AL
 gt:dC (bh .i64) own 8 G B.gv x.got
 ca:dC cJ own 9 G B.lv w.cs
 fs:∀ c,c<4→dC (bh .i64) own (21+c) G (B.F c) (x.F c)
 i0:0≤x.o 0→B.on 0=true∧iu own 31 32 t G (B.v 0) x.ins
 i1:0≤x.o 1→B.on 1=true∧eN own 33 34 t G (B.v 1) (x.cl 1)
 i2:0≤x.o 2→B.on 2=true∧eN own 35 36 t G (B.v 2) (x.cl 2)
 i3:0≤x.o 3→B.on 3=true∧mG own 37 t G (B.v 3) (x.cl 3)
def dI:List Nat:=[1,2,3,4,5,6,7,8,9,10,21,22,23,24,31,32,33,34,35,36,37]
section
variable {own own' ah:Nat→Nat} {G G' G1:GS} {b tb m c:Nat} {ts:List Nat} {x y:Cm} {w:Cx} {B B':dz} {v:Value} {t:TW}
variable {tag tg:Nat}
theorem eN.to {z:ai} (h:eN own tag tg t G b z) (hn:G.nx≤G'.nx) (hk:∀ g,g<G.nx→own g=tag∨own g=tg→G'.obj g=G.obj g) (a:bf own own' G):eN own' tag tg t G' b z:=by
 obtain ⟨hb,fp,rp,ho,hf,hr⟩:=h
 refine ⟨hb.to hn a,fp,rp,(hk _ hb.lt (.inl hb.tag)).trans ho,fun e=>?_,fun e=>?_⟩
 ·obtain ⟨fb,tb,e1,a1,a2,d,F⟩:=hf e
  exact ⟨fb,tb,e1,a1.to hn a,a2.to hn a,d,F.kept (hk _ a1.lt (.inr a1.tag)) (hk _ a2.lt (.inr a2.tag))⟩
 ·obtain ⟨rb,e1,a1,R⟩:=hr e
  exact ⟨rb,e1,a1.to hn a,R.to a1 hn (fun g hg lZ=>hk g hg (.inr lZ)) a⟩
theorem qd (h:iu own 31 32 t G b y.ins) (m:aE ts own G G') (h1:31∉ts) (h2:32∉ts) (a:bf own own' G):iu own' 31 32 t G' b y.ins :=
 iu.to h m.nx (fun g hg k=>m.same hg (by rcases k with k | k<;>rw [k]<;>assumption)) a
theorem gb {tag tg:Nat} {z:ai} (h:eN own tag tg t G b z) (m:aE ts own G G') (h1:tag∉ts) (h2:tg∉ts) (a:bf own own' G):eN own' tag tg t G' b z :=
 h.to m.nx (fun g hg k=>m.same hg (by rcases k with k | k<;>rw [k]<;>assumption)) a
theorem nH {tag:Nat} {z:ai} (h:mG own tag t G b z) (m:aE ts own G G') (h1:tag∉ts) (a:bf own own' G):mG own' tag t G' b z :=
 h.to m.nx (fun g hg k=>m.same hg (by rw [k]; assumption)) a
theorem bW.to (h:bW own G t x w B) (m:aE ts own G G') (a:bf own own' G) (ht:∀ t∈ts,t∉dI):bW own' G' t x w B:=by
 have no:∀ {t},t∈dI→t∉ts:=fun h1 h2=>ht _ h2 h1
 obtain ⟨AL,fS,fA⟩:=h.al
 refine ⟨h.cx.to m (no (by decide)) a,h.cc.to m (no (by decide)) a,h.cf.to m (no (by decide)) a,h.co.to m (no (by decide)) a,h.hm.g8 m (no (by decide)) a,h.kk.mt m (no (by decide)) a,h.kh.mt m (no (by decide)) a,⟨AL,fS,fA.mt m (no (by decide)) a⟩,h.gt.mt m (no (by decide)) a,h.ca.mt m (no (by decide)) a,fun c hc=>(h.fs c hc).mt m (no ?_) a,fun q=>⟨(h.i0 q).1,qd (h.i0 q).2 m (no (by decide)) (no (by decide)) a⟩,fun q=>⟨(h.i1 q).1,gb (h.i1 q).2 m (no (by decide)) (no (by decide)) a⟩,fun q=>⟨(h.i2 q).1,gb (h.i2 q).2 m (no (by decide)) (no (by decide)) a⟩,fun q=>⟨(h.i3 q).1,nH (h.i3 q).2 m (no (by decide)) a⟩⟩
 rcases (show c=0∨c=1∨c=2∨c=3 by omega) with rfl | rfl | rfl | rfl<;>decide
theorem bW.df (h:bW own G t x w B) (e:Ext G G'):bW own G' t x w B:=h.to (ts:=[]) (aE.ext e) (bf.refl _ _) (by simp)
theorem bW.ext (h:bW own G t x w B) (e:Ext G G') (u:Nat):bW (grown own G u) G' t x w B:=h.to (ts:=[]) (aE.ext e) dk (by simp)
theorem adw (ae:FuncId→Bool) (hs:t.sound) (h:bW own G t x w B) (hk:(w.KS.length:Int)=t.size):∃ G',(E ae).cl 34 [P0 B.xb] G=some (.int .i64 (6*dN t+40),G')∧Ext G G':=by
 have bU:=h.cx.obj
 simp only [cq] at bU
 obtain ⟨ka,kc,ek⟩:=h.kk.ow.is.len
 have z1:=hs.2.2.2.1
 have z2:=hs.2.2.1
 have z3:=hs.1
 have z4:=hs.2.1
 have hp:t.ay*(2*t.size+1)≤4*(2*t.size+1):=Int.mul_le_mul_of_nonneg_right z4 (by omega)
 have og:0≤t.ay*(2*t.size+1):=Int.mul_nonneg (by omega) (by omega)
 have w1:IntKind.wrap .i64 (6*t.ay)=6*t.ay:=wrap64 (by omega) (by omega)
 have w2:IntKind.wrap .i64 (2*t.size)=2*t.size:=wrap64 (by omega) (by omega)
 have w3:IntKind.wrap .i64 (2*t.size+1)=2*t.size+1:=wrap64 (by omega) (by omega)
 have w4:IntKind.wrap .i64 (6*t.ay*(2*t.size+1))=6*t.ay*(2*t.size+1):=by
  rw [Int.mul_assoc]; exact wrap64 (by omega) (by omega)
 have w5:IntKind.wrap .i64 (6*t.ay*(2*t.size+1)+40)=6*t.ay*(2*t.size+1)+40:=by
  rw [Int.mul_assoc]; exact wrap64 (by omega) (by omega)
 refine ⟨G.room 16,f34 (aq Q ae) _ G _ ?_,(Ext.refl G).room 16⟩
 unfold dN
 rw [← Int.mul_assoc]
 rw [ek] at bU
 simp [s34,bU,hk,w1,w2,w3,w4,w5]
theorem F4 (ae:FuncId→Bool) (aZ:ae 107=false) (hs:t.sound) (hm:x.s.ok) (h:bW own G t x w B):∃ G',(E ae).cl 71 [P0 B.xb] G=some (.int .i64 (gL t x.s),G')∧Ext G G':=by
 have bU:=h.cx.obj
 simp only [cq] at bU
 obtain ⟨v,G6,e6,x6,w6⟩:=acS ae aZ hs (h.df ((Ext.refl G).room 10)).hm hm
 have hx:Ext G G6:=((Ext.refl G).room 10).trans x6
 refine ⟨G6,f71 (aq Q ae) _ G _ ?_,hx⟩
 unfold gL
 have w7:=w6.is
 generalize Ab t x.s=L at w7
 obtain ⟨a,c,ev⟩:=w7.len
 cases L with
 | nil =>
  subst ev
  simp [s71,bU,e6]
 | cons i L =>
  obtain ⟨b,o,c',e0,TT,q0,q1⟩:=w7.at (i:=0) (by simp)
  have c0:=q0 0 (by decide)
  simp [bh] at c0
  subst e0
  have hl:¬ (L.length:Int)+1=0:=by omega
  have hl2:(0:Int)<(L.length:Int)+1:=by omega
  simp [s71,bU,e6,hl,hl2,c0]
end
section
variable {α:Type} (e:ct α)
theorem ct.Lt:∀ (L:List α) {i:Nat} (hi:i<L.length) (a:α) {f:Nat} {ds:List Value},e.row a=gY (e.row L[i]) f ds→f+ds.length≤e.sz→gY (e.flat L) (i*e.sz+f) ds=e.flat (L.set i a)
 | [],i,hi,_,_,_,_,_=>by simp at hi
 | b::L,0,hi,a,f,ds,h,hf=>by
  have hb:=e.len b
  simp only [List.getElem_cons_zero] at h
  rw [List.set_cons_zero,e.pI,e.pI,h]
  simp only [gY,Nat.zero_mul,Nat.zero_add]
  rw [List.take_append_of_le_length (by omega),List.drop_append_of_le_length (by omega)]
  simp
 | b::L,i+1,hi,a,f,ds,h,hf=>by
  have hl:i<L.length:=by simpa using hi
  have ih:=ct.Lt L hl a (f:=f) (ds:=ds) (by simpa using h) hf
  rw [List.set_cons_succ,e.pI,e.pI,← ih]
  have h1:(i+1)*e.sz+f=(e.row b).length+(i*e.sz+f):=by rw [e.len,Nat.add_mul]; omega
  simp only [gY]
  rw [h1,List.take_length_add_append,Nat.add_assoc,← List.drop_drop,List.drop_left]
  simp
theorem adx (l:List Value) (i:Nat) (v:Value) (h:i<l.length):l.set i v=gY l i [v]:=by
 simp only [gY]
 rw [List.set_eq_take_append_cons_drop,if_pos h]
 simp
end
theorem ady (L:List Sp) (k:Nat) (f:Sp→Sp) (h:k<L.length):L.modify k f=L.set k (f L[k]):=by
 apply List.ext_getElem?
 intro i
 by_cases e:i=k
 ·subst e; simp [h]
 ·have e':¬ k=i:=fun h=>e h.symm
  simp [List.getElem?_modify,List.getElem?_set,e,e']
theorem adz (a0 a1 b0 b1:Int):prun Q (Op.equalIn 10000 60 (.agg ⟨[.int .u64 a0,.int .i64 a1]⟩) (.agg ⟨[.int .u64 b0,.int .i64 b1]⟩))=some (a0==b0&&(a1==b1&&true)) :=
 eqS (d:=9999) (L:=[(51,0),(3,1)]) (by kernel_rfl) (by kernel_rfl) (RI (a:=.int .u64 a0) (b:=.int .u64 b0) (by kernel_rfl) (by kernel_rfl) (by kernel_rfl) (RI (a:=.int .i64 a1) (b:=.int .i64 b1) (by kernel_rfl) (by kernel_rfl) (by kernel_rfl) rfl))
theorem adA (x y:Operand) (a0 a1 b0 b1:Int):bB Q .eql 60 x y (.agg ⟨[.int .u64 a0,.int .i64 a1]⟩) (.agg ⟨[.int .u64 b0,.int .i64 b1]⟩)=some (.bool (a0==b0&&a1==b1)):=by
 rw [aaX (op:=.eql) (by kernel_rfl) (by kernel_rfl) (by kernel_rfl) (adz a0 a1 b0 b1)]
 simp
def Cx.gy (w:Cx) (k:Nat) (e i key:Int):Cx:={ w with cs:=w.cs.modify k fun s=>{ s with to:=IntKind.wrap .i64 (w.ck+1),an:=(e,i,key) },ck:=IntKind.wrap .i64 (w.ck+1) }
def Cm.close (x:Cm) (c:Nat):Cm:={ x with o:=aI x.o c (-1) }
section
variable {own own' ah:Nat→Nat} {G G' G1:GS} {b tb m c:Nat} {ts:List Nat} {x y:Cm} {w:Cx} {B B':dz} {v:Value} {t:TW} {key i e:Int}
theorem adB (h:bW own G t x w B) (hc:c<4) {k:Nat} (ho:x.o c=(k:Int)) (hk:k<w.cs.length) (e i key:Int) :
  ∃ cb op,B.lv= .slice (some ⟨cb,0,none⟩) w.cs.length w.cs.length∧own cb=9∧cb<G.nx∧G.obj cb=some ⟨cJ.flat w.cs,10,op,1⟩ ∧
  ∀ G36,G36=(((((G.push ⟨[.int .u64 key,.int .i64 i],1,false,1⟩).put B.xb ⟨cq t { w with ck:=IntKind.wrap .i64 (w.ck+1) } B,1,false,1⟩).room 13).put cb ⟨cJ.flat (w.cs.set k { w.cs[k] with to:=IntKind.wrap .i64 (w.ck+1) }),10,op,1⟩).put cb ⟨cJ.flat (w.gy k e i key).cs,10,op,1⟩).put B.ob ⟨[.int .i64 (aI x.o c (-1) 0),.int .i64 (aI x.o c (-1) 1),.int .i64 (aI x.o c (-1) 2),.int .i64 (aI x.o c (-1) 3)],1,false,1⟩ →
   aE [1,4,9] own G G36∧bW (grown own G 13) G36 t (x.close c) (w.gy k e i key) B:=by
 rcases h.ca.ow.2 with ⟨_,h0⟩ | ⟨cb,op,jf,_,F9,xT⟩
 ·simp at h0; rw [h0] at hk; simp at hk
 have uy:own cb=9:=h.ca.tag cb ⟨_,_,_,jf,rfl⟩
 refine ⟨cb,op,jf,uy,F9,xT,fun G36 hG=>?_⟩
 have n1:¬ B.xb=cb:=h.cx.ne uy (by decide)
 have n2:¬ B.ob=cb:=h.co.ne uy (by decide)
 have n3:¬ B.xb=B.ob:=h.cx.ne h.co.tag (by decide)
 have m:aE [1,4,9] own G G36:=by
  rw [hG]
  refine aE.put (aE.put (aE.put (bC.room (aE.put (bC.push (aE.refl _ _ _) _) (.inl ?_) _) _) (.inl ?_) _) (.inl ?_) _) (.inl ?_) _
  ·rw [h.cx.tag]; decide
  ·rw [uy]; decide
  ·rw [uy]; decide
  ·rw [h.co.tag]; decide
 have ag:bf own (grown own G 13) G:=dk
 have oW:=m.nx
 have ox:G36.obj B.xb=some ⟨cq t { w with ck:=IntKind.wrap .i64 (w.ck+1) } B,1,false,1⟩:=by rw [hG]; simp [n1,n3]
 have oo:G36.obj B.ob=some ⟨[.int .i64 (aI x.o c (-1) 0),.int .i64 (aI x.o c (-1) 1),.int .i64 (aI x.o c (-1) 2),.int .i64 (aI x.o c (-1) 3)],1,false,1⟩:=by rw [hG]; simp
 have oc:G36.obj cb=some ⟨cJ.flat (w.gy k e i key).cs,10,op,1⟩:=by rw [hG]; simp [show ¬ cb=B.ob from fun e=>n2 e.symm]
 have mX:(w.gy k e i key).cs.length=w.cs.length:=by unfold Cx.gy; simp
 obtain ⟨AL,fS,fA⟩:=h.al
 have no:∀ d,0≤(x.close c).o d→d≠c∧0≤x.o d:=fun d q=>by
  unfold Cm.close at q
  by_cases e:d=c
  ·subst e; simp only [dG] at q; omega
  ·simp only [cN _ _ e] at q; exact ⟨e,q⟩
 refine ⟨m,⟨⟨Nat.lt_of_lt_of_le h.cx.lt oW,(ag _ h.cx.lt).trans h.cx.tag,ox⟩,h.cc.to m (by decide) ag,h.cf.to m (by decide) ag,⟨Nat.lt_of_lt_of_le h.co.lt oW,(ag _ h.co.lt).trans h.co.tag,oo⟩,h.hm.g8 m (by decide) ag,h.kk.mt m (by decide) ag,h.kh.mt m (by decide) ag,⟨AL,fS,fA.mt m (by decide) ag⟩,h.gt.mt m (by decide) ag,⟨⟨by rw [cJ.qN],.inr ⟨cb,op,by rw [mX]; exact jf,Nat.zero_le _,Nat.lt_of_lt_of_le F9 oW,oc⟩⟩,fun g hg=>?_⟩,fun c hc=>(h.fs c hc).mt m ?_ ag,fun q=>?_,fun q=>?_,fun q=>?_,fun q=>?_⟩⟩
 ·obtain ⟨a',n',c',h1,rfl⟩:=hg
  rw [jf] at h1; cases h1
  exact (ag cb F9).trans uy
 ·rcases (show c=0∨c=1∨c=2∨c=3 by omega) with rfl | rfl | rfl | rfl<;>decide
 ·exact ⟨(h.i0 (no 0 q).2).1,qd (h.i0 (no 0 q).2).2 m (by decide) (by decide) ag⟩
 ·exact ⟨(h.i1 (no 1 q).2).1,gb (h.i1 (no 1 q).2).2 m (by decide) (by decide) ag⟩
 ·exact ⟨(h.i2 (no 2 q).2).1,gb (h.i2 (no 2 q).2).2 m (by decide) (by decide) ag⟩
 ·exact ⟨(h.i3 (no 3 q).2).1,nH (h.i3 (no 3 q).2).2 m (by decide) ag⟩
theorem bW.adC (h:bW own G t x w B) (hl:x.got.length≤1000000) (i:Int) :
  ∃ v' G2,j9 1 8 B.gv (.slice (some ⟨G.nx,0,none⟩) 1 1) (G.push ⟨(bh .i64).row i,1,false,1⟩)=some (v',G2)∧(G2.obj B.xb=some ⟨cq t w B,1,false,1⟩)∧one v' =true ∧
   ∀ G3,G3=G2.put B.xb ⟨cq t w { B with gv:=v' },1,false,1⟩→aE [1,8] own G G3∧bW (grown own G 8) G3 t { x with got:=x.got++[i] } w { B with gv:=v' }:=by
 have x1:Ext G (G.push ⟨(bh .i64).row i,1,false,1⟩):=(Ext.refl G).push _
 obtain ⟨v',G2,e,m,o,nn,eJ⟩:=h.gt.app (ib:=8) (by decide) (bT.one (bh .i64) G i) x1 (by simp) (by simp; omega)
 have ag:bf own (grown own G 8) G:=dk
 refine ⟨v',G2,e,(m.same h.cx.lt (by rw [h.cx.tag]; decide)).trans h.cx.obj,tW o.ow,fun G3 hG=>?_⟩
 have m3:aE [1,8] own G G3:=by
  rw [hG]
  exact aE.put (aE.mono m (by simp)) (.inl (by rw [h.cx.tag]; decide)) _
 have oW:=m3.nx
 obtain ⟨AL,fS,fA⟩:=h.al
 refine ⟨m3,⟨⟨Nat.lt_of_lt_of_le h.cx.lt oW,(ag _ h.cx.lt).trans h.cx.tag,by rw [hG]; simp⟩,h.cc.to m3 (by decide) ag,h.cf.to m3 (by decide) ag,h.co.to m3 (by decide) ag,h.hm.g8 m3 (by decide) ag,h.kk.mt m3 (by decide) ag,h.kh.mt m3 (by decide) ag,⟨AL,fS,fA.mt m3 (by decide) ag⟩,?_,h.ca.mt m3 (by decide) ag,fun c hc=>(h.fs c hc).mt m3 ?_ ag,fun q=>⟨(h.i0 q).1,qd (h.i0 q).2 m3 (by decide) (by decide) ag⟩,fun q=>⟨(h.i1 q).1,gb (h.i1 q).2 m3 (by decide) (by decide) ag⟩,fun q=>⟨(h.i2 q).1,gb (h.i2 q).2 m3 (by decide) (by decide) ag⟩,fun q=>⟨(h.i3 q).1,nH (h.i3 q).2 m3 (by decide) ag⟩⟩⟩
 ·refine o.to (by rw [hG]; exact Nat.le_refl _) (fun g hg=>?_) (bf.refl _ _)
  have t8:=o.tag g hg
  have:g≠B.xb:=fun q=>by rw [q,ag _ h.cx.lt,h.cx.tag] at t8; omega
  rw [hG,cM,if_neg this]
 ·rcases (show c=0∨c=1∨c=2∨c=3 by omega) with rfl | rfl | rfl | rfl<;>decide
end
def T6 (own:Nat→Nat) (G:GS) (t:TW) (B:dz) (y:Cm) (w:Cx) (q:Value×GS):Prop:=q.1= .bool true∧∃ own' B',B'.xb=B.xb∧B'.m=B.m∧bf own own' G∧aE dI own G q.2∧bW own' q.2 t y w B'
section
variable {own own' ah:Nat→Nat} {G G' G1:GS} {b tb m c:Nat} {ts:List Nat} {x y:Cm} {w:Cx} {B B':dz} {v:Value} {t:TW} {key i e:Int}
theorem fB (t:TW) (w:Cx) (B:dz):cq t w B=[.int .i64 t.nodes,.int .i64 t.cG,.int .i64 t.ay,.int .i64 t.top,.int .i64 t.links,.int .i64 t.size,.int .i64 t.u6,.int .i64 t.u7,.int .i64 t.u8,.int .i64 t.u9,.int .i64 t.u10,.int .i64 t.u11,.int .i64 t.u12,P0 B.m,B.kv,B.hv,bZ B 0,B.av,.slice (some ⟨B.cb,0,none⟩) 2 2,bZ B 3,.slice (some ⟨B.fb,0,none⟩) 4 4,B.gv,B.lv,.slice (some ⟨B.ob,0,none⟩) 4 4,.int .i64 w.ck]:=rfl
set_option maxHeartbeats 1000000 in
theorem Ge (ae:FuncId→Bool) (h:bW own G t x w B) (hc:c<4) {k:Nat} (ho:x.o c=(k:Int)) (hk:k<w.cs.length) (hg:x.got.length≤1000000) (hF:∀ c,c<4→(x.F c).length≤1000000)
  (hr:(c=0∧e=0)∨(1≤c∧e=0∧0≤i∧i<x.na∧w.KS[i.toNat]? =some key∧(c<3→i∉x.got)∧i∈x.F c)∨(1≤c∧e=15∧key=0∧i=0∧ -1∈x.F c)) :
  Wp ((E ae).cl 73 [P0 B.xb,.int .i64 c,.agg ⟨[.int .u64 key,.int .i64 i]⟩,.int .i64 e] G) (T6 own G t B (if e=0∧1≤c∧c<3 then { x.close c with got:=x.got++[i] } else x.close c) (w.gy k e i key)):=by
 obtain ⟨cb,op,jf,uy,F9,xT,rQ⟩:=adB h hc ho hk e i key
 obtain ⟨G36,nI⟩:∃ G36,G36=(((((G.push ⟨[.int .u64 key,.int .i64 i],1,false,1⟩).put B.xb ⟨cq t { w with ck:=IntKind.wrap .i64 (w.ck+1) } B,1,false,1⟩).room 13).put cb ⟨cJ.flat (w.cs.set k { w.cs[k] with to:=IntKind.wrap .i64 (w.ck+1) }),10,op,1⟩).put cb ⟨cJ.flat (w.gy k e i key).cs,10,op,1⟩).put B.ob ⟨[.int .i64 (aI x.o c (-1) 0),.int .i64 (aI x.o c (-1) 1),.int .i64 (aI x.o c (-1) 2),.int .i64 (aI x.o c (-1) 3)],1,false,1⟩:=⟨_,rfl⟩
 obtain ⟨m36,h36⟩:=rQ G36 nI
 have aT:=h.cx.lt
 have olt:=h.co.lt
 have n1:¬ B.xb=cb:=h.cx.ne uy (by decide)
 have xU:¬ cb=B.xb:=fun e=>n1 e.symm
 have n2:¬ B.ob=cb:=h.co.ne uy (by decide)
 have n3:¬ B.xb=B.ob:=h.cx.ne h.co.tag (by decide)
 have xV:¬ B.ob=B.xb:=fun e=>n3 e.symm
 have n4:¬ B.xb=G.nx:=by omega
 have n5:¬ B.ob=G.nx:=by omega
 have n6:¬ cb=G.nx:=by omega
 have n7:¬ G.nx=B.xb:=by omega
 have n8:¬ G.nx=cb:=by omega
 have n9:¬ G.nx=B.ob:=by omega
 have kD:=cJ.qN w.cs
 simp only [adt] at kD
 have s1:(cJ.flat w.cs).set (k*10+2) (.int .i64 (IntKind.wrap .i64 (w.ck+1)))=cJ.flat (w.cs.set k { w.cs[k] with to:=IntKind.wrap .i64 (w.ck+1) }):=by
  rw [adx _ _ _ (by omega)]
  exact ct.Lt cJ w.cs hk _ (f:=2) (by rfl) (by simp)
 have hlen:(w.gy k e i key).cs=(w.cs.set k { w.cs[k] with to:=IntKind.wrap .i64 (w.ck+1) }).set k { w.cs[k] with to:=IntKind.wrap .i64 (w.ck+1),an:=(e,i,key) }:=by
  unfold Cx.gy
  simp only
  rw [ady _ _ _ hk]
  simp
 have s2:gY (cJ.flat (w.cs.set k { w.cs[k] with to:=IntKind.wrap .i64 (w.ck+1) })) (k*10+7) [.int .i64 e,.int .i64 i,.int .u64 key]=cJ.flat (w.gy k e i key).cs:=by
  rw [hlen]
  exact ct.Lt cJ _ (by simpa using hk) _ (f:=7) (by simp) (by simp)
 have l1:k*10+2<(cJ.flat w.cs).length:=by omega
 have l2:k*10+7+3≤(cJ.flat (w.cs.set k { w.cs[k] with to:=IntKind.wrap .i64 (w.ck+1) })).length:=by
  rw [cJ.qN]; simp; omega
 have hX:(0:Int)≤k:=by omega
 have qB:(k:Int)<w.cs.length:=by omega
 have bU:=h.cx.obj
 have gM:=h.co.obj
 have Gf:=h36.cx.obj
 have T7:=h36.cf.obj
 rw [fB] at bU Gf nI
 rw [jf] at nI
 have np:(w.gy k e i key).ck=IntKind.wrap .i64 (w.ck+1):=rfl
 have o36:G36.obj G.nx=some ⟨[.int .u64 key,.int .i64 i],1,false,1⟩:=by rw [nI]; simp [n7,n8,n9]
 obtain ⟨AL,fS,fA⟩:=h36.al
 obtain ⟨aa,ac,ea⟩:=fA.ow.is.len
 have ag:bf own (grown own G 13) G:=dk
 have Lu:aE dI own G G36:=m36.mono (by decide)
 have hna:(x.close c).na=x.na:=rfl
 have adD:∀ d,d<4→∀ n,(E ae).cl 11 [B.F d,.int .i64 n] G36=some (.bool (decide (n∈x.F d)),G36):=fun d hd n=>FZ ae (h36.fs d hd).ow.is (by have:=hF d hd; show (x.F d).length<_; omega) n
 generalize hS:cJ.flat (w.cs.set k { w.cs[k] with to:=IntKind.wrap .i64 (w.ck+1) })=S1 at *
 generalize hS2:cJ.flat (w.gy k e i key).cs=S2 at *
 generalize hS3:cJ.flat w.cs=S3 at *
 rcases hr with ⟨rfl,rfl⟩ | ⟨c1,rfl,i0,i1,ik,ig,iF⟩ | ⟨c1,rfl,rfl,rfl,iF⟩
 ·-- the aoS
  simp [aI] at nI
  refine Wp.ref (f73 (aq Q ae) _ _ _ _ G) ?_
  refine Wp.mono (Q:=fun q=>q=(.bool true,G36)) ?_ (fun q hq=>by subst hq; exact ⟨rfl,_,B,rfl,rfl,ag,Lu,by simpa using h36⟩)
  simp [-Ch,s73,vA,bU,gM,jf,xT,ho,n1,xU,n2,n3,xV,n4,n5,n6,n7,n8,n9,hk,hX,qB,l1,l2,s1,s2,← nI]
 ·-- with a node
  have ca:(if (0:Int)=0∧1≤c∧c<3 then ({ x.close c with got:=x.got++[i] }:Cm) else x.close c)=if c<3 then { x.close c with got:=x.got++[i] } else x.close c:=by
   by_cases q:c<3
   ·rw [if_pos ⟨rfl,c1,q⟩,if_pos q]
   ·rw [if_neg (fun z=>q z.2.2),if_neg q]
  rw [ca]
  obtain ⟨n,rfl⟩:∃ n:Nat,i=n:=⟨i.toNat,by omega⟩
  have eI:(0:Int)≤n:=by omega
  rw [Int.toNat_natCast] at ik
  obtain ⟨kl,ke⟩:=List.getElem?_eq_some_iff.1 ik
  have adE:dC (bh .u64) (grown own G 13) 5 G36 B.kv w.KS:=h36.kk
  obtain ⟨kb,kob,kc,ek,_,kq,_⟩:=adE.ow.is.at kl
  have uz:=kq 0 (by decide)
  simp [bh] at uz
  rw [ke] at uz
  have Lv:(n:Int)<w.KS.length:=by omega
  have Lx:¬ ((AL.length:Nat):Int)≤n:=by rw [fS,hna]; omega
  have Gg:=h36.ext ((Ext.refl G36).room 35) 13
  have lZ:(x.close c).got=x.got:=rfl
  obtain ⟨v',G2,e2,vR,FR,adF⟩:=Gg.adC (by rw [lZ]; exact hg) n
  rw [TU,show (G36.room 35).nx=G36.nx+35 from rfl] at e2
  have jW:({ x.close c with got:=(x.close c).got++[(n:Int)] }:Cm)={ x.close c with got:=x.got++[(n:Int)] }:=rfl
  have mr:aE dI own G (G36.room 35):=bC.room Lu 35
  have iR:bf own (grown (grown own G 13) G36 13) G:=ag.trans dk m36.nx
  obtain ⟨G3,cE⟩:∃ G3,G3=G2.put B.xb ⟨cq t (w.gy k 0 n key) { B with gv:=v' },1,false,1⟩:=⟨_,rfl⟩
  obtain ⟨m3,h3⟩:=adF G3 cE
  rw [jW] at h3
  have xW:=iR.trans (own'':=grown (grown (grown own G 13) G36 13) (G36.room 35) 8) dk mr.nx
  have M3:aE dI own G G3:=aE.trans mr iR (aE.mono m3 (by decide))
  rw [fB] at vR cE
  rw [np] at vR cE
  have og:∀ d,bZ { B with gv:=v' } d=bZ B d:=fun _=>rfl
  simp only [og] at vR cE
  rw [ek] at vR cE
  have Gi:(E ae).cl 11 [B.gv,.int .i64 n] (G36.room 35)=some (.bool (decide ((n:Int)∈x.got)),G36.room 35):=FZ ae Gg.gt.ow.is (by show x.got.length<_; omega) n
  have T8:∀ d,d<4→∀ n,(E ae).cl 11 [B.F d,.int .i64 n] G3=some (.bool (decide (n∈x.F d)),G3):=fun d hd n=>FZ ae (h3.fs d hd).ow.is (by have:=hF d hd; show (x.F d).length<_; omega) n
  have Ly:=h3.cf.obj
  have n1f:¬ B.fb=B.xb:=fun q=>h.cx.ne h.cf.tag (by decide) q.symm
  have o2f:G2.obj B.fb=some ⟨[B.F 0,B.F 1,B.F 2,B.F 3],1,false,1⟩:=by
   have:=Ly
   rw [cE,cM,if_neg n1f] at this
   exact this
  have CR:=h3.cx.obj
  rw [fB,np] at CR
  simp only [og] at CR
  rw [ek] at CR
  have Gj:=Gf
  rw [ea,jf] at Gj
  have tZ:¬ (n:Int)<0:=by omega
  refine Wp.ref (f73 (aq Q ae) _ _ _ _ G) ?_
  rcases (show c=1∨c=2∨c=3 by omega) with rfl | rfl | rfl
  ·have Lz:decide ((n:Int)∈x.got)=false:=decide_eq_false (ig (by decide))
   have CS:decide ((n:Int)∈x.F 1)=true:=decide_eq_true iF
   have hA:=T8 1 (by decide) n
   rw [Lz] at Gi
   rw [CS] at hA
   simp [aI] at nI
   refine Wp.mono (Q:=fun q=>q=(.bool true,G3)) ?_ (fun q hq=>by subst hq; rw [if_pos (by decide)]; exact ⟨rfl,_,{ B with gv:=v' },rfl,rfl,xW,M3,h3⟩)
   simp [-Int.natCast_add,-Ch,s73,vA,mq,xu,bU,gM,jf,xT,ho,n1,xU,n2,n3,xV,n4,n5,n6,n7,n8,n9,hk,hX,qB,l1,l2,s1,s2,← nI]
   simp [-Int.natCast_add,o36,Gj,tZ,Lx,ek,uz,Lv,eI,Gi,e2,vR,FR,iq,← cE]
   simp [-Int.natCast_add,aw,CR,Ly,hA]
  ·have Lz:decide ((n:Int)∈x.got)=false:=decide_eq_false (ig (by decide))
   have CS:decide ((n:Int)∈x.F 2)=true:=decide_eq_true iF
   have hA:=T8 2 (by decide) n
   rw [Lz] at Gi
   rw [CS] at hA
   simp [aI] at nI
   refine Wp.mono (Q:=fun q=>q=(.bool true,G3)) ?_ (fun q hq=>by subst hq; rw [if_pos (by decide)]; exact ⟨rfl,_,{ B with gv:=v' },rfl,rfl,xW,M3,h3⟩)
   simp [-Int.natCast_add,-Ch,s73,vA,mq,xu,bU,gM,jf,xT,ho,n1,xU,n2,n3,xV,n4,n5,n6,n7,n8,n9,hk,hX,qB,l1,l2,s1,s2,← nI]
   simp [-Int.natCast_add,o36,Gj,tZ,Lx,ek,uz,Lv,eI,Gi,e2,vR,FR,iq,← cE]
   simp [-Int.natCast_add,aw,CR,Ly,hA]
  ·have CS:decide ((n:Int)∈x.F 3)=true:=decide_eq_true iF
   have hA:=FZ ae (Gg.fs 3 (by decide)).ow.is (by have:=hF 3 (by decide); show (x.F 3).length<_; omega) (n:Int)
   have hA':(E ae).cl 11 [B.F 3,.int .i64 n] (G36.room 35)=some (.bool true,G36.room 35):=by rw [hA]; show some (Value.bool (decide ((n:Int)∈x.F 3)),_)=_; rw [CS]
   simp [aI] at nI
   refine Wp.mono (Q:=fun q=>q=(.bool true,G36.room 35)) ?_ (fun q hq=>by subst hq; rw [if_neg (by decide)]; exact ⟨rfl,_,B,rfl,rfl,iR,mr,Gg⟩)
   simp [-Int.natCast_add,-Ch,s73,vA,mq,xu,bU,gM,jf,xT,ho,n1,xU,n2,n3,xV,n4,n5,n6,n7,n8,n9,hk,hX,qB,l1,l2,s1,s2,← nI]
   simp [-Int.natCast_add,o36,Gj,tZ,Lx,ek,uz,Lv,eI]
   simp [-Int.natCast_add,aw,Gf,T7,hA']
 ·-- there was none
  have ca:(if (15:Int)=0∧1≤c∧c<3 then ({ x.close c with got:=x.got++[0] }:Cm) else x.close c)=x.close c:=if_neg (fun z=>by have:=z.1; omega)
  rw [ca]
  refine Wp.ref (f73 (aq Q ae) _ _ _ _ G) ?_
  refine Wp.mono (Q:=fun q=>q=(.bool true,G36)) ?_ (fun q hq=>by subst hq; exact ⟨rfl,_,B,rfl,rfl,ag,Lu,h36⟩)
  have hA:=adD c hc (-1)
  rw [decide_eq_true iF] at hA
  have ld:fO 2 G.nx 0 G36=some (.agg ⟨[.int .u64 0,.int .i64 0]⟩):=by simp [o36]
  have hz:z60=[.int .u64 0,.int .i64 0]:=rfl
  rcases (show c=1∨c=2∨c=3 by omega) with rfl | rfl | rfl
  all_goals
   simp [aI] at nI
   simp [-Int.natCast_add,-Ch,s73,vA,mq,xu,bU,gM,jf,xT,ho,n1,xU,n2,n3,xV,n4,n5,n6,n7,n8,n9,hk,hX,qB,l1,l2,s1,s2,← nI]
   simp [-Int.natCast_add,aw,Gf,T7,hA,ld,o36,hz,adA]
end
section
variable {own own' ah:Nat→Nat} {G G' G1:GS} {b tb m c sb:Nat} {ts:List Nat} {x y:Cm} {w:Cx} {B B':dz} {v:Value} {t:TW} {key i e:Int} {sp:Sp}
theorem bW.clock (h:bW own G t x w B) (k:Int) (hG:G' =G.put B.xb ⟨cq t { w with ck:=k } B,1,false,1⟩):aE [1] own G G' ∧bW own G' t x { w with ck:=k } B:=by
 have m:aE [1] own G G':=by rw [hG]; exact aE.put (aE.refl _ _ _) (.inl (by rw [h.cx.tag]; decide)) _
 have a:=bf.refl own G
 have nx:=m.nx
 obtain ⟨AL,fS,fA⟩:=h.al
 refine ⟨m,⟨⟨Nat.lt_of_lt_of_le h.cx.lt nx,h.cx.tag,by rw [hG]; simp⟩,h.cc.to m (by decide) a,h.cf.to m (by decide) a,h.co.to m (by decide) a,h.hm.g8 m (by decide) a,h.kk.mt m (by decide) a,h.kh.mt m (by decide) a,⟨AL,fS,fA.mt m (by decide) a⟩,h.gt.mt m (by decide) a,h.ca.mt m (by decide) a,fun c hc=>(h.fs c hc).mt m ?_ a,fun q=>⟨(h.i0 q).1,qd (h.i0 q).2 m (by decide) (by decide) a⟩,fun q=>⟨(h.i1 q).1,gb (h.i1 q).2 m (by decide) (by decide) a⟩,fun q=>⟨(h.i2 q).1,gb (h.i2 q).2 m (by decide) (by decide) a⟩,fun q=>⟨(h.i3 q).1,nH (h.i3 q).2 m (by decide) a⟩⟩⟩
 rcases (show c=0∨c=1∨c=2∨c=3 by omega) with rfl | rfl | rfl | rfl<;>decide
structure CT (own:Nat→Nat) (G:GS) (t:TW) (x:Cm) (B:dz) (c:Nat):Prop where
 i0:c=0→B.on 0=true∧iu own 31 32 t G (B.v 0) x.ins
 i1:c=1→B.on 1=true∧eN own 33 34 t G (B.v 1) (x.cl 1)
 i2:c=2→B.on 2=true∧eN own 35 36 t G (B.v 2) (x.cl 2)
 i3:c=3→B.on 3=true∧mG own 37 t G (B.v 3) (x.cl 3)
def Cm.opn (x:Cm) (c:Nat) (oc:Int):Cm:={ x with F:=aI x.F c [],o:=aI x.o c oc }
def Cx.add (w:Cx) (sp:Sp):Cx:={ w with cs:=w.cs++[sp] }
abbrev lF (F:Nat→Value):List Value:=[F 0,F 1,F 2,F 3]
abbrev lO (o:Nat→Int):List Value:=[.int .i64 (o 0),.int .i64 (o 1),.int .i64 (o 2),.int .i64 (o 3)]
theorem LA (h:bW own G t x w B) (hc:c<4) (ho:CT own G t x B c) (hl:w.cs.length≤1000000) (hsb:sb<G.nx) (T9:own sb=13) (osb:G.obj sb=some ⟨cJ.row sp,1,false,1⟩) :
  ∀ G23 G32,G23=G.put B.fb ⟨lF (aI B.F c (.slice none 0 0)),1,false,1⟩→G32=(G23.room 12).put B.ob ⟨lO (aI x.o c w.cs.length),1,false,1⟩ →
   G23.obj B.xb=some ⟨cq t w B,1,false,1⟩∧G23.obj B.ob=some ⟨lO x.o,1,false,1⟩∧G32.obj B.xb=some ⟨cq t w B,1,false,1⟩∧G32.obj sb=some ⟨cJ.row sp,1,false,1⟩ ∧
   ∃ v' G39,j9 10 80 B.lv (.slice (some ⟨G32.nx+6,0,none⟩) 1 1) ((((G32.room 11).aS (G32.nx+6)).push ⟨cJ.row sp,10,false,1⟩).back (G32.room 11))=some (v',G39)∧G39.obj B.xb=some ⟨cq t w B,1,false,1⟩∧one v' =true ∧
    ∀ G43,G43=G39.put B.xb ⟨cq t w { B with lv:=v',F:=aI B.F c (.slice none 0 0) },1,false,1⟩→aE [1,3,4,9] own G G43∧bW (grown own G 9) G43 t (x.opn c w.cs.length) (w.add sp) { B with lv:=v',F:=aI B.F c (.slice none 0 0) }:=by
 intro G23 G32 cK jr
 have LB:¬ B.xb=B.fb:=h.cx.ne h.cf.tag (by decide)
 have Ua:¬ B.xb=B.ob:=h.cx.ne h.co.tag (by decide)
 have Ub:¬ B.fb=B.ob:=h.cf.ne h.co.tag (by decide)
 have nof:¬ B.ob=B.fb:=fun e=>Ub e.symm
 have nsf:¬ sb=B.fb:=fun e=>by rw [e,h.cf.tag] at T9; omega
 have nso:¬ sb=B.ob:=fun e=>by rw [e,h.co.tag] at T9; omega
 have m32:aE [1,3,4,9] own G G32:=by
  rw [jr,cK]
  exact aE.put (bC.room (aE.put (aE.refl _ _ _) (.inl (by rw [h.cf.tag]; decide)) _) _) (.inl (by rw [h.co.tag]; decide)) _
 have n32:G32.nx=G.nx+12:=by rw [jr,cK]; rfl
 have lvE:∀ g,iA B.lv g→g≠B.fb∧g≠B.ob:=fun g hg=>by
  have:=h.ca.tag g hg
  exact ⟨fun e=>by rw [e,h.cf.tag] at this; omega,fun e=>by rw [e,h.co.tag] at this; omega⟩
 have adG:dC cJ own 9 G32 B.lv w.cs:=h.ca.to m32.nx (fun g hg=>by
  obtain ⟨e1,e2⟩:=lvE g hg
  rw [jr,cM,if_neg e2,zf,cK,cM,if_neg e1]) (bf.refl _ _)
 obtain ⟨Gd,mH⟩:∃ Gd,Gd=(((G32.room 11).aS (G32.nx+6)).push ⟨cJ.row sp,10,false,1⟩).back (G32.room 11):=⟨_,rfl⟩
 have xd:Ext G32 Gd:=by rw [mH]; exact Ext.drawn ((Ext.refl G32).room 11) (by omega) (by simp) _
 have xX:bT cJ Gd (.slice (some ⟨G32.nx+6,0,none⟩) 1 1) [sp]:=by rw [mH]; exact bT.EZ cJ (G32.room 11) sp (by simp)
 obtain ⟨v',G39,e39,m39,o39,nn,eJ⟩:=adG.app (ib:=80) (by decide) xX xd (by simp) (by simp; omega)
 have g9:G32.obj B.xb=some ⟨cq t w B,1,false,1⟩:=by rw [jr,cM,if_neg Ua,zf,cK,cM,if_neg LB]; exact h.cx.obj
 have tx:own B.xb∉[9]:=by rw [h.cx.tag]; decide
 refine ⟨by rw [cK,cM,if_neg LB]; exact h.cx.obj,by rw [cK,cM,if_neg nof]; exact h.co.obj,g9,by rw [jr,cM,if_neg nso,zf,cK,cM,if_neg nsf]; exact osb,v',G39,by rw [← mH]; exact e39,(m39.same (by have:=h.cx.lt; omega) tx).trans g9,tW o39.ow,fun G43 gN=>?_⟩
 have ag:bf own (grown own G 9) G:=dk
 have m43:aE [1,3,4,9] own G G43:=by
  rw [gN]
  exact aE.put (aE.trans m32 (bf.refl _ _) (aE.mono m39 (by decide))) (.inl (by rw [h.cx.tag]; decide)) _
 have oW:=m43.nx
 obtain ⟨AL,fS,fA⟩:=h.al
 have k43:∀ g,g<G.nx→own g≠9→g≠B.xb→G43.obj g=G32.obj g:=fun g hg ht hx=>by
  rw [gN,cM,if_neg hx]
  exact m39.same (by omega) (by simpa using ht)
 have adH:G43.obj B.fb=some ⟨lF (aI B.F c (.slice none 0 0)),1,false,1⟩:=by
  rw [k43 _ h.cf.lt (by rw [h.cf.tag]; decide) (fun e=>LB e.symm),jr,cM,if_neg Ub,zf,cK,cM,if_pos rfl]
 have adI:G43.obj B.ob=some ⟨lO (aI x.o c w.cs.length),1,false,1⟩:=by
  rw [k43 _ h.co.lt (by rw [h.co.tag]; decide) (fun e=>Ua e.symm),jr,cM,if_pos rfl]
 have Gk:∀ d,d≠c→0≤(x.opn c w.cs.length).o d→0≤x.o d:=fun d hd q=>by
  have:(x.opn c w.cs.length).o d=x.o d:=cN _ _ hd
  rw [this] at q; exact q
 refine ⟨m43,⟨⟨Nat.lt_of_lt_of_le h.cx.lt oW,(ag _ h.cx.lt).trans h.cx.tag,by rw [gN]; simp; rfl⟩,h.cc.to m43 (by decide) ag,⟨Nat.lt_of_lt_of_le h.cf.lt oW,(ag _ h.cf.lt).trans h.cf.tag,adH⟩,⟨Nat.lt_of_lt_of_le h.co.lt oW,(ag _ h.co.lt).trans h.co.tag,adI⟩,h.hm.g8 m43 (by decide) ag,h.kk.mt m43 (by decide) ag,h.kh.mt m43 (by decide) ag,⟨AL,fS,fA.mt m43 (by decide) ag⟩,h.gt.mt m43 (by decide) ag,?_,fun d hd=>?_,fun q=>?_,fun q=>?_,fun q=>?_,fun q=>?_⟩⟩
 ·have o':dC cJ (grown own G 9) 9 G39 v' (w.cs++[sp]):=⟨o39.ow,fun g hg=>by
   rcases eJ g hg with k | k
   ·exact lG (by have:=xd.nx; omega)
   ·rw [ag g (h.ca.lt k)]; exact h.ca.tag g k⟩
  refine o'.to (by rw [gN]; exact Nat.le_refl _) (fun g hg=>?_) (bf.refl _ _)
  have t9:=o'.tag g hg
  have:g≠B.xb:=fun q=>by rw [q,ag _ h.cx.lt,h.cx.tag] at t9; omega
  rw [gN,cM,if_neg this]
 ·by_cases e:d=c
  ·subst e
   show dC _ _ _ _ (aI B.F d _ d) (aI x.F d [] d)
   rw [dG,dG]
   exact dC.nil _ _ _ _
  ·show dC _ _ _ _ (aI B.F c _ d) (aI x.F c [] d)
   rw [cN _ _ e,cN _ _ e]
   refine (h.fs d hd).mt m43 ?_ ag
   rcases (show d=0∨d=1∨d=2∨d=3 by omega) with rfl | rfl | rfl | rfl<;>decide
 ·have:B.on 0=true∧iu own 31 32 t G (B.v 0) x.ins:=by
   by_cases e:0=c
   ·exact ho.i0 e.symm
   ·exact h.i0 (Gk 0 e q)
  exact ⟨this.1,qd this.2 m43 (by decide) (by decide) ag⟩
 ·have:B.on 1=true∧eN own 33 34 t G (B.v 1) (x.cl 1):=by
   by_cases e:1=c
   ·exact ho.i1 e.symm
   ·exact h.i1 (Gk 1 e q)
  exact ⟨this.1,gb this.2 m43 (by decide) (by decide) ag⟩
 ·have:B.on 2=true∧eN own 35 36 t G (B.v 2) (x.cl 2):=by
   by_cases e:2=c
   ·exact ho.i2 e.symm
   ·exact h.i2 (Gk 2 e q)
  exact ⟨this.1,gb this.2 m43 (by decide) (by decide) ag⟩
 ·have:B.on 3=true∧mG own 37 t G (B.v 3) (x.cl 3):=by
   by_cases e:3=c
   ·exact ho.i3 e.symm
   ·exact h.i3 (Gk 3 e q)
  exact ⟨this.1,nH this.2 m43 (by decide) ag⟩
end
def uA (own:Nat→Nat) (G:GS) (t:TW) (B:dz) (y:Cm) (w:Cx) (q:Value×GS):Prop:=q.1= .tuple #[]∧∃ own' B',B'.xb=B.xb∧B'.m=B.m∧bf own own' G∧aE dI own G q.2∧bW own' q.2 t y w B'
def Cx.tick (w:Cx):Cx:={ w with ck:=IntKind.wrap .i64 (w.ck+1) }
def gO (w:Cx) (c:Nat):Sp:=⟨w.cs.length,IntKind.wrap .i64 (w.ck+1),-1,(if c=3 then 6 else 5,0,0,0),(0,0,0)⟩
def dz.pt (B:dz) (c b:Nat):dz:={ B with on:=fun d=>if d=c then true else B.on d,v:=aI B.v c b }
section
variable {own own' ah:Nat→Nat} {G G' G1:GS} {b tb m c sb:Nat} {ts:List Nat} {x y:Cm} {w:Cx} {B B':dz} {v:Value} {t:TW} {key i e:Int} {sp:Sp}
theorem Gl (B:dz) (c b:Nat):bZ (B.pt c b) c=P0 b:=by unfold bZ dz.pt; simp [dG]
theorem qe (B:dz) {c d:Nat} (b:Nat) (h:d≠c):bZ (B.pt c b) d=bZ B d:=by unfold bZ dz.pt; simp [cN _ _ h,h]
theorem Uc (B:dz) (c b:Nat):(B.pt c b).xb=B.xb∧(B.pt c b).fb=B.fb∧(B.pt c b).ob=B.ob∧(B.pt c b).F=B.F∧(B.pt c b).lv=B.lv:=⟨rfl,rfl,rfl,rfl,rfl⟩
theorem bW.pt (h:bW own G t x w B) (hc:1≤c∧c≤3) (h0:x.o c<0) {ts:List Nat} (m:aE ts own G G') (A5:∀ t∈ts,t=1∨t=2) (z:ai) (ox:G'.obj B.xb=some ⟨cq t w (B.pt c b),1,false,1⟩) (oc:G'.obj B.cb=some ⟨[bZ (B.pt c b) 1,bZ (B.pt c b) 2],1,false,1⟩) (a:bf own own' G) :
  bW own' G' t { x with cl:=aI x.cl c z } w (B.pt c b):=by
 have no:∀ {t},t≠1→t≠2→t∉ts:=fun h1 h2 h3=>by rcases A5 _ h3 with k | k<;>contradiction
 have nx:=m.nx
 obtain ⟨AL,fS,fA⟩:=h.al
 refine ⟨⟨Nat.lt_of_lt_of_le h.cx.lt nx,(a _ h.cx.lt).trans h.cx.tag,ox⟩,⟨Nat.lt_of_lt_of_le h.cc.lt nx,(a _ h.cc.lt).trans h.cc.tag,oc⟩,h.cf.to m (no (by decide) (by decide)) a,h.co.to m (no (by decide) (by decide)) a,h.hm.g8 m (no (by decide) (by decide)) a,h.kk.mt m (no (by decide) (by decide)) a,h.kh.mt m (no (by decide) (by decide)) a,⟨AL,fS,fA.mt m (no (by decide) (by decide)) a⟩,h.gt.mt m (no (by decide) (by decide)) a,h.ca.mt m (no (by decide) (by decide)) a,fun c hc=>(h.fs c hc).mt m (no (by omega) (by omega)) a,fun q=>?_,fun q=>?_,fun q=>?_,fun q=>?_⟩
 ·refine ⟨?_,?_⟩
  ·show (if 0=c then true else B.on 0)=true
   rw [if_neg (by omega)]; exact (h.i0 q).1
  ·show iu own' 31 32 t G' (aI B.v c b 0) x.ins
   rw [cN _ _ (by omega)]
   exact qd (h.i0 q).2 m (no (by decide) (by decide)) (no (by decide) (by decide)) a
 ·have e:1≠c:=by rintro rfl; have:x.o 1<0:=h0; have q':0≤x.o 1:=q; omega
  refine ⟨?_,?_⟩
  ·show (if 1=c then true else B.on 1)=true
   rw [if_neg e]; exact (h.i1 q).1
  ·show eN own' 33 34 t G' (aI B.v c b 1) (aI x.cl c z 1)
   rw [cN _ _ e,cN _ _ e]
   exact gb (h.i1 q).2 m (no (by decide) (by decide)) (no (by decide) (by decide)) a
 ·have e:2≠c:=by rintro rfl; have:x.o 2<0:=h0; have q':0≤x.o 2:=q; omega
  refine ⟨?_,?_⟩
  ·show (if 2=c then true else B.on 2)=true
   rw [if_neg e]; exact (h.i2 q).1
  ·show eN own' 35 36 t G' (aI B.v c b 2) (aI x.cl c z 2)
   rw [cN _ _ e,cN _ _ e]
   exact gb (h.i2 q).2 m (no (by decide) (by decide)) (no (by decide) (by decide)) a
 ·have e:3≠c:=by rintro rfl; have:x.o 3<0:=h0; have q':0≤x.o 3:=q; omega
  refine ⟨?_,?_⟩
  ·show (if 3=c then true else B.on 3)=true
   rw [if_neg e]; exact (h.i3 q).1
  ·show mG own' 37 t G' (aI B.v c b 3) (aI x.cl c z 3)
   rw [cN _ _ e,cN _ _ e]
   exact nH (h.i3 q).2 m (no (by decide) (by decide)) a
theorem Gm (h:bW own G t x w B) (sp:Sp) :
  ∀ G6 G18,G6=G.put B.xb ⟨cq t w.tick B,1,false,1⟩→G18=((((G6.room 13).aS (G.nx+11)).push ⟨z175,1,false,1⟩).back (G6.room 13)).put (G.nx+11) ⟨cJ.row sp,1,false,1⟩ →
   G6.obj B.xb=some ⟨cq t w.tick B,1,false,1⟩∧aE [1] own G G18∧bW (grown own G 13) G18 t x w.tick B∧G18.nx=G.nx+13∧G18.obj (G.nx+11)=some ⟨cJ.row sp,1,false,1⟩∧G.nx+11<G18.nx:=by
 intro G6 G18 h6 h18
 obtain ⟨m6,c6⟩:=h.clock (IntKind.wrap .i64 (w.ck+1)) h6
 have n6:G6.nx=G.nx:=by rw [h6]; rfl
 have xd:Ext G6 ((((G6.room 13).aS (G.nx+11)).push ⟨z175,1,false,1⟩).back (G6.room 13)):=Ext.drawn ((Ext.refl G6).room 13) (by omega) (by simp) _
 have x18:Ext G6 G18:=by rw [h18]; exact xd.put (by omega) _
 have n18:G18.nx=G.nx+13:=by rw [h18]; simp [n6]
 have ag:bf own (grown own G 13) G:=dk
 refine ⟨c6.cx.obj,aE.trans m6 (bf.refl _ _) (aE.ext x18),c6.to (ts:=[]) (aE.ext x18) (fun g hg=>ag g (by omega)) (by simp),n18,by rw [h18]; simp,by omega⟩
theorem adJ (ae:FuncId→Bool) (hs:t.sound) (h:bW own G t x w B) (hc:c=1∨c=2) (h0:x.o c<0) (hl:w.cs.length≤1000000) :
  Wp ((E ae).cl 70 [P0 B.xb,.int .i64 c] G) (uA own G t B (x.lN t c w.cs.length) (w.tick.add (gO w c))):=by
 obtain ⟨G6,cu⟩:∃ G6,G6=G.put B.xb ⟨cq t w.tick B,1,false,1⟩:=⟨_,rfl⟩
 obtain ⟨G18,mI⟩:∃ G18,G18=((((G6.room 13).aS (G.nx+11)).push ⟨z175,1,false,1⟩).back (G6.room 13)).put (G.nx+11) ⟨cJ.row (gO w c),1,false,1⟩:=⟨_,rfl⟩
 obtain ⟨o6,m18,h18,n18,s18,sl⟩:=Gm h (gO w c) G6 G18 cu mI
 have n6:G6.nx=G.nx:=by rw [cu]; rfl
 obtain ⟨b,G104,e104,x104,ob,b0,b1⟩:=acG ae hs (G18.room 13)
 have y104:Ext G18 G104:=((Ext.refl G18).room 13).trans x104
 have vS:bf own (grown own G 13) G:=dk
 obtain ⟨ah,uB⟩:∃ ah,ah=grown (grown own G 13) G18 (if c=1 then 33 else 35):=⟨_,rfl⟩
 have iR:bf (grown own G 13) ah G18:=by rw [uB]; exact dk
 have Ai:bf own ah G:=fun g hg=>(iR g (by omega)).trans (vS g hg)
 have b18:G18.nx≤b:=Nat.le_trans (Nat.le_add_right _ _) b0
 obtain ⟨G107,iS⟩:∃ G107,G107=G104.put B.cb ⟨[bZ (B.pt c b) 1,bZ (B.pt c b) 2],1,false,1⟩:=⟨_,rfl⟩
 have m107:aE [2] (grown own G 13) G18 G107:=by rw [iS]; exact aE.put (aE.ext y104) (.inl (by rw [h18.cc.tag]; decide)) _
 have LC:¬ B.xb=B.cb:=h.cx.ne h.cc.tag (by decide)
 have sI:=(y104.obj _ h18.cx.lt).trans h18.cx.obj
 have LD:=(y104.obj _ h18.cc.lt).trans h18.cc.obj
 have Ud:cq t w.tick (B.pt c b)=cq t w.tick B:=by rw [fB,fB,qe B b (show 0≠c by omega),qe B b (show 3≠c by omega)]; rfl
 have h107:bW ah G107 t { x with cl:=aI x.cl c (ai.new t) } w.tick (B.pt c b):=by
  refine h18.pt (by omega) h0 m107 (by simp) (ai.new t) ?_ ?_ iR
  ·rw [Ud,iS,cM,if_neg LC]; exact sI
  ·rw [iS]; simp
 have Fz:ah b=if c=1 then 33 else 35:=by rw [uB]; exact lG b18
 have LF:b≠B.cb:=fun e=>by have:=h18.cc.lt; omega
 have Ue:∀ tg,eN ah (if c=1 then 33 else 35) tg t G107 b (ai.new t):=fun tg =>
  eN.low (fp:=none) (rp:=none) ⟨by rw [iS]; exact b1,Fz⟩ (by rw [iS,cM,if_neg LF]; exact ob) (by simp [ai.new]) (by simp [ai.new])
 have eL:CT ah G107 t { x with cl:=aI x.cl c (ai.new t) } (B.pt c b) c:=by
  refine ⟨fun e=>by omega,fun e=>?_,fun e=>?_,fun e=>by omega⟩
  ·subst e
   refine ⟨rfl,?_⟩
   show eN ah 33 34 t G107 (aI B.v 1 b 1) (aI x.cl 1 (ai.new t) 1)
   rw [dG,dG]
   exact Ue 34
  ·subst e
   refine ⟨rfl,?_⟩
   show eN ah 35 36 t G107 (aI B.v 2 b 2) (aI x.cl 2 (ai.new t) 2)
   rw [dG,dG]
   exact Ue 36
 have s107:G107.obj (G.nx+11)=some ⟨cJ.row (gO w c),1,false,1⟩:=by
  rw [iS,cM,if_neg (fun e=>by have:=h.cc.lt; omega)]
  exact (y104.obj _ sl).trans s18
 have Gn:ah (G.nx+11)=13:=(iR _ sl).trans (lG (by omega))
 have n107:G18.nx≤G107.nx:=m107.nx
 obtain ⟨G23,cK⟩:∃ G23,G23=G107.put B.fb ⟨lF (aI B.F c (.slice none 0 0)),1,false,1⟩:=⟨_,rfl⟩
 obtain ⟨G32,jr⟩:∃ G32,G32=(G23.room 12).put B.ob ⟨lO (aI x.o c w.cs.length),1,false,1⟩:=⟨_,rfl⟩
 obtain ⟨dO,xY,g9,sJ,v',G39,e39,kP,CU,fin⟩:=LA h107 (by omega) eL hl (by omega) Gn s107 G23 G32 cK jr
 obtain ⟨G43,gN⟩:∃ G43,G43=G39.put B.xb ⟨cq t w.tick { B.pt c b with lv:=v',F:=aI B.F c (.slice none 0 0) },1,false,1⟩:=⟨_,rfl⟩
 obtain ⟨m43,h43⟩:=fin G43 gN
 have post:uA own G t B (x.lN t c w.cs.length) (w.tick.add (gO w c)) (.tuple #[],G43) :=
  ⟨rfl,_,{ B.pt c b with lv:=v',F:=aI B.F c (.slice none 0 0) },rfl,rfl,(fun g hg=>(dk (own:=ah) (G:=G107) (t:=9) g (by omega)).trans (Ai g hg)),(aE.mono (us:=dI) m18 (by decide)).trans vS ((aE.mono (us:=dI) m107 (by decide)).trans iR (aE.mono (us:=dI) m43 (by decide))),h43⟩
 have bU:=h.cx.obj
 have js:=h18.cx.obj
 have CV:=h107.cf.obj
 have qf:=h107.cx.obj
 obtain ⟨LG,LH,LI,LJ,pf5⟩:=Uc B c b
 simp only [LG,LH,LI,LJ] at CV qf dO xY g9 sJ e39 kP
 rw [Ud] at dO g9 kP qf
 have np:w.tick.ck=IntKind.wrap .i64 (w.ck+1):=rfl
 have hz:z175=[.int .i64 0,.int .i64 0,.int .i64 0,.int .i64 0,.int .i64 0,.int .i64 0,.int .u64 0,.int .i64 0,.int .i64 0,.int .u64 0]:=rfl
 have pQ:z171=[.int .i64 0,.int .i64 0,.int .i64 0,.int .u64 0]:=rfl
 have adK:cq t w.tick { B.pt c b with lv:=v',F:=aI B.F c (.slice none 0 0) }=cq t w.tick { B with lv:=v' }:=by
  rw [fB,fB]
  show [_,_,_,_,_,_,_,_,_,_,_,_,_,_,_,_,bZ (B.pt c b) 0,_,_,bZ (B.pt c b) 3,_,_,_,_,_]=_
  rw [qe B b (show 0≠c by omega),qe B b (show 3≠c by omega)]; rfl
 rw [adK] at gN
 obtain ⟨la,lc,el⟩:=h.ca.ow.is.len
 have og:∀ d,bZ { B with lv:=v' } d=bZ B d:=fun _=>rfl
 rw [fB] at bU cu o6 js dO g9 kP gN sI qf
 simp only [np,og] at cu o6 js dO g9 kP gN sI qf
 have fE:w.tick.cs=w.cs:=rfl
 refine Wp.ref (f70 (aq Q ae) _ _ G) ?_
 refine Wp.mono (Q:=fun q=>q=(.tuple #[],G43)) ?_ (fun q hq=>by subst hq; exact post)
 have CW:∀ c,c=1∨c=2→cJ.row (gO w c)=[.int .i64 w.cs.length,.int .i64 (IntKind.wrap .i64 (w.ck+1)),.int .i64 (-1),.int .i64 5,.int .i64 0,.int .i64 0,.int .u64 0,.int .i64 0,.int .i64 0,.int .u64 0]:=fun c hc=>by unfold gO; rw [if_neg (by omega)]; rfl
 rw [CW c hc] at mI s18 s107 sJ e39
 have nG:(B.pt c b).lv=B.lv:=rfl
 rw [nG] at e39
 rw [el] at bU cu o6 js dO g9 sI qf e39
 have w0:IntKind.wrap .i64 0=0:=by decide
 have w1:IntKind.wrap .i64 1=1:=by decide
 rcases hc with rfl | rfl
 all_goals
  simp [aI,lF,lO] at cK jr
  rw [Gl,qe B b (by decide)] at iS
  simp [-Int.natCast_add,s70,xr,bU,← cu,o6,hz,pQ,n6,ch,cg,gA,← mI,js,e104,sI,LD,w0,w1,← iS]
  simp [-Int.natCast_add,nC,zD,aw,CV,qf,← cK,dO,xY,← jr,g9,sJ,e39,kP,CU,iq,← gN]
end
section
variable {own own' ah:Nat→Nat} {G G' G1:GS} {b tb m c sb:Nat} {ts:List Nat} {x y:Cm} {w:Cx} {B B':dz} {v:Value} {t:TW} {key i e:Int} {sp:Sp}
theorem adL (ae:FuncId→Bool) (hs:t.sound) (h:bW own G t x w B) (h0:x.o 3<0) (hl:w.cs.length≤1000000) :
  Wp ((E ae).cl 70 [P0 B.xb,.int .i64 3] G) (uA own G t B (x.lN t 3 w.cs.length) (w.tick.add (gO w 3))):=by
 obtain ⟨G6,cu⟩:∃ G6,G6=G.put B.xb ⟨cq t w.tick B,1,false,1⟩:=⟨_,rfl⟩
 obtain ⟨G18,mI⟩:∃ G18,G18=((((G6.room 13).aS (G.nx+11)).push ⟨z175,1,false,1⟩).back (G6.room 13)).put (G.nx+11) ⟨cJ.row (gO w 1),1,false,1⟩:=⟨_,rfl⟩
 obtain ⟨o6,m18,h18,n18,s18,sl⟩:=Gm h (gO w 1) G6 G18 cu mI
 have n6:G6.nx=G.nx:=by rw [cu]; rfl
 obtain ⟨b,G104,e104,x104,ob,b0,b1⟩:=ads ae hs G18
 have y104:Ext G18 G104:=x104
 have vS:bf own (grown own G 13) G:=dk
 obtain ⟨ah,uB⟩:∃ ah,ah=grown (grown own G 13) G18 37:=⟨_,rfl⟩
 have iR:bf (grown own G 13) ah G18:=by rw [uB]; exact dk
 have Ai:bf own ah G:=fun g hg=>(iR g (by omega)).trans (vS g hg)
 have b18:G18.nx≤b:=b0
 obtain ⟨G107,iS⟩:∃ G107,G107=G104.put B.xb ⟨cq t w.tick (B.pt 3 b),1,false,1⟩:=⟨_,rfl⟩
 have m107:aE [1] (grown own G 13) G18 G107:=by rw [iS]; exact aE.put (aE.ext y104) (.inl (by rw [h18.cx.tag]; decide)) _
 have LC:¬ B.xb=B.cb:=h.cx.ne h.cc.tag (by decide)
 have sI:=(y104.obj _ h18.cx.lt).trans h18.cx.obj
 have LD:=(y104.obj _ h18.cc.lt).trans h18.cc.obj
 have ncx:¬ B.cb=B.xb:=fun e=>LC e.symm
 have h107:bW ah G107 t { x with cl:=aI x.cl 3 (ai.new t) } w.tick (B.pt 3 b):=by
  refine h18.pt (by omega) h0 m107 (by simp) (ai.new t) ?_ ?_ iR
  ·rw [iS]; simp
  ·rw [qe B b (by decide),qe B b (by decide),iS,cM,if_neg ncx]; exact LD
 have Fz:ah b=37:=by rw [uB]; exact lG b18
 have LF:b≠B.xb:=fun e=>by have:=h18.cx.lt; omega
 have adM:CT ah G107 t { x with cl:=aI x.cl 3 (ai.new t) } (B.pt 3 b) 3:=by
  refine ⟨fun e=>by omega,fun e=>by omega,fun e=>by omega,fun _=>⟨rfl,?_⟩⟩
  show mG ah 37 t G107 (aI B.v 3 b 3) (aI x.cl 3 (ai.new t) 3)
  rw [dG,dG]
  exact ⟨⟨by rw [iS]; exact b1,Fz⟩,by rw [iS,cM,if_neg LF]; exact ob⟩
 have Gn:ah (G.nx+11)=13:=(iR _ sl).trans (lG (by omega))
 have n0107:G18.nx≤G107.nx:=m107.nx
 have q107:G107.obj (G.nx+11)=some ⟨cJ.row (gO w 1),1,false,1⟩:=by
  rw [iS,cM,if_neg (fun e=>by have:=h.cx.lt; omega)]
  exact (y104.obj _ sl).trans s18
 obtain ⟨G118,Aj⟩:∃ G118,G118=G107.put (G.nx+11) ⟨cJ.row (gO w 3),1,false,1⟩:=⟨_,rfl⟩
 have m118:aE [13] ah G107 G118:=by rw [Aj]; exact aE.put (aE.refl _ _ _) (.inl (by rw [Gn]; decide)) _
 have h118:=h107.to m118 (bf.refl _ _) (by decide)
 have eL:CT ah G118 t { x with cl:=aI x.cl 3 (ai.new t) } (B.pt 3 b) 3:=by
  refine ⟨fun e=>by omega,fun e=>by omega,fun e=>by omega,fun _=>⟨rfl,?_⟩⟩
  exact nH (adM.i3 rfl).2 m118 (by decide) (bf.refl _ _)
 have s107:G118.obj (G.nx+11)=some ⟨cJ.row (gO w 3),1,false,1⟩:=by rw [Aj]; simp
 have aoT:G118.nx=G107.nx:=by rw [Aj]; rfl
 have n107:G18.nx≤G107.nx:=m107.nx
 obtain ⟨G23,cK⟩:∃ G23,G23=G118.put B.fb ⟨lF (aI B.F 3 (.slice none 0 0)),1,false,1⟩:=⟨_,rfl⟩
 obtain ⟨G32,jr⟩:∃ G32,G32=(G23.room 12).put B.ob ⟨lO (aI x.o 3 w.cs.length),1,false,1⟩:=⟨_,rfl⟩
 obtain ⟨dO,xY,g9,sJ,v',G39,e39,kP,CU,fin⟩:=LA h118 (by omega) eL hl (by omega) Gn s107 G23 G32 cK jr
 obtain ⟨G43,gN⟩:∃ G43,G43=G39.put B.xb ⟨cq t w.tick { B.pt 3 b with lv:=v',F:=aI B.F 3 (.slice none 0 0) },1,false,1⟩:=⟨_,rfl⟩
 obtain ⟨m43,h43⟩:=fin G43 gN
 have mA:aE dI own G G107:=(aE.mono (us:=dI) m18 (by decide)).trans vS (aE.mono (us:=dI) m107 (by decide))
 have mB:aE dI own G G118:=by rw [Aj]; exact aE.put mA (.inr (by omega)) _
 have post:uA own G t B (x.lN t 3 w.cs.length) (w.tick.add (gO w 3)) (.tuple #[],G43) :=
  ⟨rfl,_,{ B.pt 3 b with lv:=v',F:=aI B.F 3 (.slice none 0 0) },rfl,rfl,(fun g hg=>(dk (own:=ah) (G:=G118) (t:=9) g (by omega)).trans (Ai g hg)),mB.trans Ai (aE.mono (us:=dI) m43 (by decide)),h43⟩
 have bU:=h.cx.obj
 have js:=h18.cx.obj
 have CV:=h118.cf.obj
 have qf:=h107.cx.obj
 have Ak:=h118.cx.obj
 obtain ⟨LG,LH,LI,LJ,pf5⟩:=Uc B 3 b
 simp only [LG,LH,LI,LJ] at CV qf Ak dO xY g9 sJ e39 kP
 have np:w.tick.ck=IntKind.wrap .i64 (w.ck+1):=rfl
 have hz:z175=[.int .i64 0,.int .i64 0,.int .i64 0,.int .i64 0,.int .i64 0,.int .i64 0,.int .u64 0,.int .i64 0,.int .i64 0,.int .u64 0]:=rfl
 have pQ:z171=[.int .i64 0,.int .i64 0,.int .i64 0,.int .u64 0]:=rfl
 obtain ⟨la,lc,el⟩:=h.ca.ow.is.len
 have og:∀ d,bZ { B.pt 3 b with lv:=v',F:=aI B.F 3 (.slice none 0 0) } d=bZ (B.pt 3 b) d:=fun _=>rfl
 have fu:bZ (B.pt 3 b) 0=bZ B 0:=qe B b (by decide)
 have hp3:bZ (B.pt 3 b) 3=P0 b:=Gl B 3 b
 rw [fB] at bU cu o6 js dO g9 kP gN sI qf Ak iS
 simp only [np,og,fu,hp3] at cu o6 js dO g9 kP gN sI qf Ak iS
 simp only [show (B.pt 3 b).m=B.m from rfl,show (B.pt 3 b).kv=B.kv from rfl,show (B.pt 3 b).hv=B.hv from rfl,show (B.pt 3 b).av=B.av from rfl,show (B.pt 3 b).cb=B.cb from rfl,show (B.pt 3 b).fb=B.fb from rfl,show (B.pt 3 b).gv=B.gv from rfl,show (B.pt 3 b).lv=B.lv from rfl,show (B.pt 3 b).ob=B.ob from rfl] at dO g9 kP gN qf Ak iS
 have fE:w.tick.cs=w.cs:=rfl
 refine Wp.ref (f70 (aq Q ae) _ _ G) ?_
 refine Wp.mono (Q:=fun q=>q=(.tuple #[],G43)) ?_ (fun q hq=>by subst hq; exact post)
 have CX:cJ.row (gO w 1)=[.int .i64 w.cs.length,.int .i64 (IntKind.wrap .i64 (w.ck+1)),.int .i64 (-1),.int .i64 5,.int .i64 0,.int .i64 0,.int .u64 0,.int .i64 0,.int .i64 0,.int .u64 0]:=rfl
 have CW:cJ.row (gO w 3)=[.int .i64 w.cs.length,.int .i64 (IntKind.wrap .i64 (w.ck+1)),.int .i64 (-1),.int .i64 6,.int .i64 0,.int .i64 0,.int .u64 0,.int .i64 0,.int .i64 0,.int .u64 0]:=rfl
 rw [CW] at s107 sJ e39 Aj
 rw [CX] at mI s18 q107
 have nG:(B.pt 3 b).lv=B.lv:=rfl
 rw [nG] at e39
 rw [el] at bU cu o6 js dO g9 sI qf Ak iS e39
 have w0:IntKind.wrap .i64 0=0:=by decide
 have w1:IntKind.wrap .i64 1=1:=by decide
 simp [aI,lF,lO] at cK jr
 simp [-Int.natCast_add,s70,xr,bU,← cu,o6,hz,pQ,n6,ch,cg,gA,← mI,js,e104,sI,w0,w1,← iS,q107,← Aj]
 simp [-Int.natCast_add,nC,zD,aw,CV,Ak,← cK,dO,xY,← jr,g9,sJ,e39,kP,CU,iq,← gN]
end
def Al (w:Cx) (n:Nat) (key:Int):Sp:=⟨w.cs.length,IntKind.wrap .i64 (w.ck+1),-1,(4,n,0,key),(0,0,0)⟩
section
variable {own own' ah:Nat→Nat} {G G' G1:GS} {b tb m c sb:Nat} {ts:List Nat} {x y:Cm} {w:Cx} {B B':dz} {v:Value} {t:TW} {key hi i e:Int} {sp:Sp}
theorem bW.ptI (h:bW own G t x w B) (h0:x.o 0<0) (m:aE [1,7] own G G') (z:aj) (ox:G'.obj B.xb=some ⟨cq t w { B.pt 0 b with av:=v },1,false,1⟩) {AL:List Nat} (hal:AL.length=x.na+1) (al:dC uv own' 7 G' v AL) (a:bf own own' G) :
  bW own' G' t { x with ins:=z,na:=x.na+1 } w { B.pt 0 b with av:=v }:=by
 have nx:=m.nx
 refine ⟨⟨Nat.lt_of_lt_of_le h.cx.lt nx,(a _ h.cx.lt).trans h.cx.tag,ox⟩,?_,h.cf.to m (by decide) a,h.co.to m (by decide) a,h.hm.g8 m (by decide) a,h.kk.mt m (by decide) a,h.kh.mt m (by decide) a,⟨AL,hal,al⟩,h.gt.mt m (by decide) a,h.ca.mt m (by decide) a,fun c hc=>(h.fs c hc).mt m (by simp; omega) a,fun q=>?_,fun q=>?_,fun q=>?_,fun q=>?_⟩
 ·have e1:bZ { B.pt 0 b with av:=v } 1=bZ B 1:=qe B (c:=0) (d:=1) b (by decide)
  have e2:bZ { B.pt 0 b with av:=v } 2=bZ B 2:=qe B (c:=0) (d:=2) b (by decide)
  rw [e1,e2]
  exact h.cc.to m (by decide) a
 ·have:0≤x.o 0:=q
  omega
 ·have r:=h.i1 q
  refine ⟨r.1,?_⟩
  show eN own' 33 34 t G' (aI B.v 0 b 1) (x.cl 1)
  rw [cN _ _ (by decide)]
  exact gb r.2 m (by decide) (by decide) a
 ·have r:=h.i2 q
  refine ⟨r.1,?_⟩
  show eN own' 35 36 t G' (aI B.v 0 b 2) (x.cl 2)
  rw [cN _ _ (by decide)]
  exact gb r.2 m (by decide) (by decide) a
 ·have r:=h.i3 q
  refine ⟨r.1,?_⟩
  show mG own' 37 t G' (aI B.v 0 b 3) (x.cl 3)
  rw [cN _ _ (by decide)]
  exact nH r.2 m (by decide) a
theorem Uf {n:Nat} (h:n≤7):lu .u64 ((n:Int)+1) 65536=bN n 1:=by
 rcases (show n=0∨n=1∨n=2∨n=3∨n=4∨n=5∨n=6∨n=7 by omega) with rfl | rfl | rfl | rfl | rfl | rfl | rfl | rfl<;>decide
theorem adN (ae:FuncId→Bool) (h:bW own G t x w B) (hn:w.KS.length≤x.na):Wp ((E ae).cl 70 [P0 B.xb,.int .i64 0] G) (uA own G t B x w.tick):=by
 obtain ⟨G6,cu⟩:∃ G6,G6=G.put B.xb ⟨cq t w.tick B,1,false,1⟩:=⟨_,rfl⟩
 obtain ⟨G18,mI⟩:∃ G18,G18=((((G6.room 13).aS (G.nx+11)).push ⟨z175,1,false,1⟩).back (G6.room 13)).put (G.nx+11) ⟨cJ.row (gO w 1),1,false,1⟩:=⟨_,rfl⟩
 obtain ⟨o6,m18,h18,n18,s18,sl⟩:=Gm h (gO w 1) G6 G18 cu mI
 have n6:G6.nx=G.nx:=by rw [cu]; rfl
 have post:uA own G t B x w.tick (.tuple #[],G18):=⟨rfl,_,B,rfl,rfl,dk,aE.mono m18 (by decide),h18⟩
 have bU:=h.cx.obj
 have js:=h18.cx.obj
 have np:w.tick.ck=IntKind.wrap .i64 (w.ck+1):=rfl
 have hz:z175=[.int .i64 0,.int .i64 0,.int .i64 0,.int .i64 0,.int .i64 0,.int .i64 0,.int .u64 0,.int .i64 0,.int .i64 0,.int .u64 0]:=rfl
 have pQ:z171=[.int .i64 0,.int .i64 0,.int .i64 0,.int .u64 0]:=rfl
 obtain ⟨la,lc,el⟩:=h.ca.ow.is.len
 obtain ⟨AL,fS,fA⟩:=h.al
 obtain ⟨aa,ac,ea⟩:=fA.ow.is.len
 obtain ⟨ka,kc,ek⟩:=h.kk.ow.is.len
 rw [fB] at bU cu o6 js
 simp only [np] at cu o6 js
 have CX:cJ.row (gO w 1)=[.int .i64 w.cs.length,.int .i64 (IntKind.wrap .i64 (w.ck+1)),.int .i64 (-1),.int .i64 5,.int .i64 0,.int .i64 0,.int .u64 0,.int .i64 0,.int .i64 0,.int .u64 0]:=rfl
 rw [CX] at mI
 rw [el,ea,ek] at bU cu o6 js
 have hle:((w.KS.length:Nat):Int)≤(AL.length:Int):=by rw [fS]; omega
 refine Wp.ref (f70 (aq Q ae) _ _ G) ?_
 refine Wp.mono (Q:=fun q=>q=(.tuple #[],G18)) ?_ (fun q hq=>by subst hq; exact post)
 simp [-Int.natCast_add,s70,xr,bU,← cu,o6,hz,pQ,n6,ch,cg,gA,← mI,js,hle]
theorem adO (ae:FuncId→Bool) (dZ:ae 120=false) (hs:t.sound) (jq:0≤az t 0 0) (h:bW own G t x w B) (h0:x.o 0<0) (hl:w.cs.length≤1000000) (hk:w.KS[x.na]? =some key) (hh:w.HS[x.na]? =some hi) (h1:(x.na:Int)<t.size) (h6:x.na≤7) (h3:1≤hi∧hi≤t.ay) :
  Wp ((E ae).cl 70 [P0 B.xb,.int .i64 0] G) (uA own G t B (x.oT t (fun _=>key) (fun _=>hi) w.cs.length) (w.tick.add (Al w x.na key))):=by
 obtain ⟨n,hn⟩:∃ n,n=x.na:=⟨_,rfl⟩
 obtain ⟨G6,cu⟩:∃ G6,G6=G.put B.xb ⟨cq t w.tick B,1,false,1⟩:=⟨_,rfl⟩
 obtain ⟨G18,mI⟩:∃ G18,G18=((((G6.room 13).aS (G.nx+11)).push ⟨z175,1,false,1⟩).back (G6.room 13)).put (G.nx+11) ⟨cJ.row (gO w 1),1,false,1⟩:=⟨_,rfl⟩
 obtain ⟨o6,m18,h18,n18,s18,sl⟩:=Gm h (gO w 1) G6 G18 cu mI
 have n6:G6.nx=G.nx:=by rw [cu]; rfl
 obtain ⟨b,G70,e70,x70,⟨b0,b1⟩,hI⟩:=adj (key:=key) ae dZ hs jq (i:=n) (g:=1) ⟨by omega,by rw [hn]; exact h1⟩ ⟨by decide,by decide⟩ h3 (G18.room 27)
 have y70:Ext G18 G70:=((Ext.refl G18).room 27).trans x70
 have b18:G18.nx≤b:=Nat.le_trans (Nat.le_add_right _ _) b0
 have vS:bf own (grown own G 13) G:=dk
 obtain ⟨ah,uB⟩:∃ ah:Nat→Nat,ah=fun g=>if g<G18.nx then grown own G 13 g else if g=b then 31 else 32:=⟨_,rfl⟩
 have iR:bf (grown own G 13) ah G18:=fun g hg=>by rw [uB]; simp only; rw [if_pos hg]
 have Ai:bf own ah G:=fun g hg=>(iR g (by omega)).trans (vS g hg)
 have mF:ah b=31:=by rw [uB]; simp only; rw [if_neg (by omega),if_pos trivial]
 have hI1:=hI ah 31 32 mF (fun q q1 q2=>by rw [uB]; simp only; rw [if_neg (by have:(G18.room 27).nx=G18.nx+27:=rfl; omega),if_neg q2])
 obtain ⟨G74,sK⟩:∃ G74,G74=G70.put B.xb ⟨cq t w.tick (B.pt 0 b),1,false,1⟩:=⟨_,rfl⟩
 have m74:aE [1,7] (grown own G 13) G18 G74:=by rw [sK]; exact aE.put (aE.ext y70) (.inl (by rw [h18.cx.tag]; decide)) _
 have n74:G74.nx=G70.nx:=by rw [sK]; rfl
 have g70:=y70.nx
 obtain ⟨AL,fS,fA⟩:=h18.al
 have adP:dC uv ah 7 G74 B.av AL:=fA.to m74.nx (fun g hg=>by
  have t7:=fA.tag g hg
  have lt:=fA.lt hg
  have:g≠B.xb:=fun q=>by rw [q,h18.cx.tag] at t7; omega
  rw [sK,cM,if_neg this]; exact y70.obj g lt) iR
 obtain ⟨Gd,mH⟩:∃ Gd,Gd=(((G74.room 14).aS (G74.nx+9)).push ⟨uv.row b,1,false,1⟩).back (G74.room 14):=⟨_,rfl⟩
 have xd:Ext G74 Gd:=by rw [mH]; exact Ext.drawn ((Ext.refl G74).room 14) (by omega) (by simp) _
 have xX:bT uv Gd (.slice (some ⟨G74.nx+9,0,none⟩) 1 1) [b]:=by rw [mH]; exact bT.EZ uv (G74.room 14) b (by simp)
 obtain ⟨v',G83,e83,m83,o83,nn,eJ⟩:=adP.app (ib:=8) (by decide) xX xd (by simp) (by rw [fS]; simp; omega)
 have CY:G74.obj B.xb=some ⟨cq t w.tick (B.pt 0 b),1,false,1⟩:=by rw [sK]; simp
 have CZ:ah B.xb=1:=(iR _ h18.cx.lt).trans h18.cx.tag
 have Ug:B.xb<G74.nx:=by have:=h18.cx.lt; omega
 have Gp:G83.obj B.xb=some ⟨cq t w.tick (B.pt 0 b),1,false,1⟩:=(m83.same Ug (by rw [CZ]; decide)).trans CY
 obtain ⟨G87,xZ⟩:∃ G87,G87=G83.put B.xb ⟨cq t w.tick { B.pt 0 b with av:=v' },1,false,1⟩:=⟨_,rfl⟩
 have adQ:aE [1,7] ah G74 G87:=by rw [xZ]; exact aE.put (aE.mono m83 (by decide)) (.inl (by rw [CZ]; decide)) _
 have m87:aE [1,7] (grown own G 13) G18 G87:=aE.trans m74 iR adQ
 have a87:bf (grown own G 13) ah G18:=iR
 have Uh:∀ g,g≠B.xb→g<G74.nx→ah g≠7→G87.obj g=G74.obj g:=fun g h1 h2 h3=>by rw [xZ,cM,if_neg h1]; exact m83.same h2 (by simpa using h3)
 have n83:=m83.nx
 have adR:=tW o83.ow
 have n87:G87.nx=G83.nx:=by rw [xZ]; rfl
 obtain ⟨aX,CQ⟩:∃ aX,aX=grown ah G74 7:=⟨_,rfl⟩
 have xW:bf ah aX G74:=by rw [CQ]; exact dk
 have a2:bf (grown own G 13) aX G18:=fun g hg=>(xW g (by omega)).trans (iR g hg)
 have adS:dC uv aX 7 G87 v' (AL++[b]):=o83.to (by omega) (fun g hg=>by
  have t7:=o83.tag g hg
  rw [← CQ] at t7
  have:g≠B.xb:=fun q=>by rw [q,xW _ Ug,CZ] at t7; omega
  rw [xZ,cM,if_neg this]) (by rw [← CQ]; exact bf.refl _ _)
 have h87:=h18.ptI (b:=b) (v:=v') (own':=aX) h0 m87 (aj.new t (bN n 1) key n hi) (by rw [xZ]; simp) (AL:=AL++[b]) (by simp [fS]) adS a2
 have adT:iu aX 31 32 t G87 b (aj.new t (bN n 1) key n hi):=by
  have k1:iu ah 31 32 t G74 b (aj.new t (bN n 1) key n hi):=hI1.to (by omega) (fun g hg k=>by
   have:g≠B.xb:=fun q=>by rw [q,CZ] at k; omega
   rw [sK,cM,if_neg this]) (bf.refl _ _)
  exact k1.to (by omega) (fun g hg k=>Uh g (fun q=>by rw [q,CZ] at k; omega) hg (by omega)) xW
 have Ui:aX (G.nx+11)=13:=(a2 _ sl).trans (lG (by omega))
 have q87:G87.obj (G.nx+11)=some ⟨cJ.row (gO w 1),1,false,1⟩:=by
  have nx:G.nx+11≠B.xb:=fun e=>by have:=h.cx.lt; omega
  rw [Uh _ nx (by omega) (by rw [iR _ sl,lG (by omega)]; decide),sK,cM,if_neg nx]
  exact (y70.obj _ sl).trans s18
 obtain ⟨G95,ya⟩:∃ G95,G95=G87.put (G.nx+11) ⟨cJ.row (Al w n key),1,false,1⟩:=⟨_,rfl⟩
 have m95:aE [13] aX G87 G95:=by rw [ya]; exact aE.put (aE.refl _ _ _) (.inl (by rw [Ui]; decide)) _
 have h95:=h87.to m95 (bf.refl _ _) (by decide)
 have n95:G95.nx=G87.nx:=by rw [ya]; rfl
 have eL:CT aX G95 t { x with ins:=aj.new t (bN n 1) key n hi,na:=x.na+1 } { B.pt 0 b with av:=v' } 0:=by
  refine ⟨fun _=>⟨rfl,?_⟩,fun e=>by omega,fun e=>by omega,fun e=>by omega⟩
  show iu aX 31 32 t G95 (aI B.v 0 b 0) (aj.new t (bN n 1) key n hi)
  rw [dG]
  exact adT.to m95.nx (fun g hg k=>m95.same hg (by rcases k with k | k<;>rw [k]<;>decide)) (bf.refl _ _)
 have s95:G95.obj (G.nx+11)=some ⟨cJ.row (Al w n key),1,false,1⟩:=by rw [ya]; simp
 obtain ⟨G23,cK⟩:∃ G23,G23=G95.put B.fb ⟨lF (aI B.F 0 (.slice none 0 0)),1,false,1⟩:=⟨_,rfl⟩
 obtain ⟨G32,jr⟩:∃ G32,G32=(G23.room 12).put B.ob ⟨lO (aI x.o 0 w.cs.length),1,false,1⟩:=⟨_,rfl⟩
 obtain ⟨dO,xY,g9,sJ,w',G39,e39,kP,CU,fin⟩:=LA h95 (by omega) eL hl (by omega) Ui s95 G23 G32 cK jr
 have adU:G23.obj B.ob=some ⟨lO x.o,1,false,1⟩:=xY
 obtain ⟨B2,dq⟩:∃ B2:dz,B2={ B.pt 0 b with av:=v' }:=⟨_,rfl⟩
 rw [← dq] at dO g9 kP e39 fin h95
 obtain ⟨G43,gN⟩:∃ G43,G43=G39.put B2.xb ⟨cq t w.tick { B2 with lv:=w',F:=aI B2.F 0 (.slice none 0 0) },1,false,1⟩:=⟨_,rfl⟩
 obtain ⟨m43,h43⟩:=fin G43 gN
 have mA:aE dI own G G87:=(aE.mono (us:=dI) m18 (by decide)).trans vS (aE.mono (us:=dI) m87 (by decide))
 have mB:aE dI own G G95:=by rw [ya]; exact aE.put mA (.inr (by omega)) _
 have Uj:bf own aX G:=fun g hg=>(xW g (by omega)).trans (Ai g hg)
 have Am:B2.xb=B.xb:=by rw [dq]; rfl
 have Gq:B2.m=B.m:=by rw [dq]; rfl
 have post:uA own G t B (x.oT t (fun _=>key) (fun _=>hi) w.cs.length) (w.tick.add (Al w x.na key)) (.tuple #[],G43):=by
  rw [hn] at h43
  exact ⟨rfl,_,{ B2 with lv:=w',F:=aI B2.F 0 (.slice none 0 0) },Am,Gq,(fun g hg=>(dk (own:=aX) (G:=G95) (t:=9) g (by omega)).trans (Uj g hg)),mB.trans Uj (aE.mono (us:=dI) m43 (by decide)),h43⟩
 have bU:=h.cx.obj
 have js:=h18.cx.obj
 have An:G87.obj B.xb=some ⟨cq t w.tick B2,1,false,1⟩:=by rw [xZ,dq]; simp
 have C1:G95.obj B.xb=some ⟨cq t w.tick B2,1,false,1⟩:=by
  rw [ya,cM,if_neg (fun e=>by have:=h.cx.lt; omega)]; exact An
 have adV:G95.obj B.fb=some ⟨[B.F 0,B.F 1,B.F 2,B.F 3],1,false,1⟩:=by have:=h95.cf.obj; rw [dq] at this; exact this
 have np:w.tick.ck=IntKind.wrap .i64 (w.ck+1):=rfl
 have hz:z175=[.int .i64 0,.int .i64 0,.int .i64 0,.int .i64 0,.int .i64 0,.int .i64 0,.int .u64 0,.int .i64 0,.int .i64 0,.int .u64 0]:=rfl
 have pQ:z171=[.int .i64 0,.int .i64 0,.int .i64 0,.int .u64 0]:=rfl
 have Gr:z42=[.pointer none]:=rfl
 obtain ⟨la,lc,el⟩:=h.ca.ow.is.len
 obtain ⟨aa,ac,ea⟩:=fA.ow.is.len
 have kl:n<w.KS.length:=by rw [hn]; exact (List.getElem?_eq_some_iff.1 hk).1
 have ke:w.KS[n]=key:=by subst hn; exact (List.getElem?_eq_some_iff.1 hk).2
 have Uk:n<w.HS.length:=by rw [hn]; exact (List.getElem?_eq_some_iff.1 hh).1
 have he:w.HS[n]=hi:=by subst hn; exact (List.getElem?_eq_some_iff.1 hh).2
 have adW:dC (bh .u64) (grown own G 13) 5 G18 B.kv w.KS:=h18.kk
 have adX:dC (bh .i64) (grown own G 13) 6 G18 B.hv w.HS:=h18.kh
 have adY:dC (bh .u64) aX 5 G87 B.kv w.KS:=h87.kk
 obtain ⟨kb,ko,kc,ek,_,kq,_⟩:=adW.ow.is.at kl
 obtain ⟨hb,pq,hc,eh,_,hq,_⟩:=adX.ow.is.at Uk
 have aoU:=ek
 obtain ⟨kb',ko',kc',Ul,_,kq',_⟩:=adY.ow.is.at kl
 rw [ek] at Ul
 cases Ul
 have uz:=kq 0 (by decide)
 have LK:=kq' 0 (by decide)
 have Ao:=hq 0 (by decide)
 simp [bh] at uz LK Ao
 rw [ke] at uz LK
 rw [he] at Ao
 have kl0:(n:Int)<w.KS.length:=by omega
 have qy:(n:Int)<w.HS.length:=by omega
 have Um:AL.length=n:=by rw [hn]; exact fS
 have ngt:¬ ((w.KS.length:Nat):Int)≤(n:Int):=by omega
 have nn0:(0:Int)≤n:=by omega
 have Gt:IntKind.wrap .i64 ((n:Int)+1)=(n:Int)+1:=wrap64 (by omega) (by omega)
 have LM:IntKind.wrap .u64 ((n:Int)+1)=(n:Int)+1:=by unfold IntKind.wrap; simp [IntKind.bits,IntKind.signed]; omega
 have LN:lu .u64 ((n:Int)+1) 65536=bN n 1:=Uf (by omega)
 have c13:∀ d,bZ { B2 with lv:=w',F:=aI B2.F 0 (.slice none 0 0) } d=bZ B2 d:=fun _=>rfl
 have p20:bZ B2 0=P0 b:=by rw [dq]; exact Gl B 0 b
 have p23:bZ B2 3=bZ B 3:=by rw [dq]; exact qe B (c:=0) (d:=3) b (by decide)
 have q10:bZ (B.pt 0 b) 0=P0 b:=Gl B 0 b
 have q13:bZ (B.pt 0 b) 3=bZ B 3:=qe B (c:=0) (d:=3) b (by decide)
 have d1:B2.kv=B.kv∧B2.hv=B.hv∧B2.av=v' ∧B2.cb=B.cb∧B2.fb=B.fb∧B2.gv=B.gv∧B2.lv=B.lv∧B2.ob=B.ob:=by rw [dq]; exact ⟨rfl,rfl,rfl,rfl,rfl,rfl,rfl,rfl⟩
 obtain ⟨d1,d2,d3,d4,d5,d6,d7,d8⟩:=d1
 have C2:G87=G83.put B.xb ⟨cq t w.tick B2,1,false,1⟩:=by rw [dq]; exact xZ
 have f1:(B.pt 0 b).kv=B.kv∧(B.pt 0 b).hv=B.hv∧(B.pt 0 b).av=B.av∧(B.pt 0 b).cb=B.cb∧(B.pt 0 b).fb=B.fb∧(B.pt 0 b).gv=B.gv∧(B.pt 0 b).lv=B.lv∧(B.pt 0 b).ob=B.ob∧(B.pt 0 b).m=B.m:=⟨rfl,rfl,rfl,rfl,rfl,rfl,rfl,rfl,rfl⟩
 obtain ⟨f1,f2,f3,f4,f5,f6,f7,f8,f9⟩:=f1
 have Gu:G70.obj B.xb=some ⟨cq t w.tick B,1,false,1⟩:=(y70.obj _ h18.cx.lt).trans h18.cx.obj
 rw [fB] at bU cu o6 js dO g9 kP gN Gu CY Gp sK C2 An C1
 simp only [c13,p20,p23] at gN
 simp only [np,p20,p23,q10,q13,Gq,d1,d2,d3,d4,d5,d6,d8,f1,f2,f3,f4,f5,f6,f7,f8,f9] at cu o6 js dO g9 kP gN Gu CY Gp sK C2 An C1
 simp only [Am,d7] at gN dO g9 kP e39 An C1 C2
 have CX:cJ.row (gO w 1)=[.int .i64 w.cs.length,.int .i64 (IntKind.wrap .i64 (w.ck+1)),.int .i64 (-1),.int .i64 5,.int .i64 0,.int .i64 0,.int .u64 0,.int .i64 0,.int .i64 0,.int .u64 0]:=rfl
 have CW:cJ.row (Al w n key)=[.int .i64 w.cs.length,.int .i64 (IntKind.wrap .i64 (w.ck+1)),.int .i64 (-1),.int .i64 4,.int .i64 n,.int .i64 0,.int .u64 key,.int .i64 0,.int .i64 0,.int .u64 0]:=rfl
 have spR:uv.row b=[P0 b]:=rfl
 rw [CW] at s95 sJ e39 ya
 rw [CX] at mI s18 q87
 rw [mH,spR] at e83
 rw [show uv.sz=1 from rfl,ea,Um] at e83
 rw [ek,eh,el,ea,Um] at bU cu o6 js Gu sK CY Gp
 rw [ek,eh,el] at C2 An C1 dO g9
 rw [el] at e39
 refine Wp.ref (f70 (aq Q ae) _ _ G) ?_
 refine Wp.mono (Q:=fun q=>q=(.tuple #[],G43)) ?_ (fun q hq=>by subst hq; exact post)
 simp [aI,lF,lO] at cK jr
 simp [-Int.natCast_add,s70,xr,bU,← cu,o6,hz,pQ,n6,ch,cg,gA,← mI,js,ngt,nn0,kl,kl0,qy,Uk,uz,Ao,Gt,LM,LN,e70,Gu,← sK,CY,e83,Gp,adR,iq,← C2,An,LK,q87,← ya]
 simp [-Int.natCast_add,nC,zD,aw,adV,C1,← cK,dO,adU,← jr,g9,sJ,e39,kP,CU,iq,← gN]
end
section
variable {own own' ah:Nat→Nat} {G G' G1 G16:GS} {b tb m c sb tag tg:Nat} {ts:List Nat} {x y:Cm} {w:Cx} {B B':dz} {v:Value} {t:TW} {key hi i e:Int} {s s':MS} {z:aj} {cl':Nat→ai}
theorem PW.LO {m:Nat} (w:PW (ey own tag tg) own G ah G1 m s):aE [10,tag,tg] own G G1:=bC.mono w.bH.mod fun g k=>by
 rcases k with k | k | k<;>simp [k]
theorem PW.Un {m:Nat} (w:PW (Own own tag) own G ah G1 m s):aE [10,tag] own G G1:=bC.mono w.bH.mod fun g k=>by
 rcases k with k | k
 ·simp [k]
 ·have k':own g=tag:=k
  simp [k']
theorem bW.bH (h:bW own G t x w B) (m:aE ts own G G1) (a:bf own ah G) (A5:∀ u∈ts,u=10∨31≤u) (hm:PM ah G1 B.m s') (i0:0≤x.o 0→B.on 0=true∧iu ah 31 32 t G1 (B.v 0) z) (i1:0≤x.o 1→B.on 1=true∧eN ah 33 34 t G1 (B.v 1) (cl' 1)) (i2:0≤x.o 2→B.on 2=true∧eN ah 35 36 t G1 (B.v 2) (cl' 2)) (i3:0≤x.o 3→B.on 3=true∧mG ah 37 t G1 (B.v 3) (cl' 3)) :
  bW ah G1 t { x with s:=s',ins:=z,cl:=cl' } w B:=by
 have no:∀ {u},u≠10→u<31→u∉ts:=fun h1 h2 h3=>by rcases A5 _ h3 with k | k<;>omega
 obtain ⟨AL,fS,fA⟩:=h.al
 exact ⟨h.cx.to m (no (by decide) (by decide)) a,h.cc.to m (no (by decide) (by decide)) a,h.cf.to m (no (by decide) (by decide)) a,h.co.to m (no (by decide) (by decide)) a,hm,h.kk.mt m (no (by decide) (by decide)) a,h.kh.mt m (no (by decide) (by decide)) a,⟨AL,fS,fA.mt m (no (by decide) (by decide)) a⟩,h.gt.mt m (no (by decide) (by decide)) a,h.ca.mt m (no (by decide) (by decide)) a,fun c hc=>(h.fs c hc).mt m (no (by omega) (by omega)) a,i0,i1,i2,i3⟩
theorem Gv (h:bW own G t x w B) (hc:c<4) (x16:Ext (G.room 18) G16) (hl:(x.F c).length≤1000000) (i:Int) :
  ∃ v' G20,j9 1 8 (B.F c) (.slice (some ⟨G.nx+14,0,none⟩) 1 1) (((G16.aS (G.nx+14)).push ⟨[.int .i64 i],1,false,1⟩).back G16)=some (v',G20)∧G20.obj B.xb=some ⟨cq t w B,1,false,1⟩∧G20.obj B.fb=some ⟨lF B.F,1,false,1⟩∧one v' =true ∧
   ∀ G23,G23=G20.put B.fb ⟨lF (aI B.F c v'),1,false,1⟩→aE [3,21+c] own G G23∧bW (grown own G (21+c)) G23 t { x with F:=aI x.F c (x.F c++[i]) } w { B with F:=aI B.F c v' }:=by
 have y16:Ext G G16:=((Ext.refl G).room 18).trans x16
 have n16:G.nx+18≤G16.nx:=x16.nx
 obtain ⟨Gd,mH⟩:∃ Gd,Gd=((G16.aS (G.nx+14)).push ⟨[.int .i64 i],1,false,1⟩).back G16:=⟨_,rfl⟩
 have xd:Ext G Gd:=by rw [mH]; exact Ext.drawn y16 (by omega) (by omega) _
 have xX:bT (bh .i64) Gd (.slice (some ⟨G.nx+14,0,none⟩) 1 1) [i]:=by rw [mH]; exact bT.EZ (bh .i64) G16 i (by omega)
 obtain ⟨v',G20,e20,m20,o20,nn,eJ⟩:=(h.fs c hc).app (ib:=8) (by decide) xX xd (by simp) (by simp; omega)
 have tc:21+c≠1∧21+c≠2∧21+c≠3∧21+c≠4:=by omega
 have ox:G20.obj B.xb=some ⟨cq t w B,1,false,1⟩:=(m20.same h.cx.lt (by rw [h.cx.tag]; simp; omega)).trans h.cx.obj
 have of:G20.obj B.fb=some ⟨lF B.F,1,false,1⟩:=(m20.same h.cf.lt (by rw [h.cf.tag]; simp; omega)).trans h.cf.obj
 rw [mH] at e20
 refine ⟨v',G20,e20,ox,of,tW o20.ow,fun G23 cK=>?_⟩
 have ag:bf own (grown own G (21+c)) G:=dk
 have m:aE [3,21+c] own G G23:=by rw [cK]; exact aE.put (aE.mono m20 (by simp)) (.inl (by rw [h.cf.tag]; simp)) _
 have nx:=m.nx
 have no:∀ {u},u≠3→u<21→u∉[3,21+c]:=fun h1 h2=>by simp; omega
 have nh:∀ {u},31≤u→u∉[3,21+c]:=fun h1=>by simp; omega
 obtain ⟨AL,fS,fA⟩:=h.al
 have ce:cq t w { B with F:=aI B.F c v' }=cq t w B:=rfl
 refine ⟨m,⟨⟨Nat.lt_of_lt_of_le h.cx.lt nx,(ag _ h.cx.lt).trans h.cx.tag,?_⟩,h.cc.to m (no (by decide) (by decide)) ag,⟨Nat.lt_of_lt_of_le h.cf.lt nx,(ag _ h.cf.lt).trans h.cf.tag,by rw [cK]; simp [lF]⟩,h.co.to m (no (by decide) (by decide)) ag,h.hm.g8 m (no (by decide) (by decide)) ag,h.kk.mt m (no (by decide) (by decide)) ag,h.kh.mt m (no (by decide) (by decide)) ag,⟨AL,fS,fA.mt m (no (by decide) (by decide)) ag⟩,h.gt.mt m (no (by decide) (by decide)) ag,h.ca.mt m (no (by decide) (by decide)) ag,fun d hd=>?_,fun q=>⟨(h.i0 q).1,qd (h.i0 q).2 m (nh (by decide)) (nh (by decide)) ag⟩,fun q=>⟨(h.i1 q).1,gb (h.i1 q).2 m (nh (by decide)) (nh (by decide)) ag⟩,fun q=>⟨(h.i2 q).1,gb (h.i2 q).2 m (nh (by decide)) (nh (by decide)) ag⟩,fun q=>⟨(h.i3 q).1,nH (h.i3 q).2 m (nh (by decide)) ag⟩⟩⟩
 ·rw [ce,cK,cM,if_neg (h.cx.ne h.cf.tag (by decide))]; exact ox
 ·by_cases e:d=c
  ·subst e
   show dC _ _ _ _ (aI B.F d v' d) (aI x.F d (x.F d++[i]) d)
   rw [dG,dG]
   refine o20.to (by rw [cK]; exact Nat.le_refl _) (fun g hg=>?_) (bf.refl _ _)
   have t9:=o20.tag g hg
   have:g≠B.fb:=fun q=>by rw [q,ag _ h.cf.lt,h.cf.tag] at t9; omega
   rw [cK,cM,if_neg this]
  ·show dC _ _ _ _ (aI B.F c v' d) (aI x.F c (x.F c++[i]) d)
   rw [cN _ _ e,cN _ _ e]
   exact (h.fs d hd).mt m (by simp; omega) ag
theorem adZ (ae:FuncId→Bool) (hx:iu own tag tg t G b z) (h0:z.line=0):(E ae).cl 74 [P0 b] G=some (.int .i64 0,G):=by
 rcases hx with ⟨_,h,_⟩ | ⟨_,hE⟩
 ·exact absurd h0 h
 obtain ⟨fp,rp,ho,_⟩:=hE.ob
 rw [h0] at ho
 exact f74 (aq Q ae) _ G _ (by simp [s74,ho])
end
def Cm.goes (t:TW) (K H:Int→Int) (x:Cm) (c:Nat) (oc:Int):Cm :=
 if x.o c<0 then (if c=0 then (if (x.na:Int)<t.size then x.oT t K H oc else x) else x.lN t c oc) else if c=0 then x.iD t else x.eo t c
structure qg (t:TW) (K H:Int→Int) (x:Cm) (w:Cx) (k:Nat):Prop where
 kl:(w.KS.length:Int)=t.size
 hl:(w.HS.length:Int)=t.size
 ke:∀ i:Nat,(i:Int)<t.size→w.KS[i]? =some (K i)∧w.HS[i]? =some (H i)
 cs:w.cs.length≤k
 gt:x.got.length≤k
 fs:∀ c,c<4→(x.F c).length≤k
 oc:∀ c,c<4→0≤x.o c→x.o c<w.cs.length
def nJ (t:TW) (K H:Int→Int) (x:Cm) (w:Cx) (k c:Nat) (own:Nat→Nat) (G:GS) (B:dz) (q:Value×GS):Prop :=
 ∃ w',qg t K H (x.goes t K H c w.cs.length) w' (k+1)∧T6 own G t B (x.goes t K H c w.cs.length) w' q
section
variable {own own' ah:Nat→Nat} {G G' G1 G16:GS} {b tb m c sb tag tg k:Nat} {ts:List Nat} {x y:Cm} {w:Cx} {B B':dz} {v:Value} {t:TW} {key hi i e:Int} {s s':MS} {z:aj} {K H:Int→Int} {N:Nat} {g:Sh}
theorem bJ.go (I:bJ t N K H x g) (L:Pl t N) (hc:c<4) (oc:Int) (ho:0≤oc):∃ g',bJ t N K H (x.goes t K H c oc) g':=by
 unfold Cm.goes
 by_cases h0:x.o c<0
 ·rw [if_pos h0]
  by_cases h1:c=0
  ·subst h1
   rw [if_pos rfl]
   by_cases h2:(x.na:Int)<t.size
   ·rw [if_pos h2]; exact ⟨g,I.oT L h0 h2 ho⟩
   ·rw [if_neg h2]; exact ⟨g,I⟩
  ·rw [if_neg h1]; exact ⟨g,I.lN L (by omega) (by omega) h0 ho⟩
 ·rw [if_neg h0]
  by_cases h1:c=0
  ·subst h1
   rw [if_pos rfl]; exact I.iD L (by omega)
  ·rw [if_neg h1]; exact I.eo L (by omega) (by omega) (by omega)
theorem qg.ext (W:qg t K H x w k) {y:Cm} {w':Cx} (h1:w'.KS=w.KS) (h2:w'.HS=w.HS) (h3:w'.cs.length≤k+1∧w.cs.length≤w'.cs.length) (h4:y.got.length≤x.got.length+1) (h5:∀ c,c<4→(y.F c).length≤(x.F c).length+1) (h6:∀ c,c<4→0≤y.o c→y.o c=x.o c∨y.o c<w'.cs.length):qg t K H y w' (k+1):=by
 refine ⟨by rw [h1]; exact W.kl,by rw [h2]; exact W.hl,by rw [h1,h2]; exact W.ke,h3.1,by have:=W.gt; omega,fun c hc=>by have:=W.fs c hc; have:=h5 c hc; omega,fun c hc q=>?_⟩
 rcases h6 c hc q with e | e
 ·have:=W.oc c hc (by omega); omega
 ·exact e
theorem ad1 (ae:FuncId→Bool) (dZ:ae 120=false) (L:Pl t N) (jq:0≤az t 0 0) (I:bJ t N K H x g) (W:qg t K H x w k) (hk:k≤900000) (h:bW own G t x w B) (hc:c<4) (h0:x.o c<0) (hz:t.size≤6) :
  Wp ((E ae).cl 33 [P0 B.xb,.int .i64 c] G) (nJ t K H x w k c own G B):=by
 have fE:w.cs.length≤1000000:=by have:=W.cs; omega
 have bU:=h.cx.obj
 have gM:=h.co.obj
 rw [fB] at bU
 have bg:∃ w' y,y=x.goes t K H c w.cs.length∧qg t K H y w' (k+1)∧Wp ((E ae).cl 70 [P0 B.xb,.int .i64 c] G) (uA own G t B y w'):=by
  have oE:∀ (F:Nat→Int) (d:Nat),0≤aI F c (w.cs.length:Int) d→aI F c (w.cs.length:Int) d=F d∨d=c:=fun F d _=>by
   by_cases e:d=c
   ·exact .inr e
   ·exact .inl (cN _ _ e)
  unfold Cm.goes
  rw [if_pos h0]
  by_cases h1:c=0
  ·subst h1
   rw [if_pos rfl]
   by_cases h2:(x.na:Int)<t.size
   ·rw [if_pos h2]
    obtain ⟨k1,k2⟩:=W.ke x.na h2
    obtain ⟨a1,a2,a3,a4⟩:=I.nd x.na (by omega) h2
    have hh:=I.inv.hi _ a1
    rw [a4] at hh
    refine ⟨w.tick.add (Al w x.na (K x.na)),x.oT t K H w.cs.length,rfl,?_,?_⟩
    ·refine W.ext rfl rfl ⟨by have:=W.cs; simp [Cx.add,Cx.tick]; omega,by simp [Cx.add,Cx.tick]⟩ (Nat.le_succ _) (fun d hd=>?_) (fun d hd q=>?_)
     ·show (aI x.F 0 [] d).length≤_
      by_cases e:d=0
      ·subst e; rw [dG]; simp
      ·rw [cN _ _ e]; omega
     ·rcases oE x.o d q with e | e
      ·exact .inl e
      ·subst e
       refine .inr ?_
       show aI x.o 0 (w.cs.length:Int) 0<_
       rw [dG]; simp [Cx.add,Cx.tick]; omega
    ·exact adO ae dZ L.snd jq h h0 fE k1 k2 h2 (by omega) ⟨hh.2.2.1,hh.2.2.2⟩
   ·rw [if_neg h2]
    refine ⟨w.tick,x,rfl,W.ext rfl rfl ⟨by have:=W.cs; show w.cs.length≤_; omega,Nat.le_refl _⟩ (Nat.le_succ _) (fun d hd=>Nat.le_succ _) (fun d hd q=>.inl rfl),?_⟩
    exact adN ae h (by have:=W.kl; omega)
  ·rw [if_neg h1]
   refine ⟨w.tick.add (gO w c),x.lN t c w.cs.length,rfl,?_,?_⟩
   ·refine W.ext rfl rfl ⟨by have:=W.cs; simp [Cx.add,Cx.tick]; omega,by simp [Cx.add,Cx.tick]⟩ (Nat.le_succ _) (fun d hd=>?_) (fun d hd q=>?_)
    ·show (aI x.F c [] d).length≤_
     by_cases e:d=c
     ·subst e; rw [dG]; simp
     ·rw [cN _ _ e]; omega
    ·rcases oE x.o d q with e | e
     ·exact .inl e
     ·subst e
      refine .inr ?_
      show aI x.o d (w.cs.length:Int) d<_
      rw [dG]; simp [Cx.add,Cx.tick]; omega
   ·by_cases h3:c=3
    ·subst h3; exact adL ae L.snd h h0 fE
    ·exact adJ ae L.snd h (by omega) h0 fE
 obtain ⟨w',y,hy,W',⟨⟨r,G'⟩,e1,e2,own',B',b1,b2,b3,b4,b5⟩⟩:=bg
 simp only at e2 b4 b5
 subst e2
 refine Wp.ref (f33 (aq Q ae) _ _ G) ?_
 refine Wp.mono (Q:=fun q=>q=(.bool true,G')) ?_ (fun q hq=>by subst hq; exact ⟨w',by rw [← hy]; exact W',rfl,own',B',b1,b2,b3,b4,by rw [← hy]; exact b5⟩)
 rcases (show c=0∨c=1∨c=2∨c=3 by omega) with rfl | rfl | rfl | rfl
 all_goals
  simp at e1
  simp [-Int.natCast_add,s33,bU,gM,h0,e1]
end
section
variable {own own' ah:Nat→Nat} {G G' G1 G16:GS} {b tb m c sb tag tg k:Nat} {ts:List Nat} {x y:Cm} {w:Cx} {B B':dz} {v:Value} {t:TW} {key hi i e:Int} {s s':MS} {z:aj} {K H:Int→Int} {N:Nat} {g:Sh}
theorem ad2 (ae:FuncId→Bool) (aZ:ae 107=false) (iv:ae 101=false) (L:Pl t N) (I:bJ t N K H x g) (W:qg t K H x w k) (hk:k≤900000) (h:bW own G t x w B) (h0:0≤x.o 0) :
  Wp ((E ae).cl 33 [P0 B.xb,.int .i64 0] G) (nJ t K H x w k 0 own G B):=by
 have hc:(0:Nat)<4:=by decide
 have bU:=h.cx.obj
 have gM:=h.co.obj
 have mJ:=h.cf.obj
 have eI:¬ x.o 0<0:=by omega
 have LP:=W.oc 0 hc h0
 obtain ⟨j,hj⟩:∃ j:Nat,x.o 0=j:=⟨(x.o 0).toNat,by omega⟩
 have yb:j<w.cs.length:=by omega
 rw [fB] at bU
 obtain ⟨G16,e16,x16⟩:=F4 ae aZ L.snd I.ok (h.df ((Ext.refl G).room 18))
 have kD:(x.F 0).length≤1000000:=by have:=W.fs 0 hc; omega
 obtain ⟨v',G20,e20,kQ,qZ,ra,yd⟩:=Gv h hc x16 kD (gL t x.s)
 obtain ⟨G23,cK⟩:∃ G23,G23=G20.put B.fb ⟨lF (aI B.F 0 v'),1,false,1⟩:=⟨_,rfl⟩
 obtain ⟨m23,h23⟩:=yd G23 cK
 have sF:bp (some (B.F 0)) (B.F 0)=true:=Ci (h.fs 0 hc).ow
 have y16:Ext G G16:=((Ext.refl G).room 18).trans x16
 have re:=(y16.obj _ h.cf.lt).trans mJ
 have oX:=(y16.obj _ h.cx.lt).trans bU
 have mK:bf own (grown own G 21) G:=dk
 obtain ⟨rh,ye⟩:∃ rh,rh=grown own G 21:=⟨_,rfl⟩
 rw [← ye] at h23 mK
 have cU:=h23.df ((Ext.refl G23).room 9)
 have rj:aE dI own G (G23.room 9):=bC.room (aE.mono (us:=dI) m23 (by decide)) 9
 have dO:G23.obj B.xb=some ⟨cq t w B,1,false,1⟩:=h23.cx.obj
 rw [fB] at kQ dO
 obtain ⟨n1,n2,kk,k0,dR⟩:=I.ins h0
 obtain ⟨rm,sA⟩:=cU.i0 h0
 obtain ⟨ah,G31,e31,w31,p31⟩:=ade ae aZ iv L.snd L.gm cU.hm I.ok dR (by decide) (by decide) (by decide) sA
 have m31:=w31.LO
 obtain ⟨x2,cH⟩:∃ x2:Cm,x2={ x with s:=(x.ins.step t x.s).2,ins:=(x.ins.step t x.s).1,F:=aI x.F 0 (x.F 0++[gL t x.s]) }:=⟨_,rfl⟩
 obtain ⟨B2,dq⟩:∃ B2:dz,B2={ B with F:=aI B.F 0 v' }:=⟨_,rfl⟩
 rw [← dq] at cU h23 rm e31 p31
 have a31:=w31.bH.dm
 have h31:bW ah G31 t x2 w B2:=by
  rw [cH]
  exact cU.bH m31 a31 (by decide) (by rw [dq]; exact w31.pm) (fun q=>⟨(cU.i0 q).1,p31⟩) (fun q=>⟨(cU.i1 q).1,gb (cU.i1 q).2 m31 (by decide) (by decide) a31⟩) (fun q=>⟨(cU.i2 q).1,gb (cU.i2 q).2 m31 (by decide) (by decide) a31⟩) (fun q=>⟨(cU.i3 q).1,nH (cU.i3 q).2 m31 (by decide) a31⟩)
 have jR:bf own ah G:=fun g hg=>(a31 g (by have:=rj.nx; omega)).trans (mK g hg)
 have mA:aE dI own G G31:=rj.trans mK (aE.mono (us:=dI) m31 (by decide))
 have gx:x.goes t K H 0 w.cs.length=if (x.ins.step t x.s).1.line=0 then x2.close 0 else x2:=by
  unfold Cm.goes
  rw [if_neg eI,if_pos rfl,cH]
  unfold Cm.iD Cm.close
  split<;>rfl
 have wf:∀ d,d<4→(x2.F d).length≤(x.F d).length+1:=fun d hd=>by
  rw [cH]
  show (aI x.F 0 (x.F 0++[gL t x.s]) d).length≤_
  by_cases e:d=0
  ·subst e; rw [dG]; simp
  ·rw [cN _ _ e]; omega
 have mL:x2.o=x.o:=by rw [cH]
 have iE:x2.got=x.got:=by rw [cH]
 have rn:=h31.cx.obj
 have mM:B2.xb=B.xb:=by rw [dq]
 have mN:B2.m=B.m:=by rw [dq]
 have p0:bZ B 0=P0 (B2.v 0):=by
  have:bZ B2 0=P0 (B2.v 0):=by unfold bZ; rw [rm]; rfl
  rw [← this,dq]; rfl
 have e31:(E ae).cl 72 [P0 (B2.v 0),P0 B.m] (G23.room 9)=some (.bool (decide ((x.ins.step t x.s).1.line=0)),G31):=by rw [← mN]; exact e31
 rw [p0] at bU oX kQ dO
 have pB:∀ d,bZ B2 d=bZ B d:=fun d=>by rw [dq]; rfl
 rw [fB,pB,p0,mM] at rn
 have mZ:z60=[.int .u64 0,.int .i64 0]:=rfl
 by_cases hl:(x.ins.step t x.s).1.line=0
 ·rw [if_pos hl] at gx
  have eE:=adZ ae p31 hl
  obtain ⟨⟨r,G40⟩,e40,q1,et,B4,b1,b2,b3,b4,b5⟩:=Ge (key:=0) (i:=0) (e:=0) ae h31 (by decide) (by rw [mL]; exact hj) yb (by rw [iE]; have:=W.gt; omega) (fun d hd=>by have:=wf d hd; have:=W.fs d hd; omega) (.inl ⟨rfl,rfl⟩)
  simp only at q1 b4 b5
  subst q1
  rw [if_neg (by omega)] at b5
  rw [mM] at e40 b1
  rw [mN] at b2
  have post:nJ t K H x w k 0 own G B (.bool true,G40):=by
   refine ⟨w.gy j 0 0 0,?_,rfl,et,B4,b1,b2,(fun g hg=>(b3 g (by have:=mA.nx; omega)).trans (jR g hg)),mA.trans jR b4,by rw [gx]; exact b5⟩
   rw [gx]
   refine W.ext rfl rfl ⟨?_,?_⟩ (by show x2.got.length≤_; rw [iE]; omega) wf (fun d hd q=>.inl ?_)
   ·have:=W.cs; simp [Cx.gy]; omega
   ·simp [Cx.gy]
   ·have q':0≤aI x2.o 0 (-1) d:=q
    show aI x2.o 0 (-1) d=_
    by_cases e:d=0
    ·subst e; rw [dG] at q'; omega
    ·rw [cN _ _ e,mL]
  refine Wp.ref (f33 (aq Q ae) _ _ G) ?_
  refine Wp.mono (Q:=fun q=>q=(.bool true,G40)) ?_ (fun q hq=>by subst hq; exact post)
  simp at e40
  simp [aI,lF] at cK
  rw [hl] at e31
  simp at e31
  simp [-Int.natCast_add,s33,bU,gM,mJ,eI,e16,re,oX,sF,e20,kQ,qZ,ra,iq,← cK,dO,e31,rn,eE,mZ,e40]
 ·rw [if_neg hl] at gx
  have post:nJ t K H x w k 0 own G B (.bool true,G31):=by
   refine ⟨w,?_,rfl,ah,B2,mM,mN,jR,mA,by rw [gx]; exact h31⟩
   rw [gx]
   exact W.ext rfl rfl ⟨by have:=W.cs; omega,Nat.le_refl _⟩ (by rw [iE]; omega) wf (fun d hd q=>.inl (by rw [mL]))
  refine Wp.ref (f33 (aq Q ae) _ _ G) ?_
  refine Wp.mono (Q:=fun q=>q=(.bool true,G31)) ?_ (fun q hq=>by subst hq; exact post)
  simp [aI,lF] at cK
  simp [hl] at e31
  simp [-Int.natCast_add,s33,bU,gM,mJ,eI,e16,re,oX,sF,e20,kQ,qZ,ra,iq,← cK,dO,e31]
end
end Go.Proofs.YtkhlabammcghbaaGreat.Lift
