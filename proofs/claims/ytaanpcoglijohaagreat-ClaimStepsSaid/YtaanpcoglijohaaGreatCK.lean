import Derived.Test.YtaanpcoglijohaaGreatCI
import Derived.Test.YtaanpcoglijohaaGreatCH
import Derived.Test.YtaanpcoglijohaaGreatCJ
import Derived.Test.YtaanpcoglijohaaGreatCB
import Derived.Test.YtaanpcoglijohaaGreatGhLS
set_option linter.unusedVariables false
set_option linter.unusedSimpArgs false
set_option maxRecDepth 20000
namespace Go.Proofs.YtaanpcoglijohaaGreat.Lift
open Go Go.Proofs.YtaanpcoglijohaaGreat.Gh Go.Proofs
section
variable {look:Bool} {own own' own1:Nat → Nat} {tag tg m r b:Nat} {t:TW} {G G' G1:GS} {s s':MS} {I:Int} {fp rp:Option Addr} {x:ClS}
theorem ClP.to (h:ClP own tag tg t G b x) (hn:G.nx ≤ G'.nx) (hk:∀ g,g < G.nx → own g = tag ∨ own g = tg → G'.obj g = G.obj g) (a:Agr own own' G):ClP own' tag tg t G' b x:=by
 obtain ⟨hb,fp,rp,ho,hf,hr⟩:=h
 refine ⟨hb.to hn a,fp,rp,(hk _ hb.lt (.inl hb.tag)).trans ho,fun e=>?_,fun e=>?_⟩
 ·obtain ⟨fb,tb,e1,a1,a2,d,F⟩:=hf e
  exact ⟨fb,tb,e1,a1.to hn a,a2.to hn a,d,F.kept (hk _ a1.lt (.inr a1.tag)) (hk _ a2.lt (.inr a2.tag))⟩
 ·obtain ⟨rb,e1,a1,R⟩:=hr e
  exact ⟨rb,e1,a1.to hn a,R.to a1 hn (fun g hg hgt=>hk g hg (.inr hgt)) a⟩
theorem PkP.to (h:PkP own tag t G b x) (hn:G.nx ≤ G'.nx) (hk:∀ g,g < G.nx → own g = tag → G'.obj g = G.obj g) (a:Agr own own' G):PkP own' tag t G' b x:=⟨h.1.to hn a,(hk _ h.1.lt h.1.tag).trans h.2⟩
theorem RcP.to (h:RcP own tag tg look t G b x) (hn:G.nx ≤ G'.nx) (hk:∀ g,g < G.nx → own g = tag ∨ own g = tg → G'.obj g = G.obj g) (a:Agr own own' G):RcP own' tag tg look t G' b x:=by
 obtain ⟨fp,rp,⟨hb,I,ho,hI⟩,hf,hr⟩:=h
 refine ⟨fp,rp,⟨hb.to hn a,I,(hk _ hb.lt (.inl hb.tag)).trans ho,hI⟩,fun e=>?_,fun e=>?_⟩
 ·obtain ⟨fb,pb,sb,kb,e1,aF,d,F⟩:=hf e
  exact ⟨fb,pb,sb,kb,e1,aF.to hn a,d,F.kept fun g hg=>hk _ (aF.of hg).lt (.inr (aF.of hg).tag)⟩
 ·obtain ⟨rb,e1,a1,R⟩:=hr e
  exact ⟨rb,e1,a1.to hn a,R.to a1 hn (fun g hg hgt=>hk g hg (.inr hgt)) a⟩
theorem ClP.new (ho:G.obj b = some (clX t (ClS.new t) fp rp)) (hb:At own tag G b):ClP own tag tg t G b (ClS.new t):=.low hb ho (by simp [ClS.new]) (by simp [ClS.new])
theorem RcP.new (ho:G.obj b = some (rcX look t (ClS.new t) 0 fp rp)) (hb:At own tag G b):RcP own tag tg look t G b (ClS.new t):=.low (fp:=fp) (rp:=rp) ⟨hb,0,ho,fun k=>absurd rfl k⟩ (by simp [ClS.new]) (by simp [ClS.new])
theorem RW.pm2 (w:RW (Ow2 own tag tg) own G own1 G1 r s) (h:PM own G m s') (h1:tag ≠ 10) (h2:tg ≠ 10):PM own1 G1 m s':=h.to w.stp (by decide) fun _ _ k=>k.elim (fun k=>by rw [k]; exact h1) fun k=>by rw [k]; exact h2
theorem PW.rm2 (w:PW (Ow2 own tag tg) own G own1 G1 m s) (h:RM own G r s') (h1:tag ≠ 11) (h2:tg ≠ 11):RM own1 G1 r s':=h.to w.stp (by decide) fun _ _ k=>k.elim (fun k=>by rw [k]; exact h1) fun k=>by rw [k]; exact h2
theorem PW.mt2 (w:PW (Ow2 own tag tg) own G own1 G1 m s) {ts:List Nat} (h1:10 ∈ ts) (h2:tag ∈ ts) (h3:tg ∈ ts):ModT ts own G G1:=ModP.mono w.stp.mod fun x hx=>hx.elim (fun h=>by rw [h]; exact h1) fun h=>h.elim (fun h=>by rw [h]; exact h2) fun h=>by rw [h]; exact h3
theorem RW.mt2 (w:RW (Ow2 own tag tg) own G own1 G1 r s) {ts:List Nat} (h1:11 ∈ ts) (h2:tag ∈ ts) (h3:tg ∈ ts):ModT ts own G G1:=ModP.mono w.stp.mod fun x hx=>hx.elim (fun h=>by rw [h]; exact h1) fun h=>h.elim (fun h=>by rw [h]; exact h2) fun h=>by rw [h]; exact h3
theorem PW.keep2 (w:PW (Ow2 own tag tg) own G own1 G1 m s) {g:Nat} (hg:g < G.nx) (h1:own g ≠ 10) (h2:own g ≠ tag) (h3:own g ≠ tg):G1.obj g = G.obj g:=w.keep hg h1 fun k=>k.elim h2 h3
theorem RW.keep2 (w:RW (Ow2 own tag tg) own G own1 G1 r s) {g:Nat} (hg:g < G.nx) (h1:own g ≠ 11) (h2:own g ≠ tag) (h3:own g ≠ tg):G1.obj g = G.obj g:=w.keep hg h1 fun k=>k.elim h2 h3
end
inductive CoreC
 | idle
 | claim (x:ClS) (b c:Nat)
 | peek (x:ClS) (b c:Nat)
def CoreC.row:CoreC → List Value
 | .idle=>[.pointer none,.pointer none,.pointer none]
 | .claim _ b c=>[P0 b,.pointer none,P0 c]
 | .peek _ b c=>[.pointer none,P0 b,P0 c]
def rowC:RowE CoreC:=⟨3,CoreC.row,fun x=>by cases x <;> rfl,fun x=>by cases x <;> rfl,by decide⟩
def CoreC.step (t:TW) (s:MS):CoreC → CoreC × MS
 | .idle=>(.idle,s)
 | .claim x b c=>(.claim (x.step false t s).1 b c,(x.step false t s).2)
 | .peek x b c=>(.peek (x.step true t s).1 b c,(x.step true t s).2)
def CoreC.ok (t:TW) (own:Nat → Nat) (G:GS) (i:Nat):CoreC → Prop
 | .idle=>True
 | .claim x b c=>x.ok false t ∧ ClP own i (200 + i) t G b x ∧ RcP own (100 + i) (300 + i) false t G c x
 | .peek x b c=>x.ok true t ∧ PkP own i t G b x ∧ RcP own (100 + i) (300 + i) true t G c x
def opsC (t:TW):Opy CoreC where
 e:=rowC
 ok:=CoreC.ok t
 to:=by
  intro own own' G G' i x h hn hk a
  have k1:∀ g,g < G.nx → own g = i ∨ own g = 200 + i → G'.obj g = G.obj g:=fun g hg hi=>hk g hg (by simp; omega)
  have k2:∀ g,g < G.nx → own g = 100 + i ∨ own g = 300 + i → G'.obj g = G.obj g:=fun g hg hi=>hk g hg (by simp; omega)
  cases x with
  | idle=>trivial
  | claim x b c=>exact ⟨h.1,h.2.1.to hn k1 a,h.2.2.to hn k2 a⟩
  | peek x b c=>exact ⟨h.1,h.2.1.to hn (fun g hg hi=>k1 g hg (.inl hi)) a,h.2.2.to hn k2 a⟩
section
variable {own own' own1:Nat → Nat} {m r b c i:Nat} {t:TW} {G G' G1:GS} {s s':MS} {x:ClS}
theorem bothC_ok (orc:FuncId → Bool) (hto:orc 241 = false) (hs:t.sound) (hlo:t.lok) (hi:i < 9) (p:PM own G m s) (q:RM own G r s) (hm:s.ok) (hx:x.ok false t) (h1:ClP own i (200 + i) t G b x) (h2:RcP own (100 + i) (300 + i) false t G c x) :
  Wp ((E orc).cl 40 [.agg ⟨[P0 b,.pointer none,P0 c]⟩,P0 m,P0 r] G) fun k=>k.1 = .bool true ∧ ∃ own1,Agr own own1 G ∧ ModT [10,11,i,100 + i,200 + i,300 + i] own G k.2 ∧ PM own1 k.2 m (x.step false t s).2 ∧ RM own1 k.2 r (x.step false t s).2 ∧ ClP own1 i (200 + i) t k.2 b (x.step false t s).1 ∧ RcP own1 (100 + i) (300 + i) false t k.2 c (x.step false t s).1:=by
 refine Wp.ref (f40 (exL_ok Q orc) _ _ _ G) ?_
 obtain ⟨G0,hG0⟩:∃ G0,G0 = G.push ⟨[P0 b,.pointer none,P0 c],1,false,1⟩:=⟨_,rfl⟩
 have x0:Ext G G0:=by rw [hG0]; exact (Ext.refl G).push _
 have o0:G0.obj G.nx = some ⟨[P0 b,.pointer none,P0 c],1,false,1⟩:=by rw [hG0]; simp
 have n0:G0.nx = G.nx + 1:=by rw [hG0]; rfl
 obtain ⟨A0,hA0⟩:∃ A0,A0 = grown own G 13:=⟨_,rfl⟩
 have a0:Agr own A0 G:=by rw [hA0]; exact grown_agr
 have m0:ModT [] own G G0:=ModT.ext x0
 have p0:PM A0 G0 m s:=p.modT m0 (by simp) a0
 have q0:RM A0 G0 r s:=q.modT m0 (by simp) a0
 have h10:ClP A0 i (200 + i) t G0 b x:=h1.to x0.nx (fun g hg _=>x0.obj g hg) a0
 have h20:RcP A0 (100 + i) (300 + i) false t G0 c x:=h2.to x0.nx (fun g hg _=>x0.obj g hg) a0
 have t0:A0 G.nx = 13:=by rw [hA0]; exact grown_new (Nat.le_refl _)
 obtain ⟨A1,G1,e1,w1,r1⟩:=rcstep_ok orc hs hlo q0 hm hx (by omega) (by omega) (by omega) h20
 have p1:=w1.pm2 p0 (by omega) (by omega)
 have h11:ClP A1 i (200 + i) t G1 b x:=h10.to w1.nx (fun g hg hgi=>w1.keep2 hg (by omega) (by omega) (by omega)) w1.stp.agr
 have o1:G1.obj G.nx = some ⟨[P0 b,.pointer none,P0 c],1,false,1⟩:=(w1.keep2 (by omega) (by omega) (by omega) (by omega)).trans o0
 obtain ⟨rb,RI,rfp,rrp,ro⟩:=r1.ob
 obtain ⟨A2,G2,e2,w2,r2⟩:=cstep_ok orc hto hs hlo p1 hm hx (by omega) (by omega) (by omega) h11
 have q2:=w2.rm2 w1.rm (by omega) (by omega)
 have r2':RcP A2 (100 + i) (300 + i) false t G2 c (x.step false t s).1:=r1.to w2.nx (fun g hg hgi=>w2.keep2 hg (by omega) (by omega) (by omega)) w2.stp.agr
 simp [s40,← hG0,o0,e1,o1,ro,e2]
 have n01:=Nat.le_trans x0.nx w1.nx
 have a1:Agr own A1 G:=a0.trans w1.stp.agr x0.nx
 have m1:ModT [10,11,i,100 + i,200 + i,300 + i] own G G1:=(m0.mono (by simp)).trans a0 (w1.mt2 (by simp) (by simp) (by simp))
 exact ⟨A2,a1.trans w2.stp.agr n01,m1.trans a1 (w2.mt2 (by simp) (by simp) (by simp)),w2.pm,q2,r2,r2'⟩
theorem bothP_ok (orc:FuncId → Bool) (hto:orc 241 = false) (hs:t.sound) (hlo:t.lok) (hi:i < 9) (p:PM own G m s) (q:RM own G r s) (hm:s.ok) (hx:x.ok true t) (h1:PkP own i t G b x) (h2:RcP own (100 + i) (300 + i) true t G c x) :
  Wp ((E orc).cl 40 [.agg ⟨[.pointer none,P0 b,P0 c]⟩,P0 m,P0 r] G) fun k=>k.1 = .bool true ∧ ∃ own1,Agr own own1 G ∧ ModT [10,11,i,100 + i,200 + i,300 + i] own G k.2 ∧ PM own1 k.2 m (x.step true t s).2 ∧ RM own1 k.2 r (x.step true t s).2 ∧ PkP own1 i t k.2 b (x.step true t s).1 ∧ RcP own1 (100 + i) (300 + i) true t k.2 c (x.step true t s).1:=by
 refine Wp.ref (f40 (exL_ok Q orc) _ _ _ G) ?_
 obtain ⟨G0,hG0⟩:∃ G0,G0 = G.push ⟨[.pointer none,P0 b,P0 c],1,false,1⟩:=⟨_,rfl⟩
 have x0:Ext G G0:=by rw [hG0]; exact (Ext.refl G).push _
 have o0:G0.obj G.nx = some ⟨[.pointer none,P0 b,P0 c],1,false,1⟩:=by rw [hG0]; simp
 have n0:G0.nx = G.nx + 1:=by rw [hG0]; rfl
 obtain ⟨A0,hA0⟩:∃ A0,A0 = grown own G 13:=⟨_,rfl⟩
 have a0:Agr own A0 G:=by rw [hA0]; exact grown_agr
 have m0:ModT [] own G G0:=ModT.ext x0
 have p0:PM A0 G0 m s:=p.modT m0 (by simp) a0
 have q0:RM A0 G0 r s:=q.modT m0 (by simp) a0
 have h10:PkP A0 i t G0 b x:=h1.to x0.nx (fun g hg _=>x0.obj g hg) a0
 have h20:RcP A0 (100 + i) (300 + i) true t G0 c x:=h2.to x0.nx (fun g hg _=>x0.obj g hg) a0
 have t0:A0 G.nx = 13:=by rw [hA0]; exact grown_new (Nat.le_refl _)
 obtain ⟨A1,G1,e1,w1,r1⟩:=rcstep_ok orc hs hlo q0 hm hx (by omega) (by omega) (by omega) h20
 have p1:=w1.pm2 p0 (by omega) (by omega)
 have h11:PkP A1 i t G1 b x:=h10.to w1.nx (fun g hg hgi=>w1.keep2 hg (by omega) (by omega) (by omega)) w1.stp.agr
 have o1:G1.obj G.nx = some ⟨[.pointer none,P0 b,P0 c],1,false,1⟩:=(w1.keep2 (by omega) (by omega) (by omega) (by omega)).trans o0
 obtain ⟨rb,RI,rfp,rrp,ro⟩:=r1.ob
 obtain ⟨A2,G2,e2,w2,r2⟩:=pstep_ok orc hto hs hlo p1 hm hx (by omega) h11
 have q2:=w2.rm w1.rm (by omega)
 have r2':RcP A2 (100 + i) (300 + i) true t G2 c (x.step true t s).1:=r1.to w2.nx (fun g hg hgi=>w2.keep hg (by omega) (fun k=>by omega)) w2.stp.agr
 simp [s40,← hG0,o0,e1,o1,ro,e2]
 have n01:=Nat.le_trans x0.nx w1.nx
 have a1:Agr own A1 G:=a0.trans w1.stp.agr x0.nx
 have m1:ModT [10,11,i,100 + i,200 + i,300 + i] own G G1:=(m0.mono (by simp)).trans a0 (w1.mt2 (by simp) (by simp) (by simp))
 exact ⟨A2,a1.trans w2.stp.agr n01,m1.trans a1 (w2.mt (by simp) (by simp)),w2.pm,q2,r2,r2'⟩
end
end Go.Proofs.YtaanpcoglijohaaGreat.Lift
set_option linter.unusedVariables false
set_option linter.unusedSimpArgs false
set_option maxRecDepth 20000
namespace Go.Proofs.YtaanpcoglijohaaGreat.Lift
open Go Go.Proofs.YtaanpcoglijohaaGreat.Gh Go.Proofs
theorem req_item (a0 a1 b0 b1:Int):prun Q (Op.equalIn 10000 92 (.agg ⟨[.int .u64 a0,.int .i64 a1]⟩) (.agg ⟨[.int .u64 b0,.int .i64 b1]⟩)) = some (a0 == b0 && (a1 == b1 && true)) :=
 eqS (d:=9999) (L:=[(39,0),(3,1)]) (by kernel_rfl) (by kernel_rfl) (eqL_cons (a:=.int .u64 a0) (b:=.int .u64 b0) (by kernel_rfl) (by kernel_rfl) (by kernel_rfl) (eqL_cons (a:=.int .i64 a1) (b:=.int .i64 b1) (by kernel_rfl) (by kernel_rfl) (by kernel_rfl) rfl))
theorem eq_item (x y:Operand) (a0 a1 b0 b1:Int):gBinF Q .eql 92 x y (.agg ⟨[.int .u64 a0,.int .i64 a1]⟩) (.agg ⟨[.int .u64 b0,.int .i64 b1]⟩) = some (.bool (a0 == b0 && a1 == b1)):=by
 rw [eql_aggF (op:=.eql) (by kernel_rfl) (by kernel_rfl) (by kernel_rfl) (req_item a0 a1 b0 b1)]
 simp
section
variable {look:Bool} {own own' own1:Nat → Nat} {m r b c i j u v tag tg:Nat} {t:TW} {G G' G1:GS} {s s':MS} {x:ClS}
theorem RcP.ext (h:RcP own tag tg look t G b x) (e:Ext G G'):RcP own tag tg look t G' b x:=h.to e.nx (fun g hg _=>e.obj g hg) (Agr.refl _ _)
theorem ClP.ext (h:ClP own tag tg t G b x) (e:Ext G G'):ClP own tag tg t G' b x:=h.to e.nx (fun g hg _=>e.obj g hg) (Agr.refl _ _)
theorem PkP.ext (h:PkP own tag t G b x) (e:Ext G G'):PkP own tag t G' b x:=h.to e.nx (fun g hg _=>e.obj g hg) (Agr.refl _ _)
theorem alikeC_ok (orc:FuncId → Bool) (h1:ClP own i u t G b x) (h2:RcP own j v false t G c x) :
  ∃ G',(E orc).cl 41 [.agg ⟨[P0 b,.pointer none,P0 c]⟩] G = some (.bool true,G') ∧ Ext G G':=by
 obtain ⟨G0,hG0⟩:∃ G0,G0 = G.push ⟨[P0 b,.pointer none,P0 c],1,false,1⟩:=⟨_,rfl⟩
 have x0:Ext G G0:=by rw [hG0]; exact (Ext.refl G).push _
 have o0:G0.obj G.nx = some ⟨[P0 b,.pointer none,P0 c],1,false,1⟩:=by rw [hG0]; simp
 have n0:G0.nx = G.nx + 1:=by rw [hG0]; rfl
 obtain ⟨G1,e1,x1⟩:=rcItem_ok orc (h2.ext x0)
 have o1:=(x1.obj G.nx (by omega)).trans o0
 have y1:=x0.trans x1
 obtain ⟨G2,hG2⟩:∃ G2,G2 = (G1.push ⟨z92,1,false,1⟩).put G1.nx ⟨[.int .u64 x.ik,.int .i64 x.ij],1,false,1⟩:=⟨_,rfl⟩
 have x2:Ext G1 G2:=by rw [hG2]; exact extPP _ _
 have p2:G2.obj G1.nx = some ⟨[.int .u64 x.ik,.int .i64 x.ij],1,false,1⟩:=by rw [hG2]; simp
 have n2:G2.nx = G1.nx + 1:=by rw [hG2]; rfl
 have nx1:=x1.nx
 have o2:=(x2.obj G.nx (by omega)).trans o1
 have y2:=y1.trans x2
 have r2:=h2.ext y2
 obtain ⟨-,RI,rfp,rrp,ro⟩:=r2.ob
 have c2:=h1.ext y2
 obtain ⟨cb2,cfp,crp,co2,-⟩:=c2
 obtain ⟨G3,e3,x3⟩:=cItem_ok orc co2 cb2.lt
 have nx3:=x3.nx
 have p3:=(x3.obj G1.nx (by omega)).trans p2
 have o3:=(x3.obj G.nx (by omega)).trans o2
 obtain ⟨G4,hG4⟩:∃ G4,G4 = ((G3.push ⟨z92,1,false,1⟩).put G3.nx ⟨[.int .u64 x.ik,.int .i64 x.ij],1,false,1⟩).room 27:=⟨_,rfl⟩
 have x4:Ext G3 G4:=by rw [hG4]; exact (extPP _ _).room 27
 have q4:G4.obj G3.nx = some ⟨[.int .u64 x.ik,.int .i64 x.ij],1,false,1⟩:=by rw [hG4]; simp
 have p4:=(x4.obj G1.nx (by omega)).trans p3
 have o4:=(x4.obj G.nx (by omega)).trans o3
 have y4:=(y2.trans x3).trans x4
 have e5:=cBy_ok orc ((x4.obj b (Nat.lt_of_lt_of_le cb2.lt x3.nx)).trans ((x3.obj b cb2.lt).trans co2))
 have e6:=rcBy_ok orc (h2.ext y4)
 have e7:=cClaimed_ok orc ((x4.obj b (Nat.lt_of_lt_of_le cb2.lt x3.nx)).trans ((x3.obj b cb2.lt).trans co2))
 have e8:=rcClaimed_ok orc (h2.ext y4)
 refine ⟨G4,f41 (exL_ok Q orc) _ G _ ?_,y4⟩
 unfold itemV at *
 simp [s41,← hG0,o0,e1,splice_put,splice_end,← hG2,o2,ro,e3,← hG4,p4,q4,o4,eq_item,e5,e6,e7,e8]
theorem alikeP_ok (orc:FuncId → Bool) (hx:x.ok true t) (h1:PkP own i t G b x) (h2:RcP own j v true t G c x) :
  ∃ G',(E orc).cl 41 [.agg ⟨[.pointer none,P0 b,P0 c]⟩] G = some (.bool true,G') ∧ Ext G G':=by
 obtain ⟨G0,hG0⟩:∃ G0,G0 = G.push ⟨[.pointer none,P0 b,P0 c],1,false,1⟩:=⟨_,rfl⟩
 have x0:Ext G G0:=by rw [hG0]; exact (Ext.refl G).push _
 have o0:G0.obj G.nx = some ⟨[.pointer none,P0 b,P0 c],1,false,1⟩:=by rw [hG0]; simp
 have n0:G0.nx = G.nx + 1:=by rw [hG0]; rfl
 obtain ⟨G1,e1,x1⟩:=rcItem_ok orc (h2.ext x0)
 have o1:=(x1.obj G.nx (by omega)).trans o0
 have y1:=x0.trans x1
 obtain ⟨G2,hG2⟩:∃ G2,G2 = (G1.push ⟨z92,1,false,1⟩).put G1.nx ⟨[.int .u64 x.ik,.int .i64 x.ij],1,false,1⟩:=⟨_,rfl⟩
 have x2:Ext G1 G2:=by rw [hG2]; exact extPP _ _
 have p2:G2.obj G1.nx = some ⟨[.int .u64 x.ik,.int .i64 x.ij],1,false,1⟩:=by rw [hG2]; simp
 have n2:G2.nx = G1.nx + 1:=by rw [hG2]; rfl
 have nx1:=x1.nx
 have o2:=(x2.obj G.nx (by omega)).trans o1
 have y2:=y1.trans x2
 have r2:=h2.ext y2
 obtain ⟨-,RI,rfp,rrp,ro⟩:=r2.ob
 obtain ⟨cb2,co2⟩:=h1.ext y2
 obtain ⟨G3,e3,x3⟩:=pItem_ok orc hx co2 cb2.lt
 have nx3:=x3.nx
 have p3:=(x3.obj G1.nx (by omega)).trans p2
 have o3:=(x3.obj G.nx (by omega)).trans o2
 obtain ⟨G4,hG4⟩:∃ G4,G4 = ((G3.push ⟨z92,1,false,1⟩).put G3.nx ⟨[.int .u64 x.ik,.int .i64 x.ij],1,false,1⟩).room 18:=⟨_,rfl⟩
 have x4:Ext G3 G4:=by rw [hG4]; exact (extPP _ _).room 18
 have q4:G4.obj G3.nx = some ⟨[.int .u64 x.ik,.int .i64 x.ij],1,false,1⟩:=by rw [hG4]; simp
 have p4:=(x4.obj G1.nx (by omega)).trans p3
 have o4:=(x4.obj G.nx (by omega)).trans o3
 have y4:=(y2.trans x3).trans x4
 have e5:=pBy_ok orc ((x4.obj b (Nat.lt_of_lt_of_le cb2.lt x3.nx)).trans ((x3.obj b cb2.lt).trans co2))
 have e6:=rcBy_ok orc (h2.ext y4)
 refine ⟨G4,f41 (exL_ok Q orc) _ G _ ?_,y4⟩
 unfold itemV at *
 simp [s41,← hG0,o0,e1,splice_put,splice_end,← hG2,o2,ro,e3,← hG4,p4,q4,o4,eq_item,e5,e6]
end
end Go.Proofs.YtaanpcoglijohaaGreat.Lift
set_option linter.unusedVariables false
set_option linter.unusedSimpArgs false
set_option maxRecDepth 20000
namespace Go.Proofs.YtaanpcoglijohaaGreat.Lift
open Go Go.Proofs.YtaanpcoglijohaaGreat.Gh Go.Proofs
structure CAct where
 core:Int
 what:Int
 at_:Int
 w:Int
def rCAct:RowE CAct:=⟨4,fun x=>[.int .i64 x.core,.int .i64 x.what,.int .i64 x.at_,.int .u64 x.w],fun _=>rfl,fun _=>rfl,by decide⟩
@[simp] theorem rCAct_sz:rCAct.sz = 4:=rfl
@[simp] theorem rCAct_row (x:CAct):rCAct.row x = [.int .i64 x.core,.int .i64 x.what,.int .i64 x.at_,.int .u64 x.w]:=rfl
@[simp] theorem rowC_sz:rowC.sz = 3:=rfl
def CoreC.want:CoreC → Option Addr
 | .idle=>none
 | .claim _ _ c=>some ⟨c,0,none⟩
 | .peek _ _ c=>some ⟨c,0,none⟩
def CoreC.V (x:CoreC):Value:=.agg ⟨CoreC.row x⟩
section
variable {own own' own0:Nat → Nat} {G G' G0 B:GS} {m r cb tb i c:Nat} {s s':MS} {t:TW} {O:List CoreC}
theorem RK.want (h:RK (opsC t) 3 own G m r cb s O) (hc:c < O.length):G.cell cb (c * 3 + 2) = some (.pointer O[c].want):=by
 obtain ⟨b,o,cc,e1,_,q,_⟩:=(SlR.block (e:=rowC) h.oc h.lc).at hc
 cases e1
 have:=q 2 (by decide)
 simp only [rowC_sz,Nat.zero_add] at this
 rw [this]
 cases O[c] <;> rfl
theorem RK.row (h:RK (opsC t) 3 own G m r cb s O) (hc:c < O.length):loadA 3 cb (c * 3) G = some O[c].V:=row_ld (e:=rowC) h.oc h.lc hc
theorem RK.alike (orc:FuncId → Bool) (h:RK (opsC t) 3 own G m r cb s O) (hc:c < O.length) (hw:O[c].want ≠ none):∃ G',(E orc).cl 41 [O[c].V] G = some (.bool true,G') ∧ Ext G G':=by
 have hcore:=h.core c O[c] (List.getElem?_eq_getElem hc)
 revert hcore hw
 cases O[c] with
 | idle=>exact fun hw _=>absurd rfl hw
 | claim x b d=>exact fun _ hk=>alikeC_ok orc hk.2.1 hk.2.2
 | peek x b d=>exact fun _ hk=>alikeP_ok orc hk.1 hk.2.1 hk.2.2
theorem check_ok (orc:FuncId → Bool) {lp:Env → GS → Option (Exit × Env × GS)} {P:Exit × Env × GS → Prop} (hx:Ext B G) (hB:∀ x,x < B.nx → own x = 20) (h:RK (opsC t) 3 own G m r cb s O) (hc:c < 3) {τ:Env} (hi:i < 2 ^ 40) {v3:Value}
  (t3:τ 3 = v3) (t4:τ 4 = P0 tb) (t9:τ 9 = P0 m) (t10:τ 10 = P0 r) (t11:τ 11 = .slice (some ⟨cb,0,none⟩) 3 3) (t12:τ 12 = .int .i64 i) (t13:τ 13 = .int .i64 c)
  (next:∀ (own':Nat → Nat) (τ':Env) (G':GS),Ext B G' → (∀ x,x < B.nx → own' x = 20) → RK (opsC t) 3 own' G' m r cb s O → τ' 3 = v3 → τ' 4 = P0 tb → τ' 9 = P0 m → τ' 10 = P0 r → τ' 11 = .slice (some ⟨cb,0,none⟩) 3 3 → τ' 12 = .int .i64 ((i + 1:Nat):Int) → Wp (lp τ' G') P) :
  Wp (jl4_0_0 true (exL Q orc) lp τ G) P:=by
 have hw:IntKind.wrap .i64 ((i:Int) + 1) = ((i + 1:Nat):Int):=wrap64 (by omega) (by omega)
 have hwl:s.W.length ≤ 4096:=h.ok.2
 have hl:c < O.length:=by rw [h.len]; exact hc
 have hwant:=h.want hl
 have hrow:=h.row hl
 have hci:(c:Int) < 3:=by omega
 have hc0:(0:Int) ≤ c:=by omega
 obtain ⟨G1,e1,x1⟩:∃ G1,(O[c].want ≠ none → (E orc).cl 41 [O[c].V] G = some (.bool true,G1)) ∧ (O[c].want = none → G1 = G) ∧ Ext G G1:=by
  by_cases hn:O[c].want = none
  ·exact ⟨G,fun k=>absurd hn k,fun _=>rfl,Ext.refl _⟩
  ·obtain ⟨G1,e,x⟩:=h.alike orc hl hn
   exact ⟨G1,fun _=>e,fun k=>absurd k hn,x⟩
 obtain ⟨g1,x1⟩:=x1
 obtain ⟨G2,e2,x2⟩:=(h.ext x1).last orc
 have y2:=x1.trans x2
 obtain ⟨G3,e3,x3⟩:=(h.ext y2).rlast orc
 have y3:=y2.trans x3
 have e4:=(h.ext y3).count orc
 have e5:=(h.ext y3).rcount orc
 obtain ⟨v4,G4,e6,x4,w4⟩:=(h.ext y3).words orc
 have y4:=y3.trans x4
 obtain ⟨v5,G5,e7,x5,w5⟩:=(h.ext y4).rwords orc
 have y5:=y4.trans x5
 obtain ⟨G6,e8,x6⟩:=same29 orc (w4.is.ext x5) w5.is (by omega)
 have y6:=y5.trans x6
 have h6:=h.ext y6
 have fin:∀ τ':Env,τ' 3 = v3 → τ' 4 = P0 tb → τ' 9 = P0 m → τ' 10 = P0 r → τ' 11 = .slice (some ⟨cb,0,none⟩) 3 3 → τ' 12 = .int .i64 ((i + 1:Nat):Int) → Wp (lp τ' G6) P:=fun τ'=>next _ τ' G6 (hx.trans y6) (fun x hxx=>(grown_agr x (Nat.lt_of_lt_of_le hxx hx.nx)).trans (hB x hxx)) h6
 have key:∀ op:Option Addr,op = O[c].want → Wp (jl4_0_0 true (exL Q orc) lp τ G) P:=by
  intro op hop
  rw [← hop] at hwant
  cases op with
  | none =>
   have:=g1 hop.symm
   subst this
   simp [-Int.natCast_add,-cell_s,-loadA_s,jl4_0_0,jbl4_0_0,clip_t,t3,t4,t9,t10,t11,t12,t13,hc,hci,hc0,hwant,hrow,e2,e3,acc_neq,e4,e5,e6,e7,e8,hw]
   exact fin _ (by simp [clip_t]) (by simp [clip_t]) (by simp [clip_t]) (by simp [clip_t]) (by simp [clip_t]) (by simp [clip_t])
  | some a =>
   have e1':=e1 (by rw [← hop]; simp)
   unfold CoreC.V at hrow e1'
   simp [-Int.natCast_add,-cell_s,-loadA_s,jl4_0_0,jbl4_0_0,clip_t,t3,t4,t9,t10,t11,t12,t13,hc,hci,hc0,hwant,hrow,e1',e2,e3,acc_neq,e4,e5,e6,e7,e8,hw]
   exact fin _ (by simp [clip_t]) (by simp [clip_t]) (by simp [clip_t]) (by simp [clip_t]) (by simp [clip_t]) (by simp [clip_t])
 exact key _ rfl
end
end Go.Proofs.YtaanpcoglijohaaGreat.Lift
set_option linter.unusedVariables false
set_option linter.unusedSimpArgs false
set_option maxRecDepth 20000
namespace Go.Proofs.YtaanpcoglijohaaGreat.Lift
open Go Go.Proofs.YtaanpcoglijohaaGreat.Gh Go.Proofs
section
variable {own own' own0:Nat → Nat} {G G' G0 B:GS} {m r cb tb i c:Nat} {s s':MS} {t:TW} {O:List CoreC}
def ownN (own:Nat → Nat) (G G1 G2:GS) (i:Nat):Nat → Nat:=fun y=>if y < G.nx then own y else if y < G1.nx then 13 else if y < G2.nx then i else 100 + i
theorem ownN_agr {G G1 G2:GS}:Agr own (ownN own G G1 G2 i) G:=fun y hy=>by unfold ownN; rw [if_pos hy]
theorem ownN_b {G G1 G2:GS} (h0:G.nx ≤ G1.nx) {b:Nat} (h1:G1.nx ≤ b) (h2:b < G2.nx):ownN own G G1 G2 i b = i:=by unfold ownN; rw [if_neg (by omega),if_neg (by omega),if_pos h2]
theorem ownN_c {G G1 G2:GS} (h0:G.nx ≤ G1.nx) (h1:G1.nx ≤ G2.nx) {d:Nat} (h2:G2.nx ≤ d):ownN own G G1 G2 i d = 100 + i:=by unfold ownN; rw [if_neg (by omega),if_neg (by omega),if_neg (by omega)]
theorem core_ok' (orc:FuncId → Bool) (hto:orc 241 = false) (hs:t.sound) (hlo:t.lok) (h:RK (opsC t) 3 own G m r cb s O) (hl:c < O.length) (hn:O[c].want ≠ none) :
  Wp ((E orc).cl 40 [O[c].V,P0 m,P0 r] G) fun q=>q.1 = .bool true ∧ ∃ own' s' O',Agr own own' G ∧ ModT [10,11,c,100 + c,200 + c,300 + c] own G q.2 ∧ RK (opsC t) 3 own' q.2 m r cb s' O':=by
 have hx:O[c]? = some O[c]:=List.getElem?_eq_getElem hl
 have hc:c < 3:=by have:=h.len; omega
 have hcore:=h.core c O[c] hx
 generalize O[c] = o at *
 cases o with
 | idle=>exact absurd rfl hn
 | claim x b d =>
  refine (bothC_ok orc hto hs hlo (show c < 9 by omega) h.pm h.rm h.ok hcore.1 hcore.2.1 hcore.2.2).mono ?_
  rintro ⟨v,G1⟩ ⟨rfl,own1,a1,m1,p1,p2,p3,p4⟩
  have hst:=hcore.1.step hs hlo h.ok
  exact ⟨rfl,own1,_,_,a1,m1,h.told hx m1 a1 p1 p2 hst.2 (y:=CoreC.claim (x.step false t s).1 b d) (show CoreC.ok t own1 G1 c (CoreC.claim (x.step false t s).1 b d) from ⟨hst.1,p3,p4⟩) rfl⟩
 | peek x b d =>
  refine (bothP_ok orc hto hs hlo (show c < 9 by omega) h.pm h.rm h.ok hcore.1 hcore.2.1 hcore.2.2).mono ?_
  rintro ⟨v,G1⟩ ⟨rfl,own1,a1,m1,p1,p2,p3,p4⟩
  have hst:=hcore.1.step hs hlo h.ok
  exact ⟨rfl,own1,_,_,a1,m1,h.told hx m1 a1 p1 p2 hst.2 (y:=CoreC.peek (x.step true t s).1 b d) (show CoreC.ok t own1 G1 c (CoreC.peek (x.step true t s).1 b d) from ⟨hst.1,p3,p4⟩) rfl⟩
theorem steps_lp (orc:FuncId → Bool) (hto:orc 241 = false) (hs:t.sound) (hlo:t.lok) (htb:tb < B.nx) (otb:B.obj tb = some ⟨t.cells,1,false,1⟩) {v3:Value} {L:List CAct} (hv:SlR rCAct B v3 L) (hL:L.length < 2 ^ 36) (hU:∀ a ∈ L,U a.w) :
  ∀ (k i:Nat) (own:Nat → Nat) (s:MS) (O:List CoreC) (τ:Env) (G:GS),i + k = L.length → Ext B G → (∀ x,x < B.nx → own x = 20) → RK (opsC t) 3 own G m r cb s O → τ 3 = v3 → τ 4 = P0 tb → τ 9 = P0 m → τ 10 = P0 r → τ 11 = .slice (some ⟨cb,0,none⟩) 3 3 → τ 12 = .int .i64 i →
  Wp ((exL Q orc).lpx 4 0 τ G) fun q=>q.1 = .exit 0:=by
 intro k
 induction k with
 | zero =>
  intro i own s O τ G hi hx hB h t3 t4 t9 t10 t11 t12
  have hi':i = L.length:=by omega
  subst hi'
  obtain ⟨a,c,rfl⟩:=hv.len
  refine Wp.lp (l4_0 (exL_ok Q orc)) ?_
  simp [b4_0,bb4_0,clip_t,t3,t4,t9,t10,t11,t12]
 | succ k ih =>
  intro i own s O τ G hi hx hB h t3 t4 t9 t10 t11 t12
  have hlt:i < L.length:=by omega
  have hi0:(0:Int) ≤ i:=by omega
  obtain ⟨b,o,c,e0,hbl,q0,q1⟩:=(hv.ext hx).at hlt
  have c0:=q0 0 (by decide)
  have c1:=q0 1 (by decide)
  have c2:=q0 2 (by decide)
  have c3:=q0 3 (by decide)
  simp [-cell_s] at c0 c1 c2 c3
  have hp0:=Int.emod_nonneg L[i].core (show (3:Int) ≠ 0 by decide)
  have hp1:=Int.emod_lt_of_pos L[i].core (show (0:Int) < 3 by decide)
  obtain ⟨c',hc'⟩:=Int.eq_ofNat_of_zero_le hp0
  have hc4:c' < 3:=by omega
  have hc4':(c':Int) < 3:=by omega
  have e32:∀ G,(E orc).cl 16 [.int .i64 L[i].core,.int .i64 3] G = some (.int .i64 c',G):=fun G=>by rw [pick_ok orc _ 3 (by decide) (by decide),hc']
  have otb':=(hx.obj tb htb).trans otb
  have hw0:(0:Int) ≤ c':=by omega
  have hlen:=h.len
  have hcl:c' < O.length:=by omega
  have hget:O[c']? = some O[c']:=List.getElem?_eq_getElem hcl
  have go:∀ (own:Nat → Nat) (s:MS) (G:GS) (O:List CoreC) (τ:Env),Ext B G → (∀ x,x < B.nx → own x = 20) → RK (opsC t) 3 own G m r cb s O → τ 3 = v3 → τ 4 = P0 tb → τ 9 = P0 m → τ 10 = P0 r → τ 11 = .slice (some ⟨cb,0,none⟩) 3 3 → τ 12 = .int .i64 i → τ 13 = .int .i64 c' →
    Wp (jl4_0_0 true (exL Q orc) ((exL Q orc).lpx 4 0) τ G) fun q=>q.1 = .exit 0:=by
   intro own s G O τ hx hB h t3 t4 t9 t10 t11 t12 t13
   refine check_ok orc hx hB h hc4 (by omega) t3 t4 t9 t10 t11 t12 t13 ?_
   intro own' τ' G' hx' hB' h' u3 u4 u9 u10 u11 u12
   exact ih (i + 1) own' s O τ' G' (by omega) hx' hB' h' u3 u4 u9 u10 u11 u12
  have hlc:=h.lc
  have hcb:B.nx ≤ cb:=by
   rcases Nat.lt_or_ge cb B.nx with hh | hh
   ·have:=hB _ hh; rw [h.tc] at this; omega
   ·exact hh
  refine Wp.lp (l4_0 (exL_ok Q orc)) ?_
  by_cases w1:L[i].what = 1
  ·obtain ⟨pb,G2,e2,x2,o2,p1,p2⟩:=newclaim_ok orc hs (G.room 9)
   have otb2:=(x2.obj tb (by have:=hx.nx; simp; omega)).trans (show (G.room 9).obj tb = _ by simpa using otb')
   obtain ⟨db,G3,e3,x3,o3,d1,d2⟩:=rcnew_ok orc hs G2
   have y3:Ext G G3:=(((Ext.refl G).room 9).trans x2).trans x3
   have n2:=x2.nx
   have n3:=x3.nx
   simp at n2 p1
   have hst:storeN 3 cb (c' * 3) (.agg ⟨[P0 pb,.pointer none,P0 db]⟩) G3 = some (G3.put cb ⟨(opsC t).e.flat (O.set c' (.claim (ClS.new t) pb db)),(opsC t).e.sz,false,1⟩):=row_st (e:=rowC) ((y3.obj cb h.lc).trans h.oc) hcl (.claim (ClS.new t) pb db)
   have h1:=h.begin (own':=ownN own G (G.room 9) G2 c') (i:=c') (y:=.claim (ClS.new t) pb db) y3 hc4 ownN_agr (by
    refine ⟨ClS.new_ok hs,ClP.new (fp:=none) (rp:=none) ?_ ⟨?_,?_⟩,RcP.new (fp:=none) (rp:=none) ?_ ⟨?_,?_⟩⟩
    ·rw [obj_put,if_neg (by omega)]; exact (x3.obj pb (by omega)).trans o2
    ·show pb < G3.nx; omega
    ·exact ownN_b (by simp) (by simpa using p1) (by omega)
    ·rw [obj_put,if_neg (by omega)]; exact o3
    ·exact d2
    ·exact ownN_c (by simp) (by simpa using n2) d1)
   have el:loadA 13 tb 0 G = some t.v:=by simp [otb']
   have el2:loadA 13 tb 0 G2 = some t.v:=by simp [otb2]
   simp [-Int.natCast_add,-cell_s,-loadA_s,-storeN_s,b4_0,bb4_0,clip_t,t3,t4,t9,t10,t11,t12,e0,hlt,hi0,c0,c1,e32,w1,el,el2,e2,e3,hc4,hc4',hw0,splice_put,splice_end,splice_succ,hst]
   refine go _ s _ _ _ ((hx.trans y3).put hcb _) (fun x hxx=>(ownN_agr x (Nat.lt_of_lt_of_le hxx hx.nx)).trans (hB x hxx)) h1 (by simp [clip_t]; exact e0.symm) (by simp [clip_t]) (by simp [clip_t]) (by simp [clip_t]) (by simp [clip_t]) (by simp [clip_t]) (by simp [clip_t])
  by_cases w2:L[i].what = 2
  ·obtain ⟨pb,G2,e2,x2,o2,p1,p2⟩:=newpeek_ok orc hs (G.room 11)
   have otb2:=(x2.obj tb (by have:=hx.nx; simp; omega)).trans (show (G.room 11).obj tb = _ by simpa using otb')
   obtain ⟨db,G3,e3,x3,o3,d1,d2⟩:=rpnew_ok orc hs G2
   have y3:Ext G G3:=(((Ext.refl G).room 11).trans x2).trans x3
   have n2:=x2.nx
   have n3:=x3.nx
   simp at n2 p1
   have hst:storeN 3 cb (c' * 3) (.agg ⟨[.pointer none,P0 pb,P0 db]⟩) G3 = some (G3.put cb ⟨(opsC t).e.flat (O.set c' (.peek (ClS.new t) pb db)),(opsC t).e.sz,false,1⟩):=row_st (e:=rowC) ((y3.obj cb h.lc).trans h.oc) hcl (.peek (ClS.new t) pb db)
   have h1:=h.begin (own':=ownN own G (G.room 11) G2 c') (i:=c') (y:=.peek (ClS.new t) pb db) y3 hc4 ownN_agr (by
    refine ⟨ClS.new_ok hs,⟨⟨?_,?_⟩,?_⟩,RcP.new (fp:=none) (rp:=none) ?_ ⟨?_,?_⟩⟩
    ·show pb < G3.nx; omega
    ·exact ownN_b (by simp) (by simpa using p1) (by omega)
    ·rw [obj_put,if_neg (by omega)]; exact (x3.obj pb (by omega)).trans o2
    ·rw [obj_put,if_neg (by omega)]; exact o3
    ·exact d2
    ·exact ownN_c (by simp) (by simpa using n2) d1)
   have el:loadA 13 tb 0 G = some t.v:=by simp [otb']
   have el2:loadA 13 tb 0 G2 = some t.v:=by simp [otb2]
   simp [-Int.natCast_add,-cell_s,-loadA_s,-storeN_s,b4_0,bb4_0,clip_t,t3,t4,t9,t10,t11,t12,e0,hlt,hi0,c0,c1,e32,w2,el,el2,e2,e3,hc4,hc4',hw0,splice_put,splice_end,splice_succ,hst]
   refine go _ s _ _ _ ((hx.trans y3).put hcb _) (fun x hxx=>(ownN_agr x (Nat.lt_of_lt_of_le hxx hx.nx)).trans (hB x hxx)) h1 (by simp [clip_t]; exact e0.symm) (by simp [clip_t]) (by simp [clip_t]) (by simp [clip_t]) (by simp [clip_t]) (by simp [clip_t]) (by simp [clip_t])
  by_cases w3:L[i].what = 3
  ·have h12:=h.room 12
   obtain ⟨own1,G1,e1,k1⟩:=h12.pm.store orc L[i].at_ L[i].w
   have y1:ModT [10,11] (grown own G 13) (G.room 12) G1:=(k1.stp.modT (i:=10) (fun _ _ h=>h.elim)).mono (by simp)
   have g1:=h12.rm.to k1.stp (by decide) fun _ _ h=>h.elim
   have a0:Agr own (grown own G 13) G:=grown_agr
   have m0:ModT [10,11,c',100 + c',200 + c',300 + c'] own G (G.room 12):=ModT.ext ((Ext.refl G).room 12)
   have m1:=m0.trans a0 (y1.mono (us:=[10,11,c',100 + c',200 + c',300 + c']) (by simp))
   have a1:Agr own own1 G:=a0.trans k1.stp.agr (by simp)
   have x1:Ext B G1:=m1.toExt (fun g hg=>by rw [hB g hg]; simp; omega) hx
   obtain ⟨b1,o1,cc1,e01,_,q01,_⟩:=(hv.ext x1).at hlt
   have c21:=q01 2 (by decide)
   have c31:=q01 3 (by decide)
   simp [-cell_s] at c21 c31
   rw [e0] at e01
   cases e01
   have n1:=m1.nx
   have x12:Ext G1 (G1.room 12):=(Ext.refl G1).room 12
   have a12:Agr own1 (grown own1 G1 13) G1:=grown_agr
   obtain ⟨own2,G2,e2,k2⟩:=(g1.ext x12).store orc L[i].at_ L[i].w
   have y2:ModT [10,11] (grown own1 G1 13) (G1.room 12) G2:=(k2.stp.modT (i:=10) (fun _ _ h=>h.elim)).mono (by simp)
   have m12:ModT [10,11,c',100 + c',200 + c',300 + c'] own1 G1 (G1.room 12):=ModT.ext x12
   have m2:=(m1.trans a1 m12).trans (a1.trans a12 n1) (y2.mono (us:=[10,11,c',100 + c',200 + c',300 + c']) (by simp))
   have a2:Agr own own2 G:=(a1.trans a12 n1).trans k2.stp.agr (Nat.le_trans n1 (by simp))
   have p2:PM own2 G2 m (s.store L[i].at_ L[i].w):=(k1.pm.ext x12).to k2.stp (by decide) fun _ _ h=>h.elim
   have hok:(s.store L[i].at_ L[i].w).ok:=h.ok.store _ (hU _ (List.getElem_mem hlt))
   have hcore:=(opsC t).to (h.core c' _ hget) (G':=G2) (own':=own2) m2.nx (fun g hg hgi=>?_) a2
   ·have h2:=h.told hget m2 a2 p2 k2.rm hok hcore rfl
    rw [List.set_getElem_self] at h2
    simp [-Int.natCast_add,-cell_s,-loadA_s,-storeN_s,b4_0,bb4_0,clip_t,t3,t4,t9,t10,t11,t12,e0,hlt,hi0,c0,c1,c2,c3,e32,w3,e1,c21,c31,e2]
    exact go _ _ _ _ _ (m2.toExt (fun g hg=>by rw [hB g hg]; simp; omega) hx) (fun x hxx=>(a2 x (Nat.lt_of_lt_of_le hxx hx.nx)).trans (hB x hxx)) h2 (by simp [clip_t]; exact e0.symm) (by simp [clip_t]) (by simp [clip_t]) (by simp [clip_t]) (by simp [clip_t]) (by simp [clip_t]) (by simp [clip_t])
   ·simp at hgi
    have k0:(G.room 12).obj g = G.obj g:=by simp
    have k1':G1.obj g = (G.room 12).obj g:=y1.same (by simp; omega) (by rw [a0 g hg]; simp; omega)
    have k2':(G1.room 12).obj g = G1.obj g:=by simp
    have k3':G2.obj g = (G1.room 12).obj g:=y2.same (by simp; omega) (by rw [a12 g (by omega),a1 g hg]; simp; omega)
    rw [k3',k2',k1',k0]
  have hwant:=h.want hcl
  by_cases w0:L[i].what = 0 ∧ O[c'].want ≠ none
  ·obtain ⟨w00,hn⟩:=w0
   have hrow:=h.row hcl
   have hstep:=core_ok' orc hto hs hlo h hcl hn
   obtain ⟨a,ha⟩:=Option.ne_none_iff_exists'.1 hn
   rw [ha] at hwant
   unfold CoreC.V at hrow hstep
   simp [-Int.natCast_add,-cell_s,-loadA_s,b4_0,bb4_0,clip_t,t3,t4,t9,t10,t11,t12,e0,hlt,hi0,c0,c1,e32,w00,hc4,hc4',hw0,hwant,hrow]
   refine Wp.stepW hstep ?_
   rintro _ G1 ⟨rfl,own1,s1,O1,a1,m1,h1⟩
   simp only at m1 h1
   simp
   exact go own1 s1 G1 O1 _ (m1.toExt (fun g hg=>by rw [hB g hg]; simp; omega) hx) (fun x hxx=>(a1 x (Nat.lt_of_lt_of_le hxx hx.nx)).trans (hB x hxx)) h1 (by simp [clip_t]; exact e0.symm) (by simp [clip_t]) (by simp [clip_t]) (by simp [clip_t]) (by simp [clip_t]) (by simp [clip_t]) (by simp [clip_t])
  ·by_cases w00:L[i].what = 0
   ·have hn:O[c'].want = none:=Classical.byContradiction fun k=>w0 ⟨w00,k⟩
    rw [hn] at hwant
    simp [-Int.natCast_add,-cell_s,-loadA_s,b4_0,bb4_0,clip_t,t3,t4,t9,t10,t11,t12,e0,hlt,hi0,c0,c1,e32,w00,hc4,hc4',hw0,hwant]
    exact go own s G O _ hx hB h (by simp [clip_t]; exact e0.symm) (by simp [clip_t]) (by simp [clip_t]) (by simp [clip_t]) (by simp [clip_t]) (by simp [clip_t]) (by simp [clip_t])
   ·simp [-Int.natCast_add,-cell_s,-loadA_s,b4_0,bb4_0,clip_t,t3,t4,t9,t10,t11,t12,e0,hlt,hi0,c0,c1,e32,w1,w2,w3,w00]
    exact go own s G O _ hx hB h (by simp [clip_t]; exact e0.symm) (by simp [clip_t]) (by simp [clip_t]) (by simp [clip_t]) (by simp [clip_t]) (by simp [clip_t]) (by simp [clip_t])
end
end Go.Proofs.YtaanpcoglijohaaGreat.Lift
set_option linter.unusedVariables false
set_option linter.unusedSimpArgs false
set_option maxRecDepth 20000
namespace Go.Proofs.YtaanpcoglijohaaGreat.Lift
open Go Go.Proofs.YtaanpcoglijohaaGreat.Gh Go.Proofs
theorem claimSteps (orc:FuncId → Bool) (haw:orc 34 = true) (hto:orc 241 = false) (t:TW) (hg:-9223372036854775808 ≤ t.u6 ∧ t.u6 ≤ 9223372036854775807) (n:Int) (v2:Value) (W:List Int) (v3:Value) (L:List CAct) (G:GS) (h2:SlR (rowsI .u64) G v2 W) (hW:∀ w ∈ W,U w) (h3:SlR rCAct G v3 L) (hU:∀ a ∈ L,U a.w) :
  Wp ((E orc).cl 4 [t.v,.int .i64 n,v2,v3] G) fun q=>q.1 = .bool true:=by
 have aw:∀ G,(E orc).cl 34 [] G = some (.bool true,G):=fun G=>cl_orc Q orc haw G
 refine Wp.ref (f4 (exL_ok Q orc) _ _ _ _ G) ?_
 obtain ⟨G0,hG0⟩:∃ G0,G0 = G.push ⟨t.cells,1,false,1⟩:=⟨_,rfl⟩
 have x0:Ext G G0:=by rw [hG0]; exact (Ext.refl G).push _
 have o0:G0.obj G.nx = some ⟨t.cells,1,false,1⟩:=by rw [hG0]; simp
 have n0:G.nx < G0.nx:=by rw [hG0]; simp
 have hl2:∀ t,ln Q true t v2 = some (.int .i64 W.length):=fun t=>by obtain ⟨a,c,rfl⟩:=h2.len; simp
 have hl3:∀ t,ln Q true t v3 = some (.int .i64 L.length):=fun t=>by obtain ⟨a,c,rfl⟩:=h3.len; simp
 obtain ⟨code,G1,e1,x1,f1⟩:=r15fits_ok orc hg n G0
 have o1:=(x1.obj _ n0).trans o0
 have y1:=x0.trans x1
 by_cases hf:code = 0
 ·subst hf
  obtain ⟨hs,hgd⟩:=f1 rfl
  by_cases c1:12 < t.size
  ·simp [s4,← hG0,o0,e1,o1,c1,aw]
  by_cases c2:130 < n
  ·simp [s4,← hG0,o0,e1,o1,c1,c2,aw]
  by_cases c3:130 < W.length
  ·have c3':(130:Int) < W.length:=by omega
   simp [s4,← hG0,o0,e1,o1,c1,c2,hl2,c3',aw]
  by_cases c4:200 < L.length
  ·have c3':¬ (130:Int) < W.length:=by omega
   have c4':(200:Int) < L.length:=by omega
   simp [s4,← hG0,o0,e1,o1,c1,c2,hl2,hl3,c3',c4',aw]
  have c3':¬ (130:Int) < W.length:=by omega
  have c4':¬ (200:Int) < L.length:=by omega
  simp [s4,← hG0,o0,e1,o1,c1,c2,hl2,hl3,c3',c4']
  refine Wp.stepW (laid_ok orc hto hs hgd (h2.ext y1) (by omega)) ?_
  rintro _ G4 ⟨m,r,own,rfl,x4,hpm,hrm,hown⟩
  simp only at x4 hpm hrm
  have hm:mkK 3 24 z89 3 3 G4 = some (.slice (some ⟨G4.nx,0,none⟩) 3 3,G4.push ⟨rowC.flat [.idle,.idle,.idle],3,false,1⟩):=by
   unfold mkK
   rw [if_pos ⟨by omega,by omega,by decide,by decide,wrap64 (by omega) (by omega),wrap64 (by omega) (by omega)⟩]
   rfl
  have x5:Ext G4 (G4.push ⟨rowC.flat [.idle,.idle,.idle],3,false,1⟩):=(Ext.refl G4).push _
  have hA:=hgd.2.2.1
  have hRK:RK (opsC t) 3 (grown own G4 12) (G4.push ⟨rowC.flat [.idle,.idle,.idle],3,false,1⟩) m r G4.nx (laidT t n W) [.idle,.idle,.idle]:=by
   refine ⟨hpm.modT (ts:=[]) (ModT.ext x5) (by simp) grown_agr,hrm.modT (ts:=[]) (ModT.ext x5) (by simp) grown_agr,putsN_ok _ _ hW (fillT_ok hA (zero_ok (by have:=hgd.2.1; omega))),grown_new (Nat.le_refl _),by simp,by rw [obj_push,if_pos rfl]; rfl,rfl,by decide,?_⟩
   intro i x hx
   have:x = CoreC.idle:=by
    have:=List.mem_of_getElem? hx
    simpa using this
   subst this
   exact trivial
  simp [hm]
  refine Wp.bE ((steps_lp orc hto hs hgd.2.2.2.1 (B:=G1) (tb:=G.nx) (Nat.lt_of_lt_of_le n0 x1.nx) o1 (h3.ext y1) (by omega) hU L.length 0 _ _ _ _ _ (by omega) (x4.trans x5) (fun x hx=>(grown_agr x (Nat.lt_of_lt_of_le hx x4.nx)).trans (hown x hx)) hRK (by simp) (by simp) (by simp) (by simp) (by simp) (by simp)).mono ?_)
  rintro ⟨e,τ,G'⟩ rfl
  simp [aw]
 ·simp [s4,← hG0,o0,e1,o1,hf,aw]
end Go.Proofs.YtaanpcoglijohaaGreat.Lift
set_option linter.unusedVariables false
set_option linter.unusedSimpArgs false
set_option maxRecDepth 20000
namespace Go.Proofs.YtaanpcoglijohaaGreat.Lift
open Go Go.Proofs.YtaanpcoglijohaaGreat.Gh Go.Proofs
theorem trueAw:closedTrueF Q 200 34 = true:=by kernel_rfl
theorem okAw:OrcOk Q (among [34]):=among_ok _ (hp:=purOk_none (by kernel_rfl) (by kernel_rfl)) fun f hf=>by
 simp only [List.mem_cons,List.not_mem_nil,or_false] at hf
 subst hf
 exact ⟨⟨_,Tryz.func34,by kernel_rfl,by kernel_rfl⟩,fun w _=>closed_trueF (by kernel_rfl) trueAw w⟩
theorem U_wf {x:Int} (h:(Lit.int .u64 x).wf = true):U x:=by
 simp [Lit.wf] at h
 exact ⟨Int.le_trans (show (0:Int) ≤ IntKind.min .u64 by decide) h.1,Int.lt_of_le_of_lt h.2 (show IntKind.max .u64 < (18446744073709551616:Int) by decide)⟩
theorem I_wf {x:Int} (h:(Lit.int .i64 x).wf = true):-9223372036854775808 ≤ x ∧ x ≤ 9223372036854775807:=by
 simp [Lit.wf] at h
 exact ⟨Int.le_trans (show (-9223372036854775808:Int) ≤ IntKind.min .i64 by decide) h.1,Int.le_trans h.2 (show IntKind.max .i64 ≤ (9223372036854775807:Int) by decide)⟩
theorem row_cact {r:List Value} (h:Row [some .i64,some .i64,some .i64,some .u64] r):∃ x:CAct,r = rCAct.row x:=by
 match r with
 | []=>exact h.elim
 | [_]=>exact h.2.elim
 | [_,_]=>exact h.2.2.elim
 | [_,_,_]=>exact h.2.2.2.elim
 | x :: y :: z :: u :: q :: l=>exact h.2.2.2.2.elim
 | [x,y,z,u] =>
  obtain ⟨⟨a,ha,_⟩,⟨b,hb,_⟩,⟨c,hc,_⟩,⟨d,hd,_⟩,_⟩:=h
  exact ⟨⟨a,b,c,d⟩,by rw [ha,hb,hc,hd]; rfl⟩
theorem row_cu {x:CAct} (h:Row [some .i64,some .i64,some .i64,some .u64] (rCAct.row x)):U x.w:=by
 rw [rCAct_row] at h
 obtain ⟨_,_,_,⟨d,hd,wd⟩,_⟩:=h
 cases hd
 exact U_wf wd
theorem row_tw {r:List Value} (h:Row [some .i64,some .i64,some .i64,some .i64,some .i64,some .i64,some .i64,some .i64,some .i64,some .i64,some .i64,some .i64,some .i64] r):∃ x:TW,r = x.cells ∧ -9223372036854775808 ≤ x.u6 ∧ x.u6 ≤ 9223372036854775807:=by
 match r with
 | [x0,x1,x2,x3,x4,x5,x6,x7,x8,x9,x10,x11,x12] =>
  obtain ⟨⟨a0,h0,_⟩,⟨a1,h1,_⟩,⟨a2,h2,_⟩,⟨a3,h3,_⟩,⟨a4,h4,_⟩,⟨a5,h5,_⟩,⟨a6,h6,w6⟩,⟨a7,h7,_⟩,⟨a8,h8,_⟩,⟨a9,h9,_⟩,⟨a10,h10,_⟩,⟨a11,h11,_⟩,⟨a12,h12,_⟩,_⟩:=h
  exact ⟨⟨a0,a1,a2,a3,a4,a5,a6,a7,a8,a9,a10,a11,a12⟩,by rw [h0,h1,h2,h3,h4,h5,h6,h7,h8,h9,h10,h11,h12],I_wf w6⟩
 | []=>exact h.elim
 | [_]=>exact h.2.elim
 | [_,_]=>exact h.2.2.elim
 | [_,_,_]=>exact h.2.2.2.elim
 | [_,_,_,_]=>exact h.2.2.2.2.elim
 | [_,_,_,_,_]=>exact h.2.2.2.2.2.elim
 | [_,_,_,_,_,_]=>exact h.2.2.2.2.2.2.elim
 | [_,_,_,_,_,_,_]=>exact h.2.2.2.2.2.2.2.elim
 | [_,_,_,_,_,_,_,_]=>exact h.2.2.2.2.2.2.2.2.elim
 | [_,_,_,_,_,_,_,_,_]=>exact h.2.2.2.2.2.2.2.2.2.elim
 | [_,_,_,_,_,_,_,_,_,_]=>exact h.2.2.2.2.2.2.2.2.2.2.elim
 | [_,_,_,_,_,_,_,_,_,_,_]=>exact h.2.2.2.2.2.2.2.2.2.2.2.elim
 | [_,_,_,_,_,_,_,_,_,_,_,_]=>exact h.2.2.2.2.2.2.2.2.2.2.2.2.elim
 | _ :: _ :: _ :: _ :: _ :: _ :: _ :: _ :: _ :: _ :: _ :: _ :: _ :: _ :: _=>exact h.2.2.2.2.2.2.2.2.2.2.2.2.2.elim
end Go.Proofs.YtaanpcoglijohaaGreat.Lift
