import Derived.Test.YtkhlabammcghbaaGreatPA
set_option linter.unusedVariables false
set_option linter.unusedSimpArgs false
set_option maxRecDepth 20000
namespace Go.Proofs.YtkhlabammcghbaaGreat.Lift
open Go Go.Proofs.YtkhlabammcghbaaGreat.Gh Go.Proofs
abbrev Own (own:Nat→Nat) (t:Nat):Nat→Prop:=fun x=>own x=t
section
variable {t u m r b:Nat} {B:Nat→Prop} {own ah aX:Nat→Nat} {G G1 G2:GS} {s s' s1:MS}
theorem PW.ej (w:PW B own G ah G1 m s) (x:Ext G1 G2) (t:Nat):PW B own G (grown ah G1 t) G2 m s :=
 ⟨w.bH.trans (B':=no) (dW.R6 x dk) fun _ _ h=>h.elim,w.pm.to (t:=11) (B:=no) (dW.R6 x dk) (by decide) fun _ _ h=>h.elim⟩
theorem PW.tr (w:PW (Own own t) own G ah G1 m s) (k:PW (Own ah t) ah G1 aX G2 m s'):PW (Own own t) own G aX G2 m s':=w.trans k fun _ hx h=>(w.bH.same hx).symm.trans h
theorem PW.any (w:PW no own G ah G1 m s):PW B own G ah G1 m s:=w.mono fun _ _ h=>h.elim
theorem PW.aW (w:PW (Own own t) own G ah G1 m s) (hb:ah b=t) (ht:t≠10) (o:bK):PW (Own own t) own G ah (G1.put b o) m s:=by
 refine w.put ?_ (fun _=>by rw [hb]; exact ht) o
 by_cases hl:b<G.nx
 ·exact .inl ((w.bH.same hl).symm.trans hb)
 ·exact .inr (by omega)
theorem PW.g8 (w:PW (Own own t) own G ah G1 m s) (q:bC (Own ah t) G1 G2) (ht:t≠10) (u:Nat):PW (Own own t) own G (grown ah G1 u) G2 m s :=
 w.tr ⟨⟨dk,q.mono fun _ h=>.inr h⟩,w.pm.to (t:=t) (B:=Own ah t) ⟨dk,q.mono fun _ h=>.inl h⟩ ht fun _ _ h=>by rw [h]; exact ht⟩
theorem PW.Fa (w:PW (Own own t) own G ah G1 m s) {g:Nat} (hg:g<G.nx) (hu:own g=u) (h1:u≠10) (h2:u≠t):G1.obj g=G.obj g:=w.keep hg (by rw [hu]; exact h1) fun k=>h2 (hu.symm.trans k)
end
structure At (own:Nat→Nat) (t:Nat) (G:GS) (b:Nat):Prop where
 lt:b<G.nx
 tag:own b=t
theorem At.to {own own':Nat→Nat} {t b:Nat} {G G':GS} (h:At own t G b) (hn:G.nx≤G'.nx) (a:bf own own' G):At own' t G' b:=⟨Nat.lt_of_lt_of_le h.lt hn,(a _ h.lt).trans h.tag⟩
section
variable {t u m r b:Nat} {B:Nat→Prop} {own ah aX:Nat→Nat} {G G1 G2:GS} {s s' s1:MS}
theorem At.br (h:At own t G b) (g:Nat) (o:bK):At own t (G.put g o) b:=⟨h.lt,h.tag⟩
theorem At.df (h:At own t G b) (x:Ext G G1) (u:Nat):At (grown own G u) t G1 b:=h.to x.nx dk
theorem At.new {q:Nat} (h1:G.nx≤q) (h2:q<G1.nx):At (grown own G t) t G1 q:=⟨h2,lG h1⟩
end
structure Opx (X:Type) where
 e:ct X
 ok:(Nat→Nat)→GS→Nat→X→Prop
 to:∀ {own own':Nat→Nat} {G G':GS} {i:Nat} {x:X},ok own G i x→G.nx≤G'.nx→(∀ g,g<G.nx→own g=i∨own g=100+i→G'.obj g=G.obj g)→bf own own' G→ok own' G' i x
section
variable {X:Type} {O O':Opx X} {n m r b cb t i:Nat} {B:Nat→Prop} {own own':Nat→Nat} {G G' G1:GS} {s s':MS} {L:List X} {ts:List Nat} {x y:X}
end
abbrev qP (t:TW) (key line l pred known cur w:Int) (tk:Value) (ar:Int):List Value:=[.int .i64 t.nodes,.int .i64 t.cG,.int .i64 t.ay,.int .i64 t.top,.int .i64 t.links,.int .i64 t.size,.int .i64 t.u6,.int .i64 t.u7,.int .i64 t.u8,.int .i64 t.u9,.int .i64 t.u10,.int .i64 t.u11,.int .i64 t.u12,.int .u64 key,.int .i64 line,.int .i64 l,.int .i64 pred,.int .u64 known,.int .u64 cur,.int .u64 w,tk,.int .u64 ar,.bool true,.int .i64 0]
def jg:ct (Int×dy):=⟨4,fun p=>[.int .i64 p.1,.int .i64 p.2.pred,.int .u64 p.2.known,.int .u64 p.2.cur],fun _=>rfl,fun _=>rfl,by decide⟩
@[simp] theorem Cn:jg.sz=4:=rfl
@[simp] theorem Co (p:Int×dy):jg.row p=[.int .i64 p.1,.int .i64 p.2.pred,.int .u64 p.2.known,.int .u64 p.2.cur]:=rfl
def jN (TL:List (Int×dy)) (h l:Nat):dy:=if l+1=h then ⟨-1,0,0⟩ else ⟨((TL[l+1]?).map (·.2.pred)).getD 0,((TL[l+1]?).map (·.2.known)).getD 0,0⟩
noncomputable abbrev oI (T:List Value):Lp:=⟨.ready,none,T,[16,17],(aU [1,0,1,0,0] (aL Tryz.f109)),(aU [1,0,1,0,1] (aL Tryz.f109))⟩
structure sj (A:GS) (b:Nat) (L:Int) (tk:Value) (l pb lb sb ab:Nat) (T:List Value) (sp:Int×dy) (G:GS):Prop where
 ext:Ext A G
 lp:G.loop l=some (oI T)
 nl:A.nl≤l
 ll:l<G.nl
 op:G.obj pb=some ⟨[P0 b],1,false,1⟩
 ol:G.obj lb=some ⟨[.int .i64 L],1,false,1⟩
 os:G.obj sb=some ⟨[tk],1,false,1⟩
 oa:G.obj ab=some ⟨[.int .i64 sp.1,.int .i64 sp.2.pred,.int .u64 sp.2.known,.int .u64 sp.2.cur],1,false,1⟩
 bO:A.nx≤pb∧pb<G.nx
 Fb:A.nx≤lb∧lb<G.nx
 R7:A.nx≤sb∧sb<G.nx
 Kc:A.nx≤ab∧ab<G.nx
 d1:ab≠pb
 d2:ab≠lb
 d3:ab≠sb
structure R8 (A:GS) (b l:Nat) (T:List Value) (o:bK) (G:GS):Prop where
 mod:bC (fun g=>g=b) A G
 lp:G.loop l=some { oI T with st:=.done,aC:=some .ret }
 nl:A.nl≤l
 ob:G.obj b=some o
 pb:∀ g,A.nx≤g→True
section
variable {A G:GS} {b l pb lb sb ab tb:Nat} {L:Int} {tk tk':Value} {T:List Value} {sp:Int×dy} {t:TW} {key line lv pred known cur w ar:Int}
theorem abw (ae:FuncId→Bool) {j:Int} (hT:T.length=31) (t2:nth undef T 2=P0 pb) (t3:nth undef T 3=P0 lb) (h:sj A b L tk l pb lb sb ab T sp G) (hj:¬ j=L) (r:Int×dy) :
  Wp ((E ae).rd l [.int .i64 j,.agg ⟨[.int .i64 r.1,.int .i64 r.2.pred,.int .u64 r.2.known,.int .u64 r.2.cur]⟩] G) fun q=>q.1= .bool true∧sj A b L tk l pb lb sb ab T sp q.2:=by
 refine Wp.ref (Rz (aq Q ae) l T _ _ G h.lp hT) ?_
 obtain ⟨G1,ak⟩:∃ G1,G1=((G.push ⟨z155,1,false,1⟩).put G.nx ⟨[.int .i64 r.1,.int .i64 r.2.pred,.int .u64 r.2.known,.int .u64 r.2.cur],1,false,1⟩):=⟨_,rfl⟩
 have x1:Ext G G1:=by rw [ak]; exact ((Ext.refl G).push _).put (Nat.le_refl _) _
 have l1:G1.loop l=some (oI T):=by rw [ak]; simpa using h.lp
 have nl1:G1.nl=G.nl:=by rw [ak]; rfl
 have n1:G1.nx=G.nx+1:=by rw [ak]; rfl
 obtain ⟨G2,bA⟩:∃ G2,G2=G1.bR l (Lp.gf (oI T) .busy):=⟨_,rfl⟩
 have n2:G2.nx=G.nx+1:=by rw [bA,Qc,n1]
 have l2:G2.loop l=some (Lp.gf (oI T) .busy):=by rw [bA]; simp
 have R9:G2.nl=G.nl:=by rw [bA]; exact nl1
 have dQ:∀ b,b<G.nx→G2.obj b=G.obj b:=fun b hb=>by rw [bA]; simp only [IQ]; exact x1.obj b hb
 have Kd:=(x1.obj lb h.Fb.2).trans h.ol
 have ua:me l .normal G2=some (.bool true,G2.bR l (oI T)):=by
  rw [BJ l .normal _ (j:=none) rfl l2]
  rfl
 have x2:Ext A G2:=by rw [bA]; exact (h.ext.trans x1).bR h.nl _
 have e1:=h.bO; have e2:=h.Fb; have e3:=h.R7; have e4:=h.Kc; have e5:=h.ll
 simp [zF,t2,t3,← ak,ch,cg]
 simp [l1,← bA,Kd,hj,ua]
 exact ⟨x2.bR h.nl _,by simp,h.nl,by show l<G2.nl; omega,by simpa using (dQ pb e1.2).trans h.op,by simpa using (dQ lb e2.2).trans h.ol,by simpa using (dQ sb e3.2).trans h.os,by simpa using (dQ ab e4.2).trans h.oa,⟨e1.1,by simp; omega⟩,⟨e2.1,by simp; omega⟩,⟨e3.1,by simp; omega⟩,⟨e4.1,by simp; omega⟩,h.d1,h.d2,h.d3⟩
theorem abx (ae:FuncId→Bool) (hT:T.length=31) (t2:nth undef T 2=P0 pb) (t3:nth undef T 3=P0 lb) (htk:one tk=true) (hb:b<A.nx) (ob:A.obj b=some ⟨qP t key line lv pred known cur w tk ar,1,false,1⟩) (h:sj A b L tk' l pb lb sb ab T sp G) (r:Int×dy) :
  Wp ((E ae).rd l [.int .i64 L,.agg ⟨[.int .i64 r.1,.int .i64 r.2.pred,.int .u64 r.2.known,.int .u64 r.2.cur]⟩] G) fun q=>q.1= .bool false∧R8 A b l T ⟨qP t key 1 r.1 r.2.pred r.2.known r.2.cur w tk ar,1,false,1⟩ q.2:=by
 refine Wp.ref (Rz (aq Q ae) l T _ _ G h.lp hT) ?_
 obtain ⟨G1,ak⟩:∃ G1,G1=((G.push ⟨z155,1,false,1⟩).put G.nx ⟨[.int .i64 r.1,.int .i64 r.2.pred,.int .u64 r.2.known,.int .u64 r.2.cur],1,false,1⟩):=⟨_,rfl⟩
 have x1:Ext G G1:=by rw [ak]; exact ((Ext.refl G).push _).put (Nat.le_refl _) _
 have l1:G1.loop l=some (oI T):=by rw [ak]; simpa using h.lp
 have Sb:G1.obj G.nx=some ⟨[.int .i64 r.1,.int .i64 r.2.pred,.int .u64 r.2.known,.int .u64 r.2.cur],1,false,1⟩:=by rw [ak]; simp
 obtain ⟨G2,bA⟩:∃ G2,G2=G1.bR l (Lp.gf (oI T) .busy):=⟨_,rfl⟩
 have l2:G2.loop l=some (Lp.gf (oI T) .busy):=by rw [bA]; simp
 have Kd:=(x1.obj lb h.Fb.2).trans h.ol
 have Sc:=(x1.obj pb h.bO.2).trans h.op
 have hbG:=Nat.lt_of_lt_of_le hb h.ext.nx
 have dD:=(x1.obj b hbG).trans ((h.ext.obj b hb).trans ob)
 have x2:Ext A G2:=by rw [bA]; exact (h.ext.trans x1).bR h.nl _
 have e1:=h.bO
 have d1:¬ pb=b:=by omega
 have d2:¬ G.nx=b:=by omega
 obtain ⟨G3,cE⟩:∃ G3,G3=((G2.room 9).put b ⟨qP t key line r.1 r.2.pred r.2.known r.2.cur w tk ar,1,false,1⟩).put b ⟨qP t key 1 r.1 r.2.pred r.2.known r.2.cur w tk ar,1,false,1⟩:=⟨_,rfl⟩
 have l3:G3.loop l=some (Lp.gf (oI T) .busy):=by rw [cE]; simpa using l2
 have m3:bC (fun g=>g=b) A G3:=by rw [cE]; exact (((x2.room 9).vB (fun g=>g=b)).put (.inl rfl) _).put (.inl rfl) _
 have ua:me l .ret G3=some (.bool false,G3.bR l { oI T with st:=.done,aC:=some .ret }):=by
  rw [BJ l .ret _ (j:=some .ret) rfl l3]
  rfl
 simp [zF,t2,t3,← ak,ch,cg]
 have dQ:G2.obj b=some ⟨qP t key line lv pred known cur w tk ar,1,false,1⟩:=by rw [bA]; simpa using dD
 have op2:G2.obj pb=some ⟨[P0 b],1,false,1⟩:=by rw [bA]; simpa using Sc
 simp [l1,← bA,Kd,Sc,Sb,dD,dQ,op2,d1,d2,ch,cg,htk]
 rw [← cE,ua]
 simp
 exact ⟨m3.bR h.nl _,by simp,h.nl,by rw [cE]; simp,fun _ _=>trivial⟩
end
section
variable {A G:GS} {b l pb lb sb ab tb h:Nat} {L:Int} {T:List Value} {sp:Int×dy} {t:TW} {tk:Value} {key line lv pred known cur w ar:Int} {TL:List (Int×dy)}
abbrev jh (tb h:Nat):Value:=.slice (some ⟨tb,0,none⟩) h h
theorem eY (G:GS) (o:bK) {b c:Nat} (h:c≠b):(G.put b o).obj c=G.obj c:=by rw [cM,if_neg h]
inductive Fe (A:GS) (b:Nat) (L:Int) (tk:Value) (l pb lb sb ab:Nat) (T:List Value) (o:bK) (k:Nat) (e:Exit) (G:GS):Prop
 | no (sp:Int×dy):e= .exit 0→¬ (0≤L∧L<k)→sj A b L tk l pb lb sb ab T sp G→Fe A b L tk l pb lb sb ab T o k e G
 | yes:e= .ret→(0≤L∧L<k)→R8 A b l T o G→Fe A b L tk l pb lb sb ab T o k e G
theorem sj.put (H:sj A b L tk l pb lb sb ab T sp G) (r:Int×dy):sj A b L tk l pb lb sb ab T r (G.put ab ⟨[.int .i64 r.1,.int .i64 r.2.pred,.int .u64 r.2.known,.int .u64 r.2.cur],1,false,1⟩) :=
 ⟨H.ext.put H.Kc.1 _,H.lp,H.nl,H.ll,(eY _ _ (Ne.symm H.d1)).trans H.op,(eY _ _ (Ne.symm H.d2)).trans H.ol,(eY _ _ (Ne.symm H.d3)).trans H.os,by simp,H.bO,H.Fb,H.R7,H.Kc,H.d1,H.d2,H.d3⟩
theorem aby (ae:FuncId→Bool) (hT:T.length=31) (t2:nth undef T 2=P0 pb) (t3:nth undef T 3=P0 lb) (hb:b<A.nx) (ob:A.obj b=some ⟨qP t key line lv pred known cur w (jh tb h) ar,1,false,1⟩) (du:tb<A.nx) (ot:A.obj tb=some ⟨jg.flat TL,4,false,1⟩) (pM:TL.length=h) (hh:h≤4) :
  ∀ (k:Nat) (τ:Env) (G:GS) (sp:Int×dy),k≤h→τ 0= .func (.yield l) #[] #[]→τ 2=P0 sb→τ 4=P0 ab→τ 5= .int .i64 ((k:Int) - 1)→sj A b L (jh tb h) l pb lb sb ab T sp G→(1≤k→sp.2.pred=(jN TL h (k - 1)).pred∧sp.2.known=(jN TL h (k - 1)).known) →
  Wp ((bD Q ae).dj 150 0 τ G) fun q=>Fe A b L (jh tb h) l pb lb sb ab T ⟨qP t key 1 L (jN TL h L.toNat).pred (jN TL h L.toNat).known 0 w (jh tb h) ar,1,false,1⟩ k q.1 q.2.2:=by
 intro k
 induction k with
 | zero =>
  intro τ G sp hk t0 Ff t4 t5 H g5
  refine Wp.lp (Rn (aq Q ae)) ?_
  simp [EN,aw,t0,Ff,t4,t5]
  exact .no _ rfl (by omega) H
 | succ k ih =>
  intro τ G sp hk t0 Ff t4 t5 H g5
  obtain ⟨s1,s2⟩:=g5 (by omega)
  simp only [Nat.add_sub_cancel] at s1 s2
  have Sd:τ 5= .int .i64 (k:Int):=by rw [t5]; congr 1; omega
  have hX:(0:Int)≤k:=by omega
  have oa:=H.oa
  obtain ⟨G4,dw⟩:∃ G4,G4=(G.put ab ⟨[.int .i64 k,.int .i64 sp.2.pred,.int .u64 sp.2.known,.int .u64 sp.2.cur],1,false,1⟩).put ab ⟨[.int .i64 k,.int .i64 sp.2.pred,.int .u64 sp.2.known,.int .u64 0],1,false,1⟩:=⟨_,rfl⟩
  have H4:sj A b L (jh tb h) l pb lb sb ab T (k,⟨sp.2.pred,sp.2.known,0⟩) G4:=by rw [dw]; exact (H.put (k,⟨sp.2.pred,sp.2.known,sp.2.cur⟩)).put (k,⟨sp.2.pred,sp.2.known,0⟩)
  have Ke:=H4.oa
  simp only at Ke
  have Fg:k<h:=by omega
  have abz:(k:Int)<h:=by omega
  have hw:IntKind.wrap .i64 ((k:Int) - 1)=(k:Int) - 1:=wrap64 (by omega) (by omega)
  refine Wp.lp (Rn (aq Q ae)) ?_
  by_cases hL:(k:Int)=L
  ·subst hL
   obtain ⟨⟨_,G5⟩,e5,rfl,F5⟩:=abx ae hT t2 t3 rfl hb ob H4 ((k:Int),⟨sp.2.pred,sp.2.known,0⟩)
   simp only at e5 F5
   simp [-Int.natCast_add,EN,aw,t0,Ff,t4,Sd,oa,← dw,Ke,e5]
   rw [s1,s2] at F5
   exact .yes rfl (by omega) F5
  ·obtain ⟨⟨_,G5⟩,e5,rfl,H5⟩:=abw ae hT t2 t3 H4 hL ((k:Int),⟨sp.2.pred,sp.2.known,0⟩)
   simp only at e5 H5
   have Kf:=H5.os
   have oa5:=H5.oa
   have ot5:=(H5.ext.obj tb du).trans ot
   have aT:=Nat.lt_of_lt_of_le du H5.ext.nx
   have hi:k<TL.length:=by omega
   have e6:=E1 (e:=jg) ot5 aT hi
   simp only [Cn,Co] at e6
   have vu:lq 4 ab 0 (.agg ⟨[.int .i64 TL[k].1,.int .i64 TL[k].2.pred,.int .u64 TL[k].2.known,.int .u64 TL[k].2.cur]⟩) G5=some (G5.put ab ⟨[.int .i64 TL[k].1,.int .i64 TL[k].2.pred,.int .u64 TL[k].2.known,.int .u64 TL[k].2.cur],1,false,1⟩):=by
    simp [oa5,ch,cg]
   have A0:lq 1 ab 0 (.int .i64 k) G=some (G.put ab ⟨[.int .i64 k,.int .i64 sp.2.pred,.int .u64 sp.2.known,.int .u64 sp.2.cur],1,false,1⟩):=by simp [oa]
   have wD:lq 1 ab 3 (.int .u64 0) (G.put ab ⟨[.int .i64 k,.int .i64 sp.2.pred,.int .u64 sp.2.known,.int .u64 sp.2.cur],1,false,1⟩)=some G4:=by rw [dw]; simp
   have A3:fO 4 ab 0 G4=some (.agg ⟨[.int .i64 k,.int .i64 sp.2.pred,.int .u64 sp.2.known,.int .u64 0]⟩):=by simp [Ke]
   have Kb:G5.cell sb 0=some (jh tb h):=by simp [Kf]
   simp [-Int.natCast_add,-mw,-JW,-xy,EN,aw,t0,Ff,t4,Sd,A0,wD,A3,Kb,e5,Fg,abz,hX,e6,vu,hw]
   refine Wp.mono (ih _ _ (TL[k]) (by omega) ?_ ?_ ?_ ?_ (H5.put TL[k]) ?_) fun q hq=>?_
   ·simp [aw]
   ·simp [aw]
   ·simp [aw]
   ·simp [aw]
   ·intro h1
    have:¬ k=h:=by omega
    have qB:k - 1+1=k:=by omega
    simp [jN,qB,this,hi]
   ·rcases hq with ⟨Kg,r1,r2,r3⟩ | ⟨r1,r2,r3⟩
    ·exact .no Kg r1 (by omega) r3
    ·exact .yes r1 (by omega) r3
end
section
variable {G:GS} {b tb h:Nat} {L:Int} {t:TW} {key line lv pred known cur w ar:Int} {TL:List (Int×dy)}
abbrev vF (t:TW) (key line l pred known cur w:Int) (tb h:Nat) (ar:Int):bK:=⟨qP t key line l pred known cur w (jh tb h) ar,1,false,1⟩
theorem Se (ae:FuncId→Bool) (hb:b<G.nx) (ob:G.obj b=some (vF t key line lv pred known cur w tb h ar)) (du:tb<G.nx) (ot:G.obj tb=some ⟨jg.flat TL,4,false,1⟩) (pM:TL.length=h) (hth:t.ay=h) (h1:1≤h) (hh:h≤4) (hL:-1≤L∧L<h) :
  ∃ G',(E ae).cl 109 [P0 b,.int .i64 L] G=some (.tuple #[],G')∧bC (fun g=>g=b) G G' ∧G'.obj b=some (if L<0 then vF t key 9 lv pred known cur w tb h ar else vF t key 1 L (jN TL h L.toNat).pred (jN TL h L.toNat).known 0 w tb h ar):=by
 obtain ⟨G1,ak⟩:∃ G1,G1=((G.push ⟨[P0 b],1,false,1⟩).push ⟨[.int .i64 L],1,false,1⟩).room 10:=⟨_,rfl⟩
 have x1:Ext G G1:=by rw [ak]; exact (((Ext.refl G).push _).push _).room 10
 have n1:G1.nx=G.nx+12:=by rw [ak]; rfl
 have p1:G1.obj G.nx=some ⟨[P0 b],1,false,1⟩:=by rw [ak]; simp
 have q1:G1.obj (G.nx+1)=some ⟨[.int .i64 L],1,false,1⟩:=by rw [ak]; simp
 have dD:=(x1.obj b hb).trans ob
 have abA:(E ae).cl 136 [.int .i64 h,jh tb h] G1=some (.func (.func 150) #[] #[P0 G1.nx,P0 (G1.nx+1)],(G1.push ⟨[.int .i64 h],1,false,1⟩).push ⟨[jh tb h],1,false,1⟩):=by
  refine f136 (aq Q ae) _ _ G1 _ ?_
  simp [s136]
 have wW:Wp (s109 true (bD Q ae) (P0 b) (.int .i64 L) G) fun q=>q.1= .tuple #[]∧bC (fun g=>g=b) G q.2∧q.2.obj b=some (if L<0 then vF t key 9 lv pred known cur w tb h ar else vF t key 1 L (jN TL h L.toNat).pred (jN TL h L.toNat).known 0 w tb h ar):=by
  have d1:¬ G.nx=b:=by omega
  simp [-Int.natCast_add,s109,← ak,p1,dD,hth,abA]
  generalize vG:aG 31 (tu (nth undef _) _)=T
  have hT:T.length=31:=by rw [← vG]; exact zq 31 _
  have t2:nth undef T 2=P0 G.nx:=by rw [← vG,pE]; simp [aw]
  have t3:nth undef T 3=P0 (G.nx+1):=by rw [← vG,pE]; simp [aw]
  clear vG
  obtain ⟨G5,eR⟩:∃ G5,G5=((G1.push ⟨[.int .i64 h],1,false,1⟩).push ⟨[jh tb h],1,false,1⟩).dS (oI T):=⟨_,rfl⟩
  have Kh:Ext G1 G5:=by rw [eR]; exact (((Ext.refl G1).push _).push _).dS _
  have x5:=x1.trans Kh
  have n5:G5.nx=G1.nx+2:=by rw [eR]; rfl
  have l5:G5.loop G1.nl=some (oI T):=by rw [eR]; simp
  have nl5:G5.nl=G1.nl+1:=by rw [eR]; rfl
  have Sf:G5.obj G1.nx=some ⟨[.int .i64 h],1,false,1⟩:=by rw [eR]; simp
  have Kf:G5.obj (G1.nx+1)=some ⟨[jh tb h],1,false,1⟩:=by rw [eR]; simp
  obtain ⟨G6,cu⟩:∃ G6,G6=(G5.push ⟨z155,1,false,1⟩).put G5.nx ⟨[.int .i64 0,.int .i64 (-1),.int .u64 0,.int .u64 0],1,false,1⟩:=⟨_,rfl⟩
  have xE:Ext G5 G6:=by rw [cu]; exact ((Ext.refl G5).push _).put (Nat.le_refl _) _
  have x6:=x5.trans xE
  have n6:G6.nx=G5.nx+1:=by rw [cu]; rfl
  have oa6:G6.obj G5.nx=some ⟨[.int .i64 0,.int .i64 (-1),.int .u64 0,.int .u64 0],1,false,1⟩:=by rw [cu]; simp
  have oh6:=(xE.obj _ (by omega)).trans Sf
  have H6:sj G b L (jh tb h) G1.nl G.nx (G.nx+1) (G1.nx+1) G5.nx T (0,⟨-1,0,0⟩) G6:=⟨x6,(xE.loop _ (by omega)).trans l5,x1.nl,by have:=xE.nl; omega,((Kh.trans xE).obj _ (by omega)).trans p1,((Kh.trans xE).obj _ (by omega)).trans q1,(xE.obj _ (by omega)).trans Kf,oa6,by omega,by omega,by omega,by omega,by omega,by omega,by omega⟩
  have hz:z155=[.int .i64 0,.int .i64 0,.int .u64 0,.int .u64 0]:=rfl
  have hw:IntKind.wrap .i64 ((h:Int) - 1)=(h:Int) - 1:=wrap64 (by omega) (by omega)
  have wl:Wp (s150 true (bD Q ae) (.func (.yield G1.nl) #[] #[]) (P0 G1.nx) (P0 (G1.nx+1)) G5) fun q=>q.1= .tuple #[]∧∃ e,Fe G b L (jh tb h) G1.nl G.nx (G.nx+1) (G1.nx+1) G5.nx T (vF t key 1 L (jN TL h L.toNat).pred (jN TL h L.toNat).known 0 w tb h ar) h e q.2:=by
   have Sg:=cu
   rw [hz] at Sg
   have aB:¬ G1.nx=G5.nx:=by omega
   have g5:1≤h→((0,⟨-1,0,0⟩):Int×dy).2.pred=(jN TL h (h - 1)).pred∧((0,⟨-1,0,0⟩):Int×dy).2.known=(jN TL h (h - 1)).known:=fun _=>by
    have:h - 1+1=h:=by omega
    simp [jN,this]
   simp [-Int.natCast_add,s150,ch,cg,hz,← Sg,Sf,oh6,aB,hw]
   refine Wp.bE ((aby ae hT t2 t3 hb ob du ot pM hh h _ G6 _ (Nat.le_refl _) (by simp [aw]) (by simp [aw]) (by simp [aw]) (by simp [aw]) H6 g5).mono ?_)
   rintro ⟨e,τ,G'⟩ hE
   simp only at hE
   have Ef:=hE
   rcases hE with ⟨Kg,rfl,r2,r3⟩ | ⟨rfl,r2,r3⟩
   ·simp; exact ⟨_,Ef⟩
   ·simp; exact ⟨_,Ef⟩
  obtain ⟨⟨v,G7⟩,e7,rfl,e,h7⟩:=wl
  have e7':=f150 (aq Q ae) _ _ _ G5 _ e7
  rw [← eR]
  simp only [List.nil_append,List.singleton_append,List.cons_append,e7']
  rcases h7 with ⟨Kg,rfl,r2,r3⟩ | ⟨rfl,r2,r3⟩
  ·have hn:L<0:=by omega
   rw [Et G1.nl T _ G7 r3.lp (by simp) rfl]
   have o1:=r3.op
   have o2:=(r3.ext.obj b hb).trans ob
   simp [t2,o1,o2,hn]
   exact (((r3.ext.bR x1.nl _).vB (fun g=>g=b)).put (.inl rfl) _)
  ·have hn:¬ L<0:=by omega
   rw [Et G1.nl T _ G7 r3.lp (by simp) rfl]
   have o1:=r3.ob
   simp [t2,hn,o1]
   exact r3.mod.bR x1.nl _
 obtain ⟨⟨v,G'⟩,e1,rfl,m,o⟩:=wW
 exact ⟨G',f109 (aq Q ae) _ _ G _ e1,m,o⟩
theorem Si (ae:FuncId→Bool) (ht:ae 107=false) {v:Int} (hv:U v) (hb:b<G.nx) (ob:G.obj b=some (vF t key line lv pred known cur w tb h ar)):∃ G',(E ae).cl 110 [P0 b,.int .u64 v] G=some (.int .i64 (aF t.size v),G')∧Ext G G':=by
 obtain ⟨G1,e1,x1⟩:=xC ae ht hv G
 have n1:=x1.nx
 have dD:=(x1.obj b hb).trans ob
 obtain ⟨G2,bA⟩:∃ G2,G2=((G1.push ⟨z150,1,false,1⟩).put G1.nx ⟨[.int .i64 (v % 65536 - 1),.int .i64 (v / 65536)],1,false,1⟩):=⟨_,rfl⟩
 have x2:Ext G G2:=by rw [bA]; exact (x1.push _).put n1 _
 have p2:G2.obj G1.nx=some ⟨[.int .i64 (v % 65536 - 1),.int .i64 (v / 65536)],1,false,1⟩:=by rw [bA]; simp
 have dQ:=(x2.obj b hb).trans ob
 refine ⟨G2.room 11,f110 (aq Q ae) _ _ G _ ?_,x2.room 11⟩
 unfold aF
 by_cases hc:t.size≤v % 65536 - 1
 ·simp [s110,e1,ch,cg,← bA,p2,dQ,hc]
 ·simp [s110,e1,ch,cg,← bA,p2,dQ,hc]
end
abbrev kx (T:TW) (x:ao) (tb:Nat):bK:=vF T x.key x.line x.l x.at_.pred x.at_.known x.at_.cur x.w tb T.ay.toNat x.ar
def dE (T:TW) (G:GS) (b tb:Nat) (x:ao):Prop:=∃ TL:List (Int×dy),G.obj b=some (kx T x tb)∧G.obj tb=some ⟨jg.flat TL,4,false,1⟩∧TL.map (·.2)=x.told
section
variable {T:TW} {G G':GS} {b tb:Nat} {x y:ao}
theorem dE.kept (h:dE T G b tb x) (k1:G'.obj b=G.obj b) (k2:G'.obj tb=G.obj tb):dE T G' b tb x:=let ⟨TL,h1,h2,h3⟩:=h; ⟨TL,k1.trans h1,k2.trans h2,h3⟩
theorem dE.ext (h:dE T G b tb x) (hb:b<G.nx) (ht:tb<G.nx) (e:Ext G G'):dE T G' b tb x:=h.kept (e.obj b hb) (e.obj tb ht)
theorem dE.ob (h:dE T G b tb x):G.obj b=some (kx T x tb):=let ⟨_,h1,_⟩:=h; h1
theorem dE.put (h:dE T G b tb x) (aB:b≠tb) (y:ao) (hy:y.told=x.told):dE T (G.put b (kx T y tb)) b tb y:=by
 obtain ⟨TL,h1,h2,h3⟩:=h
 exact ⟨TL,by rw [cM,if_pos rfl],(eY _ _ aB.symm).trans h2,h3.trans hy.symm⟩
theorem zO (hs:T.sound):T.ay=(T.ay.toNat:Int)∧1≤T.ay.toNat∧T.ay.toNat≤4:=by have:=hs.1; have:=hs.2.1; omega
theorem Ki (ae:FuncId→Bool) (hs:T.sound) (h:dE T G b tb x) (aB:b≠tb) (hb:b<G.nx) (ht:tb<G.nx) (hl:x.told.length=T.ay.toNat):∃ G',(E ae).cl 90 [P0 b] G=some (.tuple #[],G')∧bC (fun g=>g=b) G G' ∧dE T G' b tb (x.anew T):=by
 obtain ⟨TL,h1,h2,h3⟩:=h
 obtain ⟨e1,e2,e3⟩:=zO hs
 have pM:TL.length=T.ay.toNat:=by rw [← hl,← h3]; simp
 have hw:IntKind.wrap .i64 (T.ay - 1)=T.ay - 1:=wrap64 (by omega) (by omega)
 obtain ⟨G1,k1,k2,k3⟩:=Se ae (L:=T.ay - 1) hb h1 ht h2 pM e1 e2 e3 (by omega)
 rw [if_neg (by omega)] at k3
 have g5:jN TL T.ay.toNat (T.ay - 1).toNat=⟨-1,0,0⟩:=by
  unfold jN
  rw [if_pos (by omega)]
 rw [g5] at k3
 refine ⟨G1,f90 (aq Q ae) _ G _ ?_,k2,TL,k3,(k2.obj tb ht (fun e=>aB e.symm)).trans h2,h3⟩
 simp [s90,h1,hw,k1]
theorem Sj (ae:FuncId→Bool) (hs:T.sound) (h:dE T G b tb x) (aB:b≠tb) (hb:b<G.nx) (ht:tb<G.nx) (hl:x.told.length=T.ay.toNat) (Kj:0≤x.l∧x.l<T.ay):∃ G',(E ae).cl 111 [P0 b] G=some (.tuple #[],G')∧bC (fun g=>g=b∨g=tb) G G' ∧dE T G' b tb x.tell:=by
 obtain ⟨TL,h1,h2,h3⟩:=h
 obtain ⟨e1,e2,e3⟩:=zO hs
 have pM:TL.length=T.ay.toNat:=by rw [← hl,← h3]; simp
 obtain ⟨n,hn⟩:=Int.eq_ofNat_of_zero_le Kj.1
 have nZ:n<TL.length:=by omega
 have hnh:n<T.ay.toNat:=by omega
 obtain ⟨H,hH⟩:∃ H,H=T.ay.toNat:=⟨_,rfl⟩
 have hnH:n<H:=by omega
 have abB:(n:Int)<H:=by omega
 have eI:(0:Int)≤n:=by omega
 have au:=aaY (e:=jg) (ez:=4) (op:=false) (G:=G.room 15) (b:=tb) (L:=TL) (by simpa using h2) nZ ((n:Int),x.at_)
 simp only [Cn,Co] at au
 obtain ⟨G1,ak⟩:∃ G1,G1=(G.room 15).put tb ⟨jg.flat (TL.set n ((n:Int),x.at_)),4,false,1⟩:=⟨_,rfl⟩
 have m1:bC (fun g=>g=b∨g=tb) G G1:=by rw [ak]; exact ((bC.refl _ G).room 15).put (.inl (.inr rfl)) _
 have o1:G1.obj b=some (kx T x tb):=by rw [ak,eY _ _ aB]; simpa using h1
 have p1:G1.obj tb=some ⟨jg.flat (TL.set n ((n:Int),x.at_)),4,false,1⟩:=by rw [ak]; simp
 have n1:G.nx≤G1.nx:=m1.nx
 have abC:(TL.set n ((n:Int),x.at_)).length=T.ay.toNat:=by simpa using pM
 have hw:IntKind.wrap .i64 ((n:Int) - 1)=(n:Int) - 1:=wrap64 (by omega) (by omega)
 obtain ⟨G2,k1,k2,k3⟩:=Se ae (L:=(n:Int) - 1) (Nat.lt_of_lt_of_le hb n1) o1 (Nat.lt_of_lt_of_le ht n1) p1 abC e1 e2 e3 (by omega)
 have p2:=(k2.obj tb (Nat.lt_of_lt_of_le ht n1) (fun e=>aB e.symm)).trans p1
 have abD:bC (fun g=>g=b∨g=tb) G G2:=m1.trans (k2.mono fun g hg=>.inl (.inl hg))
 refine ⟨G2,f111 (aq Q ae) _ G _ ?_,abD,TL.set n ((n:Int),x.at_),?_,?_,?_⟩
 ·unfold kx at h1 o1
  rw [← hH] at h1 o1
  simp [-Int.natCast_add,-mw,-JW,s111,h1,hn,hnH,abB,eI,JU,au,← ak,o1,hw,k1]
 ·rw [k3]
  unfold ao.tell
  by_cases h0:n=0
  ·rw [if_pos (by omega),if_pos (by omega)]
  ·rw [if_neg (by omega),if_neg (by omega)]
   have A0:jN (TL.set n ((n:Int),x.at_)) T.ay.toNat ((n:Int) - 1).toNat=⟨x.at_.pred,x.at_.known,0⟩:=by
    have a1:((n:Int) - 1).toNat+1=n:=by omega
    unfold jN
    rw [if_neg (by omega),a1]
    simp [nZ]
   rw [A0,hn]
 ·rw [p2]
 ·unfold ao.tell
  have Sl:(TL.set n ((n:Int),x.at_)).map (·.2)=x.told.set n x.at_:=by rw [List.map_set,h3]
  have hx:x.l.toNat=n:=by omega
  split
  ·rw [Sl,hx]
  ·rw [Sl,hx]
theorem Kk (ae:FuncId→Bool) (aZ:ae 107=false) (hs:T.sound) (h:dE T G b tb x) (aB:b≠tb) (hb:b<G.nx) (ht:tb<G.nx) (hl:x.told.length=T.ay.toNat) (Kj:0≤x.l∧x.l<T.ay) (hc:U x.at_.cur):∃ G',(E ae).cl 112 [P0 b] G=some (.tuple #[],G')∧bC (fun g=>g=b∨g=tb) G G' ∧dE T G' b tb (x.looks T):=by
 have ob:=h.ob
 obtain ⟨G1,ak⟩:∃ G1,G1=G.put b (kx T { x with line:=2 } tb):=⟨_,rfl⟩
 have h1:dE T G1 b tb { x with line:=2 }:=by rw [ak]; exact h.put aB { x with line:=2 } rfl
 have n1:G1.nx=G.nx:=by rw [ak]; rfl
 have o1:=h1.ob
 have m1:bC (fun g=>g=b∨g=tb) G G1:=by rw [ak]; exact (bC.refl _ G).put (.inl (.inl rfl)) _
 obtain ⟨G2,e2,x2⟩:=Si ae aZ hc (by omega) o1
 have h2:=h1.ext (by omega) (by omega) x2
 have m2:bC (fun g=>g=b∨g=tb) G G2:=m1.trans (x2.vB _)
 have n2:=x2.nx
 unfold ao.looks
 by_cases hi:aF T.size x.at_.cur<0
 ·rw [if_pos hi]
  obtain ⟨G3,e3,m3,h3⟩:=Sj ae hs h2 aB (by omega) (by omega) hl Kj
  refine ⟨G3,f112 (aq Q ae) _ G _ ?_,m2.trans (m3.mono fun g hg=>.inl hg),h3⟩
  simp [s112,ob,← ak,o1,e2,hi,e3]
 ·rw [if_neg hi]
  refine ⟨G2,f112 (aq Q ae) _ G _ ?_,m2,h2⟩
  simp [s112,ob,← ak,o1,e2,hi]
end
section
variable {T:TW} {x:ao} {s:MS}
theorem ao.Sm (hs:T.sound) (h1:0≤x.l∧x.l<T.ay) (h2:x.told.length=T.ay.toNat) (h3:-1≤x.at_.pred∧x.at_.pred<T.size) (h4:U x.at_.known) (h5:U x.at_.cur) (h6:U x.w) (h7:U x.ar):x.tell.ok T:=by
 unfold ao.tell
 split
 ·exact ⟨by simp,h1,by simpa using h2,h3,h4,h5,by simp,h6,by simp,h7⟩
 ·refine ⟨by simp,?_,by simpa using h2,h3,h4,gH,by simp,h6,by simp,h7⟩
  simp only; omega
theorem ao.Kl (hs:T.sound) (h1:0≤x.l∧x.l<T.ay) (h2:x.told.length=T.ay.toNat) (h3:-1≤x.at_.pred∧x.at_.pred<T.size) (h4:U x.at_.known) (h5:U x.at_.cur) (h6:U x.w) (h7:U x.ar):(x.looks T).ok T:=by
 unfold ao.looks
 split
 ·exact ao.Sm (x:={ x with line:=2 }) hs h1 h2 h3 h4 h5 h6 h7
 ·rename_i hi
  exact ⟨by simp,h1,h2,h3,h4,h5,fun _=>by simp only; omega,h6,by simp,h7⟩
theorem ao.Km (hs:T.sound) (h2:x.told.length=T.ay.toNat) (h6:U x.w) (h7:U x.ar):(x.anew T).ok T:=by
 have:=hs.1; have:=hs.2.2.1
 exact ⟨by simp [ao.anew],by simp only [ao.anew]; omega,h2,by simp only [ao.anew]; omega,gH,gH,by simp [ao.anew],h6,by simp [ao.anew],h7⟩
theorem Fh {w:Int} (h:U w) (hm:aM≤w):U (w - aM):=by have:=h.2; have:=h.1; unfold aM at *; unfold U; omega
theorem ao.ok.step (hs:T.sound) (h:x.ok T) (hm:s.ok):(x.step T s).1.ok T∧(x.step T s).2.ok:=by
 obtain ⟨l1,l2,l3,l4,l5,l6,l7,l8,l9,l10⟩:=h
 unfold ao.step
 simp only
 split
 ·exact ⟨⟨l1,l2,l3,l4,l5,l6,l7,l8,l9,l10⟩,hm⟩
 split
 ·rename_i h2
  have hl:=hm.load (aN T (aF T.size x.at_.cur) x.l)
  refine ⟨⟨by simp only; split<;>simp,l2,l3,l4,l5,l6,fun _=>l7 (.inl h2),hl.2,?_,l6⟩,hl.1⟩
  simp only
  split<;>simp<;>omega
 split
 ·rename_i h3
  have hu:=Fh l8 (l9.1 h3)
  have hc:=hm.bM (aN T x.at_.pred x.l) x.at_.cur hu
  split
  ·exact ⟨ao.Kl hs l2 l3 l4 l5 hu l8 l5,hc⟩
  ·exact ⟨ao.Km hs l3 l8 l5,hc⟩
 split
 ·rename_i h4
  have hl:=hm.load (az T (aF T.size x.at_.cur) 0)
  split
  ·exact ⟨ao.Sm hs l2 l3 l4 l5 l6 l8 l6,hl.1⟩
  ·refine ⟨ao.Kl hs l2 l3 ?_ l6 l8 l8 l6,hl.1⟩
   exact ⟨J7,J8 (by have:=hs.2.2.1; omega)⟩
 ·have hl:=hm.load (aN T x.at_.pred x.l)
  split
  ·exact ⟨ao.Km hs l3 l8 l5,hl.1⟩
  ·exact ⟨ao.Kl hs l2 l3 l4 l5 hl.2 l8 l5,hl.1⟩
end
theorem abE {w:Int} (h0:9223372036854775808≤w) (h1:w<18446744073709551616):IL .u64 w 9223372036854775808=w - 9223372036854775808:=by
 obtain ⟨n,rfl⟩:=Int.eq_ofNat_of_zero_le (show 0≤w by omega)
 show IntKind.wrap .u64 (((BitVec.ofInt 64 (n:Int) &&& ~~~ BitVec.ofInt 64 9223372036854775808).toNat:Nat):Int)=_
 have e1:BitVec.ofInt 64 (n:Int)=BitVec.ofNat 64 n:=BitVec.ofInt_natCast ..
 have e2:BitVec.ofInt 64 9223372036854775808=BitVec.ofNat 64 9223372036854775808:=by decide
 have e3:(BitVec.ofNat 64 n &&& ~~~ BitVec.ofNat 64 9223372036854775808).toNat=n - 9223372036854775808:=by
  have e4: ~~~ BitVec.ofNat 64 9223372036854775808=BitVec.ofNat 64 (2 ^ 63 - 1):=by decide
  rw [e4]
  simp only [BitVec.toNat_and,BitVec.toNat_ofNat]
  rw [Nat.mod_eq_of_lt (show n<2 ^ 64 by omega),Nat.mod_eq_of_lt (show 2 ^ 63 - 1<2 ^ 64 by decide),Nat.and_two_pow_sub_one_eq_mod]
  omega
 rw [e1,e2,e3,wrap_u64]
 omega
theorem Kn (ae:FuncId→Bool) {w:Int} (h:U w) (hm:aM≤w) (G:GS):(E ae).cl 89 [.int .u64 w,.bool false] G=some (.int .u64 (w - 9223372036854775808),G):=by
 refine f89 (aq Q ae) _ _ G _ ?_
 simp [s89,abE (show 9223372036854775808≤w from hm) h.2]
def abF (T:TW) (own0:Nat→Nat) (G0:GS) (tag m b tb:Nat) (r:ao×MS) (q:Exit×Env×GS):Prop:=q.1= .exit 0∧q.2.1 0=P0 b∧∃ ah,PW (Own own0 tag) own0 G0 ah q.2.2 m r.2∧dE T q.2.2 b tb r.1
section
variable {T:TW} {x:ao} {s:MS} {own own0:Nat→Nat} {G G0:GS} {tag m b tb:Nat}
theorem At.keep (h:At own tag G b) (ht:tag≠10) {ah:Nat→Nat} {G1:GS} {s':MS} (w:PW no own G ah G1 m s'):G1.obj b=G.obj b:=w.keep h.lt (by rw [h.tag]; exact ht) id
set_option maxHeartbeats 1000000 in
theorem abG (ae:FuncId→Bool) (aZ:ae 107=false) (hs:T.sound) (hm:s.ok) (hx:x.ok T) (h9:x.line≠9) (ht:tag≠10) (aB:b≠tb) (w:PW (Own own0 tag) own0 G0 own G m s) (hb:At own tag G b) (du:At own tag G tb) (hF:dE T G b tb { x with ar:=x.at_.known }) {τ:Env} (t0:τ 0=P0 b) (t1:τ 1=P0 m) (t5:τ 5= .int .i64 (aN T x.at_.pred x.l)) (t6:τ 6= .int .i64 (aF T.size x.at_.cur)) :
  Wp ((bD Q ae).dj 91 0 τ G) (abF T own0 G0 tag m b tb (x.step T s)):=by
 obtain ⟨l1,l2,l3,l4,l5,l6,l7,l8,l9,l10⟩:=hx
 have ob:=hF.ob
 refine Wp.lp (Ry (aq Q ae)) ?_
 have zP:∀ {ah:Nat→Nat} {G1 G2:GS},At ah tag G1 b→At ah tag G1 tb→bC (fun g=>g=b∨g=tb) G1 G2→bC (Own ah tag) G1 G2:=fun h1 h2 q=>q.mono fun g hg=>hg.elim (fun e=>by rw [e]; exact h1.tag) fun e=>by rw [e]; exact h2.tag
 rcases l1 with h1 | h2 | h3 | h4 | h9'
 ·-- line 1
  have au:x.step T s=(if aM≤(s.load (aN T x.at_.pred x.l)).new then (({ x with ar:=x.at_.known,at_:={ x.at_ with cur:=(s.load (aN T x.at_.pred x.l)).new } }:ao).anew T,s.load (aN T x.at_.pred x.l)) else (({ x with ar:=x.at_.known,at_:={ x.at_ with cur:=(s.load (aN T x.at_.pred x.l)).new } }:ao).looks T,s.load (aN T x.at_.pred x.l))):=by
   unfold ao.step; simp only; rw [if_neg (by omega),if_neg (by omega),if_neg (by omega),if_neg (by omega)]
  rw [au]
  have hl:=(hm.load (aN T x.at_.pred x.l)).2
  obtain ⟨ah,G1,e1,w1⟩:=w.pm.load ae (aN T x.at_.pred x.l)
  generalize s.load (aN T x.at_.pred x.l)=s' at *
  generalize s'.new=v at *
  have kb:=hb.keep ht w1
  have ktb:=du.keep ht w1
  have pN:=hF.kept kb ktb
  have qQ:=w.tr w1.any
  have bu:=hb.to w1.nx w1.bH.dm
  have qR:=du.to w1.nx w1.bH.dm
  have dD:=pN.ob
  obtain ⟨G2,bA⟩:∃ G2,G2=G1.put b (kx T { x with line:=1,ar:=x.at_.known,at_:={ x.at_ with cur:=v } } tb):=⟨_,rfl⟩
  have pO:dE T G2 b tb { x with line:=1,ar:=x.at_.known,at_:={ x.at_ with cur:=v } }:=by rw [bA]; exact pN.put aB _ rfl
  have w2:PW (Own own0 tag) own0 G0 ah G2 m s':=by rw [bA]; exact qQ.aW bu.tag ht _
  have bI:At ah tag G2 b:=by rw [bA]; exact ⟨bu.lt,bu.tag⟩
  have oJ:At ah tag G2 tb:=by rw [bA]; exact ⟨qR.lt,qR.tag⟩
  have dQ:=pO.ob
  have e3:=vE ae hl G2
  by_cases hv:aM≤v
  ·rw [if_pos hv]
   have vb:9223372036854775808≤v:=hv
   obtain ⟨G3,e4,m3,ji⟩:=Ki ae hs pO aB bI.lt oJ.lt l3
   simp [oG,aw,t0,t1,t5,t6,ob,h1,e1,dD,← bA,dQ,e3,vb,e4]
   exact ⟨rfl,by simp [aw],_,w2.g8 (zP bI oJ (m3.mono fun g hg=>.inl hg)) ht tag,ji⟩
  ·rw [if_neg hv]
   have vb:¬ 9223372036854775808≤v:=hv
   obtain ⟨G3,e4,m3,ji⟩:=Kk ae aZ hs pO aB bI.lt oJ.lt l3 l2 hl
   simp [oG,aw,t0,t1,t5,t6,ob,h1,e1,dD,← bA,dQ,e3,vb,e4]
   exact ⟨rfl,by simp [aw],_,w2.g8 (zP bI oJ m3) ht tag,ji⟩
 ·-- line 2
  have au:x.step T s=({ x with ar:=x.at_.cur,w:=(s.load (aN T (aF T.size x.at_.cur) x.l)).new,line:=if aM≤(s.load (aN T (aF T.size x.at_.cur) x.l)).new then 3 else 4 },s.load (aN T (aF T.size x.at_.cur) x.l)):=by
   unfold ao.step; simp only; rw [if_neg (by omega),if_pos h2]
  rw [au]
  have hl:=(hm.load (aN T (aF T.size x.at_.cur) x.l)).2
  obtain ⟨G1,ak⟩:∃ G1,G1=G.put b (kx T { x with line:=2,ar:=x.at_.cur } tb):=⟨_,rfl⟩
  have pN:dE T G1 b tb { x with line:=2,ar:=x.at_.cur }:=by rw [ak]; exact hF.put aB _ rfl
  have w1:PW (Own own0 tag) own0 G0 own G1 m s:=by rw [ak]; exact w.aW hb.tag ht _
  have bu:At own tag G1 b:=by rw [ak]; exact ⟨hb.lt,hb.tag⟩
  have qR:At own tag G1 tb:=by rw [ak]; exact ⟨du.lt,du.tag⟩
  have dD:=pN.ob
  obtain ⟨G2,e2,x2⟩:=jM ae T (aF T.size x.at_.cur) x.l (G1.room 17)
  have y2:=((Ext.refl G1).room 17).trans x2
  have pO:=pN.ext bu.lt qR.lt y2
  have w2:=w1.ej y2 tag
  have bI:=bu.df y2 tag
  have oJ:=qR.df y2 tag
  have dQ:=pO.ob
  generalize grown own G1 tag=aX at *
  obtain ⟨cQ,G3,e3,w3⟩:=w2.pm.load ae (aN T (aF T.size x.at_.cur) x.l)
  generalize s.load (aN T (aF T.size x.at_.cur) x.l)=s' at *
  generalize s'.new=v at *
  have ji:=pO.kept (bI.keep ht w3) (oJ.keep ht w3)
  have qS:=w2.tr w3.any
  have dX:=bI.to w3.nx w3.bH.dm
  have pP:=oJ.to w3.nx w3.bH.dm
  have jj:=ji.ob
  obtain ⟨G4,dw⟩:∃ G4,G4=(G3.put b (kx T { x with line:=2,ar:=x.at_.cur,w:=v } tb)).put b (kx T { x with line:=4,ar:=x.at_.cur,w:=v } tb):=⟨_,rfl⟩
  have oK:dE T G4 b tb { x with line:=4,ar:=x.at_.cur,w:=v }:=by rw [dw]; exact (ji.put aB { x with line:=2,ar:=x.at_.cur,w:=v } rfl).put aB _ rfl
  have w4:PW (Own own0 tag) own0 G0 cQ G4 m s':=by rw [dw]; exact (qS.aW dX.tag ht _).aW dX.tag ht _
  have zQ:=oK.ob
  have e5:=vE ae hl G4
  by_cases hv:aM≤v
  ·have vb:9223372036854775808≤v:=hv
   have Cp:=oK.put aB { x with line:=3,ar:=x.at_.cur,w:=v } rfl
   simp [oG,aw,t0,t1,t5,t6,ob,h2,← ak,dD,e2,dQ,e3,jj,← dw,zQ,e5,vb]
   exact ⟨rfl,by simp [aw],_,w4.aW dX.tag ht _,by simpa [hv] using Cp⟩
  ·have vb:¬ 9223372036854775808≤v:=hv
   simp [oG,aw,t0,t1,t5,t6,ob,h2,← ak,dD,e2,dQ,e3,jj,← dw,zQ,e5,vb]
   exact ⟨rfl,by simp [aw],_,w4,by simpa [hv] using oK⟩
 ·-- line 3
  have nU:=l9.1 h3
  have au:x.step T s=(if (s.bM (aN T x.at_.pred x.l) x.at_.cur (x.w - aM)).held=true then (({ x with ar:=x.at_.known,at_:={ x.at_ with cur:=x.w - aM } }:ao).looks T,s.bM (aN T x.at_.pred x.l) x.at_.cur (x.w - aM)) else (({ x with ar:=x.at_.known }:ao).anew T,s.bM (aN T x.at_.pred x.l) x.at_.cur (x.w - aM))):=by
   unfold ao.step; simp only; rw [if_neg (by omega),if_neg (by omega),if_pos h3]
  rw [au]
  have hu:=Fh l8 nU
  have x1:Ext G (G.room 14):=(Ext.refl G).room 14
  have w1:=w.ej x1 tag
  have pN:=hF.ext hb.lt du.lt x1
  have bu:=hb.df x1 tag
  have qR:=du.df x1 tag
  generalize grown own G tag=ah at *
  have e2:=Kn ae l8 nU (G.room 14)
  have Sn:x.w - 9223372036854775808=x.w - aM:=rfl
  rw [Sn] at e2
  obtain ⟨cQ,G3,e3,w3⟩:=w1.pm.bM ae (aN T x.at_.pred x.l) x.at_.cur (x.w - aM)
  generalize s.bM (aN T x.at_.pred x.l) x.at_.cur (x.w - aM)=s' at *
  have ji:=pN.kept (bu.keep ht w3) (qR.keep ht w3)
  have qS:=w1.tr w3.any
  have dX:=bu.to w3.nx w3.bH.dm
  have pP:=qR.to w3.nx w3.bH.dm
  have jj:=ji.ob
  cases hh:s'.held with
  | false =>
   rw [if_neg (by decide)]
   rw [hh] at e3
   obtain ⟨G4,e4,m4,oK⟩:=Ki ae hs ji aB dX.lt pP.lt l3
   simp [oG,aw,t0,t1,t5,t6,ob,h3,e2,e3,e4]
   exact ⟨rfl,by simp [aw],_,qS.g8 (zP dX pP (m4.mono fun g hg=>.inl hg)) ht tag,oK⟩
  | true =>
   rw [if_pos rfl]
   rw [hh] at e3
   have So:=Kn ae l8 nU G3
   rw [Sn] at So
   obtain ⟨G4,dw⟩:∃ G4,G4=G3.put b (kx T { x with line:=3,ar:=x.at_.known,at_:={ x.at_ with cur:=x.w - aM } } tb):=⟨_,rfl⟩
   have oK:dE T G4 b tb { x with line:=3,ar:=x.at_.known,at_:={ x.at_ with cur:=x.w - aM } }:=by rw [dw]; exact ji.put aB _ rfl
   have w4:PW (Own own0 tag) own0 G0 cQ G4 m s':=by rw [dw]; exact qS.aW dX.tag ht _
   have dY:At cQ tag G4 b:=by rw [dw]; exact ⟨dX.lt,dX.tag⟩
   have Cq:At cQ tag G4 tb:=by rw [dw]; exact ⟨pP.lt,pP.tag⟩
   obtain ⟨G5,e5,m5,Cp⟩:=Kk ae aZ hs oK aB dY.lt Cq.lt l3 l2 hu
   simp [oG,aw,t0,t1,t5,t6,ob,h3,e2,e3,jj,So,← dw,e5]
   exact ⟨rfl,by simp [aw],_,w4.g8 (zP dY Cq m5) ht tag,Cp⟩
 ·-- line 4
  have au:x.step T s=(if x.key≤(s.load (az T (aF T.size x.at_.cur) 0)).new then (({ x with ar:=x.at_.cur }:ao).tell,s.load (az T (aF T.size x.at_.cur) 0)) else (({ x with ar:=x.at_.cur,at_:=⟨aF T.size x.at_.cur,x.at_.cur,x.w⟩ }:ao).looks T,s.load (az T (aF T.size x.at_.cur) 0))):=by
   unfold ao.step; simp only; rw [if_neg (by omega),if_neg (by omega),if_neg (by omega),if_pos h4]
  rw [au]
  have hl:=(hm.load (az T (aF T.size x.at_.cur) 0)).2
  obtain ⟨G1,ak⟩:∃ G1,G1=G.put b (kx T { x with line:=4,ar:=x.at_.cur } tb):=⟨_,rfl⟩
  have pN:dE T G1 b tb { x with line:=4,ar:=x.at_.cur }:=by rw [ak]; exact hF.put aB _ rfl
  have w1:PW (Own own0 tag) own0 G0 own G1 m s:=by rw [ak]; exact w.aW hb.tag ht _
  have bu:At own tag G1 b:=by rw [ak]; exact ⟨hb.lt,hb.tag⟩
  have qR:At own tag G1 tb:=by rw [ak]; exact ⟨du.lt,du.tag⟩
  have dD:=pN.ob
  obtain ⟨G2,e2,x2⟩:=vD ae T (aF T.size x.at_.cur) 0 (G1.room 13)
  have y2:=((Ext.refl G1).room 13).trans x2
  have pO:=pN.ext bu.lt qR.lt y2
  have w2:=w1.ej y2 tag
  have bI:=bu.df y2 tag
  have oJ:=qR.df y2 tag
  have dQ:=pO.ob
  generalize grown own G1 tag=aX at *
  obtain ⟨cQ,G3,e3,w3⟩:=w2.pm.load ae (az T (aF T.size x.at_.cur) 0)
  generalize s.load (az T (aF T.size x.at_.cur) 0)=s' at *
  generalize s'.new=v at *
  have ji:=pO.kept (bI.keep ht w3) (oJ.keep ht w3)
  have qS:=w2.tr w3.any
  have dX:=bI.to w3.nx w3.bH.dm
  have pP:=oJ.to w3.nx w3.bH.dm
  have jj:=ji.ob
  by_cases hv:x.key≤v
  ·rw [if_pos hv]
   obtain ⟨G4,e4,m4,oK⟩:=Sj ae hs ji aB dX.lt pP.lt l3 l2
   simp [oG,aw,t0,t1,t5,t6,ob,h4,← ak,dD,e2,dQ,e3,jj,hv,e4]
   refine ⟨rfl,by simp [aw],_,qS.g8 (zP dX pP m4) ht tag,?_⟩
   exact oK
  ·rw [if_neg hv]
   obtain ⟨G4,dw⟩:∃ G4,G4=(((G3.room 25).put b (kx T { x with line:=4,ar:=x.at_.cur,at_:={ x.at_ with pred:=aF T.size x.at_.cur } } tb)).put b (kx T { x with line:=4,ar:=x.at_.cur,at_:={ x.at_ with pred:=aF T.size x.at_.cur,known:=x.at_.cur } } tb)).put b (kx T { x with line:=4,ar:=x.at_.cur,at_:=⟨aF T.size x.at_.cur,x.at_.cur,x.w⟩ } tb):=⟨_,rfl⟩
   have x3:Ext G3 (G3.room 25):=(Ext.refl G3).room 25
   have oK:dE T G4 b tb { x with line:=4,ar:=x.at_.cur,at_:=⟨aF T.size x.at_.cur,x.at_.cur,x.w⟩ }:=by rw [dw]; exact (((ji.ext dX.lt pP.lt x3).put aB { x with line:=4,ar:=x.at_.cur,at_:={ x.at_ with pred:=aF T.size x.at_.cur } } rfl).put aB { x with line:=4,ar:=x.at_.cur,at_:={ x.at_ with pred:=aF T.size x.at_.cur,known:=x.at_.cur } } rfl).put aB _ rfl
   have Cr:=dX.df x3 tag
   have Sq:=pP.df x3 tag
   have w4:PW (Own own0 tag) own0 G0 (grown cQ G3 tag) G4 m s':=by rw [dw]; exact (((qS.ej x3 tag).aW Cr.tag ht _).aW Cr.tag ht _).aW Cr.tag ht _
   have dY:At (grown cQ G3 tag) tag G4 b:=by rw [dw]; exact ⟨Cr.lt,Cr.tag⟩
   have Cq:At (grown cQ G3 tag) tag G4 tb:=by rw [dw]; exact ⟨Sq.lt,Sq.tag⟩
   obtain ⟨G5,e5,m5,Cp⟩:=Kk ae aZ hs oK aB dY.lt Cq.lt l3 l2 l8
   simp [oG,aw,t0,t1,t5,t6,ob,h4,← ak,dD,e2,dQ,e3,jj,hv,← dw,e5]
   exact ⟨rfl,by simp [aw],_,w4.g8 (zP dY Cq m5) ht tag,Cp⟩
 ·exact absurd h9' h9
theorem Sr (ae:FuncId→Bool) (aZ:ae 107=false) (hs:T.sound) (h:PM own G m s) (hm:s.ok) (hx:x.ok T) (ht:tag≠10) (aB:b≠tb) (hb:At own tag G b) (du:At own tag G tb) (hF:dE T G b tb x) :
  ∃ ah G1,(E ae).cl 91 [P0 b,P0 m] G=some (.bool (decide ((x.step T s).1.line=9)),G1)∧PW (Own own tag) own G ah G1 m (x.step T s).2∧dE T G1 b tb (x.step T s).1:=by
 have ob:=hF.ob
 by_cases h9:x.line=9
 ·have au:x.step T s=(x,s):=by unfold ao.step; simp only; rw [if_pos h9]
  rw [au]
  refine ⟨own,G,f91 (aq Q ae) _ _ G _ ?_,PW.refl h,hF⟩
  simp [s91,ob,h9]
 ·obtain ⟨G1,e1,x1⟩:=jM ae T x.at_.pred x.l (G.room 16)
  have y1:=((Ext.refl G).room 16).trans x1
  have pN:=hF.ext hb.lt du.lt y1
  have dD:=pN.ob
  have bu:=hb.df y1 tag
  obtain ⟨G2,e2,x2⟩:=Si ae aZ hx.cur bu.lt dD
  have y2:=y1.trans x2
  have pO:=hF.ext hb.lt du.lt y2
  have dQ:=pO.ob
  have w2:=(PW.refl (B:=Own own tag) h).ej y2 tag
  have bI:=hb.df y2 tag
  have oJ:=du.df y2 tag
  obtain ⟨G3,cE⟩:∃ G3,G3=G2.put b (kx T { x with ar:=x.at_.known } tb):=⟨_,rfl⟩
  have ji:dE T G3 b tb { x with ar:=x.at_.known }:=by rw [cE]; exact pO.put aB _ rfl
  have w3:PW (Own own tag) own G (grown own G tag) G3 m s:=by rw [cE]; exact w2.aW bI.tag ht _
  have dX:At (grown own G tag) tag G3 b:=by rw [cE]; exact ⟨bI.lt,bI.tag⟩
  have pP:At (grown own G tag) tag G3 tb:=by rw [cE]; exact ⟨oJ.lt,oJ.tag⟩
  have wW:Wp (s91 true (bD Q ae) (P0 b) (P0 m) G) fun q=>q.1= .bool (decide ((x.step T s).1.line=9))∧∃ ah,PW (Own own tag) own G ah q.2 m (x.step T s).2∧dE T q.2 b tb (x.step T s).1:=by
   simp [s91,ob,h9,e1,dD,e2,dQ,← cE]
   refine Wp.bE ((abG ae aZ hs hm hx h9 ht aB w3 dX pP ji (by simp) (by simp) (by simp) (by simp)).mono ?_)
   rintro ⟨e,τ,G'⟩ ⟨h1,h2,ah,h3,h4⟩
   simp only at h1 h2 h3 h4
   subst h1
   have o4:=h4.ob
   simp [h2,o4]
   exact ⟨⟨ah,h3⟩,h4⟩
  obtain ⟨⟨v,G'⟩,e,rfl,ah,h3,h4⟩:=wW
  exact ⟨ah,G',f91 (aq Q ae) _ _ G _ e,h3,h4⟩
theorem Ko (ae:FuncId→Bool) (hF:dE T G b tb x):(E ae).cl 92 [P0 b] G=some (.int .u64 x.ar,G):=by
 have ob:=hF.ob
 refine f92 (aq Q ae) _ G _ ?_
 simp [s92,ob]
end
def ao.zero (T:TW) (key:Int):ao:=⟨key,0,0,⟨0,0,0⟩,0,List.replicate T.ay.toNat ⟨0,0,0⟩,0⟩
def ao.new (T:TW) (key:Int):ao:=(ao.zero T key).anew T
theorem ao.tX {T:TW} (hs:T.sound) (key:Int):(ao.new T key).ok T:=ao.Km hs (by simp [ao.zero]) gH gH
theorem abH {T:TW} (hs:T.sound):aN T (-1) 0=T.cG:=by
 unfold aN az
 have:=hs.1
 rw [if_pos (by omega),if_pos hs,if_pos rfl,if_pos (by omega)]; omega
theorem abI (n:Nat) (hn:n≤4) (G:GS):qJ 4 32 z155 n n G=some (jh G.nx n,G.push ⟨jg.flat (List.replicate n (0,⟨0,0,0⟩)),4,false,1⟩):=by
 unfold qJ
 rw [if_pos ⟨by omega,by omega,by decide,by omega,wrap64 (by omega) (by omega),wrap64 (by omega) (by omega)⟩]
 have:rep z155 ((n:Nat):Int).toNat=jg.flat (List.replicate n (0,⟨0,0,0⟩)):=by
  simp only [Int.toNat_natCast]
  induction n with
  | zero=>rfl
  | succ n ih=>show z155++rep z155 n=_; rw [ih (by omega)]; rfl
 rw [this]; rfl
theorem Kp (ae:FuncId→Bool) {T:TW} (hs:T.sound) (key:Int) (G:GS):∃ b tb G',(E ae).cl 56 [T.v,.int .u64 key] G=some (P0 b,G')∧Ext G G' ∧(G.nx≤b∧b<G'.nx)∧(G.nx≤tb∧tb<G'.nx)∧b≠tb∧dE T G' b tb (ao.new T key):=by
 obtain ⟨G1,ak⟩:∃ G1,G1=(G.push ⟨T.cells,1,false,1⟩).push ⟨qP T key 0 0 0 0 0 0 (.slice none 0 0) 0,1,false,1⟩:=⟨_,rfl⟩
 have x1:Ext G G1:=by rw [ak]; exact ((Ext.refl G).push _).push _
 have o1:G1.obj G.nx=some ⟨T.cells,1,false,1⟩:=by rw [ak]; simp
 have p1:G1.obj (G.nx+1)=some ⟨qP T key 0 0 0 0 0 0 (.slice none 0 0) 0,1,false,1⟩:=by rw [ak]; simp
 have n1:G1.nx=G.nx+2:=by rw [ak]; rfl
 obtain ⟨G2,e2,x2⟩:=jM ae T (-1) 0 G1
 rw [abH hs] at e2
 have n2:=x2.nx
 have o2:=(x2.obj G.nx (by omega)).trans o1
 have p2:=(x2.obj (G.nx+1) (by omega)).trans p1
 have hh:¬ T.cG<0:=by have:=hs.2.2.2.2.2.2.1; omega
 obtain ⟨he,h1,h4⟩:=zO hs
 have Ss:=abI T.ay.toNat h4 G2
 rw [← he] at Ss
 obtain ⟨G3,cE⟩:∃ G3,G3=(G2.push ⟨jg.flat (List.replicate T.ay.toNat (0,⟨0,0,0⟩)),4,false,1⟩).put (G.nx+1) (kx T (ao.zero T key) G2.nx):=⟨_,rfl⟩
 have x3:Ext G G3:=by rw [cE]; exact ((x1.trans x2).push _).put (by omega) _
 have n3:G3.nx=G2.nx+1:=by rw [cE]; rfl
 have ji:dE T G3 (G.nx+1) G2.nx (ao.zero T key):=⟨List.replicate T.ay.toNat (0,⟨0,0,0⟩),by rw [cE]; simp,by rw [cE,eY _ _ (by omega)]; simp,by simp [ao.zero]⟩
 have jj:=ji.ob
 obtain ⟨G4,e4,m4,oK⟩:=Ki ae hs ji (by omega) (by omega) (by omega) (by simp [ao.zero])
 have n4:=m4.nx
 refine ⟨G.nx+1,G2.nx,G4,f56 (aq Q ae) _ _ G _ ?_,m4.tail x3 (fun g hg=>by rw [hg]; omega),by omega,by omega,by omega,oK⟩
 have aB:¬ G.nx+1=G2.nx:=by omega
 have abJ:G3=(G2.push ⟨jg.flat (List.replicate T.ay.toNat (0,⟨0,0,0⟩)),4,false,1⟩).put (G.nx+1) ⟨qP T key 0 0 0 0 0 0 (jh G2.nx T.ay.toNat) 0,1,false,1⟩:=cE
 have hz:z158=[.int .i64 0,.int .i64 0,.int .i64 0,.int .i64 0,.int .i64 0,.int .i64 0,.int .i64 0,.int .i64 0,.int .i64 0,.int .i64 0,.int .i64 0,.int .i64 0,.int .i64 0,.int .u64 0,.int .i64 0,.int .i64 0,.int .i64 0,.int .u64 0,.int .u64 0,.int .u64 0,.slice none 0 0,.int .u64 0,.bool false,.int .i64 0]:=rfl
 simp [s56,hz,ch,cg,gA]
 rw [← ak]
 simp [o1,e2,hh,o2,Ss,p2,aB]
 rw [← abJ]
 simp [e4]
section
variable {T:TW} {G:GS} {b tb h:Nat} {x:ao} {TL:List (Int×dy)}
theorem Kq (ae:FuncId→Bool) (hF:dE T G b tb x) (h9:x.line=9):(E ae).cl 156 [P0 b] G=some (jh tb T.ay.toNat,G):=by
 have ob:=hF.ob
 have e1:(E ae).cl 162 [P0 b] G=some (.int .i64 0,G):=by
  refine f162 (aq Q ae) _ G _ ?_
  simp [s162,ob,h9]
 refine f156 (aq Q ae) _ G _ ?_
 simp [s156,e1,ob]
theorem abK (ae:FuncId→Bool) {A:GS} (du:tb<A.nx) (ot:A.obj tb=some ⟨jg.flat TL,4,false,1⟩) (hh:TL.length=h) (h4:h≤4):∀ (j k:Nat) (τ:Env) (G:GS) (v:Value),k+j=h→τ 7=jh tb h→τ 8= .int .i64 h→τ 9= .int .i64 k→τ 3=v→Ext A G→cn (bh .i64) A.nx G v ((TL.take k).map (·.2.pred)) →
  Wp ((bD Q ae).dj 158 0 τ G) fun r=>r.1= .exit 0∧Ext A r.2.2∧cn (bh .i64) A.nx r.2.2 (r.2.1 3) (TL.map (·.2.pred)):=by
 intro j
 induction j with
 | zero =>
  intro k τ G v hk t7 t8 t9 t3 x ho
  have hk:k=h:=by omega
  subst hk
  rw [← hh,List.take_length] at ho
  refine Wp.lp (Rh (aq Q ae)) ?_
  obtain ⟨a1,n1,rfl⟩:=ho.is.len
  simp [JI,aw,t7,t8,t9,t3]
  exact ⟨x,by simpa using ho⟩
 | succ j ih =>
  intro k τ G v hk t7 t8 t9 t3 x ho
  have Fg:k<h:=by omega
  have sk:k<TL.length:=by omega
  have c1:((k:Int)<h):=by omega
  have c2:(0≤(k:Int)∧(k:Int)<(h:Int)):=by omega
  have c3:IntKind.wrap .i64 ((k:Int)+1)=(k:Int)+1:=wrap64 (by omega) (by omega)
  have e1:=E1 (e:=jg) ((x.obj tb du).trans ot) (Nat.lt_of_lt_of_le du x.nx) sk
  simp only [Cn,Co] at e1
  obtain ⟨sp,g5⟩:∃ sp,sp=TL[k]:=⟨_,rfl⟩
  rw [← g5] at e1
  obtain ⟨G1,ak⟩:∃ G1,G1=(G.push ⟨z155,1,false,1⟩).put G.nx ⟨[.int .i64 sp.1,.int .i64 sp.2.pred,.int .u64 sp.2.known,.int .u64 sp.2.cur],1,false,1⟩:=⟨_,rfl⟩
  have hz:z155=[.int .i64 0,.int .i64 0,.int .u64 0,.int .u64 0]:=rfl
  have x1:Ext G G1:=by rw [ak]; exact ((Ext.refl G).push _).put (Nat.le_refl _) _
  have o1:G1.obj G.nx=some ⟨[.int .i64 sp.1,.int .i64 sp.2.pred,.int .u64 sp.2.known,.int .u64 sp.2.cur],1,false,1⟩:=by rw [ak]; simp
  obtain ⟨v',G2,e2,x2,o2⟩:=cn.app (A:=A) (ib:=8) ((ho.ext x1).ext ((Ext.refl G1).push _)) (by decide) ((x.trans x1).push _) (bT.one (bh .i64) G1 sp.2.pred) (by simp; omega)
  have hl:(TL.take k).map (·.2.pred)++[sp.2.pred]=(TL.take (k+1)).map (·.2.pred):=by rw [List.take_add_one,List.getElem?_eq_getElem sk,← g5]; simp
  rw [hl] at o2
  obtain ⟨a1,n1,rfl⟩:=ho.is.len
  refine Wp.lp (Rh (aq Q ae)) ?_
  simp [bh] at e2
  rw [hz] at ak
  simp [-mw,JI,aw,t7,t8,t9,t3,c1,c2,c3,e1,hz,ch,cg,gA,← ak,o1,e2]
  refine ih (k+1) _ G2 v' (by omega) ?_ ?_ ?_ ?_ x2 o2<;>simp [aw]
theorem abL (ae:FuncId→Bool) (hs:T.sound) (hF:dE T G b tb x) (du:tb<G.nx) (h9:x.line=9) (hl:x.told.length=T.ay.toNat):∃ v G',(E ae).cl 158 [P0 b] G=some (v,G')∧Ext G G' ∧cn (bh .i64) G.nx G' v (x.told.map (·.pred)):=by
 obtain ⟨e0,h1,h4⟩:=zO hs
 have ea:=Kq ae hF h9
 obtain ⟨TL,o1,o2,o3⟩:=hF
 have pM:TL.length=T.ay.toNat:=by rw [← hl,← o3]; simp
 have w:Wp (s158 true (bD Q ae) (P0 b) G) fun r=>Ext G r.2∧cn (bh .i64) G.nx r.2 r.1 (x.told.map (·.pred)):=by
  simp [s158,ea]
  refine Wp.bE ((abK ae du o2 pM h4 T.ay.toNat 0 _ G (.slice none 0 0) (by omega) ?_ ?_ ?_ ?_ (Ext.refl G) ?_).mono ?_)
  ·simp
  ·simp
  ·simp
  ·simp
  ·simpa using cn.nil _ _
  ·rintro ⟨e,τ,G1⟩ ⟨rfl,x1,ho⟩
   simp only at x1 ho
   obtain ⟨a1,n1,hv⟩:=ho.is.len
   rw [hv] at ho
   simp [hv]
   refine ⟨x1,?_⟩
   rw [← o3,List.map_map]
   have hc:List.map ((fun x=>x.pred) ∘ (fun x:Int×dy=>x.2)) TL=List.map (·.2.pred) TL:=rfl
   rw [hc]
   simpa using ho
 obtain ⟨⟨v,G'⟩,e1,q1,q2⟩:=w
 exact ⟨v,G',f158 (aq Q ae) _ G _ e1,q1,q2⟩
theorem abM (ae:FuncId→Bool) {A:GS} (du:tb<A.nx) (ot:A.obj tb=some ⟨jg.flat TL,4,false,1⟩) (hh:TL.length=h) (h4:h≤4):∀ (j k:Nat) (τ:Env) (G:GS) (v:Value),k+j=h→τ 7=jh tb h→τ 8= .int .i64 h→τ 9= .int .i64 k→τ 3=v→Ext A G→cn (bh .u64) A.nx G v ((TL.take k).map (·.2.cur)) →
  Wp ((bD Q ae).dj 145 0 τ G) fun r=>r.1= .exit 0∧Ext A r.2.2∧cn (bh .u64) A.nx r.2.2 (r.2.1 3) (TL.map (·.2.cur)):=by
 intro j
 induction j with
 | zero =>
  intro k τ G v hk t7 t8 t9 t3 x ho
  have hk:k=h:=by omega
  subst hk
  rw [← hh,List.take_length] at ho
  refine Wp.lp (Q9 (aq Q ae)) ?_
  obtain ⟨a1,n1,rfl⟩:=ho.is.len
  simp [JA,aw,t7,t8,t9,t3]
  exact ⟨x,by simpa using ho⟩
 | succ j ih =>
  intro k τ G v hk t7 t8 t9 t3 x ho
  have Fg:k<h:=by omega
  have sk:k<TL.length:=by omega
  have c1:((k:Int)<h):=by omega
  have c2:(0≤(k:Int)∧(k:Int)<(h:Int)):=by omega
  have c3:IntKind.wrap .i64 ((k:Int)+1)=(k:Int)+1:=wrap64 (by omega) (by omega)
  have e1:=E1 (e:=jg) ((x.obj tb du).trans ot) (Nat.lt_of_lt_of_le du x.nx) sk
  simp only [Cn,Co] at e1
  obtain ⟨sp,g5⟩:∃ sp,sp=TL[k]:=⟨_,rfl⟩
  rw [← g5] at e1
  obtain ⟨G1,ak⟩:∃ G1,G1=(G.push ⟨z155,1,false,1⟩).put G.nx ⟨[.int .i64 sp.1,.int .i64 sp.2.pred,.int .u64 sp.2.known,.int .u64 sp.2.cur],1,false,1⟩:=⟨_,rfl⟩
  have hz:z155=[.int .i64 0,.int .i64 0,.int .u64 0,.int .u64 0]:=rfl
  have x1:Ext G G1:=by rw [ak]; exact ((Ext.refl G).push _).put (Nat.le_refl _) _
  have o1:G1.obj G.nx=some ⟨[.int .i64 sp.1,.int .i64 sp.2.pred,.int .u64 sp.2.known,.int .u64 sp.2.cur],1,false,1⟩:=by rw [ak]; simp
  obtain ⟨v',G2,e2,x2,o2⟩:=cn.app (A:=A) (ib:=8) ((ho.ext x1).ext ((Ext.refl G1).push _)) (by decide) ((x.trans x1).push _) (bT.one (bh .u64) G1 sp.2.cur) (by simp; omega)
  have hl:(TL.take k).map (·.2.cur)++[sp.2.cur]=(TL.take (k+1)).map (·.2.cur):=by rw [List.take_add_one,List.getElem?_eq_getElem sk,← g5]; simp
  rw [hl] at o2
  obtain ⟨a1,n1,rfl⟩:=ho.is.len
  refine Wp.lp (Q9 (aq Q ae)) ?_
  simp [bh] at e2
  rw [hz] at ak
  simp [-mw,JA,aw,t7,t8,t9,t3,c1,c2,c3,e1,hz,ch,cg,gA,← ak,o1,e2]
  refine ih (k+1) _ G2 v' (by omega) ?_ ?_ ?_ ?_ x2 o2<;>simp [aw]
theorem abN (ae:FuncId→Bool) (hs:T.sound) (hF:dE T G b tb x) (du:tb<G.nx) (h9:x.line=9) (hl:x.told.length=T.ay.toNat):∃ v G',(E ae).cl 145 [P0 b] G=some (v,G')∧Ext G G' ∧cn (bh .u64) G.nx G' v (x.told.map (·.cur)):=by
 obtain ⟨e0,h1,h4⟩:=zO hs
 have ea:=Kq ae hF h9
 obtain ⟨TL,o1,o2,o3⟩:=hF
 have pM:TL.length=T.ay.toNat:=by rw [← hl,← o3]; simp
 have w:Wp (s145 true (bD Q ae) (P0 b) G) fun r=>Ext G r.2∧cn (bh .u64) G.nx r.2 r.1 (x.told.map (·.cur)):=by
  simp [s145,ea]
  refine Wp.bE ((abM ae du o2 pM h4 T.ay.toNat 0 _ G (.slice none 0 0) (by omega) ?_ ?_ ?_ ?_ (Ext.refl G) ?_).mono ?_)
  ·simp
  ·simp
  ·simp
  ·simp
  ·simpa using cn.nil _ _
  ·rintro ⟨e,τ,G1⟩ ⟨rfl,x1,ho⟩
   simp only at x1 ho
   obtain ⟨a1,n1,hv⟩:=ho.is.len
   rw [hv] at ho
   simp [hv]
   refine ⟨x1,?_⟩
   rw [← o3,List.map_map]
   have hc:List.map ((fun x=>x.cur) ∘ (fun x:Int×dy=>x.2)) TL=List.map (·.2.cur) TL:=rfl
   rw [hc]
   simpa using ho
 obtain ⟨⟨v,G'⟩,e1,q1,q2⟩:=w
 exact ⟨v,G',f145 (aq Q ae) _ G _ e1,q1,q2⟩
theorem abO (ae:FuncId→Bool) {A:GS} (du:tb<A.nx) (ot:A.obj tb=some ⟨jg.flat TL,4,false,1⟩) (hh:TL.length=h) (h4:h≤4):∀ (j k:Nat) (τ:Env) (G:GS) (v:Value),k+j=h→τ 7=jh tb h→τ 8= .int .i64 h→τ 9= .int .i64 k→τ 3=v→Ext A G→cn (bh .u64) A.nx G v ((TL.take k).map (·.2.known)) →
  Wp ((bD Q ae).dj 157 0 τ G) fun r=>r.1= .exit 0∧Ext A r.2.2∧cn (bh .u64) A.nx r.2.2 (r.2.1 3) (TL.map (·.2.known)):=by
 intro j
 induction j with
 | zero =>
  intro k τ G v hk t7 t8 t9 t3 x ho
  have hk:k=h:=by omega
  subst hk
  rw [← hh,List.take_length] at ho
  refine Wp.lp (Ra (aq Q ae)) ?_
  obtain ⟨a1,n1,rfl⟩:=ho.is.len
  simp [JB,aw,t7,t8,t9,t3]
  exact ⟨x,by simpa using ho⟩
 | succ j ih =>
  intro k τ G v hk t7 t8 t9 t3 x ho
  have Fg:k<h:=by omega
  have sk:k<TL.length:=by omega
  have c1:((k:Int)<h):=by omega
  have c2:(0≤(k:Int)∧(k:Int)<(h:Int)):=by omega
  have c3:IntKind.wrap .i64 ((k:Int)+1)=(k:Int)+1:=wrap64 (by omega) (by omega)
  have e1:=E1 (e:=jg) ((x.obj tb du).trans ot) (Nat.lt_of_lt_of_le du x.nx) sk
  simp only [Cn,Co] at e1
  obtain ⟨sp,g5⟩:∃ sp,sp=TL[k]:=⟨_,rfl⟩
  rw [← g5] at e1
  obtain ⟨G1,ak⟩:∃ G1,G1=(G.push ⟨z155,1,false,1⟩).put G.nx ⟨[.int .i64 sp.1,.int .i64 sp.2.pred,.int .u64 sp.2.known,.int .u64 sp.2.cur],1,false,1⟩:=⟨_,rfl⟩
  have hz:z155=[.int .i64 0,.int .i64 0,.int .u64 0,.int .u64 0]:=rfl
  have x1:Ext G G1:=by rw [ak]; exact ((Ext.refl G).push _).put (Nat.le_refl _) _
  have o1:G1.obj G.nx=some ⟨[.int .i64 sp.1,.int .i64 sp.2.pred,.int .u64 sp.2.known,.int .u64 sp.2.cur],1,false,1⟩:=by rw [ak]; simp
  obtain ⟨v',G2,e2,x2,o2⟩:=cn.app (A:=A) (ib:=8) ((ho.ext x1).ext ((Ext.refl G1).push _)) (by decide) ((x.trans x1).push _) (bT.one (bh .u64) G1 sp.2.known) (by simp; omega)
  have hl:(TL.take k).map (·.2.known)++[sp.2.known]=(TL.take (k+1)).map (·.2.known):=by rw [List.take_add_one,List.getElem?_eq_getElem sk,← g5]; simp
  rw [hl] at o2
  obtain ⟨a1,n1,rfl⟩:=ho.is.len
  refine Wp.lp (Ra (aq Q ae)) ?_
  simp [bh] at e2
  rw [hz] at ak
  simp [-mw,JB,aw,t7,t8,t9,t3,c1,c2,c3,e1,hz,ch,cg,gA,← ak,o1,e2]
  refine ih (k+1) _ G2 v' (by omega) ?_ ?_ ?_ ?_ x2 o2<;>simp [aw]
theorem abP (ae:FuncId→Bool) (hs:T.sound) (hF:dE T G b tb x) (du:tb<G.nx) (h9:x.line=9) (hl:x.told.length=T.ay.toNat):∃ v G',(E ae).cl 157 [P0 b] G=some (v,G')∧Ext G G' ∧cn (bh .u64) G.nx G' v (x.told.map (·.known)):=by
 obtain ⟨e0,h1,h4⟩:=zO hs
 have ea:=Kq ae hF h9
 obtain ⟨TL,o1,o2,o3⟩:=hF
 have pM:TL.length=T.ay.toNat:=by rw [← hl,← o3]; simp
 have w:Wp (s157 true (bD Q ae) (P0 b) G) fun r=>Ext G r.2∧cn (bh .u64) G.nx r.2 r.1 (x.told.map (·.known)):=by
  simp [s157,ea]
  refine Wp.bE ((abO ae du o2 pM h4 T.ay.toNat 0 _ G (.slice none 0 0) (by omega) ?_ ?_ ?_ ?_ (Ext.refl G) ?_).mono ?_)
  ·simp
  ·simp
  ·simp
  ·simp
  ·simpa using cn.nil _ _
  ·rintro ⟨e,τ,G1⟩ ⟨rfl,x1,ho⟩
   simp only at x1 ho
   obtain ⟨a1,n1,hv⟩:=ho.is.len
   rw [hv] at ho
   simp [hv]
   refine ⟨x1,?_⟩
   rw [← o3,List.map_map]
   have hc:List.map ((fun x=>x.known) ∘ (fun x:Int×dy=>x.2)) TL=List.map (·.2.known) TL:=rfl
   rw [hc]
   simpa using ho
 obtain ⟨⟨v,G'⟩,e1,q1,q2⟩:=w
 exact ⟨v,G',f157 (aq Q ae) _ G _ e1,q1,q2⟩
end
structure Sk where
 top:Int
 links:Int
 size:Int
def Sk.ok (R:Sk):Prop:=1≤R.size∧R.size≤4096∧0≤R.top∧R.top<4096∧0≤R.links∧R.links+R.size≤4096
abbrev hL (R:Sk) (w i j:Int) (made done:Bool) (err:Int) (next:Value):List Value:=[.int .i64 R.top,.int .i64 R.links,.int .i64 R.size,.int .u64 w,.int .i64 i,.int .i64 j,.bool made,.bool done,.int .i64 err,next]
section
variable {m r b:Nat} {own ah:Nat→Nat} {G G1:GS} {s s':MS} {R:Sk} {w i j err:Int} {md dn:Bool} {nx:Value}
theorem abQ (ae:FuncId→Bool) (ht:ae 107=false) (h:PM own G m s) (hs:s.ok) (hb:b<G.nx) (tb:own b≠10) (ho:G.obj b=some ⟨hL R w i j md dn err nx,1,false,1⟩) :
  ∃ ah G1,(E ae).cl 159 [P0 b,P0 m] G=some (.int .i64 (aF R.size (s.load R.top).new),G1)∧PW (fun x=>x=b) own G ah G1 m (s.load R.top)∧G1.obj b=some ⟨hL R (s.load R.top).new i j md dn err nx,1,false,1⟩:=by
 obtain ⟨ah,G1,e1,w1⟩:=h.load ae R.top
 have hw:=(hs.load R.top).2
 generalize s.load R.top=s' at *
 have o1:=(w1.keep hb tb id).trans ho
 have qQ:PW (fun x=>x=b) own G ah G1 m s':=w1.mono fun _ _ h=>h.elim
 obtain ⟨G2,bA⟩:∃ G2,G2=(G1.put b ⟨hL R s'.new i j md dn err nx,1,false,1⟩).room 10:=⟨_,rfl⟩
 have w2:=qQ.xD rfl hb tb ⟨hL R s'.new i j md dn err nx,1,false,1⟩
 have qT:=w2.ext ((Ext.refl _).room 10)
 rw [← bA] at qT
 have o2:G2.obj b=some ⟨hL R s'.new i j md dn err nx,1,false,1⟩:=by rw [bA]; simp
 obtain ⟨G3,e3,x3⟩:=abg ae ht (a:=R.top) (b:=R.links) (size:=R.size) hw G2
 have n2:b<G2.nx:=Nat.lt_of_lt_of_le hb qT.nx
 refine ⟨_,G3,f159 (aq Q ae) _ _ G _ ?_,qT.ext x3,(x3.obj b n2).trans o2⟩
 simp [s159,ho,e1,o1,← bA,o2,e3]
theorem abR (ae:FuncId→Bool) (ht:ae 107=false) (h:PM own G m s) (hw:U w) (hb:b<G.nx) (tb:own b≠10) (ho:G.obj b=some ⟨hL R w i j md dn err nx,1,false,1⟩) {k:Int} (hk:-1≤k∧k≤65534) :
  ∃ ah G1,(E ae).cl 164 [P0 b,P0 m,.int .i64 k] G=some (.bool (s.bM R.top w (qO k w)).held,G1)∧PW no own G ah G1 m (s.bM R.top w (qO k w))∧G1.obj b=some ⟨hL R w i j md dn err nx,1,false,1⟩:=by
 obtain ⟨G1,e1,x1⟩:=xC ae ht hw G
 obtain ⟨G2,bA⟩:∃ G2,G2=(G1.push ⟨z150,1,false,1⟩).put G1.nx ⟨[.int .i64 (w % 65536 - 1),.int .i64 (w / 65536)],1,false,1⟩:=⟨_,rfl⟩
 have x2:Ext G1 G2:=by rw [bA]; exact ((Ext.refl G1).push _).put (Nat.le_refl _) _
 have p2:G2.obj G1.nx=some ⟨[.int .i64 (w % 65536 - 1),.int .i64 (w / 65536)],1,false,1⟩:=by rw [bA]; simp
 have h1:=hw.1; have h2:=hw.2
 have a1:IntKind.wrap .i64 (w / 65536+1)=w / 65536+1:=wrap64 (by omega) (by omega)
 have a2:xf .i64 (w / 65536+1) 281474976710655=(w / 65536+1) % 281474976710656:=by
  have hn:0≤w / 65536+1∧w / 65536+1<18446744073709551616:=by omega
  generalize w / 65536+1=q at *
  obtain ⟨n,rfl⟩:=Int.eq_ofNat_of_zero_le hn.1
  have:n &&& 281474976710655=n % 281474976710656:=Nat.and_two_pow_sub_one_eq_mod n 48
  show IntKind.wrap .i64 (((BitVec.ofInt 64 (n:Int) &&& BitVec.ofInt 64 281474976710655).toNat:Nat):Int)=_
  rw [BitVec.toNat_and,ofInt_u64 hn,ofInt_u64 ⟨by decide,by decide⟩]
  rw [show (Int.toNat (n:Int))=n from rfl,show (281474976710655:Int).toNat=281474976710655 from rfl,this,wrap64 (by omega) (by omega)]
  omega
 obtain ⟨G3,e3,x3⟩:=R0 ae ht hk (t:=(w / 65536+1) % 281474976710656) (by omega) G2
 obtain ⟨G4,dw⟩:∃ G4,G4=G3.room 13:=⟨_,rfl⟩
 have x4:Ext G3 G4:=by rw [dw]; exact (Ext.refl _).room 13
 have y4:=((x1.trans x2).trans x3).trans x4
 have o4:=(y4.obj b hb).trans ho
 have o4':G3.obj b=some ⟨hL R w i j md dn err nx,1,false,1⟩:=(((x1.trans x2).trans x3).obj b hb).trans ho
 have h4:=h.ext y4
 obtain ⟨ky,G5,e5,w5⟩:=h4.bM ae R.top w (qO k w)
 have dY:b<G4.nx:=Nat.lt_of_lt_of_le hb y4.nx
 have tb4:grown own G 13 b=own b:=dk b hb
 have o5:=(w5.keep dY (by rw [tb4]; exact tb) id).trans o4
 have ht3:bN k ((w / 65536+1) % 281474976710656)=qO k w:=rfl
 rw [ht3] at e3
 refine ⟨ky,G5,f164 (aq Q ae) _ _ _ G _ ?_,((PW.refl h).ext y4).trans w5 fun _ _ h=>h,o5⟩
 simp [s164,ho,e1,ch,cg,← bA,p2,a1,a2,e3,← dw,o4,o4',e5]
theorem Sv (ae:FuncId→Bool) (ho:G.obj b=some ⟨hL R w i j md dn err nx,1,false,1⟩) (e:Int) :
  (E ae).cl 152 [P0 b,.int .i64 e] G=some (.tuple #[],(G.put b ⟨hL R w i j md true err nx,1,false,1⟩).put b ⟨hL R w i j md true e nx,1,false,1⟩):=by
 refine f152 (aq Q ae) _ _ G _ ?_
 simp [s152,ho]
theorem Sw (ae:FuncId→Bool) (ho:G.obj b=some ⟨hL R w i j true dn err nx,1,false,1⟩):(E ae).cl 161 [P0 b] G=some (.bool dn,G):=by
 refine f161 (aq Q ae) _ G _ ?_
 cases dn<;>simp [s161,ho]
end
inductive abS where
 | go (n:Nat) (w i j:Int)
 | done (i:Int)
section
variable {m r b:Nat} {own ah:Nat→Nat} {G G1:GS} {s s':MS} {R:Sk} {p:abS}
end
inductive eM where
 | go (n:Nat) (w i:Int)
 | done (e:Int)
def eM.over:eM→Bool
 | .go ..=>false
 | .done _=>true
def eM.ok (R:Sk):eM→Prop
 | .go n w i=>1≤n∧n≤3∧U w∧0≤i∧i<R.size
 | .done _=>True
def eM.step (R:Sk):eM→MS→eM×MS
 | .done i,s=>(.done i,s)
 | .go n w i,s =>
  if n=1 then (.go 2 (s.load R.top).new i,s.load R.top)
  else if n=2 then (.go 3 w i,s.store (R.links+i) (aF R.size w+1))
  else (if (s.bM R.top w (qO i w)).held=true then .done 0 else .go 1 w i,s.bM R.top w (qO i w))
theorem eM.ok.step {R:Sk} {p:eM} {s:MS} (hR:R.ok) (hp:p.ok R) (hs:s.ok):(p.step R s).1.ok R∧(p.step R s).2.ok:=by
 cases p with
 | done i=>exact ⟨hp,hs⟩
 | go n w i =>
  obtain ⟨h1,h2,h3,h4,h5⟩:=hp
  have hz:=hR.1; have pQ:=hR.2.1
  have g1:=@J7 R.size w
  have g2:=@J8 R.size w (by omega)
  simp only [eM.step]
  split
  ·exact ⟨⟨by decide,by decide,(hs.load _).2,h4,h5⟩,(hs.load _).1⟩
  ·split
   ·exact ⟨⟨by decide,by decide,h3,h4,h5⟩,hs.store _ ⟨by omega,by omega⟩⟩
   ·refine ⟨?_,hs.bM _ _ (abh (by omega))⟩
    split
    ·trivial
    ·exact ⟨by decide,by decide,h3,h4,h5⟩
def fj (n:Nat):Value:=.func (.func (if n=1 then 151 else if n=2 then 160 else 163)) #[] #[]
def xF (R:Sk) (G:GS) (b:Nat):eM→Prop
 | .go n w i=>∃ j,(n=2→j=aF R.size w)∧G.obj b=some ⟨hL R w i j true false 0 (fj n),1,false,1⟩
 | .done e=>∃ w i j nx,G.obj b=some ⟨hL R w i j true true e nx,1,false,1⟩
theorem xF.kept {R:Sk} {G G':GS} {b:Nat} {p:eM} (h:xF R G b p) (hk:G'.obj b=G.obj b):xF R G' b p:=by
 cases p with
 | done i=>obtain ⟨w,i,j,nx,h⟩:=h; exact ⟨w,i,j,nx,hk.trans h⟩
 | go n w i=>obtain ⟨j,hj,h⟩:=h; exact ⟨j,hj,hk.trans h⟩
section
variable {m r b:Nat} {own ah:Nat→Nat} {G G1:GS} {s s':MS} {R:Sk} {p:eM}
theorem abT (ae:FuncId→Bool) (ht:ae 107=false) (h:PM own G m s) (hs:s.ok) (hR:R.ok) (hb:b<G.nx) (tb:own b≠10) (hp:p.ok R) (hr:xF R G b p) :
  ∃ ah G1,(E ae).cl 153 [P0 b,P0 m] G=some (.bool (p.step R s).1.over,G1)∧PW (fun x=>x=b) own G ah G1 m (p.step R s).2∧xF R G1 b (p.step R s).1:=by
 cases p with
 | done e =>
  obtain ⟨w,i,j,nx,ho⟩:=hr
  have e0:=Sw ae ho
  refine ⟨own,G,f153 (aq Q ae) _ _ G _ ?_,PW.refl h,w,i,j,nx,ho⟩
  simp [s153,e0,eM.step,eM.over]
 | go n w i =>
  obtain ⟨h1,h2,h3,h4,h5⟩:=hp
  have yM:=hR.1; have hR2:=hR.2.1; have hR5:=hR.2.2.2.2.1; have hR6:=hR.2.2.2.2.2
  obtain ⟨j,hj,ho⟩:=hr
  have e0:=Sw ae ho
  rcases (show n=1∨n=2∨n=3 by omega) with rfl | rfl | rfl
  ·obtain ⟨aX,G2,e2,w2,o2⟩:=abQ ae ht h hs hb tb ho
   simp only [eM.step,if_true]
   generalize Kr:s.load R.top=s' at *
   have w3:=(w2.xD (b:=b) rfl hb tb ⟨hL R s'.new i (aF R.size s'.new) true false 0 (fj 1),1,false,1⟩).xD (b:=b) rfl hb tb ⟨hL R s'.new i (aF R.size s'.new) true false 0 (fj 2),1,false,1⟩
   refine ⟨aX,_,f153 (aq Q ae) _ _ G _ ?_,w3,_,fun _=>rfl,by simp⟩
   generalize aF R.size s'.new=j' at *
   have e4:(E ae).cl 151 [P0 b,P0 m] G=some (.tuple #[],(G2.put b ⟨hL R s'.new i j' true false 0 (fj 1),1,false,1⟩).put b ⟨hL R s'.new i j' true false 0 (fj 2),1,false,1⟩):=by
    refine f151 (aq Q ae) _ _ G _ ?_
    simp only [fj] at *
    simp at *
    simp [s151,ho,e2,o2]
   simp only [fj] at *
   simp at *
   simp [s153,e0,ho,e4,eM.over]
  ·have hj:=hj rfl
   have g1:=@J7 R.size w
   have g2:=@J8 R.size w (by omega)
   have ha:IntKind.wrap .i64 (R.links+i)=R.links+i:=wrap64 (by omega) (by omega)
   rw [← hj] at g1 g2
   simp only [eM.step]
   rw [← hj]
   obtain ⟨G1,e1,x1⟩:=E7 ae ht (i:=j) (by omega) (G.room 20)
   have y1:=((Ext.refl G).room 20).trans x1
   have w1:=(PW.refl (B:=fun x=>x=b) h).ext y1
   have o1:=(y1.obj b hb).trans ho
   have n1:b<G1.nx:=Nat.lt_of_lt_of_le hb w1.nx
   obtain ⟨aX,G2,e2,w2⟩:=w1.pm.store ae (R.links+i) (j+1)
   have o2:=(w2.keep n1 (by rw [w1.bH.same hb]; exact tb) id).trans o1
   have w12:=w1.trans w2 fun _ _ h=>h.elim
   have w3:=w12.xD (b:=b) rfl hb tb ⟨hL R w i j true false 0 (fj 3),1,false,1⟩
   simp only [show ((2:Nat)=1)=False by simp,if_false,if_true]
   generalize s.store (R.links+i) (j+1)=s' at *
   refine ⟨aX,_,f153 (aq Q ae) _ _ G _ ?_,w3,j,fun h=>absurd h (by decide),by simp⟩
   have e4:(E ae).cl 160 [P0 b,P0 m] G=some (.tuple #[],G2.put b ⟨hL R w i j true false 0 (fj 3),1,false,1⟩):=by
    refine f160 (aq Q ae) _ _ G _ ?_
    simp only [fj] at *
    simp at *
    simp [s160,ho,ha,e1,o1,e2,o2]
   simp only [fj] at *
   simp at *
   simp [s153,e0,ho,e4,eM.over]
  ·obtain ⟨G1,ak⟩:∃ G1,G1=(G.put b ⟨hL R w i j true false 0 (fj 1),1,false,1⟩).room 10:=⟨_,rfl⟩
   have w1:=((PW.refl (B:=fun x=>x=b) h).xD rfl hb tb ⟨hL R w i j true false 0 (fj 1),1,false,1⟩).ext ((Ext.refl _).room 10)
   rw [← ak] at w1
   have o1:G1.obj b=some ⟨hL R w i j true false 0 (fj 1),1,false,1⟩:=by rw [ak]; simp
   have n1:b<G1.nx:=Nat.lt_of_lt_of_le hb w1.nx
   obtain ⟨aX,G2,e2,w2,o2⟩:=abR ae ht w1.pm h3 n1 (by rw [w1.bH.same hb]; exact tb) o1 (k:=i) (by omega)
   have w12:=w1.trans w2 fun _ _ h=>h.elim
   simp only [eM.step]
   generalize s.bM R.top w (qO i w)=s' at *
   cases hc:s'.held with
   | true =>
    have e3:=Sv ae o2 0
    have w4:=(w12.xD (b:=b) rfl hb tb ⟨hL R w i j true true 0 (fj 1),1,false,1⟩).xD (b:=b) rfl hb tb ⟨hL R w i j true true 0 (fj 1),1,false,1⟩
    refine ⟨aX,_,f153 (aq Q ae) _ _ G _ ?_,w4,w,i,j,fj 1,by simp⟩
    have e4:(E ae).cl 163 [P0 b,P0 m] G=some (.tuple #[],(G2.put b ⟨hL R w i j true true 0 (fj 1),1,false,1⟩).put b ⟨hL R w i j true true 0 (fj 1),1,false,1⟩):=by
     refine f163 (aq Q ae) _ _ G _ ?_
     simp only [fj] at *
     simp at *
     simp [s163,ho,← ak,e2,hc,e3]
    simp only [fj] at *
    simp at *
    simp [s153,e0,ho,e4,eM.over,hc]
   | false =>
    refine ⟨aX,G2,f153 (aq Q ae) _ _ G _ ?_,by simpa [hc] using w12,j,fun h=>by simp at h,by simpa using o2⟩
    have e4:(E ae).cl 163 [P0 b,P0 m] G=some (.tuple #[],G2):=by
     refine f163 (aq Q ae) _ _ G _ ?_
     simp only [fj] at *
     simp at *
     simp [s163,ho,← ak,e2,hc]
    simp only [fj] at *
    simp at *
    simp [s153,e0,ho,e4,eM.over,hc,o2]
def xG (R:Sk) (i:Int):eM:=if i<0∨R.size≤i then .done 3 else .go 1 0 i
theorem abU {R:Sk} {i:Int}:(xG R i).ok R:=by
 unfold xG; split
 ·trivial
 ·exact ⟨by decide,by decide,⟨by decide,by decide⟩,by omega,by omega⟩
theorem abV (ae:FuncId→Bool) (R:Sk) (i:Int) (G:GS):∃ b G',(E ae).cl 137 [.agg ⟨[.int .i64 R.top,.int .i64 R.links,.int .i64 R.size]⟩,.int .i64 i] G=some (P0 b,G')∧Ext G G' ∧G.nx≤b∧b<G'.nx∧xF R G' b (xG R i):=by
 obtain ⟨G1,ak⟩:∃ G1,G1=(G.push ⟨[.int .i64 R.top,.int .i64 R.links,.int .i64 R.size],1,false,1⟩).push ⟨hL R 0 i 0 true false 0 (fj 1),1,false,1⟩:=⟨_,rfl⟩
 have o0:G1.obj G.nx=some ⟨[.int .i64 R.top,.int .i64 R.links,.int .i64 R.size],1,false,1⟩:=by rw [ak]; simp
 have o1:G1.obj (G.nx+1)=some ⟨hL R 0 i 0 true false 0 (fj 1),1,false,1⟩:=by rw [ak]; simp
 have n1:G1.nx=G.nx+2:=by rw [ak]; rfl
 have x1:Ext G G1:=by rw [ak]; exact ((Ext.refl G).push _).push _
 have Ks:G1=(G.push ⟨[.int .i64 R.top,.int .i64 R.links,.int .i64 R.size],1,false,1⟩).push ⟨[.int .i64 R.top,.int .i64 R.links,.int .i64 R.size,.int .u64 0,.int .i64 i,.int .i64 0,.bool true,.bool false,.int .i64 0,.func (.func 151) #[] #[]],1,false,1⟩:=ak
 have e3:=Sv ae o1 3
 unfold xG
 by_cases hc:i<0∨R.size≤i
 ·rw [if_pos hc]
  refine ⟨G.nx+1,_,f137 (aq Q ae) _ _ G ((P0 (G.nx+1)),((G1.put (G.nx+1) ⟨hL R 0 i 0 true true 0 (fj 1),1,false,1⟩).put (G.nx+1) ⟨hL R 0 i 0 true true 3 (fj 1),1,false,1⟩)) ?_,(x1.put (by omega) _).put (by omega) _,by omega,by simp; omega,0,i,0,fj 1,by simp⟩
  simp only [fj] at *
  by_cases h1:i<0
  ·simp [s137,h1]
   rw [show (_:GS)=G1 from Ks.symm]
   simp at e3
   simp [e3]
  ·have h2:R.size≤i:=by omega
   simp [s137,h1,h2]
   rw [show (_:GS)=G1 from Ks.symm]
   simp at e3
   simp [e3]
 ·rw [if_neg hc]
  have h1:¬ i<0:=by omega
  have h2:¬ R.size≤i:=by omega
  refine ⟨G.nx+1,G1,f137 (aq Q ae) _ _ G _ ?_,x1,by omega,by omega,0,fun h=>absurd h (by decide),o1⟩
  simp [s137,h1,h2]
  exact Ks.symm
end
section
variable {m r b:Nat} {own ah:Nat→Nat} {G G1:GS} {s s':MS} {R:Sk}
end
def TW.wait (t:TW) (e:Int):Sk:=⟨IntKind.wrap .i64 (t.u12+e % 4294967296 % 3),t.links,t.size⟩
inductive da where
 | looks
 | push (R:Sk) (p:eM)
 | done
def da.over:da→Bool
 | .done=>true
 | _=>false
def da.ok (t:TW):da→Prop
 | .push R p=>R.ok∧p.ok R∧p.over=false
 | _=>True
def da.after (R:Sk) (p:eM):da:=if p.over=true then .done else .push R p
def da.step (t:TW) (i:Int):da→MS→da×MS
 | .looks,s=>(.push (t.wait (s.load t.u9).new) (xG (t.wait (s.load t.u9).new) i),s.load t.u9)
 | .push R p,s=>(da.after R (p.step R s).1,(p.step R s).2)
 | .done,s=>(.done,s)
def TW.gm (t:TW):Prop:=1≤t.size∧t.size≤4096∧0≤t.links∧t.links+t.size≤4096∧0≤t.u12∧t.u12+2<4096
theorem abW {t:TW} (h:t.gm) (e:Int):(t.wait e).ok:=by
 obtain ⟨h1,h2,h3,h4,h5,h6⟩:=h
 have:IntKind.wrap .i64 (t.u12+e % 4294967296 % 3)=t.u12+e % 4294967296 % 3:=wrap64 (by omega) (by omega)
 unfold TW.wait Sk.ok
 simp only [this]
 omega
theorem Kt {R:Sk} {i:Int} (h0:0≤i) (h1:i<R.size):xG R i= .go 1 0 i:=by unfold xG; rw [if_neg (by omega)]
theorem da.ok.step {t:TW} {i:Int} {p:da} {s:MS} (ht:t.gm) (h0:0≤i) (h1:i<t.size) (hp:p.ok t) (hs:s.ok):(p.step t i s).1.ok t∧(p.step t i s).2.ok:=by
 cases p with
 | looks=>exact ⟨⟨abW ht _,abU,by rw [Kt h0 (show i<(t.wait _).size from h1)]; rfl⟩,(hs.load _).1⟩
 | push R p =>
  obtain ⟨h1,h2,h3⟩:=hp
  have:=h2.step h1 hs
  refine ⟨?_,this.2⟩
  unfold da.step da.after
  simp only
  split
  ·trivial
  ·rename_i hz; exact ⟨h1,this.1,by simpa using hz⟩
 | done=>exact ⟨trivial,hs⟩
abbrev pR (t:TW):List Value:=[.int .i64 t.top,.int .i64 t.links,.int .i64 t.size,.int .i64 t.u6,.int .i64 t.u7,.int .i64 t.u8,.int .i64 t.u9,.int .i64 t.u10,.int .i64 t.u11,.int .i64 t.u12]
abbrev sq (t:TW) (next:Value) (i:Int) (p:Value):bK:=⟨[next,.bool true,.int .i64 0,.int .i64 t.top,.int .i64 t.links,.int .i64 t.size,.int .i64 t.u6,.int .i64 t.u7,.int .i64 t.u8,.int .i64 t.u9,.int .i64 t.u10,.int .i64 t.u11,.int .i64 t.u12,.int .i64 i,p],1,false,1⟩
abbrev ub (f:FuncId) (b:Nat):Value:=.func (.func f) #[P0 b] #[]
def pS (own:Nat→Nat) (tag:Nat) (t:TW) (G:GS) (b:Nat) (i:Int):da→Prop
 | .looks=>G.obj b=some (sq t (ub 114 b) i (.pointer none))
 | .push R p=>∃ q,G.obj b=some (sq t (ub 138 b) i (P0 q))∧At own tag G q∧b≠q∧xF R G q p
 | .done=>∃ u,G.obj b=some (sq t .nilFunc i (.pointer u))
section
variable {own own':Nat→Nat} {tag m r b:Nat} {t:TW} {G G':GS} {i:Int} {s:MS}
theorem pS.to {p:da} (h:pS own tag t G b i p) (hb:At own tag G b) (hn:G.nx≤G'.nx) (hk:∀ g,g<G.nx→own g=tag→G'.obj g=G.obj g) (a:bf own own' G):pS own' tag t G' b i p:=by
 cases p with
 | looks=>exact (hk _ hb.lt hb.tag).trans h
 | push R p=>obtain ⟨q,h1,h2,h3,h4⟩:=h; exact ⟨q,(hk _ hb.lt hb.tag).trans h1,h2.to hn a,h3,h4.kept (hk _ h2.lt h2.tag)⟩
 | done=>obtain ⟨u,h⟩:=h; exact ⟨u,(hk _ hb.lt hb.tag).trans h⟩
theorem Sx (ae:FuncId→Bool) (t:TW) (h0:0≤i) (h1:i<t.size) (G:GS):∃ b G',(E ae).cl 94 [.agg ⟨pR t⟩,.int .i64 i] G=some (P0 b,G')∧Ext G G' ∧(G.nx≤b∧b<G'.nx)∧∀ own tag,pS own tag t G' b i .looks:=by
 have a0:¬ i<0:=by omega
 have a1:¬ t.size≤i:=by omega
 have w:Wp (s94 true (bD Q ae) (.agg ⟨pR t⟩) (.int .i64 i) G) fun q=>q=(P0 (G.nx+1),((G.push ⟨pR t,1,false,1⟩).push (sq t .nilFunc i (.pointer none))).put (G.nx+1) (sq t (ub 114 (G.nx+1)) i (.pointer none))):=by
  have hz:z200=[.nilFunc,.bool false,.int .i64 0,.int .i64 0,.int .i64 0,.int .i64 0,.int .i64 0,.int .i64 0,.int .i64 0,.int .i64 0,.int .i64 0,.int .i64 0,.int .i64 0,.int .i64 0,.pointer none]:=rfl
  have pQ:z197=[.nilFunc,.bool false,.int .i64 0]:=rfl
  simp [s94,hz,pQ,ch,cg,gA,a0,a1]
 obtain ⟨q,e,rfl⟩:=w
 refine ⟨G.nx+1,_,f94 (aq Q ae) _ _ G _ e,((((Ext.refl G).push _).push _).put (by omega) _),⟨by omega,by simp⟩,fun own tag=>by simp [pS]⟩
theorem Sy (ae:FuncId→Bool) (t:TW) (n:Int) (G:GS):∃ G',(E ae).cl 98 [.int .i64 n,.agg ⟨pR t⟩] G=some (.agg ⟨[.int .i64 (IntKind.wrap .i64 (t.u12+n)),.int .i64 t.links,.int .i64 t.size]⟩,G')∧Ext G G':=by
 refine ⟨((G.push ⟨pR t,1,false,1⟩).push ⟨[.int .i64 0,.int .i64 0,.int .i64 0],1,false,1⟩).put (G.nx+1) ⟨[.int .i64 (IntKind.wrap .i64 (t.u12+n)),.int .i64 t.links,.int .i64 t.size],1,false,1⟩,f98 (aq Q ae) _ _ G _ ?_,(((Ext.refl G).push _).push _).put (by omega) _⟩
 simp [s98,ch,cg]
end
end Go.Proofs.YtkhlabammcghbaaGreat.Lift
