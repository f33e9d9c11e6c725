import Derived.Test.YtphandknhnkhfaaGreatPB
set_option linter.unusedVariables false
set_option linter.unusedSimpArgs false
set_option maxRecDepth 20000
namespace Go.Proofs.YtphandknhnkhfaaGreat.Lift
open Go Go.Proofs.YtphandknhnkhfaaGreat.Gh Go.Proofs
section
variable {A G:GS} {b l pb lb sb ab tb h:Nat} {L:Int} {T:List Value} {sp:Int×dZ} {t:TW} {tk:Value} {key line lv pred known cur w by_:Int} {TL:List (Int×dZ)}
abbrev jx (tb h:Nat):Value:=.slice (some ⟨tb,0,none⟩) h h
theorem jy (G:GS) (o:aR) {b c:Nat} (h:c≠b):(G.put b o).obj c=G.obj c:=by rw [aT,if_neg h]
inductive Er (A:GS) (b:Nat) (L:Int) (tk:Value) (l pb lb sb ab:Nat) (T:List Value) (o:aR) (k:Nat) (e:Exit) (G:GS):Prop
 | no (sp:Int×dZ):e= .exit 0→¬ (0≤L∧L<k)→r6 A b L tk l pb lb sb ab T sp G→Er A b L tk l pb lb sb ab T o k e G
 | yes:e= .ret→(0≤L∧L<k)→QL A b l T o G→Er A b L tk l pb lb sb ab T o k e G
theorem r6.put (H:r6 A b L tk l pb lb sb ab T sp G) (r:Int×dZ):r6 A b L tk l pb lb sb ab T r (G.put ab ⟨[.int .i64 r.1,.int .i64 r.2.pred,.int .u64 r.2.known,.int .u64 r.2.cur],1,false,1⟩) :=
 ⟨H.ext.put H.Jd.1 _,H.lp,H.nl,H.ll,(jy _ _ (Ne.symm H.d1)).trans H.op,(jy _ _ (Ne.symm H.d2)).trans H.ol,(jy _ _ (Ne.symm H.d3)).trans H.os,by simp,H.cN,H.Ep,H.QK,H.Jd,H.d1,H.d2,H.d3⟩
theorem aas (ae:FuncId→Bool) (hT:T.length=31) (t2:nth undef T 2=P0 pb) (t3:nth undef T 3=P0 lb) (hb:b<A.nx) (ob:A.obj b=some ⟨qK t key line lv pred known cur w (jx tb h) by_,1,false,1⟩) (eJ:tb<A.nx) (ot:A.obj tb=some ⟨jv.flat TL,4,false,1⟩) (pF:TL.length=h) (hh:h≤4) :
  ∀ (k:Nat) (τ:Env) (G:GS) (sp:Int×dZ),k≤h→τ 0= .func (.yield l) #[] #[]→τ 2=P0 sb→τ 4=P0 ab→τ 5= .int .i64 ((k:Int) - 1)→r6 A b L (jx tb h) l pb lb sb ab T sp G→(1≤k→sp.2.pred=(kj TL h (k - 1)).pred∧sp.2.known=(kj TL h (k - 1)).known) →
  Wp ((bA Q ae).du 238 0 τ G) fun q=>Er A b L (jx tb h) l pb lb sb ab T ⟨qK t key 1 L (kj TL h L.toNat).pred (kj TL h L.toNat).known 0 w (jx tb h) by_,1,false,1⟩ k q.1 q.2.2:=by
 intro k
 induction k with
 | zero =>
  intro τ G sp hk t0 Es t4 t5 H g7
  refine Wp.lp (PH (ai Q ae)) ?_
  simp [D0,ao,t0,Es,t4,t5]
  exact .no _ rfl (by omega) H
 | succ k ih =>
  intro τ G sp hk t0 Es t4 t5 H g7
  obtain ⟨s1,s2⟩:=g7 (by omega)
  simp only [Nat.add_sub_cancel] at s1 s2
  have QN:τ 5= .int .i64 (k:Int):=by rw [t5]; congr 1; omega
  have lu:(0:Int)≤k:=by omega
  have oa:=H.oa
  obtain ⟨G4,bR⟩:∃ G4,G4=(G.put ab ⟨[.int .i64 k,.int .i64 sp.2.pred,.int .u64 sp.2.known,.int .u64 sp.2.cur],1,false,1⟩).put ab ⟨[.int .i64 k,.int .i64 sp.2.pred,.int .u64 sp.2.known,.int .u64 0],1,false,1⟩:=⟨_,rfl⟩
  have H4:r6 A b L (jx tb h) l pb lb sb ab T (k,⟨sp.2.pred,sp.2.known,0⟩) G4:=by rw [bR]; exact (H.put (k,⟨sp.2.pred,sp.2.known,sp.2.cur⟩)).put (k,⟨sp.2.pred,sp.2.known,0⟩)
  have Je:=H4.oa
  simp only at Je
  have Et:k<h:=by omega
  have aat:(k:Int)<h:=by omega
  have hw:IntKind.wrap .i64 ((k:Int) - 1)=(k:Int) - 1:=wrap64 (by omega) (by omega)
  refine Wp.lp (PH (ai Q ae)) ?_
  by_cases hL:(k:Int)=L
  ·subst hL
   obtain ⟨⟨_,G5⟩,e5,rfl,F5⟩:=aar ae hT t2 t3 rfl hb ob H4 ((k:Int),⟨sp.2.pred,sp.2.known,0⟩)
   simp only at e5 F5
   simp [-Int.natCast_add,D0,ao,t0,Es,t4,QN,oa,← bR,Je,e5]
   rw [s1,s2] at F5
   exact .yes rfl (by omega) F5
  ·obtain ⟨⟨_,G5⟩,e5,rfl,H5⟩:=aaq ae hT t2 t3 H4 hL ((k:Int),⟨sp.2.pred,sp.2.known,0⟩)
   simp only at e5 H5
   have Jf:=H5.os
   have oa5:=H5.oa
   have ot5:=(H5.ext.obj tb eJ).trans ot
   have aJ:=Nat.lt_of_lt_of_le eJ H5.ext.nx
   have hi:k<TL.length:=by omega
   have e6:=Ed (e:=jv) ot5 aJ hi
   simp only [BQ,BR] at e6
   have vh:jY 4 ab 0 (.agg ⟨[.int .i64 TL[k].1,.int .i64 TL[k].2.pred,.int .u64 TL[k].2.known,.int .u64 TL[k].2.cur]⟩) G5=some (G5.put ab ⟨[.int .i64 TL[k].1,.int .i64 TL[k].2.pred,.int .u64 TL[k].2.known,.int .u64 TL[k].2.cur],1,false,1⟩):=by
    simp [oa5,bQ,bO]
   have iJ:jY 1 ab 0 (.int .i64 k) G=some (G.put ab ⟨[.int .i64 k,.int .i64 sp.2.pred,.int .u64 sp.2.known,.int .u64 sp.2.cur],1,false,1⟩):=by simp [oa]
   have wi:jY 1 ab 3 (.int .u64 0) (G.put ab ⟨[.int .i64 k,.int .i64 sp.2.pred,.int .u64 sp.2.known,.int .u64 sp.2.cur],1,false,1⟩)=some G4:=by rw [bR]; simp
   have Aq:eI 4 ab 0 G4=some (.agg ⟨[.int .i64 k,.int .i64 sp.2.pred,.int .u64 sp.2.known,.int .u64 0]⟩):=by simp [Je]
   have I8:G5.cell sb 0=some (jx tb h):=by simp [Jf]
   simp [-Int.natCast_add,-iw,-BI,-iv,D0,ao,t0,Es,t4,QN,iJ,wi,Aq,I8,e5,Et,aat,lu,e6,vh,hw]
   refine Wp.mono (ih _ _ (TL[k]) (by omega) ?_ ?_ ?_ ?_ (H5.put TL[k]) ?_) fun q hq=>?_
   ·simp [ao]
   ·simp [ao]
   ·simp [ao]
   ·simp [ao]
   ·intro h1
    have:¬ k=h:=by omega
    have iI:k - 1+1=k:=by omega
    simp [kj,iI,this,hi]
   ·rcases hq with ⟨Jg,r1,r2,r3⟩ | ⟨r1,r2,r3⟩
    ·exact .no Jg r1 (by omega) r3
    ·exact .yes r1 (by omega) r3
end
section
variable {G:GS} {b tb h:Nat} {L:Int} {t:TW} {key line lv pred known cur w by_:Int} {TL:List (Int×dZ)}
abbrev vz (t:TW) (key line l pred known cur w:Int) (tb h:Nat) (by_:Int):aR:=⟨qK t key line l pred known cur w (jx tb h) by_,1,false,1⟩
theorem QO (ae:FuncId→Bool) (hb:b<G.nx) (ob:G.obj b=some (vz t key line lv pred known cur w tb h by_)) (eJ:tb<G.nx) (ot:G.obj tb=some ⟨jv.flat TL,4,false,1⟩) (pF:TL.length=h) (dP:t.ay=h) (h1:1≤h) (hh:h≤4) (hL:-1≤L∧L<h) :
  ∃ G',(E ae).cl 230 [P0 b,.int .i64 L] G=some (.tuple #[],G')∧bG (fun g=>g=b) G G' ∧G'.obj b=some (if L<0 then vz t key 9 lv pred known cur w tb h by_ else vz t key 1 L (kj TL h L.toNat).pred (kj TL h L.toNat).known 0 w tb h by_):=by
 obtain ⟨G1,aj⟩:∃ G1,G1=((G.push ⟨[P0 b],1,false,1⟩).push ⟨[.int .i64 L],1,false,1⟩).room 10:=⟨_,rfl⟩
 have x1:Ext G G1:=by rw [aj]; exact (((Ext.refl G).push _).push _).room 10
 have n1:G1.nx=G.nx+12:=by rw [aj]; rfl
 have p1:G1.obj G.nx=some ⟨[P0 b],1,false,1⟩:=by rw [aj]; simp
 have q1:G1.obj (G.nx+1)=some ⟨[.int .i64 L],1,false,1⟩:=by rw [aj]; simp
 have dq:=(x1.obj b hb).trans ob
 have aau:(E ae).cl 234 [.int .i64 h,jx tb h] G1=some (.func (.func 238) #[] #[P0 G1.nx,P0 (G1.nx+1)],(G1.push ⟨[.int .i64 h],1,false,1⟩).push ⟨[jx tb h],1,false,1⟩):=by
  refine f234 (ai Q ae) _ _ G1 _ ?_
  simp [s234]
 have wW:Wp (s230 true (bA Q ae) (P0 b) (.int .i64 L) G) fun q=>q.1= .tuple #[]∧bG (fun g=>g=b) G q.2∧q.2.obj b=some (if L<0 then vz t key 9 lv pred known cur w tb h by_ else vz t key 1 L (kj TL h L.toNat).pred (kj TL h L.toNat).known 0 w tb h by_):=by
  have d1:¬ G.nx=b:=by omega
  simp [-Int.natCast_add,s230,← aj,p1,dq,dP,aau]
  generalize vA:aN 31 (tu (nth undef _) _)=T
  have hT:T.length=31:=by rw [← vA]; exact DR 31 _
  have t2:nth undef T 2=P0 G.nx:=by rw [← vA,vo]; simp [ao]
  have t3:nth undef T 3=P0 (G.nx+1):=by rw [← vA,vo]; simp [ao]
  clear vA
  obtain ⟨G5,dE⟩:∃ G5,G5=((G1.push ⟨[.int .i64 h],1,false,1⟩).push ⟨[jx tb h],1,false,1⟩).fD (oG T):=⟨_,rfl⟩
  have Jh:Ext G1 G5:=by rw [dE]; exact (((Ext.refl G1).push _).push _).fD _
  have x5:=x1.trans Jh
  have n5:G5.nx=G1.nx+2:=by rw [dE]; rfl
  have l5:G5.loop G1.nl=some (oG T):=by rw [dE]; simp
  have nl5:G5.nl=G1.nl+1:=by rw [dE]; rfl
  have QP:G5.obj G1.nx=some ⟨[.int .i64 h],1,false,1⟩:=by rw [dE]; simp
  have Jf:G5.obj (G1.nx+1)=some ⟨[jx tb h],1,false,1⟩:=by rw [dE]; simp
  obtain ⟨G6,eg⟩:∃ G6,G6=(G5.push ⟨z373,1,false,1⟩).put G5.nx ⟨[.int .i64 0,.int .i64 (-1),.int .u64 0,.int .u64 0],1,false,1⟩:=⟨_,rfl⟩
  have xm:Ext G5 G6:=by rw [eg]; exact ((Ext.refl G5).push _).put (Nat.le_refl _) _
  have x6:=x5.trans xm
  have n6:G6.nx=G5.nx+1:=by rw [eg]; rfl
  have oa6:G6.obj G5.nx=some ⟨[.int .i64 0,.int .i64 (-1),.int .u64 0,.int .u64 0],1,false,1⟩:=by rw [eg]; simp
  have oh6:=(xm.obj _ (by omega)).trans QP
  have H6:r6 G b L (jx tb h) G1.nl G.nx (G.nx+1) (G1.nx+1) G5.nx T (0,⟨-1,0,0⟩) G6:=⟨x6,(xm.loop _ (by omega)).trans l5,x1.nl,by have:=xm.nl; omega,((Jh.trans xm).obj _ (by omega)).trans p1,((Jh.trans xm).obj _ (by omega)).trans q1,(xm.obj _ (by omega)).trans Jf,oa6,by omega,by omega,by omega,by omega,by omega,by omega,by omega⟩
  have hz:z373=[.int .i64 0,.int .i64 0,.int .u64 0,.int .u64 0]:=rfl
  have hw:IntKind.wrap .i64 ((h:Int) - 1)=(h:Int) - 1:=wrap64 (by omega) (by omega)
  have wl:Wp (s238 true (bA Q ae) (.func (.yield G1.nl) #[] #[]) (P0 G1.nx) (P0 (G1.nx+1)) G5) fun q=>q.1= .tuple #[]∧∃ e,Er G b L (jx tb h) G1.nl G.nx (G.nx+1) (G1.nx+1) G5.nx T (vz t key 1 L (kj TL h L.toNat).pred (kj TL h L.toNat).known 0 w tb h by_) h e q.2:=by
   have QQ:=eg
   rw [hz] at QQ
   have az:¬ G1.nx=G5.nx:=by omega
   have g7:1≤h→((0,⟨-1,0,0⟩):Int×dZ).2.pred=(kj TL h (h - 1)).pred∧((0,⟨-1,0,0⟩):Int×dZ).2.known=(kj TL h (h - 1)).known:=fun _=>by
    have:h - 1+1=h:=by omega
    simp [kj,this]
   simp [-Int.natCast_add,s238,bQ,bO,hz,← QQ,QP,oh6,az,hw]
   refine Wp.bE ((aas ae hT t2 t3 hb ob eJ ot pF hh h _ G6 _ (Nat.le_refl _) (by simp [ao]) (by simp [ao]) (by simp [ao]) (by simp [ao]) H6 g7).mono ?_)
   rintro ⟨e,τ,G'⟩ hE
   simp only at hE
   have Dq:=hE
   rcases hE with ⟨Jg,rfl,r2,r3⟩ | ⟨rfl,r2,r3⟩
   ·simp; exact ⟨_,Dq⟩
   ·simp; exact ⟨_,Dq⟩
  obtain ⟨⟨v,G7⟩,e7,rfl,e,h7⟩:=wl
  have e7':=f238 (ai Q ae) _ _ _ G5 _ e7
  rw [← dE]
  simp only [List.nil_append,List.singleton_append,List.cons_append,e7']
  rcases h7 with ⟨Jg,rfl,r2,r3⟩ | ⟨rfl,r2,r3⟩
  ·have hn:L<0:=by omega
   rw [HM G1.nl T _ G7 r3.lp (by simp) rfl]
   have o1:=r3.op
   have o2:=(r3.ext.obj b hb).trans ob
   simp [t2,o1,o2,hn]
   exact (((r3.ext.cC x1.nl _).rW (fun g=>g=b)).put (.inl rfl) _)
  ·have hn:¬ L<0:=by omega
   rw [HM G1.nl T _ G7 r3.lp (by simp) rfl]
   have o1:=r3.ob
   simp [t2,hn,o1]
   exact r3.mod.cC x1.nl _
 obtain ⟨⟨v,G'⟩,e1,rfl,m,o⟩:=wW
 exact ⟨G',f230 (ai Q ae) _ _ G _ e1,m,o⟩
theorem QR (ae:FuncId→Bool) (ht:ae 187=false) {v:Int} (hv:U v) (hb:b<G.nx) (ob:G.obj b=some (vz t key line lv pred known cur w tb h by_)):∃ G',(E ae).cl 287 [P0 b,.int .u64 v] G=some (.int .i64 (aH t.size v),G')∧Ext G G':=by
 obtain ⟨G1,e1,x1⟩:=BK ae ht hv G
 have n1:=x1.nx
 have dq:=(x1.obj b hb).trans ob
 obtain ⟨G2,aD⟩:∃ G2,G2=((G1.push ⟨z281,1,false,1⟩).put G1.nx ⟨[.int .i64 (v % 65536 - 1),.int .i64 (v / 65536)],1,false,1⟩):=⟨_,rfl⟩
 have x2:Ext G G2:=by rw [aD]; exact (x1.push _).put n1 _
 have p2:G2.obj G1.nx=some ⟨[.int .i64 (v % 65536 - 1),.int .i64 (v / 65536)],1,false,1⟩:=by rw [aD]; simp
 have eA:=(x2.obj b hb).trans ob
 refine ⟨G2.room 11,f287 (ai Q ae) _ _ G _ ?_,x2.room 11⟩
 unfold aH
 by_cases hc:t.size≤v % 65536 - 1
 ·simp [s287,e1,bQ,bO,← aD,p2,eA,hc]
 ·simp [s287,e1,bQ,bO,← aD,p2,eA,hc]
end
abbrev kS (T:TW) (x:au) (tb:Nat):aR:=vz T x.key x.line x.l x.at_.pred x.at_.known x.at_.cur x.w tb T.ay.toNat x.by_
def ej (T:TW) (G:GS) (b tb:Nat) (x:au):Prop:=∃ TL:List (Int×dZ),G.obj b=some (kS T x tb)∧G.obj tb=some ⟨jv.flat TL,4,false,1⟩∧TL.map (·.2)=x.told
section
variable {T:TW} {G G':GS} {b tb:Nat} {x y:au}
theorem ej.kept (h:ej T G b tb x) (k1:G'.obj b=G.obj b) (k2:G'.obj tb=G.obj tb):ej T G' b tb x:=let ⟨TL,h1,h2,h3⟩:=h; ⟨TL,k1.trans h1,k2.trans h2,h3⟩
theorem ej.ext (h:ej T G b tb x) (hb:b<G.nx) (ht:tb<G.nx) (e:Ext G G'):ej T G' b tb x:=h.kept (e.obj b hb) (e.obj tb ht)
theorem ej.ob (h:ej T G b tb x):G.obj b=some (kS T x tb):=let ⟨_,h1,_⟩:=h; h1
theorem ej.put (h:ej T G b tb x) (az:b≠tb) (y:au) (hy:y.told=x.told):ej T (G.put b (kS T y tb)) b tb y:=by
 obtain ⟨TL,h1,h2,h3⟩:=h
 exact ⟨TL,by rw [aT,if_pos rfl],(jy _ _ az.symm).trans h2,h3.trans hy.symm⟩
theorem zj (hs:T.sound):T.ay=(T.ay.toNat:Int)∧1≤T.ay.toNat∧T.ay.toNat≤4:=by have:=hs.1; have:=hs.2.1; omega
theorem Ji (ae:FuncId→Bool) (hs:T.sound) (h:ej T G b tb x) (az:b≠tb) (hb:b<G.nx) (ht:tb<G.nx) (hl:x.told.length=T.ay.toNat):∃ G',(E ae).cl 222 [P0 b] G=some (.tuple #[],G')∧bG (fun g=>g=b) G G' ∧ej T G' b tb (x.anew T):=by
 obtain ⟨TL,h1,h2,h3⟩:=h
 obtain ⟨e1,e2,e3⟩:=zj hs
 have pF:TL.length=T.ay.toNat:=by rw [← hl,← h3]; simp
 have hw:IntKind.wrap .i64 (T.ay - 1)=T.ay - 1:=wrap64 (by omega) (by omega)
 obtain ⟨G1,k1,k2,k3⟩:=QO ae (L:=T.ay - 1) hb h1 ht h2 pF e1 e2 e3 (by omega)
 rw [if_neg (by omega)] at k3
 have g7:kj TL T.ay.toNat (T.ay - 1).toNat=⟨-1,0,0⟩:=by
  unfold kj
  rw [if_pos (by omega)]
 rw [g7] at k3
 refine ⟨G1,f222 (ai Q ae) _ G _ ?_,k2,TL,k3,(k2.obj tb ht (fun e=>az e.symm)).trans h2,h3⟩
 simp [s222,h1,hw,k1]
theorem QS (ae:FuncId→Bool) (hs:T.sound) (h:ej T G b tb x) (az:b≠tb) (hb:b<G.nx) (ht:tb<G.nx) (hl:x.told.length=T.ay.toNat) (Jj:0≤x.l∧x.l<T.ay):∃ G',(E ae).cl 288 [P0 b] G=some (.tuple #[],G')∧bG (fun g=>g=b∨g=tb) G G' ∧ej T G' b tb x.tell:=by
 obtain ⟨TL,h1,h2,h3⟩:=h
 obtain ⟨e1,e2,e3⟩:=zj hs
 have pF:TL.length=T.ay.toNat:=by rw [← hl,← h3]; simp
 obtain ⟨n,hn⟩:=Int.eq_ofNat_of_zero_le Jj.1
 have oe:n<TL.length:=by omega
 have hnh:n<T.ay.toNat:=by omega
 obtain ⟨H,hH⟩:∃ H,H=T.ay.toNat:=⟨_,rfl⟩
 have hnH:n<H:=by omega
 have aav:(n:Int)<H:=by omega
 have iU:(0:Int)≤n:=by omega
 have ax:=Zr (e:=jv) (ez:=4) (op:=false) (G:=G.room 15) (b:=tb) (L:=TL) (by simpa using h2) oe ((n:Int),x.at_)
 simp only [BQ,BR] at ax
 obtain ⟨G1,aj⟩:∃ G1,G1=(G.room 15).put tb ⟨jv.flat (TL.set n ((n:Int),x.at_)),4,false,1⟩:=⟨_,rfl⟩
 have m1:bG (fun g=>g=b∨g=tb) G G1:=by rw [aj]; exact ((bG.refl _ G).room 15).put (.inl (.inr rfl)) _
 have o1:G1.obj b=some (kS T x tb):=by rw [aj,jy _ _ az]; simpa using h1
 have p1:G1.obj tb=some ⟨jv.flat (TL.set n ((n:Int),x.at_)),4,false,1⟩:=by rw [aj]; simp
 have n1:G.nx≤G1.nx:=m1.nx
 have aaw:(TL.set n ((n:Int),x.at_)).length=T.ay.toNat:=by simpa using pF
 have hw:IntKind.wrap .i64 ((n:Int) - 1)=(n:Int) - 1:=wrap64 (by omega) (by omega)
 obtain ⟨G2,k1,k2,k3⟩:=QO ae (L:=(n:Int) - 1) (Nat.lt_of_lt_of_le hb n1) o1 (Nat.lt_of_lt_of_le ht n1) p1 aaw e1 e2 e3 (by omega)
 have p2:=(k2.obj tb (Nat.lt_of_lt_of_le ht n1) (fun e=>az e.symm)).trans p1
 have aax:bG (fun g=>g=b∨g=tb) G G2:=m1.trans (k2.mono fun g hg=>.inl (.inl hg))
 refine ⟨G2,f288 (ai Q ae) _ G _ ?_,aax,TL.set n ((n:Int),x.at_),?_,?_,?_⟩
 ·unfold kS at h1 o1
  rw [← hH] at h1 o1
  simp [-Int.natCast_add,-iw,-BI,s288,h1,hn,hnH,aav,iU,IQ,ax,← aj,o1,hw,k1]
 ·rw [k3]
  unfold au.tell
  by_cases h0:n=0
  ·rw [if_pos (by omega),if_pos (by omega)]
  ·rw [if_neg (by omega),if_neg (by omega)]
   have iJ:kj (TL.set n ((n:Int),x.at_)) T.ay.toNat ((n:Int) - 1).toNat=⟨x.at_.pred,x.at_.known,0⟩:=by
    have a1:((n:Int) - 1).toNat+1=n:=by omega
    unfold kj
    rw [if_neg (by omega),a1]
    simp [oe]
   rw [iJ,hn]
 ·rw [p2]
 ·unfold au.tell
  have QT:(TL.set n ((n:Int),x.at_)).map (·.2)=x.told.set n x.at_:=by rw [List.map_set,h3]
  have hx:x.l.toNat=n:=by omega
  split
  ·rw [QT,hx]
  ·rw [QT,hx]
theorem Jk (ae:FuncId→Bool) (bD:ae 187=false) (hs:T.sound) (h:ej T G b tb x) (az:b≠tb) (hb:b<G.nx) (ht:tb<G.nx) (hl:x.told.length=T.ay.toNat) (Jj:0≤x.l∧x.l<T.ay) (hc:U x.at_.cur):∃ G',(E ae).cl 289 [P0 b] G=some (.tuple #[],G')∧bG (fun g=>g=b∨g=tb) G G' ∧ej T G' b tb (x.looks T):=by
 have ob:=h.ob
 obtain ⟨G1,aj⟩:∃ G1,G1=G.put b (kS T { x with line:=2 } tb):=⟨_,rfl⟩
 have h1:ej T G1 b tb { x with line:=2 }:=by rw [aj]; exact h.put az { x with line:=2 } rfl
 have n1:G1.nx=G.nx:=by rw [aj]; rfl
 have o1:=h1.ob
 have m1:bG (fun g=>g=b∨g=tb) G G1:=by rw [aj]; exact (bG.refl _ G).put (.inl (.inl rfl)) _
 obtain ⟨G2,e2,x2⟩:=QR ae bD hc (by omega) o1
 have h2:=h1.ext (by omega) (by omega) x2
 have m2:bG (fun g=>g=b∨g=tb) G G2:=m1.trans (x2.rW _)
 have n2:=x2.nx
 unfold au.looks
 by_cases hi:aH T.size x.at_.cur<0
 ·rw [if_pos hi]
  obtain ⟨G3,e3,m3,h3⟩:=QS ae hs h2 az (by omega) (by omega) hl Jj
  refine ⟨G3,f289 (ai Q ae) _ G _ ?_,m2.trans (m3.mono fun g hg=>.inl hg),h3⟩
  simp [s289,ob,← aj,o1,e2,hi,e3]
 ·rw [if_neg hi]
  refine ⟨G2,f289 (ai Q ae) _ G _ ?_,m2,h2⟩
  simp [s289,ob,← aj,o1,e2,hi]
end
section
variable {T:TW} {x:au} {s:MS}
theorem au.QU (hs:T.sound) (h1:0≤x.l∧x.l<T.ay) (h2:x.told.length=T.ay.toNat) (h3:-1≤x.at_.pred∧x.at_.pred<T.size) (h4:U x.at_.known) (h5:U x.at_.cur) (h6:U x.w) (h7:U x.by_):x.tell.ok T:=by
 unfold au.tell
 split
 ·exact ⟨by simp,h1,by simpa using h2,h3,h4,h5,by simp,h6,by simp,h7⟩
 ·refine ⟨by simp,?_,by simpa using h2,h3,h4,dJ,by simp,h6,by simp,h7⟩
  simp only; omega
theorem au.Jl (hs:T.sound) (h1:0≤x.l∧x.l<T.ay) (h2:x.told.length=T.ay.toNat) (h3:-1≤x.at_.pred∧x.at_.pred<T.size) (h4:U x.at_.known) (h5:U x.at_.cur) (h6:U x.w) (h7:U x.by_):(x.looks T).ok T:=by
 unfold au.looks
 split
 ·exact au.QU (x:={ x with line:=2 }) hs h1 h2 h3 h4 h5 h6 h7
 ·rename_i hi
  exact ⟨by simp,h1,h2,h3,h4,h5,fun _=>by simp only; omega,h6,by simp,h7⟩
theorem au.Jm (hs:T.sound) (h2:x.told.length=T.ay.toNat) (h6:U x.w) (h7:U x.by_):(x.anew T).ok T:=by
 have:=hs.1; have:=hs.2.2.1
 exact ⟨by simp [au.anew],by simp only [au.anew]; omega,h2,by simp only [au.anew]; omega,dJ,dJ,by simp [au.anew],h6,by simp [au.anew],h7⟩
theorem Eu {w:Int} (h:U w) (hm:bp≤w):U (w - bp):=by have:=h.2; have:=h.1; unfold bp at *; unfold U; omega
theorem au.ok.step (hs:T.sound) (h:x.ok T) (hm:s.ok):(x.step T s).1.ok T∧(x.step T s).2.ok:=by
 obtain ⟨l1,l2,l3,l4,l5,l6,l7,l8,l9,l10⟩:=h
 unfold au.step
 simp only
 split
 ·exact ⟨⟨l1,l2,l3,l4,l5,l6,l7,l8,l9,l10⟩,hm⟩
 split
 ·rename_i h2
  have hl:=hm.load (aX T (aH T.size x.at_.cur) x.l)
  refine ⟨⟨by simp only; split<;>simp,l2,l3,l4,l5,l6,fun _=>l7 (.inl h2),hl.2,?_,l6⟩,hl.1⟩
  simp only
  split<;>simp<;>omega
 split
 ·rename_i h3
  have hu:=Eu l8 (l9.1 h3)
  have hc:=hm.bT (aX T x.at_.pred x.l) x.at_.cur hu
  split
  ·exact ⟨au.Jl hs l2 l3 l4 l5 hu l8 l5,hc⟩
  ·exact ⟨au.Jm hs l3 l8 l5,hc⟩
 split
 ·rename_i h4
  have hl:=hm.load (aB T (aH T.size x.at_.cur) 0)
  split
  ·exact ⟨au.QU hs l2 l3 l4 l5 l6 l8 l6,hl.1⟩
  ·refine ⟨au.Jl hs l2 l3 ?_ l6 l8 l8 l6,hl.1⟩
   exact ⟨BL,BM (by have:=hs.2.2.1; omega)⟩
 ·have hl:=hm.load (aX T x.at_.pred x.l)
  split
  ·exact ⟨au.Jm hs l3 l8 l5,hl.1⟩
  ·exact ⟨au.Jl hs l2 l3 l4 l5 hl.2 l8 l5,hl.1⟩
end
theorem aay {w:Int} (h0:9223372036854775808≤w) (h1:w<18446744073709551616):HK .u64 w 9223372036854775808=w - 9223372036854775808:=by
 obtain ⟨n,rfl⟩:=Int.eq_ofNat_of_zero_le (show 0≤w by omega)
 show IntKind.wrap .u64 (((BitVec.ofInt 64 (n:Int) &&& ~~~ BitVec.ofInt 64 9223372036854775808).toNat:Nat):Int)=_
 have e1:BitVec.ofInt 64 (n:Int)=BitVec.ofNat 64 n:=BitVec.ofInt_natCast ..
 have e2:BitVec.ofInt 64 9223372036854775808=BitVec.ofNat 64 9223372036854775808:=by decide
 have e3:(BitVec.ofNat 64 n &&& ~~~ BitVec.ofNat 64 9223372036854775808).toNat=n - 9223372036854775808:=by
  have e4: ~~~ BitVec.ofNat 64 9223372036854775808=BitVec.ofNat 64 (2 ^ 63 - 1):=by decide
  rw [e4]
  simp only [BitVec.toNat_and,BitVec.toNat_ofNat]
  rw [Nat.mod_eq_of_lt (show n<2 ^ 64 by omega),Nat.mod_eq_of_lt (show 2 ^ 63 - 1<2 ^ 64 by decide),Nat.and_two_pow_sub_one_eq_mod]
  omega
 rw [e1,e2,e3,wrap_u64]
 omega
theorem Jn (ae:FuncId→Bool) {w:Int} (h:U w) (hm:bp≤w) (G:GS):(E ae).cl 212 [.int .u64 w,.bool false] G=some (.int .u64 (w - 9223372036854775808),G):=by
 refine f212 (ai Q ae) _ _ G _ ?_
 simp [s212,aay (show 9223372036854775808≤w from hm) h.2]
def aaz (T:TW) (own0:Nat→Nat) (G0:GS) (tag m b tb:Nat) (r:au×MS) (q:Exit×Env×GS):Prop:=q.1= .exit 0∧q.2.1 0=P0 b∧∃ ah,PW (Own own0 tag) own0 G0 ah q.2.2 m r.2∧ej T q.2.2 b tb r.1
section
variable {T:TW} {x:au} {s:MS} {own own0:Nat→Nat} {G G0:GS} {tag m b tb:Nat}
theorem At.keep (h:At own tag G b) (ht:tag≠10) {ah:Nat→Nat} {G1:GS} {s':MS} (w:PW no own G ah G1 m s'):G1.obj b=G.obj b:=w.keep h.lt (by rw [h.tag]; exact ht) id
set_option maxHeartbeats 1000000 in
theorem aaA (ae:FuncId→Bool) (bD:ae 187=false) (hs:T.sound) (hm:s.ok) (hx:x.ok T) (h9:x.line≠9) (ht:tag≠10) (az:b≠tb) (w:PW (Own own0 tag) own0 G0 own G m s) (hb:At own tag G b) (eJ:At own tag G tb) (hF:ej T G b tb { x with by_:=x.at_.known }) {τ:Env} (t0:τ 0=P0 b) (t1:τ 1=P0 m) (t5:τ 5= .int .i64 (aX T x.at_.pred x.l)) (t6:τ 6= .int .i64 (aH T.size x.at_.cur)) :
  Wp ((bA Q ae).du 283 0 τ G) (aaz T own0 G0 tag m b tb (x.step T s)):=by
 obtain ⟨l1,l2,l3,l4,l5,l6,l7,l8,l9,l10⟩:=hx
 have ob:=hF.ob
 refine Wp.lp (Zn (ai Q ae)) ?_
 have vB:∀ {ah:Nat→Nat} {G1 G2:GS},At ah tag G1 b→At ah tag G1 tb→bG (fun g=>g=b∨g=tb) G1 G2→bG (Own ah tag) G1 G2:=fun h1 h2 q=>q.mono fun g hg=>hg.elim (fun e=>by rw [e]; exact h1.tag) fun e=>by rw [e]; exact h2.tag
 rcases l1 with h1 | h2 | h3 | h4 | h9'
 ·-- line 1
  have ax:x.step T s=(if bp≤(s.load (aX T x.at_.pred x.l)).new then (({ x with by_:=x.at_.known,at_:={ x.at_ with cur:=(s.load (aX T x.at_.pred x.l)).new } }:au).anew T,s.load (aX T x.at_.pred x.l)) else (({ x with by_:=x.at_.known,at_:={ x.at_ with cur:=(s.load (aX T x.at_.pred x.l)).new } }:au).looks T,s.load (aX T x.at_.pred x.l))):=by
   unfold au.step; simp only; rw [if_neg (by omega),if_neg (by omega),if_neg (by omega),if_neg (by omega)]
  rw [ax]
  have hl:=(hm.load (aX T x.at_.pred x.l)).2
  obtain ⟨ah,G1,e1,w1⟩:=w.pm.load ae (aX T x.at_.pred x.l)
  generalize s.load (aX T x.at_.pred x.l)=s' at *
  generalize s'.new=v at *
  have kb:=hb.keep ht w1
  have ktb:=eJ.keep ht w1
  have dL:=hF.kept kb ktb
  have eQ:=w.tr w1.any
  have bM:=hb.to w1.nx w1.aO.cd
  have qL:=eJ.to w1.nx w1.aO.cd
  have dq:=dL.ob
  obtain ⟨G2,aD⟩:∃ G2,G2=G1.put b (kS T { x with line:=1,by_:=x.at_.known,at_:={ x.at_ with cur:=v } } tb):=⟨_,rfl⟩
  have pG:ej T G2 b tb { x with line:=1,by_:=x.at_.known,at_:={ x.at_ with cur:=v } }:=by rw [aD]; exact dL.put az _ rfl
  have w2:PW (Own own0 tag) own0 G0 ah G2 m s':=by rw [aD]; exact eQ.bf bM.tag ht _
  have dy:At ah tag G2 b:=by rw [aD]; exact ⟨bM.lt,bM.tag⟩
  have oH:At ah tag G2 tb:=by rw [aD]; exact ⟨qL.lt,qL.tag⟩
  have eA:=pG.ob
  have e3:=xl ae hl G2
  by_cases hv:bp≤v
  ·rw [if_pos hv]
   have rB:9223372036854775808≤v:=hv
   obtain ⟨G3,e4,m3,jz⟩:=Ji ae hs pG az dy.lt oH.lt l3
   simp [pz,ao,t0,t1,t5,t6,ob,h1,e1,dq,← aD,eA,e3,rB,e4]
   exact ⟨rfl,by simp [ao],_,w2.qI (vB dy oH (m3.mono fun g hg=>.inl hg)) ht tag,jz⟩
  ·rw [if_neg hv]
   have rB:¬ 9223372036854775808≤v:=hv
   obtain ⟨G3,e4,m3,jz⟩:=Jk ae bD hs pG az dy.lt oH.lt l3 l2 hl
   simp [pz,ao,t0,t1,t5,t6,ob,h1,e1,dq,← aD,eA,e3,rB,e4]
   exact ⟨rfl,by simp [ao],_,w2.qI (vB dy oH m3) ht tag,jz⟩
 ·-- line 2
  have ax:x.step T s=({ x with by_:=x.at_.cur,w:=(s.load (aX T (aH T.size x.at_.cur) x.l)).new,line:=if bp≤(s.load (aX T (aH T.size x.at_.cur) x.l)).new then 3 else 4 },s.load (aX T (aH T.size x.at_.cur) x.l)):=by
   unfold au.step; simp only; rw [if_neg (by omega),if_pos h2]
  rw [ax]
  have hl:=(hm.load (aX T (aH T.size x.at_.cur) x.l)).2
  obtain ⟨G1,aj⟩:∃ G1,G1=G.put b (kS T { x with line:=2,by_:=x.at_.cur } tb):=⟨_,rfl⟩
  have dL:ej T G1 b tb { x with line:=2,by_:=x.at_.cur }:=by rw [aj]; exact hF.put az _ rfl
  have w1:PW (Own own0 tag) own0 G0 own G1 m s:=by rw [aj]; exact w.bf hb.tag ht _
  have bM:At own tag G1 b:=by rw [aj]; exact ⟨hb.lt,hb.tag⟩
  have qL:At own tag G1 tb:=by rw [aj]; exact ⟨eJ.lt,eJ.tag⟩
  have dq:=dL.ob
  obtain ⟨G2,e2,x2⟩:=rZ ae T (aH T.size x.at_.cur) x.l (G1.room 17)
  have y2:=((Ext.refl G1).room 17).trans x2
  have pG:=dL.ext bM.lt qL.lt y2
  have w2:=w1.de y2 tag
  have dy:=bM.gO y2 tag
  have oH:=qL.gO y2 tag
  have eA:=pG.ob
  generalize grown own G1 tag=aG at *
  obtain ⟨bB,G3,e3,w3⟩:=w2.pm.load ae (aX T (aH T.size x.at_.cur) x.l)
  generalize s.load (aX T (aH T.size x.at_.cur) x.l)=s' at *
  generalize s'.new=v at *
  have jz:=pG.kept (dy.keep ht w3) (oH.keep ht w3)
  have fq:=w2.tr w3.any
  have gy:=dy.to w3.nx w3.aO.cd
  have pI:=oH.to w3.nx w3.aO.cd
  have g9:=jz.ob
  obtain ⟨G4,bR⟩:∃ G4,G4=(G3.put b (kS T { x with line:=2,by_:=x.at_.cur,w:=v } tb)).put b (kS T { x with line:=4,by_:=x.at_.cur,w:=v } tb):=⟨_,rfl⟩
  have oI:ej T G4 b tb { x with line:=4,by_:=x.at_.cur,w:=v }:=by rw [bR]; exact (jz.put az { x with line:=2,by_:=x.at_.cur,w:=v } rfl).put az _ rfl
  have w4:PW (Own own0 tag) own0 G0 bB G4 m s':=by rw [bR]; exact (fq.bf gy.tag ht _).bf gy.tag ht _
  have vC:=oI.ob
  have e5:=xl ae hl G4
  by_cases hv:bp≤v
  ·have rB:9223372036854775808≤v:=hv
   have BT:=oI.put az { x with line:=3,by_:=x.at_.cur,w:=v } rfl
   simp [pz,ao,t0,t1,t5,t6,ob,h2,← aj,dq,e2,eA,e3,g9,← bR,vC,e5,rB]
   exact ⟨rfl,by simp [ao],_,w4.bf gy.tag ht _,by simpa [hv] using BT⟩
  ·have rB:¬ 9223372036854775808≤v:=hv
   simp [pz,ao,t0,t1,t5,t6,ob,h2,← aj,dq,e2,eA,e3,g9,← bR,vC,e5,rB]
   exact ⟨rfl,by simp [ao],_,w4,by simpa [hv] using oI⟩
 ·-- line 3
  have iT:=l9.1 h3
  have ax:x.step T s=(if (s.bT (aX T x.at_.pred x.l) x.at_.cur (x.w - bp)).held=true then (({ x with by_:=x.at_.known,at_:={ x.at_ with cur:=x.w - bp } }:au).looks T,s.bT (aX T x.at_.pred x.l) x.at_.cur (x.w - bp)) else (({ x with by_:=x.at_.known }:au).anew T,s.bT (aX T x.at_.pred x.l) x.at_.cur (x.w - bp))):=by
   unfold au.step; simp only; rw [if_neg (by omega),if_neg (by omega),if_pos h3]
  rw [ax]
  have hu:=Eu l8 iT
  have x1:Ext G (G.room 14):=(Ext.refl G).room 14
  have w1:=w.de x1 tag
  have dL:=hF.ext hb.lt eJ.lt x1
  have bM:=hb.gO x1 tag
  have qL:=eJ.gO x1 tag
  generalize grown own G tag=ah at *
  have e2:=Jn ae l8 iT (G.room 14)
  have QV:x.w - 9223372036854775808=x.w - bp:=rfl
  rw [QV] at e2
  obtain ⟨bB,G3,e3,w3⟩:=w1.pm.bT ae (aX T x.at_.pred x.l) x.at_.cur (x.w - bp)
  generalize s.bT (aX T x.at_.pred x.l) x.at_.cur (x.w - bp)=s' at *
  have jz:=dL.kept (bM.keep ht w3) (qL.keep ht w3)
  have fq:=w1.tr w3.any
  have gy:=bM.to w3.nx w3.aO.cd
  have pI:=qL.to w3.nx w3.aO.cd
  have g9:=jz.ob
  cases hh:s'.held with
  | false =>
   rw [if_neg (by decide)]
   rw [hh] at e3
   obtain ⟨G4,e4,m4,oI⟩:=Ji ae hs jz az gy.lt pI.lt l3
   simp [pz,ao,t0,t1,t5,t6,ob,h3,e2,e3,e4]
   exact ⟨rfl,by simp [ao],_,fq.qI (vB gy pI (m4.mono fun g hg=>.inl hg)) ht tag,oI⟩
  | true =>
   rw [if_pos rfl]
   rw [hh] at e3
   have QW:=Jn ae l8 iT G3
   rw [QV] at QW
   obtain ⟨G4,bR⟩:∃ G4,G4=G3.put b (kS T { x with line:=3,by_:=x.at_.known,at_:={ x.at_ with cur:=x.w - bp } } tb):=⟨_,rfl⟩
   have oI:ej T G4 b tb { x with line:=3,by_:=x.at_.known,at_:={ x.at_ with cur:=x.w - bp } }:=by rw [bR]; exact jz.put az _ rfl
   have w4:PW (Own own0 tag) own0 G0 bB G4 m s':=by rw [bR]; exact fq.bf gy.tag ht _
   have iy:At bB tag G4 b:=by rw [bR]; exact ⟨gy.lt,gy.tag⟩
   have BU:At bB tag G4 tb:=by rw [bR]; exact ⟨pI.lt,pI.tag⟩
   obtain ⟨G5,e5,m5,BT⟩:=Jk ae bD hs oI az iy.lt BU.lt l3 l2 hu
   simp [pz,ao,t0,t1,t5,t6,ob,h3,e2,e3,g9,QW,← bR,e5]
   exact ⟨rfl,by simp [ao],_,w4.qI (vB iy BU m5) ht tag,BT⟩
 ·-- line 4
  have ax:x.step T s=(if x.key≤(s.load (aB T (aH T.size x.at_.cur) 0)).new then (({ x with by_:=x.at_.cur }:au).tell,s.load (aB T (aH T.size x.at_.cur) 0)) else (({ x with by_:=x.at_.cur,at_:=⟨aH T.size x.at_.cur,x.at_.cur,x.w⟩ }:au).looks T,s.load (aB T (aH T.size x.at_.cur) 0))):=by
   unfold au.step; simp only; rw [if_neg (by omega),if_neg (by omega),if_neg (by omega),if_pos h4]
  rw [ax]
  have hl:=(hm.load (aB T (aH T.size x.at_.cur) 0)).2
  obtain ⟨G1,aj⟩:∃ G1,G1=G.put b (kS T { x with line:=4,by_:=x.at_.cur } tb):=⟨_,rfl⟩
  have dL:ej T G1 b tb { x with line:=4,by_:=x.at_.cur }:=by rw [aj]; exact hF.put az _ rfl
  have w1:PW (Own own0 tag) own0 G0 own G1 m s:=by rw [aj]; exact w.bf hb.tag ht _
  have bM:At own tag G1 b:=by rw [aj]; exact ⟨hb.lt,hb.tag⟩
  have qL:At own tag G1 tb:=by rw [aj]; exact ⟨eJ.lt,eJ.tag⟩
  have dq:=dL.ob
  obtain ⟨G2,e2,x2⟩:=xj ae T (aH T.size x.at_.cur) 0 (G1.room 13)
  have y2:=((Ext.refl G1).room 13).trans x2
  have pG:=dL.ext bM.lt qL.lt y2
  have w2:=w1.de y2 tag
  have dy:=bM.gO y2 tag
  have oH:=qL.gO y2 tag
  have eA:=pG.ob
  generalize grown own G1 tag=aG at *
  obtain ⟨bB,G3,e3,w3⟩:=w2.pm.load ae (aB T (aH T.size x.at_.cur) 0)
  generalize s.load (aB T (aH T.size x.at_.cur) 0)=s' at *
  generalize s'.new=v at *
  have jz:=pG.kept (dy.keep ht w3) (oH.keep ht w3)
  have fq:=w2.tr w3.any
  have gy:=dy.to w3.nx w3.aO.cd
  have pI:=oH.to w3.nx w3.aO.cd
  have g9:=jz.ob
  by_cases hv:x.key≤v
  ·rw [if_pos hv]
   obtain ⟨G4,e4,m4,oI⟩:=QS ae hs jz az gy.lt pI.lt l3 l2
   simp [pz,ao,t0,t1,t5,t6,ob,h4,← aj,dq,e2,eA,e3,g9,hv,e4]
   refine ⟨rfl,by simp [ao],_,fq.qI (vB gy pI m4) ht tag,?_⟩
   exact oI
  ·rw [if_neg hv]
   obtain ⟨G4,bR⟩:∃ G4,G4=(((G3.room 25).put b (kS T { x with line:=4,by_:=x.at_.cur,at_:={ x.at_ with pred:=aH T.size x.at_.cur } } tb)).put b (kS T { x with line:=4,by_:=x.at_.cur,at_:={ x.at_ with pred:=aH T.size x.at_.cur,known:=x.at_.cur } } tb)).put b (kS T { x with line:=4,by_:=x.at_.cur,at_:=⟨aH T.size x.at_.cur,x.at_.cur,x.w⟩ } tb):=⟨_,rfl⟩
   have x3:Ext G3 (G3.room 25):=(Ext.refl G3).room 25
   have oI:ej T G4 b tb { x with line:=4,by_:=x.at_.cur,at_:=⟨aH T.size x.at_.cur,x.at_.cur,x.w⟩ }:=by rw [bR]; exact (((jz.ext gy.lt pI.lt x3).put az { x with line:=4,by_:=x.at_.cur,at_:={ x.at_ with pred:=aH T.size x.at_.cur } } rfl).put az { x with line:=4,by_:=x.at_.cur,at_:={ x.at_ with pred:=aH T.size x.at_.cur,known:=x.at_.cur } } rfl).put az _ rfl
   have BV:=gy.gO x3 tag
   have QX:=pI.gO x3 tag
   have w4:PW (Own own0 tag) own0 G0 (grown bB G3 tag) G4 m s':=by rw [bR]; exact (((fq.de x3 tag).bf BV.tag ht _).bf BV.tag ht _).bf BV.tag ht _
   have iy:At (grown bB G3 tag) tag G4 b:=by rw [bR]; exact ⟨BV.lt,BV.tag⟩
   have BU:At (grown bB G3 tag) tag G4 tb:=by rw [bR]; exact ⟨QX.lt,QX.tag⟩
   obtain ⟨G5,e5,m5,BT⟩:=Jk ae bD hs oI az iy.lt BU.lt l3 l2 l8
   simp [pz,ao,t0,t1,t5,t6,ob,h4,← aj,dq,e2,eA,e3,g9,hv,← bR,e5]
   exact ⟨rfl,by simp [ao],_,w4.qI (vB iy BU m5) ht tag,BT⟩
 ·exact absurd h9' h9
theorem aaB (ae:FuncId→Bool) (bD:ae 187=false) (hs:T.sound) (h:PM own G m s) (hm:s.ok) (hx:x.ok T) (ht:tag≠10) (az:b≠tb) (hb:At own tag G b) (eJ:At own tag G tb) (hF:ej T G b tb x) :
  ∃ ah G1,(E ae).cl 283 [P0 b,P0 m] G=some (.bool (decide ((x.step T s).1.line=9)),G1)∧PW (Own own tag) own G ah G1 m (x.step T s).2∧ej T G1 b tb (x.step T s).1:=by
 have ob:=hF.ob
 by_cases h9:x.line=9
 ·have ax:x.step T s=(x,s):=by unfold au.step; simp only; rw [if_pos h9]
  rw [ax]
  refine ⟨own,G,f283 (ai Q ae) _ _ G _ ?_,PW.refl h,hF⟩
  simp [s283,ob,h9]
 ·obtain ⟨G1,e1,x1⟩:=rZ ae T x.at_.pred x.l (G.room 16)
  have y1:=((Ext.refl G).room 16).trans x1
  have dL:=hF.ext hb.lt eJ.lt y1
  have dq:=dL.ob
  have bM:=hb.gO y1 tag
  obtain ⟨G2,e2,x2⟩:=QR ae bD hx.cur bM.lt dq
  have y2:=y1.trans x2
  have pG:=hF.ext hb.lt eJ.lt y2
  have eA:=pG.ob
  have w2:=(PW.refl (B:=Own own tag) h).de y2 tag
  have dy:=hb.gO y2 tag
  have oH:=eJ.gO y2 tag
  obtain ⟨G3,cF⟩:∃ G3,G3=G2.put b (kS T { x with by_:=x.at_.known } tb):=⟨_,rfl⟩
  have jz:ej T G3 b tb { x with by_:=x.at_.known }:=by rw [cF]; exact pG.put az _ rfl
  have w3:PW (Own own tag) own G (grown own G tag) G3 m s:=by rw [cF]; exact w2.bf dy.tag ht _
  have gy:At (grown own G tag) tag G3 b:=by rw [cF]; exact ⟨dy.lt,dy.tag⟩
  have pI:At (grown own G tag) tag G3 tb:=by rw [cF]; exact ⟨oH.lt,oH.tag⟩
  have wW:Wp (s283 true (bA Q ae) (P0 b) (P0 m) G) fun q=>q.1= .bool (decide ((x.step T s).1.line=9))∧∃ ah,PW (Own own tag) own G ah q.2 m (x.step T s).2∧ej T q.2 b tb (x.step T s).1:=by
   simp [s283,ob,h9,e1,dq,e2,eA,← cF]
   refine Wp.bE ((aaA ae bD hs hm hx h9 ht az w3 gy pI jz (by simp) (by simp) (by simp) (by simp)).mono ?_)
   rintro ⟨e,τ,G'⟩ ⟨h1,h2,ah,h3,h4⟩
   simp only at h1 h2 h3 h4
   subst h1
   have o4:=h4.ob
   simp [h2,o4]
   exact ⟨⟨ah,h3⟩,h4⟩
  obtain ⟨⟨v,G'⟩,e,rfl,ah,h3,h4⟩:=wW
  exact ⟨ah,G',f283 (ai Q ae) _ _ G _ e,h3,h4⟩
theorem aaC (ae:FuncId→Bool) (hF:ej T G b tb x):(E ae).cl 284 [P0 b] G=some (.int .u64 x.by_,G):=by
 have ob:=hF.ob
 refine f284 (ai Q ae) _ G _ ?_
 simp [s284,ob]
end
def au.zero (T:TW) (key:Int):au:=⟨key,0,0,⟨0,0,0⟩,0,List.replicate T.ay.toNat ⟨0,0,0⟩,0⟩
def au.new (T:TW) (key:Int):au:=(au.zero T key).anew T
theorem au.ju {T:TW} (hs:T.sound) (key:Int):(au.new T key).ok T:=au.Jm hs (by simp [au.zero]) dJ dJ
theorem aaD {T:TW} (hs:T.sound):aX T (-1) 0=T.cn:=by
 unfold aX aB
 have:=hs.1
 rw [if_pos (by omega),if_pos hs,if_pos rfl,if_pos (by omega)]; omega
theorem aaE (n:Nat) (hn:n≤4) (G:GS):wR 4 32 z373 n n G=some (jx G.nx n,G.push ⟨jv.flat (List.replicate n (0,⟨0,0,0⟩)),4,false,1⟩):=by
 unfold wR
 rw [if_pos ⟨by omega,by omega,by decide,by omega,wrap64 (by omega) (by omega),wrap64 (by omega) (by omega)⟩]
 have:rep z373 ((n:Nat):Int).toNat=jv.flat (List.replicate n (0,⟨0,0,0⟩)):=by
  simp only [Int.toNat_natCast]
  induction n with
  | zero=>rfl
  | succ n ih=>show z373++rep z373 n=_; rw [ih (by omega)]; rfl
 rw [this]; rfl
theorem QY (ae:FuncId→Bool) {T:TW} (hs:T.sound) (key:Int) (G:GS):∃ b tb G',(E ae).cl 213 [T.v,.int .u64 key] G=some (P0 b,G')∧Ext G G' ∧(G.nx≤b∧b<G'.nx)∧(G.nx≤tb∧tb<G'.nx)∧b≠tb∧ej T G' b tb (au.new T key):=by
 obtain ⟨G1,aj⟩:∃ G1,G1=(G.push ⟨T.cells,1,false,1⟩).push ⟨qK T key 0 0 0 0 0 0 (.slice none 0 0) 0,1,false,1⟩:=⟨_,rfl⟩
 have x1:Ext G G1:=by rw [aj]; exact ((Ext.refl G).push _).push _
 have o1:G1.obj G.nx=some ⟨T.cells,1,false,1⟩:=by rw [aj]; simp
 have p1:G1.obj (G.nx+1)=some ⟨qK T key 0 0 0 0 0 0 (.slice none 0 0) 0,1,false,1⟩:=by rw [aj]; simp
 have n1:G1.nx=G.nx+2:=by rw [aj]; rfl
 obtain ⟨G2,e2,x2⟩:=rZ ae T (-1) 0 G1
 rw [aaD hs] at e2
 have n2:=x2.nx
 have o2:=(x2.obj G.nx (by omega)).trans o1
 have p2:=(x2.obj (G.nx+1) (by omega)).trans p1
 have hh:¬ T.cn<0:=by have:=hs.2.2.2.2.2.2.1; omega
 obtain ⟨he,h1,h4⟩:=zj hs
 have QZ:=aaE T.ay.toNat h4 G2
 rw [← he] at QZ
 obtain ⟨G3,cF⟩:∃ G3,G3=(G2.push ⟨jv.flat (List.replicate T.ay.toNat (0,⟨0,0,0⟩)),4,false,1⟩).put (G.nx+1) (kS T (au.zero T key) G2.nx):=⟨_,rfl⟩
 have x3:Ext G G3:=by rw [cF]; exact ((x1.trans x2).push _).put (by omega) _
 have n3:G3.nx=G2.nx+1:=by rw [cF]; rfl
 have jz:ej T G3 (G.nx+1) G2.nx (au.zero T key):=⟨List.replicate T.ay.toNat (0,⟨0,0,0⟩),by rw [cF]; simp,by rw [cF,jy _ _ (by omega)]; simp,by simp [au.zero]⟩
 have g9:=jz.ob
 obtain ⟨G4,e4,m4,oI⟩:=Ji ae hs jz (by omega) (by omega) (by omega) (by simp [au.zero])
 have n4:=m4.nx
 refine ⟨G.nx+1,G2.nx,G4,f213 (ai Q ae) _ _ G _ ?_,m4.tail x3 (fun g hg=>by rw [hg]; omega),by omega,by omega,by omega,oI⟩
 have az:¬ G.nx+1=G2.nx:=by omega
 have aaF:G3=(G2.push ⟨jv.flat (List.replicate T.ay.toNat (0,⟨0,0,0⟩)),4,false,1⟩).put (G.nx+1) ⟨qK T key 0 0 0 0 0 0 (jx G2.nx T.ay.toNat) 0,1,false,1⟩:=cF
 have hz:z376=[.int .i64 0,.int .i64 0,.int .i64 0,.int .i64 0,.int .i64 0,.int .i64 0,.int .i64 0,.int .i64 0,.int .i64 0,.int .i64 0,.int .i64 0,.int .i64 0,.int .i64 0,.int .u64 0,.int .i64 0,.int .i64 0,.int .i64 0,.int .u64 0,.int .u64 0,.int .u64 0,.slice none 0 0,.int .u64 0,.bool false,.int .i64 0]:=rfl
 simp [s213,hz,bQ,bO,eC]
 rw [← aj]
 simp [o1,e2,hh,o2,QZ,p2,az]
 rw [← aaF]
 simp [e4]
section
variable {T:TW} {G:GS} {b tb h:Nat} {x:au} {TL:List (Int×dZ)}
theorem Jo (ae:FuncId→Bool) (hF:ej T G b tb x) (h9:x.line=9):(E ae).cl 328 [P0 b] G=some (jx tb T.ay.toNat,G):=by
 have ob:=hF.ob
 have e1:(E ae).cl 331 [P0 b] G=some (.int .i64 0,G):=by
  refine f331 (ai Q ae) _ G _ ?_
  simp [s331,ob,h9]
 refine f328 (ai Q ae) _ G _ ?_
 simp [s328,e1,ob]
theorem aaG (ae:FuncId→Bool) {A:GS} (eJ:tb<A.nx) (ot:A.obj tb=some ⟨jv.flat TL,4,false,1⟩) (hh:TL.length=h) (h4:h≤4):∀ (j k:Nat) (τ:Env) (G:GS) (v:Value),k+j=h→τ 7=jx tb h→τ 8= .int .i64 h→τ 9= .int .i64 k→τ 3=v→Ext A G→cj (bK .i64) A.nx G v ((TL.take k).map (·.2.pred)) →
  Wp ((bA Q ae).du 330 0 τ G) fun r=>r.1= .exit 0∧Ext A r.2.2∧cj (bK .i64) A.nx r.2.2 (r.2.1 3) (TL.map (·.2.pred)):=by
 intro j
 induction j with
 | zero =>
  intro k τ G v hk t7 t8 t9 t3 x ho
  have hk:k=h:=by omega
  subst hk
  rw [← hh,List.take_length] at ho
  refine Wp.lp (PS (ai Q ae)) ?_
  obtain ⟨a1,n1,rfl⟩:=ho.is.len
  simp [IC,ao,t7,t8,t9,t3]
  exact ⟨x,by simpa using ho⟩
 | succ j ih =>
  intro k τ G v hk t7 t8 t9 t3 x ho
  have Et:k<h:=by omega
  have r8:k<TL.length:=by omega
  have c1:((k:Int)<h):=by omega
  have c2:(0≤(k:Int)∧(k:Int)<(h:Int)):=by omega
  have c3:IntKind.wrap .i64 ((k:Int)+1)=(k:Int)+1:=wrap64 (by omega) (by omega)
  have e1:=Ed (e:=jv) ((x.obj tb eJ).trans ot) (Nat.lt_of_lt_of_le eJ x.nx) r8
  simp only [BQ,BR] at e1
  obtain ⟨sp,g7⟩:∃ sp,sp=TL[k]:=⟨_,rfl⟩
  rw [← g7] at e1
  obtain ⟨G1,aj⟩:∃ G1,G1=(G.push ⟨z373,1,false,1⟩).put G.nx ⟨[.int .i64 sp.1,.int .i64 sp.2.pred,.int .u64 sp.2.known,.int .u64 sp.2.cur],1,false,1⟩:=⟨_,rfl⟩
  have hz:z373=[.int .i64 0,.int .i64 0,.int .u64 0,.int .u64 0]:=rfl
  have x1:Ext G G1:=by rw [aj]; exact ((Ext.refl G).push _).put (Nat.le_refl _) _
  have o1:G1.obj G.nx=some ⟨[.int .i64 sp.1,.int .i64 sp.2.pred,.int .u64 sp.2.known,.int .u64 sp.2.cur],1,false,1⟩:=by rw [aj]; simp
  obtain ⟨v',G2,e2,x2,o2⟩:=cj.app (A:=A) (ib:=8) ((ho.ext x1).ext ((Ext.refl G1).push _)) (by decide) ((x.trans x1).push _) (bI.one (bK .i64) G1 sp.2.pred) (by simp; omega)
  have hl:(TL.take k).map (·.2.pred)++[sp.2.pred]=(TL.take (k+1)).map (·.2.pred):=by rw [List.take_add_one,List.getElem?_eq_getElem r8,← g7]; simp
  rw [hl] at o2
  obtain ⟨a1,n1,rfl⟩:=ho.is.len
  refine Wp.lp (PS (ai Q ae)) ?_
  simp [bK] at e2
  rw [hz] at aj
  simp [-iw,IC,ao,t7,t8,t9,t3,c1,c2,c3,e1,hz,bQ,bO,eC,← aj,o1,e2]
  refine ih (k+1) _ G2 v' (by omega) ?_ ?_ ?_ ?_ x2 o2<;>simp [ao]
theorem aaH (ae:FuncId→Bool) (hs:T.sound) (hF:ej T G b tb x) (eJ:tb<G.nx) (h9:x.line=9) (hl:x.told.length=T.ay.toNat):∃ v G',(E ae).cl 330 [P0 b] G=some (v,G')∧Ext G G' ∧cj (bK .i64) G.nx G' v (x.told.map (·.pred)):=by
 obtain ⟨e0,h1,h4⟩:=zj hs
 have ea:=Jo ae hF h9
 obtain ⟨TL,o1,o2,o3⟩:=hF
 have pF:TL.length=T.ay.toNat:=by rw [← hl,← o3]; simp
 have w:Wp (s330 true (bA Q ae) (P0 b) G) fun r=>Ext G r.2∧cj (bK .i64) G.nx r.2 r.1 (x.told.map (·.pred)):=by
  simp [s330,ea]
  refine Wp.bE ((aaG ae eJ o2 pF h4 T.ay.toNat 0 _ G (.slice none 0 0) (by omega) ?_ ?_ ?_ ?_ (Ext.refl G) ?_).mono ?_)
  ·simp
  ·simp
  ·simp
  ·simp
  ·simpa using cj.nil _ _
  ·rintro ⟨e,τ,G1⟩ ⟨rfl,x1,ho⟩
   simp only at x1 ho
   obtain ⟨a1,n1,hv⟩:=ho.is.len
   rw [hv] at ho
   simp [hv]
   refine ⟨x1,?_⟩
   rw [← o3,List.map_map]
   have hc:List.map ((fun x=>x.pred) ∘ (fun x:Int×dZ=>x.2)) TL=List.map (·.2.pred) TL:=rfl
   rw [hc]
   simpa using ho
 obtain ⟨⟨v,G'⟩,e1,q1,q2⟩:=w
 exact ⟨v,G',f330 (ai Q ae) _ G _ e1,q1,q2⟩
theorem aaI (ae:FuncId→Bool) {A:GS} (eJ:tb<A.nx) (ot:A.obj tb=some ⟨jv.flat TL,4,false,1⟩) (hh:TL.length=h) (h4:h≤4):∀ (j k:Nat) (τ:Env) (G:GS) (v:Value),k+j=h→τ 7=jx tb h→τ 8= .int .i64 h→τ 9= .int .i64 k→τ 3=v→Ext A G→cj (bK .u64) A.nx G v ((TL.take k).map (·.2.cur)) →
  Wp ((bA Q ae).du 323 0 τ G) fun r=>r.1= .exit 0∧Ext A r.2.2∧cj (bK .u64) A.nx r.2.2 (r.2.1 3) (TL.map (·.2.cur)):=by
 intro j
 induction j with
 | zero =>
  intro k τ G v hk t7 t8 t9 t3 x ho
  have hk:k=h:=by omega
  subst hk
  rw [← hh,List.take_length] at ho
  refine Wp.lp (PI (ai Q ae)) ?_
  obtain ⟨a1,n1,rfl⟩:=ho.is.len
  simp [Iu,ao,t7,t8,t9,t3]
  exact ⟨x,by simpa using ho⟩
 | succ j ih =>
  intro k τ G v hk t7 t8 t9 t3 x ho
  have Et:k<h:=by omega
  have r8:k<TL.length:=by omega
  have c1:((k:Int)<h):=by omega
  have c2:(0≤(k:Int)∧(k:Int)<(h:Int)):=by omega
  have c3:IntKind.wrap .i64 ((k:Int)+1)=(k:Int)+1:=wrap64 (by omega) (by omega)
  have e1:=Ed (e:=jv) ((x.obj tb eJ).trans ot) (Nat.lt_of_lt_of_le eJ x.nx) r8
  simp only [BQ,BR] at e1
  obtain ⟨sp,g7⟩:∃ sp,sp=TL[k]:=⟨_,rfl⟩
  rw [← g7] at e1
  obtain ⟨G1,aj⟩:∃ G1,G1=(G.push ⟨z373,1,false,1⟩).put G.nx ⟨[.int .i64 sp.1,.int .i64 sp.2.pred,.int .u64 sp.2.known,.int .u64 sp.2.cur],1,false,1⟩:=⟨_,rfl⟩
  have hz:z373=[.int .i64 0,.int .i64 0,.int .u64 0,.int .u64 0]:=rfl
  have x1:Ext G G1:=by rw [aj]; exact ((Ext.refl G).push _).put (Nat.le_refl _) _
  have o1:G1.obj G.nx=some ⟨[.int .i64 sp.1,.int .i64 sp.2.pred,.int .u64 sp.2.known,.int .u64 sp.2.cur],1,false,1⟩:=by rw [aj]; simp
  obtain ⟨v',G2,e2,x2,o2⟩:=cj.app (A:=A) (ib:=8) ((ho.ext x1).ext ((Ext.refl G1).push _)) (by decide) ((x.trans x1).push _) (bI.one (bK .u64) G1 sp.2.cur) (by simp; omega)
  have hl:(TL.take k).map (·.2.cur)++[sp.2.cur]=(TL.take (k+1)).map (·.2.cur):=by rw [List.take_add_one,List.getElem?_eq_getElem r8,← g7]; simp
  rw [hl] at o2
  obtain ⟨a1,n1,rfl⟩:=ho.is.len
  refine Wp.lp (PI (ai Q ae)) ?_
  simp [bK] at e2
  rw [hz] at aj
  simp [-iw,Iu,ao,t7,t8,t9,t3,c1,c2,c3,e1,hz,bQ,bO,eC,← aj,o1,e2]
  refine ih (k+1) _ G2 v' (by omega) ?_ ?_ ?_ ?_ x2 o2<;>simp [ao]
theorem aaJ (ae:FuncId→Bool) (hs:T.sound) (hF:ej T G b tb x) (eJ:tb<G.nx) (h9:x.line=9) (hl:x.told.length=T.ay.toNat):∃ v G',(E ae).cl 323 [P0 b] G=some (v,G')∧Ext G G' ∧cj (bK .u64) G.nx G' v (x.told.map (·.cur)):=by
 obtain ⟨e0,h1,h4⟩:=zj hs
 have ea:=Jo ae hF h9
 obtain ⟨TL,o1,o2,o3⟩:=hF
 have pF:TL.length=T.ay.toNat:=by rw [← hl,← o3]; simp
 have w:Wp (s323 true (bA Q ae) (P0 b) G) fun r=>Ext G r.2∧cj (bK .u64) G.nx r.2 r.1 (x.told.map (·.cur)):=by
  simp [s323,ea]
  refine Wp.bE ((aaI ae eJ o2 pF h4 T.ay.toNat 0 _ G (.slice none 0 0) (by omega) ?_ ?_ ?_ ?_ (Ext.refl G) ?_).mono ?_)
  ·simp
  ·simp
  ·simp
  ·simp
  ·simpa using cj.nil _ _
  ·rintro ⟨e,τ,G1⟩ ⟨rfl,x1,ho⟩
   simp only at x1 ho
   obtain ⟨a1,n1,hv⟩:=ho.is.len
   rw [hv] at ho
   simp [hv]
   refine ⟨x1,?_⟩
   rw [← o3,List.map_map]
   have hc:List.map ((fun x=>x.cur) ∘ (fun x:Int×dZ=>x.2)) TL=List.map (·.2.cur) TL:=rfl
   rw [hc]
   simpa using ho
 obtain ⟨⟨v,G'⟩,e1,q1,q2⟩:=w
 exact ⟨v,G',f323 (ai Q ae) _ G _ e1,q1,q2⟩
theorem aaK (ae:FuncId→Bool) {A:GS} (eJ:tb<A.nx) (ot:A.obj tb=some ⟨jv.flat TL,4,false,1⟩) (hh:TL.length=h) (h4:h≤4):∀ (j k:Nat) (τ:Env) (G:GS) (v:Value),k+j=h→τ 7=jx tb h→τ 8= .int .i64 h→τ 9= .int .i64 k→τ 3=v→Ext A G→cj (bK .u64) A.nx G v ((TL.take k).map (·.2.known)) →
  Wp ((bA Q ae).du 329 0 τ G) fun r=>r.1= .exit 0∧Ext A r.2.2∧cj (bK .u64) A.nx r.2.2 (r.2.1 3) (TL.map (·.2.known)):=by
 intro j
 induction j with
 | zero =>
  intro k τ G v hk t7 t8 t9 t3 x ho
  have hk:k=h:=by omega
  subst hk
  rw [← hh,List.take_length] at ho
  refine Wp.lp (PJ (ai Q ae)) ?_
  obtain ⟨a1,n1,rfl⟩:=ho.is.len
  simp [Iv,ao,t7,t8,t9,t3]
  exact ⟨x,by simpa using ho⟩
 | succ j ih =>
  intro k τ G v hk t7 t8 t9 t3 x ho
  have Et:k<h:=by omega
  have r8:k<TL.length:=by omega
  have c1:((k:Int)<h):=by omega
  have c2:(0≤(k:Int)∧(k:Int)<(h:Int)):=by omega
  have c3:IntKind.wrap .i64 ((k:Int)+1)=(k:Int)+1:=wrap64 (by omega) (by omega)
  have e1:=Ed (e:=jv) ((x.obj tb eJ).trans ot) (Nat.lt_of_lt_of_le eJ x.nx) r8
  simp only [BQ,BR] at e1
  obtain ⟨sp,g7⟩:∃ sp,sp=TL[k]:=⟨_,rfl⟩
  rw [← g7] at e1
  obtain ⟨G1,aj⟩:∃ G1,G1=(G.push ⟨z373,1,false,1⟩).put G.nx ⟨[.int .i64 sp.1,.int .i64 sp.2.pred,.int .u64 sp.2.known,.int .u64 sp.2.cur],1,false,1⟩:=⟨_,rfl⟩
  have hz:z373=[.int .i64 0,.int .i64 0,.int .u64 0,.int .u64 0]:=rfl
  have x1:Ext G G1:=by rw [aj]; exact ((Ext.refl G).push _).put (Nat.le_refl _) _
  have o1:G1.obj G.nx=some ⟨[.int .i64 sp.1,.int .i64 sp.2.pred,.int .u64 sp.2.known,.int .u64 sp.2.cur],1,false,1⟩:=by rw [aj]; simp
  obtain ⟨v',G2,e2,x2,o2⟩:=cj.app (A:=A) (ib:=8) ((ho.ext x1).ext ((Ext.refl G1).push _)) (by decide) ((x.trans x1).push _) (bI.one (bK .u64) G1 sp.2.known) (by simp; omega)
  have hl:(TL.take k).map (·.2.known)++[sp.2.known]=(TL.take (k+1)).map (·.2.known):=by rw [List.take_add_one,List.getElem?_eq_getElem r8,← g7]; simp
  rw [hl] at o2
  obtain ⟨a1,n1,rfl⟩:=ho.is.len
  refine Wp.lp (PJ (ai Q ae)) ?_
  simp [bK] at e2
  rw [hz] at aj
  simp [-iw,Iv,ao,t7,t8,t9,t3,c1,c2,c3,e1,hz,bQ,bO,eC,← aj,o1,e2]
  refine ih (k+1) _ G2 v' (by omega) ?_ ?_ ?_ ?_ x2 o2<;>simp [ao]
theorem aaL (ae:FuncId→Bool) (hs:T.sound) (hF:ej T G b tb x) (eJ:tb<G.nx) (h9:x.line=9) (hl:x.told.length=T.ay.toNat):∃ v G',(E ae).cl 329 [P0 b] G=some (v,G')∧Ext G G' ∧cj (bK .u64) G.nx G' v (x.told.map (·.known)):=by
 obtain ⟨e0,h1,h4⟩:=zj hs
 have ea:=Jo ae hF h9
 obtain ⟨TL,o1,o2,o3⟩:=hF
 have pF:TL.length=T.ay.toNat:=by rw [← hl,← o3]; simp
 have w:Wp (s329 true (bA Q ae) (P0 b) G) fun r=>Ext G r.2∧cj (bK .u64) G.nx r.2 r.1 (x.told.map (·.known)):=by
  simp [s329,ea]
  refine Wp.bE ((aaK ae eJ o2 pF h4 T.ay.toNat 0 _ G (.slice none 0 0) (by omega) ?_ ?_ ?_ ?_ (Ext.refl G) ?_).mono ?_)
  ·simp
  ·simp
  ·simp
  ·simp
  ·simpa using cj.nil _ _
  ·rintro ⟨e,τ,G1⟩ ⟨rfl,x1,ho⟩
   simp only at x1 ho
   obtain ⟨a1,n1,hv⟩:=ho.is.len
   rw [hv] at ho
   simp [hv]
   refine ⟨x1,?_⟩
   rw [← o3,List.map_map]
   have hc:List.map ((fun x=>x.known) ∘ (fun x:Int×dZ=>x.2)) TL=List.map (·.2.known) TL:=rfl
   rw [hc]
   simpa using ho
 obtain ⟨⟨v,G'⟩,e1,q1,q2⟩:=w
 exact ⟨v,G',f329 (ai Q ae) _ G _ e1,q1,q2⟩
end
def TW.wait (t:TW) (e:Int):Sk:=⟨IntKind.wrap .i64 (t.u12+e % 4294967296 % 3),t.links,t.size⟩
inductive fz where
 | looks
 | push (R:Sk) (p:gJ)
 | done
def fz.over:fz→Bool
 | .done=>true
 | _=>false
def fz.ok (t:TW):fz→Prop
 | .push R p=>R.ok∧p.ok R∧p.over=false
 | _=>True
def fz.after (R:Sk) (p:gJ):fz:=if p.over=true then .done else .push R p
def fz.step (t:TW) (i:Int):fz→MS→fz×MS
 | .looks,s=>(.push (t.wait (s.load t.u9).new) (xh (t.wait (s.load t.u9).new) i),s.load t.u9)
 | .push R p,s=>(fz.after R (p.step R s).1,(p.step R s).2)
 | .done,s=>(.done,s)
def TW.fA (t:TW):Prop:=1≤t.size∧t.size≤4096∧0≤t.links∧t.links+t.size≤4096∧0≤t.u12∧t.u12+2<4096
theorem aaM {t:TW} (h:t.fA) (e:Int):(t.wait e).ok:=by
 obtain ⟨h1,h2,h3,h4,h5,h6⟩:=h
 have:IntKind.wrap .i64 (t.u12+e % 4294967296 % 3)=t.u12+e % 4294967296 % 3:=wrap64 (by omega) (by omega)
 unfold TW.wait Sk.ok
 simp only [this]
 omega
theorem aaN {R:Sk} {i:Int} (h0:0≤i) (h1:i<R.size):xh R i= .go 1 0 i:=by unfold xh; rw [if_neg (by omega)]
theorem fz.ok.step {t:TW} {i:Int} {p:fz} {s:MS} (ht:t.fA) (h0:0≤i) (h1:i<t.size) (hp:p.ok t) (hs:s.ok):(p.step t i s).1.ok t∧(p.step t i s).2.ok:=by
 cases p with
 | looks=>exact ⟨⟨aaM ht _,Z2,by rw [aaN h0 (show i<(t.wait _).size from h1)]; rfl⟩,(hs.load _).1⟩
 | push R p =>
  obtain ⟨h1,h2,h3⟩:=hp
  have:=h2.step h1 hs
  refine ⟨?_,this.2⟩
  unfold fz.step fz.after
  simp only
  split
  ·trivial
  ·rename_i hz; exact ⟨h1,this.1,by simpa using hz⟩
 | done=>exact ⟨trivial,hs⟩
abbrev pJ (t:TW):List Value:=[.int .i64 t.top,.int .i64 t.links,.int .i64 t.size,.int .i64 t.u6,.int .i64 t.u7,.int .i64 t.u8,.int .i64 t.u9,.int .i64 t.u10,.int .i64 t.u11,.int .i64 t.u12]
abbrev r9 (t:TW) (next:Value) (i:Int) (p:Value):aR:=⟨[next,.bool true,.int .i64 0,.int .i64 t.top,.int .i64 t.links,.int .i64 t.size,.int .i64 t.u6,.int .i64 t.u7,.int .i64 t.u8,.int .i64 t.u9,.int .i64 t.u10,.int .i64 t.u11,.int .i64 t.u12,.int .i64 i,p],1,false,1⟩
abbrev cu (f:FuncId) (b:Nat):Value:=.func (.func f) #[P0 b] #[]
def sa (own:Nat→Nat) (tag:Nat) (t:TW) (G:GS) (b:Nat) (i:Int):fz→Prop
 | .looks=>G.obj b=some (r9 t (cu 290 b) i (.pointer none))
 | .push R p=>∃ q,G.obj b=some (r9 t (cu 292 b) i (P0 q))∧At own tag G q∧b≠q∧xg R G q p
 | .done=>∃ u,G.obj b=some (r9 t .nilFunc i (.pointer u))
section
variable {own own':Nat→Nat} {tag m r b:Nat} {t:TW} {G G':GS} {i:Int} {s:MS}
theorem sa.to {p:fz} (h:sa own tag t G b i p) (hb:At own tag G b) (hn:G.nx≤G'.nx) (hk:∀ g,g<G.nx→own g=tag→G'.obj g=G.obj g) (a:bW own own' G):sa own' tag t G' b i p:=by
 cases p with
 | looks=>exact (hk _ hb.lt hb.tag).trans h
 | push R p=>obtain ⟨q,h1,h2,h3,h4⟩:=h; exact ⟨q,(hk _ hb.lt hb.tag).trans h1,h2.to hn a,h3,h4.kept (hk _ h2.lt h2.tag)⟩
 | done=>obtain ⟨u,h⟩:=h; exact ⟨u,(hk _ hb.lt hb.tag).trans h⟩
theorem aaO (ae:FuncId→Bool) (t:TW) (h0:0≤i) (h1:i<t.size) (G:GS):∃ b G',(E ae).cl 285 [.agg ⟨pJ t⟩,.int .i64 i] G=some (P0 b,G')∧Ext G G' ∧(G.nx≤b∧b<G'.nx)∧∀ own tag,sa own tag t G' b i .looks:=by
 have a0:¬ i<0:=by omega
 have a1:¬ t.size≤i:=by omega
 have w:Wp (s285 true (bA Q ae) (.agg ⟨pJ t⟩) (.int .i64 i) G) fun q=>q=(P0 (G.nx+1),((G.push ⟨pJ t,1,false,1⟩).push (r9 t .nilFunc i (.pointer none))).put (G.nx+1) (r9 t (cu 290 (G.nx+1)) i (.pointer none))):=by
  have hz:z417=[.nilFunc,.bool false,.int .i64 0,.int .i64 0,.int .i64 0,.int .i64 0,.int .i64 0,.int .i64 0,.int .i64 0,.int .i64 0,.int .i64 0,.int .i64 0,.int .i64 0,.int .i64 0,.pointer none]:=rfl
  have dY:z321=[.nilFunc,.bool false,.int .i64 0]:=rfl
  simp [s285,hz,dY,bQ,bO,eC,a0,a1]
 obtain ⟨q,e,rfl⟩:=w
 refine ⟨G.nx+1,_,f285 (ai Q ae) _ _ G _ e,((((Ext.refl G).push _).push _).put (by omega) _),⟨by omega,by simp⟩,fun own tag=>by simp [sa]⟩
theorem Q0 (ae:FuncId→Bool) (t:TW) (n:Int) (G:GS):∃ G',(E ae).cl 75 [.int .i64 n,.agg ⟨pJ t⟩] G=some (.agg ⟨[.int .i64 (IntKind.wrap .i64 (t.u12+n)),.int .i64 t.links,.int .i64 t.size]⟩,G')∧Ext G G':=by
 refine ⟨((G.push ⟨pJ t,1,false,1⟩).push ⟨[.int .i64 0,.int .i64 0,.int .i64 0],1,false,1⟩).put (G.nx+1) ⟨[.int .i64 (IntKind.wrap .i64 (t.u12+n)),.int .i64 t.links,.int .i64 t.size],1,false,1⟩,f75 (ai Q ae) _ _ G _ ?_,(((Ext.refl G).push _).push _).put (by omega) _⟩
 simp [s75,bQ,bO]
end
section
variable {own own':Nat→Nat} {tag m r b:Nat} {t:TW} {G G':GS} {i:Int} {s:MS}
theorem aaP (ae:FuncId→Bool) (bD:ae 187=false) (hl:t.fA) (h0:0≤i) (h1:i<t.size) (h:PM own G m s) (hs:s.ok) {p:fz} (hp:p.ok t) (ht:tag≠10) (hb:At own tag G b) (hr:sa own tag t G b i p) :
  ∃ ah G1,(E ae).cl 286 [P0 b,P0 m] G=some (.bool (p.step t i s).1.over,G1)∧PW (Own own tag) own G ah G1 m (p.step t i s).2∧sa ah tag t G1 b i (p.step t i s).1:=by
 have wm:∃ ah G1,(E ae).cl 291 [P0 b,P0 m] G=some (.bool (p.step t i s).1.over,G1)∧PW (Own own tag) own G ah G1 m (p.step t i s).2∧sa ah tag t G1 b i (p.step t i s).1:=by
  cases p with
  | done =>
   obtain ⟨u,ho⟩:=hr
   refine ⟨own,G,f291 (ai Q ae) _ _ G _ ?_,PW.refl h,u,ho⟩
   simp [s291,ao,ho,fz.step,fz.over]
  | looks =>
   have ho:G.obj b=_:=hr
   have hu:=(hs.load t.u9).2
   obtain ⟨ah,G1,e1,w1⟩:=h.load ae t.u9
   simp only [fz.step]
   generalize s.load t.u9=s' at *
   generalize s'.new=v at *
   have o1:=(w1.keep hb.lt (by rw [hb.tag]; exact ht) id).trans ho
   have bM:=hb.to w1.nx w1.aO.cd
   have hv:=hu.1
   have ea:wS .u64 v 4294967295=v % 4294967296:=IW hu
   have eb:(v % 4294967296).tmod 3=v % 4294967296 % 3:=Int.tmod_eq_emod_of_nonneg (by omega)
   have ec:IntKind.wrap .i64 (v % 4294967296 % 3)=v % 4294967296 % 3:=wrap64 (by omega) (by omega)
   have ed:IntKind.wrap .u64 (v % 4294967296 % 3)=v % 4294967296 % 3:=by rw [wrap_u64]; omega
   have ee:IntKind.wrap .u64 (v % 4294967296)=v % 4294967296:=by rw [wrap_u64]; omega
   obtain ⟨G2,e2,x2⟩:=Q0 ae t (v % 4294967296 % 3) (G1.room 17)
   have y2:=((Ext.refl G1).room 17).trans x2
   have o2:=(y2.obj b bM.lt).trans o1
   obtain ⟨q,G3,e3,x3,q1,q2,r3⟩:=Z3 ae (t.wait v) i G2
   have e3':(E ae).cl 235 [.agg ⟨[.int .i64 (IntKind.wrap .i64 (t.u12+v % 4294967296 % 3)),.int .i64 t.links,.int .i64 t.size]⟩,.int .i64 i] G2=some (P0 q,G3):=e3
   have y3:=y2.trans x3
   have o3:=(y3.obj b bM.lt).trans o1
   have w3:=(w1.any (B:=Own own tag)).de y3 tag
   have gy:=bM.gO y3 tag
   have n2:=y2.nx
   have AF:At (grown ah G1 tag) tag G3 q:=At.new (by omega) q2
   have xn:b≠q:=by have:=bM.lt; omega
   generalize grown ah G1 tag=bB at *
   refine ⟨bB,(G3.put b (r9 t (cu 290 b) i (P0 q))).put b (r9 t (cu 292 b) i (P0 q)),f291 (ai Q ae) _ _ G _ ?_,(w3.bf gy.tag ht _).bf gy.tag ht _,q,by simp,(AF.bC _ _).bC _ _,xn,r3.kept (by rw [aT,if_neg (fun e=>xn e.symm),aT,if_neg (fun e=>xn e.symm)])⟩
   have e4:(E ae).cl 290 [P0 b,P0 m] G=some (cu 292 b,G3.put b (r9 t (cu 290 b) i (P0 q))):=by
    refine f290 (ai Q ae) _ _ G _ ?_
    simp [s290,ho,e1,ea,eb,ec,ed,ee,o1,e2,o2,e3',o3]
   simp [s291,ao,ho,e4,fz.over]
  | push R p =>
   obtain ⟨q,ho,hq,xn,hr⟩:=hr
   obtain ⟨hR,hpo,Ew⟩:=hp
   obtain ⟨ah,G1,e1,w1,r1⟩:=Z0 ae bD h hs hR hq.lt (by rw [hq.tag]; exact ht) hpo hr
   have eQ:PW (Own own tag) own G ah G1 m (p.step R s).2:=w1.mono fun x _ hx=>by rw [hx]; exact hq.tag
   have o1:=(w1.keep hb.lt (by rw [hb.tag]; exact ht) xn).trans ho
   have bM:=hb.to w1.nx w1.aO.cd
   have sY:=hq.to w1.nx w1.aO.cd
   simp only [fz.step]
   generalize (p.step R s).2=s' at *
   generalize (p.step R s).1=p' at *
   unfold fz.after
   cases hz:p'.over with
   | true =>
    rw [hz] at e1
    rw [if_pos rfl]
    have e4:(E ae).cl 292 [P0 b,P0 m] G=some (.nilFunc,G1):=by
     refine f292 (ai Q ae) _ _ G _ ?_
     simp [s292,ho,e1]
    refine ⟨ah,G1.put b (r9 t .nilFunc i (P0 q)),f291 (ai Q ae) _ _ G _ ?_,eQ.bf bM.tag ht _,some ⟨q,0,none⟩,by simp⟩
    simp [s291,ao,ho,e4,o1,fz.over]
   | false =>
    rw [hz] at e1
    rw [if_neg (by decide)]
    have e4:(E ae).cl 292 [P0 b,P0 m] G=some (cu 292 b,G1):=by
     refine f292 (ai Q ae) _ _ G _ ?_
     simp [s292,ho,e1]
    refine ⟨ah,G1.put b (r9 t (cu 292 b) i (P0 q)),f291 (ai Q ae) _ _ G _ ?_,eQ.bf bM.tag ht _,q,by simp,sY.bC _ _,xn,r1.kept (by rw [aT,if_neg (fun e=>xn e.symm)])⟩
    simp [s291,ao,ho,e4,o1,fz.over]
 obtain ⟨ah,G1,e,w,r⟩:=wm
 refine ⟨ah,G1,f286 (ai Q ae) _ _ G _ ?_,w,r⟩
 simp [s286,e]
end
structure aE where
 line:Int
 a:Int
 w:Int
 i:Int
 level:Int
 key:Int
 job:Int
 by_:Int
 aaQ:Bool
 err:Int
 find:au
 ret:fz
def aE.below (x:aE):aE:={ x with level:=x.level - 1,line:=if x.level - 1<1 then 7 else 5 }
def aE.l1 (t:TW) (x:aE) (s:MS):aE×MS :=
 let s':=s.load (aX t (-1) 0)
 (if s'.new % 65536 - 1<0∨t.size≤s'.new % 65536 - 1 then { x with by_:=0,a:=s'.new,i:=s'.new % 65536 - 1,line:=99,err:=15 } else { x with by_:=0,a:=s'.new,i:=s'.new % 65536 - 1,line:=2 },s')
def aE.l2 (look:Bool) (t:TW) (x:aE) (s:MS):aE×MS :=
 let s':=s.load (aB t x.i 4)
 ({ x with by_:=x.a,w:=s'.new,line:=if bp≤s'.new then 3 else if look then 9 else 4 },s')
def aE.l3 (t:TW) (x:aE) (s:MS):aE×MS:=({ x with by_:=0,line:=1 },s.bT (aX t (-1) 0) x.a (x.w - bp))
def aE.l4 (t:TW) (x:aE) (s:MS):aE×MS :=
 let s':=s.load (aB t x.i 2)
 (({ x with by_:=x.a,level:=if s'.new<t.ay then s'.new else t.ay }:aE).below,s')
def aE.l5 (t:TW) (x:aE) (s:MS):aE×MS :=
 let s':=s.load (aB t x.i (4+x.level))
 (if bp≤s'.new then ({ x with by_:=x.a,w:=s'.new,line:=6 }:aE).below else { x with by_:=x.a,w:=s'.new,line:=6 },s')
def aE.l6 (t:TW) (x:aE) (s:MS):aE×MS :=
 let s':=s.bT (aX t x.i x.level) x.w (x.w+bp)
 (if s'.held=true then ({ x with by_:=x.a,line:=5 }:aE).below else { x with by_:=x.a,line:=5 },s')
def aE.l7 (t:TW) (x:aE) (s:MS):aE×MS :=
 let s':=s.load (aB t x.i 4)
 ({ x with by_:=x.a,w:=s'.new,line:=if bp≤s'.new then 3 else 8 },s')
def aE.l8 (t:TW) (x:aE) (s:MS):aE×MS :=
 let s':=s.bT (aX t x.i 0) x.w (x.w+bp)
 (if s'.held=true then { x with by_:=x.a,aaQ:=true,line:=9 } else { x with by_:=x.a,line:=7 },s')
def aE.l9 (t:TW) (x:aE) (s:MS):aE×MS :=
 let s':=s.load (aB t x.i 0)
 ({ x with by_:=x.a,key:=s'.new,line:=91 },s')
def aE.l91 (look:Bool) (t:TW) (x:aE) (s:MS):aE×MS :=
 let s':=s.load (aB t x.i 1)
 (if look then { x with by_:=x.a,job:=s'.new % 65536,line:=99 } else { x with by_:=x.a,job:=s'.new % 65536,line:=10,find:=au.new t x.key },s')
def aE.l10 (t:TW) (x:aE) (s:MS):aE×MS:=({ x with find:=(x.find.step t s).1,by_:=(x.find.step t s).1.by_,line:=if (x.find.step t s).1.line=9 then 11 else 10 },(x.find.step t s).2)
def aE.l11 (t:TW) (x:aE) (s:MS):aE×MS :=
 let s':=s.add (aB t x.i 3) 18446744073709551615
 (if s'.new=0 then { x with by_:=x.a,line:=12,ret:=.looks } else { x with by_:=x.a,line:=99 },s')
def aE.l12 (t:TW) (x:aE) (s:MS):aE×MS:=({ x with by_:=0,ret:=(x.ret.step t x.i s).1,line:=if (x.ret.step t x.i s).1.over=true then 99 else 12 },(x.ret.step t x.i s).2)
def aE.step (look:Bool) (t:TW) (x:aE) (s:MS):aE×MS :=
 if x.line=1 then x.l1 t s else if x.line=2 then x.l2 look t s else if x.line=3 then x.l3 t s else if x.line=4 then x.l4 t s else if x.line=5 then x.l5 t s
 else if x.line=6 then x.l6 t s else if x.line=7 then x.l7 t s else if x.line=8 then x.l8 t s else if x.line=9 then x.l9 t s else if x.line=91 then x.l91 look t s
 else if x.line=10 then x.l10 t s else if x.line=11 then x.l11 t s else if x.line=12 then x.l12 t s else (x,s)
def fO (look:Bool) (l:Int):Prop:=l=1∨l=2∨l=3∨l=9∨l=91∨l=99∨(look=false∧(l=4∨l=5∨l=6∨l=7∨l=8∨l=10∨l=11∨l=12))
structure aE.ok (look:Bool) (t:TW) (x:aE):Prop where
 line:fO look x.line
 a:U x.a
 w:U x.w
 idx:x.line≠1→x.line≠99→0≤x.i∧x.i<t.size
 top:x.line≠1→x.line≠99→x.i=x.a % 65536 - 1
 aQ:-2≤x.level∧x.level≤t.ay∧(x.line=5∨x.line=6→1≤x.level)
 key:U x.key
 by_:U x.by_
 m3:x.line=3→bp≤x.w
 m8:x.line=6∨x.line=8→x.w<bp
 find:x.line=10→x.find.ok t
 ret:x.line=12→x.ret.ok t
section
variable {look:Bool} {t:TW} {x:aE} {s:MS}
theorem aE.Jp (h1:U x.a) (h2:U x.w) (h3:0≤x.i∧x.i<t.size) (rA:x.i=x.a % 65536 - 1) (h4:-1≤x.level∧x.level≤t.ay) (h5:U x.key) (h6:U x.by_):x.below.ok false t:=by
 unfold aE.below
 by_cases h:x.level - 1<1
 ·rw [if_pos h]
  exact ⟨by simp [fO],h1,h2,fun _ _=>h3,fun _ _=>rA,by simp; omega,h5,h6,by simp,by simp,by simp,by simp⟩
 ·rw [if_neg h]
  exact ⟨by simp [fO],h1,h2,fun _ _=>h3,fun _ _=>rA,by simp; omega,h5,h6,by simp,by simp,by simp,by simp⟩
theorem Q5 {w:Int} (h:U w) (hm:w<bp):U (w+bp):=by have:=h.1; unfold bp at *; unfold U; omega
theorem aE.ok.step (hs:t.sound) (hl:t.fA) (h:x.ok look t) (hm:s.ok):(x.step look t s).1.ok look t∧(x.step look t s).2.ok:=by
 obtain ⟨c1,c2,c3,c4,qM,c5,c6,c7,c8,c9,c10,c11⟩:=h
 have hh:=hs.1
 rcases c1 with e | e | e | e | e | e | ⟨rfl,e | e | e | e | e | e | e | e⟩
 all_goals unfold aE.step; simp only [e]
 ·have hn:=(hm.load (aX t (-1) 0)).2
  simp [aE.l1]
  refine ⟨?_,(hm.load _).1⟩
  split
  ·exact ⟨by simp [fO],hn,c3,by simp,by simp,by simp; omega,c6,dJ,by simp,by simp,by simp,by simp⟩
  ·exact ⟨by simp [fO],hn,c3,fun _ _=>by simp only; omega,fun _ _=>rfl,by simp; omega,c6,dJ,by simp,by simp,by simp,by simp⟩
 ·have hn:=(hm.load (aB t x.i 4)).2
  have hi:=c4 (by omega) (by omega)
  have bw:=qM (by omega) (by omega)
  simp [aE.l2]
  refine ⟨?_,(hm.load _).1⟩
  by_cases hk:bp≤(s.load (aB t x.i 4)).new
  ·simp only [hk,if_true]
   exact ⟨by simp [fO],c2,hn,fun _ _=>hi,fun _ _=>bw,by simp; omega,c6,c2,fun _=>hk,by simp,by simp,by simp⟩
  ·cases look with
   | true =>
    simp only [hk,if_false,if_true]
    exact ⟨by simp [fO],c2,hn,fun _ _=>hi,fun _ _=>bw,by simp; omega,c6,c2,by simp,by simp,by simp,by simp⟩
   | false =>
    simp only [hk,if_false,Bool.false_eq_true]
    exact ⟨by simp [fO],c2,hn,fun _ _=>hi,fun _ _=>bw,by simp; omega,c6,c2,by simp,by simp,by simp,by simp⟩
 ·simp [aE.l3]
  exact ⟨⟨by simp [fO],c2,c3,by simp,by simp,by simp; omega,c6,dJ,by simp,by simp,by simp,by simp⟩,hm.bT _ _ (Eu c3 (c8 e))⟩
 ·have hn:=(hm.load (aB t x.i 0)).2
  have hi:=c4 (by omega) (by omega)
  have bw:=qM (by omega) (by omega)
  simp [aE.l9]
  exact ⟨⟨by simp [fO],c2,c3,fun _ _=>hi,fun _ _=>bw,by simp; omega,hn,c2,by simp,by simp,by simp,by simp⟩,(hm.load _).1⟩
 ·have hn:=(hm.load (aB t x.i 1)).2
  have hi:=c4 (by omega) (by omega)
  have bw:=qM (by omega) (by omega)
  simp [aE.l91]
  refine ⟨?_,(hm.load _).1⟩
  cases look with
  | true=>exact ⟨by simp [fO],c2,c3,by simp,by simp,by simp; omega,c6,c2,by simp,by simp,by simp,by simp⟩
  | false=>exact ⟨by simp [fO],c2,c3,fun _ _=>hi,fun _ _=>bw,by simp; omega,c6,c2,by simp,by simp,fun _=>au.ju hs _,by simp⟩
 ·simp
  exact ⟨⟨by simp [fO,e],c2,c3,by simp [e],by simp [e],⟨c5.1,c5.2.1,c5.2.2⟩,c6,c7,c8,c9,c10,c11⟩,hm⟩
 ·have hn:=(hm.load (aB t x.i 2)).2
  have hi:=c4 (by omega) (by omega)
  have bw:=qM (by omega) (by omega)
  simp [aE.l4]
  refine ⟨aE.Jp c2 c3 hi bw ?_ c6 c2,(hm.load _).1⟩
  have:=hn.1
  simp only
  split<;>omega
 ·have hn:=(hm.load (aB t x.i (4+x.level))).2
  have hi:=c4 (by omega) (by omega)
  have bw:=qM (by omega) (by omega)
  have hv:=c5.2.2 (.inl e)
  simp [aE.l5]
  refine ⟨?_,(hm.load _).1⟩
  split
  ·exact aE.Jp c2 hn hi bw (by simp only; omega) c6 c2
  ·exact ⟨by simp [fO],c2,hn,fun _ _=>hi,fun _ _=>bw,by simp; omega,c6,c2,by simp,fun _=>by simp only; omega,by simp,by simp⟩
 ·have hi:=c4 (by omega) (by omega)
  have bw:=qM (by omega) (by omega)
  have hv:=c5.2.2 (.inr e)
  have hc:=hm.bT (aX t x.i x.level) x.w (Q5 c3 (c9 (.inl e)))
  simp [aE.l6]
  refine ⟨?_,hc⟩
  split
  ·exact aE.Jp c2 c3 hi bw (by simp only; omega) c6 c2
  ·exact ⟨by simp [fO],c2,c3,fun _ _=>hi,fun _ _=>bw,by simp; omega,c6,c2,by simp,by simp,by simp,by simp⟩
 ·have hn:=(hm.load (aB t x.i 4)).2
  have hi:=c4 (by omega) (by omega)
  have bw:=qM (by omega) (by omega)
  simp [aE.l7]
  refine ⟨?_,(hm.load _).1⟩
  by_cases hk:bp≤(s.load (aB t x.i 4)).new
  ·simp only [hk,if_true]
   exact ⟨by simp [fO],c2,hn,fun _ _=>hi,fun _ _=>bw,by simp; omega,c6,c2,fun _=>hk,by simp,by simp,by simp⟩
  ·simp only [hk,if_false]
   exact ⟨by simp [fO],c2,hn,fun _ _=>hi,fun _ _=>bw,by simp; omega,c6,c2,by simp,fun _=>by simp only; omega,by simp,by simp⟩
 ·have hi:=c4 (by omega) (by omega)
  have bw:=qM (by omega) (by omega)
  have hc:=hm.bT (aX t x.i 0) x.w (Q5 c3 (c9 (.inr e)))
  simp [aE.l8]
  refine ⟨?_,hc⟩
  split
  ·exact ⟨by simp [fO],c2,c3,fun _ _=>hi,fun _ _=>bw,by simp; omega,c6,c2,by simp,by simp,by simp,by simp⟩
  ·exact ⟨by simp [fO],c2,c3,fun _ _=>hi,fun _ _=>bw,by simp; omega,c6,c2,by simp,by simp,by simp,by simp⟩
 ·have hi:=c4 (by omega) (by omega)
  have bw:=qM (by omega) (by omega)
  have hf:=(c10 e).step hs hm
  simp [aE.l10]
  refine ⟨?_,hf.2⟩
  by_cases h9:(x.find.step t s).1.line=9
  ·simp only [h9,if_true]
   exact ⟨by simp [fO],c2,c3,fun _ _=>hi,fun _ _=>bw,by simp; omega,c6,hf.1.by_,by simp,by simp,by simp,by simp⟩
  ·simp only [h9,if_false]
   exact ⟨by simp [fO],c2,c3,fun _ _=>hi,fun _ _=>bw,by simp; omega,c6,hf.1.by_,by simp,by simp,fun _=>hf.1,by simp⟩
 ·have hi:=c4 (by omega) (by omega)
  have bw:=qM (by omega) (by omega)
  simp [aE.l11]
  refine ⟨?_,(hm.add _ _).1⟩
  split
  ·exact ⟨by simp [fO],c2,c3,fun _ _=>hi,fun _ _=>bw,by simp; omega,c6,c2,by simp,by simp,by simp,fun _=>trivial⟩
  ·exact ⟨by simp [fO],c2,c3,by simp,by simp,by simp; omega,c6,c2,by simp,by simp,by simp,by simp⟩
 ·have hi:=c4 (by omega) (by omega)
  have bw:=qM (by omega) (by omega)
  have hr:=fz.ok.step (i:=x.i) hl hi.1 hi.2 (c11 e) hm
  simp [aE.l12]
  refine ⟨?_,hr.2⟩
  by_cases h9:(x.ret.step t x.i s).1.over=true
  ·simp only [h9,if_true]
   exact ⟨by simp [fO],c2,c3,by simp,by simp,by simp; omega,c6,dJ,by simp,by simp,by simp,by simp⟩
  ·simp only [h9,if_false]
   exact ⟨by simp [fO],c2,c3,fun _ _=>hi,fun _ _=>bw,by simp; omega,c6,dJ,by simp,by simp,by simp,fun _=>hr.1⟩
end
structure ak where
 ref:Int
 key:Int
 i:Int
 hi:Int
 fm:Bool
 line:Int
 level:Int
 w:Int
 find:au
 ret:fz
 by_:Int
def au.spot (x:au) (l:Int):dZ:=(x.told[l.toNat]?).getD ⟨-1,0,0⟩
section
variable (t:TW)
def ak.anew (x:ak) (l:Int):ak:={ x with find:=au.new t x.key,line:=l }
def ak.up (x:ak):ak:={ x with line:=if x.hi≤x.level then 9 else 4 }
def ak.dB (x:ak) (s:MS) (no yes:Int):ak×MS:=({ x with find:=(x.find.step t s).1,by_:=(x.find.step t s).1.by_,line:=if (x.find.step t s).1.line=9 then yes else no },(x.find.step t s).2)
def ak.l1 (x:ak) (s:MS):ak×MS:=({ (x.dB t s 1 2).1 with level:=if (x.find.step t s).1.line=9 then 0 else x.level },(x.dB t s 1 2).2)
def ak.l2 (x:ak) (s:MS):ak×MS :=
 (if x.level+1<x.hi then { x with by_:=x.ref,level:=x.level+1,line:=2 } else { x with by_:=x.ref,level:=0,line:=3 },s.store (aX t x.i x.level) (x.find.spot x.level).cur)
def ak.iM (x:ak) (s:MS):MS:=s.bT (aX t (x.find.spot x.level).pred x.level) (x.find.spot x.level).cur x.ref
def ak.l3 (x:ak) (s:MS):ak×MS :=
 (if (x.iM t s).held=true then ({ x with by_:=(x.find.spot x.level).known,fm:=true,level:=1 }:ak).up else ({ x with by_:=(x.find.spot x.level).known }:ak).anew t 1,x.iM t s)
def ak.l4 (x:ak) (s:MS):ak×MS :=
 ({ x with by_:=x.ref,w:=(s.load (aX t x.i x.level)).new,line:=if bp≤(s.load (aX t x.i x.level)).new then 9 else if (s.load (aX t x.i x.level)).new=(x.find.spot x.level).cur then 6 else 5 },s.load (aX t x.i x.level))
def ak.l5 (x:ak) (s:MS):ak×MS :=
 ({ x with by_:=x.ref,line:=if (s.bT (aX t x.i x.level) x.w (x.find.spot x.level).cur).held=true then 6 else 9 },s.bT (aX t x.i x.level) x.w (x.find.spot x.level).cur)
def ak.l6 (x:ak) (s:MS):ak×MS :=
 (if (x.iM t s).held=true then ({ x with by_:=(x.find.spot x.level).known,level:=x.level+1 }:ak).up else ({ x with by_:=(x.find.spot x.level).known }:ak).anew t 7,x.iM t s)
def ak.l89 (x:ak) (s:MS) (no:Int):ak×MS :=
 (if bp≤(s.load (aX t x.i 0)).new then ({ x with by_:=x.ref }:ak).anew t 10 else { x with by_:=x.ref,line:=no },s.load (aX t x.i 0))
def ak.l11 (x:ak) (s:MS):ak×MS :=
 (if (s.add (aB t x.i 3) 18446744073709551615).new=0 then { x with by_:=x.ref,ret:=.looks,line:=12 } else { x with by_:=x.ref,line:=0 },s.add (aB t x.i 3) 18446744073709551615)
def ak.l12 (x:ak) (s:MS):ak×MS:=({ x with by_:=0,ret:=(x.ret.step t x.i s).1,line:=if (x.ret.step t x.i s).1.over=true then 0 else 12 },(x.ret.step t x.i s).2)
def ak.step (x:ak) (s:MS):ak×MS :=
 if x.line=1 then x.l1 t s else if x.line=2 then x.l2 t s else if x.line=3 then x.l3 t s else if x.line=4 then x.l4 t s else if x.line=5 then x.l5 t s
 else if x.line=6 then x.l6 t s else if x.line=7 then x.dB t s 7 8 else if x.line=8 then x.l89 t s 4 else if x.line=9 then x.l89 t s 11
 else if x.line=10 then x.dB t s 10 11 else if x.line=11 then x.l11 t s else if x.line=12 then x.l12 t s else (x,s)
def ak.new (ref key i hi:Int):ak:=⟨ref,key,i,hi,false,1,0,0,au.new t key,.done,0⟩
end
def au.tok (t:TW) (x:au):Prop:=∀ y∈x.told,-1≤y.pred∧y.pred<t.size∧U y.known∧U y.cur
structure ak.ok (t:TW) (x:ak):Prop where
 line:x.line=0∨x.line=1∨x.line=2∨x.line=3∨x.line=4∨x.line=5∨x.line=6∨x.line=7∨x.line=8∨x.line=9∨x.line=10∨x.line=11∨x.line=12
 idx:0≤x.i∧x.i<t.size
 high:1≤x.hi∧x.hi≤t.ay
 ref:U x.ref
 aQ:0≤x.level∧x.level≤x.hi∧(x.line=2∨x.line=4∨x.line=5∨x.line=6∨x.line=7∨x.line=8→x.level<x.hi)∧(x.line=3→x.level=0)
 w:U x.w
 find:x.find.ok t
 tok:x.find.tok t
 zk:x.line=2∨x.line=3∨x.line=4∨x.line=5∨x.line=6∨x.line=8→x.find.line=9
 ret:x.line=12→x.ret.ok t
 by_:U x.by_
section
variable {t:TW} {x:au} {s:MS} {y:ak}
theorem au.Q6 (h:x.tok t) (h3:-1≤x.at_.pred∧x.at_.pred<t.size) (h4:U x.at_.known) (h5:U x.at_.cur):x.tell.tok t:=by
 unfold au.tell au.tok
 split<;>(simp only; intro y hy; rcases List.mem_or_eq_of_mem_set hy with hy | rfl<;>first | exact h y hy | exact ⟨h3.1,h3.2,h4,h5⟩)
theorem au.Jq (h:x.tok t) (h3:-1≤x.at_.pred∧x.at_.pred<t.size) (h4:U x.at_.known) (h5:U x.at_.cur):(x.looks t).tok t:=by
 unfold au.looks
 split
 ·exact au.Q6 h h3 h4 h5
 ·exact h
theorem au.tok.step (hs:t.sound) (h:x.ok t) (k:x.tok t) (hm:s.ok):(x.step t s).1.tok t:=by
 obtain ⟨c1,c2,c3,c4,c5,c6,c7,c8,c9,c10⟩:=h
 have hl:=fun a=>(hm.load a).2
 rcases c1 with e | e | e | e | e
 all_goals unfold au.step; simp only [e]
 ·have:=hl (aX t x.at_.pred x.l)
  simp
  split
  ·exact k
  ·exact au.Jq k c4 c5 this
 ·simp; exact k
 ·simp
  split
  ·exact au.Jq k c4 c5 (Eu c8 (c9.1 e))
  ·exact k
 ·simp
  have hi:=c7 (.inr (.inr e))
  split
  ·exact au.Q6 k c4 c5 c6
  ·refine au.Jq k ⟨by simp only; omega,?_⟩ c6 c8
   show aH t.size x.at_.cur<t.size
   unfold aH
   split
   ·have:=hs.2.2.1; omega
   ·omega
 ·simp; exact k
theorem au.Q7 (hs:t.sound) (key:Int):(au.new t key).tok t:=by
 intro y hy
 simp only [au.new,au.anew,au.zero] at hy
 rw [List.eq_of_mem_replicate hy]
 exact ⟨by simp,by have:=hs.2.2.1; simp; omega,dJ,dJ⟩
theorem au.aaR (h:x.ok t) (k:x.tok t) {l:Int} (h0:0≤l) (h1:l<t.ay):-1≤(x.spot l).pred∧(x.spot l).pred<t.size∧U (x.spot l).known∧U (x.spot l).cur:=by
 have hl:=h.told
 have:l.toNat<x.told.length:=by omega
 unfold au.spot
 rw [List.getElem?_eq_getElem this]
 exact k _ (List.getElem_mem _)
theorem ak.ok.step (hs:t.sound) (cR:t.fA) (h:y.ok t) (hm:s.ok):(y.step t s).1.ok t∧(y.step t s).2.ok:=by
 obtain ⟨c1,c2,c3,c4,c5,c6,c7,c8,c9,c10,c11⟩:=h
 obtain ⟨d1,d2,d3,d4⟩:=c5
 have hf:=c7.step hs hm
 have hk:=au.tok.step hs c7 c8 hm
 have g7:=fun (h1:y.level<t.ay)=>au.aaR c7 c8 d1 h1
 have nf:=au.ju hs y.key
 have nk:=au.Q7 hs y.key
 rcases c1 with e | e | e | e | e | e | e | e | e | e | e | e | e
 all_goals unfold ak.step; simp only [e]
 ·simp; exact ⟨⟨by simp [e],c2,c3,c4,⟨d1,d2,d3,d4⟩,c6,c7,c8,c9,c10,c11⟩,hm⟩
 ·simp [ak.l1,ak.dB]
  refine ⟨?_,hf.2⟩
  by_cases h9:(y.find.step t s).1.line=9
  ·simp [h9]
   exact ⟨by simp,c2,c3,c4,by simp; omega,c6,hf.1,hk,fun _=>h9,by simp,hf.1.by_⟩
  ·simp [h9]
   exact ⟨by simp,c2,c3,c4,by simp; omega,c6,hf.1,hk,by simp,by simp,hf.1.by_⟩
 ·have h9:=c9 (by simp [e])
  have hv:=d3 (by simp [e])
  simp [ak.l2]
  refine ⟨?_,hm.store _ (g7 (by omega)).2.2.2⟩
  split
  ·exact ⟨by simp,c2,c3,c4,by simp; omega,c6,c7,c8,fun _=>h9,by simp,c4⟩
  ·exact ⟨by simp,c2,c3,c4,by simp; omega,c6,c7,c8,fun _=>h9,by simp,c4⟩
 ·have h9:=c9 (by simp [e])
  have hv:=d4 e
  have hu:=g7 (by omega)
  simp [ak.l3]
  have hh:(y.iM t s).ok:=hm.bT _ _ c4
  refine ⟨?_,hh⟩
  by_cases hq:(y.iM t s).held=true
  ·rw [if_pos hq]
   unfold ak.up
   refine ⟨by simp only; split<;>simp,c2,c3,c4,?_,c6,c7,c8,fun _=>h9,?_,hu.2.2.1⟩
   ·simp only; split<;>simp<;>omega
   ·simp only; split<;>simp
  ·rw [if_neg hq]
   exact ⟨by simp [ak.anew],c2,c3,c4,by simp [ak.anew]; omega,c6,nf,nk,by simp [ak.anew],by simp [ak.anew],hu.2.2.1⟩
 ·have h9:=c9 (by simp [e])
  have hv:=d3 (by simp [e])
  have hl:=(hm.load (aX t y.i y.level))
  simp [ak.l4]
  refine ⟨⟨?_,c2,c3,c4,?_,hl.2,c7,c8,fun _=>h9,?_,c4⟩,hl.1⟩<;>simp only
  ·split
   ·simp
   ·split<;>simp
  ·split
   ·simp; omega
   ·split<;>simp<;>omega
  ·split
   ·simp
   ·split<;>simp
 ·have h9:=c9 (by simp [e])
  have hv:=d3 (by simp [e])
  have hu:=g7 (by omega)
  simp [ak.l5]
  refine ⟨⟨?_,c2,c3,c4,?_,c6,c7,c8,fun _=>h9,?_,c4⟩,hm.bT _ _ hu.2.2.2⟩<;>simp only
  ·split<;>simp
  ·split<;>simp<;>omega
  ·split<;>simp
 ·have h9:=c9 (by simp [e])
  have hv:=d3 (by simp [e])
  have hu:=g7 (by omega)
  simp [ak.l6]
  have hh:(y.iM t s).ok:=hm.bT _ _ c4
  refine ⟨?_,hh⟩
  by_cases hq:(y.iM t s).held=true
  ·rw [if_pos hq]
   unfold ak.up
   refine ⟨by simp only; split<;>simp,c2,c3,c4,?_,c6,c7,c8,fun _=>h9,?_,hu.2.2.1⟩
   ·simp only; split<;>simp<;>omega
   ·simp only; split<;>simp
  ·rw [if_neg hq]
   exact ⟨by simp [ak.anew],c2,c3,c4,by simp [ak.anew]; omega,c6,nf,nk,by simp [ak.anew],by simp [ak.anew],hu.2.2.1⟩
 ·have hv:=d3 (by simp [e])
  simp [ak.dB]
  refine ⟨?_,hf.2⟩
  by_cases h9:(y.find.step t s).1.line=9
  ·simp [h9]
   exact ⟨by simp,c2,c3,c4,by simp; omega,c6,hf.1,hk,fun _=>h9,by simp,hf.1.by_⟩
  ·simp [h9]
   exact ⟨by simp,c2,c3,c4,by simp; omega,c6,hf.1,hk,by simp,by simp,hf.1.by_⟩
 ·have h9:=c9 (by simp [e])
  have hv:=d3 (by simp [e])
  simp [ak.l89]
  refine ⟨?_,(hm.load _).1⟩
  split
  ·exact ⟨by simp [ak.anew],c2,c3,c4,by simp [ak.anew]; omega,c6,nf,nk,by simp [ak.anew],by simp [ak.anew],c4⟩
  ·exact ⟨by simp,c2,c3,c4,by simp; omega,c6,c7,c8,fun _=>h9,by simp,c4⟩
 ·simp [ak.l89]
  refine ⟨?_,(hm.load _).1⟩
  split
  ·exact ⟨by simp [ak.anew],c2,c3,c4,by simp [ak.anew]; omega,c6,nf,nk,by simp [ak.anew],by simp [ak.anew],c4⟩
  ·exact ⟨by simp,c2,c3,c4,by simp; omega,c6,c7,c8,by simp,by simp,c4⟩
 ·simp [ak.dB]
  refine ⟨?_,hf.2⟩
  by_cases h9:(y.find.step t s).1.line=9
  ·simp [h9]
   exact ⟨by simp,c2,c3,c4,by simp; omega,c6,hf.1,hk,by simp,by simp,hf.1.by_⟩
  ·simp [h9]
   exact ⟨by simp,c2,c3,c4,by simp; omega,c6,hf.1,hk,by simp,by simp,hf.1.by_⟩
 ·simp [ak.l11]
  refine ⟨?_,(hm.add _ _).1⟩
  split
  ·exact ⟨by simp,c2,c3,c4,by simp; omega,c6,c7,c8,by simp,fun _=>trivial,c4⟩
  ·exact ⟨by simp,c2,c3,c4,by simp; omega,c6,c7,c8,by simp,by simp,c4⟩
 ·have hr:=fz.ok.step (i:=y.i) cR c2.1 c2.2 (c10 e) hm
  simp [ak.l12]
  refine ⟨?_,hr.2⟩
  by_cases h9:(y.ret.step t y.i s).1.over=true
  ·simp [h9]; exact ⟨by simp,c2,c3,c4,by simp; omega,c6,c7,c8,by simp,by simp,dJ⟩
  ·simp [h9]; exact ⟨by simp,c2,c3,c4,by simp; omega,c6,c7,c8,by simp,fun _=>hr.1,dJ⟩
theorem ak.ju (hs:t.sound) {ref key i hi:Int} (h0:0≤i∧i<t.size) (h1:1≤hi∧hi≤t.ay) (hr:U ref):(ak.new t ref key i hi).ok t :=
 ⟨by simp [ak.new],h0,h1,hr,by simp [ak.new]; omega,dJ,au.ju hs key,au.Q7 hs key,by simp [ak.new],by simp [ak.new],dJ⟩
end
end Go.Proofs.YtphandknhnkhfaaGreat.Lift
