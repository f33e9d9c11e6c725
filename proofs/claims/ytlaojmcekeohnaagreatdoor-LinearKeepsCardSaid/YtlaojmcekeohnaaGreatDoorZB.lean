import Derived.Test.YtlaojmcekeohnaaGreatDoorZA
import Derived.Test.YtlaojmcekeohnaaGreatDoorGhPD
import Derived.Test.YtlaojmcekeohnaaGreatDoorGhEQ
import Derived.Test.YtlaojmcekeohnaaGreatDoorGhPG
set_option linter.unusedVariables false
set_option linter.unusedSimpArgs false
set_option maxRecDepth 20000
namespace Go.Proofs.YtlaojmcekeohnaaGreatDoor.Lift
open Go Go.Proofs.YtlaojmcekeohnaaGreatDoor.Gh Go.Proofs
theorem extNewQ {A G:GS} (h:Ext A G):Ext A G.newMap:=⟨h.nx,h.obj,Nat.le_trans h.nl (Nat.le_succ _),fun k hk=>by
 have:k≠G.nl:=by have:=h.nl; omega
 show (G.pushLoop _).loop k=_
 rw [GS.loop_push,if_neg this]; exact h.loop k hk⟩
section
variable {α:Type} {orc:FuncId→Bool} {e:RowE α} {m:Mac α} {inv:List α→Prop} {tx:List α→ByteArray} {B:GS} {fv nv uv tv lV bV:Value} {l:List Sp} {b:List Nat} {G:GS}
theorem ord1_Q {H:GS} {p3 p4 p6 l0 fl:Nat} {R:Lp} (hm:MacC orc e m inv tx B fv nv uv tv) (hB:Ext B H) (lt:p3<H.nx∧p4<H.nx∧p6<H.nx∧fl<H.nx) (hl0:l0<H.nl)
  (c3:H.obj p3=some ⟨[bV],1,false,1⟩) (c4:H.obj p4=some ⟨[lV],1,false,1⟩) (c6:H.obj p6=some ⟨[fv,nv,uv,tv],1,false,1⟩) (cf:H.obj fl=some ⟨[.bool false],1,false,1⟩) (r0:H.loop l0=some R)
  (hl:SlR rSp H lV l) (hb:SlR (rowsI .i64) H bV (rIQ b)) (okl:∀ c∈l,okOp c.op) (len:l.length≤11) (lenb:b.length≤3000)
  (yl:∀ (t:TeP),t.l0=l0→t.fl=fl→t.R=R→∀ (G1:GS) (v:Value),G1.loop l0=some R→G1.obj fl=some ⟨[.bool false],1,false,1⟩→fl<G1.nx→l0<G1.nl→∃ G2,(E orc).rd l0 [v] G1=some (.bool false,G2)∧Fd t G1 G2) :
  Wp ((E orc).cl 225 [.func (.yield l0) #[] #[],Pp p3,Pp p4,Pp p6] H) fun r=>r.1= .tuple #[]∧((¬ Goes m l b m.first 0∧Ext H r.2)∨(Goes m l b m.first 0∧H.nx≤r.2.nx∧(∀ g,g<H.nx→g≠fl→r.2.obj g=H.obj g)∧r.2.obj fl=some ⟨[.bool true],1,false,1⟩∧H.nl≤r.2.nl∧(∀ k,k<H.nl→k≠l0→r.2.loop k=H.loop k)∧∃ r',r.2.loop l0=some r' ∧r'.st= .done∧jumpOf r'.pend=some .ret)):=by
 obtain ⟨g1,g2,g3,g4⟩:=lt
 refine Wp.ref (f225 (exL_ok Q orc) _ _ _ _ H) ?_
 have n3:¬ p6=H.nx:=by omega
 have n4:¬ p6=H.nx+1:=by omega
 have n5:¬ p6=H.nx+1+1:=by omega
 have hsm:stO 1 0 (.map (some H.nl)) (some ⟨z320,1,false,1⟩)=some ⟨[.map (some H.nl)],1,false,1⟩:=rfl
 have mx:∀ G:GS,G.newMap.nx=G.nx:=fun _=>rfl
 have mo:∀ (G:GS) (g:Nat),G.newMap.obj g=G.obj g:=fun _ _=>rfl
 obtain ⟨G9,h9⟩:∃ G9,G9=(((((H.push ⟨[.func (.yield l0) #[] #[]],1,false,1⟩).newMap.push ⟨z320,1,false,1⟩).put (H.nx+1) ⟨[.map (some H.nl)],1,false,1⟩).push ⟨z321,1,false,1⟩).put (H.nx+1+1) ⟨[.func (.func 226) #[] #[Pp p3,Pp p4,Pp H.nx,Pp p6,Pp (H.nx+1),Pp (H.nx+1+1)]],1,false,1⟩):=⟨_,rfl⟩
 have x9:Ext H G9:=by
  rw [h9]
  exact Ext.put (Ext.push (Ext.put (Ext.push (extNewQ ((Ext.refl H).push _)) _) (by omega) _) _) (by omega) _
 have n9:G9.nx=H.nx+3:=by rw [h9]; simp [mx]
 have l9:G9.nl=H.nl+1:=by rw [h9]; rfl
 have ne2:¬ H.nx=H.nx+1+1:=by omega
 have o5:G9.obj H.nx=some ⟨[.func (.yield l0) #[] #[]],1,false,1⟩:=by rw [h9]; simp [mx,mo,ne2]
 have o7:G9.obj (H.nx+1)=some ⟨[.map (some H.nl)],1,false,1⟩:=by rw [h9]; simp [mx,mo]
 have o8:G9.obj (H.nx+1+1)=some ⟨[.func (.func 226) ⟨[]⟩ ⟨[Pp p3,Pp p4,Pp H.nx,Pp p6,Pp (H.nx+1),Pp (H.nx+1+1)]⟩],1,false,1⟩:=by rw [h9]; simp [mx,mo]
 have lp9:G9.loop H.nl=some (mpL []):=by rw [h9]; exact newMap_loop (H.push _)
 have te:Te orc e m inv tx 226 B ⟨p3,p4,H.nx,p6,H.nx+1,H.nx+1+1,H.nl,l0,fl,bV,lV,fv,nv,uv,tv,l,b,R⟩ G9 :=
  ⟨hm,hB.trans x9,⟨hB.nl,by simp only; omega⟩,⟨by simp only; omega,by simp only; omega⟩,⟨by simp only; omega,by simp only; omega,by simp only; omega,by simp only; omega,by simp only; omega,by simp only; omega,by simp only; omega⟩,
   (x9.obj _ g1).trans c3,(x9.obj _ g2).trans c4,o5,(x9.obj _ g3).trans c6,o7,o8,(x9.obj _ g4).trans cf,hb.ext x9,hl.ext x9,okl,len,lenb,(x9.loop _ hl0).trans r0,fun G1 v k1 k2 k3 k4=>yl _ rfl rfl rfl G1 v k1 k2 k3 k4⟩
 have hM:Mem m l inv tx H.nl (fun _ _=>False) G9:=⟨[],lp9,⟨fun _ h=>(by cases h),fun _ h=>(by cases h)⟩,fun _ h=>(by cases h)⟩
 obtain ⟨⟨r,G14⟩,et,ho⟩:=try_Q (2 ^ l.length) (fun _ _=>False) m.first 0 [] fv (.slice none 0 0) G9 (by simp) (Nat.two_pow_pos _) (by simp) (fun _ _ h=>h.elim) te hM (hm.first.ext (hB.trans x9)) hm.inv0 SlR.nil
 have et:(E orc).cl 226 [fv,.int .i64 0,.slice none 0 0,Pp p3,Pp p4,Pp H.nx,Pp p6,Pp (H.nx+1),Pp (H.nx+1+1)] G9=some (r,G14):=et
 simp [s225,mBox,Value.cells,nm,c6,n3,n4,n5,hsm,mx,mo,← h9,et]
 rcases ho with ⟨h1,h2,h3,h4⟩ | ⟨h1,h2,h3⟩
 ·left
  simp only [List.length_nil,List.drop_zero] at h2
  refine ⟨h2,Nat.le_trans x9.nx h3.nx,fun g hg=>(h3.obj g (by omega)).trans (x9.obj g hg),Nat.le_trans x9.nl h3.nl,fun k hk=>(h3.loop k (by omega) (by simp only; omega)).trans (x9.loop k hk)⟩
 ·right
  simp only [List.length_nil,List.drop_zero] at h2
  have y1:=h3.nx
  have y2:=h3.nl
  refine ⟨h2,by simp only at y1; omega,fun g hg hn=>(h3.obj g (by omega) hn).trans (x9.obj g hg),h3.fl,by simp only at y2; omega,fun k hk hn=>(h3.loop k (by omega) (by simp only; omega) hn).trans (x9.loop k hk),h3.l0⟩
theorem orders_Q (hl:SlR rSp G lV l) (hb:SlR (rowsI .i64) G bV (rIQ b)) :
  (E orc).cl 171 [.agg ⟨[fv,nv,uv,tv]⟩,lV,bV] G=some (.func (.func 225) ⟨[]⟩ ⟨[Pp (G.nx+2),Pp (G.nx+1),Pp G.nx]⟩,((G.push ⟨[fv,nv,uv,tv],1,false,1⟩).push ⟨[lV],1,false,1⟩).push ⟨[bV],1,false,1⟩):=by
 obtain ⟨la,lc,el⟩:=hl.len
 obtain ⟨ba,bc,eb⟩:=hb.len
 have w:Wp ((E orc).cl 171 [.agg ⟨[fv,nv,uv,tv]⟩,lV,bV] G) fun r=>r=(.func (.func 225) ⟨[]⟩ ⟨[Pp (G.nx+2),Pp (G.nx+1),Pp G.nx]⟩,((G.push ⟨[fv,nv,uv,tv],1,false,1⟩).push ⟨[lV],1,false,1⟩).push ⟨[bV],1,false,1⟩):=by
  refine Wp.ref (f171 (exL_ok Q orc) _ _ _ G) ?_
  subst el eb
  simp [s171,mBox,Value.cells]
 obtain ⟨r,h1,h2⟩:=w
 rw [h1,h2]
theorem begins_Q (hm:MacC orc e m inv tx B fv nv uv tv) (hB:Ext B G) (hl:SlR rSp G lV l) (hb:SlR (rowsI .i64) G bV (rIQ b)) (okl:∀ c∈l,okOp c.op) (len:l.length≤11) (lenb:b.length≤3000) :
  Wp ((E orc).cl 100 [.agg ⟨[fv,nv,uv,tv]⟩,lV,bV] G) fun r=>Ext G r.2∧(r.1= .bool true∧Goes m l b m.first 0∨r.1= .bool false∧¬ Goes m l b m.first 0):=by
 refine Wp.ref (f100 (exL_ok Q orc) _ _ _ G) ?_
 have x2:Ext G ((G.push ⟨[fv,nv,uv,tv],1,false,1⟩).push ⟨[.bool false],1,false,1⟩):=((Ext.refl G).push _).push _
 have e1:=orders_Q (orc:=orc) (fv:=fv) (nv:=nv) (uv:=uv) (tv:=tv) (hl.ext x2) (hb.ext x2)
 simp [s100,mBox,Value.cells,e1,loadO_whole]
 obtain ⟨T,hT⟩:∃ T,T=lst 12 (tu (nth undef [Value.agg { toList:=[fv,nv,uv,tv] },lV,bV]) [(10,Value.func (Fn.func 225) { toList:=[] } { toList:=[Pp (G.nx+1+1+2),Pp (G.nx+1+1+1),Pp (G.nx+1+1)] }),(9,bV),(8,lV),(7,Value.agg { toList:=[fv,nv,uv,tv] }),(6,Pp (G.nx+1)),(3,Pp G.nx)]):=⟨_,rfl⟩
 have T6:nth undef T 6=Pp (G.nx+1):=by rw [hT]; rfl
 have T12:T.length=12:=by rw [hT]; rfl
 rw [← hT]
 obtain ⟨H,hH⟩:∃ H,H=((((G.push ⟨[fv,nv,uv,tv],1,false,1⟩).push ⟨[.bool false],1,false,1⟩).push ⟨[fv,nv,uv,tv],1,false,1⟩).push ⟨[lV],1,false,1⟩).push ⟨[bV],1,false,1⟩:=⟨_,rfl⟩
 rw [← hH]
 have xH:Ext G H:=by rw [hH]; exact (((((Ext.refl G).push _).push _).push _).push _).push _
 have nH:H.nx=G.nx+5:=by rw [hH]; simp
 have lH:H.nl=G.nl:=by rw [hH]; rfl
 obtain ⟨R,hR⟩:∃ R,R=(⟨.ready,none,T,[11],subAt [1,0,1,0,0] (bodyOf Tryz.f100),subAt [1,0,1,0,1] (bodyOf Tryz.f100)⟩:Lp):=⟨_,rfl⟩
 rw [← hR]
 have xP:Ext G (H.pushLoop R):=⟨xH.nx,xH.obj,Nat.le_trans xH.nl (Nat.le_succ _),fun k hk=>by rw [GS.loop_push,if_neg (by omega)]; exact xH.loop k hk⟩
 have k1:∀ g,(H.pushLoop R).obj g=H.obj g:=fun _=>rfl
 have w:=ord1_Q (orc:=orc) (H:=H.pushLoop R) (p3:=G.nx+1+1+2) (p4:=G.nx+1+1+1) (p6:=G.nx+1+1) (l0:=G.nl) (fl:=G.nx+1) (R:=R) hm (hB.trans xP) (by show _<H.nx∧_<H.nx∧_<H.nx∧_<H.nx; omega) (by show _<H.nl+1; omega)
  (by rw [k1,hH]; simp) (by rw [k1,hH]; simp) (by rw [k1,hH]; simp) (by rw [k1,hH]; simp) (by rw [GS.loop_push,if_pos lH.symm]) (hl.ext xP) (hb.ext xP) okl len lenb ?yl
 case yl =>
  intro t t0 tf tR G1 v r1 r2 r3 r4
  have w:Wp ((E orc).rd G.nl [v] G1) fun q=>q=(.bool false,((G1.putLoop G.nl (R.setSt .busy)).put (G.nx+1) ⟨[.bool true],1,false,1⟩).putLoop G.nl { R.setSt .busy with st:=.done,pend:=some .ret }):=by
   refine Wp.ref (d100_0 (exL_ok Q orc) G.nl T v G1 (st:=.ready) (pend:=none) (by rw [r1,hR]) T12) ?_
   have hst:stO 1 0 (.bool true) (some ⟨[.bool false],1,false,1⟩)=some ⟨[.bool true],1,false,1⟩:=rfl
   have hR':R.st= .ready:=by rw [hR]
   simp [r100_0,T6,r1,hR',r2,hst,roundEnd,codeOf]
  obtain ⟨r,w1,w2⟩:=w
  rw [w2] at w1
  refine ⟨_,w1,⟨Nat.le_refl _,fun g hg hn=>?_,?_,Nat.le_refl _,fun k hk hn h0=>?_,?_⟩⟩
  ·rw [tf] at hn; simp [hn]
  ·rw [tf]; simp
  ·rw [t0] at h0; rw [GS.loop_put,if_neg h0]; show (G1.putLoop _ _).loop k=_; rw [GS.loop_put,if_neg h0]
  ·rw [t0]; exact ⟨_,by rw [GS.loop_put,if_pos rfl],rfl,rfl⟩
 obtain ⟨⟨r,G14⟩,e14,rfl,ho⟩:=w
 simp only at ho
 rw [show (evL Q orc).cl 225 [.func (.yield G.nl) #[] #[],Pp (G.nx+1+1+2),Pp (G.nx+1+1+1),Pp (G.nx+1+1)] (H.pushLoop R)=some (.tuple #[],G14) from e14]
 have pn:(H.pushLoop R).nx=G.nx+5:=nH
 have pl:(H.pushLoop R).nl=G.nl+1:=by show H.nl+1=_; omega
 rcases ho with ⟨h1,h2⟩ | ⟨h1,h2,h3,h4,h5,h6,r',h7,h8,h9⟩
 ·have q1:G14.loop G.nl=some R:=by rw [h2.loop _ (by omega),GS.loop_push,if_pos lH.symm]
  rw [xRangeEnd_some G.nl T _ G14 q1 (by rw [hR]; exact fun h=>by cases h) (e:=.normal) (by rw [hR]; rfl)]
  have q2:G14.obj (G.nx+1)=some ⟨[.bool false],1,false,1⟩:=by rw [h2.obj _ (by omega),k1,hH]; simp
  have hst:stO 1 0 (.bool false) (some ⟨[.bool false],1,false,1⟩)=some ⟨[.bool false],1,false,1⟩:=rfl
  simp [T6,q2,hst,h1]
  have xx:=xP.trans h2
  exact ⟨xx.nx,fun g hg=>by
   have:¬ g=G.nx+1:=by omega
   simp [this]; exact xx.obj g hg,xx.nl,fun k hk=>by
   have:¬ k=G.nl:=by omega
   show (G14.putLoop _ _).loop k=_
   rw [GS.loop_put,if_neg this]; exact xx.loop k hk⟩
 ·rw [xRangeEnd_some G.nl T _ G14 h7 (by rw [h8]; decide) h9]
  simp [T6,h4,h1]
  exact ⟨by show G.nx≤G14.nx; omega,fun g hg=>by
   show G14.obj g=_
   rw [h3 g (by omega) (by omega)]; exact xP.obj g hg,by show G.nl≤G14.nl; omega,fun k hk=>by
   have:¬ k=G.nl:=by omega
   rw [GS.loop_put,if_neg this,h6 k (by omega) this]; exact xP.loop k hk⟩
end
theorem dn_ltQ {n:Nat}:∀ {row:List Nat} {d:Nat},(∀ a∈row,a<n)→d<2 ^ n→dn row d<2 ^ n
 | [],d,_,h=>h
 | a::row,d,h1,h2=>dn_ltQ (row:=row) (fun x hx=>h1 x (List.mem_cons_of_mem _ hx)) (Nat.or_lt_two_pow h2 (by rw [Nat.shiftLeft_eq,Nat.one_mul]; exact Nat.pow_lt_pow_right (by decide) (h1 a (List.mem_cons_self ..))))
theorem dn_snocQ (row:List Nat) (a d:Nat):dn (row++[a]) d=dn row d ||| 1 <<< a:=by simp [dn,List.foldl_append]
theorem way_lenQ {α:Type} {m:Mac α} {l:List Sp} {s s2:List α} {d d2:Nat} {row:List Nat} (h:Way m l s d row s2 d2):d+row.length≤d2:=by
 induction h with
 | nil=>simp
 | cons h1 h2 h3 h4 h5 ih =>
  have:=or_gtQ h2.1
  simp only [List.length_cons]
  omega
section
variable {α:Type} {orc:FuncId→Bool} {e:RowE α} {m:Mac α} {inv:List α→Prop} {tx:List α→ByteArray} {B A:GS} {fv nv uv tv lV:Value} {l:List Sp}
theorem goes_rowQ {row:List Nat} (h:Goes m l row m.first 0):row.length≤dn row 0∧dn row 0<2 ^ l.length:=by
 obtain ⟨r,s2,d2,hw,_⟩:=h
 obtain ⟨h1,h2,_⟩:=way_fresh hw
 have h3:∀ a∈row,a<l.length:=fun a ha=>(h1 a (List.mem_append_left _ ha)).2
 obtain ⟨s1,d1,k1,_⟩:=way_app.1 hw
 have:=way_lenQ k1
 have e:=way_dn k1
 exact ⟨by omega,dn_ltQ h3 (Nat.two_pow_pos _)⟩
structure OrSQ (m:Mac α) (l:List Sp) (A G:GS) (rowv outv:Value) (row:List Nat):Prop where
 hA:Ext A G
 w1:OwR (rowsI .i64) A.nx G rowv (rIQ row)
 w2:OwR (rowsI .i64) A.nx G outv (row.map fun a=>(sp l a).id)
 sep:∀ g,InB rowv g→¬ InB outv g
 go:Goes m l row m.first 0
theorem OrSQ.ext {G G':GS} {rowv outv:Value} {row:List Nat} (h:OrSQ m l A G rowv outv row) (x:Ext G G'):OrSQ m l A G' rowv outv row:=⟨h.hA.trans x,h.w1.ext x,h.w2.ext x,h.sep,h.go⟩
def OrPQ (m:Mac α) (l:List Sp) (A:GS) (lV:Value) (p2:Nat) (row:List Nat) (q:Exit×Env×GS):Prop :=
 q.1= .exit 2∧∃ a,q.2.1 1=lV∧q.2.1 2=Pp p2∧q.2.1 8= .int .i64 (dn (row++[a]) 0:Nat)∧OrSQ m l A q.2.2 (q.2.1 6) (q.2.1 7) (row++[a])
theorem ordIn_Q (hm:MacC orc e m inv tx B fv nv uv tv) (hB:Ext B A) (hl:SlR rSp A lV l) (okl:∀ c∈l,okOp c.op) (len:l.length≤11) {p2:Nat} (c2:A.obj p2=some ⟨[fv,nv,uv,tv],1,false,1⟩) (hp2:p2<A.nx) {row:List Nat} {rowv outv:Value} :
  ∀ (k i:Nat) (τ:Env) (G:GS),i+k=l.length→(∃ a,i≤a∧a<l.length∧rdyP l (dn row 0) a∧Goes m l (row++[a]) m.first 0)→τ 1=lV→τ 2=Pp p2→τ 6=rowv→τ 7=outv→τ 8= .int .i64 (dn row 0:Nat)→τ 20=lV→τ 21= .int .i64 l.length→τ 22= .int .i64 (i:Int)→OrSQ m l A G rowv outv row →
  Wp ((exL Q orc).lpx 40 1 τ G) (OrPQ m l A lV p2 row):=by
 intro k
 induction k with
 | zero=>rintro i τ G hi ⟨a,h1,h2,_⟩; omega
 | succ k ih =>
  intro i τ G hi hex t1 t2 t6 t7 t8 t20 t21 t22 hS
  have hlt:i<l.length:=by omega
  have hw:IntKind.wrap .i64 ((i:Int)+1)=((i+1:Nat):Int):=wrap64 (by omega) (by omega)
  have h1:(i:Int)<l.length:=by omega
  have h2:(0:Int)≤i:=by omega
  have h3:¬ ((i:Int)<0):=by omega
  obtain ⟨hrl,hdl⟩:=goes_rowQ hS.go
  have h2k:2 ^ l.length≤2 ^ 11:=Nat.pow_le_pow_right (by decide) len
  have hd60:dn row 0<2 ^ 60:=Nat.lt_of_lt_of_le hdl (Nat.pow_le_pow_right (by decide) (by omega))
  obtain ⟨b,o,cc,e0,hbG,_,hz⟩:=(hl.ext hS.hA).at hlt
  have hsp:=sp_at hlt
  rw [rSp_sz,← hsp,loadA_eq] at hz
  have hst:stO 10 0 (.agg ⟨rSp.row (sp l i)⟩) (some ⟨z29,1,false,1⟩)=some ⟨rSp.row (sp l i),1,false,1⟩:=rfl
  have hid:(rSp.row (sp l i))[0]? =some (.int .i64 (sp l i).id):=rfl
  generalize hri:rSp.row (sp l i)=ri at *
  obtain ⟨G5,hG5⟩:∃ G5,G5=(G.push ⟨z29,1,false,1⟩).put G.nx ⟨ri,1,false,1⟩:=⟨_,rfl⟩
  have x5:Ext G G5:=by rw [hG5]; exact ((Ext.refl G).push _).put (Nat.le_refl _) _
  have o5:G5.obj G.nx=some ⟨ri,1,false,1⟩:=by rw [hG5]; simp
  have n5:G.nx<G5.nx:=by rw [hG5]; simp
  have hS5:=(hS.ext x5).ext ((Ext.refl G5).room 14)
  obtain ⟨G6,x6,hrd⟩:=ready_ok orc (hl.ext hS5.hA) (by omega) hd60 hlt
  rw [e0] at hrd
  have hS6:=hS5.ext x6
  have o26:=(hS6.hA.obj _ hp2).trans c2
  rcases hrd with ⟨er5,hrp⟩ | ⟨er5,hrp⟩
  ·obtain ⟨cv,G11,e11,x11,w11⟩:=cloneI_ok orc hS6.w1.is (by simp; omega)
   have hS11:=hS6.ext x11
   have o211:=(hS11.hA.obj _ hp2).trans c2
   have y6:=x6.nx
   have y11:=x11.nx
   simp at y6
   have xD:Ext G5 (((G11.at' (G5.nx+10)).push ⟨[.int .i64 (i:Int)],1,false,1⟩).back G11):=drawn0 (((Ext.refl G5).room 14).trans (x6.trans x11)) (by omega) _
   have sl:SlR (rowsI .i64) (((G11.at' (G5.nx+10)).push ⟨[.int .i64 (i:Int)],1,false,1⟩).back G11) (.slice (some ⟨G5.nx+10,0,none⟩) 1 1) [(i:Int)]:=SlR.oneD (rowsI .i64) G11 (i:Int) (by omega)
   have w26:OwR (rowsI .i64) G5.nx (((G11.at' (G5.nx+10)).push ⟨[.int .i64 (i:Int)],1,false,1⟩).back G11) cv (rIQ row):=by
    refine (w11.same (by simp) fun p n c he=>?_).mono (by omega)
    have:=w11.ge p n c he
    have hne:¬ p.block=G5.nx+10:=by omega
    simp [hne]
   obtain ⟨cv',G16,e16,x16,w16⟩:=OwR.app (ib:=8) w26 (by decide) xD sl (by simp; omega)
   rw [show (rowsI .i64).sz=1 from rfl] at e16
   have hS16:OrSQ m l A G16 rowv outv row:=(hS.ext x5).ext x16
   have o216:=(hS16.hA.obj _ hp2).trans c2
   obtain ⟨⟨r,G18⟩,e18,x18,hr18⟩:=begins_Q (orc:=orc) (b:=row++[i]) hm (hB.trans hS16.hA) (hl.ext hS16.hA) (bV:=cv') (by have:=w16.is; rw [rIQ,List.map_append]; exact this) okl len (by simp; omega)
   simp only at x18 hr18
   rw [e0] at e18
   have hS18:=hS16.ext x18
   refine Wp.lp (l40_1 (exL_ok Q orc)) ?_
   rcases hr18 with ⟨rfl,hg⟩ | ⟨rfl,hg⟩
   ·simp [-Int.natCast_add,b40_1,clip_t,t1,t2,t6,t7,t8,t20,t21,t22,e0,h1,h2,hlt,hz,hst,← hG5,er5,o26,e11,o211,e16,o216,hm.sm,loadO_whole,sameO,e18]
    have n16:G5.nx≤G16.nx:=x16.nx
    have n18:=x18.nx
    have neq:¬ G.nx=G18.nx+2:=by omega
    have o18:G18.obj G.nx=some ⟨ri,1,false,1⟩:=(x18.obj _ (by omega)).trans ((x16.obj _ n5).trans o5)
    obtain ⟨G22,hG22⟩:∃ G22,G22=(((G18.room 16).at' (G18.nx+2)).push ⟨[.int .i64 (i:Int)],1,false,1⟩).back (G18.room 16):=⟨_,rfl⟩
    have x22:Ext G18 G22:=by rw [hG22]; exact drawn0 ((Ext.refl G18).room 16) (by omega) _
    have n22:G22.nx=G18.nx+16:=by rw [hG22]; simp
    have sl22:SlR (rowsI .i64) G22 (.slice (some ⟨G18.nx+2,0,none⟩) 1 1) [(i:Int)]:=by rw [hG22]; exact SlR.oneD (rowsI .i64) (G18.room 16) (i:Int) (by simp)
    have hS22:=hS18.ext x22
    obtain ⟨rv',G23,e23,m23,w23⟩:=hS22.w1.app_mod (ib:=8) (by decide) sl22 (by simp) (by simp; omega)
    rw [show (rowsI .i64).sz=1 from rfl] at e23
    have n23:=m23.nx
    have o23:G23.obj G.nx=some ⟨ri,1,false,1⟩:=by
     rw [m23.obj _ (by omega) (fun h=>by have:=hS22.w1.is.under _ h; have:=hS.w1.is.under _ h; omega)]
     exact (x22.obj _ (by omega)).trans o18
    obtain ⟨G28,hG28⟩:∃ G28,G28=((G23.at' (G18.nx+7)).push ⟨[.int .i64 (sp l i).id],1,false,1⟩).back G23:=⟨_,rfl⟩
    have sl28:SlR (rowsI .i64) G28 (.slice (some ⟨G18.nx+7,0,none⟩) 1 1) [(sp l i).id]:=by rw [hG28]; exact SlR.oneD (rowsI .i64) G23 (sp l i).id (by omega)
    have k28:∀ g,g≠G18.nx+7→G28.obj g=G23.obj g:=fun g hg=>by rw [hG28]; simp [hg]
    have w2G:OwR (rowsI .i64) A.nx G28 outv (row.map fun a=>(sp l a).id):=by
     refine hS22.w2.kept (by rw [hG28]; simp; omega) fun g hg=>?_
     have hlt':=hS.w2.is.under g hg
     rw [k28 g (by have:=x5.nx; omega),m23.obj g (by have:=x5.nx; omega) (fun h=>hS.sep g h hg)]
    obtain ⟨ov',G29,e29,m29,w29⟩:=w2G.app_mod (ib:=8) (by decide) sl28 (by simp) (by simp; omega)
    rw [show (rowsI .i64).sz=1 from rfl] at e29
    have hor:=or1 hd60 (show i<60 by omega)
    have hsame:∀ x:Int,same (.int .i64 x) (.int .i64 x)=true:=fun x=>by simp [same,sameD]
    simp [-Int.natCast_add,← hG22,e23,o23,o18,neq,hid,hsame,← hG28,e29,h3,hor.1]
    have n28:G28.nx=G23.nx:=by rw [hG28]; rfl
    have y29:=m29.nx
    have hAn:=hS18.hA.nx
    have xA:Ext A G29:=by
     refine ⟨by omega,fun g hg=>?_,?_,fun k hk=>?_⟩
     ·rw [m29.obj g (by omega) (fun h=>by have:=w2G.from h; omega),k28 g (by omega),m23.obj g (by omega) (fun h=>by have:=hS22.w1.from h; omega)]
      exact hS22.hA.obj g hg
     ·have z1:=hS22.hA.nl
      have z2:=m23.nl
      have z3:G28.nl=G23.nl:=by rw [hG28]; rfl
      have z4:=m29.nl
      omega
     ·have z1:=hS22.hA.nl
      have z2:=m23.nl
      have z3:G28.nl=G23.nl:=by rw [hG28]; rfl
      rw [m29.loop k (by omega)]
      have:G28.loop k=G23.loop k:=by rw [hG28]; rfl
      rw [this,m23.loop k (by omega)]
      exact hS22.hA.loop k hk
    refine ⟨rfl,i,by simp [clip_t,e0],by simp [clip_t],by simp [clip_t,dn_snocQ],xA,?_,?_,?_,hg⟩
    ·have t6':∀ x:Value,x=rv' →OwR (rowsI .i64) A.nx G29 x (rIQ (row++[i])):=fun x hx=>by
      subst hx
      have:=(w23.kept (G':=G29) (by omega) fun g hgb=>by
       have k1:=w23.from hgb
       have k2:=w23.is.under g hgb
       rw [m29.obj g (by omega) (fun h=>by have:=hS.w2.is.under g h; have:=x5.nx; omega),k28 g (by omega)]).mono (B':=A.nx) (by omega)
      rw [rIQ,List.map_append]
      exact this
     exact t6' _ (by simp [clip_t])
    ·have t7':∀ x:Value,x=ov' →OwR (rowsI .i64) A.nx G29 x ((row++[i]).map fun a=>(sp l a).id):=fun x hx=>by
      subst hx
      have:=w29.mono (B':=A.nx) (by omega)
      rw [List.map_append]
      exact this
     exact t7' _ (by simp [clip_t])
    ·have t8':∀ x y:Value,x=rv' →y=ov' →∀ g,InB x g→¬ InB y g:=fun x y hx hy g h1 h2=>by
      subst hx hy
      have:=w23.is.under g h1
      have:=w29.from h2
      omega
     exact t8' _ _ (by simp [clip_t]) (by simp [clip_t])
   ·simp [-Int.natCast_add,b40_1,clip_t,t1,t2,t6,t7,t8,t20,t21,t22,e0,h1,h2,hlt,hz,hst,← hG5,er5,o26,e11,o211,e16,o216,hm.sm,loadO_whole,sameO,e18,hw]
    obtain ⟨a,k1,k2,k3,k4⟩:=hex
    have hai:a≠i:=fun h=>hg (h▸k4)
    refine Wp.mono (ih (i+1) _ G18 (by omega) ⟨a,by omega,k2,k3,k4⟩ (by simp [clip_t,e0]) (by simp [clip_t]) (by simp [clip_t]) (by simp [clip_t]) (by simp [clip_t]) (by simp [clip_t,e0]) (by simp [clip_t]) (by simp [clip_t]) hS18) fun q hq=>by rw [← e0]; exact hq
  ·refine Wp.lp (l40_1 (exL_ok Q orc)) ?_
   simp [-Int.natCast_add,b40_1,clip_t,t1,t2,t6,t7,t8,t20,t21,t22,e0,h1,h2,hlt,hz,hst,← hG5,er5,hw]
   obtain ⟨a,k1,k2,k3,k4⟩:=hex
   have hai:a≠i:=fun h=>hrp (h▸k3)
   refine Wp.mono (ih (i+1) _ G6 (by omega) ⟨a,by omega,k2,k3,k4⟩ (by simp [clip_t,e0]) (by simp [clip_t]) (by simp [clip_t]) (by simp [clip_t]) (by simp [clip_t]) (by simp [clip_t,e0]) (by simp [clip_t]) (by simp [clip_t]) hS6) fun q hq=>by rw [← e0]; exact hq
end
section
variable {α:Type} {orc:FuncId→Bool} {e:RowE α} {m:Mac α} {inv:List α→Prop} {tx:List α→ByteArray} {B A G:GS} {fv nv uv tv lV:Value} {l:List Sp}
def OfPQ (m:Mac α) (l:List Sp) (A:GS) (q:Exit×Env×GS):Prop:=q.1= .exit 0∧∃ rowv row,OrSQ m l A q.2.2 rowv (q.2.1 7) row∧ovrP l (dn row 0)
theorem ordOut_Q (hm:MacC orc e m inv tx B fv nv uv tv) (hB:Ext B A) (hl:SlR rSp A lV l) (okl:∀ c∈l,okOp c.op) (len:l.length≤11) {p2:Nat} (c2:A.obj p2=some ⟨[fv,nv,uv,tv],1,false,1⟩) (hp2:p2<A.nx) :
  ∀ (n:Nat) (row:List Nat) (τ:Env) (G:GS),2 ^ l.length≤dn row 0+n→τ 1=lV→τ 2=Pp p2→τ 8= .int .i64 (dn row 0:Nat)→OrSQ m l A G (τ 6) (τ 7) row →
  Wp ((exL Q orc).lpx 40 0 τ G) (OfPQ m l A):=by
 intro n
 induction n with
 | zero=>intro row τ G hn t1 t2 t8 hS; have:=(goes_rowQ hS.go).2; omega
 | succ n ih =>
  intro row τ G hn t1 t2 t8 hS
  obtain ⟨hrl,hdl⟩:=goes_rowQ hS.go
  have hd60:dn row 0<2 ^ 60:=Nat.lt_of_lt_of_le hdl (Nat.pow_le_pow_right (by decide) (by omega))
  obtain ⟨la,lc,el⟩:=hl.len
  have lenl:∀ x,ln Q true x lV=some (.int .i64 l.length):=fun x=>by rw [el]; simp
  obtain ⟨G1,x1,hov⟩:=over_ok orc (hl.ext hS.hA) (by omega) hd60
  refine Wp.lp (l40_0 (exL_ok Q orc)) ?_
  rcases hov with ⟨eo,ho⟩ | ⟨eo,ho⟩
  ·simp [-Int.natCast_add,b40_0,clip_t,t1,t8,eo]
   refine ⟨rfl,τ 6,row,?_,ho⟩
   have:=hS.ext x1
   have t7:∀ x:Value,x=τ 7→OrSQ m l A G1 (τ 6) x row:=fun x hx=>by rw [hx]; exact this
   exact t7 _ (by simp [clip_t])
  ·simp [-Int.natCast_add,b40_0,clip_t,t1,t8,eo,lenl]
   obtain ⟨a,k1,k2,k3⟩:=goes_more m l hS.go ho
   refine Wp.bE ((ordIn_Q hm hB hl okl len c2 hp2 (rowv:=τ 6) (outv:=τ 7) (row:=row) l.length 0 _ G1 (by omega) ⟨a,Nat.zero_le _,k1,k2,k3⟩ (by simp [clip_t,t1]) (by simp [clip_t,t2]) (by simp [clip_t]) (by simp [clip_t]) (by simp [clip_t,t8]) (by simp [clip_t]) (by simp [clip_t]) (by simp [clip_t]) (hS.ext x1)).mono ?_)
   rintro ⟨ee,τ',G'⟩ ⟨q1,a',q2,q3,q4,q5⟩
   simp only at q1 q2 q3 q4 q5
   subst q1
   simp [-Int.natCast_add]
   have hgt:dn row 0<dn (row++[a']) 0:=by
    obtain ⟨r,s2,d2,hw,_⟩:=q5.go
    obtain ⟨s1,d1,w1,w2⟩:=way_app.1 hw
    obtain ⟨s3,d3,w3,w4⟩:=way_app.1 w1
    have e3:=way_dn w3
    have e1:=way_dn w1
    have:=way_lenQ w4
    simp at this
    omega
   refine ih (row++[a']) _ G' (by omega) (by simp [clip_t,q2]) (by simp [clip_t,q3]) (by simp [clip_t,q4]) ?_
   have t67:∀ x y:Value,x=τ' 6→y=τ' 7→OrSQ m l A G' x y (row++[a']):=fun x y hx hy=>by rw [hx,hy]; exact q5
   exact t67 _ _ (by simp [clip_t]) (by simp [clip_t])
theorem order_Q (hm:MacC orc e m inv tx B fv nv uv tv) (hB:Ext B G) (hl:SlR rSp G lV l) (okl:∀ c∈l,okOp c.op) (len:l.length≤11) :
  Wp ((E orc).cl 40 [.agg ⟨[fv,nv,uv,tv]⟩,lV] G) fun r=>Ext G r.2∧(r.1= .tuple #[.slice none 0 0,.bool false]∧¬ Goes m l [] m.first 0∨∃ outv row s2,r.1= .tuple #[outv,.bool true]∧Way m l m.first 0 row s2 (dn row 0)∧ovrP l (dn row 0)∧OwR (rowsI .i64) G.nx r.2 outv (row.map fun a=>(sp l a).id)):=by
 refine Wp.ref (f40 (exL_ok Q orc) _ _ G) ?_
 have xA:Ext G (G.push ⟨[fv,nv,uv,tv],1,false,1⟩):=(Ext.refl G).push _
 have cA:(G.push ⟨[fv,nv,uv,tv],1,false,1⟩).obj G.nx=some ⟨[fv,nv,uv,tv],1,false,1⟩:=by simp
 have nA:G.nx<(G.push ⟨[fv,nv,uv,tv],1,false,1⟩).nx:=by simp
 obtain ⟨A,hA⟩:∃ A,A=G.push ⟨[fv,nv,uv,tv],1,false,1⟩:=⟨_,rfl⟩
 rw [← hA] at xA cA nA
 obtain ⟨⟨r,G4⟩,eb,x4,hr⟩:=begins_Q (orc:=orc) (b:=[]) hm (hB.trans xA) (hl.ext xA) (bV:=.slice none 0 0) SlR.nil okl len (by simp)
 simp only at x4 hr
 rcases hr with ⟨rfl,hg⟩ | ⟨rfl,hg⟩
 ·simp [-Int.natCast_add,s40,mBox,Value.cells,← hA,cA,loadO_whole,eb]
  refine Wp.bE ((ordOut_Q hm (hB.trans xA) (hl.ext xA) okl len cA nA (2 ^ l.length) [] _ G4 (by simp [dn]) (by simp) (by simp) (by simp [dn]) ?_).mono ?_)
  ·exact ⟨x4,OwR.nil _ _,OwR.nil _ _,fun g h=>by simp [InB] at h,hg⟩
  ·rintro ⟨ee,τ',G'⟩ ⟨q1,rowv,row,q2,q3⟩
   simp only at q1 q2 q3
   subst q1
   simp
   obtain ⟨r,s2,d2,hw,_⟩:=q2.go
   obtain ⟨s1,d1,w1,w2⟩:=way_app.1 hw
   have e1:=way_dn w1
   rw [e1] at w1
   exact ⟨xA.trans q2.hA,row,⟨s1,w1⟩,q3,q2.w2.mono (by omega)⟩
 ·simp [-Int.natCast_add,s40,mBox,Value.cells,← hA,cA,loadO_whole,eb]
  exact ⟨xA.trans x4,hg⟩
end
def isLoose (c:Sp):Bool:=decide (c.to<0)&&decide (c.op.1=7)
def looseP (l:List Sp):Nat:=(l.filter isLoose).length
theorem looseP_snoc {l:List Sp} {i:Nat} (h:i<l.length):looseP (l.take (i+1))=looseP (l.take i)+if isLoose (sp l i) then 1 else 0:=by
 unfold looseP
 rw [← List.take_append_getElem h,List.filter_append,List.length_append,sp_at h]
 congr 1
 cases hl:isLoose l[i]<;>simp [hl]
theorem looseP_le (l:List Sp):looseP l≤l.length:=List.length_filter_le _ _
section
variable {A:GS} {l:List Sp} {v0:Value}
theorem loose_lp (orc:FuncId→Bool) (hs:SlR rSp A v0 l) (hlen:l.length≤50):∀ (k i:Nat) (τ:Env) (G:GS),i+k=l.length→τ 3= .int .i64 (looseP (l.take i):Nat)→τ 6=v0→τ 7= .int .i64 l.length→τ 8= .int .i64 (i:Int)→Ext A G →
  Wp ((exL Q orc).lpx 99 0 τ G) fun q=>Ext A q.2.2∧q.1= .exit 0∧q.2.1 3= .int .i64 (looseP l:Nat):=by
 intro k
 induction k with
 | zero =>
  intro i τ G hi t3 t6 t7 t8 hA
  have hi':i=l.length:=by omega
  subst hi'
  rw [List.take_length] at t3
  refine Wp.lp (l99_0 (exL_ok Q orc)) ?_
  simp [b99_0,clip_t,t3,t6,t7,t8,hA]
 | succ k ih =>
  intro i τ G hi t3 t6 t7 t8 hA
  have hlt:i<l.length:=by omega
  have hw:IntKind.wrap .i64 ((i:Int)+1)=((i+1:Nat):Int):=wrap64 (by omega) (by omega)
  have hlo:looseP (l.take i)≤50:=Nat.le_trans (looseP_le _) (by rw [List.length_take]; omega)
  have hw2:IntKind.wrap .i64 ((looseP (l.take i):Int)+1)=((looseP (l.take i)+1:Nat):Int):=wrap64 (by omega) (by omega)
  have h1:(i:Int)<l.length:=by omega
  have h2:(0:Int)≤i:=by omega
  obtain ⟨b,o,c,e0,_,_,hz⟩:=(hs.ext hA).at hlt
  have hsp:=sp_at hlt
  rw [rSp_sz,← hsp,loadA_eq] at hz
  have hst:stO 10 0 (.agg ⟨rSp.row (sp l i)⟩) (some ⟨z29,1,false,1⟩)=some ⟨rSp.row (sp l i),1,false,1⟩:=rfl
  rw [rSp_row] at hz hst
  have hsn:=looseP_snoc hlt
  refine Wp.lp (l99_0 (exL_ok Q orc)) ?_
  by_cases ht:(sp l i).to<0
  ·by_cases hk:(sp l i).op.1=7
   ·simp [-Int.natCast_add,b99_0,clip_t,t3,t6,t7,t8,e0,h1,h2,hlt,hz,hst,ht,hk,hw,hw2]
    rw [show isLoose (sp l i)=true by simp [isLoose,ht,hk],if_pos rfl] at hsn
    refine ih (i+1) _ _ (by omega) (by rw [hsn]; simp [clip_t]) (by simp [clip_t,e0]) (by simp [clip_t]) (by simp [clip_t]) ((hA.push _).put hA.nx _)
   ·simp [-Int.natCast_add,b99_0,clip_t,t3,t6,t7,t8,e0,h1,h2,hlt,hz,hst,ht,hk,hw]
    rw [show isLoose (sp l i)=false by simp [isLoose,hk]] at hsn
    simp only [Bool.false_eq_true,if_false,Nat.add_zero] at hsn
    refine ih (i+1) _ _ (by omega) (by rw [hsn]; simp [clip_t]) (by simp [clip_t,e0]) (by simp [clip_t]) (by simp [clip_t]) ((hA.push _).put hA.nx _)
  ·simp [-Int.natCast_add,b99_0,clip_t,t3,t6,t7,t8,e0,h1,h2,hlt,hz,hst,ht,hw]
   rw [show isLoose (sp l i)=false by simp [isLoose,ht]] at hsn
   simp only [Bool.false_eq_true,if_false,Nat.add_zero] at hsn
   refine ih (i+1) _ _ (by omega) (by rw [hsn]; simp [clip_t]) (by simp [clip_t,e0]) (by simp [clip_t]) (by simp [clip_t]) ((hA.push _).put hA.nx _)
theorem loose_ok (orc:FuncId→Bool) (hs:SlR rSp A v0 l) (hlen:l.length≤50):∃ G',(E orc).cl 99 [v0] A=some (.int .i64 (looseP l:Nat),G')∧Ext A G':=by
 have w:Wp ((E orc).cl 99 [v0] A) fun q=>Ext A q.2∧q.1= .int .i64 (looseP l:Nat):=by
  refine Wp.ref (f99 (exL_ok Q orc) _ A) ?_
  obtain ⟨a,c,e0⟩:=hs.len
  have lc:ln Q true 38 v0=some (.int .i64 l.length):=by rw [e0]; simp
  simp [s99,lc]
  refine Wp.bE ((loose_lp orc hs hlen l.length 0 _ A (by omega) (by simp [looseP]) (by simp) (by simp) (by simp) (Ext.refl A)).mono ?_)
  rintro ⟨ee,τ,G'⟩ ⟨h0,h1,h2⟩
  simp only at h0 h1 h2
  subst h1
  simp [h0,h2]
 obtain ⟨⟨v,G'⟩,e1,h1,h2⟩:=w
 simp only at h1 h2
 rw [h2] at e1
 exact ⟨G',e1,h1⟩
end
section
variable {A:GS} {l:List Sp} {v0:Value}
theorem ids_lp (orc:FuncId→Bool) (hs:SlR rSp A v0 l) (hlen:l.length≤50) {lv:Nat} (hlv:A.nl≤lv):∀ (k i:Nat) (τ:Env) (G:GS) (es:List (Value×Value)),i+k=l.length→τ 7= .map (some lv)→τ 40=v0→τ 41= .int .i64 l.length→τ 42= .int .i64 (i:Int)→Ext A G→lv<G.nl→G.loop lv=some (mpL es)→GoodE gInt gInt es→(∀ x:Int,(∃ e∈es,e.1= .int .i64 x)↔x∈(l.take i).map (·.id))→((l.take i).map (·.id)).Nodup →
  Wp ((exL Q orc).lpx 39 0 τ G) fun q=>Ext A q.2.2∧((q.1= .exit 1∧(l.map (·.id)).Nodup)∨(q.1= .ret∧¬ (l.map (·.id)).Nodup∧q.2.1 6= .int .i64 8)):=by
 intro k
 induction k with
 | zero =>
  intro i τ G es hi t7 t40 t41 t42 hA hlG hl hg hk hn
  have hi':i=l.length:=by omega
  subst hi'
  rw [List.take_length] at hn
  refine Wp.lp (l39_0 (exL_ok Q orc)) ?_
  simp [b39_0,clip_t,t7,t40,t41,t42,hA]
  exact hn
 | succ k ih =>
  intro i τ G es hi t7 t40 t41 t42 hA hlG hl hg hk hn
  have hlt:i<l.length:=by omega
  have hw:IntKind.wrap .i64 ((i:Int)+1)=((i+1:Nat):Int):=wrap64 (by omega) (by omega)
  have h1:(i:Int)<l.length:=by omega
  have h2:(0:Int)≤i:=by omega
  obtain ⟨b,o,c,e0,_,_,hz⟩:=(hs.ext hA).at hlt
  have hsp:=sp_at hlt
  rw [rSp_sz,← hsp,loadA_eq] at hz
  have hst:stO 10 0 (.agg ⟨rSp.row (sp l i)⟩) (some ⟨z29,1,false,1⟩)=some ⟨rSp.row (sp l i),1,false,1⟩:=rfl
  rw [rSp_row] at hz hst
  have htk:(l.take (i+1)).map (·.id)=(l.take i).map (·.id)++[(sp l i).id]:=by rw [← List.take_append_getElem hlt,List.map_append,hsp]; rfl
  have hu:Q.underlying 175=some (.map 3 3):=Tryz.underlying175
  have x5:Ext A ((G.push ⟨z29,1,false,1⟩).put G.nx ⟨rSp.row (sp l i),1,false,1⟩):=(hA.push _).put hA.nx _
  have l5:((G.push ⟨z29,1,false,1⟩).put G.nx ⟨rSp.row (sp l i),1,false,1⟩).loop lv=some (mpL es):=hl
  have g5:lv<((G.push ⟨z29,1,false,1⟩).put G.nx ⟨rSp.row (sp l i),1,false,1⟩).nl:=hlG
  have i5:((G.push ⟨z29,1,false,1⟩).put G.nx ⟨rSp.row (sp l i),1,false,1⟩).obj G.nx=some ⟨rSp.row (sp l i),1,false,1⟩:=by simp
  rw [rSp_row] at x5 l5 g5 i5
  generalize hG5:(G.push ⟨z29,1,false,1⟩).put G.nx ⟨[.int .i64 (sp l i).id,.int .i64 (sp l i).fr,.int .i64 (sp l i).to,.int .i64 (sp l i).op.1,.int .i64 (sp l i).op.2.1,.int .i64 (sp l i).op.2.2.1,.int .u64 (sp l i).op.2.2.2,.int .i64 (sp l i).an.1,.int .i64 (sp l i).an.2.1,.int .u64 (sp l i).an.2.2],1,false,1⟩=G5 at *
  refine Wp.lp (l39_0 (exL_ok Q orc)) ?_
  by_cases hin:(sp l i).id∈(l.take i).map (·.id)
  ·obtain ⟨v,elk,_⟩:=look_hit keyInt hu l5 hg ⟨_,rfl⟩ ((hk _).2 hin)
   simp [-Int.natCast_add,b39_0,clip_t,t7,t40,t41,t42,e0,h1,h2,hlt,hz,hst,hG5,i5,elk,pExtract,getN_zero,getN_succ]
   refine ⟨x5,fun h=>?_⟩
   have:((l.take (i+1)).map (·.id)).Nodup:=(List.take_sublist (i+1) l).map (·.id) |>.nodup h
   rw [htk] at this
   exact (List.nodup_append.1 this).2.2 _ hin _ (List.mem_singleton.2 rfl) rfl
  ·have hne:∀ e∈es,e.1≠ .int .i64 (sp l i).id:=fun x hx h=>hin ((hk _).1 ⟨x,hx,h⟩)
   have elk:=look_miss (z:=.int .i64 0) keyInt hu (by kernel_rfl) ⟨_,rfl⟩ l5 hg ⟨_,rfl⟩ hne
   have eput:=map_put (v:=.int .i64 (i:Int)) keyInt hu l5 hg ⟨_,rfl⟩ ⟨_,rfl⟩ hne
   simp [-Int.natCast_add,b39_0,clip_t,t7,t40,t41,t42,e0,h1,h2,hlt,hz,hst,hG5,i5,elk,pExtract,getN_zero,getN_succ,eput,hw]
   refine ih (i+1) _ _ (es++[(.int .i64 (sp l i).id,.int .i64 (i:Int))]) (by omega) (by simp [clip_t]) (by simp [clip_t,e0]) (by simp [clip_t]) (by simp [clip_t]) ⟨x5.nx,x5.obj,x5.nl,fun k hk=>by rw [GS.loop_put,if_neg (by omega)]; exact x5.loop k hk⟩ g5 (by rw [GS.loop_put,if_pos rfl]) (fun x hx=>?_) (fun x=>?_) ?_
   ·rcases List.mem_append.1 hx with hx | hx
    ·exact hg x hx
    ·rw [List.mem_singleton.1 hx]; exact ⟨⟨_,rfl⟩,⟨_,rfl⟩⟩
   ·rw [htk,List.mem_append,List.mem_singleton,← hk]
    constructor
    ·rintro ⟨y,hy,hyx⟩
     rcases List.mem_append.1 hy with hy | hy
     ·exact .inl ⟨y,hy,hyx⟩
     ·rw [List.mem_singleton.1 hy] at hyx; right; simpa using hyx.symm
    ·rintro (⟨y,hy,hyx⟩ | rfl)
     ·exact ⟨y,List.mem_append_left _ hy,hyx⟩
     ·exact ⟨_,List.mem_append_right _ (List.mem_singleton.2 rfl),rfl⟩
   ·rw [htk]
    exact List.nodup_append.2 ⟨hn,by simp,fun a ha b hb hab=>hin (by rw [List.mem_singleton.1 hb] at hab; rw [← hab]; exact ha)⟩
def MayOk (model room:Int) (l:List Sp):Prop:=(1≤model∧model≤3)∧(1≤room∧room≤64)∧l.length≤10∧(model=3→looseP l≤2)∧(l.map (·.id)).Nodup
theorem may_ok (orc:FuncId→Bool) (hs:SlR rSp A v0 l) (model room:Int):Wp ((E orc).cl 39 [.int .i64 model,.int .i64 room,v0] A) fun q=>Ext A q.2∧∃ x:Int,q.1= .int .i64 x∧(x=0↔MayOk model room l):=by
 refine Wp.ref (f39 (exL_ok Q orc) _ _ _ A) ?_
 obtain ⟨a,c,e0⟩:=hs.len
 have lc:ln Q true 38 v0=some (.int .i64 l.length):=by rw [e0]; simp
 by_cases m1:model<1
 ·simp [s39,m1,Ext.refl]
  exact fun h=>by have:=h.1.1; omega
 by_cases m2:3<model
 ·simp [s39,m1,m2,Ext.refl]
  exact fun h=>by have:=h.1.2; omega
 by_cases r1:room<1
 ·simp [s39,m1,m2,r1,Ext.refl]
  exact fun h=>by have:=h.2.1.1; omega
 by_cases r2:64<room
 ·simp [s39,m1,m2,r1,r2,Ext.refl]
  exact fun h=>by have:=h.2.1.2; omega
 by_cases n1:10<l.length
 ·have n1':(10:Int)<l.length:=by omega
  simp [s39,m1,m2,r1,r2,lc,n1',n1,Ext.refl]
  exact fun h=>by have:=h.2.2.1; omega
 have n1':¬ (10:Int)<l.length:=by omega
 have loop:∀ (τ:Env) (G30:GS) (lv:Nat),Ext A G30→A.nl≤lv→lv<G30.nl→G30.loop lv=some (mpL [])→τ 7= .map (some lv)→τ 40=v0→τ 41= .int .i64 l.length→τ 42= .int .i64 0 →
   Wp ((exL Q orc).lpx 39 0 τ G30) fun q=>Ext A q.2.2∧((q.1= .exit 1∧(l.map (·.id)).Nodup)∨(q.1= .ret∧¬ (l.map (·.id)).Nodup∧q.2.1 6= .int .i64 8)):=fun τ G30 lv hx h1 h2 h3 t7 t40 t41 t42 =>
  ids_lp orc hs (by omega) h1 l.length 0 τ G30 [] (by omega) t7 t40 t41 t42 hx h2 h3 (fun _ h=>(by cases h)) (fun x=>by simp) (by simp)
 have xn:∀ G:GS,Ext A G→Ext A G.newMap:=fun G h=>⟨h.nx,h.obj,Nat.le_trans h.nl (Nat.le_succ _),fun k hk=>by
  have:k≠G.nl:=by have:=h.nl; omega
  show (G.pushLoop _).loop k=_
  rw [GS.loop_push,if_neg this]; exact h.loop k hk⟩
 have fin:(looseP l≤2∨model≠3)→((l.map (·.id)).Nodup↔MayOk model room l):=fun h=>⟨fun hn=>⟨by omega,by omega,by omega,fun h3=>by rcases h with h | h; exact h; exact absurd h3 h,hn⟩,fun h=>h.2.2.2.2⟩
 by_cases m3:model=3
 ·obtain ⟨G22,elo,x22⟩:=loose_ok orc hs (by omega)
  subst m3
  by_cases l2:2<looseP l
  ·have l2':(2:Int)<looseP l:=by omega
   simp [s39,r1,r2,lc,n1',n1,elo,l2',l2,x22]
   exact fun h=>by have:=h.2.2.2.1 rfl; omega
  ·have l2':¬ (2:Int)<looseP l:=by omega
   simp [s39,r1,r2,lc,n1',n1,elo,l2',l2,nm]
   refine Wp.bE ((loop _ G22.newMap G22.nl (xn _ x22) x22.nl (Nat.lt_succ_self _) (newMap_loop _) (by simp) (by simp) (by simp) (by simp)).mono ?_)
   rintro ⟨ee,τ,G'⟩ ⟨h0,⟨h1,h2⟩ | ⟨h1,h2,h3⟩⟩
   ·simp only at h0 h1
    subst h1
    simp [h0]
    exact (fin (.inl (by omega))).1 h2
   ·simp only at h0 h1 h3
    subst h1
    simp [h0,h3]
    exact fun h=>h2 ((fin (.inl (by omega))).2 h)
 ·simp [s39,m1,m2,r1,r2,lc,n1',n1,m3,nm]
  refine Wp.bE ((loop _ A.newMap A.nl (xn _ (Ext.refl A)) (Nat.le_refl _) (Nat.lt_succ_self _) (newMap_loop _) (by simp) (by simp) (by simp) (by simp)).mono ?_)
  rintro ⟨ee,τ,G'⟩ ⟨h0,⟨h1,h2⟩ | ⟨h1,h2,h3⟩⟩
  ·simp only at h0 h1
   subst h1
   simp [h0]
   exact (fin (.inr m3)).1 h2
  ·simp only at h0 h1 h3
   subst h1
   simp [h0,h3]
   exact fun h=>h2 ((fin (.inr m3)).2 h)
end
open Go Go.Proofs.YtlaojmcekeohnaaGreatDoor.Gh
def valD (l:List UInt8):Nat:=l.foldl (fun a d=>a*10+(d.toNat - 48)) 0
theorem dig_val {d:Nat} (h:d<10):(UInt8.ofNat (48+d)).toNat=48+d:=by
 show (48+d) % 2 ^ 8=48+d
 omega
theorem val_dgs:∀ (k n:Nat),n<10 ^ (k+1)→valD (dgs (k+1) n)=n
 | 0,n,h=>by
  rw [dgs_succ,if_pos (by omega)]
  simp only [valD,List.foldl_cons,List.foldl_nil,dig_val (show n<10 by omega)]
  omega
 | k+1,n,h=>by
  rw [dgs_succ]
  by_cases h1:n<10
  ·rw [if_pos h1]
   simp only [valD,List.foldl_cons,List.foldl_nil,dig_val h1]
   omega
  ·rw [if_neg h1]
   have:=val_dgs k (n / 10) (by rw [Nat.pow_succ] at h; omega)
   simp only [valD,List.foldl_append,List.foldl_cons,List.foldl_nil,dig_val (show n % 10<10 by omega)] at this ⊢
   rw [this]
   omega
theorem dgs_ge:∀ (k n:Nat),∀ c∈dgs k n,48≤c.toNat
 | 0,n,c,h=>by cases h
 | k+1,n,c,h=>by
  rw [dgs_succ] at h
  by_cases h1:n<10
  ·rw [if_pos h1] at h
   rw [List.mem_singleton.1 h,dig_val h1]; omega
  ·rw [if_neg h1] at h
   rcases List.mem_append.1 h with h | h
   ·exact dgs_ge k _ c h
   ·rw [List.mem_singleton.1 h,dig_val (by omega)]; omega
theorem split_at {s:UInt8}:∀ {a a' r r':List UInt8},(∀ c∈a,c≠s)→(∀ c∈a',c≠s)→a++s::r=a' ++s::r' →a=a' ∧r=r'
 | [],[],_,_,_,_,h=>by simpa using h
 | [],c::a',_,_,_,h2,h=>by
  simp only [List.nil_append,List.cons_append,List.cons.injEq] at h
  exact absurd h.1.symm (h2 c (List.mem_cons_self ..))
 | c::a,[],_,_,h1,_,h=>by
  simp only [List.nil_append,List.cons_append,List.cons.injEq] at h
  exact absurd h.1 (h1 c (List.mem_cons_self ..))
 | c::a,c' ::a',_,_,h1,h2,h=>by
  simp only [List.cons_append,List.cons.injEq] at h
  obtain ⟨k1,k2⟩:=split_at (fun x hx=>h1 x (List.mem_cons_of_mem _ hx)) (fun x hx=>h2 x (List.mem_cons_of_mem _ hx)) h.2
  exact ⟨by rw [h.1,k1],k2⟩
theorem dgI_ne {x:Int} (h:0≤x) {s:UInt8} (hs:s.toNat<48):∀ c∈dgI x,c≠s:=by
 obtain ⟨n,rfl⟩:=Int.eq_ofNat_of_zero_le h
 intro c hc e
 have:=dgs_ge 20 n c hc
 rw [e] at this
 omega
theorem dgI_inj {x y:Int} (hx:0≤x∧x<18446744073709551616) (hy:0≤y∧y<18446744073709551616) (h:dgI x=dgI y):x=y:=by
 obtain ⟨n,rfl⟩:=Int.eq_ofNat_of_zero_le hx.1
 obtain ⟨k,rfl⟩:=Int.eq_ofNat_of_zero_le hy.1
 have h1:=val_dgs 19 n (by omega)
 have h2:=val_dgs 19 k (by omega)
 have h:dgs 20 n=dgs 20 k:=h
 rw [h,h2] at h1
 rw [h1]
def txN (l:List Int):List UInt8:=(l.map fun x=>dgI x++[44]).flatten
theorem txN_inj:∀ {l l':List Int},(∀ x∈l,0≤x∧x<18446744073709551616)→(∀ x∈l',0≤x∧x<18446744073709551616)→txN l=txN l' →l=l'
 | [],[],_,_,_=>rfl
 | [],y::l',_,_,h=>by simp [txN] at h
 | x::l,[],_,_,h=>by simp [txN] at h
 | x::l,y::l',h1,h2,h=>by
  have e:dgI x++44::txN l=dgI y++44::txN l':=by simpa [txN] using h
  have hx:=h1 x (List.mem_cons_self ..)
  have hy:=h2 y (List.mem_cons_self ..)
  obtain ⟨k1,k2⟩:=split_at (dgI_ne hx.1 (by decide)) (dgI_ne hy.1 (by decide)) e
  rw [dgI_inj hx hy k1,txN_inj (fun z hz=>h1 z (List.mem_cons_of_mem _ hz)) (fun z hz=>h2 z (List.mem_cons_of_mem _ hz)) k2]
def txI (l:List (Int×Int)):List UInt8:=(l.map fun x=>dgI x.1++(32::(dgI x.2++[44]))).flatten
open Go
section
variable {α:Type} {m:Mac α} {l l':List Sp}
theorem way_mono (hlen:l.length≤l'.length) {W:List Nat} (hop:∀ a∈W,(sp l' a).op=(sp l a).op) (ht:∀ a∈W,∀ (s:List α) an,an∈toldP m s (sp l a)→an∈toldP m s (sp l' a)) (hr:∀ a∈W,∀ d,rdyP l d a→rdyP l' d a) {s s2:List α} {d d2:Nat} (h:Way m l s d W s2 d2):Way m l' s d W s2 d2:=by
 induction h with
 | nil=>exact .nil _ _
 | @cons s d a an s1 r s2 d2 h1 h2 h3 h4 h5 ih =>
  refine .cons (Nat.lt_of_lt_of_le h1 hlen) (hr a (List.mem_cons_self ..) d h2) (ht a (List.mem_cons_self ..) s an h3) (by rw [hop a (List.mem_cons_self ..)]; exact h4) (ih (fun x hx=>hop x (List.mem_cons_of_mem _ hx)) (fun x hx=>ht x (List.mem_cons_of_mem _ hx)) fun x hx=>hr x (List.mem_cons_of_mem _ hx))
structure Lz (m:Mac α) (l:List Sp) (W:List Nat) (q:List α) (now:Int):Prop where
 way:Way m l m.first 0 W q (dn W 0)
 ended:∀ i,i<l.length→0≤(sp l i).to→i∈W
 clk:∀ i,i<l.length→(sp l i).fr≤now∧(sp l i).to≤now
theorem sp_app {l:List Sp} (c:Sp) (i:Nat):sp (l++[c]) i=if i<l.length then sp l i else if i=l.length then c else default:=by
 unfold sp
 simp only [List.getD]
 by_cases h:i<l.length
 ·rw [if_pos h,List.getElem?_append_left h]
 ·rw [if_neg h,List.getElem?_append_right (by omega)]
  by_cases h2:i=l.length
  ·subst h2; simp
  ·have:i - l.length≠0:=by omega
   obtain ⟨n,hn⟩:=Nat.exists_eq_succ_of_ne_zero this
   rw [hn]; simp [h2]
theorem Lz.begin {W:List Nat} {q:List α} {now:Int} (h:Lz m l W q now) (hn:0≤now) (c:Sp) (hc:c.to= -1) (hf:c.fr=now+1):Lz m (l++[c]) W q (now+1):=by
 have hW:∀ a∈W,a<l.length:=fun a ha=>((way_fresh h.way).1 a ha).2
 have hs:∀ a,a<l.length→sp (l++[c]) a=sp l a:=fun a ha=>by rw [sp_app,if_pos ha]
 refine ⟨way_mono (by simp) (fun a ha=>by rw [hs a (hW a ha)]) (fun a ha s an=>by rw [hs a (hW a ha)]; exact id) (fun a ha d hr=>⟨hr.1,fun i hi hne hb=>?_⟩) h.way,fun i hi ht=>?_,fun i hi=>?_⟩
 ·rw [hs a (hW a ha),sp_app]
  by_cases h1:i<l.length
  ·rw [if_pos h1]; exact hr.2 i h1 hne hb
  ·rw [if_neg h1,if_pos (by simp at hi; omega)]
   unfold ahead; rw [hc]; rfl
 ·rw [sp_app] at ht
  by_cases h1:i<l.length
  ·rw [if_pos h1] at ht; exact h.ended i h1 ht
  ·rw [if_neg h1,if_pos (by simp at hi; omega),hc] at ht; omega
 ·rw [sp_app]
  by_cases h1:i<l.length
  ·rw [if_pos h1]; have:=h.clk i h1; omega
  ·rw [if_neg h1,if_pos (by simp at hi; omega),hc,hf]; omega
end
section
variable {α:Type} {m:Mac α} {l:List Sp}
theorem Lz.nil (now:Int):Lz m [] [] m.first now:=⟨.nil _ _,fun i hi=>by simp at hi,fun i hi=>by simp at hi⟩
theorem Lz.all {W:List Nat} {q:List α} {now:Int} (h:Lz m l W q now):Goes m l [] m.first 0 :=
 ⟨W,q,dn W 0,by simpa using h.way,fun i hi ht=>((way_fresh h.way).2.2 i).2 (.inr (h.ended i hi ht))⟩
end
structure RingC (cs:List Value) (L:List Int) (fr:Nat):Prop where
 len:cs.length=1026
 fr_lt:fr<1024
 le:L.length≤1024
 fr_at:cs[1024]? =some (.int .i64 fr)
 n_at:cs[1025]? =some (.int .i64 L.length)
 item:∀ i,i<1024→∃ n,cs[i]? =some (.int .u64 n)
 at_:∀ i (h:i<L.length),cs[(fr+i) % 1024]? =some (.int .u64 L[i])
def RingV (v:Value) (L:List Int):Prop:=∃ cs fr,v= .agg ⟨cs⟩∧RingC cs L fr
theorem RingC.ones {cs:List Value} {L:List Int} {fr:Nat} (h:RingC cs L fr):cs.all one=true:=by
 rw [List.all_eq_true]
 intro x hx
 obtain ⟨i,hi⟩:=List.getElem?_of_mem hx
 have hlt:i<1026:=by rw [← h.len]; exact (List.getElem?_eq_some_iff.1 hi).1
 by_cases h1:i<1024
 ·obtain ⟨n,hn⟩:=h.item i h1
  rw [hi] at hn; cases hn; rfl
 by_cases h2:i=1024
 ·subst h2; rw [h.fr_at] at hi; cases hi; rfl
 ·have:i=1025:=by omega
  subst this; rw [h.n_at] at hi; cases hi; rfl
theorem ring_front (orc:FuncId→Bool) {v:Value} {x:Int} {L:List Int} (h:RingV v (x::L)) (G:GS):Wp ((E orc).cl 189 [v] G) fun r=>r.1= .int .u64 x∧Ext G r.2:=by
 obtain ⟨cs,fr,rfl,h⟩:=h
 have h0:=h.at_ 0 (by simp)
 have hf:=h.fr_lt
 rw [Nat.add_zero,Nat.mod_eq_of_lt hf] at h0
 have hf':(fr:Int)<1024:=by omega
 have hf0:(0:Int)≤fr:=by omega
 have hfr:=h.fr_at
 simp only [List.getElem_cons_zero] at h0
 refine Wp.ref (f189 (exL_ok Q orc) _ G) ?_
 simp [s189,mBox,Value.cells,hfr,hf',hf0,h0]
 exact (Ext.refl G).push _
theorem RingC.put {cs:List Value} {L:List Int} {fr:Nat} (h:RingC cs L fr) (hl:L.length<1024) (w:Int) :
  RingC ((cs.set ((fr+L.length) % 1024) (.int .u64 w)).set 1025 (.int .i64 (L.length+1:Nat))) (L++[w]) fr:=by
 have hm:(fr+L.length) % 1024<1024:=Nat.mod_lt _ (by omega)
 have hlen:=h.len
 refine ⟨by simp [hlen],h.fr_lt,by simp; omega,?_,?_,?_,?_⟩
 ·rw [List.getElem?_set_ne (by omega),List.getElem?_set_ne (by omega)]; exact h.fr_at
 ·rw [List.getElem?_set_self (by simp; omega)]; simp
 ·intro i hi
  rw [List.getElem?_set_ne (by omega)]
  by_cases he:(fr+L.length) % 1024=i
  ·subst he; exact ⟨w,by rw [List.getElem?_set_self (by omega)]⟩
  ·rw [List.getElem?_set_ne he]; exact h.item i hi
 ·intro i hi
  have hfr:=h.fr_lt
  simp only [List.length_append,List.length_singleton] at hi
  rw [List.getElem?_set_ne (by omega)]
  by_cases he:i=L.length
  ·subst he
   rw [List.getElem?_set_self (by omega)]; simp
  ·have hi':i<L.length:=by omega
   rw [List.getElem?_set_ne (by omega),h.at_ i hi',List.getElem_append_left hi']
theorem RingC.pop {cs:List Value} {x:Int} {L:List Int} {fr:Nat} (h:RingC cs (x::L) fr) :
  RingC ((cs.set 1024 (.int .i64 ((fr+1) % 1024:Nat))).set 1025 (.int .i64 (L.length:Nat))) L ((fr+1) % 1024):=by
 have hm:(fr+1) % 1024<1024:=Nat.mod_lt _ (by omega)
 have hlen:=h.len
 have hle:=h.le
 simp only [List.length_cons] at hle
 refine ⟨by simp [hlen],hm,by omega,?_,?_,?_,?_⟩
 ·rw [List.getElem?_set_ne (by omega),List.getElem?_set_self (by omega)]
 ·rw [List.getElem?_set_self (by simp; omega)]
 ·intro i hi
  rw [List.getElem?_set_ne (by omega),List.getElem?_set_ne (by omega)]
  exact h.item i hi
 ·intro i hi
  have:=h.at_ (i+1) (by simpa using hi)
  have e:((fr+1) % 1024+i) % 1024=(fr+(i+1)) % 1024:=by omega
  rw [List.getElem?_set_ne (by omega),List.getElem?_set_ne (by omega),e,this]
  simp
theorem ringZ_length:z202.length=1026:=by
 unfold z202
 rw [List.length_append,zs_eq,List.length_replicate]; rfl
theorem ringZ_get (i:Nat) (h:i<1024):z202[i]? =some (.int .u64 0):=by
 unfold z202
 rw [zs_eq,List.getElem?_append_left (by rw [List.length_replicate]; exact h),List.getElem?_replicate,if_pos h]
theorem ringZ_1024:z202[1024]? =some (.int .i64 0):=by
 unfold z202
 rw [zs_eq,List.getElem?_append_right (by rw [List.length_replicate]; omega),List.length_replicate]; rfl
theorem stR {cs ds:List Value} {n e:Nat} {op:Bool} (h:cs.length=n) (hd:ds.length=n) (ho:ds.all one=true):stO n 0 (.agg ⟨ds⟩) (some ⟨cs,e,op,1⟩)=some ⟨ds,e,op,1⟩:=by
 rw [stO_agg,if_pos ⟨hd,ho,by omega⟩]
 simp only [overw,List.take_zero,List.nil_append,Nat.zero_add]
 rw [List.drop_of_length_le (by omega),List.append_nil]
theorem ring_push (orc:FuncId→Bool) {v:Value} {L:List Int} (h:RingV v L) (hl:L.length<1024) (w:Int) (G:GS):Wp ((E orc).cl 188 [v,.int .u64 w] G) fun r=>RingV r.1 (L++[w])∧Ext G r.2:=by
 obtain ⟨cs,fr,rfl,h⟩:=h
 have hf:=h.fr_lt
 have hm:(fr+L.length) % 1024<1024:=Nat.mod_lt _ (by omega)
 have hw1:IntKind.wrap .i64 ((fr:Int)+L.length)=((fr+L.length:Nat):Int):=wrap64 (by omega) (by omega)
 have hw2:IntKind.wrap .i64 ((L.length:Int)+1)=((L.length+1:Nat):Int):=wrap64 (by omega) (by omega)
 have ht:(((fr+L.length:Nat):Int)).tmod 1024=(((fr+L.length) % 1024:Nat):Int):=by
  rw [Int.tmod_eq_emod_of_nonneg (by omega)]; omega
 have hc:=h.put hl w
 have hlen:=h.len
 have hn:=h.n_at
 have hfr:=h.fr_at
 have ho:=hc.ones
 have hlen2:=hc.len
 generalize hj:(fr+L.length) % 1024=j at *
 have hj':(j:Int)<1024:=by omega
 have hj0:(0:Int)≤j:=by omega
 have s1:stO 1 j (.int .u64 w) (some ⟨cs,1,false,1⟩)=some ⟨cs.set j (.int .u64 w),1,false,1⟩:=by rw [stO_int,if_pos (by omega)]
 have s2:stO 1 1025 (.int .i64 (L.length+1:Nat)) (some ⟨cs.set j (.int .u64 w),1,false,1⟩)=some ⟨(cs.set j (.int .u64 w)).set 1025 (.int .i64 (L.length+1:Nat)),1,false,1⟩:=by rw [stO_int,if_pos (by simp; omega)]
 have n2:(cs.set j (.int .u64 w))[1025]? =some (.int .i64 L.length):=by rw [List.getElem?_set_ne (by omega)]; exact hn
 generalize hds:((cs.set j (.int .u64 w)).set 1025 (.int .i64 (L.length+1:Nat)))=ds at *
 have s3:stO 1026 0 (.agg ⟨ds⟩) (some ⟨z202,1,false,1⟩)=some ⟨ds,1,false,1⟩:=stR ringZ_length hlen2 ho
 have ld:loadO 1026 0 (some ⟨ds,1,false,1⟩)=some (.agg ⟨ds⟩):=loadO_whole hlen2 (by decide)
 refine Wp.ref (f188 (exL_ok Q orc) _ _ G) ?_
 simp [-Int.natCast_add,-stO_int,s188,mBox,Value.cells,hfr,hn,hw1,ht,hj',hj0,s1,s2,n2,hw2,s3,ld]
 refine ⟨⟨ds,fr,rfl,hc⟩,?_⟩
 (repeat (first | with_reducible exact Ext.refl _ | with_reducible assumption | with_reducible apply Ext.room | with_reducible apply Ext.push | with_reducible refine Ext.put ?_ ?_ _ | omega | (simp; done) | (simp; omega)))
theorem ring_drop (orc:FuncId→Bool) {v:Value} {x:Int} {L:List Int} (h:RingV v (x::L)) (G:GS):Wp ((E orc).cl 191 [v] G) fun r=>RingV r.1 L∧Ext G r.2:=by
 obtain ⟨cs,fr,rfl,h⟩:=h
 have hf:=h.fr_lt
 have hle:=h.le
 simp only [List.length_cons] at hle
 have hw1:IntKind.wrap .i64 ((fr:Int)+1)=((fr+1:Nat):Int):=wrap64 (by omega) (by omega)
 have hw2:IntKind.wrap .i64 (((x::L).length:Int) - 1)=(L.length:Int):=by
  rw [show ((x::L).length:Int) - 1=(L.length:Int) by simp]
  exact wrap64 (by omega) (by omega)
 have ht:(((fr+1:Nat):Int)).tmod 1024=(((fr+1) % 1024:Nat):Int):=by
  rw [Int.tmod_eq_emod_of_nonneg (by omega)]; omega
 have hm:(fr+1) % 1024<1024:=Nat.mod_lt _ (by omega)
 have hc:=h.pop
 have hlen:=h.len
 have hn:=h.n_at
 have hfr:=h.fr_at
 have ho:=hc.ones
 have hlen2:=hc.len
 generalize hj:(fr+1) % 1024=j at *
 generalize hN:(x::L).length=N at *
 have s1:stO 1 1024 (.int .i64 j) (some ⟨cs,1,false,1⟩)=some ⟨cs.set 1024 (.int .i64 j),1,false,1⟩:=by rw [stO_int,if_pos (by omega)]
 have s2:stO 1 1025 (.int .i64 L.length) (some ⟨cs.set 1024 (.int .i64 j),1,false,1⟩)=some ⟨(cs.set 1024 (.int .i64 j)).set 1025 (.int .i64 L.length),1,false,1⟩:=by rw [stO_int,if_pos (by simp; omega)]
 have n2:(cs.set 1024 (.int .i64 j))[1025]? =some (.int .i64 N):=by rw [List.getElem?_set_ne (by omega)]; exact hn
 generalize hds:((cs.set 1024 (.int .i64 j)).set 1025 (.int .i64 L.length))=ds at *
 have s3:stO 1026 0 (.agg ⟨ds⟩) (some ⟨z202,1,false,1⟩)=some ⟨ds,1,false,1⟩:=stR ringZ_length hlen2 ho
 have ld:loadO 1026 0 (some ⟨ds,1,false,1⟩)=some (.agg ⟨ds⟩):=loadO_whole hlen2 (by decide)
 refine Wp.ref (f191 (exL_ok Q orc) _ G) ?_
 simp [-Int.natCast_add,-stO_int,s191,mBox,Value.cells,hfr,hn,hw1,ht,s1,s2,n2,hw2,s3,ld]
 refine ⟨⟨ds,j,rfl,hc⟩,?_⟩
 (repeat (first | with_reducible exact Ext.refl _ | with_reducible assumption | with_reducible apply Ext.room | with_reducible apply Ext.push | with_reducible refine Ext.put ?_ ?_ _ | omega | (simp; done) | (simp; omega)))
theorem same_ring (orc:FuncId→Bool) {G:GS} {b:Nat} {cs:List Value} {L:List Int} {fr:Nat} (h:RingC cs L fr) (hb:G.obj b=some ⟨cs,1,false,1⟩) (hn:b<G.nx):Wp ((E orc).cl 186 [Pp b] G) fun r=>RingV r.1 L∧Ext G r.2:=by
 have ne:¬ b=G.nx:=by omega
 have hlen:=h.len
 have ho:=h.ones
 have s3:stO 1026 0 (.agg ⟨cs⟩) (some ⟨z202,1,false,1⟩)=some ⟨cs,1,false,1⟩:=stR ringZ_length hlen ho
 have ld:loadO 1026 0 (some ⟨cs,1,false,1⟩)=some (.agg ⟨cs⟩):=loadO_whole hlen (by decide)
 refine Wp.ref (f186 (exL_ok Q orc) _ G) ?_
 simp [s186,ne,hb,s3,ld]
 refine ⟨⟨cs,fr,rfl,h⟩,?_⟩
 exact ((Ext.refl G).push _).put (Nat.le_refl _) _
theorem pushed_ring (orc:FuncId→Bool) {G:GS} {b d:Nat} {cs:List Value} {L:List Int} {fr:Nat} {k1 a1 b1 w:Int} (h:RingC cs L fr) (hb:G.obj b=some ⟨cs,1,false,1⟩) (hn:b<G.nx) (hd:G.obj d=some ⟨[.int .i64 k1,.int .i64 a1,.int .i64 b1,.int .u64 w],1,false,1⟩) (hdn:d<G.nx) (hl:L.length<1024) :
  Wp ((E orc).cl 187 [Pp b,Pp d] G) fun r=>RingV r.1 (L++[w])∧Ext G r.2:=by
 have ne:¬ b=G.nx:=by omega
 have ne':¬ d=G.nx:=by omega
 have hlen:=h.len
 have ld:loadO 1026 0 (some ⟨cs,1,false,1⟩)=some (.agg ⟨cs⟩):=loadO_whole hlen (by decide)
 obtain ⟨⟨v',G'⟩,e1,⟨ds,fr',rfl,h1⟩,h2⟩:=ring_push orc (v:=.agg ⟨cs⟩) ⟨cs,fr,rfl,h⟩ hl w (G.push ⟨z202,1,false,1⟩)
 simp only at e1 h2
 have hg:G'.obj G.nx=some ⟨z202,1,false,1⟩:=by rw [h2.obj _ (by simp)]; simp
 have hl1:=h1.len
 have ho1:=h1.ones
 have s3:stO 1026 0 (.agg ⟨ds⟩) (some ⟨z202,1,false,1⟩)=some ⟨ds,1,false,1⟩:=stR ringZ_length hl1 ho1
 have ld2:loadO 1026 0 (some ⟨ds,1,false,1⟩)=some (.agg ⟨ds⟩):=loadO_whole hl1 (by decide)
 refine Wp.ref (f187 (exL_ok Q orc) _ _ G) ?_
 simp [s187,ne,ne',hb,hd,ld,e1,hg,s3,ld2]
 refine ⟨⟨ds,fr',rfl,h1⟩,?_⟩
 exact Ext.put (((Ext.refl G).push _).trans h2) (Nat.le_refl _) _
theorem dropped_ring (orc:FuncId→Bool) {G:GS} {b:Nat} {cs:List Value} {x:Int} {L:List Int} {fr:Nat} (h:RingC cs (x::L) fr) (hb:G.obj b=some ⟨cs,1,false,1⟩) (hn:b<G.nx) :
  Wp ((E orc).cl 190 [Pp b] G) fun r=>RingV r.1 L∧Ext G r.2:=by
 have ne:¬ b=G.nx:=by omega
 have hlen:=h.len
 have ld:loadO 1026 0 (some ⟨cs,1,false,1⟩)=some (.agg ⟨cs⟩):=loadO_whole hlen (by decide)
 obtain ⟨⟨v',G'⟩,e1,⟨ds,fr',rfl,h1⟩,h2⟩:=ring_drop orc (v:=.agg ⟨cs⟩) ⟨cs,fr,rfl,h⟩ (G.push ⟨z202,1,false,1⟩)
 simp only at e1 h2
 have hg:G'.obj G.nx=some ⟨z202,1,false,1⟩:=by rw [h2.obj _ (by simp)]; simp
 have hl1:=h1.len
 have ho1:=h1.ones
 have s3:stO 1026 0 (.agg ⟨ds⟩) (some ⟨z202,1,false,1⟩)=some ⟨ds,1,false,1⟩:=stR ringZ_length hl1 ho1
 have ld2:loadO 1026 0 (some ⟨ds,1,false,1⟩)=some (.agg ⟨ds⟩):=loadO_whole hl1 (by decide)
 refine Wp.ref (f190 (exL_ok Q orc) _ G) ?_
 simp [s190,ne,hb,ld,e1,hg,s3,ld2]
 refine ⟨⟨ds,fr',rfl,h1⟩,?_⟩
 exact Ext.put (((Ext.refl G).push _).trans h2) (Nat.le_refl _) _
def rU:RowE Int:=rowsI .u64
@[simp] theorem rU_sz:rU.sz=1:=rfl
@[simp] theorem rU_row (x:Int):rU.row x=[.int .u64 x]:=rfl
theorem list_lp (orc:FuncId→Bool) (A:GS) (x:Nat) (hx:x<A.nx) {cs:List Value} {L:List Int} {fr:Nat} (hr:RingC cs L fr) (hb:A.obj x=some ⟨cs,1,false,1⟩):∀ (k i:Nat) (v:Value) (τ:Env) (G:GS),i+k=L.length→τ 1=Pp x→τ 3=v→τ 6= .int .i64 L.length→τ 7= .int .i64 (i:Int) →
  Ext A G→OwR rU A.nx G v (L.take i) →
  Wp ((exL Q orc).lpx 125 0 τ G) fun r=>r.1= .exit 0∧Ext A r.2.2∧OwR rU A.nx r.2.2 (r.2.1 3) L:=by
 have hle:=hr.le
 have hfl:=hr.fr_lt
 have hfr:=hr.fr_at
 intro k
 induction k with
 | zero =>
  intro i v τ G hi h1 h3 h6 h7 hA ho
  have hi':i=L.length:=by omega
  subst hi'
  rw [List.take_length] at ho
  refine Wp.lp (l125_0 (exL_ok Q orc)) ?_
  simp [b125_0,clip_t,h1,h3,h6,h7,hA]
  exact ho
 | succ k ih =>
  intro i v τ G hi h1 h3 h6 h7 hA ho
  have hlt:i<L.length:=by omega
  have hw:IntKind.wrap .i64 ((i:Int)+1)=((i+1:Nat):Int):=wrap64 (by omega) (by omega)
  have hw1:IntKind.wrap .i64 ((fr:Int)+i)=((fr+i:Nat):Int):=wrap64 (by omega) (by omega)
  have ht:(((fr+i:Nat):Int)).tmod 1024=(((fr+i) % 1024:Nat):Int):=by
   rw [Int.tmod_eq_emod_of_nonneg (by omega)]; omega
  have hm:(fr+i) % 1024<1024:=Nat.mod_lt _ (by omega)
  have hat:=hr.at_ i hlt
  have hob:G.obj x=some ⟨cs,1,false,1⟩:=(hA.obj x hx).trans hb
  generalize hj:(fr+i) % 1024=j at *
  have hj':(j:Int)<1024:=by omega
  have hj0:(0:Int)≤j:=by omega
  have h1':(i:Int)<L.length:=by omega
  have xp:Ext A (G.push ⟨[.int .u64 L[i]],1,false,1⟩):=hA.push _
  obtain ⟨v',G',ha,hE,hO⟩:=OwR.app (ib:=8) (ho.ext ((Ext.refl G).push ⟨[.int .u64 L[i]],1,false,1⟩)) (by decide) xp (SlR.one rU G L[i]) (by simp; omega)
  rw [rU_sz] at ha
  rw [List.take_append_getElem hlt] at hO
  refine Wp.lp (l125_0 (exL_ok Q orc)) ?_
  simp [-Int.natCast_add,b125_0,clip_t,h1,h3,h6,h7,hlt,h1',hob,hfr,hw1,ht,hj',hj0,hat,ha,hw]
  exact ih (i+1) v' _ G' (by omega) (by simp [clip_t]) (by simp [clip_t]) (by simp [clip_t]) (by simp [clip_t]) hE hO
theorem ring_list (orc:FuncId→Bool) {v:Value} {L:List Int} (h:RingV v L) (G:GS) :
  Wp ((E orc).cl 125 [v] G) fun r=>Ext G r.2∧OwR rU G.nx r.2 r.1 L:=by
 obtain ⟨cs,fr,rfl,h⟩:=h
 have hn:=h.n_at
 refine Wp.ref (f125 (exL_ok Q orc) _ G) ?_
 simp [s125,mBox,Value.cells,hn]
 refine Wp.bE ((list_lp orc (G.push ⟨cs,1,false,1⟩) G.nx (by simp) h (by simp) L.length 0 (.slice none 0 0) _ _ (by omega) (by simp) (by simp) (by simp) (by simp) (Ext.refl _) (OwR.nil _ _)).mono ?_)
 rintro ⟨ee,τ,G'⟩ ⟨h1,h2,h3⟩
 simp only at h1 h2 h3
 subst h1
 simp
 exact ⟨((Ext.refl G).push _).trans h2,h3.mono (by simp)⟩
theorem queue_ok (orc:FuncId→Bool) {v:Value} {L:List Int} {G:GS} (hv:SlR rU G v L) (hl:L.length≤1024) :
  Wp ((E orc).cl 124 [v] G) fun r=>RingV r.1 L∧Ext G r.2:=by
 have hz:=ringZ_length
 have e2:Ext G ((G.push ⟨z202,1,false,1⟩).push ⟨z202,1,false,1⟩):=((Ext.refl G).push _).push _
 have hel:=elems_of (hv.ext e2).is
 rw [rU_sz] at hel
 obtain ⟨a,c,ha⟩:=hv.len
 have hflat:(rU.flat L).length=L.length:=by have:=rU.flat_length L; simpa using this
 have hat:∀ i (h:i<L.length),(rU.flat L)[i]? =some (.int .u64 L[i]):=fun i h=>by have:=rU.flat_at L h (f:=0) (by decide); simpa using this
 have hc:RingC ((overw z202 0 (rU.flat L)).set 1025 (.int .i64 L.length)) L 0:=by
  have hlen:(overw z202 0 (rU.flat L)).length=1026:=by simp only [overw,List.take_zero,List.nil_append,Nat.zero_add,List.length_append,List.length_drop,hflat,hz]; omega
  have hget:∀ i,L.length≤i→(overw z202 0 (rU.flat L))[i]? =z202[i]?:=by
   intro i hi
   simp only [overw,List.take_zero,List.nil_append,Nat.zero_add]
   rw [List.getElem?_append_right (by omega),List.getElem?_drop]
   congr 1
   omega
  have hget':∀ i (h:i<L.length),(overw z202 0 (rU.flat L))[i]? =some (.int .u64 L[i]):=by
   intro i hi
   simp only [overw,List.take_zero,List.nil_append,Nat.zero_add]
   rw [List.getElem?_append_left (by omega)]
   exact hat i hi
  refine ⟨by rw [List.length_set]; exact hlen,by omega,hl,?_,?_,?_,?_⟩
  ·rw [List.getElem?_set_ne (by omega),hget _ hl]; exact ringZ_1024
  ·rw [List.getElem?_set_self (by omega)]
  ·intro i hi
   rw [List.getElem?_set_ne (by omega)]
   by_cases h:i<L.length
   ·exact ⟨_,hget' i h⟩
   ·exact ⟨0,by rw [hget i (by omega)]; exact ringZ_get i hi⟩
  ·intro i hi
   rw [Nat.zero_add,Nat.mod_eq_of_lt (by omega),List.getElem?_set_ne (by omega)]
   exact hget' i hi
 have ho:=hc.ones
 have hlen2:=hc.len
 have hmin:Nat.min L.length 1024=L.length:=Nat.min_eq_left hl
 obtain ⟨G2,hG2⟩:∃ G2,G2=(G.push ⟨z202,1,false,1⟩).push ⟨z202,1,false,1⟩:=⟨_,rfl⟩
 have z0:G2.obj G.nx=some ⟨z202,1,false,1⟩:=by rw [hG2]; simp
 have z1:G2.obj (G.nx+1)=some ⟨z202,1,false,1⟩:=by rw [hG2]; simp
 rw [← hG2] at e2 hel
 have hcp:∃ G3,cpK 1 (.slice (some ⟨G.nx+1,0,none⟩) 1024 1024) v G2=some (.int .i64 L.length,G3)∧G3.obj (G.nx+1)=some ⟨overw z202 0 (rU.flat L),1,false,1⟩∧G3.obj G.nx=some ⟨z202,1,false,1⟩∧Ext G G3:=by
  subst ha
  simp only [cpK,hmin,hel]
  by_cases h:L=[]
  ·subst h
   refine ⟨G2,by simp,?_,z0,e2⟩
   rw [z1]
   simp [overw]
  ·have hw:rU.flat L≠[]:=fun e=>h (List.eq_nil_of_length_eq_zero (by rw [← hflat,e]; rfl))
   refine ⟨G2.put (G.nx+1) ⟨overw z202 0 (rU.flat L),1,false,1⟩,?_,by simp,by simp [z0],e2.put (by omega) _⟩
   rw [if_neg hw,wrN_of z1 rfl (rU.flat_ones L) (by rw [hflat]; simp only; omega)]
   rfl
 obtain ⟨G3,hcp,q1,q2,q3⟩:=hcp
 generalize overw z202 0 (rU.flat L)=O at *
 have hlen3:O.length=1026:=by simpa using hlen2
 have s1:stO 1 1025 (.int .i64 L.length) (some ⟨O,1,false,1⟩)=some ⟨O.set 1025 (.int .i64 L.length),1,false,1⟩:=by rw [stO_int,if_pos (by omega)]
 generalize (O.set 1025 (.int .i64 L.length))=ds at *
 have s3:stO 1026 0 (.agg ⟨ds⟩) (some ⟨z202,1,false,1⟩)=some ⟨ds,1,false,1⟩:=stR ringZ_length hlen2 ho
 have ld:loadO 1026 0 (some ⟨ds,1,false,1⟩)=some (.agg ⟨ds⟩):=loadO_whole hlen2 (by decide)
 refine Wp.ref (f124 (exL_ok Q orc) _ G) ?_
 simp [-stO_int,s124,slA,bound,← hG2,hcp,q1,q2,s1,s3,ld]
 refine ⟨⟨ds,0,rfl,hc⟩,?_⟩
 exact (q3.put (by omega) _).put (Nat.le_refl _) _
def fchk (cap:Int) (n:Nat):Int:=if cap<1 then 3 else if 1024<cap then 3 else if cap<n then 7 else 0
theorem check_ok (orc:FuncId→Bool) {a:Option Addr} {n c:Nat} {cap:Int} (G:GS):Wp ((E orc).cl 122 [.int .i64 cap,.slice a n c] G) fun r=>r=(.int .i64 (fchk cap n),G):=by
 refine Wp.ref (f122 (exL_ok Q orc) _ _ G) ?_
 unfold fchk
 by_cases h1:cap<1
 ·simp [s122,h1]
 by_cases h2:1024<cap
 ·simp [s122,h1,h2]
 by_cases h3:cap<n<;>simp [s122,h1,h2,h3]
theorem fchk_zero {cap:Int} {n:Nat}:fchk cap n=0↔1≤cap∧cap≤1024∧(n:Int)≤cap:=by
 unfold fchk
 by_cases h1:cap<1
 ·rw [if_pos h1]; omega
 by_cases h2:1024<cap
 ·rw [if_neg h1,if_pos h2]; omega
 by_cases h3:cap<n
 ·rw [if_neg h1,if_neg h2,if_pos h3]; omega
 ·rw [if_neg h1,if_neg h2,if_neg h3]; omega
noncomputable def gDoes (T:List Value) (G:GS):Option (Exit×List Value×GS) :=
 bP (gBuild Q 27 [(0,(.int .i64 15))]) fun x0 =>
 bP (gStore Q 27 (nth undef T 6) x0 G) fun G1 =>
 some (.ret,[(nth undef T 0),(nth undef T 1),(nth undef T 2),(nth undef T 3),(nth undef T 4),(nth undef T 5),(nth undef T 6),(nth undef T 9),(.bool true),(nth undef T 9),(nth undef T 10),(nth undef T 11),(nth undef T 12),(nth undef T 13),(nth undef T 14),(nth undef T 15),(nth undef T 16),(nth undef T 17),(nth undef T 18),(nth undef T 19),(nth undef T 20),(nth undef T 21),(nth undef T 22),(nth undef T 23),(nth undef T 24),(nth undef T 25),(nth undef T 26),(nth undef T 27),(nth undef T 28),(nth undef T 29),(nth undef T 30),(nth undef T 31),(nth undef T 32),(nth undef T 33),(nth undef T 34),(nth undef T 35),(nth undef T 36),(nth undef T 37),(nth undef T 38),(nth undef T 39),(nth undef T 40),(nth undef T 41),(nth undef T 42),x0,(nth undef T 9)],G1)
theorem jDoes (orc:FuncId→Bool) (T:List Value) (G:GS) (hT:T.length=45) {r:Exit×List Value×GS} (h:gDoes T G=some r):(E orc).sc (subAt [1,0] (bodyOf Tryz.f123)) (labelAt 0 (subAt [1,0] (bodyOf Tryz.f123))) T G=some r :=
 sc_sxE Q orc G hT (by kernel_rfl) h
structure Mid (lo:Nat) (A B:GS):Prop where
 nx:A.nx≤B.nx
 obj:∀ g,g<A.nx→lo≤g→B.obj g=A.obj g
def dCode (cap:Int) (L:List Int) (k:Int):Int:=if k=1 then (if cap≤L.length then 7 else 0) else if k=2∨k=3 then (if L=[] then 15 else 0) else 0
def dWord (L:List Int) (k:Int):Int:=if k=2 then L.headD 0 else 0
def dNext (cap:Int) (L:List Int) (k w:Int):List Int:=if k=1 then (if cap≤L.length then L else L++[w]) else if k=3 then L.tail else L
def dOk (k:Int):Bool:=decide (k=1)||decide (k=2)||decide (k=3)
theorem ifE_rg {α:Type} (n:Nat) (a b:Option α):ifE .ret (.goto n) a b=b:=by rfl
theorem does_ok (orc:FuncId→Bool) {v:Value} {L:List Int} (hr:RingV v L) {cap:Int} (h1:1≤cap) (h2:cap≤1024) (k a b w:Int) (G:GS) :
  Wp ((E orc).cl 123 [.int .i64 cap,v,.agg ⟨rowOp (k,a,b,w)⟩] G) fun r=>∃ f,r.1= .tuple #[.agg ⟨eAn.row (dCode cap L k,0,dWord L k)⟩,f,.bool (dOk k)]∧Ext G r.2∧(∀ G2,Mid G.nx r.2 G2→Wp (cValue (E orc) f [] G2) fun q=>RingV q.1 (dNext cap L k w)∧Ext G2 q.2):=by
 have hr':=hr
 obtain ⟨cs,fr,rfl,h⟩:=hr'
 have hn:=h.n_at
 have hlen:=h.len
 have hW:loadO 1026 0 (some ⟨cs,1,false,1⟩)=some (.agg ⟨cs⟩):=loadO_whole hlen (by decide)
 refine Wp.ref (f123 (exL_ok Q orc) _ _ _ G) ?_
 simp only [rowOp]
 have st3:∀ (k1 k2 k3:IntKind) (a b c:Int) (x y z:Value),stO 3 0 (.agg ⟨[.int k1 a,.int k2 b,.int k3 c]⟩) (some ⟨[x,y,z],1,false,1⟩)=some ⟨[.int k1 a,.int k2 b,.int k3 c],1,false,1⟩:=fun _ _ _ _ _ _ _ _ _=>rfl
 have ld3:∀ (x y z:Value),loadO 3 0 (some ⟨[x,y,z],1,false,1⟩)=some (.agg ⟨[x,y,z]⟩):=fun _ _ _=>rfl
 have hbd:gBuild Q 27 [(0,.int .i64 15)]=some (.agg ⟨[.int .i64 15,.int .i64 0,.int .u64 0]⟩):=by kernel_rfl
 have hss:∀ b o s v G,gStore Q 27 (.pointer (some ⟨b,o,s⟩)) v G=storeN 3 b o v G:=(inferInstance:StOk Q 27 3).ok
 have n6:∀ τ:Env,nth undef (lst 45 τ) 6=τ 6:=fun _=>rfl
 have n9:∀ τ:Env,nth undef (lst 45 τ) 9=τ 9:=fun _=>rfl
 have k12:¬ ((2:Int)=1):=by decide
 by_cases k1:k=1
 ·subst k1
  by_cases hc:cap≤L.length
  ·simp [s123,mBox,Value.cells,cell_eq,hn,hc,fillL,fillC,splice_put,splice_end,splice_succ,st3,ld3,Nat.add_assoc]
   refine ⟨_,⟨by simp [dCode,dWord,hc],rfl,by simp [dOk]⟩,by (repeat (first | with_reducible exact Ext.refl _ | with_reducible assumption | with_reducible apply Ext.room | with_reducible apply Ext.push | with_reducible refine Ext.put ?_ ?_ _ | omega | (simp; done) | (simp; omega))),?_⟩
   intro G2 hE
   simp only [dNext,hc,if_true]
   have hb:=hE.obj G.nx (by (first | (simp; done) | (simp; omega))) (by omega)
   simp [Nat.add_assoc] at hb
   simpa using same_ring orc h hb (by have:=hE.nx; simp at this; omega)
  ·simp [s123,mBox,Value.cells,cell_eq,hn,hc,fillL,fillC,splice_put,splice_end,splice_succ,st3,ld3,Nat.add_assoc]
   refine ⟨_,⟨by simp [dCode,dWord,hc],rfl,by simp [dOk]⟩,by (repeat (first | with_reducible exact Ext.refl _ | with_reducible assumption | with_reducible apply Ext.room | with_reducible apply Ext.push | with_reducible refine Ext.put ?_ ?_ _ | omega | (simp; done) | (simp; omega))),?_⟩
   intro G2 hE
   simp only [dNext,hc,if_true,if_false]
   have hb:=hE.obj G.nx (by (first | (simp; done) | (simp; omega))) (by omega)
   have hd:=hE.obj (G.nx+1) (by (first | (simp; done) | (simp; omega))) (by omega)
   simp [Nat.add_assoc] at hb hd
   have:=hE.nx
   simp at this
   simpa using pushed_ring orc h hb (by omega) hd (by omega) (by omega)
 by_cases k2:k=2
 ·subst k2
  cases L with
  | nil =>
   simp at hn
   simp [s123,mBox,Value.cells,cell_eq,hn,Nat.add_assoc]
   refine Wp.bX (Wp.up (x:=gDoes _ _) (fun {r} h=>jDoes orc _ _ (by rfl) h) ?_)
   simp [gDoes,hbd,hss,n6,n9,storeN_eq,ifE_rg,Value.cells,fillL,fillC,splice_put,splice_end,splice_succ,st3,ld3,Nat.add_assoc]
   refine ⟨_,⟨by simp [dCode,dWord],rfl,by simp [dOk]⟩,by (repeat (first | with_reducible exact Ext.refl _ | with_reducible assumption | with_reducible apply Ext.room | with_reducible apply Ext.push | with_reducible refine Ext.put ?_ ?_ _ | omega | (simp; done) | (simp; omega))),?_⟩
   intro G2 hE
   simp only [dNext,k12,show ¬ ((2:Int)=3) by decide,if_false]
   have hb:=hE.obj G.nx (by (first | (simp; done) | (simp; omega))) (by omega)
   simp [Nat.add_assoc] at hb
   simpa using same_ring orc h hb (by have:=hE.nx; simp at this; omega)
  | cons x L =>
   have hp:¬ (((x::L).length:Int)=0):=by simp; omega
   obtain ⟨⟨r5,G5⟩,e5,rfl,x5⟩:=ring_front orc hr ((((G.push ⟨cs,1,false,1⟩).push ⟨[.int .i64 2,.int .i64 a,.int .i64 b,.int .u64 w],1,false,1⟩).push ⟨[.int .i64 0,.int .i64 0,.int .u64 0],1,false,1⟩).push ⟨[.int .i64 0,.int .i64 0,.int .u64 0],1,false,1⟩)
   generalize hN:((x::L).length:Int)=N at *
   have f0:=x5.obj G.nx (by (first | (simp; done) | (simp; omega)))
   have f2:=x5.obj (G.nx+2) (by (first | (simp; done) | (simp; omega)))
   have f3:=x5.obj (G.nx+3) (by (first | (simp; done) | (simp; omega)))
   have fn:=x5.nx
   simp [Nat.add_assoc] at f0 f2 f3 fn
   simp [s123,mBox,Value.cells,cell_eq,hn,hp,e5,f0,f2,f3,hW,fillL,fillC,splice_put,splice_end,splice_succ,st3,ld3,Nat.add_assoc]
   refine ⟨_,⟨by simp [dCode,dWord],rfl,by simp [dOk]⟩,?_,?_⟩
   ·exact Ext.put (Ext.put (((((Ext.refl G).push _).push _).push _).push _ |>.trans x5) (by omega) _) (by omega) _
   intro G2 hE
   simp only [dNext,k12,show ¬ ((2:Int)=3) by decide,if_false]
   have hb:=hE.obj G.nx (by (first | (simp; done) | (simp; omega))) (by omega)
   simp [f0,Nat.add_assoc] at hb
   simpa using same_ring orc h hb (by have:=hE.nx; simp at this; omega)
 by_cases k3:k=3
 ·subst k3
  have k13:¬ ((3:Int)=1):=by decide
  cases L with
  | nil =>
   simp at hn
   simp [s123,mBox,Value.cells,cell_eq,hn,Nat.add_assoc]
   refine Wp.bX (Wp.up (x:=gDoes _ _) (fun {r} h=>jDoes orc _ _ (by rfl) h) ?_)
   simp [gDoes,hbd,hss,n6,n9,storeN_eq,ifE_rg,Value.cells,fillL,fillC,splice_put,splice_end,splice_succ,st3,ld3,Nat.add_assoc]
   refine ⟨_,⟨by simp [dCode,dWord],rfl,by simp [dOk]⟩,by (repeat (first | with_reducible exact Ext.refl _ | with_reducible assumption | with_reducible apply Ext.room | with_reducible apply Ext.push | with_reducible refine Ext.put ?_ ?_ _ | omega | (simp; done) | (simp; omega))),?_⟩
   intro G2 hE
   simp only [dNext,k13,if_true,if_false,List.tail]
   have hb:=hE.obj G.nx (by (first | (simp; done) | (simp; omega))) (by omega)
   simp [Nat.add_assoc] at hb
   simpa using same_ring orc h hb (by have:=hE.nx; simp at this; omega)
  | cons x L =>
   have hp:¬ (((x::L).length:Int)=0):=by (first | (simp; done) | (simp; omega))
   generalize hN:((x::L).length:Int)=N at *
   simp [s123,mBox,Value.cells,cell_eq,hn,hp,hW,fillL,fillC,splice_put,splice_end,splice_succ,st3,ld3,Nat.add_assoc]
   refine ⟨_,⟨by simp [dCode,dWord],rfl,by simp [dOk]⟩,by (repeat (first | with_reducible exact Ext.refl _ | with_reducible assumption | with_reducible apply Ext.room | with_reducible apply Ext.push | with_reducible refine Ext.put ?_ ?_ _ | omega | (simp; done) | (simp; omega))),?_⟩
   intro G2 hE
   simp only [dNext,k13,if_true,if_false,List.tail]
   have hb:=hE.obj G.nx (by (first | (simp; done) | (simp; omega))) (by omega)
   simp [Nat.add_assoc] at hb
   simpa using dropped_ring orc h hb (by have:=hE.nx; simp at this; omega)
 ·simp [s123,mBox,Value.cells,cell_eq,k1,k2,k3,fillL,fillC,splice_put,splice_end,splice_succ,st3,ld3,Nat.add_assoc]
  refine ⟨_,⟨by simp [dCode,dWord,k1,k2,k3],rfl,by simp [dOk,k1,k2,k3]⟩,by (repeat (first | with_reducible exact Ext.refl _ | with_reducible assumption | with_reducible apply Ext.room | with_reducible apply Ext.push | with_reducible refine Ext.put ?_ ?_ _ | omega | (simp; done) | (simp; omega))),?_⟩
  intro G2 hE
  simp only [dNext,k1,k3,if_true,if_false]
  have hb:=hE.obj G.nx (by (first | (simp; done) | (simp; omega))) (by omega)
  simp [Nat.add_assoc] at hb
  simpa using same_ring orc h hb (by have:=hE.nx; simp at this; omega)
theorem reqAn (a0 a1 a2 b0 b1 b2:Int):prun Q (Op.equalIn 10000 27 (.agg ⟨[.int .i64 a0,.int .i64 a1,.int .u64 a2]⟩) (.agg ⟨[.int .i64 b0,.int .i64 b1,.int .u64 b2]⟩))=some (a0==b0&&(a1==b1&&(a2==b2&&true))) :=
 eqS (d:=9999) (L:=[(25,0),(3,1),(22,2)]) (by kernel_rfl) (by kernel_rfl) (eqL_cons (a:=.int .i64 a0) (b:=.int .i64 b0) (by kernel_rfl) (by kernel_rfl) (by kernel_rfl) (eqL_cons (a:=.int .i64 a1) (b:=.int .i64 b1) (by kernel_rfl) (by kernel_rfl) (by kernel_rfl) (eqL_cons (a:=.int .u64 a2) (b:=.int .u64 b2) (by kernel_rfl) (by kernel_rfl) (by kernel_rfl) rfl)))
theorem neAn (x y:Operand) (o p:An3):gBinF Q .neq 27 x y (.agg ⟨eAn.row o⟩) (.agg ⟨eAn.row p⟩)=some (.bool (!decide (o=p))):=by
 obtain ⟨a,b,c⟩:=o
 obtain ⟨a',b',c'⟩:=p
 have:=neq_aggF (P:=Q) (x:=x) (y:=y) (op:=.eql) (by kernel_rfl) (by kernel_rfl) (by kernel_rfl) (reqAn a b c a' b' c')
 rw [eAn_row,eAn_row,this]
 congr 2
 rw [Bool.eq_iff_iff]
 simp
def qNext (cap:Int) (L:List Int) (o:Op4) (an:An3):Option (List Int):=if fchk cap L.length=0∧dOk o.1=true∧(dCode cap L o.1,0,dWord L o.1)=an then some (dNext cap L o.1 o.2.2.2) else none
theorem qnext_ok (orc:FuncId→Bool) {v:Value} {L:List Int} {G:GS} (hv:SlR rU G v L) (hL:L.length≤1100) (cap:Int) (o:Op4) (an:An3) :
  Wp ((E orc).cl 52 [.int .i64 cap,v,.agg ⟨rowOp o⟩,.agg ⟨eAn.row an⟩] G) fun r=>Ext G r.2∧∃ v',(r.1= .tuple #[v',.bool true]∧∃ L',qNext cap L o an=some L' ∧OwR rU G.nx r.2 v' L')∨(r.1= .tuple #[v',.bool false]∧qNext cap L o an=none):=by
 obtain ⟨k,a,b,w⟩:=o
 have e2:Ext G ((G.push ⟨rowOp (k,a,b,w),1,false,1⟩).push ⟨eAn.row an,1,false,1⟩):=((Ext.refl G).push _).push _
 obtain ⟨a0,c0,ha⟩:=hv.len
 obtain ⟨rc,ec,hrc⟩:=check_ok orc (a:=a0) (n:=L.length) (c:=c0) (cap:=cap) ((G.push ⟨rowOp (k,a,b,w),1,false,1⟩).push ⟨eAn.row an,1,false,1⟩)
 rw [hrc] at ec
 by_cases hc:fchk cap L.length=0
 ·have hc':=fchk_zero.1 hc
  have e3:=e2.room 13
  obtain ⟨⟨q,G4⟩,e4,hq,x4⟩:=queue_ok orc (hv.ext e3) (by omega)
  simp only at hq x4
  obtain ⟨⟨r,G5⟩,e5,f,hr,x5,hf⟩:=does_ok orc hq (cap:=cap) (by omega) (by omega) k a b w G4
  simp only at hr x5 hf
  subst hr
  have x45:=x4.trans x5
  have f0:=x4.obj G.nx (by (first | (simp; done) | (simp; omega)))
  have g1:=x45.obj (G.nx+1) (by (first | (simp; done) | (simp; omega)))
  have hx:=x45.nx
  have hx4:=x4.nx
  have hx5:=x5.nx
  simp [Nat.add_assoc,-eAn_row] at f0 g1 hx hx4
  have ld4:loadO 4 0 (some ⟨rowOp (k,a,b,w),1,false,1⟩)=some (.agg ⟨rowOp (k,a,b,w)⟩):=loadO_whole rfl (by decide)
  have ld3:∀ y:An3,loadO 3 0 (some ⟨eAn.row y,1,false,1⟩)=some (.agg ⟨eAn.row y⟩):=fun y=>loadO_whole rfl (by decide)
  have st3:∀ y:An3,stO 3 0 (.agg ⟨eAn.row y⟩) (some ⟨z27,1,false,1⟩)=some ⟨eAn.row y,1,false,1⟩:=fun y=>rfl
  have hs:same (.agg ⟨rowOp (k,a,b,w)⟩) (.agg ⟨rowOp (k,a,b,w)⟩)=true:=by simp [rowOp,same,sameD,sameD.listD]
  obtain ⟨GE,hGE⟩:∃ GE,GE=((((G5.at' (G.nx+11)).push ⟨z27,1,false,1⟩).back G5).put (G.nx+11) ⟨eAn.row (dCode cap L k,0,dWord L k),1,false,1⟩):=⟨_,rfl⟩
  have xE:Ext G GE:=by rw [hGE]; exact (drawn0 (e3.trans x45) (by omega) _).put (by omega) _
  have hM:Mid G4.nx G5 GE:=by rw [hGE]; exact ⟨by simp,fun g hg hl=>by simp; rw [if_neg (by omega),if_neg (by omega)]⟩
  obtain ⟨⟨q2,G6⟩,e6,hq2,x6⟩:=hf _ hM
  simp only at hq2 x6
  obtain ⟨⟨v',G7⟩,e7,x7,o7⟩:=ring_list orc hq2 G6
  simp only at x7 o7
  have oE:GE.obj (G.nx+11)=some ⟨eAn.row (dCode cap L k,0,dWord L k),1,false,1⟩:=by rw [hGE]; simp
  have oE1:GE.obj (G.nx+1)=some ⟨eAn.row an,1,false,1⟩:=by rw [hGE]; simp [g1,-eAn_row]
  subst ha
  refine Wp.ref (f52 (exL_ok Q orc) _ _ _ _ G) ?_
  generalize hro:rowOp (k,a,b,w)=ro at *
  have hroc:(Value.agg ⟨ro⟩).cells.toList=ro:=rfl
  have q1:dOk k=true→(dCode cap L k,0,dWord L k)=an→qNext cap L (k,a,b,w) an=some (dNext cap L k w):=fun h1 h2=>by unfold qNext; rw [if_pos ⟨hc,h1,h2⟩]
  have q2':¬ (dOk k=true∧(dCode cap L k,0,dWord L k)=an)→qNext cap L (k,a,b,w) an=none:=fun h=>by unfold qNext; rw [if_neg (fun h'=>h h'.2)]
  generalize (dCode cap L k,(0:Int),dWord L k)=dv at *
  by_cases hk:dOk k=true
  ·rw [hk] at e5
   by_cases hn:dv=an
   ·have hqn:=q1 hk hn
    subst hn
    simp [-eAn_row,-cValue_func,s52,mBox,Value.cells,ec,hc,e4,ld4,f0,sameO,hs,e5,pExtract,getN_zero,getN_succ,Nat.add_assoc,st3,ld3,neAn,← hGE,oE,oE1,g1,e6,e7,hqn]
    exact ⟨(xE.trans x6).trans x7,o7.mono (xE.trans x6).nx⟩
   ·have hqn:=q2' (fun h=>hn h.2)
    simp [-eAn_row,-cValue_func,s52,mBox,Value.cells,ec,hc,e4,ld4,f0,sameO,hs,e5,pExtract,getN_zero,getN_succ,Nat.add_assoc,st3,ld3,neAn,← hGE,oE,oE1,g1,hn,hqn]
    exact xE
  ·have hqn:=q2' (fun h=>hk h.1)
   have hk':dOk k=false:=by simpa using hk
   rw [hk'] at e5
   simp [-eAn_row,-cValue_func,s52,mBox,Value.cells,ec,hc,e4,ld4,f0,sameO,hs,e5,pExtract,getN_zero,getN_succ,Nat.add_assoc,st3,ld3,neAn,← hGE,oE,oE1,g1,hqn]
   exact xE
 ·subst ha
  refine Wp.ref (f52 (exL_ok Q orc) _ _ _ _ G) ?_
  have hn:qNext cap L (k,a,b,w) an=none:=by unfold qNext; rw [if_neg (fun h=>hc h.1)]
  simp only [rowOp,eAn_row] at ec ⊢
  simp [s52,mBox,Value.cells,ec,hc,hn]
  exact ((Ext.refl G).push _).push _
def qFine (s:List Int) (o:Op4):List An3:=if o.1=2 then (match s with | []=>[] | x::_=>[(0,0,x)]) else [(0,0,0)]
def qMac (cap:Int):Mac Int:=⟨[],qNext cap,qFine⟩
def qInv (L:List Int):Prop:=L.length≤1024∧∀ x∈L,0≤x∧x<18446744073709551616
theorem qInv_next {cap:Int} {L L':List Int} {o:Op4} {an:An3} (h:qInv L) (ho:okOp o) (hn:qNext cap L o an=some L'):qInv L':=by
 unfold qNext at hn
 split at hn
 ·rename_i hc
  have hf:=fchk_zero.1 hc.1
  cases hn
  unfold dNext
  split
  ·split
   ·exact h
   ·refine ⟨by simp; omega,fun x hx=>?_⟩
    rcases List.mem_append.1 hx with hx | hx
    ·exact h.2 x hx
    ·rw [List.mem_singleton.1 hx]; exact ho.1
  ·split
   ·refine ⟨by rw [List.length_tail]; have:=h.1; omega,fun x hx=>h.2 x (List.mem_of_mem_tail hx)⟩
   ·exact h
 ·cases hn
theorem txt_flat:∀ {L:List Int},(∀ x∈L,0≤x∧x<18446744073709551616)→txtL (rU.flat L) (.u64,44) (.u64,44)=some (txN L)
 | [],_=>rfl
 | x::L,h=>by
  have hx:=h x (List.mem_cons_self ..)
  have ih:=txt_flat (L:=L) fun y hy=>h y (List.mem_cons_of_mem _ hy)
  rw [RowE.flat_cons,rU_row,List.singleton_append,txtL_cons,ih]
  have:txt1 (.u64,44) (.int .u64 x)=some (dgI x++[44]):=by simp [txt1,inR,hx.1,hx.2]
  rw [this]
  simp [txN]
theorem tabs_ext {B G:GS} (h:Ext B G) (ht:tabs B=true) (hn:2≤B.nx):tabs G=true:=by
 unfold tabs at ht ⊢
 rw [h.obj 0 (by omega),h.obj 1 (by omega)]
 exact ht
theorem qtext (orc:FuncId→Bool) {G:GS} {sv:Value} {L:List Int} (ht:tabs G=true) (hs:SlR rU G sv L) (hi:qInv L):Wp ((E orc).cl 105 [sv] G) fun r=>r.1= .string ⟨(txN L).toArray⟩∧r.2=G:=by
 refine Wp.ref (Ref.txA (P:=Q) (by kernel_rfl) (by kernel_rfl) (by kernel_rfl) [sv] G) ?_
 obtain ⟨a,c,e0⟩:=hs.len
 have hel:=elems_of hs.is
 rw [rU_sz] at hel
 cases L with
 | nil =>
  subst e0
  simp [txt,txN]
 | cons x L =>
  have htx:=txt_flat hi.2
  have hle:=hi.1
  rcases hs.is.2 with ⟨h1,h2⟩ | ⟨b,o,c',ob,h1,_⟩
  ·simp at h2
  ·subst h1
   have hr:rdN G b o ((L.length+1)*1)=some (rU.flat (x::L)):=hel
   have hb:Nat.ble L.length 1000000=true:=Nat.ble_eq_true_of_le (by simp at hle; omega)
   simp only [List.length_cons,txt,kA,ht,hb,Bool.and_self,if_true,hr,htx]
   exact ⟨_,rfl,rfl,rfl⟩
theorem macQ (orc:FuncId→Bool) {B:GS} {pr:Nat} {cap:Int} (ht:tabs B=true) (h2:2≤B.nx) (hp:pr<B.nx) (hc:B.obj pr=some ⟨[.int .i64 cap],1,false,1⟩) :
  MacC orc rU (qMac cap) qInv (fun L=>⟨(txN L).toArray⟩) B (.slice none 0 0) (.func (.func 103) ⟨[]⟩ ⟨[Pp pr]⟩) (.func (.func 104) ⟨[]⟩ ⟨[]⟩) (.func (.func 105) ⟨[]⟩ ⟨[]⟩) where
 first:=SlR.nil
 inv0:=⟨Nat.zero_le _,fun _ h=>(by cases h)⟩
 next G sv s op an hB hs hi ho:=by
  rw [cValue_func]
  have x2:Ext G ((G.push ⟨rowOp op,1,false,1⟩).push ⟨eAn.row an,1,false,1⟩):=((Ext.refl G).push _).push _
  obtain ⟨⟨r,G'⟩,e1,x1,v',hr⟩:=qnext_ok orc (hs.ext x2) (by have:=hi.1; omega) cap op an
  simp only at x1 hr
  have ld4:loadO 4 0 (some ⟨rowOp op,1,false,1⟩)=some (.agg ⟨rowOp op⟩):=loadO_whole rfl (by decide)
  have ld3:loadO 3 0 (some ⟨eAn.row an,1,false,1⟩)=some (.agg ⟨eAn.row an⟩):=loadO_whole rfl (by decide)
  have n1:¬ pr=G.nx:=by have:=hB.nx; omega
  have n2:¬ pr=G.nx+1:=by have:=hB.nx; omega
  have op':G.obj pr=some ⟨[.int .i64 cap],1,false,1⟩:=(hB.obj _ hp).trans hc
  refine Wp.ref (f103 (exL_ok Q orc) _ _ _ _ G) ?_
  rcases hr with ⟨rfl,L',h1,h2'⟩ | ⟨rfl,h1⟩
  ·simp [-eAn_row,s103,mBox,Value.cells,n1,n2,op',ld4,ld3,e1,pExtract,getN_zero,getN_succ]
   exact ⟨x2.trans x1,L',h1,qInv_next hi ho h1,h2'.mono (by simp; omega)⟩
  ·simp [-eAn_row,s103,mBox,Value.cells,n1,n2,op',ld4,ld3,e1,pExtract,getN_zero,getN_succ]
   exact ⟨x2.trans x1,h1⟩
 fine G sv s op hB hs hi ho:=by
  rw [cValue_func]
  refine Wp.ref (f104 (exL_ok Q orc) _ _ G) ?_
  obtain ⟨a,c,e0⟩:=hs.len
  have x1:Ext G (G.push ⟨rowOp op,1,false,1⟩):=(Ext.refl G).push _
  show Wp _ fun (r:Value×GS)=>Ext G r.2∧SlR eAn r.2 r.1 (qFine s op)∧(qFine s op).length≤2000
  have lc:∀ t,ln Q true t sv=some (.int .i64 s.length):=fun t=>by rw [e0]; simp
  unfold qFine
  by_cases h2:op.1=2
  ·cases s with
   | nil =>
    simp [s104,mBox,Value.cells,rowOp,h2,lc]
    exact ⟨(Ext.refl G).push _,SlR.nil⟩
   | cons x s =>
    obtain ⟨b,o,c',e1,hb,q,_⟩:=hs.at (i:=0) (by simp)
    have q0:=q 0 (by decide)
    simp at q0
    have nb:¬ b=G.nx:=by omega
    have hl:¬ ((s.length:Int)+1=0):=by omega
    rw [e1] at lc
    subst e1
    simp [s104,mBox,Value.cells,rowOp,h2,nb,q0,hl]
    exact ⟨((Ext.refl G).push _).push _,SlR.one eAn _ (0,0,x)⟩
  ·simp [s104,mBox,Value.cells,rowOp,h2]
   exact ⟨((Ext.refl G).push _).push _,SlR.one eAn _ (0,0,0)⟩
 text G sv s hB hs hi:=by
  rw [cValue_func]
  exact qtext orc (tabs_ext hB ht h2) hs hi
 inj s s' h1 h2 h:=txN_inj h1.2 h2.2 (by simpa using h)
 sm:=by simp [same,sameD,sameD.listD]
def rowQ (pr:Nat):List Value:=[.slice none 0 0,.func (.func 103) ⟨[]⟩ ⟨[Pp pr]⟩,.func (.func 104) ⟨[]⟩ ⟨[]⟩,.func (.func 105) ⟨[]⟩ ⟨[]⟩]
theorem queues_ok (orc:FuncId→Bool) (cap:Int) (G:GS):Wp ((E orc).cl 41 [.int .i64 cap] G) fun r=>r.1= .agg ⟨rowQ G.nx⟩∧Ext G r.2∧r.2.obj G.nx=some ⟨[.int .i64 cap],1,false,1⟩∧G.nx<r.2.nx:=by
 refine Wp.ref (f41 (exL_ok Q orc) _ G) ?_
 have n1:¬ G.nx=G.nx+1:=by omega
 simp [s41,mBox,Value.cells,rowQ,n1]
 exact ⟨(((Ext.refl G).push _).push _).put (by omega) _,by omega⟩
theorem orderF (orc:FuncId→Bool) {G:GS} {lV:Value} {l:List Sp} (ht:tabs G=true) (h2:2≤G.nx) (hl:SlR rSp G lV l) (okl:∀ c∈l,okOp c.op) (room:Int) (hm:MayOk 1 room l) :
  Wp ((E orc).cl 14 [.int .i64 1,.int .i64 room,lV] G) fun r=>Ext G r.2∧(r.1= .tuple #[.slice none 0 0,.bool false,.int .i64 0]∧¬ Goes (qMac room) l [] [] 0∨∃ outv row s2,r.1= .tuple #[outv,.bool true,.int .i64 0]∧Way (qMac room) l [] 0 row s2 (dn row 0)∧ovrP l (dn row 0)∧OwR (rowsI .i64) G.nx r.2 outv (row.map fun a=>(sp l a).id)):=by
 refine Wp.ref (f14 (exL_ok Q orc) _ _ _ G) ?_
 obtain ⟨⟨r1,G1⟩,e1,x1,x,rfl,hx⟩:=may_ok orc hl 1 room
 have hx0:=hx.2 hm
 subst hx0
 simp only at x1
 obtain ⟨⟨r2,G2⟩,e2,rfl,x2,o2,n2⟩:=queues_ok orc room G1
 simp only at x2 o2 n2
 have xx:=x1.trans x2
 obtain ⟨⟨r3,G3⟩,e3,x3,h3⟩:=order_Q (orc:=orc) (macQ orc (tabs_ext xx ht h2) (by have:=xx.nx; omega) n2 o2) (Ext.refl G2) (hl.ext xx) okl (by have:=hm.2.2.1; omega)
 simp only at x3 h3
 have e3:(E orc).cl 40 [.agg ⟨rowQ G1.nx⟩,lV] G2=some (r3,G3):=e3
 have x13:=xx.trans x3
 rcases h3 with ⟨rfl,hg⟩ | ⟨outv,row,s2,rfl,hw,ho,hv⟩
 ·simp [-eAn_row,jb14_0,j14_0,sb14,s14,e1,e2,e3,pExtract,getN_zero,getN_succ,clip_t]
  exact ⟨x13,hg⟩
 ·simp [-eAn_row,jb14_0,j14_0,sb14,s14,e1,e2,e3,pExtract,getN_zero,getN_succ,clip_t]
  exact ⟨x13,row,⟨s2,hw⟩,ho,hv.mono xx.nx⟩
end Go.Proofs.YtlaojmcekeohnaaGreatDoor.Lift
