import Derived.Test.YtlaojmcekeohnaaGreatDoorYE
import Derived.Test.YtlaojmcekeohnaaGreatDoorGhPD
set_option linter.unusedVariables false
set_option linter.unusedSimpArgs false
set_option maxRecDepth 20000
namespace Go.Proofs.YtlaojmcekeohnaaGreatDoor.Lift
open Go Go.Proofs.YtlaojmcekeohnaaGreatDoor.Gh Go.Proofs
theorem extNewP {A G:GS} (h:Ext A G):Ext A G.newMap:=⟨h.nx,h.obj,Nat.le_trans h.nl (Nat.le_succ _),fun k hk=>by
 have:k ≠ G.nl:=by have:=h.nl; omega
 show (G.pushLoop _).loop k = _
 rw [GS.loop_push,if_neg this]; exact h.loop k hk⟩
section
variable {α:Type} {orc:FuncId → Bool} {e:RowE α} {m:Mac α} {inv:List α → Prop} {tx:List α → ByteArray} {B:GS} {fv nv uv tv lV bV:Value} {l:List Sp} {b:List Nat} {G:GS}
theorem ord1_P {H:GS} {p3 p4 p6 l0 fl:Nat} {R:Lp} (hm:MacC orc e m inv tx B fv nv uv tv) (hB:Ext B H) (lt:p3 < H.nx ∧ p4 < H.nx ∧ p6 < H.nx ∧ fl < H.nx) (hl0:l0 < H.nl)
  (c3:H.obj p3 = some ⟨[bV],1,false,1⟩) (c4:H.obj p4 = some ⟨[lV],1,false,1⟩) (c6:H.obj p6 = some ⟨[fv,nv,uv,tv],1,false,1⟩) (cf:H.obj fl = some ⟨[.bool false],1,false,1⟩) (r0:H.loop l0 = some R)
  (hl:SlR rSp H lV l) (hb:SlR (rowsI .i64) H bV (rIP b)) (okl:∀ c ∈ l,okOp c.op) (len:l.length ≤ 11) (lenb:b.length ≤ 3000)
  (yl:∀ (t:TeP),t.l0 = l0 → t.fl = fl → t.R = R → ∀ (G1:GS) (v:Value),G1.loop l0 = some R → G1.obj fl = some ⟨[.bool false],1,false,1⟩ → fl < G1.nx → l0 < G1.nl → ∃ G2,(E orc).rd l0 [v] G1 = some (.bool false,G2) ∧ Fd t G1 G2) :
  Wp ((E orc).cl 233 [.func (.yield l0) #[] #[],Pp p3,Pp p4,Pp p6] H) fun r=>r.1 = .tuple #[] ∧ ((¬ Goes m l b m.first 0 ∧ Ext H r.2) ∨ (Goes m l b m.first 0 ∧ H.nx ≤ r.2.nx ∧ (∀ g,g < H.nx → g ≠ fl → r.2.obj g = H.obj g) ∧ r.2.obj fl = some ⟨[.bool true],1,false,1⟩ ∧ H.nl ≤ r.2.nl ∧ (∀ k,k < H.nl → k ≠ l0 → r.2.loop k = H.loop k) ∧ ∃ r',r.2.loop l0 = some r' ∧ r'.st = .done ∧ jumpOf r'.pend = some .ret)):=by
 obtain ⟨g1,g2,g3,g4⟩:=lt
 refine Wp.ref (f233 (exL_ok Q orc) _ _ _ _ H) ?_
 have n3:¬ p6 = H.nx:=by omega
 have n4:¬ p6 = H.nx + 1:=by omega
 have n5:¬ p6 = H.nx + 1 + 1:=by omega
 have hsm:stO 1 0 (.map (some H.nl)) (some ⟨z320,1,false,1⟩) = some ⟨[.map (some H.nl)],1,false,1⟩:=rfl
 have mx:∀ G:GS,G.newMap.nx = G.nx:=fun _=>rfl
 have mo:∀ (G:GS) (g:Nat),G.newMap.obj g = G.obj g:=fun _ _=>rfl
 obtain ⟨G9,h9⟩:∃ G9,G9 = (((((H.push ⟨[.func (.yield l0) #[] #[]],1,false,1⟩).newMap.push ⟨z320,1,false,1⟩).put (H.nx + 1) ⟨[.map (some H.nl)],1,false,1⟩).push ⟨z332,1,false,1⟩).put (H.nx + 1 + 1) ⟨[.func (.func 234) #[] #[Pp p3,Pp p4,Pp H.nx,Pp p6,Pp (H.nx + 1),Pp (H.nx + 1 + 1)]],1,false,1⟩):=⟨_,rfl⟩
 have x9:Ext H G9:=by
  rw [h9]
  exact Ext.put (Ext.push (Ext.put (Ext.push (extNewP ((Ext.refl H).push _)) _) (by omega) _) _) (by omega) _
 have n9:G9.nx = H.nx + 3:=by rw [h9]; simp [mx]
 have l9:G9.nl = H.nl + 1:=by rw [h9]; rfl
 have ne2:¬ H.nx = H.nx + 1 + 1:=by omega
 have o5:G9.obj H.nx = some ⟨[.func (.yield l0) #[] #[]],1,false,1⟩:=by rw [h9]; simp [mx,mo,ne2]
 have o7:G9.obj (H.nx + 1) = some ⟨[.map (some H.nl)],1,false,1⟩:=by rw [h9]; simp [mx,mo]
 have o8:G9.obj (H.nx + 1 + 1) = some ⟨[.func (.func 234) ⟨[]⟩ ⟨[Pp p3,Pp p4,Pp H.nx,Pp p6,Pp (H.nx + 1),Pp (H.nx + 1 + 1)]⟩],1,false,1⟩:=by rw [h9]; simp [mx,mo]
 have lp9:G9.loop H.nl = some (mpL []):=by rw [h9]; exact newMap_loop (H.push _)
 have te:Te orc e m inv tx 234 B ⟨p3,p4,H.nx,p6,H.nx + 1,H.nx + 1 + 1,H.nl,l0,fl,bV,lV,fv,nv,uv,tv,l,b,R⟩ G9 :=
  ⟨hm,hB.trans x9,⟨hB.nl,by simp only; omega⟩,⟨by simp only; omega,by simp only; omega⟩,⟨by simp only; omega,by simp only; omega,by simp only; omega,by simp only; omega,by simp only; omega,by simp only; omega,by simp only; omega⟩,
   (x9.obj _ g1).trans c3,(x9.obj _ g2).trans c4,o5,(x9.obj _ g3).trans c6,o7,o8,(x9.obj _ g4).trans cf,hb.ext x9,hl.ext x9,okl,len,lenb,(x9.loop _ hl0).trans r0,fun G1 v k1 k2 k3 k4=>yl _ rfl rfl rfl G1 v k1 k2 k3 k4⟩
 have hM:Mem m l inv tx H.nl (fun _ _=>False) G9:=⟨[],lp9,⟨fun _ h=>(by cases h),fun _ h=>(by cases h)⟩,fun _ h=>(by cases h)⟩
 obtain ⟨⟨r,G14⟩,et,ho⟩:=try_P (2 ^ l.length) (fun _ _=>False) m.first 0 [] fv (.slice none 0 0) G9 (by simp) (Nat.two_pow_pos _) (by simp) (fun _ _ h=>h.elim) te hM (hm.first.ext (hB.trans x9)) hm.inv0 SlR.nil
 have et:(E orc).cl 234 [fv,.int .i64 0,.slice none 0 0,Pp p3,Pp p4,Pp H.nx,Pp p6,Pp (H.nx + 1),Pp (H.nx + 1 + 1)] G9 = some (r,G14):=et
 simp [s233,mBox,Value.cells,nm,c6,n3,n4,n5,hsm,mx,mo,← h9,et]
 rcases ho with ⟨h1,h2,h3,h4⟩ | ⟨h1,h2,h3⟩
 ·left
  simp only [List.length_nil,List.drop_zero] at h2
  refine ⟨h2,Nat.le_trans x9.nx h3.nx,fun g hg=>(h3.obj g (by omega)).trans (x9.obj g hg),Nat.le_trans x9.nl h3.nl,fun k hk=>(h3.loop k (by omega) (by simp only; omega)).trans (x9.loop k hk)⟩
 ·right
  simp only [List.length_nil,List.drop_zero] at h2
  have y1:=h3.nx
  have y2:=h3.nl
  refine ⟨h2,by simp only at y1; omega,fun g hg hn=>(h3.obj g (by omega) hn).trans (x9.obj g hg),h3.fl,by simp only at y2; omega,fun k hk hn=>(h3.loop k (by omega) (by simp only; omega) hn).trans (x9.loop k hk),h3.l0⟩
theorem orders_P (hl:SlR rSp G lV l) (hb:SlR (rowsI .i64) G bV (rIP b)) :
  (E orc).cl 175 [.agg ⟨[fv,nv,uv,tv]⟩,lV,bV] G = some (.func (.func 233) ⟨[]⟩ ⟨[Pp (G.nx + 2),Pp (G.nx + 1),Pp G.nx]⟩,((G.push ⟨[fv,nv,uv,tv],1,false,1⟩).push ⟨[lV],1,false,1⟩).push ⟨[bV],1,false,1⟩):=by
 obtain ⟨la,lc,el⟩:=hl.len
 obtain ⟨ba,bc,eb⟩:=hb.len
 have w:Wp ((E orc).cl 175 [.agg ⟨[fv,nv,uv,tv]⟩,lV,bV] G) fun r=>r = (.func (.func 233) ⟨[]⟩ ⟨[Pp (G.nx + 2),Pp (G.nx + 1),Pp G.nx]⟩,((G.push ⟨[fv,nv,uv,tv],1,false,1⟩).push ⟨[lV],1,false,1⟩).push ⟨[bV],1,false,1⟩):=by
  refine Wp.ref (f175 (exL_ok Q orc) _ _ _ G) ?_
  subst el eb
  simp [s175,mBox,Value.cells]
 obtain ⟨r,h1,h2⟩:=w
 rw [h1,h2]
theorem begins_P (hm:MacC orc e m inv tx B fv nv uv tv) (hB:Ext B G) (hl:SlR rSp G lV l) (hb:SlR (rowsI .i64) G bV (rIP b)) (okl:∀ c ∈ l,okOp c.op) (len:l.length ≤ 11) (lenb:b.length ≤ 3000) :
  Wp ((E orc).cl 111 [.agg ⟨[fv,nv,uv,tv]⟩,lV,bV] G) fun r=>Ext G r.2 ∧ (r.1 = .bool true ∧ Goes m l b m.first 0 ∨ r.1 = .bool false ∧ ¬ Goes m l b m.first 0):=by
 refine Wp.ref (f111 (exL_ok Q orc) _ _ _ G) ?_
 have x2:Ext G ((G.push ⟨[fv,nv,uv,tv],1,false,1⟩).push ⟨[.bool false],1,false,1⟩):=((Ext.refl G).push _).push _
 have e1:=orders_P (orc:=orc) (fv:=fv) (nv:=nv) (uv:=uv) (tv:=tv) (hl.ext x2) (hb.ext x2)
 simp [s111,mBox,Value.cells,e1,loadO_whole]
 obtain ⟨T,hT⟩:∃ T,T = lst 12 (tu (nth undef [Value.agg { toList:=[fv,nv,uv,tv] },lV,bV]) [(10,Value.func (Fn.func 233) { toList:=[] } { toList:=[Pp (G.nx + 1 + 1 + 2),Pp (G.nx + 1 + 1 + 1),Pp (G.nx + 1 + 1)] }),(9,bV),(8,lV),(7,Value.agg { toList:=[fv,nv,uv,tv] }),(6,Pp (G.nx + 1)),(3,Pp G.nx)]):=⟨_,rfl⟩
 have T6:nth undef T 6 = Pp (G.nx + 1):=by rw [hT]; rfl
 have T12:T.length = 12:=by rw [hT]; rfl
 rw [← hT]
 obtain ⟨H,hH⟩:∃ H,H = ((((G.push ⟨[fv,nv,uv,tv],1,false,1⟩).push ⟨[.bool false],1,false,1⟩).push ⟨[fv,nv,uv,tv],1,false,1⟩).push ⟨[lV],1,false,1⟩).push ⟨[bV],1,false,1⟩:=⟨_,rfl⟩
 rw [← hH]
 have xH:Ext G H:=by rw [hH]; exact (((((Ext.refl G).push _).push _).push _).push _).push _
 have nH:H.nx = G.nx + 5:=by rw [hH]; simp
 have lH:H.nl = G.nl:=by rw [hH]; rfl
 obtain ⟨R,hR⟩:∃ R,R = (⟨.ready,none,T,[11],subAt [1,0,1,0,0] (bodyOf Tryz.f111),subAt [1,0,1,0,1] (bodyOf Tryz.f111)⟩:Lp):=⟨_,rfl⟩
 rw [← hR]
 have xP:Ext G (H.pushLoop R):=⟨xH.nx,xH.obj,Nat.le_trans xH.nl (Nat.le_succ _),fun k hk=>by rw [GS.loop_push,if_neg (by omega)]; exact xH.loop k hk⟩
 have k1:∀ g,(H.pushLoop R).obj g = H.obj g:=fun _=>rfl
 have w:=ord1_P (orc:=orc) (H:=H.pushLoop R) (p3:=G.nx + 1 + 1 + 2) (p4:=G.nx + 1 + 1 + 1) (p6:=G.nx + 1 + 1) (l0:=G.nl) (fl:=G.nx + 1) (R:=R) hm (hB.trans xP) (by show _ < H.nx ∧ _ < H.nx ∧ _ < H.nx ∧ _ < H.nx; omega) (by show _ < H.nl + 1; omega)
  (by rw [k1,hH]; simp) (by rw [k1,hH]; simp) (by rw [k1,hH]; simp) (by rw [k1,hH]; simp) (by rw [GS.loop_push,if_pos lH.symm]) (hl.ext xP) (hb.ext xP) okl len lenb ?yl
 case yl =>
  intro t t0 tf tR G1 v r1 r2 r3 r4
  have w:Wp ((E orc).rd G.nl [v] G1) fun q=>q = (.bool false,((G1.putLoop G.nl (R.setSt .busy)).put (G.nx + 1) ⟨[.bool true],1,false,1⟩).putLoop G.nl { R.setSt .busy with st:=.done,pend:=some .ret }):=by
   refine Wp.ref (d111_0 (exL_ok Q orc) G.nl T v G1 (st:=.ready) (pend:=none) (by rw [r1,hR]) T12) ?_
   have hst:stO 1 0 (.bool true) (some ⟨[.bool false],1,false,1⟩) = some ⟨[.bool true],1,false,1⟩:=rfl
   have hR':R.st = .ready:=by rw [hR]
   simp [r111_0,T6,r1,hR',r2,hst,roundEnd,codeOf]
  obtain ⟨r,w1,w2⟩:=w
  rw [w2] at w1
  refine ⟨_,w1,⟨Nat.le_refl _,fun g hg hn=>?_,?_,Nat.le_refl _,fun k hk hn h0=>?_,?_⟩⟩
  ·rw [tf] at hn; simp [hn]
  ·rw [tf]; simp
  ·rw [t0] at h0; rw [GS.loop_put,if_neg h0]; show (G1.putLoop _ _).loop k = _; rw [GS.loop_put,if_neg h0]
  ·rw [t0]; exact ⟨_,by rw [GS.loop_put,if_pos rfl],rfl,rfl⟩
 obtain ⟨⟨r,G14⟩,e14,rfl,ho⟩:=w
 simp only at ho
 rw [show (evL Q orc).cl 233 [.func (.yield G.nl) #[] #[],Pp (G.nx + 1 + 1 + 2),Pp (G.nx + 1 + 1 + 1),Pp (G.nx + 1 + 1)] (H.pushLoop R) = some (.tuple #[],G14) from e14]
 have pn:(H.pushLoop R).nx = G.nx + 5:=nH
 have pl:(H.pushLoop R).nl = G.nl + 1:=by show H.nl + 1 = _; omega
 rcases ho with ⟨h1,h2⟩ | ⟨h1,h2,h3,h4,h5,h6,r',h7,h8,h9⟩
 ·have q1:G14.loop G.nl = some R:=by rw [h2.loop _ (by omega),GS.loop_push,if_pos lH.symm]
  rw [xRangeEnd_some G.nl T _ G14 q1 (by rw [hR]; exact fun h=>by cases h) (e:=.normal) (by rw [hR]; rfl)]
  have q2:G14.obj (G.nx + 1) = some ⟨[.bool false],1,false,1⟩:=by rw [h2.obj _ (by omega),k1,hH]; simp
  have hst:stO 1 0 (.bool false) (some ⟨[.bool false],1,false,1⟩) = some ⟨[.bool false],1,false,1⟩:=rfl
  simp [T6,q2,hst,h1]
  have xx:=xP.trans h2
  exact ⟨xx.nx,fun g hg=>by
   have:¬ g = G.nx + 1:=by omega
   simp [this]; exact xx.obj g hg,xx.nl,fun k hk=>by
   have:¬ k = G.nl:=by omega
   show (G14.putLoop _ _).loop k = _
   rw [GS.loop_put,if_neg this]; exact xx.loop k hk⟩
 ·rw [xRangeEnd_some G.nl T _ G14 h7 (by rw [h8]; decide) h9]
  simp [T6,h4,h1]
  exact ⟨by show G.nx ≤ G14.nx; omega,fun g hg=>by
   show G14.obj g = _
   rw [h3 g (by omega) (by omega)]; exact xP.obj g hg,by show G.nl ≤ G14.nl; omega,fun k hk=>by
   have:¬ k = G.nl:=by omega
   rw [GS.loop_put,if_neg this,h6 k (by omega) this]; exact xP.loop k hk⟩
end
end Go.Proofs.YtlaojmcekeohnaaGreatDoor.Lift
set_option linter.unusedVariables false
set_option linter.unusedSimpArgs false
set_option maxRecDepth 20000
namespace Go.Proofs.YtlaojmcekeohnaaGreatDoor.Lift
open Go Go.Proofs.YtlaojmcekeohnaaGreatDoor.Gh Go.Proofs
theorem dn_ltP {n:Nat}:∀ {row:List Nat} {d:Nat},(∀ a ∈ row,a < n) → d < 2 ^ n → dn row d < 2 ^ n
 | [],d,_,h=>h
 | a :: row,d,h1,h2=>dn_ltP (row:=row) (fun x hx=>h1 x (List.mem_cons_of_mem _ hx)) (Nat.or_lt_two_pow h2 (by rw [Nat.shiftLeft_eq,Nat.one_mul]; exact Nat.pow_lt_pow_right (by decide) (h1 a (List.mem_cons_self ..))))
theorem dn_snocP (row:List Nat) (a d:Nat):dn (row ++ [a]) d = dn row d ||| 1 <<< a:=by simp [dn,List.foldl_append]
theorem way_lenP {α:Type} {m:Mac α} {l:List Sp} {s s2:List α} {d d2:Nat} {row:List Nat} (h:Way m l s d row s2 d2):d + row.length ≤ d2:=by
 induction h with
 | nil=>simp
 | cons h1 h2 h3 h4 h5 ih =>
  have:=or_gtP h2.1
  simp only [List.length_cons]
  omega
section
variable {α:Type} {orc:FuncId → Bool} {e:RowE α} {m:Mac α} {inv:List α → Prop} {tx:List α → ByteArray} {B A:GS} {fv nv uv tv lV:Value} {l:List Sp}
theorem goes_rowP {row:List Nat} (h:Goes m l row m.first 0):row.length ≤ dn row 0 ∧ dn row 0 < 2 ^ l.length:=by
 obtain ⟨r,s2,d2,hw,_⟩:=h
 obtain ⟨h1,h2,_⟩:=way_fresh hw
 have h3:∀ a ∈ row,a < l.length:=fun a ha=>(h1 a (List.mem_append_left _ ha)).2
 obtain ⟨s1,d1,k1,_⟩:=way_app.1 hw
 have:=way_lenP k1
 have e:=way_dn k1
 exact ⟨by omega,dn_ltP h3 (Nat.two_pow_pos _)⟩
structure OrSP (m:Mac α) (l:List Sp) (A G:GS) (rowv outv:Value) (row:List Nat):Prop where
 hA:Ext A G
 w1:OwR (rowsI .i64) A.nx G rowv (rIP row)
 w2:OwR (rowsI .i64) A.nx G outv (row.map fun a=>(sp l a).id)
 sep:∀ g,InB rowv g → ¬ InB outv g
 go:Goes m l row m.first 0
theorem OrSP.ext {G G':GS} {rowv outv:Value} {row:List Nat} (h:OrSP m l A G rowv outv row) (x:Ext G G'):OrSP m l A G' rowv outv row:=⟨h.hA.trans x,h.w1.ext x,h.w2.ext x,h.sep,h.go⟩
def OrPP (m:Mac α) (l:List Sp) (A:GS) (lV:Value) (p2:Nat) (row:List Nat) (q:Exit × Env × GS):Prop :=
 q.1 = .exit 2 ∧ ∃ a,q.2.1 1 = lV ∧ q.2.1 2 = Pp p2 ∧ q.2.1 8 = .int .i64 (dn (row ++ [a]) 0:Nat) ∧ OrSP m l A q.2.2 (q.2.1 6) (q.2.1 7) (row ++ [a])
theorem ordIn_P (hm:MacC orc e m inv tx B fv nv uv tv) (hB:Ext B A) (hl:SlR rSp A lV l) (okl:∀ c ∈ l,okOp c.op) (len:l.length ≤ 11) {p2:Nat} (c2:A.obj p2 = some ⟨[fv,nv,uv,tv],1,false,1⟩) (hp2:p2 < A.nx) {row:List Nat} {rowv outv:Value} :
  ∀ (k i:Nat) (τ:Env) (G:GS),i + k = l.length → (∃ a,i ≤ a ∧ a < l.length ∧ rdyP l (dn row 0) a ∧ Goes m l (row ++ [a]) m.first 0) → τ 1 = lV → τ 2 = Pp p2 → τ 6 = rowv → τ 7 = outv → τ 8 = .int .i64 (dn row 0:Nat) → τ 20 = lV → τ 21 = .int .i64 l.length → τ 22 = .int .i64 (i:Int) → OrSP m l A G rowv outv row →
  Wp ((exL Q orc).lpx 44 1 τ G) (OrPP m l A lV p2 row):=by
 intro k
 induction k with
 | zero=>rintro i τ G hi ⟨a,h1,h2,_⟩; omega
 | succ k ih =>
  intro i τ G hi hex t1 t2 t6 t7 t8 t20 t21 t22 hS
  have hlt:i < l.length:=by omega
  have hw:IntKind.wrap .i64 ((i:Int) + 1) = ((i + 1:Nat):Int):=wrap64 (by omega) (by omega)
  have h1:(i:Int) < l.length:=by omega
  have h2:(0:Int) ≤ i:=by omega
  have h3:¬ ((i:Int) < 0):=by omega
  obtain ⟨hrl,hdl⟩:=goes_rowP hS.go
  have h2k:2 ^ l.length ≤ 2 ^ 11:=Nat.pow_le_pow_right (by decide) len
  have hd60:dn row 0 < 2 ^ 60:=Nat.lt_of_lt_of_le hdl (Nat.pow_le_pow_right (by decide) (by omega))
  obtain ⟨b,o,cc,e0,hbG,_,hz⟩:=(hl.ext hS.hA).at hlt
  have hsp:=sp_at hlt
  rw [rSp_sz,← hsp,loadA_eq] at hz
  have hst:stO 10 0 (.agg ⟨rSp.row (sp l i)⟩) (some ⟨z29,1,false,1⟩) = some ⟨rSp.row (sp l i),1,false,1⟩:=rfl
  have hid:(rSp.row (sp l i))[0]? = some (.int .i64 (sp l i).id):=rfl
  generalize hri:rSp.row (sp l i) = ri at *
  obtain ⟨G5,hG5⟩:∃ G5,G5 = (G.push ⟨z29,1,false,1⟩).put G.nx ⟨ri,1,false,1⟩:=⟨_,rfl⟩
  have x5:Ext G G5:=by rw [hG5]; exact ((Ext.refl G).push _).put (Nat.le_refl _) _
  have o5:G5.obj G.nx = some ⟨ri,1,false,1⟩:=by rw [hG5]; simp
  have n5:G.nx < G5.nx:=by rw [hG5]; simp
  have hS5:=(hS.ext x5).ext ((Ext.refl G5).room 14)
  obtain ⟨G6,x6,hrd⟩:=ready_ok orc (hl.ext hS5.hA) (by omega) hd60 hlt
  rw [e0] at hrd
  have hS6:=hS5.ext x6
  have o26:=(hS6.hA.obj _ hp2).trans c2
  rcases hrd with ⟨er5,hrp⟩ | ⟨er5,hrp⟩
  ·obtain ⟨cv,G11,e11,x11,w11⟩:=cloneI_ok orc hS6.w1.is (by simp; omega)
   have hS11:=hS6.ext x11
   have o211:=(hS11.hA.obj _ hp2).trans c2
   have y6:=x6.nx
   have y11:=x11.nx
   simp at y6
   have xD:Ext G5 (((G11.at' (G5.nx + 10)).push ⟨[.int .i64 (i:Int)],1,false,1⟩).back G11):=drawn0 (((Ext.refl G5).room 14).trans (x6.trans x11)) (by omega) _
   have sl:SlR (rowsI .i64) (((G11.at' (G5.nx + 10)).push ⟨[.int .i64 (i:Int)],1,false,1⟩).back G11) (.slice (some ⟨G5.nx + 10,0,none⟩) 1 1) [(i:Int)]:=SlR.oneD (rowsI .i64) G11 (i:Int) (by omega)
   have w26:OwR (rowsI .i64) G5.nx (((G11.at' (G5.nx + 10)).push ⟨[.int .i64 (i:Int)],1,false,1⟩).back G11) cv (rIP row):=by
    refine (w11.same (by simp) fun p n c he=>?_).mono (by omega)
    have:=w11.ge p n c he
    have hne:¬ p.block = G5.nx + 10:=by omega
    simp [hne]
   obtain ⟨cv',G16,e16,x16,w16⟩:=OwR.app (ib:=8) w26 (by decide) xD sl (by simp; omega)
   rw [show (rowsI .i64).sz = 1 from rfl] at e16
   have hS16:OrSP m l A G16 rowv outv row:=(hS.ext x5).ext x16
   have o216:=(hS16.hA.obj _ hp2).trans c2
   obtain ⟨⟨r,G18⟩,e18,x18,hr18⟩:=begins_P (orc:=orc) (b:=row ++ [i]) hm (hB.trans hS16.hA) (hl.ext hS16.hA) (bV:=cv') (by have:=w16.is; rw [rIP,List.map_append]; exact this) okl len (by simp; omega)
   simp only at x18 hr18
   rw [e0] at e18
   have hS18:=hS16.ext x18
   refine Wp.lp (l44_1 (exL_ok Q orc)) ?_
   rcases hr18 with ⟨rfl,hg⟩ | ⟨rfl,hg⟩
   ·simp [-Int.natCast_add,b44_1,clip_t,t1,t2,t6,t7,t8,t20,t21,t22,e0,h1,h2,hlt,hz,hst,← hG5,er5,o26,e11,o211,e16,o216,hm.sm,loadO_whole,sameO,e18]
    have n16:G5.nx ≤ G16.nx:=x16.nx
    have n18:=x18.nx
    have neq:¬ G.nx = G18.nx + 2:=by omega
    have o18:G18.obj G.nx = some ⟨ri,1,false,1⟩:=(x18.obj _ (by omega)).trans ((x16.obj _ n5).trans o5)
    obtain ⟨G22,hG22⟩:∃ G22,G22 = (((G18.room 16).at' (G18.nx + 2)).push ⟨[.int .i64 (i:Int)],1,false,1⟩).back (G18.room 16):=⟨_,rfl⟩
    have x22:Ext G18 G22:=by rw [hG22]; exact drawn0 ((Ext.refl G18).room 16) (by omega) _
    have n22:G22.nx = G18.nx + 16:=by rw [hG22]; simp
    have sl22:SlR (rowsI .i64) G22 (.slice (some ⟨G18.nx + 2,0,none⟩) 1 1) [(i:Int)]:=by rw [hG22]; exact SlR.oneD (rowsI .i64) (G18.room 16) (i:Int) (by simp)
    have hS22:=hS18.ext x22
    obtain ⟨rv',G23,e23,m23,w23⟩:=hS22.w1.app_mod (ib:=8) (by decide) sl22 (by simp) (by simp; omega)
    rw [show (rowsI .i64).sz = 1 from rfl] at e23
    have n23:=m23.nx
    have o23:G23.obj G.nx = some ⟨ri,1,false,1⟩:=by
     rw [m23.obj _ (by omega) (fun h=>by have:=hS22.w1.is.under _ h; have:=hS.w1.is.under _ h; omega)]
     exact (x22.obj _ (by omega)).trans o18
    obtain ⟨G28,hG28⟩:∃ G28,G28 = ((G23.at' (G18.nx + 7)).push ⟨[.int .i64 (sp l i).id],1,false,1⟩).back G23:=⟨_,rfl⟩
    have sl28:SlR (rowsI .i64) G28 (.slice (some ⟨G18.nx + 7,0,none⟩) 1 1) [(sp l i).id]:=by rw [hG28]; exact SlR.oneD (rowsI .i64) G23 (sp l i).id (by omega)
    have k28:∀ g,g ≠ G18.nx + 7 → G28.obj g = G23.obj g:=fun g hg=>by rw [hG28]; simp [hg]
    have w2G:OwR (rowsI .i64) A.nx G28 outv (row.map fun a=>(sp l a).id):=by
     refine hS22.w2.kept (by rw [hG28]; simp; omega) fun g hg=>?_
     have hlt':=hS.w2.is.under g hg
     rw [k28 g (by have:=x5.nx; omega),m23.obj g (by have:=x5.nx; omega) (fun h=>hS.sep g h hg)]
    obtain ⟨ov',G29,e29,m29,w29⟩:=w2G.app_mod (ib:=8) (by decide) sl28 (by simp) (by simp; omega)
    rw [show (rowsI .i64).sz = 1 from rfl] at e29
    have hor:=or1 hd60 (show i < 60 by omega)
    have hsame:∀ x:Int,same (.int .i64 x) (.int .i64 x) = true:=fun x=>by simp [same,sameD]
    simp [-Int.natCast_add,← hG22,e23,o23,o18,neq,hid,hsame,← hG28,e29,h3,hor.1]
    have n28:G28.nx = G23.nx:=by rw [hG28]; rfl
    have y29:=m29.nx
    have hAn:=hS18.hA.nx
    have xA:Ext A G29:=by
     refine ⟨by omega,fun g hg=>?_,?_,fun k hk=>?_⟩
     ·rw [m29.obj g (by omega) (fun h=>by have:=w2G.from h; omega),k28 g (by omega),m23.obj g (by omega) (fun h=>by have:=hS22.w1.from h; omega)]
      exact hS22.hA.obj g hg
     ·have z1:=hS22.hA.nl
      have z2:=m23.nl
      have z3:G28.nl = G23.nl:=by rw [hG28]; rfl
      have z4:=m29.nl
      omega
     ·have z1:=hS22.hA.nl
      have z2:=m23.nl
      have z3:G28.nl = G23.nl:=by rw [hG28]; rfl
      rw [m29.loop k (by omega)]
      have:G28.loop k = G23.loop k:=by rw [hG28]; rfl
      rw [this,m23.loop k (by omega)]
      exact hS22.hA.loop k hk
    refine ⟨rfl,i,by simp [clip_t,e0],by simp [clip_t],by simp [clip_t,dn_snocP],xA,?_,?_,?_,hg⟩
    ·have t6':∀ x:Value,x = rv' → OwR (rowsI .i64) A.nx G29 x (rIP (row ++ [i])):=fun x hx=>by
      subst hx
      have:=(w23.kept (G':=G29) (by omega) fun g hgb=>by
       have k1:=w23.from hgb
       have k2:=w23.is.under g hgb
       rw [m29.obj g (by omega) (fun h=>by have:=hS.w2.is.under g h; have:=x5.nx; omega),k28 g (by omega)]).mono (B':=A.nx) (by omega)
      rw [rIP,List.map_append]
      exact this
     exact t6' _ (by simp [clip_t])
    ·have t7':∀ x:Value,x = ov' → OwR (rowsI .i64) A.nx G29 x ((row ++ [i]).map fun a=>(sp l a).id):=fun x hx=>by
      subst hx
      have:=w29.mono (B':=A.nx) (by omega)
      rw [List.map_append]
      exact this
     exact t7' _ (by simp [clip_t])
    ·have t8':∀ x y:Value,x = rv' → y = ov' → ∀ g,InB x g → ¬ InB y g:=fun x y hx hy g h1 h2=>by
      subst hx hy
      have:=w23.is.under g h1
      have:=w29.from h2
      omega
     exact t8' _ _ (by simp [clip_t]) (by simp [clip_t])
   ·simp [-Int.natCast_add,b44_1,clip_t,t1,t2,t6,t7,t8,t20,t21,t22,e0,h1,h2,hlt,hz,hst,← hG5,er5,o26,e11,o211,e16,o216,hm.sm,loadO_whole,sameO,e18,hw]
    obtain ⟨a,k1,k2,k3,k4⟩:=hex
    have hai:a ≠ i:=fun h=>hg (h ▸ k4)
    refine Wp.mono (ih (i + 1) _ G18 (by omega) ⟨a,by omega,k2,k3,k4⟩ (by simp [clip_t,e0]) (by simp [clip_t]) (by simp [clip_t]) (by simp [clip_t]) (by simp [clip_t]) (by simp [clip_t,e0]) (by simp [clip_t]) (by simp [clip_t]) hS18) fun q hq=>by rw [← e0]; exact hq
  ·refine Wp.lp (l44_1 (exL_ok Q orc)) ?_
   simp [-Int.natCast_add,b44_1,clip_t,t1,t2,t6,t7,t8,t20,t21,t22,e0,h1,h2,hlt,hz,hst,← hG5,er5,hw]
   obtain ⟨a,k1,k2,k3,k4⟩:=hex
   have hai:a ≠ i:=fun h=>hrp (h ▸ k3)
   refine Wp.mono (ih (i + 1) _ G6 (by omega) ⟨a,by omega,k2,k3,k4⟩ (by simp [clip_t,e0]) (by simp [clip_t]) (by simp [clip_t]) (by simp [clip_t]) (by simp [clip_t]) (by simp [clip_t,e0]) (by simp [clip_t]) (by simp [clip_t]) hS6) fun q hq=>by rw [← e0]; exact hq
end
end Go.Proofs.YtlaojmcekeohnaaGreatDoor.Lift
set_option linter.unusedVariables false
set_option linter.unusedSimpArgs false
set_option maxRecDepth 20000
namespace Go.Proofs.YtlaojmcekeohnaaGreatDoor.Lift
open Go Go.Proofs.YtlaojmcekeohnaaGreatDoor.Gh Go.Proofs
section
variable {α:Type} {orc:FuncId → Bool} {e:RowE α} {m:Mac α} {inv:List α → Prop} {tx:List α → ByteArray} {B A G:GS} {fv nv uv tv lV:Value} {l:List Sp}
def OfPP (m:Mac α) (l:List Sp) (A:GS) (q:Exit × Env × GS):Prop:=q.1 = .exit 0 ∧ ∃ rowv row,OrSP m l A q.2.2 rowv (q.2.1 7) row ∧ ovrP l (dn row 0)
theorem ordOut_P (hm:MacC orc e m inv tx B fv nv uv tv) (hB:Ext B A) (hl:SlR rSp A lV l) (okl:∀ c ∈ l,okOp c.op) (len:l.length ≤ 11) {p2:Nat} (c2:A.obj p2 = some ⟨[fv,nv,uv,tv],1,false,1⟩) (hp2:p2 < A.nx) :
  ∀ (n:Nat) (row:List Nat) (τ:Env) (G:GS),2 ^ l.length ≤ dn row 0 + n → τ 1 = lV → τ 2 = Pp p2 → τ 8 = .int .i64 (dn row 0:Nat) → OrSP m l A G (τ 6) (τ 7) row →
  Wp ((exL Q orc).lpx 44 0 τ G) (OfPP m l A):=by
 intro n
 induction n with
 | zero=>intro row τ G hn t1 t2 t8 hS; have:=(goes_rowP hS.go).2; omega
 | succ n ih =>
  intro row τ G hn t1 t2 t8 hS
  obtain ⟨hrl,hdl⟩:=goes_rowP hS.go
  have hd60:dn row 0 < 2 ^ 60:=Nat.lt_of_lt_of_le hdl (Nat.pow_le_pow_right (by decide) (by omega))
  obtain ⟨la,lc,el⟩:=hl.len
  have lenl:∀ x,ln Q true x lV = some (.int .i64 l.length):=fun x=>by rw [el]; simp
  obtain ⟨G1,x1,hov⟩:=over_ok orc (hl.ext hS.hA) (by omega) hd60
  refine Wp.lp (l44_0 (exL_ok Q orc)) ?_
  rcases hov with ⟨eo,ho⟩ | ⟨eo,ho⟩
  ·simp [-Int.natCast_add,b44_0,clip_t,t1,t8,eo]
   refine ⟨rfl,τ 6,row,?_,ho⟩
   have:=hS.ext x1
   have t7:∀ x:Value,x = τ 7 → OrSP m l A G1 (τ 6) x row:=fun x hx=>by rw [hx]; exact this
   exact t7 _ (by simp [clip_t])
  ·simp [-Int.natCast_add,b44_0,clip_t,t1,t8,eo,lenl]
   obtain ⟨a,k1,k2,k3⟩:=goes_more m l hS.go ho
   refine Wp.bE ((ordIn_P hm hB hl okl len c2 hp2 (rowv:=τ 6) (outv:=τ 7) (row:=row) l.length 0 _ G1 (by omega) ⟨a,Nat.zero_le _,k1,k2,k3⟩ (by simp [clip_t,t1]) (by simp [clip_t,t2]) (by simp [clip_t]) (by simp [clip_t]) (by simp [clip_t,t8]) (by simp [clip_t]) (by simp [clip_t]) (by simp [clip_t]) (hS.ext x1)).mono ?_)
   rintro ⟨ee,τ',G'⟩ ⟨q1,a',q2,q3,q4,q5⟩
   simp only at q1 q2 q3 q4 q5
   subst q1
   simp [-Int.natCast_add]
   have hgt:dn row 0 < dn (row ++ [a']) 0:=by
    obtain ⟨r,s2,d2,hw,_⟩:=q5.go
    obtain ⟨s1,d1,w1,w2⟩:=way_app.1 hw
    obtain ⟨s3,d3,w3,w4⟩:=way_app.1 w1
    have e3:=way_dn w3
    have e1:=way_dn w1
    have:=way_lenP w4
    simp at this
    omega
   refine ih (row ++ [a']) _ G' (by omega) (by simp [clip_t,q2]) (by simp [clip_t,q3]) (by simp [clip_t,q4]) ?_
   have t67:∀ x y:Value,x = τ' 6 → y = τ' 7 → OrSP m l A G' x y (row ++ [a']):=fun x y hx hy=>by rw [hx,hy]; exact q5
   exact t67 _ _ (by simp [clip_t]) (by simp [clip_t])
theorem order_P (hm:MacC orc e m inv tx B fv nv uv tv) (hB:Ext B G) (hl:SlR rSp G lV l) (okl:∀ c ∈ l,okOp c.op) (len:l.length ≤ 11) :
  Wp ((E orc).cl 44 [.agg ⟨[fv,nv,uv,tv]⟩,lV] G) fun r=>Ext G r.2 ∧ (r.1 = .tuple #[.slice none 0 0,.bool false] ∧ ¬ Goes m l [] m.first 0 ∨ ∃ outv row s2,r.1 = .tuple #[outv,.bool true] ∧ Way m l m.first 0 row s2 (dn row 0) ∧ ovrP l (dn row 0) ∧ OwR (rowsI .i64) G.nx r.2 outv (row.map fun a=>(sp l a).id)):=by
 refine Wp.ref (f44 (exL_ok Q orc) _ _ G) ?_
 have xA:Ext G (G.push ⟨[fv,nv,uv,tv],1,false,1⟩):=(Ext.refl G).push _
 have cA:(G.push ⟨[fv,nv,uv,tv],1,false,1⟩).obj G.nx = some ⟨[fv,nv,uv,tv],1,false,1⟩:=by simp
 have nA:G.nx < (G.push ⟨[fv,nv,uv,tv],1,false,1⟩).nx:=by simp
 obtain ⟨A,hA⟩:∃ A,A = G.push ⟨[fv,nv,uv,tv],1,false,1⟩:=⟨_,rfl⟩
 rw [← hA] at xA cA nA
 obtain ⟨⟨r,G4⟩,eb,x4,hr⟩:=begins_P (orc:=orc) (b:=[]) hm (hB.trans xA) (hl.ext xA) (bV:=.slice none 0 0) SlR.nil okl len (by simp)
 simp only at x4 hr
 rcases hr with ⟨rfl,hg⟩ | ⟨rfl,hg⟩
 ·simp [-Int.natCast_add,s44,mBox,Value.cells,← hA,cA,loadO_whole,eb]
  refine Wp.bE ((ordOut_P hm (hB.trans xA) (hl.ext xA) okl len cA nA (2 ^ l.length) [] _ G4 (by simp [dn]) (by simp) (by simp) (by simp [dn]) ?_).mono ?_)
  ·exact ⟨x4,OwR.nil _ _,OwR.nil _ _,fun g h=>by simp [InB] at h,hg⟩
  ·rintro ⟨ee,τ',G'⟩ ⟨q1,rowv,row,q2,q3⟩
   simp only at q1 q2 q3
   subst q1
   simp
   obtain ⟨r,s2,d2,hw,_⟩:=q2.go
   obtain ⟨s1,d1,w1,w2⟩:=way_app.1 hw
   have e1:=way_dn w1
   rw [e1] at w1
   exact ⟨xA.trans q2.hA,row,⟨s1,w1⟩,q3,q2.w2.mono (by omega)⟩
 ·simp [-Int.natCast_add,s44,mBox,Value.cells,← hA,cA,loadO_whole,eb]
  exact ⟨xA.trans x4,hg⟩
end
end Go.Proofs.YtlaojmcekeohnaaGreatDoor.Lift
set_option linter.unusedVariables false
set_option linter.unusedSimpArgs false
set_option maxRecDepth 20000
namespace Go.Proofs.YtlaojmcekeohnaaGreatDoor.Lift
open Go Go.Proofs.YtlaojmcekeohnaaGreatDoor.Gh Go.Proofs
def isLoose (c:Sp):Bool:=decide (c.to < 0) && decide (c.op.1 = 7)
def looseP (l:List Sp):Nat:=(l.filter isLoose).length
theorem looseP_snoc {l:List Sp} {i:Nat} (h:i < l.length):looseP (l.take (i + 1)) = looseP (l.take i) + if isLoose (sp l i) then 1 else 0:=by
 unfold looseP
 rw [← List.take_append_getElem h,List.filter_append,List.length_append,sp_at h]
 congr 1
 cases hl:isLoose l[i] <;> simp [hl]
theorem looseP_le (l:List Sp):looseP l ≤ l.length:=List.length_filter_le _ _
section
variable {A:GS} {l:List Sp} {v0:Value}
theorem loose_lp (orc:FuncId → Bool) (hs:SlR rSp A v0 l) (hlen:l.length ≤ 50):∀ (k i:Nat) (τ:Env) (G:GS),i + k = l.length → τ 3 = .int .i64 (looseP (l.take i):Nat) → τ 6 = v0 → τ 7 = .int .i64 l.length → τ 8 = .int .i64 (i:Int) → Ext A G →
  Wp ((exL Q orc).lpx 99 0 τ G) fun q=>Ext A q.2.2 ∧ q.1 = .exit 0 ∧ q.2.1 3 = .int .i64 (looseP l:Nat):=by
 intro k
 induction k with
 | zero =>
  intro i τ G hi t3 t6 t7 t8 hA
  have hi':i = l.length:=by omega
  subst hi'
  rw [List.take_length] at t3
  refine Wp.lp (l99_0 (exL_ok Q orc)) ?_
  simp [b99_0,clip_t,t3,t6,t7,t8,hA]
 | succ k ih =>
  intro i τ G hi t3 t6 t7 t8 hA
  have hlt:i < l.length:=by omega
  have hw:IntKind.wrap .i64 ((i:Int) + 1) = ((i + 1:Nat):Int):=wrap64 (by omega) (by omega)
  have hlo:looseP (l.take i) ≤ 50:=Nat.le_trans (looseP_le _) (by rw [List.length_take]; omega)
  have hw2:IntKind.wrap .i64 ((looseP (l.take i):Int) + 1) = ((looseP (l.take i) + 1:Nat):Int):=wrap64 (by omega) (by omega)
  have h1:(i:Int) < l.length:=by omega
  have h2:(0:Int) ≤ i:=by omega
  obtain ⟨b,o,c,e0,_,_,hz⟩:=(hs.ext hA).at hlt
  have hsp:=sp_at hlt
  rw [rSp_sz,← hsp,loadA_eq] at hz
  have hst:stO 10 0 (.agg ⟨rSp.row (sp l i)⟩) (some ⟨z29,1,false,1⟩) = some ⟨rSp.row (sp l i),1,false,1⟩:=rfl
  rw [rSp_row] at hz hst
  have hsn:=looseP_snoc hlt
  refine Wp.lp (l99_0 (exL_ok Q orc)) ?_
  by_cases ht:(sp l i).to < 0
  ·by_cases hk:(sp l i).op.1 = 7
   ·simp [-Int.natCast_add,b99_0,clip_t,t3,t6,t7,t8,e0,h1,h2,hlt,hz,hst,ht,hk,hw,hw2]
    rw [show isLoose (sp l i) = true by simp [isLoose,ht,hk],if_pos rfl] at hsn
    refine ih (i + 1) _ _ (by omega) (by rw [hsn]; simp [clip_t]) (by simp [clip_t,e0]) (by simp [clip_t]) (by simp [clip_t]) ((hA.push _).put hA.nx _)
   ·simp [-Int.natCast_add,b99_0,clip_t,t3,t6,t7,t8,e0,h1,h2,hlt,hz,hst,ht,hk,hw]
    rw [show isLoose (sp l i) = false by simp [isLoose,hk]] at hsn
    simp only [Bool.false_eq_true,if_false,Nat.add_zero] at hsn
    refine ih (i + 1) _ _ (by omega) (by rw [hsn]; simp [clip_t]) (by simp [clip_t,e0]) (by simp [clip_t]) (by simp [clip_t]) ((hA.push _).put hA.nx _)
  ·simp [-Int.natCast_add,b99_0,clip_t,t3,t6,t7,t8,e0,h1,h2,hlt,hz,hst,ht,hw]
   rw [show isLoose (sp l i) = false by simp [isLoose,ht]] at hsn
   simp only [Bool.false_eq_true,if_false,Nat.add_zero] at hsn
   refine ih (i + 1) _ _ (by omega) (by rw [hsn]; simp [clip_t]) (by simp [clip_t,e0]) (by simp [clip_t]) (by simp [clip_t]) ((hA.push _).put hA.nx _)
theorem loose_ok (orc:FuncId → Bool) (hs:SlR rSp A v0 l) (hlen:l.length ≤ 50):∃ G',(E orc).cl 99 [v0] A = some (.int .i64 (looseP l:Nat),G') ∧ Ext A G':=by
 have w:Wp ((E orc).cl 99 [v0] A) fun q=>Ext A q.2 ∧ q.1 = .int .i64 (looseP l:Nat):=by
  refine Wp.ref (f99 (exL_ok Q orc) _ A) ?_
  obtain ⟨a,c,e0⟩:=hs.len
  have lc:ln Q true 38 v0 = some (.int .i64 l.length):=by rw [e0]; simp
  simp [s99,lc]
  refine Wp.bE ((loose_lp orc hs hlen l.length 0 _ A (by omega) (by simp [looseP]) (by simp) (by simp) (by simp) (Ext.refl A)).mono ?_)
  rintro ⟨ee,τ,G'⟩ ⟨h0,h1,h2⟩
  simp only at h0 h1 h2
  subst h1
  simp [h0,h2]
 obtain ⟨⟨v,G'⟩,e1,h1,h2⟩:=w
 simp only at h1 h2
 rw [h2] at e1
 exact ⟨G',e1,h1⟩
end
end Go.Proofs.YtlaojmcekeohnaaGreatDoor.Lift
set_option linter.unusedVariables false
set_option linter.unusedSimpArgs false
set_option maxRecDepth 20000
namespace Go.Proofs.YtlaojmcekeohnaaGreatDoor.Lift
open Go Go.Proofs.YtlaojmcekeohnaaGreatDoor.Gh Go.Proofs
section
variable {A:GS} {l:List Sp} {v0:Value}
theorem ids_lp (orc:FuncId → Bool) (hs:SlR rSp A v0 l) (hlen:l.length ≤ 50) {lv:Nat} (hlv:A.nl ≤ lv):∀ (k i:Nat) (τ:Env) (G:GS) (es:List (Value × Value)),i + k = l.length → τ 7 = .map (some lv) → τ 40 = v0 → τ 41 = .int .i64 l.length → τ 42 = .int .i64 (i:Int) → Ext A G → lv < G.nl → G.loop lv = some (mpL es) → GoodE gInt gInt es → (∀ x:Int,(∃ e ∈ es,e.1 = .int .i64 x) ↔ x ∈ (l.take i).map (·.id)) → ((l.take i).map (·.id)).Nodup →
  Wp ((exL Q orc).lpx 39 0 τ G) fun q=>Ext A q.2.2 ∧ ((q.1 = .exit 1 ∧ (l.map (·.id)).Nodup) ∨ (q.1 = .ret ∧ ¬ (l.map (·.id)).Nodup ∧ q.2.1 6 = .int .i64 8)):=by
 intro k
 induction k with
 | zero =>
  intro i τ G es hi t7 t40 t41 t42 hA hlG hl hg hk hn
  have hi':i = l.length:=by omega
  subst hi'
  rw [List.take_length] at hn
  refine Wp.lp (l39_0 (exL_ok Q orc)) ?_
  simp [b39_0,clip_t,t7,t40,t41,t42,hA]
  exact hn
 | succ k ih =>
  intro i τ G es hi t7 t40 t41 t42 hA hlG hl hg hk hn
  have hlt:i < l.length:=by omega
  have hw:IntKind.wrap .i64 ((i:Int) + 1) = ((i + 1:Nat):Int):=wrap64 (by omega) (by omega)
  have h1:(i:Int) < l.length:=by omega
  have h2:(0:Int) ≤ i:=by omega
  obtain ⟨b,o,c,e0,_,_,hz⟩:=(hs.ext hA).at hlt
  have hsp:=sp_at hlt
  rw [rSp_sz,← hsp,loadA_eq] at hz
  have hst:stO 10 0 (.agg ⟨rSp.row (sp l i)⟩) (some ⟨z29,1,false,1⟩) = some ⟨rSp.row (sp l i),1,false,1⟩:=rfl
  rw [rSp_row] at hz hst
  have htk:(l.take (i + 1)).map (·.id) = (l.take i).map (·.id) ++ [(sp l i).id]:=by rw [← List.take_append_getElem hlt,List.map_append,hsp]; rfl
  have hu:Q.underlying 175 = some (.map 3 3):=Tryz.underlying175
  have x5:Ext A ((G.push ⟨z29,1,false,1⟩).put G.nx ⟨rSp.row (sp l i),1,false,1⟩):=(hA.push _).put hA.nx _
  have l5:((G.push ⟨z29,1,false,1⟩).put G.nx ⟨rSp.row (sp l i),1,false,1⟩).loop lv = some (mpL es):=hl
  have g5:lv < ((G.push ⟨z29,1,false,1⟩).put G.nx ⟨rSp.row (sp l i),1,false,1⟩).nl:=hlG
  have i5:((G.push ⟨z29,1,false,1⟩).put G.nx ⟨rSp.row (sp l i),1,false,1⟩).obj G.nx = some ⟨rSp.row (sp l i),1,false,1⟩:=by simp
  rw [rSp_row] at x5 l5 g5 i5
  generalize hG5:(G.push ⟨z29,1,false,1⟩).put G.nx ⟨[.int .i64 (sp l i).id,.int .i64 (sp l i).fr,.int .i64 (sp l i).to,.int .i64 (sp l i).op.1,.int .i64 (sp l i).op.2.1,.int .i64 (sp l i).op.2.2.1,.int .u64 (sp l i).op.2.2.2,.int .i64 (sp l i).an.1,.int .i64 (sp l i).an.2.1,.int .u64 (sp l i).an.2.2],1,false,1⟩ = G5 at *
  refine Wp.lp (l39_0 (exL_ok Q orc)) ?_
  by_cases hin:(sp l i).id ∈ (l.take i).map (·.id)
  ·obtain ⟨v,elk,_⟩:=look_hit keyInt hu l5 hg ⟨_,rfl⟩ ((hk _).2 hin)
   simp [-Int.natCast_add,b39_0,clip_t,t7,t40,t41,t42,e0,h1,h2,hlt,hz,hst,hG5,i5,elk,pExtract,getN_zero,getN_succ]
   refine ⟨x5,fun h=>?_⟩
   have:((l.take (i + 1)).map (·.id)).Nodup:=(List.take_sublist (i + 1) l).map (·.id) |>.nodup h
   rw [htk] at this
   exact (List.nodup_append.1 this).2.2 _ hin _ (List.mem_singleton.2 rfl) rfl
  ·have hne:∀ e ∈ es,e.1 ≠ .int .i64 (sp l i).id:=fun x hx h=>hin ((hk _).1 ⟨x,hx,h⟩)
   have elk:=look_miss (z:=.int .i64 0) keyInt hu (by kernel_rfl) ⟨_,rfl⟩ l5 hg ⟨_,rfl⟩ hne
   have eput:=map_put (v:=.int .i64 (i:Int)) keyInt hu l5 hg ⟨_,rfl⟩ ⟨_,rfl⟩ hne
   simp [-Int.natCast_add,b39_0,clip_t,t7,t40,t41,t42,e0,h1,h2,hlt,hz,hst,hG5,i5,elk,pExtract,getN_zero,getN_succ,eput,hw]
   refine ih (i + 1) _ _ (es ++ [(.int .i64 (sp l i).id,.int .i64 (i:Int))]) (by omega) (by simp [clip_t]) (by simp [clip_t,e0]) (by simp [clip_t]) (by simp [clip_t]) ⟨x5.nx,x5.obj,x5.nl,fun k hk=>by rw [GS.loop_put,if_neg (by omega)]; exact x5.loop k hk⟩ g5 (by rw [GS.loop_put,if_pos rfl]) (fun x hx=>?_) (fun x=>?_) ?_
   ·rcases List.mem_append.1 hx with hx | hx
    ·exact hg x hx
    ·rw [List.mem_singleton.1 hx]; exact ⟨⟨_,rfl⟩,⟨_,rfl⟩⟩
   ·rw [htk,List.mem_append,List.mem_singleton,← hk]
    constructor
    ·rintro ⟨y,hy,hyx⟩
     rcases List.mem_append.1 hy with hy | hy
     ·exact .inl ⟨y,hy,hyx⟩
     ·rw [List.mem_singleton.1 hy] at hyx; right; simpa using hyx.symm
    ·rintro (⟨y,hy,hyx⟩ | rfl)
     ·exact ⟨y,List.mem_append_left _ hy,hyx⟩
     ·exact ⟨_,List.mem_append_right _ (List.mem_singleton.2 rfl),rfl⟩
   ·rw [htk]
    exact List.nodup_append.2 ⟨hn,by simp,fun a ha b hb hab=>hin (by rw [List.mem_singleton.1 hb] at hab; rw [← hab]; exact ha)⟩
def MayOk (model room:Int) (l:List Sp):Prop:=(1 ≤ model ∧ model ≤ 3) ∧ (1 ≤ room ∧ room ≤ 64) ∧ l.length ≤ 10 ∧ (model = 3 → looseP l ≤ 2) ∧ (l.map (·.id)).Nodup
theorem may_ok (orc:FuncId → Bool) (hs:SlR rSp A v0 l) (model room:Int):Wp ((E orc).cl 39 [.int .i64 model,.int .i64 room,v0] A) fun q=>Ext A q.2 ∧ ∃ x:Int,q.1 = .int .i64 x ∧ (x = 0 ↔ MayOk model room l):=by
 refine Wp.ref (f39 (exL_ok Q orc) _ _ _ A) ?_
 obtain ⟨a,c,e0⟩:=hs.len
 have lc:ln Q true 38 v0 = some (.int .i64 l.length):=by rw [e0]; simp
 by_cases m1:model < 1
 ·simp [s39,m1,Ext.refl]
  exact fun h=>by have:=h.1.1; omega
 by_cases m2:3 < model
 ·simp [s39,m1,m2,Ext.refl]
  exact fun h=>by have:=h.1.2; omega
 by_cases r1:room < 1
 ·simp [s39,m1,m2,r1,Ext.refl]
  exact fun h=>by have:=h.2.1.1; omega
 by_cases r2:64 < room
 ·simp [s39,m1,m2,r1,r2,Ext.refl]
  exact fun h=>by have:=h.2.1.2; omega
 by_cases n1:10 < l.length
 ·have n1':(10:Int) < l.length:=by omega
  simp [s39,m1,m2,r1,r2,lc,n1',n1,Ext.refl]
  exact fun h=>by have:=h.2.2.1; omega
 have n1':¬ (10:Int) < l.length:=by omega
 have loop:∀ (τ:Env) (G30:GS) (lv:Nat),Ext A G30 → A.nl ≤ lv → lv < G30.nl → G30.loop lv = some (mpL []) → τ 7 = .map (some lv) → τ 40 = v0 → τ 41 = .int .i64 l.length → τ 42 = .int .i64 0 →
   Wp ((exL Q orc).lpx 39 0 τ G30) fun q=>Ext A q.2.2 ∧ ((q.1 = .exit 1 ∧ (l.map (·.id)).Nodup) ∨ (q.1 = .ret ∧ ¬ (l.map (·.id)).Nodup ∧ q.2.1 6 = .int .i64 8)):=fun τ G30 lv hx h1 h2 h3 t7 t40 t41 t42 =>
  ids_lp orc hs (by omega) h1 l.length 0 τ G30 [] (by omega) t7 t40 t41 t42 hx h2 h3 (fun _ h=>(by cases h)) (fun x=>by simp) (by simp)
 have xn:∀ G:GS,Ext A G → Ext A G.newMap:=fun G h=>⟨h.nx,h.obj,Nat.le_trans h.nl (Nat.le_succ _),fun k hk=>by
  have:k ≠ G.nl:=by have:=h.nl; omega
  show (G.pushLoop _).loop k = _
  rw [GS.loop_push,if_neg this]; exact h.loop k hk⟩
 have fin:(looseP l ≤ 2 ∨ model ≠ 3) → ((l.map (·.id)).Nodup ↔ MayOk model room l):=fun h=>⟨fun hn=>⟨by omega,by omega,by omega,fun h3=>by rcases h with h | h; exact h; exact absurd h3 h,hn⟩,fun h=>h.2.2.2.2⟩
 by_cases m3:model = 3
 ·obtain ⟨G22,elo,x22⟩:=loose_ok orc hs (by omega)
  subst m3
  by_cases l2:2 < looseP l
  ·have l2':(2:Int) < looseP l:=by omega
   simp [s39,r1,r2,lc,n1',n1,elo,l2',l2,x22]
   exact fun h=>by have:=h.2.2.2.1 rfl; omega
  ·have l2':¬ (2:Int) < looseP l:=by omega
   simp [s39,r1,r2,lc,n1',n1,elo,l2',l2,nm]
   refine Wp.bE ((loop _ G22.newMap G22.nl (xn _ x22) x22.nl (Nat.lt_succ_self _) (newMap_loop _) (by simp) (by simp) (by simp) (by simp)).mono ?_)
   rintro ⟨ee,τ,G'⟩ ⟨h0,⟨h1,h2⟩ | ⟨h1,h2,h3⟩⟩
   ·simp only at h0 h1
    subst h1
    simp [h0]
    exact (fin (.inl (by omega))).1 h2
   ·simp only at h0 h1 h3
    subst h1
    simp [h0,h3]
    exact fun h=>h2 ((fin (.inl (by omega))).2 h)
 ·simp [s39,m1,m2,r1,r2,lc,n1',n1,m3,nm]
  refine Wp.bE ((loop _ A.newMap A.nl (xn _ (Ext.refl A)) (Nat.le_refl _) (Nat.lt_succ_self _) (newMap_loop _) (by simp) (by simp) (by simp) (by simp)).mono ?_)
  rintro ⟨ee,τ,G'⟩ ⟨h0,⟨h1,h2⟩ | ⟨h1,h2,h3⟩⟩
  ·simp only at h0 h1
   subst h1
   simp [h0]
   exact (fin (.inr m3)).1 h2
  ·simp only at h0 h1 h3
   subst h1
   simp [h0,h3]
   exact fun h=>h2 ((fin (.inr m3)).2 h)
end
end Go.Proofs.YtlaojmcekeohnaaGreatDoor.Lift
set_option linter.unusedVariables false
set_option linter.unusedSimpArgs false
namespace Go.Proofs.YtlaojmcekeohnaaGreatDoor.Lift
open Go Go.Proofs.YtlaojmcekeohnaaGreatDoor.Gh
def valD (l:List UInt8):Nat:=l.foldl (fun a d=>a * 10 + (d.toNat - 48)) 0
theorem dig_val {d:Nat} (h:d < 10):(UInt8.ofNat (48 + d)).toNat = 48 + d:=by
 show (48 + d) % 2 ^ 8 = 48 + d
 omega
theorem val_dgs:∀ (k n:Nat),n < 10 ^ (k + 1) → valD (dgs (k + 1) n) = n
 | 0,n,h=>by
  rw [dgs_succ,if_pos (by omega)]
  simp only [valD,List.foldl_cons,List.foldl_nil,dig_val (show n < 10 by omega)]
  omega
 | k + 1,n,h=>by
  rw [dgs_succ]
  by_cases h1:n < 10
  ·rw [if_pos h1]
   simp only [valD,List.foldl_cons,List.foldl_nil,dig_val h1]
   omega
  ·rw [if_neg h1]
   have:=val_dgs k (n / 10) (by rw [Nat.pow_succ] at h; omega)
   simp only [valD,List.foldl_append,List.foldl_cons,List.foldl_nil,dig_val (show n % 10 < 10 by omega)] at this ⊢
   rw [this]
   omega
theorem dgs_ge:∀ (k n:Nat),∀ c ∈ dgs k n,48 ≤ c.toNat
 | 0,n,c,h=>by cases h
 | k + 1,n,c,h=>by
  rw [dgs_succ] at h
  by_cases h1:n < 10
  ·rw [if_pos h1] at h
   rw [List.mem_singleton.1 h,dig_val h1]; omega
  ·rw [if_neg h1] at h
   rcases List.mem_append.1 h with h | h
   ·exact dgs_ge k _ c h
   ·rw [List.mem_singleton.1 h,dig_val (by omega)]; omega
theorem split_at {s:UInt8}:∀ {a a' r r':List UInt8},(∀ c ∈ a,c ≠ s) → (∀ c ∈ a',c ≠ s) → a ++ s :: r = a' ++ s :: r' → a = a' ∧ r = r'
 | [],[],_,_,_,_,h=>by simpa using h
 | [],c :: a',_,_,_,h2,h=>by
  simp only [List.nil_append,List.cons_append,List.cons.injEq] at h
  exact absurd h.1.symm (h2 c (List.mem_cons_self ..))
 | c :: a,[],_,_,h1,_,h=>by
  simp only [List.nil_append,List.cons_append,List.cons.injEq] at h
  exact absurd h.1 (h1 c (List.mem_cons_self ..))
 | c :: a,c' :: a',_,_,h1,h2,h=>by
  simp only [List.cons_append,List.cons.injEq] at h
  obtain ⟨k1,k2⟩:=split_at (fun x hx=>h1 x (List.mem_cons_of_mem _ hx)) (fun x hx=>h2 x (List.mem_cons_of_mem _ hx)) h.2
  exact ⟨by rw [h.1,k1],k2⟩
theorem dgI_ne {x:Int} (h:0 ≤ x) {s:UInt8} (hs:s.toNat < 48):∀ c ∈ dgI x,c ≠ s:=by
 obtain ⟨n,rfl⟩:=Int.eq_ofNat_of_zero_le h
 intro c hc e
 have:=dgs_ge 20 n c hc
 rw [e] at this
 omega
theorem dgI_inj {x y:Int} (hx:0 ≤ x ∧ x < 18446744073709551616) (hy:0 ≤ y ∧ y < 18446744073709551616) (h:dgI x = dgI y):x = y:=by
 obtain ⟨n,rfl⟩:=Int.eq_ofNat_of_zero_le hx.1
 obtain ⟨k,rfl⟩:=Int.eq_ofNat_of_zero_le hy.1
 have h1:=val_dgs 19 n (by omega)
 have h2:=val_dgs 19 k (by omega)
 have h:dgs 20 n = dgs 20 k:=h
 rw [h,h2] at h1
 rw [h1]
def txN (l:List Int):List UInt8:=(l.map fun x=>dgI x ++ [44]).flatten
theorem txN_inj:∀ {l l':List Int},(∀ x ∈ l,0 ≤ x ∧ x < 18446744073709551616) → (∀ x ∈ l',0 ≤ x ∧ x < 18446744073709551616) → txN l = txN l' → l = l'
 | [],[],_,_,_=>rfl
 | [],y :: l',_,_,h=>by simp [txN] at h
 | x :: l,[],_,_,h=>by simp [txN] at h
 | x :: l,y :: l',h1,h2,h=>by
  have e:dgI x ++ 44 :: txN l = dgI y ++ 44 :: txN l':=by simpa [txN] using h
  have hx:=h1 x (List.mem_cons_self ..)
  have hy:=h2 y (List.mem_cons_self ..)
  obtain ⟨k1,k2⟩:=split_at (dgI_ne hx.1 (by decide)) (dgI_ne hy.1 (by decide)) e
  rw [dgI_inj hx hy k1,txN_inj (fun z hz=>h1 z (List.mem_cons_of_mem _ hz)) (fun z hz=>h2 z (List.mem_cons_of_mem _ hz)) k2]
end Go.Proofs.YtlaojmcekeohnaaGreatDoor.Lift
set_option linter.unusedVariables false
set_option linter.unusedSimpArgs false
namespace Go.Proofs.YtlaojmcekeohnaaGreatDoor.Lift
open Go
section
variable {α:Type} {m:Mac α} {l l':List Sp}
theorem way_mono (hlen:l.length ≤ l'.length) {W:List Nat} (hop:∀ a ∈ W,(sp l' a).op = (sp l a).op) (ht:∀ a ∈ W,∀ (s:List α) an,an ∈ toldP m s (sp l a) → an ∈ toldP m s (sp l' a)) (hr:∀ a ∈ W,∀ d,rdyP l d a → rdyP l' d a) {s s2:List α} {d d2:Nat} (h:Way m l s d W s2 d2):Way m l' s d W s2 d2:=by
 induction h with
 | nil=>exact .nil _ _
 | @cons s d a an s1 r s2 d2 h1 h2 h3 h4 h5 ih =>
  refine .cons (Nat.lt_of_lt_of_le h1 hlen) (hr a (List.mem_cons_self ..) d h2) (ht a (List.mem_cons_self ..) s an h3) (by rw [hop a (List.mem_cons_self ..)]; exact h4) (ih (fun x hx=>hop x (List.mem_cons_of_mem _ hx)) (fun x hx=>ht x (List.mem_cons_of_mem _ hx)) fun x hx=>hr x (List.mem_cons_of_mem _ hx))
structure Lz (m:Mac α) (l:List Sp) (W:List Nat) (q:List α) (now:Int):Prop where
 way:Way m l m.first 0 W q (dn W 0)
 ended:∀ i,i < l.length → 0 ≤ (sp l i).to → i ∈ W
 clk:∀ i,i < l.length → (sp l i).fr ≤ now ∧ (sp l i).to ≤ now
theorem sp_set {l:List Sp} {j:Nat} (c:Sp) (hj:j < l.length) (i:Nat):sp (l.set j c) i = if i = j then c else sp l i:=by
 unfold sp
 simp only [List.getD,List.getElem?_set]
 by_cases h:i = j
 ·subst h; simp [hj]
 ·have:¬ j = i:=fun e=>h e.symm
  simp [h,this]
theorem sp_app {l:List Sp} (c:Sp) (i:Nat):sp (l ++ [c]) i = if i < l.length then sp l i else if i = l.length then c else default:=by
 unfold sp
 simp only [List.getD]
 by_cases h:i < l.length
 ·rw [if_pos h,List.getElem?_append_left h]
 ·rw [if_neg h,List.getElem?_append_right (by omega)]
  by_cases h2:i = l.length
  ·subst h2; simp
  ·have:i - l.length ≠ 0:=by omega
   obtain ⟨n,hn⟩:=Nat.exists_eq_succ_of_ne_zero this
   rw [hn]; simp [h2]
theorem Lz.begin {W:List Nat} {q:List α} {now:Int} (h:Lz m l W q now) (hn:0 ≤ now) (c:Sp) (hc:c.to = -1) (hf:c.fr = now + 1):Lz m (l ++ [c]) W q (now + 1):=by
 have hW:∀ a ∈ W,a < l.length:=fun a ha=>((way_fresh h.way).1 a ha).2
 have hs:∀ a,a < l.length → sp (l ++ [c]) a = sp l a:=fun a ha=>by rw [sp_app,if_pos ha]
 refine ⟨way_mono (by simp) (fun a ha=>by rw [hs a (hW a ha)]) (fun a ha s an=>by rw [hs a (hW a ha)]; exact id) (fun a ha d hr=>⟨hr.1,fun i hi hne hb=>?_⟩) h.way,fun i hi ht=>?_,fun i hi=>?_⟩
 ·rw [hs a (hW a ha),sp_app]
  by_cases h1:i < l.length
  ·rw [if_pos h1]; exact hr.2 i h1 hne hb
  ·rw [if_neg h1,if_pos (by simp at hi; omega)]
   unfold ahead; rw [hc]; rfl
 ·rw [sp_app] at ht
  by_cases h1:i < l.length
  ·rw [if_pos h1] at ht; exact h.ended i h1 ht
  ·rw [if_neg h1,if_pos (by simp at hi; omega),hc] at ht; omega
 ·rw [sp_app]
  by_cases h1:i < l.length
  ·rw [if_pos h1]; have:=h.clk i h1; omega
  ·rw [if_neg h1,if_pos (by simp at hi; omega),hc,hf]; omega
end
end Go.Proofs.YtlaojmcekeohnaaGreatDoor.Lift
set_option linter.unusedVariables false
set_option linter.unusedSimpArgs false
namespace Go.Proofs.YtlaojmcekeohnaaGreatDoor.Lift
open Go
section
variable {α:Type} {m:Mac α} {l:List Sp}
theorem Lz.nil (now:Int):Lz m [] [] m.first now:=⟨.nil _ _,fun i hi=>by simp at hi,fun i hi=>by simp at hi⟩
theorem Lz.all {W:List Nat} {q:List α} {now:Int} (h:Lz m l W q now):Goes m l [] m.first 0 :=
 ⟨W,q,dn W 0,by simpa using h.way,fun i hi ht=>((way_fresh h.way).2.2 i).2 (.inr (h.ended i hi ht))⟩
end
end Go.Proofs.YtlaojmcekeohnaaGreatDoor.Lift
set_option linter.unusedVariables false
set_option linter.unusedSimpArgs false
set_option linter.unnecessarySimpa false
namespace Go.Proofs.YtlaojmcekeohnaaGreatDoor.Lift
open Go
theorem or1_bit (d a i:Nat):(d ||| 1 <<< a).testBit i = true ↔ d.testBit i = true ∨ i = a:=by
 rw [Nat.testBit_or,Nat.testBit_shiftLeft]
 by_cases hi:i = a
 ·subst hi; simp
 ·simp only [hi,or_false,Bool.or_eq_true,Bool.and_eq_true,decide_eq_true_eq,or_iff_left_iff_imp]
  rintro ⟨h,k⟩
  have:Nat.testBit 1 (i - a) = true → i - a = 0:=by
   intro h
   by_cases h0:i - a = 0
   ·exact h0
   ·obtain ⟨n,hn⟩:∃ n,i - a = n + 1:=⟨i - a - 1,by omega⟩
    rw [hn] at h; simp [Nat.testBit_succ] at h
  have:=this k
  omega
theorem dn_bit:∀ (row:List Nat) (d i:Nat),(dn row d).testBit i = true ↔ d.testBit i = true ∨ i ∈ row
 | [],d,i=>by simp [dn]
 | a :: row,d,i=>by
  have:=dn_bit row (d ||| 1 <<< a) i
  show (dn row (d ||| 1 <<< a)).testBit i = true ↔ _
  rw [this,or1_bit,List.mem_cons]
  constructor
  ·rintro ((h | h) | h)
   ·exact .inl h
   ·exact .inr (.inl h)
   ·exact .inr (.inr h)
  ·rintro (h | h | h)
   ·exact .inl (.inl h)
   ·exact .inl (.inr h)
   ·exact .inr h
theorem dn0_bit (row:List Nat) (i:Nat):(dn row 0).testBit i = true ↔ i ∈ row:=by rw [dn_bit]; simp
theorem dn_snoc (row:List Nat) (a:Nat):dn (row ++ [a]) 0 = dn row 0 ||| 1 <<< a:=by simp [dn,List.foldl_append]
theorem bit_false {d i:Nat} (h:¬ d.testBit i = true):d.testBit i = false:=by simpa using h
section
variable {α:Type} {m:Mac α} {l l':List Sp}
theorem way_ren (f:Nat → Nat) (hinj:∀ a b,a < l.length → b < l.length → f a = f b → a = b) (hlt:∀ i,i < l.length → f i < l'.length) (hsur:∀ j,j < l'.length → ∃ i,i < l.length ∧ f i = j) (hsp:∀ i,i < l.length → sp l' (f i) = sp l i) {s s2:List α} {d d2:Nat} {W:List Nat} (h:Way m l s d W s2 d2) :
  ∀ pre:List Nat,d = dn pre 0 → (∀ a ∈ pre,a < l.length) → Way m l' s (dn (pre.map f) 0) (W.map f) s2 (dn ((pre ++ W).map f) 0):=by
 induction h with
 | nil=>intro pre _ _; rw [List.append_nil]; exact .nil _ _
 | @cons s d a an s1 r s2 d2 h1 h2 h3 h4 h5 ih =>
  intro pre hd hp
  have k:=ih (pre ++ [a]) (by rw [dn_snoc,hd]) (fun x hx=>by
   rcases List.mem_append.1 hx with hx | hx
   ·exact hp x hx
   ·rw [List.mem_singleton.1 hx]; exact h1)
  rw [List.map_append,List.map_singleton,dn_snoc] at k
  have e:pre ++ [a] ++ r = pre ++ a :: r:=by simp
  rw [e] at k
  refine .cons (hlt a h1) ⟨bit_false fun hb=>?_,fun i' hi' hne hb=>?_⟩ (by rw [show toldP m s (sp l' (f a)) = toldP m s (sp l a) by rw [hsp a h1]]; exact h3) (by rw [hsp a h1]; exact h4) k
  ·obtain ⟨b,hb1,hb2⟩:=List.mem_map.1 ((dn0_bit _ _).1 hb)
   have:=hinj b a (hp b hb1) h1 hb2
   have h20:=h2.1
   rw [hd,(dn0_bit pre a).2 (this ▸ hb1)] at h20
   cases h20
  ·obtain ⟨i,hi,rfl⟩:=hsur i' hi'
   rw [hsp i hi,hsp a h1]
   refine h2.2 i hi (fun e=>hne (by rw [e])) (bit_false fun hb'=>?_)
   rw [hd] at hb'
   have:=(dn0_bit (pre.map f) (f i)).2 (List.mem_map.2 ⟨i,(dn0_bit _ _).1 hb',rfl⟩)
   rw [this] at hb; cases hb
def BIG:Int:=1000000
structure Lz2 (m:Mac α) (l:List Sp) (W:List Nat) (q:List α) (now:Int):Prop where
 way:Way m l m.first 0 W q (dn W 0)
 ended:∀ i,i < l.length → 0 ≤ (sp l i).to → i ∈ W
 clk:∀ i,i < l.length → (sp l i).fr ≤ now ∧ ((sp l i).to ≤ now ∨ (sp l i).to = BIG)
 wd:∀ a ∈ W,0 ≤ (sp l a).to
variable {W:List Nat} {q q':List α} {now now' t:Int}
theorem Lz2.nil (now:Int):Lz2 m [] [] m.first now:=⟨.nil _ _,fun i hi=>by simp at hi,fun i hi=>by simp at hi,fun a ha=>by simp at ha⟩
theorem Lz2.tick (h:Lz2 m l W q now) (hn:now ≤ now'):Lz2 m l W q now':=⟨h.way,h.ended,fun i hi=>by have:=h.clk i hi; omega,h.wd⟩
theorem Lz2.inn (h:Lz2 m l W q now):∀ a ∈ W,a < l.length:=fun a ha=>((way_fresh h.way).1 a ha).2
theorem Lz2.begin (h:Lz2 m l W q now) (c:Sp) (hc:c.to = -1) (hf:c.fr ≤ now) (hn:-1 ≤ now):Lz2 m (l ++ [c]) W q now:=by
 have hW:=h.inn
 have hs:∀ a,a < l.length → sp (l ++ [c]) a = sp l a:=fun a ha=>by rw [sp_app,if_pos ha]
 refine ⟨way_mono (by simp) (fun a ha=>by rw [hs a (hW a ha)]) (fun a ha s an=>by rw [hs a (hW a ha)]; exact id) (fun a ha d hr=>⟨hr.1,fun i hi hne hb=>?_⟩) h.way,fun i hi ht=>?_,fun i hi=>?_,fun a ha=>by rw [hs a (hW a ha)]; exact h.wd a ha⟩
 ·rw [hs a (hW a ha),sp_app]
  by_cases h1:i < l.length
  ·rw [if_pos h1]; exact hr.2 i h1 hne hb
  ·rw [if_neg h1,if_pos (by simp at hi; omega)]
   unfold ahead; rw [hc]; rfl
 ·rw [sp_app] at ht
  by_cases h1:i < l.length
  ·rw [if_pos h1] at ht; exact h.ended i h1 ht
  ·rw [if_neg h1,if_pos (by simp at hi; omega),hc] at ht; omega
 ·rw [sp_app]
  by_cases h1:i < l.length
  ·rw [if_pos h1]; exact h.clk i h1
  ·rw [if_neg h1,if_pos (by simp at hi; omega),hc]; omega
theorem Lz2.eff (h:Lz2 m l W q now) {j:Nat} (hj:j < l.length) (hp:(sp l j).to < 0) (hjW:j ∉ W) (s':Sp) (hop:s'.op = (sp l j).op) (hfr:s'.fr = (sp l j).fr) (hto:s'.to = now' ∨ s'.to = BIG) (hn:now ≤ now') (h0:0 ≤ now') (hb:now' < BIG) (hq:m.next q (sp l j).op s'.an = some q'):Lz2 m (l.set j s') (W ++ [j]) q' now':=by
 have hf:=way_fresh h.way
 have hW:=h.inn
 have hB:(0:Int) < BIG:=by decide
 have hs:∀ i,i ≠ j → sp (l.set j s') i = sp l i:=fun i hi=>by rw [sp_set _ hj,if_neg hi]
 have hsj:sp (l.set j s') j = s':=by rw [sp_set _ hj,if_pos rfl]
 have hWj:∀ a ∈ W,a ≠ j:=fun a ha e=>hjW (e ▸ ha)
 have hway:Way m (l.set j s') m.first 0 W q (dn W 0):=by
  refine way_mono (by simp) (fun a ha=>by rw [hs a (hWj a ha)]) (fun a ha s x hx=>by rw [hs a (hWj a ha)]; exact hx) (fun a ha d hr=>⟨hr.1,fun i hi hne hb=>?_⟩) h.way
  have hi':i < l.length:=by simpa using hi
  have old:=hr.2 i hi' hne hb
  rw [hs a (hWj a ha)]
  by_cases e:i = j
  ·subst e
   rw [hsj]
   have:=(h.clk a (hW a ha)).1
   unfold ahead
   have:¬ (s'.to < (sp l a).fr):=by omega
   simp [this]
  ·rw [hs i e]; exact old
 refine ⟨?_,fun i hi ht=>?_,fun i hi=>?_,fun a ha=>?_⟩
 ·rw [dn_snoc]
  refine way_app.2 ⟨q,_,hway,.cons (an:=s'.an) (by simpa using hj) ⟨?_,fun i hi hne hb=>?_⟩ ?_ ?_ (.nil _ _)⟩
  ·cases hb:(dn W 0).testBit j with
   | false=>rfl
   | true=>exact absurd ((dn0_bit _ _).1 hb) hjW
  ·have hi':i < l.length:=by simpa using hi
   have:i ∉ W:=fun hi=>by have:=(dn0_bit _ _).2 hi; rw [hb] at this; cases this
   have hto:¬ 0 ≤ (sp l i).to:=fun ht=>this (h.ended i hi' ht)
   rw [hs i hne]
   simp [ahead,hto]
  ·rw [hsj]; unfold toldP; rw [if_pos (by omega)]; exact List.mem_singleton.2 rfl
  ·rw [hsj,hop]; exact hq
 ·by_cases e:i = j
  ·rw [e]; simp
  ·rw [hs i e] at ht; exact List.mem_append_left _ (h.ended i (by simpa using hi) ht)
 ·by_cases e:i = j
  ·subst e
   have:=(h.clk i hj).1
   rw [hsj]; omega
  ·have:=h.clk i (by simpa using hi)
   rw [hs i e]; omega
 ·by_cases e:a = j
  ·subst e; rw [hsj]; omega
  ·rw [hs a e]
   rcases List.mem_append.1 ha with ha | ha
   ·exact h.wd a ha
   ·exact absurd (List.mem_singleton.1 ha) e
theorem Lz2.told (h:Lz2 m l W q now) {j:Nat} (hj:j < l.length) (hp:(sp l j).to = BIG) (s':Sp) (hop:s'.op = (sp l j).op) (hfr:s'.fr = (sp l j).fr) (han:s'.an = (sp l j).an) (hto:s'.to = now') (hn:now ≤ now') (h0:0 ≤ now'):Lz2 m (l.set j s') W q now':=by
 have hW:=h.inn
 have hB:(0:Int) < BIG:=by decide
 have hs:∀ i,i ≠ j → sp (l.set j s') i = sp l i:=fun i hi=>by rw [sp_set _ hj,if_neg hi]
 have hsj:sp (l.set j s') j = s':=by rw [sp_set _ hj,if_pos rfl]
 have hjW:=h.ended j hj (by omega)
 refine ⟨way_mono (by simp) (fun a ha=>?_) (fun a ha s x hx=>?_) (fun a ha d hr=>⟨hr.1,fun i hi hne hb=>?_⟩) h.way,fun i hi ht=>?_,fun i hi=>?_,fun a ha=>?_⟩
 ·by_cases e:a = j
  ·rw [e,hsj,hop]
  ·rw [hs a e]
 ·by_cases e:a = j
  ·rw [e,hsj]
   rw [e] at hx
   unfold toldP at hx ⊢
   rw [if_pos (by omega)] at hx
   rw [if_pos (by omega),han]; exact hx
  ·rw [hs a e]; exact hx
 ·have hi':i < l.length:=by simpa using hi
  have old:=hr.2 i hi' hne hb
  have hfa:(sp (l.set j s') a).fr = (sp l a).fr:=by
   by_cases e:a = j
   ·rw [e,hsj,hfr]
   ·rw [hs a e]
  unfold ahead at old ⊢
  rw [hfa]
  by_cases e:i = j
  ·have:=(h.clk a (hW a ha)).1
   rw [e,hsj]
   have:¬ (s'.to < (sp l a).fr):=by omega
   simp [this]
  ·rw [hs i e]; exact old
 ·by_cases e:i = j
  ·rw [e]; exact hjW
  ·rw [hs i e] at ht; exact h.ended i (by simpa using hi) ht
 ·by_cases e:i = j
  ·subst e
   have:=(h.clk i hj).1
   rw [hsj]; omega
  ·have:=h.clk i (by simpa using hi)
   rw [hs i e]; omega
 ·by_cases e:a = j
  ·rw [e,hsj]; omega
  ·rw [hs a e]; exact h.wd a ha
theorem Lz2.swap {a b:Sp} (h:Lz2 m (l ++ [a] ++ [b]) W q now):∃ W',Lz2 m (l ++ [b] ++ [a]) W' q now:=by
 obtain ⟨n,hn⟩:∃ n,n = l.length:=⟨_,rfl⟩
 obtain ⟨f,hf⟩:∃ f:Nat → Nat,f = fun i=>if i = n then n + 1 else if i = n + 1 then n else i:=⟨_,rfl⟩
 have h1:∀ i,i < n → f i = i:=fun i hi=>by rw [hf]; simp only; rw [if_neg (by omega),if_neg (by omega)]
 have h2:f n = n + 1:=by rw [hf]; simp
 have h3:f (n + 1) = n:=by rw [hf]; simp
 have len1:(l ++ [a] ++ [b]).length = n + 2:=by simp; omega
 have len2:(l ++ [b] ++ [a]).length = n + 2:=by simp; omega
 have hc:∀ i,i < n + 2 → i < n ∨ i = n ∨ i = n + 1:=fun i hi=>by omega
 have sp1:∀ (a b:Sp) i,i < n → sp (l ++ [a] ++ [b]) i = sp l i:=fun a b i hi=>by rw [sp_app,if_pos (by simp; omega),sp_app,if_pos (by omega)]
 have sp2:∀ (a b:Sp),sp (l ++ [a] ++ [b]) n = a:=fun a b=>by rw [sp_app,if_pos (by simp; omega),sp_app,if_neg (by omega),if_pos hn]
 have sp3:∀ (a b:Sp),sp (l ++ [a] ++ [b]) (n + 1) = b:=fun a b=>by rw [sp_app,if_neg (by simp; omega),if_pos (by simp; omega)]
 have hsp:∀ i,i < n + 2 → sp (l ++ [b] ++ [a]) (f i) = sp (l ++ [a] ++ [b]) i:=fun i hi=>by
  rcases hc i hi with k | rfl | rfl
  ·rw [h1 i k,sp1 _ _ i k,sp1 _ _ i k]
  ·rw [h2,sp3,sp2]
  ·rw [h3,sp2,sp3]
 have hlt:∀ i,i < n + 2 → f i < n + 2:=fun i hi=>by
  rcases hc i hi with k | rfl | rfl
  ·rw [h1 i k]; exact hi
  ·rw [h2]; omega
  ·rw [h3]; omega
 have hff:∀ i,i < n + 2 → f (f i) = i:=fun i hi=>by
  rcases hc i hi with k | rfl | rfl
  ·rw [h1 i k,h1 i k]
  ·rw [h2,h3]
  ·rw [h3,h2]
 have hinj:∀ a b,a < n + 2 → b < n + 2 → f a = f b → a = b:=fun a b ha hb e=>by rw [← hff a ha,← hff b hb,e]
 refine ⟨W.map f,⟨?_,fun i hi ht=>?_,fun i hi=>?_,fun a ha=>?_⟩⟩
 ·have:=way_ren (m:=m) (l:=l ++ [a] ++ [b]) (l':=l ++ [b] ++ [a]) f (by rw [len1]; exact hinj) (by rw [len1,len2]; exact hlt) (by rw [len1,len2]; exact fun j hj=>⟨f j,hlt j hj,hff j hj⟩) (by rw [len1]; exact hsp) h.way [] rfl (by simp)
  simp only [List.map_nil,List.nil_append] at this
  exact this
 ·rw [len2] at hi
  have e:=hsp (f i) (hlt i hi)
  rw [hff i hi] at e
  rw [e] at ht
  have:=h.ended (f i) (by rw [len1]; exact hlt i hi) ht
  exact List.mem_map.2 ⟨f i,this,hff i hi⟩
 ·rw [len2] at hi
  have e:=hsp (f i) (hlt i hi)
  rw [hff i hi] at e
  rw [e]
  exact h.clk (f i) (by rw [len1]; exact hlt i hi)
 ·obtain ⟨i,hi,rfl⟩:=List.mem_map.1 ha
  have hil:=h.inn i hi
  rw [len1] at hil
  rw [hsp i hil]
  exact h.wd i hi
theorem Lz2.all (h:Lz2 m l W q now):Goes m l [] m.first 0:=⟨W,q,dn W 0,by simpa using h.way,fun i hi ht=>(dn0_bit _ _).2 (h.ended i hi ht)⟩
end
end Go.Proofs.YtlaojmcekeohnaaGreatDoor.Lift
