import Derived.Test.YtkhlabammcghbaaGreatGhI
namespace Go.Proofs.YtkhlabammcghbaaGreat.Gh
open Go
variable {P:Program} {M:Map}
def World.tf (w:World) (b:Nat) (c:Array Value) (e:TypeId):World:={ w with heap:=w.heap.setIfInBounds b (.cells c e (0,0)) }
theorem yD {w:World} {b r:Nat} {c:Array Value} {e:TypeId} (h:r≠b):(World.tf w b c e).heap[r]? =w.heap[r]?:=by
  simp [World.tf,Array.getElem?_setIfInBounds_ne (Ne.symm h)]
theorem Hq {w:World} {b:Nat} {c:Array Value} {e:TypeId} (h:b<w.heap.size):(World.tf w b c e).heap[b]? =some (.cells c e (0,0)):=by
  simp [World.tf,h]
theorem Rel.write {G:GS} {w:World} {B:Nat} (hR:Rel G M w B) {g:Nat} {x:jv} {o:bK} {c c':Array Value} {e:TypeId} {cs:List Value} {m:Nat}
    (hx:M.mu g=some x) (ho:G.obj g=some o) (hm:o.mode=1) (hc:w.heap[x.aY]? =some (.cells c e (0,0))) (hs:c'.size=c.size) (hl:cs.length=o.cells.length) (wz:m=1∨m=2)
    (fE:m=1→∀ (i:Nat) (v:Value),cs[i]? =some v→∃ u,c'[x.off+i]? =some u∧V M v u) :
    Rel (G.put g { o with cells:=cs,mode:=m }) M (World.tf w x.aY c' e) B∧cy G M w (G.put g { o with cells:=cs,mode:=m }) M (World.tf w x.aY c' e):=by
  have aT:x.aY<w.heap.size:=(Array.getElem?_eq_some_iff.1 hc).1
  have dA:∀ h,h≠g→(G.put g { o with cells:=cs,mode:=m }).obj h=G.obj h:=fun h hh=>by rw [GS.cM,if_neg hh]
  have yE:(G.put g { o with cells:=cs,mode:=m }).obj g=some { o with cells:=cs,mode:=m }:=by rw [GS.cM,if_pos rfl]
  have Nk:(World.tf w x.aY c' e).heap.size=w.heap.size:=by simp [World.tf]
  have yG:=hR.aY g x o hx ho
  have Hr:=yG.own hm
  have AV:∀ h y p,h≠g→M.mu h=some y→G.obj h=some p→p.mode≠2→y.aY≠x.aY:=by
    intro h y p hh hy hp uZ
    by_cases h1:p.mode=1
    · exact fun e=>hh (hR.apart h g y x p o hy hx hp ho h1 hm e)
    · have:=(hR.aY h y p hy hp).ro h1 uZ
      have:=Hr.1
      omega
  refine ⟨⟨by rw [Nk]; exact hR.size,fun h y p hy hp=>?_,?_,hR.nx,fun l r hl=>?_,hR.jz,fun l r hl=>by obtain ⟨h1,p,h2,h3⟩:=hR.mp l r hl; obtain ⟨es,ck,h4⟩:=h3.obj; exact ⟨h1,p,h2,h3.keep (yD fun he=>by rw [he,hc] at h4; cases h4)⟩,hR.jA,hR.iY,fun h hh=>by rw [dA h (fun e=>by have:=hR.wf h hh; rw [e,ho] at this; cases this)]; exact hR.wf h hh,fun h p hp h3=>by
    by_cases e:h=g
    · rw [e,yE] at hp; cases hp; rcases wz with rfl | rfl<;>simp at h3
    · rw [dA h e] at hp; exact (hR.gl h p hp h3).keep fun r hr=>yD (by have:=Hr.1; omega)⟩,⟨.refl M,by rw [Nk]; exact Nat.le_refl _,fun r hr hf=>?_,?_,rfl,rfl,rfl,Nat.le_refl _,fun h _ hn=>⟨hn,dA h (fun e=>by rw [e,hx] at hn; cases hn)⟩,fun h _ hn=>by rw [dA h (fun e=>by rw [e,ho] at hn; cases hn)]; exact hn⟩⟩
  · by_cases hh:h=g
    · subst hh
      obtain rfl:y=x:=by rw [hx] at hy; exact (Option.some.inj hy).symm
      rw [yE] at hp; obtain rfl:=Option.some.inj hp
      refine ⟨yG.esz,yG.opn,by rw [yG.len]; exact hl.symm,fun uZ i v hv=>?_,fun _=>?_,fun h0=>?_⟩
      · have Ht:m=1:=by rcases wz with h | h; exact h; exact absurd h uZ
        obtain ⟨u,h1,h2⟩:=fE Ht i v hv
        exact ⟨u,by simp only [World.cell?,Hq aT]; simpa using h1,h2⟩
      · obtain ⟨hB,c0,e0,h1,h2⟩:=Hr
        rw [hc] at h1
        simp only [Option.some.injEq,Obj.cells.injEq] at h1
        exact ⟨hB,c',e,Hq aT,by rw [hs,h1.1]; exact h2⟩
      · exact fun h2=>by rcases wz with h | h; exact absurd h h0; exact absurd h h2
    · rw [dA h hh] at hp
      have hb:=hR.aY h y p hy hp
      refine ⟨hb.esz,hb.opn,hb.len,fun uZ=>?_,fun h1=>?_,hb.ro⟩
      · exact nS (.refl M) (hb.cells uZ) fun a u Vp ng=>ta (by rw [ng]; exact yD (AV h y p hh hy hp uZ)) Vp
      · obtain ⟨hB,c0,e0,h3,h4⟩:=hb.own h1
        exact ⟨hB,c0,e0,by rw [yD (AV h y p hh hy hp (by omega))]; exact h3,h4⟩
  · intro h h' y y' p p' hy qz hp dB h1 ft he
    have conv:∀ k q,(G.put g { o with cells:=cs,mode:=m }).obj k=some q→q.mode=1→∃ q0,G.obj k=some q0∧q0.mode=1:=by
      intro k q hq yH
      by_cases hk:k=g
      · subst hk; exact ⟨o,ho,hm⟩
      · rw [dA k hk] at hq; exact ⟨q,hq,yH⟩
    obtain ⟨q0,h3,h4⟩:=conv h p hp h1
    obtain ⟨q1,h5,h6⟩:=conv h' p' dB ft
    exact hR.apart h h' y y' q0 q1 hy qz h3 h5 h4 h6 he
  · obtain ⟨h1,p,h2,h3,lo,h4,h5⟩:=hR.lp l r hl
    refine ⟨h1,p,h2,h3,lo,?_,h5⟩
    have aB:r≠x.aY:=fun he=>by rw [he,hc] at h4; cases h4
    rw [yD aB]; exact h4
  · exact yD fun he=>hf (.inl ⟨g,x,o,hx,ho,hm,he.symm⟩)
  · rintro r (⟨h,y,p,hy,hp,h1,rfl⟩ | ⟨l,hl⟩)
    · by_cases hh:h=g
      · subst hh
        obtain rfl:y=x:=by rw [hx] at hy; exact (Option.some.inj hy).symm
        exact .inl (.inl ⟨h,y,o,hx,ho,hm,rfl⟩)
      · rw [dA h hh] at hp
        exact .inl (.inl ⟨h,y,p,hy,hp,h1,rfl⟩)
    · exact .inl (.inr ⟨l,hl⟩)
end Go.Proofs.YtkhlabammcghbaaGreat.Gh
namespace Go.Proofs.YtkhlabammcghbaaGreat.Gh
open Go
variable {P:Program} {M:Map}
theorem AW {w:World} {b k:Nat} {c:Array Value} {e:TypeId} {f:Nat×Nat} (h:w.heap[b]? =some (.cells c e f)):w.cell? ⟨b,k,none⟩=c[k]?:=by
  simp [World.cell?,h]
theorem Hu {G G':GS} {w:World} {B g off:Nat} {x:jv} {vs us:List Value} (hR:Rel G M w B) (hx:M.mu g=some x) (h:lR G g off vs=some G') (hv:Vs M vs us) :
    ∃ w',(storeCells ⟨x.aY,x.off+off,none⟩ us).run P w= .ok () w' ∧Rel G' M w' B∧cy G M w G' M w':=by
  unfold lR at h
  split at h
  · rename_i o ho
    split at h
    · rename_i hm
      simp only [Bool.and_eq_true,decide_eq_true_eq] at hm
      split at h
      · rename_i cs fE
        simp only [Option.some.injEq] at h
        obtain ⟨h1,h2,h3⟩:=AG fE
        have hb:=hR.aY g x o hx ho
        obtain ⟨hB,c0,e,lW,cm⟩:=hb.own hm.1
        have hlen:=iG hv
        have Vq:=hb.len
        have Hv:us.all one=true:=by
          refine List.all_eq_true.2 fun u hu=>?_
          obtain ⟨i,hi,rfl⟩:=List.getElem_of_mem hu
          have Nl:i<vs.length:=by omega
          obtain ⟨y,hy,hV⟩:=(iH.1 hv).2 i vs[i] (by simp [Nl])
          simp only [List.getElem?_eq_getElem hi,Option.some.injEq] at hy
          rw [hy,← ML hV]
          exact List.all_eq_true.1 hm.2 _ (List.getElem_mem Nl)
        have gT:=Ho (P:=P) (off:=x.off+off) us 0 w c0 lW (by omega) Hv
        have hw:=hR.write (c':=nV c0 (x.off+off+0) us) (m:=1) hx ho hm.1 lW (AU _ _ _) h1 (.inl rfl) (by
          intro _ i v iJ
          rw [h3 i] at iJ
          rw [DG us c0 _ _ (by omega)]
          by_cases mY:off≤i∧i<off+vs.length
          · rw [if_pos mY] at iJ
            rw [if_pos (by omega)]
            obtain ⟨u,hu,hV⟩:=(iH.1 hv).2 _ v iJ
            exact ⟨u,by rw [← hu]; congr 1; omega,hV⟩
          · rw [if_neg mY] at iJ
            rw [if_neg (by omega)]
            obtain ⟨u,hu,hV⟩:=hb.cells (by rw [hm.1]; omega) i v iJ
            rw [AW lW] at hu
            exact ⟨u,hu,hV⟩)
        have hG:G.put g { o with cells:=cs,mode:=1 }=G':=by
          rw [← h]; obtain ⟨a,b,c,d⟩:=o; simp only at hm; rw [hm.1]
        rw [hG] at hw
        exact ⟨_,gT,hw.1,hw.2⟩
      · simp at h
    · simp at h
  · simp at h
theorem Vr {G G':GS} {w:World} {B:Nat} {t:TypeId} {p q v u:Value} (hR:Rel G M w B) (hp:V M p q) (hv:V M v u) (h:mT P t p v G=some G') :
    ∃ w',(Instr.storeAt t q u).run P w= .ok () w' ∧Rel G' M w' B∧cy G M w G' M w':=by
  unfold mT at h
  split at h
  · rename_i a s hs
    split at h
    · rename_i cm
      obtain ⟨x,hx,rfl⟩:=lU.1 hp
      have hc:=GX hv
      obtain ⟨w',h1,h2,h3⟩:=Hu (P:=P) hR hx h hc
      refine ⟨w',?_,h2,h3⟩
      have hZ:u.cells.size=s:=by rw [← cm]; have:=iG hc; simpa using this.symm
      have aB:¬ (u.cells.size≠s):=fun h=>h hZ
      simp only [Instr.storeAt,Instr.sureAddr,storeVar,Sem.run_bind,Sem.run_pure,Result.andThen_ok,hQ hs,if_neg aB,h1]
    · simp at h
  · simp at h
theorem Hw {G:GS} {w:World} {B s n len cap:Nat} {a:Option Addr} {u:Value} {l:List Value} (hR:Rel G M w B) (h:elems s n (.slice a len cap) G=some l) (hn:n≤len) (hv:V M (.slice a len cap) u) :
    ∃ us,(∀ w2:World,w2.heap=w.heap→(Builtin.firstCells s n u).run P w2= .ok ⟨us⟩ w2)∧Vs M l us∧us.length=n*s:=by
  unfold elems at h
  cases a with
  | none =>
    simp only [Option.some.injEq] at h; subst h
    obtain ⟨rfl,_,rfl⟩:=jx.1 hv
    obtain rfl:n=0:=by omega
    exact ⟨[],fun _ _=>rfl,trivial,by simp⟩
  | some a =>
    simp only at h
    obtain ⟨x,b,cr,hx,rfl,mX,hY,hb⟩:=gC.1 hv
    by_cases h0:n*s=0
    · rw [h0] at h
      have hl:l=[]:=by
        unfold fC at h
        split at h
        · split at h
          · simp at h
          · simp only [Di,Option.some.injEq] at h; exact h.symm
        · simp at h
      subst hl
      exact ⟨[],fun _ _=>by simp only [Builtin.firstCells,h0,loadCells,loadCellsFrom,Sem.run_pure],trivial,by simp [h0]⟩
    · have eI:n≠0:=fun e=>h0 (by rw [e]; simp)
      have lV:cr≠0:=by rcases hY with h | h<;>omega
      obtain rfl:=hb lV
      obtain ⟨us,h1,h2,h3⟩:=yz hR hx h
      refine ⟨us,fun w2 Vt=>?_,h1,h2⟩
      have pf:∀ (j:Nat) (u:Value),us[j]? =some u→w2.cell? ⟨x.aY,x.off+a.off+j,none⟩=some u:=fun j u hu=>by
        have:=h3 j u hu
        simp only [World.cell?,Vt] at this ⊢
        exact this
      have:=MZ (P:=P) pf
      rw [h2] at this
      simp only [Builtin.firstCells,this]
theorem Vu {s:Nat} {x:Value} {G:GS} {l:List Value} (h:elems s 0 x G=some l):l=[]:=by
  unfold elems at h
  split at h
  · rw [Nat.zero_mul] at h
    unfold fC at h
    split at h
    · split at h
      · simp at h
      · simp only [Di,Option.some.injEq] at h; exact h.symm
    · simp at h
  · simp only [Option.some.injEq] at h; exact h.symm
  · simp at h
theorem Vv {G G':GS} {w:World} {B:Nat} {td ty:TypeId} {d d' s s' r:Value} {ts:Array TypeId} {as:Array Value} (hR:Rel G M w B) (hd:V M d d') (hs:V M s s') (h:qs P td d s G=some (r,G'))
    (ht:ts[0]? =some td) (lX:as[0]? =some d') (lY:as[1]? =some s') :
    ∃ r' w',V M r r' ∧(Builtin.copy_ ts ty as).run P w= .ok r' w' ∧Rel G' M w' B∧cy G M w G' M w':=by
  unfold qs at h
  split at h
  · rename_i e hu
    split at h
    · rename_i z base dl dc sb sl sc hz
      split at h
      · rename_i new pe
        obtain ⟨us,Hx,nQ,_⟩:=Hw (P:=P) hR pe (Nat.min_le_left _ _) hs
        have hZ:=Hx w rfl
        obtain ⟨Nm,b',rfl⟩:∃ Nm b',s' = .slice b' sl Nm:=by
          cases sb with
          | none=>obtain ⟨rfl,rfl,rfl⟩:=jx.1 hs; exact ⟨0,none,rfl⟩
          | some sb=>obtain ⟨x,b,cr,hx,rfl,_⟩:=gC.1 hs; exact ⟨cr,some b,rfl⟩
        split at h
        · simp only [Option.some.injEq,Prod.mk.injEq] at h
          obtain ⟨rfl,rfl⟩:=h
          obtain ⟨rfl,rfl,rfl⟩:=jx.1 hd
          exact ⟨_,w,eG.2 rfl,by simp only [Builtin.copy_,ht,lX,lY,Sem.run_bind,cD hu,Result.andThen_ok,Builtin.lenOf,Sem.run_pure,hQ hz,hZ,goInt],hR,.refl _ _ _⟩
        · rename_i a
          obtain ⟨x,b,cr,hx,rfl,mX,hY,hb⟩:=gC.1 hd
          split at h
          · rename_i ti
            simp only [Option.some.injEq,Prod.mk.injEq] at h
            obtain ⟨rfl,rfl⟩:=h
            subst ti
            obtain rfl:us=[]:=by cases us with | nil=>rfl | cons _ _=>exact nQ.elim
            exact ⟨_,w,eG.2 rfl,by simp only [Builtin.copy_,ht,lX,lY,Sem.run_bind,cD hu,Result.andThen_ok,Builtin.lenOf,Sem.run_pure,hQ hz,hZ,storeCells,goInt],hR,.refl _ _ _⟩
          · rename_i ti
            split at h
            · rename_i G2 hw
              simp only [Option.some.injEq,Prod.mk.injEq] at h
              obtain ⟨rfl,rfl⟩:=h
              have hdl:dl≠0:=by
                intro e
                apply ti
                subst e
                have wz:Nat.min sl 0=0:=Nat.min_eq_right (Nat.zero_le sl)
                rw [wz] at pe
                exact Vu pe
              have lV:cr≠0:=by rcases hY with h | h<;>omega
              obtain rfl:=hb lV
              obtain ⟨w',h1,h2,h3⟩:=Hu (P:=P) hR hx hw nQ
              refine ⟨_,w',eG.2 rfl,?_,h2,h3⟩
              simp only [Builtin.copy_,ht,lX,lY,Sem.run_bind,cD hu,Result.andThen_ok,Builtin.lenOf,Sem.run_pure,hQ hz,hZ,h1,goInt]
            · simp at h
      · simp at h
    · simp at h
  · simp at h
end Go.Proofs.YtkhlabammcghbaaGreat.Gh
namespace Go.Proofs.YtkhlabammcghbaaGreat.Gh
open Go
variable {P:Program} {M:Map} {B:Nat}
theorem heap_alloc_old {w:World} {o:Obj} {r:Nat} (h:r<w.heap.size):(w.alloc o).heap[r]? =w.heap[r]?:=Go.RowKit.Below.heap_alloc w o r h
theorem Rel.other {G:GS} {w:World} (hR:Rel G M w B) (o:Obj):Rel G M (w.alloc o) B∧cy G M w G M (w.alloc o):=by
  have iZ:∀ a u,w.cell? a=some u→(w.alloc o).cell? a=some u:=fun a u h=>ta (heap_alloc_old (World.block_lt_of_cell? w a h)) h
  refine ⟨⟨Nat.le_trans hR.size (by simp),fun g x p hx hp=>?_,hR.apart,hR.nx,fun l r hl=>?_,hR.jz,fun l r hl=>let ⟨h1,p,h2,h3⟩:=hR.mp l r hl; ⟨h1,p,h2,h3.keep (heap_alloc_old h3.lt)⟩,hR.jA,hR.iY,hR.wf,fun g o ho hm=>(hR.gl g o ho hm).keep fun r hr=>heap_alloc_old (Nat.lt_of_lt_of_le hr hR.size)⟩,⟨.refl M,by simp,fun r hr _=>heap_alloc_old hr,fun _ h=>.inl h,rfl,rfl,rfl,Nat.le_refl _,fun _ _ h=>⟨h,rfl⟩,fun _ _ h=>h⟩⟩
  · have hb:=hR.aY g x p hx hp
    refine ⟨hb.esz,hb.opn,hb.len,fun hm=>nS (.refl M) (hb.cells hm) fun a u h _=>iZ a u h,fun hm=>?_,hb.ro⟩
    obtain ⟨h1,c,e,h2,h3⟩:=hb.own hm
    exact ⟨h1,c,e,by rw [heap_alloc_old (Array.getElem?_eq_some_iff.1 h2).1]; exact h2,h3⟩
  · obtain ⟨h1,p,h2,h3,lo,h4,h5⟩:=hR.lp l r hl
    exact ⟨h1,p,h2,h3,lo,by rw [heap_alloc_old (Array.getElem?_eq_some_iff.1 h4).1]; exact h4,h5⟩
theorem GS.wA (G:GS) (p:Lp) (l:Nat):(G.dS p).loop l=if l=G.nl then some p else G.loop l:=sT _ _ _ _
theorem GS.wB (G:GS) (p:Lp) (l k:Nat):(G.bR l p).loop k=if k=l then some p else G.loop k:=sT _ _ _ _
def Map.AX (M:Map) (l r:Nat):Map:=⟨M.mu,M.lp,fun k=>if k=l then some r else M.mp k⟩
theorem Hy:∀ (es:List MapEntry),uM (uL es)=es.map fun e=>⟨e.key,e.val,0⟩
  | []=>rfl
  | e::es=>by
    show uM (e.key::e.val::uL es)=_
    rw [uM,Hy es]; rfl
theorem Nn (kind:TypeDesc) (k:Value):∀ (es:List MapEntry) (i:Nat),Instr.findNow kind k (es.map fun e=>⟨e.key,e.val,0⟩) i=Instr.findNow kind k es i
  | [],_=>rfl
  | e::es,i=>by
    simp only [List.map_cons,Instr.findNow,Nn kind k es (i+1)]
theorem Np (kt:TypeId) (k:Value):∀ (es:List MapEntry) (i:Nat),Instr.findAsking kt k (es.map fun e=>⟨e.key,e.val,0⟩) i=Instr.findAsking kt k es i
  | [],_=>rfl
  | e::es,i=>by
    simp only [List.map_cons,Instr.findAsking,Np kt k es (i+1)]
theorem Nq (kt:TypeId) (k:Value) (es:List MapEntry):Instr.findKey kt k (uM (uL es))=Instr.findKey kt k es:=by
  rw [Hy]
  unfold Instr.findKey
  simp only [Nn,Np]
theorem Vx (es:List MapEntry):(uM (uL es)).isEmpty=es.isEmpty:=by
  rw [Hy]; cases es<;>rfl
theorem Vy {G:GS} {w:World} {t:TypeId} {x k x' k' v:Value} {ok:Bool} (hR:Rel G M w B) (h:wi P t x k ok G=some v) (hx:V M x x') (hk:V M k k') :
    V M v v∧(Instr.lookup t x' k' ok).run P w= .ok v w:=by
  unfold wi at h
  split at h
  · rename_i kt el l hu
    split at h
    · rename_i p hp
      split at h
      · rename_i qu
        simp only [Bool.and_eq_true] at qu
        obtain ⟨r,hr,rfl⟩:=AH.1 hx
        have he:=sX qu.1 hk
        subst he
        obtain ⟨_,p',dB,hB,_,es,ck,ho,hf⟩:=hR.mp l r hr
        obtain rfl:p' =p:=by rw [hp] at dB; exact (Option.some.inj dB).symm
        obtain ⟨h1,h2⟩:=wv (M:=M) h
        refine ⟨h1,?_⟩
        have h3:=h2 w
        unfold MG at h3
        rw [← hf,Vx,Nq] at h3
        have hg:(getObj r).run P w= .ok (.map es ck) w:=by simp [getObj,Sem.run,ho]
        have Vz:es.isEmpty=es.toList.isEmpty:=by simp
        unfold Instr.lookup
        simp only [Sem.run_bind,cD hu,Result.andThen_ok,hg,Sem.run_pure,Vz] at h3 ⊢
        exact h3
      · simp at h
    · simp at h
  · simp at h
theorem Rel.VA {G:GS} {w:World} (hR:Rel G M w B) :
    Rel (G.dS ⟨.done,none,[],[],.skip,.skip⟩) (M.AX G.nl w.heap.size) (w.alloc (.map #[] 0)) B∧cy G M w (G.dS ⟨.done,none,[],[],.skip,.skip⟩) (M.AX G.nl w.heap.size) (w.alloc (.map #[] 0))∧(M.AX G.nl w.heap.size).mp G.nl=some w.heap.size:=by
  have m9:M.mp G.nl=none:=by
    cases hm:M.mp G.nl with
    | none=>rfl
    | some x=>exact absurd (hR.mp _ _ hm).1 (Nat.lt_irrefl _)
  have VB:M.lp G.nl=none:=by
    cases hm:M.lp G.nl with
    | none=>rfl
    | some x=>exact absurd (hR.lp _ _ hm).1 (Nat.lt_irrefl _)
  have hM:M.Le (M.AX G.nl w.heap.size):=⟨fun _ _ h=>h,fun _ _ h=>h,fun l r h=>by
    show (if l=G.nl then some w.heap.size else M.mp l)=some r
    rw [if_neg (fun e=>by rw [e,m9] at h; cases h)]; exact h⟩
  obtain ⟨hO,hE⟩:=hR.other (.map #[] 0)
  have AY:∀ l r,(M.AX G.nl w.heap.size).mp l=some r→(l=G.nl∧r=w.heap.size)∨(l≠G.nl∧M.mp l=some r):=by
    intro l r hl
    change (if l=G.nl then some w.heap.size else M.mp l)=some r at hl
    split at hl
    · rename_i he; exact .inl ⟨he,(Option.some.inj hl).symm⟩
    · rename_i he; exact .inr ⟨he,hl⟩
  have aT:∀ l r,M.mp l=some r→r<w.heap.size:=fun l r hl=>by
    obtain ⟨_,q,_,h3⟩:=hR.mp l r hl
    exact h3.lt
  refine ⟨⟨hO.size,fun g x o hx ho=>?_,hO.apart,hO.nx,fun l r hl=>?_,hO.jz,fun l r hl=>?_,?_,fun l r hl=>?_,hO.wf,hO.gl⟩,⟨hM,hE.size,hE.keep,?_,rfl,rfl,rfl,Nat.le_refl _,fun _ _ h=>⟨h,rfl⟩,fun _ _ h=>h⟩,by show (if G.nl=G.nl then _ else _)=_; rw [if_pos rfl]⟩
  · have hb:=hO.aY g x o hx ho
    exact ⟨hb.esz,hb.opn,hb.len,fun hm=>nS hM (hb.cells hm) fun _ _ h _=>h,hb.own,hb.ro⟩
  · obtain ⟨k1,q,k2,k3,lo',k4,k5,k6,k7,k8⟩:=hO.lp l r hl
    exact ⟨Nat.lt_succ_of_lt k1,q,by rw [GS.wA,if_neg (by omega)]; exact k2,k3,lo',k4,k5,k6,k7.mono hM,k8⟩
  · rcases AY l r hl with ⟨rfl,rfl⟩ | ⟨aB,hl⟩
    · exact ⟨Nat.lt_succ_self _,_,by rw [GS.wA,if_pos rfl],hR.size,rfl,#[],0,World.alloc_heap_new w _,rfl⟩
    · obtain ⟨k1,q,k2,k3⟩:=hO.mp l r hl
      exact ⟨Nat.lt_succ_of_lt k1,q,by rw [GS.wA,if_neg aB]; exact k2,k3⟩
  · intro l l' r hl eg
    rcases AY l r hl with ⟨e1,e2⟩ | ⟨aB,k1⟩<;>rcases AY l' r eg with ⟨e3,e4⟩ | ⟨tj,k2⟩
    · rw [e1,e3]
    · have:=aT _ _ k2; omega
    · have:=aT _ _ k1; omega
    · exact hR.jA l l' r k1 k2
  · rcases AY l r hl with ⟨rfl,rfl⟩ | ⟨aB,hl⟩
    · exact VB
    · exact hR.iY l r hl
  · rintro r (⟨g,x,o,hx,ho,hm,rfl⟩ | ⟨l,hl | hl⟩)
    · exact .inl (.inl ⟨g,x,o,hx,ho,hm,rfl⟩)
    · exact .inl (.inr ⟨l,.inl hl⟩)
    · rcases AY l r hl with ⟨rfl,rfl⟩ | ⟨aB,hl⟩
      · exact .inr (Nat.le_refl _)
      · exact .inl (.inr ⟨l,.inr hl⟩)
theorem Rel.VC {G:GS} {w:World} (hR:Rel G M w B) {l r:Nat} {p q:Lp} {es es':Array MapEntry} {ck ck':Nat} (hl:M.mp l=some r) (hp:G.loop l=some p) (ho:w.heap[r]? =some (.map es ck))
    (hq:q.tmps.all plain=true) (hf:uL es'.toList=q.tmps) :
    Rel (G.bR l q) M (w.putObj r (.map es' ck')) B∧cy G M w (G.bR l q) M (w.putObj r (.map es' ck')):=by
  have aT:=(Array.getElem?_eq_some_iff.1 ho).1
  have nW:∀ k,k≠r→(w.putObj r (.map es' ck')).heap[k]? =w.heap[k]?:=fun k hk=>World.putObj_heap_other hk
  have Hz:(w.putObj r (.map es' ck')).heap[r]? =some (.map es' ck'):=World.putObj_heap_same aT
  have HA:∀ a u,w.cell? a=some u→a.block≠r:=by
    rintro a u h rfl
    simp [World.cell?,ho] at h
  obtain ⟨HB,p',dB,hB,_⟩:=hR.mp l r hl
  refine ⟨⟨by rw [World.putObj_size]; exact hR.size,fun g x o hx cW=>?_,hR.apart,hR.nx,fun l' r' eg=>?_,hR.jz,fun l' r' eg=>?_,hR.jA,hR.iY,hR.wf,fun g o ho hm=>(hR.gl g o ho hm).keep fun k hk=>nW k (by omega)⟩,⟨.refl M,by rw [World.putObj_size]; exact Nat.le_refl _,fun k hk tl=>nW k (fun e=>tl (.inr ⟨l,.inr (by rw [e]; exact hl)⟩)),fun _ h=>.inl h,rfl,rfl,rfl,Nat.le_refl _,fun _ _ h=>⟨h,rfl⟩,fun _ _ h=>h⟩⟩
  · have hb:=hR.aY g x o hx cW
    refine ⟨hb.esz,hb.opn,hb.len,fun hm=>nS (.refl M) (hb.cells hm) fun a u h _=>ta (nW _ (HA a u h)) h,fun hm=>?_,hb.ro⟩
    obtain ⟨ft,c,e,iw,pf⟩:=hb.own hm
    exact ⟨ft,c,e,by rw [nW _ (fun he=>by rw [he,ho] at iw; cases iw)]; exact iw,pf⟩
  · obtain ⟨k1,q',k2,k3,tn,k4,k5⟩:=hR.lp l' r' eg
    refine ⟨k1,q',?_,k3,tn,?_,k5⟩
    · rw [GS.wB,if_neg (fun e=>by rw [e,hR.iY l r hl] at eg; cases eg)]; exact k2
    · rw [nW _ (fun e=>by rw [e,ho] at k4; cases k4)]; exact k4
  · by_cases wC:l' =l
    · subst wC
      obtain rfl:r' =r:=by rw [hl] at eg; exact (Option.some.inj eg).symm
      exact ⟨HB,q,by rw [GS.wB,if_pos rfl],hB,hq,es',ck',Hz,hf⟩
    · obtain ⟨k1,q',k2,k3⟩:=hR.mp l' r' eg
      refine ⟨k1,q',by rw [GS.wB,if_neg wC]; exact k2,k3.keep (nW _ (fun e=>wC (hR.jA l' l r (by rw [← e]; exact eg) hl)))⟩
theorem VD {G G':GS} {w:World} {t:TypeId} {m k v m' k' v':Value} (hR:Rel G M w B) (h:wj P t m k v G=some G') (hm:V M m m') (hk:V M k k') (hv:V M v v') :
    ∃ w',(Instr.mapUpdate t m' k' v').run P w= .ok () w' ∧Rel G' M w' B∧cy G M w G' M w':=by
  unfold wj at h
  split at h
  · rename_i kt el l hu
    split at h
    · rename_i p hp
      split at h
      · rename_i qu
        simp only [Bool.and_eq_true] at qu
        split at h
        · rename_i VE VG
          simp only [Option.some.injEq] at h
          subst h
          obtain ⟨r,hr,rfl⟩:=AH.1 hm
          have he:=sX qu.1.1 hk
          have VH:=sX qu.1.2 hv
          subst he VH
          obtain ⟨_,p',dB,hB,_,es,ck,ho,hf⟩:=hR.mp l r hr
          obtain rfl:p' =p:=by rw [hp] at dB; exact (Option.some.inj dB).symm
          rename_i a _
          have hq:(p'.tmps++[k',v']).all plain=true:=by
            rw [List.all_append,qu.2]
            simp [qu.1.1,qu.1.2]
          have tl:uL (es.push ⟨k',v',ck⟩).toList=p'.tmps++[k',v']:=by
            rw [← hf]
            simp [uL]
          have hP:=hR.VC (q:={ p' with tmps:=p'.tmps++[k',v'] }) (es':=es.push ⟨k',v',ck⟩) (ck':=ck+1) hr hp ho hq tl
          refine ⟨_,?_,hP.1,hP.2⟩
          have h3:=GK P _ _ VE w
          have h4:=GK P _ _ VG w
          rw [← hf,Nq] at h4
          have hg:(getObj r).run P w= .ok (.map es ck) w:=by simp [getObj,Sem.run,ho]
          have hs:∀ o,(setObj r o).run P w= .ok () (w.putObj r o):=fun o=>by simp [setObj,Sem.run,ho,World.putObj]
          unfold Instr.mapUpdate
          simp only [Sem.run_bind,cD hu,Result.andThen_ok,hg,h3,h4,hs]
        · simp at h
      · simp at h
    · simp at h
  · simp at h
end Go.Proofs.YtkhlabammcghbaaGreat.Gh
