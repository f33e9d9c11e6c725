import Derived.Test.YtphandknhnkhfaaGreatGhI
namespace Go.Proofs.YtphandknhnkhfaaGreat.Gh
open Go
variable {P:Program} {M:Map}
def World.sU (w:World) (b:Nat) (c:Array Value) (e:TypeId):World:={ w with heap:=w.heap.setIfInBounds b (.cells c e (0,0)) }
theorem yf {w:World} {b r:Nat} {c:Array Value} {e:TypeId} (h:r≠b):(World.sU w b c e).heap[r]? =w.heap[r]?:=by
  simp [World.sU,Array.getElem?_setIfInBounds_ne (Ne.symm h)]
theorem Ge {w:World} {b:Nat} {c:Array Value} {e:TypeId} (h:b<w.heap.size):(World.sU w b c e).heap[b]? =some (.cells c e (0,0)):=by
  simp [World.sU,h]
theorem Rel.write {G:GS} {w:World} {B:Nat} (hR:Rel G M w B) {g:Nat} {x:jM} {o:aR} {c c':Array Value} {e:TypeId} {cs:List Value} {m:Nat}
    (hx:M.mu g=some x) (ho:G.obj g=some o) (hm:o.mode=1) (hc:w.heap[x.aZ]? =some (.cells c e (0,0))) (hs:c'.size=c.size) (hl:cs.length=o.cells.length) (mg:m=1∨m=2)
    (iH:m=1→∀ (i:Nat) (v:Value),cs[i]? =some v→∃ u,c'[x.off+i]? =some u∧V M v u) :
    Rel (G.put g { o with cells:=cs,mode:=m }) M (World.sU w x.aZ c' e) B∧cI G M w (G.put g { o with cells:=cs,mode:=m }) M (World.sU w x.aZ c' e):=by
  have aJ:x.aZ<w.heap.size:=(Array.getElem?_eq_some_iff.1 hc).1
  have dH:∀ h,h≠g→(G.put g { o with cells:=cs,mode:=m }).obj h=G.obj h:=fun h hh=>by rw [GS.aT,if_neg hh]
  have yg:(G.put g { o with cells:=cs,mode:=m }).obj g=some { o with cells:=cs,mode:=m }:=by rw [GS.aT,if_pos rfl]
  have LN:(World.sU w x.aZ c' e).heap.size=w.heap.size:=by simp [World.sU]
  have kE:=hR.aZ g x o hx ho
  have sV:=kE.own hm
  have Am:∀ h y p,h≠g→M.mu h=some y→G.obj h=some p→p.mode≠2→y.aZ≠x.aZ:=by
    intro h y p hh hy hp yh
    by_cases h1:p.mode=1
    · exact fun e=>hh (hR.apart h g y x p o hy hx hp ho h1 hm e)
    · have:=(hR.aZ h y p hy hp).ro h1 yh
      have:=sV.1
      omega
  refine ⟨⟨by rw [LN]; exact hR.size,fun h y p hy hp=>?_,?_,hR.nx,fun l r hl=>?_,hR.jO,fun l r hl=>by obtain ⟨h1,p,h2,h3⟩:=hR.mp l r hl; obtain ⟨es,ck,h4⟩:=h3.obj; exact ⟨h1,p,h2,h3.keep (yf fun he=>by rw [he,hc] at h4; cases h4)⟩,hR.jP,hR.jj,fun h hh=>by rw [dH h (fun e=>by have:=hR.wf h hh; rw [e,ho] at this; cases this)]; exact hR.wf h hh,fun h p hp h3=>by
    by_cases e:h=g
    · rw [e,yg] at hp; cases hp; rcases mg with rfl | rfl<;>simp at h3
    · rw [dH h e] at hp; exact (hR.gl h p hp h3).keep fun r hr=>yf (by have:=sV.1; omega)⟩,⟨.refl M,by rw [LN]; exact Nat.le_refl _,fun r hr hf=>?_,?_,rfl,rfl,rfl,Nat.le_refl _,fun h _ hn=>⟨hn,dH h (fun e=>by rw [e,hx] at hn; cases hn)⟩,fun h _ hn=>by rw [dH h (fun e=>by rw [e,ho] at hn; cases hn)]; exact hn⟩⟩
  · by_cases hh:h=g
    · subst hh
      obtain rfl:y=x:=by rw [hx] at hy; exact (Option.some.inj hy).symm
      rw [yg] at hp; obtain rfl:=Option.some.inj hp
      refine ⟨kE.esz,kE.opn,by rw [kE.len]; exact hl.symm,fun yh i v hv=>?_,fun _=>?_,fun h0=>?_⟩
      · have sW:m=1:=by rcases mg with h | h; exact h; exact absurd h yh
        obtain ⟨u,h1,h2⟩:=iH sW i v hv
        exact ⟨u,by simp only [World.cell?,Ge aJ]; simpa using h1,h2⟩
      · obtain ⟨hB,c0,e0,h1,h2⟩:=sV
        rw [hc] at h1
        simp only [Option.some.injEq,Obj.cells.injEq] at h1
        exact ⟨hB,c',e,Ge aJ,by rw [hs,h1.1]; exact h2⟩
      · exact fun h2=>by rcases mg with h | h; exact absurd h h0; exact absurd h h2
    · rw [dH h hh] at hp
      have hb:=hR.aZ h y p hy hp
      refine ⟨hb.esz,hb.opn,hb.len,fun yh=>?_,fun h1=>?_,hb.ro⟩
      · exact nW (.refl M) (hb.cells yh) fun a u Ul pd=>sT (by rw [pd]; exact yf (Am h y p hh hy hp yh)) Ul
      · obtain ⟨hB,c0,e0,h3,h4⟩:=hb.own h1
        exact ⟨hB,c0,e0,by rw [yf (Am h y p hh hy hp (by omega))]; exact h3,h4⟩
  · intro h h' y y' p p' hy sX hp eG h1 eN he
    have conv:∀ k q,(G.put g { o with cells:=cs,mode:=m }).obj k=some q→q.mode=1→∃ q0,G.obj k=some q0∧q0.mode=1:=by
      intro k q hq sY
      by_cases hk:k=g
      · subst hk; exact ⟨o,ho,hm⟩
      · rw [dH k hk] at hq; exact ⟨q,hq,sY⟩
    obtain ⟨q0,h3,h4⟩:=conv h p hp h1
    obtain ⟨q1,h5,h6⟩:=conv h' p' eG eN
    exact hR.apart h h' y y' q0 q1 hy sX h3 h5 h4 h6 he
  · obtain ⟨h1,p,h2,h3,lo,h4,h5⟩:=hR.lp l r hl
    refine ⟨h1,p,h2,h3,lo,?_,h5⟩
    have az:r≠x.aZ:=fun he=>by rw [he,hc] at h4; cases h4
    rw [yf az]; exact h4
  · exact yf fun he=>hf (.inl ⟨g,x,o,hx,ho,hm,he.symm⟩)
  · rintro r (⟨h,y,p,hy,hp,h1,rfl⟩ | ⟨l,hl⟩)
    · by_cases hh:h=g
      · subst hh
        obtain rfl:y=x:=by rw [hx] at hy; exact (Option.some.inj hy).symm
        exact .inl (.inl ⟨h,y,o,hx,ho,hm,rfl⟩)
      · rw [dH h hh] at hp
        exact .inl (.inl ⟨h,y,p,hy,hp,h1,rfl⟩)
    · exact .inl (.inr ⟨l,hl⟩)
end Go.Proofs.YtphandknhnkhfaaGreat.Gh
namespace Go.Proofs.YtphandknhnkhfaaGreat.Gh
open Go
variable {P:Program} {M:Map}
theorem An {w:World} {b k:Nat} {c:Array Value} {e:TypeId} {f:Nat×Nat} (h:w.heap[b]? =some (.cells c e f)):w.cell? ⟨b,k,none⟩=c[k]?:=by
  simp [World.cell?,h]
theorem Gf {G G':GS} {w:World} {B g off:Nat} {x:jM} {vs us:List Value} (hR:Rel G M w B) (hx:M.mu g=some x) (h:lY G g off vs=some G') (hv:Vs M vs us) :
    ∃ w',(storeCells ⟨x.aZ,x.off+off,none⟩ us).run P w= .ok () w' ∧Rel G' M w' B∧cI G M w G' M w':=by
  unfold lY at h
  split at h
  · rename_i o ho
    split at h
    · rename_i hm
      simp only [Bool.and_eq_true,decide_eq_true_eq] at hm
      split at h
      · rename_i cs iH
        simp only [Option.some.injEq] at h
        obtain ⟨h1,h2,h3⟩:=Ac iH
        have hb:=hR.aZ g x o hx ho
        obtain ⟨hB,c0,e,jT,cQ⟩:=hb.own hm.1
        have hlen:=iQ hv
        have CS:=hb.len
        have Gg:us.all one=true:=by
          refine List.all_eq_true.2 fun u hu=>?_
          obtain ⟨i,hi,rfl⟩:=List.getElem_of_mem hu
          have LO:i<vs.length:=by omega
          obtain ⟨y,hy,hV⟩:=(iR.1 hv).2 i vs[i] (by simp [LO])
          simp only [List.getElem?_eq_getElem hi,Option.some.injEq] at hy
          rw [hy,← Lh hV]
          exact List.all_eq_true.1 hm.2 _ (List.getElem_mem LO)
        have et:=F4 (P:=P) (off:=x.off+off) us 0 w c0 jT (by omega) Gg
        have hw:=hR.write (c':=nY c0 (x.off+off+0) us) (m:=1) hx ho hm.1 jT (Al _ _ _) h1 (.inl rfl) (by
          intro _ i v fR
          rw [h3 i] at fR
          rw [CR us c0 _ _ (by omega)]
          by_cases mT:off≤i∧i<off+vs.length
          · rw [if_pos mT] at fR
            rw [if_pos (by omega)]
            obtain ⟨u,hu,hV⟩:=(iR.1 hv).2 _ v fR
            exact ⟨u,by rw [← hu]; congr 1; omega,hV⟩
          · rw [if_neg mT] at fR
            rw [if_neg (by omega)]
            obtain ⟨u,hu,hV⟩:=hb.cells (by rw [hm.1]; omega) i v fR
            rw [An jT] at hu
            exact ⟨u,hu,hV⟩)
        have hG:G.put g { o with cells:=cs,mode:=1 }=G':=by
          rw [← h]; obtain ⟨a,b,c,d⟩:=o; simp only at hm; rw [hm.1]
        rw [hG] at hw
        exact ⟨_,et,hw.1,hw.2⟩
      · simp at h
    · simp at h
  · simp at h
theorem Um {G G':GS} {w:World} {B:Nat} {t:TypeId} {p q v u:Value} (hR:Rel G M w B) (hp:V M p q) (hv:V M v u) (h:nQ P t p v G=some G') :
    ∃ w',(Instr.storeAt t q u).run P w= .ok () w' ∧Rel G' M w' B∧cI G M w G' M w':=by
  unfold nQ at h
  split at h
  · rename_i a s hs
    split at h
    · rename_i cQ
      obtain ⟨x,hx,rfl⟩:=mc.1 hp
      have hc:=FI hv
      obtain ⟨w',h1,h2,h3⟩:=Gf (P:=P) hR hx h hc
      refine ⟨w',?_,h2,h3⟩
      have ic:u.cells.size=s:=by rw [← cQ]; have:=iQ hc; simpa using this.symm
      have az:¬ (u.cells.size≠s):=fun h=>h ic
      simp only [Instr.storeAt,Instr.sureAddr,storeVar,Sem.run_bind,Sem.run_pure,Result.andThen_ok,ia hs,if_neg az,h1]
    · simp at h
  · simp at h
theorem Gi {G:GS} {w:World} {B s n len cap:Nat} {a:Option Addr} {u:Value} {l:List Value} (hR:Rel G M w B) (h:elems s n (.slice a len cap) G=some l) (hn:n≤len) (hv:V M (.slice a len cap) u) :
    ∃ us,(∀ w2:World,w2.heap=w.heap→(Builtin.firstCells s n u).run P w2= .ok ⟨us⟩ w2)∧Vs M l us∧us.length=n*s:=by
  unfold elems at h
  cases a with
  | none =>
    simp only [Option.some.injEq] at h; subst h
    obtain ⟨rfl,_,rfl⟩:=jN.1 hv
    obtain rfl:n=0:=by omega
    exact ⟨[],fun _ _=>rfl,trivial,by simp⟩
  | some a =>
    simp only at h
    obtain ⟨x,b,cr,hx,rfl,o9,gm,hb⟩:=gN.1 hv
    by_cases h0:n*s=0
    · rw [h0] at h
      have hl:l=[]:=by
        unfold fE at h
        split at h
        · split at h
          · simp at h
          · simp only [Ct,Option.some.injEq] at h; exact h.symm
        · simp at h
      subst hl
      exact ⟨[],fun _ _=>by simp only [Builtin.firstCells,h0,loadCells,loadCellsFrom,Sem.run_pure],trivial,by simp [h0]⟩
    · have iU:n≠0:=fun e=>h0 (by rw [e]; simp)
      have mf:cr≠0:=by rcases gm with h | h<;>omega
      obtain rfl:=hb mf
      obtain ⟨us,h1,h2,h3⟩:=yb hR hx h
      refine ⟨us,fun w2 Gj=>?_,h1,h2⟩
      have rA:∀ (j:Nat) (u:Value),us[j]? =some u→w2.cell? ⟨x.aZ,x.off+a.off+j,none⟩=some u:=fun j u hu=>by
        have:=h3 j u hu
        simp only [World.cell?,Gj] at this ⊢
        exact this
      have:=Lu (P:=P) rA
      rw [h2] at this
      simp only [Builtin.firstCells,this]
theorem Uo {s:Nat} {x:Value} {G:GS} {l:List Value} (h:elems s 0 x G=some l):l=[]:=by
  unfold elems at h
  split at h
  · rw [Nat.zero_mul] at h
    unfold fE at h
    split at h
    · split at h
      · simp at h
      · simp only [Ct,Option.some.injEq] at h; exact h.symm
    · simp at h
  · simp only [Option.some.injEq] at h; exact h.symm
  · simp at h
theorem Up {G G':GS} {w:World} {B:Nat} {td ty:TypeId} {d d' s s' r:Value} {ts:Array TypeId} {as:Array Value} (hR:Rel G M w B) (hd:V M d d') (hs:V M s s') (h:qf P td d s G=some (r,G'))
    (ht:ts[0]? =some td) (mh:as[0]? =some d') (mj:as[1]? =some s') :
    ∃ r' w',V M r r' ∧(Builtin.copy_ ts ty as).run P w= .ok r' w' ∧Rel G' M w' B∧cI G M w G' M w':=by
  unfold qf at h
  split at h
  · rename_i e hu
    split at h
    · rename_i z base dl dc sb sl sc hz
      split at h
      · rename_i new pa
        obtain ⟨us,Gk,nU,_⟩:=Gi (P:=P) hR pa (Nat.min_le_left _ _) hs
        have ic:=Gk w rfl
        obtain ⟨LP,b',rfl⟩:∃ LP b',s' = .slice b' sl LP:=by
          cases sb with
          | none=>obtain ⟨rfl,rfl,rfl⟩:=jN.1 hs; exact ⟨0,none,rfl⟩
          | some sb=>obtain ⟨x,b,cr,hx,rfl,_⟩:=gN.1 hs; exact ⟨cr,some b,rfl⟩
        split at h
        · simp only [Option.some.injEq,Prod.mk.injEq] at h
          obtain ⟨rfl,rfl⟩:=h
          obtain ⟨rfl,rfl,rfl⟩:=jN.1 hd
          exact ⟨_,w,eM.2 rfl,by simp only [Builtin.copy_,ht,mh,mj,Sem.run_bind,cM hu,Result.andThen_ok,Builtin.lenOf,Sem.run_pure,ia hz,ic,goInt],hR,.refl _ _ _⟩
        · rename_i a
          obtain ⟨x,b,cr,hx,rfl,o9,gm,hb⟩:=gN.1 hd
          split at h
          · rename_i sZ
            simp only [Option.some.injEq,Prod.mk.injEq] at h
            obtain ⟨rfl,rfl⟩:=h
            subst sZ
            obtain rfl:us=[]:=by cases us with | nil=>rfl | cons _ _=>exact nU.elim
            exact ⟨_,w,eM.2 rfl,by simp only [Builtin.copy_,ht,mh,mj,Sem.run_bind,cM hu,Result.andThen_ok,Builtin.lenOf,Sem.run_pure,ia hz,ic,storeCells,goInt],hR,.refl _ _ _⟩
          · rename_i sZ
            split at h
            · rename_i G2 hw
              simp only [Option.some.injEq,Prod.mk.injEq] at h
              obtain ⟨rfl,rfl⟩:=h
              have hdl:dl≠0:=by
                intro e
                apply sZ
                subst e
                have mg:Nat.min sl 0=0:=Nat.min_eq_right (Nat.zero_le sl)
                rw [mg] at pa
                exact Uo pa
              have mf:cr≠0:=by rcases gm with h | h<;>omega
              obtain rfl:=hb mf
              obtain ⟨w',h1,h2,h3⟩:=Gf (P:=P) hR hx hw nU
              refine ⟨_,w',eM.2 rfl,?_,h2,h3⟩
              simp only [Builtin.copy_,ht,mh,mj,Sem.run_bind,cM hu,Result.andThen_ok,Builtin.lenOf,Sem.run_pure,ia hz,ic,h1,goInt]
            · simp at h
      · simp at h
    · simp at h
  · simp at h
end Go.Proofs.YtphandknhnkhfaaGreat.Gh
namespace Go.Proofs.YtphandknhnkhfaaGreat.Gh
open Go
variable {P:Program} {M:Map} {B:Nat}
theorem heap_alloc_old {w:World} {o:Obj} {r:Nat} (h:r<w.heap.size):(w.alloc o).heap[r]? =w.heap[r]?:=Go.RowKit.Below.heap_alloc w o r h
theorem Rel.other {G:GS} {w:World} (hR:Rel G M w B) (o:Obj):Rel G M (w.alloc o) B∧cI G M w G M (w.alloc o):=by
  have jk:∀ a u,w.cell? a=some u→(w.alloc o).cell? a=some u:=fun a u h=>sT (heap_alloc_old (World.block_lt_of_cell? w a h)) h
  refine ⟨⟨Nat.le_trans hR.size (by simp),fun g x p hx hp=>?_,hR.apart,hR.nx,fun l r hl=>?_,hR.jO,fun l r hl=>let ⟨h1,p,h2,h3⟩:=hR.mp l r hl; ⟨h1,p,h2,h3.keep (heap_alloc_old h3.lt)⟩,hR.jP,hR.jj,hR.wf,fun g o ho hm=>(hR.gl g o ho hm).keep fun r hr=>heap_alloc_old (Nat.lt_of_lt_of_le hr hR.size)⟩,⟨.refl M,by simp,fun r hr _=>heap_alloc_old hr,fun _ h=>.inl h,rfl,rfl,rfl,Nat.le_refl _,fun _ _ h=>⟨h,rfl⟩,fun _ _ h=>h⟩⟩
  · have hb:=hR.aZ g x p hx hp
    refine ⟨hb.esz,hb.opn,hb.len,fun hm=>nW (.refl M) (hb.cells hm) fun a u h _=>jk a u h,fun hm=>?_,hb.ro⟩
    obtain ⟨h1,c,e,h2,h3⟩:=hb.own hm
    exact ⟨h1,c,e,by rw [heap_alloc_old (Array.getElem?_eq_some_iff.1 h2).1]; exact h2,h3⟩
  · obtain ⟨h1,p,h2,h3,lo,h4,h5⟩:=hR.lp l r hl
    exact ⟨h1,p,h2,h3,lo,by rw [heap_alloc_old (Array.getElem?_eq_some_iff.1 h4).1]; exact h4,h5⟩
theorem GS.vZ (G:GS) (p:Lp) (l:Nat):(G.fD p).loop l=if l=G.nl then some p else G.loop l:=sJ _ _ _ _
theorem GS.wa (G:GS) (p:Lp) (l k:Nat):(G.cC l p).loop k=if k=l then some p else G.loop k:=sJ _ _ _ _
def Map.Ao (M:Map) (l r:Nat):Map:=⟨M.mu,M.lp,fun k=>if k=l then some r else M.mp k⟩
theorem Gl:∀ (es:List MapEntry),uA (uz es)=es.map fun e=>⟨e.key,e.val,0⟩
  | []=>rfl
  | e::es=>by
    show uA (e.key::e.val::uz es)=_
    rw [uA,Gl es]; rfl
theorem LQ (kind:TypeDesc) (k:Value):∀ (es:List MapEntry) (i:Nat),Instr.findNow kind k (es.map fun e=>⟨e.key,e.val,0⟩) i=Instr.findNow kind k es i
  | [],_=>rfl
  | e::es,i=>by
    simp only [List.map_cons,Instr.findNow,LQ kind k es (i+1)]
theorem LR (kt:TypeId) (k:Value):∀ (es:List MapEntry) (i:Nat),Instr.findAsking kt k (es.map fun e=>⟨e.key,e.val,0⟩) i=Instr.findAsking kt k es i
  | [],_=>rfl
  | e::es,i=>by
    simp only [List.map_cons,Instr.findAsking,LR kt k es (i+1)]
theorem LS (kt:TypeId) (k:Value) (es:List MapEntry):Instr.findKey kt k (uA (uz es))=Instr.findKey kt k es:=by
  rw [Gl]
  unfold Instr.findKey
  simp only [LQ,LR]
theorem Uq (es:List MapEntry):(uA (uz es)).isEmpty=es.isEmpty:=by
  rw [Gl]; cases es<;>rfl
theorem Ur {G:GS} {w:World} {t:TypeId} {x k x' k' v:Value} {ok:Bool} (hR:Rel G M w B) (h:vR P t x k ok G=some v) (hx:V M x x') (hk:V M k k') :
    V M v v∧(Instr.lookup t x' k' ok).run P w= .ok v w:=by
  unfold vR at h
  split at h
  · rename_i kt el l hu
    split at h
    · rename_i p hp
      split at h
      · rename_i nS
        simp only [Bool.and_eq_true] at nS
        obtain ⟨r,hr,rfl⟩:=Ad.1 hx
        have he:=sN nS.1 hk
        subst he
        obtain ⟨_,p',eG,hB,_,es,ck,ho,hf⟩:=hR.mp l r hr
        obtain rfl:p' =p:=by rw [hp] at eG; exact (Option.some.inj eG).symm
        obtain ⟨h1,h2⟩:=vW (M:=M) h
        refine ⟨h1,?_⟩
        have h3:=h2 w
        unfold Lb at h3
        rw [← hf,Uq,LS] at h3
        have hg:(getObj r).run P w= .ok (.map es ck) w:=by simp [getObj,Sem.run,ho]
        have Us:es.isEmpty=es.toList.isEmpty:=by simp
        unfold Instr.lookup
        simp only [Sem.run_bind,cM hu,Result.andThen_ok,hg,Sem.run_pure,Us] at h3 ⊢
        exact h3
      · simp at h
    · simp at h
  · simp at h
theorem Rel.Ut {G:GS} {w:World} (hR:Rel G M w B) :
    Rel (G.fD ⟨.done,none,[],[],.skip,.skip⟩) (M.Ao G.nl w.heap.size) (w.alloc (.map #[] 0)) B∧cI G M w (G.fD ⟨.done,none,[],[],.skip,.skip⟩) (M.Ao G.nl w.heap.size) (w.alloc (.map #[] 0))∧(M.Ao G.nl w.heap.size).mp G.nl=some w.heap.size:=by
  have mW:M.mp G.nl=none:=by
    cases hm:M.mp G.nl with
    | none=>rfl
    | some x=>exact absurd (hR.mp _ _ hm).1 (Nat.lt_irrefl _)
  have Uu:M.lp G.nl=none:=by
    cases hm:M.lp G.nl with
    | none=>rfl
    | some x=>exact absurd (hR.lp _ _ hm).1 (Nat.lt_irrefl _)
  have hM:M.Le (M.Ao G.nl w.heap.size):=⟨fun _ _ h=>h,fun _ _ h=>h,fun l r h=>by
    show (if l=G.nl then some w.heap.size else M.mp l)=some r
    rw [if_neg (fun e=>by rw [e,mW] at h; cases h)]; exact h⟩
  obtain ⟨hO,hE⟩:=hR.other (.map #[] 0)
  have Ap:∀ l r,(M.Ao G.nl w.heap.size).mp l=some r→(l=G.nl∧r=w.heap.size)∨(l≠G.nl∧M.mp l=some r):=by
    intro l r hl
    change (if l=G.nl then some w.heap.size else M.mp l)=some r at hl
    split at hl
    · rename_i he; exact .inl ⟨he,(Option.some.inj hl).symm⟩
    · rename_i he; exact .inr ⟨he,hl⟩
  have aJ:∀ l r,M.mp l=some r→r<w.heap.size:=fun l r hl=>by
    obtain ⟨_,q,_,h3⟩:=hR.mp l r hl
    exact h3.lt
  refine ⟨⟨hO.size,fun g x o hx ho=>?_,hO.apart,hO.nx,fun l r hl=>?_,hO.jO,fun l r hl=>?_,?_,fun l r hl=>?_,hO.wf,hO.gl⟩,⟨hM,hE.size,hE.keep,?_,rfl,rfl,rfl,Nat.le_refl _,fun _ _ h=>⟨h,rfl⟩,fun _ _ h=>h⟩,by show (if G.nl=G.nl then _ else _)=_; rw [if_pos rfl]⟩
  · have hb:=hO.aZ g x o hx ho
    exact ⟨hb.esz,hb.opn,hb.len,fun hm=>nW hM (hb.cells hm) fun _ _ h _=>h,hb.own,hb.ro⟩
  · obtain ⟨k1,q,k2,k3,lo',k4,k5,k6,k7,k8⟩:=hO.lp l r hl
    exact ⟨Nat.lt_succ_of_lt k1,q,by rw [GS.vZ,if_neg (by omega)]; exact k2,k3,lo',k4,k5,k6,k7.mono hM,k8⟩
  · rcases Ap l r hl with ⟨rfl,rfl⟩ | ⟨az,hl⟩
    · exact ⟨Nat.lt_succ_self _,_,by rw [GS.vZ,if_pos rfl],hR.size,rfl,#[],0,World.alloc_heap_new w _,rfl⟩
    · obtain ⟨k1,q,k2,k3⟩:=hO.mp l r hl
      exact ⟨Nat.lt_succ_of_lt k1,q,by rw [GS.vZ,if_neg az]; exact k2,k3⟩
  · intro l l' r hl dp
    rcases Ap l r hl with ⟨e1,e2⟩ | ⟨az,k1⟩<;>rcases Ap l' r dp with ⟨e3,e4⟩ | ⟨wc,k2⟩
    · rw [e1,e3]
    · have:=aJ _ _ k2; omega
    · have:=aJ _ _ k1; omega
    · exact hR.jP l l' r k1 k2
  · rcases Ap l r hl with ⟨rfl,rfl⟩ | ⟨az,hl⟩
    · exact Uu
    · exact hR.jj l r hl
  · rintro r (⟨g,x,o,hx,ho,hm,rfl⟩ | ⟨l,hl | hl⟩)
    · exact .inl (.inl ⟨g,x,o,hx,ho,hm,rfl⟩)
    · exact .inl (.inr ⟨l,.inl hl⟩)
    · rcases Ap l r hl with ⟨rfl,rfl⟩ | ⟨az,hl⟩
      · exact .inr (Nat.le_refl _)
      · exact .inl (.inr ⟨l,.inr hl⟩)
theorem Rel.Uv {G:GS} {w:World} (hR:Rel G M w B) {l r:Nat} {p q:Lp} {es es':Array MapEntry} {ck ck':Nat} (hl:M.mp l=some r) (hp:G.loop l=some p) (ho:w.heap[r]? =some (.map es ck))
    (hq:q.tmps.all plain=true) (hf:uz es'.toList=q.tmps) :
    Rel (G.cC l q) M (w.putObj r (.map es' ck')) B∧cI G M w (G.cC l q) M (w.putObj r (.map es' ck')):=by
  have aJ:=(Array.getElem?_eq_some_iff.1 ho).1
  have nZ:∀ k,k≠r→(w.putObj r (.map es' ck')).heap[k]? =w.heap[k]?:=fun k hk=>World.putObj_heap_other hk
  have CT:(w.putObj r (.map es' ck')).heap[r]? =some (.map es' ck'):=World.putObj_heap_same aJ
  have Gn:∀ a u,w.cell? a=some u→a.block≠r:=by
    rintro a u h rfl
    simp [World.cell?,ho] at h
  obtain ⟨Gp,p',eG,hB,_⟩:=hR.mp l r hl
  refine ⟨⟨by rw [World.putObj_size]; exact hR.size,fun g x o hx da=>?_,hR.apart,hR.nx,fun l' r' dp=>?_,hR.jO,fun l' r' dp=>?_,hR.jP,hR.jj,hR.wf,fun g o ho hm=>(hR.gl g o ho hm).keep fun k hk=>nZ k (by omega)⟩,⟨.refl M,by rw [World.putObj_size]; exact Nat.le_refl _,fun k hk ta=>nZ k (fun e=>ta (.inr ⟨l,.inr (by rw [e]; exact hl)⟩)),fun _ h=>.inl h,rfl,rfl,rfl,Nat.le_refl _,fun _ _ h=>⟨h,rfl⟩,fun _ _ h=>h⟩⟩
  · have hb:=hR.aZ g x o hx da
    refine ⟨hb.esz,hb.opn,hb.len,fun hm=>nW (.refl M) (hb.cells hm) fun a u h _=>sT (nZ _ (Gn a u h)) h,fun hm=>?_,hb.ro⟩
    obtain ⟨eN,c,e,iS,rA⟩:=hb.own hm
    exact ⟨eN,c,e,by rw [nZ _ (fun he=>by rw [he,ho] at iS; cases iS)]; exact iS,rA⟩
  · obtain ⟨k1,q',k2,k3,tf,k4,k5⟩:=hR.lp l' r' dp
    refine ⟨k1,q',?_,k3,tf,?_,k5⟩
    · rw [GS.wa,if_neg (fun e=>by rw [e,hR.jj l r hl] at dp; cases dp)]; exact k2
    · rw [nZ _ (fun e=>by rw [e,ho] at k4; cases k4)]; exact k4
  · by_cases mX:l' =l
    · subst mX
      obtain rfl:r' =r:=by rw [hl] at dp; exact (Option.some.inj dp).symm
      exact ⟨Gp,q,by rw [GS.wa,if_pos rfl],hB,hq,es',ck',CT,hf⟩
    · obtain ⟨k1,q',k2,k3⟩:=hR.mp l' r' dp
      refine ⟨k1,q',by rw [GS.wa,if_neg mX]; exact k2,k3.keep (nZ _ (fun e=>mX (hR.jP l' l r (by rw [← e]; exact dp) hl)))⟩
theorem Uw {G G':GS} {w:World} {t:TypeId} {m k v m' k' v':Value} (hR:Rel G M w B) (h:vS P t m k v G=some G') (hm:V M m m') (hk:V M k k') (hv:V M v v') :
    ∃ w',(Instr.mapUpdate t m' k' v').run P w= .ok () w' ∧Rel G' M w' B∧cI G M w G' M w':=by
  unfold vS at h
  split at h
  · rename_i kt el l hu
    split at h
    · rename_i p hp
      split at h
      · rename_i nS
        simp only [Bool.and_eq_true] at nS
        split at h
        · rename_i Ux Uy
          simp only [Option.some.injEq] at h
          subst h
          obtain ⟨r,hr,rfl⟩:=Ad.1 hm
          have he:=sN nS.1.1 hk
          have Uz:=sN nS.1.2 hv
          subst he Uz
          obtain ⟨_,p',eG,hB,_,es,ck,ho,hf⟩:=hR.mp l r hr
          obtain rfl:p' =p:=by rw [hp] at eG; exact (Option.some.inj eG).symm
          rename_i a _
          have hq:(p'.tmps++[k',v']).all plain=true:=by
            rw [List.all_append,nS.2]
            simp [nS.1.1,nS.1.2]
          have ta:uz (es.push ⟨k',v',ck⟩).toList=p'.tmps++[k',v']:=by
            rw [← hf]
            simp [uz]
          have hP:=hR.Uv (q:={ p' with tmps:=p'.tmps++[k',v'] }) (es':=es.push ⟨k',v',ck⟩) (ck':=ck+1) hr hp ho hq ta
          refine ⟨_,?_,hP.1,hP.2⟩
          have h3:=Fw P _ _ Ux w
          have h4:=Fw P _ _ Uy w
          rw [← hf,LS] at h4
          have hg:(getObj r).run P w= .ok (.map es ck) w:=by simp [getObj,Sem.run,ho]
          have hs:∀ o,(setObj r o).run P w= .ok () (w.putObj r o):=fun o=>by simp [setObj,Sem.run,ho,World.putObj]
          unfold Instr.mapUpdate
          simp only [Sem.run_bind,cM hu,Result.andThen_ok,hg,h3,h4,hs]
        · simp at h
      · simp at h
    · simp at h
  · simp at h
end Go.Proofs.YtphandknhnkhfaaGreat.Gh
