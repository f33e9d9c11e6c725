import Derived.Test.YtlaojmcekeohnaaGreatDoorGhMA
namespace Go.Proofs.YtlaojmcekeohnaaGreatDoor.Gh
open Go
variable {P:Program} {M:Map}
theorem growBy_le (n:Nat):∀ (r c:Nat),Builtin.growBy n r c≤max c (n+(n+768) / 4)
  | 0,c=>by simp only [Builtin.growBy]; omega
  | r+1,c=>by
    simp only [Builtin.growBy]
    split
    · omega
    · have:=growBy_le n r (c+(c+768) / 4); omega
theorem nextcap_le {n c:Nat} (h:c<n):Builtin.nextslicecap n c≤2*n+1000:=by
  unfold Builtin.nextslicecap
  split
  · omega
  · split
    · omega
    · have:=growBy_le n 4 c; omega
theorem zeroCells_size (z:Array Value) (k:Nat):(Builtin.zeroCells z k).size=k*z.size:=by simp [Builtin.zeroCells]
theorem Rel.kill {G:GS} {w:World} {B:Nat} (hR:Rel G M w B) {g:Nat} {o:GObj} (ho:G.obj g=some o) (hmap:M.mu g≠none) :
    Rel (G.put g { o with mode:=2 }) M w B∧Evo G M w (G.put g { o with mode:=2 }) M w∧∀ x,M.mu g=some x→o.mode=1→∀ h y p,M.mu h=some y→(G.put g { o with mode:=2 }).obj h=some p→p.mode=1→y.blk≠x.blk:=by
  have hobj:∀ h,h≠g→(G.put g { o with mode:=2 }).obj h=G.obj h:=fun h hh=>by rw [GS.obj_put,if_neg hh]
  have hobjs:(G.put g { o with mode:=2 }).obj g=some { o with mode:=2 }:=by rw [GS.obj_put,if_pos rfl]
  have conv:∀ h p,(G.put g { o with mode:=2 }).obj h=some p→p.mode=1→h≠g∧G.obj h=some p:=by
    intro h p hp h1
    by_cases hh:h=g
    · subst hh; rw [hobjs] at hp; obtain rfl:=Option.some.inj hp; simp at h1
    · rw [hobj h hh] at hp; exact ⟨hh,hp⟩
  refine ⟨⟨hR.size,fun h y p hy hp=> ?_,?_,hR.nx,hR.lp,hR.lpinj,hR.mp,hR.mpinj,hR.mplp,fun h hh=>by rw [hobj h (fun e=>by have:=hR.wf h hh; rw [e,ho] at this; cases this)]; exact hR.wf h hh,fun h p hp h3=>by
    by_cases e:h=g
    · rw [e,hobjs] at hp; cases hp; simp at h3
    · rw [hobj h e] at hp; exact hR.gl h p hp h3⟩,⟨.refl M,Nat.le_refl _,fun _ _ _=>rfl,?_,rfl,rfl,rfl,Nat.le_refl _,fun h _ hn=>⟨hn,hobj h (fun e=>hmap (by rw [← e]; exact hn))⟩,fun h _ hn=>by rw [hobj h (fun e=>by rw [e,ho] at hn; cases hn)]; exact hn⟩,?_⟩
  · by_cases hh:h=g
    · subst hh
      have hb:=hR.blk h y o hy ho
      rw [hobjs] at hp; obtain rfl:=Option.some.inj hp
      exact ⟨hb.esz,hb.opn,hb.len,fun h=>absurd rfl h,fun h=>by simp at h,fun _ h=>absurd rfl h⟩
    · rw [hobj h hh] at hp; exact hR.blk h y p hy hp
  · intro h h' y y' p p' hy hy' hp hp' h1 h1' he
    exact hR.apart h h' y y' p p' hy hy' (conv h p hp h1).2 (conv h' p' hp' h1').2 h1 h1' he
  · rintro r (⟨h,y,p,hy,hp,h1,rfl⟩ | ⟨l,hl⟩)
    · exact .inl (.inl ⟨h,y,p,hy,(conv h p hp h1).2,h1,rfl⟩)
    · exact .inl (.inr ⟨l,hl⟩)
  · intro x hx hm h y p hy hp h1 he
    obtain ⟨hh,hp'⟩:=conv h p hp h1
    exact hh (hR.apart h g y x p o hy hx hp' ho h1 hm he)
theorem Rel.adopt {G:GS} {w:World} {B:Nat} (hR:Rel G M w B) {x:Blk} {cells:List Value} {c:Array Value} {e:TypeId}
    (hB:B≤x.blk) (hc:w.heap[x.blk]? =some (.cells c e (0,0))) (hl:x.len=cells.length) (hs:x.off+x.len+x.ex*x.esz≤c.size)
    (hcs:∀ (i:Nat) (v:Value),cells[i]? =some v→∃ u,c[x.off+i]? =some u∧V M v u)
    (hsep:∀ h y p,M.mu h=some y→G.obj h=some p→p.mode=1→y.blk≠x.blk) :
    Rel (G.push ⟨cells,x.esz,x.opn,1⟩) (M.ext G.nx x) w B∧M.Le (M.ext G.nx x)∧∀ r,foot (G.push ⟨cells,x.esz,x.opn,1⟩) (M.ext G.nx x) r→foot G M r∨r=x.blk:=by
  have hnone:M.mu G.nx=none:=by
    cases hm:M.mu G.nx with
    | none=>rfl
    | some x=>exact absurd (hR.nx _ _ hm) (Nat.lt_irrefl _)
  have hM:M.Le (M.ext G.nx x):=Map.le_ext hnone
  have hmu:∀ g y,(M.ext G.nx x).mu g=some y→(g=G.nx∧y=x)∨(g≠G.nx∧M.mu g=some y):=by
    intro g y hy
    rw [Map.ext_mu] at hy
    split at hy
    · rename_i he; exact .inl ⟨he,(Option.some.inj hy).symm⟩
    · rename_i he; exact .inr ⟨he,hy⟩
  have hobj:∀ g,g≠G.nx→(G.push ⟨cells,x.esz,x.opn,1⟩).obj g=G.obj g:=fun g hg=>by rw [GS.obj_push,if_neg hg]
  have hobjn:(G.push ⟨cells,x.esz,x.opn,1⟩).obj G.nx=some ⟨cells,x.esz,x.opn,1⟩:=by rw [GS.obj_push,if_pos rfl]
  refine ⟨⟨hR.size,fun g y o hy ho=> ?_,?_,?_,?_,hR.lpinj,hR.mp,hR.mpinj,hR.mplp,fun g hg=>by have hg' :G.nx+1≤g:=hg; rw [hobj g (by omega)]; exact hR.wf g (by omega),fun g o ho hm=>by
    by_cases e:g=G.nx
    · rw [e,hobjn] at ho; cases ho; simp at hm
    · rw [hobj g e] at ho
      exact hR.gl g o ho hm⟩,hM,?_⟩
  · rcases hmu g y hy with ⟨rfl,rfl⟩ | ⟨hg,hy⟩
    · rw [hobjn] at ho; obtain rfl:=Option.some.inj ho
      refine ⟨rfl,rfl,hl,fun _ i v hv=> ?_,fun _=>⟨hB,c,e,hc,hs⟩,fun h=>absurd rfl h⟩
      obtain ⟨u,h1,h2⟩:=hcs i v hv
      exact ⟨u,by rw [cell_of_heap hc]; exact h1,h2.mono hM⟩
    · rw [hobj g hg] at ho
      have hb:=hR.blk g y o hy ho
      exact ⟨hb.esz,hb.opn,hb.len,fun hm=>cells_mono hM (hb.cells hm) fun _ _ h _=>h,hb.own,hb.ro⟩
  · intro g g' y y' o o' hy hy' ho ho' hm hm' he
    rcases hmu g y hy with ⟨e1,e2⟩ | ⟨hg,hy1⟩<;>rcases hmu g' y' hy' with ⟨e3,e4⟩ | ⟨hg',hy2⟩
    · rw [e1,e3]
    · rw [hobj g' hg'] at ho'; rw [e2] at he; exact absurd he.symm (hsep g' y' o' hy2 ho' hm')
    · rw [hobj g hg] at ho; rw [e4] at he; exact absurd he (hsep g y o hy1 ho hm)
    · rw [hobj g hg] at ho
      rw [hobj g' hg'] at ho'
      exact hR.apart g g' y y' o o' hy1 hy2 ho ho' hm hm' he
  · intro g y hy
    show g<G.nx+1
    rcases hmu g y hy with ⟨rfl,rfl⟩ | ⟨hg,hy⟩
    · omega
    · have:=hR.nx g y hy; omega
  · intro l r hl
    obtain ⟨h1,p,h2,h3,lo,h4,h5,h6,h7,h8⟩:=hR.lp l r hl
    exact ⟨h1,p,h2,h3,lo,h4,h5,h6,h7.mono hM,h8⟩
  · rintro r (⟨g,y,o,hy,ho,hm,rfl⟩ | ⟨l,hl⟩)
    · rcases hmu g y hy with ⟨rfl,rfl⟩ | ⟨hg,hy⟩
      · exact .inr rfl
      · rw [hobj g hg] at ho
        exact .inl (.inl ⟨g,y,o,hy,ho,hm,rfl⟩)
    · exact .inl (.inr ⟨l,hl⟩)
theorem run_append_fits {ts:Array TypeId} {as:Array Value} {t tx e e' ty:TypeId} {i:TypeInfo} {base b:Option Addr} {len cr n crx:Nat} {us:List Value} {w w' :World}
    (ht:ts[0]? =some t) (htx:ts[1]? =some tx) (ha0:as[0]? =some (.slice base len cr)) (ha1:as[1]? =some (.slice b n crx))
    (hu:P.underlying t=some (.slice e)) (hux:P.underlying tx=some (.slice e')) (hi:P.info? e=some i) (hfit:len+n≤cr)
    (hus:(Builtin.firstCells i.size n (.slice b n crx)).run P w= .ok ⟨us⟩ w)
    (hst:∀ a,base=some a→(storeCells (a.add (len*i.size)) us).run P w= .ok () w') (hnil:base=none→w' =w) :
    (Builtin.append_ ts ty as).run P w= .ok (.slice base (len+n) cr) w' :=by
  have hsz:szO P e=some i.size:=by simp [szO,hi]
  cases base with
  | none =>
    rw [hnil rfl]
    simp only [Builtin.append_,ht,htx,ha0,ha1,Sem.run_bind,run_und hu,run_und hux,Result.andThen_ok,run_size hsz,Sem.run_pure,Bool.false_eq_true,if_false,Builtin.lenOf,Bool.not_false,if_true,hfit,hus]
  | some a =>
    simp only [Builtin.append_,ht,htx,ha0,ha1,Sem.run_bind,run_und hu,run_und hux,Result.andThen_ok,run_size hsz,Sem.run_pure,Bool.false_eq_true,if_false,Builtin.lenOf,Bool.not_false,if_true,hfit,hus,hst a rfl]
theorem run_append_grows {ts:Array TypeId} {as:Array Value} {t tx e e' ty:TypeId} {i:TypeInfo} {z:Value} {base b:Option Addr} {len cr n crx:Nat} {us old:List Value} {w:World}
    (ht:ts[0]? =some t) (htx:ts[1]? =some tx) (ha0:as[0]? =some (.slice base len cr)) (ha1:as[1]? =some (.slice b n crx))
    (hu:P.underlying t=some (.slice e)) (hux:P.underlying tx=some (.slice e')) (hi:P.info? e=some i) (hz:∀ w,(zeroValue e).run P w= .ok z w) (hfit:¬ len+n≤cr)
    (hb:i.bytes≠0) (hroom:(2*(len+n)+1000)*i.bytes≤2 ^ 48)
    (hus:∀ k,(Builtin.firstCells i.size n (.slice b n crx)).run P { w with drawn:=k }= .ok ⟨us⟩ { w with drawn:=k })
    (hold:∀ k,(Builtin.firstCells i.size len (.slice base len cr)).run P { w with drawn:=k }= .ok ⟨old⟩ { w with drawn:=k }) :
    ∃ ex k,(Builtin.append_ ts ty as).run P w =
      .ok (.slice (some ⟨w.heap.size,0,none⟩) (len+n) (len+n+ex)) ({ w with drawn:=k }.alloc (.cells ((⟨old⟩:Array Value)++(⟨us⟩:Array Value)++Builtin.zeroCells z.cells ex) e)):=by
  have hsz:szO P e=some i.size:=by simp [szO,hi]
  have hcap:¬ (Builtin.nextslicecap (len+n) cr*i.bytes>2 ^ 48):=by
    have h1:=nextcap_le (show cr<len+n by omega)
    have h2:=Nat.mul_le_mul_right i.bytes h1
    omega
  have hmax:¬ (((len+n:Nat):Int)>IntKind.i64.max∧((false=true)∨i.bytes=0)):=by simp [hb]
  refine ⟨(w.tape w.drawn (.appendCap (len+n) cr e)) % (2 ^ 63 - (len+n)),w.drawn+1,?_⟩
  have hdr:w.heap.size=({ w with drawn:=w.drawn+1 }:World).heap.size:=rfl
  have hsub:len+n+w.tape w.drawn (Question.appendCap (len+n) cr e) % (2 ^ 63 - (len+n)) - (len+n)=w.tape w.drawn (Question.appendCap (len+n) cr e) % (2 ^ 63 - (len+n)):=by omega
  simp only [Builtin.append_,ht,htx,ha0,ha1,Sem.run_bind,run_und hu,run_und hux,Result.andThen_ok,run_size hsz,Sem.run_pure,Bool.false_eq_true,if_false,Builtin.lenOf,Bool.not_false,if_true,
    if_neg hfit,run_info hi,or_false,hb,and_false,hcap,run_choose,Question.forced,Question.cut,run_askRoom,hold,hus,hz,newRow,run_newObj,World.alloc_eq,hsub]
theorem gAppend_run {G G' :GS} {w:World} {B:Nat} {t tx ty:TypeId} {s s' x x' r:Value} {ts:Array TypeId} {as:Array Value} (hR:Rel G M w B) (hs:V M s s') (hx:V M x x') (h:gAppend P t tx s x G=some (r,G'))
    (ht:ts[0]? =some t) (htx:ts[1]? =some tx) (ha0:as[0]? =some s') (ha1:as[1]? =some x') :
    ∃ r' M' w',V M' r r' ∧(Builtin.append_ ts ty as).run P w= .ok r' w' ∧Rel G' M' w' B∧Evo G M w G' M' w' :=by
  unfold gAppend at h
  split at h
  case h_2=>simp at h
  rename_i e e' hu hux
  split at h
  case h_2=>simp at h
  rename_i i zl hi hzl
  split at h
  · simp at h
  rename_i hnz
  split at h
  case h_2=>simp at h
  rename_i xa n xc
  split at h
  · simp at h
  rename_i new hnew
  split at h
  · simp at h
  rename_i hone
  obtain ⟨i',z,hi',hzv,hzl2,hzs,hzr,hzz⟩:=zeroO_some (M:=M) hzl
  obtain rfl:i' =i:=by rw [hi] at hi'; exact (Option.some.inj hi').symm
  obtain ⟨us,hus,hvs,husl⟩:=elems_run (P:=P) hR hnew (Nat.le_refl _) hx
  obtain ⟨crx,b,rfl⟩:∃ crx b,x' = .slice b n crx:=by
    cases xa with
    | none=>obtain ⟨rfl,rfl,rfl⟩:=V_nilSlice.1 hx; exact ⟨0,none,rfl⟩
    | some xa=>obtain ⟨y,b,cr,hy,rfl,_⟩:=V_slice.1 hx; exact ⟨cr,some b,rfl⟩
  have hnl:new.length=n*i'.size:=by rw [lrel_length hvs,husl]
  have hsz0:i'.size≠0:=fun e=>hnz (.inl e)
  have hby0:i'.bytes≠0:=fun e=>hnz (.inr e)
  have hzsz:z.cells.size=i'.size:=hzs
  split at h
  · -- an empty slice that is nil
    obtain ⟨_,_,rfl⟩:=V_nilSlice.1 hs
    split at h
    · rename_i hn0
      subst hn0
      simp only [Option.some.injEq,Prod.mk.injEq] at h
      obtain ⟨rfl,rfl⟩:=h
      refine ⟨_,M,w,V_nilSlice.2 ⟨rfl,rfl,rfl⟩,?_,hR,.refl _ _ _⟩
      exact run_append_fits ht htx ha0 ha1 hu hux hi (by omega) (hus w rfl) (fun a ha=>by cases ha) (fun _=>rfl)
    · rename_i hn0
      split at h
      · rename_i hroom
        simp only [Option.some.injEq,Prod.mk.injEq] at h
        obtain ⟨rfl,rfl⟩:=h
        obtain ⟨ex,k,hrun⟩:=run_append_grows (ty:=ty) (old:=[]) ht htx ha0 ha1 hu hux hi hzr (by omega) hby0 (by simpa using hroom) (fun k=>hus _ rfl) (fun k=>rfl)
        have hp:=(hR.drawn k).push (cells:=new) (c:=(⟨[]⟩:Array Value)++⟨us⟩++Builtin.zeroCells z.cells ex) (e:=e) (esz:=i'.size) (ex:=ex) (opn:=true)
          (fun j v hv=>by
            obtain ⟨u,hu1,hu2⟩:=(lrel_iff.1 hvs).2 j v hv
            have hj:j<us.length:=(List.getElem?_eq_some_iff.1 hu1).1
            exact ⟨u,by rw [Array.getElem?_append_left (by simpa using hj)]; simpa using hu1,hu2⟩)
          (by simp [zeroCells_size,hzsz]; omega)
        simp only [Nat.zero_add] at hrun
        refine ⟨_,_,_,?_,hrun,hp.1,hp.2.1.drawnL⟩
        exact V_slice.2 ⟨_,_,n+ex,hp.2.2,rfl,Nat.le_refl _,.inr ⟨rfl,by simp [hnl],rfl⟩,fun _=>rfl⟩
      · simp at h
  · rename_i a len cap
    obtain ⟨y,ba,cr,hy,rfl,hlc,hcr,hba⟩:=V_slice.1 hs
    have hcapcr:cap≤cr:=by rcases hcr with h | h<;>omega
    split at h
    · rename_i hn0
      subst hn0
      simp only [Option.some.injEq,Prod.mk.injEq] at h
      obtain ⟨rfl,rfl⟩:=h
      obtain rfl:us=[]:=by
        cases us with
        | nil=>rfl
        | cons _ _=>simp at husl
      refine ⟨_,M,w,hs,?_,hR,.refl _ _ _⟩
      exact run_append_fits ht htx ha0 ha1 hu hux hi (by omega) (hus w rfl) (fun a ha=>rfl) (fun h=>by cases h)
    · rename_i hn0
      split at h
      · simp at h
      · rename_i o ho
        have hbk:=hR.blk _ _ _ hy ho
        split at h
        · -- there is room
          rename_i hfit
          split at h
          · rename_i G2 hw
            simp only [Option.some.injEq,Prod.mk.injEq] at h
            obtain ⟨rfl,rfl⟩:=h
            have hcr0:cr≠0:=by omega
            obtain rfl:=hba hcr0
            obtain ⟨w',h1,h2,h3⟩:=wrN_run (P:=P) hR hy hw hvs
            refine ⟨_,M,w',V_slice.2 ⟨y,_,cr,hy,rfl,by omega,hcr,fun _=>rfl⟩,?_,h2,h3⟩
            refine run_append_fits ht htx ha0 ha1 hu hux hi (by omega) (hus w rfl) (fun a' ha' => ?_) (fun h=>by cases h)
            simp only [Option.some.injEq] at ha'; subst ha'
            rw [addr_add,Nat.add_assoc]; exact h1
          · simp at h
        · rename_i hfit
          split at h
          · simp at h
          · rename_i old hold
            split at h
            · rename_i hroom
              have hnotlim:∀ (hc:¬ (o.opn&&decide (a.off+cap*o.esz=o.cells.length))=true),cr=cap:=by
                intro hc
                rcases hcr with h | ⟨h1,h2,h3⟩
                · exact h
                · exfalso; apply hc
                  rw [← hbk.opn,← hbk.esz,← hbk.len]
                  simp [h1,h2]
              have helem:elems i'.size len (.slice (some a) len cap) G=some old:=hold
              obtain ⟨uold,huold,hvold,holdl⟩:=elems_run (P:=P) hR helem (Nat.le_refl _) hs
              have holdlen:old.length=len*i'.size:=by rw [lrel_length hvold,holdl]
              -- a new block: what the ghost does beside
              have grows:∀ G0,Rel G0 M w B→Evo G M w G0 M w→¬ len+n≤cr →
                  ∃ r' M' w',V M' (.slice (some ⟨G0.nx,0,none⟩) (len+n) (len+n)) r' ∧(Builtin.append_ ts ty as).run P w= .ok r' w' ∧Rel (G0.push ⟨old++new,i'.size,true,1⟩) M' w' B∧Evo G M w (G0.push ⟨old++new,i'.size,true,1⟩) M' w' :=by
                intro G0 hR0 hE0 hnf
                obtain ⟨ex,k,hrun⟩:=run_append_grows (ty:=ty) (old:=uold) ht htx ha0 ha1 hu hux hi hzr hnf hby0 hroom (fun k=>hus _ rfl) (fun k=>huold _ rfl)
                have hp:=(hR0.drawn k).push (cells:=old++new) (c:=(⟨uold⟩:Array Value)++⟨us⟩++Builtin.zeroCells z.cells ex) (e:=e) (esz:=i'.size) (ex:=ex) (opn:=true)
                  (fun j v hv=>by
                    obtain ⟨u,hu1,hu2⟩:=(lrel_iff.1 (lrel_append hvold hvs)).2 j v hv
                    have hj:j<(uold++us).length:=(List.getElem?_eq_some_iff.1 hu1).1
                    exact ⟨u,by rw [Array.getElem?_append_left (by simpa using hj)]; simpa using hu1,hu2⟩)
                  (by simp [zeroCells_size,hzsz,holdlen,hnl,holdl,husl])
                refine ⟨_,_,_,?_,hrun,hp.1,hE0.trans hp.2.1.drawnL⟩
                exact V_slice.2 ⟨_,_,len+n+ex,hp.2.2,rfl,Nat.le_refl _,.inr ⟨rfl,by simp [hnl,holdlen,Nat.add_mul],rfl⟩,fun _=>rfl⟩
              split at h
              · rename_i hlim
                split at h
                · rename_i hm
                  simp only [Bool.and_eq_true,decide_eq_true_eq] at hm hlim
                  simp only [Option.some.injEq,Prod.mk.injEq] at h
                  obtain ⟨rfl,rfl⟩:=h
                  obtain ⟨hk1,hk2,hk3⟩:=hR.kill ho (by rw [hy]; simp)
                  have hnx0:(G.put a.block { o with mode:=2 }).nx=G.nx:=rfl
                  by_cases hin:len+n≤cr
                  · -- the model finds room: the same block goes on under a new name
                    have hcr0:cr≠0:=by omega
                    obtain rfl:=hba hcr0
                    obtain ⟨h1,h2,h3⟩:y.opn=true∧a.off+cap*y.esz=y.len∧cr=cap+y.ex:=by
                      rcases hcr with h | h
                      · omega
                      · exact h
                    obtain ⟨hB,c0,e0,hc0,hcsz⟩:=hbk.own hm.1
                    have hes:y.esz=i'.size:=by rw [hbk.esz]; exact hm.2
                    have hbig:y.off+a.off+(len+n)*i'.size+(cr - (len+n))*i'.size≤c0.size:=by
                      have e1:(len+n)*i'.size+(cr - (len+n))*i'.size=cr*i'.size:=by rw [← Nat.add_mul]; congr 1; omega
                      have e2:cr*i'.size=cap*i'.size+y.ex*i'.size:=by rw [h3,Nat.add_mul]
                      rw [hes] at h2 hcsz
                      omega
                    have hlenmul:len*i'.size+us.length=(len+n)*i'.size:=by rw [husl,Nat.add_mul]
                    have huone:us.all one=true:=by
                      refine List.all_eq_true.2 fun u hu=> ?_
                      obtain ⟨j,hj,rfl⟩:=List.getElem_of_mem hu
                      have hjv:j<new.length:=by omega
                      obtain ⟨q,hq,hV⟩:=(lrel_iff.1 hvs).2 j new[j] (by simp [hjv])
                      simp only [List.getElem?_eq_getElem hj,Option.some.injEq] at hq
                      rw [hq,← V_one hV]
                      simp only [Bool.not_eq_true,Bool.not_eq_false'] at hone
                      exact List.all_eq_true.1 (by simpa using hone) _ (List.getElem_mem hjv)
                    have hst:=run_storeMany (P:=P) (off:=y.off+(a.off+len*i'.size)) us 0 w c0 hc0 (by omega) huone
                    have hw1:=hR.write (c' :=setMany c0 (y.off+(a.off+len*i'.size)+0) us) (m:=2) (cs:=o.cells) hy ho hm.1 hc0 (setMany_size _ _ _) rfl (.inr rfl) (fun h=>by omega)
                    have hGk:G.put a.block { o with cells:=o.cells,mode:=2 }=G.put a.block { o with mode:=2 }:=rfl
                    rw [hGk] at hw1
                    have hlt:y.blk<w.heap.size:=(Array.getElem?_eq_some_iff.1 hc0).1
                    have hvold' :∀ (j:Nat) (v:Value),old[j]? =some v→∃ u,c0[y.off+a.off+j]? =some u∧V M v u:=by
                      intro j v hv
                      obtain ⟨u,hu1,hu2⟩:=(lrel_iff.1 hvold).2 j v hv
                      obtain ⟨us0,hs1,hs2,hs3⟩:=rd_run hR hy hold
                      obtain ⟨u',hu3,hu4⟩:=(lrel_iff.1 hs1).2 j v hv
                      have hcell:=hs3 j u' hu3
                      rw [cell_of_heap hc0] at hcell
                      exact ⟨u',hcell,hu4⟩
                    have hadopt:=hw1.1.adopt (x:=⟨y.blk,y.off+a.off,cr - (len+n),i'.size,true,(len+n)*i'.size⟩) (cells:=old++new) (c:=setMany c0 (y.off+(a.off+len*i'.size)+0) us) (e:=e0)
                      hB (putCells_same hlt) (by simp [holdlen,hnl,Nat.add_mul]) (by simp only [setMany_size]; exact hbig) (by
                        intro j v hv
                        rw [setMany_get us c0 _ _ (by omega)]
                        rcases Nat.lt_or_ge j old.length with hj | hj
                        · rw [List.getElem?_append_left hj] at hv
                          rw [if_neg (by simp only; omega)]
                          exact hvold' j v hv
                        · rw [List.getElem?_append_right hj] at hv
                          have hjn:j - old.length<new.length:=(List.getElem?_eq_some_iff.1 hv).1
                          obtain ⟨u,hu1,hu2⟩:=(lrel_iff.1 hvs).2 _ v hv
                          rw [if_pos (by simp only; omega)]
                          exact ⟨u,by rw [← hu1]; congr 1; simp only; omega,hu2⟩)
                      (fun h q p hq hp hp1=>hk3 y hy hm.1 h q p hq hp hp1)
                    refine ⟨_,_,_,V_slice.2 ⟨⟨y.blk,y.off+a.off,cr - (len+n),i'.size,true,(len+n)*i'.size⟩,⟨y.blk,y.off+a.off,none⟩,cr,by rw [Map.ext_mu,hnx0,if_pos rfl],rfl,Nat.le_refl _,.inr ⟨rfl,by simp,by simp only; omega⟩,fun _=>rfl⟩,?_,hadopt.1,?_⟩
                    · refine run_append_fits ht htx ha0 ha1 hu hux hi hin (hus w rfl) (fun a' ha' => ?_) (fun h=>by cases h)
                      simp only [Option.some.injEq] at ha'; subst ha'
                      rw [addr_add,Nat.add_assoc]; exact hst
                    · have hE:=hw1.2
                      refine ⟨hadopt.2.1,hE.size,hE.keep,fun r hr=> ?_,hE.os,hE.tape,hE.output,by show G.nx≤G.nx+1; omega,fun q hq hqn=> ?_,fun q hq hqn=>by rw [GS.obj_push,if_neg (by rw [hnx0]; omega)]; exact hE.gn q hq hqn⟩
                      rotate_left
                      · obtain ⟨k1,k2⟩:=hE.gk q hq hqn
                        exact ⟨by rw [Map.ext_mu,if_neg (by rw [hnx0]; omega)]; exact hqn,by rw [GS.obj_push,if_neg (by rw [hnx0]; omega)]; exact k2⟩
                      rcases hadopt.2.2 r hr with h | h
                      · exact hE.foot r h
                      · exact .inl (.inl ⟨a.block,y,o,hy,ho,hm.1,h.symm⟩)
                  · exact grows _ hk1 hk2 hin
                · simp at h
              · rename_i hlim
                simp only [Option.some.injEq,Prod.mk.injEq] at h
                obtain ⟨rfl,rfl⟩:=h
                have:=hnotlim hlim
                exact grows G hR (.refl _ _ _) (by omega)
            · simp at h
  · simp at h
theorem mapRun (t:TypeId) (w:World):(Instr.makeMap t none).run P w= .ok (.map (some w.heap.size)) (w.alloc (.map #[] 0)):=rfl
theorem write_sim {G G' :GS} {w:World} {B:Nat} {T:List Value} {a:Act} (hR:Rel G M w B) (hT:Vs M T a.tmps.toList) {o:Oper} {v:Value} (hok:opOk o.op=true)
    (h:gWrite P T o.op G=some (v,G')) :
    ∃ u M' w',V M' v u∧((execOp a.eval o).run P w= .ok (.value u) w' ∨(u=undef∧(execOp a.eval o).run P w= .ok .skip w'))∧Rel G' M' w' B∧Evo G M w G' M' w' :=by
  obtain ⟨dst,op,ty,pos,after,guard⟩:=o
  cases op<;>simp only [gWrite,opOk,Bool.and_eq_true,reduceCtorEq] at h hok
  case store t p x =>
    split at h
    · rename_i G2 hst
      simp only [Option.some.injEq,Prod.mk.injEq] at h
      obtain ⟨rfl,rfl⟩:=h
      obtain ⟨w',h1,h2,h3⟩:=gStore_run (P:=P) hR (ev_rel hT hok.1) (ev_rel hT hok.2) hst
      exact ⟨undef,M,w',V_undef,.inr ⟨rfl,by simp only [execOp,Sem.run_bind,h1,Result.andThen_ok,Sem.run_pure]⟩,h2,h3⟩
    · simp at h
  case call c =>
    obtain ⟨callee,args,argTypes⟩:=c
    simp only at h hok
    split at h
    · rename_i ts tx s x hts htx hx
      have hargs:args= #[s,x]:=by apply Array.toList_inj.1; simpa using hx
      subst hargs
      simp only [List.all_cons,List.all_nil,Bool.and_true,Bool.and_eq_true] at hok
      obtain ⟨r',M',w',h1,h2,h3,h4⟩:=gAppend_run (P:=P) (ty:=ty) (as:= #[a.eval s,a.eval x]) hR (ev_rel hT hok.2.1) (ev_rel hT hok.2.2) h hts htx rfl rfl
      exact ⟨r',M',w',h1,.inl (by simp only [execOp,resolve,invoke,builtin,List.map_toArray,List.map_cons,List.map_nil,Sem.run_bind,Sem.run_pure,Result.andThen_ok,h2]),h3,h4⟩
    · rename_i td d s htd hx
      have hargs:args= #[d,s]:=by apply Array.toList_inj.1; simpa using hx
      subst hargs
      simp only [List.all_cons,List.all_nil,Bool.and_true,Bool.and_eq_true] at hok
      obtain ⟨r',w',h1,h2,h3,h4⟩:=gCopy_run (P:=P) (ty:=ty) (as:= #[a.eval d,a.eval s]) hR (ev_rel hT hok.2.1) (ev_rel hT hok.2.2) h htd rfl rfl
      exact ⟨r',M,w',h1,.inl (by simp only [execOp,resolve,invoke,builtin,List.map_toArray,List.map_cons,List.map_nil,Sem.run_bind,Sem.run_pure,Result.andThen_ok,h2]),h3,h4⟩
    · simp at h
  case makeMap t r =>
    cases r with
    | some r=>simp at h
    | none =>
      simp only [Option.some.injEq,Prod.mk.injEq] at h
      obtain ⟨rfl,rfl⟩:=h
      obtain ⟨h1,h2,h3⟩:=hR.pushMap
      exact ⟨.map (some w.heap.size),_,_,V_map.2 ⟨_,h3,rfl⟩,.inl (by simp only [execOp,Option.map_none,Sem.run_bind,mapRun,Result.andThen_ok,Sem.run_pure]),h1,h2⟩
  case lookup t x i ok =>
    split at h
    · rename_i v2 hl
      simp only [Option.some.injEq,Prod.mk.injEq] at h
      obtain ⟨rfl,rfl⟩:=h
      obtain ⟨h1,h2⟩:=gLookup_run (P:=P) hR hl (ev_rel hT hok.1) (ev_rel hT hok.2)
      exact ⟨v2,M,w,h1,.inl (by simp only [execOp,Sem.run_bind,h2,Result.andThen_ok,Sem.run_pure]),hR,.refl G M w⟩
    · simp at h
  case mapUpdate t m k x =>
    split at h
    · rename_i G2 hp
      simp only [Option.some.injEq,Prod.mk.injEq] at h
      obtain ⟨rfl,rfl⟩:=h
      obtain ⟨w',h1,h2,h3⟩:=gMapPut_run (P:=P) hR hp (ev_rel hT hok.1.1) (ev_rel hT hok.1.2) (ev_rel hT hok.2)
      exact ⟨undef,M,w',V_undef,.inr ⟨rfl,by simp only [execOp,Sem.run_bind,h1,Result.andThen_ok,Sem.run_pure]⟩,h2,h3⟩
    · simp at h
end Go.Proofs.YtlaojmcekeohnaaGreatDoor.Gh
