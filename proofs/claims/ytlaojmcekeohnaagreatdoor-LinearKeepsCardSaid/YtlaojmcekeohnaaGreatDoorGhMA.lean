import Derived.Test.YtlaojmcekeohnaaGreatDoorGhK
namespace Go.Proofs.YtlaojmcekeohnaaGreatDoor.Gh
open Go
variable {P:Program} {M:Map} {B:Nat}
theorem heap_alloc_old {w:World} {o:Obj} {r:Nat} (h:r<w.heap.size):(w.alloc o).heap[r]? =w.heap[r]? :=Go.RowKit.Below.heap_alloc w o r h
theorem Rel.other {G:GS} {w:World} (hR:Rel G M w B) (o:Obj):Rel G M (w.alloc o) B∧Evo G M w G M (w.alloc o):=by
  have hcell:∀ a u,w.cell? a=some u→(w.alloc o).cell? a=some u:=fun a u h=>heap_cell (heap_alloc_old (World.block_lt_of_cell? w a h)) h
  refine ⟨⟨Nat.le_trans hR.size (by simp),fun g x p hx hp=> ?_,hR.apart,hR.nx,fun l r hl=> ?_,hR.lpinj,fun l r hl=>let ⟨h1,p,h2,h3⟩:=hR.mp l r hl; ⟨h1,p,h2,h3.keep (heap_alloc_old h3.lt)⟩,hR.mpinj,hR.mplp,hR.wf,fun g o ho hm=>(hR.gl g o ho hm).keep fun r hr=>heap_alloc_old (Nat.lt_of_lt_of_le hr hR.size)⟩,⟨.refl M,by simp,fun r hr _=>heap_alloc_old hr,fun _ h=> .inl h,rfl,rfl,rfl,Nat.le_refl _,fun _ _ h=>⟨h,rfl⟩,fun _ _ h=>h⟩⟩
  · have hb:=hR.blk g x p hx hp
    refine ⟨hb.esz,hb.opn,hb.len,fun hm=>cells_mono (.refl M) (hb.cells hm) fun a u h _=>hcell a u h,fun hm=> ?_,hb.ro⟩
    obtain ⟨h1,c,e,h2,h3⟩:=hb.own hm
    exact ⟨h1,c,e,by rw [heap_alloc_old (Array.getElem?_eq_some_iff.1 h2).1]; exact h2,h3⟩
  · obtain ⟨h1,p,h2,h3,lo,h4,h5⟩:=hR.lp l r hl
    exact ⟨h1,p,h2,h3,lo,by rw [heap_alloc_old (Array.getElem?_eq_some_iff.1 h4).1]; exact h4,h5⟩
theorem GS.loop_push (G:GS) (p:Lp) (l:Nat):(G.pushLoop p).loop l=if l=G.nl then some p else G.loop l:=tget_tset _ _ _ _
theorem GS.loop_put (G:GS) (p:Lp) (l k:Nat):(G.putLoop l p).loop k=if k=l then some p else G.loop k:=tget_tset _ _ _ _
def Map.extMp (M:Map) (l r:Nat):Map:=⟨M.mu,M.lp,fun k=>if k=l then some r else M.mp k⟩
theorem mkE_flat:∀ (es:List MapEntry),mkE (flatE es)=es.map fun e=>⟨e.key,e.val,0⟩
  | []=>rfl
  | e::es=>by
    show mkE (e.key::e.val::flatE es)=_
    rw [mkE,mkE_flat es]; rfl
theorem findNow_strip (kind:TypeDesc) (k:Value):∀ (es:List MapEntry) (i:Nat),Instr.findNow kind k (es.map fun e=>⟨e.key,e.val,0⟩) i=Instr.findNow kind k es i
  | [],_=>rfl
  | e::es,i=>by
    simp only [List.map_cons,Instr.findNow,findNow_strip kind k es (i+1)]
theorem findAsking_strip (kt:TypeId) (k:Value):∀ (es:List MapEntry) (i:Nat),Instr.findAsking kt k (es.map fun e=>⟨e.key,e.val,0⟩) i=Instr.findAsking kt k es i
  | [],_=>rfl
  | e::es,i=>by
    simp only [List.map_cons,Instr.findAsking,findAsking_strip kt k es (i+1)]
theorem findKey_flat (kt:TypeId) (k:Value) (es:List MapEntry):Instr.findKey kt k (mkE (flatE es))=Instr.findKey kt k es:=by
  rw [mkE_flat]
  unfold Instr.findKey
  simp only [findNow_strip,findAsking_strip]
theorem isEmpty_flat (es:List MapEntry):(mkE (flatE es)).isEmpty=es.isEmpty:=by
  rw [mkE_flat]; cases es<;>rfl
theorem gLookup_run {G:GS} {w:World} {t:TypeId} {x k x' k' v:Value} {ok:Bool} (hR:Rel G M w B) (h:gLookup P t x k ok G=some v) (hx:V M x x') (hk:V M k k') :
    V M v v∧(Instr.lookup t x' k' ok).run P w= .ok v w:=by
  unfold gLookup at h
  split at h
  · rename_i kt el l hu
    split at h
    · rename_i p hp
      split at h
      · rename_i hpl
        simp only [Bool.and_eq_true] at hpl
        obtain ⟨r,hr,rfl⟩:=V_map.1 hx
        have he:=plain_eq hpl.1 hk
        subst he
        obtain ⟨_,p',hp',hB,_,es,ck,ho,hf⟩:=hR.mp l r hr
        obtain rfl:p' =p:=by rw [hp] at hp'; exact (Option.some.inj hp').symm
        obtain ⟨h1,h2⟩:=prunP_run (M:=M) h
        refine ⟨h1,?_⟩
        have h3:=h2 w
        unfold lookS at h3
        rw [← hf,isEmpty_flat,findKey_flat] at h3
        have hg:(getObj r).run P w= .ok (.map es ck) w:=by simp [getObj,Sem.run,ho]
        have hem:es.isEmpty=es.toList.isEmpty:=by simp
        unfold Instr.lookup
        simp only [Sem.run_bind,run_und hu,Result.andThen_ok,hg,Sem.run_pure,hem] at h3 ⊢
        exact h3
      · simp at h
    · simp at h
  · simp at h
theorem Rel.pushMap {G:GS} {w:World} (hR:Rel G M w B) :
    Rel (G.pushLoop ⟨.done,none,[],[],.skip,.skip⟩) (M.extMp G.nl w.heap.size) (w.alloc (.map #[] 0)) B∧Evo G M w (G.pushLoop ⟨.done,none,[],[],.skip,.skip⟩) (M.extMp G.nl w.heap.size) (w.alloc (.map #[] 0))∧(M.extMp G.nl w.heap.size).mp G.nl=some w.heap.size:=by
  have hnone:M.mp G.nl=none:=by
    cases hm:M.mp G.nl with
    | none=>rfl
    | some x=>exact absurd (hR.mp _ _ hm).1 (Nat.lt_irrefl _)
  have hnlp:M.lp G.nl=none:=by
    cases hm:M.lp G.nl with
    | none=>rfl
    | some x=>exact absurd (hR.lp _ _ hm).1 (Nat.lt_irrefl _)
  have hM:M.Le (M.extMp G.nl w.heap.size):=⟨fun _ _ h=>h,fun _ _ h=>h,fun l r h=>by
    show (if l=G.nl then some w.heap.size else M.mp l)=some r
    rw [if_neg (fun e=>by rw [e,hnone] at h; cases h)]; exact h⟩
  obtain ⟨hO,hE⟩:=hR.other (.map #[] 0)
  have hmp:∀ l r,(M.extMp G.nl w.heap.size).mp l=some r→(l=G.nl∧r=w.heap.size)∨(l≠G.nl∧M.mp l=some r):=by
    intro l r hl
    change (if l=G.nl then some w.heap.size else M.mp l)=some r at hl
    split at hl
    · rename_i he; exact .inl ⟨he,(Option.some.inj hl).symm⟩
    · rename_i he; exact .inr ⟨he,hl⟩
  have hlt:∀ l r,M.mp l=some r→r<w.heap.size:=fun l r hl=>by
    obtain ⟨_,q,_,h3⟩:=hR.mp l r hl
    exact h3.lt
  refine ⟨⟨hO.size,fun g x o hx ho=> ?_,hO.apart,hO.nx,fun l r hl=> ?_,hO.lpinj,fun l r hl=> ?_,?_,fun l r hl=> ?_,hO.wf,hO.gl⟩,⟨hM,hE.size,hE.keep,?_,rfl,rfl,rfl,Nat.le_refl _,fun _ _ h=>⟨h,rfl⟩,fun _ _ h=>h⟩,by show (if G.nl=G.nl then _ else _)=_; rw [if_pos rfl]⟩
  · have hb:=hO.blk g x o hx ho
    exact ⟨hb.esz,hb.opn,hb.len,fun hm=>cells_mono hM (hb.cells hm) fun _ _ h _=>h,hb.own,hb.ro⟩
  · obtain ⟨k1,q,k2,k3,lo',k4,k5,k6,k7,k8⟩:=hO.lp l r hl
    exact ⟨Nat.lt_succ_of_lt k1,q,by rw [GS.loop_push,if_neg (by omega)]; exact k2,k3,lo',k4,k5,k6,k7.mono hM,k8⟩
  · rcases hmp l r hl with ⟨rfl,rfl⟩ | ⟨hne,hl⟩
    · exact ⟨Nat.lt_succ_self _,_,by rw [GS.loop_push,if_pos rfl],hR.size,rfl,#[],0,World.alloc_heap_new w _,rfl⟩
    · obtain ⟨k1,q,k2,k3⟩:=hO.mp l r hl
      exact ⟨Nat.lt_succ_of_lt k1,q,by rw [GS.loop_push,if_neg hne]; exact k2,k3⟩
  · intro l l' r hl hl'
    rcases hmp l r hl with ⟨e1,e2⟩ | ⟨hne,k1⟩<;>rcases hmp l' r hl' with ⟨e3,e4⟩ | ⟨hne',k2⟩
    · rw [e1,e3]
    · have:=hlt _ _ k2; omega
    · have:=hlt _ _ k1; omega
    · exact hR.mpinj l l' r k1 k2
  · rcases hmp l r hl with ⟨rfl,rfl⟩ | ⟨hne,hl⟩
    · exact hnlp
    · exact hR.mplp l r hl
  · rintro r (⟨g,x,o,hx,ho,hm,rfl⟩ | ⟨l,hl | hl⟩)
    · exact .inl (.inl ⟨g,x,o,hx,ho,hm,rfl⟩)
    · exact .inl (.inr ⟨l,.inl hl⟩)
    · rcases hmp l r hl with ⟨rfl,rfl⟩ | ⟨hne,hl⟩
      · exact .inr (Nat.le_refl _)
      · exact .inl (.inr ⟨l,.inr hl⟩)
theorem Rel.putMap {G:GS} {w:World} (hR:Rel G M w B) {l r:Nat} {p q:Lp} {es es' :Array MapEntry} {ck ck' :Nat} (hl:M.mp l=some r) (hp:G.loop l=some p) (ho:w.heap[r]? =some (.map es ck))
    (hq:q.tmps.all plain=true) (hf:flatE es'.toList=q.tmps) :
    Rel (G.putLoop l q) M (w.putObj r (.map es' ck')) B∧Evo G M w (G.putLoop l q) M (w.putObj r (.map es' ck')):=by
  have hlt:=(Array.getElem?_eq_some_iff.1 ho).1
  have hother:∀ k,k≠r→(w.putObj r (.map es' ck')).heap[k]? =w.heap[k]? :=fun k hk=>World.putObj_heap_other hk
  have hsame:(w.putObj r (.map es' ck')).heap[r]? =some (.map es' ck'):=World.putObj_heap_same hlt
  have hcellne:∀ a u,w.cell? a=some u→a.block≠r:=by
    rintro a u h rfl
    simp [World.cell?,ho] at h
  obtain ⟨hlnl,p',hp',hB,_⟩:=hR.mp l r hl
  refine ⟨⟨by rw [World.putObj_size]; exact hR.size,fun g x o hx ho' => ?_,hR.apart,hR.nx,fun l' r' hl' => ?_,hR.lpinj,fun l' r' hl' => ?_,hR.mpinj,hR.mplp,hR.wf,fun g o ho hm=>(hR.gl g o ho hm).keep fun k hk=>hother k (by omega)⟩,⟨.refl M,by rw [World.putObj_size]; exact Nat.le_refl _,fun k hk hf' =>hother k (fun e=>hf' (.inr ⟨l,.inr (by rw [e]; exact hl)⟩)),fun _ h=> .inl h,rfl,rfl,rfl,Nat.le_refl _,fun _ _ h=>⟨h,rfl⟩,fun _ _ h=>h⟩⟩
  · have hb:=hR.blk g x o hx ho'
    refine ⟨hb.esz,hb.opn,hb.len,fun hm=>cells_mono (.refl M) (hb.cells hm) fun a u h _=>heap_cell (hother _ (hcellne a u h)) h,fun hm=> ?_,hb.ro⟩
    obtain ⟨h1',c,e,h2',h3'⟩:=hb.own hm
    exact ⟨h1',c,e,by rw [hother _ (fun he=>by rw [he,ho] at h2'; cases h2')]; exact h2',h3'⟩
  · obtain ⟨k1,q',k2,k3,lo2,k4,k5⟩:=hR.lp l' r' hl'
    refine ⟨k1,q',?_,k3,lo2,?_,k5⟩
    · rw [GS.loop_put,if_neg (fun e=>by rw [e,hR.mplp l r hl] at hl'; cases hl')]; exact k2
    · rw [hother _ (fun e=>by rw [e,ho] at k4; cases k4)]; exact k4
  · by_cases hll:l' =l
    · subst hll
      obtain rfl:r' =r:=by rw [hl] at hl'; exact (Option.some.inj hl').symm
      exact ⟨hlnl,q,by rw [GS.loop_put,if_pos rfl],hB,hq,es',ck',hsame,hf⟩
    · obtain ⟨k1,q',k2,k3⟩:=hR.mp l' r' hl'
      refine ⟨k1,q',by rw [GS.loop_put,if_neg hll]; exact k2,k3.keep (hother _ (fun e=>hll (hR.mpinj l' l r (by rw [← e]; exact hl') hl)))⟩
theorem gMapPut_run {G G' :GS} {w:World} {t:TypeId} {m k v m' k' v' :Value} (hR:Rel G M w B) (h:gMapPut P t m k v G=some G') (hm:V M m m') (hk:V M k k') (hv:V M v v') :
    ∃ w',(Instr.mapUpdate t m' k' v').run P w= .ok () w' ∧Rel G' M w' B∧Evo G M w G' M w' :=by
  unfold gMapPut at h
  split at h
  · rename_i kt el l hu
    split at h
    · rename_i p hp
      split at h
      · rename_i hpl
        simp only [Bool.and_eq_true] at hpl
        split at h
        · rename_i hchk hfind
          simp only [Option.some.injEq] at h
          subst h
          obtain ⟨r,hr,rfl⟩:=V_map.1 hm
          have he:=plain_eq hpl.1.1 hk
          have he2:=plain_eq hpl.1.2 hv
          subst he he2
          obtain ⟨_,p',hp',hB,_,es,ck,ho,hf⟩:=hR.mp l r hr
          obtain rfl:p' =p:=by rw [hp] at hp'; exact (Option.some.inj hp').symm
          rename_i a _
          have hq:(p'.tmps++[k',v']).all plain=true:=by
            rw [List.all_append,hpl.2]
            simp [hpl.1.1,hpl.1.2]
          have hf' :flatE (es.push ⟨k',v',ck⟩).toList=p'.tmps++[k',v']:=by
            rw [← hf]
            simp [flatE]
          have hP:=hR.putMap (q:={ p' with tmps:=p'.tmps++[k',v'] }) (es' :=es.push ⟨k',v',ck⟩) (ck' :=ck+1) hr hp ho hq hf'
          refine ⟨_,?_,hP.1,hP.2⟩
          have h3:=prun_run P _ _ hchk w
          have h4:=prun_run P _ _ hfind w
          rw [← hf,findKey_flat] at h4
          have hg:(getObj r).run P w= .ok (.map es ck) w:=by simp [getObj,Sem.run,ho]
          have hs:∀ o,(setObj r o).run P w= .ok () (w.putObj r o):=fun o=>by simp [setObj,Sem.run,ho,World.putObj]
          unfold Instr.mapUpdate
          simp only [Sem.run_bind,run_und hu,Result.andThen_ok,hg,h3,h4,hs]
        · simp at h
      · simp at h
    · simp at h
  · simp at h
end Go.Proofs.YtlaojmcekeohnaaGreatDoor.Gh
