import Derived.Test.YtlaojmcekeohnaaGreatDoorGhD
namespace Go.Proofs.YtlaojmcekeohnaaGreatDoor.Gh
open Go
variable {P:Program} {M:Map}
theorem fold_set (off:Nat):∀ (l:List Value) (k:Nat) (cs:Array Value) (i:Nat),
    ((l.zipIdx k).foldl (fun cs (p:Value×Nat)=>cs.setIfInBounds (off+p.2) p.1) cs).size=cs.size ∧
    ((l.zipIdx k).foldl (fun cs (p:Value×Nat)=>cs.setIfInBounds (off+p.2) p.1) cs)[i]? =
      if off+k≤i∧i<off+k+l.length∧i<cs.size then l[i - (off+k)]? else cs[i]?
  | [],k,cs,i=>by simp; omega
  | x::l,k,cs,i=>by
    obtain ⟨h1,h2⟩:=fold_set off l (k+1) (cs.setIfInBounds (off+k) x) i
    simp only [List.zipIdx_cons,List.foldl_cons]
    refine ⟨by rw [h1]; simp,?_⟩
    rw [h2]
    by_cases hi:i=off+k
    · subst hi
      rw [if_neg (by omega)]
      by_cases hs:off+k<cs.size
      · rw [if_pos (by simp; omega)]; simp [hs]
      · rw [if_neg (by omega),Array.setIfInBounds_eq_of_size_le (by omega)]
    · rw [Array.getElem?_setIfInBounds_ne (Ne.symm hi)]
      simp only [Array.size_setIfInBounds,List.length_cons]
      by_cases hc:off+(k+1)≤i∧i<off+(k+1)+l.length∧i<cs.size
      · rw [if_pos hc,if_pos (by omega)]
        have:i - (off+k)=(i - (off+(k+1)))+1:=by omega
        rw [this]; simp
      · rw [if_neg hc,if_neg (by omega)]
def partsRel (M:Map) (l l' :List (Nat×Value)):Prop:=lrel (fun p q=>p.1=q.1∧V M p.2 q.2) l l'
theorem fill_rel {place place' :Nat→Option (Nat×Nat)} (hp:∀ i x,place i=some x→place' i=some x) :
    ∀ {parts parts' :List (Nat×Value)} {cells c:List Value} {rc:Array Value},gFill place cells parts=some c→Vs M cells rc.toList→partsRel M parts parts' →
      ∃ c',Instr.fill place' rc parts' =some c' ∧Vs M c c'.toList
  | [],[],cells,c,rc,h,hc,_=>by
    simp only [gFill,Option.some.injEq] at h; subst h
    exact ⟨rc,rfl,hc⟩
  | [],_::_,_,_,_,_,_,hq=>hq.elim
  | _::_,[],_,_,_,_,_,hq=>hq.elim
  | (i,v)::rest,(i',v')::rest',cells,c,rc,h,hc,hq=>by
    obtain ⟨⟨rfl,hv⟩,hrest⟩:=hq
    simp only [gFill] at h
    split at h
    · rename_i off size hpl
      split at h
      · rename_i hsz
        split at h
        · rename_i c1 hs
          obtain ⟨h1,h2,h3⟩:=splice_spec hs
          have hvc:=V_cells hv
          have hl:=lrel_length hvc
          have hlc:=lrel_length hc
          simp only [Array.length_toList] at hl hlc h2 h3
          have hnew:Vs M c1 (v'.cells.zipIdx.foldl (fun cs (p:Value×Nat)=>cs.setIfInBounds (off+p.2) p.1) rc).toList:=by
            have key:=fun i=>fold_set off v'.cells.toList 0 rc i
            have heq:v'.cells.zipIdx.foldl (fun cs (p:Value×Nat)=>cs.setIfInBounds (off+p.2) p.1) rc=(v'.cells.toList.zipIdx 0).foldl (fun cs (p:Value×Nat)=>cs.setIfInBounds (off+p.2) p.1) rc:=by
              rw [← Array.foldl_toList,Array.toList_zipIdx]
            rw [heq]
            refine lrel_iff.2 ⟨(by have hk0:=(key 0).1; simp only [Array.length_toList] at hk0 ⊢; omega),fun i x hx=> ?_⟩
            rw [h3 i] at hx
            have hk:=(key i).2
            simp only [Array.getElem?_toList]
            rw [hk]
            by_cases hcnd:off≤i∧i<off+v.cells.size
            · rw [if_pos hcnd] at hx
              rw [if_pos (by simp only [Array.length_toList]; omega)]
              simpa using (lrel_iff.1 hvc).2 (i - off) x hx
            · rw [if_neg hcnd] at hx
              rw [if_neg (by simp only [Array.length_toList]; omega)]
              simpa using (lrel_iff.1 hc).2 i x hx
          obtain ⟨c',h4,h5⟩:=fill_rel hp h hnew hrest
          refine ⟨c',?_,h5⟩
          simp only [Instr.fill,hp _ _ hpl]
          rw [if_neg (by simp; omega)]
          exact h4
        · simp at h
      · simp at h
    · simp at h
theorem zeroO_some {t:TypeId} {z:List Value} (h:zeroO P t=some z):∃ i v,P.info? t=some i∧i.zero=some v∧v.cells.toList=z∧v.cells.size=i.size∧(∀ w,(zeroValue t).run P w= .ok v w)∧Vs M z z:=by
  unfold zeroO at h
  split at h
  · rename_i i hi
    split at h
    · rename_i v hv
      split at h
      · rename_i hc
        simp only [Bool.and_eq_true,decide_eq_true_eq,List.all_eq_true] at hc
        simp only [Option.some.injEq] at h; subst h
        exact ⟨i,v,hi,hv,rfl,hc.1,fun w=>by simp [zeroValue,run_info hi,hv],lrel_refl fun x hx=>plain_rel (hc.2 x hx)⟩
      · simp at h
    · simp at h
  · simp at h
theorem mapM_places {fs:Array Field} (h:∀ f∈fs.toList,(szO P f.type).isSome=true) (w:World) :
    (fs.mapM fun (f:Field)=>(do pure (f.offset,← sizeOf f.type):Sem (Nat×Nat))).run P w= .ok (fs.map fun (f:Field)=>(f.offset,(szO P f.type).getD 0)) w:=by
  rw [Array.mapM_eq_mapM_toList]
  have key:∀ l:List Field,(∀ f∈l,(szO P f.type).isSome=true)→(l.mapM fun (f:Field)=>(do pure (f.offset,← sizeOf f.type):Sem (Nat×Nat))).run P w= .ok (l.map fun (f:Field)=>(f.offset,(szO P f.type).getD 0)) w:=by
    intro l
    induction l with
    | nil=>intro _; rfl
    | cons f l ih =>
      intro hl
      obtain ⟨s,hs⟩:=Option.isSome_iff_exists.1 (hl f (by simp))
      have ih' :=ih fun g hg=>hl g (by simp [hg])
      simp only [List.mapM_cons,Sem.run_bind,run_size hs,Result.andThen_ok,Sem.run_pure,ih',List.map_cons,hs,Option.getD_some]
  simp only [Sem.run_map,key _ h,Result.andThen_ok]
  congr 1
  apply Array.toList_inj.1
  simp
theorem gBuild_run {t:TypeId} {parts:List (Nat×Value)} {parts' :Array (Nat×Value)} {v:Value} (h:gBuild P t parts=some v) (hq:partsRel M parts parts'.toList) :
    ∃ u,V M v u∧∀ w,(Instr.build t parts').run P w= .ok u w:=by
  unfold gBuild at h
  split at h
  · simp at h
  · rename_i z hz
    obtain ⟨i,zv,hi,hzv,rfl,hzs,hzr,hzz⟩:=zeroO_some (M:=M) hz
    split at h
    · rename_i fs hu
      split at h
      · rename_i hall
        split at h
        · rename_i c hc
          simp only [Option.some.injEq] at h; subst h
          have hall' :∀ f∈fs.toList,(szO P f.type).isSome=true:=fun f hf=>List.all_eq_true.1 hall f hf
          have hp:∀ i x,structPlace P fs i=some x→(fs.map fun (f:Field)=>(f.offset,(szO P f.type).getD 0))[i]? =some x:=by
            intro i x hx
            unfold structPlace at hx
            split at hx
            · rename_i f hf
              split at hx
              · rename_i s hs
                simp only [Option.some.injEq] at hx; subst hx
                simp [hf,hs]
              · simp at hx
            · simp at hx
          obtain ⟨c',h4,h5⟩:=fill_rel hp hc hzz hq
          refine ⟨.agg c',V_agg.2 ⟨c',rfl,h5⟩,fun w=> ?_⟩
          simp only [Instr.build,Sem.run_bind,hzr,Result.andThen_ok,run_und hu,mapM_places hall',h4,Sem.run_pure]
        · simp at h
      · simp at h
    · rename_i n e hu
      split at h
      · rename_i s hs
        split at h
        · rename_i c hc
          simp only [Option.some.injEq] at h; subst h
          obtain ⟨c',h4,h5⟩:=fill_rel (place' :=fun i=>some (i*s,s)) (fun _ _ h=>h) hc hzz hq
          refine ⟨.agg c',V_agg.2 ⟨c',rfl,h5⟩,fun w=> ?_⟩
          simp only [Instr.build,Sem.run_bind,hzr,Result.andThen_ok,run_und hu,run_size hs,h4,Sem.run_pure]
        · simp at h
      · simp at h
    · simp at h
theorem gField_run {t:TypeId} {v u r:Value} {f:Nat} (h:gField P t v f=some r) (hv:V M v u):∃ r',V M r r' ∧∀ w,(Instr.field t u f).run P w= .ok r' w:=by
  unfold gField at h
  split at h
  · rename_i fs cs hu
    split at h
    · rename_i d hd
      obtain ⟨cs',rfl,hcs⟩:=V_agg.1 hv
      obtain ⟨r',h1,h2⟩:=gPart_run h hcs
      exact ⟨r',h1,fun w=>by simp only [Instr.field,Sem.run_bind,run_und hu,Result.andThen_ok,hd,asAgg,Sem.run_pure,h2]⟩
    · simp at h
  · simp at h
theorem gIndex_run {t:TypeId} {v u i i' r:Value} (h:gIndex P t v i=some r) (hv:V M v u) (hi:V M i i'):∃ r',V M r r' ∧∀ w,(Instr.index t u i').run P w= .ok r' w:=by
  unfold gIndex at h
  split at h
  · rename_i n e cs k j hu
    split at h
    · rename_i hj
      split at h
      · rename_i s hs
        obtain ⟨cs',rfl,hcs⟩:=V_agg.1 hv
        obtain rfl:=V_int.1 hi
        obtain ⟨r',h1,h2⟩:=gPart_run h hcs
        exact ⟨r',h1,fun w=>by simp only [Instr.index,asIntOf,Sem.run_bind,Sem.run_pure,Result.andThen_ok,run_und hu,hj,and_self,if_true,run_size hs,h2]⟩
      · simp at h
    · simp at h
  · rename_i s k j hu
    split at h
    · rename_i hj
      split at h
      · rename_i b hb
        simp only [Option.some.injEq] at h
        subst h
        obtain rfl:=V_string.1 hv
        obtain rfl:=V_int.1 hi
        exact ⟨_,V_int.2 rfl,fun w=>by simp only [Instr.index,asIntOf,Sem.run_bind,Sem.run_pure,Result.andThen_ok,run_und hu,hj,if_true,hb]⟩
      · simp at h
    · simp at h
  · simp at h
theorem addr_add (b o n:Nat):(⟨b,o,none⟩:Addr).add n=⟨b,o+n,none⟩:=by
  unfold Addr.add; split<;>simp_all
theorem gFieldAddr_run {s:TypeId} {v u r:Value} {f:Nat} (h:gFieldAddr P s v f=some r) (hv:V M v u):∃ r',V M r r' ∧∀ w,(Instr.fieldAt s u f).run P w= .ok r' w:=by
  unfold gFieldAddr at h
  split at h
  · rename_i fs a hu
    split at h
    · rename_i d hd
      split at h
      · simp at h
      · rename_i z hz0 hz
        simp only [Option.some.injEq] at h; subst h
        obtain ⟨x,hx,rfl⟩:=V_ptr.1 hv
        refine ⟨.pointer (some ⟨x.blk,x.off+(a.off+d.offset),none⟩),V_ptr.2 ⟨x,hx,rfl⟩,fun w=> ?_⟩
        have hz' :z≠0:=fun e=>hz0 (by rw [e])
        simp only [Instr.fieldAt,Instr.sureAddr,fieldPlace,Sem.run_bind,run_und hu,Result.andThen_ok,hd,Sem.run_pure,run_size hz,Sem.run_ite,if_neg hz',addr_add,Nat.add_assoc]
      · simp at h
    · simp at h
  · simp at h
theorem gIndexAddr_run {t:TypeId} {v u i i' r:Value} (h:gIndexAddr P t v i=some r) (hv:V M v u) (hi:V M i i'):∃ r',V M r r' ∧∀ w,(Instr.indexAt t u i').run P w= .ok r' w:=by
  unfold gIndexAddr at h
  split at h
  · rename_i n e a k j hu
    split at h
    · rename_i hj
      split at h
      · rename_i s hs
        simp only [Option.some.injEq] at h; subst h
        obtain ⟨x,hx,rfl⟩:=V_ptr.1 hv
        obtain rfl:=V_int.1 hi
        refine ⟨.pointer (some ⟨x.blk,x.off+(a.off+j.toNat*s),none⟩),V_ptr.2 ⟨x,hx,rfl⟩,fun w=> ?_⟩
        simp only [Instr.indexAt,Instr.sureAddr,asIntOf,Sem.run_bind,Sem.run_pure,Result.andThen_ok,run_und hu,hj,and_self,if_true,run_size hs,addr_add,Nat.add_assoc]
      · simp at h
    · simp at h
  · rename_i e a n c k j hu
    split at h
    · rename_i hj
      split at h
      · rename_i s hs
        simp only [Option.some.injEq] at h; subst h
        obtain ⟨x,b,cr,hx,rfl,hlc,hcr,hb⟩:=V_slice.1 hv
        obtain rfl:=V_int.1 hi
        have hcr0:cr≠0:=by rcases hcr with hcr | hcr<;>omega
        obtain rfl:=hb hcr0
        refine ⟨.pointer (some ⟨x.blk,x.off+(a.off+j.toNat*s),none⟩),V_ptr.2 ⟨x,hx,rfl⟩,fun w=> ?_⟩
        simp only [Instr.indexAt,asIntOf,Sem.run_bind,Sem.run_pure,Result.andThen_ok,run_und hu,hj,and_self,if_true,run_size hs,addr_add,Nat.add_assoc]
      · simp at h
    · simp at h
  · simp at h
theorem gLen_run {t ty:TypeId} {x u r:Value} {ts:Array TypeId} {as:Array Value} (h:gLen P t x=some r) (hv:V M x u) (ht:ts[0]? =some t) (ha:as[0]? =some u):V M r r∧∀ w,(Builtin.len_ ts ty as).run P w= .ok r w:=by
  unfold gLen at h
  split at h
  · rename_i s hu
    simp only [Option.some.injEq] at h; subst h
    obtain rfl:=V_string.1 hv
    exact ⟨V_int.2 rfl,fun w=>by simp only [Builtin.len_,ht,ha,Sem.run_bind,run_und hu,Result.andThen_ok,Sem.run_pure,goInt]⟩
  · rename_i n e y hu
    simp only [Option.some.injEq] at h; subst h
    exact ⟨V_int.2 rfl,fun w=>by simp only [Builtin.len_,ht,ha,Sem.run_bind,run_und hu,Result.andThen_ok,Sem.run_pure,goInt]⟩
  · rename_i a y hu
    split at h
    · rename_i n e hu2
      simp only [Option.some.injEq] at h; subst h
      exact ⟨V_int.2 rfl,fun w=>by simp only [Builtin.len_,ht,ha,Sem.run_bind,run_und hu,run_und hu2,Result.andThen_ok,Sem.run_pure,goInt]⟩
    · simp at h
  · rename_i e a n c hu
    simp only [Option.some.injEq] at h; subst h
    refine ⟨V_int.2 rfl,?_⟩
    cases a with
    | none =>
      obtain ⟨rfl,rfl,rfl⟩:=V_nilSlice.1 hv
      exact fun w=>by simp only [Builtin.len_,ht,ha,Sem.run_bind,run_und hu,Result.andThen_ok,Sem.run_pure,goInt]
    | some a =>
      obtain ⟨x,b,cr,hx,rfl,hlc,hcr,hb⟩:=V_slice.1 hv
      exact fun w=>by simp only [Builtin.len_,ht,ha,Sem.run_bind,run_und hu,Result.andThen_ok,Sem.run_pure,goInt]
  · simp at h
end Go.Proofs.YtlaojmcekeohnaaGreatDoor.Gh
