import Derived.Test.YtkhlabammcghbaaGreatGhD
namespace Go.Proofs.YtkhlabammcghbaaGreat.Gh
open Go
variable {P:Program} {M:Map}
theorem MR (off:Nat):∀ (l:List Value) (k:Nat) (cs:Array Value) (i:Nat),
    ((l.zipIdx k).foldl (fun cs (p:Value×Nat)=>cs.setIfInBounds (off+p.2) p.1) cs).size=cs.size ∧
    ((l.zipIdx k).foldl (fun cs (p:Value×Nat)=>cs.setIfInBounds (off+p.2) p.1) cs)[i]? =
      if off+k≤i∧i<off+k+l.length∧i<cs.size then l[i - (off+k)]? else cs[i]?
  | [],k,cs,i=>by simp; omega
  | x::l,k,cs,i=>by
    obtain ⟨h1,h2⟩:=MR off l (k+1) (cs.setIfInBounds (off+k) x) i
    simp only [List.zipIdx_cons,List.foldl_cons]
    refine ⟨by rw [h1]; simp,?_⟩
    rw [h2]
    by_cases hi:i=off+k
    · subst hi
      rw [if_neg (by omega)]
      by_cases hs:off+k<cs.size
      · rw [if_pos (by simp; omega)]; simp [hs]
      · rw [if_neg (by omega),Array.setIfInBounds_eq_of_size_le (by omega)]
    · rw [Array.getElem?_setIfInBounds_ne (Ne.symm hi)]
      simp only [Array.size_setIfInBounds,List.length_cons]
      by_cases hc:off+(k+1)≤i∧i<off+(k+1)+l.length∧i<cs.size
      · rw [if_pos hc,if_pos (by omega)]
        have:i - (off+k)=(i - (off+(k+1)))+1:=by omega
        rw [this]; simp
      · rw [if_neg hc,if_neg (by omega)]
def GY (M:Map) (l l':List (Nat×Value)):Prop:=eT (fun p q=>p.1=q.1∧V M p.2 q.2) l l'
theorem Dw {place place':Nat→Option (Nat×Nat)} (hp:∀ i x,place i=some x→place' i=some x) :
    ∀ {parts AK:List (Nat×Value)} {cells c:List Value} {rc:Array Value},qm place cells parts=some c→Vs M cells rc.toList→GY M parts AK →
      ∃ c',Instr.fill place' rc AK =some c' ∧Vs M c c'.toList
  | [],[],cells,c,rc,h,hc,_=>by
    simp only [qm,Option.some.injEq] at h; subst h
    exact ⟨rc,rfl,hc⟩
  | [],_::_,_,_,_,_,_,hq=>hq.elim
  | _::_,[],_,_,_,_,_,hq=>hq.elim
  | (i,v)::rest,(i',v')::afj,cells,c,rc,h,hc,hq=>by
    obtain ⟨⟨rfl,hv⟩,GZ⟩:=hq
    simp only [qm] at h
    split at h
    · rename_i off size qu
      split at h
      · rename_i cm
        split at h
        · rename_i c1 hs
          obtain ⟨h1,h2,h3⟩:=AG hs
          have MT:=GX hv
          have hl:=iG MT
          have mX:=iG hc
          simp only [Array.length_toList] at hl mX h2 h3
          have pe:Vs M c1 (v'.cells.zipIdx.foldl (fun cs (p:Value×Nat)=>cs.setIfInBounds (off+p.2) p.1) rc).toList:=by
            have key:=fun i=>MR off v'.cells.toList 0 rc i
            have heq:v'.cells.zipIdx.foldl (fun cs (p:Value×Nat)=>cs.setIfInBounds (off+p.2) p.1) rc=(v'.cells.toList.zipIdx 0).foldl (fun cs (p:Value×Nat)=>cs.setIfInBounds (off+p.2) p.1) rc:=by
              rw [← Array.foldl_toList,Array.toList_zipIdx]
            rw [heq]
            refine iH.2 ⟨(by have hX:=(key 0).1; simp only [Array.length_toList] at hX ⊢; omega),fun i x hx=>?_⟩
            rw [h3 i] at hx
            have hk:=(key i).2
            simp only [Array.getElem?_toList]
            rw [hk]
            by_cases mY:off≤i∧i<off+v.cells.size
            · rw [if_pos mY] at hx
              rw [if_pos (by simp only [Array.length_toList]; omega)]
              simpa using (iH.1 MT).2 (i - off) x hx
            · rw [if_neg mY] at hx
              rw [if_neg (by simp only [Array.length_toList]; omega)]
              simpa using (iH.1 hc).2 i x hx
          obtain ⟨c',h4,h5⟩:=Dw hp h pe GZ
          refine ⟨c',?_,h5⟩
          simp only [Instr.fill,hp _ _ qu]
          rw [if_neg (by simp; omega)]
          exact h4
        · simp at h
      · simp at h
    · simp at h
theorem AN {t:TypeId} {z:List Value} (h:mR P t=some z):∃ i v,P.info? t=some i∧i.zero=some v∧v.cells.toList=z∧v.cells.size=i.size∧(∀ w,(zeroValue t).run P w= .ok v w)∧Vs M z z:=by
  unfold mR at h
  split at h
  · rename_i i hi
    split at h
    · rename_i v hv
      split at h
      · rename_i hc
        simp only [Bool.and_eq_true,decide_eq_true_eq,List.all_eq_true] at hc
        simp only [Option.some.injEq] at h; subst h
        exact ⟨i,v,hi,hv,rfl,hc.1,fun w=>by simp [zeroValue,rO hi,hv],GQ fun x hx=>Du (hc.2 x hx)⟩
      · simp at h
    · simp at h
  · simp at h
theorem U3 {fs:Array Field} (h:∀ f∈fs.toList,(dJ P f.type).isSome=true) (w:World) :
    (fs.mapM fun (f:Field)=>(do pure (f.offset,← sizeOf f.type):Sem (Nat×Nat))).run P w= .ok (fs.map fun (f:Field)=>(f.offset,(dJ P f.type).getD 0)) w:=by
  rw [Array.mapM_eq_mapM_toList]
  have key:∀ l:List Field,(∀ f∈l,(dJ P f.type).isSome=true)→(l.mapM fun (f:Field)=>(do pure (f.offset,← sizeOf f.type):Sem (Nat×Nat))).run P w= .ok (l.map fun (f:Field)=>(f.offset,(dJ P f.type).getD 0)) w:=by
    intro l
    induction l with
    | nil=>intro _; rfl
    | cons f l ih =>
      intro hl
      obtain ⟨s,hs⟩:=Option.isSome_iff_exists.1 (hl f (by simp))
      have U4:=ih fun g hg=>hl g (by simp [hg])
      simp only [List.mapM_cons,Sem.run_bind,hQ hs,Result.andThen_ok,Sem.run_pure,U4,List.map_cons,hs,Option.getD_some]
  simp only [Sem.run_map,key _ h,Result.andThen_ok]
  congr 1
  apply Array.toList_inj.1
  simp
theorem U5 {t:TypeId} {parts:List (Nat×Value)} {AK:Array (Nat×Value)} {v:Value} (h:rG P t parts=some v) (hq:GY M parts AK.toList) :
    ∃ u,V M v u∧∀ w,(Instr.build t AK).run P w= .ok u w:=by
  unfold rG at h
  split at h
  · simp at h
  · rename_i z hz
    obtain ⟨i,zv,hi,Dx,rfl,uS,qv,sZ⟩:=AN (M:=M) hz
    split at h
    · rename_i fs hu
      split at h
      · rename_i qw
        split at h
        · rename_i c hc
          simp only [Option.some.injEq] at h; subst h
          have U6:∀ f∈fs.toList,(dJ P f.type).isSome=true:=fun f hf=>List.all_eq_true.1 qw f hf
          have hp:∀ i x,Dl P fs i=some x→(fs.map fun (f:Field)=>(f.offset,(dJ P f.type).getD 0))[i]? =some x:=by
            intro i x hx
            unfold Dl at hx
            split at hx
            · rename_i f hf
              split at hx
              · rename_i s hs
                simp only [Option.some.injEq] at hx; subst hx
                simp [hf,hs]
              · simp at hx
            · simp at hx
          obtain ⟨c',h4,h5⟩:=Dw hp hc sZ hq
          refine ⟨.agg c',rM.2 ⟨c',rfl,h5⟩,fun w=>?_⟩
          simp only [Instr.build,Sem.run_bind,qv,Result.andThen_ok,cD hu,U3 U6,h4,Sem.run_pure]
        · simp at h
      · simp at h
    · rename_i n e hu
      split at h
      · rename_i s hs
        split at h
        · rename_i c hc
          simp only [Option.some.injEq] at h; subst h
          obtain ⟨c',h4,h5⟩:=Dw (place':=fun i=>some (i*s,s)) (fun _ _ h=>h) hc sZ hq
          refine ⟨.agg c',rM.2 ⟨c',rfl,h5⟩,fun w=>?_⟩
          simp only [Instr.build,Sem.run_bind,qv,Result.andThen_ok,cD hu,hQ hs,h4,Sem.run_pure]
        · simp at h
      · simp at h
    · simp at h
theorem U7 {t:TypeId} {v u r:Value} {f:Nat} (h:lP P t v f=some r) (hv:V M v u):∃ r',V M r r' ∧∀ w,(Instr.field t u f).run P w= .ok r' w:=by
  unfold lP at h
  split at h
  · rename_i fs cs hu
    split at h
    · rename_i d hd
      obtain ⟨dM,rfl,fE⟩:=rM.1 hv
      obtain ⟨r',h1,h2⟩:=MQ h fE
      exact ⟨r',h1,fun w=>by simp only [Instr.field,Sem.run_bind,cD hu,Result.andThen_ok,hd,asAgg,Sem.run_pure,h2]⟩
    · simp at h
  · simp at h
theorem U8 {t:TypeId} {v u i i' r:Value} (h:jS P t v i=some r) (hv:V M v u) (hi:V M i i'):∃ r',V M r r' ∧∀ w,(Instr.index t u i').run P w= .ok r' w:=by
  unfold jS at h
  split at h
  · rename_i n e cs k j hu
    split at h
    · rename_i hj
      split at h
      · rename_i s hs
        obtain ⟨dM,rfl,fE⟩:=rM.1 hv
        obtain rfl:=eG.1 hi
        obtain ⟨r',h1,h2⟩:=MQ h fE
        exact ⟨r',h1,fun w=>by simp only [Instr.index,asIntOf,Sem.run_bind,Sem.run_pure,Result.andThen_ok,cD hu,hj,and_self,if_true,hQ hs,h2]⟩
      · simp at h
    · simp at h
  · rename_i s k j hu
    split at h
    · rename_i hj
      split at h
      · rename_i b hb
        simp only [Option.some.injEq] at h
        subst h
        obtain rfl:=sV.1 hv
        obtain rfl:=eG.1 hi
        exact ⟨_,eG.2 rfl,fun w=>by simp only [Instr.index,asIntOf,Sem.run_bind,Sem.run_pure,Result.andThen_ok,cD hu,hj,if_true,hb]⟩
      · simp at h
    · simp at h
  · simp at h
theorem qx (b o n:Nat):(⟨b,o,none⟩:Addr).add n=⟨b,o+n,none⟩:=by
  unfold Addr.add; split<;>simp_all
theorem U9 {s:TypeId} {v u r:Value} {f:Nat} (h:qn P s v f=some r) (hv:V M v u):∃ r',V M r r' ∧∀ w,(Instr.fieldAt s u f).run P w= .ok r' w:=by
  unfold qn at h
  split at h
  · rename_i fs a hu
    split at h
    · rename_i d hd
      split at h
      · simp at h
      · rename_i z mZ hz
        simp only [Option.some.injEq] at h; subst h
        obtain ⟨x,hx,rfl⟩:=lU.1 hv
        refine ⟨.pointer (some ⟨x.aY,x.off+(a.off+d.offset),none⟩),lU.2 ⟨x,hx,rfl⟩,fun w=>?_⟩
        have Ha:z≠0:=fun e=>mZ (by rw [e])
        simp only [Instr.fieldAt,Instr.sureAddr,fieldPlace,Sem.run_bind,cD hu,Result.andThen_ok,hd,Sem.run_pure,hQ hz,Sem.run_ite,if_neg Ha,qx,Nat.add_assoc]
      · simp at h
    · simp at h
  · simp at h
theorem Va {t:TypeId} {v u i i' r:Value} (h:jT P t v i=some r) (hv:V M v u) (hi:V M i i'):∃ r',V M r r' ∧∀ w,(Instr.indexAt t u i').run P w= .ok r' w:=by
  unfold jT at h
  split at h
  · rename_i n e a k j hu
    split at h
    · rename_i hj
      split at h
      · rename_i s hs
        simp only [Option.some.injEq] at h; subst h
        obtain ⟨x,hx,rfl⟩:=lU.1 hv
        obtain rfl:=eG.1 hi
        refine ⟨.pointer (some ⟨x.aY,x.off+(a.off+j.toNat*s),none⟩),lU.2 ⟨x,hx,rfl⟩,fun w=>?_⟩
        simp only [Instr.indexAt,Instr.sureAddr,asIntOf,Sem.run_bind,Sem.run_pure,Result.andThen_ok,cD hu,hj,and_self,if_true,hQ hs,qx,Nat.add_assoc]
      · simp at h
    · simp at h
  · rename_i e a n c k j hu
    split at h
    · rename_i hj
      split at h
      · rename_i s hs
        simp only [Option.some.injEq] at h; subst h
        obtain ⟨x,b,cr,hx,rfl,mX,hY,hb⟩:=gC.1 hv
        obtain rfl:=eG.1 hi
        have lV:cr≠0:=by rcases hY with hY | hY<;>omega
        obtain rfl:=hb lV
        refine ⟨.pointer (some ⟨x.aY,x.off+(a.off+j.toNat*s),none⟩),lU.2 ⟨x,hx,rfl⟩,fun w=>?_⟩
        simp only [Instr.indexAt,asIntOf,Sem.run_bind,Sem.run_pure,Result.andThen_ok,cD hu,hj,and_self,if_true,hQ hs,qx,Nat.add_assoc]
      · simp at h
    · simp at h
  · simp at h
theorem Vb {t ty:TypeId} {x u r:Value} {ts:Array TypeId} {as:Array Value} (h:mS P t x=some r) (hv:V M x u) (ht:ts[0]? =some t) (ha:as[0]? =some u):V M r r∧∀ w,(Builtin.len_ ts ty as).run P w= .ok r w:=by
  unfold mS at h
  split at h
  · rename_i s hu
    simp only [Option.some.injEq] at h; subst h
    obtain rfl:=sV.1 hv
    exact ⟨eG.2 rfl,fun w=>by simp only [Builtin.len_,ht,ha,Sem.run_bind,cD hu,Result.andThen_ok,Sem.run_pure,goInt]⟩
  · rename_i n e y hu
    simp only [Option.some.injEq] at h; subst h
    exact ⟨eG.2 rfl,fun w=>by simp only [Builtin.len_,ht,ha,Sem.run_bind,cD hu,Result.andThen_ok,Sem.run_pure,goInt]⟩
  · rename_i a y hu
    split at h
    · rename_i n e jy
      simp only [Option.some.injEq] at h; subst h
      exact ⟨eG.2 rfl,fun w=>by simp only [Builtin.len_,ht,ha,Sem.run_bind,cD hu,cD jy,Result.andThen_ok,Sem.run_pure,goInt]⟩
    · simp at h
  · rename_i e a n c hu
    simp only [Option.some.injEq] at h; subst h
    refine ⟨eG.2 rfl,?_⟩
    cases a with
    | none =>
      obtain ⟨rfl,rfl,rfl⟩:=jx.1 hv
      exact fun w=>by simp only [Builtin.len_,ht,ha,Sem.run_bind,cD hu,Result.andThen_ok,Sem.run_pure,goInt]
    | some a =>
      obtain ⟨x,b,cr,hx,rfl,mX,hY,hb⟩:=gC.1 hv
      exact fun w=>by simp only [Builtin.len_,ht,ha,Sem.run_bind,cD hu,Result.andThen_ok,Sem.run_pure,goInt]
  · simp at h
end Go.Proofs.YtkhlabammcghbaaGreat.Gh
