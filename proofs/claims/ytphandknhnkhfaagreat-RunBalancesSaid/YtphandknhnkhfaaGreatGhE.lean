import Derived.Test.YtphandknhnkhfaaGreatGhD
namespace Go.Proofs.YtphandknhnkhfaaGreat.Gh
open Go
variable {P:Program} {M:Map}
theorem Lm (off:Nat):∀ (l:List Value) (k:Nat) (cs:Array Value) (i:Nat),
    ((l.zipIdx k).foldl (fun cs (p:Value×Nat)=>cs.setIfInBounds (off+p.2) p.1) cs).size=cs.size ∧
    ((l.zipIdx k).foldl (fun cs (p:Value×Nat)=>cs.setIfInBounds (off+p.2) p.1) cs)[i]? =
      if off+k≤i∧i<off+k+l.length∧i<cs.size then l[i - (off+k)]? else cs[i]?
  | [],k,cs,i=>by simp; omega
  | x::l,k,cs,i=>by
    obtain ⟨h1,h2⟩:=Lm off l (k+1) (cs.setIfInBounds (off+k) x) i
    simp only [List.zipIdx_cons,List.foldl_cons]
    refine ⟨by rw [h1]; simp,?_⟩
    rw [h2]
    by_cases hi:i=off+k
    · subst hi
      rw [if_neg (by omega)]
      by_cases hs:off+k<cs.size
      · rw [if_pos (by simp; omega)]; simp [hs]
      · rw [if_neg (by omega),Array.setIfInBounds_eq_of_size_le (by omega)]
    · rw [Array.getElem?_setIfInBounds_ne (Ne.symm hi)]
      simp only [Array.size_setIfInBounds,List.length_cons]
      by_cases hc:off+(k+1)≤i∧i<off+(k+1)+l.length∧i<cs.size
      · rw [if_pos hc,if_pos (by omega)]
        have:i - (off+k)=(i - (off+(k+1)))+1:=by omega
        rw [this]; simp
      · rw [if_neg hc,if_neg (by omega)]
def FJ (M:Map) (l l':List (Nat×Value)):Prop:=fh (fun p q=>p.1=q.1∧V M p.2 q.2) l l'
theorem CI {place place':Nat→Option (Nat×Nat)} (hp:∀ i x,place i=some x→place' i=some x) :
    ∀ {parts Af:List (Nat×Value)} {cells c:List Value} {rc:Array Value},qd place cells parts=some c→Vs M cells rc.toList→FJ M parts Af →
      ∃ c',Instr.fill place' rc Af =some c' ∧Vs M c c'.toList
  | [],[],cells,c,rc,h,hc,_=>by
    simp only [qd,Option.some.injEq] at h; subst h
    exact ⟨rc,rfl,hc⟩
  | [],_::_,_,_,_,_,_,hq=>hq.elim
  | _::_,[],_,_,_,_,_,hq=>hq.elim
  | (i,v)::rest,(i',v')::aes,cells,c,rc,h,hc,hq=>by
    obtain ⟨⟨rfl,hv⟩,FK⟩:=hq
    simp only [qd] at h
    split at h
    · rename_i off size nS
      split at h
      · rename_i cQ
        split at h
        · rename_i c1 hs
          obtain ⟨h1,h2,h3⟩:=Ac hs
          have Ln:=FI hv
          have hl:=iQ Ln
          have o9:=iQ hc
          simp only [Array.length_toList] at hl o9 h2 h3
          have pa:Vs M c1 (v'.cells.zipIdx.foldl (fun cs (p:Value×Nat)=>cs.setIfInBounds (off+p.2) p.1) rc).toList:=by
            have key:=fun i=>Lm off v'.cells.toList 0 rc i
            have heq:v'.cells.zipIdx.foldl (fun cs (p:Value×Nat)=>cs.setIfInBounds (off+p.2) p.1) rc=(v'.cells.toList.zipIdx 0).foldl (fun cs (p:Value×Nat)=>cs.setIfInBounds (off+p.2) p.1) rc:=by
              rw [← Array.foldl_toList,Array.toList_zipIdx]
            rw [heq]
            refine iR.2 ⟨(by have lu:=(key 0).1; simp only [Array.length_toList] at lu ⊢; omega),fun i x hx=>?_⟩
            rw [h3 i] at hx
            have hk:=(key i).2
            simp only [Array.getElem?_toList]
            rw [hk]
            by_cases mT:off≤i∧i<off+v.cells.size
            · rw [if_pos mT] at hx
              rw [if_pos (by simp only [Array.length_toList]; omega)]
              simpa using (iR.1 Ln).2 (i - off) x hx
            · rw [if_neg mT] at hx
              rw [if_neg (by simp only [Array.length_toList]; omega)]
              simpa using (iR.1 hc).2 i x hx
          obtain ⟨c',h4,h5⟩:=CI hp h pa FK
          refine ⟨c',?_,h5⟩
          simp only [Instr.fill,hp _ _ nS]
          rw [if_neg (by simp; omega)]
          exact h4
        · simp at h
      · simp at h
    · simp at h
theorem Ag {t:TypeId} {z:List Value} (h:nO P t=some z):∃ i v,P.info? t=some i∧i.zero=some v∧v.cells.toList=z∧v.cells.size=i.size∧(∀ w,(zeroValue t).run P w= .ok v w)∧Vs M z z:=by
  unfold nO at h
  split at h
  · rename_i i hi
    split at h
    · rename_i v hv
      split at h
      · rename_i hc
        simp only [Bool.and_eq_true,decide_eq_true_eq,List.all_eq_true] at hc
        simp only [Option.some.injEq] at h; subst h
        exact ⟨i,v,hi,hv,rfl,hc.1,fun w=>by simp [zeroValue,ry hi,hv],FD fun x hx=>CG (hc.2 x hx)⟩
      · simp at h
    · simp at h
  · simp at h
theorem TU {fs:Array Field} (h:∀ f∈fs.toList,(dN P f.type).isSome=true) (w:World) :
    (fs.mapM fun (f:Field)=>(do pure (f.offset,← sizeOf f.type):Sem (Nat×Nat))).run P w= .ok (fs.map fun (f:Field)=>(f.offset,(dN P f.type).getD 0)) w:=by
  rw [Array.mapM_eq_mapM_toList]
  have key:∀ l:List Field,(∀ f∈l,(dN P f.type).isSome=true)→(l.mapM fun (f:Field)=>(do pure (f.offset,← sizeOf f.type):Sem (Nat×Nat))).run P w= .ok (l.map fun (f:Field)=>(f.offset,(dN P f.type).getD 0)) w:=by
    intro l
    induction l with
    | nil=>intro _; rfl
    | cons f l ih =>
      intro hl
      obtain ⟨s,hs⟩:=Option.isSome_iff_exists.1 (hl f (by simp))
      have TV:=ih fun g hg=>hl g (by simp [hg])
      simp only [List.mapM_cons,Sem.run_bind,ia hs,Result.andThen_ok,Sem.run_pure,TV,List.map_cons,hs,Option.getD_some]
  simp only [Sem.run_map,key _ h,Result.andThen_ok]
  congr 1
  apply Array.toList_inj.1
  simp
theorem TX {t:TypeId} {parts:List (Nat×Value)} {Af:Array (Nat×Value)} {v:Value} (h:qZ P t parts=some v) (hq:FJ M parts Af.toList) :
    ∃ u,V M v u∧∀ w,(Instr.build t Af).run P w= .ok u w:=by
  unfold qZ at h
  split at h
  · simp at h
  · rename_i z hz
    obtain ⟨i,zv,hi,CJ,rfl,uG,qh,sP⟩:=Ag (M:=M) hz
    split at h
    · rename_i fs hu
      split at h
      · rename_i qi
        split at h
        · rename_i c hc
          simp only [Option.some.injEq] at h; subst h
          have TY:∀ f∈fs.toList,(dN P f.type).isSome=true:=fun f hf=>List.all_eq_true.1 qi f hf
          have hp:∀ i x,Cx P fs i=some x→(fs.map fun (f:Field)=>(f.offset,(dN P f.type).getD 0))[i]? =some x:=by
            intro i x hx
            unfold Cx at hx
            split at hx
            · rename_i f hf
              split at hx
              · rename_i s hs
                simp only [Option.some.injEq] at hx; subst hx
                simp [hf,hs]
              · simp at hx
            · simp at hx
          obtain ⟨c',h4,h5⟩:=CI hp hc sP hq
          refine ⟨.agg c',ru.2 ⟨c',rfl,h5⟩,fun w=>?_⟩
          simp only [Instr.build,Sem.run_bind,qh,Result.andThen_ok,cM hu,TU TY,h4,Sem.run_pure]
        · simp at h
      · simp at h
    · rename_i n e hu
      split at h
      · rename_i s hs
        split at h
        · rename_i c hc
          simp only [Option.some.injEq] at h; subst h
          obtain ⟨c',h4,h5⟩:=CI (place':=fun i=>some (i*s,s)) (fun _ _ h=>h) hc sP hq
          refine ⟨.agg c',ru.2 ⟨c',rfl,h5⟩,fun w=>?_⟩
          simp only [Instr.build,Sem.run_bind,qh,Result.andThen_ok,cM hu,ia hs,h4,Sem.run_pure]
        · simp at h
      · simp at h
    · simp at h
theorem T0 {t:TypeId} {v u r:Value} {f:Nat} (h:lW P t v f=some r) (hv:V M v u):∃ r',V M r r' ∧∀ w,(Instr.field t u f).run P w= .ok r' w:=by
  unfold lW at h
  split at h
  · rename_i fs cs hu
    split at h
    · rename_i d hd
      obtain ⟨dX,rfl,iH⟩:=ru.1 hv
      obtain ⟨r',h1,h2⟩:=Ll h iH
      exact ⟨r',h1,fun w=>by simp only [Instr.field,Sem.run_bind,cM hu,Result.andThen_ok,hd,asAgg,Sem.run_pure,h2]⟩
    · simp at h
  · simp at h
theorem T3 {t:TypeId} {v u i i' r:Value} (h:kx P t v i=some r) (hv:V M v u) (hi:V M i i'):∃ r',V M r r' ∧∀ w,(Instr.index t u i').run P w= .ok r' w:=by
  unfold kx at h
  split at h
  · rename_i n e cs k j hu
    split at h
    · rename_i hj
      split at h
      · rename_i s hs
        obtain ⟨dX,rfl,iH⟩:=ru.1 hv
        obtain rfl:=eM.1 hi
        obtain ⟨r',h1,h2⟩:=Ll h iH
        exact ⟨r',h1,fun w=>by simp only [Instr.index,asIntOf,Sem.run_bind,Sem.run_pure,Result.andThen_ok,cM hu,hj,and_self,if_true,ia hs,h2]⟩
      · simp at h
    · simp at h
  · rename_i s k j hu
    split at h
    · rename_i hj
      split at h
      · rename_i b hb
        simp only [Option.some.injEq] at h
        subst h
        obtain rfl:=sL.1 hv
        obtain rfl:=eM.1 hi
        exact ⟨_,eM.2 rfl,fun w=>by simp only [Instr.index,asIntOf,Sem.run_bind,Sem.run_pure,Result.andThen_ok,cM hu,hj,if_true,hb]⟩
      · simp at h
    · simp at h
  · simp at h
theorem qj (b o n:Nat):(⟨b,o,none⟩:Addr).add n=⟨b,o+n,none⟩:=by
  unfold Addr.add; split<;>simp_all
theorem T4 {s:TypeId} {v u r:Value} {f:Nat} (h:re P s v f=some r) (hv:V M v u):∃ r',V M r r' ∧∀ w,(Instr.fieldAt s u f).run P w= .ok r' w:=by
  unfold re at h
  split at h
  · rename_i fs a hu
    split at h
    · rename_i d hd
      split at h
      · simp at h
      · rename_i z FM hz
        simp only [Option.some.injEq] at h; subst h
        obtain ⟨x,hx,rfl⟩:=mc.1 hv
        refine ⟨.pointer (some ⟨x.aZ,x.off+(a.off+d.offset),none⟩),mc.2 ⟨x,hx,rfl⟩,fun w=>?_⟩
        have FN:z≠0:=fun e=>FM (by rw [e])
        simp only [Instr.fieldAt,Instr.sureAddr,fieldPlace,Sem.run_bind,cM hu,Result.andThen_ok,hd,Sem.run_pure,ia hz,Sem.run_ite,if_neg FN,qj,Nat.add_assoc]
      · simp at h
    · simp at h
  · simp at h
theorem T5 {t:TypeId} {v u i i' r:Value} (h:ky P t v i=some r) (hv:V M v u) (hi:V M i i'):∃ r',V M r r' ∧∀ w,(Instr.indexAt t u i').run P w= .ok r' w:=by
  unfold ky at h
  split at h
  · rename_i n e a k j hu
    split at h
    · rename_i hj
      split at h
      · rename_i s hs
        simp only [Option.some.injEq] at h; subst h
        obtain ⟨x,hx,rfl⟩:=mc.1 hv
        obtain rfl:=eM.1 hi
        refine ⟨.pointer (some ⟨x.aZ,x.off+(a.off+j.toNat*s),none⟩),mc.2 ⟨x,hx,rfl⟩,fun w=>?_⟩
        simp only [Instr.indexAt,Instr.sureAddr,asIntOf,Sem.run_bind,Sem.run_pure,Result.andThen_ok,cM hu,hj,and_self,if_true,ia hs,qj,Nat.add_assoc]
      · simp at h
    · simp at h
  · rename_i e a n c k j hu
    split at h
    · rename_i hj
      split at h
      · rename_i s hs
        simp only [Option.some.injEq] at h; subst h
        obtain ⟨x,b,cr,hx,rfl,o9,gm,hb⟩:=gN.1 hv
        obtain rfl:=eM.1 hi
        have mf:cr≠0:=by rcases gm with gm | gm<;>omega
        obtain rfl:=hb mf
        refine ⟨.pointer (some ⟨x.aZ,x.off+(a.off+j.toNat*s),none⟩),mc.2 ⟨x,hx,rfl⟩,fun w=>?_⟩
        simp only [Instr.indexAt,asIntOf,Sem.run_bind,Sem.run_pure,Result.andThen_ok,cM hu,hj,and_self,if_true,ia hs,qj,Nat.add_assoc]
      · simp at h
    · simp at h
  · simp at h
theorem T6 {t ty:TypeId} {x u r:Value} {ts:Array TypeId} {as:Array Value} (h:mQ P t x=some r) (hv:V M x u) (ht:ts[0]? =some t) (ha:as[0]? =some u):V M r r∧∀ w,(Builtin.len_ ts ty as).run P w= .ok r w:=by
  unfold mQ at h
  split at h
  · rename_i s hu
    simp only [Option.some.injEq] at h; subst h
    obtain rfl:=sL.1 hv
    exact ⟨eM.2 rfl,fun w=>by simp only [Builtin.len_,ht,ha,Sem.run_bind,cM hu,Result.andThen_ok,Sem.run_pure,goInt]⟩
  · rename_i n e y hu
    simp only [Option.some.injEq] at h; subst h
    exact ⟨eM.2 rfl,fun w=>by simp only [Builtin.len_,ht,ha,Sem.run_bind,cM hu,Result.andThen_ok,Sem.run_pure,goInt]⟩
  · rename_i a y hu
    split at h
    · rename_i n e mU
      simp only [Option.some.injEq] at h; subst h
      exact ⟨eM.2 rfl,fun w=>by simp only [Builtin.len_,ht,ha,Sem.run_bind,cM hu,cM mU,Result.andThen_ok,Sem.run_pure,goInt]⟩
    · simp at h
  · rename_i e a n c hu
    simp only [Option.some.injEq] at h; subst h
    refine ⟨eM.2 rfl,?_⟩
    cases a with
    | none =>
      obtain ⟨rfl,rfl,rfl⟩:=jN.1 hv
      exact fun w=>by simp only [Builtin.len_,ht,ha,Sem.run_bind,cM hu,Result.andThen_ok,Sem.run_pure,goInt]
    | some a =>
      obtain ⟨x,b,cr,hx,rfl,o9,gm,hb⟩:=gN.1 hv
      exact fun w=>by simp only [Builtin.len_,ht,ha,Sem.run_bind,cM hu,Result.andThen_ok,Sem.run_pure,goInt]
  · simp at h
end Go.Proofs.YtphandknhnkhfaaGreat.Gh
