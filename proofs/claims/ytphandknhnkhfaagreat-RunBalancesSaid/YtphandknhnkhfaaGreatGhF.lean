import Derived.Test.YtphandknhnkhfaaGreatGhE
namespace Go.Proofs.YtphandknhnkhfaaGreat.Gh
open Go
variable {P:Program} {M:Map}
theorem FO {α β γ:Type} {R:α→β→Prop} {f:γ→α} {g:γ→β}:∀ (l:List γ),(∀ x∈l,R (f x) (g x))→fh R (l.map f) (l.map g)
  | [],_=>trivial
  | x::l,h=>⟨h x (by simp),FO l fun y hy=>h y (by simp [hy])⟩
theorem CK {T:List Value} {a:Act} (hT:Vs M T a.tmps.toList) {l:List Operand} (h:l.all dm=true):Vs M (l.map (ev T)) (l.map a.eval) :=
  FO l fun x hx=>dh hT (List.all_eq_true.1 h x hx)
theorem Lo {T:List Value} {a:Act} (hT:Vs M T a.tmps.toList) {ps:Array (Nat×Operand)} (h:K4 ps.toList=true) :
    FJ M (ps.toList.map fun p=>(p.1,ev T p.2)) (ps.map fun (i,x)=>(i,a.eval x)).toList:=by
  rw [Array.toList_map]
  exact FO _ fun x hx=>⟨rfl,dh hT (List.all_eq_true.1 h x hx)⟩
theorem T7 {α:Type} {a:Array α} {x:α} (h:a.toList=[x]):a= #[x]:=by
  apply Array.toList_inj.1; simpa using h
theorem Lq {ok:Bool} {x u v:Value} (hx:V M x u) (h:Cy ok x=some v):V M v (if ok then .tuple #[u,.bool true] else u):=by
  simp only [Cy,Option.some.injEq] at h
  subst h
  cases ok
  · exact hx
  · exact rv.2 ⟨_,rfl,hx,ji.2 rfl,trivial⟩
theorem CL {asserted:TypeId} {ok:Bool} {v:Value} (h:xV P asserted ok=some v):ok=true∧∃ z,v= .tuple #[z,.bool false]∧V M v v∧∀ w,(zeroValue asserted).run P w= .ok z w:=by
  unfold xV at h
  split at h
  · rename_i aP
    split at h
    · rename_i z hz
      split at h
      · rename_i hp
        simp only [Option.some.injEq] at h
        refine ⟨aP,z,h.symm,by rw [← h]; exact rv.2 ⟨_,rfl,CG hp,ji.2 rfl,trivial⟩,fun w=>?_⟩
        unfold zeroV at hz
        split at hz
        · rename_i i hi
          simp [zeroValue,ry hi,hz]
        · simp at hz
      · simp at h
    · simp at h
  · simp at h
theorem T8 {x u v:Value} {xt asserted:TypeId} {ok:Bool} (hx:V M x u) (h:z9 P x asserted ok=some v):∃ r,V M v r∧∀ w,(Instr.typeAssert u xt asserted ok).run P w= .ok r w:=by
  unfold z9 at h
  split at h
  · simp at h
  · rename_i want hu
    unfold K9 at h
    split at h
    · obtain ⟨rfl,z,rfl,h1,h2⟩:=CL (M:=M) h
      rw [uF.1 hx]
      exact ⟨_,h1,fun w=>by simp only [Instr.typeAssert,Sem.run_bind,cM hu,Result.andThen_ok,if_true,h2,Sem.run_pure]⟩
    · rename_i t y
      obtain ⟨y',rfl,hy⟩:=oZ.1 hx
      split at h
      · rename_i i hi
        split at h
        · rename_i hm
          exact ⟨_,Lq hx h,fun w=>by simp only [Instr.typeAssert,Sem.run_bind,cM hu,Result.andThen_ok,ry hi,hm,Sem.run_pure]⟩
        · rename_i m hm
          obtain ⟨rfl,z,rfl,h1,h2⟩:=CL (M:=M) h
          exact ⟨_,h1,fun w=>by simp only [Instr.typeAssert,Sem.run_bind,cM hu,Result.andThen_ok,ry hi,hm,if_true,h2,Sem.run_pure]⟩
      · simp at h
    · simp at h
  · rename_i d T9 hu
    have vX:∀ want,d≠ .interface want:=fun want e=>T9 want (by rw [e])
    unfold La at h
    split at h
    · obtain ⟨rfl,z,rfl,h1,h2⟩:=CL (M:=M) h
      rw [uF.1 hx]
      refine ⟨_,h1,fun w=>?_⟩
      cases d<;>first
        | exact absurd rfl (vX _)
        | simp only [Instr.typeAssert,Sem.run_bind,cM hu,Result.andThen_ok,if_true,h2,Sem.run_pure]
    · rename_i t y
      obtain ⟨y',rfl,hy⟩:=oZ.1 hx
      split at h
      · rename_i ht
        refine ⟨_,Lq hy h,fun w=>?_⟩
        cases d<;>first
          | exact absurd rfl (vX _)
          | simp only [Instr.typeAssert,Sem.run_bind,cM hu,Result.andThen_ok,if_pos ht,Sem.run_pure]
      · rename_i ht
        obtain ⟨rfl,z,rfl,h1,h2⟩:=CL (M:=M) h
        refine ⟨_,h1,fun w=>?_⟩
        cases d<;>first
          | exact absurd rfl (vX _)
          | simp only [Instr.typeAssert,Sem.run_bind,cM hu,Result.andThen_ok,if_neg ht,if_true,h2,Sem.run_pure]
    · simp at h
theorem Ua {T:List Value} {a:Act} (hT:Vs M T a.tmps.toList) {o:Oper} {v:Value} (aP:dW o.op=true) (h:nP P T o.op=some v) :
    ∃ u,V M v u∧∀ w,(execOp a.eval o).run P w= .ok (.value u) w:=by
  obtain ⟨dst,op,ty,pos,after,guard⟩:=o
  cases op<;>simp only [nP,dW,Bool.and_eq_true,reduceCtorEq] at h aP
  case typeAssert x xt asserted ok =>
    obtain ⟨r,h1,h2⟩:=T8 (xt:=xt) (dh hT aP) h
    exact ⟨r,h1,fun w=>by simp only [execOp,Sem.run_bind,h2,Result.andThen_ok,Sem.run_pure]⟩
  case move x=>simp only [Option.some.injEq] at h; subst h; exact ⟨_,dh hT aP,fun w=>rfl⟩
  case assign x=>simp only [Option.some.injEq] at h; subst h; exact ⟨_,dh hT aP,fun w=>rfl⟩
  case pick c x y =>
    have hc:=dh hT aP.1.1
    split at h
    · rename_i t Ub
      rw [Ub] at hc
      have nT:=ji.1 hc
      simp only [Option.some.injEq] at h; subst h
      refine ⟨if t then a.eval x else a.eval y,?_,fun w=>?_⟩
      · split
        · exact dh hT aP.1.2
        · exact dh hT aP.2
      · simp only [execOp,nT,asBool,pure_bind,Sem.run_pure]
    · simp at h
  case nilCheck x =>
    have hx:=dh hT aP
    split at h
    · rename_i p hp
      rw [hp] at hx
      obtain ⟨y,hy,hu⟩:=mc.1 hx
      simp only [Option.some.injEq] at h; subst h
      exact ⟨_,mc.2 ⟨y,hy,rfl⟩,fun w=>by simp only [execOp,hu,Sem.run_pure]⟩
    · rename_i f b c hp
      rw [hp] at hx
      obtain ⟨f',b',c',hu,hf,h1,h2⟩:=lj.1 hx
      simp only [vV] at hf; subst hf
      simp only [Option.some.injEq] at h; subst h
      exact ⟨_,lj.2 ⟨_,_,_,rfl,rfl,h1,h2⟩,fun w=>by simp only [execOp,hu,Sem.run_pure]⟩
    · rename_i f b c hp
      rw [hp] at hx
      obtain ⟨f',b',c',hu,hf,h1,h2⟩:=lj.1 hx
      obtain ⟨r,hr,rfl⟩:=hf
      simp only [Option.some.injEq] at h; subst h
      exact ⟨_,lj.2 ⟨_,_,_,rfl,⟨r,hr,rfl⟩,h1,h2⟩,fun w=>by simp only [execOp,hu,Sem.run_pure]⟩
    · rename_i t y hp
      rw [hp] at hx
      obtain ⟨y',hu,h1⟩:=oZ.1 hx
      simp only [Option.some.injEq] at h; subst h
      exact ⟨_,oZ.2 ⟨_,rfl,h1⟩,fun w=>by simp only [execOp,hu,Sem.run_pure]⟩
    · simp at h
  case binOp op t x y yt =>
    obtain ⟨u,h1,h2⟩:=TS h (dh hT aP.1) (dh hT aP.2)
    exact ⟨u,h1,fun w=>by simp only [execOp,Sem.run_bind] at h2 ⊢; simp only [h2,Result.andThen_ok,Sem.run_pure]⟩
  case unOp op t x =>
    split at h
    · rename_i hp
      obtain ⟨h1,h2⟩:=vW (M:=M) h
      refine ⟨v,h1,fun w=>?_⟩
      have he:=sN hp (dh hT aP)
      simp only [execOp,he,Sem.run_bind,h2,Result.andThen_ok,Sem.run_pure]
    · simp at h
  case convert s d x =>
    split at h
    · rename_i hp
      obtain ⟨h1,h2⟩:=vW (M:=M) h
      refine ⟨v,h1,fun w=>?_⟩
      have he:=sN hp (dh hT aP)
      simp only [execOp,he,Sem.run_bind,h2,Result.andThen_ok,Sem.run_pure]
    · simp at h
  case makeInterface t x =>
    split at h
    · simp at h
    · rename_i d hd hu
      simp only [Option.some.injEq] at h; subst h
      refine ⟨.iface t (a.eval x),oZ.2 ⟨_,rfl,dh hT aP⟩,fun w=>?_⟩
      simp only [execOp,Instr.makeInterface,Sem.run_bind,cM hu,Result.andThen_ok,Sem.run_pure]
    · simp at h
  case makeFunc fn first captured =>
    cases fn<;>simp only [reduceCtorEq] at h
    rename_i f
    simp only [Option.some.injEq] at h; subst h
    refine ⟨.func (.func f) (first.map a.eval) (captured.map a.eval),lj.2 ⟨.func f,_,_,rfl,rfl,?_,?_⟩,fun w=>rfl⟩
    · rw [Array.toList_map,Array.toList_map]; exact CK hT aP.1
    · rw [Array.toList_map,Array.toList_map]; exact CK hT aP.2
  case build t parts =>
    obtain ⟨u,h1,h2⟩:=TX h (Lo hT aP)
    exact ⟨u,h1,fun w=>by simp only [execOp,Sem.run_bind,h2,Result.andThen_ok,Sem.run_pure]⟩
  case field t x f =>
    obtain ⟨u,h1,h2⟩:=T0 h (dh hT aP)
    exact ⟨u,h1,fun w=>by simp only [execOp,Sem.run_bind,h2,Result.andThen_ok,Sem.run_pure]⟩
  case index t x i =>
    obtain ⟨u,h1,h2⟩:=T3 h (dh hT aP.1) (dh hT aP.2)
    exact ⟨u,h1,fun w=>by simp only [execOp,Sem.run_bind,h2,Result.andThen_ok,Sem.run_pure]⟩
  case fieldAddr s x f =>
    obtain ⟨u,h1,h2⟩:=T4 h (dh hT aP)
    exact ⟨u,h1,fun w=>by simp only [execOp,Sem.run_bind,h2,Result.andThen_ok,Sem.run_pure]⟩
  case indexAddr t x i =>
    obtain ⟨u,h1,h2⟩:=T5 h (dh hT aP.1) (dh hT aP.2)
    exact ⟨u,h1,fun w=>by simp only [execOp,Sem.run_bind,h2,Result.andThen_ok,Sem.run_pure]⟩
  case extract x i =>
    have hx:=dh hT aP
    split at h
    · rename_i vs nU
      rw [nU] at hx
      obtain ⟨cs,hu,iH⟩:=rv.1 hx
      obtain ⟨u,h1,h2⟩:=Lk iH h
      refine ⟨u,h2,fun w=>?_⟩
      have eN:cs[i]? =some u:=by simpa using h1
      simp only [execOp,hu,Instr.extract,eN,Sem.run_bind,Sem.run_pure,Result.andThen_ok]
    · simp at h
  case call c =>
    obtain ⟨callee,args,argTypes⟩:=c
    simp only at h aP
    split at h
    · split at h
      · rename_i t x ht hx
        have di:=T7 hx
        subst di
        have Uc:dm x=true:=by simpa using aP.2
        obtain ⟨h1,h2⟩:=T6 (ty:=ty) (as:=#[a.eval x]) h (dh hT Uc) ht rfl
        refine ⟨v,h1,fun w=>?_⟩
        simp only [execOp,resolve,invoke,builtin,Array.map,Sem.run_bind,Sem.run_pure,Result.andThen_ok] at h2 ⊢
        simp [h2]
      · simp at h
    · split at h
      · rename_i hp
        obtain ⟨h1,h2⟩:=vW (M:=M) h
        refine ⟨v,h1,fun w=>?_⟩
        have he:args.map a.eval=args.map (ev T):=by
          apply Array.map_congr_left
          intro x hx
          refine sN (M:=M) ?_ (dh hT (List.all_eq_true.1 aP.2 x (by simpa using hx)))
          exact List.all_eq_true.1 hp _ (List.mem_map.2 ⟨x,by simpa using hx,rfl⟩)
        have iS:∀ w,(Builtin.min_ argTypes ty (args.map (ev T))).run P w= .ok v w:=h2
        simp only [execOp,resolve,invoke,builtin,he,Sem.run_bind,Sem.run_pure,Result.andThen_ok,iS]
      · simp at h
    · split at h
      · rename_i hp
        obtain ⟨h1,h2⟩:=vW (M:=M) h
        refine ⟨v,h1,fun w=>?_⟩
        have he:args.map a.eval=args.map (ev T):=by
          apply Array.map_congr_left
          intro x hx
          refine sN (M:=M) ?_ (dh hT (List.all_eq_true.1 aP.2 x (by simpa using hx)))
          exact List.all_eq_true.1 hp _ (List.mem_map.2 ⟨x,by simpa using hx,rfl⟩)
        have iS:∀ w,(Builtin.max_ argTypes ty (args.map (ev T))).run P w= .ok v w:=h2
        simp only [execOp,resolve,invoke,builtin,he,Sem.run_bind,Sem.run_pure,Result.andThen_ok,iS]
      · simp at h
    · simp at h
end Go.Proofs.YtphandknhnkhfaaGreat.Gh
