import Derived.Test.YtkhlabammcghbaaGreatGhE
namespace Go.Proofs.YtkhlabammcghbaaGreat.Gh
open Go
variable {P:Program} {M:Map}
theorem Hb {α β γ:Type} {R:α→β→Prop} {f:γ→α} {g:γ→β}:∀ (l:List γ),(∀ x∈l,R (f x) (g x))→eT R (l.map f) (l.map g)
  | [],_=>trivial
  | x::l,h=>⟨h x (by simp),Hb l fun y hy=>h y (by simp [hy])⟩
theorem Dy {T:List Value} {a:Act} (hT:Vs M T a.tmps.toList) {l:List Operand} (h:l.all db=true):Vs M (l.map (ev T)) (l.map a.eval) :=
  Hb l fun x hx=>cV hT (List.all_eq_true.1 h x hx)
theorem MU {T:List Value} {a:Act} (hT:Vs M T a.tmps.toList) {ps:Array (Nat×Operand)} (h:Mz ps.toList=true) :
    GY M (ps.toList.map fun p=>(p.1,ev T p.2)) (ps.map fun (i,x)=>(i,a.eval x)).toList:=by
  rw [Array.toList_map]
  exact Hb _ fun x hx=>⟨rfl,cV hT (List.all_eq_true.1 h x hx)⟩
theorem Vc {α:Type} {a:Array α} {x:α} (h:a.toList=[x]):a= #[x]:=by
  apply Array.toList_inj.1; simpa using h
theorem MV {ok:Bool} {x u v:Value} (hx:V M x u) (h:Dm ok x=some v):V M v (if ok then .tuple #[u,.bool true] else u):=by
  simp only [Dm,Option.some.injEq] at h
  subst h
  cases ok
  · exact hx
  · exact rN.2 ⟨_,rfl,hx,iX.2 rfl,trivial⟩
theorem Dz {asserted:TypeId} {ok:Bool} {v:Value} (h:yr P asserted ok=some v):ok=true∧∃ z,v= .tuple #[z,.bool false]∧V M v v∧∀ w,(zeroValue asserted).run P w= .ok z w:=by
  unfold yr at h
  split at h
  · rename_i aV
    split at h
    · rename_i z hz
      split at h
      · rename_i hp
        simp only [Option.some.injEq] at h
        refine ⟨aV,z,h.symm,by rw [← h]; exact rN.2 ⟨_,rfl,Du hp,iX.2 rfl,trivial⟩,fun w=>?_⟩
        unfold zeroV at hz
        split at hz
        · rename_i i hi
          simp [zeroValue,rO hi,hz]
        · simp at hz
      · simp at h
    · simp at h
  · simp at h
theorem Vd {x u v:Value} {xt asserted:TypeId} {ok:Bool} (hx:V M x u) (h:AB P x asserted ok=some v):∃ r,V M v r∧∀ w,(Instr.typeAssert u xt asserted ok).run P w= .ok r w:=by
  unfold AB at h
  split at h
  · simp at h
  · rename_i want hu
    unfold ME at h
    split at h
    · obtain ⟨rfl,z,rfl,h1,h2⟩:=Dz (M:=M) h
      rw [uR.1 hx]
      exact ⟨_,h1,fun w=>by simp only [Instr.typeAssert,Sem.run_bind,cD hu,Result.andThen_ok,if_true,h2,Sem.run_pure]⟩
    · rename_i t y
      obtain ⟨y',rfl,hy⟩:=pd.1 hx
      split at h
      · rename_i i hi
        split at h
        · rename_i hm
          exact ⟨_,MV hx h,fun w=>by simp only [Instr.typeAssert,Sem.run_bind,cD hu,Result.andThen_ok,rO hi,hm,Sem.run_pure]⟩
        · rename_i m hm
          obtain ⟨rfl,z,rfl,h1,h2⟩:=Dz (M:=M) h
          exact ⟨_,h1,fun w=>by simp only [Instr.typeAssert,Sem.run_bind,cD hu,Result.andThen_ok,rO hi,hm,if_true,h2,Sem.run_pure]⟩
      · simp at h
    · simp at h
  · rename_i d Ve hu
    have wx:∀ want,d≠ .interface want:=fun want e=>Ve want (by rw [e])
    unfold MF at h
    split at h
    · obtain ⟨rfl,z,rfl,h1,h2⟩:=Dz (M:=M) h
      rw [uR.1 hx]
      refine ⟨_,h1,fun w=>?_⟩
      cases d<;>first
        | exact absurd rfl (wx _)
        | simp only [Instr.typeAssert,Sem.run_bind,cD hu,Result.andThen_ok,if_true,h2,Sem.run_pure]
    · rename_i t y
      obtain ⟨y',rfl,hy⟩:=pd.1 hx
      split at h
      · rename_i ht
        refine ⟨_,MV hy h,fun w=>?_⟩
        cases d<;>first
          | exact absurd rfl (wx _)
          | simp only [Instr.typeAssert,Sem.run_bind,cD hu,Result.andThen_ok,if_pos ht,Sem.run_pure]
      · rename_i ht
        obtain ⟨rfl,z,rfl,h1,h2⟩:=Dz (M:=M) h
        refine ⟨_,h1,fun w=>?_⟩
        cases d<;>first
          | exact absurd rfl (wx _)
          | simp only [Instr.typeAssert,Sem.run_bind,cD hu,Result.andThen_ok,if_neg ht,if_true,h2,Sem.run_pure]
    · simp at h
theorem Vf {T:List Value} {a:Act} (hT:Vs M T a.tmps.toList) {o:Oper} {v:Value} (aV:dL o.op=true) (h:nO P T o.op=some v) :
    ∃ u,V M v u∧∀ w,(execOp a.eval o).run P w= .ok (.value u) w:=by
  obtain ⟨dst,op,ty,pos,after,guard⟩:=o
  cases op<;>simp only [nO,dL,Bool.and_eq_true,reduceCtorEq] at h aV
  case typeAssert x xt asserted ok =>
    obtain ⟨r,h1,h2⟩:=Vd (xt:=xt) (cV hT aV) h
    exact ⟨r,h1,fun w=>by simp only [execOp,Sem.run_bind,h2,Result.andThen_ok,Sem.run_pure]⟩
  case move x=>simp only [Option.some.injEq] at h; subst h; exact ⟨_,cV hT aV,fun w=>rfl⟩
  case assign x=>simp only [Option.some.injEq] at h; subst h; exact ⟨_,cV hT aV,fun w=>rfl⟩
  case pick c x y =>
    have hc:=cV hT aV.1.1
    split at h
    · rename_i t Vg
      rw [Vg] at hc
      have uT:=iX.1 hc
      simp only [Option.some.injEq] at h; subst h
      refine ⟨if t then a.eval x else a.eval y,?_,fun w=>?_⟩
      · split
        · exact cV hT aV.1.2
        · exact cV hT aV.2
      · simp only [execOp,uT,asBool,pure_bind,Sem.run_pure]
    · simp at h
  case nilCheck x =>
    have hx:=cV hT aV
    split at h
    · rename_i p hp
      rw [hp] at hx
      obtain ⟨y,hy,hu⟩:=lU.1 hx
      simp only [Option.some.injEq] at h; subst h
      exact ⟨_,lU.2 ⟨y,hy,rfl⟩,fun w=>by simp only [execOp,hu,Sem.run_pure]⟩
    · rename_i f b c hp
      rw [hp] at hx
      obtain ⟨f',b',c',hu,hf,h1,h2⟩:=kT.1 hx
      simp only [wq] at hf; subst hf
      simp only [Option.some.injEq] at h; subst h
      exact ⟨_,kT.2 ⟨_,_,_,rfl,rfl,h1,h2⟩,fun w=>by simp only [execOp,hu,Sem.run_pure]⟩
    · rename_i f b c hp
      rw [hp] at hx
      obtain ⟨f',b',c',hu,hf,h1,h2⟩:=kT.1 hx
      obtain ⟨r,hr,rfl⟩:=hf
      simp only [Option.some.injEq] at h; subst h
      exact ⟨_,kT.2 ⟨_,_,_,rfl,⟨r,hr,rfl⟩,h1,h2⟩,fun w=>by simp only [execOp,hu,Sem.run_pure]⟩
    · rename_i t y hp
      rw [hp] at hx
      obtain ⟨y',hu,h1⟩:=pd.1 hx
      simp only [Option.some.injEq] at h; subst h
      exact ⟨_,pd.2 ⟨_,rfl,h1⟩,fun w=>by simp only [execOp,hu,Sem.run_pure]⟩
    · simp at h
  case binOp op t x y yt =>
    obtain ⟨u,h1,h2⟩:=U1 h (cV hT aV.1) (cV hT aV.2)
    exact ⟨u,h1,fun w=>by simp only [execOp,Sem.run_bind] at h2 ⊢; simp only [h2,Result.andThen_ok,Sem.run_pure]⟩
  case unOp op t x =>
    split at h
    · rename_i hp
      obtain ⟨h1,h2⟩:=wv (M:=M) h
      refine ⟨v,h1,fun w=>?_⟩
      have he:=sX hp (cV hT aV)
      simp only [execOp,he,Sem.run_bind,h2,Result.andThen_ok,Sem.run_pure]
    · simp at h
  case convert s d x =>
    split at h
    · rename_i hp
      obtain ⟨h1,h2⟩:=wv (M:=M) h
      refine ⟨v,h1,fun w=>?_⟩
      have he:=sX hp (cV hT aV)
      simp only [execOp,he,Sem.run_bind,h2,Result.andThen_ok,Sem.run_pure]
    · simp at h
  case makeInterface t x =>
    split at h
    · simp at h
    · rename_i d hd hu
      simp only [Option.some.injEq] at h; subst h
      refine ⟨.iface t (a.eval x),pd.2 ⟨_,rfl,cV hT aV⟩,fun w=>?_⟩
      simp only [execOp,Instr.makeInterface,Sem.run_bind,cD hu,Result.andThen_ok,Sem.run_pure]
    · simp at h
  case makeFunc fn first captured =>
    cases fn<;>simp only [reduceCtorEq] at h
    rename_i f
    simp only [Option.some.injEq] at h; subst h
    refine ⟨.func (.func f) (first.map a.eval) (captured.map a.eval),kT.2 ⟨.func f,_,_,rfl,rfl,?_,?_⟩,fun w=>rfl⟩
    · rw [Array.toList_map,Array.toList_map]; exact Dy hT aV.1
    · rw [Array.toList_map,Array.toList_map]; exact Dy hT aV.2
  case build t parts =>
    obtain ⟨u,h1,h2⟩:=U5 h (MU hT aV)
    exact ⟨u,h1,fun w=>by simp only [execOp,Sem.run_bind,h2,Result.andThen_ok,Sem.run_pure]⟩
  case field t x f =>
    obtain ⟨u,h1,h2⟩:=U7 h (cV hT aV)
    exact ⟨u,h1,fun w=>by simp only [execOp,Sem.run_bind,h2,Result.andThen_ok,Sem.run_pure]⟩
  case index t x i =>
    obtain ⟨u,h1,h2⟩:=U8 h (cV hT aV.1) (cV hT aV.2)
    exact ⟨u,h1,fun w=>by simp only [execOp,Sem.run_bind,h2,Result.andThen_ok,Sem.run_pure]⟩
  case fieldAddr s x f =>
    obtain ⟨u,h1,h2⟩:=U9 h (cV hT aV)
    exact ⟨u,h1,fun w=>by simp only [execOp,Sem.run_bind,h2,Result.andThen_ok,Sem.run_pure]⟩
  case indexAddr t x i =>
    obtain ⟨u,h1,h2⟩:=Va h (cV hT aV.1) (cV hT aV.2)
    exact ⟨u,h1,fun w=>by simp only [execOp,Sem.run_bind,h2,Result.andThen_ok,Sem.run_pure]⟩
  case extract x i =>
    have hx:=cV hT aV
    split at h
    · rename_i vs nQ
      rw [nQ] at hx
      obtain ⟨cs,hu,fE⟩:=rN.1 hx
      obtain ⟨u,h1,h2⟩:=MP fE h
      refine ⟨u,h2,fun w=>?_⟩
      have ft:cs[i]? =some u:=by simpa using h1
      simp only [execOp,hu,Instr.extract,ft,Sem.run_bind,Sem.run_pure,Result.andThen_ok]
    · simp at h
  case call c =>
    obtain ⟨callee,args,argTypes⟩:=c
    simp only at h aV
    split at h
    · split at h
      · rename_i t x ht hx
        have gR:=Vc hx
        subst gR
        have Vh:db x=true:=by simpa using aV.2
        obtain ⟨h1,h2⟩:=Vb (ty:=ty) (as:=#[a.eval x]) h (cV hT Vh) ht rfl
        refine ⟨v,h1,fun w=>?_⟩
        simp only [execOp,resolve,invoke,builtin,Array.map,Sem.run_bind,Sem.run_pure,Result.andThen_ok] at h2 ⊢
        simp [h2]
      · simp at h
    · split at h
      · rename_i hp
        obtain ⟨h1,h2⟩:=wv (M:=M) h
        refine ⟨v,h1,fun w=>?_⟩
        have he:args.map a.eval=args.map (ev T):=by
          apply Array.map_congr_left
          intro x hx
          refine sX (M:=M) ?_ (cV hT (List.all_eq_true.1 aV.2 x (by simpa using hx)))
          exact List.all_eq_true.1 hp _ (List.mem_map.2 ⟨x,by simpa using hx,rfl⟩)
        have iw:∀ w,(Builtin.min_ argTypes ty (args.map (ev T))).run P w= .ok v w:=h2
        simp only [execOp,resolve,invoke,builtin,he,Sem.run_bind,Sem.run_pure,Result.andThen_ok,iw]
      · simp at h
    · split at h
      · rename_i hp
        obtain ⟨h1,h2⟩:=wv (M:=M) h
        refine ⟨v,h1,fun w=>?_⟩
        have he:args.map a.eval=args.map (ev T):=by
          apply Array.map_congr_left
          intro x hx
          refine sX (M:=M) ?_ (cV hT (List.all_eq_true.1 aV.2 x (by simpa using hx)))
          exact List.all_eq_true.1 hp _ (List.mem_map.2 ⟨x,by simpa using hx,rfl⟩)
        have iw:∀ w,(Builtin.max_ argTypes ty (args.map (ev T))).run P w= .ok v w:=h2
        simp only [execOp,resolve,invoke,builtin,he,Sem.run_bind,Sem.run_pure,Result.andThen_ok,iw]
      · simp at h
    · simp at h
end Go.Proofs.YtkhlabammcghbaaGreat.Gh
