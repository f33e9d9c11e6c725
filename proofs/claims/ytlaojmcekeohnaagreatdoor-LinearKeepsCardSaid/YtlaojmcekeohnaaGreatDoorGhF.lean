import Derived.Test.YtlaojmcekeohnaaGreatDoorGhE
namespace Go.Proofs.YtlaojmcekeohnaaGreatDoor.Gh
open Go
variable {P:Program} {M:Map}
theorem lrel_mapMem {α β γ:Type} {R:α→β→Prop} {f:γ→α} {g:γ→β}:∀ (l:List γ),(∀ x∈l,R (f x) (g x))→lrel R (l.map f) (l.map g)
  | [],_=>trivial
  | x::l,h=>⟨h x (by simp),lrel_mapMem l fun y hy=>h y (by simp [hy])⟩
theorem evs_rel {T:List Value} {a:Act} (hT:Vs M T a.tmps.toList) {l:List Operand} (h:l.all okX=true):Vs M (l.map (ev T)) (l.map a.eval) :=
  lrel_mapMem l fun x hx=>ev_rel hT (List.all_eq_true.1 h x hx)
theorem parts_rel {T:List Value} {a:Act} (hT:Vs M T a.tmps.toList) {ps:Array (Nat×Operand)} (h:okP ps.toList=true) :
    partsRel M (ps.toList.map fun p=>(p.1,ev T p.2)) (ps.map fun (i,x)=>(i,a.eval x)).toList:=by
  rw [Array.toList_map]
  exact lrel_mapMem _ fun x hx=>⟨rfl,ev_rel hT (List.all_eq_true.1 h x hx)⟩
theorem toList_one {α:Type} {a:Array α} {x:α} (h:a.toList=[x]):a= #[x]:=by
  apply Array.toList_inj.1; simpa using h
theorem gHolds_run {ok:Bool} {x u v:Value} (hx:V M x u) (h:gHolds ok x=some v):V M v (if ok then .tuple #[u,.bool true] else u):=by
  simp only [gHolds,Option.some.injEq] at h
  subst h
  cases ok
  · exact hx
  · exact V_tuple.2 ⟨_,rfl,hx,V_bool.2 rfl,trivial⟩
theorem gFails_run {asserted:TypeId} {ok:Bool} {v:Value} (h:gFails P asserted ok=some v):ok=true∧∃ z,v= .tuple #[z,.bool false]∧V M v v∧∀ w,(zeroValue asserted).run P w= .ok z w:=by
  unfold gFails at h
  split at h
  · rename_i hok
    split at h
    · rename_i z hz
      split at h
      · rename_i hp
        simp only [Option.some.injEq] at h
        refine ⟨hok,z,h.symm,by rw [← h]; exact V_tuple.2 ⟨_,rfl,plain_rel hp,V_bool.2 rfl,trivial⟩,fun w=> ?_⟩
        unfold zeroV at hz
        split at hz
        · rename_i i hi
          simp [zeroValue,run_info hi,hz]
        · simp at hz
      · simp at h
    · simp at h
  · simp at h
theorem gAssert_run {x u v:Value} {xt asserted:TypeId} {ok:Bool} (hx:V M x u) (h:gAssert P x asserted ok=some v):∃ r,V M v r∧∀ w,(Instr.typeAssert u xt asserted ok).run P w= .ok r w:=by
  unfold gAssert at h
  split at h
  · simp at h
  · rename_i want hu
    unfold gAssertI at h
    split at h
    · obtain ⟨rfl,z,rfl,h1,h2⟩:=gFails_run (M:=M) h
      rw [V_nilIface.1 hx]
      exact ⟨_,h1,fun w=>by simp only [Instr.typeAssert,Sem.run_bind,run_und hu,Result.andThen_ok,if_true,h2,Sem.run_pure]⟩
    · rename_i t y
      obtain ⟨y',rfl,hy⟩:=V_iface.1 hx
      split at h
      · rename_i i hi
        split at h
        · rename_i hm
          exact ⟨_,gHolds_run hx h,fun w=>by simp only [Instr.typeAssert,Sem.run_bind,run_und hu,Result.andThen_ok,run_info hi,hm,Sem.run_pure]⟩
        · rename_i m hm
          obtain ⟨rfl,z,rfl,h1,h2⟩:=gFails_run (M:=M) h
          exact ⟨_,h1,fun w=>by simp only [Instr.typeAssert,Sem.run_bind,run_und hu,Result.andThen_ok,run_info hi,hm,if_true,h2,Sem.run_pure]⟩
      · simp at h
    · simp at h
  · rename_i d hnot hu
    have hu' :∀ want,d≠ .interface want:=fun want e=>hnot want (by rw [e])
    unfold gAssertC at h
    split at h
    · obtain ⟨rfl,z,rfl,h1,h2⟩:=gFails_run (M:=M) h
      rw [V_nilIface.1 hx]
      refine ⟨_,h1,fun w=> ?_⟩
      cases d<;>first
        | exact absurd rfl (hu' _)
        | simp only [Instr.typeAssert,Sem.run_bind,run_und hu,Result.andThen_ok,if_true,h2,Sem.run_pure]
    · rename_i t y
      obtain ⟨y',rfl,hy⟩:=V_iface.1 hx
      split at h
      · rename_i ht
        refine ⟨_,gHolds_run hy h,fun w=> ?_⟩
        cases d<;>first
          | exact absurd rfl (hu' _)
          | simp only [Instr.typeAssert,Sem.run_bind,run_und hu,Result.andThen_ok,if_pos ht,Sem.run_pure]
      · rename_i ht
        obtain ⟨rfl,z,rfl,h1,h2⟩:=gFails_run (M:=M) h
        refine ⟨_,h1,fun w=> ?_⟩
        cases d<;>first
          | exact absurd rfl (hu' _)
          | simp only [Instr.typeAssert,Sem.run_bind,run_und hu,Result.andThen_ok,if_neg ht,if_true,h2,Sem.run_pure]
    · simp at h
theorem pure_sim {T:List Value} {a:Act} (hT:Vs M T a.tmps.toList) {o:Oper} {v:Value} (hok:opOk o.op=true) (h:gPure P T o.op=some v) :
    ∃ u,V M v u∧∀ w,(execOp a.eval o).run P w= .ok (.value u) w:=by
  obtain ⟨dst,op,ty,pos,after,guard⟩:=o
  cases op<;>simp only [gPure,opOk,Bool.and_eq_true,reduceCtorEq] at h hok
  case typeAssert x xt asserted ok =>
    obtain ⟨r,h1,h2⟩:=gAssert_run (xt:=xt) (ev_rel hT hok) h
    exact ⟨r,h1,fun w=>by simp only [execOp,Sem.run_bind,h2,Result.andThen_ok,Sem.run_pure]⟩
  case move x=>simp only [Option.some.injEq] at h; subst h; exact ⟨_,ev_rel hT hok,fun w=>rfl⟩
  case assign x=>simp only [Option.some.injEq] at h; subst h; exact ⟨_,ev_rel hT hok,fun w=>rfl⟩
  case pick c x y =>
    have hc:=ev_rel hT hok.1.1
    split at h
    · rename_i t hct
      rw [hct] at hc
      have hc' :=V_bool.1 hc
      simp only [Option.some.injEq] at h; subst h
      refine ⟨if t then a.eval x else a.eval y,?_,fun w=> ?_⟩
      · split
        · exact ev_rel hT hok.1.2
        · exact ev_rel hT hok.2
      · simp only [execOp,hc',asBool,pure_bind,Sem.run_pure]
    · simp at h
  case nilCheck x =>
    have hx:=ev_rel hT hok
    split at h
    · rename_i p hp
      rw [hp] at hx
      obtain ⟨y,hy,hu⟩:=V_ptr.1 hx
      simp only [Option.some.injEq] at h; subst h
      exact ⟨_,V_ptr.2 ⟨y,hy,rfl⟩,fun w=>by simp only [execOp,hu,Sem.run_pure]⟩
    · rename_i f b c hp
      rw [hp] at hx
      obtain ⟨f',b',c',hu,hf,h1,h2⟩:=V_func.1 hx
      simp only [fnrel] at hf; subst hf
      simp only [Option.some.injEq] at h; subst h
      exact ⟨_,V_func.2 ⟨_,_,_,rfl,rfl,h1,h2⟩,fun w=>by simp only [execOp,hu,Sem.run_pure]⟩
    · rename_i f b c hp
      rw [hp] at hx
      obtain ⟨f',b',c',hu,hf,h1,h2⟩:=V_func.1 hx
      obtain ⟨r,hr,rfl⟩:=hf
      simp only [Option.some.injEq] at h; subst h
      exact ⟨_,V_func.2 ⟨_,_,_,rfl,⟨r,hr,rfl⟩,h1,h2⟩,fun w=>by simp only [execOp,hu,Sem.run_pure]⟩
    · rename_i t y hp
      rw [hp] at hx
      obtain ⟨y',hu,h1⟩:=V_iface.1 hx
      simp only [Option.some.injEq] at h; subst h
      exact ⟨_,V_iface.2 ⟨_,rfl,h1⟩,fun w=>by simp only [execOp,hu,Sem.run_pure]⟩
    · simp at h
  case binOp op t x y yt =>
    obtain ⟨u,h1,h2⟩:=gBin_run h (ev_rel hT hok.1) (ev_rel hT hok.2)
    exact ⟨u,h1,fun w=>by simp only [execOp,Sem.run_bind] at h2 ⊢; simp only [h2,Result.andThen_ok,Sem.run_pure]⟩
  case unOp op t x =>
    split at h
    · rename_i hp
      obtain ⟨h1,h2⟩:=prunP_run (M:=M) h
      refine ⟨v,h1,fun w=> ?_⟩
      have he:=plain_eq hp (ev_rel hT hok)
      simp only [execOp,he,Sem.run_bind,h2,Result.andThen_ok,Sem.run_pure]
    · simp at h
  case convert s d x =>
    split at h
    · rename_i hp
      obtain ⟨h1,h2⟩:=prunP_run (M:=M) h
      refine ⟨v,h1,fun w=> ?_⟩
      have he:=plain_eq hp (ev_rel hT hok)
      simp only [execOp,he,Sem.run_bind,h2,Result.andThen_ok,Sem.run_pure]
    · simp at h
  case makeInterface t x =>
    split at h
    · simp at h
    · rename_i d hd hu
      simp only [Option.some.injEq] at h; subst h
      refine ⟨.iface t (a.eval x),V_iface.2 ⟨_,rfl,ev_rel hT hok⟩,fun w=> ?_⟩
      simp only [execOp,Instr.makeInterface,Sem.run_bind,run_und hu,Result.andThen_ok,Sem.run_pure]
    · simp at h
  case makeFunc fn first captured =>
    cases fn<;>simp only [reduceCtorEq] at h
    rename_i f
    simp only [Option.some.injEq] at h; subst h
    refine ⟨.func (.func f) (first.map a.eval) (captured.map a.eval),V_func.2 ⟨.func f,_,_,rfl,rfl,?_,?_⟩,fun w=>rfl⟩
    · rw [Array.toList_map,Array.toList_map]; exact evs_rel hT hok.1
    · rw [Array.toList_map,Array.toList_map]; exact evs_rel hT hok.2
  case build t parts =>
    obtain ⟨u,h1,h2⟩:=gBuild_run h (parts_rel hT hok)
    exact ⟨u,h1,fun w=>by simp only [execOp,Sem.run_bind,h2,Result.andThen_ok,Sem.run_pure]⟩
  case field t x f =>
    obtain ⟨u,h1,h2⟩:=gField_run h (ev_rel hT hok)
    exact ⟨u,h1,fun w=>by simp only [execOp,Sem.run_bind,h2,Result.andThen_ok,Sem.run_pure]⟩
  case index t x i =>
    obtain ⟨u,h1,h2⟩:=gIndex_run h (ev_rel hT hok.1) (ev_rel hT hok.2)
    exact ⟨u,h1,fun w=>by simp only [execOp,Sem.run_bind,h2,Result.andThen_ok,Sem.run_pure]⟩
  case fieldAddr s x f =>
    obtain ⟨u,h1,h2⟩:=gFieldAddr_run h (ev_rel hT hok)
    exact ⟨u,h1,fun w=>by simp only [execOp,Sem.run_bind,h2,Result.andThen_ok,Sem.run_pure]⟩
  case indexAddr t x i =>
    obtain ⟨u,h1,h2⟩:=gIndexAddr_run h (ev_rel hT hok.1) (ev_rel hT hok.2)
    exact ⟨u,h1,fun w=>by simp only [execOp,Sem.run_bind,h2,Result.andThen_ok,Sem.run_pure]⟩
  case extract x i =>
    have hx:=ev_rel hT hok
    split at h
    · rename_i vs hvs
      rw [hvs] at hx
      obtain ⟨cs,hu,hcs⟩:=V_tuple.1 hx
      obtain ⟨u,h1,h2⟩:=getN_rel hcs h
      refine ⟨u,h2,fun w=> ?_⟩
      have h1' :cs[i]? =some u:=by simpa using h1
      simp only [execOp,hu,Instr.extract,h1',Sem.run_bind,Sem.run_pure,Result.andThen_ok]
    · simp at h
  case call c =>
    obtain ⟨callee,args,argTypes⟩:=c
    simp only at h hok
    split at h
    · split at h
      · rename_i t x ht hx
        have hx1:=toList_one hx
        subst hx1
        have hok2:okX x=true:=by simpa using hok.2
        obtain ⟨h1,h2⟩:=gLen_run (ty:=ty) (as:= #[a.eval x]) h (ev_rel hT hok2) ht rfl
        refine ⟨v,h1,fun w=> ?_⟩
        simp only [execOp,resolve,invoke,builtin,Array.map,Sem.run_bind,Sem.run_pure,Result.andThen_ok] at h2 ⊢
        simp [h2]
      · simp at h
    · split at h
      · rename_i hp
        obtain ⟨h1,h2⟩:=prunP_run (M:=M) h
        refine ⟨v,h1,fun w=> ?_⟩
        have he:args.map a.eval=args.map (ev T):=by
          apply Array.map_congr_left
          intro x hx
          refine plain_eq (M:=M) ?_ (ev_rel hT (List.all_eq_true.1 hok.2 x (by simpa using hx)))
          exact List.all_eq_true.1 hp _ (List.mem_map.2 ⟨x,by simpa using hx,rfl⟩)
        have h2' :∀ w,(Builtin.min_ argTypes ty (args.map (ev T))).run P w= .ok v w:=h2
        simp only [execOp,resolve,invoke,builtin,he,Sem.run_bind,Sem.run_pure,Result.andThen_ok,h2']
      · simp at h
    · split at h
      · rename_i hp
        obtain ⟨h1,h2⟩:=prunP_run (M:=M) h
        refine ⟨v,h1,fun w=> ?_⟩
        have he:args.map a.eval=args.map (ev T):=by
          apply Array.map_congr_left
          intro x hx
          refine plain_eq (M:=M) ?_ (ev_rel hT (List.all_eq_true.1 hok.2 x (by simpa using hx)))
          exact List.all_eq_true.1 hp _ (List.mem_map.2 ⟨x,by simpa using hx,rfl⟩)
        have h2' :∀ w,(Builtin.max_ argTypes ty (args.map (ev T))).run P w= .ok v w:=h2
        simp only [execOp,resolve,invoke,builtin,he,Sem.run_bind,Sem.run_pure,Result.andThen_ok,h2']
      · simp at h
    · simp at h
end Go.Proofs.YtlaojmcekeohnaaGreatDoor.Gh
