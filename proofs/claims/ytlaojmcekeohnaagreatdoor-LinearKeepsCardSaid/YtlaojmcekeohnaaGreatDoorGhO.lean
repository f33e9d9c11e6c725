import Derived.Test.YtlaojmcekeohnaaGreatDoorGhN
namespace Go.Proofs.YtlaojmcekeohnaaGreatDoor.Gh
open Go
variable {P:Program} {M:Map} {B:Nat} {E:Ev}
theorem run_callFunc {f:FuncId} {fn:Func} (hf:P.funcs[f]? =some fn) (hn:(fn.name == "runtime.NumGoroutine")=false) (hb:fn.body.isSome=true) (args:Array Value) (w:World) :
    (callFunc f args).run P w= .ok (.enter f args) w:=by
  have hb' :fn.body.isNone=false:=by cases h:fn.body<;>simp_all
  simp only [callFunc,Sem.run_bind,run_program,Result.andThen_ok,hf,hn,Bool.false_eq_true,if_false,hb',Sem.run_pure]
theorem not_defer {T:List Value} {G G' :GS} {op:Op} {v:Value} (h:opStep P E T G op=some (v,G')):∀ c,op≠ .defer c:=by
  rintro c rfl
  simp [opStep,cls,gPure,opOk] at h
theorem gCall_form {T:List Value} {G:GS} {op:Op} {r:Value×GS} (h:gCall P E T op G=some r):(∃ f args argTypes,op= .call ⟨.value f,args,argTypes⟩ ∧
    (match ev T f with
      | .func (.func g) a b=>E.cl g (a.toList++args.toList.map (ev T)++b.toList) G
      | .func (.yield l) a _=>if a.toList.isEmpty then E.rd l (args.toList.map (ev T)) G else none
      | _=>none)=some r) ∨
    (∃ x name args argTypes t y g,op= .call ⟨.invoke x name,args,argTypes⟩∧ev T x= .iface t y∧gMethod P t name=some g∧E.cl g (y::args.toList.map (ev T)) G=some r):=by
  cases op<;>simp only [gCall,reduceCtorEq] at h
  rename_i c
  obtain ⟨callee,args,argTypes⟩:=c
  cases callee<;>simp only [reduceCtorEq] at h
  · rename_i f
    exact .inl ⟨f,args,argTypes,rfl,h⟩
  · rename_i x name
    split at h
    · rename_i t y hx
      split at h
      · rename_i g hg
        exact .inr ⟨x,name,args,argTypes,t,y,g,rfl,hx,hg,h⟩
      · simp at h
    · simp at h
theorem gMethod_run {t:TypeId} {name:String} {g:FuncId} (h:gMethod P t name=some g) (n:Nat) (u:Value) (w:World):(method (n+1) t u name).run P w= .ok (g,u) w:=by
  unfold gMethod at h
  split at h
  case h_2=>simp at h
  rename_i i hi
  split at h
  case h_2=>simp at h
  rename_i m hm
  split at h
  case isFalse=>simp at h
  rename_i hp
  have hp' :m.path.toList=[]:=by
    have:m.path= #[]:=by simpa using hp
    rw [this]
  unfold method
  split at h
  · rename_i f e hf hu
    simp only [Option.some.injEq] at h; subst h
    simp only [Sem.run_bind,run_info hi,Result.andThen_ok,hm,hp',follow,Sem.run_pure,hf,receiverAt,run_und hu,Place.get]
  · simp at h
  · rename_i f d hd hf hu
    simp only [Option.some.injEq] at h; subst h
    cases d<;>first
      | exact absurd rfl (hd _)
      | simp only [Sem.run_bind,run_info hi,Result.andThen_ok,hm,hp',follow,Sem.run_pure,hf,receiverAt,run_und hu,Place.get]
  · simp at h
theorem op_stepsAt (hE:SimE P B E) {T:List Value} {G G' :GS} {o:Oper} {v:Value} (h:opStep P E T G o.op=some (v,G')) {w:World} {b:Frame} {k:List Item} {cs:List Frame} {a a₀:Act} {ops:Array Oper} {i:Nat} {rest:List Nat}
    (ho:ops[i]? =some o) (hw:Region.wanted o (yielded ops a.tmps)=true) (hR:Rel G M w B) (hT:Vs M T a₀.tmps.toList) (hcong:execOp a.eval o=execOp a₀.eval o) :
    ∃ M' w' u,Evo G M w G' M' w' ∧Rel G' M' w' B∧V M' v u∧Steps P (lone (b.atR a (.inRegion ops (i::rest)::k)) cs w) (lone (b.atR (a.put o.dst u) (.inRegion ops rest::k)) cs w'):=by
  have hd:=not_defer h
  unfold opStep at h
  split at h
  · simp at h
  rename_i hok
  have hok:opOk o.op=true:=by simpa using hok
  split at h
  · split at h
    · rename_i v' hv
      simp only [Option.some.injEq,Prod.mk.injEq] at h
      obtain ⟨rfl,rfl⟩:=h
      obtain ⟨u,h1,h2⟩:=pure_sim (P:=P) hT hok hv
      exact ⟨M,w,u,.refl _ _ _,hR,h1,.one (step_value ho hw hd (by rw [hcong]; exact h2 w))⟩
    · simp at h
  · split at h
    · rename_i v' hv
      simp only [Option.some.injEq,Prod.mk.injEq] at h
      obtain ⟨rfl,rfl⟩:=h
      obtain ⟨u,h1,h2⟩:=read_sim (P:=P) hR hT hok hv
      exact ⟨M,w,u,.refl _ _ _,hR,h1,.one (step_value ho hw hd (by rw [hcong]; exact h2))⟩
    · simp at h
  · obtain ⟨u,M',w',h1,h2,h3,h4⟩:=make_sim (P:=P) hR hT hok h
    exact ⟨M',w',u,h4,h3,h1,.one (step_value ho hw hd (by rw [hcong]; exact h2))⟩
  · split at h
    · rename_i r hr
      simp only [Option.some.injEq] at h; subst h
      obtain ⟨u,M',w',h1,h2,h3,h4⟩:=write_sim (P:=P) hR hT hok hr
      rcases h2 with h2 | ⟨rfl,h2⟩
      · exact ⟨M',w',u,h4,h3,h1,.one (step_value ho hw hd (by rw [hcong]; exact h2))⟩
      · exact ⟨M',w',_,h4,h3,h1,.one (step_skipped ho hw hd (by rw [hcong]; exact h2))⟩
    · rcases gCall_form h with ⟨f,args,argTypes,hop,h⟩ | ⟨x,name,args,argTypes,t,y,g,hop,hx,hg,h⟩
      case inr =>
        rw [hop] at hok
        simp only [opOk,Bool.and_eq_true] at hok
        have hr:=ev_rel hT hok.1
        have hargs:=evs_rel hT hok.2
        rw [hx] at hr
        obtain ⟨y',hr',hy⟩:=V_iface.1 hr
        obtain ⟨fn,hc1,hc2,hc3⟩:=hE.clok _ _ _ _ _ h
        have hall:Vs M (y::args.toList.map (ev T)) (#[y']++args.map a₀.eval).toList:=by
          simp only [Array.toList_append,Array.toList_map]
          exact ⟨hy,hargs⟩
        have hext:(#[Value.iface t y']++args.map a₀.eval).extract 1 (#[Value.iface t y']++args.map a₀.eval).size=args.map a₀.eval:=by
          apply Array.toList_inj.1
          simp [List.take_of_length_le]
        have h0:(#[Value.iface t y']++args.map a₀.eval)[0]? =some (.iface t y'):=by rw [Array.getElem?_append_left (by simp)]; rfl
        have hrun:(execOp a₀.eval o).run P w= .ok (.enter g (#[y']++args.map a₀.eval)) w:=by
          simp only [execOp,hop,resolve,invoke,Sem.run_bind,Sem.run_pure,Result.andThen_ok,hr',h0,hext,callMethod,run_program]
          rw [show P.types.size+Made.depth=(P.types.size+99)+1 from rfl,gMethod_run hg]
          simp only [Result.andThen_ok,run_callFunc hc1 hc2 hc3]
        obtain ⟨M',w',fr,v',h3,h4,h5,h6,h7,h8⟩:=hE.cl _ _ _ _ _ h M w (#[y']++args.map a₀.eval) (b.atR a (.inRegion ops (i::rest)::k)::cs) hR hall
        refine ⟨M',w',v',h3,h4,h5,.head (step_enters ho hw hd (by rw [hcong]; exact hrun)) (h6.trans (.one ?_))⟩
        have:=step_leave_returned (c:=b.atR a (.inRegion ops (i::rest)::k)) (cs:=cs) h8
        rw [fin_at ho] at this
        exact this
      rw [hop] at hok
      simp only [opOk,Bool.and_eq_true] at hok
      have hf:=ev_rel hT hok.1
      have hargs:=evs_rel hT hok.2
      split at h
      · rename_i g fa fb hev
        rw [hev] at hf
        obtain ⟨f',fa',fb',hf',hfn,h1,h2⟩:=V_func.1 hf
        simp only [fnrel] at hfn; subst hfn
        obtain ⟨fn,hc1,hc2,hc3⟩:=hE.clok _ _ _ _ _ h
        have hall:Vs M (fa.toList++args.toList.map (ev T)++fb.toList) (fa' ++args.map a₀.eval++fb').toList:=by
          simp only [Array.toList_append,Array.toList_map]
          exact lrel_append (lrel_append h1 hargs) h2
        have hrun:(execOp a₀.eval o).run P w= .ok (.enter g (fa' ++args.map a₀.eval++fb')) w:=by
          simp only [execOp,hop,resolve,Deferred.ofValue,hf',invoke,Sem.run_bind,Sem.run_pure,Result.andThen_ok,run_callFunc hc1 hc2 hc3]
        obtain ⟨M',w',fr,v',h3,h4,h5,h6,h7,h8⟩:=hE.cl _ _ _ _ _ h M w (fa' ++args.map a₀.eval++fb') (b.atR a (.inRegion ops (i::rest)::k)::cs) hR hall
        refine ⟨M',w',v',h3,h4,h5,.head (step_enters ho hw hd (by rw [hcong]; exact hrun)) (h6.trans (.one ?_))⟩
        have:=step_leave_returned (c:=b.atR a (.inRegion ops (i::rest)::k)) (cs:=cs) h8
        rw [fin_at ho] at this
        exact this
      · rename_i l fa fb hev
        rw [hev] at hf
        obtain ⟨f',fa',fb',hf',hfn,h1,h2⟩:=V_func.1 hf
        obtain ⟨r,hr,rfl⟩:=hfn
        split at h
        · rename_i hemp
          have hfa:fa'.toList=[]:=by
            have:=lrel_length h1
            have h0:fa.toList=[]:=by simpa using hemp
            rw [h0] at this
            exact List.length_eq_zero_iff.1 (by simpa using this.symm)
          have hfa' :fa' = #[]:=Array.toList_inj.1 (by simpa using hfa)
          subst hfa'
          obtain ⟨_,p,_,_,lo,hlo,_⟩:=hR.lp l r hr
          obtain ⟨hsz,M',w',v',h3,h4,h5,h6⟩:=hE.rd _ _ _ _ _ h M w r lo (args.map a₀.eval) (b.atR a (.inRegion ops (i::rest)::k)) cs hR hr hlo (by simpa using hargs)
          have hrun:(execOp a₀.eval o).run P w= .ok (.round r lo.fn ((lo.params.zip (args.map a₀.eval)).foldl (fun tmps (t,a)=>tmps.setIfInBounds t a) lo.tmps) lo.assign lo.body) w:=by
            simp only [execOp,hop,resolve,Deferred.ofValue,hf',invoke,Sem.run_bind,Sem.run_pure,Result.andThen_ok,Array.empty_append,run_yield hlo hsz]
          refine ⟨M',w',v',h3,h4,h5,.head (step_rounds ho hw hd (by rw [hcong]; exact hrun)) ?_⟩
          rw [fin_at ho] at h6
          exact h6
        · simp at h
      · simp at h
theorem op_steps (hE:SimE P B E) {T:List Value} {G G' :GS} {o:Oper} {v:Value} (h:opStep P E T G o.op=some (v,G')) {w:World} {b:Frame} {k:List Item} {cs:List Frame} {a:Act} {ops:Array Oper} {i:Nat} {rest:List Nat}
    (ho:ops[i]? =some o) (hw:Region.wanted o (yielded ops a.tmps)=true) (hR:Rel G M w B) (hT:Vs M T a.tmps.toList) :
    ∃ M' w' u,Evo G M w G' M' w' ∧Rel G' M' w' B∧V M' v u∧Steps P (lone (b.atR a (.inRegion ops (i::rest)::k)) cs w) (lone (b.atR (a.put o.dst u) (.inRegion ops rest::k)) cs w') :=
  op_stepsAt hE h ho hw hR hT rfl
theorem seq_steps (hE:SimE P B E) {N:Nat} {ops:Array Oper} {b:Frame} {k:List Item} {cs:List Frame}:∀ (l:List Oper) (i:Nat) (T:List Value) (G:GS) (T' :List Value) (G' :GS) (M:Map) (w:World) (a:Act),
    ops.toList.drop i=l→seqOps P E ops l T G=some (T',G')→Rel G M w B→Vs M T a.tmps.toList→MarksOk N a.defers w →
    ∃ M' w' a',Evo G M w G' M' w' ∧Rel G' M' w' B∧Vs M' T' a'.tmps.toList∧MarksOk N a'.defers w' ∧
      Steps P (lone (b.atR a (.inRegion ops (List.range' i l.length)::k)) cs w) (lone (b.atR a' k) cs w')
  | [],i,T,G,T',G',M,w,a,hl,h,hR,hT,hm=>by
    simp only [seqOps,Option.some.injEq,Prod.mk.injEq] at h
    obtain ⟨rfl,rfl⟩:=h
    exact ⟨M,w,a,.refl _ _ _,hR,hT,hm,.one stepR_region_end⟩
  | o::l,i,T,G,T',G',M,w,a,hl,h,hR,hT,hm=>by
    have ho:ops[i]? =some o:=by
      have:(ops.toList.drop i)[0]? =some o:=by rw [hl]; rfl
      simpa using this
    have hl' :ops.toList.drop (i+1)=l:=by
      rw [← List.drop_drop,hl]; rfl
    simp only [seqOps] at h
    simp only [List.length_cons,List.range'_succ]
    by_cases hw:gWanted ops T o=true
    · rw [if_pos hw] at h
      split at h
      · rename_i v G1 hop
        have hw' :Region.wanted o (yielded ops a.tmps)=true:=by rw [wanted_rel hT]; exact hw
        obtain ⟨M1,w1,u,h1,h2,h3,h4⟩:=op_steps hE hop (b:=b) (k:=k) (cs:=cs) (rest:=List.range' (i+1) l.length) ho hw' hR hT
        obtain ⟨M2,w2,a2,h5,h6,h7,h8,h9⟩:=seq_steps hE l (i+1) _ _ _ _ M1 w1 (a.put o.dst u) hl' h h2 (put_rel (hT.mono h1.map) h3 o.dst) (by
          have:=hm.evo hR h1
          cases hdst:o.dst<;>simpa [Act.put,hdst] using this)
        exact ⟨M2,w2,a2,h1.trans h5,h6,h7,h8,h4.trans h9⟩
      · simp at h
    · rw [if_neg hw] at h
      have hw' :Region.wanted o (yielded ops a.tmps)=false:=by rw [wanted_rel hT]; simpa using hw
      obtain ⟨M2,w2,a2,h5,h6,h7,h8,h9⟩:=seq_steps hE l (i+1) _ _ _ _ M w (a.put o.dst undef) hl' h hR (put_rel hT V_undef o.dst) (by cases hdst:o.dst<;>simpa [Act.put,hdst] using hm)
      refine ⟨M2,w2,a2,h5,h6,h7,h8,.head ?_ h9⟩
      have:=stepR_op_skip (P:=P) (b:=b) (a:=a) (k:=k) (cs:=cs) (w:=w) (ops:=ops) (i:=i) (rest:=List.range' (i+1) l.length) (by simp [ho,hw'])
      simpa [ho] using this
end Go.Proofs.YtlaojmcekeohnaaGreatDoor.Gh
