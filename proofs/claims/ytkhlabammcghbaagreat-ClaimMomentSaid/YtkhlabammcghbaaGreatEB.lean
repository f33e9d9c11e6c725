import Derived.Test.YtkhlabammcghbaaGreatGhL
namespace Go.Proofs.YtkhlabammcghbaaGreat.Gh
open Go
variable {P:Program} {M:Map}
section
variable {b:Frame} {a:Act} {k:List Item} {cs:List Frame} {w w':World} {ops:Array Oper} {i:Nat} {rest:List Nat} {o:Oper}
theorem DM (hd:∀ c,o.op≠ .defer c):o.semAt b.roundOf a.eval=execOp a.eval o:=Oper.semAt_eq _ _ _ hd
theorem A9 (ho:ops[i]? =some o) (v:Value):(b.atR a (.inRegion ops (i::rest)::k)).finish v=b.atR (a.put o.dst v) (.inRegion ops rest::k):=by
  rw [Frame.finish_atR,ho]; rfl
theorem Ba {u:Value} (ho:ops[i]? =some o) (hw:Region.wanted o (yielded ops a.tmps)=true) (hd:∀ c,o.op≠ .defer c) (hr:(execOp a.eval o).run P w= .ok (.value u) w') :
    step P (lone (b.atR a (.inRegion ops (i::rest)::k)) cs w)= .next (lone (b.atR (a.put o.dst u) (.inRegion ops rest::k)) cs w'):=by
  have hg:=stepGR_op (P:=P) (b:=b) (k:=k) (cs:=cs) (w:=w) (rest:=rest) ho hw
  rw [DM hd] at hg
  refine step_lone_go ?_
  rw [hg,← A9 ho]; simp [stepG.apply,hr]
theorem V4 (ho:ops[i]? =some o) (hw:Region.wanted o (yielded ops a.tmps)=true) (hd:∀ c,o.op≠ .defer c) (hr:(execOp a.eval o).run P w= .ok .skip w') :
    step P (lone (b.atR a (.inRegion ops (i::rest)::k)) cs w)= .next (lone (b.atR (a.put o.dst undef) (.inRegion ops rest::k)) cs w'):=by
  have hg:=stepGR_op (P:=P) (b:=b) (k:=k) (cs:=cs) (w:=w) (rest:=rest) ho hw
  rw [DM hd] at hg
  refine step_lone_go ?_
  rw [hg,← A9 ho]; simp [stepG.apply,hr]
theorem ND {f:FuncId} {args:Array Value} (ho:ops[i]? =some o) (hw:Region.wanted o (yielded ops a.tmps)=true) (hd:∀ c,o.op≠ .defer c) (hr:(execOp a.eval o).run P w= .ok (.enter f args) w') :
    step P (lone (b.atR a (.inRegion ops (i::rest)::k)) cs w)= .next (lone (Frame.enter P f args .normal) (b.atR a (.inRegion ops (i::rest)::k)::cs) w'):=by
  have hg:=stepGR_op (P:=P) (b:=b) (k:=k) (cs:=cs) (w:=w) (rest:=rest) ho hw
  rw [DM hd] at hg
  refine step_lone_go ?_
  rw [hg]; simp [stepG.apply,hr,Frame.atR]
theorem V5 {l f:Nat} {tmps:Array Value} {assign body:Code} (ho:ops[i]? =some o) (hw:Region.wanted o (yielded ops a.tmps)=true) (hd:∀ c,o.op≠ .defer c) (hr:(execOp a.eval o).run P w= .ok (.round l f tmps assign body) w') :
    step P (lone (b.atR a (.inRegion ops (i::rest)::k)) cs w)= .next (lone (Frame.round l f tmps assign body .normal) (b.atR a (.inRegion ops (i::rest)::k)::cs) w'):=by
  have hg:=stepGR_op (P:=P) (b:=b) (k:=k) (cs:=cs) (w:=w) (rest:=rest) ho hw
  rw [DM hd] at hg
  refine step_lone_go ?_
  rw [hg]; simp [stepG.apply,hr,Frame.atR]
end
def tq (N:Nat) (ds:List Deferred) (w:World):Prop :=
  ∃ rs:List Nat,ds=rs.map (fun r=>⟨.collected r,#[]⟩)∧rs.Nodup∧∀ r∈rs,N≤r∧w.heap[r]? =some (.deferred (some []))
def Bb (b:Frame) (M:Map):Prop:=∀ r,b.roundOf=some r→∃ l,M.lp l=some r
def Bc (P:Program) (m:Machine) (b:Frame) (k:List Item) (cs:List Frame) (e:Exit) (a:Act) (w:World):Prop :=
  match e with
  | .normal=>Steps P m (lone (b.atR a k) cs w)
  | .exit id=>∃ k₁,exitTo id k₁=exitTo id k∧Steps P m (lone (b.atR a (.code (.exit id)::k₁)) cs w)
  | .goto l=>∃ k₁,gotoIn l k₁=gotoIn l k∧Steps P m (lone (b.atR a (.code (.goto l)::k₁)) cs w)
  | .ret=>∃ k₁,Steps P m (lone (b.atR a (.code .ret::k₁)) cs w)
  | _=>False
theorem Bc.of_steps {m m₁:Machine} {b:Frame} {k:List Item} {cs:List Frame} {e:Exit} {a:Act} {w:World} (h:Steps P m m₁) (h':Bc P m₁ b k cs e a w):Bc P m b k cs e a w:=by
  cases e with
  | normal=>exact h.trans h'
  | exit id=>obtain ⟨k₁,h1,h2⟩:=h'; exact ⟨k₁,h1,h.trans h2⟩
  | goto id=>obtain ⟨k₁,h1,h2⟩:=h'; exact ⟨k₁,h1,h.trans h2⟩
  | ret=>obtain ⟨k₁,h2⟩:=h'; exact ⟨k₁,h.trans h2⟩
  | panic c=>exact h'
  | outgrown=>exact h'
def Reach (P:Program) (B:Nat) (todo:List Item) (T:List Value) (G:GS) (e:Exit) (T':List Value) (G':GS):Prop :=
  ∀ (N:Nat) (M:Map) (w:World) (b:Frame) (k:List Item) (cs:List Frame) (a:Act),Rel G M w B→Vs M T a.tmps.toList→tq N a.defers w→N≤w.heap.size→Bb b M →
    ∃ M' w' a',cy G M w G' M' w' ∧Rel G' M' w' B∧Vs M' T' a'.tmps.toList∧tq N a'.defers w' ∧Bc P (lone (b.atR a (todo++k)) cs w) b k cs e a' w'
structure jD (P:Program) (B:Nat) (E:Ev):Prop where
  ex:∀ c T G e T' G',E.ex c T G=some (e,T',G')→Reach P B [.code c] T G e T' G'
  sc:∀ body cur T G e T' G',E.sc body cur T G=some (e,T',G')→Reach P B [.code cur,.inScope body] T G e T' G'
  lp:∀ body T G e T' G',E.lp body T G=some (e,T',G')→Reach P B [.code body,.inLoop body] T G e T' G'
  cl:∀ f vs G v G',E.cl f vs G=some (v,G')→∀ (M:Map) (w:World) (args:Array Value) (cs:List Frame),Rel G M w B→Vs M vs args.toList →
    ∃ M' w' fr v',cy G M w G' M' w' ∧Rel G' M' w' B∧V M' v v' ∧Steps P (lone (Frame.enter P f args .normal) cs w) (lone fr cs w')∧fr.fn=f∧fr.leaving P w' (.returned v')
  yJ:∀ f vs G v G',E.cl f vs G=some (v,G')→∃ fn,P.funcs[f]? =some fn∧(fn.name == "runtime.NumGoroutine")=false∧fn.body.isSome=true
  rd:∀ l vs G v G',E.rd l vs G=some (v,G')→∀ (M:Map) (w:World) (r:Nat) (lo:Loop) (args:Array Value) (c:Frame) (cs:List Frame),Rel G M w B→M.lp l=some r→w.heap[r]? =some (.loop lo)→Vs M vs args.toList →
    args.size=lo.params.size∧∃ M' w' v',cy G M w G' M' w' ∧Rel G' M' w' B∧V M' v v' ∧
      Steps P (lone (Frame.round r lo.fn ((lo.params.zip args).foldl (fun tmps (t,a)=>tmps.setIfInBounds t a) lo.tmps) lo.assign lo.body .normal) (c::cs) w) (lone (c.finish v') cs w')
theorem tq.jb {G G':GS} {M':Map} {w w':World} {B:Nat} {N:Nat} {ds:List Deferred} (h:tq N ds w) (hR:Rel G M w B) (hE:cy G M w G' M' w'):tq N ds w':=by
  obtain ⟨rs,h1,h2,h3⟩:=h
  refine ⟨rs,h1,h2,fun r hr=>⟨(h3 r hr).1,?_⟩⟩
  have hd:=(h3 r hr).2
  have aT:=(Array.getElem?_eq_some_iff.1 hd).1
  rw [hE.keep r aT,hd]
  rintro (⟨g,x,o,hx,ho,hm,rfl⟩ | ⟨l,hl | hl⟩)
  · have hb:=hR.aY g x o hx ho
    obtain ⟨_,c,e,h4,_⟩:=hb.own hm
    rw [hd] at h4; cases h4
  · obtain ⟨_,p,_,_,lo,h4,_⟩:=hR.lp l r hl
    rw [hd] at h4; cases h4
  · obtain ⟨_,p,_,h4⟩:=hR.mp l r hl
    obtain ⟨es,ck,h5⟩:=h4.obj
    rw [hd] at h5; cases h5
theorem Bb.mono {M':Map} {b:Frame} (h:Bb b M) (hM:M.Le M'):Bb b M':=fun r hr=>let ⟨l,hl⟩:=h r hr; ⟨l,hM.lp _ _ hl⟩
theorem HI {T:List Value} {a:Act} {v u:Value} (hT:Vs M T a.tmps.toList) (hv:V M v u) (d:Option Tmp):Vs M (aW T d v) (a.put d u).tmps.toList:=by
  have key:∀ {l l':List Value} (n:Nat),Vs M l l' →Vs M (nP l n v) (l'.set n u):=by
    intro l
    induction l with
    | nil=>intro l' n h; cases l' with | nil=>exact trivial | cons=>exact h.elim
    | cons x xs ih =>
      intro l' n h
      cases l' with
      | nil=>exact h.elim
      | cons y ys=>cases n with
        | zero=>exact ⟨hv,h.2⟩
        | succ n=>exact ⟨h.1,ih n h.2⟩
  cases d with
  | none=>exact hT
  | some d =>
    show Vs M (nP T d v) (a.tmps.setIfInBounds d u).toList
    rw [Array.toList_setIfInBounds]
    exact key d hT
theorem V6 {T:List Value} {a:Act} (hT:Vs M T a.tmps.toList) (ops:Array Oper) (j:Nat):yielded ops a.tmps j=wk ops T j:=by
  unfold yielded wk
  cases ho:ops[j]? with
  | none=>rfl
  | some o =>
    cases hd:o.dst with
    | none=>simp [hd]
    | some d =>
      simp only [Option.bind_some,hd]
      have h:=AJ hT d
      cases ht:a.tmps[d]? with
      | none =>
        have hg:a.tmps.toList.getD d undef=undef:=by simp [List.getD,ht]
        rw [hg] at h
        cases hn:nth undef T d with
        | bool b=>rw [hn] at h; have:=iX.1 h; simp [undef] at this
        | _=>rfl
      | some y =>
        have hg:a.tmps.toList.getD d undef=y:=by simp [List.getD,ht]
        rw [hg] at h
        cases hn:nth undef T d with
        | bool b=>rw [hn] at h; rw [iX.1 h]
        | _ =>
          cases y with
          | bool b=>rw [MK h] at hn; cases hn
          | _=>rfl
theorem NF {T:List Value} {a:Act} (hT:Vs M T a.tmps.toList) (ops:Array Oper) (o:Oper):Region.wanted o (yielded ops a.tmps)=dx ops T o:=by
  unfold Region.wanted dx
  cases o.guard with
  | none=>rfl
  | some g=>obtain ⟨j,want⟩:=g; simp only [V6 hT]
end Go.Proofs.YtkhlabammcghbaaGreat.Gh
namespace Go.Proofs.YtkhlabammcghbaaGreat.Gh
open Go
variable {P:Program} {M:Map} {B:Nat} {E:Ev}
theorem HJ {f:FuncId} {fn:Func} (hf:P.funcs[f]? =some fn) (hn:(fn.name == "runtime.NumGoroutine")=false) (hb:fn.body.isSome=true) (args:Array Value) (w:World) :
    (callFunc f args).run P w= .ok (.enter f args) w:=by
  have fG:fn.body.isNone=false:=by cases h:fn.body<;>simp_all
  simp only [callFunc,Sem.run_bind,run_program,Result.andThen_ok,hf,hn,Bool.false_eq_true,if_false,fG,Sem.run_pure]
theorem V7 {T:List Value} {G G':GS} {op:Op} {v:Value} (h:iV P E T G op=some (v,G')):∀ c,op≠ .defer c:=by
  rintro c rfl
  simp [iV,cls,nO,dL] at h
theorem V8 {T:List Value} {G:GS} {op:Op} {r:Value×GS} (h:rJ P E T op G=some r):(∃ f args argTypes,op= .call ⟨.value f,args,argTypes⟩ ∧
    (match ev T f with
      | .func (.func g) a b=>E.cl g (a.toList++args.toList.map (ev T)++b.toList) G
      | .func (.yield l) a _=>if a.toList.isEmpty then E.rd l (args.toList.map (ev T)) G else none
      | _=>none)=some r) ∨
    (∃ x name args argTypes t y g,op= .call ⟨.invoke x name,args,argTypes⟩∧ev T x= .iface t y∧AE P t name=some g∧E.cl g (y::args.toList.map (ev T)) G=some r):=by
  cases op<;>simp only [rJ,reduceCtorEq] at h
  rename_i c
  obtain ⟨callee,args,argTypes⟩:=c
  cases callee<;>simp only [reduceCtorEq] at h
  · rename_i f
    exact .inl ⟨f,args,argTypes,rfl,h⟩
  · rename_i x name
    split at h
    · rename_i t y hx
      split at h
      · rename_i g hg
        exact .inr ⟨x,name,args,argTypes,t,y,g,rfl,hx,hg,h⟩
      · simp at h
    · simp at h
theorem V9 {t:TypeId} {name:String} {g:FuncId} (h:AE P t name=some g) (n:Nat) (u:Value) (w:World):(method (n+1) t u name).run P w= .ok (g,u) w:=by
  unfold AE at h
  split at h
  case h_2=>simp at h
  rename_i i hi
  split at h
  case h_2=>simp at h
  rename_i m hm
  split at h
  case isFalse=>simp at h
  rename_i hp
  have dB:m.path.toList=[]:=by
    have:m.path= #[]:=by simpa using hp
    rw [this]
  unfold method
  split at h
  · rename_i f e hf hu
    simp only [Option.some.injEq] at h; subst h
    simp only [Sem.run_bind,rO hi,Result.andThen_ok,hm,dB,follow,Sem.run_pure,hf,receiverAt,cD hu,Place.get]
  · simp at h
  · rename_i f d hd hf hu
    simp only [Option.some.injEq] at h; subst h
    cases d<;>first
      | exact absurd rfl (hd _)
      | simp only [Sem.run_bind,rO hi,Result.andThen_ok,hm,dB,follow,Sem.run_pure,hf,receiverAt,cD hu,Place.get]
  · simp at h
theorem NG (hE:jD P B E) {T:List Value} {G G':GS} {o:Oper} {v:Value} (h:iV P E T G o.op=some (v,G')) {w:World} {b:Frame} {k:List Item} {cs:List Frame} {a a₀:Act} {ops:Array Oper} {i:Nat} {rest:List Nat}
    (ho:ops[i]? =some o) (hw:Region.wanted o (yielded ops a.tmps)=true) (hR:Rel G M w B) (hT:Vs M T a₀.tmps.toList) (u4:execOp a.eval o=execOp a₀.eval o) :
    ∃ M' w' u,cy G M w G' M' w' ∧Rel G' M' w' B∧V M' v u∧Steps P (lone (b.atR a (.inRegion ops (i::rest)::k)) cs w) (lone (b.atR (a.put o.dst u) (.inRegion ops rest::k)) cs w'):=by
  have hd:=V7 h
  unfold iV at h
  split at h
  · simp at h
  rename_i aV
  have aV:dL o.op=true:=by simpa using aV
  split at h
  · split at h
    · rename_i v' hv
      simp only [Option.some.injEq,Prod.mk.injEq] at h
      obtain ⟨rfl,rfl⟩:=h
      obtain ⟨u,h1,h2⟩:=Vf (P:=P) hT aV hv
      exact ⟨M,w,u,.refl _ _ _,hR,h1,.one (Ba ho hw hd (by rw [u4]; exact h2 w))⟩
    · simp at h
  · split at h
    · rename_i v' hv
      simp only [Option.some.injEq,Prod.mk.injEq] at h
      obtain ⟨rfl,rfl⟩:=h
      obtain ⟨u,h1,h2⟩:=Vm (P:=P) hR hT aV hv
      exact ⟨M,w,u,.refl _ _ _,hR,h1,.one (Ba ho hw hd (by rw [u4]; exact h2))⟩
    · simp at h
  · obtain ⟨u,M',w',h1,h2,h3,h4⟩:=Vo (P:=P) hR hT aV h
    exact ⟨M',w',u,h4,h3,h1,.one (Ba ho hw hd (by rw [u4]; exact h2))⟩
  · split at h
    · rename_i r hr
      simp only [Option.some.injEq] at h; subst h
      obtain ⟨u,M',w',h1,h2,h3,h4⟩:=V2 (P:=P) hR hT aV hr
      rcases h2 with h2 | ⟨rfl,h2⟩
      · exact ⟨M',w',u,h4,h3,h1,.one (Ba ho hw hd (by rw [u4]; exact h2))⟩
      · exact ⟨M',w',_,h4,h3,h1,.one (V4 ho hw hd (by rw [u4]; exact h2))⟩
    · rcases V8 h with ⟨f,args,argTypes,eL,h⟩ | ⟨x,name,args,argTypes,t,y,g,eL,hx,hg,h⟩
      case inr =>
        rw [eL] at aV
        simp only [dL,Bool.and_eq_true] at aV
        have hr:=cV hT aV.1
        have jV:=Dy hT aV.2
        rw [hx] at hr
        obtain ⟨y',Bd,hy⟩:=pd.1 hr
        obtain ⟨fn,tt,u5,Be⟩:=hE.yJ _ _ _ _ _ h
        have qw:Vs M (y::args.toList.map (ev T)) (#[y']++args.map a₀.eval).toList:=by
          simp only [Array.toList_append,Array.toList_map]
          exact ⟨hy,jV⟩
        have Wa:(#[Value.iface t y']++args.map a₀.eval).extract 1 (#[Value.iface t y']++args.map a₀.eval).size=args.map a₀.eval:=by
          apply Array.toList_inj.1
          simp [List.take_of_length_le]
        have h0:(#[Value.iface t y']++args.map a₀.eval)[0]? =some (.iface t y'):=by rw [Array.getElem?_append_left (by simp)]; rfl
        have gT:(execOp a₀.eval o).run P w= .ok (.enter g (#[y']++args.map a₀.eval)) w:=by
          simp only [execOp,eL,resolve,invoke,Sem.run_bind,Sem.run_pure,Result.andThen_ok,Bd,h0,Wa,callMethod,run_program]
          rw [show P.types.size+Made.depth=(P.types.size+99)+1 from rfl,V9 hg]
          simp only [Result.andThen_ok,HJ tt u5 Be]
        obtain ⟨M',w',fr,v',h3,h4,h5,h6,h7,h8⟩:=hE.cl _ _ _ _ _ h M w (#[y']++args.map a₀.eval) (b.atR a (.inRegion ops (i::rest)::k)::cs) hR qw
        refine ⟨M',w',v',h3,h4,h5,.head (ND ho hw hd (by rw [u4]; exact gT)) (h6.trans (.one ?_))⟩
        have:=step_leave_returned (c:=b.atR a (.inRegion ops (i::rest)::k)) (cs:=cs) h8
        rw [A9 ho] at this
        exact this
      rw [eL] at aV
      simp only [dL,Bool.and_eq_true] at aV
      have hf:=cV hT aV.1
      have jV:=Dy hT aV.2
      split at h
      · rename_i g fa fb Bf
        rw [Bf] at hf
        obtain ⟨f',qC,tv,tl,fH,h1,h2⟩:=kT.1 hf
        simp only [wq] at fH; subst fH
        obtain ⟨fn,tt,u5,Be⟩:=hE.yJ _ _ _ _ _ h
        have qw:Vs M (fa.toList++args.toList.map (ev T)++fb.toList) (qC ++args.map a₀.eval++tv).toList:=by
          simp only [Array.toList_append,Array.toList_map]
          exact uQ (uQ h1 jV) h2
        have gT:(execOp a₀.eval o).run P w= .ok (.enter g (qC ++args.map a₀.eval++tv)) w:=by
          simp only [execOp,eL,resolve,Deferred.ofValue,tl,invoke,Sem.run_bind,Sem.run_pure,Result.andThen_ok,HJ tt u5 Be]
        obtain ⟨M',w',fr,v',h3,h4,h5,h6,h7,h8⟩:=hE.cl _ _ _ _ _ h M w (qC ++args.map a₀.eval++tv) (b.atR a (.inRegion ops (i::rest)::k)::cs) hR qw
        refine ⟨M',w',v',h3,h4,h5,.head (ND ho hw hd (by rw [u4]; exact gT)) (h6.trans (.one ?_))⟩
        have:=step_leave_returned (c:=b.atR a (.inRegion ops (i::rest)::k)) (cs:=cs) h8
        rw [A9 ho] at this
        exact this
      · rename_i l fa fb Bf
        rw [Bf] at hf
        obtain ⟨f',qC,tv,tl,fH,h1,h2⟩:=kT.1 hf
        obtain ⟨r,hr,rfl⟩:=fH
        split at h
        · rename_i Wb
          have Wc:qC.toList=[]:=by
            have:=iG h1
            have h0:fa.toList=[]:=by simpa using Wb
            rw [h0] at this
            exact List.length_eq_zero_iff.1 (by simpa using this.symm)
          have Wd:qC = #[]:=Array.toList_inj.1 (by simpa using Wc)
          subst Wd
          obtain ⟨_,p,_,_,lo,dT,_⟩:=hR.lp l r hr
          obtain ⟨cm,M',w',v',h3,h4,h5,h6⟩:=hE.rd _ _ _ _ _ h M w r lo (args.map a₀.eval) (b.atR a (.inRegion ops (i::rest)::k)) cs hR hr dT (by simpa using jV)
          have gT:(execOp a₀.eval o).run P w= .ok (.round r lo.fn ((lo.params.zip (args.map a₀.eval)).foldl (fun tmps (t,a)=>tmps.setIfInBounds t a) lo.tmps) lo.assign lo.body) w:=by
            simp only [execOp,eL,resolve,Deferred.ofValue,tl,invoke,Sem.run_bind,Sem.run_pure,Result.andThen_ok,Array.empty_append,run_yield dT cm]
          refine ⟨M',w',v',h3,h4,h5,.head (V5 ho hw hd (by rw [u4]; exact gT)) ?_⟩
          rw [A9 ho] at h6
          exact h6
        · simp at h
      · simp at h
theorem Wf (hE:jD P B E) {T:List Value} {G G':GS} {o:Oper} {v:Value} (h:iV P E T G o.op=some (v,G')) {w:World} {b:Frame} {k:List Item} {cs:List Frame} {a:Act} {ops:Array Oper} {i:Nat} {rest:List Nat}
    (ho:ops[i]? =some o) (hw:Region.wanted o (yielded ops a.tmps)=true) (hR:Rel G M w B) (hT:Vs M T a.tmps.toList) :
    ∃ M' w' u,cy G M w G' M' w' ∧Rel G' M' w' B∧V M' v u∧Steps P (lone (b.atR a (.inRegion ops (i::rest)::k)) cs w) (lone (b.atR (a.put o.dst u) (.inRegion ops rest::k)) cs w') :=
  NG hE h ho hw hR hT rfl
theorem HK (hE:jD P B E) {N:Nat} {ops:Array Oper} {b:Frame} {k:List Item} {cs:List Frame}:∀ (l:List Oper) (i:Nat) (T:List Value) (G:GS) (T':List Value) (G':GS) (M:Map) (w:World) (a:Act),
    ops.toList.drop i=l→uN P E ops l T G=some (T',G')→Rel G M w B→Vs M T a.tmps.toList→tq N a.defers w →
    ∃ M' w' a',cy G M w G' M' w' ∧Rel G' M' w' B∧Vs M' T' a'.tmps.toList∧tq N a'.defers w' ∧
      Steps P (lone (b.atR a (.inRegion ops (List.range' i l.length)::k)) cs w) (lone (b.atR a' k) cs w')
  | [],i,T,G,T',G',M,w,a,hl,h,hR,hT,hm=>by
    simp only [uN,Option.some.injEq,Prod.mk.injEq] at h
    obtain ⟨rfl,rfl⟩:=h
    exact ⟨M,w,a,.refl _ _ _,hR,hT,hm,.one stepR_region_end⟩
  | o::l,i,T,G,T',G',M,w,a,hl,h,hR,hT,hm=>by
    have ho:ops[i]? =some o:=by
      have:(ops.toList.drop i)[0]? =some o:=by rw [hl]; rfl
      simpa using this
    have eg:ops.toList.drop (i+1)=l:=by
      rw [← List.drop_drop,hl]; rfl
    simp only [uN] at h
    simp only [List.length_cons,List.range'_succ]
    by_cases hw:dx ops T o=true
    · rw [if_pos hw] at h
      split at h
      · rename_i v G1 eL
        have kW:Region.wanted o (yielded ops a.tmps)=true:=by rw [NF hT]; exact hw
        obtain ⟨M1,w1,u,h1,h2,h3,h4⟩:=Wf hE eL (b:=b) (k:=k) (cs:=cs) (rest:=List.range' (i+1) l.length) ho kW hR hT
        obtain ⟨M2,w2,a2,h5,h6,h7,h8,h9⟩:=HK hE l (i+1) _ _ _ _ M1 w1 (a.put o.dst u) eg h h2 (HI (hT.mono h1.map) h3 o.dst) (by
          have:=hm.jb hR h1
          cases qD:o.dst<;>simpa [Act.put,qD] using this)
        exact ⟨M2,w2,a2,h1.trans h5,h6,h7,h8,h4.trans h9⟩
      · simp at h
    · rw [if_neg hw] at h
      have kW:Region.wanted o (yielded ops a.tmps)=false:=by rw [NF hT]; simpa using hw
      obtain ⟨M2,w2,a2,h5,h6,h7,h8,h9⟩:=HK hE l (i+1) _ _ _ _ M w (a.put o.dst undef) eg h hR (HI hT sW o.dst) (by cases qD:o.dst<;>simpa [Act.put,qD] using hm)
      refine ⟨M2,w2,a2,h5,h6,h7,h8,.head ?_ h9⟩
      have:=stepR_op_skip (P:=P) (b:=b) (a:=a) (k:=k) (cs:=cs) (w:=w) (ops:=ops) (i:=i) (rest:=List.range' (i+1) l.length) (by simp [ho,kW])
      simpa [ho] using this
end Go.Proofs.YtkhlabammcghbaaGreat.Gh
namespace Go.Proofs.YtkhlabammcghbaaGreat.Gh
open Go
variable {P:Program} {M:Map} {B:Nat} {E:Ev}
def Map.yK (M:Map) (l r:Nat):Map:=⟨M.mu,fun k=>if k=l then some r else M.lp k,M.mp⟩
theorem Rel.dS {G:GS} {w:World} (hR:Rel G M w B) {p:Lp} {lo:Loop} (h1:lo.state=p.st) (h2:lo.pending=p.aC) (h3:Vs M p.tmps lo.tmps.toList) (h4:lo.params.toList=p.params) (h5:lo.assign=p.assign) (h6:lo.body=p.body) :
    let M':=M.yK G.nl w.heap.size
    Rel (G.dS p) M' (w.alloc (.loop lo)) B∧cy G M w (G.dS p) M' (w.alloc (.loop lo))∧M'.lp G.nl=some w.heap.size:=by
  intro M'
  have m9:M.lp G.nl=none:=by
    cases hm:M.lp G.nl with
    | none=>rfl
    | some x=>exact absurd (hR.lp _ _ hm).1 (Nat.lt_irrefl _)
  have hM:M.Le M':=⟨fun _ _ h=>h,fun l r h=>by
    show (if l=G.nl then some w.heap.size else M.lp l)=some r
    rw [if_neg (fun e=>by rw [e,m9] at h; cases h)]; exact h,fun _ _ h=>h⟩
  obtain ⟨hO,hE⟩:=hR.other (.loop lo)
  have bw:∀ l r,M'.lp l=some r→(l=G.nl∧r=w.heap.size)∨(l≠G.nl∧M.lp l=some r):=by
    intro l r hl
    change (if l=G.nl then some w.heap.size else M.lp l)=some r at hl
    split at hl
    · rename_i he; exact .inl ⟨he,(Option.some.inj hl).symm⟩
    · rename_i he; exact .inr ⟨he,hl⟩
  have NH:∀ l r,M.lp l=some r→r<w.heap.size:=by
    intro l r hl
    obtain ⟨_,q,_,_,lo',Bg,_⟩:=hR.lp l r hl
    exact (Array.getElem?_eq_some_iff.1 Bg).1
  refine ⟨⟨hO.size,fun g x o hx ho=>?_,hO.apart,hO.nx,fun l r hl=>?_,?_,fun l r hl=>?_,hR.jA,fun l r hl=>?_,hO.wf,hO.gl⟩,⟨hM,hE.size,hE.keep,?_,rfl,rfl,rfl,Nat.le_refl _,fun _ _ h=>⟨h,rfl⟩,fun _ _ h=>h⟩,by show (if G.nl=G.nl then _ else _)=_; rw [if_pos rfl]⟩
  · have hb:=hO.aY g x o hx ho
    exact ⟨hb.esz,hb.opn,hb.len,fun hm=>nS hM (hb.cells hm) fun _ _ h _=>h,hb.own,hb.ro⟩
  · rcases bw l r hl with ⟨rfl,rfl⟩ | ⟨aB,hl⟩
    · refine ⟨Nat.lt_succ_self _,p,by rw [GS.wA,if_pos rfl],hR.size,lo,World.alloc_heap_new w _,h1,h2,h3.mono hM,h4,h5,h6⟩
    · obtain ⟨k1,q,k2,k3,lo',k4,k5,k6,k7,k8⟩:=hO.lp l r hl
      exact ⟨Nat.lt_succ_of_lt k1,q,by rw [GS.wA,if_neg aB]; exact k2,k3,lo',k4,k5,k6,k7.mono hM,k8⟩
  · intro l l' r hl eg
    rcases bw l r hl with ⟨e1,e2⟩ | ⟨aB,k1⟩<;>rcases bw l' r eg with ⟨e3,e4⟩ | ⟨tj,k2⟩
    · rw [e1,e3]
    · have:=NH _ _ k2; omega
    · have:=NH _ _ k1; omega
    · exact hR.jz l l' r k1 k2
  · obtain ⟨k1,q,k2,k3⟩:=hO.mp l r hl
    exact ⟨Nat.lt_succ_of_lt k1,q,by rw [GS.wA,if_neg (by omega)]; exact k2,k3⟩
  · obtain ⟨k1,_⟩:=hO.mp l r hl
    show (if l=G.nl then some w.heap.size else M.lp l)=none
    rw [if_neg (by omega)]; exact hR.iY l r hl
  · rintro r (⟨g,x,o,hx,ho,hm,rfl⟩ | ⟨l,hl | hl⟩)
    · exact .inl (.inl ⟨g,x,o,hx,ho,hm,rfl⟩)
    · rcases bw l r hl with ⟨rfl,rfl⟩ | ⟨aB,hl⟩
      · exact .inr (Nat.le_refl _)
      · exact .inl (.inr ⟨l,.inl hl⟩)
    · exact .inl (.inr ⟨l,.inr hl⟩)
theorem Rel.bR {G:GS} {w:World} (hR:Rel G M w B) {l r:Nat} {p q:Lp} {lo lo':Loop} (hl:M.lp l=some r) (hp:G.loop l=some p) (dT:w.heap[r]? =some (.loop lo))
    (hq:q.tmps=p.tmps∧q.params=p.params∧q.assign=p.assign∧q.body=p.body) (h1:lo'.state=q.st) (h2:lo'.pending=q.aC) (wE:lo'.tmps=lo.tmps∧lo'.params=lo.params∧lo'.assign=lo.assign∧lo'.body=lo.body) :
    Rel (G.bR l q) M (w.putObj r (.loop lo')) B∧cy G M w (G.bR l q) M (w.putObj r (.loop lo')):=by
  have aT:=(Array.getElem?_eq_some_iff.1 dT).1
  have nW:∀ k,k≠r→(w.putObj r (.loop lo')).heap[k]? =w.heap[k]?:=fun k hk=>World.putObj_heap_other hk
  have Hz:(w.putObj r (.loop lo')).heap[r]? =some (.loop lo'):=World.putObj_heap_same aT
  have HA:∀ a u,w.cell? a=some u→a.block≠r:=by
    rintro a u h rfl
    simp [World.cell?,dT] at h
  obtain ⟨HB,p',dB,hB,yL,Bh,e1,e2,e3,e4,e5,e6⟩:=hR.lp l r hl
  obtain rfl:p' =p:=by rw [hp] at dB; exact (Option.some.inj dB).symm
  obtain rfl:yL=lo:=by rw [dT] at Bh; simpa using Bh.symm
  refine ⟨⟨by rw [World.putObj_size]; exact hR.size,fun g x o hx ho=>?_,hR.apart,hR.nx,fun l' r' eg=>?_,hR.jz,fun l' r' eg=>?_,hR.jA,hR.iY,hR.wf,fun g o ho hm=>(hR.gl g o ho hm).keep fun k hk=>nW k (by omega)⟩,⟨.refl M,by rw [World.putObj_size]; exact Nat.le_refl _,fun k hk hf=>nW k (fun e=>hf (.inr ⟨l,.inl (by rw [e]; exact hl)⟩)),fun _ h=>.inl h,rfl,rfl,rfl,Nat.le_refl _,fun _ _ h=>⟨h,rfl⟩,fun _ _ h=>h⟩⟩
  · have hb:=hR.aY g x o hx ho
    refine ⟨hb.esz,hb.opn,hb.len,fun hm=>nS (.refl M) (hb.cells hm) fun a u h _=>ta (nW _ (HA a u h)) h,fun hm=>?_,hb.ro⟩
    obtain ⟨ft,c,e,iw,pf⟩:=hb.own hm
    exact ⟨ft,c,e,by rw [nW _ (fun he=>by rw [he,dT] at iw; cases iw)]; exact iw,pf⟩
  · by_cases wC:l' =l
    · subst wC
      obtain rfl:r' =r:=by rw [hl] at eg; exact (Option.some.inj eg).symm
      refine ⟨HB,q,by rw [GS.wB,if_pos rfl],hB,lo',Hz,h1,h2,?_,?_,?_,?_⟩
      · rw [hq.1,wE.1]; exact e3
      · rw [hq.2.1,wE.2.1]; exact e4
      · rw [hq.2.2.1,wE.2.2.1]; exact e5
      · rw [hq.2.2.2,wE.2.2.2]; exact e6
    · obtain ⟨k1,q',k2,k3,tn,k4,k5⟩:=hR.lp l' r' eg
      refine ⟨k1,q',by rw [GS.wB,if_neg wC]; exact k2,k3,tn,?_,k5⟩
      rw [nW _ (fun e=>wC (hR.jz l' l r (by rw [← e]; exact eg) hl))]
      exact k4
  · obtain ⟨k1,q',k2,k3⟩:=hR.mp l' r' eg
    refine ⟨k1,q',?_,?_⟩
    · rw [GS.wB,if_neg (fun e=>by have:=hR.iY l' r' eg; rw [e,hl] at this; cases this)]; exact k2
    · obtain ⟨es,ck,h4⟩:=k3.obj
      exact k3.keep (nW _ (fun e=>by rw [e,dT] at h4; cases h4))
theorem HL {G:GS} {w:World} {T:List Value} {tmps:Array Value} (hR:Rel G M w B) (hT:Vs M T tmps.toList):∀ {rs:List ResultVar} {l:List Value},lT P T G rs=some l →
    ∃ us,Vs M l us∧(rs.mapM fun (r:ResultVar)=>(match r with
      | .tmp t=>pure (tmps.getD t undef)
      | .cell a t=>do loadVar t (← asAddr (tmps.getD a undef)):Sem Value)).run P w= .ok us w
  | [],l,h=>by
    simp only [lT,Option.some.injEq] at h; subst h
    exact ⟨[],trivial,rfl⟩
  | .tmp t::r,l,h=>by
    simp only [lT] at h
    split at h
    · rename_i l' hl
      simp only [Option.some.injEq] at h; subst h
      obtain ⟨us,h1,h2⟩:=HL hR hT hl
      have h3:=AJ hT t
      refine ⟨tmps.getD t undef::us,⟨by simpa using h3,h1⟩,?_⟩
      simp only [List.mapM_cons,Sem.run_bind,Sem.run_pure,Result.andThen_ok,h2]
    · simp at h
  | .cell a t::r,l,h=>by
    simp only [lT] at h
    split at h
    · rename_i v l' hv hl
      simp only [Option.some.injEq] at h; subst h
      obtain ⟨us,h1,h2⟩:=HL hR hT hl
      obtain ⟨u,h3,h4,ad,h5⟩:=M0 hR (AJ hT a) hv
      refine ⟨u::us,⟨h3,h1⟩,?_⟩
      have Wh:tmps.getD a undef= .pointer (some ad):=by simpa using h5
      rw [h5] at h4
      simp only [Instr.loadAt,Instr.sureAddr,Sem.run_bind,Sem.run_pure,Result.andThen_ok] at h4
      have has:(asAddr (tmps.getD a undef)).run P w= .ok ad w:=by rw [Wh]; rfl
      simp only [List.mapM_cons,Sem.run_bind,has,Sem.run_pure,Result.andThen_ok,h4,h2]
    · simp at h
theorem Wi {l us:List Value} (h:Vs M l us):V M (uP l) (if h:(⟨us⟩:Array Value).size=1 then (⟨us⟩:Array Value)[0] else .tuple ⟨us⟩):=by
  match l,us,h with
  | [],[],_=>exact rN.2 ⟨_,rfl,trivial⟩
  | [v],[u],h=>exact h.1
  | v::v' ::l,u::u' ::us,h =>
    rw [dif_neg (by simp)]
    exact rN.2 ⟨_,rfl,h⟩
  | [],_::_,h=>exact h.elim
  | _::_,[],h=>exact h.elim
  | [_],_::_::_,h=>exact h.2.elim
  | _::_::_,[_],h=>exact h.2.elim
theorem Wj {G:GS} {w:World} {T:List Value} {tmps:Array Value} {fn:Func} {l:List Value} (hR:Rel G M w B) (hT:Vs M T tmps.toList) (h:lT P T G fn.results.toList=some l) :
    ∃ u,V M (uP l) u∧(results fn tmps).run P w= .ok u w:=by
  obtain ⟨us,h1,h2⟩:=HL hR hT h
  refine ⟨_,Wi h1,?_⟩
  unfold results
  rw [Array.mapM_eq_mapM_toList]
  simp only [Sem.run_bind,Sem.run_map,Sem.run_pure]
  exact congrArg (fun z:Result (List Value)=>(z.andThen fun a w'=>Result.ok a.toArray w').andThen fun a w'=>Result.ok (if h:a.size=1 then a[0] else Value.tuple a) w') h2
end Go.Proofs.YtkhlabammcghbaaGreat.Gh
