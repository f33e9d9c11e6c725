import Derived.Test.YtlaojmcekeohnaaGreatDoorGhL
namespace Go.Proofs.YtlaojmcekeohnaaGreatDoor.Gh
open Go
variable {P:Program} {M:Map}
section
variable {b:Frame} {a:Act} {k:List Item} {cs:List Frame} {w w' :World} {ops:Array Oper} {i:Nat} {rest:List Nat} {o:Oper}
theorem semAt_call (hd:∀ c,o.op≠ .defer c):o.semAt b.roundOf a.eval=execOp a.eval o:=Oper.semAt_eq _ _ _ hd
theorem fin_at (ho:ops[i]? =some o) (v:Value):(b.atR a (.inRegion ops (i::rest)::k)).finish v=b.atR (a.put o.dst v) (.inRegion ops rest::k):=by
  rw [Frame.finish_atR,ho]; rfl
theorem step_value {u:Value} (ho:ops[i]? =some o) (hw:Region.wanted o (yielded ops a.tmps)=true) (hd:∀ c,o.op≠ .defer c) (hr:(execOp a.eval o).run P w= .ok (.value u) w') :
    step P (lone (b.atR a (.inRegion ops (i::rest)::k)) cs w)= .next (lone (b.atR (a.put o.dst u) (.inRegion ops rest::k)) cs w'):=by
  have hg:=stepGR_op (P:=P) (b:=b) (k:=k) (cs:=cs) (w:=w) (rest:=rest) ho hw
  rw [semAt_call hd] at hg
  refine step_lone_go ?_
  rw [hg,← fin_at ho]; simp [stepG.apply,hr]
theorem step_skipped (ho:ops[i]? =some o) (hw:Region.wanted o (yielded ops a.tmps)=true) (hd:∀ c,o.op≠ .defer c) (hr:(execOp a.eval o).run P w= .ok .skip w') :
    step P (lone (b.atR a (.inRegion ops (i::rest)::k)) cs w)= .next (lone (b.atR (a.put o.dst undef) (.inRegion ops rest::k)) cs w'):=by
  have hg:=stepGR_op (P:=P) (b:=b) (k:=k) (cs:=cs) (w:=w) (rest:=rest) ho hw
  rw [semAt_call hd] at hg
  refine step_lone_go ?_
  rw [hg,← fin_at ho]; simp [stepG.apply,hr]
theorem step_enters {f:FuncId} {args:Array Value} (ho:ops[i]? =some o) (hw:Region.wanted o (yielded ops a.tmps)=true) (hd:∀ c,o.op≠ .defer c) (hr:(execOp a.eval o).run P w= .ok (.enter f args) w') :
    step P (lone (b.atR a (.inRegion ops (i::rest)::k)) cs w)= .next (lone (Frame.enter P f args .normal) (b.atR a (.inRegion ops (i::rest)::k)::cs) w'):=by
  have hg:=stepGR_op (P:=P) (b:=b) (k:=k) (cs:=cs) (w:=w) (rest:=rest) ho hw
  rw [semAt_call hd] at hg
  refine step_lone_go ?_
  rw [hg]; simp [stepG.apply,hr,Frame.atR]
theorem step_rounds {l f:Nat} {tmps:Array Value} {assign body:Code} (ho:ops[i]? =some o) (hw:Region.wanted o (yielded ops a.tmps)=true) (hd:∀ c,o.op≠ .defer c) (hr:(execOp a.eval o).run P w= .ok (.round l f tmps assign body) w') :
    step P (lone (b.atR a (.inRegion ops (i::rest)::k)) cs w)= .next (lone (Frame.round l f tmps assign body .normal) (b.atR a (.inRegion ops (i::rest)::k)::cs) w'):=by
  have hg:=stepGR_op (P:=P) (b:=b) (k:=k) (cs:=cs) (w:=w) (rest:=rest) ho hw
  rw [semAt_call hd] at hg
  refine step_lone_go ?_
  rw [hg]; simp [stepG.apply,hr,Frame.atR]
end
def MarksOk (N:Nat) (ds:List Deferred) (w:World):Prop :=
  ∃ rs:List Nat,ds=rs.map (fun r=>⟨.collected r,#[]⟩)∧rs.Nodup∧∀ r∈rs,N≤r∧w.heap[r]? =some (.deferred (some []))
def RoundOk (b:Frame) (M:Map):Prop:=∀ r,b.roundOf=some r→∃ l,M.lp l=some r
def ArrR (P:Program) (m:Machine) (b:Frame) (k:List Item) (cs:List Frame) (e:Exit) (a:Act) (w:World):Prop :=
  match e with
  | .normal=>Steps P m (lone (b.atR a k) cs w)
  | .exit id=>∃ k₁,exitTo id k₁=exitTo id k∧Steps P m (lone (b.atR a (.code (.exit id)::k₁)) cs w)
  | .goto l=>∃ k₁,gotoIn l k₁=gotoIn l k∧Steps P m (lone (b.atR a (.code (.goto l)::k₁)) cs w)
  | .ret=>∃ k₁,Steps P m (lone (b.atR a (.code .ret::k₁)) cs w)
  | _=>False
theorem ArrR.of_steps {m m₁:Machine} {b:Frame} {k:List Item} {cs:List Frame} {e:Exit} {a:Act} {w:World} (h:Steps P m m₁) (h' :ArrR P m₁ b k cs e a w):ArrR P m b k cs e a w:=by
  cases e with
  | normal=>exact h.trans h'
  | exit id=>obtain ⟨k₁,h1,h2⟩:=h'; exact ⟨k₁,h1,h.trans h2⟩
  | goto id=>obtain ⟨k₁,h1,h2⟩:=h'; exact ⟨k₁,h1,h.trans h2⟩
  | ret=>obtain ⟨k₁,h2⟩:=h'; exact ⟨k₁,h.trans h2⟩
  | panic c=>exact h'
  | outgrown=>exact h'
def Reach (P:Program) (B:Nat) (todo:List Item) (T:List Value) (G:GS) (e:Exit) (T' :List Value) (G' :GS):Prop :=
  ∀ (N:Nat) (M:Map) (w:World) (b:Frame) (k:List Item) (cs:List Frame) (a:Act),Rel G M w B→Vs M T a.tmps.toList→MarksOk N a.defers w→N≤w.heap.size→RoundOk b M →
    ∃ M' w' a',Evo G M w G' M' w' ∧Rel G' M' w' B∧Vs M' T' a'.tmps.toList∧MarksOk N a'.defers w' ∧ArrR P (lone (b.atR a (todo++k)) cs w) b k cs e a' w'
structure SimE (P:Program) (B:Nat) (E:Ev):Prop where
  ex:∀ c T G e T' G',E.ex c T G=some (e,T',G')→Reach P B [.code c] T G e T' G'
  sc:∀ body cur T G e T' G',E.sc body cur T G=some (e,T',G')→Reach P B [.code cur,.inScope body] T G e T' G'
  lp:∀ body T G e T' G',E.lp body T G=some (e,T',G')→Reach P B [.code body,.inLoop body] T G e T' G'
  cl:∀ f vs G v G',E.cl f vs G=some (v,G')→∀ (M:Map) (w:World) (args:Array Value) (cs:List Frame),Rel G M w B→Vs M vs args.toList →
    ∃ M' w' fr v',Evo G M w G' M' w' ∧Rel G' M' w' B∧V M' v v' ∧Steps P (lone (Frame.enter P f args .normal) cs w) (lone fr cs w')∧fr.fn=f∧fr.leaving P w' (.returned v')
  clok:∀ f vs G v G',E.cl f vs G=some (v,G')→∃ fn,P.funcs[f]? =some fn∧(fn.name == "runtime.NumGoroutine")=false∧fn.body.isSome=true
  rd:∀ l vs G v G',E.rd l vs G=some (v,G')→∀ (M:Map) (w:World) (r:Nat) (lo:Loop) (args:Array Value) (c:Frame) (cs:List Frame),Rel G M w B→M.lp l=some r→w.heap[r]? =some (.loop lo)→Vs M vs args.toList →
    args.size=lo.params.size∧∃ M' w' v',Evo G M w G' M' w' ∧Rel G' M' w' B∧V M' v v' ∧
      Steps P (lone (Frame.round r lo.fn ((lo.params.zip args).foldl (fun tmps (t,a)=>tmps.setIfInBounds t a) lo.tmps) lo.assign lo.body .normal) (c::cs) w) (lone (c.finish v') cs w')
theorem MarksOk.evo {G G' :GS} {M' :Map} {w w' :World} {B:Nat} {N:Nat} {ds:List Deferred} (h:MarksOk N ds w) (hR:Rel G M w B) (hE:Evo G M w G' M' w'):MarksOk N ds w' :=by
  obtain ⟨rs,h1,h2,h3⟩:=h
  refine ⟨rs,h1,h2,fun r hr=>⟨(h3 r hr).1,?_⟩⟩
  have hd:=(h3 r hr).2
  have hlt:=(Array.getElem?_eq_some_iff.1 hd).1
  rw [hE.keep r hlt,hd]
  rintro (⟨g,x,o,hx,ho,hm,rfl⟩ | ⟨l,hl | hl⟩)
  · have hb:=hR.blk g x o hx ho
    obtain ⟨_,c,e,h4,_⟩:=hb.own hm
    rw [hd] at h4; cases h4
  · obtain ⟨_,p,_,_,lo,h4,_⟩:=hR.lp l r hl
    rw [hd] at h4; cases h4
  · obtain ⟨_,p,_,h4⟩:=hR.mp l r hl
    obtain ⟨es,ck,h5⟩:=h4.obj
    rw [hd] at h5; cases h5
theorem RoundOk.mono {M' :Map} {b:Frame} (h:RoundOk b M) (hM:M.Le M'):RoundOk b M' :=fun r hr=>let ⟨l,hl⟩:=h r hr; ⟨l,hM.lp _ _ hl⟩
theorem put_rel {T:List Value} {a:Act} {v u:Value} (hT:Vs M T a.tmps.toList) (hv:V M v u) (d:Option Tmp):Vs M (putT T d v) (a.put d u).tmps.toList:=by
  have key:∀ {l l' :List Value} (n:Nat),Vs M l l' →Vs M (setT l n v) (l'.set n u):=by
    intro l
    induction l with
    | nil=>intro l' n h; cases l' with | nil=>exact trivial | cons=>exact h.elim
    | cons x xs ih =>
      intro l' n h
      cases l' with
      | nil=>exact h.elim
      | cons y ys=>cases n with
        | zero=>exact ⟨hv,h.2⟩
        | succ n=>exact ⟨h.1,ih n h.2⟩
  cases d with
  | none=>exact hT
  | some d =>
    show Vs M (setT T d v) (a.tmps.setIfInBounds d u).toList
    rw [Array.toList_setIfInBounds]
    exact key d hT
theorem yield_rel {T:List Value} {a:Act} (hT:Vs M T a.tmps.toList) (ops:Array Oper) (j:Nat):yielded ops a.tmps j=gYield ops T j:=by
  unfold yielded gYield
  cases ho:ops[j]? with
  | none=>rfl
  | some o =>
    cases hd:o.dst with
    | none=>simp [hd]
    | some d =>
      simp only [Option.bind_some,hd]
      have h:=nth_rel hT d
      cases ht:a.tmps[d]? with
      | none =>
        have hg:a.tmps.toList.getD d undef=undef:=by simp [List.getD,ht]
        rw [hg] at h
        cases hn:nth undef T d with
        | bool b=>rw [hn] at h; have:=V_bool.1 h; simp [undef] at this
        | _=>rfl
      | some y =>
        have hg:a.tmps.toList.getD d undef=y:=by simp [List.getD,ht]
        rw [hg] at h
        cases hn:nth undef T d with
        | bool b=>rw [hn] at h; rw [V_bool.1 h]
        | _ =>
          cases y with
          | bool b=>rw [V_isBool h] at hn; cases hn
          | _=>rfl
theorem wanted_rel {T:List Value} {a:Act} (hT:Vs M T a.tmps.toList) (ops:Array Oper) (o:Oper):Region.wanted o (yielded ops a.tmps)=gWanted ops T o:=by
  unfold Region.wanted gWanted
  cases o.guard with
  | none=>rfl
  | some g=>obtain ⟨j,want⟩:=g; simp only [yield_rel hT]
end Go.Proofs.YtlaojmcekeohnaaGreatDoor.Gh
