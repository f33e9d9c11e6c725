import Derived.Test.YtlaojmcekeohnaaGreatDoorGhTX
namespace Go.Proofs.YtlaojmcekeohnaaGreatDoor.Gh
set_option linter.unusedVariables false
open Go
noncomputable section
structure Ev.le (E E' :Ev):Prop where
  ex:∀ c T G r,E.ex c T G=some r→E'.ex c T G=some r
  cl:∀ f vs G r,E.cl f vs G=some r→E'.cl f vs G=some r
  rd:∀ l vs G r,E.rd l vs G=some r→E'.rd l vs G=some r
  sc:∀ b c T G r,E.sc b c T G=some r→E'.sc b c T G=some r
  lp:∀ c T G r,E.lp c T G=some r→E'.lp c T G=some r
theorem Ev.le.refl (E:Ev):E.le E:=⟨fun _ _ _ _ h=>h,fun _ _ _ _ h=>h,fun _ _ _ _ h=>h,fun _ _ _ _ _ h=>h,fun _ _ _ _ h=>h⟩
theorem Ev.le.trans {A B C:Ev} (h:A.le B) (k:B.le C):A.le C :=
  ⟨fun _ _ _ _ e=>k.ex _ _ _ _ (h.ex _ _ _ _ e),fun _ _ _ _ e=>k.cl _ _ _ _ (h.cl _ _ _ _ e),fun _ _ _ _ e=>k.rd _ _ _ _ (h.rd _ _ _ _ e),fun _ _ _ _ _ e=>k.sc _ _ _ _ _ (h.sc _ _ _ _ _ e),fun _ _ _ _ e=>k.lp _ _ _ _ (h.lp _ _ _ _ e)⟩
structure Lim (C:Nat→Ev) (L:Ev):Prop where
  mono:∀ n m,n≤m→(C n).le (C m)
  ex:∀ c T G r,L.ex c T G=some r→∃ n,(C n).ex c T G=some r
  cl:∀ f vs G r,L.cl f vs G=some r→∃ n,(C n).cl f vs G=some r
  rd:∀ l vs G r,L.rd l vs G=some r→∃ n,(C n).rd l vs G=some r
  sc:∀ b c T G r,L.sc b c T G=some r→∃ n,(C n).sc b c T G=some r
  lp:∀ c T G r,L.lp c T G=some r→∃ n,(C n).lp c T G=some r
structure Good {α:Type} (F:Ev→Option α):Prop where
  mono:∀ E E',E.le E' →∀ r,F E=some r→F E' =some r
  fin:∀ C L,Lim C L→∀ r,F L=some r→∃ n,F (C n)=some r
theorem Good.const {α:Type} (x:Option α):Good (fun _=>x):=⟨fun _ _ _ _ h=>h,fun _ _ _ _ h=>⟨0,h⟩⟩
theorem Good.ex (c:Code) (T:List Value) (G:GS):Good (fun E=>E.ex c T G):=⟨fun _ _ h _ e=>h.ex _ _ _ _ e,fun _ _ h _ e=>h.ex _ _ _ _ e⟩
theorem Good.cl (f:FuncId) (vs:List Value) (G:GS):Good (fun E=>E.cl f vs G):=⟨fun _ _ h _ e=>h.cl _ _ _ _ e,fun _ _ h _ e=>h.cl _ _ _ _ e⟩
theorem Good.rd (l:Nat) (vs:List Value) (G:GS):Good (fun E=>E.rd l vs G):=⟨fun _ _ h _ e=>h.rd _ _ _ _ e,fun _ _ h _ e=>h.rd _ _ _ _ e⟩
theorem Good.sc (b c:Code) (T:List Value) (G:GS):Good (fun E=>E.sc b c T G):=⟨fun _ _ h _ e=>h.sc _ _ _ _ _ e,fun _ _ h _ e=>h.sc _ _ _ _ _ e⟩
theorem Good.lp (c:Code) (T:List Value) (G:GS):Good (fun E=>E.lp c T G):=⟨fun _ _ h _ e=>h.lp _ _ _ _ e,fun _ _ h _ e=>h.lp _ _ _ _ e⟩
theorem Good.bind {α β:Type} {A:Ev→Option α} {K:α→Ev→Option β} (hA:Good A) (hK:∀ a,Good (K a)):Good (fun E=>(A E).bind fun a=>K a E) where
  mono E E' h r e:=by
    cases ha:A E with
    | none=>simp [ha] at e
    | some a =>
      simp only [ha,Option.bind_some] at e
      simp only [hA.mono E E' h a ha,Option.bind_some]
      exact (hK a).mono E E' h r e
  fin C L h r e:=by
    cases ha:A L with
    | none=>simp [ha] at e
    | some a =>
      simp only [ha,Option.bind_some] at e
      obtain ⟨n,hn⟩:=hA.fin C L h a ha
      obtain ⟨m,hm⟩:=(hK a).fin C L h r e
      refine ⟨max n m,?_⟩
      simp only [hA.mono _ _ (h.mono n (max n m) (by omega)) a hn,Option.bind_some]
      exact (hK a).mono _ _ (h.mono m (max n m) (by omega)) r hm
theorem Good.ite {α:Type} {p:Prop} [Decidable p] {A B:Ev→Option α} (hA:Good A) (hB:Good B):Good (fun E=>if p then A E else B E):=by
  by_cases h:p
  · simpa only [if_pos h] using hA
  · simpa only [if_neg h] using hB
theorem Good.of_eq {α:Type} {A B:Ev→Option α} (hA:Good A) (h:∀ E,B E=A E):Good B:=by
  have:B=A:=funext h
  rw [this]; exact hA
section
variable (P:Program)
theorem good_call (T:List Value) (op:Op) (G:GS):Good (fun E=>gCallF P E T op G):=by
  cases op with
  | call c =>
    show Good (fun E=>cCall P E T c G)
    unfold cCall
    split
    · unfold cValue
      split
      · exact .cl _ _ _
      · exact .ite (.rd _ _ _) (.const _)
      · exact .const _
    · unfold cInvoke
      split
      · split
        · exact .cl _ _ _
        · exact .const _
      · exact .const _
    · exact .const _
  | _=>exact .const none
theorem good_wOr (T:List Value) (op:Op) (G:GS):Good (fun E=>wOr P E T op G):=by
  unfold wOr
  split
  · exact .const _
  · exact good_call P T op G
theorem good_opCls (c:Nat) (T:List Value) (G:GS) (op:Op):Good (fun E=>opCls P E c T G op):=by
  unfold opCls
  split
  · exact .const _
  · exact .const _
  · exact .const _
  · exact good_wOr P T op G
theorem good_opStep (T:List Value) (G:GS) (op:Op):Good (fun E=>opStepF P E T G op):= .ite (good_opCls P _ T G op) (.const _)
theorem good_seqOps (ops:Array Oper):∀ (l:List Oper) (T:List Value) (G:GS),Good (fun E=>seqOpsF P E ops l T G)
  | [],T,G=> .const _
  | o::r,T,G=>by
    refine .ite (p:=gWanted ops T o=true) (Good.of_eq (.bind (good_opStep P T G o.op) fun a=>good_seqOps ops r (putT T o.dst a.1) a.2) fun E=> ?_) (good_seqOps ops r (putT T o.dst undef) G)
    cases opStepF P E T G o.op<;>rfl
theorem good_dStep (ops:Array Oper) (ms:List Nat) (base i:Nat) (o:Oper) (T:List Value) (G:GS) (hist:List (Nat×GS)) (pend:List Pend):Good (fun E=>dStep P E ops ms base i o T G hist pend):=by
  refine .ite (.ite ?_ (.const _)) (.const _)
  unfold dCls
  split
  · exact .const _
  · exact .const _
  · exact .const _
  · refine Good.of_eq (.bind (good_wOr P T o.op G) fun a=> .const (d3 P (nth 0 ms i) i o.dst T G hist pend (some a))) fun E=> ?_
    cases wOr P E T o.op G<;>rfl
theorem good_drawOps (ops:Array Oper) (ms:List Nat) (base:Nat):∀ (l:List Oper) (i:Nat) (T:List Value) (G:GS) (hist:List (Nat×GS)) (pend:List Pend),Good (fun E=>drawOpsF P E ops ms base i l T G hist pend)
  | [],i,T,G,hist,pend=> .const _
  | o::r,i,T,G,hist,pend=>by
    refine Good.of_eq (.bind (good_dStep P ops ms base i o T G hist pend) fun a=>good_drawOps ops ms base r (i+1) a.1 a.2.1 a.2.2.1 a.2.2.2) fun E=> ?_
    simp only [drawOpsF]
    cases dStep P E ops ms base i o T G hist pend<;>rfl
def seqK (b:Code) (E:Ev) (r:Exit×List Value×GS):Option (Exit×List Value×GS):=match r with
  | (.normal,T',G')=>E.ex b T' G'
  | r=>some r
theorem xSeq_bind (E:Ev) (b:Code) (r:Option (Exit×List Value×GS)):xSeq E b r=r.bind fun a=>seqK b E a:=by
  rcases r with _ | ⟨e,T,G⟩
  · rfl
  · cases e<;>rfl
theorem good_seqK (b:Code) (r:Exit×List Value×GS):Good (fun E=>seqK b E r):=by
  obtain ⟨e,T,G⟩:=r
  cases e
  · exact .ex _ _ _
  all_goals exact .const _
theorem good_ex (c:Code) (T:List Value) (G:GS):Good (fun E=>stepExF P E c T G):=by
  cases c with
  | skip=>exact .const _
  | label l=>exact .const _
  | seq a b=>exact Good.of_eq (.bind (.ex a T G) fun r=>good_seqK b r) fun E=>xSeq_bind E b _
  | cond x a b =>
    refine .ite ?_ (.const _)
    unfold xIf
    split
    · exact .ex _ _ _
    · exact .ex _ _ _
    · exact .const _
  | block id b =>
    refine Good.of_eq (.bind (.ex b T G) fun r=> .const (xBlock id (some r))) fun E=> ?_
    show xBlock id (E.ex b T G)=_
    cases E.ex b T G<;>rfl
  | loop b=>exact .lp _ _ _
  | exit id=>exact .const _
  | goto l=>exact .const _
  | ret=>exact .const _
  | scope b=>exact .sc _ _ _ _
  | region id ops draw =>
    refine .ite (.ite (Good.of_eq (.bind (good_drawOps P ops (masks ops.toList []) G.nx ops.toList 0 T { G with nx:=G.nx+ops.size } [] []) fun r=> .const (xNorm (some r))) fun E=> ?_) (.const _)) (Good.of_eq (.bind (good_seqOps P ops ops.toList T G) fun r=> .const (xNorm (some r))) fun E=> ?_)
    · cases drawOpsF P E ops (masks ops.toList []) G.nx 0 ops.toList T { G with nx:=G.nx+ops.size } [] []<;>rfl
    · show xNorm (seqOpsF P E ops ops.toList T G)=_
      cases seqOpsF P E ops ops.toList T G<;>rfl
  | rangeFunc f ps assign body =>
    refine .ite ?_ (.const _)
    unfold xRange
    split
    · rename_i g a b _
      refine Good.of_eq (.bind (.cl g (a.toList++[.func (.yield G.nl) #[] #[]]++b.toList) (G.pushLoop ⟨.ready,none,T,ps.toList,assign,body⟩)) fun r=> .const (xRangeEnd G.nl T (some r))) fun E=> ?_
      generalize E.cl _ _ _=x
      cases x<;>rfl
    · exact .const _
  | refuse w=>exact .const _
theorem good_sc (body cur:Code) (T:List Value) (G:GS):Good (fun E=>stepSc E body cur T G):=by
  refine Good.of_eq (.bind (.ex cur T G) fun r=>(?_:Good fun E=>match r with
    | (.goto l,T',G')=>match findLabel body l with
      | some rest=>E.sc body rest T' G'
      | none=>some (.goto l,T',G')
    | r=>some r)) fun E=> ?_
  · obtain ⟨e,T',G'⟩:=r
    cases e
    case goto l =>
      simp only
      split
      · exact .sc _ _ _ _
      · exact .const _
    all_goals exact .const _
  · simp only [stepSc]
    rcases E.ex cur T G with _ | ⟨e,T',G'⟩
    · rfl
    · cases e<;>rfl
def lpK (body:Code) (E:Ev) (r:Exit×List Value×GS):Option (Exit×List Value×GS):=match r with
  | (.normal,T',G')=>E.lp body T' G'
  | r=>some r
theorem stepLp_bind (E:Ev) (body:Code) (T:List Value) (G:GS):stepLp E body T G=(E.ex body T G).bind fun a=>lpK body E a:=by
  unfold stepLp
  rcases E.ex body T G with _ | ⟨e,T',G'⟩
  · rfl
  · cases e<;>rfl
theorem good_lp (body:Code) (T:List Value) (G:GS):Good (fun E=>stepLp E body T G) :=
  Good.of_eq (.bind (.ex body T G) fun r=>(by
    obtain ⟨e,T',G'⟩:=r
    cases e
    · exact .lp _ _ _
    all_goals exact .const _)) fun E=>stepLp_bind E body T G
def clK (fn:Func) (r:Exit×List Value×GS):Option (Value×GS) :=
  if isLeave r.1 then (match gResults P r.2.1 r.2.2 fn.results.toList with | some l=>some (oneOr l,r.2.2) | none=>none) else none
theorem good_cl (f:FuncId) (vs:List Value) (G:GS):Good (fun E=>stepCl P E f vs G):=by
  unfold stepCl
  split
  · rename_i fn _
    split
    · exact .const _
    · split
      · rename_i c _
        refine Good.of_eq (.bind (.ex c (vs++List.replicate (fn.ntmps - vs.length) undef) G) fun r=> .const (clK P fn r)) fun E=> ?_
        rcases E.ex c (vs++List.replicate (fn.ntmps - vs.length) undef) G with _ | ⟨e,T',G'⟩<;>rfl
      · exact .const _
  · exact .const _
def rdK (r : Lp) (l : Nat) (E : Ev) (a : Exit × List Value × GS) : Option (Value × GS) := match a with
      | (.normal,T1,G1)=>match G1.loop l with
        | some r1=>if r1.st= .ready then
            match E.ex r.body T1 (G1.putLoop l { r1 with st:= .busy }) with
            | some (e,_,G2)=>match codeOf e,G2.loop l with
              | some j,some r2=>some (.bool j.isNone,G2.putLoop l { r2 with st:=if j.isNone then .ready else .done,pend:=j })
              | _,_=>none
            | none=>none
          else none
        | none=>none
      | _=>none
theorem good_rd (l:Nat) (vs:List Value) (G:GS):Good (fun E=>stepRd E l vs G):=by
  unfold stepRd
  split
  · rename_i r _
    refine .ite (Good.of_eq (.bind (.ex r.assign (setParams r.params vs r.tmps) G) fun a=>(?_:Good fun E=>rdK r l E a)) fun E=> ?_) (.const _)
    · obtain ⟨e,T1,G1⟩:=a
      cases e
      case normal =>
        unfold rdK
        simp only
        split
        · rename_i r1 _
          refine .ite (Good.of_eq (.bind (.ex r.body T1 (G1.putLoop l { r1 with st:= .busy })) fun b=> .const (match codeOf b.1,b.2.2.loop l with
              | some j,some r2=>some (.bool j.isNone,b.2.2.putLoop l { r2 with st:=if j.isNone then .ready else .done,pend:=j })
              | _,_=>none)) fun E=> ?_) (.const _)
          generalize E.ex r.body T1 _=x
          rcases x with _ | ⟨e,T',G'⟩<;>rfl
        · exact .const _
      all_goals exact .const _
    · rcases E.ex r.assign (setParams r.params vs r.tmps) G with _ | ⟨e,T',G'⟩
      · rfl
      · cases e<;>rfl
  · exact .const _
end
section
variable (P:Program) (orc:FuncId→Bool)
def isPur (f:FuncId):Bool:=(Nat.beq f purF||(Nat.beq f sortF||(Nat.beq f txtA||(Nat.beq f txtB||(Nat.beq f txtC||(Nat.beq f ansF&&orc ansG))))))&&(P.funcs[f]?).isSome
def purs (f:FuncId) (vs:List Value) (G:GS):Option (Value×GS):=if Nat.beq f purF=true then pur vs G else if Nat.beq f sortF=true then srt vs G else if Nat.beq f txtA=true then txt kA vs G else if Nat.beq f txtB=true then txt kB vs G else if Nat.beq f txtC=true then txt kC vs G else ans vs G
def hasTab (G:GS):Bool:= !(P.funcs[purF]?).isSome||tabs G
theorem hasTab_at {G:GS} (h:tabs G=true):hasTab P G=true:=by
  unfold hasTab
  rw [h]
  simp
def clO (E:Ev) (f:FuncId) (vs:List Value) (G:GS):Option (Value×GS):=if (vs.isEmpty&&(orc f&&hasTab P G))=true then some (.bool true,G) else if isPur P orc f=true then purs f vs G else stepCl P E f vs G
def Ev.nextO (E:Ev):Ev:=⟨stepExF P E,clO P orc E,stepRd E,stepSc E,stepLp E⟩
def evO:Nat→Ev
  | 0=>Ev.zero
  | n+1=>(evO n).nextO P orc
theorem good_clO (f:FuncId) (vs:List Value) (G:GS):Good (fun E=>clO P orc E f vs G):= .ite (.const _) (.ite (.const _) (good_cl P f vs G))
theorem nextO_mono {E E' :Ev} (h:E.le E'):(E.nextO P orc).le (E'.nextO P orc) where
  ex c T G r e:=(good_ex P c T G).mono E E' h r e
  cl f vs G r e:=(good_clO P orc f vs G).mono E E' h r e
  rd l vs G r e:=(good_rd l vs G).mono E E' h r e
  sc b c T G r e:=(good_sc b c T G).mono E E' h r e
  lp c T G r e:=(good_lp c T G).mono E E' h r e
theorem zero_le (E:Ev):Ev.zero.le E:=⟨fun _ _ _ _ h=>by simp [Ev.zero] at h,fun _ _ _ _ h=>by simp [Ev.zero] at h,fun _ _ _ _ h=>by simp [Ev.zero] at h,fun _ _ _ _ _ h=>by simp [Ev.zero] at h,fun _ _ _ _ h=>by simp [Ev.zero] at h⟩
theorem evO_step:∀ n,(evO P orc n).le (evO P orc (n+1))
  | 0=>zero_le _
  | n+1=>nextO_mono P orc (evO_step n)
theorem evO_mono {n m:Nat} (h:n≤m):(evO P orc n).le (evO P orc m):=by
  induction h with
  | refl=>exact .refl _
  | step _ ih=>exact ih.trans (evO_step P orc _)
def limO {α:Type} (f:Nat→Option α):Option α:= @dite (Option α) (∃ a n,f n=some a) (Classical.propDecidable _) (fun h=>some (Classical.choose h)) (fun _=>none)
theorem limO_fin {α:Type} {f:Nat→Option α} {a:α} (h:limO f=some a):∃ n,f n=some a:=by
  unfold limO at h
  split at h
  · rename_i hh
    cases h
    exact Classical.choose_spec hh
  · cases h
theorem limO_of {α:Type} {f:Nat→Option α} {a:α} (hm:∀ n m a,n≤m→f n=some a→f m=some a) {n:Nat} (h:f n=some a):limO f=some a:=by
  have hh:∃ a n,f n=some a:=⟨a,n,h⟩
  obtain ⟨m,hm'⟩:=Classical.choose_spec hh
  have e1:=hm n (max n m) _ (by omega) h
  have e2:=hm m (max n m) _ (by omega) hm'
  have:limO f=some (Classical.choose hh):=by unfold limO; rw [dif_pos hh]
  rw [this,← e2,e1]
def evL:Ev where
  ex c T G:=limO fun n=>(evO P orc n).ex c T G
  cl f vs G:=limO fun n=>(evO P orc n).cl f vs G
  rd l vs G:=limO fun n=>(evO P orc n).rd l vs G
  sc b c T G:=limO fun n=>(evO P orc n).sc b c T G
  lp c T G:=limO fun n=>(evO P orc n).lp c T G
theorem lim_evL:Lim (evO P orc) (evL P orc) where
  mono n m h:=evO_mono P orc h
  ex c T G r h:=limO_fin h
  cl f vs G r h:=limO_fin h
  rd l vs G r h:=limO_fin h
  sc b c T G r h:=limO_fin h
  lp c T G r h:=limO_fin h
theorem le_evL (n:Nat):(evO P orc n).le (evL P orc) where
  ex c T G r h:=limO_of (fun _ _ _ h e=>(evO_mono P orc h).ex _ _ _ _ e) h
  cl f vs G r h:=limO_of (fun _ _ _ h e=>(evO_mono P orc h).cl _ _ _ _ e) h
  rd l vs G r h:=limO_of (fun _ _ _ h e=>(evO_mono P orc h).rd _ _ _ _ e) h
  sc b c T G r h:=limO_of (fun _ _ _ h e=>(evO_mono P orc h).sc _ _ _ _ _ e) h
  lp c T G r h:=limO_of (fun _ _ _ h e=>(evO_mono P orc h).lp _ _ _ _ e) h
theorem opt_ext {α:Type} {x y:Option α} (h:∀ r,x=some r→y=some r) (k:∀ r,y=some r→x=some r):x=y:=by
  cases x with
  | some a=>exact (h a rfl).symm
  | none=>cases y with
    | none=>rfl
    | some b=>exact k b rfl
theorem fixed {α:Type} {F:Ev→Option α} (hF:Good F) {f:Nat→Option α} (h:∀ n,f (n+1)=F (evO P orc n)) (hm:∀ n m a,n≤m→f n=some a→f m=some a):limO f=F (evL P orc):=by
  refine opt_ext (fun r e=> ?_) (fun r e=> ?_)
  · obtain ⟨n,hn⟩:=limO_fin e
    have h1:=hm n (n+1) r (by omega) hn
    rw [h] at h1
    exact hF.mono _ _ (le_evL P orc n) r h1
  · obtain ⟨n,hn⟩:=hF.fin _ _ (lim_evL P orc) r e
    rw [← h] at hn
    exact limO_of hm hn
theorem evL_ex (c:Code) (T:List Value) (G:GS):(evL P orc).ex c T G=stepExF P (evL P orc) c T G:=fixed P orc (good_ex P c T G) (fun _=>rfl) fun _ _ _ h e=>(evO_mono P orc h).ex _ _ _ _ e
theorem evL_cl (f:FuncId) (vs:List Value) (G:GS):(evL P orc).cl f vs G=clO P orc (evL P orc) f vs G:=fixed P orc (good_clO P orc f vs G) (fun _=>rfl) fun _ _ _ h e=>(evO_mono P orc h).cl _ _ _ _ e
theorem evL_rd (l:Nat) (vs:List Value) (G:GS):(evL P orc).rd l vs G=stepRd (evL P orc) l vs G:=fixed P orc (good_rd l vs G) (fun _=>rfl) fun _ _ _ h e=>(evO_mono P orc h).rd _ _ _ _ e
theorem evL_sc (b c:Code) (T:List Value) (G:GS):(evL P orc).sc b c T G=stepSc (evL P orc) b c T G:=fixed P orc (good_sc b c T G) (fun _=>rfl) fun _ _ _ h e=>(evO_mono P orc h).sc _ _ _ _ _ e
theorem evL_lp (c:Code) (T:List Value) (G:GS):(evL P orc).lp c T G=stepLp (evL P orc) c T G:=fixed P orc (good_lp c T G) (fun _=>rfl) fun _ _ _ h e=>(evO_mono P orc h).lp _ _ _ _ e
end
section
variable {P:Program} {orc:FuncId→Bool} {B:Nat} {E:Ev}
def PurOk1 (P:Program):Prop :=
  ∀ fn,P.funcs[purF]? =some fn→(fn.name == "runtime.NumGoroutine")=false∧fn.body.isSome=true ∧
    ∀ (w:World) (n:Nat),n≤18446744073709551615→TabAt w→Calls P purF #[.int .u64 (Int.ofNat n)] w fun e w' =>e= .returned (.int .i64 (ctzN n))∧Go.RowKit.Below w.heap.size w w'
def PurOk (P:Program):Prop:=PurOk1 P∧SortOk P∧TxtOk P txtA kA∧TxtOk P txtB kB∧TxtOk P txtC kC
theorem pur_some {vs:List Value} {G G' :GS} {v:Value} (h:pur vs G=some (v,G')):∃ n,vs=[.int .u64 (Int.ofNat n)]∧tabs G=true∧n≤18446744073709551615∧v= .int .i64 (ctzN n)∧G' =G:=by
  unfold pur at h
  split at h
  · rename_i n
    split at h
    · rename_i hc
      simp only [Bool.and_eq_true] at hc
      cases h
      exact ⟨n,rfl,hc.1,Nat.le_of_ble_eq_true hc.2,rfl,rfl⟩
    · cases h
  · cases h
def OrcOk (P:Program) (orc:FuncId→Bool):Prop:=PurOk P∧(orc ansG=true→AnsOk P) ∧
  ∀ f,orc f=true→(∃ fn,P.funcs[f]? =some fn∧(fn.name == "runtime.NumGoroutine")=false∧fn.body.isSome=true)∧∀ w,((P.funcs[purF]?).isSome=true→TabAt w)→Calls P f #[] w fun e w' =>e= .returned (.bool true)∧Go.RowKit.Below w.heap.size w w'
theorem hasTab.rel {G:GS} {M:Map} {w:World} (hR:Rel G M w B) (h:hasTab P G=true):(P.funcs[purF]?).isSome=true→TabAt w:=fun hs=>by
  unfold hasTab at h
  rw [hs] at h
  simp only [Bool.not_true,Bool.false_or] at h
  exact hR.tab h
theorem Rel.grow {G:GS} {M:Map} {w w' :World} (hR:Rel G M w B) (hb:Go.RowKit.Below w.heap.size w w'):Rel G M w' B:=by
  have hk:∀ r,r<w.heap.size→w'.heap[r]? =w.heap[r]? :=hb.block
  refine ⟨Nat.le_trans hR.size hb.size,fun g x o hx ho=> ?_,hR.apart,hR.nx,fun l r hl=> ?_,hR.lpinj,fun l r hl=>let ⟨h1,p,h2,h3⟩:=hR.mp l r hl; ⟨h1,p,h2,h3.keep (hk _ h3.lt)⟩,hR.mpinj,hR.mplp,hR.wf,fun g o ho hm=>(hR.gl g o ho hm).keep fun r hr=>hk r (Nat.lt_of_lt_of_le hr hR.size)⟩
  · have hb' :=hR.blk g x o hx ho
    refine ⟨hb'.esz,hb'.opn,hb'.len,fun hm=>cells_mono (.refl M) (hb'.cells hm) fun a u hu _=> ?_,fun hm=> ?_,hb'.ro⟩
    · have hlt:a.block<w.heap.size:=by
        rcases Nat.lt_or_ge a.block w.heap.size with h | h
        · exact h
        · simp [World.cell?,Array.getElem?_eq_none h] at hu
      exact heap_cell (hk _ hlt) hu
    · obtain ⟨h1,c,e,h2,h3⟩:=hb'.own hm
      exact ⟨h1,c,e,by rw [hk _ (Array.getElem?_eq_some_iff.1 h2).1]; exact h2,h3⟩
  · obtain ⟨h1,p,h2,h3,lo,h4,h5⟩:=hR.lp l r hl
    exact ⟨h1,p,h2,h3,lo,by rw [hk _ (Array.getElem?_eq_some_iff.1 h4).1]; exact h4,h5⟩
theorem Evo.grow {G:GS} {M:Map} {w w' :World} (hb:Go.RowKit.Below w.heap.size w w'):Evo G M w G M w' :=
  ⟨.refl M,hb.size,fun r hr _=>hb.block r hr,fun _ h=> .inl h,hb.os,hb.tape,hb.output,Nat.le_refl _,fun _ _ h=>⟨h,rfl⟩,fun _ _ h=>h⟩
theorem lits_go:∀ {l:List (IntKind×Int)} {as:List Value} {M:Map},Vs M (litV l) as→as=litV l
  | [],[],_,_=>rfl
  | x::l,u::as,M,h=>by
    rw [V_int.1 h.1,lits_go (l:=l) h.2]; rfl
theorem lits_eq {l:List (IntKind×Int)} {args:Array Value} {M:Map} (h:Vs M (litV l) args.toList):args=(litV l).toArray:=by
  obtain ⟨as⟩:=args
  have h2:as=litV l:=lits_go h
  rw [h2]
theorem sim_nextO (hmix:P.follows .mixedOrders=true) (ho:OrcOk P orc) (hE:SimE P B E):SimE P B (E.nextO P orc):=by
  have hn:SimE P B (E.nextF P):=by rw [Ev.nextF_eq]; exact sim_next hmix hE
  refine ⟨fun c T G e T' G' h=>hn.ex c T G e T' G' h,fun b c T G e T' G' h=>hn.sc b c T G e T' G' h,fun c T G e T' G' h=>hn.lp c T G e T' G' h,fun f vs G v G' h=> ?_,fun f vs G v G' h=> ?_,fun l vs G v G' h=>hn.rd l vs G v G' h⟩
  · replace h:clO P orc E f vs G=some (v,G'):=h
    unfold clO at h
    split at h
    · rename_i hc
      simp only [Bool.and_eq_true,List.isEmpty_iff] at hc
      obtain ⟨hvs,hf,hT⟩:=hc
      cases h
      subst hvs
      intro M w args cs hR hv
      have hargs:args= #[]:=by
        have:=lrel_length hv
        exact Array.eq_empty_of_size_eq_zero (by simpa using this.symm)
      subst hargs
      obtain ⟨e,w',fr,⟨rfl,hb⟩,h1,h2,h3⟩:=(ho.2.2 f hf).2 w (hasTab.rel hR hT) cs
      exact ⟨M,w',fr,.bool true,.grow hb,hR.grow hb,V_bool.2 rfl,h1,h2,h3⟩
    split at h
    · rename_i hp
      simp only [isPur,Bool.and_eq_true,Bool.or_eq_true] at hp
      obtain ⟨fn,hfn⟩:=Option.isSome_iff_exists.1 hp.2
      unfold purs at h
      split at h
      · rename_i hpf
        obtain ⟨n,rfl,hob,hn',rfl,rfl⟩:=pur_some h
        obtain rfl:=Nat.eq_of_beq_eq_true hpf
        intro M w args cs hR hv
        obtain ⟨_,_,hc⟩:=ho.1.1 fn hfn
        have hargs:args= #[.int .u64 (Int.ofNat n)]:=by
          obtain ⟨l⟩:=args
          match l,hv with
          | [u],hv=>rw [V_int.1 hv.1]
        subst hargs
        obtain ⟨e,w',fr,⟨rfl,hb⟩,h1,h2,h3⟩:=hc w n hn' (hR.tab hob) cs
        exact ⟨M,w',fr,_,.grow hb,hR.grow hb,V_int.2 rfl,h1,h2,h3⟩
      split at h
      · rename_i hps
        obtain rfl:=Nat.eq_of_beq_eq_true hps
        intro M w args cs hR hv
        obtain ⟨e,w',fr,⟨rfl,rfl,hR',hE'⟩,h1,h2,h3⟩:=srt_run ho.1.2.1 hfn h hR hv cs
        exact ⟨M,w',fr,_,hE',hR',V_undef,h1,h2,h3⟩
      split at h
      · rename_i hp0
        obtain rfl:=Nat.eq_of_beq_eq_true hp0
        intro M w args cs hR hv
        obtain ⟨e,w',fr,⟨s,rfl,rfl,rfl,hb⟩,h1,h2,h3⟩:=txt_run ho.1.2.2.1 hfn h hR hv cs
        exact ⟨M,w',fr,_,.grow hb,hR.grow hb,V_string.2 rfl,h1,h2,h3⟩
      split at h
      · rename_i hp0
        obtain rfl:=Nat.eq_of_beq_eq_true hp0
        intro M w args cs hR hv
        obtain ⟨e,w',fr,⟨s,rfl,rfl,rfl,hb⟩,h1,h2,h3⟩:=txt_run ho.1.2.2.2.1 hfn h hR hv cs
        exact ⟨M,w',fr,_,.grow hb,hR.grow hb,V_string.2 rfl,h1,h2,h3⟩
      split at h
      · rename_i hp0
        obtain rfl:=Nat.eq_of_beq_eq_true hp0
        intro M w args cs hR hv
        obtain ⟨e,w',fr,⟨s,rfl,rfl,rfl,hb⟩,h1,h2,h3⟩:=txt_run ho.1.2.2.2.2 hfn h hR hv cs
        exact ⟨M,w',fr,_,.grow hb,hR.grow hb,V_string.2 rfl,h1,h2,h3⟩
      · rename_i hpf hps ha hb hc
        have hps:=((((hp.1.resolve_left hpf).resolve_left hps).resolve_left ha).resolve_left hb).resolve_left hc
        obtain rfl:=Nat.eq_of_beq_eq_true hps.1
        unfold ans at h
        split at h
        · rename_i u hu
          cases h
          obtain ⟨x,hx,rfl,rfl⟩:=ansFind_some hu
          intro M w args cs hR hv
          obtain ⟨_,_,hc⟩:=ho.2.1 hps.2 fn hfn
          rw [lits_eq hv]
          obtain ⟨e,w',fr,⟨rfl,hb⟩,h1,h2,h3⟩:=hc x hx w cs
          exact ⟨M,w',fr,_,.grow hb,hR.grow hb,V_int.2 rfl,h1,h2,h3⟩
        · cases h
    · exact hn.cl f vs G v G' h
  · replace h:clO P orc E f vs G=some (v,G'):=h
    unfold clO at h
    split at h
    · rename_i hc
      simp only [Bool.and_eq_true] at hc
      exact (ho.2.2 f hc.2.1).1
    split at h
    · rename_i hp
      simp only [isPur,Bool.and_eq_true,Bool.or_eq_true] at hp
      obtain ⟨fn,hfn⟩:=Option.isSome_iff_exists.1 hp.2
      rcases hp.1 with hp1 | hp1 | hp1 | hp1 | hp1 | hp1
      · obtain rfl:=Nat.eq_of_beq_eq_true hp1
        obtain ⟨h1,h2,_⟩:=ho.1.1 fn hfn
        exact ⟨fn,hfn,h1,h2⟩
      · obtain rfl:=Nat.eq_of_beq_eq_true hp1
        obtain ⟨h1,h2,_⟩:=ho.1.2.1 fn hfn
        exact ⟨fn,hfn,h1,h2⟩
      · obtain rfl:=Nat.eq_of_beq_eq_true hp1
        obtain ⟨h1,h2,_⟩:=ho.1.2.2.1 fn hfn
        exact ⟨fn,hfn,h1,h2⟩
      · obtain rfl:=Nat.eq_of_beq_eq_true hp1
        obtain ⟨h1,h2,_⟩:=ho.1.2.2.2.1 fn hfn
        exact ⟨fn,hfn,h1,h2⟩
      · obtain rfl:=Nat.eq_of_beq_eq_true hp1
        obtain ⟨h1,h2,_⟩:=ho.1.2.2.2.2 fn hfn
        exact ⟨fn,hfn,h1,h2⟩
      · obtain rfl:=Nat.eq_of_beq_eq_true hp1.1
        obtain ⟨h1,h2,_⟩:=ho.2.1 hp1.2 fn hfn
        exact ⟨fn,hfn,h1,h2⟩
    · exact hn.clok f vs G v G' h
theorem sim_evO (hmix:P.follows .mixedOrders=true) (ho:OrcOk P orc):∀ n,SimE P B (evO P orc n)
  | 0=>sim_zero
  | n+1=>sim_nextO hmix ho (sim_evO hmix ho n)
theorem calls_evL (hmix:P.follows .mixedOrders=true) (ho:OrcOk P orc) {f:FuncId} {vs:List Value} {G G' :GS} {v:Value} (h:(evL P orc).cl f vs G=some (v,G')) {M:Map} {w:World} {args:Array Value}
    (hR:Rel G M w w.heap.size) (hv:Vs M vs args.toList) :
    Calls P f args w fun e w' =>∃ M' u,e= .returned u∧V M' v u∧Rel G' M' w' w.heap.size∧Evo G M w G' M' w' :=by
  intro cs
  obtain ⟨n,hn⟩:=limO_fin h
  obtain ⟨M',w',fr,u,h1,h2,h3,h4,h5,h6⟩:=(sim_evO (B:=w.heap.size) hmix ho n).cl _ _ _ _ _ hn M w args cs hR hv
  exact ⟨.returned u,w',fr,⟨M',u,rfl,h3,h2,h1⟩,h4,h5,h6⟩
theorem law_evL (hmix:P.follows .mixedOrders=true) (ho:OrcOk P orc) {f:FuncId} {vs:List Value} {G G' :GS} (h:(evL P orc).cl f vs G=some (.bool true,G')) {M:Map} {w:World} {args:Array Value}
    (hR:Rel G M w w.heap.size) (hv:Vs M vs args.toList) (hro:∀ r,¬ foot G M r) :
    Calls P f args w fun e w' =>e= .returned (.bool true)∧Go.RowKit.Below w.heap.size w w' :=
  (calls_evL hmix ho h hR hv).mono fun e w' ⟨M',u,he,hV,_,hE⟩=>⟨by rw [he,V_bool.1 hV],below_of hE fun r _=>hro r⟩
end
end
end Go.Proofs.YtlaojmcekeohnaaGreatDoor.Gh
