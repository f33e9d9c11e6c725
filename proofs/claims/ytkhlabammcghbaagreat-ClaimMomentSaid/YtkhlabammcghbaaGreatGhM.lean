import Derived.Test.YtkhlabammcghbaaGreatEC
namespace Go.Proofs.YtkhlabammcghbaaGreat.Gh
set_option linter.unusedVariables false
open Go
noncomputable section
structure Ev.le (E E':Ev):Prop where
  ex:∀ c T G r,E.ex c T G=some r→E'.ex c T G=some r
  cl:∀ f vs G r,E.cl f vs G=some r→E'.cl f vs G=some r
  rd:∀ l vs G r,E.rd l vs G=some r→E'.rd l vs G=some r
  sc:∀ b c T G r,E.sc b c T G=some r→E'.sc b c T G=some r
  lp:∀ c T G r,E.lp c T G=some r→E'.lp c T G=some r
theorem Ev.le.refl (E:Ev):E.le E:=⟨fun _ _ _ _ h=>h,fun _ _ _ _ h=>h,fun _ _ _ _ h=>h,fun _ _ _ _ _ h=>h,fun _ _ _ _ h=>h⟩
theorem Ev.le.trans {A B C:Ev} (h:A.le B) (k:B.le C):A.le C :=
  ⟨fun _ _ _ _ e=>k.ex _ _ _ _ (h.ex _ _ _ _ e),fun _ _ _ _ e=>k.cl _ _ _ _ (h.cl _ _ _ _ e),fun _ _ _ _ e=>k.rd _ _ _ _ (h.rd _ _ _ _ e),fun _ _ _ _ _ e=>k.sc _ _ _ _ _ (h.sc _ _ _ _ _ e),fun _ _ _ _ e=>k.lp _ _ _ _ (h.lp _ _ _ _ e)⟩
structure Pv (C:Nat→Ev) (L:Ev):Prop where
  mono:∀ n m,n≤m→(C n).le (C m)
  ex:∀ c T G r,L.ex c T G=some r→∃ n,(C n).ex c T G=some r
  cl:∀ f vs G r,L.cl f vs G=some r→∃ n,(C n).cl f vs G=some r
  rd:∀ l vs G r,L.rd l vs G=some r→∃ n,(C n).rd l vs G=some r
  sc:∀ b c T G r,L.sc b c T G=some r→∃ n,(C n).sc b c T G=some r
  lp:∀ c T G r,L.lp c T G=some r→∃ n,(C n).lp c T G=some r
structure Good {α:Type} (F:Ev→Option α):Prop where
  mono:∀ E E',E.le E' →∀ r,F E=some r→F E' =some r
  fin:∀ C L,Pv C L→∀ r,F L=some r→∃ n,F (C n)=some r
theorem Good.const {α:Type} (x:Option α):Good (fun _=>x):=⟨fun _ _ _ _ h=>h,fun _ _ _ _ h=>⟨0,h⟩⟩
theorem Good.ex (c:Code) (T:List Value) (G:GS):Good (fun E=>E.ex c T G):=⟨fun _ _ h _ e=>h.ex _ _ _ _ e,fun _ _ h _ e=>h.ex _ _ _ _ e⟩
theorem Good.cl (f:FuncId) (vs:List Value) (G:GS):Good (fun E=>E.cl f vs G):=⟨fun _ _ h _ e=>h.cl _ _ _ _ e,fun _ _ h _ e=>h.cl _ _ _ _ e⟩
theorem Good.rd (l:Nat) (vs:List Value) (G:GS):Good (fun E=>E.rd l vs G):=⟨fun _ _ h _ e=>h.rd _ _ _ _ e,fun _ _ h _ e=>h.rd _ _ _ _ e⟩
theorem Good.sc (b c:Code) (T:List Value) (G:GS):Good (fun E=>E.sc b c T G):=⟨fun _ _ h _ e=>h.sc _ _ _ _ _ e,fun _ _ h _ e=>h.sc _ _ _ _ _ e⟩
theorem Good.lp (c:Code) (T:List Value) (G:GS):Good (fun E=>E.lp c T G):=⟨fun _ _ h _ e=>h.lp _ _ _ _ e,fun _ _ h _ e=>h.lp _ _ _ _ e⟩
theorem Good.bind {α β:Type} {A:Ev→Option α} {K:α→Ev→Option β} (hA:Good A) (hK:∀ a,Good (K a)):Good (fun E=>(A E).bind fun a=>K a E) where
  mono E E' h r e:=by
    cases ha:A E with
    | none=>simp [ha] at e
    | some a =>
      simp only [ha,Option.bind_some] at e
      simp only [hA.mono E E' h a ha,Option.bind_some]
      exact (hK a).mono E E' h r e
  fin C L h r e:=by
    cases ha:A L with
    | none=>simp [ha] at e
    | some a =>
      simp only [ha,Option.bind_some] at e
      obtain ⟨n,hn⟩:=hA.fin C L h a ha
      obtain ⟨m,hm⟩:=(hK a).fin C L h r e
      refine ⟨max n m,?_⟩
      simp only [hA.mono _ _ (h.mono n (max n m) (by omega)) a hn,Option.bind_some]
      exact (hK a).mono _ _ (h.mono m (max n m) (by omega)) r hm
theorem Good.ite {α:Type} {p:Prop} [Decidable p] {A B:Ev→Option α} (hA:Good A) (hB:Good B):Good (fun E=>if p then A E else B E):=by
  by_cases h:p
  · simpa only [if_pos h] using hA
  · simpa only [if_neg h] using hB
theorem Good.of_eq {α:Type} {A B:Ev→Option α} (hA:Good A) (h:∀ E,B E=A E):Good B:=by
  have:B=A:=funext h
  rw [this]; exact hA
section
variable (P:Program)
theorem XO (T:List Value) (op:Op) (G:GS):Good (fun E=>pw P E T op G):=by
  cases op with
  | call c =>
    show Good (fun E=>yQ P E T c G)
    unfold yQ
    split
    · unfold fJ
      split
      · exact .cl _ _ _
      · exact .ite (.rd _ _ _) (.const _)
      · exact .const _
    · unfold jF
      split
      · split
        · exact .cl _ _ _
        · exact .const _
      · exact .const _
    · exact .const _
  | _=>exact .const none
theorem Pw (T:List Value) (op:Op) (G:GS):Good (fun E=>fK P E T op G):=by
  unfold fK
  split
  · exact .const _
  · exact XO P T op G
theorem XP (c:Nat) (T:List Value) (G:GS) (op:Op):Good (fun E=>lf P E c T G op):=by
  unfold lf
  split
  · exact .const _
  · exact .const _
  · exact .const _
  · exact Pw P T op G
theorem XQ (T:List Value) (G:GS) (op:Op):Good (fun E=>oe P E T G op):=.ite (XP P _ T G op) (.const _)
theorem Iv (ops:Array Oper):∀ (l:List Oper) (T:List Value) (G:GS),Good (fun E=>lg P E ops l T G)
  | [],T,G=>.const _
  | o::r,T,G=>by
    refine .ite (p:=dx ops T o=true) (Good.of_eq (.bind (XQ P T G o.op) fun a=>Iv ops r (aW T o.dst a.1) a.2) fun E=>?_) (Iv ops r (aW T o.dst undef) G)
    cases oe P E T G o.op<;>rfl
theorem XR (ops:Array Oper) (ms:List Nat) (base i:Nat) (o:Oper) (T:List Value) (G:GS) (aO:List (Nat×GS)) (aC:List fe):Good (fun E=>vj P E ops ms base i o T G aO aC):=by
  refine .ite (.ite ?_ (.const _)) (.const _)
  unfold wM
  split
  · exact .const _
  · exact .const _
  · exact .const _
  · refine Good.of_eq (.bind (Pw P T o.op G) fun a=>.const (d3 P (nth 0 ms i) i o.dst T G aO aC (some a))) fun E=>?_
    cases fK P E T o.op G<;>rfl
theorem Px (ops:Array Oper) (ms:List Nat) (base:Nat):∀ (l:List Oper) (i:Nat) (T:List Value) (G:GS) (aO:List (Nat×GS)) (aC:List fe),Good (fun E=>ia P E ops ms base i l T G aO aC)
  | [],i,T,G,aO,aC=>.const _
  | o::r,i,T,G,aO,aC=>by
    refine Good.of_eq (.bind (XR P ops ms base i o T G aO aC) fun a=>Px ops ms base r (i+1) a.1 a.2.1 a.2.2.1 a.2.2.2) fun E=>?_
    simp only [ia]
    cases vj P E ops ms base i o T G aO aC<;>rfl
def Py (b:Code) (E:Ev) (r:Exit×List Value×GS):Option (Exit×List Value×GS):=match r with
  | (.normal,T',G')=>E.ex b T' G'
  | r=>some r
theorem XS (E:Ev) (b:Code) (r:Option (Exit×List Value×GS)):yR E b r=r.bind fun a=>Py b E a:=by
  rcases r with _ | ⟨e,T,G⟩
  · rfl
  · cases e<;>rfl
theorem XT (b:Code) (r:Exit×List Value×GS):Good (fun E=>Py b E r):=by
  obtain ⟨e,T,G⟩:=r
  cases e
  · exact .ex _ _ _
  all_goals exact .const _
theorem Pz (c:Code) (T:List Value) (G:GS):Good (fun E=>nu P E c T G):=by
  cases c with
  | skip=>exact .const _
  | label l=>exact .const _
  | seq a b=>exact Good.of_eq (.bind (.ex a T G) fun r=>XT b r) fun E=>XS E b _
  | cond x a b =>
    refine .ite ?_ (.const _)
    unfold rV
    split
    · exact .ex _ _ _
    · exact .ex _ _ _
    · exact .const _
  | block id b =>
    refine Good.of_eq (.bind (.ex b T G) fun r=>.const (rW id (some r))) fun E=>?_
    show rW id (E.ex b T G)=_
    cases E.ex b T G<;>rfl
  | loop b=>exact .lp _ _ _
  | exit id=>exact .const _
  | goto l=>exact .const _
  | ret=>exact .const _
  | scope b=>exact .sc _ _ _ _
  | region id ops draw =>
    refine .ite (.ite (Good.of_eq (.bind (Px P ops (masks ops.toList []) G.nx ops.toList 0 T { G with nx:=G.nx+ops.size } [] []) fun r=>.const (px (some r))) fun E=>?_) (.const _)) (Good.of_eq (.bind (Iv P ops ops.toList T G) fun r=>.const (px (some r))) fun E=>?_)
    · cases ia P E ops (masks ops.toList []) G.nx 0 ops.toList T { G with nx:=G.nx+ops.size } [] []<;>rfl
    · show px (lg P E ops ops.toList T G)=_
      cases lg P E ops ops.toList T G<;>rfl
  | rangeFunc f ps assign body =>
    refine .ite ?_ (.const _)
    unfold gE
    split
    · rename_i g a b _
      refine Good.of_eq (.bind (.cl g (a.toList++[.func (.yield G.nl) #[] #[]]++b.toList) (G.dS ⟨.ready,none,T,ps.toList,assign,body⟩)) fun r=>.const (qG G.nl T (some r))) fun E=>?_
      generalize E.cl _ _ _=x
      cases x<;>rfl
    · exact .const _
  | refuse w=>exact .const _
theorem PA (body cur:Code) (T:List Value) (G:GS):Good (fun E=>pa E body cur T G):=by
  refine Good.of_eq (.bind (.ex cur T G) fun r=>(?_:Good fun E=>match r with
    | (.goto l,T',G')=>match findLabel body l with
      | some rest=>E.sc body rest T' G'
      | none=>some (.goto l,T',G')
    | r=>some r)) fun E=>?_
  · obtain ⟨e,T',G'⟩:=r
    cases e
    case goto l =>
      simp only
      split
      · exact .sc _ _ _ _
      · exact .const _
    all_goals exact .const _
  · simp only [pa]
    rcases E.ex cur T G with _ | ⟨e,T',G'⟩
    · rfl
    · cases e<;>rfl
def XU (body:Code) (E:Ev) (r:Exit×List Value×GS):Option (Exit×List Value×GS):=match r with
  | (.normal,T',G')=>E.lp body T' G'
  | r=>some r
theorem XV (E:Ev) (body:Code) (T:List Value) (G:GS):pc E body T G=(E.ex body T G).bind fun a=>XU body E a:=by
  unfold pc
  rcases E.ex body T G with _ | ⟨e,T',G'⟩
  · rfl
  · cases e<;>rfl
theorem PB (body:Code) (T:List Value) (G:GS):Good (fun E=>pc E body T G) :=
  Good.of_eq (.bind (.ex body T G) fun r=>(by
    obtain ⟨e,T',G'⟩:=r
    cases e
    · exact .lp _ _ _
    all_goals exact .const _)) fun E=>XV E body T G
def XW (fn:Func) (r:Exit×List Value×GS):Option (Value×GS) :=
  if rK r.1 then (match lT P r.2.1 r.2.2 fn.results.toList with | some l=>some (uP l,r.2.2) | none=>none) else none
theorem XX (f:FuncId) (vs:List Value) (G:GS):Good (fun E=>rL P E f vs G):=by
  unfold rL
  split
  · rename_i fn _
    split
    · exact .const _
    · split
      · rename_i c _
        refine Good.of_eq (.bind (.ex c (vs++List.replicate (fn.ntmps - vs.length) undef) G) fun r=>.const (XW P fn r)) fun E=>?_
        rcases E.ex c (vs++List.replicate (fn.ntmps - vs.length) undef) G with _ | ⟨e,T',G'⟩<;>rfl
      · exact .const _
  · exact .const _
def PC (r : Lp) (l : Nat) (E : Ev) (a : Exit × List Value × GS) : Option (Value × GS) := match a with
      | (.normal,T1,G1)=>match G1.loop l with
        | some r1=>if r1.st= .ready then
            match E.ex r.body T1 (G1.bR l { r1 with st:=.busy }) with
            | some (e,_,G2)=>match wo e,G2.loop l with
              | some j,some r2=>some (.bool j.isNone,G2.bR l { r2 with st:=if j.isNone then .ready else .done,aC:=j })
              | _,_=>none
            | none=>none
          else none
        | none=>none
      | _=>none
theorem PD (l:Nat) (vs:List Value) (G:GS):Good (fun E=>sU E l vs G):=by
  unfold sU
  split
  · rename_i r _
    refine .ite (Good.of_eq (.bind (.ex r.assign (lS r.params vs r.tmps) G) fun a=>(?_:Good fun E=>PC r l E a)) fun E=>?_) (.const _)
    · obtain ⟨e,T1,G1⟩:=a
      cases e
      case normal =>
        unfold PC
        simp only
        split
        · rename_i r1 _
          refine .ite (Good.of_eq (.bind (.ex r.body T1 (G1.bR l { r1 with st:=.busy })) fun b=>.const (match wo b.1,b.2.2.loop l with
              | some j,some r2=>some (.bool j.isNone,b.2.2.bR l { r2 with st:=if j.isNone then .ready else .done,aC:=j })
              | _,_=>none)) fun E=>?_) (.const _)
          generalize E.ex r.body T1 _=x
          rcases x with _ | ⟨e,T',G'⟩<;>rfl
        · exact .const _
      all_goals exact .const _
    · rcases E.ex r.assign (lS r.params vs r.tmps) G with _ | ⟨e,T',G'⟩
      · rfl
      · cases e<;>rfl
  · exact .const _
end
section
variable (P:Program) (ae:FuncId→Bool)
def py (f:FuncId):Bool:=(Nat.beq f oZ||(Nat.beq f tD||(Nat.beq f Ea||(Nat.beq f Eb||(Nat.beq f Ec||(Nat.beq f D7&&ae Ii))))))&&(P.funcs[f]?).isSome
def PE (f:FuncId) (vs:List Value) (G:GS):Option (Value×GS):=if Nat.beq f oZ=true then GJ vs G else if Nat.beq f tD=true then ma vs G else if Nat.beq f Ea=true then Bw kA vs G else if Nat.beq f Eb=true then Bw kB vs G else if Nat.beq f Ec=true then Bw kC vs G else Pm vs G
def tG (G:GS):Bool:=!(P.funcs[oZ]?).isSome||yp G
theorem XY (h:(P.funcs[oZ]?).isSome=false) (G:GS):tG P G=true:=by unfold tG; rw [h]; rfl
def tH (E:Ev) (f:FuncId) (vs:List Value) (G:GS):Option (Value×GS):=if (vs.isEmpty&&(ae f&&tG P G))=true then some (.bool true,G) else if py P ae f=true then PE f vs G else rL P E f vs G
def Ev.Ed (E:Ev):Ev:=⟨nu P E,tH P ae E,sU E,pa E,pc E⟩
def fL:Nat→Ev
  | 0=>Ev.zero
  | n+1=>(fL n).Ed P ae
theorem PF (f:FuncId) (vs:List Value) (G:GS):Good (fun E=>tH P ae E f vs G):=.ite (.const _) (.ite (.const _) (XX P f vs G))
theorem XZ {E E':Ev} (h:E.le E'):(E.Ed P ae).le (E'.Ed P ae) where
  ex c T G r e:=(Pz P c T G).mono E E' h r e
  cl f vs G r e:=(PF P ae f vs G).mono E E' h r e
  rd l vs G r e:=(PD l vs G).mono E E' h r e
  sc b c T G r e:=(PA b c T G).mono E E' h r e
  lp c T G r e:=(PB c T G).mono E E' h r e
theorem zero_le (E:Ev):Ev.zero.le E:=⟨fun _ _ _ _ h=>by simp [Ev.zero] at h,fun _ _ _ _ h=>by simp [Ev.zero] at h,fun _ _ _ _ h=>by simp [Ev.zero] at h,fun _ _ _ _ _ h=>by simp [Ev.zero] at h,fun _ _ _ _ h=>by simp [Ev.zero] at h⟩
theorem PG:∀ n,(fL P ae n).le (fL P ae (n+1))
  | 0=>zero_le _
  | n+1=>XZ P ae (PG n)
theorem qH {n m:Nat} (h:n≤m):(fL P ae n).le (fL P ae m):=by
  induction h with
  | refl=>exact .refl _
  | step _ ih=>exact ih.trans (PG P ae _)
def qI {α:Type} (f:Nat→Option α):Option α:=@dite (Option α) (∃ a n,f n=some a) (Classical.propDecidable _) (fun h=>some (Classical.choose h)) (fun _=>none)
theorem rX {α:Type} {f:Nat→Option α} {a:α} (h:qI f=some a):∃ n,f n=some a:=by
  unfold qI at h
  split at h
  · rename_i hh
    cases h
    exact Classical.choose_spec hh
  · cases h
theorem yT {α:Type} {f:Nat→Option α} {a:α} (hm:∀ n m a,n≤m→f n=some a→f m=some a) {n:Nat} (h:f n=some a):qI f=some a:=by
  have hh:∃ a n,f n=some a:=⟨a,n,h⟩
  obtain ⟨m,jB⟩:=Classical.choose_spec hh
  have e1:=hm n (max n m) _ (by omega) h
  have e2:=hm m (max n m) _ (by omega) jB
  have:qI f=some (Classical.choose hh):=by unfold qI; rw [dif_pos hh]
  rw [this,← e2,e1]
def aD:Ev where
  ex c T G:=qI fun n=>(fL P ae n).ex c T G
  cl f vs G:=qI fun n=>(fL P ae n).cl f vs G
  rd l vs G:=qI fun n=>(fL P ae n).rd l vs G
  sc b c T G:=qI fun n=>(fL P ae n).sc b c T G
  lp c T G:=qI fun n=>(fL P ae n).lp c T G
theorem X0:Pv (fL P ae) (aD P ae) where
  mono n m h:=qH P ae h
  ex c T G r h:=rX h
  cl f vs G r h:=rX h
  rd l vs G r h:=rX h
  sc b c T G r h:=rX h
  lp c T G r h:=rX h
theorem yU (n:Nat):(fL P ae n).le (aD P ae) where
  ex c T G r h:=yT (fun _ _ _ h e=>(qH P ae h).ex _ _ _ _ e) h
  cl f vs G r h:=yT (fun _ _ _ h e=>(qH P ae h).cl _ _ _ _ e) h
  rd l vs G r h:=yT (fun _ _ _ h e=>(qH P ae h).rd _ _ _ _ e) h
  sc b c T G r h:=yT (fun _ _ _ h e=>(qH P ae h).sc _ _ _ _ _ e) h
  lp c T G r h:=yT (fun _ _ _ h e=>(qH P ae h).lp _ _ _ _ e) h
theorem X1 {α:Type} {x y:Option α} (h:∀ r,x=some r→y=some r) (k:∀ r,y=some r→x=some r):x=y:=by
  cases x with
  | some a=>exact (h a rfl).symm
  | none=>cases y with
    | none=>rfl
    | some b=>exact k b rfl
theorem fixed {α:Type} {F:Ev→Option α} (hF:Good F) {f:Nat→Option α} (h:∀ n,f (n+1)=F (fL P ae n)) (hm:∀ n m a,n≤m→f n=some a→f m=some a):qI f=F (aD P ae):=by
  refine X1 (fun r e=>?_) (fun r e=>?_)
  · obtain ⟨n,hn⟩:=rX e
    have h1:=hm n (n+1) r (by omega) hn
    rw [h] at h1
    exact hF.mono _ _ (yU P ae n) r h1
  · obtain ⟨n,hn⟩:=hF.fin _ _ (X0 P ae) r e
    rw [← h] at hn
    exact yT hm hn
theorem fw (c:Code) (T:List Value) (G:GS):(aD P ae).ex c T G=nu P (aD P ae) c T G:=fixed P ae (Pz P c T G) (fun _=>rfl) fun _ _ _ h e=>(qH P ae h).ex _ _ _ _ e
theorem PH (f:FuncId) (vs:List Value) (G:GS):(aD P ae).cl f vs G=tH P ae (aD P ae) f vs G:=fixed P ae (PF P ae f vs G) (fun _=>rfl) fun _ _ _ h e=>(qH P ae h).cl _ _ _ _ e
theorem X2 (l:Nat) (vs:List Value) (G:GS):(aD P ae).rd l vs G=sU (aD P ae) l vs G:=fixed P ae (PD l vs G) (fun _=>rfl) fun _ _ _ h e=>(qH P ae h).rd _ _ _ _ e
theorem PI (b c:Code) (T:List Value) (G:GS):(aD P ae).sc b c T G=pa (aD P ae) b c T G:=fixed P ae (PA b c T G) (fun _=>rfl) fun _ _ _ h e=>(qH P ae h).sc _ _ _ _ _ e
theorem X3 (c:Code) (T:List Value) (G:GS):(aD P ae).lp c T G=pc (aD P ae) c T G:=fixed P ae (PB c T G) (fun _=>rfl) fun _ _ _ h e=>(qH P ae h).lp _ _ _ _ e
end
section
variable {P:Program} {ae:FuncId→Bool} {B:Nat} {E:Ev}
def PJ (P:Program):Prop :=
  ∀ fn,P.funcs[oZ]? =some fn→(fn.name == "runtime.NumGoroutine")=false∧fn.body.isSome=true ∧
    ∀ (w:World) (n:Nat),n≤18446744073709551615→yS w→Calls P oZ #[.int .u64 (Int.ofNat n)] w fun e w'=>e= .returned (.int .i64 (GI n))∧Go.RowKit.Below w.heap.size w w'
def Ee (P:Program):Prop:=PJ P∧Ik P∧Bx P Ea kA∧Bx P Eb kB∧Bx P Ec kC
theorem X4 {P:Program} (h:(P.funcs[oZ]?).isNone=true):PJ P:=fun fn hf=>by rw [hf] at h; cases h
theorem X5 {P:Program} (h:(P.funcs[oZ]?).isNone=true) (hs:(P.funcs[tD]?).isNone=true:=by kernel_rfl) (ha:(P.funcs[Ea]?).isNone=true:=by kernel_rfl) (hb:(P.funcs[Eb]?).isNone=true:=by kernel_rfl) (hc:(P.funcs[Ec]?).isNone=true:=by kernel_rfl):Ee P:=⟨X4 h,XH hs,Iq ha,Iq hb,Iq hc⟩
theorem X6 {vs:List Value} {G G':GS} {v:Value} (h:GJ vs G=some (v,G')):∃ n,vs=[.int .u64 (Int.ofNat n)]∧yp G=true∧n≤18446744073709551615∧v= .int .i64 (GI n)∧G' =G:=by
  unfold GJ at h
  split at h
  · rename_i n
    split at h
    · rename_i hc
      simp only [Bool.and_eq_true] at hc
      cases h
      exact ⟨n,rfl,hc.1,Nat.le_of_ble_eq_true hc.2,rfl,rfl⟩
    · cases h
  · cases h
def rY (P:Program) (ae:FuncId→Bool):Prop:=Ee P∧(ae Ii=true→Ij P) ∧
  ∀ f,ae f=true→(∃ fn,P.funcs[f]? =some fn∧(fn.name == "runtime.NumGoroutine")=false∧fn.body.isSome=true)∧∀ w,((P.funcs[oZ]?).isSome=true→yS w)→Calls P f #[] w fun e w' =>e= .returned (.bool true)∧Go.RowKit.Below w.heap.size w w'
theorem tG.rel {G:GS} {M:Map} {w:World} (hR:Rel G M w B) (h:tG P G=true):(P.funcs[oZ]?).isSome=true→yS w:=fun hs=>by
  unfold tG at h
  rw [hs] at h
  simp only [Bool.not_true,Bool.false_or] at h
  exact hR.Ip h
theorem Rel.grow {G:GS} {M:Map} {w w':World} (hR:Rel G M w B) (hb:Go.RowKit.Below w.heap.size w w'):Rel G M w' B:=by
  have hk:∀ r,r<w.heap.size→w'.heap[r]? =w.heap[r]?:=hb.block
  refine ⟨Nat.le_trans hR.size hb.size,fun g x o hx ho=>?_,hR.apart,hR.nx,fun l r hl=>?_,hR.jz,fun l r hl=>let ⟨h1,p,h2,h3⟩:=hR.mp l r hl; ⟨h1,p,h2,h3.keep (hk _ h3.lt)⟩,hR.jA,hR.iY,hR.wf,fun g o ho hm=>(hR.gl g o ho hm).keep fun r hr=>hk r (Nat.lt_of_lt_of_le hr hR.size)⟩
  · have fG:=hR.aY g x o hx ho
    refine ⟨fG.esz,fG.opn,fG.len,fun hm=>nS (.refl M) (fG.cells hm) fun a u hu _=>?_,fun hm=>?_,fG.ro⟩
    · have aT:a.block<w.heap.size:=by
        rcases Nat.lt_or_ge a.block w.heap.size with h | h
        · exact h
        · simp [World.cell?,Array.getElem?_eq_none h] at hu
      exact ta (hk _ aT) hu
    · obtain ⟨h1,c,e,h2,h3⟩:=fG.own hm
      exact ⟨h1,c,e,by rw [hk _ (Array.getElem?_eq_some_iff.1 h2).1]; exact h2,h3⟩
  · obtain ⟨h1,p,h2,h3,lo,h4,h5⟩:=hR.lp l r hl
    exact ⟨h1,p,h2,h3,lo,by rw [hk _ (Array.getElem?_eq_some_iff.1 h4).1]; exact h4,h5⟩
theorem cy.grow {G:GS} {M:Map} {w w':World} (hb:Go.RowKit.Below w.heap.size w w'):cy G M w G M w' :=
  ⟨.refl M,hb.size,fun r hr _=>hb.block r hr,fun _ h=>.inl h,hb.os,hb.tape,hb.output,Nat.le_refl _,fun _ _ h=>⟨h,rfl⟩,fun _ _ h=>h⟩
theorem PK:∀ {l:List (IntKind×Int)} {as:List Value} {M:Map},Vs M (vl l) as→as=vl l
  | [],[],_,_=>rfl
  | x::l,u::as,M,h=>by
    rw [eG.1 h.1,PK (l:=l) h.2]; rfl
theorem X7 {l:List (IntKind×Int)} {args:Array Value} {M:Map} (h:Vs M (vl l) args.toList):args=(vl l).toArray:=by
  obtain ⟨as⟩:=args
  have h2:as=vl l:=PK h
  rw [h2]
theorem X8 (kY:P.follows .mixedOrders=true) (ho:rY P ae) (hE:jD P B E):jD P B (E.Ed P ae):=by
  have hn:jD P B (E.Ih P):=by rw [Ev.XB]; exact Xn kY hE
  refine ⟨fun c T G e T' G' h=>hn.ex c T G e T' G' h,fun b c T G e T' G' h=>hn.sc b c T G e T' G' h,fun c T G e T' G' h=>hn.lp c T G e T' G' h,fun f vs G v G' h=>?_,fun f vs G v G' h=>?_,fun l vs G v G' h=>hn.rd l vs G v G' h⟩
  · replace h:tH P ae E f vs G=some (v,G'):=h
    unfold tH at h
    split at h
    · rename_i hc
      simp only [Bool.and_eq_true,List.isEmpty_iff] at hc
      obtain ⟨nQ,hf,hT⟩:=hc
      cases h
      subst nQ
      intro M w args cs hR hv
      have jV:args= #[]:=by
        have:=iG hv
        exact Array.eq_empty_of_size_eq_zero (by simpa using this.symm)
      subst jV
      obtain ⟨e,w',fr,⟨rfl,hb⟩,h1,h2,h3⟩:=(ho.2.2 f hf).2 w (tG.rel hR hT) cs
      exact ⟨M,w',fr,.bool true,.grow hb,hR.grow hb,iX.2 rfl,h1,h2,h3⟩
    split at h
    · rename_i hp
      simp only [py,Bool.and_eq_true,Bool.or_eq_true] at hp
      obtain ⟨fn,fH⟩:=Option.isSome_iff_exists.1 hp.2
      unfold PE at h
      split at h
      · rename_i Iw
        obtain ⟨n,rfl,pq,fT,rfl,rfl⟩:=X6 h
        obtain rfl:=Nat.eq_of_beq_eq_true Iw
        intro M w args cs hR hv
        obtain ⟨_,_,hc⟩:=ho.1.1 fn fH
        have jV:args= #[.int .u64 (Int.ofNat n)]:=by
          obtain ⟨l⟩:=args
          match l,hv with
          | [u],hv=>rw [eG.1 hv.1]
        subst jV
        obtain ⟨e,w',fr,⟨rfl,hb⟩,h1,h2,h3⟩:=hc w n fT (hR.Ip pq) cs
        exact ⟨M,w',fr,_,.grow hb,hR.grow hb,eG.2 rfl,h1,h2,h3⟩
      split at h
      · rename_i yV
        obtain rfl:=Nat.eq_of_beq_eq_true yV
        intro M w args cs hR hv
        obtain ⟨e,w',fr,⟨rfl,rfl,Ix,Ef⟩,h1,h2,h3⟩:=XF ho.1.2.1 fH h hR hv cs
        exact ⟨M,w',fr,_,Ef,Ix,sW,h1,h2,h3⟩
      split at h
      · rename_i og
        obtain rfl:=Nat.eq_of_beq_eq_true og
        intro M w args cs hR hv
        obtain ⟨e,w',fr,⟨s,rfl,rfl,rfl,hb⟩,h1,h2,h3⟩:=Ir ho.1.2.2.1 fH h hR hv cs
        exact ⟨M,w',fr,_,.grow hb,hR.grow hb,sV.2 rfl,h1,h2,h3⟩
      split at h
      · rename_i og
        obtain rfl:=Nat.eq_of_beq_eq_true og
        intro M w args cs hR hv
        obtain ⟨e,w',fr,⟨s,rfl,rfl,rfl,hb⟩,h1,h2,h3⟩:=Ir ho.1.2.2.2.1 fH h hR hv cs
        exact ⟨M,w',fr,_,.grow hb,hR.grow hb,sV.2 rfl,h1,h2,h3⟩
      split at h
      · rename_i og
        obtain rfl:=Nat.eq_of_beq_eq_true og
        intro M w args cs hR hv
        obtain ⟨e,w',fr,⟨s,rfl,rfl,rfl,hb⟩,h1,h2,h3⟩:=Ir ho.1.2.2.2.2 fH h hR hv cs
        exact ⟨M,w',fr,_,.grow hb,hR.grow hb,sV.2 rfl,h1,h2,h3⟩
      · rename_i Iw yV ha hb hc
        have yV:=((((hp.1.resolve_left Iw).resolve_left yV).resolve_left ha).resolve_left hb).resolve_left hc
        obtain rfl:=Nat.eq_of_beq_eq_true yV.1
        unfold Pm at h
        split at h
        · rename_i u hu
          cases h
          obtain ⟨x,hx,rfl,rfl⟩:=Pk hu
          intro M w args cs hR hv
          obtain ⟨_,_,hc⟩:=ho.2.1 yV.2 fn fH
          rw [X7 hv]
          obtain ⟨e,w',fr,⟨rfl,hb⟩,h1,h2,h3⟩:=hc x hx w cs
          exact ⟨M,w',fr,_,.grow hb,hR.grow hb,eG.2 rfl,h1,h2,h3⟩
        · cases h
    · exact hn.cl f vs G v G' h
  · replace h:tH P ae E f vs G=some (v,G'):=h
    unfold tH at h
    split at h
    · rename_i hc
      simp only [Bool.and_eq_true] at hc
      exact (ho.2.2 f hc.2.1).1
    split at h
    · rename_i hp
      simp only [py,Bool.and_eq_true,Bool.or_eq_true] at hp
      obtain ⟨fn,fH⟩:=Option.isSome_iff_exists.1 hp.2
      rcases hp.1 with fu | fu | fu | fu | fu | fu
      · obtain rfl:=Nat.eq_of_beq_eq_true fu
        obtain ⟨h1,h2,_⟩:=ho.1.1 fn fH
        exact ⟨fn,fH,h1,h2⟩
      · obtain rfl:=Nat.eq_of_beq_eq_true fu
        obtain ⟨h1,h2,_⟩:=ho.1.2.1 fn fH
        exact ⟨fn,fH,h1,h2⟩
      · obtain rfl:=Nat.eq_of_beq_eq_true fu
        obtain ⟨h1,h2,_⟩:=ho.1.2.2.1 fn fH
        exact ⟨fn,fH,h1,h2⟩
      · obtain rfl:=Nat.eq_of_beq_eq_true fu
        obtain ⟨h1,h2,_⟩:=ho.1.2.2.2.1 fn fH
        exact ⟨fn,fH,h1,h2⟩
      · obtain rfl:=Nat.eq_of_beq_eq_true fu
        obtain ⟨h1,h2,_⟩:=ho.1.2.2.2.2 fn fH
        exact ⟨fn,fH,h1,h2⟩
      · obtain rfl:=Nat.eq_of_beq_eq_true fu.1
        obtain ⟨h1,h2,_⟩:=ho.2.1 fu.2 fn fH
        exact ⟨fn,fH,h1,h2⟩
    · exact hn.yJ f vs G v G' h
theorem PL (kY:P.follows .mixedOrders=true) (ho:rY P ae):∀ n,jD P B (fL P ae n)
  | 0=>Xm
  | n+1=>X8 kY ho (PL kY ho n)
theorem X9 (kY:P.follows .mixedOrders=true) (ho:rY P ae) {f:FuncId} {vs:List Value} {G G':GS} {v:Value} (h:(aD P ae).cl f vs G=some (v,G')) {M:Map} {w:World} {args:Array Value}
    (hR:Rel G M w w.heap.size) (hv:Vs M vs args.toList) :
    Calls P f args w fun e w'=>∃ M' u,e= .returned u∧V M' v u∧Rel G' M' w' w.heap.size∧cy G M w G' M' w':=by
  intro cs
  obtain ⟨n,hn⟩:=rX h
  obtain ⟨M',w',fr,u,h1,h2,h3,h4,h5,h6⟩:=(PL (B:=w.heap.size) kY ho n).cl _ _ _ _ _ hn M w args cs hR hv
  exact ⟨.returned u,w',fr,⟨M',u,rfl,h3,h2,h1⟩,h4,h5,h6⟩
theorem PN (kY:P.follows .mixedOrders=true) (ho:rY P ae) {f:FuncId} {vs:List Value} {G G':GS} (h:(aD P ae).cl f vs G=some (.bool true,G')) {M:Map} {w:World} {args:Array Value}
    (hR:Rel G M w w.heap.size) (hv:Vs M vs args.toList) (HO:∀ r,¬ eu G M r) :
    Calls P f args w fun e w'=>e= .returned (.bool true)∧Go.RowKit.Below w.heap.size w w' :=
  (X9 kY ho h hR hv).mono fun e w' ⟨M',u,he,hV,_,hE⟩=>⟨by rw [he,iX.1 hV],Xo hE fun r _=>HO r⟩
end
end
end Go.Proofs.YtkhlabammcghbaaGreat.Gh
