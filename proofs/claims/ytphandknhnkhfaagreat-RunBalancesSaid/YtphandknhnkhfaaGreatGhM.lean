import Derived.Test.YtphandknhnkhfaaGreatEC
namespace Go.Proofs.YtphandknhnkhfaaGreat.Gh
set_option linter.unusedVariables false
open Go
noncomputable section
structure Ev.le (E E':Ev):Prop where
  ex:∀ c T G r,E.ex c T G=some r→E'.ex c T G=some r
  cl:∀ f vs G r,E.cl f vs G=some r→E'.cl f vs G=some r
  rd:∀ l vs G r,E.rd l vs G=some r→E'.rd l vs G=some r
  sc:∀ b c T G r,E.sc b c T G=some r→E'.sc b c T G=some r
  lp:∀ c T G r,E.lp c T G=some r→E'.lp c T G=some r
theorem Ev.le.refl (E:Ev):E.le E:=⟨fun _ _ _ _ h=>h,fun _ _ _ _ h=>h,fun _ _ _ _ h=>h,fun _ _ _ _ _ h=>h,fun _ _ _ _ h=>h⟩
theorem Ev.le.trans {A B C:Ev} (h:A.le B) (k:B.le C):A.le C :=
  ⟨fun _ _ _ _ e=>k.ex _ _ _ _ (h.ex _ _ _ _ e),fun _ _ _ _ e=>k.cl _ _ _ _ (h.cl _ _ _ _ e),fun _ _ _ _ e=>k.rd _ _ _ _ (h.rd _ _ _ _ e),fun _ _ _ _ _ e=>k.sc _ _ _ _ _ (h.sc _ _ _ _ _ e),fun _ _ _ _ e=>k.lp _ _ _ _ (h.lp _ _ _ _ e)⟩
structure NU (C:Nat→Ev) (L:Ev):Prop where
  mono:∀ n m,n≤m→(C n).le (C m)
  ex:∀ c T G r,L.ex c T G=some r→∃ n,(C n).ex c T G=some r
  cl:∀ f vs G r,L.cl f vs G=some r→∃ n,(C n).cl f vs G=some r
  rd:∀ l vs G r,L.rd l vs G=some r→∃ n,(C n).rd l vs G=some r
  sc:∀ b c T G r,L.sc b c T G=some r→∃ n,(C n).sc b c T G=some r
  lp:∀ c T G r,L.lp c T G=some r→∃ n,(C n).lp c T G=some r
structure Good {α:Type} (F:Ev→Option α):Prop where
  mono:∀ E E',E.le E' →∀ r,F E=some r→F E' =some r
  fin:∀ C L,NU C L→∀ r,F L=some r→∃ n,F (C n)=some r
theorem Good.const {α:Type} (x:Option α):Good (fun _=>x):=⟨fun _ _ _ _ h=>h,fun _ _ _ _ h=>⟨0,h⟩⟩
theorem Good.ex (c:Code) (T:List Value) (G:GS):Good (fun E=>E.ex c T G):=⟨fun _ _ h _ e=>h.ex _ _ _ _ e,fun _ _ h _ e=>h.ex _ _ _ _ e⟩
theorem Good.cl (f:FuncId) (vs:List Value) (G:GS):Good (fun E=>E.cl f vs G):=⟨fun _ _ h _ e=>h.cl _ _ _ _ e,fun _ _ h _ e=>h.cl _ _ _ _ e⟩
theorem Good.rd (l:Nat) (vs:List Value) (G:GS):Good (fun E=>E.rd l vs G):=⟨fun _ _ h _ e=>h.rd _ _ _ _ e,fun _ _ h _ e=>h.rd _ _ _ _ e⟩
theorem Good.sc (b c:Code) (T:List Value) (G:GS):Good (fun E=>E.sc b c T G):=⟨fun _ _ h _ e=>h.sc _ _ _ _ _ e,fun _ _ h _ e=>h.sc _ _ _ _ _ e⟩
theorem Good.lp (c:Code) (T:List Value) (G:GS):Good (fun E=>E.lp c T G):=⟨fun _ _ h _ e=>h.lp _ _ _ _ e,fun _ _ h _ e=>h.lp _ _ _ _ e⟩
theorem Good.bind {α β:Type} {A:Ev→Option α} {K:α→Ev→Option β} (hA:Good A) (hK:∀ a,Good (K a)):Good (fun E=>(A E).bind fun a=>K a E) where
  mono E E' h r e:=by
    cases ha:A E with
    | none=>simp [ha] at e
    | some a =>
      simp only [ha,Option.bind_some] at e
      simp only [hA.mono E E' h a ha,Option.bind_some]
      exact (hK a).mono E E' h r e
  fin C L h r e:=by
    cases ha:A L with
    | none=>simp [ha] at e
    | some a =>
      simp only [ha,Option.bind_some] at e
      obtain ⟨n,hn⟩:=hA.fin C L h a ha
      obtain ⟨m,hm⟩:=(hK a).fin C L h r e
      refine ⟨max n m,?_⟩
      simp only [hA.mono _ _ (h.mono n (max n m) (by omega)) a hn,Option.bind_some]
      exact (hK a).mono _ _ (h.mono m (max n m) (by omega)) r hm
theorem Good.ite {α:Type} {p:Prop} [Decidable p] {A B:Ev→Option α} (hA:Good A) (hB:Good B):Good (fun E=>if p then A E else B E):=by
  by_cases h:p
  · simpa only [if_pos h] using hA
  · simpa only [if_neg h] using hB
theorem Good.of_eq {α:Type} {A B:Ev→Option α} (hA:Good A) (h:∀ E,B E=A E):Good B:=by
  have:B=A:=funext h
  rw [this]; exact hA
section
variable (P:Program)
theorem Wz (T:List Value) (op:Op) (G:GS):Good (fun E=>pk P E T op G):=by
  cases op with
  | call c =>
    show Good (fun E=>yn P E T c G)
    unfold yn
    split
    · unfold dO
      split
      · exact .cl _ _ _
      · exact .ite (.rd _ _ _) (.const _)
      · exact .const _
    · unfold dS
      split
      · split
        · exact .cl _ _ _
        · exact .const _
      · exact .const _
    · exact .const _
  | _=>exact .const none
theorem NV (T:List Value) (op:Op) (G:GS):Good (fun E=>fT P E T op G):=by
  unfold fT
  split
  · exact .const _
  · exact Wz P T op G
theorem WA (c:Nat) (T:List Value) (G:GS) (op:Op):Good (fun E=>lH P E c T G op):=by
  unfold lH
  split
  · exact .const _
  · exact .const _
  · exact .const _
  · exact NV P T op G
theorem WB (T:List Value) (G:GS) (op:Op):Good (fun E=>og P E T G op):=.ite (WA P _ T G op) (.const _)
theorem Hw (ops:Array Oper):∀ (l:List Oper) (T:List Value) (G:GS),Good (fun E=>lI P E ops l T G)
  | [],T,G=>.const _
  | o::r,T,G=>by
    refine .ite (p:=dD ops T o=true) (Good.of_eq (.bind (WB P T G o.op) fun a=>Hw ops r (bf T o.dst a.1) a.2) fun E=>?_) (Hw ops r (bf T o.dst undef) G)
    cases og P E T G o.op<;>rfl
theorem WC (ops:Array Oper) (ms:List Nat) (base i:Nat) (o:Oper) (T:List Value) (G:GS) (aM:List (Nat×GS)) (aF:List fu):Good (fun E=>uW P E ops ms base i o T G aM aF):=by
  refine .ite (.ite ?_ (.const _)) (.const _)
  unfold wB
  split
  · exact .const _
  · exact .const _
  · exact .const _
  · refine Good.of_eq (.bind (NV P T o.op G) fun a=>.const (d3 P (nth 0 ms i) i o.dst T G aM aF (some a))) fun E=>?_
    cases fT P E T o.op G<;>rfl
theorem NW (ops:Array Oper) (ms:List Nat) (base:Nat):∀ (l:List Oper) (i:Nat) (T:List Value) (G:GS) (aM:List (Nat×GS)) (aF:List fu),Good (fun E=>im P E ops ms base i l T G aM aF)
  | [],i,T,G,aM,aF=>.const _
  | o::r,i,T,G,aM,aF=>by
    refine Good.of_eq (.bind (WC P ops ms base i o T G aM aF) fun a=>NW ops ms base r (i+1) a.1 a.2.1 a.2.2.1 a.2.2.2) fun E=>?_
    simp only [im]
    cases uW P E ops ms base i o T G aM aF<;>rfl
def NY (b:Code) (E:Ev) (r:Exit×List Value×GS):Option (Exit×List Value×GS):=match r with
  | (.normal,T',G')=>E.ex b T' G'
  | r=>some r
theorem WD (E:Ev) (b:Code) (r:Option (Exit×List Value×GS)):yo E b r=r.bind fun a=>NY b E a:=by
  rcases r with _ | ⟨e,T,G⟩
  · rfl
  · cases e<;>rfl
theorem WE (b:Code) (r:Exit×List Value×GS):Good (fun E=>NY b E r):=by
  obtain ⟨e,T,G⟩:=r
  cases e
  · exact .ex _ _ _
  all_goals exact .const _
theorem NZ (c:Code) (T:List Value) (G:GS):Good (fun E=>m6 P E c T G):=by
  cases c with
  | skip=>exact .const _
  | label l=>exact .const _
  | seq a b=>exact Good.of_eq (.bind (.ex a T G) fun r=>WE b r) fun E=>WD E b _
  | cond x a b =>
    refine .ite ?_ (.const _)
    unfold rK
    split
    · exact .ex _ _ _
    · exact .ex _ _ _
    · exact .const _
  | block id b =>
    refine Good.of_eq (.bind (.ex b T G) fun r=>.const (rL id (some r))) fun E=>?_
    show rL id (E.ex b T G)=_
    cases E.ex b T G<;>rfl
  | loop b=>exact .lp _ _ _
  | exit id=>exact .const _
  | goto l=>exact .const _
  | ret=>exact .const _
  | scope b=>exact .sc _ _ _ _
  | region id ops draw =>
    refine .ite (.ite (Good.of_eq (.bind (NW P ops (masks ops.toList []) G.nx ops.toList 0 T { G with nx:=G.nx+ops.size } [] []) fun r=>.const (pn (some r))) fun E=>?_) (.const _)) (Good.of_eq (.bind (Hw P ops ops.toList T G) fun r=>.const (pn (some r))) fun E=>?_)
    · cases im P E ops (masks ops.toList []) G.nx 0 ops.toList T { G with nx:=G.nx+ops.size } [] []<;>rfl
    · show pn (lI P E ops ops.toList T G)=_
      cases lI P E ops ops.toList T G<;>rfl
  | rangeFunc f ps assign body =>
    refine .ite ?_ (.const _)
    unfold gW
    split
    · rename_i g a b _
      refine Good.of_eq (.bind (.cl g (a.toList++[.func (.yield G.nl) #[] #[]]++b.toList) (G.fD ⟨.ready,none,T,ps.toList,assign,body⟩)) fun r=>.const (qu G.nl T (some r))) fun E=>?_
      generalize E.cl _ _ _=x
      cases x<;>rfl
    · exact .const _
  | refuse w=>exact .const _
theorem N0 (body cur:Code) (T:List Value) (G:GS):Good (fun E=>oX E body cur T G):=by
  refine Good.of_eq (.bind (.ex cur T G) fun r=>(?_:Good fun E=>match r with
    | (.goto l,T',G')=>match findLabel body l with
      | some rest=>E.sc body rest T' G'
      | none=>some (.goto l,T',G')
    | r=>some r)) fun E=>?_
  · obtain ⟨e,T',G'⟩:=r
    cases e
    case goto l =>
      simp only
      split
      · exact .sc _ _ _ _
      · exact .const _
    all_goals exact .const _
  · simp only [oX]
    rcases E.ex cur T G with _ | ⟨e,T',G'⟩
    · rfl
    · cases e<;>rfl
def WG (body:Code) (E:Ev) (r:Exit×List Value×GS):Option (Exit×List Value×GS):=match r with
  | (.normal,T',G')=>E.lp body T' G'
  | r=>some r
theorem WH (E:Ev) (body:Code) (T:List Value) (G:GS):oY E body T G=(E.ex body T G).bind fun a=>WG body E a:=by
  unfold oY
  rcases E.ex body T G with _ | ⟨e,T',G'⟩
  · rfl
  · cases e<;>rfl
theorem N2 (body:Code) (T:List Value) (G:GS):Good (fun E=>oY E body T G) :=
  Good.of_eq (.bind (.ex body T G) fun r=>(by
    obtain ⟨e,T',G'⟩:=r
    cases e
    · exact .lp _ _ _
    all_goals exact .const _)) fun E=>WH E body T G
def WI (fn:Func) (r:Exit×List Value×GS):Option (Value×GS) :=
  if rq r.1 then (match ma P r.2.1 r.2.2 fn.results.toList with | some l=>some (uD l,r.2.2) | none=>none) else none
theorem WJ (f:FuncId) (vs:List Value) (G:GS):Good (fun E=>rr P E f vs G):=by
  unfold rr
  split
  · rename_i fn _
    split
    · exact .const _
    · split
      · rename_i c _
        refine Good.of_eq (.bind (.ex c (vs++List.replicate (fn.ntmps - vs.length) undef) G) fun r=>.const (WI P fn r)) fun E=>?_
        rcases E.ex c (vs++List.replicate (fn.ntmps - vs.length) undef) G with _ | ⟨e,T',G'⟩<;>rfl
      · exact .const _
  · exact .const _
def N3 (r : Lp) (l : Nat) (E : Ev) (a : Exit × List Value × GS) : Option (Value × GS) := match a with
      | (.normal,T1,G1)=>match G1.loop l with
        | some r1=>if r1.st= .ready then
            match E.ex r.body T1 (G1.cC l { r1 with st:=.busy }) with
            | some (e,_,G2)=>match vU e,G2.loop l with
              | some j,some r2=>some (.bool j.isNone,G2.cC l { r2 with st:=if j.isNone then .ready else .done,aF:=j })
              | _,_=>none
            | none=>none
          else none
        | none=>none
      | _=>none
theorem N5 (l:Nat) (vs:List Value) (G:GS):Good (fun E=>sK E l vs G):=by
  unfold sK
  split
  · rename_i r _
    refine .ite (Good.of_eq (.bind (.ex r.assign (lZ r.params vs r.tmps) G) fun a=>(?_:Good fun E=>N3 r l E a)) fun E=>?_) (.const _)
    · obtain ⟨e,T1,G1⟩:=a
      cases e
      case normal =>
        unfold N3
        simp only
        split
        · rename_i r1 _
          refine .ite (Good.of_eq (.bind (.ex r.body T1 (G1.cC l { r1 with st:=.busy })) fun b=>.const (match vU b.1,b.2.2.loop l with
              | some j,some r2=>some (.bool j.isNone,b.2.2.cC l { r2 with st:=if j.isNone then .ready else .done,aF:=j })
              | _,_=>none)) fun E=>?_) (.const _)
          generalize E.ex r.body T1 _=x
          rcases x with _ | ⟨e,T',G'⟩<;>rfl
        · exact .const _
      all_goals exact .const _
    · rcases E.ex r.assign (lZ r.params vs r.tmps) G with _ | ⟨e,T',G'⟩
      · rfl
      · cases e<;>rfl
  · exact .const _
end
section
variable (P:Program) (ae:FuncId→Bool)
def po (f:FuncId):Bool:=(Nat.beq f oV||(Nat.beq f tC||(Nat.beq f Dk||(Nat.beq f Dl||(Nat.beq f Dm||(Nat.beq f Dh&&ae Hl))))))&&(P.funcs[f]?).isSome
def N7 (f:FuncId) (vs:List Value) (G:GS):Option (Value×GS):=if Nat.beq f oV=true then Fv vs G else if Nat.beq f tC=true then ml vs G else if Nat.beq f Dk=true then AY kA vs G else if Nat.beq f Dl=true then AY kB vs G else if Nat.beq f Dm=true then AY kC vs G else NI vs G
def tF (G:GS):Bool:=!(P.funcs[oV]?).isSome||xU G
theorem WK (h:(P.funcs[oV]?).isSome=false) (G:GS):tF P G=true:=by unfold tF; rw [h]; rfl
def tG (E:Ev) (f:FuncId) (vs:List Value) (G:GS):Option (Value×GS):=if (vs.isEmpty&&(ae f&&tF P G))=true then some (.bool true,G) else if po P ae f=true then N7 f vs G else rr P E f vs G
def Ev.Dn (E:Ev):Ev:=⟨m6 P E,tG P ae E,sK E,oX E,oY E⟩
def gX:Nat→Ev
  | 0=>Ev.zero
  | n+1=>(gX n).Dn P ae
theorem N8 (f:FuncId) (vs:List Value) (G:GS):Good (fun E=>tG P ae E f vs G):=.ite (.const _) (.ite (.const _) (WJ P f vs G))
theorem WL {E E':Ev} (h:E.le E'):(E.Dn P ae).le (E'.Dn P ae) where
  ex c T G r e:=(NZ P c T G).mono E E' h r e
  cl f vs G r e:=(N8 P ae f vs G).mono E E' h r e
  rd l vs G r e:=(N5 l vs G).mono E E' h r e
  sc b c T G r e:=(N0 b c T G).mono E E' h r e
  lp c T G r e:=(N2 c T G).mono E E' h r e
theorem zero_le (E:Ev):Ev.zero.le E:=⟨fun _ _ _ _ h=>by simp [Ev.zero] at h,fun _ _ _ _ h=>by simp [Ev.zero] at h,fun _ _ _ _ h=>by simp [Ev.zero] at h,fun _ _ _ _ _ h=>by simp [Ev.zero] at h,fun _ _ _ _ h=>by simp [Ev.zero] at h⟩
theorem N9:∀ n,(gX P ae n).le (gX P ae (n+1))
  | 0=>zero_le _
  | n+1=>WL P ae (N9 n)
theorem qv {n m:Nat} (h:n≤m):(gX P ae n).le (gX P ae m):=by
  induction h with
  | refl=>exact .refl _
  | step _ ih=>exact ih.trans (N9 P ae _)
def qw {α:Type} (f:Nat→Option α):Option α:=@dite (Option α) (∃ a n,f n=some a) (Classical.propDecidable _) (fun h=>some (Classical.choose h)) (fun _=>none)
theorem rM {α:Type} {f:Nat→Option α} {a:α} (h:qw f=some a):∃ n,f n=some a:=by
  unfold qw at h
  split at h
  · rename_i hh
    cases h
    exact Classical.choose_spec hh
  · cases h
theorem yq {α:Type} {f:Nat→Option α} {a:α} (hm:∀ n m a,n≤m→f n=some a→f m=some a) {n:Nat} (h:f n=some a):qw f=some a:=by
  have hh:∃ a n,f n=some a:=⟨a,n,h⟩
  obtain ⟨m,jS⟩:=Classical.choose_spec hh
  have e1:=hm n (max n m) _ (by omega) h
  have e2:=hm m (max n m) _ (by omega) jS
  have:qw f=some (Classical.choose hh):=by unfold qw; rw [dif_pos hh]
  rw [this,← e2,e1]
def aC:Ev where
  ex c T G:=qw fun n=>(gX P ae n).ex c T G
  cl f vs G:=qw fun n=>(gX P ae n).cl f vs G
  rd l vs G:=qw fun n=>(gX P ae n).rd l vs G
  sc b c T G:=qw fun n=>(gX P ae n).sc b c T G
  lp c T G:=qw fun n=>(gX P ae n).lp c T G
theorem WM:NU (gX P ae) (aC P ae) where
  mono n m h:=qv P ae h
  ex c T G r h:=rM h
  cl f vs G r h:=rM h
  rd l vs G r h:=rM h
  sc b c T G r h:=rM h
  lp c T G r h:=rM h
theorem yr (n:Nat):(gX P ae n).le (aC P ae) where
  ex c T G r h:=yq (fun _ _ _ h e=>(qv P ae h).ex _ _ _ _ e) h
  cl f vs G r h:=yq (fun _ _ _ h e=>(qv P ae h).cl _ _ _ _ e) h
  rd l vs G r h:=yq (fun _ _ _ h e=>(qv P ae h).rd _ _ _ _ e) h
  sc b c T G r h:=yq (fun _ _ _ h e=>(qv P ae h).sc _ _ _ _ _ e) h
  lp c T G r h:=yq (fun _ _ _ h e=>(qv P ae h).lp _ _ _ _ e) h
theorem WN {α:Type} {x y:Option α} (h:∀ r,x=some r→y=some r) (k:∀ r,y=some r→x=some r):x=y:=by
  cases x with
  | some a=>exact (h a rfl).symm
  | none=>cases y with
    | none=>rfl
    | some b=>exact k b rfl
theorem fixed {α:Type} {F:Ev→Option α} (hF:Good F) {f:Nat→Option α} (h:∀ n,f (n+1)=F (gX P ae n)) (hm:∀ n m a,n≤m→f n=some a→f m=some a):qw f=F (aC P ae):=by
  refine WN (fun r e=>?_) (fun r e=>?_)
  · obtain ⟨n,hn⟩:=rM e
    have h1:=hm n (n+1) r (by omega) hn
    rw [h] at h1
    exact hF.mono _ _ (yr P ae n) r h1
  · obtain ⟨n,hn⟩:=hF.fin _ _ (WM P ae) r e
    rw [← h] at hn
    exact yq hm hn
theorem fL (c:Code) (T:List Value) (G:GS):(aC P ae).ex c T G=m6 P (aC P ae) c T G:=fixed P ae (NZ P c T G) (fun _=>rfl) fun _ _ _ h e=>(qv P ae h).ex _ _ _ _ e
theorem Oa (f:FuncId) (vs:List Value) (G:GS):(aC P ae).cl f vs G=tG P ae (aC P ae) f vs G:=fixed P ae (N8 P ae f vs G) (fun _=>rfl) fun _ _ _ h e=>(qv P ae h).cl _ _ _ _ e
theorem WO (l:Nat) (vs:List Value) (G:GS):(aC P ae).rd l vs G=sK (aC P ae) l vs G:=fixed P ae (N5 l vs G) (fun _=>rfl) fun _ _ _ h e=>(qv P ae h).rd _ _ _ _ e
theorem Ob (b c:Code) (T:List Value) (G:GS):(aC P ae).sc b c T G=oX (aC P ae) b c T G:=fixed P ae (N0 b c T G) (fun _=>rfl) fun _ _ _ h e=>(qv P ae h).sc _ _ _ _ _ e
theorem WQ (c:Code) (T:List Value) (G:GS):(aC P ae).lp c T G=oY (aC P ae) c T G:=fixed P ae (N2 c T G) (fun _=>rfl) fun _ _ _ h e=>(qv P ae h).lp _ _ _ _ e
end
section
variable {P:Program} {ae:FuncId→Bool} {B:Nat} {E:Ev}
def Oc (P:Program):Prop :=
  ∀ fn,P.funcs[oV]? =some fn→(fn.name == "runtime.NumGoroutine")=false∧fn.body.isSome=true ∧
    ∀ (w:World) (n:Nat),n≤18446744073709551615→yp w→Calls P oV #[.int .u64 (Int.ofNat n)] w fun e w'=>e= .returned (.int .i64 (Fu n))∧Go.RowKit.Below w.heap.size w w'
def Dp (P:Program):Prop:=Oc P∧Hn P∧AZ P Dk kA∧AZ P Dl kB∧AZ P Dm kC
theorem WR {P:Program} (h:(P.funcs[oV]?).isNone=true):Oc P:=fun fn hf=>by rw [hf] at h; cases h
theorem WS {P:Program} (h:(P.funcs[oV]?).isNone=true) (hs:(P.funcs[tC]?).isNone=true:=by kernel_rfl) (ha:(P.funcs[Dk]?).isNone=true:=by kernel_rfl) (hb:(P.funcs[Dl]?).isNone=true:=by kernel_rfl) (hc:(P.funcs[Dm]?).isNone=true:=by kernel_rfl):Dp P:=⟨WR h,Wt hs,Ht ha,Ht hb,Ht hc⟩
theorem WT {vs:List Value} {G G':GS} {v:Value} (h:Fv vs G=some (v,G')):∃ n,vs=[.int .u64 (Int.ofNat n)]∧xU G=true∧n≤18446744073709551615∧v= .int .i64 (Fu n)∧G' =G:=by
  unfold Fv at h
  split at h
  · rename_i n
    split at h
    · rename_i hc
      simp only [Bool.and_eq_true] at hc
      cases h
      exact ⟨n,rfl,hc.1,Nat.le_of_ble_eq_true hc.2,rfl,rfl⟩
    · cases h
  · cases h
def rN (P:Program) (ae:FuncId→Bool):Prop:=Dp P∧(ae Hl=true→Hm P) ∧
  ∀ f,ae f=true→(∃ fn,P.funcs[f]? =some fn∧(fn.name == "runtime.NumGoroutine")=false∧fn.body.isSome=true)∧∀ w,((P.funcs[oV]?).isSome=true→yp w)→Calls P f #[] w fun e w' =>e= .returned (.bool true)∧Go.RowKit.Below w.heap.size w w'
theorem tF.rel {G:GS} {M:Map} {w:World} (hR:Rel G M w B) (h:tF P G=true):(P.funcs[oV]?).isSome=true→yp w:=fun hs=>by
  unfold tF at h
  rw [hs] at h
  simp only [Bool.not_true,Bool.false_or] at h
  exact hR.Hr h
theorem Rel.grow {G:GS} {M:Map} {w w':World} (hR:Rel G M w B) (hb:Go.RowKit.Below w.heap.size w w'):Rel G M w' B:=by
  have hk:∀ r,r<w.heap.size→w'.heap[r]? =w.heap[r]?:=hb.block
  refine ⟨Nat.le_trans hR.size hb.size,fun g x o hx ho=>?_,hR.apart,hR.nx,fun l r hl=>?_,hR.jO,fun l r hl=>let ⟨h1,p,h2,h3⟩:=hR.mp l r hl; ⟨h1,p,h2,h3.keep (hk _ h3.lt)⟩,hR.jP,hR.jj,hR.wf,fun g o ho hm=>(hR.gl g o ho hm).keep fun r hr=>hk r (Nat.lt_of_lt_of_le hr hR.size)⟩
  · have ig:=hR.aZ g x o hx ho
    refine ⟨ig.esz,ig.opn,ig.len,fun hm=>nW (.refl M) (ig.cells hm) fun a u hu _=>?_,fun hm=>?_,ig.ro⟩
    · have aJ:a.block<w.heap.size:=by
        rcases Nat.lt_or_ge a.block w.heap.size with h | h
        · exact h
        · simp [World.cell?,Array.getElem?_eq_none h] at hu
      exact sT (hk _ aJ) hu
    · obtain ⟨h1,c,e,h2,h3⟩:=ig.own hm
      exact ⟨h1,c,e,by rw [hk _ (Array.getElem?_eq_some_iff.1 h2).1]; exact h2,h3⟩
  · obtain ⟨h1,p,h2,h3,lo,h4,h5⟩:=hR.lp l r hl
    exact ⟨h1,p,h2,h3,lo,by rw [hk _ (Array.getElem?_eq_some_iff.1 h4).1]; exact h4,h5⟩
theorem cI.grow {G:GS} {M:Map} {w w':World} (hb:Go.RowKit.Below w.heap.size w w'):cI G M w G M w' :=
  ⟨.refl M,hb.size,fun r hr _=>hb.block r hr,fun _ h=>.inl h,hb.os,hb.tape,hb.output,Nat.le_refl _,fun _ _ h=>⟨h,rfl⟩,fun _ _ h=>h⟩
theorem Od:∀ {l:List (IntKind×Int)} {as:List Value} {M:Map},Vs M (uX l) as→as=uX l
  | [],[],_,_=>rfl
  | x::l,u::as,M,h=>by
    rw [eM.1 h.1,Od (l:=l) h.2]; rfl
theorem WU {l:List (IntKind×Int)} {args:Array Value} {M:Map} (h:Vs M (uX l) args.toList):args=(uX l).toArray:=by
  obtain ⟨as⟩:=args
  have h2:as=uX l:=Od h
  rw [h2]
theorem WV (lD:P.follows .mixedOrders=true) (ho:rN P ae) (hE:jU P B E):jU P B (E.Dn P ae):=by
  have hn:jU P B (E.Hk P):=by rw [Ev.Wm]; exact V8 lD hE
  refine ⟨fun c T G e T' G' h=>hn.ex c T G e T' G' h,fun b c T G e T' G' h=>hn.sc b c T G e T' G' h,fun c T G e T' G' h=>hn.lp c T G e T' G' h,fun f vs G v G' h=>?_,fun f vs G v G' h=>?_,fun l vs G v G' h=>hn.rd l vs G v G' h⟩
  · replace h:tG P ae E f vs G=some (v,G'):=h
    unfold tG at h
    split at h
    · rename_i hc
      simp only [Bool.and_eq_true,List.isEmpty_iff] at hc
      obtain ⟨nU,hf,hT⟩:=hc
      cases h
      subst nU
      intro M w args cs hR hv
      have kG:args= #[]:=by
        have:=iQ hv
        exact Array.eq_empty_of_size_eq_zero (by simpa using this.symm)
      subst kG
      obtain ⟨e,w',fr,⟨rfl,hb⟩,h1,h2,h3⟩:=(ho.2.2 f hf).2 w (tF.rel hR hT) cs
      exact ⟨M,w',fr,.bool true,.grow hb,hR.grow hb,ji.2 rfl,h1,h2,h3⟩
    split at h
    · rename_i hp
      simp only [po,Bool.and_eq_true,Bool.or_eq_true] at hp
      obtain ⟨fn,fS⟩:=Option.isSome_iff_exists.1 hp.2
      unfold N7 at h
      split at h
      · rename_i Hx
        obtain ⟨n,rfl,tw,uP,rfl,rfl⟩:=WT h
        obtain rfl:=Nat.eq_of_beq_eq_true Hx
        intro M w args cs hR hv
        obtain ⟨_,_,hc⟩:=ho.1.1 fn fS
        have kG:args= #[.int .u64 (Int.ofNat n)]:=by
          obtain ⟨l⟩:=args
          match l,hv with
          | [u],hv=>rw [eM.1 hv.1]
        subst kG
        obtain ⟨e,w',fr,⟨rfl,hb⟩,h1,h2,h3⟩:=hc w n uP (hR.Hr tw) cs
        exact ⟨M,w',fr,_,.grow hb,hR.grow hb,eM.2 rfl,h1,h2,h3⟩
      split at h
      · rename_i yu
        obtain rfl:=Nat.eq_of_beq_eq_true yu
        intro M w args cs hR hv
        obtain ⟨e,w',fr,⟨rfl,rfl,Hy,Dq⟩,h1,h2,h3⟩:=Wr ho.1.2.1 fS h hR hv cs
        exact ⟨M,w',fr,_,Dq,Hy,sM,h1,h2,h3⟩
      split at h
      · rename_i kM
        obtain rfl:=Nat.eq_of_beq_eq_true kM
        intro M w args cs hR hv
        obtain ⟨e,w',fr,⟨s,rfl,rfl,rfl,hb⟩,h1,h2,h3⟩:=Hu ho.1.2.2.1 fS h hR hv cs
        exact ⟨M,w',fr,_,.grow hb,hR.grow hb,sL.2 rfl,h1,h2,h3⟩
      split at h
      · rename_i kM
        obtain rfl:=Nat.eq_of_beq_eq_true kM
        intro M w args cs hR hv
        obtain ⟨e,w',fr,⟨s,rfl,rfl,rfl,hb⟩,h1,h2,h3⟩:=Hu ho.1.2.2.2.1 fS h hR hv cs
        exact ⟨M,w',fr,_,.grow hb,hR.grow hb,sL.2 rfl,h1,h2,h3⟩
      split at h
      · rename_i kM
        obtain rfl:=Nat.eq_of_beq_eq_true kM
        intro M w args cs hR hv
        obtain ⟨e,w',fr,⟨s,rfl,rfl,rfl,hb⟩,h1,h2,h3⟩:=Hu ho.1.2.2.2.2 fS h hR hv cs
        exact ⟨M,w',fr,_,.grow hb,hR.grow hb,sL.2 rfl,h1,h2,h3⟩
      · rename_i Hx yu ha hb hc
        have yu:=((((hp.1.resolve_left Hx).resolve_left yu).resolve_left ha).resolve_left hb).resolve_left hc
        obtain rfl:=Nat.eq_of_beq_eq_true yu.1
        unfold NI at h
        split at h
        · rename_i u hu
          cases h
          obtain ⟨x,hx,rfl,rfl⟩:=NH hu
          intro M w args cs hR hv
          obtain ⟨_,_,hc⟩:=ho.2.1 yu.2 fn fS
          rw [WU hv]
          obtain ⟨e,w',fr,⟨rfl,hb⟩,h1,h2,h3⟩:=hc x hx w cs
          exact ⟨M,w',fr,_,.grow hb,hR.grow hb,eM.2 rfl,h1,h2,h3⟩
        · cases h
    · exact hn.cl f vs G v G' h
  · replace h:tG P ae E f vs G=some (v,G'):=h
    unfold tG at h
    split at h
    · rename_i hc
      simp only [Bool.and_eq_true] at hc
      exact (ho.2.2 f hc.2.1).1
    split at h
    · rename_i hp
      simp only [po,Bool.and_eq_true,Bool.or_eq_true] at hp
      obtain ⟨fn,fS⟩:=Option.isSome_iff_exists.1 hp.2
      rcases hp.1 with fH | fH | fH | fH | fH | fH
      · obtain rfl:=Nat.eq_of_beq_eq_true fH
        obtain ⟨h1,h2,_⟩:=ho.1.1 fn fS
        exact ⟨fn,fS,h1,h2⟩
      · obtain rfl:=Nat.eq_of_beq_eq_true fH
        obtain ⟨h1,h2,_⟩:=ho.1.2.1 fn fS
        exact ⟨fn,fS,h1,h2⟩
      · obtain rfl:=Nat.eq_of_beq_eq_true fH
        obtain ⟨h1,h2,_⟩:=ho.1.2.2.1 fn fS
        exact ⟨fn,fS,h1,h2⟩
      · obtain rfl:=Nat.eq_of_beq_eq_true fH
        obtain ⟨h1,h2,_⟩:=ho.1.2.2.2.1 fn fS
        exact ⟨fn,fS,h1,h2⟩
      · obtain rfl:=Nat.eq_of_beq_eq_true fH
        obtain ⟨h1,h2,_⟩:=ho.1.2.2.2.2 fn fS
        exact ⟨fn,fS,h1,h2⟩
      · obtain rfl:=Nat.eq_of_beq_eq_true fH.1
        obtain ⟨h1,h2,_⟩:=ho.2.1 fH.2 fn fS
        exact ⟨fn,fS,h1,h2⟩
    · exact hn.yi f vs G v G' h
theorem Oe (lD:P.follows .mixedOrders=true) (ho:rN P ae):∀ n,jU P B (gX P ae n)
  | 0=>V7
  | n+1=>WV lD ho (Oe lD ho n)
theorem WW (lD:P.follows .mixedOrders=true) (ho:rN P ae) {f:FuncId} {vs:List Value} {G G':GS} {v:Value} (h:(aC P ae).cl f vs G=some (v,G')) {M:Map} {w:World} {args:Array Value}
    (hR:Rel G M w w.heap.size) (hv:Vs M vs args.toList) :
    Calls P f args w fun e w'=>∃ M' u,e= .returned u∧V M' v u∧Rel G' M' w' w.heap.size∧cI G M w G' M' w':=by
  intro cs
  obtain ⟨n,hn⟩:=rM h
  obtain ⟨M',w',fr,u,h1,h2,h3,h4,h5,h6⟩:=(Oe (B:=w.heap.size) lD ho n).cl _ _ _ _ _ hn M w args cs hR hv
  exact ⟨.returned u,w',fr,⟨M',u,rfl,h3,h2,h1⟩,h4,h5,h6⟩
theorem Og (lD:P.follows .mixedOrders=true) (ho:rN P ae) {f:FuncId} {vs:List Value} {G G':GS} (h:(aC P ae).cl f vs G=some (.bool true,G')) {M:Map} {w:World} {args:Array Value}
    (hR:Rel G M w w.heap.size) (hv:Vs M vs args.toList) (GI:∀ r,¬ eF G M r) :
    Calls P f args w fun e w'=>e= .returned (.bool true)∧Go.RowKit.Below w.heap.size w w' :=
  (WW lD ho h hR hv).mono fun e w' ⟨M',u,he,hV,_,hE⟩=>⟨by rw [he,ji.1 hV],V9 hE fun r _=>GI r⟩
end
end
end Go.Proofs.YtphandknhnkhfaaGreat.Gh
