import Derived.Test.YtlaojmcekeohnaaGreatDoorGhM
namespace Go.Proofs.YtlaojmcekeohnaaGreatDoor.Gh
open Go
set_option linter.unusedVariables false
set_option linter.unusedSimpArgs false
noncomputable section
theorem length_setT:∀ (l:List Value) (n:Nat) (v:Value),(setT l n v).length=l.length
  | [],_,_=>by simp [setT_nil]
  | _::_,0,_=>by simp [setT_zero]
  | x::l,n+1,v=>by simp [setT_succ,length_setT l n v]
theorem length_putT (T:List Value) (d:Option Tmp) (v:Value):(putT T d v).length=T.length:=by
  cases d with
  | none=>rfl
  | some t=>exact length_setT T t v
structure Ev.Len (E:Ev):Prop where
  ex:∀ c T G e T' G',E.ex c T G=some (e,T',G')→T'.length=T.length
  sc:∀ b c T G e T' G',E.sc b c T G=some (e,T',G')→T'.length=T.length
  lp:∀ c T G e T' G',E.lp c T G=some (e,T',G')→T'.length=T.length
section
variable (P:Program)
theorem len_seqOps (E:Ev) (ops:Array Oper):∀ (l:List Oper) (T:List Value) (G:GS) (T' :List Value) (G' :GS),seqOpsF P E ops l T G=some (T',G')→T'.length=T.length
  | [],T,G,T',G',h=>by simp [seqOpsF] at h; rw [h.1]
  | o::r,T,G,T',G',h=>by
    simp only [seqOpsF] at h
    split at h
    · split at h
      · exact (len_seqOps E ops r _ _ _ _ h).trans (length_putT _ _ _)
      · cases h
    · exact (len_seqOps E ops r _ _ _ _ h).trans (length_putT _ _ _)
theorem len_dStep {E:Ev} {ops:Array Oper} {ms:List Nat} {base i:Nat} {o:Oper} {T:List Value} {G:GS} {hist:List (Nat×GS)} {pend:List Pend} {a:DS} (h:dStep P E ops ms base i o T G hist pend=some a):a.1.length=T.length:=by
  unfold dStep at h
  split at h
  · split at h
    · unfold dCls at h
      split at h
      · unfold d0 at h
        split at h<;>cases h
        exact length_putT _ _ _
      · unfold d1 at h
        split at h
        · split at h<;>cases h
          exact length_putT _ _ _
        · cases h
      · unfold d2 at h
        split at h<;>cases h
        exact length_putT _ _ _
      · unfold d3 at h
        split at h
        · split at h<;>cases h
          exact length_putT _ _ _
        · cases h
    · cases h
  · cases h
    exact length_putT _ _ _
theorem len_drawOps (E:Ev) (ops:Array Oper) (ms:List Nat) (base:Nat):∀ (l:List Oper) (i:Nat) (T:List Value) (G:GS) (hist:List (Nat×GS)) (pend:List Pend) (T' :List Value) (G' :GS),drawOpsF P E ops ms base i l T G hist pend=some (T',G')→T'.length=T.length
  | [],i,T,G,hist,pend,T',G',h=>by simp [drawOpsF] at h; rw [h.1]
  | o::r,i,T,G,hist,pend,T',G',h=>by
    simp only [drawOpsF] at h
    split at h
    · rename_i T1 G1 h1 p1 hd
      exact (len_drawOps E ops ms base r _ _ _ _ _ _ _ h).trans (len_dStep P hd)
    · cases h
theorem len_ex {E:Ev} (hE:E.Len) {c:Code} {T:List Value} {G:GS} {e:Exit} {T' :List Value} {G' :GS} (h:stepExF P E c T G=some (e,T',G')):T'.length=T.length:=by
  cases c with
  | seq a b =>
    simp only [stepExF,xSeq] at h
    split at h
    · rename_i T1 G1 ha
      exact (hE.ex _ _ _ _ _ _ h).trans (hE.ex _ _ _ _ _ _ ha)
    · exact hE.ex _ _ _ _ _ _ h
  | cond x a b =>
    simp only [stepExF,xIf] at h
    split at h
    · split at h
      · exact hE.ex _ _ _ _ _ _ h
      · exact hE.ex _ _ _ _ _ _ h
      · cases h
    · cases h
  | block id b =>
    simp only [stepExF,xBlock] at h
    split at h
    · rename_i hb
      split at h<;>cases h<;>exact hE.ex _ _ _ _ _ _ hb
    · exact hE.ex _ _ _ _ _ _ h
  | loop b=>exact hE.lp _ _ _ _ _ _ h
  | scope b=>exact hE.sc _ _ _ _ _ _ _ h
  | region id ops draw =>
    simp only [stepExF] at h
    split at h
    · unfold xDraw xNorm at h
      split at h
      · split at h
        · rename_i hd
          cases h
          exact len_drawOps P _ _ _ _ _ _ _ _ _ _ _ _ hd
        · cases h
      · cases h
    · unfold xSeqOps xNorm at h
      split at h
      · rename_i hd
        cases h
        exact len_seqOps P _ _ _ _ _ _ _ hd
      · cases h
  | rangeFunc f ps assign body =>
    simp only [stepExF] at h
    split at h
    · unfold xRange xRangeEnd at h
      split at h
      · split at h
        · split at h
          · split at h
            · cases h
            · split at h
              · cases h; rfl
              · cases h
          · cases h
        · cases h
      · cases h
    · cases h
  | refuse w=>cases h
  | _=>cases h; rfl
theorem len_sc {E:Ev} (hE:E.Len) {b c:Code} {T:List Value} {G:GS} {e:Exit} {T' :List Value} {G' :GS} (h:stepSc E b c T G=some (e,T',G')):T'.length=T.length:=by
  simp only [stepSc] at h
  split at h
  · rename_i hx
    split at h
    · exact (hE.sc _ _ _ _ _ _ _ h).trans (hE.ex _ _ _ _ _ _ hx)
    · cases h
      exact hE.ex _ _ _ _ _ _ hx
  · exact hE.ex _ _ _ _ _ _ h
theorem len_lp {E:Ev} (hE:E.Len) {b:Code} {T:List Value} {G:GS} {e:Exit} {T' :List Value} {G' :GS} (h:stepLp E b T G=some (e,T',G')):T'.length=T.length:=by
  simp only [stepLp] at h
  split at h
  · rename_i hx
    exact (hE.lp _ _ _ _ _ _ h).trans (hE.ex _ _ _ _ _ _ hx)
  · exact hE.ex _ _ _ _ _ _ h
theorem len_evO (orc:FuncId→Bool):∀ n,(evO P orc n).Len
  | 0=>⟨fun _ _ _ _ _ _ h=>by simp [evO,Ev.zero] at h,fun _ _ _ _ _ _ _ h=>by simp [evO,Ev.zero] at h,fun _ _ _ _ _ _ h=>by simp [evO,Ev.zero] at h⟩
  | n+1=>⟨fun _ _ _ _ _ _ h=>len_ex P (len_evO orc n) h,fun _ _ _ _ _ _ _ h=>len_sc (len_evO orc n) h,fun _ _ _ _ _ _ h=>len_lp (len_evO orc n) h⟩
theorem len_evL (orc:FuncId→Bool):(evL P orc).Len :=
  ⟨fun _ _ _ _ _ _ h=>let ⟨n,hn⟩:=limO_fin h; (len_evO P orc n).ex _ _ _ _ _ _ hn,fun _ _ _ _ _ _ _ h=>let ⟨n,hn⟩:=limO_fin h; (len_evO P orc n).sc _ _ _ _ _ _ _ hn,fun _ _ _ _ _ _ h=>let ⟨n,hn⟩:=limO_fin h; (len_evO P orc n).lp _ _ _ _ _ _ hn⟩
end
def bP {α β:Type} (x:Option α) (k:α→Option β):Option β:=match x with | some a=>k a | none=>none
def bS {β:Type} (x:Option (Value×GS)) (k:Value→GS→Option β):Option β:=match x with | some (v,G)=>k v G | none=>none
def bX {β:Type} (x:Option (Exit×List Value×GS)) (k:Exit→List Value→GS→Option β):Option β:=match x with | some (e,T,G)=>k e T G | none=>none
def ifV {β:Type} (v:Value) (a b:Option β):Option β:=match v with | .bool true=>a | .bool false=>b | _=>none
def gB (v:Value) (want:Bool):Bool:=match v with | .bool b=>b==want | _=>false
def gd (v:Value) (want:Bool) (x:Option (Value×GS)) (G:GS):Option (Value×GS):=if gB v want then x else some (undef,G)
def chk {β:Type} (b:Bool) (x:Option β):Option β:=if b then x else none
@[simp] theorem bP_some {α β:Type} (a:α) (k:α→Option β):bP (some a) k=k a:=Eq.trans rfl rfl
@[simp] theorem bS_some {β:Type} (v:Value) (G:GS) (k:Value→GS→Option β):bS (some (v,G)) k=k v G:=Eq.trans rfl rfl
@[simp] theorem bX_some {β:Type} (e:Exit) (T:List Value) (G:GS) (k:Exit→List Value→GS→Option β):bX (some (e,T,G)) k=k e T G:=Eq.trans rfl rfl
@[simp] theorem ifV_true {β:Type} (a b:Option β):ifV (.bool true) a b=a:=Eq.trans rfl rfl
@[simp] theorem ifV_false {β:Type} (a b:Option β):ifV (.bool false) a b=b:=Eq.trans rfl rfl
@[simp] theorem gd_true (b:Bool) (x:Option (Value×GS)) (G:GS):gd (.bool b) b x G=x:=by simp [gd,gB]
@[simp] theorem gd_tf (x:Option (Value×GS)) (G:GS):gd (.bool true) false x G=some (undef,G):=Eq.trans rfl rfl
@[simp] theorem gd_ft (x:Option (Value×GS)) (G:GS):gd (.bool false) true x G=some (undef,G):=Eq.trans rfl rfl
@[simp] theorem chk_true {β:Type} (x:Option β):chk true x=x:=Eq.trans rfl rfl
@[congr] theorem bP_congr {α β:Type} {x y:Option α} (k:α→Option β) (h:x=y):bP x k=bP y k:=by rw [h]
@[congr] theorem bS_congr {β:Type} {x y:Option (Value×GS)} (k:Value→GS→Option β) (h:x=y):bS x k=bS y k:=by rw [h]
@[congr] theorem bX_congr {β:Type} {x y:Option (Exit×List Value×GS)} (k:Exit→List Value→GS→Option β) (h:x=y):bX x k=bX y k:=by rw [h]
@[congr] theorem ifV_congr {β:Type} {v u:Value} (a b:Option β) (h:v=u):ifV v a b=ifV u a b:=by rw [h]
@[congr] theorem gd_congr {v u:Value} (w:Bool) (x:Option (Value×GS)) (G:GS) (h:v=u):gd v w x G=gd u w x G:=by rw [h]
@[congr] theorem chk_congr {β:Type} {b c:Bool} (x:Option β) (h:b=c):chk b x=chk c x:=by rw [h]
def pickV (c a b:Value):Option Value:=match c with | .bool t=>some (if t then a else b) | _=>none
@[simp] theorem pickV_bool (t:Bool) (a b:Value):pickV (.bool t) a b=some (if t then a else b):=Eq.trans rfl rfl
def minV (P:Program) (tys:Array TypeId) (vs:List Value):Option Value:=if vs.all plain then prunP P (Builtin.min_ tys 0 ⟨vs⟩) else none
def maxV (P:Program) (tys:Array TypeId) (vs:List Value):Option Value:=if vs.all plain then prunP P (Builtin.max_ tys 0 ⟨vs⟩) else none
def mBox (v:Value) (G:GS):Option (Value×GS):=some (.pointer (some ⟨G.nx,0,none⟩),newBlk G v.cells.toList 1)
def mBuildV (P:Program) (t:TypeId) (len:Nat) (parts:List (Nat×Value)) (G:GS):Option (Value×GS):=match P.underlying t with
    | some (.slice e)=>match szO P e,zeroO P e with
      | some s,some z=>if s≠0∧len*s≤2 ^ 24 then
          (match gFill (fun i=>some (i*s,s)) (rep z len) parts with
          | some c=>some (.slice (some ⟨G.nx,0,none⟩) len len,newBlk G c s)
          | none=>none) else none
      | _,_=>none
    | _=>none
def Lp.setSt (r:Lp) (st:LoopState):Lp:={ r with st:=st }
def GS.room (G:GS) (n:Nat):GS:={ G with nx:=G.nx+n }
def GS.at' (G:GS) (n:Nat):GS:={ G with nx:=n }
def GS.back (G' G:GS):GS:={ G' with nx:=G.nx }
section
variable (P:Program) (E:Ev)
def gdst (ops:Array Oper) (j:Nat):Option Tmp:=match ops[j]? with | some o=>o.dst | none=>none
def gval (T:List Value) (d:Option Tmp):Value:=match d with | some t=>nth undef T t | none=>undef
theorem wanted_eq (ops:Array Oper) (T:List Value) (j:Nat) (want:Bool):(gYield ops T j==some want)=gB (gval T (gdst ops j)) want:=by
  unfold gYield gval gdst
  cases ops[j]? with
  | none=>rfl
  | some o =>
    simp only
    cases o.dst with
    | none=>rfl
    | some d =>
      simp only
      cases nth undef T d<;>first | rfl | (unfold gB; simp)
def wStoreK {β:Type} (T:List Value) (t:TypeId) (a x:Operand) (G:GS) (K:Value→GS→Option β):Option β:=bP (gStore P t (ev T a) (ev T x) G) fun G' =>K undef G'
def callK {β:Type} (T:List Value) (c:Call) (G:GS) (K:Value→GS→Option β):Option β:=match c.callee with
  | .value f=>match f with
    | .func g=>bS (E.cl g (c.args.toList.map (ev T)) G) K
    | f=>bS (cValue E (ev T f) (c.args.toList.map (ev T)) G) K
  | .builtin .append=>match c.argTypes[0]?,c.argTypes[1]?,c.args.toList with
    | some ts,some tx,[s,x]=>bS (gAppend P ts tx (ev T s) (ev T x) G) K
    | _,_,_=>none
  | .builtin .copy=>match c.argTypes[0]?,c.args.toList with
    | some td,[d,s]=>bS (gCopy P td (ev T d) (ev T s) G) K
    | _,_=>none
  | .invoke r name=>bS (cInvoke P E (ev T r) name (c.args.toList.map (ev T)) G) K
  | _=>bS (wOr P E T (.call c) G) K
def opK {β:Type} (op:Op) (T:List Value) (G:GS) (K:Value→GS→Option β):Option β :=
  if opOk op then
    match op with
    | .move x=>K (ev T x) G
    | .assign x=>K (ev T x) G
    | .store t a x=>wStoreK P T t a x G K
    | .makeFunc (.func f) a b=>K (.func (.func f) ⟨a.toList.map (ev T)⟩ ⟨b.toList.map (ev T)⟩) G
    | op=>match cls op with
      | 0=>bP (gPureF P T op) fun v=>K v G
      | 1=>bP (gReadF P T op G) fun v=>K v G
      | 2=>bS (gMakeF P T op G) K
      | _=>match op with
        | .call c=>callK P E T c G K
        | op=>bS (gWriteF P T op G) K
  else none
theorem callK_eq {β:Type} (T:List Value) (c:Call) (G:GS) (K:Value→GS→Option β):callK P E T c G K=bS (wOr P E T (.call c) G) K:=by
  obtain ⟨cal,args,tys⟩:=c
  cases cal with
  | value f =>
    cases f<;>simp [callK,wOr,gWriteF,wCall,gCallF,cCall,cValue,ev]
  | invoke r n=>rfl
  | builtin b =>
    cases b<;>first
      | rfl
      | (simp only [callK,wOr,gWriteF,wCall,gCallF,cCall]
         generalize tys[0]? =a
         generalize tys[1]? =b
         generalize args.toList=l
         rcases a with _ | ts
         · rfl
         rcases b with _ | tx
         · rfl
         rcases l with _ | ⟨s,_ | ⟨x,_ | ⟨y,l⟩⟩⟩
         · rfl
         · rfl
         · simp only
           cases gAppend P ts tx (ev T s) (ev T x) G<;>rfl
         · rfl)
      | (simp only [callK,wOr,gWriteF,wCall,gCallF,cCall]
         generalize tys[0]? =a
         generalize args.toList=l
         rcases a with _ | ts
         · rfl
         rcases l with _ | ⟨s,_ | ⟨x,_ | ⟨y,l⟩⟩⟩
         · rfl
         · rfl
         · simp only
           cases gCopy P ts (ev T s) (ev T x) G<;>rfl
         · rfl)
theorem opK_eq {β:Type} (op:Op) (T:List Value) (G:GS) (K:Value→GS→Option β):opK P E op T G K=bS (opStepF P E T G op) K:=by
  unfold opK opStepF
  split
  case isFalse=>rfl
  unfold opCls
  cases op with
  | move x=>rfl
  | assign x=>rfl
  | store t a x =>
    simp only [cls,wOr,gWriteF,wStore,wStoreK,gCallF]
    cases gStore P t (ev T a) (ev T x) G<;>rfl
  | call c =>
    simp only
    generalize cls (.call c)=n
    match n with
    | 0=>simp only [retV]; cases gPureF P T (.call c)<;>rfl
    | 1=>simp only [retV]; cases gReadF P T (.call c) G<;>rfl
    | 2=>rfl
    | n+3=>exact callK_eq P E T c G K
  | load t x=>simp only [cls,retV]; cases gReadF P T (.load t x) G<;>rfl
  | slice t x l h m=>simp only [cls,retV]; cases gReadF P T (.slice t x l h m) G<;>rfl
  | alloc t=>rfl
  | box t x=>rfl
  | buildSlice t n ps=>rfl
  | makeSlice t l c=>rfl
  | makeFunc f a b =>
    cases f with
    | func f =>
      simp only [cls,retV,gPureF,pFunc,bS_some]
      have h:∀ a:Array Operand,(⟨a.toList.map (ev T)⟩:Array Value)=a.map (ev T):=fun a=>by rw [← Array.toList_map]
      rw [h,h]
    | _=>rfl
  | makeMap t r=>cases r<;>rfl
  | lookup t x i ok =>
    show _=bS (wOr P E T (.lookup t x i ok) G) K
    simp only [wOr,gWriteF,wLook,gCallF,cls]
    cases gLookup P t (ev T x) (ev T i) ok G<;>rfl
  | mapUpdate t m k v =>
    show _=bS (wOr P E T (.mapUpdate t m k v) G) K
    simp only [wOr,gWriteF,wPut,gCallF,cls]
    cases gMapPut P t (ev T m) (ev T k) (ev T v) G<;>rfl
  | _ =>
    simp only [cls,retV]
    generalize gPureF P T _=r
    cases r<;>rfl
def seqK' {β:Type} (ops:Array Oper):List Oper→List Value→GS→(List Value→GS→Option β)→Option β
  | [],T,G,K=>K T G
  | o::r,T,G,K=>match o.guard with
    | none=>opK P E o.op T G fun v G' =>seqK' ops r (putT T o.dst v) G' K
    | some (j,want)=>bS (gd (gval T (gdst ops j)) want (opK P E o.op T G fun v G' =>some (v,G')) G) fun v G' =>seqK' ops r (putT T o.dst v) G' K
theorem bS_some' (x:Option (Value×GS)):(bS x fun v G=>some (v,G))=x:=by rcases x with _ | ⟨v,G⟩<;>rfl
theorem seqK'_eq {β:Type} (ops:Array Oper):∀ (l:List Oper) (T:List Value) (G:GS) (K:List Value→GS→Option β),
    seqK' P E ops l T G K=match seqOpsF P E ops l T G with | some (T',G')=>K T' G' | none=>none
  | [],T,G,K=>rfl
  | o::r,T,G,K=>by
    have ih:=fun T G=>seqK'_eq ops r T G K
    simp only [seqK',seqOpsF]
    cases hg:o.guard with
    | none =>
      have hw:gWanted ops T o=true:=by simp [gWanted,hg]
      simp only [hw,if_true,opK_eq]
      rcases opStepF P E T G o.op with _ | ⟨v,G'⟩
      · rfl
      · exact ih _ _
    | some jw =>
      obtain ⟨j,want⟩:=jw
      have hw:gWanted ops T o=gB (gval T (gdst ops j)) want:=by simp only [gWanted,hg]; exact wanted_eq ops T j want
      simp only [hw,gd]
      by_cases hb:gB (gval T (gdst ops j)) want=true
      · rw [if_pos hb,if_pos hb,opK_eq,bS_some']
        rcases opStepF P E T G o.op with _ | ⟨v,G'⟩
        · rfl
        · exact ih _ _
      · rw [if_neg hb,if_neg hb]
        exact ih _ _
def relist (N:Nat) (T:List Value):List Value:=(List.range N).map (nth undef T)
theorem relist_eq:∀ {N:Nat} {T:List Value},T.length=N→relist N T=T:=by
  intro N T h
  subst h
  apply List.ext_getElem?
  intro i
  unfold relist
  by_cases hi:i<T.length
  · simp [hi,nth_eq]
  · simp [hi]
def noGuards (l:List Oper):Bool:=l.all fun o=>o.guard.isNone
def hotL (m:Nat) {α:Type} (l:List (Nat×α)):List α:=(l.filter fun h=> !m.testBit h.1).map (·.2)
def chkL {α β:Type} (f:α→Bool) (l:List α) (x:Option β):Option β:=match l with | []=>x | l=>chk (l.all f) x
theorem chkL_eq {α β:Type} (f:α→Bool) (l:List α) (x:Option β):chkL f l x=if l.all f then x else none:=by
  cases l<;>rfl
theorem hot_all {α:Type} (m:Nat) (f:α→Bool):∀ (l:List (Nat×α)),((hotL m l).all f)=l.all fun h=>m.testBit h.1||f h.2
  | []=>rfl
  | h::l=>by
    have ih:=hot_all m f l
    unfold hotL at ih ⊢
    simp only [List.filter_cons,List.all_cons]
    cases m.testBit h.1<;>simp_all
def drawK {β:Type} (ops:Array Oper) (ms:List Nat) (base:Nat):Nat→List Oper→List Value→GS→List (Nat×GS)→List (Nat×(GS→Bool))→(List Value→GS→Option β)→Option β
  | _,[],T,G,_,_,K=>K T G
  | i,o::r,T,G,hist,pend,K =>
    if opOk o.op then
      match cls o.op with
      | 0=>opK P E o.op T G fun v _=>drawK ops ms base (i+1) r (putT T o.dst v) G hist pend K
      | 1=>bP (gReadF P T o.op G) fun v=>chkL (fun h=>sameO (gReadF P T o.op h) v) (hotL (nth 0 ms i) hist)
          (drawK ops ms base (i+1) r (putT T o.dst v) G hist ((i,fun G' =>sameO (gReadF P T o.op G') v)::pend) K)
      | 2=>bS (gMakeF P T o.op { G with nx:=base+i }) fun v G' =>drawK ops ms base (i+1) r (putT T o.dst v) { G' with nx:=G.nx } hist pend K
      | _=>opK P E o.op T G fun v G' =>chkL (fun c=>c G') (hotL (nth 0 ms i) pend) (drawK ops ms base (i+1) r (putT T o.dst v) G' ((i,G)::hist) pend K)
    else none
def pendF (p:Pend):Nat×(GS→Bool):=(p.i,fun G' =>sameO (gReadF P p.T p.op G') p.v)
theorem drawK_eq {β:Type} (ops:Array Oper) (ms:List Nat) (base:Nat):∀ (l:List Oper) (i:Nat) (T:List Value) (G:GS) (hist:List (Nat×GS)) (pend:List Pend) (K:List Value→GS→Option β),noGuards l=true →
    drawK P E ops ms base i l T G hist (pend.map (pendF P)) K=match drawOpsF P E ops ms base i l T G hist pend with | some (T',G')=>K T' G' | none=>none
  | [],i,T,G,hist,pend,K,_=>rfl
  | o::r,i,T,G,hist,pend,K,hn=>by
    have hg:o.guard=none:=by simp [noGuards] at hn; exact hn.1
    have hn' :noGuards r=true:=by simp [noGuards] at hn ⊢; exact hn.2
    have ih:=fun i T G hist pend=>drawK_eq ops ms base r i T G hist pend K hn'
    simp only [drawK,drawOpsF,dStep,gWanted,hg,if_true]
    by_cases hk:opOk o.op=true
    case neg=>rw [if_neg hk,if_neg hk]
    rw [if_pos hk,if_pos hk]
    have hop:∀ K' :Value→GS→Option β,opK P E o.op T G K' =bS (opCls P E (cls o.op) T G o.op) K' :=fun K' =>by rw [opK_eq]; unfold opStepF; rw [if_pos hk]
    simp only [hop]
    unfold dCls opCls
    generalize cls o.op=n
    match n with
    | 0 =>
      simp only [d0,retV]
      cases gPureF P T o.op with
      | none=>rfl
      | some v=>exact ih _ _ _ _ _
    | 1 =>
      simp only [d1]
      cases gReadF P T o.op G with
      | none=>rfl
      | some v =>
        simp only [bP_some,chkL_eq,hot_all]
        split
        · exact ih _ _ _ _ (⟨i,T,o.op,v⟩::pend)
        · rfl
    | 2 =>
      simp only [d2]
      rcases gMakeF P T o.op { G with nx:=base+i } with _ | ⟨v,G'⟩
      · rfl
      · exact ih _ _ _ _ _
    | n+3 =>
      simp only [d3]
      rcases wOr P E T o.op G with _ | ⟨v,G'⟩
      · rfl
      · simp only [bS_some,chkL_eq,hot_all,List.all_map]
        have:(pend.all fun p=>(nth 0 ms i).testBit p.i||sameO (gReadF P p.T p.op G') p.v)=pend.all ((fun h=>(nth 0 ms i).testBit h.1||h.2 G') ∘ pendF P):=rfl
        rw [this]
        split
        · exact ih _ _ _ _ _
        · rfl
def blockK {β:Type} (id:Nat) (K:Exit→List Value→GS→Option β) (e:Exit) (T:List Value) (G:GS):Option β:=match e with
  | .exit id' =>if id' =id then K .normal T G else K (.exit id') T G
  | e=>K e T G
def seqX {β:Type} (b:List Value→GS→Option β) (K:Exit→List Value→GS→Option β) (e:Exit) (T:List Value) (G:GS):Option β:=match e with
  | .normal=>b T G
  | e=>K e T G
def scopeK {β:Type} (N:Nat) (b:Code) (K:Exit→List Value→GS→Option β) (e:Exit) (T:List Value) (G:GS):Option β:=match e with
  | .goto l=>match findLabel b l with
    | some rest=>bX (E.sc b rest T G) fun e T2 G2=>K e (relist N T2) G2
    | none=>K (.goto l) T G
  | e=>K e T G
def sx {β:Type} (N:Nat):Code→List Value→GS→(Exit→List Value→GS→Option β)→Option β
  | .skip,T,G,K=>K .normal T G
  | .label _,T,G,K=>K .normal T G
  | .seq a b,T,G,K=>sx N a T G (seqX (fun T G=>sx N b T G K) K)
  | .cond x a b,T,G,K=>if okX x then ifV (ev T x) (sx N a T G K) (sx N b T G K) else none
  | .block id b,T,G,K=>sx N b T G (blockK id K)
  | .loop b,T,G,K=>bX (E.lp b T G) fun e T' G' =>K e (relist N T') G'
  | .exit id,T,G,K=>K (.exit id) T G
  | .goto l,T,G,K=>K (.goto l) T G
  | .ret,T,G,K=>K .ret T G
  | .scope b,T,G,K=>sx N b T G (scopeK E N b K)
  | .region _ ops draw,T,G,K =>
    if draw then
      if dOk ops then
        if noGuards ops.toList then drawK P E ops (masks ops.toList []) G.nx 0 ops.toList T { G with nx:=G.nx+ops.size } [] [] fun T G=>K .normal T G
        else bX (xDraw P E ops T G) K
      else none
    else seqK' P E ops ops.toList T G fun T G=>K .normal T G
  | .rangeFunc f ps assign body,T,G,K=>if okX f then bX (xRange E (ev T f) ps assign body T G) K else none
  | .refuse _,_,_,_=>none
def exitEq (a b:Exit):Bool:=match a,b with
  | .normal,.normal=>true
  | .ret,.ret=>true
  | .exit a,.exit b=>Nat.beq a b
  | .goto a,.goto b=>Nat.beq a b
  | _,_=>false
theorem exitEq_eq {a b:Exit} (h:exitEq a b=true):a=b:=by
  cases a<;>cases b<;>simp_all [exitEq]
def ifE {β:Type} (e x:Exit) (a b:Option β):Option β:=if exitEq e x then a else b
@[simp] theorem ifE_same {β:Type} (id:Nat) (a b:Option β):ifE (.exit id) (.exit id) a b=a:=by simp [ifE,exitEq]
@[simp] theorem ifE_ret {β:Type} (a b:Option β):ifE .ret .ret a b=a:=Eq.trans rfl rfl
@[simp] theorem ifE_normal {β:Type} (a b:Option β):ifE .normal .normal a b=a:=Eq.trans rfl rfl
@[simp] theorem ifE_goto {β:Type} (id:Nat) (a b:Option β):ifE (.goto id) (.goto id) a b=a:=by simp [ifE,exitEq]
@[simp] theorem ifE_re {β:Type} (id:Nat) (a b:Option β):ifE .ret (.exit id) a b=b:=Eq.trans rfl rfl
@[simp] theorem ifE_er {β:Type} (id:Nat) (a b:Option β):ifE (.exit id) .ret a b=b:=Eq.trans rfl rfl
@[simp] theorem ifE_ne {β:Type} (id:Nat) (a b:Option β):ifE .normal (.exit id) a b=b:=Eq.trans rfl rfl
@[simp] theorem ifE_en {β:Type} (id:Nat) (a b:Option β):ifE (.exit id) .normal a b=b:=Eq.trans rfl rfl
@[simp] theorem ifE_nr {β:Type} (a b:Option β):ifE .normal .ret a b=b:=Eq.trans rfl rfl
@[simp] theorem ifE_rn {β:Type} (a b:Option β):ifE .ret .normal a b=b:=Eq.trans rfl rfl
@[congr] theorem ifE_congr {β:Type} {e x e' :Exit} (a b:Option β) (h:e=e'):ifE e x a b=ifE e' x a b:=by rw [h]
def addE (e:Exit) (l:List Exit):List Exit:=if l.any (exitEq e) then l else e::l
def unE:List Exit→List Exit→List Exit
  | [],l=>l
  | e::r,l=>addE e (unE r l)
def exs:Code→List Exit
  | .exit id=>[.exit id]
  | .goto l=>[.goto l]
  | .ret=>[.ret]
  | .seq a b=>unE (exs a) (exs b)
  | .cond _ a b=>unE (exs a) (exs b)
  | .block id b=>(exs b).filter fun e=> !exitEq e (.exit id)
  | .loop b=>exs b
  | .scope b=>exs b
  | .rangeFunc _ _ _ b=>exs b
  | _=>[]
def disp {β:Type} (l:List Exit) (e:Exit) (T:List Value) (G:GS) (K:Exit→List Value→GS→Option β):Option β:=match l with
  | []=>none
  | x::r=>ifE e x (K x T G) (disp r e T G K)
theorem disp_some {β:Type} {e:Exit} {T:List Value} {G:GS} {K:Exit→List Value→GS→Option β} {r:β}:∀ {l:List Exit},disp l e T G K=some r→K e T G=some r
  | [],h=>by cases h
  | x::l,h=>by
    simp only [disp,ifE] at h
    split at h
    · rename_i hx
      rw [exitEq_eq hx]
      exact h
    · exact disp_some h
def scopeD {β:Type} (N:Nat) (b:Code) (K:Exit→List Value→GS→Option β) (e:Exit) (T:List Value) (G:GS):Option β:=match e with
  | .goto l=>match findLabel b l with
    | some rest=>bX (E.sc b rest T G) fun e T2 G2=>disp (.normal::exs b) e (relist N T2) G2 K
    | none=>K (.goto l) T G
  | e=>K e T G
def sxD {β:Type} (N:Nat):Code→List Value→GS→(Exit→List Value→GS→Option β)→Option β
  | .skip,T,G,K=>K .normal T G
  | .label _,T,G,K=>K .normal T G
  | .seq a b,T,G,K=>sxD N a T G (seqX (fun T G=>sxD N b T G K) K)
  | .cond x a b,T,G,K=>if okX x then ifV (ev T x) (sxD N a T G K) (sxD N b T G K) else none
  | .block id b,T,G,K=>sxD N b T G (blockK id K)
  | .loop b,T,G,K=>bX (E.lp b T G) fun e T' G' =>disp (exs b) e (relist N T') G' K
  | .exit id,T,G,K=>K (.exit id) T G
  | .goto l,T,G,K=>K (.goto l) T G
  | .ret,T,G,K=>K .ret T G
  | .scope b,T,G,K=>sxD N b T G (scopeD E N b K)
  | .region _ ops draw,T,G,K =>
    if draw then
      if dOk ops then
        if noGuards ops.toList then drawK P E ops (masks ops.toList []) G.nx 0 ops.toList T { G with nx:=G.nx+ops.size } [] [] fun T G=>K .normal T G
        else bX (xDraw P E ops T G) fun e T' G' =>disp [.normal] e (relist N T') G' K
      else none
    else seqK' P E ops ops.toList T G fun T G=>K .normal T G
  | .rangeFunc f ps assign body,T,G,K=>if okX f then bX (xRange E (ev T f) ps assign body T G) fun e T' G' =>disp (.normal::exs body) e (relist N T') G' K else none
  | .refuse _,_,_,_=>none
def resK {β:Type} (T:List Value) (G:GS):List ResultVar→(List Value→Option β)→Option β
  | [],K=>K []
  | .tmp t::r,K=>resK T G r fun l=>K (nth undef T t::l)
  | .cell a t::r,K=>bP (gLoadF P t (nth undef T a) G) fun v=>resK T G r fun l=>K (v::l)
theorem resK_eq {β:Type} (T:List Value) (G:GS):∀ (l:List ResultVar) (K:List Value→Option β),resK P T G l K=bP (gResults P T G l) K
  | [],K=>rfl
  | .tmp t::r,K=>by
    simp only [resK,gResults,resK_eq T G r]
    cases gResults P T G r<;>rfl
  | .cell a t::r,K=>by
    simp only [resK,gResults,resK_eq T G r,gLoadF_eq]
    cases gLoad P t (nth undef T a) G<;>cases gResults P T G r<;>rfl
def retK (results:List ResultVar) (e:Exit) (T:List Value) (G:GS):Option (Value×GS):=if isLeave e then resK P T G results fun l=>some (oneOr l,G) else none
end
section
variable (P:Program) (orc:FuncId→Bool)
theorem sx_eq {β:Type} {N:Nat}:∀ (c:Code) (T:List Value) (G:GS) (K:Exit→List Value→GS→Option β),T.length=N→sx P (evL P orc) N c T G K=bX ((evL P orc).ex c T G) K:=by
  intro c
  have hL:=len_evL P orc
  induction c with
  | skip=>intro T G K h; rw [evL_ex]; rfl
  | label l=>intro T G K h; rw [evL_ex]; rfl
  | exit l=>intro T G K h; rw [evL_ex]; rfl
  | goto l=>intro T G K h; rw [evL_ex]; rfl
  | ret=>intro T G K h; rw [evL_ex]; rfl
  | refuse w=>intro T G K h; rw [evL_ex]; rfl
  | seq a b iha ihb =>
    intro T G K h
    rw [evL_ex,sx,iha _ _ _ h]
    show _=bX (xSeq (evL P orc) b ((evL P orc).ex a T G)) K
    rcases hx:(evL P orc).ex a T G with _ | ⟨e,T',G'⟩
    · rfl
    · have hl:=(hL.ex _ _ _ _ _ _ hx).trans h
      cases e with
      | normal=>exact ihb _ _ _ hl
      | _=>rfl
  | cond x a b iha ihb =>
    intro T G K h
    rw [evL_ex,sx,iha _ _ _ h,ihb _ _ _ h]
    show _=bX (if okX x then xIf (evL P orc) (ev T x) a b T G else none) K
    split
    · unfold ifV xIf
      generalize ev T x=v
      cases v with
      | bool t=>cases t<;>rfl
      | _=>rfl
    · rfl
  | block id b ih =>
    intro T G K h
    rw [evL_ex,sx,ih _ _ _ h]
    show _=bX (xBlock id ((evL P orc).ex b T G)) K
    rcases hx:(evL P orc).ex b T G with _ | ⟨e,T',G'⟩
    · rfl
    · cases e with
      | exit id' =>
        simp only [bX_some,blockK,xBlock]
        split<;>rfl
      | _=>rfl
  | loop b ih =>
    intro T G K h
    rw [evL_ex]
    show bX ((evL P orc).lp b T G) (fun e T' G' =>K e (relist N T') G')=bX ((evL P orc).lp b T G) K
    rcases hx:(evL P orc).lp b T G with _ | ⟨e,T',G'⟩
    · rfl
    · simp only [bX_some,relist_eq ((hL.lp _ _ _ _ _ _ hx).trans h)]
  | scope b ih =>
    intro T G K h
    rw [evL_ex]
    show sx P (evL P orc) N b T G (scopeK (evL P orc) N b K)=bX ((evL P orc).sc b b T G) K
    rw [ih _ _ _ h,evL_sc,stepSc]
    rcases hx:(evL P orc).ex b T G with _ | ⟨e,T',G'⟩
    · rfl
    · have hl:=(hL.ex _ _ _ _ _ _ hx).trans h
      cases e with
      | goto l =>
        simp only [bX_some,scopeK]
        cases findLabel b l with
        | none=>rfl
        | some rest =>
          simp only
          rcases hy:(evL P orc).sc b rest T' G' with _ | ⟨e2,T2,G2⟩
          · rfl
          · simp only [bX_some,relist_eq ((hL.sc _ _ _ _ _ _ _ hy).trans hl)]
      | _=>rfl
  | region id ops draw =>
    intro T G K h
    rw [evL_ex,sx]
    show _=bX (if draw then xDraw P (evL P orc) ops T G else xSeqOps P (evL P orc) ops T G) K
    split
    · split
      · rename_i hd
        split
        · rename_i hn
          have:=drawK_eq P (evL P orc) ops (masks ops.toList []) G.nx ops.toList 0 T { G with nx:=G.nx+ops.size } [] [] (fun T G=>K .normal T G) hn
          rw [List.map_nil] at this
          rw [this]
          unfold xDraw
          rw [if_pos hd]
          rcases drawOpsF P (evL P orc) ops (masks ops.toList []) G.nx 0 ops.toList T { G with nx:=G.nx+ops.size } [] [] with _ | ⟨T',G'⟩<;>rfl
        · rfl
      · rename_i hd
        unfold xDraw
        rw [if_neg hd]
        rfl
    · rw [seqK'_eq]
      unfold xSeqOps
      rcases seqOpsF P (evL P orc) ops ops.toList T G with _ | ⟨T',G'⟩<;>rfl
  | rangeFunc f ps assign body iha ihb =>
    intro T G K h
    rw [evL_ex,sx]
    show _=bX (if okX f then xRange (evL P orc) (ev T f) ps assign body T G else none) K
    split<;>rfl
theorem sxD_some {β:Type} {N:Nat}:∀ (c:Code) (T:List Value) (G:GS) (K:Exit→List Value→GS→Option β) (r:β),T.length=N→sxD P (evL P orc) N c T G K=some r→bX ((evL P orc).ex c T G) K=some r:=by
  intro c
  have hL:=len_evL P orc
  have same:∀ {K:Exit→List Value→GS→Option β} {x:Option (Exit×List Value×GS)} {l:List Exit} {r:β},(∀ e T' G',x=some (e,T',G')→T'.length=N)→(bX x fun e T' G' =>disp l e (relist N T') G' K)=some r→bX x K=some r:=by
    intro K x l r hx h
    rcases x with _ | ⟨e,T',G'⟩
    · exact h
    · simp only [bX_some] at h ⊢
      rw [relist_eq (hx _ _ _ rfl)] at h
      exact disp_some h
  induction c with
  | skip=>intro T G K r h hs; rw [evL_ex]; exact hs
  | label l=>intro T G K r h hs; rw [evL_ex]; exact hs
  | exit l=>intro T G K r h hs; rw [evL_ex]; exact hs
  | goto l=>intro T G K r h hs; rw [evL_ex]; exact hs
  | ret=>intro T G K r h hs; rw [evL_ex]; exact hs
  | refuse w=>intro T G K r h hs; cases hs
  | seq a b iha ihb =>
    intro T G K r h hs
    have h1:=iha _ _ _ _ h hs
    rw [evL_ex]
    show bX (xSeq (evL P orc) b ((evL P orc).ex a T G)) K=some r
    rcases hx:(evL P orc).ex a T G with _ | ⟨e,T',G'⟩
    · rw [hx] at h1; exact h1
    · rw [hx] at h1
      have hl:=(hL.ex _ _ _ _ _ _ hx).trans h
      cases e with
      | normal=>exact ihb _ _ _ _ hl h1
      | _=>exact h1
  | cond x a b iha ihb =>
    intro T G K r h hs
    rw [evL_ex]
    simp only [sxD] at hs
    show bX (if okX x then xIf (evL P orc) (ev T x) a b T G else none) K=some r
    split at hs
    · rename_i hk
      rw [if_pos hk]
      unfold ifV at hs
      unfold xIf
      generalize ev T x=v at hs ⊢
      cases v with
      | bool t =>
        cases t
        · exact ihb _ _ _ _ h hs
        · exact iha _ _ _ _ h hs
      | _=>cases hs
    · cases hs
  | block id b ih =>
    intro T G K r h hs
    have h1:=ih _ _ _ _ h hs
    rw [evL_ex]
    show bX (xBlock id ((evL P orc).ex b T G)) K=some r
    rcases hx:(evL P orc).ex b T G with _ | ⟨e,T',G'⟩
    · rw [hx] at h1; exact h1
    · rw [hx] at h1
      cases e with
      | exit id' =>
        simp only [bX_some,blockK] at h1
        simp only [xBlock]
        split at h1<;>simp_all
      | _=>exact h1
  | loop b ih =>
    intro T G K r h hs
    rw [evL_ex]
    exact same (fun e T' G' hx=>(hL.lp _ _ _ _ _ _ hx).trans h) hs
  | scope b ih =>
    intro T G K r h hs
    have h1:=ih _ _ _ _ h hs
    rw [evL_ex]
    show bX ((evL P orc).sc b b T G) K=some r
    rw [evL_sc,stepSc]
    rcases hx:(evL P orc).ex b T G with _ | ⟨e,T',G'⟩
    · rw [hx] at h1; exact h1
    · rw [hx] at h1
      have hl:=(hL.ex _ _ _ _ _ _ hx).trans h
      cases e with
      | goto l =>
        simp only [bX_some,scopeD] at h1
        simp only
        cases hf:findLabel b l with
        | none=>rw [hf] at h1; exact h1
        | some rest =>
          rw [hf] at h1
          exact same (fun e T2 G2 hy=>(hL.sc _ _ _ _ _ _ _ hy).trans hl) h1
      | _=>exact h1
  | region id ops draw =>
    intro T G K r h hs
    rw [evL_ex]
    simp only [sxD] at hs
    show bX (if draw then xDraw P (evL P orc) ops T G else xSeqOps P (evL P orc) ops T G) K=some r
    have hl:∀ e T' G',xDraw P (evL P orc) ops T G=some (e,T',G')→T'.length=N:=by
      intro e T' G' hx
      unfold xDraw xNorm at hx
      split at hx
      · split at hx
        · rename_i hd
          cases hx
          exact (len_drawOps P _ _ _ _ _ _ _ _ _ _ _ _ hd).trans h
        · cases hx
      · cases hx
    split at hs
    · rename_i hdr
      rw [if_pos hdr]
      split at hs
      · rename_i hd
        split at hs
        · rename_i hn
          have:=drawK_eq P (evL P orc) ops (masks ops.toList []) G.nx ops.toList 0 T { G with nx:=G.nx+ops.size } [] [] (fun T G=>K .normal T G) hn
          rw [List.map_nil] at this
          rw [this] at hs
          unfold xDraw
          rw [if_pos hd]
          rcases hy:drawOpsF P (evL P orc) ops (masks ops.toList []) G.nx 0 ops.toList T { G with nx:=G.nx+ops.size } [] [] with _ | ⟨T',G'⟩
          · rw [hy] at hs; exact hs
          · rw [hy] at hs; exact hs
        · exact same hl hs
      · cases hs
    · rename_i hdr
      rw [if_neg hdr]
      rw [seqK'_eq] at hs
      unfold xSeqOps
      rcases hy:seqOpsF P (evL P orc) ops ops.toList T G with _ | ⟨T',G'⟩
      · rw [hy] at hs; exact hs
      · rw [hy] at hs; exact hs
  | rangeFunc f ps assign body iha ihb =>
    intro T G K r h hs
    rw [evL_ex]
    simp only [sxD] at hs
    show bX (if okX f then xRange (evL P orc) (ev T f) ps assign body T G else none) K=some r
    split at hs
    · rename_i hk
      rw [if_pos hk]
      refine same (fun e T' G' hx=> ?_) hs
      unfold xRange xRangeEnd at hx
      split at hx
      · split at hx
        · split at hx
          · split at hx
            · cases hx
            · split at hx
              · cases hx; exact h
              · cases hx
          · cases hx
        · cases hx
      · cases hx
    · cases hs
def bodyOf (fn:Func):Code:=match fn.body with | some c=>c | none=> .skip
theorem cl_sx {f:FuncId} {fn:Func} {vs:List Value} (G:GS) (hf:P.funcs[f]? =some fn) (hn:(fn.name == "runtime.NumGoroutine")=false) (hb:fn.body.isSome=true) (ho:(vs.isEmpty&&orc f)=false) (hp:isPur P orc f=false) (hl:Nat.ble vs.length fn.ntmps=true) :
    (evL P orc).cl f vs G=sx P (evL P orc) fn.ntmps (bodyOf fn) (vs++List.replicate (fn.ntmps - vs.length) undef) G (retK P fn.results.toList):=by
  obtain ⟨c,hc⟩:=Option.isSome_iff_exists.1 hb
  rw [evL_cl]
  unfold clO stepCl
  rw [show (vs.isEmpty&&(orc f&&hasTab P G))=false by rw [← Bool.and_assoc,ho,Bool.false_and],hp,hf]
  simp only [hn,hc,Bool.false_eq_true,if_false]
  rw [sx_eq P orc _ _ _ _ (by have:=Nat.le_of_ble_eq_true hl; simp; omega)]
  have:bodyOf fn=c:=by simp [bodyOf,hc]
  rw [this]
  rcases (evL P orc).ex c (vs++List.replicate (fn.ntmps - vs.length) undef) G with _ | ⟨e,T',G'⟩
  · rfl
  · simp only [bX_some,retK,resK_eq]
    split
    · cases gResults P T' G' fn.results.toList<;>rfl
    · rfl
theorem cl_sxD {f:FuncId} {fn:Func} {vs:List Value} (G:GS) (hf:P.funcs[f]? =some fn) (hn:(fn.name == "runtime.NumGoroutine")=false) (hb:fn.body.isSome=true) (ho:(vs.isEmpty&&orc f)=false) (hp:isPur P orc f=false) (hl:Nat.ble vs.length fn.ntmps=true) {x:Option (Value×GS)} {r:Value×GS}
    (hx:sxD P (evL P orc) fn.ntmps (bodyOf fn) (vs++List.replicate (fn.ntmps - vs.length) undef) G (retK P fn.results.toList)=x) (h:x=some r):(evL P orc).cl f vs G=some r:=by
  have hlen:(vs++List.replicate (fn.ntmps - vs.length) undef).length=fn.ntmps:=by have:=Nat.le_of_ble_eq_true hl; simp; omega
  rw [cl_sx P orc G hf hn hb ho hp hl,sx_eq P orc _ _ _ _ hlen]
  exact sxD_some P orc _ _ _ _ _ hlen (hx.trans h)
theorem lp_sx {b:Code} {N:Nat} {T:List Value} (G:GS) (h:T.length=N) :
    (evL P orc).lp b T G=sx P (evL P orc) N b (relist N T) G (seqX (fun T' G' =>(evL P orc).lp b T' G') fun e T' G' =>some (e,T',G')):=by
  rw [relist_eq h,sx_eq P orc _ _ _ _ h,evL_lp,stepLp]
  rcases (evL P orc).ex b T G with _ | ⟨e,T',G'⟩
  · rfl
  · cases e<;>rfl
def roundEnd (l:Nat) (e:Exit) (G:GS):Option (Value×GS):=bP (codeOf e) fun j=>bP (G.loop l) fun r=>some (.bool j.isNone,G.putLoop l { r with st:=if j.isNone then .ready else .done,pend:=j })
def roundBody (E:Ev) (l N:Nat) (body:Code) (T:List Value) (G:GS):Option (Value×GS) :=
  bP (G.loop l) fun r=>if r.st= .ready then sx P E N body T (G.putLoop l { r with st:= .busy }) (fun e _ G2=>roundEnd l e G2) else none
theorem rd_sx {l N:Nat} {vs:List Value} {G:GS} {st:LoopState} {pend:Option Code} {T:List Value} {ps:List Nat} {assign body:Code} (hl:G.loop l=some ⟨st,pend,T,ps,assign,body⟩) (hp:ps.length=vs.length) (hT:T.length=N) :
    (evL P orc).rd l vs G=sx P (evL P orc) N assign (setParams ps vs T) G (seqX (fun T1 G1=>roundBody P (evL P orc) l N body T1 G1) fun _ _ _=>none):=by
  have hL:=len_evL P orc
  have hset:∀ (ps:List Nat) (vs T:List Value),(setParams ps vs T).length=T.length:=by
    intro ps
    induction ps with
    | nil=>intro vs T; cases vs<;>rfl
    | cons p ps ih =>
      intro vs T
      cases vs with
      | nil=>rfl
      | cons v vs=>exact (ih vs _).trans (length_setT _ _ _)
  rw [sx_eq P orc _ _ _ _ ((hset _ _ _).trans hT),evL_rd,stepRd,hl]
  simp only [hp,if_true]
  rcases hx:(evL P orc).ex assign (setParams ps vs T) G with _ | ⟨e,T1,G1⟩
  · rfl
  · have hl1:T1.length=N:=(hL.ex _ _ _ _ _ _ hx).trans ((hset _ _ _).trans hT)
    cases e with
    | normal =>
      simp only [bX_some,seqX,roundBody]
      cases G1.loop l with
      | none=>rfl
      | some r1 =>
        simp only [bP_some]
        split
        · rw [sx_eq P orc _ _ _ _ hl1]
          rcases (evL P orc).ex body T1 (G1.putLoop l { r1 with st:= .busy }) with _ | ⟨e2,T2,G2⟩
          · rfl
          · simp only [bX_some,roundEnd]
            cases codeOf e2 with
            | none=>rfl
            | some j=>cases G2.loop l<;>rfl
        · rfl
    | _=>rfl
end
theorem length_setParams:∀ (ps:List Nat) (vs T:List Value),(setParams ps vs T).length=T.length
  | [],vs,T=>by cases vs<;>rfl
  | p::ps,[],T=>rfl
  | p::ps,v::vs,T=>(length_setParams ps vs _).trans (length_setT _ _ _)
abbrev Env:=Nat→Value
def updE (N:Nat) (τ:Env) (i:Nat) (v:Value):Env:=fun j=>bif Nat.beq j i then (bif Nat.blt i N then v else τ j) else τ j
def updO (N:Nat) (τ:Env) (d:Option Tmp) (v:Value):Env:=match d with | some t=>updE N τ t v | none=>τ
def evE (τ:Env) (x:Operand):Value:=match x with
  | .tmp t=>τ t
  | .const v=>v
  | .global _=>undef
  | .func f=> .func (.func f) #[] #[]
theorem evE_eq (T:List Value):evE (nth undef T)=ev T:=by funext x; cases x<;>rfl
theorem nth_setT (T:List Value) (v:Value):∀ (i j:Nat),nth undef (setT T i v) j=if j=i∧i<T.length then v else nth undef T j:=by
  induction T with
  | nil=>intro i j; simp [setT_nil]
  | cons x xs ih =>
    intro i j
    cases i with
    | zero =>
      rw [setT_zero]
      cases j with
      | zero=>simp [nth_zero]
      | succ j=>simp [nth_succ]
    | succ i =>
      rw [setT_succ]
      cases j with
      | zero=>simp [nth_zero]
      | succ j=>simp [nth_succ,ih i j]
theorem updE_eq {N:Nat} {T:List Value} (h:T.length=N) (i:Nat) (v:Value):updE N (nth undef T) i v=nth undef (setT T i v):=by
  funext j
  rw [nth_setT,h]
  unfold updE
  by_cases h1:j=i
  · subst h1
    rw [Nat.beq_refl]
    by_cases h2:j<N
    · have:Nat.blt j N=true:=by simpa [Nat.blt_eq] using h2
      simp [this,h2]
    · have:Nat.blt j N=false:=by
        cases hb:Nat.blt j N
        · rfl
        · exact absurd (by simpa [Nat.blt_eq] using hb) h2
      simp [this,h2]
  · have:Nat.beq j i=false:=by
      cases hb:Nat.beq j i
      · rfl
      · exact absurd (Nat.eq_of_beq_eq_true hb) h1
    simp [this,h1]
theorem updO_eq {N:Nat} {T:List Value} (h:T.length=N) (d:Option Tmp) (v:Value):updO N (nth undef T) d v=nth undef (putT T d v):=by
  cases d with
  | none=>rfl
  | some t=>exact updE_eq h t v
def lst (N:Nat) (τ:Env):List Value:=(List.range N).map τ
theorem lst_eq {N:Nat} {T:List Value} (h:T.length=N):lst N (nth undef T)=T:=relist_eq h
section
variable (P:Program) (E:Ev)
def callE {β:Type} (e:Operand→Value) (c:Call) (G:GS) (K:Value→GS→Option β):Option β:=match c.callee with
  | .value f=>match f with
    | .func g=>bS (E.cl g (c.args.toList.map e) G) K
    | f=>bS (cValue E (e f) (c.args.toList.map e) G) K
  | .builtin .append=>match c.argTypes[0]?,c.argTypes[1]?,c.args.toList with
    | some ts,some tx,[s,x]=>bS (gAppend P ts tx (e s) (e x) G) K
    | _,_,_=>none
  | .builtin .copy=>match c.argTypes[0]?,c.args.toList with
    | some td,[d,s]=>bS (gCopy P td (e d) (e s) G) K
    | _,_=>none
  | .builtin .len=>match c.argTypes[0]?,c.args.toList with
    | some t,[x]=>bP (gLen P t (e x)) fun v=>K v G
    | _,_=>none
  | .builtin .min=>bP (minV P c.argTypes (c.args.toList.map e)) fun v=>K v G
  | .builtin .max=>bP (maxV P c.argTypes (c.args.toList.map e)) fun v=>K v G
  | .invoke r name=>bS (cInvoke P E (e r) name (c.args.toList.map e) G) K
  | _=>none
def opE {β:Type} (e:Operand→Value) (op:Op) (G:GS) (K:Value→GS→Option β):Option β :=
  if opOk op then
    match op with
    | .move x=>K (e x) G
    | .assign x=>K (e x) G
    | .makeFunc (.func f) a b=>K (.func (.func f) ⟨a.toList.map e⟩ ⟨b.toList.map e⟩) G
    | .pick c a b=>bP (pickV (e c) (e a) (e b)) fun v=>K v G
    | .nilCheck x=>bP (pNil (e x)) fun v=>K v G
    | .binOp o t x y _=>bP (gBinF P o t x y (e x) (e y)) fun v=>K v G
    | .unOp o _ x=>bP (pUn P o (e x)) fun v=>K v G
    | .convert s d x=>bP (pConv P s d (e x)) fun v=>K v G
    | .makeInterface t x=>bP (pIface P t (e x)) fun v=>K v G
    | .build t ps=>bP (gBuild P t (ps.toList.map fun p=>(p.1,e p.2))) fun v=>K v G
    | .field t x f=>bP (gField P t (e x) f) fun v=>K v G
    | .index t x i=>bP (gIndex P t (e x) (e i)) fun v=>K v G
    | .extract x i=>bP (pExtract (e x) i) fun v=>K v G
    | .fieldAddr t x f=>bP (gFieldAddr P t (e x) f) fun v=>K v G
    | .indexAddr t x i=>bP (gIndexAddr P t (e x) (e i)) fun v=>K v G
    | .typeAssert x _ a ok=>bP (gAssert P (e x) a ok) fun v=>K v G
    | .load t x=>bP (gLoadF P t (e x) G) fun v=>K v G
    | .slice t x l h m=>bP (gSlice P t (e x) (l.map e) (h.map e) (m.map e) G) fun v=>K v G
    | .alloc t=>bS (mAlloc P t G) K
    | .box _ x=>bS (mBox (e x) G) K
    | .buildSlice t n ps=>bS (mBuildV P t n (ps.toList.map fun p=>(p.1,e p.2)) G) K
    | .makeSlice t l c=>bS (mMake P t (e l) (e c) G) K
    | .store t a x=>bP (gStore P t (e a) (e x) G) fun G' =>K undef G'
    | .call c=>callE P E e c G K
    | .makeMap _ none=>K (.map (some G.nl)) G.newMap
    | .lookup t x i ok=>bP (gLookup P t (e x) (e i) ok G) fun v=>K v G
    | .mapUpdate t m k v=>bP (gMapPut P t (e m) (e k) (e v) G) fun G' =>K undef G'
    | _=>none
  else none
theorem retV_some {β:Type} (x:Option Value) (G:GS) (K:Value→GS→Option β):bS (retV G x) K=bP x fun v=>K v G:=by cases x<;>rfl
theorem callE_eq {β:Type} (T:List Value) (c:Call) (G:GS) (K:Value→GS→Option β):callE P E (ev T) c G K=bS (opCls P E (cls (.call c)) T G (.call c)) K:=by
  obtain ⟨cal,args,tys⟩:=c
  have hm:(⟨args.toList.map (ev T)⟩:Array Value)=args.map (ev T):=by rw [← Array.toList_map]
  cases cal with
  | value f=>exact callK_eq P E T ⟨.value f,args,tys⟩ G K
  | invoke r n=>exact callK_eq P E T ⟨.invoke r n,args,tys⟩ G K
  | builtin b =>
    cases b
    case append=>exact callK_eq P E T ⟨.builtin .append,args,tys⟩ G K
    case copy=>exact callK_eq P E T ⟨.builtin .copy,args,tys⟩ G K
    case len =>
      show _=bS (retV G (pLen P T ⟨.builtin .len,args,tys⟩)) K
      rw [retV_some]
      simp only [callE,pLen]
      generalize tys[0]? =a
      generalize args.toList=l
      rcases a with _ | ts
      · rfl
      rcases l with _ | ⟨s,_ | ⟨x,l⟩⟩<;>rfl
    case min =>
      show _=bS (retV G (pMin P T ⟨.builtin .min,args,tys⟩)) K
      rw [retV_some]
      simp only [callE,pMin,minV,hm]
    case max =>
      show _=bS (retV G (pMax P T ⟨.builtin .max,args,tys⟩)) K
      rw [retV_some]
      simp only [callE,pMax,maxV,hm]
    all_goals rfl
theorem opE_eq {β:Type} (op:Op) (T:List Value) (G:GS) (K:Value→GS→Option β):opE P E (ev T) op G K=opK P E op T G K:=by
  rw [opK_eq]
  unfold opE opStepF
  by_cases hk:opOk op=true
  case neg=>rw [if_neg hk,if_neg hk]; rfl
  rw [if_pos hk,if_pos hk]
  cases op with
  | call c=>exact callE_eq P E T c G K
  | store t a x =>
    show _=bS (wOr P E T (.store t a x) G) K
    simp only [wOr,gWriteF,wStore,gCallF]
    cases gStore P t (ev T a) (ev T x) G<;>rfl
  | makeFunc f a b =>
    cases f with
    | func f =>
      have h:∀ a:Array Operand,(⟨a.toList.map (ev T)⟩:Array Value)=a.map (ev T):=fun a=>by rw [← Array.toList_map]
      simp only [h]
      rfl
    | _=>rfl
  | makeMap t r=>cases r<;>rfl
  | lookup t x i ok =>
    show _=bS (wOr P E T (.lookup t x i ok) G) K
    simp only [wOr,gWriteF,wLook,gCallF]
    cases gLookup P t (ev T x) (ev T i) ok G<;>rfl
  | mapUpdate t m k v =>
    show _=bS (wOr P E T (.mapUpdate t m k v) G) K
    simp only [wOr,gWriteF,wPut,gCallF]
    cases gMapPut P t (ev T m) (ev T k) (ev T v) G<;>rfl
  | _=>first
    | rfl
    | exact (retV_some _ _ _).symm
def seqE {β:Type} (N:Nat) (ops:Array Oper):List Oper→Env→GS→(Env→GS→Option β)→Option β
  | [],τ,G,K=>K τ G
  | o::r,τ,G,K=>match o.guard with
    | none=>opE P E (evE τ) o.op G fun v G' =>seqE N ops r (updO N τ o.dst v) G' K
    | some (j,want)=>bS (gd (match gdst ops j with | some t=>τ t | none=>undef) want (opE P E (evE τ) o.op G fun v G' =>some (v,G')) G) fun v G' =>seqE N ops r (updO N τ o.dst v) G' K
theorem seqE_eq {β:Type} {N:Nat} (ops:Array Oper):∀ (l:List Oper) (T:List Value) (G:GS) (K:Env→GS→Option β),T.length=N →
    seqE P E N ops l (nth undef T) G K=seqK' P E ops l T G fun T' G' =>K (nth undef T') G'
  | [],T,G,K,h=>rfl
  | o::r,T,G,K,h=>by
    have ih:=fun v G' =>seqE_eq ops r (putT T o.dst v) G' K ((length_putT _ _ _).trans h)
    simp only [seqE,seqK']
    cases o.guard with
    | none=>simp only [evE_eq,opE_eq,updO_eq h,ih]
    | some jw =>
      obtain ⟨j,want⟩:=jw
      simp only [evE_eq,opE_eq,updO_eq h,ih]
      rfl
def rdE (e:Operand→Value) (op:Op) (G:GS):Option Value:=match op with
  | .load t x=>gLoadF P t (e x) G
  | .slice t x l h m=>gSlice P t (e x) (l.map e) (h.map e) (m.map e) G
  | _=>none
theorem rdE_eq (T:List Value) (op:Op) (G:GS):rdE P (ev T) op G=gReadF P T op G:=by cases op<;>rfl
def drawE {β:Type} (N:Nat) (ops:Array Oper) (ms:List Nat) (base:Nat):Nat→List Oper→Env→GS→List (Nat×Bool×GS)→List (Nat×(GS→Bool))→(Env→GS→Option β)→Option β
  | _,[],τ,G,_,_,K=>K τ G
  | i,o::r,τ,G,hist,pend,K =>
    match o.guard with
    | none=>match cls o.op with
      | 0=>opE P E (evE τ) o.op G fun v _=>drawE N ops ms base (i+1) r (updO N τ o.dst v) G hist pend K
      | 1=>if opOk o.op then bP (rdE P (evE τ) o.op G) fun v=>chkL (fun h=> !h.1||sameO (rdE P (evE τ) o.op h.2) v) (hotL (nth 0 ms i) hist)
          (drawE N ops ms base (i+1) r (updO N τ o.dst v) G hist ((i,fun G' =>sameO (rdE P (evE τ) o.op G') v)::pend) K) else none
      | 2=>opE P E (evE τ) o.op (G.at' (base+i)) fun v G' =>drawE N ops ms base (i+1) r (updO N τ o.dst v) (G'.back G) hist pend K
      | _=>opE P E (evE τ) o.op G fun v G' =>chkL (fun c=>c G') (hotL (nth 0 ms i) pend) (drawE N ops ms base (i+1) r (updO N τ o.dst v) G' ((i,true,G)::hist) pend K)
    | some (j,want)=>match cls o.op with
      | 0=>bS (gd (match gdst ops j with | some t=>τ t | none=>undef) want (opE P E (evE τ) o.op G fun v G' =>some (v,G')) G) fun v _=>drawE N ops ms base (i+1) r (updO N τ o.dst v) G hist pend K
      | 1=>bS (gd (match gdst ops j with | some t=>τ t | none=>undef) want (if opOk o.op then bP (rdE P (evE τ) o.op G) fun v=>some (v,G) else none) G) fun v _ =>
          chkL (fun h=> !(gB (match gdst ops j with | some t=>τ t | none=>undef) want)||(!h.1||sameO (rdE P (evE τ) o.op h.2) v)) (hotL (nth 0 ms i) hist)
          (drawE N ops ms base (i+1) r (updO N τ o.dst v) G hist ((i,fun G' => !(gB (match gdst ops j with | some t=>τ t | none=>undef) want)||sameO (rdE P (evE τ) o.op G') v)::pend) K)
      | 2=>bS (gd (match gdst ops j with | some t=>τ t | none=>undef) want (opE P E (evE τ) o.op (G.at' (base+i)) fun v G' =>some (v,G'.back G)) G) fun v G' =>drawE N ops ms base (i+1) r (updO N τ o.dst v) G' hist pend K
      | _=>bS (gd (match gdst ops j with | some t=>τ t | none=>undef) want (opE P E (evE τ) o.op G fun v G' =>some (v,G')) G) fun v G' =>
          chkL (fun c=> !(gB (match gdst ops j with | some t=>τ t | none=>undef) want)||c G') (hotL (nth 0 ms i) pend) (drawE N ops ms base (i+1) r (updO N τ o.dst v) G' ((i,gB (match gdst ops j with | some t=>τ t | none=>undef) want,G)::hist) pend K)
def HistR (hl:List (Nat×Bool×GS)) (hl' :List (Nat×GS)):Prop:=∀ (m:Nat) (f:GS→Bool),((hotL m hl).all fun h=> !h.1||f h.2)=hl'.all fun h=>m.testBit h.1||f h.2
def PendR (pl:List (Nat×(GS→Bool))) (pl' :List Pend):Prop:=∀ (m:Nat) (G' :GS),((hotL m pl).all fun c=>c G')=pl'.all fun p=>m.testBit p.i||sameO (gReadF P p.T p.op G') p.v
theorem HistR.yes {hl:List (Nat×Bool×GS)} {hl' :List (Nat×GS)} (h:HistR hl hl') (i:Nat) (G:GS):HistR ((i,true,G)::hl) ((i,G)::hl'):=fun m f=>by
  have:=h m f
  rw [hot_all] at this ⊢
  simp only [List.all_cons,this,Bool.not_true,Bool.false_or]
theorem HistR.no {hl:List (Nat×Bool×GS)} {hl' :List (Nat×GS)} (h:HistR hl hl') (i:Nat) (G:GS):HistR ((i,false,G)::hl) hl' :=fun m f=>by
  have:=h m f
  rw [hot_all] at this ⊢
  simp only [List.all_cons,this,Bool.not_false,Bool.true_or,Bool.or_true,Bool.true_and]
variable {P} in
theorem PendR.yes {pl:List (Nat×(GS→Bool))} {pl' :List Pend} (h:PendR P pl pl') (i:Nat) (T:List Value) (op:Op) (v:Value) (c:GS→Bool) (hc:∀ G,c G=sameO (gReadF P T op G) v):PendR P ((i,c)::pl) (⟨i,T,op,v⟩::pl'):=fun m G' =>by
  have:=h m G'
  rw [hot_all] at this ⊢
  simp only [List.all_cons,this,hc]
variable {P} in
theorem PendR.no {pl:List (Nat×(GS→Bool))} {pl' :List Pend} (h:PendR P pl pl') (i:Nat) (c:GS→Bool) (hc:∀ G,c G=true):PendR P ((i,c)::pl) pl' :=fun m G' =>by
  have:=h m G'
  rw [hot_all] at this ⊢
  simp only [List.all_cons,this,hc,Bool.or_true,Bool.true_and]
theorem drawE_eq {β:Type} {N:Nat} (ops:Array Oper) (ms:List Nat) (base:Nat):∀ (l:List Oper) (i:Nat) (T:List Value) (G:GS) (hist:List (Nat×Bool×GS)) (hist' :List (Nat×GS)) (pend:List (Nat×(GS→Bool))) (pend' :List Pend) (K:Env→GS→Option β),T.length=N→HistR hist hist' →PendR P pend pend' →
    drawE P E N ops ms base i l (nth undef T) G hist pend K=match drawOpsF P E ops ms base i l T G hist' pend' with | some (T',G')=>K (nth undef T') G' | none=>none
  | [],i,T,G,hist,hist',pend,pend',K,h,hh,hp=>rfl
  | o::r,i,T,G,hist,hist',pend,pend',K,h,hh,hp=>by
    have ih:=fun v G' hist hist' pend pend' =>drawE_eq ops ms base r (i+1) (putT T o.dst v) G' hist hist' pend pend' K ((length_putT _ _ _).trans h)
    have hop:opOk o.op=true→∀ (G:GS) (K' :Value→GS→Option β),opE P E (ev T) o.op G K' =bS (opCls P E (cls o.op) T G o.op) K' :=fun hk G K' =>by rw [opE_eq,opK_eq]; unfold opStepF; rw [if_pos hk]
    have hopS:opOk o.op=true→∀ (G:GS) (K' :Value→GS→Option (Value×GS)),opE P E (ev T) o.op G K' =bS (opCls P E (cls o.op) T G o.op) K' :=fun hk G K' =>by rw [opE_eq,opK_eq]; unfold opStepF; rw [if_pos hk]
    have hno:opOk o.op=false→∀ (γ:Type) (e:Operand→Value) (G:GS) (K' :Value→GS→Option γ),opE P E e o.op G K' =none:=fun hk γ e G K' =>by unfold opE; rw [hk]; rfl
    simp only [drawE,drawOpsF,dStep,evE_eq,updO_eq h]
    cases hg:o.guard with
    | none =>
      have hw:gWanted ops T o=true:=by simp [gWanted,hg]
      simp only [hw,if_true]
      by_cases hk:opOk o.op=true
      case neg =>
        have hk' :opOk o.op=false:=by simpa using hk
        simp only [hk',hno hk',Bool.false_eq_true,if_false]
        split<;>rfl
      have hop' :=hop hk
      simp only [hk,if_true]
      unfold dCls
      generalize hc:cls o.op=n at hop' ⊢
      match n with
      | 0 =>
        simp only [hop',d0,opCls,retV]
        cases gPureF P T o.op with
        | none=>rfl
        | some v=>exact ih _ _ _ _ _ _ hh hp
      | 1 =>
        simp only [d1,rdE_eq]
        cases gReadF P T o.op G with
        | none=>rfl
        | some v =>
          have:=hh (nth 0 ms i) fun G=>sameO (gReadF P T o.op G) v
          simp only [bP_some,chkL_eq,this]
          split
          · exact ih _ _ _ _ _ (⟨i,T,o.op,v⟩::pend') hh (hp.yes i T o.op v _ fun G=>rfl)
          · rfl
      | 2 =>
        simp only [hop',d2,opCls]
        show (bS (gMakeF P T o.op { G with nx:=base+i }) _)=_
        rcases gMakeF P T o.op { G with nx:=base+i } with _ | ⟨v,G'⟩
        · rfl
        · exact ih _ _ _ _ _ _ hh hp
      | n+3 =>
        simp only [hop',d3,opCls]
        rcases wOr P E T o.op G with _ | ⟨v,G'⟩
        · rfl
        · have:=hp (nth 0 ms i) G'
          simp only [bS_some,chkL_eq,this]
          split
          · exact ih _ _ _ _ _ _ (hh.yes i G) hp
          · rfl
    | some jw =>
      obtain ⟨j,want⟩:=jw
      have hw:gWanted ops T o=gB (gval T (gdst ops j)) want:=by simp only [gWanted,hg]; exact wanted_eq ops T j want
      have hv:(match gdst ops j with | some t=>nth undef T t | none=>undef)=gval T (gdst ops j):=rfl
      simp only [hw,hv,gd]
      by_cases hb:gB (gval T (gdst ops j)) want=true
      case neg =>
        have hb' :gB (gval T (gdst ops j)) want=false:=by simpa using hb
        simp only [hb',Bool.false_eq_true,if_false,bS_some,chkL_eq,Bool.not_false,Bool.true_or,List.all_eq_true,implies_true,if_true]
        split
        · exact ih _ _ _ _ _ _ hh hp
        · exact ih _ _ _ _ _ _ hh (hp.no i _ fun _=>rfl)
        · exact ih _ _ _ _ _ _ hh hp
        · exact ih _ _ _ _ _ _ (hh.no i G) hp
      simp only [hb,if_true,Bool.not_true,Bool.false_or]
      by_cases hk:opOk o.op=true
      case neg =>
        have hk' :opOk o.op=false:=by simpa using hk
        simp only [hk',hno hk',Bool.false_eq_true,if_false]
        split<;>rfl
      have hop' :=hopS hk
      simp only [hk,if_true]
      unfold dCls
      generalize hc:cls o.op=n at hop' ⊢
      match n with
      | 0 =>
        simp only [hop',d0,opCls,retV]
        cases gPureF P T o.op with
        | none=>rfl
        | some v=>exact ih _ _ _ _ _ _ hh hp
      | 1 =>
        simp only [d1,rdE_eq]
        cases gReadF P T o.op G with
        | none=>rfl
        | some v =>
          have:=hh (nth 0 ms i) fun G=>sameO (gReadF P T o.op G) v
          simp only [bP_some,bS_some,chkL_eq,this]
          split
          · exact ih _ _ _ _ _ (⟨i,T,o.op,v⟩::pend') hh (hp.yes i T o.op v _ fun G=>rfl)
          · rfl
      | 2 =>
        simp only [hop',d2,opCls]
        show (bS (bS (gMakeF P T o.op { G with nx:=base+i }) _) _)=_
        rcases gMakeF P T o.op { G with nx:=base+i } with _ | ⟨v,G'⟩
        · rfl
        · exact ih _ _ _ _ _ _ hh hp
      | n+3 =>
        simp only [hop',d3,opCls]
        rcases wOr P E T o.op G with _ | ⟨v,G'⟩
        · rfl
        · have:=hp (nth 0 ms i) G'
          simp only [bS_some,chkL_eq,this]
          split
          · exact ih _ _ _ _ _ _ (hh.yes i G) hp
          · rfl
def blockE {β:Type} (id:Nat) (K:Exit→Env→GS→Option β) (e:Exit) (τ:Env) (G:GS):Option β:=match e with
  | .exit id' =>bif Nat.beq id' id then K .normal τ G else K (.exit id') τ G
  | e=>K e τ G
def seqXE {β:Type} (b:Env→GS→Option β) (K:Exit→Env→GS→Option β) (e:Exit) (τ:Env) (G:GS):Option β:=match e with
  | .normal=>b τ G
  | e=>K e τ G
def dispE {β:Type} (l:List Exit) (e:Exit) (τ:Env) (G:GS) (K:Exit→Env→GS→Option β):Option β:=match l with
  | []=>none
  | x::r=>ifE e x (K x τ G) (dispE r e τ G K)
theorem dispE_eq {β:Type} (e:Exit) (T:List Value) (G:GS) (K:Exit→Env→GS→Option β):∀ l:List Exit,dispE l e (nth undef T) G K=disp l e T G fun e T' G' =>K e (nth undef T') G'
  | []=>rfl
  | x::r=>by simp only [dispE,disp,dispE_eq e T G K r]
def scopeE {β:Type} (N:Nat) (b:Code) (K:Exit→Env→GS→Option β) (e:Exit) (τ:Env) (G:GS):Option β:=match e with
  | .goto l=>match findLabel b l with
    | some rest=>bX (E.sc b rest (lst N τ) G) fun e T2 G2=>dispE (.normal::exs b) e (nth undef T2) G2 K
    | none=>K (.goto l) τ G
  | e=>K e τ G
def sxE {β:Type} (N:Nat):Code→Env→GS→(Exit→Env→GS→Option β)→Option β
  | .skip,τ,G,K=>K .normal τ G
  | .label _,τ,G,K=>K .normal τ G
  | .seq a b,τ,G,K=>sxE N a τ G (seqXE (fun τ G=>sxE N b τ G K) K)
  | .cond x a b,τ,G,K=>if okX x then ifV (evE τ x) (sxE N a τ G K) (sxE N b τ G K) else none
  | .block id b,τ,G,K=>sxE N b τ G (blockE id K)
  | .loop b,τ,G,K=>bX (E.lp b (lst N τ) G) fun e T' G' =>dispE (exs b) e (nth undef T') G' K
  | .exit id,τ,G,K=>K (.exit id) τ G
  | .goto l,τ,G,K=>K (.goto l) τ G
  | .ret,τ,G,K=>K .ret τ G
  | .scope b,τ,G,K=>sxE N b τ G (scopeE E N b K)
  | .region _ ops draw,τ,G,K =>
    if draw then
      if dOk ops then
        drawE P E N ops (masks ops.toList []) G.nx 0 ops.toList τ (G.room ops.size) [] [] fun τ G=>K .normal τ G
      else none
    else seqE P E N ops ops.toList τ G fun τ G=>K .normal τ G
  | .rangeFunc f ps assign body,τ,G,K=>if okX f then bX (xRange E (evE τ f) ps assign body (lst N τ) G) fun e T' G' =>dispE (.normal::exs body) e (nth undef T') G' K else none
  | .refuse _,_,_,_=>none
theorem disp_relist {β:Type} {N:Nat} {E' :Option (Exit×List Value×GS)} (l:List Exit) (K:Exit→Env→GS→Option β) (h:∀ e T' G',E' =some (e,T',G')→T'.length=N) :
    (bX E' fun e T' G' =>dispE l e (nth undef T') G' K)=bX E' fun e T' G' =>disp l e (relist N T') G' fun e T' G' =>K e (nth undef T') G' :=by
  rcases E' with _ | ⟨e,T',G'⟩
  · rfl
  · simp only [bX_some,relist_eq (h _ _ _ rfl),dispE_eq]
theorem sxE_eq {β:Type} {N:Nat} (hE:E.Len):∀ (c:Code) (T:List Value) (G:GS) (K:Exit→Env→GS→Option β),T.length=N →
    sxE P E N c (nth undef T) G K=sxD P E N c T G fun e T' G' =>K e (nth undef T') G' :=by
  intro c
  -- a continuation is asked for temps of that number alone
  have mono:∀ (c:Code) (T:List Value) (G:GS) (K K' :Exit→List Value→GS→Option β),T.length=N→(∀ e T' G',T'.length=N→K e T' G' =K' e T' G')→sxD P E N c T G K=sxD P E N c T G K' :=by
    intro c
    have hd:∀ (l:List Exit) (e:Exit) (T:List Value) (G:GS) (K K' :Exit→List Value→GS→Option β),T.length=N→(∀ e T' G',T'.length=N→K e T' G' =K' e T' G')→disp l e T G K=disp l e T G K' :=by
      intro l
      induction l with
      | nil=>intros; rfl
      | cons x r ih=>intro e T G K K' h hK; simp only [disp,hK _ _ _ h,ih e T G K K' h hK]
    induction c with
    | seq a b iha ihb =>
      intro T G K K' h hK
      refine iha T G _ _ h fun e T' G' h' => ?_
      cases e with
      | normal=>exact ihb T' G' K K' h' hK
      | _=>exact hK _ _ _ h'
    | cond x a b iha ihb =>
      intro T G K K' h hK
      simp only [sxD,iha T G K K' h hK,ihb T G K K' h hK]
    | block id b ih =>
      intro T G K K' h hK
      refine ih T G _ _ h fun e T' G' h' => ?_
      cases e with
      | exit id' =>simp only [blockK,hK _ _ _ h']
      | _=>exact hK _ _ _ h'
    | loop b ih =>
      intro T G K K' h hK
      simp only [sxD]
      rcases hx:E.lp b T G with _ | ⟨e,T',G'⟩
      · rfl
      · exact hd _ _ _ _ _ _ ((congrArg List.length (relist_eq ((hE.lp _ _ _ _ _ _ hx).trans h))).trans ((hE.lp _ _ _ _ _ _ hx).trans h)) hK
    | scope b ih =>
      intro T G K K' h hK
      refine ih T G _ _ h fun e T' G' h' => ?_
      cases e with
      | goto l =>
        simp only [scopeD]
        cases findLabel b l with
        | none=>exact hK _ _ _ h'
        | some rest =>
          simp only
          rcases hx:E.sc b rest T' G' with _ | ⟨e,T2,G2⟩
          · rfl
          · exact hd _ _ _ _ _ _ ((congrArg List.length (relist_eq ((hE.sc _ _ _ _ _ _ _ hx).trans h'))).trans ((hE.sc _ _ _ _ _ _ _ hx).trans h')) hK
      | _=>exact hK _ _ _ h'
    | region id ops draw =>
      intro T G K K' h hK
      have hxd:∀ e T' G',xDraw P E ops T G=some (e,T',G')→T'.length=N:=by
        intro e T' G' hx
        unfold xDraw xNorm at hx
        split at hx
        · split at hx
          · rename_i hd
            cases hx
            exact (len_drawOps P _ _ _ _ _ _ _ _ _ _ _ _ hd).trans h
          · cases hx
        · cases hx
      simp only [sxD]
      split
      · split
        · split
          · rename_i hn
            have h1:=fun K=>drawK_eq (β:=β) P E ops (masks ops.toList []) G.nx ops.toList 0 T { G with nx:=G.nx+ops.size } [] [] K hn
            simp only [List.map_nil] at h1
            rw [h1,h1]
            rcases hy:drawOpsF P E ops (masks ops.toList []) G.nx 0 ops.toList T { G with nx:=G.nx+ops.size } [] [] with _ | ⟨T',G'⟩
            · rfl
            · exact hK _ _ _ ((len_drawOps P _ _ _ _ _ _ _ _ _ _ _ _ hy).trans h)
          · rcases hx:xDraw P E ops T G with _ | ⟨e,T',G'⟩
            · rfl
            · exact hd _ _ _ _ _ _ ((congrArg List.length (relist_eq (hxd _ _ _ hx))).trans (hxd _ _ _ hx)) hK
        · rfl
      · rw [seqK'_eq,seqK'_eq]
        rcases hy:seqOpsF P E ops ops.toList T G with _ | ⟨T',G'⟩
        · rfl
        · exact hK _ _ _ ((len_seqOps P _ _ _ _ _ _ _ hy).trans h)
    | rangeFunc f ps assign body iha ihb =>
      intro T G K K' h hK
      simp only [sxD]
      split
      · rcases hx:xRange E (ev T f) ps assign body T G with _ | ⟨e,T',G'⟩
        · rfl
        · have hl:T'.length=N:=by
            unfold xRange xRangeEnd at hx
            split at hx
            · split at hx
              · split at hx
                · split at hx
                  · cases hx
                  · split at hx
                    · cases hx; exact h
                    · cases hx
                · cases hx
              · cases hx
            · cases hx
          exact hd _ _ _ _ _ _ ((congrArg List.length (relist_eq hl)).trans hl) hK
      · rfl
    | refuse w=>intros; rfl
    | _=>intro T G K K' h hK; exact hK _ _ _ h
  induction c with
  | skip=>intros; rfl
  | label l=>intros; rfl
  | exit l=>intros; rfl
  | goto l=>intros; rfl
  | ret=>intros; rfl
  | refuse w=>intros; rfl
  | seq a b iha ihb =>
    intro T G K h
    simp only [sxE,sxD]
    rw [iha T G _ h]
    refine mono a T G _ _ h fun e T' G' h' => ?_
    cases e with
    | normal=>exact ihb T' G' K h'
    | _=>rfl
  | cond x a b iha ihb =>
    intro T G K h
    simp only [sxE,sxD,evE_eq,iha T G K h,ihb T G K h]
  | block id b ih =>
    intro T G K h
    simp only [sxE,sxD]
    rw [ih T G _ h]
    refine mono b T G _ _ h fun e T' G' h' => ?_
    cases e with
    | exit id' =>
      simp only [blockE,blockK]
      by_cases he:id' =id
      · subst he; simp [Nat.beq_refl]
      · have:Nat.beq id' id=false:=by
          cases hb:Nat.beq id' id
          · rfl
          · exact absurd (Nat.eq_of_beq_eq_true hb) he
        simp [this,he]
    | _=>rfl
  | loop b ih =>
    intro T G K h
    simp only [sxE,sxD,lst_eq h]
    exact disp_relist _ K fun e T' G' hx=>(hE.lp _ _ _ _ _ _ hx).trans h
  | scope b ih =>
    intro T G K h
    simp only [sxE,sxD]
    rw [ih T G _ h]
    refine mono b T G _ _ h fun e T' G' h' => ?_
    cases e with
    | goto l =>
      simp only [scopeE,scopeD]
      cases findLabel b l with
      | none=>rfl
      | some rest =>
        simp only [lst_eq h']
        exact disp_relist _ K fun e T2 G2 hx=>(hE.sc _ _ _ _ _ _ _ hx).trans h'
    | _=>rfl
  | region id ops draw =>
    intro T G K h
    simp only [sxE,sxD]
    split
    · split
      · split
        · rename_i hn
          have h1:=drawK_eq P E ops (masks ops.toList []) G.nx ops.toList 0 T { G with nx:=G.nx+ops.size } [] [] (fun T' G' =>K .normal (nth undef T') G') hn
          rw [List.map_nil] at h1
          rw [h1]
          exact drawE_eq P E ops _ _ _ _ _ _ _ [] _ [] _ h (fun _ _=>rfl) (fun _ _=>rfl)
        · rename_i hdok hn
          refine (drawE_eq P E ops _ _ _ _ _ _ _ [] _ [] _ h (fun _ _=>rfl) (fun _ _=>rfl)).trans ?_
          have hx:xDraw P E ops T G=xNorm (drawOpsF P E ops (masks ops.toList []) G.nx 0 ops.toList T { G with nx:=G.nx+ops.size } [] []):=by unfold xDraw; rw [if_pos hdok]
          rw [hx]
          show (match drawOpsF P E ops (masks ops.toList []) G.nx 0 ops.toList T { G with nx:=G.nx+ops.size } [] [] with | some (T',G')=>K .normal (nth undef T') G' | none=>none)=_
          rcases hd:drawOpsF P E ops (masks ops.toList []) G.nx 0 ops.toList T { G with nx:=G.nx+ops.size } [] [] with _ | ⟨T',G'⟩
          · rfl
          · simp only [xNorm,bX_some,disp,ifE_normal,relist_eq ((len_drawOps P _ _ _ _ _ _ _ _ _ _ _ _ hd).trans h)]
      · rfl
    · exact seqE_eq P E ops _ _ _ _ h
  | rangeFunc f ps assign body iha ihb =>
    intro T G K h
    simp only [sxE,sxD,evE_eq,lst_eq h]
    split
    · refine disp_relist _ K fun e T' G' hx=> ?_
      unfold xRange xRangeEnd at hx
      split at hx
      · split at hx
        · split at hx
          · split at hx
            · cases hx
            · split at hx
              · cases hx; exact h
              · cases hx
          · cases hx
        · cases hx
      · cases hx
    · rfl
def resE {β:Type} (τ:Env) (G:GS):List ResultVar→(List Value→Option β)→Option β
  | [],K=>K []
  | .tmp t::r,K=>resE τ G r fun l=>K (τ t::l)
  | .cell a t::r,K=>bP (gLoadF P t (τ a) G) fun v=>resE τ G r fun l=>K (v::l)
theorem resE_eq {β:Type} (T:List Value) (G:GS):∀ (l:List ResultVar) (K:List Value→Option β),resE P (nth undef T) G l K=resK P T G l K
  | [],K=>rfl
  | .tmp t::r,K=>by simp only [resE,resK,resE_eq T G r]
  | .cell a t::r,K=>by simp only [resE,resK,resE_eq T G r]
def retE (results:List ResultVar) (e:Exit) (τ:Env) (G:GS):Option (Value×GS):=if isLeave e then resE P τ G results fun l=>some (oneOr l,G) else none
def flat:Code→Bool
  | .seq a b=>flat a&&flat b
  | .cond _ a b=>flat a&&flat b
  | .block _ b=>flat b
  | .region _ ops draw=> !draw||noGuards ops.toList
  | .loop _=>false
  | .scope _=>false
  | .rangeFunc .. =>false
  | _=>true
end
section
variable (P:Program) (orc:FuncId→Bool)
theorem nth_rep (vs:List Value) (k:Nat):nth undef (vs++List.replicate k undef)=nth undef vs:=by
  funext j
  rw [nth_eq,nth_eq]
  simp only [List.getD_eq_getElem?_getD,List.getElem?_append,List.getElem?_replicate]
  split
  · rfl
  · rw [List.getElem?_eq_none (by omega)]
    split<;>rfl
theorem len_rep {vs:List Value} {n:Nat} (hl:Nat.ble vs.length n=true):(vs++List.replicate (n - vs.length) undef).length=n:=by
  have:=Nat.le_of_ble_eq_true hl; simp; omega
theorem retE_eq (T:List Value) (rs:List ResultVar) (e:Exit) (G:GS):retE P rs e (nth undef T) G=retK P rs e T G:=by
  unfold retE retK
  rw [resE_eq]
theorem cl_sxE_some {f:FuncId} {fn:Func} {vs:List Value} (G:GS) (hf:P.funcs[f]? =some fn) (hn:(fn.name == "runtime.NumGoroutine")=false) (hb:fn.body.isSome=true) (ho:(vs.isEmpty&&orc f)=false) (hp:isPur P orc f=false) (hl:Nat.ble vs.length fn.ntmps=true)
    {x:Option (Value×GS)} {r:Value×GS} (hx:sxE P (evL P orc) fn.ntmps (bodyOf fn) (nth undef vs) G (retE P fn.results.toList)=x) (h:x=some r):(evL P orc).cl f vs G=some r:=by
  refine cl_sxD P orc G hf hn hb ho hp hl ?_ (hx.trans h)
  rw [← nth_rep vs (fn.ntmps - vs.length),sxE_eq P (evL P orc) (len_evL P orc) _ _ _ _ (len_rep hl)]
  simp only [retE_eq]
theorem sc_sxE {b c:Code} {N:Nat} {T:List Value} (G:GS) (h:T.length=N) {x:Option (Exit×List Value×GS)} {r:Exit×List Value×GS}
    (hx:sxE P (evL P orc) N c (nth undef T) G (scopeE (evL P orc) N b fun e τ G' =>some (e,lst N τ,G'))=x) (hr:x=some r):(evL P orc).sc b c T G=some r:=by
  have h1:=hx.trans hr
  rw [sxE_eq P (evL P orc) (len_evL P orc) _ _ _ _ h] at h1
  replace h1:=sxD_some P orc _ _ _ _ _ h h1
  rw [evL_sc,stepSc]
  rcases hy:(evL P orc).ex c T G with _ | ⟨e,T',G'⟩
  · rw [hy] at h1; exact h1
  · rw [hy] at h1
    have hl:=((len_evL P orc).ex _ _ _ _ _ _ hy).trans h
    cases e with
    | goto l =>
      simp only [bX_some,scopeE] at h1
      simp only
      cases hf:findLabel b l with
      | none=>rw [hf] at h1; simpa only [lst_eq hl] using h1
      | some rest =>
        rw [hf] at h1
        simp only [lst_eq hl] at h1
        show (evL P orc).sc b rest T' G' =some r
        rcases hz:(evL P orc).sc b rest T' G' with _ | ⟨e2,T2,G2⟩
        · rw [hz] at h1; exact h1
        · rw [hz] at h1
          have hl2:=((len_evL P orc).sc _ _ _ _ _ _ _ hz).trans hl
          simp only [bX_some,dispE_eq] at h1
          have:=disp_some h1
          simpa only [lst_eq hl2] using this
    | _=>simpa only [bX_some,scopeE,lst_eq hl] using h1
def setParE (N:Nat):List Nat→List Value→Env→Env
  | p::ps,v::vs,τ=>setParE N ps vs (updE N τ p v)
  | _,_,τ=>τ
theorem setParE_eq {N:Nat}:∀ (ps:List Nat) (vs T:List Value),T.length=N→setParE N ps vs (nth undef T)=nth undef (setParams ps vs T)
  | [],vs,T,h=>by cases vs<;>rfl
  | p::ps,[],T,h=>rfl
  | p::ps,v::vs,T,h=>by
    simp only [setParE,setParams,updE_eq h]
    exact setParE_eq ps vs _ ((length_setT _ _ _).trans h)
theorem rd_sxE {l N:Nat} {vs:List Value} {G:GS} {st:LoopState} {pend:Option Code} {T:List Value} {ps:List Nat} {assign body:Code} (hl:G.loop l=some ⟨st,pend,T,ps,assign,body⟩) (hp:ps.length=vs.length) (hT:T.length=N)
    {x:Option (Value×GS)} {r:Value×GS} (hx:sxE P (evL P orc) N assign (setParE N ps vs (nth undef T)) G (seqXE (fun τ G1=>bP (G1.loop l) fun r1=>if r1.st= .ready then sxE P (evL P orc) N body τ (G1.putLoop l (r1.setSt .busy)) (fun e _ G2=>roundEnd l e G2) else none) fun _ _ _=>none)=x) (hr:x=some r) :
    (evL P orc).rd l vs G=some r:=by
  have hL:=len_evL P orc
  have h1:=hx.trans hr
  have hl0:(setParams ps vs T).length=N:=(length_setParams _ _ _).trans hT
  rw [setParE_eq _ _ _ hT,sxE_eq P (evL P orc) hL _ _ _ _ hl0] at h1
  replace h1:=sxD_some P orc _ _ _ _ _ hl0 h1
  rw [rd_sx P orc hl hp hT,sx_eq P orc _ _ _ _ hl0]
  rcases hy:(evL P orc).ex assign (setParams ps vs T) G with _ | ⟨e,T1,G1⟩
  · rw [hy] at h1; exact h1
  · rw [hy] at h1
    have hl1:=(hL.ex _ _ _ _ _ _ hy).trans hl0
    cases e with
    | normal =>
      simp only [bX_some,seqX,seqXE,roundBody] at h1 ⊢
      cases hg:G1.loop l with
      | none=>rw [hg] at h1; exact h1
      | some r1 =>
        rw [hg] at h1
        simp only [bP_some] at h1 ⊢
        split at h1
        · rename_i hst
          rw [if_pos hst,sx_eq P orc _ _ _ _ hl1]
          rw [sxE_eq P (evL P orc) hL _ _ _ _ hl1] at h1
          exact sxD_some P orc _ _ _ _ _ hl1 h1
        · cases h1
    | _=>exact h1
end
def subAt:List Nat→Code→Code
  | [],c=>c
  | n::r,c=>match c with
    | .seq a b=>match n with | 0=>subAt r a | _=>subAt r b
    | .cond _ a b=>match n with | 0=>subAt r a | _=>subAt r b
    | .block _ b=>subAt r b
    | .loop b=>subAt r b
    | .scope b=>subAt r b
    | .rangeFunc _ _ a b=>match n with | 0=>subAt r a | _=>subAt r b
    | c=>c
def labelAt (l:Nat) (c:Code):Code:=match findLabel c l with | some r=>r | none=> .skip
def GS.cell (G:GS) (b o:Nat):Option Value:=match G.obj b with | some ob=>if ob.mode=2 then none else ob.cells[o]? | none=>none
def GS.cellsAt (G:GS) (b o n:Nat):Option (List Value):=match G.obj b with | some ob=>if ob.mode=2 then none else (if o+n≤ob.cells.length then some ((ob.cells.drop o).take n) else none) | none=>none
theorem takeN_full {α:Type}:∀ (n:Nat) (l:List α),takeN n l=if n≤l.length then some (l.take n) else none
  | 0,l=>by simp [takeN_zero]
  | n+1,[]=>by simp [takeN_nil]
  | n+1,x::xs=>by
    rw [takeN_succ,takeN_full n xs]
    by_cases h:n≤xs.length<;>simp [h]
theorem rdN_eq (G:GS) (b o n:Nat) (hn:0<n):rdN G b o n=G.cellsAt b o n:=by
  unfold rdN GS.cellsAt
  cases G.obj b with
  | none=>rfl
  | some ob =>
    simp only
    split
    · rfl
    · rw [takeN_full,dropN_eq,List.length_drop]
      by_cases h:o+n≤ob.cells.length
      · rw [if_pos h,if_pos (by omega)]
      · rw [if_neg h,if_neg (by omega)]
theorem loadOne_eq (b o:Nat) (G:GS):loadOne b o G=G.cell b o:=by
  unfold loadOne
  rw [rdN_eq _ _ _ _ (by omega)]
  unfold GS.cellsAt GS.cell
  cases G.obj b with
  | none=>rfl
  | some ob =>
    simp only
    by_cases hm:ob.mode=2
    · rw [if_pos hm,if_pos hm]
    · rw [if_neg hm,if_neg hm]
      by_cases h:o+1≤ob.cells.length
      · rw [if_pos h]
        have h' :o<ob.cells.length:=by omega
        rw [List.getElem?_eq_getElem h',List.drop_eq_getElem_cons h']
        rfl
      · rw [if_neg h,List.getElem?_eq_none (by omega)]
def loadA (n b o:Nat) (G:GS):Option Value:=match rdN G b o n with | some l=>some (.agg ⟨l⟩) | none=>none
def storeN (n b o:Nat) (v:Value) (G:GS):Option GS:=if v.cells.size=n then wrN G b o v.cells.toList else none
def overw {α:Type} (l:List α) (o:Nat) (vs:List α):List α:=l.take o++vs++l.drop (o+vs.length)
theorem splice_full {α:Type}:∀ (l:List α) (o:Nat) (vs:List α),splice l o vs=if o+vs.length≤l.length then some (overw l o vs) else none
  | l,0,[]=>by simp [splice_end,overw]
  | [],n+1,vs=>by cases vs<;>simp [splice_nil]
  | [],0,_::_=>by simp [splice_none]
  | x::xs,n+1,vs=>by
    rw [splice_succ,splice_full xs n vs]
    have e:n+1+vs.length≤(x::xs).length↔n+vs.length≤xs.length:=by simp; omega
    by_cases h:n+vs.length≤xs.length
    · rw [if_pos h,if_pos (e.2 h)]
      simp [overw,Nat.add_right_comm]
    · rw [if_neg h,if_neg (fun h' =>h (e.1 h'))]
  | x::xs,0,v::vs=>by
    rw [splice_put,splice_full xs 0 vs]
    have e:0+(v::vs).length≤(x::xs).length↔0+vs.length≤xs.length:=by simp
    by_cases h:0+vs.length≤xs.length
    · rw [if_pos h,if_pos (e.2 h)]
      simp [overw]
    · rw [if_neg h,if_neg (fun h' =>h (e.1 h'))]
theorem overw_one {α:Type}:∀ (l:List α) (o:Nat) (v:α),o<l.length→overw l o [v]=l.set o v
  | [],o,v,h=>by simp at h
  | x::xs,0,v,h=>by simp [overw]
  | x::xs,o+1,v,h=>by
    have:=overw_one xs o v (by simpa using h)
    simp only [overw,List.length_singleton] at this ⊢
    simp [this,Nat.add_right_comm]
def GObj.over (ob:GObj) (o:Nat) (vs:List Value):GObj:={ ob with cells:=overw ob.cells o vs }
def GObj.set (ob:GObj) (o:Nat) (v:Value):GObj:={ ob with cells:=ob.cells.set o v }
theorem wrN_of {G:GS} {b o:Nat} {vs:List Value} {ob:GObj} (h:G.obj b=some ob) (hm:ob.mode=1) (hv:vs.all one=true) (hl:o+vs.length≤ob.cells.length):wrN G b o vs=some (G.put b (ob.over o vs)):=by
  unfold wrN
  rw [h]
  simp [hm,hv,splice_full,hl,GObj.over]
def fillC:List Value→List (Nat×Nat×Value)→Option (List Value)
  | cells,[]=>some cells
  | cells,(off,size,v)::rest=>if v.cells.size=size then (match splice cells off v.cells.toList with | some c=>fillC c rest | none=>none) else none
def fillL (z:List Value) (l:List (Nat×Nat×Value)):Option Value:=match fillC z l with | some c=>some (.agg ⟨c⟩) | none=>none
def fillS (z:List Value) (l:List (Nat×Nat×Value)) (len s:Nat) (G:GS):Option (Value×GS):=match fillC z l with | some c=>some (.slice (some ⟨G.nx,0,none⟩) len len,newBlk G c s) | none=>none
def zs (n:Nat) (v:Value):List Value:=Nat.rec (motive:=fun _=>List Value) [] (fun _ ih=>v::ih) n
@[simp] theorem zs_eq (v:Value):∀ n:Nat,zs n v=List.replicate n v
  | 0=>rfl
  | n+1=>by rw [List.replicate_succ,← zs_eq v n]; rfl
def mkK (size bytes:Nat) (z:List Value) (l c:Int) (G:GS):Option (Value×GS) :=
  if 0 ≤ l ∧ l ≤ c ∧ size ≠ 0 ∧ bytes * c ≤ 2 ^ 48 ∧ IntKind.i64.wrap l = l ∧ IntKind.i64.wrap c = c then
          some (.slice (some ⟨G.nx,0,none⟩) l.toNat c.toNat,newBlk G (rep z c.toNat) size) else none
def appK (isz ib:Nat) (s x:Value) (G:GS):Option (Value×GS) :=
  if isz=0∨ib=0 then none else
      match x with
      | .slice _ n _ =>
        match elems isz n x G with
        | none=>none
        | some new=>if !(new.all one) then none else
          match s with
          | .slice none 0 0 =>
            if n=0 then some (.slice none 0 0,G)
            else if (2*n+1000)*ib≤2 ^ 48 then some (.slice (some ⟨G.nx,0,none⟩) n n,G.push ⟨new,isz,true,1⟩)
            else none
          | .slice (some a) len cap =>
            if n=0 then some (.slice (some a) len cap,G) else
            match G.obj a.block with
            | none=>none
            | some o =>
              if len+n≤cap then
                match wrN G a.block (a.off+len*isz) new with
                | some G' =>some (.slice (some a) (len+n) cap,G')
                | none=>none
              else match rdN G a.block a.off (len*isz) with
                | none=>none
                | some old =>
                  if (2*(len+n)+1000)*ib≤2 ^ 48 then
                    if o.opn&&a.off+cap*o.esz=o.cells.length then
                      if o.mode=1&&o.esz=isz then
                        some (.slice (some ⟨G.nx,0,none⟩) (len+n) (len+n),(G.put a.block { o with mode:=2 }).push ⟨old++new,isz,true,1⟩)
                      else none
                    else some (.slice (some ⟨G.nx,0,none⟩) (len+n) (len+n),G.push ⟨old++new,isz,true,1⟩)
                  else none
          | _=>none
      | _=>none
def slK (s:Nat) (x:Value) (low high max:Option Value) (G:GS):Option Value :=
  match x with
  | .slice none 0 0 =>
    match bound max 0 0 with
    | some m=>match high,max with
      | none,some _=>none
      | _,_=>match bound high 0 m with
        | some h=>match bound low 0 h with
          | some _=>some (.slice none 0 0)
          | none=>none
        | none=>none
    | none=>none
  | .slice (some a) len cap =>
    match G.obj a.block with
    | some o=>if o.opn&&s != o.esz then none else
      match bound max cap cap with
      | some m=>match high,max with
        | none,some _=>none
        | _,_=>match bound high len m with
          | some h=>match bound low 0 h with
            | some l=>if h≤m then some (.slice (some ⟨a.block,a.off+l*s,none⟩) (h - l) (m - l)) else none
            | none=>none
          | none=>none
      | none=>none
    | none=>none
  | _=>none
theorem sl_eq (P:Program) {t e:TypeId} {z:Nat} (h1:P.underlying t=some (.slice e)) (h2:szO P e=some z) (a:Option Addr) (n c:Nat) (lo hi mx:Option Value) (G:GS) :
    gSlice P t (.slice a n c) lo hi mx G=slK z (.slice a n c) lo hi mx G:=by
  unfold gSlice slK
  rw [h1]
  cases a with
  | none=>cases n<;>cases c<;>simp only [h2]<;>rfl
  | some a =>
    simp only [h2]
    cases G.obj a.block<;>rfl
def slA (n s:Nat) (x:Value) (low high max:Option Value):Option Value :=
  match x with
  | .pointer (some a) =>
      match bound max n n with
      | some m=>match high,max with
        | none,some _=>none
        | _,_=>match bound high n m with
          | some h=>match bound low 0 h with
            | some l=>if h≤m then some (.slice (some ⟨a.block,a.off+l*s,none⟩) (h - l) (m - l)) else none
            | none=>none
          | none=>none
      | none=>none
  | _=>none
def cpK (z:Nat) (d s:Value) (G:GS):Option (Value×GS) :=
  match d,s with
    | .slice base dl _,.slice _ sl _ =>
      match elems z (Nat.min sl dl) s G with
      | some new=>match base with
        | none=>some (.int .i64 (Nat.min sl dl),G)
        | some a=>if new=[] then some (.int .i64 (Nat.min sl dl),G) else
          match wrN G a.block a.off new with
          | some G' =>some (.int .i64 (Nat.min sl dl),G')
          | none=>none
      | none=>none
    | _,_=>none
end
end Go.Proofs.YtlaojmcekeohnaaGreatDoor.Gh
