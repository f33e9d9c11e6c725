import Derived.Test.YtkhlabammcghbaaGreatGhM
namespace Go.Proofs.YtkhlabammcghbaaGreat.Gh
open Go
set_option linter.unusedVariables false
set_option linter.unusedSimpArgs false
noncomputable section
theorem yW:∀ (l:List Value) (n:Nat) (v:Value),(nP l n v).length=l.length
  | [],_,_=>by simp [GM]
  | _::_,0,_=>by simp [GN]
  | x::l,n+1,v=>by simp [GO,yW l n v]
theorem tI (T:List Value) (d:Option Tmp) (v:Value):(aW T d v).length=T.length:=by
  cases d with
  | none=>rfl
  | some t=>exact yW T t v
structure Ev.yX (E:Ev):Prop where
  ex:∀ c T G e T' G',E.ex c T G=some (e,T',G')→T'.length=T.length
  sc:∀ b c T G e T' G',E.sc b c T G=some (e,T',G')→T'.length=T.length
  lp:∀ c T G e T' G',E.lp c T G=some (e,T',G')→T'.length=T.length
section
variable (P:Program)
theorem Eg (E:Ev) (ops:Array Oper):∀ (l:List Oper) (T:List Value) (G:GS) (T':List Value) (G':GS),lg P E ops l T G=some (T',G')→T'.length=T.length
  | [],T,G,T',G',h=>by simp [lg] at h; rw [h.1]
  | o::r,T,G,T',G',h=>by
    simp only [lg] at h
    split at h
    · split at h
      · exact (Eg E ops r _ _ _ _ h).trans (tI _ _ _)
      · cases h
    · exact (Eg E ops r _ _ _ _ h).trans (tI _ _ _)
theorem Ya {E:Ev} {ops:Array Oper} {ms:List Nat} {base i:Nat} {o:Oper} {T:List Value} {G:GS} {aO:List (Nat×GS)} {aC:List fe} {a:DS} (h:vj P E ops ms base i o T G aO aC=some a):a.1.length=T.length:=by
  unfold vj at h
  split at h
  · split at h
    · unfold wM at h
      split at h
      · unfold d0 at h
        split at h<;>cases h
        exact tI _ _ _
      · unfold d1 at h
        split at h
        · split at h<;>cases h
          exact tI _ _ _
        · cases h
      · unfold d2 at h
        split at h<;>cases h
        exact tI _ _ _
      · unfold d3 at h
        split at h
        · split at h<;>cases h
          exact tI _ _ _
        · cases h
    · cases h
  · cases h
    exact tI _ _ _
theorem yY (E:Ev) (ops:Array Oper) (ms:List Nat) (base:Nat):∀ (l:List Oper) (i:Nat) (T:List Value) (G:GS) (aO:List (Nat×GS)) (aC:List fe) (T':List Value) (G':GS),ia P E ops ms base i l T G aO aC=some (T',G')→T'.length=T.length
  | [],i,T,G,aO,aC,T',G',h=>by simp [ia] at h; rw [h.1]
  | o::r,i,T,G,aO,aC,T',G',h=>by
    simp only [ia] at h
    split at h
    · rename_i T1 G1 h1 p1 hd
      exact (yY E ops ms base r _ _ _ _ _ _ _ h).trans (Ya P hd)
    · cases h
theorem Yb {E:Ev} (hE:E.yX) {c:Code} {T:List Value} {G:GS} {e:Exit} {T':List Value} {G':GS} (h:nu P E c T G=some (e,T',G')):T'.length=T.length:=by
  cases c with
  | seq a b =>
    simp only [nu,yR] at h
    split at h
    · rename_i T1 G1 ha
      exact (hE.ex _ _ _ _ _ _ h).trans (hE.ex _ _ _ _ _ _ ha)
    · exact hE.ex _ _ _ _ _ _ h
  | cond x a b =>
    simp only [nu,rV] at h
    split at h
    · split at h
      · exact hE.ex _ _ _ _ _ _ h
      · exact hE.ex _ _ _ _ _ _ h
      · cases h
    · cases h
  | block id b =>
    simp only [nu,rW] at h
    split at h
    · rename_i hb
      split at h<;>cases h<;>exact hE.ex _ _ _ _ _ _ hb
    · exact hE.ex _ _ _ _ _ _ h
  | loop b=>exact hE.lp _ _ _ _ _ _ h
  | scope b=>exact hE.sc _ _ _ _ _ _ _ h
  | region id ops draw =>
    simp only [nu] at h
    split at h
    · unfold jZ px at h
      split at h
      · split at h
        · rename_i hd
          cases h
          exact yY P _ _ _ _ _ _ _ _ _ _ _ _ hd
        · cases h
      · cases h
    · unfold wN px at h
      split at h
      · rename_i hd
        cases h
        exact Eg P _ _ _ _ _ _ _ hd
      · cases h
  | rangeFunc f ps assign body =>
    simp only [nu] at h
    split at h
    · unfold gE qG at h
      split at h
      · split at h
        · split at h
          · split at h
            · cases h
            · split at h
              · cases h; rfl
              · cases h
          · cases h
        · cases h
      · cases h
    · cases h
  | refuse w=>cases h
  | _=>cases h; rfl
theorem Yc {E:Ev} (hE:E.yX) {b c:Code} {T:List Value} {G:GS} {e:Exit} {T':List Value} {G':GS} (h:pa E b c T G=some (e,T',G')):T'.length=T.length:=by
  simp only [pa] at h
  split at h
  · rename_i hx
    split at h
    · exact (hE.sc _ _ _ _ _ _ _ h).trans (hE.ex _ _ _ _ _ _ hx)
    · cases h
      exact hE.ex _ _ _ _ _ _ hx
  · exact hE.ex _ _ _ _ _ _ h
theorem Yd {E:Ev} (hE:E.yX) {b:Code} {T:List Value} {G:GS} {e:Exit} {T':List Value} {G':GS} (h:pc E b T G=some (e,T',G')):T'.length=T.length:=by
  simp only [pc] at h
  split at h
  · rename_i hx
    exact (hE.lp _ _ _ _ _ _ h).trans (hE.ex _ _ _ _ _ _ hx)
  · exact hE.ex _ _ _ _ _ _ h
theorem yZ (ae:FuncId→Bool):∀ n,(fL P ae n).yX
  | 0=>⟨fun _ _ _ _ _ _ h=>by simp [fL,Ev.zero] at h,fun _ _ _ _ _ _ _ h=>by simp [fL,Ev.zero] at h,fun _ _ _ _ _ _ h=>by simp [fL,Ev.zero] at h⟩
  | n+1=>⟨fun _ _ _ _ _ _ h=>Yb P (yZ ae n) h,fun _ _ _ _ _ _ _ h=>Yc (yZ ae n) h,fun _ _ _ _ _ _ h=>Yd (yZ ae n) h⟩
theorem tJ (ae:FuncId→Bool):(aD P ae).yX :=
  ⟨fun _ _ _ _ _ _ h=>let ⟨n,hn⟩:=rX h; (yZ P ae n).ex _ _ _ _ _ _ hn,fun _ _ _ _ _ _ _ h=>let ⟨n,hn⟩:=rX h; (yZ P ae n).sc _ _ _ _ _ _ _ hn,fun _ _ _ _ _ _ h=>let ⟨n,hn⟩:=rX h; (yZ P ae n).lp _ _ _ _ _ _ hn⟩
end
def bP {α β:Type} (x:Option α) (k:α→Option β):Option β:=match x with | some a=>k a | none=>none
def bS {β:Type} (x:Option (Value×GS)) (k:Value→GS→Option β):Option β:=match x with | some (v,G)=>k v G | none=>none
def bX {β:Type} (x:Option (Exit×List Value×GS)) (k:Exit→List Value→GS→Option β):Option β:=match x with | some (e,T,G)=>k e T G | none=>none
def bl {β:Type} (v:Value) (a b:Option β):Option β:=match v with | .bool true=>a | .bool false=>b | _=>none
def gB (v:Value) (want:Bool):Bool:=match v with | .bool b=>b==want | _=>false
def gd (v:Value) (want:Bool) (x:Option (Value×GS)) (G:GS):Option (Value×GS):=if gB v want then x else some (undef,G)
def eV {β:Type} (b:Bool) (x:Option β):Option β:=if b then x else none
@[simp] theorem Bz {α β:Type} (a:α) (k:α→Option β):bP (some a) k=k a:=Eq.trans rfl rfl
@[simp] theorem y6 {β:Type} (v:Value) (G:GS) (k:Value→GS→Option β):bS (some (v,G)) k=k v G:=Eq.trans rfl rfl
@[simp] theorem j7 {β:Type} (e:Exit) (T:List Value) (G:GS) (k:Exit→List Value→GS→Option β):bX (some (e,T,G)) k=k e T G:=Eq.trans rfl rfl
@[simp] theorem aft {β:Type} (a b:Option β):bl (.bool true) a b=a:=Eq.trans rfl rfl
@[simp] theorem afu {β:Type} (a b:Option β):bl (.bool false) a b=b:=Eq.trans rfl rfl
@[simp] theorem afv (b:Bool) (x:Option (Value×GS)) (G:GS):gd (.bool b) b x G=x:=by simp [gd,gB]
@[simp] theorem afw (x:Option (Value×GS)) (G:GS):gd (.bool true) false x G=some (undef,G):=Eq.trans rfl rfl
@[simp] theorem afx (x:Option (Value×GS)) (G:GS):gd (.bool false) true x G=some (undef,G):=Eq.trans rfl rfl
@[simp] theorem afy {β:Type} (x:Option β):eV true x=x:=Eq.trans rfl rfl
@[congr] theorem afz {α β:Type} {x y:Option α} (k:α→Option β) (h:x=y):bP x k=bP y k:=by rw [h]
@[congr] theorem afA {β:Type} {x y:Option (Value×GS)} (k:Value→GS→Option β) (h:x=y):bS x k=bS y k:=by rw [h]
@[congr] theorem afB {β:Type} {x y:Option (Exit×List Value×GS)} (k:Exit→List Value→GS→Option β) (h:x=y):bX x k=bX y k:=by rw [h]
@[congr] theorem afC {β:Type} {v u:Value} (a b:Option β) (h:v=u):bl v a b=bl u a b:=by rw [h]
@[congr] theorem afD {β:Type} {b c:Bool} (x:Option β) (h:b=c):eV b x=eV c x:=by rw [h]
def iL (c a b:Value):Option Value:=match c with | .bool t=>some (if t then a else b) | _=>none
@[simp] theorem afE (t:Bool) (a b:Value):iL (.bool t) a b=some (if t then a else b):=Eq.trans rfl rfl
def vm (P:Program) (dt:Array TypeId) (vs:List Value):Option Value:=if vs.all plain then kR P (Builtin.min_ dt 0 ⟨vs⟩) else none
def vn (P:Program) (dt:Array TypeId) (vs:List Value):Option Value:=if vs.all plain then kR P (Builtin.max_ dt 0 ⟨vs⟩) else none
def Eh (v:Value) (G:GS):Option (Value×GS):=some (.pointer (some ⟨G.nx,0,none⟩),iU G v.cells.toList 1)
def y7 (P:Program) (t:TypeId) (len:Nat) (parts:List (Nat×Value)) (G:GS):Option (Value×GS):=match P.underlying t with
    | some (.slice e)=>match dJ P e,mR P e with
      | some s,some z=>if s≠0∧len*s≤2 ^ 24 then
          (match qm (fun i=>some (i*s,s)) (rep z len) parts with
          | some c=>some (.slice (some ⟨G.nx,0,none⟩) len len,iU G c s)
          | none=>none) else none
      | _,_=>none
    | _=>none
def Lp.gf (r:Lp) (st:LoopState):Lp:={ r with st:=st }
def GS.room (G:GS) (n:Nat):GS:={ G with nx:=G.nx+n }
def GS.aS (G:GS) (n:Nat):GS:={ G with nx:=n }
def GS.back (G' G:GS):GS:={ G' with nx:=G.nx }
section
variable (P:Program) (E:Ev)
def gX (ops:Array Oper) (j:Nat):Option Tmp:=match ops[j]? with | some o=>o.dst | none=>none
def tK (T:List Value) (d:Option Tmp):Value:=match d with | some t=>nth undef T t | none=>undef
theorem PO (ops:Array Oper) (T:List Value) (j:Nat) (want:Bool):(wk ops T j==some want)=gB (tK T (gX ops j)) want:=by
  unfold wk tK gX
  cases ops[j]? with
  | none=>rfl
  | some o =>
    simp only
    cases o.dst with
    | none=>rfl
    | some d =>
      simp only
      cases nth undef T d<;>first | rfl | (unfold gB; simp)
def PQ {β:Type} (T:List Value) (t:TypeId) (a x:Operand) (G:GS) (K:Value→GS→Option β):Option β:=bP (mT P t (ev T a) (ev T x) G) fun G'=>K undef G'
def BA {β:Type} (T:List Value) (c:Call) (G:GS) (K:Value→GS→Option β):Option β:=match c.callee with
  | .value f=>match f with
    | .func g=>bS (E.cl g (c.args.toList.map (ev T)) G) K
    | f=>bS (fJ E (ev T f) (c.args.toList.map (ev T)) G) K
  | .builtin .append=>match c.argTypes[0]?,c.argTypes[1]?,c.args.toList with
    | some ts,some tx,[s,x]=>bS (qp P ts tx (ev T s) (ev T x) G) K
    | _,_,_=>none
  | .builtin .copy=>match c.argTypes[0]?,c.args.toList with
    | some td,[d,s]=>bS (qs P td (ev T d) (ev T s) G) K
    | _,_=>none
  | .invoke r name=>bS (jF P E (ev T r) name (c.args.toList.map (ev T)) G) K
  | _=>bS (fK P E T (.call c) G) K
def vo {β:Type} (op:Op) (T:List Value) (G:GS) (K:Value→GS→Option β):Option β :=
  if dL op then
    match op with
    | .move x=>K (ev T x) G
    | .assign x=>K (ev T x) G
    | .store t a x=>PQ P T t a x G K
    | .makeFunc (.func f) a b=>K (.func (.func f) ⟨a.toList.map (ev T)⟩ ⟨b.toList.map (ev T)⟩) G
    | op=>match cls op with
      | 0=>bP (rT P T op) fun v=>K v G
      | 1=>bP (fv P T op G) fun v=>K v G
      | 2=>bS (rU P T op G) K
      | _=>match op with
        | .call c=>BA P E T c G K
        | op=>bS (pv P T op G) K
  else none
theorem BB {β:Type} (T:List Value) (c:Call) (G:GS) (K:Value→GS→Option β):BA P E T c G K=bS (fK P E T (.call c) G) K:=by
  obtain ⟨BD,args,dt⟩:=c
  cases BD with
  | value f =>
    cases f<;>simp [BA,fK,pv,D6,pw,yQ,fJ,ev]
  | invoke r n=>rfl
  | builtin b =>
    cases b<;>first
      | rfl
      | (simp only [BA,fK,pv,D6,pw,yQ]
         generalize dt[0]? =a
         generalize dt[1]? =b
         generalize args.toList=l
         rcases a with _ | ts
         · rfl
         rcases b with _ | tx
         · rfl
         rcases l with _ | ⟨s,_ | ⟨x,_ | ⟨y,l⟩⟩⟩
         · rfl
         · rfl
         · simp only
           cases qp P ts tx (ev T s) (ev T x) G<;>rfl
         · rfl)
      | (simp only [BA,fK,pv,D6,pw,yQ]
         generalize dt[0]? =a
         generalize args.toList=l
         rcases a with _ | ts
         · rfl
         rcases l with _ | ⟨s,_ | ⟨x,_ | ⟨y,l⟩⟩⟩
         · rfl
         · rfl
         · simp only
           cases qs P ts (ev T s) (ev T x) G<;>rfl
         · rfl)
theorem y8 {β:Type} (op:Op) (T:List Value) (G:GS) (K:Value→GS→Option β):vo P E op T G K=bS (oe P E T G op) K:=by
  unfold vo oe
  split
  case isFalse=>rfl
  unfold lf
  cases op with
  | move x=>rfl
  | assign x=>rfl
  | store t a x =>
    simp only [cls,fK,pv,Ib,PQ,pw]
    cases mT P t (ev T a) (ev T x) G<;>rfl
  | call c =>
    simp only
    generalize cls (.call c)=n
    match n with
    | 0=>simp only [kZ]; cases rT P T (.call c)<;>rfl
    | 1=>simp only [kZ]; cases fv P T (.call c) G<;>rfl
    | 2=>rfl
    | n+3=>exact BB P E T c G K
  | load t x=>simp only [cls,kZ]; cases fv P T (.load t x) G<;>rfl
  | slice t x l h m=>simp only [cls,kZ]; cases fv P T (.slice t x l h m) G<;>rfl
  | alloc t=>rfl
  | box t x=>rfl
  | buildSlice t n ps=>rfl
  | makeSlice t l c=>rfl
  | makeFunc f a b =>
    cases f with
    | func f =>
      simp only [cls,kZ,rT,O7,y6]
      have h:∀ a:Array Operand,(⟨a.toList.map (ev T)⟩:Array Value)=a.map (ev T):=fun a=>by rw [← Array.toList_map]
      rw [h,h]
    | _=>rfl
  | makeMap t r=>cases r<;>rfl
  | lookup t x i ok =>
    show _=bS (fK P E T (.lookup t x i ok) G) K
    simp only [fK,pv,Ie,pw,cls]
    cases wi P t (ev T x) (ev T i) ok G<;>rfl
  | mapUpdate t m k v =>
    show _=bS (fK P E T (.mapUpdate t m k v) G) K
    simp only [fK,pv,Ig,pw,cls]
    cases wj P t (ev T m) (ev T k) (ev T v) G<;>rfl
  | _ =>
    simp only [cls,kZ]
    generalize rT P T _=r
    cases r<;>rfl
def vp {β:Type} (ops:Array Oper):List Oper→List Value→GS→(List Value→GS→Option β)→Option β
  | [],T,G,K=>K T G
  | o::r,T,G,K=>match o.guard with
    | none=>vo P E o.op T G fun v G'=>vp ops r (aW T o.dst v) G' K
    | some (j,want)=>bS (gd (tK T (gX ops j)) want (vo P E o.op T G fun v G'=>some (v,G')) G) fun v G'=>vp ops r (aW T o.dst v) G' K
theorem Ye (x:Option (Value×GS)):(bS x fun v G=>some (v,G))=x:=by rcases x with _ | ⟨v,G⟩<;>rfl
theorem BF {β:Type} (ops:Array Oper):∀ (l:List Oper) (T:List Value) (G:GS) (K:List Value→GS→Option β),
    vp P E ops l T G K=match lg P E ops l T G with | some (T',G')=>K T' G' | none=>none
  | [],T,G,K=>rfl
  | o::r,T,G,K=>by
    have ih:=fun T G=>BF ops r T G K
    simp only [vp,lg]
    cases hg:o.guard with
    | none =>
      have hw:dx ops T o=true:=by simp [dx,hg]
      simp only [hw,if_true,y8]
      rcases oe P E T G o.op with _ | ⟨v,G'⟩
      · rfl
      · exact ih _ _
    | some jw =>
      obtain ⟨j,want⟩:=jw
      have hw:dx ops T o=gB (tK T (gX ops j)) want:=by simp only [dx,hg]; exact PO ops T j want
      simp only [hw,gd]
      by_cases hb:gB (tK T (gX ops j)) want=true
      · rw [if_pos hb,if_pos hb,y8,Ye]
        rcases oe P E T G o.op with _ | ⟨v,G'⟩
        · rfl
        · exact ih _ _
      · rw [if_neg hb,if_neg hb]
        exact ih _ _
def pz (N:Nat) (T:List Value):List Value:=(List.range N).map (nth undef T)
theorem oh:∀ {N:Nat} {T:List Value},T.length=N→pz N T=T:=by
  intro N T h
  subst h
  apply List.ext_getElem?
  intro i
  unfold pz
  by_cases hi:i<T.length
  · simp [hi,ju]
  · simp [hi]
def wP (l:List Oper):Bool:=l.all fun o=>o.guard.isNone
def jc (m:Nat) {α:Type} (l:List (Nat×α)):List α:=(l.filter fun h=>!m.testBit h.1).map (·.2)
def iM {α β:Type} (f:α→Bool) (l:List α) (x:Option β):Option β:=match l with | []=>x | l=>eV (l.all f) x
theorem wQ {α β:Type} (f:α→Bool) (l:List α) (x:Option β):iM f l x=if l.all f then x else none:=by
  cases l<;>rfl
theorem wR {α:Type} (m:Nat) (f:α→Bool):∀ (l:List (Nat×α)),((jc m l).all f)=l.all fun h=>m.testBit h.1||f h.2
  | []=>rfl
  | h::l=>by
    have ih:=wR m f l
    unfold jc at ih ⊢
    simp only [List.filter_cons,List.all_cons]
    cases m.testBit h.1<;>simp_all
def vq {β:Type} (ops:Array Oper) (ms:List Nat) (base:Nat):Nat→List Oper→List Value→GS→List (Nat×GS)→List (Nat×(GS→Bool))→(List Value→GS→Option β)→Option β
  | _,[],T,G,_,_,K=>K T G
  | i,o::r,T,G,aO,aC,K =>
    if dL o.op then
      match cls o.op with
      | 0=>vo P E o.op T G fun v _=>vq ops ms base (i+1) r (aW T o.dst v) G aO aC K
      | 1=>bP (fv P T o.op G) fun v=>iM (fun h=>bp (fv P T o.op h) v) (jc (nth 0 ms i) aO)
          (vq ops ms base (i+1) r (aW T o.dst v) G aO ((i,fun G'=>bp (fv P T o.op G') v)::aC) K)
      | 2=>bS (rU P T o.op { G with nx:=base+i }) fun v G'=>vq ops ms base (i+1) r (aW T o.dst v) { G' with nx:=G.nx } aO aC K
      | _=>vo P E o.op T G fun v G'=>iM (fun c=>c G') (jc (nth 0 ms i) aC) (vq ops ms base (i+1) r (aW T o.dst v) G' ((i,G)::aO) aC K)
    else none
def PR (p:fe):Nat×(GS→Bool):=(p.i,fun G'=>bp (fv P p.T p.op G') p.v)
theorem BG {β:Type} (ops:Array Oper) (ms:List Nat) (base:Nat):∀ (l:List Oper) (i:Nat) (T:List Value) (G:GS) (aO:List (Nat×GS)) (aC:List fe) (K:List Value→GS→Option β),wP l=true →
    vq P E ops ms base i l T G aO (aC.map (PR P)) K=match ia P E ops ms base i l T G aO aC with | some (T',G')=>K T' G' | none=>none
  | [],i,T,G,aO,aC,K,_=>rfl
  | o::r,i,T,G,aO,aC,K,hn=>by
    have hg:o.guard=none:=by simp [wP] at hn; exact hn.1
    have fT:wP r=true:=by simp [wP] at hn ⊢; exact hn.2
    have ih:=fun i T G aO aC=>BG ops ms base r i T G aO aC K fT
    simp only [vq,ia,vj,dx,hg,if_true]
    by_cases hk:dL o.op=true
    case neg=>rw [if_neg hk,if_neg hk]
    rw [if_pos hk,if_pos hk]
    have eL:∀ K':Value→GS→Option β,vo P E o.op T G K' =bS (lf P E (cls o.op) T G o.op) K':=fun K'=>by rw [y8]; unfold oe; rw [if_pos hk]
    simp only [eL]
    unfold wM lf
    generalize cls o.op=n
    match n with
    | 0 =>
      simp only [d0,kZ]
      cases rT P T o.op with
      | none=>rfl
      | some v=>exact ih _ _ _ _ _
    | 1 =>
      simp only [d1]
      cases fv P T o.op G with
      | none=>rfl
      | some v =>
        simp only [Bz,wQ,wR]
        split
        · exact ih _ _ _ _ (⟨i,T,o.op,v⟩::aC)
        · rfl
    | 2 =>
      simp only [d2]
      rcases rU P T o.op { G with nx:=base+i } with _ | ⟨v,G'⟩
      · rfl
      · exact ih _ _ _ _ _
    | n+3 =>
      simp only [d3]
      rcases fK P E T o.op G with _ | ⟨v,G'⟩
      · rfl
      · simp only [y6,wQ,wR,List.all_map]
        have:(aC.all fun p=>(nth 0 ms i).testBit p.i||bp (fv P p.T p.op G') p.v)=aC.all ((fun h=>(nth 0 ms i).testBit h.1||h.2 G') ∘ PR P):=rfl
        rw [this]
        split
        · exact ih _ _ _ _ _
        · rfl
def y9 {β:Type} (id:Nat) (K:Exit→List Value→GS→Option β) (e:Exit) (T:List Value) (G:GS):Option β:=match e with
  | .exit gQ=>if gQ =id then K .normal T G else K (.exit gQ) T G
  | e=>K e T G
def vr {β:Type} (b:List Value→GS→Option β) (K:Exit→List Value→GS→Option β) (e:Exit) (T:List Value) (G:GS):Option β:=match e with
  | .normal=>b T G
  | e=>K e T G
def Iy {β:Type} (N:Nat) (b:Code) (K:Exit→List Value→GS→Option β) (e:Exit) (T:List Value) (G:GS):Option β:=match e with
  | .goto l=>match findLabel b l with
    | some rest=>bX (E.sc b rest T G) fun e T2 G2=>K e (pz N T2) G2
    | none=>K (.goto l) T G
  | e=>K e T G
def sx {β:Type} (N:Nat):Code→List Value→GS→(Exit→List Value→GS→Option β)→Option β
  | .skip,T,G,K=>K .normal T G
  | .label _,T,G,K=>K .normal T G
  | .seq a b,T,G,K=>sx N a T G (vr (fun T G=>sx N b T G K) K)
  | .cond x a b,T,G,K=>if db x then bl (ev T x) (sx N a T G K) (sx N b T G K) else none
  | .block id b,T,G,K=>sx N b T G (y9 id K)
  | .loop b,T,G,K=>bX (E.lp b T G) fun e T' G'=>K e (pz N T') G'
  | .exit id,T,G,K=>K (.exit id) T G
  | .goto l,T,G,K=>K (.goto l) T G
  | .ret,T,G,K=>K .ret T G
  | .scope b,T,G,K=>sx N b T G (Iy E N b K)
  | .region _ ops draw,T,G,K =>
    if draw then
      if uO ops then
        if wP ops.toList then vq P E ops (masks ops.toList []) G.nx 0 ops.toList T { G with nx:=G.nx+ops.size } [] [] fun T G=>K .normal T G
        else bX (jZ P E ops T G) K
      else none
    else vp P E ops ops.toList T G fun T G=>K .normal T G
  | .rangeFunc f ps assign body,T,G,K=>if db f then bX (gE E (ev T f) ps assign body T G) K else none
  | .refuse _,_,_,_=>none
def vt (a b:Exit):Bool:=match a,b with
  | .normal,.normal=>true
  | .ret,.ret=>true
  | .exit a,.exit b=>Nat.beq a b
  | .goto a,.goto b=>Nat.beq a b
  | _,_=>false
theorem Yf {a b:Exit} (h:vt a b=true):a=b:=by
  cases a<;>cases b<;>simp_all [vt]
def dP {β:Type} (e x:Exit) (a b:Option β):Option β:=if vt e x then a else b
@[simp] theorem afF {β:Type} (id:Nat) (a b:Option β):dP (.exit id) (.exit id) a b=a:=by simp [dP,vt]
@[simp] theorem afG {β:Type} (a b:Option β):dP .ret .ret a b=a:=Eq.trans rfl rfl
@[simp] theorem Yg {β:Type} (a b:Option β):dP .normal .normal a b=a:=Eq.trans rfl rfl
@[simp] theorem afH {β:Type} (id:Nat) (a b:Option β):dP (.goto id) (.goto id) a b=a:=by simp [dP,vt]
@[simp] theorem afI {β:Type} (id:Nat) (a b:Option β):dP .ret (.exit id) a b=b:=Eq.trans rfl rfl
@[simp] theorem afJ {β:Type} (id:Nat) (a b:Option β):dP (.exit id) .ret a b=b:=Eq.trans rfl rfl
@[simp] theorem afK {β:Type} (id:Nat) (a b:Option β):dP .normal (.exit id) a b=b:=Eq.trans rfl rfl
@[simp] theorem afL {β:Type} (id:Nat) (a b:Option β):dP (.exit id) .normal a b=b:=Eq.trans rfl rfl
@[simp] theorem afM {β:Type} (a b:Option β):dP .normal .ret a b=b:=Eq.trans rfl rfl
@[simp] theorem afN {β:Type} (a b:Option β):dP .ret .normal a b=b:=Eq.trans rfl rfl
def PS (e:Exit) (l:List Exit):List Exit:=if l.any (vt e) then l else e::l
def Ei:List Exit→List Exit→List Exit
  | [],l=>l
  | e::r,l=>PS e (Ei r l)
def jG:Code→List Exit
  | .exit id=>[.exit id]
  | .goto l=>[.goto l]
  | .ret=>[.ret]
  | .seq a b=>Ei (jG a) (jG b)
  | .cond _ a b=>Ei (jG a) (jG b)
  | .block id b=>(jG b).filter fun e=>!vt e (.exit id)
  | .loop b=>jG b
  | .scope b=>jG b
  | .rangeFunc _ _ _ b=>jG b
  | _=>[]
def mc {β:Type} (l:List Exit) (e:Exit) (T:List Value) (G:GS) (K:Exit→List Value→GS→Option β):Option β:=match l with
  | []=>none
  | x::r=>dP e x (K x T G) (mc r e T G K)
theorem PT {β:Type} {e:Exit} {T:List Value} {G:GS} {K:Exit→List Value→GS→Option β} {r:β}:∀ {l:List Exit},mc l e T G K=some r→K e T G=some r
  | [],h=>by cases h
  | x::l,h=>by
    simp only [mc,dP] at h
    split at h
    · rename_i hx
      rw [Yf hx]
      exact h
    · exact PT h
def Ej {β:Type} (N:Nat) (b:Code) (K:Exit→List Value→GS→Option β) (e:Exit) (T:List Value) (G:GS):Option β:=match e with
  | .goto l=>match findLabel b l with
    | some rest=>bX (E.sc b rest T G) fun e T2 G2=>mc (.normal::jG b) e (pz N T2) G2 K
    | none=>K (.goto l) T G
  | e=>K e T G
def gh {β:Type} (N:Nat):Code→List Value→GS→(Exit→List Value→GS→Option β)→Option β
  | .skip,T,G,K=>K .normal T G
  | .label _,T,G,K=>K .normal T G
  | .seq a b,T,G,K=>gh N a T G (vr (fun T G=>gh N b T G K) K)
  | .cond x a b,T,G,K=>if db x then bl (ev T x) (gh N a T G K) (gh N b T G K) else none
  | .block id b,T,G,K=>gh N b T G (y9 id K)
  | .loop b,T,G,K=>bX (E.lp b T G) fun e T' G'=>mc (jG b) e (pz N T') G' K
  | .exit id,T,G,K=>K (.exit id) T G
  | .goto l,T,G,K=>K (.goto l) T G
  | .ret,T,G,K=>K .ret T G
  | .scope b,T,G,K=>gh N b T G (Ej E N b K)
  | .region _ ops draw,T,G,K =>
    if draw then
      if uO ops then
        if wP ops.toList then vq P E ops (masks ops.toList []) G.nx 0 ops.toList T { G with nx:=G.nx+ops.size } [] [] fun T G=>K .normal T G
        else bX (jZ P E ops T G) fun e T' G'=>mc [.normal] e (pz N T') G' K
      else none
    else vp P E ops ops.toList T G fun T G=>K .normal T G
  | .rangeFunc f ps assign body,T,G,K=>if db f then bX (gE E (ev T f) ps assign body T G) fun e T' G'=>mc (.normal::jG body) e (pz N T') G' K else none
  | .refuse _,_,_,_=>none
def tL {β:Type} (T:List Value) (G:GS):List ResultVar→(List Value→Option β)→Option β
  | [],K=>K []
  | .tmp t::r,K=>tL T G r fun l=>K (nth undef T t::l)
  | .cell a t::r,K=>bP (jE P t (nth undef T a) G) fun v=>tL T G r fun l=>K (v::l)
theorem Iz {β:Type} (T:List Value) (G:GS):∀ (l:List ResultVar) (K:List Value→Option β),tL P T G l K=bP (lT P T G l) K
  | [],K=>rfl
  | .tmp t::r,K=>by
    simp only [tL,lT,Iz T G r]
    cases lT P T G r<;>rfl
  | .cell a t::r,K=>by
    simp only [tL,lT,Iz T G r,Pb]
    cases rH P t (nth undef T a) G<;>cases lT P T G r<;>rfl
def BH (results:List ResultVar) (e:Exit) (T:List Value) (G:GS):Option (Value×GS):=if rK e then tL P T G results fun l=>some (uP l,G) else none
end
section
variable (P:Program) (ae:FuncId→Bool)
theorem rZ {β:Type} {N:Nat}:∀ (c:Code) (T:List Value) (G:GS) (K:Exit→List Value→GS→Option β),T.length=N→sx P (aD P ae) N c T G K=bX ((aD P ae).ex c T G) K:=by
  intro c
  have hL:=tJ P ae
  induction c with
  | skip=>intro T G K h; rw [fw]; rfl
  | label l=>intro T G K h; rw [fw]; rfl
  | exit l=>intro T G K h; rw [fw]; rfl
  | goto l=>intro T G K h; rw [fw]; rfl
  | ret=>intro T G K h; rw [fw]; rfl
  | refuse w=>intro T G K h; rw [fw]; rfl
  | seq a b ff fg =>
    intro T G K h
    rw [fw,sx,ff _ _ _ h]
    show _=bX (yR (aD P ae) b ((aD P ae).ex a T G)) K
    rcases hx:(aD P ae).ex a T G with _ | ⟨e,T',G'⟩
    · rfl
    · have hl:=(hL.ex _ _ _ _ _ _ hx).trans h
      cases e with
      | normal=>exact fg _ _ _ hl
      | _=>rfl
  | cond x a b ff fg =>
    intro T G K h
    rw [fw,sx,ff _ _ _ h,fg _ _ _ h]
    show _=bX (if db x then rV (aD P ae) (ev T x) a b T G else none) K
    split
    · unfold bl rV
      generalize ev T x=v
      cases v with
      | bool t=>cases t<;>rfl
      | _=>rfl
    · rfl
  | block id b ih =>
    intro T G K h
    rw [fw,sx,ih _ _ _ h]
    show _=bX (rW id ((aD P ae).ex b T G)) K
    rcases hx:(aD P ae).ex b T G with _ | ⟨e,T',G'⟩
    · rfl
    · cases e with
      | exit gQ =>
        simp only [j7,y9,rW]
        split<;>rfl
      | _=>rfl
  | loop b ih =>
    intro T G K h
    rw [fw]
    show bX ((aD P ae).lp b T G) (fun e T' G'=>K e (pz N T') G')=bX ((aD P ae).lp b T G) K
    rcases hx:(aD P ae).lp b T G with _ | ⟨e,T',G'⟩
    · rfl
    · simp only [j7,oh ((hL.lp _ _ _ _ _ _ hx).trans h)]
  | scope b ih =>
    intro T G K h
    rw [fw]
    show sx P (aD P ae) N b T G (Iy (aD P ae) N b K)=bX ((aD P ae).sc b b T G) K
    rw [ih _ _ _ h,PI,pa]
    rcases hx:(aD P ae).ex b T G with _ | ⟨e,T',G'⟩
    · rfl
    · have hl:=(hL.ex _ _ _ _ _ _ hx).trans h
      cases e with
      | goto l =>
        simp only [j7,Iy]
        cases findLabel b l with
        | none=>rfl
        | some rest =>
          simp only
          rcases hy:(aD P ae).sc b rest T' G' with _ | ⟨e2,T2,G2⟩
          · rfl
          · simp only [j7,oh ((hL.sc _ _ _ _ _ _ _ hy).trans hl)]
      | _=>rfl
  | region id ops draw =>
    intro T G K h
    rw [fw,sx]
    show _=bX (if draw then jZ P (aD P ae) ops T G else wN P (aD P ae) ops T G) K
    split
    · split
      · rename_i hd
        split
        · rename_i hn
          have:=BG P (aD P ae) ops (masks ops.toList []) G.nx ops.toList 0 T { G with nx:=G.nx+ops.size } [] [] (fun T G=>K .normal T G) hn
          rw [List.map_nil] at this
          rw [this]
          unfold jZ
          rw [if_pos hd]
          rcases ia P (aD P ae) ops (masks ops.toList []) G.nx 0 ops.toList T { G with nx:=G.nx+ops.size } [] [] with _ | ⟨T',G'⟩<;>rfl
        · rfl
      · rename_i hd
        unfold jZ
        rw [if_neg hd]
        rfl
    · rw [BF]
      unfold wN
      rcases lg P (aD P ae) ops ops.toList T G with _ | ⟨T',G'⟩<;>rfl
  | rangeFunc f ps assign body ff fg =>
    intro T G K h
    rw [fw,sx]
    show _=bX (if db f then gE (aD P ae) (ev T f) ps assign body T G else none) K
    split<;>rfl
theorem Ek {β:Type} {N:Nat}:∀ (c:Code) (T:List Value) (G:GS) (K:Exit→List Value→GS→Option β) (r:β),T.length=N→gh P (aD P ae) N c T G K=some r→bX ((aD P ae).ex c T G) K=some r:=by
  intro c
  have hL:=tJ P ae
  have same:∀ {K:Exit→List Value→GS→Option β} {x:Option (Exit×List Value×GS)} {l:List Exit} {r:β},(∀ e T' G',x=some (e,T',G')→T'.length=N)→(bX x fun e T' G'=>mc l e (pz N T') G' K)=some r→bX x K=some r:=by
    intro K x l r hx h
    rcases x with _ | ⟨e,T',G'⟩
    · exact h
    · simp only [j7] at h ⊢
      rw [oh (hx _ _ _ rfl)] at h
      exact PT h
  induction c with
  | skip=>intro T G K r h hs; rw [fw]; exact hs
  | label l=>intro T G K r h hs; rw [fw]; exact hs
  | exit l=>intro T G K r h hs; rw [fw]; exact hs
  | goto l=>intro T G K r h hs; rw [fw]; exact hs
  | ret=>intro T G K r h hs; rw [fw]; exact hs
  | refuse w=>intro T G K r h hs; cases hs
  | seq a b ff fg =>
    intro T G K r h hs
    have h1:=ff _ _ _ _ h hs
    rw [fw]
    show bX (yR (aD P ae) b ((aD P ae).ex a T G)) K=some r
    rcases hx:(aD P ae).ex a T G with _ | ⟨e,T',G'⟩
    · rw [hx] at h1; exact h1
    · rw [hx] at h1
      have hl:=(hL.ex _ _ _ _ _ _ hx).trans h
      cases e with
      | normal=>exact fg _ _ _ _ hl h1
      | _=>exact h1
  | cond x a b ff fg =>
    intro T G K r h hs
    rw [fw]
    simp only [gh] at hs
    show bX (if db x then rV (aD P ae) (ev T x) a b T G else none) K=some r
    split at hs
    · rename_i hk
      rw [if_pos hk]
      unfold bl at hs
      unfold rV
      generalize ev T x=v at hs ⊢
      cases v with
      | bool t =>
        cases t
        · exact fg _ _ _ _ h hs
        · exact ff _ _ _ _ h hs
      | _=>cases hs
    · cases hs
  | block id b ih =>
    intro T G K r h hs
    have h1:=ih _ _ _ _ h hs
    rw [fw]
    show bX (rW id ((aD P ae).ex b T G)) K=some r
    rcases hx:(aD P ae).ex b T G with _ | ⟨e,T',G'⟩
    · rw [hx] at h1; exact h1
    · rw [hx] at h1
      cases e with
      | exit gQ =>
        simp only [j7,y9] at h1
        simp only [rW]
        split at h1<;>simp_all
      | _=>exact h1
  | loop b ih =>
    intro T G K r h hs
    rw [fw]
    exact same (fun e T' G' hx=>(hL.lp _ _ _ _ _ _ hx).trans h) hs
  | scope b ih =>
    intro T G K r h hs
    have h1:=ih _ _ _ _ h hs
    rw [fw]
    show bX ((aD P ae).sc b b T G) K=some r
    rw [PI,pa]
    rcases hx:(aD P ae).ex b T G with _ | ⟨e,T',G'⟩
    · rw [hx] at h1; exact h1
    · rw [hx] at h1
      have hl:=(hL.ex _ _ _ _ _ _ hx).trans h
      cases e with
      | goto l =>
        simp only [j7,Ej] at h1
        simp only
        cases hf:findLabel b l with
        | none=>rw [hf] at h1; exact h1
        | some rest =>
          rw [hf] at h1
          exact same (fun e T2 G2 hy=>(hL.sc _ _ _ _ _ _ _ hy).trans hl) h1
      | _=>exact h1
  | region id ops draw =>
    intro T G K r h hs
    rw [fw]
    simp only [gh] at hs
    show bX (if draw then jZ P (aD P ae) ops T G else wN P (aD P ae) ops T G) K=some r
    have hl:∀ e T' G',jZ P (aD P ae) ops T G=some (e,T',G')→T'.length=N:=by
      intro e T' G' hx
      unfold jZ px at hx
      split at hx
      · split at hx
        · rename_i hd
          cases hx
          exact (yY P _ _ _ _ _ _ _ _ _ _ _ _ hd).trans h
        · cases hx
      · cases hx
    split at hs
    · rename_i hdr
      rw [if_pos hdr]
      split at hs
      · rename_i hd
        split at hs
        · rename_i hn
          have:=BG P (aD P ae) ops (masks ops.toList []) G.nx ops.toList 0 T { G with nx:=G.nx+ops.size } [] [] (fun T G=>K .normal T G) hn
          rw [List.map_nil] at this
          rw [this] at hs
          unfold jZ
          rw [if_pos hd]
          rcases hy:ia P (aD P ae) ops (masks ops.toList []) G.nx 0 ops.toList T { G with nx:=G.nx+ops.size } [] [] with _ | ⟨T',G'⟩
          · rw [hy] at hs; exact hs
          · rw [hy] at hs; exact hs
        · exact same hl hs
      · cases hs
    · rename_i hdr
      rw [if_neg hdr]
      rw [BF] at hs
      unfold wN
      rcases hy:lg P (aD P ae) ops ops.toList T G with _ | ⟨T',G'⟩
      · rw [hy] at hs; exact hs
      · rw [hy] at hs; exact hs
  | rangeFunc f ps assign body ff fg =>
    intro T G K r h hs
    rw [fw]
    simp only [gh] at hs
    show bX (if db f then gE (aD P ae) (ev T f) ps assign body T G else none) K=some r
    split at hs
    · rename_i hk
      rw [if_pos hk]
      refine same (fun e T' G' hx=>?_) hs
      unfold gE qG at hx
      split at hx
      · split at hx
        · split at hx
          · split at hx
            · cases hx
            · split at hx
              · cases hx; exact h
              · cases hx
          · cases hx
        · cases hx
      · cases hx
    · cases hs
def aL (fn:Func):Code:=match fn.body with | some c=>c | none=>.skip
theorem PU {f:FuncId} {fn:Func} {vs:List Value} (G:GS) (hf:P.funcs[f]? =some fn) (hn:(fn.name == "runtime.NumGoroutine")=false) (hb:fn.body.isSome=true) (ho:(vs.isEmpty&&ae f)=false) (hp:py P ae f=false) (hl:Nat.ble vs.length fn.ntmps=true) :
    (aD P ae).cl f vs G=sx P (aD P ae) fn.ntmps (aL fn) (vs++List.replicate (fn.ntmps - vs.length) undef) G (BH P fn.results.toList):=by
  obtain ⟨c,hc⟩:=Option.isSome_iff_exists.1 hb
  rw [PH]
  unfold tH rL
  rw [show (vs.isEmpty&&(ae f&&tG P G))=false by rw [← Bool.and_assoc,ho,Bool.false_and],hp,hf]
  simp only [hn,hc,Bool.false_eq_true,if_false]
  rw [rZ P ae _ _ _ _ (by have:=Nat.le_of_ble_eq_true hl; simp; omega)]
  have:aL fn=c:=by simp [aL,hc]
  rw [this]
  rcases (aD P ae).ex c (vs++List.replicate (fn.ntmps - vs.length) undef) G with _ | ⟨e,T',G'⟩
  · rfl
  · simp only [j7,BH,Iz]
    split
    · cases lT P T' G' fn.results.toList<;>rfl
    · rfl
theorem Yh {f:FuncId} {fn:Func} {vs:List Value} (G:GS) (hf:P.funcs[f]? =some fn) (hn:(fn.name == "runtime.NumGoroutine")=false) (hb:fn.body.isSome=true) (ho:(vs.isEmpty&&ae f)=false) (hp:py P ae f=false) (hl:Nat.ble vs.length fn.ntmps=true) {x:Option (Value×GS)} {r:Value×GS}
    (hx:gh P (aD P ae) fn.ntmps (aL fn) (vs++List.replicate (fn.ntmps - vs.length) undef) G (BH P fn.results.toList)=x) (h:x=some r):(aD P ae).cl f vs G=some r:=by
  have hlen:(vs++List.replicate (fn.ntmps - vs.length) undef).length=fn.ntmps:=by have:=Nat.le_of_ble_eq_true hl; simp; omega
  rw [PU P ae G hf hn hb ho hp hl,rZ P ae _ _ _ _ hlen]
  exact Ek P ae _ _ _ _ _ hlen (hx.trans h)
theorem PV {b:Code} {N:Nat} {T:List Value} (G:GS) (h:T.length=N) :
    (aD P ae).lp b T G=sx P (aD P ae) N b (pz N T) G (vr (fun T' G'=>(aD P ae).lp b T' G') fun e T' G'=>some (e,T',G')):=by
  rw [oh h,rZ P ae _ _ _ _ h,X3,pc]
  rcases (aD P ae).ex b T G with _ | ⟨e,T',G'⟩
  · rfl
  · cases e<;>rfl
def me (l:Nat) (e:Exit) (G:GS):Option (Value×GS):=bP (wo e) fun j=>bP (G.loop l) fun r=>some (.bool j.isNone,G.bR l { r with st:=if j.isNone then .ready else .done,aC:=j })
def IA (E:Ev) (l N:Nat) (body:Code) (T:List Value) (G:GS):Option (Value×GS) :=
  bP (G.loop l) fun r=>if r.st= .ready then sx P E N body T (G.bR l { r with st:=.busy }) (fun e _ G2=>me l e G2) else none
theorem Yi {l N:Nat} {vs:List Value} {G:GS} {st:LoopState} {aC:Option Code} {T:List Value} {ps:List Nat} {assign body:Code} (hl:G.loop l=some ⟨st,aC,T,ps,assign,body⟩) (hp:ps.length=vs.length) (hT:T.length=N) :
    (aD P ae).rd l vs G=sx P (aD P ae) N assign (lS ps vs T) G (vr (fun T1 G1=>IA P (aD P ae) l N body T1 G1) fun _ _ _=>none):=by
  have hL:=tJ P ae
  have vu:∀ (ps:List Nat) (vs T:List Value),(lS ps vs T).length=T.length:=by
    intro ps
    induction ps with
    | nil=>intro vs T; cases vs<;>rfl
    | cons p ps ih =>
      intro vs T
      cases vs with
      | nil=>rfl
      | cons v vs=>exact (ih vs _).trans (yW _ _ _)
  rw [rZ P ae _ _ _ _ ((vu _ _ _).trans hT),X2,sU,hl]
  simp only [hp,if_true]
  rcases hx:(aD P ae).ex assign (lS ps vs T) G with _ | ⟨e,T1,G1⟩
  · rfl
  · have ph:T1.length=N:=(hL.ex _ _ _ _ _ _ hx).trans ((vu _ _ _).trans hT)
    cases e with
    | normal =>
      simp only [j7,vr,IA]
      cases G1.loop l with
      | none=>rfl
      | some r1 =>
        simp only [Bz]
        split
        · rw [rZ P ae _ _ _ _ ph]
          rcases (aD P ae).ex body T1 (G1.bR l { r1 with st:=.busy }) with _ | ⟨e2,T2,G2⟩
          · rfl
          · simp only [j7,me]
            cases wo e2 with
            | none=>rfl
            | some j=>cases G2.loop l<;>rfl
        · rfl
    | _=>rfl
end
theorem PX:∀ (ps:List Nat) (vs T:List Value),(lS ps vs T).length=T.length
  | [],vs,T=>by cases vs<;>rfl
  | p::ps,[],T=>rfl
  | p::ps,v::vs,T=>(PX ps vs _).trans (yW _ _ _)
abbrev Env:=Nat→Value
def wS (N:Nat) (τ:Env) (i:Nat) (v:Value):Env:=fun j=>bif Nat.beq j i then (bif Nat.blt i N then v else τ j) else τ j
def pA (N:Nat) (τ:Env) (d:Option Tmp) (v:Value):Env:=match d with | some t=>wS N τ t v | none=>τ
def iN (τ:Env) (x:Operand):Value:=match x with
  | .tmp t=>τ t
  | .const v=>v
  | .global _=>undef
  | .func f=>.func (.func f) #[] #[]
theorem za (T:List Value):iN (nth undef T)=ev T:=by funext x; cases x<;>rfl
theorem Yj (T:List Value) (v:Value):∀ (i j:Nat),nth undef (nP T i v) j=if j=i∧i<T.length then v else nth undef T j:=by
  induction T with
  | nil=>intro i j; simp [GM]
  | cons x xs ih =>
    intro i j
    cases i with
    | zero =>
      rw [GN]
      cases j with
      | zero=>simp [sP]
      | succ j=>simp [sQ]
    | succ i =>
      rw [GO]
      cases j with
      | zero=>simp [sP]
      | succ j=>simp [sQ,ih i j]
theorem PY {N:Nat} {T:List Value} (h:T.length=N) (i:Nat) (v:Value):wS N (nth undef T) i v=nth undef (nP T i v):=by
  funext j
  rw [Yj,h]
  unfold wS
  by_cases h1:j=i
  · subst h1
    rw [Nat.beq_refl]
    by_cases h2:j<N
    · have:Nat.blt j N=true:=by simpa [Nat.blt_eq] using h2
      simp [this,h2]
    · have:Nat.blt j N=false:=by
        cases hb:Nat.blt j N
        · rfl
        · exact absurd (by simpa [Nat.blt_eq] using hb) h2
      simp [this,h2]
  · have:Nat.beq j i=false:=by
      cases hb:Nat.beq j i
      · rfl
      · exact absurd (Nat.eq_of_beq_eq_true hb) h1
    simp [this,h1]
theorem IC {N:Nat} {T:List Value} (h:T.length=N) (d:Option Tmp) (v:Value):pA N (nth undef T) d v=nth undef (aW T d v):=by
  cases d with
  | none=>rfl
  | some t=>exact PY h t v
def aG (N:Nat) (τ:Env):List Value:=(List.range N).map τ
theorem zb {N:Nat} {T:List Value} (h:T.length=N):aG N (nth undef T)=T:=oh h
section
variable (P:Program) (E:Ev)
def wT {β:Type} (e:Operand→Value) (c:Call) (G:GS) (K:Value→GS→Option β):Option β:=match c.callee with
  | .value f=>match f with
    | .func g=>bS (E.cl g (c.args.toList.map e) G) K
    | f=>bS (fJ E (e f) (c.args.toList.map e) G) K
  | .builtin .append=>match c.argTypes[0]?,c.argTypes[1]?,c.args.toList with
    | some ts,some tx,[s,x]=>bS (qp P ts tx (e s) (e x) G) K
    | _,_,_=>none
  | .builtin .copy=>match c.argTypes[0]?,c.args.toList with
    | some td,[d,s]=>bS (qs P td (e d) (e s) G) K
    | _,_=>none
  | .builtin .len=>match c.argTypes[0]?,c.args.toList with
    | some t,[x]=>bP (mS P t (e x)) fun v=>K v G
    | _,_=>none
  | .builtin .min=>bP (vm P c.argTypes (c.args.toList.map e)) fun v=>K v G
  | .builtin .max=>bP (vn P c.argTypes (c.args.toList.map e)) fun v=>K v G
  | .invoke r name=>bS (jF P E (e r) name (c.args.toList.map e) G) K
  | _=>none
structure wU where
  al:TypeId→GS→Option (Value×GS)
  bx:Value→GS→Option (Value×GS)
  bs:TypeId→Nat→List (Nat×Value)→GS→Option (Value×GS)
  ms:TypeId→Value→Value→GS→Option (Value×GS)
  bd:TypeId→List (Nat×Value)→Option Value
  vv:TypeId→Value→Option Value
def r8:wU:=⟨Bt P,Eh,y7 P,wL P,rG P,Br P⟩
def ou {β:Type} (M:wU) (e:Operand→Value) (op:Op) (G:GS) (K:Value→GS→Option β):Option β :=
    match op with
    | .move x=>K (e x) G
    | .assign x=>K (e x) G
    | .makeFunc (.func f) a b=>K (.func (.func f) ⟨a.toList.map e⟩ ⟨b.toList.map e⟩) G
    | .pick c a b=>bP (iL (e c) (e a) (e b)) fun v=>K v G
    | .nilCheck x=>bP (aR (e x)) fun v=>K v G
    | .binOp o t x y _=>bP (bB P o t x y (e x) (e y)) fun v=>K v G
    | .unOp o _ x=>bP (wK P o (e x)) fun v=>K v G
    | .convert s d x=>bP (vi P s d (e x)) fun v=>K v G
    | .makeInterface t x=>bP (M.vv t (e x)) fun v=>K v G
    | .build t ps=>bP (M.bd t (ps.toList.map fun p=>(p.1,e p.2))) fun v=>K v G
    | .field t x f=>bP (lP P t (e x) f) fun v=>K v G
    | .index t x i=>bP (jS P t (e x) (e i)) fun v=>K v G
    | .extract x i=>bP (gW (e x) i) fun v=>K v G
    | .fieldAddr t x f=>bP (qn P t (e x) f) fun v=>K v G
    | .indexAddr t x i=>bP (jT P t (e x) (e i)) fun v=>K v G
    | .typeAssert x _ a ok=>bP (AB P (e x) a ok) fun v=>K v G
    | .load t x=>bP (jE P t (e x) G) fun v=>K v G
    | .slice t x l h m=>bP (iT P t (e x) (l.map e) (h.map e) (m.map e) G) fun v=>K v G
    | .alloc t=>bS (M.al t G) K
    | .box _ x=>bS (M.bx (e x) G) K
    | .buildSlice t n ps=>bS (M.bs t n (ps.toList.map fun p=>(p.1,e p.2)) G) K
    | .makeSlice t l c=>bS (M.ms t (e l) (e c) G) K
    | .store t a x=>bP (mT P t (e a) (e x) G) fun G'=>K undef G'
    | .call c=>wT P E e c G K
    | .makeMap _ none=>K (.map (some G.nl)) G.Ic
    | .lookup t x i ok=>bP (wi P t (e x) (e i) ok G) fun v=>K v G
    | .mapUpdate t m k v=>bP (wj P t (e m) (e k) (e v) G) fun G'=>K undef G'
    | _=>none
def lj {β:Type} (e:Operand→Value) (op:Op) (G:GS) (K:Value→GS→Option β):Option β:=if dL op then ou P E (r8 P) e op G K else none
theorem El {β:Type} (x:Option Value) (G:GS) (K:Value→GS→Option β):bS (kZ G x) K=bP x fun v=>K v G:=by cases x<;>rfl
theorem Yk {β:Type} (T:List Value) (c:Call) (G:GS) (K:Value→GS→Option β):wT P E (ev T) c G K=bS (lf P E (cls (.call c)) T G (.call c)) K:=by
  obtain ⟨BD,args,dt⟩:=c
  have hm:(⟨args.toList.map (ev T)⟩:Array Value)=args.map (ev T):=by rw [← Array.toList_map]
  cases BD with
  | value f=>exact BB P E T ⟨.value f,args,dt⟩ G K
  | invoke r n=>exact BB P E T ⟨.invoke r n,args,dt⟩ G K
  | builtin b =>
    cases b
    case append=>exact BB P E T ⟨.builtin .append,args,dt⟩ G K
    case copy=>exact BB P E T ⟨.builtin .copy,args,dt⟩ G K
    case len =>
      show _=bS (kZ G (H7 P T ⟨.builtin .len,args,dt⟩)) K
      rw [El]
      simp only [wT,H7]
      generalize dt[0]? =a
      generalize args.toList=l
      rcases a with _ | ts
      · rfl
      rcases l with _ | ⟨s,_ | ⟨x,l⟩⟩<;>rfl
    case min =>
      show _=bS (kZ G (H8 P T ⟨.builtin .min,args,dt⟩)) K
      rw [El]
      simp only [wT,H8,vm,hm]
    case max =>
      show _=bS (kZ G (H9 P T ⟨.builtin .max,args,dt⟩)) K
      rw [El]
      simp only [wT,H9,vn,hm]
    all_goals rfl
theorem Em {β:Type} (op:Op) (T:List Value) (G:GS) (K:Value→GS→Option β):lj P E (ev T) op G K=vo P E op T G K:=by
  rw [y8]
  unfold lj ou oe
  by_cases hk:dL op=true
  case neg=>rw [if_neg hk,if_neg hk]; rfl
  rw [if_pos hk,if_pos hk]
  cases op with
  | call c=>exact Yk P E T c G K
  | store t a x =>
    show _=bS (fK P E T (.store t a x) G) K
    simp only [fK,pv,Ib,pw]
    cases mT P t (ev T a) (ev T x) G<;>rfl
  | makeFunc f a b =>
    cases f with
    | func f =>
      have h:∀ a:Array Operand,(⟨a.toList.map (ev T)⟩:Array Value)=a.map (ev T):=fun a=>by rw [← Array.toList_map]
      simp only [h]
      rfl
    | _=>rfl
  | makeMap t r=>cases r<;>rfl
  | lookup t x i ok =>
    show _=bS (fK P E T (.lookup t x i ok) G) K
    simp only [fK,pv,Ie,pw]
    cases wi P t (ev T x) (ev T i) ok G<;>rfl
  | mapUpdate t m k v =>
    show _=bS (fK P E T (.mapUpdate t m k v) G) K
    simp only [fK,pv,Ig,pw]
    cases wj P t (ev T m) (ev T k) (ev T v) G<;>rfl
  | _=>first
    | rfl
    | exact (El _ _ _).symm
def wV {β:Type} (N:Nat) (ops:Array Oper):List Oper→Env→GS→(Env→GS→Option β)→Option β
  | [],τ,G,K=>K τ G
  | o::r,τ,G,K=>match o.guard with
    | none=>lj P E (iN τ) o.op G fun v G'=>wV N ops r (pA N τ o.dst v) G' K
    | some (j,want)=>bS (gd (match gX ops j with | some t=>τ t | none=>undef) want (lj P E (iN τ) o.op G fun v G'=>some (v,G')) G) fun v G'=>wV N ops r (pA N τ o.dst v) G' K
theorem PZ {β:Type} {N:Nat} (ops:Array Oper):∀ (l:List Oper) (T:List Value) (G:GS) (K:Env→GS→Option β),T.length=N →
    wV P E N ops l (nth undef T) G K=vp P E ops l T G fun T' G'=>K (nth undef T') G'
  | [],T,G,K,h=>rfl
  | o::r,T,G,K,h=>by
    have ih:=fun v G'=>PZ ops r (aW T o.dst v) G' K ((tI _ _ _).trans h)
    simp only [wV,vp]
    cases o.guard with
    | none=>simp only [za,Em,IC h,ih]
    | some jw =>
      obtain ⟨j,want⟩:=jw
      simp only [za,Em,IC h,ih]
      rfl
def nv (e:Operand→Value) (op:Op) (G:GS):Option Value:=match op with
  | .load t x=>jE P t (e x) G
  | .slice t x l h m=>iT P t (e x) (l.map e) (h.map e) (m.map e) G
  | _=>none
theorem P1 (T:List Value) (op:Op) (G:GS):nv P (ev T) op G=fv P T op G:=by cases op<;>rfl
def oy {β:Type} (N:Nat) (ops:Array Oper) (ms:List Nat) (base:Nat):Nat→List Oper→Env→GS→List (Nat×Bool×GS)→List (Nat×(GS→Bool))→(Env→GS→Option β)→Option β
  | _,[],τ,G,_,_,K=>K τ G
  | i,o::r,τ,G,aO,aC,K =>
    match o.guard with
    | none=>match cls o.op with
      | 0=>lj P E (iN τ) o.op G fun v _=>oy N ops ms base (i+1) r (pA N τ o.dst v) G aO aC K
      | 1=>if dL o.op then bP (nv P (iN τ) o.op G) fun v=>iM (fun h=>!h.1||bp (nv P (iN τ) o.op h.2) v) (jc (nth 0 ms i) aO)
          (oy N ops ms base (i+1) r (pA N τ o.dst v) G aO ((i,fun G'=>bp (nv P (iN τ) o.op G') v)::aC) K) else none
      | 2=>lj P E (iN τ) o.op (G.aS (base+i)) fun v G'=>oy N ops ms base (i+1) r (pA N τ o.dst v) (G'.back G) aO aC K
      | _=>lj P E (iN τ) o.op G fun v G'=>iM (fun c=>c G') (jc (nth 0 ms i) aC) (oy N ops ms base (i+1) r (pA N τ o.dst v) G' ((i,true,G)::aO) aC K)
    | some (j,want)=>match cls o.op with
      | 0=>bS (gd (match gX ops j with | some t=>τ t | none=>undef) want (lj P E (iN τ) o.op G fun v G'=>some (v,G')) G) fun v _=>oy N ops ms base (i+1) r (pA N τ o.dst v) G aO aC K
      | 1=>bS (gd (match gX ops j with | some t=>τ t | none=>undef) want (if dL o.op then bP (nv P (iN τ) o.op G) fun v=>some (v,G) else none) G) fun v _ =>
          iM (fun h=>!(gB (match gX ops j with | some t=>τ t | none=>undef) want)||(!h.1||bp (nv P (iN τ) o.op h.2) v)) (jc (nth 0 ms i) aO)
          (oy N ops ms base (i+1) r (pA N τ o.dst v) G aO ((i,fun G'=>!(gB (match gX ops j with | some t=>τ t | none=>undef) want)||bp (nv P (iN τ) o.op G') v)::aC) K)
      | 2=>bS (gd (match gX ops j with | some t=>τ t | none=>undef) want (lj P E (iN τ) o.op (G.aS (base+i)) fun v G'=>some (v,G'.back G)) G) fun v G'=>oy N ops ms base (i+1) r (pA N τ o.dst v) G' aO aC K
      | _=>bS (gd (match gX ops j with | some t=>τ t | none=>undef) want (lj P E (iN τ) o.op G fun v G'=>some (v,G')) G) fun v G' =>
          iM (fun c=>!(gB (match gX ops j with | some t=>τ t | none=>undef) want)||c G') (jc (nth 0 ms i) aC) (oy N ops ms base (i+1) r (pA N τ o.dst v) G' ((i,gB (match gX ops j with | some t=>τ t | none=>undef) want,G)::aO) aC K)
def wX (hl:List (Nat×Bool×GS)) (eg:List (Nat×GS)):Prop:=∀ (m:Nat) (f:GS→Bool),((jc m hl).all fun h=>!h.1||f h.2)=eg.all fun h=>m.testBit h.1||f h.2
def wY (pl:List (Nat×(GS→Bool))) (wZ:List fe):Prop:=∀ (m:Nat) (G':GS),((jc m pl).all fun c=>c G')=wZ.all fun p=>m.testBit p.i||bp (fv P p.T p.op G') p.v
theorem wX.yes {hl:List (Nat×Bool×GS)} {eg:List (Nat×GS)} (h:wX hl eg) (i:Nat) (G:GS):wX ((i,true,G)::hl) ((i,G)::eg):=fun m f=>by
  have:=h m f
  rw [wR] at this ⊢
  simp only [List.all_cons,this,Bool.not_true,Bool.false_or]
theorem wX.no {hl:List (Nat×Bool×GS)} {eg:List (Nat×GS)} (h:wX hl eg) (i:Nat) (G:GS):wX ((i,false,G)::hl) eg:=fun m f=>by
  have:=h m f
  rw [wR] at this ⊢
  simp only [List.all_cons,this,Bool.not_false,Bool.true_or,Bool.or_true,Bool.true_and]
variable {P} in
theorem wY.yes {pl:List (Nat×(GS→Bool))} {wZ:List fe} (h:wY P pl wZ) (i:Nat) (T:List Value) (op:Op) (v:Value) (c:GS→Bool) (hc:∀ G,c G=bp (fv P T op G) v):wY P ((i,c)::pl) (⟨i,T,op,v⟩::wZ):=fun m G'=>by
  have:=h m G'
  rw [wR] at this ⊢
  simp only [List.all_cons,this,hc]
variable {P} in
theorem wY.no {pl:List (Nat×(GS→Bool))} {wZ:List fe} (h:wY P pl wZ) (i:Nat) (c:GS→Bool) (hc:∀ G,c G=true):wY P ((i,c)::pl) wZ:=fun m G'=>by
  have:=h m G'
  rw [wR] at this ⊢
  simp only [List.all_cons,this,hc,Bool.or_true,Bool.true_and]
theorem IE {β:Type} {N:Nat} (ops:Array Oper) (ms:List Nat) (base:Nat):∀ (l:List Oper) (i:Nat) (T:List Value) (G:GS) (aO:List (Nat×Bool×GS)) (pn:List (Nat×GS)) (aC:List (Nat×(GS→Bool))) (nj:List fe) (K:Env→GS→Option β),T.length=N→wX aO pn →wY P aC nj →
    oy P E N ops ms base i l (nth undef T) G aO aC K=match ia P E ops ms base i l T G pn nj with | some (T',G')=>K (nth undef T') G' | none=>none
  | [],i,T,G,aO,pn,aC,nj,K,h,hh,hp=>rfl
  | o::r,i,T,G,aO,pn,aC,nj,K,h,hh,hp=>by
    have ih:=fun v G' aO pn aC nj=>IE ops ms base r (i+1) (aW T o.dst v) G' aO pn aC nj K ((tI _ _ _).trans h)
    have eL:dL o.op=true→∀ (G:GS) (K':Value→GS→Option β),lj P E (ev T) o.op G K' =bS (lf P E (cls o.op) T G o.op) K':=fun hk G K'=>by rw [Em,y8]; unfold oe; rw [if_pos hk]
    have Yl:dL o.op=true→∀ (G:GS) (K':Value→GS→Option (Value×GS)),lj P E (ev T) o.op G K' =bS (lf P E (cls o.op) T G o.op) K':=fun hk G K'=>by rw [Em,y8]; unfold oe; rw [if_pos hk]
    have od:dL o.op=false→∀ (γ:Type) (e:Operand→Value) (G:GS) (K':Value→GS→Option γ),lj P E e o.op G K' =none:=fun hk γ e G K'=>by unfold lj; rw [hk]; rfl
    simp only [oy,ia,vj,za,IC h]
    cases hg:o.guard with
    | none =>
      have hw:dx ops T o=true:=by simp [dx,hg]
      simp only [hw,if_true]
      by_cases hk:dL o.op=true
      case neg =>
        have iI:dL o.op=false:=by simpa using hk
        simp only [iI,od iI,Bool.false_eq_true,if_false]
        split<;>rfl
      have nt:=eL hk
      simp only [hk,if_true]
      unfold wM
      generalize hc:cls o.op=n at nt ⊢
      match n with
      | 0 =>
        simp only [nt,d0,lf,kZ]
        cases rT P T o.op with
        | none=>rfl
        | some v=>exact ih _ _ _ _ _ _ hh hp
      | 1 =>
        simp only [d1,P1]
        cases fv P T o.op G with
        | none=>rfl
        | some v =>
          have:=hh (nth 0 ms i) fun G=>bp (fv P T o.op G) v
          simp only [Bz,wQ,this]
          split
          · exact ih _ _ _ _ _ (⟨i,T,o.op,v⟩::nj) hh (hp.yes i T o.op v _ fun G=>rfl)
          · rfl
      | 2 =>
        simp only [nt,d2,lf]
        show (bS (rU P T o.op { G with nx:=base+i }) _)=_
        rcases rU P T o.op { G with nx:=base+i } with _ | ⟨v,G'⟩
        · rfl
        · exact ih _ _ _ _ _ _ hh hp
      | n+3 =>
        simp only [nt,d3,lf]
        rcases fK P E T o.op G with _ | ⟨v,G'⟩
        · rfl
        · have:=hp (nth 0 ms i) G'
          simp only [y6,wQ,this]
          split
          · exact ih _ _ _ _ _ _ (hh.yes i G) hp
          · rfl
    | some jw =>
      obtain ⟨j,want⟩:=jw
      have hw:dx ops T o=gB (tK T (gX ops j)) want:=by simp only [dx,hg]; exact PO ops T j want
      have hv:(match gX ops j with | some t=>nth undef T t | none=>undef)=tK T (gX ops j):=rfl
      simp only [hw,hv,gd]
      by_cases hb:gB (tK T (gX ops j)) want=true
      case neg =>
        have fG:gB (tK T (gX ops j)) want=false:=by simpa using hb
        simp only [fG,Bool.false_eq_true,if_false,y6,wQ,Bool.not_false,Bool.true_or,List.all_eq_true,implies_true,if_true]
        split
        · exact ih _ _ _ _ _ _ hh hp
        · exact ih _ _ _ _ _ _ hh (hp.no i _ fun _=>rfl)
        · exact ih _ _ _ _ _ _ hh hp
        · exact ih _ _ _ _ _ _ (hh.no i G) hp
      simp only [hb,if_true,Bool.not_true,Bool.false_or]
      by_cases hk:dL o.op=true
      case neg =>
        have iI:dL o.op=false:=by simpa using hk
        simp only [iI,od iI,Bool.false_eq_true,if_false]
        split<;>rfl
      have nt:=Yl hk
      simp only [hk,if_true]
      unfold wM
      generalize hc:cls o.op=n at nt ⊢
      match n with
      | 0 =>
        simp only [nt,d0,lf,kZ]
        cases rT P T o.op with
        | none=>rfl
        | some v=>exact ih _ _ _ _ _ _ hh hp
      | 1 =>
        simp only [d1,P1]
        cases fv P T o.op G with
        | none=>rfl
        | some v =>
          have:=hh (nth 0 ms i) fun G=>bp (fv P T o.op G) v
          simp only [Bz,y6,wQ,this]
          split
          · exact ih _ _ _ _ _ (⟨i,T,o.op,v⟩::nj) hh (hp.yes i T o.op v _ fun G=>rfl)
          · rfl
      | 2 =>
        simp only [nt,d2,lf]
        show (bS (bS (rU P T o.op { G with nx:=base+i }) _) _)=_
        rcases rU P T o.op { G with nx:=base+i } with _ | ⟨v,G'⟩
        · rfl
        · exact ih _ _ _ _ _ _ hh hp
      | n+3 =>
        simp only [nt,d3,lf]
        rcases fK P E T o.op G with _ | ⟨v,G'⟩
        · rfl
        · have:=hp (nth 0 ms i) G'
          simp only [y6,wQ,this]
          split
          · exact ih _ _ _ _ _ _ (hh.yes i G) hp
          · rfl
def xe {β:Type} (id:Nat) (K:Exit→Env→GS→Option β) (e:Exit) (τ:Env) (G:GS):Option β:=match e with
  | .exit gQ=>bif Nat.beq gQ id then K .normal τ G else K (.exit gQ) τ G
  | e=>K e τ G
def fU {β:Type} (b:Env→GS→Option β) (K:Exit→Env→GS→Option β) (e:Exit) (τ:Env) (G:GS):Option β:=match e with
  | .normal=>b τ G
  | e=>K e τ G
def tM {β:Type} (l:List Exit) (e:Exit) (τ:Env) (G:GS) (K:Exit→Env→GS→Option β):Option β:=match l with
  | []=>none
  | x::r=>dP e x (K x τ G) (tM r e τ G K)
theorem P2 {β:Type} (e:Exit) (T:List Value) (G:GS) (K:Exit→Env→GS→Option β):∀ l:List Exit,tM l e (nth undef T) G K=mc l e T G fun e T' G'=>K e (nth undef T') G'
  | []=>rfl
  | x::r=>by simp only [tM,mc,P2 e T G K r]
def P4 {β:Type} (N:Nat) (b:Code) (K:Exit→Env→GS→Option β) (e:Exit) (τ:Env) (G:GS):Option β:=match e with
  | .goto l=>match findLabel b l with
    | some rest=>bX (E.sc b rest (aG N τ) G) fun e T2 G2=>tM (.normal::jG b) e (nth undef T2) G2 K
    | none=>K (.goto l) τ G
  | e=>K e τ G
def fM {β:Type} (N:Nat):Code→Env→GS→(Exit→Env→GS→Option β)→Option β
  | .skip,τ,G,K=>K .normal τ G
  | .label _,τ,G,K=>K .normal τ G
  | .seq a b,τ,G,K=>fM N a τ G (fU (fun τ G=>fM N b τ G K) K)
  | .cond x a b,τ,G,K=>if db x then bl (iN τ x) (fM N a τ G K) (fM N b τ G K) else none
  | .block id b,τ,G,K=>fM N b τ G (xe id K)
  | .loop b,τ,G,K=>bX (E.lp b (aG N τ) G) fun e T' G'=>tM (jG b) e (nth undef T') G' K
  | .exit id,τ,G,K=>K (.exit id) τ G
  | .goto l,τ,G,K=>K (.goto l) τ G
  | .ret,τ,G,K=>K .ret τ G
  | .scope b,τ,G,K=>fM N b τ G (P4 E N b K)
  | .region _ ops draw,τ,G,K =>
    if draw then
      if uO ops then
        oy P E N ops (masks ops.toList []) G.nx 0 ops.toList τ (G.room ops.size) [] [] fun τ G=>K .normal τ G
      else none
    else wV P E N ops ops.toList τ G fun τ G=>K .normal τ G
  | .rangeFunc f ps assign body,τ,G,K=>if db f then bX (gE E (iN τ f) ps assign body (aG N τ) G) fun e T' G'=>tM (.normal::jG body) e (nth undef T') G' K else none
  | .refuse _,_,_,_=>none
theorem IF {β:Type} {N:Nat} {E':Option (Exit×List Value×GS)} (l:List Exit) (K:Exit→Env→GS→Option β) (h:∀ e T' G',E' =some (e,T',G')→T'.length=N) :
    (bX E' fun e T' G'=>tM l e (nth undef T') G' K)=bX E' fun e T' G'=>mc l e (pz N T') G' fun e T' G'=>K e (nth undef T') G':=by
  rcases E' with _ | ⟨e,T',G'⟩
  · rfl
  · simp only [j7,oh (h _ _ _ rfl),P2]
theorem En {β:Type} {N:Nat} (hE:E.yX):∀ (c:Code) (T:List Value) (G:GS) (K:Exit→Env→GS→Option β),T.length=N →
    fM P E N c (nth undef T) G K=gh P E N c T G fun e T' G'=>K e (nth undef T') G':=by
  intro c
  have mono:∀ (c:Code) (T:List Value) (G:GS) (K K':Exit→List Value→GS→Option β),T.length=N→(∀ e T' G',T'.length=N→K e T' G' =K' e T' G')→gh P E N c T G K=gh P E N c T G K':=by
    intro c
    have hd:∀ (l:List Exit) (e:Exit) (T:List Value) (G:GS) (K K':Exit→List Value→GS→Option β),T.length=N→(∀ e T' G',T'.length=N→K e T' G' =K' e T' G')→mc l e T G K=mc l e T G K':=by
      intro l
      induction l with
      | nil=>intros; rfl
      | cons x r ih=>intro e T G K K' h hK; simp only [mc,hK _ _ _ h,ih e T G K K' h hK]
    induction c with
    | seq a b ff fg =>
      intro T G K K' h hK
      refine ff T G _ _ h fun e T' G' h'=>?_
      cases e with
      | normal=>exact fg T' G' K K' h' hK
      | _=>exact hK _ _ _ h'
    | cond x a b ff fg =>
      intro T G K K' h hK
      simp only [gh,ff T G K K' h hK,fg T G K K' h hK]
    | block id b ih =>
      intro T G K K' h hK
      refine ih T G _ _ h fun e T' G' h'=>?_
      cases e with
      | exit gQ=>simp only [y9,hK _ _ _ h']
      | _=>exact hK _ _ _ h'
    | loop b ih =>
      intro T G K K' h hK
      simp only [gh]
      rcases hx:E.lp b T G with _ | ⟨e,T',G'⟩
      · rfl
      · exact hd _ _ _ _ _ _ ((congrArg List.length (oh ((hE.lp _ _ _ _ _ _ hx).trans h))).trans ((hE.lp _ _ _ _ _ _ hx).trans h)) hK
    | scope b ih =>
      intro T G K K' h hK
      refine ih T G _ _ h fun e T' G' h'=>?_
      cases e with
      | goto l =>
        simp only [Ej]
        cases findLabel b l with
        | none=>exact hK _ _ _ h'
        | some rest =>
          simp only
          rcases hx:E.sc b rest T' G' with _ | ⟨e,T2,G2⟩
          · rfl
          · exact hd _ _ _ _ _ _ ((congrArg List.length (oh ((hE.sc _ _ _ _ _ _ _ hx).trans h'))).trans ((hE.sc _ _ _ _ _ _ _ hx).trans h')) hK
      | _=>exact hK _ _ _ h'
    | region id ops draw =>
      intro T G K K' h hK
      have P5:∀ e T' G',jZ P E ops T G=some (e,T',G')→T'.length=N:=by
        intro e T' G' hx
        unfold jZ px at hx
        split at hx
        · split at hx
          · rename_i hd
            cases hx
            exact (yY P _ _ _ _ _ _ _ _ _ _ _ _ hd).trans h
          · cases hx
        · cases hx
      simp only [gh]
      split
      · split
        · split
          · rename_i hn
            have h1:=fun K=>BG (β:=β) P E ops (masks ops.toList []) G.nx ops.toList 0 T { G with nx:=G.nx+ops.size } [] [] K hn
            simp only [List.map_nil] at h1
            rw [h1,h1]
            rcases hy:ia P E ops (masks ops.toList []) G.nx 0 ops.toList T { G with nx:=G.nx+ops.size } [] [] with _ | ⟨T',G'⟩
            · rfl
            · exact hK _ _ _ ((yY P _ _ _ _ _ _ _ _ _ _ _ _ hy).trans h)
          · rcases hx:jZ P E ops T G with _ | ⟨e,T',G'⟩
            · rfl
            · exact hd _ _ _ _ _ _ ((congrArg List.length (oh (P5 _ _ _ hx))).trans (P5 _ _ _ hx)) hK
        · rfl
      · rw [BF,BF]
        rcases hy:lg P E ops ops.toList T G with _ | ⟨T',G'⟩
        · rfl
        · exact hK _ _ _ ((Eg P _ _ _ _ _ _ _ hy).trans h)
    | rangeFunc f ps assign body ff fg =>
      intro T G K K' h hK
      simp only [gh]
      split
      · rcases hx:gE E (ev T f) ps assign body T G with _ | ⟨e,T',G'⟩
        · rfl
        · have hl:T'.length=N:=by
            unfold gE qG at hx
            split at hx
            · split at hx
              · split at hx
                · split at hx
                  · cases hx
                  · split at hx
                    · cases hx; exact h
                    · cases hx
                · cases hx
              · cases hx
            · cases hx
          exact hd _ _ _ _ _ _ ((congrArg List.length (oh hl)).trans hl) hK
      · rfl
    | refuse w=>intros; rfl
    | _=>intro T G K K' h hK; exact hK _ _ _ h
  induction c with
  | skip=>intros; rfl
  | label l=>intros; rfl
  | exit l=>intros; rfl
  | goto l=>intros; rfl
  | ret=>intros; rfl
  | refuse w=>intros; rfl
  | seq a b ff fg =>
    intro T G K h
    simp only [fM,gh]
    rw [ff T G _ h]
    refine mono a T G _ _ h fun e T' G' h'=>?_
    cases e with
    | normal=>exact fg T' G' K h'
    | _=>rfl
  | cond x a b ff fg =>
    intro T G K h
    simp only [fM,gh,za,ff T G K h,fg T G K h]
  | block id b ih =>
    intro T G K h
    simp only [fM,gh]
    rw [ih T G _ h]
    refine mono b T G _ _ h fun e T' G' h'=>?_
    cases e with
    | exit gQ =>
      simp only [xe,y9]
      by_cases he:gQ =id
      · subst he; simp [Nat.beq_refl]
      · have:Nat.beq gQ id=false:=by
          cases hb:Nat.beq gQ id
          · rfl
          · exact absurd (Nat.eq_of_beq_eq_true hb) he
        simp [this,he]
    | _=>rfl
  | loop b ih =>
    intro T G K h
    simp only [fM,gh,zb h]
    exact IF _ K fun e T' G' hx=>(hE.lp _ _ _ _ _ _ hx).trans h
  | scope b ih =>
    intro T G K h
    simp only [fM,gh]
    rw [ih T G _ h]
    refine mono b T G _ _ h fun e T' G' h'=>?_
    cases e with
    | goto l =>
      simp only [P4,Ej]
      cases findLabel b l with
      | none=>rfl
      | some rest =>
        simp only [zb h']
        exact IF _ K fun e T2 G2 hx=>(hE.sc _ _ _ _ _ _ _ hx).trans h'
    | _=>rfl
  | region id ops draw =>
    intro T G K h
    simp only [fM,gh]
    split
    · split
      · split
        · rename_i hn
          have h1:=BG P E ops (masks ops.toList []) G.nx ops.toList 0 T { G with nx:=G.nx+ops.size } [] [] (fun T' G'=>K .normal (nth undef T') G') hn
          rw [List.map_nil] at h1
          rw [h1]
          exact IE P E ops _ _ _ _ _ _ _ [] _ [] _ h (fun _ _=>rfl) (fun _ _=>rfl)
        · rename_i Ym hn
          refine (IE P E ops _ _ _ _ _ _ _ [] _ [] _ h (fun _ _=>rfl) (fun _ _=>rfl)).trans ?_
          have hx:jZ P E ops T G=px (ia P E ops (masks ops.toList []) G.nx 0 ops.toList T { G with nx:=G.nx+ops.size } [] []):=by unfold jZ; rw [if_pos Ym]
          rw [hx]
          show (match ia P E ops (masks ops.toList []) G.nx 0 ops.toList T { G with nx:=G.nx+ops.size } [] [] with | some (T',G')=>K .normal (nth undef T') G' | none=>none)=_
          rcases hd:ia P E ops (masks ops.toList []) G.nx 0 ops.toList T { G with nx:=G.nx+ops.size } [] [] with _ | ⟨T',G'⟩
          · rfl
          · simp only [px,j7,mc,Yg,oh ((yY P _ _ _ _ _ _ _ _ _ _ _ _ hd).trans h)]
      · rfl
    · exact PZ P E ops _ _ _ _ h
  | rangeFunc f ps assign body ff fg =>
    intro T G K h
    simp only [fM,gh,za,zb h]
    split
    · refine IF _ K fun e T' G' hx=>?_
      unfold gE qG at hx
      split at hx
      · split at hx
        · split at hx
          · split at hx
            · cases hx
            · split at hx
              · cases hx; exact h
              · cases hx
          · cases hx
        · cases hx
      · cases hx
    · rfl
def vx {β:Type} (τ:Env) (G:GS):List ResultVar→(List Value→Option β)→Option β
  | [],K=>K []
  | .tmp t::r,K=>vx τ G r fun l=>K (τ t::l)
  | .cell a t::r,K=>bP (jE P t (τ a) G) fun v=>vx τ G r fun l=>K (v::l)
theorem IG {β:Type} (T:List Value) (G:GS):∀ (l:List ResultVar) (K:List Value→Option β),vx P (nth undef T) G l K=tL P T G l K
  | [],K=>rfl
  | .tmp t::r,K=>by simp only [vx,tL,IG T G r]
  | .cell a t::r,K=>by simp only [vx,tL,IG T G r]
def j8 (results:List ResultVar) (e:Exit) (τ:Env) (G:GS):Option (Value×GS):=if rK e then vx P τ G results fun l=>some (uP l,G) else none
def flat:Code→Bool
  | .seq a b=>flat a&&flat b
  | .cond _ a b=>flat a&&flat b
  | .block _ b=>flat b
  | .region _ ops draw=>!draw||wP ops.toList
  | .loop _=>false
  | .scope _=>false
  | .rangeFunc ..=>false
  | _=>true
end
section
variable (P:Program) (ae:FuncId→Bool)
theorem P6 (vs:List Value) (k:Nat):nth undef (vs++List.replicate k undef)=nth undef vs:=by
  funext j
  rw [ju,ju]
  simp only [List.getD_eq_getElem?_getD,List.getElem?_append,List.getElem?_replicate]
  split
  · rfl
  · rw [List.getElem?_eq_none (by omega)]
    split<;>rfl
theorem P7 {vs:List Value} {n:Nat} (hl:Nat.ble vs.length n=true):(vs++List.replicate (n - vs.length) undef).length=n:=by
  have:=Nat.le_of_ble_eq_true hl; simp; omega
theorem P8 (T:List Value) (rs:List ResultVar) (e:Exit) (G:GS):j8 P rs e (nth undef T) G=BH P rs e T G:=by
  unfold j8 BH
  rw [IG]
theorem zd {f:FuncId} {fn:Func} {vs:List Value} (G:GS) (hf:P.funcs[f]? =some fn) (hn:(fn.name == "runtime.NumGoroutine")=false) (hb:fn.body.isSome=true) (ho:(vs.isEmpty&&ae f)=false) (hp:py P ae f=false) (hl:Nat.ble vs.length fn.ntmps=true)
    {x:Option (Value×GS)} {r:Value×GS} (hx:fM P (aD P ae) fn.ntmps (aL fn) (nth undef vs) G (j8 P fn.results.toList)=x) (h:x=some r):(aD P ae).cl f vs G=some r:=by
  refine Yh P ae G hf hn hb ho hp hl ?_ (hx.trans h)
  rw [← P6 vs (fn.ntmps - vs.length),En P (aD P ae) (tJ P ae) _ _ _ _ (P7 hl)]
  simp only [P8]
def Eo (N:Nat):List Nat→List Value→Env→Env
  | p::ps,v::vs,τ=>Eo N ps vs (wS N τ p v)
  | _,_,τ=>τ
theorem P9 {N:Nat}:∀ (ps:List Nat) (vs T:List Value),T.length=N→Eo N ps vs (nth undef T)=nth undef (lS ps vs T)
  | [],vs,T,h=>by cases vs<;>rfl
  | p::ps,[],T,h=>rfl
  | p::ps,v::vs,T,h=>by
    simp only [Eo,lS,PY h]
    exact P9 ps vs _ ((yW _ _ _).trans h)
theorem IH {l N:Nat} {vs:List Value} {G:GS} {st:LoopState} {aC:Option Code} {T:List Value} {ps:List Nat} {assign body:Code} (hl:G.loop l=some ⟨st,aC,T,ps,assign,body⟩) (hp:ps.length=vs.length) (hT:T.length=N)
    {x:Option (Value×GS)} {r:Value×GS} (hx:fM P (aD P ae) N assign (Eo N ps vs (nth undef T)) G (fU (fun τ G1=>bP (G1.loop l) fun r1=>if r1.st= .ready then fM P (aD P ae) N body τ (G1.bR l (r1.gf .busy)) (fun e _ G2=>me l e G2) else none) fun _ _ _=>none)=x) (hr:x=some r) :
    (aD P ae).rd l vs G=some r:=by
  have hL:=tJ P ae
  have h1:=hx.trans hr
  have qy:(lS ps vs T).length=N:=(PX _ _ _).trans hT
  rw [P9 _ _ _ hT,En P (aD P ae) hL _ _ _ _ qy] at h1
  replace h1:=Ek P ae _ _ _ _ _ qy h1
  rw [Yi P ae hl hp hT,rZ P ae _ _ _ _ qy]
  rcases hy:(aD P ae).ex assign (lS ps vs T) G with _ | ⟨e,T1,G1⟩
  · rw [hy] at h1; exact h1
  · rw [hy] at h1
    have ph:=(hL.ex _ _ _ _ _ _ hy).trans qy
    cases e with
    | normal =>
      simp only [j7,vr,fU,IA] at h1 ⊢
      cases hg:G1.loop l with
      | none=>rw [hg] at h1; exact h1
      | some r1 =>
        rw [hg] at h1
        simp only [Bz] at h1 ⊢
        split at h1
        · rename_i au
          rw [if_pos au,rZ P ae _ _ _ _ ph]
          rw [En P (aD P ae) hL _ _ _ _ ph] at h1
          exact Ek P ae _ _ _ _ _ ph h1
        · cases h1
    | _=>exact h1
end
def aU:List Nat→Code→Code
  | [],c=>c
  | n::r,c=>match c with
    | .seq a b=>match n with | 0=>aU r a | _=>aU r b
    | .cond _ a b=>match n with | 0=>aU r a | _=>aU r b
    | .block _ b=>aU r b
    | .loop b=>aU r b
    | .scope b=>aU r b
    | .rangeFunc _ _ a b=>match n with | 0=>aU r a | _=>aU r b
    | c=>c
def GS.cell (G:GS) (b o:Nat):Option Value:=match G.obj b with | some ob=>if ob.mode=2 then none else ob.cells[o]? | none=>none
def GS.BI (G:GS) (b o n:Nat):Option (List Value):=match G.obj b with | some ob=>if ob.mode=2 then none else (if o+n≤ob.cells.length then some ((ob.cells.drop o).take n) else none) | none=>none
theorem Ep {α:Type}:∀ (n:Nat) (l:List α),takeN n l=if n≤l.length then some (l.take n) else none
  | 0,l=>by simp [Di]
  | n+1,[]=>by simp [MA]
  | n+1,x::xs=>by
    rw [MB,Ep n xs]
    by_cases h:n≤xs.length<;>simp [h]
theorem II (G:GS) (b o n:Nat) (hn:0<n):fC G b o n=G.BI b o n:=by
  unfold fC GS.BI
  cases G.obj b with
  | none=>rfl
  | some ob =>
    simp only
    split
    · rfl
    · rw [Ep,yu,List.length_drop]
      by_cases h:o+n≤ob.cells.length
      · rw [if_pos h,if_pos (by omega)]
      · rw [if_neg h,if_neg (by omega)]
theorem Yn (b o:Nat) (G:GS):Bs b o G=G.cell b o:=by
  unfold Bs
  rw [II _ _ _ _ (by omega)]
  unfold GS.BI GS.cell
  cases G.obj b with
  | none=>rfl
  | some ob =>
    simp only
    by_cases hm:ob.mode=2
    · rw [if_pos hm,if_pos hm]
    · rw [if_neg hm,if_neg hm]
      by_cases h:o+1≤ob.cells.length
      · rw [if_pos h]
        have h':o<ob.cells.length:=by omega
        rw [List.getElem?_eq_getElem h',List.drop_eq_getElem_cons h']
        rfl
      · rw [if_neg h,List.getElem?_eq_none (by omega)]
def fO (n b o:Nat) (G:GS):Option Value:=match fC G b o n with | some l=>some (.agg ⟨l⟩) | none=>none
def lq (n b o:Nat) (v:Value) (G:GS):Option GS:=if v.cells.size=n then lR G b o v.cells.toList else none
def gY {α:Type} (l:List α) (o:Nat) (vs:List α):List α:=l.take o++vs++l.drop (o+vs.length)
theorem Er {α:Type}:∀ (l:List α) (o:Nat) (vs:List α),splice l o vs=if o+vs.length≤l.length then some (gY l o vs) else none
  | l,0,[]=>by simp [cg,gY]
  | [],n+1,vs=>by cases vs<;>simp [MC]
  | [],0,_::_=>by simp [MD]
  | x::xs,n+1,vs=>by
    rw [gA,Er xs n vs]
    have e:n+1+vs.length≤(x::xs).length↔n+vs.length≤xs.length:=by simp; omega
    by_cases h:n+vs.length≤xs.length
    · rw [if_pos h,if_pos (e.2 h)]
      simp [gY,Nat.add_right_comm]
    · rw [if_neg h,if_neg (fun h'=>h (e.1 h'))]
  | x::xs,0,v::vs=>by
    rw [ch,Er xs 0 vs]
    have e:0+(v::vs).length≤(x::xs).length↔0+vs.length≤xs.length:=by simp
    by_cases h:0+vs.length≤xs.length
    · rw [if_pos h,if_pos (e.2 h)]
      simp [gY]
    · rw [if_neg h,if_neg (fun h'=>h (e.1 h'))]
theorem Qa {α:Type}:∀ (l:List α) (o:Nat) (v:α),o<l.length→gY l o [v]=l.set o v
  | [],o,v,h=>by simp at h
  | x::xs,0,v,h=>by simp [gY]
  | x::xs,o+1,v,h=>by
    have:=Qa xs o v (by simpa using h)
    simp only [gY,List.length_singleton] at this ⊢
    simp [this,Nat.add_right_comm]
def bK.over (ob:bK) (o:Nat) (vs:List Value):bK:={ ob with cells:=gY ob.cells o vs }
theorem Qb {G:GS} {b o:Nat} {vs:List Value} {ob:bK} (h:G.obj b=some ob) (hm:ob.mode=1) (hv:vs.all one=true) (hl:o+vs.length≤ob.cells.length):lR G b o vs=some (G.put b (ob.over o vs)):=by
  unfold lR
  rw [h]
  simp [hm,hv,Er,hl,bK.over]
def oz:List Value→List (Nat×Nat×Value)→Option (List Value)
  | cells,[]=>some cells
  | cells,(off,size,v)::rest=>if v.cells.size=size then (match splice cells off v.cells.toList with | some c=>oz c rest | none=>none) else none
def sa (z:List Value) (l:List (Nat×Nat×Value)):Option Value:=match oz z l with | some c=>some (.agg ⟨c⟩) | none=>none
def pC (z:List Value) (l:List (Nat×Nat×Value)) (len s:Nat) (G:GS):Option (Value×GS):=match oz z l with | some c=>some (.slice (some ⟨G.nx,0,none⟩) len len,iU G c s) | none=>none
def zs (n:Nat) (v:Value):List Value:=Nat.rec (motive:=fun _=>List Value) [] (fun _ ih=>v::ih) n
@[simp] theorem Yo (v:Value):∀ n:Nat,zs n v=List.replicate n v
  | 0=>rfl
  | n+1=>by rw [List.replicate_succ,← Yo v n]; rfl
def qJ (size bytes:Nat) (z:List Value) (l c:Int) (G:GS):Option (Value×GS) :=
  if 0 ≤ l ∧ l ≤ c ∧ size ≠ 0 ∧ bytes * c ≤ 2 ^ 48 ∧ IntKind.i64.wrap l = l ∧ IntKind.i64.wrap c = c then
          some (.slice (some ⟨G.nx,0,none⟩) l.toNat c.toNat,iU G (rep z c.toNat) size) else none
def j9 (fV ib:Nat) (s x:Value) (G:GS):Option (Value×GS) :=
  if fV=0∨ib=0 then none else
      match x with
      | .slice _ n _ =>
        match elems fV n x G with
        | none=>none
        | some new=>if !(new.all one) then none else
          match s with
          | .slice none 0 0 =>
            if n=0 then some (.slice none 0 0,G)
            else if (2*n+1000)*ib≤2 ^ 48 then some (.slice (some ⟨G.nx,0,none⟩) n n,G.push ⟨new,fV,true,1⟩)
            else none
          | .slice (some a) len cap =>
            if n=0 then some (.slice (some a) len cap,G) else
            match G.obj a.block with
            | none=>none
            | some o =>
              if len+n≤cap then
                match lR G a.block (a.off+len*fV) new with
                | some G'=>some (.slice (some a) (len+n) cap,G')
                | none=>none
              else match fC G a.block a.off (len*fV) with
                | none=>none
                | some old =>
                  if (2*(len+n)+1000)*ib≤2 ^ 48 then
                    if o.opn&&a.off+cap*o.esz=o.cells.length then
                      if o.mode=1&&o.esz=fV then
                        some (.slice (some ⟨G.nx,0,none⟩) (len+n) (len+n),(G.put a.block { o with mode:=2 }).push ⟨old++new,fV,true,1⟩)
                      else none
                    else some (.slice (some ⟨G.nx,0,none⟩) (len+n) (len+n),G.push ⟨old++new,fV,true,1⟩)
                  else none
          | _=>none
      | _=>none
def IJ (s:Nat) (x:Value) (low high max:Option Value) (G:GS):Option Value :=
  match x with
  | .slice none 0 0 =>
    match bound max 0 0 with
    | some m=>match high,max with
      | none,some _=>none
      | _,_=>match bound high 0 m with
        | some h=>match bound low 0 h with
          | some _=>some (.slice none 0 0)
          | none=>none
        | none=>none
    | none=>none
  | .slice (some a) len cap =>
    match G.obj a.block with
    | some o=>if o.opn&&s != o.esz then none else
      match bound max cap cap with
      | some m=>match high,max with
        | none,some _=>none
        | _,_=>match bound high len m with
          | some h=>match bound low 0 h with
            | some l=>if h≤m then some (.slice (some ⟨a.block,a.off+l*s,none⟩) (h - l) (m - l)) else none
            | none=>none
          | none=>none
      | none=>none
    | none=>none
  | _=>none
def ze (n s:Nat) (x:Value) (low high max:Option Value):Option Value :=
  match x with
  | .pointer (some a) =>
      match bound max n n with
      | some m=>match high,max with
        | none,some _=>none
        | _,_=>match bound high n m with
          | some h=>match bound low 0 h with
            | some l=>if h≤m then some (.slice (some ⟨a.block,a.off+l*s,none⟩) (h - l) (m - l)) else none
            | none=>none
          | none=>none
      | none=>none
  | _=>none
def IK (z:Nat) (d s:Value) (G:GS):Option (Value×GS) :=
  match d,s with
    | .slice base dl _,.slice _ sl _ =>
      match elems z (Nat.min sl dl) s G with
      | some new=>match base with
        | none=>some (.int .i64 (Nat.min sl dl),G)
        | some a=>if new=[] then some (.int .i64 (Nat.min sl dl),G) else
          match lR G a.block a.off new with
          | some G'=>some (.int .i64 (Nat.min sl dl),G')
          | none=>none
      | none=>none
    | _,_=>none
end
end Go.Proofs.YtkhlabammcghbaaGreat.Gh
