import Derived.Test.YtphandknhnkhfaaGreatGhM
namespace Go.Proofs.YtphandknhnkhfaaGreat.Gh
open Go
set_option linter.unusedVariables false
set_option linter.unusedSimpArgs false
noncomputable section
theorem yv:∀ (l:List Value) (n:Nat) (v:Value),(nR l n v).length=l.length
  | [],_,_=>by simp [Fz]
  | _::_,0,_=>by simp [FA]
  | x::l,n+1,v=>by simp [FC,yv l n v]
theorem tH (T:List Value) (d:Option Tmp) (v:Value):(bf T d v).length=T.length:=by
  cases d with
  | none=>rfl
  | some t=>exact yv T t v
structure Ev.yw (E:Ev):Prop where
  ex:∀ c T G e T' G',E.ex c T G=some (e,T',G')→T'.length=T.length
  sc:∀ b c T G e T' G',E.sc b c T G=some (e,T',G')→T'.length=T.length
  lp:∀ c T G e T' G',E.lp c T G=some (e,T',G')→T'.length=T.length
section
variable (P:Program)
theorem Dr (E:Ev) (ops:Array Oper):∀ (l:List Oper) (T:List Value) (G:GS) (T':List Value) (G':GS),lI P E ops l T G=some (T',G')→T'.length=T.length
  | [],T,G,T',G',h=>by simp [lI] at h; rw [h.1]
  | o::r,T,G,T',G',h=>by
    simp only [lI] at h
    split at h
    · split at h
      · exact (Dr E ops r _ _ _ _ h).trans (tH _ _ _)
      · cases h
    · exact (Dr E ops r _ _ _ _ h).trans (tH _ _ _)
theorem WX {E:Ev} {ops:Array Oper} {ms:List Nat} {base i:Nat} {o:Oper} {T:List Value} {G:GS} {aM:List (Nat×GS)} {aF:List fu} {a:DS} (h:uW P E ops ms base i o T G aM aF=some a):a.1.length=T.length:=by
  unfold uW at h
  split at h
  · split at h
    · unfold wB at h
      split at h
      · unfold d0 at h
        split at h<;>cases h
        exact tH _ _ _
      · unfold d1 at h
        split at h
        · split at h<;>cases h
          exact tH _ _ _
        · cases h
      · unfold d2 at h
        split at h<;>cases h
        exact tH _ _ _
      · unfold d3 at h
        split at h
        · split at h<;>cases h
          exact tH _ _ _
        · cases h
    · cases h
  · cases h
    exact tH _ _ _
theorem yx (E:Ev) (ops:Array Oper) (ms:List Nat) (base:Nat):∀ (l:List Oper) (i:Nat) (T:List Value) (G:GS) (aM:List (Nat×GS)) (aF:List fu) (T':List Value) (G':GS),im P E ops ms base i l T G aM aF=some (T',G')→T'.length=T.length
  | [],i,T,G,aM,aF,T',G',h=>by simp [im] at h; rw [h.1]
  | o::r,i,T,G,aM,aF,T',G',h=>by
    simp only [im] at h
    split at h
    · rename_i T1 G1 h1 p1 hd
      exact (yx E ops ms base r _ _ _ _ _ _ _ h).trans (WX P hd)
    · cases h
theorem WY {E:Ev} (hE:E.yw) {c:Code} {T:List Value} {G:GS} {e:Exit} {T':List Value} {G':GS} (h:m6 P E c T G=some (e,T',G')):T'.length=T.length:=by
  cases c with
  | seq a b =>
    simp only [m6,yo] at h
    split at h
    · rename_i T1 G1 ha
      exact (hE.ex _ _ _ _ _ _ h).trans (hE.ex _ _ _ _ _ _ ha)
    · exact hE.ex _ _ _ _ _ _ h
  | cond x a b =>
    simp only [m6,rK] at h
    split at h
    · split at h
      · exact hE.ex _ _ _ _ _ _ h
      · exact hE.ex _ _ _ _ _ _ h
      · cases h
    · cases h
  | block id b =>
    simp only [m6,rL] at h
    split at h
    · rename_i hb
      split at h<;>cases h<;>exact hE.ex _ _ _ _ _ _ hb
    · exact hE.ex _ _ _ _ _ _ h
  | loop b=>exact hE.lp _ _ _ _ _ _ h
  | scope b=>exact hE.sc _ _ _ _ _ _ _ h
  | region id ops draw =>
    simp only [m6] at h
    split at h
    · unfold kL pn at h
      split at h
      · split at h
        · rename_i hd
          cases h
          exact yx P _ _ _ _ _ _ _ _ _ _ _ _ hd
        · cases h
      · cases h
    · unfold wC pn at h
      split at h
      · rename_i hd
        cases h
        exact Dr P _ _ _ _ _ _ _ hd
      · cases h
  | rangeFunc f ps assign body =>
    simp only [m6] at h
    split at h
    · unfold gW qu at h
      split at h
      · split at h
        · split at h
          · split at h
            · cases h
            · split at h
              · cases h; rfl
              · cases h
          · cases h
        · cases h
      · cases h
    · cases h
  | refuse w=>cases h
  | _=>cases h; rfl
theorem WZ {E:Ev} (hE:E.yw) {b c:Code} {T:List Value} {G:GS} {e:Exit} {T':List Value} {G':GS} (h:oX E b c T G=some (e,T',G')):T'.length=T.length:=by
  simp only [oX] at h
  split at h
  · rename_i hx
    split at h
    · exact (hE.sc _ _ _ _ _ _ _ h).trans (hE.ex _ _ _ _ _ _ hx)
    · cases h
      exact hE.ex _ _ _ _ _ _ hx
  · exact hE.ex _ _ _ _ _ _ h
theorem W1 {E:Ev} (hE:E.yw) {b:Code} {T:List Value} {G:GS} {e:Exit} {T':List Value} {G':GS} (h:oY E b T G=some (e,T',G')):T'.length=T.length:=by
  simp only [oY] at h
  split at h
  · rename_i hx
    exact (hE.lp _ _ _ _ _ _ h).trans (hE.ex _ _ _ _ _ _ hx)
  · exact hE.ex _ _ _ _ _ _ h
theorem yy (ae:FuncId→Bool):∀ n,(gX P ae n).yw
  | 0=>⟨fun _ _ _ _ _ _ h=>by simp [gX,Ev.zero] at h,fun _ _ _ _ _ _ _ h=>by simp [gX,Ev.zero] at h,fun _ _ _ _ _ _ h=>by simp [gX,Ev.zero] at h⟩
  | n+1=>⟨fun _ _ _ _ _ _ h=>WY P (yy ae n) h,fun _ _ _ _ _ _ _ h=>WZ (yy ae n) h,fun _ _ _ _ _ _ h=>W1 (yy ae n) h⟩
theorem tI (ae:FuncId→Bool):(aC P ae).yw :=
  ⟨fun _ _ _ _ _ _ h=>let ⟨n,hn⟩:=rM h; (yy P ae n).ex _ _ _ _ _ _ hn,fun _ _ _ _ _ _ _ h=>let ⟨n,hn⟩:=rM h; (yy P ae n).sc _ _ _ _ _ _ _ hn,fun _ _ _ _ _ _ h=>let ⟨n,hn⟩:=rM h; (yy P ae n).lp _ _ _ _ _ _ hn⟩
end
def bP {α β:Type} (x:Option α) (k:α→Option β):Option β:=match x with | some a=>k a | none=>none
def bS {β:Type} (x:Option (Value×GS)) (k:Value→GS→Option β):Option β:=match x with | some (v,G)=>k v G | none=>none
def bX {β:Type} (x:Option (Exit×List Value×GS)) (k:Exit→List Value→GS→Option β):Option β:=match x with | some (e,T,G)=>k e T G | none=>none
def cD {β:Type} (v:Value) (a b:Option β):Option β:=match v with | .bool true=>a | .bool false=>b | _=>none
def gB (v:Value) (want:Bool):Bool:=match v with | .bool b=>b==want | _=>false
def gd (v:Value) (want:Bool) (x:Option (Value×GS)) (G:GS):Option (Value×GS):=if gB v want then x else some (undef,G)
def gp {β:Type} (b:Bool) (x:Option β):Option β:=if b then x else none
@[simp] theorem A0 {α β:Type} (a:α) (k:α→Option β):bP (some a) k=k a:=Eq.trans rfl rfl
@[simp] theorem yz {β:Type} (v:Value) (G:GS) (k:Value→GS→Option β):bS (some (v,G)) k=k v G:=Eq.trans rfl rfl
@[simp] theorem kN {β:Type} (e:Exit) (T:List Value) (G:GS) (k:Exit→List Value→GS→Option β):bX (some (e,T,G)) k=k e T G:=Eq.trans rfl rfl
@[simp] theorem aeC {β:Type} (a b:Option β):cD (.bool true) a b=a:=Eq.trans rfl rfl
@[simp] theorem aeD {β:Type} (a b:Option β):cD (.bool false) a b=b:=Eq.trans rfl rfl
@[simp] theorem aeE (b:Bool) (x:Option (Value×GS)) (G:GS):gd (.bool b) b x G=x:=by simp [gd,gB]
@[simp] theorem aeF (x:Option (Value×GS)) (G:GS):gd (.bool true) false x G=some (undef,G):=Eq.trans rfl rfl
@[simp] theorem aeG (x:Option (Value×GS)) (G:GS):gd (.bool false) true x G=some (undef,G):=Eq.trans rfl rfl
@[simp] theorem aeH {β:Type} (x:Option β):gp true x=x:=Eq.trans rfl rfl
@[congr] theorem aeI {α β:Type} {x y:Option α} (k:α→Option β) (h:x=y):bP x k=bP y k:=by rw [h]
@[congr] theorem aeJ {β:Type} {x y:Option (Value×GS)} (k:Value→GS→Option β) (h:x=y):bS x k=bS y k:=by rw [h]
@[congr] theorem aeK {β:Type} {x y:Option (Exit×List Value×GS)} (k:Exit→List Value→GS→Option β) (h:x=y):bX x k=bX y k:=by rw [h]
@[congr] theorem aeL {β:Type} {v u:Value} (a b:Option β) (h:v=u):cD v a b=cD u a b:=by rw [h]
@[congr] theorem aeM {v u:Value} (w:Bool) (x:Option (Value×GS)) (G:GS) (h:v=u):gd v w x G=gd u w x G:=by rw [h]
@[congr] theorem aeN {β:Type} {b c:Bool} (x:Option β) (h:b=c):gp b x=gp c x:=by rw [h]
def pq (c a b:Value):Option Value:=match c with | .bool t=>some (if t then a else b) | _=>none
@[simp] theorem aeO (t:Bool) (a b:Value):pq (.bool t) a b=some (if t then a else b):=Eq.trans rfl rfl
def uY (P:Program) (dA:Array TypeId) (vs:List Value):Option Value:=if vs.all plain then mO P (Builtin.min_ dA 0 ⟨vs⟩) else none
def uZ (P:Program) (dA:Array TypeId) (vs:List Value):Option Value:=if vs.all plain then mO P (Builtin.max_ dA 0 ⟨vs⟩) else none
def Ds (v:Value) (G:GS):Option (Value×GS):=some (.pointer (some ⟨G.nx,0,none⟩),jf G v.cells.toList 1)
def yA (P:Program) (t:TypeId) (len:Nat) (parts:List (Nat×Value)) (G:GS):Option (Value×GS):=match P.underlying t with
    | some (.slice e)=>match dN P e,nO P e with
      | some s,some z=>if s≠0∧len*s≤2 ^ 24 then
          (match qd (fun i=>some (i*s,s)) (rep z len) parts with
          | some c=>some (.slice (some ⟨G.nx,0,none⟩) len len,jf G c s)
          | none=>none) else none
      | _,_=>none
    | _=>none
def Lp.jW (r:Lp) (st:LoopState):Lp:={ r with st:=st }
def GS.room (G:GS) (n:Nat):GS:={ G with nx:=G.nx+n }
def GS.aI (G:GS) (n:Nat):GS:={ G with nx:=n }
def GS.back (G' G:GS):GS:={ G' with nx:=G.nx }
section
variable (P:Program) (E:Ev)
def gY (ops:Array Oper) (j:Nat):Option Tmp:=match ops[j]? with | some o=>o.dst | none=>none
def tJ (T:List Value) (d:Option Tmp):Value:=match d with | some t=>nth undef T t | none=>undef
theorem Oh (ops:Array Oper) (T:List Value) (j:Nat) (want:Bool):(vT ops T j==some want)=gB (tJ T (gY ops j)) want:=by
  unfold vT tJ gY
  cases ops[j]? with
  | none=>rfl
  | some o =>
    simp only
    cases o.dst with
    | none=>rfl
    | some d =>
      simp only
      cases nth undef T d<;>first | rfl | (unfold gB; simp)
def Oi {β:Type} (T:List Value) (t:TypeId) (a x:Operand) (G:GS) (K:Value→GS→Option β):Option β:=bP (nQ P t (ev T a) (ev T x) G) fun G'=>K undef G'
def A1 {β:Type} (T:List Value) (c:Call) (G:GS) (K:Value→GS→Option β):Option β:=match c.callee with
  | .value f=>match f with
    | .func g=>bS (E.cl g (c.args.toList.map (ev T)) G) K
    | f=>bS (dO E (ev T f) (c.args.toList.map (ev T)) G) K
  | .builtin .append=>match c.argTypes[0]?,c.argTypes[1]?,c.args.toList with
    | some ts,some tx,[s,x]=>bS (qe P ts tx (ev T s) (ev T x) G) K
    | _,_,_=>none
  | .builtin .copy=>match c.argTypes[0]?,c.args.toList with
    | some td,[d,s]=>bS (qf P td (ev T d) (ev T s) G) K
    | _,_=>none
  | .invoke r name=>bS (dS P E (ev T r) name (c.args.toList.map (ev T)) G) K
  | _=>bS (fT P E T (.call c) G) K
def u5 {β:Type} (op:Op) (T:List Value) (G:GS) (K:Value→GS→Option β):Option β :=
  if dW op then
    match op with
    | .move x=>K (ev T x) G
    | .assign x=>K (ev T x) G
    | .store t a x=>Oi P T t a x G K
    | .makeFunc (.func f) a b=>K (.func (.func f) ⟨a.toList.map (ev T)⟩ ⟨b.toList.map (ev T)⟩) G
    | op=>match cls op with
      | 0=>bP (rI P T op) fun v=>K v G
      | 1=>bP (fK P T op G) fun v=>K v G
      | 2=>bS (rJ P T op G) K
      | _=>match op with
        | .call c=>A1 P E T c G K
        | op=>bS (pj P T op G) K
  else none
theorem A3 {β:Type} (T:List Value) (c:Call) (G:GS) (K:Value→GS→Option β):A1 P E T c G K=bS (fT P E T (.call c) G) K:=by
  obtain ⟨A5,args,dA⟩:=c
  cases A5 with
  | value f =>
    cases f<;>simp [A1,fT,pj,Dg,pk,yn,dO,ev]
  | invoke r n=>rfl
  | builtin b =>
    cases b<;>first
      | rfl
      | (simp only [A1,fT,pj,Dg,pk,yn]
         generalize dA[0]? =a
         generalize dA[1]? =b
         generalize args.toList=l
         rcases a with _ | ts
         · rfl
         rcases b with _ | tx
         · rfl
         rcases l with _ | ⟨s,_ | ⟨x,_ | ⟨y,l⟩⟩⟩
         · rfl
         · rfl
         · simp only
           cases qe P ts tx (ev T s) (ev T x) G<;>rfl
         · rfl)
      | (simp only [A1,fT,pj,Dg,pk,yn]
         generalize dA[0]? =a
         generalize args.toList=l
         rcases a with _ | ts
         · rfl
         rcases l with _ | ⟨s,_ | ⟨x,_ | ⟨y,l⟩⟩⟩
         · rfl
         · rfl
         · simp only
           cases qf P ts (ev T s) (ev T x) G<;>rfl
         · rfl)
theorem yB {β:Type} (op:Op) (T:List Value) (G:GS) (K:Value→GS→Option β):u5 P E op T G K=bS (og P E T G op) K:=by
  unfold u5 og
  split
  case isFalse=>rfl
  unfold lH
  cases op with
  | move x=>rfl
  | assign x=>rfl
  | store t a x =>
    simp only [cls,fT,pj,Hg,Oi,pk]
    cases nQ P t (ev T a) (ev T x) G<;>rfl
  | call c =>
    simp only
    generalize cls (.call c)=n
    match n with
    | 0=>simp only [lG]; cases rI P T (.call c)<;>rfl
    | 1=>simp only [lG]; cases fK P T (.call c) G<;>rfl
    | 2=>rfl
    | n+3=>exact A3 P E T c G K
  | load t x=>simp only [cls,lG]; cases fK P T (.load t x) G<;>rfl
  | slice t x l h m=>simp only [cls,lG]; cases fK P T (.slice t x l h m) G<;>rfl
  | alloc t=>rfl
  | box t x=>rfl
  | buildSlice t n ps=>rfl
  | makeSlice t l c=>rfl
  | makeFunc f a b =>
    cases f with
    | func f =>
      simp only [cls,lG,rI,Nv,yz]
      have h:∀ a:Array Operand,(⟨a.toList.map (ev T)⟩:Array Value)=a.map (ev T):=fun a=>by rw [← Array.toList_map]
      rw [h,h]
    | _=>rfl
  | makeMap t r=>cases r<;>rfl
  | lookup t x i ok =>
    show _=bS (fT P E T (.lookup t x i ok) G) K
    simp only [fT,pj,Hi,pk,cls]
    cases vR P t (ev T x) (ev T i) ok G<;>rfl
  | mapUpdate t m k v =>
    show _=bS (fT P E T (.mapUpdate t m k v) G) K
    simp only [fT,pj,Hj,pk,cls]
    cases vS P t (ev T m) (ev T k) (ev T v) G<;>rfl
  | _ =>
    simp only [cls,lG]
    generalize rI P T _=r
    cases r<;>rfl
def vd {β:Type} (ops:Array Oper):List Oper→List Value→GS→(List Value→GS→Option β)→Option β
  | [],T,G,K=>K T G
  | o::r,T,G,K=>match o.guard with
    | none=>u5 P E o.op T G fun v G'=>vd ops r (bf T o.dst v) G' K
    | some (j,want)=>bS (gd (tJ T (gY ops j)) want (u5 P E o.op T G fun v G'=>some (v,G')) G) fun v G'=>vd ops r (bf T o.dst v) G' K
theorem W2 (x:Option (Value×GS)):(bS x fun v G=>some (v,G))=x:=by rcases x with _ | ⟨v,G⟩<;>rfl
theorem A9 {β:Type} (ops:Array Oper):∀ (l:List Oper) (T:List Value) (G:GS) (K:List Value→GS→Option β),
    vd P E ops l T G K=match lI P E ops l T G with | some (T',G')=>K T' G' | none=>none
  | [],T,G,K=>rfl
  | o::r,T,G,K=>by
    have ih:=fun T G=>A9 ops r T G K
    simp only [vd,lI]
    cases hg:o.guard with
    | none =>
      have hw:dD ops T o=true:=by simp [dD,hg]
      simp only [hw,if_true,yB]
      rcases og P E T G o.op with _ | ⟨v,G'⟩
      · rfl
      · exact ih _ _
    | some jw =>
      obtain ⟨j,want⟩:=jw
      have hw:dD ops T o=gB (tJ T (gY ops j)) want:=by simp only [dD,hg]; exact Oh ops T j want
      simp only [hw,gd]
      by_cases hb:gB (tJ T (gY ops j)) want=true
      · rw [if_pos hb,if_pos hb,yB,W2]
        rcases og P E T G o.op with _ | ⟨v,G'⟩
        · rfl
        · exact ih _ _
      · rw [if_neg hb,if_neg hb]
        exact ih _ _
def pr (N:Nat) (T:List Value):List Value:=(List.range N).map (nth undef T)
theorem oh:∀ {N:Nat} {T:List Value},T.length=N→pr N T=T:=by
  intro N T h
  subst h
  apply List.ext_getElem?
  intro i
  unfold pr
  by_cases hi:i<T.length
  · simp [hi,jL]
  · simp [hi]
def wE (l:List Oper):Bool:=l.all fun o=>o.guard.isNone
def jn (m:Nat) {α:Type} (l:List (Nat×α)):List α:=(l.filter fun h=>!m.testBit h.1).map (·.2)
def iW {α β:Type} (f:α→Bool) (l:List α) (x:Option β):Option β:=match l with | []=>x | l=>gp (l.all f) x
theorem wF {α β:Type} (f:α→Bool) (l:List α) (x:Option β):iW f l x=if l.all f then x else none:=by
  cases l<;>rfl
theorem wH {α:Type} (m:Nat) (f:α→Bool):∀ (l:List (Nat×α)),((jn m l).all f)=l.all fun h=>m.testBit h.1||f h.2
  | []=>rfl
  | h::l=>by
    have ih:=wH m f l
    unfold jn at ih ⊢
    simp only [List.filter_cons,List.all_cons]
    cases m.testBit h.1<;>simp_all
def ve {β:Type} (ops:Array Oper) (ms:List Nat) (base:Nat):Nat→List Oper→List Value→GS→List (Nat×GS)→List (Nat×(GS→Bool))→(List Value→GS→Option β)→Option β
  | _,[],T,G,_,_,K=>K T G
  | i,o::r,T,G,aM,aF,K =>
    if dW o.op then
      match cls o.op with
      | 0=>u5 P E o.op T G fun v _=>ve ops ms base (i+1) r (bf T o.dst v) G aM aF K
      | 1=>bP (fK P T o.op G) fun v=>iW (fun h=>br (fK P T o.op h) v) (jn (nth 0 ms i) aM)
          (ve ops ms base (i+1) r (bf T o.dst v) G aM ((i,fun G'=>br (fK P T o.op G') v)::aF) K)
      | 2=>bS (rJ P T o.op { G with nx:=base+i }) fun v G'=>ve ops ms base (i+1) r (bf T o.dst v) { G' with nx:=G.nx } aM aF K
      | _=>u5 P E o.op T G fun v G'=>iW (fun c=>c G') (jn (nth 0 ms i) aF) (ve ops ms base (i+1) r (bf T o.dst v) G' ((i,G)::aM) aF K)
    else none
def Oj (p:fu):Nat×(GS→Bool):=(p.i,fun G'=>br (fK P p.T p.op G') p.v)
theorem Ba {β:Type} (ops:Array Oper) (ms:List Nat) (base:Nat):∀ (l:List Oper) (i:Nat) (T:List Value) (G:GS) (aM:List (Nat×GS)) (aF:List fu) (K:List Value→GS→Option β),wE l=true →
    ve P E ops ms base i l T G aM (aF.map (Oj P)) K=match im P E ops ms base i l T G aM aF with | some (T',G')=>K T' G' | none=>none
  | [],i,T,G,aM,aF,K,_=>rfl
  | o::r,i,T,G,aM,aF,K,hn=>by
    have hg:o.guard=none:=by simp [wE] at hn; exact hn.1
    have uP:wE r=true:=by simp [wE] at hn ⊢; exact hn.2
    have ih:=fun i T G aM aF=>Ba ops ms base r i T G aM aF K uP
    simp only [ve,im,uW,dD,hg,if_true]
    by_cases hk:dW o.op=true
    case neg=>rw [if_neg hk,if_neg hk]
    rw [if_pos hk,if_pos hk]
    have fc:∀ K':Value→GS→Option β,u5 P E o.op T G K' =bS (lH P E (cls o.op) T G o.op) K':=fun K'=>by rw [yB]; unfold og; rw [if_pos hk]
    simp only [fc]
    unfold wB lH
    generalize cls o.op=n
    match n with
    | 0 =>
      simp only [d0,lG]
      cases rI P T o.op with
      | none=>rfl
      | some v=>exact ih _ _ _ _ _
    | 1 =>
      simp only [d1]
      cases fK P T o.op G with
      | none=>rfl
      | some v =>
        simp only [A0,wF,wH]
        split
        · exact ih _ _ _ _ (⟨i,T,o.op,v⟩::aF)
        · rfl
    | 2 =>
      simp only [d2]
      rcases rJ P T o.op { G with nx:=base+i } with _ | ⟨v,G'⟩
      · rfl
      · exact ih _ _ _ _ _
    | n+3 =>
      simp only [d3]
      rcases fT P E T o.op G with _ | ⟨v,G'⟩
      · rfl
      · simp only [yz,wF,wH,List.all_map]
        have:(aF.all fun p=>(nth 0 ms i).testBit p.i||br (fK P p.T p.op G') p.v)=aF.all ((fun h=>(nth 0 ms i).testBit h.1||h.2 G') ∘ Oj P):=rfl
        rw [this]
        split
        · exact ih _ _ _ _ _
        · rfl
def yC {β:Type} (id:Nat) (K:Exit→List Value→GS→Option β) (e:Exit) (T:List Value) (G:GS):Option β:=match e with
  | .exit gT=>if gT =id then K .normal T G else K (.exit gT) T G
  | e=>K e T G
def vf {β:Type} (b:List Value→GS→Option β) (K:Exit→List Value→GS→Option β) (e:Exit) (T:List Value) (G:GS):Option β:=match e with
  | .normal=>b T G
  | e=>K e T G
def Hz {β:Type} (N:Nat) (b:Code) (K:Exit→List Value→GS→Option β) (e:Exit) (T:List Value) (G:GS):Option β:=match e with
  | .goto l=>match findLabel b l with
    | some rest=>bX (E.sc b rest T G) fun e T2 G2=>K e (pr N T2) G2
    | none=>K (.goto l) T G
  | e=>K e T G
def sx {β:Type} (N:Nat):Code→List Value→GS→(Exit→List Value→GS→Option β)→Option β
  | .skip,T,G,K=>K .normal T G
  | .label _,T,G,K=>K .normal T G
  | .seq a b,T,G,K=>sx N a T G (vf (fun T G=>sx N b T G K) K)
  | .cond x a b,T,G,K=>if dm x then cD (ev T x) (sx N a T G K) (sx N b T G K) else none
  | .block id b,T,G,K=>sx N b T G (yC id K)
  | .loop b,T,G,K=>bX (E.lp b T G) fun e T' G'=>K e (pr N T') G'
  | .exit id,T,G,K=>K (.exit id) T G
  | .goto l,T,G,K=>K (.goto l) T G
  | .ret,T,G,K=>K .ret T G
  | .scope b,T,G,K=>sx N b T G (Hz E N b K)
  | .region _ ops draw,T,G,K =>
    if draw then
      if uC ops then
        if wE ops.toList then ve P E ops (masks ops.toList []) G.nx 0 ops.toList T { G with nx:=G.nx+ops.size } [] [] fun T G=>K .normal T G
        else bX (kL P E ops T G) K
      else none
    else vd P E ops ops.toList T G fun T G=>K .normal T G
  | .rangeFunc f ps assign body,T,G,K=>if dm f then bX (gW E (ev T f) ps assign body T G) K else none
  | .refuse _,_,_,_=>none
def vg (a b:Exit):Bool:=match a,b with
  | .normal,.normal=>true
  | .ret,.ret=>true
  | .exit a,.exit b=>Nat.beq a b
  | .goto a,.goto b=>Nat.beq a b
  | _,_=>false
theorem W4 {a b:Exit} (h:vg a b=true):a=b:=by
  cases a<;>cases b<;>simp_all [vg]
def dt {β:Type} (e x:Exit) (a b:Option β):Option β:=if vg e x then a else b
@[simp] theorem aeP {β:Type} (id:Nat) (a b:Option β):dt (.exit id) (.exit id) a b=a:=by simp [dt,vg]
@[simp] theorem aeQ {β:Type} (a b:Option β):dt .ret .ret a b=a:=Eq.trans rfl rfl
@[simp] theorem W5 {β:Type} (a b:Option β):dt .normal .normal a b=a:=Eq.trans rfl rfl
@[simp] theorem aeR {β:Type} (id:Nat) (a b:Option β):dt (.goto id) (.goto id) a b=a:=by simp [dt,vg]
@[simp] theorem aeS {β:Type} (id:Nat) (a b:Option β):dt .ret (.exit id) a b=b:=Eq.trans rfl rfl
@[simp] theorem aeT {β:Type} (id:Nat) (a b:Option β):dt (.exit id) .ret a b=b:=Eq.trans rfl rfl
@[simp] theorem aeU {β:Type} (id:Nat) (a b:Option β):dt .normal (.exit id) a b=b:=Eq.trans rfl rfl
@[simp] theorem aeV {β:Type} (id:Nat) (a b:Option β):dt (.exit id) .normal a b=b:=Eq.trans rfl rfl
@[simp] theorem aeW {β:Type} (a b:Option β):dt .normal .ret a b=b:=Eq.trans rfl rfl
@[simp] theorem aeX {β:Type} (a b:Option β):dt .ret .normal a b=b:=Eq.trans rfl rfl
def Ok (e:Exit) (l:List Exit):List Exit:=if l.any (vg e) then l else e::l
def Dt:List Exit→List Exit→List Exit
  | [],l=>l
  | e::r,l=>Ok e (Dt r l)
def jX:Code→List Exit
  | .exit id=>[.exit id]
  | .goto l=>[.goto l]
  | .ret=>[.ret]
  | .seq a b=>Dt (jX a) (jX b)
  | .cond _ a b=>Dt (jX a) (jX b)
  | .block id b=>(jX b).filter fun e=>!vg e (.exit id)
  | .loop b=>jX b
  | .scope b=>jX b
  | .rangeFunc _ _ _ b=>jX b
  | _=>[]
def mo {β:Type} (l:List Exit) (e:Exit) (T:List Value) (G:GS) (K:Exit→List Value→GS→Option β):Option β:=match l with
  | []=>none
  | x::r=>dt e x (K x T G) (mo r e T G K)
theorem Ol {β:Type} {e:Exit} {T:List Value} {G:GS} {K:Exit→List Value→GS→Option β} {r:β}:∀ {l:List Exit},mo l e T G K=some r→K e T G=some r
  | [],h=>by cases h
  | x::l,h=>by
    simp only [mo,dt] at h
    split at h
    · rename_i hx
      rw [W4 hx]
      exact h
    · exact Ol h
def Du {β:Type} (N:Nat) (b:Code) (K:Exit→List Value→GS→Option β) (e:Exit) (T:List Value) (G:GS):Option β:=match e with
  | .goto l=>match findLabel b l with
    | some rest=>bX (E.sc b rest T G) fun e T2 G2=>mo (.normal::jX b) e (pr N T2) G2 K
    | none=>K (.goto l) T G
  | e=>K e T G
def gF {β:Type} (N:Nat):Code→List Value→GS→(Exit→List Value→GS→Option β)→Option β
  | .skip,T,G,K=>K .normal T G
  | .label _,T,G,K=>K .normal T G
  | .seq a b,T,G,K=>gF N a T G (vf (fun T G=>gF N b T G K) K)
  | .cond x a b,T,G,K=>if dm x then cD (ev T x) (gF N a T G K) (gF N b T G K) else none
  | .block id b,T,G,K=>gF N b T G (yC id K)
  | .loop b,T,G,K=>bX (E.lp b T G) fun e T' G'=>mo (jX b) e (pr N T') G' K
  | .exit id,T,G,K=>K (.exit id) T G
  | .goto l,T,G,K=>K (.goto l) T G
  | .ret,T,G,K=>K .ret T G
  | .scope b,T,G,K=>gF N b T G (Du E N b K)
  | .region _ ops draw,T,G,K =>
    if draw then
      if uC ops then
        if wE ops.toList then ve P E ops (masks ops.toList []) G.nx 0 ops.toList T { G with nx:=G.nx+ops.size } [] [] fun T G=>K .normal T G
        else bX (kL P E ops T G) fun e T' G'=>mo [.normal] e (pr N T') G' K
      else none
    else vd P E ops ops.toList T G fun T G=>K .normal T G
  | .rangeFunc f ps assign body,T,G,K=>if dm f then bX (gW E (ev T f) ps assign body T G) fun e T' G'=>mo (.normal::jX body) e (pr N T') G' K else none
  | .refuse _,_,_,_=>none
def tK {β:Type} (T:List Value) (G:GS):List ResultVar→(List Value→Option β)→Option β
  | [],K=>K []
  | .tmp t::r,K=>tK T G r fun l=>K (nth undef T t::l)
  | .cell a t::r,K=>bP (kK P t (nth undef T a) G) fun v=>tK T G r fun l=>K (v::l)
theorem HA {β:Type} (T:List Value) (G:GS):∀ (l:List ResultVar) (K:List Value→Option β),tK P T G l K=bP (ma P T G l) K
  | [],K=>rfl
  | .tmp t::r,K=>by
    simp only [tK,ma,HA T G r]
    cases ma P T G r<;>rfl
  | .cell a t::r,K=>by
    simp only [tK,ma,HA T G r,Nz]
    cases rh P t (nth undef T a) G<;>cases ma P T G r<;>rfl
def Bb (results:List ResultVar) (e:Exit) (T:List Value) (G:GS):Option (Value×GS):=if rq e then tK P T G results fun l=>some (uD l,G) else none
end
section
variable (P:Program) (ae:FuncId→Bool)
theorem rO {β:Type} {N:Nat}:∀ (c:Code) (T:List Value) (G:GS) (K:Exit→List Value→GS→Option β),T.length=N→sx P (aC P ae) N c T G K=bX ((aC P ae).ex c T G) K:=by
  intro c
  have hL:=tI P ae
  induction c with
  | skip=>intro T G K h; rw [fL]; rfl
  | label l=>intro T G K h; rw [fL]; rfl
  | exit l=>intro T G K h; rw [fL]; rfl
  | goto l=>intro T G K h; rw [fL]; rfl
  | ret=>intro T G K h; rw [fL]; rfl
  | refuse w=>intro T G K h; rw [fL]; rfl
  | seq a b fv fw =>
    intro T G K h
    rw [fL,sx,fv _ _ _ h]
    show _=bX (yo (aC P ae) b ((aC P ae).ex a T G)) K
    rcases hx:(aC P ae).ex a T G with _ | ⟨e,T',G'⟩
    · rfl
    · have hl:=(hL.ex _ _ _ _ _ _ hx).trans h
      cases e with
      | normal=>exact fw _ _ _ hl
      | _=>rfl
  | cond x a b fv fw =>
    intro T G K h
    rw [fL,sx,fv _ _ _ h,fw _ _ _ h]
    show _=bX (if dm x then rK (aC P ae) (ev T x) a b T G else none) K
    split
    · unfold cD rK
      generalize ev T x=v
      cases v with
      | bool t=>cases t<;>rfl
      | _=>rfl
    · rfl
  | block id b ih =>
    intro T G K h
    rw [fL,sx,ih _ _ _ h]
    show _=bX (rL id ((aC P ae).ex b T G)) K
    rcases hx:(aC P ae).ex b T G with _ | ⟨e,T',G'⟩
    · rfl
    · cases e with
      | exit gT =>
        simp only [kN,yC,rL]
        split<;>rfl
      | _=>rfl
  | loop b ih =>
    intro T G K h
    rw [fL]
    show bX ((aC P ae).lp b T G) (fun e T' G'=>K e (pr N T') G')=bX ((aC P ae).lp b T G) K
    rcases hx:(aC P ae).lp b T G with _ | ⟨e,T',G'⟩
    · rfl
    · simp only [kN,oh ((hL.lp _ _ _ _ _ _ hx).trans h)]
  | scope b ih =>
    intro T G K h
    rw [fL]
    show sx P (aC P ae) N b T G (Hz (aC P ae) N b K)=bX ((aC P ae).sc b b T G) K
    rw [ih _ _ _ h,Ob,oX]
    rcases hx:(aC P ae).ex b T G with _ | ⟨e,T',G'⟩
    · rfl
    · have hl:=(hL.ex _ _ _ _ _ _ hx).trans h
      cases e with
      | goto l =>
        simp only [kN,Hz]
        cases findLabel b l with
        | none=>rfl
        | some rest =>
          simp only
          rcases hy:(aC P ae).sc b rest T' G' with _ | ⟨e2,T2,G2⟩
          · rfl
          · simp only [kN,oh ((hL.sc _ _ _ _ _ _ _ hy).trans hl)]
      | _=>rfl
  | region id ops draw =>
    intro T G K h
    rw [fL,sx]
    show _=bX (if draw then kL P (aC P ae) ops T G else wC P (aC P ae) ops T G) K
    split
    · split
      · rename_i hd
        split
        · rename_i hn
          have:=Ba P (aC P ae) ops (masks ops.toList []) G.nx ops.toList 0 T { G with nx:=G.nx+ops.size } [] [] (fun T G=>K .normal T G) hn
          rw [List.map_nil] at this
          rw [this]
          unfold kL
          rw [if_pos hd]
          rcases im P (aC P ae) ops (masks ops.toList []) G.nx 0 ops.toList T { G with nx:=G.nx+ops.size } [] [] with _ | ⟨T',G'⟩<;>rfl
        · rfl
      · rename_i hd
        unfold kL
        rw [if_neg hd]
        rfl
    · rw [A9]
      unfold wC
      rcases lI P (aC P ae) ops ops.toList T G with _ | ⟨T',G'⟩<;>rfl
  | rangeFunc f ps assign body fv fw =>
    intro T G K h
    rw [fL,sx]
    show _=bX (if dm f then gW (aC P ae) (ev T f) ps assign body T G else none) K
    split<;>rfl
theorem Dv {β:Type} {N:Nat}:∀ (c:Code) (T:List Value) (G:GS) (K:Exit→List Value→GS→Option β) (r:β),T.length=N→gF P (aC P ae) N c T G K=some r→bX ((aC P ae).ex c T G) K=some r:=by
  intro c
  have hL:=tI P ae
  have same:∀ {K:Exit→List Value→GS→Option β} {x:Option (Exit×List Value×GS)} {l:List Exit} {r:β},(∀ e T' G',x=some (e,T',G')→T'.length=N)→(bX x fun e T' G'=>mo l e (pr N T') G' K)=some r→bX x K=some r:=by
    intro K x l r hx h
    rcases x with _ | ⟨e,T',G'⟩
    · exact h
    · simp only [kN] at h ⊢
      rw [oh (hx _ _ _ rfl)] at h
      exact Ol h
  induction c with
  | skip=>intro T G K r h hs; rw [fL]; exact hs
  | label l=>intro T G K r h hs; rw [fL]; exact hs
  | exit l=>intro T G K r h hs; rw [fL]; exact hs
  | goto l=>intro T G K r h hs; rw [fL]; exact hs
  | ret=>intro T G K r h hs; rw [fL]; exact hs
  | refuse w=>intro T G K r h hs; cases hs
  | seq a b fv fw =>
    intro T G K r h hs
    have h1:=fv _ _ _ _ h hs
    rw [fL]
    show bX (yo (aC P ae) b ((aC P ae).ex a T G)) K=some r
    rcases hx:(aC P ae).ex a T G with _ | ⟨e,T',G'⟩
    · rw [hx] at h1; exact h1
    · rw [hx] at h1
      have hl:=(hL.ex _ _ _ _ _ _ hx).trans h
      cases e with
      | normal=>exact fw _ _ _ _ hl h1
      | _=>exact h1
  | cond x a b fv fw =>
    intro T G K r h hs
    rw [fL]
    simp only [gF] at hs
    show bX (if dm x then rK (aC P ae) (ev T x) a b T G else none) K=some r
    split at hs
    · rename_i hk
      rw [if_pos hk]
      unfold cD at hs
      unfold rK
      generalize ev T x=v at hs ⊢
      cases v with
      | bool t =>
        cases t
        · exact fw _ _ _ _ h hs
        · exact fv _ _ _ _ h hs
      | _=>cases hs
    · cases hs
  | block id b ih =>
    intro T G K r h hs
    have h1:=ih _ _ _ _ h hs
    rw [fL]
    show bX (rL id ((aC P ae).ex b T G)) K=some r
    rcases hx:(aC P ae).ex b T G with _ | ⟨e,T',G'⟩
    · rw [hx] at h1; exact h1
    · rw [hx] at h1
      cases e with
      | exit gT =>
        simp only [kN,yC] at h1
        simp only [rL]
        split at h1<;>simp_all
      | _=>exact h1
  | loop b ih =>
    intro T G K r h hs
    rw [fL]
    exact same (fun e T' G' hx=>(hL.lp _ _ _ _ _ _ hx).trans h) hs
  | scope b ih =>
    intro T G K r h hs
    have h1:=ih _ _ _ _ h hs
    rw [fL]
    show bX ((aC P ae).sc b b T G) K=some r
    rw [Ob,oX]
    rcases hx:(aC P ae).ex b T G with _ | ⟨e,T',G'⟩
    · rw [hx] at h1; exact h1
    · rw [hx] at h1
      have hl:=(hL.ex _ _ _ _ _ _ hx).trans h
      cases e with
      | goto l =>
        simp only [kN,Du] at h1
        simp only
        cases hf:findLabel b l with
        | none=>rw [hf] at h1; exact h1
        | some rest =>
          rw [hf] at h1
          exact same (fun e T2 G2 hy=>(hL.sc _ _ _ _ _ _ _ hy).trans hl) h1
      | _=>exact h1
  | region id ops draw =>
    intro T G K r h hs
    rw [fL]
    simp only [gF] at hs
    show bX (if draw then kL P (aC P ae) ops T G else wC P (aC P ae) ops T G) K=some r
    have hl:∀ e T' G',kL P (aC P ae) ops T G=some (e,T',G')→T'.length=N:=by
      intro e T' G' hx
      unfold kL pn at hx
      split at hx
      · split at hx
        · rename_i hd
          cases hx
          exact (yx P _ _ _ _ _ _ _ _ _ _ _ _ hd).trans h
        · cases hx
      · cases hx
    split at hs
    · rename_i hdr
      rw [if_pos hdr]
      split at hs
      · rename_i hd
        split at hs
        · rename_i hn
          have:=Ba P (aC P ae) ops (masks ops.toList []) G.nx ops.toList 0 T { G with nx:=G.nx+ops.size } [] [] (fun T G=>K .normal T G) hn
          rw [List.map_nil] at this
          rw [this] at hs
          unfold kL
          rw [if_pos hd]
          rcases hy:im P (aC P ae) ops (masks ops.toList []) G.nx 0 ops.toList T { G with nx:=G.nx+ops.size } [] [] with _ | ⟨T',G'⟩
          · rw [hy] at hs; exact hs
          · rw [hy] at hs; exact hs
        · exact same hl hs
      · cases hs
    · rename_i hdr
      rw [if_neg hdr]
      rw [A9] at hs
      unfold wC
      rcases hy:lI P (aC P ae) ops ops.toList T G with _ | ⟨T',G'⟩
      · rw [hy] at hs; exact hs
      · rw [hy] at hs; exact hs
  | rangeFunc f ps assign body fv fw =>
    intro T G K r h hs
    rw [fL]
    simp only [gF] at hs
    show bX (if dm f then gW (aC P ae) (ev T f) ps assign body T G else none) K=some r
    split at hs
    · rename_i hk
      rw [if_pos hk]
      refine same (fun e T' G' hx=>?_) hs
      unfold gW qu at hx
      split at hx
      · split at hx
        · split at hx
          · split at hx
            · cases hx
            · split at hx
              · cases hx; exact h
              · cases hx
          · cases hx
        · cases hx
      · cases hx
    · cases hs
def aS (fn:Func):Code:=match fn.body with | some c=>c | none=>.skip
theorem Om {f:FuncId} {fn:Func} {vs:List Value} (G:GS) (hf:P.funcs[f]? =some fn) (hn:(fn.name == "runtime.NumGoroutine")=false) (hb:fn.body.isSome=true) (ho:(vs.isEmpty&&ae f)=false) (hp:po P ae f=false) (hl:Nat.ble vs.length fn.ntmps=true) :
    (aC P ae).cl f vs G=sx P (aC P ae) fn.ntmps (aS fn) (vs++List.replicate (fn.ntmps - vs.length) undef) G (Bb P fn.results.toList):=by
  obtain ⟨c,hc⟩:=Option.isSome_iff_exists.1 hb
  rw [Oa]
  unfold tG rr
  rw [show (vs.isEmpty&&(ae f&&tF P G))=false by rw [← Bool.and_assoc,ho,Bool.false_and],hp,hf]
  simp only [hn,hc,Bool.false_eq_true,if_false]
  rw [rO P ae _ _ _ _ (by have:=Nat.le_of_ble_eq_true hl; simp; omega)]
  have:aS fn=c:=by simp [aS,hc]
  rw [this]
  rcases (aC P ae).ex c (vs++List.replicate (fn.ntmps - vs.length) undef) G with _ | ⟨e,T',G'⟩
  · rfl
  · simp only [kN,Bb,HA]
    split
    · cases ma P T' G' fn.results.toList<;>rfl
    · rfl
theorem W6 {f:FuncId} {fn:Func} {vs:List Value} (G:GS) (hf:P.funcs[f]? =some fn) (hn:(fn.name == "runtime.NumGoroutine")=false) (hb:fn.body.isSome=true) (ho:(vs.isEmpty&&ae f)=false) (hp:po P ae f=false) (hl:Nat.ble vs.length fn.ntmps=true) {x:Option (Value×GS)} {r:Value×GS}
    (hx:gF P (aC P ae) fn.ntmps (aS fn) (vs++List.replicate (fn.ntmps - vs.length) undef) G (Bb P fn.results.toList)=x) (h:x=some r):(aC P ae).cl f vs G=some r:=by
  have hlen:(vs++List.replicate (fn.ntmps - vs.length) undef).length=fn.ntmps:=by have:=Nat.le_of_ble_eq_true hl; simp; omega
  rw [Om P ae G hf hn hb ho hp hl,rO P ae _ _ _ _ hlen]
  exact Dv P ae _ _ _ _ _ hlen (hx.trans h)
theorem On {b:Code} {N:Nat} {T:List Value} (G:GS) (h:T.length=N) :
    (aC P ae).lp b T G=sx P (aC P ae) N b (pr N T) G (vf (fun T' G'=>(aC P ae).lp b T' G') fun e T' G'=>some (e,T',G')):=by
  rw [oh h,rO P ae _ _ _ _ h,WQ,oY]
  rcases (aC P ae).ex b T G with _ | ⟨e,T',G'⟩
  · rfl
  · cases e<;>rfl
def qx (l:Nat) (e:Exit) (G:GS):Option (Value×GS):=bP (vU e) fun j=>bP (G.loop l) fun r=>some (.bool j.isNone,G.cC l { r with st:=if j.isNone then .ready else .done,aF:=j })
def HB (E:Ev) (l N:Nat) (body:Code) (T:List Value) (G:GS):Option (Value×GS) :=
  bP (G.loop l) fun r=>if r.st= .ready then sx P E N body T (G.cC l { r with st:=.busy }) (fun e _ G2=>qx l e G2) else none
theorem W7 {l N:Nat} {vs:List Value} {G:GS} {st:LoopState} {aF:Option Code} {T:List Value} {ps:List Nat} {assign body:Code} (hl:G.loop l=some ⟨st,aF,T,ps,assign,body⟩) (hp:ps.length=vs.length) (hT:T.length=N) :
    (aC P ae).rd l vs G=sx P (aC P ae) N assign (lZ ps vs T) G (vf (fun T1 G1=>HB P (aC P ae) l N body T1 G1) fun _ _ _=>none):=by
  have hL:=tI P ae
  have vh:∀ (ps:List Nat) (vs T:List Value),(lZ ps vs T).length=T.length:=by
    intro ps
    induction ps with
    | nil=>intro vs T; cases vs<;>rfl
    | cons p ps ih =>
      intro vs T
      cases vs with
      | nil=>rfl
      | cons v vs=>exact (ih vs _).trans (yv _ _ _)
  rw [rO P ae _ _ _ _ ((vh _ _ _).trans hT),WO,sK,hl]
  simp only [hp,if_true]
  rcases hx:(aC P ae).ex assign (lZ ps vs T) G with _ | ⟨e,T1,G1⟩
  · rfl
  · have iV:T1.length=N:=(hL.ex _ _ _ _ _ _ hx).trans ((vh _ _ _).trans hT)
    cases e with
    | normal =>
      simp only [kN,vf,HB]
      cases G1.loop l with
      | none=>rfl
      | some r1 =>
        simp only [A0]
        split
        · rw [rO P ae _ _ _ _ iV]
          rcases (aC P ae).ex body T1 (G1.cC l { r1 with st:=.busy }) with _ | ⟨e2,T2,G2⟩
          · rfl
          · simp only [kN,qx]
            cases vU e2 with
            | none=>rfl
            | some j=>cases G2.loop l<;>rfl
        · rfl
    | _=>rfl
end
theorem Oo:∀ (ps:List Nat) (vs T:List Value),(lZ ps vs T).length=T.length
  | [],vs,T=>by cases vs<;>rfl
  | p::ps,[],T=>rfl
  | p::ps,v::vs,T=>(Oo ps vs _).trans (yv _ _ _)
abbrev Env:=Nat→Value
def wI (N:Nat) (τ:Env) (i:Nat) (v:Value):Env:=fun j=>bif Nat.beq j i then (bif Nat.blt i N then v else τ j) else τ j
def pt (N:Nat) (τ:Env) (d:Option Tmp) (v:Value):Env:=match d with | some t=>wI N τ t v | none=>τ
def iX (τ:Env) (x:Operand):Value:=match x with
  | .tmp t=>τ t
  | .const v=>v
  | .global _=>undef
  | .func f=>.func (.func f) #[] #[]
theorem yD (T:List Value):iX (nth undef T)=ev T:=by funext x; cases x<;>rfl
theorem W8 (T:List Value) (v:Value):∀ (i j:Nat),nth undef (nR T i v) j=if j=i∧i<T.length then v else nth undef T j:=by
  induction T with
  | nil=>intro i j; simp [Fz]
  | cons x xs ih =>
    intro i j
    cases i with
    | zero =>
      rw [FA]
      cases j with
      | zero=>simp [sG]
      | succ j=>simp [sH]
    | succ i =>
      rw [FC]
      cases j with
      | zero=>simp [sG]
      | succ j=>simp [sH,ih i j]
theorem Oq {N:Nat} {T:List Value} (h:T.length=N) (i:Nat) (v:Value):wI N (nth undef T) i v=nth undef (nR T i v):=by
  funext j
  rw [W8,h]
  unfold wI
  by_cases h1:j=i
  · subst h1
    rw [Nat.beq_refl]
    by_cases h2:j<N
    · have:Nat.blt j N=true:=by simpa [Nat.blt_eq] using h2
      simp [this,h2]
    · have:Nat.blt j N=false:=by
        cases hb:Nat.blt j N
        · rfl
        · exact absurd (by simpa [Nat.blt_eq] using hb) h2
      simp [this,h2]
  · have:Nat.beq j i=false:=by
      cases hb:Nat.beq j i
      · rfl
      · exact absurd (Nat.eq_of_beq_eq_true hb) h1
    simp [this,h1]
theorem HC {N:Nat} {T:List Value} (h:T.length=N) (d:Option Tmp) (v:Value):pt N (nth undef T) d v=nth undef (bf T d v):=by
  cases d with
  | none=>rfl
  | some t=>exact Oq h t v
def aN (N:Nat) (τ:Env):List Value:=(List.range N).map τ
theorem yE {N:Nat} {T:List Value} (h:T.length=N):aN N (nth undef T)=T:=oh h
section
variable (P:Program) (E:Ev)
def wJ {β:Type} (e:Operand→Value) (c:Call) (G:GS) (K:Value→GS→Option β):Option β:=match c.callee with
  | .value f=>match f with
    | .func g=>bS (E.cl g (c.args.toList.map e) G) K
    | f=>bS (dO E (e f) (c.args.toList.map e) G) K
  | .builtin .append=>match c.argTypes[0]?,c.argTypes[1]?,c.args.toList with
    | some ts,some tx,[s,x]=>bS (qe P ts tx (e s) (e x) G) K
    | _,_,_=>none
  | .builtin .copy=>match c.argTypes[0]?,c.args.toList with
    | some td,[d,s]=>bS (qf P td (e d) (e s) G) K
    | _,_=>none
  | .builtin .len=>match c.argTypes[0]?,c.args.toList with
    | some t,[x]=>bP (mQ P t (e x)) fun v=>K v G
    | _,_=>none
  | .builtin .min=>bP (uY P c.argTypes (c.args.toList.map e)) fun v=>K v G
  | .builtin .max=>bP (uZ P c.argTypes (c.args.toList.map e)) fun v=>K v G
  | .invoke r name=>bS (dS P E (e r) name (c.args.toList.map e) G) K
  | _=>none
structure wK where
  al:TypeId→GS→Option (Value×GS)
  bx:Value→GS→Option (Value×GS)
  bs:TypeId→Nat→List (Nat×Value)→GS→Option (Value×GS)
  ms:TypeId→Value→Value→GS→Option (Value×GS)
  bd:TypeId→List (Nat×Value)→Option Value
  vi:TypeId→Value→Option Value
def rP:wK:=⟨AV P,Ds,yA P,wA P,qZ P,AU P⟩
def ou {β:Type} (M:wK) (e:Operand→Value) (op:Op) (G:GS) (K:Value→GS→Option β):Option β :=
    match op with
    | .move x=>K (e x) G
    | .assign x=>K (e x) G
    | .makeFunc (.func f) a b=>K (.func (.func f) ⟨a.toList.map e⟩ ⟨b.toList.map e⟩) G
    | .pick c a b=>bP (pq (e c) (e a) (e b)) fun v=>K v G
    | .nilCheck x=>bP (cg (e x)) fun v=>K v G
    | .binOp o t x y _=>bP (bF P o t x y (e x) (e y)) fun v=>K v G
    | .unOp o _ x=>bP (wz P o (e x)) fun v=>K v G
    | .convert s d x=>bP (uV P s d (e x)) fun v=>K v G
    | .makeInterface t x=>bP (M.vi t (e x)) fun v=>K v G
    | .build t ps=>bP (M.bd t (ps.toList.map fun p=>(p.1,e p.2))) fun v=>K v G
    | .field t x f=>bP (lW P t (e x) f) fun v=>K v G
    | .index t x i=>bP (kx P t (e x) (e i)) fun v=>K v G
    | .extract x i=>bP (lF (e x) i) fun v=>K v G
    | .fieldAddr t x f=>bP (re P t (e x) f) fun v=>K v G
    | .indexAddr t x i=>bP (ky P t (e x) (e i)) fun v=>K v G
    | .typeAssert x _ a ok=>bP (z9 P (e x) a ok) fun v=>K v G
    | .load t x=>bP (kK P t (e x) G) fun v=>K v G
    | .slice t x l h m=>bP (iG P t (e x) (l.map e) (h.map e) (m.map e) G) fun v=>K v G
    | .alloc t=>bS (M.al t G) K
    | .box _ x=>bS (M.bx (e x) G) K
    | .buildSlice t n ps=>bS (M.bs t n (ps.toList.map fun p=>(p.1,e p.2)) G) K
    | .makeSlice t l c=>bS (M.ms t (e l) (e c) G) K
    | .store t a x=>bP (nQ P t (e a) (e x) G) fun G'=>K undef G'
    | .call c=>wJ P E e c G K
    | .makeMap _ none=>K (.map (some G.nl)) G.Hh
    | .lookup t x i ok=>bP (vR P t (e x) (e i) ok G) fun v=>K v G
    | .mapUpdate t m k v=>bP (vS P t (e m) (e k) (e v) G) fun G'=>K undef G'
    | _=>none
def lJ {β:Type} (e:Operand→Value) (op:Op) (G:GS) (K:Value→GS→Option β):Option β:=if dW op then ou P E (rP P) e op G K else none
theorem Dw {β:Type} (x:Option Value) (G:GS) (K:Value→GS→Option β):bS (lG G x) K=bP x fun v=>K v G:=by cases x<;>rfl
theorem W9 {β:Type} (T:List Value) (c:Call) (G:GS) (K:Value→GS→Option β):wJ P E (ev T) c G K=bS (lH P E (cls (.call c)) T G (.call c)) K:=by
  obtain ⟨A5,args,dA⟩:=c
  have hm:(⟨args.toList.map (ev T)⟩:Array Value)=args.map (ev T):=by rw [← Array.toList_map]
  cases A5 with
  | value f=>exact A3 P E T ⟨.value f,args,dA⟩ G K
  | invoke r n=>exact A3 P E T ⟨.invoke r n,args,dA⟩ G K
  | builtin b =>
    cases b
    case append=>exact A3 P E T ⟨.builtin .append,args,dA⟩ G K
    case copy=>exact A3 P E T ⟨.builtin .copy,args,dA⟩ G K
    case len =>
      show _=bS (lG G (Hc P T ⟨.builtin .len,args,dA⟩)) K
      rw [Dw]
      simp only [wJ,Hc]
      generalize dA[0]? =a
      generalize args.toList=l
      rcases a with _ | ts
      · rfl
      rcases l with _ | ⟨s,_ | ⟨x,l⟩⟩<;>rfl
    case min =>
      show _=bS (lG G (Hd P T ⟨.builtin .min,args,dA⟩)) K
      rw [Dw]
      simp only [wJ,Hd,uY,hm]
    case max =>
      show _=bS (lG G (He P T ⟨.builtin .max,args,dA⟩)) K
      rw [Dw]
      simp only [wJ,He,uZ,hm]
    all_goals rfl
theorem Dx {β:Type} (op:Op) (T:List Value) (G:GS) (K:Value→GS→Option β):lJ P E (ev T) op G K=u5 P E op T G K:=by
  rw [yB]
  unfold lJ ou og
  by_cases hk:dW op=true
  case neg=>rw [if_neg hk,if_neg hk]; rfl
  rw [if_pos hk,if_pos hk]
  cases op with
  | call c=>exact W9 P E T c G K
  | store t a x =>
    show _=bS (fT P E T (.store t a x) G) K
    simp only [fT,pj,Hg,pk]
    cases nQ P t (ev T a) (ev T x) G<;>rfl
  | makeFunc f a b =>
    cases f with
    | func f =>
      have h:∀ a:Array Operand,(⟨a.toList.map (ev T)⟩:Array Value)=a.map (ev T):=fun a=>by rw [← Array.toList_map]
      simp only [h]
      rfl
    | _=>rfl
  | makeMap t r=>cases r<;>rfl
  | lookup t x i ok =>
    show _=bS (fT P E T (.lookup t x i ok) G) K
    simp only [fT,pj,Hi,pk]
    cases vR P t (ev T x) (ev T i) ok G<;>rfl
  | mapUpdate t m k v =>
    show _=bS (fT P E T (.mapUpdate t m k v) G) K
    simp only [fT,pj,Hj,pk]
    cases vS P t (ev T m) (ev T k) (ev T v) G<;>rfl
  | _=>first
    | rfl
    | exact (Dw _ _ _).symm
def wM {β:Type} (N:Nat) (ops:Array Oper):List Oper→Env→GS→(Env→GS→Option β)→Option β
  | [],τ,G,K=>K τ G
  | o::r,τ,G,K=>match o.guard with
    | none=>lJ P E (iX τ) o.op G fun v G'=>wM N ops r (pt N τ o.dst v) G' K
    | some (j,want)=>bS (gd (match gY ops j with | some t=>τ t | none=>undef) want (lJ P E (iX τ) o.op G fun v G'=>some (v,G')) G) fun v G'=>wM N ops r (pt N τ o.dst v) G' K
theorem Ot {β:Type} {N:Nat} (ops:Array Oper):∀ (l:List Oper) (T:List Value) (G:GS) (K:Env→GS→Option β),T.length=N →
    wM P E N ops l (nth undef T) G K=vd P E ops l T G fun T' G'=>K (nth undef T') G'
  | [],T,G,K,h=>rfl
  | o::r,T,G,K,h=>by
    have ih:=fun v G'=>Ot ops r (bf T o.dst v) G' K ((tH _ _ _).trans h)
    simp only [wM,vd]
    cases o.guard with
    | none=>simp only [yD,Dx,HC h,ih]
    | some jw =>
      obtain ⟨j,want⟩:=jw
      simp only [yD,Dx,HC h,ih]
      rfl
def m7 (e:Operand→Value) (op:Op) (G:GS):Option Value:=match op with
  | .load t x=>kK P t (e x) G
  | .slice t x l h m=>iG P t (e x) (l.map e) (h.map e) (m.map e) G
  | _=>none
theorem Ou (T:List Value) (op:Op) (G:GS):m7 P (ev T) op G=fK P T op G:=by cases op<;>rfl
def ov {β:Type} (N:Nat) (ops:Array Oper) (ms:List Nat) (base:Nat):Nat→List Oper→Env→GS→List (Nat×Bool×GS)→List (Nat×(GS→Bool))→(Env→GS→Option β)→Option β
  | _,[],τ,G,_,_,K=>K τ G
  | i,o::r,τ,G,aM,aF,K =>
    match o.guard with
    | none=>match cls o.op with
      | 0=>lJ P E (iX τ) o.op G fun v _=>ov N ops ms base (i+1) r (pt N τ o.dst v) G aM aF K
      | 1=>if dW o.op then bP (m7 P (iX τ) o.op G) fun v=>iW (fun h=>!h.1||br (m7 P (iX τ) o.op h.2) v) (jn (nth 0 ms i) aM)
          (ov N ops ms base (i+1) r (pt N τ o.dst v) G aM ((i,fun G'=>br (m7 P (iX τ) o.op G') v)::aF) K) else none
      | 2=>lJ P E (iX τ) o.op (G.aI (base+i)) fun v G'=>ov N ops ms base (i+1) r (pt N τ o.dst v) (G'.back G) aM aF K
      | _=>lJ P E (iX τ) o.op G fun v G'=>iW (fun c=>c G') (jn (nth 0 ms i) aF) (ov N ops ms base (i+1) r (pt N τ o.dst v) G' ((i,true,G)::aM) aF K)
    | some (j,want)=>match cls o.op with
      | 0=>bS (gd (match gY ops j with | some t=>τ t | none=>undef) want (lJ P E (iX τ) o.op G fun v G'=>some (v,G')) G) fun v _=>ov N ops ms base (i+1) r (pt N τ o.dst v) G aM aF K
      | 1=>bS (gd (match gY ops j with | some t=>τ t | none=>undef) want (if dW o.op then bP (m7 P (iX τ) o.op G) fun v=>some (v,G) else none) G) fun v _ =>
          iW (fun h=>!(gB (match gY ops j with | some t=>τ t | none=>undef) want)||(!h.1||br (m7 P (iX τ) o.op h.2) v)) (jn (nth 0 ms i) aM)
          (ov N ops ms base (i+1) r (pt N τ o.dst v) G aM ((i,fun G'=>!(gB (match gY ops j with | some t=>τ t | none=>undef) want)||br (m7 P (iX τ) o.op G') v)::aF) K)
      | 2=>bS (gd (match gY ops j with | some t=>τ t | none=>undef) want (lJ P E (iX τ) o.op (G.aI (base+i)) fun v G'=>some (v,G'.back G)) G) fun v G'=>ov N ops ms base (i+1) r (pt N τ o.dst v) G' aM aF K
      | _=>bS (gd (match gY ops j with | some t=>τ t | none=>undef) want (lJ P E (iX τ) o.op G fun v G'=>some (v,G')) G) fun v G' =>
          iW (fun c=>!(gB (match gY ops j with | some t=>τ t | none=>undef) want)||c G') (jn (nth 0 ms i) aF) (ov N ops ms base (i+1) r (pt N τ o.dst v) G' ((i,gB (match gY ops j with | some t=>τ t | none=>undef) want,G)::aM) aF K)
def wN (hl:List (Nat×Bool×GS)) (dp:List (Nat×GS)):Prop:=∀ (m:Nat) (f:GS→Bool),((jn m hl).all fun h=>!h.1||f h.2)=dp.all fun h=>m.testBit h.1||f h.2
def wO (pl:List (Nat×(GS→Bool))) (wP:List fu):Prop:=∀ (m:Nat) (G':GS),((jn m pl).all fun c=>c G')=wP.all fun p=>m.testBit p.i||br (fK P p.T p.op G') p.v
theorem wN.yes {hl:List (Nat×Bool×GS)} {dp:List (Nat×GS)} (h:wN hl dp) (i:Nat) (G:GS):wN ((i,true,G)::hl) ((i,G)::dp):=fun m f=>by
  have:=h m f
  rw [wH] at this ⊢
  simp only [List.all_cons,this,Bool.not_true,Bool.false_or]
theorem wN.no {hl:List (Nat×Bool×GS)} {dp:List (Nat×GS)} (h:wN hl dp) (i:Nat) (G:GS):wN ((i,false,G)::hl) dp:=fun m f=>by
  have:=h m f
  rw [wH] at this ⊢
  simp only [List.all_cons,this,Bool.not_false,Bool.true_or,Bool.or_true,Bool.true_and]
variable {P} in
theorem wO.yes {pl:List (Nat×(GS→Bool))} {wP:List fu} (h:wO P pl wP) (i:Nat) (T:List Value) (op:Op) (v:Value) (c:GS→Bool) (hc:∀ G,c G=br (fK P T op G) v):wO P ((i,c)::pl) (⟨i,T,op,v⟩::wP):=fun m G'=>by
  have:=h m G'
  rw [wH] at this ⊢
  simp only [List.all_cons,this,hc]
variable {P} in
theorem wO.no {pl:List (Nat×(GS→Bool))} {wP:List fu} (h:wO P pl wP) (i:Nat) (c:GS→Bool) (hc:∀ G,c G=true):wO P ((i,c)::pl) wP:=fun m G'=>by
  have:=h m G'
  rw [wH] at this ⊢
  simp only [List.all_cons,this,hc,Bool.or_true,Bool.true_and]
theorem HD {β:Type} {N:Nat} (ops:Array Oper) (ms:List Nat) (base:Nat):∀ (l:List Oper) (i:Nat) (T:List Value) (G:GS) (aM:List (Nat×Bool×GS)) (pg:List (Nat×GS)) (aF:List (Nat×(GS→Bool))) (mZ:List fu) (K:Env→GS→Option β),T.length=N→wN aM pg →wO P aF mZ →
    ov P E N ops ms base i l (nth undef T) G aM aF K=match im P E ops ms base i l T G pg mZ with | some (T',G')=>K (nth undef T') G' | none=>none
  | [],i,T,G,aM,pg,aF,mZ,K,h,hh,hp=>rfl
  | o::r,i,T,G,aM,pg,aF,mZ,K,h,hh,hp=>by
    have ih:=fun v G' aM pg aF mZ=>HD ops ms base r (i+1) (bf T o.dst v) G' aM pg aF mZ K ((tH _ _ _).trans h)
    have fc:dW o.op=true→∀ (G:GS) (K':Value→GS→Option β),lJ P E (ev T) o.op G K' =bS (lH P E (cls o.op) T G o.op) K':=fun hk G K'=>by rw [Dx,yB]; unfold og; rw [if_pos hk]
    have Xa:dW o.op=true→∀ (G:GS) (K':Value→GS→Option (Value×GS)),lJ P E (ev T) o.op G K' =bS (lH P E (cls o.op) T G o.op) K':=fun hk G K'=>by rw [Dx,yB]; unfold og; rw [if_pos hk]
    have AR:dW o.op=false→∀ (γ:Type) (e:Operand→Value) (G:GS) (K':Value→GS→Option γ),lJ P E e o.op G K' =none:=fun hk γ e G K'=>by unfold lJ; rw [hk]; rfl
    simp only [ov,im,uW,yD,HC h]
    cases hg:o.guard with
    | none =>
      have hw:dD ops T o=true:=by simp [dD,hg]
      simp only [hw,if_true]
      by_cases hk:dW o.op=true
      case neg =>
        have me:dW o.op=false:=by simpa using hk
        simp only [me,AR me,Bool.false_eq_true,if_false]
        split<;>rfl
      have m0:=fc hk
      simp only [hk,if_true]
      unfold wB
      generalize hc:cls o.op=n at m0 ⊢
      match n with
      | 0 =>
        simp only [m0,d0,lH,lG]
        cases rI P T o.op with
        | none=>rfl
        | some v=>exact ih _ _ _ _ _ _ hh hp
      | 1 =>
        simp only [d1,Ou]
        cases fK P T o.op G with
        | none=>rfl
        | some v =>
          have:=hh (nth 0 ms i) fun G=>br (fK P T o.op G) v
          simp only [A0,wF,this]
          split
          · exact ih _ _ _ _ _ (⟨i,T,o.op,v⟩::mZ) hh (hp.yes i T o.op v _ fun G=>rfl)
          · rfl
      | 2 =>
        simp only [m0,d2,lH]
        show (bS (rJ P T o.op { G with nx:=base+i }) _)=_
        rcases rJ P T o.op { G with nx:=base+i } with _ | ⟨v,G'⟩
        · rfl
        · exact ih _ _ _ _ _ _ hh hp
      | n+3 =>
        simp only [m0,d3,lH]
        rcases fT P E T o.op G with _ | ⟨v,G'⟩
        · rfl
        · have:=hp (nth 0 ms i) G'
          simp only [yz,wF,this]
          split
          · exact ih _ _ _ _ _ _ (hh.yes i G) hp
          · rfl
    | some jw =>
      obtain ⟨j,want⟩:=jw
      have hw:dD ops T o=gB (tJ T (gY ops j)) want:=by simp only [dD,hg]; exact Oh ops T j want
      have hv:(match gY ops j with | some t=>nth undef T t | none=>undef)=tJ T (gY ops j):=rfl
      simp only [hw,hv,gd]
      by_cases hb:gB (tJ T (gY ops j)) want=true
      case neg =>
        have ig:gB (tJ T (gY ops j)) want=false:=by simpa using hb
        simp only [ig,Bool.false_eq_true,if_false,yz,wF,Bool.not_false,Bool.true_or,List.all_eq_true,implies_true,if_true]
        split
        · exact ih _ _ _ _ _ _ hh hp
        · exact ih _ _ _ _ _ _ hh (hp.no i _ fun _=>rfl)
        · exact ih _ _ _ _ _ _ hh hp
        · exact ih _ _ _ _ _ _ (hh.no i G) hp
      simp only [hb,if_true,Bool.not_true,Bool.false_or]
      by_cases hk:dW o.op=true
      case neg =>
        have me:dW o.op=false:=by simpa using hk
        simp only [me,AR me,Bool.false_eq_true,if_false]
        split<;>rfl
      have m0:=Xa hk
      simp only [hk,if_true]
      unfold wB
      generalize hc:cls o.op=n at m0 ⊢
      match n with
      | 0 =>
        simp only [m0,d0,lH,lG]
        cases rI P T o.op with
        | none=>rfl
        | some v=>exact ih _ _ _ _ _ _ hh hp
      | 1 =>
        simp only [d1,Ou]
        cases fK P T o.op G with
        | none=>rfl
        | some v =>
          have:=hh (nth 0 ms i) fun G=>br (fK P T o.op G) v
          simp only [A0,yz,wF,this]
          split
          · exact ih _ _ _ _ _ (⟨i,T,o.op,v⟩::mZ) hh (hp.yes i T o.op v _ fun G=>rfl)
          · rfl
      | 2 =>
        simp only [m0,d2,lH]
        show (bS (bS (rJ P T o.op { G with nx:=base+i }) _) _)=_
        rcases rJ P T o.op { G with nx:=base+i } with _ | ⟨v,G'⟩
        · rfl
        · exact ih _ _ _ _ _ _ hh hp
      | n+3 =>
        simp only [m0,d3,lH]
        rcases fT P E T o.op G with _ | ⟨v,G'⟩
        · rfl
        · have:=hp (nth 0 ms i) G'
          simp only [yz,wF,this]
          split
          · exact ih _ _ _ _ _ _ (hh.yes i G) hp
          · rfl
def wQ {β:Type} (id:Nat) (K:Exit→Env→GS→Option β) (e:Exit) (τ:Env) (G:GS):Option β:=match e with
  | .exit gT=>bif Nat.beq gT id then K .normal τ G else K (.exit gT) τ G
  | e=>K e τ G
def iq {β:Type} (b:Env→GS→Option β) (K:Exit→Env→GS→Option β) (e:Exit) (τ:Env) (G:GS):Option β:=match e with
  | .normal=>b τ G
  | e=>K e τ G
def tL {β:Type} (l:List Exit) (e:Exit) (τ:Env) (G:GS) (K:Exit→Env→GS→Option β):Option β:=match l with
  | []=>none
  | x::r=>dt e x (K x τ G) (tL r e τ G K)
theorem Ov {β:Type} (e:Exit) (T:List Value) (G:GS) (K:Exit→Env→GS→Option β):∀ l:List Exit,tL l e (nth undef T) G K=mo l e T G fun e T' G'=>K e (nth undef T') G'
  | []=>rfl
  | x::r=>by simp only [tL,mo,Ov e T G K r]
def Ow {β:Type} (N:Nat) (b:Code) (K:Exit→Env→GS→Option β) (e:Exit) (τ:Env) (G:GS):Option β:=match e with
  | .goto l=>match findLabel b l with
    | some rest=>bX (E.sc b rest (aN N τ) G) fun e T2 G2=>tL (.normal::jX b) e (nth undef T2) G2 K
    | none=>K (.goto l) τ G
  | e=>K e τ G
def fU {β:Type} (N:Nat):Code→Env→GS→(Exit→Env→GS→Option β)→Option β
  | .skip,τ,G,K=>K .normal τ G
  | .label _,τ,G,K=>K .normal τ G
  | .seq a b,τ,G,K=>fU N a τ G (iq (fun τ G=>fU N b τ G K) K)
  | .cond x a b,τ,G,K=>if dm x then cD (iX τ x) (fU N a τ G K) (fU N b τ G K) else none
  | .block id b,τ,G,K=>fU N b τ G (wQ id K)
  | .loop b,τ,G,K=>bX (E.lp b (aN N τ) G) fun e T' G'=>tL (jX b) e (nth undef T') G' K
  | .exit id,τ,G,K=>K (.exit id) τ G
  | .goto l,τ,G,K=>K (.goto l) τ G
  | .ret,τ,G,K=>K .ret τ G
  | .scope b,τ,G,K=>fU N b τ G (Ow E N b K)
  | .region _ ops draw,τ,G,K =>
    if draw then
      if uC ops then
        ov P E N ops (masks ops.toList []) G.nx 0 ops.toList τ (G.room ops.size) [] [] fun τ G=>K .normal τ G
      else none
    else wM P E N ops ops.toList τ G fun τ G=>K .normal τ G
  | .rangeFunc f ps assign body,τ,G,K=>if dm f then bX (gW E (iX τ f) ps assign body (aN N τ) G) fun e T' G'=>tL (.normal::jX body) e (nth undef T') G' K else none
  | .refuse _,_,_,_=>none
theorem HE {β:Type} {N:Nat} {E':Option (Exit×List Value×GS)} (l:List Exit) (K:Exit→Env→GS→Option β) (h:∀ e T' G',E' =some (e,T',G')→T'.length=N) :
    (bX E' fun e T' G'=>tL l e (nth undef T') G' K)=bX E' fun e T' G'=>mo l e (pr N T') G' fun e T' G'=>K e (nth undef T') G':=by
  rcases E' with _ | ⟨e,T',G'⟩
  · rfl
  · simp only [kN,oh (h _ _ _ rfl),Ov]
theorem Dy {β:Type} {N:Nat} (hE:E.yw):∀ (c:Code) (T:List Value) (G:GS) (K:Exit→Env→GS→Option β),T.length=N →
    fU P E N c (nth undef T) G K=gF P E N c T G fun e T' G'=>K e (nth undef T') G':=by
  intro c
  have mono:∀ (c:Code) (T:List Value) (G:GS) (K K':Exit→List Value→GS→Option β),T.length=N→(∀ e T' G',T'.length=N→K e T' G' =K' e T' G')→gF P E N c T G K=gF P E N c T G K':=by
    intro c
    have hd:∀ (l:List Exit) (e:Exit) (T:List Value) (G:GS) (K K':Exit→List Value→GS→Option β),T.length=N→(∀ e T' G',T'.length=N→K e T' G' =K' e T' G')→mo l e T G K=mo l e T G K':=by
      intro l
      induction l with
      | nil=>intros; rfl
      | cons x r ih=>intro e T G K K' h hK; simp only [mo,hK _ _ _ h,ih e T G K K' h hK]
    induction c with
    | seq a b fv fw =>
      intro T G K K' h hK
      refine fv T G _ _ h fun e T' G' h'=>?_
      cases e with
      | normal=>exact fw T' G' K K' h' hK
      | _=>exact hK _ _ _ h'
    | cond x a b fv fw =>
      intro T G K K' h hK
      simp only [gF,fv T G K K' h hK,fw T G K K' h hK]
    | block id b ih =>
      intro T G K K' h hK
      refine ih T G _ _ h fun e T' G' h'=>?_
      cases e with
      | exit gT=>simp only [yC,hK _ _ _ h']
      | _=>exact hK _ _ _ h'
    | loop b ih =>
      intro T G K K' h hK
      simp only [gF]
      rcases hx:E.lp b T G with _ | ⟨e,T',G'⟩
      · rfl
      · exact hd _ _ _ _ _ _ ((congrArg List.length (oh ((hE.lp _ _ _ _ _ _ hx).trans h))).trans ((hE.lp _ _ _ _ _ _ hx).trans h)) hK
    | scope b ih =>
      intro T G K K' h hK
      refine ih T G _ _ h fun e T' G' h'=>?_
      cases e with
      | goto l =>
        simp only [Du]
        cases findLabel b l with
        | none=>exact hK _ _ _ h'
        | some rest =>
          simp only
          rcases hx:E.sc b rest T' G' with _ | ⟨e,T2,G2⟩
          · rfl
          · exact hd _ _ _ _ _ _ ((congrArg List.length (oh ((hE.sc _ _ _ _ _ _ _ hx).trans h'))).trans ((hE.sc _ _ _ _ _ _ _ hx).trans h')) hK
      | _=>exact hK _ _ _ h'
    | region id ops draw =>
      intro T G K K' h hK
      have Ox:∀ e T' G',kL P E ops T G=some (e,T',G')→T'.length=N:=by
        intro e T' G' hx
        unfold kL pn at hx
        split at hx
        · split at hx
          · rename_i hd
            cases hx
            exact (yx P _ _ _ _ _ _ _ _ _ _ _ _ hd).trans h
          · cases hx
        · cases hx
      simp only [gF]
      split
      · split
        · split
          · rename_i hn
            have h1:=fun K=>Ba (β:=β) P E ops (masks ops.toList []) G.nx ops.toList 0 T { G with nx:=G.nx+ops.size } [] [] K hn
            simp only [List.map_nil] at h1
            rw [h1,h1]
            rcases hy:im P E ops (masks ops.toList []) G.nx 0 ops.toList T { G with nx:=G.nx+ops.size } [] [] with _ | ⟨T',G'⟩
            · rfl
            · exact hK _ _ _ ((yx P _ _ _ _ _ _ _ _ _ _ _ _ hy).trans h)
          · rcases hx:kL P E ops T G with _ | ⟨e,T',G'⟩
            · rfl
            · exact hd _ _ _ _ _ _ ((congrArg List.length (oh (Ox _ _ _ hx))).trans (Ox _ _ _ hx)) hK
        · rfl
      · rw [A9,A9]
        rcases hy:lI P E ops ops.toList T G with _ | ⟨T',G'⟩
        · rfl
        · exact hK _ _ _ ((Dr P _ _ _ _ _ _ _ hy).trans h)
    | rangeFunc f ps assign body fv fw =>
      intro T G K K' h hK
      simp only [gF]
      split
      · rcases hx:gW E (ev T f) ps assign body T G with _ | ⟨e,T',G'⟩
        · rfl
        · have hl:T'.length=N:=by
            unfold gW qu at hx
            split at hx
            · split at hx
              · split at hx
                · split at hx
                  · cases hx
                  · split at hx
                    · cases hx; exact h
                    · cases hx
                · cases hx
              · cases hx
            · cases hx
          exact hd _ _ _ _ _ _ ((congrArg List.length (oh hl)).trans hl) hK
      · rfl
    | refuse w=>intros; rfl
    | _=>intro T G K K' h hK; exact hK _ _ _ h
  induction c with
  | skip=>intros; rfl
  | label l=>intros; rfl
  | exit l=>intros; rfl
  | goto l=>intros; rfl
  | ret=>intros; rfl
  | refuse w=>intros; rfl
  | seq a b fv fw =>
    intro T G K h
    simp only [fU,gF]
    rw [fv T G _ h]
    refine mono a T G _ _ h fun e T' G' h'=>?_
    cases e with
    | normal=>exact fw T' G' K h'
    | _=>rfl
  | cond x a b fv fw =>
    intro T G K h
    simp only [fU,gF,yD,fv T G K h,fw T G K h]
  | block id b ih =>
    intro T G K h
    simp only [fU,gF]
    rw [ih T G _ h]
    refine mono b T G _ _ h fun e T' G' h'=>?_
    cases e with
    | exit gT =>
      simp only [wQ,yC]
      by_cases he:gT =id
      · subst he; simp [Nat.beq_refl]
      · have:Nat.beq gT id=false:=by
          cases hb:Nat.beq gT id
          · rfl
          · exact absurd (Nat.eq_of_beq_eq_true hb) he
        simp [this,he]
    | _=>rfl
  | loop b ih =>
    intro T G K h
    simp only [fU,gF,yE h]
    exact HE _ K fun e T' G' hx=>(hE.lp _ _ _ _ _ _ hx).trans h
  | scope b ih =>
    intro T G K h
    simp only [fU,gF]
    rw [ih T G _ h]
    refine mono b T G _ _ h fun e T' G' h'=>?_
    cases e with
    | goto l =>
      simp only [Ow,Du]
      cases findLabel b l with
      | none=>rfl
      | some rest =>
        simp only [yE h']
        exact HE _ K fun e T2 G2 hx=>(hE.sc _ _ _ _ _ _ _ hx).trans h'
    | _=>rfl
  | region id ops draw =>
    intro T G K h
    simp only [fU,gF]
    split
    · split
      · split
        · rename_i hn
          have h1:=Ba P E ops (masks ops.toList []) G.nx ops.toList 0 T { G with nx:=G.nx+ops.size } [] [] (fun T' G'=>K .normal (nth undef T') G') hn
          rw [List.map_nil] at h1
          rw [h1]
          exact HD P E ops _ _ _ _ _ _ _ [] _ [] _ h (fun _ _=>rfl) (fun _ _=>rfl)
        · rename_i Xb hn
          refine (HD P E ops _ _ _ _ _ _ _ [] _ [] _ h (fun _ _=>rfl) (fun _ _=>rfl)).trans ?_
          have hx:kL P E ops T G=pn (im P E ops (masks ops.toList []) G.nx 0 ops.toList T { G with nx:=G.nx+ops.size } [] []):=by unfold kL; rw [if_pos Xb]
          rw [hx]
          show (match im P E ops (masks ops.toList []) G.nx 0 ops.toList T { G with nx:=G.nx+ops.size } [] [] with | some (T',G')=>K .normal (nth undef T') G' | none=>none)=_
          rcases hd:im P E ops (masks ops.toList []) G.nx 0 ops.toList T { G with nx:=G.nx+ops.size } [] [] with _ | ⟨T',G'⟩
          · rfl
          · simp only [pn,kN,mo,W5,oh ((yx P _ _ _ _ _ _ _ _ _ _ _ _ hd).trans h)]
      · rfl
    · exact Ot P E ops _ _ _ _ h
  | rangeFunc f ps assign body fv fw =>
    intro T G K h
    simp only [fU,gF,yD,yE h]
    split
    · refine HE _ K fun e T' G' hx=>?_
      unfold gW qu at hx
      split at hx
      · split at hx
        · split at hx
          · split at hx
            · cases hx
            · split at hx
              · cases hx; exact h
              · cases hx
          · cases hx
        · cases hx
      · cases hx
    · rfl
def vj {β:Type} (τ:Env) (G:GS):List ResultVar→(List Value→Option β)→Option β
  | [],K=>K []
  | .tmp t::r,K=>vj τ G r fun l=>K (τ t::l)
  | .cell a t::r,K=>bP (kK P t (τ a) G) fun v=>vj τ G r fun l=>K (v::l)
theorem HF {β:Type} (T:List Value) (G:GS):∀ (l:List ResultVar) (K:List Value→Option β),vj P (nth undef T) G l K=tK P T G l K
  | [],K=>rfl
  | .tmp t::r,K=>by simp only [vj,tK,HF T G r]
  | .cell a t::r,K=>by simp only [vj,tK,HF T G r]
def qy (results:List ResultVar) (e:Exit) (τ:Env) (G:GS):Option (Value×GS):=if rq e then vj P τ G results fun l=>some (uD l,G) else none
def flat:Code→Bool
  | .seq a b=>flat a&&flat b
  | .cond _ a b=>flat a&&flat b
  | .block _ b=>flat b
  | .region _ ops draw=>!draw||wE ops.toList
  | .loop _=>false
  | .scope _=>false
  | .rangeFunc ..=>false
  | _=>true
end
section
variable (P:Program) (ae:FuncId→Bool)
theorem Oy (vs:List Value) (k:Nat):nth undef (vs++List.replicate k undef)=nth undef vs:=by
  funext j
  rw [jL,jL]
  simp only [List.getD_eq_getElem?_getD,List.getElem?_append,List.getElem?_replicate]
  split
  · rfl
  · rw [List.getElem?_eq_none (by omega)]
    split<;>rfl
theorem Oz {vs:List Value} {n:Nat} (hl:Nat.ble vs.length n=true):(vs++List.replicate (n - vs.length) undef).length=n:=by
  have:=Nat.le_of_ble_eq_true hl; simp; omega
theorem OA (T:List Value) (rs:List ResultVar) (e:Exit) (G:GS):qy P rs e (nth undef T) G=Bb P rs e T G:=by
  unfold qy Bb
  rw [HF]
theorem Dz {f:FuncId} {fn:Func} {vs:List Value} (G:GS) (hf:P.funcs[f]? =some fn) (hn:(fn.name == "runtime.NumGoroutine")=false) (hb:fn.body.isSome=true) (ho:(vs.isEmpty&&ae f)=false) (hp:po P ae f=false) (hl:Nat.ble vs.length fn.ntmps=true)
    {x:Option (Value×GS)} {r:Value×GS} (hx:fU P (aC P ae) fn.ntmps (aS fn) (nth undef vs) G (qy P fn.results.toList)=x) (h:x=some r):(aC P ae).cl f vs G=some r:=by
  refine W6 P ae G hf hn hb ho hp hl ?_ (hx.trans h)
  rw [← Oy vs (fn.ntmps - vs.length),Dy P (aC P ae) (tI P ae) _ _ _ _ (Oz hl)]
  simp only [OA]
def DA (N:Nat):List Nat→List Value→Env→Env
  | p::ps,v::vs,τ=>DA N ps vs (wI N τ p v)
  | _,_,τ=>τ
theorem OB {N:Nat}:∀ (ps:List Nat) (vs T:List Value),T.length=N→DA N ps vs (nth undef T)=nth undef (lZ ps vs T)
  | [],vs,T,h=>by cases vs<;>rfl
  | p::ps,[],T,h=>rfl
  | p::ps,v::vs,T,h=>by
    simp only [DA,lZ,Oq h]
    exact OB ps vs _ ((yv _ _ _).trans h)
theorem OC {l N:Nat} {vs:List Value} {G:GS} {st:LoopState} {aF:Option Code} {T:List Value} {ps:List Nat} {assign body:Code} (hl:G.loop l=some ⟨st,aF,T,ps,assign,body⟩) (hp:ps.length=vs.length) (hT:T.length=N)
    {x:Option (Value×GS)} {r:Value×GS} (hx:fU P (aC P ae) N assign (DA N ps vs (nth undef T)) G (iq (fun τ G1=>bP (G1.loop l) fun r1=>if r1.st= .ready then fU P (aC P ae) N body τ (G1.cC l (r1.jW .busy)) (fun e _ G2=>qx l e G2) else none) fun _ _ _=>none)=x) (hr:x=some r) :
    (aC P ae).rd l vs G=some r:=by
  have hL:=tI P ae
  have h1:=hx.trans hr
  have jQ:(lZ ps vs T).length=N:=(Oo _ _ _).trans hT
  rw [OB _ _ _ hT,Dy P (aC P ae) hL _ _ _ _ jQ] at h1
  replace h1:=Dv P ae _ _ _ _ _ jQ h1
  rw [W7 P ae hl hp hT,rO P ae _ _ _ _ jQ]
  rcases hy:(aC P ae).ex assign (lZ ps vs T) G with _ | ⟨e,T1,G1⟩
  · rw [hy] at h1; exact h1
  · rw [hy] at h1
    have iV:=(hL.ex _ _ _ _ _ _ hy).trans jQ
    cases e with
    | normal =>
      simp only [kN,vf,iq,HB] at h1 ⊢
      cases hg:G1.loop l with
      | none=>rw [hg] at h1; exact h1
      | some r1 =>
        rw [hg] at h1
        simp only [A0] at h1 ⊢
        split at h1
        · rename_i ax
          rw [if_pos ax,rO P ae _ _ _ _ iV]
          rw [Dy P (aC P ae) hL _ _ _ _ iV] at h1
          exact Dv P ae _ _ _ _ _ iV h1
        · cases h1
    | _=>exact h1
end
def bm:List Nat→Code→Code
  | [],c=>c
  | n::r,c=>match c with
    | .seq a b=>match n with | 0=>bm r a | _=>bm r b
    | .cond _ a b=>match n with | 0=>bm r a | _=>bm r b
    | .block _ b=>bm r b
    | .loop b=>bm r b
    | .scope b=>bm r b
    | .rangeFunc _ _ a b=>match n with | 0=>bm r a | _=>bm r b
    | c=>c
def Xc (l:Nat) (c:Code):Code:=match findLabel c l with | some r=>r | none=>.skip
def GS.cell (G:GS) (b o:Nat):Option Value:=match G.obj b with | some ob=>if ob.mode=2 then none else ob.cells[o]? | none=>none
def GS.Bc (G:GS) (b o n:Nat):Option (List Value):=match G.obj b with | some ob=>if ob.mode=2 then none else (if o+n≤ob.cells.length then some ((ob.cells.drop o).take n) else none) | none=>none
theorem DB {α:Type}:∀ (n:Nat) (l:List α),takeN n l=if n≤l.length then some (l.take n) else none
  | 0,l=>by simp [Ct]
  | n+1,[]=>by simp [K5]
  | n+1,x::xs=>by
    rw [K6,DB n xs]
    by_cases h:n≤xs.length<;>simp [h]
theorem HG (G:GS) (b o n:Nat) (hn:0<n):fE G b o n=G.Bc b o n:=by
  unfold fE GS.Bc
  cases G.obj b with
  | none=>rfl
  | some ob =>
    simp only
    split
    · rfl
    · rw [DB,xW,List.length_drop]
      by_cases h:o+n≤ob.cells.length
      · rw [if_pos h,if_pos (by omega)]
      · rw [if_neg h,if_neg (by omega)]
theorem cH (b o:Nat) (G:GS):ct b o G=G.cell b o:=by
  unfold ct
  rw [HG _ _ _ _ (by omega)]
  unfold GS.Bc GS.cell
  cases G.obj b with
  | none=>rfl
  | some ob =>
    simp only
    by_cases hm:ob.mode=2
    · rw [if_pos hm,if_pos hm]
    · rw [if_neg hm,if_neg hm]
      by_cases h:o+1≤ob.cells.length
      · rw [if_pos h]
        have h':o<ob.cells.length:=by omega
        rw [List.getElem?_eq_getElem h',List.drop_eq_getElem_cons h']
        rfl
      · rw [if_neg h,List.getElem?_eq_none (by omega)]
def eI (n b o:Nat) (G:GS):Option Value:=match fE G b o n with | some l=>some (.agg ⟨l⟩) | none=>none
def jY (n b o:Nat) (v:Value) (G:GS):Option GS:=if v.cells.size=n then lY G b o v.cells.toList else none
def jZ {α:Type} (l:List α) (o:Nat) (vs:List α):List α:=l.take o++vs++l.drop (o+vs.length)
theorem DC {α:Type}:∀ (l:List α) (o:Nat) (vs:List α),splice l o vs=if o+vs.length≤l.length then some (jZ l o vs) else none
  | l,0,[]=>by simp [bO,jZ]
  | [],n+1,vs=>by cases vs<;>simp [K7]
  | [],0,_::_=>by simp [K8]
  | x::xs,n+1,vs=>by
    rw [eC,DC xs n vs]
    have e:n+1+vs.length≤(x::xs).length↔n+vs.length≤xs.length:=by simp; omega
    by_cases h:n+vs.length≤xs.length
    · rw [if_pos h,if_pos (e.2 h)]
      simp [jZ,Nat.add_right_comm]
    · rw [if_neg h,if_neg (fun h'=>h (e.1 h'))]
  | x::xs,0,v::vs=>by
    rw [bQ,DC xs 0 vs]
    have e:0+(v::vs).length≤(x::xs).length↔0+vs.length≤xs.length:=by simp
    by_cases h:0+vs.length≤xs.length
    · rw [if_pos h,if_pos (e.2 h)]
      simp [jZ]
    · rw [if_neg h,if_neg (fun h'=>h (e.1 h'))]
theorem OD {α:Type}:∀ (l:List α) (o:Nat) (v:α),o<l.length→jZ l o [v]=l.set o v
  | [],o,v,h=>by simp at h
  | x::xs,0,v,h=>by simp [jZ]
  | x::xs,o+1,v,h=>by
    have:=OD xs o v (by simpa using h)
    simp only [jZ,List.length_singleton] at this ⊢
    simp [this,Nat.add_right_comm]
def aR.over (ob:aR) (o:Nat) (vs:List Value):aR:={ ob with cells:=jZ ob.cells o vs }
theorem HI {G:GS} {b o:Nat} {vs:List Value} {ob:aR} (h:G.obj b=some ob) (hm:ob.mode=1) (hv:vs.all one=true) (hl:o+vs.length≤ob.cells.length):lY G b o vs=some (G.put b (ob.over o vs)):=by
  unfold lY
  rw [h]
  simp [hm,hv,DC,hl,aR.over]
def oy:List Value→List (Nat×Nat×Value)→Option (List Value)
  | cells,[]=>some cells
  | cells,(off,size,v)::rest=>if v.cells.size=size then (match splice cells off v.cells.toList with | some c=>oy c rest | none=>none) else none
def rQ (z:List Value) (l:List (Nat×Nat×Value)):Option Value:=match oy z l with | some c=>some (.agg ⟨c⟩) | none=>none
def pv (z:List Value) (l:List (Nat×Nat×Value)) (len s:Nat) (G:GS):Option (Value×GS):=match oy z l with | some c=>some (.slice (some ⟨G.nx,0,none⟩) len len,jf G c s) | none=>none
def zs (n:Nat) (v:Value):List Value:=Nat.rec (motive:=fun _=>List Value) [] (fun _ ih=>v::ih) n
@[simp] theorem Xd (v:Value):∀ n:Nat,zs n v=List.replicate n v
  | 0=>rfl
  | n+1=>by rw [List.replicate_succ,← Xd v n]; rfl
def wR (size bytes:Nat) (z:List Value) (l c:Int) (G:GS):Option (Value×GS) :=
  if 0 ≤ l ∧ l ≤ c ∧ size ≠ 0 ∧ bytes * c ≤ 2 ^ 48 ∧ IntKind.i64.wrap l = l ∧ IntKind.i64.wrap c = c then
          some (.slice (some ⟨G.nx,0,none⟩) l.toNat c.toNat,jf G (rep z c.toNat) size) else none
def oz (gu ib:Nat) (s x:Value) (G:GS):Option (Value×GS) :=
  if gu=0∨ib=0 then none else
      match x with
      | .slice _ n _ =>
        match elems gu n x G with
        | none=>none
        | some new=>if !(new.all one) then none else
          match s with
          | .slice none 0 0 =>
            if n=0 then some (.slice none 0 0,G)
            else if (2*n+1000)*ib≤2 ^ 48 then some (.slice (some ⟨G.nx,0,none⟩) n n,G.push ⟨new,gu,true,1⟩)
            else none
          | .slice (some a) len cap =>
            if n=0 then some (.slice (some a) len cap,G) else
            match G.obj a.block with
            | none=>none
            | some o =>
              if len+n≤cap then
                match lY G a.block (a.off+len*gu) new with
                | some G'=>some (.slice (some a) (len+n) cap,G')
                | none=>none
              else match fE G a.block a.off (len*gu) with
                | none=>none
                | some old =>
                  if (2*(len+n)+1000)*ib≤2 ^ 48 then
                    if o.opn&&a.off+cap*o.esz=o.cells.length then
                      if o.mode=1&&o.esz=gu then
                        some (.slice (some ⟨G.nx,0,none⟩) (len+n) (len+n),(G.put a.block { o with mode:=2 }).push ⟨old++new,gu,true,1⟩)
                      else none
                    else some (.slice (some ⟨G.nx,0,none⟩) (len+n) (len+n),G.push ⟨old++new,gu,true,1⟩)
                  else none
          | _=>none
      | _=>none
def jo (s:Nat) (x:Value) (low high max:Option Value) (G:GS):Option Value :=
  match x with
  | .slice none 0 0 =>
    match bound max 0 0 with
    | some m=>match high,max with
      | none,some _=>none
      | _,_=>match bound high 0 m with
        | some h=>match bound low 0 h with
          | some _=>some (.slice none 0 0)
          | none=>none
        | none=>none
    | none=>none
  | .slice (some a) len cap =>
    match G.obj a.block with
    | some o=>if o.opn&&s != o.esz then none else
      match bound max cap cap with
      | some m=>match high,max with
        | none,some _=>none
        | _,_=>match bound high len m with
          | some h=>match bound low 0 h with
            | some l=>if h≤m then some (.slice (some ⟨a.block,a.off+l*s,none⟩) (h - l) (m - l)) else none
            | none=>none
          | none=>none
      | none=>none
    | none=>none
  | _=>none
theorem Xe (P:Program) {t e:TypeId} {z:Nat} (h1:P.underlying t=some (.slice e)) (h2:dN P e=some z) (a:Option Addr) (n c:Nat) (lo hi mx:Option Value) (G:GS) :
    iG P t (.slice a n c) lo hi mx G=jo z (.slice a n c) lo hi mx G:=by
  unfold iG jo
  rw [h1]
  cases a with
  | none=>cases n<;>cases c<;>simp only [h2]<;>rfl
  | some a =>
    simp only [h2]
    cases G.obj a.block<;>rfl
def yF (n s:Nat) (x:Value) (low high max:Option Value):Option Value :=
  match x with
  | .pointer (some a) =>
      match bound max n n with
      | some m=>match high,max with
        | none,some _=>none
        | _,_=>match bound high n m with
          | some h=>match bound low 0 h with
            | some l=>if h≤m then some (.slice (some ⟨a.block,a.off+l*s,none⟩) (h - l) (m - l)) else none
            | none=>none
          | none=>none
      | none=>none
  | _=>none
def HJ (z:Nat) (d s:Value) (G:GS):Option (Value×GS) :=
  match d,s with
    | .slice base dl _,.slice _ sl _ =>
      match elems z (Nat.min sl dl) s G with
      | some new=>match base with
        | none=>some (.int .i64 (Nat.min sl dl),G)
        | some a=>if new=[] then some (.int .i64 (Nat.min sl dl),G) else
          match lY G a.block a.off new with
          | some G'=>some (.int .i64 (Nat.min sl dl),G')
          | none=>none
      | none=>none
    | _,_=>none
end
end Go.Proofs.YtphandknhnkhfaaGreat.Gh
