import Derived.Test.YtphandknhnkhfaaGreatGhZ
namespace Go.Proofs.YtphandknhnkhfaaGreat.Gh
open Go
noncomputable section
variable {P:Program} {M:Map} {B:Nat} {E:Ev}
theorem V7:jU P B Ev.zero where
  ex c T G e T' G' h:=by simp [Ev.zero] at h
  sc b c T G e T' G' h:=by simp [Ev.zero] at h
  lp c T G e T' G' h:=by simp [Ev.zero] at h
  cl f vs G v G' h:=by simp [Ev.zero] at h
  yi f vs G v G' h:=by simp [Ev.zero] at h
  rd l vs G v G' h:=by simp [Ev.zero] at h
theorem V8 (lD:P.follows .mixedOrders=true) (hE:jU P B E):jU P B (E.next P) where
  ex c T G e T' G' h:=Vc hE (V5 lD hE) h
  sc b c T G e T' G' h:=Vi hE h
  lp c T G e T' G' h:=Vj hE h
  cl f vs G v G' h M w args cs hR hv:=Vm hE h cs hR hv
  yi f vs G v G' h:=by
    have h:rr P E f vs G=some (v,G'):=h
    simp only [rr] at h
    split at h
    · rename_i fn hf
      split at h
      · simp at h
      · rename_i hn
        split at h
        · rename_i c hc
          exact ⟨fn,hf,by simpa using hn,by rw [hc]; rfl⟩
        · simp at h
    · simp at h
  rd l vs G v G' h M w r lo args c cs hR hl cR hv:=Vo hE h c cs hR hl cR hv
def Map.empty:Map:=⟨fun _=>none,fun _=>none,fun _=>none⟩
theorem Ni (w:World):Rel GS.empty Map.empty w w.heap.size :=
  ⟨Nat.le_refl _,fun _ _ _ h=>(by cases h),fun _ _ _ _ _ _ h=>(by cases h),fun _ _ h=>(by cases h),fun _ _ h=>(by cases h),fun _ _ _ h=>(by cases h),fun _ _ h=>(by cases h),fun _ _ _ h=>(by cases h),fun _ _ h=>(by cases h),fun g _=>KX g,fun g o h=>by rw [show GS.empty.obj g=none from KX g] at h; cases h⟩
theorem V9 {G G':GS} {M':Map} {w w':World} (h:cI G M w G' M' w') (hf:∀ r,r<w.heap.size→¬ eF G M r):Go.RowKit.Below w.heap.size w w' :=
  ⟨h.os,h.tape,h.output,h.size,fun r hr=>h.keep r hr (hf r hr)⟩
end
end Go.Proofs.YtphandknhnkhfaaGreat.Gh
namespace Go.Proofs.YtphandknhnkhfaaGreat.Gh
open Go
noncomputable section
section
variable (P:Program)
def Da (k:IntKind) (m n:Int):Option Value:=if n=0 then none else some (.int k (k.wrap (m.tdiv n)))
def Db (k:IntKind) (m n:Int):Option Value:=if n=0 then none else some (.int k (m.tmod n))
def Dc (k:IntKind) (m n:Int):Option Value:=some (.int k (k.wrap ((BitVec.ofInt k.bits m &&& BitVec.ofInt k.bits n).toNat)))
def Dd (k:IntKind) (m n:Int):Option Value:=some (.int k (k.wrap ((BitVec.ofInt k.bits m ||| BitVec.ofInt k.bits n).toNat)))
def Nj (k:IntKind) (m n:Int):Option Value:=some (.int k (k.wrap ((BitVec.ofInt k.bits m ^^^ BitVec.ofInt k.bits n).toNat)))
def Nk (k:IntKind) (m n:Int):Option Value:=some (.int k (k.wrap ((BitVec.ofInt k.bits m &&& ~~~ BitVec.ofInt k.bits n).toNat)))
def De (k:IntKind) (m n:Int):Option Value:=if n<0 then none else some (.int k (k.wrap (m*2 ^ (min n.toNat k.bits))))
def Df (k:IntKind) (m n:Int):Option Value:=if n<0 then none else some (.int k (m.fdiv (2 ^ (min n.toNat k.bits))))
def Nl (k:IntKind) (m n:Int):Option Value:=some (.int k (k.wrap (m+n)))
def Nm (k:IntKind) (m n:Int):Option Value:=some (.int k (k.wrap (m - n)))
def Nn (k:IntKind) (m n:Int):Option Value:=some (.int k (k.wrap (m*n)))
def Np (m n:Int):Option Value:=some (.bool (m==n))
def Nq (m n:Int):Option Value:=some (.bool (m != n))
def Nr (m n:Int):Option Value:=some (.bool (m<n))
def Ns (m n:Int):Option Value:=some (.bool (m≤n))
def Nt (m n:Int):Option Value:=some (.bool (m>n))
def Nu (m n:Int):Option Value:=some (.bool (m≥n))
def lE (op:BinOp) (k:IntKind) (m n:Int):Option Value :=
  match op with
  | .add=>Nl k m n
  | .sub=>Nm k m n
  | .mul=>Nn k m n
  | .quo=>Da k m n
  | .rem=>Db k m n
  | .and=>Dc k m n
  | .or=>Dd k m n
  | .xor=>Nj k m n
  | .andNot=>Nk k m n
  | .eql=>Np m n
  | .neq=>Nq m n
  | .lss=>Nr m n
  | .leq=>Ns m n
  | .gtr=>Nt m n
  | .geq=>Nu m n
  | .shl=>De k m n
  | .shr=>Df k m n
def jm (op:BinOp) (k:IntKind) (m:Int) (k':IntKind) (n:Int):Option Value:=if k=k' ||vQ op then lE op k m n else none
def bF (op:BinOp) (t:TypeId) (x y:Operand) (a b:Value):Option Value :=
  match a,b with
  | .int k m,.int k' n=>jm op k m k' n
  | a,b=>Cv P op t x y a b
def Wa (T:List Value) (c a b:Operand):Option Value:=match ev T c with | .bool t=>some (if t then ev T a else ev T b) | _=>none
def cg (v:Value):Option Value:=match v with
    | .pointer (some a)=>some (.pointer (some a))
    | .func (.func f) a b=>some (.func (.func f) a b)
    | .func (.yield l) a b=>some (.func (.yield l) a b)
    | .iface t v=>some (.iface t v)
    | _=>none
def wz (op:UnOp) (v:Value):Option Value:=if plain v then mO P (Op.unary op v) else none
def uV (s d:TypeId) (v:Value):Option Value:=if plain v then mO P (convert s d v) else none
def AU (t:TypeId) (v:Value):Option Value:=match P.underlying t with
    | some (.interface _)=>none
    | some _=>some (.iface t v)
    | none=>none
def Nv (T:List Value) (f:Fn) (first captured:Array Operand):Option Value:=match f with
    | .func f=>some (.func (.func f) (first.map (ev T)) (captured.map (ev T)))
    | _=>none
def Wb (T:List Value) (t:TypeId) (parts:Array (Nat×Operand)):Option Value:=qZ P t (parts.toList.map fun p=>(p.1,ev T p.2))
def lF (v:Value) (i:Nat):Option Value:=match v with | .tuple vs=>mP vs.toList i | _=>none
def Hc (T:List Value) (c:Call):Option Value:=match c.argTypes[0]?,c.args.toList with | some t,[x]=>mQ P t (ev T x) | _,_=>none
def Hd (T:List Value) (c:Call):Option Value:=if (c.args.toList.map (ev T)).all plain then mO P (Builtin.min_ c.argTypes 0 (c.args.map (ev T))) else none
def He (T:List Value) (c:Call):Option Value:=if (c.args.toList.map (ev T)).all plain then mO P (Builtin.max_ c.argTypes 0 (c.args.map (ev T))) else none
def Wc (T:List Value) (c:Call):Option Value:=match c.callee with
    | .builtin .len=>Hc P T c
    | .builtin .min=>Hd P T c
    | .builtin .max=>He P T c
    | _=>none
def rI (T:List Value) (op:Op):Option Value :=
  match op with
  | .move x=>some (ev T x)
  | .assign x=>some (ev T x)
  | .pick c a b=>Wa T c a b
  | .nilCheck x=>cg (ev T x)
  | .binOp op t x y _=>bF P op t x y (ev T x) (ev T y)
  | .unOp op _ x=>wz P op (ev T x)
  | .convert s d x=>uV P s d (ev T x)
  | .makeInterface t x=>AU P t (ev T x)
  | .makeFunc f first captured=>Nv T f first captured
  | .build t parts=>Wb P T t parts
  | .field t x f=>lW P t (ev T x) f
  | .index t x i=>kx P t (ev T x) (ev T i)
  | .extract x i=>lF (ev T x) i
  | .fieldAddr s x f=>re P s (ev T x) f
  | .indexAddr t x i=>ky P t (ev T x) (ev T i)
  | .typeAssert x _ asserted ok=>z9 P (ev T x) asserted ok
  | .call c=>Wc P T c
  | _=>none
theorem Nw:rI P=nP P:=by
  funext T op
  cases op<;>(try rfl)
  case makeFunc f a b=>cases f<;>rfl
def Nx (t : TypeId) (b o : Nat) (G : GS) : Option Value := match dN P t with
      | some s=>match fE G b o s with | some l=>some (.agg ⟨l⟩) | none=>none
      | none=>none
def ct (b o:Nat) (G:GS):Option Value:=match fE G b o 1 with | some [x]=>some x | _=>none
def Ny (t:TypeId) (b o:Nat) (G:GS):Option Value :=
  match z7 P t with
    | some true=>Nx P t b o G
    | some false=>ct b o G
    | none=>none
def kK (t:TypeId) (v:Value) (G:GS):Option Value :=
  match v with
  | .pointer (some a)=>Ny P t a.block a.off G
  | _=>none
theorem Nz:kK P=rh P:=by
  funext t v G
  unfold kK rh Ny Nx ct
  rfl
def fK (T:List Value) (op:Op) (G:GS):Option Value :=
  match op with
  | .load t x=>kK P t (ev T x) G
  | .slice t x lo hi mx=>iG P t (ev T x) (lo.map (ev T)) (hi.map (ev T)) (mx.map (ev T)) G
  | _=>none
theorem Hf:fK P=fQ P:=by
  funext T op G
  unfold fK fQ
  rw [Nz]
  rfl
def AV (t:TypeId) (G:GS):Option (Value×GS):=match nO P t with
    | some z=>some (.pointer (some ⟨G.nx,0,none⟩),jf G z 1)
    | none=>none
def Wd (T:List Value) (t:TypeId) (len:Nat) (parts:Array (Nat×Operand)) (G:GS):Option (Value×GS):=match P.underlying t with
    | some (.slice e)=>match dN P e,nO P e with
      | some s,some z=>if s≠0∧len*s≤2 ^ 24 then
          (match qd (fun i=>some (i*s,s)) (rep z len) (parts.toList.map fun p=>(p.1,ev T p.2)) with
          | some c=>some (.slice (some ⟨G.nx,0,none⟩) len len,jf G c s)
          | none=>none) else none
      | _,_=>none
    | _=>none
def wA (t:TypeId) (lv cv:Value) (G:GS):Option (Value×GS):=match P.underlying t,lv,cv with
    | some (.slice e),.int _ l,.int _ c=>match P.info? e,nO P e with
      | some i,some z=>if 0≤l∧l≤c∧i.size≠0∧i.bytes*c≤2 ^ 48∧IntKind.i64.wrap l=l∧IntKind.i64.wrap c=c then
          some (.slice (some ⟨G.nx,0,none⟩) l.toNat c.toNat,jf G (rep z c.toNat) i.size) else none
      | _,_=>none
    | _,_,_=>none
def rJ (T:List Value) (op:Op) (G:GS):Option (Value×GS) :=
  match op with
  | .alloc t=>AV P t G
  | .box _ x=>some (.pointer (some ⟨G.nx,0,none⟩),jf G (ev T x).cells.toList 1)
  | .buildSlice t len parts=>Wd P T t len parts G
  | .makeSlice t l c=>wA P t (ev T l) (ev T c) G
  | _=>none
theorem NA:rJ P=lX P:=by
  funext T op G
  cases op<;>rfl
def Hg (t:TypeId) (a x:Value) (G:GS):Option (Value×GS):=match nQ P t a x G with | some G'=>some (undef,G') | none=>none
def Dg (T:List Value) (c:Call) (G:GS):Option (Value×GS):=match c.callee,c.argTypes[0]?,c.argTypes[1]?,c.args.toList with
    | .builtin .append,some ts,some tx,[s,x]=>qe P ts tx (ev T s) (ev T x) G
    | .builtin .copy,some td,_,[d,s]=>qf P td (ev T d) (ev T s) G
    | _,_,_,_=>none
def GS.Hh (G:GS):GS:=G.fD ⟨.done,none,[],[],.skip,.skip⟩
def Wf (r:Option Operand) (G:GS):Option (Value×GS):=match r with
  | none=>some (.map (some G.nl),G.Hh)
  | _=>none
def Hi (t:TypeId) (x k:Value) (ok:Bool) (G:GS):Option (Value×GS):=match vR P t x k ok G with | some v=>some (v,G) | none=>none
def Hj (t:TypeId) (m k v:Value) (G:GS):Option (Value×GS):=match vS P t m k v G with | some G'=>some (undef,G') | none=>none
def pj (T:List Value) (op:Op) (G:GS):Option (Value×GS) :=
  match op with
  | .makeMap _ r=>Wf r G
  | .lookup t x i ok=>Hi P t (ev T x) (ev T i) ok G
  | .mapUpdate t m k v=>Hj P t (ev T m) (ev T k) (ev T v) G
  | .store t a x=>Hg P t (ev T a) (ev T x) G
  | .call c=>Dg P T c G
  | _=>none
theorem NB:pj P=rj P:=by
  funext T op G
  cases op with
  | makeMap t r=>cases r<;>rfl
  | _=>rfl
end
section
variable (P:Program) (E:Ev)
def dO (f : Value) (args : List Value) (G : GS) : Option (Value × GS) := match f with
      | .func (.func g) a b=>E.cl g (a.toList++args++b.toList) G
      | .func (.yield l) a _=>if a.toList.isEmpty then E.rd l args G else none
      | _=>none
def dS (r : Value) (name : String) (args : List Value) (G : GS) : Option (Value × GS) := match r with
      | .iface t v=>match Aa P t name with
        | some g=>E.cl g (v::args) G
        | none=>none
      | _=>none
def yn (T:List Value) (c:Call) (G:GS):Option (Value×GS):=match c.callee with
    | .value f=>dO E (ev T f) (c.args.toList.map (ev T)) G
    | .invoke r name=>dS P E (ev T r) name (c.args.toList.map (ev T)) G
    | _=>none
def pk (T:List Value) (op:Op) (G:GS):Option (Value×GS) :=
  match op with
  | .call c=>yn P E T c G
  | _=>none
theorem NC:pk P E=rn P E:=by
  funext T op G
  cases op<;>rfl
def lG (G:GS) (v:Option Value):Option (Value×GS):=match v with | some v=>some (v,G) | none=>none
def fT (T:List Value) (op:Op) (G:GS):Option (Value×GS):=match pj P T op G with | some r=>some r | none=>pk P E T op G
def lH (c:Nat) (T:List Value) (G:GS) (op:Op):Option (Value×GS) :=
  match c with
  | 0=>lG G (rI P T op)
  | 1=>lG G (fK P T op G)
  | 2=>rJ P T op G
  | _=>fT P E T op G
def og (T:List Value) (G:GS) (op:Op):Option (Value×GS):=if dW op then lH P E (cls op) T G op else none
theorem Wh:og P E=jg P E:=by
  funext T G op
  unfold og jg lH lG fT
  rw [Nw,Hf,NA,NB,NC]
  cases dW op<;>rfl
def lI (ops:Array Oper):List Oper→List Value→GS→Option (List Value×GS)
  | [],T,G=>some (T,G)
  | o::r,T,G =>
    if dD ops T o then
      match og P E T G o.op with
      | some (v,G')=>lI ops r (bf T o.dst v) G'
      | none=>none
    else lI ops r (bf T o.dst undef) G
theorem Wi (ops:Array Oper):lI P E ops=uB P E ops:=by
  funext l
  induction l with
  | nil=>rfl
  | cons o r ih =>
    funext T G
    simp only [lI,uB,Wh,ih]
    rfl
abbrev DS:=List Value×GS×List (Nat×GS)×List fu
def d0 (d:Option Tmp) (T:List Value) (G:GS) (aM:List (Nat×GS)) (aF:List fu) (v:Option Value):Option DS :=
  match v with | some v=>some (bf T d v,G,aM,aF) | none=>none
def d1 (m i:Nat) (op:Op) (d:Option Tmp) (T:List Value) (G:GS) (aM:List (Nat×GS)) (aF:List fu) (v:Option Value):Option DS :=
  match v with
  | some v=>if aM.all (fun h=>m.testBit h.1||br (fK P T op h.2) v) then some (bf T d v,G,aM,⟨i,T,op,v⟩::aF) else none
  | none=>none
def d2 (nx:Nat) (d:Option Tmp) (T:List Value) (aM:List (Nat×GS)) (aF:List fu) (r:Option (Value×GS)):Option DS :=
  match r with | some (v,G')=>some (bf T d v,{ G' with nx:=nx },aM,aF) | none=>none
def d3 (m i:Nat) (d:Option Tmp) (T:List Value) (G:GS) (aM:List (Nat×GS)) (aF:List fu) (r:Option (Value×GS)):Option DS :=
  match r with
  | some (v,G')=>if aF.all (fun p=>m.testBit p.i||br (fK P p.T p.op G') p.v) then some (bf T d v,G',(i,G)::aM,aF) else none
  | none=>none
def wB (ms:List Nat) (base i:Nat) (op:Op) (d:Option Tmp) (T:List Value) (G:GS) (aM:List (Nat×GS)) (aF:List fu) (c:Nat):Option DS :=
  match c with
  | 0=>d0 d T G aM aF (rI P T op)
  | 1=>d1 P (nth 0 ms i) i op d T G aM aF (fK P T op G)
  | 2=>d2 G.nx d T aM aF (rJ P T op { G with nx:=base+i })
  | _=>d3 P (nth 0 ms i) i d T G aM aF (fT P E T op G)
def uW (ops:Array Oper) (ms:List Nat) (base i:Nat) (o:Oper) (T:List Value) (G:GS) (aM:List (Nat×GS)) (aF:List fu):Option DS :=
  if dD ops T o then (if dW o.op then wB P E ms base i o.op o.dst T G aM aF (cls o.op) else none) else some (bf T o.dst undef,G,aM,aF)
def im (ops:Array Oper) (ms:List Nat) (base:Nat):Nat→List Oper→List Value→GS→List (Nat×GS)→List fu→Option (List Value×GS)
  | _,[],T,G,_,_=>some (T,G)
  | i,o::r,T,G,aM,aF=>match uW P E ops ms base i o T G aM aF with
    | some (T',G',h',p')=>im ops ms base (i+1) r T' G' h' p'
    | none=>none
theorem Wj {K:List Value→GS→List (Nat×GS)→List fu→Option (List Value×GS)} (m i:Nat) (op:Op) (d:Option Tmp) (T:List Value) (G:GS) (aM:List (Nat×GS)) (aF:List fu) (r:Option Value) :
    (match d1 P m i op d T G aM aF r with | some (T',G',h',p')=>K T' G' h' p' | none=>none) =
    (match r with
      | some v=>if aM.all (fun h=>m.testBit h.1||br (fK P T op h.2) v) then K (bf T d v) G aM (⟨i,T,op,v⟩::aF) else none
      | none=>none):=by
  unfold d1
  cases r with
  | none=>rfl
  | some v =>
    simp only []
    by_cases h:aM.all (fun h=>m.testBit h.1||br (fK P T op h.2) v)=true
    · rw [if_pos h,if_pos h]
    · rw [if_neg h,if_neg h]
theorem Wk {K:List Value→GS→List (Nat×GS)→List fu→Option (List Value×GS)} (m i:Nat) (d:Option Tmp) (T:List Value) (G:GS) (aM:List (Nat×GS)) (aF:List fu) (r:Option (Value×GS)) :
    (match d3 P m i d T G aM aF r with | some (T',G',h',p')=>K T' G' h' p' | none=>none) =
    (match r with
      | some (v,G')=>if aF.all (fun p=>m.testBit p.i||br (fK P p.T p.op G') p.v) then K (bf T d v) G' ((i,G)::aM) aF else none
      | none=>none):=by
  unfold d3
  cases r with
  | none=>rfl
  | some r =>
    obtain ⟨v,G'⟩:=r
    simp only []
    by_cases h:aF.all (fun p=>m.testBit p.i||br (fK P p.T p.op G') p.v)=true
    · rw [if_pos h,if_pos h]
    · rw [if_neg h,if_neg h]
theorem ND (ops:Array Oper) (ms:List Nat) (base:Nat):∀ (l:List Oper) (i:Nat) (T:List Value) (G:GS) (aM:List (Nat×GS)) (aF:List fu),im P E ops ms base i l T G aM aF=mR P E ops ms base i l T G aM aF
  | [],i,T,G,aM,aF=>rfl
  | o::r,i,T,G,aM,aF=>by
    have ih:=ND ops ms base r
    simp only [im,mR,uW]
    by_cases hw:dD ops T o=true
    · rw [if_pos hw,if_pos hw]
      cases hk:dW o.op with
      | false=>rfl
      | true =>
        simp only [if_true,Bool.not_true,Bool.false_eq_true,if_false]
        unfold wB
        generalize hc:cls o.op=c
        match c with
        | 0 =>
          simp only [d0,Nw]
          cases nP P T o.op<;>simp [ih]
        | 1 =>
          refine (Wj P (K:=fun T' G' h' p'=>im P E ops ms base (i+1) r T' G' h' p') (nth 0 ms i) i o.op o.dst T G aM aF (fK P T o.op G)).trans ?_
          simp only [Hf]
          cases fQ P T o.op G with
          | none=>rfl
          | some v=>simp only [ih]
        | 2 =>
          simp only [d2,NA]
          cases lX P T o.op { G with nx:=base+i }<;>simp [ih]
        | n+3 =>
          refine (Wk P (K:=fun T' G' h' p'=>im P E ops ms base (i+1) r T' G' h' p') (nth 0 ms i) i o.dst T G aM aF (fT P E T o.op G)).trans ?_
          simp only [fT,Hf,NB,NC]
          cases rj P T o.op G with
          | some r=>simp only [ih]
          | none=>cases rn P E T o.op G with
            | some r=>simp only [ih]
            | none=>rfl
    · rw [if_neg hw,if_neg hw]
      exact ih _ _ _ _ _
def yo (b:Code) (r:Option (Exit×List Value×GS)):Option (Exit×List Value×GS):=match r with
    | some (.normal,T',G')=>E.ex b T' G'
    | r=>r
def rK (v:Value) (a b:Code) (T:List Value) (G:GS):Option (Exit×List Value×GS):=match v with
    | .bool true=>E.ex a T G
    | .bool false=>E.ex b T G
    | _=>none
def rL (id:Nat) (r:Option (Exit×List Value×GS)):Option (Exit×List Value×GS):=match r with
    | some (.exit gT,T',G')=>if gT =id then some (.normal,T',G') else some (.exit gT,T',G')
    | r=>r
def pn (r:Option (List Value×GS)):Option (Exit×List Value×GS):=match r with
    | some (T',G')=>some (.normal,T',G')
    | none=>none
def kL (ops:Array Oper) (T:List Value) (G:GS):Option (Exit×List Value×GS) :=
  if uC ops then pn (im P E ops (masks ops.toList []) G.nx 0 ops.toList T { G with nx:=G.nx+ops.size } [] []) else none
def wC (ops:Array Oper) (T:List Value) (G:GS):Option (Exit×List Value×GS):=pn (lI P E ops ops.toList T G)
def qu (nl : Nat) (T : List Value) (r : Option (Value × GS)) : Option (Exit × List Value × GS) := match r with
      | some (_,G2)=>match G2.loop nl with
        | some r=>if r.st= .busy then none else match CB r.aF with
          | some e=>some (e,T,G2.cC nl { r with st:=.exhausted })
          | none=>none
        | none=>none
      | none=>none
def gW (v:Value) (ps:Array Nat) (assign body:Code) (T:List Value) (G:GS):Option (Exit×List Value×GS):=match v with
    | .func (.func g) a b=>qu G.nl T (E.cl g (a.toList++[.func (.yield G.nl) #[] #[]]++b.toList) (G.fD ⟨.ready,none,T,ps.toList,assign,body⟩))
    | _=>none
def m6 (c:Code) (T:List Value) (G:GS):Option (Exit×List Value×GS) :=
  match c with
  | .skip=>some (.normal,T,G)
  | .label _=>some (.normal,T,G)
  | .seq a b=>yo E b (E.ex a T G)
  | .cond x a b=>if dm x then rK E (ev T x) a b T G else none
  | .block id b=>rL id (E.ex b T G)
  | .loop b=>E.lp b T G
  | .exit id=>some (.exit id,T,G)
  | .goto l=>some (.goto l,T,G)
  | .ret=>some (.ret,T,G)
  | .scope b=>E.sc b b T G
  | .region _ ops draw=>if draw then kL P E ops T G else wC P E ops T G
  | .rangeFunc f ps assign body=>if dm f then gW E (ev T f) ps assign body T G else none
  | .refuse _=>none
theorem Wl:m6 P E=jh P E:=by
  funext c T G
  cases c with
  | seq a b=>rfl
  | cond x a b =>
    simp only [m6,jh,rK]
    cases dm x<;>rfl
  | block id b=>rfl
  | region id ops draw =>
    simp only [m6,jh,kL,wC,pn,ND,Wi]
    cases draw<;>rfl
  | rangeFunc f ps assign body =>
    simp only [m6,jh,gW,qu]
    cases dm f<;>rfl
  | _=>rfl
def Ev.Hk:Ev:=⟨m6 P E,rr P E,sK E,oX E,oY E⟩
theorem Ev.Wm:E.Hk P=E.next P:=by
  unfold Ev.Hk Ev.next
  rw [Wl]
end
end
end Go.Proofs.YtphandknhnkhfaaGreat.Gh
namespace Go.Proofs.YtphandknhnkhfaaGreat.Gh
open Go
set_option linter.unusedVariables false
noncomputable section
def tC:Nat:=4294967297
def AW:Nat:=4294967298
def Dh:Nat:=4294967299
def Hl:Nat:=4294967300
def NF:List (List (IntKind×Int)×(IntKind×Int)):=[]
def uX (l:List (IntKind×Int)):List Value:=l.map fun x=>.int x.1 x.2
def isLit:List (IntKind×Int)→List Value→Bool
  | [],[]=>true
  | (k,x)::l,.int k' y::vs=>decide (k=k')&&decide (x=y)&&isLit l vs
  | _,_=>false
theorem NG:∀ {l:List (IntKind×Int)} {vs:List Value},isLit l vs=true→vs=uX l
  | [],[],_=>rfl
  | (k,x)::l,.int k' y::vs,h=>by
    simp only [isLit,Bool.and_eq_true,decide_eq_true_eq] at h
    rw [NG h.2,← h.1.1,← h.1.2]; rfl
def Di:List (List (IntKind×Int)×(IntKind×Int))→List Value→Option Value
  | [],_=>none
  | x::t,vs=>if isLit x.1 vs=true then some (.int x.2.1 x.2.2) else Di t vs
theorem NH:∀ {L:List (List (IntKind×Int)×(IntKind×Int))} {vs:List Value} {v:Value},Di L vs=some v→∃ x,x∈L∧vs=uX x.1∧v= .int x.2.1 x.2.2
  | x::t,vs,v,h=>by
    unfold Di at h
    split at h
    · rename_i hx; cases h; exact ⟨x,List.mem_cons_self ..,NG hx,rfl⟩
    · obtain ⟨y,h1,h2⟩:=NH h; exact ⟨y,List.mem_cons_of_mem _ h1,h2⟩
def NI (vs:List Value) (G:GS):Option (Value×GS):=match Di NF vs with | some v=>some (v,G) | none=>none
def Hm (P:Program):Prop:=∀ fn,P.funcs[Dh]? =some fn→(fn.name == "runtime.NumGoroutine")=false∧fn.body.isSome=true ∧
  ∀ x,x∈NF→∀ w,Calls P Dh (uX x.1).toArray w fun e w'=>e= .returned (.int x.2.1 x.2.2)∧Go.RowKit.Below w.heap.size w w'
theorem Wn {P:Program} (h:(P.funcs[Dh]?).isNone=true):Hm P:=fun fn hf=>by rw [hf] at h; cases h
def tD (l:List Value):Option (List Int) :=
  List.rec (motive:=fun _=>Option (List Int)) (some []) (fun v _ ih=>match v with | .int .u64 x=>(match ih with | some l=>some (x::l) | none=>none) | _=>none) l
theorem Wo (v:Value) (l:List Value):tD (v::l)=none∨∃ x,v= .int .u64 x∧tD (v::l)=(tD l).map (x::·):=by
  cases v with
  | int k x =>
    cases k with
    | u64 =>
      refine .inr ⟨x,rfl,?_⟩
      generalize hl:tD l=y
      have:tD (Value.int .u64 x::l)=(match tD l with | some l=>some (x::l) | none=>none):=rfl
      rw [this,hl]
      cases y<;>rfl
    | _=>exact .inl rfl
  | _=>exact .inl rfl
theorem NJ:∀ {l:List Value} {L:List Int},tD l=some L→l=L.map (Value.int .u64)
  | [],L,h=>by cases h; rfl
  | v::l,L,h=>by
    rcases Wo v l with h1 | ⟨x,rfl,h1⟩
    · rw [h1] at h; cases h
    · rw [h1] at h
      cases hl:tD l with
      | none=>rw [hl] at h; cases h
      | some l'=>rw [hl] at h; cases h; rw [NJ hl]; rfl
def Dj (x:Int) (l:List Int):List Int :=
  List.rec (motive:=fun _=>List Int) [x] (fun y r ih=>if x≤y then x::y::r else y::ih) l
def tE (l:List Int):List Int:=List.rec (motive:=fun _=>List Int) [] (fun x _ ih=>Dj x ih) l
theorem Wq (x y:Int) (r:List Int):Dj x (y::r)=if x≤y then x::y::r else y::Dj x r:=rfl
theorem NK (x:Int):∀ l:List Int,(Dj x l).Perm (x::l)
  | []=>.refl _
  | y::r=>by
    rw [Wq]
    split
    · exact .refl _
    · exact ((NK x r).cons y).trans (.swap x y r)
theorem NM:∀ l:List Int,(tE l).Perm l
  | []=>.refl _
  | x::l=>(NK x (tE l)).trans ((NM l).cons x)
theorem NN (l:List Int):(tE l).length=l.length:=(NM l).length_eq
def ml (vs:List Value) (G:GS):Option (Value×GS):=match vs with
  | [.slice _ 0 _,.func (.func g) ⟨[]⟩ ⟨[]⟩]=>if Nat.beq g AW=true then some (.tuple #[],G) else none
  | [.slice (some ⟨b,o,none⟩) (n+1) _,.func (.func g) ⟨[]⟩ ⟨[]⟩] =>
    if (Nat.beq g AW&&Nat.ble n 1000000000000)=true then (match fE G b o (n+1) with
      | some l=>(match tD l with
        | some L=>(match lY G b o ((tE L).map (Value.int .u64)) with
          | some G'=>some (.tuple #[],G')
          | none=>none)
        | none=>none)
      | none=>none) else none
  | _=>none
def Hn (P:Program):Prop :=
  ∀ fn,P.funcs[tC]? =some fn→(fn.name == "runtime.NumGoroutine")=false∧fn.body.isSome=true ∧
    (∀ (w:World) (p:Option Addr) (cap:Nat),Calls P tC #[.slice p 0 cap,.func (.func AW) #[] #[]] w fun e w'=>e= .returned (.tuple #[])∧w' =w) ∧
    ∀ (w:World) (aZ off cap:Nat) (L:List Int) (c:Array Value) (e:TypeId),w.heap[aZ]? =some (.cells c e (0,0))→off+L.length≤c.size→(∀ (j:Nat) (v:Value),(L.map (Value.int .u64))[j]? =some v→c[off+j]? =some v)→0<L.length→L.length<4611686018427387904 →
      Calls P tC #[.slice (some ⟨aZ,off,none⟩) L.length cap,.func (.func AW) #[] #[]] w fun r w'=>r= .returned (.tuple #[])∧∃ (os:List Obj) (d:Nat),w' ={ (os.foldl (fun w o=>w.alloc o) (World.sU w aZ (nY c off ((tE L).map (Value.int .u64))) e)) with drawn:=d }
theorem Rel.Ho {M:Map} {B:Nat} {G:GS}:∀ (os:List Obj) {w:World},Rel G M w B→Rel G M (os.foldl (fun w o=>w.alloc o) w) B∧cI G M w G M (os.foldl (fun w o=>w.alloc o) w)
  | [],w,h=>⟨h,⟨.refl M,Nat.le_refl _,fun r hr _=>rfl,fun _ h=>.inl h,rfl,rfl,rfl,Nat.le_refl _,fun _ _ h=>⟨h,rfl⟩,fun _ _ h=>h⟩⟩
  | o::os,w,h=>by
    obtain ⟨h1,h2⟩:=h.other o
    obtain ⟨h3,h4⟩:=Rel.Ho os h1
    exact ⟨h3,h2.trans h4⟩
theorem Wr {P:Program} {fn:Func} (hS:Hn P) (hf:P.funcs[tC]? =some fn) {vs:List Value} {G G':GS} {v:Value} (h:ml vs G=some (v,G')) {M:Map} {w:World} {B:Nat} {args:Array Value} (hR:Rel G M w B) (hv:Vs M vs args.toList) :
    Calls P tC args w fun e w'=>e= .returned (.tuple #[])∧v= .tuple #[]∧Rel G' M w' B∧cI G M w G' M w':=by
  obtain ⟨_,_,hN,hC⟩:=hS fn hf
  unfold ml at h
  split at h
  · rename_i p0 c0 g
    split at h
    · rename_i hg
      obtain rfl:=Nat.eq_of_beq_eq_true hg
      cases h
      obtain ⟨p,cap,kG⟩:∃ p cap,args= #[.slice p 0 cap,.func (.func AW) #[] #[]]:=by
        obtain ⟨l⟩:=args
        match l,hv with
        | [a,b],hv =>
          obtain ⟨ha,hb,_⟩:=hv
          obtain ⟨f',a',b',rfl,Hp,h1,h2⟩:=lj.1 hb
          cases Hp
          have e1:a' = #[]:=Array.eq_empty_of_size_eq_zero (by simpa using (iQ h1).symm)
          have e2:b' = #[]:=Array.eq_empty_of_size_eq_zero (by simpa using (iQ h2).symm)
          rw [e1,e2]
          cases p0 with
          | none=>obtain ⟨_,_,rfl⟩:=jN.1 ha; exact ⟨_,_,rfl⟩
          | some p1=>obtain ⟨x,b1,cr,_,rfl,_⟩:=gN.1 ha; exact ⟨_,_,rfl⟩
      subst kG
      refine (hN w p cap).mono fun e w' ⟨h1,h2⟩=>?_
      subst h2
      obtain ⟨h3,h4⟩:=Rel.Ho [] hR
      exact ⟨h1,rfl,h3,h4⟩
    · cases h
  · rename_i b o n cap g
    split at h
    · rename_i Ak
      obtain ⟨hg,NP⟩:=(Bool.and_eq_true _ _).mp Ak
      have NP:=Nat.le_of_ble_eq_true NP
      obtain rfl:=Nat.eq_of_beq_eq_true hg
      split at h
      · rename_i l hl
        split at h
        · rename_i L hL
          split at h
          · rename_i G1 hG
            obtain ⟨rfl,rfl⟩:v= .tuple #[]∧G' =G1:=by cases h; exact ⟨rfl,rfl⟩
            obtain ⟨l'⟩:=args
            match l',hv with
            | [a,f],hv =>
              obtain ⟨ha,hb,_⟩:=hv
              obtain ⟨x,b',cr,hx,rfl,o9,gm,ig⟩:=gN.1 ha
              obtain ⟨f',a',Ws,rfl,Hp,h1,h2⟩:=lj.1 hb
              cases Hp
              have e1:a' = #[]:=Array.eq_empty_of_size_eq_zero (by simpa using (iQ h1).symm)
              have e2:Ws = #[]:=Array.eq_empty_of_size_eq_zero (by simpa using (iQ h2).symm)
              subst e1; subst e2
              have mf:cr≠0:=by
                rcases gm with h | ⟨_,_,h⟩<;>omega
              obtain rfl:=ig mf
              have CU:=NJ hL
              obtain ⟨us,ic,uU,jk⟩:=yb hR hx hl
              have hlen:L.length=n+1:=by have:=iQ ic; rw [CU,List.length_map] at this; omega
              have Gk:us=L.map (Value.int .u64):=by
                refine List.ext_getElem? fun j=>?_
                rcases Nat.lt_or_ge j L.length with hj | hj
                · obtain ⟨y,hy,hV⟩:=(iR.1 ic).2 j (.int .u64 L[j]) (by rw [CU]; simp [hj])
                  rw [hy,eM.1 hV]; simp [hj]
                · rw [List.getElem?_eq_none (by omega),List.getElem?_eq_none (by simp; omega)]
              subst Gk
              unfold lY at hG
              split at hG
              · rename_i ob ho
                split at hG
                · rename_i hm
                  simp only [Bool.and_eq_true,decide_eq_true_eq] at hm
                  split at hG
                  · rename_i cs iH
                    simp only [Option.some.injEq] at hG
                    obtain ⟨g1,g2,g3⟩:=Ac iH
                    rw [List.length_map,NN,hlen] at g2
                    have hb:=hR.aZ b x ob hx ho
                    obtain ⟨hB,c0,e,jT,cQ⟩:=hb.own hm.1
                    have CS:=hb.len
                    have aeB:((tE L).map (Value.int .u64)).length=n+1:=by rw [List.length_map,NN,hlen]
                    have hw:=hR.write (c':=nY c0 (x.off+o) ((tE L).map (Value.int .u64))) (m:=1) hx ho hm.1 jT (Al _ _ _) g1 (.inl rfl) (by
                      intro _ i v fR
                      rw [g3 i] at fR
                      rw [CR _ c0 _ _ (by omega)]
                      by_cases mT:o≤i∧i<o+((tE L).map (Value.int .u64)).length
                      · rw [if_pos mT] at fR
                        rw [if_pos (by omega)]
                        refine ⟨v,by rw [← fR,show x.off+i - (x.off+o)=i - o by omega],?_⟩
                        rw [List.getElem?_map] at fR
                        cases hk:(tE L)[i - o]? with
                        | none=>rw [hk] at fR; cases fR
                        | some k=>rw [hk] at fR; cases fR; exact eM.2 rfl
                      · rw [if_neg mT] at fR
                        rw [if_neg (by omega)]
                        obtain ⟨u,hu,hV⟩:=hb.cells (by rw [hm.1]; omega) i v fR
                        rw [An jT] at hu
                        exact ⟨u,hu,hV⟩)
                    have aj:G.put b { ob with cells:=cs,mode:=1 }=G':=by
                      rw [← hG]; obtain ⟨a,b,c,d⟩:=ob; simp only at hm; rw [hm.1]
                    rw [aj] at hw
                    have NQ:=hC w x.aZ (x.off+o) cr L c0 e jT (by omega) (fun j v hj=>by have:=jk j v hj; rw [An jT] at this; rw [← this]) (by omega) (by omega)
                    rw [hlen] at NQ
                    refine NQ.mono fun r w' ⟨h1,os,d,h2⟩=>?_
                    subst h2
                    obtain ⟨h3,h4⟩:=Rel.Ho os hw.1
                    exact ⟨h1,rfl,h3.drawn d,(hw.2.trans h4).drawn d⟩
                  · cases hG
                · cases hG
              · cases hG
          · cases h
        · cases h
      · cases h
    · cases h
  · cases h
theorem Wt {P:Program} (h:(P.funcs[tC]?).isNone=true):Hn P:=fun fn hf=>by rw [hf] at h; cases h
end
end Go.Proofs.YtphandknhnkhfaaGreat.Gh
namespace Go.Proofs.YtphandknhnkhfaaGreat.Gh
open Go
set_option linter.unusedVariables false
noncomputable section
def Dk:Nat:=4294967401
def Dl:Nat:=4294967402
def Dm:Nat:=4294967403
def NR (k:Nat):Nat→List UInt8:=Nat.rec (motive:=fun _=>Nat→List UInt8) (fun _=>[]) (fun _ ih n=>if Nat.blt n 10=true then [UInt8.ofNat (48+n)] else ih (n / 10)++[UInt8.ofNat (48+n % 10)]) k
def Wu (x:Int):List UInt8:=match x with
  | .ofNat n=>NR 20 n
  | .negSucc n=>45::NR 20 (n+1)
def Wv (k:IntKind) (x:Int):Bool:=match k with
  | .u64=>decide (0≤x)&&decide (x<18446744073709551616)
  | .i64=>decide (-9223372036854775808≤x)&&decide (x<9223372036854775808)
  | _=>false
def Hq (p:IntKind×UInt8) (v:Value):Option (List UInt8):=match v with
  | .int k x=>if (decide (k=p.1)&&Wv p.1 x)=true then some (Wu x++[p.2]) else none
  | _=>none
def AX (cs:List Value):IntKind×UInt8→IntKind×UInt8→Option (List UInt8) :=
  List.rec (motive:=fun _=>IntKind×UInt8→IntKind×UInt8→Option (List UInt8)) (fun _ _=>some []) (fun v _ ih p q=>match Hq p v,ih q p with | some a,some b=>some (a++b) | _,_=>none) cs
theorem Ww (v:Value) (cs:List Value) (p q:IntKind×UInt8):AX (v::cs) p q=match Hq p v,AX cs q p with | some a,some b=>some (a++b) | _,_=>none:=rfl
abbrev wD:=Nat×(IntKind×UInt8)×(IntKind×UInt8)
def AY (z:wD) (vs:List Value) (G:GS):Option (Value×GS):=match vs with
  | [.slice _ 0 _]=>some (.string ⟨#[]⟩,G)
  | [.slice (some ⟨b,o,none⟩) (n+1) _]=>if (xU G&&Nat.ble n 1000000)=true then (match fE G b o ((n+1)*z.1) with
      | some l=>(match AX l z.2.1 z.2.2 with
        | some s=>some (.string ⟨s.toArray⟩,G)
        | none=>none)
      | none=>none) else none
  | _=>none
def kA:wD:=(1,(.u64,44),(.u64,44))
def kB:wD:=(2,(.u64,32),(.i64,44))
def kC:wD:=(1,(.i64,44),(.i64,44))
def yp (w:World):Prop:=(∃ e f,w.heap[KY]? =some (.cells K3.toArray e f))∧∃ e f,w.heap[KZ]? =some (.cells K1.toArray e f)
theorem Rel.Hr {G:GS} {M:Map} {w:World} {B:Nat} (hR:Rel G M w B) (h:xU G=true):yp w:=by
  unfold xU at h
  split at h
  · rename_i o p ho hp
    simp only [Bool.and_eq_true] at h
    have h1:=Nat.eq_of_beq_eq_true h.1
    have h2:=Nat.eq_of_beq_eq_true h.2
    obtain ⟨k1,_,e1,f1,j1⟩:=hR.gl 0 o ho (by rw [h1]; unfold Cr; omega)
    obtain ⟨k2,_,e2,f2,j2⟩:=hR.gl 1 p hp (by rw [h2]; unfold Cs; omega)
    have az:Cr≠Cs:=by decide
    rcases k1 with ⟨_,c1⟩ | ⟨m1,_⟩
    · rcases k2 with ⟨m2,_⟩ | ⟨_,c2⟩
      · exact absurd (m2.symm.trans h2) az
      · rw [h1,c1] at j1
        rw [h2,c2] at j2
        exact ⟨⟨e1,f1,j1⟩,e2,f2,j2⟩
    · exact absurd (h1.symm.trans m1) az
  · cases h
def AZ (P:Program) (f:Nat) (z:wD):Prop :=
  ∀ fn,P.funcs[f]? =some fn→(fn.name == "runtime.NumGoroutine")=false∧fn.body.isSome=true ∧
    (∀ (w:World) (p:Option Addr) (cap:Nat),Calls P f #[.slice p 0 cap] w fun e w'=>e= .returned (.string ⟨#[]⟩)∧Go.RowKit.Below w.heap.size w w') ∧
    ∀ (w:World) (aZ off cap n:Nat) (cs:List Value) (s:List UInt8),yp w→n<1000001→cs.length=(n+1)*z.1→(∀ (j:Nat) (v:Value),cs[j]? =some v→w.cell? ⟨aZ,off+j,none⟩=some v)→AX cs z.2.1 z.2.2=some s →
      Calls P f #[.slice (some ⟨aZ,off,none⟩) (n+1) cap] w fun e w'=>e= .returned (.string ⟨s.toArray⟩)∧Go.RowKit.Below w.heap.size w w'
theorem Ht {P:Program} {f:Nat} {z:wD} (h:(P.funcs[f]?).isNone=true):AZ P f z:=fun fn hf=>by rw [hf] at h; cases h
theorem NT:∀ {cs us:List Value} {p q:IntKind×UInt8} {s:List UInt8} {M:Map},AX cs p q=some s→Vs M cs us→us=cs
  | [],[],_,_,_,_,_,_=>rfl
  | v::cs,u::us,p,q,s,M,h,hv=>by
    rw [Ww] at h
    split at h
    · rename_i a b h1 h2
      rw [NT h2 hv.2]
      have:∃ k x,v= .int k x:=by
        unfold Hq at h1
        split at h1
        · exact ⟨_,_,rfl⟩
        · cases h1
      obtain ⟨k,x,rfl⟩:=this
      rw [eM.1 hv.1]
    · cases h
theorem Hu {P:Program} {f:Nat} {z:wD} {fn:Func} (hS:AZ P f z) (hf:P.funcs[f]? =some fn) {vs:List Value} {G G':GS} {v:Value} (h:AY z vs G=some (v,G')) {M:Map} {w:World} {B:Nat} {args:Array Value} (hR:Rel G M w B) (hv:Vs M vs args.toList) :
    Calls P f args w fun e w'=>∃ s,v= .string s∧G' =G∧e= .returned (.string s)∧Go.RowKit.Below w.heap.size w w':=by
  obtain ⟨_,_,Wx,hC⟩:=hS fn hf
  unfold AY at h
  split at h
  · rename_i p cap
    obtain ⟨rfl,rfl⟩:v= .string ⟨#[]⟩∧G' =G:=by cases h; exact ⟨rfl,rfl⟩
    obtain ⟨l'⟩:=args
    match l',hv with
    | [a],hv =>
      have:∃ p' Hv,a= .slice p' 0 Hv:=by
        cases p with
        | none=>obtain ⟨e1,_,rfl⟩:=jN.1 hv.1; exact ⟨_,_,rfl⟩
        | some q=>obtain ⟨q0,q1,q2⟩:=q; obtain ⟨_,_,_,_,rfl,_⟩:=gN.1 hv.1; exact ⟨_,_,rfl⟩
      obtain ⟨p',Hv,rfl⟩:=this
      exact (Wx w p' Hv).mono fun e w' ⟨h1,h2⟩=>⟨_,rfl,rfl,h1,h2⟩
  · rename_i b o n cap
    split at h
    · rename_i Ak
      obtain ⟨hg,hn⟩:=(Bool.and_eq_true _ _).mp Ak
      have hn:=Nat.le_of_ble_eq_true hn
      split at h
      · rename_i l hl
        split at h
        · rename_i s hs
          obtain ⟨rfl,rfl⟩:v= .string ⟨s.toArray⟩∧G' =G:=by cases h; exact ⟨rfl,rfl⟩
          obtain ⟨l'⟩:=args
          match l',hv with
          | [a],hv =>
            obtain ⟨x,b',cr,hx,rfl,o9,gm,ig⟩:=gN.1 hv.1
            have mf:cr≠0:=by
              rcases gm with h | ⟨_,_,h⟩<;>omega
            obtain rfl:=ig mf
            obtain ⟨us,ic,uU,jk⟩:=yb hR hx hl
            have Wy:=NT hs ic
            subst Wy
            exact (hC w x.aZ (x.off+o) cr n us s (hR.Hr hg) (by omega) uU jk hs).mono fun e w' ⟨h1,h2⟩=>⟨_,rfl,rfl,h1,h2⟩
        · cases h
      · cases h
    · cases h
  · cases h
end
end Go.Proofs.YtphandknhnkhfaaGreat.Gh
