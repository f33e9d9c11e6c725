import Derived.Test.YtkhlabammcghbaaGreatGhZ
namespace Go.Proofs.YtkhlabammcghbaaGreat.Gh
open Go
noncomputable section
variable {P:Program} {M:Map} {B:Nat} {E:Ev}
theorem Xm:jD P B Ev.zero where
  ex c T G e T' G' h:=by simp [Ev.zero] at h
  sc b c T G e T' G' h:=by simp [Ev.zero] at h
  lp c T G e T' G' h:=by simp [Ev.zero] at h
  cl f vs G v G' h:=by simp [Ev.zero] at h
  yJ f vs G v G' h:=by simp [Ev.zero] at h
  rd l vs G v G' h:=by simp [Ev.zero] at h
theorem Xn (kY:P.follows .mixedOrders=true) (hE:jD P B E):jD P B (E.next P) where
  ex c T G e T' G' h:=Wm hE (Xk kY hE) h
  sc b c T G e T' G' h:=Wt hE h
  lp c T G e T' G' h:=Wu hE h
  cl f vs G v G' h M w args cs hR hv:=Wx hE h cs hR hv
  yJ f vs G v G' h:=by
    have h:rL P E f vs G=some (v,G'):=h
    simp only [rL] at h
    split at h
    · rename_i fn hf
      split at h
      · simp at h
      · rename_i hn
        split at h
        · rename_i c hc
          exact ⟨fn,hf,by simpa using hn,by rw [hc]; rfl⟩
        · simp at h
    · simp at h
  rd l vs G v G' h M w r lo args c cs hR hl dT hv:=WA hE h c cs hR hl dT hv
def Map.empty:Map:=⟨fun _=>none,fun _=>none,fun _=>none⟩
theorem OV (w:World):Rel GS.empty Map.empty w w.heap.size :=
  ⟨Nat.le_refl _,fun _ _ _ h=>(by cases h),fun _ _ _ _ _ _ h=>(by cases h),fun _ _ h=>(by cases h),fun _ _ h=>(by cases h),fun _ _ _ h=>(by cases h),fun _ _ h=>(by cases h),fun _ _ _ h=>(by cases h),fun _ _ h=>(by cases h),fun g _=>Mt g,fun g o h=>by rw [show GS.empty.obj g=none from Mt g] at h; cases h⟩
theorem Xo {G G':GS} {M':Map} {w w':World} (h:cy G M w G' M' w') (hf:∀ r,r<w.heap.size→¬ eu G M r):Go.RowKit.Below w.heap.size w w' :=
  ⟨h.os,h.tape,h.output,h.size,fun r hr=>h.keep r hr (hf r hr)⟩
end
end Go.Proofs.YtkhlabammcghbaaGreat.Gh
namespace Go.Proofs.YtkhlabammcghbaaGreat.Gh
open Go
noncomputable section
section
variable (P:Program)
def D0 (k:IntKind) (m n:Int):Option Value:=if n=0 then none else some (.int k (k.wrap (m.tdiv n)))
def D1 (k:IntKind) (m n:Int):Option Value:=if n=0 then none else some (.int k (m.tmod n))
def D2 (k:IntKind) (m n:Int):Option Value:=some (.int k (k.wrap ((BitVec.ofInt k.bits m &&& BitVec.ofInt k.bits n).toNat)))
def D3 (k:IntKind) (m n:Int):Option Value:=some (.int k (k.wrap ((BitVec.ofInt k.bits m ||| BitVec.ofInt k.bits n).toNat)))
def OW (k:IntKind) (m n:Int):Option Value:=some (.int k (k.wrap ((BitVec.ofInt k.bits m ^^^ BitVec.ofInt k.bits n).toNat)))
def OX (k:IntKind) (m n:Int):Option Value:=some (.int k (k.wrap ((BitVec.ofInt k.bits m &&& ~~~ BitVec.ofInt k.bits n).toNat)))
def D4 (k:IntKind) (m n:Int):Option Value:=if n<0 then none else some (.int k (k.wrap (m*2 ^ (min n.toNat k.bits))))
def D5 (k:IntKind) (m n:Int):Option Value:=if n<0 then none else some (.int k (m.fdiv (2 ^ (min n.toNat k.bits))))
def OY (k:IntKind) (m n:Int):Option Value:=some (.int k (k.wrap (m+n)))
def OZ (k:IntKind) (m n:Int):Option Value:=some (.int k (k.wrap (m - n)))
def O0 (k:IntKind) (m n:Int):Option Value:=some (.int k (k.wrap (m*n)))
def O1 (m n:Int):Option Value:=some (.bool (m==n))
def O2 (m n:Int):Option Value:=some (.bool (m != n))
def O3 (m n:Int):Option Value:=some (.bool (m<n))
def O4 (m n:Int):Option Value:=some (.bool (m≤n))
def O5 (m n:Int):Option Value:=some (.bool (m>n))
def O6 (m n:Int):Option Value:=some (.bool (m≥n))
def jY (op:BinOp) (k:IntKind) (m n:Int):Option Value :=
  match op with
  | .add=>OY k m n
  | .sub=>OZ k m n
  | .mul=>O0 k m n
  | .quo=>D0 k m n
  | .rem=>D1 k m n
  | .and=>D2 k m n
  | .or=>D3 k m n
  | .xor=>OW k m n
  | .andNot=>OX k m n
  | .eql=>O1 m n
  | .neq=>O2 m n
  | .lss=>O3 m n
  | .leq=>O4 m n
  | .gtr=>O5 m n
  | .geq=>O6 m n
  | .shl=>D4 k m n
  | .shr=>D5 k m n
theorem Xp:jY=yq:=by
  funext op k m n
  cases op<;>rfl
def iK (op:BinOp) (k:IntKind) (m:Int) (k':IntKind) (n:Int):Option Value:=if k=k' ||wg op then jY op k m n else none
def bB (op:BinOp) (t:TypeId) (x y:Operand) (a b:Value):Option Value :=
  match a,b with
  | .int k m,.int k' n=>iK op k m k' n
  | a,b=>uJ P op t x y a b
theorem Xq:bB P=wh P:=by
  funext op t x y a b
  unfold bB wh iK
  rw [Xp]
  rfl
def Xr (T:List Value) (c a b:Operand):Option Value:=match ev T c with | .bool t=>some (if t then ev T a else ev T b) | _=>none
def aR (v:Value):Option Value:=match v with
    | .pointer (some a)=>some (.pointer (some a))
    | .func (.func f) a b=>some (.func (.func f) a b)
    | .func (.yield l) a b=>some (.func (.yield l) a b)
    | .iface t v=>some (.iface t v)
    | _=>none
def wK (op:UnOp) (v:Value):Option Value:=if plain v then kR P (Op.unary op v) else none
def vi (s d:TypeId) (v:Value):Option Value:=if plain v then kR P (convert s d v) else none
def Br (t:TypeId) (v:Value):Option Value:=match P.underlying t with
    | some (.interface _)=>none
    | some _=>some (.iface t v)
    | none=>none
def O7 (T:List Value) (f:Fn) (first captured:Array Operand):Option Value:=match f with
    | .func f=>some (.func (.func f) (first.map (ev T)) (captured.map (ev T)))
    | _=>none
def Xs (T:List Value) (t:TypeId) (parts:Array (Nat×Operand)):Option Value:=rG P t (parts.toList.map fun p=>(p.1,ev T p.2))
def gW (v:Value) (i:Nat):Option Value:=match v with | .tuple vs=>mQ vs.toList i | _=>none
def H7 (T:List Value) (c:Call):Option Value:=match c.argTypes[0]?,c.args.toList with | some t,[x]=>mS P t (ev T x) | _,_=>none
def H8 (T:List Value) (c:Call):Option Value:=if (c.args.toList.map (ev T)).all plain then kR P (Builtin.min_ c.argTypes 0 (c.args.map (ev T))) else none
def H9 (T:List Value) (c:Call):Option Value:=if (c.args.toList.map (ev T)).all plain then kR P (Builtin.max_ c.argTypes 0 (c.args.map (ev T))) else none
def Xt (T:List Value) (c:Call):Option Value:=match c.callee with
    | .builtin .len=>H7 P T c
    | .builtin .min=>H8 P T c
    | .builtin .max=>H9 P T c
    | _=>none
def rT (T:List Value) (op:Op):Option Value :=
  match op with
  | .move x=>some (ev T x)
  | .assign x=>some (ev T x)
  | .pick c a b=>Xr T c a b
  | .nilCheck x=>aR (ev T x)
  | .binOp op t x y _=>bB P op t x y (ev T x) (ev T y)
  | .unOp op _ x=>wK P op (ev T x)
  | .convert s d x=>vi P s d (ev T x)
  | .makeInterface t x=>Br P t (ev T x)
  | .makeFunc f first captured=>O7 T f first captured
  | .build t parts=>Xs P T t parts
  | .field t x f=>lP P t (ev T x) f
  | .index t x i=>jS P t (ev T x) (ev T i)
  | .extract x i=>gW (ev T x) i
  | .fieldAddr s x f=>qn P s (ev T x) f
  | .indexAddr t x i=>jT P t (ev T x) (ev T i)
  | .typeAssert x _ asserted ok=>AB P (ev T x) asserted ok
  | .call c=>Xt P T c
  | _=>none
theorem O8:rT P=nO P:=by
  funext T op
  cases op<;>(try rfl)
  case makeFunc f a b=>cases f<;>rfl
def O9 (t : TypeId) (b o : Nat) (G : GS) : Option Value := match dJ P t with
      | some s=>match fC G b o s with | some l=>some (.agg ⟨l⟩) | none=>none
      | none=>none
def Bs (b o:Nat) (G:GS):Option Value:=match fC G b o 1 with | some [x]=>some x | _=>none
def Pa (t:TypeId) (b o:Nat) (G:GS):Option Value :=
  match Az P t with
    | some true=>O9 P t b o G
    | some false=>Bs b o G
    | none=>none
def jE (t:TypeId) (v:Value) (G:GS):Option Value :=
  match v with
  | .pointer (some a)=>Pa P t a.block a.off G
  | _=>none
theorem Pb:jE P=rH P:=by
  funext t v G
  unfold jE rH Pa O9 Bs
  rfl
def fv (T:List Value) (op:Op) (G:GS):Option Value :=
  match op with
  | .load t x=>jE P t (ev T x) G
  | .slice t x lo hi mx=>iT P t (ev T x) (lo.map (ev T)) (hi.map (ev T)) (mx.map (ev T)) G
  | _=>none
theorem Ia:fv P=fD P:=by
  funext T op G
  unfold fv fD
  rw [Pb]
  rfl
def Bt (t:TypeId) (G:GS):Option (Value×GS):=match mR P t with
    | some z=>some (.pointer (some ⟨G.nx,0,none⟩),iU G z 1)
    | none=>none
def Xu (T:List Value) (t:TypeId) (len:Nat) (parts:Array (Nat×Operand)) (G:GS):Option (Value×GS):=match P.underlying t with
    | some (.slice e)=>match dJ P e,mR P e with
      | some s,some z=>if s≠0∧len*s≤2 ^ 24 then
          (match qm (fun i=>some (i*s,s)) (rep z len) (parts.toList.map fun p=>(p.1,ev T p.2)) with
          | some c=>some (.slice (some ⟨G.nx,0,none⟩) len len,iU G c s)
          | none=>none) else none
      | _,_=>none
    | _=>none
def wL (t:TypeId) (lv cv:Value) (G:GS):Option (Value×GS):=match P.underlying t,lv,cv with
    | some (.slice e),.int _ l,.int _ c=>match P.info? e,mR P e with
      | some i,some z=>if 0≤l∧l≤c∧i.size≠0∧i.bytes*c≤2 ^ 48∧IntKind.i64.wrap l=l∧IntKind.i64.wrap c=c then
          some (.slice (some ⟨G.nx,0,none⟩) l.toNat c.toNat,iU G (rep z c.toNat) i.size) else none
      | _,_=>none
    | _,_,_=>none
def rU (T:List Value) (op:Op) (G:GS):Option (Value×GS) :=
  match op with
  | .alloc t=>Bt P t G
  | .box _ x=>some (.pointer (some ⟨G.nx,0,none⟩),iU G (ev T x).cells.toList 1)
  | .buildSlice t len parts=>Xu P T t len parts G
  | .makeSlice t l c=>wL P t (ev T l) (ev T c) G
  | _=>none
theorem Pc:rU P=lQ P:=by
  funext T op G
  cases op<;>rfl
def Ib (t:TypeId) (a x:Value) (G:GS):Option (Value×GS):=match mT P t a x G with | some G'=>some (undef,G') | none=>none
def D6 (T:List Value) (c:Call) (G:GS):Option (Value×GS):=match c.callee,c.argTypes[0]?,c.argTypes[1]?,c.args.toList with
    | .builtin .append,some ts,some tx,[s,x]=>qp P ts tx (ev T s) (ev T x) G
    | .builtin .copy,some td,_,[d,s]=>qs P td (ev T d) (ev T s) G
    | _,_,_,_=>none
def GS.Ic (G:GS):GS:=G.dS ⟨.done,none,[],[],.skip,.skip⟩
def Xv (r:Option Operand) (G:GS):Option (Value×GS):=match r with
  | none=>some (.map (some G.nl),G.Ic)
  | _=>none
def Ie (t:TypeId) (x k:Value) (ok:Bool) (G:GS):Option (Value×GS):=match wi P t x k ok G with | some v=>some (v,G) | none=>none
def Ig (t:TypeId) (m k v:Value) (G:GS):Option (Value×GS):=match wj P t m k v G with | some G'=>some (undef,G') | none=>none
def pv (T:List Value) (op:Op) (G:GS):Option (Value×GS) :=
  match op with
  | .makeMap _ r=>Xv r G
  | .lookup t x i ok=>Ie P t (ev T x) (ev T i) ok G
  | .mapUpdate t m k v=>Ig P t (ev T m) (ev T k) (ev T v) G
  | .store t a x=>Ib P t (ev T a) (ev T x) G
  | .call c=>D6 P T c G
  | _=>none
theorem Pd:pv P=rI P:=by
  funext T op G
  cases op with
  | makeMap t r=>cases r<;>rfl
  | _=>rfl
end
section
variable (P:Program) (E:Ev)
def fJ (f : Value) (args : List Value) (G : GS) : Option (Value × GS) := match f with
      | .func (.func g) a b=>E.cl g (a.toList++args++b.toList) G
      | .func (.yield l) a _=>if a.toList.isEmpty then E.rd l args G else none
      | _=>none
def jF (r : Value) (name : String) (args : List Value) (G : GS) : Option (Value × GS) := match r with
      | .iface t v=>match AE P t name with
        | some g=>E.cl g (v::args) G
        | none=>none
      | _=>none
def yQ (T:List Value) (c:Call) (G:GS):Option (Value×GS):=match c.callee with
    | .value f=>fJ E (ev T f) (c.args.toList.map (ev T)) G
    | .invoke r name=>jF P E (ev T r) name (c.args.toList.map (ev T)) G
    | _=>none
def pw (T:List Value) (op:Op) (G:GS):Option (Value×GS) :=
  match op with
  | .call c=>yQ P E T c G
  | _=>none
theorem Pf:pw P E=rJ P E:=by
  funext T op G
  cases op<;>rfl
def kZ (G:GS) (v:Option Value):Option (Value×GS):=match v with | some v=>some (v,G) | none=>none
def fK (T:List Value) (op:Op) (G:GS):Option (Value×GS):=match pv P T op G with | some r=>some r | none=>pw P E T op G
def lf (c:Nat) (T:List Value) (G:GS) (op:Op):Option (Value×GS) :=
  match c with
  | 0=>kZ G (rT P T op)
  | 1=>kZ G (fv P T op G)
  | 2=>rU P T op G
  | _=>fK P E T op G
def oe (T:List Value) (G:GS) (op:Op):Option (Value×GS):=if dL op then lf P E (cls op) T G op else none
theorem Xw:oe P E=iV P E:=by
  funext T G op
  unfold oe iV lf kZ fK
  rw [O8,Ia,Pc,Pd,Pf]
  cases dL op<;>rfl
def lg (ops:Array Oper):List Oper→List Value→GS→Option (List Value×GS)
  | [],T,G=>some (T,G)
  | o::r,T,G =>
    if dx ops T o then
      match oe P E T G o.op with
      | some (v,G')=>lg ops r (aW T o.dst v) G'
      | none=>none
    else lg ops r (aW T o.dst undef) G
theorem Xx (ops:Array Oper):lg P E ops=uN P E ops:=by
  funext l
  induction l with
  | nil=>rfl
  | cons o r ih =>
    funext T G
    simp only [lg,uN,Xw,ih]
    rfl
abbrev DS:=List Value×GS×List (Nat×GS)×List fe
def d0 (d:Option Tmp) (T:List Value) (G:GS) (aO:List (Nat×GS)) (aC:List fe) (v:Option Value):Option DS :=
  match v with | some v=>some (aW T d v,G,aO,aC) | none=>none
def d1 (m i:Nat) (op:Op) (d:Option Tmp) (T:List Value) (G:GS) (aO:List (Nat×GS)) (aC:List fe) (v:Option Value):Option DS :=
  match v with
  | some v=>if aO.all (fun h=>m.testBit h.1||bp (fv P T op h.2) v) then some (aW T d v,G,aO,⟨i,T,op,v⟩::aC) else none
  | none=>none
def d2 (nx:Nat) (d:Option Tmp) (T:List Value) (aO:List (Nat×GS)) (aC:List fe) (r:Option (Value×GS)):Option DS :=
  match r with | some (v,G')=>some (aW T d v,{ G' with nx:=nx },aO,aC) | none=>none
def d3 (m i:Nat) (d:Option Tmp) (T:List Value) (G:GS) (aO:List (Nat×GS)) (aC:List fe) (r:Option (Value×GS)):Option DS :=
  match r with
  | some (v,G')=>if aC.all (fun p=>m.testBit p.i||bp (fv P p.T p.op G') p.v) then some (aW T d v,G',(i,G)::aO,aC) else none
  | none=>none
def wM (ms:List Nat) (base i:Nat) (op:Op) (d:Option Tmp) (T:List Value) (G:GS) (aO:List (Nat×GS)) (aC:List fe) (c:Nat):Option DS :=
  match c with
  | 0=>d0 d T G aO aC (rT P T op)
  | 1=>d1 P (nth 0 ms i) i op d T G aO aC (fv P T op G)
  | 2=>d2 G.nx d T aO aC (rU P T op { G with nx:=base+i })
  | _=>d3 P (nth 0 ms i) i d T G aO aC (fK P E T op G)
def vj (ops:Array Oper) (ms:List Nat) (base i:Nat) (o:Oper) (T:List Value) (G:GS) (aO:List (Nat×GS)) (aC:List fe):Option DS :=
  if dx ops T o then (if dL o.op then wM P E ms base i o.op o.dst T G aO aC (cls o.op) else none) else some (aW T o.dst undef,G,aO,aC)
def ia (ops:Array Oper) (ms:List Nat) (base:Nat):Nat→List Oper→List Value→GS→List (Nat×GS)→List fe→Option (List Value×GS)
  | _,[],T,G,_,_=>some (T,G)
  | i,o::r,T,G,aO,aC=>match vj P E ops ms base i o T G aO aC with
    | some (T',G',h',p')=>ia ops ms base (i+1) r T' G' h' p'
    | none=>none
theorem Xy {K:List Value→GS→List (Nat×GS)→List fe→Option (List Value×GS)} (m i:Nat) (op:Op) (d:Option Tmp) (T:List Value) (G:GS) (aO:List (Nat×GS)) (aC:List fe) (r:Option Value) :
    (match d1 P m i op d T G aO aC r with | some (T',G',h',p')=>K T' G' h' p' | none=>none) =
    (match r with
      | some v=>if aO.all (fun h=>m.testBit h.1||bp (fv P T op h.2) v) then K (aW T d v) G aO (⟨i,T,op,v⟩::aC) else none
      | none=>none):=by
  unfold d1
  cases r with
  | none=>rfl
  | some v =>
    simp only []
    by_cases h:aO.all (fun h=>m.testBit h.1||bp (fv P T op h.2) v)=true
    · rw [if_pos h,if_pos h]
    · rw [if_neg h,if_neg h]
theorem Xz {K:List Value→GS→List (Nat×GS)→List fe→Option (List Value×GS)} (m i:Nat) (d:Option Tmp) (T:List Value) (G:GS) (aO:List (Nat×GS)) (aC:List fe) (r:Option (Value×GS)) :
    (match d3 P m i d T G aO aC r with | some (T',G',h',p')=>K T' G' h' p' | none=>none) =
    (match r with
      | some (v,G')=>if aC.all (fun p=>m.testBit p.i||bp (fv P p.T p.op G') p.v) then K (aW T d v) G' ((i,G)::aO) aC else none
      | none=>none):=by
  unfold d3
  cases r with
  | none=>rfl
  | some r =>
    obtain ⟨v,G'⟩:=r
    simp only []
    by_cases h:aC.all (fun p=>m.testBit p.i||bp (fv P p.T p.op G') p.v)=true
    · rw [if_pos h,if_pos h]
    · rw [if_neg h,if_neg h]
theorem Pg (ops:Array Oper) (ms:List Nat) (base:Nat):∀ (l:List Oper) (i:Nat) (T:List Value) (G:GS) (aO:List (Nat×GS)) (aC:List fe),ia P E ops ms base i l T G aO aC=mV P E ops ms base i l T G aO aC
  | [],i,T,G,aO,aC=>rfl
  | o::r,i,T,G,aO,aC=>by
    have ih:=Pg ops ms base r
    simp only [ia,mV,vj]
    by_cases hw:dx ops T o=true
    · rw [if_pos hw,if_pos hw]
      cases hk:dL o.op with
      | false=>rfl
      | true =>
        simp only [if_true,Bool.not_true,Bool.false_eq_true,if_false]
        unfold wM
        generalize hc:cls o.op=c
        match c with
        | 0 =>
          simp only [d0,O8]
          cases nO P T o.op<;>simp [ih]
        | 1 =>
          refine (Xy P (K:=fun T' G' h' p'=>ia P E ops ms base (i+1) r T' G' h' p') (nth 0 ms i) i o.op o.dst T G aO aC (fv P T o.op G)).trans ?_
          simp only [Ia]
          cases fD P T o.op G with
          | none=>rfl
          | some v=>simp only [ih]
        | 2 =>
          simp only [d2,Pc]
          cases lQ P T o.op { G with nx:=base+i }<;>simp [ih]
        | n+3 =>
          refine (Xz P (K:=fun T' G' h' p'=>ia P E ops ms base (i+1) r T' G' h' p') (nth 0 ms i) i o.dst T G aO aC (fK P E T o.op G)).trans ?_
          simp only [fK,Ia,Pd,Pf]
          cases rI P T o.op G with
          | some r=>simp only [ih]
          | none=>cases rJ P E T o.op G with
            | some r=>simp only [ih]
            | none=>rfl
    · rw [if_neg hw,if_neg hw]
      exact ih _ _ _ _ _
def yR (b:Code) (r:Option (Exit×List Value×GS)):Option (Exit×List Value×GS):=match r with
    | some (.normal,T',G')=>E.ex b T' G'
    | r=>r
def rV (v:Value) (a b:Code) (T:List Value) (G:GS):Option (Exit×List Value×GS):=match v with
    | .bool true=>E.ex a T G
    | .bool false=>E.ex b T G
    | _=>none
def rW (id:Nat) (r:Option (Exit×List Value×GS)):Option (Exit×List Value×GS):=match r with
    | some (.exit gQ,T',G')=>if gQ =id then some (.normal,T',G') else some (.exit gQ,T',G')
    | r=>r
def px (r:Option (List Value×GS)):Option (Exit×List Value×GS):=match r with
    | some (T',G')=>some (.normal,T',G')
    | none=>none
def jZ (ops:Array Oper) (T:List Value) (G:GS):Option (Exit×List Value×GS) :=
  if uO ops then px (ia P E ops (masks ops.toList []) G.nx 0 ops.toList T { G with nx:=G.nx+ops.size } [] []) else none
def wN (ops:Array Oper) (T:List Value) (G:GS):Option (Exit×List Value×GS):=px (lg P E ops ops.toList T G)
def qG (nl : Nat) (T : List Value) (r : Option (Value × GS)) : Option (Exit × List Value × GS) := match r with
      | some (_,G2)=>match G2.loop nl with
        | some r=>if r.st= .busy then none else match Dq r.aC with
          | some e=>some (e,T,G2.bR nl { r with st:=.exhausted })
          | none=>none
        | none=>none
      | none=>none
def gE (v:Value) (ps:Array Nat) (assign body:Code) (T:List Value) (G:GS):Option (Exit×List Value×GS):=match v with
    | .func (.func g) a b=>qG G.nl T (E.cl g (a.toList++[.func (.yield G.nl) #[] #[]]++b.toList) (G.dS ⟨.ready,none,T,ps.toList,assign,body⟩))
    | _=>none
def nu (c:Code) (T:List Value) (G:GS):Option (Exit×List Value×GS) :=
  match c with
  | .skip=>some (.normal,T,G)
  | .label _=>some (.normal,T,G)
  | .seq a b=>yR E b (E.ex a T G)
  | .cond x a b=>if db x then rV E (ev T x) a b T G else none
  | .block id b=>rW id (E.ex b T G)
  | .loop b=>E.lp b T G
  | .exit id=>some (.exit id,T,G)
  | .goto l=>some (.goto l,T,G)
  | .ret=>some (.ret,T,G)
  | .scope b=>E.sc b b T G
  | .region _ ops draw=>if draw then jZ P E ops T G else wN P E ops T G
  | .rangeFunc f ps assign body=>if db f then gE E (ev T f) ps assign body T G else none
  | .refuse _=>none
theorem XA:nu P E=iW P E:=by
  funext c T G
  cases c with
  | seq a b=>rfl
  | cond x a b =>
    simp only [nu,iW,rV]
    cases db x<;>rfl
  | block id b=>rfl
  | region id ops draw =>
    simp only [nu,iW,jZ,wN,px,Pg,Xx]
    cases draw<;>rfl
  | rangeFunc f ps assign body =>
    simp only [nu,iW,gE,qG]
    cases db f<;>rfl
  | _=>rfl
def Ev.Ih:Ev:=⟨nu P E,rL P E,sU E,pa E,pc E⟩
theorem Ev.XB:E.Ih P=E.next P:=by
  unfold Ev.Ih Ev.next
  rw [XA]
end
end
end Go.Proofs.YtkhlabammcghbaaGreat.Gh
namespace Go.Proofs.YtkhlabammcghbaaGreat.Gh
open Go
set_option linter.unusedVariables false
noncomputable section
def tD:Nat:=4294967297
def Bu:Nat:=4294967298
def D7:Nat:=4294967299
def Ii:Nat:=4294967300
def Ph:List (List (IntKind×Int)×(IntKind×Int)):=[]
def vl (l:List (IntKind×Int)):List Value:=l.map fun x=>.int x.1 x.2
def isLit:List (IntKind×Int)→List Value→Bool
  | [],[]=>true
  | (k,x)::l,.int k' y::vs=>decide (k=k')&&decide (x=y)&&isLit l vs
  | _,_=>false
theorem Pj:∀ {l:List (IntKind×Int)} {vs:List Value},isLit l vs=true→vs=vl l
  | [],[],_=>rfl
  | (k,x)::l,.int k' y::vs,h=>by
    simp only [isLit,Bool.and_eq_true,decide_eq_true_eq] at h
    rw [Pj h.2,← h.1.1,← h.1.2]; rfl
def D8:List (List (IntKind×Int)×(IntKind×Int))→List Value→Option Value
  | [],_=>none
  | x::t,vs=>if isLit x.1 vs=true then some (.int x.2.1 x.2.2) else D8 t vs
theorem Pk:∀ {L:List (List (IntKind×Int)×(IntKind×Int))} {vs:List Value} {v:Value},D8 L vs=some v→∃ x,x∈L∧vs=vl x.1∧v= .int x.2.1 x.2.2
  | x::t,vs,v,h=>by
    unfold D8 at h
    split at h
    · rename_i hx; cases h; exact ⟨x,List.mem_cons_self ..,Pj hx,rfl⟩
    · obtain ⟨y,h1,h2⟩:=Pk h; exact ⟨y,List.mem_cons_of_mem _ h1,h2⟩
def Pm (vs:List Value) (G:GS):Option (Value×GS):=match D8 Ph vs with | some v=>some (v,G) | none=>none
def Ij (P:Program):Prop:=∀ fn,P.funcs[D7]? =some fn→(fn.name == "runtime.NumGoroutine")=false∧fn.body.isSome=true ∧
  ∀ x,x∈Ph→∀ w,Calls P D7 (vl x.1).toArray w fun e w'=>e= .returned (.int x.2.1 x.2.2)∧Go.RowKit.Below w.heap.size w w'
theorem XC {P:Program} (h:(P.funcs[D7]?).isNone=true):Ij P:=fun fn hf=>by rw [hf] at h; cases h
def tE (l:List Value):Option (List Int) :=
  List.rec (motive:=fun _=>Option (List Int)) (some []) (fun v _ ih=>match v with | .int .u64 x=>(match ih with | some l=>some (x::l) | none=>none) | _=>none) l
theorem XD (v:Value) (l:List Value):tE (v::l)=none∨∃ x,v= .int .u64 x∧tE (v::l)=(tE l).map (x::·):=by
  cases v with
  | int k x =>
    cases k with
    | u64 =>
      refine .inr ⟨x,rfl,?_⟩
      generalize hl:tE l=y
      have:tE (Value.int .u64 x::l)=(match tE l with | some l=>some (x::l) | none=>none):=rfl
      rw [this,hl]
      cases y<;>rfl
    | _=>exact .inl rfl
  | _=>exact .inl rfl
theorem Pn:∀ {l:List Value} {L:List Int},tE l=some L→l=L.map (Value.int .u64)
  | [],L,h=>by cases h; rfl
  | v::l,L,h=>by
    rcases XD v l with h1 | ⟨x,rfl,h1⟩
    · rw [h1] at h; cases h
    · rw [h1] at h
      cases hl:tE l with
      | none=>rw [hl] at h; cases h
      | some l'=>rw [hl] at h; cases h; rw [Pn hl]; rfl
def D9 (x:Int) (l:List Int):List Int :=
  List.rec (motive:=fun _=>List Int) [x] (fun y r ih=>if x≤y then x::y::r else y::ih) l
def tF (l:List Int):List Int:=List.rec (motive:=fun _=>List Int) [] (fun x _ ih=>D9 x ih) l
theorem XE (x y:Int) (r:List Int):D9 x (y::r)=if x≤y then x::y::r else y::D9 x r:=rfl
theorem Po (x:Int):∀ l:List Int,(D9 x l).Perm (x::l)
  | []=>.refl _
  | y::r=>by
    rw [XE]
    split
    · exact .refl _
    · exact ((Po x r).cons y).trans (.swap x y r)
theorem Pp:∀ l:List Int,(tF l).Perm l
  | []=>.refl _
  | x::l=>(Po x (tF l)).trans ((Pp l).cons x)
theorem Pq (l:List Int):(tF l).length=l.length:=(Pp l).length_eq
def ma (vs:List Value) (G:GS):Option (Value×GS):=match vs with
  | [.slice _ 0 _,.func (.func g) ⟨[]⟩ ⟨[]⟩]=>if Nat.beq g Bu=true then some (.tuple #[],G) else none
  | [.slice (some ⟨b,o,none⟩) (n+1) _,.func (.func g) ⟨[]⟩ ⟨[]⟩] =>
    if (Nat.beq g Bu&&Nat.ble n 1000000000000)=true then (match fC G b o (n+1) with
      | some l=>(match tE l with
        | some L=>(match lR G b o ((tF L).map (Value.int .u64)) with
          | some G'=>some (.tuple #[],G')
          | none=>none)
        | none=>none)
      | none=>none) else none
  | _=>none
def Ik (P:Program):Prop :=
  ∀ fn,P.funcs[tD]? =some fn→(fn.name == "runtime.NumGoroutine")=false∧fn.body.isSome=true ∧
    (∀ (w:World) (p:Option Addr) (cap:Nat),Calls P tD #[.slice p 0 cap,.func (.func Bu) #[] #[]] w fun e w'=>e= .returned (.tuple #[])∧w' =w) ∧
    ∀ (w:World) (aY off cap:Nat) (L:List Int) (c:Array Value) (e:TypeId),w.heap[aY]? =some (.cells c e (0,0))→off+L.length≤c.size→(∀ (j:Nat) (v:Value),(L.map (Value.int .u64))[j]? =some v→c[off+j]? =some v)→0<L.length→L.length<4611686018427387904 →
      Calls P tD #[.slice (some ⟨aY,off,none⟩) L.length cap,.func (.func Bu) #[] #[]] w fun r w'=>r= .returned (.tuple #[])∧∃ (os:List Obj) (d:Nat),w' ={ (os.foldl (fun w o=>w.alloc o) (World.tf w aY (nV c off ((tF L).map (Value.int .u64))) e)) with drawn:=d }
theorem Rel.Il {M:Map} {B:Nat} {G:GS}:∀ (os:List Obj) {w:World},Rel G M w B→Rel G M (os.foldl (fun w o=>w.alloc o) w) B∧cy G M w G M (os.foldl (fun w o=>w.alloc o) w)
  | [],w,h=>⟨h,⟨.refl M,Nat.le_refl _,fun r hr _=>rfl,fun _ h=>.inl h,rfl,rfl,rfl,Nat.le_refl _,fun _ _ h=>⟨h,rfl⟩,fun _ _ h=>h⟩⟩
  | o::os,w,h=>by
    obtain ⟨h1,h2⟩:=h.other o
    obtain ⟨h3,h4⟩:=Rel.Il os h1
    exact ⟨h3,h2.trans h4⟩
theorem XF {P:Program} {fn:Func} (hS:Ik P) (hf:P.funcs[tD]? =some fn) {vs:List Value} {G G':GS} {v:Value} (h:ma vs G=some (v,G')) {M:Map} {w:World} {B:Nat} {args:Array Value} (hR:Rel G M w B) (hv:Vs M vs args.toList) :
    Calls P tD args w fun e w'=>e= .returned (.tuple #[])∧v= .tuple #[]∧Rel G' M w' B∧cy G M w G' M w':=by
  obtain ⟨_,_,hN,hC⟩:=hS fn hf
  unfold ma at h
  split at h
  · rename_i p0 c0 g
    split at h
    · rename_i hg
      obtain rfl:=Nat.eq_of_beq_eq_true hg
      cases h
      obtain ⟨p,cap,jV⟩:∃ p cap,args= #[.slice p 0 cap,.func (.func Bu) #[] #[]]:=by
        obtain ⟨l⟩:=args
        match l,hv with
        | [a,b],hv =>
          obtain ⟨ha,hb,_⟩:=hv
          obtain ⟨f',a',b',rfl,Im,h1,h2⟩:=kT.1 hb
          cases Im
          have e1:a' = #[]:=Array.eq_empty_of_size_eq_zero (by simpa using (iG h1).symm)
          have e2:b' = #[]:=Array.eq_empty_of_size_eq_zero (by simpa using (iG h2).symm)
          rw [e1,e2]
          cases p0 with
          | none=>obtain ⟨_,_,rfl⟩:=jx.1 ha; exact ⟨_,_,rfl⟩
          | some p1=>obtain ⟨x,b1,cr,_,rfl,_⟩:=gC.1 ha; exact ⟨_,_,rfl⟩
      subst jV
      refine (hN w p cap).mono fun e w' ⟨h1,h2⟩=>?_
      subst h2
      obtain ⟨h3,h4⟩:=Rel.Il [] hR
      exact ⟨h1,rfl,h3,h4⟩
    · cases h
  · rename_i b o n cap g
    split at h
    · rename_i AR
      obtain ⟨hg,Pr⟩:=(Bool.and_eq_true _ _).mp AR
      have Pr:=Nat.le_of_ble_eq_true Pr
      obtain rfl:=Nat.eq_of_beq_eq_true hg
      split at h
      · rename_i l hl
        split at h
        · rename_i L hL
          split at h
          · rename_i G1 hG
            obtain ⟨rfl,rfl⟩:v= .tuple #[]∧G' =G1:=by cases h; exact ⟨rfl,rfl⟩
            obtain ⟨l'⟩:=args
            match l',hv with
            | [a,f],hv =>
              obtain ⟨ha,hb,_⟩:=hv
              obtain ⟨x,b',cr,hx,rfl,mX,hY,fG⟩:=gC.1 ha
              obtain ⟨f',a',XG,rfl,Im,h1,h2⟩:=kT.1 hb
              cases Im
              have e1:a' = #[]:=Array.eq_empty_of_size_eq_zero (by simpa using (iG h1).symm)
              have e2:XG = #[]:=Array.eq_empty_of_size_eq_zero (by simpa using (iG h2).symm)
              subst e1; subst e2
              have lV:cr≠0:=by
                rcases hY with h | ⟨_,_,h⟩<;>omega
              obtain rfl:=fG lV
              have DH:=Pn hL
              obtain ⟨us,hZ,vh,iZ⟩:=yz hR hx hl
              have hlen:L.length=n+1:=by have:=iG hZ; rw [DH,List.length_map] at this; omega
              have Hx:us=L.map (Value.int .u64):=by
                refine List.ext_getElem? fun j=>?_
                rcases Nat.lt_or_ge j L.length with hj | hj
                · obtain ⟨y,hy,hV⟩:=(iH.1 hZ).2 j (.int .u64 L[j]) (by rw [DH]; simp [hj])
                  rw [hy,eG.1 hV]; simp [hj]
                · rw [List.getElem?_eq_none (by omega),List.getElem?_eq_none (by simp; omega)]
              subst Hx
              unfold lR at hG
              split at hG
              · rename_i ob ho
                split at hG
                · rename_i hm
                  simp only [Bool.and_eq_true,decide_eq_true_eq] at hm
                  split at hG
                  · rename_i cs fE
                    simp only [Option.some.injEq] at hG
                    obtain ⟨g1,g2,g3⟩:=AG fE
                    rw [List.length_map,Pq,hlen] at g2
                    have hb:=hR.aY b x ob hx ho
                    obtain ⟨hB,c0,e,lW,cm⟩:=hb.own hm.1
                    have Vq:=hb.len
                    have afs:((tF L).map (Value.int .u64)).length=n+1:=by rw [List.length_map,Pq,hlen]
                    have hw:=hR.write (c':=nV c0 (x.off+o) ((tF L).map (Value.int .u64))) (m:=1) hx ho hm.1 lW (AU _ _ _) g1 (.inl rfl) (by
                      intro _ i v iJ
                      rw [g3 i] at iJ
                      rw [DG _ c0 _ _ (by omega)]
                      by_cases mY:o≤i∧i<o+((tF L).map (Value.int .u64)).length
                      · rw [if_pos mY] at iJ
                        rw [if_pos (by omega)]
                        refine ⟨v,by rw [← iJ,show x.off+i - (x.off+o)=i - o by omega],?_⟩
                        rw [List.getElem?_map] at iJ
                        cases hk:(tF L)[i - o]? with
                        | none=>rw [hk] at iJ; cases iJ
                        | some k=>rw [hk] at iJ; cases iJ; exact eG.2 rfl
                      · rw [if_neg mY] at iJ
                        rw [if_neg (by omega)]
                        obtain ⟨u,hu,hV⟩:=hb.cells (by rw [hm.1]; omega) i v iJ
                        rw [AW lW] at hu
                        exact ⟨u,hu,hV⟩)
                    have ak:G.put b { ob with cells:=cs,mode:=1 }=G':=by
                      rw [← hG]; obtain ⟨a,b,c,d⟩:=ob; simp only at hm; rw [hm.1]
                    rw [ak] at hw
                    have Ps:=hC w x.aY (x.off+o) cr L c0 e lW (by omega) (fun j v hj=>by have:=iZ j v hj; rw [AW lW] at this; rw [← this]) (by omega) (by omega)
                    rw [hlen] at Ps
                    refine Ps.mono fun r w' ⟨h1,os,d,h2⟩=>?_
                    subst h2
                    obtain ⟨h3,h4⟩:=Rel.Il os hw.1
                    exact ⟨h1,rfl,h3.drawn d,(hw.2.trans h4).drawn d⟩
                  · cases hG
                · cases hG
              · cases hG
          · cases h
        · cases h
      · cases h
    · cases h
  · cases h
theorem XH {P:Program} (h:(P.funcs[tD]?).isNone=true):Ik P:=fun fn hf=>by rw [hf] at h; cases h
end
end Go.Proofs.YtkhlabammcghbaaGreat.Gh
namespace Go.Proofs.YtkhlabammcghbaaGreat.Gh
open Go
set_option linter.unusedVariables false
noncomputable section
def Ea:Nat:=4294967401
def Eb:Nat:=4294967402
def Ec:Nat:=4294967403
def Pt (k:Nat):Nat→List UInt8:=Nat.rec (motive:=fun _=>Nat→List UInt8) (fun _=>[]) (fun _ ih n=>if Nat.blt n 10=true then [UInt8.ofNat (48+n)] else ih (n / 10)++[UInt8.ofNat (48+n % 10)]) k
def XI (x:Int):List UInt8:=match x with
  | .ofNat n=>Pt 20 n
  | .negSucc n=>45::Pt 20 (n+1)
def XJ (k:IntKind) (x:Int):Bool:=match k with
  | .u64=>decide (0≤x)&&decide (x<18446744073709551616)
  | .i64=>decide (-9223372036854775808≤x)&&decide (x<9223372036854775808)
  | _=>false
def Io (p:IntKind×UInt8) (v:Value):Option (List UInt8):=match v with
  | .int k x=>if (decide (k=p.1)&&XJ p.1 x)=true then some (XI x++[p.2]) else none
  | _=>none
def Bv (cs:List Value):IntKind×UInt8→IntKind×UInt8→Option (List UInt8) :=
  List.rec (motive:=fun _=>IntKind×UInt8→IntKind×UInt8→Option (List UInt8)) (fun _ _=>some []) (fun v _ ih p q=>match Io p v,ih q p with | some a,some b=>some (a++b) | _,_=>none) cs
theorem XK (v:Value) (cs:List Value) (p q:IntKind×UInt8):Bv (v::cs) p q=match Io p v,Bv cs q p with | some a,some b=>some (a++b) | _,_=>none:=rfl
abbrev wO:=Nat×(IntKind×UInt8)×(IntKind×UInt8)
def Bw (z:wO) (vs:List Value) (G:GS):Option (Value×GS):=match vs with
  | [.slice _ 0 _]=>some (.string ⟨#[]⟩,G)
  | [.slice (some ⟨b,o,none⟩) (n+1) _]=>if (yp G&&Nat.ble n 1000000)=true then (match fC G b o ((n+1)*z.1) with
      | some l=>(match Bv l z.2.1 z.2.2 with
        | some s=>some (.string ⟨s.toArray⟩,G)
        | none=>none)
      | none=>none) else none
  | _=>none
def kA:wO:=(1,(.u64,44),(.u64,44))
def kB:wO:=(2,(.u64,32),(.i64,44))
def kC:wO:=(1,(.i64,44),(.i64,44))
def yS (w:World):Prop:=(∃ e f,w.heap[Mu]? =some (.cells My.toArray e f))∧∃ e f,w.heap[Mv]? =some (.cells Mw.toArray e f)
theorem Rel.Ip {G:GS} {M:Map} {w:World} {B:Nat} (hR:Rel G M w B) (h:yp G=true):yS w:=by
  unfold yp at h
  split at h
  · rename_i o p ho hp
    simp only [Bool.and_eq_true] at h
    have h1:=Nat.eq_of_beq_eq_true h.1
    have h2:=Nat.eq_of_beq_eq_true h.2
    obtain ⟨k1,_,e1,f1,j1⟩:=hR.gl 0 o ho (by rw [h1]; unfold Dg; omega)
    obtain ⟨k2,_,e2,f2,j2⟩:=hR.gl 1 p hp (by rw [h2]; unfold Dh; omega)
    have aB:Dg≠Dh:=by decide
    rcases k1 with ⟨_,c1⟩ | ⟨m1,_⟩
    · rcases k2 with ⟨m2,_⟩ | ⟨_,c2⟩
      · exact absurd (m2.symm.trans h2) aB
      · rw [h1,c1] at j1
        rw [h2,c2] at j2
        exact ⟨⟨e1,f1,j1⟩,e2,f2,j2⟩
    · exact absurd (h1.symm.trans m1) aB
  · cases h
def Bx (P:Program) (f:Nat) (z:wO):Prop :=
  ∀ fn,P.funcs[f]? =some fn→(fn.name == "runtime.NumGoroutine")=false∧fn.body.isSome=true ∧
    (∀ (w:World) (p:Option Addr) (cap:Nat),Calls P f #[.slice p 0 cap] w fun e w'=>e= .returned (.string ⟨#[]⟩)∧Go.RowKit.Below w.heap.size w w') ∧
    ∀ (w:World) (aY off cap n:Nat) (cs:List Value) (s:List UInt8),yS w→n<1000001→cs.length=(n+1)*z.1→(∀ (j:Nat) (v:Value),cs[j]? =some v→w.cell? ⟨aY,off+j,none⟩=some v)→Bv cs z.2.1 z.2.2=some s →
      Calls P f #[.slice (some ⟨aY,off,none⟩) (n+1) cap] w fun e w'=>e= .returned (.string ⟨s.toArray⟩)∧Go.RowKit.Below w.heap.size w w'
theorem Iq {P:Program} {f:Nat} {z:wO} (h:(P.funcs[f]?).isNone=true):Bx P f z:=fun fn hf=>by rw [hf] at h; cases h
theorem Pu:∀ {cs us:List Value} {p q:IntKind×UInt8} {s:List UInt8} {M:Map},Bv cs p q=some s→Vs M cs us→us=cs
  | [],[],_,_,_,_,_,_=>rfl
  | v::cs,u::us,p,q,s,M,h,hv=>by
    rw [XK] at h
    split at h
    · rename_i a b h1 h2
      rw [Pu h2 hv.2]
      have:∃ k x,v= .int k x:=by
        unfold Io at h1
        split at h1
        · exact ⟨_,_,rfl⟩
        · cases h1
      obtain ⟨k,x,rfl⟩:=this
      rw [eG.1 hv.1]
    · cases h
theorem Ir {P:Program} {f:Nat} {z:wO} {fn:Func} (hS:Bx P f z) (hf:P.funcs[f]? =some fn) {vs:List Value} {G G':GS} {v:Value} (h:Bw z vs G=some (v,G')) {M:Map} {w:World} {B:Nat} {args:Array Value} (hR:Rel G M w B) (hv:Vs M vs args.toList) :
    Calls P f args w fun e w'=>∃ s,v= .string s∧G' =G∧e= .returned (.string s)∧Go.RowKit.Below w.heap.size w w':=by
  obtain ⟨_,_,XL,hC⟩:=hS fn hf
  unfold Bw at h
  split at h
  · rename_i p cap
    obtain ⟨rfl,rfl⟩:v= .string ⟨#[]⟩∧G' =G:=by cases h; exact ⟨rfl,rfl⟩
    obtain ⟨l'⟩:=args
    match l',hv with
    | [a],hv =>
      have:∃ p' Iu,a= .slice p' 0 Iu:=by
        cases p with
        | none=>obtain ⟨e1,_,rfl⟩:=jx.1 hv.1; exact ⟨_,_,rfl⟩
        | some q=>obtain ⟨q0,q1,q2⟩:=q; obtain ⟨_,_,_,_,rfl,_⟩:=gC.1 hv.1; exact ⟨_,_,rfl⟩
      obtain ⟨p',Iu,rfl⟩:=this
      exact (XL w p' Iu).mono fun e w' ⟨h1,h2⟩=>⟨_,rfl,rfl,h1,h2⟩
  · rename_i b o n cap
    split at h
    · rename_i AR
      obtain ⟨hg,hn⟩:=(Bool.and_eq_true _ _).mp AR
      have hn:=Nat.le_of_ble_eq_true hn
      split at h
      · rename_i l hl
        split at h
        · rename_i s hs
          obtain ⟨rfl,rfl⟩:v= .string ⟨s.toArray⟩∧G' =G:=by cases h; exact ⟨rfl,rfl⟩
          obtain ⟨l'⟩:=args
          match l',hv with
          | [a],hv =>
            obtain ⟨x,b',cr,hx,rfl,mX,hY,fG⟩:=gC.1 hv.1
            have lV:cr≠0:=by
              rcases hY with h | ⟨_,_,h⟩<;>omega
            obtain rfl:=fG lV
            obtain ⟨us,hZ,vh,iZ⟩:=yz hR hx hl
            have XM:=Pu hs hZ
            subst XM
            exact (hC w x.aY (x.off+o) cr n us s (hR.Ip hg) (by omega) vh iZ hs).mono fun e w' ⟨h1,h2⟩=>⟨_,rfl,rfl,h1,h2⟩
        · cases h
      · cases h
    · cases h
  · cases h
end
end Go.Proofs.YtkhlabammcghbaaGreat.Gh
