import Derived.Test.YtlaojmcekeohnaaGreatDoorGhU
namespace Go.Proofs.YtlaojmcekeohnaaGreatDoor.Gh
open Go
noncomputable section
section
variable (P:Program)
def iQuo (k:IntKind) (m n:Int):Option Value:=if n=0 then none else some (.int k (k.wrap (m.tdiv n)))
def iRem (k:IntKind) (m n:Int):Option Value:=if n=0 then none else some (.int k (m.tmod n))
def iAnd (k:IntKind) (m n:Int):Option Value:=some (.int k (k.wrap ((BitVec.ofInt k.bits m &&& BitVec.ofInt k.bits n).toNat)))
def iOr (k:IntKind) (m n:Int):Option Value:=some (.int k (k.wrap ((BitVec.ofInt k.bits m ||| BitVec.ofInt k.bits n).toNat)))
def iXor (k:IntKind) (m n:Int):Option Value:=some (.int k (k.wrap ((BitVec.ofInt k.bits m ^^^ BitVec.ofInt k.bits n).toNat)))
def iAndNot (k:IntKind) (m n:Int):Option Value:=some (.int k (k.wrap ((BitVec.ofInt k.bits m &&& ~~~ BitVec.ofInt k.bits n).toNat)))
def iShl (k:IntKind) (m n:Int):Option Value:=if n<0 then none else some (.int k (k.wrap (m*2 ^ (min n.toNat k.bits))))
def iShr (k:IntKind) (m n:Int):Option Value:=if n<0 then none else some (.int k (m.fdiv (2 ^ (min n.toNat k.bits))))
def iAdd (k:IntKind) (m n:Int):Option Value:=some (.int k (k.wrap (m+n)))
def iSub (k:IntKind) (m n:Int):Option Value:=some (.int k (k.wrap (m - n)))
def iMul (k:IntKind) (m n:Int):Option Value:=some (.int k (k.wrap (m*n)))
def iEql (m n:Int):Option Value:=some (.bool (m==n))
def iNeq (m n:Int):Option Value:=some (.bool (m != n))
def iLss (m n:Int):Option Value:=some (.bool (m<n))
def iLeq (m n:Int):Option Value:=some (.bool (m≤n))
def iGtr (m n:Int):Option Value:=some (.bool (m>n))
def iGeq (m n:Int):Option Value:=some (.bool (m≥n))
def gIntF (op:BinOp) (k:IntKind) (m n:Int):Option Value :=
  match op with
  | .add=>iAdd k m n
  | .sub=>iSub k m n
  | .mul=>iMul k m n
  | .quo=>iQuo k m n
  | .rem=>iRem k m n
  | .and=>iAnd k m n
  | .or=>iOr k m n
  | .xor=>iXor k m n
  | .andNot=>iAndNot k m n
  | .eql=>iEql m n
  | .neq=>iNeq m n
  | .lss=>iLss m n
  | .leq=>iLeq m n
  | .gtr=>iGtr m n
  | .geq=>iGeq m n
  | .shl=>iShl k m n
  | .shr=>iShr k m n
theorem gIntF_eq:gIntF=gInt:=by
  funext op k m n
  cases op<;>rfl
def gBinI (op:BinOp) (k:IntKind) (m:Int) (k' :IntKind) (n:Int):Option Value:=if k=k' ||isShift op then gIntF op k m n else none
def gBinF (op:BinOp) (t:TypeId) (x y:Operand) (a b:Value):Option Value :=
  match a,b with
  | .int k m,.int k' n=>gBinI op k m k' n
  | a,b=>gBinAny P op t x y a b
theorem gBinF_eq:gBinF P=gBin P:=by
  funext op t x y a b
  unfold gBinF gBin gBinI
  rw [gIntF_eq]
  rfl
def pPick (T:List Value) (c a b:Operand):Option Value:=match ev T c with | .bool t=>some (if t then ev T a else ev T b) | _=>none
def pNil (v:Value):Option Value:=match v with
    | .pointer (some a)=>some (.pointer (some a))
    | .func (.func f) a b=>some (.func (.func f) a b)
    | .func (.yield l) a b=>some (.func (.yield l) a b)
    | .iface t v=>some (.iface t v)
    | _=>none
def pUn (op:UnOp) (v:Value):Option Value:=if plain v then prunP P (Op.unary op v) else none
def pConv (s d:TypeId) (v:Value):Option Value:=if plain v then prunP P (convert s d v) else none
def pIface (t:TypeId) (v:Value):Option Value:=match P.underlying t with
    | some (.interface _)=>none
    | some _=>some (.iface t v)
    | none=>none
def pFunc (T:List Value) (f:Fn) (first captured:Array Operand):Option Value:=match f with
    | .func f=>some (.func (.func f) (first.map (ev T)) (captured.map (ev T)))
    | _=>none
def pBuild (T:List Value) (t:TypeId) (parts:Array (Nat×Operand)):Option Value:=gBuild P t (parts.toList.map fun p=>(p.1,ev T p.2))
def pExtract (v:Value) (i:Nat):Option Value:=match v with | .tuple vs=>getN vs.toList i | _=>none
def pLen (T:List Value) (c:Call):Option Value:=match c.argTypes[0]?,c.args.toList with | some t,[x]=>gLen P t (ev T x) | _,_=>none
def pMin (T:List Value) (c:Call):Option Value:=if (c.args.toList.map (ev T)).all plain then prunP P (Builtin.min_ c.argTypes 0 (c.args.map (ev T))) else none
def pMax (T:List Value) (c:Call):Option Value:=if (c.args.toList.map (ev T)).all plain then prunP P (Builtin.max_ c.argTypes 0 (c.args.map (ev T))) else none
def pCall (T:List Value) (c:Call):Option Value:=match c.callee with
    | .builtin .len=>pLen P T c
    | .builtin .min=>pMin P T c
    | .builtin .max=>pMax P T c
    | _=>none
def gPureF (T:List Value) (op:Op):Option Value :=
  match op with
  | .move x=>some (ev T x)
  | .assign x=>some (ev T x)
  | .pick c a b=>pPick T c a b
  | .nilCheck x=>pNil (ev T x)
  | .binOp op t x y _=>gBinF P op t x y (ev T x) (ev T y)
  | .unOp op _ x=>pUn P op (ev T x)
  | .convert s d x=>pConv P s d (ev T x)
  | .makeInterface t x=>pIface P t (ev T x)
  | .makeFunc f first captured=>pFunc T f first captured
  | .build t parts=>pBuild P T t parts
  | .field t x f=>gField P t (ev T x) f
  | .index t x i=>gIndex P t (ev T x) (ev T i)
  | .extract x i=>pExtract (ev T x) i
  | .fieldAddr s x f=>gFieldAddr P s (ev T x) f
  | .indexAddr t x i=>gIndexAddr P t (ev T x) (ev T i)
  | .typeAssert x _ asserted ok=>gAssert P (ev T x) asserted ok
  | .call c=>pCall P T c
  | _=>none
theorem gPureF_eq:gPureF P=gPure P:=by
  funext T op
  cases op<;>(try rfl)
  case makeFunc f a b=>cases f<;>rfl
def loadAgg (t : TypeId) (b o : Nat) (G : GS) : Option Value := match szO P t with
      | some s=>match rdN G b o s with | some l=>some (.agg ⟨l⟩) | none=>none
      | none=>none
def loadOne (b o:Nat) (G:GS):Option Value:=match rdN G b o 1 with | some [x]=>some x | _=>none
def gLoadAt (t:TypeId) (b o:Nat) (G:GS):Option Value :=
  match aggO P t with
    | some true=>loadAgg P t b o G
    | some false=>loadOne b o G
    | none=>none
def gLoadF (t:TypeId) (v:Value) (G:GS):Option Value :=
  match v with
  | .pointer (some a)=>gLoadAt P t a.block a.off G
  | _=>none
theorem gLoadF_eq:gLoadF P=gLoad P:=by
  funext t v G
  unfold gLoadF gLoad gLoadAt loadAgg loadOne
  rfl
def gReadF (T:List Value) (op:Op) (G:GS):Option Value :=
  match op with
  | .load t x=>gLoadF P t (ev T x) G
  | .slice t x lo hi mx=>gSlice P t (ev T x) (lo.map (ev T)) (hi.map (ev T)) (mx.map (ev T)) G
  | _=>none
theorem gReadF_eq:gReadF P=gRead P:=by
  funext T op G
  unfold gReadF gRead
  rw [gLoadF_eq]
  rfl
def mAlloc (t:TypeId) (G:GS):Option (Value×GS):=match zeroO P t with
    | some z=>some (.pointer (some ⟨G.nx,0,none⟩),newBlk G z 1)
    | none=>none
def mBuild (T:List Value) (t:TypeId) (len:Nat) (parts:Array (Nat×Operand)) (G:GS):Option (Value×GS):=match P.underlying t with
    | some (.slice e)=>match szO P e,zeroO P e with
      | some s,some z=>if s≠0∧len*s≤2 ^ 24 then
          (match gFill (fun i=>some (i*s,s)) (rep z len) (parts.toList.map fun p=>(p.1,ev T p.2)) with
          | some c=>some (.slice (some ⟨G.nx,0,none⟩) len len,newBlk G c s)
          | none=>none) else none
      | _,_=>none
    | _=>none
def mMake (t:TypeId) (lv cv:Value) (G:GS):Option (Value×GS):=match P.underlying t,lv,cv with
    | some (.slice e),.int _ l,.int _ c=>match P.info? e,zeroO P e with
      | some i,some z=>if 0≤l∧l≤c∧i.size≠0∧i.bytes*c≤2 ^ 48∧IntKind.i64.wrap l=l∧IntKind.i64.wrap c=c then
          some (.slice (some ⟨G.nx,0,none⟩) l.toNat c.toNat,newBlk G (rep z c.toNat) i.size) else none
      | _,_=>none
    | _,_,_=>none
def gMakeF (T:List Value) (op:Op) (G:GS):Option (Value×GS) :=
  match op with
  | .alloc t=>mAlloc P t G
  | .box _ x=>some (.pointer (some ⟨G.nx,0,none⟩),newBlk G (ev T x).cells.toList 1)
  | .buildSlice t len parts=>mBuild P T t len parts G
  | .makeSlice t l c=>mMake P t (ev T l) (ev T c) G
  | _=>none
theorem gMakeF_eq:gMakeF P=gMake P:=by
  funext T op G
  cases op<;>rfl
def wStore (t:TypeId) (a x:Value) (G:GS):Option (Value×GS):=match gStore P t a x G with | some G' =>some (undef,G') | none=>none
def wCall (T:List Value) (c:Call) (G:GS):Option (Value×GS):=match c.callee,c.argTypes[0]?,c.argTypes[1]?,c.args.toList with
    | .builtin .append,some ts,some tx,[s,x]=>gAppend P ts tx (ev T s) (ev T x) G
    | .builtin .copy,some td,_,[d,s]=>gCopy P td (ev T d) (ev T s) G
    | _,_,_,_=>none
def GS.newMap (G:GS):GS:=G.pushLoop ⟨.done,none,[],[],.skip,.skip⟩
def wMap (r:Option Operand) (G:GS):Option (Value×GS):=match r with
  | none=>some (.map (some G.nl),G.newMap)
  | _=>none
def wLook (t:TypeId) (x k:Value) (ok:Bool) (G:GS):Option (Value×GS):=match gLookup P t x k ok G with | some v=>some (v,G) | none=>none
def wPut (t:TypeId) (m k v:Value) (G:GS):Option (Value×GS):=match gMapPut P t m k v G with | some G' =>some (undef,G') | none=>none
def gWriteF (T:List Value) (op:Op) (G:GS):Option (Value×GS) :=
  match op with
  | .makeMap _ r=>wMap r G
  | .lookup t x i ok=>wLook P t (ev T x) (ev T i) ok G
  | .mapUpdate t m k v=>wPut P t (ev T m) (ev T k) (ev T v) G
  | .store t a x=>wStore P t (ev T a) (ev T x) G
  | .call c=>wCall P T c G
  | _=>none
theorem gWriteF_eq:gWriteF P=gWrite P:=by
  funext T op G
  cases op with
  | makeMap t r=>cases r<;>rfl
  | _=>rfl
end
section
variable (P:Program) (E:Ev)
def cValue (f : Value) (args : List Value) (G : GS) : Option (Value × GS) := match f with
      | .func (.func g) a b=>E.cl g (a.toList++args++b.toList) G
      | .func (.yield l) a _=>if a.toList.isEmpty then E.rd l args G else none
      | _=>none
def cInvoke (r : Value) (name : String) (args : List Value) (G : GS) : Option (Value × GS) := match r with
      | .iface t v=>match gMethod P t name with
        | some g=>E.cl g (v::args) G
        | none=>none
      | _=>none
def cCall (T:List Value) (c:Call) (G:GS):Option (Value×GS):=match c.callee with
    | .value f=>cValue E (ev T f) (c.args.toList.map (ev T)) G
    | .invoke r name=>cInvoke P E (ev T r) name (c.args.toList.map (ev T)) G
    | _=>none
def gCallF (T:List Value) (op:Op) (G:GS):Option (Value×GS) :=
  match op with
  | .call c=>cCall P E T c G
  | _=>none
theorem gCallF_eq:gCallF P E=gCall P E:=by
  funext T op G
  cases op<;>rfl
def retV (G:GS) (v:Option Value):Option (Value×GS):=match v with | some v=>some (v,G) | none=>none
def wOr (T:List Value) (op:Op) (G:GS):Option (Value×GS):=match gWriteF P T op G with | some r=>some r | none=>gCallF P E T op G
def opCls (c:Nat) (T:List Value) (G:GS) (op:Op):Option (Value×GS) :=
  match c with
  | 0=>retV G (gPureF P T op)
  | 1=>retV G (gReadF P T op G)
  | 2=>gMakeF P T op G
  | _=>wOr P E T op G
def opStepF (T:List Value) (G:GS) (op:Op):Option (Value×GS):=if opOk op then opCls P E (cls op) T G op else none
theorem opStepF_eq:opStepF P E=opStep P E:=by
  funext T G op
  unfold opStepF opStep opCls retV wOr
  rw [gPureF_eq,gReadF_eq,gMakeF_eq,gWriteF_eq,gCallF_eq]
  cases opOk op<;>rfl
def seqOpsF (ops:Array Oper):List Oper→List Value→GS→Option (List Value×GS)
  | [],T,G=>some (T,G)
  | o::r,T,G =>
    if gWanted ops T o then
      match opStepF P E T G o.op with
      | some (v,G')=>seqOpsF ops r (putT T o.dst v) G'
      | none=>none
    else seqOpsF ops r (putT T o.dst undef) G
theorem seqOpsF_eq (ops:Array Oper):seqOpsF P E ops=seqOps P E ops:=by
  funext l
  induction l with
  | nil=>rfl
  | cons o r ih =>
    funext T G
    simp only [seqOpsF,seqOps,opStepF_eq,ih]
    rfl
abbrev DS:=List Value×GS×List (Nat×GS)×List Pend
def d0 (d:Option Tmp) (T:List Value) (G:GS) (hist:List (Nat×GS)) (pend:List Pend) (v:Option Value):Option DS :=
  match v with | some v=>some (putT T d v,G,hist,pend) | none=>none
def d1 (m i:Nat) (op:Op) (d:Option Tmp) (T:List Value) (G:GS) (hist:List (Nat×GS)) (pend:List Pend) (v:Option Value):Option DS :=
  match v with
  | some v=>if hist.all (fun h=>m.testBit h.1||sameO (gReadF P T op h.2) v) then some (putT T d v,G,hist,⟨i,T,op,v⟩::pend) else none
  | none=>none
def d2 (nx:Nat) (d:Option Tmp) (T:List Value) (hist:List (Nat×GS)) (pend:List Pend) (r:Option (Value×GS)):Option DS :=
  match r with | some (v,G')=>some (putT T d v,{ G' with nx:=nx },hist,pend) | none=>none
def d3 (m i:Nat) (d:Option Tmp) (T:List Value) (G:GS) (hist:List (Nat×GS)) (pend:List Pend) (r:Option (Value×GS)):Option DS :=
  match r with
  | some (v,G')=>if pend.all (fun p=>m.testBit p.i||sameO (gReadF P p.T p.op G') p.v) then some (putT T d v,G',(i,G)::hist,pend) else none
  | none=>none
def dCls (ms:List Nat) (base i:Nat) (op:Op) (d:Option Tmp) (T:List Value) (G:GS) (hist:List (Nat×GS)) (pend:List Pend) (c:Nat):Option DS :=
  match c with
  | 0=>d0 d T G hist pend (gPureF P T op)
  | 1=>d1 P (nth 0 ms i) i op d T G hist pend (gReadF P T op G)
  | 2=>d2 G.nx d T hist pend (gMakeF P T op { G with nx:=base+i })
  | _=>d3 P (nth 0 ms i) i d T G hist pend (wOr P E T op G)
def dStep (ops:Array Oper) (ms:List Nat) (base i:Nat) (o:Oper) (T:List Value) (G:GS) (hist:List (Nat×GS)) (pend:List Pend):Option DS :=
  if gWanted ops T o then (if opOk o.op then dCls P E ms base i o.op o.dst T G hist pend (cls o.op) else none) else some (putT T o.dst undef,G,hist,pend)
def drawOpsF (ops:Array Oper) (ms:List Nat) (base:Nat):Nat→List Oper→List Value→GS→List (Nat×GS)→List Pend→Option (List Value×GS)
  | _,[],T,G,_,_=>some (T,G)
  | i,o::r,T,G,hist,pend=>match dStep P E ops ms base i o T G hist pend with
    | some (T',G',h',p')=>drawOpsF ops ms base (i+1) r T' G' h' p'
    | none=>none
theorem d1_eq {K:List Value→GS→List (Nat×GS)→List Pend→Option (List Value×GS)} (m i:Nat) (op:Op) (d:Option Tmp) (T:List Value) (G:GS) (hist:List (Nat×GS)) (pend:List Pend) (r:Option Value) :
    (match d1 P m i op d T G hist pend r with | some (T',G',h',p')=>K T' G' h' p' | none=>none) =
    (match r with
      | some v=>if hist.all (fun h=>m.testBit h.1||sameO (gReadF P T op h.2) v) then K (putT T d v) G hist (⟨i,T,op,v⟩::pend) else none
      | none=>none):=by
  unfold d1
  cases r with
  | none=>rfl
  | some v =>
    simp only []
    by_cases h:hist.all (fun h=>m.testBit h.1||sameO (gReadF P T op h.2) v)=true
    · rw [if_pos h,if_pos h]
    · rw [if_neg h,if_neg h]
theorem d3_eq {K:List Value→GS→List (Nat×GS)→List Pend→Option (List Value×GS)} (m i:Nat) (d:Option Tmp) (T:List Value) (G:GS) (hist:List (Nat×GS)) (pend:List Pend) (r:Option (Value×GS)) :
    (match d3 P m i d T G hist pend r with | some (T',G',h',p')=>K T' G' h' p' | none=>none) =
    (match r with
      | some (v,G')=>if pend.all (fun p=>m.testBit p.i||sameO (gReadF P p.T p.op G') p.v) then K (putT T d v) G' ((i,G)::hist) pend else none
      | none=>none):=by
  unfold d3
  cases r with
  | none=>rfl
  | some r =>
    obtain ⟨v,G'⟩:=r
    simp only []
    by_cases h:pend.all (fun p=>m.testBit p.i||sameO (gReadF P p.T p.op G') p.v)=true
    · rw [if_pos h,if_pos h]
    · rw [if_neg h,if_neg h]
theorem drawOpsF_eq (ops:Array Oper) (ms:List Nat) (base:Nat):∀ (l:List Oper) (i:Nat) (T:List Value) (G:GS) (hist:List (Nat×GS)) (pend:List Pend),drawOpsF P E ops ms base i l T G hist pend=drawOps P E ops ms base i l T G hist pend
  | [],i,T,G,hist,pend=>rfl
  | o::r,i,T,G,hist,pend=>by
    have ih:=drawOpsF_eq ops ms base r
    simp only [drawOpsF,drawOps,dStep]
    by_cases hw:gWanted ops T o=true
    · rw [if_pos hw,if_pos hw]
      cases hk:opOk o.op with
      | false=>rfl
      | true =>
        simp only [if_true,Bool.not_true,Bool.false_eq_true,if_false]
        unfold dCls
        generalize hc:cls o.op=c
        match c with
        | 0 =>
          simp only [d0,gPureF_eq]
          cases gPure P T o.op<;>simp [ih]
        | 1 =>
          refine (d1_eq P (K:=fun T' G' h' p' =>drawOpsF P E ops ms base (i+1) r T' G' h' p') (nth 0 ms i) i o.op o.dst T G hist pend (gReadF P T o.op G)).trans ?_
          simp only [gReadF_eq]
          cases gRead P T o.op G with
          | none=>rfl
          | some v=>simp only [ih]
        | 2 =>
          simp only [d2,gMakeF_eq]
          cases gMake P T o.op { G with nx:=base+i }<;>simp [ih]
        | n+3 =>
          refine (d3_eq P (K:=fun T' G' h' p' =>drawOpsF P E ops ms base (i+1) r T' G' h' p') (nth 0 ms i) i o.dst T G hist pend (wOr P E T o.op G)).trans ?_
          simp only [wOr,gReadF_eq,gWriteF_eq,gCallF_eq]
          cases gWrite P T o.op G with
          | some r=>simp only [ih]
          | none=>cases gCall P E T o.op G with
            | some r=>simp only [ih]
            | none=>rfl
    · rw [if_neg hw,if_neg hw]
      exact ih _ _ _ _ _
def xSeq (b:Code) (r:Option (Exit×List Value×GS)):Option (Exit×List Value×GS):=match r with
    | some (.normal,T',G')=>E.ex b T' G'
    | r=>r
def xIf (v:Value) (a b:Code) (T:List Value) (G:GS):Option (Exit×List Value×GS):=match v with
    | .bool true=>E.ex a T G
    | .bool false=>E.ex b T G
    | _=>none
def xBlock (id:Nat) (r:Option (Exit×List Value×GS)):Option (Exit×List Value×GS):=match r with
    | some (.exit id',T',G')=>if id' =id then some (.normal,T',G') else some (.exit id',T',G')
    | r=>r
def xNorm (r:Option (List Value×GS)):Option (Exit×List Value×GS):=match r with
    | some (T',G')=>some (.normal,T',G')
    | none=>none
def xDraw (ops:Array Oper) (T:List Value) (G:GS):Option (Exit×List Value×GS) :=
  if dOk ops then xNorm (drawOpsF P E ops (masks ops.toList []) G.nx 0 ops.toList T { G with nx:=G.nx+ops.size } [] []) else none
def xSeqOps (ops:Array Oper) (T:List Value) (G:GS):Option (Exit×List Value×GS):=xNorm (seqOpsF P E ops ops.toList T G)
def xRangeEnd (nl : Nat) (T : List Value) (r : Option (Value × GS)) : Option (Exit × List Value × GS) := match r with
      | some (_,G2)=>match G2.loop nl with
        | some r=>if r.st= .busy then none else match jumpOf r.pend with
          | some e=>some (e,T,G2.putLoop nl { r with st:= .exhausted })
          | none=>none
        | none=>none
      | none=>none
def xRange (v:Value) (ps:Array Nat) (assign body:Code) (T:List Value) (G:GS):Option (Exit×List Value×GS):=match v with
    | .func (.func g) a b=>xRangeEnd G.nl T (E.cl g (a.toList++[.func (.yield G.nl) #[] #[]]++b.toList) (G.pushLoop ⟨.ready,none,T,ps.toList,assign,body⟩))
    | _=>none
def stepExF (c:Code) (T:List Value) (G:GS):Option (Exit×List Value×GS) :=
  match c with
  | .skip=>some (.normal,T,G)
  | .label _=>some (.normal,T,G)
  | .seq a b=>xSeq E b (E.ex a T G)
  | .cond x a b=>if okX x then xIf E (ev T x) a b T G else none
  | .block id b=>xBlock id (E.ex b T G)
  | .loop b=>E.lp b T G
  | .exit id=>some (.exit id,T,G)
  | .goto l=>some (.goto l,T,G)
  | .ret=>some (.ret,T,G)
  | .scope b=>E.sc b b T G
  | .region _ ops draw=>if draw then xDraw P E ops T G else xSeqOps P E ops T G
  | .rangeFunc f ps assign body=>if okX f then xRange E (ev T f) ps assign body T G else none
  | .refuse _=>none
theorem stepExF_eq:stepExF P E=stepEx P E:=by
  funext c T G
  cases c with
  | seq a b=>rfl
  | cond x a b =>
    simp only [stepExF,stepEx,xIf]
    cases okX x<;>rfl
  | block id b=>rfl
  | region id ops draw =>
    simp only [stepExF,stepEx,xDraw,xSeqOps,xNorm,drawOpsF_eq,seqOpsF_eq]
    cases draw<;>rfl
  | rangeFunc f ps assign body =>
    simp only [stepExF,stepEx,xRange,xRangeEnd]
    cases okX f<;>rfl
  | _=>rfl
def Ev.nextF:Ev:=⟨stepExF P E,stepCl P E,stepRd E,stepSc E,stepLp E⟩
theorem Ev.nextF_eq:E.nextF P=E.next P:=by
  unfold Ev.nextF Ev.next
  rw [stepExF_eq]
end
end
end Go.Proofs.YtlaojmcekeohnaaGreatDoor.Gh
