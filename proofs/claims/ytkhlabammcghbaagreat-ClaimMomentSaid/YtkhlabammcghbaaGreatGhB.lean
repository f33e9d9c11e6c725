import Derived.Test.YtkhlabammcghbaaGreatGhA
import Derived.Orders
namespace Go.Proofs.YtkhlabammcghbaaGreat.Gh
open Go
noncomputable section
def dh:Nat→Value→Value→Bool
  | 0,_,_=>false
  | n+1,v,u=>match v,u with
    | .bool a,.bool b=>a==b
    | .int k a,.int l b=>k==l&&a==b
    | .pointer a,.pointer b=>a==b
    | .slice a m c,.slice b n d=>a==b&&m==n&&c==d
    | .map a,.map b=>a==b
    | .nilFunc,.nilFunc=>true
    | .nilIface,.nilIface=>true
    | .func f a b,.func g c d=>f==g&&mU n a.toList c.toList&&mU n b.toList d.toList
    | .iface t a,.iface s b=>t==s&&dh n a b
    | .agg a,.agg b=>mU n a.toList b.toList
    | .tuple a,.tuple b=>mU n a.toList b.toList
    | _,_=>false
  where mU (n:Nat):List Value→List Value→Bool
  | [],[]=>true
  | x::xs,y::ys=>dh n x y&&mU n xs ys
  | _,_=>false
def same (v u:Value):Bool:=dh 4 v u
def bp (v:Option Value) (u:Value):Bool:=match v with | some v=>same v u | none=>false
def nP (l:List Value) (n:Nat) (v:Value):List Value :=
  List.rec (motive:=fun _=>Nat→List Value) (fun _=>[]) (fun x xs ih n=>Nat.casesOn (motive:=fun _=>List Value) n (v::xs) (fun m=>x::ih m)) l n
theorem GM (n:Nat) (v:Value):nP [] n v=[]:=rfl
theorem GN (x:Value) (l:List Value) (v:Value):nP (x::l) 0 v=v::l:=rfl
theorem GO (x:Value) (l:List Value) (n:Nat) (v:Value):nP (x::l) (n+1) v=x::nP l n v:=rfl
def aW (T:List Value) (d:Option Tmp) (v:Value):List Value:=match d with | some t=>nP T t v | none=>T
def cls (op:Op):Nat :=
  match op with
  | .load _ _ | .slice ..=>1
  | .alloc _ | .box _ _ | .buildSlice .. | .makeSlice ..=>2
  | .store ..=>3
  | .makeMap ..=>3
  | .lookup ..=>3
  | .mapUpdate ..=>3
  | .call c=>match c.callee with
    | .builtin .len=>0
    | .builtin .min=>0
    | .builtin .max=>0
    | _=>3
  | _=>0
def wk (ops:Array Oper) (T:List Value) (j:Nat):Option Bool :=
  match ops[j]? with
  | some o=>match o.dst with
    | some d=>match nth undef T d with | .bool b=>some b | _=>none
    | none=>none
  | none=>none
def dx (ops:Array Oper) (T:List Value) (o:Oper):Bool :=
  match o.guard with
  | none=>true
  | some (j,want)=>wk ops T j==some want
structure Ev where
  ex:Code→List Value→GS→Option (Exit×List Value×GS)
  cl:FuncId→List Value→GS→Option (Value×GS)
  rd:Nat→List Value→GS→Option (Value×GS)
  sc:Code→Code→List Value→GS→Option (Exit×List Value×GS)
  lp:Code→List Value→GS→Option (Exit×List Value×GS)
section
variable (P:Program) (E:Ev)
def AE (t:TypeId) (name:String):Option FuncId :=
  match P.info? t with
  | some i=>match i.methods.find? (fun m=>m.name==name) with
    | some m=>if m.path.isEmpty then (match m.func,P.underlying t with
      | some (f,true),some (.pointer _)=>some f
      | some (_,false),some (.pointer _)=>none
      | some (f,false),some _=>some f
      | _,_=>none) else none
    | none=>none
  | none=>none
def rJ (T:List Value) (op:Op) (G:GS):Option (Value×GS) :=
  match op with
  | .call c=>match c.callee with
    | .value f=>match ev T f with
      | .func (.func g) a b=>E.cl g (a.toList++c.args.toList.map (ev T)++b.toList) G
      | .func (.yield l) a _=>if a.toList.isEmpty then E.rd l (c.args.toList.map (ev T)) G else none
      | _=>none
    | .invoke r name=>match ev T r with
      | .iface t v=>match AE P t name with
        | some g=>E.cl g (v::c.args.toList.map (ev T)) G
        | none=>none
      | _=>none
    | _=>none
  | _=>none
def iV (T:List Value) (G:GS) (op:Op):Option (Value×GS) :=
  if !(dL op) then none else
  match cls op with
  | 0=>match nO P T op with | some v=>some (v,G) | none=>none
  | 1=>match fD P T op G with | some v=>some (v,G) | none=>none
  | 2=>lQ P T op G
  | _=>match rI P T op G with | some r=>some r | none=>rJ P E T op G
def uN (ops:Array Oper):List Oper→List Value→GS→Option (List Value×GS)
  | [],T,G=>some (T,G)
  | o::r,T,G =>
    if dx ops T o then
      match iV P E T G o.op with
      | some (v,G')=>uN ops r (aW T o.dst v) G'
      | none=>none
    else uN ops r (aW T o.dst undef) G
def qt (acc:List Nat) (l:List Edge):Nat :=
  match l with
  | []=>0
  | e::r=>if Region.binds .any e then (2 ^ e.on ||| nth 0 acc e.on) ||| qt acc r else qt acc r
def masks:List Oper→List Nat→List Nat
  | [],acc=>acc
  | o::r,acc=>masks r (acc++[qt acc o.after.toList])
def Dn (ops:Array Oper) (m:Nat) (j:Oper):Nat→List Oper→Bool
  | _,[]=>true
  | i,o::r=>(m.testBit i||(o.apart ops j&& !(cls o.op==3&&cls j.op==3)))&&Dn ops m j (i+1) r
def Dp (ops:Array Oper) (ms:List Nat):List Oper→List Oper→Bool
  | _,[]=>true
  | done,o::r=>o.after.toList.all (fun e=>!Region.binds .any e||decide (e.on<done.length))&&Dn ops (nth 0 ms done.length) o 0 done&&Dp ops ms (done++[o]) r
def uO (ops:Array Oper):Bool:=Dp ops (masks ops.toList []) [] ops.toList
structure fe where
  i:Nat
  T:List Value
  op:Op
  v:Value
def mV (ops:Array Oper) (ms:List Nat) (base:Nat):Nat→List Oper→List Value→GS→List (Nat×GS)→List fe→Option (List Value×GS)
  | _,[],T,G,_,_=>some (T,G)
  | i,o::r,T,G,aO,aC =>
    if dx ops T o then
      if !(dL o.op) then none else
      match cls o.op with
      | 0=>match nO P T o.op with
        | some v=>mV ops ms base (i+1) r (aW T o.dst v) G aO aC
        | none=>none
      | 1=>match fD P T o.op G with
        | some v =>
          if aO.all (fun h=>(nth 0 ms i).testBit h.1||bp (fD P T o.op h.2) v) then
            mV ops ms base (i+1) r (aW T o.dst v) G aO (⟨i,T,o.op,v⟩::aC)
          else none
        | none=>none
      | 2=>match lQ P T o.op { G with nx:=base+i } with
        | some (v,G')=>mV ops ms base (i+1) r (aW T o.dst v) { G' with nx:=G.nx } aO aC
        | none=>none
      | _=>match (match rI P T o.op G with | some r=>some r | none=>rJ P E T o.op G) with
        | some (v,G') =>
          if aC.all (fun p=>(nth 0 ms i).testBit p.i||bp (fD P p.T p.op G') p.v) then
            mV ops ms base (i+1) r (aW T o.dst v) G' ((i,G)::aO) aC
          else none
        | none=>none
    else mV ops ms base (i+1) r (aW T o.dst undef) G aO aC
def lS:List Nat→List Value→List Value→List Value
  | p::ps,v::vs,T=>lS ps vs (nP T p v)
  | _,_,T=>T
def Dq:Option Code→Option Exit
  | none=>some .normal
  | some .ret=>some .ret
  | some (.exit id)=>some (.exit id)
  | some (.goto l)=>some (.goto l)
  | _=>none
def wo:Exit→Option (Option Code)
  | .normal=>some none
  | .ret=>some (some .ret)
  | .exit id=>some (some (.exit id))
  | .goto l=>some (some (.goto l))
  | _=>none
def iW (c:Code) (T:List Value) (G:GS):Option (Exit×List Value×GS) :=
  match c with
  | .skip=>some (.normal,T,G)
  | .label _=>some (.normal,T,G)
  | .seq a b=>match E.ex a T G with
    | some (.normal,T',G')=>E.ex b T' G'
    | r=>r
  | .cond x a b=>if !(db x) then none else match ev T x with
    | .bool true=>E.ex a T G
    | .bool false=>E.ex b T G
    | _=>none
  | .block id b=>match E.ex b T G with
    | some (.exit gQ,T',G')=>if gQ =id then some (.normal,T',G') else some (.exit gQ,T',G')
    | r=>r
  | .loop b=>E.lp b T G
  | .exit id=>some (.exit id,T,G)
  | .goto l=>some (.goto l,T,G)
  | .ret=>some (.ret,T,G)
  | .scope b=>E.sc b b T G
  | .region _ ops draw =>
    if draw then
      if uO ops then
        match mV P E ops (masks ops.toList []) G.nx 0 ops.toList T { G with nx:=G.nx+ops.size } [] [] with
        | some (T',G')=>some (.normal,T',G')
        | none=>none
      else none
    else match uN P E ops ops.toList T G with
      | some (T',G')=>some (.normal,T',G')
      | none=>none
  | .rangeFunc f ps assign body=>if !(db f) then none else match ev T f with
    | .func (.func g) a b =>
      match E.cl g (a.toList++[.func (.yield G.nl) #[] #[]]++b.toList) (G.dS ⟨.ready,none,T,ps.toList,assign,body⟩) with
      | some (_,G2)=>match G2.loop G.nl with
        | some r=>if r.st= .busy then none else match Dq r.aC with
          | some e=>some (e,T,G2.bR G.nl { r with st:=.exhausted })
          | none=>none
        | none=>none
      | none=>none
    | _=>none
  | .refuse _=>none
def pa (body cur:Code) (T:List Value) (G:GS):Option (Exit×List Value×GS) :=
  match E.ex cur T G with
  | some (.goto l,T',G')=>match findLabel body l with
    | some rest=>E.sc body rest T' G'
    | none=>some (.goto l,T',G')
  | r=>r
def pc (body:Code) (T:List Value) (G:GS):Option (Exit×List Value×GS) :=
  match E.ex body T G with
  | some (.normal,T',G')=>E.lp body T' G'
  | r=>r
def lT (T:List Value) (G:GS):List ResultVar→Option (List Value)
  | []=>some []
  | .tmp t::r=>match lT T G r with | some l=>some (nth undef T t::l) | none=>none
  | .cell a t::r=>match rH P t (nth undef T a) G,lT T G r with | some v,some l=>some (v::l) | _,_=>none
def uP:List Value→Value
  | [v]=>v
  | l=>.tuple ⟨l⟩
def rK:Exit→Bool
  | .normal=>true
  | .ret=>true
  | _=>false
def rL (f:FuncId) (vs:List Value) (G:GS):Option (Value×GS) :=
  match P.funcs[f]? with
  | some fn=>if fn.name == "runtime.NumGoroutine" then none else match fn.body with
    | some c=>match E.ex c (vs++List.replicate (fn.ntmps - vs.length) undef) G with
      | some (e,T',G') =>
        if rK e then
          match lT P T' G' fn.results.toList with
          | some l=>some (uP l,G')
          | none=>none
        else none
      | none=>none
    | none=>none
  | none=>none
def sU (l:Nat) (vs:List Value) (G:GS):Option (Value×GS) :=
  match G.loop l with
  | some r=>if r.params.length=vs.length then
      match E.ex r.assign (lS r.params vs r.tmps) G with
      | some (.normal,T1,G1)=>match G1.loop l with
        | some r1=>if r1.st= .ready then
            match E.ex r.body T1 (G1.bR l { r1 with st:=.busy }) with
            | some (e,_,G2)=>match wo e,G2.loop l with
              | some j,some r2=>some (.bool j.isNone,G2.bR l { r2 with st:=if j.isNone then .ready else .done,aC:=j })
              | _,_=>none
            | none=>none
          else none
        | none=>none
      | _=>none
    else none
  | none=>none
def Ev.next:Ev:=⟨iW P E,rL P E,sU E,pa E,pc E⟩
end
def Ev.zero:Ev:=⟨fun _ _ _=>none,fun _ _ _=>none,fun _ _ _=>none,fun _ _ _ _=>none,fun _ _ _=>none⟩
def GS.empty:GS:=⟨[],0,[],0⟩
end
end Go.Proofs.YtkhlabammcghbaaGreat.Gh
