import Derived.Test.YtphandknhnkhfaaGreatGhA
import Derived.Orders
namespace Go.Proofs.YtphandknhnkhfaaGreat.Gh
open Go
noncomputable section
def cm:Nat→Value→Value→Bool
  | 0,_,_=>false
  | n+1,v,u=>match v,u with
    | .bool a,.bool b=>a==b
    | .int k a,.int l b=>k==l&&a==b
    | .pointer a,.pointer b=>a==b
    | .slice a m c,.slice b n d=>a==b&&m==n&&c==d
    | .map a,.map b=>a==b
    | .nilFunc,.nilFunc=>true
    | .nilIface,.nilIface=>true
    | .func f a b,.func g c d=>f==g&&lf n a.toList c.toList&&lf n b.toList d.toList
    | .iface t a,.iface s b=>t==s&&cm n a b
    | .agg a,.agg b=>lf n a.toList b.toList
    | .tuple a,.tuple b=>lf n a.toList b.toList
    | _,_=>false
  where lf (n:Nat):List Value→List Value→Bool
  | [],[]=>true
  | x::xs,y::ys=>cm n x y&&lf n xs ys
  | _,_=>false
def same (v u:Value):Bool:=cm 4 v u
def br (v:Option Value) (u:Value):Bool:=match v with | some v=>same v u | none=>false
def nR (l:List Value) (n:Nat) (v:Value):List Value :=
  List.rec (motive:=fun _=>Nat→List Value) (fun _=>[]) (fun x xs ih n=>Nat.casesOn (motive:=fun _=>List Value) n (v::xs) (fun m=>x::ih m)) l n
theorem Fz (n:Nat) (v:Value):nR [] n v=[]:=rfl
theorem FA (x:Value) (l:List Value) (v:Value):nR (x::l) 0 v=v::l:=rfl
theorem FC (x:Value) (l:List Value) (n:Nat) (v:Value):nR (x::l) (n+1) v=x::nR l n v:=rfl
def bf (T:List Value) (d:Option Tmp) (v:Value):List Value:=match d with | some t=>nR T t v | none=>T
def cls (op:Op):Nat :=
  match op with
  | .load _ _ | .slice ..=>1
  | .alloc _ | .box _ _ | .buildSlice .. | .makeSlice ..=>2
  | .store ..=>3
  | .makeMap ..=>3
  | .lookup ..=>3
  | .mapUpdate ..=>3
  | .call c=>match c.callee with
    | .builtin .len=>0
    | .builtin .min=>0
    | .builtin .max=>0
    | _=>3
  | _=>0
def vT (ops:Array Oper) (T:List Value) (j:Nat):Option Bool :=
  match ops[j]? with
  | some o=>match o.dst with
    | some d=>match nth undef T d with | .bool b=>some b | _=>none
    | none=>none
  | none=>none
def dD (ops:Array Oper) (T:List Value) (o:Oper):Bool :=
  match o.guard with
  | none=>true
  | some (j,want)=>vT ops T j==some want
structure Ev where
  ex:Code→List Value→GS→Option (Exit×List Value×GS)
  cl:FuncId→List Value→GS→Option (Value×GS)
  rd:Nat→List Value→GS→Option (Value×GS)
  sc:Code→Code→List Value→GS→Option (Exit×List Value×GS)
  lp:Code→List Value→GS→Option (Exit×List Value×GS)
section
variable (P:Program) (E:Ev)
def Aa (t:TypeId) (name:String):Option FuncId :=
  match P.info? t with
  | some i=>match i.methods.find? (fun m=>m.name==name) with
    | some m=>if m.path.isEmpty then (match m.func,P.underlying t with
      | some (f,true),some (.pointer _)=>some f
      | some (_,false),some (.pointer _)=>none
      | some (f,false),some _=>some f
      | _,_=>none) else none
    | none=>none
  | none=>none
def rn (T:List Value) (op:Op) (G:GS):Option (Value×GS) :=
  match op with
  | .call c=>match c.callee with
    | .value f=>match ev T f with
      | .func (.func g) a b=>E.cl g (a.toList++c.args.toList.map (ev T)++b.toList) G
      | .func (.yield l) a _=>if a.toList.isEmpty then E.rd l (c.args.toList.map (ev T)) G else none
      | _=>none
    | .invoke r name=>match ev T r with
      | .iface t v=>match Aa P t name with
        | some g=>E.cl g (v::c.args.toList.map (ev T)) G
        | none=>none
      | _=>none
    | _=>none
  | _=>none
def jg (T:List Value) (G:GS) (op:Op):Option (Value×GS) :=
  if !(dW op) then none else
  match cls op with
  | 0=>match nP P T op with | some v=>some (v,G) | none=>none
  | 1=>match fQ P T op G with | some v=>some (v,G) | none=>none
  | 2=>lX P T op G
  | _=>match rj P T op G with | some r=>some r | none=>rn P E T op G
def uB (ops:Array Oper):List Oper→List Value→GS→Option (List Value×GS)
  | [],T,G=>some (T,G)
  | o::r,T,G =>
    if dD ops T o then
      match jg P E T G o.op with
      | some (v,G')=>uB ops r (bf T o.dst v) G'
      | none=>none
    else uB ops r (bf T o.dst undef) G
def qg (acc:List Nat) (l:List Edge):Nat :=
  match l with
  | []=>0
  | e::r=>if Region.binds .any e then (2 ^ e.on ||| nth 0 acc e.on) ||| qg acc r else qg acc r
def masks:List Oper→List Nat→List Nat
  | [],acc=>acc
  | o::r,acc=>masks r (acc++[qg acc o.after.toList])
def Cz (ops:Array Oper) (m:Nat) (j:Oper):Nat→List Oper→Bool
  | _,[]=>true
  | i,o::r=>(m.testBit i||(o.apart ops j&& !(cls o.op==3&&cls j.op==3)))&&Cz ops m j (i+1) r
def CA (ops:Array Oper) (ms:List Nat):List Oper→List Oper→Bool
  | _,[]=>true
  | done,o::r=>o.after.toList.all (fun e=>!Region.binds .any e||decide (e.on<done.length))&&Cz ops (nth 0 ms done.length) o 0 done&&CA ops ms (done++[o]) r
def uC (ops:Array Oper):Bool:=CA ops (masks ops.toList []) [] ops.toList
structure fu where
  i:Nat
  T:List Value
  op:Op
  v:Value
def mR (ops:Array Oper) (ms:List Nat) (base:Nat):Nat→List Oper→List Value→GS→List (Nat×GS)→List fu→Option (List Value×GS)
  | _,[],T,G,_,_=>some (T,G)
  | i,o::r,T,G,aM,aF =>
    if dD ops T o then
      if !(dW o.op) then none else
      match cls o.op with
      | 0=>match nP P T o.op with
        | some v=>mR ops ms base (i+1) r (bf T o.dst v) G aM aF
        | none=>none
      | 1=>match fQ P T o.op G with
        | some v =>
          if aM.all (fun h=>(nth 0 ms i).testBit h.1||br (fQ P T o.op h.2) v) then
            mR ops ms base (i+1) r (bf T o.dst v) G aM (⟨i,T,o.op,v⟩::aF)
          else none
        | none=>none
      | 2=>match lX P T o.op { G with nx:=base+i } with
        | some (v,G')=>mR ops ms base (i+1) r (bf T o.dst v) { G' with nx:=G.nx } aM aF
        | none=>none
      | _=>match (match rj P T o.op G with | some r=>some r | none=>rn P E T o.op G) with
        | some (v,G') =>
          if aF.all (fun p=>(nth 0 ms i).testBit p.i||br (fQ P p.T p.op G') p.v) then
            mR ops ms base (i+1) r (bf T o.dst v) G' ((i,G)::aM) aF
          else none
        | none=>none
    else mR ops ms base (i+1) r (bf T o.dst undef) G aM aF
def lZ:List Nat→List Value→List Value→List Value
  | p::ps,v::vs,T=>lZ ps vs (nR T p v)
  | _,_,T=>T
def CB:Option Code→Option Exit
  | none=>some .normal
  | some .ret=>some .ret
  | some (.exit id)=>some (.exit id)
  | some (.goto l)=>some (.goto l)
  | _=>none
def vU:Exit→Option (Option Code)
  | .normal=>some none
  | .ret=>some (some .ret)
  | .exit id=>some (some (.exit id))
  | .goto l=>some (some (.goto l))
  | _=>none
def jh (c:Code) (T:List Value) (G:GS):Option (Exit×List Value×GS) :=
  match c with
  | .skip=>some (.normal,T,G)
  | .label _=>some (.normal,T,G)
  | .seq a b=>match E.ex a T G with
    | some (.normal,T',G')=>E.ex b T' G'
    | r=>r
  | .cond x a b=>if !(dm x) then none else match ev T x with
    | .bool true=>E.ex a T G
    | .bool false=>E.ex b T G
    | _=>none
  | .block id b=>match E.ex b T G with
    | some (.exit gT,T',G')=>if gT =id then some (.normal,T',G') else some (.exit gT,T',G')
    | r=>r
  | .loop b=>E.lp b T G
  | .exit id=>some (.exit id,T,G)
  | .goto l=>some (.goto l,T,G)
  | .ret=>some (.ret,T,G)
  | .scope b=>E.sc b b T G
  | .region _ ops draw =>
    if draw then
      if uC ops then
        match mR P E ops (masks ops.toList []) G.nx 0 ops.toList T { G with nx:=G.nx+ops.size } [] [] with
        | some (T',G')=>some (.normal,T',G')
        | none=>none
      else none
    else match uB P E ops ops.toList T G with
      | some (T',G')=>some (.normal,T',G')
      | none=>none
  | .rangeFunc f ps assign body=>if !(dm f) then none else match ev T f with
    | .func (.func g) a b =>
      match E.cl g (a.toList++[.func (.yield G.nl) #[] #[]]++b.toList) (G.fD ⟨.ready,none,T,ps.toList,assign,body⟩) with
      | some (_,G2)=>match G2.loop G.nl with
        | some r=>if r.st= .busy then none else match CB r.aF with
          | some e=>some (e,T,G2.cC G.nl { r with st:=.exhausted })
          | none=>none
        | none=>none
      | none=>none
    | _=>none
  | .refuse _=>none
def oX (body cur:Code) (T:List Value) (G:GS):Option (Exit×List Value×GS) :=
  match E.ex cur T G with
  | some (.goto l,T',G')=>match findLabel body l with
    | some rest=>E.sc body rest T' G'
    | none=>some (.goto l,T',G')
  | r=>r
def oY (body:Code) (T:List Value) (G:GS):Option (Exit×List Value×GS) :=
  match E.ex body T G with
  | some (.normal,T',G')=>E.lp body T' G'
  | r=>r
def ma (T:List Value) (G:GS):List ResultVar→Option (List Value)
  | []=>some []
  | .tmp t::r=>match ma T G r with | some l=>some (nth undef T t::l) | none=>none
  | .cell a t::r=>match rh P t (nth undef T a) G,ma T G r with | some v,some l=>some (v::l) | _,_=>none
def uD:List Value→Value
  | [v]=>v
  | l=>.tuple ⟨l⟩
def rq:Exit→Bool
  | .normal=>true
  | .ret=>true
  | _=>false
def rr (f:FuncId) (vs:List Value) (G:GS):Option (Value×GS) :=
  match P.funcs[f]? with
  | some fn=>if fn.name == "runtime.NumGoroutine" then none else match fn.body with
    | some c=>match E.ex c (vs++List.replicate (fn.ntmps - vs.length) undef) G with
      | some (e,T',G') =>
        if rq e then
          match ma P T' G' fn.results.toList with
          | some l=>some (uD l,G')
          | none=>none
        else none
      | none=>none
    | none=>none
  | none=>none
def sK (l:Nat) (vs:List Value) (G:GS):Option (Value×GS) :=
  match G.loop l with
  | some r=>if r.params.length=vs.length then
      match E.ex r.assign (lZ r.params vs r.tmps) G with
      | some (.normal,T1,G1)=>match G1.loop l with
        | some r1=>if r1.st= .ready then
            match E.ex r.body T1 (G1.cC l { r1 with st:=.busy }) with
            | some (e,_,G2)=>match vU e,G2.loop l with
              | some j,some r2=>some (.bool j.isNone,G2.cC l { r2 with st:=if j.isNone then .ready else .done,aF:=j })
              | _,_=>none
            | none=>none
          else none
        | none=>none
      | _=>none
    else none
  | none=>none
def Ev.next:Ev:=⟨jh P E,rr P E,sK E,oX E,oY E⟩
end
def Ev.zero:Ev:=⟨fun _ _ _=>none,fun _ _ _=>none,fun _ _ _=>none,fun _ _ _ _=>none,fun _ _ _=>none⟩
def GS.empty:GS:=⟨[],0,[],0⟩
end
end Go.Proofs.YtphandknhnkhfaaGreat.Gh
