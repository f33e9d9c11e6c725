import Derived.Calls
import Derived.AtR
import Derived.RangeFuncRecord
import Derived.Below
namespace Go.Proofs.YtkhlabammcghbaaGreat.Gh
open Go
noncomputable section
def nth {α:Type} (d:α) (l:List α):Nat→α :=
  List.rec (motive:=fun _=>Nat→α) (fun _=>d) (fun x _ ih n=>Nat.casesOn (motive:=fun _=>α) n x ih) l
theorem ym {α:Type} (d:α) (n:Nat):nth d [] n=d:=rfl
theorem sP {α:Type} (d x:α) (l:List α):nth d (x::l) 0=x:=rfl
theorem sQ {α:Type} (d x:α) (l:List α) (n:Nat):nth d (x::l) (n+1)=nth d l n:=rfl
def fq {α:Type} (d:α) (f:α→α):List α→Nat→List α
  | [],0=>[f d]
  | x::xs,0=>f x::xs
  | [],n+1=>d::fq d f [] n
  | x::xs,n+1=>x::fq d f xs n
theorem GG {α:Type} (d:α) (f:α→α):∀ (l:List α) (n m:Nat),nth d (fq d f l n) m=if m=n then f (nth d l n) else nth d l m
  | [],0,0=>by simp [fq,ym,sP]
  | [],0,m+1=>by simp [fq,ym,sQ]
  | x::xs,0,0=>by simp [fq,sP]
  | x::xs,0,m+1=>by simp [fq,sQ]
  | [],n+1,0=>by simp [fq,ym,sP]
  | [],n+1,m+1=>by simp [fq,ym,sQ,GG d f [] n m]
  | x::xs,n+1,0=>by simp [fq,sP]
  | x::xs,n+1,m+1=>by simp [fq,sQ,GG d f xs n m]
def Tr (α:Type):Nat→Type
  | 0=>Option α
  | n+1=>Tr α n×Tr α n
def nM {α:Type} {d:Nat} (t:Tr α (d+1)):Tr α d:=Prod.fst (show Tr α d×Tr α d from t)
def nN {α:Type} {d:Nat} (t:Tr α (d+1)):Tr α d:=Prod.snd (show Tr α d×Tr α d from t)
def ql {α:Type} {d:Nat} (l r:Tr α d):Tr α (d+1):=show Tr α d×Tr α d from (l,r)
def GH (α:Type) (d:Nat):Tr α d:=Nat.rec (motive:=fun d=>Tr α d) (none:Option α) (fun _ ih=>ql ih ih) d
def oY {α:Type} (d:Nat):Tr α d→Nat→Option α :=
  Nat.rec (motive:=fun d=>Tr α d→Nat→Option α) (fun t _=>t) (fun _ ih t n=>Nat.casesOn (motive:=fun _=>Option α) (n % 2) (ih (nM t) (n / 2)) (fun _=>ih (nN t) (n / 2))) d
def rD {α:Type} (a:Option α) (d:Nat):Tr α d→Nat→Tr α d :=
  Nat.rec (motive:=fun d=>Tr α d→Nat→Tr α d) (fun _ _=>a) (fun d ih t n=>Nat.casesOn (motive:=fun _=>Tr α (d+1)) (n % 2) (ql (ih (nM t) (n / 2)) (nN t)) (fun _=>ql (nM t) (ih (nN t) (n / 2)))) d
theorem Mp {α:Type} {d:Nat} (l r:Tr α d):nM (ql l r)=l:=rfl
theorem Mq {α:Type} {d:Nat} (l r:Tr α d):nN (ql l r)=r:=rfl
theorem Aw {α:Type} {d:Nat} (t:Tr α (d+1)) {k:Nat} (h:k % 2=0):oY (d+1) t k=oY d (nM t) (k / 2):=by
  show Nat.casesOn (motive:=fun _=>Option α) (k % 2) (oY d (nM t) (k / 2)) (fun _=>oY d (nN t) (k / 2))=_
  rw [h]; rfl
theorem Ax {α:Type} {d:Nat} (t:Tr α (d+1)) {k:Nat} (h:k % 2=1):oY (d+1) t k=oY d (nN t) (k / 2):=by
  show Nat.casesOn (motive:=fun _=>Option α) (k % 2) (oY d (nM t) (k / 2)) (fun _=>oY d (nN t) (k / 2))=_
  rw [h]; rfl
theorem Mr {α:Type} (a:Option α) {d:Nat} (t:Tr α (d+1)) {k:Nat} (h:k % 2=0):rD a (d+1) t k=ql (rD a d (nM t) (k / 2)) (nN t):=by
  show Nat.casesOn (motive:=fun _=>Tr α (d+1)) (k % 2) (ql (rD a d (nM t) (k / 2)) (nN t)) (fun _=>ql (nM t) (rD a d (nN t) (k / 2)))=_
  rw [h]; rfl
theorem Ms {α:Type} (a:Option α) {d:Nat} (t:Tr α (d+1)) {k:Nat} (h:k % 2=1):rD a (d+1) t k=ql (nM t) (rD a d (nN t) (k / 2)):=by
  show Nat.casesOn (motive:=fun _=>Tr α (d+1)) (k % 2) (ql (rD a d (nM t) (k / 2)) (nN t)) (fun _=>ql (nM t) (rD a d (nN t) (k / 2)))=_
  rw [h]; rfl
theorem UN {α:Type} (a:Option α):∀ (d:Nat) (t:Tr α d) (i j:Nat),i<2 ^ d→j<2 ^ d→oY d (rD a d t i) j=if j=i then a else oY d t j:=by
  intro d
  induction d with
  | zero =>
    intro t i j hi hj
    have:j=i:=by omega
    rw [if_pos this]; rfl
  | succ d ih =>
    intro t i j hi hj
    have hp:2 ^ (d+1)=2*2 ^ d:=by rw [Nat.pow_succ]; omega
    have bG:i / 2<2 ^ d:=by omega
    have sR:j / 2<2 ^ d:=by omega
    rcases Nat.mod_two_eq_zero_or_one i with h1 | h1<;>rcases Nat.mod_two_eq_zero_or_one j with h2 | h2
    · rw [Mr a t h1,Aw _ h2,Aw _ h2,Mp,ih _ _ _ bG sR]
      by_cases h:j=i
      · rw [if_pos h,if_pos (by rw [h])]
      · rw [if_neg h,if_neg (by omega)]
    · rw [Mr a t h1,Ax _ h2,Ax _ h2,Mq,if_neg (by omega)]
    · rw [Ms a t h1,Aw _ h2,Aw _ h2,Mp,if_neg (by omega)]
    · rw [Ms a t h1,Ax _ h2,Ax _ h2,Mq,ih _ _ _ bG sR]
      by_cases h:j=i
      · rw [if_pos h,if_pos (by rw [h])]
      · rw [if_neg h,if_neg (by omega)]
theorem UO {α:Type}:∀ (d j:Nat),oY d (GH α d) j=none:=by
  intro d
  induction d with
  | zero=>intro j; rfl
  | succ d ih =>
    intro j
    rcases Nat.mod_two_eq_zero_or_one j with h | h
    · rw [Aw _ h]; exact ih _
    · rw [Ax _ h]; exact ih _
abbrev vY (α:Type):=List (Tr α 9)
def vZ {α:Type} (t:vY α) (i:Nat):Option α:=oY 9 (nth (GH α 9) t (i / 512)) (i % 512)
def sS {α:Type} (t:vY α) (i:Nat) (a:Option α):vY α:=fq (GH α 9) (fun c=>rD a 9 c (i % 512)) t (i / 512)
theorem sT {α:Type} (t:vY α) (i j:Nat) (a:Option α):vZ (sS t i a) j=if j=i then a else vZ t j:=by
  unfold vZ sS
  rw [GG]
  by_cases h:j / 512=i / 512
  · rw [if_pos h,UN a 9 _ _ _ (Nat.mod_lt _ (by omega)) (Nat.mod_lt _ (by omega)),h]
    by_cases h':j % 512=i % 512
    · have:j=i:=by omega
      simp [this]
    · have:j≠i:=fun e=>h' (by rw [e])
      rw [if_neg h',if_neg this]
  · have:j≠i:=fun e=>h (by rw [e])
    rw [if_neg h,if_neg this]
theorem Mt {α:Type} (j:Nat):vZ ([]:vY α) j=none:=UO 9 _
structure bK where
  cells:List Value
  esz:Nat
  opn:Bool
  mode:Nat
structure Lp where
  st:LoopState
  aC:Option Code
  tmps:List Value
  params:List Nat
  assign:Code
  body:Code
structure GS where
  hp:vY bK
  nx:Nat
  lp:vY Lp
  nl:Nat
def GS.obj (G:GS) (g:Nat):Option bK:=vZ G.hp g
def GS.put (G:GS) (g:Nat) (o:bK):GS:={ G with hp:=sS G.hp g (some o) }
def GS.push (G:GS) (o:bK):GS:={ G with hp:=sS G.hp G.nx (some o),nx:=G.nx+1 }
def GS.loop (G:GS) (l:Nat):Option Lp:=vZ G.lp l
def GS.bR (G:GS) (l:Nat) (r:Lp):GS:={ G with lp:=sS G.lp l (some r) }
def GS.dS (G:GS) (r:Lp):GS:={ G with lp:=sS G.lp G.nl (some r),nl:=G.nl+1 }
def oZ:Nat:=4294967296
def Mu:Nat:=1
def Mv:Nat:=0
def Dg:Nat:=Mu+3
def Dh:Nat:=Mv+3
def UQ:List Nat:=[1,10,100,1000,10000,100000,1000000,10000000,100000000,1000000000,10000000000,100000000000,1000000000000,10000000000000,100000000000000,1000000000000000,10000000000000000,100000000000000000,1000000000000000000,10000000000000000000]
def Mw:List Value:=UQ.map fun k=>.int .u64 (Int.ofNat k)
def Mx:List Nat:=[0,1,56,2,57,49,28,3,61,58,42,50,38,29,17,4,62,47,59,36,45,43,51,22,53,39,33,30,24,18,12,5,63,55,48,27,60,41,37,16,46,35,44,21,52,32,23,11,54,26,40,15,34,20,31,10,25,14,19,9,13,8,7,6]
def My:List Value:=Mx.map fun k=>.int .u8 (Int.ofNat k)
def GI (n:Nat):Int:=if Nat.beq n 0=true then 64 else Int.ofNat (nth 0 Mx (((Nat.land n (18446744073709551616 - n))*285870213051353865) % 18446744073709551616 / 288230376151711744))
def yp (G:GS):Bool:=match G.obj 0,G.obj 1 with | some o,some p=>Nat.beq o.mode Dg&&Nat.beq p.mode Dh | _,_=>false
def GJ (vs:List Value) (G:GS):Option (Value×GS):=match vs with
  | [.int .u64 (.ofNat n)]=>if (yp G&&Nat.ble n 18446744073709551615)=true then some (.int .i64 (GI n),G) else none
  | _=>none
def o9:Nat→Value→Bool
  | 0,_=>false
  | n+1,v=>match v with
    | .bool _ | .int _ _ | .string _ | .pointer none | .slice none 0 0 | .nilFunc | .nilIface | .map none=>true
    | .agg cs=>cs.toList.all (o9 n)
    | .tuple cs=>cs.toList.all (o9 n)
    | .iface _ v=>o9 n v
    | _=>false
def plain (v:Value):Bool:=o9 4 v
def prun (P:Program) {α:Type}:Sem α→Option α
  | .pure a=>some a
  | .program k=>prun P (k P)
  | .mark _ k=>prun P k
  | _=>none
theorem GK (P:Program) {α:Type} (s:Sem α) (a:α) (h:prun P s=some a) (w:World):s.run P w= .ok a w:=by
  induction s with
  | pure x=>simp [prun] at h; simp [Sem.run,h]
  | program k ih=>exact ih P h
  | mark m k ih=>exact ih h
  | _=>simp [prun] at h
def kR (P:Program) (s:Sem Value):Option Value:=match prun P s with | some v=>if plain v then some v else none | none=>none
def ev (T:List Value):Operand→Value
  | .tmp t=>nth undef T t
  | .const v=>v
  | .global _=>undef
  | .func f=>.func (.func f) #[] #[]
def db:Operand→Bool
  | .tmp _=>true
  | .const v=>plain v
  | .global _=>false
  | .func _=>true
def Mz (l:List (Nat×Operand)):Bool:=l.all fun p=>db p.2
def Ay (x:Option Operand):Bool:=match x with | some x=>db x | none=>true
def dL (op:Op):Bool :=
  match op with
  | .move x | .assign x | .box _ x | .load _ x | .nilCheck x | .unOp _ _ x | .convert _ _ x | .makeInterface _ x | .fieldAddr _ x _ | .field _ x _ | .extract x _ | .typeAssert x _ _ _=>db x
  | .pick c a b=>db c&&db a&&db b
  | .store _ a v | .binOp _ _ a v _ | .makeSlice _ a v | .indexAddr _ a v | .index _ a v=>db a&&db v
  | .build _ ps | .buildSlice _ _ ps=>Mz ps.toList
  | .makeFunc _ first captured=>first.toList.all db&&captured.toList.all db
  | .slice _ x l h m=>db x&&Ay l&&Ay h&&Ay m
  | .makeMap _ r=>Ay r
  | .lookup _ x i _=>db x&&db i
  | .mapUpdate _ m k v=>db m&&db k&&db v
  | .call c=>(match c.callee with | .value f=>db f | .invoke r _=>db r | .builtin _=>true)&&c.args.toList.all db
  | _=>true
def GL {α:Type} (x:α) (r:Option (List α)):Option (List α):=match r with | some l=>some (x::l) | none=>none
def takeN {α:Type} (n:Nat):List α→Option (List α) :=
  Nat.rec (motive:=fun _=>List α→Option (List α)) (fun _=>some []) (fun _ ih l=>List.casesOn (motive:=fun _=>Option (List α)) l none (fun x xs=>GL x (ih xs))) n
theorem Di {α:Type} (l:List α):takeN 0 l=some []:=rfl
theorem MA {α:Type} (n:Nat):takeN (n+1) ([]:List α)=none:=rfl
theorem MB {α:Type} (n:Nat) (x:α) (xs:List α):takeN (n+1) (x::xs)=match takeN n xs with | some l=>some (x::l) | none=>none:=rfl
def uI {α:Type} (n:Nat):List α→List α :=
  Nat.rec (motive:=fun _=>List α→List α) (fun l=>l) (fun _ ih l=>List.casesOn (motive:=fun _=>List α) l [] (fun _ xs=>ih xs)) n
theorem UR {α:Type} (l:List α):uI 0 l=l:=rfl
theorem US {α:Type} (n:Nat):uI (n+1) ([]:List α)=[]:=rfl
theorem UT {α:Type} (n:Nat) (x:α) (xs:List α):uI (n+1) (x::xs)=uI n xs:=rfl
def mQ {α:Type} (l:List α):Nat→Option α :=
  List.rec (motive:=fun _=>Nat→Option α) (fun _=>none) (fun x _ ih n=>Nat.casesOn (motive:=fun _=>Option α) n (some x) ih) l
theorem UU {α:Type} (n:Nat):mQ ([]:List α) n=none:=rfl
theorem rE {α:Type} (x:α) (xs:List α):mQ (x::xs) 0=some x:=rfl
theorem rF {α:Type} (x:α) (xs:List α) (n:Nat):mQ (x::xs) (n+1)=mQ xs n:=rfl
def splice {α:Type} (l:List α):Nat→List α→Option (List α) :=
  List.rec (motive:=fun _=>Nat→List α→Option (List α))
    (fun n vs=>Nat.casesOn (motive:=fun _=>Option (List α)) n (List.casesOn (motive:=fun _=>Option (List α)) vs (some []) (fun _ _=>none)) (fun _=>none))
    (fun x xs ih n vs=>Nat.casesOn (motive:=fun _=>Option (List α)) n (List.casesOn (motive:=fun _=>Option (List α)) vs (some (x::xs)) (fun v vs=>GL v (ih 0 vs))) (fun m=>GL x (ih m vs))) l
theorem cg {α:Type} (l:List α):splice l 0 []=some l:=by cases l<;>rfl
theorem MC {α:Type} (n:Nat) (vs:List α):splice ([]:List α) (n+1) vs=none:=rfl
theorem MD {α:Type} (v:α) (vs:List α):splice ([]:List α) 0 (v::vs)=none:=rfl
theorem gA {α:Type} (x:α) (xs:List α) (n:Nat) (vs:List α):splice (x::xs) (n+1) vs=match splice xs n vs with | some l=>some (x::l) | none=>none:=rfl
theorem ch {α:Type} (x:α) (xs:List α) (v:α) (vs:List α):splice (x::xs) 0 (v::vs)=match splice xs 0 vs with | some l=>some (v::l) | none=>none:=rfl
def rep {α:Type} (z:List α):Nat→List α
  | 0=>[]
  | n+1=>z++rep z n
def dJ (P:Program) (t:TypeId):Option Nat:=match P.info? t with | some i=>some i.size | none=>none
def Az (P:Program) (t:TypeId):Option Bool:=match P.underlying t with
  | some (.struct _)=>some true
  | some (.array _ _)=>some true
  | some _=>some false
  | none=>none
def mR (P:Program) (t:TypeId):Option (List Value):=match P.info? t with
  | some i=>match i.zero with
    | some z=>if z.cells.size=i.size&&z.cells.toList.all plain then some z.cells.toList else none
    | none=>none
  | none=>none
def zeroV (P:Program) (t:TypeId):Option Value:=match P.info? t with
  | some i=>i.zero
  | none=>none
def Dj (P:Program) (t:TypeId) (x y:Value):Option Bool :=
  match P.underlying t,x,y with
  | some (.pointer _),.pointer (some _),.pointer none=>some false
  | some (.pointer _),.pointer none,.pointer (some _)=>some false
  | some (.slice _),.slice (some _) _ _,.slice none _ _=>some false
  | some (.slice _),.slice none _ _,.slice (some _) _ _=>some false
  | some (.func _ _ _),.func _ _ _,.nilFunc=>some false
  | some (.func _ _ _),.nilFunc,.func _ _ _=>some false
  | some (.interface _),.iface _ _,.nilIface=>some false
  | some (.interface _),.nilIface,.iface _ _=>some false
  | _,_,_=>none
def yq (op:BinOp) (k:IntKind) (m n:Int):Option Value :=
  match op with
  | .add=>some (.int k (k.wrap (m+n)))
  | .sub=>some (.int k (k.wrap (m - n)))
  | .mul=>some (.int k (k.wrap (m*n)))
  | .quo=>if n=0 then none else some (.int k (k.wrap (m.tdiv n)))
  | .rem=>if n=0 then none else some (.int k (m.tmod n))
  | .and=>some (.int k (k.wrap ((BitVec.ofInt k.bits m &&& BitVec.ofInt k.bits n).toNat)))
  | .or=>some (.int k (k.wrap ((BitVec.ofInt k.bits m ||| BitVec.ofInt k.bits n).toNat)))
  | .xor=>some (.int k (k.wrap ((BitVec.ofInt k.bits m ^^^ BitVec.ofInt k.bits n).toNat)))
  | .andNot=>some (.int k (k.wrap ((BitVec.ofInt k.bits m &&& ~~~ BitVec.ofInt k.bits n).toNat)))
  | .eql=>some (.bool (m==n))
  | .neq=>some (.bool (m != n))
  | .lss=>some (.bool (m<n))
  | .leq=>some (.bool (m≤n))
  | .gtr=>some (.bool (m>n))
  | .geq=>some (.bool (m≥n))
  | .shl=>if n<0 then none else some (.int k (k.wrap (m*2 ^ (min n.toNat k.bits))))
  | .shr=>if n<0 then none else some (.int k (m.fdiv (2 ^ (min n.toNat k.bits))))
def wg (op:BinOp):Bool:=match op with | .shl=>true | .shr=>true | _=>false
def uJ (P:Program) (op:BinOp) (t:TypeId) (x y:Operand) (a b:Value):Option Value :=
  if plain a&&plain b then kR P (do eqGuard op t x y a b; binOp op t a b)
  else match op with
    | .eql=>match Dj P t a b with | some r=>some (.bool r) | none=>none
    | .neq=>match Dj P t a b with | some r=>some (.bool (!r)) | none=>none
    | _=>none
def wh (P:Program) (op:BinOp) (t:TypeId) (x y:Operand) (a b:Value):Option Value :=
  match a,b with
  | .int k m,.int k' n=>if k=k' ||wg op then yq op k m n else none
  | a,b=>uJ P op t x y a b
def Dk (P:Program) (t:TypeId) (cs:List Value) (off:Nat):Option Value :=
  match Az P t with
  | some true=>match dJ P t with
    | some s=>match takeN s (uI off cs) with | some l=>some (.agg ⟨l⟩) | none=>none
    | none=>none
  | some false=>mQ cs off
  | none=>none
def lP (P:Program) (t:TypeId) (v:Value) (f:Nat):Option Value :=
  match P.underlying t,v with
  | some (.struct fs),.agg cs=>match fs[f]? with | some d=>Dk P d.type cs.toList d.offset | none=>none
  | _,_=>none
def jS (P:Program) (t:TypeId) (v i:Value):Option Value :=
  match P.underlying t,v,i with
  | some (.array n e),.agg cs,.int _ j=>if 0≤j∧j<n then (match dJ P e with | some s=>Dk P e cs.toList (j.toNat*s) | none=>none) else none
  | some .string,.string s,.int _ j=>if 0≤j then (match s[j.toNat]? with | some b=>some (.int .u8 b.toNat) | none=>none) else none
  | _,_,_=>none
def qm (place:Nat→Option (Nat×Nat)):List Value→List (Nat×Value)→Option (List Value)
  | cells,[]=>some cells
  | cells,(i,v)::rest=>match place i with
    | some (off,size)=>if v.cells.size=size then (match splice cells off v.cells.toList with | some c=>qm place c rest | none=>none) else none
    | none=>none
def Dl (P:Program) (fs:Array Field) (i:Nat):Option (Nat×Nat) :=
  match fs[i]? with
  | some f=>match dJ P f.type with | some s=>some (f.offset,s) | none=>none
  | none=>none
def rG (P:Program) (t:TypeId) (parts:List (Nat×Value)):Option Value :=
  match mR P t with
  | none=>none
  | some z=>match P.underlying t with
    | some (.struct fs) =>
      if fs.toList.all (fun f=>(dJ P f.type).isSome) then (match qm (Dl P fs) z parts with | some c=>some (.agg ⟨c⟩) | none=>none) else none
    | some (.array _ e)=>match dJ P e with
      | some s=>(match qm (fun i=>some (i*s,s)) z parts with | some c=>some (.agg ⟨c⟩) | none=>none)
      | none=>none
    | _=>none
def qn (P:Program) (s:TypeId) (v:Value) (f:Nat):Option Value :=
  match P.underlying s,v with
  | some (.struct fs),.pointer (some a)=>match fs[f]? with
    | some d=>match dJ P d.type with
      | some 0=>none
      | some _=>some (.pointer (some ⟨a.block,a.off+d.offset,none⟩))
      | none=>none
    | none=>none
  | _,_=>none
def jT (P:Program) (t:TypeId) (v i:Value):Option Value :=
  match P.underlying t,v,i with
  | some (.array n e),.pointer (some a),.int _ j =>
    if 0≤j∧j<n then (match dJ P e with | some s=>some (.pointer (some ⟨a.block,a.off+j.toNat*s,none⟩)) | none=>none) else none
  | some (.slice e),.slice (some a) n _,.int _ j =>
    if 0≤j∧j<n then (match dJ P e with | some s=>some (.pointer (some ⟨a.block,a.off+j.toNat*s,none⟩)) | none=>none) else none
  | _,_,_=>none
def mS (P:Program) (t:TypeId) (x:Value):Option Value :=
  match P.underlying t,x with
  | some .string,.string s=>some (.int .i64 s.size)
  | some (.array n _),_=>some (.int .i64 n)
  | some (.pointer a),_=>match P.underlying a with | some (.array n _)=>some (.int .i64 n) | _=>none
  | some (.slice _),.slice _ n _=>some (.int .i64 n)
  | _,_=>none
def Dm (ok:Bool) (v:Value):Option Value:=some (if ok then .tuple #[v,.bool true] else v)
def yr (P:Program) (asserted:TypeId) (ok:Bool):Option Value :=
  if ok then (match zeroV P asserted with | some z=>if plain z then some (.tuple #[z,.bool false]) else none | none=>none) else none
def ME (P:Program) (want:Array (String×TypeId)) (x:Value) (asserted:TypeId) (ok:Bool):Option Value :=
  match x with
  | .nilIface=>yr P asserted ok
  | .iface t v=>match P.info? t with
    | some i=>match Instr.missingMethod want i.methods with
      | none=>Dm ok (.iface t v)
      | some _=>yr P asserted ok
    | none=>none
  | _=>none
def MF (P:Program) (x:Value) (asserted:TypeId) (ok:Bool):Option Value :=
  match x with
  | .nilIface=>yr P asserted ok
  | .iface t v=>if t=asserted then Dm ok v else yr P asserted ok
  | _=>none
def AB (P:Program) (x:Value) (asserted:TypeId) (ok:Bool):Option Value :=
  match P.underlying asserted with
  | none=>none
  | some (.interface want)=>ME P want x asserted ok
  | some _=>MF P x asserted ok
def nO (P:Program) (T:List Value) (op:Op):Option Value :=
  match op with
  | .move x=>some (ev T x)
  | .assign x=>some (ev T x)
  | .pick c a b=>match ev T c with | .bool t=>some (if t then ev T a else ev T b) | _=>none
  | .nilCheck x=>match ev T x with
    | .pointer (some a)=>some (.pointer (some a))
    | .func (.func f) a b=>some (.func (.func f) a b)
    | .func (.yield l) a b=>some (.func (.yield l) a b)
    | .iface t v=>some (.iface t v)
    | _=>none
  | .binOp op t x y _=>wh P op t x y (ev T x) (ev T y)
  | .unOp op _ x=>if plain (ev T x) then kR P (Op.unary op (ev T x)) else none
  | .convert s d x=>if plain (ev T x) then kR P (convert s d (ev T x)) else none
  | .makeInterface t x=>match P.underlying t with
    | some (.interface _)=>none
    | some _=>some (.iface t (ev T x))
    | none=>none
  | .makeFunc (.func f) first captured=>some (.func (.func f) (first.map (ev T)) (captured.map (ev T)))
  | .build t parts=>rG P t (parts.toList.map fun p=>(p.1,ev T p.2))
  | .field t x f=>lP P t (ev T x) f
  | .index t x i=>jS P t (ev T x) (ev T i)
  | .extract x i=>match ev T x with | .tuple vs=>mQ vs.toList i | _=>none
  | .fieldAddr s x f=>qn P s (ev T x) f
  | .indexAddr t x i=>jT P t (ev T x) (ev T i)
  | .typeAssert x _ asserted ok=>AB P (ev T x) asserted ok
  | .call c=>match c.callee with
    | .builtin .len=>match c.argTypes[0]?,c.args.toList with | some t,[x]=>mS P t (ev T x) | _,_=>none
    | .builtin .min=>if (c.args.toList.map (ev T)).all plain then kR P (Builtin.min_ c.argTypes 0 (c.args.map (ev T))) else none
    | .builtin .max=>if (c.args.toList.map (ev T)).all plain then kR P (Builtin.max_ c.argTypes 0 (c.args.map (ev T))) else none
    | _=>none
  | _=>none
def fC (G:GS) (g off n:Nat):Option (List Value) :=
  match G.obj g with
  | some o=>if o.mode=2 then none else takeN n (uI off o.cells)
  | none=>none
def rH (P:Program) (t:TypeId) (v:Value) (G:GS):Option Value :=
  match v with
  | .pointer (some a)=>match Az P t with
    | some true=>match dJ P t with
      | some s=>match fC G a.block a.off s with | some l=>some (.agg ⟨l⟩) | none=>none
      | none=>none
    | some false=>match fC G a.block a.off 1 with | some [x]=>some x | _=>none
    | none=>none
  | _=>none
def bound (v:Option Value) (d y:Nat):Option Nat :=
  match v with
  | none=>some d
  | some (.int _ i)=>if 0≤i∧i≤y then some i.toNat else none
  | _=>none
def iT (P:Program) (t:TypeId) (x:Value) (low high max:Option Value) (G:GS):Option Value :=
  match P.underlying t,x with
  | some (.slice e),.slice none 0 0 =>
    match bound max 0 0 with
    | some m=>match high,max with
      | none,some _=>none
      | _,_=>match bound high 0 m with
        | some h=>match bound low 0 h with
          | some _=>match dJ P e with | some _=>some (.slice none 0 0) | none=>none
          | none=>none
        | none=>none
    | none=>none
  | some (.slice e),.slice (some a) len cap =>
    match dJ P e,G.obj a.block with
    | some s,some o=>if o.opn&&s != o.esz then none else
      match bound max cap cap with
      | some m=>match high,max with
        | none,some _=>none
        | _,_=>match bound high len m with
          | some h=>match bound low 0 h with
            | some l=>if h≤m then some (.slice (some ⟨a.block,a.off+l*s,none⟩) (h - l) (m - l)) else none
            | none=>none
          | none=>none
      | none=>none
    | _,_=>none
  | some (.array n e),.pointer (some a) =>
    match dJ P e with
    | some s =>
      match bound max n n with
      | some m=>match high,max with
        | none,some _=>none
        | _,_=>match bound high n m with
          | some h=>match bound low 0 h with
            | some l=>if h≤m then some (.slice (some ⟨a.block,a.off+l*s,none⟩) (h - l) (m - l)) else none
            | none=>none
          | none=>none
      | none=>none
    | none=>none
  | _,_=>none
def fD (P:Program) (T:List Value) (op:Op) (G:GS):Option Value :=
  match op with
  | .load t x=>rH P t (ev T x) G
  | .slice t x lo hi mx=>iT P t (ev T x) (lo.map (ev T)) (hi.map (ev T)) (mx.map (ev T)) G
  | _=>none
def iU (G:GS) (cells:List Value) (esz:Nat):GS:=G.push ⟨cells,esz,false,1⟩
def lQ (P:Program) (T:List Value) (op:Op) (G:GS):Option (Value×GS) :=
  match op with
  | .alloc t=>match mR P t with
    | some z=>some (.pointer (some ⟨G.nx,0,none⟩),iU G z 1)
    | none=>none
  | .box _ x=>some (.pointer (some ⟨G.nx,0,none⟩),iU G (ev T x).cells.toList 1)
  | .buildSlice t len parts=>match P.underlying t with
    | some (.slice e)=>match dJ P e,mR P e with
      | some s,some z=>if s≠0∧len*s≤2 ^ 24 then
          (match qm (fun i=>some (i*s,s)) (rep z len) (parts.toList.map fun p=>(p.1,ev T p.2)) with
          | some c=>some (.slice (some ⟨G.nx,0,none⟩) len len,iU G c s)
          | none=>none) else none
      | _,_=>none
    | _=>none
  | .makeSlice t l c=>match P.underlying t,ev T l,ev T c with
    | some (.slice e),.int _ l,.int _ c=>match P.info? e,mR P e with
      | some i,some z=>if 0≤l∧l≤c∧i.size≠0∧i.bytes*c≤2 ^ 48∧IntKind.i64.wrap l=l∧IntKind.i64.wrap c=c then
          some (.slice (some ⟨G.nx,0,none⟩) l.toNat c.toNat,iU G (rep z c.toNat) i.size) else none
      | _,_=>none
    | _,_,_=>none
  | _=>none
def one (v:Value):Bool:=match v with | .agg _=>false | .tuple _=>false | _=>true
def lR (G:GS) (g off:Nat) (vs:List Value):Option GS :=
  match G.obj g with
  | some o=>if o.mode=1&&vs.all one then (match splice o.cells off vs with | some c=>some (G.put g { o with cells:=c }) | none=>none) else none
  | none=>none
def mT (P:Program) (t:TypeId) (a v:Value) (G:GS):Option GS :=
  match a,dJ P t with
  | .pointer (some a),some s=>if v.cells.size=s then lR G a.block a.off v.cells.toList else none
  | _,_=>none
def elems (s n:Nat) (x:Value) (G:GS):Option (List Value) :=
  match x with
  | .slice (some a) _ _=>fC G a.block a.off (n*s)
  | .slice none _ _=>some []
  | _=>none
def qp (P:Program) (ts tx:TypeId) (s x:Value) (G:GS):Option (Value×GS) :=
  match P.underlying ts,P.underlying tx with
  | some (.slice e),some (.slice _) =>
    match P.info? e,mR P e with
    | some i,some _=>if i.size=0∨i.bytes=0 then none else
      match x with
      | .slice _ n _ =>
        match elems i.size n x G with
        | none=>none
        | some new=>if !(new.all one) then none else
          match s with
          | .slice none 0 0 =>
            if n=0 then some (.slice none 0 0,G)
            else if (2*n+1000)*i.bytes≤2 ^ 48 then some (.slice (some ⟨G.nx,0,none⟩) n n,G.push ⟨new,i.size,true,1⟩)
            else none
          | .slice (some a) len cap =>
            if n=0 then some (.slice (some a) len cap,G) else
            match G.obj a.block with
            | none=>none
            | some o =>
              if len+n≤cap then
                match lR G a.block (a.off+len*i.size) new with
                | some G'=>some (.slice (some a) (len+n) cap,G')
                | none=>none
              else match fC G a.block a.off (len*i.size) with
                | none=>none
                | some old =>
                  if (2*(len+n)+1000)*i.bytes≤2 ^ 48 then
                    if o.opn&&a.off+cap*o.esz=o.cells.length then
                      if o.mode=1&&o.esz=i.size then
                        some (.slice (some ⟨G.nx,0,none⟩) (len+n) (len+n),(G.put a.block { o with mode:=2 }).push ⟨old++new,i.size,true,1⟩)
                      else none
                    else some (.slice (some ⟨G.nx,0,none⟩) (len+n) (len+n),G.push ⟨old++new,i.size,true,1⟩)
                  else none
          | _=>none
      | _=>none
    | _,_=>none
  | _,_=>none
def qs (P:Program) (td:TypeId) (d s:Value) (G:GS):Option (Value×GS) :=
  match P.underlying td with
  | some (.slice e)=>match dJ P e,d,s with
    | some z,.slice base dl _,.slice _ sl _ =>
      match elems z (Nat.min sl dl) s G with
      | some new=>match base with
        | none=>some (.int .i64 (Nat.min sl dl),G)
        | some a=>if new=[] then some (.int .i64 (Nat.min sl dl),G) else
          match lR G a.block a.off new with
          | some G'=>some (.int .i64 (Nat.min sl dl),G')
          | none=>none
      | none=>none
    | _,_,_=>none
  | _=>none
def uL (es:List MapEntry):List Value:=es.flatMap fun e=>[e.key,e.val]
def uM:List Value→List MapEntry
  | k::v::r=>⟨k,v,0⟩::uM r
  | _=>[]
def MG (kt el:TypeId) (k:Value) (es:List MapEntry) (ok:Bool):Sem Value:=do
  Instr.checkKey es.isEmpty 10000 kt k
  let (v,is)←match←Instr.findKey kt k es with
    | some (_,v)=>pure (v,true)
    | none=>pure (← zeroValue el,false)
  pure (if ok then .tuple #[v,.bool is] else v)
def wi (P:Program) (t:TypeId) (x k:Value) (ok:Bool) (G:GS):Option Value :=
  match P.underlying t,x with
  | some (.map kt el),.map (some l)=>match G.loop l with
    | some p=>if plain k&&p.tmps.all plain then kR P (MG kt el k (uM p.tmps) ok) else none
    | none=>none
  | _,_=>none
def wj (P:Program) (t:TypeId) (m k v:Value) (G:GS):Option GS :=
  match P.underlying t,m with
  | some (.map kt _),.map (some l)=>match G.loop l with
    | some p=>if plain k&&plain v&&p.tmps.all plain then
        match prun P (Instr.checkKey false 10000 kt k),prun P (Instr.findKey kt k (uM p.tmps)) with
        | some _,some none=>some (G.bR l { p with tmps:=p.tmps++[k,v] })
        | _,_=>none
      else none
    | none=>none
  | _,_=>none
def rI (P:Program) (T:List Value) (op:Op) (G:GS):Option (Value×GS) :=
  match op with
  | .makeMap _ none=>some (.map (some G.nl),G.dS ⟨.done,none,[],[],.skip,.skip⟩)
  | .lookup t x i ok=>match wi P t (ev T x) (ev T i) ok G with | some v=>some (v,G) | none=>none
  | .mapUpdate t m k v=>match wj P t (ev T m) (ev T k) (ev T v) G with | some G'=>some (undef,G') | none=>none
  | .store t a x=>match mT P t (ev T a) (ev T x) G with | some G'=>some (undef,G') | none=>none
  | .call c=>match c.callee,c.argTypes[0]?,c.argTypes[1]?,c.args.toList with
    | .builtin .append,some ts,some tx,[s,x]=>qp P ts tx (ev T s) (ev T x) G
    | .builtin .copy,some td,_,[d,s]=>qs P td (ev T d) (ev T s) G
    | _,_,_,_=>none
  | _=>none
end
end Go.Proofs.YtkhlabammcghbaaGreat.Gh
