import Derived.Calls
import Derived.AtR
import Derived.RangeFuncRecord
import Derived.Below
namespace Go.Proofs.YtphandknhnkhfaaGreat.Gh
open Go
noncomputable section
def nth {α:Type} (d:α) (l:List α):Nat→α :=
  List.rec (motive:=fun _=>Nat→α) (fun _=>d) (fun x _ ih n=>Nat.casesOn (motive:=fun _=>α) n x ih) l
theorem xT {α:Type} (d:α) (n:Nat):nth d [] n=d:=rfl
theorem sG {α:Type} (d x:α) (l:List α):nth d (x::l) 0=x:=rfl
theorem sH {α:Type} (d x:α) (l:List α) (n:Nat):nth d (x::l) (n+1)=nth d l n:=rfl
def fC {α:Type} (d:α) (f:α→α):List α→Nat→List α
  | [],0=>[f d]
  | x::xs,0=>f x::xs
  | [],n+1=>d::fC d f [] n
  | x::xs,n+1=>x::fC d f xs n
theorem Fs {α:Type} (d:α) (f:α→α):∀ (l:List α) (n m:Nat),nth d (fC d f l n) m=if m=n then f (nth d l n) else nth d l m
  | [],0,0=>by simp [fC,xT,sG]
  | [],0,m+1=>by simp [fC,xT,sH]
  | x::xs,0,0=>by simp [fC,sG]
  | x::xs,0,m+1=>by simp [fC,sH]
  | [],n+1,0=>by simp [fC,xT,sG]
  | [],n+1,m+1=>by simp [fC,xT,sH,Fs d f [] n m]
  | x::xs,n+1,0=>by simp [fC,sG]
  | x::xs,n+1,m+1=>by simp [fC,sH,Fs d f xs n m]
def Tr (α:Type):Nat→Type
  | 0=>Option α
  | n+1=>Tr α n×Tr α n
def nM {α:Type} {d:Nat} (t:Tr α (d+1)):Tr α d:=Prod.fst (show Tr α d×Tr α d from t)
def nN {α:Type} {d:Nat} (t:Tr α (d+1)):Tr α d:=Prod.snd (show Tr α d×Tr α d from t)
def qc {α:Type} {d:Nat} (l r:Tr α d):Tr α (d+1):=show Tr α d×Tr α d from (l,r)
def Ft (α:Type) (d:Nat):Tr α d:=Nat.rec (motive:=fun d=>Tr α d) (none:Option α) (fun _ ih=>qc ih ih) d
def oU {α:Type} (d:Nat):Tr α d→Nat→Option α :=
  Nat.rec (motive:=fun d=>Tr α d→Nat→Option α) (fun t _=>t) (fun _ ih t n=>Nat.casesOn (motive:=fun _=>Option α) (n % 2) (ih (nM t) (n / 2)) (fun _=>ih (nN t) (n / 2))) d
def qY {α:Type} (a:Option α) (d:Nat):Tr α d→Nat→Tr α d :=
  Nat.rec (motive:=fun d=>Tr α d→Nat→Tr α d) (fun _ _=>a) (fun d ih t n=>Nat.casesOn (motive:=fun _=>Tr α (d+1)) (n % 2) (qc (ih (nM t) (n / 2)) (nN t)) (fun _=>qc (nM t) (ih (nN t) (n / 2)))) d
theorem KT {α:Type} {d:Nat} (l r:Tr α d):nM (qc l r)=l:=rfl
theorem KU {α:Type} {d:Nat} (l r:Tr α d):nN (qc l r)=r:=rfl
theorem zV {α:Type} {d:Nat} (t:Tr α (d+1)) {k:Nat} (h:k % 2=0):oU (d+1) t k=oU d (nM t) (k / 2):=by
  show Nat.casesOn (motive:=fun _=>Option α) (k % 2) (oU d (nM t) (k / 2)) (fun _=>oU d (nN t) (k / 2))=_
  rw [h]; rfl
theorem zW {α:Type} {d:Nat} (t:Tr α (d+1)) {k:Nat} (h:k % 2=1):oU (d+1) t k=oU d (nN t) (k / 2):=by
  show Nat.casesOn (motive:=fun _=>Option α) (k % 2) (oU d (nM t) (k / 2)) (fun _=>oU d (nN t) (k / 2))=_
  rw [h]; rfl
theorem KV {α:Type} (a:Option α) {d:Nat} (t:Tr α (d+1)) {k:Nat} (h:k % 2=0):qY a (d+1) t k=qc (qY a d (nM t) (k / 2)) (nN t):=by
  show Nat.casesOn (motive:=fun _=>Tr α (d+1)) (k % 2) (qc (qY a d (nM t) (k / 2)) (nN t)) (fun _=>qc (nM t) (qY a d (nN t) (k / 2)))=_
  rw [h]; rfl
theorem KW {α:Type} (a:Option α) {d:Nat} (t:Tr α (d+1)) {k:Nat} (h:k % 2=1):qY a (d+1) t k=qc (nM t) (qY a d (nN t) (k / 2)):=by
  show Nat.casesOn (motive:=fun _=>Tr α (d+1)) (k % 2) (qc (qY a d (nM t) (k / 2)) (nN t)) (fun _=>qc (nM t) (qY a d (nN t) (k / 2)))=_
  rw [h]; rfl
theorem TE {α:Type} (a:Option α):∀ (d:Nat) (t:Tr α d) (i j:Nat),i<2 ^ d→j<2 ^ d→oU d (qY a d t i) j=if j=i then a else oU d t j:=by
  intro d
  induction d with
  | zero =>
    intro t i j hi hj
    have:j=i:=by omega
    rw [if_pos this]; rfl
  | succ d ih =>
    intro t i j hi hj
    have hp:2 ^ (d+1)=2*2 ^ d:=by rw [Nat.pow_succ]; omega
    have bw:i / 2<2 ^ d:=by omega
    have ux:j / 2<2 ^ d:=by omega
    rcases Nat.mod_two_eq_zero_or_one i with h1 | h1<;>rcases Nat.mod_two_eq_zero_or_one j with h2 | h2
    · rw [KV a t h1,zV _ h2,zV _ h2,KT,ih _ _ _ bw ux]
      by_cases h:j=i
      · rw [if_pos h,if_pos (by rw [h])]
      · rw [if_neg h,if_neg (by omega)]
    · rw [KV a t h1,zW _ h2,zW _ h2,KU,if_neg (by omega)]
    · rw [KW a t h1,zV _ h2,zV _ h2,KT,if_neg (by omega)]
    · rw [KW a t h1,zW _ h2,zW _ h2,KU,ih _ _ _ bw ux]
      by_cases h:j=i
      · rw [if_pos h,if_pos (by rw [h])]
      · rw [if_neg h,if_neg (by omega)]
theorem TF {α:Type}:∀ (d j:Nat),oU d (Ft α d) j=none:=by
  intro d
  induction d with
  | zero=>intro j; rfl
  | succ d ih =>
    intro j
    rcases Nat.mod_two_eq_zero_or_one j with h | h
    · rw [zV _ h]; exact ih _
    · rw [zW _ h]; exact ih _
abbrev vO (α:Type):=List (Tr α 9)
def vP {α:Type} (t:vO α) (i:Nat):Option α:=oU 9 (nth (Ft α 9) t (i / 512)) (i % 512)
def sI {α:Type} (t:vO α) (i:Nat) (a:Option α):vO α:=fC (Ft α 9) (fun c=>qY a 9 c (i % 512)) t (i / 512)
theorem sJ {α:Type} (t:vO α) (i j:Nat) (a:Option α):vP (sI t i a) j=if j=i then a else vP t j:=by
  unfold vP sI
  rw [Fs]
  by_cases h:j / 512=i / 512
  · rw [if_pos h,TE a 9 _ _ _ (Nat.mod_lt _ (by omega)) (Nat.mod_lt _ (by omega)),h]
    by_cases h':j % 512=i % 512
    · have:j=i:=by omega
      simp [this]
    · have:j≠i:=fun e=>h' (by rw [e])
      rw [if_neg h',if_neg this]
  · have:j≠i:=fun e=>h (by rw [e])
    rw [if_neg h,if_neg this]
theorem KX {α:Type} (j:Nat):vP ([]:vO α) j=none:=TF 9 _
structure aR where
  cells:List Value
  esz:Nat
  opn:Bool
  mode:Nat
structure Lp where
  st:LoopState
  aF:Option Code
  tmps:List Value
  params:List Nat
  assign:Code
  body:Code
structure GS where
  hp:vO aR
  nx:Nat
  lp:vO Lp
  nl:Nat
def GS.obj (G:GS) (g:Nat):Option aR:=vP G.hp g
def GS.put (G:GS) (g:Nat) (o:aR):GS:={ G with hp:=sI G.hp g (some o) }
def GS.push (G:GS) (o:aR):GS:={ G with hp:=sI G.hp G.nx (some o),nx:=G.nx+1 }
def GS.loop (G:GS) (l:Nat):Option Lp:=vP G.lp l
def GS.cC (G:GS) (l:Nat) (r:Lp):GS:={ G with lp:=sI G.lp l (some r) }
def GS.fD (G:GS) (r:Lp):GS:={ G with lp:=sI G.lp G.nl (some r),nl:=G.nl+1 }
def oV:Nat:=4294967296
def KY:Nat:=1
def KZ:Nat:=0
def Cr:Nat:=KY+3
def Cs:Nat:=KZ+3
def TG:List Nat:=[1,10,100,1000,10000,100000,1000000,10000000,100000000,1000000000,10000000000,100000000000,1000000000000,10000000000000,100000000000000,1000000000000000,10000000000000000,100000000000000000,1000000000000000000,10000000000000000000]
def K1:List Value:=TG.map fun k=>.int .u64 (Int.ofNat k)
def K2:List Nat:=[0,1,56,2,57,49,28,3,61,58,42,50,38,29,17,4,62,47,59,36,45,43,51,22,53,39,33,30,24,18,12,5,63,55,48,27,60,41,37,16,46,35,44,21,52,32,23,11,54,26,40,15,34,20,31,10,25,14,19,9,13,8,7,6]
def K3:List Value:=K2.map fun k=>.int .u8 (Int.ofNat k)
def Fu (n:Nat):Int:=if Nat.beq n 0=true then 64 else Int.ofNat (nth 0 K2 (((Nat.land n (18446744073709551616 - n))*285870213051353865) % 18446744073709551616 / 288230376151711744))
def xU (G:GS):Bool:=match G.obj 0,G.obj 1 with | some o,some p=>Nat.beq o.mode Cr&&Nat.beq p.mode Cs | _,_=>false
def Fv (vs:List Value) (G:GS):Option (Value×GS):=match vs with
  | [.int .u64 (.ofNat n)]=>if (xU G&&Nat.ble n 18446744073709551615)=true then some (.int .i64 (Fu n),G) else none
  | _=>none
def oW:Nat→Value→Bool
  | 0,_=>false
  | n+1,v=>match v with
    | .bool _ | .int _ _ | .string _ | .pointer none | .slice none 0 0 | .nilFunc | .nilIface | .map none=>true
    | .agg cs=>cs.toList.all (oW n)
    | .tuple cs=>cs.toList.all (oW n)
    | .iface _ v=>oW n v
    | _=>false
def plain (v:Value):Bool:=oW 4 v
def prun (P:Program) {α:Type}:Sem α→Option α
  | .pure a=>some a
  | .program k=>prun P (k P)
  | .mark _ k=>prun P k
  | _=>none
theorem Fw (P:Program) {α:Type} (s:Sem α) (a:α) (h:prun P s=some a) (w:World):s.run P w= .ok a w:=by
  induction s with
  | pure x=>simp [prun] at h; simp [Sem.run,h]
  | program k ih=>exact ih P h
  | mark m k ih=>exact ih h
  | _=>simp [prun] at h
def mO (P:Program) (s:Sem Value):Option Value:=match prun P s with | some v=>if plain v then some v else none | none=>none
def ev (T:List Value):Operand→Value
  | .tmp t=>nth undef T t
  | .const v=>v
  | .global _=>undef
  | .func f=>.func (.func f) #[] #[]
def dm:Operand→Bool
  | .tmp _=>true
  | .const v=>plain v
  | .global _=>false
  | .func _=>true
def K4 (l:List (Nat×Operand)):Bool:=l.all fun p=>dm p.2
def zX (x:Option Operand):Bool:=match x with | some x=>dm x | none=>true
def dW (op:Op):Bool :=
  match op with
  | .move x | .assign x | .box _ x | .load _ x | .nilCheck x | .unOp _ _ x | .convert _ _ x | .makeInterface _ x | .fieldAddr _ x _ | .field _ x _ | .extract x _ | .typeAssert x _ _ _=>dm x
  | .pick c a b=>dm c&&dm a&&dm b
  | .store _ a v | .binOp _ _ a v _ | .makeSlice _ a v | .indexAddr _ a v | .index _ a v=>dm a&&dm v
  | .build _ ps | .buildSlice _ _ ps=>K4 ps.toList
  | .makeFunc _ first captured=>first.toList.all dm&&captured.toList.all dm
  | .slice _ x l h m=>dm x&&zX l&&zX h&&zX m
  | .makeMap _ r=>zX r
  | .lookup _ x i _=>dm x&&dm i
  | .mapUpdate _ m k v=>dm m&&dm k&&dm v
  | .call c=>(match c.callee with | .value f=>dm f | .invoke r _=>dm r | .builtin _=>true)&&c.args.toList.all dm
  | _=>true
def Fx {α:Type} (x:α) (r:Option (List α)):Option (List α):=match r with | some l=>some (x::l) | none=>none
def takeN {α:Type} (n:Nat):List α→Option (List α) :=
  Nat.rec (motive:=fun _=>List α→Option (List α)) (fun _=>some []) (fun _ ih l=>List.casesOn (motive:=fun _=>Option (List α)) l none (fun x xs=>Fx x (ih xs))) n
theorem Ct {α:Type} (l:List α):takeN 0 l=some []:=rfl
theorem K5 {α:Type} (n:Nat):takeN (n+1) ([]:List α)=none:=rfl
theorem K6 {α:Type} (n:Nat) (x:α) (xs:List α):takeN (n+1) (x::xs)=match takeN n xs with | some l=>some (x::l) | none=>none:=rfl
def uy {α:Type} (n:Nat):List α→List α :=
  Nat.rec (motive:=fun _=>List α→List α) (fun l=>l) (fun _ ih l=>List.casesOn (motive:=fun _=>List α) l [] (fun _ xs=>ih xs)) n
theorem TH {α:Type} (l:List α):uy 0 l=l:=rfl
theorem TI {α:Type} (n:Nat):uy (n+1) ([]:List α)=[]:=rfl
theorem TJ {α:Type} (n:Nat) (x:α) (xs:List α):uy (n+1) (x::xs)=uy n xs:=rfl
def mP {α:Type} (l:List α):Nat→Option α :=
  List.rec (motive:=fun _=>Nat→Option α) (fun _=>none) (fun x _ ih n=>Nat.casesOn (motive:=fun _=>Option α) n (some x) ih) l
theorem TK {α:Type} (n:Nat):mP ([]:List α) n=none:=rfl
theorem zY {α:Type} (x:α) (xs:List α):mP (x::xs) 0=some x:=rfl
theorem zZ {α:Type} (x:α) (xs:List α) (n:Nat):mP (x::xs) (n+1)=mP xs n:=rfl
def splice {α:Type} (l:List α):Nat→List α→Option (List α) :=
  List.rec (motive:=fun _=>Nat→List α→Option (List α))
    (fun n vs=>Nat.casesOn (motive:=fun _=>Option (List α)) n (List.casesOn (motive:=fun _=>Option (List α)) vs (some []) (fun _ _=>none)) (fun _=>none))
    (fun x xs ih n vs=>Nat.casesOn (motive:=fun _=>Option (List α)) n (List.casesOn (motive:=fun _=>Option (List α)) vs (some (x::xs)) (fun v vs=>Fx v (ih 0 vs))) (fun m=>Fx x (ih m vs))) l
theorem bO {α:Type} (l:List α):splice l 0 []=some l:=by cases l<;>rfl
theorem K7 {α:Type} (n:Nat) (vs:List α):splice ([]:List α) (n+1) vs=none:=rfl
theorem K8 {α:Type} (v:α) (vs:List α):splice ([]:List α) 0 (v::vs)=none:=rfl
theorem eC {α:Type} (x:α) (xs:List α) (n:Nat) (vs:List α):splice (x::xs) (n+1) vs=match splice xs n vs with | some l=>some (x::l) | none=>none:=rfl
theorem bQ {α:Type} (x:α) (xs:List α) (v:α) (vs:List α):splice (x::xs) 0 (v::vs)=match splice xs 0 vs with | some l=>some (v::l) | none=>none:=rfl
def rep {α:Type} (z:List α):Nat→List α
  | 0=>[]
  | n+1=>z++rep z n
def dN (P:Program) (t:TypeId):Option Nat:=match P.info? t with | some i=>some i.size | none=>none
def z7 (P:Program) (t:TypeId):Option Bool:=match P.underlying t with
  | some (.struct _)=>some true
  | some (.array _ _)=>some true
  | some _=>some false
  | none=>none
def nO (P:Program) (t:TypeId):Option (List Value):=match P.info? t with
  | some i=>match i.zero with
    | some z=>if z.cells.size=i.size&&z.cells.toList.all plain then some z.cells.toList else none
    | none=>none
  | none=>none
def zeroV (P:Program) (t:TypeId):Option Value:=match P.info? t with
  | some i=>i.zero
  | none=>none
def Cu (P:Program) (t:TypeId) (x y:Value):Option Bool :=
  match P.underlying t,x,y with
  | some (.pointer _),.pointer (some _),.pointer none=>some false
  | some (.pointer _),.pointer none,.pointer (some _)=>some false
  | some (.slice _),.slice (some _) _ _,.slice none _ _=>some false
  | some (.slice _),.slice none _ _,.slice (some _) _ _=>some false
  | some (.func _ _ _),.func _ _ _,.nilFunc=>some false
  | some (.func _ _ _),.nilFunc,.func _ _ _=>some false
  | some (.interface _),.iface _ _,.nilIface=>some false
  | some (.interface _),.nilIface,.iface _ _=>some false
  | _,_,_=>none
def z8 (op:BinOp) (k:IntKind) (m n:Int):Option Value :=
  match op with
  | .add=>some (.int k (k.wrap (m+n)))
  | .sub=>some (.int k (k.wrap (m - n)))
  | .mul=>some (.int k (k.wrap (m*n)))
  | .quo=>if n=0 then none else some (.int k (k.wrap (m.tdiv n)))
  | .rem=>if n=0 then none else some (.int k (m.tmod n))
  | .and=>some (.int k (k.wrap ((BitVec.ofInt k.bits m &&& BitVec.ofInt k.bits n).toNat)))
  | .or=>some (.int k (k.wrap ((BitVec.ofInt k.bits m ||| BitVec.ofInt k.bits n).toNat)))
  | .xor=>some (.int k (k.wrap ((BitVec.ofInt k.bits m ^^^ BitVec.ofInt k.bits n).toNat)))
  | .andNot=>some (.int k (k.wrap ((BitVec.ofInt k.bits m &&& ~~~ BitVec.ofInt k.bits n).toNat)))
  | .eql=>some (.bool (m==n))
  | .neq=>some (.bool (m != n))
  | .lss=>some (.bool (m<n))
  | .leq=>some (.bool (m≤n))
  | .gtr=>some (.bool (m>n))
  | .geq=>some (.bool (m≥n))
  | .shl=>if n<0 then none else some (.int k (k.wrap (m*2 ^ (min n.toNat k.bits))))
  | .shr=>if n<0 then none else some (.int k (m.fdiv (2 ^ (min n.toNat k.bits))))
def vQ (op:BinOp):Bool:=match op with | .shl=>true | .shr=>true | _=>false
def Cv (P:Program) (op:BinOp) (t:TypeId) (x y:Operand) (a b:Value):Option Value :=
  if plain a&&plain b then mO P (do eqGuard op t x y a b; binOp op t a b)
  else match op with
    | .eql=>match Cu P t a b with | some r=>some (.bool r) | none=>none
    | .neq=>match Cu P t a b with | some r=>some (.bool (!r)) | none=>none
    | _=>none
def Fy (P:Program) (op:BinOp) (t:TypeId) (x y:Operand) (a b:Value):Option Value :=
  match a,b with
  | .int k m,.int k' n=>if k=k' ||vQ op then z8 op k m n else none
  | a,b=>Cv P op t x y a b
def Cw (P:Program) (t:TypeId) (cs:List Value) (off:Nat):Option Value :=
  match z7 P t with
  | some true=>match dN P t with
    | some s=>match takeN s (uy off cs) with | some l=>some (.agg ⟨l⟩) | none=>none
    | none=>none
  | some false=>mP cs off
  | none=>none
def lW (P:Program) (t:TypeId) (v:Value) (f:Nat):Option Value :=
  match P.underlying t,v with
  | some (.struct fs),.agg cs=>match fs[f]? with | some d=>Cw P d.type cs.toList d.offset | none=>none
  | _,_=>none
def kx (P:Program) (t:TypeId) (v i:Value):Option Value :=
  match P.underlying t,v,i with
  | some (.array n e),.agg cs,.int _ j=>if 0≤j∧j<n then (match dN P e with | some s=>Cw P e cs.toList (j.toNat*s) | none=>none) else none
  | some .string,.string s,.int _ j=>if 0≤j then (match s[j.toNat]? with | some b=>some (.int .u8 b.toNat) | none=>none) else none
  | _,_,_=>none
def qd (place:Nat→Option (Nat×Nat)):List Value→List (Nat×Value)→Option (List Value)
  | cells,[]=>some cells
  | cells,(i,v)::rest=>match place i with
    | some (off,size)=>if v.cells.size=size then (match splice cells off v.cells.toList with | some c=>qd place c rest | none=>none) else none
    | none=>none
def Cx (P:Program) (fs:Array Field) (i:Nat):Option (Nat×Nat) :=
  match fs[i]? with
  | some f=>match dN P f.type with | some s=>some (f.offset,s) | none=>none
  | none=>none
def qZ (P:Program) (t:TypeId) (parts:List (Nat×Value)):Option Value :=
  match nO P t with
  | none=>none
  | some z=>match P.underlying t with
    | some (.struct fs) =>
      if fs.toList.all (fun f=>(dN P f.type).isSome) then (match qd (Cx P fs) z parts with | some c=>some (.agg ⟨c⟩) | none=>none) else none
    | some (.array _ e)=>match dN P e with
      | some s=>(match qd (fun i=>some (i*s,s)) z parts with | some c=>some (.agg ⟨c⟩) | none=>none)
      | none=>none
    | _=>none
def re (P:Program) (s:TypeId) (v:Value) (f:Nat):Option Value :=
  match P.underlying s,v with
  | some (.struct fs),.pointer (some a)=>match fs[f]? with
    | some d=>match dN P d.type with
      | some 0=>none
      | some _=>some (.pointer (some ⟨a.block,a.off+d.offset,none⟩))
      | none=>none
    | none=>none
  | _,_=>none
def ky (P:Program) (t:TypeId) (v i:Value):Option Value :=
  match P.underlying t,v,i with
  | some (.array n e),.pointer (some a),.int _ j =>
    if 0≤j∧j<n then (match dN P e with | some s=>some (.pointer (some ⟨a.block,a.off+j.toNat*s,none⟩)) | none=>none) else none
  | some (.slice e),.slice (some a) n _,.int _ j =>
    if 0≤j∧j<n then (match dN P e with | some s=>some (.pointer (some ⟨a.block,a.off+j.toNat*s,none⟩)) | none=>none) else none
  | _,_,_=>none
def mQ (P:Program) (t:TypeId) (x:Value):Option Value :=
  match P.underlying t,x with
  | some .string,.string s=>some (.int .i64 s.size)
  | some (.array n _),_=>some (.int .i64 n)
  | some (.pointer a),_=>match P.underlying a with | some (.array n _)=>some (.int .i64 n) | _=>none
  | some (.slice _),.slice _ n _=>some (.int .i64 n)
  | _,_=>none
def Cy (ok:Bool) (v:Value):Option Value:=some (if ok then .tuple #[v,.bool true] else v)
def xV (P:Program) (asserted:TypeId) (ok:Bool):Option Value :=
  if ok then (match zeroV P asserted with | some z=>if plain z then some (.tuple #[z,.bool false]) else none | none=>none) else none
def K9 (P:Program) (want:Array (String×TypeId)) (x:Value) (asserted:TypeId) (ok:Bool):Option Value :=
  match x with
  | .nilIface=>xV P asserted ok
  | .iface t v=>match P.info? t with
    | some i=>match Instr.missingMethod want i.methods with
      | none=>Cy ok (.iface t v)
      | some _=>xV P asserted ok
    | none=>none
  | _=>none
def La (P:Program) (x:Value) (asserted:TypeId) (ok:Bool):Option Value :=
  match x with
  | .nilIface=>xV P asserted ok
  | .iface t v=>if t=asserted then Cy ok v else xV P asserted ok
  | _=>none
def z9 (P:Program) (x:Value) (asserted:TypeId) (ok:Bool):Option Value :=
  match P.underlying asserted with
  | none=>none
  | some (.interface want)=>K9 P want x asserted ok
  | some _=>La P x asserted ok
def nP (P:Program) (T:List Value) (op:Op):Option Value :=
  match op with
  | .move x=>some (ev T x)
  | .assign x=>some (ev T x)
  | .pick c a b=>match ev T c with | .bool t=>some (if t then ev T a else ev T b) | _=>none
  | .nilCheck x=>match ev T x with
    | .pointer (some a)=>some (.pointer (some a))
    | .func (.func f) a b=>some (.func (.func f) a b)
    | .func (.yield l) a b=>some (.func (.yield l) a b)
    | .iface t v=>some (.iface t v)
    | _=>none
  | .binOp op t x y _=>Fy P op t x y (ev T x) (ev T y)
  | .unOp op _ x=>if plain (ev T x) then mO P (Op.unary op (ev T x)) else none
  | .convert s d x=>if plain (ev T x) then mO P (convert s d (ev T x)) else none
  | .makeInterface t x=>match P.underlying t with
    | some (.interface _)=>none
    | some _=>some (.iface t (ev T x))
    | none=>none
  | .makeFunc (.func f) first captured=>some (.func (.func f) (first.map (ev T)) (captured.map (ev T)))
  | .build t parts=>qZ P t (parts.toList.map fun p=>(p.1,ev T p.2))
  | .field t x f=>lW P t (ev T x) f
  | .index t x i=>kx P t (ev T x) (ev T i)
  | .extract x i=>match ev T x with | .tuple vs=>mP vs.toList i | _=>none
  | .fieldAddr s x f=>re P s (ev T x) f
  | .indexAddr t x i=>ky P t (ev T x) (ev T i)
  | .typeAssert x _ asserted ok=>z9 P (ev T x) asserted ok
  | .call c=>match c.callee with
    | .builtin .len=>match c.argTypes[0]?,c.args.toList with | some t,[x]=>mQ P t (ev T x) | _,_=>none
    | .builtin .min=>if (c.args.toList.map (ev T)).all plain then mO P (Builtin.min_ c.argTypes 0 (c.args.map (ev T))) else none
    | .builtin .max=>if (c.args.toList.map (ev T)).all plain then mO P (Builtin.max_ c.argTypes 0 (c.args.map (ev T))) else none
    | _=>none
  | _=>none
def fE (G:GS) (g off n:Nat):Option (List Value) :=
  match G.obj g with
  | some o=>if o.mode=2 then none else takeN n (uy off o.cells)
  | none=>none
def rh (P:Program) (t:TypeId) (v:Value) (G:GS):Option Value :=
  match v with
  | .pointer (some a)=>match z7 P t with
    | some true=>match dN P t with
      | some s=>match fE G a.block a.off s with | some l=>some (.agg ⟨l⟩) | none=>none
      | none=>none
    | some false=>match fE G a.block a.off 1 with | some [x]=>some x | _=>none
    | none=>none
  | _=>none
def bound (v:Option Value) (d y:Nat):Option Nat :=
  match v with
  | none=>some d
  | some (.int _ i)=>if 0≤i∧i≤y then some i.toNat else none
  | _=>none
def iG (P:Program) (t:TypeId) (x:Value) (low high max:Option Value) (G:GS):Option Value :=
  match P.underlying t,x with
  | some (.slice e),.slice none 0 0 =>
    match bound max 0 0 with
    | some m=>match high,max with
      | none,some _=>none
      | _,_=>match bound high 0 m with
        | some h=>match bound low 0 h with
          | some _=>match dN P e with | some _=>some (.slice none 0 0) | none=>none
          | none=>none
        | none=>none
    | none=>none
  | some (.slice e),.slice (some a) len cap =>
    match dN P e,G.obj a.block with
    | some s,some o=>if o.opn&&s != o.esz then none else
      match bound max cap cap with
      | some m=>match high,max with
        | none,some _=>none
        | _,_=>match bound high len m with
          | some h=>match bound low 0 h with
            | some l=>if h≤m then some (.slice (some ⟨a.block,a.off+l*s,none⟩) (h - l) (m - l)) else none
            | none=>none
          | none=>none
      | none=>none
    | _,_=>none
  | some (.array n e),.pointer (some a) =>
    match dN P e with
    | some s =>
      match bound max n n with
      | some m=>match high,max with
        | none,some _=>none
        | _,_=>match bound high n m with
          | some h=>match bound low 0 h with
            | some l=>if h≤m then some (.slice (some ⟨a.block,a.off+l*s,none⟩) (h - l) (m - l)) else none
            | none=>none
          | none=>none
      | none=>none
    | none=>none
  | _,_=>none
def fQ (P:Program) (T:List Value) (op:Op) (G:GS):Option Value :=
  match op with
  | .load t x=>rh P t (ev T x) G
  | .slice t x lo hi mx=>iG P t (ev T x) (lo.map (ev T)) (hi.map (ev T)) (mx.map (ev T)) G
  | _=>none
def jf (G:GS) (cells:List Value) (esz:Nat):GS:=G.push ⟨cells,esz,false,1⟩
def lX (P:Program) (T:List Value) (op:Op) (G:GS):Option (Value×GS) :=
  match op with
  | .alloc t=>match nO P t with
    | some z=>some (.pointer (some ⟨G.nx,0,none⟩),jf G z 1)
    | none=>none
  | .box _ x=>some (.pointer (some ⟨G.nx,0,none⟩),jf G (ev T x).cells.toList 1)
  | .buildSlice t len parts=>match P.underlying t with
    | some (.slice e)=>match dN P e,nO P e with
      | some s,some z=>if s≠0∧len*s≤2 ^ 24 then
          (match qd (fun i=>some (i*s,s)) (rep z len) (parts.toList.map fun p=>(p.1,ev T p.2)) with
          | some c=>some (.slice (some ⟨G.nx,0,none⟩) len len,jf G c s)
          | none=>none) else none
      | _,_=>none
    | _=>none
  | .makeSlice t l c=>match P.underlying t,ev T l,ev T c with
    | some (.slice e),.int _ l,.int _ c=>match P.info? e,nO P e with
      | some i,some z=>if 0≤l∧l≤c∧i.size≠0∧i.bytes*c≤2 ^ 48∧IntKind.i64.wrap l=l∧IntKind.i64.wrap c=c then
          some (.slice (some ⟨G.nx,0,none⟩) l.toNat c.toNat,jf G (rep z c.toNat) i.size) else none
      | _,_=>none
    | _,_,_=>none
  | _=>none
def one (v:Value):Bool:=match v with | .agg _=>false | .tuple _=>false | _=>true
def lY (G:GS) (g off:Nat) (vs:List Value):Option GS :=
  match G.obj g with
  | some o=>if o.mode=1&&vs.all one then (match splice o.cells off vs with | some c=>some (G.put g { o with cells:=c }) | none=>none) else none
  | none=>none
def nQ (P:Program) (t:TypeId) (a v:Value) (G:GS):Option GS :=
  match a,dN P t with
  | .pointer (some a),some s=>if v.cells.size=s then lY G a.block a.off v.cells.toList else none
  | _,_=>none
def elems (s n:Nat) (x:Value) (G:GS):Option (List Value) :=
  match x with
  | .slice (some a) _ _=>fE G a.block a.off (n*s)
  | .slice none _ _=>some []
  | _=>none
def qe (P:Program) (ts tx:TypeId) (s x:Value) (G:GS):Option (Value×GS) :=
  match P.underlying ts,P.underlying tx with
  | some (.slice e),some (.slice _) =>
    match P.info? e,nO P e with
    | some i,some _=>if i.size=0∨i.bytes=0 then none else
      match x with
      | .slice _ n _ =>
        match elems i.size n x G with
        | none=>none
        | some new=>if !(new.all one) then none else
          match s with
          | .slice none 0 0 =>
            if n=0 then some (.slice none 0 0,G)
            else if (2*n+1000)*i.bytes≤2 ^ 48 then some (.slice (some ⟨G.nx,0,none⟩) n n,G.push ⟨new,i.size,true,1⟩)
            else none
          | .slice (some a) len cap =>
            if n=0 then some (.slice (some a) len cap,G) else
            match G.obj a.block with
            | none=>none
            | some o =>
              if len+n≤cap then
                match lY G a.block (a.off+len*i.size) new with
                | some G'=>some (.slice (some a) (len+n) cap,G')
                | none=>none
              else match fE G a.block a.off (len*i.size) with
                | none=>none
                | some old =>
                  if (2*(len+n)+1000)*i.bytes≤2 ^ 48 then
                    if o.opn&&a.off+cap*o.esz=o.cells.length then
                      if o.mode=1&&o.esz=i.size then
                        some (.slice (some ⟨G.nx,0,none⟩) (len+n) (len+n),(G.put a.block { o with mode:=2 }).push ⟨old++new,i.size,true,1⟩)
                      else none
                    else some (.slice (some ⟨G.nx,0,none⟩) (len+n) (len+n),G.push ⟨old++new,i.size,true,1⟩)
                  else none
          | _=>none
      | _=>none
    | _,_=>none
  | _,_=>none
def qf (P:Program) (td:TypeId) (d s:Value) (G:GS):Option (Value×GS) :=
  match P.underlying td with
  | some (.slice e)=>match dN P e,d,s with
    | some z,.slice base dl _,.slice _ sl _ =>
      match elems z (Nat.min sl dl) s G with
      | some new=>match base with
        | none=>some (.int .i64 (Nat.min sl dl),G)
        | some a=>if new=[] then some (.int .i64 (Nat.min sl dl),G) else
          match lY G a.block a.off new with
          | some G'=>some (.int .i64 (Nat.min sl dl),G')
          | none=>none
      | none=>none
    | _,_,_=>none
  | _=>none
def uz (es:List MapEntry):List Value:=es.flatMap fun e=>[e.key,e.val]
def uA:List Value→List MapEntry
  | k::v::r=>⟨k,v,0⟩::uA r
  | _=>[]
def Lb (kt el:TypeId) (k:Value) (es:List MapEntry) (ok:Bool):Sem Value:=do
  Instr.checkKey es.isEmpty 10000 kt k
  let (v,is)←match←Instr.findKey kt k es with
    | some (_,v)=>pure (v,true)
    | none=>pure (← zeroValue el,false)
  pure (if ok then .tuple #[v,.bool is] else v)
def vR (P:Program) (t:TypeId) (x k:Value) (ok:Bool) (G:GS):Option Value :=
  match P.underlying t,x with
  | some (.map kt el),.map (some l)=>match G.loop l with
    | some p=>if plain k&&p.tmps.all plain then mO P (Lb kt el k (uA p.tmps) ok) else none
    | none=>none
  | _,_=>none
def vS (P:Program) (t:TypeId) (m k v:Value) (G:GS):Option GS :=
  match P.underlying t,m with
  | some (.map kt _),.map (some l)=>match G.loop l with
    | some p=>if plain k&&plain v&&p.tmps.all plain then
        match prun P (Instr.checkKey false 10000 kt k),prun P (Instr.findKey kt k (uA p.tmps)) with
        | some _,some none=>some (G.cC l { p with tmps:=p.tmps++[k,v] })
        | _,_=>none
      else none
    | none=>none
  | _,_=>none
def rj (P:Program) (T:List Value) (op:Op) (G:GS):Option (Value×GS) :=
  match op with
  | .makeMap _ none=>some (.map (some G.nl),G.fD ⟨.done,none,[],[],.skip,.skip⟩)
  | .lookup t x i ok=>match vR P t (ev T x) (ev T i) ok G with | some v=>some (v,G) | none=>none
  | .mapUpdate t m k v=>match vS P t (ev T m) (ev T k) (ev T v) G with | some G'=>some (undef,G') | none=>none
  | .store t a x=>match nQ P t (ev T a) (ev T x) G with | some G'=>some (undef,G') | none=>none
  | .call c=>match c.callee,c.argTypes[0]?,c.argTypes[1]?,c.args.toList with
    | .builtin .append,some ts,some tx,[s,x]=>qe P ts tx (ev T s) (ev T x) G
    | .builtin .copy,some td,_,[d,s]=>qf P td (ev T d) (ev T s) G
    | _,_,_,_=>none
  | _=>none
end
end Go.Proofs.YtphandknhnkhfaaGreat.Gh
