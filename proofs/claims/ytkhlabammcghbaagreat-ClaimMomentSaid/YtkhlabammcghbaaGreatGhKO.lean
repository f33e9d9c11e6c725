import Derived.Test.YtkhlabammcghbaaGreatGhPL
namespace Go.Proofs.YtkhlabammcghbaaGreat.Gh
open Go
set_option linter.unusedVariables false
set_option linter.unusedSimpArgs false
set_option linter.unnecessarySimpa false
noncomputable section
def Ref {α:Type} (x y:Option α):Prop:=∀ r,x=some r→y=some r
theorem Ref.rfl' {α:Type} (x:Option α):Ref x x:=fun _ h=>h
theorem Ref.of_eq {α:Type} {x y:Option α} (h:x=y):Ref x y:=fun _ e=>h▸e
theorem Ref.nil {α:Type} (y:Option α):Ref none y:=fun _ h=>by cases h
theorem Ref.bP {α β:Type} {x y:Option α} {K K':α→Option β} (h:Ref x y) (hk:∀ a,Ref (K a) (K' a)):Ref (bP x K) (bP y K'):=fun r e=>by
  cases x with
  | none=>cases e
  | some a=>rw [h a rfl]; exact hk a r e
theorem Ref.bS {β:Type} {x y:Option (Value×GS)} {K K':Value→GS→Option β} (h:Ref x y) (hk:∀ a G,Ref (K a G) (K' a G)):Ref (bS x K) (bS y K'):=fun r e=>by
  cases x with
  | none=>cases e
  | some a=>rw [h a rfl]; exact hk a.1 a.2 r e
theorem Ref.bX {β:Type} {x y:Option (Exit×List Value×GS)} {K K':Exit→List Value→GS→Option β} (h:Ref x y) (hk:∀ e T G,Ref (K e T G) (K' e T G)):Ref (bX x K) (bX y K'):=fun r e=>by
  cases x with
  | none=>cases e
  | some a=>rw [h a rfl]; exact hk a.1 a.2.1 a.2.2 r e
theorem Ref.bl {β:Type} {v:Value} {a b a' b':Option β} (h1:Ref a a') (h2:Ref b b'):Ref (bl v a b) (bl v a' b'):=fun r e=>by
  unfold Gh.bl at e ⊢
  split at e
  · exact h1 r e
  · exact h2 r e
  · cases e
theorem Ref.dP {β:Type} {e x:Exit} {a b a' b':Option β} (h1:Ref a a') (h2:Ref b b'):Ref (dP e x a b) (dP e x a' b'):=fun r h=>by
  unfold Gh.dP at h ⊢
  split at h
  · rename_i hc; rw [if_pos hc]; exact h1 r h
  · rename_i hc; rw [if_neg hc]; exact h2 r h
theorem Ref.gd {v:Value} {w:Bool} {x y:Option (Value×GS)} {G:GS} (h:Ref x y):Ref (gd v w x G) (gd v w y G):=fun r e=>by
  unfold Gh.gd at e ⊢
  split at e
  · rename_i hc; rw [if_pos hc]; exact h r e
  · rename_i hc; rw [if_neg hc]; exact e
theorem Ref.IV {β:Type} {r:Lp} {a b:Option β} (h:Ref a b):Ref (if r.st= .ready then a else none) (if r.st= .ready then b else none):=by
  split
  · exact h
  · exact .nil _
def eA (b c:Bool):Prop:=b=true→c=true
theorem eA.rfl' (b:Bool):eA b b:=id
theorem eA.and {a b c d:Bool} (h:eA a c) (k:eA b d):eA (a&&b) (c&&d):=fun e=>by
  simp only [Bool.and_eq_true] at e ⊢; exact ⟨h e.1,k e.2⟩
theorem eA.or {a b d:Bool} (k:eA b d):eA (a||b) (a||d):=fun e=>by
  simp only [Bool.or_eq_true] at e ⊢; exact e.imp id k
theorem eA.bp {x y:Option Value} {v:Value} (h:Ref x y):eA (bp x v) (bp y v):=fun e=>by
  cases x with
  | none=>cases e
  | some a=>rw [h a rfl]; exact e
theorem Ref.eV {β:Type} {b c:Bool} {x y:Option β} (hb:eA b c) (h:Ref x y):Ref (eV b x) (eV c y):=fun r e=>by
  unfold Gh.eV at e ⊢
  split at e
  · rename_i hc; rw [if_pos (hb hc)]; exact h r e
  · cases e
def fN {β:Type} (n:Nat) (k:Nat→β):β:=Nat.casesOn (motive:=fun _=>β) n (k 0) (fun m=>k (Nat.succ m))
theorem tN {β:Type} (n:Nat) (k:Nat→β):fN n k=k n:=by cases n<;>rfl
def fI {β:Type} (i:Int) (k:Int→β):β:=Int.casesOn (motive:=fun _=>β) i (fun n=>fN n fun n=>k (Int.ofNat n)) (fun n=>fN n fun n=>k (Int.negSucc n))
theorem IW {β:Type} (i:Int) (k:Int→β):fI i k=k i:=by cases i<;>simp [fI,tN]
def ik (k:IntKind):Nat:=match k with | .i8=>0 | .i16=>1 | .i32=>2 | .i64=>3 | .u8=>4 | .u16=>5 | .u32=>6 | .u64=>7
def gZ (k:IntKind):Nat:=match k with | .i8=>127 | .i16=>32767 | .i32=>2147483647 | .i64=>9223372036854775807 | .u8=>255 | .u16=>65535 | .u32=>4294967295 | .u64=>18446744073709551615
def Ew (k:IntKind):Bool:=match k with | .i8=>true | .i16=>true | .i32=>true | .i64=>true | _=>false
def wr (k:IntKind) (i:Int):Int:=Int.casesOn (motive:=fun _=>Int) i (fun n=>bif Nat.ble n (gZ k) then Int.ofNat n else k.wrap (Int.ofNat n)) (fun n=>bif (Ew k&&Nat.ble n (gZ k)) then Int.negSucc n else k.wrap (Int.negSucc n))
theorem Qe (k:IntKind):gZ k<2 ^ k.bits:=by cases k<;>decide
theorem Qf (k:IntKind) (h:k.signed=true):gZ k+1=2 ^ (k.bits - 1):=by cases k<;>first | decide | cases h
theorem Yy (k:IntKind):2 ^ k.bits=2*2 ^ (k.bits - 1):=by cases k<;>decide
theorem Yz (k:IntKind):Ew k=k.signed:=by cases k<;>rfl
theorem Qg (k:IntKind) (i:Int):wr k i=k.wrap i:=by
  have hb:=Qe k
  have h2:=Yy k
  cases i with
  | ofNat n =>
    show (bif Nat.ble n (gZ k) then Int.ofNat n else k.wrap (Int.ofNat n))=_
    cases h:Nat.ble n (gZ k)
    · rfl
    · have hn:=Nat.le_of_ble_eq_true h
      simp only [cond_true]
      have e:(Int.ofNat n) % ((2:Int) ^ k.bits)=(n:Int):=Int.emod_eq_of_lt (Int.natCast_nonneg n) (by
        have:((2:Int) ^ k.bits)=((2 ^ k.bits:Nat):Int):=by simp
        rw [this]; simp only [Int.ofNat_eq_natCast]; omega)
      unfold IntKind.wrap
      simp only [e]
      rw [if_neg]
      · rfl
      · intro hc
        simp only [Bool.and_eq_true,decide_eq_true_eq,ge_iff_le] at hc
        have hh:=Qf k hc.1
        have:((2:Int) ^ (k.bits - 1))=((2 ^ (k.bits - 1):Nat):Int):=by simp
        have:=hc.2
        omega
  | negSucc n =>
    show (bif (Ew k&&Nat.ble n (gZ k)) then Int.negSucc n else k.wrap (Int.negSucc n))=_
    cases h:(Ew k&&Nat.ble n (gZ k))
    · rfl
    · simp only [Bool.and_eq_true,Yz] at h
      have hn:=Nat.le_of_ble_eq_true h.2
      have hh:=Qf k h.1
      simp only [cond_true]
      have ep:((2:Int) ^ k.bits)=((2 ^ k.bits:Nat):Int):=by simp
      have eh:((2:Int) ^ (k.bits - 1))=((2 ^ (k.bits - 1):Nat):Int):=by simp
      have e:(Int.negSucc n) % ((2:Int) ^ k.bits)=(2:Int) ^ k.bits - 1 - n:=by
        rw [Int.negSucc_emod _ (by omega)]
        rw [Int.emod_eq_of_lt (Int.natCast_nonneg n) (by omega)]
      unfold IntKind.wrap
      simp only [e]
      rw [if_pos]
      · omega
      · simp only [Bool.and_eq_true,decide_eq_true_eq,ge_iff_le]
        exact ⟨h.1,by omega⟩
def vy (k:IntKind) (i:Int):Option Value:=fI (wr k i) fun r=>some (.int k r)
theorem BK (k:IntKind) (i:Int):vy k i=some (.int k (k.wrap i)):=by simp [vy,IW,Qg]
def BL (m n:Int):Bool:=Int.casesOn (motive:=fun _=>Bool) m (fun a=>Int.casesOn (motive:=fun _=>Bool) n (fun b=>Nat.beq a b) (fun _=>false)) (fun a=>Int.casesOn (motive:=fun _=>Bool) n (fun _=>false) (fun b=>Nat.beq a b))
theorem IX (m n:Int):BL m n=(m==n):=by
  rw [Bool.eq_iff_iff,beq_iff_eq]
  cases m with
  | ofNat a=>cases n with
    | ofNat b=>show Nat.beq a b=true↔_; rw [Nat.beq_eq]; exact ⟨fun h=>(by rw [h]),fun h=>(by cases h; rfl)⟩
    | negSucc b=>exact ⟨fun h=>(by cases h),fun h=>(by cases h)⟩
  | negSucc a=>cases n with
    | ofNat b=>exact ⟨fun h=>(by cases h),fun h=>(by cases h)⟩
    | negSucc b=>show Nat.beq a b=true↔_; rw [Nat.beq_eq]; exact ⟨fun h=>(by rw [h]),fun h=>(by cases h; rfl)⟩
def tO (m n:Int):Bool:=Int.casesOn (motive:=fun _=>Bool) m (fun a=>Int.casesOn (motive:=fun _=>Bool) n (fun b=>Nat.ble (Nat.succ a) b) (fun _=>false)) (fun a=>Int.casesOn (motive:=fun _=>Bool) n (fun _=>true) (fun b=>Nat.ble (Nat.succ b) a))
theorem YA (a b:Nat):(Nat.ble a b=true)↔a≤b:=⟨Nat.le_of_ble_eq_true,Nat.ble_eq_true_of_le⟩
theorem zh (m n:Int):tO m n=decide (m<n):=by
  rw [Bool.eq_iff_iff,decide_eq_true_eq]
  cases m<;>cases n<;>simp [tO,YA]<;>omega
def Ey (m n:Int):Bool:=!tO n m
theorem YB (m n:Int):Ey m n=decide (m≤n):=by
  unfold Ey; rw [zh,Bool.eq_iff_iff]; simp
def two (k:IntKind) (m n:Int) (f:Nat→Nat→Nat) (e:Option Value):Option Value :=
  Int.casesOn (motive:=fun _=>Option Value) m (fun a=>Int.casesOn (motive:=fun _=>Option Value) n (fun b=>bif (Nat.ble a (gZ k)&&Nat.ble b (gZ k)) then fN (f a b) (fun r=>some (.int k (Int.ofNat r))) else e) (fun _=>e)) (fun _=>e)
theorem Qh {k:IntKind} {m n:Int} {f:Nat→Nat→Nat} {e:Option Value} (h:∀ a b:Nat,m=a→n=b→a≤gZ k→b≤gZ k→some (.int k (Int.ofNat (f a b)))=e):two k m n f e=e:=by
  cases m with
  | negSucc a=>rfl
  | ofNat a =>
    cases n with
    | negSucc b=>rfl
    | ofNat b =>
      show (bif (Nat.ble a (gZ k)&&Nat.ble b (gZ k)) then fN (f a b) (fun r=>some (.int k (Int.ofNat r))) else e)=e
      cases hc:(Nat.ble a (gZ k)&&Nat.ble b (gZ k))
      · rfl
      · simp only [Bool.and_eq_true] at hc
        rw [cond_true,tN]
        exact h a b rfl rfl (Nat.le_of_ble_eq_true hc.1) (Nat.le_of_ble_eq_true hc.2)
theorem Qi {k:IntKind} {n:Nat} (h:n≤gZ k):k.wrap (n:Int)=n:=by
  rw [← Qg]
  show (bif Nat.ble n (gZ k) then Int.ofNat n else k.wrap (Int.ofNat n))=_
  rw [Nat.ble_eq_true_of_le h]; rfl
theorem Ez (k:IntKind) {a:Nat} (h:a≤gZ k):(BitVec.ofInt k.bits (a:Int)).toNat=a:=by
  have:=Qe k
  rw [BitVec.toNat_ofInt]
  have e:((a:Int) % ((2 ^ k.bits:Nat):Int))=((a % 2 ^ k.bits:Nat):Int):=by simp
  rw [e,Int.toNat_natCast,Nat.mod_eq_of_lt (by omega)]
theorem YC (k:IntKind):∃ j,gZ k=2 ^ j - 1:=by cases k<;>first | exact ⟨7,rfl⟩ | exact ⟨15,rfl⟩ | exact ⟨31,rfl⟩ | exact ⟨63,rfl⟩ | exact ⟨8,rfl⟩ | exact ⟨16,rfl⟩ | exact ⟨32,rfl⟩ | exact ⟨64,rfl⟩
def Qj (k:IntKind) (m n:Int):Option Value:=two k m n Nat.land (D2 k m n)
theorem YD (k:IntKind) (m n:Int):Qj k m n=D2 k m n:=Qh fun a b ha hb h1 h2=>by
  subst ha; subst hb
  unfold D2
  rw [BitVec.toNat_and,Ez k h1,Ez k h2,Qi (Nat.le_trans Nat.and_le_left h1)]
  rfl
def Qk (k:IntKind) (m n:Int):Option Value:=two k m n Nat.lor (D3 k m n)
theorem YE {k:IntKind} {a b:Nat} (h1:a≤gZ k) (h2:b≤gZ k):a ||| b≤gZ k:=by
  obtain ⟨j,hj⟩:=YC k
  have hp:=Nat.two_pow_pos j
  have:=Nat.or_lt_two_pow (n:=j) (x:=a) (y:=b) (by omega) (by omega)
  omega
theorem YF (k:IntKind) (m n:Int):Qk k m n=D3 k m n:=Qh fun a b ha hb h1 h2=>by
  subst ha; subst hb
  unfold D3
  rw [BitVec.toNat_or,Ez k h1,Ez k h2,Qi (YE h1 h2)]
  rfl
def IY (k:IntKind) (m n:Int):Option Value:=bif BL n 0 then none else vy k (Int.tdiv m n)
def IZ (k:IntKind) (m n:Int):Option Value:=bif BL n 0 then none else fI (Int.tmod m n) fun r=>some (.int k r)
def I0 (k:IntKind) (m n:Int):Option Value:=bif tO n 0 then none else vy k (Int.mul m (Int.ofNat (Nat.pow 2 (bif Nat.ble n.toNat k.bits then n.toNat else k.bits))))
def I6 (k:IntKind) (m n:Int):Option Value:=bif tO n 0 then none else fI (Int.fdiv m (Int.ofNat (Nat.pow 2 (bif Nat.ble n.toNat k.bits then n.toNat else k.bits)))) fun r=>some (.int k r)
theorem Ql (a b:Nat):(bif Nat.ble a b then a else b)=min a b:=by
  cases h:Nat.ble a b
  · have:¬ a≤b:=fun hh=>by rw [Nat.ble_eq_true_of_le hh] at h; cases h
    simp; omega
  · have:=Nat.le_of_ble_eq_true h
    simp; omega
theorem YG (k:IntKind) (m n:Int):IY k m n=D0 k m n:=by
  unfold IY D0
  rw [IX,BK]
  by_cases h:n=0
  · simp [h]
  · have:(n==0)=false:=by simpa using h
    rw [this,if_neg h]; rfl
theorem YH (k:IntKind) (m n:Int):IZ k m n=D1 k m n:=by
  unfold IZ D1
  rw [IX,IW]
  by_cases h:n=0
  · simp [h]
  · have:(n==0)=false:=by simpa using h
    rw [this,if_neg h]; rfl
theorem YI (k:IntKind) (m n:Int):I0 k m n=D4 k m n:=by
  unfold I0 D4
  rw [zh,BK,Ql]
  by_cases h:n<0
  · simp [h]
  · simp [h]
theorem YJ (k:IntKind) (m n:Int):I6 k m n=D5 k m n:=by
  unfold I6 D5
  rw [zh,IW,Ql]
  by_cases h:n<0
  · simp [h]
  · simp [h]
def kI (op:BinOp) (k:IntKind) (m n:Int):Option Value :=
  match op with
  | .add=>vy k (Int.add m n)
  | .sub=>vy k (Int.sub m n)
  | .mul=>vy k (Int.mul m n)
  | .quo=>IY k m n
  | .rem=>IZ k m n
  | .and=>Qj k m n
  | .or=>Qk k m n
  | .xor=>OW k m n
  | .shl=>I0 k m n
  | .shr=>I6 k m n
  | .andNot=>OX k m n
  | .eql=>some (.bool (BL m n))
  | .neq=>some (.bool (!BL m n))
  | .lss=>some (.bool (tO m n))
  | .leq=>some (.bool (Ey m n))
  | .gtr=>some (.bool (tO n m))
  | .geq=>some (.bool (Ey n m))
theorem YK (op:BinOp) (k:IntKind) (m n:Int):kI op k m n=jY op k m n:=by
  cases op<;>simp only [kI,jY,YG,YH,YD,YF,YI,YJ,BK,IX,zh,YB]<;>rfl
theorem BM (k k':IntKind):Nat.beq (ik k) (ik k')=decide (k=k'):=by cases k<;>cases k' <;>rfl
def I7 (P:Program) (op:BinOp) (t:TypeId) (x y:Operand) (a b:Value):Option Value :=
  match a with
  | .int k m=>(match b with | .int k' n=>bif (Nat.beq (ik k) (ik k')||wg op) then kI op k m n else none | b=>bB P op t x y a b)
  | a=>bB P op t x y a b
def bn (P:Program) (q:Bool) (op:BinOp) (t:TypeId) (x y:Operand) (a b:Value):Option Value:=bif q then I7 P op t x y a b else bB P op t x y a b
theorem YL (P:Program) (op:BinOp) (t:TypeId) (x y:Operand) (a b:Value):I7 P op t x y a b=bB P op t x y a b:=by
  unfold I7
  split
  · split
    · rw [BM,YK]
      simp only [bB,iK]
      rename_i k m _ k' n
      by_cases h:(decide (k=k')||wg op)=true
      · rw [h,if_pos (by simpa using h)]; rfl
      · rw [Bool.not_eq_true] at h
        rw [h,if_neg (by simpa using h)]; rfl
    · rfl
  · rfl
@[simp] theorem YM (P:Program) (q:Bool) (op:BinOp) (t:TypeId) (x y:Operand) (a b:Value):bn P q op t x y a b=bB P op t x y a b:=by
  cases q
  · rfl
  · exact YL P op t x y a b
def BN {β:Type} (G:GS) (o:bK) (k:Nat→GS→β):β:=GS.casesOn (motive:=fun _=>β) G fun hp nx lp nl=>fN nx fun n=>k n ⟨sS hp n (some o),Nat.succ n,lp,nl⟩
theorem zi {β:Type} (G:GS) (o:bK) (k:Nat→GS→β):BN G o k=k G.nx (G.push o):=by cases G; simp [BN,tN,GS.push]
def Qm (G:GS) (b:Nat) (o:bK):GS:=GS.casesOn (motive:=fun _=>GS) G fun hp nx lp nl=>⟨sS hp b (some o),nx,lp,nl⟩
theorem YN (G:GS) (b:Nat) (o:bK):Qm G b o=G.put b o:=by cases G; rfl
def I8 (b o:Nat) (G:GS):Option Value:=match G.obj b with | some ob=>bif Nat.beq ob.mode 2 then none else mQ ob.cells o | none=>none
theorem BO (a b:Nat):Nat.beq a b=decide (a=b):=by rw [Bool.eq_iff_iff]; simp [Nat.beq_eq]
theorem Qn (b o:Nat) (G:GS):I8 b o G=G.cell b o:=by
  unfold I8 GS.cell
  cases G.obj b with
  | none=>rfl
  | some ob =>
    simp only [BO,AF]
    by_cases h:ob.mode=2<;>simp [h]
def Qo (b o:Nat) (v:Value) (G:GS):Option GS:=match G.obj b with
  | some ob=>bK.casesOn (motive:=fun _=>Option GS) ob fun cells esz opn mode=>bif Nat.beq mode 1 then (match splice cells o [v] with | some c=>some (Qm G b ⟨c,esz,opn,mode⟩) | none=>none) else none
  | none=>none
def cR (sz b o:Nat) (v:Value) (G:GS):Option GS:=bif (one v&&Nat.beq sz 1) then Qo b o v G else lq sz b o v G
theorem zj {v:Value} (h:one v=true):v.cells= #[v]:=by cases v<;>first | rfl | cases h
theorem Qp (sz b o:Nat) (v:Value) (G:GS):cR sz b o v G=lq sz b o v G:=by
  unfold cR
  cases hc:(one v&&Nat.beq sz 1)
  · rfl
  · simp only [Bool.and_eq_true,BO,decide_eq_true_eq] at hc
    obtain ⟨h1,rfl⟩:=hc
    simp only [cond_true]
    unfold lq lR Qo
    rw [zj h1]
    simp only [List.size_toArray,List.length_cons,List.length_nil,if_true]
    cases G.obj b with
    | none=>rfl
    | some ob =>
      obtain ⟨cells,esz,opn,mode⟩:=ob
      simp only [BO,List.all_cons,h1,List.all_nil,Bool.and_true,YN]
      by_cases hm:mode=1
      · simp only [hm,decide_true,cond_true,if_true]; rfl
      · simp [hm]
def vK {β:Type} (v:Value) (k:Value→β):β:=match v with
  | .bool b=>k (.bool b)
  | .int t n=>k (.int t n)
  | .pointer a=>k (.pointer a)
  | .slice a n c=>k (.slice a n c)
  | .func f a b=>k (.func f a b)
  | .agg l=>k (.agg l)
  | .nilFunc=>k .nilFunc
  | v=>k v
theorem YO {β:Type} (v:Value) (k:Value→β):vK v k=k v:=by cases v<;>rfl
section
variable (P:Program) (q:Bool)
def bV {β:Type} (v:Value) (k:Value→Option β):Option β:=bif q then vK v k else k v
@[simp] theorem YP {β:Type} (v:Value) (k:Value→Option β):bV q v k=k v:=by cases q<;>simp [bV,YO]
def un (o:UnOp) (x:Value):Option Value:=bif q then (match x with | .bool b=>(match o with | .not=>some (.bool (!b)) | o=>wK P o x) | x=>wK P o x) else wK P o x
@[simp] theorem YQ (o:UnOp) (x:Value):un P q o x=wK P o x:=by
  cases q
  · rfl
  · unfold un
    simp only [cond_true]
    split
    · split
      · rename_i b; cases b<;>rfl
      · rfl
    · rfl
class zk (s d:TypeId) (ks kd:outParam IntKind):Prop where ok:∀ n,vi P s d (.int ks n)=some (.int kd (kd.wrap n))
def cv (s d:TypeId) (ks kd:IntKind) (x:Value):Option Value:=bif q then (match x with | .int k n=>bif Nat.beq (ik k) (ik ks) then vy kd n else vi P s d x | x=>vi P s d x) else vi P s d x
theorem Qq (s d:TypeId) (ks kd:IntKind) [h:zk P s d ks kd] (x:Value):cv P q s d ks kd x=vi P s d x:=by
  cases q
  · rfl
  · unfold cv
    simp only [cond_true]
    split
    · rw [BM]
      rename_i k n
      by_cases hk:k=ks
      · subst hk; simp [BK,h.ok]
      · simp [hk]
    · rfl
class BP (t:TypeId):Prop where ok:∀ v,Br P t v=some (.iface t v)
def vv (t:TypeId) (x:Value):Option Value:=bif q then some (.iface t x) else Br P t x
theorem Qr (t:TypeId) [h:BP P t] (x:Value):vv P q t x=Br P t x:=by
  cases q
  · rfl
  · exact (h.ok x).symm
class aJ (t f:Nat) (off:outParam Nat):Prop where ok:∀ b o s,qn P t (.pointer (some ⟨b,o,s⟩)) f=some (.pointer (some ⟨b,o+off,none⟩))
def fa (t f off:Nat) (v:Value):Option Value:=bif q then (match v with | .pointer (some a)=>some (.pointer (some ⟨a.block,a.off+off,none⟩)) | v=>qn P t v f) else qn P t v f
theorem Qs (t f off:Nat) [h:aJ P t f off] (v:Value):fa P q t f off v=qn P t v f:=by
  cases q
  · rfl
  · unfold fa
    simp only [cond_true]
    split
    · exact (h.ok _ _ _).symm
    · rfl
def eW {β:Type} (j:Int) (n:Nat) (K:Nat→Option β):Option β:=Int.casesOn (motive:=fun _=>Option β) j (fun a=>bif Nat.ble (Nat.succ a) n then K a else none) (fun _=>none)
theorem xh {β:Type} (j:Int) (n:Nat) (K:Nat→Option β):eW j n K=if 0≤j∧j<n then K j.toNat else none:=by
  cases j with
  | negSucc a=>rw [if_neg (by omega)]; rfl
  | ofNat a =>
    show (bif Nat.ble (Nat.succ a) n then K a else none)=_
    by_cases h:a<n
    · rw [Nat.ble_eq_true_of_le (by omega),if_pos (by simp only [Int.ofNat_eq_natCast]; omega)]; rfl
    · have:Nat.ble (Nat.succ a) n=false:=by
        cases hb:Nat.ble (Nat.succ a) n
        · rfl
        · exact absurd (Nat.le_of_ble_eq_true hb) h
      rw [this,if_neg (by simp only [Int.ofNat_eq_natCast]; omega)]; rfl
class oB (t:Nat) (sz:outParam Nat):Prop where ok:∀ b o s n c k j,jT P t (.slice (some ⟨b,o,s⟩) n c) (.int k j)=if 0≤j∧j<(n:Int) then some (.pointer (some ⟨b,o+j.toNat*sz,none⟩)) else none
def fW (t sz:Nat) (v i:Value):Option Value:=bif q then (match v with
  | .slice (some a) n _=>(match i with | .int _ j=>eW j n fun j=>fN (a.off+j*sz) fun o=>some (.pointer (some ⟨a.block,o,none⟩)) | i=>jT P t v i)
  | v=>jT P t v i) else jT P t v i
theorem Qt (t sz:Nat) [h:oB P t sz] (v i:Value):fW P q t sz v i=jT P t v i:=by
  cases q
  · rfl
  · unfold fW
    simp only [cond_true]
    split
    · split
      · rename_i a n c _ k j
        rw [xh,h.ok a.block a.off a.spot]
        simp only [tN]
      · rfl
    · rfl
class zm (t:Nat) (n sz:outParam Nat):Prop where ok:∀ b o s k j,jT P t (.pointer (some ⟨b,o,s⟩)) (.int k j)=if 0≤j∧j<(n:Int) then some (.pointer (some ⟨b,o+j.toNat*sz,none⟩)) else none
def xi (t n sz:Nat) (v i:Value):Option Value:=bif q then (match v with
  | .pointer (some a)=>(match i with | .int _ j=>eW j n fun j=>fN (a.off+j*sz) fun o=>some (.pointer (some ⟨a.block,o,none⟩)) | i=>jT P t v i)
  | v=>jT P t v i) else jT P t v i
theorem Qu (t n sz:Nat) [h:zm P t n sz] (v i:Value):xi P q t n sz v i=jT P t v i:=by
  cases q
  · rfl
  · unfold xi
    simp only [cond_true]
    split
    · split
      · rename_i a _ k j
        rw [xh,h.ok a.block a.off a.spot]
        simp only [tN]
      · rfl
    · rfl
class eC (t:TypeId):Prop where ok:∀ b o s G,jE P t (.pointer (some ⟨b,o,s⟩)) G=G.cell b o
class gF (t:TypeId) (sz:outParam Nat):Prop where ok:∀ b o s G,jE P t (.pointer (some ⟨b,o,s⟩)) G=fO sz b o G
def ld (t:TypeId) (v:Value) (G:GS):Option Value:=bif q then (match v with | .pointer (some a)=>I8 a.block a.off G | v=>jE P t v G) else jE P t v G
def de (t:TypeId) (sz:Nat) (v:Value) (G:GS):Option Value:=bif q then (match v with | .pointer (some a)=>fO sz a.block a.off G | v=>jE P t v G) else jE P t v G
theorem Qv (t:TypeId) [h:eC P t] (v:Value) (G:GS):ld P q t v G=jE P t v G:=by
  cases q
  · rfl
  · unfold ld
    simp only [cond_true]
    split
    · rename_i a; rw [Qn]; exact (h.ok a.block a.off a.spot G).symm
    · rfl
theorem Qw (t:TypeId) (sz:Nat) [h:gF P t sz] (v:Value) (G:GS):de P q t sz v G=jE P t v G:=by
  cases q
  · rfl
  · unfold de
    simp only [cond_true]
    split
    · rename_i a; exact (h.ok a.block a.off a.spot G).symm
    · rfl
def nm (G:GS):Option (Value×GS):=some (.map (some G.nl),G.Ic)
class cT (t:TypeId) (sz:outParam Nat):Prop where ok:∀ b o s v G,mT P t (.pointer (some ⟨b,o,s⟩)) v G=lq sz b o v G
def st (t:TypeId) (sz:Nat) (a v:Value) (G:GS):Option GS:=bif q then (match a with | .pointer (some a)=>cR sz a.block a.off v G | a=>mT P t a v G) else mT P t a v G
theorem Qx (t:TypeId) (sz:Nat) [h:cT P t sz] (a v:Value) (G:GS):st P q t sz a v G=mT P t a v G:=by
  cases q
  · rfl
  · unfold st
    simp only [cond_true]
    split
    · rename_i a; rw [Qp]; exact (h.ok a.block a.off a.spot v G).symm
    · rfl
def qK:List (Nat×Nat×Nat)→List Value→List (Nat×Value)
  | p::ps,v::vs=>(p.1,v)::qK ps vs
  | _,_=>[]
def ly:List (Nat×Nat×Nat)→List Value→List (Nat×Nat×Value)
  | p::ps,v::vs=>(p.2.1,p.2.2,v)::ly ps vs
  | _,_=>[]
theorem EA {place:Nat→Option (Nat×Nat)}:∀ (pl:List (Nat×Nat×Nat)) (vs cs:List Value),(∀ p∈pl,place p.1=some (p.2.1,p.2.2))→qm place cs (qK pl vs)=oz cs (ly pl vs)
  | [],vs,cs,_=>by cases vs<;>rfl
  | p::ps,[],cs,_=>rfl
  | p::ps,v::vs,cs,h=>by
    simp only [qK,ly,qm,oz,h p (by simp)]
    split
    · cases splice cs p.2.1 v.cells.toList with
      | none=>rfl
      | some c=>exact EA ps vs c fun p hp=>h p (by simp [hp])
    · rfl
def I9 (t:TypeId) (i:Nat):Option (Nat×Nat):=match P.underlying t with
  | some (.struct fs)=>if fs.toList.all (fun f=>(dJ P f.type).isSome) then Dl P fs i else none
  | some (.array _ e)=>match dJ P e with | some s=>some (i*s,s) | none=>none
  | _=>none
def Ja (a:Option (Nat×Nat)) (x y:Nat):Bool:=match a with | some p=>Nat.beq p.1 x&&Nat.beq p.2 y | none=>false
def BQ (t:TypeId):List (Nat×Nat×Nat)→Bool
  | []=>true
  | p::ps=>Ja (I9 P t p.1) p.2.1 p.2.2&&BQ t ps
def Jb (t:TypeId):Bool:=match P.underlying t with
  | some (.struct fs)=>fs.toList.all (fun f=>(dJ P f.type).isSome)
  | some (.array _ e)=>(dJ P e).isSome
  | _=>false
theorem YR {a:Option (Nat×Nat)} {x y:Nat} (h:Ja a x y=true):a=some (x,y):=by
  cases a with
  | none=>cases h
  | some p =>
    simp only [Ja,Bool.and_eq_true] at h
    obtain ⟨p1,p2⟩:=p
    have e1:p1=x:=Nat.eq_of_beq_eq_true h.1
    have e2:p2=y:=Nat.eq_of_beq_eq_true h.2
    rw [e1,e2]
theorem Qy {t:TypeId}:∀ {pl:List (Nat×Nat×Nat)},BQ P t pl=true→∀ p∈pl,I9 P t p.1=some (p.2.1,p.2.2)
  | [],_,p,h=>by simp at h
  | x::ps,h,p,hp=>by
    simp only [BQ,Bool.and_eq_true] at h
    rcases List.mem_cons.1 hp with rfl | hp
    · exact YR h.1
    · exact Qy h.2 p hp
class jH (t:TypeId) (z:List Value) (pl:List (Nat×Nat×Nat)):Prop where ok:∀ vs,rG P t (qK pl vs)=sa z (ly pl vs)
theorem lA {t:TypeId} {z:List Value} {pl:List (Nat×Nat×Nat)} (hz:mR P t=some z) (ha:Jb P t=true) (hp:BQ P t pl=true):jH P t z pl where
  ok vs:=by
    have h:=Qy P hp
    unfold rG sa
    rw [hz]
    simp only
    unfold Jb at ha
    unfold I9 at h
    split
    · rename_i fs hu
      rw [hu] at ha h
      simp only at ha h
      rw [if_pos ha]
      rw [EA pl vs z fun p hp=>by have:=h p hp; rwa [if_pos ha] at this]
      cases oz z (ly pl vs)<;>rfl
    · rename_i n e hu
      rw [hu] at ha h
      simp only at ha h
      cases hs:dJ P e with
      | none=>rw [hs] at ha; cases ha
      | some s =>
        rw [hs] at h
        simp only
        rw [EA pl vs z fun p hp=>h p hp]
        cases oz z (ly pl vs)<;>rfl
    · rename_i h1 h2
      split at ha
      · rename_i fs hu; exact absurd hu (h1 _)
      · rename_i n e hu; exact absurd hu (h2 _ _)
      · cases ha
def bd (t:TypeId) (z:List Value) (pl:List (Nat×Nat×Nat)) (vs:List Value):Option Value:=bif q then sa z (ly pl vs) else rG P t (qK pl vs)
theorem YS (t:TypeId) (z:List Value) (pl:List (Nat×Nat×Nat)) [h:jH P t z pl] (vs:List Value):bd P q t z pl vs=rG P t (qK pl vs):=by
  cases q
  · rfl
  · exact (h.ok vs).symm
class lC (t n:Nat) (z:List Value) (sz:Nat) (pl:List (Nat×Nat×Nat)):Prop where ok:∀ vs G,y7 P t n (qK pl vs) G=pC z (ly pl vs) n sz G
def Qz (t:TypeId):Option (Nat×List Value):=match P.underlying t with
  | some (.slice e)=>match dJ P e,mR P e with | some s,some z=>some (s,z) | _,_=>none
  | _=>none
def EB (s:Nat):List (Nat×Nat×Nat)→Bool
  | []=>true
  | p::ps=>(Nat.beq p.2.1 (p.1*s)&&Nat.beq p.2.2 s)&&EB s ps
theorem QA {s:Nat}:∀ {pl:List (Nat×Nat×Nat)},EB s pl=true→∀ p∈pl,some (p.1*s,s)=some (p.2.1,p.2.2)
  | [],_,p,h=>by simp at h
  | x::ps,h,p,hp=>by
    simp only [EB,Bool.and_eq_true] at h
    rcases List.mem_cons.1 hp with rfl | hp
    · rw [Nat.eq_of_beq_eq_true h.1.1,Nat.eq_of_beq_eq_true h.1.2]
    · exact QA h.2 p hp
theorem tP {t n s:Nat} {z z0:List Value} {pl:List (Nat×Nat×Nat)} (h1:Qz P t=some (s,z0)) (h2:rep z0 n=z) (h3:(s≠0∧n*s≤2 ^ 24)) (hp:EB s pl=true):lC P t n z s pl where
  ok vs G:=by
    unfold Qz at h1
    unfold y7 pC
    split at h1
    · rename_i e hu
      rw [hu]
      simp only
      split at h1
      · rename_i s' z' e1 e2
        simp only [Option.some.injEq,Prod.mk.injEq] at h1
        obtain ⟨rfl,rfl⟩:=h1
        rw [e1,e2]
        simp only
        rw [if_pos h3,h2,EA pl vs z fun p dB=>QA hp p dB]
      · cases h1
    · cases h1
def bs (t n:Nat) (z:List Value) (sz:Nat) (pl:List (Nat×Nat×Nat)) (vs:List Value) (G:GS):Option (Value×GS):=bif q then (match oz z (ly pl vs) with | some c=>BN G ⟨c,sz,false,1⟩ fun b G'=>some (.slice (some ⟨b,0,none⟩) n n,G') | none=>none) else y7 P t n (qK pl vs) G
theorem tQ (t n:Nat) (z:List Value) (sz:Nat) (pl:List (Nat×Nat×Nat)) [h:lC P t n z sz pl] (vs:List Value) (G:GS):bs P q t n z sz pl vs G=y7 P t n (qK pl vs) G:=by
  cases q
  · rfl
  · rw [h.ok]
    unfold bs pC
    simp only [cond_true,zi]
    rfl
class zn (t f:Nat) (off:outParam Nat):Prop where ok:∀ l,lP P t (.agg ⟨l⟩) f=mQ l off
def fd (t f off:Nat) (v:Value):Option Value:=bif q then (match v with | .agg l=>mQ l.toList off | v=>lP P t v f) else lP P t v f
theorem QB (t f off:Nat) [h:zn P t f off] (v:Value):fd P q t f off v=lP P t v f:=by
  cases q
  · rfl
  · unfold fd
    simp only [cond_true]
    split
    · exact (h.ok _).symm
    · rfl
def xj (sz off:Nat) (l:List Value):Option Value:=match takeN sz (uI off l) with | some l=>some (.agg ⟨l⟩) | none=>none
class Jc (t f:Nat) (off sz:outParam Nat):Prop where ok:∀ l,lP P t (.agg ⟨l⟩) f=xj sz off l
def zo (t f off sz:Nat) (v:Value):Option Value:=bif q then (match v with | .agg l=>xj sz off l.toList | v=>lP P t v f) else lP P t v f
theorem QC (t f off sz:Nat) [h:Jc P t f off sz] (v:Value):zo P q t f off sz v=lP P t v f:=by
  cases q
  · rfl
  · unfold zo
    simp only [cond_true]
    split
    · exact (h.ok _).symm
    · rfl
class EC (t:Nat) (n:outParam Nat):Prop where ok:∀ l k j,jS P t (.agg ⟨l⟩) (.int k j)=if 0≤j∧j<(n:Int) then mQ l (j.toNat*1) else none
def ix (t n:Nat) (v i:Value):Option Value:=bif q then (match v with | .agg l=>(match i with | .int _ j=>eW j n fun j=>mQ l.toList j | i=>jS P t v i) | v=>jS P t v i) else jS P t v i
theorem QD (t n:Nat) [h:EC P t n] (v i:Value):ix P q t n v i=jS P t v i:=by
  cases q
  · rfl
  · unfold ix
    simp only [cond_true]
    split
    · split
      · rename_i l _ k j
        have:=h.ok l.toList k j
        simp only [Nat.mul_one] at this
        rw [xh]
        exact this.symm
      · rfl
    · rfl
class Jd (t:Nat) (n sz:outParam Nat):Prop where ok:∀ l k j,jS P t (.agg ⟨l⟩) (.int k j)=if 0≤j∧j<(n:Int) then xj sz (j.toNat*sz) l else none
def BR (t n sz:Nat) (v i:Value):Option Value:=bif q then (match v with | .agg l=>(match i with | .int _ j=>eW j n fun j=>xj sz (j*sz) l.toList | i=>jS P t v i) | v=>jS P t v i) else jS P t v i
theorem QE (t n sz:Nat) [h:Jd P t n sz] (v i:Value):BR P q t n sz v i=jS P t v i:=by
  cases q
  · rfl
  · unfold BR
    simp only [cond_true]
    split
    · split
      · rename_i l _ k j
        rw [xh]
        exact (h.ok l.toList k j).symm
      · rfl
    · rfl
class pD (t:TypeId):Prop where ok:∀ a n c,mS P t (.slice a n c)=some (.int .i64 (n:Int))
def ln (t:TypeId) (v:Value):Option Value:=bif q then (match v with | .slice _ n _=>fN n fun n=>some (.int .i64 (Int.ofNat n)) | v=>mS P t v) else mS P t v
theorem QF (t:TypeId) [h:pD P t] (v:Value):ln P q t v=mS P t v:=by
  cases q
  · rfl
  · unfold ln
    simp only [cond_true]
    split
    · rw [tN,h.ok]; rfl
    · rfl
class Je (t:Nat) (n:outParam Nat):Prop where ok:∀ v,mS P t v=some (.int .i64 (n:Int))
def BS (t n:Nat) (v:Value):Option Value:=bif q then some (.int .i64 (Int.ofNat n)) else mS P t v
theorem QG (t n:Nat) [h:Je P t n] (v:Value):BS P q t n v=mS P t v:=by
  cases q
  · rfl
  · exact (h.ok v).symm
class xk (ts tx:Nat) (sz bt:outParam Nat):Prop where ok:∀ s x G,qp P ts tx s x G=j9 sz bt s x G
def ap (ts tx sz bt:Nat) (s x:Value) (G:GS):Option (Value×GS):=bif q then j9 sz bt s x G else qp P ts tx s x G
theorem QH (ts tx sz bt:Nat) [h:xk P ts tx sz bt] (s x:Value) (G:GS):ap P q ts tx sz bt s x G=qp P ts tx s x G:=by
  cases q
  · rfl
  · exact (h.ok s x G).symm
class Jf (td:Nat) (sz:outParam Nat):Prop where ok:∀ d s G,qs P td d s G=IK sz d s G
def cp (td sz:Nat) (d s:Value) (G:GS):Option (Value×GS):=bif q then IK sz d s G else qs P td d s G
theorem QI (td sz:Nat) [h:Jf P td sz] (d s:Value) (G:GS):cp P q td sz d s G=qs P td d s G:=by
  cases q
  · rfl
  · exact (h.ok d s G).symm
class Jg (t:Nat) (sz:outParam Nat):Prop where ok:∀ a n c lo hi mx G,iT P t (.slice a n c) lo hi mx G=IJ sz (.slice a n c) lo hi mx G
def sl (t sz:Nat) (x:Value) (lo hi mx:Option Value) (G:GS):Option Value:=bif q then (match x with | .slice a n c=>IJ sz (.slice a n c) lo hi mx G | x=>iT P t x lo hi mx G) else iT P t x lo hi mx G
theorem QJ (t sz:Nat) [h:Jg P t sz] (x:Value) (lo hi mx:Option Value) (G:GS):sl P q t sz x lo hi mx G=iT P t x lo hi mx G:=by
  cases q
  · rfl
  · unfold sl
    simp only [cond_true]
    split
    · exact (h.ok _ _ _ lo hi mx G).symm
    · rfl
class BT (t:Nat) (n sz:outParam Nat):Prop where ok:∀ a lo hi mx G,iT P t (.pointer (some a)) lo hi mx G=ze n sz (.pointer (some a)) lo hi mx
def zp (t n sz:Nat) (x:Value) (lo hi mx:Option Value) (G:GS):Option Value:=bif q then (match x with | .pointer (some a)=>ze n sz (.pointer (some a)) lo hi mx | x=>iT P t x lo hi mx G) else iT P t x lo hi mx G
theorem QK (t n sz:Nat) [h:BT P t n sz] (x:Value) (lo hi mx:Option Value) (G:GS):zp P q t n sz x lo hi mx G=iT P t x lo hi mx G:=by
  cases q
  · rfl
  · unfold zp
    simp only [cond_true]
    split
    · exact (h.ok _ lo hi mx G).symm
    · rfl
class fX (t:TypeId) (z:outParam (List Value)):Prop where ok:∀ G,Bt P t G=some (.pointer (some ⟨G.nx,0,none⟩),iU G z 1)
def al (t:TypeId) (z:List Value) (G:GS):Option (Value×GS):=bif q then BN G ⟨z,1,false,1⟩ (fun b G'=>some (.pointer (some ⟨b,0,none⟩),G')) else Bt P t G
theorem QL (t:TypeId) (z:List Value) [h:fX P t z] (G:GS):al P q t z G=Bt P t G:=by
  cases q
  · rfl
  · rw [h.ok]; unfold al; simp only [cond_true,zi]; rfl
def bx (v:Value) (G:GS):Option (Value×GS):=bif q then BN G ⟨v.cells.toList,1,false,1⟩ (fun b G'=>some (.pointer (some ⟨b,0,none⟩),G')) else Eh v G
theorem QM (v:Value) (G:GS):bx q v G=Eh v G:=by
  cases q
  · rfl
  · unfold bx Eh; simp only [cond_true,zi]; rfl
class xl (t:Nat) (sz bt:outParam Nat) (z:outParam (List Value)):Prop where ok:∀ k k' l c G,wL P t (.int k l) (.int k' c) G=qJ sz bt z l c G
def mk (t sz bt:Nat) (z:List Value) (l c:Value) (G:GS):Option (Value×GS):=bif q then (match l with | .int k l'=>(match c with | .int k' c'=>qJ sz bt z l' c' G | c=>wL P t l c G) | l=>wL P t l c G) else wL P t l c G
theorem mk_eq (t sz bt:Nat) (z:List Value) [h:xl P t sz bt z] (l c:Value) (G:GS):mk P q t sz bt z l c G=wL P t l c G:=by
  cases q
  · rfl
  · unfold mk
    simp only [cond_true]
    split
    · split
      · exact (h.ok _ _ _ _ G).symm
      · rfl
    · rfl
def mn (dt:Array TypeId) (a b:Value):Option Value:=bif q then (match a with | .int k m=>(match b with | .int k' n=>bif Nat.beq (ik k) (ik k') then some (.int k (bif tO n m then n else m)) else vm P dt [a,b] | b=>vm P dt [a,b]) | a=>vm P dt [a,b]) else vm P dt [a,b]
@[simp] theorem YT (dt:Array TypeId) (a b:Value):mn P q dt a b=vm P dt [a,b]:=by
  cases q
  · rfl
  · unfold mn
    simp only [cond_true]
    split
    · split
      · rename_i k m _ k' n
        rw [BM,zh]
        by_cases hk:k=k'
        · subst hk; by_cases hh:n<m<;>simp [hh]
        · simp [hk]
      · rfl
    · rfl
def mx (dt:Array TypeId) (a b:Value):Option Value:=bif q then (match a with | .int k m=>(match b with | .int k' n=>bif Nat.beq (ik k) (ik k') then some (.int k (bif tO m n then n else m)) else vn P dt [a,b] | b=>vn P dt [a,b]) | a=>vn P dt [a,b]) else vn P dt [a,b]
@[simp] theorem YU (dt:Array TypeId) (a b:Value):mx P q dt a b=vn P dt [a,b]:=by
  cases q
  · rfl
  · unfold mx
    simp only [cond_true]
    split
    · split
      · rename_i k m _ k' n
        rw [BM,zh]
        by_cases hk:k=k'
        · subst hk; by_cases hh:m<n<;>simp [hh]
        · simp [hk]
      · rfl
    · rfl
def fP (neg:Bool):BinOp:=bif neg then .neq else .eql
class lD (t:TypeId):Prop where
  nn:∀ neg x y,bB P (fP neg) t x y (.pointer none) (.pointer none)=some (.bool (!neg))
  sn:∀ neg x y a,bB P (fP neg) t x y (.pointer (some a)) (.pointer none)=some (.bool neg)
  ns:∀ neg x y a,bB P (fP neg) t x y (.pointer none) (.pointer (some a))=some (.bool neg)
def ep (neg:Bool) (t:TypeId) (x y:Operand) (a b:Value):Option Value:=bif q then (match a with
  | .pointer none=>(match b with | .pointer none=>some (.bool (!neg)) | .pointer (some c)=>some (.bool neg) | b=>bB P (fP neg) t x y a b)
  | .pointer (some c)=>(match b with | .pointer none=>some (.bool neg) | b=>bB P (fP neg) t x y a b)
  | a=>bB P (fP neg) t x y a b) else bB P (fP neg) t x y a b
theorem Jh (neg:Bool) (t:TypeId) [h:lD P t] (x y:Operand) (a b:Value):ep P q neg t x y a b=bB P (fP neg) t x y a b:=by
  cases q
  · rfl
  · unfold ep
    simp only [cond_true]
    split
    · split
      · exact (h.nn neg x y).symm
      · exact (h.ns neg x y _).symm
      · rfl
    · split
      · exact (h.sn neg x y _).symm
      · rfl
    · rfl
class ED (t:TypeId):Prop where
  nn:∀ neg x y,bB P (fP neg) t x y (.slice none 0 0) (.slice none 0 0)=some (.bool (!neg))
  sn:∀ neg x y a n c,bB P (fP neg) t x y (.slice (some a) n c) (.slice none 0 0)=some (.bool neg)
def es (neg:Bool) (t:TypeId) (x y:Operand) (a b:Value):Option Value:=bif q then (match a with
  | .slice none 0 0=>(match b with | .slice none 0 0=>some (.bool (!neg)) | b=>bB P (fP neg) t x y a b)
  | .slice (some c) _ _=>(match b with | .slice none 0 0=>some (.bool neg) | b=>bB P (fP neg) t x y a b)
  | a=>bB P (fP neg) t x y a b) else bB P (fP neg) t x y a b
theorem Ji (neg:Bool) (t:TypeId) [h:ED P t] (x y:Operand) (a b:Value):es P q neg t x y a b=bB P (fP neg) t x y a b:=by
  cases q
  · rfl
  · unfold es
    simp only [cond_true]
    split
    · split
      · exact (h.nn neg x y).symm
      · rfl
    · split
      · exact (h.sn neg x y _ _ _).symm
      · rfl
    · rfl
class BU (t:TypeId):Prop where
  nn:∀ neg x y,bB P (fP neg) t x y .nilFunc .nilFunc=some (.bool (!neg))
  sn:∀ neg x y f a b,bB P (fP neg) t x y (.func f a b) .nilFunc=some (.bool neg)
def ef (neg:Bool) (t:TypeId) (x y:Operand) (a b:Value):Option Value:=bif q then (match a with
  | .nilFunc=>(match b with | .nilFunc=>some (.bool (!neg)) | b=>bB P (fP neg) t x y a b)
  | .func _ _ _=>(match b with | .nilFunc=>some (.bool neg) | b=>bB P (fP neg) t x y a b)
  | a=>bB P (fP neg) t x y a b) else bB P (fP neg) t x y a b
theorem Jj (neg:Bool) (t:TypeId) [h:BU P t] (x y:Operand) (a b:Value):ef P q neg t x y a b=bB P (fP neg) t x y a b:=by
  cases q
  · rfl
  · unfold ef
    simp only [cond_true]
    split
    · split
      · exact (h.nn neg x y).symm
      · rfl
    · split
      · exact (h.sn neg x y _ _ _).symm
      · rfl
    · rfl
class EE (t:TypeId):Prop where ok:∀ neg x y a b,bB P (fP neg) t x y (.bool a) (.bool b)=some (.bool (a==(b ^^ neg)))
def eb (neg:Bool) (t:TypeId) (x y:Operand) (a b:Value):Option Value:=bif q then (match a with
  | .bool a'=>(match b with | .bool b'=>some (.bool (bif a' then (bif b' then !neg else neg) else (bif b' then neg else !neg))) | b=>bB P (fP neg) t x y a b)
  | a=>bB P (fP neg) t x y a b) else bB P (fP neg) t x y a b
theorem Jk (neg:Bool) (t:TypeId) [h:EE P t] (x y:Operand) (a b:Value):eb P q neg t x y a b=bB P (fP neg) t x y a b:=by
  cases q
  · rfl
  · unfold eb
    simp only [cond_true]
    split
    · split
      · rename_i a _ b; rw [h.ok]; cases a<;>cases b<;>cases neg<;>rfl
      · rfl
    · rfl
end
structure Ex where
  ev:Ev
  dj:Nat→Nat→Env→GS→Option (Exit×Env×GS)
def bc (x:Option (Exit×List Value×GS)):Option (Exit×Env×GS):=match x with | some (e,T,G)=>some (e,nth undef T,G) | none=>none
def clip (N:Nat) (τ:Env):Env:=fun j=>bif Nat.ble (Nat.succ j) N then τ j else undef
def look (l:List (Nat×Value)) (j:Nat) (d:Value):Value:=List.rec (motive:=fun _=>Value) d (fun p _ ih=>bif Nat.beq j p.1 then p.2 else ih) l
def tu (τ:Env) (l:List (Nat×Value)):Env:=fun j=>look l j (τ j)
def eD:Code→List Code
  | .loop b=>b::eD b
  | .scope b=>eD b
  | .rangeFunc _ _ a b=>eD a++eD b
  | .seq a b=>eD a++eD b
  | .cond _ a b=>eD a++eD b
  | .block _ b=>eD b
  | _=>[]
def iO (P:Program) (f k:Nat):Code:=match P.funcs[f]? with | some fn=>nth .skip (eD (aL fn)) k | none=>.skip
def jd (P:Program) (f:Nat):Nat:=match P.funcs[f]? with | some fn=>fn.ntmps | none=>0
class fx (P:Program) (f k:Nat) (c:Code) (N:Nat):Prop where
  code:iO P f k=c
  num:jd P f=N
def bE {β:Type} (x:Option (Exit×Env×GS)) (K:Exit→Env→GS→Option β):Option β:=match x with | some (e,τ,G)=>K e τ G | none=>none
@[simp] theorem agM {β:Type} (e:Exit) (τ:Env) (G:GS) (K:Exit→Env→GS→Option β):bE (some (e,τ,G)) K=K e τ G:=Eq.trans rfl rfl
def bL {β:Type} (q:Bool) (e:Ex) (f k:Nat) (c:Code) (N:Nat) (τ:Env) (G:GS) (K:Exit→Env→GS→Option β):Option β :=
  bif q then bE (e.dj f k τ G) K else bX (e.ev.lp c (aG N τ) G) fun x T G=>K x (nth undef T) G
structure bm (P:Program) (e:Ex) (E:Ev):Prop where
  ev:e.ev.le E
  dj:∀ f k τ G,Ref (e.dj f k τ G) (bc (E.lp (iO P f k) (aG (jd P f) τ) G))
def Ex.of (E:Ev):Ex:=⟨E,fun _ _ _ _=>none⟩
theorem Ref.bL {β:Type} {P:Program} {f k:Nat} {c:Code} {N:Nat} [i:fx P f k c N] {e:Ex} {E:Ev} (h:bm P e E) {τ:Env} {G:GS} {K K':Exit→Env→GS→Option β} (hK:∀ x τ G,Ref (K x τ G) (K' x τ G)) :
    Ref (bL true e f k c N τ G K) (bL false (Ex.of E) f k c N τ G K'):=fun r hr=>by
  have h1:=h.dj f k τ G
  rw [i.code,i.num] at h1
  simp only [Gh.bL,cond_true] at hr
  show Gh.bX (E.lp c (aG N τ) G) _=some r
  cases hx:e.dj f k τ G with
  | none=>rw [hx] at hr; cases hr
  | some a =>
    obtain ⟨x,τ1,G1⟩:=a
    have h2:=h1 _ hx
    rw [hx] at hr
    cases hy:E.lp c (aG N τ) G with
    | none=>rw [hy] at h2; cases h2
    | some b =>
      obtain ⟨x',T',G'⟩:=b
      rw [hy] at h2
      simp only [bc,Option.some.injEq,Prod.mk.injEq] at h2
      obtain ⟨rfl,rfl,rfl⟩:=h2
      exact hK _ _ _ r hr
def BV (N:Nat) (F:(Env→GS→Option (Exit×Env×GS))→Env→GS→Option (Exit×Env×GS)) (n:Nat):Env→GS→Option (Exit×Env×GS) :=
  Nat.rec (motive:=fun _=>Env→GS→Option (Exit×Env×GS)) (fun _ _=>none) (fun _ ih τ G=>F ih (clip N τ) G) n
theorem zq (N:Nat) (τ:Env):(aG N τ).length=N:=by simp [aG]
theorem pE (N:Nat) (τ:Env):nth undef (aG N τ)=clip N τ:=by
  funext j
  unfold clip aG
  rw [ju,List.getD_eq_getElem?_getD]
  by_cases h:j<N
  · rw [Nat.ble_eq_true_of_le (by omega)]
    simp [h]
  · have:Nat.ble (Nat.succ j) N=false:=by
      cases hb:Nat.ble (Nat.succ j) N
      · rfl
      · exact absurd (Nat.le_of_ble_eq_true hb) h
    rw [this,List.getElem?_eq_none (by simp; omega)]
    rfl
theorem QN {E:Ev} {c:Code} {N:Nat} {F:(Env→GS→Option (Exit×Env×GS))→Env→GS→Option (Exit×Env×GS)}
    (hF:∀ lp,(∀ τ G,Ref (lp τ G) (bc (E.lp c (aG N τ) G)))→∀ T G,T.length=N→Ref (F lp (nth undef T) G) (bc (E.lp c T G))):∀ n τ G,Ref (BV N F n τ G) (bc (E.lp c (aG N τ) G))
  | 0,τ,G=>.nil _
  | n+1,τ,G=>by
    have:=hF (BV N F n) (QN hF n) (aG N τ) G (zq N τ)
    rw [pE] at this
    exact this
def YV (q:Bool) (N:Nat) (τ:Env):Env:=bif q then clip N τ else nth undef (aG N τ)
@[simp] theorem agN (q:Bool) (N:Nat) (τ:Env):YV q N τ=clip N τ:=by
  cases q
  · exact pE N τ
  · rfl
def agO (o t:Bool) (F:GS→Option (Value×GS)) (vs:List Value) (G:GS):Option (Value×GS):=match vs with | []=>bif o then (bif t then some (.bool true,G) else none) else F G | _=>none
def tR (F:Value→GS→Option (Value×GS)) (vs:List Value) (G:GS):Option (Value×GS):=match vs with | [a]=>F a G | _=>none
def qL (F:Value→Value→GS→Option (Value×GS)) (vs:List Value) (G:GS):Option (Value×GS):=match vs with | [a,b]=>F a b G | _=>none
def tS (F:Value→Value→Value→GS→Option (Value×GS)) (vs:List Value) (G:GS):Option (Value×GS):=match vs with | [a,b,c]=>F a b c G | _=>none
section
variable {P:Program} {ae:FuncId→Bool}
theorem Ref.tR {f:FuncId} {F:Value→GS→Option (Value×GS)} (h:∀ a G,Ref (F a G) ((aD P ae).cl f [a] G)) (vs:List Value) (G:GS):Ref (tR F vs G) ((aD P ae).cl f vs G):=by
  unfold Gh.tR; split
  · exact h _ _
  · exact .nil _
theorem Ref.qL {f:FuncId} {F:Value→Value→GS→Option (Value×GS)} (h:∀ a b G,Ref (F a b G) ((aD P ae).cl f [a,b] G)) (vs:List Value) (G:GS):Ref (qL F vs G) ((aD P ae).cl f vs G):=by
  unfold Gh.qL; split
  · exact h _ _ _
  · exact .nil _
theorem Ref.tS {f:FuncId} {F:Value→Value→Value→GS→Option (Value×GS)} (h:∀ a b c G,Ref (F a b c G) ((aD P ae).cl f [a,b,c] G)) (vs:List Value) (G:GS):Ref (tS F vs G) ((aD P ae).cl f vs G):=by
  unfold Gh.tS; split
  · exact h _ _ _ _
  · exact .nil _
end
def leaf {β:Type} (f n:Nat) (x:Option β):Option β:=bif Nat.beq f n then x else none
theorem Ref.leaf {β:Type} {f n:Nat} {x:Option β} {y:Nat→Option β} (h:Ref x (y n)):Ref (leaf f n x) (y f):=by
  unfold Gh.leaf
  cases hb:Nat.beq f n
  · exact .nil _
  · rw [Nat.eq_of_beq_eq_true hb]; exact h
def fork {β:Type} (f n:Nat) (x y:Option β):Option β:=bif Nat.ble f n then x else y
theorem Ref.fork {β:Type} {f n:Nat} {x y z:Option β} (h:Ref x z) (k:Ref y z):Ref (fork f n x y) z:=by
  unfold Gh.fork
  cases Nat.ble f n
  · exact k
  · exact h
def isTrue (x:Option (Value×GS)):Bool:=match x with | some (.bool true,_)=>true | _=>false
theorem YW {x y:Option (Value×GS)} (h:Ref x y) (t:isTrue x=true):∃ G',y=some (.bool true,G'):=by
  unfold isTrue at t
  split at t
  · rename_i G'; exact ⟨G',h _ rfl⟩
  · cases t
class dV {α:Type} (x y:Option α):Prop where r:Ref x y
section
variable {P:Program}
instance {op:BinOp} {t:TypeId} {x y:Operand} {a b:Value}:dV (bn P true op t x y a b) (bn P false op t x y a b):=⟨.of_eq (by simp [YM])⟩
instance {o:UnOp} {x:Value}:dV (un P true o x) (un P false o x):=⟨.of_eq (by simp [YQ])⟩
instance {s d:TypeId} {ks kd:IntKind} {x:Value} [zk P s d ks kd]:dV (cv P true s d ks kd x) (cv P false s d ks kd x):=⟨.of_eq (by simp [Qq])⟩
instance {t:TypeId} {x:Value} [BP P t]:dV (vv P true t x) (vv P false t x):=⟨.of_eq (by simp [Qr])⟩
instance {t f off:Nat} {x:Value} [aJ P t f off]:dV (fa P true t f off x) (fa P false t f off x):=⟨.of_eq (by simp [Qs])⟩
instance {t sz:Nat} {x i:Value} [oB P t sz]:dV (fW P true t sz x i) (fW P false t sz x i):=⟨.of_eq (by simp [Qt])⟩
instance {t n sz:Nat} {x i:Value} [zm P t n sz]:dV (xi P true t n sz x i) (xi P false t n sz x i):=⟨.of_eq (by simp [Qu])⟩
instance {t:TypeId} {x:Value} {G:GS} [eC P t]:dV (ld P true t x G) (ld P false t x G):=⟨.of_eq (by simp [Qv])⟩
instance {t:TypeId} {sz:Nat} {x:Value} {G:GS} [gF P t sz]:dV (de P true t sz x G) (de P false t sz x G):=⟨.of_eq (by simp [Qw])⟩
instance {t:TypeId} {sz:Nat} {a x:Value} {G:GS} [cT P t sz]:dV (st P true t sz a x G) (st P false t sz a x G):=⟨.of_eq (by simp [Qx])⟩
instance {t:TypeId} {z:List Value} {pl:List (Nat×Nat×Nat)} {vs:List Value} [jH P t z pl]:dV (bd P true t z pl vs) (bd P false t z pl vs):=⟨.of_eq (by simp [YS])⟩
instance {t n sz:Nat} {z:List Value} {pl:List (Nat×Nat×Nat)} {vs:List Value} {G:GS} [lC P t n z sz pl]:dV (bs P true t n z sz pl vs G) (bs P false t n z sz pl vs G):=⟨.of_eq (by simp [tQ])⟩
instance {t f off:Nat} {x:Value} [zn P t f off]:dV (fd P true t f off x) (fd P false t f off x):=⟨.of_eq (by simp [QB])⟩
instance {t f off sz:Nat} {x:Value} [Jc P t f off sz]:dV (zo P true t f off sz x) (zo P false t f off sz x):=⟨.of_eq (by simp [QC])⟩
instance {t n:Nat} {x i:Value} [EC P t n]:dV (ix P true t n x i) (ix P false t n x i):=⟨.of_eq (by simp [QD])⟩
instance {t n sz:Nat} {x i:Value} [Jd P t n sz]:dV (BR P true t n sz x i) (BR P false t n sz x i):=⟨.of_eq (by simp [QE])⟩
instance {t:TypeId} {x:Value} [pD P t]:dV (ln P true t x) (ln P false t x):=⟨.of_eq (by simp [QF])⟩
instance {t n:Nat} {x:Value} [Je P t n]:dV (BS P true t n x) (BS P false t n x):=⟨.of_eq (by simp [QG])⟩
instance {ts tx sz bt:Nat} {a x:Value} {G:GS} [xk P ts tx sz bt]:dV (ap P true ts tx sz bt a x G) (ap P false ts tx sz bt a x G):=⟨.of_eq (by simp [QH])⟩
instance {td sz:Nat} {a x:Value} {G:GS} [Jf P td sz]:dV (cp P true td sz a x G) (cp P false td sz a x G):=⟨.of_eq (by simp [QI])⟩
instance {t sz:Nat} {x:Value} {lo hi mx:Option Value} {G:GS} [Jg P t sz]:dV (sl P true t sz x lo hi mx G) (sl P false t sz x lo hi mx G):=⟨.of_eq (by simp [QJ])⟩
instance {t n sz:Nat} {x:Value} {lo hi mx:Option Value} {G:GS} [BT P t n sz]:dV (zp P true t n sz x lo hi mx G) (zp P false t n sz x lo hi mx G):=⟨.of_eq (by simp [QK])⟩
instance {t:TypeId} {z:List Value} {G:GS} [fX P t z]:dV (al P true t z G) (al P false t z G):=⟨.of_eq (by simp [QL])⟩
instance {x:Value} {G:GS}:dV (bx true x G) (bx false x G):=⟨.of_eq (by simp [QM])⟩
instance {t sz bt:Nat} {z:List Value} {a x:Value} {G:GS} [xl P t sz bt z]:dV (mk P true t sz bt z a x G) (mk P false t sz bt z a x G):=⟨.of_eq (by simp [mk_eq])⟩
instance {dt:Array TypeId} {a b:Value}:dV (mn P true dt a b) (mn P false dt a b):=⟨.of_eq (by simp [YT])⟩
instance {dt:Array TypeId} {a b:Value}:dV (mx P true dt a b) (mx P false dt a b):=⟨.of_eq (by simp [YU])⟩
instance {neg:Bool} {t:TypeId} {x y:Operand} {a b:Value} [lD P t]:dV (ep P true neg t x y a b) (ep P false neg t x y a b):=⟨.of_eq (by simp [Jh])⟩
instance {neg:Bool} {t:TypeId} {x y:Operand} {a b:Value} [ED P t]:dV (es P true neg t x y a b) (es P false neg t x y a b):=⟨.of_eq (by simp [Ji])⟩
instance {neg:Bool} {t:TypeId} {x y:Operand} {a b:Value} [BU P t]:dV (ef P true neg t x y a b) (ef P false neg t x y a b):=⟨.of_eq (by simp [Jj])⟩
instance {neg:Bool} {t:TypeId} {x y:Operand} {a b:Value} [EE P t]:dV (eb P true neg t x y a b) (eb P false neg t x y a b):=⟨.of_eq (by simp [Jk])⟩
end
section
variable {P:Program} {e:Ex} {E:Ev}
theorem Ref.cl (h:bm P e E) {f:FuncId} {vs:List Value} {G:GS}:Ref (e.ev.cl f vs G) ((Ex.of E).ev.cl f vs G):=h.ev.cl _ _ _
theorem Ref.sc (h:bm P e E) {b c:Code} {T:List Value} {G:GS}:Ref (e.ev.sc b c T G) ((Ex.of E).ev.sc b c T G):=h.ev.sc _ _ _ _
theorem Ref.fJ (h:bm P e E) {v:Value} {vs:List Value} {G:GS}:Ref (fJ e.ev v vs G) (fJ (Ex.of E).ev v vs G):=by
  unfold Gh.fJ
  split
  · exact h.ev.cl _ _ _
  · split
    · exact h.ev.rd _ _ _
    · exact .nil _
  · exact .nil _
theorem Ref.jF (h:bm P e E) {v:Value} {nm:String} {vs:List Value} {G:GS}:Ref (jF P e.ev v nm vs G) (jF P (Ex.of E).ev v nm vs G):=by
  unfold Gh.jF
  split
  · split
    · exact h.ev.cl _ _ _
    · exact .nil _
  · exact .nil _
theorem Ref.gE (h:bm P e E) {v:Value} {ps:Array Nat} {a b:Code} {T:List Value} {G:GS}:Ref (gE e.ev v ps a b T G) (gE (Ex.of E).ev v ps a b T G):=by
  unfold Gh.gE
  split
  · rename_i g a1 b1
    intro r hr
    cases hx:e.ev.cl g (a1.toList++[.func (.yield G.nl) #[] #[]]++b1.toList) (G.dS ⟨.ready,none,T,ps.toList,a,b⟩) with
    | none=>rw [hx] at hr; cases hr
    | some y =>
      rw [hx] at hr
      have:=h.ev.cl _ _ _ _ hx
      show Gh.qG G.nl T (E.cl g _ _)=some r
      rw [this]; exact hr
  · exact .nil _
theorem QO {f k:Nat} {c:Code} {N:Nat} [i:fx P f k c N] {F:(Env→GS→Option (Exit×Env×GS))→Env→GS→Option (Exit×Env×GS)}
    (hF:∀ lp,(∀ τ G,Ref (lp τ G) (bc (E.lp c (aG N τ) G)))→∀ T G,T.length=N→Ref (F lp (nth undef T) G) (bc (E.lp c T G))) (n:Nat) (τ:Env) (G:GS):Ref (BV N F n τ G) (bc (E.lp (iO P f k) (aG (jd P f) τ) G)):=by
  rw [i.code,i.num]; exact QN hF n τ G
end
structure g0 (lp bO:Env→GS→Option (Exit×Env×GS)):Prop where r:∀ τ G,Ref (lp τ G) (bO τ G)
def bD (P:Program) (ae:FuncId→Bool):Ex:=⟨aD P ae,fun f k τ G=>bc ((aD P ae).lp (iO P f k) (aG (jd P f) τ) G)⟩
theorem aq (P:Program) (ae:FuncId→Bool):bm P (bD P ae) (aD P ae):=⟨.refl _,fun _ _ _ _=>.rfl' _⟩
end
end Go.Proofs.YtkhlabammcghbaaGreat.Gh
