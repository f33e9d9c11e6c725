import Derived.Test.YtphandknhnkhfaaGreatGhPL
namespace Go.Proofs.YtphandknhnkhfaaGreat.Gh
open Go
set_option linter.unusedVariables false
set_option linter.unusedSimpArgs false
set_option linter.unnecessarySimpa false
noncomputable section
def Ref {α:Type} (x y:Option α):Prop:=∀ r,x=some r→y=some r
theorem Ref.rfl' {α:Type} (x:Option α):Ref x x:=fun _ h=>h
theorem Ref.of_eq {α:Type} {x y:Option α} (h:x=y):Ref x y:=fun _ e=>h▸e
theorem Ref.nil {α:Type} (y:Option α):Ref none y:=fun _ h=>by cases h
theorem Ref.bP {α β:Type} {x y:Option α} {K K':α→Option β} (h:Ref x y) (hk:∀ a,Ref (K a) (K' a)):Ref (bP x K) (bP y K'):=fun r e=>by
  cases x with
  | none=>cases e
  | some a=>rw [h a rfl]; exact hk a r e
theorem Ref.bS {β:Type} {x y:Option (Value×GS)} {K K':Value→GS→Option β} (h:Ref x y) (hk:∀ a G,Ref (K a G) (K' a G)):Ref (bS x K) (bS y K'):=fun r e=>by
  cases x with
  | none=>cases e
  | some a=>rw [h a rfl]; exact hk a.1 a.2 r e
theorem Ref.bX {β:Type} {x y:Option (Exit×List Value×GS)} {K K':Exit→List Value→GS→Option β} (h:Ref x y) (hk:∀ e T G,Ref (K e T G) (K' e T G)):Ref (bX x K) (bX y K'):=fun r e=>by
  cases x with
  | none=>cases e
  | some a=>rw [h a rfl]; exact hk a.1 a.2.1 a.2.2 r e
theorem Ref.cD {β:Type} {v:Value} {a b a' b':Option β} (h1:Ref a a') (h2:Ref b b'):Ref (cD v a b) (cD v a' b'):=fun r e=>by
  unfold Gh.cD at e ⊢
  split at e
  · exact h1 r e
  · exact h2 r e
  · cases e
theorem Ref.dt {β:Type} {e x:Exit} {a b a' b':Option β} (h1:Ref a a') (h2:Ref b b'):Ref (dt e x a b) (dt e x a' b'):=fun r h=>by
  unfold Gh.dt at h ⊢
  split at h
  · rename_i hc; rw [if_pos hc]; exact h1 r h
  · rename_i hc; rw [if_neg hc]; exact h2 r h
theorem Ref.gd {v:Value} {w:Bool} {x y:Option (Value×GS)} {G:GS} (h:Ref x y):Ref (gd v w x G) (gd v w y G):=fun r e=>by
  unfold Gh.gd at e ⊢
  split at e
  · rename_i hc; rw [if_pos hc]; exact h r e
  · rename_i hc; rw [if_neg hc]; exact e
theorem Ref.OJ {β:Type} {r:Lp} {a b:Option β} (h:Ref a b):Ref (if r.st= .ready then a else none) (if r.st= .ready then b else none):=by
  split
  · exact h
  · exact .nil _
def fx (b c:Bool):Prop:=b=true→c=true
theorem fx.rfl' (b:Bool):fx b b:=id
theorem fx.and {a b c d:Bool} (h:fx a c) (k:fx b d):fx (a&&b) (c&&d):=fun e=>by
  simp only [Bool.and_eq_true] at e ⊢; exact ⟨h e.1,k e.2⟩
theorem fx.or {a b d:Bool} (k:fx b d):fx (a||b) (a||d):=fun e=>by
  simp only [Bool.or_eq_true] at e ⊢; exact e.imp id k
theorem fx.br {x y:Option Value} {v:Value} (h:Ref x y):fx (br x v) (br y v):=fun e=>by
  cases x with
  | none=>cases e
  | some a=>rw [h a rfl]; exact e
theorem Ref.gp {β:Type} {b c:Bool} {x y:Option β} (hb:fx b c) (h:Ref x y):Ref (gp b x) (gp c y):=fun r e=>by
  unfold Gh.gp at e ⊢
  split at e
  · rename_i hc; rw [if_pos (hb hc)]; exact h r e
  · cases e
def fN {β:Type} (n:Nat) (k:Nat→β):β:=Nat.casesOn (motive:=fun _=>β) n (k 0) (fun m=>k (Nat.succ m))
theorem tM {β:Type} (n:Nat) (k:Nat→β):fN n k=k n:=by cases n<;>rfl
def fI {β:Type} (i:Int) (k:Int→β):β:=Int.casesOn (motive:=fun _=>β) i (fun n=>fN n fun n=>k (Int.ofNat n)) (fun n=>fN n fun n=>k (Int.negSucc n))
theorem HO {β:Type} (i:Int) (k:Int→β):fI i k=k i:=by cases i<;>simp [fI,tM]
def ik (k:IntKind):Nat:=match k with | .i8=>0 | .i16=>1 | .i32=>2 | .i64=>3 | .u8=>4 | .u16=>5 | .u32=>6 | .u64=>7
def gZ (k:IntKind):Nat:=match k with | .i8=>127 | .i16=>32767 | .i32=>2147483647 | .i64=>9223372036854775807 | .u8=>255 | .u16=>65535 | .u32=>4294967295 | .u64=>18446744073709551615
def DG (k:IntKind):Bool:=match k with | .i8=>true | .i16=>true | .i32=>true | .i64=>true | _=>false
def wr (k:IntKind) (i:Int):Int:=Int.casesOn (motive:=fun _=>Int) i (fun n=>bif Nat.ble n (gZ k) then Int.ofNat n else k.wrap (Int.ofNat n)) (fun n=>bif (DG k&&Nat.ble n (gZ k)) then Int.negSucc n else k.wrap (Int.negSucc n))
theorem OM (k:IntKind):gZ k<2 ^ k.bits:=by cases k<;>decide
theorem OO (k:IntKind) (h:k.signed=true):gZ k+1=2 ^ (k.bits - 1):=by cases k<;>first | decide | cases h
theorem Xq (k:IntKind):2 ^ k.bits=2*2 ^ (k.bits - 1):=by cases k<;>decide
theorem Xr (k:IntKind):DG k=k.signed:=by cases k<;>rfl
theorem OP (k:IntKind) (i:Int):wr k i=k.wrap i:=by
  have hb:=OM k
  have h2:=Xq k
  cases i with
  | ofNat n =>
    show (bif Nat.ble n (gZ k) then Int.ofNat n else k.wrap (Int.ofNat n))=_
    cases h:Nat.ble n (gZ k)
    · rfl
    · have hn:=Nat.le_of_ble_eq_true h
      simp only [cond_true]
      have e:(Int.ofNat n) % ((2:Int) ^ k.bits)=(n:Int):=Int.emod_eq_of_lt (Int.natCast_nonneg n) (by
        have:((2:Int) ^ k.bits)=((2 ^ k.bits:Nat):Int):=by simp
        rw [this]; simp only [Int.ofNat_eq_natCast]; omega)
      unfold IntKind.wrap
      simp only [e]
      rw [if_neg]
      · rfl
      · intro hc
        simp only [Bool.and_eq_true,decide_eq_true_eq,ge_iff_le] at hc
        have hh:=OO k hc.1
        have:((2:Int) ^ (k.bits - 1))=((2 ^ (k.bits - 1):Nat):Int):=by simp
        have:=hc.2
        omega
  | negSucc n =>
    show (bif (DG k&&Nat.ble n (gZ k)) then Int.negSucc n else k.wrap (Int.negSucc n))=_
    cases h:(DG k&&Nat.ble n (gZ k))
    · rfl
    · simp only [Bool.and_eq_true,Xr] at h
      have hn:=Nat.le_of_ble_eq_true h.2
      have hh:=OO k h.1
      simp only [cond_true]
      have ep:((2:Int) ^ k.bits)=((2 ^ k.bits:Nat):Int):=by simp
      have eh:((2:Int) ^ (k.bits - 1))=((2 ^ (k.bits - 1):Nat):Int):=by simp
      have e:(Int.negSucc n) % ((2:Int) ^ k.bits)=(2:Int) ^ k.bits - 1 - n:=by
        rw [Int.negSucc_emod _ (by omega)]
        rw [Int.emod_eq_of_lt (Int.natCast_nonneg n) (by omega)]
      unfold IntKind.wrap
      simp only [e]
      rw [if_pos]
      · omega
      · simp only [Bool.and_eq_true,decide_eq_true_eq,ge_iff_le]
        exact ⟨h.1,by omega⟩
def vn (k:IntKind) (i:Int):Option Value:=fI (wr k i) fun r=>some (.int k r)
theorem Bd (k:IntKind) (i:Int):vn k i=some (.int k (k.wrap i)):=by simp [vn,HO,OP]
def Be (m n:Int):Bool:=Int.casesOn (motive:=fun _=>Bool) m (fun a=>Int.casesOn (motive:=fun _=>Bool) n (fun b=>Nat.beq a b) (fun _=>false)) (fun a=>Int.casesOn (motive:=fun _=>Bool) n (fun _=>false) (fun b=>Nat.beq a b))
theorem HP (m n:Int):Be m n=(m==n):=by
  rw [Bool.eq_iff_iff,beq_iff_eq]
  cases m with
  | ofNat a=>cases n with
    | ofNat b=>show Nat.beq a b=true↔_; rw [Nat.beq_eq]; exact ⟨fun h=>(by rw [h]),fun h=>(by cases h; rfl)⟩
    | negSucc b=>exact ⟨fun h=>(by cases h),fun h=>(by cases h)⟩
  | negSucc a=>cases n with
    | ofNat b=>exact ⟨fun h=>(by cases h),fun h=>(by cases h)⟩
    | negSucc b=>show Nat.beq a b=true↔_; rw [Nat.beq_eq]; exact ⟨fun h=>(by rw [h]),fun h=>(by cases h; rfl)⟩
def tN (m n:Int):Bool:=Int.casesOn (motive:=fun _=>Bool) m (fun a=>Int.casesOn (motive:=fun _=>Bool) n (fun b=>Nat.ble (Nat.succ a) b) (fun _=>false)) (fun a=>Int.casesOn (motive:=fun _=>Bool) n (fun _=>true) (fun b=>Nat.ble (Nat.succ b) a))
theorem Xs (a b:Nat):(Nat.ble a b=true)↔a≤b:=⟨Nat.le_of_ble_eq_true,Nat.ble_eq_true_of_le⟩
theorem yH (m n:Int):tN m n=decide (m<n):=by
  rw [Bool.eq_iff_iff,decide_eq_true_eq]
  cases m<;>cases n<;>simp [tN,Xs]<;>omega
def DH (m n:Int):Bool:=!tN n m
theorem Xt (m n:Int):DH m n=decide (m≤n):=by
  unfold DH; rw [yH,Bool.eq_iff_iff]; simp
def two (k:IntKind) (m n:Int) (f:Nat→Nat→Nat) (e:Option Value):Option Value :=
  Int.casesOn (motive:=fun _=>Option Value) m (fun a=>Int.casesOn (motive:=fun _=>Option Value) n (fun b=>bif (Nat.ble a (gZ k)&&Nat.ble b (gZ k)) then fN (f a b) (fun r=>some (.int k (Int.ofNat r))) else e) (fun _=>e)) (fun _=>e)
theorem OQ {k:IntKind} {m n:Int} {f:Nat→Nat→Nat} {e:Option Value} (h:∀ a b:Nat,m=a→n=b→a≤gZ k→b≤gZ k→some (.int k (Int.ofNat (f a b)))=e):two k m n f e=e:=by
  cases m with
  | negSucc a=>rfl
  | ofNat a =>
    cases n with
    | negSucc b=>rfl
    | ofNat b =>
      show (bif (Nat.ble a (gZ k)&&Nat.ble b (gZ k)) then fN (f a b) (fun r=>some (.int k (Int.ofNat r))) else e)=e
      cases hc:(Nat.ble a (gZ k)&&Nat.ble b (gZ k))
      · rfl
      · simp only [Bool.and_eq_true] at hc
        rw [cond_true,tM]
        exact h a b rfl rfl (Nat.le_of_ble_eq_true hc.1) (Nat.le_of_ble_eq_true hc.2)
theorem OS {k:IntKind} {n:Nat} (h:n≤gZ k):k.wrap (n:Int)=n:=by
  rw [← OP]
  show (bif Nat.ble n (gZ k) then Int.ofNat n else k.wrap (Int.ofNat n))=_
  rw [Nat.ble_eq_true_of_le h]; rfl
theorem DI (k:IntKind) {a:Nat} (h:a≤gZ k):(BitVec.ofInt k.bits (a:Int)).toNat=a:=by
  have:=OM k
  rw [BitVec.toNat_ofInt]
  have e:((a:Int) % ((2 ^ k.bits:Nat):Int))=((a % 2 ^ k.bits:Nat):Int):=by simp
  rw [e,Int.toNat_natCast,Nat.mod_eq_of_lt (by omega)]
theorem Xu (k:IntKind):∃ j,gZ k=2 ^ j - 1:=by cases k<;>first | exact ⟨7,rfl⟩ | exact ⟨15,rfl⟩ | exact ⟨31,rfl⟩ | exact ⟨63,rfl⟩ | exact ⟨8,rfl⟩ | exact ⟨16,rfl⟩ | exact ⟨32,rfl⟩ | exact ⟨64,rfl⟩
def OT (k:IntKind) (m n:Int):Option Value:=two k m n Nat.land (Dc k m n)
theorem Xv (k:IntKind) (m n:Int):OT k m n=Dc k m n:=OQ fun a b ha hb h1 h2=>by
  subst ha; subst hb
  unfold Dc
  rw [BitVec.toNat_and,DI k h1,DI k h2,OS (Nat.le_trans Nat.and_le_left h1)]
  rfl
def OU (k:IntKind) (m n:Int):Option Value:=two k m n Nat.lor (Dd k m n)
theorem Xw {k:IntKind} {a b:Nat} (h1:a≤gZ k) (h2:b≤gZ k):a ||| b≤gZ k:=by
  obtain ⟨j,hj⟩:=Xu k
  have hp:=Nat.two_pow_pos j
  have:=Nat.or_lt_two_pow (n:=j) (x:=a) (y:=b) (by omega) (by omega)
  omega
theorem Xx (k:IntKind) (m n:Int):OU k m n=Dd k m n:=OQ fun a b ha hb h1 h2=>by
  subst ha; subst hb
  unfold Dd
  rw [BitVec.toNat_or,DI k h1,DI k h2,OS (Xw h1 h2)]
  rfl
def HQ (k:IntKind) (m n:Int):Option Value:=bif Be n 0 then none else vn k (Int.tdiv m n)
def HR (k:IntKind) (m n:Int):Option Value:=bif Be n 0 then none else fI (Int.tmod m n) fun r=>some (.int k r)
def HS (k:IntKind) (m n:Int):Option Value:=bif tN n 0 then none else vn k (Int.mul m (Int.ofNat (Nat.pow 2 (bif Nat.ble n.toNat k.bits then n.toNat else k.bits))))
def HT (k:IntKind) (m n:Int):Option Value:=bif tN n 0 then none else fI (Int.fdiv m (Int.ofNat (Nat.pow 2 (bif Nat.ble n.toNat k.bits then n.toNat else k.bits)))) fun r=>some (.int k r)
theorem OV (a b:Nat):(bif Nat.ble a b then a else b)=min a b:=by
  cases h:Nat.ble a b
  · have:¬ a≤b:=fun hh=>by rw [Nat.ble_eq_true_of_le hh] at h; cases h
    simp; omega
  · have:=Nat.le_of_ble_eq_true h
    simp; omega
theorem Xy (k:IntKind) (m n:Int):HQ k m n=Da k m n:=by
  unfold HQ Da
  rw [HP,Bd]
  by_cases h:n=0
  · simp [h]
  · have:(n==0)=false:=by simpa using h
    rw [this,if_neg h]; rfl
theorem Xz (k:IntKind) (m n:Int):HR k m n=Db k m n:=by
  unfold HR Db
  rw [HP,HO]
  by_cases h:n=0
  · simp [h]
  · have:(n==0)=false:=by simpa using h
    rw [this,if_neg h]; rfl
theorem XA (k:IntKind) (m n:Int):HS k m n=De k m n:=by
  unfold HS De
  rw [yH,Bd,OV]
  by_cases h:n<0
  · simp [h]
  · simp [h]
theorem XB (k:IntKind) (m n:Int):HT k m n=Df k m n:=by
  unfold HT Df
  rw [yH,HO,OV]
  by_cases h:n<0
  · simp [h]
  · simp [h]
def kI (op:BinOp) (k:IntKind) (m n:Int):Option Value :=
  match op with
  | .add=>vn k (Int.add m n)
  | .sub=>vn k (Int.sub m n)
  | .mul=>vn k (Int.mul m n)
  | .quo=>HQ k m n
  | .rem=>HR k m n
  | .and=>OT k m n
  | .or=>OU k m n
  | .xor=>Nj k m n
  | .shl=>HS k m n
  | .shr=>HT k m n
  | .andNot=>Nk k m n
  | .eql=>some (.bool (Be m n))
  | .neq=>some (.bool (!Be m n))
  | .lss=>some (.bool (tN m n))
  | .leq=>some (.bool (DH m n))
  | .gtr=>some (.bool (tN n m))
  | .geq=>some (.bool (DH n m))
theorem XC (op:BinOp) (k:IntKind) (m n:Int):kI op k m n=lE op k m n:=by
  cases op<;>simp only [kI,lE,Xy,Xz,Xv,Xx,XA,XB,Bd,HP,yH,Xt]<;>rfl
theorem Bf (k k':IntKind):Nat.beq (ik k) (ik k')=decide (k=k'):=by cases k<;>cases k' <;>rfl
def HU (P:Program) (op:BinOp) (t:TypeId) (x y:Operand) (a b:Value):Option Value :=
  match a with
  | .int k m=>(match b with | .int k' n=>bif (Nat.beq (ik k) (ik k')||vQ op) then kI op k m n else none | b=>bF P op t x y a b)
  | a=>bF P op t x y a b
def bn (P:Program) (q:Bool) (op:BinOp) (t:TypeId) (x y:Operand) (a b:Value):Option Value:=bif q then HU P op t x y a b else bF P op t x y a b
theorem XD (P:Program) (op:BinOp) (t:TypeId) (x y:Operand) (a b:Value):HU P op t x y a b=bF P op t x y a b:=by
  unfold HU
  split
  · split
    · rw [Bf,XC]
      simp only [bF,jm]
      rename_i k m _ k' n
      by_cases h:(decide (k=k')||vQ op)=true
      · rw [h,if_pos (by simpa using h)]; rfl
      · rw [Bool.not_eq_true] at h
        rw [h,if_neg (by simpa using h)]; rfl
    · rfl
  · rfl
@[simp] theorem XE (P:Program) (q:Bool) (op:BinOp) (t:TypeId) (x y:Operand) (a b:Value):bn P q op t x y a b=bF P op t x y a b:=by
  cases q
  · rfl
  · exact XD P op t x y a b
def Bg {β:Type} (G:GS) (o:aR) (k:Nat→GS→β):β:=GS.casesOn (motive:=fun _=>β) G fun hp nx lp nl=>fN nx fun n=>k n ⟨sI hp n (some o),Nat.succ n,lp,nl⟩
theorem yI {β:Type} (G:GS) (o:aR) (k:Nat→GS→β):Bg G o k=k G.nx (G.push o):=by cases G; simp [Bg,tM,GS.push]
def OW (G:GS) (b:Nat) (o:aR):GS:=GS.casesOn (motive:=fun _=>GS) G fun hp nx lp nl=>⟨sI hp b (some o),nx,lp,nl⟩
theorem XF (G:GS) (b:Nat) (o:aR):OW G b o=G.put b o:=by cases G; rfl
def HV (b o:Nat) (G:GS):Option Value:=match G.obj b with | some ob=>bif Nat.beq ob.mode 2 then none else mP ob.cells o | none=>none
theorem Bh (a b:Nat):Nat.beq a b=decide (a=b):=by rw [Bool.eq_iff_iff]; simp [Nat.beq_eq]
theorem OX (b o:Nat) (G:GS):HV b o G=G.cell b o:=by
  unfold HV GS.cell
  cases G.obj b with
  | none=>rfl
  | some ob =>
    simp only [Bh,Ab]
    by_cases h:ob.mode=2<;>simp [h]
def OY (b o:Nat) (v:Value) (G:GS):Option GS:=match G.obj b with
  | some ob=>aR.casesOn (motive:=fun _=>Option GS) ob fun cells esz opn mode=>bif Nat.beq mode 1 then (match splice cells o [v] with | some c=>some (OW G b ⟨c,esz,opn,mode⟩) | none=>none) else none
  | none=>none
def HW (sz b o:Nat) (v:Value) (G:GS):Option GS:=bif (one v&&Nat.beq sz 1) then OY b o v G else jY sz b o v G
theorem yJ {v:Value} (h:one v=true):v.cells= #[v]:=by cases v<;>first | rfl | cases h
theorem OZ (sz b o:Nat) (v:Value) (G:GS):HW sz b o v G=jY sz b o v G:=by
  unfold HW
  cases hc:(one v&&Nat.beq sz 1)
  · rfl
  · simp only [Bool.and_eq_true,Bh,decide_eq_true_eq] at hc
    obtain ⟨h1,rfl⟩:=hc
    simp only [cond_true]
    unfold jY lY OY
    rw [yJ h1]
    simp only [List.size_toArray,List.length_cons,List.length_nil,if_true]
    cases G.obj b with
    | none=>rfl
    | some ob =>
      obtain ⟨cells,esz,opn,mode⟩:=ob
      simp only [Bh,List.all_cons,h1,List.all_nil,Bool.and_true,XF]
      by_cases hm:mode=1
      · simp only [hm,decide_true,cond_true,if_true]; rfl
      · simp [hm]
def vK {β:Type} (v:Value) (k:Value→β):β:=match v with
  | .bool b=>k (.bool b)
  | .int t n=>k (.int t n)
  | .pointer a=>k (.pointer a)
  | .slice a n c=>k (.slice a n c)
  | .func f a b=>k (.func f a b)
  | .agg l=>k (.agg l)
  | .nilFunc=>k .nilFunc
  | v=>k v
theorem XG {β:Type} (v:Value) (k:Value→β):vK v k=k v:=by cases v<;>rfl
section
variable (P:Program) (q:Bool)
def bV {β:Type} (v:Value) (k:Value→Option β):Option β:=bif q then vK v k else k v
@[simp] theorem XH {β:Type} (v:Value) (k:Value→Option β):bV q v k=k v:=by cases q<;>simp [bV,XG]
def un (o:UnOp) (x:Value):Option Value:=bif q then (match x with | .bool b=>(match o with | .not=>some (.bool (!b)) | o=>wz P o x) | x=>wz P o x) else wz P o x
@[simp] theorem XI (o:UnOp) (x:Value):un P q o x=wz P o x:=by
  cases q
  · rfl
  · unfold un
    simp only [cond_true]
    split
    · split
      · rename_i b; cases b<;>rfl
      · rfl
    · rfl
class tO (s d:TypeId) (ks kd:outParam IntKind):Prop where ok:∀ n,uV P s d (.int ks n)=some (.int kd (kd.wrap n))
def cv (s d:TypeId) (ks kd:IntKind) (x:Value):Option Value:=bif q then (match x with | .int k n=>bif Nat.beq (ik k) (ik ks) then vn kd n else uV P s d x | x=>uV P s d x) else uV P s d x
theorem O0 (s d:TypeId) (ks kd:IntKind) [h:tO P s d ks kd] (x:Value):cv P q s d ks kd x=uV P s d x:=by
  cases q
  · rfl
  · unfold cv
    simp only [cond_true]
    split
    · rw [Bf]
      rename_i k n
      by_cases hk:k=ks
      · subst hk; simp [Bd,h.ok]
      · simp [hk]
    · rfl
class kO (t:TypeId):Prop where ok:∀ v,AU P t v=some (.iface t v)
def vi (t:TypeId) (x:Value):Option Value:=bif q then some (.iface t x) else AU P t x
theorem O1 (t:TypeId) [h:kO P t] (x:Value):vi P q t x=AU P t x:=by
  cases q
  · rfl
  · exact (h.ok x).symm
class aA (t f:Nat) (off:outParam Nat):Prop where ok:∀ b o s,re P t (.pointer (some ⟨b,o,s⟩)) f=some (.pointer (some ⟨b,o+off,none⟩))
def fa (t f off:Nat) (v:Value):Option Value:=bif q then (match v with | .pointer (some a)=>some (.pointer (some ⟨a.block,a.off+off,none⟩)) | v=>re P t v f) else re P t v f
theorem O2 (t f off:Nat) [h:aA P t f off] (v:Value):fa P q t f off v=re P t v f:=by
  cases q
  · rfl
  · unfold fa
    simp only [cond_true]
    split
    · exact (h.ok _ _ _).symm
    · rfl
def fm {β:Type} (j:Int) (n:Nat) (K:Nat→Option β):Option β:=Int.casesOn (motive:=fun _=>Option β) j (fun a=>bif Nat.ble (Nat.succ a) n then K a else none) (fun _=>none)
theorem wT {β:Type} (j:Int) (n:Nat) (K:Nat→Option β):fm j n K=if 0≤j∧j<n then K j.toNat else none:=by
  cases j with
  | negSucc a=>rw [if_neg (by omega)]; rfl
  | ofNat a =>
    show (bif Nat.ble (Nat.succ a) n then K a else none)=_
    by_cases h:a<n
    · rw [Nat.ble_eq_true_of_le (by omega),if_pos (by simp only [Int.ofNat_eq_natCast]; omega)]; rfl
    · have:Nat.ble (Nat.succ a) n=false:=by
        cases hb:Nat.ble (Nat.succ a) n
        · rfl
        · exact absurd (Nat.le_of_ble_eq_true hb) h
      rw [this,if_neg (by simp only [Int.ofNat_eq_natCast]; omega)]; rfl
class qz (t:Nat) (sz:outParam Nat):Prop where ok:∀ b o s n c k j,ky P t (.slice (some ⟨b,o,s⟩) n c) (.int k j)=if 0≤j∧j<(n:Int) then some (.pointer (some ⟨b,o+j.toNat*sz,none⟩)) else none
def lK (t sz:Nat) (v i:Value):Option Value:=bif q then (match v with
  | .slice (some a) n _=>(match i with | .int _ j=>fm j n fun j=>fN (a.off+j*sz) fun o=>some (.pointer (some ⟨a.block,o,none⟩)) | i=>ky P t v i)
  | v=>ky P t v i) else ky P t v i
theorem O3 (t sz:Nat) [h:qz P t sz] (v i:Value):lK P q t sz v i=ky P t v i:=by
  cases q
  · rfl
  · unfold lK
    simp only [cond_true]
    split
    · split
      · rename_i a n c _ k j
        rw [wT,h.ok a.block a.off a.spot]
        simp only [tM]
      · rfl
    · rfl
class wU (t:Nat) (n sz:outParam Nat):Prop where ok:∀ b o s k j,ky P t (.pointer (some ⟨b,o,s⟩)) (.int k j)=if 0≤j∧j<(n:Int) then some (.pointer (some ⟨b,o+j.toNat*sz,none⟩)) else none
def yK (t n sz:Nat) (v i:Value):Option Value:=bif q then (match v with
  | .pointer (some a)=>(match i with | .int _ j=>fm j n fun j=>fN (a.off+j*sz) fun o=>some (.pointer (some ⟨a.block,o,none⟩)) | i=>ky P t v i)
  | v=>ky P t v i) else ky P t v i
theorem O4 (t n sz:Nat) [h:wU P t n sz] (v i:Value):yK P q t n sz v i=ky P t v i:=by
  cases q
  · rfl
  · unfold yK
    simp only [cond_true]
    split
    · split
      · rename_i a _ k j
        rw [wT,h.ok a.block a.off a.spot]
        simp only [tM]
      · rfl
    · rfl
class cy (t:TypeId):Prop where ok:∀ b o s G,kK P t (.pointer (some ⟨b,o,s⟩)) G=G.cell b o
class gG (t:TypeId) (sz:outParam Nat):Prop where ok:∀ b o s G,kK P t (.pointer (some ⟨b,o,s⟩)) G=eI sz b o G
def ld (t:TypeId) (v:Value) (G:GS):Option Value:=bif q then (match v with | .pointer (some a)=>HV a.block a.off G | v=>kK P t v G) else kK P t v G
def fV (t:TypeId) (sz:Nat) (v:Value) (G:GS):Option Value:=bif q then (match v with | .pointer (some a)=>eI sz a.block a.off G | v=>kK P t v G) else kK P t v G
theorem O5 (t:TypeId) [h:cy P t] (v:Value) (G:GS):ld P q t v G=kK P t v G:=by
  cases q
  · rfl
  · unfold ld
    simp only [cond_true]
    split
    · rename_i a; rw [OX]; exact (h.ok a.block a.off a.spot G).symm
    · rfl
theorem O6 (t:TypeId) (sz:Nat) [h:gG P t sz] (v:Value) (G:GS):fV P q t sz v G=kK P t v G:=by
  cases q
  · rfl
  · unfold fV
    simp only [cond_true]
    split
    · rename_i a; exact (h.ok a.block a.off a.spot G).symm
    · rfl
def nm (G:GS):Option (Value×GS):=some (.map (some G.nl),G.Hh)
class cU (t:TypeId) (sz:outParam Nat):Prop where ok:∀ b o s v G,nQ P t (.pointer (some ⟨b,o,s⟩)) v G=jY sz b o v G
def st (t:TypeId) (sz:Nat) (a v:Value) (G:GS):Option GS:=bif q then (match a with | .pointer (some a)=>HW sz a.block a.off v G | a=>nQ P t a v G) else nQ P t a v G
theorem O7 (t:TypeId) (sz:Nat) [h:cU P t sz] (a v:Value) (G:GS):st P q t sz a v G=nQ P t a v G:=by
  cases q
  · rfl
  · unfold st
    simp only [cond_true]
    split
    · rename_i a; rw [OZ]; exact (h.ok a.block a.off a.spot v G).symm
    · rfl
def qA:List (Nat×Nat×Nat)→List Value→List (Nat×Value)
  | p::ps,v::vs=>(p.1,v)::qA ps vs
  | _,_=>[]
def lL:List (Nat×Nat×Nat)→List Value→List (Nat×Nat×Value)
  | p::ps,v::vs=>(p.2.1,p.2.2,v)::lL ps vs
  | _,_=>[]
theorem DJ {place:Nat→Option (Nat×Nat)}:∀ (pl:List (Nat×Nat×Nat)) (vs cs:List Value),(∀ p∈pl,place p.1=some (p.2.1,p.2.2))→qd place cs (qA pl vs)=oy cs (lL pl vs)
  | [],vs,cs,_=>by cases vs<;>rfl
  | p::ps,[],cs,_=>rfl
  | p::ps,v::vs,cs,h=>by
    simp only [qA,lL,qd,oy,h p (by simp)]
    split
    · cases splice cs p.2.1 v.cells.toList with
      | none=>rfl
      | some c=>exact DJ ps vs c fun p hp=>h p (by simp [hp])
    · rfl
def HX (t:TypeId) (i:Nat):Option (Nat×Nat):=match P.underlying t with
  | some (.struct fs)=>if fs.toList.all (fun f=>(dN P f.type).isSome) then Cx P fs i else none
  | some (.array _ e)=>match dN P e with | some s=>some (i*s,s) | none=>none
  | _=>none
def HY (a:Option (Nat×Nat)) (x y:Nat):Bool:=match a with | some p=>Nat.beq p.1 x&&Nat.beq p.2 y | none=>false
def DK (t:TypeId):List (Nat×Nat×Nat)→Bool
  | []=>true
  | p::ps=>HY (HX P t p.1) p.2.1 p.2.2&&DK t ps
def O8 (t:TypeId):Bool:=match P.underlying t with
  | some (.struct fs)=>fs.toList.all (fun f=>(dN P f.type).isSome)
  | some (.array _ e)=>(dN P e).isSome
  | _=>false
theorem XJ {a:Option (Nat×Nat)} {x y:Nat} (h:HY a x y=true):a=some (x,y):=by
  cases a with
  | none=>cases h
  | some p =>
    simp only [HY,Bool.and_eq_true] at h
    obtain ⟨p1,p2⟩:=p
    have e1:p1=x:=Nat.eq_of_beq_eq_true h.1
    have e2:p2=y:=Nat.eq_of_beq_eq_true h.2
    rw [e1,e2]
theorem O9 {t:TypeId}:∀ {pl:List (Nat×Nat×Nat)},DK P t pl=true→∀ p∈pl,HX P t p.1=some (p.2.1,p.2.2)
  | [],_,p,h=>by simp at h
  | x::ps,h,p,hp=>by
    simp only [DK,Bool.and_eq_true] at h
    rcases List.mem_cons.1 hp with rfl | hp
    · exact XJ h.1
    · exact O9 h.2 p hp
class yL (t:TypeId) (z:List Value) (pl:List (Nat×Nat×Nat)):Prop where ok:∀ vs,qZ P t (qA pl vs)=rQ z (lL pl vs)
theorem cJ {t:TypeId} {z:List Value} {pl:List (Nat×Nat×Nat)} (hz:nO P t=some z) (ha:O8 P t=true) (hp:DK P t pl=true):yL P t z pl where
  ok vs:=by
    have h:=O9 P hp
    unfold qZ rQ
    rw [hz]
    simp only
    unfold O8 at ha
    unfold HX at h
    split
    · rename_i fs hu
      rw [hu] at ha h
      simp only at ha h
      rw [if_pos ha]
      rw [DJ pl vs z fun p hp=>by have:=h p hp; rwa [if_pos ha] at this]
      cases oy z (lL pl vs)<;>rfl
    · rename_i n e hu
      rw [hu] at ha h
      simp only at ha h
      cases hs:dN P e with
      | none=>rw [hs] at ha; cases ha
      | some s =>
        rw [hs] at h
        simp only
        rw [DJ pl vs z fun p hp=>h p hp]
        cases oy z (lL pl vs)<;>rfl
    · rename_i h1 h2
      split at ha
      · rename_i fs hu; exact absurd hu (h1 _)
      · rename_i n e hu; exact absurd hu (h2 _ _)
      · cases ha
def bd (t:TypeId) (z:List Value) (pl:List (Nat×Nat×Nat)) (vs:List Value):Option Value:=bif q then rQ z (lL pl vs) else qZ P t (qA pl vs)
theorem XK (t:TypeId) (z:List Value) (pl:List (Nat×Nat×Nat)) [h:yL P t z pl] (vs:List Value):bd P q t z pl vs=qZ P t (qA pl vs):=by
  cases q
  · rfl
  · exact (h.ok vs).symm
class mw (t n:Nat) (z:List Value) (sz:Nat) (pl:List (Nat×Nat×Nat)):Prop where ok:∀ vs G,yA P t n (qA pl vs) G=pv z (lL pl vs) n sz G
def Pa (t:TypeId):Option (Nat×List Value):=match P.underlying t with
  | some (.slice e)=>match dN P e,nO P e with | some s,some z=>some (s,z) | _,_=>none
  | _=>none
def DL (s:Nat):List (Nat×Nat×Nat)→Bool
  | []=>true
  | p::ps=>(Nat.beq p.2.1 (p.1*s)&&Nat.beq p.2.2 s)&&DL s ps
theorem Pb {s:Nat}:∀ {pl:List (Nat×Nat×Nat)},DL s pl=true→∀ p∈pl,some (p.1*s,s)=some (p.2.1,p.2.2)
  | [],_,p,h=>by simp at h
  | x::ps,h,p,hp=>by
    simp only [DL,Bool.and_eq_true] at h
    rcases List.mem_cons.1 hp with rfl | hp
    · rw [Nat.eq_of_beq_eq_true h.1.1,Nat.eq_of_beq_eq_true h.1.2]
    · exact Pb h.2 p hp
theorem qB {t n s:Nat} {z z0:List Value} {pl:List (Nat×Nat×Nat)} (h1:Pa P t=some (s,z0)) (h2:rep z0 n=z) (h3:(s≠0∧n*s≤2 ^ 24)) (hp:DL s pl=true):mw P t n z s pl where
  ok vs G:=by
    unfold Pa at h1
    unfold yA pv
    split at h1
    · rename_i e hu
      rw [hu]
      simp only
      split at h1
      · rename_i s' z' e1 e2
        simp only [Option.some.injEq,Prod.mk.injEq] at h1
        obtain ⟨rfl,rfl⟩:=h1
        rw [e1,e2]
        simp only
        rw [if_pos h3,h2,DJ pl vs z fun p eG=>Pb hp p eG]
      · cases h1
    · cases h1
def bs (t n:Nat) (z:List Value) (sz:Nat) (pl:List (Nat×Nat×Nat)) (vs:List Value) (G:GS):Option (Value×GS):=bif q then (match oy z (lL pl vs) with | some c=>Bg G ⟨c,sz,false,1⟩ fun b G'=>some (.slice (some ⟨b,0,none⟩) n n,G') | none=>none) else yA P t n (qA pl vs) G
theorem tP (t n:Nat) (z:List Value) (sz:Nat) (pl:List (Nat×Nat×Nat)) [h:mw P t n z sz pl] (vs:List Value) (G:GS):bs P q t n z sz pl vs G=yA P t n (qA pl vs) G:=by
  cases q
  · rfl
  · rw [h.ok]
    unfold bs pv
    simp only [cond_true,yI]
    rfl
class yM (t f:Nat) (off:outParam Nat):Prop where ok:∀ l,lW P t (.agg ⟨l⟩) f=mP l off
def fd (t f off:Nat) (v:Value):Option Value:=bif q then (match v with | .agg l=>mP l.toList off | v=>lW P t v f) else lW P t v f
theorem Pc (t f off:Nat) [h:yM P t f off] (v:Value):fd P q t f off v=lW P t v f:=by
  cases q
  · rfl
  · unfold fd
    simp only [cond_true]
    split
    · exact (h.ok _).symm
    · rfl
def wV (sz off:Nat) (l:List Value):Option Value:=match takeN sz (uy off l) with | some l=>some (.agg ⟨l⟩) | none=>none
class HZ (t f:Nat) (off sz:outParam Nat):Prop where ok:∀ l,lW P t (.agg ⟨l⟩) f=wV sz off l
def yN (t f off sz:Nat) (v:Value):Option Value:=bif q then (match v with | .agg l=>wV sz off l.toList | v=>lW P t v f) else lW P t v f
theorem Pd (t f off sz:Nat) [h:HZ P t f off sz] (v:Value):yN P q t f off sz v=lW P t v f:=by
  cases q
  · rfl
  · unfold yN
    simp only [cond_true]
    split
    · exact (h.ok _).symm
    · rfl
class DM (t:Nat) (n:outParam Nat):Prop where ok:∀ l k j,kx P t (.agg ⟨l⟩) (.int k j)=if 0≤j∧j<(n:Int) then mP l (j.toNat*1) else none
def ix (t n:Nat) (v i:Value):Option Value:=bif q then (match v with | .agg l=>(match i with | .int _ j=>fm j n fun j=>mP l.toList j | i=>kx P t v i) | v=>kx P t v i) else kx P t v i
theorem Pe (t n:Nat) [h:DM P t n] (v i:Value):ix P q t n v i=kx P t v i:=by
  cases q
  · rfl
  · unfold ix
    simp only [cond_true]
    split
    · split
      · rename_i l _ k j
        have:=h.ok l.toList k j
        simp only [Nat.mul_one] at this
        rw [wT]
        exact this.symm
      · rfl
    · rfl
class H0 (t:Nat) (n sz:outParam Nat):Prop where ok:∀ l k j,kx P t (.agg ⟨l⟩) (.int k j)=if 0≤j∧j<(n:Int) then wV sz (j.toNat*sz) l else none
def Bi (t n sz:Nat) (v i:Value):Option Value:=bif q then (match v with | .agg l=>(match i with | .int _ j=>fm j n fun j=>wV sz (j*sz) l.toList | i=>kx P t v i) | v=>kx P t v i) else kx P t v i
theorem Pf (t n sz:Nat) [h:H0 P t n sz] (v i:Value):Bi P q t n sz v i=kx P t v i:=by
  cases q
  · rfl
  · unfold Bi
    simp only [cond_true]
    split
    · split
      · rename_i l _ k j
        rw [wT]
        exact (h.ok l.toList k j).symm
      · rfl
    · rfl
class qC (t:TypeId):Prop where ok:∀ a n c,mQ P t (.slice a n c)=some (.int .i64 (n:Int))
def ln (t:TypeId) (v:Value):Option Value:=bif q then (match v with | .slice _ n _=>fN n fun n=>some (.int .i64 (Int.ofNat n)) | v=>mQ P t v) else mQ P t v
theorem Pg (t:TypeId) [h:qC P t] (v:Value):ln P q t v=mQ P t v:=by
  cases q
  · rfl
  · unfold ln
    simp only [cond_true]
    split
    · rw [tM,h.ok]; rfl
    · rfl
class H2 (t:Nat) (n:outParam Nat):Prop where ok:∀ v,mQ P t v=some (.int .i64 (n:Int))
def Bj (t n:Nat) (v:Value):Option Value:=bif q then some (.int .i64 (Int.ofNat n)) else mQ P t v
theorem Ph (t n:Nat) [h:H2 P t n] (v:Value):Bj P q t n v=mQ P t v:=by
  cases q
  · rfl
  · exact (h.ok v).symm
class yO (ts tx:Nat) (sz bt:outParam Nat):Prop where ok:∀ s x G,qe P ts tx s x G=oz sz bt s x G
def ap (ts tx sz bt:Nat) (s x:Value) (G:GS):Option (Value×GS):=bif q then oz sz bt s x G else qe P ts tx s x G
theorem Pj (ts tx sz bt:Nat) [h:yO P ts tx sz bt] (s x:Value) (G:GS):ap P q ts tx sz bt s x G=qe P ts tx s x G:=by
  cases q
  · rfl
  · exact (h.ok s x G).symm
class H3 (td:Nat) (sz:outParam Nat):Prop where ok:∀ d s G,qf P td d s G=HJ sz d s G
def cp (td sz:Nat) (d s:Value) (G:GS):Option (Value×GS):=bif q then HJ sz d s G else qf P td d s G
theorem Pk (td sz:Nat) [h:H3 P td sz] (d s:Value) (G:GS):cp P q td sz d s G=qf P td d s G:=by
  cases q
  · rfl
  · exact (h.ok d s G).symm
class DN (t:Nat) (sz:outParam Nat):Prop where ok:∀ a n c lo hi mx G,iG P t (.slice a n c) lo hi mx G=jo sz (.slice a n c) lo hi mx G
def sl (t sz:Nat) (x:Value) (lo hi mx:Option Value) (G:GS):Option Value:=bif q then (match x with | .slice a n c=>jo sz (.slice a n c) lo hi mx G | x=>iG P t x lo hi mx G) else iG P t x lo hi mx G
theorem Pm (t sz:Nat) [h:DN P t sz] (x:Value) (lo hi mx:Option Value) (G:GS):sl P q t sz x lo hi mx G=iG P t x lo hi mx G:=by
  cases q
  · rfl
  · unfold sl
    simp only [cond_true]
    split
    · exact (h.ok _ _ _ lo hi mx G).symm
    · rfl
class Bk (t:Nat) (n sz:outParam Nat):Prop where ok:∀ a lo hi mx G,iG P t (.pointer (some a)) lo hi mx G=yF n sz (.pointer (some a)) lo hi mx
def yP (t n sz:Nat) (x:Value) (lo hi mx:Option Value) (G:GS):Option Value:=bif q then (match x with | .pointer (some a)=>yF n sz (.pointer (some a)) lo hi mx | x=>iG P t x lo hi mx G) else iG P t x lo hi mx G
theorem Pn (t n sz:Nat) [h:Bk P t n sz] (x:Value) (lo hi mx:Option Value) (G:GS):yP P q t n sz x lo hi mx G=iG P t x lo hi mx G:=by
  cases q
  · rfl
  · unfold yP
    simp only [cond_true]
    split
    · exact (h.ok _ lo hi mx G).symm
    · rfl
class gH (t:TypeId) (z:outParam (List Value)):Prop where ok:∀ G,AV P t G=some (.pointer (some ⟨G.nx,0,none⟩),jf G z 1)
def al (t:TypeId) (z:List Value) (G:GS):Option (Value×GS):=bif q then Bg G ⟨z,1,false,1⟩ (fun b G'=>some (.pointer (some ⟨b,0,none⟩),G')) else AV P t G
theorem Po (t:TypeId) (z:List Value) [h:gH P t z] (G:GS):al P q t z G=AV P t G:=by
  cases q
  · rfl
  · rw [h.ok]; unfold al; simp only [cond_true,yI]; rfl
def bx (v:Value) (G:GS):Option (Value×GS):=bif q then Bg G ⟨v.cells.toList,1,false,1⟩ (fun b G'=>some (.pointer (some ⟨b,0,none⟩),G')) else Ds v G
theorem Pp (v:Value) (G:GS):bx q v G=Ds v G:=by
  cases q
  · rfl
  · unfold bx Ds; simp only [cond_true,yI]; rfl
class Bl (t:Nat) (sz bt:outParam Nat) (z:outParam (List Value)):Prop where ok:∀ k k' l c G,wA P t (.int k l) (.int k' c) G=wR sz bt z l c G
def mk (t sz bt:Nat) (z:List Value) (l c:Value) (G:GS):Option (Value×GS):=bif q then (match l with | .int k l'=>(match c with | .int k' c'=>wR sz bt z l' c' G | c=>wA P t l c G) | l=>wA P t l c G) else wA P t l c G
theorem mk_eq (t sz bt:Nat) (z:List Value) [h:Bl P t sz bt z] (l c:Value) (G:GS):mk P q t sz bt z l c G=wA P t l c G:=by
  cases q
  · rfl
  · unfold mk
    simp only [cond_true]
    split
    · split
      · exact (h.ok _ _ _ _ G).symm
      · rfl
    · rfl
def mn (dA:Array TypeId) (a b:Value):Option Value:=bif q then (match a with | .int k m=>(match b with | .int k' n=>bif Nat.beq (ik k) (ik k') then some (.int k (bif tN n m then n else m)) else uY P dA [a,b] | b=>uY P dA [a,b]) | a=>uY P dA [a,b]) else uY P dA [a,b]
@[simp] theorem XL (dA:Array TypeId) (a b:Value):mn P q dA a b=uY P dA [a,b]:=by
  cases q
  · rfl
  · unfold mn
    simp only [cond_true]
    split
    · split
      · rename_i k m _ k' n
        rw [Bf,yH]
        by_cases hk:k=k'
        · subst hk; by_cases hh:n<m<;>simp [hh]
        · simp [hk]
      · rfl
    · rfl
def mx (dA:Array TypeId) (a b:Value):Option Value:=bif q then (match a with | .int k m=>(match b with | .int k' n=>bif Nat.beq (ik k) (ik k') then some (.int k (bif tN m n then n else m)) else uZ P dA [a,b] | b=>uZ P dA [a,b]) | a=>uZ P dA [a,b]) else uZ P dA [a,b]
@[simp] theorem XM (dA:Array TypeId) (a b:Value):mx P q dA a b=uZ P dA [a,b]:=by
  cases q
  · rfl
  · unfold mx
    simp only [cond_true]
    split
    · split
      · rename_i k m _ k' n
        rw [Bf,yH]
        by_cases hk:k=k'
        · subst hk; by_cases hh:m<n<;>simp [hh]
        · simp [hk]
      · rfl
    · rfl
def fW (neg:Bool):BinOp:=bif neg then .neq else .eql
class iK (t:TypeId):Prop where
  nn:∀ neg x y,bF P (fW neg) t x y (.pointer none) (.pointer none)=some (.bool (!neg))
  sn:∀ neg x y a,bF P (fW neg) t x y (.pointer (some a)) (.pointer none)=some (.bool neg)
  ns:∀ neg x y a,bF P (fW neg) t x y (.pointer none) (.pointer (some a))=some (.bool neg)
def ep (neg:Bool) (t:TypeId) (x y:Operand) (a b:Value):Option Value:=bif q then (match a with
  | .pointer none=>(match b with | .pointer none=>some (.bool (!neg)) | .pointer (some c)=>some (.bool neg) | b=>bF P (fW neg) t x y a b)
  | .pointer (some c)=>(match b with | .pointer none=>some (.bool neg) | b=>bF P (fW neg) t x y a b)
  | a=>bF P (fW neg) t x y a b) else bF P (fW neg) t x y a b
theorem H7 (neg:Bool) (t:TypeId) [h:iK P t] (x y:Operand) (a b:Value):ep P q neg t x y a b=bF P (fW neg) t x y a b:=by
  cases q
  · rfl
  · unfold ep
    simp only [cond_true]
    split
    · split
      · exact (h.nn neg x y).symm
      · exact (h.ns neg x y _).symm
      · rfl
    · split
      · exact (h.sn neg x y _).symm
      · rfl
    · rfl
class DO (t:TypeId):Prop where
  nn:∀ neg x y,bF P (fW neg) t x y (.slice none 0 0) (.slice none 0 0)=some (.bool (!neg))
  sn:∀ neg x y a n c,bF P (fW neg) t x y (.slice (some a) n c) (.slice none 0 0)=some (.bool neg)
def es (neg:Bool) (t:TypeId) (x y:Operand) (a b:Value):Option Value:=bif q then (match a with
  | .slice none 0 0=>(match b with | .slice none 0 0=>some (.bool (!neg)) | b=>bF P (fW neg) t x y a b)
  | .slice (some c) _ _=>(match b with | .slice none 0 0=>some (.bool neg) | b=>bF P (fW neg) t x y a b)
  | a=>bF P (fW neg) t x y a b) else bF P (fW neg) t x y a b
theorem H8 (neg:Bool) (t:TypeId) [h:DO P t] (x y:Operand) (a b:Value):es P q neg t x y a b=bF P (fW neg) t x y a b:=by
  cases q
  · rfl
  · unfold es
    simp only [cond_true]
    split
    · split
      · exact (h.nn neg x y).symm
      · rfl
    · split
      · exact (h.sn neg x y _ _ _).symm
      · rfl
    · rfl
class j7 (t:TypeId):Prop where
  nn:∀ neg x y,bF P (fW neg) t x y .nilFunc .nilFunc=some (.bool (!neg))
  sn:∀ neg x y f a b,bF P (fW neg) t x y (.func f a b) .nilFunc=some (.bool neg)
def ef (neg:Bool) (t:TypeId) (x y:Operand) (a b:Value):Option Value:=bif q then (match a with
  | .nilFunc=>(match b with | .nilFunc=>some (.bool (!neg)) | b=>bF P (fW neg) t x y a b)
  | .func _ _ _=>(match b with | .nilFunc=>some (.bool neg) | b=>bF P (fW neg) t x y a b)
  | a=>bF P (fW neg) t x y a b) else bF P (fW neg) t x y a b
theorem H9 (neg:Bool) (t:TypeId) [h:j7 P t] (x y:Operand) (a b:Value):ef P q neg t x y a b=bF P (fW neg) t x y a b:=by
  cases q
  · rfl
  · unfold ef
    simp only [cond_true]
    split
    · split
      · exact (h.nn neg x y).symm
      · rfl
    · split
      · exact (h.sn neg x y _ _ _).symm
      · rfl
    · rfl
class DQ (t:TypeId):Prop where ok:∀ neg x y a b,bF P (fW neg) t x y (.bool a) (.bool b)=some (.bool (a==(b ^^ neg)))
def eb (neg:Bool) (t:TypeId) (x y:Operand) (a b:Value):Option Value:=bif q then (match a with
  | .bool a'=>(match b with | .bool b'=>some (.bool (bif a' then (bif b' then !neg else neg) else (bif b' then neg else !neg))) | b=>bF P (fW neg) t x y a b)
  | a=>bF P (fW neg) t x y a b) else bF P (fW neg) t x y a b
theorem Ia (neg:Bool) (t:TypeId) [h:DQ P t] (x y:Operand) (a b:Value):eb P q neg t x y a b=bF P (fW neg) t x y a b:=by
  cases q
  · rfl
  · unfold eb
    simp only [cond_true]
    split
    · split
      · rename_i a _ b; rw [h.ok]; cases a<;>cases b<;>cases neg<;>rfl
      · rfl
    · rfl
end
structure Ex where
  ev:Ev
  du:Nat→Nat→Env→GS→Option (Exit×Env×GS)
def bZ (x:Option (Exit×List Value×GS)):Option (Exit×Env×GS):=match x with | some (e,T,G)=>some (e,nth undef T,G) | none=>none
def clip (N:Nat) (τ:Env):Env:=fun j=>bif Nat.ble (Nat.succ j) N then τ j else undef
def look (l:List (Nat×Value)) (j:Nat) (d:Value):Value:=List.rec (motive:=fun _=>Value) d (fun p _ ih=>bif Nat.beq j p.1 then p.2 else ih) l
def tu (τ:Env) (l:List (Nat×Value)):Env:=fun j=>look l j (τ j)
def eO:Code→List Code
  | .loop b=>b::eO b
  | .scope b=>eO b
  | .rangeFunc _ _ a b=>eO a++eO b
  | .seq a b=>eO a++eO b
  | .cond _ a b=>eO a++eO b
  | .block _ b=>eO b
  | _=>[]
def my (P:Program) (f k:Nat):Code:=match P.funcs[f]? with | some fn=>nth .skip (eO (aS fn)) k | none=>.skip
def nh (P:Program) (f:Nat):Nat:=match P.funcs[f]? with | some fn=>fn.ntmps | none=>0
class fM (P:Program) (f k:Nat) (c:Code) (N:Nat):Prop where
  code:my P f k=c
  num:nh P f=N
def bE {β:Type} (x:Option (Exit×Env×GS)) (K:Exit→Env→GS→Option β):Option β:=match x with | some (e,τ,G)=>K e τ G | none=>none
@[simp] theorem afQ {β:Type} (e:Exit) (τ:Env) (G:GS) (K:Exit→Env→GS→Option β):bE (some (e,τ,G)) K=K e τ G:=Eq.trans rfl rfl
def bL {β:Type} (q:Bool) (e:Ex) (f k:Nat) (c:Code) (N:Nat) (τ:Env) (G:GS) (K:Exit→Env→GS→Option β):Option β :=
  bif q then bE (e.du f k τ G) K else bX (e.ev.lp c (aN N τ) G) fun x T G=>K x (nth undef T) G
structure cf (P:Program) (e:Ex) (E:Ev):Prop where
  ev:e.ev.le E
  du:∀ f k τ G,Ref (e.du f k τ G) (bZ (E.lp (my P f k) (aN (nh P f) τ) G))
def Ex.of (E:Ev):Ex:=⟨E,fun _ _ _ _=>none⟩
theorem Ref.bL {β:Type} {P:Program} {f k:Nat} {c:Code} {N:Nat} [i:fM P f k c N] {e:Ex} {E:Ev} (h:cf P e E) {τ:Env} {G:GS} {K K':Exit→Env→GS→Option β} (hK:∀ x τ G,Ref (K x τ G) (K' x τ G)) :
    Ref (bL true e f k c N τ G K) (bL false (Ex.of E) f k c N τ G K'):=fun r hr=>by
  have h1:=h.du f k τ G
  rw [i.code,i.num] at h1
  simp only [Gh.bL,cond_true] at hr
  show Gh.bX (E.lp c (aN N τ) G) _=some r
  cases hx:e.du f k τ G with
  | none=>rw [hx] at hr; cases hr
  | some a =>
    obtain ⟨x,τ1,G1⟩:=a
    have h2:=h1 _ hx
    rw [hx] at hr
    cases hy:E.lp c (aN N τ) G with
    | none=>rw [hy] at h2; cases h2
    | some b =>
      obtain ⟨x',T',G'⟩:=b
      rw [hy] at h2
      simp only [bZ,Option.some.injEq,Prod.mk.injEq] at h2
      obtain ⟨rfl,rfl,rfl⟩:=h2
      exact hK _ _ _ r hr
theorem DR (N:Nat) (τ:Env):(aN N τ).length=N:=by simp [aN]
theorem vo (N:Nat) (τ:Env):nth undef (aN N τ)=clip N τ:=by
  funext j
  unfold clip aN
  rw [jL,List.getD_eq_getElem?_getD]
  by_cases h:j<N
  · rw [Nat.ble_eq_true_of_le (by omega)]
    simp [h]
  · have:Nat.ble (Nat.succ j) N=false:=by
      cases hb:Nat.ble (Nat.succ j) N
      · rfl
      · exact absurd (Nat.le_of_ble_eq_true hb) h
    rw [this,List.getElem?_eq_none (by simp; omega)]
    rfl
def XO (q:Bool) (N:Nat) (τ:Env):Env:=bif q then clip N τ else nth undef (aN N τ)
@[simp] theorem afR (q:Bool) (N:Nat) (τ:Env):XO q N τ=clip N τ:=by
  cases q
  · exact vo N τ
  · rfl
def Ib (F:Value→GS→Option (Value×GS)) (vs:List Value) (G:GS):Option (Value×GS):=match vs with | [a]=>F a G | _=>none
section
variable {P:Program} {ae:FuncId→Bool}
end
def leaf {β:Type} (f n:Nat) (x:Option β):Option β:=bif Nat.beq f n then x else none
theorem Ref.leaf {β:Type} {f n:Nat} {x:Option β} {y:Nat→Option β} (h:Ref x (y n)):Ref (leaf f n x) (y f):=by
  unfold Gh.leaf
  cases hb:Nat.beq f n
  · exact .nil _
  · rw [Nat.eq_of_beq_eq_true hb]; exact h
def isTrue (x:Option (Value×GS)):Bool:=match x with | some (.bool true,_)=>true | _=>false
theorem XP {x y:Option (Value×GS)} (h:Ref x y) (t:isTrue x=true):∃ G',y=some (.bool true,G'):=by
  unfold isTrue at t
  split at t
  · rename_i G'; exact ⟨G',h _ rfl⟩
  · cases t
class eE {α:Type} (x y:Option α):Prop where r:Ref x y
section
variable {P:Program}
instance {op:BinOp} {t:TypeId} {x y:Operand} {a b:Value}:eE (bn P true op t x y a b) (bn P false op t x y a b):=⟨.of_eq (by simp [XE])⟩
instance {o:UnOp} {x:Value}:eE (un P true o x) (un P false o x):=⟨.of_eq (by simp [XI])⟩
instance {s d:TypeId} {ks kd:IntKind} {x:Value} [tO P s d ks kd]:eE (cv P true s d ks kd x) (cv P false s d ks kd x):=⟨.of_eq (by simp [O0])⟩
instance {t:TypeId} {x:Value} [kO P t]:eE (vi P true t x) (vi P false t x):=⟨.of_eq (by simp [O1])⟩
instance {t f off:Nat} {x:Value} [aA P t f off]:eE (fa P true t f off x) (fa P false t f off x):=⟨.of_eq (by simp [O2])⟩
instance {t sz:Nat} {x i:Value} [qz P t sz]:eE (lK P true t sz x i) (lK P false t sz x i):=⟨.of_eq (by simp [O3])⟩
instance {t n sz:Nat} {x i:Value} [wU P t n sz]:eE (yK P true t n sz x i) (yK P false t n sz x i):=⟨.of_eq (by simp [O4])⟩
instance {t:TypeId} {x:Value} {G:GS} [cy P t]:eE (ld P true t x G) (ld P false t x G):=⟨.of_eq (by simp [O5])⟩
instance {t:TypeId} {sz:Nat} {x:Value} {G:GS} [gG P t sz]:eE (fV P true t sz x G) (fV P false t sz x G):=⟨.of_eq (by simp [O6])⟩
instance {t:TypeId} {sz:Nat} {a x:Value} {G:GS} [cU P t sz]:eE (st P true t sz a x G) (st P false t sz a x G):=⟨.of_eq (by simp [O7])⟩
instance {t:TypeId} {z:List Value} {pl:List (Nat×Nat×Nat)} {vs:List Value} [yL P t z pl]:eE (bd P true t z pl vs) (bd P false t z pl vs):=⟨.of_eq (by simp [XK])⟩
instance {t n sz:Nat} {z:List Value} {pl:List (Nat×Nat×Nat)} {vs:List Value} {G:GS} [mw P t n z sz pl]:eE (bs P true t n z sz pl vs G) (bs P false t n z sz pl vs G):=⟨.of_eq (by simp [tP])⟩
instance {t f off:Nat} {x:Value} [yM P t f off]:eE (fd P true t f off x) (fd P false t f off x):=⟨.of_eq (by simp [Pc])⟩
instance {t f off sz:Nat} {x:Value} [HZ P t f off sz]:eE (yN P true t f off sz x) (yN P false t f off sz x):=⟨.of_eq (by simp [Pd])⟩
instance {t n:Nat} {x i:Value} [DM P t n]:eE (ix P true t n x i) (ix P false t n x i):=⟨.of_eq (by simp [Pe])⟩
instance {t n sz:Nat} {x i:Value} [H0 P t n sz]:eE (Bi P true t n sz x i) (Bi P false t n sz x i):=⟨.of_eq (by simp [Pf])⟩
instance {t:TypeId} {x:Value} [qC P t]:eE (ln P true t x) (ln P false t x):=⟨.of_eq (by simp [Pg])⟩
instance {t n:Nat} {x:Value} [H2 P t n]:eE (Bj P true t n x) (Bj P false t n x):=⟨.of_eq (by simp [Ph])⟩
instance {ts tx sz bt:Nat} {a x:Value} {G:GS} [yO P ts tx sz bt]:eE (ap P true ts tx sz bt a x G) (ap P false ts tx sz bt a x G):=⟨.of_eq (by simp [Pj])⟩
instance {td sz:Nat} {a x:Value} {G:GS} [H3 P td sz]:eE (cp P true td sz a x G) (cp P false td sz a x G):=⟨.of_eq (by simp [Pk])⟩
instance {t sz:Nat} {x:Value} {lo hi mx:Option Value} {G:GS} [DN P t sz]:eE (sl P true t sz x lo hi mx G) (sl P false t sz x lo hi mx G):=⟨.of_eq (by simp [Pm])⟩
instance {t n sz:Nat} {x:Value} {lo hi mx:Option Value} {G:GS} [Bk P t n sz]:eE (yP P true t n sz x lo hi mx G) (yP P false t n sz x lo hi mx G):=⟨.of_eq (by simp [Pn])⟩
instance {t:TypeId} {z:List Value} {G:GS} [gH P t z]:eE (al P true t z G) (al P false t z G):=⟨.of_eq (by simp [Po])⟩
instance {x:Value} {G:GS}:eE (bx true x G) (bx false x G):=⟨.of_eq (by simp [Pp])⟩
instance {t sz bt:Nat} {z:List Value} {a x:Value} {G:GS} [Bl P t sz bt z]:eE (mk P true t sz bt z a x G) (mk P false t sz bt z a x G):=⟨.of_eq (by simp [mk_eq])⟩
instance {dA:Array TypeId} {a b:Value}:eE (mn P true dA a b) (mn P false dA a b):=⟨.of_eq (by simp [XL])⟩
instance {dA:Array TypeId} {a b:Value}:eE (mx P true dA a b) (mx P false dA a b):=⟨.of_eq (by simp [XM])⟩
instance {neg:Bool} {t:TypeId} {x y:Operand} {a b:Value} [iK P t]:eE (ep P true neg t x y a b) (ep P false neg t x y a b):=⟨.of_eq (by simp [H7])⟩
instance {neg:Bool} {t:TypeId} {x y:Operand} {a b:Value} [DO P t]:eE (es P true neg t x y a b) (es P false neg t x y a b):=⟨.of_eq (by simp [H8])⟩
instance {neg:Bool} {t:TypeId} {x y:Operand} {a b:Value} [j7 P t]:eE (ef P true neg t x y a b) (ef P false neg t x y a b):=⟨.of_eq (by simp [H9])⟩
instance {neg:Bool} {t:TypeId} {x y:Operand} {a b:Value} [DQ P t]:eE (eb P true neg t x y a b) (eb P false neg t x y a b):=⟨.of_eq (by simp [Ia])⟩
end
section
variable {P:Program} {e:Ex} {E:Ev}
theorem Ref.cl (h:cf P e E) {f:FuncId} {vs:List Value} {G:GS}:Ref (e.ev.cl f vs G) ((Ex.of E).ev.cl f vs G):=h.ev.cl _ _ _
theorem Ref.sc (h:cf P e E) {b c:Code} {T:List Value} {G:GS}:Ref (e.ev.sc b c T G) ((Ex.of E).ev.sc b c T G):=h.ev.sc _ _ _ _
theorem Ref.dO (h:cf P e E) {v:Value} {vs:List Value} {G:GS}:Ref (dO e.ev v vs G) (dO (Ex.of E).ev v vs G):=by
  unfold Gh.dO
  split
  · exact h.ev.cl _ _ _
  · split
    · exact h.ev.rd _ _ _
    · exact .nil _
  · exact .nil _
theorem Ref.dS (h:cf P e E) {v:Value} {nm:String} {vs:List Value} {G:GS}:Ref (dS P e.ev v nm vs G) (dS P (Ex.of E).ev v nm vs G):=by
  unfold Gh.dS
  split
  · split
    · exact h.ev.cl _ _ _
    · exact .nil _
  · exact .nil _
theorem Ref.gW (h:cf P e E) {v:Value} {ps:Array Nat} {a b:Code} {T:List Value} {G:GS}:Ref (gW e.ev v ps a b T G) (gW (Ex.of E).ev v ps a b T G):=by
  unfold Gh.gW
  split
  · rename_i g a1 b1
    intro r hr
    cases hx:e.ev.cl g (a1.toList++[.func (.yield G.nl) #[] #[]]++b1.toList) (G.fD ⟨.ready,none,T,ps.toList,a,b⟩) with
    | none=>rw [hx] at hr; cases hr
    | some y =>
      rw [hx] at hr
      have:=h.ev.cl _ _ _ _ hx
      show Gh.qu G.nl T (E.cl g _ _)=some r
      rw [this]; exact hr
  · exact .nil _
end
structure jr (lp cN:Env→GS→Option (Exit×Env×GS)):Prop where r:∀ τ G,Ref (lp τ G) (cN τ G)
def bA (P:Program) (ae:FuncId→Bool):Ex:=⟨aC P ae,fun f k τ G=>bZ ((aC P ae).lp (my P f k) (aN (nh P f) τ) G)⟩
theorem ai (P:Program) (ae:FuncId→Bool):cf P (bA P ae) (aC P ae):=⟨.refl _,fun _ _ _ _=>.rfl' _⟩
end
end Go.Proofs.YtphandknhnkhfaaGreat.Gh
