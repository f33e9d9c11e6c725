import Derived.Test.YtkhlabammcghbaaGreatGhPJ
import Derived.Test.YtkhlabammcghbaaGreatGhPW
import Derived.KernelRfl
namespace Go.Proofs.YtkhlabammcghbaaGreat.Gh
open Go
set_option linter.unusedVariables false
set_option linter.unusedSimpArgs false
noncomputable section
def oq (P:Program):{ M:wU // M=r8 P }:=Classical.choice ⟨⟨_,rfl⟩⟩
abbrev OG:Type:=Option (Value×GS)
abbrev OL:Type:=Option (Exit×Env×GS)
abbrev bF:Type:=Env→GS→OL
abbrev Hs:=List (Nat×Value)
def ny (h:Hs) (d:Option Tmp) (v:Value):Hs:=match d with | some t=>(t,v)::h | none=>h
def kg (τ:Env) (h:Hs) (x:Operand):Value:=match x with
  | .tmp t=>tu τ h t
  | .const v=>v
  | .global _=>undef
  | .func f=>.func (.func f) #[] #[]
theorem sf (τ:Env) (h:Hs):kg τ h=iN (tu τ h):=by funext x; cases x<;>rfl
theorem QS {N:Nat} {τ:Env} {h:Hs} {d:Option Tmp} {v:Value} (hd:(match d with | some t=>Nat.blt t N | none=>true)=true):pA N (tu τ h) d v=tu τ (ny h d v):=by
  cases d with
  | none=>rfl
  | some t =>
    funext j
    show (bif Nat.beq j t then (bif Nat.blt t N then v else tu τ h j) else tu τ h j)=(bif Nat.beq j t then v else tu τ h j)
    simp only at hd
    rw [hd]; rfl
def Js (ops:Array Oper) (τ:Env) (h:Hs) (j:Nat):Value:=match gX ops j with | some t=>tu τ h t | none=>undef
section
variable (P:Program) (M:wU) (E:Ev)
def zt {β:Type} (ops:Array Oper) (τ:Env):List Oper→Hs→GS→(Hs→GS→Option β)→Option β
  | [],h,G,K=>K h G
  | o::r,h,G,K=>match o.guard with
    | none=>ou P E M (kg τ h) o.op G fun v G'=>zt ops τ r (ny h o.dst v) G' K
    | some (j,want)=>bS (gd (Js ops τ h j) want (ou P E M (kg τ h) o.op G fun v G'=>some (v,G')) G) fun v G'=>zt ops τ r (ny h o.dst v) G' K
structure It where
  op:Op
  dst:Option Tmp
  g:Option (Option Tmp×Bool)
  c:Nat
  m:Nat
def sg (ops:Array Oper) (g:Option (Nat×Bool)):Option (Option Tmp×Bool):=match g with | none=>none | some (j,w)=>some (gX ops j,w)
def B5 (ops:Array Oper):List Nat→Nat→List Oper→List It
  | _,_,[]=>[]
  | ms,i,o::r=>⟨o.op,o.dst,sg ops o.guard,cls o.op,nth 0 ms i⟩::B5 ops ms (i+1) r
def tT (τ:Env) (h:Hs) (j:Option Tmp):Value:=match j with | some t=>tu τ h t | none=>undef
def je {β:Type} (base:Nat) (τ:Env):Nat→List It→Hs→GS→List (Nat×Bool×GS)→List (Nat×(GS→Bool))→(Hs→GS→Option β)→Option β
  | _,[],h,G,_,_,K=>K h G
  | i,⟨op,d,none,0,m⟩::r,h,G,aO,aC,K=>ou P E M (kg τ h) op G fun v _=>je base τ (i+1) r (ny h d v) G aO aC K
  | i,⟨op,d,none,1,m⟩::r,h,G,aO,aC,K=>bP (nv P (kg τ h) op G) fun v=>iM (fun x=>!x.1||bp (nv P (kg τ h) op x.2) v) (jc m aO)
      (je base τ (i+1) r (ny h d v) G aO ((i,fun G'=>bp (nv P (kg τ h) op G') v)::aC) K)
  | i,⟨op,d,none,2,m⟩::r,h,G,aO,aC,K=>ou P E M (kg τ h) op (G.aS (base+i)) fun v G'=>je base τ (i+1) r (ny h d v) (G'.back G) aO aC K
  | i,⟨op,d,none,_,m⟩::r,h,G,aO,aC,K=>ou P E M (kg τ h) op G fun v G'=>iM (fun c=>c G') (jc m aC) (je base τ (i+1) r (ny h d v) G' ((i,true,G)::aO) aC K)
  | i,⟨op,d,some (j,want),0,m⟩::r,h,G,aO,aC,K=>bS (gd (tT τ h j) want (ou P E M (kg τ h) op G fun v G'=>some (v,G')) G) fun v _=>je base τ (i+1) r (ny h d v) G aO aC K
  | i,⟨op,d,some (j,want),1,m⟩::r,h,G,aO,aC,K=>bS (gd (tT τ h j) want (bP (nv P (kg τ h) op G) fun v=>some (v,G)) G) fun v _ =>
      iM (fun x=>!(gB (tT τ h j) want)||(!x.1||bp (nv P (kg τ h) op x.2) v)) (jc m aO)
      (je base τ (i+1) r (ny h d v) G aO ((i,fun G'=>!(gB (tT τ h j) want)||bp (nv P (kg τ h) op G') v)::aC) K)
  | i,⟨op,d,some (j,want),2,m⟩::r,h,G,aO,aC,K=>bS (gd (tT τ h j) want (ou P E M (kg τ h) op (G.aS (base+i)) fun v G'=>some (v,G'.back G)) G) fun v G'=>je base τ (i+1) r (ny h d v) G' aO aC K
  | i,⟨op,d,some (j,want),_,m⟩::r,h,G,aO,aC,K=>bS (gd (tT τ h j) want (ou P E M (kg τ h) op G fun v G'=>some (v,G')) G) fun v G' =>
      iM (fun c=>!(gB (tT τ h j) want)||c G') (jc m aC) (je base τ (i+1) r (ny h d v) G' ((i,gB (tT τ h j) want,G)::aO) aC K)
end
def B6 (N:Nat) (o:Oper):Bool:=dL o.op&&(match o.dst with | some t=>Nat.blt t N | none=>true)
def qM (N:Nat):Code→Bool
  | .seq a b=>qM N a&&qM N b
  | .cond x a b=>db x&&(qM N a&&qM N b)
  | .block _ b=>qM N b
  | .region _ ops draw=>ops.toList.all (B6 N)&&(!draw||uO ops)
  | .scope _=>false
  | .rangeFunc ..=>false
  | _=>true
def Jt {β:Type} (id:Nat) (K:Exit→Env→Hs→GS→Option β) (e:Exit) (τ:Env) (h:Hs) (G:GS):Option β:=match e with
  | .exit gQ=>bif Nat.beq gQ id then K .normal τ h G else K (.exit gQ) τ h G
  | e=>K e τ h G
def QT {β:Type} (b:Env→Hs→GS→Option β) (K:Exit→Env→Hs→GS→Option β) (e:Exit) (τ:Env) (h:Hs) (G:GS):Option β:=match e with
  | .normal=>b τ h G
  | e=>K e τ h G
def xn (rs:List Nat) (τ:Env):Hs:=match rs with | []=>[] | t::r=>(t,τ t)::xn r τ
def B7 {β:Type} (rs:List Nat) (l:List Exit) (e:Exit) (τ:Env) (G:GS) (K:Exit→Env→Hs→GS→Option β):Option β:=match l with
  | []=>none
  | x::r=>dP e x (K x τ (xn rs τ) G) (B7 rs r e τ G K)
def Ju (w:Bool) (c:Code):Nat:=bif w then (eD c).length else 0
section
variable (P:Program) (M:wU) (e:Ex) (f:Nat) (w:Bool) (rs:List Nat)
def mo {β:Type}:Nat→Code→Env→Hs→GS→(Exit→Env→Hs→GS→Option β)→Option β
  | _,.skip,τ,h,G,K=>K .normal τ h G
  | _,.label _,τ,h,G,K=>K .normal τ h G
  | k,.seq a b,τ,h,G,K=>mo k a τ h G (QT (fun τ h G=>mo (k+Ju w a) b τ h G K) K)
  | k,.cond x a b,τ,h,G,K=>bl (kg τ h x) (mo k a τ h G K) (mo (k+Ju w a) b τ h G K)
  | k,.block id b,τ,h,G,K=>mo k b τ h G (Jt id K)
  | k,.loop b,τ,h,G,K=>bif w then bE (e.dj f k (tu τ h) G) fun x τ1 G1=>B7 rs (jG b) x τ1 G1 K else none
  | _,.exit id,τ,h,G,K=>K (.exit id) τ h G
  | _,.goto l,τ,h,G,K=>K (.goto l) τ h G
  | _,.ret,τ,h,G,K=>K .ret τ h G
  | _,.region _ ops draw,τ,h,G,K =>
    if draw then je P M e.ev G.nx τ 0 (B5 ops (masks ops.toList []) 0 ops.toList) h (G.room ops.size) [] [] fun h G=>K .normal τ h G
    else zt P M e.ev ops τ ops.toList h G fun h G=>K .normal τ h G
  | _,_,_,_,_,_=>none
end
section
variable {P:Program} {M:wU} {e:Ex} {E:Ev}
theorem vz (hM:M=r8 P) (h:bm P e E) {β:Type} {r:Operand→Value} {op:Op} {G:GS} {K K':Value→GS→Option β} (ho:dL op=true) (hK:∀ v G,Ref (K v G) (K' v G)):Ref (ou P e.ev M r op G K) (lj P E r op G K'):=by
  unfold lj
  rw [if_pos ho,hM]
  unfold ou
  cases op with
  | call c =>
    obtain ⟨BD,args,dt⟩:=c
    simp only [wT]
    cases BD with
    | value g =>
      cases g with
      | func g=>exact Ref.bS (h.ev.cl _ _ _) hK
      | _=>exact Ref.bS (Ref.fJ h) hK
    | invoke a n=>exact Ref.bS (Ref.jF h) hK
    | builtin b =>
      cases b<;>simp only<;>first
        | exact Ref.nil _
        | exact Ref.bP (.rfl' _) fun v=>hK v _
        | (split<;>first | exact Ref.bS (.rfl' _) hK | exact Ref.bP (.rfl' _) fun v=>hK v _ | exact Ref.nil _)
  | makeFunc g a b=>cases g<;>first | exact hK _ _ | exact Ref.nil _
  | makeMap t r=>cases r<;>first | exact hK _ _ | exact Ref.nil _
  | _=>first
    | exact hK _ _
    | exact Ref.bP (.rfl' _) fun v=>hK _ _
    | exact Ref.bS (.rfl' _) hK
    | exact Ref.nil _
theorem Ref.iM {α β:Type} {f g:α→Bool} {l:List α} {x y:Option β} (hf:f=g) (h:Ref x y):Ref (Gh.iM f l x) (Gh.iM g l y):=by
  subst hf
  cases l with
  | nil=>exact h
  | cons a l=>exact Ref.eV (eA.rfl' _) h
theorem YZ (ops:Array Oper) (τ:Env) (h:Hs) (j:Nat):Js ops τ h j=(match gX ops j with | some t=>tu τ h t | none=>undef):=rfl
theorem QU (hM:M=r8 P) (h:bm P e E) {β:Type} {N:Nat} (ops:Array Oper) (τ:Env) {K:Hs→GS→Option β} {K':Env→GS→Option β} (hK:∀ h G,Ref (K h G) (K' (tu τ h) G)):∀ (l:List Oper) (hs:Hs) (G:GS),l.all (B6 N)=true →
    Ref (zt P M e.ev ops τ l hs G K) (wV P E N ops l (tu τ hs) G K')
  | [],hs,G,_=>hK hs G
  | o::r,hs,G,ho=>by
    simp only [List.all_cons,Bool.and_eq_true,B6] at ho
    have ih:=fun v G'=>QU hM h ops τ hK r (ny hs o.dst v) G' ho.2
    simp only [zt,wV,sf,QS ho.1.2,YZ]
    cases o.guard with
    | none=>exact vz hM h ho.1.1 fun v G'=>ih v G'
    | some jw=>exact Ref.bS (.gd (vz hM h ho.1.1 fun v G=>.rfl' _)) ih
theorem QV (hM:M=r8 P) (h:bm P e E) {β:Type} {N:Nat} (ops:Array Oper) (ms:List Nat) (base:Nat) (τ:Env) {K:Hs→GS→Option β} {K':Env→GS→Option β} (hK:∀ h G,Ref (K h G) (K' (tu τ h) G)):∀ (l:List Oper) (i:Nat) (hs:Hs) (G:GS) (aO:List (Nat×Bool×GS)) (aC:List (Nat×(GS→Bool))),l.all (B6 N)=true →
    Ref (je P M e.ev base τ i (B5 ops ms i l) hs G aO aC K) (oy P E N ops ms base i l (tu τ hs) G aO aC K')
  | [],i,hs,G,aO,aC,_=>hK hs G
  | o::r,i,hs,G,aO,aC,ho=>by
    simp only [List.all_cons,Bool.and_eq_true,B6] at ho
    have ih:=fun v G' aO aC=>QV hM h ops ms base τ hK r (i+1) (ny hs o.dst v) G' aO aC ho.2
    simp only [B5,oy,QS ho.1.2,if_pos ho.1.1]
    generalize cls o.op=n
    cases hg:o.guard with
    | none =>
      match n with
      | 0=>simp only [sg,je,sf]; exact vz hM h ho.1.1 fun v G'=>ih _ _ _ _
      | 1=>simp only [sg,je,sf]; exact Ref.bP (.rfl' _) fun v=>Ref.iM rfl (ih _ _ _ _)
      | 2=>simp only [sg,je,sf]; exact vz hM h ho.1.1 fun v G'=>ih _ _ _ _
      | n+3=>simp only [sg,je,sf]; exact vz hM h ho.1.1 fun v G'=>Ref.iM rfl (ih _ _ _ _)
    | some jw =>
      obtain ⟨j,w⟩:=jw
      match n with
      | 0=>simp only [sg,je,sf]; exact Ref.bS (.gd (vz hM h ho.1.1 fun v G=>.rfl' _)) fun v G=>ih _ _ _ _
      | 1=>simp only [sg,je,sf]; exact Ref.bS (.gd (.rfl' _)) fun v G=>Ref.iM rfl (ih _ _ _ _)
      | 2=>simp only [sg,je,sf]; exact Ref.bS (.gd (vz hM h ho.1.1 fun v G=>.rfl' _)) fun v G=>ih _ _ _ _
      | n+3=>simp only [sg,je,sf]; exact Ref.bS (.gd (vz hM h ho.1.1 fun v G=>.rfl' _)) fun v G=>Ref.iM rfl (ih _ _ _ _)
theorem Jv (τ:Env):∀ rs:List Nat,tu τ (xn rs τ)=τ
  | []=>rfl
  | t::r=>by
    funext j
    show (bif Nat.beq j t then τ t else tu τ (xn r τ) j)=τ j
    rw [Jv τ r]
    cases h:Nat.beq j t
    · rfl
    · rw [Nat.eq_of_beq_eq_true h]; rfl
theorem QW {β:Type} {rs:List Nat} {x:Exit} {τ:Env} {G:GS} {K:Exit→Env→Hs→GS→Option β} {K':Exit→Env→GS→Option β} (hK:∀ x τ h G,Ref (K x τ h G) (K' x (tu τ h) G)):∀ l:List Exit,Ref (B7 rs l x τ G K) (tM l x τ G K')
  | []=>.nil _
  | y::l=>Ref.dP (by have:=hK y τ (xn rs τ) G; rwa [Jv] at this) (QW hK l)
def At (P:Program) (f k:Nat) (c:Code):Prop:=∀ i b,(eD c)[i]? =some b→iO P f (k+i)=b
theorem QX (hM:M=r8 P) (h:bm P e E) {β:Type} {N f:Nat} {w:Bool} {rs:List Nat} (hN:jd P f=N):∀ (c:Code) (k:Nat) (τ:Env) (hs:Hs) (G:GS) (K:Exit→Env→Hs→GS→Option β) (K':Exit→Env→GS→Option β),qM N c=true→(w=true→At P f k c) →
    (∀ x τ h G,Ref (K x τ h G) (K' x (tu τ h) G))→Ref (mo P M e f w rs k c τ hs G K) (fM P E N c (tu τ hs) G K'):=by
  intro c
  induction c with
  | seq a b ff fg =>
    intro k τ hs G K K' hg hl hK
    simp only [qM,Bool.and_eq_true] at hg
    refine ff k τ hs G _ _ hg.1 (fun hw i b hi=>hl hw i b ?_) fun x τ hs G=>?_
    · simp only [eD,List.getElem?_append]
      have:=(List.getElem?_eq_some_iff.1 hi).1
      rw [if_pos this]; exact hi
    · cases x with
      | normal =>
        refine fg _ τ hs G _ _ hg.2 (fun hw i b hi=>?_) hK
        have:=hl hw ((eD a).length+i) b (by simp only [eD,List.getElem?_append_right (Nat.le_add_right _ i),Nat.add_sub_cancel_left]; exact hi)
        subst hw
        rw [← Nat.add_assoc] at this
        exact this
      | _=>exact hK _ _ _ _
  | cond x a b ff fg =>
    intro k τ hs G K K' hg hl hK
    simp only [qM,Bool.and_eq_true] at hg
    simp only [mo,fM,sf,if_pos hg.1]
    refine Ref.bl (ff k τ hs G _ _ hg.2.1 (fun hw i b hi=>hl hw i b ?_) hK) (fg _ τ hs G _ _ hg.2.2 (fun hw i b hi=>?_) hK)
    · simp only [eD,List.getElem?_append]
      have:=(List.getElem?_eq_some_iff.1 hi).1
      rw [if_pos this]; exact hi
    · have:=hl hw ((eD a).length+i) b (by simp only [eD,List.getElem?_append_right (Nat.le_add_right _ i),Nat.add_sub_cancel_left]; exact hi)
      subst hw
      rw [← Nat.add_assoc] at this
      exact this
  | block id b ih =>
    intro k τ hs G K K' hg hl hK
    refine ih k τ hs G _ _ hg hl fun x τ hs G=>?_
    cases x with
    | exit i =>
      simp only [Jt,xe]
      cases Nat.beq i id
      · exact hK _ _ _ _
      · exact hK _ _ _ _
    | _=>exact hK _ _ _ _
  | loop b ih =>
    intro k τ hs G K K' hg hl hK
    cases w with
    | false=>exact .nil _
    | true =>
      have hc:iO P f k=b:=by have:=hl rfl 0 b rfl; exact this
      haveI:fx P f k b N:=⟨hc,hN⟩
      have:=Ref.bL (β:=β) (i:=this) (τ:=tu τ hs) (G:=G) (K:=fun x τ1 G1=>B7 rs (jG b) x τ1 G1 K) (K':=fun x τ1 G1=>tM (jG b) x τ1 G1 K') h fun x τ G=>QW hK _
      exact this
  | region id ops draw =>
    intro k τ hs G K K' hg hl hK
    simp only [qM,Bool.and_eq_true,Bool.or_eq_true,Bool.not_eq_true'] at hg
    simp only [mo,fM]
    split
    · rename_i hd
      rw [if_pos (by simpa [hd] using hg.2)]
      exact QV hM h ops _ _ τ (fun h G=>hK _ _ _ _) _ 0 _ _ _ _ hg.1
    · exact QU hM h ops τ (fun h G=>hK _ _ _ _) _ _ _ hg.1
  | scope b ih=>intro k τ hs G K K' hg; cases hg
  | rangeFunc a b c d e=>intro k τ hs G K K' hg; cases hg
  | refuse s=>intros; exact .nil _
  | _=>intro k τ hs G K K' hg hl hK; exact hK _ _ _ _
theorem Y0:∀ {c b b':Code} {k i:Nat},(eD c)[k]? =some b→(eD b)[i]? =some b' →(eD c)[k+1+i]? =some b':=by
  have ap:∀ {l m:List Code} {b':Code} {k i:Nat} {b:Code},(∀ {b:Code} {k:Nat},l[k]? =some b→(eD b)[i]? =some b' →l[k+1+i]? =some b')→(∀ {b:Code} {k:Nat},m[k]? =some b→(eD b)[i]? =some b' →m[k+1+i]? =some b')→(l++m)[k]? =some b→(eD b)[i]? =some b' →(l++m)[k+1+i]? =some b':=by
    intro l m b' k i b hl hm hk hi
    by_cases h:k<l.length
    · rw [List.getElem?_append_left h] at hk
      have h1:=hl hk hi
      rw [List.getElem?_append_left (List.getElem?_eq_some_iff.1 h1).1]; exact h1
    · rw [List.getElem?_append_right (by omega)] at hk ⊢
      have h1:=hm hk hi
      rw [show k+1+i - l.length=k - l.length+1+i by omega]; exact h1
  intro c
  induction c with
  | loop b ih =>
    intro b1 b2 k i hk hi
    cases k with
    | zero =>
      simp only [eD,List.getElem?_cons_zero,Option.some.injEq] at hk
      subst hk
      simp only [eD]
      rw [show 0+1+i=i+1 by omega,List.getElem?_cons_succ]; exact hi
    | succ k =>
      simp only [eD,List.getElem?_cons_succ] at hk ⊢
      rw [show k+1+1+i=(k+1+i)+1 by omega,List.getElem?_cons_succ]
      exact ih hk hi
  | seq a b ff fg=>intro b1 b2 k i hk hi; exact ap (fun h1 h2=>ff h1 h2) (fun h1 h2=>fg h1 h2) hk hi
  | cond x a b ff fg=>intro b1 b2 k i hk hi; exact ap (fun h1 h2=>ff h1 h2) (fun h1 h2=>fg h1 h2) hk hi
  | rangeFunc x p a b ff fg=>intro b1 b2 k i hk hi; exact ap (fun h1 h2=>ff h1 h2) (fun h1 h2=>fg h1 h2) hk hi
  | scope b ih=>intro b1 b2 k i hk hi; exact ih hk hi
  | block id b ih=>intro b1 b2 k i hk hi; exact ih hk hi
  | _=>intro b1 b2 k i hk hi; simp [eD] at hk
section
variable {P:Program}
theorem Y1 {t z} [h:fX P t z] (G:GS):(oq P).1.al t G=al P true t z G:=by rw [(oq P).2]; exact (QL ..).symm
theorem Y2 {t f off} [h:aJ P t f off] (v:Value):qn P t v f=fa P true t f off v:=(Qs ..).symm
theorem Y3 {t sz} [h:cT P t sz] (a v:Value) (G:GS):mT P t a v G=st P true t sz a v G:=(Qx ..).symm
theorem Y4 {t} [h:eC P t] (v:Value) (G:GS):jE P t v G=ld P true t v G:=(Qv ..).symm
theorem Y5 {t sz} [h:gF P t sz] (v:Value) (G:GS):jE P t v G=de P true t sz v G:=(Qw ..).symm
theorem Y6 {t sz} [h:oB P t sz] (v i:Value):jT P t v i=fW P true t sz v i:=(Qt ..).symm
theorem Y7 {t n sz} [h:zm P t n sz] (v i:Value):jT P t v i=xi P true t n sz v i:=(Qu ..).symm
theorem Y8 (v:Value) (G:GS):(oq P).1.bx v G=bx true v G:=by rw [(oq P).2]; exact (QM ..).symm
theorem Y9 {s d ks kd} [h:zk P s d ks kd] (x:Value):vi P s d x=cv P true s d ks kd x:=(Qq ..).symm
theorem Za {t} [h:BP P t] (x:Value):(oq P).1.vv t x=vv P true t x:=by rw [(oq P).2]; exact (Qr ..).symm
theorem Zb {t f off} [h:zn P t f off] (v:Value):lP P t v f=fd P true t f off v:=(QB ..).symm
theorem Zc {t f off sz} [h:Jc P t f off sz] (v:Value):lP P t v f=zo P true t f off sz v:=(QC ..).symm
theorem Zd {t n} [h:EC P t n] (v i:Value):jS P t v i=ix P true t n v i:=(QD ..).symm
theorem Ze {t n sz} [h:Jd P t n sz] (v i:Value):jS P t v i=BR P true t n sz v i:=(QE ..).symm
theorem Zf {t} [h:pD P t] (v:Value):mS P t v=ln P true t v:=(QF ..).symm
theorem Zg {t n} [h:Je P t n] (v:Value):mS P t v=BS P true t n v:=(QG ..).symm
theorem Zh {a b c d} [h:xk P a b c d] (x y:Value) (G:GS):qp P a b x y G=ap P true a b c d x y G:=(QH ..).symm
theorem Zi {t z} [h:Jf P t z] (x y:Value) (G:GS):qs P t x y G=cp P true t z x y G:=(QI ..).symm
theorem Zj {t z} [h:Jg P t z] (x:Value) (a b c:Option Value) (G:GS):iT P t x a b c G=sl P true t z x a b c G:=(QJ ..).symm
theorem Zk {t n z} [h:BT P t n z] (x:Value) (a b c:Option Value) (G:GS):iT P t x a b c G=zp P true t n z x a b c G:=(QK ..).symm
theorem Zl {t s b z} [h:xl P t s b z] (x y:Value) (G:GS):(oq P).1.ms t x y G=mk P true t s b z x y G:=by rw [(oq P).2]; exact (mk_eq ..).symm
theorem Zm {t} [h:lD P t] (x y:Operand) (a b:Value):bB P .eql t x y a b=ep P true false t x y a b:=(Jh P true false t x y a b).symm
theorem Zn {t} [h:lD P t] (x y:Operand) (a b:Value):bB P .neq t x y a b=ep P true true t x y a b:=(Jh P true true t x y a b).symm
theorem Zo {t} [h:ED P t] (x y:Operand) (a b:Value):bB P .eql t x y a b=es P true false t x y a b:=(Ji P true false t x y a b).symm
theorem Zp {t} [h:ED P t] (x y:Operand) (a b:Value):bB P .neq t x y a b=es P true true t x y a b:=(Ji P true true t x y a b).symm
theorem Zq {t} [h:BU P t] (x y:Operand) (a b:Value):bB P .eql t x y a b=ef P true false t x y a b:=(Jj P true false t x y a b).symm
theorem Zr {t} [h:BU P t] (x y:Operand) (a b:Value):bB P .neq t x y a b=ef P true true t x y a b:=(Jj P true true t x y a b).symm
theorem Zs {t} [h:EE P t] (x y:Operand) (a b:Value):bB P .eql t x y a b=eb P true false t x y a b:=(Jk P true false t x y a b).symm
theorem Zt {t} [h:EE P t] (x y:Operand) (a b:Value):bB P .neq t x y a b=eb P true true t x y a b:=(Jk P true true t x y a b).symm
class cZ (P:Program) (t:TypeId) (l:List Nat) (z:outParam (List Value)) (pl:outParam (List (Nat×Nat×Nat))):Prop where ok:∀ vs,rG P t (qK pl vs)=sa z (ly pl vs)
class pG (P:Program) (t n:Nat) (l:List Nat) (z:outParam (List Value)) (sz:outParam Nat) (pl:outParam (List (Nat×Nat×Nat))):Prop where ok:∀ vs G,y7 P t n (qK pl vs) G=pC z (ly pl vs) n sz G
theorem Zu {t z} [h:cZ P t [] z []]:(oq P).1.bd t []=bd P true t z [] []:=by rw [(oq P).2]; exact h.ok []
theorem Zv {t z i0 a0 b0} [h:cZ P t [i0] z [(i0,a0,b0)]] (v0:Value):(oq P).1.bd t [(i0,v0)]=bd P true t z [(i0,a0,b0)] [v0]:=by rw [(oq P).2]; exact h.ok [v0]
theorem Zw {t z i0 a0 b0 i1 a1 b1} [h:cZ P t [i0,i1] z [(i0,a0,b0),(i1,a1,b1)]] (v0 v1:Value):(oq P).1.bd t [(i0,v0),(i1,v1)]=bd P true t z [(i0,a0,b0),(i1,a1,b1)] [v0,v1]:=by rw [(oq P).2]; exact h.ok [v0,v1]
theorem Zx {t z i0 a0 b0 i1 a1 b1 i2 a2 b2} [h:cZ P t [i0,i1,i2] z [(i0,a0,b0),(i1,a1,b1),(i2,a2,b2)]] (v0 v1 v2:Value):(oq P).1.bd t [(i0,v0),(i1,v1),(i2,v2)]=bd P true t z [(i0,a0,b0),(i1,a1,b1),(i2,a2,b2)] [v0,v1,v2]:=by rw [(oq P).2]; exact h.ok [v0,v1,v2]
theorem Zy {t z i0 a0 b0 i1 a1 b1 i2 a2 b2 i3 a3 b3} [h:cZ P t [i0,i1,i2,i3] z [(i0,a0,b0),(i1,a1,b1),(i2,a2,b2),(i3,a3,b3)]] (v0 v1 v2 v3:Value):(oq P).1.bd t [(i0,v0),(i1,v1),(i2,v2),(i3,v3)]=bd P true t z [(i0,a0,b0),(i1,a1,b1),(i2,a2,b2),(i3,a3,b3)] [v0,v1,v2,v3]:=by rw [(oq P).2]; exact h.ok [v0,v1,v2,v3]
theorem Zz {t z i0 a0 b0 i1 a1 b1 i2 a2 b2 i3 a3 b3 i4 a4 b4} [h:cZ P t [i0,i1,i2,i3,i4] z [(i0,a0,b0),(i1,a1,b1),(i2,a2,b2),(i3,a3,b3),(i4,a4,b4)]] (v0 v1 v2 v3 v4:Value):(oq P).1.bd t [(i0,v0),(i1,v1),(i2,v2),(i3,v3),(i4,v4)]=bd P true t z [(i0,a0,b0),(i1,a1,b1),(i2,a2,b2),(i3,a3,b3),(i4,a4,b4)] [v0,v1,v2,v3,v4]:=by rw [(oq P).2]; exact h.ok [v0,v1,v2,v3,v4]
theorem ZA {t z i0 a0 b0 i1 a1 b1 i2 a2 b2 i3 a3 b3 i4 a4 b4 i5 a5 b5} [h:cZ P t [i0,i1,i2,i3,i4,i5] z [(i0,a0,b0),(i1,a1,b1),(i2,a2,b2),(i3,a3,b3),(i4,a4,b4),(i5,a5,b5)]] (v0 v1 v2 v3 v4 v5:Value):(oq P).1.bd t [(i0,v0),(i1,v1),(i2,v2),(i3,v3),(i4,v4),(i5,v5)]=bd P true t z [(i0,a0,b0),(i1,a1,b1),(i2,a2,b2),(i3,a3,b3),(i4,a4,b4),(i5,a5,b5)] [v0,v1,v2,v3,v4,v5]:=by rw [(oq P).2]; exact h.ok [v0,v1,v2,v3,v4,v5]
theorem ZB {t z i0 a0 b0 i1 a1 b1 i2 a2 b2 i3 a3 b3 i4 a4 b4 i5 a5 b5 i6 a6 b6} [h:cZ P t [i0,i1,i2,i3,i4,i5,i6] z [(i0,a0,b0),(i1,a1,b1),(i2,a2,b2),(i3,a3,b3),(i4,a4,b4),(i5,a5,b5),(i6,a6,b6)]] (v0 v1 v2 v3 v4 v5 v6:Value):(oq P).1.bd t [(i0,v0),(i1,v1),(i2,v2),(i3,v3),(i4,v4),(i5,v5),(i6,v6)]=bd P true t z [(i0,a0,b0),(i1,a1,b1),(i2,a2,b2),(i3,a3,b3),(i4,a4,b4),(i5,a5,b5),(i6,a6,b6)] [v0,v1,v2,v3,v4,v5,v6]:=by rw [(oq P).2]; exact h.ok [v0,v1,v2,v3,v4,v5,v6]
theorem ZC {t z i0 a0 b0 i1 a1 b1 i2 a2 b2 i3 a3 b3 i4 a4 b4 i5 a5 b5 i6 a6 b6 i7 a7 b7} [h:cZ P t [i0,i1,i2,i3,i4,i5,i6,i7] z [(i0,a0,b0),(i1,a1,b1),(i2,a2,b2),(i3,a3,b3),(i4,a4,b4),(i5,a5,b5),(i6,a6,b6),(i7,a7,b7)]] (v0 v1 v2 v3 v4 v5 v6 v7:Value):(oq P).1.bd t [(i0,v0),(i1,v1),(i2,v2),(i3,v3),(i4,v4),(i5,v5),(i6,v6),(i7,v7)]=bd P true t z [(i0,a0,b0),(i1,a1,b1),(i2,a2,b2),(i3,a3,b3),(i4,a4,b4),(i5,a5,b5),(i6,a6,b6),(i7,a7,b7)] [v0,v1,v2,v3,v4,v5,v6,v7]:=by rw [(oq P).2]; exact h.ok [v0,v1,v2,v3,v4,v5,v6,v7]
theorem ZD {t z i0 a0 b0 i1 a1 b1 i2 a2 b2 i3 a3 b3 i4 a4 b4 i5 a5 b5 i6 a6 b6 i7 a7 b7 i8 a8 b8} [h:cZ P t [i0,i1,i2,i3,i4,i5,i6,i7,i8] z [(i0,a0,b0),(i1,a1,b1),(i2,a2,b2),(i3,a3,b3),(i4,a4,b4),(i5,a5,b5),(i6,a6,b6),(i7,a7,b7),(i8,a8,b8)]] (v0 v1 v2 v3 v4 v5 v6 v7 v8:Value):(oq P).1.bd t [(i0,v0),(i1,v1),(i2,v2),(i3,v3),(i4,v4),(i5,v5),(i6,v6),(i7,v7),(i8,v8)]=bd P true t z [(i0,a0,b0),(i1,a1,b1),(i2,a2,b2),(i3,a3,b3),(i4,a4,b4),(i5,a5,b5),(i6,a6,b6),(i7,a7,b7),(i8,a8,b8)] [v0,v1,v2,v3,v4,v5,v6,v7,v8]:=by rw [(oq P).2]; exact h.ok [v0,v1,v2,v3,v4,v5,v6,v7,v8]
theorem ZE {t z i0 a0 b0 i1 a1 b1 i2 a2 b2 i3 a3 b3 i4 a4 b4 i5 a5 b5 i6 a6 b6 i7 a7 b7 i8 a8 b8 i9 a9 b9} [h:cZ P t [i0,i1,i2,i3,i4,i5,i6,i7,i8,i9] z [(i0,a0,b0),(i1,a1,b1),(i2,a2,b2),(i3,a3,b3),(i4,a4,b4),(i5,a5,b5),(i6,a6,b6),(i7,a7,b7),(i8,a8,b8),(i9,a9,b9)]] (v0 v1 v2 v3 v4 v5 v6 v7 v8 v9:Value):(oq P).1.bd t [(i0,v0),(i1,v1),(i2,v2),(i3,v3),(i4,v4),(i5,v5),(i6,v6),(i7,v7),(i8,v8),(i9,v9)]=bd P true t z [(i0,a0,b0),(i1,a1,b1),(i2,a2,b2),(i3,a3,b3),(i4,a4,b4),(i5,a5,b5),(i6,a6,b6),(i7,a7,b7),(i8,a8,b8),(i9,a9,b9)] [v0,v1,v2,v3,v4,v5,v6,v7,v8,v9]:=by rw [(oq P).2]; exact h.ok [v0,v1,v2,v3,v4,v5,v6,v7,v8,v9]
theorem ZF {t z i0 a0 b0 i1 a1 b1 i2 a2 b2 i3 a3 b3 i4 a4 b4 i5 a5 b5 i6 a6 b6 i7 a7 b7 i8 a8 b8 i9 a9 b9 i10 a10 b10} [h:cZ P t [i0,i1,i2,i3,i4,i5,i6,i7,i8,i9,i10] z [(i0,a0,b0),(i1,a1,b1),(i2,a2,b2),(i3,a3,b3),(i4,a4,b4),(i5,a5,b5),(i6,a6,b6),(i7,a7,b7),(i8,a8,b8),(i9,a9,b9),(i10,a10,b10)]] (v0 v1 v2 v3 v4 v5 v6 v7 v8 v9 v10:Value):(oq P).1.bd t [(i0,v0),(i1,v1),(i2,v2),(i3,v3),(i4,v4),(i5,v5),(i6,v6),(i7,v7),(i8,v8),(i9,v9),(i10,v10)]=bd P true t z [(i0,a0,b0),(i1,a1,b1),(i2,a2,b2),(i3,a3,b3),(i4,a4,b4),(i5,a5,b5),(i6,a6,b6),(i7,a7,b7),(i8,a8,b8),(i9,a9,b9),(i10,a10,b10)] [v0,v1,v2,v3,v4,v5,v6,v7,v8,v9,v10]:=by rw [(oq P).2]; exact h.ok [v0,v1,v2,v3,v4,v5,v6,v7,v8,v9,v10]
theorem ZG {t z i0 a0 b0 i1 a1 b1 i2 a2 b2 i3 a3 b3 i4 a4 b4 i5 a5 b5 i6 a6 b6 i7 a7 b7 i8 a8 b8 i9 a9 b9 i10 a10 b10 i11 a11 b11} [h:cZ P t [i0,i1,i2,i3,i4,i5,i6,i7,i8,i9,i10,i11] z [(i0,a0,b0),(i1,a1,b1),(i2,a2,b2),(i3,a3,b3),(i4,a4,b4),(i5,a5,b5),(i6,a6,b6),(i7,a7,b7),(i8,a8,b8),(i9,a9,b9),(i10,a10,b10),(i11,a11,b11)]] (v0 v1 v2 v3 v4 v5 v6 v7 v8 v9 v10 v11:Value):(oq P).1.bd t [(i0,v0),(i1,v1),(i2,v2),(i3,v3),(i4,v4),(i5,v5),(i6,v6),(i7,v7),(i8,v8),(i9,v9),(i10,v10),(i11,v11)]=bd P true t z [(i0,a0,b0),(i1,a1,b1),(i2,a2,b2),(i3,a3,b3),(i4,a4,b4),(i5,a5,b5),(i6,a6,b6),(i7,a7,b7),(i8,a8,b8),(i9,a9,b9),(i10,a10,b10),(i11,a11,b11)] [v0,v1,v2,v3,v4,v5,v6,v7,v8,v9,v10,v11]:=by rw [(oq P).2]; exact h.ok [v0,v1,v2,v3,v4,v5,v6,v7,v8,v9,v10,v11]
theorem ZH {t z i0 a0 b0 i1 a1 b1 i2 a2 b2 i3 a3 b3 i4 a4 b4 i5 a5 b5 i6 a6 b6 i7 a7 b7 i8 a8 b8 i9 a9 b9 i10 a10 b10 i11 a11 b11 i12 a12 b12} [h:cZ P t [i0,i1,i2,i3,i4,i5,i6,i7,i8,i9,i10,i11,i12] z [(i0,a0,b0),(i1,a1,b1),(i2,a2,b2),(i3,a3,b3),(i4,a4,b4),(i5,a5,b5),(i6,a6,b6),(i7,a7,b7),(i8,a8,b8),(i9,a9,b9),(i10,a10,b10),(i11,a11,b11),(i12,a12,b12)]] (v0 v1 v2 v3 v4 v5 v6 v7 v8 v9 v10 v11 v12:Value):(oq P).1.bd t [(i0,v0),(i1,v1),(i2,v2),(i3,v3),(i4,v4),(i5,v5),(i6,v6),(i7,v7),(i8,v8),(i9,v9),(i10,v10),(i11,v11),(i12,v12)]=bd P true t z [(i0,a0,b0),(i1,a1,b1),(i2,a2,b2),(i3,a3,b3),(i4,a4,b4),(i5,a5,b5),(i6,a6,b6),(i7,a7,b7),(i8,a8,b8),(i9,a9,b9),(i10,a10,b10),(i11,a11,b11),(i12,a12,b12)] [v0,v1,v2,v3,v4,v5,v6,v7,v8,v9,v10,v11,v12]:=by rw [(oq P).2]; exact h.ok [v0,v1,v2,v3,v4,v5,v6,v7,v8,v9,v10,v11,v12]
theorem ZI {t n z sz i0 a0 b0} [h:pG P t n [i0] z sz [(i0,a0,b0)]] (v0:Value) (G:GS):(oq P).1.bs t n [(i0,v0)] G=bs P true t n z sz [(i0,a0,b0)] [v0] G:=by rw [(oq P).2]; exact haveI:lC P t n z sz [(i0,a0,b0)]:=⟨h.ok⟩; ((tQ P true t n z sz (h:=this) [(i0,a0,b0)] [v0] G).symm)
theorem ZJ {t n z sz i0 a0 b0 i1 a1 b1} [h:pG P t n [i0,i1] z sz [(i0,a0,b0),(i1,a1,b1)]] (v0 v1:Value) (G:GS):(oq P).1.bs t n [(i0,v0),(i1,v1)] G=bs P true t n z sz [(i0,a0,b0),(i1,a1,b1)] [v0,v1] G:=by rw [(oq P).2]; exact haveI:lC P t n z sz [(i0,a0,b0),(i1,a1,b1)]:=⟨h.ok⟩; ((tQ P true t n z sz (h:=this) [(i0,a0,b0),(i1,a1,b1)] [v0,v1] G).symm)
theorem ZK {t n z sz i0 a0 b0 i1 a1 b1 i2 a2 b2} [h:pG P t n [i0,i1,i2] z sz [(i0,a0,b0),(i1,a1,b1),(i2,a2,b2)]] (v0 v1 v2:Value) (G:GS):(oq P).1.bs t n [(i0,v0),(i1,v1),(i2,v2)] G=bs P true t n z sz [(i0,a0,b0),(i1,a1,b1),(i2,a2,b2)] [v0,v1,v2] G:=by rw [(oq P).2]; exact haveI:lC P t n z sz [(i0,a0,b0),(i1,a1,b1),(i2,a2,b2)]:=⟨h.ok⟩; ((tQ P true t n z sz (h:=this) [(i0,a0,b0),(i1,a1,b1),(i2,a2,b2)] [v0,v1,v2] G).symm)
theorem ZL {t n z sz i0 a0 b0 i1 a1 b1 i2 a2 b2 i3 a3 b3} [h:pG P t n [i0,i1,i2,i3] z sz [(i0,a0,b0),(i1,a1,b1),(i2,a2,b2),(i3,a3,b3)]] (v0 v1 v2 v3:Value) (G:GS):(oq P).1.bs t n [(i0,v0),(i1,v1),(i2,v2),(i3,v3)] G=bs P true t n z sz [(i0,a0,b0),(i1,a1,b1),(i2,a2,b2),(i3,a3,b3)] [v0,v1,v2,v3] G:=by rw [(oq P).2]; exact haveI:lC P t n z sz [(i0,a0,b0),(i1,a1,b1),(i2,a2,b2),(i3,a3,b3)]:=⟨h.ok⟩; ((tQ P true t n z sz (h:=this) [(i0,a0,b0),(i1,a1,b1),(i2,a2,b2),(i3,a3,b3)] [v0,v1,v2,v3] G).symm)
theorem ZM {t n z sz i0 a0 b0 i1 a1 b1 i2 a2 b2 i3 a3 b3 i4 a4 b4} [h:pG P t n [i0,i1,i2,i3,i4] z sz [(i0,a0,b0),(i1,a1,b1),(i2,a2,b2),(i3,a3,b3),(i4,a4,b4)]] (v0 v1 v2 v3 v4:Value) (G:GS):(oq P).1.bs t n [(i0,v0),(i1,v1),(i2,v2),(i3,v3),(i4,v4)] G=bs P true t n z sz [(i0,a0,b0),(i1,a1,b1),(i2,a2,b2),(i3,a3,b3),(i4,a4,b4)] [v0,v1,v2,v3,v4] G:=by rw [(oq P).2]; exact haveI:lC P t n z sz [(i0,a0,b0),(i1,a1,b1),(i2,a2,b2),(i3,a3,b3),(i4,a4,b4)]:=⟨h.ok⟩; ((tQ P true t n z sz (h:=this) [(i0,a0,b0),(i1,a1,b1),(i2,a2,b2),(i3,a3,b3),(i4,a4,b4)] [v0,v1,v2,v3,v4] G).symm)
theorem ZN {t n z sz i0 a0 b0 i1 a1 b1 i2 a2 b2 i3 a3 b3 i4 a4 b4 i5 a5 b5} [h:pG P t n [i0,i1,i2,i3,i4,i5] z sz [(i0,a0,b0),(i1,a1,b1),(i2,a2,b2),(i3,a3,b3),(i4,a4,b4),(i5,a5,b5)]] (v0 v1 v2 v3 v4 v5:Value) (G:GS):(oq P).1.bs t n [(i0,v0),(i1,v1),(i2,v2),(i3,v3),(i4,v4),(i5,v5)] G=bs P true t n z sz [(i0,a0,b0),(i1,a1,b1),(i2,a2,b2),(i3,a3,b3),(i4,a4,b4),(i5,a5,b5)] [v0,v1,v2,v3,v4,v5] G:=by rw [(oq P).2]; exact haveI:lC P t n z sz [(i0,a0,b0),(i1,a1,b1),(i2,a2,b2),(i3,a3,b3),(i4,a4,b4),(i5,a5,b5)]:=⟨h.ok⟩; ((tQ P true t n z sz (h:=this) [(i0,a0,b0),(i1,a1,b1),(i2,a2,b2),(i3,a3,b3),(i4,a4,b4),(i5,a5,b5)] [v0,v1,v2,v3,v4,v5] G).symm)
theorem ZO {t n z sz i0 a0 b0 i1 a1 b1 i2 a2 b2 i3 a3 b3 i4 a4 b4 i5 a5 b5 i6 a6 b6} [h:pG P t n [i0,i1,i2,i3,i4,i5,i6] z sz [(i0,a0,b0),(i1,a1,b1),(i2,a2,b2),(i3,a3,b3),(i4,a4,b4),(i5,a5,b5),(i6,a6,b6)]] (v0 v1 v2 v3 v4 v5 v6:Value) (G:GS):(oq P).1.bs t n [(i0,v0),(i1,v1),(i2,v2),(i3,v3),(i4,v4),(i5,v5),(i6,v6)] G=bs P true t n z sz [(i0,a0,b0),(i1,a1,b1),(i2,a2,b2),(i3,a3,b3),(i4,a4,b4),(i5,a5,b5),(i6,a6,b6)] [v0,v1,v2,v3,v4,v5,v6] G:=by rw [(oq P).2]; exact haveI:lC P t n z sz [(i0,a0,b0),(i1,a1,b1),(i2,a2,b2),(i3,a3,b3),(i4,a4,b4),(i5,a5,b5),(i6,a6,b6)]:=⟨h.ok⟩; ((tQ P true t n z sz (h:=this) [(i0,a0,b0),(i1,a1,b1),(i2,a2,b2),(i3,a3,b3),(i4,a4,b4),(i5,a5,b5),(i6,a6,b6)] [v0,v1,v2,v3,v4,v5,v6] G).symm)
theorem ZP {t n z sz i0 a0 b0 i1 a1 b1 i2 a2 b2 i3 a3 b3 i4 a4 b4 i5 a5 b5 i6 a6 b6 i7 a7 b7} [h:pG P t n [i0,i1,i2,i3,i4,i5,i6,i7] z sz [(i0,a0,b0),(i1,a1,b1),(i2,a2,b2),(i3,a3,b3),(i4,a4,b4),(i5,a5,b5),(i6,a6,b6),(i7,a7,b7)]] (v0 v1 v2 v3 v4 v5 v6 v7:Value) (G:GS):(oq P).1.bs t n [(i0,v0),(i1,v1),(i2,v2),(i3,v3),(i4,v4),(i5,v5),(i6,v6),(i7,v7)] G=bs P true t n z sz [(i0,a0,b0),(i1,a1,b1),(i2,a2,b2),(i3,a3,b3),(i4,a4,b4),(i5,a5,b5),(i6,a6,b6),(i7,a7,b7)] [v0,v1,v2,v3,v4,v5,v6,v7] G:=by rw [(oq P).2]; exact haveI:lC P t n z sz [(i0,a0,b0),(i1,a1,b1),(i2,a2,b2),(i3,a3,b3),(i4,a4,b4),(i5,a5,b5),(i6,a6,b6),(i7,a7,b7)]:=⟨h.ok⟩; ((tQ P true t n z sz (h:=this) [(i0,a0,b0),(i1,a1,b1),(i2,a2,b2),(i3,a3,b3),(i4,a4,b4),(i5,a5,b5),(i6,a6,b6),(i7,a7,b7)] [v0,v1,v2,v3,v4,v5,v6,v7] G).symm)
end
theorem ZQ {α β:Type} (f:α→Bool) (x:Option β):iM f [] x=x:=Eq.trans rfl rfl
theorem ZR {α β:Type} (f:α→Bool) (a:α) (l:List α) (x:Option β):iM f (a::l) x=eV ((a::l).all f) x:=Eq.trans rfl rfl
theorem ZS {α:Type} (m:Nat):jc m ([]:List (Nat×α))=[]:=Eq.trans rfl rfl
theorem ZT {α:Type} (m i:Nat) (a:α) (l:List (Nat×α)):jc m ((i,a)::l)=if m / 2 ^ i % 2=1 then jc m l else a::jc m l:=by
  have:m.testBit i=decide (m / 2 ^ i % 2=1):=Nat.testBit_eq_decide_div_mod_eq
  unfold jc
  by_cases h:m / 2 ^ i % 2=1<;>simp [this,h]
section
variable {P:Program} {M:wU} {e:Ex} {E:Ev} {β:Type}
end
structure Nf {α:Type} (x:α) where
  y:α
  h:x=y
def aH {α:Type} {x y:α} (h:x=y:=by simp -implicitDefEqProofs [mo,BO,zt,je,ou,wT,ny,xn,kg,Js,gX,Jt,QT,B7,jG,Ei,PS,vt,Ju,eD,B8,vx,uP,rK,aL,zu,cP,sP,sQ,masks,qt,Region.binds,B5,sg,tT,ZS,ZT,ZQ,ZR,nv,cls,iN,Y2,Y3,Y4,Y5,Y6,Y7,Y9,Zb,Zc,Zd,Ze,Zf,Zg,Zh,Zi,Zj,Zk,Zm,Zn,Zo,Zp,Zq,Zr,Zs,Zt]; exact rfl):Nf x:=⟨y,h⟩
@[simp] theorem ahD {α:Type} {x y:α} (h:x=y):(aH h).y=y:=Eq.trans rfl rfl
def B8 (P:Program) (rs:List ResultVar) (x:Exit) (τ:Env) (h:Hs) (G:GS):Option (Value×GS):=if rK x then vx P (tu τ h) G rs fun l=>some (uP l,G) else none
abbrev NS (P:Program) (e:Ex) (f:Nat) (w:Bool) (rs:List Nat) (fn:Func) (vs:List Value) (G:GS):Type:=Nf (mo P (oq P).1 e f w rs 0 (aL fn) (nth undef vs) [] G (B8 P fn.results.toList))
def okF (P:Program) (ae:FuncId→Bool) (fn:Func) (n:Nat):Bool:= !(fn.name == "runtime.NumGoroutine")&&fn.body.isSome&&Nat.ble n fn.ntmps&&qM fn.ntmps (aL fn)
theorem QY {ae:FuncId→Bool} {f:FuncId} {fn:Func} {w:Bool} {rs:List Nat} {vs:List Value} {G:GS} (hM:M=r8 P) (h:bm P e (aD P ae)) (hf:P.funcs[f]? =some fn) (ok:okF P ae fn vs.length=true) (hp:py P ae f=false) (ho:(vs.isEmpty&&ae f)=false):Ref (mo P M e f w rs 0 (aL fn) (nth undef vs) [] G (B8 P fn.results.toList)) ((aD P ae).cl f vs G):=by
  simp only [okF,Bool.and_eq_true,Bool.not_eq_true'] at ok
  intro r hr
  refine zd P ae (x:=fM P (aD P ae) fn.ntmps (aL fn) (nth undef vs) G (j8 P fn.results.toList)) G hf ok.1.1.1 ok.1.1.2 ho hp ok.1.2 rfl ?_
  refine QX hM h (K':=j8 P fn.results.toList) (by unfold jd; rw [hf]) (aL fn) 0 (nth undef vs) [] G (B8 P fn.results.toList) ok.2 (fun _ i b hi=>?_) (fun x τ h G=>.rfl' _) r hr
  unfold iO
  rw [hf]
  simp only [ju,List.getD_eq_getElem?_getD,Nat.zero_add,hi,Option.getD_some]
theorem Nf.ref {ae:FuncId→Bool} {f:FuncId} {fn:Func} {w:Bool} {rs:List Nat} {vs:List Value} {G:GS} (x:NS P e f w rs fn vs G) (h:bm P e (aD P ae)) (hf:P.funcs[f]? =some fn) (ok:okF P ae fn vs.length=true:=by kernel_rfl) (hp:py P ae f=false:=by kernel_rfl) (ho:(vs.isEmpty&&ae f)=false:=by first | rfl | assumption):Ref x.y ((aD P ae).cl f vs G):=by
  rw [← x.h]; exact QY (oq P).2 h hf ok hp ho
def zu (N:Nat) (lp:Env→GS→Option (Exit×Env×GS)) (x:Exit) (τ:Env) (h:Hs) (G:GS):Option (Exit×Env×GS):=match x with
  | .normal=>lp (clip N (tu τ h)) G
  | x=>some (x,clip N (tu τ h),G)
def cP (fn:Func) (k:Nat):Code:=nth .skip (eD (aL fn)) k
abbrev NL (P:Program) (e:Ex) (f N:Nat) (w:Bool) (rs:List Nat) (fn:Func) (k:Nat) (lp:Env→GS→Option (Exit×Env×GS)) (τ:Env) (G:GS):Type:=Nf (mo P (oq P).1 e f w rs (k+1) (cP fn k) τ (xn rs τ) G (zu N lp))
def B9 (N k:Nat) (fn:Func):Bool:=Nat.beq fn.ntmps N&&qM N (cP fn k)&&Nat.blt k (eD (aL fn)).length
theorem QZ {ae:FuncId→Bool} {f:FuncId} {N k:Nat} {w:Bool} {rs:List Nat} {fn:Func} {lp:Env→GS→Option (Exit×Env×GS)} {T:List Value} {G:GS} (hM:M=r8 P) (h:bm P e (aD P ae)) (hf:P.funcs[f]? =some fn) (hT:T.length=N)
    (bw:∀ τ G,Ref (lp τ G) (bc ((aD P ae).lp (cP fn k) (aG N τ) G))) (ok:B9 N k fn=true) {hs:Hs} (h0:tu (nth undef T) hs=nth undef T:=by rfl):Ref (mo P M e f w rs (k+1) (cP fn k) (nth undef T) hs G (zu N lp)) (bc ((aD P ae).lp (cP fn k) T G)):=by
  simp only [B9,Bool.and_eq_true] at ok
  have hN:fn.ntmps=N:=Nat.eq_of_beq_eq_true ok.1.1
  have hk:k<(eD (aL fn)).length:=by have:=ok.2; simpa [Nat.blt_eq] using this
  have hc:(eD (aL fn))[k]? =some (cP fn k):=by
    unfold cP
    rw [ju,List.getD_eq_getElem?_getD,List.getElem?_eq_getElem hk]; rfl
  intro r hr
  refine EH P ae (x:=fM P (aD P ae) N (cP fn k) (nth undef T) G _) G hT rfl ?_
  rw [show nth undef T=tu (nth undef T) hs from h0.symm]
  refine QX hM h (by unfold jd; rw [hf]; exact hN) _ _ _ _ _ _ _ ok.1.2 (fun _ i b hi=>?_) (fun x τ h G=>?_) r hr
  · unfold iO
    rw [hf]
    simp only [ju,List.getD_eq_getElem?_getD,Y0 hc hi,Option.getD_some]
  · cases x with
    | normal=>simp only [zu,fU,pE]; exact bw _ _
    | _=>simp only [zu,fU,pE]; exact .rfl' _
theorem NL.ref {ae:FuncId→Bool} {f:FuncId} {N k:Nat} {w:Bool} {rs:List Nat} {fn:Func} {lp:Env→GS→Option (Exit×Env×GS)} {T:List Value} {G:GS} (x:NL P e f N w rs fn k lp (nth undef T) G) (h:bm P e (aD P ae)) (hf:P.funcs[f]? =some fn) (hT:T.length=N)
    (bw:∀ τ G,Ref (lp τ G) (bc ((aD P ae).lp (cP fn k) (aG N τ) G))) (ok:B9 N k fn=true:=by kernel_rfl):Ref x.y (bc ((aD P ae).lp (cP fn k) T G)):=by
  rw [← x.h]; exact QZ (oq P).2 h hf hT bw ok (Jv _ _)
end
end
end Go.Proofs.YtkhlabammcghbaaGreat.Gh
