import Derived.Test.YtphandknhnkhfaaGreatGhPJ
import Derived.Test.YtphandknhnkhfaaGreatGhPW
import Derived.KernelRfl
namespace Go.Proofs.YtphandknhnkhfaaGreat.Gh
open Go
set_option linter.unusedVariables false
set_option linter.unusedSimpArgs false
noncomputable section
def oq (P:Program):{ M:wK // M=rP P }:=Classical.choice ⟨⟨_,rfl⟩⟩
abbrev OG:Type:=Option (Value×GS)
abbrev OL:Type:=Option (Exit×Env×GS)
abbrev bU:Type:=Env→GS→OL
abbrev Hs:=List (Nat×Value)
def ni (h:Hs) (d:Option Tmp) (v:Value):Hs:=match d with | some t=>(t,v)::h | none=>h
def kQ (τ:Env) (h:Hs) (x:Operand):Value:=match x with
  | .tmp t=>tu τ h t
  | .const v=>v
  | .global _=>undef
  | .func f=>.func (.func f) #[] #[]
theorem rS (τ:Env) (h:Hs):kQ τ h=iX (tu τ h):=by funext x; cases x<;>rfl
theorem Pu {N:Nat} {τ:Env} {h:Hs} {d:Option Tmp} {v:Value} (hd:(match d with | some t=>Nat.blt t N | none=>true)=true):pt N (tu τ h) d v=tu τ (ni h d v):=by
  cases d with
  | none=>rfl
  | some t =>
    funext j
    show (bif Nat.beq j t then (bif Nat.blt t N then v else tu τ h j) else tu τ h j)=(bif Nat.beq j t then v else tu τ h j)
    simp only at hd
    rw [hd]; rfl
def Ik (ops:Array Oper) (τ:Env) (h:Hs) (j:Nat):Value:=match gY ops j with | some t=>tu τ h t | none=>undef
section
variable (P:Program) (M:wK) (E:Ev)
def yS {β:Type} (ops:Array Oper) (τ:Env):List Oper→Hs→GS→(Hs→GS→Option β)→Option β
  | [],h,G,K=>K h G
  | o::r,h,G,K=>match o.guard with
    | none=>ou P E M (kQ τ h) o.op G fun v G'=>yS ops τ r (ni h o.dst v) G' K
    | some (j,want)=>bS (gd (Ik ops τ h j) want (ou P E M (kQ τ h) o.op G fun v G'=>some (v,G')) G) fun v G'=>yS ops τ r (ni h o.dst v) G' K
structure It where
  op:Op
  dst:Option Tmp
  g:Option (Option Tmp×Bool)
  c:Nat
  m:Nat
def rT (ops:Array Oper) (g:Option (Nat×Bool)):Option (Option Tmp×Bool):=match g with | none=>none | some (j,w)=>some (gY ops j,w)
def Bn (ops:Array Oper):List Nat→Nat→List Oper→List It
  | _,_,[]=>[]
  | ms,i,o::r=>⟨o.op,o.dst,rT ops o.guard,cls o.op,nth 0 ms i⟩::Bn ops ms (i+1) r
def tQ (τ:Env) (h:Hs) (j:Option Tmp):Value:=match j with | some t=>tu τ h t | none=>undef
def js {β:Type} (base:Nat) (τ:Env):Nat→List It→Hs→GS→List (Nat×Bool×GS)→List (Nat×(GS→Bool))→(Hs→GS→Option β)→Option β
  | _,[],h,G,_,_,K=>K h G
  | i,⟨op,d,none,0,m⟩::r,h,G,aM,aF,K=>ou P E M (kQ τ h) op G fun v _=>js base τ (i+1) r (ni h d v) G aM aF K
  | i,⟨op,d,none,1,m⟩::r,h,G,aM,aF,K=>bP (m7 P (kQ τ h) op G) fun v=>iW (fun x=>!x.1||br (m7 P (kQ τ h) op x.2) v) (jn m aM)
      (js base τ (i+1) r (ni h d v) G aM ((i,fun G'=>br (m7 P (kQ τ h) op G') v)::aF) K)
  | i,⟨op,d,none,2,m⟩::r,h,G,aM,aF,K=>ou P E M (kQ τ h) op (G.aI (base+i)) fun v G'=>js base τ (i+1) r (ni h d v) (G'.back G) aM aF K
  | i,⟨op,d,none,_,m⟩::r,h,G,aM,aF,K=>ou P E M (kQ τ h) op G fun v G'=>iW (fun c=>c G') (jn m aF) (js base τ (i+1) r (ni h d v) G' ((i,true,G)::aM) aF K)
  | i,⟨op,d,some (j,want),0,m⟩::r,h,G,aM,aF,K=>bS (gd (tQ τ h j) want (ou P E M (kQ τ h) op G fun v G'=>some (v,G')) G) fun v _=>js base τ (i+1) r (ni h d v) G aM aF K
  | i,⟨op,d,some (j,want),1,m⟩::r,h,G,aM,aF,K=>bS (gd (tQ τ h j) want (bP (m7 P (kQ τ h) op G) fun v=>some (v,G)) G) fun v _ =>
      iW (fun x=>!(gB (tQ τ h j) want)||(!x.1||br (m7 P (kQ τ h) op x.2) v)) (jn m aM)
      (js base τ (i+1) r (ni h d v) G aM ((i,fun G'=>!(gB (tQ τ h j) want)||br (m7 P (kQ τ h) op G') v)::aF) K)
  | i,⟨op,d,some (j,want),2,m⟩::r,h,G,aM,aF,K=>bS (gd (tQ τ h j) want (ou P E M (kQ τ h) op (G.aI (base+i)) fun v G'=>some (v,G'.back G)) G) fun v G'=>js base τ (i+1) r (ni h d v) G' aM aF K
  | i,⟨op,d,some (j,want),_,m⟩::r,h,G,aM,aF,K=>bS (gd (tQ τ h j) want (ou P E M (kQ τ h) op G fun v G'=>some (v,G')) G) fun v G' =>
      iW (fun c=>!(gB (tQ τ h j) want)||c G') (jn m aF) (js base τ (i+1) r (ni h d v) G' ((i,gB (tQ τ h j) want,G)::aM) aF K)
end
def Bo (N:Nat) (o:Oper):Bool:=dW o.op&&(match o.dst with | some t=>Nat.blt t N | none=>true)
def qE (N:Nat):Code→Bool
  | .seq a b=>qE N a&&qE N b
  | .cond x a b=>dm x&&(qE N a&&qE N b)
  | .block _ b=>qE N b
  | .region _ ops draw=>ops.toList.all (Bo N)&&(!draw||uC ops)
  | .scope _=>false
  | .rangeFunc ..=>false
  | _=>true
def Il {β:Type} (id:Nat) (K:Exit→Env→Hs→GS→Option β) (e:Exit) (τ:Env) (h:Hs) (G:GS):Option β:=match e with
  | .exit gT=>bif Nat.beq gT id then K .normal τ h G else K (.exit gT) τ h G
  | e=>K e τ h G
def Pv {β:Type} (b:Env→Hs→GS→Option β) (K:Exit→Env→Hs→GS→Option β) (e:Exit) (τ:Env) (h:Hs) (G:GS):Option β:=match e with
  | .normal=>b τ h G
  | e=>K e τ h G
def wY (rs:List Nat) (τ:Env):Hs:=match rs with | []=>[] | t::r=>(t,τ t)::wY r τ
def Bp {β:Type} (rs:List Nat) (l:List Exit) (e:Exit) (τ:Env) (G:GS) (K:Exit→Env→Hs→GS→Option β):Option β:=match l with
  | []=>none
  | x::r=>dt e x (K x τ (wY rs τ) G) (Bp rs r e τ G K)
def Im (w:Bool) (c:Code):Nat:=bif w then (eO c).length else 0
section
variable (P:Program) (M:wK) (e:Ex) (f:Nat) (w:Bool) (rs:List Nat)
def mD {β:Type}:Nat→Code→Env→Hs→GS→(Exit→Env→Hs→GS→Option β)→Option β
  | _,.skip,τ,h,G,K=>K .normal τ h G
  | _,.label _,τ,h,G,K=>K .normal τ h G
  | k,.seq a b,τ,h,G,K=>mD k a τ h G (Pv (fun τ h G=>mD (k+Im w a) b τ h G K) K)
  | k,.cond x a b,τ,h,G,K=>cD (kQ τ h x) (mD k a τ h G K) (mD (k+Im w a) b τ h G K)
  | k,.block id b,τ,h,G,K=>mD k b τ h G (Il id K)
  | k,.loop b,τ,h,G,K=>bif w then bE (e.du f k (tu τ h) G) fun x τ1 G1=>Bp rs (jX b) x τ1 G1 K else none
  | _,.exit id,τ,h,G,K=>K (.exit id) τ h G
  | _,.goto l,τ,h,G,K=>K (.goto l) τ h G
  | _,.ret,τ,h,G,K=>K .ret τ h G
  | _,.region _ ops draw,τ,h,G,K =>
    if draw then js P M e.ev G.nx τ 0 (Bn ops (masks ops.toList []) 0 ops.toList) h (G.room ops.size) [] [] fun h G=>K .normal τ h G
    else yS P M e.ev ops τ ops.toList h G fun h G=>K .normal τ h G
  | _,_,_,_,_,_=>none
end
section
variable {P:Program} {M:wK} {e:Ex} {E:Ev}
theorem vp (hM:M=rP P) (h:cf P e E) {β:Type} {r:Operand→Value} {op:Op} {G:GS} {K K':Value→GS→Option β} (ho:dW op=true) (hK:∀ v G,Ref (K v G) (K' v G)):Ref (ou P e.ev M r op G K) (lJ P E r op G K'):=by
  unfold lJ
  rw [if_pos ho,hM]
  unfold ou
  cases op with
  | call c =>
    obtain ⟨A5,args,dA⟩:=c
    simp only [wJ]
    cases A5 with
    | value g =>
      cases g with
      | func g=>exact Ref.bS (h.ev.cl _ _ _) hK
      | _=>exact Ref.bS (Ref.dO h) hK
    | invoke a n=>exact Ref.bS (Ref.dS h) hK
    | builtin b =>
      cases b<;>simp only<;>first
        | exact Ref.nil _
        | exact Ref.bP (.rfl' _) fun v=>hK v _
        | (split<;>first | exact Ref.bS (.rfl' _) hK | exact Ref.bP (.rfl' _) fun v=>hK v _ | exact Ref.nil _)
  | makeFunc g a b=>cases g<;>first | exact hK _ _ | exact Ref.nil _
  | makeMap t r=>cases r<;>first | exact hK _ _ | exact Ref.nil _
  | _=>first
    | exact hK _ _
    | exact Ref.bP (.rfl' _) fun v=>hK _ _
    | exact Ref.bS (.rfl' _) hK
    | exact Ref.nil _
theorem Ref.iW {α β:Type} {f g:α→Bool} {l:List α} {x y:Option β} (hf:f=g) (h:Ref x y):Ref (Gh.iW f l x) (Gh.iW g l y):=by
  subst hf
  cases l with
  | nil=>exact h
  | cons a l=>exact Ref.gp (fx.rfl' _) h
theorem XT (ops:Array Oper) (τ:Env) (h:Hs) (j:Nat):Ik ops τ h j=(match gY ops j with | some t=>tu τ h t | none=>undef):=rfl
theorem Pw (hM:M=rP P) (h:cf P e E) {β:Type} {N:Nat} (ops:Array Oper) (τ:Env) {K:Hs→GS→Option β} {K':Env→GS→Option β} (hK:∀ h G,Ref (K h G) (K' (tu τ h) G)):∀ (l:List Oper) (hs:Hs) (G:GS),l.all (Bo N)=true →
    Ref (yS P M e.ev ops τ l hs G K) (wM P E N ops l (tu τ hs) G K')
  | [],hs,G,_=>hK hs G
  | o::r,hs,G,ho=>by
    simp only [List.all_cons,Bool.and_eq_true,Bo] at ho
    have ih:=fun v G'=>Pw hM h ops τ hK r (ni hs o.dst v) G' ho.2
    simp only [yS,wM,rS,Pu ho.1.2,XT]
    cases o.guard with
    | none=>exact vp hM h ho.1.1 fun v G'=>ih v G'
    | some jw=>exact Ref.bS (.gd (vp hM h ho.1.1 fun v G=>.rfl' _)) ih
theorem Px (hM:M=rP P) (h:cf P e E) {β:Type} {N:Nat} (ops:Array Oper) (ms:List Nat) (base:Nat) (τ:Env) {K:Hs→GS→Option β} {K':Env→GS→Option β} (hK:∀ h G,Ref (K h G) (K' (tu τ h) G)):∀ (l:List Oper) (i:Nat) (hs:Hs) (G:GS) (aM:List (Nat×Bool×GS)) (aF:List (Nat×(GS→Bool))),l.all (Bo N)=true →
    Ref (js P M e.ev base τ i (Bn ops ms i l) hs G aM aF K) (ov P E N ops ms base i l (tu τ hs) G aM aF K')
  | [],i,hs,G,aM,aF,_=>hK hs G
  | o::r,i,hs,G,aM,aF,ho=>by
    simp only [List.all_cons,Bool.and_eq_true,Bo] at ho
    have ih:=fun v G' aM aF=>Px hM h ops ms base τ hK r (i+1) (ni hs o.dst v) G' aM aF ho.2
    simp only [Bn,ov,Pu ho.1.2,if_pos ho.1.1]
    generalize cls o.op=n
    cases hg:o.guard with
    | none =>
      match n with
      | 0=>simp only [rT,js,rS]; exact vp hM h ho.1.1 fun v G'=>ih _ _ _ _
      | 1=>simp only [rT,js,rS]; exact Ref.bP (.rfl' _) fun v=>Ref.iW rfl (ih _ _ _ _)
      | 2=>simp only [rT,js,rS]; exact vp hM h ho.1.1 fun v G'=>ih _ _ _ _
      | n+3=>simp only [rT,js,rS]; exact vp hM h ho.1.1 fun v G'=>Ref.iW rfl (ih _ _ _ _)
    | some jw =>
      obtain ⟨j,w⟩:=jw
      match n with
      | 0=>simp only [rT,js,rS]; exact Ref.bS (.gd (vp hM h ho.1.1 fun v G=>.rfl' _)) fun v G=>ih _ _ _ _
      | 1=>simp only [rT,js,rS]; exact Ref.bS (.gd (.rfl' _)) fun v G=>Ref.iW rfl (ih _ _ _ _)
      | 2=>simp only [rT,js,rS]; exact Ref.bS (.gd (vp hM h ho.1.1 fun v G=>.rfl' _)) fun v G=>ih _ _ _ _
      | n+3=>simp only [rT,js,rS]; exact Ref.bS (.gd (vp hM h ho.1.1 fun v G=>.rfl' _)) fun v G=>Ref.iW rfl (ih _ _ _ _)
theorem Io (τ:Env):∀ rs:List Nat,tu τ (wY rs τ)=τ
  | []=>rfl
  | t::r=>by
    funext j
    show (bif Nat.beq j t then τ t else tu τ (wY r τ) j)=τ j
    rw [Io τ r]
    cases h:Nat.beq j t
    · rfl
    · rw [Nat.eq_of_beq_eq_true h]; rfl
theorem Py {β:Type} {rs:List Nat} {x:Exit} {τ:Env} {G:GS} {K:Exit→Env→Hs→GS→Option β} {K':Exit→Env→GS→Option β} (hK:∀ x τ h G,Ref (K x τ h G) (K' x (tu τ h) G)):∀ l:List Exit,Ref (Bp rs l x τ G K) (tL l x τ G K')
  | []=>.nil _
  | y::l=>Ref.dt (by have:=hK y τ (wY rs τ) G; rwa [Io] at this) (Py hK l)
def At (P:Program) (f k:Nat) (c:Code):Prop:=∀ i b,(eO c)[i]? =some b→my P f (k+i)=b
theorem Pz (hM:M=rP P) (h:cf P e E) {β:Type} {N f:Nat} {w:Bool} {rs:List Nat} (hN:nh P f=N):∀ (c:Code) (k:Nat) (τ:Env) (hs:Hs) (G:GS) (K:Exit→Env→Hs→GS→Option β) (K':Exit→Env→GS→Option β),qE N c=true→(w=true→At P f k c) →
    (∀ x τ h G,Ref (K x τ h G) (K' x (tu τ h) G))→Ref (mD P M e f w rs k c τ hs G K) (fU P E N c (tu τ hs) G K'):=by
  intro c
  induction c with
  | seq a b fv fw =>
    intro k τ hs G K K' hg hl hK
    simp only [qE,Bool.and_eq_true] at hg
    refine fv k τ hs G _ _ hg.1 (fun hw i b hi=>hl hw i b ?_) fun x τ hs G=>?_
    · simp only [eO,List.getElem?_append]
      have:=(List.getElem?_eq_some_iff.1 hi).1
      rw [if_pos this]; exact hi
    · cases x with
      | normal =>
        refine fw _ τ hs G _ _ hg.2 (fun hw i b hi=>?_) hK
        have:=hl hw ((eO a).length+i) b (by simp only [eO,List.getElem?_append_right (Nat.le_add_right _ i),Nat.add_sub_cancel_left]; exact hi)
        subst hw
        rw [← Nat.add_assoc] at this
        exact this
      | _=>exact hK _ _ _ _
  | cond x a b fv fw =>
    intro k τ hs G K K' hg hl hK
    simp only [qE,Bool.and_eq_true] at hg
    simp only [mD,fU,rS,if_pos hg.1]
    refine Ref.cD (fv k τ hs G _ _ hg.2.1 (fun hw i b hi=>hl hw i b ?_) hK) (fw _ τ hs G _ _ hg.2.2 (fun hw i b hi=>?_) hK)
    · simp only [eO,List.getElem?_append]
      have:=(List.getElem?_eq_some_iff.1 hi).1
      rw [if_pos this]; exact hi
    · have:=hl hw ((eO a).length+i) b (by simp only [eO,List.getElem?_append_right (Nat.le_add_right _ i),Nat.add_sub_cancel_left]; exact hi)
      subst hw
      rw [← Nat.add_assoc] at this
      exact this
  | block id b ih =>
    intro k τ hs G K K' hg hl hK
    refine ih k τ hs G _ _ hg hl fun x τ hs G=>?_
    cases x with
    | exit i =>
      simp only [Il,wQ]
      cases Nat.beq i id
      · exact hK _ _ _ _
      · exact hK _ _ _ _
    | _=>exact hK _ _ _ _
  | loop b ih =>
    intro k τ hs G K K' hg hl hK
    cases w with
    | false=>exact .nil _
    | true =>
      have hc:my P f k=b:=by have:=hl rfl 0 b rfl; exact this
      haveI:fM P f k b N:=⟨hc,hN⟩
      have:=Ref.bL (β:=β) (i:=this) (τ:=tu τ hs) (G:=G) (K:=fun x τ1 G1=>Bp rs (jX b) x τ1 G1 K) (K':=fun x τ1 G1=>tL (jX b) x τ1 G1 K') h fun x τ G=>Py hK _
      exact this
  | region id ops draw =>
    intro k τ hs G K K' hg hl hK
    simp only [qE,Bool.and_eq_true,Bool.or_eq_true,Bool.not_eq_true'] at hg
    simp only [mD,fU]
    split
    · rename_i hd
      rw [if_pos (by simpa [hd] using hg.2)]
      exact Px hM h ops _ _ τ (fun h G=>hK _ _ _ _) _ 0 _ _ _ _ hg.1
    · exact Pw hM h ops τ (fun h G=>hK _ _ _ _) _ _ _ hg.1
  | scope b ih=>intro k τ hs G K K' hg; cases hg
  | rangeFunc a b c d e=>intro k τ hs G K K' hg; cases hg
  | refuse s=>intros; exact .nil _
  | _=>intro k τ hs G K K' hg hl hK; exact hK _ _ _ _
theorem XU:∀ {c b b':Code} {k i:Nat},(eO c)[k]? =some b→(eO b)[i]? =some b' →(eO c)[k+1+i]? =some b':=by
  have ap:∀ {l m:List Code} {b':Code} {k i:Nat} {b:Code},(∀ {b:Code} {k:Nat},l[k]? =some b→(eO b)[i]? =some b' →l[k+1+i]? =some b')→(∀ {b:Code} {k:Nat},m[k]? =some b→(eO b)[i]? =some b' →m[k+1+i]? =some b')→(l++m)[k]? =some b→(eO b)[i]? =some b' →(l++m)[k+1+i]? =some b':=by
    intro l m b' k i b hl hm hk hi
    by_cases h:k<l.length
    · rw [List.getElem?_append_left h] at hk
      have h1:=hl hk hi
      rw [List.getElem?_append_left (List.getElem?_eq_some_iff.1 h1).1]; exact h1
    · rw [List.getElem?_append_right (by omega)] at hk ⊢
      have h1:=hm hk hi
      rw [show k+1+i - l.length=k - l.length+1+i by omega]; exact h1
  intro c
  induction c with
  | loop b ih =>
    intro b1 b2 k i hk hi
    cases k with
    | zero =>
      simp only [eO,List.getElem?_cons_zero,Option.some.injEq] at hk
      subst hk
      simp only [eO]
      rw [show 0+1+i=i+1 by omega,List.getElem?_cons_succ]; exact hi
    | succ k =>
      simp only [eO,List.getElem?_cons_succ] at hk ⊢
      rw [show k+1+1+i=(k+1+i)+1 by omega,List.getElem?_cons_succ]
      exact ih hk hi
  | seq a b fv fw=>intro b1 b2 k i hk hi; exact ap (fun h1 h2=>fv h1 h2) (fun h1 h2=>fw h1 h2) hk hi
  | cond x a b fv fw=>intro b1 b2 k i hk hi; exact ap (fun h1 h2=>fv h1 h2) (fun h1 h2=>fw h1 h2) hk hi
  | rangeFunc x p a b fv fw=>intro b1 b2 k i hk hi; exact ap (fun h1 h2=>fv h1 h2) (fun h1 h2=>fw h1 h2) hk hi
  | scope b ih=>intro b1 b2 k i hk hi; exact ih hk hi
  | block id b ih=>intro b1 b2 k i hk hi; exact ih hk hi
  | _=>intro b1 b2 k i hk hi; simp [eO] at hk
section
variable {P:Program}
theorem XV {t z} [h:gH P t z] (G:GS):(oq P).1.al t G=al P true t z G:=by rw [(oq P).2]; exact (Po ..).symm
theorem XW {t f off} [h:aA P t f off] (v:Value):re P t v f=fa P true t f off v:=(O2 ..).symm
theorem XX {t sz} [h:cU P t sz] (a v:Value) (G:GS):nQ P t a v G=st P true t sz a v G:=(O7 ..).symm
theorem XY {t} [h:cy P t] (v:Value) (G:GS):kK P t v G=ld P true t v G:=(O5 ..).symm
theorem XZ {t sz} [h:gG P t sz] (v:Value) (G:GS):kK P t v G=fV P true t sz v G:=(O6 ..).symm
theorem X0 {t sz} [h:qz P t sz] (v i:Value):ky P t v i=lK P true t sz v i:=(O3 ..).symm
theorem X1 {t n sz} [h:wU P t n sz] (v i:Value):ky P t v i=yK P true t n sz v i:=(O4 ..).symm
theorem X2 (v:Value) (G:GS):(oq P).1.bx v G=bx true v G:=by rw [(oq P).2]; exact (Pp ..).symm
theorem X3 {s d ks kd} [h:tO P s d ks kd] (x:Value):uV P s d x=cv P true s d ks kd x:=(O0 ..).symm
theorem X4 {t} [h:kO P t] (x:Value):(oq P).1.vi t x=vi P true t x:=by rw [(oq P).2]; exact (O1 ..).symm
theorem X5 {t f off} [h:yM P t f off] (v:Value):lW P t v f=fd P true t f off v:=(Pc ..).symm
theorem X6 {t f off sz} [h:HZ P t f off sz] (v:Value):lW P t v f=yN P true t f off sz v:=(Pd ..).symm
theorem X7 {t n} [h:DM P t n] (v i:Value):kx P t v i=ix P true t n v i:=(Pe ..).symm
theorem X8 {t n sz} [h:H0 P t n sz] (v i:Value):kx P t v i=Bi P true t n sz v i:=(Pf ..).symm
theorem X9 {t} [h:qC P t] (v:Value):mQ P t v=ln P true t v:=(Pg ..).symm
theorem Ya {t n} [h:H2 P t n] (v:Value):mQ P t v=Bj P true t n v:=(Ph ..).symm
theorem Yb {a b c d} [h:yO P a b c d] (x y:Value) (G:GS):qe P a b x y G=ap P true a b c d x y G:=(Pj ..).symm
theorem Yc {t z} [h:H3 P t z] (x y:Value) (G:GS):qf P t x y G=cp P true t z x y G:=(Pk ..).symm
theorem Yd {t z} [h:DN P t z] (x:Value) (a b c:Option Value) (G:GS):iG P t x a b c G=sl P true t z x a b c G:=(Pm ..).symm
theorem Ye {t n z} [h:Bk P t n z] (x:Value) (a b c:Option Value) (G:GS):iG P t x a b c G=yP P true t n z x a b c G:=(Pn ..).symm
theorem Yf {t s b z} [h:Bl P t s b z] (x y:Value) (G:GS):(oq P).1.ms t x y G=mk P true t s b z x y G:=by rw [(oq P).2]; exact (mk_eq ..).symm
theorem Yg {t} [h:iK P t] (x y:Operand) (a b:Value):bF P .eql t x y a b=ep P true false t x y a b:=(H7 P true false t x y a b).symm
theorem Yh {t} [h:iK P t] (x y:Operand) (a b:Value):bF P .neq t x y a b=ep P true true t x y a b:=(H7 P true true t x y a b).symm
theorem Yi {t} [h:DO P t] (x y:Operand) (a b:Value):bF P .eql t x y a b=es P true false t x y a b:=(H8 P true false t x y a b).symm
theorem Yj {t} [h:DO P t] (x y:Operand) (a b:Value):bF P .neq t x y a b=es P true true t x y a b:=(H8 P true true t x y a b).symm
theorem Yk {t} [h:j7 P t] (x y:Operand) (a b:Value):bF P .eql t x y a b=ef P true false t x y a b:=(H9 P true false t x y a b).symm
theorem Yl {t} [h:j7 P t] (x y:Operand) (a b:Value):bF P .neq t x y a b=ef P true true t x y a b:=(H9 P true true t x y a b).symm
theorem Ym {t} [h:DQ P t] (x y:Operand) (a b:Value):bF P .eql t x y a b=eb P true false t x y a b:=(Ia P true false t x y a b).symm
theorem Yn {t} [h:DQ P t] (x y:Operand) (a b:Value):bF P .neq t x y a b=eb P true true t x y a b:=(Ia P true true t x y a b).symm
class ca (P:Program) (t:TypeId) (l:List Nat) (z:outParam (List Value)) (pl:outParam (List (Nat×Nat×Nat))):Prop where ok:∀ vs,qZ P t (qA pl vs)=rQ z (lL pl vs)
class mE (P:Program) (t n:Nat) (l:List Nat) (z:outParam (List Value)) (sz:outParam Nat) (pl:outParam (List (Nat×Nat×Nat))):Prop where ok:∀ vs G,yA P t n (qA pl vs) G=pv z (lL pl vs) n sz G
theorem Yo {t z} [h:ca P t [] z []]:(oq P).1.bd t []=bd P true t z [] []:=by rw [(oq P).2]; exact h.ok []
theorem Yp {t z i0 a0 b0} [h:ca P t [i0] z [(i0,a0,b0)]] (v0:Value):(oq P).1.bd t [(i0,v0)]=bd P true t z [(i0,a0,b0)] [v0]:=by rw [(oq P).2]; exact h.ok [v0]
theorem Yq {t z i0 a0 b0 i1 a1 b1} [h:ca P t [i0,i1] z [(i0,a0,b0),(i1,a1,b1)]] (v0 v1:Value):(oq P).1.bd t [(i0,v0),(i1,v1)]=bd P true t z [(i0,a0,b0),(i1,a1,b1)] [v0,v1]:=by rw [(oq P).2]; exact h.ok [v0,v1]
theorem Yr {t z i0 a0 b0 i1 a1 b1 i2 a2 b2} [h:ca P t [i0,i1,i2] z [(i0,a0,b0),(i1,a1,b1),(i2,a2,b2)]] (v0 v1 v2:Value):(oq P).1.bd t [(i0,v0),(i1,v1),(i2,v2)]=bd P true t z [(i0,a0,b0),(i1,a1,b1),(i2,a2,b2)] [v0,v1,v2]:=by rw [(oq P).2]; exact h.ok [v0,v1,v2]
theorem Ys {t z i0 a0 b0 i1 a1 b1 i2 a2 b2 i3 a3 b3} [h:ca P t [i0,i1,i2,i3] z [(i0,a0,b0),(i1,a1,b1),(i2,a2,b2),(i3,a3,b3)]] (v0 v1 v2 v3:Value):(oq P).1.bd t [(i0,v0),(i1,v1),(i2,v2),(i3,v3)]=bd P true t z [(i0,a0,b0),(i1,a1,b1),(i2,a2,b2),(i3,a3,b3)] [v0,v1,v2,v3]:=by rw [(oq P).2]; exact h.ok [v0,v1,v2,v3]
theorem Yt {t z i0 a0 b0 i1 a1 b1 i2 a2 b2 i3 a3 b3 i4 a4 b4} [h:ca P t [i0,i1,i2,i3,i4] z [(i0,a0,b0),(i1,a1,b1),(i2,a2,b2),(i3,a3,b3),(i4,a4,b4)]] (v0 v1 v2 v3 v4:Value):(oq P).1.bd t [(i0,v0),(i1,v1),(i2,v2),(i3,v3),(i4,v4)]=bd P true t z [(i0,a0,b0),(i1,a1,b1),(i2,a2,b2),(i3,a3,b3),(i4,a4,b4)] [v0,v1,v2,v3,v4]:=by rw [(oq P).2]; exact h.ok [v0,v1,v2,v3,v4]
theorem Yu {t z i0 a0 b0 i1 a1 b1 i2 a2 b2 i3 a3 b3 i4 a4 b4 i5 a5 b5} [h:ca P t [i0,i1,i2,i3,i4,i5] z [(i0,a0,b0),(i1,a1,b1),(i2,a2,b2),(i3,a3,b3),(i4,a4,b4),(i5,a5,b5)]] (v0 v1 v2 v3 v4 v5:Value):(oq P).1.bd t [(i0,v0),(i1,v1),(i2,v2),(i3,v3),(i4,v4),(i5,v5)]=bd P true t z [(i0,a0,b0),(i1,a1,b1),(i2,a2,b2),(i3,a3,b3),(i4,a4,b4),(i5,a5,b5)] [v0,v1,v2,v3,v4,v5]:=by rw [(oq P).2]; exact h.ok [v0,v1,v2,v3,v4,v5]
theorem Yv {t z i0 a0 b0 i1 a1 b1 i2 a2 b2 i3 a3 b3 i4 a4 b4 i5 a5 b5 i6 a6 b6} [h:ca P t [i0,i1,i2,i3,i4,i5,i6] z [(i0,a0,b0),(i1,a1,b1),(i2,a2,b2),(i3,a3,b3),(i4,a4,b4),(i5,a5,b5),(i6,a6,b6)]] (v0 v1 v2 v3 v4 v5 v6:Value):(oq P).1.bd t [(i0,v0),(i1,v1),(i2,v2),(i3,v3),(i4,v4),(i5,v5),(i6,v6)]=bd P true t z [(i0,a0,b0),(i1,a1,b1),(i2,a2,b2),(i3,a3,b3),(i4,a4,b4),(i5,a5,b5),(i6,a6,b6)] [v0,v1,v2,v3,v4,v5,v6]:=by rw [(oq P).2]; exact h.ok [v0,v1,v2,v3,v4,v5,v6]
theorem Yw {t z i0 a0 b0 i1 a1 b1 i2 a2 b2 i3 a3 b3 i4 a4 b4 i5 a5 b5 i6 a6 b6 i7 a7 b7} [h:ca P t [i0,i1,i2,i3,i4,i5,i6,i7] z [(i0,a0,b0),(i1,a1,b1),(i2,a2,b2),(i3,a3,b3),(i4,a4,b4),(i5,a5,b5),(i6,a6,b6),(i7,a7,b7)]] (v0 v1 v2 v3 v4 v5 v6 v7:Value):(oq P).1.bd t [(i0,v0),(i1,v1),(i2,v2),(i3,v3),(i4,v4),(i5,v5),(i6,v6),(i7,v7)]=bd P true t z [(i0,a0,b0),(i1,a1,b1),(i2,a2,b2),(i3,a3,b3),(i4,a4,b4),(i5,a5,b5),(i6,a6,b6),(i7,a7,b7)] [v0,v1,v2,v3,v4,v5,v6,v7]:=by rw [(oq P).2]; exact h.ok [v0,v1,v2,v3,v4,v5,v6,v7]
theorem Yx {t z i0 a0 b0 i1 a1 b1 i2 a2 b2 i3 a3 b3 i4 a4 b4 i5 a5 b5 i6 a6 b6 i7 a7 b7 i8 a8 b8} [h:ca P t [i0,i1,i2,i3,i4,i5,i6,i7,i8] z [(i0,a0,b0),(i1,a1,b1),(i2,a2,b2),(i3,a3,b3),(i4,a4,b4),(i5,a5,b5),(i6,a6,b6),(i7,a7,b7),(i8,a8,b8)]] (v0 v1 v2 v3 v4 v5 v6 v7 v8:Value):(oq P).1.bd t [(i0,v0),(i1,v1),(i2,v2),(i3,v3),(i4,v4),(i5,v5),(i6,v6),(i7,v7),(i8,v8)]=bd P true t z [(i0,a0,b0),(i1,a1,b1),(i2,a2,b2),(i3,a3,b3),(i4,a4,b4),(i5,a5,b5),(i6,a6,b6),(i7,a7,b7),(i8,a8,b8)] [v0,v1,v2,v3,v4,v5,v6,v7,v8]:=by rw [(oq P).2]; exact h.ok [v0,v1,v2,v3,v4,v5,v6,v7,v8]
theorem Yy {t z i0 a0 b0 i1 a1 b1 i2 a2 b2 i3 a3 b3 i4 a4 b4 i5 a5 b5 i6 a6 b6 i7 a7 b7 i8 a8 b8 i9 a9 b9} [h:ca P t [i0,i1,i2,i3,i4,i5,i6,i7,i8,i9] z [(i0,a0,b0),(i1,a1,b1),(i2,a2,b2),(i3,a3,b3),(i4,a4,b4),(i5,a5,b5),(i6,a6,b6),(i7,a7,b7),(i8,a8,b8),(i9,a9,b9)]] (v0 v1 v2 v3 v4 v5 v6 v7 v8 v9:Value):(oq P).1.bd t [(i0,v0),(i1,v1),(i2,v2),(i3,v3),(i4,v4),(i5,v5),(i6,v6),(i7,v7),(i8,v8),(i9,v9)]=bd P true t z [(i0,a0,b0),(i1,a1,b1),(i2,a2,b2),(i3,a3,b3),(i4,a4,b4),(i5,a5,b5),(i6,a6,b6),(i7,a7,b7),(i8,a8,b8),(i9,a9,b9)] [v0,v1,v2,v3,v4,v5,v6,v7,v8,v9]:=by rw [(oq P).2]; exact h.ok [v0,v1,v2,v3,v4,v5,v6,v7,v8,v9]
theorem Yz {t z i0 a0 b0 i1 a1 b1 i2 a2 b2 i3 a3 b3 i4 a4 b4 i5 a5 b5 i6 a6 b6 i7 a7 b7 i8 a8 b8 i9 a9 b9 i10 a10 b10} [h:ca P t [i0,i1,i2,i3,i4,i5,i6,i7,i8,i9,i10] z [(i0,a0,b0),(i1,a1,b1),(i2,a2,b2),(i3,a3,b3),(i4,a4,b4),(i5,a5,b5),(i6,a6,b6),(i7,a7,b7),(i8,a8,b8),(i9,a9,b9),(i10,a10,b10)]] (v0 v1 v2 v3 v4 v5 v6 v7 v8 v9 v10:Value):(oq P).1.bd t [(i0,v0),(i1,v1),(i2,v2),(i3,v3),(i4,v4),(i5,v5),(i6,v6),(i7,v7),(i8,v8),(i9,v9),(i10,v10)]=bd P true t z [(i0,a0,b0),(i1,a1,b1),(i2,a2,b2),(i3,a3,b3),(i4,a4,b4),(i5,a5,b5),(i6,a6,b6),(i7,a7,b7),(i8,a8,b8),(i9,a9,b9),(i10,a10,b10)] [v0,v1,v2,v3,v4,v5,v6,v7,v8,v9,v10]:=by rw [(oq P).2]; exact h.ok [v0,v1,v2,v3,v4,v5,v6,v7,v8,v9,v10]
theorem YA {t z i0 a0 b0 i1 a1 b1 i2 a2 b2 i3 a3 b3 i4 a4 b4 i5 a5 b5 i6 a6 b6 i7 a7 b7 i8 a8 b8 i9 a9 b9 i10 a10 b10 i11 a11 b11} [h:ca P t [i0,i1,i2,i3,i4,i5,i6,i7,i8,i9,i10,i11] z [(i0,a0,b0),(i1,a1,b1),(i2,a2,b2),(i3,a3,b3),(i4,a4,b4),(i5,a5,b5),(i6,a6,b6),(i7,a7,b7),(i8,a8,b8),(i9,a9,b9),(i10,a10,b10),(i11,a11,b11)]] (v0 v1 v2 v3 v4 v5 v6 v7 v8 v9 v10 v11:Value):(oq P).1.bd t [(i0,v0),(i1,v1),(i2,v2),(i3,v3),(i4,v4),(i5,v5),(i6,v6),(i7,v7),(i8,v8),(i9,v9),(i10,v10),(i11,v11)]=bd P true t z [(i0,a0,b0),(i1,a1,b1),(i2,a2,b2),(i3,a3,b3),(i4,a4,b4),(i5,a5,b5),(i6,a6,b6),(i7,a7,b7),(i8,a8,b8),(i9,a9,b9),(i10,a10,b10),(i11,a11,b11)] [v0,v1,v2,v3,v4,v5,v6,v7,v8,v9,v10,v11]:=by rw [(oq P).2]; exact h.ok [v0,v1,v2,v3,v4,v5,v6,v7,v8,v9,v10,v11]
theorem YB {t z i0 a0 b0 i1 a1 b1 i2 a2 b2 i3 a3 b3 i4 a4 b4 i5 a5 b5 i6 a6 b6 i7 a7 b7 i8 a8 b8 i9 a9 b9 i10 a10 b10 i11 a11 b11 i12 a12 b12} [h:ca P t [i0,i1,i2,i3,i4,i5,i6,i7,i8,i9,i10,i11,i12] z [(i0,a0,b0),(i1,a1,b1),(i2,a2,b2),(i3,a3,b3),(i4,a4,b4),(i5,a5,b5),(i6,a6,b6),(i7,a7,b7),(i8,a8,b8),(i9,a9,b9),(i10,a10,b10),(i11,a11,b11),(i12,a12,b12)]] (v0 v1 v2 v3 v4 v5 v6 v7 v8 v9 v10 v11 v12:Value):(oq P).1.bd t [(i0,v0),(i1,v1),(i2,v2),(i3,v3),(i4,v4),(i5,v5),(i6,v6),(i7,v7),(i8,v8),(i9,v9),(i10,v10),(i11,v11),(i12,v12)]=bd P true t z [(i0,a0,b0),(i1,a1,b1),(i2,a2,b2),(i3,a3,b3),(i4,a4,b4),(i5,a5,b5),(i6,a6,b6),(i7,a7,b7),(i8,a8,b8),(i9,a9,b9),(i10,a10,b10),(i11,a11,b11),(i12,a12,b12)] [v0,v1,v2,v3,v4,v5,v6,v7,v8,v9,v10,v11,v12]:=by rw [(oq P).2]; exact h.ok [v0,v1,v2,v3,v4,v5,v6,v7,v8,v9,v10,v11,v12]
theorem YC {t n z sz i0 a0 b0} [h:mE P t n [i0] z sz [(i0,a0,b0)]] (v0:Value) (G:GS):(oq P).1.bs t n [(i0,v0)] G=bs P true t n z sz [(i0,a0,b0)] [v0] G:=by rw [(oq P).2]; exact haveI:mw P t n z sz [(i0,a0,b0)]:=⟨h.ok⟩; ((tP P true t n z sz (h:=this) [(i0,a0,b0)] [v0] G).symm)
theorem YD {t n z sz i0 a0 b0 i1 a1 b1} [h:mE P t n [i0,i1] z sz [(i0,a0,b0),(i1,a1,b1)]] (v0 v1:Value) (G:GS):(oq P).1.bs t n [(i0,v0),(i1,v1)] G=bs P true t n z sz [(i0,a0,b0),(i1,a1,b1)] [v0,v1] G:=by rw [(oq P).2]; exact haveI:mw P t n z sz [(i0,a0,b0),(i1,a1,b1)]:=⟨h.ok⟩; ((tP P true t n z sz (h:=this) [(i0,a0,b0),(i1,a1,b1)] [v0,v1] G).symm)
theorem YE {t n z sz i0 a0 b0 i1 a1 b1 i2 a2 b2} [h:mE P t n [i0,i1,i2] z sz [(i0,a0,b0),(i1,a1,b1),(i2,a2,b2)]] (v0 v1 v2:Value) (G:GS):(oq P).1.bs t n [(i0,v0),(i1,v1),(i2,v2)] G=bs P true t n z sz [(i0,a0,b0),(i1,a1,b1),(i2,a2,b2)] [v0,v1,v2] G:=by rw [(oq P).2]; exact haveI:mw P t n z sz [(i0,a0,b0),(i1,a1,b1),(i2,a2,b2)]:=⟨h.ok⟩; ((tP P true t n z sz (h:=this) [(i0,a0,b0),(i1,a1,b1),(i2,a2,b2)] [v0,v1,v2] G).symm)
theorem YF {t n z sz i0 a0 b0 i1 a1 b1 i2 a2 b2 i3 a3 b3} [h:mE P t n [i0,i1,i2,i3] z sz [(i0,a0,b0),(i1,a1,b1),(i2,a2,b2),(i3,a3,b3)]] (v0 v1 v2 v3:Value) (G:GS):(oq P).1.bs t n [(i0,v0),(i1,v1),(i2,v2),(i3,v3)] G=bs P true t n z sz [(i0,a0,b0),(i1,a1,b1),(i2,a2,b2),(i3,a3,b3)] [v0,v1,v2,v3] G:=by rw [(oq P).2]; exact haveI:mw P t n z sz [(i0,a0,b0),(i1,a1,b1),(i2,a2,b2),(i3,a3,b3)]:=⟨h.ok⟩; ((tP P true t n z sz (h:=this) [(i0,a0,b0),(i1,a1,b1),(i2,a2,b2),(i3,a3,b3)] [v0,v1,v2,v3] G).symm)
theorem YG {t n z sz i0 a0 b0 i1 a1 b1 i2 a2 b2 i3 a3 b3 i4 a4 b4} [h:mE P t n [i0,i1,i2,i3,i4] z sz [(i0,a0,b0),(i1,a1,b1),(i2,a2,b2),(i3,a3,b3),(i4,a4,b4)]] (v0 v1 v2 v3 v4:Value) (G:GS):(oq P).1.bs t n [(i0,v0),(i1,v1),(i2,v2),(i3,v3),(i4,v4)] G=bs P true t n z sz [(i0,a0,b0),(i1,a1,b1),(i2,a2,b2),(i3,a3,b3),(i4,a4,b4)] [v0,v1,v2,v3,v4] G:=by rw [(oq P).2]; exact haveI:mw P t n z sz [(i0,a0,b0),(i1,a1,b1),(i2,a2,b2),(i3,a3,b3),(i4,a4,b4)]:=⟨h.ok⟩; ((tP P true t n z sz (h:=this) [(i0,a0,b0),(i1,a1,b1),(i2,a2,b2),(i3,a3,b3),(i4,a4,b4)] [v0,v1,v2,v3,v4] G).symm)
theorem YH {t n z sz i0 a0 b0 i1 a1 b1 i2 a2 b2 i3 a3 b3 i4 a4 b4 i5 a5 b5} [h:mE P t n [i0,i1,i2,i3,i4,i5] z sz [(i0,a0,b0),(i1,a1,b1),(i2,a2,b2),(i3,a3,b3),(i4,a4,b4),(i5,a5,b5)]] (v0 v1 v2 v3 v4 v5:Value) (G:GS):(oq P).1.bs t n [(i0,v0),(i1,v1),(i2,v2),(i3,v3),(i4,v4),(i5,v5)] G=bs P true t n z sz [(i0,a0,b0),(i1,a1,b1),(i2,a2,b2),(i3,a3,b3),(i4,a4,b4),(i5,a5,b5)] [v0,v1,v2,v3,v4,v5] G:=by rw [(oq P).2]; exact haveI:mw P t n z sz [(i0,a0,b0),(i1,a1,b1),(i2,a2,b2),(i3,a3,b3),(i4,a4,b4),(i5,a5,b5)]:=⟨h.ok⟩; ((tP P true t n z sz (h:=this) [(i0,a0,b0),(i1,a1,b1),(i2,a2,b2),(i3,a3,b3),(i4,a4,b4),(i5,a5,b5)] [v0,v1,v2,v3,v4,v5] G).symm)
theorem YI {t n z sz i0 a0 b0 i1 a1 b1 i2 a2 b2 i3 a3 b3 i4 a4 b4 i5 a5 b5 i6 a6 b6} [h:mE P t n [i0,i1,i2,i3,i4,i5,i6] z sz [(i0,a0,b0),(i1,a1,b1),(i2,a2,b2),(i3,a3,b3),(i4,a4,b4),(i5,a5,b5),(i6,a6,b6)]] (v0 v1 v2 v3 v4 v5 v6:Value) (G:GS):(oq P).1.bs t n [(i0,v0),(i1,v1),(i2,v2),(i3,v3),(i4,v4),(i5,v5),(i6,v6)] G=bs P true t n z sz [(i0,a0,b0),(i1,a1,b1),(i2,a2,b2),(i3,a3,b3),(i4,a4,b4),(i5,a5,b5),(i6,a6,b6)] [v0,v1,v2,v3,v4,v5,v6] G:=by rw [(oq P).2]; exact haveI:mw P t n z sz [(i0,a0,b0),(i1,a1,b1),(i2,a2,b2),(i3,a3,b3),(i4,a4,b4),(i5,a5,b5),(i6,a6,b6)]:=⟨h.ok⟩; ((tP P true t n z sz (h:=this) [(i0,a0,b0),(i1,a1,b1),(i2,a2,b2),(i3,a3,b3),(i4,a4,b4),(i5,a5,b5),(i6,a6,b6)] [v0,v1,v2,v3,v4,v5,v6] G).symm)
theorem YJ {t n z sz i0 a0 b0 i1 a1 b1 i2 a2 b2 i3 a3 b3 i4 a4 b4 i5 a5 b5 i6 a6 b6 i7 a7 b7} [h:mE P t n [i0,i1,i2,i3,i4,i5,i6,i7] z sz [(i0,a0,b0),(i1,a1,b1),(i2,a2,b2),(i3,a3,b3),(i4,a4,b4),(i5,a5,b5),(i6,a6,b6),(i7,a7,b7)]] (v0 v1 v2 v3 v4 v5 v6 v7:Value) (G:GS):(oq P).1.bs t n [(i0,v0),(i1,v1),(i2,v2),(i3,v3),(i4,v4),(i5,v5),(i6,v6),(i7,v7)] G=bs P true t n z sz [(i0,a0,b0),(i1,a1,b1),(i2,a2,b2),(i3,a3,b3),(i4,a4,b4),(i5,a5,b5),(i6,a6,b6),(i7,a7,b7)] [v0,v1,v2,v3,v4,v5,v6,v7] G:=by rw [(oq P).2]; exact haveI:mw P t n z sz [(i0,a0,b0),(i1,a1,b1),(i2,a2,b2),(i3,a3,b3),(i4,a4,b4),(i5,a5,b5),(i6,a6,b6),(i7,a7,b7)]:=⟨h.ok⟩; ((tP P true t n z sz (h:=this) [(i0,a0,b0),(i1,a1,b1),(i2,a2,b2),(i3,a3,b3),(i4,a4,b4),(i5,a5,b5),(i6,a6,b6),(i7,a7,b7)] [v0,v1,v2,v3,v4,v5,v6,v7] G).symm)
end
theorem YK {α β:Type} (f:α→Bool) (x:Option β):iW f [] x=x:=Eq.trans rfl rfl
theorem YL {α β:Type} (f:α→Bool) (a:α) (l:List α) (x:Option β):iW f (a::l) x=gp ((a::l).all f) x:=Eq.trans rfl rfl
theorem YM {α:Type} (m:Nat):jn m ([]:List (Nat×α))=[]:=Eq.trans rfl rfl
theorem YN {α:Type} (m i:Nat) (a:α) (l:List (Nat×α)):jn m ((i,a)::l)=if m / 2 ^ i % 2=1 then jn m l else a::jn m l:=by
  have:m.testBit i=decide (m / 2 ^ i % 2=1):=Nat.testBit_eq_decide_div_mod_eq
  unfold jn
  by_cases h:m / 2 ^ i % 2=1<;>simp [this,h]
section
variable {P:Program} {M:wK} {e:Ex} {E:Ev} {β:Type}
end
structure Nf {α:Type} (x:α) where
  y:α
  h:x=y
def av {α:Type} {x y:α} (h:x=y:=by simp -implicitDefEqProofs [mD,Bh,yS,js,ou,wJ,ni,wY,kQ,Ik,gY,Il,Pv,Bp,jX,Dt,Ok,vg,Im,eO,Br,vj,uD,rq,aS,yT,dw,sG,sH,masks,qg,Region.binds,Bn,rT,tQ,YM,YN,YK,YL,m7,cls,iX,XW,XX,XY,XZ,X0,X1,X3,X5,X6,X7,X8,X9,Ya,Yb,Yc,Yd,Ye,Yg,Yh,Yi,Yj,Yk,Yl,Ym,Yn]; exact rfl):Nf x:=⟨y,h⟩
@[simp] theorem agE {α:Type} {x y:α} (h:x=y):(av h).y=y:=Eq.trans rfl rfl
def Br (P:Program) (rs:List ResultVar) (x:Exit) (τ:Env) (h:Hs) (G:GS):Option (Value×GS):=if rq x then vj P (tu τ h) G rs fun l=>some (uD l,G) else none
abbrev NS (P:Program) (e:Ex) (f:Nat) (w:Bool) (rs:List Nat) (fn:Func) (vs:List Value) (G:GS):Type:=Nf (mD P (oq P).1 e f w rs 0 (aS fn) (nth undef vs) [] G (Br P fn.results.toList))
def okF (P:Program) (ae:FuncId→Bool) (fn:Func) (n:Nat):Bool:= !(fn.name == "runtime.NumGoroutine")&&fn.body.isSome&&Nat.ble n fn.ntmps&&qE fn.ntmps (aS fn)
theorem PA {ae:FuncId→Bool} {f:FuncId} {fn:Func} {w:Bool} {rs:List Nat} {vs:List Value} {G:GS} (hM:M=rP P) (h:cf P e (aC P ae)) (hf:P.funcs[f]? =some fn) (ok:okF P ae fn vs.length=true) (hp:po P ae f=false) (ho:(vs.isEmpty&&ae f)=false):Ref (mD P M e f w rs 0 (aS fn) (nth undef vs) [] G (Br P fn.results.toList)) ((aC P ae).cl f vs G):=by
  simp only [okF,Bool.and_eq_true,Bool.not_eq_true'] at ok
  intro r hr
  refine Dz P ae (x:=fU P (aC P ae) fn.ntmps (aS fn) (nth undef vs) G (qy P fn.results.toList)) G hf ok.1.1.1 ok.1.1.2 ho hp ok.1.2 rfl ?_
  refine Pz hM h (K':=qy P fn.results.toList) (by unfold nh; rw [hf]) (aS fn) 0 (nth undef vs) [] G (Br P fn.results.toList) ok.2 (fun _ i b hi=>?_) (fun x τ h G=>.rfl' _) r hr
  unfold my
  rw [hf]
  simp only [jL,List.getD_eq_getElem?_getD,Nat.zero_add,hi,Option.getD_some]
theorem Nf.ref {ae:FuncId→Bool} {f:FuncId} {fn:Func} {w:Bool} {rs:List Nat} {vs:List Value} {G:GS} (x:NS P e f w rs fn vs G) (h:cf P e (aC P ae)) (hf:P.funcs[f]? =some fn) (ok:okF P ae fn vs.length=true:=by kernel_rfl) (hp:po P ae f=false:=by kernel_rfl) (ho:(vs.isEmpty&&ae f)=false:=by first | rfl | assumption):Ref x.y ((aC P ae).cl f vs G):=by
  rw [← x.h]; exact PA (oq P).2 h hf ok hp ho
def yT (N:Nat) (lp:Env→GS→Option (Exit×Env×GS)) (x:Exit) (τ:Env) (h:Hs) (G:GS):Option (Exit×Env×GS):=match x with
  | .normal=>lp (clip N (tu τ h)) G
  | x=>some (x,clip N (tu τ h),G)
def dw (fn:Func) (k:Nat):Code:=nth .skip (eO (aS fn)) k
abbrev NL (P:Program) (e:Ex) (f N:Nat) (w:Bool) (rs:List Nat) (fn:Func) (k:Nat) (lp:Env→GS→Option (Exit×Env×GS)) (τ:Env) (G:GS):Type:=Nf (mD P (oq P).1 e f w rs (k+1) (dw fn k) τ (wY rs τ) G (yT N lp))
def Bs (N k:Nat) (fn:Func):Bool:=Nat.beq fn.ntmps N&&qE N (dw fn k)&&Nat.blt k (eO (aS fn)).length
theorem PB {ae:FuncId→Bool} {f:FuncId} {N k:Nat} {w:Bool} {rs:List Nat} {fn:Func} {lp:Env→GS→Option (Exit×Env×GS)} {T:List Value} {G:GS} (hM:M=rP P) (h:cf P e (aC P ae)) (hf:P.funcs[f]? =some fn) (hT:T.length=N)
    (bJ:∀ τ G,Ref (lp τ G) (bZ ((aC P ae).lp (dw fn k) (aN N τ) G))) (ok:Bs N k fn=true) {hs:Hs} (h0:tu (nth undef T) hs=nth undef T:=by rfl):Ref (mD P M e f w rs (k+1) (dw fn k) (nth undef T) hs G (yT N lp)) (bZ ((aC P ae).lp (dw fn k) T G)):=by
  simp only [Bs,Bool.and_eq_true] at ok
  have hN:fn.ntmps=N:=Nat.eq_of_beq_eq_true ok.1.1
  have hk:k<(eO (aS fn)).length:=by have:=ok.2; simpa [Nat.blt_eq] using this
  have hc:(eO (aS fn))[k]? =some (dw fn k):=by
    unfold dw
    rw [jL,List.getD_eq_getElem?_getD,List.getElem?_eq_getElem hk]; rfl
  intro r hr
  refine yQ P ae (x:=fU P (aC P ae) N (dw fn k) (nth undef T) G _) G hT rfl ?_
  rw [show nth undef T=tu (nth undef T) hs from h0.symm]
  refine Pz hM h (by unfold nh; rw [hf]; exact hN) _ _ _ _ _ _ _ ok.1.2 (fun _ i b hi=>?_) (fun x τ h G=>?_) r hr
  · unfold my
    rw [hf]
    simp only [jL,List.getD_eq_getElem?_getD,XU hc hi,Option.getD_some]
  · cases x with
    | normal=>simp only [yT,iq,vo]; exact bJ _ _
    | _=>simp only [yT,iq,vo]; exact .rfl' _
theorem NL.ref {ae:FuncId→Bool} {f:FuncId} {N k:Nat} {w:Bool} {rs:List Nat} {fn:Func} {lp:Env→GS→Option (Exit×Env×GS)} {T:List Value} {G:GS} (x:NL P e f N w rs fn k lp (nth undef T) G) (h:cf P e (aC P ae)) (hf:P.funcs[f]? =some fn) (hT:T.length=N)
    (bJ:∀ τ G,Ref (lp τ G) (bZ ((aC P ae).lp (dw fn k) (aN N τ) G))) (ok:Bs N k fn=true:=by kernel_rfl):Ref x.y (bZ ((aC P ae).lp (dw fn k) T G)):=by
  rw [← x.h]; exact PB (oq P).2 h hf hT bJ ok (Io _ _)
end
end
end Go.Proofs.YtphandknhnkhfaaGreat.Gh
