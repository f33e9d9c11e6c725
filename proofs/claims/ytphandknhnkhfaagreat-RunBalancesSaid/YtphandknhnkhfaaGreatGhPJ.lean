import Derived.Test.YtphandknhnkhfaaGreatGhKO
namespace Go.Proofs.YtphandknhnkhfaaGreat.Gh
open Go
set_option linter.unusedVariables false
set_option linter.unusedSimpArgs false
noncomputable section
inductive JT (β:Type):Type where
  | e:JT β
  | n (h:Option (List Value→GS→Option β)) (l r:JT β):JT β
namespace JT
variable {β:Type}
def get:JT β→List Bool→Option (List Value→GS→Option β)
  | .e,_=>none
  | .n h l r,[]=>h
  | .n h l r,false::p=>l.get p
  | .n h l r,true::p=>r.get p
def wX (f:List Bool→List Bool):JT β→List (List Bool×(List Value→GS→Option β))
  | .e=>[]
  | .n h l r=>(match h with | some j=>[(f [],j)] | none=>[])++(l.wX (fun p=>f (false::p))++r.wX (fun p=>f (true::p)))
theorem Ic:∀ (t:JT β) (f:List Bool→List Bool) (p:List Bool) (j:List Value→GS→Option β),t.get p=some j→(f p,j)∈t.wX f
  | .e,f,p,j,h=>by cases p<;>cases h
  | .n h l r,f,[],j,hh=>by
    simp only [get] at hh
    subst hh
    simp [wX]
  | .n h l r,f,false::p,j,hh=>by
    have:=Ic l (fun p=>f (false::p)) p j hh
    simp only [wX,List.mem_append]
    exact .inr (.inl this)
  | .n h l r,f,true::p,j,hh=>by
    have:=Ic r (fun p=>f (true::p)) p j hh
    simp only [wX,List.mem_append]
    exact .inr (.inr this)
end JT
section
variable (P:Program) (E:Ev)
def DT {β:Type} (N:Nat) (h:Option (List Value→GS→Option β)) (k:Env→GS→Option β):Env→GS→Option β:=match h with
  | some j=>fun τ G=>j (aN N τ) G
  | none=>k
def mB {β:Type} (N:Nat):JT β→Code→Env→GS→(Exit→Env→GS→Option β)→Option β
  | .n h l r,.seq a b,τ,G,K=>mB N l a τ G (iq (DT N h fun τ G=>mB N r b τ G K) K)
  | .n h l r,.cond x a b,τ,G,K=>if dm x then cD (iX τ x) (mB N l a τ G K) (mB N r b τ G K) else none
  | .n h l r,.block id b,τ,G,K=>mB N l b τ G (wQ id K)
  | _,c,τ,G,K=>fU P E N c τ G K
def qD {β:Type} (N:Nat):JT β→Code→(Exit→Env→GS→Option β)→List Bool→Env→GS→Option β
  | .n h l r,.seq a b,K,[],τ,G=>mB P E N r b τ G K
  | .n h l r,.seq a b,K,false::p,τ,G=>qD N l a (iq (DT N h fun τ G=>mB P E N r b τ G K) K) p τ G
  | .n h l r,.seq a b,K,true::p,τ,G=>qD N r b K p τ G
  | .n h l r,.cond x a b,K,false::p,τ,G=>qD N l a K p τ G
  | .n h l r,.cond x a b,K,true::p,τ,G=>qD N r b K p τ G
  | .n h l r,.block id b,K,false::p,τ,G=>qD N l b (wQ id K) p τ G
  | _,_,_,_,_,_=>none
end
section
variable (P:Program) (ae:FuncId→Bool)
def px {β:Type} (N:Nat) (t:JT β) (c:Code) (K:Exit→Env→GS→Option β):Prop :=
  ∀ p j,t.get p=some j→∀ (T:List Value) (G:GS),T.length=N→qD P (aC P ae) N t c K p (nth undef T) G=j T G
theorem Ie {β:Type} {N:Nat} {c:Code} {T:List Value} {G:GS} {K:Exit→Env→GS→Option β} {r:β} (hT:T.length=N) (h:fU P (aC P ae) N c (nth undef T) G K=some r) :
    bX ((aC P ae).ex c T G) (fun e T' G'=>K e (nth undef T') G')=some r:=by
  rw [Dy P (aC P ae) (tI P ae) _ _ _ _ hT] at h
  exact Dv P ae _ _ _ _ _ hT h
theorem Pq {β:Type} {N:Nat}:∀ (t:JT β) (c:Code) (T:List Value) (G:GS) (K:Exit→Env→GS→Option β) (r:β),T.length=N→px P ae N t c K→mB P (aC P ae) N t c (nth undef T) G K=some r →
    bX ((aC P ae).ex c T G) (fun e T' G'=>K e (nth undef T') G')=some r:=by
  intro t
  induction t with
  | e=>intro c T G K r hT hJ h; exact Ie P ae hT (by cases c<;>exact h)
  | n hd l rt Ig Ih =>
    intro c T G K r hT hJ h
    cases c with
    | seq a b =>
      have Bm:px P ae N l a (iq (DT N hd fun τ G=>mB P (aC P ae) N rt b τ G K) K):=fun p j hj=>hJ (false::p) j hj
      have DU:px P ae N rt b K:=fun p j hj=>hJ (true::p) j hj
      have h1:=Ig a T G _ r hT Bm h
      rw [fL]
      show bX (yo (aC P ae) b ((aC P ae).ex a T G)) _=some r
      rcases hx:(aC P ae).ex a T G with _ | ⟨e,T',G'⟩
      · rw [hx] at h1; exact h1
      · rw [hx] at h1
        have hl:=((tI P ae).ex _ _ _ _ _ _ hx).trans hT
        cases e with
        | normal =>
          simp only [kN,iq] at h1
          show bX ((aC P ae).ex b T' G') _=some r
          cases hd with
          | none=>exact Ih b T' G' K r hl DU h1
          | some j =>
            simp only [DT,yE hl] at h1
            have h2:=hJ [] j rfl T' G' hl
            exact Ih b T' G' K r hl DU (h2.trans h1)
        | _=>exact h1
    | cond x a b =>
      have Bm:px P ae N l a K:=fun p j hj=>hJ (false::p) j hj
      have DU:px P ae N rt b K:=fun p j hj=>hJ (true::p) j hj
      rw [fL]
      simp only [mB,yD] at h
      show bX (if dm x then rK (aC P ae) (ev T x) a b T G else none) _=some r
      by_cases ho:dm x=true
      · rw [if_pos ho] at h ⊢
        unfold cD at h
        unfold rK
        split at h
        · rename_i hv
          simp only [hv]
          exact Ig a T G K r hT Bm h
        · rename_i hv
          simp only [hv]
          exact Ih b T G K r hT DU h
        · cases h
      · rw [if_neg ho] at h; cases h
    | block id b =>
      have Bm:px P ae N l b (wQ id K):=fun p j hj=>hJ (false::p) j hj
      have h1:=Ig b T G _ r hT Bm h
      rw [fL]
      show bX (rL id ((aC P ae).ex b T G)) _=some r
      rcases hx:(aC P ae).ex b T G with _ | ⟨e,T',G'⟩
      · rw [hx] at h1; exact h1
      · rw [hx] at h1
        simp only [kN] at h1
        cases e with
        | exit i =>
          simp only [wQ] at h1
          unfold rL
          by_cases hi:i=id
          · subst hi
            simp only [Nat.beq_refl,cond_true] at h1
            simpa using h1
          · have:Nat.beq i id=false:=by
              cases hb:Nat.beq i id
              · rfl
              · exact absurd (Nat.eq_of_beq_eq_true hb) hi
            rw [this] at h1
            simp only [cond_false] at h1
            simpa [hi] using h1
        | _=>exact h1
    | _=>exact Ie P ae hT h
def j8 {α:Type} (R:α→Prop):List α→Prop
  | []=>True
  | x::l=>R x∧j8 R l
theorem j8.mem {α:Type} {R:α→Prop}:∀ {l:List α},j8 R l→∀ x∈l,R x
  | [],_,x,h=>by simp at h
  | y::l,h,x,hx=>by
    rcases List.mem_cons.1 hx with rfl | hx
    · exact h.1
    · exact j8.mem h.2 x hx
theorem Ii {β:Type} {N:Nat} {t:JT β} {c:Code} {K:Exit→Env→GS→Option β} {l:List (List Bool×(List Value→GS→Option β))} (he:t.wX (fun p=>p)=l)
    (h:j8 (fun x=>∀ (T:List Value) (G:GS),qD P (aC P ae) N t c K x.1 (nth undef T) G=x.2 T G) l):px P ae N t c K:=fun p j hj T G _=>by
  have:=JT.Ic t (fun p=>p) p j hj
  rw [he] at this
  exact j8.mem h _ this T G
theorem j8.z {α:Type} {R:α→Prop}:j8 R ([]:List α):=trivial
theorem j8.c {α:Type} {R:α→Prop} {x:α} {l:List α} (h:R x) (k:j8 R l):j8 R (x::l):=⟨h,k⟩
theorem XQ {f:FuncId} {fn:Func} {vs:List Value} (G:GS) (t:JT (Value×GS)) (hf:P.funcs[f]? =some fn) (hn:(fn.name == "runtime.NumGoroutine")=false) (hb:fn.body.isSome=true) (ho:(vs.isEmpty&&ae f)=false) (hp:po P ae f=false) (hl:Nat.ble vs.length fn.ntmps=true)
    (hJ:px P ae fn.ntmps t (aS fn) (qy P fn.results.toList))
    {x:Option (Value×GS)} {r:Value×GS} (hx:mB P (aC P ae) fn.ntmps t (aS fn) (nth undef vs) G (qy P fn.results.toList)=x) (h:x=some r):(aC P ae).cl f vs G=some r:=by
  have hlen:(vs++List.replicate (fn.ntmps - vs.length) undef).length=fn.ntmps:=Oz hl
  have h0:=hx.trans h
  rw [← Oy vs (fn.ntmps - vs.length)] at h0
  have h1:=Pq P ae t _ _ _ _ _ hlen hJ h0
  rw [Om P ae G hf hn hb ho hp hl,rO P ae _ _ _ _ hlen]
  simpa only [OA] using h1
theorem Pr {b:Code} {N:Nat} {T:List Value} (G:GS) (t:JT (Exit×Env×GS)) (h:T.length=N)
    (hJ:px P ae N t b (iq (fun τ G'=>bZ ((aC P ae).lp b (aN N (nth undef (aN N τ))) G')) fun e τ G'=>some (e,nth undef (aN N τ),G')))
    {x:Option (Exit×Env×GS)} {r:Exit×Env×GS}
    (hx:mB P (aC P ae) N t b (nth undef T) G (iq (fun τ G'=>bZ ((aC P ae).lp b (aN N (nth undef (aN N τ))) G')) fun e τ G'=>some (e,nth undef (aN N τ),G'))=x) (hr:x=some r):bZ ((aC P ae).lp b T G)=some r:=by
  have h1:=Pq P ae t _ _ _ _ _ h hJ (hx.trans hr)
  rw [On P ae G h,oh h,rO P ae _ _ _ _ h]
  rcases hy:(aC P ae).ex b T G with _ | ⟨e,T',G'⟩
  · rw [hy] at h1; cases h1
  · rw [hy] at h1
    have hl:=((tI P ae).ex _ _ _ _ _ _ hy).trans h
    cases e<;>simp only [kN,vf,iq,yE hl] at h1 ⊢<;>exact h1
theorem yQ {b:Code} {N:Nat} {T:List Value} (G:GS) (h:T.length=N)
    {x:Option (Exit×Env×GS)} {r:Exit×Env×GS}
    (hx:fU P (aC P ae) N b (nth undef T) G (iq (fun τ G'=>bZ ((aC P ae).lp b (aN N (nth undef (aN N τ))) G')) fun e τ G'=>some (e,nth undef (aN N τ),G'))=x) (hr:x=some r):bZ ((aC P ae).lp b T G)=some r:=by
  have h1:=Ie P ae h (hx.trans hr)
  rw [On P ae G h,oh h,rO P ae _ _ _ _ h]
  rcases hy:(aC P ae).ex b T G with _ | ⟨e,T',G'⟩
  · rw [hy] at h1; cases h1
  · rw [hy] at h1
    have hl:=((tI P ae).ex _ _ _ _ _ _ hy).trans h
    cases e<;>simp only [kN,vf,iq,yE hl] at h1 ⊢<;>exact h1
end
def up (N:Nat) (τ:Env) (l:List (Nat×Value)):Env:=List.rec (motive:=fun _=>Env) τ (fun p _ ih=>wI N ih p.1 p.2) l
theorem Ps (N:Nat) (τ:Env) {j:Nat} (hj:j<N):∀ l:List (Nat×Value),up N τ l j=look l j (τ j)
  | []=>rfl
  | p::l=>by
    show wI N (up N τ l) p.1 p.2 j=(bif Nat.beq j p.1 then p.2 else look l j (τ j))
    unfold wI
    by_cases h:j=p.1
    · subst h
      have:Nat.blt p.1 N=true:=by simpa [Nat.blt_eq] using hj
      simp [this]
    · have:Nat.beq j p.1=false:=by
        cases hb:Nat.beq j p.1
        · rfl
        · exact absurd (Nat.eq_of_beq_eq_true hb) h
      simp only [this,cond_false]
      exact Ps N τ hj l
theorem Ij (N:Nat) (τ:Env) (l:List (Nat×Value)):aN N (up N τ l)=aN N (tu τ l):=by
  unfold aN
  refine List.map_congr_left fun j hj=>?_
  exact Ps N τ (List.mem_range.1 hj) l
def gI (τ:Env):List (Nat×Value)→Prop
  | []=>True
  | p::l=>p.2=τ p.1∧gI τ l
theorem gI.z {τ:Env}:gI τ []:=trivial
theorem gI.c {τ:Env} {i:Nat} {v:Value} {l:List (Nat×Value)} (h:v=τ i) (k:gI τ l):gI τ ((i,v)::l):=⟨h,k⟩
theorem gI.tu {τ:Env}:∀ {U:List (Nat×Value)},gI τ U→Gh.tu τ U=τ
  | [],_=>rfl
  | p::l,h=>by
    have:=gI.tu h.2
    funext j
    show (bif Nat.beq j p.1 then p.2 else look l j (τ j))=τ j
    have e:=congrFun this j
    by_cases hj:j=p.1
    · subst hj; simp [h.1]
    · have:Nat.beq j p.1=false:=by
        cases hb:Nat.beq j p.1
        · rfl
        · exact absurd (Nat.eq_of_beq_eq_true hb) hj
      rw [this]; exact e
def xq (q:Bool) (N:Nat) (τ:Env) (h U:List (Nat×Value)):Env:=bif q then clip N (tu (tu τ U) h) else nth undef (aN N (up N τ h))
def rR (q:Bool) (N:Nat) (τ:Env) (h:List (Nat×Value)):List Value:=bif q then aN N (tu τ h) else aN N (up N τ h)
@[simp] theorem afS (N:Nat) (τ:Env) (h U:List (Nat×Value)):xq true N τ h U=clip N (tu (tu τ U) h):=Eq.trans rfl rfl
@[simp] theorem afT (N:Nat) (τ:Env) (h:List (Nat×Value)):rR true N τ h=aN N (tu τ h):=Eq.trans rfl rfl
theorem yR {N:Nat} {τ:Env} {h U:List (Nat×Value)} (hU:gI τ U):xq false N τ h U=xq true N τ h U:=by
  show nth undef (aN N (up N τ h))=clip N (tu (tu τ U) h)
  rw [Ij,vo,hU.tu]
theorem Pt {N:Nat} {τ:Env} {h:List (Nat×Value)}:rR false N τ h=rR true N τ h:=Ij N τ h
def kP {β:Type} (q:Bool) (e:Ex) (f k:Nat) (c:Code) (N:Nat) (τ:Env) (h U:List (Nat×Value)) (G:GS) (K:Exit→Env→GS→Option β):Option β :=
  bif q then bE (e.du f k (tu (tu τ U) h) G) K else bX (e.ev.lp c (aN N (up N τ h)) G) fun x T G=>K x (nth undef T) G
@[simp] theorem afU {β:Type} (e:Ex) (f k:Nat) (c:Code) (N:Nat) (τ:Env) (h U:List (Nat×Value)) (G:GS) (K:Exit→Env→GS→Option β):kP true e f k c N τ h U G K=bE (e.du f k (tu (tu τ U) h) G) K:=Eq.trans rfl rfl
theorem Ref.DV {β:Type} {v:Value} {K K':Value→Option β} (hK:∀ x,x=v→Ref (K x) (K' x)):Ref (Gh.bV true v K) (Gh.bV false v K'):=by
  simp only [XH]; exact hK v rfl
theorem Ref.kP {β:Type} {P:Program} {f k:Nat} {c:Code} {N:Nat} [i:fM P f k c N] {e:Ex} {E:Ev} (h:cf P e E) {τ:Env} {l U:List (Nat×Value)} {G:GS} {K K':Exit→Env→GS→Option β} (hU:gI τ U) (hK:∀ x τ G,Ref (K x τ G) (K' x τ G)) :
    Ref (Gh.kP true e f k c N τ l U G K) (Gh.kP false (Ex.of E) f k c N τ l U G K'):=by
  have h1:=Ref.bL (i:=i) (τ:=Gh.tu (Gh.tu τ U) l) (G:=G) h hK
  show Ref (bE (e.du f k (Gh.tu (Gh.tu τ U) l) G) K) (Gh.bX (E.lp c (aN N (up N τ l)) G) fun x T G=>K' x (nth undef T) G)
  rw [Ij]
  rw [hU.tu] at h1 ⊢
  exact h1
theorem jr.rx {lp cN:Env→GS→Option (Exit×Env×GS)} (hl:jr lp cN) {N:Nat} {τ:Env} {h U:List (Nat×Value)} {G:GS} (hU:gI τ U):Ref (lp (xq true N τ h U) G) (cN (xq false N τ h U) G):=by
  rw [yR hU]; exact hl.r _ _
theorem Ref.DW {N:Nat} {x:Exit} {τ:Env} {h U:List (Nat×Value)} {G:GS} (hU:gI τ U):Ref (some (x,xq true N τ h U,G)) (some (x,xq false N τ h U,G)):=by
  rw [yR hU]; exact .rfl' _
theorem Ref.DX {P:Program} {e:Ex} {E:Ev} (h:cf P e E) {v:Value} {ps:Array Nat} {a b:Code} {N:Nat} {τ:Env} {l:List (Nat×Value)} {G:GS}:Ref (Gh.gW e.ev v ps a b (rR true N τ l) G) (Gh.gW (Ex.of E).ev v ps a b (rR false N τ l) G):=by
  rw [Pt]; exact Ref.gW h
theorem Ref.DY {P:Program} {e:Ex} {E:Ev} (h:cf P e E) {b c:Code} {N:Nat} {τ:Env} {l:List (Nat×Value)} {G:GS}:Ref (e.ev.sc b c (rR true N τ l) G) ((Ex.of E).ev.sc b c (rR false N τ l) G):=by
  rw [Pt]; exact Ref.sc h
theorem Ref.gq {α:Type} {x y:Option α} (t:Ref x y:=by repeat' (with_reducible first | exact Ref.rfl' _ | exact eE.r | refine Ref.bP ?_ fun _=>?_ | refine Ref.bS ?_ fun _ _=>?_ | exact Ref.cl (by assumption) | refine Ref.cD ?_ ?_ | refine jr.rx (by assumption) ?_ | refine Ref.DW ?_ | exact gI.z | refine gI.c (by assumption) ?_ | exact Ref.nil _ | refine Ref.DV fun _ _=>?_ | refine Ref.kP (by assumption) ?_ fun _ _ _=>?_ | refine Ref.dt ?_ ?_ | refine Ref.gp ?_ ?_ | refine fx.and ?_ ?_ | refine fx.or ?_ | exact fx.rfl' _ | refine fx.br ?_ | refine Ref.gd ?_ | exact Ref.dO (by assumption) | refine Ref.bX ?_ fun _ _ _=>?_ | exact Ref.DY (by assumption) | exact Ref.DX (by assumption) | exact Ref.dS (by assumption))):Ref x y:=t
end
end Go.Proofs.YtphandknhnkhfaaGreat.Gh
