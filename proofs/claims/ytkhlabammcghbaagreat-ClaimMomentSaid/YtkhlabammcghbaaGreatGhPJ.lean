import Derived.Test.YtkhlabammcghbaaGreatGhKO
namespace Go.Proofs.YtkhlabammcghbaaGreat.Gh
open Go
set_option linter.unusedVariables false
set_option linter.unusedSimpArgs false
noncomputable section
inductive JT (β:Type):Type where
  | e:JT β
  | n (h:Option (List Value→GS→Option β)) (l r:JT β):JT β
namespace JT
variable {β:Type}
def get:JT β→List Bool→Option (List Value→GS→Option β)
  | .e,_=>none
  | .n h l r,[]=>h
  | .n h l r,false::p=>l.get p
  | .n h l r,true::p=>r.get p
def xm (f:List Bool→List Bool):JT β→List (List Bool×(List Value→GS→Option β))
  | .e=>[]
  | .n h l r=>(match h with | some j=>[(f [],j)] | none=>[])++(l.xm (fun p=>f (false::p))++r.xm (fun p=>f (true::p)))
theorem Jl:∀ (t:JT β) (f:List Bool→List Bool) (p:List Bool) (j:List Value→GS→Option β),t.get p=some j→(f p,j)∈t.xm f
  | .e,f,p,j,h=>by cases p<;>cases h
  | .n h l r,f,[],j,hh=>by
    simp only [get] at hh
    subst hh
    simp [xm]
  | .n h l r,f,false::p,j,hh=>by
    have:=Jl l (fun p=>f (false::p)) p j hh
    simp only [xm,List.mem_append]
    exact .inr (.inl this)
  | .n h l r,f,true::p,j,hh=>by
    have:=Jl r (fun p=>f (true::p)) p j hh
    simp only [xm,List.mem_append]
    exact .inr (.inr this)
end JT
section
variable (P:Program) (E:Ev)
def EF {β:Type} (N:Nat) (h:Option (List Value→GS→Option β)) (k:Env→GS→Option β):Env→GS→Option β:=match h with
  | some j=>fun τ G=>j (aG N τ) G
  | none=>k
def jI {β:Type} (N:Nat):JT β→Code→Env→GS→(Exit→Env→GS→Option β)→Option β
  | .n h l r,.seq a b,τ,G,K=>jI N l a τ G (fU (EF N h fun τ G=>jI N r b τ G K) K)
  | .n h l r,.cond x a b,τ,G,K=>if db x then bl (iN τ x) (jI N l a τ G K) (jI N r b τ G K) else none
  | .n h l r,.block id b,τ,G,K=>jI N l b τ G (xe id K)
  | _,c,τ,G,K=>fM P E N c τ G K
def mh {β:Type} (N:Nat):JT β→Code→(Exit→Env→GS→Option β)→List Bool→Env→GS→Option β
  | .n h l r,.seq a b,K,[],τ,G=>jI P E N r b τ G K
  | .n h l r,.seq a b,K,false::p,τ,G=>mh N l a (fU (EF N h fun τ G=>jI P E N r b τ G K) K) p τ G
  | .n h l r,.seq a b,K,true::p,τ,G=>mh N r b K p τ G
  | .n h l r,.cond x a b,K,false::p,τ,G=>mh N l a K p τ G
  | .n h l r,.cond x a b,K,true::p,τ,G=>mh N r b K p τ G
  | .n h l r,.block id b,K,false::p,τ,G=>mh N l b (xe id K) p τ G
  | _,_,_,_,_,_=>none
end
section
variable (P:Program) (ae:FuncId→Bool)
def mj {β:Type} (N:Nat) (t:JT β) (c:Code) (K:Exit→Env→GS→Option β):Prop :=
  ∀ p j,t.get p=some j→∀ (T:List Value) (G:GS),T.length=N→mh P (aD P ae) N t c K p (nth undef T) G=j T G
theorem Jm {β:Type} {N:Nat} {c:Code} {T:List Value} {G:GS} {K:Exit→Env→GS→Option β} {r:β} (hT:T.length=N) (h:fM P (aD P ae) N c (nth undef T) G K=some r) :
    bX ((aD P ae).ex c T G) (fun e T' G'=>K e (nth undef T') G')=some r:=by
  rw [En P (aD P ae) (tJ P ae) _ _ _ _ hT] at h
  exact Ek P ae _ _ _ _ _ hT h
theorem QP {β:Type} {N:Nat}:∀ (t:JT β) (c:Code) (T:List Value) (G:GS) (K:Exit→Env→GS→Option β) (r:β),T.length=N→mj P ae N t c K→jI P (aD P ae) N t c (nth undef T) G K=some r →
    bX ((aD P ae).ex c T G) (fun e T' G'=>K e (nth undef T') G')=some r:=by
  intro t
  induction t with
  | e=>intro c T G K r hT hJ h; exact Jm P ae hT (by cases c<;>exact h)
  | n hd l rt Jn Jo =>
    intro c T G K r hT hJ h
    cases c with
    | seq a b =>
      have BW:mj P ae N l a (fU (EF N hd fun τ G=>jI P (aD P ae) N rt b τ G K) K):=fun p j hj=>hJ (false::p) j hj
      have EG:mj P ae N rt b K:=fun p j hj=>hJ (true::p) j hj
      have h1:=Jn a T G _ r hT BW h
      rw [fw]
      show bX (yR (aD P ae) b ((aD P ae).ex a T G)) _=some r
      rcases hx:(aD P ae).ex a T G with _ | ⟨e,T',G'⟩
      · rw [hx] at h1; exact h1
      · rw [hx] at h1
        have hl:=((tJ P ae).ex _ _ _ _ _ _ hx).trans hT
        cases e with
        | normal =>
          simp only [j7,fU] at h1
          show bX ((aD P ae).ex b T' G') _=some r
          cases hd with
          | none=>exact Jo b T' G' K r hl EG h1
          | some j =>
            simp only [EF,zb hl] at h1
            have h2:=hJ [] j rfl T' G' hl
            exact Jo b T' G' K r hl EG (h2.trans h1)
        | _=>exact h1
    | cond x a b =>
      have BW:mj P ae N l a K:=fun p j hj=>hJ (false::p) j hj
      have EG:mj P ae N rt b K:=fun p j hj=>hJ (true::p) j hj
      rw [fw]
      simp only [jI,za] at h
      show bX (if db x then rV (aD P ae) (ev T x) a b T G else none) _=some r
      by_cases ho:db x=true
      · rw [if_pos ho] at h ⊢
        unfold bl at h
        unfold rV
        split at h
        · rename_i hv
          simp only [hv]
          exact Jn a T G K r hT BW h
        · rename_i hv
          simp only [hv]
          exact Jo b T G K r hT EG h
        · cases h
      · rw [if_neg ho] at h; cases h
    | block id b =>
      have BW:mj P ae N l b (xe id K):=fun p j hj=>hJ (false::p) j hj
      have h1:=Jn b T G _ r hT BW h
      rw [fw]
      show bX (rW id ((aD P ae).ex b T G)) _=some r
      rcases hx:(aD P ae).ex b T G with _ | ⟨e,T',G'⟩
      · rw [hx] at h1; exact h1
      · rw [hx] at h1
        simp only [j7] at h1
        cases e with
        | exit i =>
          simp only [xe] at h1
          unfold rW
          by_cases hi:i=id
          · subst hi
            simp only [Nat.beq_refl,cond_true] at h1
            simpa using h1
          · have:Nat.beq i id=false:=by
              cases hb:Nat.beq i id
              · rfl
              · exact absurd (Nat.eq_of_beq_eq_true hb) hi
            rw [this] at h1
            simp only [cond_false] at h1
            simpa [hi] using h1
        | _=>exact h1
    | _=>exact Jm P ae hT h
def gi {α:Type} (R:α→Prop):List α→Prop
  | []=>True
  | x::l=>R x∧gi R l
theorem gi.mem {α:Type} {R:α→Prop}:∀ {l:List α},gi R l→∀ x∈l,R x
  | [],_,x,h=>by simp at h
  | y::l,h,x,hx=>by
    rcases List.mem_cons.1 hx with rfl | hx
    · exact h.1
    · exact gi.mem h.2 x hx
theorem zr {β:Type} {N:Nat} {t:JT β} {c:Code} {K:Exit→Env→GS→Option β} {l:List (List Bool×(List Value→GS→Option β))} (he:t.xm (fun p=>p)=l)
    (h:gi (fun x=>∀ (T:List Value) (G:GS),mh P (aD P ae) N t c K x.1 (nth undef T) G=x.2 T G) l):mj P ae N t c K:=fun p j hj T G _=>by
  have:=JT.Jl t (fun p=>p) p j hj
  rw [he] at this
  exact gi.mem h _ this T G
theorem gi.z {α:Type} {R:α→Prop}:gi R ([]:List α):=trivial
theorem gi.c {α:Type} {R:α→Prop} {x:α} {l:List α} (h:R x) (k:gi R l):gi R (x::l):=⟨h,k⟩
theorem Jp {f:FuncId} {fn:Func} {vs:List Value} (G:GS) (t:JT (Value×GS)) (hf:P.funcs[f]? =some fn) (hn:(fn.name == "runtime.NumGoroutine")=false) (hb:fn.body.isSome=true) (ho:(vs.isEmpty&&ae f)=false) (hp:py P ae f=false) (hl:Nat.ble vs.length fn.ntmps=true)
    (hJ:mj P ae fn.ntmps t (aL fn) (j8 P fn.results.toList))
    {x:Option (Value×GS)} {r:Value×GS} (hx:jI P (aD P ae) fn.ntmps t (aL fn) (nth undef vs) G (j8 P fn.results.toList)=x) (h:x=some r):(aD P ae).cl f vs G=some r:=by
  have hlen:(vs++List.replicate (fn.ntmps - vs.length) undef).length=fn.ntmps:=P7 hl
  have h0:=hx.trans h
  rw [← P6 vs (fn.ntmps - vs.length)] at h0
  have h1:=QP P ae t _ _ _ _ _ hlen hJ h0
  rw [PU P ae G hf hn hb ho hp hl,rZ P ae _ _ _ _ hlen]
  simpa only [P8] using h1
theorem Jq {b:Code} {N:Nat} {T:List Value} (G:GS) (t:JT (Exit×Env×GS)) (h:T.length=N)
    (hJ:mj P ae N t b (fU (fun τ G'=>bc ((aD P ae).lp b (aG N (nth undef (aG N τ))) G')) fun e τ G'=>some (e,nth undef (aG N τ),G')))
    {x:Option (Exit×Env×GS)} {r:Exit×Env×GS}
    (hx:jI P (aD P ae) N t b (nth undef T) G (fU (fun τ G'=>bc ((aD P ae).lp b (aG N (nth undef (aG N τ))) G')) fun e τ G'=>some (e,nth undef (aG N τ),G'))=x) (hr:x=some r):bc ((aD P ae).lp b T G)=some r:=by
  have h1:=QP P ae t _ _ _ _ _ h hJ (hx.trans hr)
  rw [PV P ae G h,oh h,rZ P ae _ _ _ _ h]
  rcases hy:(aD P ae).ex b T G with _ | ⟨e,T',G'⟩
  · rw [hy] at h1; cases h1
  · rw [hy] at h1
    have hl:=((tJ P ae).ex _ _ _ _ _ _ hy).trans h
    cases e<;>simp only [j7,vr,fU,zb hl] at h1 ⊢<;>exact h1
theorem EH {b:Code} {N:Nat} {T:List Value} (G:GS) (h:T.length=N)
    {x:Option (Exit×Env×GS)} {r:Exit×Env×GS}
    (hx:fM P (aD P ae) N b (nth undef T) G (fU (fun τ G'=>bc ((aD P ae).lp b (aG N (nth undef (aG N τ))) G')) fun e τ G'=>some (e,nth undef (aG N τ),G'))=x) (hr:x=some r):bc ((aD P ae).lp b T G)=some r:=by
  have h1:=Jm P ae h (hx.trans hr)
  rw [PV P ae G h,oh h,rZ P ae _ _ _ _ h]
  rcases hy:(aD P ae).ex b T G with _ | ⟨e,T',G'⟩
  · rw [hy] at h1; cases h1
  · rw [hy] at h1
    have hl:=((tJ P ae).ex _ _ _ _ _ _ hy).trans h
    cases e<;>simp only [j7,vr,fU,zb hl] at h1 ⊢<;>exact h1
end
def up (N:Nat) (τ:Env) (l:List (Nat×Value)):Env:=List.rec (motive:=fun _=>Env) τ (fun p _ ih=>wS N ih p.1 p.2) l
theorem QQ (N:Nat) (τ:Env) {j:Nat} (hj:j<N):∀ l:List (Nat×Value),up N τ l j=look l j (τ j)
  | []=>rfl
  | p::l=>by
    show wS N (up N τ l) p.1 p.2 j=(bif Nat.beq j p.1 then p.2 else look l j (τ j))
    unfold wS
    by_cases h:j=p.1
    · subst h
      have:Nat.blt p.1 N=true:=by simpa [Nat.blt_eq] using hj
      simp [this]
    · have:Nat.beq j p.1=false:=by
        cases hb:Nat.beq j p.1
        · rfl
        · exact absurd (Nat.eq_of_beq_eq_true hb) h
      simp only [this,cond_false]
      exact QQ N τ hj l
theorem Jr (N:Nat) (τ:Env) (l:List (Nat×Value)):aG N (up N τ l)=aG N (tu τ l):=by
  unfold aG
  refine List.map_congr_left fun j hj=>?_
  exact QQ N τ (List.mem_range.1 hj) l
def eO (τ:Env):List (Nat×Value)→Prop
  | []=>True
  | p::l=>p.2=τ p.1∧eO τ l
theorem eO.z {τ:Env}:eO τ []:=trivial
theorem eO.c {τ:Env} {i:Nat} {v:Value} {l:List (Nat×Value)} (h:v=τ i) (k:eO τ l):eO τ ((i,v)::l):=⟨h,k⟩
theorem eO.tu {τ:Env}:∀ {U:List (Nat×Value)},eO τ U→Gh.tu τ U=τ
  | [],_=>rfl
  | p::l,h=>by
    have:=eO.tu h.2
    funext j
    show (bif Nat.beq j p.1 then p.2 else look l j (τ j))=τ j
    have e:=congrFun this j
    by_cases hj:j=p.1
    · subst hj; simp [h.1]
    · have:Nat.beq j p.1=false:=by
        cases hb:Nat.beq j p.1
        · rfl
        · exact absurd (Nat.eq_of_beq_eq_true hb) hj
      rw [this]; exact e
def xq (q:Bool) (N:Nat) (τ:Env) (h U:List (Nat×Value)):Env:=bif q then clip N (tu (tu τ U) h) else nth undef (aG N (up N τ h))
def sd (q:Bool) (N:Nat) (τ:Env) (h:List (Nat×Value)):List Value:=bif q then aG N (tu τ h) else aG N (up N τ h)
@[simp] theorem agP (N:Nat) (τ:Env) (h U:List (Nat×Value)):xq true N τ h U=clip N (tu (tu τ U) h):=Eq.trans rfl rfl
@[simp] theorem agQ (N:Nat) (τ:Env) (h:List (Nat×Value)):sd true N τ h=aG N (tu τ h):=Eq.trans rfl rfl
theorem se {N:Nat} {τ:Env} {h U:List (Nat×Value)} (hU:eO τ U):xq false N τ h U=xq true N τ h U:=by
  show nth undef (aG N (up N τ h))=clip N (tu (tu τ U) h)
  rw [Jr,pE,hU.tu]
theorem QR {N:Nat} {τ:Env} {h:List (Nat×Value)}:sd false N τ h=sd true N τ h:=Jr N τ h
def ml {β:Type} (q:Bool) (e:Ex) (f k:Nat) (c:Code) (N:Nat) (τ:Env) (h U:List (Nat×Value)) (G:GS) (K:Exit→Env→GS→Option β):Option β :=
  bif q then bE (e.dj f k (tu (tu τ U) h) G) K else bX (e.ev.lp c (aG N (up N τ h)) G) fun x T G=>K x (nth undef T) G
@[simp] theorem agR {β:Type} (e:Ex) (f k:Nat) (c:Code) (N:Nat) (τ:Env) (h U:List (Nat×Value)) (G:GS) (K:Exit→Env→GS→Option β):ml true e f k c N τ h U G K=bE (e.dj f k (tu (tu τ U) h) G) K:=Eq.trans rfl rfl
theorem Ref.BX {β:Type} {v:Value} {K K':Value→Option β} (hK:∀ x,x=v→Ref (K x) (K' x)):Ref (Gh.bV true v K) (Gh.bV false v K'):=by
  simp only [YP]; exact hK v rfl
theorem Ref.ml {β:Type} {P:Program} {f k:Nat} {c:Code} {N:Nat} [i:fx P f k c N] {e:Ex} {E:Ev} (h:bm P e E) {τ:Env} {l U:List (Nat×Value)} {G:GS} {K K':Exit→Env→GS→Option β} (hU:eO τ U) (hK:∀ x τ G,Ref (K x τ G) (K' x τ G)) :
    Ref (Gh.ml true e f k c N τ l U G K) (Gh.ml false (Ex.of E) f k c N τ l U G K'):=by
  have h1:=Ref.bL (i:=i) (τ:=Gh.tu (Gh.tu τ U) l) (G:=G) h hK
  show Ref (bE (e.dj f k (Gh.tu (Gh.tu τ U) l) G) K) (Gh.bX (E.lp c (aG N (up N τ l)) G) fun x T G=>K' x (nth undef T) G)
  rw [Jr]
  rw [hU.tu] at h1 ⊢
  exact h1
theorem g0.rx {lp bO:Env→GS→Option (Exit×Env×GS)} (hl:g0 lp bO) {N:Nat} {τ:Env} {h U:List (Nat×Value)} {G:GS} (hU:eO τ U):Ref (lp (xq true N τ h U) G) (bO (xq false N τ h U) G):=by
  rw [se hU]; exact hl.r _ _
theorem Ref.BZ {N:Nat} {x:Exit} {τ:Env} {h U:List (Nat×Value)} {G:GS} (hU:eO τ U):Ref (some (x,xq true N τ h U,G)) (some (x,xq false N τ h U,G)):=by
  rw [se hU]; exact .rfl' _
theorem Ref.B0 {P:Program} {e:Ex} {E:Ev} (h:bm P e E) {v:Value} {ps:Array Nat} {a b:Code} {N:Nat} {τ:Env} {l:List (Nat×Value)} {G:GS}:Ref (Gh.gE e.ev v ps a b (sd true N τ l) G) (Gh.gE (Ex.of E).ev v ps a b (sd false N τ l) G):=by
  rw [QR]; exact Ref.gE h
theorem Ref.B3 {P:Program} {e:Ex} {E:Ev} (h:bm P e E) {b c:Code} {N:Nat} {τ:Env} {l:List (Nat×Value)} {G:GS}:Ref (e.ev.sc b c (sd true N τ l) G) ((Ex.of E).ev.sc b c (sd false N τ l) G):=by
  rw [QR]; exact Ref.sc h
theorem Ref.gq {α:Type} {x y:Option α} (t:Ref x y:=by repeat' (with_reducible first | exact Ref.rfl' _ | exact dV.r | refine Ref.bP ?_ fun _=>?_ | refine Ref.bS ?_ fun _ _=>?_ | exact Ref.cl (by assumption) | refine Ref.bl ?_ ?_ | refine g0.rx (by assumption) ?_ | refine Ref.BZ ?_ | exact eO.z | refine eO.c (by assumption) ?_ | exact Ref.nil _ | refine Ref.BX fun _ _=>?_ | refine Ref.ml (by assumption) ?_ fun _ _ _=>?_ | refine Ref.dP ?_ ?_ | refine Ref.eV ?_ ?_ | refine eA.and ?_ ?_ | refine eA.or ?_ | exact eA.rfl' _ | refine eA.bp ?_ | refine Ref.gd ?_ | exact Ref.fJ (by assumption) | refine Ref.bX ?_ fun _ _ _=>?_ | exact Ref.B3 (by assumption) | exact Ref.B0 (by assumption) | exact Ref.jF (by assumption))):Ref x y:=t
end
end Go.Proofs.YtkhlabammcghbaaGreat.Gh
