import Derived.Test.YtlaojmcekeohnaaGreatDoorGhKO
namespace Go.Proofs.YtlaojmcekeohnaaGreatDoor.Gh
open Go
set_option linter.unusedVariables false
set_option linter.unusedSimpArgs false
noncomputable section
inductive JT (β:Type):Type where
  | e:JT β
  | n (h:Option (List Value→GS→Option β)) (l r:JT β):JT β
namespace JT
variable {β:Type}
def get:JT β→List Bool→Option (List Value→GS→Option β)
  | .e,_=>none
  | .n h l r,[]=>h
  | .n h l r,false::p=>l.get p
  | .n h l r,true::p=>r.get p
def ents (f:List Bool→List Bool):JT β→List (List Bool×(List Value→GS→Option β))
  | .e=>[]
  | .n h l r=>(match h with | some j=>[(f [],j)] | none=>[])++(l.ents (fun p=>f (false::p))++r.ents (fun p=>f (true::p)))
theorem ents_of:∀ (t:JT β) (f:List Bool→List Bool) (p:List Bool) (j:List Value→GS→Option β),t.get p=some j→(f p,j)∈t.ents f
  | .e,f,p,j,h=>by cases p<;>cases h
  | .n h l r,f,[],j,hh=>by
    simp only [get] at hh
    subst hh
    simp [ents]
  | .n h l r,f,false::p,j,hh=>by
    have:=ents_of l (fun p=>f (false::p)) p j hh
    simp only [ents,List.mem_append]
    exact .inr (.inl this)
  | .n h l r,f,true::p,j,hh=>by
    have:=ents_of r (fun p=>f (true::p)) p j hh
    simp only [ents,List.mem_append]
    exact .inr (.inr this)
end JT
section
variable (P:Program) (E:Ev)
def joinE {β:Type} (N:Nat) (h:Option (List Value→GS→Option β)) (k:Env→GS→Option β):Env→GS→Option β:=match h with
  | some j=>fun τ G=>j (lst N τ) G
  | none=>k
def sxC {β:Type} (N:Nat):JT β→Code→Env→GS→(Exit→Env→GS→Option β)→Option β
  | .n h l r,.seq a b,τ,G,K=>sxC N l a τ G (seqXE (joinE N h fun τ G=>sxC N r b τ G K) K)
  | .n h l r,.cond x a b,τ,G,K=>if okX x then ifV (evE τ x) (sxC N l a τ G K) (sxC N r b τ G K) else none
  | .n h l r,.block id b,τ,G,K=>sxC N l b τ G (blockE id K)
  | _,c,τ,G,K=>sxE P E N c τ G K
def runC {β:Type} (N:Nat):JT β→Code→(Exit→Env→GS→Option β)→List Bool→Env→GS→Option β
  | .n h l r,.seq a b,K,[],τ,G=>sxC P E N r b τ G K
  | .n h l r,.seq a b,K,false::p,τ,G=>runC N l a (seqXE (joinE N h fun τ G=>sxC P E N r b τ G K) K) p τ G
  | .n h l r,.seq a b,K,true::p,τ,G=>runC N r b K p τ G
  | .n h l r,.cond x a b,K,false::p,τ,G=>runC N l a K p τ G
  | .n h l r,.cond x a b,K,true::p,τ,G=>runC N r b K p τ G
  | .n h l r,.block id b,K,false::p,τ,G=>runC N l b (blockE id K) p τ G
  | _,_,_,_,_,_=>none
end
section
variable (P:Program) (orc:FuncId→Bool)
def JOk {β:Type} (N:Nat) (t:JT β) (c:Code) (K:Exit→Env→GS→Option β):Prop :=
  ∀ p j,t.get p=some j→∀ (T:List Value) (G:GS),T.length=N→runC P (evL P orc) N t c K p (nth undef T) G=j T G
theorem sxC_e {β:Type} {N:Nat} {c:Code} {T:List Value} {G:GS} {K:Exit→Env→GS→Option β} {r:β} (hT:T.length=N) (h:sxE P (evL P orc) N c (nth undef T) G K=some r) :
    bX ((evL P orc).ex c T G) (fun e T' G' =>K e (nth undef T') G')=some r:=by
  rw [sxE_eq P (evL P orc) (len_evL P orc) _ _ _ _ hT] at h
  exact sxD_some P orc _ _ _ _ _ hT h
theorem sxC_some {β:Type} {N:Nat}:∀ (t:JT β) (c:Code) (T:List Value) (G:GS) (K:Exit→Env→GS→Option β) (r:β),T.length=N→JOk P orc N t c K→sxC P (evL P orc) N t c (nth undef T) G K=some r →
    bX ((evL P orc).ex c T G) (fun e T' G' =>K e (nth undef T') G')=some r:=by
  intro t
  induction t with
  | e=>intro c T G K r hT hJ h; exact sxC_e P orc hT (by cases c<;>exact h)
  | n hd l rt ihl ihr =>
    intro c T G K r hT hJ h
    cases c with
    | seq a b =>
      have hJl:JOk P orc N l a (seqXE (joinE N hd fun τ G=>sxC P (evL P orc) N rt b τ G K) K):=fun p j hj=>hJ (false::p) j hj
      have hJr:JOk P orc N rt b K:=fun p j hj=>hJ (true::p) j hj
      have h1:=ihl a T G _ r hT hJl h
      rw [evL_ex]
      show bX (xSeq (evL P orc) b ((evL P orc).ex a T G)) _=some r
      rcases hx:(evL P orc).ex a T G with _ | ⟨e,T',G'⟩
      · rw [hx] at h1; exact h1
      · rw [hx] at h1
        have hl:=((len_evL P orc).ex _ _ _ _ _ _ hx).trans hT
        cases e with
        | normal =>
          simp only [bX_some,seqXE] at h1
          show bX ((evL P orc).ex b T' G') _=some r
          cases hd with
          | none=>exact ihr b T' G' K r hl hJr h1
          | some j =>
            simp only [joinE,lst_eq hl] at h1
            have h2:=hJ [] j rfl T' G' hl
            exact ihr b T' G' K r hl hJr (h2.trans h1)
        | _=>exact h1
    | cond x a b =>
      have hJl:JOk P orc N l a K:=fun p j hj=>hJ (false::p) j hj
      have hJr:JOk P orc N rt b K:=fun p j hj=>hJ (true::p) j hj
      rw [evL_ex]
      simp only [sxC,evE_eq] at h
      show bX (if okX x then xIf (evL P orc) (ev T x) a b T G else none) _=some r
      by_cases ho:okX x=true
      · rw [if_pos ho] at h ⊢
        unfold ifV at h
        unfold xIf
        split at h
        · rename_i hv
          simp only [hv]
          exact ihl a T G K r hT hJl h
        · rename_i hv
          simp only [hv]
          exact ihr b T G K r hT hJr h
        · cases h
      · rw [if_neg ho] at h; cases h
    | block id b =>
      have hJl:JOk P orc N l b (blockE id K):=fun p j hj=>hJ (false::p) j hj
      have h1:=ihl b T G _ r hT hJl h
      rw [evL_ex]
      show bX (xBlock id ((evL P orc).ex b T G)) _=some r
      rcases hx:(evL P orc).ex b T G with _ | ⟨e,T',G'⟩
      · rw [hx] at h1; exact h1
      · rw [hx] at h1
        simp only [bX_some] at h1
        cases e with
        | exit i =>
          simp only [blockE] at h1
          unfold xBlock
          by_cases hi:i=id
          · subst hi
            simp only [Nat.beq_refl,cond_true] at h1
            simpa using h1
          · have:Nat.beq i id=false:=by
              cases hb:Nat.beq i id
              · rfl
              · exact absurd (Nat.eq_of_beq_eq_true hb) hi
            rw [this] at h1
            simp only [cond_false] at h1
            simpa [hi] using h1
        | _=>exact h1
    | _=>exact sxC_e P orc hT h
def AllE {α:Type} (R:α→Prop):List α→Prop
  | []=>True
  | x::l=>R x∧AllE R l
theorem AllE.mem {α:Type} {R:α→Prop}:∀ {l:List α},AllE R l→∀ x∈l,R x
  | [],_,x,h=>by simp at h
  | y::l,h,x,hx=>by
    rcases List.mem_cons.1 hx with rfl | hx
    · exact h.1
    · exact AllE.mem h.2 x hx
theorem jOk {β:Type} {N:Nat} {t:JT β} {c:Code} {K:Exit→Env→GS→Option β} {l:List (List Bool×(List Value→GS→Option β))} (he:t.ents (fun p=>p)=l)
    (h:AllE (fun x=>∀ (T:List Value) (G:GS),runC P (evL P orc) N t c K x.1 (nth undef T) G=x.2 T G) l):JOk P orc N t c K:=fun p j hj T G _=>by
  have:=JT.ents_of t (fun p=>p) p j hj
  rw [he] at this
  exact AllE.mem h _ this T G
theorem AllE.z {α:Type} {R:α→Prop}:AllE R ([]:List α):=trivial
theorem AllE.c {α:Type} {R:α→Prop} {x:α} {l:List α} (h:R x) (k:AllE R l):AllE R (x::l):=⟨h,k⟩
theorem cl_sxC {f:FuncId} {fn:Func} {vs:List Value} (G:GS) (t:JT (Value×GS)) (hf:P.funcs[f]? =some fn) (hn:(fn.name == "runtime.NumGoroutine")=false) (hb:fn.body.isSome=true) (ho:(vs.isEmpty&&orc f)=false) (hp:isPur P orc f=false) (hl:Nat.ble vs.length fn.ntmps=true)
    (hJ:JOk P orc fn.ntmps t (bodyOf fn) (retE P fn.results.toList))
    {x:Option (Value×GS)} {r:Value×GS} (hx:sxC P (evL P orc) fn.ntmps t (bodyOf fn) (nth undef vs) G (retE P fn.results.toList)=x) (h:x=some r):(evL P orc).cl f vs G=some r:=by
  have hlen:(vs++List.replicate (fn.ntmps - vs.length) undef).length=fn.ntmps:=len_rep hl
  have h0:=hx.trans h
  rw [← nth_rep vs (fn.ntmps - vs.length)] at h0
  have h1:=sxC_some P orc t _ _ _ _ _ hlen hJ h0
  rw [cl_sx P orc G hf hn hb ho hp hl,sx_eq P orc _ _ _ _ hlen]
  simpa only [retE_eq] using h1
theorem lp_sxN {b:Code} {N:Nat} {T:List Value} (G:GS) (h:T.length=N)
    {x:Option (Exit×Env×GS)} {r:Exit×Env×GS}
    (hx:sxE P (evL P orc) N b (nth undef T) G (seqXE (fun τ G' =>mapE ((evL P orc).lp b (lst N (nth undef (lst N τ))) G')) fun e τ G' =>some (e,nth undef (lst N τ),G'))=x) (hr:x=some r):mapE ((evL P orc).lp b T G)=some r:=by
  have h1:=sxC_e P orc h (hx.trans hr)
  rw [lp_sx P orc G h,relist_eq h,sx_eq P orc _ _ _ _ h]
  rcases hy:(evL P orc).ex b T G with _ | ⟨e,T',G'⟩
  · rw [hy] at h1; cases h1
  · rw [hy] at h1
    have hl:=((len_evL P orc).ex _ _ _ _ _ _ hy).trans h
    cases e<;>simp only [bX_some,seqX,seqXE,lst_eq hl] at h1 ⊢<;>exact h1
end
def up (N:Nat) (τ:Env) (l:List (Nat×Value)):Env:=List.rec (motive:=fun _=>Env) τ (fun p _ ih=>updE N ih p.1 p.2) l
theorem up_look (N:Nat) (τ:Env) {j:Nat} (hj:j<N):∀ l:List (Nat×Value),up N τ l j=look l j (τ j)
  | []=>rfl
  | p::l=>by
    show updE N (up N τ l) p.1 p.2 j=(bif Nat.beq j p.1 then p.2 else look l j (τ j))
    unfold updE
    by_cases h:j=p.1
    · subst h
      have:Nat.blt p.1 N=true:=by simpa [Nat.blt_eq] using hj
      simp [this]
    · have:Nat.beq j p.1=false:=by
        cases hb:Nat.beq j p.1
        · rfl
        · exact absurd (Nat.eq_of_beq_eq_true hb) h
      simp only [this,cond_false]
      exact up_look N τ hj l
theorem lst_up (N:Nat) (τ:Env) (l:List (Nat×Value)):lst N (up N τ l)=lst N (tu τ l):=by
  unfold lst
  refine List.map_congr_left fun j hj=> ?_
  exact up_look N τ (List.mem_range.1 hj) l
def UOk (τ:Env):List (Nat×Value)→Prop
  | []=>True
  | p::l=>p.2=τ p.1∧UOk τ l
theorem UOk.z {τ:Env}:UOk τ []:=trivial
theorem UOk.c {τ:Env} {i:Nat} {v:Value} {l:List (Nat×Value)} (h:v=τ i) (k:UOk τ l):UOk τ ((i,v)::l):=⟨h,k⟩
theorem UOk.tu {τ:Env}:∀ {U:List (Nat×Value)},UOk τ U→Gh.tu τ U=τ
  | [],_=>rfl
  | p::l,h=>by
    have:=UOk.tu h.2
    funext j
    show (bif Nat.beq j p.1 then p.2 else look l j (τ j))=τ j
    have e:=congrFun this j
    by_cases hj:j=p.1
    · subst hj; simp [h.1]
    · have:Nat.beq j p.1=false:=by
        cases hb:Nat.beq j p.1
        · rfl
        · exact absurd (Nat.eq_of_beq_eq_true hb) hj
      rw [this]; exact e
def xq (q:Bool) (N:Nat) (τ:Env) (h U:List (Nat×Value)):Env:=bif q then clip N (tu (tu τ U) h) else nth undef (lst N (up N τ h))
def lsq (q:Bool) (N:Nat) (τ:Env) (h:List (Nat×Value)):List Value:=bif q then lst N (tu τ h) else lst N (up N τ h)
@[simp] theorem xq_t (N:Nat) (τ:Env) (h U:List (Nat×Value)):xq true N τ h U=clip N (tu (tu τ U) h):=Eq.trans rfl rfl
@[simp] theorem lsq_t (N:Nat) (τ:Env) (h:List (Nat×Value)):lsq true N τ h=lst N (tu τ h):=Eq.trans rfl rfl
theorem xq_eq {N:Nat} {τ:Env} {h U:List (Nat×Value)} (hU:UOk τ U):xq false N τ h U=xq true N τ h U:=by
  show nth undef (lst N (up N τ h))=clip N (tu (tu τ U) h)
  rw [lst_up,nth_lst,hU.tu]
theorem lsq_eq {N:Nat} {τ:Env} {h:List (Nat×Value)}:lsq false N τ h=lsq true N τ h:=lst_up N τ h
def bLq {β:Type} (q:Bool) (e:Ex) (f k:Nat) (c:Code) (N:Nat) (τ:Env) (h U:List (Nat×Value)) (G:GS) (K:Exit→Env→GS→Option β):Option β :=
  bif q then bE (e.lpx f k (tu (tu τ U) h) G) K else bX (e.ev.lp c (lst N (up N τ h)) G) fun x T G=>K x (nth undef T) G
@[simp] theorem bLq_t {β:Type} (e:Ex) (f k:Nat) (c:Code) (N:Nat) (τ:Env) (h U:List (Nat×Value)) (G:GS) (K:Exit→Env→GS→Option β):bLq true e f k c N τ h U G K=bE (e.lpx f k (tu (tu τ U) h) G) K:=Eq.trans rfl rfl
theorem Ref.bVe {β:Type} {v:Value} {K K' :Value→Option β} (hK:∀ x,x=v→Ref (K x) (K' x)):Ref (Gh.bV true v K) (Gh.bV false v K'):=by
  simp only [bV_eq]; exact hK v rfl
theorem Ref.bLq {β:Type} {P:Program} {f k:Nat} {c:Code} {N:Nat} [i:LpIs P f k c N] {e:Ex} {E:Ev} (h:ExLe P e E) {τ:Env} {l U:List (Nat×Value)} {G:GS} {K K' :Exit→Env→GS→Option β} (hU:UOk τ U) (hK:∀ x τ G,Ref (K x τ G) (K' x τ G)) :
    Ref (Gh.bLq true e f k c N τ l U G K) (Gh.bLq false (Ex.of E) f k c N τ l U G K'):=by
  have h1:=Ref.bL (i:=i) (τ:=Gh.tu (Gh.tu τ U) l) (G:=G) h hK
  show Ref (bE (e.lpx f k (Gh.tu (Gh.tu τ U) l) G) K) (Gh.bX (E.lp c (lst N (up N τ l)) G) fun x T G=>K' x (nth undef T) G)
  rw [lst_up]
  rw [hU.tu] at h1 ⊢
  exact h1
theorem LpLe.rx {lp lp' :Env→GS→Option (Exit×Env×GS)} (hl:LpLe lp lp') {N:Nat} {τ:Env} {h U:List (Nat×Value)} {G:GS} (hU:UOk τ U):Ref (lp (xq true N τ h U) G) (lp' (xq false N τ h U) G):=by
  rw [xq_eq hU]; exact hl.r _ _
theorem Ref.xitq {N:Nat} {x:Exit} {τ:Env} {h U:List (Nat×Value)} {G:GS} (hU:UOk τ U):Ref (some (x,xq true N τ h U,G)) (some (x,xq false N τ h U,G)):=by
  rw [xq_eq hU]; exact .rfl' _
theorem Ref.xRangeQ {P:Program} {e:Ex} {E:Ev} (h:ExLe P e E) {v:Value} {ps:Array Nat} {a b:Code} {N:Nat} {τ:Env} {l:List (Nat×Value)} {G:GS}:Ref (Gh.xRange e.ev v ps a b (lsq true N τ l) G) (Gh.xRange (Ex.of E).ev v ps a b (lsq false N τ l) G):=by
  rw [lsq_eq]; exact Ref.xRange h
theorem Ref.scQ {P:Program} {e:Ex} {E:Ev} (h:ExLe P e E) {b c:Code} {N:Nat} {τ:Env} {l:List (Nat×Value)} {G:GS}:Ref (e.ev.sc b c (lsq true N τ l) G) ((Ex.of E).ev.sc b c (lsq false N τ l) G):=by
  rw [lsq_eq]; exact Ref.sc h
theorem Ref.gq {α:Type} {x y:Option α} (t:Ref x y:=by repeat' (with_reducible first | exact Ref.rfl' _ | exact ROp.r | refine Ref.bP ?_ fun _=> ?_ | refine Ref.bS ?_ fun _ _=> ?_ | exact Ref.cl (by assumption) | refine Ref.ifV ?_ ?_ | refine LpLe.rx (by assumption) ?_ | refine Ref.xitq ?_ | exact UOk.z | refine UOk.c (by assumption) ?_ | exact Ref.nil _ | refine Ref.bVe fun _ _=> ?_ | refine Ref.bLq (by assumption) ?_ fun _ _ _=> ?_ | refine Ref.ifE ?_ ?_ | refine Ref.chk ?_ ?_ | refine Imp.and ?_ ?_ | refine Imp.or ?_ | exact Imp.rfl' _ | refine Imp.sameO ?_ | refine Ref.gd ?_ | exact Ref.cValue (by assumption) | refine Ref.bX ?_ fun _ _ _=> ?_ | exact Ref.scQ (by assumption) | exact Ref.xRangeQ (by assumption) | exact Ref.cInvoke (by assumption))):Ref x y:=t
end
end Go.Proofs.YtlaojmcekeohnaaGreatDoor.Gh
