import Derived.Test.YtkhlabammcghbaaGreatGhB
namespace Go.Proofs.YtkhlabammcghbaaGreat.Gh
open Go
def eT {α β:Type} (R:α→β→Prop):List α→List β→Prop
  | [],[]=>True
  | x::xs,y::ys=>R x y∧eT R xs ys
  | _,_=>False
theorem mW {α β:Type} {R S:α→β→Prop} (h:∀ x y,R x y→S x y):∀ {l:List α} {l':List β},eT R l l' →eT S l l'
  | [],[],_=>trivial
  | _::_,_::_,hl=>⟨h _ _ hl.1,mW h hl.2⟩
  | [],_::_,hl=>hl.elim
  | _::_,[],hl=>hl.elim
theorem iG {α β:Type} {R:α→β→Prop}:∀ {l:List α} {l':List β},eT R l l' →l.length=l'.length
  | [],[],_=>rfl
  | _::_,_::_,hl=>by simp [iG hl.2]
  | [],_::_,hl=>hl.elim
  | _::_,[],hl=>hl.elim
theorem iH {α β:Type} {R:α→β→Prop}:∀ {l:List α} {l':List β},eT R l l' ↔l.length=l'.length∧∀ (i:Nat) (x:α),l[i]? =some x→∃ y,l'[i]? =some y∧R x y
  | [],[]=>by simp [eT]
  | [],_::_=>by simp [eT]
  | _::_,[]=>by simp [eT]
  | x::xs,y::ys=>by
    constructor
    · rintro ⟨h1,h2⟩
      obtain ⟨hl,hr⟩:=iH.1 h2
      refine ⟨by simp [hl],fun i a ha=>?_⟩
      cases i with
      | zero=>simp at ha; subst ha; exact ⟨y,by simp,h1⟩
      | succ i=>simpa using hr i a (by simpa using ha)
    · rintro ⟨hl,hr⟩
      refine ⟨?_,iH.2 ⟨by simpa using hl,fun i a ha=>?_⟩⟩
      · obtain ⟨b,hb,hR⟩:=hr 0 x (by simp)
        simp at hb; subst hb; exact hR
      · simpa using hr (i+1) a (by simpa using ha)
theorem uQ {α β:Type} {R:α→β→Prop}:∀ {l:List α} {l':List β} {m:List α} {m':List β},eT R l l' →eT R m m' →eT R (l++m) (l' ++m')
  | [],[],_,_,_,h=>h
  | _::_,_::_,_,_,hl,h=>⟨hl.1,uQ hl.2 h⟩
  | [],_::_,_,_,hl,_=>hl.elim
  | _::_,[],_,_,hl,_=>hl.elim
theorem GQ {α:Type} {R:α→α→Prop}:∀ {l:List α},(∀ x∈l,R x x)→eT R l l
  | [],_=>trivial
  | x::_,h=>⟨h x (by simp),GQ fun y hy=>h y (by simp [hy])⟩
theorem MH {α β:Type} {R:α→β→Prop}:∀ (n:Nat) {l:List α} {l':List β},eT R l l' →eT R (l.take n) (l'.take n)
  | 0,_,_,_=>by simp [eT]
  | _+1,[],[],_=>by simp [eT]
  | n+1,_::_,_::_,hl=>⟨hl.1,MH n hl.2⟩
  | _+1,[],_::_,hl=>hl.elim
  | _+1,_::_,[],hl=>hl.elim
theorem MI {α β:Type} {R:α→β→Prop}:∀ (n:Nat) {l:List α} {l':List β},eT R l l' →eT R (l.drop n) (l'.drop n)
  | 0,_,_,h=>by simpa using h
  | _+1,[],[],_=>by simp [eT]
  | n+1,_::_,_::_,hl=>MI n hl.2
  | _+1,[],_::_,hl=>hl.elim
  | _+1,_::_,[],hl=>hl.elim
theorem yu {α:Type}:∀ (n:Nat) (l:List α),uI n l=l.drop n
  | 0,_=>by simp [UR]
  | _+1,[]=>by simp [US]
  | n+1,_::xs=>by simp [UT,yu n xs]
theorem GR {α:Type}:∀ {n:Nat} {l r:List α},takeN n l=some r→r=l.take n∧n≤l.length
  | 0,_,_,h=>by simp [Di] at h; simp [← h]
  | _+1,[],_,h=>by simp [MA] at h
  | n+1,x::xs,r,h=>by
    simp only [MB] at h
    cases ht:takeN n xs with
    | none=>simp [ht] at h
    | some l =>
      simp [ht] at h
      obtain ⟨h1,h2⟩:=GR ht
      subst h
      exact ⟨by simp [h1],by simp; omega⟩
theorem AF {α:Type}:∀ (l:List α) (i:Nat),mQ l i=l[i]?
  | [],_=>by simp [UU]
  | _::_,0=>by simp [rE]
  | _::xs,n+1=>by simp [rF,AF xs n]
theorem ju {α:Type} (d:α):∀ (l:List α) (i:Nat),nth d l i=l.getD i d
  | [],_=>by simp [ym]
  | _::_,0=>by simp [sP]
  | _::xs,n+1=>by simp [sQ,ju d xs n]
theorem AG {α:Type}:∀ {l:List α} {n:Nat} {vs r:List α},splice l n vs=some r →
    r.length=l.length∧n+vs.length≤l.length∧∀ i,r[i]? =if n≤i∧i<n+vs.length then vs[i - n]? else l[i]?
  | l,0,[],r,h=>by simp [cg] at h; subst h; exact ⟨rfl,by simp,fun i=>by simp⟩
  | [],n+1,vs,_,h=>by cases vs<;>simp [MC] at h
  | [],0,_::_,_,h=>by simp [MD] at h
  | x::xs,n+1,vs,r,h=>by
    simp only [gA] at h
    cases hs:splice xs n vs with
    | none=>simp [hs] at h
    | some l' =>
      simp [hs] at h
      subst h
      obtain ⟨h1,h2,h3⟩:=AG hs
      refine ⟨by simp [h1],by simp; omega,fun i=>?_⟩
      cases i with
      | zero=>simp
      | succ i =>
        simp only [List.getElem?_cons_succ,h3 i]
        by_cases hc:n≤i∧i<n+vs.length
        · rw [if_pos hc,if_pos (by omega)]; congr 1; omega
        · rw [if_neg hc,if_neg (by omega)]
  | x::xs,0,v::vs,r,h=>by
    simp only [ch] at h
    cases hs:splice xs 0 vs with
    | none=>simp [hs] at h
    | some l' =>
      simp [hs] at h
      subst h
      obtain ⟨h1,h2,h3⟩:=AG hs
      refine ⟨by simp [h1],by simp at h2 ⊢; omega,fun i=>?_⟩
      cases i with
      | zero=>simp
      | succ i =>
        simp only [List.getElem?_cons_succ,h3 i]
        by_cases hc:0≤i∧i<0+vs.length
        · rw [if_pos hc,if_pos (by simp; omega)]; simp
        · rw [if_neg hc,if_neg (by simp; omega)]
structure jv where
  aY:Nat
  off:Nat
  ex:Nat
  esz:Nat
  opn:Bool
  len:Nat
structure Map where
  mu:Nat→Option jv
  lp:Nat→Option Nat
  mp:Nat→Option Nat
structure Map.Le (M M':Map):Prop where
  mu:∀ g x,M.mu g=some x→M'.mu g=some x
  lp:∀ l r,M.lp l=some r→M'.lp l=some r
  mp:∀ l r,M.mp l=some r→M'.mp l=some r
theorem Map.Le.refl (M:Map):M.Le M:=⟨fun _ _ h=>h,fun _ _ h=>h,fun _ _ h=>h⟩
theorem Map.Le.trans {A B C:Map} (h:A.Le B) (k:B.Le C):A.Le C:=⟨fun g x e=>k.mu g x (h.mu g x e),fun l r e=>k.lp l r (h.lp l r e),fun l r e=>k.mp l r (h.mp l r e)⟩
def wq (M:Map) (f f':Fn):Prop :=
  match f with
  | .func g=>f' = .func g
  | .yield l=>∃ r,M.lp l=some r∧f' = .yield r
  | _=>False
def kS (M:Map):Nat→Value→Value→Prop
  | 0,_,_=>False
  | n+1,v,u=>match v with
    | .bool b=>u= .bool b
    | .int k z=>u= .int k z
    | .string s=>u= .string s
    | .pointer none=>u= .pointer none
    | .pointer (some a)=>∃ x,M.mu a.block=some x∧u= .pointer (some ⟨x.aY,x.off+a.off,none⟩)
    | .slice none l c=>l=0∧c=0∧u= .slice none 0 0
    | .slice (some a) l c=>∃ x b cr,M.mu a.block=some x∧u= .slice (some b) l cr∧l≤c ∧
        (cr=c∨(x.opn=true∧a.off+c*x.esz=x.len∧cr=c+x.ex))∧(cr≠0→b=⟨x.aY,x.off+a.off,none⟩)
    | .map none=>u= .map none
    | .map (some l)=>∃ r,M.mp l=some r∧u= .map (some r)
    | .nilFunc=>u= .nilFunc
    | .nilIface=>u= .nilIface
    | .func f a b=>∃ f' a' b',u= .func f' a' b' ∧wq M f f' ∧eT (kS M n) a.toList a'.toList∧eT (kS M n) b.toList b'.toList
    | .iface t x=>∃ x',u= .iface t x' ∧kS M n x x'
    | .agg cs=>∃ dM,u= .agg dM ∧eT (kS M n) cs.toList dM.toList
    | .tuple cs=>∃ dM,u= .tuple dM ∧eT (kS M n) cs.toList dM.toList
    | _=>False
theorem yv {M:Map}:∀ {n:Nat} {v u:Value},kS M n v u→kS M (n+1) v u
  | 0,_,_,h=>h.elim
  | n+1,v,u,h=>by
    unfold kS at h ⊢
    cases v with
    | func f a b =>
      obtain ⟨f',a',b',h1,h2,h3,h4⟩:=h
      exact ⟨f',a',b',h1,h2,mW (fun _ _=>yv) h3,mW (fun _ _=>yv) h4⟩
    | iface t x=>obtain ⟨x',h1,h2⟩:=h; exact ⟨x',h1,yv h2⟩
    | agg cs=>obtain ⟨dM,h1,h2⟩:=h; exact ⟨dM,h1,mW (fun _ _=>yv) h2⟩
    | tuple cs=>obtain ⟨dM,h1,h2⟩:=h; exact ⟨dM,h1,mW (fun _ _=>yv) h2⟩
    | pointer a=>cases a<;>exact h
    | slice a l c=>cases a<;>exact h
    | map r=>cases r<;>exact h
    | _=>exact h
theorem Dr {M:Map} {n m:Nat} {v u:Value} (h:kS M n v u) (hm:n≤m):kS M m v u:=by
  induction hm with
  | refl=>exact h
  | step _ ih=>exact yv ih
theorem UW {M M':Map} (hM:M.Le M') {f f':Fn} (h:wq M f f'):wq M' f f':=by
  cases f<;>first | exact h | (obtain ⟨r,h1,h2⟩:=h; exact ⟨r,hM.lp _ _ h1,h2⟩)
theorem yw {M M':Map} (hM:M.Le M'):∀ {n:Nat} {v u:Value},kS M n v u→kS M' n v u
  | 0,_,_,h=>h.elim
  | n+1,v,u,h=>by
    unfold kS at h ⊢
    cases v with
    | func f a b =>
      obtain ⟨f',a',b',h1,h2,h3,h4⟩:=h
      exact ⟨f',a',b',h1,UW hM h2,mW (fun _ _=>yw hM) h3,mW (fun _ _=>yw hM) h4⟩
    | iface t x=>obtain ⟨x',h1,h2⟩:=h; exact ⟨x',h1,yw hM h2⟩
    | agg cs=>obtain ⟨dM,h1,h2⟩:=h; exact ⟨dM,h1,mW (fun _ _=>yw hM) h2⟩
    | tuple cs=>obtain ⟨dM,h1,h2⟩:=h; exact ⟨dM,h1,mW (fun _ _=>yw hM) h2⟩
    | pointer a =>
      cases a with
      | none=>exact h
      | some a=>obtain ⟨x,h1,h2⟩:=h; exact ⟨x,hM.mu _ _ h1,h2⟩
    | slice a l c =>
      cases a with
      | none=>exact h
      | some a=>obtain ⟨x,b,cr,h1,h2⟩:=h; exact ⟨x,b,cr,hM.mu _ _ h1,h2⟩
    | map r =>
      cases r with
      | none=>exact h
      | some r=>obtain ⟨x,h1,h2⟩:=h; exact ⟨x,hM.mp _ _ h1,h2⟩
    | _=>exact h
def V (M:Map) (v u:Value):Prop:=∃ n,kS M n v u
def Vs (M:Map) (l l':List Value):Prop:=eT (V M) l l'
theorem V.mono {M M':Map} (hM:M.Le M') {v u:Value} (h:V M v u):V M' v u:=let ⟨n,h⟩:=h; ⟨n,yw hM h⟩
theorem Vs.mono {M M':Map} (hM:M.Le M') {v u:List Value} (h:Vs M v u):Vs M' v u:=mW (fun _ _=>V.mono hM) h
theorem Ds {M:Map} {n:Nat} {l l':List Value} (h:eT (kS M n) l l'):Vs M l l':=mW (fun _ _ h=>⟨n,h⟩) h
theorem Vs.bound {M:Map}:∀ {l l':List Value},Vs M l l' →∃ n,eT (kS M n) l l'
  | [],[],_=>⟨0,trivial⟩
  | _::_,_::_,h=>by
    obtain ⟨⟨n,h1⟩,h2⟩:=h
    obtain ⟨m,h3⟩:=Vs.bound h2
    exact ⟨max n m,Dr h1 (Nat.le_max_left _ _),mW (fun _ _ h=>Dr h (Nat.le_max_right _ _)) h3⟩
  | [],_::_,h=>h.elim
  | _::_,[],h=>h.elim
section
variable {M:Map} {u:Value}
theorem iX {b:Bool}:V M (.bool b) u↔u= .bool b:=⟨fun ⟨n,h⟩=>by cases n<;>first | exact h.elim | exact h,fun h=>⟨1,h⟩⟩
theorem eG {k:IntKind} {z:Int}:V M (.int k z) u↔u= .int k z:=⟨fun ⟨n,h⟩=>by cases n<;>first | exact h.elim | exact h,fun h=>⟨1,h⟩⟩
theorem sV {s:ByteArray}:V M (.string s) u↔u= .string s:=⟨fun ⟨n,h⟩=>by cases n<;>first | exact h.elim | exact h,fun h=>⟨1,h⟩⟩
theorem yx:V M (.pointer none) u↔u= .pointer none:=⟨fun ⟨n,h⟩=>by cases n<;>first | exact h.elim | exact h,fun h=>⟨1,h⟩⟩
theorem yy:V M .nilFunc u↔u= .nilFunc:=⟨fun ⟨n,h⟩=>by cases n<;>first | exact h.elim | exact h,fun h=>⟨1,h⟩⟩
theorem uR:V M .nilIface u↔u= .nilIface:=⟨fun ⟨n,h⟩=>by cases n<;>first | exact h.elim | exact h,fun h=>⟨1,h⟩⟩
theorem Dt:V M (.map none) u↔u= .map none:=⟨fun ⟨n,h⟩=>by cases n<;>first | exact h.elim | exact h,fun h=>⟨1,h⟩⟩
theorem AH {l:Nat}:V M (.map (some l)) u↔∃ r,M.mp l=some r∧u= .map (some r):=⟨fun ⟨n,h⟩=>by cases n<;>first | exact h.elim | exact h,fun h=>⟨1,h⟩⟩
theorem jx {l c:Nat}:V M (.slice none l c) u↔l=0∧c=0∧u= .slice none 0 0:=⟨fun ⟨n,h⟩=>by cases n<;>first | exact h.elim | exact h,fun h=>⟨1,h⟩⟩
theorem lU {a:Addr}:V M (.pointer (some a)) u↔∃ x,M.mu a.block=some x∧u= .pointer (some ⟨x.aY,x.off+a.off,none⟩) :=
  ⟨fun ⟨n,h⟩=>by cases n<;>first | exact h.elim | exact h,fun h=>⟨1,h⟩⟩
theorem gC {a:Addr} {l c:Nat}:V M (.slice (some a) l c) u↔∃ x b cr,M.mu a.block=some x∧u= .slice (some b) l cr∧l≤c ∧
    (cr=c∨(x.opn=true∧a.off+c*x.esz=x.len∧cr=c+x.ex))∧(cr≠0→b=⟨x.aY,x.off+a.off,none⟩) :=
  ⟨fun ⟨n,h⟩=>by cases n<;>first | exact h.elim | exact h,fun h=>⟨1,h⟩⟩
theorem rM {cs:Array Value}:V M (.agg cs) u↔∃ dM,u= .agg dM ∧Vs M cs.toList dM.toList :=
  ⟨fun ⟨n,h⟩=>by cases n<;>first | exact h.elim | exact let ⟨c,h1,h2⟩:=h; ⟨c,h1,Ds h2⟩,fun ⟨c,h1,h2⟩=>let ⟨n,h3⟩:=h2.bound; ⟨n+1,c,h1,h3⟩⟩
theorem rN {cs:Array Value}:V M (.tuple cs) u↔∃ dM,u= .tuple dM ∧Vs M cs.toList dM.toList :=
  ⟨fun ⟨n,h⟩=>by cases n<;>first | exact h.elim | exact let ⟨c,h1,h2⟩:=h; ⟨c,h1,Ds h2⟩,fun ⟨c,h1,h2⟩=>let ⟨n,h3⟩:=h2.bound; ⟨n+1,c,h1,h3⟩⟩
theorem pd {t:TypeId} {x:Value}:V M (.iface t x) u↔∃ x',u= .iface t x' ∧V M x x' :=
  ⟨fun ⟨n,h⟩=>by cases n<;>first | exact h.elim | exact let ⟨c,h1,h2⟩:=h; ⟨c,h1,_,h2⟩,fun ⟨c,h1,n,h2⟩=>⟨n+1,c,h1,h2⟩⟩
theorem kT {f:Fn} {a b:Array Value}:V M (.func f a b) u↔∃ f' a' b',u= .func f' a' b' ∧wq M f f' ∧Vs M a.toList a'.toList∧Vs M b.toList b'.toList :=
  ⟨fun ⟨n,h⟩=>by
    cases n with
    | zero=>exact h.elim
    | succ n=>exact let ⟨f',a',b',h1,h2,h3,h4⟩:=h; ⟨f',a',b',h1,h2,Ds h3,Ds h4⟩,
   fun ⟨f',a',b',h1,h2,h3,h4⟩=>by
    obtain ⟨n,h5⟩:=h3.bound
    obtain ⟨m,h6⟩:=h4.bound
    exact ⟨max n m+1,f',a',b',h1,h2,mW (fun _ _ h=>Dr h (Nat.le_max_left _ _)) h5,mW (fun _ _ h=>Dr h (Nat.le_max_right _ _)) h6⟩⟩
theorem sW:V M undef undef:=rN.2 ⟨#[],rfl,trivial⟩
end
theorem GU {M:Map}:∀ {n:Nat} {v:Value},o9 n v=true→V M v v
  | 0,_,h=>by simp [o9] at h
  | n+1,v,h=>by
    unfold o9 at h
    have key:∀ l:List Value,l.all (o9 n)=true→Vs M l l:=fun l hl=>GQ fun x hx=>GU (by simpa using (List.all_eq_true.1 hl x hx))
    cases v with
    | bool b=>exact iX.2 rfl
    | int k z=>exact eG.2 rfl
    | string s=>exact sV.2 rfl
    | nilFunc=>exact yy.2 rfl
    | nilIface=>exact uR.2 rfl
    | pointer a=>cases a with
      | none=>exact yx.2 rfl
      | some a=>simp at h
    | map a=>cases a with
      | none=>exact Dt.2 rfl
      | some a=>simp at h
    | slice a l c=>cases a with
      | none =>
        cases l with
        | succ l=>simp at h
        | zero=>cases c with
          | succ c=>simp at h
          | zero=>exact jx.2 ⟨rfl,rfl,rfl⟩
      | some a=>simp at h
    | agg cs=>exact rM.2 ⟨cs,rfl,key _ h⟩
    | tuple cs=>exact rN.2 ⟨cs,rfl,key _ h⟩
    | iface t x=>exact pd.2 ⟨x,rfl,GU h⟩
    | float=>simp at h
    | complex=>simp at h
    | chan=>simp at h
    | func=>simp at h
theorem Du {M:Map} {v:Value} (h:plain v=true):V M v v:=GU h
theorem GV {M:Map}:∀ {n:Nat} {v u:Value},o9 n v=true→V M v u→u=v
  | 0,_,_,h,_=>by simp [o9] at h
  | n+1,v,u,h,hV=>by
    unfold o9 at h
    have key:∀ l l':List Value,l.all (o9 n)=true→Vs M l l' →l' =l:=by
      intro l
      induction l with
      | nil=>intro l' _ hl; cases l' with | nil=>rfl | cons=>exact hl.elim
      | cons x xs ih =>
        intro l' ha hl
        cases l' with
        | nil=>exact hl.elim
        | cons y ys =>
          simp only [List.all_cons,Bool.and_eq_true] at ha
          rw [GV ha.1 hl.1,ih ys ha.2 hl.2]
    cases v with
    | bool b=>exact iX.1 hV
    | int k z=>exact eG.1 hV
    | string s=>exact sV.1 hV
    | nilFunc=>exact yy.1 hV
    | nilIface=>exact uR.1 hV
    | pointer a=>cases a with
      | none=>exact yx.1 hV
      | some a=>simp at h
    | map a=>cases a with
      | none=>exact Dt.1 hV
      | some a=>simp at h
    | slice a l c=>cases a with
      | none=>obtain ⟨rfl,rfl,rfl⟩:=jx.1 hV; rfl
      | some a=>simp at h
    | agg cs=>obtain ⟨dM,rfl,hl⟩:=rM.1 hV; rw [Array.toList_inj.1 (key _ _ h hl)]
    | tuple cs=>obtain ⟨dM,rfl,hl⟩:=rN.1 hV; rw [Array.toList_inj.1 (key _ _ h hl)]
    | iface t x=>obtain ⟨x',rfl,hl⟩:=pd.1 hV; rw [GV h hl]
    | float=>simp at h
    | complex=>simp at h
    | chan=>simp at h
    | func=>simp at h
theorem sX {M:Map} {v u:Value} (h:plain v=true) (hV:V M v u):u=v:=GV h hV
theorem MJ {M:Map} {v u:Value} (h:V M v u):(∃ cs dM,v= .agg cs∧u= .agg dM ∧Vs M cs.toList dM.toList) ∨
    (v.cells= #[v]∧u.cells= #[u]∧one v=one u):=by
  cases v with
  | agg cs=>obtain ⟨dM,rfl,hl⟩:=rM.1 h; exact .inl ⟨cs,dM,rfl,rfl,hl⟩
  | tuple cs=>obtain ⟨dM,rfl,_⟩:=rN.1 h; exact .inr ⟨rfl,rfl,rfl⟩
  | bool b=>rw [iX.1 h]; exact .inr ⟨rfl,rfl,rfl⟩
  | int k z=>rw [eG.1 h]; exact .inr ⟨rfl,rfl,rfl⟩
  | string s=>rw [sV.1 h]; exact .inr ⟨rfl,rfl,rfl⟩
  | nilFunc=>rw [yy.1 h]; exact .inr ⟨rfl,rfl,rfl⟩
  | nilIface=>rw [uR.1 h]; exact .inr ⟨rfl,rfl,rfl⟩
  | iface t x=>obtain ⟨x',rfl,_⟩:=pd.1 h; exact .inr ⟨rfl,rfl,rfl⟩
  | func f a b=>obtain ⟨f',a',b',rfl,_⟩:=kT.1 h; exact .inr ⟨rfl,rfl,rfl⟩
  | pointer a=>cases a with
    | none=>rw [yx.1 h]; exact .inr ⟨rfl,rfl,rfl⟩
    | some a=>obtain ⟨x,_,rfl⟩:=lU.1 h; exact .inr ⟨rfl,rfl,rfl⟩
  | slice a l c=>cases a with
    | none=>obtain ⟨_,_,rfl⟩:=jx.1 h; exact .inr ⟨rfl,rfl,rfl⟩
    | some a=>obtain ⟨x,b,cr,_,rfl,_⟩:=gC.1 h; exact .inr ⟨rfl,rfl,rfl⟩
  | map r=>cases r with
    | none=>rw [Dt.1 h]; exact .inr ⟨rfl,rfl,rfl⟩
    | some r=>obtain ⟨x,_,rfl⟩:=AH.1 h; exact .inr ⟨rfl,rfl,rfl⟩
  | float=>obtain ⟨n,h⟩:=h; cases n<;>exact False.elim h
  | complex=>obtain ⟨n,h⟩:=h; cases n<;>exact False.elim h
  | chan=>obtain ⟨n,h⟩:=h; cases n<;>exact False.elim h
theorem MK {M:Map} {v:Value} {b:Bool} (h:V M v (.bool b)):v= .bool b:=by
  cases v with
  | agg cs=>obtain ⟨dM,h,_⟩:=rM.1 h; cases h
  | tuple cs=>obtain ⟨dM,h,_⟩:=rN.1 h; cases h
  | bool c=>exact (iX.1 h).symm
  | int k z=>exact (eG.1 h).symm
  | string s=>exact (sV.1 h).symm
  | nilFunc=>exact (yy.1 h).symm
  | nilIface=>exact (uR.1 h).symm
  | iface t x=>obtain ⟨x',h,_⟩:=pd.1 h; cases h
  | func f a b=>obtain ⟨f',a',b',h,_⟩:=kT.1 h; cases h
  | pointer a=>cases a with
    | none=>exact (yx.1 h).symm
    | some a=>obtain ⟨x,_,h⟩:=lU.1 h; cases h
  | slice a l c=>cases a with
    | none=>obtain ⟨_,_,h⟩:=jx.1 h; cases h
    | some a=>obtain ⟨x,b,cr,_,h,_⟩:=gC.1 h; cases h
  | map r=>cases r with
    | none=>exact (Dt.1 h).symm
    | some r=>obtain ⟨x,_,h⟩:=AH.1 h; cases h
  | float=>obtain ⟨n,h⟩:=h; cases n<;>exact False.elim h
  | complex=>obtain ⟨n,h⟩:=h; cases n<;>exact False.elim h
  | chan=>obtain ⟨n,h⟩:=h; cases n<;>exact False.elim h
theorem GX {M:Map} {v u:Value} (h:V M v u):Vs M v.cells.toList u.cells.toList:=by
  rcases MJ h with ⟨cs,dM,rfl,rfl,hl⟩ | ⟨h1,h2,_⟩
  · exact hl
  · rw [h1,h2]; exact ⟨h,trivial⟩
theorem ML {M:Map} {v u:Value} (h:V M v u):one v=one u:=by
  rcases MJ h with ⟨cs,dM,rfl,rfl,hl⟩ | ⟨_,_,h3⟩
  · rfl
  · exact h3
theorem AJ {M:Map} {T tmps:List Value} (h:Vs M T tmps) (i:Nat):V M (nth undef T i) (tmps.getD i undef):=by
  rw [ju]
  obtain ⟨hl,hr⟩:=iH.1 h
  cases hT:T[i]? with
  | some x =>
    obtain ⟨y,hy,UX⟩:=hr i x hT
    simp [List.getD,hT,hy,UX]
  | none =>
    have:tmps[i]? =none:=by
      rw [List.getElem?_eq_none_iff] at hT ⊢; omega
    simp [List.getD,hT,this,sW]
theorem cV {M:Map} {T:List Value} {a:Act} (h:Vs M T a.tmps.toList) {x:Operand} (hx:db x=true):V M (ev T x) (a.eval x):=by
  cases x with
  | tmp t=>simpa [ev,Act.eval] using AJ h t
  | const v=>exact Du hx
  | global g=>simp [db] at hx
  | func f=>exact kT.2 ⟨.func f,#[],#[],rfl,rfl,trivial,trivial⟩
end Go.Proofs.YtkhlabammcghbaaGreat.Gh
