import Derived.Test.YtphandknhnkhfaaGreatGhB
namespace Go.Proofs.YtphandknhnkhfaaGreat.Gh
open Go
def fh {α β:Type} (R:α→β→Prop):List α→List β→Prop
  | [],[]=>True
  | x::xs,y::ys=>R x y∧fh R xs ys
  | _,_=>False
theorem mS {α β:Type} {R S:α→β→Prop} (h:∀ x y,R x y→S x y):∀ {l:List α} {l':List β},fh R l l' →fh S l l'
  | [],[],_=>trivial
  | _::_,_::_,hl=>⟨h _ _ hl.1,mS h hl.2⟩
  | [],_::_,hl=>hl.elim
  | _::_,[],hl=>hl.elim
theorem iQ {α β:Type} {R:α→β→Prop}:∀ {l:List α} {l':List β},fh R l l' →l.length=l'.length
  | [],[],_=>rfl
  | _::_,_::_,hl=>by simp [iQ hl.2]
  | [],_::_,hl=>hl.elim
  | _::_,[],hl=>hl.elim
theorem iR {α β:Type} {R:α→β→Prop}:∀ {l:List α} {l':List β},fh R l l' ↔l.length=l'.length∧∀ (i:Nat) (x:α),l[i]? =some x→∃ y,l'[i]? =some y∧R x y
  | [],[]=>by simp [fh]
  | [],_::_=>by simp [fh]
  | _::_,[]=>by simp [fh]
  | x::xs,y::ys=>by
    constructor
    · rintro ⟨h1,h2⟩
      obtain ⟨hl,hr⟩:=iR.1 h2
      refine ⟨by simp [hl],fun i a ha=>?_⟩
      cases i with
      | zero=>simp at ha; subst ha; exact ⟨y,by simp,h1⟩
      | succ i=>simpa using hr i a (by simpa using ha)
    · rintro ⟨hl,hr⟩
      refine ⟨?_,iR.2 ⟨by simpa using hl,fun i a ha=>?_⟩⟩
      · obtain ⟨b,hb,hR⟩:=hr 0 x (by simp)
        simp at hb; subst hb; exact hR
      · simpa using hr (i+1) a (by simpa using ha)
theorem uE {α β:Type} {R:α→β→Prop}:∀ {l:List α} {l':List β} {m:List α} {m':List β},fh R l l' →fh R m m' →fh R (l++m) (l' ++m')
  | [],[],_,_,_,h=>h
  | _::_,_::_,_,_,hl,h=>⟨hl.1,uE hl.2 h⟩
  | [],_::_,_,_,hl,_=>hl.elim
  | _::_,[],_,_,hl,_=>hl.elim
theorem FD {α:Type} {R:α→α→Prop}:∀ {l:List α},(∀ x∈l,R x x)→fh R l l
  | [],_=>trivial
  | x::_,h=>⟨h x (by simp),FD fun y hy=>h y (by simp [hy])⟩
theorem Lc {α β:Type} {R:α→β→Prop}:∀ (n:Nat) {l:List α} {l':List β},fh R l l' →fh R (l.take n) (l'.take n)
  | 0,_,_,_=>by simp [fh]
  | _+1,[],[],_=>by simp [fh]
  | n+1,_::_,_::_,hl=>⟨hl.1,Lc n hl.2⟩
  | _+1,[],_::_,hl=>hl.elim
  | _+1,_::_,[],hl=>hl.elim
theorem Ld {α β:Type} {R:α→β→Prop}:∀ (n:Nat) {l:List α} {l':List β},fh R l l' →fh R (l.drop n) (l'.drop n)
  | 0,_,_,h=>by simpa using h
  | _+1,[],[],_=>by simp [fh]
  | n+1,_::_,_::_,hl=>Ld n hl.2
  | _+1,[],_::_,hl=>hl.elim
  | _+1,_::_,[],hl=>hl.elim
theorem xW {α:Type}:∀ (n:Nat) (l:List α),uy n l=l.drop n
  | 0,_=>by simp [TH]
  | _+1,[]=>by simp [TI]
  | n+1,_::xs=>by simp [TJ,xW n xs]
theorem FE {α:Type}:∀ {n:Nat} {l r:List α},takeN n l=some r→r=l.take n∧n≤l.length
  | 0,_,_,h=>by simp [Ct] at h; simp [← h]
  | _+1,[],_,h=>by simp [K5] at h
  | n+1,x::xs,r,h=>by
    simp only [K6] at h
    cases ht:takeN n xs with
    | none=>simp [ht] at h
    | some l =>
      simp [ht] at h
      obtain ⟨h1,h2⟩:=FE ht
      subst h
      exact ⟨by simp [h1],by simp; omega⟩
theorem Ab {α:Type}:∀ (l:List α) (i:Nat),mP l i=l[i]?
  | [],_=>by simp [TK]
  | _::_,0=>by simp [zY]
  | _::xs,n+1=>by simp [zZ,Ab xs n]
theorem jL {α:Type} (d:α):∀ (l:List α) (i:Nat),nth d l i=l.getD i d
  | [],_=>by simp [xT]
  | _::_,0=>by simp [sG]
  | _::xs,n+1=>by simp [sH,jL d xs n]
theorem Ac {α:Type}:∀ {l:List α} {n:Nat} {vs r:List α},splice l n vs=some r →
    r.length=l.length∧n+vs.length≤l.length∧∀ i,r[i]? =if n≤i∧i<n+vs.length then vs[i - n]? else l[i]?
  | l,0,[],r,h=>by simp [bO] at h; subst h; exact ⟨rfl,by simp,fun i=>by simp⟩
  | [],n+1,vs,_,h=>by cases vs<;>simp [K7] at h
  | [],0,_::_,_,h=>by simp [K8] at h
  | x::xs,n+1,vs,r,h=>by
    simp only [eC] at h
    cases hs:splice xs n vs with
    | none=>simp [hs] at h
    | some l' =>
      simp [hs] at h
      subst h
      obtain ⟨h1,h2,h3⟩:=Ac hs
      refine ⟨by simp [h1],by simp; omega,fun i=>?_⟩
      cases i with
      | zero=>simp
      | succ i =>
        simp only [List.getElem?_cons_succ,h3 i]
        by_cases hc:n≤i∧i<n+vs.length
        · rw [if_pos hc,if_pos (by omega)]; congr 1; omega
        · rw [if_neg hc,if_neg (by omega)]
  | x::xs,0,v::vs,r,h=>by
    simp only [bQ] at h
    cases hs:splice xs 0 vs with
    | none=>simp [hs] at h
    | some l' =>
      simp [hs] at h
      subst h
      obtain ⟨h1,h2,h3⟩:=Ac hs
      refine ⟨by simp [h1],by simp at h2 ⊢; omega,fun i=>?_⟩
      cases i with
      | zero=>simp
      | succ i =>
        simp only [List.getElem?_cons_succ,h3 i]
        by_cases hc:0≤i∧i<0+vs.length
        · rw [if_pos hc,if_pos (by simp; omega)]; simp
        · rw [if_neg hc,if_neg (by simp; omega)]
structure jM where
  aZ:Nat
  off:Nat
  ex:Nat
  esz:Nat
  opn:Bool
  len:Nat
structure Map where
  mu:Nat→Option jM
  lp:Nat→Option Nat
  mp:Nat→Option Nat
structure Map.Le (M M':Map):Prop where
  mu:∀ g x,M.mu g=some x→M'.mu g=some x
  lp:∀ l r,M.lp l=some r→M'.lp l=some r
  mp:∀ l r,M.mp l=some r→M'.mp l=some r
theorem Map.Le.refl (M:Map):M.Le M:=⟨fun _ _ h=>h,fun _ _ h=>h,fun _ _ h=>h⟩
theorem Map.Le.trans {A B C:Map} (h:A.Le B) (k:B.Le C):A.Le C:=⟨fun g x e=>k.mu g x (h.mu g x e),fun l r e=>k.lp l r (h.lp l r e),fun l r e=>k.mp l r (h.mp l r e)⟩
def vV (M:Map) (f f':Fn):Prop :=
  match f with
  | .func g=>f' = .func g
  | .yield l=>∃ r,M.lp l=some r∧f' = .yield r
  | _=>False
def lg (M:Map):Nat→Value→Value→Prop
  | 0,_,_=>False
  | n+1,v,u=>match v with
    | .bool b=>u= .bool b
    | .int k z=>u= .int k z
    | .string s=>u= .string s
    | .pointer none=>u= .pointer none
    | .pointer (some a)=>∃ x,M.mu a.block=some x∧u= .pointer (some ⟨x.aZ,x.off+a.off,none⟩)
    | .slice none l c=>l=0∧c=0∧u= .slice none 0 0
    | .slice (some a) l c=>∃ x b cr,M.mu a.block=some x∧u= .slice (some b) l cr∧l≤c ∧
        (cr=c∨(x.opn=true∧a.off+c*x.esz=x.len∧cr=c+x.ex))∧(cr≠0→b=⟨x.aZ,x.off+a.off,none⟩)
    | .map none=>u= .map none
    | .map (some l)=>∃ r,M.mp l=some r∧u= .map (some r)
    | .nilFunc=>u= .nilFunc
    | .nilIface=>u= .nilIface
    | .func f a b=>∃ f' a' b',u= .func f' a' b' ∧vV M f f' ∧fh (lg M n) a.toList a'.toList∧fh (lg M n) b.toList b'.toList
    | .iface t x=>∃ x',u= .iface t x' ∧lg M n x x'
    | .agg cs=>∃ dX,u= .agg dX ∧fh (lg M n) cs.toList dX.toList
    | .tuple cs=>∃ dX,u= .tuple dX ∧fh (lg M n) cs.toList dX.toList
    | _=>False
theorem xX {M:Map}:∀ {n:Nat} {v u:Value},lg M n v u→lg M (n+1) v u
  | 0,_,_,h=>h.elim
  | n+1,v,u,h=>by
    unfold lg at h ⊢
    cases v with
    | func f a b =>
      obtain ⟨f',a',b',h1,h2,h3,h4⟩:=h
      exact ⟨f',a',b',h1,h2,mS (fun _ _=>xX) h3,mS (fun _ _=>xX) h4⟩
    | iface t x=>obtain ⟨x',h1,h2⟩:=h; exact ⟨x',h1,xX h2⟩
    | agg cs=>obtain ⟨dX,h1,h2⟩:=h; exact ⟨dX,h1,mS (fun _ _=>xX) h2⟩
    | tuple cs=>obtain ⟨dX,h1,h2⟩:=h; exact ⟨dX,h1,mS (fun _ _=>xX) h2⟩
    | pointer a=>cases a<;>exact h
    | slice a l c=>cases a<;>exact h
    | map r=>cases r<;>exact h
    | _=>exact h
theorem CC {M:Map} {n m:Nat} {v u:Value} (h:lg M n v u) (hm:n≤m):lg M m v u:=by
  induction hm with
  | refl=>exact h
  | step _ ih=>exact xX ih
theorem TM {M M':Map} (hM:M.Le M') {f f':Fn} (h:vV M f f'):vV M' f f':=by
  cases f<;>first | exact h | (obtain ⟨r,h1,h2⟩:=h; exact ⟨r,hM.lp _ _ h1,h2⟩)
theorem xY {M M':Map} (hM:M.Le M'):∀ {n:Nat} {v u:Value},lg M n v u→lg M' n v u
  | 0,_,_,h=>h.elim
  | n+1,v,u,h=>by
    unfold lg at h ⊢
    cases v with
    | func f a b =>
      obtain ⟨f',a',b',h1,h2,h3,h4⟩:=h
      exact ⟨f',a',b',h1,TM hM h2,mS (fun _ _=>xY hM) h3,mS (fun _ _=>xY hM) h4⟩
    | iface t x=>obtain ⟨x',h1,h2⟩:=h; exact ⟨x',h1,xY hM h2⟩
    | agg cs=>obtain ⟨dX,h1,h2⟩:=h; exact ⟨dX,h1,mS (fun _ _=>xY hM) h2⟩
    | tuple cs=>obtain ⟨dX,h1,h2⟩:=h; exact ⟨dX,h1,mS (fun _ _=>xY hM) h2⟩
    | pointer a =>
      cases a with
      | none=>exact h
      | some a=>obtain ⟨x,h1,h2⟩:=h; exact ⟨x,hM.mu _ _ h1,h2⟩
    | slice a l c =>
      cases a with
      | none=>exact h
      | some a=>obtain ⟨x,b,cr,h1,h2⟩:=h; exact ⟨x,b,cr,hM.mu _ _ h1,h2⟩
    | map r =>
      cases r with
      | none=>exact h
      | some r=>obtain ⟨x,h1,h2⟩:=h; exact ⟨x,hM.mp _ _ h1,h2⟩
    | _=>exact h
def V (M:Map) (v u:Value):Prop:=∃ n,lg M n v u
def Vs (M:Map) (l l':List Value):Prop:=fh (V M) l l'
theorem V.mono {M M':Map} (hM:M.Le M') {v u:Value} (h:V M v u):V M' v u:=let ⟨n,h⟩:=h; ⟨n,xY hM h⟩
theorem Vs.mono {M M':Map} (hM:M.Le M') {v u:List Value} (h:Vs M v u):Vs M' v u:=mS (fun _ _=>V.mono hM) h
theorem CD {M:Map} {n:Nat} {l l':List Value} (h:fh (lg M n) l l'):Vs M l l':=mS (fun _ _ h=>⟨n,h⟩) h
theorem Vs.bound {M:Map}:∀ {l l':List Value},Vs M l l' →∃ n,fh (lg M n) l l'
  | [],[],_=>⟨0,trivial⟩
  | _::_,_::_,h=>by
    obtain ⟨⟨n,h1⟩,h2⟩:=h
    obtain ⟨m,h3⟩:=Vs.bound h2
    exact ⟨max n m,CC h1 (Nat.le_max_left _ _),mS (fun _ _ h=>CC h (Nat.le_max_right _ _)) h3⟩
  | [],_::_,h=>h.elim
  | _::_,[],h=>h.elim
section
variable {M:Map} {u:Value}
theorem ji {b:Bool}:V M (.bool b) u↔u= .bool b:=⟨fun ⟨n,h⟩=>by cases n<;>first | exact h.elim | exact h,fun h=>⟨1,h⟩⟩
theorem eM {k:IntKind} {z:Int}:V M (.int k z) u↔u= .int k z:=⟨fun ⟨n,h⟩=>by cases n<;>first | exact h.elim | exact h,fun h=>⟨1,h⟩⟩
theorem sL {s:ByteArray}:V M (.string s) u↔u= .string s:=⟨fun ⟨n,h⟩=>by cases n<;>first | exact h.elim | exact h,fun h=>⟨1,h⟩⟩
theorem xZ:V M (.pointer none) u↔u= .pointer none:=⟨fun ⟨n,h⟩=>by cases n<;>first | exact h.elim | exact h,fun h=>⟨1,h⟩⟩
theorem ya:V M .nilFunc u↔u= .nilFunc:=⟨fun ⟨n,h⟩=>by cases n<;>first | exact h.elim | exact h,fun h=>⟨1,h⟩⟩
theorem uF:V M .nilIface u↔u= .nilIface:=⟨fun ⟨n,h⟩=>by cases n<;>first | exact h.elim | exact h,fun h=>⟨1,h⟩⟩
theorem CF:V M (.map none) u↔u= .map none:=⟨fun ⟨n,h⟩=>by cases n<;>first | exact h.elim | exact h,fun h=>⟨1,h⟩⟩
theorem Ad {l:Nat}:V M (.map (some l)) u↔∃ r,M.mp l=some r∧u= .map (some r):=⟨fun ⟨n,h⟩=>by cases n<;>first | exact h.elim | exact h,fun h=>⟨1,h⟩⟩
theorem jN {l c:Nat}:V M (.slice none l c) u↔l=0∧c=0∧u= .slice none 0 0:=⟨fun ⟨n,h⟩=>by cases n<;>first | exact h.elim | exact h,fun h=>⟨1,h⟩⟩
theorem mc {a:Addr}:V M (.pointer (some a)) u↔∃ x,M.mu a.block=some x∧u= .pointer (some ⟨x.aZ,x.off+a.off,none⟩) :=
  ⟨fun ⟨n,h⟩=>by cases n<;>first | exact h.elim | exact h,fun h=>⟨1,h⟩⟩
theorem gN {a:Addr} {l c:Nat}:V M (.slice (some a) l c) u↔∃ x b cr,M.mu a.block=some x∧u= .slice (some b) l cr∧l≤c ∧
    (cr=c∨(x.opn=true∧a.off+c*x.esz=x.len∧cr=c+x.ex))∧(cr≠0→b=⟨x.aZ,x.off+a.off,none⟩) :=
  ⟨fun ⟨n,h⟩=>by cases n<;>first | exact h.elim | exact h,fun h=>⟨1,h⟩⟩
theorem ru {cs:Array Value}:V M (.agg cs) u↔∃ dX,u= .agg dX ∧Vs M cs.toList dX.toList :=
  ⟨fun ⟨n,h⟩=>by cases n<;>first | exact h.elim | exact let ⟨c,h1,h2⟩:=h; ⟨c,h1,CD h2⟩,fun ⟨c,h1,h2⟩=>let ⟨n,h3⟩:=h2.bound; ⟨n+1,c,h1,h3⟩⟩
theorem rv {cs:Array Value}:V M (.tuple cs) u↔∃ dX,u= .tuple dX ∧Vs M cs.toList dX.toList :=
  ⟨fun ⟨n,h⟩=>by cases n<;>first | exact h.elim | exact let ⟨c,h1,h2⟩:=h; ⟨c,h1,CD h2⟩,fun ⟨c,h1,h2⟩=>let ⟨n,h3⟩:=h2.bound; ⟨n+1,c,h1,h3⟩⟩
theorem oZ {t:TypeId} {x:Value}:V M (.iface t x) u↔∃ x',u= .iface t x' ∧V M x x' :=
  ⟨fun ⟨n,h⟩=>by cases n<;>first | exact h.elim | exact let ⟨c,h1,h2⟩:=h; ⟨c,h1,_,h2⟩,fun ⟨c,h1,n,h2⟩=>⟨n+1,c,h1,h2⟩⟩
theorem lj {f:Fn} {a b:Array Value}:V M (.func f a b) u↔∃ f' a' b',u= .func f' a' b' ∧vV M f f' ∧Vs M a.toList a'.toList∧Vs M b.toList b'.toList :=
  ⟨fun ⟨n,h⟩=>by
    cases n with
    | zero=>exact h.elim
    | succ n=>exact let ⟨f',a',b',h1,h2,h3,h4⟩:=h; ⟨f',a',b',h1,h2,CD h3,CD h4⟩,
   fun ⟨f',a',b',h1,h2,h3,h4⟩=>by
    obtain ⟨n,h5⟩:=h3.bound
    obtain ⟨m,h6⟩:=h4.bound
    exact ⟨max n m+1,f',a',b',h1,h2,mS (fun _ _ h=>CC h (Nat.le_max_left _ _)) h5,mS (fun _ _ h=>CC h (Nat.le_max_right _ _)) h6⟩⟩
theorem sM:V M undef undef:=rv.2 ⟨#[],rfl,trivial⟩
end
theorem FF {M:Map}:∀ {n:Nat} {v:Value},oW n v=true→V M v v
  | 0,_,h=>by simp [oW] at h
  | n+1,v,h=>by
    unfold oW at h
    have key:∀ l:List Value,l.all (oW n)=true→Vs M l l:=fun l hl=>FD fun x hx=>FF (by simpa using (List.all_eq_true.1 hl x hx))
    cases v with
    | bool b=>exact ji.2 rfl
    | int k z=>exact eM.2 rfl
    | string s=>exact sL.2 rfl
    | nilFunc=>exact ya.2 rfl
    | nilIface=>exact uF.2 rfl
    | pointer a=>cases a with
      | none=>exact xZ.2 rfl
      | some a=>simp at h
    | map a=>cases a with
      | none=>exact CF.2 rfl
      | some a=>simp at h
    | slice a l c=>cases a with
      | none =>
        cases l with
        | succ l=>simp at h
        | zero=>cases c with
          | succ c=>simp at h
          | zero=>exact jN.2 ⟨rfl,rfl,rfl⟩
      | some a=>simp at h
    | agg cs=>exact ru.2 ⟨cs,rfl,key _ h⟩
    | tuple cs=>exact rv.2 ⟨cs,rfl,key _ h⟩
    | iface t x=>exact oZ.2 ⟨x,rfl,FF h⟩
    | float=>simp at h
    | complex=>simp at h
    | chan=>simp at h
    | func=>simp at h
theorem CG {M:Map} {v:Value} (h:plain v=true):V M v v:=FF h
theorem FH {M:Map}:∀ {n:Nat} {v u:Value},oW n v=true→V M v u→u=v
  | 0,_,_,h,_=>by simp [oW] at h
  | n+1,v,u,h,hV=>by
    unfold oW at h
    have key:∀ l l':List Value,l.all (oW n)=true→Vs M l l' →l' =l:=by
      intro l
      induction l with
      | nil=>intro l' _ hl; cases l' with | nil=>rfl | cons=>exact hl.elim
      | cons x xs ih =>
        intro l' ha hl
        cases l' with
        | nil=>exact hl.elim
        | cons y ys =>
          simp only [List.all_cons,Bool.and_eq_true] at ha
          rw [FH ha.1 hl.1,ih ys ha.2 hl.2]
    cases v with
    | bool b=>exact ji.1 hV
    | int k z=>exact eM.1 hV
    | string s=>exact sL.1 hV
    | nilFunc=>exact ya.1 hV
    | nilIface=>exact uF.1 hV
    | pointer a=>cases a with
      | none=>exact xZ.1 hV
      | some a=>simp at h
    | map a=>cases a with
      | none=>exact CF.1 hV
      | some a=>simp at h
    | slice a l c=>cases a with
      | none=>obtain ⟨rfl,rfl,rfl⟩:=jN.1 hV; rfl
      | some a=>simp at h
    | agg cs=>obtain ⟨dX,rfl,hl⟩:=ru.1 hV; rw [Array.toList_inj.1 (key _ _ h hl)]
    | tuple cs=>obtain ⟨dX,rfl,hl⟩:=rv.1 hV; rw [Array.toList_inj.1 (key _ _ h hl)]
    | iface t x=>obtain ⟨x',rfl,hl⟩:=oZ.1 hV; rw [FH h hl]
    | float=>simp at h
    | complex=>simp at h
    | chan=>simp at h
    | func=>simp at h
theorem sN {M:Map} {v u:Value} (h:plain v=true) (hV:V M v u):u=v:=FH h hV
theorem Lf {M:Map} {v u:Value} (h:V M v u):(∃ cs dX,v= .agg cs∧u= .agg dX ∧Vs M cs.toList dX.toList) ∨
    (v.cells= #[v]∧u.cells= #[u]∧one v=one u):=by
  cases v with
  | agg cs=>obtain ⟨dX,rfl,hl⟩:=ru.1 h; exact .inl ⟨cs,dX,rfl,rfl,hl⟩
  | tuple cs=>obtain ⟨dX,rfl,_⟩:=rv.1 h; exact .inr ⟨rfl,rfl,rfl⟩
  | bool b=>rw [ji.1 h]; exact .inr ⟨rfl,rfl,rfl⟩
  | int k z=>rw [eM.1 h]; exact .inr ⟨rfl,rfl,rfl⟩
  | string s=>rw [sL.1 h]; exact .inr ⟨rfl,rfl,rfl⟩
  | nilFunc=>rw [ya.1 h]; exact .inr ⟨rfl,rfl,rfl⟩
  | nilIface=>rw [uF.1 h]; exact .inr ⟨rfl,rfl,rfl⟩
  | iface t x=>obtain ⟨x',rfl,_⟩:=oZ.1 h; exact .inr ⟨rfl,rfl,rfl⟩
  | func f a b=>obtain ⟨f',a',b',rfl,_⟩:=lj.1 h; exact .inr ⟨rfl,rfl,rfl⟩
  | pointer a=>cases a with
    | none=>rw [xZ.1 h]; exact .inr ⟨rfl,rfl,rfl⟩
    | some a=>obtain ⟨x,_,rfl⟩:=mc.1 h; exact .inr ⟨rfl,rfl,rfl⟩
  | slice a l c=>cases a with
    | none=>obtain ⟨_,_,rfl⟩:=jN.1 h; exact .inr ⟨rfl,rfl,rfl⟩
    | some a=>obtain ⟨x,b,cr,_,rfl,_⟩:=gN.1 h; exact .inr ⟨rfl,rfl,rfl⟩
  | map r=>cases r with
    | none=>rw [CF.1 h]; exact .inr ⟨rfl,rfl,rfl⟩
    | some r=>obtain ⟨x,_,rfl⟩:=Ad.1 h; exact .inr ⟨rfl,rfl,rfl⟩
  | float=>obtain ⟨n,h⟩:=h; cases n<;>exact False.elim h
  | complex=>obtain ⟨n,h⟩:=h; cases n<;>exact False.elim h
  | chan=>obtain ⟨n,h⟩:=h; cases n<;>exact False.elim h
theorem Lg {M:Map} {v:Value} {b:Bool} (h:V M v (.bool b)):v= .bool b:=by
  cases v with
  | agg cs=>obtain ⟨dX,h,_⟩:=ru.1 h; cases h
  | tuple cs=>obtain ⟨dX,h,_⟩:=rv.1 h; cases h
  | bool c=>exact (ji.1 h).symm
  | int k z=>exact (eM.1 h).symm
  | string s=>exact (sL.1 h).symm
  | nilFunc=>exact (ya.1 h).symm
  | nilIface=>exact (uF.1 h).symm
  | iface t x=>obtain ⟨x',h,_⟩:=oZ.1 h; cases h
  | func f a b=>obtain ⟨f',a',b',h,_⟩:=lj.1 h; cases h
  | pointer a=>cases a with
    | none=>exact (xZ.1 h).symm
    | some a=>obtain ⟨x,_,h⟩:=mc.1 h; cases h
  | slice a l c=>cases a with
    | none=>obtain ⟨_,_,h⟩:=jN.1 h; cases h
    | some a=>obtain ⟨x,b,cr,_,h,_⟩:=gN.1 h; cases h
  | map r=>cases r with
    | none=>exact (CF.1 h).symm
    | some r=>obtain ⟨x,_,h⟩:=Ad.1 h; cases h
  | float=>obtain ⟨n,h⟩:=h; cases n<;>exact False.elim h
  | complex=>obtain ⟨n,h⟩:=h; cases n<;>exact False.elim h
  | chan=>obtain ⟨n,h⟩:=h; cases n<;>exact False.elim h
theorem FI {M:Map} {v u:Value} (h:V M v u):Vs M v.cells.toList u.cells.toList:=by
  rcases Lf h with ⟨cs,dX,rfl,rfl,hl⟩ | ⟨h1,h2,_⟩
  · exact hl
  · rw [h1,h2]; exact ⟨h,trivial⟩
theorem Lh {M:Map} {v u:Value} (h:V M v u):one v=one u:=by
  rcases Lf h with ⟨cs,dX,rfl,rfl,hl⟩ | ⟨_,_,h3⟩
  · rfl
  · exact h3
theorem Ae {M:Map} {T tmps:List Value} (h:Vs M T tmps) (i:Nat):V M (nth undef T i) (tmps.getD i undef):=by
  rw [jL]
  obtain ⟨hl,hr⟩:=iR.1 h
  cases hT:T[i]? with
  | some x =>
    obtain ⟨y,hy,TN⟩:=hr i x hT
    simp [List.getD,hT,hy,TN]
  | none =>
    have:tmps[i]? =none:=by
      rw [List.getElem?_eq_none_iff] at hT ⊢; omega
    simp [List.getD,hT,this,sM]
theorem dh {M:Map} {T:List Value} {a:Act} (h:Vs M T a.tmps.toList) {x:Operand} (hx:dm x=true):V M (ev T x) (a.eval x):=by
  cases x with
  | tmp t=>simpa [ev,Act.eval] using Ae h t
  | const v=>exact CG hx
  | global g=>simp [dm] at hx
  | func f=>exact lj.2 ⟨.func f,#[],#[],rfl,rfl,trivial,trivial⟩
end Go.Proofs.YtphandknhnkhfaaGreat.Gh
