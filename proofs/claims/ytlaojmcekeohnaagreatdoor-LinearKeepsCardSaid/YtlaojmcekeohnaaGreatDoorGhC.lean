import Derived.Test.YtlaojmcekeohnaaGreatDoorGhB
namespace Go.Proofs.YtlaojmcekeohnaaGreatDoor.Gh
open Go
def lrel {α β:Type} (R:α→β→Prop):List α→List β→Prop
  | [],[]=>True
  | x::xs,y::ys=>R x y∧lrel R xs ys
  | _,_=>False
theorem lrel_mono {α β:Type} {R S:α→β→Prop} (h:∀ x y,R x y→S x y):∀ {l:List α} {l' :List β},lrel R l l' →lrel S l l'
  | [],[],_=>trivial
  | _::_,_::_,hl=>⟨h _ _ hl.1,lrel_mono h hl.2⟩
  | [],_::_,hl=>hl.elim
  | _::_,[],hl=>hl.elim
theorem lrel_length {α β:Type} {R:α→β→Prop}:∀ {l:List α} {l' :List β},lrel R l l' →l.length=l'.length
  | [],[],_=>rfl
  | _::_,_::_,hl=>by simp [lrel_length hl.2]
  | [],_::_,hl=>hl.elim
  | _::_,[],hl=>hl.elim
theorem lrel_iff {α β:Type} {R:α→β→Prop}:∀ {l:List α} {l' :List β},lrel R l l' ↔l.length=l'.length∧∀ (i:Nat) (x:α),l[i]? =some x→∃ y,l'[i]? =some y∧R x y
  | [],[]=>by simp [lrel]
  | [],_::_=>by simp [lrel]
  | _::_,[]=>by simp [lrel]
  | x::xs,y::ys=>by
    constructor
    · rintro ⟨h1,h2⟩
      obtain ⟨hl,hr⟩:=lrel_iff.1 h2
      refine ⟨by simp [hl],fun i a ha=> ?_⟩
      cases i with
      | zero=>simp at ha; subst ha; exact ⟨y,by simp,h1⟩
      | succ i=>simpa using hr i a (by simpa using ha)
    · rintro ⟨hl,hr⟩
      refine ⟨?_,lrel_iff.2 ⟨by simpa using hl,fun i a ha=> ?_⟩⟩
      · obtain ⟨b,hb,hR⟩:=hr 0 x (by simp)
        simp at hb; subst hb; exact hR
      · simpa using hr (i+1) a (by simpa using ha)
theorem lrel_append {α β:Type} {R:α→β→Prop}:∀ {l:List α} {l' :List β} {m:List α} {m' :List β},lrel R l l' →lrel R m m' →lrel R (l++m) (l' ++m')
  | [],[],_,_,_,h=>h
  | _::_,_::_,_,_,hl,h=>⟨hl.1,lrel_append hl.2 h⟩
  | [],_::_,_,_,hl,_=>hl.elim
  | _::_,[],_,_,hl,_=>hl.elim
theorem lrel_refl {α:Type} {R:α→α→Prop}:∀ {l:List α},(∀ x∈l,R x x)→lrel R l l
  | [],_=>trivial
  | x::_,h=>⟨h x (by simp),lrel_refl fun y hy=>h y (by simp [hy])⟩
theorem lrel_take {α β:Type} {R:α→β→Prop}:∀ (n:Nat) {l:List α} {l' :List β},lrel R l l' →lrel R (l.take n) (l'.take n)
  | 0,_,_,_=>by simp [lrel]
  | _+1,[],[],_=>by simp [lrel]
  | n+1,_::_,_::_,hl=>⟨hl.1,lrel_take n hl.2⟩
  | _+1,[],_::_,hl=>hl.elim
  | _+1,_::_,[],hl=>hl.elim
theorem lrel_drop {α β:Type} {R:α→β→Prop}:∀ (n:Nat) {l:List α} {l' :List β},lrel R l l' →lrel R (l.drop n) (l'.drop n)
  | 0,_,_,h=>by simpa using h
  | _+1,[],[],_=>by simp [lrel]
  | n+1,_::_,_::_,hl=>lrel_drop n hl.2
  | _+1,[],_::_,hl=>hl.elim
  | _+1,_::_,[],hl=>hl.elim
theorem dropN_eq {α:Type}:∀ (n:Nat) (l:List α),dropN n l=l.drop n
  | 0,_=>by simp [dropN_zero]
  | _+1,[]=>by simp [dropN_nil]
  | n+1,_::xs=>by simp [dropN_succ,dropN_eq n xs]
theorem takeN_eq {α:Type}:∀ {n:Nat} {l r:List α},takeN n l=some r→r=l.take n∧n≤l.length
  | 0,_,_,h=>by simp [takeN_zero] at h; simp [← h]
  | _+1,[],_,h=>by simp [takeN_nil] at h
  | n+1,x::xs,r,h=>by
    simp only [takeN_succ] at h
    cases ht:takeN n xs with
    | none=>simp [ht] at h
    | some l =>
      simp [ht] at h
      obtain ⟨h1,h2⟩:=takeN_eq ht
      subst h
      exact ⟨by simp [h1],by simp; omega⟩
theorem getN_eq {α:Type}:∀ (l:List α) (i:Nat),getN l i=l[i]?
  | [],_=>by simp [getN_nil]
  | _::_,0=>by simp [getN_zero]
  | _::xs,n+1=>by simp [getN_succ,getN_eq xs n]
theorem nth_eq {α:Type} (d:α):∀ (l:List α) (i:Nat),nth d l i=l.getD i d
  | [],_=>by simp [nth_nil]
  | _::_,0=>by simp [nth_zero]
  | _::xs,n+1=>by simp [nth_succ,nth_eq d xs n]
theorem splice_spec {α:Type}:∀ {l:List α} {n:Nat} {vs r:List α},splice l n vs=some r →
    r.length=l.length∧n+vs.length≤l.length∧∀ i,r[i]? =if n≤i∧i<n+vs.length then vs[i - n]? else l[i]?
  | l,0,[],r,h=>by simp [splice_end] at h; subst h; exact ⟨rfl,by simp,fun i=>by simp⟩
  | [],n+1,vs,_,h=>by cases vs<;>simp [splice_nil] at h
  | [],0,_::_,_,h=>by simp [splice_none] at h
  | x::xs,n+1,vs,r,h=>by
    simp only [splice_succ] at h
    cases hs:splice xs n vs with
    | none=>simp [hs] at h
    | some l' =>
      simp [hs] at h
      subst h
      obtain ⟨h1,h2,h3⟩:=splice_spec hs
      refine ⟨by simp [h1],by simp; omega,fun i=> ?_⟩
      cases i with
      | zero=>simp
      | succ i =>
        simp only [List.getElem?_cons_succ,h3 i]
        by_cases hc:n≤i∧i<n+vs.length
        · rw [if_pos hc,if_pos (by omega)]; congr 1; omega
        · rw [if_neg hc,if_neg (by omega)]
  | x::xs,0,v::vs,r,h=>by
    simp only [splice_put] at h
    cases hs:splice xs 0 vs with
    | none=>simp [hs] at h
    | some l' =>
      simp [hs] at h
      subst h
      obtain ⟨h1,h2,h3⟩:=splice_spec hs
      refine ⟨by simp [h1],by simp at h2 ⊢; omega,fun i=> ?_⟩
      cases i with
      | zero=>simp
      | succ i =>
        simp only [List.getElem?_cons_succ,h3 i]
        by_cases hc:0≤i∧i<0+vs.length
        · rw [if_pos hc,if_pos (by simp; omega)]; simp
        · rw [if_neg hc,if_neg (by simp; omega)]
structure Blk where
  blk:Nat
  off:Nat
  ex:Nat
  esz:Nat
  opn:Bool
  len:Nat
structure Map where
  mu:Nat→Option Blk
  lp:Nat→Option Nat
  mp:Nat→Option Nat
structure Map.Le (M M' :Map):Prop where
  mu:∀ g x,M.mu g=some x→M'.mu g=some x
  lp:∀ l r,M.lp l=some r→M'.lp l=some r
  mp:∀ l r,M.mp l=some r→M'.mp l=some r
theorem Map.Le.refl (M:Map):M.Le M:=⟨fun _ _ h=>h,fun _ _ h=>h,fun _ _ h=>h⟩
theorem Map.Le.trans {A B C:Map} (h:A.Le B) (k:B.Le C):A.Le C:=⟨fun g x e=>k.mu g x (h.mu g x e),fun l r e=>k.lp l r (h.lp l r e),fun l r e=>k.mp l r (h.mp l r e)⟩
def fnrel (M:Map) (f f' :Fn):Prop :=
  match f with
  | .func g=>f' = .func g
  | .yield l=>∃ r,M.lp l=some r∧f' = .yield r
  | _=>False
def vrel (M:Map):Nat→Value→Value→Prop
  | 0,_,_=>False
  | n+1,v,u=>match v with
    | .bool b=>u= .bool b
    | .int k z=>u= .int k z
    | .string s=>u= .string s
    | .pointer none=>u= .pointer none
    | .pointer (some a)=>∃ x,M.mu a.block=some x∧u= .pointer (some ⟨x.blk,x.off+a.off,none⟩)
    | .slice none l c=>l=0∧c=0∧u= .slice none 0 0
    | .slice (some a) l c=>∃ x b cr,M.mu a.block=some x∧u= .slice (some b) l cr∧l≤c ∧
        (cr=c∨(x.opn=true∧a.off+c*x.esz=x.len∧cr=c+x.ex))∧(cr≠0→b=⟨x.blk,x.off+a.off,none⟩)
    | .map none=>u= .map none
    | .map (some l)=>∃ r,M.mp l=some r∧u= .map (some r)
    | .nilFunc=>u= .nilFunc
    | .nilIface=>u= .nilIface
    | .func f a b=>∃ f' a' b',u= .func f' a' b' ∧fnrel M f f' ∧lrel (vrel M n) a.toList a'.toList∧lrel (vrel M n) b.toList b'.toList
    | .iface t x=>∃ x',u= .iface t x' ∧vrel M n x x'
    | .agg cs=>∃ cs',u= .agg cs' ∧lrel (vrel M n) cs.toList cs'.toList
    | .tuple cs=>∃ cs',u= .tuple cs' ∧lrel (vrel M n) cs.toList cs'.toList
    | _=>False
theorem vrel_succ {M:Map}:∀ {n:Nat} {v u:Value},vrel M n v u→vrel M (n+1) v u
  | 0,_,_,h=>h.elim
  | n+1,v,u,h=>by
    unfold vrel at h ⊢
    cases v with
    | func f a b =>
      obtain ⟨f',a',b',h1,h2,h3,h4⟩:=h
      exact ⟨f',a',b',h1,h2,lrel_mono (fun _ _=>vrel_succ) h3,lrel_mono (fun _ _=>vrel_succ) h4⟩
    | iface t x=>obtain ⟨x',h1,h2⟩:=h; exact ⟨x',h1,vrel_succ h2⟩
    | agg cs=>obtain ⟨cs',h1,h2⟩:=h; exact ⟨cs',h1,lrel_mono (fun _ _=>vrel_succ) h2⟩
    | tuple cs=>obtain ⟨cs',h1,h2⟩:=h; exact ⟨cs',h1,lrel_mono (fun _ _=>vrel_succ) h2⟩
    | pointer a=>cases a<;>exact h
    | slice a l c=>cases a<;>exact h
    | map r=>cases r<;>exact h
    | _=>exact h
theorem vrel_le {M:Map} {n m:Nat} {v u:Value} (h:vrel M n v u) (hm:n≤m):vrel M m v u:=by
  induction hm with
  | refl=>exact h
  | step _ ih=>exact vrel_succ ih
theorem fnrel_mono {M M' :Map} (hM:M.Le M') {f f' :Fn} (h:fnrel M f f'):fnrel M' f f' :=by
  cases f<;>first | exact h | (obtain ⟨r,h1,h2⟩:=h; exact ⟨r,hM.lp _ _ h1,h2⟩)
theorem vrel_mono {M M' :Map} (hM:M.Le M'):∀ {n:Nat} {v u:Value},vrel M n v u→vrel M' n v u
  | 0,_,_,h=>h.elim
  | n+1,v,u,h=>by
    unfold vrel at h ⊢
    cases v with
    | func f a b =>
      obtain ⟨f',a',b',h1,h2,h3,h4⟩:=h
      exact ⟨f',a',b',h1,fnrel_mono hM h2,lrel_mono (fun _ _=>vrel_mono hM) h3,lrel_mono (fun _ _=>vrel_mono hM) h4⟩
    | iface t x=>obtain ⟨x',h1,h2⟩:=h; exact ⟨x',h1,vrel_mono hM h2⟩
    | agg cs=>obtain ⟨cs',h1,h2⟩:=h; exact ⟨cs',h1,lrel_mono (fun _ _=>vrel_mono hM) h2⟩
    | tuple cs=>obtain ⟨cs',h1,h2⟩:=h; exact ⟨cs',h1,lrel_mono (fun _ _=>vrel_mono hM) h2⟩
    | pointer a =>
      cases a with
      | none=>exact h
      | some a=>obtain ⟨x,h1,h2⟩:=h; exact ⟨x,hM.mu _ _ h1,h2⟩
    | slice a l c =>
      cases a with
      | none=>exact h
      | some a=>obtain ⟨x,b,cr,h1,h2⟩:=h; exact ⟨x,b,cr,hM.mu _ _ h1,h2⟩
    | map r =>
      cases r with
      | none=>exact h
      | some r=>obtain ⟨x,h1,h2⟩:=h; exact ⟨x,hM.mp _ _ h1,h2⟩
    | _=>exact h
def V (M:Map) (v u:Value):Prop:=∃ n,vrel M n v u
def Vs (M:Map) (l l' :List Value):Prop:=lrel (V M) l l'
theorem V.mono {M M' :Map} (hM:M.Le M') {v u:Value} (h:V M v u):V M' v u:=let ⟨n,h⟩:=h; ⟨n,vrel_mono hM h⟩
theorem Vs.mono {M M' :Map} (hM:M.Le M') {v u:List Value} (h:Vs M v u):Vs M' v u:=lrel_mono (fun _ _=>V.mono hM) h
theorem Vs_of {M:Map} {n:Nat} {l l' :List Value} (h:lrel (vrel M n) l l'):Vs M l l' :=lrel_mono (fun _ _ h=>⟨n,h⟩) h
theorem Vs.bound {M:Map}:∀ {l l' :List Value},Vs M l l' →∃ n,lrel (vrel M n) l l'
  | [],[],_=>⟨0,trivial⟩
  | _::_,_::_,h=>by
    obtain ⟨⟨n,h1⟩,h2⟩:=h
    obtain ⟨m,h3⟩:=Vs.bound h2
    exact ⟨max n m,vrel_le h1 (Nat.le_max_left _ _),lrel_mono (fun _ _ h=>vrel_le h (Nat.le_max_right _ _)) h3⟩
  | [],_::_,h=>h.elim
  | _::_,[],h=>h.elim
section
variable {M:Map} {u:Value}
theorem V_bool {b:Bool}:V M (.bool b) u↔u= .bool b:=⟨fun ⟨n,h⟩=>by cases n<;>first | exact h.elim | exact h,fun h=>⟨1,h⟩⟩
theorem V_int {k:IntKind} {z:Int}:V M (.int k z) u↔u= .int k z:=⟨fun ⟨n,h⟩=>by cases n<;>first | exact h.elim | exact h,fun h=>⟨1,h⟩⟩
theorem V_string {s:ByteArray}:V M (.string s) u↔u= .string s:=⟨fun ⟨n,h⟩=>by cases n<;>first | exact h.elim | exact h,fun h=>⟨1,h⟩⟩
theorem V_nil:V M (.pointer none) u↔u= .pointer none:=⟨fun ⟨n,h⟩=>by cases n<;>first | exact h.elim | exact h,fun h=>⟨1,h⟩⟩
theorem V_nilFunc:V M .nilFunc u↔u= .nilFunc:=⟨fun ⟨n,h⟩=>by cases n<;>first | exact h.elim | exact h,fun h=>⟨1,h⟩⟩
theorem V_nilIface:V M .nilIface u↔u= .nilIface:=⟨fun ⟨n,h⟩=>by cases n<;>first | exact h.elim | exact h,fun h=>⟨1,h⟩⟩
theorem V_nilMap:V M (.map none) u↔u= .map none:=⟨fun ⟨n,h⟩=>by cases n<;>first | exact h.elim | exact h,fun h=>⟨1,h⟩⟩
theorem V_map {l:Nat}:V M (.map (some l)) u↔∃ r,M.mp l=some r∧u= .map (some r):=⟨fun ⟨n,h⟩=>by cases n<;>first | exact h.elim | exact h,fun h=>⟨1,h⟩⟩
theorem V_nilSlice {l c:Nat}:V M (.slice none l c) u↔l=0∧c=0∧u= .slice none 0 0:=⟨fun ⟨n,h⟩=>by cases n<;>first | exact h.elim | exact h,fun h=>⟨1,h⟩⟩
theorem V_ptr {a:Addr}:V M (.pointer (some a)) u↔∃ x,M.mu a.block=some x∧u= .pointer (some ⟨x.blk,x.off+a.off,none⟩) :=
  ⟨fun ⟨n,h⟩=>by cases n<;>first | exact h.elim | exact h,fun h=>⟨1,h⟩⟩
theorem V_slice {a:Addr} {l c:Nat}:V M (.slice (some a) l c) u↔∃ x b cr,M.mu a.block=some x∧u= .slice (some b) l cr∧l≤c ∧
    (cr=c∨(x.opn=true∧a.off+c*x.esz=x.len∧cr=c+x.ex))∧(cr≠0→b=⟨x.blk,x.off+a.off,none⟩) :=
  ⟨fun ⟨n,h⟩=>by cases n<;>first | exact h.elim | exact h,fun h=>⟨1,h⟩⟩
theorem V_agg {cs:Array Value}:V M (.agg cs) u↔∃ cs',u= .agg cs' ∧Vs M cs.toList cs'.toList :=
  ⟨fun ⟨n,h⟩=>by cases n<;>first | exact h.elim | exact let ⟨c,h1,h2⟩:=h; ⟨c,h1,Vs_of h2⟩,fun ⟨c,h1,h2⟩=>let ⟨n,h3⟩:=h2.bound; ⟨n+1,c,h1,h3⟩⟩
theorem V_tuple {cs:Array Value}:V M (.tuple cs) u↔∃ cs',u= .tuple cs' ∧Vs M cs.toList cs'.toList :=
  ⟨fun ⟨n,h⟩=>by cases n<;>first | exact h.elim | exact let ⟨c,h1,h2⟩:=h; ⟨c,h1,Vs_of h2⟩,fun ⟨c,h1,h2⟩=>let ⟨n,h3⟩:=h2.bound; ⟨n+1,c,h1,h3⟩⟩
theorem V_iface {t:TypeId} {x:Value}:V M (.iface t x) u↔∃ x',u= .iface t x' ∧V M x x' :=
  ⟨fun ⟨n,h⟩=>by cases n<;>first | exact h.elim | exact let ⟨c,h1,h2⟩:=h; ⟨c,h1,_,h2⟩,fun ⟨c,h1,n,h2⟩=>⟨n+1,c,h1,h2⟩⟩
theorem V_func {f:Fn} {a b:Array Value}:V M (.func f a b) u↔∃ f' a' b',u= .func f' a' b' ∧fnrel M f f' ∧Vs M a.toList a'.toList∧Vs M b.toList b'.toList :=
  ⟨fun ⟨n,h⟩=>by
    cases n with
    | zero=>exact h.elim
    | succ n=>exact let ⟨f',a',b',h1,h2,h3,h4⟩:=h; ⟨f',a',b',h1,h2,Vs_of h3,Vs_of h4⟩,
   fun ⟨f',a',b',h1,h2,h3,h4⟩=>by
    obtain ⟨n,h5⟩:=h3.bound
    obtain ⟨m,h6⟩:=h4.bound
    exact ⟨max n m+1,f',a',b',h1,h2,lrel_mono (fun _ _ h=>vrel_le h (Nat.le_max_left _ _)) h5,lrel_mono (fun _ _ h=>vrel_le h (Nat.le_max_right _ _)) h6⟩⟩
theorem V_undef:V M undef undef:=V_tuple.2 ⟨#[],rfl,trivial⟩
end
theorem plainD_rel {M:Map}:∀ {n:Nat} {v:Value},plainD n v=true→V M v v
  | 0,_,h=>by simp [plainD] at h
  | n+1,v,h=>by
    unfold plainD at h
    have key:∀ l:List Value,l.all (plainD n)=true→Vs M l l:=fun l hl=>lrel_refl fun x hx=>plainD_rel (by simpa using (List.all_eq_true.1 hl x hx))
    cases v with
    | bool b=>exact V_bool.2 rfl
    | int k z=>exact V_int.2 rfl
    | string s=>exact V_string.2 rfl
    | nilFunc=>exact V_nilFunc.2 rfl
    | nilIface=>exact V_nilIface.2 rfl
    | pointer a=>cases a with
      | none=>exact V_nil.2 rfl
      | some a=>simp at h
    | map a=>cases a with
      | none=>exact V_nilMap.2 rfl
      | some a=>simp at h
    | slice a l c=>cases a with
      | none =>
        cases l with
        | succ l=>simp at h
        | zero=>cases c with
          | succ c=>simp at h
          | zero=>exact V_nilSlice.2 ⟨rfl,rfl,rfl⟩
      | some a=>simp at h
    | agg cs=>exact V_agg.2 ⟨cs,rfl,key _ h⟩
    | tuple cs=>exact V_tuple.2 ⟨cs,rfl,key _ h⟩
    | iface t x=>exact V_iface.2 ⟨x,rfl,plainD_rel h⟩
    | float=>simp at h
    | complex=>simp at h
    | chan=>simp at h
    | func=>simp at h
theorem plain_rel {M:Map} {v:Value} (h:plain v=true):V M v v:=plainD_rel h
theorem plainD_eq {M:Map}:∀ {n:Nat} {v u:Value},plainD n v=true→V M v u→u=v
  | 0,_,_,h,_=>by simp [plainD] at h
  | n+1,v,u,h,hV=>by
    unfold plainD at h
    have key:∀ l l' :List Value,l.all (plainD n)=true→Vs M l l' →l' =l:=by
      intro l
      induction l with
      | nil=>intro l' _ hl; cases l' with | nil=>rfl | cons=>exact hl.elim
      | cons x xs ih =>
        intro l' ha hl
        cases l' with
        | nil=>exact hl.elim
        | cons y ys =>
          simp only [List.all_cons,Bool.and_eq_true] at ha
          rw [plainD_eq ha.1 hl.1,ih ys ha.2 hl.2]
    cases v with
    | bool b=>exact V_bool.1 hV
    | int k z=>exact V_int.1 hV
    | string s=>exact V_string.1 hV
    | nilFunc=>exact V_nilFunc.1 hV
    | nilIface=>exact V_nilIface.1 hV
    | pointer a=>cases a with
      | none=>exact V_nil.1 hV
      | some a=>simp at h
    | map a=>cases a with
      | none=>exact V_nilMap.1 hV
      | some a=>simp at h
    | slice a l c=>cases a with
      | none=>obtain ⟨rfl,rfl,rfl⟩:=V_nilSlice.1 hV; rfl
      | some a=>simp at h
    | agg cs=>obtain ⟨cs',rfl,hl⟩:=V_agg.1 hV; rw [Array.toList_inj.1 (key _ _ h hl)]
    | tuple cs=>obtain ⟨cs',rfl,hl⟩:=V_tuple.1 hV; rw [Array.toList_inj.1 (key _ _ h hl)]
    | iface t x=>obtain ⟨x',rfl,hl⟩:=V_iface.1 hV; rw [plainD_eq h hl]
    | float=>simp at h
    | complex=>simp at h
    | chan=>simp at h
    | func=>simp at h
theorem plain_eq {M:Map} {v u:Value} (h:plain v=true) (hV:V M v u):u=v:=plainD_eq h hV
theorem V_form {M:Map} {v u:Value} (h:V M v u):(∃ cs cs',v= .agg cs∧u= .agg cs' ∧Vs M cs.toList cs'.toList) ∨
    (v.cells= #[v]∧u.cells= #[u]∧one v=one u):=by
  cases v with
  | agg cs=>obtain ⟨cs',rfl,hl⟩:=V_agg.1 h; exact .inl ⟨cs,cs',rfl,rfl,hl⟩
  | tuple cs=>obtain ⟨cs',rfl,_⟩:=V_tuple.1 h; exact .inr ⟨rfl,rfl,rfl⟩
  | bool b=>rw [V_bool.1 h]; exact .inr ⟨rfl,rfl,rfl⟩
  | int k z=>rw [V_int.1 h]; exact .inr ⟨rfl,rfl,rfl⟩
  | string s=>rw [V_string.1 h]; exact .inr ⟨rfl,rfl,rfl⟩
  | nilFunc=>rw [V_nilFunc.1 h]; exact .inr ⟨rfl,rfl,rfl⟩
  | nilIface=>rw [V_nilIface.1 h]; exact .inr ⟨rfl,rfl,rfl⟩
  | iface t x=>obtain ⟨x',rfl,_⟩:=V_iface.1 h; exact .inr ⟨rfl,rfl,rfl⟩
  | func f a b=>obtain ⟨f',a',b',rfl,_⟩:=V_func.1 h; exact .inr ⟨rfl,rfl,rfl⟩
  | pointer a=>cases a with
    | none=>rw [V_nil.1 h]; exact .inr ⟨rfl,rfl,rfl⟩
    | some a=>obtain ⟨x,_,rfl⟩:=V_ptr.1 h; exact .inr ⟨rfl,rfl,rfl⟩
  | slice a l c=>cases a with
    | none=>obtain ⟨_,_,rfl⟩:=V_nilSlice.1 h; exact .inr ⟨rfl,rfl,rfl⟩
    | some a=>obtain ⟨x,b,cr,_,rfl,_⟩:=V_slice.1 h; exact .inr ⟨rfl,rfl,rfl⟩
  | map r=>cases r with
    | none=>rw [V_nilMap.1 h]; exact .inr ⟨rfl,rfl,rfl⟩
    | some r=>obtain ⟨x,_,rfl⟩:=V_map.1 h; exact .inr ⟨rfl,rfl,rfl⟩
  | float=>obtain ⟨n,h⟩:=h; cases n<;>exact False.elim h
  | complex=>obtain ⟨n,h⟩:=h; cases n<;>exact False.elim h
  | chan=>obtain ⟨n,h⟩:=h; cases n<;>exact False.elim h
theorem V_isBool {M:Map} {v:Value} {b:Bool} (h:V M v (.bool b)):v= .bool b:=by
  cases v with
  | agg cs=>obtain ⟨cs',h,_⟩:=V_agg.1 h; cases h
  | tuple cs=>obtain ⟨cs',h,_⟩:=V_tuple.1 h; cases h
  | bool c=>exact (V_bool.1 h).symm
  | int k z=>exact (V_int.1 h).symm
  | string s=>exact (V_string.1 h).symm
  | nilFunc=>exact (V_nilFunc.1 h).symm
  | nilIface=>exact (V_nilIface.1 h).symm
  | iface t x=>obtain ⟨x',h,_⟩:=V_iface.1 h; cases h
  | func f a b=>obtain ⟨f',a',b',h,_⟩:=V_func.1 h; cases h
  | pointer a=>cases a with
    | none=>exact (V_nil.1 h).symm
    | some a=>obtain ⟨x,_,h⟩:=V_ptr.1 h; cases h
  | slice a l c=>cases a with
    | none=>obtain ⟨_,_,h⟩:=V_nilSlice.1 h; cases h
    | some a=>obtain ⟨x,b,cr,_,h,_⟩:=V_slice.1 h; cases h
  | map r=>cases r with
    | none=>exact (V_nilMap.1 h).symm
    | some r=>obtain ⟨x,_,h⟩:=V_map.1 h; cases h
  | float=>obtain ⟨n,h⟩:=h; cases n<;>exact False.elim h
  | complex=>obtain ⟨n,h⟩:=h; cases n<;>exact False.elim h
  | chan=>obtain ⟨n,h⟩:=h; cases n<;>exact False.elim h
theorem V_cells {M:Map} {v u:Value} (h:V M v u):Vs M v.cells.toList u.cells.toList:=by
  rcases V_form h with ⟨cs,cs',rfl,rfl,hl⟩ | ⟨h1,h2,_⟩
  · exact hl
  · rw [h1,h2]; exact ⟨h,trivial⟩
theorem V_one {M:Map} {v u:Value} (h:V M v u):one v=one u:=by
  rcases V_form h with ⟨cs,cs',rfl,rfl,hl⟩ | ⟨_,_,h3⟩
  · rfl
  · exact h3
theorem nth_rel {M:Map} {T tmps:List Value} (h:Vs M T tmps) (i:Nat):V M (nth undef T i) (tmps.getD i undef):=by
  rw [nth_eq]
  obtain ⟨hl,hr⟩:=lrel_iff.1 h
  cases hT:T[i]? with
  | some x =>
    obtain ⟨y,hy,hxy⟩:=hr i x hT
    simp [List.getD,hT,hy,hxy]
  | none =>
    have:tmps[i]? =none:=by
      rw [List.getElem?_eq_none_iff] at hT ⊢; omega
    simp [List.getD,hT,this,V_undef]
theorem ev_rel {M:Map} {T:List Value} {a:Act} (h:Vs M T a.tmps.toList) {x:Operand} (hx:okX x=true):V M (ev T x) (a.eval x):=by
  cases x with
  | tmp t=>simpa [ev,Act.eval] using nth_rel h t
  | const v=>exact plain_rel hx
  | global g=>simp [okX] at hx
  | func f=>exact V_func.2 ⟨.func f,#[],#[],rfl,rfl,trivial,trivial⟩
end Go.Proofs.YtlaojmcekeohnaaGreatDoor.Gh
