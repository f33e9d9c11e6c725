import Derived.Test.YtkhlabammcghbaaGreatGhPS
namespace Go.Proofs.YtkhlabammcghbaaGreat.Gh
open Go
set_option linter.unusedVariables false
@[simp] theorem aof (k:IntKind) (x:Int):Value.cells (.int k x)= #[.int k x]:=Eq.trans rfl rfl
@[simp] theorem aog (x:Bool):Value.cells (.bool x)= #[.bool x]:=Eq.trans rfl rfl
@[simp] theorem aoh (x:Option Addr):Value.cells (.pointer x)= #[.pointer x]:=Eq.trans rfl rfl
@[simp] theorem aoi (x:Option Addr) (n c:Nat):Value.cells (.slice x n c)= #[.slice x n c]:=Eq.trans rfl rfl
@[simp] theorem aoj (f:Fn) (a b:Array Value):Value.cells (.func f a b)= #[.func f a b]:=Eq.trans rfl rfl
@[simp] theorem aok:Value.cells .nilFunc= #[.nilFunc]:=Eq.trans rfl rfl
@[simp] theorem aol (l:List Value):Value.cells (.agg ⟨l⟩)=⟨l⟩:=Eq.trans rfl rfl
@[simp] theorem aom {α:Type} (l:List α):splice l 0 []=some l:=cg l
@[simp] theorem aon {α:Type} (x:α) (xs:List α) (n:Nat) (vs:List α):splice (x::xs) (n+1) vs=match splice xs n vs with | some l=>some (x::l) | none=>none:=gA x xs n vs
@[simp] theorem aoo {α:Type} (x:α) (xs:List α) (v:α) (vs:List α):splice (x::xs) 0 (v::vs)=match splice xs 0 vs with | some l=>some (v::l) | none=>none:=ch x xs v vs
@[simp] theorem aop (cs:List Value):oz cs []=some cs:=Eq.trans (by cases cs<;>rfl) rfl
@[simp] theorem aoq (cs:List Value) (o s:Nat) (v:Value) (r:List (Nat×Nat×Value)):oz cs ((o,s,v)::r)=if v.cells.size=s then (match splice cs o v.cells.toList with | some c=>oz c r | none=>none) else none:=Eq.trans (by cases cs<;>rfl) rfl
@[simp] theorem aor (z:List Value) (l:List (Nat×Nat×Value)):sa z l=match oz z l with | some c=>some (.agg ⟨c⟩) | none=>none:=Eq.trans rfl rfl
@[simp] theorem aos (z:List Value) (l:List (Nat×Nat×Value)) (n s:Nat) (G:GS):pC z l n s G=match oz z l with | some c=>some (.slice (some ⟨G.nx,0,none⟩) n n,G.push ⟨c,s,false,1⟩) | none=>none:=Eq.trans rfl rfl
@[simp] theorem aot {α:Type} (z:List α):rep z 0=[]:=Eq.trans rfl rfl
@[simp] theorem aou {α:Type} (z:List α):rep z 1=z:=by show z++[]=z; simp
@[simp] theorem aov {α:Type} (z:List α):rep z 2=z++z:=by show z++(z++[])=_; simp
@[simp] theorem xy (G:GS) (b o:Nat):G.cell b o=match G.obj b with | some ob=>if ob.mode=2 then none else ob.cells[o]? | none=>none:=Cf G b o
@[simp] theorem mw (n b o:Nat) (G:GS):fO (n+1) b o G=nD (n+1) o (G.obj b):=JU n b o G
@[simp] theorem aow (n o:Nat) (cs:List Value) (e:Nat) (op:Bool) (m:Nat):nD n o (some ⟨cs,e,op,m⟩)=if m=2 then none else if o+n≤cs.length then some (.agg ⟨(cs.drop o).take n⟩) else none:=Eq.trans rfl rfl
@[simp] theorem JW (n b o:Nat) (v:Value) (G:GS):lq n b o v G=match ku n o v (G.obj b) with | some ob=>some (G.put b ob) | none=>none:=RJ n b o v G
@[simp] theorem aox (n o:Nat) (ds cs:List Value) (e:Nat) (op:Bool):ku n o (.agg ⟨ds⟩) (some ⟨cs,e,op,1⟩)=if ds.length=n∧ds.all one=true∧o+ds.length≤cs.length then some ⟨gY cs o ds,e,op,1⟩ else none:=JV n o ds cs e op
@[simp] theorem Ch {α:Type} (l:List α) (o:Nat) (vs:List α):gY l o vs=l.take o++vs++l.drop (o+vs.length):=Eq.trans rfl rfl
@[simp] theorem aoy (sz off:Nat) (l:List Value):xj sz off l=if sz≤(l.drop off).length then some (.agg ⟨(l.drop off).take sz⟩) else none:=by
  unfold xj
  rw [yu,Ep]
  by_cases h:sz≤(l.drop off).length
  · rw [if_pos h,if_pos h]
  · rw [if_neg h,if_neg h]
theorem E0 (n:Nat):∀ l:List Value,dh.mU n l l=l.all fun x=>dh n x x
  | []=>by simp [dh.mU]
  | x::l=>by simp [dh.mU,E0 n l]
@[simp] theorem aoz (l:List Value):bp (some (.agg ⟨l⟩)) (.agg ⟨l⟩)=l.all fun x=>dh 3 x x:=by
  rw [← E0]
  simp only [bp,same,dh]
@[simp] theorem aoA (n:Nat) (k:IntKind) (x:Int):dh (n+1) (.int k x) (.int k x)=true:=by simp [dh]
@[simp] theorem aoB (n:Nat) (x:Bool):dh (n+1) (.bool x) (.bool x)=true:=by simp [dh]
@[simp] theorem aoC (n:Nat) (x:Option Addr):dh (n+1) (.pointer x) (.pointer x)=true:=by simp [dh]
@[simp] theorem aoD (n:Nat) (x:Option Addr) (a b:Nat):dh (n+1) (.slice x a b) (.slice x a b)=true:=by simp [dh]
@[simp] theorem aoE:bp (some .nilFunc) .nilFunc=true:=by simp [bp,same,dh]
end Go.Proofs.YtkhlabammcghbaaGreat.Gh
