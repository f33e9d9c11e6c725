import Derived.Test.YtphandknhnkhfaaGreatGhPS
namespace Go.Proofs.YtphandknhnkhfaaGreat.Gh
open Go
set_option linter.unusedVariables false
@[simp] theorem apd (k:IntKind) (x:Int):Value.cells (.int k x)= #[.int k x]:=Eq.trans rfl rfl
@[simp] theorem ape (x:Bool):Value.cells (.bool x)= #[.bool x]:=Eq.trans rfl rfl
@[simp] theorem apf (x:Option Addr):Value.cells (.pointer x)= #[.pointer x]:=Eq.trans rfl rfl
@[simp] theorem apg (x:Option Addr) (n c:Nat):Value.cells (.slice x n c)= #[.slice x n c]:=Eq.trans rfl rfl
@[simp] theorem aph (f:Fn) (a b:Array Value):Value.cells (.func f a b)= #[.func f a b]:=Eq.trans rfl rfl
@[simp] theorem apj:Value.cells .nilFunc= #[.nilFunc]:=Eq.trans rfl rfl
@[simp] theorem apk (l:List Value):Value.cells (.agg ⟨l⟩)=⟨l⟩:=Eq.trans rfl rfl
@[simp] theorem apl {α:Type} (l:List α):splice l 0 []=some l:=bO l
@[simp] theorem apm {α:Type} (x:α) (xs:List α) (n:Nat) (vs:List α):splice (x::xs) (n+1) vs=match splice xs n vs with | some l=>some (x::l) | none=>none:=eC x xs n vs
@[simp] theorem apn {α:Type} (x:α) (xs:List α) (v:α) (vs:List α):splice (x::xs) 0 (v::vs)=match splice xs 0 vs with | some l=>some (v::l) | none=>none:=bQ x xs v vs
@[simp] theorem apo (cs:List Value):oy cs []=some cs:=Eq.trans (by cases cs<;>rfl) rfl
@[simp] theorem apq (cs:List Value) (o s:Nat) (v:Value) (r:List (Nat×Nat×Value)):oy cs ((o,s,v)::r)=if v.cells.size=s then (match splice cs o v.cells.toList with | some c=>oy c r | none=>none) else none:=Eq.trans (by cases cs<;>rfl) rfl
@[simp] theorem apr (z:List Value) (l:List (Nat×Nat×Value)):rQ z l=match oy z l with | some c=>some (.agg ⟨c⟩) | none=>none:=Eq.trans rfl rfl
@[simp] theorem aps (z:List Value) (l:List (Nat×Nat×Value)) (n s:Nat) (G:GS):pv z l n s G=match oy z l with | some c=>some (.slice (some ⟨G.nx,0,none⟩) n n,G.push ⟨c,s,false,1⟩) | none=>none:=Eq.trans rfl rfl
@[simp] theorem apt {α:Type} (z:List α):rep z 0=[]:=Eq.trans rfl rfl
@[simp] theorem apu {α:Type} (z:List α):rep z 1=z:=by show z++[]=z; simp
@[simp] theorem apv {α:Type} (z:List α):rep z 2=z++z:=by show z++(z++[])=_; simp
@[simp] theorem iv (G:GS) (b o:Nat):G.cell b o=match G.obj b with | some ob=>if ob.mode=2 then none else ob.cells[o]? | none=>none:=BG G b o
@[simp] theorem iw (n b o:Nat) (G:GS):eI (n+1) b o G=np (n+1) o (G.obj b):=IQ n b o G
@[simp] theorem apw (n o:Nat) (cs:List Value) (e:Nat) (op:Bool) (m:Nat):np n o (some ⟨cs,e,op,m⟩)=if m=2 then none else if o+n≤cs.length then some (.agg ⟨(cs.drop o).take n⟩) else none:=Eq.trans rfl rfl
@[simp] theorem BI (n b o:Nat) (v:Value) (G:GS):jY n b o v G=match mG n o v (G.obj b) with | some ob=>some (G.put b ob) | none=>none:=Qd n b o v G
@[simp] theorem apx (n o:Nat) (ds cs:List Value) (e:Nat) (op:Bool):mG n o (.agg ⟨ds⟩) (some ⟨cs,e,op,1⟩)=if ds.length=n∧ds.all one=true∧o+ds.length≤cs.length then some ⟨jZ cs o ds,e,op,1⟩ else none:=IU n o ds cs e op
@[simp] theorem apy {α:Type} (l:List α) (o:Nat) (vs:List α):jZ l o vs=l.take o++vs++l.drop (o+vs.length):=Eq.trans rfl rfl
@[simp] theorem apz (sz off:Nat) (l:List Value):wV sz off l=if sz≤(l.drop off).length then some (.agg ⟨(l.drop off).take sz⟩) else none:=by
  unfold wV
  rw [xW,DB]
  by_cases h:sz≤(l.drop off).length
  · rw [if_pos h,if_pos h]
  · rw [if_neg h,if_neg h]
theorem Ec (n:Nat):∀ l:List Value,cm.lf n l l=l.all fun x=>cm n x x
  | []=>by simp [cm.lf]
  | x::l=>by simp [cm.lf,Ec n l]
@[simp] theorem apA (l:List Value):br (some (.agg ⟨l⟩)) (.agg ⟨l⟩)=l.all fun x=>cm 3 x x:=by
  rw [← Ec]
  simp only [br,same,cm]
@[simp] theorem apB (n:Nat) (k:IntKind) (x:Int):cm (n+1) (.int k x) (.int k x)=true:=by simp [cm]
@[simp] theorem apD (n:Nat) (x:Bool):cm (n+1) (.bool x) (.bool x)=true:=by simp [cm]
@[simp] theorem apE (n:Nat) (x:Option Addr):cm (n+1) (.pointer x) (.pointer x)=true:=by simp [cm]
@[simp] theorem apF (n:Nat) (x:Option Addr) (a b:Nat):cm (n+1) (.slice x a b) (.slice x a b)=true:=by simp [cm]
@[simp] theorem apG:br (some .nilFunc) .nilFunc=true:=by simp [br,same,cm]
end Go.Proofs.YtphandknhnkhfaaGreat.Gh
