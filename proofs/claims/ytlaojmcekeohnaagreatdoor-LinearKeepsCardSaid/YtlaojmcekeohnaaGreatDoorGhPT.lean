import Derived.Test.YtlaojmcekeohnaaGreatDoorGhPS
namespace Go.Proofs.YtlaojmcekeohnaaGreatDoor.Gh
open Go
set_option linter.unusedVariables false
@[simp] theorem cells_int (k:IntKind) (x:Int):Value.cells (.int k x)= #[.int k x]:=Eq.trans rfl rfl
@[simp] theorem cells_bool (x:Bool):Value.cells (.bool x)= #[.bool x]:=Eq.trans rfl rfl
@[simp] theorem cells_ptr (x:Option Addr):Value.cells (.pointer x)= #[.pointer x]:=Eq.trans rfl rfl
@[simp] theorem cells_slice (x:Option Addr) (n c:Nat):Value.cells (.slice x n c)= #[.slice x n c]:=Eq.trans rfl rfl
@[simp] theorem cells_func (f:Fn) (a b:Array Value):Value.cells (.func f a b)= #[.func f a b]:=Eq.trans rfl rfl
@[simp] theorem cells_nilFunc:Value.cells .nilFunc= #[.nilFunc]:=Eq.trans rfl rfl
@[simp] theorem cells_agg (l:List Value):Value.cells (.agg ⟨l⟩)=⟨l⟩:=Eq.trans rfl rfl
@[simp] theorem splice_end_s {α:Type} (l:List α):splice l 0 []=some l:=splice_end l
@[simp] theorem splice_succ_s {α:Type} (x:α) (xs:List α) (n:Nat) (vs:List α):splice (x::xs) (n+1) vs=match splice xs n vs with | some l=>some (x::l) | none=>none:=splice_succ x xs n vs
@[simp] theorem splice_put_s {α:Type} (x:α) (xs:List α) (v:α) (vs:List α):splice (x::xs) 0 (v::vs)=match splice xs 0 vs with | some l=>some (v::l) | none=>none:=splice_put x xs v vs
@[simp] theorem fillC_nil (cs:List Value):fillC cs []=some cs:=Eq.trans (by cases cs<;>rfl) rfl
@[simp] theorem fillC_cons (cs:List Value) (o s:Nat) (v:Value) (r:List (Nat×Nat×Value)):fillC cs ((o,s,v)::r)=if v.cells.size=s then (match splice cs o v.cells.toList with | some c=>fillC c r | none=>none) else none:=Eq.trans (by cases cs<;>rfl) rfl
@[simp] theorem fillL_s (z:List Value) (l:List (Nat×Nat×Value)):fillL z l=match fillC z l with | some c=>some (.agg ⟨c⟩) | none=>none:=Eq.trans rfl rfl
@[simp] theorem fillS_s (z:List Value) (l:List (Nat×Nat×Value)) (n s:Nat) (G:GS):fillS z l n s G=match fillC z l with | some c=>some (.slice (some ⟨G.nx,0,none⟩) n n,G.push ⟨c,s,false,1⟩) | none=>none:=Eq.trans rfl rfl
@[simp] theorem rep_zero {α:Type} (z:List α):rep z 0=[]:=Eq.trans rfl rfl
@[simp] theorem rep_one {α:Type} (z:List α):rep z 1=z:=by show z++[]=z; simp
@[simp] theorem rep_two {α:Type} (z:List α):rep z 2=z++z:=by show z++(z++[])=_; simp
@[simp] theorem cell_s (G:GS) (b o:Nat):G.cell b o=match G.obj b with | some ob=>if ob.mode=2 then none else ob.cells[o]? | none=>none:=cell_eq G b o
@[simp] theorem loadA_s (n b o:Nat) (G:GS):loadA (n+1) b o G=loadO (n+1) o (G.obj b):=loadA_eq n b o G
@[simp] theorem loadO_s (n o:Nat) (cs:List Value) (e:Nat) (op:Bool) (m:Nat):loadO n o (some ⟨cs,e,op,m⟩)=if m=2 then none else if o+n≤cs.length then some (.agg ⟨(cs.drop o).take n⟩) else none:=Eq.trans rfl rfl
@[simp] theorem storeN_s (n b o:Nat) (v:Value) (G:GS):storeN n b o v G=match stO n o v (G.obj b) with | some ob=>some (G.put b ob) | none=>none:=storeN_eq n b o v G
@[simp] theorem stO_agg_s (n o:Nat) (ds cs:List Value) (e:Nat) (op:Bool):stO n o (.agg ⟨ds⟩) (some ⟨cs,e,op,1⟩)=if ds.length=n∧ds.all one=true∧o+ds.length≤cs.length then some ⟨overw cs o ds,e,op,1⟩ else none:=stO_agg n o ds cs e op
@[simp] theorem overw_s {α:Type} (l:List α) (o:Nat) (vs:List α):overw l o vs=l.take o++vs++l.drop (o+vs.length):=Eq.trans rfl rfl
@[simp] theorem tkA_s (sz off:Nat) (l:List Value):tkA sz off l=if sz≤(l.drop off).length then some (.agg ⟨(l.drop off).take sz⟩) else none:=by
  unfold tkA
  rw [dropN_eq,takeN_full]
  by_cases h:sz≤(l.drop off).length
  · rw [if_pos h,if_pos h]
  · rw [if_neg h,if_neg h]
theorem listD_all (n:Nat):∀ l:List Value,sameD.listD n l l=l.all fun x=>sameD n x x
  | []=>by simp [sameD.listD]
  | x::l=>by simp [sameD.listD,listD_all n l]
@[simp] theorem sameO_agg (l:List Value):sameO (some (.agg ⟨l⟩)) (.agg ⟨l⟩)=l.all fun x=>sameD 3 x x:=by
  rw [← listD_all]
  simp only [sameO,same,sameD]
@[simp] theorem sameD_int (n:Nat) (k:IntKind) (x:Int):sameD (n+1) (.int k x) (.int k x)=true:=by simp [sameD]
@[simp] theorem sameD_bool (n:Nat) (x:Bool):sameD (n+1) (.bool x) (.bool x)=true:=by simp [sameD]
@[simp] theorem sameD_ptr (n:Nat) (x:Option Addr):sameD (n+1) (.pointer x) (.pointer x)=true:=by simp [sameD]
@[simp] theorem sameD_slice (n:Nat) (x:Option Addr) (a b:Nat):sameD (n+1) (.slice x a b) (.slice x a b)=true:=by simp [sameD]
@[simp] theorem sameO_nilFunc:sameO (some .nilFunc) .nilFunc=true:=by simp [sameO,same,sameD]
end Go.Proofs.YtlaojmcekeohnaaGreatDoor.Gh
