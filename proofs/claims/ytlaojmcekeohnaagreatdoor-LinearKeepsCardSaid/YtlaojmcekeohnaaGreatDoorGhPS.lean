import Derived.Test.YtlaojmcekeohnaaGreatDoorGhPR
import Derived.Test.YtlaojmcekeohnaaGreatDoorGhLS
import Derived.Test.YtlaojmcekeohnaaGreatDoorGhEQ
import Derived.Test.YtlaojmcekeohnaaGreatDoorGhPJ
namespace Go.Proofs.YtlaojmcekeohnaaGreatDoor.Gh
open Go
set_option linter.unusedVariables false
set_option linter.unusedSimpArgs false
theorem cell_eq (G:GS) (b o:Nat):G.cell b o=match G.obj b with | some ob=>if ob.mode=2 then none else ob.cells[o]? | none=>none:=rfl
def loadO (n o:Nat):Option GObj→Option Value
  | some ob=>if ob.mode=2 then none else if o+n≤ob.cells.length then some (.agg ⟨(ob.cells.drop o).take n⟩) else none
  | none=>none
theorem loadA_eq (n b o:Nat) (G:GS):loadA (n+1) b o G=loadO (n+1) o (G.obj b):=by
  unfold loadA loadO
  rw [rdN_eq _ _ _ _ (by omega)]
  unfold GS.cellsAt
  cases G.obj b with
  | none=>rfl
  | some ob =>
    simp only
    by_cases h1:ob.mode=2
    · simp only [if_pos h1]
    · by_cases h2:o+(n+1)≤ob.cells.length
      · simp only [if_neg h1,if_pos h2]
      · simp only [if_neg h1,if_neg h2]
def stO (n o:Nat) (v:Value):Option GObj→Option GObj
  | some ob=>if v.cells.size=n∧ob.mode=1∧v.cells.toList.all one=true∧o+v.cells.toList.length≤ob.cells.length then some (ob.over o v.cells.toList) else none
  | none=>none
theorem storeN_eq (n b o:Nat) (v:Value) (G:GS):storeN n b o v G=match stO n o v (G.obj b) with | some ob=>some (G.put b ob) | none=>none:=by
  unfold storeN stO
  cases h:G.obj b with
  | none =>
    simp only
    split
    · unfold wrN; rw [h]
    · rfl
  | some ob =>
    simp only
    by_cases h1:v.cells.size=n
    · rw [if_pos h1]
      by_cases h2:ob.mode=1∧v.cells.toList.all one=true∧o+v.cells.toList.length≤ob.cells.length
      · rw [if_pos ⟨h1,h2⟩,wrN_of h h2.1 h2.2.1 h2.2.2]
      · rw [if_neg (fun h=>h2 h.2)]
        unfold wrN
        rw [h]
        simp only
        by_cases h3:ob.mode=1∧v.cells.toList.all one=true
        · rw [if_pos (by simp [h3.1,h3.2]),splice_full,if_neg (fun h=>h2 ⟨h3.1,h3.2,h⟩)]
        · rw [if_neg (by simpa using h3)]
    · rw [if_neg h1,if_neg (fun h=>h1 h.1)]
theorem loadO_whole {cs:List Value} {n e m:Nat} {op:Bool} (h:cs.length=n) (hm:m≠2):loadO n 0 (some ⟨cs,e,op,m⟩)=some (.agg ⟨cs⟩):=by
  unfold loadO
  simp only [if_neg hm]
  rw [if_pos (by omega),List.drop_zero,List.take_of_length_le (by omega)]
theorem stO_agg (n o:Nat) (ds cs:List Value) (e:Nat) (op:Bool):stO n o (.agg ⟨ds⟩) (some ⟨cs,e,op,1⟩)=if ds.length=n∧ds.all one=true∧o+ds.length≤cs.length then some ⟨overw cs o ds,e,op,1⟩ else none:=by
  simp only [stO,Value.cells]
  by_cases h:ds.length=n∧ds.all one=true∧o+ds.length≤cs.length
  · rw [if_pos h,if_pos ⟨h.1,trivial,h.2⟩]; rfl
  · rw [if_neg h,if_neg (fun k=>h ⟨k.1,k.2.2⟩)]
theorem stO_one (o:Nat) (v:Value) (hv:one v=true) (cs:List Value) (e:Nat) (op:Bool):stO 1 o v (some ⟨cs,e,op,1⟩)=if o<cs.length then some ⟨cs.set o v,e,op,1⟩ else none:=by
  simp only [stO,cells_one hv]
  by_cases h:o<cs.length
  · rw [if_pos h,if_pos ⟨rfl,trivial,by simp [hv],by simp only [List.length_singleton]; omega⟩]
    show some (GObj.mk _ _ _ _)=_
    rw [overw_one _ _ _ h]
  · rw [if_neg h,if_neg (fun k=>h (by have:=k.2.2.2; simp at this; omega))]
@[simp] theorem stO_int (o:Nat) (k:IntKind) (x:Int) (cs:List Value) (e:Nat) (op:Bool):stO 1 o (.int k x) (some ⟨cs,e,op,1⟩)=if o<cs.length then some ⟨cs.set o (.int k x),e,op,1⟩ else none:=stO_one _ _ rfl _ _ _
@[simp] theorem stO_bool (o:Nat) (x:Bool) (cs:List Value) (e:Nat) (op:Bool):stO 1 o (.bool x) (some ⟨cs,e,op,1⟩)=if o<cs.length then some ⟨cs.set o (.bool x),e,op,1⟩ else none:=stO_one _ _ rfl _ _ _
@[simp] theorem stO_ptr (o:Nat) (x:Option Addr) (cs:List Value) (e:Nat) (op:Bool):stO 1 o (.pointer x) (some ⟨cs,e,op,1⟩)=if o<cs.length then some ⟨cs.set o (.pointer x),e,op,1⟩ else none:=stO_one _ _ rfl _ _ _
@[simp] theorem stO_slice (o:Nat) (x:Option Addr) (n c:Nat) (cs:List Value) (e:Nat) (op:Bool):stO 1 o (.slice x n c) (some ⟨cs,e,op,1⟩)=if o<cs.length then some ⟨cs.set o (.slice x n c),e,op,1⟩ else none:=stO_one _ _ rfl _ _ _
@[simp] theorem stO_func (o:Nat) (f:Fn) (a b:Array Value) (cs:List Value) (e:Nat) (op:Bool):stO 1 o (.func f a b) (some ⟨cs,e,op,1⟩)=if o<cs.length then some ⟨cs.set o (.func f a b),e,op,1⟩ else none:=stO_one _ _ rfl _ _ _
@[simp] theorem stO_nilFunc (o:Nat) (cs:List Value) (e:Nat) (op:Bool):stO 1 o .nilFunc (some ⟨cs,e,op,1⟩)=if o<cs.length then some ⟨cs.set o .nilFunc,e,op,1⟩ else none:=stO_one _ _ rfl _ _ _
@[simp] theorem stO_int' (o:Nat) (k:IntKind) (x:Int) (cs:List Value) (e:Nat) (op:Bool):stO 1 o (.agg ⟨[.int k x]⟩) (some ⟨cs,e,op,1⟩)=if o<cs.length then some ⟨overw cs o [.int k x],e,op,1⟩ else none:=by
  rw [stO_agg]
  by_cases h:o<cs.length
  · rw [if_pos h,if_pos ⟨rfl,rfl,by simp; omega⟩]
  · rw [if_neg h,if_neg (fun k=>h (by have:=k.2.2; simp at this; omega))]
@[simp] theorem one_int (k:IntKind) (x:Int):one (.int k x)=true:=Eq.trans rfl rfl
@[simp] theorem one_bool (x:Bool):one (.bool x)=true:=Eq.trans rfl rfl
@[simp] theorem one_ptr (x:Option Addr):one (.pointer x)=true:=Eq.trans rfl rfl
@[simp] theorem one_slice (x:Option Addr) (n c:Nat):one (.slice x n c)=true:=Eq.trans rfl rfl
@[simp] theorem one_func (f:Fn) (a b:Array Value):one (.func f a b)=true:=Eq.trans rfl rfl
@[simp] theorem one_nilFunc:one .nilFunc=true:=Eq.trans rfl rfl
theorem own_one {α:Type} {e:RowE α} {B:Nat} {G:GS} {v:Value} {L:List α} (h:OwR e B G v L):one v=true:=by
  rcases h.2 with ⟨rfl,_⟩ | ⟨b,op,rfl,_⟩<;>rfl
theorem slr_one {α:Type} {e:RowE α} {G:GS} {v:Value} {L:List α} (h:SlR e G v L):one v=true:=by
  obtain ⟨a,c,rfl⟩:=h.len; rfl
structure ModP (A:Nat→Prop) (G G' :GS):Prop where
  nx:G.nx≤G'.nx
  obj:∀ g,g<G.nx→¬ A g→G'.obj g=G.obj g
  nl:G.nl≤G'.nl
  loop:∀ l,l<G.nl→G'.loop l=G.loop l
def Grow (A:Nat→Prop) (G G' :GS) (x:Nat):Prop:=A x∨(G.nx≤x∧x<G'.nx)
def Under (A:Nat→Prop) (G:GS):Prop:=∀ x,A x→x<G.nx
def Apart (A B:Nat→Prop):Prop:=∀ x,A x→¬ B x
section
variable {A B:Nat→Prop} {G G' G'' :GS}
theorem ModP.refl (A:Nat→Prop) (G:GS):ModP A G G:=⟨Nat.le_refl _,fun _ _ _=>rfl,Nat.le_refl _,fun _ _=>rfl⟩
theorem Ext.modP (h:Ext G G') (A:Nat→Prop):ModP A G G' :=⟨h.nx,fun g hg _=>h.obj g hg,h.nl,h.loop⟩
theorem ModP.ext (h:ModP (fun _=>False) G G'):Ext G G' :=⟨h.nx,fun g hg=>h.obj g hg id,h.nl,h.loop⟩
theorem ModP.trans (h:ModP A G G') (k:ModP (Grow A G G') G' G''):ModP A G G'' :=
  ⟨Nat.le_trans h.nx k.nx,fun g hg ha=>(k.obj g (Nat.lt_of_lt_of_le hg h.nx) (fun hb=>hb.elim ha (fun h=>by omega))).trans (h.obj g hg ha),Nat.le_trans h.nl k.nl,fun l hl=>(k.loop l (Nat.lt_of_lt_of_le hl h.nl)).trans (h.loop l hl)⟩
theorem ModP.mono (h:ModP A G G') (hs:∀ x,A x→B x):ModP B G G' :=⟨h.nx,fun g hg hn=>h.obj g hg (fun hi=>hn (hs g hi)),h.nl,h.loop⟩
theorem ModP.tail (h:Ext G G') (k:ModP B G' G'') (hs:∀ x,B x→G.nx≤x):Ext G G'' :=
  ⟨Nat.le_trans h.nx k.nx,fun g hg=>(k.obj g (Nat.lt_of_lt_of_le hg h.nx) (fun hi=>by have:=hs g hi; omega)).trans (h.obj g hg),Nat.le_trans h.nl k.nl,fun l hl=>(k.loop l (Nat.lt_of_lt_of_le hl h.nl)).trans (h.loop l hl)⟩
theorem ModP.room (h:ModP A G G') (n:Nat):ModP A G (G'.room n):=⟨by have:=h.nx; simp; omega,h.obj,h.nl,h.loop⟩
theorem ModP.push (h:ModP A G G') (o:GObj):ModP A G (G'.push o) :=
  ⟨by have:=h.nx; simp; omega,fun g hg hs=>by rw [obj_push,if_neg (by have:=h.nx; omega)]; exact h.obj g hg hs,h.nl,h.loop⟩
theorem ModP.put (h:ModP A G G') {b:Nat} (hb:A b∨G.nx≤b) (o:GObj):ModP A G (G'.put b o) :=
  ⟨h.nx,fun g hg hs=>by rw [obj_put,if_neg (by rintro rfl; exact hb.elim hs (by omega))]; exact h.obj g hg hs,h.nl,h.loop⟩
theorem ModP.pushLoop (h:ModP A G G') (r:Lp):ModP A G (G'.pushLoop r) :=
  ⟨h.nx,h.obj,by have:=h.nl; simp; omega,fun l hl=>by rw [loop_pushLoop,if_neg (by have:=h.nl; omega)]; exact h.loop l hl⟩
theorem ModP.putLoop (h:ModP A G G') {l:Nat} (hl:G.nl≤l) (r:Lp):ModP A G (G'.putLoop l r) :=
  ⟨h.nx,h.obj,h.nl,fun k hk=>by rw [loop_putLoop,if_neg (by omega)]; exact h.loop k hk⟩
theorem ModP.drawn (h:ModP A G G') {n:Nat} (hn:G.nx≤n) (o:GObj):ModP A G (((G'.at' n).push o).back G') :=
  ⟨h.nx,fun g hg hs=>by simp; rw [if_neg (by omega)]; exact h.obj g hg hs,h.nl,fun l hl=>by simpa using h.loop l hl⟩
theorem Ext.pushLoop (h:Ext G G') (r:Lp):Ext G (G'.pushLoop r) :=
  ⟨h.nx,h.obj,by have:=h.nl; simp; omega,fun l hl=>by rw [loop_pushLoop,if_neg (by have:=h.nl; omega)]; exact h.loop l hl⟩
theorem Ext.putLoop (h:Ext G G') {l:Nat} (hl:G.nl≤l) (r:Lp):Ext G (G'.putLoop l r) :=
  ⟨h.nx,h.obj,h.nl,fun k hk=>by rw [loop_putLoop,if_neg (by omega)]; exact h.loop k hk⟩
theorem Under.grow (h:Under A G) (hn:G.nx≤G'.nx):Under (Grow A G G') G' :=fun x hx=>hx.elim (fun ha=>Nat.lt_of_lt_of_le (h x ha) hn) (·.2)
theorem Under.le (h:Under A G) (hn:G.nx≤G'.nx):Under A G' :=fun x hx=>Nat.lt_of_lt_of_le (h x hx) hn
theorem Apart.grow (h:Apart A B) (hB:Under B G):Apart (Grow A G G') B:=fun x hx hb=>hx.elim (fun ha=>h x ha hb) (fun k=>by have:=hB x hb; omega)
theorem Apart.symm (h:Apart A B):Apart B A:=fun x hb ha=>h x ha hb
theorem ModP.kept (h:ModP A G G') (hB:Under B G) (hd:Apart A B):∀ g,B g→G'.obj g=G.obj g:=fun g hg=>h.obj g (hB g hg) (fun ha=>hd g ha hg)
theorem Grow.trans {x:Nat} (h1:G.nx≤G'.nx) (h2:G'.nx≤G''.nx) (h:Grow (Grow A G G') G' G'' x):Grow A G G'' x:=by
  rcases h with (h | h) | h
  · exact .inl h
  · exact .inr ⟨h.1,by omega⟩
  · exact .inr ⟨by omega,h.2⟩
end
def InB (v:Value) (x:Nat):Prop:=∃ a n c,v= .slice (some a) n c∧a.block=x
theorem SlR.kept {α:Type} {e:RowE α} {G G' :GS} {v:Value} {L:List α} (h:SlR e G v L) (hn:G.nx≤G'.nx) (hk:∀ g,InB v g→G'.obj g=G.obj g):SlR e G' v L:=h.same hn fun a n c he=>hk _ ⟨a,n,c,he,rfl⟩
theorem OwR.kept {α:Type} {e:RowE α} {B:Nat} {G G' :GS} {v:Value} {L:List α} (h:OwR e B G v L) (hn:G.nx≤G'.nx) (hk:∀ g,InB v g→G'.obj g=G.obj g):OwR e B G' v L:=h.same hn fun a n c he=>hk _ ⟨a,n,c,he,rfl⟩
theorem SlR.under {α:Type} {e:RowE α} {G:GS} {v:Value} {L:List α} (h:SlR e G v L):Under (InB v) G:=fun x ⟨a,n,c,he,hx⟩=>hx▸h.lt a n c he
theorem OwR.from {α:Type} {e:RowE α} {B:Nat} {G:GS} {v:Value} {L:List α} (h:OwR e B G v L) {x:Nat} (hx:InB v x):B≤x:=by
  obtain ⟨a,n,c,he,rfl⟩:=hx
  exact h.ge a n c he
theorem OwR.app_mod {α:Type} {e:RowE α} {B:Nat} {G:GS} {v x:Value} {L M:List α} {ib:Nat} (h:OwR e B G v L) (hb:ib≠0) (hx:SlR e G x M) (hM:0<M.length) (hsz:(2*(L.length+M.length)+1000)*ib≤2 ^ 48) :
    ∃ v' G',appK e.sz ib v x G=some (v',G')∧ModP (InB v) G G' ∧OwR e G.nx G' v' (L++M):=by
  have hel:=elems_of hx.is
  obtain ⟨a,c,rfl⟩:=hx.len
  have hi:e.sz≠0:=by have:=e.pos; omega
  unfold appK
  rw [if_neg (by omega)]
  simp only [hel,e.flat_ones,Bool.not_true,Bool.false_eq_true,if_false]
  have hm:¬ M.length=0:=by omega
  have hlen:(e.flat (L++M)).length=(L++M).length*e.sz:=e.flat_length _
  rcases h.2 with ⟨rfl,h0⟩ | ⟨b,op,rfl,h2,h3,h4⟩
  · have hc:L=[]:=List.eq_nil_of_length_eq_zero h0
    subst hc
    exact ⟨_,_,by simp only [hm,if_false]; rw [if_pos (by simpa using hsz)],(ModP.refl _ _).push _,⟨hlen,.inr ⟨G.nx,true,by simp,Nat.le_refl _,by simp,by simp⟩⟩⟩
  · have hr:rdN G b 0 (L.length*e.sz)=some (e.flat L):=by
      have:=elems_of h.reads
      exact this
    simp only [hm,if_false,h4]
    rw [if_neg (by omega)]
    simp only [Nat.zero_add,hr,if_pos hsz]
    have hcl:L.length*e.sz=(e.flat L).length:=(e.flat_length L).symm
    cases op with
    | true =>
      simp only [hcl,decide_true,Bool.and_self,if_true]
      exact ⟨_,_,rfl,((ModP.refl _ _).put (.inl ⟨_,_,_,rfl,rfl⟩) _).push _,⟨hlen,.inr ⟨G.nx,true,by simp,by simp,by simp,by simp [e.flat_append]⟩⟩⟩
    | false =>
      simp only [Bool.false_and,Bool.false_eq_true,if_false]
      exact ⟨_,_,rfl,(ModP.refl _ _).push _,⟨hlen,.inr ⟨G.nx,true,by simp,Nat.le_refl _,by simp,by simp [e.flat_append]⟩⟩⟩
theorem SlR.oneD {α:Type} (e:RowE α) (G:GS) (a:α) {n:Nat} (hn:n<G.nx):SlR e (((G.at' n).push ⟨e.row a,e.sz,false,1⟩).back G) (.slice (some ⟨n,0,none⟩) 1 1) [a] :=
  ⟨⟨by simp [e.flat_length],.inr ⟨n,0,1,_,rfl,Nat.le_refl _,by simpa using hn,by simp; rfl,by simp,fun i _=>by simp [e.flat_one]⟩⟩,fun a' n' c he ob ho hop=>by cases he; simp at ho; subst ho; cases hop⟩
end Go.Proofs.YtlaojmcekeohnaaGreatDoor.Gh
