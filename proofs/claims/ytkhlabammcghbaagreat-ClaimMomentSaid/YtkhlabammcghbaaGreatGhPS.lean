import Derived.Test.YtkhlabammcghbaaGreatGhPR
import Derived.Test.YtkhlabammcghbaaGreatGhLS
import Derived.Test.YtkhlabammcghbaaGreatGhEQ
import Derived.Test.YtkhlabammcghbaaGreatGhPJ
namespace Go.Proofs.YtkhlabammcghbaaGreat.Gh
open Go
set_option linter.unusedVariables false
set_option linter.unusedSimpArgs false
theorem Cf (G:GS) (b o:Nat):G.cell b o=match G.obj b with | some ob=>if ob.mode=2 then none else ob.cells[o]? | none=>none:=rfl
def nD (n o:Nat):Option bK→Option Value
  | some ob=>if ob.mode=2 then none else if o+n≤ob.cells.length then some (.agg ⟨(ob.cells.drop o).take n⟩) else none
  | none=>none
theorem JU (n b o:Nat) (G:GS):fO (n+1) b o G=nD (n+1) o (G.obj b):=by
  unfold fO nD
  rw [II _ _ _ _ (by omega)]
  unfold GS.BI
  cases G.obj b with
  | none=>rfl
  | some ob =>
    simp only
    by_cases h1:ob.mode=2
    · simp only [if_pos h1]
    · by_cases h2:o+(n+1)≤ob.cells.length
      · simp only [if_neg h1,if_pos h2]
      · simp only [if_neg h1,if_neg h2]
def ku (n o:Nat) (v:Value):Option bK→Option bK
  | some ob=>if v.cells.size=n∧ob.mode=1∧v.cells.toList.all one=true∧o+v.cells.toList.length≤ob.cells.length then some (ob.over o v.cells.toList) else none
  | none=>none
theorem RJ (n b o:Nat) (v:Value) (G:GS):lq n b o v G=match ku n o v (G.obj b) with | some ob=>some (G.put b ob) | none=>none:=by
  unfold lq ku
  cases h:G.obj b with
  | none =>
    simp only
    split
    · unfold lR; rw [h]
    · rfl
  | some ob =>
    simp only
    by_cases h1:v.cells.size=n
    · rw [if_pos h1]
      by_cases h2:ob.mode=1∧v.cells.toList.all one=true∧o+v.cells.toList.length≤ob.cells.length
      · rw [if_pos ⟨h1,h2⟩,Qb h h2.1 h2.2.1 h2.2.2]
      · rw [if_neg (fun h=>h2 h.2)]
        unfold lR
        rw [h]
        simp only
        by_cases h3:ob.mode=1∧v.cells.toList.all one=true
        · rw [if_pos (by simp [h3.1,h3.2]),Er,if_neg (fun h=>h2 ⟨h3.1,h3.2,h⟩)]
        · rw [if_neg (by simpa using h3)]
    · rw [if_neg h1,if_neg (fun h=>h1 h.1)]
theorem Cg {cs:List Value} {n e m:Nat} {op:Bool} (h:cs.length=n) (hm:m≠2):nD n 0 (some ⟨cs,e,op,m⟩)=some (.agg ⟨cs⟩):=by
  unfold nD
  simp only [if_neg hm]
  rw [if_pos (by omega),List.drop_zero,List.take_of_length_le (by omega)]
theorem JV (n o:Nat) (ds cs:List Value) (e:Nat) (op:Bool):ku n o (.agg ⟨ds⟩) (some ⟨cs,e,op,1⟩)=if ds.length=n∧ds.all one=true∧o+ds.length≤cs.length then some ⟨gY cs o ds,e,op,1⟩ else none:=by
  simp only [ku,Value.cells]
  by_cases h:ds.length=n∧ds.all one=true∧o+ds.length≤cs.length
  · rw [if_pos h,if_pos ⟨h.1,trivial,h.2⟩]; rfl
  · rw [if_neg h,if_neg (fun k=>h ⟨k.1,k.2.2⟩)]
theorem iq (o:Nat) (v:Value) (hv:one v=true) (cs:List Value) (e:Nat) (op:Bool):ku 1 o v (some ⟨cs,e,op,1⟩)=if o<cs.length then some ⟨cs.set o v,e,op,1⟩ else none:=by
  simp only [ku,zj hv]
  by_cases h:o<cs.length
  · rw [if_pos h,if_pos ⟨rfl,trivial,by simp [hv],by simp only [List.length_singleton]; omega⟩]
    show some (bK.mk _ _ _ _)=_
    rw [Qa _ _ _ h]
  · rw [if_neg h,if_neg (fun k=>h (by have:=k.2.2.2; simp at this; omega))]
@[simp] theorem an2 (o:Nat) (k:IntKind) (x:Int) (cs:List Value) (e:Nat) (op:Bool):ku 1 o (.int k x) (some ⟨cs,e,op,1⟩)=if o<cs.length then some ⟨cs.set o (.int k x),e,op,1⟩ else none:=iq _ _ rfl _ _ _
@[simp] theorem an3 (o:Nat) (x:Bool) (cs:List Value) (e:Nat) (op:Bool):ku 1 o (.bool x) (some ⟨cs,e,op,1⟩)=if o<cs.length then some ⟨cs.set o (.bool x),e,op,1⟩ else none:=iq _ _ rfl _ _ _
@[simp] theorem an4 (o:Nat) (x:Option Addr) (cs:List Value) (e:Nat) (op:Bool):ku 1 o (.pointer x) (some ⟨cs,e,op,1⟩)=if o<cs.length then some ⟨cs.set o (.pointer x),e,op,1⟩ else none:=iq _ _ rfl _ _ _
@[simp] theorem an5 (o:Nat) (x:Option Addr) (n c:Nat) (cs:List Value) (e:Nat) (op:Bool):ku 1 o (.slice x n c) (some ⟨cs,e,op,1⟩)=if o<cs.length then some ⟨cs.set o (.slice x n c),e,op,1⟩ else none:=iq _ _ rfl _ _ _
@[simp] theorem an6 (o:Nat) (f:Fn) (a b:Array Value) (cs:List Value) (e:Nat) (op:Bool):ku 1 o (.func f a b) (some ⟨cs,e,op,1⟩)=if o<cs.length then some ⟨cs.set o (.func f a b),e,op,1⟩ else none:=iq _ _ rfl _ _ _
@[simp] theorem an7 (o:Nat) (cs:List Value) (e:Nat) (op:Bool):ku 1 o .nilFunc (some ⟨cs,e,op,1⟩)=if o<cs.length then some ⟨cs.set o .nilFunc,e,op,1⟩ else none:=iq _ _ rfl _ _ _
@[simp] theorem an8 (o:Nat) (k:IntKind) (x:Int) (cs:List Value) (e:Nat) (op:Bool):ku 1 o (.agg ⟨[.int k x]⟩) (some ⟨cs,e,op,1⟩)=if o<cs.length then some ⟨gY cs o [.int k x],e,op,1⟩ else none:=by
  rw [JV]
  by_cases h:o<cs.length
  · rw [if_pos h,if_pos ⟨rfl,rfl,by simp; omega⟩]
  · rw [if_neg h,if_neg (fun k=>h (by have:=k.2.2; simp at this; omega))]
@[simp] theorem an9 (k:IntKind) (x:Int):one (.int k x)=true:=Eq.trans rfl rfl
@[simp] theorem aoa (x:Bool):one (.bool x)=true:=Eq.trans rfl rfl
@[simp] theorem aob (x:Option Addr):one (.pointer x)=true:=Eq.trans rfl rfl
@[simp] theorem aoc (x:Option Addr) (n c:Nat):one (.slice x n c)=true:=Eq.trans rfl rfl
@[simp] theorem aod (f:Fn) (a b:Array Value):one (.func f a b)=true:=Eq.trans rfl rfl
@[simp] theorem aoe:one .nilFunc=true:=Eq.trans rfl rfl
theorem tW {α:Type} {e:ct α} {B:Nat} {G:GS} {v:Value} {L:List α} (h:cn e B G v L):one v=true:=by
  rcases h.2 with ⟨rfl,_⟩ | ⟨b,op,rfl,_⟩<;>rfl
structure bC (A:Nat→Prop) (G G':GS):Prop where
  nx:G.nx≤G'.nx
  obj:∀ g,g<G.nx→¬ A g→G'.obj g=G.obj g
  nl:G.nl≤G'.nl
  loop:∀ l,l<G.nl→G'.loop l=G.loop l
def Grow (A:Nat→Prop) (G G':GS) (x:Nat):Prop:=A x∨(G.nx≤x∧x<G'.nx)
def mv (A:Nat→Prop) (G:GS):Prop:=∀ x,A x→x<G.nx
section
variable {A B:Nat→Prop} {G G' pJ:GS}
theorem bC.refl (A:Nat→Prop) (G:GS):bC A G G:=⟨Nat.le_refl _,fun _ _ _=>rfl,Nat.le_refl _,fun _ _=>rfl⟩
theorem Ext.vB (h:Ext G G') (A:Nat→Prop):bC A G G':=⟨h.nx,fun g hg _=>h.obj g hg,h.nl,h.loop⟩
theorem bC.trans (h:bC A G G') (k:bC (Grow A G G') G' pJ):bC A G pJ :=
  ⟨Nat.le_trans h.nx k.nx,fun g hg ha=>(k.obj g (Nat.lt_of_lt_of_le hg h.nx) (fun hb=>hb.elim ha (fun h=>by omega))).trans (h.obj g hg ha),Nat.le_trans h.nl k.nl,fun l hl=>(k.loop l (Nat.lt_of_lt_of_le hl h.nl)).trans (h.loop l hl)⟩
theorem bC.mono (h:bC A G G') (hs:∀ x,A x→B x):bC B G G':=⟨h.nx,fun g hg hn=>h.obj g hg (fun hi=>hn (hs g hi)),h.nl,h.loop⟩
theorem bC.tail (h:Ext G G') (k:bC B G' pJ) (hs:∀ x,B x→G.nx≤x):Ext G pJ :=
  ⟨Nat.le_trans h.nx k.nx,fun g hg=>(k.obj g (Nat.lt_of_lt_of_le hg h.nx) (fun hi=>by have:=hs g hi; omega)).trans (h.obj g hg),Nat.le_trans h.nl k.nl,fun l hl=>(k.loop l (Nat.lt_of_lt_of_le hl h.nl)).trans (h.loop l hl)⟩
theorem bC.room (h:bC A G G') (n:Nat):bC A G (G'.room n):=⟨by have:=h.nx; simp; omega,h.obj,h.nl,h.loop⟩
theorem bC.push (h:bC A G G') (o:bK):bC A G (G'.push o) :=
  ⟨by have:=h.nx; simp; omega,fun g hg hs=>by rw [kU,if_neg (by have:=h.nx; omega)]; exact h.obj g hg hs,h.nl,h.loop⟩
theorem bC.put (h:bC A G G') {b:Nat} (hb:A b∨G.nx≤b) (o:bK):bC A G (G'.put b o) :=
  ⟨h.nx,fun g hg hs=>by rw [cM,if_neg (by rintro rfl; exact hb.elim hs (by omega))]; exact h.obj g hg hs,h.nl,h.loop⟩
theorem bC.bR (h:bC A G G') {l:Nat} (hl:G.nl≤l) (r:Lp):bC A G (G'.bR l r) :=
  ⟨h.nx,h.obj,h.nl,fun k hk=>by rw [IU,if_neg (by omega)]; exact h.loop k hk⟩
theorem Ext.dS (h:Ext G G') (r:Lp):Ext G (G'.dS r) :=
  ⟨h.nx,h.obj,by have:=h.nl; simp; omega,fun l hl=>by rw [Yw,if_neg (by have:=h.nl; omega)]; exact h.loop l hl⟩
theorem Ext.bR (h:Ext G G') {l:Nat} (hl:G.nl≤l) (r:Lp):Ext G (G'.bR l r) :=
  ⟨h.nx,h.obj,h.nl,fun k hk=>by rw [IU,if_neg (by omega)]; exact h.loop k hk⟩
theorem mv.grow (h:mv A G) (hn:G.nx≤G'.nx):mv (Grow A G G') G':=fun x hx=>hx.elim (fun ha=>Nat.lt_of_lt_of_le (h x ha) hn) (·.2)
theorem mv.le (h:mv A G) (hn:G.nx≤G'.nx):mv A G':=fun x hx=>Nat.lt_of_lt_of_le (h x hx) hn
end
def iA (v:Value) (x:Nat):Prop:=∃ a n c,v= .slice (some a) n c∧a.block=x
theorem bT.kept {α:Type} {e:ct α} {G G':GS} {v:Value} {L:List α} (h:bT e G v L) (hn:G.nx≤G'.nx) (hk:∀ g,iA v g→G'.obj g=G.obj g):bT e G' v L:=h.same hn fun a n c he=>hk _ ⟨a,n,c,he,rfl⟩
theorem cn.kept {α:Type} {e:ct α} {B:Nat} {G G':GS} {v:Value} {L:List α} (h:cn e B G v L) (hn:G.nx≤G'.nx) (hk:∀ g,iA v g→G'.obj g=G.obj g):cn e B G' v L:=h.same hn fun a n c he=>hk _ ⟨a,n,c,he,rfl⟩
theorem bT.under {α:Type} {e:ct α} {G:GS} {v:Value} {L:List α} (h:bT e G v L):mv (iA v) G:=fun x ⟨a,n,c,he,hx⟩=>hx▸h.lt a n c he
theorem cn.from {α:Type} {e:ct α} {B:Nat} {G:GS} {v:Value} {L:List α} (h:cn e B G v L) {x:Nat} (hx:iA v x):B≤x:=by
  obtain ⟨a,n,c,he,rfl⟩:=hx
  exact h.ge a n c he
theorem cn.JS {α:Type} {e:ct α} {B:Nat} {G:GS} {v x:Value} {L M:List α} {ib:Nat} (h:cn e B G v L) (hb:ib≠0) (hx:bT e G x M) (hM:0<M.length) (cm:(2*(L.length+M.length)+1000)*ib≤2 ^ 48) :
    ∃ v' G',j9 e.sz ib v x G=some (v',G')∧bC (iA v) G G' ∧cn e G.nx G' v' (L++M):=by
  have uY:=zg hx.is
  obtain ⟨a,c,rfl⟩:=hx.len
  have hi:e.sz≠0:=by have:=e.pos; omega
  unfold j9
  rw [if_neg (by omega)]
  simp only [uY,e.RG,Bool.not_true,Bool.false_eq_true,if_false]
  have hm:¬ M.length=0:=by omega
  have hlen:(e.flat (L++M)).length=(L++M).length*e.sz:=e.qN _
  rcases h.2 with ⟨rfl,h0⟩ | ⟨b,op,rfl,h2,h3,h4⟩
  · have hc:L=[]:=List.eq_nil_of_length_eq_zero h0
    subst hc
    exact ⟨_,_,by simp only [hm,if_false]; rw [if_pos (by simpa using cm)],(bC.refl _ _).push _,⟨hlen,.inr ⟨G.nx,true,by simp,Nat.le_refl _,by simp,by simp⟩⟩⟩
  · have hr:fC G b 0 (L.length*e.sz)=some (e.flat L):=by
      have:=zg h.reads
      exact this
    simp only [hm,if_false,h4]
    rw [if_neg (by omega)]
    simp only [Nat.zero_add,hr,if_pos cm]
    have jW:L.length*e.sz=(e.flat L).length:=(e.qN L).symm
    cases op with
    | true =>
      simp only [jW,decide_true,Bool.and_self,if_true]
      exact ⟨_,_,rfl,((bC.refl _ _).put (.inl ⟨_,_,_,rfl,rfl⟩) _).push _,⟨hlen,.inr ⟨G.nx,true,by simp,by simp,by simp,by simp [e.JR]⟩⟩⟩
    | false =>
      simp only [Bool.false_and,Bool.false_eq_true,if_false]
      exact ⟨_,_,rfl,(bC.refl _ _).push _,⟨hlen,.inr ⟨G.nx,true,by simp,Nat.le_refl _,by simp,by simp [e.JR]⟩⟩⟩
theorem bT.EZ {α:Type} (e:ct α) (G:GS) (a:α) {n:Nat} (hn:n<G.nx):bT e (((G.aS n).push ⟨e.row a,e.sz,false,1⟩).back G) (.slice (some ⟨n,0,none⟩) 1 1) [a] :=
  ⟨⟨by simp [e.qN],.inr ⟨n,0,1,_,rfl,Nat.le_refl _,by simpa using hn,by simp; rfl,by simp,fun i _=>by simp [e.RE]⟩⟩,fun a' n' c he ob ho eL=>by cases he; simp at ho; subst ho; cases eL⟩
end Go.Proofs.YtkhlabammcghbaaGreat.Gh
