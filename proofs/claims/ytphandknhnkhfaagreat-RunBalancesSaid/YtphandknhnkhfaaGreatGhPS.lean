import Derived.Test.YtphandknhnkhfaaGreatGhPR
import Derived.Test.YtphandknhnkhfaaGreatGhLS
import Derived.Test.YtphandknhnkhfaaGreatGhEQ
import Derived.Test.YtphandknhnkhfaaGreatGhPJ
namespace Go.Proofs.YtphandknhnkhfaaGreat.Gh
open Go
set_option linter.unusedVariables false
set_option linter.unusedSimpArgs false
theorem BG (G:GS) (b o:Nat):G.cell b o=match G.obj b with | some ob=>if ob.mode=2 then none else ob.cells[o]? | none=>none:=rfl
def np (n o:Nat):Option aR→Option Value
  | some ob=>if ob.mode=2 then none else if o+n≤ob.cells.length then some (.agg ⟨(ob.cells.drop o).take n⟩) else none
  | none=>none
theorem IQ (n b o:Nat) (G:GS):eI (n+1) b o G=np (n+1) o (G.obj b):=by
  unfold eI np
  rw [HG _ _ _ _ (by omega)]
  unfold GS.Bc
  cases G.obj b with
  | none=>rfl
  | some ob =>
    simp only
    by_cases h1:ob.mode=2
    · simp only [if_pos h1]
    · by_cases h2:o+(n+1)≤ob.cells.length
      · simp only [if_neg h1,if_pos h2]
      · simp only [if_neg h1,if_neg h2]
def mG (n o:Nat) (v:Value):Option aR→Option aR
  | some ob=>if v.cells.size=n∧ob.mode=1∧v.cells.toList.all one=true∧o+v.cells.toList.length≤ob.cells.length then some (ob.over o v.cells.toList) else none
  | none=>none
theorem Qd (n b o:Nat) (v:Value) (G:GS):jY n b o v G=match mG n o v (G.obj b) with | some ob=>some (G.put b ob) | none=>none:=by
  unfold jY mG
  cases h:G.obj b with
  | none =>
    simp only
    split
    · unfold lY; rw [h]
    · rfl
  | some ob =>
    simp only
    by_cases h1:v.cells.size=n
    · rw [if_pos h1]
      by_cases h2:ob.mode=1∧v.cells.toList.all one=true∧o+v.cells.toList.length≤ob.cells.length
      · rw [if_pos ⟨h1,h2⟩,HI h h2.1 h2.2.1 h2.2.2]
      · rw [if_neg (fun h=>h2 h.2)]
        unfold lY
        rw [h]
        simp only
        by_cases h3:ob.mode=1∧v.cells.toList.all one=true
        · rw [if_pos (by simp [h3.1,h3.2]),DC,if_neg (fun h=>h2 ⟨h3.1,h3.2,h⟩)]
        · rw [if_neg (by simpa using h3)]
    · rw [if_neg h1,if_neg (fun h=>h1 h.1)]
theorem BH {cs:List Value} {n e m:Nat} {op:Bool} (h:cs.length=n) (hm:m≠2):np n 0 (some ⟨cs,e,op,m⟩)=some (.agg ⟨cs⟩):=by
  unfold np
  simp only [if_neg hm]
  rw [if_pos (by omega),List.drop_zero,List.take_of_length_le (by omega)]
theorem IU (n o:Nat) (ds cs:List Value) (e:Nat) (op:Bool):mG n o (.agg ⟨ds⟩) (some ⟨cs,e,op,1⟩)=if ds.length=n∧ds.all one=true∧o+ds.length≤cs.length then some ⟨jZ cs o ds,e,op,1⟩ else none:=by
  simp only [mG,Value.cells]
  by_cases h:ds.length=n∧ds.all one=true∧o+ds.length≤cs.length
  · rw [if_pos h,if_pos ⟨h.1,trivial,h.2⟩]; rfl
  · rw [if_neg h,if_neg (fun k=>h ⟨k.1,k.2.2⟩)]
theorem zb (o:Nat) (v:Value) (hv:one v=true) (cs:List Value) (e:Nat) (op:Bool):mG 1 o v (some ⟨cs,e,op,1⟩)=if o<cs.length then some ⟨cs.set o v,e,op,1⟩ else none:=by
  simp only [mG,yJ hv]
  by_cases h:o<cs.length
  · rw [if_pos h,if_pos ⟨rfl,trivial,by simp [hv],by simp only [List.length_singleton]; omega⟩]
    show some (aR.mk _ _ _ _)=_
    rw [OD _ _ _ h]
  · rw [if_neg h,if_neg (fun k=>h (by have:=k.2.2.2; simp at this; omega))]
@[simp] theorem ao0 (o:Nat) (k:IntKind) (x:Int) (cs:List Value) (e:Nat) (op:Bool):mG 1 o (.int k x) (some ⟨cs,e,op,1⟩)=if o<cs.length then some ⟨cs.set o (.int k x),e,op,1⟩ else none:=zb _ _ rfl _ _ _
@[simp] theorem ao1 (o:Nat) (x:Bool) (cs:List Value) (e:Nat) (op:Bool):mG 1 o (.bool x) (some ⟨cs,e,op,1⟩)=if o<cs.length then some ⟨cs.set o (.bool x),e,op,1⟩ else none:=zb _ _ rfl _ _ _
@[simp] theorem ao2 (o:Nat) (x:Option Addr) (cs:List Value) (e:Nat) (op:Bool):mG 1 o (.pointer x) (some ⟨cs,e,op,1⟩)=if o<cs.length then some ⟨cs.set o (.pointer x),e,op,1⟩ else none:=zb _ _ rfl _ _ _
@[simp] theorem ao3 (o:Nat) (x:Option Addr) (n c:Nat) (cs:List Value) (e:Nat) (op:Bool):mG 1 o (.slice x n c) (some ⟨cs,e,op,1⟩)=if o<cs.length then some ⟨cs.set o (.slice x n c),e,op,1⟩ else none:=zb _ _ rfl _ _ _
@[simp] theorem ao4 (o:Nat) (f:Fn) (a b:Array Value) (cs:List Value) (e:Nat) (op:Bool):mG 1 o (.func f a b) (some ⟨cs,e,op,1⟩)=if o<cs.length then some ⟨cs.set o (.func f a b),e,op,1⟩ else none:=zb _ _ rfl _ _ _
@[simp] theorem ao5 (o:Nat) (cs:List Value) (e:Nat) (op:Bool):mG 1 o .nilFunc (some ⟨cs,e,op,1⟩)=if o<cs.length then some ⟨cs.set o .nilFunc,e,op,1⟩ else none:=zb _ _ rfl _ _ _
@[simp] theorem ao6 (o:Nat) (k:IntKind) (x:Int) (cs:List Value) (e:Nat) (op:Bool):mG 1 o (.agg ⟨[.int k x]⟩) (some ⟨cs,e,op,1⟩)=if o<cs.length then some ⟨jZ cs o [.int k x],e,op,1⟩ else none:=by
  rw [IU]
  by_cases h:o<cs.length
  · rw [if_pos h,if_pos ⟨rfl,rfl,by simp; omega⟩]
  · rw [if_neg h,if_neg (fun k=>h (by have:=k.2.2; simp at this; omega))]
@[simp] theorem ao7 (k:IntKind) (x:Int):one (.int k x)=true:=Eq.trans rfl rfl
@[simp] theorem ao8 (x:Bool):one (.bool x)=true:=Eq.trans rfl rfl
@[simp] theorem ao9 (x:Option Addr):one (.pointer x)=true:=Eq.trans rfl rfl
@[simp] theorem apa (x:Option Addr) (n c:Nat):one (.slice x n c)=true:=Eq.trans rfl rfl
@[simp] theorem apb (f:Fn) (a b:Array Value):one (.func f a b)=true:=Eq.trans rfl rfl
@[simp] theorem apc:one .nilFunc=true:=Eq.trans rfl rfl
structure bG (A:Nat→Prop) (G G':GS):Prop where
  nx:G.nx≤G'.nx
  obj:∀ g,g<G.nx→¬ A g→G'.obj g=G.obj g
  nl:G.nl≤G'.nl
  loop:∀ l,l<G.nl→G'.loop l=G.loop l
def Grow (A:Nat→Prop) (G G':GS) (x:Nat):Prop:=A x∨(G.nx≤x∧x<G'.nx)
def mH (A:Nat→Prop) (G:GS):Prop:=∀ x,A x→x<G.nx
section
variable {A B:Nat→Prop} {G G' rV:GS}
theorem bG.refl (A:Nat→Prop) (G:GS):bG A G G:=⟨Nat.le_refl _,fun _ _ _=>rfl,Nat.le_refl _,fun _ _=>rfl⟩
theorem Ext.rW (h:Ext G G') (A:Nat→Prop):bG A G G':=⟨h.nx,fun g hg _=>h.obj g hg,h.nl,h.loop⟩
theorem bG.trans (h:bG A G G') (k:bG (Grow A G G') G' rV):bG A G rV :=
  ⟨Nat.le_trans h.nx k.nx,fun g hg ha=>(k.obj g (Nat.lt_of_lt_of_le hg h.nx) (fun hb=>hb.elim ha (fun h=>by omega))).trans (h.obj g hg ha),Nat.le_trans h.nl k.nl,fun l hl=>(k.loop l (Nat.lt_of_lt_of_le hl h.nl)).trans (h.loop l hl)⟩
theorem bG.mono (h:bG A G G') (hs:∀ x,A x→B x):bG B G G':=⟨h.nx,fun g hg hn=>h.obj g hg (fun hi=>hn (hs g hi)),h.nl,h.loop⟩
theorem bG.tail (h:Ext G G') (k:bG B G' rV) (hs:∀ x,B x→G.nx≤x):Ext G rV :=
  ⟨Nat.le_trans h.nx k.nx,fun g hg=>(k.obj g (Nat.lt_of_lt_of_le hg h.nx) (fun hi=>by have:=hs g hi; omega)).trans (h.obj g hg),Nat.le_trans h.nl k.nl,fun l hl=>(k.loop l (Nat.lt_of_lt_of_le hl h.nl)).trans (h.loop l hl)⟩
theorem bG.room (h:bG A G G') (n:Nat):bG A G (G'.room n):=⟨by have:=h.nx; simp; omega,h.obj,h.nl,h.loop⟩
theorem bG.push (h:bG A G G') (o:aR):bG A G (G'.push o) :=
  ⟨by have:=h.nx; simp; omega,fun g hg hs=>by rw [jR,if_neg (by have:=h.nx; omega)]; exact h.obj g hg hs,h.nl,h.loop⟩
theorem bG.put (h:bG A G G') {b:Nat} (hb:A b∨G.nx≤b) (o:aR):bG A G (G'.put b o) :=
  ⟨h.nx,fun g hg hs=>by rw [aT,if_neg (by rintro rfl; exact hb.elim hs (by omega))]; exact h.obj g hg hs,h.nl,h.loop⟩
theorem bG.cC (h:bG A G G') {l:Nat} (hl:G.nl≤l) (r:Lp):bG A G (G'.cC l r) :=
  ⟨h.nx,h.obj,h.nl,fun k hk=>by rw [OH,if_neg (by omega)]; exact h.loop k hk⟩
theorem Ext.fD (h:Ext G G') (r:Lp):Ext G (G'.fD r) :=
  ⟨h.nx,h.obj,by have:=h.nl; simp; omega,fun l hl=>by rw [Xo,if_neg (by have:=h.nl; omega)]; exact h.loop l hl⟩
theorem Ext.cC (h:Ext G G') {l:Nat} (hl:G.nl≤l) (r:Lp):Ext G (G'.cC l r) :=
  ⟨h.nx,h.obj,h.nl,fun k hk=>by rw [OH,if_neg (by omega)]; exact h.loop k hk⟩
theorem mH.grow (h:mH A G) (hn:G.nx≤G'.nx):mH (Grow A G G') G':=fun x hx=>hx.elim (fun ha=>Nat.lt_of_lt_of_le (h x ha) hn) (·.2)
theorem mH.le (h:mH A G) (hn:G.nx≤G'.nx):mH A G':=fun x hx=>Nat.lt_of_lt_of_le (h x hx) hn
end
def cY (v:Value) (x:Nat):Prop:=∃ a n c,v= .slice (some a) n c∧a.block=x
theorem bI.kept {α:Type} {e:cT α} {G G':GS} {v:Value} {L:List α} (h:bI e G v L) (hn:G.nx≤G'.nx) (hk:∀ g,cY v g→G'.obj g=G.obj g):bI e G' v L:=h.same hn fun a n c he=>hk _ ⟨a,n,c,he,rfl⟩
theorem cj.kept {α:Type} {e:cT α} {B:Nat} {G G':GS} {v:Value} {L:List α} (h:cj e B G v L) (hn:G.nx≤G'.nx) (hk:∀ g,cY v g→G'.obj g=G.obj g):cj e B G' v L:=h.same hn fun a n c he=>hk _ ⟨a,n,c,he,rfl⟩
theorem bI.under {α:Type} {e:cT α} {G:GS} {v:Value} {L:List α} (h:bI e G v L):mH (cY v) G:=fun x ⟨a,n,c,he,hx⟩=>hx▸h.lt a n c he
theorem cj.from {α:Type} {e:cT α} {B:Nat} {G:GS} {v:Value} {L:List α} (h:cj e B G v L) {x:Nat} (hx:cY v x):B≤x:=by
  obtain ⟨a,n,c,he,rfl⟩:=hx
  exact h.ge a n c he
theorem cj.IP {α:Type} {e:cT α} {B:Nat} {G:GS} {v x:Value} {L M:List α} {ib:Nat} (h:cj e B G v L) (hb:ib≠0) (hx:bI e G x M) (hM:0<M.length) (cQ:(2*(L.length+M.length)+1000)*ib≤2 ^ 48) :
    ∃ v' G',oz e.sz ib v x G=some (v',G')∧bG (cY v) G G' ∧cj e G.nx G' v' (L++M):=by
  have qk:=vl hx.is
  obtain ⟨a,c,rfl⟩:=hx.len
  have hi:e.sz≠0:=by have:=e.pos; omega
  unfold oz
  rw [if_neg (by omega)]
  simp only [qk,e.IK,Bool.not_true,Bool.false_eq_true,if_false]
  have hm:¬ M.length=0:=by omega
  have hlen:(e.flat (L++M)).length=(L++M).length*e.sz:=e.qF _
  rcases h.2 with ⟨rfl,h0⟩ | ⟨b,op,rfl,h2,h3,h4⟩
  · have hc:L=[]:=List.eq_nil_of_length_eq_zero h0
    subst hc
    exact ⟨_,_,by simp only [hm,if_false]; rw [if_pos (by simpa using cQ)],(bG.refl _ _).push _,⟨hlen,.inr ⟨G.nx,true,by simp,Nat.le_refl _,by simp,by simp⟩⟩⟩
  · have hr:fE G b 0 (L.length*e.sz)=some (e.flat L):=by
      have:=vl h.reads
      exact this
    simp only [hm,if_false,h4]
    rw [if_neg (by omega)]
    simp only [Nat.zero_add,hr,if_pos cQ]
    have uO:L.length*e.sz=(e.flat L).length:=(e.qF L).symm
    cases op with
    | true =>
      simp only [uO,decide_true,Bool.and_self,if_true]
      exact ⟨_,_,rfl,((bG.refl _ _).put (.inl ⟨_,_,_,rfl,rfl⟩) _).push _,⟨hlen,.inr ⟨G.nx,true,by simp,by simp,by simp,by simp [e.Ea]⟩⟩⟩
    | false =>
      simp only [Bool.false_and,Bool.false_eq_true,if_false]
      exact ⟨_,_,rfl,(bG.refl _ _).push _,⟨hlen,.inr ⟨G.nx,true,by simp,Nat.le_refl _,by simp,by simp [e.Ea]⟩⟩⟩
end Go.Proofs.YtphandknhnkhfaaGreat.Gh
