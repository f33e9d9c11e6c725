import Derived.Test.YtkhlabammcghbaaGreatGhPC
namespace Go.Proofs.YtkhlabammcghbaaGreat.Gh
open Go
set_option linter.unusedVariables false
set_option linter.unusedSimpArgs false
structure Sep (P:(Nat→Prop)→GS→Prop):Prop where
  un:∀ {A G},P A G→mv A G
  kept:∀ {A G G'},P A G→G.nx≤G'.nx→(∀ g,A g→G'.obj g=G.obj g)→P A G'
  mono:∀ {A B G},P A G→(∀ x,A x→B x)→mv B G→P B G
section
variable {P P':(Nat→Prop)→GS→Prop} {A:Nat→Prop} {b:Nat} {G G' pJ:GS}
end
def Tag (own:Nat→Nat) (G:GS) (t:Nat):Nat→Prop:=fun x=>x<G.nx∧own x=t
def bf (own own':Nat→Nat) (G:GS):Prop:=∀ x,x<G.nx→own' x=own x
def grown (own:Nat→Nat) (G:GS) (t:Nat):Nat→Nat:=fun x=>if x<G.nx then own x else t
def aE (ts:List Nat) (own:Nat→Nat) (G G':GS):Prop:=bC (fun x=>own x∈ts) G G'
section
variable {own own' own'':Nat→Nat} {G G' pJ:GS} {t u:Nat} {ts us:List Nat} {P P':(Nat→Prop)→GS→Prop}
theorem bf.refl (own:Nat→Nat) (G:GS):bf own own G:=fun _ _=>rfl
theorem bf.trans (h:bf own own' G) (k:bf own' own'' G') (hn:G.nx≤G'.nx):bf own own'' G:=fun x hx=>(k x (Nat.lt_of_lt_of_le hx hn)).trans (h x hx)
theorem dk:bf own (grown own G t) G:=fun x hx=>by unfold grown; rw [if_pos hx]
theorem lG {x:Nat} (hx:G.nx≤x):grown own G t x=t:=by unfold grown; rw [if_neg (by omega)]
theorem Tag.under:mv (Tag own G t) G:=fun _ h=>h.1
theorem Tag.le (a:bf own own' G) (hn:G.nx≤G'.nx):∀ x,Tag own G t x→Tag own' G' t x:=fun x h=>⟨Nat.lt_of_lt_of_le h.1 hn,(a x h.1).trans h.2⟩
theorem Tag.grow (hn:G.nx≤G'.nx):∀ x,Grow (Tag own G t) G G' x→Tag (grown own G t) G' t x:=fun x h=>by
  rcases h with h | h
  · exact Tag.le dk hn x h
  · exact ⟨h.2,lG h.1⟩
theorem aE.refl (ts:List Nat) (own:Nat→Nat) (G:GS):aE ts own G G:=bC.refl _ _
theorem aE.trans (h:aE ts own G G') (a:bf own own' G) (k:aE ts own' G' pJ):aE ts own G pJ :=
  ⟨Nat.le_trans h.nx k.nx,fun g hg hn=>(k.obj g (Nat.lt_of_lt_of_le hg h.nx) (by rw [a g hg]; exact hn)).trans (h.obj g hg hn),Nat.le_trans h.nl k.nl,fun l hl=>(k.loop l (Nat.lt_of_lt_of_le hl h.nl)).trans (h.loop l hl)⟩
theorem aE.mono (h:aE ts own G G') (hs:∀ x∈ts,x∈us):aE us own G G':=bC.mono h fun x hx=>hs _ hx
theorem aE.ext (x:Ext G G'):aE ts own G G':=x.vB _
theorem aE.same (h:aE ts own G G') {g:Nat} (hg:g<G.nx) (hn:own g∉ts):G'.obj g=G.obj g:=h.obj g hg hn
theorem aE.put (h:aE ts own G G') {b:Nat} (hb:own b∈ts∨G.nx≤b) (o:bK):aE ts own G (G'.put b o):=bC.put h hb o
theorem aE.JZ (h:aE ts own G G') (hn:∀ g,g<pJ.nx→own g∉ts) (x:Ext pJ G):Ext pJ G' :=
  ⟨Nat.le_trans x.nx h.nx,fun g hg=>(h.obj g (Nat.lt_of_lt_of_le hg x.nx) (hn g hg)).trans (x.obj g hg),Nat.le_trans x.nl h.nl,fun l hl=>(h.loop l (Nat.lt_of_lt_of_le hl x.nl)).trans (x.loop l hl)⟩
theorem Sep.tag (hP:Sep P) (h:P (Tag own G t) G) (m:aE ts own G G') (ht:t∉ts) (a:bf own own' G):P (Tag own' G' t) G' :=
  hP.mono (hP.kept h m.nx fun g hg=>m.obj g hg.1 (hg.2▸ht)) (Tag.le a m.nx) Tag.under
theorem Sep.step (hP:Sep P) (hn:G.nx≤G'.nx) (h:P (Grow (Tag own G t) G G') G'):P (Tag (grown own G t) G' t) G':=hP.mono h (Tag.grow hn) Tag.under
end
section
variable {α:Type} (e:ct α)
theorem ct.RK:∀ (L:List α) {i:Nat} (hi:i<L.length) (a:α),gY (e.flat L) (i*e.sz) (e.row a)=e.flat (L.set i a)
  | [],i,hi,a=>by simp at hi
  | b::L,0,hi,a=>by
    simp only [gY,Nat.zero_mul,List.take_zero,List.nil_append,Nat.zero_add,List.set_cons_zero,e.len]
    rw [e.pI,e.pI,← e.len b,List.drop_left]
  | b::L,i+1,hi,a=>by
    have ih:=ct.RK L (i:=i) (by simpa using hi) a
    rw [List.set_cons_succ,e.pI,e.pI,← ih]
    have h1:(i+1)*e.sz=(e.row b).length+i*e.sz:=by rw [e.len,Nat.add_mul]; omega
    simp only [gY]
    rw [h1,List.take_length_add_append,Nat.add_assoc,← List.drop_drop,List.drop_left]
    simp
variable {e}
theorem bT.block {G:GS} {b:Nat} {L:List α} {op:Bool} (h:G.obj b=some ⟨e.flat L,e.sz,op,1⟩) (hb:b<G.nx):bT e G (.slice (some ⟨b,0,none⟩) L.length L.length) L :=
  ⟨⟨by rw [e.qN],.inr ⟨b,0,L.length,_,rfl,Nat.le_refl _,hb,h,by simp,fun i _=>by simp⟩⟩,fun a n c he ob ho eL=>by cases he; rw [h] at ho; cases ho; rfl⟩
theorem E1 {G:GS} {b:Nat} {L:List α} {op:Bool} (h:G.obj b=some ⟨e.flat L,e.sz,op,1⟩) (hb:b<G.nx) {i:Nat} (hi:i<L.length):fO e.sz b (i*e.sz) G=some (.agg ⟨e.row L[i]⟩):=by
  obtain ⟨b',o,c,e1,_,_,q⟩:=(bT.block h hb).at hi
  cases e1
  simpa using q
theorem aaY {G:GS} {b ez:Nat} {L:List α} {op:Bool} (h:G.obj b=some ⟨e.flat L,ez,op,1⟩) {i:Nat} (hi:i<L.length) (a:α):lq e.sz b (i*e.sz) (.agg ⟨e.row a⟩) G=some (G.put b ⟨e.flat (L.set i a),ez,op,1⟩):=by
  have:(i+1)*e.sz≤L.length*e.sz:=Nat.mul_le_mul_right _ hi
  rw [Nat.add_mul] at this
  rw [RJ,h,JV,if_pos ⟨e.len a,e.RD a,by rw [e.len,e.qN]; omega⟩,e.RK L hi a]
end
end Go.Proofs.YtkhlabammcghbaaGreat.Gh
