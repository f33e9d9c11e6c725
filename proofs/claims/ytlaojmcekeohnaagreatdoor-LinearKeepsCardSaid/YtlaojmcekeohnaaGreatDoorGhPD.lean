import Derived.Test.YtlaojmcekeohnaaGreatDoorGhPC
namespace Go.Proofs.YtlaojmcekeohnaaGreatDoor.Gh
open Go
set_option linter.unusedVariables false
set_option linter.unusedSimpArgs false
structure Sep (P:(Nat→Prop)→GS→Prop):Prop where
  un:∀ {A G},P A G→Under A G
  kept:∀ {A G G'},P A G→G.nx≤G'.nx→(∀ g,A g→G'.obj g=G.obj g)→P A G'
  mono:∀ {A B G},P A G→(∀ x,A x→B x)→Under B G→P B G
structure Thr (P:(Nat→Prop)→GS→Prop) (A:Nat→Prop) (b:Nat) (G G' :GS):Prop where
  mod:ModP (fun x=>A x∨x=b) G G'
  st:P (Grow A G G') G'
section
variable {P P' :(Nat→Prop)→GS→Prop} {A:Nat→Prop} {b:Nat} {G G' G'' :GS}
theorem Thr.refl (hP:Sep P) (h:P A G):Thr P A b G G:=⟨ModP.refl _ _,hP.mono h (fun _=> .inl) ((hP.un h).grow (Nat.le_refl _))⟩
theorem Thr.of (q:ModP A G G') (h:P (Grow A G G') G'):Thr P A b G G' :=⟨q.mono fun _=> .inl,h⟩
theorem Thr.put (hP:Sep P) (h:Thr P A b G G') (ha:¬ A b) (hb:b<G.nx) (o:GObj):Thr P A b G (G'.put b o) :=
  ⟨h.mod.put (.inl (.inr rfl)) o,hP.kept h.st (Nat.le_refl _) fun g hg=>by rw [obj_put,if_neg]; rintro rfl; exact hg.elim ha fun h=>by omega⟩
theorem Thr.ext (hP:Sep P) (h:Thr P A b G G') (x:Ext G' G''):Thr P A b G G'' :=
  have q:ModP (fun x=>A x∨x=b) G G'' :=h.mod.trans (x.modP _)
  ⟨q,hP.mono (hP.kept h.st x.nx fun g hg=>x.obj g (hP.un h.st g hg)) (fun g hg=>hg.imp id fun k=>⟨k.1,Nat.lt_of_lt_of_le k.2 x.nx⟩) fun g hg=>hg.elim (fun k=>Nat.lt_of_lt_of_le (hP.un h.st g (.inl k)) x.nx) (·.2)⟩
theorem Thr.acc (hP:Sep P) (hP' :Sep P') (h:Thr P A b G G') (q:ModP (Grow A G G') G' G'') (k:P' (Grow (Grow A G G') G' G'') G''):Thr P' A b G G'' :=by
  have hm:ModP (fun x=>A x∨x=b) G G'' :=h.mod.trans (q.mono fun g hg=>hg.elim (fun k=> .inl (.inl k)) .inr)
  refine ⟨hm,hP'.mono k (fun g hg=>Grow.trans h.mod.nx q.nx hg) fun g hg=> ?_⟩
  rcases hg with hg | hg
  · exact Nat.lt_of_lt_of_le (hP.un h.st g (.inl hg)) q.nx
  · exact hg.2
theorem Thr.keep (h:Thr P A b G G') {g:Nat} (hg:g<G.nx) (ha:¬ A g) (hb:g≠b):G'.obj g=G.obj g:=h.mod.obj g hg fun k=>k.elim ha hb
end
def Tag (own:Nat→Nat) (G:GS) (t:Nat):Nat→Prop:=fun x=>x<G.nx∧own x=t
def Agr (own own' :Nat→Nat) (G:GS):Prop:=∀ x,x<G.nx→own' x=own x
def grown (own:Nat→Nat) (G:GS) (t:Nat):Nat→Nat:=fun x=>if x<G.nx then own x else t
def ModT (ts:List Nat) (own:Nat→Nat) (G G' :GS):Prop:=ModP (fun x=>own x∈ts) G G'
section
variable {own own' own'' :Nat→Nat} {G G' G'' :GS} {t u:Nat} {ts us:List Nat} {P P' :(Nat→Prop)→GS→Prop}
theorem Agr.refl (own:Nat→Nat) (G:GS):Agr own own G:=fun _ _=>rfl
theorem Agr.trans (h:Agr own own' G) (k:Agr own' own'' G') (hn:G.nx≤G'.nx):Agr own own'' G:=fun x hx=>(k x (Nat.lt_of_lt_of_le hx hn)).trans (h x hx)
theorem grown_agr:Agr own (grown own G t) G:=fun x hx=>by unfold grown; rw [if_pos hx]
theorem grown_new {x:Nat} (hx:G.nx≤x):grown own G t x=t:=by unfold grown; rw [if_neg (by omega)]
theorem Tag.under:Under (Tag own G t) G:=fun _ h=>h.1
theorem Tag.apart (h:t≠u):Apart (Tag own G t) (Tag own G u):=fun x h1 h2=>h (h1.2.symm.trans h2.2)
theorem Tag.le (a:Agr own own' G) (hn:G.nx≤G'.nx):∀ x,Tag own G t x→Tag own' G' t x:=fun x h=>⟨Nat.lt_of_lt_of_le h.1 hn,(a x h.1).trans h.2⟩
theorem Tag.grow (hn:G.nx≤G'.nx):∀ x,Grow (Tag own G t) G G' x→Tag (grown own G t) G' t x:=fun x h=>by
  rcases h with h | h
  · exact Tag.le grown_agr hn x h
  · exact ⟨h.2,grown_new h.1⟩
theorem ModT.refl (ts:List Nat) (own:Nat→Nat) (G:GS):ModT ts own G G:=ModP.refl _ _
theorem ModT.trans (h:ModT ts own G G') (a:Agr own own' G) (k:ModT ts own' G' G''):ModT ts own G G'' :=
  ⟨Nat.le_trans h.nx k.nx,fun g hg hn=>(k.obj g (Nat.lt_of_lt_of_le hg h.nx) (by rw [a g hg]; exact hn)).trans (h.obj g hg hn),Nat.le_trans h.nl k.nl,fun l hl=>(k.loop l (Nat.lt_of_lt_of_le hl h.nl)).trans (h.loop l hl)⟩
theorem ModT.mono (h:ModT ts own G G') (hs:∀ x∈ts,x∈us):ModT us own G G' :=ModP.mono h fun x hx=>hs _ hx
theorem ModT.of (h:ModP (Tag own G t) G G') (ht:t∈ts):ModT ts own G G' :=
  ⟨h.nx,fun g hg hn=>h.obj g hg fun k=>hn (k.2▸ht),h.nl,h.loop⟩
theorem ModT.ext (x:Ext G G'):ModT ts own G G' :=x.modP _
theorem ModT.same (h:ModT ts own G G') {g:Nat} (hg:g<G.nx) (hn:own g∉ts):G'.obj g=G.obj g:=h.obj g hg hn
theorem ModT.put (h:ModT ts own G G') {b:Nat} (hb:own b∈ts∨G.nx≤b) (o:GObj):ModT ts own G (G'.put b o):=ModP.put h hb o
theorem Sep.step (hP:Sep P) (hn:G.nx≤G'.nx) (h:P (Grow (Tag own G t) G G') G'):P (Tag (grown own G t) G' t) G' :=hP.mono h (Tag.grow hn) Tag.under
end
section
variable {α:Type} (e:RowE α)
variable {e}
theorem SlR.block {G:GS} {b:Nat} {L:List α} {op:Bool} (h:G.obj b=some ⟨e.flat L,e.sz,op,1⟩) (hb:b<G.nx):SlR e G (.slice (some ⟨b,0,none⟩) L.length L.length) L :=
  ⟨⟨by rw [e.flat_length],.inr ⟨b,0,L.length,_,rfl,Nat.le_refl _,hb,h,by simp,fun i _=>by simp⟩⟩,fun a n c he ob ho hop=>by cases he; rw [h] at ho; cases ho; rfl⟩
end
end Go.Proofs.YtlaojmcekeohnaaGreatDoor.Gh
