import Derived.Test.YtkhlabammcghbaaGreatGhPT
namespace Go.Proofs.YtkhlabammcghbaaGreat.Gh
open Go
set_option linter.unusedVariables false
set_option linter.unusedSimpArgs false
@[simp] theorem aoF (n b o k:Nat) (G:GS):fO n b o (G.room k)=fO n b o G:=Eq.trans rfl rfl
@[simp] theorem aoG (x:Option (Value×GS)):(Gh.bS x fun y G=>some (y,G))=x:=by cases x<;>rfl
@[simp] theorem aoH (f:Fn) (a b:List Value):bp (some (.func f ⟨a⟩ ⟨b⟩)) (.func f ⟨a⟩ ⟨b⟩)=((a.all fun x=>dh 3 x x)&&b.all fun x=>dh 3 x x):=by
  simp only [bp,same,dh,E0,beq_self_eq_true,Bool.true_and]
@[simp] theorem aoI (n:Nat) (f:Fn) (a b:List Value):dh (n+1) (.func f ⟨a⟩ ⟨b⟩) (.func f ⟨a⟩ ⟨b⟩)=((a.all fun x=>dh n x x)&&b.all fun x=>dh n x x):=by
  simp only [dh,E0,beq_self_eq_true,Bool.true_and]
theorem Ci {α:Type} {e:ct α} {B:Nat} {G:GS} {v:Value} {L:List α} (h:cn e B G v L):bp (some v) v=true:=by
  rcases h.2 with ⟨rfl,_⟩ | ⟨b,op,rfl,_⟩<;>simp
theorem JX {α:Type} {e:ct α} {G:GS} {v:Value} {L:List α} (h:bT e G v L):bp (some v) v=true:=by
  obtain ⟨a,c,rfl⟩:=h.len; simp
structure fY {α:Type} (e:ct α) (B:GS) (ob l:Nat) (r:Lp) (G:GS) (L:List α):Prop where
  nx:B.nx≤G.nx
  obj:∀ g,g<B.nx→g≠ob→G.obj g=B.obj g
  nl:B.nl≤G.nl
  loop:∀ k,k<B.nl→k≠l→G.loop k=B.loop k
  zI:ob<B.nx
  lB:l<B.nl
  lp:G.loop l=some r
  var:∃ v,G.obj ob=some ⟨[v],1,false,1⟩∧cn e B.nx G v L
section
variable {α:Type} {e:ct α} {A B G G':GS} {ob l:Nat} {r:Lp} {L:List α}
theorem fY.begin (e:ct α) {G1:GS} (ho:G1.obj ob=some ⟨[.slice none 0 0],1,false,1⟩) (hb:ob<G1.nx) (r:Lp):fY e (G1.dS r) ob G1.nl r (G1.dS r) [] :=
  ⟨Nat.le_refl _,fun _ _ _=>rfl,Nat.le_refl _,fun _ _ _=>rfl,hb,by simp,by simp,_,by simpa using ho,cn.nil _ _⟩
theorem fY.ext (h:fY e B ob l r G L) (x:Ext G G'):fY e B ob l r G' L:=by
  obtain ⟨v,h1,h2⟩:=h.var
  exact ⟨Nat.le_trans h.nx x.nx,fun g hg hn=>(x.obj g (Nat.lt_of_lt_of_le hg h.nx)).trans (h.obj g hg hn),Nat.le_trans h.nl x.nl,fun k hk hn=>(x.loop k (Nat.lt_of_lt_of_le hk h.nl)).trans (h.loop k hk hn),h.zI,h.lB,
    (x.loop l (Nat.lt_of_lt_of_le h.lB h.nl)).trans h.lp,v,(x.obj ob (Nat.lt_of_lt_of_le h.zI h.nx)).trans h1,h2.ext x⟩
theorem fY.bO (h:fY e B ob l r G L) (r':Lp):fY e B ob l r' (G.bR l r') L:=by
  obtain ⟨v,h1,h2⟩:=h.var
  exact ⟨h.nx,fun g hg hn=>by simpa using h.obj g hg hn,h.nl,fun k hk hn=>by rw [IU,if_neg hn]; exact h.loop k hk hn,h.zI,h.lB,by simp,v,by simpa using h1,h2.kept (by simp) fun g _=>by simp⟩
theorem fY.app {x:Value} {M:List α} {ib:Nat} (h:fY e B ob l r G L) (hb:ib≠0) (hx:bT e G x M) (hM:0<M.length) (cm:(2*(L.length+M.length)+1000)*ib≤2 ^ 48) :
    ∃ v v' G',G.obj ob=some ⟨[v],1,false,1⟩∧one v=true∧j9 e.sz ib v x G=some (v',G')∧one v' =true∧G'.obj ob=some ⟨[v],1,false,1⟩∧G'.loop l=some r∧fY e B ob l r (G'.put ob ⟨[v'],1,false,1⟩) (L++M):=by
  obtain ⟨v,h1,h2⟩:=h.var
  obtain ⟨v',G',e',m',r'⟩:=h2.JS hb hx hM cm
  have pq:=h.zI
  have jX:=h.nx
  have aB:¬ iA v ob:=fun hi=>by have:=h2.from hi; omega
  have tj:¬ iA v' ob:=fun hi=>by have:=r'.from hi; omega
  have o':=(m'.obj ob (by omega) aB).trans h1
  have l':=(m'.loop l (Nat.lt_of_lt_of_le h.lB h.nl)).trans h.lp
  refine ⟨v,v',G',h1,tW h2,e',tW r',o',l',⟨Nat.le_trans h.nx m'.nx,fun g hg hn=>?_,Nat.le_trans h.nl m'.nl,fun k hk hn=>?_,h.zI,h.lB,l',v',by simp,?_⟩⟩
  · rw [cM,if_neg hn,m'.obj g (by omega) (fun hi=>by have:=h2.from hi; omega)]; exact h.obj g hg hn
  · exact (m'.loop k (Nat.lt_of_lt_of_le hk h.nl)).trans (h.loop k hk hn)
  · refine (r'.mono jX).kept (by simp) fun g hg=>?_
    have:g≠ob:=fun q=>tj (q▸hg)
    simp [this]
theorem fY.JY {β:Type} {e':ct β} {v:Value} {W:List β} (h:fY e B ob l r G L) (hv:bT e' B v W) (aB:¬ iA v ob):bT e' G v W :=
  hv.kept h.nx fun g hg=>h.obj g (hv.under g hg) fun q=>aB (q▸hg)
theorem fY.from (h:fY e B ob l r G L) (x:Ext A B) (ho:A.nx≤ob) (hl:A.nl≤l):Ext A G :=
  ⟨Nat.le_trans x.nx h.nx,fun g hg=>(h.obj g (Nat.lt_of_lt_of_le hg x.nx) (by omega)).trans (x.obj g hg),Nat.le_trans x.nl h.nl,fun k hk=>(h.loop k (Nat.lt_of_lt_of_le hk x.nl) (by omega)).trans (x.loop k hk)⟩
end
end Go.Proofs.YtkhlabammcghbaaGreat.Gh
