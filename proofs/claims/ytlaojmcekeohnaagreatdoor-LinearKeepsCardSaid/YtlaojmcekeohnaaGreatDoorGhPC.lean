import Derived.Test.YtlaojmcekeohnaaGreatDoorGhPT
namespace Go.Proofs.YtlaojmcekeohnaaGreatDoor.Gh
open Go
set_option linter.unusedVariables false
set_option linter.unusedSimpArgs false
theorem Wp.step {β:Type} {x:Option (Value×GS)} {v:Value} {P:GS→Prop} {K:Value→GS→Option β} {R:β→Prop} (h:∃ G',x=some (v,G')∧P G') (k:∀ G',P G' →Wp (K v G') R):Wp (Gh.bS x K) R:=by
  obtain ⟨G',rfl,hp⟩:=h; exact k G' hp
theorem Wp.stepW {β:Type} {x:Option (Value×GS)} {P:Value×GS→Prop} {K:Value→GS→Option β} {R:β→Prop} (h:Wp x P) (k:∀ v G',P (v,G')→Wp (K v G') R):Wp (Gh.bS x K) R:=by
  obtain ⟨⟨v,G'⟩,rfl,hp⟩:=h; exact k v G' hp
@[simp] theorem loadA_room (n b o k:Nat) (G:GS):loadA n b o (G.room k)=loadA n b o G:=Eq.trans rfl rfl
@[simp] theorem bS_id (x:Option (Value×GS)):(Gh.bS x fun y G=>some (y,G))=x:=by cases x<;>rfl
@[simp] theorem sameO_func (f:Fn) (a b:List Value):sameO (some (.func f ⟨a⟩ ⟨b⟩)) (.func f ⟨a⟩ ⟨b⟩)=((a.all fun x=>sameD 3 x x)&&b.all fun x=>sameD 3 x x):=by
  simp only [sameO,same,sameD,listD_all,beq_self_eq_true,Bool.true_and]
@[simp] theorem sameD_func (n:Nat) (f:Fn) (a b:List Value):sameD (n+1) (.func f ⟨a⟩ ⟨b⟩) (.func f ⟨a⟩ ⟨b⟩)=((a.all fun x=>sameD n x x)&&b.all fun x=>sameD n x x):=by
  simp only [sameD,listD_all,beq_self_eq_true,Bool.true_and]
theorem same_own {α:Type} {e:RowE α} {B:Nat} {G:GS} {v:Value} {L:List α} (h:OwR e B G v L):sameO (some v) v=true:=by
  rcases h.2 with ⟨rfl,_⟩ | ⟨b,op,rfl,_⟩<;>simp
structure Col {α:Type} (e:RowE α) (B:GS) (ob l:Nat) (r:Lp) (G:GS) (L:List α):Prop where
  nx:B.nx≤G.nx
  obj:∀ g,g<B.nx→g≠ob→G.obj g=B.obj g
  nl:B.nl≤G.nl
  loop:∀ k,k<B.nl→k≠l→G.loop k=B.loop k
  obB:ob<B.nx
  lB:l<B.nl
  lp:G.loop l=some r
  var:∃ v,G.obj ob=some ⟨[v],1,false,1⟩∧OwR e B.nx G v L
section
variable {α:Type} {e:RowE α} {A B G G' :GS} {ob l:Nat} {r:Lp} {L:List α}
theorem Col.begin (e:RowE α) {G1:GS} (ho:G1.obj ob=some ⟨[.slice none 0 0],1,false,1⟩) (hb:ob<G1.nx) (r:Lp):Col e (G1.pushLoop r) ob G1.nl r (G1.pushLoop r) [] :=
  ⟨Nat.le_refl _,fun _ _ _=>rfl,Nat.le_refl _,fun _ _ _=>rfl,hb,by simp,by simp,_,by simpa using ho,OwR.nil _ _⟩
theorem Col.ext (h:Col e B ob l r G L) (x:Ext G G'):Col e B ob l r G' L:=by
  obtain ⟨v,h1,h2⟩:=h.var
  exact ⟨Nat.le_trans h.nx x.nx,fun g hg hn=>(x.obj g (Nat.lt_of_lt_of_le hg h.nx)).trans (h.obj g hg hn),Nat.le_trans h.nl x.nl,fun k hk hn=>(x.loop k (Nat.lt_of_lt_of_le hk h.nl)).trans (h.loop k hk hn),h.obB,h.lB,
    (x.loop l (Nat.lt_of_lt_of_le h.lB h.nl)).trans h.lp,v,(x.obj ob (Nat.lt_of_lt_of_le h.obB h.nx)).trans h1,h2.ext x⟩
theorem Col.lp' (h:Col e B ob l r G L) (r' :Lp):Col e B ob l r' (G.putLoop l r') L:=by
  obtain ⟨v,h1,h2⟩:=h.var
  exact ⟨h.nx,fun g hg hn=>by simpa using h.obj g hg hn,h.nl,fun k hk hn=>by rw [loop_putLoop,if_neg hn]; exact h.loop k hk hn,h.obB,h.lB,by simp,v,by simpa using h1,h2.kept (by simp) fun g _=>by simp⟩
theorem Col.drawn (h:Col e B ob l r G L) (x:Ext G G') {n:Nat} (hn:G.nx≤n) (o:GObj):Col e B ob l r (((G'.at' n).push o).back G') L:=by
  have h' :=h.ext x
  obtain ⟨v,h1,h2⟩:=h.var
  have hob:=h.obB
  have hnx:=h.nx
  refine ⟨h'.nx,fun g hg hne=> ?_,h'.nl,fun k hk hne=> ?_,h.obB,h.lB,?_,v,?_,?_⟩
  · simp; rw [if_neg (by omega)]; exact h'.obj g hg hne
  · simpa using h'.loop k hk hne
  · simpa using h'.lp
  · simp; rw [if_neg (by omega)]; exact (x.obj ob (by omega)).trans h1
  · refine h2.kept x.nx fun g hg=> ?_
    have:=h2.is.under g hg
    simp; rw [if_neg (by omega)]; exact x.obj g this
theorem Col.app {x:Value} {M:List α} {ib:Nat} (h:Col e B ob l r G L) (hb:ib≠0) (hx:SlR e G x M) (hM:0<M.length) (hsz:(2*(L.length+M.length)+1000)*ib≤2 ^ 48) :
    ∃ v v' G',G.obj ob=some ⟨[v],1,false,1⟩∧one v=true∧appK e.sz ib v x G=some (v',G')∧one v' =true∧G'.obj ob=some ⟨[v],1,false,1⟩∧G'.loop l=some r∧Col e B ob l r (G'.put ob ⟨[v'],1,false,1⟩) (L++M):=by
  obtain ⟨v,h1,h2⟩:=h.var
  obtain ⟨v',G',e',m',r'⟩:=h2.app_mod hb hx hM hsz
  have hob:=h.obB
  have hnx:=h.nx
  have hne:¬ InB v ob:=fun hi=>by have:=h2.from hi; omega
  have hne' :¬ InB v' ob:=fun hi=>by have:=r'.from hi; omega
  have o' :=(m'.obj ob (by omega) hne).trans h1
  have l' :=(m'.loop l (Nat.lt_of_lt_of_le h.lB h.nl)).trans h.lp
  refine ⟨v,v',G',h1,own_one h2,e',own_one r',o',l',⟨Nat.le_trans h.nx m'.nx,fun g hg hn=> ?_,Nat.le_trans h.nl m'.nl,fun k hk hn=> ?_,h.obB,h.lB,l',v',by simp,?_⟩⟩
  · rw [obj_put,if_neg hn,m'.obj g (by omega) (fun hi=>by have:=h2.from hi; omega)]; exact h.obj g hg hn
  · exact (m'.loop k (Nat.lt_of_lt_of_le hk h.nl)).trans (h.loop k hk hn)
  · refine (r'.mono hnx).kept (by simp) fun g hg=> ?_
    have:g≠ob:=fun q=>hne' (q▸hg)
    simp [this]
theorem Col.from (h:Col e B ob l r G L) (x:Ext A B) (ho:A.nx≤ob) (hl:A.nl≤l):Ext A G :=
  ⟨Nat.le_trans x.nx h.nx,fun g hg=>(h.obj g (Nat.lt_of_lt_of_le hg x.nx) (by omega)).trans (x.obj g hg),Nat.le_trans x.nl h.nl,fun k hk=>(h.loop k (Nat.lt_of_lt_of_le hk x.nl) (by omega)).trans (x.loop k hk)⟩
end
end Go.Proofs.YtlaojmcekeohnaaGreatDoor.Gh
