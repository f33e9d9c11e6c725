import Derived.Test.YtkhlabammcghbaaGreatGhPW
import Derived.Test.YtkhlabammcghbaaGreatGhLW
namespace Go.Proofs.YtkhlabammcghbaaGreat.Gh
open Go
set_option linter.unusedVariables false
set_option linter.unusedSimpArgs false
structure ct (α:Type) where
  sz:Nat
  row:α→List Value
  len:∀ a,(row a).length=sz
  RD:∀ a,(row a).all one=true
  pos:0<sz
def ct.flat {α:Type} (e:ct α) (L:List α):List Value:=(L.map e.row).flatten
section
variable {α:Type} (e:ct α)
@[simp] theorem ct.an1:e.flat []=[]:=rfl
theorem ct.pI (a:α) (L:List α):e.flat (a::L)=e.row a++e.flat L:=by simp [ct.flat]
theorem ct.JR (L M:List α):e.flat (L++M)=e.flat L++e.flat M:=by simp [ct.flat]
theorem ct.RE (a:α):e.flat [a]=e.row a:=by simp [ct.flat]
theorem ct.qN:∀ L:List α,(e.flat L).length=L.length*e.sz
  | []=>by simp
  | a::L=>by rw [ct.pI,List.length_append,ct.qN L,e.len]; simp [Nat.add_mul]; omega
theorem ct.RG (L:List α):(e.flat L).all one=true:=by
  rw [List.all_eq_true]
  intro x hx
  simp only [ct.flat,List.mem_flatten,List.mem_map] at hx
  obtain ⟨r,⟨a,_,rfl⟩,hx⟩:=hx
  exact List.all_eq_true.1 (e.RD a) x hx
theorem ct.RH:∀ (L:List α) (i:Nat),(e.flat L).drop (i*e.sz)=e.flat (L.drop i)
  | L,0=>by simp
  | [],i+1=>by simp
  | a::L,i+1=>by
    rw [ct.pI,show (i+1)*e.sz=(e.row a).length+i*e.sz by rw [e.len,Nat.add_mul]; omega,← List.drop_drop,List.drop_left]
    exact ct.RH L i
theorem ct.aaQ (L:List α) {i f:Nat} (hi:i<L.length) (hf:f<e.sz):(e.flat L)[i*e.sz+f]? =(e.row L[i])[f]?:=by
  have h:=e.RH L i
  rw [List.drop_eq_getElem_cons hi,e.pI] at h
  rw [← List.getElem?_drop,h,List.getElem?_append_left (by rw [e.len]; exact hf)]
structure bT (G:GS) (v:Value) (L:List α):Prop where
  is:mf G e.sz v L.length (e.flat L)
  fit:Fit G e.sz v
def cn (B:Nat) (G:GS) (v:Value) (L:List α):Prop:=mg B G e.sz v L.length (e.flat L)
end
section
variable {α:Type} {e:ct α} {B:Nat} {G G':GS} {v:Value} {L:List α}
theorem bT.ext (h:bT e G v L) (x:Ext G G'):bT e G' v L:=⟨h.is.ext x,fun a n c he ob ho=>h.fit a n c he ob (by rw [← x.obj _ (h.is.lt _ _ _ he)]; exact ho)⟩
theorem bT.len (h:bT e G v L):∃ a c,v= .slice a L.length c:=h.is.len
theorem bT.lt (h:bT e G v L):Qd G.nx v:=h.is.lt
theorem bT.same (h:bT e G v L) (hn:G.nx≤G'.nx) (hk:∀ a n c,v= .slice (some a) n c→G'.obj a.block=G.obj a.block):bT e G' v L:=by
  refine ⟨⟨h.is.1,h.is.2.imp id ?_⟩,fun a n c he ob ho=>h.fit a n c he ob (by rw [← hk _ _ _ he]; exact ho)⟩
  rintro ⟨b,o,c,ob,h1,h2,h3,h4,h5,h6⟩
  exact ⟨b,o,c,ob,h1,h2,Nat.lt_of_lt_of_le h3 hn,(hk _ _ _ h1).trans h4,h5,h6⟩
theorem bT.at (h:bT e G v L) {i:Nat} (hi:i<L.length):∃ b o c,v= .slice (some ⟨b,o,none⟩) L.length c∧b<G.nx∧(∀ f,f<e.sz→G.cell b (o+i*e.sz+f)=(e.row L[i])[f]?)∧fO e.sz b (o+i*e.sz) G=some (.agg ⟨e.row L[i]⟩):=by
  obtain ⟨b,o,c,h1,h2,h3⟩:=h.is.at_ hi
  have q:∀ f,f<e.sz→G.cell b (o+i*e.sz+f)=(e.row L[i])[f]?:=fun f hf=>by rw [h3 f hf,e.aaQ L hi hf]
  refine ⟨b,o,c,h1,h2,q,?_⟩
  obtain ⟨s,hs⟩:∃ s,e.sz=s+1:=⟨e.sz - 1,by have:=e.pos; omega⟩
  cases ho:G.obj b with
  | none =>
    have:=q 0 e.pos
    rw [List.getElem?_eq_getElem (by rw [e.len]; exact e.pos)] at this
    simp [GS.cell,ho] at this
  | some ob =>
    obtain ⟨cs,ez,op,m⟩:=ob
    have hm:m≠2:=by
      rintro rfl
      have:=q 0 e.pos
      rw [List.getElem?_eq_getElem (by rw [e.len]; exact e.pos)] at this
      simp [GS.cell,ho] at this
    have hc:∀ f,f<e.sz→cs[o+i*e.sz+f]? =(e.row L[i])[f]?:=fun f hf=>by rw [← q f hf]; exact (cell_of ho hm _).symm
    have hl:o+i*e.sz+e.sz≤cs.length:=by
      have:=hc s (by omega)
      rw [List.getElem?_eq_getElem (l:=e.row L[i]) (by rw [e.len]; omega)] at this
      have:=(List.getElem?_eq_some_iff.1 this).1
      omega
    have hz:=pF (o:=o+i*e.sz) (n:=s) ho hm (by omega)
    rw [← hs] at hz
    rw [hz]
    congr 3
    apply List.ext_getElem?
    intro f
    rw [List.getElem?_take,List.getElem?_drop]
    split
    · rename_i hf; exact hc f hf
    · rename_i hf; rw [List.getElem?_eq_none (by rw [e.len]; omega)]
theorem cn.is (h:cn e B G v L):bT e G v L:=⟨h.reads,fun a n c he ob ho eL=>by
  rcases h.2 with ⟨rfl,_⟩ | ⟨b,op,rfl,h2,h3,h4⟩
  · cases he
  · cases he; rw [h4] at ho; cases ho; rfl⟩
theorem cn.nil (B:Nat) (G:GS):cn e B G (.slice none 0 0) []:=⟨by simp,.inl ⟨rfl,rfl⟩⟩
theorem cn.ext (h:cn e B G v L) (x:Ext G G'):cn e B G' v L:=mg.ext h x
theorem cn.mono {B':Nat} (h:cn e B G v L) (hb:B' ≤B):cn e B' G v L:=mg.mono h hb
theorem cn.ge (h:cn e B G v L):∀ a n c,v= .slice (some a) n c→B≤a.block:=fun a n c he=>by
  rcases h.2 with ⟨rfl,_⟩ | ⟨b,op,rfl,h2,h3,h4⟩
  · cases he
  · cases he; exact h2
theorem cn.same (h:cn e B G v L) (hn:G.nx≤G'.nx) (hk:∀ a n c,v= .slice (some a) n c→G'.obj a.block=G.obj a.block):cn e B G' v L :=
  ⟨h.1,h.2.imp id fun ⟨b,op,h1,h2,h3,h4⟩=>⟨b,op,h1,h2,Nat.lt_of_lt_of_le h3 hn,(hk _ _ _ h1).trans h4⟩⟩
theorem bT.one (e:ct α) (G:GS) (a:α):bT e (G.push ⟨e.row a,e.sz,false,1⟩) (.slice (some ⟨G.nx,0,none⟩) 1 1) [a] :=
  ⟨⟨by simp [e.qN],.inr ⟨G.nx,0,1,_,rfl,Nat.le_refl _,by simp,by simp; rfl,by simp,fun i _=>by simp [e.RE]⟩⟩,fun a' n c he ob ho eL=>by cases he; simp at ho; subst ho; cases eL⟩
theorem cn.app {A:GS} {x:Value} {M:List α} {ib:Nat} (h:cn e A.nx G v L) (hb:ib≠0) (hA:Ext A G) (hx:bT e G x M) (cm:(2*(L.length+M.length)+1000)*ib≤2 ^ 48) :
    ∃ v' G',j9 e.sz ib v x G=some (v',G')∧Ext A G' ∧cn e A.nx G' v' (L++M):=by
  obtain ⟨v',G',h1,h2,h3⟩:=Yx (by have:=e.pos; omega) hb hA h hx.is (e.RG M) cm
  exact ⟨v',G',h1,h2,by unfold cn; rw [List.length_append,e.JR]; exact h3⟩
end
def bh (k:IntKind):ct Int:=⟨1,fun x=>[.int k x],fun _=>rfl,fun _=>rfl,by decide⟩
end Go.Proofs.YtkhlabammcghbaaGreat.Gh
