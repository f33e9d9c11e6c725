import Derived.Test.YtphandknhnkhfaaGreatGhPW
import Derived.Test.YtphandknhnkhfaaGreatGhLW
namespace Go.Proofs.YtphandknhnkhfaaGreat.Gh
open Go
set_option linter.unusedVariables false
set_option linter.unusedSimpArgs false
structure cT (α:Type) where
  sz:Nat
  row:α→List Value
  len:∀ a,(row a).length=sz
  Qc:∀ a,(row a).all one=true
  pos:0<sz
def cT.flat {α:Type} (e:cT α) (L:List α):List Value:=(L.map e.row).flatten
section
variable {α:Type} (e:cT α)
@[simp] theorem cT.aoZ:e.flat []=[]:=rfl
theorem cT.pC (a:α) (L:List α):e.flat (a::L)=e.row a++e.flat L:=by simp [cT.flat]
theorem cT.Ea (L M:List α):e.flat (L++M)=e.flat L++e.flat M:=by simp [cT.flat]
theorem cT.Eb (a:α):e.flat [a]=e.row a:=by simp [cT.flat]
theorem cT.qF:∀ L:List α,(e.flat L).length=L.length*e.sz
  | []=>by simp
  | a::L=>by rw [cT.pC,List.length_append,cT.qF L,e.len]; simp [Nat.add_mul]; omega
theorem cT.IK (L:List α):(e.flat L).all one=true:=by
  rw [List.all_eq_true]
  intro x hx
  simp only [cT.flat,List.mem_flatten,List.mem_map] at hx
  obtain ⟨r,⟨a,_,rfl⟩,hx⟩:=hx
  exact List.all_eq_true.1 (e.Qc a) x hx
theorem cT.IL:∀ (L:List α) (i:Nat),(e.flat L).drop (i*e.sz)=e.flat (L.drop i)
  | L,0=>by simp
  | [],i+1=>by simp
  | a::L,i+1=>by
    rw [cT.pC,show (i+1)*e.sz=(e.row a).length+i*e.sz by rw [e.len,Nat.add_mul]; omega,← List.drop_drop,List.drop_left]
    exact cT.IL L i
theorem cT.Zp (L:List α) {i f:Nat} (hi:i<L.length) (hf:f<e.sz):(e.flat L)[i*e.sz+f]? =(e.row L[i])[f]?:=by
  have h:=e.IL L i
  rw [List.drop_eq_getElem_cons hi,e.pC] at h
  rw [← List.getElem?_drop,h,List.getElem?_append_left (by rw [e.len]; exact hf)]
structure bI (G:GS) (v:Value) (L:List α):Prop where
  is:mq G e.sz v L.length (e.flat L)
  fit:Fit G e.sz v
def cj (B:Nat) (G:GS) (v:Value) (L:List α):Prop:=mv B G e.sz v L.length (e.flat L)
end
section
variable {α:Type} {e:cT α} {B:Nat} {G G':GS} {v:Value} {L:List α}
theorem bI.ext (h:bI e G v L) (x:Ext G G'):bI e G' v L:=⟨h.is.ext x,fun a n c he ob ho=>h.fit a n c he ob (by rw [← x.obj _ (h.is.lt _ _ _ he)]; exact ho)⟩
theorem bI.len (h:bI e G v L):∃ a c,v= .slice a L.length c:=h.is.len
theorem bI.lt (h:bI e G v L):OI G.nx v:=h.is.lt
theorem bI.nil:bI e G (.slice none 0 0) ([]:List α):=⟨⟨by simp,.inl ⟨rfl,rfl⟩⟩,fun a n c he=>(by cases he)⟩
theorem bI.same (h:bI e G v L) (hn:G.nx≤G'.nx) (hk:∀ a n c,v= .slice (some a) n c→G'.obj a.block=G.obj a.block):bI e G' v L:=by
  refine ⟨⟨h.is.1,h.is.2.imp id ?_⟩,fun a n c he ob ho=>h.fit a n c he ob (by rw [← hk _ _ _ he]; exact ho)⟩
  rintro ⟨b,o,c,ob,h1,h2,h3,h4,h5,h6⟩
  exact ⟨b,o,c,ob,h1,h2,Nat.lt_of_lt_of_le h3 hn,(hk _ _ _ h1).trans h4,h5,h6⟩
theorem bI.at (h:bI e G v L) {i:Nat} (hi:i<L.length):∃ b o c,v= .slice (some ⟨b,o,none⟩) L.length c∧b<G.nx∧(∀ f,f<e.sz→G.cell b (o+i*e.sz+f)=(e.row L[i])[f]?)∧eI e.sz b (o+i*e.sz) G=some (.agg ⟨e.row L[i]⟩):=by
  obtain ⟨b,o,c,h1,h2,h3⟩:=h.is.at_ hi
  have q:∀ f,f<e.sz→G.cell b (o+i*e.sz+f)=(e.row L[i])[f]?:=fun f hf=>by rw [h3 f hf,e.Zp L hi hf]
  refine ⟨b,o,c,h1,h2,q,?_⟩
  obtain ⟨s,hs⟩:∃ s,e.sz=s+1:=⟨e.sz - 1,by have:=e.pos; omega⟩
  cases ho:G.obj b with
  | none =>
    have:=q 0 e.pos
    rw [List.getElem?_eq_getElem (by rw [e.len]; exact e.pos)] at this
    simp [GS.cell,ho] at this
  | some ob =>
    obtain ⟨cs,ez,op,m⟩:=ob
    have hm:m≠2:=by
      rintro rfl
      have:=q 0 e.pos
      rw [List.getElem?_eq_getElem (by rw [e.len]; exact e.pos)] at this
      simp [GS.cell,ho] at this
    have hc:∀ f,f<e.sz→cs[o+i*e.sz+f]? =(e.row L[i])[f]?:=fun f hf=>by rw [← q f hf]; exact (cell_of ho hm _).symm
    have hl:o+i*e.sz+e.sz≤cs.length:=by
      have:=hc s (by omega)
      rw [List.getElem?_eq_getElem (l:=e.row L[i]) (by rw [e.len]; omega)] at this
      have:=(List.getElem?_eq_some_iff.1 this).1
      omega
    have hz:=mC (o:=o+i*e.sz) (n:=s) ho hm (by omega)
    rw [← hs] at hz
    rw [hz]
    congr 3
    apply List.ext_getElem?
    intro f
    rw [List.getElem?_take,List.getElem?_drop]
    split
    · rename_i hf; exact hc f hf
    · rename_i hf; rw [List.getElem?_eq_none (by rw [e.len]; omega)]
theorem cj.is (h:cj e B G v L):bI e G v L:=⟨h.reads,fun a n c he ob ho fc=>by
  rcases h.2 with ⟨rfl,_⟩ | ⟨b,op,rfl,h2,h3,h4⟩
  · cases he
  · cases he; rw [h4] at ho; cases ho; rfl⟩
theorem cj.nil (B:Nat) (G:GS):cj e B G (.slice none 0 0) []:=⟨by simp,.inl ⟨rfl,rfl⟩⟩
theorem cj.ext (h:cj e B G v L) (x:Ext G G'):cj e B G' v L:=mv.ext h x
theorem cj.mono {B':Nat} (h:cj e B G v L) (hb:B' ≤B):cj e B' G v L:=mv.mono h hb
theorem cj.ge (h:cj e B G v L):∀ a n c,v= .slice (some a) n c→B≤a.block:=fun a n c he=>by
  rcases h.2 with ⟨rfl,_⟩ | ⟨b,op,rfl,h2,h3,h4⟩
  · cases he
  · cases he; exact h2
theorem cj.same (h:cj e B G v L) (hn:G.nx≤G'.nx) (hk:∀ a n c,v= .slice (some a) n c→G'.obj a.block=G.obj a.block):cj e B G' v L :=
  ⟨h.1,h.2.imp id fun ⟨b,op,h1,h2,h3,h4⟩=>⟨b,op,h1,h2,Nat.lt_of_lt_of_le h3 hn,(hk _ _ _ h1).trans h4⟩⟩
theorem bI.one (e:cT α) (G:GS) (a:α):bI e (G.push ⟨e.row a,e.sz,false,1⟩) (.slice (some ⟨G.nx,0,none⟩) 1 1) [a] :=
  ⟨⟨by simp [e.qF],.inr ⟨G.nx,0,1,_,rfl,Nat.le_refl _,by simp,by simp; rfl,by simp,fun i _=>by simp [e.Eb]⟩⟩,fun a' n c he ob ho fc=>by cases he; simp at ho; subst ho; cases fc⟩
theorem cj.app {A:GS} {x:Value} {M:List α} {ib:Nat} (h:cj e A.nx G v L) (hb:ib≠0) (hA:Ext A G) (hx:bI e G x M) (cQ:(2*(L.length+M.length)+1000)*ib≤2 ^ 48) :
    ∃ v' G',oz e.sz ib v x G=some (v',G')∧Ext A G' ∧cj e A.nx G' v' (L++M):=by
  obtain ⟨v',G',h1,h2,h3⟩:=Xp (by have:=e.pos; omega) hb hA h hx.is (e.IK M) cQ
  exact ⟨v',G',h1,h2,by unfold cj; rw [List.length_append,e.Ea]; exact h3⟩
theorem bI.drop (h:bI e G v L) {k:IntKind} {o:Nat} (ho:o≤L.length):∃ v',jo e.sz v (some (.int k o)) none none G=some v' ∧bI e G v' (L.drop o):=by
  have hl:(e.flat (L.drop o)).length=(L.drop o).length*e.sz:=e.qF _
  rcases h.is.2 with ⟨rfl,h0⟩ | ⟨b,f,c,ob,rfl,h2,h3,h4,h5,h6⟩
  · have hL:L=[]:=List.eq_nil_of_length_eq_zero h0
    subst hL
    have:o=0:=by simpa using ho
    subst this
    exact ⟨.slice none 0 0,by simp [jo,bound],bI.nil⟩
  · have h1:(0:Int)≤o∧(o:Int)≤L.length:=by omega
    have uL:=h.fit _ _ _ rfl ob h4
    refine ⟨.slice (some ⟨b,f+o*e.sz,none⟩) (L.length - o) (c - o),?_,⟨⟨hl,.inr ⟨b,f+o*e.sz,c - o,ob,by simp,by simp; omega,h3,h4,h5,fun i hi=>?_⟩⟩,fun a n c' he PG da fc=>by cases he; exact h.fit _ _ _ rfl PG da fc⟩⟩
    · simp only [jo,h4]
      cases fc:ob.opn
      · simp [bound,h1]; omega
      · simp [bound,h1,uL fc]; omega
    · rw [← e.IL,List.getElem?_drop,Nat.add_assoc]
      refine h6 _ ?_
      simp only [List.length_drop,Nat.sub_mul] at hi
      omega
end
def bK (k:IntKind):cT Int:=⟨1,fun x=>[.int k x],fun _=>rfl,fun _=>rfl,by decide⟩
end Go.Proofs.YtphandknhnkhfaaGreat.Gh
