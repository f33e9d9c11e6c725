import Derived.Test.YtlaojmcekeohnaaGreatDoorGhPW
import Derived.Test.YtlaojmcekeohnaaGreatDoorGhLW
namespace Go.Proofs.YtlaojmcekeohnaaGreatDoor.Gh
open Go
set_option linter.unusedVariables false
set_option linter.unusedSimpArgs false
structure RowE (α:Type) where
  sz:Nat
  row:α→List Value
  len:∀ a,(row a).length=sz
  ones:∀ a,(row a).all one=true
  pos:0<sz
def RowE.flat {α:Type} (e:RowE α) (L:List α):List Value:=(L.map e.row).flatten
section
variable {α:Type} (e:RowE α)
@[simp] theorem RowE.flat_nil:e.flat []=[]:=rfl
theorem RowE.flat_cons (a:α) (L:List α):e.flat (a::L)=e.row a++e.flat L:=by simp [RowE.flat]
theorem RowE.flat_append (L M:List α):e.flat (L++M)=e.flat L++e.flat M:=by simp [RowE.flat]
theorem RowE.flat_one (a:α):e.flat [a]=e.row a:=by simp [RowE.flat]
theorem RowE.flat_length:∀ L:List α,(e.flat L).length=L.length*e.sz
  | []=>by simp
  | a::L=>by rw [RowE.flat_cons,List.length_append,RowE.flat_length L,e.len]; simp [Nat.add_mul]; omega
theorem RowE.flat_ones (L:List α):(e.flat L).all one=true:=by
  rw [List.all_eq_true]
  intro x hx
  simp only [RowE.flat,List.mem_flatten,List.mem_map] at hx
  obtain ⟨r,⟨a,_,rfl⟩,hx⟩:=hx
  exact List.all_eq_true.1 (e.ones a) x hx
theorem RowE.flat_drop:∀ (L:List α) (i:Nat),(e.flat L).drop (i*e.sz)=e.flat (L.drop i)
  | L,0=>by simp
  | [],i+1=>by simp
  | a::L,i+1=>by
    rw [RowE.flat_cons,show (i+1)*e.sz=(e.row a).length+i*e.sz by rw [e.len,Nat.add_mul]; omega,← List.drop_drop,List.drop_left]
    exact RowE.flat_drop L i
theorem RowE.flat_take:∀ (L:List α) (i:Nat),(e.flat L).take (i*e.sz)=e.flat (L.take i)
  | L,0=>by simp
  | [],i+1=>by simp
  | a::L,i+1=>by
    rw [RowE.flat_cons,show (i+1)*e.sz=(e.row a).length+i*e.sz by rw [e.len,Nat.add_mul]; omega,List.take_length_add_append,List.take_succ_cons,RowE.flat_cons,RowE.flat_take L i]
theorem RowE.flat_at (L:List α) {i f:Nat} (hi:i<L.length) (hf:f<e.sz):(e.flat L)[i*e.sz+f]? =(e.row L[i])[f]? :=by
  have h:=e.flat_drop L i
  rw [List.drop_eq_getElem_cons hi,e.flat_cons] at h
  rw [← List.getElem?_drop,h,List.getElem?_append_left (by rw [e.len]; exact hf)]
structure SlR (G:GS) (v:Value) (L:List α):Prop where
  is:SlIs G e.sz v L.length (e.flat L)
  fit:Fit G e.sz v
def OwR (B:Nat) (G:GS) (v:Value) (L:List α):Prop:=OwnL B G e.sz v L.length (e.flat L)
end
section
variable {α:Type} {e:RowE α} {B:Nat} {G G' :GS} {v:Value} {L:List α}
theorem SlR.ext (h:SlR e G v L) (x:Ext G G'):SlR e G' v L:=⟨h.is.ext x,fun a n c he ob ho=>h.fit a n c he ob (by rw [← x.obj _ (h.is.lt _ _ _ he)]; exact ho)⟩
theorem SlR.len (h:SlR e G v L):∃ a c,v= .slice a L.length c:=h.is.len
theorem SlR.lt (h:SlR e G v L):SlLt G.nx v:=h.is.lt
theorem SlR.nil:SlR e G (.slice none 0 0) ([]:List α):=⟨⟨by simp,.inl ⟨rfl,rfl⟩⟩,fun a n c he=>(by cases he)⟩
theorem SlR.same (h:SlR e G v L) (hn:G.nx≤G'.nx) (hk:∀ a n c,v= .slice (some a) n c→G'.obj a.block=G.obj a.block):SlR e G' v L:=by
  refine ⟨⟨h.is.1,h.is.2.imp id ?_⟩,fun a n c he ob ho=>h.fit a n c he ob (by rw [← hk _ _ _ he]; exact ho)⟩
  rintro ⟨b,o,c,ob,h1,h2,h3,h4,h5,h6⟩
  exact ⟨b,o,c,ob,h1,h2,Nat.lt_of_lt_of_le h3 hn,(hk _ _ _ h1).trans h4,h5,h6⟩
theorem SlR.at (h:SlR e G v L) {i:Nat} (hi:i<L.length):∃ b o c,v= .slice (some ⟨b,o,none⟩) L.length c∧b<G.nx∧(∀ f,f<e.sz→G.cell b (o+i*e.sz+f)=(e.row L[i])[f]?)∧loadA e.sz b (o+i*e.sz) G=some (.agg ⟨e.row L[i]⟩):=by
  obtain ⟨b,o,c,h1,h2,h3⟩:=h.is.at_ hi
  have q:∀ f,f<e.sz→G.cell b (o+i*e.sz+f)=(e.row L[i])[f]? :=fun f hf=>by rw [h3 f hf,e.flat_at L hi hf]
  refine ⟨b,o,c,h1,h2,q,?_⟩
  obtain ⟨s,hs⟩:∃ s,e.sz=s+1:=⟨e.sz - 1,by have:=e.pos; omega⟩
  cases ho:G.obj b with
  | none =>
    have:=q 0 e.pos
    rw [List.getElem?_eq_getElem (by rw [e.len]; exact e.pos)] at this
    simp [GS.cell,ho] at this
  | some ob =>
    obtain ⟨cs,ez,op,m⟩:=ob
    have hm:m≠2:=by
      rintro rfl
      have:=q 0 e.pos
      rw [List.getElem?_eq_getElem (by rw [e.len]; exact e.pos)] at this
      simp [GS.cell,ho] at this
    have hc:∀ f,f<e.sz→cs[o+i*e.sz+f]? =(e.row L[i])[f]? :=fun f hf=>by rw [← q f hf]; exact (cell_of ho hm _).symm
    have hl:o+i*e.sz+e.sz≤cs.length:=by
      have:=hc s (by omega)
      rw [List.getElem?_eq_getElem (l:=e.row L[i]) (by rw [e.len]; omega)] at this
      have:=(List.getElem?_eq_some_iff.1 this).1
      omega
    have hz:=loadA_cells (o:=o+i*e.sz) (n:=s) ho hm (by omega)
    rw [← hs] at hz
    rw [hz]
    congr 3
    apply List.ext_getElem?
    intro f
    rw [List.getElem?_take,List.getElem?_drop]
    split
    · rename_i hf; exact hc f hf
    · rename_i hf; rw [List.getElem?_eq_none (by rw [e.len]; omega)]
theorem OwR.is (h:OwR e B G v L):SlR e G v L:=⟨h.reads,fun a n c he ob ho hop=>by
  rcases h.2 with ⟨rfl,_⟩ | ⟨b,op,rfl,h2,h3,h4⟩
  · cases he
  · cases he; rw [h4] at ho; cases ho; rfl⟩
theorem OwR.nil (B:Nat) (G:GS):OwR e B G (.slice none 0 0) []:=⟨by simp,.inl ⟨rfl,rfl⟩⟩
theorem OwR.ext (h:OwR e B G v L) (x:Ext G G'):OwR e B G' v L:=OwnL.ext h x
theorem OwR.mono {B' :Nat} (h:OwR e B G v L) (hb:B' ≤B):OwR e B' G v L:=OwnL.mono h hb
theorem OwR.ge (h:OwR e B G v L):∀ a n c,v= .slice (some a) n c→B≤a.block:=fun a n c he=>by
  rcases h.2 with ⟨rfl,_⟩ | ⟨b,op,rfl,h2,h3,h4⟩
  · cases he
  · cases he; exact h2
theorem OwR.same (h:OwR e B G v L) (hn:G.nx≤G'.nx) (hk:∀ a n c,v= .slice (some a) n c→G'.obj a.block=G.obj a.block):OwR e B G' v L :=
  ⟨h.1,h.2.imp id fun ⟨b,op,h1,h2,h3,h4⟩=>⟨b,op,h1,h2,Nat.lt_of_lt_of_le h3 hn,(hk _ _ _ h1).trans h4⟩⟩
theorem OwR.made (e:RowE α) (G:GS):OwR e G.nx (G.push ⟨[],e.sz,false,1⟩) (.slice (some ⟨G.nx,0,none⟩) 0 0) []:=⟨by simp,.inr ⟨G.nx,false,rfl,Nat.le_refl _,by simp,by simp⟩⟩
theorem SlR.one (e:RowE α) (G:GS) (a:α):SlR e (G.push ⟨e.row a,e.sz,false,1⟩) (.slice (some ⟨G.nx,0,none⟩) 1 1) [a] :=
  ⟨⟨by simp [e.flat_length],.inr ⟨G.nx,0,1,_,rfl,Nat.le_refl _,by simp,by simp; rfl,by simp,fun i _=>by simp [e.flat_one]⟩⟩,fun a' n c he ob ho hop=>by cases he; simp at ho; subst ho; cases hop⟩
theorem OwR.app {A:GS} {x:Value} {M:List α} {ib:Nat} (h:OwR e A.nx G v L) (hb:ib≠0) (hA:Ext A G) (hx:SlR e G x M) (hsz:(2*(L.length+M.length)+1000)*ib≤2 ^ 48) :
    ∃ v' G',appK e.sz ib v x G=some (v',G')∧Ext A G' ∧OwR e A.nx G' v' (L++M):=by
  obtain ⟨v',G',h1,h2,h3⟩:=app_ok (by have:=e.pos; omega) hb hA h hx.is (e.flat_ones M) hsz
  exact ⟨v',G',h1,h2,by unfold OwR; rw [List.length_append,e.flat_append]; exact h3⟩
theorem OwR.app_new {A:GS} {x:Value} {M:List α} {ib:Nat} (h:OwR e A.nx G v L) (hb:ib≠0) (hA:Ext A G) (hx:SlR e G x M) (hM:0<M.length) (hsz:(2*(L.length+M.length)+1000)*ib≤2 ^ 48) :
    ∃ v' G',appK e.sz ib v x G=some (v',G')∧Ext A G' ∧OwR e G.nx G' v' (L++M)∧G.nx≤G'.nx∧∀ g,g<G.nx→(∀ a n' c',v= .slice (some a) n' c' →a.block≠g)→G'.obj g=G.obj g:=by
  have hel:=elems_of hx.is
  obtain ⟨a,c,rfl⟩:=hx.len
  have hi:e.sz≠0:=by have:=e.pos; omega
  unfold appK
  rw [if_neg (by omega)]
  simp only [hel,e.flat_ones,Bool.not_true,Bool.false_eq_true,if_false]
  have hm:¬ M.length=0:=by omega
  have hlen:(e.flat (L++M)).length=(L++M).length*e.sz:=e.flat_length _
  rcases h.2 with ⟨rfl,h0⟩ | ⟨b,op,rfl,h2,h3,h4⟩
  · have hc:L=[]:=List.eq_nil_of_length_eq_zero h0
    subst hc
    refine ⟨_,_,by simp only [hm,if_false]; rw [if_pos (by simpa using hsz)],hA.push _,⟨hlen,.inr ⟨G.nx,true,by simp,Nat.le_refl _,by simp,by simp⟩⟩,by simp,fun g hg _=>by rw [obj_push,if_neg (by omega)]⟩
  · have hr:rdN G b 0 (L.length*e.sz)=some (e.flat L):=by
      have:=elems_of h.reads
      exact this
    simp only [hm,if_false,h4]
    rw [if_neg (by omega)]
    simp only [Nat.zero_add,hr,if_pos hsz]
    have hcl:L.length*e.sz=(e.flat L).length:=(e.flat_length L).symm
    cases op with
    | true =>
      simp only [hcl,decide_true,Bool.and_self,if_true]
      exact ⟨_,_,rfl,(hA.put h2 _).push _,⟨hlen,.inr ⟨G.nx,true,by simp,by simp,by simp,by simp [e.flat_append]⟩⟩,by simp,fun g hg hn=>by rw [obj_push,if_neg (by simp; omega),obj_put,if_neg (fun e=>hn _ _ _ rfl e.symm)]⟩
    | false =>
      simp only [Bool.false_and,Bool.false_eq_true,if_false]
      exact ⟨_,_,rfl,hA.push _,⟨hlen,.inr ⟨G.nx,true,by simp,Nat.le_refl _,by simp,by simp [e.flat_append]⟩⟩,by simp,fun g hg _=>by rw [obj_push,if_neg (by omega)]⟩
theorem SlR.drop (h:SlR e G v L) {k:IntKind} {o:Nat} (ho:o≤L.length):∃ v',slK e.sz v (some (.int k o)) none none G=some v' ∧SlR e G v' (L.drop o):=by
  have hl:(e.flat (L.drop o)).length=(L.drop o).length*e.sz:=e.flat_length _
  rcases h.is.2 with ⟨rfl,h0⟩ | ⟨b,f,c,ob,rfl,h2,h3,h4,h5,h6⟩
  · have hL:L=[]:=List.eq_nil_of_length_eq_zero h0
    subst hL
    have:o=0:=by simpa using ho
    subst this
    exact ⟨.slice none 0 0,by simp [slK,bound],SlR.nil⟩
  · have h1:(0:Int)≤o∧(o:Int)≤L.length:=by omega
    have hfit:=h.fit _ _ _ rfl ob h4
    refine ⟨.slice (some ⟨b,f+o*e.sz,none⟩) (L.length - o) (c - o),?_,⟨⟨hl,.inr ⟨b,f+o*e.sz,c - o,ob,by simp,by simp; omega,h3,h4,h5,fun i hi=> ?_⟩⟩,fun a n c' he ob' ho' hop=>by cases he; exact h.fit _ _ _ rfl ob' ho' hop⟩⟩
    · simp only [slK,h4]
      cases hop:ob.opn
      · simp [bound,h1]; omega
      · simp [bound,h1,hfit hop]; omega
    · rw [← e.flat_drop,List.getElem?_drop,Nat.add_assoc]
      refine h6 _ ?_
      simp only [List.length_drop,Nat.sub_mul] at hi
      omega
theorem SlR.take (h:SlR e G v L) {k:IntKind} {o:Nat} (ho:o≤L.length):(∃ v',slK e.sz v none (some (.int k o)) none G=some v' ∧SlR e G v' (L.take o))∧∃ v',slK e.sz v none (some (.int k o)) (some (.int k o)) G=some v' ∧SlR e G v' (L.take o):=by
  have hl:(e.flat (L.take o)).length=(L.take o).length*e.sz:=e.flat_length _
  have hll:(L.take o).length=o:=by simp; omega
  rcases h.is.2 with ⟨rfl,h0⟩ | ⟨b,f,c,ob,rfl,h2,h3,h4,h5,h6⟩
  · have hL:L=[]:=List.eq_nil_of_length_eq_zero h0
    subst hL
    have:o=0:=by simpa using ho
    subst this
    exact ⟨⟨.slice none 0 0,by simp [slK,bound],by simpa using SlR.nil⟩,⟨.slice none 0 0,by simp [slK,bound],by simpa using SlR.nil⟩⟩
  · have h1:(0:Int)≤o∧(o:Int)≤L.length:=by omega
    have h1' :(o:Int)≤c:=by omega
    have hfit:=h.fit _ _ _ rfl ob h4
    have hc:∀ i,i<(L.take o).length*e.sz→ob.cells[f+i]? =(e.flat (L.take o))[i]? :=fun i hi=>by
      rw [hll] at hi
      have hle:o*e.sz≤L.length*e.sz:=Nat.mul_le_mul_right _ ho
      rw [← e.flat_take,List.getElem?_take,if_pos hi,h6 i (by omega)]
    constructor
    · refine ⟨.slice (some ⟨b,f,none⟩) o c,?_,⟨⟨hl,.inr ⟨b,f,c,ob,by rw [hll],by omega,h3,h4,h5,hc⟩⟩,fun a n c' he ob' ho' hop=>by cases he; exact h.fit _ _ _ rfl ob' ho' hop⟩⟩
      simp only [slK,h4]
      cases hop:ob.opn
      · simp [bound,h1,h1']; omega
      · simp [bound,h1,h1',hfit hop]; omega
    · refine ⟨.slice (some ⟨b,f,none⟩) o o,?_,⟨⟨hl,.inr ⟨b,f,o,ob,by rw [hll],by omega,h3,h4,h5,hc⟩⟩,fun a n c' he ob' ho' hop=>by cases he; exact h.fit _ _ _ rfl ob' ho' hop⟩⟩
      simp only [slK,h4]
      cases hop:ob.opn
      · simp [bound,h1,h1']
      · simp [bound,h1,h1',hfit hop]
end
def rowsI (k:IntKind):RowE Int:=⟨1,fun x=>[.int k x],fun _=>rfl,fun _=>rfl,by decide⟩
end Go.Proofs.YtlaojmcekeohnaaGreatDoor.Gh
