import Derived.Test.YtkhlabammcghbaaGreatGhV
namespace Go.Proofs.YtkhlabammcghbaaGreat.Gh
open Go
variable {P:Program} {M:Map} {B:Nat} {E:Ev}
theorem Oa (op:Op):cls op≤3:=by
  unfold cls; split<;>(try split)<;>omega
noncomputable def pk (P:Program) (E:Ev) (ops:Array Oper) (base i:Nat) (o:Oper) (T:List Value) (G:GS):Option (Value×GS) :=
  if dx ops T o then
    if !(dL o.op) then none else
    match cls o.op with
    | 0=>match nO P T o.op with | some v=>some (v,G) | none=>none
    | 1=>match fD P T o.op G with | some v=>some (v,G) | none=>none
    | 2=>match lQ P T o.op { G with nx:=base+i } with | some (v,G')=>some (v,{ G' with nx:=G.nx }) | none=>none
    | _=>match rI P T o.op G with | some r=>some r | none=>rJ P E T o.op G
  else some (undef,G)
noncomputable def di (P:Program) (E:Ev) (ops:Array Oper) (base:Nat) (T:List Value) (G:GS):Nat→List Value×GS
  | 0=>(T,G)
  | i+1=>match ops[i]? with
    | some o=>match pk P E ops base i o (di P E ops base T G i).1 (di P E ops base T G i).2 with
      | some (v,G')=>(aW (di P E ops base T G i).1 o.dst v,G')
      | none=>di P E ops base T G i
    | none=>di P E ops base T G i
noncomputable def ve (P:Program) (E:Ev) (ops:Array Oper) (base:Nat) (T:List Value) (G:GS) (i:Nat):Value :=
  match ops[i]? with
  | some o=>match pk P E ops base i o (di P E ops base T G i).1 (di P E ops base T G i).2 with
    | some (v,_)=>v
    | none=>undef
  | none=>undef
structure Trace (P:Program) (E:Ev) (ops:Array Oper) (ms:List Nat) (base:Nat) (T:Nat→List Value) (G:Nat→GS) (v:Nat→Value):Prop where
  step:∀ i o,ops[i]? =some o→pk P E ops base i o (T i) (G i)=some (v i,G (i+1))∧T (i+1)=aW (T i) o.dst (v i)
  before:∀ i j oi oj,ops[i]? =some oi→ops[j]? =some oj→j<i→dx ops (T i) oi=true→dx ops (T j) oj=true→cls oi.op=1→cls oj.op=3 →
    (nth 0 ms i).testBit j=true∨fD P (T i) oi.op (G j)=some (v i)
  after:∀ i j oi oj,ops[i]? =some oi→ops[j]? =some oj→i<j→dx ops (T i) oi=true→dx ops (T j) oj=true→cls oi.op=1→cls oj.op=3 →
    (nth 0 ms j).testBit i=true∨fD P (T i) oi.op (G (j+1))=some (v i)
theorem Bk {n:Nat} (hn:∀ v u:Value,dh n v u=true→v=u):∀ (l l':List Value),dh.mU n l l' =true→l=l'
  | [],[],_=>rfl
  | x::xs,y::ys,h=>by
    simp only [dh.mU,Bool.and_eq_true] at h
    rw [hn _ _ h.1,Bk hn _ _ h.2]
  | [],_::_,h=>by simp [dh.mU] at h
  | _::_,[],h=>by simp [dh.mU] at h
theorem Ob:∀ (n:Nat) (v u:Value),dh n v u=true→v=u
  | 0,_,_,h=>by simp [dh] at h
  | n+1,v,u,h=>by
    have ih:=Ob n
    unfold dh at h
    split at h<;>(try simp only [beq_iff_eq,Bool.and_eq_true,Bool.false_eq_true] at h)
    · rw [h]
    · rw [h.1,h.2]
    · rw [h]
    · rw [h.1.1,h.1.2,h.2]
    · rw [h]
    · rfl
    · rfl
    · rw [h.1.1,Array.toList_inj.1 (Bk ih _ _ h.1.2),Array.toList_inj.1 (Bk ih _ _ h.2)]
    · rw [h.1,ih _ _ h.2]
    · rw [Array.toList_inj.1 (Bk ih _ _ h)]
    · rw [Array.toList_inj.1 (Bk ih _ _ h)]
theorem Oc {x:Option Value} {v:Value} (h:bp x v=true):x=some v:=by
  cases x with
  | none=>simp [bp] at h
  | some u=>rw [Ob 4 _ _ h]
section
variable {ops:Array Oper} {ms:List Nat} {base:Nat} {T₀:List Value} {G₀:GS}
theorem drop_cons {o:Oper} {r:List Oper} {i:Nat} (h:ops.toList.drop i=o::r):ops[i]? =some o∧ops.toList.drop (i+1)=r:=by
  constructor
  · have:(ops.toList.drop i)[0]? =some o:=by rw [h]; rfl
    simpa using this
  · rw [← List.drop_drop,h]; rfl
structure WN (P:Program) (E:Ev) (ops:Array Oper) (base:Nat) (T₀:List Value) (G₀:GS) (i:Nat) (aO:List (Nat×GS)) (aC:List fe):Prop where
  aO:∀ j oj,j<i→ops[j]? =some oj→dx ops (di P E ops base T₀ G₀ j).1 oj=true→cls oj.op=3→(j,(di P E ops base T₀ G₀ j).2)∈aO
  aC:∀ j oj,j<i→ops[j]? =some oj→dx ops (di P E ops base T₀ G₀ j).1 oj=true→cls oj.op=1→(⟨j,(di P E ops base T₀ G₀ j).1,oj.op,ve P E ops base T₀ G₀ j⟩:fe)∈aC
structure Od (P:Program) (E:Ev) (ops:Array Oper) (ms:List Nat) (base:Nat) (T₀:List Value) (G₀:GS) (i:Nat) (o:Oper):Prop where
  step:pk P E ops base i o (di P E ops base T₀ G₀ i).1 (di P E ops base T₀ G₀ i).2=some (ve P E ops base T₀ G₀ i,(di P E ops base T₀ G₀ (i+1)).2)
  put:(di P E ops base T₀ G₀ (i+1)).1=aW (di P E ops base T₀ G₀ i).1 o.dst (ve P E ops base T₀ G₀ i)
  before:∀ j oj,j<i→ops[j]? =some oj→dx ops (di P E ops base T₀ G₀ i).1 o=true→dx ops (di P E ops base T₀ G₀ j).1 oj=true→cls o.op=1→cls oj.op=3 →
    (nth 0 ms i).testBit j=true∨fD P (di P E ops base T₀ G₀ i).1 o.op (di P E ops base T₀ G₀ j).2=some (ve P E ops base T₀ G₀ i)
  after:∀ j oj,j<i→ops[j]? =some oj→dx ops (di P E ops base T₀ G₀ i).1 o=true→dx ops (di P E ops base T₀ G₀ j).1 oj=true→cls o.op=3→cls oj.op=1 →
    (nth 0 ms i).testBit j=true∨fD P (di P E ops base T₀ G₀ j).1 oj.op (di P E ops base T₀ G₀ (i+1)).2=some (ve P E ops base T₀ G₀ j)
theorem Oe {R:List Value×GS}:∀ (l:List Oper) (i:Nat) (aO:List (Nat×GS)) (aC:List fe),ops.toList.drop i=l→i≤ops.size→WN P E ops base T₀ G₀ i aO aC →
    mV P E ops ms base i l (di P E ops base T₀ G₀ i).1 (di P E ops base T₀ G₀ i).2 aO aC=some R →
    (∀ j o,i≤j→ops[j]? =some o→Od P E ops ms base T₀ G₀ j o)∧di P E ops base T₀ G₀ ops.size=R
  | [],i,aO,aC,hl,hi,_,h=>by
    have cm:ops.size≤i:=by
      have:=congrArg List.length hl
      simp only [List.length_drop,Array.length_toList,List.length_nil] at this; omega
    have:i=ops.size:=by omega
    subst this
    simp only [mV,Option.some.injEq] at h
    refine ⟨fun j o hj ho=>?_,by rw [← h]⟩
    have:=(Array.getElem?_eq_some_iff.1 ho).1
    omega
  | o::r,i,aO,aC,hl,hi,hK,h=>by
    obtain ⟨ho,hr⟩:=drop_cons hl
    have aT:i<ops.size:=(Array.getElem?_eq_some_iff.1 ho).1
    have key:∀ (v:Value) (G':GS) (pn:List (Nat×GS)) (nj:List fe),pk P E ops base i o (di P E ops base T₀ G₀ i).1 (di P E ops base T₀ G₀ i).2=some (v,G') →
        mV P E ops ms base (i+1) r (aW (di P E ops base T₀ G₀ i).1 o.dst v) G' pn nj =some R →
        (∀ x∈aO,x∈pn)→(∀ x∈aC,x∈nj) →
        (dx ops (di P E ops base T₀ G₀ i).1 o=true→cls o.op=3→(i,(di P E ops base T₀ G₀ i).2)∈pn) →
        (dx ops (di P E ops base T₀ G₀ i).1 o=true→cls o.op=1→(⟨i,(di P E ops base T₀ G₀ i).1,o.op,v⟩:fe)∈nj) →
        (dx ops (di P E ops base T₀ G₀ i).1 o=true→cls o.op=1→∀ x∈aO,(nth 0 ms i).testBit x.1=true∨fD P (di P E ops base T₀ G₀ i).1 o.op x.2=some v) →
        (dx ops (di P E ops base T₀ G₀ i).1 o=true→cls o.op=3→∀ x∈aC,(nth 0 ms i).testBit x.i=true∨fD P x.T x.op G' =some x.v) →
        (∀ j o,i≤j→ops[j]? =some o→Od P E ops ms base T₀ G₀ j o)∧di P E ops base T₀ G₀ ops.size=R:=by
      intro v G' pn nj au GZ hh hp h3 h1 c1 c3
      have hv:ve P E ops base T₀ G₀ i=v:=by simp [ve,ho,au]
      have hS:di P E ops base T₀ G₀ (i+1)=(aW (di P E ops base T₀ G₀ i).1 o.dst v,G'):=by simp [di,ho,au]
      have ih:=Oe (R:=R) r (i+1) pn nj hr aT ⟨fun j oj hj dr hw hc=>by
          rcases Nat.lt_or_ge j i with kX | kX
          · exact hh _ (hK.aO j oj kX dr hw hc)
          · obtain rfl:j=i:=by omega
            obtain rfl:oj=o:=by rw [ho] at dr; exact (Option.some.inj dr).symm
            exact h3 hw hc,fun j oj hj dr hw hc=>by
          rcases Nat.lt_or_ge j i with kX | kX
          · exact hp _ (hK.aC j oj kX dr hw hc)
          · obtain rfl:j=i:=by omega
            obtain rfl:oj=o:=by rw [ho] at dr; exact (Option.some.inj dr).symm
            rw [hv]; exact h1 hw hc⟩ (by rw [hS]; exact GZ)
      refine ⟨fun j oj hj dr=>?_,ih.2⟩
      rcases Nat.lt_or_ge i j with gD | gD
      · exact ih.1 j oj gD dr
      · obtain rfl:j=i:=by omega
        obtain rfl:oj=o:=by rw [ho] at dr; exact (Option.some.inj dr).symm
        exact ⟨by rw [hv,hS]; exact au,by rw [hv,hS],fun k ok hk aV hw wF hc np=>by
            rw [hv]; exact c1 hw hc _ (hK.aO k ok hk aV wF np),fun k ok hk aV hw wF hc np=>by
            rw [hS]; exact c3 hw hc _ (hK.aC k ok hk aV wF np)⟩
    simp only [mV] at h
    by_cases hw:dx ops (di P E ops base T₀ G₀ i).1 o=true
    · rw [if_pos hw] at h
      split at h
      · simp at h
      rename_i aV
      have hle:=Oa o.op
      split at h
      · rename_i hc
        split at h
        · rename_i v hv
          exact key v _ aO aC (by unfold pk; rw [if_pos hw,if_neg aV,hc]; simp only [hv]) h (fun _ h=>h) (fun _ h=>h) (fun _ h=>by omega) (fun _ h=>by omega) (fun _ h=>by omega) (fun _ h=>by omega)
        · simp at h
      · rename_i hc
        split at h
        · rename_i v hv
          split at h
          · rename_i qw
            refine key v _ aO _ (by unfold pk; rw [if_pos hw,if_neg aV,hc]; simp only [hv]) h (fun _ h=>h) (fun _ h=>List.mem_cons_of_mem _ h) (fun _ h=>by omega) (fun _ _=>List.mem_cons_self) (fun _ _ x hx=>?_) (fun _ h=>by omega)
            have:=List.all_eq_true.1 qw x hx
            simp only [Bool.or_eq_true] at this
            exact this.imp id Oc
          · simp at h
        · simp at h
      · rename_i hc
        split at h
        · rename_i v G' hv
          exact key v _ aO aC (by unfold pk; rw [if_pos hw,if_neg aV,hc]; simp only [hv]) h (fun _ h=>h) (fun _ h=>h) (fun _ h=>by omega) (fun _ h=>by omega) (fun _ h=>by omega) (fun _ h=>by omega)
        · simp at h
      · rename_i lW tt u5
        have hc:cls o.op=3:=by
          have h0:¬ cls o.op=0:=lW
          have h1:¬ cls o.op=1:=tt
          have h2:¬ cls o.op=2:=u5
          omega
        split at h
        · rename_i v G' hv
          split at h
          · rename_i qw
            refine key v _ _ aC (by unfold pk; rw [if_pos hw,if_neg aV,hc]; exact hv) h (fun _ h=>List.mem_cons_of_mem _ h) (fun _ h=>h) (fun _ _=>List.mem_cons_self) (fun _ h=>by omega) (fun _ h=>by omega) (fun _ _ x hx=>?_)
            have:=List.all_eq_true.1 qw x hx
            simp only [Bool.or_eq_true] at this
            exact this.imp id Oc
          · simp at h
        · simp at h
    · rw [if_neg hw] at h
      exact key undef _ aO aC (by unfold pk; rw [if_neg hw]) h (fun _ h=>h) (fun _ h=>h) (fun h=>absurd h hw) (fun h=>absurd h hw) (fun h=>absurd h hw) (fun h=>absurd h hw)
theorem WO {T':List Value} {G':GS} (h:mV P E ops ms base 0 ops.toList T₀ G₀ [] []=some (T',G')) :
    ∃ T G v,Trace P E ops ms base T G v∧T 0=T₀∧G 0=G₀∧T ops.size=T' ∧G ops.size=G':=by
  obtain ⟨h1,h2⟩:=Oe (P:=P) (E:=E) (ms:=ms) (base:=base) (T₀:=T₀) (G₀:=G₀) ops.toList 0 [] [] rfl (Nat.zero_le _) ⟨fun j _ hj=>by omega,fun j _ hj=>by omega⟩ h
  refine ⟨fun i=>(di P E ops base T₀ G₀ i).1,fun i=>(di P E ops base T₀ G₀ i).2,ve P E ops base T₀ G₀,⟨fun i o ho=>?_,fun i j oi oj hi hj aT hw kW hc uT=>?_,fun i j oi oj hi hj aT hw kW hc uT=>?_⟩,rfl,rfl,by simp [h2],by simp [h2]⟩
  · exact ⟨(h1 i o (Nat.zero_le _) ho).step,(h1 i o (Nat.zero_le _) ho).put⟩
  · exact (h1 i oi (Nat.zero_le _) hi).before j oj aT hj hw kW hc uT
  · exact (h1 j oj (Nat.zero_le _) hj).after i oi aT hi kW hw uT hc
end
structure vf (ops:Array Oper) (ms:List Nat):Prop where
  back:∀ i o e,ops[i]? =some o→e∈o.after→Region.binds .any e=true→e.on<i
  mask:∀ i o j,ops[i]? =some o→(nth 0 ms i).testBit j=true→∃ e∈o.after,Region.binds .any e=true∧(j=e.on∨(nth 0 ms e.on).testBit j=true)
  pair:∀ i j oi oj,ops[i]? =some oi→ops[j]? =some oj→i<j→(nth 0 ms j).testBit i=true∨(oi.apart ops oj=true∧¬ (cls oi.op=3∧cls oj.op=3))
theorem HU {acc:List Nat} {j:Nat}:∀ {l:List Edge},(qt acc l).testBit j=true→∃ e∈l,Region.binds .any e=true∧(j=e.on∨(nth 0 acc e.on).testBit j=true)
  | [],h=>by simp [qt] at h
  | e::r,h=>by
    simp only [qt] at h
    split at h
    · rename_i hb
      simp only [Nat.testBit_or,Bool.or_eq_true,Nat.testBit_two_pow,decide_eq_true_eq] at h
      rcases h with (h | h) | h
      · exact ⟨e,by simp,hb,.inl h.symm⟩
      · exact ⟨e,by simp,hb,.inr h⟩
      · obtain ⟨e',h1,h2,h3⟩:=HU h
        exact ⟨e',by simp [h1],h2,h3⟩
    · obtain ⟨e',h1,h2,h3⟩:=HU h
      exact ⟨e',by simp [h1],h2,h3⟩
theorem WQ {acc l:List Nat} {i:Nat} (h:i<acc.length):nth 0 (acc++l) i=nth 0 acc i:=by
  rw [ju,ju]; simp [List.getD,List.getElem?_append_left h]
theorem WR {acc l:List Nat} {x:Nat}:nth 0 (acc++x::l) acc.length=x:=by
  rw [ju]; simp [List.getD]
theorem Og:∀ (l:List Oper) (acc:List Nat),∃ t,masks l acc=acc++t
  | [],acc=>⟨[],by simp [masks]⟩
  | o::r,acc=>by
    obtain ⟨t,ht⟩:=Og r (acc++[qt acc o.after.toList])
    exact ⟨qt acc o.after.toList::t,by simp [masks,ht]⟩
theorem Oh:∀ (l:List Oper) (acc:List Nat) (k:Nat) (o:Oper),l[k]? =some o→(∀ e∈o.after,Region.binds .any e=true→e.on<acc.length+k) →
    ∀ j,(nth 0 (masks l acc) (acc.length+k)).testBit j=true→∃ e∈o.after,Region.binds .any e=true∧(j=e.on∨(nth 0 (masks l acc) e.on).testBit j=true)
  | [],_,_,_,h,_,_,_=>by simp at h
  | o' ::r,acc,0,o,h,hb,j,hj=>by
    simp at h; subst h
    obtain ⟨t,ht⟩:=Og r (acc++[qt acc o'.after.toList])
    simp only [masks] at hj ⊢
    rw [ht] at hj ⊢
    simp only [Nat.add_zero,List.append_assoc,List.singleton_append,WR] at hj
    obtain ⟨e,h1,h2,h3⟩:=HU hj
    have h1:e∈o'.after:=by simpa using h1
    refine ⟨e,h1,h2,h3.imp id fun h=>?_⟩
    have:=hb e h1 h2
    rw [List.append_assoc,WQ (by omega)]; exact h
  | o' ::r,acc,k+1,o,h,hb,j,hj=>by
    simp only [masks] at hj ⊢
    have:=Oh r (acc++[qt acc o'.after.toList]) k o (by simpa using h) (by simpa [Nat.add_assoc,Nat.add_comm 1 k] using hb) j
    simp only [List.length_append,List.length_cons,List.length_nil,Nat.zero_add] at this
    exact this (by rw [show acc.length+1+k=acc.length+(k+1) by omega]; exact hj)
theorem Oi {ops:Array Oper} {m:Nat} {j:Oper}:∀ {l:List Oper} {i:Nat},Dn ops m j i l=true→∀ k o,l[k]? =some o→m.testBit (i+k)=true∨(o.apart ops j=true∧¬ (cls o.op=3∧cls j.op=3))
  | [],_,_,_,_,h=>by simp at h
  | o' ::r,i,h,k,o,hk=>by
    simp only [Dn,Bool.and_eq_true,Bool.or_eq_true,Bool.not_eq_true',Bool.and_eq_false_iff,beq_eq_false_iff_ne] at h
    cases k with
    | zero =>
      simp at hk; subst hk
      refine h.1.imp id fun h=>⟨h.1,fun hc=>?_⟩
      rcases h.2 with h | h
      · exact h hc.1
      · exact h hc.2
    | succ k =>
      have:=Oi h.2 k o (by simpa using hk)
      rwa [show i+1+k=i+(k+1) by omega] at this
theorem Oj {ops:Array Oper} {ms:List Nat}:∀ (l done:List Oper),Dp ops ms done l=true→∀ k o,l[k]? =some o →
    (∀ e∈o.after,Region.binds .any e=true→e.on<done.length+k)∧∀ i oi,i<done.length+k→(done++l)[i]? =some oi→(nth 0 ms (done.length+k)).testBit i=true∨(oi.apart ops o=true∧¬ (cls oi.op=3∧cls o.op=3))
  | [],_,_,_,_,h=>by simp at h
  | o' ::r,done,h,k,o,hk=>by
    simp only [Dp,Bool.and_eq_true] at h
    cases k with
    | zero =>
      simp at hk; subst hk
      refine ⟨fun e he hb=>?_,fun i oi hi yO=>?_⟩
      · have:=List.all_eq_true.1 h.1.1 e (by simpa using he)
        simpa [hb] using this
      · have:=Oi h.1.2 i oi (by rw [List.getElem?_append_left (by simpa using hi)] at yO; exact yO)
        simpa using this
    | succ k =>
      have:=Oj r (done++[o']) h.2 k o (by simpa using hk)
      simp only [List.length_append,List.length_cons,List.length_nil,Nat.zero_add,List.append_assoc,List.singleton_append] at this
      rw [show done.length+1+k=done.length+(k+1) by omega] at this
      exact this
theorem WS {ops:Array Oper} (h:uO ops=true):vf ops (masks ops.toList []):=by
  have key:=Oj _ _ h
  refine ⟨fun i o e ho he hb=>?_,fun i o j ho hj=>?_,fun i j oi oj yO dr gD=>?_⟩
  · have:=(key i o (by simpa using ho)).1 e he hb
    simpa using this
  · have:=Oh ops.toList [] i o (by simpa using ho) (key i o (by simpa using ho)).1 j (by simpa using hj)
    exact this
  · have:=(key j oj (by simpa using dr)).2 i oi (by simpa using gD) (by simpa using yO)
    simpa using this
end Go.Proofs.YtkhlabammcghbaaGreat.Gh
