import Derived.Test.YtlaojmcekeohnaaGreatDoorGhV
namespace Go.Proofs.YtlaojmcekeohnaaGreatDoor.Gh
open Go
variable {P:Program} {M:Map} {B:Nat} {E:Ev}
theorem cls_le (op:Op):cls op≤3:=by
  unfold cls; split<;>(try split)<;>omega
noncomputable def drawStep (P:Program) (E:Ev) (ops:Array Oper) (base i:Nat) (o:Oper) (T:List Value) (G:GS):Option (Value×GS) :=
  if gWanted ops T o then
    if !(opOk o.op) then none else
    match cls o.op with
    | 0=>match gPure P T o.op with | some v=>some (v,G) | none=>none
    | 1=>match gRead P T o.op G with | some v=>some (v,G) | none=>none
    | 2=>match gMake P T o.op { G with nx:=base+i } with | some (v,G')=>some (v,{ G' with nx:=G.nx }) | none=>none
    | _=>match gWrite P T o.op G with | some r=>some r | none=>gCall P E T o.op G
  else some (undef,G)
noncomputable def trSt (P:Program) (E:Ev) (ops:Array Oper) (base:Nat) (T:List Value) (G:GS):Nat→List Value×GS
  | 0=>(T,G)
  | i+1=>match ops[i]? with
    | some o=>match drawStep P E ops base i o (trSt P E ops base T G i).1 (trSt P E ops base T G i).2 with
      | some (v,G')=>(putT (trSt P E ops base T G i).1 o.dst v,G')
      | none=>trSt P E ops base T G i
    | none=>trSt P E ops base T G i
noncomputable def trV (P:Program) (E:Ev) (ops:Array Oper) (base:Nat) (T:List Value) (G:GS) (i:Nat):Value :=
  match ops[i]? with
  | some o=>match drawStep P E ops base i o (trSt P E ops base T G i).1 (trSt P E ops base T G i).2 with
    | some (v,_)=>v
    | none=>undef
  | none=>undef
structure Trace (P:Program) (E:Ev) (ops:Array Oper) (ms:List Nat) (base:Nat) (T:Nat→List Value) (G:Nat→GS) (v:Nat→Value):Prop where
  step:∀ i o,ops[i]? =some o→drawStep P E ops base i o (T i) (G i)=some (v i,G (i+1))∧T (i+1)=putT (T i) o.dst (v i)
  before:∀ i j oi oj,ops[i]? =some oi→ops[j]? =some oj→j<i→gWanted ops (T i) oi=true→gWanted ops (T j) oj=true→cls oi.op=1→cls oj.op=3 →
    (nth 0 ms i).testBit j=true∨gRead P (T i) oi.op (G j)=some (v i)
  after:∀ i j oi oj,ops[i]? =some oi→ops[j]? =some oj→i<j→gWanted ops (T i) oi=true→gWanted ops (T j) oj=true→cls oi.op=1→cls oj.op=3 →
    (nth 0 ms j).testBit i=true∨gRead P (T i) oi.op (G (j+1))=some (v i)
theorem listD_eq {n:Nat} (hn:∀ v u:Value,sameD n v u=true→v=u):∀ (l l' :List Value),sameD.listD n l l' =true→l=l'
  | [],[],_=>rfl
  | x::xs,y::ys,h=>by
    simp only [sameD.listD,Bool.and_eq_true] at h
    rw [hn _ _ h.1,listD_eq hn _ _ h.2]
  | [],_::_,h=>by simp [sameD.listD] at h
  | _::_,[],h=>by simp [sameD.listD] at h
theorem sameD_eq:∀ (n:Nat) (v u:Value),sameD n v u=true→v=u
  | 0,_,_,h=>by simp [sameD] at h
  | n+1,v,u,h=>by
    have ih:=sameD_eq n
    unfold sameD at h
    split at h<;>(try simp only [beq_iff_eq,Bool.and_eq_true,Bool.false_eq_true] at h)
    · rw [h]
    · rw [h.1,h.2]
    · rw [h]
    · rw [h.1.1,h.1.2,h.2]
    · rw [h]
    · rfl
    · rfl
    · rw [h.1.1,Array.toList_inj.1 (listD_eq ih _ _ h.1.2),Array.toList_inj.1 (listD_eq ih _ _ h.2)]
    · rw [h.1,ih _ _ h.2]
    · rw [Array.toList_inj.1 (listD_eq ih _ _ h)]
    · rw [Array.toList_inj.1 (listD_eq ih _ _ h)]
theorem sameO_eq {x:Option Value} {v:Value} (h:sameO x v=true):x=some v:=by
  cases x with
  | none=>simp [sameO] at h
  | some u=>rw [sameD_eq 4 _ _ h]
section
variable {ops:Array Oper} {ms:List Nat} {base:Nat} {T₀:List Value} {G₀:GS}
theorem drop_cons {o:Oper} {r:List Oper} {i:Nat} (h:ops.toList.drop i=o::r):ops[i]? =some o∧ops.toList.drop (i+1)=r:=by
  constructor
  · have:(ops.toList.drop i)[0]? =some o:=by rw [h]; rfl
    simpa using this
  · rw [← List.drop_drop,h]; rfl
structure Known (P:Program) (E:Ev) (ops:Array Oper) (base:Nat) (T₀:List Value) (G₀:GS) (i:Nat) (hist:List (Nat×GS)) (pend:List Pend):Prop where
  hist:∀ j oj,j<i→ops[j]? =some oj→gWanted ops (trSt P E ops base T₀ G₀ j).1 oj=true→cls oj.op=3→(j,(trSt P E ops base T₀ G₀ j).2)∈hist
  pend:∀ j oj,j<i→ops[j]? =some oj→gWanted ops (trSt P E ops base T₀ G₀ j).1 oj=true→cls oj.op=1→(⟨j,(trSt P E ops base T₀ G₀ j).1,oj.op,trV P E ops base T₀ G₀ j⟩:Pend)∈pend
structure Fine (P:Program) (E:Ev) (ops:Array Oper) (ms:List Nat) (base:Nat) (T₀:List Value) (G₀:GS) (i:Nat) (o:Oper):Prop where
  step:drawStep P E ops base i o (trSt P E ops base T₀ G₀ i).1 (trSt P E ops base T₀ G₀ i).2=some (trV P E ops base T₀ G₀ i,(trSt P E ops base T₀ G₀ (i+1)).2)
  put:(trSt P E ops base T₀ G₀ (i+1)).1=putT (trSt P E ops base T₀ G₀ i).1 o.dst (trV P E ops base T₀ G₀ i)
  before:∀ j oj,j<i→ops[j]? =some oj→gWanted ops (trSt P E ops base T₀ G₀ i).1 o=true→gWanted ops (trSt P E ops base T₀ G₀ j).1 oj=true→cls o.op=1→cls oj.op=3 →
    (nth 0 ms i).testBit j=true∨gRead P (trSt P E ops base T₀ G₀ i).1 o.op (trSt P E ops base T₀ G₀ j).2=some (trV P E ops base T₀ G₀ i)
  after:∀ j oj,j<i→ops[j]? =some oj→gWanted ops (trSt P E ops base T₀ G₀ i).1 o=true→gWanted ops (trSt P E ops base T₀ G₀ j).1 oj=true→cls o.op=3→cls oj.op=1 →
    (nth 0 ms i).testBit j=true∨gRead P (trSt P E ops base T₀ G₀ j).1 oj.op (trSt P E ops base T₀ G₀ (i+1)).2=some (trV P E ops base T₀ G₀ j)
theorem trace_of {R:List Value×GS}:∀ (l:List Oper) (i:Nat) (hist:List (Nat×GS)) (pend:List Pend),ops.toList.drop i=l→i≤ops.size→Known P E ops base T₀ G₀ i hist pend →
    drawOps P E ops ms base i l (trSt P E ops base T₀ G₀ i).1 (trSt P E ops base T₀ G₀ i).2 hist pend=some R →
    (∀ j o,i≤j→ops[j]? =some o→Fine P E ops ms base T₀ G₀ j o)∧trSt P E ops base T₀ G₀ ops.size=R
  | [],i,hist,pend,hl,hi,_,h=>by
    have hsz:ops.size≤i:=by
      have:=congrArg List.length hl
      simp only [List.length_drop,Array.length_toList,List.length_nil] at this; omega
    have:i=ops.size:=by omega
    subst this
    simp only [drawOps,Option.some.injEq] at h
    refine ⟨fun j o hj ho=> ?_,by rw [← h]⟩
    have:=(Array.getElem?_eq_some_iff.1 ho).1
    omega
  | o::r,i,hist,pend,hl,hi,hK,h=>by
    obtain ⟨ho,hr⟩:=drop_cons hl
    have hlt:i<ops.size:=(Array.getElem?_eq_some_iff.1 ho).1
    -- what the step must give
    have key:∀ (v:Value) (G' :GS) (hist' :List (Nat×GS)) (pend' :List Pend),drawStep P E ops base i o (trSt P E ops base T₀ G₀ i).1 (trSt P E ops base T₀ G₀ i).2=some (v,G') →
        drawOps P E ops ms base (i+1) r (putT (trSt P E ops base T₀ G₀ i).1 o.dst v) G' hist' pend' =some R →
        (∀ x∈hist,x∈hist')→(∀ x∈pend,x∈pend') →
        (gWanted ops (trSt P E ops base T₀ G₀ i).1 o=true→cls o.op=3→(i,(trSt P E ops base T₀ G₀ i).2)∈hist') →
        (gWanted ops (trSt P E ops base T₀ G₀ i).1 o=true→cls o.op=1→(⟨i,(trSt P E ops base T₀ G₀ i).1,o.op,v⟩:Pend)∈pend') →
        (gWanted ops (trSt P E ops base T₀ G₀ i).1 o=true→cls o.op=1→∀ x∈hist,(nth 0 ms i).testBit x.1=true∨gRead P (trSt P E ops base T₀ G₀ i).1 o.op x.2=some v) →
        (gWanted ops (trSt P E ops base T₀ G₀ i).1 o=true→cls o.op=3→∀ x∈pend,(nth 0 ms i).testBit x.i=true∨gRead P x.T x.op G' =some x.v) →
        (∀ j o,i≤j→ops[j]? =some o→Fine P E ops ms base T₀ G₀ j o)∧trSt P E ops base T₀ G₀ ops.size=R:=by
      intro v G' hist' pend' hst hrest hh hp h3 h1 c1 c3
      have hv:trV P E ops base T₀ G₀ i=v:=by simp [trV,ho,hst]
      have hS:trSt P E ops base T₀ G₀ (i+1)=(putT (trSt P E ops base T₀ G₀ i).1 o.dst v,G'):=by simp [trSt,ho,hst]
      have ih:=trace_of (R:=R) r (i+1) hist' pend' hr hlt ⟨fun j oj hj hoj hw hc=>by
          rcases Nat.lt_or_ge j i with hji | hji
          · exact hh _ (hK.hist j oj hji hoj hw hc)
          · obtain rfl:j=i:=by omega
            obtain rfl:oj=o:=by rw [ho] at hoj; exact (Option.some.inj hoj).symm
            exact h3 hw hc,fun j oj hj hoj hw hc=>by
          rcases Nat.lt_or_ge j i with hji | hji
          · exact hp _ (hK.pend j oj hji hoj hw hc)
          · obtain rfl:j=i:=by omega
            obtain rfl:oj=o:=by rw [ho] at hoj; exact (Option.some.inj hoj).symm
            rw [hv]; exact h1 hw hc⟩ (by rw [hS]; exact hrest)
      refine ⟨fun j oj hj hoj=> ?_,ih.2⟩
      rcases Nat.lt_or_ge i j with hij | hij
      · exact ih.1 j oj hij hoj
      · obtain rfl:j=i:=by omega
        obtain rfl:oj=o:=by rw [ho] at hoj; exact (Option.some.inj hoj).symm
        exact ⟨by rw [hv,hS]; exact hst,by rw [hv,hS],fun k ok hk hok hw hwk hc hck=>by
            rw [hv]; exact c1 hw hc _ (hK.hist k ok hk hok hwk hck),fun k ok hk hok hw hwk hc hck=>by
            rw [hS]; exact c3 hw hc _ (hK.pend k ok hk hok hwk hck)⟩
    simp only [drawOps] at h
    by_cases hw:gWanted ops (trSt P E ops base T₀ G₀ i).1 o=true
    · rw [if_pos hw] at h
      split at h
      · simp at h
      rename_i hok
      have hle:=cls_le o.op
      split at h
      · rename_i hc
        split at h
        · rename_i v hv
          exact key v _ hist pend (by unfold drawStep; rw [if_pos hw,if_neg hok,hc]; simp only [hv]) h (fun _ h=>h) (fun _ h=>h) (fun _ h=>by omega) (fun _ h=>by omega) (fun _ h=>by omega) (fun _ h=>by omega)
        · simp at h
      · rename_i hc
        split at h
        · rename_i v hv
          split at h
          · rename_i hall
            refine key v _ hist _ (by unfold drawStep; rw [if_pos hw,if_neg hok,hc]; simp only [hv]) h (fun _ h=>h) (fun _ h=>List.mem_cons_of_mem _ h) (fun _ h=>by omega) (fun _ _=>List.mem_cons_self) (fun _ _ x hx=> ?_) (fun _ h=>by omega)
            have:=List.all_eq_true.1 hall x hx
            simp only [Bool.or_eq_true] at this
            exact this.imp id sameO_eq
          · simp at h
        · simp at h
      · rename_i hc
        split at h
        · rename_i v G' hv
          exact key v _ hist pend (by unfold drawStep; rw [if_pos hw,if_neg hok,hc]; simp only [hv]) h (fun _ h=>h) (fun _ h=>h) (fun _ h=>by omega) (fun _ h=>by omega) (fun _ h=>by omega) (fun _ h=>by omega)
        · simp at h
      · rename_i hc0 hc1 hc2
        have hc:cls o.op=3:=by
          have h0:¬ cls o.op=0:=hc0
          have h1:¬ cls o.op=1:=hc1
          have h2:¬ cls o.op=2:=hc2
          omega
        split at h
        · rename_i v G' hv
          split at h
          · rename_i hall
            refine key v _ _ pend (by unfold drawStep; rw [if_pos hw,if_neg hok,hc]; exact hv) h (fun _ h=>List.mem_cons_of_mem _ h) (fun _ h=>h) (fun _ _=>List.mem_cons_self) (fun _ h=>by omega) (fun _ h=>by omega) (fun _ _ x hx=> ?_)
            have:=List.all_eq_true.1 hall x hx
            simp only [Bool.or_eq_true] at this
            exact this.imp id sameO_eq
          · simp at h
        · simp at h
    · rw [if_neg hw] at h
      exact key undef _ hist pend (by unfold drawStep; rw [if_neg hw]) h (fun _ h=>h) (fun _ h=>h) (fun h=>absurd h hw) (fun h=>absurd h hw) (fun h=>absurd h hw) (fun h=>absurd h hw)
theorem trace_all {T' :List Value} {G' :GS} (h:drawOps P E ops ms base 0 ops.toList T₀ G₀ [] []=some (T',G')) :
    ∃ T G v,Trace P E ops ms base T G v∧T 0=T₀∧G 0=G₀∧T ops.size=T' ∧G ops.size=G' :=by
  obtain ⟨h1,h2⟩:=trace_of (P:=P) (E:=E) (ms:=ms) (base:=base) (T₀:=T₀) (G₀:=G₀) ops.toList 0 [] [] rfl (Nat.zero_le _) ⟨fun j _ hj=>by omega,fun j _ hj=>by omega⟩ h
  refine ⟨fun i=>(trSt P E ops base T₀ G₀ i).1,fun i=>(trSt P E ops base T₀ G₀ i).2,trV P E ops base T₀ G₀,⟨fun i o ho=> ?_,fun i j oi oj hi hj hlt hw hw' hc hc' => ?_,fun i j oi oj hi hj hlt hw hw' hc hc' => ?_⟩,rfl,rfl,by simp [h2],by simp [h2]⟩
  · exact ⟨(h1 i o (Nat.zero_le _) ho).step,(h1 i o (Nat.zero_le _) ho).put⟩
  · exact (h1 i oi (Nat.zero_le _) hi).before j oj hlt hj hw hw' hc hc'
  · exact (h1 j oj (Nat.zero_le _) hj).after i oi hlt hi hw' hw hc' hc
end
structure Edges (ops:Array Oper) (ms:List Nat):Prop where
  back:∀ i o e,ops[i]? =some o→e∈o.after→Region.binds .any e=true→e.on<i
  mask:∀ i o j,ops[i]? =some o→(nth 0 ms i).testBit j=true→∃ e∈o.after,Region.binds .any e=true∧(j=e.on∨(nth 0 ms e.on).testBit j=true)
  pair:∀ i j oi oj,ops[i]? =some oi→ops[j]? =some oj→i<j→(nth 0 ms j).testBit i=true∨(oi.apart ops oj=true∧¬ (cls oi.op=3∧cls oj.op=3))
theorem preMask_bit {acc:List Nat} {j:Nat}:∀ {l:List Edge},(preMask acc l).testBit j=true→∃ e∈l,Region.binds .any e=true∧(j=e.on∨(nth 0 acc e.on).testBit j=true)
  | [],h=>by simp [preMask] at h
  | e::r,h=>by
    simp only [preMask] at h
    split at h
    · rename_i hb
      simp only [Nat.testBit_or,Bool.or_eq_true,Nat.testBit_two_pow,decide_eq_true_eq] at h
      rcases h with (h | h) | h
      · exact ⟨e,by simp,hb,.inl h.symm⟩
      · exact ⟨e,by simp,hb,.inr h⟩
      · obtain ⟨e',h1,h2,h3⟩:=preMask_bit h
        exact ⟨e',by simp [h1],h2,h3⟩
    · obtain ⟨e',h1,h2,h3⟩:=preMask_bit h
      exact ⟨e',by simp [h1],h2,h3⟩
theorem nth_append_lt {acc l:List Nat} {i:Nat} (h:i<acc.length):nth 0 (acc++l) i=nth 0 acc i:=by
  rw [nth_eq,nth_eq]; simp [List.getD,List.getElem?_append_left h]
theorem nth_append_at {acc l:List Nat} {x:Nat}:nth 0 (acc++x::l) acc.length=x:=by
  rw [nth_eq]; simp [List.getD]
theorem masks_pre:∀ (l:List Oper) (acc:List Nat),∃ t,masks l acc=acc++t
  | [],acc=>⟨[],by simp [masks]⟩
  | o::r,acc=>by
    obtain ⟨t,ht⟩:=masks_pre r (acc++[preMask acc o.after.toList])
    exact ⟨preMask acc o.after.toList::t,by simp [masks,ht]⟩
theorem masks_at:∀ (l:List Oper) (acc:List Nat) (k:Nat) (o:Oper),l[k]? =some o→(∀ e∈o.after,Region.binds .any e=true→e.on<acc.length+k) →
    ∀ j,(nth 0 (masks l acc) (acc.length+k)).testBit j=true→∃ e∈o.after,Region.binds .any e=true∧(j=e.on∨(nth 0 (masks l acc) e.on).testBit j=true)
  | [],_,_,_,h,_,_,_=>by simp at h
  | o' ::r,acc,0,o,h,hb,j,hj=>by
    simp at h; subst h
    obtain ⟨t,ht⟩:=masks_pre r (acc++[preMask acc o'.after.toList])
    simp only [masks] at hj ⊢
    rw [ht] at hj ⊢
    simp only [Nat.add_zero,List.append_assoc,List.singleton_append,nth_append_at] at hj
    obtain ⟨e,h1,h2,h3⟩:=preMask_bit hj
    have h1:e∈o'.after:=by simpa using h1
    refine ⟨e,h1,h2,h3.imp id fun h=> ?_⟩
    have:=hb e h1 h2
    rw [List.append_assoc,nth_append_lt (by omega)]; exact h
  | o' ::r,acc,k+1,o,h,hb,j,hj=>by
    simp only [masks] at hj ⊢
    have:=masks_at r (acc++[preMask acc o'.after.toList]) k o (by simpa using h) (by simpa [Nat.add_assoc,Nat.add_comm 1 k] using hb) j
    simp only [List.length_append,List.length_cons,List.length_nil,Nat.zero_add] at this
    exact this (by rw [show acc.length+1+k=acc.length+(k+1) by omega]; exact hj)
theorem pairOk_spec {ops:Array Oper} {m:Nat} {j:Oper}:∀ {l:List Oper} {i:Nat},pairOk ops m j i l=true→∀ k o,l[k]? =some o→m.testBit (i+k)=true∨(o.apart ops j=true∧¬ (cls o.op=3∧cls j.op=3))
  | [],_,_,_,_,h=>by simp at h
  | o' ::r,i,h,k,o,hk=>by
    simp only [pairOk,Bool.and_eq_true,Bool.or_eq_true,Bool.not_eq_true',Bool.and_eq_false_iff,beq_eq_false_iff_ne] at h
    cases k with
    | zero =>
      simp at hk; subst hk
      refine h.1.imp id fun h=>⟨h.1,fun hc=> ?_⟩
      rcases h.2 with h | h
      · exact h hc.1
      · exact h hc.2
    | succ k =>
      have:=pairOk_spec h.2 k o (by simpa using hk)
      rwa [show i+1+k=i+(k+1) by omega] at this
theorem rowsOk_spec {ops:Array Oper} {ms:List Nat}:∀ (l done:List Oper),rowsOk ops ms done l=true→∀ k o,l[k]? =some o →
    (∀ e∈o.after,Region.binds .any e=true→e.on<done.length+k)∧∀ i oi,i<done.length+k→(done++l)[i]? =some oi→(nth 0 ms (done.length+k)).testBit i=true∨(oi.apart ops o=true∧¬ (cls oi.op=3∧cls o.op=3))
  | [],_,_,_,_,h=>by simp at h
  | o' ::r,done,h,k,o,hk=>by
    simp only [rowsOk,Bool.and_eq_true] at h
    cases k with
    | zero =>
      simp at hk; subst hk
      refine ⟨fun e he hb=> ?_,fun i oi hi hoi=> ?_⟩
      · have:=List.all_eq_true.1 h.1.1 e (by simpa using he)
        simpa [hb] using this
      · have:=pairOk_spec h.1.2 i oi (by rw [List.getElem?_append_left (by simpa using hi)] at hoi; exact hoi)
        simpa using this
    | succ k =>
      have:=rowsOk_spec r (done++[o']) h.2 k o (by simpa using hk)
      simp only [List.length_append,List.length_cons,List.length_nil,Nat.zero_add,List.append_assoc,List.singleton_append] at this
      rw [show done.length+1+k=done.length+(k+1) by omega] at this
      exact this
theorem edges_of {ops:Array Oper} (h:dOk ops=true):Edges ops (masks ops.toList []):=by
  have key:=rowsOk_spec _ _ h
  refine ⟨fun i o e ho he hb=> ?_,fun i o j ho hj=> ?_,fun i j oi oj hoi hoj hij=> ?_⟩
  · have:=(key i o (by simpa using ho)).1 e he hb
    simpa using this
  · have:=masks_at ops.toList [] i o (by simpa using ho) (key i o (by simpa using ho)).1 j (by simpa using hj)
    exact this
  · have:=(key j oj (by simpa using hoj)).2 i oi (by simpa using hij) (by simpa using hoi)
    simpa using this
end Go.Proofs.YtlaojmcekeohnaaGreatDoor.Gh
