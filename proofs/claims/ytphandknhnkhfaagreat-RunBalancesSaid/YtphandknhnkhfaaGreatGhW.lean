import Derived.Test.YtphandknhnkhfaaGreatGhV
namespace Go.Proofs.YtphandknhnkhfaaGreat.Gh
open Go
variable {P:Program} {M:Map} {B:Nat} {E:Ev}
theorem Mw (op:Op):cls op≤3:=by
  unfold cls; split<;>(try split)<;>omega
noncomputable def pf (P:Program) (E:Ev) (ops:Array Oper) (base i:Nat) (o:Oper) (T:List Value) (G:GS):Option (Value×GS) :=
  if dD ops T o then
    if !(dW o.op) then none else
    match cls o.op with
    | 0=>match nP P T o.op with | some v=>some (v,G) | none=>none
    | 1=>match fQ P T o.op G with | some v=>some (v,G) | none=>none
    | 2=>match lX P T o.op { G with nx:=base+i } with | some (v,G')=>some (v,{ G' with nx:=G.nx }) | none=>none
    | _=>match rj P T o.op G with | some r=>some r | none=>rn P E T o.op G
  else some (undef,G)
noncomputable def dr (P:Program) (E:Ev) (ops:Array Oper) (base:Nat) (T:List Value) (G:GS):Nat→List Value×GS
  | 0=>(T,G)
  | i+1=>match ops[i]? with
    | some o=>match pf P E ops base i o (dr P E ops base T G i).1 (dr P E ops base T G i).2 with
      | some (v,G')=>(bf (dr P E ops base T G i).1 o.dst v,G')
      | none=>dr P E ops base T G i
    | none=>dr P E ops base T G i
noncomputable def uR (P:Program) (E:Ev) (ops:Array Oper) (base:Nat) (T:List Value) (G:GS) (i:Nat):Value :=
  match ops[i]? with
  | some o=>match pf P E ops base i o (dr P E ops base T G i).1 (dr P E ops base T G i).2 with
    | some (v,_)=>v
    | none=>undef
  | none=>undef
structure Trace (P:Program) (E:Ev) (ops:Array Oper) (ms:List Nat) (base:Nat) (T:Nat→List Value) (G:Nat→GS) (v:Nat→Value):Prop where
  step:∀ i o,ops[i]? =some o→pf P E ops base i o (T i) (G i)=some (v i,G (i+1))∧T (i+1)=bf (T i) o.dst (v i)
  before:∀ i j oi oj,ops[i]? =some oi→ops[j]? =some oj→j<i→dD ops (T i) oi=true→dD ops (T j) oj=true→cls oi.op=1→cls oj.op=3 →
    (nth 0 ms i).testBit j=true∨fQ P (T i) oi.op (G j)=some (v i)
  after:∀ i j oi oj,ops[i]? =some oi→ops[j]? =some oj→i<j→dD ops (T i) oi=true→dD ops (T j) oj=true→cls oi.op=1→cls oj.op=3 →
    (nth 0 ms j).testBit i=true∨fQ P (T i) oi.op (G (j+1))=some (v i)
theorem AG {n:Nat} (hn:∀ v u:Value,cm n v u=true→v=u):∀ (l l':List Value),cm.lf n l l' =true→l=l'
  | [],[],_=>rfl
  | x::xs,y::ys,h=>by
    simp only [cm.lf,Bool.and_eq_true] at h
    rw [hn _ _ h.1,AG hn _ _ h.2]
  | [],_::_,h=>by simp [cm.lf] at h
  | _::_,[],h=>by simp [cm.lf] at h
theorem Mx:∀ (n:Nat) (v u:Value),cm n v u=true→v=u
  | 0,_,_,h=>by simp [cm] at h
  | n+1,v,u,h=>by
    have ih:=Mx n
    unfold cm at h
    split at h<;>(try simp only [beq_iff_eq,Bool.and_eq_true,Bool.false_eq_true] at h)
    · rw [h]
    · rw [h.1,h.2]
    · rw [h]
    · rw [h.1.1,h.1.2,h.2]
    · rw [h]
    · rfl
    · rfl
    · rw [h.1.1,Array.toList_inj.1 (AG ih _ _ h.1.2),Array.toList_inj.1 (AG ih _ _ h.2)]
    · rw [h.1,ih _ _ h.2]
    · rw [Array.toList_inj.1 (AG ih _ _ h)]
    · rw [Array.toList_inj.1 (AG ih _ _ h)]
theorem My {x:Option Value} {v:Value} (h:br x v=true):x=some v:=by
  cases x with
  | none=>simp [br] at h
  | some u=>rw [Mx 4 _ _ h]
section
variable {ops:Array Oper} {ms:List Nat} {base:Nat} {T₀:List Value} {G₀:GS}
theorem drop_cons {o:Oper} {r:List Oper} {i:Nat} (h:ops.toList.drop i=o::r):ops[i]? =some o∧ops.toList.drop (i+1)=r:=by
  constructor
  · have:(ops.toList.drop i)[0]? =some o:=by rw [h]; rfl
    simpa using this
  · rw [← List.drop_drop,h]; rfl
structure VC (P:Program) (E:Ev) (ops:Array Oper) (base:Nat) (T₀:List Value) (G₀:GS) (i:Nat) (aM:List (Nat×GS)) (aF:List fu):Prop where
  aM:∀ j oj,j<i→ops[j]? =some oj→dD ops (dr P E ops base T₀ G₀ j).1 oj=true→cls oj.op=3→(j,(dr P E ops base T₀ G₀ j).2)∈aM
  aF:∀ j oj,j<i→ops[j]? =some oj→dD ops (dr P E ops base T₀ G₀ j).1 oj=true→cls oj.op=1→(⟨j,(dr P E ops base T₀ G₀ j).1,oj.op,uR P E ops base T₀ G₀ j⟩:fu)∈aF
structure Mz (P:Program) (E:Ev) (ops:Array Oper) (ms:List Nat) (base:Nat) (T₀:List Value) (G₀:GS) (i:Nat) (o:Oper):Prop where
  step:pf P E ops base i o (dr P E ops base T₀ G₀ i).1 (dr P E ops base T₀ G₀ i).2=some (uR P E ops base T₀ G₀ i,(dr P E ops base T₀ G₀ (i+1)).2)
  put:(dr P E ops base T₀ G₀ (i+1)).1=bf (dr P E ops base T₀ G₀ i).1 o.dst (uR P E ops base T₀ G₀ i)
  before:∀ j oj,j<i→ops[j]? =some oj→dD ops (dr P E ops base T₀ G₀ i).1 o=true→dD ops (dr P E ops base T₀ G₀ j).1 oj=true→cls o.op=1→cls oj.op=3 →
    (nth 0 ms i).testBit j=true∨fQ P (dr P E ops base T₀ G₀ i).1 o.op (dr P E ops base T₀ G₀ j).2=some (uR P E ops base T₀ G₀ i)
  after:∀ j oj,j<i→ops[j]? =some oj→dD ops (dr P E ops base T₀ G₀ i).1 o=true→dD ops (dr P E ops base T₀ G₀ j).1 oj=true→cls o.op=3→cls oj.op=1 →
    (nth 0 ms i).testBit j=true∨fQ P (dr P E ops base T₀ G₀ j).1 oj.op (dr P E ops base T₀ G₀ (i+1)).2=some (uR P E ops base T₀ G₀ j)
theorem MA {R:List Value×GS}:∀ (l:List Oper) (i:Nat) (aM:List (Nat×GS)) (aF:List fu),ops.toList.drop i=l→i≤ops.size→VC P E ops base T₀ G₀ i aM aF →
    mR P E ops ms base i l (dr P E ops base T₀ G₀ i).1 (dr P E ops base T₀ G₀ i).2 aM aF=some R →
    (∀ j o,i≤j→ops[j]? =some o→Mz P E ops ms base T₀ G₀ j o)∧dr P E ops base T₀ G₀ ops.size=R
  | [],i,aM,aF,hl,hi,_,h=>by
    have cQ:ops.size≤i:=by
      have:=congrArg List.length hl
      simp only [List.length_drop,Array.length_toList,List.length_nil] at this; omega
    have:i=ops.size:=by omega
    subst this
    simp only [mR,Option.some.injEq] at h
    refine ⟨fun j o hj ho=>?_,by rw [← h]⟩
    have:=(Array.getElem?_eq_some_iff.1 ho).1
    omega
  | o::r,i,aM,aF,hl,hi,hK,h=>by
    obtain ⟨ho,hr⟩:=drop_cons hl
    have aJ:i<ops.size:=(Array.getElem?_eq_some_iff.1 ho).1
    have key:∀ (v:Value) (G':GS) (pg:List (Nat×GS)) (mZ:List fu),pf P E ops base i o (dr P E ops base T₀ G₀ i).1 (dr P E ops base T₀ G₀ i).2=some (v,G') →
        mR P E ops ms base (i+1) r (bf (dr P E ops base T₀ G₀ i).1 o.dst v) G' pg mZ =some R →
        (∀ x∈aM,x∈pg)→(∀ x∈aF,x∈mZ) →
        (dD ops (dr P E ops base T₀ G₀ i).1 o=true→cls o.op=3→(i,(dr P E ops base T₀ G₀ i).2)∈pg) →
        (dD ops (dr P E ops base T₀ G₀ i).1 o=true→cls o.op=1→(⟨i,(dr P E ops base T₀ G₀ i).1,o.op,v⟩:fu)∈mZ) →
        (dD ops (dr P E ops base T₀ G₀ i).1 o=true→cls o.op=1→∀ x∈aM,(nth 0 ms i).testBit x.1=true∨fQ P (dr P E ops base T₀ G₀ i).1 o.op x.2=some v) →
        (dD ops (dr P E ops base T₀ G₀ i).1 o=true→cls o.op=3→∀ x∈aF,(nth 0 ms i).testBit x.i=true∨fQ P x.T x.op G' =some x.v) →
        (∀ j o,i≤j→ops[j]? =some o→Mz P E ops ms base T₀ G₀ j o)∧dr P E ops base T₀ G₀ ops.size=R:=by
      intro v G' pg mZ ax FK hh hp h3 h1 c1 c3
      have hv:uR P E ops base T₀ G₀ i=v:=by simp [uR,ho,ax]
      have hS:dr P E ops base T₀ G₀ (i+1)=(bf (dr P E ops base T₀ G₀ i).1 o.dst v,G'):=by simp [dr,ho,ax]
      have ih:=MA (R:=R) r (i+1) pg mZ hr aJ ⟨fun j oj hj dI hw hc=>by
          rcases Nat.lt_or_ge j i with lC | lC
          · exact hh _ (hK.aM j oj lC dI hw hc)
          · obtain rfl:j=i:=by omega
            obtain rfl:oj=o:=by rw [ho] at dI; exact (Option.some.inj dI).symm
            exact h3 hw hc,fun j oj hj dI hw hc=>by
          rcases Nat.lt_or_ge j i with lC | lC
          · exact hp _ (hK.aF j oj lC dI hw hc)
          · obtain rfl:j=i:=by omega
            obtain rfl:oj=o:=by rw [ho] at dI; exact (Option.some.inj dI).symm
            rw [hv]; exact h1 hw hc⟩ (by rw [hS]; exact FK)
      refine ⟨fun j oj hj dI=>?_,ih.2⟩
      rcases Nat.lt_or_ge i j with rE | rE
      · exact ih.1 j oj rE dI
      · obtain rfl:j=i:=by omega
        obtain rfl:oj=o:=by rw [ho] at dI; exact (Option.some.inj dI).symm
        exact ⟨by rw [hv,hS]; exact ax,by rw [hv,hS],fun k ok hk aP hw GO hc AH=>by
            rw [hv]; exact c1 hw hc _ (hK.aM k ok hk aP GO AH),fun k ok hk aP hw GO hc AH=>by
            rw [hS]; exact c3 hw hc _ (hK.aF k ok hk aP GO AH)⟩
    simp only [mR] at h
    by_cases hw:dD ops (dr P E ops base T₀ G₀ i).1 o=true
    · rw [if_pos hw] at h
      split at h
      · simp at h
      rename_i aP
      have hle:=Mw o.op
      split at h
      · rename_i hc
        split at h
        · rename_i v hv
          exact key v _ aM aF (by unfold pf; rw [if_pos hw,if_neg aP,hc]; simp only [hv]) h (fun _ h=>h) (fun _ h=>h) (fun _ h=>by omega) (fun _ h=>by omega) (fun _ h=>by omega) (fun _ h=>by omega)
        · simp at h
      · rename_i hc
        split at h
        · rename_i v hv
          split at h
          · rename_i qi
            refine key v _ aM _ (by unfold pf; rw [if_pos hw,if_neg aP,hc]; simp only [hv]) h (fun _ h=>h) (fun _ h=>List.mem_cons_of_mem _ h) (fun _ h=>by omega) (fun _ _=>List.mem_cons_self) (fun _ _ x hx=>?_) (fun _ h=>by omega)
            have:=List.all_eq_true.1 qi x hx
            simp only [Bool.or_eq_true] at this
            exact this.imp id My
          · simp at h
        · simp at h
      · rename_i hc
        split at h
        · rename_i v G' hv
          exact key v _ aM aF (by unfold pf; rw [if_pos hw,if_neg aP,hc]; simp only [hv]) h (fun _ h=>h) (fun _ h=>h) (fun _ h=>by omega) (fun _ h=>by omega) (fun _ h=>by omega) (fun _ h=>by omega)
        · simp at h
      · rename_i jT kJ uN
        have hc:cls o.op=3:=by
          have h0:¬ cls o.op=0:=jT
          have h1:¬ cls o.op=1:=kJ
          have h2:¬ cls o.op=2:=uN
          omega
        split at h
        · rename_i v G' hv
          split at h
          · rename_i qi
            refine key v _ _ aF (by unfold pf; rw [if_pos hw,if_neg aP,hc]; exact hv) h (fun _ h=>List.mem_cons_of_mem _ h) (fun _ h=>h) (fun _ _=>List.mem_cons_self) (fun _ h=>by omega) (fun _ h=>by omega) (fun _ _ x hx=>?_)
            have:=List.all_eq_true.1 qi x hx
            simp only [Bool.or_eq_true] at this
            exact this.imp id My
          · simp at h
        · simp at h
    · rw [if_neg hw] at h
      exact key undef _ aM aF (by unfold pf; rw [if_neg hw]) h (fun _ h=>h) (fun _ h=>h) (fun h=>absurd h hw) (fun h=>absurd h hw) (fun h=>absurd h hw) (fun h=>absurd h hw)
theorem VD {T':List Value} {G':GS} (h:mR P E ops ms base 0 ops.toList T₀ G₀ [] []=some (T',G')) :
    ∃ T G v,Trace P E ops ms base T G v∧T 0=T₀∧G 0=G₀∧T ops.size=T' ∧G ops.size=G':=by
  obtain ⟨h1,h2⟩:=MA (P:=P) (E:=E) (ms:=ms) (base:=base) (T₀:=T₀) (G₀:=G₀) ops.toList 0 [] [] rfl (Nat.zero_le _) ⟨fun j _ hj=>by omega,fun j _ hj=>by omega⟩ h
  refine ⟨fun i=>(dr P E ops base T₀ G₀ i).1,fun i=>(dr P E ops base T₀ G₀ i).2,uR P E ops base T₀ G₀,⟨fun i o ho=>?_,fun i j oi oj hi hj aJ hw lB hc nT=>?_,fun i j oi oj hi hj aJ hw lB hc nT=>?_⟩,rfl,rfl,by simp [h2],by simp [h2]⟩
  · exact ⟨(h1 i o (Nat.zero_le _) ho).step,(h1 i o (Nat.zero_le _) ho).put⟩
  · exact (h1 i oi (Nat.zero_le _) hi).before j oj aJ hj hw lB hc nT
  · exact (h1 j oj (Nat.zero_le _) hj).after i oi aJ hi lB hw nT hc
end
structure uS (ops:Array Oper) (ms:List Nat):Prop where
  back:∀ i o e,ops[i]? =some o→e∈o.after→Region.binds .any e=true→e.on<i
  mask:∀ i o j,ops[i]? =some o→(nth 0 ms i).testBit j=true→∃ e∈o.after,Region.binds .any e=true∧(j=e.on∨(nth 0 ms e.on).testBit j=true)
  pair:∀ i j oi oj,ops[i]? =some oi→ops[j]? =some oj→i<j→(nth 0 ms j).testBit i=true∨(oi.apart ops oj=true∧¬ (cls oi.op=3∧cls oj.op=3))
theorem GQ {acc:List Nat} {j:Nat}:∀ {l:List Edge},(qg acc l).testBit j=true→∃ e∈l,Region.binds .any e=true∧(j=e.on∨(nth 0 acc e.on).testBit j=true)
  | [],h=>by simp [qg] at h
  | e::r,h=>by
    simp only [qg] at h
    split at h
    · rename_i hb
      simp only [Nat.testBit_or,Bool.or_eq_true,Nat.testBit_two_pow,decide_eq_true_eq] at h
      rcases h with (h | h) | h
      · exact ⟨e,by simp,hb,.inl h.symm⟩
      · exact ⟨e,by simp,hb,.inr h⟩
      · obtain ⟨e',h1,h2,h3⟩:=GQ h
        exact ⟨e',by simp [h1],h2,h3⟩
    · obtain ⟨e',h1,h2,h3⟩:=GQ h
      exact ⟨e',by simp [h1],h2,h3⟩
theorem VE {acc l:List Nat} {i:Nat} (h:i<acc.length):nth 0 (acc++l) i=nth 0 acc i:=by
  rw [jL,jL]; simp [List.getD,List.getElem?_append_left h]
theorem VG {acc l:List Nat} {x:Nat}:nth 0 (acc++x::l) acc.length=x:=by
  rw [jL]; simp [List.getD]
theorem MB:∀ (l:List Oper) (acc:List Nat),∃ t,masks l acc=acc++t
  | [],acc=>⟨[],by simp [masks]⟩
  | o::r,acc=>by
    obtain ⟨t,ht⟩:=MB r (acc++[qg acc o.after.toList])
    exact ⟨qg acc o.after.toList::t,by simp [masks,ht]⟩
theorem MC:∀ (l:List Oper) (acc:List Nat) (k:Nat) (o:Oper),l[k]? =some o→(∀ e∈o.after,Region.binds .any e=true→e.on<acc.length+k) →
    ∀ j,(nth 0 (masks l acc) (acc.length+k)).testBit j=true→∃ e∈o.after,Region.binds .any e=true∧(j=e.on∨(nth 0 (masks l acc) e.on).testBit j=true)
  | [],_,_,_,h,_,_,_=>by simp at h
  | o' ::r,acc,0,o,h,hb,j,hj=>by
    simp at h; subst h
    obtain ⟨t,ht⟩:=MB r (acc++[qg acc o'.after.toList])
    simp only [masks] at hj ⊢
    rw [ht] at hj ⊢
    simp only [Nat.add_zero,List.append_assoc,List.singleton_append,VG] at hj
    obtain ⟨e,h1,h2,h3⟩:=GQ hj
    have h1:e∈o'.after:=by simpa using h1
    refine ⟨e,h1,h2,h3.imp id fun h=>?_⟩
    have:=hb e h1 h2
    rw [List.append_assoc,VE (by omega)]; exact h
  | o' ::r,acc,k+1,o,h,hb,j,hj=>by
    simp only [masks] at hj ⊢
    have:=MC r (acc++[qg acc o'.after.toList]) k o (by simpa using h) (by simpa [Nat.add_assoc,Nat.add_comm 1 k] using hb) j
    simp only [List.length_append,List.length_cons,List.length_nil,Nat.zero_add] at this
    exact this (by rw [show acc.length+1+k=acc.length+(k+1) by omega]; exact hj)
theorem MD {ops:Array Oper} {m:Nat} {j:Oper}:∀ {l:List Oper} {i:Nat},Cz ops m j i l=true→∀ k o,l[k]? =some o→m.testBit (i+k)=true∨(o.apart ops j=true∧¬ (cls o.op=3∧cls j.op=3))
  | [],_,_,_,_,h=>by simp at h
  | o' ::r,i,h,k,o,hk=>by
    simp only [Cz,Bool.and_eq_true,Bool.or_eq_true,Bool.not_eq_true',Bool.and_eq_false_iff,beq_eq_false_iff_ne] at h
    cases k with
    | zero =>
      simp at hk; subst hk
      refine h.1.imp id fun h=>⟨h.1,fun hc=>?_⟩
      rcases h.2 with h | h
      · exact h hc.1
      · exact h hc.2
    | succ k =>
      have:=MD h.2 k o (by simpa using hk)
      rwa [show i+1+k=i+(k+1) by omega] at this
theorem ME {ops:Array Oper} {ms:List Nat}:∀ (l done:List Oper),CA ops ms done l=true→∀ k o,l[k]? =some o →
    (∀ e∈o.after,Region.binds .any e=true→e.on<done.length+k)∧∀ i oi,i<done.length+k→(done++l)[i]? =some oi→(nth 0 ms (done.length+k)).testBit i=true∨(oi.apart ops o=true∧¬ (cls oi.op=3∧cls o.op=3))
  | [],_,_,_,_,h=>by simp at h
  | o' ::r,done,h,k,o,hk=>by
    simp only [CA,Bool.and_eq_true] at h
    cases k with
    | zero =>
      simp at hk; subst hk
      refine ⟨fun e he hb=>?_,fun i oi hi yk=>?_⟩
      · have:=List.all_eq_true.1 h.1.1 e (by simpa using he)
        simpa [hb] using this
      · have:=MD h.1.2 i oi (by rw [List.getElem?_append_left (by simpa using hi)] at yk; exact yk)
        simpa using this
    | succ k =>
      have:=ME r (done++[o']) h.2 k o (by simpa using hk)
      simp only [List.length_append,List.length_cons,List.length_nil,Nat.zero_add,List.append_assoc,List.singleton_append] at this
      rw [show done.length+1+k=done.length+(k+1) by omega] at this
      exact this
theorem VH {ops:Array Oper} (h:uC ops=true):uS ops (masks ops.toList []):=by
  have key:=ME _ _ h
  refine ⟨fun i o e ho he hb=>?_,fun i o j ho hj=>?_,fun i j oi oj yk dI rE=>?_⟩
  · have:=(key i o (by simpa using ho)).1 e he hb
    simpa using this
  · have:=MC ops.toList [] i o (by simpa using ho) (key i o (by simpa using ho)).1 j (by simpa using hj)
    exact this
  · have:=(key j oj (by simpa using dI)).2 i oi (by simpa using rE) (by simpa using yk)
    simpa using this
end Go.Proofs.YtphandknhnkhfaaGreat.Gh
