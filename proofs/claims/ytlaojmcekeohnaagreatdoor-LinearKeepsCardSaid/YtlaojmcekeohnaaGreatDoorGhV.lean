import Derived.Test.YtlaojmcekeohnaaGreatDoorGhS
namespace Go.Proofs.YtlaojmcekeohnaaGreatDoor.Gh
open Go
variable {P:Program} {M:Map} {B:Nat} {E:Ev}
def Agree (op:Op) (T T' :List Value):Prop:=∀ x∈op.operands,ev T x=ev T' x
theorem parts_agree {ps:Array (Nat×Operand)} {T T' :List Value} (h:∀ x∈(ps.toList.map (·.2)).toArray,ev T x=ev T' x) :
    (ps.toList.map fun p=>(p.1,ev T p.2))=(ps.toList.map fun p=>(p.1,ev T' p.2)) :=
  List.map_congr_left fun p hp=>by rw [h p.2 (by simp only [List.mem_toArray,List.mem_map]; exact ⟨p,hp,rfl⟩)]
theorem args_agree {c:Call} {T T' :List Value} (h:∀ x∈c.operands,ev T x=ev T' x):∀ x∈c.args,ev T x=ev T' x :=
  fun x hx=>h x (by simp [Call.operands,hx])
theorem agree_pure {op:Op} {T T' :List Value} (h:Agree op T T'):gPure P T op=gPure P T' op:=by
  unfold Agree at h
  cases op<;>simp only [Op.operands] at h<;>simp only [gPure]
  case build t ps=>rw [parts_agree h]
  case makeFunc f first captured =>
    have h1:first.map (ev T)=first.map (ev T'):=Array.map_congr_left fun x hx=>h x (by simp [hx])
    have h2:captured.map (ev T)=captured.map (ev T'):=Array.map_congr_left fun x hx=>h x (by simp [hx])
    cases f<;>simp only [h1,h2]
  case call c =>
    have ha:=args_agree h
    obtain ⟨callee,args,argTypes⟩:=c
    have h1:args.map (ev T)=args.map (ev T'):=Array.map_congr_left ha
    have h2:args.toList.map (ev T)=args.toList.map (ev T'):=List.map_congr_left fun x hx=>ha x (by simpa using hx)
    cases callee with
    | value f=>rfl
    | invoke r m=>rfl
    | builtin b =>
      cases b<;>simp only [h1,h2]
      split
      · rename_i x _ hl
        rw [ha x (by have : x ∈ args.toList := by rw [hl]; simp
                     simpa using this)]
      · rfl
  all_goals (first | rfl | (simp_all; done))
theorem agree_read {op:Op} {T T' :List Value} (h:Agree op T T') (G:GS):gRead P T op G=gRead P T' op G:=by
  unfold Agree at h
  cases op<;>simp only [Op.operands] at h<;>simp only [gRead]
  case slice t x lo hi mx=>cases lo<;>cases hi<;>cases mx<;>simp_all
  all_goals (first | rfl | (simp_all; done))
theorem agree_make {op:Op} {T T' :List Value} (h:Agree op T T') (G:GS):gMake P T op G=gMake P T' op G:=by
  unfold Agree at h
  cases op<;>simp only [Op.operands] at h<;>simp only [gMake]
  case buildSlice t n ps=>rw [parts_agree h]
  all_goals (first | rfl | (simp_all; done))
theorem agree_write {op:Op} {T T' :List Value} (h:Agree op T T') (G:GS):gWrite P T op G=gWrite P T' op G:=by
  unfold Agree at h
  cases op<;>simp only [Op.operands] at h<;>simp only [gWrite]
  case call c =>
    have ha:=args_agree h
    obtain ⟨callee,args,argTypes⟩:=c
    split
    · rename_i ts tx s x _ _ _ hl
      have hl:args.toList=[s,x]:=hl
      rw [ha s (by have : s ∈ args.toList := by rw [hl]; simp
                   simpa using this), ha x (by have : x ∈ args.toList := by rw [hl]; simp
                                               simpa using this)]
    · rename_i ts tx s x _ _ hl
      have hl:args.toList=[s,x]:=hl
      rw [ha s (by have : s ∈ args.toList := by rw [hl]; simp
                   simpa using this), ha x (by have : x ∈ args.toList := by rw [hl]; simp
                                               simpa using this)]
    · rfl
  case makeMap t r=>cases r<;>rfl
  all_goals (first | rfl | (simp_all; done))
theorem agree_call {op:Op} {T T' :List Value} (h:Agree op T T') (G:GS):gCall P E T op G=gCall P E T' op G:=by
  unfold Agree at h
  cases op<;>simp only [Op.operands] at h<;>simp only [gCall]
  case call c =>
    have ha:=args_agree h
    obtain ⟨callee,args,argTypes⟩:=c
    have h2:args.toList.map (ev T)=args.toList.map (ev T'):=List.map_congr_left fun x hx=>ha x (by simpa using hx)
    cases callee with
    | value f =>
      have hf:ev T f=ev T' f:=h f (by simp [Call.operands])
      simp only [hf,h2]
    | invoke r m =>
      have hf:ev T r=ev T' r:=h r (by simp [Call.operands])
      simp only [hf,h2]
    | builtin b=>rfl
theorem agree_step {op:Op} {T T' :List Value} (h:Agree op T T') (G:GS):opStep P E T G op=opStep P E T' G op:=by
  unfold opStep
  rw [agree_pure h,agree_read h,agree_make h,agree_write h,agree_call h]
theorem opStep_noSelect {op:Op} {T:List Value} {G:GS} {r:Value×GS} (h:opStep P E T G op=some r):∀ cs b,op≠ .select cs b:=by
  rintro cs b rfl
  simp [opStep,cls,gPure,opOk] at h
def GLe (G G' :GS):Prop:=∀ g o,G.obj g=some o→G'.obj g=some o
theorem GLe.refl (G:GS):GLe G G:=fun _ _ h=>h
theorem GLe.rdN {G G' :GS} (h:GLe G G') {g off n:Nat} {l:List Value} (hr:rdN G g off n=some l):rdN G' g off n=some l:=by
  unfold Gh.rdN at hr ⊢
  split at hr
  · rename_i o ho; rw [h _ _ ho]; exact hr
  · simp at hr
theorem GLe.load {G G' :GS} (h:GLe G G') {t:TypeId} {v r:Value} (hr:gLoad P t v G=some r):gLoad P t v G' =some r:=by
  unfold gLoad at hr ⊢
  split at hr
  · split at hr
    · rename_i hag
      split at hr
      · rename_i s hs
        split at hr
        · rename_i l hl; rw [h.rdN hl]; exact hr
        · simp at hr
      · simp at hr
    · rename_i hag
      split at hr
      · rename_i l hl; rw [h.rdN hl]; exact hr
      · simp at hr
    · simp at hr
  · simp at hr
theorem GLe.slice {G G' :GS} (h:GLe G G') {t:TypeId} {x r:Value} {lo hi mx:Option Value} (hr:gSlice P t x lo hi mx G=some r):gSlice P t x lo hi mx G' =some r:=by
  unfold gSlice at hr ⊢
  split at hr
  · exact hr
  · split at hr
    · rename_i s o hs ho
      simp only [hs,h _ _ ho]; exact hr
    · simp at hr
  · exact hr
  · simp at hr
theorem GLe.read {G G' :GS} (h:GLe G G') {T:List Value} {op:Op} {v:Value} (hr:gRead P T op G=some v):gRead P T op G' =some v:=by
  unfold gRead at hr ⊢
  split at hr
  · exact h.load hr
  · exact h.slice hr
  · simp at hr
def cutFrom (L:List Nat):Nat→List Value→List Value
  | _,[]=>[]
  | k,x::xs=>(if L.contains k then x else undef)::cutFrom L (k+1) xs
theorem cutFrom_nth (L:List Nat):∀ (l:List Value) (k d:Nat),nth undef (cutFrom L k l) d=if L.contains (k+d) then nth undef l d else undef
  | [],k,d=>by simp [cutFrom,nth_nil]
  | x::xs,k,0=>by simp [cutFrom,nth_zero]
  | x::xs,k,d+1=>by
    simp only [cutFrom,nth_succ]
    rw [cutFrom_nth L xs (k+1) d,show k+1+d=k+(d+1) by omega]
theorem cutFrom_length (L:List Nat):∀ (l:List Value) (k:Nat),(cutFrom L k l).length=l.length
  | [],_=>rfl
  | _::xs,k=>by simp [cutFrom,cutFrom_length L xs]
def cutT (L:List Nat) (T:List Value):List Value:=cutFrom L 0 T
theorem cutT_nth (L:List Nat) (l:List Value) (d:Nat):nth undef (cutT L l) d=if L.contains d then nth undef l d else undef:=by
  rw [cutT,cutFrom_nth]; simp
def cutA (L:List Nat) (a:Act):Act:={ a with tmps:=⟨cutT L a.tmps.toList⟩ }
theorem act_eval_tmp (a:Act) (t:Nat):a.eval (.tmp t)=nth undef a.tmps.toList t:=by
  rw [nth_eq]; simp [Act.eval]
theorem Vs_of_nth {l l' :List Value} (hl:l.length=l'.length) (h:∀ d,V M (nth undef l d) (nth undef l' d)):Vs M l l' :=by
  refine lrel_iff.2 ⟨hl,fun i x hx=> ?_⟩
  have hlt:i<l'.length:=by rw [← hl]; exact (List.getElem?_eq_some_iff.1 hx).1
  refine ⟨l'[i],by simp [hlt],?_⟩
  have:=h i
  rw [nth_eq,nth_eq] at this
  simpa [List.getD,hx,hlt] using this
theorem cut_rel {L:List Nat} {T:List Value} {a:Act} (hl:T.length=a.tmps.size) (h:∀ d∈L,V M (nth undef T d) (nth undef a.tmps.toList d)):Vs M (cutT L T) (cutA L a).tmps.toList:=by
  refine Vs_of_nth (by simp [cutA,cutT,cutFrom_length,hl]) fun d=> ?_
  show V M _ (nth undef (cutT L a.tmps.toList) d)
  rw [cutT_nth,cutT_nth]
  by_cases hd:L.contains d=true
  · rw [if_pos hd,if_pos hd]; exact h d (by simpa using hd)
  · rw [if_neg hd,if_neg hd]; exact V_undef
theorem cut_agree {ops:Array Oper} {o:Oper} {T:List Value}:Agree o.op (cutT (o.looksAt ops) T) T:=by
  intro x hx
  cases x with
  | tmp t =>
    simp only [ev]
    rw [cutT_nth,if_pos]
    simp only [List.contains_iff_mem]
    exact List.mem_append_left _ (List.mem_filterMap.2 ⟨.tmp t,by simpa using hx,rfl⟩)
  | _=>rfl
theorem cut_exec {ops:Array Oper} {o:Oper} (hs:∀ cs b,o.op≠ .select cs b) {a:Act}:execOp a.eval o=execOp (cutA (o.looksAt ops) a).eval o:=by
  refine execOp_congr o hs fun x hx=> ?_
  cases x with
  | tmp t =>
    rw [act_eval_tmp,act_eval_tmp]
    show _=nth undef (cutT _ a.tmps.toList) t
    rw [cutT_nth,if_pos]
    simp only [List.contains_iff_mem]
    exact List.mem_append_left _ (List.mem_filterMap.2 ⟨.tmp t,by simpa using hx,rfl⟩)
  | _=>rfl
theorem yield_at {ops:Array Oper} {a:Act} {T:List Value} {j:Nat} (h:∀ o d,ops[j]? =some o→o.dst=some d→V M (nth undef T d) (nth undef a.tmps.toList d)):yielded ops a.tmps j=gYield ops T j:=by
  unfold yielded gYield
  cases ho:ops[j]? with
  | none=>rfl
  | some o =>
    cases hd:o.dst with
    | none=>simp [hd]
    | some d =>
      have h:=h o d ho hd
      simp only [Option.bind_some,hd]
      rw [nth_eq undef a.tmps.toList] at h
      cases ht:a.tmps[d]? with
      | none =>
        have hg:a.tmps.toList.getD d undef=undef:=by simp [List.getD,ht]
        rw [hg] at h
        cases hn:nth undef T d with
        | bool b=>rw [hn] at h; have:=V_bool.1 h; simp [undef] at this
        | _=>rfl
      | some y =>
        have hg:a.tmps.toList.getD d undef=y:=by simp [List.getD,ht]
        rw [hg] at h
        cases hn:nth undef T d with
        | bool b=>rw [hn] at h; rw [V_bool.1 h]
        | _ =>
          cases y with
          | bool b=>rw [V_isBool h] at hn; cases hn
          | _=>rfl
theorem wanted_at {ops:Array Oper} {o:Oper} {a:Act} {T:List Value} (h:∀ d∈o.looksAt ops,V M (nth undef T d) (nth undef a.tmps.toList d)):Region.wanted o (yielded ops a.tmps)=gWanted ops T o:=by
  unfold Region.wanted gWanted
  cases hg:o.guard with
  | none=>rfl
  | some g =>
    obtain ⟨j,want⟩:=g
    simp only []
    rw [yield_at (T:=T) (M:=M)]
    intro o' d ho' hd
    exact h d (by simp [Oper.looksAt,hg,ho',hd])
end Go.Proofs.YtlaojmcekeohnaaGreatDoor.Gh
