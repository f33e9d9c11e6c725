import Derived.Test.YtphandknhnkhfaaGreatGhS
namespace Go.Proofs.YtphandknhnkhfaaGreat.Gh
open Go
variable {P:Program} {M:Map} {B:Nat} {E:Ev}
def pe (op:Op) (T T':List Value):Prop:=∀ x∈op.operands,ev T x=ev T' x
theorem Mn {ps:Array (Nat×Operand)} {T T':List Value} (h:∀ x∈(ps.toList.map (·.2)).toArray,ev T x=ev T' x) :
    (ps.toList.map fun p=>(p.1,ev T p.2))=(ps.toList.map fun p=>(p.1,ev T' p.2)) :=
  List.map_congr_left fun p hp=>by rw [h p.2 (by simp only [List.mem_toArray,List.mem_map]; exact ⟨p,hp,rfl⟩)]
theorem GN {c:Call} {T T':List Value} (h:∀ x∈c.operands,ev T x=ev T' x):∀ x∈c.args,ev T x=ev T' x :=
  fun x hx=>h x (by simp [Call.operands,hx])
theorem Vr {op:Op} {T T':List Value} (h:pe op T T'):nP P T op=nP P T' op:=by
  unfold pe at h
  cases op<;>simp only [Op.operands] at h<;>simp only [nP]
  case build t ps=>rw [Mn h]
  case makeFunc f first captured =>
    have h1:first.map (ev T)=first.map (ev T'):=Array.map_congr_left fun x hx=>h x (by simp [hx])
    have h2:captured.map (ev T)=captured.map (ev T'):=Array.map_congr_left fun x hx=>h x (by simp [hx])
    cases f<;>simp only [h1,h2]
  case call c =>
    have ha:=GN h
    obtain ⟨callee,args,argTypes⟩:=c
    have h1:args.map (ev T)=args.map (ev T'):=Array.map_congr_left ha
    have h2:args.toList.map (ev T)=args.toList.map (ev T'):=List.map_congr_left fun x hx=>ha x (by simpa using hx)
    cases callee with
    | value f=>rfl
    | invoke r m=>rfl
    | builtin b =>
      cases b<;>simp only [h1,h2]
      split
      · rename_i x _ hl
        rw [ha x (by have : x ∈ args.toList := by rw [hl]; simp
                     simpa using this)]
      · rfl
  all_goals (first | rfl | (simp_all; done))
theorem Vt {op:Op} {T T':List Value} (h:pe op T T') (G:GS):fQ P T op G=fQ P T' op G:=by
  unfold pe at h
  cases op<;>simp only [Op.operands] at h<;>simp only [fQ]
  case slice t x lo hi mx=>cases lo<;>cases hi<;>cases mx<;>simp_all
  all_goals (first | rfl | (simp_all; done))
theorem Mp {op:Op} {T T':List Value} (h:pe op T T') (G:GS):lX P T op G=lX P T' op G:=by
  unfold pe at h
  cases op<;>simp only [Op.operands] at h<;>simp only [lX]
  case buildSlice t n ps=>rw [Mn h]
  all_goals (first | rfl | (simp_all; done))
theorem Vu {op:Op} {T T':List Value} (h:pe op T T') (G:GS):rj P T op G=rj P T' op G:=by
  unfold pe at h
  cases op<;>simp only [Op.operands] at h<;>simp only [rj]
  case call c =>
    have ha:=GN h
    obtain ⟨callee,args,argTypes⟩:=c
    split
    · rename_i ts tx s x _ _ _ hl
      have hl:args.toList=[s,x]:=hl
      rw [ha s (by have : s ∈ args.toList := by rw [hl]; simp
                   simpa using this), ha x (by have : x ∈ args.toList := by rw [hl]; simp
                                               simpa using this)]
    · rename_i ts tx s x _ _ hl
      have hl:args.toList=[s,x]:=hl
      rw [ha s (by have : s ∈ args.toList := by rw [hl]; simp
                   simpa using this), ha x (by have : x ∈ args.toList := by rw [hl]; simp
                                               simpa using this)]
    · rfl
  case makeMap t r=>cases r<;>rfl
  all_goals (first | rfl | (simp_all; done))
theorem Vv {op:Op} {T T':List Value} (h:pe op T T') (G:GS):rn P E T op G=rn P E T' op G:=by
  unfold pe at h
  cases op<;>simp only [Op.operands] at h<;>simp only [rn]
  case call c =>
    have ha:=GN h
    obtain ⟨callee,args,argTypes⟩:=c
    have h2:args.toList.map (ev T)=args.toList.map (ev T'):=List.map_congr_left fun x hx=>ha x (by simpa using hx)
    cases callee with
    | value f =>
      have hf:ev T f=ev T' f:=h f (by simp [Call.operands])
      simp only [hf,h2]
    | invoke r m =>
      have hf:ev T r=ev T' r:=h r (by simp [Call.operands])
      simp only [hf,h2]
    | builtin b=>rfl
theorem Vx {op:Op} {T T':List Value} (h:pe op T T') (G:GS):jg P E T G op=jg P E T' G op:=by
  unfold jg
  rw [Vr h,Vt h,Mp h,Vu h,Vv h]
theorem Vy {op:Op} {T:List Value} {G:GS} {r:Value×GS} (h:jg P E T G op=some r):∀ cs b,op≠ .select cs b:=by
  rintro cs b rfl
  simp [jg,cls,nP,dW] at h
def tl (G G':GS):Prop:=∀ g o,G.obj g=some o→G'.obj g=some o
theorem tl.fE {G G':GS} (h:tl G G') {g off n:Nat} {l:List Value} (hr:fE G g off n=some l):fE G' g off n=some l:=by
  unfold Gh.fE at hr ⊢
  split at hr
  · rename_i o ho; rw [h _ _ ho]; exact hr
  · simp at hr
theorem tl.load {G G':GS} (h:tl G G') {t:TypeId} {v r:Value} (hr:rh P t v G=some r):rh P t v G' =some r:=by
  unfold rh at hr ⊢
  split at hr
  · split at hr
    · rename_i sO
      split at hr
      · rename_i s hs
        split at hr
        · rename_i l hl; rw [h.fE hl]; exact hr
        · simp at hr
      · simp at hr
    · rename_i sO
      split at hr
      · rename_i l hl; rw [h.fE hl]; exact hr
      · simp at hr
    · simp at hr
  · simp at hr
theorem tl.slice {G G':GS} (h:tl G G') {t:TypeId} {x r:Value} {lo hi mx:Option Value} (hr:iG P t x lo hi mx G=some r):iG P t x lo hi mx G' =some r:=by
  unfold iG at hr ⊢
  split at hr
  · exact hr
  · split at hr
    · rename_i s o hs ho
      simp only [hs,h _ _ ho]; exact hr
    · simp at hr
  · exact hr
  · simp at hr
theorem tl.read {G G':GS} (h:tl G G') {T:List Value} {op:Op} {v:Value} (hr:fQ P T op G=some v):fQ P T op G' =some v:=by
  unfold fQ at hr ⊢
  split at hr
  · exact h.load hr
  · exact h.slice hr
  · simp at hr
def uQ (L:List Nat):Nat→List Value→List Value
  | _,[]=>[]
  | k,x::xs=>(if L.contains k then x else undef)::uQ L (k+1) xs
theorem Mq (L:List Nat):∀ (l:List Value) (k d:Nat),nth undef (uQ L k l) d=if L.contains (k+d) then nth undef l d else undef
  | [],k,d=>by simp [uQ,xT]
  | x::xs,k,0=>by simp [uQ,sG]
  | x::xs,k,d+1=>by
    simp only [uQ,sH]
    rw [Mq L xs (k+1) d,show k+1+d=k+(d+1) by omega]
theorem Mr (L:List Nat):∀ (l:List Value) (k:Nat),(uQ L k l).length=l.length
  | [],_=>rfl
  | _::xs,k=>by simp [uQ,Mr L xs]
def qp (L:List Nat) (T:List Value):List Value:=uQ L 0 T
theorem C5 (L:List Nat) (l:List Value) (d:Nat):nth undef (qp L l) d=if L.contains d then nth undef l d else undef:=by
  rw [qp,Mq]; simp
def C6 (L:List Nat) (a:Act):Act:={ a with tmps:=⟨qp L a.tmps.toList⟩ }
theorem Ms (a:Act) (t:Nat):a.eval (.tmp t)=nth undef a.tmps.toList t:=by
  rw [jL]; simp [Act.eval]
theorem Mt {l l':List Value} (hl:l.length=l'.length) (h:∀ d,V M (nth undef l d) (nth undef l' d)):Vs M l l':=by
  refine iR.2 ⟨hl,fun i x hx=>?_⟩
  have aJ:i<l'.length:=by rw [← hl]; exact (List.getElem?_eq_some_iff.1 hx).1
  refine ⟨l'[i],by simp [aJ],?_⟩
  have:=h i
  rw [jL,jL] at this
  simpa [List.getD,hx,aJ] using this
theorem Vz {L:List Nat} {T:List Value} {a:Act} (hl:T.length=a.tmps.size) (h:∀ d∈L,V M (nth undef T d) (nth undef a.tmps.toList d)):Vs M (qp L T) (C6 L a).tmps.toList:=by
  refine Mt (by simp [C6,qp,Mr,hl]) fun d=>?_
  show V M _ (nth undef (qp L a.tmps.toList) d)
  rw [C5,C5]
  by_cases hd:L.contains d=true
  · rw [if_pos hd,if_pos hd]; exact h d (by simpa using hd)
  · rw [if_neg hd,if_neg hd]; exact sM
theorem Mu {ops:Array Oper} {o:Oper} {T:List Value}:pe o.op (qp (o.looksAt ops) T) T:=by
  intro x hx
  cases x with
  | tmp t =>
    simp only [ev]
    rw [C5,if_pos]
    simp only [List.contains_iff_mem]
    exact List.mem_append_left _ (List.mem_filterMap.2 ⟨.tmp t,by simpa using hx,rfl⟩)
  | _=>rfl
theorem Mv {ops:Array Oper} {o:Oper} (hs:∀ cs b,o.op≠ .select cs b) {a:Act}:execOp a.eval o=execOp (C6 (o.looksAt ops) a).eval o:=by
  refine execOp_congr o hs fun x hx=>?_
  cases x with
  | tmp t =>
    rw [Ms,Ms]
    show _=nth undef (qp _ a.tmps.toList) t
    rw [C5,if_pos]
    simp only [List.contains_iff_mem]
    exact List.mem_append_left _ (List.mem_filterMap.2 ⟨.tmp t,by simpa using hx,rfl⟩)
  | _=>rfl
theorem VA {ops:Array Oper} {a:Act} {T:List Value} {j:Nat} (h:∀ o d,ops[j]? =some o→o.dst=some d→V M (nth undef T d) (nth undef a.tmps.toList d)):yielded ops a.tmps j=vT ops T j:=by
  unfold yielded vT
  cases ho:ops[j]? with
  | none=>rfl
  | some o =>
    cases hd:o.dst with
    | none=>simp [hd]
    | some d =>
      have h:=h o d ho hd
      simp only [Option.bind_some,hd]
      rw [jL undef a.tmps.toList] at h
      cases ht:a.tmps[d]? with
      | none =>
        have hg:a.tmps.toList.getD d undef=undef:=by simp [List.getD,ht]
        rw [hg] at h
        cases hn:nth undef T d with
        | bool b=>rw [hn] at h; have:=ji.1 h; simp [undef] at this
        | _=>rfl
      | some y =>
        have hg:a.tmps.toList.getD d undef=y:=by simp [List.getD,ht]
        rw [hg] at h
        cases hn:nth undef T d with
        | bool b=>rw [hn] at h; rw [ji.1 h]
        | _ =>
          cases y with
          | bool b=>rw [Lg h] at hn; cases hn
          | _=>rfl
theorem VB {ops:Array Oper} {o:Oper} {a:Act} {T:List Value} (h:∀ d∈o.looksAt ops,V M (nth undef T d) (nth undef a.tmps.toList d)):Region.wanted o (yielded ops a.tmps)=dD ops T o:=by
  unfold Region.wanted dD
  cases hg:o.guard with
  | none=>rfl
  | some g =>
    obtain ⟨j,want⟩:=g
    simp only []
    rw [VA (T:=T) (M:=M)]
    intro o' d da hd
    exact h d (by simp [Oper.looksAt,hg,da,hd])
end Go.Proofs.YtphandknhnkhfaaGreat.Gh
