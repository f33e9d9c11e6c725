import Derived.Test.YtkhlabammcghbaaGreatGhS
namespace Go.Proofs.YtkhlabammcghbaaGreat.Gh
open Go
variable {P:Program} {M:Map} {B:Nat} {E:Ev}
def pj (op:Op) (T T':List Value):Prop:=∀ x∈op.operands,ev T x=ev T' x
theorem NZ {ps:Array (Nat×Operand)} {T T':List Value} (h:∀ x∈(ps.toList.map (·.2)).toArray,ev T x=ev T' x) :
    (ps.toList.map fun p=>(p.1,ev T p.2))=(ps.toList.map fun p=>(p.1,ev T' p.2)) :=
  List.map_congr_left fun p hp=>by rw [h p.2 (by simp only [List.mem_toArray,List.mem_map]; exact ⟨p,hp,rfl⟩)]
theorem HT {c:Call} {T T':List Value} (h:∀ x∈c.operands,ev T x=ev T' x):∀ x∈c.args,ev T x=ev T' x :=
  fun x hx=>h x (by simp [Call.operands,hx])
theorem WD {op:Op} {T T':List Value} (h:pj op T T'):nO P T op=nO P T' op:=by
  unfold pj at h
  cases op<;>simp only [Op.operands] at h<;>simp only [nO]
  case build t ps=>rw [NZ h]
  case makeFunc f first captured =>
    have h1:first.map (ev T)=first.map (ev T'):=Array.map_congr_left fun x hx=>h x (by simp [hx])
    have h2:captured.map (ev T)=captured.map (ev T'):=Array.map_congr_left fun x hx=>h x (by simp [hx])
    cases f<;>simp only [h1,h2]
  case call c =>
    have ha:=HT h
    obtain ⟨callee,args,argTypes⟩:=c
    have h1:args.map (ev T)=args.map (ev T'):=Array.map_congr_left ha
    have h2:args.toList.map (ev T)=args.toList.map (ev T'):=List.map_congr_left fun x hx=>ha x (by simpa using hx)
    cases callee with
    | value f=>rfl
    | invoke r m=>rfl
    | builtin b =>
      cases b<;>simp only [h1,h2]
      split
      · rename_i x _ hl
        rw [ha x (by have : x ∈ args.toList := by rw [hl]; simp
                     simpa using this)]
      · rfl
  all_goals (first | rfl | (simp_all; done))
theorem WE {op:Op} {T T':List Value} (h:pj op T T') (G:GS):fD P T op G=fD P T' op G:=by
  unfold pj at h
  cases op<;>simp only [Op.operands] at h<;>simp only [fD]
  case slice t x lo hi mx=>cases lo<;>cases hi<;>cases mx<;>simp_all
  all_goals (first | rfl | (simp_all; done))
theorem N0 {op:Op} {T T':List Value} (h:pj op T T') (G:GS):lQ P T op G=lQ P T' op G:=by
  unfold pj at h
  cases op<;>simp only [Op.operands] at h<;>simp only [lQ]
  case buildSlice t n ps=>rw [NZ h]
  all_goals (first | rfl | (simp_all; done))
theorem WG {op:Op} {T T':List Value} (h:pj op T T') (G:GS):rI P T op G=rI P T' op G:=by
  unfold pj at h
  cases op<;>simp only [Op.operands] at h<;>simp only [rI]
  case call c =>
    have ha:=HT h
    obtain ⟨callee,args,argTypes⟩:=c
    split
    · rename_i ts tx s x _ _ _ hl
      have hl:args.toList=[s,x]:=hl
      rw [ha s (by have : s ∈ args.toList := by rw [hl]; simp
                   simpa using this), ha x (by have : x ∈ args.toList := by rw [hl]; simp
                                               simpa using this)]
    · rename_i ts tx s x _ _ hl
      have hl:args.toList=[s,x]:=hl
      rw [ha s (by have : s ∈ args.toList := by rw [hl]; simp
                   simpa using this), ha x (by have : x ∈ args.toList := by rw [hl]; simp
                                               simpa using this)]
    · rfl
  case makeMap t r=>cases r<;>rfl
  all_goals (first | rfl | (simp_all; done))
theorem WH {op:Op} {T T':List Value} (h:pj op T T') (G:GS):rJ P E T op G=rJ P E T' op G:=by
  unfold pj at h
  cases op<;>simp only [Op.operands] at h<;>simp only [rJ]
  case call c =>
    have ha:=HT h
    obtain ⟨callee,args,argTypes⟩:=c
    have h2:args.toList.map (ev T)=args.toList.map (ev T'):=List.map_congr_left fun x hx=>ha x (by simpa using hx)
    cases callee with
    | value f =>
      have hf:ev T f=ev T' f:=h f (by simp [Call.operands])
      simp only [hf,h2]
    | invoke r m =>
      have hf:ev T r=ev T' r:=h r (by simp [Call.operands])
      simp only [hf,h2]
    | builtin b=>rfl
theorem WI {op:Op} {T T':List Value} (h:pj op T T') (G:GS):iV P E T G op=iV P E T' G op:=by
  unfold iV
  rw [WD h,WE h,N0 h,WG h,WH h]
theorem WJ {op:Op} {T:List Value} {G:GS} {r:Value×GS} (h:iV P E T G op=some r):∀ cs b,op≠ .select cs b:=by
  rintro cs b rfl
  simp [iV,cls,nO,dL] at h
def tw (G G':GS):Prop:=∀ g o,G.obj g=some o→G'.obj g=some o
theorem tw.fC {G G':GS} (h:tw G G') {g off n:Nat} {l:List Value} (hr:fC G g off n=some l):fC G' g off n=some l:=by
  unfold Gh.fC at hr ⊢
  split at hr
  · rename_i o ho; rw [h _ _ ho]; exact hr
  · simp at hr
theorem tw.load {G G':GS} (h:tw G G') {t:TypeId} {v r:Value} (hr:rH P t v G=some r):rH P t v G' =some r:=by
  unfold rH at hr ⊢
  split at hr
  · split at hr
    · rename_i sY
      split at hr
      · rename_i s hs
        split at hr
        · rename_i l hl; rw [h.fC hl]; exact hr
        · simp at hr
      · simp at hr
    · rename_i sY
      split at hr
      · rename_i l hl; rw [h.fC hl]; exact hr
      · simp at hr
    · simp at hr
  · simp at hr
theorem tw.slice {G G':GS} (h:tw G G') {t:TypeId} {x r:Value} {lo hi mx:Option Value} (hr:iT P t x lo hi mx G=some r):iT P t x lo hi mx G' =some r:=by
  unfold iT at hr ⊢
  split at hr
  · exact hr
  · split at hr
    · rename_i s o hs ho
      simp only [hs,h _ _ ho]; exact hr
    · simp at hr
  · exact hr
  · simp at hr
theorem tw.read {G G':GS} (h:tw G G') {T:List Value} {op:Op} {v:Value} (hr:fD P T op G=some v):fD P T op G' =some v:=by
  unfold fD at hr ⊢
  split at hr
  · exact h.load hr
  · exact h.slice hr
  · simp at hr
def vd (L:List Nat):Nat→List Value→List Value
  | _,[]=>[]
  | k,x::xs=>(if L.contains k then x else undef)::vd L (k+1) xs
theorem N2 (L:List Nat):∀ (l:List Value) (k d:Nat),nth undef (vd L k l) d=if L.contains (k+d) then nth undef l d else undef
  | [],k,d=>by simp [vd,ym]
  | x::xs,k,0=>by simp [vd,sP]
  | x::xs,k,d+1=>by
    simp only [vd,sQ]
    rw [N2 L xs (k+1) d,show k+1+d=k+(d+1) by omega]
theorem N3 (L:List Nat):∀ (l:List Value) (k:Nat),(vd L k l).length=l.length
  | [],_=>rfl
  | _::xs,k=>by simp [vd,N3 L xs]
def qE (L:List Nat) (T:List Value):List Value:=vd L 0 T
theorem DU (L:List Nat) (l:List Value) (d:Nat):nth undef (qE L l) d=if L.contains d then nth undef l d else undef:=by
  rw [qE,N2]; simp
def DV (L:List Nat) (a:Act):Act:={ a with tmps:=⟨qE L a.tmps.toList⟩ }
theorem N5 (a:Act) (t:Nat):a.eval (.tmp t)=nth undef a.tmps.toList t:=by
  rw [ju]; simp [Act.eval]
theorem N7 {l l':List Value} (hl:l.length=l'.length) (h:∀ d,V M (nth undef l d) (nth undef l' d)):Vs M l l':=by
  refine iH.2 ⟨hl,fun i x hx=>?_⟩
  have aT:i<l'.length:=by rw [← hl]; exact (List.getElem?_eq_some_iff.1 hx).1
  refine ⟨l'[i],by simp [aT],?_⟩
  have:=h i
  rw [ju,ju] at this
  simpa [List.getD,hx,aT] using this
theorem WK {L:List Nat} {T:List Value} {a:Act} (hl:T.length=a.tmps.size) (h:∀ d∈L,V M (nth undef T d) (nth undef a.tmps.toList d)):Vs M (qE L T) (DV L a).tmps.toList:=by
  refine N7 (by simp [DV,qE,N3,hl]) fun d=>?_
  show V M _ (nth undef (qE L a.tmps.toList) d)
  rw [DU,DU]
  by_cases hd:L.contains d=true
  · rw [if_pos hd,if_pos hd]; exact h d (by simpa using hd)
  · rw [if_neg hd,if_neg hd]; exact sW
theorem N8 {ops:Array Oper} {o:Oper} {T:List Value}:pj o.op (qE (o.looksAt ops) T) T:=by
  intro x hx
  cases x with
  | tmp t =>
    simp only [ev]
    rw [DU,if_pos]
    simp only [List.contains_iff_mem]
    exact List.mem_append_left _ (List.mem_filterMap.2 ⟨.tmp t,by simpa using hx,rfl⟩)
  | _=>rfl
theorem N9 {ops:Array Oper} {o:Oper} (hs:∀ cs b,o.op≠ .select cs b) {a:Act}:execOp a.eval o=execOp (DV (o.looksAt ops) a).eval o:=by
  refine execOp_congr o hs fun x hx=>?_
  cases x with
  | tmp t =>
    rw [N5,N5]
    show _=nth undef (qE _ a.tmps.toList) t
    rw [DU,if_pos]
    simp only [List.contains_iff_mem]
    exact List.mem_append_left _ (List.mem_filterMap.2 ⟨.tmp t,by simpa using hx,rfl⟩)
  | _=>rfl
theorem WL {ops:Array Oper} {a:Act} {T:List Value} {j:Nat} (h:∀ o d,ops[j]? =some o→o.dst=some d→V M (nth undef T d) (nth undef a.tmps.toList d)):yielded ops a.tmps j=wk ops T j:=by
  unfold yielded wk
  cases ho:ops[j]? with
  | none=>rfl
  | some o =>
    cases hd:o.dst with
    | none=>simp [hd]
    | some d =>
      have h:=h o d ho hd
      simp only [Option.bind_some,hd]
      rw [ju undef a.tmps.toList] at h
      cases ht:a.tmps[d]? with
      | none =>
        have hg:a.tmps.toList.getD d undef=undef:=by simp [List.getD,ht]
        rw [hg] at h
        cases hn:nth undef T d with
        | bool b=>rw [hn] at h; have:=iX.1 h; simp [undef] at this
        | _=>rfl
      | some y =>
        have hg:a.tmps.toList.getD d undef=y:=by simp [List.getD,ht]
        rw [hg] at h
        cases hn:nth undef T d with
        | bool b=>rw [hn] at h; rw [iX.1 h]
        | _ =>
          cases y with
          | bool b=>rw [MK h] at hn; cases hn
          | _=>rfl
theorem WM {ops:Array Oper} {o:Oper} {a:Act} {T:List Value} (h:∀ d∈o.looksAt ops,V M (nth undef T d) (nth undef a.tmps.toList d)):Region.wanted o (yielded ops a.tmps)=dx ops T o:=by
  unfold Region.wanted dx
  cases hg:o.guard with
  | none=>rfl
  | some g =>
    obtain ⟨j,want⟩:=g
    simp only []
    rw [WL (T:=T) (M:=M)]
    intro o' d cW hd
    exact h d (by simp [Oper.looksAt,hg,cW,hd])
end Go.Proofs.YtkhlabammcghbaaGreat.Gh
