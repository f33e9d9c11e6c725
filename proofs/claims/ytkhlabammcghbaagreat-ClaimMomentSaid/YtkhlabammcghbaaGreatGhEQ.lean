import Derived.Test.YtkhlabammcghbaaGreatGhPL
import Derived.Laws.StructEq
namespace Go.Proofs.YtkhlabammcghbaaGreat.Gh
open Go
set_option linter.unusedVariables false
set_option linter.unusedSimpArgs false
section
variable {P:Program}
theorem prun_bind {α β:Type} (s:Sem α) (k:α→Sem β):prun P (s >>= k)=match prun P s with | some a=>prun P (k a) | none=>none:=by
  show prun P (Sem.bind s k)=_
  induction s with
  | pure a=>rfl
  | program f ih=>exact ih P
  | mark m f ih=>exact ih
  | _=>rfl
@[simp] theorem prun_pure {α:Type} (a:α):prun P (Pure.pure a:Sem α)=some a:=rfl
theorem aaR {α:Type} (c:Prop) [Decidable c] (a b:Sem α):prun P (if c then a else b)=if c then prun P a else prun P b:=by split<;>rfl
theorem aaS (d:Nat) (xs ys:Array Value):∀ (fs:List Field),
    prun P ((forIn fs ((none,()):Option Bool×Unit) fun f _=>do
      if f.name ≠ "_" then
        if (!(← Op.equalIn d f.type (← part f.type xs f.offset) (← part f.type ys f.offset)))=true then Pure.pure (ForInStep.done (some false,())) else Pure.pure (ForInStep.yield (none,()))
      else Pure.pure (ForInStep.yield (none,()))) >>= fun r=>match r.1 with | some a=>Pure.pure a | none=>Pure.pure true)=prun P (Op.eqFields d xs ys fs):=by
  intro fs
  induction fs with
  | nil=>rfl
  | cons f fs ih =>
    by_cases hn:f.name ≠ "_"
    · simp only [List.forIn_cons,Op.eqFields,if_pos hn,prun_bind] at ih ⊢
      cases prun P (part f.type xs f.offset) with
      | none=>rfl
      | some a =>
        simp only
        cases prun P (part f.type ys f.offset) with
        | none=>rfl
        | some b =>
          simp only
          cases prun P (Op.equalIn d f.type a b) with
          | none=>rfl
          | some r =>
            cases r
            · rfl
            · simpa using ih
    · simp only [List.forIn_cons,Op.eqFields,if_neg hn,prun_bind] at ih ⊢
      simpa using ih
theorem aaT {t:TypeId} {d:TypeDesc} (h:P.underlying t=some d):prun P (underlying t)=some d:=by
  simp only [underlying,prun_bind]
  show (match (some P:Option Program) with | some a=>_ | none=>none)=_
  simp only [h]
  rfl
theorem aaU (d:Nat) (t:TypeId) (xs ys:Array Value) (ht:P.underlying t=some (.struct (P.fieldsOf t))) (hp:P.stoodInHeld t=false) :
    prun P (Op.equalIn (d+1) t (.agg xs) (.agg ys))=prun P (Op.eqFields d xs ys (P.fieldsOf t).toList):=by
  rw [← aaS]
  simp only [Op.equalIn,prun_bind,aaT ht]
  show prun P (if P.stoodInHeld t=true then _ else _)=_
  rw [hp,if_neg (by simp),← Array.forIn_toList]
  rw [prun_bind]
  congr 1
  funext z
  obtain ⟨a,b⟩:=z
  cases a<;>rfl
def xx (P:Program) (d:Nat) (xs ys:Array Value):List (TypeId×Nat)→Option Bool
  | []=>some true
  | (t,o)::r=>match prun P (part t xs o) with
    | some a=>match prun P (part t ys o) with
      | some b=>match prun P (Op.equalIn d t a b) with
        | some true=>xx P d xs ys r
        | some false=>some false
        | none=>none
      | none=>none
    | none=>none
theorem aaV (d:Nat) (xs ys:Array Value):∀ (fs:List Field),fs.all (fun f=>f.name != "_")=true→prun P (Op.eqFields d xs ys fs)=xx P d xs ys (fs.map fun f=>(f.type,f.offset)):=by
  intro fs
  induction fs with
  | nil=>intro _; rfl
  | cons f fs ih =>
    intro h
    simp only [List.all_cons,Bool.and_eq_true,bne_iff_ne] at h
    simp only [Op.eqFields,if_pos h.1,prun_bind,List.map_cons,xx,aaR]
    cases prun P (part f.type xs f.offset) with
    | none=>rfl
    | some a =>
      simp only
      cases prun P (part f.type ys f.offset) with
      | none=>rfl
      | some b =>
        simp only
        cases prun P (Op.equalIn d f.type a b) with
        | none=>rfl
        | some r =>
          cases r
          · rfl
          · simpa using ih h.2
theorem RI {d:Nat} {xs ys:Array Value} {t:TypeId} {o:Nat} {r:List (TypeId×Nat)} {a b:Value} {q q':Bool} (ha:prun P (part t xs o)=some a) (hb:prun P (part t ys o)=some b) (he:prun P (Op.equalIn d t a b)=some q) (hr:xx P d xs ys r=some q'):xx P d xs ys ((t,o)::r)=some (q&&q'):=by
  simp only [xx,ha,hb,he,hr]
  cases q<;>rfl
theorem eqS {d:Nat} {t:TypeId} {xs ys:Array Value} {L:List (TypeId×Nat)} {q:Bool} (ht:(match P.underlying t with | some (.struct fs)=>some (fs.toList.map (fun f=>(f.type,f.offset)),fs.toList.all (fun f=>f.name != "_")) | _=>none)=some (L,true)) (hp:P.stoodInHeld t=false) (h:xx P d xs ys L=some q) :
    prun P (Op.equalIn (d+1) t (.agg xs) (.agg ys))=some q:=by
  split at ht
  · rename_i fs hu
    have hf:P.fieldsOf t=fs:=by simp [Program.fieldsOf,hu]
    simp only [Option.some.injEq,Prod.mk.injEq] at ht
    rw [aaU d t xs ys (by rw [hf]; exact hu) hp,hf,aaV d xs ys _ ht.2,ht.1,h]
  · cases ht
theorem aaW {op:BinOp} {t:TypeId} {x y:Operand} {xs ys:Array Value} {q:Bool} (hx:plain (.agg xs)=true) (hy:plain (.agg ys)=true) (hm:P.eqGuardType P.depth t=false) (h:prun P (Op.equalIn 10000 t (.agg xs) (.agg ys))=some q) :
    wh P .eql t x y (.agg xs) (.agg ys)=some (.bool q)∧wh P .neq t x y (.agg xs) (.agg ys)=some (.bool !q):=by
  have hg:∀ op,prun P (eqGuard op t x y (.agg xs) (.agg ys))=some ():=by
    intro op
    cases op<;>first | rfl | (show prun P (if (!P.eqGuardType P.depth t)=true then _ else _)=_; rw [hm]; rfl)
  have h':prun P (Op.equal t (.agg xs) (.agg ys))=some q:=h
  constructor
  · show uJ P _ t x y _ _=_
    simp only [uJ,hx,hy,Bool.and_self,if_true,kR,prun_bind,hg,binOp,h',prun_pure]
    rfl
  · show uJ P _ t x y _ _=_
    simp only [uJ,hx,hy,Bool.and_self,if_true,kR,prun_bind,hg,binOp,h',prun_pure]
    rfl
theorem aaX {op:BinOp} {t:TypeId} {x y:Operand} {xs ys:List Value} {q:Bool} (hx:plain (.agg ⟨xs⟩)=true) (hy:plain (.agg ⟨ys⟩)=true) (hm:P.eqGuardType P.depth t=false) (h:prun P (Op.equalIn 10000 t (.agg ⟨xs⟩) (.agg ⟨ys⟩))=some q) :
    bB P .eql t x y (.agg ⟨xs⟩) (.agg ⟨ys⟩)=some (.bool q):=by
  rw [Xq]; exact (aaW (op:=op) hx hy hm h).1
end
end Go.Proofs.YtkhlabammcghbaaGreat.Gh
