/- contracts of the program's functions -/
import Derived.Test.YtfdanfpjlcnpkaaGreatRAc
import Derived.Test.YtfdanfpjlcnpkaaGreatGhPL
set_option linter.unusedVariables false
namespace Go.Proofs.YtfdanfpjlcnpkaaGreat.Lift
open Go Go.Proofs.YtfdanfpjlcnpkaaGreat.Gh Go.Proofs
/-- what the tables lack the evaluator answers; what is reckoned outright where the oracle says so is spelled out where it does not -/
def hyb {β : Type} (x y : Option β) : Option β := match x with | some r => some r | none => y
theorem Ref.hyb {β : Type} {x y z : Option β} (h : Ref x z) (k : Ref y z) : Ref (Lift.hyb x y) z := fun r hr => by
  unfold Lift.hyb at hr
  cases x with
  | some a => exact h r hr
  | none => exact k r hr
noncomputable def spT (orc : FuncId → Bool) (e : Ex) (f : FuncId) (vs : List Value) (G : GS) : Option (Value × GS) := bif orc ansG then none else leaf f 9 (app2 (s9 true e) vs G)
theorem spT_ok {orc : FuncId → Bool} {e : Ex} (h : ExLe Q e (E orc)) (f : FuncId) (vs : List Value) (G : GS) : Ref (spT orc e f vs G) ((E orc).cl f vs G) := by
  unfold spT
  cases ho : orc ansG with
  | true => exact .nil _
  | false =>
    have hp : isPur Q orc 9 = false := by
      unfold isPur
      rw [ho]
      kernel_rfl
    exact cf (Ref.app2 (f9 h hp) vs G)
noncomputable def kX (orc : FuncId → Bool) (n : Nat) : Ex := Nat.rec (motive := fun _ => Ex) ⟨Ev.zero, fun _ _ _ _ => none⟩ (fun _ e => ⟨⟨(evO Q orc 0).ex, fun f vs G => hyb (clT orc e f vs G) (hyb (spT orc e f vs G) ((evO Q orc 2000).cl f vs G)), (evO Q orc 2000).rd, (evO Q orc 2000).sc, (evO Q orc 0).lp⟩, lpT 6000 e⟩) n
theorem kX_ok (orc : FuncId → Bool) : ∀ n, ExLe Q (kX orc n) (E orc)
  | 0 => ⟨zero_le _, fun _ _ _ _ => .nil _⟩
  | n + 1 => ⟨⟨(le_evL Q orc 0).ex, fun f vs G r hr => Ref.hyb (clT_ok (kX_ok orc n) f vs G) (Ref.hyb (spT_ok (kX_ok orc n) f vs G) ((le_evL Q orc 2000).cl f vs G)) r hr, (le_evL Q orc 2000).rd, (le_evL Q orc 2000).sc, (le_evL Q orc 0).lp⟩, lpT_ok (kX_ok orc n) 6000⟩
theorem closed_kX {orc : FuncId → Bool} (ho : OrcOk Q orc) (hmix : Q.follows .mixedOrders = true) {n f : Nat} (h : isTrue ((kX orc n).ev.cl f [] GS.empty) = true) (w : World) : Calls Q f #[] w fun e w' => e = .returned (.bool true) ∧ Go.RowKit.Below w.heap.size w w' :=
  let ⟨_, hG⟩ := isTrue_of ((kX_ok orc n).ev.cl f [] GS.empty) h
  law_plain hmix ho hG fun _ => trivial
def isAns (o : Option (Value × GS)) (r : IntKind × Int) : Bool := match o with | some (.int k v, _) => decide (k = r.1) && decide (v = r.2) | _ => false
theorem isAns_of {o o' : Option (Value × GS)} {r : IntKind × Int} (h : Ref o o') (k : isAns o r = true) : ∃ G', o' = some (.int r.1 r.2, G') := by
  unfold isAns at k
  split at k
  · rename_i a v G'
    simp only [Bool.and_eq_true, decide_eq_true_eq] at k
    rw [← k.1, ← k.2]
    exact ⟨G', h _ rfl⟩
  · cases k
theorem pNone : PurOk Q := purOk_none (by kernel_rfl) (by kernel_rfl)
theorem okNone : OrcOk Q (among []) := among_ok [] (fun f hf => by cases hf) pNone (fun h => by cases h)
theorem ans_kX {x : List (IntKind × Int) × (IntKind × Int)} {n : Nat} (h : isAns ((kX (among []) n).ev.cl ansF (litV x.1) GS.empty) x.2 = true) (w : World) : Calls Q ansF (litV x.1).toArray w fun e w' => e = .returned (.int x.2.1 x.2.2) ∧ Go.RowKit.Below w.heap.size w w' :=
  let ⟨_, hG⟩ := isAns_of ((kX_ok (among []) n).ev.cl ansF (litV x.1) GS.empty) h
  ans_evL (by kernel_rfl) okNone hG w
end Go.Proofs.YtfdanfpjlcnpkaaGreat.Lift

