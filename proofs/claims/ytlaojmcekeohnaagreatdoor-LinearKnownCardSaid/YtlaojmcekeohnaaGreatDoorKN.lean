/- contracts of the program's functions -/
import Derived.Test.YtlaojmcekeohnaaGreatDoorRKb
import Derived.Test.YtlaojmcekeohnaaGreatDoorTA
set_option linter.unusedVariables false
set_option maxRecDepth 100000
namespace Go.Proofs.YtlaojmcekeohnaaGreatDoor.Lift
open Go Go.Proofs.YtlaojmcekeohnaaGreatDoor.Gh Go.Proofs
/-! ### Closed functions that the tables find true, where the tables are laid -/
theorem okNone : OrcOk Q (among []) := among_ok _ (fun f hf => by simp at hf) purOk
theorem trueKn : isTrue ((kE (among []) 60).ev.cl 3 [] GS.tab) = true := by kernel_rfl
theorem tab_kE {n f : Nat} (h : isTrue ((kE (among []) n).ev.cl f [] GS.tab) = true) {w : World} (hT : TabAt w) : Calls Q f #[] w fun e w' => e = .returned (.bool true) ∧ Go.RowKit.Below w.heap.size w w' :=
  let ⟨_, hG⟩ := isTrue_of ((kE_ok (among []) n).ev.cl f [] GS.tab) h
  law_tab (by kernel_rfl) okNone hG hT fun _ => trivial
end Go.Proofs.YtlaojmcekeohnaaGreatDoor.Lift

