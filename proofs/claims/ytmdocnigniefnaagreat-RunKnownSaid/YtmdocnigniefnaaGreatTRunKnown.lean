/- closed functions that the tables find true -/
import Derived.Test.YtmdocnigniefnaaGreatKRunKnownc
namespace Go.Proofs.YtmdocnigniefnaaGreat.Lift
open Go Go.Proofs.YtmdocnigniefnaaGreat.Gh Go.Proofs
set_option linter.unusedVariables false
set_option maxRecDepth 100000
theorem okNone : OrcOk Q (among []) := among_ok _ (fun f hf => by simp at hf) (purOk_none (by kernel_rfl))
theorem true43 : isTrue ((kE (among []) 60).ev.cl 43 [] GS.empty) = true := by kernel_rfl
theorem okOrc : OrcOk Q (among [43]) := among_ok _ (hp := purOk_none (by kernel_rfl)) fun f hf => by
  simp only [List.mem_cons, List.not_mem_nil, or_false] at hf
  rcases hf with rfl
  · exact ⟨⟨_, Tryz.func43, by kernel_rfl, by kernel_rfl⟩, fun w _ => closed_kE okNone (by kernel_rfl) true43 w⟩
theorem true5 : isTrue ((kE (among [43]) 60).ev.cl 5 [] GS.empty) = true := by kernel_rfl
end Go.Proofs.YtmdocnigniefnaaGreat.Lift
