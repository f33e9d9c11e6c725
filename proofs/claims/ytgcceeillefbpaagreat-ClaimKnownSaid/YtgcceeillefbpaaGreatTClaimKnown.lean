/- closed functions that the tables find true -/
import Derived.Test.YtgcceeillefbpaaGreatKClaimKnownb
namespace Go.Proofs.YtgcceeillefbpaaGreat.Lift
open Go Go.Proofs.YtgcceeillefbpaaGreat.Gh Go.Proofs
set_option linter.unusedVariables false
set_option maxRecDepth 100000
theorem okNone : OrcOk Q (among []) := among_ok _ fun f hf => by simp at hf
theorem true33 : isTrue ((kE (among []) 60).ev.cl 33 [] GS.empty) = true := by kernel_rfl
theorem okOrc : OrcOk Q (among [33]) := among_ok _ fun f hf => by
  simp only [List.mem_cons, List.not_mem_nil, or_false] at hf
  rcases hf with rfl
  · exact ⟨⟨_, Tryz.func33, by kernel_rfl, by kernel_rfl⟩, closed_kE okNone (by kernel_rfl) true33⟩
theorem true4 : isTrue ((kE (among [33]) 60).ev.cl 4 [] GS.empty) = true := by kernel_rfl
end Go.Proofs.YtgcceeillefbpaaGreat.Lift
