/- the closed functions of the laws on queues: true -/
import Derived.Test.YtchempegmbidoaaL
import Derived.Test.YtchempegmbidoaaGhPL
set_option maxRecDepth 20000
namespace Go.Proofs.Ytchempegmbidoaa.Lift
open Go Go.Proofs.Ytchempegmbidoaa.Gh Go.Proofs
theorem known33 : closedTrueF Try.prog 5000 33 = true := by kernel_rfl
theorem ok33 : OrcOk Try.prog (among [33]) := among_ok _ fun f hf => by
  simp only [List.mem_singleton] at hf
  subst hf
  exact orc_one (by kernel_rfl) Try.func33 (by kernel_rfl) (by kernel_rfl) known33
theorem known11 : closedTrueF Try.prog 5000 11 = true := by kernel_rfl
theorem ok11 : OrcOk Try.prog (among [11]) := among_ok _ fun f hf => by
  simp only [List.mem_singleton] at hf
  subst hf
  exact orc_one (by kernel_rfl) Try.func11 (by kernel_rfl) (by kernel_rfl) known11
end Go.Proofs.Ytchempegmbidoaa.Lift
