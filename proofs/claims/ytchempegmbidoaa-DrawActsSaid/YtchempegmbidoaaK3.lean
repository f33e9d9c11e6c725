/- the closed functions of the laws on draws: true -/
import Derived.Test.YtchempegmbidoaaL
import Derived.Test.YtchempegmbidoaaGhPL
namespace Go.Proofs.Ytchempegmbidoaa.Lift
open Go Go.Proofs.Ytchempegmbidoaa.Gh Go.Proofs
theorem known6 : closedTrueF Try.prog 1000 6 = true := by kernel_rfl
theorem ok6 : OrcOk Try.prog (among [6]) := among_ok _ fun f hf => by
  simp only [List.mem_singleton] at hf
  subst hf
  exact orc_one (by kernel_rfl) Try.func6 (by kernel_rfl) (by kernel_rfl) known6
theorem known14 : closedTrueF Try.prog 1000 14 = true := by kernel_rfl
theorem ok14 : OrcOk Try.prog (among [14]) := among_ok _ fun f hf => by
  simp only [List.mem_singleton] at hf
  subst hf
  exact orc_one (by kernel_rfl) Try.func14 (by kernel_rfl) (by kernel_rfl) known14
end Go.Proofs.Ytchempegmbidoaa.Lift
