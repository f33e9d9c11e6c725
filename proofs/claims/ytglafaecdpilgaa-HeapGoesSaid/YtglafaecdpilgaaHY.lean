import Derived.Test.YtglafaecdpilgaaHX
import Derived.Test.YtglafaecdpilgaaH11
import Derived.Test.YtglafaecdpilgaaH12
set_option linter.unusedVariables false
set_option linter.unusedSimpArgs false
set_option maxRecDepth 20000
namespace Go.Proofs.Ytglafaecdpilgaa.Lift
open Go Go.Proofs.Ytglafaecdpilgaa.Gh Go.Proofs
theorem known6 : closedTrueF Q 5000 6 = true := by kernel_rfl
theorem ok6 : OrcOk Q (among [6]) := among_ok _ fun f hf => by
  simp only [List.mem_singleton] at hf
  subst hf
  exact orc_one (by kernel_rfl) Try.func6 (by kernel_rfl) (by kernel_rfl) known6
end Go.Proofs.Ytglafaecdpilgaa.Lift
