import Derived.Test.YtedmgpchggogpaaGreatGhLW
import Derived.Test.YtedmgpchggogpaaGreatGhKO
namespace Go.Proofs.YtedmgpchggogpaaGreat.Gh
set_option linter.unusedVariables false
set_option linter.unusedSimpArgs false
open Go
noncomputable section
section
variable {P:Program} {orc:FuncId → Bool}
end
end
end Go.Proofs.YtedmgpchggogpaaGreat.Gh
