import Derived.Test.YtkhlabammcghbaaGreatGhLW
import Derived.Test.YtkhlabammcghbaaGreatGhKO
namespace Go.Proofs.YtkhlabammcghbaaGreat.Gh
set_option linter.unusedVariables false
set_option linter.unusedSimpArgs false
open Go
noncomputable section
section
variable {P:Program} {ae:FuncId→Bool}
end
end
end Go.Proofs.YtkhlabammcghbaaGreat.Gh
