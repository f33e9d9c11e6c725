import Derived.Test.YtphandknhnkhfaaGreatGhLW
import Derived.Test.YtphandknhnkhfaaGreatGhKO
namespace Go.Proofs.YtphandknhnkhfaaGreat.Gh
set_option linter.unusedVariables false
set_option linter.unusedSimpArgs false
open Go
noncomputable section
section
variable {P:Program} {ae:FuncId→Bool}
end
end
end Go.Proofs.YtphandknhnkhfaaGreat.Gh
