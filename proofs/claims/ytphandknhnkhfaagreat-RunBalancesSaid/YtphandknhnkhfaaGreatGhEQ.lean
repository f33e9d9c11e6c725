import Derived.Test.YtphandknhnkhfaaGreatGhPL
import Derived.Laws.StructEq
namespace Go.Proofs.YtphandknhnkhfaaGreat.Gh
open Go
set_option linter.unusedVariables false
set_option linter.unusedSimpArgs false
section
variable {P:Program}
@[simp] theorem prun_pure {α:Type} (a:α):prun P (Pure.pure a:Sem α)=some a:=rfl
end
end Go.Proofs.YtphandknhnkhfaaGreat.Gh
