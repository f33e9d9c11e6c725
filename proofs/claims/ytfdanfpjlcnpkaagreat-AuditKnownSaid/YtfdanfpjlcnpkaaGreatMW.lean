/- contracts of the program's functions -/
import Derived.Test.YtfdanfpjlcnpkaaGreatMX
namespace Go.Proofs.YtfdanfpjlcnpkaaGreat.Lift
open Go Go.Proofs.YtfdanfpjlcnpkaaGreat.Gh Go.Proofs
theorem trueAw : isTrue ((kX (among []) 200).ev.cl 17 [] GS.empty) = true := by kernel_rfl
end Go.Proofs.YtfdanfpjlcnpkaaGreat.Lift

