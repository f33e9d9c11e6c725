/- contracts of the program's functions -/
import Derived.Test.YtfdanfpjlcnpkaaGreatMX
namespace Go.Proofs.YtfdanfpjlcnpkaaGreat.Lift
open Go Go.Proofs.YtfdanfpjlcnpkaaGreat.Gh Go.Proofs
theorem trueAK : isTrue ((kX (among [17]) 200).ev.cl 3 [] GS.empty) = true := by kernel_rfl
end Go.Proofs.YtfdanfpjlcnpkaaGreat.Lift

