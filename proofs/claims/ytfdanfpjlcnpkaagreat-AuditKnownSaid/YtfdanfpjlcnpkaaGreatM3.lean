/- contracts of the program's functions -/
import Derived.Test.YtfdanfpjlcnpkaaGreatMX
namespace Go.Proofs.YtfdanfpjlcnpkaaGreat.Lift
open Go Go.Proofs.YtfdanfpjlcnpkaaGreat.Gh Go.Proofs
theorem an3 : isAns ((kX (among []) 200).ev.cl ansF (litV (nth ([], (.i64, 0)) ansL 3).1) GS.empty) (nth ([], (.i64, 0)) ansL 3).2 = true := by kernel_rfl
end Go.Proofs.YtfdanfpjlcnpkaaGreat.Lift

