/- contracts of the program's functions -/
import Derived.Test.YtfdanfpjlcnpkaaGreatMX
namespace Go.Proofs.YtfdanfpjlcnpkaaGreat.Lift
open Go Go.Proofs.YtfdanfpjlcnpkaaGreat.Gh Go.Proofs
theorem an2 : isAns ((kX (among []) 200).ev.cl ansF (litV (nth ([], (.i64, 0)) ansL 2).1) GS.empty) (nth ([], (.i64, 0)) ansL 2).2 = true := by kernel_rfl
end Go.Proofs.YtfdanfpjlcnpkaaGreat.Lift

