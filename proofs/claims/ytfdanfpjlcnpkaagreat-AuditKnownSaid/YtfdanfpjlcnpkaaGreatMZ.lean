/- contracts of the program's functions -/
import Derived.Test.YtfdanfpjlcnpkaaGreatM0
import Derived.Test.YtfdanfpjlcnpkaaGreatM1
import Derived.Test.YtfdanfpjlcnpkaaGreatM2
import Derived.Test.YtfdanfpjlcnpkaaGreatM3
import Derived.Test.YtfdanfpjlcnpkaaGreatMW
import Derived.Test.YtfdanfpjlcnpkaaGreatMK
set_option linter.unusedVariables false
namespace Go.Proofs.YtfdanfpjlcnpkaaGreat.Lift
open Go Go.Proofs.YtfdanfpjlcnpkaaGreat.Gh Go.Proofs
theorem ansOk : AnsOk Q := fun fn hf => by
  have h9 : Q.funcs[ansF]? = some Tryz.f9 := Tryz.func9
  rw [h9] at hf
  cases hf
  refine ⟨by kernel_rfl, by kernel_rfl, fun x hx w => ?_⟩
  simp only [ansL, List.mem_cons, List.not_mem_nil, or_false] at hx
  rcases hx with rfl | rfl | rfl | rfl
  · exact ans_kX an0 w
  · exact ans_kX an1 w
  · exact ans_kX an2 w
  · exact ans_kX an3 w
theorem okAw : OrcOk Q (among [17]) := among_ok _ (hp := pNone) (ha := fun _ => ansOk) fun f hf => by
  simp only [List.mem_cons, List.not_mem_nil, or_false] at hf
  subst hf
  exact ⟨⟨_, Tryz.func17, by kernel_rfl, by kernel_rfl⟩, fun w _ => closed_kX okNone (by kernel_rfl) trueAw w⟩
theorem closedAK (w : World) : Calls Q 3 #[] w fun e w' => e = .returned (.bool true) ∧ Go.RowKit.Below w.heap.size w w' := closed_kX okAw (by kernel_rfl) trueAK w
end Go.Proofs.YtfdanfpjlcnpkaaGreat.Lift

