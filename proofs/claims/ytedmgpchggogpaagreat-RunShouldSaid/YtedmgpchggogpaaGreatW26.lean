/- awake, by the tables -/
import Derived.Test.YtedmgpchggogpaaGreatW26b
import Derived.Test.YtedmgpchggogpaaGreatJD
namespace Go.Proofs.YtedmgpchggogpaaGreat.LiftK
open Go Go.Proofs.YtedmgpchggogpaaGreat.Gh Go.Proofs
set_option linter.unusedVariables false
set_option maxRecDepth 100000
theorem okNone : OrcOk Q (among []) := among_ok _ (fun f hf => by simp at hf) (⟨purOk1_none (by kernel_rfl), Lift.sortOk⟩)
theorem trueAw : isTrue ((kE (among []) 60).ev.cl 7 [] GS.empty) = true := by kernel_rfl
theorem okAw : OrcOk Q (among [7]) := among_ok _ (hp := ⟨purOk1_none (by kernel_rfl), Lift.sortOk⟩) fun f hf => by
  simp only [List.mem_cons, List.not_mem_nil, or_false] at hf
  subst hf
  exact ⟨⟨_, Tryz.func7, by kernel_rfl, by kernel_rfl⟩, fun w _ => closed_kE okNone (by kernel_rfl) trueAw w⟩
theorem trueAw1 : isTrue ((kE (among [7]) 60).ev.cl 15 [] GS.empty) = true := by kernel_rfl
theorem okAw1 : OrcOk Q (among [15]) := among_ok _ (hp := ⟨purOk1_none (by kernel_rfl), Lift.sortOk⟩) fun f hf => by
  simp only [List.mem_cons, List.not_mem_nil, or_false] at hf
  subst hf
  exact ⟨⟨_, Tryz.func15, by kernel_rfl, by kernel_rfl⟩, fun w _ => closed_kE okAw (by kernel_rfl) trueAw1 w⟩
end Go.Proofs.YtedmgpchggogpaaGreat.LiftK
