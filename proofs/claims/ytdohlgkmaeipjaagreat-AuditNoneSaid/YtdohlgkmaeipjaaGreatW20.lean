/- awake, by the tables -/
import Derived.Test.YtdohlgkmaeipjaaGreatW20b
namespace Go.Proofs.YtdohlgkmaeipjaaGreat.LiftK
open Go Go.Proofs.YtdohlgkmaeipjaaGreat.Gh Go.Proofs
set_option linter.unusedVariables false
set_option maxRecDepth 100000
theorem okNone : OrcOk Q (among []) := among_ok _ (fun f hf => by simp at hf) (purOk_none (by kernel_rfl) (by kernel_rfl))
theorem trueAw : isTrue ((kE (among []) 60).ev.cl 27 [] GS.empty) = true := by kernel_rfl
theorem okAw : OrcOk Q (among [27]) := among_ok _ (hp := purOk_none (by kernel_rfl) (by kernel_rfl)) fun f hf => by
  simp only [List.mem_cons, List.not_mem_nil, or_false] at hf
  subst hf
  exact ⟨⟨_, Tryz.func27, by kernel_rfl, by kernel_rfl⟩, fun w _ => closed_kE okNone (by kernel_rfl) trueAw w⟩
end Go.Proofs.YtdohlgkmaeipjaaGreat.LiftK
