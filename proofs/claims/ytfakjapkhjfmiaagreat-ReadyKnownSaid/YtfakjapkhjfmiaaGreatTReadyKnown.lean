/- closed functions that the tables find true -/
import Derived.Test.YtfakjapkhjfmiaaGreatKReadyKnownc
namespace Go.Proofs.YtfakjapkhjfmiaaGreat.Lift
open Go Go.Proofs.YtfakjapkhjfmiaaGreat.Gh Go.Proofs
set_option linter.unusedVariables false
set_option maxRecDepth 100000
theorem okNone : OrcOk Q (among []) := among_ok _ (fun f hf => by simp at hf) (purOk_none (by kernel_rfl))
theorem true13 : isTrue ((kE (among []) 60).ev.cl 13 [] GS.empty) = true := by kernel_rfl
theorem true15 : isTrue ((kE (among []) 60).ev.cl 15 [] GS.empty) = true := by kernel_rfl
theorem true16 : isTrue ((kE (among []) 60).ev.cl 16 [] GS.empty) = true := by kernel_rfl
theorem okOrc : OrcOk Q (among [13, 15, 16]) := among_ok _ (hp := purOk_none (by kernel_rfl)) fun f hf => by
  simp only [List.mem_cons, List.not_mem_nil, or_false] at hf
  rcases hf with rfl | rfl | rfl
  · exact ⟨⟨_, Tryz.func13, by kernel_rfl, by kernel_rfl⟩, fun w _ => closed_kE okNone (by kernel_rfl) true13 w⟩
  · exact ⟨⟨_, Tryz.func15, by kernel_rfl, by kernel_rfl⟩, fun w _ => closed_kE okNone (by kernel_rfl) true15 w⟩
  · exact ⟨⟨_, Tryz.func16, by kernel_rfl, by kernel_rfl⟩, fun w _ => closed_kE okNone (by kernel_rfl) true16 w⟩
theorem true3 : isTrue ((kE (among [13, 15, 16]) 60).ev.cl 3 [] GS.empty) = true := by kernel_rfl
end Go.Proofs.YtfakjapkhjfmiaaGreat.Lift
