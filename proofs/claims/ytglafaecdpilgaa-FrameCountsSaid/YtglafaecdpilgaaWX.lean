import Derived.Test.YtglafaecdpilgaaW10
import Derived.Test.YtglafaecdpilgaaGhLS
set_option linter.unusedVariables false
set_option linter.unusedSimpArgs false
set_option maxRecDepth 20000
namespace Go.Proofs.Ytglafaecdpilgaa.Lift
open Go Go.Proofs.Ytglafaecdpilgaa.Gh Go.Proofs
theorem okNone : OrcOk Q (among []) := among_ok _ fun f hf => by simp at hf
theorem true31 : isTrue ((kE (among []) 60).ev.cl 31 [] GS.empty) = true := by kernel_rfl
theorem ok31 : OrcOk Q (among [31]) := among_ok _ fun f hf => by
  simp only [List.mem_cons, List.not_mem_nil, or_false] at hf
  subst hf
  exact ⟨⟨_, Try.func31, by kernel_rfl, by kernel_rfl⟩, closed_kE okNone (by kernel_rfl) true31⟩
theorem known11 : closedTrueF Q 5000 11 = true := by kernel_rfl
theorem ok11 : OrcOk Q (among [11]) := among_ok _ fun f hf => by
  simp only [List.mem_singleton] at hf
  subst hf
  exact orc_one (by kernel_rfl) Try.func11 (by kernel_rfl) (by kernel_rfl) known11
theorem row_act {r : List Value} (h : Row [some .i64, some .i64, some .i64] r) : ∃ x : Act, r = rAct.row x := by
  match r with
  | [] => exact h.elim
  | [_] => exact h.2.elim
  | [_, _] => exact h.2.2.elim
  | x :: y :: z :: q :: l => exact h.2.2.2.elim
  | [x, y, z] =>
    obtain ⟨⟨a, ha, _⟩, ⟨b, hb, _⟩, ⟨c, hc, _⟩, _⟩ := h
    exact ⟨(a, b, c), by rw [ha, hb, hc]; rfl⟩
end Go.Proofs.Ytglafaecdpilgaa.Lift
