import Derived.Test.YtglafaecdpilgaaH10
import Derived.Test.YtglafaecdpilgaaGhLS
set_option linter.unusedVariables false
set_option linter.unusedSimpArgs false
set_option maxRecDepth 20000
namespace Go.Proofs.Ytglafaecdpilgaa.Lift
open Go Go.Proofs.Ytglafaecdpilgaa.Gh Go.Proofs
theorem okNone : OrcOk Q (among []) := among_ok _ fun f hf => by simp at hf
theorem true13 : isTrue ((kE (among []) 60).ev.cl 13 [] GS.empty) = true := by kernel_rfl
theorem ok13 : OrcOk Q (among [13]) := among_ok _ fun f hf => by
  simp only [List.mem_cons, List.not_mem_nil, or_false] at hf
  subst hf
  exact ⟨⟨_, Try.func13, by kernel_rfl, by kernel_rfl⟩, closed_kE okNone (by kernel_rfl) true13⟩
theorem row_it {r : List Value} (h : Row [some .u64, some .i64] r) : ∃ x : It, r = rIt.row x := by
  match r with
  | [] => exact h.elim
  | [_] => exact h.2.elim
  | x :: y :: z :: l => exact h.2.2.elim
  | [x, y] =>
    obtain ⟨⟨a, ha, _⟩, ⟨b, hb, _⟩, _⟩ := h
    exact ⟨(a, b), by rw [ha, hb]; rfl⟩
theorem row_an {r : List Value} (h : Row [some .i64, some .i64, some .u64] r) : ∃ a b c, r = [.int .i64 a, .int .i64 b, .int .u64 c] := by
  match r with
  | [] => exact h.elim
  | [_] => exact h.2.elim
  | [_, _] => exact h.2.2.elim
  | x :: y :: z :: q :: l => exact h.2.2.2.elim
  | [x, y, z] =>
    obtain ⟨⟨a, ha, _⟩, ⟨b, hb, _⟩, ⟨c, hc, _⟩, _⟩ := h
    exact ⟨a, b, c, by rw [ha, hb, hc]⟩
theorem row_op {r : List Value} (h : Row [some .i64, some .i64, some .i64, some .u64] r) : ∃ a b c d, r = [.int .i64 a, .int .i64 b, .int .i64 c, .int .u64 d] := by
  match r with
  | [] => exact h.elim
  | [_] => exact h.2.elim
  | [_, _] => exact h.2.2.elim
  | [_, _, _] => exact h.2.2.2.elim
  | x :: y :: z :: q :: s :: l => exact h.2.2.2.2.elim
  | [x, y, z, q] =>
    obtain ⟨⟨a, ha, _⟩, ⟨b, hb, _⟩, ⟨c, hc, _⟩, ⟨d, hd, _⟩, _⟩ := h
    exact ⟨a, b, c, d, by rw [ha, hb, hc, hd]⟩
end Go.Proofs.Ytglafaecdpilgaa.Lift
