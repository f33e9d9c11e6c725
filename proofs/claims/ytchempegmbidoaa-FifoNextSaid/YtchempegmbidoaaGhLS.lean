/- The ghost machine, part LS: a law's arguments: structs handed by value. -/
import Derived.Test.YtchempegmbidoaaGhLW
namespace Go.Proofs.Ytchempegmbidoaa.Gh
open Go
set_option linter.unusedVariables false
set_option linter.unusedSimpArgs false
section
variable {H : Type} {enc : TypeId × Value → H}
theorem open_struct {P : Program} {W : World} {base : Nat} {t : TypeId} {fs : Array Field} {v : Value} {d : DataW H} {ps : List MemPlace} {ks : List Kd} (ht : P.underlying t = some (.struct fs)) (hk : leafs P 8 t = some ks) (hc : P.cellsOf t = ks.length)
    (hv : Value.okWide P W .any base t v) (h : DataW.Trod enc P W 0 (fun _ => true) true t v d ps) : ∃ cs, v = .agg ⟨cs⟩ ∧ Row ks cs := by
  obtain ⟨fuel, h⟩ := h
  simp only [Value.okWide, ht] at hv
  obtain ⟨⟨cs⟩, rfl, _, _⟩ := hv
  exact ⟨cs, rfl, row_of 8 t ks fuel _ _ hk hc h⟩
end
theorem vs_self {M : Map} : ∀ {cs : List Value}, Self cs → Vs M cs cs
  | [], _ => trivial
  | x :: xs, h => ⟨h x (by simp) M, vs_self fun u hu => h u (by simp [hu])⟩
theorem V_self {M : Map} {cs : List Value} (h : Self cs) : V M (.agg ⟨cs⟩) (.agg ⟨cs⟩) := V_agg.2 ⟨⟨cs⟩, rfl, vs_self h⟩
end Go.Proofs.Ytchempegmbidoaa.Gh
