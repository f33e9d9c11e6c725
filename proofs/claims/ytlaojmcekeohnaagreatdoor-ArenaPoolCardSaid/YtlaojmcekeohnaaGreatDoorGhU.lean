/- The ghost machine, part U: the evaluator is right. -/
import Derived.Test.YtlaojmcekeohnaaGreatDoorGhZ
namespace Go.Proofs.YtlaojmcekeohnaaGreatDoor.Gh
open Go
noncomputable section
variable {P : Program} {M : Map} {B : Nat} {E : Ev}

theorem sim_zero : SimE P B Ev.zero where
  ex c T G e T' G' h := by simp [Ev.zero] at h
  sc b c T G e T' G' h := by simp [Ev.zero] at h
  lp c T G e T' G' h := by simp [Ev.zero] at h
  cl f vs G v G' h := by simp [Ev.zero] at h
  clok f vs G v G' h := by simp [Ev.zero] at h
  rd l vs G v G' h := by simp [Ev.zero] at h
theorem sim_next (hmix : P.follows .mixedOrders = true) (hE : SimE P B E) : SimE P B (E.next P) where
  ex c T G e T' G' h := sim_ex hE (draws_ok hmix hE) h
  sc b c T G e T' G' h := sim_sc hE h
  lp c T G e T' G' h := sim_lp hE h
  cl f vs G v G' h M w args cs hR hv := sim_cl hE h cs hR hv
  clok f vs G v G' h := by
    have h : stepCl P E f vs G = some (v, G') := h
    simp only [stepCl] at h
    split at h
    · rename_i fn hf
      split at h
      · simp at h
      · rename_i hn
        split at h
        · rename_i c hc
          exact ⟨fn, hf, by simpa using hn, by rw [hc]; rfl⟩
        · simp at h
    · simp at h
  rd l vs G v G' h M w r lo args c cs hR hl hlo hv := sim_rd hE h c cs hR hl hlo hv
theorem sim_all (hmix : P.follows .mixedOrders = true) : ∀ n, SimE P B (evC P n)
  | 0 => sim_zero
  | n + 1 => sim_next hmix (sim_all hmix n)

/-- what the evaluator answers for arguments that stand for the model's, the model answers -/
theorem calls_of (hmix : P.follows .mixedOrders = true) {n : Nat} {f : FuncId} {vs : List Value} {G G' : GS} {v : Value} (h : (evC P n).cl f vs G = some (v, G')) {w : World} {args : Array Value}
    (hR : Rel G M w w.heap.size) (hv : Vs M vs args.toList) :
    Calls P f args w fun e w' => ∃ M' u, e = .returned u ∧ V M' v u ∧ Rel G' M' w' w.heap.size ∧ Evo G M w G' M' w' := by
  intro cs
  obtain ⟨M', w', fr, u, h1, h2, h3, h4, h5, h6⟩ := (sim_all (P := P) (B := w.heap.size) hmix n).cl _ _ _ _ _ h M w args cs hR hv
  exact ⟨.returned u, w', fr, ⟨M', u, rfl, h3, h2, h1⟩, h4, h5, h6⟩

def Map.empty : Map := ⟨fun _ => none, fun _ => none, fun _ => none⟩
theorem rel_empty (w : World) : Rel GS.empty Map.empty w w.heap.size :=
  ⟨Nat.le_refl _, fun _ _ _ h => (by cases h), fun _ _ _ _ _ _ h => (by cases h), fun _ _ h => (by cases h), fun _ _ h => (by cases h), fun _ _ _ h => (by cases h), fun _ _ h => (by cases h), fun _ _ _ h => (by cases h), fun _ _ h => (by cases h), fun g _ => tget_nil g, fun g o h => by rw [show GS.empty.obj g = none from tget_nil g] at h; cases h⟩

/-- no block of before may be written: below all is as it was -/
theorem below_of {G G' : GS} {M' : Map} {w w' : World} (h : Evo G M w G' M' w') (hf : ∀ r, r < w.heap.size → ¬ foot G M r) : Go.RowKit.Below w.heap.size w w' :=
  ⟨h.os, h.tape, h.output, h.size, fun r hr => h.keep r hr (hf r hr)⟩

def closedTrue (P : Program) (n f : Nat) : Bool := match (evC P n).cl f [] GS.empty with | some (.bool true, _) => true | _ => false
/-- **A closed function that the evaluator finds true answers true, in whatever world.** -/
theorem closed_true (hmix : P.follows .mixedOrders = true) {n f : Nat} (h : closedTrue P n f = true) (w : World) :
    Calls P f #[] w fun e w' => e = .returned (.bool true) ∧ Go.RowKit.Below w.heap.size w w' := by
  unfold closedTrue at h
  split at h
  · rename_i G' hcl
    refine (calls_of hmix hcl (rel_empty w) (args := #[]) trivial).mono ?_
    rintro e w' ⟨M', u, rfl, hV, _, hE⟩
    exact ⟨by rw [V_bool.1 hV], below_of hE fun r _ hf => by
      rcases hf with ⟨g, x, o, hx, _⟩ | ⟨l, hl | hl⟩
      · cases hx
      · cases hl
      · cases hl⟩
  · simp at h

end
end Go.Proofs.YtlaojmcekeohnaaGreatDoor.Gh
