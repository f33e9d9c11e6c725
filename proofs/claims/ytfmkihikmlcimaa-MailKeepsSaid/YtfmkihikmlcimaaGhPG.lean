/- The ghost machine, part PG: a table that is package-level variable 0: the heap with which a call begins. -/
import Derived.Test.YtfmkihikmlcimaaGhLW
import Derived.Test.YtfmkihikmlcimaaGhKO
namespace Go.Proofs.Ytfmkihikmlcimaa.Gh
set_option linter.unusedVariables false
set_option linter.unusedSimpArgs false
open Go
noncomputable section
def GS.tab : GS := GS.empty.push ⟨tabV, 1, false, 3⟩
def Map.tab : Map := Map.empty.ext 0 ⟨0, 0, 0, 1, false, 64⟩
theorem tab_obj : GS.tab.obj 0 = some ⟨tabV, 1, false, 3⟩ := by
  unfold GS.tab
  rw [GS.obj_push]
  exact if_pos rfl
theorem tab_none {g : Nat} (h : g ≠ 0) : GS.tab.obj g = none := by
  unfold GS.tab
  rw [GS.obj_push, if_neg (show ¬ g = GS.empty.nx from h)]
  exact tget_nil g
theorem tab_nx : GS.tab.nx = 1 := rfl
theorem tabV_len : tabV.length = 64 := rfl
theorem tabV_self (M : Map) {i : Nat} {v : Value} (h : tabV[i]? = some v) : V M v v := by
  obtain ⟨k, rfl⟩ := tabV_int h
  exact V_int.2 rfl
theorem TabAt.size {w : World} (h : TabAt w) : 0 < w.heap.size :=
  World.block_lt_of_cell? w ⟨0, 0, none⟩ (h 0 _ (show tabV[0]? = some (.int .u8 0) from rfl))
theorem map_tab {g : Nat} {x : Blk} (h : Map.tab.mu g = some x) : g = 0 ∧ x = ⟨0, 0, 0, 1, false, 64⟩ := by
  unfold Map.tab at h
  rw [Map.ext_mu] at h
  split at h
  · exact ⟨‹_›, (Option.some.inj h).symm⟩
  · cases h
theorem rel_tab (w : World) (hT : TabAt w) : Rel GS.tab Map.tab w w.heap.size := by
  refine ⟨Nat.le_refl _, fun g x o hx ho => ?_, fun g g' x x' o o' hx hx' ho ho' hm hm' he => ?_, fun g x hx => ?_, fun l r h => (by cases h), fun l l' r h => (by cases h), fun g hg => ?_, fun g o ho hm => ?_⟩
  · obtain ⟨rfl, rfl⟩ := map_tab hx
    rw [tab_obj] at ho
    cases ho
    exact ⟨rfl, rfl, rfl, fun _ i v hv => ⟨v, by simpa using hT i v hv, tabV_self _ hv⟩, (fun h => by cases h), fun _ _ => hT.size⟩
  · obtain ⟨rfl, rfl⟩ := map_tab hx
    obtain ⟨rfl, rfl⟩ := map_tab hx'
    rfl
  · obtain ⟨rfl, rfl⟩ := map_tab hx
    rw [tab_nx]; omega
  · exact tab_none (by rw [tab_nx] at hg; omega)
  · by_cases h : g = 0
    · subst h
      rw [tab_obj] at ho
      cases ho
      exact ⟨rfl, ⟨0, 0, 0, 1, false, 64⟩, by unfold Map.tab; rw [Map.ext_mu, if_pos rfl], rfl, rfl⟩
    · rw [tab_none h] at ho; cases ho
theorem noFoot_tab : NoFoot GS.tab Map.tab := fun r hf => by
  rcases hf with ⟨g, x, o, hx, ho, hm, _⟩ | ⟨l, hl⟩
  · obtain ⟨rfl, rfl⟩ := map_tab hx
    rw [tab_obj] at ho
    cases ho
    cases hm
  · cases hl
/-- a law of plain arguments, where the table is laid -/
theorem law_tab {P : Program} {orc : FuncId → Bool} (hmix : P.follows .mixedOrders = true) (ho : OrcOk P orc) {f : FuncId} {vs : List Value} {G' : GS} (h : (evL P orc).cl f vs GS.tab = some (.bool true, G')) {w : World} (hT : TabAt w) {args : Array Value}
    (hv : ∀ M, Vs M vs args.toList) : Calls P f args w fun e w' => e = .returned (.bool true) ∧ Go.RowKit.Below w.heap.size w w' :=
  law_evL hmix ho h (rel_tab w hT) (hv _) noFoot_tab
section
variable {P : Program} {orc : FuncId → Bool}
theorem Ref.pur (hp : (P.funcs[purF]?).isSome = true) (vs : List Value) (G : GS) : Ref (pur vs G) ((evL P orc).cl purF vs G) := fun r hr => by
  rw [evL_cl]
  obtain ⟨v, G'⟩ := r
  obtain ⟨n, o, rfl, _⟩ := pur_some hr
  have h3 : Nat.beq purF purF = true := by simp
  unfold clO isPur purs
  simp only [List.isEmpty_cons, Bool.false_and, Bool.false_eq_true, if_false, h3, hp, Bool.true_or, Bool.and_self, if_true]
  exact hr
theorem Ref.srt (hp : (P.funcs[sortF]?).isSome = true) (hq : Nat.beq sortF purF = false) (vs : List Value) (G : GS) : Ref (srt vs G) ((evL P orc).cl sortF vs G) := fun r hr => by
  rw [evL_cl]
  have h3 : Nat.beq sortF sortF = true := by simp
  have hvs : vs.isEmpty = false := by
    cases vs with
    | nil => cases hr
    | cons => rfl
  unfold clO isPur purs
  simp only [hvs, Bool.false_and, Bool.false_eq_true, if_false, h3, hp, hq, Bool.or_true, Bool.and_self, if_true]
  exact hr
theorem Ref.ans (hp : (P.funcs[ansF]?).isSome = true) (ho : orc ansG = true) (hq : (Nat.beq ansF purF || Nat.beq ansF sortF) = false) (hn : ansL.all (fun x => !x.1.isEmpty) = true) (vs : List Value) (G : GS) : Ref (ans vs G) ((evL P orc).cl ansF vs G) := fun r hr => by
  rw [evL_cl]
  have h3 : Nat.beq ansF ansF = true := by simp
  rw [Bool.or_eq_false_iff] at hq
  have hvs : vs.isEmpty = false := by
    cases vs with
    | nil =>
      exfalso
      unfold Gh.ans at hr
      split at hr
      · rename_i v hv
        obtain ⟨x, hx, h1, _⟩ := ansFind_some hv
        have := List.all_eq_true.1 hn x hx
        obtain ⟨l, r⟩ := x
        cases l with
        | nil => simp at this
        | cons => cases h1
      · cases hr
    | cons => rfl
  unfold clO isPur purs
  simp only [hvs, Bool.false_and, Bool.false_eq_true, if_false, h3, hp, ho, hq.1, hq.2, Bool.or_true, Bool.and_self, if_true]
  exact hr
end
end
end Go.Proofs.Ytfmkihikmlcimaa.Gh
