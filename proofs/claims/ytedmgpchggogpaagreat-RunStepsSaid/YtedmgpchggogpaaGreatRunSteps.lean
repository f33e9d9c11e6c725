/-
  Rows.RunStepsSaid is proved: the law coxswain/coxswainlaw26.RunSteps answers true, whatever it is handed, in every world, and writes nothing that was there. No conditions. The frame is the guide's template, turned to this function; the walk is by the ghost machine (the texts YtedmgpchggogpaaGreatGh..).
-/
import Derived.Test.YtedmgpchggogpaaGreatRows
import Derived.WalkKit
import Derived.ProofKit
import Derived.OpenShut
import Derived.Below
import Derived.Carry
import Derived.Test.YtedmgpchggogpaaGreatEK
import Derived.Test.YtedmgpchggogpaaGreatGhLW
import Derived.Test.YtedmgpchggogpaaGreatGhLS
import Derived.ShutString
namespace Go.Proofs.YtedmgpchggogpaaGreat.runSteps
open Go.ChangeShapes Go.WideShapes Go.ChangeAt Go.RowKit
open Go.ChangeMaps (open_string shut_string)
set_option linter.unusedVariables false
set_option linter.unusedSimpArgs false

theorem own : ownKnob Tryz.prog.godebug = none := by kernel_rfl
theorem laid : laidOutB Tryz.prog = true := by kernel_rfl

/-! ### The walk -/
set_option maxRecDepth 100000 in
theorem walk {H : Type} {enc : TypeId × Value → H} {base : Nat} (W : World) (v0 v1 v2 v3 v4 : Value) (d0 d1 d2 d3 d4 : DataW H) (p0 p1 p2 p3 p4 : List MemPlace) (hv0 : Value.okWide Tryz.prog W .any base 45 v0) (h0 : DataW.Trod enc Tryz.prog W 0 (fun _ => true) true 45 v0 d0 p0) (hv1 : Value.okWide Tryz.prog W .any base 49 v1) (h1 : DataW.Trod enc Tryz.prog W 0 (fun _ => true) true 49 v1 d1 p1) (hv2 : Value.okWide Tryz.prog W .any base 3 v2) (h2 : DataW.Trod enc Tryz.prog W 0 (fun _ => true) true 3 v2 d2 p2) (hv3 : Value.okWide Tryz.prog W .any base 22 v3) (h3 : DataW.Trod enc Tryz.prog W 0 (fun _ => true) true 22 v3 d3 p3) (hv4 : Value.okWide Tryz.prog W .any base 65 v4) (h4 : DataW.Trod enc Tryz.prog W 0 (fun _ => true) true 65 v4 d4 p4) :
    Calls Tryz.prog 6 #[v0, v1, v2, v3, v4] W fun e w' => e = .returned (.bool true) ∧ Below W.heap.size W w' := by
  obtain ⟨c0, rfl, r0⟩ := Gh.open_struct (ks := [some .i64, some .i64, some .i64, some .i64, some .i64, some .i64, some .i64, some .i64, some .i64, some .i64, some .i64, some .i64, some .i64]) Tryz.underlying45 (by kernel_rfl) (by kernel_rfl) hv0 h0
  have s0 := Gh.row_self r0
  obtain ⟨t, rfl, hg⟩ := Lift.row_tw r0
  obtain ⟨c1, rfl, r1⟩ := Gh.open_struct (ks := [some .i64, some .i64, some .i64]) Tryz.underlying49 (by kernel_rfl) (by kernel_rfl) hv1 h1
  have s1 := Gh.row_self r1
  obtain ⟨x, rfl⟩ := Lift.row_rw r1
  obtain ⟨n, rfl, -, -, -⟩ := open_int Tryz.underlying3 hv2 h2
  obtain ⟨W2, hW, hwf⟩ := Gh.open_slice_int Tryz.underlying22 Tryz.underlying23 (by kernel_rfl) hv3 h3
  obtain ⟨R3, hR3, hRow⟩ := Gh.open_slice_rows (ks := [some .i64, some .i64, some .i64, some .i64, some .u64]) Tryz.underlying65 (by kernel_rfl) (by kernel_rfl) hv4 h4
  obtain ⟨L, rfl⟩ : ∃ L : List Lift.BAct, R3 = L.map Lift.rBAct.row := Gh.list_pick fun r hr => Lift.row_bact (hRow r hr)
  rw [List.length_map] at hR3
  have hU : ∀ a ∈ L, Lift.U a.w := fun a ha => Lift.row_bu (hRow _ (List.mem_map_of_mem ha))
  obtain ⟨G, M, g2, hR, hF, -, -, hV, hS, hFit⟩ := Gh.rel_argF (Gh.rel_empty W) Gh.noFoot_empty hW (Gh.self_ints _ W2)
  obtain ⟨G', M', g3, hR', hF', hle, hx, hV', hS', hFit'⟩ := Gh.rel_argF hR hF hR3 (Gh.self_rows hRow)
  have hs2 : Gh.SlR (Gh.rowsI .u64) G g2 W2 := ⟨by rw [Lift.flat_ints]; exact hS, hFit⟩
  obtain ⟨⟨v, G''⟩, hc, hv⟩ := Lift.runSteps (Gh.among [7]) rfl rfl t hg x n g2 W2 g3 L G' (hs2.ext hx) (fun w hw => Lift.U_wf (hwf w hw)) ⟨hS', hFit'⟩ hU
  simp only at hv
  subst hv
  exact Gh.law_evL (by kernel_rfl) Lift.okAw hc hR' ⟨Gh.V_self s0, Gh.V_self s1, Gh.V_int.2 rfl, Gh.V.mono hle hV, hV', trivial⟩ hF'

set_option maxRecDepth 100000 in
theorem lifted (os : Os) (started : os.Started) (H : Type) (enc : TypeId × Value → H) :
    ReturnsInHanded {} Tryz.checked os 6 .any (Rows.runStepsSpec.pre6 enc Tryz.prog Tryz.f6 Rows.runStepsRow.domain false) (Rows.runStepsSpec.post enc Tryz.prog Tryz.f6 false true false false) := by
  refine returnsInHanded_of_change (C := Tryz.checked) own started (by kernel_rfl) Tryz.func6
    (ChangeSpec.witness6 (enc := enc) (C := Tryz.checked) false ⟨#[], #[.agg #[.int .i64 0, .int .i64 0, .int .i64 0, .int .i64 0, .int .i64 0, .int .i64 0, .int .i64 0, .int .i64 0, .int .i64 0, .int .i64 0, .int .i64 0, .int .i64 0, .int .i64 0], .agg #[.int .i64 0, .int .i64 0, .int .i64 0], .int .i64 0, .slice none 0 0, .slice none 0 0], []⟩ 8 (by kernel_rfl) (by kernel_rfl) (by kernel_rfl) (by kernel_rfl)) ?_
  intro W base args ds gs before hval0 hW hcnd _
  have hval : ∀ (j : Nat) t v, Tryz.f6.params[j]? = some t → args[j]? = some v → Value.okWide Tryz.prog W .any base t v := hval0
  have hW' := hW
  obtain ⟨p, q, hA0, hV, rfl, hfz, hnd⟩ := hW
  have hA : DataW.TrodAll enc Tryz.prog W 0 (fun _ => true) true Tryz.f6.params.toList args.toList ds p := hA0
  rw [Tryz.params6] at hA hval
  obtain ⟨v0, vs0, d0, ds0, p0, q0, hargs, rfl, rfl, h0, r0⟩ := trodAll_cons hA
  obtain ⟨v1, vs1, d1, ds1, p1, q1, rfl, rfl, rfl, h1, r1⟩ := trodAll_cons r0
  obtain ⟨v2, vs2, d2, ds2, p2, q2, rfl, rfl, rfl, h2, r2⟩ := trodAll_cons r1
  obtain ⟨v3, vs3, d3, ds3, p3, q3, rfl, rfl, rfl, h3, r3⟩ := trodAll_cons r2
  obtain ⟨v4, vs4, d4, ds4, p4, q4, rfl, rfl, rfl, h4, r4⟩ := trodAll_cons r3
  obtain ⟨rfl, rfl, rfl⟩ := trodAll_nil r4
  obtain rfl : args = #[v0, v1, v2, v3, v4] := by cases args; simp_all
  obtain ⟨rfl, rfl⟩ := trodVars_none hV
  clear hA0 hval0
  simp only [List.append_nil] at hW'
  have hlt : ∀ x, x ∈ p0 ∨ x ∈ p1 ∨ x ∈ p2 ∨ x ∈ p3 ∨ x ∈ p4 → x.block < W.heap.size := fun x hx => hW'.lt x (by simpa [or_assoc] using hx)
  refine (walk W v0 v1 v2 v3 v4 d0 d1 d2 d3 d4 p0 p1 p2 p3 p4 (hval 0 45 v0 rfl rfl) h0 (hval 1 49 v1 rfl rfl) h1 (hval 2 3 v2 rfl rfl) h2 (hval 3 22 v3 rfl rfl) h3 (hval 4 65 v4 rfl rfl) h4).mono fun e W' ⟨he, bel⟩ => ?_
  subst he
  exact ⟨_, rfl, _, _, _, [], _, [], hW', trodAll_mk1 (shut_bool Tryz.underlying4 _), (trodAll_cons_mk (Below.trod laid (by kernel_rfl) (of_decide_eq_true (by kernel_rfl)) h0 bel (fun x hx => hlt x (Or.inl hx))) (trodAll_cons_mk (Below.trod laid (by kernel_rfl) (of_decide_eq_true (by kernel_rfl)) h1 bel (fun x hx => hlt x (Or.inr (Or.inl hx)))) (trodAll_cons_mk (Below.trod laid (by kernel_rfl) (of_decide_eq_true (by kernel_rfl)) h2 bel (fun x hx => hlt x (Or.inr (Or.inr (Or.inl hx))))) (trodAll_cons_mk (Below.trod laid (by kernel_rfl) (of_decide_eq_true (by kernel_rfl)) h3 bel (fun x hx => hlt x (Or.inr (Or.inr (Or.inr (Or.inl hx)))))) (trodAll_cons_mk (Below.trod laid (by kernel_rfl) (of_decide_eq_true (by kernel_rfl)) h4 bel (fun x hx => hlt x (Or.inr (Or.inr (Or.inr (Or.inr hx)))))) trodAll_mk0))))), rfl, bel.frame _, fun h => by cases h⟩

theorem laid1 : laidOutB Tryz.pinned.checked.prog = true := laid
theorem fact_maps : mapsRowed Tryz.pinned.checked.prog = true := by kernel_rfl
theorem fact_inPl : (Rows.runStepsRow.inPlace == Tryz.pinned.checked.prog.inPlace 6) = true := by kernel_rfl
theorem fact_unfo : (Rows.runStepsRow.unfollowed == Tryz.pinned.checked.prog.unfollowed 6) = true := by kernel_rfl
theorem fact_recu : (Rows.runStepsRow.recurses == Tryz.pinned.checked.prog.recurses 6) = true := by kernel_rfl
theorem fact_nmd : (Rows.runStepsRow.named == Tryz.pinned.checked.prog.varsNamed 6) = true := by kernel_rfl
set_option maxHeartbeats 4000000 in
theorem closed : joinedFacts Tryz.pinned.checked.prog 6 Tryz.f6 Rows.runStepsSpec Rows.runStepsRow = true := by
  unfold joinedFacts
  simp only [Bool.and_eq_true]
  repeat' (refine And.intro ?_ ?_)
  all_goals (first | with_reducible exact laid1 | with_reducible exact fact_maps | with_reducible exact fact_inPl | with_reducible exact fact_unfo | with_reducible exact fact_recu | with_reducible exact fact_nmd | (as_aux_lemma => kernel_rfl))
theorem inst : Tryz.f6.isInstance Tryz.pinned.checked.prog Rows.runStepsRow.origin Rows.runStepsRow.targs := of_decide_eq_true (by kernel_rfl)
theorem wrap : Tryz.f6.isWrapper Tryz.pinned.checked.prog Rows.runStepsRow.wrapper Rows.runStepsRow.mainSum := by unfold Func.isWrapper; first | (rw [if_pos (by decide +kernel)]; kernel_rfl) | (rw [if_neg (by decide +kernel)]; exact ⟨rfl, rfl⟩)
theorem fnamed : Tryz.pinned.checked.prog.funcNamed Rows.runStepsRow.func = some 6 := by kernel_rfl
theorem over : Rows.runStepsRow.holds Tryz.pinned (OpenSpec.ofChange Rows.runStepsSpec) :=
  OpenClaim.holds_of_wide 6 Tryz.f6 rfl rfl rfl rfl rfl rfl rfl ⟨rfl, rfl, rfl, rfl, rfl⟩ rfl rfl rfl rfl rfl fnamed Tryz.func6 closed inst wrap
    (fun os started H enc _ => lifted os started H enc)
/-- the statement -/
theorem proved : Rows.RunStepsSaid :=
  over
#print axioms proved
end Go.Proofs.YtedmgpchggogpaaGreat.runSteps
