/-
  Rows.ClaimStepsSaid is proved: the law coxswain/coxswainlaw18.ClaimSteps answers true, whatever it is handed, in every world, and writes nothing that was there. No conditions. The frame is the guide's template, turned to this function; the walk is by the ghost machine (the texts YtaanpcoglijohaaGreatGh..).
-/
import Derived.Test.YtaanpcoglijohaaGreatRows
import Derived.WalkKit
import Derived.ProofKit
import Derived.OpenShut
import Derived.Below
import Derived.Carry
import Derived.Test.YtaanpcoglijohaaGreatCK
import Derived.Test.YtaanpcoglijohaaGreatGhLW
import Derived.Test.YtaanpcoglijohaaGreatGhLS
import Derived.ShutString
namespace Go.Proofs.YtaanpcoglijohaaGreat.claimSteps
open Go.ChangeShapes Go.WideShapes Go.ChangeAt Go.RowKit
open Go.ChangeMaps (open_string shut_string)
set_option linter.unusedVariables false
set_option linter.unusedSimpArgs false

theorem own : ownKnob Tryz.prog.godebug = none := by kernel_rfl
theorem laid : laidOutB Tryz.prog = true := by kernel_rfl

/-! ### The walk -/
set_option maxRecDepth 100000 in
theorem walk {H : Type} {enc : TypeId × Value → H} {base : Nat} (W : World) (v0 v1 v2 v3 : Value) (d0 d1 d2 d3 : DataW H) (p0 p1 p2 p3 : List MemPlace) (hv0 : Value.okWide Tryz.prog W .any base 75 v0) (h0 : DataW.Trod enc Tryz.prog W 0 (fun _ => true) true 75 v0 d0 p0) (hv1 : Value.okWide Tryz.prog W .any base 3 v1) (h1 : DataW.Trod enc Tryz.prog W 0 (fun _ => true) true 3 v1 d1 p1) (hv2 : Value.okWide Tryz.prog W .any base 24 v2) (h2 : DataW.Trod enc Tryz.prog W 0 (fun _ => true) true 24 v2 d2 p2) (hv3 : Value.okWide Tryz.prog W .any base 76 v3) (h3 : DataW.Trod enc Tryz.prog W 0 (fun _ => true) true 76 v3 d3 p3) :
    Calls Tryz.prog 4 #[v0, v1, v2, v3] W fun e w' => e = .returned (.bool true) ∧ Below W.heap.size W w' := by
  obtain ⟨c0, rfl, r0⟩ := Gh.open_struct (ks := [some .i64, some .i64, some .i64, some .i64, some .i64, some .i64, some .i64, some .i64, some .i64, some .i64, some .i64, some .i64, some .i64]) Tryz.underlying75 (by kernel_rfl) (by kernel_rfl) hv0 h0
  have s0 := Gh.row_self r0
  obtain ⟨t, rfl, hg⟩ := Lift.row_tw r0
  obtain ⟨n, rfl, -, -, -⟩ := open_int Tryz.underlying3 hv1 h1
  obtain ⟨W2, hW, hwf⟩ := Gh.open_slice_int Tryz.underlying24 Tryz.underlying39 (by kernel_rfl) hv2 h2
  obtain ⟨R3, hR3, hRow⟩ := Gh.open_slice_rows (ks := [some .i64, some .i64, some .i64, some .u64]) Tryz.underlying76 (by kernel_rfl) (by kernel_rfl) hv3 h3
  obtain ⟨L, rfl⟩ : ∃ L : List Lift.CAct, R3 = L.map Lift.rCAct.row := Gh.list_pick fun r hr => Lift.row_cact (hRow r hr)
  rw [List.length_map] at hR3
  have hU : ∀ a ∈ L, Lift.U a.w := fun a ha => Lift.row_cu (hRow _ (List.mem_map_of_mem ha))
  obtain ⟨G, M, g2, hR, hF, -, -, hV, hS, hFit⟩ := Gh.rel_argF (Gh.rel_empty W) Gh.noFoot_empty hW (Gh.self_ints _ W2)
  obtain ⟨G', M', g3, hR', hF', hle, hx, hV', hS', hFit'⟩ := Gh.rel_argF hR hF hR3 (Gh.self_rows hRow)
  have hs2 : Gh.SlR (Gh.rowsI .u64) G g2 W2 := ⟨by rw [Lift.flat_ints]; exact hS, hFit⟩
  obtain ⟨⟨v, G''⟩, hc, hv⟩ := Lift.claimSteps (Gh.among [34]) rfl rfl t hg n g2 W2 g3 L G' (hs2.ext hx) (fun w hw => Lift.U_wf (hwf w hw)) ⟨hS', hFit'⟩ hU
  simp only at hv
  subst hv
  exact Gh.law_evL (by kernel_rfl) Lift.okAw hc hR' ⟨Gh.V_self s0, Gh.V_int.2 rfl, Gh.V.mono hle hV, hV', trivial⟩ hF'

set_option maxRecDepth 100000 in
theorem lifted (os : Os) (started : os.Started) (H : Type) (enc : TypeId × Value → H) :
    ReturnsInHanded {} Tryz.checked os 4 .any (Rows.claimStepsSpec.pre6 enc Tryz.prog Tryz.f4 Rows.claimStepsRow.domain false) (Rows.claimStepsSpec.post enc Tryz.prog Tryz.f4 false true false false) := by
  refine returnsInHanded_of_change (C := Tryz.checked) own started (by kernel_rfl) Tryz.func4
    (ChangeSpec.witness6 (enc := enc) (C := Tryz.checked) false ⟨#[], #[.agg #[.int .i64 0, .int .i64 0, .int .i64 0, .int .i64 0, .int .i64 0, .int .i64 0, .int .i64 0, .int .i64 0, .int .i64 0, .int .i64 0, .int .i64 0, .int .i64 0, .int .i64 0], .int .i64 0, .slice none 0 0, .slice none 0 0], []⟩ 8 (by kernel_rfl) (by kernel_rfl) (by kernel_rfl) (by kernel_rfl)) ?_
  intro W base args ds gs before hval0 hW hcnd _
  have hval : ∀ (j : Nat) t v, Tryz.f4.params[j]? = some t → args[j]? = some v → Value.okWide Tryz.prog W .any base t v := hval0
  have hW' := hW
  obtain ⟨p, q, hA0, hV, rfl, hfz, hnd⟩ := hW
  have hA : DataW.TrodAll enc Tryz.prog W 0 (fun _ => true) true Tryz.f4.params.toList args.toList ds p := hA0
  rw [Tryz.params4] at hA hval
  obtain ⟨v0, vs0, d0, ds0, p0, q0, hargs, rfl, rfl, h0, r0⟩ := trodAll_cons hA
  obtain ⟨v1, vs1, d1, ds1, p1, q1, rfl, rfl, rfl, h1, r1⟩ := trodAll_cons r0
  obtain ⟨v2, vs2, d2, ds2, p2, q2, rfl, rfl, rfl, h2, r2⟩ := trodAll_cons r1
  obtain ⟨v3, vs3, d3, ds3, p3, q3, rfl, rfl, rfl, h3, r3⟩ := trodAll_cons r2
  obtain ⟨rfl, rfl, rfl⟩ := trodAll_nil r3
  obtain rfl : args = #[v0, v1, v2, v3] := by cases args; simp_all
  obtain ⟨rfl, rfl⟩ := trodVars_none hV
  clear hA0 hval0
  simp only [List.append_nil] at hW'
  have hlt : ∀ x, x ∈ p0 ∨ x ∈ p1 ∨ x ∈ p2 ∨ x ∈ p3 → x.block < W.heap.size := fun x hx => hW'.lt x (by simpa [or_assoc] using hx)
  refine (walk W v0 v1 v2 v3 d0 d1 d2 d3 p0 p1 p2 p3 (hval 0 75 v0 rfl rfl) h0 (hval 1 3 v1 rfl rfl) h1 (hval 2 24 v2 rfl rfl) h2 (hval 3 76 v3 rfl rfl) h3).mono fun e W' ⟨he, bel⟩ => ?_
  subst he
  exact ⟨_, rfl, _, _, _, [], _, [], hW', trodAll_mk1 (shut_bool Tryz.underlying4 _), (trodAll_cons_mk (Below.trod laid (by kernel_rfl) (of_decide_eq_true (by kernel_rfl)) h0 bel (fun x hx => hlt x (Or.inl hx))) (trodAll_cons_mk (Below.trod laid (by kernel_rfl) (of_decide_eq_true (by kernel_rfl)) h1 bel (fun x hx => hlt x (Or.inr (Or.inl hx)))) (trodAll_cons_mk (Below.trod laid (by kernel_rfl) (of_decide_eq_true (by kernel_rfl)) h2 bel (fun x hx => hlt x (Or.inr (Or.inr (Or.inl hx))))) (trodAll_cons_mk (Below.trod laid (by kernel_rfl) (of_decide_eq_true (by kernel_rfl)) h3 bel (fun x hx => hlt x (Or.inr (Or.inr (Or.inr hx))))) trodAll_mk0)))), rfl, bel.frame _, fun h => by cases h⟩

theorem laid1 : laidOutB Tryz.pinned.checked.prog = true := laid
theorem fact_maps : mapsRowed Tryz.pinned.checked.prog = true := by kernel_rfl
theorem fact_inPl : (Rows.claimStepsRow.inPlace == Tryz.pinned.checked.prog.inPlace 4) = true := by kernel_rfl
theorem fact_unfo : (Rows.claimStepsRow.unfollowed == Tryz.pinned.checked.prog.unfollowed 4) = true := by kernel_rfl
theorem fact_recu : (Rows.claimStepsRow.recurses == Tryz.pinned.checked.prog.recurses 4) = true := by kernel_rfl
theorem fact_nmd : (Rows.claimStepsRow.named == Tryz.pinned.checked.prog.varsNamed 4) = true := by kernel_rfl
set_option maxHeartbeats 4000000 in
theorem closed : joinedFacts Tryz.pinned.checked.prog 4 Tryz.f4 Rows.claimStepsSpec Rows.claimStepsRow = true := by
  unfold joinedFacts
  simp only [Bool.and_eq_true]
  repeat' (refine And.intro ?_ ?_)
  all_goals (first | with_reducible exact laid1 | with_reducible exact fact_maps | with_reducible exact fact_inPl | with_reducible exact fact_unfo | with_reducible exact fact_recu | with_reducible exact fact_nmd | (as_aux_lemma => kernel_rfl))
theorem inst : Tryz.f4.isInstance Tryz.pinned.checked.prog Rows.claimStepsRow.origin Rows.claimStepsRow.targs := of_decide_eq_true (by kernel_rfl)
theorem wrap : Tryz.f4.isWrapper Tryz.pinned.checked.prog Rows.claimStepsRow.wrapper Rows.claimStepsRow.mainSum := by unfold Func.isWrapper; first | (rw [if_pos (by decide +kernel)]; kernel_rfl) | (rw [if_neg (by decide +kernel)]; exact ⟨rfl, rfl⟩)
theorem fnamed : Tryz.pinned.checked.prog.funcNamed Rows.claimStepsRow.func = some 4 := by kernel_rfl
theorem over : Rows.claimStepsRow.holds Tryz.pinned (OpenSpec.ofChange Rows.claimStepsSpec) :=
  OpenClaim.holds_of_wide 4 Tryz.f4 rfl rfl rfl rfl rfl rfl rfl ⟨rfl, rfl, rfl, rfl, rfl⟩ rfl rfl rfl rfl rfl fnamed Tryz.func4 closed inst wrap
    (fun os started H enc _ => lifted os started H enc)
/-- the statement -/
theorem proved : Rows.ClaimStepsSaid :=
  over
#print axioms proved
end Go.Proofs.YtaanpcoglijohaaGreat.claimSteps
