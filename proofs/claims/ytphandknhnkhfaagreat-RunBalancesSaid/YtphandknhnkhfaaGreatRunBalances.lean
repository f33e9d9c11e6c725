/-
  Rows.RunBalancesSaid is proved: the law coxswain/coxswainlaw26.RunBalances answers true, whatever it is handed, in every world, and writes nothing that was there. No conditions. The frame is the guide's template, turned to this function; the walk is by the ghost machine (the texts YtphandknhnkhfaaGreatGh..).
-/
import Derived.Test.YtphandknhnkhfaaGreatRows
import Derived.WalkKit
import Derived.ProofKit
import Derived.OpenShut
import Derived.Below
import Derived.Carry
import Derived.Test.YtphandknhnkhfaaGreatPK
import Derived.Test.YtphandknhnkhfaaGreatPL
import Derived.Test.YtphandknhnkhfaaGreatGhLW
import Derived.Test.YtphandknhnkhfaaGreatGhLS
import Derived.ShutString
namespace Go.Proofs.YtphandknhnkhfaaGreat.runBalances
open Go.ChangeShapes Go.WideShapes Go.ChangeAt Go.RowKit
open Go.ChangeMaps (open_string shut_string)
set_option linter.unusedVariables false
set_option linter.unusedSimpArgs false

theorem own : ownKnob Tryz.prog.godebug = none := by kernel_rfl
theorem laid : laidOutB Tryz.prog = true := by kernel_rfl

/-! ### The walk -/
set_option maxRecDepth 100000 in
theorem walk {H : Type} {enc : TypeId × Value → H} {base : Nat} (W : World) (v0 v1 v2 v3 v4 : Value) (d0 d1 d2 d3 d4 : DataW H) (p0 p1 p2 p3 p4 : List MemPlace) (hv0 : Value.okWide Tryz.prog W .any base 22 v0) (h0 : DataW.Trod enc Tryz.prog W 0 (fun _ => true) true 22 v0 d0 p0) (fR : Value.okWide Tryz.prog W .any base 3 v1) (h1 : DataW.Trod enc Tryz.prog W 0 (fun _ => true) true 3 v1 d1 p1) (AB : Value.okWide Tryz.prog W .any base 3 v2) (h2 : DataW.Trod enc Tryz.prog W 0 (fun _ => true) true 3 v2 d2 p2) (zE : Value.okWide Tryz.prog W .any base 22 v3) (h3 : DataW.Trod enc Tryz.prog W 0 (fun _ => true) true 22 v3 d3 p3) (hv4 : Value.okWide Tryz.prog W .any base 3 v4) (h4 : DataW.Trod enc Tryz.prog W 0 (fun _ => true) true 3 v4 d4 p4) :
    Calls Tryz.prog 3 #[v0, v1, v2, v3, v4] W fun e w' => e = .returned (.bool true) ∧ Below W.heap.size W w' := by
  obtain ⟨W0, JO, -⟩ := Gh.PD Tryz.underlying22 Tryz.underlying3 (by kernel_rfl) hv0 h0
  obtain ⟨z1, rfl, -, -, -⟩ := open_int Tryz.underlying3 fR h1
  obtain ⟨z2, rfl, -, -, -⟩ := open_int Tryz.underlying3 AB h2
  obtain ⟨W3, hW3, -⟩ := Gh.PD Tryz.underlying22 Tryz.underlying3 (by kernel_rfl) zE h3
  obtain ⟨z4, rfl, -, -, -⟩ := open_int Tryz.underlying3 hv4 h4
  obtain ⟨G, M, g2, hR, hF, -, -, hV, hS, aej⟩ := Gh.PF (Gh.Ni W) Gh.YQ JO (Gh.PE _ W0)
  obtain ⟨G', M', g3, Hy, hF', hle, hx, hV', hS', aek⟩ := Gh.PF hR hF hW3 (Gh.PE _ W3)
  have wi : Gh.bI (Gh.bK .i64) G g2 W0 := ⟨by rw [Lift.I0]; exact hS, aej⟩
  have Aq : Gh.bI (Gh.bK .i64) G' g3 W3 := ⟨by rw [Lift.I0]; exact hS', aek⟩
  obtain ⟨⟨v, rV⟩, hc, hv⟩ := Lift.runBalances (Gh.among [5]) rfl rfl rfl rfl g2 g3 W0 W3 z1 z2 z4 G' (wi.ext hx) Aq
  simp only at hv
  subst hv
  exact Gh.Og (by kernel_rfl) Lift.aei hc Hy ⟨Gh.V.mono hle hV, Gh.eM.2 rfl, Gh.eM.2 rfl, hV', Gh.eM.2 rfl, trivial⟩ hF'

set_option maxRecDepth 100000 in
theorem lifted (os : Os) (started : os.Started) (H : Type) (enc : TypeId × Value → H) :
    ReturnsInHanded {} Tryz.checked os 3 .any (Rows.runBalancesSpec.pre6 enc Tryz.prog Tryz.f3 Rows.runBalancesRow.domain false) (Rows.runBalancesSpec.post enc Tryz.prog Tryz.f3 false true false false) := by
  refine returnsInHanded_of_change (C := Tryz.checked) own started (by kernel_rfl) Tryz.func3
    (ChangeSpec.witness6 (enc := enc) (C := Tryz.checked) false ⟨#[], #[.slice none 0 0, .int .i64 0, .int .i64 0, .slice none 0 0, .int .i64 0], []⟩ 8 (by kernel_rfl) (by kernel_rfl) (by kernel_rfl) (by kernel_rfl)) ?_
  intro W base args ds gs before TC hW mT _
  have sR : ∀ (j : Nat) t v, Tryz.f3.params[j]? = some t → args[j]? = some v → Value.okWide Tryz.prog W .any base t v := TC
  have KR := hW
  obtain ⟨p, q, TD, hV, rfl, hfz, Mi⟩ := hW
  have hA : DataW.TrodAll enc Tryz.prog W 0 (fun _ => true) true Tryz.f3.params.toList args.toList ds p := TD
  rw [Tryz.params3] at hA sR
  obtain ⟨v0, vs0, d0, ds0, p0, q0, kG, rfl, rfl, h0, r0⟩ := trodAll_cons hA
  obtain ⟨v1, vs1, d1, ds1, p1, q1, rfl, rfl, rfl, h1, r1⟩ := trodAll_cons r0
  obtain ⟨v2, vs2, d2, ds2, p2, q2, rfl, rfl, rfl, h2, r2⟩ := trodAll_cons r1
  obtain ⟨v3, vs3, d3, ds3, p3, q3, rfl, rfl, rfl, h3, r3⟩ := trodAll_cons r2
  obtain ⟨v4, vs4, d4, ds4, p4, q4, rfl, rfl, rfl, h4, r4⟩ := trodAll_cons r3
  obtain ⟨rfl, rfl, rfl⟩ := trodAll_nil r4
  obtain rfl : args = #[v0, v1, v2, v3, v4] := by cases args; simp_all
  obtain ⟨rfl, rfl⟩ := trodVars_none hV
  clear TD TC
  simp only [List.append_nil] at KR
  have aJ : ∀ x, x ∈ p0 ∨ x ∈ p1 ∨ x ∈ p2 ∨ x ∈ p3 ∨ x ∈ p4 → x.block < W.heap.size := fun x hx => KR.lt x (by simpa [or_assoc] using hx)
  refine (walk W v0 v1 v2 v3 v4 d0 d1 d2 d3 d4 p0 p1 p2 p3 p4 (sR 0 22 v0 rfl rfl) h0 (sR 1 3 v1 rfl rfl) h1 (sR 2 3 v2 rfl rfl) h2 (sR 3 22 v3 rfl rfl) h3 (sR 4 3 v4 rfl rfl) h4).mono fun e W' ⟨he, dR⟩ => ?_
  subst he
  exact ⟨_, rfl, _, _, _, [], _, [], KR, trodAll_mk1 (shut_bool Tryz.underlying4 _), (trodAll_cons_mk (Below.trod laid (by kernel_rfl) (of_decide_eq_true (by kernel_rfl)) h0 dR (fun x hx => aJ x (Or.inl hx))) (trodAll_cons_mk (Below.trod laid (by kernel_rfl) (of_decide_eq_true (by kernel_rfl)) h1 dR (fun x hx => aJ x (Or.inr (Or.inl hx)))) (trodAll_cons_mk (Below.trod laid (by kernel_rfl) (of_decide_eq_true (by kernel_rfl)) h2 dR (fun x hx => aJ x (Or.inr (Or.inr (Or.inl hx))))) (trodAll_cons_mk (Below.trod laid (by kernel_rfl) (of_decide_eq_true (by kernel_rfl)) h3 dR (fun x hx => aJ x (Or.inr (Or.inr (Or.inr (Or.inl hx)))))) (trodAll_cons_mk (Below.trod laid (by kernel_rfl) (of_decide_eq_true (by kernel_rfl)) h4 dR (fun x hx => aJ x (Or.inr (Or.inr (Or.inr (Or.inr hx)))))) trodAll_mk0))))), rfl, dR.frame _, fun h => by cases h⟩

theorem ael : laidOutB Tryz.pinned.checked.prog = true := laid
theorem aem : mapsRowed Tryz.pinned.checked.prog = true := by kernel_rfl
theorem aen : (Rows.runBalancesRow.inPlace == Tryz.pinned.checked.prog.inPlace 3) = true := by kernel_rfl
theorem aeo : (Rows.runBalancesRow.unfollowed == Tryz.pinned.checked.prog.unfollowed 3) = true := by kernel_rfl
theorem aep : (Rows.runBalancesRow.recurses == Tryz.pinned.checked.prog.recurses 3) = true := by kernel_rfl
theorem aeq : (Rows.runBalancesRow.named == Tryz.pinned.checked.prog.varsNamed 3) = true := by kernel_rfl
set_option maxHeartbeats 4000000 in
theorem closed : joinedFacts Tryz.pinned.checked.prog 3 Tryz.f3 Rows.runBalancesSpec Rows.runBalancesRow = true := by
  unfold joinedFacts
  simp only [Bool.and_eq_true]
  repeat' (refine And.intro ?_ ?_)
  all_goals (first | with_reducible exact ael | with_reducible exact aem | with_reducible exact aen | with_reducible exact aeo | with_reducible exact aep | with_reducible exact aeq | (as_aux_lemma => kernel_rfl))
theorem inst : Tryz.f3.isInstance Tryz.pinned.checked.prog Rows.runBalancesRow.origin Rows.runBalancesRow.targs := of_decide_eq_true (by kernel_rfl)
theorem wrap : Tryz.f3.isWrapper Tryz.pinned.checked.prog Rows.runBalancesRow.wrapper Rows.runBalancesRow.mainSum := by unfold Func.isWrapper; first | (rw [if_pos (by decide +kernel)]; kernel_rfl) | (rw [if_neg (by decide +kernel)]; exact ⟨rfl, rfl⟩)
theorem aer : Tryz.pinned.checked.prog.funcNamed Rows.runBalancesRow.func = some 3 := by kernel_rfl
theorem over : Rows.runBalancesRow.holds Tryz.pinned (OpenSpec.ofChange Rows.runBalancesSpec) :=
  OpenClaim.holds_of_wide 3 Tryz.f3 rfl rfl rfl rfl rfl rfl rfl ⟨rfl, rfl, rfl, rfl, rfl⟩ rfl rfl rfl rfl rfl aer Tryz.func3 closed inst wrap
    (fun os started H enc _ => lifted os started H enc)
/-- the statement -/
theorem proved : Rows.RunBalancesSaid :=
  over
#print axioms proved
end Go.Proofs.YtphandknhnkhfaaGreat.runBalances
