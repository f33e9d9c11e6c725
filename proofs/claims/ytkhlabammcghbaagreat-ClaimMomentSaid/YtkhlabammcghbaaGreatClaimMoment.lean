/-
  Rows.ClaimMomentSaid is proved: the law coxswain/coxswainlaw18.ClaimMoment answers true, whatever it is handed, in every world, and writes nothing that was there. No conditions. The frame is the guide's template, turned to this function; the walk is by the ghost machine (the texts YtkhlabammcghbaaGreatGh..).
-/
import Derived.Test.YtkhlabammcghbaaGreatRows
import Derived.WalkKit
import Derived.ProofKit
import Derived.OpenShut
import Derived.Below
import Derived.Carry
import Derived.Test.YtkhlabammcghbaaGreatPJ
import Derived.Test.YtkhlabammcghbaaGreatPK
import Derived.Test.YtkhlabammcghbaaGreatGhLW
import Derived.Test.YtkhlabammcghbaaGreatGhLS
import Derived.ShutString
namespace Go.Proofs.YtkhlabammcghbaaGreat.claimMoment
open Go.ChangeShapes Go.WideShapes Go.ChangeAt Go.RowKit
open Go.ChangeMaps (open_string shut_string)
set_option linter.unusedVariables false
set_option linter.unusedSimpArgs false

theorem own : ownKnob Tryz.prog.godebug = none := by kernel_rfl
theorem laid : laidOutB Tryz.prog = true := by kernel_rfl

/-! ### The walk -/
set_option maxRecDepth 100000 in
theorem walk {H : Type} {enc : TypeId × Value → H} {base : Nat} (W : World) (v0 v1 v2 v3 : Value) (d0 d1 d2 d3 : DataW H) (p0 p1 p2 p3 : List MemPlace) (hv0 : Value.okWide Tryz.prog W .any base 3 v0) (h0 : DataW.Trod enc Tryz.prog W 0 (fun _ => true) true 3 v0 d0 p0) (iJ : Value.okWide Tryz.prog W .any base 3 v1) (h1 : DataW.Trod enc Tryz.prog W 0 (fun _ => true) true 3 v1 d1 p1) (rP : Value.okWide Tryz.prog W .any base 22 v2) (h2 : DataW.Trod enc Tryz.prog W 0 (fun _ => true) true 22 v2 d2 p2) (hv3 : Value.okWide Tryz.prog W .any base 22 v3) (h3 : DataW.Trod enc Tryz.prog W 0 (fun _ => true) true 22 v3 d3 p3) :
    Calls Tryz.prog 3 #[v0, v1, v2, v3] W fun e w' => e = .returned (.bool true) ∧ Below W.heap.size W w' := by
  obtain ⟨z0, rfl, -, -, -⟩ := open_int Tryz.underlying3 hv0 h0
  obtain ⟨z1, rfl, -, -, -⟩ := open_int Tryz.underlying3 iJ h1
  obtain ⟨W2, hW2, -⟩ := Gh.Q5 Tryz.underlying22 Tryz.underlying3 (by kernel_rfl) rP h2
  obtain ⟨W3, hW3, -⟩ := Gh.Q5 Tryz.underlying22 Tryz.underlying3 (by kernel_rfl) hv3 h3
  obtain ⟨G, M, g2, hR, hF, -, -, hV, hS, afa⟩ := Gh.Q7 (Gh.OV W) Gh.ZW hW2 (Gh.Q6 _ W2)
  obtain ⟨G', M', g3, Ix, hF', hle, hx, hV', hS', afb⟩ := Gh.Q7 hR hF hW3 (Gh.Q6 _ W3)
  have wD : Gh.bT (Gh.bh .i64) G g2 W2 := ⟨by rw [Lift.J9]; exact hS, afa⟩
  have A3 : Gh.bT (Gh.bh .i64) G' g3 W3 := ⟨by rw [Lift.J9]; exact hS', afb⟩
  obtain ⟨⟨v, pJ⟩, hc, hv⟩ := Lift.claimMoment (Gh.among [5]) rfl rfl rfl rfl g2 g3 W2 W3 z0 z1 G' (wD.ext hx) A3
  simp only at hv
  subst hv
  exact Gh.PN (by kernel_rfl) Lift.ae9 hc Ix ⟨Gh.eG.2 rfl, Gh.eG.2 rfl, Gh.V.mono hle hV, hV', trivial⟩ hF'

set_option maxRecDepth 100000 in
theorem lifted (os : Os) (started : os.Started) (H : Type) (enc : TypeId × Value → H) :
    ReturnsInHanded {} Tryz.checked os 3 .any (Rows.claimMomentSpec.pre6 enc Tryz.prog Tryz.f3 Rows.claimMomentRow.domain false) (Rows.claimMomentSpec.post enc Tryz.prog Tryz.f3 false true false false) := by
  refine returnsInHanded_of_change (C := Tryz.checked) own started (by kernel_rfl) Tryz.func3
    (ChangeSpec.witness6 (enc := enc) (C := Tryz.checked) false ⟨#[], #[.int .i64 0, .int .i64 0, .slice none 0 0, .slice none 0 0], []⟩ 8 (by kernel_rfl) (by kernel_rfl) (by kernel_rfl) (by kernel_rfl)) ?_
  intro W base args ds gs before UL hW mY _
  have uV : ∀ (j : Nat) t v, Tryz.f3.params[j]? = some t → args[j]? = some v → Value.okWide Tryz.prog W .any base t v := UL
  have Mn := hW
  obtain ⟨p, q, UM, hV, rfl, hfz, NU⟩ := hW
  have hA : DataW.TrodAll enc Tryz.prog W 0 (fun _ => true) true Tryz.f3.params.toList args.toList ds p := UM
  rw [Tryz.params3] at hA uV
  obtain ⟨v0, vs0, d0, ds0, p0, q0, jV, rfl, rfl, h0, r0⟩ := trodAll_cons hA
  obtain ⟨v1, vs1, d1, ds1, p1, q1, rfl, rfl, rfl, h1, r1⟩ := trodAll_cons r0
  obtain ⟨v2, vs2, d2, ds2, p2, q2, rfl, rfl, rfl, h2, r2⟩ := trodAll_cons r1
  obtain ⟨v3, vs3, d3, ds3, p3, q3, rfl, rfl, rfl, h3, r3⟩ := trodAll_cons r2
  obtain ⟨rfl, rfl, rfl⟩ := trodAll_nil r3
  obtain rfl : args = #[v0, v1, v2, v3] := by cases args; simp_all
  obtain ⟨rfl, rfl⟩ := trodVars_none hV
  clear UM UL
  simp only [List.append_nil] at Mn
  have aT : ∀ x, x ∈ p0 ∨ x ∈ p1 ∨ x ∈ p2 ∨ x ∈ p3 → x.block < W.heap.size := fun x hx => Mn.lt x (by simpa [or_assoc] using hx)
  refine (walk W v0 v1 v2 v3 d0 d1 d2 d3 p0 p1 p2 p3 (uV 0 3 v0 rfl rfl) h0 (uV 1 3 v1 rfl rfl) h1 (uV 2 22 v2 rfl rfl) h2 (uV 3 22 v3 rfl rfl) h3).mono fun e W' ⟨he, dK⟩ => ?_
  subst he
  exact ⟨_, rfl, _, _, _, [], _, [], Mn, trodAll_mk1 (shut_bool Tryz.underlying4 _), (trodAll_cons_mk (Below.trod laid (by kernel_rfl) (of_decide_eq_true (by kernel_rfl)) h0 dK (fun x hx => aT x (Or.inl hx))) (trodAll_cons_mk (Below.trod laid (by kernel_rfl) (of_decide_eq_true (by kernel_rfl)) h1 dK (fun x hx => aT x (Or.inr (Or.inl hx)))) (trodAll_cons_mk (Below.trod laid (by kernel_rfl) (of_decide_eq_true (by kernel_rfl)) h2 dK (fun x hx => aT x (Or.inr (Or.inr (Or.inl hx))))) (trodAll_cons_mk (Below.trod laid (by kernel_rfl) (of_decide_eq_true (by kernel_rfl)) h3 dK (fun x hx => aT x (Or.inr (Or.inr (Or.inr hx))))) trodAll_mk0)))), rfl, dK.frame _, fun h => by cases h⟩

theorem afc : laidOutB Tryz.pinned.checked.prog = true := laid
theorem afd : mapsRowed Tryz.pinned.checked.prog = true := by kernel_rfl
theorem afe : (Rows.claimMomentRow.inPlace == Tryz.pinned.checked.prog.inPlace 3) = true := by kernel_rfl
theorem aff : (Rows.claimMomentRow.unfollowed == Tryz.pinned.checked.prog.unfollowed 3) = true := by kernel_rfl
theorem afg : (Rows.claimMomentRow.recurses == Tryz.pinned.checked.prog.recurses 3) = true := by kernel_rfl
theorem afh : (Rows.claimMomentRow.named == Tryz.pinned.checked.prog.varsNamed 3) = true := by kernel_rfl
set_option maxHeartbeats 4000000 in
theorem closed : joinedFacts Tryz.pinned.checked.prog 3 Tryz.f3 Rows.claimMomentSpec Rows.claimMomentRow = true := by
  unfold joinedFacts
  simp only [Bool.and_eq_true]
  repeat' (refine And.intro ?_ ?_)
  all_goals (first | with_reducible exact afc | with_reducible exact afd | with_reducible exact afe | with_reducible exact aff | with_reducible exact afg | with_reducible exact afh | (as_aux_lemma => kernel_rfl))
theorem inst : Tryz.f3.isInstance Tryz.pinned.checked.prog Rows.claimMomentRow.origin Rows.claimMomentRow.targs := of_decide_eq_true (by kernel_rfl)
theorem wrap : Tryz.f3.isWrapper Tryz.pinned.checked.prog Rows.claimMomentRow.wrapper Rows.claimMomentRow.mainSum := by unfold Func.isWrapper; first | (rw [if_pos (by decide +kernel)]; kernel_rfl) | (rw [if_neg (by decide +kernel)]; exact ⟨rfl, rfl⟩)
theorem afi : Tryz.pinned.checked.prog.funcNamed Rows.claimMomentRow.func = some 3 := by kernel_rfl
theorem over : Rows.claimMomentRow.holds Tryz.pinned (OpenSpec.ofChange Rows.claimMomentSpec) :=
  OpenClaim.holds_of_wide 3 Tryz.f3 rfl rfl rfl rfl rfl rfl rfl ⟨rfl, rfl, rfl, rfl, rfl⟩ rfl rfl rfl rfl rfl afi Tryz.func3 closed inst wrap
    (fun os started H enc _ => lifted os started H enc)
/-- the statement -/
theorem proved : Rows.ClaimMomentSaid :=
  over
#print axioms proved
end Go.Proofs.YtkhlabammcghbaaGreat.claimMoment
