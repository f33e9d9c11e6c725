/-
  Rows.AuditNoneSaid is proved: the law coxswain/coxswainlaw20.AuditNone answers true, whatever it is handed, in every world, and writes nothing that was there. No conditions. The frame is the guide's template, turned to this function; the walk is by the ghost machine (the texts YtdohlgkmaeipjaaGreatGh..).
-/
import Derived.Test.YtdohlgkmaeipjaaGreatRows
import Derived.WalkKit
import Derived.ProofKit
import Derived.OpenShut
import Derived.Below
import Derived.Carry
import Derived.Test.YtdohlgkmaeipjaaGreatXD
import Derived.Test.YtdohlgkmaeipjaaGreatW20
import Derived.Test.YtdohlgkmaeipjaaGreatGhLW
import Derived.Test.YtdohlgkmaeipjaaGreatGhLS
import Derived.ShutString
namespace Go.Proofs.YtdohlgkmaeipjaaGreat.auditNone
open Go.ChangeShapes Go.WideShapes Go.ChangeAt Go.RowKit
open Go.ChangeMaps (open_string shut_string)
set_option linter.unusedVariables false
set_option linter.unusedSimpArgs false

theorem own : ownKnob Tryz.prog.godebug = none := by kernel_rfl
theorem laid : laidOutB Tryz.prog = true := by kernel_rfl

/-! ### The walk -/
set_option maxRecDepth 100000 in
theorem walk {H : Type} {enc : TypeId × Value → H} {base : Nat} (W : World) (v0 v1 v2 v3 : Value) (d0 d1 d2 d3 : DataW H) (p0 p1 p2 p3 : List MemPlace) (hv0 : Value.okWide Tryz.prog W .any base 31 v0) (h0 : DataW.Trod enc Tryz.prog W 0 (fun _ => true) true 31 v0 d0 p0) (hv1 : Value.okWide Tryz.prog W .any base 68 v1) (h1 : DataW.Trod enc Tryz.prog W 0 (fun _ => true) true 68 v1 d1 p1) (hv2 : Value.okWide Tryz.prog W .any base 41 v2) (h2 : DataW.Trod enc Tryz.prog W 0 (fun _ => true) true 41 v2 d2 p2) (hv3 : Value.okWide Tryz.prog W .any base 3 v3) (h3 : DataW.Trod enc Tryz.prog W 0 (fun _ => true) true 3 v3 d3 p3) :
    Calls Tryz.prog 4 #[v0, v1, v2, v3] W fun e w' => e = .returned (.bool true) ∧ Below W.heap.size W w' := by
  obtain ⟨c0, rfl, r0⟩ := Gh.open_struct (ks := [some .i64, some .i64, some .i64, some .i64, some .i64, some .i64, some .i64, some .i64, some .i64, some .i64, some .i64, some .i64, some .i64]) Tryz.underlying31 (by kernel_rfl) (by kernel_rfl) hv0 h0
  have s0 := Gh.row_self r0
  obtain ⟨x, rfl⟩ := Lift.row_tw r0
  obtain ⟨c1, rfl, r1⟩ := Gh.open_struct (ks := [some .i64, some .i64, some .u64, some .u64, none]) Tryz.underlying68 (by kernel_rfl) (by kernel_rfl) hv1 h1
  have s1 := Gh.row_self r1
  obtain ⟨k, a, o, n, b, rfl⟩ := Lift.row_acc r1
  obtain ⟨by_, rfl, -, -, hwf⟩ := open_int Tryz.underlying41 hv2 h2
  obtain ⟨i, rfl, -, -, -⟩ := open_int Tryz.underlying3 hv3 h3
  obtain ⟨⟨v, G''⟩, hc, hv⟩ := Lift.auditNone (Gh.among [27]) rfl rfl rfl x k a o n b (Lift.U_wf hwf) i Gh.GS.empty
  simp only at hv
  subst hv
  exact Gh.law_evL (by kernel_rfl) LiftK.okAw hc (Gh.rel_empty W) ⟨Gh.V_self s0, Gh.V_self s1, Gh.V_int.2 rfl, Gh.V_int.2 rfl, trivial⟩ Gh.noFoot_empty

set_option maxRecDepth 100000 in
theorem lifted (os : Os) (started : os.Started) (H : Type) (enc : TypeId × Value → H) :
    ReturnsInHanded {} Tryz.checked os 4 .any (Rows.auditNoneSpec.pre6 enc Tryz.prog Tryz.f4 Rows.auditNoneRow.domain false) (Rows.auditNoneSpec.post enc Tryz.prog Tryz.f4 false true false false) := by
  refine returnsInHanded_of_change (C := Tryz.checked) own started (by kernel_rfl) Tryz.func4
    (ChangeSpec.witness6 (enc := enc) (C := Tryz.checked) false ⟨#[], #[.agg #[.int .i64 0, .int .i64 0, .int .i64 0, .int .i64 0, .int .i64 0, .int .i64 0, .int .i64 0, .int .i64 0, .int .i64 0, .int .i64 0, .int .i64 0, .int .i64 0, .int .i64 0], .agg #[.int .i64 0, .int .i64 0, .int .u64 0, .int .u64 0, .bool false], .int .u64 0, .int .i64 0], []⟩ 8 (by kernel_rfl) (by kernel_rfl) (by kernel_rfl) (by kernel_rfl)) ?_
  intro W base args ds gs before hval0 hW hcnd _
  have hval : ∀ (j : Nat) t v, Tryz.f4.params[j]? = some t → args[j]? = some v → Value.okWide Tryz.prog W .any base t v := hval0
  have hW' := hW
  obtain ⟨p, q, hA0, hV, rfl, hfz, hnd⟩ := hW
  have hA : DataW.TrodAll enc Tryz.prog W 0 (fun _ => true) true Tryz.f4.params.toList args.toList ds p := hA0
  rw [Tryz.params4] at hA hval
  obtain ⟨v0, vs0, d0, ds0, p0, q0, hargs, rfl, rfl, h0, r0⟩ := trodAll_cons hA
  obtain ⟨v1, vs1, d1, ds1, p1, q1, rfl, rfl, rfl, h1, r1⟩ := trodAll_cons r0
  obtain ⟨v2, vs2, d2, ds2, p2, q2, rfl, rfl, rfl, h2, r2⟩ := trodAll_cons r1
  obtain ⟨v3, vs3, d3, ds3, p3, q3, rfl, rfl, rfl, h3, r3⟩ := trodAll_cons r2
  obtain ⟨rfl, rfl, rfl⟩ := trodAll_nil r3
  obtain rfl : args = #[v0, v1, v2, v3] := by cases args; simp_all
  obtain ⟨rfl, rfl⟩ := trodVars_none hV
  clear hA0 hval0
  simp only [List.append_nil] at hW'
  have hlt : ∀ x, x ∈ p0 ∨ x ∈ p1 ∨ x ∈ p2 ∨ x ∈ p3 → x.block < W.heap.size := fun x hx => hW'.lt x (by simpa [or_assoc] using hx)
  refine (walk W v0 v1 v2 v3 d0 d1 d2 d3 p0 p1 p2 p3 (hval 0 31 v0 rfl rfl) h0 (hval 1 68 v1 rfl rfl) h1 (hval 2 41 v2 rfl rfl) h2 (hval 3 3 v3 rfl rfl) h3).mono fun e W' ⟨he, bel⟩ => ?_
  subst he
  exact ⟨_, rfl, _, _, _, [], _, [], hW', trodAll_mk1 (shut_bool Tryz.underlying4 _), (trodAll_cons_mk (Below.trod laid (by kernel_rfl) (of_decide_eq_true (by kernel_rfl)) h0 bel (fun x hx => hlt x (Or.inl hx))) (trodAll_cons_mk (Below.trod laid (by kernel_rfl) (of_decide_eq_true (by kernel_rfl)) h1 bel (fun x hx => hlt x (Or.inr (Or.inl hx)))) (trodAll_cons_mk (Below.trod laid (by kernel_rfl) (of_decide_eq_true (by kernel_rfl)) h2 bel (fun x hx => hlt x (Or.inr (Or.inr (Or.inl hx))))) (trodAll_cons_mk (Below.trod laid (by kernel_rfl) (of_decide_eq_true (by kernel_rfl)) h3 bel (fun x hx => hlt x (Or.inr (Or.inr (Or.inr hx))))) trodAll_mk0)))), rfl, bel.frame _, fun h => by cases h⟩

theorem laid1 : laidOutB Tryz.pinned.checked.prog = true := laid
theorem fact_maps : mapsRowed Tryz.pinned.checked.prog = true := by kernel_rfl
theorem fact_inPl : (Rows.auditNoneRow.inPlace == Tryz.pinned.checked.prog.inPlace 4) = true := by kernel_rfl
theorem fact_unfo : (Rows.auditNoneRow.unfollowed == Tryz.pinned.checked.prog.unfollowed 4) = true := by kernel_rfl
theorem fact_recu : (Rows.auditNoneRow.recurses == Tryz.pinned.checked.prog.recurses 4) = true := by kernel_rfl
theorem fact_nmd : (Rows.auditNoneRow.named == Tryz.pinned.checked.prog.varsNamed 4) = true := by kernel_rfl
set_option maxHeartbeats 4000000 in
theorem closed : joinedFacts Tryz.pinned.checked.prog 4 Tryz.f4 Rows.auditNoneSpec Rows.auditNoneRow = true := by
  unfold joinedFacts
  simp only [Bool.and_eq_true]
  repeat' (refine And.intro ?_ ?_)
  all_goals (first | with_reducible exact laid1 | with_reducible exact fact_maps | with_reducible exact fact_inPl | with_reducible exact fact_unfo | with_reducible exact fact_recu | with_reducible exact fact_nmd | (as_aux_lemma => kernel_rfl))
theorem inst : Tryz.f4.isInstance Tryz.pinned.checked.prog Rows.auditNoneRow.origin Rows.auditNoneRow.targs := of_decide_eq_true (by kernel_rfl)
theorem wrap : Tryz.f4.isWrapper Tryz.pinned.checked.prog Rows.auditNoneRow.wrapper Rows.auditNoneRow.mainSum := by unfold Func.isWrapper; first | (rw [if_pos (by decide +kernel)]; kernel_rfl) | (rw [if_neg (by decide +kernel)]; exact ⟨rfl, rfl⟩)
theorem fnamed : Tryz.pinned.checked.prog.funcNamed Rows.auditNoneRow.func = some 4 := by kernel_rfl
theorem over : Rows.auditNoneRow.holds Tryz.pinned (OpenSpec.ofChange Rows.auditNoneSpec) :=
  OpenClaim.holds_of_wide 4 Tryz.f4 rfl rfl rfl rfl rfl rfl rfl ⟨rfl, rfl, rfl, rfl, rfl⟩ rfl rfl rfl rfl rfl fnamed Tryz.func4 closed inst wrap
    (fun os started H enc _ => lifted os started H enc)
/-- the statement -/
theorem proved : Rows.AuditNoneSaid :=
  over
#print axioms proved
end Go.Proofs.YtdohlgkmaeipjaaGreat.auditNone
