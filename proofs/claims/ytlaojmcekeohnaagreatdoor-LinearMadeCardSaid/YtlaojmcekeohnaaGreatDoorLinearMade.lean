/-
  Rows.LinearMadeCardSaid is proved: the law coxswain/coxswainlaw09.LinearMade answers true, whatever it is handed, in every world in which the package-level variable reads as the program's own text lays it (tied), and writes nothing that was there. No conditions. The frame is the guide's template, turned to this function; the walk is by the ghost machine (the texts YtlaojmcekeohnaaGreatDoorGh..).
-/
import Derived.Test.YtlaojmcekeohnaaGreatDoorRows
import Derived.Test.YtlaojmcekeohnaaGreatDoorTie
import Derived.Test.YtlaojmcekeohnaaGreatDoorCards
import Derived.WalkKit
import Derived.ProofKit
import Derived.LaidMore
import Derived.OpenShut
import Derived.Stop.Joined
import Derived.Below
import Derived.Carry
import Derived.SevenTiedAt
import Derived.Test.YtlaojmcekeohnaaGreatDoorZF
import Derived.Test.YtlaojmcekeohnaaGreatDoorZG
import Derived.Test.YtlaojmcekeohnaaGreatDoorGhLW
import Derived.Test.YtlaojmcekeohnaaGreatDoorGhLS
import Derived.ShutString
namespace Go.Proofs.YtlaojmcekeohnaaGreatDoor.linearMade
open Go.ChangeShapes Go.WideShapes Go.ChangeAt Go.RowKit
open Go.ChangeMaps (open_string shut_string)
set_option linter.unusedVariables false
set_option linter.unusedSimpArgs false

theorem own : ownKnob Tryz.prog.godebug = none := by kernel_rfl
theorem laid : laidOutB Tryz.prog = true := by kernel_rfl

/-! ### The walk -/
set_option maxRecDepth 100000 in
theorem walk {H : Type} {enc : TypeId × Value → H} {base : Nat} (W : World) (hT : Gh.TabAt W) (v0 v1 v2 v3 v4 : Value) (d0 d1 d2 d3 d4 : DataW H) (p0 p1 p2 p3 p4 : List MemPlace) (hv0 : Value.okWide Tryz.prog W .any base 4 v0) (h0 : DataW.Trod enc Tryz.prog W 0 (fun _ => true) true 4 v0 d0 p0) (hv1 : Value.okWide Tryz.prog W .any base 3 v1) (h1 : DataW.Trod enc Tryz.prog W 0 (fun _ => true) true 3 v1 d1 p1) (hv2 : Value.okWide Tryz.prog W .any base 49 v2) (h2 : DataW.Trod enc Tryz.prog W 0 (fun _ => true) true 49 v2 d2 p2) (hv3 : Value.okWide Tryz.prog W .any base 35 v3) (h3 : DataW.Trod enc Tryz.prog W 0 (fun _ => true) true 35 v3 d3 p3) (hv4 : Value.okWide Tryz.prog W .any base 35 v4) (h4 : DataW.Trod enc Tryz.prog W 0 (fun _ => true) true 35 v4 d4 p4) :
    Calls Tryz.prog 5 #[v0, v1, v2, v3, v4] W fun e w' => e = .returned (.bool true) ∧ Below W.heap.size W w' := by
  obtain ⟨b0, rfl, -⟩ := open_bool Tryz.underlying4 hv0 h0
  obtain ⟨z1, rfl, -, -, -⟩ := open_int Tryz.underlying3 hv1 h1
  obtain ⟨R, hR1, hRow⟩ := Gh.open_slice_rows (ks := [some .i64, some .i64, some .i64, some .u64]) Tryz.underlying49 (by kernel_rfl) (by kernel_rfl) hv2 h2
  obtain ⟨O, hO, rfl⟩ := Lift.list_pick2 (l := R) fun r hr => Lift.row_opk (hRow r hr)
  rw [List.length_map] at hR1
  obtain ⟨A3, hA3, -⟩ := Gh.open_slice_int Tryz.underlying35 Tryz.underlying3 (by kernel_rfl) hv3 h3
  obtain ⟨A4, hA4, -⟩ := Gh.open_slice_int Tryz.underlying35 Tryz.underlying3 (by kernel_rfl) hv4 h4
  obtain ⟨G2, M2, g2, hR2, hF2, hle2, hx2, hV2, hS2, hFit2⟩ := Gh.rel_argF (Gh.rel_tab W hT) Gh.noFoot_tab hR1 (Gh.self_rows hRow)
  obtain ⟨G3, M3, g3, hR3, hF3, hle3, hx3, hV3, hS3, hFit3⟩ := Gh.rel_argF hR2 hF2 hA3 (Gh.self_ints _ A3)
  obtain ⟨G4, M4, g4, hR4, hF4, hle4, hx4, hV4, hS4, hFit4⟩ := Gh.rel_argF hR3 hF3 hA4 (Gh.self_ints _ A4)
  have hs2 : Gh.SlR Lift.eOp G4 g2 O := (Gh.SlR.ext (e := Lift.eOp) (G := G2) (L := O) ⟨hS2, hFit2⟩ hx3).ext hx4
  have hs3 : Gh.SlR (Gh.rowsI .i64) G4 g3 A3 := (Gh.SlR.ext (e := Gh.rowsI .i64) (G := G3) (L := A3) ⟨by rw [Lift.flat_ints]; exact hS3, hFit3⟩ hx4)
  have hs4 : Gh.SlR (Gh.rowsI .i64) G4 g4 A4 := ⟨by rw [Lift.flat_ints]; exact hS4, hFit4⟩
  have hx : Gh.Ext Gh.GS.tab G4 := (hx2.trans hx3).trans hx4
  obtain ⟨⟨v, G''⟩, hc, hv⟩ := Lift.linearMade (Gh.among [3]) rfl rfl rfl (Lift.tabs_ext hx Gh.tabs_tab Lift.tab_two) (Nat.le_trans Lift.tab_two hx.nx) b0 z1 hs2 hs3 hs4 hO
  simp only at hv
  subst hv
  exact Gh.law_evL (by kernel_rfl) Lift.okKn hc hR4 ⟨Gh.V_bool.2 rfl, Gh.V_int.2 rfl, (hV2.mono hle3).mono hle4, hV3.mono hle4, hV4, trivial⟩ hF4

set_option maxRecDepth 100000 in
theorem lifted (os : Os) (started : os.Started) (H : Type) (enc : TypeId × Value → H) :
    ReturnsInHanded {} Tryz.checked os 5 .any (fun w args => (Rows.linearMadeSpec.pre enc Tryz.prog Tryz.f5 [] false w args ∧ laidMetH Tryz.prog Lift.laid3 w) ∧ sizedMet enc Tryz.prog Tryz.f5 (OpenSpec.ofChange Rows.linearMadeSpec) false w args)
      (Rows.linearMadeSpec.post enc Tryz.prog Tryz.f5 false true false false) := by
  refine returnsInHanded_of_change_and (C := Tryz.checked) (X := fun w _ => laidMetH Tryz.prog Lift.laid3 w) (fun _ _ _ hh h => h.of_heap hh) own started (by kernel_rfl) Tryz.func5
    (ChangeSpec.witness_shaped (enc := enc) (C := Tryz.checked) (os := os) (X := fun w _ => laidMetH Tryz.prog Lift.laid3 w) false (World.doorLaid Tryz.prog 400 os) #[.bool false, .int .i64 0, .slice none 0 0, .slice none 0 0, .slice none 0 0] 8 rfl (World.shaped_of_RefB (by kernel_rfl) (by kernel_rfl)) (by kernel_rfl) (by kernel_rfl) (by kernel_rfl) (Lift.door_met os _)) ?_
  intro W base args ds gs before hval0 hW _ _ hL _
  have hval : ∀ (j : Nat) t v, Tryz.f5.params[j]? = some t → args[j]? = some v → Value.okWide Tryz.prog W .any base t v := hval0
  have hT : Gh.TabAt W := Lift.of_laid hL
  have hW' := hW
  obtain ⟨p, q, hA0, hV, rfl, hfz, hnd⟩ := hW
  have hA : DataW.TrodAll enc Tryz.prog W 0 (fun _ => true) true Tryz.f5.params.toList args.toList ds p := hA0
  rw [Tryz.params5] at hA hval
  obtain ⟨v0, vs0, d0, ds0, p0, q0, hargs, rfl, rfl, h0, r0⟩ := trodAll_cons hA
  obtain ⟨v1, vs1, d1, ds1, p1, q1, rfl, rfl, rfl, h1, r1⟩ := trodAll_cons r0
  obtain ⟨v2, vs2, d2, ds2, p2, q2, rfl, rfl, rfl, h2, r2⟩ := trodAll_cons r1
  obtain ⟨v3, vs3, d3, ds3, p3, q3, rfl, rfl, rfl, h3, r3⟩ := trodAll_cons r2
  obtain ⟨v4, vs4, d4, ds4, p4, q4, rfl, rfl, rfl, h4, r4⟩ := trodAll_cons r3
  obtain ⟨rfl, rfl, rfl⟩ := trodAll_nil r4
  obtain rfl : args = #[v0, v1, v2, v3, v4] := by cases args; simp_all
  obtain ⟨rfl, rfl⟩ := trodVars_none hV
  clear hA0 hval0
  simp only [List.append_nil] at hW'
  have hlt : ∀ x, x ∈ p0 ∨ x ∈ p1 ∨ x ∈ p2 ∨ x ∈ p3 ∨ x ∈ p4 → x.block < W.heap.size := fun x hx => hW'.lt x (by simpa [or_assoc] using hx)
  refine (walk W hT v0 v1 v2 v3 v4 d0 d1 d2 d3 d4 p0 p1 p2 p3 p4 (hval 0 4 v0 rfl rfl) h0 (hval 1 3 v1 rfl rfl) h1 (hval 2 49 v2 rfl rfl) h2 (hval 3 35 v3 rfl rfl) h3 (hval 4 35 v4 rfl rfl) h4).mono fun e W' ⟨he, bel⟩ => ?_
  subst he
  exact ⟨_, rfl, _, _, _, [], _, [], hW', trodAll_mk1 (shut_bool Tryz.underlying4 _), (trodAll_cons_mk (Below.trod laid (by kernel_rfl) (of_decide_eq_true (by kernel_rfl)) h0 bel (fun x hx => hlt x (Or.inl hx))) (trodAll_cons_mk (Below.trod laid (by kernel_rfl) (of_decide_eq_true (by kernel_rfl)) h1 bel (fun x hx => hlt x (Or.inr (Or.inl hx)))) (trodAll_cons_mk (Below.trod laid (by kernel_rfl) (of_decide_eq_true (by kernel_rfl)) h2 bel (fun x hx => hlt x (Or.inr (Or.inr (Or.inl hx))))) (trodAll_cons_mk (Below.trod laid (by kernel_rfl) (of_decide_eq_true (by kernel_rfl)) h3 bel (fun x hx => hlt x (Or.inr (Or.inr (Or.inr (Or.inl hx)))))) (trodAll_cons_mk (Below.trod laid (by kernel_rfl) (of_decide_eq_true (by kernel_rfl)) h4 bel (fun x hx => hlt x (Or.inr (Or.inr (Or.inr (Or.inr hx)))))) trodAll_mk0))))), rfl, bel.frame _, fun h => by cases h⟩

theorem laidB : laidOutB Tryz.pinned.checked.prog = true := by kernel_rfl
theorem fact_maps : mapsRowed Tryz.pinned.checked.prog = true := by kernel_rfl
theorem fact_inPl : (Rows.linearMadeRow.inPlace == Tryz.pinned.checked.prog.inPlace 5) = true := by kernel_rfl
theorem fact_unfo : (Rows.linearMadeRow.unfollowed == Tryz.pinned.checked.prog.unfollowed 5) = true := by kernel_rfl
theorem fact_recu : (Rows.linearMadeRow.recurses == Tryz.pinned.checked.prog.recurses 5) = true := by kernel_rfl
theorem fact_nmd : (Rows.linearMadeRow.named == Tryz.pinned.checked.prog.varsNamed 5) = true := by kernel_rfl
set_option maxHeartbeats 4000000 in
theorem closed : joinedFacts Tryz.pinned.checked.prog 5 Tryz.f5 Rows.linearMadeSpec Rows.linearMadeRow = true := by
  unfold joinedFacts
  simp only [Bool.and_eq_true]
  repeat' (refine And.intro ?_ ?_)
  all_goals (first | with_reducible exact laidB | with_reducible exact fact_maps | with_reducible exact fact_inPl | with_reducible exact fact_unfo | with_reducible exact fact_recu | with_reducible exact fact_nmd | (as_aux_lemma => kernel_rfl))
theorem inst : Tryz.f5.isInstance Tryz.pinned.checked.prog Rows.linearMadeRow.origin Rows.linearMadeRow.targs := of_decide_eq_true (by kernel_rfl)
theorem wrap : Tryz.f5.isWrapper Tryz.pinned.checked.prog Rows.linearMadeRow.wrapper Rows.linearMadeRow.mainSum := by unfold Func.isWrapper; first | (rw [if_pos (by decide +kernel)]; kernel_rfl) | (rw [if_neg (by decide +kernel)]; exact ⟨rfl, rfl⟩)
theorem fnamed : Tryz.pinned.checked.prog.funcNamed Rows.linearMadeRow.func = some 5 := by kernel_rfl
theorem over : Rows.LinearMadeSaid :=
  OpenClaim.holds_of_wide 5 Tryz.f5 rfl rfl rfl rfl rfl rfl rfl ⟨rfl, rfl, rfl, rfl, rfl⟩ rfl rfl rfl rfl rfl fnamed Tryz.func5 closed inst wrap
    (fun os started H enc _ => lifted os started H enc)

/-- the statement: the tied card -/
theorem proved : Rows.LinearMadeCardSaid :=
  Claim7.holds_tied_plain_at .later [] [.data, .data, .data] true (true, "8b93aeb966e0286e895fe744ef7957d32a8f798093b6f696dfa17696e35dafcf") true
    over (fun _ h => by cases h) (by kernel_rfl) (fun _ h => by cases h) linearMade_row_tie rfl ⟨rfl, rfl⟩ (by kernel_rfl) rfl
    (fun f fn hf hfn => by
      obtain rfl : f = 5 := Option.some.inj ((show Tryz.prog.funcNamed "coxswain/coxswainlaw09.LinearMade" = some 5 by kernel_rfl).symm.trans hf) |>.symm
      obtain rfl : fn = Tryz.f5 := (Option.some.inj (Tryz.func5.symm.trans hfn)).symm
      exact ⟨by kernel_rfl, fun j t ht => by
        rw [Tryz.params5] at ht
        have hm : t ∈ ([4, 3, 49, 35, 35] : List TypeId) := by simpa using Array.mem_of_getElem? ht
        have hall : (([4, 3, 49, 35, 35] : List TypeId).all fun u => !Tryz.prog.wantsStandIn u) = true := by kernel_rfl
        exact (show Tryz.prog.wantsStandIn t = false by simpa using List.all_eq_true.1 hall t hm)⟩)
    (by kernel_rfl)
#print axioms proved
end Go.Proofs.YtlaojmcekeohnaaGreatDoor.linearMade
