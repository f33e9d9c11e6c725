/-
  Rows.LinearKeepsCardSaid is proved: the law coxswain/coxswainlaw09.LinearKeeps answers true, whatever it is handed, in every world in which the package-level variable reads as the program's own text lays it (tied), and writes nothing that was there. No conditions. The frame is the guide's template, turned to this function; the walk is by the ghost machine (the texts YtlaojmcekeohnaaGreatDoorGh..).
-/
import Derived.Test.YtlaojmcekeohnaaGreatDoorRows
import Derived.Test.YtlaojmcekeohnaaGreatDoorTie
import Derived.Test.YtlaojmcekeohnaaGreatDoorCards
import Derived.WalkKit
import Derived.ProofKit
import Derived.LaidMore
import Derived.OpenShut
import Derived.Stop.Joined
import Derived.Below
import Derived.Carry
import Derived.SevenTiedAt
import Derived.Test.YtlaojmcekeohnaaGreatDoorZF
import Derived.Test.YtlaojmcekeohnaaGreatDoorZG
import Derived.Test.YtlaojmcekeohnaaGreatDoorGhLW
import Derived.Test.YtlaojmcekeohnaaGreatDoorGhLS
import Derived.ShutString
namespace Go.Proofs.YtlaojmcekeohnaaGreatDoor.linearKeeps
open Go.ChangeShapes Go.WideShapes Go.ChangeAt Go.RowKit
open Go.ChangeMaps (open_string shut_string)
set_option linter.unusedVariables false
set_option linter.unusedSimpArgs false

theorem own : ownKnob Tryz.prog.godebug = none := by kernel_rfl
theorem laid : laidOutB Tryz.prog = true := by kernel_rfl

/-! ### The walk -/
set_option maxRecDepth 100000 in
theorem walk {H : Type} {enc : TypeId × Value → H} {base : Nat} (W : World) (hT : Gh.TabAt W) (v0 v1 v2 v3 : Value) (d0 d1 d2 d3 : DataW H) (p0 p1 p2 p3 : List MemPlace) (hv0 : Value.okWide Tryz.prog W .any base 3 v0) (h0 : DataW.Trod enc Tryz.prog W 0 (fun _ => true) true 3 v0 d0 p0) (hv1 : Value.okWide Tryz.prog W .any base 3 v1) (h1 : DataW.Trod enc Tryz.prog W 0 (fun _ => true) true 3 v1 d1 p1) (hv2 : Value.okWide Tryz.prog W .any base 38 v2) (h2 : DataW.Trod enc Tryz.prog W 0 (fun _ => true) true 38 v2 d2 p2) (hv3 : Value.okWide Tryz.prog W .any base 29 v3) (h3 : DataW.Trod enc Tryz.prog W 0 (fun _ => true) true 29 v3 d3 p3) :
    Calls Tryz.prog 4 #[v0, v1, v2, v3] W fun e w' => e = .returned (.bool true) ∧ Below W.heap.size W w' := by
  obtain ⟨md, rfl, -, -, -⟩ := open_int Tryz.underlying3 hv0 h0
  obtain ⟨z1, rfl, -, -, -⟩ := open_int Tryz.underlying3 hv1 h1
  obtain ⟨R, hR1, hRow⟩ := Gh.open_slice_rows (ks := [some .i64, some .i64, some .i64, some .i64, some .i64, some .i64, some .u64, some .i64, some .i64, some .u64]) Tryz.underlying38 (by kernel_rfl) (by kernel_rfl) hv2 h2
  obtain ⟨O, hO, rfl⟩ := Lift.list_pick2 (l := R) fun r hr => Lift.row_spk (hRow r hr)
  rw [List.length_map] at hR1
  obtain ⟨c3, rfl, r3⟩ := Gh.open_struct (ks := [some .i64, some .i64, some .i64, some .i64, some .i64, some .i64, some .u64, some .i64, some .i64, some .u64]) Tryz.underlying29 (by kernel_rfl) (by kernel_rfl) hv3 h3
  have s3 := Gh.row_self r3
  obtain ⟨more, okm, rfl⟩ := Lift.row_spk r3
  obtain ⟨G, M, g2, hR, hF, hle, hx, hV, hS, hFit⟩ := Gh.rel_argF (Gh.rel_tab W hT) Gh.noFoot_tab hR1 (Gh.self_rows hRow)
  have hs : Gh.SlR Lift.rSp G g2 O := ⟨hS, hFit⟩
  obtain ⟨⟨v, G''⟩, hc, hv⟩ := Lift.linearKeeps (Gh.among [3]) rfl rfl rfl (Lift.tabs_ext hx Gh.tabs_tab Lift.tab_two) (Nat.le_trans Lift.tab_two hx.nx) md z1 hs hO more okm
  simp only at hv
  subst hv
  exact Gh.law_evL (by kernel_rfl) Lift.okKn hc hR ⟨Gh.V_int.2 rfl, Gh.V_int.2 rfl, hV, Gh.V_self s3, trivial⟩ hF

set_option maxRecDepth 100000 in
theorem lifted (os : Os) (started : os.Started) (H : Type) (enc : TypeId × Value → H) :
    ReturnsInHanded {} Tryz.checked os 4 .any (fun w args => (Rows.linearKeepsSpec.pre enc Tryz.prog Tryz.f4 [] false w args ∧ laidMetH Tryz.prog Lift.laid3 w) ∧ sizedMet enc Tryz.prog Tryz.f4 (OpenSpec.ofChange Rows.linearKeepsSpec) false w args)
      (Rows.linearKeepsSpec.post enc Tryz.prog Tryz.f4 false true false false) := by
  refine returnsInHanded_of_change_and (C := Tryz.checked) (X := fun w _ => laidMetH Tryz.prog Lift.laid3 w) (fun _ _ _ hh h => h.of_heap hh) own started (by kernel_rfl) Tryz.func4
    (ChangeSpec.witness_shaped (enc := enc) (C := Tryz.checked) (os := os) (X := fun w _ => laidMetH Tryz.prog Lift.laid3 w) false (World.doorLaid Tryz.prog 400 os) #[.int .i64 0, .int .i64 0, .slice none 0 0, .agg #[.int .i64 0, .int .i64 0, .int .i64 0, .int .i64 0, .int .i64 0, .int .i64 0, .int .u64 0, .int .i64 0, .int .i64 0, .int .u64 0]] 8 rfl (World.shaped_of_RefB (by kernel_rfl) (by kernel_rfl)) (by kernel_rfl) (by kernel_rfl) (by kernel_rfl) (Lift.door_met os _)) ?_
  intro W base args ds gs before hval0 hW _ _ hL _
  have hval : ∀ (j : Nat) t v, Tryz.f4.params[j]? = some t → args[j]? = some v → Value.okWide Tryz.prog W .any base t v := hval0
  have hT : Gh.TabAt W := Lift.of_laid hL
  have hW' := hW
  obtain ⟨p, q, hA0, hV, rfl, hfz, hnd⟩ := hW
  have hA : DataW.TrodAll enc Tryz.prog W 0 (fun _ => true) true Tryz.f4.params.toList args.toList ds p := hA0
  rw [Tryz.params4] at hA hval
  obtain ⟨v0, vs0, d0, ds0, p0, q0, hargs, rfl, rfl, h0, r0⟩ := trodAll_cons hA
  obtain ⟨v1, vs1, d1, ds1, p1, q1, rfl, rfl, rfl, h1, r1⟩ := trodAll_cons r0
  obtain ⟨v2, vs2, d2, ds2, p2, q2, rfl, rfl, rfl, h2, r2⟩ := trodAll_cons r1
  obtain ⟨v3, vs3, d3, ds3, p3, q3, rfl, rfl, rfl, h3, r3⟩ := trodAll_cons r2
  obtain ⟨rfl, rfl, rfl⟩ := trodAll_nil r3
  obtain rfl : args = #[v0, v1, v2, v3] := by cases args; simp_all
  obtain ⟨rfl, rfl⟩ := trodVars_none hV
  clear hA0 hval0
  simp only [List.append_nil] at hW'
  have hlt : ∀ x, x ∈ p0 ∨ x ∈ p1 ∨ x ∈ p2 ∨ x ∈ p3 → x.block < W.heap.size := fun x hx => hW'.lt x (by simpa [or_assoc] using hx)
  refine (walk W hT v0 v1 v2 v3 d0 d1 d2 d3 p0 p1 p2 p3 (hval 0 3 v0 rfl rfl) h0 (hval 1 3 v1 rfl rfl) h1 (hval 2 38 v2 rfl rfl) h2 (hval 3 29 v3 rfl rfl) h3).mono fun e W' ⟨he, bel⟩ => ?_
  subst he
  exact ⟨_, rfl, _, _, _, [], _, [], hW', trodAll_mk1 (shut_bool Tryz.underlying4 _), (trodAll_cons_mk (Below.trod laid (by kernel_rfl) (of_decide_eq_true (by kernel_rfl)) h0 bel (fun x hx => hlt x (Or.inl hx))) (trodAll_cons_mk (Below.trod laid (by kernel_rfl) (of_decide_eq_true (by kernel_rfl)) h1 bel (fun x hx => hlt x (Or.inr (Or.inl hx)))) (trodAll_cons_mk (Below.trod laid (by kernel_rfl) (of_decide_eq_true (by kernel_rfl)) h2 bel (fun x hx => hlt x (Or.inr (Or.inr (Or.inl hx))))) (trodAll_cons_mk (Below.trod laid (by kernel_rfl) (of_decide_eq_true (by kernel_rfl)) h3 bel (fun x hx => hlt x (Or.inr (Or.inr (Or.inr hx))))) trodAll_mk0)))), rfl, bel.frame _, fun h => by cases h⟩

theorem laidB : laidOutB Tryz.pinned.checked.prog = true := by kernel_rfl
theorem fact_maps : mapsRowed Tryz.pinned.checked.prog = true := by kernel_rfl
theorem fact_inPl : (Rows.linearKeepsRow.inPlace == Tryz.pinned.checked.prog.inPlace 4) = true := by kernel_rfl
theorem fact_unfo : (Rows.linearKeepsRow.unfollowed == Tryz.pinned.checked.prog.unfollowed 4) = true := by kernel_rfl
theorem fact_recu : (Rows.linearKeepsRow.recurses == Tryz.pinned.checked.prog.recurses 4) = true := by kernel_rfl
theorem fact_nmd : (Rows.linearKeepsRow.named == Tryz.pinned.checked.prog.varsNamed 4) = true := by kernel_rfl
set_option maxHeartbeats 4000000 in
theorem closed : joinedFacts Tryz.pinned.checked.prog 4 Tryz.f4 Rows.linearKeepsSpec Rows.linearKeepsRow = true := by
  unfold joinedFacts
  simp only [Bool.and_eq_true]
  repeat' (refine And.intro ?_ ?_)
  all_goals (first | with_reducible exact laidB | with_reducible exact fact_maps | with_reducible exact fact_inPl | with_reducible exact fact_unfo | with_reducible exact fact_recu | with_reducible exact fact_nmd | (as_aux_lemma => kernel_rfl))
theorem inst : Tryz.f4.isInstance Tryz.pinned.checked.prog Rows.linearKeepsRow.origin Rows.linearKeepsRow.targs := of_decide_eq_true (by kernel_rfl)
theorem wrap : Tryz.f4.isWrapper Tryz.pinned.checked.prog Rows.linearKeepsRow.wrapper Rows.linearKeepsRow.mainSum := by unfold Func.isWrapper; first | (rw [if_pos (by decide +kernel)]; kernel_rfl) | (rw [if_neg (by decide +kernel)]; exact ⟨rfl, rfl⟩)
theorem fnamed : Tryz.pinned.checked.prog.funcNamed Rows.linearKeepsRow.func = some 4 := by kernel_rfl
theorem over : Rows.LinearKeepsSaid :=
  OpenClaim.holds_of_wide 4 Tryz.f4 rfl rfl rfl rfl rfl rfl rfl ⟨rfl, rfl, rfl, rfl, rfl⟩ rfl rfl rfl rfl rfl fnamed Tryz.func4 closed inst wrap
    (fun os started H enc _ => lifted os started H enc)

/-- the statement: the tied card -/
theorem proved : Rows.LinearKeepsCardSaid :=
  Claim7.holds_tied_plain_at .later [] [.data, .data, .data] true (true, "8b93aeb966e0286e895fe744ef7957d32a8f798093b6f696dfa17696e35dafcf") true
    over (fun _ h => by cases h) (by kernel_rfl) (fun _ h => by cases h) linearKeeps_row_tie rfl ⟨rfl, rfl⟩ (by kernel_rfl) rfl
    (fun f fn hf hfn => by
      obtain rfl : f = 4 := Option.some.inj ((show Tryz.prog.funcNamed "coxswain/coxswainlaw09.LinearKeeps" = some 4 by kernel_rfl).symm.trans hf) |>.symm
      obtain rfl : fn = Tryz.f4 := (Option.some.inj (Tryz.func4.symm.trans hfn)).symm
      exact ⟨by kernel_rfl, fun j t ht => by
        rw [Tryz.params4] at ht
        have hm : t ∈ ([3, 3, 38, 29] : List TypeId) := by simpa using Array.mem_of_getElem? ht
        have hall : (([3, 3, 38, 29] : List TypeId).all fun u => !Tryz.prog.wantsStandIn u) = true := by kernel_rfl
        exact (show Tryz.prog.wantsStandIn t = false by simpa using List.all_eq_true.1 hall t hm)⟩)
    (by kernel_rfl)
#print axioms proved
end Go.Proofs.YtlaojmcekeohnaaGreatDoor.linearKeeps
