/-
  Rows.PoolPlaysCardSaid is proved: the law coxswain/coxswainlaw08.PoolPlays answers true, whatever it is handed, in every world in which the package-level variable reads as the program's own text lays it (tied), and writes nothing that was there. No conditions. The frame is the guide's template, turned to this function; the walk is by the ghost machine (the texts YtocbppgkgcoehaaDoorGh..).
-/
import Derived.Test.YtocbppgkgcoehaaDoorRows
import Derived.Test.YtocbppgkgcoehaaDoorTie
import Derived.Test.YtocbppgkgcoehaaDoorCards
import Derived.WalkKit
import Derived.ProofKit
import Derived.LaidMore
import Derived.OpenShut
import Derived.Stop.Joined
import Derived.Below
import Derived.Carry
import Derived.SevenTiedAt
import Derived.Test.YtocbppgkgcoehaaDoorD2
import Derived.Test.YtocbppgkgcoehaaDoorQE
import Derived.ShutString
namespace Go.Proofs.YtocbppgkgcoehaaDoor.poolPlays
open Go.ChangeShapes Go.WideShapes Go.ChangeAt Go.RowKit
open Go.ChangeMaps (open_string shut_string)
set_option linter.unusedVariables false
set_option linter.unusedSimpArgs false

theorem own : ownKnob Tryd.prog.godebug = none := by kernel_rfl
theorem laid : laidOutB Tryd.prog = true := by kernel_rfl

/-! ### The walk -/
set_option maxRecDepth 100000 in
theorem walk {H : Type} {enc : TypeId × Value → H} {base : Nat} (W : World) (hT : Gh.TabAt W) (v0 v1 : Value) (d0 d1 : DataW H) (p0 p1 : List MemPlace) (hv0 : Value.okWide Tryd.prog W .any base 3 v0) (h0 : DataW.Trod enc Tryd.prog W 0 (fun _ => true) true 3 v0 d0 p0) (hv1 : Value.okWide Tryd.prog W .any base 42 v1) (h1 : DataW.Trod enc Tryd.prog W 0 (fun _ => true) true 42 v1 d1 p1) :
    Calls Tryd.prog 4 #[v0, v1] W fun e w' => e = .returned (.bool true) ∧ Below W.heap.size W w' := by
  obtain ⟨n, rfl, -, -, -⟩ := open_int Tryd.underlying3 hv0 h0
  obtain ⟨R, hR1, hRow⟩ := Gh.open_slice_rows (ks := [some .i64, some .i64, some .i64, some .u64]) Tryd.underlying42 (by kernel_rfl) (by kernel_rfl) hv1 h1
  obtain ⟨L, rfl⟩ : ∃ L : List Lift.Opn, R = L.map Lift.rOp.row := Gh.list_pick fun r hr => Lift.row_op (hRow r hr)
  rw [List.length_map] at hR1
  obtain ⟨G, M, g1, hR, hF, hle, hx, hV, hS, hFit⟩ := Gh.rel_argF (Gh.rel_tab W hT) Gh.noFoot_tab hR1 (Gh.self_rows hRow)
  obtain ⟨⟨v, G''⟩, hc, hv⟩ := Lift.poolPlays (Gh.among [8, 5]) rfl (L := L) (v1 := g1) ⟨hS, hFit⟩ n (Lift.tab_tab.ext hx)
  simp only at hv
  subst hv
  exact Gh.law_evL (by kernel_rfl) Lift.okAw hc hR ⟨Gh.V_int.2 rfl, hV, trivial⟩ hF

set_option maxRecDepth 100000 in
theorem lifted (os : Os) (started : os.Started) (H : Type) (enc : TypeId × Value → H) :
    ReturnsInHanded {} Tryd.checked os 4 .any (fun w args => (Rows.poolPlaysSpec.pre enc Tryd.prog Tryd.f4 [] false w args ∧ laidMetH Tryd.prog Lift.laid1 w) ∧ sizedMet enc Tryd.prog Tryd.f4 (OpenSpec.ofChange Rows.poolPlaysSpec) false w args)
      (Rows.poolPlaysSpec.post enc Tryd.prog Tryd.f4 false true false false) := by
  refine returnsInHanded_of_change_and (C := Tryd.checked) (X := fun w _ => laidMetH Tryd.prog Lift.laid1 w) (fun _ _ _ hh h => h.of_heap hh) own started (by kernel_rfl) Tryd.func4
    (ChangeSpec.witness_shaped (enc := enc) (C := Tryd.checked) (os := os) (X := fun w _ => laidMetH Tryd.prog Lift.laid1 w) false (World.doorLaid Tryd.prog 400 os) #[.int .i64 0, .slice none 0 0] 8 rfl (World.shaped_of_RefB (by kernel_rfl) (by kernel_rfl)) (by kernel_rfl) (by kernel_rfl) (by kernel_rfl) (Lift.door_met os _)) ?_
  intro W base args ds gs before hval0 hW _ _ hL _
  have hval : ∀ (j : Nat) t v, Tryd.f4.params[j]? = some t → args[j]? = some v → Value.okWide Tryd.prog W .any base t v := hval0
  have hT : Gh.TabAt W := Lift.of_laid hL
  have hW' := hW
  obtain ⟨p, q, hA0, hV, rfl, hfz, hnd⟩ := hW
  have hA : DataW.TrodAll enc Tryd.prog W 0 (fun _ => true) true Tryd.f4.params.toList args.toList ds p := hA0
  rw [Tryd.params4] at hA hval
  obtain ⟨v0, vs0, d0, ds0, p0, q0, hargs, rfl, rfl, h0, r0⟩ := trodAll_cons hA
  obtain ⟨v1, vs1, d1, ds1, p1, q1, rfl, rfl, rfl, h1, r1⟩ := trodAll_cons r0
  obtain ⟨rfl, rfl, rfl⟩ := trodAll_nil r1
  obtain rfl : args = #[v0, v1] := by cases args; simp_all
  obtain ⟨rfl, rfl⟩ := trodVars_none hV
  clear hA0 hval0
  simp only [List.append_nil] at hW'
  have hlt : ∀ x, x ∈ p0 ∨ x ∈ p1 → x.block < W.heap.size := fun x hx => hW'.lt x (by simpa [or_assoc] using hx)
  refine (walk W hT v0 v1 d0 d1 p0 p1 (hval 0 3 v0 rfl rfl) h0 (hval 1 42 v1 rfl rfl) h1).mono fun e W' ⟨he, bel⟩ => ?_
  subst he
  exact ⟨_, rfl, _, _, _, [], _, [], hW', trodAll_mk1 (shut_bool Tryd.underlying4 _), (trodAll_cons_mk (Below.trod laid (by kernel_rfl) (of_decide_eq_true (by kernel_rfl)) h0 bel (fun x hx => hlt x (Or.inl hx))) (trodAll_cons_mk (Below.trod laid (by kernel_rfl) (of_decide_eq_true (by kernel_rfl)) h1 bel (fun x hx => hlt x (Or.inr hx))) trodAll_mk0)), rfl, bel.frame _, fun h => by cases h⟩

theorem over : Rows.PoolPlaysSaid :=
  OpenClaim.holds_of_wide 4 Tryd.f4 rfl rfl rfl rfl rfl rfl rfl ⟨rfl, rfl, rfl, rfl, rfl⟩ rfl rfl rfl rfl rfl (by kernel_rfl) Tryd.func4 (by kernel_rfl)
    (of_decide_eq_true (by kernel_rfl)) (by unfold Func.isWrapper; first | (rw [if_pos (by decide +kernel)]; kernel_rfl) | (rw [if_neg (by decide +kernel)]; exact ⟨rfl, rfl⟩))
    (fun os started H enc _ => lifted os started H enc)

/-- the statement: the tied card -/
theorem proved : Rows.PoolPlaysCardSaid :=
  Claim7.holds_tied_plain_at .later [] [.data] true (true, "7fa835923f18a99c7d59825ab652dc40d23c07b96f182a6c83521b324b0c6c92") false
    over (fun _ h => by cases h) (by kernel_rfl) (fun _ h => by cases h) poolPlays_row_tie rfl ⟨rfl, rfl⟩ (by kernel_rfl) rfl
    (fun f fn hf hfn => by
      obtain rfl : f = 4 := Option.some.inj ((show Tryd.prog.funcNamed "coxswain/coxswainlaw08.PoolPlays" = some 4 by kernel_rfl).symm.trans hf) |>.symm
      obtain rfl : fn = Tryd.f4 := (Option.some.inj (Tryd.func4.symm.trans hfn)).symm
      exact ⟨by kernel_rfl, fun j t ht => by
        rw [Tryd.params4] at ht
        have hm : t ∈ ([3, 42] : List TypeId) := by simpa using Array.mem_of_getElem? ht
        have hall : (([3, 42] : List TypeId).all fun u => !Tryd.prog.wantsStandIn u) = true := by kernel_rfl
        exact (show Tryd.prog.wantsStandIn t = false by simpa using List.all_eq_true.1 hall t hm)⟩)
    (by kernel_rfl)
#print axioms proved
end Go.Proofs.YtocbppgkgcoehaaDoor.poolPlays
