/-
  Rows.PoolOneCardSaid is proved: the law coxswain/coxswainlaw08.PoolOne answers true, whatever it is handed, in every world in which the package-level variable reads as the program's own text lays it (tied), and writes nothing that was there. No conditions. The frame is the guide's template, turned to this function; the walk is by the ghost machine (the texts YtocbppgkgcoehaaDoorGh..).
-/
import Derived.Test.YtocbppgkgcoehaaDoorRows
import Derived.Test.YtocbppgkgcoehaaDoorTie
import Derived.Test.YtocbppgkgcoehaaDoorCards
import Derived.WalkKit
import Derived.ProofKit
import Derived.LaidMore
import Derived.OpenShut
import Derived.Stop.Joined
import Derived.Below
import Derived.Carry
import Derived.SevenTiedAt
import Derived.Test.YtocbppgkgcoehaaDoorD2
import Derived.Test.YtocbppgkgcoehaaDoorQD
import Derived.ShutString
namespace Go.Proofs.YtocbppgkgcoehaaDoor.poolOne
open Go.ChangeShapes Go.WideShapes Go.ChangeAt Go.RowKit
open Go.ChangeMaps (open_string shut_string)
set_option linter.unusedVariables false
set_option linter.unusedSimpArgs false

theorem own : ownKnob Tryd.prog.godebug = none := by kernel_rfl
theorem laid : laidOutB Tryd.prog = true := by kernel_rfl

/-! ### The walk -/
set_option maxRecDepth 100000 in
theorem walk {H : Type} {enc : TypeId × Value → H} {base : Nat} (W : World) (hT : Gh.TabAt W) (v0 v1 v2 : Value) (d0 d1 d2 : DataW H) (p0 p1 p2 : List MemPlace) (hv0 : Value.okWide Tryd.prog W .any base 22 v0) (h0 : DataW.Trod enc Tryd.prog W 0 (fun _ => true) true 22 v0 d0 p0) (hv1 : Value.okWide Tryd.prog W .any base 25 v1) (h1 : DataW.Trod enc Tryd.prog W 0 (fun _ => true) true 25 v1 d1 p1) (hv2 : Value.okWide Tryd.prog W .any base 28 v2) (h2 : DataW.Trod enc Tryd.prog W 0 (fun _ => true) true 28 v2 d2 p2) :
    Calls Tryd.prog 6 #[v0, v1, v2] W fun e w' => e = .returned (.bool true) ∧ Below W.heap.size W w' := by
  obtain ⟨A, hA, -⟩ := Gh.open_slice_int Tryd.underlying22 Tryd.underlying3 (by kernel_rfl) hv0 h0
  obtain ⟨c1, rfl, r1⟩ := Gh.open_struct (ks := [some .i64, some .i64, some .i64, some .u64]) Tryd.underlying25 (by kernel_rfl) (by kernel_rfl) hv1 h1
  have s1 := Gh.row_self r1
  obtain ⟨op, rfl⟩ := Lift.row_op r1
  obtain ⟨c2, rfl, r2⟩ := Gh.open_struct (ks := [some .i64, some .i64, some .u64]) Tryd.underlying28 (by kernel_rfl) (by kernel_rfl) hv2 h2
  have s2 := Gh.row_self r2
  obtain ⟨an, rfl⟩ := Lift.row_an r2
  obtain ⟨G, M, g0, hR, hF, hle, hx, hV, hS, hFit⟩ := Gh.rel_argF (Gh.rel_tab W hT) Gh.noFoot_tab hA (Gh.self_ints _ A)
  have hs : Gh.SlR (Gh.rowsI .i64) G g0 A := ⟨by rw [Lift.flat_ints]; exact hS, hFit⟩
  obtain ⟨⟨v, G''⟩, hc, hv⟩ := Lift.poolOne (Gh.among [8, 5]) rfl hs op an (Lift.tab_tab.ext hx)
  simp only at hv
  subst hv
  exact Gh.law_evL (by kernel_rfl) Lift.okAw hc hR ⟨hV, Gh.V_self s1, Gh.V_self s2, trivial⟩ hF

set_option maxRecDepth 100000 in
theorem lifted (os : Os) (started : os.Started) (H : Type) (enc : TypeId × Value → H) :
    ReturnsInHanded {} Tryd.checked os 6 .any (fun w args => (Rows.poolOneSpec.pre enc Tryd.prog Tryd.f6 [] false w args ∧ laidMetH Tryd.prog Lift.laid1 w) ∧ sizedMet enc Tryd.prog Tryd.f6 (OpenSpec.ofChange Rows.poolOneSpec) false w args)
      (Rows.poolOneSpec.post enc Tryd.prog Tryd.f6 false true false false) := by
  refine returnsInHanded_of_change_and (C := Tryd.checked) (X := fun w _ => laidMetH Tryd.prog Lift.laid1 w) (fun _ _ _ hh h => h.of_heap hh) own started (by kernel_rfl) Tryd.func6
    (ChangeSpec.witness_shaped (enc := enc) (C := Tryd.checked) (os := os) (X := fun w _ => laidMetH Tryd.prog Lift.laid1 w) false (World.doorLaid Tryd.prog 400 os) #[.slice none 0 0, .agg #[.int .i64 0, .int .i64 0, .int .i64 0, .int .u64 0], .agg #[.int .i64 0, .int .i64 0, .int .u64 0]] 8 rfl (World.shaped_of_RefB (by kernel_rfl) (by kernel_rfl)) (by kernel_rfl) (by kernel_rfl) (by kernel_rfl) (Lift.door_met os _)) ?_
  intro W base args ds gs before hval0 hW _ _ hL _
  have hval : ∀ (j : Nat) t v, Tryd.f6.params[j]? = some t → args[j]? = some v → Value.okWide Tryd.prog W .any base t v := hval0
  have hT : Gh.TabAt W := Lift.of_laid hL
  have hW' := hW
  obtain ⟨p, q, hA0, hV, rfl, hfz, hnd⟩ := hW
  have hA : DataW.TrodAll enc Tryd.prog W 0 (fun _ => true) true Tryd.f6.params.toList args.toList ds p := hA0
  rw [Tryd.params6] at hA hval
  obtain ⟨v0, vs0, d0, ds0, p0, q0, hargs, rfl, rfl, h0, r0⟩ := trodAll_cons hA
  obtain ⟨v1, vs1, d1, ds1, p1, q1, rfl, rfl, rfl, h1, r1⟩ := trodAll_cons r0
  obtain ⟨v2, vs2, d2, ds2, p2, q2, rfl, rfl, rfl, h2, r2⟩ := trodAll_cons r1
  obtain ⟨rfl, rfl, rfl⟩ := trodAll_nil r2
  obtain rfl : args = #[v0, v1, v2] := by cases args; simp_all
  obtain ⟨rfl, rfl⟩ := trodVars_none hV
  clear hA0 hval0
  simp only [List.append_nil] at hW'
  have hlt : ∀ x, x ∈ p0 ∨ x ∈ p1 ∨ x ∈ p2 → x.block < W.heap.size := fun x hx => hW'.lt x (by simpa [or_assoc] using hx)
  refine (walk W hT v0 v1 v2 d0 d1 d2 p0 p1 p2 (hval 0 22 v0 rfl rfl) h0 (hval 1 25 v1 rfl rfl) h1 (hval 2 28 v2 rfl rfl) h2).mono fun e W' ⟨he, bel⟩ => ?_
  subst he
  exact ⟨_, rfl, _, _, _, [], _, [], hW', trodAll_mk1 (shut_bool Tryd.underlying4 _), (trodAll_cons_mk (Below.trod laid (by kernel_rfl) (of_decide_eq_true (by kernel_rfl)) h0 bel (fun x hx => hlt x (Or.inl hx))) (trodAll_cons_mk (Below.trod laid (by kernel_rfl) (of_decide_eq_true (by kernel_rfl)) h1 bel (fun x hx => hlt x (Or.inr (Or.inl hx)))) (trodAll_cons_mk (Below.trod laid (by kernel_rfl) (of_decide_eq_true (by kernel_rfl)) h2 bel (fun x hx => hlt x (Or.inr (Or.inr hx)))) trodAll_mk0))), rfl, bel.frame _, fun h => by cases h⟩

theorem over : Rows.PoolOneSaid :=
  OpenClaim.holds_of_wide 6 Tryd.f6 rfl rfl rfl rfl rfl rfl rfl ⟨rfl, rfl, rfl, rfl, rfl⟩ rfl rfl rfl rfl rfl (by kernel_rfl) Tryd.func6 (by kernel_rfl)
    (of_decide_eq_true (by kernel_rfl)) (by unfold Func.isWrapper; first | (rw [if_pos (by decide +kernel)]; kernel_rfl) | (rw [if_neg (by decide +kernel)]; exact ⟨rfl, rfl⟩))
    (fun os started H enc _ => lifted os started H enc)

/-- the statement: the tied card -/
theorem proved : Rows.PoolOneCardSaid :=
  Claim7.holds_tied_plain_at .later [] [.data] true (true, "7fa835923f18a99c7d59825ab652dc40d23c07b96f182a6c83521b324b0c6c92") false
    over (fun _ h => by cases h) (by kernel_rfl) (fun _ h => by cases h) poolOne_row_tie rfl ⟨rfl, rfl⟩ (by kernel_rfl) rfl
    (fun f fn hf hfn => by
      obtain rfl : f = 6 := Option.some.inj ((show Tryd.prog.funcNamed "coxswain/coxswainlaw08.PoolOne" = some 6 by kernel_rfl).symm.trans hf) |>.symm
      obtain rfl : fn = Tryd.f6 := (Option.some.inj (Tryd.func6.symm.trans hfn)).symm
      exact ⟨by kernel_rfl, fun j t ht => by
        rw [Tryd.params6] at ht
        have hm : t ∈ ([22, 25, 28] : List TypeId) := by simpa using Array.mem_of_getElem? ht
        have hall : (([22, 25, 28] : List TypeId).all fun u => !Tryd.prog.wantsStandIn u) = true := by kernel_rfl
        exact (show Tryd.prog.wantsStandIn t = false by simpa using List.all_eq_true.1 hall t hm)⟩)
    (by kernel_rfl)
#print axioms proved
end Go.Proofs.YtocbppgkgcoehaaDoor.poolOne
