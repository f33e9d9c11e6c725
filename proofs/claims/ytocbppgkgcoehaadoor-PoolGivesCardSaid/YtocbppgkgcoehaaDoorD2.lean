/- contracts of the program's functions -/
import Derived.Test.YtocbppgkgcoehaaDoorProg
import Derived.Test.YtocbppgkgcoehaaDoorGhPG
import Derived.KernelRfl
import Derived.Tactics
import Derived.Tactics2
import Derived.StillTactics
import Derived.Laws.Pointers
import Derived.RegionTactic
import Derived.LoopTactic
import Derived.ChangeAlike
import Derived.WalkKit
import Derived.ProofKit
import Derived.LaidMore
import Derived.OpenShut
import Derived.Stop.Joined
import Derived.Test.YtocbppgkgcoehaaDoorRPa
set_option linter.unusedVariables false
set_option linter.unusedSimpArgs false
set_option maxRecDepth 100000
namespace Go.Proofs.YtocbppgkgcoehaaDoor.Lift
open Go Go.Proofs.YtocbppgkgcoehaaDoor.Gh Go.Proofs
/-! ### The function that reads the table -/
theorem bits_and (n : Nat) (hn : n ≤ 18446744073709551615) (h0 : n ≠ 0) : bits BinOp.and IntKind.u64 (n : Int) (IntKind.u64.wrap (-(n : Int))) = ((Nat.land n (18446744073709551616 - n) : Nat) : Int) := by
  have hw : IntKind.u64.wrap (-(n : Int)) = ((18446744073709551616 - n : Nat) : Int) := by
    simp only [IntKind.wrap, IntKind.bits, IntKind.signed, Bool.false_and]
    simp
    omega
  rw [hw]
  show IntKind.u64.wrap (((BitVec.ofInt 64 (n : Int) &&& BitVec.ofInt 64 ((18446744073709551616 - n : Nat) : Int)).toNat : Nat) : Int) = _
  rw [BitVec.ofInt_natCast, BitVec.ofInt_natCast, BitVec.toNat_and, BitVec.toNat_ofNat, BitVec.toNat_ofNat, Nat.mod_eq_of_lt (by omega : n < 2 ^ 64), Nat.mod_eq_of_lt (by omega : 18446744073709551616 - n < 2 ^ 64)]
  have : (n &&& (18446744073709551616 - n)) ≤ n := Nat.and_le_left
  show IntKind.u64.wrap ((n &&& (18446744073709551616 - n) : Nat) : Int) = ((n &&& (18446744073709551616 - n) : Nat) : Int)
  simp only [IntKind.wrap, IntKind.bits, IntKind.signed, Bool.false_and]
  simp
  omega
def idxN (n : Nat) : Nat := ((Nat.land n (18446744073709551616 - n)) * 285870213051353865) % 18446744073709551616 / 288230376151711744
theorem idx_eq (n : Nat) (hn : n ≤ 18446744073709551615) (h0 : n ≠ 0) : IntKind.u64.wrap (bits BinOp.and IntKind.u64 (n : Int) (IntKind.u64.wrap (-(n : Int))) * 285870213051353865) / 288230376151711744 = (idxN n : Int) := by
  rw [bits_and n hn h0]
  unfold idxN
  generalize Nat.land n (18446744073709551616 - n) = m
  simp only [IntKind.wrap, IntKind.bits, IntKind.signed, Bool.false_and]
  simp
theorem tab_at {i : Nat} (h : i < 64) : tabV[i]? = some (.int .u8 (Int.ofNat (nth 0 tabN i))) := by
  have : ∀ i : Fin 64, tabN[i.val]? = some (nth 0 tabN i.val) := by decide
  unfold tabV
  rw [List.getElem?_map, this ⟨i, h⟩]
  rfl
theorem tz1 (n : Nat) (hn : n ≤ 18446744073709551615) (h0 : n ≠ 0) (w : World) (hT : TabAt w) : Calls Tryd.prog 45 #[.int .u64 (Int.ofNat n)] w fun e w' => e = .returned (.int .i64 (ctzN n)) ∧ w' = w := by
  have h1 : ((Int.ofNat n : Int) == 0) = false := by simp; omega
  have hi : idxN n < 64 := by unfold idxN; omega
  have hb : 0 ≤ IntKind.u64.wrap (bits BinOp.and IntKind.u64 (n : Int) (IntKind.u64.wrap (-(n : Int))) * 285870213051353865) / 288230376151711744 ∧ IntKind.u64.wrap (bits BinOp.and IntKind.u64 (n : Int) (IntKind.u64.wrap (-(n : Int))) * 285870213051353865) / 288230376151711744 < 64 := by
    rw [idx_eq n hn h0]; omega
  have hc : w.cell? ⟨0, (IntKind.u64.wrap (bits BinOp.and IntKind.u64 (n : Int) (IntKind.u64.wrap (-(n : Int))) * 285870213051353865) / 288230376151711744).toNat, none⟩ = some (.int .u8 (Int.ofNat (nth 0 tabN (idxN n)))) := by
    rw [idx_eq n hn h0, Int.toNat_natCast]
    exact hT _ _ (tab_at hi)
  have hk : ∀ i : Fin 64, nth 0 tabN i.val < 64 := by decide
  have hk' := hk ⟨idxN n, hi⟩
  simp only at hk'
  have hz : ctzN n = Int.ofNat (nth 0 tabN (idxN n)) := by
    unfold ctzN
    have : Nat.beq n 0 = false := by cases n with | zero => exact absurd rfl h0 | succ k => rfl
    rw [this]
    rfl
  generalize hg : nth 0 tabN (idxN n) = k at hc hk' hz
  have hwr : IntKind.i64.wrap (Int.ofNat k) = Int.ofNat k := by
    simp only [IntKind.wrap, IntKind.bits, IntKind.signed, Bool.true_and]
    simp
    omega
  go_enter Tryd.func45, Tryd.ntmps45
  go_wp2
  go_ret
  exact ⟨by rw [hz]; rfl, rfl⟩
theorem tz0 (w : World) : Calls Tryd.prog 45 #[.int .u64 (Int.ofNat 0)] w fun e w' => e = .returned (.int .i64 64) ∧ w' = w := by
  go_enter Tryd.func45, Tryd.ntmps45
  go_wp2
  go_ret
  exact ⟨rfl, rfl⟩
theorem purOk : PurOk Tryd.prog := fun fn hf => by
  obtain rfl : Tryd.f45 = fn := Option.some.inj (Tryd.func45.symm.trans hf)
  refine ⟨by kernel_rfl, by kernel_rfl, fun w n hn hT => ?_⟩
  by_cases h0 : n = 0
  · subst h0
    exact (tz0 w).mono fun e w' ⟨he, hw⟩ => ⟨he, by rw [hw]; exact Go.RowKit.Below.refl _ _⟩
  · exact (tz1 n hn h0 w hT).mono fun e w' ⟨he, hw⟩ => ⟨he, by rw [hw]; exact Go.RowKit.Below.refl _ _⟩
/-! ### The table as it is laid -/
def tabD : DataW Unit := .agg (tabN.map fun k => .lit (.int .u8 (Int.ofNat k)))
def laid1 : List (String × DataW Unit) := [("math/bits.deBruijn64tab", tabD)]
theorem gTab : Tryd.prog.globalNamed "math/bits.deBruijn64tab" = some 0 := by kernel_rfl
theorem tTab : (Tryd.prog.globals[0]?).map (·.type) = some 70 := by kernel_rfl
theorem cTab : Tryd.prog.cellsOf 5 = 1 := by kernel_rfl
theorem of_laid {W : World} (h : laidMetH Tryd.prog laid1 W) : TabAt W := by
  rw [MakeChecks.laidMetH_plain _ _ _ (by kernel_rfl)] at h
  obtain ⟨ps, ⟨g0, t0, cs0, f0, p0, q0, hg0, ht0, hv0, hd0, _, _⟩, _, _⟩ := h
  obtain rfl := Option.some.inj (gTab.symm.trans hg0)
  obtain rfl := Option.some.inj (tTab.symm.trans ht0)
  obtain ⟨xs, m, rfl, hx, hlen, hn, hel⟩ := DataW.trod_array (P := Tryd.prog) (t := 70) (n := 64) (e := 5) Tryd.underlying70 hd0
  simp only [Prod.mk.injEq, tabD, DataW.agg.injEq] at hx
  intro i v hv
  have hi : i < 64 := by
    have := (List.getElem?_eq_some_iff.1 hv).1
    simpa [tabV, tabN] using this
  have h1 := hel i hi
  rw [cTab, Nat.mul_one] at h1
  have hix : i < xs.length := by omega
  rw [List.getElem?_eq_getElem hix] at h1
  obtain ⟨k, e1, e2, _⟩ := DataW.trod_int Tryd.underlying5 h1
  have h2 : (xs.map (·.1))[i]? = some (.lit (.int .u8 k)) := by
    rw [List.getElem?_map, List.getElem?_eq_getElem hix, e2]; rfl
  rw [← hx.1, List.getElem?_map] at h2
  rw [tabV, List.getElem?_map] at hv
  cases hk : tabN[i]? with
  | none => rw [hk] at hv; cases hv
  | some k' =>
    rw [hk] at hv h2
    simp only [Option.map_some, Option.some.injEq, DataW.lit.injEq, Lit.int.injEq, true_and] at hv h2
    rw [World.var?_cell hg0 hv0 i, ← hv, h2]
    have e3 : (cs0.toList.drop i)[0]? = some (.int .u8 k) := by
      have : ((cs0.toList.drop i).take 1)[0]? = some (.int .u8 k) := by rw [e1]; rfl
      rw [List.getElem?_take] at this
      simpa using this
    rw [List.getElem?_drop, Nat.add_zero] at e3
    simpa using e3
/-- The door's own heap meets the condition: three closed facts. -/
theorem door_met (os : Os) (args : Array Value) : laidMetH Tryd.prog laid1 ((World.doorLaid Tryd.prog 400 os).forCall (fun _ _ => 0) ⟨#[], args, []⟩).memory :=
  laidMetH_of_parts3 (fuel := 8) (laidMet_of_run' 8 (by kernel_rfl) (by kernel_rfl)) (by kernel_rfl) (by kernel_rfl)
end Go.Proofs.YtocbppgkgcoehaaDoor.Lift

set_option linter.unusedVariables false
set_option maxRecDepth 100000
namespace Go.Proofs.YtocbppgkgcoehaaDoor.Lift
open Go Go.Proofs.YtocbppgkgcoehaaDoor.Gh Go.Proofs
/-! ### Closed functions that the tables find true, where the table is laid -/
theorem okNone : OrcOk Q (among []) := among_ok _ (fun f hf => by simp at hf) purOk
theorem trueAw : isTrue ((kE (among []) 60).ev.cl 8 [] GS.tab) = true := by kernel_rfl
theorem trueKn : isTrue ((kE (among []) 60).ev.cl 5 [] GS.tab) = true := by kernel_rfl
theorem tab_kE {n f : Nat} (h : isTrue ((kE (among []) n).ev.cl f [] GS.tab) = true) {w : World} (hT : TabAt w) : Calls Q f #[] w fun e w' => e = .returned (.bool true) ∧ Go.RowKit.Below w.heap.size w w' :=
  let ⟨_, hG⟩ := isTrue_of ((kE_ok (among []) n).ev.cl f [] GS.tab) h
  law_tab (by kernel_rfl) okNone hG hT fun _ => trivial
theorem okAw : OrcOk Q (among [8, 5]) := among_ok _ (hp := purOk) fun f hf => by
  simp only [List.mem_cons, List.not_mem_nil, or_false] at hf
  rcases hf with rfl | rfl
  · exact ⟨⟨_, Tryd.func8, by kernel_rfl, by kernel_rfl⟩, fun w hT => tab_kE trueAw (hT (by kernel_rfl))⟩
  · exact ⟨⟨_, Tryd.func5, by kernel_rfl, by kernel_rfl⟩, fun w hT => tab_kE trueKn (hT (by kernel_rfl))⟩
end Go.Proofs.YtocbppgkgcoehaaDoor.Lift

