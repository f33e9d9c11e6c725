/- closed functions that the tables find true -/
import Derived.Test.YtgcceeillefbpaaKArenaNonea
import Derived.Test.YtgcceeillefbpaaGhKP
set_option linter.unusedSimpArgs false
namespace Go.Proofs.Ytgcceeillefbpaa.Lift
open Go Go.Proofs.Ytgcceeillefbpaa.Gh Go.Proofs
set_option linter.unusedVariables false
set_option maxRecDepth 100000
theorem okNone : OrcOk Q (among []) := among_ok _ fun f hf => by simp at hf
theorem true13 : isTrue ((kE (among []) 60).ev.cl 13 [] GS.empty) = true := by kernel_rfl
theorem okOrc : OrcOk Q (among [13]) := among_ok _ fun f hf => by
  simp only [List.mem_cons, List.not_mem_nil, or_false] at hf
  rcases hf with rfl
  · exact ⟨⟨_, Try.func13, by kernel_rfl, by kernel_rfl⟩, closed_kE okNone (by kernel_rfl) true13⟩
theorem pick_ok (orc : FuncId → Bool) (x : Int) (G : GS) : (E orc).cl 11 [.int .i64 x, .int .i64 9] G = some (.int .i64 (x % 9), G) := by
  refine f11 (exL_ok Q orc) _ _ G _ ?_
  have h1 := Int.emod_nonneg x (show (9 : Int) ≠ 0 by decide)
  have h2 := Int.emod_lt_of_pos x (show (0 : Int) < 9 by decide)
  have ht := @Int.tmod_eq_emod x 9
  rw [show Int.natAbs 9 = 9 from rfl] at ht
  by_cases hx : x.tmod 9 < 0
  · have e : x.tmod 9 + 9 = x % 9 := by split at ht <;> omega
    have hw : IntKind.wrap .i64 (x % 9) = x % 9 := wrap64 (by omega) (by omega)
    simp [s11, hx, e, hw]
  · have e : x.tmod 9 = x % 9 := by split at ht <;> omega
    have hx' : ¬ x % 9 < 0 := by omega
    simp [s11, hx', e]
noncomputable def h3 (q : Bool) (e : Ex) (pk : List Value → GS → Option (Value × GS)) (v0 : Value) (G : GS) : Option (Value × GS) :=
  bS (e.ev.cl 5 [(.int .i64 9)] G) fun x0 G1 =>
  bP (pExtract x0 0) fun x2 =>
  bP (pExtract x0 1) fun x3 =>
  bP (bn Q q .neq 23 (.tmp 15) (.const (.int .i64 0)) x3 (.int .i64 0)) fun x4 =>
  bS (gd x4 false (some (x2, G1)) G1) fun x5 G6 =>
  bS (gd x4 false (bP (ep Q q false 22 (.tmp 18) (.const (.pointer none)) x5 (.pointer none)) fun y => some (y, G6)) G6) fun x7 G8 =>
  bP (pickV x4 (.bool true) x7) fun x9 =>
  ifV x9 (
  some ((.bool false), G8)) (
  bP (bd Q q 35 z35 [] []) fun x10 =>
  bS (bx q x10 G8) fun x11 G12 =>
  bS (bs Q q 36 2 (rep z26 2) 1 [(0, 0, 1), (1, 1, 1)] [(.pointer none), x11] G12) fun x13 G14 =>
  bP (bd Q q 41 z41 [] []) fun x15 =>
  bS (bx q x15 G14) fun x16 G17 =>
  bS (bs Q q 42 2 (rep z37 2) 1 [(0, 0, 1), (1, 1, 1)] [(.pointer none), x16] G17) fun x18 G19 =>
  bL q e 3 0 (subAt [1, 1, 1, 1, 0, 1, 0, 0] (bodyOf Try.f3)) 93 (tu (nth undef [v0]) [(2, (.bool false)), (3, x2), (4, x3), (5, x13), (6, x18), (7, (.int .i64 0)), (11, x0), (12, x0), (13, x2), (14, x3), (15, x3), (16, x4), (17, x4), (18, x5), (19, x7), (20, x9), (21, x10), (22, x11), (23, x13), (24, x15), (25, x16), (26, x18)]) G19 fun e20 t21 G22 =>
  bV q (t21 0) fun t21x0_ =>
  bV q (t21 2) fun t21x2_ =>
  bV q (t21 3) fun t21x3_ =>
  ifE e20 (.exit 0) (
  bP (bd Q q 29 z29 [(2, 2, 1)] [(.int .i64 3)]) fun x23 =>
  bP (bd Q q 31 z31 [(0, 0, 3)] [x23]) fun x24 =>
  bS (pk [t21x0_, (.int .i64 9)] G22) fun x25 G26 =>
  bP (bn Q q .sub 3 (.const (.int .i64 (-1))) (.tmp 74) (.int .i64 (-1)) x25) fun x27 =>
  bS (e.ev.cl 10 [x24, x27] G26) fun x28 G29 =>
  bS (e.ev.cl 8 [x28, t21x3_] G29) fun x30 G31 =>
  bS (gd x30 true (some (x28, G31)) G31) fun x32 G33 =>
  bS (gd x30 true (bS (e.ev.cl 9 [x32] G33) fun y G => some (y, G)) G33) fun x34 G35 =>
  bS (gd x30 true (bP (bn Q q .eql 23 (.tmp 82) (.const (.int .i64 3)) x34 (.int .i64 3)) fun y => some (y, G35)) G35) fun x36 G37 =>
  bP (pickV x30 x36 (.bool false)) fun x38 =>
  bS (gd x38 true (some (t21x3_, G37)) G37) fun x39 G40 =>
  bS (gd x38 true (bS (e.ev.cl 12 [x39] G40) fun y G => some (y, G)) G40) fun x41 G42 =>
  bS (gd x38 true (bP (bn Q q .eql 3 (.tmp 87) (.const (.int .i64 0)) x41 (.int .i64 0)) fun y => some (y, G42)) G42) fun x43 G44 =>
  bP (pickV x38 x43 (.bool false)) fun x45 =>
  bS (gd x45 true (bS (e.ev.cl 13 [] G44) fun y G => some (y, G)) G44) fun x46 G47 =>
  bP (pickV x45 x46 (.bool false)) fun x48 =>
  some (x48, G47)) (ifE e20 .ret (
  some (t21x2_, G22)) (none)))
instance ist_keep0 : Stays 0 (subAt [1, 1, 1, 1, 0, 1, 0, 0] (bodyOf Try.f3)) := ⟨by kernel_rfl⟩
theorem law_of (orc : FuncId → Bool) {e : Ex} (h : ExLe Q e (E orc)) (x : Int) {r : Value} (hk : HookOk (E orc) 11 [.int .i64 x, .int .i64 9] r) (hkp : KeepOk Q (E orc)) (G : GS) : Ref (h3 true e (hook r) (.int .i64 x) G) ((E orc).cl 3 [.int .i64 x] G) := by
  have hm : Ref (h3 true e (hook r) (.int .i64 x) G) (s3 false (Ex.of (E orc)) (.int .i64 x) G) := by
    unfold h3 s3
    repeat' (with_reducible first | exact Ref.rfl' _ | exact ROp.r | refine Ref.bP ?_ fun _ => ?_ | refine Ref.bS ?_ fun _ _ => ?_ | exact Ref.hook (by assumption) | exact Ref.cl (by assumption) | refine Ref.ifV ?_ ?_ | exact Ref.nil _ | refine Ref.bVK (by assumption) ?_ | refine Ref.bV fun _ => ?_ | refine Ref.bLK (j := 0) (v := .int .i64 x) (by assumption) (by assumption) (by simp [clip_t]) fun _ _ _ _ => ?_ | refine Ref.ifE ?_ ?_ | refine Ref.chk ?_ ?_ | refine Imp.and ?_ ?_ | refine Imp.or ?_ | exact Imp.rfl' _ | refine Imp.sameO ?_ | refine Ref.gd ?_)
  exact fun r hr => cl_sxE_some Q orc (vs := [.int .i64 x]) G Try.func3 (by kernel_rfl) (by kernel_rfl) (by kernel_rfl) (by kernel_rfl) (by kernel_rfl) (hm r hr)
theorem run0 (x : Int) : isTrue (h3 true (kE (among [13]) 60) (hook (.int .i64 0)) (.int .i64 x) GS.empty) = true := by kernel_rfl
theorem run1 (x : Int) : isTrue (h3 true (kE (among [13]) 60) (hook (.int .i64 1)) (.int .i64 x) GS.empty) = true := by kernel_rfl
theorem run2 (x : Int) : isTrue (h3 true (kE (among [13]) 60) (hook (.int .i64 2)) (.int .i64 x) GS.empty) = true := by kernel_rfl
theorem run3 (x : Int) : isTrue (h3 true (kE (among [13]) 60) (hook (.int .i64 3)) (.int .i64 x) GS.empty) = true := by kernel_rfl
theorem run4 (x : Int) : isTrue (h3 true (kE (among [13]) 60) (hook (.int .i64 4)) (.int .i64 x) GS.empty) = true := by kernel_rfl
theorem run5 (x : Int) : isTrue (h3 true (kE (among [13]) 60) (hook (.int .i64 5)) (.int .i64 x) GS.empty) = true := by kernel_rfl
theorem run6 (x : Int) : isTrue (h3 true (kE (among [13]) 60) (hook (.int .i64 6)) (.int .i64 x) GS.empty) = true := by kernel_rfl
theorem run7 (x : Int) : isTrue (h3 true (kE (among [13]) 60) (hook (.int .i64 7)) (.int .i64 x) GS.empty) = true := by kernel_rfl
theorem run8 (x : Int) : isTrue (h3 true (kE (among [13]) 60) (hook (.int .i64 8)) (.int .i64 x) GS.empty) = true := by kernel_rfl

theorem run (x : Int) : isTrue (h3 true (kE (among [13]) 60) (hook (.int .i64 (x % 9))) (.int .i64 x) GS.empty) = true := by
  have h : x % 9 = 0 ∨ x % 9 = 1 ∨ x % 9 = 2 ∨ x % 9 = 3 ∨ x % 9 = 4 ∨ x % 9 = 5 ∨ x % 9 = 6 ∨ x % 9 = 7 ∨ x % 9 = 8 := by omega
  rcases h with h | h | h | h | h | h | h | h | h
  · rw [h]; exact run0 x
  · rw [h]; exact run1 x
  · rw [h]; exact run2 x
  · rw [h]; exact run3 x
  · rw [h]; exact run4 x
  · rw [h]; exact run5 x
  · rw [h]; exact run6 x
  · rw [h]; exact run7 x
  · rw [h]; exact run8 x
theorem law_true (x : Int) (w : World) : Calls Q 3 #[.int .i64 x] w fun e w' => e = .returned (.bool true) ∧ Go.RowKit.Below w.heap.size w w' :=
  let ⟨_, hG⟩ := isTrue_of (law_of (among [13]) (kE_ok _ 60) x ⟨pick_ok _ x⟩ ⟨fun j => keep_evL Q j _⟩ GS.empty) (run x)
  law_plain (by kernel_rfl) okOrc hG fun _ => ⟨V_int.2 rfl, trivial⟩
end Go.Proofs.Ytgcceeillefbpaa.Lift
