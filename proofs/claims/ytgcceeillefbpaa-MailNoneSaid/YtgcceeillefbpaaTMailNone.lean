/- closed functions that the tables find true -/
import Derived.Test.YtgcceeillefbpaaKMailNonea
import Derived.Test.YtgcceeillefbpaaGhKP
set_option linter.unusedSimpArgs false
namespace Go.Proofs.Ytgcceeillefbpaa.Lift
open Go Go.Proofs.Ytgcceeillefbpaa.Gh Go.Proofs
set_option linter.unusedVariables false
set_option maxRecDepth 100000
theorem okNone : OrcOk Q (among []) := among_ok _ fun f hf => by simp at hf
theorem true23 : isTrue ((kE (among []) 60).ev.cl 23 [] GS.empty) = true := by kernel_rfl
theorem okOrc : OrcOk Q (among [23]) := among_ok _ fun f hf => by
  simp only [List.mem_cons, List.not_mem_nil, or_false] at hf
  rcases hf with rfl
  · exact ⟨⟨_, Try.func23, by kernel_rfl, by kernel_rfl⟩, closed_kE okNone (by kernel_rfl) true23⟩
theorem pick_ok (orc : FuncId → Bool) (x : Int) (G : GS) : (E orc).cl 11 [.int .i64 x, .int .i64 9] G = some (.int .i64 (x % 9), G) := by
  refine f11 (exL_ok Q orc) _ _ G _ ?_
  have h1 := Int.emod_nonneg x (show (9 : Int) ≠ 0 by decide)
  have h2 := Int.emod_lt_of_pos x (show (0 : Int) < 9 by decide)
  have ht := @Int.tmod_eq_emod x 9
  rw [show Int.natAbs 9 = 9 from rfl] at ht
  by_cases hx : x.tmod 9 < 0
  · have e : x.tmod 9 + 9 = x % 9 := by split at ht <;> omega
    have hw : IntKind.wrap .i64 (x % 9) = x % 9 := wrap64 (by omega) (by omega)
    simp [s11, hx, e, hw]
  · have e : x.tmod 9 = x % 9 := by split at ht <;> omega
    have hx' : ¬ x % 9 < 0 := by omega
    simp [s11, hx', e]
noncomputable def h4 (q : Bool) (e : Ex) (pk : List Value → GS → Option (Value × GS)) (v0 : Value) (G : GS) : Option (Value × GS) :=
  bS (e.ev.cl 5 [(.int .i64 9)] G) fun x0 G1 =>
  bP (pExtract x0 0) fun x2 =>
  bP (pExtract x0 1) fun x3 =>
  bP (bn Q q .neq 23 (.tmp 16) (.const (.int .i64 0)) x3 (.int .i64 0)) fun x4 =>
  bS (gd x4 false (some (x2, G1)) G1) fun x5 G6 =>
  bS (gd x4 false (bP (ep Q q false 22 (.tmp 19) (.const (.pointer none)) x5 (.pointer none)) fun y => some (y, G6)) G6) fun x7 G8 =>
  bP (pickV x4 (.bool true) x7) fun x9 =>
  ifV x9 (
  some ((.bool false), G8)) (
  bP (bd Q q 55 z55 [] []) fun x10 =>
  bS (bx q x10 G8) fun x11 G12 =>
  bS (bs Q q 56 2 (rep z52 2) 1 [(0, 0, 1), (1, 1, 1)] [(.pointer none), x11] G12) fun x13 G14 =>
  bP (bd Q q 64 z64 [] []) fun x15 =>
  bS (bx q x15 G14) fun x16 G17 =>
  bS (bs Q q 65 2 (rep z57 2) 1 [(0, 0, 1), (1, 1, 1)] [(.pointer none), x16] G17) fun x18 G19 =>
  bL q e 4 0 (subAt [1, 1, 1, 1, 0, 1, 0, 0] (bodyOf Try.f4)) 114 (tu (nth undef [v0]) [(2, (.bool false)), (3, x2), (4, x3), (5, x13), (6, x18), (7, (.int .i64 0)), (12, x0), (13, x0), (14, x2), (15, x3), (16, x3), (17, x4), (18, x4), (19, x5), (20, x7), (21, x9), (22, x10), (23, x11), (24, x13), (25, x15), (26, x16), (27, x18)]) G19 fun e20 t21 G22 =>
  bV q (t21 0) fun t21x0_ =>
  bV q (t21 2) fun t21x2_ =>
  bV q (t21 3) fun t21x3_ =>
  ifE e20 (.exit 0) (
  bS (e.ev.cl 19 [] G22) fun x23 G24 =>
  bS (pk [t21x0_, (.int .i64 9)] G24) fun x25 G26 =>
  bP (bn Q q .add 3 (.const (.int .i64 2)) (.tmp 75) (.int .i64 2) x25) fun x27 =>
  bS (e.ev.cl 18 [x23, x27, (.int .i64 1)] G26) fun x28 G29 =>
  bS (e.ev.cl 19 [] G29) fun x30 G31 =>
  bS (al Q q 70 z70 G31) fun x32 G33 =>
  bP (st Q q 70 3 x32 x30 G33) fun G34 =>
  bS (pk [t21x0_, (.int .i64 9)] G34) fun x35 G36 =>
  bP (bn Q q .add 3 (.const (.int .i64 17)) (.tmp 80) (.int .i64 17) x35) fun x37 =>
  bP (fa Q q 70 2 2 x32) fun x38 =>
  bP (st Q q 3 1 x38 x37 G36) fun G39 =>
  bP (lda Q q 70 3 x32 G39) fun x40 =>
  bS (e.ev.cl 20 [x40, t21x3_] G39) fun x41 G42 =>
  bS (e.ev.cl 19 [] G42) fun x43 G44 =>
  bS (e.ev.cl 20 [x43, (.pointer none)] G44) fun x45 G46 =>
  bS (e.ev.cl 15 [x28, t21x3_] G46) fun x47 G48 =>
  bS (gd x47 true (some (x28, G48)) G48) fun x49 G50 =>
  bS (gd x47 true (bS (e.ev.cl 17 [x49] G50) fun y G => some (y, G)) G50) fun x51 G52 =>
  bS (gd x47 true (bP (bn Q q .eql 23 (.tmp 93) (.const (.int .i64 3)) x51 (.int .i64 3)) fun y => some (y, G52)) G52) fun x53 G54 =>
  bP (pickV x47 x53 (.bool false)) fun x55 =>
  bS (gd x55 true (bS (e.ev.cl 19 [] G54) fun y G => some (y, G)) G54) fun x56 G57 =>
  bS (gd x55 true (bS (e.ev.cl 21 [x56, (.int .i64 1), (.pointer none)] G57) fun y G => some (y, G)) G57) fun x58 G59 =>
  bS (gd x55 true (bP (ln Q q 62 x58) fun y => some (y, G59)) G59) fun x60 G61 =>
  bS (gd x55 true (bP (bn Q q .eql 3 (.tmp 99) (.const (.int .i64 0)) x60 (.int .i64 0)) fun y => some (y, G61)) G61) fun x62 G63 =>
  bP (pickV x55 x62 (.bool false)) fun x64 =>
  bS (gd x64 true (bS (e.ev.cl 19 [] G63) fun y G => some (y, G)) G63) fun x65 G66 =>
  bS (gd x64 true (bS (e.ev.cl 22 [x65, (.pointer none)] G66) fun y G => some (y, G)) G66) fun x67 G68 =>
  bP (pickV x64 x67 (.bool false)) fun x69 =>
  bS (gd x69 true (some (t21x3_, G68)) G68) fun x70 G71 =>
  bS (gd x69 true (bS (e.ev.cl 12 [x70] G71) fun y G => some (y, G)) G71) fun x72 G73 =>
  bS (gd x69 true (bP (bn Q q .eql 3 (.tmp 108) (.const (.int .i64 0)) x72 (.int .i64 0)) fun y => some (y, G73)) G73) fun x74 G75 =>
  bP (pickV x69 x74 (.bool false)) fun x76 =>
  bS (gd x76 true (bS (e.ev.cl 23 [] G75) fun y G => some (y, G)) G75) fun x77 G78 =>
  bP (pickV x76 x77 (.bool false)) fun x79 =>
  some (x79, G78)) (ifE e20 .ret (
  some (t21x2_, G22)) (none)))
instance ist_keep0 : Stays 0 (subAt [1, 1, 1, 1, 0, 1, 0, 0] (bodyOf Try.f4)) := ⟨by kernel_rfl⟩
theorem law_of (orc : FuncId → Bool) {e : Ex} (h : ExLe Q e (E orc)) (x : Int) {r : Value} (hk : HookOk (E orc) 11 [.int .i64 x, .int .i64 9] r) (hkp : KeepOk Q (E orc)) (G : GS) : Ref (h4 true e (hook r) (.int .i64 x) G) ((E orc).cl 4 [.int .i64 x] G) := by
  have hm : Ref (h4 true e (hook r) (.int .i64 x) G) (s4 false (Ex.of (E orc)) (.int .i64 x) G) := by
    unfold h4 s4
    repeat' (with_reducible first | exact Ref.rfl' _ | exact ROp.r | refine Ref.bP ?_ fun _ => ?_ | refine Ref.bS ?_ fun _ _ => ?_ | exact Ref.hook (by assumption) | exact Ref.cl (by assumption) | refine Ref.ifV ?_ ?_ | exact Ref.nil _ | refine Ref.bVK (by assumption) ?_ | refine Ref.bV fun _ => ?_ | refine Ref.bLK (j := 0) (v := .int .i64 x) (by assumption) (by assumption) (by simp [clip_t]) fun _ _ _ _ => ?_ | refine Ref.ifE ?_ ?_ | refine Ref.chk ?_ ?_ | refine Imp.and ?_ ?_ | refine Imp.or ?_ | exact Imp.rfl' _ | refine Imp.sameO ?_ | refine Ref.gd ?_)
  exact fun r hr => cl_sxE_some Q orc (vs := [.int .i64 x]) G Try.func4 (by kernel_rfl) (by kernel_rfl) (by kernel_rfl) (by kernel_rfl) (by kernel_rfl) (hm r hr)
theorem run0 (x : Int) : isTrue (h4 true (kE (among [23]) 60) (hook (.int .i64 0)) (.int .i64 x) GS.empty) = true := by kernel_rfl
theorem run1 (x : Int) : isTrue (h4 true (kE (among [23]) 60) (hook (.int .i64 1)) (.int .i64 x) GS.empty) = true := by kernel_rfl
theorem run2 (x : Int) : isTrue (h4 true (kE (among [23]) 60) (hook (.int .i64 2)) (.int .i64 x) GS.empty) = true := by kernel_rfl
theorem run3 (x : Int) : isTrue (h4 true (kE (among [23]) 60) (hook (.int .i64 3)) (.int .i64 x) GS.empty) = true := by kernel_rfl
theorem run4 (x : Int) : isTrue (h4 true (kE (among [23]) 60) (hook (.int .i64 4)) (.int .i64 x) GS.empty) = true := by kernel_rfl
theorem run5 (x : Int) : isTrue (h4 true (kE (among [23]) 60) (hook (.int .i64 5)) (.int .i64 x) GS.empty) = true := by kernel_rfl
theorem run6 (x : Int) : isTrue (h4 true (kE (among [23]) 60) (hook (.int .i64 6)) (.int .i64 x) GS.empty) = true := by kernel_rfl
theorem run7 (x : Int) : isTrue (h4 true (kE (among [23]) 60) (hook (.int .i64 7)) (.int .i64 x) GS.empty) = true := by kernel_rfl
theorem run8 (x : Int) : isTrue (h4 true (kE (among [23]) 60) (hook (.int .i64 8)) (.int .i64 x) GS.empty) = true := by kernel_rfl

theorem run (x : Int) : isTrue (h4 true (kE (among [23]) 60) (hook (.int .i64 (x % 9))) (.int .i64 x) GS.empty) = true := by
  have h : x % 9 = 0 ∨ x % 9 = 1 ∨ x % 9 = 2 ∨ x % 9 = 3 ∨ x % 9 = 4 ∨ x % 9 = 5 ∨ x % 9 = 6 ∨ x % 9 = 7 ∨ x % 9 = 8 := by omega
  rcases h with h | h | h | h | h | h | h | h | h
  · rw [h]; exact run0 x
  · rw [h]; exact run1 x
  · rw [h]; exact run2 x
  · rw [h]; exact run3 x
  · rw [h]; exact run4 x
  · rw [h]; exact run5 x
  · rw [h]; exact run6 x
  · rw [h]; exact run7 x
  · rw [h]; exact run8 x
theorem law_true (x : Int) (w : World) : Calls Q 4 #[.int .i64 x] w fun e w' => e = .returned (.bool true) ∧ Go.RowKit.Below w.heap.size w w' :=
  let ⟨_, hG⟩ := isTrue_of (law_of (among [23]) (kE_ok _ 60) x ⟨pick_ok _ x⟩ ⟨fun j => keep_evL Q j _⟩ GS.empty) (run x)
  law_plain (by kernel_rfl) okOrc hG fun _ => ⟨V_int.2 rfl, trivial⟩
end Go.Proofs.Ytgcceeillefbpaa.Lift
