/- closed functions that the tables find true -/
import Derived.Test.YtmdocnigniefnaaGreatKReadyNonec
import Derived.Test.YtmdocnigniefnaaGreatGhKP
set_option linter.unusedSimpArgs false
namespace Go.Proofs.YtmdocnigniefnaaGreat.Lift
open Go Go.Proofs.YtmdocnigniefnaaGreat.Gh Go.Proofs
set_option linter.unusedVariables false
set_option maxRecDepth 100000
theorem okNone : OrcOk Q (among []) := among_ok _ (fun f hf => by simp at hf) (purOk_none (by kernel_rfl))
theorem true19 : isTrue ((kE (among []) 60).ev.cl 19 [] GS.empty) = true := by kernel_rfl
theorem okOrc : OrcOk Q (among [19]) := among_ok _ (hp := purOk_none (by kernel_rfl)) fun f hf => by
  simp only [List.mem_cons, List.not_mem_nil, or_false] at hf
  rcases hf with rfl
  · exact ⟨⟨_, Tryz.func19, by kernel_rfl, by kernel_rfl⟩, fun w _ => closed_kE okNone (by kernel_rfl) true19 w⟩
theorem pick_ok (orc : FuncId → Bool) (x : Int) (G : GS) : (E orc).cl 17 [.int .i64 x, .int .i64 9] G = some (.int .i64 (x % 9), G) := by
  refine f17 (exL_ok Q orc) _ _ G _ ?_
  have h1 := Int.emod_nonneg x (show (9 : Int) ≠ 0 by decide)
  have h2 := Int.emod_lt_of_pos x (show (0 : Int) < 9 by decide)
  have ht := @Int.tmod_eq_emod x 9
  rw [show Int.natAbs 9 = 9 from rfl] at ht
  by_cases hx : x.tmod 9 < 0
  · have e : x.tmod 9 + 9 = x % 9 := by split at ht <;> omega
    have hw : IntKind.wrap .i64 (x % 9) = x % 9 := wrap64 (by omega) (by omega)
    simp [s17, hx, e, hw]
  · have e : x.tmod 9 = x % 9 := by split at ht <;> omega
    have hx' : ¬ x % 9 < 0 := by omega
    simp [s17, hx', e]
noncomputable def h3 (q : Bool) (e : Ex) (pk : List Value → GS → Option (Value × GS)) (v0 : Value) (G : GS) : Option (Value × GS) :=
  bS (e.ev.cl 6 [(.int .i64 34)] G) fun x0 G1 =>
  bP (pExtract x0 0) fun x2 =>
  bP (pExtract x0 1) fun x3 =>
  bP (bn Q q .neq 23 (.tmp 21) (.const (.int .i64 0)) x3 (.int .i64 0)) fun x4 =>
  bS (gd x4 false (some (x2, G1)) G1) fun x5 G6 =>
  bS (gd x4 false (bP (ep Q q false 22 (.tmp 24) (.const (.pointer none)) x5 (.pointer none)) fun y => some (y, G6)) G6) fun x7 G8 =>
  bP (pickV x4 (.bool true) x7) fun x9 =>
  ifV x9 (
  some ((.bool false), G8)) (
  bP (bd Q q 42 z42 [] []) fun x10 =>
  bS (bx q x10 G8) fun x11 G12 =>
  bS (bs Q q 43 2 (rep z26 2) 1 [(0, 0, 1), (1, 1, 1)] [(.pointer none), x11] G12) fun x13 G14 =>
  bP (bd Q q 50 z50 [] []) fun x15 =>
  bS (bx q x15 G14) fun x16 G17 =>
  bS (bs Q q 51 2 (rep z44 2) 1 [(0, 0, 1), (1, 1, 1)] [(.pointer none), x16] G17) fun x18 G19 =>
  bP (bd Q q 53 z53 [] []) fun x20 =>
  bS (bx q x20 G19) fun x21 G22 =>
  bS (bs Q q 54 2 (rep z52 2) 1 [(0, 0, 1), (1, 1, 1)] [(.pointer none), x21] G22) fun x23 G24 =>
  bP (bd Q q 57 z57 [] []) fun x25 =>
  bS (bx q x25 G24) fun x26 G27 =>
  bS (bs Q q 58 2 (rep z55 2) 1 [(0, 0, 1), (1, 1, 1)] [(.pointer none), x26] G27) fun x28 G29 =>
  bL q e 3 0 (subAt [1, 1, 1, 1, 1, 0, 1, 0, 0] (bodyOf Tryz.f3)) 156 (tu (nth undef [v0]) [(2, (.bool false)), (3, x2), (4, x3), (5, x13), (6, x18), (7, x23), (8, x28), (9, (.int .i64 0)), (17, x0), (18, x0), (19, x2), (20, x3), (21, x3), (22, x4), (23, x4), (24, x5), (25, x7), (26, x9), (27, x10), (28, x11), (29, x13), (30, x15), (31, x16), (32, x18), (33, x20), (34, x21), (35, x23), (36, x25), (37, x26), (38, x28)]) G29 fun e30 t31 G32 =>
  bV q (t31 0) fun t31x0_ =>
  bV q (t31 2) fun t31x2_ =>
  bV q (t31 3) fun t31x3_ =>
  ifE e30 (.exit 0) (
  bS (e.ev.cl 16 [] G32) fun x33 G34 =>
  bS (pk [t31x0_, (.int .i64 9)] G34) fun x35 G36 =>
  bP (bn Q q .add 3 (.const (.int .i64 2)) (.tmp 137) (.int .i64 2) x35) fun x37 =>
  bS (e.ev.cl 15 [x33, x37, (.int .u64 1), (.int .i64 1), (.int .i64 1)] G36) fun x38 G39 =>
  bS (e.ev.cl 10 [x38, t31x3_] G39) fun x40 G41 =>
  bS (gd x40 true (some (x38, G41)) G41) fun x42 G43 =>
  bS (gd x40 true (bS (e.ev.cl 14 [x42] G43) fun y G => some (y, G)) G43) fun x44 G45 =>
  bS (gd x40 true (bP (bn Q q .eql 23 (.tmp 145) (.const (.int .i64 3)) x44 (.int .i64 3)) fun y => some (y, G45)) G45) fun x46 G47 =>
  bP (pickV x40 x46 (.bool false)) fun x48 =>
  bS (gd x48 true (some (t31x3_, G47)) G47) fun x49 G50 =>
  bS (gd x48 true (bS (e.ev.cl 18 [x49] G50) fun y G => some (y, G)) G50) fun x51 G52 =>
  bS (gd x48 true (bP (bn Q q .eql 3 (.tmp 150) (.const (.int .i64 0)) x51 (.int .i64 0)) fun y => some (y, G52)) G52) fun x53 G54 =>
  bP (pickV x48 x53 (.bool false)) fun x55 =>
  bS (gd x55 true (bS (e.ev.cl 19 [] G54) fun y G => some (y, G)) G54) fun x56 G57 =>
  bP (pickV x55 x56 (.bool false)) fun x58 =>
  some (x58, G57)) (ifE e30 .ret (
  some (t31x2_, G32)) (none)))
instance ist_keep0 : Stays 0 (subAt [1, 1, 1, 1, 1, 0, 1, 0, 0] (bodyOf Tryz.f3)) := ⟨by kernel_rfl⟩
set_option maxHeartbeats 8000000 in
theorem law_of (orc : FuncId → Bool) {e : Ex} (h : ExLe Q e (E orc)) (x : Int) {r : Value} (hk : HookOk (E orc) 17 [.int .i64 x, .int .i64 9] r) (hkp : KeepOk Q (E orc)) (G : GS) : Ref (h3 true e (hook r) (.int .i64 x) G) ((E orc).cl 3 [.int .i64 x] G) := by
  have hm : Ref (h3 true e (hook r) (.int .i64 x) G) (s3 false (Ex.of (E orc)) (.int .i64 x) G) := by
    unfold h3 s3
    repeat' (with_reducible first | exact Ref.rfl' _ | exact ROp.r | refine Ref.bP ?_ fun _ => ?_ | refine Ref.bS ?_ fun _ _ => ?_ | exact Ref.hook (by assumption) | exact Ref.cl (by assumption) | refine Ref.ifV ?_ ?_ | exact Ref.nil _ | refine Ref.bVK (by assumption) ?_ | refine Ref.bV fun _ => ?_ | refine Ref.bLK (j := 0) (v := .int .i64 x) (by assumption) (by assumption) (by simp [clip_t]) fun _ _ _ _ => ?_ | refine Ref.ifE ?_ ?_ | refine Ref.chk ?_ ?_ | refine Imp.and ?_ ?_ | refine Imp.or ?_ | exact Imp.rfl' _ | refine Imp.sameO ?_ | refine Ref.gd ?_)
  exact fun r hr => cl_sxE_some Q orc (vs := [.int .i64 x]) G Tryz.func3 (by kernel_rfl) (by kernel_rfl) (by kernel_rfl) (by kernel_rfl) (by kernel_rfl) (by kernel_rfl) (hm r hr)
theorem run0 (x : Int) : isTrue (h3 true (kE (among [19]) 60) (hook (.int .i64 0)) (.int .i64 x) GS.empty) = true := by kernel_rfl
theorem run1 (x : Int) : isTrue (h3 true (kE (among [19]) 60) (hook (.int .i64 1)) (.int .i64 x) GS.empty) = true := by kernel_rfl
theorem run2 (x : Int) : isTrue (h3 true (kE (among [19]) 60) (hook (.int .i64 2)) (.int .i64 x) GS.empty) = true := by kernel_rfl
theorem run3 (x : Int) : isTrue (h3 true (kE (among [19]) 60) (hook (.int .i64 3)) (.int .i64 x) GS.empty) = true := by kernel_rfl
theorem run4 (x : Int) : isTrue (h3 true (kE (among [19]) 60) (hook (.int .i64 4)) (.int .i64 x) GS.empty) = true := by kernel_rfl
theorem run5 (x : Int) : isTrue (h3 true (kE (among [19]) 60) (hook (.int .i64 5)) (.int .i64 x) GS.empty) = true := by kernel_rfl
theorem run6 (x : Int) : isTrue (h3 true (kE (among [19]) 60) (hook (.int .i64 6)) (.int .i64 x) GS.empty) = true := by kernel_rfl
theorem run7 (x : Int) : isTrue (h3 true (kE (among [19]) 60) (hook (.int .i64 7)) (.int .i64 x) GS.empty) = true := by kernel_rfl
theorem run8 (x : Int) : isTrue (h3 true (kE (among [19]) 60) (hook (.int .i64 8)) (.int .i64 x) GS.empty) = true := by kernel_rfl

theorem run (x : Int) : isTrue (h3 true (kE (among [19]) 60) (hook (.int .i64 (x % 9))) (.int .i64 x) GS.empty) = true := by
  have h : x % 9 = 0 ∨ x % 9 = 1 ∨ x % 9 = 2 ∨ x % 9 = 3 ∨ x % 9 = 4 ∨ x % 9 = 5 ∨ x % 9 = 6 ∨ x % 9 = 7 ∨ x % 9 = 8 := by omega
  rcases h with h | h | h | h | h | h | h | h | h
  · rw [h]; exact run0 x
  · rw [h]; exact run1 x
  · rw [h]; exact run2 x
  · rw [h]; exact run3 x
  · rw [h]; exact run4 x
  · rw [h]; exact run5 x
  · rw [h]; exact run6 x
  · rw [h]; exact run7 x
  · rw [h]; exact run8 x
theorem law_true (x : Int) (w : World) : Calls Q 3 #[.int .i64 x] w fun e w' => e = .returned (.bool true) ∧ Go.RowKit.Below w.heap.size w w' :=
  let ⟨_, hG⟩ := isTrue_of (law_of (among [19]) (kE_ok _ 60) x ⟨pick_ok _ x⟩ ⟨fun j => keep_evL Q j _⟩ GS.empty) (run x)
  law_plain (by kernel_rfl) okOrc hG fun _ => ⟨V_int.2 rfl, trivial⟩
end Go.Proofs.YtmdocnigniefnaaGreat.Lift
