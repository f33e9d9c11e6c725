/- contracts of the program's functions -/
import Derived.Test.YtdohlgkmaeipjaaGreatNB
set_option linter.unusedVariables false
set_option linter.unusedSimpArgs false
set_option maxRecDepth 20000
namespace Go.Proofs.YtdohlgkmaeipjaaGreat.Lift
open Go Go.Proofs.YtdohlgkmaeipjaaGreat.Gh Go.Proofs
theorem req_97 (a0 a1 a2 a3 b0 b1 b2 b3 : Int) : prun Q (Op.equalIn 10000 97 (.agg ⟨[.int .i64 a0, .int .i64 a1, .int .i64 a2, .int .i64 a3]⟩) (.agg ⟨[.int .i64 b0, .int .i64 b1, .int .i64 b2, .int .i64 b3]⟩)) = some (a0 == b0 && (a1 == b1 && (a2 == b2 && (a3 == b3 && true)))) :=
  eqS (d := 9999) (L := [(3, 0), (3, 1), (3, 2), (3, 3)]) (by kernel_rfl) (by kernel_rfl) (eqL_cons (a := .int .i64 a0) (b := .int .i64 b0) (by kernel_rfl) (by kernel_rfl) (by kernel_rfl) (eqL_cons (a := .int .i64 a1) (b := .int .i64 b1) (by kernel_rfl) (by kernel_rfl) (by kernel_rfl) (eqL_cons (a := .int .i64 a2) (b := .int .i64 b2) (by kernel_rfl) (by kernel_rfl) (by kernel_rfl) (eqL_cons (a := .int .i64 a3) (b := .int .i64 b3) (by kernel_rfl) (by kernel_rfl) (by kernel_rfl) rfl))))
theorem eq_97 (x y : Operand) (a0 a1 a2 a3 : Int) : gBinF Q .eql 97 x y (.agg ⟨[.int .i64 a0, .int .i64 a1, .int .i64 a2, .int .i64 a3]⟩) (.agg ⟨[.int .i64 a0, .int .i64 a1, .int .i64 a2, .int .i64 a3]⟩) = some (.bool true) := by
  rw [eql_aggF (op := .eql) (by kernel_rfl) (by kernel_rfl) (by kernel_rfl) (req_97 a0 a1 a2 a3 a0 a1 a2 a3)]
  simp
theorem box_form (x : MB) (c : Int) : ∃ r0 r1 r2 r3 is, x.box c = .tuple #[.agg ⟨[.int .i64 r0, .int .i64 r1, .int .i64 r2, .int .i64 r3]⟩, .bool is] := by
  unfold MB.box MB.ring
  split
  · exact ⟨_, _, _, _, _, rfl⟩
  · exact ⟨_, _, _, _, _, rfl⟩
set_option maxHeartbeats 1000000 in
theorem mailNew (orc : FuncId → Bool) (ha : orc 39 = true) (x : MB) (c v : Int) (G : GS) : Wp ((E orc).cl 6 [x.v, .int .i64 c, .int .i64 v] G) fun r => r.1 = .bool true := by
  refine Wp.ref (f6 (exL_ok Q orc) _ _ _ G) ?_
  obtain ⟨r0, r1, r2, r3, is, hbox⟩ := box_form x c
  obtain ⟨G1, hG1⟩ : ∃ G1, G1 = G.push ⟨x.cells, 1, false, 1⟩ := ⟨_, rfl⟩
  have n1 : G1.nx = G.nx + 1 := by rw [hG1]; rfl
  have o1 : G1.obj G.nx = some ⟨x.cells, 1, false, 1⟩ := by rw [hG1]; simp
  obtain ⟨G2, e2, x2⟩ := mbox_ok orc x c G1
  rw [hbox] at e2
  obtain ⟨G3, hG3⟩ : ∃ G3, G3 = (G2.push ⟨zR, 1, false, 1⟩).put G2.nx ⟨[.int .i64 r0, .int .i64 r1, .int .i64 r2, .int .i64 r3], 1, false, 1⟩ := ⟨_, rfl⟩
  have n2 := x2.nx
  have n3 : G3.nx = G2.nx + 1 := by rw [hG3]; rfl
  have x3 : Ext G1 G3 := by rw [hG3]; exact (x2.push _).put n2 _
  have o3 := (x3.obj G.nx (by omega)).trans o1
  have p3 : G3.obj G2.nx = some ⟨[.int .i64 r0, .int .i64 r1, .int .i64 r2, .int .i64 r3], 1, false, 1⟩ := by rw [hG3]; simp
  obtain ⟨G4, e4, x4⟩ := rbox_ok orc x c G3
  rw [hbox] at e4
  have n4 := x4.nx
  obtain ⟨G5, hG5⟩ : ∃ G5, G5 = ((G4.push ⟨zR, 1, false, 1⟩).put G4.nx ⟨[.int .i64 r0, .int .i64 r1, .int .i64 r2, .int .i64 r3], 1, false, 1⟩).room 35 := ⟨_, rfl⟩
  have x5 : Ext G3 G5 := by rw [hG5]; exact ((x4.push _).put n4 _).room 35
  have o5 := (x5.obj G.nx (by omega)).trans o3
  have p5 := (x5.obj G2.nx (by omega)).trans p3
  have q5 : G5.obj G4.nx = some ⟨[.int .i64 r0, .int .i64 r1, .int .i64 r2, .int .i64 r3], 1, false, 1⟩ := by rw [hG5]; simp
  have n5 : G4.nx + 1 ≤ G5.nx := by rw [hG5]; simp
  obtain ⟨G6, e6, x6⟩ := msize_ok orc x G5
  have o6 := (x6.obj G.nx (by omega)).trans o5
  have n6 := x6.nx
  obtain ⟨G7, e7, x7⟩ := rsize_ok orc x G6
  have o7 := (x7.obj G.nx (by omega)).trans o6
  have n7 := x7.nx
  obtain ⟨u8, G8, e8, x8, b8⟩ := begin_s orc x c v 0 G7
  obtain ⟨G9, e9, x9⟩ := told_s orc b8
  have n8 := (x8.trans x9).nx
  have o9 := ((x8.trans x9).obj G.nx (by omega)).trans o7
  obtain ⟨u10, G10, e10, x10, b10⟩ := begin_d orc x c v 0 G9
  obtain ⟨G11, e11, x11⟩ := told_d orc b10
  have haw := cl_orc Q orc ha G11
  simp [s6, ← hG1, o1, e2, ← hG3, o3, e4, ← hG5, p5, q5, eq_97, o5, e6, o6, e7, o7, e8, e9, o9, e10, e11, splice_put, splice_end]
  simp [haw]
end Go.Proofs.YtdohlgkmaeipjaaGreat.Lift

set_option linter.unusedVariables false
set_option linter.unusedSimpArgs false
set_option maxRecDepth 20000
namespace Go.Proofs.YtdohlgkmaeipjaaGreat.Lift
open Go Go.Proofs.YtdohlgkmaeipjaaGreat.Gh Go.Proofs
theorem trueAw : closedTrueF Q 200 39 = true := by kernel_rfl
theorem okAw : OrcOk Q (among [39]) := among_ok _ (hp := purOk_none (by kernel_rfl) (by kernel_rfl)) fun f hf => by
  simp only [List.mem_cons, List.not_mem_nil, or_false] at hf
  subst hf
  exact ⟨⟨_, Tryz.func39, by kernel_rfl, by kernel_rfl⟩, fun w _ => closed_trueF (by kernel_rfl) trueAw w⟩
theorem row_mb {r : List Value} (h : Row [some .i64, some .i64, some .i64] r) : ∃ x : MB, r = x.cells := by
  match r with
  | [] => exact h.elim
  | [_] => exact h.2.elim
  | [_, _] => exact h.2.2.elim
  | x :: y :: z :: q :: l => exact h.2.2.2.elim
  | [x, y, z] =>
    obtain ⟨⟨a, ha, _⟩, ⟨b, hb, _⟩, ⟨c, hc, _⟩, _⟩ := h
    exact ⟨⟨a, b, c⟩, by rw [ha, hb, hc]⟩
end Go.Proofs.YtdohlgkmaeipjaaGreat.Lift

