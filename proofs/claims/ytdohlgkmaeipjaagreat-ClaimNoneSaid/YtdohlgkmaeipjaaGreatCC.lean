/- contracts of the program's functions -/
import Derived.Test.YtdohlgkmaeipjaaGreatCB
set_option linter.unusedVariables false
set_option linter.unusedSimpArgs false
set_option maxRecDepth 20000
namespace Go.Proofs.YtdohlgkmaeipjaaGreat.Lift
open Go Go.Proofs.YtdohlgkmaeipjaaGreat.Gh Go.Proofs
section
variable {t : TW} {G : GS} {b : Nat}
/-! the first step, on no memory -/
set_option maxHeartbeats 2000000 in
theorem cfirst_ok (orc : FuncId → Bool) (ht : orc 271 = false) (h : G.obj b = some ⟨clC t 1 0 true 0, 1, false, 1⟩) (hb : b < G.nx) : ∃ G', (E orc).cl 64 [P0 b, .pointer none] G = some (.tuple #[], G') ∧ G'.obj b = some ⟨clC t 99 (-1) true 15, 1, false, 1⟩ ∧ (∀ A, Ext A G → A.nx ≤ b → Ext A G') ∧ G.nx ≤ G'.nx ∧ (∀ g, g < G.nx → g ≠ b → G'.obj g = G.obj g) := by
  obtain ⟨G1, hG1⟩ : ∃ G1, G1 = G.put b ⟨clC t 1 0 true 0, 1, false, 1⟩ := ⟨_, rfl⟩
  have n1 : G1.nx = G.nx := by rw [hG1]; rfl
  have o1 : G1.obj b = some ⟨clC t 1 0 true 0, 1, false, 1⟩ := by rw [hG1]; simp
  obtain ⟨G2, e2, x2⟩ := next0_ok orc t G1
  obtain ⟨G3, e3, x3⟩ := load_nil orc (if t.sound then t.heads else -1) G2
  have n2 := x2.nx
  have n3 := x3.nx
  have o3 := ((x2.trans x3).obj b (by omega)).trans o1
  obtain ⟨G4, hG4⟩ : ∃ G4, G4 = G3.put b ⟨clC t 1 0 true 0, 1, false, 1⟩ := ⟨_, rfl⟩
  have n4 : G4.nx = G3.nx := by rw [hG4]; rfl
  have o4 : G4.obj b = some ⟨clC t 1 0 true 0, 1, false, 1⟩ := by rw [hG4]; simp
  obtain ⟨G5, e5, x5⟩ := gettop0_ok orc ht G4
  have n5 := x5.nx
  have o5 := (x5.obj b (by omega)).trans o4
  have hne : ¬ b = G5.nx := by omega
  have xA : ∀ A, Ext A G → A.nx ≤ b → Ext A G5 := fun A hA hAb => by
    have y1 : Ext A G1 := by rw [hG1]; exact hA.put hAb _
    have y4 : Ext A G4 := by rw [hG4]; exact ((y1.trans x2).trans x3).put hAb _
    exact y4.trans x5
  have kk : ∀ g, g < G.nx → g ≠ b → G5.obj g = G.obj g := fun g hg hne => by
    rw [x5.obj g (by omega), hG4, obj_put, if_neg hne, x3.obj g (by omega), x2.obj g (by omega), hG1, obj_put, if_neg hne]
  unfold clC at *
  have w : Wp (s64 true (exL Q orc) (P0 b) (.pointer none) G) fun r => r.1 = .tuple #[] ∧ r.2.obj b = some ⟨clC t 99 (-1) true 15, 1, false, 1⟩ ∧ (∀ A, Ext A G → A.nx ≤ b → Ext A r.2) ∧ G.nx ≤ r.2.nx ∧ (∀ g, g < G.nx → g ≠ b → r.2.obj g = G.obj g) := by
    simp [s64, h, ← hG1, o1, e2, e3, o3, ← hG4, o4, e5, hne, o5, splice_put, splice_end]
    simp [clC]
    refine ⟨fun A hA hAb => ?_, by omega, fun g hg hne => ?_⟩
    · have hn := (xA A hA hAb).nx
      have hB := xA A hA hAb
      repeat' (with_reducible first | refine Ext.put ?_ (by omega) _ | refine Ext.push ?_ _ | refine Ext.room ?_ _ | exact hB)
    · have hne' : ¬ g = G5.nx := by omega
      simp [hne', hne, kk g hg hne]
  obtain ⟨⟨v, G'⟩, e1, rfl, h1, h2, h3, h4⟩ := w
  exact ⟨G', f64 (exL_ok Q orc) _ _ G _ e1, h1, h2, h3, h4⟩
end
end Go.Proofs.YtdohlgkmaeipjaaGreat.Lift

set_option linter.unusedVariables false
set_option linter.unusedSimpArgs false
set_option maxRecDepth 20000
namespace Go.Proofs.YtdohlgkmaeipjaaGreat.Lift
open Go Go.Proofs.YtdohlgkmaeipjaaGreat.Gh Go.Proofs
section
variable {t : TW} {G : GS} {b : Nat}
set_option maxHeartbeats 2000000 in
theorem pfirst_ok (orc : FuncId → Bool) (ht : orc 271 = false) (h : G.obj b = some ⟨pkC t 1 0 true 0, 1, false, 1⟩) (hb : b < G.nx) : ∃ G', (E orc).cl 75 [P0 b, .pointer none] G = some (.tuple #[], G') ∧ G'.obj b = some ⟨pkC t 99 (-1) true 15, 1, false, 1⟩ ∧ (∀ A, Ext A G → A.nx ≤ b → Ext A G') ∧ G.nx ≤ G'.nx ∧ (∀ g, g < G.nx → g ≠ b → G'.obj g = G.obj g) := by
  obtain ⟨G1, hG1⟩ : ∃ G1, G1 = G.put b ⟨pkC t 1 0 true 0, 1, false, 1⟩ := ⟨_, rfl⟩
  have n1 : G1.nx = G.nx := by rw [hG1]; rfl
  have o1 : G1.obj b = some ⟨pkC t 1 0 true 0, 1, false, 1⟩ := by rw [hG1]; simp
  obtain ⟨G2, e2, x2⟩ := next0_ok orc t G1
  obtain ⟨G3, e3, x3⟩ := load_nil orc (if t.sound then t.heads else -1) G2
  have n2 := x2.nx
  have n3 := x3.nx
  have o3 := ((x2.trans x3).obj b (by omega)).trans o1
  obtain ⟨G4, hG4⟩ : ∃ G4, G4 = G3.put b ⟨pkC t 1 0 true 0, 1, false, 1⟩ := ⟨_, rfl⟩
  have n4 : G4.nx = G3.nx := by rw [hG4]; rfl
  have o4 : G4.obj b = some ⟨pkC t 1 0 true 0, 1, false, 1⟩ := by rw [hG4]; simp
  obtain ⟨G5, e5, x5⟩ := gettop0_ok orc ht G4
  have n5 := x5.nx
  have o5 := (x5.obj b (by omega)).trans o4
  have hne : ¬ b = G5.nx := by omega
  have xA : ∀ A, Ext A G → A.nx ≤ b → Ext A G5 := fun A hA hAb => by
    have y1 : Ext A G1 := by rw [hG1]; exact hA.put hAb _
    have y4 : Ext A G4 := by rw [hG4]; exact ((y1.trans x2).trans x3).put hAb _
    exact y4.trans x5
  have kk : ∀ g, g < G.nx → g ≠ b → G5.obj g = G.obj g := fun g hg hne => by
    rw [x5.obj g (by omega), hG4, obj_put, if_neg hne, x3.obj g (by omega), x2.obj g (by omega), hG1, obj_put, if_neg hne]
  unfold pkC at *
  have w : Wp (s75 true (exL Q orc) (P0 b) (.pointer none) G) fun r => r.1 = .tuple #[] ∧ r.2.obj b = some ⟨pkC t 99 (-1) true 15, 1, false, 1⟩ ∧ (∀ A, Ext A G → A.nx ≤ b → Ext A r.2) ∧ G.nx ≤ r.2.nx ∧ (∀ g, g < G.nx → g ≠ b → r.2.obj g = G.obj g) := by
    simp [s75, h, ← hG1, o1, e2, e3, o3, ← hG4, o4, e5, hne, o5, splice_put, splice_end]
    simp [pkC]
    refine ⟨fun A hA hAb => ?_, by omega, fun g hg hne => ?_⟩
    · have hn := (xA A hA hAb).nx
      have hB := xA A hA hAb
      repeat' (with_reducible first | refine Ext.put ?_ (by omega) _ | refine Ext.push ?_ _ | refine Ext.room ?_ _ | exact hB)
    · have hne' : ¬ g = G5.nx := by omega
      simp [hne', hne, kk g hg hne]
  obtain ⟨⟨v, G'⟩, e1, rfl, h1, h2, h3, h4⟩ := w
  exact ⟨G', f75 (exL_ok Q orc) _ _ G _ e1, h1, h2, h3, h4⟩
/-! ### A step -/
theorem cstep_nil (orc : FuncId → Bool) (m : Value) (G : GS) : (E orc).cl 12 [.pointer none, m] G = some (.bool true, G) := by
  refine f12 (exL_ok Q orc) _ _ G _ ?_
  simp [s12]
theorem pstep_nil' (orc : FuncId → Bool) (m : Value) (G : GS) : (E orc).cl 13 [.pointer none, m] G = some (.bool true, G) := by
  refine f13 (exL_ok Q orc) _ _ G _ ?_
  simp [s13, sb13]
theorem cstep_done (orc : FuncId → Bool) {line i err : Int} {made : Bool} (h : G.obj b = some ⟨clC t line i made err, 1, false, 1⟩) (hd : (!made || decide (line = 99)) = true) (m : Value) : (E orc).cl 12 [P0 b, m] G = some (.bool true, G) := by
  have e := cdone_ok orc h
  rw [hd] at e
  refine f12 (exL_ok Q orc) _ _ G _ ?_
  simp [s12, e]
theorem pstep_done (orc : FuncId → Bool) {line i err : Int} {made : Bool} (h : G.obj b = some ⟨pkC t line i made err, 1, false, 1⟩) (hd : (!made || decide (line = 99)) = true) (m : Value) : (E orc).cl 13 [P0 b, m] G = some (.bool true, G) := by
  have e := pdone_ok orc h
  rw [hd] at e
  refine f13 (exL_ok Q orc) _ _ G _ ?_
  simp [s13, sb13, e]
theorem cclaimed_ok (orc : FuncId → Bool) {line i err : Int} {made : Bool} (h : G.obj b = some ⟨clC t line i made err, 1, false, 1⟩) : (E orc).cl 15 [P0 b] G = some (.bool false, G) := by
  unfold clC at h
  refine f15 (exL_ok Q orc) _ G _ ?_
  simp [s15, h]
theorem cclaimed_nil (orc : FuncId → Bool) (G : GS) : (E orc).cl 15 [.pointer none] G = some (.bool false, G) := by
  refine f15 (exL_ok Q orc) _ G _ ?_
  simp [s15]
theorem cby_ok (orc : FuncId → Bool) {line i err : Int} {made : Bool} (h : G.obj b = some ⟨clC t line i made err, 1, false, 1⟩) : (E orc).cl 16 [P0 b] G = some (.int .u64 0, G) := by
  unfold clC at h
  refine f16 (exL_ok Q orc) _ G _ ?_
  simp [s16, h]
theorem cby_nil (orc : FuncId → Bool) (G : GS) : (E orc).cl 16 [.pointer none] G = some (.int .u64 0, G) := by
  refine f16 (exL_ok Q orc) _ G _ ?_
  simp [s16]
theorem pby_ok (orc : FuncId → Bool) {line i err : Int} {made : Bool} (h : G.obj b = some ⟨pkC t line i made err, 1, false, 1⟩) : (E orc).cl 17 [P0 b] G = some (.int .u64 0, G) := by
  unfold pkC at h
  refine f17 (exL_ok Q orc) _ G _ ?_
  simp [s17, h]
theorem pby_nil (orc : FuncId → Bool) (G : GS) : (E orc).cl 17 [.pointer none] G = some (.int .u64 0, G) := by
  refine f17 (exL_ok Q orc) _ G _ ?_
  simp [s17]
theorem citem_nil (orc : FuncId → Bool) (G : GS) : ∃ G', (E orc).cl 10 [.pointer none] G = some (.tuple #[.agg ⟨[.int .u64 0, .int .i64 0]⟩, .int .i64 1], G') ∧ Ext G G' := by
  have w : Wp (s10 true (exL Q orc) (.pointer none) G) fun r => r.1 = .tuple #[.agg ⟨[.int .u64 0, .int .i64 0]⟩, .int .i64 1] ∧ Ext G r.2 := by
    simp [s10, splice_put, splice_end]
    repeat' (with_reducible first | refine Ext.put ?_ (by simp) _ | refine Ext.push ?_ _ | refine Ext.room ?_ _ | exact Ext.refl _)
  obtain ⟨⟨v, G'⟩, e1, rfl, e3⟩ := w
  exact ⟨G', f10 (exL_ok Q orc) _ G _ e1, e3⟩
theorem pitem_nil (orc : FuncId → Bool) (G : GS) : ∃ G', (E orc).cl 11 [.pointer none] G = some (.tuple #[.agg ⟨[.int .u64 0, .int .i64 0]⟩, .int .i64 1], G') ∧ Ext G G' := by
  have w : Wp (s11 true (exL Q orc) (.pointer none) G) fun r => r.1 = .tuple #[.agg ⟨[.int .u64 0, .int .i64 0]⟩, .int .i64 1] ∧ Ext G r.2 := by
    simp [s11, splice_put, splice_end]
    repeat' (with_reducible first | refine Ext.put ?_ (by simp) _ | refine Ext.push ?_ _ | refine Ext.room ?_ _ | exact Ext.refl _)
  obtain ⟨⟨v, G'⟩, e1, rfl, e3⟩ := w
  exact ⟨G', f11 (exL_ok Q orc) _ G _ e1, e3⟩
theorem cItem_ok (orc : FuncId → Bool) {line i err : Int} {made : Bool} (h : G.obj b = some ⟨clC t line i made err, 1, false, 1⟩) (hl : made = true → line = 99) (he : made = true → err ≠ 0) (hb : b < G.nx) : ∃ G', (E orc).cl 10 [P0 b] G = some (.tuple #[.agg ⟨[.int .u64 0, .int .i64 0]⟩, .int .i64 (itE made err)], G') ∧ Ext G G' := by
  have w : Wp (s10 true (exL Q orc) (P0 b) G) fun r => r.1 = .tuple #[.agg ⟨[.int .u64 0, .int .i64 0]⟩, .int .i64 (itE made err)] ∧ Ext G r.2 := by
    have x0 : Ext G (G.push ⟨z44, 1, false, 1⟩) := (Ext.refl G).push _
    obtain ⟨G', e, x⟩ := citem_ok orc ((x0.obj b hb).trans h) hl he (by simp; omega)
    have o := (x.obj G.nx (by simp)).trans (show _ = some ⟨z44, 1, false, 1⟩ by simp)
    simp [s10, e, o, splice_put, splice_end]
    exact (x0.trans x).put (Nat.le_refl _) _
  obtain ⟨⟨v, G'⟩, e1, rfl, e3⟩ := w
  exact ⟨G', f10 (exL_ok Q orc) _ G _ e1, e3⟩
theorem pItem_ok (orc : FuncId → Bool) {line i err : Int} {made : Bool} (h : G.obj b = some ⟨pkC t line i made err, 1, false, 1⟩) (hl : made = true → line = 99) (he : made = true → err ≠ 0) (hb : b < G.nx) : ∃ G', (E orc).cl 11 [P0 b] G = some (.tuple #[.agg ⟨[.int .u64 0, .int .i64 0]⟩, .int .i64 (itE made err)], G') ∧ Ext G G' := by
  have w : Wp (s11 true (exL Q orc) (P0 b) G) fun r => r.1 = .tuple #[.agg ⟨[.int .u64 0, .int .i64 0]⟩, .int .i64 (itE made err)] ∧ Ext G r.2 := by
    have x0 : Ext G (G.push ⟨z44, 1, false, 1⟩) := (Ext.refl G).push _
    obtain ⟨G', e, x⟩ := pitem_ok orc ((x0.obj b hb).trans h) hl he (by simp; omega)
    have o := (x.obj G.nx (by simp)).trans (show _ = some ⟨z44, 1, false, 1⟩ by simp)
    simp [s11, e, o, splice_put, splice_end]
    exact (x0.trans x).put (Nat.le_refl _) _
  obtain ⟨⟨v, G'⟩, e1, rfl, e3⟩ := w
  exact ⟨G', f11 (exL_ok Q orc) _ G _ e1, e3⟩
theorem cstep_go (orc : FuncId → Bool) (ht : orc 271 = false) (h : G.obj b = some ⟨clC t 1 0 true 0, 1, false, 1⟩) (hb : b < G.nx) : ∃ G', (E orc).cl 12 [P0 b, .pointer none] G = some (.bool true, G') ∧ G'.obj b = some ⟨clC t 99 (-1) true 15, 1, false, 1⟩ ∧ (∀ A, Ext A G → A.nx ≤ b → Ext A G') ∧ G.nx ≤ G'.nx ∧ (∀ g, g < G.nx → g ≠ b → G'.obj g = G.obj g) := by
  have e := cdone_ok orc h
  obtain ⟨G', e1, h1, h2, h3, h4⟩ := cfirst_ok orc ht h hb
  have h1' := h1
  unfold clC at h h1
  have w : Wp (s12 true (exL Q orc) (P0 b) (.pointer none) G) fun r => r = (.bool true, G') := by
    simp [s12, e]
    refine Wp.bE ((Wp.lp (l12_0 (exL_ok Q orc)) (Q := fun q => q.1 = .exit 0 ∧ q.2.1 0 = P0 b ∧ q.2.2 = G') ?_).mono ?_)
    · simp [b12_0, bb12_0, jl12_0_1, jbl12_0_1, clip_t, h, e1]
    · rintro ⟨q, τ, G2⟩ ⟨rfl, t0, rfl⟩
      simp only at t0
      simp [t0, h1]
  obtain ⟨r, e3, rfl⟩ := w
  exact ⟨G', f12 (exL_ok Q orc) _ _ G _ e3, h1', h2, h3, h4⟩
theorem pstep_go (orc : FuncId → Bool) (ht : orc 271 = false) (h : G.obj b = some ⟨pkC t 1 0 true 0, 1, false, 1⟩) (hb : b < G.nx) : ∃ G', (E orc).cl 13 [P0 b, .pointer none] G = some (.bool true, G') ∧ G'.obj b = some ⟨pkC t 99 (-1) true 15, 1, false, 1⟩ ∧ (∀ A, Ext A G → A.nx ≤ b → Ext A G') ∧ G.nx ≤ G'.nx ∧ (∀ g, g < G.nx → g ≠ b → G'.obj g = G.obj g) := by
  have e := pdone_ok orc h
  obtain ⟨G', e1, h1, h2, h3, h4⟩ := pfirst_ok orc ht h hb
  have h1' := h1
  unfold pkC at h h1
  refine ⟨G', f13 (exL_ok Q orc) _ _ G _ ?_, h1', h2, h3, h4⟩
  simp [s13, sb13, j13_0, jb13_0, clip_t, e, h, e1, h1]
end
end Go.Proofs.YtdohlgkmaeipjaaGreat.Lift

set_option linter.unusedVariables false
set_option linter.unusedSimpArgs false
set_option maxRecDepth 20000
namespace Go.Proofs.YtdohlgkmaeipjaaGreat.Lift
open Go Go.Proofs.YtdohlgkmaeipjaaGreat.Gh Go.Proofs
theorem req_item (a0 a1 b0 b1 : Int) : prun Q (Op.equalIn 10000 44 (.agg ⟨[.int .u64 a0, .int .i64 a1]⟩) (.agg ⟨[.int .u64 b0, .int .i64 b1]⟩)) = some (a0 == b0 && (a1 == b1 && true)) :=
  eqS (d := 9999) (L := [(41, 0), (3, 1)]) (by kernel_rfl) (by kernel_rfl) (eqL_cons (a := .int .u64 a0) (b := .int .u64 b0) (by kernel_rfl) (by kernel_rfl) (by kernel_rfl) (eqL_cons (a := .int .i64 a1) (b := .int .i64 b1) (by kernel_rfl) (by kernel_rfl) (by kernel_rfl) rfl))
theorem eq_item (x y : Operand) (a0 a1 b0 b1 : Int) : gBinF Q .eql 44 x y (.agg ⟨[.int .u64 a0, .int .i64 a1]⟩) (.agg ⟨[.int .u64 b0, .int .i64 b1]⟩) = some (.bool (a0 == b0 && a1 == b1)) := by
  rw [eql_aggF (op := .eql) (by kernel_rfl) (by kernel_rfl) (by kernel_rfl) (req_item a0 a1 b0 b1)]
  simp
theorem nothing_ok (orc : FuncId → Bool) (e w : Int) (G : GS) : ∃ G', (E orc).cl 14 [.agg ⟨[.int .u64 0, .int .i64 0]⟩, .int .i64 e, .int .i64 w] G = some (.bool (decide (e = w)), G') ∧ Ext G G' := by
  have w : Wp (s14 true (exL Q orc) (.agg ⟨[.int .u64 0, .int .i64 0]⟩) (.int .i64 e) (.int .i64 w) G) fun r => r.1 = .bool (decide (e = w)) ∧ Ext G r.2 := by
    have hz : (Value.agg ⟨z44⟩) = .agg ⟨[.int .u64 0, .int .i64 0]⟩ := rfl
    simp [s14, eq_item]
    exact (Ext.refl G).push _
  obtain ⟨⟨v, G'⟩, e1, rfl, e3⟩ := w
  exact ⟨G', f14 (exL_ok Q orc) _ _ _ G _ e1, e3⟩
structure NoneC (G : GS) (cb pb zc zp : Nat) : Prop where
  uc : cb < G.nx
  up : pb < G.nx
  uzc : zc < G.nx
  uzp : zp < G.nx
  oc : G.obj cb = some ⟨[.pointer none, P0 zc], 1, false, 1⟩
  op : G.obj pb = some ⟨[.pointer none, P0 zp], 1, false, 1⟩
  ozc : G.obj zc = some ⟨clC zT 0 0 false 0, 1, false, 1⟩
  ozp : G.obj zp = some ⟨pkC zT 0 0 false 0, 1, false, 1⟩
theorem NoneC.ext {G G' : GS} {cb pb zc zp : Nat} (h : NoneC G cb pb zc zp) (x : Ext G G') : NoneC G' cb pb zc zp :=
  have n := x.nx
  ⟨Nat.lt_of_lt_of_le h.uc n, Nat.lt_of_lt_of_le h.up n, Nat.lt_of_lt_of_le h.uzc n, Nat.lt_of_lt_of_le h.uzp n,
   (x.obj _ h.uc).trans h.oc, (x.obj _ h.up).trans h.op, (x.obj _ h.uzc).trans h.ozc, (x.obj _ h.uzp).trans h.ozp⟩
structure CIn (τ : Env) (m cb pb : Nat) (i : Int) : Prop where
  t3 : τ 3 = P0 m
  t5 : τ 5 = .slice (some ⟨cb, 0, none⟩) 2 2
  t6 : τ 6 = .slice (some ⟨pb, 0, none⟩) 2 2
  t7 : τ 7 = .int .i64 i
def CPost (B : GS) (τ : Env) (q : Exit × Env × GS) : Prop := q.1 = .exit 0 ∧ Ext B q.2.2 ∧ q.2.1 1 = τ 1 ∧ q.2.1 2 = τ 2 ∧ q.2.1 3 = τ 3
theorem w1' : IntKind.wrap .i64 1 = 1 := by decide
theorem w2' : IntKind.wrap .i64 2 = 2 := by decide
section
variable {B : GS} {m cb pb zc zp : Nat}
theorem cnone_2 (orc : FuncId → Bool) (hB : NoneC B cb pb zc zp) (τ : Env) (G : GS) (h : CIn τ m cb pb 2) (x : Ext B G) : Wp ((exL Q orc).lpx 3 0 τ G) (CPost B τ) := by
  refine Wp.lp (l3_0 (exL_ok Q orc)) ?_
  simp [b3_0, clip_t, h.t3, h.t5, h.t6, h.t7, CPost]
  exact x
theorem itE_f (e : Int) : itE false e = 1 := rfl
theorem cnone_1 (orc : FuncId → Bool) (hB : NoneC B cb pb zc zp) (τ : Env) (G : GS) (h : CIn τ m cb pb 1) (x : Ext B G) : Wp ((exL Q orc).lpx 3 0 τ G) (CPost B τ) := by
  have k := hB.ext x
  obtain ⟨G1, e1, x1⟩ := cItem_ok orc k.ozc (by simp) (by simp) k.uzc
  obtain ⟨G2, hG2⟩ : ∃ G2, G2 = (G1.push ⟨z44, 1, false, 1⟩).put G1.nx ⟨[.int .u64 0, .int .i64 0], 1, false, 1⟩ := ⟨_, rfl⟩
  have x2 : Ext G1 G2 := by rw [hG2]; exact ((Ext.refl G1).push _).put (Nat.le_refl _) _
  have o2 : G2.obj G1.nx = some ⟨[.int .u64 0, .int .i64 0], 1, false, 1⟩ := by rw [hG2]; simp
  have n2 : G2.nx = G1.nx + 1 := by rw [hG2]; rfl
  have k1 := k.ext (x1)
  have k2 := k.ext (x1.trans x2)
  obtain ⟨G3, e3, x3⟩ := pItem_ok orc k2.ozp (by simp) (by simp) k2.uzp
  have n3 := x3.nx
  have o3 := (x3.obj G1.nx (by omega)).trans o2
  obtain ⟨G4, hG4⟩ : ∃ G4, G4 = (G3.push ⟨z44, 1, false, 1⟩).put G3.nx ⟨[.int .u64 0, .int .i64 0], 1, false, 1⟩ := ⟨_, rfl⟩
  have x4 : Ext G3 G4 := by rw [hG4]; exact ((Ext.refl G3).push _).put (Nat.le_refl _) _
  have o4 : G4.obj G3.nx = some ⟨[.int .u64 0, .int .i64 0], 1, false, 1⟩ := by rw [hG4]; simp
  have n4 : G4.nx = G3.nx + 1 := by rw [hG4]; rfl
  have o4' := (x4.obj G1.nx (by omega)).trans o3
  have k3 := k2.ext x3
  have k4 := k3.ext x4
  have s1 := cstep_done orc k4.ozc rfl (P0 m)
  have s2 := pstep_done orc k4.ozp rfl (P0 m)
  rw [itE_f] at e1 e3
  obtain ⟨G5, e5, x5⟩ := nothing_ok orc 1 1 G4
  have o5 := (x5.obj G3.nx (by omega)).trans o4
  obtain ⟨G6, e6, x6⟩ := nothing_ok orc 1 1 G5
  have k6 := k4.ext (x5.trans x6)
  have c1 := cclaimed_ok orc k6.ozc
  have c2 := cby_ok orc k6.ozc
  have c3 := pby_ok orc k6.ozp
  refine Wp.lp (l3_0 (exL_ok Q orc)) ?_
  simp [b3_0, clip_t, h.t3, h.t5, h.t6, h.t7, k.oc, k.op, e1, splice_put, splice_end, ← hG2, k2.oc, k2.op, k1.oc, k1.op, k3.oc, k3.op, e3, ← hG4, k4.oc, k4.op, s1, s2, o4', o4, e5, o5, e6, k6.oc, k6.op, c1, c2, c3]
  refine Wp.mono (cnone_2 (m := m) orc hB _ _ ?_ (x.trans ((((x1.trans x2).trans x3).trans x4).trans (x5.trans x6)))) ?_
  · exact ⟨by simp [clip_t], by simp [clip_t], by simp [clip_t], by simp [clip_t, w1', w2']⟩
  rintro q ⟨q1, q2, q3, q4, q5⟩
  exact ⟨q1, q2, by rw [q3]; simp [clip_t], by rw [q4]; simp [clip_t], by rw [q5, h.t3]; simp [clip_t]⟩
theorem cnone_0 (orc : FuncId → Bool) (hB : NoneC B cb pb zc zp) (τ : Env) (G : GS) (h : CIn τ m cb pb 0) (x : Ext B G) : Wp ((exL Q orc).lpx 3 0 τ G) (CPost B τ) := by
  have k := hB.ext x
  obtain ⟨G1, e1, x1⟩ := citem_nil orc G
  obtain ⟨G2, hG2⟩ : ∃ G2, G2 = (G1.push ⟨z44, 1, false, 1⟩).put G1.nx ⟨[.int .u64 0, .int .i64 0], 1, false, 1⟩ := ⟨_, rfl⟩
  have x2 : Ext G1 G2 := by rw [hG2]; exact ((Ext.refl G1).push _).put (Nat.le_refl _) _
  have o2 : G2.obj G1.nx = some ⟨[.int .u64 0, .int .i64 0], 1, false, 1⟩ := by rw [hG2]; simp
  have n2 : G2.nx = G1.nx + 1 := by rw [hG2]; rfl
  have k1 := k.ext (x1)
  have k2 := k.ext (x1.trans x2)
  obtain ⟨G3, e3, x3⟩ := pitem_nil orc G2
  have n3 := x3.nx
  have o3 := (x3.obj G1.nx (by omega)).trans o2
  obtain ⟨G4, hG4⟩ : ∃ G4, G4 = (G3.push ⟨z44, 1, false, 1⟩).put G3.nx ⟨[.int .u64 0, .int .i64 0], 1, false, 1⟩ := ⟨_, rfl⟩
  have x4 : Ext G3 G4 := by rw [hG4]; exact ((Ext.refl G3).push _).put (Nat.le_refl _) _
  have o4 : G4.obj G3.nx = some ⟨[.int .u64 0, .int .i64 0], 1, false, 1⟩ := by rw [hG4]; simp
  have n4 : G4.nx = G3.nx + 1 := by rw [hG4]; rfl
  have o4' := (x4.obj G1.nx (by omega)).trans o3
  have k3 := k2.ext x3
  have k4 := k3.ext x4
  have s1 := cstep_nil orc (P0 m) G4
  have s2 := pstep_nil' orc (P0 m) G4
  obtain ⟨G5, e5, x5⟩ := nothing_ok orc 1 1 G4
  have o5 := (x5.obj G3.nx (by omega)).trans o4
  obtain ⟨G6, e6, x6⟩ := nothing_ok orc 1 1 G5
  have k6 := k4.ext (x5.trans x6)
  have c1 := cclaimed_nil orc G6
  have c2 := cby_nil orc G6
  have c3 := pby_nil orc G6
  refine Wp.lp (l3_0 (exL_ok Q orc)) ?_
  simp [b3_0, clip_t, h.t3, h.t5, h.t6, h.t7, k.oc, k.op, e1, splice_put, splice_end, ← hG2, k2.oc, k2.op, k1.oc, k1.op, k3.oc, k3.op, e3, ← hG4, k4.oc, k4.op, s1, s2, o4', o4, e5, o5, e6, k6.oc, k6.op, c1, c2, c3]
  refine Wp.mono (cnone_1 (m := m) orc hB _ _ ?_ (x.trans ((((x1.trans x2).trans x3).trans x4).trans (x5.trans x6)))) ?_
  · exact ⟨by simp [clip_t], by simp [clip_t], by simp [clip_t], by simp [clip_t, w1', w2']⟩
  rintro q ⟨q1, q2, q3, q4, q5⟩
  exact ⟨q1, q2, by rw [q3]; simp [clip_t], by rw [q4]; simp [clip_t], by rw [q5, h.t3]; simp [clip_t]⟩
end
end Go.Proofs.YtdohlgkmaeipjaaGreat.Lift

set_option linter.unusedVariables false
set_option linter.unusedSimpArgs false
set_option maxRecDepth 20000
namespace Go.Proofs.YtdohlgkmaeipjaaGreat.Lift
open Go Go.Proofs.YtdohlgkmaeipjaaGreat.Gh Go.Proofs
theorem claimNone (orc : FuncId → Bool) (haw : orc 22 = true) (ht : orc 271 = false) (t : TW) (G : GS) :
    Wp ((E orc).cl 3 [t.v] G) fun q => q.1 = .bool true := by
  have aw : ∀ G, (E orc).cl 22 [] G = some (.bool true, G) := fun G => cl_orc Q orc haw G
  refine Wp.ref (f3 (exL_ok Q orc) _ G) ?_
  obtain ⟨m, G1, e1, x1, hm⟩ := (new_ok orc 34 (G.push ⟨t.cells, 1, false, 1⟩)).2 (by decide) (by decide)
  have n1 := x1.nx
  simp at n1
  have o1 := x1.obj G.nx (by simp)
  simp at o1
  simp [s3, sb3, e1]
  generalize hG2 : (GS.push (GS.push (GS.push (GS.push G1 _) _) _) _) = G2
  have x2 : Ext G1 G2 := by rw [← hG2]; exact ((((Ext.refl G1).push _).push _).push _).push _
  have n2 : G2.nx = G1.nx + 4 := by rw [← hG2]; rfl
  have hB : NoneC G2 (G1.nx + 1) (G1.nx + 3) G1.nx (G1.nx + 2) :=
    ⟨by omega, by omega, by omega, by omega, by rw [← hG2]; simp [Nat.add_assoc], by rw [← hG2]; simp [Nat.add_assoc], by rw [← hG2]; simp [Nat.add_assoc]; rfl, by rw [← hG2]; simp [Nat.add_assoc]; rfl⟩
  clear hG2
  refine Wp.bE ((cnone_0 (m := m) orc hB _ _ ⟨by simp, by simp [Nat.add_assoc], by simp [Nat.add_assoc], by simp⟩ (Ext.refl _)).mono ?_)
  rintro ⟨e, τ, G3⟩ ⟨rfl, x3, q1, q2, q3⟩
  simp at x3 q1 q2 q3
  have y3 := x2.trans x3
  have hm3 := hm.ext y3
  have n3 := y3.nx
  have o3 := (y3.obj G.nx (by omega)).trans o1
  obtain ⟨G4, e4, x4⟩ := rsound_ok orc t G3
  have n4 := x4.nx
  have o4 := (x4.obj G.nx (by omega)).trans o3
  have fin : ∀ (want : Int) (to : Option Addr) (τ : Env), τ 1 = P0 G.nx → τ 3 = P0 m → τ 12 = .int .i64 want → τ 13 = .pointer to → ((t.sound ∧ want = 15 ∧ to = none) ∨ (¬ t.sound ∧ want = 2 ∧ to = some ⟨m, 0, none⟩)) → Wp (j3_0 true (exL Q orc) τ G4) fun q => q.1 = .bool true := by
    intro want to τ t1 t3 t12 t13 hc
    obtain ⟨bc, G5, e5, x5, p5, l5, u5⟩ := newclaim_ok orc t (G4.room 6)
    have n5 := x5.nx
    simp at n5 l5
    have o4' : (G4.room 6).obj G.nx = some ⟨t.cells, 1, false, 1⟩ := by simpa using o4
    have o5 := (x5.obj G.nx (by simp; omega)).trans o4'
    obtain ⟨bp, G6, e6, x6, p6, l6, u6⟩ := newpeek_ok orc t G5
    have n6 := x6.nx
    have p5' := (x6.obj bc u5).trans p5
    have y6 := (((Ext.refl G4).room 6).trans x5).trans x6
    have x4r : Ext G4 (G4.room 6) := (Ext.refl G4).room 6
    -- the two steps, and what they come to
    obtain ⟨G8, ⟨G7, s1, s2⟩, lc, ic, mc, ec, lp', ip, mp, ep, tt, h1, h2, rfl, rfl, rfl, rfl, rfl, rfl, hw, ub, x8⟩ : ∃ G8, (∃ G7, (E orc).cl 12 [P0 bc, .pointer to] G6 = some (.bool true, G7) ∧ (E orc).cl 13 [P0 bp, .pointer to] G7 = some (.bool true, G8)) ∧ ∃ lc ic mc ec lp' ip mp ep tt, G8.obj bc = some ⟨clC tt lc ic mc ec, 1, false, 1⟩ ∧ G8.obj bp = some ⟨pkC tt lp' ip mp ep, 1, false, 1⟩ ∧ lc = 99 ∧ lp' = 99 ∧ ec = want ∧ ep = want ∧ mc = true ∧ mp = true ∧ want ≠ 0 ∧ (bc < G8.nx ∧ bp < G8.nx) ∧ Ext G4 G8 := by
      unfold newC at p5'
      unfold newP at p6
      rcases hc with ⟨hs, rfl, rfl⟩ | ⟨hs, rfl, rfl⟩
      · rw [if_pos hs] at p5' p6
        obtain ⟨G7, e7, a7, b7, c7, d7⟩ := cstep_go orc ht p5' (by omega)
        have p6' := (d7 bp u6 (by omega)).trans p6
        obtain ⟨G8, e8, a8, b8, c8, d8⟩ := pstep_go orc ht p6' (by omega)
        have a7' := (d8 bc (by omega) (by omega)).trans a7
        have z7 := b7 (G4.room 6) (x5.trans x6) (by simpa using l5)
        have z8 := b8 (G4.room 6) z7 (by simp; omega)
        exact ⟨G8, ⟨G7, e7, e8⟩, _, _, _, _, _, _, _, _, _, a7', a8, rfl, rfl, rfl, rfl, rfl, rfl, by decide, ⟨by omega, by omega⟩, x4r.trans z8⟩
      · rw [if_neg hs] at p5' p6
        exact ⟨G6, ⟨G6, cstep_done orc p5' rfl _, pstep_done orc p6 rfl _⟩, _, _, _, _, _, _, _, _, _, p5', p6, rfl, rfl, rfl, rfl, rfl, rfl, by decide, ⟨by omega, by omega⟩, y6⟩
    have n8 := x8.nx
    obtain ⟨G9, e9, x9⟩ := cItem_ok orc h1 (fun _ => rfl) (fun _ => hw) ub.1
    obtain ⟨GA, hGA⟩ : ∃ GA, GA = (G9.push ⟨z44, 1, false, 1⟩).put G9.nx ⟨[.int .u64 0, .int .i64 0], 1, false, 1⟩ := ⟨_, rfl⟩
    have xA : Ext G9 GA := by rw [hGA]; exact ((Ext.refl G9).push _).put (Nat.le_refl _) _
    have oA : GA.obj G9.nx = some ⟨[.int .u64 0, .int .i64 0], 1, false, 1⟩ := by rw [hGA]; simp
    have nA : GA.nx = G9.nx + 1 := by rw [hGA]; rfl
    have n9 := x9.nx
    obtain ⟨GB, eB, xB⟩ := pItem_ok orc (((x9.trans xA).obj bp ub.2).trans h2) (fun _ => rfl) (fun _ => hw) (by omega)
    have nB := xB.nx
    obtain ⟨GC, hGC⟩ : ∃ GC, GC = (GB.push ⟨z44, 1, false, 1⟩).put GB.nx ⟨[.int .u64 0, .int .i64 0], 1, false, 1⟩ := ⟨_, rfl⟩
    have xC : Ext GB GC := by rw [hGC]; exact ((Ext.refl GB).push _).put (Nat.le_refl _) _
    have oC : GC.obj GB.nx = some ⟨[.int .u64 0, .int .i64 0], 1, false, 1⟩ := by rw [hGC]; simp
    have nC : GC.nx = GB.nx + 1 := by rw [hGC]; rfl
    have oC' := ((xB.trans xC).obj G9.nx (by omega)).trans oA
    obtain ⟨GD, eD, xD⟩ := nothing_ok orc ep ep GC
    have oD := (xD.obj GB.nx (by omega)).trans oC
    obtain ⟨GE, eE, xE⟩ := nothing_ok orc ep ep GD
    have zE := (((x9.trans xA).trans xB).trans xC).trans (xD.trans xE)
    have c1 := cclaimed_ok orc ((zE.obj bc ub.1).trans h1)
    obtain ⟨mb, mr, hmE⟩ := hm3.ext ((x4.trans x8).trans zE)
    have cn := count_ok orc hmE
    simp only [itE] at e9 eB
    simp [j3_0, jb3_0, clip_t, t1, t3, t12, t13, o4, o4', o5, e5, e6, s1, s2, e9, ← hGA, eB, ← hGC, oC', eD, oD, eE, c1, cn, aw, MS.zero]
  by_cases hs : t.sound
  · simp only [hs, decide_true] at e4
    simp [q1, q2, q3, o3, e4]
    exact fin 15 none _ (by simp [clip_t, q1]) (by simp [clip_t, q3]) (by simp [clip_t]) (by simp [clip_t]) (.inl ⟨hs, rfl, rfl⟩)
  · simp only [hs, decide_false] at e4
    simp [q1, q2, q3, o3, e4]
    exact fin 2 (some ⟨m, 0, none⟩) _ (by simp [clip_t, q1]) (by simp [clip_t, q3]) (by simp [clip_t]) (by simp [clip_t]) (.inr ⟨hs, rfl, rfl⟩)
end Go.Proofs.YtdohlgkmaeipjaaGreat.Lift

set_option linter.unusedVariables false
set_option linter.unusedSimpArgs false
set_option maxRecDepth 20000
namespace Go.Proofs.YtdohlgkmaeipjaaGreat.Lift
open Go Go.Proofs.YtdohlgkmaeipjaaGreat.Gh Go.Proofs
theorem okNone : OrcOk Q (among []) := among_ok _ (fun f hf => by simp at hf) (purOk_none (by kernel_rfl) (by kernel_rfl))
theorem trueAw : isTrue ((kE (among []) 60).ev.cl 22 [] GS.empty) = true := by kernel_rfl
theorem okAw : OrcOk Q (among [22]) := among_ok _ (hp := purOk_none (by kernel_rfl) (by kernel_rfl)) fun f hf => by
  simp only [List.mem_cons, List.not_mem_nil, or_false] at hf
  subst hf
  exact ⟨⟨_, Tryz.func22, by kernel_rfl, by kernel_rfl⟩, fun w _ => closed_kE okNone (by kernel_rfl) trueAw w⟩
theorem row_tw {r : List Value} (h : Row [some .i64, some .i64, some .i64, some .i64, some .i64, some .i64, some .i64, some .i64, some .i64, some .i64, some .i64, some .i64, some .i64] r) : ∃ x : TW, r = x.cells := by
  match r with
  | [x0, x1, x2, x3, x4, x5, x6, x7, x8, x9, x10, x11, x12] =>
    obtain ⟨⟨a0, h0, _⟩, ⟨a1, h1, _⟩, ⟨a2, h2, _⟩, ⟨a3, h3, _⟩, ⟨a4, h4, _⟩, ⟨a5, h5, _⟩, ⟨a6, h6, _⟩, ⟨a7, h7, _⟩, ⟨a8, h8, _⟩, ⟨a9, h9, _⟩, ⟨a10, h10, _⟩, ⟨a11, h11, _⟩, ⟨a12, h12, _⟩, _⟩ := h
    exact ⟨⟨a0, a1, a2, a3, a4, a5, a6, a7, a8, a9, a10, a11, a12⟩, by rw [h0, h1, h2, h3, h4, h5, h6, h7, h8, h9, h10, h11, h12]⟩
  | [] => exact h.elim
  | [_] => exact h.2.elim
  | [_, _] => exact h.2.2.elim
  | [_, _, _] => exact h.2.2.2.elim
  | [_, _, _, _] => exact h.2.2.2.2.elim
  | [_, _, _, _, _] => exact h.2.2.2.2.2.elim
  | [_, _, _, _, _, _] => exact h.2.2.2.2.2.2.elim
  | [_, _, _, _, _, _, _] => exact h.2.2.2.2.2.2.2.elim
  | [_, _, _, _, _, _, _, _] => exact h.2.2.2.2.2.2.2.2.elim
  | [_, _, _, _, _, _, _, _, _] => exact h.2.2.2.2.2.2.2.2.2.elim
  | [_, _, _, _, _, _, _, _, _, _] => exact h.2.2.2.2.2.2.2.2.2.2.elim
  | [_, _, _, _, _, _, _, _, _, _, _] => exact h.2.2.2.2.2.2.2.2.2.2.2.elim
  | [_, _, _, _, _, _, _, _, _, _, _, _] => exact h.2.2.2.2.2.2.2.2.2.2.2.2.elim
  | _ :: _ :: _ :: _ :: _ :: _ :: _ :: _ :: _ :: _ :: _ :: _ :: _ :: _ :: _ => exact h.2.2.2.2.2.2.2.2.2.2.2.2.2.elim
end Go.Proofs.YtdohlgkmaeipjaaGreat.Lift

