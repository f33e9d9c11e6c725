/- contracts of the program's functions -/
import Derived.Test.YtdohlgkmaeipjaaGreatXA
set_option linter.unusedVariables false
set_option linter.unusedSimpArgs false
set_option maxRecDepth 20000
namespace Go.Proofs.YtdohlgkmaeipjaaGreat.Lift
open Go Go.Proofs.YtdohlgkmaeipjaaGreat.Gh Go.Proofs
/-! ### Any word read as a ref -/
theorem take_mid (orc : FuncId → Bool) {w : Int} (h : U w) (G : GS) : ∃ G', (E orc).cl 272 [.int .u64 w, .agg ⟨[.int .i64 16, .int .i64 32]⟩] G = some (.int .i64 (w / 65536 % 4294967296), G') ∧ Ext G G' := by
  refine ⟨(G.push ⟨[.int .i64 16, .int .i64 32], 1, false, 1⟩).room 11, f272 (exL_ok Q orc) _ _ G _ ?_, ((Ext.refl G).push _).room 11⟩
  have e1 : shlI .u64 1 32 = 4294967296 := by decide
  have e2 : IntKind.wrap .u64 4294967295 = 4294967295 := by decide
  have e3 : IntKind.wrap .i64 (w / 65536 % 4294967296) = w / 65536 % 4294967296 := wrap64 (by omega) (by omega)
  simp [s272, shr_16 h, e1, e2, and_32 (U_div h 65536 (by decide)), e3]
theorem shr_63 {w : Int} (h : U w) : shrI .u64 w 63 = w / 9223372036854775808 := by
  show w.fdiv (2 ^ (min (63 : Int).toNat 64)) = _
  rw [show (min (63 : Int).toNat 64) = 63 from rfl, Int.fdiv_eq_ediv_of_nonneg _ (by decide)]; rfl
theorem marked_ok (orc : FuncId → Bool) {w : Int} (h : U w) (G : GS) : (E orc).cl 192 [.int .u64 w] G = some (.bool (decide (9223372036854775808 ≤ w)), G) := by
  refine f192 (exL_ok Q orc) _ G _ ?_
  have h1 := h.1; have h2 := h.2
  have e : (w / 9223372036854775808 = 1) = (9223372036854775808 ≤ w) := by rw [eq_iff_iff]; omega
  simp [s192, shr_63 h, e]
theorem marks_t (orc : FuncId → Bool) {w : Int} (h0 : 0 ≤ w) (h1 : w < 9223372036854775808) (G : GS) : (E orc).cl 194 [.int .u64 w, .bool true] G = some (.int .u64 (w + 9223372036854775808), G) := by
  refine f194 (exL_ok Q orc) _ _ G _ ?_
  have hu1 : U w := ⟨h0, by omega⟩
  have hu2 : U 9223372036854775808 := ⟨by decide, by decide⟩
  have k := or_add 63 1 hu2 hu1 (by decide) (by omega)
  have e : orI .u64 w 9223372036854775808 = w + 9223372036854775808 := by
    rw [or_u64 hu1 hu2, Nat.or_comm, ← or_u64 hu2 hu1, k]; omega
  simp [s194, e]
def mkI (m : Bool) : Int := if m then 9223372036854775808 else 0
theorem marks_ok (orc : FuncId → Bool) {w : Int} (m : Bool) (h0 : 0 ≤ w) (h1 : w < 9223372036854775808) (G : GS) : (E orc).cl 194 [.int .u64 w, .bool m] G = some (.int .u64 (w + mkI m), G) := by
  cases m
  · simpa [mkI] using marks_f orc h0 h1 G
  · simpa [mkI] using marks_t orc h0 h1 G
theorem putrefm_ok (orc : FuncId → Bool) (ht : orc 284 = false) {i g : Int} (m : Bool) (h0 : -1 ≤ i ∧ i ≤ 65534) (h1 : 0 ≤ g ∧ g < 4294967296) (G : GS) : ∃ G', (E orc).cl 285 [.agg ⟨[.int .i64 i, .int .i64 g, .bool m]⟩] G = some (if i = -1 ∧ g ≠ 0 then .tuple #[.int .u64 0, .int .i64 5] else .tuple #[.int .u64 (wordT i g + mkI m), .int .i64 0], G') ∧ Ext G G' := by
  have x1 : Ext G ((G.push ⟨[.int .i64 i, .int .i64 g, .bool m], 1, false, 1⟩).push ⟨[.int .i64 i, .int .i64 (-1), .int .i64 65534, .int .i64 g, .int .i64 0, .int .i64 4294967295], 3, false, 1⟩) := ((Ext.refl G).push _).push _
  have o1 : ((G.push ⟨[.int .i64 i, .int .i64 g, .bool m], 1, false, 1⟩).push ⟨[.int .i64 i, .int .i64 (-1), .int .i64 65534, .int .i64 g, .int .i64 0, .int .i64 4294967295], 3, false, 1⟩).obj G.nx = some ⟨[.int .i64 i, .int .i64 g, .bool m], 1, false, 1⟩ := by simp
  have p1 : ((G.push ⟨[.int .i64 i, .int .i64 g, .bool m], 1, false, 1⟩).push ⟨[.int .i64 i, .int .i64 (-1), .int .i64 65534, .int .i64 g, .int .i64 0, .int .i64 4294967295], 3, false, 1⟩).obj (G.nx + 1) = some ⟨[.int .i64 i, .int .i64 (-1), .int .i64 65534, .int .i64 g, .int .i64 0, .int .i64 4294967295], 3, false, 1⟩ := by simp
  have n1 : ((G.push ⟨[.int .i64 i, .int .i64 g, .bool m], 1, false, 1⟩).push ⟨[.int .i64 i, .int .i64 (-1), .int .i64 65534, .int .i64 g, .int .i64 0, .int .i64 4294967295], 3, false, 1⟩).nx = G.nx + 2 := rfl
  have hw : wordT i g = i + 1 + g * 65536 := rfl
  have w : Wp (s285 true (exL Q orc) (.agg ⟨[.int .i64 i, .int .i64 g, .bool m]⟩) G) fun r => r.1 = (if i = -1 ∧ g ≠ 0 then .tuple #[.int .u64 0, .int .i64 5] else .tuple #[.int .u64 (wordT i g + mkI m), .int .i64 0]) ∧ Ext G r.2 := by
    simp only [s285]
    simp
    generalize hG1 : (GS.push (GS.push G _) _) = G1 at *
    obtain ⟨G2, e2, x2⟩ := within2_ok orc p1 (by omega) ⟨by omega, h0.2⟩ ⟨h1.1, by omega⟩
    have n2 := x2.nx
    have o2 := (x2.obj G.nx (by omega)).trans o1
    by_cases hb : i = -1 ∧ g ≠ 0
    · have hb1 := hb.1
      have hb2 := hb.2
      subst hb1
      simp [e2, o2, hb2]
      exact x1.trans x2
    · obtain ⟨G3, e3, x3⟩ := refs_ok orc ht G2
      have n3 := x3.nx
      have o3 := (x3.obj G.nx (by omega)).trans o2
      have hne : ¬ G.nx = G3.nx := by omega
      have hi : IntKind.wrap .i64 (i + 1) = i + 1 := wrap64 (by omega) (by omega)
      obtain ⟨G5, hG5⟩ : ∃ G5, G5 = ((((((G3.push ⟨z393, 1, false, 1⟩).put G3.nx ⟨[.int .i64 0, .int .i64 16, .int .i64 16, .int .i64 32], 1, false, 1⟩).room 13).at' (G3.nx + 1 + 6)).push ⟨[.int .i64 (i + 1), .int .i64 g], 1, false, 1⟩).back (((G3.push ⟨z393, 1, false, 1⟩).put G3.nx ⟨[.int .i64 0, .int .i64 16, .int .i64 16, .int .i64 32], 1, false, 1⟩).room 13)) := ⟨_, rfl⟩
      have x5 : Ext G3 G5 := by rw [hG5]; exact Ext.drawn ((((Ext.refl G3).push _).put (Nat.le_refl _) _).room 13) (by omega) (by simp; omega) _
      have p5 : G5.obj G3.nx = some ⟨[.int .i64 0, .int .i64 16, .int .i64 16, .int .i64 32], 1, false, 1⟩ := by rw [hG5]; simp; omega
      have c5 : G5.obj (G3.nx + 1 + 6) = some ⟨[.int .i64 (i + 1), .int .i64 g], 1, false, 1⟩ := by rw [hG5]; simp
      have n5 : G5.nx = G3.nx + 1 + 13 := by rw [hG5]; simp
      have o5 := (x5.obj G.nx (by omega)).trans o3
      obtain ⟨G6, e6, x6⟩ := lay2_ok orc p5 c5 (by omega) (by omega)
      rw [lay_val (by omega) (by omega)] at e6
      have o6 := (x6.obj G.nx (by omega)).trans o5
      have e7 := marks_ok orc (w := wordT i g) m (by omega) (by omega) G6
      have hne6 : ¬ G.nx = G3.nx + 1 + 6 := by omega
      by_cases hi1 : i = -1
      · have hg : g = 0 := Classical.byContradiction fun h => hb ⟨hi1, h⟩
        have q1 : (i = -1) = True := eq_true hi1
        have q2 : (g = 0) = True := eq_true hg
        simp [e2, o2, q1, q2, e3, hne, o3, splice_put, splice_end, slA, bound, hi, ← hG5, e6, o5, o6, e7, hne6]
        exact (((x1.trans x2).trans x3).trans x5).trans x6
      · simp [e2, o2, hi1, e3, hne, o3, splice_put, splice_end, slA, bound, hi, ← hG5, e6, o5, o6, e7, hne6]
        exact (((x1.trans x2).trans x3).trans x5).trans x6
  obtain ⟨⟨v, G'⟩, e1, rfl, e3⟩ := w
  exact ⟨G', f285 (exL_ok Q orc) _ G _ e1, e3⟩
/-- a ref that a word is -/
def refOk (w : Int) : Prop := ¬ (w % 65536 = 0 ∧ w / 65536 % 4294967296 ≠ 0) ∧ w = w % 65536 + (w / 65536 % 4294967296) * 65536 + mkI (decide (9223372036854775808 ≤ w))
instance (w : Int) : Decidable (refOk w) := by unfold refOk; exact inferInstance
def refV (w : Int) : List Value := if refOk w then [.int .i64 (w % 65536 - 1), .int .i64 (w / 65536 % 4294967296), .bool (decide (9223372036854775808 ≤ w))] else [.int .i64 0, .int .i64 0, .bool false]
theorem getref_ok (orc : FuncId → Bool) (ht : orc 284 = false) {w : Int} (h : U w) (G : GS) : ∃ G', (E orc).cl 203 [.int .u64 w] G = some (.tuple #[.agg ⟨refV w⟩, .int .i64 (if refOk w then 0 else 5)], G') ∧ Ext G G' := by
  obtain ⟨G1, hG1⟩ : ∃ G1, G1 = G.push ⟨[.int .i64 0, .int .i64 0, .bool false], 1, false, 1⟩ := ⟨_, rfl⟩
  have x1 : Ext G G1 := by rw [hG1]; exact (Ext.refl G).push _
  have n1 : G1.nx = G.nx + 1 := by rw [hG1]; rfl
  have o1 : G1.obj G.nx = some ⟨[.int .i64 0, .int .i64 0, .bool false], 1, false, 1⟩ := by rw [hG1]; simp
  obtain ⟨G2, e2, x2⟩ := refs_ok orc ht G1
  have n2 := x2.nx
  obtain ⟨G3, hG3⟩ : ∃ G3, G3 = ((G2.push ⟨z393, 1, false, 1⟩).put G2.nx ⟨[.int .i64 0, .int .i64 16, .int .i64 16, .int .i64 32], 1, false, 1⟩).room 14 := ⟨_, rfl⟩
  have x3 : Ext G2 G3 := by rw [hG3]; exact (((Ext.refl G2).push _).put (Nat.le_refl _) _).room 14
  have p3 : G3.obj G2.nx = some ⟨[.int .i64 0, .int .i64 16, .int .i64 16, .int .i64 32], 1, false, 1⟩ := by rw [hG3]; simp
  have n3 : G3.nx = G2.nx + 1 + 14 := by rw [hG3]; rfl
  obtain ⟨G4, e4, x4⟩ := take_lo orc h G3
  have p4 := (x4.obj _ (by omega)).trans p3
  have n4 := x4.nx
  obtain ⟨G5, e5, x5⟩ := take_mid orc h G4
  have n5 := x5.nx
  have e6 := marked_ok orc h G5
  have hm : IntKind.wrap .i64 (w % 65536 - 1) = w % 65536 - 1 := wrap64 (by omega) (by omega)
  generalize hmk : decide (9223372036854775808 ≤ w) = mk at *
  obtain ⟨G6, hG6⟩ : ∃ G6, G6 = ((((G5.at' (G2.nx + 1 + 12)).push ⟨[.int .i64 0, .int .i64 0, .bool false], 1, false, 1⟩).back G5).put (G2.nx + 1 + 12) ⟨[.int .i64 (w % 65536 - 1), .int .i64 (w / 65536 % 4294967296), .bool mk], 1, false, 1⟩) := ⟨_, rfl⟩
  have x6 : Ext G2 G6 := by rw [hG6]; exact (Ext.drawn ((x3.trans x4).trans x5) (by omega) (by omega) _).put (by omega) _
  have n6 : G6.nx = G5.nx := by rw [hG6]; simp
  have o6 : G6.obj (G2.nx + 1 + 12) = some ⟨[.int .i64 (w % 65536 - 1), .int .i64 (w / 65536 % 4294967296), .bool mk], 1, false, 1⟩ := by rw [hG6]; simp
  have r6 := (x6.obj G.nx (by omega)).trans ((x2.obj G.nx (by omega)).trans o1)
  obtain ⟨G7, e7, x7⟩ := putrefm_ok orc ht mk (i := w % 65536 - 1) (g := w / 65536 % 4294967296) (by omega) (by omega) G6
  have o7 := (x7.obj _ (by omega)).trans o6
  have r7 := (x7.obj G.nx (by omega)).trans r6
  have y7 := (x1.trans (x2.trans x6)).trans x7
  have hne : ¬ G.nx = G2.nx + 1 + 12 := by omega
  have hwt : wordT (w % 65536 - 1) (w / 65536 % 4294967296) = w % 65536 + w / 65536 % 4294967296 * 65536 := by unfold wordT; omega
  have wp : Wp (s203 true (exL Q orc) (.int .u64 w) G) fun q => q.1 = .tuple #[.agg ⟨refV w⟩, .int .i64 (if refOk w then 0 else 5)] ∧ Ext G q.2 := by
    by_cases hok : refOk w
    · have hok' := hok
      unfold refOk at hok'
      rw [hmk] at hok'
      have hc : ¬ (w % 65536 - 1 = -1 ∧ w / 65536 % 4294967296 ≠ 0) := fun h => hok'.1 ⟨by omega, h.2⟩
      rw [if_neg hc, hwt, ← hok'.2] at e7
      simp [s203, ← hG1, e2, splice_put, splice_end, splice_succ, ← hG3, p3, e4, p4, e5, e6, hm, ← hG6, o6, e7, o7, r7, hne, hok, refV, hmk]
      exact y7.put (by omega) _
    · have hok' := hok
      unfold refOk at hok'
      rw [hmk] at hok'
      by_cases hc : w % 65536 - 1 = -1 ∧ w / 65536 % 4294967296 ≠ 0
      · rw [if_pos hc] at e7
        simp [s203, ← hG1, e2, splice_put, splice_end, splice_succ, ← hG3, p3, e4, p4, e5, e6, hm, ← hG6, o6, e7, o7, r7, hne, hok, refV, hmk]
        exact y7.put (by omega) _
      · rw [if_neg hc, hwt] at e7
        have hv : ¬ w % 65536 + w / 65536 % 4294967296 * 65536 + mkI mk = w := fun h => hok' ⟨fun k => hc ⟨by omega, k.2⟩, h.symm⟩
        simp [s203, ← hG1, e2, splice_put, splice_end, splice_succ, ← hG3, p3, e4, p4, e5, e6, hm, ← hG6, o6, e7, o7, r7, hne, hok, refV, hmk, hv]
        exact y7.put (by omega) _
  obtain ⟨⟨v, G'⟩, e1, rfl, e3⟩ := wp
  exact ⟨G', f203 (exL_ok Q orc) _ G _ e1, e3⟩
theorem refV_iff {w i : Int} (h : U w) (hi : 0 ≤ i ∧ i < 65535) : (refOk w ∧ ¬ 9223372036854775808 ≤ w ∧ w % 65536 - 1 = i ∧ w / 65536 % 4294967296 = 0) ↔ w = i + 1 := by
  have h1 := h.1; have h2 := h.2
  constructor
  · rintro ⟨⟨-, h3⟩, h4, h5, h6⟩
    rw [decide_eq_false h4] at h3
    simp only [mkI] at h3
    simp at h3
    omega
  · intro e
    have h4 : ¬ 9223372036854775808 ≤ w := by omega
    refine ⟨⟨by omega, ?_⟩, h4, by omega, by omega⟩
    rw [decide_eq_false h4]
    simp only [mkI]
    simp; omega
end Go.Proofs.YtdohlgkmaeipjaaGreat.Lift

set_option linter.unusedVariables false
set_option linter.unusedSimpArgs false
set_option maxRecDepth 20000
namespace Go.Proofs.YtdohlgkmaeipjaaGreat.Lift
open Go Go.Proofs.YtdohlgkmaeipjaaGreat.Gh Go.Proofs
/-! ### Of no memory -/
theorem words_nil (orc : FuncId → Bool) (G : GS) : (E orc).cl 53 [.pointer none] G = some (nilS, G) := by
  refine f53 (exL_ok Q orc) _ G _ ?_
  simp [s53]
abbrev oL (t : TW) : List Value := [.int .i64 t.nodes, .int .i64 t.heads, .int .i64 t.height, .int .i64 t.top, .int .i64 t.links, .int .i64 t.size, .int .i64 t.u6, .int .i64 t.u7, .int .i64 t.u8, .int .i64 t.u9, .int .i64 t.u10, .int .i64 t.u11, .int .i64 t.u12, .pointer none, nilS]
abbrev oV (t : TW) : Value := .agg ⟨oL t⟩
theorem of_nil (orc : FuncId → Bool) (t : TW) (G : GS) : ∃ G', (E orc).cl 87 [t.v, .pointer none] G = some (oV t, G') ∧ Ext G G' := by
  have w : Wp (s87 true (exL Q orc) t.v (.pointer none) G) fun q => q.1 = oV t ∧ Ext G q.2 := by
    simp [s87, words_nil orc, splice_put, splice_end, splice_succ]
    exact ((((Ext.refl G).push _).push _).room _).put (by omega) _
  obtain ⟨⟨v, G'⟩, e1, rfl, h⟩ := w
  exact ⟨G', f87 (exL_ok Q orc) _ _ G _ e1, h⟩
theorem at_nil (orc : FuncId → Bool) (t : TW) (k : Int) (G : GS) : ∃ G', (E orc).cl 91 [oV t, .int .i64 k] G = some (.int .u64 0, G') ∧ Ext G G' := by
  have w : Wp (s91 true (exL Q orc) (oV t) (.int .i64 k) G) fun q => q.1 = .int .u64 0 ∧ Ext G q.2 := by
    by_cases h : k < 0
    · simp [s91, h]; exact (Ext.refl G).push _
    · have h' : 0 ≤ k := by omega
      simp [s91, h, h']; exact (Ext.refl G).push _
  obtain ⟨⟨v, G'⟩, e1, rfl, h⟩ := w
  exact ⟨G', f91 (exL_ok Q orc) _ _ G _ e1, h⟩
theorem low_nil (orc : FuncId → Bool) (t : TW) (k : Int) (G : GS) : ∃ G', (E orc).cl 204 [.int .i64 k, .func (.func 91) #[oV t] #[], .int .u64 4294967296] G = some (.int .u64 0, G') ∧ Ext G G' := by
  obtain ⟨G1, e1, x1⟩ := at_nil orc t k G
  have h1 : IntKind.wrap .u64 4294967295 = 4294967295 := by decide
  have h2 : andI .u64 0 4294967295 = 0 := by decide
  refine ⟨G1, f204 (exL_ok Q orc) _ _ _ G _ ?_, x1⟩
  simp [s204, e1, h1, h2]
theorem right_nil (orc : FuncId → Bool) (ht : orc 284 = false) (t : TW) {w i : Int} (h : U w) (hi : 0 ≤ i ∧ i < 65535) (G : GS) : ∃ G', (E orc).cl 88 [oV t, .int .u64 w, .int .i64 i] G = some (.bool (decide (w = i + 1)), G') ∧ Ext G G' := by
  obtain ⟨G1, hG1⟩ : ∃ G1, G1 = G.push ⟨oL t, 1, false, 1⟩ := ⟨_, rfl⟩
  have x1 : Ext G G1 := by rw [hG1]; exact (Ext.refl G).push _
  have n1 : G1.nx = G.nx + 1 := by rw [hG1]; rfl
  have o1 : G1.obj G.nx = some ⟨oL t, 1, false, 1⟩ := by rw [hG1]; simp
  obtain ⟨G2, e2, x2⟩ := getref_ok orc ht h G1
  have n2 := x2.nx
  obtain ⟨G3, hG3⟩ : ∃ G3, G3 = ((G2.push ⟨z289, 1, false, 1⟩).put G2.nx ⟨refV w, 1, false, 1⟩).room 30 := ⟨_, rfl⟩
  have x3 : Ext G2 G3 := by rw [hG3]; exact (((Ext.refl _).push _).put (Nat.le_refl _) _).room _
  have o3 := (x3.obj _ (by omega)).trans ((x2.obj _ (by omega)).trans o1)
  have hiff := refV_iff h hi
  obtain ⟨G4, e4, x4⟩ := low_nil orc t (IntKind.wrap .i64 (t.u6 + i)) G3
  have y := ((x1.trans x2).trans x3)
  have p3 : G3.obj G2.nx = some ⟨refV w, 1, false, 1⟩ := by rw [hG3]; simp
  have p4 := (x4.obj G2.nx (by rw [hG3]; simp; omega)).trans p3
  have wp : Wp (s88 true (exL Q orc) (oV t) (.int .u64 w) (.int .i64 i) G) fun q => q.1 = .bool (decide (w = i + 1)) ∧ Ext G q.2 := by
    by_cases hok : refOk w
    · have hr : refV w = [.int .i64 (w % 65536 - 1), .int .i64 (w / 65536 % 4294967296), .bool (decide (9223372036854775808 ≤ w))] := by unfold refV; rw [if_pos hok]
      rw [hr] at e2 hG3 p3 p4
      have hcv : IntKind.wrap .u64 (w / 65536 % 4294967296) = w / 65536 % 4294967296 := by rw [wrap_u64]; omega
      obtain ⟨mk, hmk⟩ : ∃ mk, decide (9223372036854775808 ≤ w) = mk := ⟨_, rfl⟩
      rw [hmk] at e2 hG3 p3 p4
      cases mk with
      | true =>
        have h1 : 9223372036854775808 ≤ w := of_decide_eq_true hmk
        have : ¬ w = i + 1 := by omega
        simp [s88, ← hG1, o1, e2, hok, splice_put, splice_end, splice_succ, ← hG3, p3, this]
        exact y
      | false =>
        have h1 : ¬ 9223372036854775808 ≤ w := of_decide_eq_false hmk
        by_cases h2 : w % 65536 - 1 = i
        · by_cases h3 : w / 65536 % 4294967296 = 0
          · have : w = i + 1 := hiff.1 ⟨hok, h1, h2, h3⟩
            simp [s88, ← hG1, o1, e2, hok, splice_put, splice_end, splice_succ, ← hG3, p3, eq_true h2, hcv, o3, e4, p4, eq_true this, eq_true h3]
            exact y.trans x4
          · have : ¬ w = i + 1 := fun e => h3 (hiff.2 e).2.2.2
            simp [s88, ← hG1, o1, e2, hok, splice_put, splice_end, splice_succ, ← hG3, p3, eq_true h2, hcv, h3, o3, e4, p4, this]
            exact y.trans x4
        · have : ¬ w = i + 1 := fun e => h2 (hiff.2 e).2.2.1
          simp [s88, ← hG1, o1, e2, hok, splice_put, splice_end, splice_succ, ← hG3, p3, h2, this]
          exact y
    · have hr : refV w = [.int .i64 0, .int .i64 0, .bool false] := by unfold refV; rw [if_neg hok]
      rw [hr] at e2 hG3 p3
      have : ¬ w = i + 1 := fun e => hok (hiff.2 e).1
      simp [s88, ← hG1, o1, e2, hok, splice_put, splice_end, splice_succ, ← hG3, p3, this]
      exact y
  obtain ⟨⟨v, G'⟩, e1, rfl, e3⟩ := wp
  exact ⟨G', f88 (exL_ok Q orc) _ _ _ G _ e1, e3⟩
end Go.Proofs.YtdohlgkmaeipjaaGreat.Lift

set_option linter.unusedVariables false
set_option linter.unusedSimpArgs false
set_option maxRecDepth 20000
namespace Go.Proofs.YtdohlgkmaeipjaaGreat.Lift
open Go Go.Proofs.YtdohlgkmaeipjaaGreat.Gh Go.Proofs
/-! ### Whose a cell is -/
def whoI (a n w at_ : Int) : Value := if at_ < a ∨ a + n * w ≤ at_ then .tuple #[.int .i64 0, .int .i64 0, .bool false] else .tuple #[.int .i64 ((at_ - a) / w), .int .i64 ((at_ - a) % w), .bool true]
theorem mul_le4 {n w : Int} (hn : 1 ≤ n ∧ n ≤ 128) (hw : 1 ≤ w ∧ w ≤ 8) : 1 ≤ n * w ∧ n * w ≤ 1024 := by
  constructor
  · have := Int.mul_le_mul hn.1 hw.1 (by decide) (by omega); omega
  · have := Int.mul_le_mul hn.2 hw.2 (by omega) (by decide); omega
theorem nwhose_ok (orc : FuncId → Bool) {a n h at_ : Int} (ha : 0 ≤ a ∧ a < 4096) (hn : 1 ≤ n ∧ n ≤ 128) (hh : 1 ≤ h ∧ h ≤ 4) (G : GS) : ∃ G', (E orc).cl 104 [.agg ⟨[.int .i64 a, .int .i64 n, .int .i64 h]⟩, .int .i64 at_] G = some (whoI a n (4 + h) at_, G') ∧ Ext G G' := by
  have hm := mul_le4 hn (show 1 ≤ 4 + h ∧ 4 + h ≤ 8 by omega)
  generalize hnw : n * (4 + h) = nw at *
  have w1 : IntKind.wrap .i64 nw = nw := wrap64 (by omega) (by omega)
  have w2 : IntKind.wrap .i64 (a + nw) = a + nw := wrap64 (by omega) (by omega)
  have wp : Wp (s104 true (exL Q orc) (.agg ⟨[.int .i64 a, .int .i64 n, .int .i64 h]⟩) (.int .i64 at_) G) fun q => q.1 = whoI a n (4 + h) at_ ∧ Ext G q.2 := by
    unfold whoI
    rw [hnw]
    by_cases h1 : at_ < a
    · simp [s104, h1]
      exact ((Ext.refl G).push _).room _
    by_cases h2 : a + nw ≤ at_
    · simp [s104, h1, inv_node orc h hh, hnw, w1, w2, h2]
      exact ((Ext.refl G).push _).room _
    · have h1' : a ≤ at_ := by omega
      have w3 : IntKind.wrap .i64 (at_ - a) = at_ - a := wrap64 (by omega) (by omega)
      have hz : ¬ 4 + h = 0 := by omega
      have d1 : (at_ - a).tdiv (4 + h) = (at_ - a) / (4 + h) := Int.tdiv_eq_ediv_of_nonneg (by omega)
      have d2 : (at_ - a).tmod (4 + h) = (at_ - a) % (4 + h) := Int.tmod_eq_emod_of_nonneg (by omega)
      have b1 := Int.ediv_nonneg (show 0 ≤ at_ - a by omega) (show 0 ≤ 4 + h by omega)
      have b2 := Int.ediv_le_self (4 + h) (show 0 ≤ at_ - a by omega)
      have b3 := Int.emod_nonneg (at_ - a) hz
      have b4 := Int.emod_lt_of_pos (at_ - a) (show 0 < 4 + h by omega)
      have w4 : IntKind.wrap .i64 ((at_ - a) / (4 + h)) = (at_ - a) / (4 + h) := wrap64 (by omega) (by omega)
      have w5 : IntKind.wrap .i64 ((at_ - a) % (4 + h)) = (at_ - a) % (4 + h) := wrap64 (by omega) (by omega)
      simp [s104, h1, inv_node orc h hh, hnw, w1, w2, w3, h2, hz, d1, d2, w4, w5]
      exact (((Ext.refl G).push _).room _).room _
  obtain ⟨⟨v, G'⟩, e1, rfl, e3⟩ := wp
  exact ⟨G', f104 (exL_ok Q orc) _ _ G _ e1, e3⟩
theorem hwhose_ok (orc : FuncId → Bool) {a h at_ : Int} (ha : 0 ≤ a ∧ a < 4096) (hh : 1 ≤ h ∧ h ≤ 4) (G : GS) : ∃ G', (E orc).cl 106 [.agg ⟨[.int .i64 a, .int .i64 1, .int .i64 h]⟩, .int .i64 at_] G = some (whoI a 1 h at_, G') ∧ Ext G G' := by
  have w1 : IntKind.wrap .i64 h = h := wrap64 (by omega) (by omega)
  have w2 : IntKind.wrap .i64 (a + h) = a + h := wrap64 (by omega) (by omega)
  have wp : Wp (s106 true (exL Q orc) (.agg ⟨[.int .i64 a, .int .i64 1, .int .i64 h]⟩) (.int .i64 at_) G) fun q => q.1 = whoI a 1 h at_ ∧ Ext G q.2 := by
    unfold whoI
    rw [Int.one_mul]
    by_cases h1 : at_ < a
    · simp [s106, h1]
      exact ((Ext.refl G).push _).room _
    by_cases h2 : a + h ≤ at_
    · simp [s106, h1, inv_head orc, w1, w2, h2]
      exact ((Ext.refl G).push _).room _
    · have w3 : IntKind.wrap .i64 (at_ - a) = at_ - a := wrap64 (by omega) (by omega)
      have hz : ¬ h = 0 := by omega
      have d1 : (at_ - a).tdiv h = (at_ - a) / h := Int.tdiv_eq_ediv_of_nonneg (by omega)
      have d2 : (at_ - a).tmod h = (at_ - a) % h := Int.tmod_eq_emod_of_nonneg (by omega)
      have b1 := Int.ediv_nonneg (show 0 ≤ at_ - a by omega) (show 0 ≤ h by omega)
      have b2 := Int.ediv_le_self h (show 0 ≤ at_ - a by omega)
      have b3 := Int.emod_nonneg (at_ - a) hz
      have b4 := Int.emod_lt_of_pos (at_ - a) (show 0 < h by omega)
      have w4 : IntKind.wrap .i64 ((at_ - a) / h) = (at_ - a) / h := wrap64 (by omega) (by omega)
      have w5 : IntKind.wrap .i64 ((at_ - a) % h) = (at_ - a) % h := wrap64 (by omega) (by omega)
      simp [s106, h1, inv_head orc, w1, w2, w3, h2, hz, d1, d2, w4, w5]
      exact (((Ext.refl G).push _).room _).room _
  obtain ⟨⟨v, G'⟩, e1, rfl, e3⟩ := wp
  exact ⟨G', f106 (exL_ok Q orc) _ _ G _ e1, e3⟩
/-- which node, which part, and whether there is one -/
def whose (t : TW) (at_ : Int) : Int × Int × Bool :=
  if ¬ t.sound then (0, 0, false)
  else if at_ < t.nodes ∨ t.nodes + t.size * (4 + t.height) ≤ at_ then
    (if at_ < t.heads ∨ t.heads + 1 * t.height ≤ at_ then (0, 0, false) else (-1, 4 + (at_ - t.heads) % t.height, true))
  else ((at_ - t.nodes) / (4 + t.height), (at_ - t.nodes) % (4 + t.height), true)
theorem whose_ok (orc : FuncId → Bool) (t : TW) (at_ : Int) (G : GS) : ∃ G', (E orc).cl 28 [t.v, .int .i64 at_] G = some (.tuple #[.int .i64 (whose t at_).1, .int .i64 (whose t at_).2.1, .bool (whose t at_).2.2], G') ∧ Ext G G' := by
  obtain ⟨G1, hG1⟩ : ∃ G1, G1 = G.push ⟨t.cells, 1, false, 1⟩ := ⟨_, rfl⟩
  have x1 : Ext G G1 := by rw [hG1]; exact (Ext.refl G).push _
  have n1 : G1.nx = G.nx + 1 := by rw [hG1]; rfl
  have o1 : G1.obj G.nx = some ⟨t.cells, 1, false, 1⟩ := by rw [hG1]; simp
  obtain ⟨G2, e2, x2⟩ := sound_ok orc t G1
  have o2 := (x2.obj _ (by omega)).trans o1
  have n2 := x2.nx
  unfold whose
  by_cases hs : t.sound
  · simp only [hs, decide_true] at e2
    obtain ⟨G3, e3, x3⟩ := nodes_ok orc t G2
    have n3 := x3.nx
    obtain ⟨G4, e4, x4⟩ := nwhose_ok orc (a := t.nodes) (n := t.size) (h := t.height) (at_ := at_) ⟨hs.2.2.2.2.1, hs.2.2.2.2.2.1⟩ ⟨hs.2.2.1, hs.2.2.2.1⟩ ⟨hs.1, hs.2.1⟩ G3
    have n4 := x4.nx
    have o4 := ((x3.trans x4).obj _ (by omega)).trans o2
    have y4 := ((x1.trans x2).trans x3).trans x4
    rw [if_neg (not_not_intro hs)]
    unfold whoI at e4
    by_cases h1 : at_ < t.nodes ∨ t.nodes + t.size * (4 + t.height) ≤ at_
    · rw [if_pos h1] at e4
      rw [if_pos h1]
      obtain ⟨G5, e5, x5⟩ := heads_ok orc t G4
      obtain ⟨G6, e6, x6⟩ := hwhose_ok orc (a := t.heads) (h := t.height) (at_ := at_) ⟨hs.2.2.2.2.2.2.1, hs.2.2.2.2.2.2.2⟩ ⟨hs.1, hs.2.1⟩ G5
      unfold whoI at e6
      by_cases h2 : at_ < t.heads ∨ t.heads + 1 * t.height ≤ at_
      · rw [if_pos h2] at e6
        rw [if_pos h2]
        refine ⟨G6, f28 (exL_ok Q orc) _ _ G _ ?_, (y4.trans x5).trans x6⟩
        simp [s28, ← hG1, o1, e2, o2, e3, e4, o4, e5, e6]
      · rw [if_neg h2] at e6
        rw [if_neg h2]
        have b3 := Int.emod_nonneg (at_ - t.heads) (show t.height ≠ 0 by have := hs.1; omega)
        have b4 := Int.emod_lt_of_pos (at_ - t.heads) (show 0 < t.height by have := hs.1; omega)
        have hh := hs.2.1
        have w : IntKind.wrap .i64 (4 + (at_ - t.heads) % t.height) = 4 + (at_ - t.heads) % t.height := wrap64 (by omega) (by omega)
        refine ⟨G6, f28 (exL_ok Q orc) _ _ G _ ?_, (y4.trans x5).trans x6⟩
        simp [s28, ← hG1, o1, e2, o2, e3, e4, o4, e5, e6, w]
    · rw [if_neg h1] at e4
      rw [if_neg h1]
      refine ⟨G4, f28 (exL_ok Q orc) _ _ G _ ?_, y4⟩
      simp [s28, ← hG1, o1, e2, o2, e3, e4]
  · simp only [hs, decide_false] at e2
    rw [if_pos hs]
    refine ⟨G2, f28 (exL_ok Q orc) _ _ G _ ?_, x1.trans x2⟩
    simp [s28, ← hG1, o1, e2]
theorem whose_lt {t : TW} {at_ : Int} : (whose t at_).1 < 65535 := by
  unfold whose
  split
  · decide
  · rename_i hs
    split
    · split
      · decide
      · show (-1 : Int) < 65535; decide
    · rename_i h
      have hs' := Classical.not_not.1 hs
      have hm := mul_le4 (n := t.size) (w := 4 + t.height) ⟨hs'.2.2.1, hs'.2.2.2.1⟩ (by have := hs'.1; have := hs'.2.1; omega)
      have b2 := Int.ediv_le_self (4 + t.height) (show 0 ≤ at_ - t.nodes by omega)
      simp only
      omega
abbrev acL (k a o n : Int) (h : Bool) : List Value := [.int .i64 k, .int .i64 a, .int .u64 o, .int .u64 n, .bool h]
theorem held_ok (orc : FuncId → Bool) (ht : orc 284 = false) (t : TW) (k a o n : Int) (h : Bool) {by_ : Int} (hb : U by_) (G : GS) : ∃ G', (E orc).cl 23 [t.v, .pointer none, .agg ⟨acL k a o n h⟩, .int .u64 by_] G = some (.bool (!(whose t a).2.2 || decide ((whose t a).1 < 0) || decide (by_ = (whose t a).1 + 1)), G') ∧ Ext G G' := by
  obtain ⟨G1, hG1⟩ : ∃ G1, G1 = (G.push ⟨t.cells, 1, false, 1⟩).push ⟨acL k a o n h, 1, false, 1⟩ := ⟨_, rfl⟩
  have x1 : Ext G G1 := by rw [hG1]; exact ((Ext.refl G).push _).push _
  have n1 : G1.nx = G.nx + 2 := by rw [hG1]; rfl
  have o1 : G1.obj G.nx = some ⟨t.cells, 1, false, 1⟩ := by rw [hG1]; simp
  have p1 : G1.obj (G.nx + 1) = some ⟨acL k a o n h, 1, false, 1⟩ := by rw [hG1]; simp
  obtain ⟨G2, e2, x2⟩ := whose_ok orc t a G1
  have hlt := @whose_lt t a
  generalize whose t a = q at *
  obtain ⟨i, p, is⟩ := q
  simp only at e2 hlt ⊢
  have o2 := (x2.obj _ (by omega)).trans o1
  have y2 := x1.trans x2
  cases is with
  | false =>
    refine ⟨G2, f23 (exL_ok Q orc) _ _ _ _ G _ ?_, y2⟩
    simp [s23, ← hG1, o1, p1, e2]
  | true =>
    by_cases h1 : i < 0
    · refine ⟨G2, f23 (exL_ok Q orc) _ _ _ _ G _ ?_, y2⟩
      simp [s23, ← hG1, o1, p1, e2, h1]
    · obtain ⟨G3, e3, x3⟩ := of_nil orc t G2
      obtain ⟨G4, e4, x4⟩ := right_nil orc ht t hb (i := i) ⟨by omega, hlt⟩ G3
      refine ⟨G4, f23 (exL_ok Q orc) _ _ _ _ G _ ?_, (y2.trans x3).trans x4⟩
      simp [s23, ← hG1, o1, p1, e2, h1, o2, e3, e4]
end Go.Proofs.YtdohlgkmaeipjaaGreat.Lift

set_option linter.unusedVariables false
set_option linter.unusedSimpArgs false
set_option maxRecDepth 20000
namespace Go.Proofs.YtdohlgkmaeipjaaGreat.Lift
open Go Go.Proofs.YtdohlgkmaeipjaaGreat.Gh Go.Proofs
/-! ### What is in no memory: nothing -/
theorem idx_zero {size : Int} (h : 1 ≤ size) : idxI size 0 = -1 := by unfold idxI; rw [if_neg (by simp; omega)]; rfl
theorem U0 : U 0 := ⟨by decide, by decide⟩
theorem on1_nil (orc : FuncId → Bool) {lb : Nat} {G : GS} (h : G.obj lb = some ⟨[nilS], 1, false, 1⟩) (k : Int) : (E orc).cl 354 [.int .i64 k, P0 lb] G = some (.int .u64 0, G) := by
  refine f354 (exL_ok Q orc) _ _ G _ ?_
  by_cases hk : k < 0
  · simp [s354, hk]
  · have : 0 ≤ k := by omega
    simp [s354, hk, h, this]
theorem on2_nil (orc : FuncId → Bool) (ht : orc 271 = false) {a b size : Int} (hz : 1 ≤ size) {rb fb lb : Nat} {G : GS} (hrb : rb < G.nx) (hfb : fb < G.nx) (hlb : lb < G.nx) (o1 : G.obj rb = some ⟨[.int .i64 a, .int .i64 b, .int .i64 size], 1, false, 1⟩) (o2 : G.obj fb = some ⟨[.func (.func 354) #[] #[P0 lb]], 1, false, 1⟩) (o3 : G.obj lb = some ⟨[nilS], 1, false, 1⟩) (y : Value) :
    ∃ G', (E orc).cl 355 [y, P0 rb, P0 fb] G = some (.tuple #[], G') ∧ Ext G G' := by
  have e1 := on1_nil orc (lb := lb) (G := G.room 7) (by simpa using o3) a
  obtain ⟨G2, e2, x2⟩ := read_ok orc ht (a := a) (b := b) (size := size) U0 (G.room 7)
  rw [idx_zero hz] at e2
  have x : Ext G G2 := ((Ext.refl G).room 7).trans x2
  have w : Wp (s355 true (exL Q orc) y (P0 rb) (P0 fb) G) fun q => q.1 = .tuple #[] ∧ Ext G q.2 := by
    simp [s355, o1, o2, e1, e2]
    refine Wp.bE ((Wp.lp (l355_0 (exL_ok Q orc)) (Q := fun q => q.1 = .exit 0 ∧ q.2.2 = G2) ?_).mono ?_)
    · simp [b355_0, clip_t]
    · rintro ⟨e, τ, G3⟩ ⟨rfl, rfl⟩
      simp
      exact x
  obtain ⟨⟨v, G'⟩, e, rfl, h⟩ := w
  exact ⟨G', f355 (exL_ok Q orc) _ _ _ G _ e, h⟩
theorem chain_nil (orc : FuncId → Bool) (ht : orc 271 = false) {a b size : Int} (hz : 1 ≤ size) (G : GS) : ∃ G', (E orc).cl 202 [.agg ⟨[.int .i64 a, .int .i64 b, .int .i64 size]⟩, .pointer none] G = some (nilS, G') ∧ Ext G G' := by
  obtain ⟨G1, hG1⟩ : ∃ G1, G1 = ((G.push ⟨[.int .i64 a, .int .i64 b, .int .i64 size], 1, false, 1⟩).push ⟨[nilS], 1, false, 1⟩).room 4 := ⟨_, rfl⟩
  have x1 : Ext G G1 := by rw [hG1]; exact (((Ext.refl G).push _).push _).room _
  have n1 : G1.nx = G.nx + 2 + 4 := by rw [hG1]; rfl
  have o1 : G1.obj G.nx = some ⟨[.int .i64 a, .int .i64 b, .int .i64 size], 1, false, 1⟩ := by rw [hG1]; simp
  have p1 : G1.obj (G.nx + 1) = some ⟨[nilS], 1, false, 1⟩ := by rw [hG1]; simp
  obtain ⟨G2, hG2⟩ : ∃ G2, G2 = (((G1.push ⟨[.int .i64 a, .int .i64 b, .int .i64 size], 1, false, 1⟩).push ⟨[nilS], 1, false, 1⟩).push ⟨z180, 1, false, 1⟩).put (G1.nx + 2) ⟨[.func (.func 354) #[] #[P0 (G1.nx + 1)]], 1, false, 1⟩ := ⟨_, rfl⟩
  have x2 : Ext G1 G2 := by rw [hG2]; exact ((((Ext.refl _).push _).push _).push _).put (by omega) _
  have n2 : G2.nx = G1.nx + 3 := by rw [hG2]; rfl
  have q0 : G2.obj G1.nx = some ⟨[.int .i64 a, .int .i64 b, .int .i64 size], 1, false, 1⟩ := by rw [hG2]; simp [Nat.add_assoc]
  have q1 : G2.obj (G1.nx + 1) = some ⟨[nilS], 1, false, 1⟩ := by rw [hG2]; simp [Nat.add_assoc]
  have q2 : G2.obj (G1.nx + 2) = some ⟨[.func (.func 354) #[] #[P0 (G1.nx + 1)]], 1, false, 1⟩ := by rw [hG2]; simp
  have e2 : (E orc).cl 283 [.agg ⟨[.int .i64 a, .int .i64 b, .int .i64 size]⟩, nilS] G1 = some (.func (.func 355) #[] #[P0 G1.nx, P0 (G1.nx + 2)], G2) := by
    refine f283 (exL_ok Q orc) _ _ G1 _ ?_
    simp [s283, hG2]
  have r1 := (x2.obj _ (by omega)).trans p1
  have w : Wp (s202 true (exL Q orc) (.agg ⟨[.int .i64 a, .int .i64 b, .int .i64 size]⟩) (.pointer none) G) fun q => q.1 = nilS ∧ Ext G q.2 := by
    have hzc : z78 = [nilS] := rfl
    simp [s202, hzc, ← hG1, o1, words_nil orc, e2]
    generalize hT : lst 17 _ = T
    have t5 : nth undef T 5 = P0 (G.nx + 1) := by rw [← hT, nth_lst]; simp [clip_t]
    generalize hGp : GS.pushLoop G2 _ = Gp
    have xp : Ext G2 Gp := by rw [← hGp]; exact (Ext.refl _).pushLoop _
    obtain ⟨r, lp, hst, hpd⟩ : ∃ r, Gp.loop G2.nl = some r ∧ r.st ≠ .busy ∧ jumpOf r.pend = some .normal := by
      rw [← hGp]
      exact ⟨_, by simp; rfl, by simp, rfl⟩
    have nlp : G2.nl < Gp.nl := by rw [← hGp]; simp
    have np : G2.nx ≤ Gp.nx := xp.nx
    obtain ⟨G3, e3, x3⟩ := on2_nil orc ht hz (a := a) (b := b) (rb := G1.nx) (fb := G1.nx + 2) (lb := G1.nx + 1) (G := Gp) (by omega) (by omega) (by omega)
      ((xp.obj _ (by omega)).trans q0) ((xp.obj _ (by omega)).trans q2) ((xp.obj _ (by omega)).trans q1) (.func (.yield G2.nl) #[] #[])
    have xx : Ext G2 G3 := xp.trans x3
    have l3 : G3.loop G2.nl = some r := (x3.loop _ nlp).trans lp
    have e3' : (evL Q orc).cl 355 [.func (.yield G2.nl) #[] #[], P0 G1.nx, P0 (G1.nx + 2)] Gp = some (.tuple #[], G3) := e3
    have r3 : G3.obj (G.nx + 1) = some ⟨[nilS], 1, false, 1⟩ := (xx.obj _ (by omega)).trans r1
    rw [e3', xRangeEnd_some _ _ _ _ l3 hst hpd]
    simp [t5, r3]
    exact (x1.trans (x2.trans xx)).putLoop (by have := x1.nl; have := x2.nl; omega) _
  obtain ⟨⟨v, G'⟩, e, rfl, h⟩ := w
  exact ⟨G', f202 (exL_ok Q orc) _ _ G _ e, h⟩
end Go.Proofs.YtdohlgkmaeipjaaGreat.Lift

set_option linter.unusedVariables false
set_option linter.unusedSimpArgs false
set_option maxRecDepth 20000
namespace Go.Proofs.YtdohlgkmaeipjaaGreat.Lift
open Go Go.Proofs.YtdohlgkmaeipjaaGreat.Gh Go.Proofs
/-! ### A level of no memory: empty -/
theorem hatl_ok (orc : FuncId → Bool) {a n l : Int} (ha : 0 ≤ a ∧ a < 4096) (hn : 1 ≤ n ∧ n ≤ 4) (hl : 0 ≤ l ∧ l < n) (G : GS) : ∃ G', (E orc).cl 274 [.agg ⟨[.int .i64 a, .int .i64 1, .int .i64 n]⟩, .int .i64 0, .int .i64 l] G = some (.int .i64 (a + l), G') ∧ Ext G G' := by
  have h1 : ¬ n ≤ 0 := by omega
  have h2 : ¬ l < 0 := by omega
  have h3 : ¬ n ≤ l := by omega
  have h5 : ¬ 1 ≤ (0 : Int) := by omega
  have h4 : IntKind.wrap .i64 (a + l) = a + l := wrap64 (by omega) (by omega)
  have w : Wp (s274 true (exL Q orc) (.agg ⟨[.int .i64 a, .int .i64 1, .int .i64 n]⟩) (.int .i64 0) (.int .i64 l) G) fun r => r.1 = .int .i64 (a + l) ∧ Ext G r.2 := by
    by_cases hz : l = 0
    · subst hz
      have h6 : IntKind.wrap .i64 a = a := wrap64 (by omega) (by omega)
      simp [s274, inv_head orc, h1, h6, w0]
      exact ((Ext.refl G).push _).room 12
    · simp [s274, inv_head orc, h1, h2, h3, h4, h5, w0]
      exact ⟨by rw [show IntKind.wrap .i64 a = a from wrap64 (by omega) (by omega)]; exact h4, ((Ext.refl G).push _).room 12⟩
  obtain ⟨⟨v, G'⟩, e1, rfl, e3⟩ := w
  exact ⟨G', f274 (exL_ok Q orc) _ _ _ G _ e1, e3⟩
theorem atl_ok (orc : FuncId → Bool) {t : TW} (hs : t.sound) {l : Int} (hl : 0 ≤ l ∧ l < t.height) (G : GS) : ∃ G', (E orc).cl 191 [t.v, .int .i64 (-1), .int .i64 (4 + l)] G = some (.int .i64 (t.heads + l), G') ∧ Ext G G' := by
  obtain ⟨G1, hG1⟩ : ∃ G1, G1 = G.push ⟨t.cells, 1, false, 1⟩ := ⟨_, rfl⟩
  have x1 : Ext G G1 := by rw [hG1]; exact (Ext.refl G).push _
  have n1 : G1.nx = G.nx + 1 := by rw [hG1]; rfl
  have o1 : G1.obj G.nx = some ⟨t.cells, 1, false, 1⟩ := by rw [hG1]; simp
  obtain ⟨G2, e2, x2⟩ := sound_ok orc t G1
  have o2 := (x2.obj G.nx (by omega)).trans o1
  simp only [hs, decide_true] at e2
  obtain ⟨G3, e3, x3⟩ := heads_ok orc t G2
  obtain ⟨G4, e4, x4⟩ := hatl_ok orc (a := t.heads) (n := t.height) ⟨hs.2.2.2.2.2.2.1, hs.2.2.2.2.2.2.2⟩ ⟨hs.1, hs.2.1⟩ hl G3
  have h1 := hs.1
  have h2 := hs.2.1
  have hw : IntKind.wrap .i64 (4 + t.height) = 4 + t.height := wrap64 (by omega) (by omega)
  have hv : IntKind.wrap .i64 (4 + l - 4) = l := by rw [wrap64 (by omega) (by omega)]; omega
  have h3 : ¬ 4 + t.height ≤ 4 + l := by omega
  have h4 : ¬ 4 + l < 4 := by omega
  refine ⟨G4, f191 (exL_ok Q orc) _ _ _ G _ ?_, ((x1.trans x2).trans x3).trans x4⟩
  simp [s191, ← hG1, o1, e2, o2, hw, hv, h3, h4, e3, e4, hs, w0]
theorem nextl_ok (orc : FuncId → Bool) {t : TW} (hs : t.sound) {l : Int} (hl : 0 ≤ l ∧ l < t.height) (G : GS) : ∃ G', (E orc).cl 69 [t.v, .int .i64 (-1), .int .i64 l] G = some (.int .i64 (t.heads + l), G') ∧ Ext G G' := by
  obtain ⟨G1, hG1⟩ : ∃ G1, G1 = G.push ⟨t.cells, 1, false, 1⟩ := ⟨_, rfl⟩
  have x1 : Ext G G1 := by rw [hG1]; exact (Ext.refl G).push _
  have o1 : G1.obj G.nx = some ⟨t.cells, 1, false, 1⟩ := by rw [hG1]; simp
  obtain ⟨G2, e2, x2⟩ := atl_ok orc hs hl G1
  have h2 := hs.2.1
  have hw : IntKind.wrap .i64 (4 + l) = 4 + l := wrap64 (by omega) (by omega)
  have h3 : ¬ l < 0 := by omega
  have h4 : ¬ 4 ≤ l := by omega
  refine ⟨G2, f69 (exL_ok Q orc) _ _ _ G _ ?_, x1.trans x2⟩
  simp [s69, ← hG1, o1, e2, hw, h3, h4]
theorem tat_nil (orc : FuncId → Bool) (k : Int) (G : GS) : (E orc).cl 353 [nilS, .int .i64 k] G = some (.int .u64 0, G) := by
  refine f353 (exL_ok Q orc) _ _ G _ ?_
  by_cases hk : k < 0
  · simp [s353, hk]
  · have : 0 ≤ k := by omega
    simp [s353, hk, this]
theorem index0_ok (orc : FuncId → Bool) (ht : orc 271 = false) (t : TW) (hz : 1 ≤ t.size) (G : GS) : ∃ G', (E orc).cl 352 [t.v, .int .u64 0] G = some (.int .i64 (-1), G') ∧ Ext G G' := by
  obtain ⟨G1, hG1⟩ : ∃ G1, G1 = G.push ⟨t.cells, 1, false, 1⟩ := ⟨_, rfl⟩
  have x1 : Ext G G1 := by rw [hG1]; exact (Ext.refl G).push _
  have n1 : G1.nx = G.nx + 1 := by rw [hG1]; rfl
  have o1 : G1.obj G.nx = some ⟨t.cells, 1, false, 1⟩ := by rw [hG1]; simp
  obtain ⟨G2, e2, x2⟩ := gettop_ok orc ht U0 G1
  have o2 := (x2.obj G.nx (by omega)).trans o1
  have n2 := x2.nx
  have hne : ¬ G.nx = G2.nx := by omega
  have hc : ¬ t.size ≤ -1 := by omega
  have w : Wp (s352 true (exL Q orc) t.v (.int .u64 0) G) fun q => q.1 = .int .i64 (-1) ∧ Ext G q.2 := by
    simp [s352, ← hG1, e2, o2, hne, hc]
    exact ((x1.trans x2).push _).put (by omega) _
  obtain ⟨⟨v, G'⟩, e1, rfl, e3⟩ := w
  exact ⟨G', f352 (exL_ok Q orc) _ _ G _ e1, e3⟩
theorem level1_nil (orc : FuncId → Bool) (ht : orc 271 = false) {t : TW} (hs : t.sound) {l : Int} (hl : 0 ≤ l ∧ l < t.height) {mb tb lb : Nat} {G : GS} (hmb : mb < G.nx) (htb : tb < G.nx) (hlb : lb < G.nx) (o1 : G.obj tb = some ⟨t.cells, 1, false, 1⟩) (o2 : G.obj mb = some ⟨[nilS], 1, false, 1⟩) (o3 : G.obj lb = some ⟨[.int .i64 l], 1, false, 1⟩) (y : Value) :
    ∃ G', (E orc).cl 351 [y, P0 tb, P0 mb, P0 lb] G = some (.tuple #[], G') ∧ Ext G G' := by
  obtain ⟨G2, e2, x2⟩ := nextl_ok orc hs hl (G.room 8)
  obtain ⟨G4, e4, x4⟩ := index0_ok orc ht t hs.2.2.1 G2
  have x : Ext G G2 := ((Ext.refl G).room 8).trans x2
  have p1 := (x.obj _ htb).trans o1
  have p2 := (x.obj _ hmb).trans o2
  have w : Wp (s351 true (exL Q orc) y (P0 tb) (P0 mb) (P0 lb) G) fun q => q.1 = .tuple #[] ∧ Ext G q.2 := by
    simp [s351, o1, o2, o3, e2, p1, p2, tat_nil orc, e4]
    refine Wp.bE ((Wp.lp (l351_0 (exL_ok Q orc)) (Q := fun q => q.1 = .exit 0 ∧ q.2.2 = G4) ?_).mono ?_)
    · simp [b351_0, clip_t]
    · rintro ⟨e, τ, G3⟩ ⟨rfl, rfl⟩
      simp
      exact x.trans x4
  obtain ⟨⟨v, G'⟩, e, rfl, h⟩ := w
  exact ⟨G', f351 (exL_ok Q orc) _ _ _ _ G _ e, h⟩
theorem level_nil (orc : FuncId → Bool) (ht : orc 271 = false) {t : TW} (hs : t.sound) {l : Int} (hl : 0 ≤ l ∧ l < t.height) (G : GS) :
    ∃ G', (E orc).cl 201 [t.v, .int .i64 l, .pointer none] G = some (nilS, G') ∧ Ext G G' := by
  obtain ⟨G1, hG1⟩ : ∃ G1, G1 = (G.push ⟨t.cells, 1, false, 1⟩).push ⟨[nilS], 1, false, 1⟩ := ⟨_, rfl⟩
  have x1 : Ext G G1 := by rw [hG1]; exact ((Ext.refl G).push _).push _
  have n1 : G1.nx = G.nx + 2 := by rw [hG1]; rfl
  have o1 : G1.obj G.nx = some ⟨t.cells, 1, false, 1⟩ := by rw [hG1]; simp
  have p1 : G1.obj (G.nx + 1) = some ⟨[nilS], 1, false, 1⟩ := by rw [hG1]; simp
  obtain ⟨G2, e2, x2⟩ := nextl_ok orc hs hl G1
  have n2 := x2.nx
  have o2 := (x2.obj G.nx (by omega)).trans o1
  have r2 := (x2.obj (G.nx + 1) (by omega)).trans p1
  have y2 : Ext G1 (G2.room 5) := x2.room 5
  obtain ⟨G3, hG3⟩ : ∃ G3, G3 = (((G2.room 5).push ⟨[nilS], 1, false, 1⟩).push ⟨t.cells, 1, false, 1⟩).push ⟨[.int .i64 l], 1, false, 1⟩ := ⟨_, rfl⟩
  have x3 : Ext G2 G3 := by rw [hG3]; exact ((((Ext.refl _).room 5).push _).push _).push _
  have n3 : G3.nx = G2.nx + 8 := by rw [hG3]; rfl
  have q0 : G3.obj (G2.nx + 5) = some ⟨[nilS], 1, false, 1⟩ := by rw [hG3]; simp [Nat.add_assoc]
  have q1 : G3.obj (G2.nx + 6) = some ⟨t.cells, 1, false, 1⟩ := by rw [hG3]; simp [Nat.add_assoc]
  have q2 : G3.obj (G2.nx + 7) = some ⟨[.int .i64 l], 1, false, 1⟩ := by rw [hG3]; simp
  have r3 := (x3.obj (G.nx + 1) (by omega)).trans r2
  have e3 : (E orc).cl 282 [nilS, t.v, .int .i64 l] (G2.room 5) = some (.func (.func 351) #[] #[P0 (G2.nx + 6), P0 (G2.nx + 5), P0 (G2.nx + 7)], G3) := by
    refine f282 (exL_ok Q orc) _ _ _ (G2.room 5) _ ?_
    simp [s282, hG3, Nat.add_assoc]
  have hl0 : ¬ t.heads + l < 0 := by have := hs.2.2.2.2.2.2.1; omega
  have w : Wp (s201 true (exL Q orc) t.v (.int .i64 l) (.pointer none) G) fun q => q.1 = nilS ∧ Ext G q.2 := by
    have hzc : z78 = [nilS] := rfl
    simp [s201, hzc, ← hG1, o1, e2, o2, hl0, words_nil orc, e3]
    generalize hT : lst 25 _ = T
    have t5 : nth undef T 7 = P0 (G.nx + 1) := by rw [← hT, nth_lst]; simp [clip_t]
    generalize hGp : GS.pushLoop G3 _ = Gp
    have xp : Ext G3 Gp := by rw [← hGp]; exact (Ext.refl _).pushLoop _
    obtain ⟨r, lp, hst, hpd⟩ : ∃ r, Gp.loop G3.nl = some r ∧ r.st ≠ .busy ∧ jumpOf r.pend = some .normal := by
      rw [← hGp]
      exact ⟨_, by simp; rfl, by simp, rfl⟩
    have nlp : G3.nl < Gp.nl := by rw [← hGp]; simp
    have np : G3.nx ≤ Gp.nx := xp.nx
    obtain ⟨G4, e4, x4⟩ := level1_nil orc ht hs hl (mb := G2.nx + 5) (tb := G2.nx + 6) (lb := G2.nx + 7) (G := Gp) (by omega) (by omega) (by omega)
      ((xp.obj _ (by omega)).trans q1) ((xp.obj _ (by omega)).trans q0) ((xp.obj _ (by omega)).trans q2) (.func (.yield G3.nl) #[] #[])
    have xx : Ext G3 G4 := xp.trans x4
    have l4 : G4.loop G3.nl = some r := (x4.loop _ nlp).trans lp
    have e4' : (evL Q orc).cl 351 [.func (.yield G3.nl) #[] #[], P0 (G2.nx + 6), P0 (G2.nx + 5), P0 (G2.nx + 7)] Gp = some (.tuple #[], G4) := e4
    have r4 := (xx.obj _ (by omega)).trans r3
    rw [e4', xRangeEnd_some _ _ _ _ l4 hst hpd]
    simp [t5, r4]
    exact (x1.trans (x2.trans (x3.trans xx))).putLoop (by have := x1.nl; have := x2.nl; have := x3.nl; omega) _
  obtain ⟨⟨v, G'⟩, e, rfl, h⟩ := w
  exact ⟨G', f201 (exL_ok Q orc) _ _ _ G _ e, h⟩
end Go.Proofs.YtdohlgkmaeipjaaGreat.Lift

