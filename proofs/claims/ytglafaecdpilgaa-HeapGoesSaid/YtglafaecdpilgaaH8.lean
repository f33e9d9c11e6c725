import Derived.Test.YtglafaecdpilgaaH7
set_option linter.unusedVariables false
set_option linter.unusedSimpArgs false
set_option maxRecDepth 20000
namespace Go.Proofs.Ytglafaecdpilgaa.Lift
open Go Go.Proofs.Ytglafaecdpilgaa.Gh Go.Proofs
theorem with_ok (orc : FuncId → Bool) {L : List It} (hlen : L.length < 2 ^ 39) {v0 : Value} (x : It) {G : GS} (hs : SlR rIt G v0 L) :
    Wp ((E orc).cl 58 [v0, .agg ⟨[.int .u64 x.1, .int .i64 x.2]⟩] G) fun r => Ext G r.2 ∧ OwR rIt G.nx r.2 r.1 (L.take (pl L x.1) ++ [x] ++ L.drop (pl L x.1)) := by
  have x1 : Ext G (G.push ⟨[.int .u64 x.1, .int .i64 x.2], 1, false, 1⟩) := (Ext.refl G).push _
  obtain ⟨⟨q, G5⟩, e5, rfl, x5⟩ := rplace_ok orc (by omega) x.1 (hs.ext x1)
  have hp := pl_le L x.1
  have hs5 := (hs.ext x1).ext x5
  simp only at x5
  have n5 := x5.nx
  simp at n5
  obtain ⟨⟨vt, t1, t2⟩, _⟩ := (hs5.ext ((Ext.refl G5).room 8)).take (k := .i64) hp
  obtain ⟨vc, G9, e9, x9, o9⟩ := copyItems orc t2 (by simp; omega)
  have n9 := x9.nx
  simp at n9
  have b5 : (G5.room 8).obj G.nx = some ⟨[.int .u64 x.1, .int .i64 x.2], 1, false, 1⟩ := x5.boxed
  have b9 : G9.obj G.nx = some ⟨[.int .u64 x.1, .int .i64 x.2], 1, false, 1⟩ := (x9.obj _ (by simp; omega)).trans b5
  have l5 : loadA 2 G.nx 0 (G5.room 8) = some (.agg ⟨[.int .u64 x.1, .int .i64 x.2]⟩) := loadA_whole (n := 1) b5 (by decide) rfl
  have l9 : loadA 2 G.nx 0 G9 = some (.agg ⟨[.int .u64 x.1, .int .i64 x.2]⟩) := loadA_whole (n := 1) b9 (by decide) rfl
  obtain ⟨v1, G1, v2, v3, G3, a1, a2, a3, a4, a5⟩ := splice_ok (A := G5) (G := G9) (n := G5.nx + 5) (lo := (G5.room 8).nx) x (((Ext.refl G5).room 8).trans x9) (by omega) (by simp) (by simpa using n9) (by simp) hs5 hp o9 (by omega)
  obtain ⟨av, cv, hv⟩ := hs.len
  have t3 : sl Q true 22 2 v0 none (some (.int .i64 (pl L x.1))) none (G5.room 8) = some vt := by rw [hv] at t1 ⊢; simpa using t1
  have a6 : sl Q true 22 2 v0 (some (.int .i64 (pl L x.1))) none none G1 = some v2 := by rw [hv] at a2 ⊢; simpa using a2
  have c1 : (G.push ⟨[.int .u64 x.1, .int .i64 x.2], 1, false, 1⟩).cell G.nx 0 = some (.int .u64 x.1) := by simp [cell_push]
  refine Wp.ref (f58 (exL_ok Q orc) _ _ G) ?_
  simp [s58, Value.cells, c1, e5, t3, e9, l5, l9, sameO, same, sameD, sameD.listD, fillL, fillS, fillC, splice_put, splice_end, splice_succ, rep, a1, a6, a3]
  exact ⟨(x1.trans x5).trans a4, by simpa using a5.mono (by omega)⟩
theorem t16_ok (orc : FuncId → Bool) {L : List It} (hlen : L.length < 2 ^ 39) {v0 : Value} (k a b w c i u : Int) {G G13 : GS} (hz : ichk L = 0) (hs : SlR rIt G13 v0 L) (hr : hRef k c i u = false) (hn : G.nx + 2 ≤ G13.nx) (hx : Ext G G13)
    (p1 : G13.obj G.nx = some ⟨opC k a b w, 1, false, 1⟩) (p2 : G13.obj (G.nx + 1) = some ⟨[.int .i64 c, .int .i64 i, .int .u64 u], 1, false, 1⟩) :
    Wp (t16 true (exL Q orc) v0 (P1 G.nx) (P1 (G.nx + 1)) G13) fun r => Ext G r.2 ∧ ∃ v', r.1 = .tuple #[v', .bool (hOk L k w c i u)] ∧ OwR rIt G.nx r.2 v' (hNext L k a w c i u) := by
  obtain ⟨hl, hu⟩ := ichk_zero.1 hz
  have hok : hOk L k w c i u = hAcc L k w c i u := by simp [hOk, hz, hr]
  obtain ⟨⟨q, G19⟩, e19, rfl, x19⟩ := ranswer_ok orc (by omega) k a b w hs
  simp only at x19
  have n19 := x19.nx
  have x24 : Ext G13 ((G19.push ⟨zAns, 1, false, 1⟩).put G19.nx ⟨[.int .i64 (hCode L k w), .int .i64 (hNum L k), .int .u64 (hWord L k)], 1, false, 1⟩) := (x19.push _).put n19 _
  have s24 : storeN 3 G19.nx 0 (ansV (hCode L k w) (hNum L k) (hWord L k)) (G19.push ⟨zAns, 1, false, 1⟩) = some ((G19.push ⟨zAns, 1, false, 1⟩).put G19.nx ⟨[.int .i64 (hCode L k w), .int .i64 (hNum L k), .int .u64 (hWord L k)], 1, false, 1⟩) := st_ans (by simp; exact ⟨rfl, rfl, rfl⟩) _ _ _
  have l24 := ld_ans (G19.push ⟨zAns, 1, false, 1⟩) G19.nx 1 false (hCode L k w) (hNum L k) (hWord L k)
  have q1 := (x24.obj G.nx (by omega)).trans p1
  have q2 := (x24.obj (G.nx + 1) (by omega)).trans p2
  have n24 : G.nx + 2 ≤ ((G19.push ⟨zAns, 1, false, 1⟩).put G19.nx ⟨[.int .i64 (hCode L k w), .int .i64 (hNum L k), .int .u64 (hWord L k)], 1, false, 1⟩).nx := by simp; omega
  have hs24 := hs.ext x24
  have x0 := hx.trans x24
  have lo := ld_op p1 (by decide)
  generalize hG : ((G19.push ⟨zAns, 1, false, 1⟩).put G19.nx ⟨[.int .i64 (hCode L k w), .int .i64 (hNum L k), .int .u64 (hWord L k)], 1, false, 1⟩) = G24 at *
  have la2 := ld_an q2 (by decide)
  have ck : G24.cell G.nx 0 = some (.int .i64 k) := by rw [cell_at' q1 (by decide)]; rfl
  have cw : G24.cell G.nx 3 = some (.int .u64 w) := by rw [cell_at' q1 (by decide)]; rfl
  have ca : G24.cell G.nx 1 = some (.int .i64 a) := by rw [cell_at' q1 (by decide)]; rfl
  have cc : G24.cell (G.nx + 1) 0 = some (.int .i64 c) := by rw [cell_at' q2 (by decide)]; rfl
  have heq := ne_an (.tmp 38) (.tmp 39) c i u (hCode L k w) (hNum L k) (hWord L k)
  have hacc : hAcc L k w c i u = (hIs L k w && decide (hCode L k w = c ∧ hNum L k = i ∧ hWord L k = u)) := rfl
  cases hi : hIs L k w with
  | false =>
    have h1 : hAcc L k w c i u = false := by simp [hacc, hi]
    rw [hok, h1]
    have h2 : hNext L k a w c i u = [] := by simp [hNext, hok, h1]
    rw [hi] at e19
    simp [t16, lo, e19, s24, hG, h2]
    exact ⟨x0, OwR.nil _ _⟩
  | true =>
    rw [hi] at e19
    by_cases hm : hCode L k w = c ∧ hNum L k = i ∧ hWord L k = u
    · have h1 : hAcc L k w c i u = true := by simp [hacc, hi, hm]
      rw [hok, h1]
      have hm' : c = hCode L k w ∧ i = hNum L k ∧ u = hWord L k := ⟨hm.1.symm, hm.2.1.symm, hm.2.2.symm⟩
      rw [decide_eq_true hm'] at heq
      by_cases hc : c ≠ 0 ∨ k = 6
      · have h2 : hNext L k a w c i u = L := by unfold hNext; rw [if_pos (by rw [hok, h1]), if_neg (by simp [hr]), if_pos hc]
        obtain ⟨v', G44, e44, x44, o44⟩ := copyItems orc hs24 (by omega)
        rw [h2]
        by_cases hc0 : c = 0
        · have hk6 : k = 6 := hc.resolve_left (fun h => h hc0)
          subst hk6 hc0
          simp [t16, lo, e19, s24, hG, l24, la2, heq, cc, ck, e44]
          exact ⟨x0.trans x44, o44.mono (by omega)⟩
        · simp [t16, lo, e19, s24, hG, l24, la2, heq, cc, ck, hc0, e44]
          exact ⟨x0.trans x44, o44.mono (by omega)⟩
      · have hc0 : c = 0 := by
          by_cases h : c = 0
          · exact h
          · exact absurd (.inl h) hc
        have hk6 : ¬ k = 6 := fun h => hc (.inr h)
        by_cases hk5 : k = 5
        · have h2 : hNext L k a w c i u = L.drop 1 := by unfold hNext; rw [if_pos (by rw [hok, h1]), if_neg (by simp [hr]), if_neg hc, if_pos hk5]
          have hL : 1 ≤ L.length := by
            cases L with
            | nil => have := hm.1; simp [hCode, hz, hk5] at this; omega
            | cons x L => simp
          obtain ⟨vd, d1, d2⟩ := hs24.drop (k := .i64) hL
          obtain ⟨v', G50, e50, x50, o50⟩ := copyItems orc d2 (by simp; omega)
          obtain ⟨av, cv, hv⟩ := hs24.len
          rw [h2]
          subst hk5 hc0
          have d3 : sl Q true 22 2 v0 (some (.int .i64 1)) none none G24 = some vd := by rw [hv] at d1 ⊢; simpa using d1
          simp [t16, lo, e19, s24, hG, l24, la2, heq, cc, ck, d3, e50]
          exact ⟨x0.trans x50, by simpa using o50.mono (by omega)⟩
        · have hk4 : k = 4 := by
            have : hIs L k w = true := hi
            simp [hIs, hz] at this
            by_cases h : k = 4
            · exact h
            · simp [h, hk5, hk6] at this
          have h2 : hNext L k a w c i u = L.take (pl L w) ++ [(w, a)] ++ L.drop (pl L w) := by unfold hNext; rw [if_pos (by rw [hok, h1]), if_neg (by simp [hr]), if_neg hc, if_neg hk5]
          obtain ⟨⟨v', G61⟩, e61, x61, o61⟩ := with_ok orc hlen (w, a) hs24
          simp only at e61 x61 o61
          rw [h2]
          subst hk4 hc0
          simp [t16, lo, e19, s24, hG, l24, la2, heq, cc, ck, cw, ca, fillL, fillC, splice_put, splice_end, splice_succ, Value.cells, e61]
          exact ⟨x0.trans x61, by simpa using o61.mono (by omega)⟩
    · have h1 : hAcc L k w c i u = false := by simp [hacc, hi, hm]
      rw [hok, h1]
      have h2 : hNext L k a w c i u = [] := by simp [hNext, hok, h1]
      have hm' : ¬ (c = hCode L k w ∧ i = hNum L k ∧ u = hWord L k) := fun h => hm ⟨h.1.symm, h.2.1.symm, h.2.2.symm⟩
      rw [decide_eq_false hm'] at heq
      simp [t16, lo, e19, s24, hG, l24, la2, heq, h2]
      exact ⟨x0, OwR.nil _ _⟩
theorem rnext_ok (orc : FuncId → Bool) {L : List It} (hlen : L.length < 2 ^ 39) {v0 : Value} (k a b w c i u : Int) {G : GS} (hs : SlR rIt G v0 L) :
    Wp ((E orc).cl 16 [v0, opV k a b w, ansV c i u] G) fun r => Ext G r.2 ∧ ∃ v', r.1 = .tuple #[v', .bool (hOk L k w c i u)] ∧ OwR rIt G.nx r.2 v' (hNext L k a w c i u) := by
  have x3 : Ext G ((G.push ⟨opC k a b w, 1, false, 1⟩).push ⟨[.int .i64 c, .int .i64 i, .int .u64 u], 1, false, 1⟩) := ((Ext.refl G).push _).push _
  refine Wp.ref (f16 (exL_ok Q orc) _ _ _ G) ?_
  obtain ⟨G5, e5, x5⟩ := rcheck_ok orc (hs.ext x3) (by omega)
  obtain ⟨o1, o2, n5⟩ := x5.boxed2
  have x05 := x3.trans x5
  by_cases hz : ichk L = 0
  · rw [hz] at e5
    have ck5 : G5.cell G.nx 0 = some (.int .i64 k) := by rw [cell_at' o1 (by decide)]; rfl
    have la5 := ld_an o2 (by decide)
    have q7 := eq_an (.tmp 17) (.tmp 18) c i u 7 0 0
    have q12 := eq_an (.tmp 21) (.tmp 22) c i u 12 0 0
    cases hr : hRef k c i u with
    | true =>
      have hk4 : k = 4 := by simp [hRef] at hr; exact hr.1
      subst hk4
      have hrr : (decide (c = 7 ∧ i = 0 ∧ u = 0) || decide (c = 12 ∧ i = 0 ∧ u = 0)) = true := by simpa [hRef] using hr
      obtain ⟨v', G16, e16, x16, o16⟩ := copyItems orc (hs.ext x05) (by omega)
      have hok : hOk L 4 w c i u = true := by simp [hOk, hz, hr]
      have hnx : hNext L 4 a w c i u = L := by simp [hNext, hok, hr]
      by_cases h7 : c = 7 ∧ i = 0 ∧ u = 0
      · rw [decide_eq_true h7] at q7
        simp [s16, Value.cells, e5, ck5, la5, fillL, fillC, splice_put, splice_end, splice_succ, q7, e16, hok, hnx]
        exact ⟨x05.trans x16, o16.mono (by have := x05.nx; omega)⟩
      · have h12 : c = 12 ∧ i = 0 ∧ u = 0 := by simpa [h7] using hrr
        rw [decide_eq_false h7] at q7
        rw [decide_eq_true h12] at q12
        simp [s16, Value.cells, e5, ck5, la5, fillL, fillC, splice_put, splice_end, splice_succ, q7, q12, e16, hok, hnx]
        exact ⟨x05.trans x16, o16.mono (by have := x05.nx; omega)⟩
    | false =>
      by_cases hk4 : k = 4
      · subst hk4
        have hrr : (decide (c = 7 ∧ i = 0 ∧ u = 0) || decide (c = 12 ∧ i = 0 ∧ u = 0)) = false := by simpa [hRef] using hr
        simp only [Bool.or_eq_false_iff] at hrr
        rw [hrr.1] at q7
        rw [hrr.2] at q12
        simp [s16, Value.cells, e5, ck5, la5, fillL, fillC, splice_put, splice_end, splice_succ, q7, q12]
        have := t16_ok orc hlen 4 a b w c i u (G := G) hz (hs.ext x05) hr (by omega) x05 o1 o2
        simpa [t16, fillL, fillC, splice_put, splice_end, splice_succ, Value.cells] using this
      · simp [s16, Value.cells, e5, ck5, la5, hk4]
        have := t16_ok orc hlen k a b w c i u (G := G) hz (hs.ext x05) hr (by omega) x05 o1 o2
        simpa [t16] using this
  · have hok : hOk L k w c i u = false := by simp [hOk, hz]
    have hnx : hNext L k a w c i u = [] := by simp [hNext, hok]
    rw [hok, hnx]
    simp [s16, Value.cells, e5, hz]
    exact ⟨x05, OwR.nil _ _⟩
end Go.Proofs.Ytglafaecdpilgaa.Lift
