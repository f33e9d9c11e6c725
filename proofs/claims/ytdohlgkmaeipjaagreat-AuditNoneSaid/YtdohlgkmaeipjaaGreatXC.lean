/- contracts of the program's functions -/
import Derived.Test.YtdohlgkmaeipjaaGreatXB
set_option linter.unusedVariables false
set_option linter.unusedSimpArgs false
set_option maxRecDepth 20000
namespace Go.Proofs.YtdohlgkmaeipjaaGreat.Lift
open Go Go.Proofs.YtdohlgkmaeipjaaGreat.Gh Go.Proofs
/-! ### What the cores have pinned in no memory: nothing -/
theorem rI_sz (k : IntKind) : (rowsI k).sz = 1 := rfl
theorem rI_row (k : IntKind) (x : Int) : (rowsI k).row x = [.int k x] := rfl
noncomputable abbrev lpP (T : List Value) : Lp := ⟨.ready, none, T, [18, 19], (subAt [1, 1, 1, 1, 0, 1, 0, 0] (bodyOf Tryz.f211)), (subAt [1, 1, 1, 1, 0, 1, 0, 1] (bodyOf Tryz.f211))⟩
theorem eat_nil (orc : FuncId → Bool) (k : Int) (G : GS) : (E orc).cl 288 [nilS, .int .i64 k] G = some (.int .u64 0, G) := by
  refine f288 (exL_ok Q orc) _ _ G _ ?_
  by_cases hk : k < 0
  · simp [s288, hk]
  · have : 0 ≤ k := by omega
    simp [s288, hk, this]
def eL (a b c : Int) : List Value := [.int .i64 a, .int .i64 b, .int .i64 c]
theorem esized_ok (orc : FuncId → Bool) (a b c : Int) (G : GS) : ∃ G', (E orc).cl 286 [.agg ⟨[.int .i64 a, .int .i64 b, .int .i64 c]⟩] G = some (.bool (decide (1 ≤ c ∧ c ≤ 64)), G') ∧ Ext G G' := by
  refine ⟨G.push ⟨[.int .i64 a, .int .i64 b, .int .i64 c], 1, false, 1⟩, f286 (exL_ok Q orc) _ G _ ?_, (Ext.refl G).push _⟩
  by_cases h : 1 ≤ c
  · by_cases h2 : c ≤ 64 <;> simp [s286, h, h2]
  · simp [s286, h]
theorem prd_ok (orc : FuncId → Bool) {B : GS} {ob l lb : Nat} {T : List Value} {L : List Int} {G : GS} (hT : T.length = 34) (t5 : nth undef T 5 = P0 ob) (t6 : nth undef T 6 = P0 lb)
    (hlb : lb < B.nx) (hne : lb ≠ ob) (o : B.obj lb = some ⟨[nilS], 1, false, 1⟩) (hc : Col (rowsI .i64) B ob l (lpP T) G L) (hL : L.length < 100) (i k : Int) :
    Wp ((E orc).rd l [.int .i64 i, .int .i64 k] G) fun q => q.1 = .bool true ∧ Col (rowsI .i64) B ob l (lpP T) q.2 (L ++ [-1]) := by
  refine Wp.ref (d211_0 (exL_ok Q orc) l T _ _ G hc.lp hT) ?_
  have c1 := hc.lp' (Lp.setSt (lpP T) .busy)
  have q1 := (hc.obj _ hlb hne).trans o
  obtain ⟨w, w1, w2⟩ := c1.var
  have one1 := own_one w2
  have e1 := eat_nil orc k (G.putLoop l (Lp.setSt (lpP T) .busy))
  have hob := c1.obB
  have hnx := c1.nx
  simp only [nx_putLoop] at hnx
  simp only [obj_putLoop] at w1
  have c3 := c1.ext ((Ext.refl _).push ⟨(rowsI .i64).row (-1), 1, false, 1⟩)
  obtain ⟨v1, v2, G4, o1, on1, e3, on2, o2, l2, c4⟩ := c3.app (ib := 8) (by decide) (SlR.one (rowsI .i64) (G.putLoop l (Lp.setSt (lpP T) .busy)) (-1)) (by simp) (by simp; omega)
  have o1' := o1
  simp at o1'
  rw [if_neg (by omega), w1] at o1'
  simp only [Option.some.injEq, GObj.mk.injEq, List.cons.injEq, and_true] at o1'
  subst o1'
  simp [rI_sz, rI_row] at e3
  have hrd : (roundEnd l .normal (G4.put ob ⟨[v2], 1, false, 1⟩)) = some (.bool true, (G4.put ob ⟨[v2], 1, false, 1⟩).putLoop l (lpP T)) := by
    rw [roundEnd_some l .normal _ (j := none) rfl (r := Lp.setSt (lpP T) .busy) (by simpa using l2)]
    rfl
  simp [r211_0, t5, t6, hc.lp, q1, e1, w1, e3, o2, stO_one _ _ on2, hrd, same_own w2]
  exact c4.lp' (lpP T)
theorem pins_lp (orc : FuncId → Bool) {B : GS} {ob l lb eb : Nat} {T : List Value} {a b c : Int} (hT : T.length = 34) (t5 : nth undef T 5 = P0 ob) (t6 : nth undef T 6 = P0 lb)
    (hlb : lb < B.nx) (hne : lb ≠ ob) (o : B.obj lb = some ⟨[nilS], 1, false, 1⟩) (heb : eb < B.nx) (hne' : eb ≠ ob) (o' : B.obj eb = some ⟨[.int .i64 a, .int .i64 b, .int .i64 c], 1, false, 1⟩) {n : Nat} (hn : n ≤ 64) :
    ∀ (k i : Nat) (τ : Env) (G : GS), i + k = n → τ 0 = .func (.yield l) #[] #[] → τ 1 = P0 eb → τ 5 = .int .i64 n → τ 6 = .int .i64 i → Col (rowsI .i64) B ob l (lpP T) G (List.replicate i (-1)) →
    Wp ((exL Q orc).lpx 359 0 τ G) fun r => r.1 = .exit 0 ∧ Col (rowsI .i64) B ob l (lpP T) r.2.2 (List.replicate n (-1)) := by
  intro k
  induction k with
  | zero =>
    intro i τ G hi t0 t1 t5' t6' hc
    have hi' : i = n := by omega
    subst hi'
    refine Wp.lp (l359_0 (exL_ok Q orc)) ?_
    simp [b359_0, clip_t, t0, t1, t5', t6']
    exact hc
  | succ k ih =>
    intro i τ G hi t0 t1 t5' t6' hc
    have hlt : i < n := by omega
    have hw : IntKind.wrap .i64 ((i : Int) + 1) = ((i + 1 : Nat) : Int) := wrap64 (by omega) (by omega)
    have q1 := (hc.obj _ heb hne').trans o'
    refine Wp.lp (l359_0 (exL_ok Q orc)) ?_
    obtain ⟨⟨q, G3⟩, e3, rfl, c4⟩ := prd_ok orc hT t5 t6 hlb hne o hc (by simp; omega) i (IntKind.wrap .i64 (b + i))
    rw [← List.replicate_succ'] at c4
    simp [-Int.natCast_add, b359_0, clip_t, t0, t1, t5', t6', hlt, q1, e3, hw]
    exact ih (i + 1) _ G3 (by omega) (by simp [clip_t]) (by simp [clip_t]) (by simp [clip_t]) (by simp [clip_t]) c4
theorem pinned_nil (orc : FuncId → Bool) (a b c : Int) (G : GS) :
    ∃ v G' n, (E orc).cl 211 [.agg ⟨[.int .i64 a, .int .i64 b, .int .i64 c]⟩, .pointer none] G = some (v, G') ∧ Ext G G' ∧ n ≤ 64 ∧ OwR (rowsI .i64) G.nx G' v (List.replicate n (-1)) := by
  obtain ⟨G1, hG1⟩ : ∃ G1, G1 = G.push ⟨[.int .i64 a, .int .i64 b, .int .i64 c], 1, false, 1⟩ := ⟨_, rfl⟩
  have x1 : Ext G G1 := by rw [hG1]; exact (Ext.refl G).push _
  have n1 : G1.nx = G.nx + 1 := by rw [hG1]; rfl
  have o1 : G1.obj G.nx = some ⟨[.int .i64 a, .int .i64 b, .int .i64 c], 1, false, 1⟩ := by rw [hG1]; simp
  obtain ⟨G2, e2, x2⟩ := esized_ok orc a b c G1
  have n2 := x2.nx
  have o2 := (x2.obj G.nx (by omega)).trans o1
  by_cases hs : 1 ≤ c ∧ c ≤ 64
  · obtain ⟨n, hn⟩ : ∃ n : Nat, c = n := ⟨c.toNat, by omega⟩
    obtain ⟨G3, hG3⟩ : ∃ G3, G3 = ((G2.push ⟨[nilS], 1, false, 1⟩).push ⟨[nilS], 1, false, 1⟩).put (G2.nx + 1) ⟨[nilS], 1, false, 1⟩ := ⟨_, rfl⟩
    have x3 : Ext G2 G3 := by rw [hG3]; exact (((Ext.refl _).push _).push _).put (by omega) _
    have n3 : G3.nx = G2.nx + 2 := by rw [hG3]; rfl
    have q0 : G3.obj G2.nx = some ⟨[nilS], 1, false, 1⟩ := by rw [hG3]; simp [Nat.add_assoc]
    have q1 : G3.obj (G2.nx + 1) = some ⟨[nilS], 1, false, 1⟩ := by rw [hG3]; simp
    have o3 := (x3.obj G.nx (by omega)).trans o2
    have l3 : G3.nl = G2.nl := by rw [hG3]; rfl
    obtain ⟨G4, hG4⟩ : ∃ G4, G4 = G3.push ⟨[.int .i64 a, .int .i64 b, .int .i64 c], 1, false, 1⟩ := ⟨_, rfl⟩
    have x4 : Ext G3 G4 := by rw [hG4]; exact (Ext.refl _).push _
    have n4 : G4.nx = G3.nx + 1 := by rw [hG4]; rfl
    have q2 : G4.obj G3.nx = some ⟨[.int .i64 a, .int .i64 b, .int .i64 c], 1, false, 1⟩ := by rw [hG4]; simp
    have e4 : (E orc).cl 287 [.agg ⟨[.int .i64 a, .int .i64 b, .int .i64 c]⟩] G3 = some (.func (.func 359) #[] #[P0 G3.nx], G4) := by
      refine f287 (exL_ok Q orc) _ G3 _ ?_
      simp [s287, hG4]
    have w : Wp (s211 true (exL Q orc) (.agg ⟨[.int .i64 a, .int .i64 b, .int .i64 c]⟩) (.pointer none) G) fun q => Ext G q.2 ∧ OwR (rowsI .i64) G.nx q.2 q.1 (List.replicate n (-1)) := by
      have hzc : z78 = [nilS] := rfl
      have hzd : z111 = [nilS] := rfl
      simp [s211, hzc, hzd, ← hG1, o1, e2, hs, words_nil orc, ← hG3, o3, e4]
      generalize hT : lst 34 _ = T
      have t5 : nth undef T 5 = P0 G2.nx := by rw [← hT, nth_lst]; simp [clip_t]
      have t6 : nth undef T 6 = P0 (G2.nx + 1) := by rw [← hT, nth_lst]; simp [clip_t]
      have hTl : T.length = 34 := by rw [← hT]; exact length_lst 34 _
      clear hT
      have q0' := (x4.obj _ (by omega)).trans q0
      have q1' := (x4.obj _ (by omega)).trans q1
      have c0 := Col.begin (rowsI .i64) q0' (by omega) (lpP T)
      have xB : Ext G4 (G4.pushLoop (lpP T)) := (Ext.refl G4).pushLoop _
      have nB : (G4.pushLoop (lpP T)).nx = G4.nx := rfl
      have w : Wp ((E orc).cl 359 [.func (.yield G4.nl) #[] #[], P0 G3.nx] (G4.pushLoop (lpP T))) fun q => q.1 = .tuple #[] ∧ Col (rowsI .i64) (G4.pushLoop (lpP T)) G2.nx G4.nl (lpP T) q.2 (List.replicate n (-1)) := by
        refine Wp.ref (f359 (exL_ok Q orc) _ _ _) ?_
        simp [s359, q2, hn]
        refine Wp.bE ((pins_lp orc hTl t5 t6 (n := n) (B := G4.pushLoop (lpP T)) (by omega) (by omega) ((xB.obj _ (by omega)).trans q1') (by omega) (by omega) ((xB.obj _ (by omega)).trans q2) (by omega) n 0 _ _ (by omega) (by simp [clip_t]) (by simp [clip_t]) (by simp [clip_t]) (by simp [clip_t]) c0).mono ?_)
        rintro ⟨e, τ, G'⟩ ⟨rfl, h2⟩
        simp
        exact h2
      obtain ⟨⟨q, G5⟩, e5, rfl, c5⟩ := w
      simp only [E] at e5
      obtain ⟨u, u1, u2⟩ := c5.var
      rw [e5, xRangeEnd_some (r := lpP T) _ _ _ _ c5.lp (by simp) (e := .normal) rfl]
      simp [t5, u1]
      have y3 : Ext G (G4.pushLoop (lpP T)) := (x1.trans x2).trans ((x3.trans x4).trans xB)
      have y2 : Ext G G4 := (x1.trans x2).trans (x3.trans x4)
      refine ⟨(c5.from y3 (by have := x1.nx; omega) (by have := y2.nl; omega)).putLoop (by have := y2.nl; omega) _, ?_⟩
      exact (u2.mono y3.nx).kept (by simp) fun g _ => by simp
    obtain ⟨⟨v, G'⟩, e, x, h⟩ := w
    exact ⟨v, G', n, f211 (exL_ok Q orc) _ _ G _ e, x, by omega, h⟩
  · refine ⟨nilS, G2, 0, f211 (exL_ok Q orc) _ _ G _ ?_, x1.trans x2, by omega, OwR.nil _ _⟩
    simp [s211, ← hG1, o1, e2, hs]
end Go.Proofs.YtdohlgkmaeipjaaGreat.Lift

set_option linter.unusedVariables false
set_option linter.unusedSimpArgs false
set_option maxRecDepth 20000
namespace Go.Proofs.YtdohlgkmaeipjaaGreat.Lift
open Go Go.Proofs.YtdohlgkmaeipjaaGreat.Gh Go.Proofs
/-! ### The places of no memory: none -/
abbrev TW.oc (t : TW) : List Value := t.cells ++ [.pointer none, nilS]
theorem places2_lp (orc : FuncId → Bool) (ht : orc 271 = false) {t : TW} (hs : t.sound) {wb : Nat} :
    ∀ (k i : Nat) (τ : Env) (G : GS), i + k = 3 → τ 1 = P0 wb → τ 44 = .int .i64 i → wb < G.nx → G.obj wb = some ⟨t.oc, 1, false, 1⟩ →
    Wp ((exL Q orc).lpx 205 2 τ G) fun r => r.1 = .exit 4 ∧ Ext G r.2.2 := by
  intro k
  induction k with
  | zero =>
    intro i τ G hi t1 t44 hw o
    have hi' : i = 3 := by omega
    subst hi'
    refine Wp.lp (l205_2 (exL_ok Q orc)) ?_
    simp [b205_2, clip_t, t1, t44]
    exact Ext.refl _
  | succ k ih =>
    intro i τ G hi t1 t44 hw o
    have hlt : i < 3 := by omega
    have hlt' : (i : Int) < 3 := by omega
    have hwr : IntKind.wrap .i64 ((i : Int) + 1) = ((i + 1 : Nat) : Int) := wrap64 (by omega) (by omega)
    have hz : z23 = [.int .i64 0, .int .i64 0, .int .i64 0] := rfl
    refine Wp.lp (l205_2 (exL_ok Q orc)) ?_
    have hne : ¬ wb = G.nx := by omega
    obtain ⟨G1, hG1⟩ : ∃ G1, G1 = ((G.push ⟨[.int .i64 0, .int .i64 0, .int .i64 0], 1, false, 1⟩).put G.nx ⟨[.int .i64 t.top, .int .i64 t.links, .int .i64 t.size], 1, false, 1⟩).put G.nx ⟨[.int .i64 (IntKind.wrap .i64 (t.u12 + i)), .int .i64 t.links, .int .i64 t.size], 1, false, 1⟩ := ⟨_, rfl⟩
    have x1 : Ext G G1 := by rw [hG1]; exact (((Ext.refl _).push _).put (Nat.le_refl _) _).put (Nat.le_refl _) _
    have q1 : G1.obj G.nx = some ⟨[.int .i64 (IntKind.wrap .i64 (t.u12 + i)), .int .i64 t.links, .int .i64 t.size], 1, false, 1⟩ := by rw [hG1]; simp
    obtain ⟨G2, e2, x2⟩ := chain_nil orc ht hs.2.2.1 (a := IntKind.wrap .i64 (t.u12 + i)) (b := t.links) G1
    have p1 := (x1.obj _ hw).trans o
    have p2 := (x2.obj _ (Nat.lt_of_lt_of_le hw x1.nx)).trans p1
    simp [-Int.natCast_add, b205_2, clip_t, t1, t44, hlt', o, hz, hne, ← hG1, q1, p1, e2]
    refine Wp.bE ((Wp.lp (l205_3 (exL_ok Q orc)) (Q := fun q => q.1 = .exit 6 ∧ q.2.1 1 = P0 wb ∧ q.2.1 44 = .int .i64 i ∧ q.2.2 = G2) ?_).mono ?_)
    · simp [b205_3, clip_t, t1, t44]
    · rintro ⟨e, τ', G3⟩ ⟨rfl, h1, h2, rfl⟩
      simp [-Int.natCast_add] at h1 h2
      simp [-Int.natCast_add, h1, h2, hwr]
      refine (ih (i + 1) _ _ (by omega) (by simp [clip_t, h1]) (by simp [clip_t]) (Nat.lt_of_lt_of_le hw (x1.trans x2).nx) p2).mono ?_
      rintro r ⟨r1, r2⟩
      exact ⟨r1, (x1.trans x2).trans r2⟩
theorem places1_nil (orc : FuncId → Bool) (ht : orc 271 = false) {t : TW} (hs : t.sound) {wb : Nat} {G : GS} (hw : wb < G.nx) (o : G.obj wb = some ⟨t.oc, 1, false, 1⟩) (y : Value) :
    ∃ G', (E orc).cl 205 [y, P0 wb] G = some (.tuple #[], G') ∧ Ext G G' := by
  obtain ⟨G1, e1, x1⟩ := chain_nil orc ht hs.2.2.1 (a := t.top) (b := t.links) G
  have o1 := (x1.obj _ hw).trans o
  obtain ⟨G2, e2, x2⟩ := level_nil orc ht hs (l := 0) ⟨by omega, by have := hs.1; omega⟩ G1
  have hw1 := Nat.lt_of_lt_of_le hw x1.nx
  have o2 := (x2.obj _ hw1).trans o1
  have w : Wp (s205 true (exL Q orc) y (P0 wb) G) fun q => q.1 = .tuple #[] ∧ Ext G q.2 := by
    simp [s205, o, e1]
    refine Wp.bE ((Wp.lp (l205_0 (exL_ok Q orc)) (Q := fun q => q.1 = .exit 0 ∧ q.2.1 1 = P0 wb ∧ q.2.2 = G1) ?_).mono ?_)
    · simp [b205_0, clip_t]
    rintro ⟨e, τ1, G3⟩ ⟨rfl, h1, rfl⟩
    simp at h1
    simp [h1, o1, e2]
    refine Wp.bE ((Wp.lp (l205_1 (exL_ok Q orc)) (Q := fun q => q.1 = .exit 2 ∧ q.2.1 1 = P0 wb ∧ q.2.2 = G2) ?_).mono ?_)
    · simp [b205_1, clip_t, h1]
    rintro ⟨e, τ2, G4⟩ ⟨rfl, h2, rfl⟩
    simp at h2
    simp
    refine Wp.bE ((places2_lp orc ht hs 3 0 _ _ rfl (by simp [clip_t, h2]) (by simp [clip_t]) (Nat.lt_of_lt_of_le hw1 x2.nx) o2).mono ?_)
    rintro ⟨e, τ3, G5⟩ ⟨rfl, x3⟩
    simp
    exact (x1.trans x2).trans x3
  obtain ⟨⟨v, G'⟩, e, rfl, h⟩ := w
  exact ⟨G', f205 (exL_ok Q orc) _ _ G _ e, h⟩
theorem places_ok (orc : FuncId → Bool) (t : TW) (G : GS) : (E orc).cl 90 [oV t] G = some (.func (.func 205) #[] #[P0 G.nx], G.push ⟨t.oc, 1, false, 1⟩) := by
  refine f90 (exL_ok Q orc) _ G _ ?_
  simp [s90]
end Go.Proofs.YtdohlgkmaeipjaaGreat.Lift

set_option linter.unusedVariables false
set_option linter.unusedSimpArgs false
set_option maxRecDepth 20000
namespace Go.Proofs.YtdohlgkmaeipjaaGreat.Lift
open Go Go.Proofs.YtdohlgkmaeipjaaGreat.Gh Go.Proofs
/-! ### Where, Sums -/
theorem asound_ok (orc : FuncId → Bool) (t : TW) (G : GS) : ∃ G', (E orc).cl 89 [t.v] G = some (.bool (decide t.sound), G') ∧ Ext G G' := by
  obtain ⟨G1, hG1⟩ : ∃ G1, G1 = G.push ⟨t.cells, 1, false, 1⟩ := ⟨_, rfl⟩
  have x1 : Ext G G1 := by rw [hG1]; exact (Ext.refl G).push _
  have o1 : G1.obj G.nx = some ⟨t.cells, 1, false, 1⟩ := by rw [hG1]; simp
  obtain ⟨G2, e2, x2⟩ := next0_ok orc t G1
  refine ⟨G2, f89 (exL_ok Q orc) _ G _ ?_, x1.trans x2⟩
  by_cases hs : t.sound
  · have := hs.2.2.2.2.2.2.1
    simp only [hs, if_true] at e2
    simp [s89, ← hG1, o1, e2, hs, this]
  · simp only [hs, if_false] at e2
    simp [s89, ← hG1, o1, e2, hs]
theorem run_nil (orc : FuncId → Bool) (ht : orc 271 = false) {t : TW} (hs : t.sound) {wb : Nat} {G : GS} (hw : wb < G.nx) (o : G.obj wb = some ⟨t.oc, 1, false, 1⟩) (T : List Value) (r : Lp) (hst : r.st ≠ .busy) (hp : jumpOf r.pend = some .normal) :
    ∃ G', xRangeEnd G.nl T ((evL Q orc).cl 205 [.func (.yield G.nl) #[] #[], P0 wb] (G.pushLoop r)) = some (.normal, T, G') ∧ Ext G G' := by
  have xp : Ext G (G.pushLoop r) := (Ext.refl _).pushLoop _
  obtain ⟨G', e, x⟩ := places1_nil orc ht hs (wb := wb) (G := G.pushLoop r) hw (by simpa using o) (.func (.yield G.nl) #[] #[])
  have e' : (evL Q orc).cl 205 [.func (.yield G.nl) #[] #[], P0 wb] (G.pushLoop r) = some (.tuple #[], G') := e
  have l : G'.loop G.nl = some r := (x.loop _ (by simp)).trans (by simp)
  exact ⟨_, by rw [e', xRangeEnd_some _ _ _ _ l hst hp], (xp.trans x).putLoop (Nat.le_refl _) _⟩
theorem where_no (orc : FuncId → Bool) (t : TW) (i : Int) (m : Value) (h : ¬ t.sound ∨ i < 0 ∨ t.size ≤ i) (G : GS) : ∃ G', (E orc).cl 24 [t.v, m, .int .i64 i] G = some (.int .i64 (-1), G') ∧ Ext G G' := by
  obtain ⟨G1, hG1⟩ : ∃ G1, G1 = ((G.push ⟨t.cells, 1, false, 1⟩).push ⟨[.int .i64 i], 1, false, 1⟩).push ⟨[.int .i64 0], 1, false, 1⟩ := ⟨_, rfl⟩
  have x1 : Ext G G1 := by rw [hG1]; exact (((Ext.refl G).push _).push _).push _
  have n1 : G1.nx = G.nx + 3 := by rw [hG1]; rfl
  have o1 : G1.obj G.nx = some ⟨t.cells, 1, false, 1⟩ := by rw [hG1]; simp; omega
  have o1' : G1.obj (G.nx + 1) = some ⟨[.int .i64 i], 1, false, 1⟩ := by rw [hG1]; simp
  have o1'' : G1.obj (G.nx + 2) = some ⟨[.int .i64 0], 1, false, 1⟩ := by rw [hG1]; simp
  obtain ⟨G2, e2, x2⟩ := asound_ok orc t G1
  have o2 := (x2.obj G.nx (by omega)).trans o1
  have o2' := (x2.obj (G.nx + 1) (by omega)).trans o1'
  have o2'' := (x2.obj (G.nx + 2) (by omega)).trans o1''
  have hz : z3 = [.int .i64 0] := rfl
  refine ⟨G2.put (G.nx + 2) ⟨[.int .i64 (-1)], 1, false, 1⟩, f24 (exL_ok Q orc) _ _ _ G _ ?_, (x1.trans x2).put (by omega) _⟩
  by_cases hs : t.sound
  · by_cases hi : i < 0
    · simp [s24, hz, ← hG1, o1, e2, o2', o2'', hs, hi]
    · have hh : t.size ≤ i := by rcases h with h | h | h <;> first | exact absurd hs h | omega
      have hi' : 0 ≤ i := by omega
      simp [s24, hz, ← hG1, o1, e2, o2, o2', o2'', hs, hi, hi', hh]
  · simp [s24, hz, ← hG1, o1, e2, o2', o2'', hs]
theorem where_nil (orc : FuncId → Bool) (ht : orc 271 = false) {t : TW} (hs : t.sound) {i : Int} (hi : 0 ≤ i ∧ i < t.size) (G : GS) : ∃ G', (E orc).cl 24 [t.v, .pointer none, .int .i64 i] G = some (.int .i64 0, G') ∧ Ext G G' := by
  obtain ⟨G1, hG1⟩ : ∃ G1, G1 = ((G.push ⟨t.cells, 1, false, 1⟩).push ⟨[.int .i64 i], 1, false, 1⟩).push ⟨[.int .i64 0], 1, false, 1⟩ := ⟨_, rfl⟩
  have x1 : Ext G G1 := by rw [hG1]; exact (((Ext.refl G).push _).push _).push _
  have n1 : G1.nx = G.nx + 3 := by rw [hG1]; rfl
  have o1 : G1.obj G.nx = some ⟨t.cells, 1, false, 1⟩ := by rw [hG1]; simp; omega
  have o1' : G1.obj (G.nx + 1) = some ⟨[.int .i64 i], 1, false, 1⟩ := by rw [hG1]; simp
  have o1'' : G1.obj (G.nx + 2) = some ⟨[.int .i64 0], 1, false, 1⟩ := by rw [hG1]; simp
  obtain ⟨G2, e2, x2⟩ := asound_ok orc t G1
  have n2 := x2.nx
  have o2 := (x2.obj G.nx (by omega)).trans o1
  have o2' := (x2.obj (G.nx + 1) (by omega)).trans o1'
  have o2'' := (x2.obj (G.nx + 2) (by omega)).trans o1''
  have hz : z3 = [.int .i64 0] := rfl
  have h1 : ¬ i < 0 := by omega
  have h2 : ¬ t.size ≤ i := by omega
  obtain ⟨G3, e3, x3⟩ := of_nil orc t G2
  have e4 := places_ok orc t G3
  obtain ⟨G4, hG4⟩ : ∃ G4, G4 = G3.push ⟨t.oc, 1, false, 1⟩ := ⟨_, rfl⟩
  have x4 : Ext G3 G4 := by rw [hG4]; exact (Ext.refl _).push _
  have n4 : G4.nx = G3.nx + 1 := by rw [hG4]; rfl
  rw [← hG4] at e4
  have q4 : G4.obj G3.nx = some ⟨t.oc, 1, false, 1⟩ := by rw [hG4]; simp
  have o4 := ((x3.trans x4).obj (G.nx + 2) (by omega)).trans o2''
  have w : Wp (s24 true (exL Q orc) t.v (.pointer none) (.int .i64 i) G) fun q => q.1 = .int .i64 0 ∧ Ext G q.2 := by
    simp [s24, hz, ← hG1, o1, e2, o2, o2', o2'', hs, h1, hi, h2, e3, e4]
    generalize hT : lst 35 _ = T
    have t6 : nth undef T 6 = P0 (G.nx + 2) := by rw [← hT, nth_lst]; simp [clip_t]
    generalize hr : Lp.mk _ _ _ _ _ _ = r
    obtain ⟨G5, e5, x5⟩ := run_nil orc ht hs (wb := G3.nx) (G := G4) (by omega) q4 T r (by rw [← hr]; simp) (by rw [← hr]; rfl)
    have o5 := (x5.obj _ (by have := x2.nx; have := x3.nx; omega)).trans o4
    simp [e5, t6, o5]
    exact ((x1.trans x2).trans (x3.trans (x4.trans x5))).put (by omega) _
  obtain ⟨⟨v, G'⟩, e, rfl, h⟩ := w
  exact ⟨G', f24 (exL_ok Q orc) _ _ _ G _ e, h⟩
abbrev sumI (n : Int) : Value := .agg ⟨[.int .i64 0, .int .i64 0, .int .i64 0, .int .i64 0, .int .i64 n]⟩
theorem sums_no (orc : FuncId → Bool) {t : TW} (m : Value) (hs : ¬ t.sound) (G : GS) : ∃ G', (E orc).cl 25 [t.v, m] G = some (sumI 0, G') ∧ Ext G G' := by
  obtain ⟨G1, hG1⟩ : ∃ G1, G1 = (G.push ⟨t.cells, 1, false, 1⟩).push ⟨[.int .i64 0, .int .i64 0, .int .i64 0, .int .i64 0, .int .i64 0], 1, false, 1⟩ := ⟨_, rfl⟩
  have x1 : Ext G G1 := by rw [hG1]; exact ((Ext.refl G).push _).push _
  have n1 : G1.nx = G.nx + 2 := by rw [hG1]; rfl
  have o1 : G1.obj G.nx = some ⟨t.cells, 1, false, 1⟩ := by rw [hG1]; simp
  have o1' : G1.obj (G.nx + 1) = some ⟨[.int .i64 0, .int .i64 0, .int .i64 0, .int .i64 0, .int .i64 0], 1, false, 1⟩ := by rw [hG1]; simp
  obtain ⟨G2, e2, x2⟩ := asound_ok orc t G1
  have o2' := (x2.obj (G.nx + 1) (by omega)).trans o1'
  have hz : z72 = [.int .i64 0, .int .i64 0, .int .i64 0, .int .i64 0, .int .i64 0] := rfl
  refine ⟨G2.put (G.nx + 1) ⟨[.int .i64 0, .int .i64 0, .int .i64 0, .int .i64 0, .int .i64 0], 1, false, 1⟩, f25 (exL_ok Q orc) _ _ G _ ?_, (x1.trans x2).put (by omega) _⟩
  simp [s25, hz, ← hG1, o1, e2, o2', hs]
theorem sums_nil (orc : FuncId → Bool) (ht : orc 271 = false) {t : TW} (hs : t.sound) (G : GS) : ∃ G', (E orc).cl 25 [t.v, .pointer none] G = some (sumI t.size, G') ∧ Ext G G' := by
  obtain ⟨G1, hG1⟩ : ∃ G1, G1 = (G.push ⟨t.cells, 1, false, 1⟩).push ⟨[.int .i64 0, .int .i64 0, .int .i64 0, .int .i64 0, .int .i64 0], 1, false, 1⟩ := ⟨_, rfl⟩
  have x1 : Ext G G1 := by rw [hG1]; exact ((Ext.refl G).push _).push _
  have n1 : G1.nx = G.nx + 2 := by rw [hG1]; rfl
  have o1 : G1.obj G.nx = some ⟨t.cells, 1, false, 1⟩ := by rw [hG1]; simp
  have o1' : G1.obj (G.nx + 1) = some ⟨[.int .i64 0, .int .i64 0, .int .i64 0, .int .i64 0, .int .i64 0], 1, false, 1⟩ := by rw [hG1]; simp
  obtain ⟨G2, e2, x2⟩ := asound_ok orc t G1
  have n2 := x2.nx
  have o2 := (x2.obj G.nx (by omega)).trans o1
  have o2' := (x2.obj (G.nx + 1) (by omega)).trans o1'
  have hz : z72 = [.int .i64 0, .int .i64 0, .int .i64 0, .int .i64 0, .int .i64 0] := rfl
  obtain ⟨G3, e3, x3⟩ := of_nil orc t G2
  have n3 := x3.nx
  have o3 := (x3.obj G.nx (by omega)).trans o2
  obtain ⟨G4, hG4⟩ : ∃ G4, G4 = (G3.push ⟨z174, 1, false, 1⟩).put G3.nx ⟨oL t, 1, false, 1⟩ := ⟨_, rfl⟩
  have x4 : Ext G3 G4 := by rw [hG4]; exact ((Ext.refl _).push _).put (Nat.le_refl _) _
  have n4 : G4.nx = G3.nx + 1 := by rw [hG4]; rfl
  have q4 : G4.obj G3.nx = some ⟨oL t, 1, false, 1⟩ := by rw [hG4]; simp
  have o4 := (x4.obj G.nx (by omega)).trans o3
  obtain ⟨G5, e5, x5⟩ := at_nil orc t t.u7 G4
  have n5 := x5.nx
  have hs3 := hs.2.2.1
  have hs4 := hs.2.2.2.1
  have hw : IntKind.wrap .u64 t.size = t.size := by rw [wrap_u64]; omega
  have hw' : IntKind.wrap .i64 t.size = t.size := wrap64 (by omega) (by omega)
  have hn0 : ¬ t.size < 0 := by omega
  have r5 := (x5.obj _ (by omega)).trans q4
  obtain ⟨G6, hG6⟩ : ∃ G6, G6 = (G5.push ⟨[.int .i64 0, .int .i64 0, .int .i64 0, .int .i64 0, .int .i64 0], 1, false, 1⟩).put G5.nx ⟨[.int .i64 0, .int .i64 0, .int .i64 0, .int .i64 0, .int .i64 0], 1, false, 1⟩ := ⟨_, rfl⟩
  have x6 : Ext G5 G6 := by rw [hG6]; exact ((Ext.refl _).push _).put (Nat.le_refl _) _
  have n6 : G6.nx = G5.nx + 1 := by rw [hG6]; rfl
  have q6 := (x6.obj _ (by omega)).trans r5
  have r6 : G6.obj G5.nx = some ⟨[.int .i64 0, .int .i64 0, .int .i64 0, .int .i64 0, .int .i64 0], 1, false, 1⟩ := by rw [hG6]; simp
  have e7 := places_ok orc t G6
  obtain ⟨G7, hG7⟩ : ∃ G7, G7 = G6.push ⟨t.oc, 1, false, 1⟩ := ⟨_, rfl⟩
  have x7 : Ext G6 G7 := by rw [hG7]; exact (Ext.refl _).push _
  have n7 : G7.nx = G6.nx + 1 := by rw [hG7]; rfl
  rw [← hG7] at e7
  have q7 : G7.obj G6.nx = some ⟨t.oc, 1, false, 1⟩ := by rw [hG7]; simp
  have w : Wp (s25 true (exL Q orc) t.v (.pointer none) G) fun q => q.1 = sumI t.size ∧ Ext G q.2 := by
    simp [s25, hz, ← hG1, o1, e2, o2, o2', hs, e3, ← hG4, q4, o4, e5, hw, hn0, w0, ← hG6, q6, e7]
    generalize hT : lst 69 _ = T
    have t4 : nth undef T 4 = P0 (G.nx + 1) := by rw [← hT, nth_lst]; simp [clip_t]
    have t6 : nth undef T 6 = .int .i64 t.size := by rw [← hT, nth_lst]; simp [clip_t]
    have t7 : nth undef T 7 = P0 G5.nx := by rw [← hT, nth_lst]; simp [clip_t]
    generalize hr : Lp.mk _ _ _ _ _ _ = r
    obtain ⟨G8, e8, x8⟩ := run_nil orc ht hs (wb := G6.nx) (G := G7) (by omega) q7 T r (by rw [← hr]; simp) (by rw [← hr]; rfl)
    have n8 := x8.nx
    have r8 := ((x7.trans x8).obj _ (by omega)).trans r6
    have o8 := (((x3.trans x4).trans (x5.trans (x6.trans (x7.trans x8)))).obj (G.nx + 1) (by omega)).trans o2'
    have hne : ¬ G.nx + 1 = G5.nx := by omega
    simp [e8, t4, t6, t7, r8, o8, hne, hw']
    exact (((x1.trans x2).trans ((x3.trans x4).trans (x5.trans (x6.trans (x7.trans x8))))).put (by omega) _).put (by omega) _
  obtain ⟨⟨v, G'⟩, e, rfl, h⟩ := w
  exact ⟨G', f25 (exL_ok Q orc) _ _ G _ e, h⟩
end Go.Proofs.YtdohlgkmaeipjaaGreat.Lift

set_option linter.unusedVariables false
set_option linter.unusedSimpArgs false
set_option maxRecDepth 20000
namespace Go.Proofs.YtdohlgkmaeipjaaGreat.Lift
open Go Go.Proofs.YtdohlgkmaeipjaaGreat.Gh Go.Proofs
/-! ### What Whole asks of each level -/
/-- a closure that answers true of every empty level, wherever the heap has come from B -/
def Holds (orc : FuncId → Bool) (t : TW) (frm : Int) (B : GS) (f : FuncId) (cs : List Value) : Prop := ∀ l G1, frm ≤ l → l < t.height → Ext B G1 → ∃ G2, (evL Q orc).cl f (.int .i64 l :: nilS :: cs) G1 = some (.bool true, G2) ∧ Ext G1 G2
theorem levels_lp (orc : FuncId → Bool) (ht : orc 271 = false) {t : TW} (hs : t.sound) {frm : Int} (hf0 : 0 ≤ frm) {B : GS} {f : FuncId} {cs : List Value} (H : Holds orc t frm B f cs) {xb : Nat} (hx : xb < B.nx) (o : B.obj xb = some ⟨oL t, 1, false, 1⟩) :
    ∀ (k : Nat) (l : Int) (τ : Env) (G : GS), l + k = max frm t.height → frm ≤ l → τ 2 = .func (.func f) ⟨[]⟩ ⟨cs⟩ → τ 3 = P0 xb → τ 7 = .int .i64 l → Ext B G →
    Wp ((exL Q orc).lpx 206 0 τ G) fun r => r.1 = .exit 0 ∧ Ext B r.2.2 := by
  intro k
  induction k with
  | zero =>
    intro l τ G hk hl t2 t3 t7 x
    have o1 := (x.obj _ hx).trans o
    have hn : ¬ l < t.height := by omega
    refine Wp.lp (l206_0 (exL_ok Q orc)) ?_
    simp [b206_0, clip_t, t2, t3, t7, o1, hn]
    exact x
  | succ k ih =>
    intro l τ G hk hl t2 t3 t7 x
    have o1 := (x.obj _ hx).trans o
    have hlt : l < t.height := by omega
    have hh := hs.2.1
    have hw : IntKind.wrap .i64 (l + 1) = l + 1 := wrap64 (by omega) (by omega)
    obtain ⟨G1, e1, x1⟩ := level_nil orc ht hs (l := l) ⟨by omega, hlt⟩ G
    obtain ⟨G2, e2, x2⟩ := H l G1 hl hlt (x.trans x1)
    refine Wp.lp (l206_0 (exL_ok Q orc)) ?_
    simp [b206_0, clip_t, t2, t3, t7, o1, hlt, e1, e2, hw]
    exact ih (l + 1) _ G2 (by omega) (by omega) (by simp [clip_t]) (by simp [clip_t]) (by simp [clip_t]) (x.trans (x1.trans x2))
theorem levels_ok (orc : FuncId → Bool) (ht : orc 271 = false) {t : TW} (hs : t.sound) {frm : Int} (hf0 : 0 ≤ frm) {G : GS} {f : FuncId} {cs : List Value} (H : Holds orc t frm G f cs) :
    ∃ G', (E orc).cl 206 [oV t, .int .i64 frm, .func (.func f) ⟨[]⟩ ⟨cs⟩] G = some (.bool true, G') ∧ Ext G G' := by
  obtain ⟨G1, hG1⟩ : ∃ G1, G1 = G.push ⟨oL t, 1, false, 1⟩ := ⟨_, rfl⟩
  have x1 : Ext G G1 := by rw [hG1]; exact (Ext.refl G).push _
  have n1 : G1.nx = G.nx + 1 := by rw [hG1]; rfl
  have o1 : G1.obj G.nx = some ⟨oL t, 1, false, 1⟩ := by rw [hG1]; simp
  obtain ⟨k, hk⟩ : ∃ k : Nat, frm + k = max frm t.height := ⟨(max frm t.height - frm).toNat, by omega⟩
  have w : Wp (s206 true (exL Q orc) (oV t) (.int .i64 frm) (.func (.func f) ⟨[]⟩ ⟨cs⟩) G) fun q => q.1 = .bool true ∧ Ext G q.2 := by
    simp [s206, ← hG1]
    refine Wp.bE ((levels_lp orc ht hs hf0 (B := G1) (f := f) (cs := cs) (fun l G2 h1 h2 x => H l G2 h1 h2 (x1.trans x)) (xb := G.nx) (by omega) o1 k frm _ _ hk (Int.le_refl _) (by simp [clip_t]) (by simp [clip_t]) (by simp [clip_t]) (Ext.refl _)).mono ?_)
    rintro ⟨e, τ, G3⟩ ⟨rfl, x3⟩
    simp
    exact x1.trans x3
  obtain ⟨⟨v, G'⟩, e, rfl, h⟩ := w
  exact ⟨G', f206 (exL_ok Q orc) _ _ _ G _ e, h⟩
theorem linked_nil (orc : FuncId → Bool) (ht : orc 271 = false) {t : TW} (hs : t.sound) (G : GS) : ∃ G', (E orc).cl 92 [oV t] G = some (.int .i64 0, G') ∧ Ext G G' := by
  obtain ⟨G1, hG1⟩ : ∃ G1, G1 = G.push ⟨oL t, 1, false, 1⟩ := ⟨_, rfl⟩
  have x1 : Ext G G1 := by rw [hG1]; exact (Ext.refl G).push _
  have n1 : G1.nx = G.nx + 1 := by rw [hG1]; rfl
  have o1 : G1.obj G.nx = some ⟨oL t, 1, false, 1⟩ := by rw [hG1]; simp
  obtain ⟨G2, e2, x2⟩ := levels_ok orc ht hs (frm := 0) (by omega) (G := G1) (f := 207) (cs := [P0 G.nx]) (by
    intro l Ga h1 h2 x
    have p1 := (x.obj _ (by omega)).trans o1
    obtain ⟨Gb, eb, xb⟩ := nextl_ok orc hs (l := l) ⟨h1, h2⟩ (Ga.room 9)
    have yb : Ext Ga Gb := ((Ext.refl _).room 9).trans xb
    have p2 := (yb.obj _ (by have := x.nx; omega)).trans p1
    obtain ⟨Gc, ec, xc⟩ := at_nil orc t (t.heads + l) Gb
    have w : Wp (s207 true (exL Q orc) (.int .i64 l) nilS (P0 G.nx) Ga) fun q => q.1 = .bool true ∧ Ext Ga q.2 := by
      simp [s207]
      refine Wp.bE ((Wp.lp (l207_0 (exL_ok Q orc)) (Q := fun q => q.1 = .exit 0 ∧ q.2.1 0 = .int .i64 l ∧ q.2.1 2 = P0 G.nx ∧ q.2.1 6 = .int .i64 (-1) ∧ q.2.2 = Ga) ?_).mono ?_)
      · simp [b207_0, clip_t]
      rintro ⟨e, τ, G3⟩ ⟨rfl, h1, h2, h3, rfl⟩
      simp at h1 h2 h3
      simp [h1, h2, h3, p1, p2, eb, ec]
      exact yb.trans xc
    obtain ⟨⟨v, G'⟩, e, rfl, h⟩ := w
    exact ⟨G', f207 (exL_ok Q orc) _ _ _ Ga _ e, h⟩)
  refine ⟨G2, f92 (exL_ok Q orc) _ G _ ?_, x1.trans x2⟩
  simp [s92, ← hG1, o1, e2]
theorem rises_nil (orc : FuncId → Bool) (ht : orc 271 = false) {t : TW} (hs : t.sound) (G : GS) : ∃ G', (E orc).cl 93 [oV t] G = some (.int .i64 0, G') ∧ Ext G G' := by
  obtain ⟨G1, hG1⟩ : ∃ G1, G1 = ((G.push ⟨oL t, 1, false, 1⟩).push ⟨z180, 1, false, 1⟩).put (G.nx + 1) ⟨[.func (.func 208) #[] #[P0 G.nx]], 1, false, 1⟩ := ⟨_, rfl⟩
  have x1 : Ext G G1 := by rw [hG1]; exact (((Ext.refl G).push _).push _).put (by omega) _
  have n1 : G1.nx = G.nx + 2 := by rw [hG1]; rfl
  have o1 : G1.obj G.nx = some ⟨oL t, 1, false, 1⟩ := by rw [hG1]; simp
  obtain ⟨G2, e2, x2⟩ := levels_ok orc ht hs (frm := 0) (by omega) (G := G1) (f := 209) (cs := [P0 (G.nx + 1)]) (by
    intro l Ga h1 h2 x
    have w : Wp (s209 true (exL Q orc) (.int .i64 l) nilS (P0 (G.nx + 1)) Ga) fun q => q.1 = .bool true ∧ Ext Ga q.2 := by
      simp [s209]
      refine Wp.bE ((Wp.lp (l209_0 (exL_ok Q orc)) (Q := fun q => q.1 = .exit 0 ∧ q.2.2 = Ga) ?_).mono ?_)
      · simp [b209_0, clip_t]
      rintro ⟨e, τ, G3⟩ ⟨rfl, rfl⟩
      simp
      exact Ext.refl _
    obtain ⟨⟨v, G'⟩, e, rfl, h⟩ := w
    exact ⟨G', f209 (exL_ok Q orc) _ _ _ Ga _ e, h⟩)
  refine ⟨G2, f93 (exL_ok Q orc) _ G _ ?_, x1.trans x2⟩
  simp [s93, ← hG1, o1, e2]
theorem stands_nil (orc : FuncId → Bool) (ht : orc 271 = false) {t : TW} (hs : t.sound) (G : GS) : ∃ G', (E orc).cl 94 [oV t] G = some (.int .i64 0, G') ∧ Ext G G' := by
  obtain ⟨G1, hG1⟩ : ∃ G1, G1 = G.push ⟨oL t, 1, false, 1⟩ := ⟨_, rfl⟩
  have x1 : Ext G G1 := by rw [hG1]; exact (Ext.refl G).push _
  have n1 : G1.nx = G.nx + 1 := by rw [hG1]; rfl
  have o1 : G1.obj G.nx = some ⟨oL t, 1, false, 1⟩ := by rw [hG1]; simp
  obtain ⟨G2, e2, x2⟩ := level_nil orc ht hs (l := 0) ⟨by omega, by have := hs.1; omega⟩ G1
  have n2 := x2.nx
  have o2 := (x2.obj _ (by omega)).trans o1
  obtain ⟨G3, hG3⟩ : ∃ G3, G3 = (G2.push ⟨[nilS], 1, false, 1⟩).put G2.nx ⟨[nilS], 1, false, 1⟩ := ⟨_, rfl⟩
  have x3 : Ext G2 G3 := by rw [hG3]; exact ((Ext.refl _).push _).put (Nat.le_refl _) _
  have n3 : G3.nx = G2.nx + 1 := by rw [hG3]; rfl
  have o3 := (x3.obj _ (by omega)).trans o2
  have q3 : G3.obj G2.nx = some ⟨[nilS], 1, false, 1⟩ := by rw [hG3]; simp
  obtain ⟨G4, e4, x4⟩ := levels_ok orc ht hs (frm := 1) (by omega) (G := G3) (f := 210) (cs := [P0 G2.nx, P0 G.nx]) (by
    intro l Ga h1 h2 x
    have p3 := (x.obj _ (by omega)).trans q3
    have w : Wp (s210 true (exL Q orc) (.int .i64 l) nilS (P0 G2.nx) (P0 G.nx) Ga) fun q => q.1 = .bool true ∧ Ext Ga q.2 := by
      simp [s210, p3]
      refine Wp.bE ((Wp.lp (l210_0 (exL_ok Q orc)) (Q := fun q => q.1 = .exit 0 ∧ q.2.1 1 = nilS ∧ q.2.2 = Ga) ?_).mono ?_)
      · simp [b210_0, clip_t]
      rintro ⟨e, τ, Gd⟩ ⟨rfl, h3, rfl⟩
      simp at h3
      simp [h3]
      exact Ext.refl _
    obtain ⟨⟨v, G'⟩, e, rfl, h⟩ := w
    exact ⟨G', f210 (exL_ok Q orc) _ _ _ _ Ga _ e, h⟩)
  have hz : z78 = [nilS] := rfl
  refine ⟨G4, f94 (exL_ok Q orc) _ G _ ?_, (x1.trans x2).trans (x3.trans x4)⟩
  simp [s94, hz, ← hG1, o1, e2, ← hG3, o3, e4]
end Go.Proofs.YtdohlgkmaeipjaaGreat.Lift

