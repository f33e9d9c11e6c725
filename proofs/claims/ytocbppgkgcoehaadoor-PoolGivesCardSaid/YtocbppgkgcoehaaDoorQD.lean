/- contracts of the program's functions -/
import Derived.Test.YtocbppgkgcoehaaDoorQC
set_option linter.unusedVariables false
set_option linter.unusedSimpArgs false
set_option maxRecDepth 20000
namespace Go.Proofs.YtocbppgkgcoehaaDoor.Lift
open Go Go.Proofs.YtocbppgkgcoehaaDoor.Gh Go.Proofs
/-! ### What is behind an answer is a pool -/
theorem filter_len : ∀ {L : List Int} {a : Int}, L.Pairwise (· < ·) → a ∈ L → (L.filter fun x => decide (x ≠ a)).length + 1 = L.length
  | [], a, _, h => by cases h
  | b :: L, a, hp, h => by
    obtain ⟨hb, hL⟩ := List.pairwise_cons.1 hp
    by_cases e : b = a
    · subst e
      have : L.filter (fun x => decide (x ≠ b)) = L := List.filter_eq_self.2 fun x hx => by have := hb x hx; simp; omega
      rw [List.filter_cons, if_neg (by simp), this]; rfl
    · have ha : a ∈ L := by
        rcases List.mem_cons.1 h with h | h
        · exact absurd h.symm e
        · exact h
      have ih := filter_len hL ha
      rw [List.filter_cons, if_pos (by simpa using e), List.length_cons, List.length_cons, ih]
theorem checkI_of {l : List Int} (h1 : ∀ x ∈ l, inI x = true) (h2 : l.Pairwise (· < ·)) : checkI l = 0 := checkI_zero.2 ⟨List.all_eq_true.2 h1, pair_asc h2⟩
theorem allA_zero {l : List Int} {op : Opn} {y : An} (h : y ∈ allA l op) : checkI l = 0 := by
  unfold allA at h
  split at h
  · assumption
  · cases h
/-- what an answer that may be means -/
structure OneOk (l t : List Int) (op : Opn) (y : An) : Prop where
  chk : checkI t = 0
  same : y.1 ≠ 0 → l = t
  alloc : y.1 = 0 → op.1 = 7 → t.length + 1 = l.length ∧ y.2.1 ∈ l ∧ y.2.1 ∉ t
  free : y.1 = 0 → op.1 ≠ 7 → t.length = l.length + 1 ∧ op.2.1 ∉ l ∧ op.2.1 ∈ t
  all : ∀ x ∈ l, x ∈ t ∨ (op.1 = 7 ∧ y.1 = 0 ∧ x = y.2.1)
theorem one_of {l : List Int} {op : Opn} {y : An} (h : y ∈ allA l op) : OneOk l (behA l op y) op y := by
  have hc := allA_zero h
  obtain ⟨h1, h2⟩ := checkI_zero.1 hc
  have hl := asc_pair h2
  have hin : ∀ x ∈ l, inI x = true := List.all_eq_true.1 h1
  by_cases h0 : y.1 = 0
  · have hb : behA l op y = behN l op y 1024 := by unfold behA; rw [if_pos h0]
    have hbc : checkI (behN l op y 1024) = 0 := checkI_of (fun x hx => (mem_behN.1 hx).1) (behN_asc _ _ _)
    unfold allA at h
    rw [if_pos hc] at h
    rw [hb]
    by_cases h7 : op.1 = 7
    · rw [if_pos h7] at h
      simp only [List.mem_append, List.mem_map, List.mem_cons, List.not_mem_nil, or_false] at h
      have hy : y.2.1 ∈ l := by
        rcases h with ⟨x, hx, rfl⟩ | rfl | rfl
        · exact hx
        · cases h0
        · cases h0
      have hm : ∀ x, x ∈ behN l op y 1024 ↔ x ∈ l ∧ x ≠ y.2.1 := fun x => by
        rw [mem_behN]
        unfold behP
        constructor
        · rintro ⟨p1, p2⟩
          rw [(inI_nat p1).2, if_neg (fun h => by omega)] at p2
          by_cases e : x = y.2.1
          · rw [if_pos ⟨h7, e⟩] at p2; cases p2
          · rw [if_neg (fun h => e h.2)] at p2; exact ⟨by simpa using p2, e⟩
        · rintro ⟨p1, p2⟩
          refine ⟨hin x p1, ?_⟩
          rw [(inI_nat (hin x p1)).2, if_neg (fun h => by omega), if_neg (fun h => p2 h.2)]
          simpa using p1
      have he : behN l op y 1024 = l.filter fun x => decide (x ≠ y.2.1) := asc_extI (behN_asc _ _ _) (hl.filter _) fun x => by rw [hm]; simp
      refine ⟨hbc, fun h => absurd h0 h, fun _ _ => ⟨by rw [he]; exact filter_len hl hy, hy, fun h => ((hm _).1 h).2 rfl⟩, fun _ h => absurd h7 h, fun x hx => ?_⟩
      by_cases e : x = y.2.1
      · exact .inr ⟨h7, h0, e⟩
      · exact .inl ((hm x).2 ⟨hx, e⟩)
    · rw [if_neg h7] at h
      by_cases h8 : op.1 = 8
      · rw [if_pos h8, List.mem_singleton] at h
        have ha : inI op.2.1 = true ∧ op.2.1 ∉ l := by
          by_cases hi : inI op.2.1 = true
          · refine ⟨hi, fun hm => ?_⟩
            rw [if_pos hi, if_pos hm] at h
            rw [h] at h0; cases h0
          · rw [if_neg hi] at h
            rw [h] at h0; cases h0
        have hm : ∀ x, x ∈ behN l op y 1024 ↔ x ∈ l ∨ x = op.2.1 := fun x => by
          rw [mem_behN]
          unfold behP
          constructor
          · rintro ⟨p1, p2⟩
            rw [(inI_nat p1).2] at p2
            by_cases e : x = op.2.1
            · exact .inr e
            · rw [if_neg (fun h => e h.2), if_neg (fun h => h7 h.1)] at p2; exact .inl (by simpa using p2)
          · rintro (p1 | rfl)
            · refine ⟨hin x p1, ?_⟩
              rw [(inI_nat (hin x p1)).2]
              split
              · rfl
              · rw [if_neg (fun h => h7 h.1)]; simpa using p1
            · refine ⟨ha.1, ?_⟩
              rw [(inI_nat ha.1).2, if_pos ⟨h8, rfl⟩]
        have he : l = (behN l op y 1024).filter fun x => decide (x ≠ op.2.1) := asc_extI hl ((behN_asc _ _ _).filter _) fun x => by
          simp only [List.mem_filter, hm, decide_eq_true_eq]
          constructor
          · exact fun hx => ⟨.inl hx, fun e => ha.2 (e ▸ hx)⟩
          · rintro ⟨h | h, h'⟩
            · exact h
            · exact absurd h h'
        have hf := filter_len (behN_asc l op y) ((hm op.2.1).2 (.inr rfl))
        rw [← he] at hf
        exact ⟨hbc, fun h => absurd h0 h, fun _ h => absurd h h7, fun _ _ => ⟨hf.symm, ha.2, (hm _).2 (.inr rfl)⟩, fun x hx => .inl ((hm x).2 (.inl hx))⟩
      · rw [if_neg h8] at h; cases h
  · have hb : behA l op y = l := by unfold behA; rw [if_neg h0]
    rw [hb]
    exact ⟨hc, fun _ => rfl, fun h => absurd h h0, fun h => absurd h h0, fun x hx => .inl hx⟩
section
variable {H G : GS} {A t : List Int} {Y : List An} {v0 vt vy : Value} {op : Opn} {y : An}
theorem has_lp (orc : FuncId → Bool) {ab : Nat} {an : An} (hY : SlR rAn H vy Y) (hlen : Y.length < 2 ^ 40) (hab : ab < H.nx) (oa : H.obj ab = some ⟨[.int .i64 an.1, .int .i64 an.2.1, .int .u64 an.2.2], 1, false, 1⟩) :
    ∀ (k i : Nat) (τ : Env) (G : GS), i + k = Y.length → τ 0 = vy → τ 3 = P0 ab → τ 5 = .int .i64 (i : Int) → Ext H G →
    Wp ((exL Q orc).lpx 30 0 τ G) fun q => Ext H q.2.2 ∧ ((q.1 = .exit 0 ∧ an ∉ Y.drop i) ∨ (q.1 = .ret ∧ an ∈ Y.drop i ∧ q.2.1 4 = .bool true)) := by
  intro k
  induction k with
  | zero =>
    intro i τ G hi t0 t3 t5 x
    have hi' : i = Y.length := by omega
    obtain ⟨a, c, e0⟩ := hY.len
    refine Wp.lp (l30_0 (exL_ok Q orc)) ?_
    subst hi'
    simp [b30_0, clip_t, t0, t3, t5, e0]
    exact x
  | succ k ih =>
    intro i τ G hi t0 t3 t5 x
    have hlt : i < Y.length := by omega
    have hw : IntKind.wrap .i64 ((i : Int) + 1) = ((i + 1 : Nat) : Int) := wrap64 (by omega) (by omega)
    have h1 : (i : Int) < Y.length := by omega
    have h2 : (0 : Int) ≤ i := by omega
    have x6 := x.room 6
    obtain ⟨b, o, c, e0, _, _, q0⟩ := (hY.ext x).at hlt
    simp only [rAn_sz, rAn_row] at q0
    have oa1 := (x.obj ab hab).trans oa
    rw [List.drop_eq_getElem_cons hlt]
    generalize hy : Y[i] = y at *
    have heq := eq_an (.tmp 15) (.tmp 16) y an
    refine Wp.lp (l30_0 (exL_ok Q orc)) ?_
    by_cases hc : y = an
    · subst hc
      simp only [decide_true] at heq
      simp [-loadA_s, -Int.natCast_add, b30_0, clip_t, t0, t3, t5, e0, h1, h2, hlt, q0, loadA_whole oa1, heq]
      exact x6
    · have hc' : ¬ an = y := fun e => hc e.symm
      simp only [hc, decide_false] at heq
      simp [-loadA_s, -Int.natCast_add, b30_0, clip_t, t0, t3, t5, e0, h1, h2, hlt, q0, loadA_whole oa1, heq, hw]
      refine Wp.mono (ih (i + 1) _ (G.room 6) (by omega) ?_ ?_ ?_ x6) fun q hq => ?_
      · simp [clip_t, e0]
      · simp [clip_t]
      · simp [clip_t]
      · simpa [hc'] using hq
theorem hasA_ok (orc : FuncId → Bool) (hY : SlR rAn G vy Y) (hlen : Y.length < 2 ^ 40) (an : An) : ∃ G', (E orc).cl 30 [vy, anV an] G = some (.bool (decide (an ∈ Y)), G') ∧ Ext G G' := by
  have w : Wp ((E orc).cl 30 [vy, anV an] G) fun q => q.1 = .bool (decide (an ∈ Y)) ∧ Ext G q.2 := by
    refine Wp.ref (f30 (exL_ok Q orc) _ _ G) ?_
    have x0 : Ext G (G.push ⟨[.int .i64 an.1, .int .i64 an.2.1, .int .u64 an.2.2], 1, false, 1⟩) := (Ext.refl G).push _
    simp [s30]
    refine Wp.bE ((has_lp orc (an := an) (ab := G.nx) (hY.ext x0) hlen (by simp) (by simp) Y.length 0 _ _ (by omega) (by simp) (by simp) (by simp) (Ext.refl _)).mono ?_)
    rintro ⟨e, τ, G3⟩ ⟨x3, (⟨h1, h2⟩ | ⟨h1, h2, h3⟩)⟩
    · simp only [List.drop_zero] at x3 h1 h2
      subst h1
      simp [h2]
      exact x0.trans x3
    · simp only [List.drop_zero] at x3 h1 h2 h3
      subst h1
      simp [h2, h3]
      exact x0.trans x3
  obtain ⟨⟨v, G'⟩, e, rfl, x⟩ := w
  exact ⟨G', e, x⟩
set_option maxHeartbeats 1000000 in
theorem one_in (orc : FuncId → Bool) {ob i : Nat} (hA : SlR (rowsI .i64) H v0 A) (hlen : A.length < 2 ^ 30) (ht : SlR (rowsI .i64) H vt t) (hlt : t.length < 2 ^ 30) (hY : SlR rAn H vy Y) (hi : i < Y.length) (hy : Y[i] = y) (hob : ob < H.nx) (oo : H.obj ob = some ⟨[.int .i64 op.1, .int .i64 op.2.1, .int .i64 op.2.2.1, .int .u64 op.2.2.2], 1, false, 1⟩)
    (hp : ∀ x ∈ A, x ∈ t ∨ (op.1 = 7 ∧ y.1 = 0 ∧ x = y.2.1)) (v7 : Value) :
    ∀ (k j : Nat) (τ : Env) (G : GS), j + k = A.length → τ 0 = v0 → τ 4 = P0 ob → τ 7 = v7 → τ 8 = vy → τ 11 = .int .i64 (i : Int) → τ 12 = vt → τ 13 = .bool true → τ 14 = .int .i64 (j : Int) → Ext H G →
    Wp ((exL Q orc).lpx 6 1 τ G) fun q => q.1 = .exit 3 ∧ Ext H q.2.2 ∧ q.2.1 0 = v0 ∧ q.2.1 4 = P0 ob ∧ q.2.1 7 = v7 ∧ q.2.1 8 = vy ∧ q.2.1 11 = .int .i64 (i : Int) ∧ q.2.1 13 = .bool true := by
  intro k
  induction k with
  | zero =>
    intro j τ G hj t0 t4 t7 t8 t11 t12 t13 t14 x
    have hj' : j = A.length := by omega
    obtain ⟨a, c, e0⟩ := hA.len
    refine Wp.lp (l6_1 (exL_ok Q orc)) ?_
    subst hj'
    simp [b6_1, clip_t, t0, t4, t7, t8, t11, t12, t13, t14, e0]
    exact x
  | succ k ih =>
    intro j τ G hj t0 t4 t7 t8 t11 t12 t13 t14 x
    have hjl : j < A.length := by omega
    have hw : IntKind.wrap .i64 ((j : Int) + 1) = ((j + 1 : Nat) : Int) := wrap64 (by omega) (by omega)
    have h1 : (j : Int) < A.length := by omega
    have h2 : (0 : Int) ≤ j := by omega
    have h3 : (i : Int) < Y.length := by omega
    have h4 : (0 : Int) ≤ i := by omega
    have x1 := x.room 32
    obtain ⟨b, o, c, e0, _, q, _⟩ := (hA.ext x).at hjl
    have q0 := q 0 (by decide)
    simp at q0
    obtain ⟨b', o', c', e1, _, q', _⟩ := (hY.ext x).at hi
    have q1 := q' 0 (by decide)
    have q2 := q' 1 (by decide)
    simp [hy] at q1 q2
    have oo1 := (x.obj ob hob).trans oo
    have ea := among_ok' orc (ht.ext x1) (by omega) A[j]
    have hx := hp A[j] (List.getElem_mem hjl)
    generalize A[j] = z at *
    have nx : ∀ τ' : Env, τ' 0 = v0 → τ' 4 = P0 ob → τ' 7 = v7 → τ' 8 = vy → τ' 11 = .int .i64 (i : Int) → τ' 12 = vt → τ' 13 = .bool true → τ' 14 = .int .i64 ((j + 1 : Nat) : Int) → _ := fun τ' a0 a4 a7 a8 a11 a12 a13 a14 => ih (j + 1) τ' (G.room 32) (by omega) a0 a4 a7 a8 a11 a12 a13 a14 x1
    clear ih
    subst e0
    subst e1
    refine Wp.lp (l6_1 (exL_ok Q orc)) ?_
    by_cases hz : z ∈ t
    · simp [-Int.natCast_add, b6_1, clip_t, t0, t4, t7, t8, t11, t12, t13, t14, h1, h2, hjl, q0, ea, hz, hw]
      refine nx _ ?_ ?_ ?_ ?_ ?_ ?_ ?_ ?_ <;> simp [clip_t, t0, t4, t7, t8, t11, t12]
    · obtain ⟨p1, p2, p3⟩ := hx.resolve_left hz
      subst p3
      simp [-Int.natCast_add, b6_1, clip_t, t0, t4, t7, t8, t11, t12, t13, t14, h1, h2, h3, h4, hi, hjl, q0, q1, q2, oo1, p1, p2, ea, hz, hw]
      refine nx _ ?_ ?_ ?_ ?_ ?_ ?_ ?_ ?_ <;> simp [clip_t, t0, t4, t7, t8, t11, t12]
end
end Go.Proofs.YtocbppgkgcoehaaDoor.Lift

set_option linter.unusedVariables false
set_option linter.unusedSimpArgs false
set_option maxRecDepth 20000
namespace Go.Proofs.YtocbppgkgcoehaaDoor.Lift
open Go Go.Proofs.YtocbppgkgcoehaaDoor.Gh Go.Proofs
section
variable {H G : GS} {A : List Int} {v0 vy : Value} {op : Opn}
set_option maxHeartbeats 1000000 in
theorem po_lp (orc : FuncId → Bool) {ob : Nat} (hH : Tab H) (hA : SlR (rowsI .i64) H v0 A) (hlen : A.length ≤ 60) (hY : SlR rAn H vy (allA A op)) (hob : ob < H.nx) (oo : H.obj ob = some ⟨[.int .i64 op.1, .int .i64 op.2.1, .int .i64 op.2.2.1, .int .u64 op.2.2.2], 1, false, 1⟩) (v7 : Value) :
    ∀ (k i : Nat) (τ : Env) (G : GS), i + k = (allA A op).length → τ 0 = v0 → τ 4 = P0 ob → τ 7 = v7 → τ 8 = vy → τ 11 = .int .i64 (i : Int) → Ext H G →
    Wp ((exL Q orc).lpx 6 0 τ G) fun q => q.1 = .exit 0 ∧ q.2.1 7 = v7 := by
  have hl := allA_len A op
  intro k
  induction k with
  | zero =>
    intro i τ G hi t0 t4 t7 t8 t11 x
    have hi' : i = (allA A op).length := by omega
    obtain ⟨ya, yc, ey⟩ := hY.len
    refine Wp.lp (l6_0 (exL_ok Q orc)) ?_
    subst hi'
    simp [b6_0, bb6_0, clip_t, t0, t4, t7, t8, t11, ey]
  | succ k ih =>
    intro i τ G hi t0 t4 t7 t8 t11 x
    have hlt : i < (allA A op).length := by omega
    have hw : IntKind.wrap .i64 ((i : Int) + 1) = ((i + 1 : Nat) : Int) := wrap64 (by omega) (by omega)
    have h1 : (i : Int) < (allA A op).length := by omega
    have h2 : (0 : Int) ≤ i := by omega
    have x0 := x.room 12
    obtain ⟨b, o, c, e0, _, _, q0⟩ := (hY.ext x0).at hlt
    simp only [rAn_sz, rAn_row] at q0
    have hmem : (allA A op)[i] ∈ allA A op := List.getElem_mem hlt
    generalize hy : (allA A op)[i] = y at *
    have hn : nextA A op y = (behA A op y, true) := by unfold nextA; rw [if_pos hmem]
    have ho := one_of hmem
    obtain ⟨v1, G1, e1, x1, w1⟩ := next_ok orc (hA.ext x0) (by omega) op y (hH.ext x0)
    rw [hn] at e1 w1
    simp only at e1 w1
    have htl : (behA A op y).length ≤ 1100 := by
      unfold behA
      split
      · have := behN_len A op y 1024; omega
      · omega
    generalize ht : behA A op y = t at *
    have y1 := x0.trans x1
    obtain ⟨G2, e2, x2⟩ := check_ok orc w1.is (by omega)
    rw [ho.chk] at e2
    have y2 := y1.trans x2
    obtain ⟨_, _, _, e0', _, q2', _⟩ := (hY.ext y2).at hlt
    rw [e0] at e0'
    simp only [Value.slice.injEq, Option.some.injEq, Addr.mk.injEq, and_true, true_and] at e0'
    obtain ⟨⟨rfl, rfl⟩, rfl⟩ := e0'
    have q2 := q2' 0 (by decide)
    have q3 := q2' 1 (by decide)
    simp [hy] at q2 q3
    obtain ⟨ta, tc, et⟩ := w1.is.len
    obtain ⟨va, vc, ev⟩ := hA.len
    have lt : ∀ n, ln Q true n v1 = some (.int .i64 t.length) := fun n => by rw [et]; simp
    have l0 : ∀ n, ln Q true n v0 = some (.int .i64 A.length) := fun n => by rw [ev]; simp
    have oo0 := (x0.obj ob hob).trans oo
    have oo2 := (y2.obj ob hob).trans oo
    have w2 := (w1.ext x2).is
    -- behind the switch
    have fin : ∀ (τ' : Env) (G' : GS), Ext G2 G' → τ' 0 = v0 → τ' 4 = P0 ob → τ' 7 = v7 → τ' 8 = vy → τ' 11 = .int .i64 (i : Int) → τ' 12 = v1 → τ' 13 = .bool true →
        Wp (jbl6_0_0 true (exL Q orc) ((exL Q orc).lpx 6 0) τ' G') fun q => q.1 = .exit 0 ∧ q.2.1 7 = v7 := by
      intro τ' G' x' s0 s4 s7 s8 s11 s12 s13
      have y' := y2.trans x'
      simp [jbl6_0_0]
      refine Wp.bE (Wp.mono (one_in orc (H := G') (vt := v1) (vy := vy) (Y := allA A op) (y := y) (t := t) (i := i) (ob := ob) (op := op) (hA.ext y') (by omega) (w2.ext x') (by omega) (hY.ext y') hlt hy (by have := y'.nx; omega) ((y'.obj ob hob).trans oo) ho.all v7 A.length 0 _ G' (by omega) ?_ ?_ ?_ ?_ ?_ ?_ ?_ ?_ (Ext.refl _)) ?_)
      · simp [s0]
      · simp [s4]
      · simp [s7]
      · simp [s8]
      · simp [s11]
      · simp [s12]
      · simp [s13]
      · simp
      rintro ⟨e, τ'', G''⟩ ⟨rfl, x'', a0, a4, a7, a8, a11, a13⟩
      simp only at x'' a0 a4 a7 a8 a11 a13
      simp [-Int.natCast_add, a0, a4, a7, a8, a11, a13, hw]
      refine ih (i + 1) _ G'' (by omega) ?_ ?_ ?_ ?_ ?_ (y'.trans x'') <;> simp [clip_t, a0, a4, a7, a8, a11]
    clear ih
    refine Wp.lp (l6_0 (exL_ok Q orc)) ?_
    simp only [obj_room] at oo0
    simp only [loadA_room] at q0
    by_cases c0 : y.1 = 0
    · have c0' : (y.1 = 0) = True := eq_true c0
      by_cases c7 : op.1 = 7
      · have c7' : (op.1 = 7) = True := eq_true c7
        obtain ⟨p1, p2, p3⟩ := ho.alloc c0 c7
        have m1 := among_ok' orc (hA.ext y2) (by omega) y.2.1
        have m2 := among_ok' orc w2 (by omega) y.2.1
        have hwl : IntKind.wrap .i64 ((A.length : Int) - 1) = (t.length : Int) := by
          have : (A.length : Int) - 1 = (t.length : Int) := by omega
          rw [this]; exact wrap64 (by omega) (by omega)
        simp [-loadA_s, -Int.natCast_add, b6_0, bb6_0, jl6_0_0, clip_t, t0, t4, t7, t8, t11, e0, h1, h2, hlt, loadA_whole oo0, q0, e1, e2, q2, q3, c0', c7', oo2, lt, l0, hwl, m1, m2, p2, p3]
        refine fin _ _ (Ext.refl _) ?_ ?_ ?_ ?_ ?_ ?_ ?_ <;> simp [clip_t, e0, t0, t4, t7]
      · obtain ⟨p1, p2, p3⟩ := ho.free c0 c7
        have m1 := among_ok' orc (hA.ext y2) (by omega) op.2.1
        have m2 := among_ok' orc w2 (by omega) op.2.1
        have hwl : IntKind.wrap .i64 ((A.length : Int) + 1) = (t.length : Int) := by
          have : (A.length : Int) + 1 = (t.length : Int) := by omega
          rw [this]; exact wrap64 (by omega) (by omega)
        simp [-loadA_s, -Int.natCast_add, b6_0, bb6_0, jl6_0_0, clip_t, t0, t4, t7, t8, t11, e0, h1, h2, hlt, loadA_whole oo0, q0, e1, e2, q2, q3, c0', c7, oo2, lt, l0, hwl, m1, m2, p2, p3]
        refine fin _ _ (Ext.refl _) ?_ ?_ ?_ ?_ ?_ ?_ ?_ <;> simp [clip_t, e0, t0, t4, t7]
    · have hs := ho.same c0
      obtain ⟨G3, e3, x3⟩ := same16 orc (hA.ext y2) w2 (by omega)
      simp only [hs, decide_true] at e3
      simp [-loadA_s, -Int.natCast_add, b6_0, bb6_0, jl6_0_0, clip_t, t0, t4, t7, t8, t11, e0, h1, h2, hlt, loadA_whole oo0, q0, e1, e2, q2, q3, c0, oo2, e3]
      refine fin _ _ x3 ?_ ?_ ?_ ?_ ?_ ?_ ?_ <;> simp [clip_t, e0, t0, t4, t7]
theorem poolOne (orc : FuncId → Bool) (hkn : orc 5 = true) (hA : SlR (rowsI .i64) G v0 A) (op : Opn) (an : An) (hG : Tab G) :
    Wp ((E orc).cl 6 [v0, opV op, anV an] G) fun q => q.1 = .bool true := by
  refine Wp.ref (f6 (exL_ok Q orc) _ _ _ G) ?_
  obtain ⟨G1, hG1⟩ : ∃ G1, G1 = (G.push ⟨[.int .i64 op.1, .int .i64 op.2.1, .int .i64 op.2.2.1, .int .u64 op.2.2.2], 1, false, 1⟩).push ⟨[.int .i64 an.1, .int .i64 an.2.1, .int .u64 an.2.2], 1, false, 1⟩ := ⟨_, rfl⟩
  have x1 : Ext G G1 := by rw [hG1]; exact ((Ext.refl G).push _).push _
  have n1 : G1.nx = G.nx + 2 := by rw [hG1]; rfl
  have oo : G1.obj G.nx = some ⟨[.int .i64 op.1, .int .i64 op.2.1, .int .i64 op.2.2.1, .int .u64 op.2.2.2], 1, false, 1⟩ := by rw [hG1]; simp
  have oa : G1.obj (G.nx + 1) = some ⟨[.int .i64 an.1, .int .i64 an.2.1, .int .u64 an.2.2], 1, false, 1⟩ := by rw [hG1]; simp
  obtain ⟨va, vc, ev⟩ := hA.len
  have l0 : ln Q true 22 v0 = some (.int .i64 A.length) := by rw [ev]; simp
  have hT1 := hG.ext x1
  have hk := aw_ok orc hkn hT1
  simp [-loadA_s, s6, ← hG1, l0, hk]
  clear hG1
  by_cases c1 : 60 < A.length
  · have c1' : (60 : Int) < A.length := by omega
    simp [c1']
  have c1' : ¬ (60 : Int) < A.length := by omega
  obtain ⟨u1, G2, e2, x2, w2⟩ := all_ok orc (hA.ext x1) (by omega) op hT1
  have z2 := x1.trans x2
  have b2 := x2.nx
  have oo2 := (x2.obj _ (by omega)).trans oo
  have oa2 := (x2.obj _ (by omega)).trans oa
  obtain ⟨u2, G3, e3, x3, w3⟩ := next_ok orc (hA.ext z2) (by omega) op an (hG.ext z2)
  have z3 := z2.trans x3
  have b3 := x3.nx
  have oo3 := (x3.obj _ (by omega)).trans oo2
  have oa3 := (x3.obj _ (by omega)).trans oa2
  have hal := allA_len A op
  obtain ⟨G4, e4, x4⟩ := hasA_ok orc (w2.ext x3).is (by omega) an
  have z4 := z3.trans x4
  have b4 := x4.nx
  obtain ⟨G5, e5, x5⟩ := check_ok orc (hA.ext z4) (by omega)
  have z5 := z4.trans x5
  have b5 := x5.nx
  have hmay : (nextA A op an).2 = decide (an ∈ allA A op) := by
    unfold nextA
    by_cases h : an ∈ allA A op <;> simp [h]
  obtain ⟨ya, yc, ey⟩ := w2.is.len
  have lY : ln Q true 33 u1 = some (.int .i64 (allA A op).length) := by rw [ey]; simp
  have w5 := (w2.ext ((x3.trans x4).trans x5)).is
  have oo5 := ((x4.trans x5).obj _ (by omega)).trans oo3
  have hc0 : checkI A ≠ 0 → (allA A op).length = 0 := fun h => by unfold allA; rw [if_neg h]; rfl
  simp [-loadA_s, c1, c1', e2, loadA_whole oo, loadA_whole oo2, loadA_whole oa2, loadA_whole oa3, e3, e4, e5, hmay, lY]
  have fin : ∀ (τ : Env), τ 0 = v0 → τ 4 = P0 G.nx → τ 7 = .bool true → τ 8 = u1 → τ 11 = .int .i64 0 →
      Wp ((exL Q orc).lpx 6 0 τ G5) fun q => q.1 = .exit 0 ∧ q.2.1 7 = .bool true := fun τ a0 a4 a7 a8 a11 =>
    po_lp orc (H := G5) (hG.ext z5) (hA.ext z5) (by omega) w5 (by omega) oo5 _ (allA A op).length 0 τ G5 (by omega) a0 a4 a7 a8 a11 (Ext.refl _)
  by_cases hc : checkI A = 0
  · simp [hc]
    refine Wp.bE (Wp.mono (fin _ ?_ ?_ ?_ ?_ ?_) ?_)
    · simp
    · simp
    · simp
    · simp
    · simp
    rintro ⟨e, τ, G6⟩ ⟨rfl, a7⟩
    simp only at a7
    simp [a7]
  · simp [hc, hc0 hc, lY]
    refine Wp.bE (Wp.mono (fin _ ?_ ?_ ?_ ?_ ?_) ?_)
    · simp
    · simp
    · simp
    · simp
    · simp
    rintro ⟨e, τ, G6⟩ ⟨rfl, a7⟩
    simp only at a7
    simp [a7]
end
end Go.Proofs.YtocbppgkgcoehaaDoor.Lift

set_option linter.unusedVariables false
set_option linter.unusedSimpArgs false
set_option maxRecDepth 20000
namespace Go.Proofs.YtocbppgkgcoehaaDoor.Lift
open Go Go.Proofs.YtocbppgkgcoehaaDoor.Gh Go.Proofs
/-! ### Play -/
def stepL (s : List Int) (op : Opn) : An × List Int := match allA s op with | [] => ((0, 0, 0), s) | a :: _ => (a, behA s op a)
def playL : List Int → List Opn → List An × List Int
  | s, [] => ([], s)
  | s, op :: l => ((stepL s op).1 :: (playL (stepL s op).2 l).1, (playL (stepL s op).2 l).2)
def stepS (W : List Nat) (op : Opn) : An × List Nat :=
  if op.1 = 8 then freeI W op.2.1 else if op.1 = 7 then (match els W with | [] => ((7, 0, 0), W) | i :: _ => ((0, i, 0), woW W i)) else ((0, 0, 0), W)
def playS : List Nat → List Opn → List An × List Nat
  | W, [] => ([], W)
  | W, op :: l => ((stepS W op).1 :: (playS (stepS W op).2 l).1, (playS (stepS W op).2 l).2)
theorem stepS_ok {W : List Nat} (h : OkW W) (op : Opn) : OkW (stepS W op).2 := by
  unfold stepS
  split
  · exact freeI_ok h _
  · split
    · split
      · exact h
      · exact h.wo _
    · exact h
theorem check_els (W : List Nat) : checkI (elsI W) = 0 := checkI_of (fun x hx => (mem_elsI.1 hx).1) (elsI_asc W)
theorem els_elsI {W : List Nat} {L : List Nat} (h : els W = L) : elsI W = L.map fun n : Nat => (n : Int) := by unfold elsI; rw [h]
theorem step_same {W : List Nat} (h : OkW W) (op : Opn) : stepL (elsI W) op = ((stepS W op).1, elsI (stepS W op).2) := by
  have hin : ∀ {x : Int}, x ∈ elsI W → inI x = true := fun hx => (mem_elsI.1 hx).1
  unfold stepL stepS allA
  rw [if_pos (check_els W)]
  by_cases h8 : op.1 = 8
  · rw [if_neg (by omega), if_pos h8, if_pos h8]
    simp only
    unfold freeI
    cases hi : inI op.2.1 with
    | false => simp [behA]
    | true =>
      obtain ⟨n1, n2⟩ := inI_nat hi
      have hm : op.2.1 ∈ elsI W ↔ has W op.2.1.toNat = true := by rw [mem_elsI]; simp [hi]
      cases hh : has W op.2.1.toNat with
      | true =>
        have : op.2.1 ∈ elsI W := hm.2 hh
        simp [this, behA]
      | false =>
        have : ¬ op.2.1 ∈ elsI W := fun k => by rw [hm, hh] at k; cases k
        simp [this, behA]
        refine asc_extI (behN_asc _ _ _) (elsI_asc _) fun x => ?_
        rw [mem_behN, mem_elsI]
        unfold behP
        constructor
        · rintro ⟨p1, p2⟩
          refine ⟨p1, ?_⟩
          rw [(inI_nat p1).2] at p2
          rw [has_with h n1]
          by_cases e : x = op.2.1
          · subst e; simp
          · rw [if_neg (fun k => e k.2), if_neg (fun k => by have := k.1; omega)] at p2
            have := (mem_elsI.1 (show x ∈ elsI W by simpa using p2)).2
            simp [this]
        · rintro ⟨p1, p2⟩
          refine ⟨p1, ?_⟩
          rw [(inI_nat p1).2]
          rw [has_with h n1] at p2
          by_cases e : x = op.2.1
          · rw [if_pos ⟨h8, e⟩]
          · rw [if_neg (fun k => e k.2), if_neg (fun k => by have := k.1; omega)]
            have hne : ¬ x.toNat = op.2.1.toNat := fun k => e (by have := (inI_nat p1).2; omega)
            simp [hne] at p2
            simpa using mem_elsI.2 ⟨p1, p2⟩
  · rw [if_neg h8, if_neg h8]
    by_cases h7 : op.1 = 7
    · rw [if_pos h7, if_pos h7]
      cases hE : els W with
      | nil => simp [els_elsI hE, behA]
      | cons i R =>
        rw [els_elsI hE]
        simp only [List.map_cons, List.cons_append]
        refine Prod.ext rfl ?_
        dsimp only
        have hi : i ∈ els W := by rw [hE]; simp
        have hi1 := (mem_els.1 hi).1
        rw [← List.map_cons (f := fun n : Nat => (n : Int)), ← els_elsI hE]
        unfold behA
        rw [if_pos rfl]
        refine asc_extI (behN_asc _ _ _) (elsI_asc _) fun x => ?_
        rw [mem_behN, mem_elsI]
        unfold behP
        constructor
        · rintro ⟨p1, p2⟩
          refine ⟨p1, ?_⟩
          rw [(inI_nat p1).2] at p2
          rw [has_wo h hi1]
          by_cases e : x = i
          · rw [if_neg (fun k => h8 k.1), if_pos ⟨h7, e⟩] at p2; cases p2
          · rw [if_neg (fun k => h8 k.1), if_neg (fun k => e k.2)] at p2
            have := (mem_elsI.1 (show x ∈ elsI W by simpa using p2)).2
            have hne : ¬ x.toNat = i := fun k => e (by have := (inI_nat p1).2; omega)
            simp [this, hne]
        · rintro ⟨p1, p2⟩
          refine ⟨p1, ?_⟩
          rw [(inI_nat p1).2]
          rw [has_wo h hi1] at p2
          by_cases e : x = i
          · subst e; simp at p2
          · rw [if_neg (fun k => h8 k.1), if_neg (fun k => e k.2)]
            simp at p2
            simpa using mem_elsI.2 ⟨p1, p2.1⟩
    · rw [if_neg h7, if_neg h7]
theorem play_same : ∀ (l : List Opn) {W : List Nat}, OkW W → playL (elsI W) l = ((playS W l).1, elsI (playS W l).2) ∧ OkW (playS W l).2
  | [], W, h => ⟨rfl, h⟩
  | op :: l, W, h => by
    have h1 := step_same h op
    have h2 := play_same l (stepS_ok h op)
    unfold playL playS
    rw [h1]
    simp only
    rw [h2.1]
    exact ⟨rfl, h2.2⟩
theorem playS_len : ∀ (l : List Opn) (W : List Nat), (playS W l).1.length = l.length
  | [], _ => rfl
  | op :: l, W => by unfold playS; simp [playS_len l]
end Go.Proofs.YtocbppgkgcoehaaDoor.Lift

set_option linter.unusedVariables false
set_option linter.unusedSimpArgs false
set_option maxRecDepth 20000
namespace Go.Proofs.YtocbppgkgcoehaaDoor.Lift
open Go Go.Proofs.YtocbppgkgcoehaaDoor.Gh Go.Proofs
noncomputable abbrev lpP (T : List Value) : Lp := ⟨.ready, none, T, [43], (subAt [1, 1, 1, 1, 0, 1, 0, 0, 1, 1, 0, 0, 1, 1, 0, 1, 0, 1, 1, 1, 0, 1, 1, 0, 0] (bodyOf Tryd.f23)), (subAt [1, 1, 1, 1, 0, 1, 0, 0, 1, 1, 0, 0, 1, 1, 0, 1, 0, 1, 1, 1, 0, 1, 1, 0, 1] (bodyOf Tryd.f23))⟩
/-- behind a round that broke off -/
structure Brk (W : List Nat) (ab sb l : Nat) (T : List Value) (G G' : GS) : Prop where
  mod : ModP (fun g => g = ab ∨ g = sb) G G'
  oa : G'.obj ab = some ⟨[.int .i64 (stepS W (7, 0, 0, 0)).1.1, .int .i64 (stepS W (7, 0, 0, 0)).1.2.1, .int .u64 (stepS W (7, 0, 0, 0)).1.2.2], 1, false, 1⟩
  os : G'.obj sb = some ⟨setC (stepS W (7, 0, 0, 0)).2, 1, false, 1⟩
  lp : G'.loop l = some { lpP T with st := .done, pend := some (.exit 3) }
section
variable {B G : GS} {W : List Nat} {T : List Value} {ab sb l : Nat}
theorem step7 {W : List Nat} {i : Nat} {R : List Nat} (h : els W = i :: R) (x y z : Int) : stepS W (7, x, y, z) = ((0, (i : Int), 0), woW W i) := by
  unfold stepS
  rw [if_neg (by simp), if_pos rfl, h]
theorem step7' {W : List Nat} (h : els W = []) (x y z : Int) : stepS W (7, x, y, z) = (((7, 0, 0) : An), W) := by
  unfold stepS
  rw [if_neg (by simp), if_pos rfl, h]
theorem prd_ok (orc : FuncId → Bool) {i : Nat} {R : List Nat} (hW : OkW W) (hE : els W = i :: R) (hT : T.length = 57) (t8 : nth undef T 8 = P0 sb) (t11 : nth undef T 11 = P0 ab) (hne : ab ≠ sb) (hab : ab < G.nx) (hsb : sb < G.nx) (oa : G.obj ab = some ⟨[.int .i64 7, .int .i64 0, .int .u64 0], 1, false, 1⟩) (os : G.obj sb = some ⟨setC W, 1, false, 1⟩) :
    Wp ((E orc).rd G.nl [.int .i64 (i : Int)] (G.pushLoop (lpP T))) fun q => q.1 = .bool false ∧ Brk W ab sb G.nl T G q.2 := by
  have hl : (G.pushLoop (lpP T)).loop G.nl = some (lpP T) := by simp
  have hi : i < 1024 := (mem_els.1 (show i ∈ els W by rw [hE]; simp)).1
  refine Wp.ref (d23_0 (exL_ok Q orc) G.nl T _ _ hl hT) ?_
  obtain ⟨G1, hG1⟩ : ∃ G1, G1 = (G.pushLoop (lpP T)).putLoop G.nl (Lp.setSt (lpP T) .busy) := ⟨_, rfl⟩
  have x1 : Ext G G1 := by rw [hG1]; exact (((Ext.refl G).pushLoop _).putLoop (Nat.le_refl _) _)
  have n1 : G1.nl = G.nl + 1 := by rw [hG1]; rfl
  have l1 : G1.loop G.nl = some (Lp.setSt (lpP T) .busy) := by rw [hG1]; simp
  obtain ⟨G2, e2, x2⟩ := wo_ok orc hW hi G1
  have a2 := ((x1.trans x2).obj ab hab).trans oa
  have s2 := ((x1.trans x2).obj sb hsb).trans os
  have s1 := (x1.obj sb hsb).trans os
  have hw := hW.wo i
  have hne' : ¬ sb = ab := fun h => hne h.symm
  obtain ⟨G3, hG3⟩ : ∃ G3, G3 = (G2.put ab ⟨[.int .i64 0, .int .i64 i, .int .u64 0], 1, false, 1⟩).put sb ⟨setC (woW W i), 1, false, 1⟩ := ⟨_, rfl⟩
  have l3 : G3.loop G.nl = some (Lp.setSt (lpP T) .busy) := by rw [hG3]; exact (x2.loop _ (by omega)).trans l1
  have hrd : roundEnd G.nl (.exit 3) G3 = some (.bool false, G3.putLoop G.nl { lpP T with st := .done, pend := some (.exit 3) }) := by
    rw [roundEnd_some G.nl (.exit 3) _ (j := some (.exit 3)) rfl l3]
    rfl
  simp [r23_0, t8, t11, hl, ← hG1, s1, setC_len hW, setC_take hW, e2, a2, hne', s2, setC_sto hw (setC_len hW)]
  rw [← hG3, hrd]
  simp
  have h7 := step7 hE 0 0 0
  refine ⟨?_, ?_, ?_, ?_⟩
  · rw [hG3]
    exact ((((x1.trans x2).modP _).put (.inl (.inl rfl)) _).put (.inl (.inr rfl)) _).putLoop (Nat.le_refl _) _
  · rw [h7, hG3]; simp [hne]
  · rw [h7, hG3]; simp
  · simp
def opC (op : Opn) : List Value := [.int .i64 op.1, .int .i64 op.2.1, .int .i64 op.2.2.1, .int .u64 op.2.2.2]
def anC (a : An) : List Value := [.int .i64 a.1, .int .i64 a.2.1, .int .u64 a.2.2]
set_option maxHeartbeats 2000000 in
theorem play_lp (orc : FuncId → Bool) {v1 : Value} {L : List Opn} (hB : Tab B) (hL : SlR rOp B v1 L) (hlen : L.length ≤ 1000000) (hsb : B.nx ≤ sb) :
    ∀ (k i : Nat) (τ : Env) (G : GS) (W : List Nat) (v : Value) (pre : List An), i + k = L.length → pre.length = i → τ 7 = v → τ 8 = P0 sb → τ 21 = v1 → τ 22 = .int .i64 L.length → τ 23 = .int .i64 (i : Int) → OkW W → Ext B G → sb < G.nx → G.obj sb = some ⟨setC W, 1, false, 1⟩ → OwR rAn (sb + 1) G v pre →
    Wp ((exL Q orc).lpx 23 0 τ G) fun q => q.1 = .exit 0 ∧ Ext B q.2.2 ∧ sb < q.2.2.nx ∧ q.2.2.obj sb = some ⟨setC (playS W (L.drop i)).2, 1, false, 1⟩ ∧ OwR rAn (sb + 1) q.2.2 (q.2.1 7) (pre ++ (playS W (L.drop i)).1) ∧ q.2.1 8 = P0 sb := by
  have hB0 := hB.nx
  intro k
  induction k with
  | zero =>
    intro i τ G W v pre hi hp t7 t8 t21 t22 t23 hW x hs os ov
    have hi' : i = L.length := by omega
    obtain ⟨a, c, e0⟩ := hL.len
    refine Wp.lp (l23_0 (exL_ok Q orc)) ?_
    have hd : L.drop i = [] := by rw [hi']; simp
    rw [hd]
    subst hi'
    simp [b23_0, bb23_0, clip_t, t7, t8, t21, t22, t23, playS]
    exact ⟨x, hs, os, ov⟩
  | succ k ih =>
    intro i τ G W v pre hi hp t7 t8 t21 t22 t23 hW x hs os ov
    have hlt : i < L.length := by omega
    have hw : IntKind.wrap .i64 ((i : Int) + 1) = ((i + 1 : Nat) : Int) := wrap64 (by omega) (by omega)
    have h1 : (i : Int) < L.length := by omega
    have h2 : (0 : Int) ≤ i := by omega
    obtain ⟨b, o, c, e0, _, _, q0⟩ := (hL.ext x).at hlt
    simp only [rOp_sz, rOp_row] at q0
    rw [List.drop_eq_getElem_cons hlt]
    generalize L[i] = op at *
    obtain ⟨G1, hG1⟩ : ∃ G1, G1 = ((G.push ⟨z25, 1, false, 1⟩).put G.nx ⟨[.int .i64 op.1, .int .i64 op.2.1, .int .i64 op.2.2.1, .int .u64 op.2.2.2], 1, false, 1⟩).push ⟨z28, 1, false, 1⟩ := ⟨_, rfl⟩
    have x1 : Ext G G1 := by rw [hG1]; exact (((Ext.refl G).push _).put (Nat.le_refl _) _).push _
    have n1 : G1.nx = G.nx + 2 := by rw [hG1]; rfl
    have d1 : ¬ G.nx = G.nx + 1 := by omega
    have d2 : ¬ sb = G.nx + 1 := by omega
    have d3 : ¬ sb = G.nx := by omega
    have oo : G1.obj G.nx = some ⟨[.int .i64 op.1, .int .i64 op.2.1, .int .i64 op.2.2.1, .int .u64 op.2.2.2], 1, false, 1⟩ := by rw [hG1]; simp
    have oa : G1.obj (G.nx + 1) = some ⟨[.int .i64 0, .int .i64 0, .int .u64 0], 1, false, 1⟩ := by rw [hG1]; simp
    have os1 := (x1.obj sb hs).trans os
    have y1 := x.trans x1
    have hO := stepS_ok hW op
    -- behind the switch
    have fin : ∀ (τ' : Env) (G' : GS), Ext B G' → ModP (fun g => g = G.nx + 1 ∨ g = sb) G1 G' → G'.obj (G.nx + 1) = some ⟨[.int .i64 (stepS W op).1.1, .int .i64 (stepS W op).1.2.1, .int .u64 (stepS W op).1.2.2], 1, false, 1⟩ → G'.obj sb = some ⟨setC (stepS W op).2, 1, false, 1⟩ →
        τ' 7 = v → τ' 8 = P0 sb → τ' 11 = P0 (G.nx + 1) → τ' 21 = v1 → τ' 22 = .int .i64 L.length → τ' 23 = .int .i64 (i : Int) →
        Wp (jbl23_0_0 true (exL Q orc) ((exL Q orc).lpx 23 0) τ' G') fun q => q.1 = .exit 0 ∧ Ext B q.2.2 ∧ sb < q.2.2.nx ∧ q.2.2.obj sb = some ⟨setC (playS W (op :: L.drop (i + 1))).2, 1, false, 1⟩ ∧ OwR rAn (sb + 1) q.2.2 (q.2.1 7) (pre ++ (playS W (op :: L.drop (i + 1))).1) ∧ q.2.1 8 = P0 sb := by
      intro τ' G' xB m o1 o2 s7 s8 s11 s21 s22 s23
      have n2 := m.nx
      have ov' : OwR rAn (sb + 1) G' v pre := (ov.ext x1).kept n2 fun g hg => m.obj g (Nat.lt_of_lt_of_le (ov.is.under g hg) x1.nx) fun h => by
        have h3 := ov.is.under g hg
        have h4 := ov.from hg
        omega
      have x3 := (Ext.refl G').push ⟨rAn.row (stepS W op).1, 3, false, 1⟩
      obtain ⟨v', G2, e2, m2, ov2⟩ := (ov'.ext x3).app_mod (ib := 24) (by decide) (SlR.one rAn G' (stepS W op).1) (by simp) (by simp; omega)
      have n3 := m2.nx
      simp only [rAn_sz, rAn_row] at e2
      have o3 : G2.obj sb = some ⟨setC (stepS W op).2, 1, false, 1⟩ := by
        rw [m2.obj sb (by simp; omega) fun h => by have := ov'.from h; omega]
        have : ¬ sb = G'.nx := by omega
        simp [this, o2]
      have xB2 : Ext B G2 := ModP.tail (xB.trans x3) m2 fun g hg => by have := ov'.from hg; omega
      simp at n3
      simp [-Int.natCast_add, jbl23_0_0, s7, s8, s11, s21, s22, s23, o1, e2, hw]
      refine Wp.mono (ih (i + 1) _ G2 (stepS W op).2 v' (pre ++ [(stepS W op).1]) (by omega) (by simp [hp]) ?_ ?_ ?_ ?_ ?_ hO xB2 (by omega) o3 (ov2.mono (by simp; omega))) fun q hq => ?_
      · simp [clip_t]
      · simp [clip_t, s8]
      · simp [clip_t, s21]
      · simp [clip_t, s22]
      · simp [clip_t]
      · simpa [playS] using hq
    clear ih
    refine Wp.lp (l23_0 (exL_ok Q orc)) ?_
    by_cases h8 : op.1 = 8
    · obtain ⟨G2, e2, x2⟩ := free_ok orc hW op.2.1 G1
      have hF := freeI_ok hW op.2.1
      have hst : stepS W op = freeI W op.2.1 := by unfold stepS; rw [if_pos h8]
      have h8' : (op.1 = 8) = True := eq_true h8
      have oa2 := (x2.obj (G.nx + 1) (by omega)).trans oa
      have os2 := (x2.obj sb (by omega)).trans os1
      simp [-loadA_s, -Int.natCast_add, b23_0, bb23_0, jl23_0_0, clip_t, t7, t8, t21, t22, t23, e0, h1, h2, hlt, q0, ← hG1, oo, h8', loadA_whole os1, setC_len hW, e2, oa2, d2, os2, setC_sto hF (setC_len hW)]
      refine fin _ _ ?_ ?_ ?_ ?_ ?_ ?_ ?_ ?_ ?_ ?_
      · exact ((y1.trans x2).put (by omega) _).put hsb _
      · exact ((x2.modP _).put (.inl (.inl rfl)) _).put (.inl (.inr rfl)) _
      · have : ¬ G.nx + 1 = sb := by omega
        rw [hst]; simp [this]
      · rw [hst]; simp
      · simp [clip_t, t7]
      · simp [clip_t, t8]
      · simp [clip_t]
      · simp [clip_t, e0]
      · simp [clip_t, t22]
      · simp [clip_t, t23]
    by_cases h7 : op.1 = 7
    · have h7' : (op.1 = 7) = True := eq_true h7
      have h8' : (op.1 = 8) = False := eq_false h8
      obtain ⟨G2, hG2⟩ : ∃ G2, G2 = G1.put (G.nx + 1) ⟨[.int .i64 7, .int .i64 0, .int .u64 0], 1, false, 1⟩ := ⟨_, rfl⟩
      have os2 : G2.obj sb = some ⟨setC W, 1, false, 1⟩ := by rw [hG2]; simp [d2, os1]
      have n2 : G2.nx = G.nx + 2 := by rw [hG2]; simp [n1]
      have m2 : ModP (fun g => g = G.nx + 1 ∨ g = sb) G1 G2 := by rw [hG2]; exact (ModP.refl _ _).put (.inl (.inl rfl)) _
      have y2 : Ext B G2 := by rw [hG2]; exact y1.put (by omega) _
      have hop : stepS W op = stepS W (7, 0, 0, 0) := by
        cases hE : els W with
        | nil => rw [step7' hE]; obtain ⟨a, b', c', d⟩ := op; simp only at h7; subst h7; rw [step7' hE]
        | cons j R => rw [step7 hE]; obtain ⟨a, b', c', d⟩ := op; simp only at h7; subst h7; rw [step7 hE]
      simp [-loadA_s, -Int.natCast_add, b23_0, bb23_0, jl23_0_0, clip_t, t7, t8, t21, t22, t23, e0, h1, h2, hlt, q0, ← hG1, oo, oa, h7', h8', ← hG2, loadA_whole os2, setC_len hW, setAll_ok]
      generalize hTT : lst 57 _ = T
      have hT : T.length = 57 := by rw [← hTT]; exact length_lst 57 _
      have t7' : nth undef T 7 = v := by rw [← hTT, nth_lst]; simp [clip_t, t7]
      have t8' : nth undef T 8 = P0 sb := by rw [← hTT, nth_lst]; simp [clip_t, t8]
      have t11' : nth undef T 11 = P0 (G.nx + 1) := by rw [← hTT, nth_lst]; simp [clip_t]
      have t21' : nth undef T 21 = v1 := by rw [← hTT, nth_lst]; simp [clip_t, t21]
      have t22' : nth undef T 22 = .int .i64 L.length := by rw [← hTT, nth_lst]; simp [clip_t, t22]
      have t23' : nth undef T 23 = .int .i64 (i : Int) := by rw [← hTT, nth_lst]; simp [clip_t, t23]
      clear hTT
      obtain ⟨G3, hG3⟩ : ∃ G3, G3 = G2.push ⟨setC W, 1, false, 1⟩ := ⟨_, rfl⟩
      have x3 : Ext G2 G3 := by rw [hG3]; exact (Ext.refl G2).push _
      have n3 : G3.nx = G2.nx + 1 := by rw [hG3]; rfl
      have q3 : G3.obj G2.nx = some ⟨setC W, 1, false, 1⟩ := by rw [hG3]; simp
      have oa3 : G3.obj (G.nx + 1) = some ⟨[.int .i64 7, .int .i64 0, .int .u64 0], 1, false, 1⟩ := by rw [x3.obj _ (by omega), hG2]; simp
      have os3 := (x3.obj sb (by omega)).trans os2
      rw [show G2.nl = G3.nl by rw [hG3]; rfl, ← hG3]
      have hrd : RdOk orc W G3.nl (fun L' G' => L' = [] ∧ G' = G3.pushLoop (lpP T)) (fun G' => (∃ j R, els W = j :: R) ∧ Brk W (G.nx + 1) sb G3.nl T G3 G') := by
        rintro L' j R G' hE ⟨rfl, rfl⟩
        refine (prd_ok orc hW (i := j) (R := R) (by simpa using hE.symm) hT t8' t11' (by omega) (by omega) (by omega) oa3 os3).mono ?_
        rintro q ⟨h1, h2⟩
        exact .inr ⟨h1, ⟨j, R, by simpa using hE.symm⟩, h2⟩
      have htab : Tab (G3.pushLoop (lpP T)) := hB.ext ((y2.trans x3).trans ((Ext.refl G3).pushLoop _))
      obtain ⟨⟨u, G5⟩, e5, rfl, c5⟩ := all1_ok orc hW hrd (fun L' G' hc => by rw [hc.2]; exact htab) (sb := G2.nx) (G := G3.pushLoop (lpP T)) (by simpa using q3) ⟨rfl, rfl⟩
      simp only [E] at e5
      simp [e5]
      rcases c5 with ⟨hE, rfl⟩ | ⟨⟨j, R, hE⟩, c5⟩
      · rw [xRangeEnd_some (r := lpP T) _ _ _ _ (by simp) (by simp) (e := .normal) rfl]
        simp [t7', t8', t11', t21', t22', t23']
        have hst : stepS W op = ((7, 0, 0), W) := by rw [hop, step7' hE]
        have xl : Ext G3 ((G3.pushLoop (lpP T)).putLoop G3.nl (Lp.setSt (lpP T) .exhausted)) := ((Ext.refl G3).pushLoop _).putLoop (Nat.le_refl _) _
        refine fin _ _ ?_ ?_ ?_ ?_ ?_ ?_ ?_ ?_ ?_ ?_
        · exact (y2.trans x3).trans xl
        · exact m2.trans (((x3.trans xl).modP _))
        · rw [hst]; simpa using oa3
        · rw [hst]; simpa using os3
        all_goals simp [clip_t, t7', t8', t11', t21', t22', t23']
      · rw [xRangeEnd_some (r := { lpP T with st := .done, pend := some (.exit 3) }) _ _ _ _ c5.lp (by simp) (e := .exit 3) rfl]
        simp [t7', t8', t11', t21', t22', t23']
        have mm := c5.mod
        refine fin _ _ ?_ ?_ ?_ ?_ ?_ ?_ ?_ ?_ ?_ ?_
        · exact ModP.tail (y2.trans x3) (mm.putLoop (Nat.le_refl _) _) fun g hg => by have := y2.nx; have := x.nx; omega
        · exact m2.trans (((x3.modP _).trans ((mm.putLoop (Nat.le_refl _) _).mono fun g hg => .inl hg)).mono fun g hg => .inl hg)
        · rw [hop]; simpa using c5.oa
        · rw [hop]; simpa using c5.os
        all_goals simp [clip_t, t7', t8', t11', t21', t22', t23']
    · have hst : stepS W op = ((0, 0, 0), W) := by unfold stepS; rw [if_neg h8, if_neg h7]
      simp [-loadA_s, -Int.natCast_add, b23_0, bb23_0, jl23_0_0, clip_t, t7, t8, t21, t22, t23, e0, h1, h2, hlt, q0, ← hG1, oo, oa, h7, h8]
      refine fin _ _ y1 (ModP.refl _ _) ?_ ?_ ?_ ?_ ?_ ?_ ?_ ?_
      · rw [hst]; exact oa
      · rw [hst]; exact os1
      · simp [clip_t, t7]
      · simp [clip_t, t8]
      · simp [clip_t]
      · simp [clip_t, e0]
      · simp [clip_t, t22]
      · simp [clip_t, t23]
theorem play_ok (orc : FuncId → Bool) {v1 : Value} {L : List Opn} (hB : Tab B) (hL : SlR rOp B v1 L) (hlen : L.length ≤ 1000000) (n : Int) (hn : 0 ≤ n ∧ n ≤ 1024) :
    ∃ u v G', (E orc).cl 23 [.int .i64 n, v1] B = some (.tuple #[u, v, .int .i64 0], G') ∧ Ext B G' ∧ OwR rAn B.nx G' u (playL (restI [] n.toNat) L).1 ∧ OwR (rowsI .i64) B.nx G' v (playL (restI [] n.toNat) L).2 ∧ ∃ s, (∀ g, InB u g → g < s) ∧ ∀ g, InB v g → s ≤ g := by
  have w : Wp ((E orc).cl 23 [.int .i64 n, v1] B) fun q => ∃ u v, q.1 = .tuple #[u, v, .int .i64 0] ∧ Ext B q.2 ∧ OwR rAn B.nx q.2 u (playL (restI [] n.toNat) L).1 ∧ OwR (rowsI .i64) B.nx q.2 v (playL (restI [] n.toNat) L).2 ∧ ∃ s, (∀ g, InB u g → g < s) ∧ ∀ g, InB v g → s ≤ g := by
    refine Wp.ref (f23 (exL_ok Q orc) _ _ B) ?_
    obtain ⟨G1, e1, x1⟩ := first_ok orc n B
    have hF := firstW_ok (lowN n)
    obtain ⟨a, c, ev⟩ := hL.len
    have l1 : ln Q true 42 v1 = some (.int .i64 L.length) := by rw [ev]; simp
    have c1 : ¬ n < 0 := by omega
    have c2 : ¬ 1024 < n := by omega
    have hlow : lowN n = n.toNat := by unfold lowN; omega
    rw [hlow] at e1 hF
    have hels : elsI (firstW n.toNat) = restI [] n.toNat := by
      have := rest_els [] n
      have h0 : els (ofW []) = [] := by
        show els zW = []
        unfold els
        rw [List.filter_eq_nil_iff]
        intro j _; rw [has_z]; simp
      rw [h0] at this
      simp only [List.foldl_nil] at this
      rw [hlow] at this
      unfold elsI restI
      rw [this, restN, hlow]
    obtain ⟨G2, hG2⟩ : ∃ G2, G2 = (G1.push ⟨z57, 1, false, 1⟩).put G1.nx ⟨setC (firstW n.toNat), 1, false, 1⟩ := ⟨_, rfl⟩
    have x2 : Ext G1 G2 := by rw [hG2]; exact ((Ext.refl G1).push _).put (Nat.le_refl _) _
    have n2 : G2.nx = G1.nx + 1 := by rw [hG2]; rfl
    have o2 : G2.obj G1.nx = some ⟨setC (firstW n.toNat), 1, false, 1⟩ := by rw [hG2]; simp
    have b1 := x1.nx
    simp [s23, c1, c2, e1, setC_sto hF (cs := z57) rfl, ← hG2, l1]
    refine Wp.bE (Wp.mono (play_lp orc (B := B) (sb := G1.nx) hB hL hlen b1 L.length 0 _ G2 (firstW n.toNat) (.slice none 0 0) [] (by omega) rfl ?_ ?_ ?_ ?_ ?_ hF (x1.trans x2) (by omega) o2 (OwR.nil _ _)) ?_)
    · simp
    · simp
    · simp
    · simp
    · simp
    rintro ⟨e, τ, G3⟩ ⟨rfl, x3, n3, o3, ov, t8⟩
    simp only [List.drop_zero, List.nil_append] at x3 n3 o3 ov t8
    obtain ⟨h1, h2⟩ := play_same L hF
    obtain ⟨v, G4, e4, x4, w4⟩ := list_ok orc h2 (hB.ext x3)
    simp [t8, o3, setC_len h2, setC_take h2, e4]
    rw [← hels, h1]
    refine ⟨_, _, ⟨rfl, rfl⟩, x3.trans x4, (ov.ext x4).mono (by omega), w4.mono x3.nx, G3.nx, fun g hg => ov.is.under g hg, fun g hg => w4.from hg⟩
  obtain ⟨⟨v, G'⟩, e, u, v', rfl, h⟩ := w
  exact ⟨u, v', G', e, h⟩
theorem play_bad (orc : FuncId → Bool) (v1 : Value) (n : Int) (hn : ¬ (0 ≤ n ∧ n ≤ 1024)) (G : GS) : (E orc).cl 23 [.int .i64 n, v1] G = some (.tuple #[.slice none 0 0, .slice none 0 0, .int .i64 3], G) := by
  refine f23 (exL_ok Q orc) _ _ G _ ?_
  by_cases c1 : n < 0
  · simp [s23, c1]
  · have c2 : 1024 < n := by omega
    simp [s23, c1, c2]
end
end Go.Proofs.YtocbppgkgcoehaaDoor.Lift

