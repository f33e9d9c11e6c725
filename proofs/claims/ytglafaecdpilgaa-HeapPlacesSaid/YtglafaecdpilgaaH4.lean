import Derived.Test.YtglafaecdpilgaaH3
set_option linter.unusedVariables false
set_option linter.unusedSimpArgs false
set_option maxRecDepth 20000
namespace Go.Proofs.Ytglafaecdpilgaa.Lift
open Go Go.Proofs.Ytglafaecdpilgaa.Gh Go.Proofs
/-! ### Where a key stands -/
def pl (L : List It) (k : Int) : Nat := (L.takeWhile fun x => decide (x.1 < k)).length
theorem pl_le : ∀ (L : List It) (k : Int), pl L k ≤ L.length
  | [], k => by simp [pl]
  | x :: L, k => by
    have := pl_le L k
    unfold pl at this ⊢
    rw [List.takeWhile_cons]
    split <;> simp
    omega
theorem pl_lt : ∀ (L : List It) (k : Int) (j : Nat) (h : j < L.length), j < pl L k → L[j].1 < k
  | [], k, j, h, _ => by simp at h
  | x :: L, k, 0, h, hj => by
    unfold pl at hj
    rw [List.takeWhile_cons] at hj
    split at hj
    · rename_i hx; simpa using hx
    · simp at hj
  | x :: L, k, j + 1, h, hj => by
    unfold pl at hj
    rw [List.takeWhile_cons] at hj
    split at hj
    · exact pl_lt L k j (by simpa using h) (by unfold pl; simpa using hj)
    · simp at hj
theorem pl_at : ∀ (L : List It) (k : Int) (h : pl L k < L.length), ¬ (L[pl L k]).1 < k
  | [], k, h => by simp at h
  | x :: L, k, h => by
    by_cases hx : x.1 < k
    · have e : pl (x :: L) k = pl L k + 1 := by unfold pl; rw [List.takeWhile_cons, if_pos (by simpa using hx)]; rfl
      have := pl_at L k (by rw [e] at h; simpa using h)
      simpa [e] using this
    · have e : pl (x :: L) k = 0 := by unfold pl; rw [List.takeWhile_cons, if_neg (by simpa using hx)]; rfl
      simpa [e] using hx
theorem pl_uniq {L : List It} {k : Int} {n : Nat} (h1 : n ≤ L.length) (h2 : ∀ j (h : j < L.length), j < n → L[j].1 < k) (h3 : ∀ h : n < L.length, ¬ L[n].1 < k) : pl L k = n := by
  rcases Nat.lt_trichotomy (pl L k) n with h | h | h
  · have hl : pl L k < L.length := by omega
    exact absurd (h2 _ hl h) (pl_at L k hl)
  · exact h
  · have hl : n < L.length := by have := pl_le L k; omega
    exact absurd (pl_lt L k n hl h) (h3 hl)
theorem Up.mono {L : List It} (h : Up L 0) : ∀ (d i : Nat) (hd : i + d < L.length), 0 < d → (L[i]'(by omega)).1 < L[i + d].1
  | 0, i, hd, h0 => absurd h0 (by omega)
  | 1, i, hd, h0 => h (i + 1) (by omega) (by omega) hd
  | d + 2, i, hd, h0 => by
    have h1 := Up.mono h (d + 1) i (by omega) (by omega)
    have h2 := h (i + (d + 2)) (by omega) (by omega) hd
    have : i + (d + 2) - 1 = i + (d + 1) := by omega
    simp only [this] at h2
    omega
theorem lt_pl {L : List It} (h : Up L 0) {k : Int} {m : Nat} (hm : m < L.length) : L[m].1 < k ↔ m < pl L k := by
  refine ⟨fun hlt => ?_, pl_lt L k m hm⟩
  by_cases hc : m < pl L k
  · exact hc
  · have hl : pl L k < L.length := by omega
    have hn := pl_at L k hl
    rcases Nat.eq_or_lt_of_le (show pl L k ≤ m by omega) with he | hg
    · simp only [he] at hn; exact absurd hlt hn
    · have := Up.mono h (m - pl L k) (pl L k) (by omega) (by omega)
      simp only [show pl L k + (m - pl L k) = m by omega] at this
      omega
noncomputable def hsK (L : List It) (k : Int) : Bool := if h : pl L k < L.length then decide (L[pl L k].1 = k) else false
/-! ### The code -/
def cmpI (x y : Int) : Int := if x < y then -1 else if y < x then 1 else 0
theorem cmp_ok (orc : FuncId → Bool) (x y : Int) (G : GS) : (E orc).cl 69 [.int .u64 x, .int .u64 y] G = some (.int .i64 (cmpI x y), G) := by
  have hn : ∀ z : Int, (E orc).cl 73 [.int .u64 z] G = some (.bool false, G) := fun z => f73 (exL_ok Q orc) _ G _ (by simp [s73])
  refine f69 (exL_ok Q orc) _ _ G _ ?_
  unfold cmpI
  by_cases h1 : x < y
  · simp [s69, hn, h1]
  · by_cases h2 : y < x
    · simp [s69, hn, h1, h2]
    · simp [s69, hn, h1, h2]
theorem cmpAt_ok (orc : FuncId → Bool) (x a k : Int) {b : Nat} {G : GS} (hb : b < G.nx) (hc : G.cell b 0 = some (.int .u64 k)) :
    ∃ G', (E orc).cl 68 [.agg ⟨[.int .u64 x, .int .i64 a]⟩, P1 b] G = some (.int .i64 (cmpI x k), G') ∧ Ext G G' := by
  refine ⟨_, f68 (exL_ok Q orc) _ _ G (_, G.push ⟨[.int .u64 x, .int .i64 a], 1, false, 1⟩) ?_, (Ext.refl G).push _⟩
  have hne : b ≠ G.nx := by omega
  simp [s68, Value.cells, cell_push, hne, hc, cmp_ok]
theorem geAt_ok (orc : FuncId → Bool) (x a k : Int) {b : Nat} {G : GS} (hb : b < G.nx) (hc : G.cell b 0 = some (.int .u64 k)) :
    ∃ G', (E orc).cl 61 [.agg ⟨[.int .u64 x, .int .i64 a]⟩, P1 b] G = some (.bool (decide (k ≤ x)), G') ∧ Ext G G' := by
  refine ⟨_, f61 (exL_ok Q orc) _ _ G (_, G.push ⟨[.int .u64 x, .int .i64 a], 1, false, 1⟩) ?_, (Ext.refl G).push _⟩
  have hne : b ≠ G.nx := by omega
  simp [s61, Value.cells, cell_push, hne, hc]
theorem find_lp (orc : FuncId → Bool) (L : List It) (hu : Up L 0) (hlen : L.length ≤ 1024) (v0 : Value) (key : Int) (b : Nat) : ∀ (k lo hi : Nat) (τ : Env) (G : GS), hi - lo ≤ k → lo ≤ pl L key → pl L key ≤ hi → hi ≤ L.length →
    τ 0 = v0 → τ 1 = .func (.func 68) #[] #[P1 b] → τ 6 = .int .i64 lo → τ 7 = .int .i64 hi → SlR rIt G v0 L → b < G.nx → G.cell b 0 = some (.int .u64 key) →
    Wp ((exL Q orc).lpx 67 0 τ G) fun r => r.1 = .exit 0 ∧ Ext G r.2.2 ∧ r.2.1 0 = v0 ∧ r.2.1 1 = .func (.func 68) #[] #[P1 b] ∧ r.2.1 6 = .int .i64 (pl L key) := by
  intro k
  induction k with
  | zero =>
    intro lo hi τ G hk h1 h2 h3 t0 t1 t6 t7 hs hb hc
    have e1 : lo = pl L key := by omega
    have e2 : hi = pl L key := by omega
    subst e1
    refine Wp.lp (l67_0 (exL_ok Q orc)) ?_
    simp [b67_0, clip_t, t0, t1, t6, t7, e2, Ext.refl]
  | succ k ih =>
    intro lo hi τ G hk h1 h2 h3 t0 t1 t6 t7 hs hb hc
    refine Wp.lp (l67_0 (exL_ok Q orc)) ?_
    by_cases hlh : lo < hi
    · have hlh' : (lo : Int) < hi := by omega
      have w1 : IntKind.wrap .i64 ((hi : Int) - lo) = ((hi - lo : Nat) : Int) := by rw [wrap64 (by omega) (by omega)]; omega
      have w2 : IntKind.wrap .i64 (((hi - lo : Nat) : Int) / 2) = (((hi - lo) / 2 : Nat) : Int) := by rw [wrap64 (by omega) (by omega)]; omega
      have w3 : IntKind.wrap .i64 ((lo : Int) + IntKind.wrap .i64 (((hi - lo : Nat) : Int) / 2)) = ((lo + (hi - lo) / 2 : Nat) : Int) := by rw [w2, wrap64 (by omega) (by omega)]; omega
      generalize hm : lo + (hi - lo) / 2 = m at *
      have hml : m < L.length := by omega
      have w4 : IntKind.wrap .i64 ((m : Int) + 1) = ((m + 1 : Nat) : Int) := wrap64 (by omega) (by omega)
      obtain ⟨bb, o, c, hv, _, _, _, hld⟩ := it_at hs hml
      obtain ⟨G7, e7, x7⟩ := cmpAt_ok orc L[m].1 L[m].2 key hb hc
      have hm0 : (0 : Int) ≤ m := by omega
      by_cases hcmp : L[m].1 < key
      · have hv1 : cmpI L[m].1 key = -1 := by simp [cmpI, hcmp]
        rw [hv1] at e7
        simp [-Int.natCast_add, b67_0, clip_t, t0, t1, t6, t7, hlh', w1, w3, w4, hv, hml, hm0, hld, e7]
        refine (ih (m + 1) hi _ G7 (by omega) ((lt_pl hu hml).1 hcmp) h2 h3 (by exact hv.symm) rfl rfl rfl (hs.ext x7) (Nat.lt_of_lt_of_le hb x7.nx) (by unfold GS.cell; rw [x7.obj _ hb]; exact hc)).mono ?_
        rintro r ⟨y1, y2, y3⟩
        exact ⟨y1, x7.trans y2, by simpa [hv] using y3⟩
      · have hv1 : ¬ cmpI L[m].1 key < 0 := by unfold cmpI; rw [if_neg hcmp]; split <;> omega
        have hnp : ¬ m < pl L key := fun h => hcmp ((lt_pl hu hml).2 h)
        simp [-Int.natCast_add, b67_0, clip_t, t0, t1, t6, t7, hlh', w1, w3, w4, hv, hml, hm0, hld, e7, hv1]
        refine (ih lo m _ G7 (by omega) h1 (by omega) (by omega) (by exact hv.symm) rfl rfl rfl (hs.ext x7) (Nat.lt_of_lt_of_le hb x7.nx) (by unfold GS.cell; rw [x7.obj _ hb]; exact hc)).mono ?_
        rintro r ⟨y1, y2, y3⟩
        exact ⟨y1, x7.trans y2, by simpa [hv] using y3⟩
    · have e1 : lo = pl L key := by omega
      have e2 : ¬ (pl L key : Int) < hi := by omega
      subst e1
      simp [b67_0, clip_t, t0, t1, t6, t7, e2, hlh, Ext.refl]
theorem find_ok (orc : FuncId → Bool) {L : List It} (hu : Up L 0) (hlen : L.length ≤ 1024) {v0 : Value} (key : Int) {b : Nat} {G : GS} (hs : SlR rIt G v0 L) (hb : b < G.nx) (hc : G.cell b 0 = some (.int .u64 key)) :
    Wp ((E orc).cl 67 [v0, .func (.func 68) #[] #[P1 b]] G) fun r => r.1 = .tuple #[.int .i64 (pl L key), .bool (hsK L key)] ∧ Ext G r.2 := by
  obtain ⟨a, c, hv⟩ := hs.len
  refine Wp.ref (f67 (exL_ok Q orc) _ _ G) ?_
  have hln : ln Q true 22 v0 = some (.int .i64 L.length) := by rw [hv]; simp
  simp [s67, hln]
  refine Wp.bE ((find_lp orc L hu hlen v0 key b L.length 0 L.length _ G (by omega) (by omega) (pl_le L key) (Nat.le_refl _) rfl rfl rfl rfl hs hb hc).mono ?_)
  rintro ⟨e, τ, G3⟩ ⟨rfl, x3, y0, y1, y6⟩
  simp only at x3 y0 y1 y6
  by_cases hl : pl L key < L.length
  · have hl' : (pl L key : Int) < L.length := by omega
    have hp0 : (0 : Int) ≤ pl L key := by omega
    obtain ⟨bb, o, c', hv', _, _, _, hld⟩ := it_at (hs.ext x3) hl
    have hb3 : b < G3.nx := Nat.lt_of_lt_of_le hb x3.nx
    have hc3 : G3.cell b 0 = some (.int .u64 key) := by unfold GS.cell; rw [x3.obj _ hb]; exact hc
    obtain ⟨G17, e17, x17⟩ := cmpAt_ok orc (L[pl L key]).1 (L[pl L key]).2 key hb3 hc3
    have hk : hsK L key = decide (cmpI (L[pl L key]).1 key = 0) := by
      have hn := pl_at L key hl
      simp only [hsK, hl, dif_pos]
      rw [decide_eq_decide]
      unfold cmpI
      rw [if_neg hn]
      split <;> omega
    rw [hk]
    simp [y0, y1, y6, hln, hl', hv', hp0, hl, hld, e17]
    exact x3.trans x17
  · have hl' : ¬ (pl L key : Int) < L.length := by omega
    have hk : hsK L key = false := by simp [hsK, hl]
    simp [y0, y1, y6, hln, hl', hk]
    exact x3
theorem place_ok (orc : FuncId → Bool) {L : List It} (hu : Up L 0) (hlen : L.length ≤ 1024) {v0 : Value} (key : Int) {G : GS} (hs : SlR rIt G v0 L) :
    Wp ((E orc).cl 57 [v0, .int .u64 key] G) fun r => r.1 = .tuple #[.int .i64 (pl L key), .bool (hsK L key)] ∧ Ext G r.2 := by
  obtain ⟨⟨v, G3⟩, e3, rfl, x3⟩ := find_ok orc hu hlen key (b := G.nx) (hs.ext ((Ext.refl G).push ⟨[.int .u64 key], 1, false, 1⟩)) (by simp) (by simp [cell_push])
  refine ⟨_, f57 (exL_ok Q orc) _ _ G (_, G3) ?_, rfl, ((Ext.refl G).push _).trans x3⟩
  simp [s57, Value.cells, e3]
theorem index_lp (orc : FuncId → Bool) (L : List It) (hlen : L.length < 2 ^ 40) (v0 : Value) (key : Int) (b : Nat) : ∀ (k i : Nat) (τ : Env) (G : GS), i + k = L.length → i ≤ pl L key →
    τ 0 = v0 → τ 1 = .func (.func 61) #[] #[P1 b] → τ 7 = .int .i64 L.length → τ 8 = .int .i64 i → SlR rIt G v0 L → b < G.nx → G.cell b 0 = some (.int .u64 key) →
    Wp ((exL Q orc).lpx 60 0 τ G) fun r => Ext G r.2.2 ∧ (pl L key = L.length → r.1 = .exit 0) ∧ (pl L key < L.length → r.1 = .ret ∧ r.2.1 4 = .int .i64 (pl L key)) := by
  intro k
  induction k with
  | zero =>
    intro i τ G hi hp t0 t1 t7 t8 hs hb hc
    have := pl_le L key
    have e1 : i = L.length := by omega
    have e2 : pl L key = L.length := by omega
    subst e1
    refine Wp.lp (l60_0 (exL_ok Q orc)) ?_
    simp [b60_0, clip_t, t0, t1, t7, t8, e2, Ext.refl]
  | succ k ih =>
    intro i τ G hi hp t0 t1 t7 t8 hs hb hc
    have hlt : i < L.length := by omega
    have hlt' : (i : Int) < L.length := by omega
    have hi0 : (0 : Int) ≤ i := by omega
    have hw : IntKind.wrap .i64 ((i : Int) + 1) = ((i + 1 : Nat) : Int) := wrap64 (by omega) (by omega)
    obtain ⟨bb, o, c, hv, _, _, _, hld⟩ := it_at hs hlt
    obtain ⟨G4, e4, x4⟩ := geAt_ok orc L[i].1 L[i].2 key hb hc
    refine Wp.lp (l60_0 (exL_ok Q orc)) ?_
    by_cases hge : key ≤ L[i].1
    · have e1 : pl L key = i := pl_uniq (by omega) (fun j h hj => pl_lt L key j h (by omega)) (fun h => by omega)
      rw [decide_eq_true hge] at e4
      simp [-Int.natCast_add, b60_0, clip_t, t0, t1, t7, t8, hlt', hi0, hw, hv, hlt, hld, e4, e1]
      exact ⟨x4, fun h => absurd h (by omega)⟩
    · have e1 : i < pl L key := by
        by_cases h : i < pl L key
        · exact h
        · have : i = pl L key := by omega
          subst this
          exact absurd (pl_at L key hlt) (by omega)
      rw [decide_eq_false hge] at e4
      simp [-Int.natCast_add, b60_0, clip_t, t0, t1, t7, t8, hlt', hi0, hw, hv, hlt, hld, e4]
      refine (ih (i + 1) _ G4 (by omega) (by omega) (by exact hv.symm) rfl rfl rfl (hs.ext x4) (Nat.lt_of_lt_of_le hb x4.nx) (by unfold GS.cell; rw [x4.obj _ hb]; exact hc)).mono ?_
      rintro r ⟨y1, y2⟩
      exact ⟨x4.trans y1, y2⟩
theorem index_ok (orc : FuncId → Bool) {L : List It} (hlen : L.length < 2 ^ 40) {v0 : Value} (key : Int) {b : Nat} {G : GS} (hs : SlR rIt G v0 L) (hb : b < G.nx) (hc : G.cell b 0 = some (.int .u64 key)) :
    Wp ((E orc).cl 60 [v0, .func (.func 61) #[] #[P1 b]] G) fun r => r.1 = .int .i64 (if pl L key < L.length then (pl L key : Int) else -1) ∧ Ext G r.2 := by
  obtain ⟨a, c, hv⟩ := hs.len
  refine Wp.ref (f60 (exL_ok Q orc) _ _ G) ?_
  have hln : ln Q true 22 v0 = some (.int .i64 L.length) := by rw [hv]; simp
  simp [s60, hln]
  refine Wp.bE ((index_lp orc L hlen v0 key b L.length 0 _ G (by omega) (by omega) rfl rfl rfl rfl hs hb hc).mono ?_)
  rintro ⟨e, τ, G3⟩ ⟨x3, y1, y2⟩
  simp only at x3 y1 y2
  have := pl_le L key
  by_cases hl : pl L key < L.length
  · obtain ⟨rfl, y3⟩ := y2 hl
    simp [y3, hl, x3]
  · rw [y1 (by omega)]
    simp [hl, x3]
theorem placeX_ok (orc : FuncId → Bool) {L : List It} (hlen : L.length < 2 ^ 40) {v0 : Value} (key : Int) {G : GS} (hs : SlR rIt G v0 L) :
    Wp ((E orc).cl 25 [v0, .int .u64 key] G) fun r => r.1 = .tuple #[.int .i64 (pl L key), .bool (hsK L key)] ∧ Ext G r.2 := by
  have x1 : Ext G (G.push ⟨[.int .u64 key], 1, false, 1⟩) := (Ext.refl G).push _
  obtain ⟨G3, e3, x3⟩ := check_ok orc (hs.ext x1) hlen
  have hs3 := (hs.ext x1).ext x3
  have hb : G.nx < G3.nx := by have := x3.nx; simp at this; omega
  have hbx := x3.boxed
  have hc : G3.cell G.nx 0 = some (.int .u64 key) := by rw [cell_at' hbx (by decide)]; rfl
  obtain ⟨a, c, hv⟩ := hs.len
  have hln : ln Q true 22 v0 = some (.int .i64 L.length) := by rw [hv]; simp
  refine Wp.ref (f25 (exL_ok Q orc) _ _ G) ?_
  by_cases hz : ichk L = 0
  · obtain ⟨hl, hu⟩ := ichk_zero.1 hz
    obtain ⟨⟨v, G7⟩, e7, rfl, x7⟩ := place_ok orc hu hl key hs3
    simp [s25, Value.cells, e3, hz, hc, e7]
    exact (x1.trans x3).trans x7
  · obtain ⟨⟨v, G11⟩, e11, rfl, x11⟩ := index_ok orc hlen key hs3 hb hc
    have x0 := (x1.trans x3).trans x11
    have := pl_le L key
    by_cases hl : pl L key < L.length
    · have hl' : (pl L key : Int) < L.length := by omega
      have hp0 : (0 : Int) ≤ pl L key := by omega
      have hp1 : ¬ (pl L key : Int) < 0 := by omega
      rw [if_pos hl] at e11
      obtain ⟨bb, o, c', hv', _, hcl, _, _⟩ := it_at (hs3.ext x11) hl
      have hc11 : G11.cell G.nx 0 = some (.int .u64 key) := by unfold GS.cell; rw [x11.obj _ hb]; exact hc
      have hk : hsK L key = decide ((L[pl L key]).1 = key) := by simp [hsK, hl]
      rw [hk]
      subst hv'
      simp [s25, Value.cells, e3, hz, hc, e11, hp1, hp0, hl, hcl, hc11]
      exact x0.room 10
    · have e1 : pl L key = L.length := by omega
      rw [if_neg hl] at e11
      have hk : hsK L key = false := by simp [hsK, hl]
      simp [s25, Value.cells, e3, hz, hc, e11, hln, hk, e1]
      exact x0
theorem rplace_lp (orc : FuncId → Bool) (L : List It) (hlen : L.length < 2 ^ 40) (v0 : Value) (key : Int) : ∀ (k i : Nat) (τ : Env) (G : GS), i + k = L.length → i ≤ pl L key →
    τ 0 = v0 → τ 1 = .int .u64 key → τ 6 = .int .i64 i → SlR rIt G v0 L →
    Wp ((exL Q orc).lpx 26 0 τ G) fun r => r.1 = .exit 0 ∧ Ext G r.2.2 ∧ r.2.1 0 = v0 ∧ r.2.1 1 = .int .u64 key ∧ r.2.1 6 = .int .i64 (pl L key) := by
  intro k
  induction k with
  | zero =>
    intro i τ G hi hp t0 t1 t6 hs
    have := pl_le L key
    have e1 : i = L.length := by omega
    have e2 : pl L key = L.length := by omega
    subst e1
    obtain ⟨a, c, hv⟩ := hs.len
    have hln : ln Q true 22 v0 = some (.int .i64 L.length) := by rw [hv]; simp
    refine Wp.lp (l26_0 (exL_ok Q orc)) ?_
    simp [b26_0, clip_t, t0, t1, t6, hln, e2, Ext.refl]
  | succ k ih =>
    intro i τ G hi hp t0 t1 t6 hs
    have hlt : i < L.length := by omega
    have hlt' : (i : Int) < L.length := by omega
    have hi0 : (0 : Int) ≤ i := by omega
    have hw : IntKind.wrap .i64 ((i : Int) + 1) = ((i + 1 : Nat) : Int) := wrap64 (by omega) (by omega)
    obtain ⟨bb, o, c, hv, _, hcl, _, _⟩ := it_at hs hlt
    refine Wp.lp (l26_0 (exL_ok Q orc)) ?_
    by_cases hge : L[i].1 < key
    · have e1 : i < pl L key := by
        by_cases h : i < pl L key
        · exact h
        · have : i = pl L key := by omega
          subst this
          exact absurd hge (pl_at L key hlt)
      simp [-Int.natCast_add, b26_0, clip_t, t0, t1, t6, hlt', hi0, hw, hv, hlt, hcl, hge]
      refine (ih (i + 1) _ G (by omega) (by omega) (by exact hv.symm) rfl rfl hs).mono ?_
      rintro r ⟨y1, y2, y3⟩
      exact ⟨y1, y2, by simpa [hv] using y3⟩
    · have e1 : pl L key = i := pl_uniq (by omega) (fun j h hj => pl_lt L key j h (by omega)) (fun h => hge)
      simp [-Int.natCast_add, b26_0, clip_t, t0, t1, t6, hlt', hi0, hw, hv, hlt, hcl, hge, e1, Ext.refl]
theorem rplace_ok (orc : FuncId → Bool) {L : List It} (hlen : L.length < 2 ^ 40) {v0 : Value} (key : Int) {G : GS} (hs : SlR rIt G v0 L) :
    Wp ((E orc).cl 26 [v0, .int .u64 key] G) fun r => r.1 = .tuple #[.int .i64 (pl L key), .bool (hsK L key)] ∧ Ext G r.2 := by
  obtain ⟨a, c, hv⟩ := hs.len
  refine Wp.ref (f26 (exL_ok Q orc) _ _ G) ?_
  have hln : ln Q true 22 v0 = some (.int .i64 L.length) := by rw [hv]; simp
  simp [s26]
  refine Wp.bE ((rplace_lp orc L hlen v0 key L.length 0 _ G (by omega) (by omega) rfl rfl rfl hs).mono ?_)
  rintro ⟨e, τ, G3⟩ ⟨rfl, x3, y0, y1, y6⟩
  simp only at x3 y0 y1 y6
  by_cases hl : pl L key < L.length
  · have hl' : (pl L key : Int) < L.length := by omega
    have hp0 : (0 : Int) ≤ pl L key := by omega
    obtain ⟨bb, o, c', hv', _, hcl, _, _⟩ := it_at (hs.ext x3) hl
    have hk : hsK L key = decide ((L[pl L key]).1 = key) := by simp [hsK, hl]
    rw [hk]
    simp [y0, y1, y6, hln, hl', hv', hp0, hl, hcl]
    exact x3.room 16
  · have hl' : ¬ (pl L key : Int) < L.length := by omega
    have hk : hsK L key = false := by simp [hsK, hl]
    simp [y0, y1, y6, hln, hl', hk]
    exact x3.room 16
end Go.Proofs.Ytglafaecdpilgaa.Lift
