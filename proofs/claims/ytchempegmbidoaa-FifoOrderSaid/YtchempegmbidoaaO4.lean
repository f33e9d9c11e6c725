import Derived.Test.YtchempegmbidoaaO3
namespace Go.Proofs.Ytchempegmbidoaa.Lift
open Go Go.Proofs.Ytchempegmbidoaa.Gh Go.Proofs
set_option linter.unusedVariables false
set_option linter.unusedSimpArgs false
theorem wrapU_range (n : Int) : 0 ≤ IntKind.wrap .u64 n ∧ IntKind.wrap .u64 n < 18446744073709551616 := by
  have : IntKind.wrap .u64 n = n % 18446744073709551616 := rfl
  rw [this]; omega
/-- a word, halved again and again -/
theorem bitz_eq (n : Int) (i : Nat) (hi : i < 64) : bitz n i = decide ((IntKind.wrap .u64 n / 2 ^ i) % 2 = 0) := by
  have hw := wrapU_range n
  have e : shrI .u64 (IntKind.wrap .u64 n) i = IntKind.wrap .u64 n / 2 ^ i := by
    have hm : min i 64 = i := by omega
    have hp : (0 : Int) ≤ 2 ^ i := Int.le_of_lt (Int.pow_pos (by omega))
    show (IntKind.wrap .u64 n).fdiv (2 ^ (min ((i : Int)).toNat 64)) = _
    rw [Int.toNat_natCast, hm, Int.fdiv_eq_ediv_of_nonneg _ hp]
  have h0 : 0 ≤ IntKind.wrap .u64 n / 2 ^ i := Int.ediv_nonneg hw.1 (Int.le_of_lt (Int.pow_pos (by omega)))
  unfold bitz
  rw [e, andI_one h0]
theorem lp21 (orc : FuncId → Bool) (n most : Int) : ∀ (f i : Nat) (h : Int) (T : List Value) (G : GS), i + f = 64 → T.length = 22 → nth undef T 1 = .int .i64 most → nth undef T 5 = .int .i64 h → nth undef T 6 = .int .u64 (IntKind.wrap .u64 n / 2 ^ i) → 1 ≤ h → h ≤ i + 1 →
    Wp ((E orc).lp (subAt [1, 1, 1, 0, 0, 0] (bodyOf Try.f21)) T G) fun r => r.1 = .exit 0 ∧ r.2.2 = G ∧ nth undef r.2.1 5 = .int .i64 (hl n most f i h) := by
  intro f
  induction f with
  | zero =>
    intro i h T G hi hT h1 h5 h6 hh hh'
    have : i = 64 := by omega
    subst this
    have hw := wrapU_range n
    have hz : IntKind.wrap .u64 n / 2 ^ 64 = 0 := Int.ediv_eq_zero_of_lt hw.1 (by show _ < (18446744073709551616 : Int); exact hw.2)
    rw [hz] at h6
    refine Wp.up (l21_0 orc T G hT) ?_
    by_cases hm : h < most <;> simp [b21_0, h1, h5, h6, hl, hm]
  | succ f ih =>
    intro i h T G hi hT h1 h5 h6 hh hh'
    have hw := wrapU_range n
    have hb := bitz_eq n i (by omega)
    generalize hx : IntKind.wrap .u64 n / 2 ^ i = x at *
    have hx0 : 0 ≤ x := by rw [← hx]; exact Int.ediv_nonneg hw.1 (Int.le_of_lt (Int.pow_pos (by omega)))
    have hx1 : x ≤ 18446744073709551615 := by
      have : IntKind.wrap .u64 n / 2 ^ i ≤ IntKind.wrap .u64 n := Int.ediv_le_self _ hw.1
      omega
    have ht : x.tmod 2 = x % 2 := Int.tmod_eq_emod_of_nonneg hx0
    have hq : x.tdiv 2 = x / 2 := Int.tdiv_eq_ediv_of_nonneg hx0
    refine Wp.up (l21_0 orc T G hT) ?_
    by_cases hm : h < most
    · have hm' : ¬ most ≤ h := by omega
      by_cases h2 : x % 2 = 0
      · have hbz : bitz n i = true := by rw [hb]; simpa using h2
        simp [b21_0, h1, h5, h6, hl, hm, hm', ht, h2, hbz]
      · have h2' : x % 2 = 1 := by omega
        have hbz : bitz n i = false := by rw [hb]; exact decide_eq_false h2
        have hws : IntKind.wrap .i64 (h + 1) = h + 1 := wrap64 (by omega) (by omega)
        have hwd : IntKind.wrap .u64 (x / 2) = x / 2 := wrapU64 (by omega) (by omega)
        simp [b21_0, h1, h5, h6, hl, hm, hm', ht, h2', hbz, hws, hq, hwd]
        refine ih (i + 1) (h + 1) _ G ?_ ?_ ?_ ?_ ?_ ?_ ?_
        · omega
        · rfl
        · rfl
        · rfl
        · show Value.int .u64 (x / 2) = _
          rw [← hx, Int.pow_succ, Int.ediv_ediv_of_nonneg (Int.le_of_lt (Int.pow_pos (by omega)))]
        · omega
        · omega
    · have hm' : most ≤ h := by omega
      simp [b21_0, h1, h5, h6, hl, hm, hm']
theorem refHeight (orc : FuncId → Bool) (n most : Int) (G : GS) : (E orc).cl 21 [.int .i64 n, .int .i64 most] G = some (.int .i64 (hl n most 64 0 1), G) := by
  obtain ⟨⟨e, T', G'⟩, hlp, h1, h2, h3⟩ := lp21 orc n most 64 0 1 [.int .i64 n, .int .i64 most, undef, undef, (.int .i64 0), (.int .i64 1), .int .u64 (IntKind.wrap .u64 n), .int .i64 n, .int .u64 (IntKind.wrap .u64 n), undef, undef, undef, undef, undef, undef, undef, undef, undef, undef, undef, undef, undef] G rfl rfl rfl rfl (by simp) (by omega) (by omega)
  simp only at h1 h2 h3
  subst h1 h2
  exact c21 orc _ _ G' (by simp [s21, hlp, h3])
theorem refHeights_lp (orc : FuncId → Bool) (A : GS) (L : List Int) (v0 : Value) (most : Int) (hn : L.length < 2 ^ 40) (hv : SlIs A 1 v0 L.length (ints L)) : ∀ (k i : Nat) (v : Value) (T : List Value) (G : GS), i + k = L.length → T.length = 23 → nth undef T 0 = v0 → nth undef T 1 = .int .i64 most → nth undef T 5 = v → nth undef T 6 = .int .i64 i →
    Ext A G → OwnL A.nx G 1 v i (ints ((L.take i).map fun a => hl a most 64 0 1)) →
    Wp ((E orc).lp (subAt [1, 1, 0, 1, 0, 0] (bodyOf Try.f18)) T G) fun r => r.1 = .exit 0 ∧ Ext A r.2.2 ∧ OwnL A.nx r.2.2 1 (nth undef r.2.1 5) L.length (ints (L.map fun a => hl a most 64 0 1)) := by
  intro k
  induction k with
  | zero =>
    intro i v T G hi hT h0 h1 h5 h6 hA ho
    refine Wp.up (l18_0 orc T G hT) ?_
    have : i = L.length := by omega
    subst this
    rw [List.take_length] at ho
    obtain ⟨a, c, ha⟩ := hv.len
    simp [b18_0, h0, h1, h5, h6, ha, hA]
    exact ho
  | succ k ih =>
    intro i v T G hi hT h0 h1 h5 h6 hA ho
    have hlt : i < L.length := by omega
    have hw : IntKind.wrap .i64 ((i : Int) + 1) = ((i + 1 : Nat) : Int) := wrap64 (by omega) (by omega)
    have hi0 : (0 : Int) ≤ i := by omega
    obtain ⟨b, o, c, e0, hb, hc⟩ := (hv.ext hA).at_ hlt
    have hc := hc 0 (by omega)
    simp [hlt] at hc
    obtain ⟨v', G', ha, hE, hO⟩ := app_ok (ib := 8) (by omega) (by omega) (hA.push ⟨[.int .i64 (hl L[i] most 64 0 1)], 1, false, 1⟩) (ho.ext ((Ext.refl G).push _)) (one_sl hA (.int .i64 (hl L[i] most 64 0 1))) rfl (by omega)
    rw [ints_snoc, ← List.map_singleton (f := fun a => hl a most 64 0 1), ← List.map_append, ← List.take_succ_eq_append_getElem hlt] at hO
    refine Wp.up (l18_0 orc T G hT) ?_
    simp only [b18_0, h0, h1, h5, h6, e0]
    simp [hlt, hw, hi0, hc, refHeight, fillS, fillC, splice_put, splice_end, Value.cells, ha]
    refine ih (i + 1) v' _ G' ?_ ?_ ?_ ?_ ?_ ?_ hE hO
    · omega
    · rfl
    · exact e0.symm
    · rfl
    · rfl
    · rfl
theorem refHeights (orc : FuncId → Bool) {L : List Int} {v0 : Value} {most : Int} {G : GS} (hn : L.length < 2 ^ 40) (hv : SlIs G 1 v0 L.length (ints L)) :
    ∃ v' G', (E orc).cl 18 [v0, .int .i64 most] G = some (v', G') ∧ Ext G G' ∧ OwnL G.nx G' 1 v' L.length (ints (L.map fun a => hl a most 64 0 1)) := by
  obtain ⟨⟨e, T', G'⟩, hlp, h5, h6, h7⟩ := refHeights_lp orc G L v0 most hn hv L.length 0 (.slice none 0 0) [v0, .int .i64 most, undef, undef, (.slice none 0 0), (.slice none 0 0), (.int .i64 0), undef, undef, undef, undef, undef, undef, undef, undef, undef, undef, undef, undef, undef, undef, undef, undef] G (by omega) rfl rfl rfl rfl rfl (Ext.refl G) (OwnL.nil _ _ _)
  simp only at h5 h6 h7
  subst h5
  exact ⟨_, G', c18 orc _ _ G (by simp only [s18, hlp, bX_some, ifE_same]), h6, h7⟩
theorem law_lp (orc : FuncId → Bool) (L : List Int) (v0 : Value) (most : Int) (hn : L.length ≤ 100) : ∀ (k i : Nat) (T : List Value) (G : GS), i + k = L.length → T.length = 56 → nth undef T 0 = v0 → nth undef T 1 = .int .i64 most → nth undef T 7 = .bool true → nth undef T 8 = .int .i64 i →
    SlIs G 1 v0 L.length (ints L) →
    Wp ((E orc).lp (subAt [1, 1, 1, 1, 1, 1, 0, 1, 0, 0] (bodyOf Try.f3)) T G) fun r => r.1 = .exit 0 ∧ Ext G r.2.2 ∧ nth undef r.2.1 7 = .bool true ∧ nth undef r.2.1 0 = v0 ∧ nth undef r.2.1 5 = nth undef T 5 := by
  intro k
  induction k with
  | zero =>
    intro i T G hi hT h0 h1 h7 h8 hv
    refine Wp.up (l3_0 orc T G hT) ?_
    have : i = L.length := by omega
    subst this
    obtain ⟨a, c, ha⟩ := hv.len
    simp [b3_0, h0, h1, h7, h8, ha, Ext.refl]
  | succ k ih =>
    intro i T G hi hT h0 h1 h7 h8 hv
    have hlt : i < L.length := by omega
    have hw : IntKind.wrap .i64 ((i : Int) + 1) = ((i + 1 : Nat) : Int) := wrap64 (by omega) (by omega)
    have hi0 : (0 : Int) ≤ i := by omega
    obtain ⟨b, o, c, e0, hb, hc⟩ := hv.at_ hlt
    have hc := hc 0 (by omega)
    simp [hlt] at hc
    have he : Ext G (G.room 17) := (Ext.refl G).room 17
    refine Wp.up (l3_0 orc T G hT) ?_
    simp only [b3_0, h0, h1, h7, h8, e0]
    simp [hlt, hw, hi0, hc, height, refHeight]
    refine (ih (i + 1) _ (G.room 17) ?_ ?_ ?_ ?_ ?_ ?_ (hv.ext he)).mono ?_
    · omega
    · rfl
    · exact e0.symm
    · rfl
    · rfl
    · rfl
    · rintro r ⟨h1, h2, h3, h4, h5⟩
      exact ⟨h1, he.trans h2, h3, h4.trans e0, h5⟩
theorem drawHeights (orc : FuncId → Bool) (ho : orc 14 = true) (L : List Int) (v0 : Value) (most : Int) (G : GS) (hv : SlIs G 1 v0 L.length (ints L)) :
    ∃ G', (E orc).cl 3 [v0, .int .i64 most] G = some (.bool true, G') := by
  obtain ⟨a, c, ha⟩ := hv.len
  by_cases hl : 100 < L.length
  · refine ⟨G, c3 orc _ _ G ?_⟩
    have hl' : (100 : Int) < L.length := by omega
    simp [s3, ha, hl', cl_orc Q orc ho]
  have hl' : ¬ (100 : Int) < L.length := by omega
  have hn : L.length < 2 ^ 40 := by omega
  obtain ⟨v1, G1, e1, x1, o1⟩ := copyInts orc hv hn
  obtain ⟨v2, G2, e2, x2, o2⟩ := heights orc (most := most) hn o1.reads
  have x02 := x1.trans x2
  obtain ⟨v3, G3, e3, x3, o3⟩ := refHeights orc (most := most) hn (hv.ext x02)
  have hm : (L.map fun a => Lift.hl a most 64 0 1).length = L.length := by simp
  obtain ⟨G4, e4, x4⟩ := sameInts orc (A := L.map fun a => Lift.hl a most 64 0 1) (B := L.map fun a => Lift.hl a most 64 0 1) (by rw [hm]; exact (o2.ext x3).reads) (by rw [hm]; exact o3.reads) (by omega)
  have x14 := (x2.trans x3).trans x4
  obtain ⟨G5, e5, x5⟩ := overInts orc (A := G1) x14 ((o2.ext x3).ext x4) hn
  have x05 : Ext G G5 := x1.trans x5
  have main : Wp (s3 orc v0 (.int .i64 most) G) fun r => r.1 = .bool true := by
    simp only [s3, ha, ln_22, bP_some, bin_gtr, hl', decide_false, ifV_false]
    rw [← ha]
    simp only [e1, e2, e3, e4, e5, bS_some, decide_true]
    refine Wp.bX ((law_lp orc L v0 most (by omega) L.length 0 _ G5 ?_ ?_ ?_ ?_ ?_ ?_ (hv.ext x05)).mono ?_)
    · omega
    · rfl
    · rfl
    · rfl
    · rfl
    · rfl
    · rintro ⟨e, T', G6⟩ ⟨h1, h2, h3, h4, h5⟩
      simp only at h1 h2 h3 h4 h5
      subst h1
      have h5' : nth undef T' 5 = v1 := h5
      obtain ⟨G7, e7, x7⟩ := sameInts orc (G := G6) (A := L) (B := L) (v0 := v1) (v1 := v0) ((o1.ext (x5.trans h2)).reads) (hv.ext (x05.trans h2)) (by omega)
      simp [h3, h4, h5', e7, cl_orc Q orc ho]
  obtain ⟨⟨v, G'⟩, h1, h2⟩ := main
  simp only at h2
  subst h2
  exact ⟨G', c3 orc _ _ G h1⟩
end Go.Proofs.Ytchempegmbidoaa.Lift
