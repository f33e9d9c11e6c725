/- contracts of the program's functions -/
import Derived.Test.YtedmgpchggogpaaGreatJA
import Derived.Test.YtedmgpchggogpaaGreatRa
import Derived.Test.YtedmgpchggogpaaGreatGhPR
import Derived.Test.YtedmgpchggogpaaGreatGhPC
import Derived.Test.YtedmgpchggogpaaGreatGhLS
set_option linter.unusedVariables false
set_option linter.unusedSimpArgs false
set_option maxRecDepth 20000
namespace Go.Proofs.YtedmgpchggogpaaGreat.Lift
open Go Go.Proofs.YtedmgpchggogpaaGreat.Gh Go.Proofs
/-! ### What should be run -/
/-- a slice that was cut from one of the call's own -/
def CutV (B : Nat) (G : GS) (v : Value) : Prop := ∀ a n c, v = .slice (some a) n c → a = ⟨a.block, 0, none⟩ ∧ B ≤ a.block ∧ ∃ cs ez op, G.obj a.block = some ⟨cs, ez, op, 1⟩ ∧ n ≤ cs.length
theorem OwR.cut {B : Nat} {G : GS} {v : Value} {L : List Int} {o : Nat} (h : OwR (rowsI .u64) B G v L) (ho : o ≤ L.length) : ∃ v', slK 1 v none (some (.int .i64 o)) none G = some v' ∧ SlR (rowsI .u64) G v' (L.take o) ∧ CutV B G v' := by
  obtain ⟨⟨v', e1, e2⟩, _⟩ := h.is.take (k := .i64) ho
  refine ⟨v', e1, e2, ?_⟩
  rcases h.2 with ⟨rfl, h0⟩ | ⟨b, op, rfl, h2, h3, h4⟩
  · have hL : L = [] := List.eq_nil_of_length_eq_zero h0
    subst hL
    have : o = 0 := by simpa using ho
    subst this
    have hv : slK (rowsI .u64).sz (.slice none 0 0) none (some (.int .i64 ((0 : Nat) : Int))) none G = some (.slice none 0 0) := by simp [slK, bound]
    rw [hv] at e1
    intro a n c he
    cases e1
    cases he
  · have hl := h.1
    rw [rowsJ_sz] at hl
    have hv : slK (rowsI .u64).sz (.slice (some ⟨b, 0, none⟩) L.length L.length) none (some (.int .i64 (o : Int))) none G = some (.slice (some ⟨b, 0, none⟩) o L.length) := by
      have h1 : (0 : Int) ≤ o ∧ (o : Int) ≤ L.length := by omega
      simp only [slK, h4]
      cases op
      · simp [bound, h1, ho]
      · simp [bound, h1, hl, ho]
    rw [hv] at e1
    intro a n c he
    cases e1
    cases he
    exact ⟨rfl, h2, _, _, _, h4, by rw [hl]; omega⟩
theorem should_lp (orc : FuncId → Bool) {A : GS} {L : List Int} {v : Value} : ∀ (k i : Nat) (τ : Env) (G : GS) (w : Value), i + k = L.length → τ 8 = v → τ 9 = .int .i64 L.length → τ 10 = .int .i64 i → τ 5 = w → Ext A G → OwR (rowsI .u64) A.nx G w ((L.take i).filter notIdle) →
    SlR (rowsI .u64) A v L → L.length < 2 ^ 30 → Wp ((exL Q orc).lpx 11 0 τ G) fun r => r.1 = .exit 0 ∧ Ext A r.2.2 ∧ r.2.1 1 = τ 1 ∧ OwR (rowsI .u64) A.nx r.2.2 (r.2.1 5) (L.filter notIdle) := by
  intro k
  induction k with
  | zero =>
    intro i τ G w hi h8 h9 h10 h5 hx hw hv hlt
    have hi' : i = L.length := by omega
    refine Wp.lp (l11_0 (exL_ok Q orc)) ?_
    rw [hi', List.take_length] at hw
    simp [b11_0, clip_t, h8, h9, h10, h5, hi']
    exact ⟨hx, hw⟩
  | succ k ih =>
    intro i τ G w hi h8 h9 h10 h5 hx hw hv hlt
    refine Wp.lp (l11_0 (exL_ok Q orc)) ?_
    have hiL : i < L.length := by omega
    obtain ⟨b, o, c, e0, _, q0, _⟩ := (hv.ext hx).at hiL
    have hc := q0 0 (by decide)
    simp [rowsI] at hc
    have hww : IntKind.wrap .i64 ((i : Int) + 1) = ((i + 1 : Nat) : Int) := wrap64 (by omega) (by omega)
    have hi0 : (0 : Int) ≤ i := by omega
    have hta : L.take (i + 1) = L.take i ++ [L[i]] := by rw [List.take_add_one, List.getElem?_eq_getElem hiL]; rfl
    have hfl : ((L.take i).filter notIdle).length ≤ i := by have := List.length_filter_le notIdle (L.take i); simp at this ⊢; omega
    by_cases hn : L[i] = 18446744073709551615
    · have hf : (L.take (i + 1)).filter notIdle = (L.take i).filter notIdle := by rw [hta, List.filter_append, List.filter_cons_of_neg (by simp [notIdle, hn])]; simp
      simp [-Int.natCast_add, b11_0, clip_t, h8, h9, h10, h5, e0, hc, hww, hiL, hi0, hn]
      refine (ih (i + 1) _ G w (by omega) (by simp [clip_t, e0]) (by simp [clip_t]) (by simp [clip_t]) (by simp [clip_t, h5]) hx (by rw [hf]; exact hw) hv hlt).mono ?_
      rintro r ⟨r1, r2, r3, r4⟩
      exact ⟨r1, r2, by rw [r3]; simp [clip_t], r4⟩
    · have hf : (L.take (i + 1)).filter notIdle = (L.take i).filter notIdle ++ [L[i]] := by rw [hta, List.filter_append, List.filter_cons_of_pos (by simp [notIdle, hn])]; rfl
      obtain ⟨v', G', a1, a2, a3⟩ := OwR.app (A := A) (ib := 8) (x := .slice (some ⟨G.nx, 0, none⟩) 1 1) (OwR.ext hw ((Ext.refl G).push ⟨(rowsI .u64).row L[i], 1, false, 1⟩)) (by decide) (hx.push _) (SlR.one (rowsI .u64) G L[i]) (by simp; omega)
      rw [rowsJ_sz, rowsJ_row] at a1
      simp [-Int.natCast_add, b11_0, clip_t, h8, h9, h10, h5, e0, hc, hww, hiL, hi0, hn, a1]
      refine (ih (i + 1) _ G' v' (by omega) (by simp [clip_t, e0]) (by simp [clip_t]) (by simp [clip_t]) (by simp [clip_t]) a2 (by rw [hf]; exact a3) hv hlt).mono ?_
      rintro r ⟨r1, r2, r3, r4⟩
      exact ⟨r1, r2, by rw [r3]; simp [clip_t], r4⟩
theorem should_ok (orc : FuncId → Bool) {L : List Int} {v : Value} {cores : Int} {G : GS} (hv : SlR (rowsI .u64) G v L) (hlt : L.length < 2 ^ 30) :
    ∃ w G', (E orc).cl 11 [v, .int .i64 cores] G = some (w, G') ∧ Ext G G' ∧ SlR (rowsI .u64) G' w (shouldP L cores.toNat) ∧ CutV G.nx G' w := by
  have w : Wp (s11 true (exL Q orc) v (.int .i64 cores) G) fun r => Ext G r.2 ∧ SlR (rowsI .u64) r.2 r.1 (shouldP L cores.toNat) ∧ CutV G.nx r.2 r.1 := by
    obtain ⟨a, c, ha⟩ := hv.len
    have l0 : ∀ t, ln Q true t v = some (.int .i64 L.length) := fun t => by rw [ha]; simp
    simp [s11, l0]
    refine Wp.bE ((should_lp orc (A := G) L.length 0 _ G _ (by omega) (by simp [clip_t]) (by simp [clip_t]) (by simp [clip_t]) rfl (Ext.refl G) (by simp [clip_t]; exact OwR.nil _ _) hv hlt).mono ?_)
    rintro ⟨e, τ, G1⟩ ⟨rfl, x1, t1, o1⟩
    simp only at x1 t1 o1
    simp [clip_t] at t1
    simp [t1]
    generalize τ 5 = w1 at o1 ⊢
    obtain ⟨G2, s1, s2, s3⟩ := sort_cl orc o1 (by have := List.length_filter_le notIdle L; omega)
    have x2 := s3 G x1 (Nat.le_refl _)
    obtain ⟨a', c', hb⟩ := s2.is.len
    have l1 : ∀ t, ln Q true t w1 = some (.int .i64 (sortI (L.filter notIdle)).length) := fun t => by rw [hb]; simp
    have hm : (if cores < 0 then 0 else cores) = ((cores.toNat : Nat) : Int) := by split <;> omega
    obtain ⟨v', c1, c2, c3⟩ := OwR.cut (o := min (sortI (L.filter notIdle)).length cores.toNat) s2 (by omega)
    have htk : (sortI (L.filter notIdle)).take (min (sortI (L.filter notIdle)).length cores.toNat) = shouldP L cores.toNat := by
      unfold shouldP
      rw [Nat.min_comm, ← List.take_eq_take_min]
    rw [htk] at c2
    have hm2 : (if max cores 0 < ((sortI (L.filter notIdle)).length : Int) then max cores 0 else ((sortI (L.filter notIdle)).length : Int)) = ((min (sortI (L.filter notIdle)).length cores.toNat : Nat) : Int) := by split <;> omega
    have c1' : sl Q true 22 1 w1 none (some (.int .i64 ((min (sortI (L.filter notIdle)).length cores.toNat : Nat) : Int))) none G2 = some v' := by
      rw [hb] at c1 ⊢; exact c1
    simp [s1, l1, hm]
    rw [hm2, c1']
    simp
    exact ⟨x2, c2, c3⟩
  obtain ⟨⟨v', G'⟩, e1, e3⟩ := w
  exact ⟨v', G', f11 (exL_ok Q orc) _ _ G _ e1, e3⟩
end Go.Proofs.YtedmgpchggogpaaGreat.Lift

set_option linter.unusedVariables false
set_option linter.unusedSimpArgs false
set_option maxRecDepth 20000
namespace Go.Proofs.YtedmgpchggogpaaGreat.Lift
open Go Go.Proofs.YtedmgpchggogpaaGreat.Gh Go.Proofs
/-! ### The document's Worst, ahead, Should -/
theorem rworst_lp (orc : FuncId → Bool) {L : List Int} {v : Value} : ∀ (k i : Nat) (τ : Env) (G : GS), i + k = L.length → τ 0 = v → τ 6 = .int .i64 (gr L i) → τ 7 = .int .i64 i →
    SlR (rowsI .u64) G v L → L.length < 2 ^ 40 → Wp ((exL Q orc).lpx 10 0 τ G) fun r => r.1 = .exit 0 ∧ Ext G r.2.2 ∧ r.2.1 0 = v ∧ r.2.1 1 = τ 1 ∧ r.2.1 6 = .int .i64 (gr L L.length) := by
  intro k
  induction k with
  | zero =>
    intro i τ G hi h0 h6 h7 hv hlt
    have hi' : i = L.length := by omega
    obtain ⟨a, c, rfl⟩ := hv.len
    refine Wp.lp (l10_0 (exL_ok Q orc)) ?_
    simp [b10_0, bb10_0, clip_t, h0, h6, h7, hi', Ext.refl]
  | succ k ih =>
    intro i τ G hi h0 h6 h7 hv hlt
    refine Wp.lp (l10_0 (exL_ok Q orc)) ?_
    have hiL : i < L.length := by omega
    have he : Ext G (G.room 13) := (Ext.refl G).room 13
    obtain ⟨b, o, c, e0, _, q0, _⟩ := (hv.ext he).at hiL
    have hc := q0 0 (by decide)
    simp [rowsI] at hc
    obtain ⟨g1, g2, g3⟩ := gr_bd L i
    have hw : IntKind.wrap .i64 ((i : Int) + 1) = ((i + 1 : Nat) : Int) := wrap64 (by omega) (by omega)
    have hi0 : (0 : Int) ≤ i := by omega
    have hgi : L.getD i 0 = L[i] := by simp [hiL]
    have fin : ∀ τ' : Env, τ' 0 = v → τ' 1 = τ 1 → τ' 6 = .int .i64 (gr L (i + 1)) → τ' 7 = .int .i64 ((i + 1 : Nat) : Int) → Wp ((exL Q orc).lpx 10 0 τ' (G.room 13)) fun r => r.1 = .exit 0 ∧ Ext G r.2.2 ∧ r.2.1 0 = v ∧ r.2.1 1 = τ 1 ∧ r.2.1 6 = .int .i64 (gr L L.length) := fun τ' t0 t1 t6 t7 => by
      refine (ih (i + 1) τ' _ (by omega) t0 t6 t7 (hv.ext he) hlt).mono ?_
      rintro r ⟨r1, r2, r3, r4, r5⟩
      exact ⟨r1, he.trans r2, r3, r4.trans t1, r5⟩
    by_cases hg : gr L i < 0
    · have hn : gr L (i + 1) = i := by unfold gr; rw [if_pos (.inl hg)]
      simp [-Int.natCast_add, b10_0, bb10_0, jl10_0_0, jbl10_0_0, clip_t, h0, h6, h7, e0, hc, hw, hiL, hi0, hg]
      rw [← e0]
      exact fin _ (by simp [clip_t]) (by simp [clip_t]) (by simp [clip_t, hn]) (by simp [clip_t])
    · obtain ⟨m, hm⟩ : ∃ m : Nat, gr L i = m := ⟨(gr L i).toNat, by omega⟩
      have hmL : m < L.length := by omega
      obtain ⟨b', o', c', e0', _, q1, _⟩ := (hv.ext he).at hmL
      rw [e0] at e0'
      simp only [Value.slice.injEq, Option.some.injEq, Addr.mk.injEq, and_true, true_and] at e0'
      obtain ⟨⟨rfl, rfl⟩, rfl⟩ := e0'
      have hc1 := q1 0 (by decide)
      simp [rowsI] at hc1
      have hgm : L.getD m 0 = L[m] := by simp [hmL]
      have hm0 : ¬ ((m : Int) < 0) := by omega
      have hm1 : (0 : Int) ≤ m := by omega
      rw [hm] at h6
      have hn : gr L (i + 1) = if L[m] < L[i] then (i : Int) else m := by
        rw [gr, hm, Int.toNat_natCast, hgm, hgi]
        simp [hm0]
      by_cases hlt2 : L[m] < L[i]
      · rw [if_pos hlt2] at hn
        simp [-Int.natCast_add, b10_0, bb10_0, jl10_0_0, jbl10_0_0, clip_t, h0, h6, h7, e0, hc, hc1, hw, hiL, hi0, hm0, hm1, hmL, hlt2]
        rw [← e0]
        exact fin _ (by simp [clip_t]) (by simp [clip_t]) (by simp [clip_t, hn]) (by simp [clip_t])
      · rw [if_neg hlt2] at hn
        simp [-Int.natCast_add, b10_0, bb10_0, jl10_0_0, jbl10_0_0, clip_t, h0, h6, h7, e0, hc, hc1, hw, hiL, hi0, hm0, hm1, hmL, hlt2]
        rw [← e0]
        exact fin _ (by simp [clip_t]) (by simp [clip_t]) (by simp [clip_t, hn]) (by simp [clip_t])
theorem rworst_ok (orc : FuncId → Bool) {L : List Int} {v : Value} {key : Int} {G : GS} (hv : SlR (rowsI .u64) G v L) (hlt : L.length < 2 ^ 40) :
    ∃ G', (E orc).cl 10 [v, .int .u64 key] G = some (worstV L key, G') ∧ Ext G G' := by
  have w : Wp (s10 true (exL Q orc) v (.int .u64 key) G) fun r => r.1 = worstV L key ∧ Ext G r.2 := by
    obtain ⟨g1, g2, g3⟩ := gr_bd L L.length
    simp [s10]
    refine Wp.bE ((rworst_lp orc L.length 0 _ G (by omega) (by simp [clip_t]) (by simp [clip_t, gr]) (by simp [clip_t]) hv hlt).mono ?_)
    rintro ⟨e, τ, G1⟩ ⟨rfl, x1, t0, t1, t6⟩
    simp only at x1 t0 t1 t6
    simp [clip_t] at t1
    by_cases hg : gr L L.length < 0
    · have : worstV L key = .tuple #[.int .i64 (-1), .bool false] := by simp [worstV, worst, hg]
      rw [this]
      simp [t0, t1, t6, hg, x1]
    · obtain ⟨m, hm⟩ : ∃ m : Nat, gr L L.length = m := ⟨(gr L L.length).toNat, by omega⟩
      have hmL : m < L.length := by omega
      obtain ⟨b, o, c, e0, _, q1, _⟩ := (hv.ext x1).at hmL
      have hc1 := q1 0 (by decide)
      simp [rowsI] at hc1
      have hm0 : ¬ ((m : Int) < 0) := by omega
      have hm1 : (0 : Int) ≤ m := by omega
      have hgm : L.getD m 0 = L[m] := by simp [hmL]
      have hW : worstV L key = if L[m] ≤ key then .tuple #[.int .i64 (-1), .bool false] else .tuple #[.int .i64 m, .bool true] := by
        unfold worstV worst
        simp only [hm, Int.toNat_natCast, hgm, hm0, false_or]
        by_cases h : L[m] ≤ key <;> simp [h]
      rw [hm] at t6
      rw [hW]
      by_cases h : L[m] ≤ key
      · simp [t0, t1, t6, hm0, hm1, hmL, e0, hc1, h, x1]
      · simp [t0, t1, t6, hm0, hm1, hmL, e0, hc1, h, x1]
  obtain ⟨⟨v', G'⟩, e1, rfl, e3⟩ := w
  exact ⟨G', f10 (exL_ok Q orc) _ _ G _ e1, e3⟩
theorem ahead_lp (orc : FuncId → Bool) {L : List Int} {v : Value} {j : Nat} (hj : j < L.length) : ∀ (k i : Nat) (τ : Env) (G : GS), i + k = L.length → τ 0 = v → τ 1 = .int .i64 j → τ 5 = .int .i64 (rankN L j i) → τ 6 = .int .i64 i →
    SlR (rowsI .u64) G v L → L.length < 2 ^ 40 → Wp ((exL Q orc).lpx 55 0 τ G) fun r => r.1 = .exit 0 ∧ Ext G r.2.2 ∧ r.2.1 5 = .int .i64 (rank L j) := by
  intro k
  induction k with
  | zero =>
    intro i τ G hi h0 h1 h5 h6 hv hlt
    have hi' : i = L.length := by omega
    subst hi'
    obtain ⟨a, c, rfl⟩ := hv.len
    refine Wp.lp (l55_0 (exL_ok Q orc)) ?_
    simp [b55_0, bb55_0, clip_t, h0, h1, h5, h6, Ext.refl, rankN_all]
  | succ k ih =>
    intro i τ G hi h0 h1 h5 h6 hv hlt
    refine Wp.lp (l55_0 (exL_ok Q orc)) ?_
    have hiL : i < L.length := by omega
    have he : Ext G (G.room 25) := (Ext.refl G).room 25
    obtain ⟨b, o, c, e0, _, q0, _⟩ := (hv.ext he).at hiL
    have hc := q0 0 (by decide)
    simp [rowsI] at hc
    obtain ⟨b', o', c', e0', _, q1, _⟩ := (hv.ext he).at hj
    rw [e0] at e0'
    simp only [Value.slice.injEq, Option.some.injEq, Addr.mk.injEq, and_true, true_and] at e0'
    obtain ⟨⟨rfl, rfl⟩, rfl⟩ := e0'
    have hc1 := q1 0 (by decide)
    simp [rowsI] at hc1
    have hr := rankN_le L j i
    have hw : IntKind.wrap .i64 ((i : Int) + 1) = ((i + 1 : Nat) : Int) := wrap64 (by omega) (by omega)
    have hw2 : IntKind.wrap .i64 ((rankN L j i : Int) + 1) = ((rankN L j i + 1 : Nat) : Int) := wrap64 (by omega) (by omega)
    have hi0 : (0 : Int) ≤ i := by omega
    have hj0 : (0 : Int) ≤ j := by omega
    have hs := rankN_succ L j i
    have hgi : L.getD i 0 = L[i] := by simp [hiL]
    have hgj : L.getD j 0 = L[j] := by simp [hj]
    have fin : ∀ τ' : Env, τ' 0 = v → τ' 1 = .int .i64 j → τ' 5 = .int .i64 (rankN L j (i + 1)) → τ' 6 = .int .i64 ((i + 1 : Nat) : Int) → Wp ((exL Q orc).lpx 55 0 τ' (G.room 25)) fun r => r.1 = .exit 0 ∧ Ext G r.2.2 ∧ r.2.1 5 = .int .i64 (rank L j) := fun τ' t0 t1 t5 t6 => by
      refine (ih (i + 1) τ' _ (by omega) t0 t1 t5 t6 (hv.ext he) hlt).mono ?_
      rintro r ⟨r1, r2, r3⟩
      exact ⟨r1, he.trans r2, r3⟩
    by_cases k1 : L[i] < L[j]
    · have ha : aheadB L j i = true := by simp [aheadB, hgi, hgj, k1, -List.getD_eq_getElem?_getD]
      rw [if_pos ha] at hs
      simp [-Int.natCast_add, b55_0, bb55_0, jl55_0_0, jbl55_0_0, clip_t, h0, h1, h5, h6, e0, hc, hc1, hw, hw2, hiL, hj, hi0, hj0, k1]
      exact fin _ (by simp [clip_t, e0]) (by simp [clip_t]) (by simp [clip_t, hs]) (by simp [clip_t])
    · by_cases k2 : L[i] = L[j]
      · by_cases k3 : i < j
        · have ha : aheadB L j i = true := by simp [aheadB, hgi, hgj, k2, k3, -List.getD_eq_getElem?_getD]
          rw [if_pos ha] at hs
          simp [-Int.natCast_add, b55_0, bb55_0, jl55_0_0, jbl55_0_0, clip_t, h0, h1, h5, h6, e0, hc, hc1, hw, hw2, hiL, hj, hi0, hj0, k2, k3]
          exact fin _ (by simp [clip_t, e0]) (by simp [clip_t]) (by simp [clip_t, hs]) (by simp [clip_t])
        · have ha : ¬ aheadB L j i = true := by simp [aheadB, hgi, hgj, k2, k3, -List.getD_eq_getElem?_getD]
          rw [if_neg ha] at hs
          simp [-Int.natCast_add, b55_0, bb55_0, jl55_0_0, jbl55_0_0, clip_t, h0, h1, h5, h6, e0, hc, hc1, hw, hw2, hiL, hj, hi0, hj0, k2, k3]
          exact fin _ (by simp [clip_t, e0]) (by simp [clip_t]) (by simp [clip_t, hs]) (by simp [clip_t])
      · have ha : ¬ aheadB L j i = true := by simp [aheadB, hgi, hgj, k1, k2, -List.getD_eq_getElem?_getD]
        rw [if_neg ha] at hs
        simp [-Int.natCast_add, b55_0, bb55_0, jl55_0_0, jbl55_0_0, clip_t, h0, h1, h5, h6, e0, hc, hc1, hw, hw2, hiL, hj, hi0, hj0, k1, k2]
        exact fin _ (by simp [clip_t, e0]) (by simp [clip_t]) (by simp [clip_t, hs]) (by simp [clip_t])
theorem ahead_ok (orc : FuncId → Bool) {L : List Int} {v : Value} {j : Nat} {G : GS} (hj : j < L.length) (hv : SlR (rowsI .u64) G v L) (hlt : L.length < 2 ^ 40) :
    ∃ G', (E orc).cl 55 [v, .int .i64 j] G = some (.int .i64 (rank L j), G') ∧ Ext G G' := by
  have w : Wp (s55 true (exL Q orc) v (.int .i64 j) G) fun r => r.1 = .int .i64 (rank L j) ∧ Ext G r.2 := by
    simp [s55]
    refine Wp.bE ((ahead_lp orc hj L.length 0 _ G (by omega) (by simp [clip_t]) (by simp [clip_t]) (by simp [clip_t, rankN_zero]) (by simp [clip_t]) hv hlt).mono ?_)
    rintro ⟨e, τ, G1⟩ ⟨rfl, x1, t5⟩
    simp only at x1 t5
    simp [t5, x1]
  obtain ⟨⟨v', G'⟩, e1, rfl, e3⟩ := w
  exact ⟨G', f55 (exL_ok Q orc) _ _ G _ e1, e3⟩
end Go.Proofs.YtedmgpchggogpaaGreat.Lift

set_option linter.unusedVariables false
set_option linter.unusedSimpArgs false
set_option maxRecDepth 20000
namespace Go.Proofs.YtedmgpchggogpaaGreat.Lift
open Go Go.Proofs.YtedmgpchggogpaaGreat.Gh Go.Proofs
/-! ### The document's Should -/
theorem seg_lp (orc : FuncId → Bool) {A : GS} {L S : List Int} {v : Value} {n : Nat} (hS : S.length ≤ 2 ^ 20) : ∀ (k i : Nat) (τ : Env) (G : GS) (w : Value), i + k = L.length → τ 0 = v → τ 6 = .int .i64 n → τ 7 = .int .i64 i → τ 5 = w → Ext A G → OwR (rowsI .u64) A.nx G w (S ++ segP L n i) →
    SlR (rowsI .u64) A v L → L.length < 2 ^ 20 → Wp ((exL Q orc).lpx 12 1 τ G) fun r => r.1 = .exit 2 ∧ Ext A r.2.2 ∧ r.2.1 0 = v ∧ r.2.1 1 = τ 1 ∧ r.2.1 6 = .int .i64 n ∧ OwR (rowsI .u64) A.nx r.2.2 (r.2.1 5) (S ++ segP L n L.length) := by
  intro k
  induction k with
  | zero =>
    intro i τ G w hi h0 h6 h7 h5 hx hw hv hlt
    have hi' : i = L.length := by omega
    subst hi'
    obtain ⟨a, c, rfl⟩ := hv.len
    refine Wp.lp (l12_1 (exL_ok Q orc)) ?_
    simp [b12_1, bb12_1, clip_t, h0, h5, h6, h7]
    exact ⟨hx, hw⟩
  | succ k ih =>
    intro i τ G w hi h0 h6 h7 h5 hx hw hv hlt
    refine Wp.lp (l12_1 (exL_ok Q orc)) ?_
    have hiL : i < L.length := by omega
    obtain ⟨b, o, c, e0, _, q0, _⟩ := (hv.ext hx).at hiL
    have hc := q0 0 (by decide)
    simp [rowsI] at hc
    have hww : IntKind.wrap .i64 ((i : Int) + 1) = ((i + 1 : Nat) : Int) := wrap64 (by omega) (by omega)
    have hi0 : (0 : Int) ≤ i := by omega
    have hgi : L.getD i 0 = L[i] := by simp [hiL]
    have hs := segP_succ L n i
    have hsl : (segP L n i).length ≤ i := by
      unfold segP
      refine Nat.le_trans (List.length_filter_le _ _) ?_
      rw [List.length_map]
      exact Nat.le_trans (List.length_filter_le _ _) (by simp)
    by_cases hn : L[i] = 18446744073709551615
    · have hf : ¬ (notIdle (L.getD i 0) = true ∧ rank L i = n) := by rw [hgi]; simp [notIdle, hn]
      rw [if_neg hf, List.append_nil] at hs
      simp [-Int.natCast_add, b12_1, bb12_1, jl12_1_0, jbl12_1_0, clip_t, h0, h5, h6, h7, e0, hc, hww, hiL, hi0, hn]
      refine (ih (i + 1) _ G w (by omega) (by simp [clip_t, e0]) (by simp [clip_t]) (by simp [clip_t]) (by simp [clip_t]) hx (by rw [hs]; exact hw) hv hlt).mono ?_
      rintro r ⟨r1, r2, r3, r4, r5, r6⟩
      rw [← e0]
      exact ⟨r1, r2, r3, by rw [r4]; simp [clip_t], r5, r6⟩
    · obtain ⟨G1, e1, x1⟩ := ahead_ok orc hiL (hv.ext hx) (by omega)
      rw [e0] at e1
      have y1 := hx.trans x1
      obtain ⟨b', o', c', e0', _, q0', _⟩ := (hv.ext y1).at hiL
      rw [e0] at e0'
      simp only [Value.slice.injEq, Option.some.injEq, Addr.mk.injEq, and_true, true_and] at e0'
      obtain ⟨⟨rfl, rfl⟩, rfl⟩ := e0'
      have hc' := q0' 0 (by decide)
      simp [rowsI] at hc'
      by_cases hr : rank L i = n
      · have hf : notIdle (L.getD i 0) = true ∧ rank L i = n := by rw [hgi]; simp [notIdle, hn, hr]
        rw [if_pos hf, hgi] at hs
        obtain ⟨v', G', a1, a2, a3⟩ := OwR.app (A := A) (ib := 8) (x := .slice (some ⟨G1.nx, 0, none⟩) 1 1) (OwR.ext (OwR.ext hw x1) ((Ext.refl G1).push ⟨(rowsI .u64).row L[i], 1, false, 1⟩)) (by decide) (y1.push _) (SlR.one (rowsI .u64) G1 L[i]) (by simp; omega)
        rw [rowsJ_sz, rowsJ_row] at a1
        have hr' : (rank L i : Int) = n := by omega
        simp [-Int.natCast_add, b12_1, bb12_1, jl12_1_0, jbl12_1_0, clip_t, h0, h5, h6, h7, e0, hc, hww, hiL, hi0, hn, e1, hr, hc', a1]
        refine (ih (i + 1) _ G' v' (by omega) (by simp [clip_t, e0]) (by simp [clip_t]) (by simp [clip_t]) (by simp [clip_t]) a2 (by rw [hs, ← List.append_assoc]; exact a3) hv hlt).mono ?_
        rintro r ⟨r1, r2, r3, r4, r5, r6⟩
        rw [← e0]
        exact ⟨r1, r2, r3, by rw [r4]; simp [clip_t], r5, r6⟩
      · have hf : ¬ (notIdle (L.getD i 0) = true ∧ rank L i = n) := fun k => hr k.2
        rw [if_neg hf, List.append_nil] at hs
        have hr' : ¬ (rank L i : Int) = n := by omega
        simp [-Int.natCast_add, b12_1, bb12_1, jl12_1_0, jbl12_1_0, clip_t, h0, h5, h6, h7, e0, hc, hww, hiL, hi0, hn, e1, hr']
        refine (ih (i + 1) _ G1 w (by omega) (by simp [clip_t, e0]) (by simp [clip_t]) (by simp [clip_t]) (by simp [clip_t]) y1 (by rw [hs]; exact OwR.ext hw x1) hv hlt).mono ?_
        rintro r ⟨r1, r2, r3, r4, r5, r6⟩
        rw [← e0]
        exact ⟨r1, r2, r3, by rw [r4]; simp [clip_t], r5, r6⟩
theorem shouldD_len (L : List Int) (m : Nat) : (shouldD L m).length ≤ m := by
  unfold shouldD
  induction m with
  | zero => simp
  | succ m ih =>
    rw [List.range_succ, List.flatMap_append, List.length_append]
    have h1 := seg_le L m
    have h2 := List.length_filter_le notIdle ((seg L m).map fun i => L.getD i 0)
    rw [List.length_map] at h2
    simp only [List.flatMap_cons, List.flatMap_nil, List.append_nil]
    omega
theorem rshould_lp (orc : FuncId → Bool) {A : GS} {L : List Int} {v : Value} {cores : Int} : ∀ (k n : Nat) (τ : Env) (G : GS) (w : Value), n + k = min L.length cores.toNat → τ 0 = v → τ 1 = .int .i64 cores → τ 6 = .int .i64 n → τ 5 = w → Ext A G → OwR (rowsI .u64) A.nx G w (shouldD L n) →
    SlR (rowsI .u64) A v L → L.length < 2 ^ 20 → Wp ((exL Q orc).lpx 12 0 τ G) fun r => r.1 = .exit 0 ∧ Ext A r.2.2 ∧ OwR (rowsI .u64) A.nx r.2.2 (r.2.1 5) (shouldD L (min L.length cores.toNat)) := by
  intro k
  induction k with
  | zero =>
    intro n τ G w hi h0 h1 h6 h5 hx hw hv hlt
    obtain ⟨a, c, ha⟩ := hv.len
    have l0 : ∀ t, ln Q true t v = some (.int .i64 L.length) := fun t => by rw [ha]; simp
    refine Wp.lp (l12_0 (exL_ok Q orc)) ?_
    have hi' : n = min L.length cores.toNat := by omega
    by_cases hL : n < L.length
    · have hc : ¬ (n : Int) < cores := by omega
      simp [b12_0, clip_t, h0, h1, h5, h6, l0, hL, hc]
      rw [← hi']
      exact ⟨hx, hw⟩
    · simp [b12_0, clip_t, h0, h1, h5, h6, l0, hL]
      rw [← hi']
      exact ⟨hx, hw⟩
  | succ k ih =>
    intro n τ G w hi h0 h1 h6 h5 hx hw hv hlt
    obtain ⟨a, c, ha⟩ := hv.len
    have l0 : ∀ t, ln Q true t v = some (.int .i64 L.length) := fun t => by rw [ha]; simp
    have hL : n < L.length := by omega
    have hc : (n : Int) < cores := by omega
    have hww : IntKind.wrap .i64 ((n : Int) + 1) = ((n + 1 : Nat) : Int) := wrap64 (by omega) (by omega)
    have hlen := shouldD_len L n
    refine Wp.lp (l12_0 (exL_ok Q orc)) ?_
    simp [-Int.natCast_add, b12_0, clip_t, h0, h1, h5, h6, l0, hL, hc]
    refine Wp.bE ((seg_lp orc (A := A) (L := L) (S := shouldD L n) (n := n) (v := v) (by omega) L.length 0 _ G w (by omega) (by simp [clip_t]; exact h0) (by simp [clip_t]; exact h6) (by simp [clip_t]) (by simp [clip_t]; exact h5) hx (by simpa [segP] using hw) hv hlt).mono ?_)
    rintro ⟨e, τ1, G1⟩ ⟨rfl, x1, t0, t1, t6, o1⟩
    simp only at x1 t0 t1 t6 o1
    simp [clip_t, h1] at t1
    rw [← shouldD_succ] at o1
    simp [-Int.natCast_add, t0, t1, t6, hww]
    exact ih (n + 1) _ G1 (τ1 5) (by omega) (by simp [clip_t]) (by simp [clip_t]) (by simp [clip_t]) (by simp [clip_t]) x1 o1 hv hlt
theorem rshould_ok (orc : FuncId → Bool) {L : List Int} {v : Value} {cores : Int} {G : GS} (hv : SlR (rowsI .u64) G v L) (hlt : L.length < 2 ^ 20) :
    ∃ w G', (E orc).cl 12 [v, .int .i64 cores] G = some (w, G') ∧ Ext G G' ∧ SlR (rowsI .u64) G' w (shouldD L (min L.length cores.toNat)) := by
  have w : Wp (s12 true (exL Q orc) v (.int .i64 cores) G) fun r => Ext G r.2 ∧ SlR (rowsI .u64) r.2 r.1 (shouldD L (min L.length cores.toNat)) := by
    simp [s12]
    refine Wp.bE ((rshould_lp orc (A := G) (L := L) (v := v) (cores := cores) (min L.length cores.toNat) 0 _ G (.slice none 0 0) (by omega) (by simp [clip_t]) (by simp [clip_t]) (by simp [clip_t]) (by simp [clip_t]) (Ext.refl G) (by simpa [shouldD] using OwR.nil _ _) hv hlt).mono ?_)
    rintro ⟨e, τ, G1⟩ ⟨rfl, x1, o1⟩
    simp only at x1 o1
    simp
    exact ⟨x1, o1.is⟩
  obtain ⟨⟨v', G'⟩, e1, e3⟩ := w
  exact ⟨v', G', f12 (exL_ok Q orc) _ _ G _ e1, e3⟩
end Go.Proofs.YtedmgpchggogpaaGreat.Lift

