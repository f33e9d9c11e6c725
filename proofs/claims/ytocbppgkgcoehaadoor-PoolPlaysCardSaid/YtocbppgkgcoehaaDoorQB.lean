/- contracts of the program's functions -/
import Derived.Test.YtocbppgkgcoehaaDoorQA
set_option linter.unusedVariables false
set_option linter.unusedSimpArgs false
set_option maxRecDepth 20000
namespace Go.Proofs.YtocbppgkgcoehaaDoor.Lift
open Go Go.Proofs.YtocbppgkgcoehaaDoor.Gh Go.Proofs
def ascB : List Int → Bool
  | a :: b :: r => decide (a < b) && ascB (b :: r)
  | _ => true
def checkI (l : List Int) : Int := if l.all inI = true then (if ascB l = true then 0 else 9) else 3
def firstW (n : Nat) : List Nat := (List.range n).foldl withW zW
theorem firstW_succ (n : Nat) : firstW (n + 1) = withW (firstW n) n := by unfold firstW; rw [List.range_succ, List.foldl_append]; rfl
theorem firstW_ok : ∀ n, OkW (firstW n)
  | 0 => zW_ok
  | n + 1 => by rw [firstW_succ]; exact (firstW_ok n).with n
theorem has_first : ∀ {n : Nat}, n ≤ 1024 → ∀ (j : Nat), has (firstW n) j = decide (j < n)
  | 0, _, j => by show has zW j = _; rw [has_z]; simp
  | n + 1, h, j => by
    rw [firstW_succ, has_with (firstW_ok n) (by omega), has_first (by omega)]
    rw [Bool.eq_iff_iff]; simp; omega
def lowN (n : Int) : Nat := (min (max n 0) 1024).toNat
section
variable {G B : GS} {W : List Nat} {A : List Int} {v0 : Value}
theorem first_lp (orc : FuncId → Bool) {sb rb n : Nat} (hn : n ≤ 1024) (hsb : B.nx ≤ sb) (hrs : rb ≠ sb) : ∀ (k i : Nat) (τ : Env) (G : GS), i + k = n → τ 2 = P0 rb → τ 3 = P0 sb → τ 7 = .int .i64 (n : Int) → τ 8 = .int .i64 (i : Int) → Ext B G → sb < G.nx → rb < G.nx → G.obj sb = some ⟨setC (firstW i), 1, false, 1⟩ → G.obj rb = some ⟨setC zW, 1, false, 1⟩ →
    Wp ((exL Q orc).lpx 42 0 τ G) fun q => q.1 = .exit 0 ∧ Ext B q.2.2 ∧ q.2.2.obj sb = some ⟨setC (firstW n), 1, false, 1⟩ ∧ q.2.2.obj rb = some ⟨setC zW, 1, false, 1⟩ ∧ q.2.1 2 = P0 rb ∧ q.2.1 3 = P0 sb := by
  intro k
  induction k with
  | zero =>
    intro i τ G hi t2 t3 t7 t8 x hs hr os or
    have hi' : i = n := by omega
    subst hi'
    refine Wp.lp (l42_0 (exL_ok Q orc)) ?_
    simp [b42_0, clip_t, t2, t3, t7, t8]
    exact ⟨x, os, or⟩
  | succ k ih =>
    intro i τ G hi t2 t3 t7 t8 x hs hr os or
    have hlt : i < n := by omega
    have hw : IntKind.wrap .i64 ((i : Int) + 1) = ((i + 1 : Nat) : Int) := wrap64 (by omega) (by omega)
    have h1 : (i : Int) < n := by omega
    have hW := firstW_ok i
    obtain ⟨G1, e1, x1⟩ := with_ok orc hW (by omega : i < 1024) G
    rw [← firstW_succ] at e1
    have hW1 := firstW_ok (i + 1)
    have os1 := (x1.obj sb hs).trans os
    have or1 := (x1.obj rb hr).trans or
    have n1 := x1.nx
    refine Wp.lp (l42_0 (exL_ok Q orc)) ?_
    simp [-Int.natCast_add, b42_0, clip_t, t2, t3, t7, t8, h1, hlt, os, setC_len hW, setC_take hW, e1, os1, setC_sto hW1 (setC_len hW), hw]
    refine ih (i + 1) _ (G1.put sb ⟨setC (firstW (i + 1)), 1, false, 1⟩) (by omega) ?_ ?_ ?_ ?_ ((x.trans x1).put hsb _) (by simp; omega) (by simp; omega) (by simp) (by simp [hrs, or1]) <;> simp [clip_t, t2, t3]
theorem first_ok (orc : FuncId → Bool) (n : Int) (G : GS) : ∃ G', (E orc).cl 42 [.int .i64 n] G = some (setV (firstW (lowN n)), G') ∧ Ext G G' := by
  have w : Wp ((E orc).cl 42 [.int .i64 n] G) fun q => q.1 = setV (firstW (lowN n)) ∧ Ext G q.2 := by
    refine Wp.ref (f42 (exL_ok Q orc) _ G) ?_
    have x0 : Ext G ((G.push ⟨z57, 1, false, 1⟩).push ⟨z57, 1, false, 1⟩) := ((Ext.refl G).push _).push _
    obtain ⟨m, hm⟩ : ∃ m, lowN n = m := ⟨_, rfl⟩
    have hm2 : m ≤ 1024 := by rw [← hm]; unfold lowN; omega
    have e1 : (if (1024 : Int) < (if 0 > n then 0 else n) then (1024 : Int) else (if 0 > n then 0 else n)) = (m : Int) := by
      rw [← hm]; unfold lowN; split <;> split at * <;> omega
    rw [hm]
    simp [s42]
    have e2 : (if (1024 : Int) < (if n < 0 then 0 else n) then (1024 : Int) else (if n < 0 then 0 else n)) = (m : Int) := e1
    rw [e2]
    refine Wp.bE ((first_lp orc (B := G) (rb := G.nx) (sb := G.nx + 1) hm2 (by omega) (by omega) m 0 _ _ (by omega) (by simp) (by simp) (by simp) (by simp) x0 (by simp) (by simp; omega) (by simp; rfl) (by simp; rfl)).mono ?_)
    rintro ⟨e, τ, G'⟩ ⟨rfl, x, o1, o2, t2, t3⟩
    simp only at x o1 o2 t2 t3
    have hW := firstW_ok m
    simp [t2, t3, o1, o2, setC_len hW, setC_take hW, setC_sto hW (setC_len zW_ok)]
    exact x.put (Nat.le_refl _) _
  obtain ⟨⟨v, G'⟩, e, rfl, x⟩ := w
  exact ⟨G', e, x⟩
theorem index_ok (orc : FuncId → Bool) (i : Int) (G : GS) : (E orc).cl 41 [.int .i64 i] G = some (.bool (inI i), G) := by
  refine f41 (exL_ok Q orc) _ G _ ?_
  unfold inI
  by_cases h : 0 ≤ i
  · simp [s41, h]
  · simp [s41, h]
theorem inside_ok' (orc : FuncId → Bool) (i : Int) (G : GS) : (E orc).cl 35 [.int .i64 i] G = some (.bool (inI i), G) := inside_ok orc i G
theorem rng_lp (orc : FuncId → Bool) (hA : SlR (rowsI .i64) G v0 A) (hlen : A.length < 2 ^ 47) : ∀ (k i : Nat) (τ : Env), i + k = A.length → τ 0 = v0 → τ 6 = v0 → τ 7 = .int .i64 A.length → τ 8 = .int .i64 (i : Int) →
    Wp ((exL Q orc).lpx 18 0 τ G) fun q => q.2.2 = G ∧ ((q.1 = .exit 0 ∧ (A.drop i).all inI = true ∧ q.2.1 0 = v0) ∨ (q.1 = .ret ∧ (A.drop i).all inI = false ∧ q.2.1 2 = .int .i64 3)) := by
  intro k
  induction k with
  | zero =>
    intro i τ hi t0 t6 t7 t8
    have hi' : i = A.length := by omega
    refine Wp.lp (l18_0 (exL_ok Q orc)) ?_
    subst hi'
    simp [b18_0, clip_t, t0, t6, t7, t8]
  | succ k ih =>
    intro i τ hi t0 t6 t7 t8
    have hlt : i < A.length := by omega
    have hw : IntKind.wrap .i64 ((i : Int) + 1) = ((i + 1 : Nat) : Int) := wrap64 (by omega) (by omega)
    have h1 : (i : Int) < A.length := by omega
    have h2 : (0 : Int) ≤ i := by omega
    obtain ⟨b, o, c, e0, _, q, _⟩ := hA.at hlt
    have q0 := q 0 (by decide)
    simp at q0
    rw [List.drop_eq_getElem_cons hlt]
    generalize A[i] = y at *
    refine Wp.lp (l18_0 (exL_ok Q orc)) ?_
    cases hy : inI y with
    | true =>
      simp [-Int.natCast_add, b18_0, clip_t, t0, t6, t7, t8, e0, h1, h2, hlt, q0, inside_ok', hy, hw]
      refine Wp.mono (ih (i + 1) _ (by omega) ?_ ?_ ?_ ?_) fun q hq => ?_
      · simp [clip_t, t0]
      · simp [clip_t, e0]
      · simp [clip_t]
      · simp [clip_t]
      · simpa [e0] using hq
    | false =>
      simp [-Int.natCast_add, b18_0, clip_t, t0, t6, t7, t8, e0, h1, h2, hlt, q0, inside_ok', hy, hw]
theorem asc_step {i : Nat} (h : i + 1 < A.length) : ascB (A.drop i) = (decide (A[i] < A[i + 1]) && ascB (A.drop (i + 1))) := by
  rw [List.drop_eq_getElem_cons (by omega : i < A.length), List.drop_eq_getElem_cons h, ascB]
theorem asc_end {i : Nat} (h : A.length ≤ i + 1) : ascB (A.drop i) = true := by
  have : (A.drop i).length ≤ 1 := by rw [List.length_drop]; omega
  match hd : A.drop i, this with
  | [], _ => rfl
  | [_], _ => rfl
theorem asc_lp (orc : FuncId → Bool) (hA : SlR (rowsI .i64) B v0 A) (hlen : A.length < 2 ^ 47) : ∀ (k i : Nat) (τ : Env) (G : GS), A.length ≤ i + 1 + k → τ 0 = v0 → τ 5 = .int .i64 ((i + 1 : Nat) : Int) → Ext B G →
    Wp ((exL Q orc).lpx 18 1 τ G) fun q => Ext B q.2.2 ∧ ((q.1 = .exit 2 ∧ ascB (A.drop i) = true) ∨ (q.1 = .ret ∧ ascB (A.drop i) = false ∧ q.2.1 2 = .int .i64 9)) := by
  intro k
  induction k with
  | zero =>
    intro i τ G hi t0 t5 x
    have hn : ¬ ((i + 1 : Nat) : Int) < A.length := by omega
    obtain ⟨a, c, e0⟩ := hA.len
    refine Wp.lp (l18_1 (exL_ok Q orc)) ?_
    simp [-Int.natCast_add, b18_1, clip_t, t0, t5, e0, hn, asc_end (show A.length ≤ i + 1 by omega)]
    exact x
  | succ k ih =>
    intro i τ G hi t0 t5 x
    by_cases hlt : i + 1 < A.length
    · have hw : IntKind.wrap .i64 (((i + 1 : Nat) : Int) + 1) = ((i + 1 + 1 : Nat) : Int) := by rw [show ((i + 1 : Nat) : Int) + 1 = ((i + 1 + 1 : Nat) : Int) by omega]; exact wrap64 (by omega) (by omega)
      have hw3 : IntKind.wrap .i64 (((i + 1 : Nat) : Int) - 1) = (i : Int) := by rw [show ((i + 1 : Nat) : Int) - 1 = (i : Int) by omega]; exact wrap64 (by omega) (by omega)
      have h1 : ((i + 1 : Nat) : Int) < A.length := by omega
      have h2 : (0 : Int) ≤ ((i + 1 : Nat) : Int) := by omega
      have h3 : (i : Int) < A.length := by omega
      have h4 : i < A.length := by omega
      have x1 := x.room 10
      obtain ⟨b, o, c, e0, _, q, _⟩ := (hA.ext x).at hlt
      have q0 := q 0 (by decide)
      obtain ⟨b', o', c', e0', _, q', _⟩ := (hA.ext x).at h4
      have q0' := q' 0 (by decide)
      rw [e0] at e0'
      simp only [Value.slice.injEq, Option.some.injEq, Addr.mk.injEq, and_true, true_and] at e0'
      obtain ⟨⟨rfl, rfl⟩, rfl⟩ := e0'
      simp at q0 q0'
      rw [asc_step hlt]
      refine Wp.lp (l18_1 (exL_ok Q orc)) ?_
      by_cases hc : A[i] < A[i + 1]
      · have hc' : ¬ A[i + 1] ≤ A[i] := by omega
        simp [-Int.natCast_add, b18_1, clip_t, t0, t5, e0, h1, h2, h3, h4, hlt, q0, q0', hw, hw3, hc, hc']
        refine Wp.mono (ih (i + 1) _ _ (by omega) ?_ ?_ x1) fun q hq => ?_
        · simp [clip_t, e0]
        · simp [clip_t]
        · exact hq
      · have hc' : A[i + 1] ≤ A[i] := by omega
        simp [-Int.natCast_add, b18_1, clip_t, t0, t5, e0, h1, h2, h3, h4, hlt, q0, q0', hw, hw3, hc, hc']
        exact x1
    · have hn : ¬ ((i + 1 : Nat) : Int) < A.length := by omega
      obtain ⟨a, c, e0⟩ := hA.len
      refine Wp.lp (l18_1 (exL_ok Q orc)) ?_
      simp [-Int.natCast_add, b18_1, clip_t, t0, t5, e0, hn, asc_end (show A.length ≤ i + 1 by omega)]
      exact x
theorem check_ok (orc : FuncId → Bool) (hA : SlR (rowsI .i64) G v0 A) (hlen : A.length < 2 ^ 47) : ∃ G', (E orc).cl 18 [v0] G = some (.int .i64 (checkI A), G') ∧ Ext G G' := by
  obtain ⟨a, c, e0⟩ := hA.len
  have l0 : ln Q true 22 v0 = some (.int .i64 A.length) := by rw [e0]; simp
  have w : Wp ((E orc).cl 18 [v0] G) fun q => q.1 = .int .i64 (checkI A) ∧ Ext G q.2 := by
    refine Wp.ref (f18 (exL_ok Q orc) _ G) ?_
    simp [s18, l0]
    refine Wp.bE ((rng_lp orc hA hlen A.length 0 _ (by omega) (by simp) (by simp) (by simp) (by simp)).mono ?_)
    rintro ⟨e, τ, G'⟩ ⟨h1, (⟨h2, h3, h4⟩ | ⟨h2, h3, h4⟩)⟩
    · simp only [List.drop_zero] at h1 h2 h3 h4
      subst h1 h2
      simp
      refine Wp.bE ((asc_lp orc hA hlen A.length 0 _ _ (by omega) (by simp [h4]) (by simp) (Ext.refl _)).mono ?_)
      rintro ⟨e, τ', G'⟩ ⟨x, (⟨h5, h6⟩ | ⟨h5, h6, h7⟩)⟩
      · simp only [List.drop_zero] at x h5 h6
        subst h5
        simp [checkI, h3, h6, x]
      · simp only [List.drop_zero] at x h5 h6 h7
        subst h5
        simp [checkI, h3, h6, h7, x]
    · simp only [List.drop_zero] at h1 h2 h3 h4
      subst h1 h2
      simp [checkI, h3, h4, Ext.refl]
  obtain ⟨⟨v, G'⟩, e, rfl, x⟩ := w
  exact ⟨G', e, x⟩
end
end Go.Proofs.YtocbppgkgcoehaaDoor.Lift

set_option linter.unusedVariables false
set_option linter.unusedSimpArgs false
set_option maxRecDepth 20000
namespace Go.Proofs.YtocbppgkgcoehaaDoor.Lift
open Go Go.Proofs.YtocbppgkgcoehaaDoor.Gh Go.Proofs
section
variable {G B : GS} {W : List Nat} {A : List Int} {v0 : Value}
theorem rrng_lp (orc : FuncId → Bool) (hA : SlR (rowsI .i64) G v0 A) (hlen : A.length < 2 ^ 47) : ∀ (k i : Nat) (τ : Env), i + k = A.length → τ 0 = v0 → τ 3 = .int .i64 (i : Int) →
    Wp ((exL Q orc).lpx 19 0 τ G) fun q => q.2.2 = G ∧ ((q.1 = .exit 0 ∧ (A.drop i).all inI = true ∧ q.2.1 0 = v0) ∨ (q.1 = .ret ∧ (A.drop i).all inI = false ∧ q.2.1 2 = .int .i64 3)) := by
  intro k
  induction k with
  | zero =>
    intro i τ hi t0 t8
    have hi' : i = A.length := by omega
    refine Wp.lp (l19_0 (exL_ok Q orc)) ?_
    subst hi'
    obtain ⟨a, c, e0⟩ := hA.len
    simp [b19_0, clip_t, t0, t8, e0]
  | succ k ih =>
    intro i τ hi t0 t8
    have hlt : i < A.length := by omega
    have hw : IntKind.wrap .i64 ((i : Int) + 1) = ((i + 1 : Nat) : Int) := wrap64 (by omega) (by omega)
    have h1 : (i : Int) < A.length := by omega
    have h2 : (0 : Int) ≤ i := by omega
    obtain ⟨b, o, c, e0, _, q, _⟩ := hA.at hlt
    have q0 := q 0 (by decide)
    simp at q0
    rw [List.drop_eq_getElem_cons hlt]
    generalize A[i] = y at *
    refine Wp.lp (l19_0 (exL_ok Q orc)) ?_
    cases hy : inI y with
    | true =>
      simp [-Int.natCast_add, b19_0, clip_t, t0, t8, e0, h1, h2, hlt, q0, index_ok, hy, hw]
      refine Wp.mono (ih (i + 1) _ (by omega) ?_ ?_) fun q hq => ?_
      · simp [clip_t, e0]
      · simp [clip_t]
      · simpa [e0] using hq
    | false =>
      simp [-Int.natCast_add, b19_0, clip_t, t0, t8, e0, h1, h2, hlt, q0, index_ok, hy, hw]
theorem rasc_lp (orc : FuncId → Bool) (hA : SlR (rowsI .i64) B v0 A) (hlen : A.length < 2 ^ 47) : ∀ (k i : Nat) (τ : Env) (G : GS), A.length ≤ i + 1 + k → τ 0 = v0 → τ 4 = .int .i64 ((i + 1 : Nat) : Int) → Ext B G →
    Wp ((exL Q orc).lpx 19 1 τ G) fun q => Ext B q.2.2 ∧ ((q.1 = .exit 2 ∧ ascB (A.drop i) = true) ∨ (q.1 = .ret ∧ ascB (A.drop i) = false ∧ q.2.1 2 = .int .i64 9)) := by
  intro k
  induction k with
  | zero =>
    intro i τ G hi t0 t5 x
    have hn : ¬ ((i + 1 : Nat) : Int) < A.length := by omega
    obtain ⟨a, c, e0⟩ := hA.len
    refine Wp.lp (l19_1 (exL_ok Q orc)) ?_
    simp [-Int.natCast_add, b19_1, clip_t, t0, t5, e0, hn, asc_end (show A.length ≤ i + 1 by omega)]
    exact x
  | succ k ih =>
    intro i τ G hi t0 t5 x
    by_cases hlt : i + 1 < A.length
    · have hw : IntKind.wrap .i64 (((i + 1 : Nat) : Int) + 1) = ((i + 1 + 1 : Nat) : Int) := by rw [show ((i + 1 : Nat) : Int) + 1 = ((i + 1 + 1 : Nat) : Int) by omega]; exact wrap64 (by omega) (by omega)
      have hw3 : IntKind.wrap .i64 (((i + 1 : Nat) : Int) - 1) = (i : Int) := by rw [show ((i + 1 : Nat) : Int) - 1 = (i : Int) by omega]; exact wrap64 (by omega) (by omega)
      have h1 : ((i + 1 : Nat) : Int) < A.length := by omega
      have h2 : (0 : Int) ≤ ((i + 1 : Nat) : Int) := by omega
      have h3 : (i : Int) < A.length := by omega
      have h4 : i < A.length := by omega
      have x1 := x.room 10
      obtain ⟨b, o, c, e0, _, q, _⟩ := (hA.ext x).at hlt
      have q0 := q 0 (by decide)
      obtain ⟨b', o', c', e0', _, q', _⟩ := (hA.ext x).at h4
      have q0' := q' 0 (by decide)
      rw [e0] at e0'
      simp only [Value.slice.injEq, Option.some.injEq, Addr.mk.injEq, and_true, true_and] at e0'
      obtain ⟨⟨rfl, rfl⟩, rfl⟩ := e0'
      simp at q0 q0'
      rw [asc_step hlt]
      refine Wp.lp (l19_1 (exL_ok Q orc)) ?_
      by_cases hc : A[i] < A[i + 1]
      · have hc' : ¬ A[i + 1] ≤ A[i] := by omega
        simp [-Int.natCast_add, b19_1, clip_t, t0, t5, e0, h1, h2, h3, h4, hlt, q0, q0', hw, hw3, hc, hc']
        refine Wp.mono (ih (i + 1) _ _ (by omega) ?_ ?_ x1) fun q hq => ?_
        · simp [clip_t, e0]
        · simp [clip_t]
        · exact hq
      · have hc' : A[i + 1] ≤ A[i] := by omega
        simp [-Int.natCast_add, b19_1, clip_t, t0, t5, e0, h1, h2, h3, h4, hlt, q0, q0', hw, hw3, hc, hc']
        exact x1
    · have hn : ¬ ((i + 1 : Nat) : Int) < A.length := by omega
      obtain ⟨a, c, e0⟩ := hA.len
      refine Wp.lp (l19_1 (exL_ok Q orc)) ?_
      simp [-Int.natCast_add, b19_1, clip_t, t0, t5, e0, hn, asc_end (show A.length ≤ i + 1 by omega)]
      exact x
theorem rcheck_ok (orc : FuncId → Bool) (hA : SlR (rowsI .i64) G v0 A) (hlen : A.length < 2 ^ 47) : ∃ G', (E orc).cl 19 [v0] G = some (.int .i64 (checkI A), G') ∧ Ext G G' := by
  obtain ⟨a, c, e0⟩ := hA.len
  have l0 : ln Q true 22 v0 = some (.int .i64 A.length) := by rw [e0]; simp
  have w : Wp ((E orc).cl 19 [v0] G) fun q => q.1 = .int .i64 (checkI A) ∧ Ext G q.2 := by
    refine Wp.ref (f19 (exL_ok Q orc) _ G) ?_
    simp [s19]
    refine Wp.bE ((rrng_lp orc hA hlen A.length 0 _ (by omega) (by simp) (by simp)).mono ?_)
    rintro ⟨e, τ, G'⟩ ⟨h1, (⟨h2, h3, h4⟩ | ⟨h2, h3, h4⟩)⟩
    · simp only [List.drop_zero] at h1 h2 h3 h4
      subst h1 h2
      simp
      refine Wp.bE ((rasc_lp orc hA hlen A.length 0 _ _ (by omega) (by simp [h4]) (by simp) (Ext.refl _)).mono ?_)
      rintro ⟨e, τ', G'⟩ ⟨x, (⟨h5, h6⟩ | ⟨h5, h6, h7⟩)⟩
      · simp only [List.drop_zero] at x h5 h6
        subst h5
        simp [checkI, h3, h6, x]
      · simp only [List.drop_zero] at x h5 h6 h7
        subst h5
        simp [checkI, h3, h6, h7, x]
    · simp only [List.drop_zero] at h1 h2 h3 h4
      subst h1 h2
      simp [checkI, h3, h4, Ext.refl]
  obtain ⟨⟨v, G'⟩, e, rfl, x⟩ := w
  exact ⟨G', e, x⟩
theorem among_lp (orc : FuncId → Bool) (hA : SlR (rowsI .i64) G v0 A) (hlen : A.length < 2 ^ 47) (x : Int) : ∀ (k i : Nat) (τ : Env), i + k = A.length → τ 0 = v0 → τ 1 = .int .i64 x → τ 5 = .int .i64 (i : Int) →
    Wp ((exL Q orc).lpx 31 0 τ G) fun q => q.2.2 = G ∧ ((q.1 = .exit 0 ∧ x ∉ A.drop i) ∨ (q.1 = .ret ∧ x ∈ A.drop i ∧ q.2.1 4 = .bool true)) := by
  intro k
  induction k with
  | zero =>
    intro i τ hi t0 t1 t5
    have hi' : i = A.length := by omega
    refine Wp.lp (l31_0 (exL_ok Q orc)) ?_
    subst hi'
    obtain ⟨a, c, e0⟩ := hA.len
    simp [b31_0, clip_t, t0, t1, t5, e0]
  | succ k ih =>
    intro i τ hi t0 t1 t5
    have hlt : i < A.length := by omega
    have hw : IntKind.wrap .i64 ((i : Int) + 1) = ((i + 1 : Nat) : Int) := wrap64 (by omega) (by omega)
    have h1 : (i : Int) < A.length := by omega
    have h2 : (0 : Int) ≤ i := by omega
    obtain ⟨b, o, c, e0, _, q, _⟩ := hA.at hlt
    have q0 := q 0 (by decide)
    simp at q0
    rw [List.drop_eq_getElem_cons hlt]
    generalize A[i] = y at *
    refine Wp.lp (l31_0 (exL_ok Q orc)) ?_
    by_cases hy : y = x
    · subst hy
      simp [-Int.natCast_add, b31_0, clip_t, t0, t1, t5, e0, h1, h2, hlt, q0, hw]
    · have hy' : ¬ x = y := fun e => hy e.symm
      simp [-Int.natCast_add, b31_0, clip_t, t0, t1, t5, e0, h1, h2, hlt, q0, hw, hy]
      refine Wp.mono (ih (i + 1) _ (by omega) ?_ ?_ ?_) fun q hq => ?_
      · simp [clip_t, e0]
      · simp [clip_t]
      · simp [clip_t]
      · simpa [hy'] using hq
theorem among_ok' (orc : FuncId → Bool) (hA : SlR (rowsI .i64) G v0 A) (hlen : A.length < 2 ^ 47) (x : Int) : (E orc).cl 31 [v0, .int .i64 x] G = some (.bool (decide (x ∈ A)), G) := by
  have w : Wp ((E orc).cl 31 [v0, .int .i64 x] G) fun q => q.1 = .bool (decide (x ∈ A)) ∧ q.2 = G := by
    refine Wp.ref (f31 (exL_ok Q orc) _ _ G) ?_
    simp [s31]
    refine Wp.bE ((among_lp orc hA hlen x A.length 0 _ (by omega) (by simp) (by simp) (by simp)).mono ?_)
    rintro ⟨e, τ, G'⟩ ⟨h1, (⟨h2, h3⟩ | ⟨h2, h3, h4⟩)⟩
    · simp only [List.drop_zero] at h1 h2 h3
      subst h1 h2
      simp [h3]
    · simp only [List.drop_zero] at h1 h2 h3 h4
      subst h1 h2
      simp [h3, h4]
  obtain ⟨⟨v, G'⟩, e, h1, h2⟩ := w
  simp only at h1 h2
  subst h1 h2
  exact e
theorem pick_ok (orc : FuncId → Bool) (x n : Int) (hn : 0 < n) (hn2 : n < 2 ^ 40) (G : GS) : (E orc).cl 32 [.int .i64 x, .int .i64 n] G = some (.int .i64 (x % n), G) := by
  refine f32 (exL_ok Q orc) _ _ G _ ?_
  have h1 := Int.emod_nonneg x (show n ≠ 0 by omega)
  have h2 := Int.emod_lt_of_pos x hn
  have ht := @Int.tmod_eq_emod x n
  have hn0 : ¬ n ≤ 0 := by omega
  have hn1 : ¬ n = 0 := by omega
  have hw : IntKind.wrap .i64 (x % n) = x % n := wrap64 (by omega) (by omega)
  by_cases hx : x.tmod n < 0
  · have e : x.tmod n + n = x % n := by split at ht <;> omega
    simp [s32, clip_t, hx, e, hw, hn0, hn1]
  · have e : x.tmod n = x % n := by split at ht <;> omega
    have hx' : ¬ x % n < 0 := by omega
    simp [s32, clip_t, e, hx', hn0, hn1]
theorem setC_same (n : Nat) (W : List Nat) : ((setC W).all fun x => sameD (n + 1) x x) = true := List.all_eq_true.2 fun x hx => by
  obtain ⟨k, _, rfl⟩ := List.mem_map.1 hx
  simp
def freeI (W : List Nat) (x : Int) : An × List Nat := if inI x = true then (if has W x.toNat = true then ((8, 0, 0), W) else ((0, 0, 0), withW W x.toNat)) else ((3, 0, 0), W)
theorem freeI_ok {W : List Nat} (h : OkW W) (x : Int) : OkW (freeI W x).2 := by
  unfold freeI
  split
  · split
    · exact h
    · exact h.with _
  · exact h
theorem free_ok (orc : FuncId → Bool) (hW : OkW W) (x : Int) (G : GS) : ∃ G', (E orc).cl 34 [setV W, .int .i64 x] G = some (.tuple #[anV (freeI W x).1, setV (freeI W x).2], G') ∧ Ext G G' := by
  have w : Wp ((E orc).cl 34 [setV W, .int .i64 x] G) fun q => q.1 = .tuple #[anV (freeI W x).1, setV (freeI W x).2] ∧ Ext G q.2 := by
    refine Wp.ref (f34 (exL_ok Q orc) _ _ G) ?_
    obtain ⟨G1, hG1⟩ : ∃ G1, G1 = ((G.push ⟨setC W, 1, false, 1⟩).push ⟨z28, 1, false, 1⟩).push ⟨z57, 1, false, 1⟩ := ⟨_, rfl⟩
    have x1 : Ext G G1 := by rw [hG1]; exact (((Ext.refl G).push _).push _).push _
    have n1 : G1.nx = G.nx + 3 := by rw [hG1]; rfl
    have d1 : ¬ G.nx = G.nx + 1 + 1 := by omega
    have o0 : G1.obj G.nx = some ⟨setC W, 1, false, 1⟩ := by rw [hG1]; simp [d1]
    have o1 : G1.obj (G.nx + 1) = some ⟨[.int .i64 0, .int .i64 0, .int .u64 0], 1, false, 1⟩ := by rw [hG1]; simp
    have o2 : G1.obj (G.nx + 1 + 1) = some ⟨setC zW, 1, false, 1⟩ := by rw [hG1]; simp; rfl
    unfold freeI
    cases hx : inI x with
    | false =>
      simp [s34, ← hG1, inside_ok', hx, o0, o1, o2, d1, setC_same, setC_len hW, setC_take hW, setC_sto hW (setC_len zW_ok)]
      refine Ext.put (Ext.put (x1.room 4) ?_ _) ?_ _ <;> omega
    | true =>
      obtain ⟨n, rfl⟩ : ∃ n : Nat, x = n := ⟨x.toNat, by simp [inI] at hx; omega⟩
      have hn : n < 1024 := by simp [inI] at hx; omega
      obtain ⟨G2, e2, x2⟩ := has_ok orc hW hn G1
      have n2 := x2.nx
      have p0 := (x2.obj G.nx (by omega)).trans o0
      have p1 := (x2.obj (G.nx + 1) (by omega)).trans o1
      have p2 := (x2.obj (G.nx + 1 + 1) (by omega)).trans o2
      rw [Int.toNat_natCast]
      cases hh : has W n with
      | true =>
        rw [hh] at e2
        simp [s34, ← hG1, inside_ok', hx, o0, e2, p0, p1, p2, d1, setC_same, setC_len hW, setC_take hW, setC_sto hW (setC_len zW_ok)]
        refine Ext.put (Ext.put ((x1.trans x2).room 4) ?_ _) ?_ _ <;> omega
      | false =>
        rw [hh] at e2
        obtain ⟨G3, e3, x3⟩ := with_ok orc hW hn G2
        have n3 := x3.nx
        have q0 := (x3.obj G.nx (by omega)).trans p0
        have q1 := (x3.obj (G.nx + 1) (by omega)).trans p1
        have q2 := (x3.obj (G.nx + 1 + 1) (by omega)).trans p2
        have hw := hW.with n
        simp [s34, ← hG1, inside_ok', hx, o0, e2, p0, e3, q0, q1, q2, d1, setC_len hW, setC_take hW, setC_len hw, setC_take hw, setC_sto hw (setC_len zW_ok)]
        refine Ext.put (Ext.put (x1.trans (x2.trans x3)) ?_ _) ?_ _ <;> omega
  obtain ⟨⟨v, G'⟩, e, rfl, x⟩ := w
  exact ⟨G', e, x⟩
end
end Go.Proofs.YtocbppgkgcoehaaDoor.Lift

set_option linter.unusedVariables false
set_option linter.unusedSimpArgs false
set_option maxRecDepth 20000
namespace Go.Proofs.YtocbppgkgcoehaaDoor.Lift
open Go Go.Proofs.YtocbppgkgcoehaaDoor.Gh Go.Proofs
/-! ### A range over a function whose body writes one variable -/
structure VarI (B : GS) (ob l : Nat) (r : Lp) (G : GS) (cs : List Value) : Prop where
  nx : B.nx ≤ G.nx
  obj : ∀ g, g < B.nx → g ≠ ob → G.obj g = B.obj g
  nl : B.nl ≤ G.nl
  loop : ∀ k, k < B.nl → k ≠ l → G.loop k = B.loop k
  obB : ob < B.nx
  lB : l < B.nl
  lp : G.loop l = some r
  var : G.obj ob = some ⟨cs, 1, false, 1⟩
section
variable {A B G G' : GS} {ob l : Nat} {r : Lp} {cs ds : List Value}
theorem VarI.begin {G1 : GS} (ho : G1.obj ob = some ⟨cs, 1, false, 1⟩) (hb : ob < G1.nx) (r : Lp) : VarI (G1.pushLoop r) ob G1.nl r (G1.pushLoop r) cs :=
  ⟨Nat.le_refl _, fun _ _ _ => rfl, Nat.le_refl _, fun _ _ _ => rfl, hb, by simp, by simp, by simpa using ho⟩
theorem VarI.ext (h : VarI B ob l r G cs) (x : Ext G G') : VarI B ob l r G' cs :=
  ⟨Nat.le_trans h.nx x.nx, fun g hg hn => (x.obj g (Nat.lt_of_lt_of_le hg h.nx)).trans (h.obj g hg hn), Nat.le_trans h.nl x.nl, fun k hk hn => (x.loop k (Nat.lt_of_lt_of_le hk h.nl)).trans (h.loop k hk hn), h.obB, h.lB,
    (x.loop l (Nat.lt_of_lt_of_le h.lB h.nl)).trans h.lp, (x.obj ob (Nat.lt_of_lt_of_le h.obB h.nx)).trans h.var⟩
theorem VarI.lp' (h : VarI B ob l r G cs) (r' : Lp) : VarI B ob l r' (G.putLoop l r') cs :=
  ⟨h.nx, fun g hg hn => by simpa using h.obj g hg hn, h.nl, fun k hk hn => by rw [loop_putLoop, if_neg hn]; exact h.loop k hk hn, h.obB, h.lB, by simp, by simpa using h.var⟩
theorem VarI.put (h : VarI B ob l r G cs) (ds : List Value) : VarI B ob l r (G.put ob ⟨ds, 1, false, 1⟩) ds :=
  ⟨h.nx, fun g hg hn => by rw [obj_put, if_neg hn]; exact h.obj g hg hn, h.nl, fun k hk hn => h.loop k hk hn, h.obB, h.lB, h.lp, by simp⟩
theorem VarI.from (h : VarI B ob l r G cs) (x : Ext A B) (ho : A.nx ≤ ob) (hl : A.nl ≤ l) : Ext A G :=
  ⟨Nat.le_trans x.nx h.nx, fun g hg => (h.obj g (Nat.lt_of_lt_of_le hg x.nx) (by omega)).trans (x.obj g hg), Nat.le_trans x.nl h.nl, fun k hk => (h.loop k (Nat.lt_of_lt_of_le hk x.nl) (by omega)).trans (x.loop k hk)⟩
theorem VarI.tab (h : VarI B ob l r G cs) (hB : Tab B) (hn : ob ≠ 0) : Tab G := by
  obtain ⟨o, h1, h2⟩ := hB.ob
  exact ⟨⟨o, (h.obj 0 hB.nx (fun e => hn e.symm)).trans h1, h2⟩, Nat.lt_of_lt_of_le hB.nx h.nx⟩
end
/-! ### Rest -/
noncomputable abbrev lpR (T : List Value) : Lp := ⟨.ready, none, T, [12], (subAt [1, 1, 0, 1, 0, 0] (bodyOf Tryd.f14)), (subAt [1, 1, 0, 1, 0, 1] (bodyOf Tryd.f14))⟩
section
variable {B G : GS} {ob l nb : Nat} {T : List Value} {A : List Int} {W : List Nat} {v0 : Value}
theorem rrd_ok (orc : FuncId → Bool) {i : Nat} (hi : i < 1024) (hW : OkW W) (hT : T.length = 18) (t5 : nth undef T 5 = P0 ob)
    (hc : VarI B ob l (lpR T) G (setC W)) :
    Wp ((E orc).rd l [.int .i64 (i : Int)] G) fun q => q.1 = .bool true ∧ VarI B ob l (lpR T) q.2 (setC (woW W i)) := by
  refine Wp.ref (d14_0 (exL_ok Q orc) l T _ G hc.lp hT) ?_
  have c0 := hc.lp' (Lp.setSt (lpR T) .busy)
  have v1 := c0.var
  simp only [obj_putLoop] at v1
  obtain ⟨G1, e1, x1⟩ := wo_ok orc hW hi (G.putLoop l (Lp.setSt (lpR T) .busy))
  have c1 := c0.ext x1
  have hw := hW.wo i
  have c2 := c1.put (setC (woW W i))
  have hrd : (roundEnd l .normal (G1.put ob ⟨setC (woW W i), 1, false, 1⟩)) = some (.bool true, (G1.put ob ⟨setC (woW W i), 1, false, 1⟩).putLoop l (lpR T)) := by
    rw [roundEnd_some l .normal _ (j := none) rfl (r := Lp.setSt (lpR T) .busy) c2.lp]
    rfl
  simp [r14_0, t5, hc.lp, v1, setC_len hW, setC_take hW, e1, c1.var, setC_sto hw (setC_len hW), hrd]
  exact c2.lp' (lpR T)
theorem foldwo_ok : ∀ (L : List Nat) {W : List Nat}, OkW W → OkW (L.foldl woW W)
  | [], _, h => h
  | x :: L, _, h => foldwo_ok L (h.wo x)
theorem has_foldwo : ∀ (L : List Nat) {W : List Nat}, OkW W → (∀ x ∈ L, x < 1024) → ∀ (j : Nat), has (L.foldl woW W) j = (has W j && decide (j ∉ L))
  | [], W, h, _, j => by simp
  | x :: L, W, h, hL, j => by
    rw [List.foldl_cons, has_foldwo L (h.wo x) (fun y hy => hL y (by simp [hy])), has_wo h (hL x (by simp)), Bool.and_assoc]
    congr 1
    rw [Bool.eq_iff_iff]; simp
def restN (l : List Int) (n : Int) : List Nat := (List.range (lowN n)).filter fun j : Nat => decide ((j : Int) ∉ l)
theorem lowN_le (n : Int) : lowN n ≤ 1024 := by unfold lowN; omega
theorem rest_els (l : List Int) (n : Int) : els ((els (ofW l)).foldl woW (firstW (lowN n))) = restN l n := by
  refine asc_ext (els_asc _) (asc_range _ _) fun j => ?_
  have hL : ∀ x ∈ els (ofW l), x < 1024 := fun x hx => (mem_els.1 hx).1
  rw [mem_els, has_foldwo _ (firstW_ok _) hL, has_first (lowN_le n)]
  unfold restN
  have := lowN_le n
  simp only [List.mem_filter, List.mem_range, Bool.and_eq_true, decide_eq_true_eq]
  constructor
  · rintro ⟨h1, h2, h3⟩
    refine ⟨h2, fun h4 => h3 (mem_els.2 ⟨h1, ?_⟩)⟩
    rw [has_of l h1]; simpa using h4
  · rintro ⟨h1, h2⟩
    refine ⟨by omega, h1, fun h3 => h2 ?_⟩
    have := (mem_els.1 h3).2
    rw [has_of l (by omega)] at this
    simpa using this
theorem rest_ok (orc : FuncId → Bool) (hA : SlR (rowsI .i64) G v0 A) (hlen : A.length < 2 ^ 47) (n : Int) (hG : Tab G) : ∃ v G', (E orc).cl 14 [v0, .int .i64 n] G = some (v, G') ∧ Ext G G' ∧ OwR (rowsI .i64) G.nx G' v ((restN A n).map fun n : Nat => (n : Int)) := by
  have w : Wp ((E orc).cl 14 [v0, .int .i64 n] G) fun q => Ext G q.2 ∧ OwR (rowsI .i64) G.nx q.2 q.1 ((restN A n).map fun n : Nat => (n : Int)) := by
    refine Wp.ref (f14 (exL_ok Q orc) _ _ G) ?_
    obtain ⟨G1, e1, x1⟩ := first_ok orc n G
    have hF := firstW_ok (lowN n)
    obtain ⟨G2, hG2⟩ : ∃ G2, G2 = (G1.push ⟨z57, 1, false, 1⟩).put G1.nx ⟨setC (firstW (lowN n)), 1, false, 1⟩ := ⟨_, rfl⟩
    have x2 : Ext G1 G2 := by rw [hG2]; exact ((Ext.refl G1).push _).put (Nat.le_refl _) _
    have o2 : G2.obj G1.nx = some ⟨setC (firstW (lowN n)), 1, false, 1⟩ := by rw [hG2]; simp
    have n2 : G2.nx = G1.nx + 1 := by rw [hG2]; rfl
    have y2 := x1.trans x2
    obtain ⟨G3, e3, x3⟩ := of_ok orc (hA.ext y2) hlen
    have hO := ofW_ok A
    have o3 := (x3.obj _ (by omega)).trans o2
    have n3 := x3.nx
    simp [s14, e1, setC_sto hF (cs := z57) rfl, ← hG2, e3, setAll_ok]
    generalize hTT : lst 18 (tu (nth undef _) _) = T
    have hT : T.length = 18 := by rw [← hTT]; exact length_lst 18 _
    have t5 : nth undef T 5 = P0 G1.nx := by rw [← hTT, nth_lst]; simp [clip_t]
    clear hTT
    have q3 : (G3.push ⟨setC (ofW A), 1, false, 1⟩).obj G1.nx = some ⟨setC (firstW (lowN n)), 1, false, 1⟩ := by
      have : ¬ G1.nx = G3.nx := by omega
      simp [this, o3]
    have y3 := y2.trans (x3.trans ((Ext.refl G3).push ⟨setC (ofW A), 1, false, 1⟩))
    have n4 := x1.nx
    obtain ⟨G4, hG4⟩ : ∃ G4, G4 = G3.push ⟨setC (ofW A), 1, false, 1⟩ := ⟨_, rfl⟩
    have q4 : G4.obj G3.nx = some ⟨setC (ofW A), 1, false, 1⟩ := by rw [hG4]; simp
    have n5 : G4.nx = G3.nx + 1 := by rw [hG4]; rfl
    rw [← hG4] at q3 y3
    rw [show G3.nl = G4.nl by rw [hG4]; rfl, ← hG4]
    have c0 := VarI.begin q3 (by omega) (lpR T)
    have xB : Ext G4 (G4.pushLoop (lpR T)) := (Ext.refl G4).pushLoop _
    have hTb : Tab (G4.pushLoop (lpR T)) := hG.ext (y3.trans xB)
    have h0 : G1.nx ≠ 0 := by have := hG.nx; omega
    have hrd : RdOk orc (ofW A) G4.nl (fun L G' => VarI (G4.pushLoop (lpR T)) G1.nx G4.nl (lpR T) G' (setC (L.foldl woW (firstW (lowN n))))) (fun _ => False) := by
      intro L i R G' hE hc
      have hi : i < 1024 := (mem_els.1 (show i ∈ els (ofW A) by rw [← hE]; simp)).1
      refine (rrd_ok orc hi (foldwo_ok L hF) hT t5 hc).mono ?_
      rintro q ⟨h1, h2⟩
      exact .inl ⟨h1, by simpa using h2⟩
    obtain ⟨⟨q, G5⟩, e5, rfl, c5⟩ := all1_ok orc hO hrd (fun L G' hc => hc.tab hTb h0) (sb := G3.nx) (G := G4.pushLoop (lpR T)) (by simpa using q4) (by simpa using c0)
    simp only [or_false] at c5
    simp only [E] at e5
    have hX := foldwo_ok (els (ofW A)) hF
    have y5 := (c5.from (y3.trans xB) n4 (by have := y3.nl; omega)).putLoop (by have := y3.nl; omega) (Lp.setSt (lpR T) .exhausted) (l := G4.nl)
    obtain ⟨v, G6, e6, x6, w6⟩ := list_ok orc hX (hG.ext y5)
    rw [rest_els] at w6
    simp [e5]
    rw [xRangeEnd_some (r := lpR T) _ _ _ _ c5.lp (by simp) (e := .normal) rfl]
    simp [t5, c5.var, setC_len hX, setC_take hX, e6]
    exact ⟨y5.trans x6, w6.mono y5.nx⟩
  obtain ⟨⟨v, G'⟩, e, e1, e2⟩ := w
  exact ⟨v, G', e, e1, e2⟩
end
end Go.Proofs.YtocbppgkgcoehaaDoor.Lift

set_option linter.unusedVariables false
set_option linter.unusedSimpArgs false
set_option maxRecDepth 20000
namespace Go.Proofs.YtocbppgkgcoehaaDoor.Lift
open Go Go.Proofs.YtocbppgkgcoehaaDoor.Gh Go.Proofs
/-! ### Rest, by the document: marks -/
def mkC (L : List Int) : List Value := (List.range 1024).map fun j : Nat => Value.bool (decide ((j : Int) ∈ L))
theorem mkC_len (L : List Int) : (mkC L).length = 1024 := by simp [mkC]
theorem mkC_get (L : List Int) {j : Nat} (hj : j < 1024) : (mkC L)[j]? = some (.bool (decide ((j : Int) ∈ L))) := by
  unfold mkC
  rw [List.getElem?_map, List.getElem?_range hj]; rfl
theorem mkC_set (L : List Int) {n : Nat} (hn : n < 1024) : (mkC L).set n (.bool true) = mkC (L ++ [(n : Int)]) := by
  apply List.ext_getElem?
  intro j
  by_cases hj : j < 1024
  · rw [mkC_get _ hj]
    by_cases h : n = j
    · subst h
      rw [List.getElem?_set_self (by rw [mkC_len]; exact hn)]; simp
    · rw [List.getElem?_set_ne h, mkC_get _ hj]
      have : ¬ (j : Int) = (n : Int) := by omega
      simp [this]
  · rw [List.getElem?_eq_none (by rw [List.length_set, mkC_len]; omega), List.getElem?_eq_none (by rw [mkC_len]; omega)]
theorem mkC_out (L : List Int) {x : Int} (hx : inI x = false) : mkC (L ++ [x]) = mkC L := by
  unfold mkC
  refine List.map_congr_left fun j hj => ?_
  have := List.mem_range.1 hj
  have h : ¬ (j : Int) = x := fun e => by subst e; simp [inI] at hx; omega
  simp [h]
section
variable {B G : GS} {A : List Int} {v0 : Value}
theorem mark_lp (orc : FuncId → Bool) {ib : Nat} (hA : SlR (rowsI .i64) B v0 A) (hlen : A.length < 2 ^ 47) (hib : B.nx ≤ ib) : ∀ (k i : Nat) (τ : Env) (G : GS), i + k = A.length → τ 0 = v0 → τ 5 = .slice (some ⟨ib, 0, none⟩) 1024 1024 → τ 6 = .int .i64 (i : Int) → Ext B G → ib < G.nx → G.obj ib = some ⟨mkC (A.take i), 1, false, 1⟩ →
    Wp ((exL Q orc).lpx 15 0 τ G) fun q => q.1 = .exit 0 ∧ Ext B q.2.2 ∧ ib < q.2.2.nx ∧ q.2.2.obj ib = some ⟨mkC A, 1, false, 1⟩ ∧ q.2.1 1 = τ 1 ∧ q.2.1 5 = .slice (some ⟨ib, 0, none⟩) 1024 1024 := by
  intro k
  induction k with
  | zero =>
    intro i τ G hi t0 t5 t6 x hb ob
    have hi' : i = A.length := by omega
    obtain ⟨a, c, e0⟩ := hA.len
    rw [hi', List.take_length] at ob
    refine Wp.lp (l15_0 (exL_ok Q orc)) ?_
    subst hi'
    simp [b15_0, bb15_0, clip_t, t0, t5, t6, e0]
    exact ⟨x, hb, ob⟩
  | succ k ih =>
    intro i τ G hi t0 t5 t6 x hb ob
    have hlt : i < A.length := by omega
    have hw : IntKind.wrap .i64 ((i : Int) + 1) = ((i + 1 : Nat) : Int) := wrap64 (by omega) (by omega)
    have h1 : (i : Int) < A.length := by omega
    have h2 : (0 : Int) ≤ i := by omega
    obtain ⟨b, o, c, e0, _, q, _⟩ := (hA.ext x).at hlt
    have q0 := q 0 (by decide)
    simp at q0
    have hT : A.take (i + 1) = A.take i ++ [A[i]] := by rw [List.take_add_one, List.getElem?_eq_getElem hlt]; rfl
    generalize A[i] = y at *
    refine Wp.lp (l15_0 (exL_ok Q orc)) ?_
    cases hy : inI y with
    | true =>
      obtain ⟨n, rfl⟩ : ∃ n : Nat, y = n := ⟨y.toNat, by simp [inI] at hy; omega⟩
      have hn : n < 1024 := by simp [inI] at hy; omega
      have hn' : (n : Int) < 1024 := by omega
      simp [-Int.natCast_add, b15_0, bb15_0, jl15_0_0, jbl15_0_0, clip_t, t0, t5, t6, e0, h1, h2, hlt, q0, index_ok, hy, hn, hn', ob, stO_one _ _ (show one (.bool true) = true from rfl), mkC_len, mkC_set _ hn, hw]
      refine Wp.mono (ih (i + 1) _ (G.put ib ⟨mkC (A.take i ++ [(n : Int)]), 1, false, 1⟩) (by omega) ?_ ?_ ?_ (x.put hib _) (by simpa using hb) (by rw [hT, obj_put, if_pos rfl])) fun q hq => ?_
      · simp [clip_t, e0]
      · simp [clip_t]
      · simp [clip_t]
      · simpa [clip_t] using hq
    | false =>
      have ob' : G.obj ib = some ⟨mkC (A.take (i + 1)), 1, false, 1⟩ := by rw [hT, mkC_out _ hy]; exact ob
      simp [-Int.natCast_add, b15_0, bb15_0, jl15_0_0, jbl15_0_0, clip_t, t0, t5, t6, e0, h1, h2, hlt, q0, index_ok, hy, hw]
      refine Wp.mono (ih (i + 1) _ G (by omega) ?_ ?_ ?_ x hb ob') fun q hq => ?_
      · simp [clip_t, e0]
      · simp [clip_t]
      · simp [clip_t]
      · simpa [clip_t] using hq
def restI (A : List Int) (i : Nat) : List Int := ((List.range i).filter fun j : Nat => decide ((j : Int) ∉ A)).map fun n : Nat => (n : Int)
theorem restI_succ (A : List Int) (i : Nat) : restI A (i + 1) = restI A i ++ (if (i : Int) ∈ A then [] else [(i : Int)]) := by
  unfold restI
  rw [List.range_succ, List.filter_append, List.map_append]
  congr 1
  by_cases h : (i : Int) ∈ A <;> simp [h]
theorem restI_len (A : List Int) (i : Nat) : (restI A i).length ≤ i := by
  unfold restI
  have := List.length_filter_le (fun j : Nat => decide ((j : Int) ∉ A)) (List.range i)
  simpa using this
theorem unm_lp (orc : FuncId → Bool) {ib : Nat} {n : Int} (hib : ib < B.nx) (ob : B.obj ib = some ⟨mkC A, 1, false, 1⟩) : ∀ (k i : Nat) (τ : Env) (G : GS) (v : Value), i + k = lowN n → τ 1 = .int .i64 n → τ 5 = .slice (some ⟨ib, 0, none⟩) 1024 1024 → τ 7 = v → τ 8 = .int .i64 (i : Int) → Ext B G → OwR (rowsI .i64) B.nx G v (restI A i) →
    Wp ((exL Q orc).lpx 15 1 τ G) fun q => q.1 = .exit 2 ∧ Ext B q.2.2 ∧ OwR (rowsI .i64) B.nx q.2.2 (q.2.1 7) (restI A (lowN n)) := by
  have hl := lowN_le n
  intro k
  induction k with
  | zero =>
    intro i τ G v hi t1 t5 t7 t8 x hv
    have hi' : i = lowN n := by omega
    have hd : ¬ ((i : Int) < n ∧ (i : Int) < 1024) := by unfold lowN at hi'; omega
    rw [← hi']
    refine Wp.lp (l15_1 (exL_ok Q orc)) ?_
    by_cases h1 : (i : Int) < n
    · have h2 : ¬ (i : Int) < 1024 := fun h => hd ⟨h1, h⟩
      have h2' : ¬ i < 1024 := by omega
      simp [-Int.natCast_add, b15_1, bb15_1, clip_t, t1, t5, t7, t8, h1, h2, h2']
      exact ⟨x, hv⟩
    · simp [-Int.natCast_add, b15_1, bb15_1, clip_t, t1, t5, t7, t8, h1]
      exact ⟨x, hv⟩
  | succ k ih =>
    intro i τ G v hi t1 t5 t7 t8 x hv
    have h1 : (i : Int) < n := by unfold lowN at hi; omega
    have h2 : (i : Int) < 1024 := by omega
    have h2' : i < 1024 := by omega
    have h0 : (0 : Int) ≤ i := by omega
    have hw : IntKind.wrap .i64 ((i : Int) + 1) = ((i + 1 : Nat) : Int) := wrap64 (by omega) (by omega)
    have ob1 := (x.obj ib hib).trans ob
    have hg := mkC_get A h2'
    have hlen := restI_len A i
    refine Wp.lp (l15_1 (exL_ok Q orc)) ?_
    by_cases hm : (i : Int) ∈ A
    · have hr : restI A (i + 1) = restI A i := by rw [restI_succ, if_pos hm, List.append_nil]
      simp [-Int.natCast_add, b15_1, bb15_1, jl15_1_0, jbl15_1_0, clip_t, t1, t5, t7, t8, h0, h1, h2, h2', ob1, hg, hm, hw]
      refine Wp.mono (ih (i + 1) _ G v (by omega) ?_ ?_ ?_ ?_ x (by rw [hr]; exact hv)) fun q hq => hq
      · simp [clip_t]
      · simp [clip_t]
      · simp [clip_t, t7]
      · simp [clip_t]
    · have hr : restI A (i + 1) = restI A i ++ [(i : Int)] := by rw [restI_succ, if_neg hm]
      have x1 := x.push ⟨(rowsI .i64).row (i : Int), 1, false, 1⟩
      obtain ⟨v', G', e6, x6, w6⟩ := (hv.ext ((Ext.refl G).push ⟨(rowsI .i64).row (i : Int), 1, false, 1⟩)).app (A := B) (ib := 8) (by decide) x1 (SlR.one (rowsI .i64) G (i : Int)) (by simp; omega)
      simp only [rowsI_sz, rowsI_row] at e6
      simp [-Int.natCast_add, b15_1, bb15_1, jl15_1_0, jbl15_1_0, clip_t, t1, t5, t7, t8, h0, h1, h2, h2', ob1, hg, hm, hw, e6]
      refine Wp.mono (ih (i + 1) _ G' v' (by omega) ?_ ?_ ?_ ?_ x6 (by rw [hr]; exact w6)) fun q hq => hq
      · simp [clip_t]
      · simp [clip_t]
      · simp [clip_t]
      · simp [clip_t]
theorem mkC_nil : mkC [] = List.replicate 1024 (.bool false) := by
  apply List.ext_getElem?
  intro j
  by_cases hj : j < 1024
  · rw [mkC_get _ hj, List.getElem?_replicate, if_pos hj]; simp
  · rw [List.getElem?_eq_none (by rw [mkC_len]; omega), List.getElem?_eq_none (by simp; omega)]
theorem rrest_ok (orc : FuncId → Bool) (hA : SlR (rowsI .i64) G v0 A) (hlen : A.length < 2 ^ 47) (n : Int) : ∃ v G', (E orc).cl 15 [v0, .int .i64 n] G = some (v, G') ∧ Ext G G' ∧ OwR (rowsI .i64) G.nx G' v ((restN A n).map fun n : Nat => (n : Int)) := by
  have w : Wp ((E orc).cl 15 [v0, .int .i64 n] G) fun q => Ext G q.2 ∧ OwR (rowsI .i64) G.nx q.2 q.1 ((restN A n).map fun n : Nat => (n : Int)) := by
    refine Wp.ref (f15 (exL_ok Q orc) _ _ G) ?_
    simp [s15]
    refine Wp.bE ((mark_lp orc (B := G) (ib := G.nx) hA hlen (Nat.le_refl _) A.length 0 _ (G.push ⟨mkC [], 1, false, 1⟩) (by omega) (by simp) (by simp) (by simp) ((Ext.refl G).push _) (by simp) (by simp)).mono ?_)
    rintro ⟨e, τ, G1⟩ ⟨rfl, x1, hb, o1, t1, t5⟩
    simp at x1 hb o1 t1 t5
    simp
    refine Wp.bE ((unm_lp orc (B := G1) (ib := G.nx) (n := n) hb o1 (lowN n) 0 _ G1 (.slice none 0 0) (by omega) (by simp [t1]) (by simp [t5]) (by simp) (by simp) (Ext.refl _) (OwR.nil _ _)).mono ?_)
    rintro ⟨e, τ', G2⟩ ⟨rfl, x2, w2⟩
    simp at x2 w2
    simp
    exact ⟨x1.trans x2, w2.mono x1.nx⟩
  obtain ⟨⟨v, G'⟩, e, e1, e2⟩ := w
  exact ⟨v, G', e, e1, e2⟩
end
end Go.Proofs.YtocbppgkgcoehaaDoor.Lift

set_option linter.unusedVariables false
set_option linter.unusedSimpArgs false
set_option maxRecDepth 20000
namespace Go.Proofs.YtocbppgkgcoehaaDoor.Lift
open Go Go.Proofs.YtocbppgkgcoehaaDoor.Gh Go.Proofs
/-! ### All that may be answered -/
def allA (l : List Int) (op : Opn) : List An :=
  if checkI l = 0 then (if op.1 = 7 then l.map (fun x => (0, x, 0)) ++ [(7, 0, 0), (12, 0, 0)] else if op.1 = 8 then [if inI op.2.1 = true then (if op.2.1 ∈ l then (8, 0, 0) else (0, 0, 0)) else (3, 0, 0)] else []) else []
theorem checkI_zero {l : List Int} : checkI l = 0 ↔ l.all inI = true ∧ ascB l = true := by
  unfold checkI
  split
  · rename_i h1
    split
    · rename_i h2; simp [h1, h2]
    · rename_i h2; simp [h1, h2]
  · rename_i h1; simp [h1]
theorem asc_pair : ∀ {l : List Int}, ascB l = true → l.Pairwise (· < ·)
  | [], _ => List.Pairwise.nil
  | [a], _ => List.pairwise_singleton _ _
  | a :: b :: r, h => by
    simp only [ascB, Bool.and_eq_true, decide_eq_true_eq] at h
    have ih := asc_pair h.2
    refine List.pairwise_cons.2 ⟨fun x hx => ?_, ih⟩
    rcases List.mem_cons.1 hx with rfl | hx
    · exact h.1
    · have := (List.pairwise_cons.1 ih).1 x hx; omega
theorem pair_asc : ∀ {l : List Int}, l.Pairwise (· < ·) → ascB l = true
  | [], _ => rfl
  | [a], _ => rfl
  | a :: b :: r, h => by
    obtain ⟨h1, h2⟩ := List.pairwise_cons.1 h
    simp only [ascB, Bool.and_eq_true, decide_eq_true_eq]
    exact ⟨h1 b (by simp), pair_asc h2⟩
/-- two rising lists of numbers with the same members -/
theorem asc_extI {A B : List Int} (hA : A.Pairwise (· < ·)) (hB : B.Pairwise (· < ·)) (h : ∀ x, x ∈ A ↔ x ∈ B) : A = B := by
  induction A generalizing B with
  | nil =>
    cases B with
    | nil => rfl
    | cons b B => exact absurd ((h b).2 (by simp)) (by simp)
  | cons a A ih =>
    cases B with
    | nil => exact absurd ((h a).1 (by simp)) (by simp)
    | cons b B =>
      obtain ⟨ha, hA'⟩ := List.pairwise_cons.1 hA
      obtain ⟨hb, hB'⟩ := List.pairwise_cons.1 hB
      have hab : a = b := by
        rcases List.mem_cons.1 ((h a).1 (by simp)) with h1 | h1
        · exact h1
        · rcases List.mem_cons.1 ((h b).2 (by simp)) with h2 | h2
          · exact h2.symm
          · have := ha b h2; have := hb a h1; omega
      subst hab
      rw [ih hA' hB' fun x => ?_]
      constructor
      · intro hx
        rcases List.mem_cons.1 ((h x).1 (by simp [hx])) with h1 | h1
        · have := ha x hx; omega
        · exact h1
      · intro hx
        rcases List.mem_cons.1 ((h x).2 (by simp [hx])) with h1 | h1
        · have := hb x hx; omega
        · exact h1
def elsI (W : List Nat) : List Int := (els W).map fun n : Nat => (n : Int)
theorem elsI_asc (W : List Nat) : (elsI W).Pairwise (· < ·) := by
  unfold elsI
  rw [List.pairwise_map]
  exact (els_asc W).imp fun h => by omega
theorem mem_elsI {W : List Nat} {x : Int} : x ∈ elsI W ↔ inI x = true ∧ has W x.toNat = true := by
  unfold elsI
  simp only [List.mem_map, mem_els, inI, decide_eq_true_eq]
  constructor
  · rintro ⟨n, ⟨h1, h2⟩, rfl⟩
    exact ⟨by omega, by simpa using h2⟩
  · rintro ⟨h1, h2⟩
    exact ⟨x.toNat, ⟨by omega, h2⟩, by omega⟩
theorem mem_of (l : List Int) {x : Int} : x ∈ elsI (ofW l) ↔ inI x = true ∧ x ∈ l := by
  rw [mem_elsI]
  constructor
  · rintro ⟨h1, h2⟩
    have h3 : x.toNat < 1024 ∧ ((x.toNat : Nat) : Int) = x := by simp [inI] at h1; omega
    rw [has_of l h3.1, h3.2] at h2
    exact ⟨h1, by simpa using h2⟩
  · rintro ⟨h1, h2⟩
    have h3 : x.toNat < 1024 ∧ ((x.toNat : Nat) : Int) = x := by simp [inI] at h1; omega
    rw [has_of l h3.1, h3.2]
    exact ⟨h1, by simpa using h2⟩
/-- a pool's set has the pool's list -/
theorem elsI_of {l : List Int} (h : checkI l = 0) : elsI (ofW l) = l := by
  obtain ⟨h1, h2⟩ := checkI_zero.1 h
  refine asc_extI (elsI_asc _) (asc_pair h2) fun x => ?_
  rw [mem_of]
  exact ⟨fun h => h.2, fun hx => ⟨List.all_eq_true.1 h1 x hx, hx⟩⟩
theorem ext_drawn {A G : GS} (h : Ext A G) {n : Nat} (hn : A.nx ≤ n) (o : GObj) : Ext A (((G.at' n).push o).back G) := ((h.modP fun _ => False).drawn hn o).ext
noncomputable abbrev lpQ (T : List Value) : Lp := ⟨.ready, none, T, [33], (subAt [1, 1, 1, 0, 1, 0, 1, 1, 1, 0, 0, 1, 0, 0] (bodyOf Tryd.f12)), (subAt [1, 1, 1, 0, 1, 0, 1, 1, 1, 0, 0, 1, 0, 1] (bodyOf Tryd.f12))⟩
section
variable {B G : GS} {ob l nb : Nat} {T : List Value} {L : List An} {W : List Nat} {A : List Int} {v0 : Value}
theorem qrd_ok (orc : FuncId → Bool) (i : Int) (hT : T.length = 45) (t5 : nth undef T 5 = P0 ob) (hc : Col rAn B ob l (lpQ T) G L) (hL : L.length < 1024) :
    Wp ((E orc).rd l [.int .i64 i] G) fun q => q.1 = .bool true ∧ Col rAn B ob l (lpQ T) q.2 (L ++ [(0, i, 0)]) := by
  refine Wp.ref (d12_0 (exL_ok Q orc) l T _ G hc.lp hT) ?_
  have c0 := hc.lp' (Lp.setSt (lpQ T) .busy)
  obtain ⟨w, w1, w2⟩ := c0.var
  have c1 := c0.ext ((Ext.refl _).push ⟨rAn.row (0, i, 0), 3, false, 1⟩)
  obtain ⟨v1, v2, G4, o1', on1, e3, on2, o2, l2, c4⟩ := c1.app (ib := 24) (by decide) (SlR.one rAn (G.putLoop l (Lp.setSt (lpQ T) .busy)) (0, i, 0)) (by simp) (by simp; omega)
  have hne2 : ob ≠ G.nx := by have := hc.obB; have := hc.nx; omega
  simp only [obj_putLoop] at w1
  have o3 : (((G.putLoop l (Lp.setSt (lpQ T) .busy)).push ⟨rAn.row (0, i, 0), 3, false, 1⟩)).obj ob = G.obj ob := by simp [hne2]
  rw [o3, w1] at o1'
  simp only [Option.some.injEq, GObj.mk.injEq, List.cons.injEq, and_true] at o1'
  subst o1'
  simp only [rAn_sz, rAn_row, nx_putLoop] at e3
  have hrd : (roundEnd l .normal (G4.put ob ⟨[v2], 1, false, 1⟩)) = some (.bool true, (G4.put ob ⟨[v2], 1, false, 1⟩).putLoop l (lpQ T)) := by
    rw [roundEnd_some l .normal _ (j := none) rfl (r := Lp.setSt (lpQ T) .busy) (by simpa using l2)]
    rfl
  simp [r12_0, t5, hc.lp, w1, e3, o2, stO_one _ _ on2, hrd, same_own w2]
  exact c4.lp' (lpQ T)
theorem app_one {A0 : GS} (x : Ext A0 G) (a : An) : ∃ v G', appK 3 24 (.slice none 0 0) (.slice (some ⟨G.nx, 0, none⟩) 1 1) (G.push ⟨[.int .i64 a.1, .int .i64 a.2.1, .int .u64 a.2.2], 3, false, 1⟩) = some (v, G') ∧ Ext A0 G' ∧ OwR rAn A0.nx G' v [a] := by
  obtain ⟨v, G', e, x', w⟩ := (OwR.nil (e := rAn) A0.nx (G.push ⟨rAn.row a, 3, false, 1⟩)).app (A := A0) (ib := 24) (by decide) (x.push _) (SlR.one rAn G a) (by simp)
  exact ⟨v, G', e, x', by simpa using w⟩
theorem all_ok (orc : FuncId → Bool) (hA : SlR (rowsI .i64) G v0 A) (hlen : A.length < 2 ^ 47) (op : Opn) (hG : Tab G) : ∃ v G', (E orc).cl 12 [v0, opV op] G = some (v, G') ∧ Ext G G' ∧ OwR rAn G.nx G' v (allA A op) := by
  have w : Wp ((E orc).cl 12 [v0, opV op] G) fun q => Ext G q.2 ∧ OwR rAn G.nx q.2 q.1 (allA A op) := by
    refine Wp.ref (f12 (exL_ok Q orc) _ _ G) ?_
    obtain ⟨k, a, b, u⟩ := op
    have x0 : Ext G (G.push ⟨[.int .i64 k, .int .i64 a, .int .i64 b, .int .u64 u], 1, false, 1⟩) := (Ext.refl G).push _
    obtain ⟨G1, e1, x1⟩ := check_ok orc (hA.ext x0) hlen
    have y1 := x0.trans x1
    have n1 := x1.nx
    simp at n1
    have o1 : G1.obj G.nx = some ⟨[.int .i64 k, .int .i64 a, .int .i64 b, .int .u64 u], 1, false, 1⟩ := by rw [x1.obj G.nx (by simp)]; simp
    unfold allA
    by_cases hk : checkI A = 0
    · have d1 : ¬ G.nx = G1.nx := by omega
      rw [hk] at e1
      have x2 : Ext G1 (G1.push ⟨z33, 1, false, 1⟩) := (Ext.refl G1).push _
      by_cases h8 : k = 8
      · subst h8
        obtain ⟨G2, e2, x3⟩ := of_ok orc (hA.ext (y1.trans (x2.room 12))) hlen
        have n2 := x3.nx
        simp at n2
        have hO := ofW_ok A
        have o2 : G2.obj G.nx = some ⟨[.int .i64 8, .int .i64 a, .int .i64 b, .int .u64 u], 1, false, 1⟩ := by rw [x3.obj G.nx (by simp; omega)]; simp [d1, o1]
        have o2' : G2.obj G1.nx = some ⟨[.slice none 0 0], 1, false, 1⟩ := by rw [x3.obj G1.nx (by simp; omega)]; simp
        obtain ⟨G3, e3, x4⟩ := free_ok orc hO a G2
        have n3 := x4.nx
        have o3 : G3.obj G1.nx = some ⟨[.slice none 0 0], 1, false, 1⟩ := (x4.obj _ (by omega)).trans o2'
        have hf : (freeI (ofW A) a).1 = (if inI a = true then (if a ∈ A then (8, 0, 0) else (0, 0, 0)) else (3, 0, 0)) := by
          unfold freeI
          by_cases hi : inI a = true
          · rw [if_pos hi, if_pos hi]
            have h3 : a.toNat < 1024 ∧ ((a.toNat : Nat) : Int) = a := by simp [inI] at hi; omega
            rw [has_of A h3.1, h3.2]
            by_cases hm : a ∈ A <;> simp [hm]
          · rw [if_neg hi, if_neg hi]
        have hf2 := freeI_ok hO a
        generalize hfr : freeI (ofW A) a = fr at *
        obtain ⟨fa, fw⟩ := fr
        simp only at hf hf2
        obtain ⟨f0, f1, f2⟩ := fa
        have d2 : ¬ G1.nx = G1.nx + 1 + 8 := by omega
        have d3 : ¬ G1.nx = G1.nx + 1 + 9 := by omega
        simp [s12, e1, d1, d2, d3, o1, e2, o2, o3, e3, hk, setC_len hf2, setC_allT]
        generalize hGD : (GS.put (GS.put (GS.back _ _) _ _) _ _) = GD
        have xD : Ext G GD := by
          rw [← hGD]
          exact Ext.put (Ext.put (ext_drawn (ext_drawn (((y1.trans (x2.room 12)).trans x3).trans x4) (by omega) _) (by omega) _) (by omega) _) (by omega) _
        have nD : GD.nx = G3.nx := by rw [← hGD]; simp
        have oD : GD.obj G1.nx = some ⟨[.slice none 0 0], 1, false, 1⟩ := by rw [← hGD]; simp [d2, d3, o3]
        rw [← nD]
        obtain ⟨v, G4, e5, x5, w5⟩ := app_one (Ext.refl GD) (f0, f1, f2)
        have o5 := (x5.obj G1.nx (by omega)).trans oD
        have on5 := own_one w5
        simp [e5, o5, stO_one _ _ on5]
        rw [← hf]
        refine ⟨(xD.trans x5).put (by omega) _, (w5.mono xD.nx).kept (by simp) fun g hg => ?_⟩
        have := w5.from hg
        have hne : ¬ g = G1.nx := by omega
        simp [hne]
      · have x8 : ¬ (k = 8) := h8
        by_cases h7 : k = 7
        · subst h7
          obtain ⟨G2, e2, x3⟩ := of_ok orc (hA.ext (y1.trans x2)) hlen
          have n2 := x3.nx
          simp at n2
          have hO := ofW_ok A
          have o2' : G2.obj G1.nx = some ⟨[.slice none 0 0], 1, false, 1⟩ := by rw [x3.obj G1.nx (by simp)]; simp
          obtain ⟨G3, hG3⟩ : ∃ G3, G3 = G2.push ⟨setC (ofW A), 1, false, 1⟩ := ⟨_, rfl⟩
          have x4 : Ext G2 G3 := by rw [hG3]; exact (Ext.refl G2).push _
          have o3 : G3.obj G2.nx = some ⟨setC (ofW A), 1, false, 1⟩ := by rw [hG3]; simp
          have o3' := (x4.obj G1.nx (by omega)).trans o2'
          have n3 : G3.nx = G2.nx + 1 := by rw [hG3]; rfl
          simp [s12, e1, d1, o1, e2, hk, setAll_ok]
          rw [← hG3, show G2.nl = G3.nl by rw [hG3]; rfl]
          generalize hTT : lst 45 (tu (nth undef _) _) = T
          have hT : T.length = 45 := by rw [← hTT]; exact length_lst 45 _
          have t5 : nth undef T 5 = P0 G1.nx := by rw [← hTT, nth_lst]; simp [clip_t]
          clear hTT
          have c0 := Col.begin rAn o3' (by omega) (lpQ T)
          have y3 : Ext G G3 := (y1.trans x2).trans (x3.trans x4)
          have xB : Ext G3 (G3.pushLoop (lpQ T)) := (Ext.refl G3).pushLoop _
          have hTb : Tab (G3.pushLoop (lpQ T)) := hG.ext (y3.trans xB)
          have h0 : G1.nx ≠ 0 := by omega
          have hrd : RdOk orc (ofW A) G3.nl (fun L G' => Col rAn (G3.pushLoop (lpQ T)) G1.nx G3.nl (lpQ T) G' (L.map fun n : Nat => ((0, (n : Int), 0) : An))) (fun _ => False) := by
            intro L i R G' hE hc
            have hl := els_len (ofW A)
            rw [← hE] at hl
            simp at hl
            refine (qrd_ok orc (i : Int) hT t5 hc (by simp; omega)).mono ?_
            rintro q ⟨h1, h2⟩
            exact .inl ⟨h1, by simpa using h2⟩
          have htab : ∀ (L : List Nat) (G' : GS), Col rAn (G3.pushLoop (lpQ T)) G1.nx G3.nl (lpQ T) G' (L.map fun n : Nat => ((0, (n : Int), 0) : An)) → Tab G' := fun L G' hc => by
            obtain ⟨o, h1, h2⟩ := hTb.ob
            exact ⟨⟨o, (hc.obj 0 hTb.nx (fun e => h0 e.symm)).trans h1, h2⟩, Nat.lt_of_lt_of_le hTb.nx hc.nx⟩
          obtain ⟨⟨q, G5⟩, e5, rfl, c5⟩ := all1_ok orc hO hrd htab (sb := G2.nx) (G := G3.pushLoop (lpQ T)) (by simpa using o3) (by simpa using c0)
          simp only [or_false] at c5
          simp only [E] at e5
          have hl := els_len (ofW A)
          have c6 := c5.lp' (Lp.setSt (lpQ T) .exhausted)
          obtain ⟨u5, u6, u7⟩ := c6.var
          have x7 : Ext (G5.putLoop G3.nl (Lp.setSt (lpQ T) .exhausted)) ((G5.putLoop G3.nl (Lp.setSt (lpQ T) .exhausted)).push ⟨rAn.flat [(7, 0, 0), (12, 0, 0)], 3, false, 1⟩) := (Ext.refl _).push _
          obtain ⟨v1, v2, G7, p1, p2, p3, p4, p5, p6, c7⟩ := (c6.ext x7).app (ib := 24) (by decide) (SlR.block (e := rAn) (b := (G5.putLoop G3.nl (Lp.setSt (lpQ T) .exhausted)).nx) (L := [(7, 0, 0), (12, 0, 0)]) (op := false) (by simp) (by simp)) (by simp) (by simp; omega)
          have hne : ¬ G1.nx = G5.nx := by have := c5.nx; simp at this; omega
          have e8 : elsI (ofW A) = A := elsI_of hk
          have e9 : (List.map (fun n : Nat => ((0, (n : Int), 0) : An)) (els (ofW A))) = A.map fun x => (0, x, 0) := by
            have : (elsI (ofW A)).map (fun x => ((0, x, 0) : An)) = A.map fun x => (0, x, 0) := by rw [e8]
            rw [← this]; unfold elsI; rw [List.map_map]; rfl
          simp only [obj_putLoop] at u6
          simp [hne, u6] at p1
          subst p1
          have hfl : rAn.flat [(7, 0, 0), (12, 0, 0)] = [.int .i64 7, .int .i64 0, .int .u64 0, .int .i64 12, .int .i64 0, .int .u64 0] := rfl
          rw [hfl] at p3
          simp at p3
          simp [e5]
          rw [xRangeEnd_some (r := lpQ T) _ _ _ _ c5.lp (by simp) (e := .normal) rfl]
          simp [t5, u6, p3, p5, stO_one _ _ p4]
          obtain ⟨u8, u9, u10⟩ := c7.var
          simp at u9
          subst u9
          rw [e9] at u10
          exact ⟨c7.from (y3.trans xB) (by omega) (by have := y3.nl; omega), u10.mono (y3.trans xB).nx⟩
        · simp [s12, e1, d1, o1, hk, h7, h8]
          exact ⟨y1.trans x2, OwR.nil _ _⟩
    · simp [s12, e1, hk]
      exact ⟨y1, OwR.nil _ _⟩
  obtain ⟨⟨v, G'⟩, e, e1, e2⟩ := w
  exact ⟨v, G', e, e1, e2⟩
end
end Go.Proofs.YtocbppgkgcoehaaDoor.Lift

