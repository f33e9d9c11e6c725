/- contracts of the program's functions -/
import Derived.Test.YtedmgpchggogpaaGreatJA
import Derived.Test.YtedmgpchggogpaaGreatJC
set_option linter.unusedVariables false
namespace Go.Proofs.YtedmgpchggogpaaGreat.Lift
open Go Go.Proofs.YtedmgpchggogpaaGreat.Gh Go.Proofs
/-! ### The least of what is left out -/
def leastF (k : Int) (R : List Int) : Int := R.foldl (fun k x => if x < k then x else k) k
def leastI (R : List Int) : Int := leastF 18446744073709551615 R
theorem leastF_ge : ∀ (R : List Int) {k a : Int}, a ≤ k → (∀ b ∈ R, a ≤ b) → a ≤ leastF k R
  | [], k, a, h, _ => h
  | x :: R, k, a, h, hR => by
    refine leastF_ge R ?_ fun b hb => hR b (List.mem_cons_of_mem _ hb)
    show a ≤ if x < k then x else k
    split
    · exact hR x (List.mem_cons_self ..)
    · exact h
theorem should_mem {l : List Int} {k : Nat} {a : Int} (h : a ∈ shouldP l k) : a ∈ l := by
  have h1 : a ∈ l.filter notIdle := (should_perm l k).mem_iff.2 (List.mem_append.2 (.inl h))
  exact (List.mem_filter.1 h1).1
theorem should_least {l : List Int} (hl : ∀ x ∈ l, x < 18446744073709551616) (k : Nat) : ∀ a ∈ shouldP l k, a ≤ leastI (restE (l.filter notIdle) (shouldP l k)) := fun a ha =>
  leastF_ge _ (by have := hl a (should_mem ha); omega) fun b hb => should_below l k ha hb
theorem should_worst {l : List Int} (hl : ∀ x ∈ l, x < 18446744073709551616) (k : Nat) : worst (shouldP l k) (leastI (restE (l.filter notIdle) (shouldP l k))) = none := worst_none (should_least hl k)
theorem rest_len (l : List Int) (k : Nat) : (restE (l.filter notIdle) (shouldP l k)).length = (l.filter notIdle).length - k := by
  rw [(should_left l k).length_eq, List.length_drop, (sortI_perm _).length_eq]
/-- one is left out at its first place -/
theorem erase_at {x : Int} : ∀ {R : List Int} {at_ : Nat}, R[at_]? = some x → (∀ j, j < at_ → R[j]? ≠ some x) → R.take at_ ++ R.drop (at_ + 1) = R.erase x
  | [], at_, h, _ => by simp at h
  | y :: R, 0, h, _ => by
    simp at h
    subst h
    simp
  | y :: R, at_ + 1, h, hn => by
    have h0 : y ≠ x := fun k => hn 0 (by omega) (by simp [k])
    have ih := erase_at (R := R) (at_ := at_) (by simpa using h) fun j hj k => hn (j + 1) (by omega) (by simpa using k)
    rw [List.take_succ_cons, List.drop_succ_cons, List.cons_append, ih, List.erase_cons_tail (by simpa using h0)]
end Go.Proofs.YtedmgpchggogpaaGreat.Lift

set_option linter.unusedVariables false
set_option linter.unusedSimpArgs false
set_option maxRecDepth 20000
namespace Go.Proofs.YtedmgpchggogpaaGreat.Lift
open Go Go.Proofs.YtedmgpchggogpaaGreat.Gh Go.Proofs
/-! ### RunShould: the least, the rest -/
theorem leastF_snoc (k x : Int) (R : List Int) : leastF k (R ++ [x]) = if x < leastF k R then x else leastF k R := by
  unfold leastF; rw [List.foldl_append]; rfl
theorem least_lp (orc : FuncId → Bool) {R : List Int} {v : Value} : ∀ (k i : Nat) (τ : Env) (G : GS), i + k = R.length → τ 0 = v → τ 3 = .int .u64 (leastI (R.take i)) → τ 4 = .int .i64 i →
    SlR (rowsI .u64) G v R → R.length < 2 ^ 40 → Wp ((exL Q orc).lpx 17 0 τ G) fun r => r.1 = .exit 0 ∧ r.2.2 = G ∧ r.2.1 3 = .int .u64 (leastI R) := by
  intro k
  induction k with
  | zero =>
    intro i τ G hi h0 h3 h4 hv hlt
    have hi' : i = R.length := by omega
    subst hi'
    rw [List.take_length] at h3
    obtain ⟨a, c, rfl⟩ := hv.len
    refine Wp.lp (l17_0 (exL_ok Q orc)) ?_
    simp [b17_0, clip_t, h0, h3, h4]
  | succ k ih =>
    intro i τ G hi h0 h3 h4 hv hlt
    refine Wp.lp (l17_0 (exL_ok Q orc)) ?_
    have hiL : i < R.length := by omega
    obtain ⟨b, o, c, e0, _, q0, _⟩ := hv.at hiL
    have hc := q0 0 (by decide)
    simp [rowsI] at hc
    have hw : IntKind.wrap .i64 ((i : Int) + 1) = ((i + 1 : Nat) : Int) := wrap64 (by omega) (by omega)
    have hi0 : (0 : Int) ≤ i := by omega
    have hta : R.take (i + 1) = R.take i ++ [R[i]] := by rw [List.take_add_one, List.getElem?_eq_getElem hiL]; rfl
    have hs : leastI (R.take (i + 1)) = if R[i] < leastI (R.take i) then R[i] else leastI (R.take i) := by
      unfold leastI; rw [hta, leastF_snoc]
    simp [-Int.natCast_add, b17_0, clip_t, h0, h3, h4, e0, hc, hw, hiL, hi0]
    exact ih (i + 1) _ G (by omega) (by simp [clip_t, e0]) (by simp [clip_t, hs]) (by simp [clip_t]) hv hlt
theorem least_ok (orc : FuncId → Bool) {R : List Int} {v : Value} {G : GS} (hv : SlR (rowsI .u64) G v R) (hlt : R.length < 2 ^ 40) : (E orc).cl 17 [v] G = some (.int .u64 (leastI R), G) := by
  have w : Wp (s17 true (exL Q orc) v G) fun r => r = (.int .u64 (leastI R), G) := by
    simp [s17]
    refine Wp.bE ((least_lp orc R.length 0 _ G (by omega) (by simp [clip_t]) (by simp [clip_t, leastI, leastF]) (by simp [clip_t]) hv hlt).mono ?_)
    rintro ⟨e, τ, G1⟩ ⟨rfl, rfl, t3⟩
    simp only at t3
    simp [t3]
  obtain ⟨r, e1, rfl⟩ := w
  exact f17 (exL_ok Q orc) _ G _ e1
theorem first_at {x : Int} : ∀ {R : List Int}, x ∈ R → ∃ p, p < R.length ∧ R[p]? = some x ∧ ∀ j, j < p → R[j]? ≠ some x
  | y :: R, h => by
    by_cases hy : y = x
    · exact ⟨0, by simp, by simp [hy], fun j hj => by omega⟩
    · obtain ⟨p, h1, h2, h3⟩ := first_at (R := R) ((List.mem_cons.1 h).resolve_left (fun k => hy k.symm))
      refine ⟨p + 1, by simp; omega, by simpa using h2, fun j hj => ?_⟩
      cases j with
      | zero => simpa using hy
      | succ j => simpa using h3 j (by omega)
theorem rest_lp (orc : FuncId → Bool) {A : GS} {L : List Int} {v : Value} : ∀ (k i : Nat) (τ : Env) (G : GS) (w : Value), i + k = L.length → τ 0 = v → τ 8 = .int .i64 i → τ 7 = w → Ext A G → OwR (rowsI .u64) A.nx G w ((L.take i).filter notIdle) →
    SlR (rowsI .u64) A v L → L.length < 2 ^ 30 → Wp ((exL Q orc).lpx 4 0 τ G) fun r => r.1 = .exit 0 ∧ Ext A r.2.2 ∧ r.2.1 1 = τ 1 ∧ r.2.1 4 = τ 4 ∧ r.2.1 5 = τ 5 ∧ r.2.1 6 = τ 6 ∧ OwR (rowsI .u64) A.nx r.2.2 (r.2.1 7) (L.filter notIdle) := by
  intro k
  induction k with
  | zero =>
    intro i τ G w hi h0 h8 h7 hx hw hv hlt
    have hi' : i = L.length := by omega
    obtain ⟨a, c, rfl⟩ := hv.len
    refine Wp.lp (l4_0 (exL_ok Q orc)) ?_
    rw [hi', List.take_length] at hw
    simp [b4_0, bb4_0, clip_t, h0, h8, h7, hi']
    exact ⟨hx, hw⟩
  | succ k ih =>
    intro i τ G w hi h0 h8 h7 hx hw hv hlt
    refine Wp.lp (l4_0 (exL_ok Q orc)) ?_
    have hiL : i < L.length := by omega
    obtain ⟨b, o, c, e0, _, q0, _⟩ := (hv.ext hx).at hiL
    have hc := q0 0 (by decide)
    simp [rowsI] at hc
    have hww : IntKind.wrap .i64 ((i : Int) + 1) = ((i + 1 : Nat) : Int) := wrap64 (by omega) (by omega)
    have hi0 : (0 : Int) ≤ i := by omega
    have hta : L.take (i + 1) = L.take i ++ [L[i]] := by rw [List.take_add_one, List.getElem?_eq_getElem hiL]; rfl
    have hfl : ((L.take i).filter notIdle).length ≤ i := by have := List.length_filter_le notIdle (L.take i); simp at this ⊢; omega
    by_cases hn : L[i] = 18446744073709551615
    · have hf : (L.take (i + 1)).filter notIdle = (L.take i).filter notIdle := by rw [hta, List.filter_append, List.filter_cons_of_neg (by simp [notIdle, hn])]; simp
      simp [-Int.natCast_add, b4_0, bb4_0, jl4_0_0, jbl4_0_0, clip_t, h0, h8, h7, e0, hc, hww, hiL, hi0, hn]
      refine (ih (i + 1) _ G w (by omega) (by simp [clip_t, e0]) (by simp [clip_t]) (by simp [clip_t]) hx (by rw [hf]; exact hw) hv hlt).mono ?_
      rintro r ⟨r1, r2, r3, r4, r5, r6, r7⟩
      exact ⟨r1, r2, by rw [r3]; simp [clip_t], by rw [r4]; simp [clip_t], by rw [r5]; simp [clip_t], by rw [r6]; simp [clip_t], r7⟩
    · have hf : (L.take (i + 1)).filter notIdle = (L.take i).filter notIdle ++ [L[i]] := by rw [hta, List.filter_append, List.filter_cons_of_pos (by simp [notIdle, hn])]; rfl
      obtain ⟨v', G', a1, a2, a3⟩ := OwR.app (A := A) (ib := 8) (x := .slice (some ⟨G.nx, 0, none⟩) 1 1) (OwR.ext hw ((Ext.refl G).push ⟨(rowsI .u64).row L[i], 1, false, 1⟩)) (by decide) (hx.push _) (SlR.one (rowsI .u64) G L[i]) (by simp; omega)
      rw [rowsJ_sz, rowsJ_row] at a1
      simp [-Int.natCast_add, b4_0, bb4_0, jl4_0_0, jbl4_0_0, clip_t, h0, h8, h7, e0, hc, hww, hiL, hi0, hn, a1]
      refine (ih (i + 1) _ G' v' (by omega) (by simp [clip_t, e0]) (by simp [clip_t]) (by simp [clip_t]) a2 (by rw [hf]; exact a3) hv hlt).mono ?_
      rintro r ⟨r1, r2, r3, r4, r5, r6, r7⟩
      exact ⟨r1, r2, by rw [r3]; simp [clip_t], by rw [r4]; simp [clip_t], by rw [r5]; simp [clip_t], by rw [r6]; simp [clip_t], r7⟩
/-- the first place of one that is there -/
theorem seek_lp (orc : FuncId → Bool) {R S : List Int} {v w : Value} {i p : Nat} (hi : i < S.length) (hp : p < R.length) (he : R[p]? = some S[i]) (hne : ∀ j, j < p → R[j]? ≠ some S[i]) (hR : R.length < 2 ^ 30) (hS : S.length < 2 ^ 30) : ∀ (k n : Nat) (τ : Env) (G : GS), n + k = p → τ 7 = v → τ 6 = w → τ 9 = .int .i64 i → τ 10 = .int .i64 n →
    SlR (rowsI .u64) G v R → SlR (rowsI .u64) G w S → Wp ((exL Q orc).lpx 4 2 τ G) fun r => r.1 = .exit 4 ∧ Ext G r.2.2 ∧ r.2.1 1 = τ 1 ∧ r.2.1 4 = τ 4 ∧ r.2.1 5 = τ 5 ∧ r.2.1 6 = w ∧ r.2.1 7 = v ∧ r.2.1 9 = .int .i64 i ∧ r.2.1 10 = .int .i64 p := by
  intro k
  induction k with
  | zero =>
    intro n τ G hn h7 h6 h9 h10 hv hw
    have hn' : n = p := by omega
    subst hn'
    refine Wp.lp (l4_2 (exL_ok Q orc)) ?_
    have x : Ext G (G.room 15) := (Ext.refl G).room 15
    obtain ⟨b, o, c, e0, _, q0, _⟩ := (hv.ext x).at hp
    have hc := q0 0 (by decide)
    obtain ⟨b', o', c', e0', _, q0', _⟩ := (hw.ext x).at hi
    have hc' := q0' 0 (by decide)
    simp [rowsI] at hc hc'
    have e : R[n] = S[i] := by rw [List.getElem?_eq_getElem hp] at he; exact Option.some.inj he
    have hi0 : (0 : Int) ≤ i := by omega
    have hn0 : (0 : Int) ≤ n := by omega
    simp [-Int.natCast_add, b4_2, clip_t, h7, h6, h9, h10, e0, e0', hc, hc', hi0, hn0, hi, hp, e, x]
  | succ k ih =>
    intro n τ G hn h7 h6 h9 h10 hv hw
    have hnp : n < R.length := by omega
    refine Wp.lp (l4_2 (exL_ok Q orc)) ?_
    have x : Ext G (G.room 15) := (Ext.refl G).room 15
    obtain ⟨b, o, c, e0, _, q0, _⟩ := (hv.ext x).at hnp
    have hc := q0 0 (by decide)
    obtain ⟨b', o', c', e0', _, q0', _⟩ := (hw.ext x).at hi
    have hc' := q0' 0 (by decide)
    simp [rowsI] at hc hc'
    have e : ¬ R[n] = S[i] := fun k => hne n (by omega) (by rw [List.getElem?_eq_getElem hnp, k])
    have hi0 : (0 : Int) ≤ i := by omega
    have hn0 : (0 : Int) ≤ n := by omega
    have hww : IntKind.wrap .i64 ((n : Int) + 1) = ((n + 1 : Nat) : Int) := wrap64 (by omega) (by omega)
    simp [-Int.natCast_add, b4_2, clip_t, h7, h6, h9, h10, e0, e0', hc, hc', hi0, hn0, hi, hnp, e, hww]
    refine (ih (n + 1) _ (G.room 15) (by omega) (by simp [clip_t, e0]) (by simp [clip_t, e0']) (by simp [clip_t]) (by simp [clip_t]) (hv.ext x) (hw.ext x)).mono ?_
    rintro r ⟨r1, r2, r3, r4, r5, r6, r7, r8, r9⟩
    exact ⟨r1, x.trans r2, by rw [r3]; simp [clip_t], by rw [r4]; simp [clip_t], by rw [r5]; simp [clip_t], by rw [r6, e0'], by rw [r7, e0], r8, r9⟩
end Go.Proofs.YtedmgpchggogpaaGreat.Lift

set_option linter.unusedVariables false
set_option linter.unusedSimpArgs false
set_option maxRecDepth 20000
namespace Go.Proofs.YtedmgpchggogpaaGreat.Lift
open Go Go.Proofs.YtedmgpchggogpaaGreat.Gh Go.Proofs
theorem slK_ext {G G' : GS} {s : Nat} {v : Value} {lo hi mx : Option Value} (hl : SlLt G.nx v) (x : Ext G G') : slK s v lo hi mx G' = slK s v lo hi mx G := by
  unfold slK
  split
  · rfl
  · rename_i a n c
    rw [x.obj _ (hl a n c rfl)]
  · rfl
theorem same_slice {G : GS} {v : Value} {L : List Int} (h : SlR (rowsI .u64) G v L) : sameO (some v) v = true := by
  obtain ⟨a, c, rfl⟩ := h.len
  simp [sameO, same, sameD]
/-- one word after the other is taken out -/
theorem pull_lp (orc : FuncId → Bool) {A : GS} {R S : List Int} {w : Value} (hw : SlR (rowsI .u64) A w S) (hS : S.length < 2 ^ 20) (hR : R.length < 2 ^ 20)
    (hst : ∀ i, 0 < i → ∀ h : i < S.length, S[i - 1] ≤ S[i]) (hth : ∀ i, ∀ h : i < S.length, S[i] ∈ restE R (S.take i)) (hln : ∀ i, (restE R (S.take i)).length ≤ R.length) :
    ∀ (k i : Nat) (τ : Env) (G : GS) (u : Value), i + k = S.length → τ 6 = w → τ 7 = u → τ 9 = .int .i64 i → Ext A G → OwR (rowsI .u64) A.nx G u (restE R (S.take i)) →
    Wp ((exL Q orc).lpx 4 1 τ G) fun r => r.1 = .exit 2 ∧ Ext A r.2.2 ∧ r.2.1 1 = τ 1 ∧ r.2.1 4 = τ 4 ∧ r.2.1 5 = τ 5 ∧ r.2.1 6 = w ∧ OwR (rowsI .u64) A.nx r.2.2 (r.2.1 7) (restE R S) := by
  intro k
  induction k with
  | zero =>
    intro i τ G u hi h6 h7 h9 hx hu
    have hi' : i = S.length := by omega
    subst hi'
    rw [List.take_length] at hu
    obtain ⟨a, c, rfl⟩ := hw.len
    refine Wp.lp (l4_1 (exL_ok Q orc)) ?_
    simp [b4_1, clip_t, h6, h7, h9]
    exact ⟨hx, hu⟩
  | succ k ih =>
    intro i τ G u hi h6 h7 h9 hx hu
    have hiS : i < S.length := by omega
    have hi0 : (0 : Int) ≤ i := by omega
    have hww : IntKind.wrap .i64 ((i : Int) + 1) = ((i + 1 : Nat) : Int) := wrap64 (by omega) (by omega)
    obtain ⟨aw, cw, hwe⟩ := hw.len
    have lw : ∀ t, ln Q true t w = some (.int .i64 S.length) := fun t => by rw [hwe]; simp
    have hl := hln i
    have hlr := hth i hiS
    have hsu := restE_succ R S i hiS
    obtain ⟨p, hp, hpe, hpn⟩ := first_at hlr
    have hers := erase_at hpe hpn
    generalize restE R (S.take i) = Ri at *
    have lu : ∀ t, ln Q true t u = some (.int .i64 Ri.length) := fun t => by obtain ⟨a, c, ha⟩ := hu.is.len; rw [ha]; simp
    have x1 : Ext G (G.room 14) := (Ext.refl G).room 14
    have y1 := hx.trans x1
    refine Wp.lp (l4_1 (exL_ok Q orc)) ?_
    -- behind the first look
    have rest : ∀ τ1 : Env, τ1 1 = τ 1 → τ1 4 = τ 4 → τ1 5 = τ 5 → τ1 6 = w → τ1 7 = u → τ1 9 = .int .i64 i → τ1 10 = .int .i64 0 → Wp ((exL Q orc).lpx 4 2 τ1 (G.room 14)) fun r => r.1 = .exit 4 ∧ Ext (G.room 14) r.2.2 ∧ r.2.1 1 = τ 1 ∧ r.2.1 4 = τ 4 ∧ r.2.1 5 = τ 5 ∧ r.2.1 6 = w ∧ r.2.1 7 = u ∧ r.2.1 9 = .int .i64 i ∧ r.2.1 10 = .int .i64 p := by
      intro τ1 t1 t4 t5 t6 t7 t9 t10
      refine (seek_lp orc hiS hp hpe hpn (by omega) (by omega) p 0 τ1 (G.room 14) (by omega) t7 t6 t9 t10 (hu.is.ext x1) (hw.ext y1)).mono ?_
      rintro r ⟨r1, r2, r3, r4, r5, r6, r7, r8, r9⟩
      exact ⟨r1, r2, r3.trans t1, r4.trans t4, r5.trans t5, r6, r7, r8, r9⟩
    have tail : ∀ (q : Exit × Env × GS), (q.1 = .exit 4 ∧ Ext (G.room 14) q.2.2 ∧ q.2.1 1 = τ 1 ∧ q.2.1 4 = τ 4 ∧ q.2.1 5 = τ 5 ∧ q.2.1 6 = w ∧ q.2.1 7 = u ∧ q.2.1 9 = .int .i64 i ∧ q.2.1 10 = .int .i64 p) →
        ∃ v19 v21 v23 v25 G20 G24, sl Q true 22 1 u none (some (.int .i64 p)) none (q.2.2.room 10) = some v19 ∧ (E orc).cl 8 [v19] (q.2.2.room 10) = some (v21, G20) ∧ sl Q true 22 1 u (some (.int .i64 ((p + 1 : Nat) : Int))) none none G20 = some v23 ∧ sl Q true 22 1 u (some (.int .i64 ((p + 1 : Nat) : Int))) none none (q.2.2.room 10) = some v23 ∧
          appK 1 8 v21 v23 G20 = some (v25, G24) ∧ sameO (some v23) v23 = true ∧ Ext A G24 ∧ OwR (rowsI .u64) A.nx G24 v25 (restE R (S.take (i + 1))) := by
      rintro ⟨e, τ2, G2⟩ ⟨-, x2, -⟩
      simp only at x2 ⊢
      have y2 : Ext G (G2.room 10) := (x1.trans x2).room 10
      have z2 := hx.trans y2
      have u2 := OwR.ext hu y2
      obtain ⟨⟨v19, a1, a2⟩, _⟩ := u2.is.take (k := .i64) (o := p) (by omega)
      obtain ⟨v21, G20, a3, x20, o21⟩ := copyw_ok orc a2 (by rw [List.length_take]; omega)
      have u3 := OwR.ext u2 x20
      obtain ⟨v23, b1, b2⟩ := u3.is.drop (k := .i64) (o := p + 1) (by omega)
      have b1' := b1
      rw [slK_ext u2.is.lt x20] at b1'
      obtain ⟨v25, G24, c1, c2, c3⟩ := OwR.app (A := A) (ib := 8) (OwR.mono o21 z2.nx) (by decide) (z2.trans x20) b2 (by rw [List.length_take, List.length_drop]; omega)
      rw [hers, ← hsu] at c3
      obtain ⟨au, cu, hue⟩ := hu.is.len
      refine ⟨v19, v21, v23, v25, G20, G24, ?_, a3, ?_, ?_, ?_, same_slice b2, c2, c3⟩
      · rw [hue] at a1 ⊢; exact a1
      · rw [hue] at b1 ⊢; exact b1
      · rw [hue] at b1' ⊢; exact b1'
      · exact c1
    have hwp : IntKind.wrap .i64 ((p : Int) + 1) = ((p + 1 : Nat) : Int) := wrap64 (by omega) (by omega)
    have hpl : ¬ (p : Int) = Ri.length := by omega
    have hw1 : IntKind.wrap .i64 1 = 1 := wrap64 (by omega) (by omega)
    by_cases h0 : i = 0
    · subst h0
      have hk0 : (0 : Int) < S.length := by omega
      simp [-Int.natCast_add, b4_1, clip_t, h6, h7, h9, lw, hiS, hk0]
      refine Wp.bE ((rest _ (by simp [clip_t]) (by simp [clip_t]) (by simp [clip_t]) (by simp [clip_t]; exact h6) (by simp [clip_t]; exact h7) (by simp [clip_t]; simpa using h9) (by simp [clip_t])).mono ?_)
      intro q hq
      obtain ⟨v19, v21, v23, v25, G20, G24, a1, a2, a3, a4, a5, a8, a6, a7⟩ := tail q hq
      obtain ⟨e, τ2, G2⟩ := q
      obtain ⟨rfl, x2, t1, t4, t5, t6, t7, t9, t10⟩ := hq
      simp only at x2 t1 t4 t5 t6 t7 t9 t10 a1 a2 a4
      simp [-Int.natCast_add, t6, t7, t9, t10, lu, hpl, a1, a2, hwp, a3, a4, a8, a5, hw1]
      refine (ih 1 _ G24 v25 (by omega) (by simp [clip_t]) (by simp [clip_t]) (by simp [clip_t]) a6 a7).mono ?_
      rintro r ⟨r1, r2, r3, r4, r5, r6, r7⟩
      exact ⟨r1, r2, by rw [r3]; simp [clip_t, t1], by rw [r4]; simp [clip_t, t4], by rw [r5]; simp [clip_t, t5], r6, r7⟩
    · have hi1 : i - 1 < S.length := by omega
      have hk0 : 0 < i := by omega
      obtain ⟨b, o, c, e0, _, q0, _⟩ := (hw.ext y1).at hiS
      have hc := q0 0 (by decide)
      obtain ⟨b', o', c', e0', _, q1, _⟩ := (hw.ext y1).at hi1
      rw [e0] at e0'
      simp only [Value.slice.injEq, Option.some.injEq, Addr.mk.injEq, and_true, true_and] at e0'
      obtain ⟨⟨rfl, rfl⟩, rfl⟩ := e0'
      have hc' := q1 0 (by decide)
      simp [rowsI] at hc hc'
      have hws : IntKind.wrap .i64 ((i : Int) - 1) = ((i - 1 : Nat) : Int) := by rw [wrap64 (by omega) (by omega)]; omega
      have hj0 : (0 : Int) ≤ ((i - 1 : Nat) : Int) := by omega
      have hs1 := hst i (by omega) hiS
      have hs2 : ¬ S[i] < S[i - 1] := by omega
      simp [-Int.natCast_add, b4_1, clip_t, h6, h7, h9, e0, hiS, hk0, hi0, hc, hws, hc', hj0, hi1, hs2]
      refine Wp.bE ((rest _ (by simp [clip_t]) (by simp [clip_t]) (by simp [clip_t]) (by simp [clip_t]; rw [h6, e0]) (by simp [clip_t]; exact h7) (by simp [clip_t]; exact h9) (by simp [clip_t])).mono ?_)
      intro q hq
      obtain ⟨v19, v21, v23, v25, G20, G24, a1, a2, a3, a4, a5, a8, a6, a7⟩ := tail q hq
      obtain ⟨e, τ2, G2⟩ := q
      obtain ⟨rfl, x2, t1, t4, t5, t6, t7, t9, t10⟩ := hq
      simp only at x2 t1 t4 t5 t6 t7 t9 t10 a1 a2 a4
      simp [-Int.natCast_add, t6, t7, t9, t10, lu, hpl, a1, a2, hwp, a3, a4, a8, a5, hww]
      refine (ih (i + 1) _ G24 v25 (by omega) (by simp [clip_t]) (by simp [clip_t]) (by simp [clip_t]) a6 a7).mono ?_
      rintro r ⟨r1, r2, r3, r4, r5, r6, r7⟩
      exact ⟨r1, r2, by rw [r3]; simp [clip_t, t1], by rw [r4]; simp [clip_t, t4], by rw [r5]; simp [clip_t, t5], by rw [← e0]; exact r6, r7⟩
end Go.Proofs.YtedmgpchggogpaaGreat.Lift

set_option linter.unusedVariables false
set_option linter.unusedSimpArgs false
set_option maxRecDepth 20000
namespace Go.Proofs.YtedmgpchggogpaaGreat.Lift
open Go Go.Proofs.YtedmgpchggogpaaGreat.Gh Go.Proofs
/-! ### RunShould -/
theorem pick_ok (orc : FuncId → Bool) (x n : Int) (hn : 0 < n) (hn2 : n < 2 ^ 40) (G : GS) : (E orc).cl 16 [.int .i64 x, .int .i64 n] G = some (.int .i64 (x % n), G) := by
  refine f16 (exL_ok Q orc) _ _ G _ ?_
  have h1 := Int.emod_nonneg x (show n ≠ 0 by omega)
  have h2 := Int.emod_lt_of_pos x hn
  have ht := @Int.tmod_eq_emod x n
  have hn0 : ¬ n ≤ 0 := by omega
  have hn1 : ¬ n = 0 := by omega
  have hw : IntKind.wrap .i64 (x % n) = x % n := wrap64 (by omega) (by omega)
  by_cases hx : x.tmod n < 0
  · have e : x.tmod n + n = x % n := by split at ht <;> omega
    simp [s16, clip_t, hx, e, hw, hn0, hn1]
  · have e : x.tmod n = x % n := by split at ht <;> omega
    have hx' : ¬ x % n < 0 := by omega
    simp [s16, clip_t, e, hx', hn0, hn1]
theorem restE_len : ∀ (s R : List Int), (restE R s).length ≤ R.length
  | [], R => Nat.le_refl _
  | x :: s, R => Nat.le_trans (restE_len s (R.erase x)) (List.length_erase_le ..)
theorem runShould (orc : FuncId → Bool) (hkn : orc 15 = true) (v : Value) (L : List Int) (cores : Int) (G : GS) (hv : SlR (rowsI .u64) G v L) (hU : ∀ x ∈ L, x < 18446744073709551616) :
    Wp ((E orc).cl 4 [v, .int .i64 cores] G) fun q => q.1 = .bool true := by
  have kn : ∀ G, (E orc).cl 15 [] G = some (.bool true, G) := fun G => cl_orc Q orc hkn G
  refine Wp.ref (f4 (exL_ok Q orc) _ _ G) ?_
  obtain ⟨a, c, ha⟩ := hv.len
  have l0 : ∀ t, ln Q true t v = some (.int .i64 L.length) := fun t => by rw [ha]; simp
  by_cases c1 : 40 < L.length
  · have c1' : (40 : Int) < L.length := by omega
    simp [s4, kn, l0, c1']
  have c1' : ¬ (40 : Int) < L.length := by omega
  have e1 := pick_ok orc cores 9 (by decide) (by decide)
  have k0 := Int.emod_nonneg cores (show (9 : Int) ≠ 0 by decide)
  have k9 := Int.emod_lt_of_pos cores (show (0 : Int) < 9 by decide)
  obtain ⟨n, hn⟩ := Int.eq_ofNat_of_zero_le k0
  rw [hn] at e1 k9
  obtain ⟨w, G1, e2, x1, s1, -⟩ := should_ok orc (cores := n) hv (by omega)
  rw [Int.toNat_natCast] at s1
  obtain ⟨S, hS⟩ : ∃ S, S = shouldP L n := ⟨_, rfl⟩
  obtain ⟨R, hR⟩ : ∃ R, R = L.filter notIdle := ⟨_, rfl⟩
  have hlen : S.length = min n R.length := by rw [hS, hR]; exact should_len L n
  have hRl : R.length ≤ L.length := by rw [hR]; exact List.length_filter_le _ _
  have hst : ∀ i, 0 < i → ∀ h : i < S.length, S[i - 1] ≤ S[i] := by subst hS; intro i h0 h; exact should_step L n i h0 h
  have hth : ∀ i, ∀ h : i < S.length, S[i] ∈ restE R (S.take i) := by subst hS hR; intro i h; exact should_there L n i h
  have hW : worst S (leastI (restE R S)) = none := by subst hS hR; exact should_worst hU n
  have hle : ∀ a ∈ S, a ≤ leastI (restE R S) := by subst hS hR; exact should_least hU n
  have hrl : (restE R S).length = R.length - n := by subst hS hR; exact rest_len L n
  rw [← hS] at s1
  have lw : ∀ t, ln Q true t w = some (.int .i64 S.length) := fun t => by obtain ⟨a, c, h⟩ := s1.len; rw [h]; simp
  simp [s4, kn, l0, c1', e1, e2]
  refine Wp.bE ((rest_lp orc (A := G1) (L := L) (v := v) L.length 0 _ G1 (.slice none 0 0) (by omega) (by simp [clip_t]) (by simp [clip_t]) (by simp [clip_t]) (Ext.refl _) (by simpa using OwR.nil _ _) (hv.ext x1) (by omega)).mono ?_)
  rintro ⟨e, τ, G2⟩ ⟨rfl, x2, t1, t4, t5, t6, o2⟩
  simp only at x2 t1 t4 t5 t6 o2
  simp [clip_t] at t1 t4 t5 t6
  rw [← hR] at o2
  have lr : ∀ t, ln Q true t (τ 7) = some (.int .i64 R.length) := fun t => by obtain ⟨a, c, h⟩ := o2.is.len; rw [h]; simp
  have hmin : (if R.length < n then ((R.length : Nat) : Int) else (n : Int)) = S.length := by rw [hlen]; split <;> omega
  simp [t1, t4, t5, t6, lw, lr, hmin]
  refine Wp.bE ((pull_lp orc (A := G1) (R := R) (S := S) (w := w) s1 (by omega) (by omega) hst hth (fun i => restE_len _ _) S.length 0 _ G2 (τ 7) (by omega) (by simp [clip_t]; exact t6) (by simp [clip_t]) (by simp [clip_t]) x2 (by simpa [restE] using o2)).mono ?_)
  rintro ⟨e, τ3, G3⟩ ⟨rfl, x3, u1, u4, u5, u6, o3⟩
  simp only at x3 u1 u4 u5 u6 o3
  simp [clip_t, t1, t4, t5] at u1 u4 u5
  have lr3 : ∀ t, ln Q true t (τ3 7) = some (.int .i64 (restE R S).length) := fun t => by obtain ⟨a, c, h⟩ := o3.is.len; rw [h]; simp
  by_cases d1 : restE R S = []
  · have d1' : ((restE R S).length : Int) = 0 := by rw [d1]; rfl
    simp [u1, u4, u5, u6, lr3, d1]
  · have d1' : ¬ (restE R S).length = 0 := fun k => d1 (List.eq_nil_of_length_eq_zero k)
    by_cases d2 : n = 0
    · have d2' : (n : Int) = 0 := by omega
      simp [u1, u4, u5, u6, lr3, d1, d2]
    · have d2' : ¬ (n : Int) = 0 := by omega
      have e4 := least_ok orc o3.is (by omega)
      obtain ⟨G5, e5, x5⟩ := worst_ok orc (key := leastI (restE R S)) (s1.ext x3) (by omega)
      have hWV : worstV S (leastI (restE R S)) = .tuple #[.int .i64 (-1), .bool false] := by unfold worstV; rw [hW]
      rw [hWV] at e5
      have x6 : Ext G5 (G5.room 17) := (Ext.refl _).room 17
      have e6 := least_ok orc (o3.is.ext (x5.trans x6)) (by omega)
      have hSp : 0 < S.length := by omega
      have hSl : S.length - 1 < S.length := by omega
      obtain ⟨b, o, c, e0, _, q0, _⟩ := (s1.ext ((x3.trans x5).trans x6)).at hSl
      have hc := q0 0 (by decide)
      simp [rowsI] at hc
      have hws : IntKind.wrap .i64 ((S.length : Int) - 1) = ((S.length - 1 : Nat) : Int) := by rw [wrap64 (by omega) (by omega)]; omega
      have hj0 : (0 : Int) ≤ ((S.length - 1 : Nat) : Int) := by omega
      have hll := hle _ (List.getElem_mem hSl)
      subst e0
      simp [-Int.natCast_add, u1, u4, u5, u6, lr3, d1, d2, e4, e5, lw, hws, hj0, hSl, hc, e6, hll]
end Go.Proofs.YtedmgpchggogpaaGreat.Lift

