/- contracts of the program's functions -/
import Derived.Test.YtedmgpchggogpaaGreatJB
import Derived.Test.YtedmgpchggogpaaGreatGhPS
import Derived.Test.YtedmgpchggogpaaGreatGhPT
import Derived.Test.YtedmgpchggogpaaGreatJA
set_option linter.unusedVariables false
set_option linter.unusedSimpArgs false
set_option maxRecDepth 20000
namespace Go.Proofs.YtedmgpchggogpaaGreat.Lift
open Go Go.Proofs.YtedmgpchggogpaaGreat.Gh Go.Proofs
/-! ### Words: are they the same? They are written over, they are copied -/
theorem same13_lp (orc : FuncId → Bool) (A B : List (Int)) (v0 v1 : Value) : ∀ (k i : Nat) (s : Bool) (τ : Env) (G : GS), i + k = A.length → τ 0 = v0 → τ 1 = v1 → τ 5 = .bool s → τ 6 = .int .i64 i →
    SlR (rowsI .u64) G v0 A → SlR (rowsI .u64) G v1 B → A.length < 2 ^ 47 → (s = true → A.length = B.length) →
    Wp ((exL Q orc).lpx 13 0 τ G) fun r => r.1 = .exit 0 ∧ Ext G r.2.2 ∧ r.2.1 5 = .bool (s && decide (A.drop i = B.drop i)) := by
  intro k
  induction k with
  | zero =>
    intro i s τ G hi h0 h1 h5 h6 hA hB hlt hs
    have hi' : i = A.length := by omega
    obtain ⟨a, c, rfl⟩ := hA.len
    refine Wp.lp (l13_0 (exL_ok Q orc)) ?_
    cases s with
    | false => simp [b13_0, clip_t, h0, h1, h5, h6, Ext.refl]
    | true =>
      have hd : A.drop i = B.drop i := by
        rw [hi', List.drop_length, List.drop_of_length_le (by rw [hs rfl]; omega)]
      simp [b13_0, clip_t, h0, h1, h5, h6, hd]
      simp [hi', Ext.refl, clip_t]
  | succ k ih =>
    intro i s τ G hi h0 h1 h5 h6 hA hB hlt hs
    refine Wp.lp (l13_0 (exL_ok Q orc)) ?_
    cases s with
    | false => simp [b13_0, clip_t, h0, h1, h5, h6, Ext.refl]
    | true =>
      have hl := hs rfl
      have hiA : i < A.length := by omega
      have hiB : i < B.length := by omega
      have he : Ext G (G.room 10) := (Ext.refl G).room 10
      obtain ⟨b, o, c, e0, _, q0, _⟩ := (hA.ext he).at hiA
      obtain ⟨b', o', c', e1, _, q1, _⟩ := (hB.ext he).at hiB
      have hc := q0 0 (by decide)
      have hc' := q1 0 (by decide)
      simp [rowsI] at hc hc'
      have hw : IntKind.wrap .i64 ((i : Int) + 1) = ((i + 1 : Nat) : Int) := wrap64 (by omega) (by omega)
      have hi0 : (0 : Int) ≤ i := by omega
      have hdr : decide (A.drop i = B.drop i) = (decide (A[i] = B[i]) && decide (A.drop (i + 1) = B.drop (i + 1))) := by
        rw [Bool.eq_iff_iff, List.drop_eq_getElem_cons hiA, List.drop_eq_getElem_cons hiB]
        simp only [decide_eq_true_eq, Bool.and_eq_true, List.cons.injEq]
      rw [hdr]
      simp [-Int.natCast_add, b13_0, clip_t, h0, h1, h5, h6, e0, e1, hc, hc', hw, hiA, hiB, hi0]
      refine (ih (i + 1) (decide (A[i] = B[i])) _ (G.room 10) (by omega) (by simp [clip_t, e0]) (by simp [clip_t, e1]) (by simp [clip_t]) (by simp [clip_t]) (hA.ext he) (hB.ext he) hlt (fun _ => hl)).mono ?_
      rintro r ⟨h1, h2, h3⟩
      exact ⟨h1, he.trans h2, h3⟩
theorem same13 (orc : FuncId → Bool) {A B : List (Int)} {v0 v1 : Value} {G : GS} (hA : SlR (rowsI .u64) G v0 A) (hB : SlR (rowsI .u64) G v1 B) (hlt : A.length < 2 ^ 47) :
    ∃ G', (E orc).cl 13 [v0, v1] G = some (.bool (decide (A = B)), G') ∧ Ext G G' := by
  obtain ⟨a, c, ha⟩ := hA.len
  obtain ⟨b, d, hb⟩ := hB.len
  have l0 : ∀ t, ln Q true t v0 = some (.int .i64 A.length) := fun t => by rw [ha]; simp
  have l1 : ∀ t, ln Q true t v1 = some (.int .i64 B.length) := fun t => by rw [hb]; simp
  have hd : (decide ((A.length : Int) = (B.length : Int)) && decide (A.drop 0 = B.drop 0)) = decide (A = B) := by
    by_cases h : A = B
    · simp [h]
    · simp [h]
  have w : Wp (s13 true (exL Q orc) v0 v1 G) fun r => r.1 = .bool (decide (A = B)) ∧ Ext G r.2 := by
    simp [s13, l0, l1]
    refine Wp.bE ((same13_lp orc A B v0 v1 A.length 0 (decide ((A.length : Int) = (B.length : Int))) _ G (by omega) rfl rfl (by simp) rfl hA hB hlt (fun h => by simp at h; omega)).mono ?_)
    rintro ⟨e, τ, G'⟩ ⟨rfl, x, y⟩
    rw [hd] at y
    simp only at x y
    simp [y, x]
  obtain ⟨⟨v, G'⟩, e1, rfl, e3⟩ := w
  exact ⟨G', f13 (exL_ok Q orc) _ _ G _ e1, e3⟩
theorem overw_lp (orc : FuncId → Bool) (b n c : Nat) (hn : n < 2 ^ 40) (ez : Nat) : ∀ (k i : Nat) (cs : List Value) (op : Bool) (τ : Env) (G : GS), i + k = n → τ 0 = .slice (some ⟨b, 0, none⟩) n c → τ 2 = .int .i64 i →
    G.obj b = some ⟨cs, ez, op, 1⟩ → n ≤ cs.length →
    Wp ((exL Q orc).lpx 14 0 τ G) fun r => r.1 = .exit 0 ∧ ModP (fun g => g = b) G r.2.2 := by
  intro k
  induction k with
  | zero =>
    intro i cs op τ G hi h0 h2 ho hc
    refine Wp.lp (l14_0 (exL_ok Q orc)) ?_
    have : i = n := by omega
    simpa [b14_0, clip_t, h0, h2, this] using ModP.refl _ _
  | succ k ih =>
    intro i cs op τ G hi h0 h2 ho hc
    have hlt : i < n := by omega
    have hw : IntKind.wrap .i64 ((i : Int) + 1) = ((i + 1 : Nat) : Int) := wrap64 (by omega) (by omega)
    have hi0 : (0 : Int) ≤ i := by omega
    have hst : storeN 1 b (i * 1) (.int .u64 7777777) G = some (G.put b (GObj.over ⟨cs, ez, op, 1⟩ (i * 1) [.int .u64 7777777])) := by
      simp only [storeN, Value.cells]
      exact wrN_of ho rfl rfl (by simp; omega)
    try simp at hst
    refine Wp.lp (l14_0 (exL_ok Q orc)) ?_
    simp [-Int.natCast_add, b14_0, clip_t, h0, h2, hlt, hw, hi0, hst, fillL, fillC, splice_put, splice_end, splice_succ, Value.cells]
    refine (ih (i + 1) (overw cs (i * 1) [.int .u64 7777777]) op _ _ (by omega) (by simp [clip_t, h0]) (by simp [clip_t]) (by simp [GObj.over]) (by simp [overw]; omega)).mono ?_
    rintro r ⟨q1, q2⟩
    exact ⟨q1, ⟨by have := q2.nx; simpa using this, fun g hg hx => (q2.obj g (by simpa using hg) hx).trans (by rw [obj_put, if_neg hx]), q2.nl, fun l hl => (q2.loop l hl)⟩⟩
theorem overw_ok (orc : FuncId → Bool) {B : Nat} {G : GS} {v : Value} {L : List Int} (h : SlR (rowsI .u64) G v L) (hc : CutV B G v) (hlt : L.length < 2 ^ 40) :
    ∃ G', (E orc).cl 14 [v] G = some (.tuple #[], G') ∧ ModP (fun g => B ≤ g) G G' := by
  have w : Wp (s14 true (exL Q orc) v G) fun r => r.1 = .tuple #[] ∧ ModP (fun g => B ≤ g) G r.2 := by
    obtain ⟨a, c, rfl⟩ := h.len
    cases a with
    | none =>
      obtain ⟨h1, h2⟩ := h.is
      rcases h2 with ⟨h2, hl⟩ | ⟨b, o, c', ob, h2, _⟩
      · simp [s14]
        refine Wp.bE (Wp.lp (l14_0 (exL_ok Q orc)) ?_)
        simp [b14_0, clip_t, ModP.refl, hl]
      · cases h2
    | some a =>
      obtain ⟨ea, hb, cs, ez, op, ho, hn⟩ := hc a _ _ rfl
      simp [s14]
      refine Wp.bE ((overw_lp orc a.block L.length c hlt _ L.length 0 _ op _ G (by omega) (by simp [clip_t]; exact ea) (by simp [clip_t]) ho hn).mono ?_)
      rintro ⟨e, τ, G'⟩ ⟨rfl, h6⟩
      simp
      exact h6.mono fun g hg => by rw [hg]; exact hb
  obtain ⟨⟨v', G'⟩, e1, rfl, e3⟩ := w
  exact ⟨G', f14 (exL_ok Q orc) _ G _ e1, e3⟩
theorem copyw_ok (orc : FuncId → Bool) {A : List Int} {v0 : Value} {G : GS} (hA : SlR (rowsI .u64) G v0 A) (hlt : A.length < 2 ^ 36) : ∃ v' G', (E orc).cl 8 [v0] G = some (v', G') ∧ Ext G G' ∧ OwR (rowsI .u64) G.nx G' v' A := by
  obtain ⟨v', G', h1, h2, h3⟩ := OwR.app (A := G) (ib := 8) (OwR.made (rowsI .u64) G) (by decide) ((Ext.refl G).push _) (hA.ext ((Ext.refl G).push _)) (by simp; omega)
  refine ⟨v', G', f8 (exL_ok Q orc) _ G _ ?_, h2, by simpa using h3⟩
  simp only [rowsJ_sz] at h1
  simp [s8, rep, fillS, fillC, h1]
end Go.Proofs.YtedmgpchggogpaaGreat.Lift

set_option linter.unusedVariables false
namespace Go.Proofs.YtedmgpchggogpaaGreat.Lift
open Go Go.Proofs.YtedmgpchggogpaaGreat.Gh Go.Proofs
/-! ### Who should run, plain: what is left out -/
def restE (R s : List Int) : List Int := s.foldl (fun r x => r.erase x) R
theorem restE_perm : ∀ {s t R : List Int}, R.Perm (s ++ t) → (restE R s).Perm t
  | [], t, R, h => h
  | x :: s, t, R, h => by
    have h1 : (R.erase x).Perm (s ++ t) := by
      have := h.erase x
      rwa [List.cons_append, List.erase_cons_head] at this
    show (restE (R.erase x) s).Perm t
    exact restE_perm (s := s) h1
theorem restE_succ (R s : List Int) (i : Nat) (hi : i < s.length) : restE R (s.take (i + 1)) = (restE R (s.take i)).erase s[i] := by
  unfold restE
  rw [List.take_succ_eq_append_getElem hi, List.foldl_append]
  rfl
theorem should_perm (l : List Int) (k : Nat) : (l.filter notIdle).Perm (shouldP l k ++ (sortI (l.filter notIdle)).drop k) := by
  unfold shouldP
  rw [List.take_append_drop]
  exact (sortI_perm _).symm
theorem should_len (l : List Int) (k : Nat) : (shouldP l k).length = min k (l.filter notIdle).length := by
  unfold shouldP
  rw [List.length_take, (sortI_perm _).length_eq]
theorem should_asc (l : List Int) (k : Nat) : (shouldP l k).Pairwise (· ≤ ·) := by
  unfold shouldP
  exact List.Pairwise.sublist (List.take_sublist _ _) (sortI_asc _)
/-- at each turn the next one is still there -/
theorem should_there (l : List Int) (k i : Nat) (hi : i < (shouldP l k).length) : (shouldP l k)[i] ∈ restE (l.filter notIdle) ((shouldP l k).take i) := by
  have h := should_perm l k
  rw [← List.take_append_drop i (shouldP l k), List.append_assoc] at h
  have h2 := restE_perm h
  refine h2.mem_iff.2 (List.mem_append.2 (.inl ?_))
  rw [List.mem_iff_getElem]
  exact ⟨0, by simp; omega, by simp⟩
theorem should_left (l : List Int) (k : Nat) : (restE (l.filter notIdle) (shouldP l k)).Perm ((sortI (l.filter notIdle)).drop k) := restE_perm (should_perm l k)
/-- whoever is left out is not below one of them -/
theorem should_below (l : List Int) (k : Nat) {a b : Int} (ha : a ∈ shouldP l k) (hb : b ∈ restE (l.filter notIdle) (shouldP l k)) : a ≤ b := by
  have hb' := (should_left l k).mem_iff.1 hb
  have h := sortI_asc (l.filter notIdle)
  rw [← List.take_append_drop k (sortI (l.filter notIdle))] at h
  exact (List.pairwise_append.1 h).2.2 a ha b hb'
theorem should_step (l : List Int) (k i : Nat) (h0 : 0 < i) (hi : i < (shouldP l k).length) : (shouldP l k)[i - 1] ≤ (shouldP l k)[i] := (List.pairwise_iff_getElem.1 (should_asc l k)) (i - 1) i (by omega) hi (by omega)
end Go.Proofs.YtedmgpchggogpaaGreat.Lift

set_option linter.unusedVariables false
set_option linter.unusedSimpArgs false
set_option maxRecDepth 20000
namespace Go.Proofs.YtedmgpchggogpaaGreat.Lift
open Go Go.Proofs.YtedmgpchggogpaaGreat.Gh Go.Proofs
/-! ### RunTells -/
theorem U_wf {x : Int} (h : (Lit.int .u64 x).wf = true) : x < 18446744073709551616 := by
  simp [Lit.wf] at h
  exact Int.lt_of_le_of_lt h.2 (show IntKind.max .u64 < (18446744073709551616 : Int) by decide)
theorem shouldP_min (L : List Int) (k : Nat) : shouldP L (min L.length k) = shouldP L k := by
  have h1 := (sortI_perm (L.filter notIdle)).length_eq
  have h2 := List.length_filter_le notIdle L
  unfold shouldP
  by_cases hk : k ≤ L.length
  · rw [Nat.min_eq_right hk]
  · rw [Nat.min_eq_left (by omega), List.take_of_length_le (by omega), List.take_of_length_le (by omega)]
theorem should_len_le (L : List Int) (k : Nat) : (shouldP L k).length ≤ L.length := by
  have h2 := List.length_filter_le notIdle L
  rw [should_len]
  omega
theorem runTells (orc : FuncId → Bool) (haw : orc 7 = true) (v : Value) (L : List Int) (key cores : Int) (G : GS) (hv : SlR (rowsI .u64) G v L) (hU : ∀ x ∈ L, x < 18446744073709551616) :
    Wp ((E orc).cl 3 [v, .int .u64 key, .int .i64 cores] G) fun q => q.1 = .bool true := by
  have aw : ∀ G, (E orc).cl 7 [] G = some (.bool true, G) := fun G => cl_orc Q orc haw G
  refine Wp.ref (f3 (exL_ok Q orc) _ _ _ G) ?_
  obtain ⟨a, c, ha⟩ := hv.len
  have l0 : ∀ t, ln Q true t v = some (.int .i64 L.length) := fun t => by rw [ha]; simp
  by_cases c1 : 60 < L.length
  · have c1' : (60 : Int) < L.length := by omega
    simp [s3, l0, c1', aw]
  have c1' : ¬ (60 : Int) < L.length := by omega
  obtain ⟨v1, G1, e1, x1, o1⟩ := copyw_ok orc hv (by omega)
  have s1 := o1.is
  obtain ⟨G2, e2, x2⟩ := worst_ok orc (key := key) s1 (by omega)
  have y2 := x1.trans x2
  obtain ⟨G3, e3, x3⟩ := rworst_ok orc (key := key) (hv.ext y2) (by omega)
  have y3 := y2.trans x3
  obtain ⟨w4, G4, e4, x4, s4, cut4⟩ := should_ok orc (cores := cores) (s1.ext (x2.trans x3)) (by omega)
  have y4 := y3.trans x4
  obtain ⟨w5, G5, e5, x5, s5⟩ := rshould_ok orc (cores := cores) (hv.ext y4) (by omega)
  have hsame : shouldP L cores.toNat = shouldD L (min L.length cores.toNat) := by
    rw [should_same hU (Nat.min_le_left _ _), shouldP_min]
  have hle := should_len_le L cores.toNat
  obtain ⟨G6, e6, x6⟩ := same13 orc (s4.ext x5) s5 (by omega)
  have e6' : decide (shouldP L cores.toNat = shouldD L (min L.length cores.toNat)) = true := decide_eq_true hsame
  rw [e6'] at e6
  have x46 := x5.trans x6
  have cut6 : CutV G3.nx G6 w4 := fun a n c he => by
    obtain ⟨k1, k2, cs, ez, op, k3, k4⟩ := cut4 a n c he
    exact ⟨k1, k2, cs, ez, op, (x46.obj _ (s4.lt a n c he)).trans k3, k4⟩
  obtain ⟨G7, e7, m7⟩ := overw_ok orc (s4.ext x46) cut6 (by omega)
  have z7 : Ext G3 G7 := ModP.tail (x4.trans x46) m7 fun x hx => hx
  have s7 : SlR (rowsI .u64) G7 v1 L := s1.ext ((x2.trans x3).trans z7)
  have t7 : SlR (rowsI .u64) G7 v L := hv.ext (y3.trans z7)
  obtain ⟨G8, e8, x8⟩ := same13 orc s7 t7 (by omega)
  simp only [decide_true] at e8
  have key' : ∀ V, worstV L key = V → Wp (s3 true (exL Q orc) v (.int .u64 key) (.int .i64 cores) G) fun q => q.1 = .bool true := by
    intro V hV
    rw [hV] at e2 e3
    unfold worstV at hV
    cases hW : worst L key with
    | none =>
      rw [hW] at hV
      simp only at hV
      subst hV
      simp [s3, l0, c1', e1, e2, e3, e4, e5, e6, e7, e8, aw]
    | some i =>
      rw [hW] at hV
      simp only at hV
      subst hV
      simp [s3, l0, c1', e1, e2, e3, e4, e5, e6, e7, e8, aw]
  exact key' _ rfl
end Go.Proofs.YtedmgpchggogpaaGreat.Lift

