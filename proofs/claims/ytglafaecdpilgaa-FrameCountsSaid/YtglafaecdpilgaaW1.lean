import Derived.Test.YtglafaecdpilgaaL
import Derived.Test.YtglafaecdpilgaaGhPS
set_option linter.unusedVariables false
set_option linter.unusedSimpArgs false
set_option maxRecDepth 20000
namespace Go.Proofs.Ytglafaecdpilgaa.Lift
open Go Go.Proofs.Ytglafaecdpilgaa.Gh Go.Proofs
abbrev Deed := Int × Int × Int
def rDeed : RowE Deed := ⟨3, fun x => [.int .i64 x.1, .int .i64 x.2.1, .int .i64 x.2.2], fun _ => rfl, fun _ => rfl, by decide⟩
@[simp] theorem rDeed_sz : rDeed.sz = 3 := rfl
@[simp] theorem rDeed_row (x : Deed) : rDeed.row x = [.int .i64 x.1, .int .i64 x.2.1, .int .i64 x.2.2] := rfl
@[simp] theorem rowsI_sz (k : IntKind) : (rowsI k).sz = 1 := rfl
@[simp] theorem rowsI_row (k : IntKind) (x : Int) : (rowsI k).row x = [.int k x] := rfl
theorem req_87 (a0 a1 a2 b0 b1 b2 : Int) : prun Q (Op.equalIn 10000 87 (.agg ⟨[.int .i64 a0, .int .i64 a1, .int .i64 a2]⟩) (.agg ⟨[.int .i64 b0, .int .i64 b1, .int .i64 b2]⟩)) = some (a0 == b0 && (a1 == b1 && (a2 == b2 && true))) :=
  eqS (d := 9999) (L := [(3, 0), (3, 1), (3, 2)]) (by kernel_rfl) (by kernel_rfl) (eqL_cons (a := .int .i64 a0) (b := .int .i64 b0) (by kernel_rfl) (by kernel_rfl) (by kernel_rfl) (eqL_cons (a := .int .i64 a1) (b := .int .i64 b1) (by kernel_rfl) (by kernel_rfl) (by kernel_rfl) (eqL_cons (a := .int .i64 a2) (b := .int .i64 b2) (by kernel_rfl) (by kernel_rfl) (by kernel_rfl) rfl)))
theorem eq_deed (x y : Operand) (a b : Deed) : gBinF Q .eql 87 x y (.agg ⟨[.int .i64 a.1, .int .i64 a.2.1, .int .i64 a.2.2]⟩) (.agg ⟨[.int .i64 b.1, .int .i64 b.2.1, .int .i64 b.2.2]⟩) = some (.bool (decide (a = b))) := by
  rw [eql_aggF (op := .eql) (by kernel_rfl) (by kernel_rfl) (by kernel_rfl) (req_87 a.1 a.2.1 a.2.2 b.1 b.2.1 b.2.2)]
  congr 2
  rw [Bool.eq_iff_iff]
  simp [Prod.ext_iff]
theorem same45_lp (orc : FuncId → Bool) (A B : List (Int)) (v0 v1 : Value) : ∀ (k i : Nat) (s : Bool) (τ : Env) (G : GS), i + k = A.length → τ 0 = v0 → τ 1 = v1 → τ 5 = .bool s → τ 6 = .int .i64 i →
    SlR (rowsI .i64) G v0 A → SlR (rowsI .i64) G v1 B → A.length < 2 ^ 47 → (s = true → A.length = B.length) →
    Wp ((exL Q orc).lpx 45 0 τ G) fun r => r.1 = .exit 0 ∧ Ext G r.2.2 ∧ r.2.1 5 = .bool (s && decide (A.drop i = B.drop i)) := by
  intro k
  induction k with
  | zero =>
    intro i s τ G hi h0 h1 h5 h6 hA hB hlt hs
    have hi' : i = A.length := by omega
    obtain ⟨a, c, rfl⟩ := hA.len
    refine Wp.lp (l45_0 (exL_ok Q orc)) ?_
    cases s with
    | false => simp [b45_0, clip_t, h0, h1, h5, h6, Ext.refl]
    | true =>
      have hd : A.drop i = B.drop i := by
        rw [hi', List.drop_length, List.drop_of_length_le (by rw [hs rfl]; omega)]
      simp [b45_0, clip_t, h0, h1, h5, h6, hd]
      simp [hi', Ext.refl, clip_t]
  | succ k ih =>
    intro i s τ G hi h0 h1 h5 h6 hA hB hlt hs
    refine Wp.lp (l45_0 (exL_ok Q orc)) ?_
    cases s with
    | false => simp [b45_0, clip_t, h0, h1, h5, h6, Ext.refl]
    | true =>
      have hl := hs rfl
      have hiA : i < A.length := by omega
      have hiB : i < B.length := by omega
      have he : Ext G (G.room 10) := (Ext.refl G).room 10
      obtain ⟨b, o, c, e0, _, q0, _⟩ := (hA.ext he).at hiA
      obtain ⟨b', o', c', e1, _, q1, _⟩ := (hB.ext he).at hiB
      have hc := q0 0 (by decide)
      have hc' := q1 0 (by decide)
      simp [rowsI, rDeed] at hc hc'
      have hw : IntKind.wrap .i64 ((i : Int) + 1) = ((i + 1 : Nat) : Int) := wrap64 (by omega) (by omega)
      have hi0 : (0 : Int) ≤ i := by omega
      have hdr : decide (A.drop i = B.drop i) = (decide (A[i] = B[i]) && decide (A.drop (i + 1) = B.drop (i + 1))) := by
        rw [Bool.eq_iff_iff, List.drop_eq_getElem_cons hiA, List.drop_eq_getElem_cons hiB]
        simp only [decide_eq_true_eq, Bool.and_eq_true, List.cons.injEq]
      rw [hdr]
      simp [-Int.natCast_add, b45_0, clip_t, h0, h1, h5, h6, e0, e1, hc, hc', hw, hiA, hiB, hi0]
      refine (ih (i + 1) (decide (A[i] = B[i])) _ (G.room 10) (by omega) (by simp [clip_t, e0]) (by simp [clip_t, e1]) (by simp [clip_t]) (by simp [clip_t]) (hA.ext he) (hB.ext he) hlt (fun _ => hl)).mono ?_
      rintro r ⟨h1, h2, h3⟩
      exact ⟨h1, he.trans h2, h3⟩
theorem same45 (orc : FuncId → Bool) {A B : List (Int)} {v0 v1 : Value} {G : GS} (hA : SlR (rowsI .i64) G v0 A) (hB : SlR (rowsI .i64) G v1 B) (hlt : A.length < 2 ^ 47) :
    ∃ G', (E orc).cl 45 [v0, v1] G = some (.bool (decide (A = B)), G') ∧ Ext G G' := by
  obtain ⟨a, c, ha⟩ := hA.len
  obtain ⟨b, d, hb⟩ := hB.len
  have l0 : ∀ t, ln Q true t v0 = some (.int .i64 A.length) := fun t => by rw [ha]; simp
  have l1 : ∀ t, ln Q true t v1 = some (.int .i64 B.length) := fun t => by rw [hb]; simp
  have hd : (decide ((A.length : Int) = (B.length : Int)) && decide (A.drop 0 = B.drop 0)) = decide (A = B) := by
    by_cases h : A = B
    · simp [h]
    · simp [h]
  have w : Wp (s45 true (exL Q orc) v0 v1 G) fun r => r.1 = .bool (decide (A = B)) ∧ Ext G r.2 := by
    simp [s45, l0, l1]
    refine Wp.bE ((same45_lp orc A B v0 v1 A.length 0 (decide ((A.length : Int) = (B.length : Int))) _ G (by omega) rfl rfl (by simp) rfl hA hB hlt (fun h => by simp at h; omega)).mono ?_)
    rintro ⟨e, τ, G'⟩ ⟨rfl, x, y⟩
    rw [hd] at y
    simp only at x y
    simp [y, x]
  obtain ⟨⟨v, G'⟩, e1, rfl, e3⟩ := w
  exact ⟨G', f45 (exL_ok Q orc) _ _ G _ e1, e3⟩
theorem same50_lp (orc : FuncId → Bool) (A B : List (Deed)) (v0 v1 : Value) : ∀ (k i : Nat) (s : Bool) (τ : Env) (G : GS), i + k = A.length → τ 0 = v0 → τ 1 = v1 → τ 5 = .bool s → τ 6 = .int .i64 i →
    SlR (rDeed) G v0 A → SlR (rDeed) G v1 B → A.length < 2 ^ 47 → (s = true → A.length = B.length) →
    Wp ((exL Q orc).lpx 50 0 τ G) fun r => r.1 = .exit 0 ∧ Ext G r.2.2 ∧ r.2.1 5 = .bool (s && decide (A.drop i = B.drop i)) := by
  intro k
  induction k with
  | zero =>
    intro i s τ G hi h0 h1 h5 h6 hA hB hlt hs
    have hi' : i = A.length := by omega
    obtain ⟨a, c, rfl⟩ := hA.len
    refine Wp.lp (l50_0 (exL_ok Q orc)) ?_
    cases s with
    | false => simp [b50_0, clip_t, h0, h1, h5, h6, Ext.refl]
    | true =>
      have hd : A.drop i = B.drop i := by
        rw [hi', List.drop_length, List.drop_of_length_le (by rw [hs rfl]; omega)]
      simp [b50_0, clip_t, h0, h1, h5, h6, hd]
      simp [hi', Ext.refl, clip_t]
  | succ k ih =>
    intro i s τ G hi h0 h1 h5 h6 hA hB hlt hs
    refine Wp.lp (l50_0 (exL_ok Q orc)) ?_
    cases s with
    | false => simp [b50_0, clip_t, h0, h1, h5, h6, Ext.refl]
    | true =>
      have hl := hs rfl
      have hiA : i < A.length := by omega
      have hiB : i < B.length := by omega
      have he : Ext G (G.room 10) := (Ext.refl G).room 10
      obtain ⟨b, o, c, e0, _, _, hc⟩ := (hA.ext he).at hiA
      obtain ⟨b', o', c', e1, _, _, hc'⟩ := (hB.ext he).at hiB
      simp [rowsI, rDeed] at hc hc'
      have hw : IntKind.wrap .i64 ((i : Int) + 1) = ((i + 1 : Nat) : Int) := wrap64 (by omega) (by omega)
      have hi0 : (0 : Int) ≤ i := by omega
      have hdr : decide (A.drop i = B.drop i) = (decide (A[i] = B[i]) && decide (A.drop (i + 1) = B.drop (i + 1))) := by
        rw [Bool.eq_iff_iff, List.drop_eq_getElem_cons hiA, List.drop_eq_getElem_cons hiB]
        simp only [decide_eq_true_eq, Bool.and_eq_true, List.cons.injEq]
      rw [hdr]
      simp [-Int.natCast_add, b50_0, clip_t, h0, h1, h5, h6, e0, e1, hc, hc', eq_deed, hw, hiA, hiB, hi0]
      refine (ih (i + 1) (decide (A[i] = B[i])) _ (G.room 10) (by omega) (by simp [clip_t, e0]) (by simp [clip_t, e1]) (by simp [clip_t]) (by simp [clip_t]) (hA.ext he) (hB.ext he) hlt (fun _ => hl)).mono ?_
      rintro r ⟨h1, h2, h3⟩
      exact ⟨h1, he.trans h2, h3⟩
theorem same50 (orc : FuncId → Bool) {A B : List (Deed)} {v0 v1 : Value} {G : GS} (hA : SlR (rDeed) G v0 A) (hB : SlR (rDeed) G v1 B) (hlt : A.length < 2 ^ 47) :
    ∃ G', (E orc).cl 50 [v0, v1] G = some (.bool (decide (A = B)), G') ∧ Ext G G' := by
  obtain ⟨a, c, ha⟩ := hA.len
  obtain ⟨b, d, hb⟩ := hB.len
  have l0 : ∀ t, ln Q true t v0 = some (.int .i64 A.length) := fun t => by rw [ha]; simp
  have l1 : ∀ t, ln Q true t v1 = some (.int .i64 B.length) := fun t => by rw [hb]; simp
  have hd : (decide ((A.length : Int) = (B.length : Int)) && decide (A.drop 0 = B.drop 0)) = decide (A = B) := by
    by_cases h : A = B
    · simp [h]
    · simp [h]
  have w : Wp (s50 true (exL Q orc) v0 v1 G) fun r => r.1 = .bool (decide (A = B)) ∧ Ext G r.2 := by
    simp [s50, l0, l1]
    refine Wp.bE ((same50_lp orc A B v0 v1 A.length 0 (decide ((A.length : Int) = (B.length : Int))) _ G (by omega) rfl rfl (by simp) rfl hA hB hlt (fun h => by simp at h; omega)).mono ?_)
    rintro ⟨e, τ, G'⟩ ⟨rfl, x, y⟩
    rw [hd] at y
    simp only at x y
    simp [y, x]
  obtain ⟨⟨v, G'⟩, e1, rfl, e3⟩ := w
  exact ⟨G', f50 (exL_ok Q orc) _ _ G _ e1, e3⟩
theorem over51_lp (orc : FuncId → Bool) (b n : Nat) (hn : n < 2 ^ 40) (ez : Nat) : ∀ (k i : Nat) (cs : List Value) (op : Bool) (τ : Env) (G : GS), i + k = n → τ 0 = .slice (some ⟨b, 0, none⟩) n n → τ 2 = .int .i64 i →
    G.obj b = some ⟨cs, ez, op, 1⟩ → cs.length = n * 1 →
    Wp ((exL Q orc).lpx 51 0 τ G) fun r => r.1 = .exit 0 ∧ ModP (fun g => g = b) G r.2.2 := by
  intro k
  induction k with
  | zero =>
    intro i cs op τ G hi h0 h2 ho hc
    refine Wp.lp (l51_0 (exL_ok Q orc)) ?_
    have : i = n := by omega
    simpa [b51_0, clip_t, h0, h2, this] using ModP.refl _ _
  | succ k ih =>
    intro i cs op τ G hi h0 h2 ho hc
    have hlt : i < n := by omega
    have hw : IntKind.wrap .i64 ((i : Int) + 1) = ((i + 1 : Nat) : Int) := wrap64 (by omega) (by omega)
    have hi0 : (0 : Int) ≤ i := by omega
    have hst : storeN 1 b (i * 1) (.int .i64 (-77)) G = some (G.put b (GObj.over ⟨cs, ez, op, 1⟩ (i * 1) [.int .i64 (-77)])) := by
      simp only [storeN, Value.cells]
      exact wrN_of ho rfl rfl (by simp; omega)
    try simp at hst
    refine Wp.lp (l51_0 (exL_ok Q orc)) ?_
    simp [-Int.natCast_add, b51_0, clip_t, h0, h2, hlt, hw, hi0, hst, fillL, fillC, splice_put, splice_end, splice_succ, Value.cells]
    refine (ih (i + 1) (overw cs (i * 1) [.int .i64 (-77)]) op _ _ (by omega) (by simp [clip_t, h0]) (by simp [clip_t]) (by simp [GObj.over]) (by simp [overw]; omega)).mono ?_
    rintro r ⟨q1, q2⟩
    exact ⟨q1, ⟨by have := q2.nx; simpa using this, fun g hg hx => (q2.obj g (by simpa using hg) hx).trans (by rw [obj_put, if_neg hx]), q2.nl, fun l hl => (q2.loop l hl)⟩⟩
theorem over51 (orc : FuncId → Bool) {B : Nat} {G : GS} {v0 : Value} {L : List (Int)} (h : OwR (rowsI .i64) B G v0 L) (hlt : L.length < 2 ^ 40) :
    ∃ G', (E orc).cl 51 [v0] G = some (.tuple #[], G') ∧ ModP (InB v0) G G' := by
  have w : Wp (s51 true (exL Q orc) v0 G) fun r => r.1 = .tuple #[] ∧ ModP (InB v0) G r.2 := by
    rcases h.2 with ⟨rfl, _⟩ | ⟨b, op, rfl, h2, h3, h4⟩
    · simp [s51]
      refine Wp.bE (Wp.lp (l51_0 (exL_ok Q orc)) ?_)
      simp [b51_0, clip_t, ModP.refl]
    · simp [s51]
      refine Wp.bE ((over51_lp orc b L.length hlt _ L.length 0 _ op _ G (by omega) rfl rfl h4 (by simpa using h.1)).mono ?_)
      rintro ⟨e, τ, G'⟩ ⟨rfl, h6⟩
      simp
      exact h6.mono fun g hg => ⟨_, _, _, rfl, hg.symm⟩
  obtain ⟨⟨v, G'⟩, e1, rfl, e3⟩ := w
  exact ⟨G', f51 (exL_ok Q orc) _ G _ e1, e3⟩
theorem over52_lp (orc : FuncId → Bool) (b n : Nat) (hn : n < 2 ^ 40) (ez : Nat) : ∀ (k i : Nat) (cs : List Value) (op : Bool) (τ : Env) (G : GS), i + k = n → τ 0 = .slice (some ⟨b, 0, none⟩) n n → τ 2 = .int .i64 i →
    G.obj b = some ⟨cs, ez, op, 1⟩ → cs.length = n * 3 →
    Wp ((exL Q orc).lpx 52 0 τ G) fun r => r.1 = .exit 0 ∧ ModP (fun g => g = b) G r.2.2 := by
  intro k
  induction k with
  | zero =>
    intro i cs op τ G hi h0 h2 ho hc
    refine Wp.lp (l52_0 (exL_ok Q orc)) ?_
    have : i = n := by omega
    simpa [b52_0, clip_t, h0, h2, this] using ModP.refl _ _
  | succ k ih =>
    intro i cs op τ G hi h0 h2 ho hc
    have hlt : i < n := by omega
    have hw : IntKind.wrap .i64 ((i : Int) + 1) = ((i + 1 : Nat) : Int) := wrap64 (by omega) (by omega)
    have hi0 : (0 : Int) ≤ i := by omega
    have hst : storeN 3 b (i * 3) (.agg ⟨[.int .i64 (-77), .int .i64 0, .int .i64 0]⟩) G = some (G.put b (GObj.over ⟨cs, ez, op, 1⟩ (i * 3) [.int .i64 (-77), .int .i64 0, .int .i64 0])) := by
      simp only [storeN, Value.cells]
      exact wrN_of ho rfl rfl (by simp; omega)
    try simp at hst
    refine Wp.lp (l52_0 (exL_ok Q orc)) ?_
    simp [-Int.natCast_add, b52_0, clip_t, h0, h2, hlt, hw, hi0, hst, fillL, fillC, splice_put, splice_end, splice_succ, Value.cells]
    refine (ih (i + 1) (overw cs (i * 3) [.int .i64 (-77), .int .i64 0, .int .i64 0]) op _ _ (by omega) (by simp [clip_t, h0]) (by simp [clip_t]) (by simp [GObj.over]) (by simp [overw]; omega)).mono ?_
    rintro r ⟨q1, q2⟩
    exact ⟨q1, ⟨by have := q2.nx; simpa using this, fun g hg hx => (q2.obj g (by simpa using hg) hx).trans (by rw [obj_put, if_neg hx]), q2.nl, fun l hl => (q2.loop l hl)⟩⟩
theorem over52 (orc : FuncId → Bool) {B : Nat} {G : GS} {v0 : Value} {L : List (Deed)} (h : OwR (rDeed) B G v0 L) (hlt : L.length < 2 ^ 40) :
    ∃ G', (E orc).cl 52 [v0] G = some (.tuple #[], G') ∧ ModP (InB v0) G G' := by
  have w : Wp (s52 true (exL Q orc) v0 G) fun r => r.1 = .tuple #[] ∧ ModP (InB v0) G r.2 := by
    rcases h.2 with ⟨rfl, _⟩ | ⟨b, op, rfl, h2, h3, h4⟩
    · simp [s52]
      refine Wp.bE (Wp.lp (l52_0 (exL_ok Q orc)) ?_)
      simp [b52_0, clip_t, ModP.refl]
    · simp [s52]
      refine Wp.bE ((over52_lp orc b L.length hlt _ L.length 0 _ op _ G (by omega) rfl rfl h4 (by simpa using h.1)).mono ?_)
      rintro ⟨e, τ, G'⟩ ⟨rfl, h6⟩
      simp
      exact h6.mono fun g hg => ⟨_, _, _, rfl, hg.symm⟩
  obtain ⟨⟨v, G'⟩, e1, rfl, e3⟩ := w
  exact ⟨G', f52 (exL_ok Q orc) _ G _ e1, e3⟩
end Go.Proofs.Ytglafaecdpilgaa.Lift
