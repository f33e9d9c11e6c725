/- contracts of the program's functions -/
import Derived.Test.YtocbppgkgcoehaaDoorQA
import Derived.Test.YtocbppgkgcoehaaDoorGhEQ
import Derived.Test.YtocbppgkgcoehaaDoorGhPS
set_option linter.unusedVariables false
set_option linter.unusedSimpArgs false
set_option maxRecDepth 20000
namespace Go.Proofs.YtocbppgkgcoehaaDoor.Lift
open Go Go.Proofs.YtocbppgkgcoehaaDoor.Gh Go.Proofs
/-! ### Answers, operations; lists side by side, written over, copied (the laws of lists by kit3.py) -/
abbrev An := Int × Int × Int
abbrev Opn := Int × Int × Int × Int
abbrev anV (a : An) : Value := .agg ⟨[.int .i64 a.1, .int .i64 a.2.1, .int .u64 a.2.2]⟩
abbrev opV (a : Opn) : Value := .agg ⟨[.int .i64 a.1, .int .i64 a.2.1, .int .i64 a.2.2.1, .int .u64 a.2.2.2]⟩
def rAn : RowE An := ⟨3, fun x => [.int .i64 x.1, .int .i64 x.2.1, .int .u64 x.2.2], fun _ => rfl, fun _ => rfl, by decide⟩
def rOp : RowE Opn := ⟨4, fun x => [.int .i64 x.1, .int .i64 x.2.1, .int .i64 x.2.2.1, .int .u64 x.2.2.2], fun _ => rfl, fun _ => rfl, by decide⟩
@[simp] theorem rAn_sz : rAn.sz = 3 := rfl
@[simp] theorem rAn_row (x : An) : rAn.row x = [.int .i64 x.1, .int .i64 x.2.1, .int .u64 x.2.2] := rfl
@[simp] theorem rOp_sz : rOp.sz = 4 := rfl
@[simp] theorem rOp_row (x : Opn) : rOp.row x = [.int .i64 x.1, .int .i64 x.2.1, .int .i64 x.2.2.1, .int .u64 x.2.2.2] := rfl
theorem req_28 (a0 a1 a2 b0 b1 b2 : Int) : prun Q (Op.equalIn 10000 28 (.agg ⟨[.int .i64 a0, .int .i64 a1, .int .u64 a2]⟩) (.agg ⟨[.int .i64 b0, .int .i64 b1, .int .u64 b2]⟩)) = some (a0 == b0 && (a1 == b1 && (a2 == b2 && true))) :=
  eqS (d := 9999) (L := [(26, 0), (3, 1), (23, 2)]) (by kernel_rfl) (by kernel_rfl) (eqL_cons (a := .int .i64 a0) (b := .int .i64 b0) (by kernel_rfl) (by kernel_rfl) (by kernel_rfl) (eqL_cons (a := .int .i64 a1) (b := .int .i64 b1) (by kernel_rfl) (by kernel_rfl) (by kernel_rfl) (eqL_cons (a := .int .u64 a2) (b := .int .u64 b2) (by kernel_rfl) (by kernel_rfl) (by kernel_rfl) rfl)))
theorem eq_an (x y : Operand) (a b : An) : gBinF Q .eql 28 x y (anV a) (anV b) = some (.bool (decide (a = b))) := by
  rw [eql_aggF (op := .eql) (by kernel_rfl) (by kernel_rfl) (by kernel_rfl) (req_28 a.1 a.2.1 a.2.2 b.1 b.2.1 b.2.2)]
  congr 2
  rw [Bool.eq_iff_iff]
  simp [Prod.ext_iff]
theorem ne_an (x y : Operand) (a b : An) : gBinF Q .neq 28 x y (anV a) (anV b) = some (.bool (!decide (a = b))) := by
  rw [neq_aggF (op := .eql) (by kernel_rfl) (by kernel_rfl) (by kernel_rfl) (req_28 a.1 a.2.1 a.2.2 b.1 b.2.1 b.2.2)]
  congr 2
  rw [Bool.eq_iff_iff]
  simp [Prod.ext_iff]
theorem req_25 (a0 a1 a2 a3 b0 b1 b2 b3 : Int) : prun Q (Op.equalIn 10000 25 (.agg ⟨[.int .i64 a0, .int .i64 a1, .int .i64 a2, .int .u64 a3]⟩) (.agg ⟨[.int .i64 b0, .int .i64 b1, .int .i64 b2, .int .u64 b3]⟩)) = some (a0 == b0 && (a1 == b1 && (a2 == b2 && (a3 == b3 && true)))) :=
  eqS (d := 9999) (L := [(3, 0), (3, 1), (3, 2), (23, 3)]) (by kernel_rfl) (by kernel_rfl) (eqL_cons (a := .int .i64 a0) (b := .int .i64 b0) (by kernel_rfl) (by kernel_rfl) (by kernel_rfl) (eqL_cons (a := .int .i64 a1) (b := .int .i64 b1) (by kernel_rfl) (by kernel_rfl) (by kernel_rfl) (eqL_cons (a := .int .i64 a2) (b := .int .i64 b2) (by kernel_rfl) (by kernel_rfl) (by kernel_rfl) (eqL_cons (a := .int .u64 a3) (b := .int .u64 b3) (by kernel_rfl) (by kernel_rfl) (by kernel_rfl) rfl))))
theorem eq_op (x y : Operand) (a b : Opn) : gBinF Q .eql 25 x y (opV a) (opV b) = some (.bool (decide (a = b))) := by
  rw [eql_aggF (op := .eql) (by kernel_rfl) (by kernel_rfl) (by kernel_rfl) (req_25 a.1 a.2.1 a.2.2.1 a.2.2.2 b.1 b.2.1 b.2.2.1 b.2.2.2)]
  congr 2
  rw [Bool.eq_iff_iff]
  simp [Prod.ext_iff]
theorem same16_lp (orc : FuncId → Bool) (A B : List (Int)) (v0 v1 : Value) : ∀ (k i : Nat) (s : Bool) (τ : Env) (G : GS), i + k = A.length → τ 0 = v0 → τ 1 = v1 → τ 5 = .bool s → τ 6 = .int .i64 i →
    SlR (rowsI .i64) G v0 A → SlR (rowsI .i64) G v1 B → A.length < 2 ^ 47 → (s = true → A.length = B.length) →
    Wp ((exL Q orc).lpx 16 0 τ G) fun r => r.1 = .exit 0 ∧ Ext G r.2.2 ∧ r.2.1 5 = .bool (s && decide (A.drop i = B.drop i)) := by
  intro k
  induction k with
  | zero =>
    intro i s τ G hi h0 h1 h5 h6 hA hB hlt hs
    have hi' : i = A.length := by omega
    obtain ⟨a, c, rfl⟩ := hA.len
    refine Wp.lp (l16_0 (exL_ok Q orc)) ?_
    cases s with
    | false => simp [b16_0, clip_t, h0, h1, h5, h6, Ext.refl]
    | true =>
      have hd : A.drop i = B.drop i := by
        rw [hi', List.drop_length, List.drop_of_length_le (by rw [hs rfl]; omega)]
      simp [b16_0, clip_t, h0, h1, h5, h6, hd]
      simp [hi', Ext.refl, clip_t]
  | succ k ih =>
    intro i s τ G hi h0 h1 h5 h6 hA hB hlt hs
    refine Wp.lp (l16_0 (exL_ok Q orc)) ?_
    cases s with
    | false => simp [b16_0, clip_t, h0, h1, h5, h6, Ext.refl]
    | true =>
      have hl := hs rfl
      have hiA : i < A.length := by omega
      have hiB : i < B.length := by omega
      have he : Ext G (G.room 10) := (Ext.refl G).room 10
      obtain ⟨b, o, c, e0, _, q0, _⟩ := (hA.ext he).at hiA
      obtain ⟨b', o', c', e1, _, q1, _⟩ := (hB.ext he).at hiB
      have hc := q0 0 (by decide)
      have hc' := q1 0 (by decide)
      simp [rowsI_sz, rowsI_row, rAn_sz, rAn_row, rOp_sz, rOp_row] at hc hc'
      have hw : IntKind.wrap .i64 ((i : Int) + 1) = ((i + 1 : Nat) : Int) := wrap64 (by omega) (by omega)
      have hi0 : (0 : Int) ≤ i := by omega
      have hdr : decide (A.drop i = B.drop i) = (decide (A[i] = B[i]) && decide (A.drop (i + 1) = B.drop (i + 1))) := by
        rw [Bool.eq_iff_iff, List.drop_eq_getElem_cons hiA, List.drop_eq_getElem_cons hiB]
        simp only [decide_eq_true_eq, Bool.and_eq_true, List.cons.injEq]
      rw [hdr]
      simp [-Int.natCast_add, b16_0, clip_t, h0, h1, h5, h6, e0, e1, hc, hc', hw, hiA, hiB, hi0]
      refine (ih (i + 1) (decide (A[i] = B[i])) _ (G.room 10) (by omega) (by simp [clip_t, e0]) (by simp [clip_t, e1]) (by simp [clip_t]) (by simp [clip_t]) (hA.ext he) (hB.ext he) hlt (fun _ => hl)).mono ?_
      rintro r ⟨h1, h2, h3⟩
      exact ⟨h1, he.trans h2, h3⟩
theorem same16 (orc : FuncId → Bool) {A B : List (Int)} {v0 v1 : Value} {G : GS} (hA : SlR (rowsI .i64) G v0 A) (hB : SlR (rowsI .i64) G v1 B) (hlt : A.length < 2 ^ 47) :
    ∃ G', (E orc).cl 16 [v0, v1] G = some (.bool (decide (A = B)), G') ∧ Ext G G' := by
  obtain ⟨a, c, ha⟩ := hA.len
  obtain ⟨b, d, hb⟩ := hB.len
  have l0 : ∀ t, ln Q true t v0 = some (.int .i64 A.length) := fun t => by rw [ha]; simp
  have l1 : ∀ t, ln Q true t v1 = some (.int .i64 B.length) := fun t => by rw [hb]; simp
  have hd : (decide ((A.length : Int) = (B.length : Int)) && decide (A.drop 0 = B.drop 0)) = decide (A = B) := by
    by_cases h : A = B
    · simp [h]
    · simp [h]
  have w : Wp (s16 true (exL Q orc) v0 v1 G) fun r => r.1 = .bool (decide (A = B)) ∧ Ext G r.2 := by
    simp [s16, l0, l1]
    refine Wp.bE ((same16_lp orc A B v0 v1 A.length 0 (decide ((A.length : Int) = (B.length : Int))) _ G (by omega) rfl rfl (by simp) rfl hA hB hlt (fun h => by simp at h; omega)).mono ?_)
    rintro ⟨e, τ, G'⟩ ⟨rfl, x, y⟩
    rw [hd] at y
    simp only at x y
    simp [y, x]
  obtain ⟨⟨v, G'⟩, e1, rfl, e3⟩ := w
  exact ⟨G', f16 (exL_ok Q orc) _ _ G _ e1, e3⟩
theorem same17_lp (orc : FuncId → Bool) (A B : List (An)) (v0 v1 : Value) : ∀ (k i : Nat) (s : Bool) (τ : Env) (G : GS), i + k = A.length → τ 0 = v0 → τ 1 = v1 → τ 5 = .bool s → τ 6 = .int .i64 i →
    SlR (rAn) G v0 A → SlR (rAn) G v1 B → A.length < 2 ^ 47 → (s = true → A.length = B.length) →
    Wp ((exL Q orc).lpx 17 0 τ G) fun r => r.1 = .exit 0 ∧ Ext G r.2.2 ∧ r.2.1 5 = .bool (s && decide (A.drop i = B.drop i)) := by
  intro k
  induction k with
  | zero =>
    intro i s τ G hi h0 h1 h5 h6 hA hB hlt hs
    have hi' : i = A.length := by omega
    obtain ⟨a, c, rfl⟩ := hA.len
    refine Wp.lp (l17_0 (exL_ok Q orc)) ?_
    cases s with
    | false => simp [b17_0, clip_t, h0, h1, h5, h6, Ext.refl]
    | true =>
      have hd : A.drop i = B.drop i := by
        rw [hi', List.drop_length, List.drop_of_length_le (by rw [hs rfl]; omega)]
      simp [b17_0, clip_t, h0, h1, h5, h6, hd]
      simp [hi', Ext.refl, clip_t]
  | succ k ih =>
    intro i s τ G hi h0 h1 h5 h6 hA hB hlt hs
    refine Wp.lp (l17_0 (exL_ok Q orc)) ?_
    cases s with
    | false => simp [b17_0, clip_t, h0, h1, h5, h6, Ext.refl]
    | true =>
      have hl := hs rfl
      have hiA : i < A.length := by omega
      have hiB : i < B.length := by omega
      have he : Ext G (G.room 10) := (Ext.refl G).room 10
      obtain ⟨b, o, c, e0, _, _, hc⟩ := (hA.ext he).at hiA
      obtain ⟨b', o', c', e1, _, _, hc'⟩ := (hB.ext he).at hiB
      simp [rowsI_sz, rowsI_row, rAn_sz, rAn_row, rOp_sz, rOp_row] at hc hc'
      have hw : IntKind.wrap .i64 ((i : Int) + 1) = ((i + 1 : Nat) : Int) := wrap64 (by omega) (by omega)
      have hi0 : (0 : Int) ≤ i := by omega
      have hdr : decide (A.drop i = B.drop i) = (decide (A[i] = B[i]) && decide (A.drop (i + 1) = B.drop (i + 1))) := by
        rw [Bool.eq_iff_iff, List.drop_eq_getElem_cons hiA, List.drop_eq_getElem_cons hiB]
        simp only [decide_eq_true_eq, Bool.and_eq_true, List.cons.injEq]
      rw [hdr]
      simp [-Int.natCast_add, b17_0, clip_t, h0, h1, h5, h6, e0, e1, hc, hc', eq_an, hw, hiA, hiB, hi0]
      refine (ih (i + 1) (decide (A[i] = B[i])) _ (G.room 10) (by omega) (by simp [clip_t, e0]) (by simp [clip_t, e1]) (by simp [clip_t]) (by simp [clip_t]) (hA.ext he) (hB.ext he) hlt (fun _ => hl)).mono ?_
      rintro r ⟨h1, h2, h3⟩
      exact ⟨h1, he.trans h2, h3⟩
theorem same17 (orc : FuncId → Bool) {A B : List (An)} {v0 v1 : Value} {G : GS} (hA : SlR (rAn) G v0 A) (hB : SlR (rAn) G v1 B) (hlt : A.length < 2 ^ 47) :
    ∃ G', (E orc).cl 17 [v0, v1] G = some (.bool (decide (A = B)), G') ∧ Ext G G' := by
  obtain ⟨a, c, ha⟩ := hA.len
  obtain ⟨b, d, hb⟩ := hB.len
  have l0 : ∀ t, ln Q true t v0 = some (.int .i64 A.length) := fun t => by rw [ha]; simp
  have l1 : ∀ t, ln Q true t v1 = some (.int .i64 B.length) := fun t => by rw [hb]; simp
  have hd : (decide ((A.length : Int) = (B.length : Int)) && decide (A.drop 0 = B.drop 0)) = decide (A = B) := by
    by_cases h : A = B
    · simp [h]
    · simp [h]
  have w : Wp (s17 true (exL Q orc) v0 v1 G) fun r => r.1 = .bool (decide (A = B)) ∧ Ext G r.2 := by
    simp [s17, l0, l1]
    refine Wp.bE ((same17_lp orc A B v0 v1 A.length 0 (decide ((A.length : Int) = (B.length : Int))) _ G (by omega) rfl rfl (by simp) rfl hA hB hlt (fun h => by simp at h; omega)).mono ?_)
    rintro ⟨e, τ, G'⟩ ⟨rfl, x, y⟩
    rw [hd] at y
    simp only at x y
    simp [y, x]
  obtain ⟨⟨v, G'⟩, e1, rfl, e3⟩ := w
  exact ⟨G', f17 (exL_ok Q orc) _ _ G _ e1, e3⟩
theorem same25_lp (orc : FuncId → Bool) (A B : List (Opn)) (v0 v1 : Value) : ∀ (k i : Nat) (s : Bool) (τ : Env) (G : GS), i + k = A.length → τ 0 = v0 → τ 1 = v1 → τ 5 = .bool s → τ 6 = .int .i64 i →
    SlR (rOp) G v0 A → SlR (rOp) G v1 B → A.length < 2 ^ 47 → (s = true → A.length = B.length) →
    Wp ((exL Q orc).lpx 25 0 τ G) fun r => r.1 = .exit 0 ∧ Ext G r.2.2 ∧ r.2.1 5 = .bool (s && decide (A.drop i = B.drop i)) := by
  intro k
  induction k with
  | zero =>
    intro i s τ G hi h0 h1 h5 h6 hA hB hlt hs
    have hi' : i = A.length := by omega
    obtain ⟨a, c, rfl⟩ := hA.len
    refine Wp.lp (l25_0 (exL_ok Q orc)) ?_
    cases s with
    | false => simp [b25_0, clip_t, h0, h1, h5, h6, Ext.refl]
    | true =>
      have hd : A.drop i = B.drop i := by
        rw [hi', List.drop_length, List.drop_of_length_le (by rw [hs rfl]; omega)]
      simp [b25_0, clip_t, h0, h1, h5, h6, hd]
      simp [hi', Ext.refl, clip_t]
  | succ k ih =>
    intro i s τ G hi h0 h1 h5 h6 hA hB hlt hs
    refine Wp.lp (l25_0 (exL_ok Q orc)) ?_
    cases s with
    | false => simp [b25_0, clip_t, h0, h1, h5, h6, Ext.refl]
    | true =>
      have hl := hs rfl
      have hiA : i < A.length := by omega
      have hiB : i < B.length := by omega
      have he : Ext G (G.room 10) := (Ext.refl G).room 10
      obtain ⟨b, o, c, e0, _, _, hc⟩ := (hA.ext he).at hiA
      obtain ⟨b', o', c', e1, _, _, hc'⟩ := (hB.ext he).at hiB
      simp [rowsI_sz, rowsI_row, rAn_sz, rAn_row, rOp_sz, rOp_row] at hc hc'
      have hw : IntKind.wrap .i64 ((i : Int) + 1) = ((i + 1 : Nat) : Int) := wrap64 (by omega) (by omega)
      have hi0 : (0 : Int) ≤ i := by omega
      have hdr : decide (A.drop i = B.drop i) = (decide (A[i] = B[i]) && decide (A.drop (i + 1) = B.drop (i + 1))) := by
        rw [Bool.eq_iff_iff, List.drop_eq_getElem_cons hiA, List.drop_eq_getElem_cons hiB]
        simp only [decide_eq_true_eq, Bool.and_eq_true, List.cons.injEq]
      rw [hdr]
      simp [-Int.natCast_add, b25_0, clip_t, h0, h1, h5, h6, e0, e1, hc, hc', eq_op, hw, hiA, hiB, hi0]
      refine (ih (i + 1) (decide (A[i] = B[i])) _ (G.room 10) (by omega) (by simp [clip_t, e0]) (by simp [clip_t, e1]) (by simp [clip_t]) (by simp [clip_t]) (hA.ext he) (hB.ext he) hlt (fun _ => hl)).mono ?_
      rintro r ⟨h1, h2, h3⟩
      exact ⟨h1, he.trans h2, h3⟩
theorem same25 (orc : FuncId → Bool) {A B : List (Opn)} {v0 v1 : Value} {G : GS} (hA : SlR (rOp) G v0 A) (hB : SlR (rOp) G v1 B) (hlt : A.length < 2 ^ 47) :
    ∃ G', (E orc).cl 25 [v0, v1] G = some (.bool (decide (A = B)), G') ∧ Ext G G' := by
  obtain ⟨a, c, ha⟩ := hA.len
  obtain ⟨b, d, hb⟩ := hB.len
  have l0 : ∀ t, ln Q true t v0 = some (.int .i64 A.length) := fun t => by rw [ha]; simp
  have l1 : ∀ t, ln Q true t v1 = some (.int .i64 B.length) := fun t => by rw [hb]; simp
  have hd : (decide ((A.length : Int) = (B.length : Int)) && decide (A.drop 0 = B.drop 0)) = decide (A = B) := by
    by_cases h : A = B
    · simp [h]
    · simp [h]
  have w : Wp (s25 true (exL Q orc) v0 v1 G) fun r => r.1 = .bool (decide (A = B)) ∧ Ext G r.2 := by
    simp [s25, l0, l1]
    refine Wp.bE ((same25_lp orc A B v0 v1 A.length 0 (decide ((A.length : Int) = (B.length : Int))) _ G (by omega) rfl rfl (by simp) rfl hA hB hlt (fun h => by simp at h; omega)).mono ?_)
    rintro ⟨e, τ, G'⟩ ⟨rfl, x, y⟩
    rw [hd] at y
    simp only at x y
    simp [y, x]
  obtain ⟨⟨v, G'⟩, e1, rfl, e3⟩ := w
  exact ⟨G', f25 (exL_ok Q orc) _ _ G _ e1, e3⟩
theorem over20_lp (orc : FuncId → Bool) (b n : Nat) (hn : n < 2 ^ 40) (ez : Nat) : ∀ (k i : Nat) (cs : List Value) (op : Bool) (τ : Env) (G : GS), i + k = n → τ 0 = .slice (some ⟨b, 0, none⟩) n n → τ 2 = .int .i64 i →
    G.obj b = some ⟨cs, ez, op, 1⟩ → cs.length = n * 1 →
    Wp ((exL Q orc).lpx 20 0 τ G) fun r => r.1 = .exit 0 ∧ ModP (fun g => g = b) G r.2.2 := by
  intro k
  induction k with
  | zero =>
    intro i cs op τ G hi h0 h2 ho hc
    refine Wp.lp (l20_0 (exL_ok Q orc)) ?_
    have : i = n := by omega
    simpa [b20_0, clip_t, h0, h2, this] using ModP.refl _ _
  | succ k ih =>
    intro i cs op τ G hi h0 h2 ho hc
    have hlt : i < n := by omega
    have hw : IntKind.wrap .i64 ((i : Int) + 1) = ((i + 1 : Nat) : Int) := wrap64 (by omega) (by omega)
    have hi0 : (0 : Int) ≤ i := by omega
    have hst : storeN 1 b (i * 1) (.int .i64 (-77)) G = some (G.put b (GObj.over ⟨cs, ez, op, 1⟩ (i * 1) [.int .i64 (-77)])) := by
      simp only [storeN, Value.cells]
      exact wrN_of ho rfl rfl (by simp; omega)
    try simp at hst
    refine Wp.lp (l20_0 (exL_ok Q orc)) ?_
    simp [-Int.natCast_add, b20_0, clip_t, h0, h2, hlt, hw, hi0, hst, fillL, fillC, splice_put, splice_end, splice_succ, Value.cells]
    refine (ih (i + 1) (overw cs (i * 1) [.int .i64 (-77)]) op _ _ (by omega) (by simp [clip_t, h0]) (by simp [clip_t]) (by simp [GObj.over]) (by simp [overw]; omega)).mono ?_
    rintro r ⟨q1, q2⟩
    exact ⟨q1, ⟨by have := q2.nx; simpa using this, fun g hg hx => (q2.obj g (by simpa using hg) hx).trans (by rw [obj_put, if_neg hx]), q2.nl, fun l hl => (q2.loop l hl)⟩⟩
theorem over20 (orc : FuncId → Bool) {B : Nat} {G : GS} {v0 : Value} {L : List (Int)} (h : OwR (rowsI .i64) B G v0 L) (hlt : L.length < 2 ^ 40) :
    ∃ G', (E orc).cl 20 [v0] G = some (.tuple #[], G') ∧ ModP (InB v0) G G' := by
  have w : Wp (s20 true (exL Q orc) v0 G) fun r => r.1 = .tuple #[] ∧ ModP (InB v0) G r.2 := by
    rcases h.2 with ⟨rfl, _⟩ | ⟨b, op, rfl, h2, h3, h4⟩
    · simp [s20]
      refine Wp.bE (Wp.lp (l20_0 (exL_ok Q orc)) ?_)
      simp [b20_0, clip_t, ModP.refl]
    · simp [s20]
      refine Wp.bE ((over20_lp orc b L.length hlt _ L.length 0 _ op _ G (by omega) rfl rfl h4 (by simpa using h.1)).mono ?_)
      rintro ⟨e, τ, G'⟩ ⟨rfl, h6⟩
      simp
      exact h6.mono fun g hg => ⟨_, _, _, rfl, hg.symm⟩
  obtain ⟨⟨v, G'⟩, e1, rfl, e3⟩ := w
  exact ⟨G', f20 (exL_ok Q orc) _ G _ e1, e3⟩
theorem over21_lp (orc : FuncId → Bool) (b n : Nat) (hn : n < 2 ^ 40) (ez : Nat) : ∀ (k i : Nat) (cs : List Value) (op : Bool) (τ : Env) (G : GS), i + k = n → τ 0 = .slice (some ⟨b, 0, none⟩) n n → τ 2 = .int .i64 i →
    G.obj b = some ⟨cs, ez, op, 1⟩ → cs.length = n * 3 →
    Wp ((exL Q orc).lpx 21 0 τ G) fun r => r.1 = .exit 0 ∧ ModP (fun g => g = b) G r.2.2 := by
  intro k
  induction k with
  | zero =>
    intro i cs op τ G hi h0 h2 ho hc
    refine Wp.lp (l21_0 (exL_ok Q orc)) ?_
    have : i = n := by omega
    simpa [b21_0, clip_t, h0, h2, this] using ModP.refl _ _
  | succ k ih =>
    intro i cs op τ G hi h0 h2 ho hc
    have hlt : i < n := by omega
    have hw : IntKind.wrap .i64 ((i : Int) + 1) = ((i + 1 : Nat) : Int) := wrap64 (by omega) (by omega)
    have hi0 : (0 : Int) ≤ i := by omega
    have hst : storeN 3 b (i * 3) (.agg ⟨[.int .i64 0, .int .i64 (-77), .int .u64 0]⟩) G = some (G.put b (GObj.over ⟨cs, ez, op, 1⟩ (i * 3) [.int .i64 0, .int .i64 (-77), .int .u64 0])) := by
      simp only [storeN, Value.cells]
      exact wrN_of ho rfl rfl (by simp; omega)
    try simp at hst
    refine Wp.lp (l21_0 (exL_ok Q orc)) ?_
    simp [-Int.natCast_add, b21_0, clip_t, h0, h2, hlt, hw, hi0, hst, fillL, fillC, splice_put, splice_end, splice_succ, Value.cells]
    refine (ih (i + 1) (overw cs (i * 3) [.int .i64 0, .int .i64 (-77), .int .u64 0]) op _ _ (by omega) (by simp [clip_t, h0]) (by simp [clip_t]) (by simp [GObj.over]) (by simp [overw]; omega)).mono ?_
    rintro r ⟨q1, q2⟩
    exact ⟨q1, ⟨by have := q2.nx; simpa using this, fun g hg hx => (q2.obj g (by simpa using hg) hx).trans (by rw [obj_put, if_neg hx]), q2.nl, fun l hl => (q2.loop l hl)⟩⟩
theorem over21 (orc : FuncId → Bool) {B : Nat} {G : GS} {v0 : Value} {L : List (An)} (h : OwR (rAn) B G v0 L) (hlt : L.length < 2 ^ 40) :
    ∃ G', (E orc).cl 21 [v0] G = some (.tuple #[], G') ∧ ModP (InB v0) G G' := by
  have w : Wp (s21 true (exL Q orc) v0 G) fun r => r.1 = .tuple #[] ∧ ModP (InB v0) G r.2 := by
    rcases h.2 with ⟨rfl, _⟩ | ⟨b, op, rfl, h2, h3, h4⟩
    · simp [s21]
      refine Wp.bE (Wp.lp (l21_0 (exL_ok Q orc)) ?_)
      simp [b21_0, clip_t, ModP.refl]
    · simp [s21]
      refine Wp.bE ((over21_lp orc b L.length hlt _ L.length 0 _ op _ G (by omega) rfl rfl h4 (by simpa using h.1)).mono ?_)
      rintro ⟨e, τ, G'⟩ ⟨rfl, h6⟩
      simp
      exact h6.mono fun g hg => ⟨_, _, _, rfl, hg.symm⟩
  obtain ⟨⟨v, G'⟩, e1, rfl, e3⟩ := w
  exact ⟨G', f21 (exL_ok Q orc) _ G _ e1, e3⟩
theorem copy9 (orc : FuncId → Bool) {A : List (Int)} {v0 : Value} {G : GS} (hA : SlR (rowsI .i64) G v0 A) (hlt : A.length < 2 ^ 36) :
    ∃ v' G', (E orc).cl 9 [v0] G = some (v', G') ∧ Ext G G' ∧ OwR (rowsI .i64) G.nx G' v' A := by
  obtain ⟨v', G', h1, h2, h3⟩ := OwR.app (A := G) (ib := 8) (OwR.made (rowsI .i64) G) (by decide) ((Ext.refl G).push _) (hA.ext ((Ext.refl G).push _)) (by simp; omega)
  refine ⟨v', G', f9 (exL_ok Q orc) _ G _ ?_, h2, by simpa using h3⟩
  simp only [rowsI_sz, rowsI_row, rAn_sz, rAn_row, rOp_sz, rOp_row] at h1
  simp [s9, rep, fillS, fillC, h1]
theorem copy22 (orc : FuncId → Bool) {A : List (Opn)} {v0 : Value} {G : GS} (hA : SlR (rOp) G v0 A) (hlt : A.length < 2 ^ 36) :
    ∃ v' G', (E orc).cl 22 [v0] G = some (v', G') ∧ Ext G G' ∧ OwR (rOp) G.nx G' v' A := by
  obtain ⟨v', G', h1, h2, h3⟩ := OwR.app (A := G) (ib := 32) (OwR.made (rOp) G) (by decide) ((Ext.refl G).push _) (hA.ext ((Ext.refl G).push _)) (by simp; omega)
  refine ⟨v', G', f22 (exL_ok Q orc) _ G _ ?_, h2, by simpa using h3⟩
  simp only [rowsI_sz, rowsI_row, rAn_sz, rAn_row, rOp_sz, rOp_row] at h1
  simp [s22, rep, fillS, fillC, h1]
end Go.Proofs.YtocbppgkgcoehaaDoor.Lift

set_option linter.unusedVariables false
set_option linter.unusedSimpArgs false
set_option maxRecDepth 20000
namespace Go.Proofs.YtocbppgkgcoehaaDoor.Lift
open Go Go.Proofs.YtocbppgkgcoehaaDoor.Gh Go.Proofs
def ascB : List Int → Bool
  | a :: b :: r => decide (a < b) && ascB (b :: r)
  | _ => true
def checkI (l : List Int) : Int := if l.all inI = true then (if ascB l = true then 0 else 9) else 3
def firstW (n : Nat) : List Nat := (List.range n).foldl withW zW
theorem firstW_succ (n : Nat) : firstW (n + 1) = withW (firstW n) n := by unfold firstW; rw [List.range_succ, List.foldl_append]; rfl
theorem firstW_ok : ∀ n, OkW (firstW n)
  | 0 => zW_ok
  | n + 1 => by rw [firstW_succ]; exact (firstW_ok n).with n
theorem has_first : ∀ {n : Nat}, n ≤ 1024 → ∀ (j : Nat), has (firstW n) j = decide (j < n)
  | 0, _, j => by show has zW j = _; rw [has_z]; simp
  | n + 1, h, j => by
    rw [firstW_succ, has_with (firstW_ok n) (by omega), has_first (by omega)]
    rw [Bool.eq_iff_iff]; simp; omega
def lowN (n : Int) : Nat := (min (max n 0) 1024).toNat
section
variable {G B : GS} {W : List Nat} {A : List Int} {v0 : Value}
theorem first_lp (orc : FuncId → Bool) {sb rb n : Nat} (hn : n ≤ 1024) (hsb : B.nx ≤ sb) (hrs : rb ≠ sb) : ∀ (k i : Nat) (τ : Env) (G : GS), i + k = n → τ 2 = P0 rb → τ 3 = P0 sb → τ 7 = .int .i64 (n : Int) → τ 8 = .int .i64 (i : Int) → Ext B G → sb < G.nx → rb < G.nx → G.obj sb = some ⟨setC (firstW i), 1, false, 1⟩ → G.obj rb = some ⟨setC zW, 1, false, 1⟩ →
    Wp ((exL Q orc).lpx 42 0 τ G) fun q => q.1 = .exit 0 ∧ Ext B q.2.2 ∧ q.2.2.obj sb = some ⟨setC (firstW n), 1, false, 1⟩ ∧ q.2.2.obj rb = some ⟨setC zW, 1, false, 1⟩ ∧ q.2.1 2 = P0 rb ∧ q.2.1 3 = P0 sb := by
  intro k
  induction k with
  | zero =>
    intro i τ G hi t2 t3 t7 t8 x hs hr os or
    have hi' : i = n := by omega
    subst hi'
    refine Wp.lp (l42_0 (exL_ok Q orc)) ?_
    simp [b42_0, clip_t, t2, t3, t7, t8]
    exact ⟨x, os, or⟩
  | succ k ih =>
    intro i τ G hi t2 t3 t7 t8 x hs hr os or
    have hlt : i < n := by omega
    have hw : IntKind.wrap .i64 ((i : Int) + 1) = ((i + 1 : Nat) : Int) := wrap64 (by omega) (by omega)
    have h1 : (i : Int) < n := by omega
    have hW := firstW_ok i
    obtain ⟨G1, e1, x1⟩ := with_ok orc hW (by omega : i < 1024) G
    rw [← firstW_succ] at e1
    have hW1 := firstW_ok (i + 1)
    have os1 := (x1.obj sb hs).trans os
    have or1 := (x1.obj rb hr).trans or
    have n1 := x1.nx
    refine Wp.lp (l42_0 (exL_ok Q orc)) ?_
    simp [-Int.natCast_add, b42_0, clip_t, t2, t3, t7, t8, h1, hlt, os, setC_len hW, setC_take hW, e1, os1, setC_sto hW1 (setC_len hW), hw]
    refine ih (i + 1) _ (G1.put sb ⟨setC (firstW (i + 1)), 1, false, 1⟩) (by omega) ?_ ?_ ?_ ?_ ((x.trans x1).put hsb _) (by simp; omega) (by simp; omega) (by simp) (by simp [hrs, or1]) <;> simp [clip_t, t2, t3]
theorem first_ok (orc : FuncId → Bool) (n : Int) (G : GS) : ∃ G', (E orc).cl 42 [.int .i64 n] G = some (setV (firstW (lowN n)), G') ∧ Ext G G' := by
  have w : Wp ((E orc).cl 42 [.int .i64 n] G) fun q => q.1 = setV (firstW (lowN n)) ∧ Ext G q.2 := by
    refine Wp.ref (f42 (exL_ok Q orc) _ G) ?_
    have x0 : Ext G ((G.push ⟨z57, 1, false, 1⟩).push ⟨z57, 1, false, 1⟩) := ((Ext.refl G).push _).push _
    obtain ⟨m, hm⟩ : ∃ m, lowN n = m := ⟨_, rfl⟩
    have hm2 : m ≤ 1024 := by rw [← hm]; unfold lowN; omega
    have e1 : (if (1024 : Int) < (if 0 > n then 0 else n) then (1024 : Int) else (if 0 > n then 0 else n)) = (m : Int) := by
      rw [← hm]; unfold lowN; split <;> split at * <;> omega
    rw [hm]
    simp [s42]
    have e2 : (if (1024 : Int) < (if n < 0 then 0 else n) then (1024 : Int) else (if n < 0 then 0 else n)) = (m : Int) := e1
    rw [e2]
    refine Wp.bE ((first_lp orc (B := G) (rb := G.nx) (sb := G.nx + 1) hm2 (by omega) (by omega) m 0 _ _ (by omega) (by simp) (by simp) (by simp) (by simp) x0 (by simp) (by simp; omega) (by simp; rfl) (by simp; rfl)).mono ?_)
    rintro ⟨e, τ, G'⟩ ⟨rfl, x, o1, o2, t2, t3⟩
    simp only at x o1 o2 t2 t3
    have hW := firstW_ok m
    simp [t2, t3, o1, o2, setC_len hW, setC_take hW, setC_sto hW (setC_len zW_ok)]
    exact x.put (Nat.le_refl _) _
  obtain ⟨⟨v, G'⟩, e, rfl, x⟩ := w
  exact ⟨G', e, x⟩
theorem index_ok (orc : FuncId → Bool) (i : Int) (G : GS) : (E orc).cl 41 [.int .i64 i] G = some (.bool (inI i), G) := by
  refine f41 (exL_ok Q orc) _ G _ ?_
  unfold inI
  by_cases h : 0 ≤ i
  · simp [s41, h]
  · simp [s41, h]
theorem inside_ok' (orc : FuncId → Bool) (i : Int) (G : GS) : (E orc).cl 35 [.int .i64 i] G = some (.bool (inI i), G) := inside_ok orc i G
theorem rng_lp (orc : FuncId → Bool) (hA : SlR (rowsI .i64) G v0 A) (hlen : A.length < 2 ^ 47) : ∀ (k i : Nat) (τ : Env), i + k = A.length → τ 0 = v0 → τ 6 = v0 → τ 7 = .int .i64 A.length → τ 8 = .int .i64 (i : Int) →
    Wp ((exL Q orc).lpx 18 0 τ G) fun q => q.2.2 = G ∧ ((q.1 = .exit 0 ∧ (A.drop i).all inI = true ∧ q.2.1 0 = v0) ∨ (q.1 = .ret ∧ (A.drop i).all inI = false ∧ q.2.1 2 = .int .i64 3)) := by
  intro k
  induction k with
  | zero =>
    intro i τ hi t0 t6 t7 t8
    have hi' : i = A.length := by omega
    refine Wp.lp (l18_0 (exL_ok Q orc)) ?_
    subst hi'
    simp [b18_0, clip_t, t0, t6, t7, t8]
  | succ k ih =>
    intro i τ hi t0 t6 t7 t8
    have hlt : i < A.length := by omega
    have hw : IntKind.wrap .i64 ((i : Int) + 1) = ((i + 1 : Nat) : Int) := wrap64 (by omega) (by omega)
    have h1 : (i : Int) < A.length := by omega
    have h2 : (0 : Int) ≤ i := by omega
    obtain ⟨b, o, c, e0, _, q, _⟩ := hA.at hlt
    have q0 := q 0 (by decide)
    simp at q0
    rw [List.drop_eq_getElem_cons hlt]
    generalize A[i] = y at *
    refine Wp.lp (l18_0 (exL_ok Q orc)) ?_
    cases hy : inI y with
    | true =>
      simp [-Int.natCast_add, b18_0, clip_t, t0, t6, t7, t8, e0, h1, h2, hlt, q0, inside_ok', hy, hw]
      refine Wp.mono (ih (i + 1) _ (by omega) ?_ ?_ ?_ ?_) fun q hq => ?_
      · simp [clip_t, t0]
      · simp [clip_t, e0]
      · simp [clip_t]
      · simp [clip_t]
      · simpa [e0] using hq
    | false =>
      simp [-Int.natCast_add, b18_0, clip_t, t0, t6, t7, t8, e0, h1, h2, hlt, q0, inside_ok', hy, hw]
theorem asc_step {i : Nat} (h : i + 1 < A.length) : ascB (A.drop i) = (decide (A[i] < A[i + 1]) && ascB (A.drop (i + 1))) := by
  rw [List.drop_eq_getElem_cons (by omega : i < A.length), List.drop_eq_getElem_cons h, ascB]
theorem asc_end {i : Nat} (h : A.length ≤ i + 1) : ascB (A.drop i) = true := by
  have : (A.drop i).length ≤ 1 := by rw [List.length_drop]; omega
  match hd : A.drop i, this with
  | [], _ => rfl
  | [_], _ => rfl
theorem asc_lp (orc : FuncId → Bool) (hA : SlR (rowsI .i64) B v0 A) (hlen : A.length < 2 ^ 47) : ∀ (k i : Nat) (τ : Env) (G : GS), A.length ≤ i + 1 + k → τ 0 = v0 → τ 5 = .int .i64 ((i + 1 : Nat) : Int) → Ext B G →
    Wp ((exL Q orc).lpx 18 1 τ G) fun q => Ext B q.2.2 ∧ ((q.1 = .exit 2 ∧ ascB (A.drop i) = true) ∨ (q.1 = .ret ∧ ascB (A.drop i) = false ∧ q.2.1 2 = .int .i64 9)) := by
  intro k
  induction k with
  | zero =>
    intro i τ G hi t0 t5 x
    have hn : ¬ ((i + 1 : Nat) : Int) < A.length := by omega
    obtain ⟨a, c, e0⟩ := hA.len
    refine Wp.lp (l18_1 (exL_ok Q orc)) ?_
    simp [-Int.natCast_add, b18_1, clip_t, t0, t5, e0, hn, asc_end (show A.length ≤ i + 1 by omega)]
    exact x
  | succ k ih =>
    intro i τ G hi t0 t5 x
    by_cases hlt : i + 1 < A.length
    · have hw : IntKind.wrap .i64 (((i + 1 : Nat) : Int) + 1) = ((i + 1 + 1 : Nat) : Int) := by rw [show ((i + 1 : Nat) : Int) + 1 = ((i + 1 + 1 : Nat) : Int) by omega]; exact wrap64 (by omega) (by omega)
      have hw3 : IntKind.wrap .i64 (((i + 1 : Nat) : Int) - 1) = (i : Int) := by rw [show ((i + 1 : Nat) : Int) - 1 = (i : Int) by omega]; exact wrap64 (by omega) (by omega)
      have h1 : ((i + 1 : Nat) : Int) < A.length := by omega
      have h2 : (0 : Int) ≤ ((i + 1 : Nat) : Int) := by omega
      have h3 : (i : Int) < A.length := by omega
      have h4 : i < A.length := by omega
      have x1 := x.room 10
      obtain ⟨b, o, c, e0, _, q, _⟩ := (hA.ext x).at hlt
      have q0 := q 0 (by decide)
      obtain ⟨b', o', c', e0', _, q', _⟩ := (hA.ext x).at h4
      have q0' := q' 0 (by decide)
      rw [e0] at e0'
      simp only [Value.slice.injEq, Option.some.injEq, Addr.mk.injEq, and_true, true_and] at e0'
      obtain ⟨⟨rfl, rfl⟩, rfl⟩ := e0'
      simp at q0 q0'
      rw [asc_step hlt]
      refine Wp.lp (l18_1 (exL_ok Q orc)) ?_
      by_cases hc : A[i] < A[i + 1]
      · have hc' : ¬ A[i + 1] ≤ A[i] := by omega
        simp [-Int.natCast_add, b18_1, clip_t, t0, t5, e0, h1, h2, h3, h4, hlt, q0, q0', hw, hw3, hc, hc']
        refine Wp.mono (ih (i + 1) _ _ (by omega) ?_ ?_ x1) fun q hq => ?_
        · simp [clip_t, e0]
        · simp [clip_t]
        · exact hq
      · have hc' : A[i + 1] ≤ A[i] := by omega
        simp [-Int.natCast_add, b18_1, clip_t, t0, t5, e0, h1, h2, h3, h4, hlt, q0, q0', hw, hw3, hc, hc']
        exact x1
    · have hn : ¬ ((i + 1 : Nat) : Int) < A.length := by omega
      obtain ⟨a, c, e0⟩ := hA.len
      refine Wp.lp (l18_1 (exL_ok Q orc)) ?_
      simp [-Int.natCast_add, b18_1, clip_t, t0, t5, e0, hn, asc_end (show A.length ≤ i + 1 by omega)]
      exact x
theorem check_ok (orc : FuncId → Bool) (hA : SlR (rowsI .i64) G v0 A) (hlen : A.length < 2 ^ 47) : ∃ G', (E orc).cl 18 [v0] G = some (.int .i64 (checkI A), G') ∧ Ext G G' := by
  obtain ⟨a, c, e0⟩ := hA.len
  have l0 : ln Q true 22 v0 = some (.int .i64 A.length) := by rw [e0]; simp
  have w : Wp ((E orc).cl 18 [v0] G) fun q => q.1 = .int .i64 (checkI A) ∧ Ext G q.2 := by
    refine Wp.ref (f18 (exL_ok Q orc) _ G) ?_
    simp [s18, l0]
    refine Wp.bE ((rng_lp orc hA hlen A.length 0 _ (by omega) (by simp) (by simp) (by simp) (by simp)).mono ?_)
    rintro ⟨e, τ, G'⟩ ⟨h1, (⟨h2, h3, h4⟩ | ⟨h2, h3, h4⟩)⟩
    · simp only [List.drop_zero] at h1 h2 h3 h4
      subst h1 h2
      simp
      refine Wp.bE ((asc_lp orc hA hlen A.length 0 _ _ (by omega) (by simp [h4]) (by simp) (Ext.refl _)).mono ?_)
      rintro ⟨e, τ', G'⟩ ⟨x, (⟨h5, h6⟩ | ⟨h5, h6, h7⟩)⟩
      · simp only [List.drop_zero] at x h5 h6
        subst h5
        simp [checkI, h3, h6, x]
      · simp only [List.drop_zero] at x h5 h6 h7
        subst h5
        simp [checkI, h3, h6, h7, x]
    · simp only [List.drop_zero] at h1 h2 h3 h4
      subst h1 h2
      simp [checkI, h3, h4, Ext.refl]
  obtain ⟨⟨v, G'⟩, e, rfl, x⟩ := w
  exact ⟨G', e, x⟩
end
end Go.Proofs.YtocbppgkgcoehaaDoor.Lift

set_option linter.unusedVariables false
set_option linter.unusedSimpArgs false
set_option maxRecDepth 20000
namespace Go.Proofs.YtocbppgkgcoehaaDoor.Lift
open Go Go.Proofs.YtocbppgkgcoehaaDoor.Gh Go.Proofs
section
variable {G B : GS} {W : List Nat} {A : List Int} {v0 : Value}
theorem rrng_lp (orc : FuncId → Bool) (hA : SlR (rowsI .i64) G v0 A) (hlen : A.length < 2 ^ 47) : ∀ (k i : Nat) (τ : Env), i + k = A.length → τ 0 = v0 → τ 3 = .int .i64 (i : Int) →
    Wp ((exL Q orc).lpx 19 0 τ G) fun q => q.2.2 = G ∧ ((q.1 = .exit 0 ∧ (A.drop i).all inI = true ∧ q.2.1 0 = v0) ∨ (q.1 = .ret ∧ (A.drop i).all inI = false ∧ q.2.1 2 = .int .i64 3)) := by
  intro k
  induction k with
  | zero =>
    intro i τ hi t0 t8
    have hi' : i = A.length := by omega
    refine Wp.lp (l19_0 (exL_ok Q orc)) ?_
    subst hi'
    obtain ⟨a, c, e0⟩ := hA.len
    simp [b19_0, clip_t, t0, t8, e0]
  | succ k ih =>
    intro i τ hi t0 t8
    have hlt : i < A.length := by omega
    have hw : IntKind.wrap .i64 ((i : Int) + 1) = ((i + 1 : Nat) : Int) := wrap64 (by omega) (by omega)
    have h1 : (i : Int) < A.length := by omega
    have h2 : (0 : Int) ≤ i := by omega
    obtain ⟨b, o, c, e0, _, q, _⟩ := hA.at hlt
    have q0 := q 0 (by decide)
    simp at q0
    rw [List.drop_eq_getElem_cons hlt]
    generalize A[i] = y at *
    refine Wp.lp (l19_0 (exL_ok Q orc)) ?_
    cases hy : inI y with
    | true =>
      simp [-Int.natCast_add, b19_0, clip_t, t0, t8, e0, h1, h2, hlt, q0, index_ok, hy, hw]
      refine Wp.mono (ih (i + 1) _ (by omega) ?_ ?_) fun q hq => ?_
      · simp [clip_t, e0]
      · simp [clip_t]
      · simpa [e0] using hq
    | false =>
      simp [-Int.natCast_add, b19_0, clip_t, t0, t8, e0, h1, h2, hlt, q0, index_ok, hy, hw]
theorem rasc_lp (orc : FuncId → Bool) (hA : SlR (rowsI .i64) B v0 A) (hlen : A.length < 2 ^ 47) : ∀ (k i : Nat) (τ : Env) (G : GS), A.length ≤ i + 1 + k → τ 0 = v0 → τ 4 = .int .i64 ((i + 1 : Nat) : Int) → Ext B G →
    Wp ((exL Q orc).lpx 19 1 τ G) fun q => Ext B q.2.2 ∧ ((q.1 = .exit 2 ∧ ascB (A.drop i) = true) ∨ (q.1 = .ret ∧ ascB (A.drop i) = false ∧ q.2.1 2 = .int .i64 9)) := by
  intro k
  induction k with
  | zero =>
    intro i τ G hi t0 t5 x
    have hn : ¬ ((i + 1 : Nat) : Int) < A.length := by omega
    obtain ⟨a, c, e0⟩ := hA.len
    refine Wp.lp (l19_1 (exL_ok Q orc)) ?_
    simp [-Int.natCast_add, b19_1, clip_t, t0, t5, e0, hn, asc_end (show A.length ≤ i + 1 by omega)]
    exact x
  | succ k ih =>
    intro i τ G hi t0 t5 x
    by_cases hlt : i + 1 < A.length
    · have hw : IntKind.wrap .i64 (((i + 1 : Nat) : Int) + 1) = ((i + 1 + 1 : Nat) : Int) := by rw [show ((i + 1 : Nat) : Int) + 1 = ((i + 1 + 1 : Nat) : Int) by omega]; exact wrap64 (by omega) (by omega)
      have hw3 : IntKind.wrap .i64 (((i + 1 : Nat) : Int) - 1) = (i : Int) := by rw [show ((i + 1 : Nat) : Int) - 1 = (i : Int) by omega]; exact wrap64 (by omega) (by omega)
      have h1 : ((i + 1 : Nat) : Int) < A.length := by omega
      have h2 : (0 : Int) ≤ ((i + 1 : Nat) : Int) := by omega
      have h3 : (i : Int) < A.length := by omega
      have h4 : i < A.length := by omega
      have x1 := x.room 10
      obtain ⟨b, o, c, e0, _, q, _⟩ := (hA.ext x).at hlt
      have q0 := q 0 (by decide)
      obtain ⟨b', o', c', e0', _, q', _⟩ := (hA.ext x).at h4
      have q0' := q' 0 (by decide)
      rw [e0] at e0'
      simp only [Value.slice.injEq, Option.some.injEq, Addr.mk.injEq, and_true, true_and] at e0'
      obtain ⟨⟨rfl, rfl⟩, rfl⟩ := e0'
      simp at q0 q0'
      rw [asc_step hlt]
      refine Wp.lp (l19_1 (exL_ok Q orc)) ?_
      by_cases hc : A[i] < A[i + 1]
      · have hc' : ¬ A[i + 1] ≤ A[i] := by omega
        simp [-Int.natCast_add, b19_1, clip_t, t0, t5, e0, h1, h2, h3, h4, hlt, q0, q0', hw, hw3, hc, hc']
        refine Wp.mono (ih (i + 1) _ _ (by omega) ?_ ?_ x1) fun q hq => ?_
        · simp [clip_t, e0]
        · simp [clip_t]
        · exact hq
      · have hc' : A[i + 1] ≤ A[i] := by omega
        simp [-Int.natCast_add, b19_1, clip_t, t0, t5, e0, h1, h2, h3, h4, hlt, q0, q0', hw, hw3, hc, hc']
        exact x1
    · have hn : ¬ ((i + 1 : Nat) : Int) < A.length := by omega
      obtain ⟨a, c, e0⟩ := hA.len
      refine Wp.lp (l19_1 (exL_ok Q orc)) ?_
      simp [-Int.natCast_add, b19_1, clip_t, t0, t5, e0, hn, asc_end (show A.length ≤ i + 1 by omega)]
      exact x
theorem rcheck_ok (orc : FuncId → Bool) (hA : SlR (rowsI .i64) G v0 A) (hlen : A.length < 2 ^ 47) : ∃ G', (E orc).cl 19 [v0] G = some (.int .i64 (checkI A), G') ∧ Ext G G' := by
  obtain ⟨a, c, e0⟩ := hA.len
  have l0 : ln Q true 22 v0 = some (.int .i64 A.length) := by rw [e0]; simp
  have w : Wp ((E orc).cl 19 [v0] G) fun q => q.1 = .int .i64 (checkI A) ∧ Ext G q.2 := by
    refine Wp.ref (f19 (exL_ok Q orc) _ G) ?_
    simp [s19]
    refine Wp.bE ((rrng_lp orc hA hlen A.length 0 _ (by omega) (by simp) (by simp)).mono ?_)
    rintro ⟨e, τ, G'⟩ ⟨h1, (⟨h2, h3, h4⟩ | ⟨h2, h3, h4⟩)⟩
    · simp only [List.drop_zero] at h1 h2 h3 h4
      subst h1 h2
      simp
      refine Wp.bE ((rasc_lp orc hA hlen A.length 0 _ _ (by omega) (by simp [h4]) (by simp) (Ext.refl _)).mono ?_)
      rintro ⟨e, τ', G'⟩ ⟨x, (⟨h5, h6⟩ | ⟨h5, h6, h7⟩)⟩
      · simp only [List.drop_zero] at x h5 h6
        subst h5
        simp [checkI, h3, h6, x]
      · simp only [List.drop_zero] at x h5 h6 h7
        subst h5
        simp [checkI, h3, h6, h7, x]
    · simp only [List.drop_zero] at h1 h2 h3 h4
      subst h1 h2
      simp [checkI, h3, h4, Ext.refl]
  obtain ⟨⟨v, G'⟩, e, rfl, x⟩ := w
  exact ⟨G', e, x⟩
theorem among_lp (orc : FuncId → Bool) (hA : SlR (rowsI .i64) G v0 A) (hlen : A.length < 2 ^ 47) (x : Int) : ∀ (k i : Nat) (τ : Env), i + k = A.length → τ 0 = v0 → τ 1 = .int .i64 x → τ 5 = .int .i64 (i : Int) →
    Wp ((exL Q orc).lpx 31 0 τ G) fun q => q.2.2 = G ∧ ((q.1 = .exit 0 ∧ x ∉ A.drop i) ∨ (q.1 = .ret ∧ x ∈ A.drop i ∧ q.2.1 4 = .bool true)) := by
  intro k
  induction k with
  | zero =>
    intro i τ hi t0 t1 t5
    have hi' : i = A.length := by omega
    refine Wp.lp (l31_0 (exL_ok Q orc)) ?_
    subst hi'
    obtain ⟨a, c, e0⟩ := hA.len
    simp [b31_0, clip_t, t0, t1, t5, e0]
  | succ k ih =>
    intro i τ hi t0 t1 t5
    have hlt : i < A.length := by omega
    have hw : IntKind.wrap .i64 ((i : Int) + 1) = ((i + 1 : Nat) : Int) := wrap64 (by omega) (by omega)
    have h1 : (i : Int) < A.length := by omega
    have h2 : (0 : Int) ≤ i := by omega
    obtain ⟨b, o, c, e0, _, q, _⟩ := hA.at hlt
    have q0 := q 0 (by decide)
    simp at q0
    rw [List.drop_eq_getElem_cons hlt]
    generalize A[i] = y at *
    refine Wp.lp (l31_0 (exL_ok Q orc)) ?_
    by_cases hy : y = x
    · subst hy
      simp [-Int.natCast_add, b31_0, clip_t, t0, t1, t5, e0, h1, h2, hlt, q0, hw]
    · have hy' : ¬ x = y := fun e => hy e.symm
      simp [-Int.natCast_add, b31_0, clip_t, t0, t1, t5, e0, h1, h2, hlt, q0, hw, hy]
      refine Wp.mono (ih (i + 1) _ (by omega) ?_ ?_ ?_) fun q hq => ?_
      · simp [clip_t, e0]
      · simp [clip_t]
      · simp [clip_t]
      · simpa [hy'] using hq
theorem among_ok' (orc : FuncId → Bool) (hA : SlR (rowsI .i64) G v0 A) (hlen : A.length < 2 ^ 47) (x : Int) : (E orc).cl 31 [v0, .int .i64 x] G = some (.bool (decide (x ∈ A)), G) := by
  have w : Wp ((E orc).cl 31 [v0, .int .i64 x] G) fun q => q.1 = .bool (decide (x ∈ A)) ∧ q.2 = G := by
    refine Wp.ref (f31 (exL_ok Q orc) _ _ G) ?_
    simp [s31]
    refine Wp.bE ((among_lp orc hA hlen x A.length 0 _ (by omega) (by simp) (by simp) (by simp)).mono ?_)
    rintro ⟨e, τ, G'⟩ ⟨h1, (⟨h2, h3⟩ | ⟨h2, h3, h4⟩)⟩
    · simp only [List.drop_zero] at h1 h2 h3
      subst h1 h2
      simp [h3]
    · simp only [List.drop_zero] at h1 h2 h3 h4
      subst h1 h2
      simp [h3, h4]
  obtain ⟨⟨v, G'⟩, e, h1, h2⟩ := w
  simp only at h1 h2
  subst h1 h2
  exact e
theorem pick_ok (orc : FuncId → Bool) (x n : Int) (hn : 0 < n) (hn2 : n < 2 ^ 40) (G : GS) : (E orc).cl 32 [.int .i64 x, .int .i64 n] G = some (.int .i64 (x % n), G) := by
  refine f32 (exL_ok Q orc) _ _ G _ ?_
  have h1 := Int.emod_nonneg x (show n ≠ 0 by omega)
  have h2 := Int.emod_lt_of_pos x hn
  have ht := @Int.tmod_eq_emod x n
  have hn0 : ¬ n ≤ 0 := by omega
  have hn1 : ¬ n = 0 := by omega
  have hw : IntKind.wrap .i64 (x % n) = x % n := wrap64 (by omega) (by omega)
  by_cases hx : x.tmod n < 0
  · have e : x.tmod n + n = x % n := by split at ht <;> omega
    simp [s32, clip_t, hx, e, hw, hn0, hn1]
  · have e : x.tmod n = x % n := by split at ht <;> omega
    have hx' : ¬ x % n < 0 := by omega
    simp [s32, clip_t, e, hx', hn0, hn1]
theorem setC_same (n : Nat) (W : List Nat) : ((setC W).all fun x => sameD (n + 1) x x) = true := List.all_eq_true.2 fun x hx => by
  obtain ⟨k, _, rfl⟩ := List.mem_map.1 hx
  simp
def freeI (W : List Nat) (x : Int) : An × List Nat := if inI x = true then (if has W x.toNat = true then ((8, 0, 0), W) else ((0, 0, 0), withW W x.toNat)) else ((3, 0, 0), W)
theorem freeI_ok {W : List Nat} (h : OkW W) (x : Int) : OkW (freeI W x).2 := by
  unfold freeI
  split
  · split
    · exact h
    · exact h.with _
  · exact h
theorem free_ok (orc : FuncId → Bool) (hW : OkW W) (x : Int) (G : GS) : ∃ G', (E orc).cl 34 [setV W, .int .i64 x] G = some (.tuple #[anV (freeI W x).1, setV (freeI W x).2], G') ∧ Ext G G' := by
  have w : Wp ((E orc).cl 34 [setV W, .int .i64 x] G) fun q => q.1 = .tuple #[anV (freeI W x).1, setV (freeI W x).2] ∧ Ext G q.2 := by
    refine Wp.ref (f34 (exL_ok Q orc) _ _ G) ?_
    obtain ⟨G1, hG1⟩ : ∃ G1, G1 = ((G.push ⟨setC W, 1, false, 1⟩).push ⟨z28, 1, false, 1⟩).push ⟨z57, 1, false, 1⟩ := ⟨_, rfl⟩
    have x1 : Ext G G1 := by rw [hG1]; exact (((Ext.refl G).push _).push _).push _
    have n1 : G1.nx = G.nx + 3 := by rw [hG1]; rfl
    have d1 : ¬ G.nx = G.nx + 1 + 1 := by omega
    have o0 : G1.obj G.nx = some ⟨setC W, 1, false, 1⟩ := by rw [hG1]; simp [d1]
    have o1 : G1.obj (G.nx + 1) = some ⟨[.int .i64 0, .int .i64 0, .int .u64 0], 1, false, 1⟩ := by rw [hG1]; simp
    have o2 : G1.obj (G.nx + 1 + 1) = some ⟨setC zW, 1, false, 1⟩ := by rw [hG1]; simp; rfl
    unfold freeI
    cases hx : inI x with
    | false =>
      simp [s34, ← hG1, inside_ok', hx, o0, o1, o2, d1, setC_same, setC_len hW, setC_take hW, setC_sto hW (setC_len zW_ok)]
      refine Ext.put (Ext.put (x1.room 4) ?_ _) ?_ _ <;> omega
    | true =>
      obtain ⟨n, rfl⟩ : ∃ n : Nat, x = n := ⟨x.toNat, by simp [inI] at hx; omega⟩
      have hn : n < 1024 := by simp [inI] at hx; omega
      obtain ⟨G2, e2, x2⟩ := has_ok orc hW hn G1
      have n2 := x2.nx
      have p0 := (x2.obj G.nx (by omega)).trans o0
      have p1 := (x2.obj (G.nx + 1) (by omega)).trans o1
      have p2 := (x2.obj (G.nx + 1 + 1) (by omega)).trans o2
      rw [Int.toNat_natCast]
      cases hh : has W n with
      | true =>
        rw [hh] at e2
        simp [s34, ← hG1, inside_ok', hx, o0, e2, p0, p1, p2, d1, setC_same, setC_len hW, setC_take hW, setC_sto hW (setC_len zW_ok)]
        refine Ext.put (Ext.put ((x1.trans x2).room 4) ?_ _) ?_ _ <;> omega
      | false =>
        rw [hh] at e2
        obtain ⟨G3, e3, x3⟩ := with_ok orc hW hn G2
        have n3 := x3.nx
        have q0 := (x3.obj G.nx (by omega)).trans p0
        have q1 := (x3.obj (G.nx + 1) (by omega)).trans p1
        have q2 := (x3.obj (G.nx + 1 + 1) (by omega)).trans p2
        have hw := hW.with n
        simp [s34, ← hG1, inside_ok', hx, o0, e2, p0, e3, q0, q1, q2, d1, setC_len hW, setC_take hW, setC_len hw, setC_take hw, setC_sto hw (setC_len zW_ok)]
        refine Ext.put (Ext.put (x1.trans (x2.trans x3)) ?_ _) ?_ _ <;> omega
  obtain ⟨⟨v, G'⟩, e, rfl, x⟩ := w
  exact ⟨G', e, x⟩
end
end Go.Proofs.YtocbppgkgcoehaaDoor.Lift

set_option linter.unusedVariables false
set_option linter.unusedSimpArgs false
set_option maxRecDepth 20000
namespace Go.Proofs.YtocbppgkgcoehaaDoor.Lift
open Go Go.Proofs.YtocbppgkgcoehaaDoor.Gh Go.Proofs
/-! ### A range over a function whose body writes one variable -/
structure VarI (B : GS) (ob l : Nat) (r : Lp) (G : GS) (cs : List Value) : Prop where
  nx : B.nx ≤ G.nx
  obj : ∀ g, g < B.nx → g ≠ ob → G.obj g = B.obj g
  nl : B.nl ≤ G.nl
  loop : ∀ k, k < B.nl → k ≠ l → G.loop k = B.loop k
  obB : ob < B.nx
  lB : l < B.nl
  lp : G.loop l = some r
  var : G.obj ob = some ⟨cs, 1, false, 1⟩
section
variable {A B G G' : GS} {ob l : Nat} {r : Lp} {cs ds : List Value}
theorem VarI.begin {G1 : GS} (ho : G1.obj ob = some ⟨cs, 1, false, 1⟩) (hb : ob < G1.nx) (r : Lp) : VarI (G1.pushLoop r) ob G1.nl r (G1.pushLoop r) cs :=
  ⟨Nat.le_refl _, fun _ _ _ => rfl, Nat.le_refl _, fun _ _ _ => rfl, hb, by simp, by simp, by simpa using ho⟩
theorem VarI.ext (h : VarI B ob l r G cs) (x : Ext G G') : VarI B ob l r G' cs :=
  ⟨Nat.le_trans h.nx x.nx, fun g hg hn => (x.obj g (Nat.lt_of_lt_of_le hg h.nx)).trans (h.obj g hg hn), Nat.le_trans h.nl x.nl, fun k hk hn => (x.loop k (Nat.lt_of_lt_of_le hk h.nl)).trans (h.loop k hk hn), h.obB, h.lB,
    (x.loop l (Nat.lt_of_lt_of_le h.lB h.nl)).trans h.lp, (x.obj ob (Nat.lt_of_lt_of_le h.obB h.nx)).trans h.var⟩
theorem VarI.lp' (h : VarI B ob l r G cs) (r' : Lp) : VarI B ob l r' (G.putLoop l r') cs :=
  ⟨h.nx, fun g hg hn => by simpa using h.obj g hg hn, h.nl, fun k hk hn => by rw [loop_putLoop, if_neg hn]; exact h.loop k hk hn, h.obB, h.lB, by simp, by simpa using h.var⟩
theorem VarI.put (h : VarI B ob l r G cs) (ds : List Value) : VarI B ob l r (G.put ob ⟨ds, 1, false, 1⟩) ds :=
  ⟨h.nx, fun g hg hn => by rw [obj_put, if_neg hn]; exact h.obj g hg hn, h.nl, fun k hk hn => h.loop k hk hn, h.obB, h.lB, h.lp, by simp⟩
theorem VarI.from (h : VarI B ob l r G cs) (x : Ext A B) (ho : A.nx ≤ ob) (hl : A.nl ≤ l) : Ext A G :=
  ⟨Nat.le_trans x.nx h.nx, fun g hg => (h.obj g (Nat.lt_of_lt_of_le hg x.nx) (by omega)).trans (x.obj g hg), Nat.le_trans x.nl h.nl, fun k hk => (h.loop k (Nat.lt_of_lt_of_le hk x.nl) (by omega)).trans (x.loop k hk)⟩
theorem VarI.tab (h : VarI B ob l r G cs) (hB : Tab B) (hn : ob ≠ 0) : Tab G := by
  obtain ⟨o, h1, h2⟩ := hB.ob
  exact ⟨⟨o, (h.obj 0 hB.nx (fun e => hn e.symm)).trans h1, h2⟩, Nat.lt_of_lt_of_le hB.nx h.nx⟩
end
/-! ### Rest -/
noncomputable abbrev lpR (T : List Value) : Lp := ⟨.ready, none, T, [12], (subAt [1, 1, 0, 1, 0, 0] (bodyOf Tryd.f14)), (subAt [1, 1, 0, 1, 0, 1] (bodyOf Tryd.f14))⟩
section
variable {B G : GS} {ob l nb : Nat} {T : List Value} {A : List Int} {W : List Nat} {v0 : Value}
theorem rrd_ok (orc : FuncId → Bool) {i : Nat} (hi : i < 1024) (hW : OkW W) (hT : T.length = 18) (t5 : nth undef T 5 = P0 ob)
    (hc : VarI B ob l (lpR T) G (setC W)) :
    Wp ((E orc).rd l [.int .i64 (i : Int)] G) fun q => q.1 = .bool true ∧ VarI B ob l (lpR T) q.2 (setC (woW W i)) := by
  refine Wp.ref (d14_0 (exL_ok Q orc) l T _ G hc.lp hT) ?_
  have c0 := hc.lp' (Lp.setSt (lpR T) .busy)
  have v1 := c0.var
  simp only [obj_putLoop] at v1
  obtain ⟨G1, e1, x1⟩ := wo_ok orc hW hi (G.putLoop l (Lp.setSt (lpR T) .busy))
  have c1 := c0.ext x1
  have hw := hW.wo i
  have c2 := c1.put (setC (woW W i))
  have hrd : (roundEnd l .normal (G1.put ob ⟨setC (woW W i), 1, false, 1⟩)) = some (.bool true, (G1.put ob ⟨setC (woW W i), 1, false, 1⟩).putLoop l (lpR T)) := by
    rw [roundEnd_some l .normal _ (j := none) rfl (r := Lp.setSt (lpR T) .busy) c2.lp]
    rfl
  simp [r14_0, t5, hc.lp, v1, setC_len hW, setC_take hW, e1, c1.var, setC_sto hw (setC_len hW), hrd]
  exact c2.lp' (lpR T)
theorem foldwo_ok : ∀ (L : List Nat) {W : List Nat}, OkW W → OkW (L.foldl woW W)
  | [], _, h => h
  | x :: L, _, h => foldwo_ok L (h.wo x)
theorem has_foldwo : ∀ (L : List Nat) {W : List Nat}, OkW W → (∀ x ∈ L, x < 1024) → ∀ (j : Nat), has (L.foldl woW W) j = (has W j && decide (j ∉ L))
  | [], W, h, _, j => by simp
  | x :: L, W, h, hL, j => by
    rw [List.foldl_cons, has_foldwo L (h.wo x) (fun y hy => hL y (by simp [hy])), has_wo h (hL x (by simp)), Bool.and_assoc]
    congr 1
    rw [Bool.eq_iff_iff]; simp
def restN (l : List Int) (n : Int) : List Nat := (List.range (lowN n)).filter fun j : Nat => decide ((j : Int) ∉ l)
theorem lowN_le (n : Int) : lowN n ≤ 1024 := by unfold lowN; omega
theorem rest_els (l : List Int) (n : Int) : els ((els (ofW l)).foldl woW (firstW (lowN n))) = restN l n := by
  refine asc_ext (els_asc _) (asc_range _ _) fun j => ?_
  have hL : ∀ x ∈ els (ofW l), x < 1024 := fun x hx => (mem_els.1 hx).1
  rw [mem_els, has_foldwo _ (firstW_ok _) hL, has_first (lowN_le n)]
  unfold restN
  have := lowN_le n
  simp only [List.mem_filter, List.mem_range, Bool.and_eq_true, decide_eq_true_eq]
  constructor
  · rintro ⟨h1, h2, h3⟩
    refine ⟨h2, fun h4 => h3 (mem_els.2 ⟨h1, ?_⟩)⟩
    rw [has_of l h1]; simpa using h4
  · rintro ⟨h1, h2⟩
    refine ⟨by omega, h1, fun h3 => h2 ?_⟩
    have := (mem_els.1 h3).2
    rw [has_of l (by omega)] at this
    simpa using this
theorem rest_ok (orc : FuncId → Bool) (hA : SlR (rowsI .i64) G v0 A) (hlen : A.length < 2 ^ 47) (n : Int) (hG : Tab G) : ∃ v G', (E orc).cl 14 [v0, .int .i64 n] G = some (v, G') ∧ Ext G G' ∧ OwR (rowsI .i64) G.nx G' v ((restN A n).map fun n : Nat => (n : Int)) := by
  have w : Wp ((E orc).cl 14 [v0, .int .i64 n] G) fun q => Ext G q.2 ∧ OwR (rowsI .i64) G.nx q.2 q.1 ((restN A n).map fun n : Nat => (n : Int)) := by
    refine Wp.ref (f14 (exL_ok Q orc) _ _ G) ?_
    obtain ⟨G1, e1, x1⟩ := first_ok orc n G
    have hF := firstW_ok (lowN n)
    obtain ⟨G2, hG2⟩ : ∃ G2, G2 = (G1.push ⟨z57, 1, false, 1⟩).put G1.nx ⟨setC (firstW (lowN n)), 1, false, 1⟩ := ⟨_, rfl⟩
    have x2 : Ext G1 G2 := by rw [hG2]; exact ((Ext.refl G1).push _).put (Nat.le_refl _) _
    have o2 : G2.obj G1.nx = some ⟨setC (firstW (lowN n)), 1, false, 1⟩ := by rw [hG2]; simp
    have n2 : G2.nx = G1.nx + 1 := by rw [hG2]; rfl
    have y2 := x1.trans x2
    obtain ⟨G3, e3, x3⟩ := of_ok orc (hA.ext y2) hlen
    have hO := ofW_ok A
    have o3 := (x3.obj _ (by omega)).trans o2
    have n3 := x3.nx
    simp [s14, e1, setC_sto hF (cs := z57) rfl, ← hG2, e3, setAll_ok]
    generalize hTT : lst 18 (tu (nth undef _) _) = T
    have hT : T.length = 18 := by rw [← hTT]; exact length_lst 18 _
    have t5 : nth undef T 5 = P0 G1.nx := by rw [← hTT, nth_lst]; simp [clip_t]
    clear hTT
    have q3 : (G3.push ⟨setC (ofW A), 1, false, 1⟩).obj G1.nx = some ⟨setC (firstW (lowN n)), 1, false, 1⟩ := by
      have : ¬ G1.nx = G3.nx := by omega
      simp [this, o3]
    have y3 := y2.trans (x3.trans ((Ext.refl G3).push ⟨setC (ofW A), 1, false, 1⟩))
    have n4 := x1.nx
    obtain ⟨G4, hG4⟩ : ∃ G4, G4 = G3.push ⟨setC (ofW A), 1, false, 1⟩ := ⟨_, rfl⟩
    have q4 : G4.obj G3.nx = some ⟨setC (ofW A), 1, false, 1⟩ := by rw [hG4]; simp
    have n5 : G4.nx = G3.nx + 1 := by rw [hG4]; rfl
    rw [← hG4] at q3 y3
    rw [show G3.nl = G4.nl by rw [hG4]; rfl, ← hG4]
    have c0 := VarI.begin q3 (by omega) (lpR T)
    have xB : Ext G4 (G4.pushLoop (lpR T)) := (Ext.refl G4).pushLoop _
    have hTb : Tab (G4.pushLoop (lpR T)) := hG.ext (y3.trans xB)
    have h0 : G1.nx ≠ 0 := by have := hG.nx; omega
    have hrd : RdOk orc (ofW A) G4.nl (fun L G' => VarI (G4.pushLoop (lpR T)) G1.nx G4.nl (lpR T) G' (setC (L.foldl woW (firstW (lowN n))))) (fun _ => False) := by
      intro L i R G' hE hc
      have hi : i < 1024 := (mem_els.1 (show i ∈ els (ofW A) by rw [← hE]; simp)).1
      refine (rrd_ok orc hi (foldwo_ok L hF) hT t5 hc).mono ?_
      rintro q ⟨h1, h2⟩
      exact .inl ⟨h1, by simpa using h2⟩
    obtain ⟨⟨q, G5⟩, e5, rfl, c5⟩ := all1_ok orc hO hrd (fun L G' hc => hc.tab hTb h0) (sb := G3.nx) (G := G4.pushLoop (lpR T)) (by simpa using q4) (by simpa using c0)
    simp only [or_false] at c5
    simp only [E] at e5
    have hX := foldwo_ok (els (ofW A)) hF
    have y5 := (c5.from (y3.trans xB) n4 (by have := y3.nl; omega)).putLoop (by have := y3.nl; omega) (Lp.setSt (lpR T) .exhausted) (l := G4.nl)
    obtain ⟨v, G6, e6, x6, w6⟩ := list_ok orc hX (hG.ext y5)
    rw [rest_els] at w6
    simp [e5]
    rw [xRangeEnd_some (r := lpR T) _ _ _ _ c5.lp (by simp) (e := .normal) rfl]
    simp [t5, c5.var, setC_len hX, setC_take hX, e6]
    exact ⟨y5.trans x6, w6.mono y5.nx⟩
  obtain ⟨⟨v, G'⟩, e, e1, e2⟩ := w
  exact ⟨v, G', e, e1, e2⟩
end
end Go.Proofs.YtocbppgkgcoehaaDoor.Lift

