import Derived.Test.YtglafaecdpilgaaH4
import Derived.Test.YtglafaecdpilgaaGhEQ
set_option linter.unusedVariables false
set_option linter.unusedSimpArgs false
set_option maxRecDepth 20000
namespace Go.Proofs.Ytglafaecdpilgaa.Lift
open Go Go.Proofs.Ytglafaecdpilgaa.Gh Go.Proofs
/-! ### Structs, side by side -/
theorem req_40 (a0 a1 b0 b1 : Int) : prun Q (Op.equalIn 10000 40 (.agg ⟨[.int .u64 a0, .int .i64 a1]⟩) (.agg ⟨[.int .u64 b0, .int .i64 b1]⟩)) = some (a0 == b0 && (a1 == b1 && true)) :=
  eqS (d := 9999) (L := [(23, 0), (3, 1)]) (by kernel_rfl) (by kernel_rfl) (eqL_cons (a := .int .u64 a0) (b := .int .u64 b0) (by kernel_rfl) (by kernel_rfl) (by kernel_rfl) (eqL_cons (a := .int .i64 a1) (b := .int .i64 b1) (by kernel_rfl) (by kernel_rfl) (by kernel_rfl) rfl))
theorem eq_it (x y : Operand) (a b : It) : gBinF Q .eql 40 x y (.agg ⟨[.int .u64 a.1, .int .i64 a.2]⟩) (.agg ⟨[.int .u64 b.1, .int .i64 b.2]⟩) = some (.bool (decide (a = b))) := by
  rw [eql_aggF (op := .eql) (by kernel_rfl) (by kernel_rfl) (by kernel_rfl) (req_40 a.1 a.2 b.1 b.2)]
  congr 2
  rw [Bool.eq_iff_iff]
  simp [Prod.ext_iff]
theorem req_28 (a0 a1 a2 b0 b1 b2 : Int) : prun Q (Op.equalIn 10000 28 (ansV a0 a1 a2) (ansV b0 b1 b2)) = some (a0 == b0 && (a1 == b1 && (a2 == b2 && true))) :=
  eqS (d := 9999) (L := [(26, 0), (3, 1), (23, 2)]) (by kernel_rfl) (by kernel_rfl) (eqL_cons (a := .int .i64 a0) (b := .int .i64 b0) (by kernel_rfl) (by kernel_rfl) (by kernel_rfl) (eqL_cons (a := .int .i64 a1) (b := .int .i64 b1) (by kernel_rfl) (by kernel_rfl) (by kernel_rfl) (eqL_cons (a := .int .u64 a2) (b := .int .u64 b2) (by kernel_rfl) (by kernel_rfl) (by kernel_rfl) rfl)))
theorem eq_an (x y : Operand) (a0 a1 a2 b0 b1 b2 : Int) : gBinF Q .eql 28 x y (ansV a0 a1 a2) (ansV b0 b1 b2) = some (.bool (decide (a0 = b0 ∧ a1 = b1 ∧ a2 = b2))) := by
  rw [eql_aggF (op := .eql) (by kernel_rfl) (by kernel_rfl) (by kernel_rfl) (req_28 a0 a1 a2 b0 b1 b2)]
  congr 2
  rw [Bool.eq_iff_iff]
  simp
theorem ne_an (x y : Operand) (a0 a1 a2 b0 b1 b2 : Int) : gBinF Q .neq 28 x y (ansV a0 a1 a2) (ansV b0 b1 b2) = some (.bool (!decide (a0 = b0 ∧ a1 = b1 ∧ a2 = b2))) := by
  rw [neq_aggF (op := .eql) (by kernel_rfl) (by kernel_rfl) (by kernel_rfl) (req_28 a0 a1 a2 b0 b1 b2)]
  congr 2
  rw [Bool.eq_iff_iff]
  simp
theorem drop_consI {A B : List It} {i : Nat} (hA : i < A.length) (hB : i < B.length) : decide (A.drop i = B.drop i) = (decide (A[i] = B[i]) && decide (A.drop (i + 1) = B.drop (i + 1))) := by
  rw [Bool.eq_iff_iff, List.drop_eq_getElem_cons hA, List.drop_eq_getElem_cons hB]
  simp only [decide_eq_true_eq, Bool.and_eq_true, List.cons.injEq]
theorem same_lp (orc : FuncId → Bool) (A B : List It) (v0 v1 : Value) : ∀ (k i : Nat) (s : Bool) (τ : Env) (G : GS), i + k = A.length → τ 0 = v0 → τ 1 = v1 → τ 5 = .bool s → τ 6 = .int .i64 i →
    SlR rIt G v0 A → SlR rIt G v1 B → A.length < 2 ^ 47 → (s = true → A.length = B.length) →
    Wp ((exL Q orc).lpx 19 0 τ G) fun r => r.1 = .exit 0 ∧ Ext G r.2.2 ∧ r.2.1 5 = .bool (s && decide (A.drop i = B.drop i)) := by
  intro k
  induction k with
  | zero =>
    intro i s τ G hi h0 h1 h5 h6 hA hB hlt hs
    have hi' : i = A.length := by omega
    obtain ⟨a, c, rfl⟩ := hA.len
    refine Wp.lp (l19_0 (exL_ok Q orc)) ?_
    cases s with
    | false => simp [b19_0, clip_t, h0, h1, h5, h6, Ext.refl]
    | true =>
      have hd : A.drop i = B.drop i := by
        rw [hi', List.drop_length, List.drop_of_length_le (by rw [hs rfl]; omega)]
      simp [b19_0, clip_t, h0, h1, h5, h6, hd]
      simp [hi', Ext.refl, clip_t]
  | succ k ih =>
    intro i s τ G hi h0 h1 h5 h6 hA hB hlt hs
    refine Wp.lp (l19_0 (exL_ok Q orc)) ?_
    cases s with
    | false => simp [b19_0, clip_t, h0, h1, h5, h6, Ext.refl]
    | true =>
      have hl := hs rfl
      have hiA : i < A.length := by omega
      have hiB : i < B.length := by omega
      have he : Ext G (G.room 10) := (Ext.refl G).room 10
      obtain ⟨b, o, c, e0, _, _, _, hc⟩ := it_at (hA.ext he) hiA
      obtain ⟨b', o', c', e1, _, _, _, hc'⟩ := it_at (hB.ext he) hiB
      have hw : IntKind.wrap .i64 ((i : Int) + 1) = ((i + 1 : Nat) : Int) := wrap64 (by omega) (by omega)
      have hi0 : (0 : Int) ≤ i := by omega
      rw [drop_consI hiA hiB]
      simp [-Int.natCast_add, b19_0, clip_t, h0, h1, h5, h6, e0, e1, hc, hc', eq_it, hw, hiA, hiB, hi0]
      refine (ih (i + 1) (decide (A[i] = B[i])) _ (G.room 10) (by omega) (by exact e0.symm) (by exact e1.symm) rfl rfl (hA.ext he) (hB.ext he) hlt (fun _ => hl)).mono ?_
      rintro r ⟨h1, h2, h3⟩
      exact ⟨h1, he.trans h2, h3⟩
theorem sameItems (orc : FuncId → Bool) {A B : List It} {v0 v1 : Value} {G : GS} (hA : SlR rIt G v0 A) (hB : SlR rIt G v1 B) (hlt : A.length < 2 ^ 47) :
    ∃ G', (E orc).cl 19 [v0, v1] G = some (.bool (decide (A = B)), G') ∧ Ext G G' := by
  obtain ⟨a, c, ha⟩ := hA.len
  obtain ⟨b, d, hb⟩ := hB.len
  have l0 : ln Q true 22 v0 = some (.int .i64 A.length) := by rw [ha]; simp
  have l1 : ln Q true 22 v1 = some (.int .i64 B.length) := by rw [hb]; simp
  have hd : (decide ((A.length : Int) = (B.length : Int)) && decide (A.drop 0 = B.drop 0)) = decide (A = B) := by
    by_cases h : A = B
    · simp [h]
    · simp [h]
  have w : Wp (s19 true (exL Q orc) v0 v1 G) fun r => r.1 = .bool (decide (A = B)) ∧ Ext G r.2 := by
    simp [s19, l0, l1]
    refine Wp.bE ((same_lp orc A B v0 v1 A.length 0 (decide ((A.length : Int) = (B.length : Int))) _ G (by omega) rfl rfl (by simp) rfl hA hB hlt (fun h => by simp at h; omega)).mono ?_)
    rintro ⟨e, τ, G'⟩ ⟨rfl, x, y⟩
    rw [hd] at y
    simp only at x y
    simp [y, x]
  obtain ⟨⟨v, G'⟩, e1, rfl, e3⟩ := w
  exact ⟨G', f19 (exL_ok Q orc) _ _ G _ e1, e3⟩
/-- written over: no other block is touched -/
theorem over_lp (orc : FuncId → Bool) (A : GS) (b n : Nat) (hn : n < 2 ^ 40) : ∀ (k i : Nat) (cs : List Value) (op : Bool) (τ : Env) (G : GS), i + k = n → τ 0 = .slice (some ⟨b, 0, none⟩) n n → τ 2 = .int .i64 i →
    A.nx ≤ G.nx → (∀ g, g ≠ b → G.obj g = A.obj g) → G.obj b = some ⟨cs, 2, op, 1⟩ → cs.length = n * 2 →
    Wp ((exL Q orc).lpx 20 0 τ G) fun r => r.1 = .exit 0 ∧ A.nx ≤ r.2.2.nx ∧ ∀ g, g ≠ b → r.2.2.obj g = A.obj g := by
  intro k
  induction k with
  | zero =>
    intro i cs op τ G hi h0 h2 hx hA ho hc
    refine Wp.lp (l20_0 (exL_ok Q orc)) ?_
    have : i = n := by omega
    simpa [b20_0, clip_t, h0, h2, this, hx] using hA
  | succ k ih =>
    intro i cs op τ G hi h0 h2 hx hA ho hc
    have hlt : i < n := by omega
    have hw : IntKind.wrap .i64 ((i : Int) + 1) = ((i + 1 : Nat) : Int) := wrap64 (by omega) (by omega)
    have hi0 : (0 : Int) ≤ i := by omega
    have hst : storeN 2 b (i * 2) (.agg ⟨[.int .u64 0, .int .i64 (-77)]⟩) G = some (G.put b (GObj.over ⟨cs, 2, op, 1⟩ (i * 2) [.int .u64 0, .int .i64 (-77)])) := by
      simp only [storeN, Value.cells]
      exact wrN_of ho rfl rfl (by simp; omega)
    refine Wp.lp (l20_0 (exL_ok Q orc)) ?_
    simp [-Int.natCast_add, b20_0, clip_t, h0, h2, hlt, hw, hi0, hst, fillL, fillC, splice_put, splice_end, splice_succ, Value.cells]
    refine ih (i + 1) (overw cs (i * 2) [.int .u64 0, .int .i64 (-77)]) op _ _ (by omega) rfl rfl (by simpa using hx) ?_ (by simp [GObj.over]) (by simp [overw]; omega)
    intro g hg
    rw [obj_put, if_neg hg]
    exact hA g hg
theorem overItems (orc : FuncId → Bool) {B hi : Nat} {G : GS} {v0 : Value} {L : List It} (h : OwR rIt B G v0 L) (hx : SlLt hi v0) (hlt : L.length < 2 ^ 40) :
    ∃ G', (E orc).cl 20 [v0] G = some (.tuple #[], G') ∧ G.nx ≤ G'.nx ∧ ∀ g, g < B ∨ hi ≤ g → G'.obj g = G.obj g := by
  have w : Wp (s20 true (exL Q orc) v0 G) fun r => r.1 = .tuple #[] ∧ G.nx ≤ r.2.nx ∧ ∀ g, g < B ∨ hi ≤ g → r.2.obj g = G.obj g := by
    rcases h.2 with ⟨rfl, _⟩ | ⟨b, op, rfl, h2, h3, h4⟩
    · simp [s20]
      refine Wp.bE (Wp.lp (l20_0 (exL_ok Q orc)) ?_)
      simp [b20_0, clip_t]
    · simp [s20]
      refine Wp.bE ((over_lp orc G b L.length hlt L.length 0 _ op _ G (by omega) rfl rfl (Nat.le_refl _) (fun _ _ => rfl) h4 (by simpa using h.1)).mono ?_)
      rintro ⟨e, τ, G'⟩ ⟨rfl, h6, h7⟩
      have hb : b < hi := hx _ _ _ rfl
      simp
      exact ⟨h6, fun g hg => h7 g (by omega)⟩
  obtain ⟨⟨v, G'⟩, e1, rfl, e3⟩ := w
  exact ⟨G', f20 (exL_ok Q orc) _ G _ e1, e3⟩
theorem copyItems (orc : FuncId → Bool) {A : List It} {v0 : Value} {G : GS} (hA : SlR rIt G v0 A) (hlt : A.length < 2 ^ 40) :
    ∃ v' G', (E orc).cl 14 [v0] G = some (v', G') ∧ Ext G G' ∧ OwR rIt G.nx G' v' A := by
  obtain ⟨v', G', h1, h2, h3⟩ := OwR.app (A := G) (ib := 16) (OwR.made rIt G) (by decide) ((Ext.refl G).push _) (hA.ext ((Ext.refl G).push _)) (by simp; omega)
  refine ⟨v', G', f14 (exL_ok Q orc) _ G _ ?_, h2, by simpa using h3⟩
  simp only [rIt_sz] at h1
  simp [s14, rep, fillS, fillC, h1]
/-- what a clone is: nothing of nothing, else a copy -/
theorem clone_ok (orc : FuncId → Bool) {A : List It} {v0 : Value} {G : GS} (hA : SlR rIt G v0 A) (hlt : A.length < 2 ^ 40) :
    ∃ v' G', (E orc).cl 56 [v0] G = some (v', G') ∧ Ext G G' ∧ OwR rIt G.nx G' v' A := by
  have hf := f56 (exL_ok Q orc) v0 G
  rcases hA.is.2 with ⟨rfl, h0⟩ | ⟨b, f, c, ob, rfl, h2, h3, h4, h5, h6⟩
  · have hL : A = [] := List.eq_nil_of_length_eq_zero h0
    subst hL
    exact ⟨.slice none 0 0, G, hf _ (by simp [s56]), Ext.refl G, OwR.nil _ _⟩
  · obtain ⟨v', G', h1, h2, h3⟩ := OwR.app (A := G) (ib := 16) (OwR.made rIt G) (by decide) ((Ext.refl G).push _) (hA.ext ((Ext.refl G).push _)) (by simp; omega)
    refine ⟨v', G', hf _ ?_, h2, by simpa using h3⟩
    simp only [rIt_sz] at h1
    simp [s56, rep, fillS, fillC, h1]
end Go.Proofs.Ytglafaecdpilgaa.Lift
