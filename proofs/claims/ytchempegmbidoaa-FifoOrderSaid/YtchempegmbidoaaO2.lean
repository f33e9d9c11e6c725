import Derived.Test.YtchempegmbidoaaL
import Derived.Test.YtchempegmbidoaaO1
import Derived.Test.YtchempegmbidoaaGhPL
namespace Go.Proofs.Ytchempegmbidoaa.Lift
open Go Go.Proofs.Ytchempegmbidoaa.Gh Go.Proofs
set_option linter.unusedVariables false
set_option linter.unusedSimpArgs false
def ints (l : List Int) : List Value := l.map (Value.int .i64)
@[simp] theorem ints_length (l : List Int) : (ints l).length = l.length := by simp [ints]
@[simp] theorem ints_get (l : List Int) (i : Nat) : (ints l)[i]? = l[i]?.map (Value.int .i64) := by simp [ints]
@[simp] theorem ints_getElem (l : List Int) (i : Nat) (h : i < (ints l).length) : (ints l)[i] = .int .i64 (l[i]'(by simpa using h)) := by simp [ints]
@[simp] theorem ints_nil : ints [] = [] := rfl
theorem ints_append (l m : List Int) : ints (l ++ m) = ints l ++ ints m := by simp [ints]
theorem ints_snoc (l : List Int) (x : Int) : ints l ++ [.int .i64 x] = ints (l ++ [x]) := by simp [ints]
theorem ints_one (l : List Int) : (ints l).all one = true := by simp [ints, one]
theorem drop_cons {α : Type} [DecidableEq α] {A B : List α} {i : Nat} (hA : i < A.length) (hB : i < B.length) : decide (A.drop i = B.drop i) = (decide (A[i] = B[i]) && decide (A.drop (i + 1) = B.drop (i + 1))) := by
  rw [Bool.eq_iff_iff, List.drop_eq_getElem_cons hA, List.drop_eq_getElem_cons hB]
  simp only [decide_eq_true_eq, Bool.and_eq_true, List.cons.injEq]
theorem same_lp (orc : FuncId → Bool) (A B : List Int) (v0 v1 : Value) : ∀ (k i : Nat) (s : Bool) (T : List Value) (G : GS), i + k = A.length → T.length = 31 → nth undef T 0 = v0 → nth undef T 1 = v1 → nth undef T 5 = .bool s → nth undef T 6 = .int .i64 i →
    SlIs G 1 v0 A.length (ints A) → SlIs G 1 v1 B.length (ints B) → A.length < 2 ^ 47 → (s = true → A.length = B.length) →
    Wp ((E orc).lp (subAt [1, 1, 0, 1, 0, 0] (bodyOf Try.f17)) T G) fun r => r.1 = .exit 0 ∧ Ext G r.2.2 ∧ nth undef r.2.1 5 = .bool (s && decide (A.drop i = B.drop i)) := by
  intro k
  induction k with
  | zero =>
    intro i s T G hi hT h0 h1 h5 h6 hA hB hlt hs
    have hi' : i = A.length := by omega
    obtain ⟨a, c, ha⟩ := hA.len
    refine Wp.up (l17_0 orc T G hT) ?_
    cases s with
    | false => simp [b17_0, h0, h1, h5, h6, Ext.refl]
    | true =>
      have hd : A.drop i = B.drop i := by
        rw [hi', List.drop_length, List.drop_of_length_le (by rw [hs rfl]; omega)]
      simp [b17_0, h0, h1, h5, h6, ha, hd, Ext.refl]
      simp [hi', Ext.refl]
  | succ k ih =>
    intro i s T G hi hT h0 h1 h5 h6 hA hB hlt hs
    refine Wp.up (l17_0 orc T G hT) ?_
    cases s with
    | false => simp [b17_0, h0, h1, h5, h6, Ext.refl]
    | true =>
      have hl := hs rfl
      have hiA : i < A.length := by omega
      have hiB : i < B.length := by omega
      obtain ⟨b, o, c, e0, hb, hc⟩ := hA.at_ hiA
      obtain ⟨b', o', c', e1, hb', hc'⟩ := hB.at_ hiB
      have hc := hc 0 (by omega)
      have hc' := hc' 0 (by omega)
      simp [hiA, hiB] at hc hc'
      have hw : IntKind.wrap .i64 ((i : Int) + 1) = ((i + 1 : Nat) : Int) := wrap64 (by omega) (by omega)
      have hi0 : (0 : Int) ≤ i := by omega
      rw [drop_cons hiA hiB]
      simp only [b17_0, h0, h1, h5, h6]
      simp [e0, e1, hc, hc', hw, hiA, hiB, hi0]
      have he : Ext G (G.room 10) := (Ext.refl G).room 10
      refine (ih (i + 1) (decide (A[i] = B[i])) _ (G.room 10) ?_ ?_ ?_ ?_ ?_ ?_ (hA.ext he) (hB.ext he) hlt (fun _ => hl)).mono ?_
      · omega
      · rfl
      · exact e0.symm
      · exact e1.symm
      · rfl
      · rfl
      · rintro r ⟨h1, h2, h3⟩
        exact ⟨h1, he.trans h2, h3⟩
theorem sameInts (orc : FuncId → Bool) {A B : List Int} {v0 v1 : Value} {G : GS} (hA : SlIs G 1 v0 A.length (ints A)) (hB : SlIs G 1 v1 B.length (ints B)) (hlt : A.length < 2 ^ 47) :
    ∃ G', (E orc).cl 17 [v0, v1] G = some (.bool (decide (A = B)), G') ∧ Ext G G' := by
  obtain ⟨a, c, ha⟩ := hA.len
  obtain ⟨b, d, hb⟩ := hB.len
  have hd : (decide ((A.length : Int) = (B.length : Int)) && decide (A.drop 0 = B.drop 0)) = decide (A = B) := by
    by_cases h : A = B
    · simp [h]
    · simp [h]
  obtain ⟨⟨e, T', G'⟩, hlp, h1, h2, h3⟩ := same_lp orc A B v0 v1 A.length 0 (decide ((A.length : Int) = (B.length : Int)))
    [v0, v1, undef, undef, (.bool false), .bool (decide ((A.length : Int) = (B.length : Int))), (.int .i64 0), v0, .int .i64 A.length, v1, .int .i64 B.length, .bool (decide ((A.length : Int) = (B.length : Int))), undef, undef, undef, undef, undef, undef, undef, undef, undef, undef, undef, undef, undef, undef, undef, undef, undef, undef, undef] G (by omega) rfl rfl rfl rfl rfl hA hB hlt (fun h => by simp at h; omega)
  rw [hd] at h3
  simp only at h1 h2 h3
  subst h1
  refine ⟨G', c17 orc v0 v1 G ?_, h2⟩
  subst ha
  subst hb
  simp only [s17, ln_22, bP_some, bin_eql, hlp, bX_some, ifE_same, h3]
end Go.Proofs.Ytchempegmbidoaa.Lift
