import Derived.Test.YtchempegmbidoaaL
import Derived.Test.YtchempegmbidoaaGhPL
namespace Go.Proofs.Ytchempegmbidoaa.Lift
open Go Go.Proofs.Ytchempegmbidoaa.Gh Go.Proofs
set_option linter.unusedVariables false
set_option linter.unusedSimpArgs false
/-- is the bit the end of a height? -/
def bitz (n : Int) (i : Int) : Bool := decide (andI .u64 (shrI .u64 (IntKind.wrap .u64 n) i) 1 = 0)
def hl (n most : Int) : Nat → Nat → Int → Int
  | 0, _, h => h
  | f + 1, i, h => if most ≤ h then h else if bitz n i then h else hl n most f (i + 1) (h + 1)
theorem lp20 (orc : FuncId → Bool) (n most : Int) : ∀ (f i : Nat) (h : Int) (T : List Value) (G : GS), i + f = 64 → T.length = 25 → nth undef T 0 = .int .i64 n → nth undef T 1 = .int .i64 most → nth undef T 5 = .int .i64 h → nth undef T 7 = .int .i64 i → 1 ≤ h → h ≤ i + 1 →
    Wp ((E orc).lp (subAt [1, 1, 0, 1, 0, 0] (bodyOf Try.f20)) T G) fun r => ∃ T', r = (.exit 0, T', G) ∧ nth undef T' 5 = .int .i64 (hl n most f i h) := by
  intro f
  induction f with
  | zero =>
    intro i h T G hi hT h0 h1 h5 h7 hh hh'
    have : i = 64 := by omega
    subst this
    refine Wp.up (l20_0 orc T G hT) ?_
    simp [b20_0, h0, h1, h5, h7, hl]
  | succ f ih =>
    intro i h T G hi hT h0 h1 h5 h7 hh hh'
    have hlt : (i : Int) < 64 := by omega
    refine Wp.up (l20_0 orc T G hT) ?_
    by_cases hm : most ≤ h
    · simp [b20_0, h0, h1, h5, h7, hl, hlt, hm]
    · have hw : IntKind.wrap .i64 (h + 1) = h + 1 := wrap64 (by omega) (by omega)
      have hw' : IntKind.wrap .i64 ((i : Int) + 1) = ((i + 1 : Nat) : Int) := wrap64 (by omega) (by omega)
      have hn : ¬ ((i : Int) < 0) := by omega
      by_cases hb : andI .u64 (shrI .u64 (IntKind.wrap .u64 n) i) 1 = 0
      · simp [b20_0, h0, h1, h5, h7, hl, hlt, hm, hn, bitz, hb]
      · simp only [b20_0, h0, h1, h5, h7, hl, bitz]
        simp [hlt, hm, hn, hb, hw, hw']
        exact ih (i + 1) (h + 1) _ _ (by omega) rfl rfl rfl rfl rfl (by omega) (by omega)
theorem height (orc : FuncId → Bool) (n most : Int) (G : GS) : (E orc).cl 20 [.int .i64 n, .int .i64 most] G = some (.int .i64 (hl n most 64 0 1), G) := by
  obtain ⟨r, h, T', rfl, h5⟩ := lp20 orc n most 64 0 1 [.int .i64 n, .int .i64 most, undef, undef, (.int .i64 0), (.int .i64 1), undef, (.int .i64 0), undef, undef, undef, undef, undef, undef, undef, undef, undef, undef, undef, undef, undef, undef, undef, undef, undef] G rfl rfl rfl rfl rfl rfl (by omega) (by omega)
  exact c20 orc _ _ G (by simp [s20, h, h5])
def ones (n : Int) : Nat → Nat → Nat
  | 0, _ => 0
  | f + 1, i => if bitz n i then 0 else ones n f (i + 1) + 1
theorem hl_eq (n most : Int) : ∀ (f i : Nat) (h : Int), hl n most f i h = if most ≤ h then h else if most ≤ h + ones n f i then most else h + ones n f i
  | 0, i, h => by simp only [hl, ones]; split <;> (try split) <;> omega
  | f + 1, i, h => by
    simp only [hl, ones, hl_eq n most f (i + 1) (h + 1)]
    have e : (((ones n f (i + 1) + 1 : Nat)) : Int) = (ones n f (i + 1) : Int) + 1 := by omega
    have hp : (0 : Int) ≤ ones n f (i + 1) := by omega
    by_cases hb : bitz n i = true
    · simp only [hb, if_true]
      split
      · rfl
      · split <;> omega
    · simp only [hb, if_false, e, Bool.false_eq_true]
      repeat' split
      all_goals omega
theorem drawRange (orc : FuncId → Bool) (ho : orc 6 = true) (n most more : Int) (G : GS) : (E orc).cl 7 [.int .i64 n, .int .i64 most, .int .i64 more] G = some (.bool true, G) := by
  rw [c7]
  have h1 := hl_eq n most 64 0 1
  have h2 := hl_eq n more 64 0 1
  have h3 := hl_eq n 65 64 0 1
  have ht : ones n 64 0 ≤ 64 := by
    have : ∀ f i, ones n f i ≤ f := by
      intro f
      induction f with
      | zero => intro i; simp [ones]
      | succ f ih => intro i; simp only [ones]; have := ih (i + 1); split <;> omega
    exact this 64 0
  generalize hA : hl n most 64 0 1 = A at *
  generalize hB : hl n more 64 0 1 = B at *
  generalize hC : hl n 65 64 0 1 = C at *
  generalize ones n 64 0 = t at *
  have a1 : ¬ A < 1 := by repeat' split at h1 <;> omega
  have hx : ∃ M : Int, (if most > 1 then most else 1) = M ∧ (M = most ∧ 1 < most ∨ M = 1 ∧ most ≤ 1) := ⟨_, rfl, by split <;> omega⟩
  obtain ⟨M, hM, hM'⟩ := hx
  have a2 : ¬ M < A := by repeat' split at h1 <;> omega
  have a4 : (if M < C then M else C) = A := by repeat' split at h1 <;> repeat' split at h3 <;> (split <;> omega)
  by_cases hm : most ≤ more
  · have a3 : ¬ B < A := by repeat' split at h1 <;> repeat' split at h2 <;> omega
    simp [s7, cl_orc Q orc ho, height, hA, hB, hC, a1, a2, a3, hm, a4, hM]
  · simp [s7, cl_orc Q orc ho, height, hA, hB, hC, a1, a2, hm, a4, hM]
end Go.Proofs.Ytchempegmbidoaa.Lift
