import Derived.Test.YtglafaecdpilgaaH2
import Derived.Test.YtglafaecdpilgaaGhPR
set_option linter.unusedVariables false
set_option linter.unusedSimpArgs false
set_option maxRecDepth 20000
namespace Go.Proofs.Ytglafaecdpilgaa.Gh
open Go
theorem Ext.drawn {A G : GS} (h : Ext A G) {n : Nat} (hn : A.nx ≤ n) (o : GObj) : Ext A (((G.at' n).push o).back G) :=
  ⟨h.nx, fun g hg => by simp; rw [if_neg (by omega)]; exact h.obj g hg, h.nl, fun l hl => by simpa using h.loop l hl⟩
theorem SlR.oneD {α : Type} (e : RowE α) (G : GS) (a : α) {n : Nat} (hn : n < G.nx) : SlR e (((G.at' n).push ⟨e.row a, e.sz, false, 1⟩).back G) (.slice (some ⟨n, 0, none⟩) 1 1) [a] :=
  ⟨⟨by simp [e.flat_length], .inr ⟨n, 0, 1, _, rfl, Nat.le_refl _, by simpa using hn, by simp; rfl, by simp, fun i _ => by simp [e.flat_one]⟩⟩, fun a' n' c he ob ho hop => by cases he; simp at ho; subst ho; cases hop⟩
theorem Ext.boxed {G G' : GS} {o : GObj} (h : Ext (G.push o) G') : G'.obj G.nx = some o := by rw [h.obj _ (by simp)]; simp
end Go.Proofs.Ytglafaecdpilgaa.Gh
namespace Go.Proofs.Ytglafaecdpilgaa.Lift
open Go Go.Proofs.Ytglafaecdpilgaa.Gh Go.Proofs
abbrev It := Int × Int
def rIt : RowE It := ⟨2, fun x => [.int .u64 x.1, .int .i64 x.2], fun _ => rfl, fun _ => rfl, by decide⟩
@[simp] theorem rIt_sz : rIt.sz = 2 := rfl
@[simp] theorem rIt_row (x : It) : rIt.row x = [.int .u64 x.1, .int .i64 x.2] := rfl
abbrev opV (k a b w : Int) : Value := .agg ⟨[.int .i64 k, .int .i64 a, .int .i64 b, .int .u64 w]⟩
abbrev ansV (c i w : Int) : Value := .agg ⟨[.int .i64 c, .int .i64 i, .int .u64 w]⟩
abbrev P1 (b : Nat) : Value := .pointer (some ⟨b, 0, none⟩)
/-- an item that is read -/
theorem it_at {G : GS} {v : Value} {L : List It} (h : SlR rIt G v L) {i : Nat} (hi : i < L.length) : ∃ b o c, v = .slice (some ⟨b, o, none⟩) L.length c ∧ b < G.nx ∧ G.cell b (o + i * 2) = some (.int .u64 L[i].1) ∧ G.cell b (o + i * 2 + 1) = some (.int .i64 L[i].2) ∧ loadA 2 b (o + i * 2) G = some (.agg ⟨[.int .u64 L[i].1, .int .i64 L[i].2]⟩) := by
  obtain ⟨b, o, c, h1, h2, h3, h4⟩ := h.at hi
  refine ⟨b, o, c, h1, h2, ?_, ?_, h4⟩
  · simpa using h3 0 (by decide)
  · simpa using h3 1 (by decide)
/-! ### What the code reckons -/
/-- from an index on each key is above the one ahead of it -/
def Up (L : List It) (i : Nat) : Prop := ∀ j, 0 < j → i ≤ j → (h : j < L.length) → (L[j - 1]'(by omega)).1 < L[j].1
theorem Up.step {L : List It} {i : Nat} (hi : i < L.length) : Up L i ↔ ((h0 : 0 < i) → (L[i - 1]'(by omega)).1 < L[i].1) ∧ Up L (i + 1) := by
  constructor
  · exact fun h => ⟨fun h0 => h i h0 (Nat.le_refl _) hi, fun j h0 hj hl => h j h0 (by omega) hl⟩
  · rintro ⟨h1, h2⟩ j h0 hj hl
    rcases Nat.eq_or_lt_of_le hj with rfl | hj
    · exact h1 h0
    · exact h2 j h0 hj hl
noncomputable instance (L : List It) (i : Nat) : Decidable (Up L i) := Classical.propDecidable _
noncomputable def ichk (L : List It) : Int := if 1024 < L.length then 7 else if Up L 0 then 0 else 9
theorem ichk_zero {L : List It} : ichk L = 0 ↔ L.length ≤ 1024 ∧ Up L 0 := by
  unfold ichk
  by_cases h1 : 1024 < L.length
  · rw [if_pos h1]; omega
  by_cases h2 : Up L 0
  · rw [if_neg h1, if_pos h2]; simp [h2]; omega
  · rw [if_neg h1, if_neg h2]; simp [h2]
theorem Up.one {L : List It} : Up L 1 ↔ Up L 0 := ⟨fun h j h0 _ hl => h j h0 h0 hl, fun h j h0 _ hl => h j h0 (Nat.zero_le _) hl⟩
theorem chk_lp (orc : FuncId → Bool) (L : List It) (v0 : Value) (hlen : L.length ≤ 1024) : ∀ (k i : Nat) (τ : Env) (G : GS), i + k = L.length → τ 0 = v0 → τ 8 = .int .i64 L.length → τ 9 = .int .i64 i → SlR rIt G v0 L →
    Wp ((exL Q orc).lpx 22 0 τ G) fun r => Ext G r.2.2 ∧ (Up L i → r.1 = .exit 0) ∧ (¬ Up L i → r.1 = .ret ∧ r.2.1 2 = .int .i64 9) := by
  intro k
  induction k with
  | zero =>
    intro i τ G hi h0 h8 h9 hs
    have hi' : i = L.length := by omega
    subst hi'
    refine Wp.lp (l22_0 (exL_ok Q orc)) ?_
    simp [b22_0, clip_t, h0, h8, h9, Ext.refl]
    exact fun j h0 hj hl => absurd hl (by omega)
  | succ k ih =>
    intro i τ G hi h0 h8 h9 hs
    have hlt : i < L.length := by omega
    have hw : IntKind.wrap .i64 ((i : Int) + 1) = ((i + 1 : Nat) : Int) := wrap64 (by omega) (by omega)
    obtain ⟨b, o, c, rfl, hb, hc, _, _⟩ := it_at hs hlt
    have hsr := hs.ext ((Ext.refl G).room 16)
    refine Wp.lp (l22_0 (exL_ok Q orc)) ?_
    rw [Up.step hlt]
    by_cases hz : i = 0
    · subst hz
      simp [-Int.natCast_add, b22_0, clip_t, h0, h8, h9, hlt, hw]
      refine (ih 1 _ _ (by omega) rfl rfl rfl hsr).mono ?_
      rintro r ⟨h1, h2, h3⟩
      refine ⟨((Ext.refl G).room 16).trans h1, h2, ?_⟩
      simpa using h3
    · obtain ⟨b', o', c', e', _, hc', _, _⟩ := it_at hs (i := i - 1) (by omega)
      simp only [Value.slice.injEq, Option.some.injEq, Addr.mk.injEq] at e'
      obtain ⟨⟨rfl, rfl, _⟩, _, rfl⟩ := e'
      have hi0 : 0 < i := by omega
      have hi1 : (0 : Int) ≤ i := by omega
      have hw1 : IntKind.wrap .i64 ((i : Int) - 1) = ((i - 1 : Nat) : Int) := by rw [wrap64 (by omega) (by omega)]; omega
      have hlt1 : i - 1 < L.length := by omega
      have hh : ∀ q : Prop, ((0 < i → q) ↔ q) := fun q => ⟨fun h => h (by omega), fun h _ => h⟩
      by_cases hbad : L[i].1 ≤ (L[i - 1]'(by omega)).1
      · have hn : ¬ (L[i - 1]'(by omega)).1 < L[i].1 := by omega
        simp [-Int.natCast_add, b22_0, clip_t, h0, h8, h9, hlt, hw, hi0, hi1, hw1, hlt1, hc, hc', hbad]
        refine ⟨(Ext.refl G).room 16, fun h => absurd (h (by omega)) hn⟩
      · have hn : (L[i - 1]'(by omega)).1 < L[i].1 := by omega
        simp [-Int.natCast_add, b22_0, clip_t, h0, h8, h9, hlt, hw, hi0, hi1, hw1, hlt1, hc, hc', hbad]
        refine (ih (i + 1) _ _ (by omega) rfl rfl rfl hsr).mono ?_
        rintro r ⟨h1, h2, h3⟩
        exact ⟨((Ext.refl G).room 16).trans h1, fun _ h => h2 h, fun h => h3 (h fun _ => hn)⟩
theorem check_ok (orc : FuncId → Bool) {L : List It} {v0 : Value} {G : GS} (hs : SlR rIt G v0 L) (hl : L.length < 2 ^ 40) : ∃ G', (E orc).cl 22 [v0] G = some (.int .i64 (ichk L), G') ∧ Ext G G' := by
  obtain ⟨a, c, hv⟩ := hs.len
  have hf := f22 (exL_ok Q orc) v0 G
  by_cases h1 : 1024 < L.length
  · have h1' : (1024 : Int) < L.length := by omega
    exact ⟨G, hf _ (by rw [hv]; simp [s22, ichk, h1, h1']), Ext.refl G⟩
  · have h1' : ¬ (1024 : Int) < L.length := by omega
    have w : Wp (s22 true (exL Q orc) v0 G) fun r => r.1 = .int .i64 (ichk L) ∧ Ext G r.2 := by
      subst hv
      simp [s22, h1']
      refine Wp.bE ((chk_lp orc L _ (by omega) L.length 0 _ G (by omega) rfl rfl rfl hs).mono ?_)
      rintro ⟨e, τ, G'⟩ ⟨x, y, z⟩
      simp only at x y z
      by_cases hu : Up L 0
      · rw [y hu]; simp [ichk, h1, hu, x]
      · obtain ⟨rfl, z2⟩ := z hu
        simp [ichk, h1, hu, x, z2]
    obtain ⟨⟨v, G'⟩, e1, rfl, e3⟩ := w
    exact ⟨G', hf _ e1, e3⟩
theorem rchk_lp (orc : FuncId → Bool) (L : List It) (v0 : Value) (hlen : L.length ≤ 1024) : ∀ (k i : Nat) (τ : Env) (G : GS), i + k = L.length → 0 < i → τ 0 = v0 → τ 3 = .int .i64 i → SlR rIt G v0 L →
    Wp ((exL Q orc).lpx 23 0 τ G) fun r => Ext G r.2.2 ∧ (Up L i → r.1 = .exit 0) ∧ (¬ Up L i → r.1 = .ret ∧ r.2.1 2 = .int .i64 9) := by
  intro k
  induction k with
  | zero =>
    intro i τ G hi hz h0 h3 hs
    have hi' : i = L.length := by omega
    subst hi'
    obtain ⟨a, c, rfl⟩ := hs.len
    refine Wp.lp (l23_0 (exL_ok Q orc)) ?_
    simp [b23_0, clip_t, h0, h3, Ext.refl]
    exact fun j h0 hj hl => absurd hl (by omega)
  | succ k ih =>
    intro i τ G hi hz h0 h3 hs
    have hlt : i < L.length := by omega
    have hw : IntKind.wrap .i64 ((i : Int) + 1) = ((i + 1 : Nat) : Int) := wrap64 (by omega) (by omega)
    obtain ⟨b, o, c, rfl, hb, hc, _, _⟩ := it_at hs hlt
    have hsr := hs.ext ((Ext.refl G).room 12)
    refine Wp.lp (l23_0 (exL_ok Q orc)) ?_
    rw [Up.step hlt]
    obtain ⟨b', o', c', e', _, hc', _, _⟩ := it_at hs (i := i - 1) (by omega)
    simp only [Value.slice.injEq, Option.some.injEq, Addr.mk.injEq] at e'
    obtain ⟨⟨rfl, rfl, _⟩, _, rfl⟩ := e'
    have hi1 : (0 : Int) ≤ i := by omega
    have hw1 : IntKind.wrap .i64 ((i : Int) - 1) = ((i - 1 : Nat) : Int) := by rw [wrap64 (by omega) (by omega)]; omega
    have hlt1 : i - 1 < L.length := by omega
    by_cases hbad : L[i].1 ≤ (L[i - 1]'(by omega)).1
    · have hn : ¬ (L[i - 1]'(by omega)).1 < L[i].1 := by omega
      simp [-Int.natCast_add, b23_0, clip_t, h0, h3, hlt, hw, hi1, hw1, hlt1, hc, hc', hbad]
      refine ⟨(Ext.refl G).room 12, fun h => absurd (h (by omega)) hn⟩
    · have hn : (L[i - 1]'(by omega)).1 < L[i].1 := by omega
      simp [-Int.natCast_add, b23_0, clip_t, h0, h3, hlt, hw, hi1, hw1, hlt1, hc, hc', hbad]
      refine (ih (i + 1) _ _ (by omega) (by omega) rfl rfl hsr).mono ?_
      rintro r ⟨h1, h2, h3⟩
      exact ⟨((Ext.refl G).room 12).trans h1, fun _ h => h2 h, fun h => h3 (h fun _ => hn)⟩
theorem rcheck_ok (orc : FuncId → Bool) {L : List It} {v0 : Value} {G : GS} (hs : SlR rIt G v0 L) (hl : L.length < 2 ^ 40) : ∃ G', (E orc).cl 23 [v0] G = some (.int .i64 (ichk L), G') ∧ Ext G G' := by
  obtain ⟨a, c, hv⟩ := hs.len
  have hf := f23 (exL_ok Q orc) v0 G
  by_cases h1 : 1024 < L.length
  · have h1' : (1024 : Int) < L.length := by omega
    exact ⟨G, hf _ (by rw [hv]; simp [s23, ichk, h1, h1']), Ext.refl G⟩
  · have h1' : ¬ (1024 : Int) < L.length := by omega
    have w : Wp (s23 true (exL Q orc) v0 G) fun r => r.1 = .int .i64 (ichk L) ∧ Ext G r.2 := by
      subst hv
      simp [s23, h1']
      by_cases h0 : L.length = 0
      · have hL : L = [] := List.eq_nil_of_length_eq_zero h0
        subst hL
        refine Wp.bE (Wp.lp (l23_0 (exL_ok Q orc)) ?_)
        have hu : Up [] 0 := fun j _ _ h => by simp at h
        simp [b23_0, clip_t, ichk, hu, Ext.refl]
      refine Wp.bE ((rchk_lp orc L _ (by omega) (L.length - 1) 1 _ G (by omega) (by omega) rfl rfl hs).mono ?_)
      rintro ⟨e, τ, G'⟩ ⟨x, y, z⟩
      simp only [Up.one] at x y z
      by_cases hu : Up L 0
      · rw [y hu]; simp [ichk, h1, hu, x]
      · obtain ⟨rfl, z2⟩ := z hu
        simp [ichk, h1, hu, x, z2]
    obtain ⟨⟨v, G'⟩, e1, rfl, e3⟩ := w
    exact ⟨G', hf _ e1, e3⟩
end Go.Proofs.Ytglafaecdpilgaa.Lift
