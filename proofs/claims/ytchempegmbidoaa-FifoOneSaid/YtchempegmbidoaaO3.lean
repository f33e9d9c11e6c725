import Derived.Test.YtchempegmbidoaaO2
namespace Go.Proofs.Ytchempegmbidoaa.Lift
open Go Go.Proofs.Ytchempegmbidoaa.Gh Go.Proofs
set_option linter.unusedVariables false
set_option linter.unusedSimpArgs false
theorem copyInts (orc : FuncId → Bool) {n : Nat} {A : List Int} {v0 : Value} {G : GS} (hA : SlIs G 1 v0 n (ints A)) (hlt : n < 2 ^ 40) :
    ∃ v' G', (E orc).cl 15 [v0] G = some (v', G') ∧ Ext G G' ∧ OwnL G.nx G' 1 v' n (ints A) := by
  have h0 : OwnL G.nx (G.push ⟨[], 1, false, 1⟩) 1 (.slice (some ⟨G.nx, 0, none⟩) 0 0) 0 [] := ⟨by simp, .inr ⟨G.nx, false, rfl, Nat.le_refl _, by simp, by simp⟩⟩
  obtain ⟨v', G', h1, h2, h3⟩ := app_ok (ib := 8) (by omega) (by omega) ((Ext.refl G).push ⟨[], 1, false, 1⟩) h0 (hA.ext ((Ext.refl G).push _)) (ints_one A) (by omega)
  refine ⟨v', G', ?_, h2, by simpa using h3⟩
  rw [c15]
  simp [s15, fillS, fillC, h1]
/-- written over -/
theorem over_lp (orc : FuncId → Bool) (A : GS) (b : Nat) (hb : A.nx ≤ b) (n : Nat) (hn : n < 2 ^ 40) : ∀ (k i : Nat) (cs : List Value) (op : Bool) (T : List Value) (G : GS), i + k = n → T.length = 12 → nth undef T 0 = .slice (some ⟨b, 0, none⟩) n n → nth undef T 2 = .int .i64 i →
    Ext A G → G.obj b = some ⟨cs, 1, op, 1⟩ → cs.length = n →
    Wp ((E orc).lp (subAt [1, 0, 0] (bodyOf Try.f19)) T G) fun r => r.1 = .exit 0 ∧ Ext A r.2.2 := by
  intro k
  induction k with
  | zero =>
    intro i cs op T G hi hT h0 h2 hA ho hc
    refine Wp.up (l19_0 orc T G hT) ?_
    have : i = n := by omega
    simp [b19_0, h0, h2, this, hA]
  | succ k ih =>
    intro i cs op T G hi hT h0 h2 hA ho hc
    have hlt : i < n := by omega
    have hw : IntKind.wrap .i64 ((i : Int) + 1) = ((i + 1 : Nat) : Int) := wrap64 (by omega) (by omega)
    have hi0 : (0 : Int) ≤ i := by omega
    have hst : storeN 1 b i (.int .i64 (-77)) G = some (G.put b (GObj.set ⟨cs, 1, op, 1⟩ i (.int .i64 (-77)))) := by
      simp only [storeN, Value.cells]
      exact wr1_of ho rfl rfl (by simp only; omega)
    refine Wp.up (l19_0 orc T G hT) ?_
    simp [b19_0, h0, h2, hlt, hw, hi0, hst]
    refine ih (i + 1) (cs.set i (.int .i64 (-77))) op _ _ ?_ ?_ ?_ ?_ (hA.put hb _) ?_ ?_
    · omega
    · rfl
    · rfl
    · rfl
    · simp [GObj.set]
    · simpa using hc
theorem overInts (orc : FuncId → Bool) {A G : GS} {n : Nat} {v0 : Value} {cs : List Value} (hA : Ext A G) (h : OwnL A.nx G 1 v0 n cs) (hlt : n < 2 ^ 40) :
    ∃ G', (E orc).cl 19 [v0] G = some (.tuple #[], G') ∧ Ext A G' := by
  rcases h.2 with ⟨rfl, rfl⟩ | ⟨b, op, rfl, h2, h3, h4⟩
  · refine ⟨G, c19 orc _ G ?_, hA⟩
    have := l19_0 orc [.slice none 0 0, undef, .int .i64 0, undef, undef, undef, undef, undef, undef, undef, undef, undef] G rfl (r := (.exit 0, _, G)) (by simp [b19_0]; rfl)
    simp [s19, this]
  · obtain ⟨⟨e, T', G'⟩, hlp, h5, h6⟩ := over_lp orc A b h2 n hlt n 0 cs op [.slice (some ⟨b, 0, none⟩) n n, undef, (.int .i64 0), undef, undef, undef, undef, undef, undef, undef, undef, undef] G (by omega) rfl rfl rfl hA h4 (by simpa using h.1)
    simp only at h5 h6
    subst h5
    exact ⟨G', c19 orc _ G (by simp [s19, hlp]), h6⟩
/-- a new slice of one element -/
theorem one_sl {A G : GS} (hA : Ext A G) (v : Value) : SlIs (G.push ⟨[v], 1, false, 1⟩) 1 (.slice (some ⟨G.nx, 0, none⟩) 1 1) 1 [v] :=
  ⟨rfl, .inr ⟨G.nx, 0, 1, _, rfl, Nat.le_refl _, by simp, by simp; rfl, by simp, fun i hi => by simp⟩⟩
theorem heights_lp (orc : FuncId → Bool) (A : GS) (L : List Int) (v0 : Value) (most : Int) (hn : L.length < 2 ^ 40) (hv : SlIs A 1 v0 L.length (ints L)) : ∀ (k i : Nat) (v : Value) (T : List Value) (G : GS), i + k = L.length → T.length = 22 → nth undef T 1 = .int .i64 most → nth undef T 5 = v → nth undef T 8 = v0 → nth undef T 9 = .int .i64 L.length → nth undef T 10 = .int .i64 i →
    Ext A G → OwnL A.nx G 1 v i (ints ((L.take i).map fun a => hl a most 64 0 1)) →
    Wp ((E orc).lp (subAt [1, 1, 0, 1, 0, 0] (bodyOf Try.f16)) T G) fun r => r.1 = .exit 0 ∧ Ext A r.2.2 ∧ OwnL A.nx r.2.2 1 (nth undef r.2.1 5) L.length (ints (L.map fun a => hl a most 64 0 1)) := by
  intro k
  induction k with
  | zero =>
    intro i v T G hi hT h1 h5 h8 h9 h10 hA ho
    refine Wp.up (l16_0 orc T G hT) ?_
    have : i = L.length := by omega
    subst this
    rw [List.take_length] at ho
    simp [b16_0, h1, h5, h8, h9, h10, hA]
    exact ho
  | succ k ih =>
    intro i v T G hi hT h1 h5 h8 h9 h10 hA ho
    have hlt : i < L.length := by omega
    have hw : IntKind.wrap .i64 ((i : Int) + 1) = ((i + 1 : Nat) : Int) := wrap64 (by omega) (by omega)
    have hi0 : (0 : Int) ≤ i := by omega
    obtain ⟨b, o, c, e0, hb, hc⟩ := (hv.ext hA).at_ hlt
    have hc := hc 0 (by omega)
    simp [hlt] at hc
    obtain ⟨v', G', ha, hE, hO⟩ := app_ok (ib := 8) (by omega) (by omega) (hA.push ⟨[.int .i64 (hl L[i] most 64 0 1)], 1, false, 1⟩) (ho.ext ((Ext.refl G).push _)) (one_sl hA (.int .i64 (hl L[i] most 64 0 1))) rfl (by omega)
    rw [ints_snoc, ← List.map_singleton (f := fun a => hl a most 64 0 1), ← List.map_append, ← List.take_succ_eq_append_getElem hlt] at hO
    refine Wp.up (l16_0 orc T G hT) ?_
    simp only [b16_0, h1, h5, h8, h9, h10, e0]
    simp [hlt, hw, hi0, hc, height, fillS, fillC, splice_put, splice_end, Value.cells, ha]
    refine ih (i + 1) v' _ G' ?_ ?_ ?_ ?_ ?_ ?_ ?_ hE hO
    · omega
    · rfl
    · rfl
    · rfl
    · exact e0.symm
    · rfl
    · rfl
theorem heights (orc : FuncId → Bool) {L : List Int} {v0 : Value} {most : Int} {G : GS} (hn : L.length < 2 ^ 40) (hv : SlIs G 1 v0 L.length (ints L)) :
    ∃ v' G', (E orc).cl 16 [v0, .int .i64 most] G = some (v', G') ∧ Ext G G' ∧ OwnL G.nx G' 1 v' L.length (ints (L.map fun a => hl a most 64 0 1)) := by
  obtain ⟨a, c, ha⟩ := hv.len
  obtain ⟨⟨e, T', G'⟩, hlp, h5, h6, h7⟩ := heights_lp orc G L v0 most hn hv L.length 0 (.slice none 0 0) [v0, .int .i64 most, undef, undef, (.slice none 0 0), (.slice none 0 0), undef, undef, v0, .int .i64 L.length, (.int .i64 0), undef, undef, undef, undef, undef, undef, undef, undef, undef, undef, undef] G (by omega) rfl rfl rfl rfl rfl rfl (Ext.refl G) (OwnL.nil _ _ _)
  simp only at h5 h6 h7
  subst h5
  subst ha
  exact ⟨_, G', c16 orc _ _ G (by simp only [s16, ln_22, bP_some, hlp, bX_some, ifE_same]), h6, h7⟩
end Go.Proofs.Ytchempegmbidoaa.Lift
