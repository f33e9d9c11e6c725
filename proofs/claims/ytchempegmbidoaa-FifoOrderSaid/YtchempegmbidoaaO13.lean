import Derived.Test.YtchempegmbidoaaO12
import Derived.Test.YtchempegmbidoaaGhLW
set_option linter.unusedVariables false
set_option linter.unusedSimpArgs false
namespace Go.Proofs.Ytchempegmbidoaa.Lift
open Go Go.Proofs.Ytchempegmbidoaa.Gh Go.Proofs
/-- written over: no other block is touched -/
theorem overm_lp (orc : FuncId → Bool) (A : GS) (b : Nat) (n : Nat) (hn : n < 2 ^ 40) : ∀ (k i : Nat) (cs : List Value) (op : Bool) (T : List Value) (G : GS), i + k = n → T.length = 12 → nth undef T 0 = .slice (some ⟨b, 0, none⟩) n n → nth undef T 2 = .int .i64 i →
    A.nx ≤ G.nx → (∀ g, g ≠ b → G.obj g = A.obj g) → G.obj b = some ⟨cs, 1, op, 1⟩ → cs.length = n →
    Wp ((E orc).lp (subAt [1, 0, 0] (bodyOf Try.f19)) T G) fun r => r.1 = .exit 0 ∧ A.nx ≤ r.2.2.nx ∧ ∀ g, g ≠ b → r.2.2.obj g = A.obj g := by
  intro k
  induction k with
  | zero =>
    intro i cs op T G hi hT h0 h2 hx hA ho hc
    refine Wp.up (l19_0 orc T G hT) ?_
    have : i = n := by omega
    simpa [b19_0, h0, h2, this, hx] using hA
  | succ k ih =>
    intro i cs op T G hi hT h0 h2 hx hA ho hc
    have hlt : i < n := by omega
    have hw : IntKind.wrap .i64 ((i : Int) + 1) = ((i + 1 : Nat) : Int) := wrap64 (by omega) (by omega)
    have hi0 : (0 : Int) ≤ i := by omega
    have hst : storeN 1 b i (.int .i64 (-77)) G = some (G.put b (GObj.set ⟨cs, 1, op, 1⟩ i (.int .i64 (-77)))) := by
      simp only [storeN, Value.cells]
      exact wr1_of ho rfl rfl (by simp only; omega)
    refine Wp.up (l19_0 orc T G hT) ?_
    simp [b19_0, h0, h2, hlt, hw, hi0, hst]
    refine ih (i + 1) (cs.set i (.int .i64 (-77))) op _ _ ?_ ?_ ?_ ?_ ?_ ?_ ?_ ?_
    · omega
    · rfl
    · rfl
    · rfl
    · simpa using hx
    · intro g hg
      rw [obj_put, if_neg hg]
      exact hA g hg
    · simp [GObj.set]
    · simpa using hc
theorem over_mod (orc : FuncId → Bool) {B hi : Nat} {G : GS} {n : Nat} {v0 : Value} {cs : List Value} (h : OwnL B G 1 v0 n cs) (hx : SlLt hi v0) (hlt : n < 2 ^ 40) :
    ∃ G', (E orc).cl 19 [v0] G = some (.tuple #[], G') ∧ G.nx ≤ G'.nx ∧ ∀ g, g < B ∨ hi ≤ g → G'.obj g = G.obj g := by
  rcases h.2 with ⟨rfl, rfl⟩ | ⟨b, op, rfl, h2, h3, h4⟩
  · refine ⟨G, c19 orc _ G ?_, Nat.le_refl _, fun _ _ => rfl⟩
    have := l19_0 orc [.slice none 0 0, undef, .int .i64 0, undef, undef, undef, undef, undef, undef, undef, undef, undef] G rfl (r := (.exit 0, _, G)) (by simp [b19_0]; rfl)
    simp [s19, this]
  · obtain ⟨⟨e, T', G'⟩, hlp, h5, h6, h7⟩ := overm_lp orc G b n hlt n 0 cs op [.slice (some ⟨b, 0, none⟩) n n, undef, (.int .i64 0), undef, undef, undef, undef, undef, undef, undef, undef, undef] G (by omega) rfl rfl rfl (Nat.le_refl _) (fun _ _ => rfl) h4 (by simpa using h.1)
    simp only at h5 h6 h7
    subst h5
    have hb : b < hi := hx _ _ _ rfl
    exact ⟨G', c19 orc _ G (by simp [s19, hlp]), h6, fun g hg => h7 g (by omega)⟩
theorem row_act {r : List Value} (h : Gh.Row [some .i64, some .i64] r) : ∃ a : Int × Int, r = encA a := by
  match r with
  | [] => exact h.elim
  | [_] => exact h.2.elim
  | x :: y :: z :: l => exact h.2.2.elim
  | [x, y] =>
    obtain ⟨⟨m, hm, _⟩, ⟨n, hn, _⟩, _⟩ := h
    exact ⟨(m, n), by rw [hm, hn]; rfl⟩
theorem acts_none (orc : FuncId → Bool) {T : List Value} {G : GS} (hT : T.length = 130) (h8 : nth undef T 8 = .pointer none) :
    Wp ((E orc).lp (subAt [1, 1, 1, 1, 1, 1, 1, 0, 1, 0, 0] (bodyOf Try.f4)) T G) fun r => r.1 = .exit 0 := by
  refine Wp.up (l4_0 orc T G hT) ?_
  simp [b4_0, h8]
theorem drawActs (orc : FuncId → Bool) (ho : orc 14 = true) (L : List Int) (A : List (Int × Int)) (v0 v1 : Value) (G : GS) (hv : SlIs G 1 v0 L.length (ints L)) (hA : SlIs G 2 v1 A.length (actsV A)) :
    ∃ G', (E orc).cl 4 [v0, v1] G = some (.bool true, G') := by
  obtain ⟨a, c, ha⟩ := hv.len
  obtain ⟨a1, c1, ha1⟩ := hA.len
  by_cases hl : 5000 < L.length
  · refine ⟨G, c4 orc _ _ G ?_⟩
    have hl' : (5000 : Int) < L.length := by omega
    simp [s4, ha, hl', cl_orc Q orc ho]
  have hl' : ¬ (5000 : Int) < L.length := by omega
  by_cases hk : 60 < A.length
  · refine ⟨G, c4 orc _ _ G ?_⟩
    have hk' : (60 : Int) < A.length := by omega
    simp [s4, ha, ha1, hl', hk', cl_orc Q orc ho]
  have hk' : ¬ (60 : Int) < A.length := by omega
  obtain ⟨vi, G1, e1, x1, o1⟩ := copyInts orc hv (by omega)
  obtain ⟨a2, c2, ha2⟩ := o1.reads.len
  by_cases hq : 4096 < L.length
  · -- neither takes it
    have hq' : (4096 : Int) < L.length := by omega
    have d22 : ∀ v G, SlIs G 1 v L.length (ints L) → (E orc).cl 22 [v] G = some (.tuple #[.pointer none, .int .i64 4], G) := by
      intro v G h
      obtain ⟨a, c, rfl⟩ := h.len
      rw [c22]; simp [s22, hq']
    have d23 : ∀ v G, SlIs G 1 v L.length (ints L) → (E orc).cl 23 [v] G = some (.tuple #[.pointer none, .int .i64 4], G) := by
      intro v G h
      obtain ⟨a, c, rfl⟩ := h.len
      rw [c23]; simp [s23, hq']
    obtain ⟨G4, e4, x4⟩ := sameInts orc o1.reads (hv.ext x1) (by omega)
    obtain ⟨G5, e5, x5⟩ := overInts orc (A := G) (x1.trans x4) (o1.ext x4) (by omega)
    have main : Wp (s4 orc v0 v1 G) fun r => r.1 = .bool true := by
      have q22 := d22 _ _ o1.reads
      have q23 := d23 _ _ (hv.ext x1)
      rw [ha] at q23 e1 e4
      simp [s4, ha, ha1, hl', hk', e1, q22, q23, e4, e5, pExtract, getN_zero, getN_succ]
      refine Wp.bX (Wp.mono (acts_none orc rfl rfl) ?_)
      · rintro ⟨e, T', G6⟩ h1
        simp only at h1
        subst h1
        simp [cl_orc Q orc ho]
    obtain ⟨⟨v, G'⟩, h1, h2⟩ := main
    simp only at h2
    subst h2
    exact ⟨G', c4 orc _ _ G h1⟩
  obtain ⟨d, s, sl, G2, e2, x2, D2, n2, g2⟩ := new_ok orc o1.reads (by omega)
  obtain ⟨w, slw, G3, e3, x3, R3, n3, g3⟩ := rnew_ok orc (hv.ext (x1.trans x2)) (by omega)
  obtain ⟨G4, e4, x4⟩ := sameInts orc (((o1.ext x2).ext x3).reads) (hv.ext ((x1.trans x2).trans x3)) (by omega)
  obtain ⟨G5, e5, y5, m5⟩ := over_mod orc (hi := G1.nx) (((o1.ext x2).ext x3).ext x4) o1.reads.lt (by omega)
  have D5 : DrawsAt G5 d s sl L 0 := ((D2.ext x3).ext x4).keepIn g2 n2 y5 fun g hg _ => m5 g (.inr hg)
  have R5 : RefAt G5 w slw L 0 := (R3.ext x4).keepIn g3 n3 y5 fun g hg _ => m5 g (.inr (by have := x2.nx; omega))
  have S5 : SlIs G5 2 v1 A.length (actsV A) := (hA.ext (((x1.trans x2).trans x3).trans x4)).keep hA.lt y5 fun g hg => m5 g (.inl hg)
  have hx1 := x1.nx
  have hx2 := x2.nx
  have hsd := D2.sd
  have hdn := D2.dn
  have I5 : Two G5 A v1 d s sl w slw L 0 := ⟨D5, R5, S5, by omega, by omega, D2.lt.ne (by omega), fun a n c e => by have := g3 a n c e; omega, hA.lt.ne (by omega), hA.lt.ne (by omega)⟩
  have main : Wp (s4 orc v0 v1 G) fun r => r.1 = .bool true := by
    rw [ha] at e3 e1 e4
    simp [s4, ha, ha1, hl', hk', e1, e2, e3, e4, e5, pExtract, getN_zero, getN_succ]
    refine Wp.bX (Wp.mono (acts_lp orc A (by omega) v1 L w slw A.length 0 _ G5 d s sl 0 (by omega) rfl ha1.symm rfl rfl rfl I5) ?_)
    · rintro ⟨e, T', G6⟩ h1
      simp only at h1
      subst h1
      simp [cl_orc Q orc ho]
  obtain ⟨⟨v, G'⟩, h1, h2⟩ := main
  simp only at h2
  subst h2
  exact ⟨G', c4 orc _ _ G h1⟩
end Go.Proofs.Ytchempegmbidoaa.Lift
