import Derived.Test.YtchempegmbidoaaO9
namespace Go.Proofs.Ytchempegmbidoaa.Lift
open Go Go.Proofs.Ytchempegmbidoaa.Gh Go.Proofs
set_option linter.unusedVariables false
set_option linter.unusedSimpArgs false
theorem drawSkips (orc : FuncId → Bool) (ho : orc 6 = true) (L : List Int) (v0 : Value) (nn : Int) (G : GS) (hv : SlIs G 1 v0 L.length (ints L)) :
    ∃ G', (E orc).cl 8 [v0, .int .i64 nn] G = some (.bool true, G') := by
  obtain ⟨a, c, ha⟩ := hv.len
  by_cases hl : 200 < L.length
  · refine ⟨G, c8 orc _ _ G ?_⟩
    have hl' : (200 : Int) < L.length := by omega
    simp [s8, ha, hl', cl_orc Q orc ho]
  have hl' : ¬ (200 : Int) < L.length := by omega
  obtain ⟨N, hN, hN'⟩ : ∃ N : Nat, (N : Int) = nn % 210 ∧ N < 210 := ⟨(nn % 210).toNat, by omega, by omega⟩
  have hp := fun G => pick_ok orc nn 210 (by omega) (by omega) G
  obtain ⟨d1, s1, sl1, G1, e1, x1, D1, n1, g1⟩ := new_ok orc hv (by omega)
  obtain ⟨d2, s2, sl2, G2, e2, x2, D2, n2, g2⟩ := new_ok orc (hv.ext x1) (by omega)
  have D1' := D1.ext x2
  have hd1 := D1.dn
  have main : Wp (s8 orc v0 (.int .i64 nn) G) fun r => r.1 = .bool true := by
    simp only [s8, cl_orc Q orc ho, bS_some, ha, ln_22, bP_some, bin_gtr, decide_eq_false hl', ifV_false, hp, ← hN]
    rw [← ha]
    simp [e1, e2, pExtract, getN_zero, getN_succ]
    refine Wp.bX ((take_b orc v0 (d1 := d1) (s1 := s1) (lo := G1.nx) hd1 n2 N (by omega) N 0 _ G2 0 ?_ ?_ ?_ ?_ ?_ D1' (by simpa using D2)).mono ?_)
    · omega
    · rfl
    · rfl
    · rfl
    · rfl
    · rintro ⟨e, T, G3⟩ ⟨h1, h2, h3, h4, h5, h6, h7, h8, h9, h10⟩
      simp only at h1 h2 h3 h4 h5 h6 h7 h8 h9 h10
      subst h1
      have h4' : nth undef T 0 = v0 := h4
      have h6' : nth undef T 5 = .bool true := h6
      have h7' : nth undef T 6 = P1 d1 := h7
      obtain ⟨G4, k, e4, m4, D4, hk⟩ := skip_ok orc h2 N
      have hkk : k = min N L.length := by omega
      subst hkk
      have D5 : DrawsAt G4 d2 s2 sl2 L (min N L.length) := h3.keepIn g2 n2 m4.nx fun g hg hg' => m4.obj g (by have := h3.dn; omega) (by have := h2.sd; simp; omega)
      have hmin : (if (L.length : Int) < N then (L.length : Int) else N) = ((min N L.length : Nat) : Int) := by split <;> omega
      simp only [ifE_same, h4', h5, h6', h7', ha, e4, bS_some, ln_22, bP_some, min_int, hmin, bin_neq, decide_true, Bool.not_true, ifV_false]
      refine Wp.bX ((same_two orc (v0 := v0) (by omega) (d1 := d1) (d2 := d2) (lo := G1.nx) hd1 n2 g2 (L.length + 1) 0 _ G4 (min N L.length) ?_ ?_ ?_ ?_ ?_ ?_ (by simpa using D4) D5 (by omega) (fun _ _ _ _ => Nat.zero_le _)).mono ?_)
      · omega
      · rfl
      · exact ⟨a, c, rfl⟩
      · rfl
      · exact h8
      · rfl
      · rintro ⟨e, T', G5⟩ ⟨q1, q2, q3, q4⟩
        simp only at q1 q2 q3 q4
        subst q1
        have q3' : nth undef T' 5 = .bool true := q3
        have hle := left_ok orc q2
        simp [q3', q4, hle]
  obtain ⟨⟨v, G'⟩, h1, h2⟩ := main
  simp only at h2
  subst h2
  exact ⟨G', c8 orc _ _ G h1⟩
end Go.Proofs.Ytchempegmbidoaa.Lift
