import Derived.Test.YtchempegmbidoaaO8
namespace Go.Proofs.Ytchempegmbidoaa.Lift
open Go Go.Proofs.Ytchempegmbidoaa.Gh Go.Proofs
set_option linter.unusedVariables false
set_option linter.unusedSimpArgs false
def SlGe (lo : Nat) (v : Value) : Prop := ∀ a n c, v = .slice (some a) n c → lo ≤ a.block
theorem own_ge {B : Nat} {G : GS} {sz n : Nat} {v : Value} {cs : List Value} (h : OwnL B G sz v n cs) : SlGe B v := by
  rcases h.2 with ⟨rfl, rfl⟩ | ⟨b, op, rfl, h2, _⟩
  · intro a n c e; cases e
  · intro a n c e; cases e; exact h2
theorem DrawsAt.keepIn {G G' : GS} {d s at_ lo : Nat} {sl : Value} {L : List Int} (h : DrawsAt G d s sl L at_) (hge : SlGe lo sl) (hlo : lo ≤ s) (hn : G.nx ≤ G'.nx) (hk : ∀ g, lo ≤ g → g ≤ d → G'.obj g = G.obj g) : DrawsAt G' d s sl L at_ := by
  have hsd := h.sd
  refine ⟨(hk d (by omega) (Nat.le_refl _)).trans h.hd, (hk s hlo (by omega)).trans h.hs, ?_, h.lt, hsd, Nat.lt_of_lt_of_le h.dn hn, h.le, h.sh⟩
  refine ⟨h.hl.1, h.hl.2.imp id ?_⟩
  rintro ⟨b, o, c, ob, h1, h2, h3, h4, h5, h6⟩
  have := h.lt _ _ _ h1
  simp only at this
  exact ⟨b, o, c, ob, h1, h2, Nat.lt_of_lt_of_le h3 hn, (hk b (hge _ _ _ h1) (by omega)).trans h4, h5, h6⟩
theorem clone_ok (orc : FuncId → Bool) {n : Nat} {A : List Int} {v0 : Value} {G : GS} (hA : SlIs G 1 v0 n (ints A)) (hlt : n < 2 ^ 40) :
    ∃ v' G', (E orc).cl 52 [v0] G = some (v', G') ∧ Ext G G' ∧ OwnL G.nx G' 1 v' n (ints A) := by
  rcases hA.2 with ⟨rfl, rfl⟩ | ⟨b, o, c, ob, h1, _⟩
  · have : ints A = [] := List.eq_nil_of_length_eq_zero (by simpa using hA.1)
    rw [this]
    exact ⟨.slice none 0 0, G, by rw [c52]; simp [s52], .refl G, .nil _ _ _⟩
  · have h0 : OwnL G.nx (G.push ⟨[], 1, false, 1⟩) 1 (.slice (some ⟨G.nx, 0, none⟩) 0 0) 0 [] := ⟨by simp, .inr ⟨G.nx, false, rfl, Nat.le_refl _, by simp, by simp⟩⟩
    obtain ⟨v', G', h2, h3, h4⟩ := app_ok (ib := 8) (by omega) (by omega) ((Ext.refl G).push ⟨[], 1, false, 1⟩) h0 (hA.ext ((Ext.refl G).push _)) (ints_one A) (by omega)
    refine ⟨v', G', ?_, h3, by simpa using h4⟩
    rw [c52]
    subst h1
    simp [s52, fillS, fillC, h2]
theorem new_ok (orc : FuncId → Bool) {L : List Int} {v0 : Value} {G : GS} (hL : SlIs G 1 v0 L.length (ints L)) (hle : L.length ≤ 4096) :
    ∃ d s sl G', (E orc).cl 22 [v0] G = some (.tuple #[P1 d, .int .i64 0], G') ∧ Ext G G' ∧ DrawsAt G' d s sl L 0 ∧ G.nx ≤ s ∧ SlGe G.nx sl := by
  obtain ⟨a, c, ha⟩ := hL.len
  obtain ⟨sl, G1, h1, e1, o1⟩ := clone_ok orc hL (by omega)
  obtain ⟨a1, c1, hsl⟩ := o1.reads.len
  have hnle : ¬ (4096 : Int) < L.length := by omega
  have e3 : Ext G ((G1.push ⟨[sl, .int .i64 0], 1, false, 1⟩).push ⟨[P1 G1.nx], 1, false, 1⟩) := (e1.push _).push _
  refine ⟨G1.nx + 1, G1.nx, sl, (G1.push ⟨[sl, .int .i64 0], 1, false, 1⟩).push ⟨[P1 G1.nx], 1, false, 1⟩, ?_, e3, ⟨by simp, by simp, o1.reads.ext (((Ext.refl G1).push _).push _), o1.reads.lt, by omega, by simp, by omega, by omega⟩, e1.nx, own_ge o1⟩
  rw [c22]
  simp [s22, ha, hnle]
  rw [← ha, h1]
  subst hsl
  simp [fillL, fillC, Value.cells, splice_put, splice_end, mBox]
theorem pick_ok (orc : FuncId → Bool) (x n : Int) (hn : 0 < n) (hb : n ≤ 1000000) (G : GS) : (E orc).cl 32 [.int .i64 x, .int .i64 n] G = some (.int .i64 (x % n), G) := by
  rw [c32]
  have hn' : ¬ n ≤ 0 := by omega
  have hn0 : n ≠ 0 := by omega
  have h1 := Int.emod_nonneg x hn0
  have h2 := Int.emod_lt_of_pos x hn
  by_cases hx : x.tmod n < 0
  · have e : x.tmod n + n = x % n := by
      rw [Int.tmod_eq_emod] at hx ⊢
      split at hx
      · omega
      · rename_i h; rw [if_neg h]; have hnn : (n.natAbs : Int) = n := by omega
        omega
    have hw : IntKind.wrap .i64 (x % n) = x % n := wrap64 (by omega) (by omega)
    simp [s32, hn', hn0, hx, e, hw]
  · have e : x.tmod n = x % n := by
      rw [Int.tmod_eq_emod] at hx ⊢
      split
      · simp
      · rename_i h
        rw [if_neg h] at hx
        have hnn : (n.natAbs : Int) = n := by omega
        simp only [hnn] at hx ⊢
        omega
    have hx' : ¬ x % n < 0 := by omega
    simp [s32, hn', hn0, hx', e]
theorem take_b (orc : FuncId → Bool) (v : Value) {d1 s1 d2 s2 lo : Nat} {sl1 sl2 : Value} {L : List Int} (hlo : d1 < lo) (hls : lo ≤ s2) (n : Nat) (hn : n ≤ 1000) : ∀ (k i : Nat) (T : List Value) (G : GS) (a0 : Nat), i + k = n → T.length = 83 → nth undef T 8 = P1 d2 → nth undef T 1 = .int .i64 n → nth undef T 10 = .int .i64 i →
    DrawsAt G d1 s1 sl1 L a0 → DrawsAt G d2 s2 sl2 L (min i L.length) →
    Wp ((E orc).lp (subAt [1, 1, 1, 1, 1, 1, 1, 0, 1, 0, 0] (bodyOf Try.f8)) T G) fun r => r.1 = .exit 0 ∧ DrawsAt r.2.2 d1 s1 sl1 L a0 ∧ DrawsAt r.2.2 d2 s2 sl2 L (min n L.length) ∧ nth undef r.2.1 0 = nth undef T 0 ∧ nth undef r.2.1 1 = .int .i64 n ∧ nth undef r.2.1 5 = nth undef T 5 ∧ nth undef r.2.1 6 = nth undef T 6 ∧ nth undef r.2.1 8 = P1 d2 ∧ r.2.1.length = 83 ∧ Mod [s2] G r.2.2 := by
  intro k
  induction k with
  | zero =>
    intro i T G a0 hi hT h8 h1 h10 hA hB
    refine Wp.up (l8_0 orc T G hT) ?_
    have : i = n := by omega
    subst this
    simp [b8_0, h8, h1, h10, hA, hB, Mod.refl]
  | succ k ih =>
    intro i T G a0 hi hT h8 h1 h10 hA hB
    have hlt : (i : Int) < n := by omega
    have hw : IntKind.wrap .i64 ((i : Int) + 1) = ((i + 1 : Nat) : Int) := wrap64 (by omega) (by omega)
    obtain ⟨G', e1, m1, b1⟩ := next_ok orc hB
    rw [show min (min i L.length + 1) L.length = min (i + 1) L.length by omega] at b1
    have a1 : DrawsAt G' d1 s1 sl1 L a0 := hA.keep m1.nx fun g hg => m1.obj g (by have := hA.dn; omega) (by simp; omega)
    refine Wp.up (l8_0 orc T G hT) ?_
    simp only [b8_0, h8, h1, h10, bin_lss, bP_some, decide_eq_true hlt, ifV_true, e1, bS_some, bin_add, hw]
    refine (ih (i + 1) _ G' a0 ?_ ?_ ?_ ?_ ?_ a1 b1).mono ?_
    · omega
    · rfl
    · rfl
    · rfl
    · rfl
    · rintro r ⟨h1, h2, h3, h4, h5, h6, h7, h8, h9, h10⟩
      exact ⟨h1, h2, h3, h4, h5, h6, h7, h8, h9, m1.trans h10⟩
theorem same_two (orc : FuncId → Bool) {d1 s1 d2 s2 lo : Nat} {v0 sl1 sl2 : Value} {L : List Int} (hL : L.length ≤ 200) (hlo : d1 < lo) (hls : lo ≤ s2) (hge : SlGe lo sl2) : ∀ (k i : Nat) (T : List Value) (G : GS) (m : Nat), i + k = L.length + 1 → T.length = 83 → (∃ a c, nth undef T 0 = .slice a L.length c) → nth undef T 6 = P1 d1 → nth undef T 8 = P1 d2 → nth undef T 11 = .int .i64 i →
    DrawsAt G d1 s1 sl1 L m → DrawsAt G d2 s2 sl2 L m → L.length ≤ m + k → SlGe 0 v0 →
    Wp ((E orc).lp (subAt [1, 1, 1, 1, 1, 1, 1, 1, 1, 0, 1, 0, 0] (bodyOf Try.f8)) T G) fun r => r.1 = .exit 2 ∧ DrawsAt r.2.2 d1 s1 sl1 L L.length ∧ nth undef r.2.1 5 = nth undef T 5 ∧ nth undef r.2.1 6 = P1 d1 := by
  intro k
  induction k with
  | zero =>
    intro i T G m hi hT h0 h6 h8 h11 hA hB hm hz
    obtain ⟨a, c, h0⟩ := h0
    have hw : IntKind.wrap .i64 ((L.length : Int) + 1) = (L.length : Int) + 1 := wrap64 (by omega) (by omega)
    have hlt : ¬ (i : Int) < (L.length : Int) + 1 := by omega
    have hmm : m = L.length := by have := hA.le; omega
    subst hmm
    refine Wp.up (l8_1 orc T G hT) ?_
    simp only [b8_1, h0, h6, h8, h11, ln_22, bin_lss, bP_some, bin_add, hw, decide_eq_false hlt, ifV_false, Wp_some]
    exact ⟨trivial, hA, rfl, rfl⟩
  | succ k ih =>
    intro i T G m hi hT h0 h6 h8 h11 hA hB hm hz
    obtain ⟨a, c, h0⟩ := h0
    have hw : IntKind.wrap .i64 ((L.length : Int) + 1) = (L.length : Int) + 1 := wrap64 (by omega) (by omega)
    have hw' : IntKind.wrap .i64 ((i : Int) + 1) = ((i + 1 : Nat) : Int) := wrap64 (by omega) (by omega)
    have hlt : (i : Int) < (L.length : Int) + 1 := by omega
    have r1 : Ext G (G.room 17) := (Ext.refl G).room 17
    have r2 : Ext G ((G.room 17).room 17) := r1.room 17
    have hdn1 := hA.dn
    have hdn2 := hB.dn
    have hsd1 := hA.sd
    have hsd2 := hB.sd
    have hA2 := hA.ext r2
    have hB2 := hB.ext r2
    obtain ⟨G1, e1, m1, A1⟩ := next_ok orc hA2
    have B1 : DrawsAt G1 d2 s2 sl2 L m := hB2.keepIn hge hls m1.nx fun g hg hg' => m1.obj g (by simp; omega) (by simp; omega)
    obtain ⟨G2, e2, m2, B2⟩ := next_ok orc B1
    have A2 : DrawsAt G2 d1 s1 sl1 L (min (m + 1) L.length) := A1.keep m2.nx fun g hg => m2.obj g (by have := A1.dn; omega) (by simp; omega)
    refine Wp.up (l8_1 orc T G hT) ?_
    simp only [b8_1, h0, h6, h8, h11, ln_22, bin_lss, bP_some, bin_add, hw, hw', decide_eq_true hlt, ifV_true, left_ok orc hA, bS_some, left_ok orc (hB.ext r1), bin_neq, decide_true, Bool.not_true, gd_true, e1, e2, pickV_bool, Bool.false_eq_true, if_false, ifV_false]
    refine (ih (i + 1) _ G2 (min (m + 1) L.length) ?_ ?_ ?_ ?_ ?_ ?_ A2 B2 ?_ hz).mono ?_
    · omega
    · rfl
    · exact ⟨a, c, rfl⟩
    · rfl
    · rfl
    · rfl
    · omega
    · rintro r ⟨h1, h2, h3, h4⟩
      exact ⟨h1, h2, h3, h4⟩
end Go.Proofs.Ytchempegmbidoaa.Lift
