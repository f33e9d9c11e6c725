/- contracts of the program's functions -/
import Derived.Test.YtdohlgkmaeipjaaGreatXC
set_option linter.unusedVariables false
set_option linter.unusedSimpArgs false
set_option maxRecDepth 20000
namespace Go.Proofs.YtdohlgkmaeipjaaGreat.Lift
open Go Go.Proofs.YtdohlgkmaeipjaaGreat.Gh Go.Proofs
/-! ### once, idle, all; Whole -/
theorem once_nil (orc : FuncId → Bool) (ht : orc 271 = false) {t : TW} (hs : t.sound) (G : GS) : ∃ G', (E orc).cl 95 [oV t] G = some (.int .i64 0, G') ∧ Ext G G' := by
  obtain ⟨G1, hG1⟩ : ∃ G1, G1 = (G.push ⟨oL t, 1, false, 1⟩).push ⟨[.int .i64 0], 1, false, 1⟩ := ⟨_, rfl⟩
  have x1 : Ext G G1 := by rw [hG1]; exact ((Ext.refl G).push _).push _
  have n1 : G1.nx = G.nx + 2 := by rw [hG1]; rfl
  have o1 : G1.obj G.nx = some ⟨oL t, 1, false, 1⟩ := by rw [hG1]; simp
  have p1 : G1.obj (G.nx + 1) = some ⟨[.int .i64 0], 1, false, 1⟩ := by rw [hG1]; simp
  have hs3 := hs.2.2.1
  have hs4 := hs.2.2.2.1
  obtain ⟨C, hC⟩ : ∃ C : Nat, t.size = C := ⟨t.size.toNat, by omega⟩
  obtain ⟨G2, hG2⟩ : ∃ G2, G2 = G1.push ⟨rep z4 C, 1, false, 1⟩ := ⟨_, rfl⟩
  have hmk : mkK 1 1 z4 t.size t.size G1 = some (.slice (some ⟨G1.nx, 0, none⟩) C C, G2) := by
    unfold mkK
    rw [if_pos ⟨by omega, by omega, by decide, by omega, wrap64 (by omega) (by omega), wrap64 (by omega) (by omega)⟩, hC, hG2]
    rfl
  have x2 : Ext G1 G2 := by rw [hG2]; exact (Ext.refl _).push _
  have n2 : G2.nx = G1.nx + 1 := by rw [hG2]; rfl
  obtain ⟨G3, hG3⟩ : ∃ G3, G3 = (G2.push ⟨z256, 1, false, 1⟩).put G2.nx ⟨[.slice (some ⟨G1.nx, 0, none⟩) C C], 1, false, 1⟩ := ⟨_, rfl⟩
  have x3 : Ext G2 G3 := by rw [hG3]; exact ((Ext.refl _).push _).put (Nat.le_refl _) _
  have n3 : G3.nx = G2.nx + 1 := by rw [hG3]; rfl
  have o3 := ((x2.trans x3).obj _ (by omega)).trans o1
  have p3 := ((x2.trans x3).obj _ (by omega)).trans p1
  have e4 := places_ok orc t G3
  obtain ⟨G4, hG4⟩ : ∃ G4, G4 = G3.push ⟨t.oc, 1, false, 1⟩ := ⟨_, rfl⟩
  have x4 : Ext G3 G4 := by rw [hG4]; exact (Ext.refl _).push _
  have n4 : G4.nx = G3.nx + 1 := by rw [hG4]; rfl
  rw [← hG4] at e4
  have q4 : G4.obj G3.nx = some ⟨t.oc, 1, false, 1⟩ := by rw [hG4]; simp
  have hz : z33 = [.int .i64 0] := rfl
  have hzb : z256 = [nilS] := rfl
  rw [hzb] at hG3
  have w : Wp (s95 true (exL Q orc) (oV t) G) fun q => q.1 = .int .i64 0 ∧ Ext G q.2 := by
    simp [s95, hz, hzb, ← hG1, o1, hmk, ← hG3, o3, e4]
    generalize hT : lst 23 _ = T
    have t2 : nth undef T 2 = P0 (G.nx + 1) := by rw [← hT, nth_lst]; simp [clip_t]
    generalize hr : Lp.mk _ _ _ _ _ _ = r
    obtain ⟨G5, e5, x5⟩ := run_nil orc ht hs (wb := G3.nx) (G := G4) (by omega) q4 T r (by rw [← hr]; simp) (by rw [← hr]; rfl)
    have p5 := ((x4.trans x5).obj _ (by omega)).trans p3
    simp [e5, t2, p5]
    exact ((x1.trans (x2.trans x3)).trans (x4.trans x5)).put (by omega) _
  obtain ⟨⟨v, G'⟩, e, rfl, h⟩ := w
  exact ⟨G', f95 (exL_ok Q orc) _ G _ e, h⟩
theorem idle_nil (orc : FuncId → Bool) {t : TW} (G : GS) : ∃ G', (E orc).cl 96 [oV t] G = some (.int .i64 0, G') ∧ Ext G G' := by
  obtain ⟨G1, hG1⟩ : ∃ G1, G1 = G.push ⟨oL t, 1, false, 1⟩ := ⟨_, rfl⟩
  have x1 : Ext G G1 := by rw [hG1]; exact (Ext.refl G).push _
  have o1 : G1.obj G.nx = some ⟨oL t, 1, false, 1⟩ := by rw [hG1]; simp
  obtain ⟨v, G2, n, e2, x2, hn, w2⟩ := pinned_nil orc t.u9 t.u10 t.u11 G1
  have lp : ∀ (k i : Nat) (τ : Env), i + k = n → τ 11 = v → τ 12 = .int .i64 n → τ 13 = .int .i64 i →
      Wp ((exL Q orc).lpx 96 0 τ G2) fun r => r.1 = .exit 0 ∧ r.2.2 = G2 := by
    intro k
    induction k with
    | zero =>
      intro i τ hi h1 h2 h3
      have hi' : i = n := by omega
      subst hi'
      refine Wp.lp (l96_0 (exL_ok Q orc)) ?_
      obtain ⟨a, c, hv⟩ := w2.is.len
      simp [b96_0, clip_t, h1, h2, h3, hv]
    | succ k ih =>
      intro i τ hi h1 h2 h3
      have hlt : i < n := by omega
      have hw : IntKind.wrap .i64 ((i : Int) + 1) = ((i + 1 : Nat) : Int) := wrap64 (by omega) (by omega)
      have hi0 : (0 : Int) ≤ i := by omega
      obtain ⟨b, o, c, e0, _, q0, _⟩ := w2.is.at (i := i) (by simpa using hlt)
      have hc := q0 0 (by decide)
      simp [rowsI] at hc e0
      refine Wp.lp (l96_0 (exL_ok Q orc)) ?_
      simp [-Int.natCast_add, b96_0, clip_t, h1, h2, h3, e0, hc, hw, hlt, hi0]
      exact ih (i + 1) _ (by omega) (by simp [clip_t, e0]) (by simp [clip_t]) (by simp [clip_t])
  obtain ⟨a, c, hv⟩ := w2.is.len
  have l0 : ∀ ty, ln Q true ty v = some (.int .i64 n) := fun ty => by rw [hv]; simp
  have w : Wp (s96 true (exL Q orc) (oV t) G) fun q => q.1 = .int .i64 0 ∧ Ext G q.2 := by
    simp [s96, ← hG1, o1, e2, l0]
    refine Wp.bE ((lp n 0 _ (by omega) (by simp [clip_t]) (by simp [clip_t]) (by simp [clip_t])).mono ?_)
    rintro ⟨e, τ, G3⟩ ⟨rfl, rfl⟩
    simp
    exact x1.trans x2
  obtain ⟨⟨v, G'⟩, e, rfl, h⟩ := w
  exact ⟨G', f96 (exL_ok Q orc) _ G _ e, h⟩
theorem aall_nil (orc : FuncId → Bool) (ht : orc 271 = false) {t : TW} (hs : t.sound) (G : GS) : ∃ G', (E orc).cl 97 [oV t] G = some (.int .i64 10, G') ∧ Ext G G' := by
  obtain ⟨G1, hG1⟩ : ∃ G1, G1 = G.push ⟨oL t, 1, false, 1⟩ := ⟨_, rfl⟩
  have x1 : Ext G G1 := by rw [hG1]; exact (Ext.refl G).push _
  have o1 : G1.obj G.nx = some ⟨oL t, 1, false, 1⟩ := by rw [hG1]; simp
  obtain ⟨G2, e2, x2⟩ := sums_nil orc ht hs G1
  have hs3 := hs.2.2.1
  have h0 : ¬ t.size = 0 := by omega
  refine ⟨G2, f97 (exL_ok Q orc) _ G _ ?_, x1.trans x2⟩
  simp [s97, ← hG1, o1, e2, h0]
end Go.Proofs.YtdohlgkmaeipjaaGreat.Lift

set_option linter.unusedVariables false
set_option linter.unusedSimpArgs false
set_option maxRecDepth 20000
namespace Go.Proofs.YtdohlgkmaeipjaaGreat.Lift
open Go Go.Proofs.YtdohlgkmaeipjaaGreat.Gh Go.Proofs
/-! ### Whole -/
theorem whole_no (orc : FuncId → Bool) {t : TW} (m : Value) (hs : ¬ t.sound) (G : GS) : ∃ G', (E orc).cl 26 [t.v, m] G = some (.int .i64 2, G') ∧ Ext G G' := by
  obtain ⟨G1, hG1⟩ : ∃ G1, G1 = G.push ⟨t.cells, 1, false, 1⟩ := ⟨_, rfl⟩
  have x1 : Ext G G1 := by rw [hG1]; exact (Ext.refl G).push _
  have o1 : G1.obj G.nx = some ⟨t.cells, 1, false, 1⟩ := by rw [hG1]; simp
  obtain ⟨G2, e2, x2⟩ := asound_ok orc t G1
  refine ⟨G2, f26 (exL_ok Q orc) _ _ G _ ?_, x1.trans x2⟩
  simp [s26, ← hG1, o1, e2, hs]
/-- six checks in a row: the first five pass, the last tells -/
structure Six (orc : FuncId → Bool) (t : TW) (fs : Nat → FuncId) : Prop where
  pass : ∀ i, i < 5 → ∀ G, ∃ G', (E orc).cl (fs i) [oV t] G = some (.int .i64 0, G') ∧ Ext G G'
  last : ∀ G, ∃ G', (E orc).cl (fs 5) [oV t] G = some (.int .i64 10, G') ∧ Ext G G'
theorem whole_lp (orc : FuncId → Bool) {t : TW} {fs : Nat → FuncId} (H : Six orc t fs) {B : GS} {sb : Nat} {C : List Value} (hb : sb < B.nx) (o : B.obj sb = some ⟨C, 1, false, 1⟩) (hC : ∀ i, i < 6 → C[i]? = some (.func (.func (fs i)) ⟨[oV t]⟩ ⟨[]⟩)) :
    ∀ (k i : Nat) (τ : Env) (G : GS), i + k = 5 → τ 27 = .slice (some ⟨sb, 0, none⟩) 6 6 → τ 28 = .int .i64 6 → τ 29 = .int .i64 i → Ext B G →
    Wp ((exL Q orc).lpx 26 0 τ G) fun r => r.1 = .ret ∧ r.2.1 4 = .int .i64 10 ∧ Ext B r.2.2 := by
  intro k
  induction k with
  | zero =>
    intro i τ G hi h1 h2 h3 x
    have hi' : i = 5 := by omega
    subst hi'
    have o1 := (x.obj _ hb).trans o
    have c1 := hC 5 (by omega)
    obtain ⟨G1, e1, x1⟩ := H.last G
    simp only [E] at e1
    refine Wp.lp (l26_0 (exL_ok Q orc)) ?_
    simp [b26_0, clip_t, h1, h2, h3, o1, c1, e1]
    exact x.trans x1
  | succ k ih =>
    intro i τ G hi h1 h2 h3 x
    have hlt : (i : Int) < 6 := by omega
    have hi0 : (0 : Int) ≤ i := by omega
    have hw : IntKind.wrap .i64 ((i : Int) + 1) = ((i + 1 : Nat) : Int) := wrap64 (by omega) (by omega)
    have o1 := (x.obj _ hb).trans o
    have c1 := hC i (by omega)
    obtain ⟨G1, e1, x1⟩ := H.pass i (by omega) G
    simp only [E] at e1
    refine Wp.lp (l26_0 (exL_ok Q orc)) ?_
    simp [-Int.natCast_add, b26_0, clip_t, h1, h2, h3, hlt, hi0, o1, c1, e1, hw]
    exact ih (i + 1) _ G1 (by omega) (by simp [clip_t]) (by simp [clip_t]) (by simp [clip_t]) (x.trans x1)
def sixF : Nat → FuncId
  | 0 => 92
  | 1 => 93
  | 2 => 94
  | 3 => 95
  | 4 => 96
  | _ => 97
abbrev sixC (t : TW) : List Value := [.func (.func 92) ⟨[oV t]⟩ ⟨[]⟩, .func (.func 93) ⟨[oV t]⟩ ⟨[]⟩, .func (.func 94) ⟨[oV t]⟩ ⟨[]⟩, .func (.func 95) ⟨[oV t]⟩ ⟨[]⟩, .func (.func 96) ⟨[oV t]⟩ ⟨[]⟩, .func (.func 97) ⟨[oV t]⟩ ⟨[]⟩]
theorem six_at (t : TW) (i : Nat) (h : i < 6) : (sixC t)[i]? = some (.func (.func (sixF i)) ⟨[oV t]⟩ ⟨[]⟩) := by
  rcases i with _ | _ | _ | _ | _ | _ | i
  · rfl
  · rfl
  · rfl
  · rfl
  · rfl
  · rfl
  · omega
theorem six_ok (orc : FuncId → Bool) (ht : orc 271 = false) {t : TW} (hs : t.sound) : Six orc t sixF := by
  refine ⟨fun i hi G => ?_, fun G => aall_nil orc ht hs G⟩
  rcases i with _ | _ | _ | _ | _ | i
  · exact linked_nil orc ht hs G
  · exact rises_nil orc ht hs G
  · exact stands_nil orc ht hs G
  · exact once_nil orc ht hs G
  · exact idle_nil orc G
  · omega
theorem whole_nil (orc : FuncId → Bool) (ht : orc 271 = false) {t : TW} (hs : t.sound) (G : GS) : ∃ G', (E orc).cl 26 [t.v, .pointer none] G = some (.int .i64 10, G') ∧ Ext G G' := by
  obtain ⟨G1, hG1⟩ : ∃ G1, G1 = G.push ⟨t.cells, 1, false, 1⟩ := ⟨_, rfl⟩
  have x1 : Ext G G1 := by rw [hG1]; exact (Ext.refl G).push _
  have n1 : G1.nx = G.nx + 1 := by rw [hG1]; rfl
  have o1 : G1.obj G.nx = some ⟨t.cells, 1, false, 1⟩ := by rw [hG1]; simp
  obtain ⟨G2, e2, x2⟩ := asound_ok orc t G1
  have o2 := (x2.obj _ (by omega)).trans o1
  obtain ⟨G3, e3, x3⟩ := of_nil orc t G2
  obtain ⟨G4, hG4⟩ : ∃ G4, G4 = (G3.push ⟨z174, 1, false, 1⟩).put G3.nx ⟨oL t, 1, false, 1⟩ := ⟨_, rfl⟩
  have x4 : Ext G3 G4 := by rw [hG4]; exact ((Ext.refl _).push _).put (Nat.le_refl _) _
  have n4 : G4.nx = G3.nx + 1 := by rw [hG4]; rfl
  have q4 : G4.obj G3.nx = some ⟨oL t, 1, false, 1⟩ := by rw [hG4]; simp
  obtain ⟨a, ha⟩ : ∃ a, z181 = [a] := ⟨_, rfl⟩
  have hzf : rep z181 6 = [a, a, a, a, a, a] := by rw [ha]; rfl
  have w : Wp (s26 true (exL Q orc) t.v (.pointer none) G) fun q => q.1 = .int .i64 10 ∧ Ext G q.2 := by
    simp [s26, ← hG1, o1, e2, o2, hs, e3, ← hG4, q4, hzf]
    have x5 : Ext G4 (G4.push ⟨sixC t, 1, false, 1⟩) := (Ext.refl _).push _
    refine Wp.bE ((whole_lp orc (six_ok orc ht hs) (B := G4.push ⟨sixC t, 1, false, 1⟩) (sb := G4.nx) (C := sixC t) (by simp) (by simp) (six_at t) 5 0 _ _ rfl (by simp [clip_t]) (by simp [clip_t]) (by simp [clip_t]) (Ext.refl _)).mono ?_)
    rintro ⟨e, τ, G6⟩ ⟨rfl, h4, x6⟩
    simp at h4
    simp [h4]
    exact (x1.trans x2).trans ((x3.trans x4).trans (x5.trans x6))
  obtain ⟨⟨v, G'⟩, e, rfl, h⟩ := w
  exact ⟨G', f26 (exL_ok Q orc) _ _ G _ e, h⟩
end Go.Proofs.YtdohlgkmaeipjaaGreat.Lift

set_option linter.unusedVariables false
set_option linter.unusedSimpArgs false
set_option maxRecDepth 20000
namespace Go.Proofs.YtdohlgkmaeipjaaGreat.Lift
open Go Go.Proofs.YtdohlgkmaeipjaaGreat.Gh Go.Proofs
/-! ### The law -/
section
variable {G B : GS} {A : List Int} {v0 : Value}
theorem amg_lp (orc : FuncId → Bool) (hA : SlR (rowsI .i64) G v0 A) (hlen : A.length < 2 ^ 47) (x : Int) : ∀ (k i : Nat) (τ : Env), i + k = A.length → τ 0 = v0 → τ 1 = .int .i64 x → τ 5 = .int .i64 (i : Int) →
    Wp ((exL Q orc).lpx 29 0 τ G) fun q => q.2.2 = G ∧ ((q.1 = .exit 0 ∧ x ∉ A.drop i) ∨ (q.1 = .ret ∧ x ∈ A.drop i ∧ q.2.1 4 = .bool true)) := by
  intro k
  induction k with
  | zero =>
    intro i τ hi t0 t1 t5
    have hi' : i = A.length := by omega
    refine Wp.lp (l29_0 (exL_ok Q orc)) ?_
    subst hi'
    obtain ⟨a, c, e0⟩ := hA.len
    simp [b29_0, clip_t, t0, t1, t5, e0]
  | succ k ih =>
    intro i τ hi t0 t1 t5
    have hlt : i < A.length := by omega
    have hw : IntKind.wrap .i64 ((i : Int) + 1) = ((i + 1 : Nat) : Int) := wrap64 (by omega) (by omega)
    have h1 : (i : Int) < A.length := by omega
    have h2 : (0 : Int) ≤ i := by omega
    obtain ⟨b, o, c, e0, _, q, _⟩ := hA.at hlt
    have q0 := q 0 (by decide)
    simp [rowsI] at q0
    rw [List.drop_eq_getElem_cons hlt]
    generalize A[i] = y at *
    refine Wp.lp (l29_0 (exL_ok Q orc)) ?_
    by_cases hy : y = x
    · subst hy
      simp [-Int.natCast_add, b29_0, clip_t, t0, t1, t5, e0, h1, h2, hlt, q0, hw]
    · have hy' : ¬ x = y := fun e => hy e.symm
      simp [-Int.natCast_add, b29_0, clip_t, t0, t1, t5, e0, h1, h2, hlt, q0, hw, hy]
      refine Wp.mono (ih (i + 1) _ (by omega) ?_ ?_ ?_) fun q hq => ?_
      · simp [clip_t, e0]
      · simp [clip_t]
      · simp [clip_t]
      · simpa [hy'] using hq
theorem amg_ok (orc : FuncId → Bool) (hA : SlR (rowsI .i64) G v0 A) (hlen : A.length < 2 ^ 47) (x : Int) : (E orc).cl 29 [v0, .int .i64 x] G = some (.bool (decide (x ∈ A)), G) := by
  have w : Wp ((E orc).cl 29 [v0, .int .i64 x] G) fun q => q.1 = .bool (decide (x ∈ A)) ∧ q.2 = G := by
    refine Wp.ref (f29 (exL_ok Q orc) _ _ G) ?_
    simp [s29]
    refine Wp.bE ((amg_lp orc hA hlen x A.length 0 _ (by omega) (by simp) (by simp) (by simp)).mono ?_)
    rintro ⟨e, τ, G'⟩ ⟨h1, (⟨h2, h3⟩ | ⟨h2, h3, h4⟩)⟩
    · simp only [List.drop_zero] at h1 h2 h3
      subst h1 h2
      simp [h3]
    · simp only [List.drop_zero] at h1 h2 h3 h4
      subst h1 h2
      simp [h3, h4]
  obtain ⟨⟨v, G'⟩, e, h1, h2⟩ := w
  simp only at h1 h2
  subst h1 h2
  exact e
end
theorem new34 (orc : FuncId → Bool) (G : GS) : ∃ m G' cs, (E orc).cl 9 [.int .i64 34] G = some (.tuple #[P0 m, .int .i64 0], G') ∧ Ext G G' ∧ m < G'.nx ∧ G'.obj m = some ⟨cs, 1, false, 1⟩ ∧ cs[7]? = some (.int .i64 0) := by
  refine ⟨G.nx + 1, _, _, f9 (exL_ok Q orc) _ G _ (by simp [s9]; rfl), ((Ext.refl G).push _).push _, by simp, by simp; rfl, rfl⟩
theorem count0 (orc : FuncId → Bool) {m : Nat} {G : GS} {cs : List Value} (o : G.obj m = some ⟨cs, 1, false, 1⟩) (h : cs[7]? = some (.int .i64 0)) : (E orc).cl 21 [P0 m] G = some (.int .i64 0, G) :=
  f21 (exL_ok Q orc) _ G _ (by simp [s21, o, h])
theorem held_no (orc : FuncId → Bool) {t : TW} (hs : ¬ t.sound) (k a o n : Int) (h : Bool) (by_ : Int) (m : Value) (G : GS) : ∃ G', (E orc).cl 23 [t.v, m, .agg ⟨acL k a o n h⟩, .int .u64 by_] G = some (.bool true, G') ∧ Ext G G' := by
  obtain ⟨G1, hG1⟩ : ∃ G1, G1 = (G.push ⟨t.cells, 1, false, 1⟩).push ⟨acL k a o n h, 1, false, 1⟩ := ⟨_, rfl⟩
  have x1 : Ext G G1 := by rw [hG1]; exact ((Ext.refl G).push _).push _
  have o1 : G1.obj G.nx = some ⟨t.cells, 1, false, 1⟩ := by rw [hG1]; simp
  have p1 : G1.obj (G.nx + 1) = some ⟨acL k a o n h, 1, false, 1⟩ := by rw [hG1]; simp
  obtain ⟨G2, e2, x2⟩ := whose_ok orc t a G1
  have hw : whose t a = (0, 0, false) := by unfold whose; rw [if_pos hs]
  rw [hw] at e2
  refine ⟨G2, f23 (exL_ok Q orc) _ _ _ _ G _ ?_, x1.trans x2⟩
  simp [s23, ← hG1, o1, p1, e2]
theorem sumsEq (n m : Int) : prun Q (Op.equalIn 10000 72 (sumI n) (sumI m)) = some ((0 : Int) == 0 && ((0 : Int) == 0 && ((0 : Int) == 0 && ((0 : Int) == 0 && (n == m && true))))) :=
  eqS (d := 9999) (L := [(3, 0), (3, 1), (3, 2), (3, 3), (3, 4)]) (by kernel_rfl) (by kernel_rfl) (eqL_cons (a := .int .i64 0) (b := .int .i64 0) (by kernel_rfl) (by kernel_rfl) (by kernel_rfl) (eqL_cons (a := .int .i64 0) (b := .int .i64 0) (by kernel_rfl) (by kernel_rfl) (by kernel_rfl) (eqL_cons (a := .int .i64 0) (b := .int .i64 0) (by kernel_rfl) (by kernel_rfl) (by kernel_rfl) (eqL_cons (a := .int .i64 0) (b := .int .i64 0) (by kernel_rfl) (by kernel_rfl) (by kernel_rfl) (eqL_cons (a := .int .i64 n) (b := .int .i64 m) (by kernel_rfl) (by kernel_rfl) (by kernel_rfl) rfl)))))
theorem sums_eql (x y : Operand) (n : Int) : gBinF Q .eql 72 x y (sumI n) (sumI n) = some (.bool true) := by
  rw [eql_aggF (op := .eql) (by kernel_rfl) (by kernel_rfl) (by kernel_rfl) (sumsEq _ _)]
  simp
theorem auditNone_no (orc : FuncId → Bool) (haw : orc 27 = true) {t : TW} (hs : ¬ t.sound) (k a o n : Int) (h : Bool) (by_ i : Int) (G : GS) :
    Wp ((E orc).cl 4 [t.v, .agg ⟨acL k a o n h⟩, .int .u64 by_, .int .i64 i] G) fun q => q.1 = .bool true := by
  have aw : ∀ G, (E orc).cl 27 [] G = some (.bool true, G) := fun G => cl_orc Q orc haw G
  obtain ⟨G1, hG1⟩ : ∃ G1, G1 = (G.push ⟨t.cells, 1, false, 1⟩).push ⟨acL k a o n h, 1, false, 1⟩ := ⟨_, rfl⟩
  have n1 : G1.nx = G.nx + 2 := by rw [hG1]; rfl
  have o1 : G1.obj G.nx = some ⟨t.cells, 1, false, 1⟩ := by rw [hG1]; simp
  have p1 : G1.obj (G.nx + 1) = some ⟨acL k a o n h, 1, false, 1⟩ := by rw [hG1]; simp
  obtain ⟨m, G2, cs, e2, x2, hm, om, hc⟩ := new34 orc G1
  obtain ⟨G3, e3, x3⟩ := rsound_ok orc t G2
  simp only [hs, decide_false] at e3
  obtain ⟨G4, e4, x4⟩ := held_no orc hs k a o n h by_ (P0 m) G3
  obtain ⟨G5, e5, x5⟩ := where_no orc t i (P0 m) (.inl hs) G4
  obtain ⟨G6, e6, x6⟩ := sums_no orc (P0 m) hs G5
  obtain ⟨G7, e7, x7⟩ := whole_no orc (P0 m) hs G6
  have o2 := (x2.obj _ (by omega)).trans o1
  have o3 := ((x2.trans x3).obj _ (by omega)).trans o1
  have p3 := ((x2.trans x3).obj _ (by omega)).trans p1
  have o4 := (((x2.trans x3).trans x4).obj _ (by omega)).trans o1
  have o5 := (((x2.trans x3).trans (x4.trans x5)).obj _ (by omega)).trans o1
  have o6 := (((x2.trans x3).trans ((x4.trans x5).trans x6)).obj _ (by omega)).trans o1
  have c7 := count0 orc (((x3.trans x4).trans ((x5.trans x6).trans x7)).obj _ hm |>.trans om) hc
  have hz : z72 = [.int .i64 0, .int .i64 0, .int .i64 0, .int .i64 0, .int .i64 0] := rfl
  refine Wp.ref (f4 (exL_ok Q orc) _ _ _ _ G) ?_
  simp [s4, sb4, hz, ← hG1, e2, o2, e3, o3, p3, e4, o4, e5, o5, e6, o6, e7, c7, aw, sums_eql]
theorem auditNone_is (orc : FuncId → Bool) (haw : orc 27 = true) (ht : orc 271 = false) (hr : orc 284 = false) {t : TW} (hs : t.sound) (k a o n : Int) (h : Bool) {by_ : Int} (hb : U by_) (i : Int) (G : GS) :
    Wp ((E orc).cl 4 [t.v, .agg ⟨acL k a o n h⟩, .int .u64 by_, .int .i64 i] G) fun q => q.1 = .bool true := by
  have aw : ∀ G, (E orc).cl 27 [] G = some (.bool true, G) := fun G => cl_orc Q orc haw G
  obtain ⟨G1, hG1⟩ : ∃ G1, G1 = (G.push ⟨t.cells, 1, false, 1⟩).push ⟨acL k a o n h, 1, false, 1⟩ := ⟨_, rfl⟩
  have n1 : G1.nx = G.nx + 2 := by rw [hG1]; rfl
  have o1 : G1.obj G.nx = some ⟨t.cells, 1, false, 1⟩ := by rw [hG1]; simp
  have p1 : G1.obj (G.nx + 1) = some ⟨acL k a o n h, 1, false, 1⟩ := by rw [hG1]; simp
  obtain ⟨m, G2, cs, e2, x2, hm, om, hc⟩ := new34 orc G1
  obtain ⟨G3, e3, x3⟩ := rsound_ok orc t G2
  simp only [hs, decide_true] at e3
  have o2 := (x2.obj _ (by omega)).trans o1
  have y3 := x2.trans x3
  have n3 := y3.nx
  have o3 := (y3.obj _ (by omega)).trans o1
  have p3 := (y3.obj _ (by omega)).trans p1
  have hz : z72 = [.int .i64 0, .int .i64 0, .int .i64 0, .int .i64 0, .int .i64 0] := rfl
  have fin : ∀ (want : Int) (τ : Env), τ 2 = .int .u64 by_ → τ 3 = .int .i64 i → τ 4 = P0 G.nx → τ 5 = P0 (G.nx + 1) → τ 11 = .int .i64 t.size → τ 12 = .int .i64 want →
      (∀ Ga, ∃ Gb, (E orc).cl 24 [t.v, .pointer none, .int .i64 i] Ga = some (.int .i64 want, Gb) ∧ Ext Ga Gb) → (want = -1 ∨ want = 0) →
      Wp (j4_0 true (exL Q orc) τ G3) fun q => q.1 = .bool true := by
    intro want τ t2 t3 t4 t5 t11 t12 hwh hwant
    obtain ⟨G4, e4, x4⟩ := whose_ok orc t a G3
    have n4 := x4.nx
    have o4 := (x4.obj _ (by omega)).trans o3
    have p4 := (x4.obj _ (by omega)).trans p3
    obtain ⟨G5, hG5⟩ : ∃ G5, G5 = (G4.push ⟨[.int .i64 0, .int .i64 0, .int .i64 0, .int .i64 0, .int .i64 0], 1, false, 1⟩).put G4.nx ⟨[.int .i64 0, .int .i64 0, .int .i64 0, .int .i64 0, .int .i64 t.size], 1, false, 1⟩ := ⟨_, rfl⟩
    have x5 : Ext G4 G5 := by rw [hG5]; exact ((Ext.refl _).push _).put (Nat.le_refl _) _
    have n5 : G5.nx = G4.nx + 1 := by rw [hG5]; rfl
    have r5 : G5.obj G4.nx = some ⟨[.int .i64 0, .int .i64 0, .int .i64 0, .int .i64 0, .int .i64 t.size], 1, false, 1⟩ := by rw [hG5]; simp
    have o5 := (x5.obj _ (by omega)).trans o4
    have p5 := (x5.obj _ (by omega)).trans p4
    obtain ⟨G6, e6, x6⟩ := held_ok orc hr t k a o n h hb (G5.room 33)
    have y6 : Ext G5 G6 := ((Ext.refl _).room 33).trans x6
    have n6 := x6.nx
    simp at n6
    have o6 := (y6.obj _ (by omega)).trans o5
    have r6 := (y6.obj _ (by omega)).trans r5
    obtain ⟨G7, e7, x7⟩ := hwh G6
    have n7 := x7.nx
    have o7 := (x7.obj _ (by omega)).trans o6
    have r7 := (x7.obj _ (by omega)).trans r6
    obtain ⟨G8, e8, x8⟩ := sums_nil orc ht hs G7
    have n8 := x8.nx
    have o8 := (x8.obj _ (by omega)).trans o7
    have r8 := (x8.obj _ (by omega)).trans r7
    obtain ⟨G9, e9, x9⟩ := whole_nil orc ht hs G8
    have n9 := x9.nx
    obtain ⟨GA, hGA⟩ : ∃ GA, GA = ((G9.at' (G5.nx + 25)).push ⟨[.int .i64 (-1), .int .i64 0], 1, false, 1⟩).back G9 := ⟨_, rfl⟩
    have qA : SlR (rowsI .i64) GA (.slice (some ⟨G5.nx + 25, 0, none⟩) 2 2) [-1, 0] := by
      refine SlR.block (op := false) (L := [-1, 0]) ?_ ?_
      · rw [hGA]; simp; exact ⟨rfl, rfl⟩
      · rw [hGA]; simp; omega
    have eA := amg_ok orc qA (by simp) want
    have hmem : want ∈ [(-1 : Int), 0] := by rcases hwant with rfl | rfl <;> simp
    have hlt := @whose_lt t a
    generalize whose t a = q at *
    obtain ⟨q0, q1, q2⟩ := q
    simp only at e4 e6 hlt
    cases q2 with
    | false =>
      simp only [Bool.not_false, Bool.true_or] at e6
      simp [j4_0, jb4_0, clip_t, t2, t3, t4, t5, t11, t12, hz, o3, p3, e4, ← hG5, o5, p5, e6, o6, e7, o7, r7, e8, r8, o8, sums_eql, e9, ← hGA, eA, hmem, aw]
    | true =>
      by_cases h0 : q0 < 0
      · simp only [Bool.not_true, Bool.false_or, h0, decide_true, Bool.true_or] at e6
        simp [j4_0, jb4_0, clip_t, t2, t3, t4, t5, t11, t12, hz, o3, p3, e4, ← hG5, o5, p5, e6, o6, e7, o7, r7, e8, r8, o8, sums_eql, e9, ← hGA, eA, hmem, aw, h0]
      · simp only [Bool.not_true, Bool.false_or, h0, decide_false] at e6
        have hw : IntKind.wrap .i64 (q0 + 1) = q0 + 1 := wrap64 (by omega) (by omega)
        have hw' : IntKind.wrap .u64 (q0 + 1) = q0 + 1 := by rw [wrap_u64]; omega
        simp [j4_0, jb4_0, clip_t, t2, t3, t4, t5, t11, t12, hz, o3, p3, e4, ← hG5, o5, p5, e6, o6, e7, o7, r7, e8, r8, o8, sums_eql, e9, ← hGA, eA, hmem, aw, h0, hw, hw']
  refine Wp.ref (f4 (exL_ok Q orc) _ _ _ _ G) ?_
  by_cases hi : i < 0
  · simp [s4, sb4, ← hG1, e2, o2, e3, o3, hi]
    exact fin (-1) _ (by simp [clip_t]) (by simp [clip_t]) (by simp [clip_t]) (by simp [clip_t]) (by simp [clip_t]) (by simp [clip_t]) (fun Ga => where_no orc t i _ (.inr (.inl hi)) Ga) (.inl rfl)
  by_cases hj : t.size ≤ i
  · simp [s4, sb4, ← hG1, e2, o2, e3, o3, hi, hj]
    exact fin (-1) _ (by simp [clip_t]) (by simp [clip_t]) (by simp [clip_t]) (by simp [clip_t]) (by simp [clip_t]) (by simp [clip_t]) (fun Ga => where_no orc t i _ (.inr (.inr hj)) Ga) (.inl rfl)
  simp [s4, sb4, ← hG1, e2, o2, e3, o3, hi, hj]
  exact fin 0 _ (by simp [clip_t]) (by simp [clip_t]) (by simp [clip_t]) (by simp [clip_t]) (by simp [clip_t]) (by simp [clip_t]) (fun Ga => where_nil orc ht hs ⟨by omega, by omega⟩ Ga) (.inr rfl)
theorem auditNone (orc : FuncId → Bool) (haw : orc 27 = true) (ht : orc 271 = false) (hr : orc 284 = false) (t : TW) (k a o n : Int) (h : Bool) {by_ : Int} (hb : U by_) (i : Int) (G : GS) :
    Wp ((E orc).cl 4 [t.v, .agg ⟨acL k a o n h⟩, .int .u64 by_, .int .i64 i] G) fun q => q.1 = .bool true := by
  by_cases hs : t.sound
  · exact auditNone_is orc haw ht hr hs k a o n h hb i G
  · exact auditNone_no orc haw hs k a o n h by_ i G
end Go.Proofs.YtdohlgkmaeipjaaGreat.Lift

set_option linter.unusedVariables false
set_option linter.unusedSimpArgs false
set_option maxRecDepth 20000
namespace Go.Proofs.YtdohlgkmaeipjaaGreat.Lift
open Go Go.Proofs.YtdohlgkmaeipjaaGreat.Gh Go.Proofs
theorem U_wf {x : Int} (h : (Lit.int .u64 x).wf = true) : U x := by
  simp [Lit.wf] at h
  exact ⟨Int.le_trans (show (0 : Int) ≤ IntKind.min .u64 by decide) h.1, Int.lt_of_le_of_lt h.2 (show IntKind.max .u64 < (18446744073709551616 : Int) by decide)⟩
theorem row_acc {r : List Value} (h : Row [some .i64, some .i64, some .u64, some .u64, none] r) : ∃ k a o n b, r = acL k a o n b := by
  match r with
  | [] => exact h.elim
  | [_] => exact h.2.elim
  | [_, _] => exact h.2.2.elim
  | [_, _, _] => exact h.2.2.2.elim
  | [_, _, _, _] => exact h.2.2.2.2.elim
  | _ :: _ :: _ :: _ :: _ :: _ :: _ => exact h.2.2.2.2.2.elim
  | [x0, x1, x2, x3, x4] =>
    obtain ⟨⟨a0, h0, _⟩, ⟨a1, h1, _⟩, ⟨a2, h2, _⟩, ⟨a3, h3, _⟩, ⟨a4, h4⟩, _⟩ := h
    exact ⟨a0, a1, a2, a3, a4, by rw [h0, h1, h2, h3, h4]⟩
theorem row_tw {r : List Value} (h : Row [some .i64, some .i64, some .i64, some .i64, some .i64, some .i64, some .i64, some .i64, some .i64, some .i64, some .i64, some .i64, some .i64] r) : ∃ x : TW, r = x.cells := by
  match r with
  | [x0, x1, x2, x3, x4, x5, x6, x7, x8, x9, x10, x11, x12] =>
    obtain ⟨⟨a0, h0, _⟩, ⟨a1, h1, _⟩, ⟨a2, h2, _⟩, ⟨a3, h3, _⟩, ⟨a4, h4, _⟩, ⟨a5, h5, _⟩, ⟨a6, h6, _⟩, ⟨a7, h7, _⟩, ⟨a8, h8, _⟩, ⟨a9, h9, _⟩, ⟨a10, h10, _⟩, ⟨a11, h11, _⟩, ⟨a12, h12, _⟩, _⟩ := h
    exact ⟨⟨a0, a1, a2, a3, a4, a5, a6, a7, a8, a9, a10, a11, a12⟩, by rw [h0, h1, h2, h3, h4, h5, h6, h7, h8, h9, h10, h11, h12]⟩
  | [] => exact h.elim
  | [_] => exact h.2.elim
  | [_, _] => exact h.2.2.elim
  | [_, _, _] => exact h.2.2.2.elim
  | [_, _, _, _] => exact h.2.2.2.2.elim
  | [_, _, _, _, _] => exact h.2.2.2.2.2.elim
  | [_, _, _, _, _, _] => exact h.2.2.2.2.2.2.elim
  | [_, _, _, _, _, _, _] => exact h.2.2.2.2.2.2.2.elim
  | [_, _, _, _, _, _, _, _] => exact h.2.2.2.2.2.2.2.2.elim
  | [_, _, _, _, _, _, _, _, _] => exact h.2.2.2.2.2.2.2.2.2.elim
  | [_, _, _, _, _, _, _, _, _, _] => exact h.2.2.2.2.2.2.2.2.2.2.elim
  | [_, _, _, _, _, _, _, _, _, _, _] => exact h.2.2.2.2.2.2.2.2.2.2.2.elim
  | [_, _, _, _, _, _, _, _, _, _, _, _] => exact h.2.2.2.2.2.2.2.2.2.2.2.2.elim
  | _ :: _ :: _ :: _ :: _ :: _ :: _ :: _ :: _ :: _ :: _ :: _ :: _ :: _ :: _ => exact h.2.2.2.2.2.2.2.2.2.2.2.2.2.elim
end Go.Proofs.YtdohlgkmaeipjaaGreat.Lift

