/- contracts of the program's functions -/
import Derived.Test.YtfmkihikmlcimaaKA
import Derived.Test.YtfmkihikmlcimaaGhPR
import Derived.Test.YtfmkihikmlcimaaGhPC
import Derived.Test.YtfmkihikmlcimaaGhLS
import Derived.Test.YtfmkihikmlcimaaGhEQ
set_option linter.unusedVariables false
set_option linter.unusedSimpArgs false
set_option maxRecDepth 20000
namespace Go.Proofs.Ytfmkihikmlcimaa.Lift
open Go Go.Proofs.Ytfmkihikmlcimaa.Gh Go.Proofs
/-! ### Words: what program and document read and write -/
theorem and_48 {w : Int} (h : U w) : andI .u64 w 281474976710655 = w % 281474976710656 := by
  rw [and_u64 h ⟨by decide, by decide⟩]
  have : w.toNat &&& (281474976710655 : Int).toNat = w.toNat % 281474976710656 := Nat.and_two_pow_sub_one_eq_mod w.toNat 48
  rw [this]
  have := h.1
  omega
theorem and_32 {w : Int} (h : U w) : andI .u64 w 4294967295 = w % 4294967296 := by
  rw [and_u64 h ⟨by decide, by decide⟩]
  have : w.toNat &&& (4294967295 : Int).toNat = w.toNat % 4294967296 := Nat.and_two_pow_sub_one_eq_mod w.toNat 32
  rw [this]
  have := h.1
  omega
theorem shr_0 {w : Int} (h : U w) : shrI .u64 w 0 = w := by
  show w.fdiv (2 ^ (min (0 : Int).toNat 64)) = _
  rw [show (min (0 : Int).toNat 64) = 0 from rfl, Int.fdiv_eq_ediv_of_nonneg _ (by decide)]; simp
theorem take_lo (orc : FuncId → Bool) {w : Int} (h : U w) (G : GS) : ∃ G', (E orc).cl 61 [.int .u64 w, .agg ⟨[.int .i64 0, .int .i64 16]⟩] G = some (.int .i64 (w % 65536), G') ∧ Ext G G' := by
  refine ⟨(G.push ⟨[.int .i64 0, .int .i64 16], 1, false, 1⟩).room 11, f61 (exL_ok Q orc) _ _ G _ ?_, ((Ext.refl G).push _).room 11⟩
  have e1 : shlI .u64 1 16 = 65536 := by decide
  have e2 : IntKind.wrap .u64 65535 = 65535 := by decide
  have e3 : IntKind.wrap .i64 (w % 65536) = w % 65536 := wrap64 (by omega) (by omega)
  simp [s61, shr_0 h, e1, e2, and_low h, e3]
theorem U_div {w : Int} (h : U w) (k : Int) (hk : 0 < k) : U (w / k) := by
  have h1 := h.1; have h2 := h.2
  refine ⟨Int.ediv_nonneg h1 (by omega), ?_⟩
  have := Int.ediv_le_self k h1
  omega
theorem take_hi (orc : FuncId → Bool) {w : Int} (h : U w) (G : GS) : ∃ G', (E orc).cl 61 [.int .u64 w, .agg ⟨[.int .i64 16, .int .i64 48]⟩] G = some (.int .i64 (w / 65536), G') ∧ Ext G G' := by
  refine ⟨(G.push ⟨[.int .i64 16, .int .i64 48], 1, false, 1⟩).room 11, f61 (exL_ok Q orc) _ _ G _ ?_, ((Ext.refl G).push _).room 11⟩
  have e1 : shlI .u64 1 48 = 281474976710656 := by decide
  have e2 : IntKind.wrap .u64 281474976710655 = 281474976710655 := by decide
  have h1 := h.1; have h2 := h.2
  have e4 : w / 65536 % 281474976710656 = w / 65536 := by omega
  have e3 : IntKind.wrap .i64 (w / 65536) = w / 65536 := wrap64 (by omega) (by omega)
  simp [s61, shr_16 h, e1, e2, and_48 (U_div h 65536 (by decide)), e4, e3]
theorem tops_ok (orc : FuncId → Bool) (ht : orc 60 = false) (G : GS) : ∃ G', (E orc).cl 60 [] G = some (.agg ⟨[.int .i64 0, .int .i64 16, .int .i64 16, .int .i64 48]⟩, G') ∧ Ext G G' := by
  refine ⟨(G.push ⟨[.int .i64 0, .int .i64 0, .int .i64 0, .int .i64 0], 1, false, 1⟩).put G.nx ⟨[.int .i64 0, .int .i64 16, .int .i64 16, .int .i64 48], 1, false, 1⟩, f60 (exL_ok Q orc) ht G _ ?_, ((Ext.refl G).push _).put (Nat.le_refl _) _⟩
  simp [s60, splice_put, splice_end]
theorem refs_ok (orc : FuncId → Bool) (ht : orc 95 = false) (G : GS) : ∃ G', (E orc).cl 95 [] G = some (.agg ⟨[.int .i64 0, .int .i64 16, .int .i64 16, .int .i64 32]⟩, G') ∧ Ext G G' := by
  refine ⟨(G.push ⟨[.int .i64 0, .int .i64 0, .int .i64 0, .int .i64 0], 1, false, 1⟩).put G.nx ⟨[.int .i64 0, .int .i64 16, .int .i64 16, .int .i64 32], 1, false, 1⟩, f95 (exL_ok Q orc) ht G _ ?_, ((Ext.refl G).push _).put (Nat.le_refl _) _⟩
  simp [s95, splice_put, splice_end]
theorem gettop_ok (orc : FuncId → Bool) (ht : orc 60 = false) {w : Int} (h : U w) (G : GS) : ∃ G', (E orc).cl 27 [.int .u64 w] G = some (.tuple #[.agg ⟨[.int .i64 (w % 65536 - 1), .int .i64 (w / 65536)]⟩, .int .i64 0], G') ∧ Ext G G' := by
  obtain ⟨G1, hG1⟩ : ∃ G1, G1 = G.push ⟨[.int .i64 0, .int .i64 0], 1, false, 1⟩ := ⟨_, rfl⟩
  have x1 : Ext G G1 := by rw [hG1]; exact (Ext.refl G).push _
  have n1 : G1.nx = G.nx + 1 := by rw [hG1]; rfl
  have o1 : G1.obj G.nx = some ⟨[.int .i64 0, .int .i64 0], 1, false, 1⟩ := by rw [hG1]; simp
  obtain ⟨G2, e2, x2⟩ := tops_ok orc ht G1
  have o2 := (x2.obj G.nx (by omega)).trans o1
  obtain ⟨G3, hG3⟩ : ∃ G3, G3 = ((G2.push ⟨[.int .i64 0, .int .i64 0, .int .i64 0, .int .i64 0], 1, false, 1⟩).put G2.nx ⟨[.int .i64 0, .int .i64 16, .int .i64 16, .int .i64 48], 1, false, 1⟩).room 12 := ⟨_, rfl⟩
  have n2 := x2.nx
  have x3 : Ext G2 G3 := by rw [hG3]; exact (((Ext.refl G2).push _).put (Nat.le_refl _) _).room 12
  have o3 := (x3.obj G.nx (by omega)).trans o2
  have p3 : G3.obj G2.nx = some ⟨[.int .i64 0, .int .i64 16, .int .i64 16, .int .i64 48], 1, false, 1⟩ := by rw [hG3]; simp
  have n3 : G2.nx < G3.nx := by rw [hG3]; simp; omega
  obtain ⟨G4, e4, x4⟩ := take_lo orc h G3
  have o4 := (x4.obj G.nx (by omega)).trans o3
  have p4 := (x4.obj G2.nx n3).trans p3
  obtain ⟨G5, e5, x5⟩ := take_hi orc h G4
  have o5 := (x5.obj G.nx (by have := x4.nx; omega)).trans o4
  have hm : IntKind.wrap .i64 (w % 65536 - 1) = w % 65536 - 1 := wrap64 (by omega) (by omega)
  have w : Wp (s27 true (exL Q orc) (.int .u64 w) G) fun r => r.1 = .tuple #[.agg ⟨[.int .i64 (w % 65536 - 1), .int .i64 (w / 65536)]⟩, .int .i64 0] ∧ Ext G r.2 := by
    simp [s27, ← hG1, e2, splice_put, splice_end, ← hG3, p3, e4, p4, e5, o5, hm]
    exact ((((x1.trans x2).trans x3).trans x4).trans x5).put (Nat.le_refl _) _
  obtain ⟨⟨v, G'⟩, e1, rfl, e3⟩ := w
  exact ⟨G', f27 (exL_ok Q orc) _ G _ e1, e3⟩
/-- two pairs that are where they have to be -/
theorem within2_ok (orc : FuncId → Bool) {b ez : Nat} {n1 l1 h1 n2 l2 h2 : Int} {G : GS} (ho : G.obj b = some ⟨[.int .i64 n1, .int .i64 l1, .int .i64 h1, .int .i64 n2, .int .i64 l2, .int .i64 h2], ez, false, 1⟩) (hb : b < G.nx) (q1 : l1 ≤ n1 ∧ n1 ≤ h1) (q2 : l2 ≤ n2 ∧ n2 ≤ h2) :
    ∃ G', (E orc).cl 124 [.slice (some ⟨b, 0, none⟩) 2 2] G = some (.bool true, G') ∧ Ext G G' := by
  have l2' : ∀ τ G, τ 5 = .slice (some ⟨b, 0, none⟩) 2 2 → τ 6 = .int .i64 2 → τ 7 = .int .i64 2 → Wp ((exL Q orc).lpx 124 0 τ G) fun q => q.1 = .exit 0 ∧ q.2.2 = G := by
    intro τ G t5 t6 t7
    refine Wp.lp (l124_0 (exL_ok Q orc)) ?_
    simp [b124_0, clip_t, t5, t6, t7]
  have a1 : ¬ n1 < l1 := by omega
  have a2 : ¬ h1 < n1 := by omega
  have a3 : ¬ n2 < l2 := by omega
  have a4 : ¬ h2 < n2 := by omega
  have w1 : IntKind.wrap .i64 1 = 1 := by decide
  have w2 : IntKind.wrap .i64 2 = 2 := by decide
  have l1' : ∀ τ G, G.obj b = some ⟨[.int .i64 n1, .int .i64 l1, .int .i64 h1, .int .i64 n2, .int .i64 l2, .int .i64 h2], ez, false, 1⟩ → b < G.nx → τ 5 = .slice (some ⟨b, 0, none⟩) 2 2 → τ 6 = .int .i64 2 → τ 7 = .int .i64 1 → Wp ((exL Q orc).lpx 124 0 τ G) fun q => q.1 = .exit 0 ∧ Ext G q.2.2 := by
    intro τ G ho hb t5 t6 t7
    refine Wp.lp (l124_0 (exL_ok Q orc)) ?_
    have hne : ¬ b = G.nx := by omega
    simp [b124_0, clip_t, t5, t6, t7, ho, a3, a4, splice_put, splice_end]
    refine Wp.mono (l2' _ _ (by simp [clip_t]) (by simp [clip_t]) (by simp [clip_t, w2])) ?_
    rintro q ⟨h1, h2⟩
    refine ⟨h1, ?_⟩
    rw [h2]
    exact ((Ext.refl G).push _).put (Nat.le_refl _) _
  have w : Wp (s124 true (exL Q orc) (.slice (some ⟨b, 0, none⟩) 2 2) G) fun r => r.1 = .bool true ∧ Ext G r.2 := by
    simp [s124]
    refine Wp.bE ((Wp.lp (l124_0 (exL_ok Q orc)) (Q := fun q => q.1 = .exit 0 ∧ Ext G q.2.2) ?_).mono ?_)
    · have hne : ¬ b = G.nx := by omega
      simp [b124_0, clip_t, ho, a1, a2, splice_put, splice_end]
      refine Wp.mono (l1' _ _ (by simp [hne, ho]) (by simp; omega) (by simp [clip_t]) (by simp [clip_t]) (by simp [clip_t, w1])) ?_
      rintro q ⟨h1, h2⟩
      exact ⟨h1, (((Ext.refl G).push _).put (Nat.le_refl _) _).trans h2⟩
    · rintro ⟨e, τ, G'⟩ ⟨rfl, h2⟩
      simp
      exact h2
  obtain ⟨⟨v, G'⟩, e1, rfl, e3⟩ := w
  exact ⟨G', f124 (exL_ok Q orc) _ G _ e1, e3⟩
theorem with_raw (orc : FuncId → Bool) (w f m n : Int) (G : GS) (hf : 0 ≤ f ∧ f < 64) : (E orc).cl 139 [.int .u64 w, .agg ⟨[.int .i64 f, .int .i64 m]⟩, .int .i64 n] G = some (.int .u64 (orI .u64 w (shlI .u64 (IntKind.wrap .u64 n) f)), G.push ⟨[.int .i64 f, .int .i64 m], 1, false, 1⟩) := by
  have h0 : ¬ f < 0 := by omega
  refine f139 (exL_ok Q orc) _ _ _ G _ ?_
  simp [s139, h0]
end Go.Proofs.Ytfmkihikmlcimaa.Lift

set_option linter.unusedVariables false
set_option linter.unusedSimpArgs false
set_option maxRecDepth 20000
namespace Go.Proofs.Ytfmkihikmlcimaa.Lift
open Go Go.Proofs.Ytfmkihikmlcimaa.Gh Go.Proofs
/-- two numbers are laid into the fields of a table of two -/
theorem lay2_ok (orc : FuncId → Bool) {b c bz cz : Nat} {m1 m2 n1 n2 : Int} {G : GS} (ho : G.obj b = some ⟨[.int .i64 0, .int .i64 m1, .int .i64 16, .int .i64 m2], bz, false, 1⟩) (hc : G.obj c = some ⟨[.int .i64 n1, .int .i64 n2], cz, false, 1⟩) (hb : b < G.nx) (hcn : c < G.nx) :
    ∃ G', (E orc).cl 126 [.slice (some ⟨b, 0, none⟩) 2 2, .slice (some ⟨c, 0, none⟩) 2 2] G = some (.int .u64 (orI .u64 (orI .u64 0 (shlI .u64 (IntKind.wrap .u64 n1) 0)) (shlI .u64 (IntKind.wrap .u64 n2) 16)), G') ∧ Ext G G' := by
  have w1 : IntKind.wrap .i64 1 = 1 := by decide
  have w2 : IntKind.wrap .i64 2 = 2 := by decide
  have r0 := fun G => with_raw orc 0 0 m1 n1 G (by decide)
  have r1 := fun G => with_raw orc (orI .u64 0 (shlI .u64 (IntKind.wrap .u64 n1) 0)) 16 m2 n2 G (by decide)
  generalize hu : orI .u64 0 (shlI .u64 (IntKind.wrap .u64 n1) 0) = u at *
  generalize hv : orI .u64 u (shlI .u64 (IntKind.wrap .u64 n2) 16) = v at *
  have l2' : ∀ τ G, τ 1 = .slice (some ⟨c, 0, none⟩) 2 2 → τ 8 = .slice (some ⟨b, 0, none⟩) 2 2 → τ 9 = .int .i64 2 → τ 10 = .int .i64 2 → τ 5 = .int .u64 v → Wp ((exL Q orc).lpx 126 0 τ G) fun q => q.1 = .exit 0 ∧ q.2.1 5 = .int .u64 v ∧ q.2.2 = G := by
    intro τ G t1 t8 t9 t10 t5
    refine Wp.lp (l126_0 (exL_ok Q orc)) ?_
    simp [b126_0, clip_t, t1, t8, t9, t10, t5]
  have l1' : ∀ τ G, G.obj b = some ⟨[.int .i64 0, .int .i64 m1, .int .i64 16, .int .i64 m2], bz, false, 1⟩ → G.obj c = some ⟨[.int .i64 n1, .int .i64 n2], cz, false, 1⟩ → b < G.nx → c < G.nx → τ 1 = .slice (some ⟨c, 0, none⟩) 2 2 → τ 8 = .slice (some ⟨b, 0, none⟩) 2 2 → τ 9 = .int .i64 2 → τ 10 = .int .i64 1 → τ 5 = .int .u64 u → Wp ((exL Q orc).lpx 126 0 τ G) fun q => q.1 = .exit 0 ∧ q.2.1 5 = .int .u64 v ∧ Ext G q.2.2 := by
    intro τ G ho hc hb hcn t1 t8 t9 t10 t5
    have hne : ¬ c = G.nx := by omega
    refine Wp.lp (l126_0 (exL_ok Q orc)) ?_
    simp [b126_0, clip_t, t1, t8, t9, t10, t5, ho, hc, hne, splice_put, splice_end, r1]
    refine Wp.mono (l2' _ _ (by simp [clip_t]) (by simp [clip_t]) (by simp [clip_t]) (by simp [clip_t, w2]) (by simp [clip_t])) ?_
    rintro q ⟨h1, h2, h3⟩
    refine ⟨h1, h2, ?_⟩
    rw [h3]
    exact ((((Ext.refl G).push _).put (Nat.le_refl _) _).room _).push _
  have w : Wp (s126 true (exL Q orc) (.slice (some ⟨b, 0, none⟩) 2 2) (.slice (some ⟨c, 0, none⟩) 2 2) G) fun r => r.1 = .int .u64 v ∧ Ext G r.2 := by
    simp [s126]
    have hne : ¬ c = G.nx := by omega
    have hne' : ¬ b = G.nx := by omega
    have hne1 : ¬ c = G.nx + 1 := by omega
    have hne1' : ¬ b = G.nx + 1 := by omega
    refine Wp.bE ((Wp.lp (l126_0 (exL_ok Q orc)) (Q := fun q => q.1 = .exit 0 ∧ q.2.1 5 = .int .u64 v ∧ Ext G q.2.2) ?_).mono ?_)
    · simp [b126_0, clip_t, ho, hc, hne, splice_put, splice_end, r0]
      have x : Ext G ((((G.push ⟨z133, 1, false, 1⟩).put G.nx ⟨[.int .i64 0, .int .i64 m1], 1, false, 1⟩).room 8).push ⟨[.int .i64 0, .int .i64 m1], 1, false, 1⟩) := ((((Ext.refl G).push _).put (Nat.le_refl _) _).room _).push _
      refine Wp.mono (l1' _ _ ((x.obj b hb).trans ho) ((x.obj c hcn).trans hc) (Nat.lt_of_lt_of_le hb x.nx) (Nat.lt_of_lt_of_le hcn x.nx) (by simp [clip_t]) (by simp [clip_t]) (by simp [clip_t]) (by simp [clip_t, w1]) (by simp [clip_t])) ?_
      rintro q ⟨h1, h2, h3⟩
      exact ⟨h1, h2, x.trans h3⟩
    · rintro ⟨e, τ, G'⟩ ⟨rfl, h2, h3⟩
      simp only at h2 h3
      simp [h2]
      exact h3
  obtain ⟨⟨v, G'⟩, e1, rfl, e3⟩ := w
  exact ⟨G', f126 (exL_ok Q orc) _ _ G _ e1, e3⟩
/-- a word of an index and a number behind it -/
def wordT (i tag : Int) : Int := i + 1 + tag * 65536
theorem lay_val {i t : Int} (h0 : -1 ≤ i ∧ i ≤ 65534) (h1 : 0 ≤ t ∧ t < 281474976710656) : orI .u64 (orI .u64 0 (shlI .u64 (IntKind.wrap .u64 (i + 1)) 0)) (shlI .u64 (IntKind.wrap .u64 t) 16) = wordT i t := by
  have a : IntKind.wrap .u64 (i + 1) = i + 1 := by rw [wrap_u64]; omega
  have b : IntKind.wrap .u64 t = t := by rw [wrap_u64]; omega
  have c : shlI .u64 (i + 1) 0 = i + 1 := by
    show IntKind.wrap .u64 ((i + 1) * 2 ^ (min (0 : Int).toNat 64)) = _
    rw [show (min (0 : Int).toNat 64) = 0 from rfl, wrap_u64]; omega
  have d : shlI .u64 t 16 = t * 65536 := by
    show IntKind.wrap .u64 (t * 2 ^ (min (16 : Int).toNat 64)) = _
    rw [show (min (16 : Int).toNat 64) = 16 from rfl, wrap_u64, show (2 : Int) ^ 16 = 65536 from rfl]; omega
  have e : orI .u64 0 (i + 1) = i + 1 := by
    rw [or_u64 ⟨by decide, by decide⟩ ⟨by omega, by omega⟩]
    simp; omega
  rw [a, b, c, d, e]
  have hu1 : U (i + 1) := ⟨by omega, by omega⟩
  have hu2 : U (t * 65536) := ⟨by omega, by omega⟩
  have k := or_add 16 t.toNat hu2 hu1 (by omega) (by omega)
  rw [or_u64 hu1 hu2, Nat.or_comm, ← or_u64 hu2 hu1, k]
  unfold wordT; omega
theorem puttop_ok (orc : FuncId → Bool) (ht : orc 60 = false) {i t : Int} (h0 : -1 ≤ i ∧ i ≤ 65534) (h1 : 0 ≤ t ∧ t < 281474976710656) (G : GS) : ∃ G', (E orc).cl 123 [.agg ⟨[.int .i64 i, .int .i64 t]⟩] G = some (.tuple #[.int .u64 (wordT i t), .int .i64 0], G') ∧ Ext G G' := by
  have x1 : Ext G ((G.push ⟨[.int .i64 i, .int .i64 t], 1, false, 1⟩).push ⟨[.int .i64 i, .int .i64 (-1), .int .i64 65534, .int .i64 t, .int .i64 0, .int .i64 281474976710655], 3, false, 1⟩) := ((Ext.refl G).push _).push _
  have o1 : ((G.push ⟨[.int .i64 i, .int .i64 t], 1, false, 1⟩).push ⟨[.int .i64 i, .int .i64 (-1), .int .i64 65534, .int .i64 t, .int .i64 0, .int .i64 281474976710655], 3, false, 1⟩).obj G.nx = some ⟨[.int .i64 i, .int .i64 t], 1, false, 1⟩ := by simp
  have p1 : ((G.push ⟨[.int .i64 i, .int .i64 t], 1, false, 1⟩).push ⟨[.int .i64 i, .int .i64 (-1), .int .i64 65534, .int .i64 t, .int .i64 0, .int .i64 281474976710655], 3, false, 1⟩).obj (G.nx + 1) = some ⟨[.int .i64 i, .int .i64 (-1), .int .i64 65534, .int .i64 t, .int .i64 0, .int .i64 281474976710655], 3, false, 1⟩ := by simp
  have n1 : ((G.push ⟨[.int .i64 i, .int .i64 t], 1, false, 1⟩).push ⟨[.int .i64 i, .int .i64 (-1), .int .i64 65534, .int .i64 t, .int .i64 0, .int .i64 281474976710655], 3, false, 1⟩).nx = G.nx + 2 := rfl
  have w : Wp (s123 true (exL Q orc) (.agg ⟨[.int .i64 i, .int .i64 t]⟩) G) fun r => r.1 = .tuple #[.int .u64 (wordT i t), .int .i64 0] ∧ Ext G r.2 := by
    simp [s123]
    generalize hG1 : (GS.push (GS.push G _) _) = G1 at *
    obtain ⟨G2, e2, x2⟩ := within2_ok orc p1 (by omega) ⟨h0.1, h0.2⟩ ⟨h1.1, by omega⟩
    have n2 := x2.nx
    have o2 := (x2.obj G.nx (by omega)).trans o1
    obtain ⟨G3, e3, x3⟩ := tops_ok orc ht G2
    have n3 := x3.nx
    have o3 := (x3.obj G.nx (by omega)).trans o2
    have hne : ¬ G.nx = G3.nx := by omega
    have hi : IntKind.wrap .i64 (i + 1) = i + 1 := wrap64 (by omega) (by omega)
    simp [e2, e3, hne, o3, splice_put, splice_end, slA, bound, hi]
    generalize hG5 : GS.back _ _ = G5
    have x5 : Ext G3 G5 := by rw [← hG5]; exact Ext.drawn ((((Ext.refl G3).push _).put (Nat.le_refl _) _).room 10) (by omega) (by simp; omega) _
    have p5 : G5.obj G3.nx = some ⟨[.int .i64 0, .int .i64 16, .int .i64 16, .int .i64 48], 1, false, 1⟩ := by rw [← hG5]; simp; omega
    have c5 : G5.obj (G3.nx + 1 + 6) = some ⟨[.int .i64 (i + 1), .int .i64 t], 1, false, 1⟩ := by rw [← hG5]; simp
    have n5 : G5.nx = G3.nx + 1 + 10 := by rw [← hG5]; simp
    obtain ⟨G6, e6, x6⟩ := lay2_ok orc p5 c5 (by omega) (by omega)
    rw [lay_val h0 h1] at e6
    simp [e6]
    exact (((x1.trans x2).trans x3).trans x5).trans x6
  obtain ⟨⟨v, G'⟩, e1, rfl, e3⟩ := w
  exact ⟨G', f123 (exL_ok Q orc) _ G _ e1, e3⟩
theorem andNot_63 {w : Int} (h0 : 0 ≤ w) (h1 : w < 9223372036854775808) : andNotI .u64 w 9223372036854775808 = w := by
  obtain ⟨n, rfl⟩ := Int.eq_ofNat_of_zero_le h0
  show IntKind.wrap .u64 (((BitVec.ofInt 64 (n : Int) &&& ~~~ BitVec.ofInt 64 9223372036854775808).toNat : Nat) : Int) = _
  have e1 : BitVec.ofInt 64 (n : Int) = BitVec.ofNat 64 n := BitVec.ofInt_natCast ..
  have e2 : BitVec.ofInt 64 9223372036854775808 = BitVec.ofNat 64 9223372036854775808 := by decide
  have e3 : BitVec.ofNat 64 n &&& ~~~ BitVec.ofNat 64 9223372036854775808 = BitVec.ofNat 64 n := by
    have : (BitVec.ofNat 64 n).msb = false := by
      rw [BitVec.msb_eq_false_iff_two_mul_lt]; simp; omega
    have e4 : ~~~ BitVec.ofNat 64 9223372036854775808 = BitVec.ofNat 64 (2 ^ 63 - 1) := by decide
    rw [e4]
    apply BitVec.eq_of_toNat_eq
    simp only [BitVec.toNat_and, BitVec.toNat_ofNat]
    rw [Nat.mod_eq_of_lt (show n < 2 ^ 64 by omega), Nat.mod_eq_of_lt (show 2 ^ 63 - 1 < 2 ^ 64 by decide), Nat.and_two_pow_sub_one_eq_mod, Nat.mod_eq_of_lt (by omega)]
  rw [e1, e2, e3, wrap_u64]
  simp; omega
theorem marks_f (orc : FuncId → Bool) {w : Int} (h0 : 0 ≤ w) (h1 : w < 9223372036854775808) (G : GS) : (E orc).cl 125 [.int .u64 w, .bool false] G = some (.int .u64 w, G) := by
  refine f125 (exL_ok Q orc) _ _ G _ ?_
  simp [s125, andNot_63 h0 h1]
theorem putref_ok (orc : FuncId → Bool) (ht : orc 95 = false) {i g : Int} (h0 : 0 ≤ i ∧ i ≤ 65534) (h1 : 0 ≤ g ∧ g < 4294967296) (G : GS) : ∃ G', (E orc).cl 97 [.agg ⟨[.int .i64 i, .int .i64 g, .bool false]⟩] G = some (.tuple #[.int .u64 (wordT i g), .int .i64 0], G') ∧ Ext G G' := by
  have x1 : Ext G ((G.push ⟨[.int .i64 i, .int .i64 g, .bool false], 1, false, 1⟩).push ⟨[.int .i64 i, .int .i64 (-1), .int .i64 65534, .int .i64 g, .int .i64 0, .int .i64 4294967295], 3, false, 1⟩) := ((Ext.refl G).push _).push _
  have o1 : ((G.push ⟨[.int .i64 i, .int .i64 g, .bool false], 1, false, 1⟩).push ⟨[.int .i64 i, .int .i64 (-1), .int .i64 65534, .int .i64 g, .int .i64 0, .int .i64 4294967295], 3, false, 1⟩).obj G.nx = some ⟨[.int .i64 i, .int .i64 g, .bool false], 1, false, 1⟩ := by simp
  have p1 : ((G.push ⟨[.int .i64 i, .int .i64 g, .bool false], 1, false, 1⟩).push ⟨[.int .i64 i, .int .i64 (-1), .int .i64 65534, .int .i64 g, .int .i64 0, .int .i64 4294967295], 3, false, 1⟩).obj (G.nx + 1) = some ⟨[.int .i64 i, .int .i64 (-1), .int .i64 65534, .int .i64 g, .int .i64 0, .int .i64 4294967295], 3, false, 1⟩ := by simp
  have n1 : ((G.push ⟨[.int .i64 i, .int .i64 g, .bool false], 1, false, 1⟩).push ⟨[.int .i64 i, .int .i64 (-1), .int .i64 65534, .int .i64 g, .int .i64 0, .int .i64 4294967295], 3, false, 1⟩).nx = G.nx + 2 := rfl
  have hi1 : ¬ i = -1 := by omega
  have hw : wordT i g = i + 1 + g * 65536 := rfl
  have w : Wp (s97 true (exL Q orc) (.agg ⟨[.int .i64 i, .int .i64 g, .bool false]⟩) G) fun r => r.1 = .tuple #[.int .u64 (wordT i g), .int .i64 0] ∧ Ext G r.2 := by
    simp [s97]
    generalize hG1 : (GS.push (GS.push G _) _) = G1 at *
    obtain ⟨G2, e2, x2⟩ := within2_ok orc p1 (by omega) ⟨by omega, h0.2⟩ ⟨h1.1, by omega⟩
    have n2 := x2.nx
    have o2 := (x2.obj G.nx (by omega)).trans o1
    obtain ⟨G3, e3, x3⟩ := refs_ok orc ht G2
    have n3 := x3.nx
    have o3 := (x3.obj G.nx (by omega)).trans o2
    have hne : ¬ G.nx = G3.nx := by omega
    have hi : IntKind.wrap .i64 (i + 1) = i + 1 := wrap64 (by omega) (by omega)
    simp [e2, o2, hi1, e3, hne, o3, splice_put, splice_end, slA, bound, hi]
    generalize hG5 : GS.back _ _ = G5
    have x5 : Ext G3 G5 := by rw [← hG5]; exact Ext.drawn ((((Ext.refl G3).push _).put (Nat.le_refl _) _).room 13) (by omega) (by simp; omega) _
    have p5 : G5.obj G3.nx = some ⟨[.int .i64 0, .int .i64 16, .int .i64 16, .int .i64 32], 1, false, 1⟩ := by rw [← hG5]; simp; omega
    have c5 : G5.obj (G3.nx + 1 + 6) = some ⟨[.int .i64 (i + 1), .int .i64 g], 1, false, 1⟩ := by rw [← hG5]; simp
    have n5 : G5.nx = G3.nx + 1 + 13 := by rw [← hG5]; simp
    have o5 := (x5.obj G.nx (by omega)).trans o3
    obtain ⟨G6, e6, x6⟩ := lay2_ok orc p5 c5 (by omega) (by omega)
    rw [lay_val (by omega) (by omega)] at e6
    have o6 := (x6.obj G.nx (by omega)).trans o5
    have e7 := marks_f orc (w := wordT i g) (by omega) (by omega) G6
    have hne6 : ¬ G.nx = G3.nx + 1 + 6 := by omega
    simp [e6, o5, o6, e7, hne6, o3, hne]
    exact (((x1.trans x2).trans x3).trans x5).trans x6
  obtain ⟨⟨v, G'⟩, e1, rfl, e3⟩ := w
  exact ⟨G', f97 (exL_ok Q orc) _ G _ e1, e3⟩
/-! ### A stack's words -/
/-- a word read as an index -/
def idxI (size w : Int) : Int := if size ≤ w % 65536 - 1 then -1 else w % 65536 - 1
/-- the word that is put in the top's place -/
def topI (j w : Int) : Int := wordT j ((w / 65536 + 1) % 281474976710656)
theorem idxI_ge {size w : Int} : -1 ≤ idxI size w := by unfold idxI; split <;> omega
theorem idxI_lt {size w : Int} (h : 0 ≤ size) : idxI size w < size := by unfold idxI; split <;> omega
theorem link_ok (orc : FuncId → Bool) (ht : orc 60 = false) {i : Int} (h0 : -1 ≤ i ∧ i ≤ 65534) (G : GS) : ∃ G', (E orc).cl 93 [.int .i64 i] G = some (.int .u64 (i + 1), G') ∧ Ext G G' := by
  obtain ⟨G', e, x⟩ := puttop_ok orc ht (t := 0) h0 (by decide) G
  refine ⟨G', f93 (exL_ok Q orc) _ G _ ?_, x⟩
  simp [s93, e, wordT]
theorem read_ok (orc : FuncId → Bool) (ht : orc 60 = false) {a b size w : Int} (h : U w) (G : GS) : ∃ G', (E orc).cl 132 [.agg ⟨[.int .i64 a, .int .i64 b, .int .i64 size]⟩, .int .u64 w] G = some (.int .i64 (idxI size w), G') ∧ Ext G G' := by
  have x1 : Ext G (G.push ⟨[.int .i64 a, .int .i64 b, .int .i64 size], 1, false, 1⟩) := (Ext.refl G).push _
  have o1 : (G.push ⟨[.int .i64 a, .int .i64 b, .int .i64 size], 1, false, 1⟩).obj G.nx = some ⟨[.int .i64 a, .int .i64 b, .int .i64 size], 1, false, 1⟩ := by simp
  have n1 : (G.push ⟨[.int .i64 a, .int .i64 b, .int .i64 size], 1, false, 1⟩).nx = G.nx + 1 := rfl
  have w : Wp (s132 true (exL Q orc) (.agg ⟨[.int .i64 a, .int .i64 b, .int .i64 size]⟩) (.int .u64 w) G) fun r => r.1 = .int .i64 (idxI size w) ∧ Ext G r.2 := by
    simp [s132]
    generalize hG1 : GS.push G _ = G1 at *
    obtain ⟨G2, e2, x2⟩ := gettop_ok orc ht h G1
    have n2 := x2.nx
    have o2 := (x2.obj G.nx (by omega)).trans o1
    have hne : ¬ G.nx = G2.nx := by omega
    have y : Ext G (((G2.push ⟨z85, 1, false, 1⟩).put G2.nx ⟨[.int .i64 (w % 65536 - 1), .int .i64 (w / 65536)], 1, false, 1⟩)) := ((x1.trans x2).push _).put (by omega) _
    unfold idxI
    by_cases hc : size ≤ w % 65536 - 1
    · simp [e2, o2, hne, hc, splice_put, splice_end]
      exact y
    · simp [e2, o2, hne, hc, splice_put, splice_end]
      exact y
  obtain ⟨⟨v, G'⟩, e1, rfl, e3⟩ := w
  exact ⟨G', f132 (exL_ok Q orc) _ _ G _ e1, e3⟩
theorem gen_ok (orc : FuncId → Bool) {w : Int} (h : U w) (G : GS) : (E orc).cl 84 [.int .u64 w] G = some (.int .i64 (w % 4294967296), G) := by
  refine f84 (exL_ok Q orc) _ G _ ?_
  have e : IntKind.wrap .i64 (w % 4294967296) = w % 4294967296 := wrap64 (by omega) (by omega)
  simp [s84, and_32 h, e]
theorem U_topI {j w : Int} (hj : -1 ≤ j ∧ j ≤ 65534) : U (topI j w) := by unfold topI wordT U; omega
end Go.Proofs.Ytfmkihikmlcimaa.Lift

set_option linter.unusedVariables false
set_option linter.unusedSimpArgs false
set_option maxRecDepth 20000
namespace Go.Proofs.Ytfmkihikmlcimaa.Lift
open Go Go.Proofs.Ytfmkihikmlcimaa.Gh Go.Proofs
/-! ### A stack's operations -/
structure Sk where
  top : Int
  links : Int
  size : Int
def Sk.ok (R : Sk) : Prop := 1 ≤ R.size ∧ R.size ≤ 4096 ∧ 0 ≤ R.top ∧ R.top < 4096 ∧ 0 ≤ R.links ∧ R.links + R.size ≤ 4096
abbrev hL (R : Sk) (w i j : Int) (made done : Bool) (err : Int) (next : Value) : List Value := [.int .i64 R.top, .int .i64 R.links, .int .i64 R.size, .int .u64 w, .int .i64 i, .int .i64 j, .bool made, .bool done, .int .i64 err, next]
section
variable {m r b : Nat} {own own1 : Nat → Nat} {G G1 : GS} {s s' : MS} {R : Sk} {w i j err : Int} {md dn : Bool} {nx : Value}
theorem hload_ok (orc : FuncId → Bool) (ht : orc 60 = false) (h : PM own G m s) (hs : s.ok) (hb : b < G.nx) (tb : own b ≠ 10) (ho : G.obj b = some ⟨hL R w i j md dn err nx, 1, false, 1⟩) :
    ∃ own1 G1, (E orc).cl 113 [P0 b, P0 m] G = some (.int .i64 (idxI R.size (s.load R.top).new), G1) ∧ PW (fun x => x = b) own G own1 G1 m (s.load R.top) ∧ G1.obj b = some ⟨hL R (s.load R.top).new i j md dn err nx, 1, false, 1⟩ := by
  obtain ⟨own1, G1, e1, w1⟩ := h.load orc R.top
  have hw := (hs.load R.top).2
  generalize s.load R.top = s' at *
  have o1 := (w1.keep hb tb id).trans ho
  have w1' : PW (fun x => x = b) own G own1 G1 m s' := w1.mono fun _ _ h => h.elim
  obtain ⟨G2, hG2⟩ : ∃ G2, G2 = (G1.put b ⟨hL R s'.new i j md dn err nx, 1, false, 1⟩).room 10 := ⟨_, rfl⟩
  have w2 := w1'.putB rfl hb tb ⟨hL R s'.new i j md dn err nx, 1, false, 1⟩
  have w2' := w2.ext ((Ext.refl _).room 10)
  rw [← hG2] at w2'
  have o2 : G2.obj b = some ⟨hL R s'.new i j md dn err nx, 1, false, 1⟩ := by rw [hG2]; simp
  obtain ⟨G3, e3, x3⟩ := read_ok orc ht (a := R.top) (b := R.links) (size := R.size) hw G2
  have n2 : b < G2.nx := Nat.lt_of_lt_of_le hb w2'.nx
  refine ⟨_, G3, f113 (exL_ok Q orc) _ _ G _ ?_, w2'.ext x3, (x3.obj b n2).trans o2⟩
  simp [s113, ho, e1, o1, ← hG2, o2, e3]
theorem hswap_ok (orc : FuncId → Bool) (ht : orc 60 = false) (h : PM own G m s) (hw : U w) (hb : b < G.nx) (tb : own b ≠ 10) (ho : G.obj b = some ⟨hL R w i j md dn err nx, 1, false, 1⟩) {k : Int} (hk : -1 ≤ k ∧ k ≤ 65534) :
    ∃ own1 G1, (E orc).cl 145 [P0 b, P0 m, .int .i64 k] G = some (.bool (s.cas R.top w (topI k w)).held, G1) ∧ PW no own G own1 G1 m (s.cas R.top w (topI k w)) ∧ G1.obj b = some ⟨hL R w i j md dn err nx, 1, false, 1⟩ := by
  obtain ⟨G1, e1, x1⟩ := gettop_ok orc ht hw G
  obtain ⟨G2, hG2⟩ : ∃ G2, G2 = (G1.push ⟨z85, 1, false, 1⟩).put G1.nx ⟨[.int .i64 (w % 65536 - 1), .int .i64 (w / 65536)], 1, false, 1⟩ := ⟨_, rfl⟩
  have x2 : Ext G1 G2 := by rw [hG2]; exact ((Ext.refl G1).push _).put (Nat.le_refl _) _
  have p2 : G2.obj G1.nx = some ⟨[.int .i64 (w % 65536 - 1), .int .i64 (w / 65536)], 1, false, 1⟩ := by rw [hG2]; simp
  have h1 := hw.1; have h2 := hw.2
  have a1 : IntKind.wrap .i64 (w / 65536 + 1) = w / 65536 + 1 := wrap64 (by omega) (by omega)
  have a2 : andI .i64 (w / 65536 + 1) 281474976710655 = (w / 65536 + 1) % 281474976710656 := by
    have hn : 0 ≤ w / 65536 + 1 ∧ w / 65536 + 1 < 18446744073709551616 := by omega
    generalize w / 65536 + 1 = q at *
    obtain ⟨n, rfl⟩ := Int.eq_ofNat_of_zero_le hn.1
    have : n &&& 281474976710655 = n % 281474976710656 := Nat.and_two_pow_sub_one_eq_mod n 48
    show IntKind.wrap .i64 (((BitVec.ofInt 64 (n : Int) &&& BitVec.ofInt 64 281474976710655).toNat : Nat) : Int) = _
    rw [BitVec.toNat_and, ofInt_u64 hn, ofInt_u64 ⟨by decide, by decide⟩]
    rw [show (Int.toNat (n : Int)) = n from rfl, show (281474976710655 : Int).toNat = 281474976710655 from rfl, this, wrap64 (by omega) (by omega)]
    omega
  obtain ⟨G3, e3, x3⟩ := puttop_ok orc ht hk (t := (w / 65536 + 1) % 281474976710656) (by omega) G2
  obtain ⟨G4, hG4⟩ : ∃ G4, G4 = G3.room 13 := ⟨_, rfl⟩
  have x4 : Ext G3 G4 := by rw [hG4]; exact (Ext.refl _).room 13
  have y4 := ((x1.trans x2).trans x3).trans x4
  have o4 := (y4.obj b hb).trans ho
  have o4' : G3.obj b = some ⟨hL R w i j md dn err nx, 1, false, 1⟩ := (((x1.trans x2).trans x3).obj b hb).trans ho
  have h4 := h.ext y4
  obtain ⟨own5, G5, e5, w5⟩ := h4.cas orc R.top w (topI k w)
  have hb4 : b < G4.nx := Nat.lt_of_lt_of_le hb y4.nx
  have tb4 : grown own G 13 b = own b := grown_agr b hb
  have o5 := (w5.keep hb4 (by rw [tb4]; exact tb) id).trans o4
  have ht3 : wordT k ((w / 65536 + 1) % 281474976710656) = topI k w := rfl
  rw [ht3] at e3
  refine ⟨own5, G5, f145 (exL_ok Q orc) _ _ _ G _ ?_, ((PW.refl h).ext y4).trans w5 fun _ _ h => h, o5⟩
  simp [s145, ho, e1, splice_put, splice_end, ← hG2, p2, a1, a2, e3, ← hG4, o4, o4', e5]
theorem hends_ok (orc : FuncId → Bool) (ho : G.obj b = some ⟨hL R w i j md dn err nx, 1, false, 1⟩) (e : Int) :
    (E orc).cl 82 [P0 b, .int .i64 e] G = some (.tuple #[], (G.put b ⟨hL R w i j md true err nx, 1, false, 1⟩).put b ⟨hL R w i j md true e nx, 1, false, 1⟩) := by
  refine f82 (exL_ok Q orc) _ _ G _ ?_
  simp [s82, ho]
theorem hover_ok (orc : FuncId → Bool) (ho : G.obj b = some ⟨hL R w i j true dn err nx, 1, false, 1⟩) : (E orc).cl 137 [P0 b] G = some (.bool dn, G) := by
  refine f137 (exL_ok Q orc) _ G _ ?_
  cases dn <;> simp [s137, ho]
end
/-! ### Pops -/
inductive PopS where
  | go (n : Nat) (w i j : Int)
  | done (i : Int)
def PopS.over : PopS → Bool
  | .go .. => false
  | .done _ => true
def PopS.ok (R : Sk) : PopS → Prop
  | .go n w i j => 1 ≤ n ∧ n ≤ 3 ∧ U w ∧ -1 ≤ i ∧ i < R.size ∧ -1 ≤ j ∧ j < R.size ∧ (n ≠ 1 → 0 ≤ i)
  | .done i => -1 ≤ i ∧ i < R.size
def PopS.step (R : Sk) : PopS → MS → PopS × MS
  | .done i, s => (.done i, s)
  | .go n w i j, s =>
    if n = 1 then (if idxI R.size (s.load R.top).new < 0 then .done (idxI R.size (s.load R.top).new) else .go 2 (s.load R.top).new (idxI R.size (s.load R.top).new) j, s.load R.top)
    else if n = 2 then (.go 3 w i (idxI R.size (s.load (R.links + i)).new), s.load (R.links + i))
    else (if (s.cas R.top w (topI j w)).held = true then .done i else .go 1 w i j, s.cas R.top w (topI j w))
theorem PopS.ok.step {R : Sk} {p : PopS} {s : MS} (hR : R.ok) (hp : p.ok R) (hs : s.ok) : (p.step R s).1.ok R ∧ (p.step R s).2.ok := by
  cases p with
  | done i => exact ⟨hp, hs⟩
  | go n w i j =>
    obtain ⟨h1, h2, h3, h4, h5, h6, h7, h8⟩ := hp
    have hz := hR.1; have hz2 := hR.2.1
    simp only [PopS.step]
    split
    · refine ⟨?_, (hs.load _).1⟩
      have g1 := @idxI_ge R.size (s.load R.top).new
      have g2 := @idxI_lt R.size (s.load R.top).new (by omega)
      split
      · exact ⟨g1, g2⟩
      · exact ⟨by decide, by decide, (hs.load _).2, g1, g2, h6, h7, fun _ => by omega⟩
    · split
      · exact ⟨⟨by decide, by decide, h3, h4, h5, idxI_ge, idxI_lt (by omega), fun _ => h8 (by omega)⟩, (hs.load _).1⟩
      · refine ⟨?_, hs.cas _ _ (U_topI (by omega))⟩
        split
        · exact ⟨h4, h5⟩
        · exact ⟨by decide, by decide, h3, h4, h5, h6, h7, fun h => absurd rfl h⟩
def popNext (n : Nat) : Value := .func (.func (if n = 1 then 117 else if n = 2 then 136 else 146)) #[] #[]
def PopR (R : Sk) (G : GS) (b : Nat) : PopS → Prop
  | .go n w i j => G.obj b = some ⟨hL R w i j true false 0 (popNext n), 1, false, 1⟩
  | .done i => ∃ w j nx, G.obj b = some ⟨hL R w i j true true (if i < 0 then 15 else 0) nx, 1, false, 1⟩
theorem PopR.kept {R : Sk} {G G' : GS} {b : Nat} {p : PopS} (h : PopR R G b p) (hk : G'.obj b = G.obj b) : PopR R G' b p := by
  cases p with
  | done i => obtain ⟨w, j, nx, h⟩ := h; exact ⟨w, j, nx, hk.trans h⟩
  | go n w i j => exact hk.trans h
section
variable {m r b : Nat} {own own1 : Nat → Nat} {G G1 : GS} {s s' : MS} {R : Sk} {p : PopS}
theorem pop_ok (orc : FuncId → Bool) (ht : orc 60 = false) (h : PM own G m s) (hs : s.ok) (hR : R.ok) (hb : b < G.nx) (tb : own b ≠ 10) (hp : p.ok R) (hr : PopR R G b p) :
    ∃ own1 G1, (E orc).cl 118 [P0 b, P0 m] G = some (.bool (p.step R s).1.over, G1) ∧ PW (fun x => x = b) own G own1 G1 m (p.step R s).2 ∧ PopR R G1 b (p.step R s).1 := by
  cases p with
  | done i =>
    obtain ⟨w, j, nx, ho⟩ := hr
    have e0 := hover_ok orc ho
    refine ⟨own, G, f118 (exL_ok Q orc) _ _ G _ ?_, PW.refl h, w, j, nx, ho⟩
    simp [s118, e0, PopS.step, PopS.over]
  | go n w i j =>
    obtain ⟨h1, h2, h3, h4, h5, h6, h7, h8⟩ := hp
    have hR1 := hR.1; have hR2 := hR.2.1; have hR5 := hR.2.2.2.2.1; have hR6 := hR.2.2.2.2.2
    have ho : G.obj b = _ := hr
    have e0 := hover_ok orc ho
    rcases (show n = 1 ∨ n = 2 ∨ n = 3 by omega) with rfl | rfl | rfl
    · -- the top is loaded
      obtain ⟨G1, hG1⟩ : ∃ G1, G1 = G.put b ⟨hL R w i j true false 0 (popNext 2), 1, false, 1⟩ := ⟨_, rfl⟩
      have w1 := (PW.refl (B := fun x => x = b) h).putB rfl hb tb ⟨hL R w i j true false 0 (popNext 2), 1, false, 1⟩
      rw [← hG1] at w1
      have o1 : G1.obj b = some ⟨hL R w i j true false 0 (popNext 2), 1, false, 1⟩ := by rw [hG1]; simp
      have n1 : b < G1.nx := Nat.lt_of_lt_of_le hb w1.nx
      obtain ⟨own2, G2, e2, w2, o2⟩ := hload_ok orc ht w1.pm hs n1 tb o1
      have w12 := w1.trans w2 fun _ _ h => h
      simp only [PopS.step, if_true]
      generalize s.load R.top = s' at *
      generalize idxI R.size s'.new = i' at *
      have w3 := w12.putB (b := b) rfl hb tb ⟨hL R s'.new i' j true false 0 (popNext 2), 1, false, 1⟩
      have o3 : (G2.put b ⟨hL R s'.new i' j true false 0 (popNext 2), 1, false, 1⟩).obj b = some ⟨hL R s'.new i' j true false 0 (popNext 2), 1, false, 1⟩ := by simp
      by_cases hc : i' < 0
      · have e3 := hends_ok orc o3 15
        have w4 := (w3.putB (b := b) rfl hb tb ⟨hL R s'.new i' j true true 0 (popNext 2), 1, false, 1⟩).putB (b := b) rfl hb tb ⟨hL R s'.new i' j true true 15 (popNext 2), 1, false, 1⟩
        rw [if_pos hc]
        refine ⟨own2, _, f118 (exL_ok Q orc) _ _ G _ ?_, w4, s'.new, j, popNext 2, by simp [hc]⟩
        have e4 : (E orc).cl 117 [P0 b, P0 m] G = some (.tuple #[], ((G2.put b ⟨hL R s'.new i' j true false 0 (popNext 2), 1, false, 1⟩).put b ⟨hL R s'.new i' j true true 0 (popNext 2), 1, false, 1⟩).put b ⟨hL R s'.new i' j true true 15 (popNext 2), 1, false, 1⟩) := by
          refine f117 (exL_ok Q orc) _ _ G _ ?_
          simp only [popNext] at *
          simp at *
          simp [s117, ho, ← hG1, e2, o2, hc, e3]
        simp only [popNext] at *
        simp at *
        simp [s118, e0, ho, e4, PopS.over]
      · rw [if_neg hc]
        refine ⟨own2, _, f118 (exL_ok Q orc) _ _ G _ ?_, w3, by simp [PopR]⟩
        have e4 : (E orc).cl 117 [P0 b, P0 m] G = some (.tuple #[], (G2.put b ⟨hL R s'.new i' j true false 0 (popNext 2), 1, false, 1⟩)) := by
          refine f117 (exL_ok Q orc) _ _ G _ ?_
          simp only [popNext] at *
          simp at *
          have hc' : ¬ i' < 0 := by omega
          simp [s117, ho, ← hG1, e2, o2, hc']
        simp only [popNext] at *
        simp at *
        simp [s118, e0, ho, e4, PopS.over]
    · -- the link is loaded
      have hi := h8 (by decide)
      have ha : IntKind.wrap .i64 (R.links + i) = R.links + i := wrap64 (by omega) (by omega)
      have x0 : Ext G (G.room 25) := (Ext.refl G).room 25
      have w0 := (PW.refl (B := fun x => x = b) h).ext x0
      obtain ⟨own1, G1, e1, w1⟩ := w0.pm.load orc (R.links + i)
      have w01 := w0.trans w1 fun _ _ h => h.elim
      have o0 : (G.room 25).obj b = some ⟨hL R w i j true false 0 (popNext 2), 1, false, 1⟩ := ho
      have t0 : grown own G 13 b = own b := grown_agr b hb
      have o1 := (w1.keep (show b < (G.room 25).nx by simp; omega) (by rw [t0]; exact tb) id).trans o0
      simp only [PopS.step]
      have hw := (hs.load (R.links + i)).2
      generalize s.load (R.links + i) = s' at *
      obtain ⟨G2, e2, x2⟩ := read_ok orc ht (a := R.top) (b := R.links) (size := R.size) hw G1
      have n1 : b < G1.nx := Nat.lt_of_lt_of_le hb w01.nx
      have o2 := (x2.obj b n1).trans o1
      have w02 := w01.ext x2
      generalize idxI R.size s'.new = j' at *
      have w3 := (w02.putB (b := b) rfl hb tb ⟨hL R w i j' true false 0 (popNext 2), 1, false, 1⟩).putB (b := b) rfl hb tb ⟨hL R w i j' true false 0 (popNext 3), 1, false, 1⟩
      refine ⟨_, _, f118 (exL_ok Q orc) _ _ G _ ?_, w3, by simp [PopR]⟩
      have e4 : (E orc).cl 136 [P0 b, P0 m] G = some (.tuple #[], (G2.put b ⟨hL R w i j' true false 0 (popNext 2), 1, false, 1⟩).put b ⟨hL R w i j' true false 0 (popNext 3), 1, false, 1⟩) := by
        refine f136 (exL_ok Q orc) _ _ G _ ?_
        simp only [popNext] at *
        simp at *
        simp [s136, ho, ha, e1, o1, e2, o2]
      simp only [popNext] at *
      simp at *
      simp [s118, e0, ho, e4, PopS.over]
    · -- the top is swapped
      obtain ⟨G1, hG1⟩ : ∃ G1, G1 = (G.put b ⟨hL R w i j true false 0 (popNext 1), 1, false, 1⟩).room 10 := ⟨_, rfl⟩
      have w1 := ((PW.refl (B := fun x => x = b) h).putB rfl hb tb ⟨hL R w i j true false 0 (popNext 1), 1, false, 1⟩).ext ((Ext.refl _).room 10)
      rw [← hG1] at w1
      have o1 : G1.obj b = some ⟨hL R w i j true false 0 (popNext 1), 1, false, 1⟩ := by rw [hG1]; simp
      have o1' : (G.put b ⟨hL R w i j true false 0 (popNext 1), 1, false, 1⟩).obj b = some ⟨hL R w i j true false 0 (popNext 1), 1, false, 1⟩ := by simp
      have n1 : b < G1.nx := Nat.lt_of_lt_of_le hb w1.nx
      obtain ⟨own2, G2, e2, w2, o2⟩ := hswap_ok orc ht w1.pm h3 n1 (by rw [w1.stp.same hb]; exact tb) o1 (k := j) (by omega)
      have w12 := w1.trans w2 fun _ _ h => h.elim
      simp only [PopS.step]
      generalize s.cas R.top w (topI j w) = s' at *
      cases hc : s'.held with
      | true =>
        have hi : ¬ i < 0 := by have := h8 (by decide); omega
        have e3 := hends_ok orc o2 0
        have w4 := (w12.putB (b := b) rfl hb tb ⟨hL R w i j true true 0 (popNext 1), 1, false, 1⟩).putB (b := b) rfl hb tb ⟨hL R w i j true true 0 (popNext 1), 1, false, 1⟩
        refine ⟨own2, _, f118 (exL_ok Q orc) _ _ G _ ?_, w4, w, j, popNext 1, by simp [hi]⟩
        have e4 : (E orc).cl 146 [P0 b, P0 m] G = some (.tuple #[], (G2.put b ⟨hL R w i j true true 0 (popNext 1), 1, false, 1⟩).put b ⟨hL R w i j true true 0 (popNext 1), 1, false, 1⟩) := by
          refine f146 (exL_ok Q orc) _ _ G _ ?_
          simp only [popNext] at *
          simp at *
          simp [s146, ho, ← hG1, e2, hc, e3]
        simp only [popNext] at *
        simp at *
        simp [s118, e0, ho, e4, PopS.over, hc]
      | false =>
        refine ⟨own2, G2, f118 (exL_ok Q orc) _ _ G _ ?_, by simpa [hc] using w12, by simpa [PopR] using o2⟩
        have e4 : (E orc).cl 146 [P0 b, P0 m] G = some (.tuple #[], G2) := by
          refine f146 (exL_ok Q orc) _ _ G _ ?_
          simp only [popNext] at *
          simp at *
          simp [s146, ho, ← hG1, e2, hc]
        simp only [popNext] at *
        simp at *
        simp [s118, e0, ho, e4, PopS.over, hc, o2]
end
end Go.Proofs.Ytfmkihikmlcimaa.Lift

set_option linter.unusedVariables false
set_option linter.unusedSimpArgs false
set_option maxRecDepth 20000
namespace Go.Proofs.Ytfmkihikmlcimaa.Lift
open Go Go.Proofs.Ytfmkihikmlcimaa.Gh Go.Proofs
/-! ### Pushes -/
inductive PusS where
  | go (n : Nat) (w i : Int)
  | done (e : Int)
def PusS.over : PusS → Bool
  | .go .. => false
  | .done _ => true
def PusS.ok (R : Sk) : PusS → Prop
  | .go n w i => 1 ≤ n ∧ n ≤ 3 ∧ U w ∧ 0 ≤ i ∧ i < R.size
  | .done _ => True
def PusS.step (R : Sk) : PusS → MS → PusS × MS
  | .done i, s => (.done i, s)
  | .go n w i, s =>
    if n = 1 then (.go 2 (s.load R.top).new i, s.load R.top)
    else if n = 2 then (.go 3 w i, s.store (R.links + i) (idxI R.size w + 1))
    else (if (s.cas R.top w (topI i w)).held = true then .done 0 else .go 1 w i, s.cas R.top w (topI i w))
theorem PusS.ok.step {R : Sk} {p : PusS} {s : MS} (hR : R.ok) (hp : p.ok R) (hs : s.ok) : (p.step R s).1.ok R ∧ (p.step R s).2.ok := by
  cases p with
  | done i => exact ⟨hp, hs⟩
  | go n w i =>
    obtain ⟨h1, h2, h3, h4, h5⟩ := hp
    have hz := hR.1; have hz2 := hR.2.1
    have g1 := @idxI_ge R.size w
    have g2 := @idxI_lt R.size w (by omega)
    simp only [PusS.step]
    split
    · exact ⟨⟨by decide, by decide, (hs.load _).2, h4, h5⟩, (hs.load _).1⟩
    · split
      · exact ⟨⟨by decide, by decide, h3, h4, h5⟩, hs.store _ ⟨by omega, by omega⟩⟩
      · refine ⟨?_, hs.cas _ _ (U_topI (by omega))⟩
        split
        · trivial
        · exact ⟨by decide, by decide, h3, h4, h5⟩
def pushNext (n : Nat) : Value := .func (.func (if n = 1 then 81 else if n = 2 then 114 else 133)) #[] #[]
def PusR (R : Sk) (G : GS) (b : Nat) : PusS → Prop
  | .go n w i => ∃ j, (n = 2 → j = idxI R.size w) ∧ G.obj b = some ⟨hL R w i j true false 0 (pushNext n), 1, false, 1⟩
  | .done e => ∃ w i j nx, G.obj b = some ⟨hL R w i j true true e nx, 1, false, 1⟩
theorem PusR.kept {R : Sk} {G G' : GS} {b : Nat} {p : PusS} (h : PusR R G b p) (hk : G'.obj b = G.obj b) : PusR R G' b p := by
  cases p with
  | done i => obtain ⟨w, i, j, nx, h⟩ := h; exact ⟨w, i, j, nx, hk.trans h⟩
  | go n w i => obtain ⟨j, hj, h⟩ := h; exact ⟨j, hj, hk.trans h⟩
section
variable {m r b : Nat} {own own1 : Nat → Nat} {G G1 : GS} {s s' : MS} {R : Sk} {p : PusS}
theorem push_ok (orc : FuncId → Bool) (ht : orc 60 = false) (h : PM own G m s) (hs : s.ok) (hR : R.ok) (hb : b < G.nx) (tb : own b ≠ 10) (hp : p.ok R) (hr : PusR R G b p) :
    ∃ own1 G1, (E orc).cl 134 [P0 b, P0 m] G = some (.bool (p.step R s).1.over, G1) ∧ PW (fun x => x = b) own G own1 G1 m (p.step R s).2 ∧ PusR R G1 b (p.step R s).1 := by
  cases p with
  | done e =>
    obtain ⟨w, i, j, nx, ho⟩ := hr
    have e0 := hover_ok orc ho
    refine ⟨own, G, f134 (exL_ok Q orc) _ _ G _ ?_, PW.refl h, w, i, j, nx, ho⟩
    simp [s134, e0, PusS.step, PusS.over]
  | go n w i =>
    obtain ⟨h1, h2, h3, h4, h5⟩ := hp
    have hR1 := hR.1; have hR2 := hR.2.1; have hR5 := hR.2.2.2.2.1; have hR6 := hR.2.2.2.2.2
    obtain ⟨j, hj, ho⟩ := hr
    have e0 := hover_ok orc ho
    rcases (show n = 1 ∨ n = 2 ∨ n = 3 by omega) with rfl | rfl | rfl
    · obtain ⟨own2, G2, e2, w2, o2⟩ := hload_ok orc ht h hs hb tb ho
      simp only [PusS.step, if_true]
      generalize hs' : s.load R.top = s' at *
      have w3 := (w2.putB (b := b) rfl hb tb ⟨hL R s'.new i (idxI R.size s'.new) true false 0 (pushNext 1), 1, false, 1⟩).putB (b := b) rfl hb tb ⟨hL R s'.new i (idxI R.size s'.new) true false 0 (pushNext 2), 1, false, 1⟩
      refine ⟨own2, _, f134 (exL_ok Q orc) _ _ G _ ?_, w3, _, fun _ => rfl, by simp⟩
      generalize idxI R.size s'.new = j' at *
      have e4 : (E orc).cl 81 [P0 b, P0 m] G = some (.tuple #[], (G2.put b ⟨hL R s'.new i j' true false 0 (pushNext 1), 1, false, 1⟩).put b ⟨hL R s'.new i j' true false 0 (pushNext 2), 1, false, 1⟩) := by
        refine f81 (exL_ok Q orc) _ _ G _ ?_
        simp only [pushNext] at *
        simp at *
        simp [s81, ho, e2, o2]
      simp only [pushNext] at *
      simp at *
      simp [s134, e0, ho, e4, PusS.over]
    · have hj := hj rfl
      have g1 := @idxI_ge R.size w
      have g2 := @idxI_lt R.size w (by omega)
      have ha : IntKind.wrap .i64 (R.links + i) = R.links + i := wrap64 (by omega) (by omega)
      rw [← hj] at g1 g2
      simp only [PusS.step]
      rw [← hj]
      obtain ⟨G1, e1, x1⟩ := link_ok orc ht (i := j) (by omega) (G.room 20)
      have y1 := ((Ext.refl G).room 20).trans x1
      have w1 := (PW.refl (B := fun x => x = b) h).ext y1
      have o1 := (y1.obj b hb).trans ho
      have n1 : b < G1.nx := Nat.lt_of_lt_of_le hb w1.nx
      obtain ⟨own2, G2, e2, w2⟩ := w1.pm.store orc (R.links + i) (j + 1)
      have o2 := (w2.keep n1 (by rw [w1.stp.same hb]; exact tb) id).trans o1
      have w12 := w1.trans w2 fun _ _ h => h.elim
      have w3 := w12.putB (b := b) rfl hb tb ⟨hL R w i j true false 0 (pushNext 3), 1, false, 1⟩
      simp only [show ((2 : Nat) = 1) = False by simp, if_false, if_true]
      generalize s.store (R.links + i) (j + 1) = s' at *
      refine ⟨own2, _, f134 (exL_ok Q orc) _ _ G _ ?_, w3, j, fun h => absurd h (by decide), by simp⟩
      have e4 : (E orc).cl 114 [P0 b, P0 m] G = some (.tuple #[], G2.put b ⟨hL R w i j true false 0 (pushNext 3), 1, false, 1⟩) := by
        refine f114 (exL_ok Q orc) _ _ G _ ?_
        simp only [pushNext] at *
        simp at *
        simp [s114, ho, ha, e1, o1, e2, o2]
      simp only [pushNext] at *
      simp at *
      simp [s134, e0, ho, e4, PusS.over]
    · obtain ⟨G1, hG1⟩ : ∃ G1, G1 = (G.put b ⟨hL R w i j true false 0 (pushNext 1), 1, false, 1⟩).room 10 := ⟨_, rfl⟩
      have w1 := ((PW.refl (B := fun x => x = b) h).putB rfl hb tb ⟨hL R w i j true false 0 (pushNext 1), 1, false, 1⟩).ext ((Ext.refl _).room 10)
      rw [← hG1] at w1
      have o1 : G1.obj b = some ⟨hL R w i j true false 0 (pushNext 1), 1, false, 1⟩ := by rw [hG1]; simp
      have n1 : b < G1.nx := Nat.lt_of_lt_of_le hb w1.nx
      obtain ⟨own2, G2, e2, w2, o2⟩ := hswap_ok orc ht w1.pm h3 n1 (by rw [w1.stp.same hb]; exact tb) o1 (k := i) (by omega)
      have w12 := w1.trans w2 fun _ _ h => h.elim
      simp only [PusS.step]
      generalize s.cas R.top w (topI i w) = s' at *
      cases hc : s'.held with
      | true =>
        have e3 := hends_ok orc o2 0
        have w4 := (w12.putB (b := b) rfl hb tb ⟨hL R w i j true true 0 (pushNext 1), 1, false, 1⟩).putB (b := b) rfl hb tb ⟨hL R w i j true true 0 (pushNext 1), 1, false, 1⟩
        refine ⟨own2, _, f134 (exL_ok Q orc) _ _ G _ ?_, w4, w, i, j, pushNext 1, by simp⟩
        have e4 : (E orc).cl 133 [P0 b, P0 m] G = some (.tuple #[], (G2.put b ⟨hL R w i j true true 0 (pushNext 1), 1, false, 1⟩).put b ⟨hL R w i j true true 0 (pushNext 1), 1, false, 1⟩) := by
          refine f133 (exL_ok Q orc) _ _ G _ ?_
          simp only [pushNext] at *
          simp at *
          simp [s133, ho, ← hG1, e2, hc, e3]
        simp only [pushNext] at *
        simp at *
        simp [s134, e0, ho, e4, PusS.over, hc]
      | false =>
        refine ⟨own2, G2, f134 (exL_ok Q orc) _ _ G _ ?_, by simpa [hc] using w12, j, fun h => by simp at h, by simpa using o2⟩
        have e4 : (E orc).cl 133 [P0 b, P0 m] G = some (.tuple #[], G2) := by
          refine f133 (exL_ok Q orc) _ _ G _ ?_
          simp only [pushNext] at *
          simp at *
          simp [s133, ho, ← hG1, e2, hc]
        simp only [pushNext] at *
        simp at *
        simp [s134, e0, ho, e4, PusS.over, hc, o2]
/-! made, and what a Pop came to -/
theorem newpop_ok (orc : FuncId → Bool) (R : Sk) (G : GS) : ∃ b G', (E orc).cl 86 [.agg ⟨[.int .i64 R.top, .int .i64 R.links, .int .i64 R.size]⟩] G = some (P0 b, G') ∧ Ext G G' ∧ G.nx ≤ b ∧ b < G'.nx ∧ PopR R G' b (.go 1 0 0 0) := by
  refine ⟨G.nx + 1, (G.push ⟨[.int .i64 R.top, .int .i64 R.links, .int .i64 R.size], 1, false, 1⟩).push ⟨hL R 0 0 0 true false 0 (popNext 1), 1, false, 1⟩, f86 (exL_ok Q orc) _ G _ ?_, ((Ext.refl G).push _).push _, by omega, by simp, by simp [PopR]⟩
  simp [s86, popNext]
def newPus (R : Sk) (i : Int) : PusS := if i < 0 ∨ R.size ≤ i then .done 3 else .go 1 0 i
theorem newPus_ok {R : Sk} {i : Int} : (newPus R i).ok R := by
  unfold newPus; split
  · trivial
  · exact ⟨by decide, by decide, ⟨by decide, by decide⟩, by omega, by omega⟩
theorem newpush_ok (orc : FuncId → Bool) (R : Sk) (i : Int) (G : GS) : ∃ b G', (E orc).cl 46 [.agg ⟨[.int .i64 R.top, .int .i64 R.links, .int .i64 R.size]⟩, .int .i64 i] G = some (P0 b, G') ∧ Ext G G' ∧ G.nx ≤ b ∧ b < G'.nx ∧ PusR R G' b (newPus R i) := by
  obtain ⟨G1, hG1⟩ : ∃ G1, G1 = (G.push ⟨[.int .i64 R.top, .int .i64 R.links, .int .i64 R.size], 1, false, 1⟩).push ⟨hL R 0 i 0 true false 0 (pushNext 1), 1, false, 1⟩ := ⟨_, rfl⟩
  have o0 : G1.obj G.nx = some ⟨[.int .i64 R.top, .int .i64 R.links, .int .i64 R.size], 1, false, 1⟩ := by rw [hG1]; simp
  have o1 : G1.obj (G.nx + 1) = some ⟨hL R 0 i 0 true false 0 (pushNext 1), 1, false, 1⟩ := by rw [hG1]; simp
  have n1 : G1.nx = G.nx + 2 := by rw [hG1]; rfl
  have x1 : Ext G G1 := by rw [hG1]; exact ((Ext.refl G).push _).push _
  have hG1' : G1 = (G.push ⟨[.int .i64 R.top, .int .i64 R.links, .int .i64 R.size], 1, false, 1⟩).push ⟨[.int .i64 R.top, .int .i64 R.links, .int .i64 R.size, .int .u64 0, .int .i64 i, .int .i64 0, .bool true, .bool false, .int .i64 0, .func (.func 81) #[] #[]], 1, false, 1⟩ := hG1
  have e3 := hends_ok orc o1 3
  unfold newPus
  by_cases hc : i < 0 ∨ R.size ≤ i
  · rw [if_pos hc]
    refine ⟨G.nx + 1, _, f46 (exL_ok Q orc) _ _ G ((P0 (G.nx + 1)), ((G1.put (G.nx + 1) ⟨hL R 0 i 0 true true 0 (pushNext 1), 1, false, 1⟩).put (G.nx + 1) ⟨hL R 0 i 0 true true 3 (pushNext 1), 1, false, 1⟩)) ?_, (x1.put (by omega) _).put (by omega) _, by omega, by simp; omega, 0, i, 0, pushNext 1, by simp⟩
    simp only [pushNext] at *
    by_cases h1 : i < 0
    · simp [s46, h1]
      rw [show (_ : GS) = G1 from hG1'.symm]
      simp at e3
      simp [e3]
    · have h2 : R.size ≤ i := by omega
      simp [s46, h1, h2]
      rw [show (_ : GS) = G1 from hG1'.symm]
      simp at e3
      simp [e3]
  · rw [if_neg hc]
    have h1 : ¬ i < 0 := by omega
    have h2 : ¬ R.size ≤ i := by omega
    refine ⟨G.nx + 1, G1, f46 (exL_ok Q orc) _ _ G _ ?_, x1, by omega, by omega, 0, fun h => absurd h (by decide), o1⟩
    simp [s46, h1, h2]
    exact hG1'.symm
theorem popindex_ok (orc : FuncId → Bool) {i : Int} (h : PopR R G b (.done i)) : (E orc).cl 119 [P0 b] G = some (.tuple #[.int .i64 (if i < 0 then 0 else i), .int .i64 (if i < 0 then 15 else 0)], G) := by
  obtain ⟨w, j, nx, ho⟩ := h
  have e1 : (E orc).cl 147 [P0 b] G = some (.int .i64 (if i < 0 then 15 else 0), G) := by
    refine f147 (exL_ok Q orc) _ G _ ?_
    simp [s147, ho]
  have e2 : (E orc).cl 138 [P0 b] G = some (.tuple #[.int .i64 (if i < 0 then 0 else i), .int .i64 (if i < 0 then 15 else 0)], G) := by
    refine f138 (exL_ok Q orc) _ G _ ?_
    by_cases hc : i < 0
    · simp [s138, e1, hc]
    · simp [s138, e1, hc, ho]
  refine f119 (exL_ok Q orc) _ G _ ?_
  simp [s119, e2]
end
end Go.Proofs.Ytfmkihikmlcimaa.Lift

