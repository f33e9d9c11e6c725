/- contracts of the program's functions -/
import Derived.Test.YtdohlgkmaeipjaaGreatRAa
import Derived.Test.YtdohlgkmaeipjaaGreatGhPT
import Derived.Test.YtdohlgkmaeipjaaGreatGhPR
import Derived.Test.YtdohlgkmaeipjaaGreatGhPC
import Derived.Test.YtdohlgkmaeipjaaGreatGhPD
import Derived.Test.YtdohlgkmaeipjaaGreatGhLS
import Derived.Test.YtdohlgkmaeipjaaGreatGhEQ
namespace Go.Proofs.YtdohlgkmaeipjaaGreat.Lift
open Go Go.Proofs.YtdohlgkmaeipjaaGreat.Gh Go.Proofs
abbrev P0 (b : Nat) : Value := .pointer (some ⟨b, 0, none⟩)
theorem Ext.drawn {A G B : GS} (h : Ext A G) {n : Nat} (hn : A.nx ≤ n) (hB : A.nx ≤ B.nx) (o : GObj) : Ext A (((G.at' n).push o).back B) :=
  ⟨by simpa using hB, fun g hg => by
    have := h.obj g hg
    simp only [obj_back, obj_push, nx_at, obj_at]
    rw [if_neg (by omega)]; exact this, by simpa using h.nl, fun l hl => by simpa using h.loop l hl⟩
theorem iface_cells (k : Nat) (v : Value) : (Value.iface k v).cells = #[.iface k v] := rfl
end Go.Proofs.YtdohlgkmaeipjaaGreat.Lift

set_option linter.unusedVariables false
set_option linter.unusedSimpArgs false
set_option maxRecDepth 20000
namespace Go.Proofs.YtdohlgkmaeipjaaGreat.Lift
open Go Go.Proofs.YtdohlgkmaeipjaaGreat.Gh Go.Proofs
def U (x : Int) : Prop := 0 ≤ x ∧ x < 18446744073709551616
theorem wrap_u32 (x : Int) : IntKind.wrap .u32 x = x % 4294967296 := by
  simp only [IntKind.wrap, IntKind.bits, IntKind.signed, Bool.false_and]
  simp
theorem wrap_u64 (x : Int) : IntKind.wrap .u64 x = x % 18446744073709551616 := by
  simp only [IntKind.wrap, IntKind.bits, IntKind.signed, Bool.false_and]
  simp
theorem shr_32 {w : Int} (h : U w) : shrI .u64 w 32 = w / 4294967296 := by
  show w.fdiv (2 ^ (min (32 : Int).toNat 64)) = _
  rw [show (min (32 : Int).toNat 64) = 32 from rfl, Int.fdiv_eq_ediv_of_nonneg _ (by decide)]; rfl
theorem shr_16 {w : Int} (h : U w) : shrI .u64 w 16 = w / 65536 := by
  show w.fdiv (2 ^ (min (16 : Int).toNat 64)) = _
  rw [show (min (16 : Int).toNat 64) = 16 from rfl, Int.fdiv_eq_ediv_of_nonneg _ (by decide)]; rfl
theorem shl_32 {l : Int} (h0 : 0 ≤ l) (h1 : l < 4294967296) : shlI .u64 l 32 = l * 4294967296 := by
  show IntKind.wrap .u64 (l * 2 ^ (min (32 : Int).toNat 64)) = _
  rw [show (min (32 : Int).toNat 64) = 32 from rfl, wrap_u64, show (2 : Int) ^ 32 = 4294967296 from rfl]
  omega
theorem ofInt_u64 {x : Int} (h : U x) : (BitVec.ofInt 64 x).toNat = x.toNat := by
  obtain ⟨n, rfl⟩ := Int.eq_ofNat_of_zero_le h.1
  have := h.2
  have e : (BitVec.ofInt 64 (n : Int)).toNat = n % 2 ^ 64 := by simp [BitVec.toNat_ofInt]
  rw [e]; simp; omega
theorem and_u64 {a b : Int} (ha : U a) (hb : U b) : andI .u64 a b = ((a.toNat &&& b.toNat : Nat) : Int) := by
  show IntKind.wrap .u64 (((BitVec.ofInt 64 a &&& BitVec.ofInt 64 b).toNat : Nat) : Int) = _
  have h1 : a.toNat &&& b.toNat ≤ a.toNat := Nat.and_le_left
  have := ha.1; have := ha.2
  rw [BitVec.toNat_and, ofInt_u64 ha, ofInt_u64 hb, wrap_u64]
  omega
theorem or_u64 {a b : Int} (ha : U a) (hb : U b) : orI .u64 a b = ((a.toNat ||| b.toNat : Nat) : Int) := by
  show IntKind.wrap .u64 (((BitVec.ofInt 64 a ||| BitVec.ofInt 64 b).toNat : Nat) : Int) = _
  have h1 : a.toNat ||| b.toNat < 2 ^ 64 := Nat.or_lt_two_pow (by have := ha.2; have := ha.1; omega) (by have := hb.2; have := hb.1; omega)
  rw [BitVec.toNat_or, ofInt_u64 ha, ofInt_u64 hb, wrap_u64]
  omega
theorem and_low {w : Int} (h : U w) : andI .u64 w 65535 = w % 65536 := by
  rw [and_u64 h ⟨by decide, by decide⟩]
  have : w.toNat &&& (65535 : Int).toNat = w.toNat % 65536 := Nat.and_two_pow_sub_one_eq_mod w.toNat 16
  rw [this]
  have := h.1
  omega
theorem and_bit {w : Int} (h : U w) : andI .u64 w 65536 = if w / 65536 % 2 = 1 then 65536 else 0 := by
  rw [and_u64 h ⟨by decide, by decide⟩]
  have e : w.toNat &&& (65536 : Int).toNat = (w.toNat.testBit 16).toNat * 2 ^ 16 := by
    apply Nat.eq_of_testBit_eq
    intro i
    rw [Nat.testBit_and, show (65536 : Int).toNat = 2 ^ 16 from rfl, Nat.testBit_two_pow]
    cases hb : w.toNat.testBit 16
    · by_cases hi : 16 = i
      · subst hi; simp [hb]
      · simp [hi]
    · by_cases hi : 16 = i
      · subst hi; simp [hb]; decide
      · rw [show (true.toNat * 2 ^ 16 : Nat) = 2 ^ 16 from rfl, Nat.testBit_two_pow]; simp [hi]
  rw [e, Nat.testBit_eq_decide_div_mod_eq]
  have := h.1
  obtain ⟨n, rfl⟩ := Int.eq_ofNat_of_zero_le h.1
  simp only [Int.toNat_natCast]
  by_cases hb : n / 2 ^ 16 % 2 = 1
  · have : ((n : Int) / 65536 % 2 = 1) := by omega
    rw [if_pos this]; simp [hb]
  · have : ¬ ((n : Int) / 65536 % 2 = 1) := by omega
    rw [if_neg this]; simp [hb]
theorem or_add {a b : Int} (i : Nat) (q : Nat) (ha : U a) (hb : U b) (h1 : a.toNat = 2 ^ i * q) (h2 : b.toNat < 2 ^ i) : orI .u64 a b = a + b := by
  rw [or_u64 ha hb, h1, ← Nat.two_pow_add_eq_or_of_lt h2 q, ← h1]
  have := ha.1; have := hb.1
  omega
theorem andNot_low {l : Int} (h0 : 0 ≤ l) (h1 : l < 4294967296) : andNotI .u64 (l * 4294967296) 65535 = l * 4294967296 := by
  obtain ⟨n, rfl⟩ := Int.eq_ofNat_of_zero_le h0
  show IntKind.wrap .u64 (((BitVec.ofInt 64 ((n : Int) * 4294967296) &&& ~~~ BitVec.ofInt 64 65535).toNat : Nat) : Int) = _
  have e1 : BitVec.ofInt 64 ((n : Int) * 4294967296) = BitVec.ofNat 64 (n * 2 ^ 32) := by
    rw [show ((n : Int) * 4294967296) = ((n * 2 ^ 32 : Nat) : Int) by rw [Int.natCast_mul]; rfl, BitVec.ofInt_natCast]
  have e2 : BitVec.ofInt 64 65535 = BitVec.ofNat 64 65535 := by decide
  have e3 : BitVec.ofNat 64 (n * 2 ^ 32) &&& ~~~ BitVec.ofNat 64 65535 = BitVec.ofNat 64 (n * 2 ^ 32) := by
    apply BitVec.eq_of_getLsbD_eq
    intro i hi
    rw [BitVec.getLsbD_and, BitVec.getLsbD_not, BitVec.getLsbD_ofNat, BitVec.getLsbD_ofNat]
    by_cases h : i < 32
    · have : (n * 2 ^ 32).testBit i = false := by rw [Nat.mul_comm, Nat.testBit_two_pow_mul]; simp; omega
      simp [this]
    · have : Nat.testBit 65535 i = false := by
        refine Nat.testBit_lt_two_pow (Nat.lt_of_lt_of_le (show 65535 < 2 ^ 16 by decide) (Nat.pow_le_pow_right (by decide) (by omega)))
      simp [this, hi]
  rw [e1, e2, e3, BitVec.toNat_ofNat, wrap_u64]
  omega
end Go.Proofs.YtdohlgkmaeipjaaGreat.Lift

set_option linter.unusedVariables false
set_option linter.unusedSimpArgs false
set_option maxRecDepth 20000
namespace Go.Proofs.YtdohlgkmaeipjaaGreat.Lift
open Go Go.Proofs.YtdohlgkmaeipjaaGreat.Gh Go.Proofs
/-! ### Words: what program and document read and write -/
theorem and_48 {w : Int} (h : U w) : andI .u64 w 281474976710655 = w % 281474976710656 := by
  rw [and_u64 h ⟨by decide, by decide⟩]
  have : w.toNat &&& (281474976710655 : Int).toNat = w.toNat % 281474976710656 := Nat.and_two_pow_sub_one_eq_mod w.toNat 48
  rw [this]
  have := h.1
  omega
theorem and_32 {w : Int} (h : U w) : andI .u64 w 4294967295 = w % 4294967296 := by
  rw [and_u64 h ⟨by decide, by decide⟩]
  have : w.toNat &&& (4294967295 : Int).toNat = w.toNat % 4294967296 := Nat.and_two_pow_sub_one_eq_mod w.toNat 32
  rw [this]
  have := h.1
  omega
theorem shr_0 {w : Int} (h : U w) : shrI .u64 w 0 = w := by
  show w.fdiv (2 ^ (min (0 : Int).toNat 64)) = _
  rw [show (min (0 : Int).toNat 64) = 0 from rfl, Int.fdiv_eq_ediv_of_nonneg _ (by decide)]; simp
theorem take_lo (orc : FuncId → Bool) {w : Int} (h : U w) (G : GS) : ∃ G', (E orc).cl 272 [.int .u64 w, .agg ⟨[.int .i64 0, .int .i64 16]⟩] G = some (.int .i64 (w % 65536), G') ∧ Ext G G' := by
  refine ⟨(G.push ⟨[.int .i64 0, .int .i64 16], 1, false, 1⟩).room 11, f272 (exL_ok Q orc) _ _ G _ ?_, ((Ext.refl G).push _).room 11⟩
  have e1 : shlI .u64 1 16 = 65536 := by decide
  have e2 : IntKind.wrap .u64 65535 = 65535 := by decide
  have e3 : IntKind.wrap .i64 (w % 65536) = w % 65536 := wrap64 (by omega) (by omega)
  simp [s272, shr_0 h, e1, e2, and_low h, e3]
theorem U_div {w : Int} (h : U w) (k : Int) (hk : 0 < k) : U (w / k) := by
  have h1 := h.1; have h2 := h.2
  refine ⟨Int.ediv_nonneg h1 (by omega), ?_⟩
  have := Int.ediv_le_self k h1
  omega
theorem take_hi (orc : FuncId → Bool) {w : Int} (h : U w) (G : GS) : ∃ G', (E orc).cl 272 [.int .u64 w, .agg ⟨[.int .i64 16, .int .i64 48]⟩] G = some (.int .i64 (w / 65536), G') ∧ Ext G G' := by
  refine ⟨(G.push ⟨[.int .i64 16, .int .i64 48], 1, false, 1⟩).room 11, f272 (exL_ok Q orc) _ _ G _ ?_, ((Ext.refl G).push _).room 11⟩
  have e1 : shlI .u64 1 48 = 281474976710656 := by decide
  have e2 : IntKind.wrap .u64 281474976710655 = 281474976710655 := by decide
  have h1 := h.1; have h2 := h.2
  have e4 : w / 65536 % 281474976710656 = w / 65536 := by omega
  have e3 : IntKind.wrap .i64 (w / 65536) = w / 65536 := wrap64 (by omega) (by omega)
  simp [s272, shr_16 h, e1, e2, and_48 (U_div h 65536 (by decide)), e4, e3]
theorem tops_ok (orc : FuncId → Bool) (ht : orc 271 = false) (G : GS) : ∃ G', (E orc).cl 271 [] G = some (.agg ⟨[.int .i64 0, .int .i64 16, .int .i64 16, .int .i64 48]⟩, G') ∧ Ext G G' := by
  refine ⟨(G.push ⟨[.int .i64 0, .int .i64 0, .int .i64 0, .int .i64 0], 1, false, 1⟩).put G.nx ⟨[.int .i64 0, .int .i64 16, .int .i64 16, .int .i64 48], 1, false, 1⟩, f271 (exL_ok Q orc) ht G _ ?_, ((Ext.refl G).push _).put (Nat.le_refl _) _⟩
  simp [s271, splice_put, splice_end]
theorem refs_ok (orc : FuncId → Bool) (ht : orc 284 = false) (G : GS) : ∃ G', (E orc).cl 284 [] G = some (.agg ⟨[.int .i64 0, .int .i64 16, .int .i64 16, .int .i64 32]⟩, G') ∧ Ext G G' := by
  refine ⟨(G.push ⟨[.int .i64 0, .int .i64 0, .int .i64 0, .int .i64 0], 1, false, 1⟩).put G.nx ⟨[.int .i64 0, .int .i64 16, .int .i64 16, .int .i64 32], 1, false, 1⟩, f284 (exL_ok Q orc) ht G _ ?_, ((Ext.refl G).push _).put (Nat.le_refl _) _⟩
  simp [s284, splice_put, splice_end]
theorem gettop_ok (orc : FuncId → Bool) (ht : orc 271 = false) {w : Int} (h : U w) (G : GS) : ∃ G', (E orc).cl 189 [.int .u64 w] G = some (.tuple #[.agg ⟨[.int .i64 (w % 65536 - 1), .int .i64 (w / 65536)]⟩, .int .i64 0], G') ∧ Ext G G' := by
  obtain ⟨G1, hG1⟩ : ∃ G1, G1 = G.push ⟨[.int .i64 0, .int .i64 0], 1, false, 1⟩ := ⟨_, rfl⟩
  have x1 : Ext G G1 := by rw [hG1]; exact (Ext.refl G).push _
  have n1 : G1.nx = G.nx + 1 := by rw [hG1]; rfl
  have o1 : G1.obj G.nx = some ⟨[.int .i64 0, .int .i64 0], 1, false, 1⟩ := by rw [hG1]; simp
  obtain ⟨G2, e2, x2⟩ := tops_ok orc ht G1
  have o2 := (x2.obj G.nx (by omega)).trans o1
  obtain ⟨G3, hG3⟩ : ∃ G3, G3 = ((G2.push ⟨[.int .i64 0, .int .i64 0, .int .i64 0, .int .i64 0], 1, false, 1⟩).put G2.nx ⟨[.int .i64 0, .int .i64 16, .int .i64 16, .int .i64 48], 1, false, 1⟩).room 12 := ⟨_, rfl⟩
  have n2 := x2.nx
  have x3 : Ext G2 G3 := by rw [hG3]; exact (((Ext.refl G2).push _).put (Nat.le_refl _) _).room 12
  have o3 := (x3.obj G.nx (by omega)).trans o2
  have p3 : G3.obj G2.nx = some ⟨[.int .i64 0, .int .i64 16, .int .i64 16, .int .i64 48], 1, false, 1⟩ := by rw [hG3]; simp
  have n3 : G2.nx < G3.nx := by rw [hG3]; simp; omega
  obtain ⟨G4, e4, x4⟩ := take_lo orc h G3
  have o4 := (x4.obj G.nx (by omega)).trans o3
  have p4 := (x4.obj G2.nx n3).trans p3
  obtain ⟨G5, e5, x5⟩ := take_hi orc h G4
  have o5 := (x5.obj G.nx (by have := x4.nx; omega)).trans o4
  have hm : IntKind.wrap .i64 (w % 65536 - 1) = w % 65536 - 1 := wrap64 (by omega) (by omega)
  have w : Wp (s189 true (exL Q orc) (.int .u64 w) G) fun r => r.1 = .tuple #[.agg ⟨[.int .i64 (w % 65536 - 1), .int .i64 (w / 65536)]⟩, .int .i64 0] ∧ Ext G r.2 := by
    simp [s189, ← hG1, e2, splice_put, splice_end, ← hG3, p3, e4, p4, e5, o5, hm]
    exact ((((x1.trans x2).trans x3).trans x4).trans x5).put (Nat.le_refl _) _
  obtain ⟨⟨v, G'⟩, e1, rfl, e3⟩ := w
  exact ⟨G', f189 (exL_ok Q orc) _ G _ e1, e3⟩
/-- two pairs that are where they have to be -/
theorem within2_ok (orc : FuncId → Bool) {b ez : Nat} {n1 l1 h1 n2 l2 h2 : Int} {G : GS} (ho : G.obj b = some ⟨[.int .i64 n1, .int .i64 l1, .int .i64 h1, .int .i64 n2, .int .i64 l2, .int .i64 h2], ez, false, 1⟩) (hb : b < G.nx) (q1 : l1 ≤ n1 ∧ n1 ≤ h1) (q2 : l2 ≤ n2 ∧ n2 ≤ h2) :
    ∃ G', (E orc).cl 357 [.slice (some ⟨b, 0, none⟩) 2 2] G = some (.bool true, G') ∧ Ext G G' := by
  have l2' : ∀ τ G, τ 5 = .slice (some ⟨b, 0, none⟩) 2 2 → τ 6 = .int .i64 2 → τ 7 = .int .i64 2 → Wp ((exL Q orc).lpx 357 0 τ G) fun q => q.1 = .exit 0 ∧ q.2.2 = G := by
    intro τ G t5 t6 t7
    refine Wp.lp (l357_0 (exL_ok Q orc)) ?_
    simp [b357_0, clip_t, t5, t6, t7]
  have a1 : ¬ n1 < l1 := by omega
  have a2 : ¬ h1 < n1 := by omega
  have a3 : ¬ n2 < l2 := by omega
  have a4 : ¬ h2 < n2 := by omega
  have w1 : IntKind.wrap .i64 1 = 1 := by decide
  have w2 : IntKind.wrap .i64 2 = 2 := by decide
  have l1' : ∀ τ G, G.obj b = some ⟨[.int .i64 n1, .int .i64 l1, .int .i64 h1, .int .i64 n2, .int .i64 l2, .int .i64 h2], ez, false, 1⟩ → b < G.nx → τ 5 = .slice (some ⟨b, 0, none⟩) 2 2 → τ 6 = .int .i64 2 → τ 7 = .int .i64 1 → Wp ((exL Q orc).lpx 357 0 τ G) fun q => q.1 = .exit 0 ∧ Ext G q.2.2 := by
    intro τ G ho hb t5 t6 t7
    refine Wp.lp (l357_0 (exL_ok Q orc)) ?_
    have hne : ¬ b = G.nx := by omega
    simp [b357_0, clip_t, t5, t6, t7, ho, a3, a4, splice_put, splice_end]
    refine Wp.mono (l2' _ _ (by simp [clip_t]) (by simp [clip_t]) (by simp [clip_t, w2])) ?_
    rintro q ⟨h1, h2⟩
    refine ⟨h1, ?_⟩
    rw [h2]
    exact ((Ext.refl G).push _).put (Nat.le_refl _) _
  have w : Wp (s357 true (exL Q orc) (.slice (some ⟨b, 0, none⟩) 2 2) G) fun r => r.1 = .bool true ∧ Ext G r.2 := by
    simp [s357]
    refine Wp.bE ((Wp.lp (l357_0 (exL_ok Q orc)) (Q := fun q => q.1 = .exit 0 ∧ Ext G q.2.2) ?_).mono ?_)
    · have hne : ¬ b = G.nx := by omega
      simp [b357_0, clip_t, ho, a1, a2, splice_put, splice_end]
      refine Wp.mono (l1' _ _ (by simp [hne, ho]) (by simp; omega) (by simp [clip_t]) (by simp [clip_t]) (by simp [clip_t, w1])) ?_
      rintro q ⟨h1, h2⟩
      exact ⟨h1, (((Ext.refl G).push _).put (Nat.le_refl _) _).trans h2⟩
    · rintro ⟨e, τ, G'⟩ ⟨rfl, h2⟩
      simp
      exact h2
  obtain ⟨⟨v, G'⟩, e1, rfl, e3⟩ := w
  exact ⟨G', f357 (exL_ok Q orc) _ G _ e1, e3⟩
theorem with_raw (orc : FuncId → Bool) (w f m n : Int) (G : GS) (hf : 0 ≤ f ∧ f < 64) : (E orc).cl 399 [.int .u64 w, .agg ⟨[.int .i64 f, .int .i64 m]⟩, .int .i64 n] G = some (.int .u64 (orI .u64 w (shlI .u64 (IntKind.wrap .u64 n) f)), G.push ⟨[.int .i64 f, .int .i64 m], 1, false, 1⟩) := by
  have h0 : ¬ f < 0 := by omega
  refine f399 (exL_ok Q orc) _ _ _ G _ ?_
  simp [s399, h0]
end Go.Proofs.YtdohlgkmaeipjaaGreat.Lift

set_option linter.unusedVariables false
set_option linter.unusedSimpArgs false
set_option maxRecDepth 20000
namespace Go.Proofs.YtdohlgkmaeipjaaGreat.Lift
open Go Go.Proofs.YtdohlgkmaeipjaaGreat.Gh Go.Proofs
/-- two numbers are laid into the fields of a table of two -/
theorem lay2_ok (orc : FuncId → Bool) {b c bz cz : Nat} {m1 m2 n1 n2 : Int} {G : GS} (ho : G.obj b = some ⟨[.int .i64 0, .int .i64 m1, .int .i64 16, .int .i64 m2], bz, false, 1⟩) (hc : G.obj c = some ⟨[.int .i64 n1, .int .i64 n2], cz, false, 1⟩) (hb : b < G.nx) (hcn : c < G.nx) :
    ∃ G', (E orc).cl 358 [.slice (some ⟨b, 0, none⟩) 2 2, .slice (some ⟨c, 0, none⟩) 2 2] G = some (.int .u64 (orI .u64 (orI .u64 0 (shlI .u64 (IntKind.wrap .u64 n1) 0)) (shlI .u64 (IntKind.wrap .u64 n2) 16)), G') ∧ Ext G G' := by
  have w1 : IntKind.wrap .i64 1 = 1 := by decide
  have w2 : IntKind.wrap .i64 2 = 2 := by decide
  have r0 := fun G => with_raw orc 0 0 m1 n1 G (by decide)
  have r1 := fun G => with_raw orc (orI .u64 0 (shlI .u64 (IntKind.wrap .u64 n1) 0)) 16 m2 n2 G (by decide)
  generalize hu : orI .u64 0 (shlI .u64 (IntKind.wrap .u64 n1) 0) = u at *
  generalize hv : orI .u64 u (shlI .u64 (IntKind.wrap .u64 n2) 16) = v at *
  have l2' : ∀ τ G, τ 1 = .slice (some ⟨c, 0, none⟩) 2 2 → τ 8 = .slice (some ⟨b, 0, none⟩) 2 2 → τ 9 = .int .i64 2 → τ 10 = .int .i64 2 → τ 5 = .int .u64 v → Wp ((exL Q orc).lpx 358 0 τ G) fun q => q.1 = .exit 0 ∧ q.2.1 5 = .int .u64 v ∧ q.2.2 = G := by
    intro τ G t1 t8 t9 t10 t5
    refine Wp.lp (l358_0 (exL_ok Q orc)) ?_
    simp [b358_0, clip_t, t1, t8, t9, t10, t5]
  have l1' : ∀ τ G, G.obj b = some ⟨[.int .i64 0, .int .i64 m1, .int .i64 16, .int .i64 m2], bz, false, 1⟩ → G.obj c = some ⟨[.int .i64 n1, .int .i64 n2], cz, false, 1⟩ → b < G.nx → c < G.nx → τ 1 = .slice (some ⟨c, 0, none⟩) 2 2 → τ 8 = .slice (some ⟨b, 0, none⟩) 2 2 → τ 9 = .int .i64 2 → τ 10 = .int .i64 1 → τ 5 = .int .u64 u → Wp ((exL Q orc).lpx 358 0 τ G) fun q => q.1 = .exit 0 ∧ q.2.1 5 = .int .u64 v ∧ Ext G q.2.2 := by
    intro τ G ho hc hb hcn t1 t8 t9 t10 t5
    have hne : ¬ c = G.nx := by omega
    refine Wp.lp (l358_0 (exL_ok Q orc)) ?_
    simp [b358_0, clip_t, t1, t8, t9, t10, t5, ho, hc, hne, splice_put, splice_end, r1]
    refine Wp.mono (l2' _ _ (by simp [clip_t]) (by simp [clip_t]) (by simp [clip_t]) (by simp [clip_t, w2]) (by simp [clip_t])) ?_
    rintro q ⟨h1, h2, h3⟩
    refine ⟨h1, h2, ?_⟩
    rw [h3]
    exact ((((Ext.refl G).push _).put (Nat.le_refl _) _).room _).push _
  have w : Wp (s358 true (exL Q orc) (.slice (some ⟨b, 0, none⟩) 2 2) (.slice (some ⟨c, 0, none⟩) 2 2) G) fun r => r.1 = .int .u64 v ∧ Ext G r.2 := by
    simp [s358]
    have hne : ¬ c = G.nx := by omega
    have hne' : ¬ b = G.nx := by omega
    have hne1 : ¬ c = G.nx + 1 := by omega
    have hne1' : ¬ b = G.nx + 1 := by omega
    refine Wp.bE ((Wp.lp (l358_0 (exL_ok Q orc)) (Q := fun q => q.1 = .exit 0 ∧ q.2.1 5 = .int .u64 v ∧ Ext G q.2.2) ?_).mono ?_)
    · simp [b358_0, clip_t, ho, hc, hne, splice_put, splice_end, r0]
      have x : Ext G ((((G.push ⟨z392, 1, false, 1⟩).put G.nx ⟨[.int .i64 0, .int .i64 m1], 1, false, 1⟩).room 8).push ⟨[.int .i64 0, .int .i64 m1], 1, false, 1⟩) := ((((Ext.refl G).push _).put (Nat.le_refl _) _).room _).push _
      refine Wp.mono (l1' _ _ ((x.obj b hb).trans ho) ((x.obj c hcn).trans hc) (Nat.lt_of_lt_of_le hb x.nx) (Nat.lt_of_lt_of_le hcn x.nx) (by simp [clip_t]) (by simp [clip_t]) (by simp [clip_t]) (by simp [clip_t, w1]) (by simp [clip_t])) ?_
      rintro q ⟨h1, h2, h3⟩
      exact ⟨h1, h2, x.trans h3⟩
    · rintro ⟨e, τ, G'⟩ ⟨rfl, h2, h3⟩
      simp only at h2 h3
      simp [h2]
      exact h3
  obtain ⟨⟨v, G'⟩, e1, rfl, e3⟩ := w
  exact ⟨G', f358 (exL_ok Q orc) _ _ G _ e1, e3⟩
/-- a word of an index and a number behind it -/
def wordT (i tag : Int) : Int := i + 1 + tag * 65536
theorem lay_val {i t : Int} (h0 : -1 ≤ i ∧ i ≤ 65534) (h1 : 0 ≤ t ∧ t < 281474976710656) : orI .u64 (orI .u64 0 (shlI .u64 (IntKind.wrap .u64 (i + 1)) 0)) (shlI .u64 (IntKind.wrap .u64 t) 16) = wordT i t := by
  have a : IntKind.wrap .u64 (i + 1) = i + 1 := by rw [wrap_u64]; omega
  have b : IntKind.wrap .u64 t = t := by rw [wrap_u64]; omega
  have c : shlI .u64 (i + 1) 0 = i + 1 := by
    show IntKind.wrap .u64 ((i + 1) * 2 ^ (min (0 : Int).toNat 64)) = _
    rw [show (min (0 : Int).toNat 64) = 0 from rfl, wrap_u64]; omega
  have d : shlI .u64 t 16 = t * 65536 := by
    show IntKind.wrap .u64 (t * 2 ^ (min (16 : Int).toNat 64)) = _
    rw [show (min (16 : Int).toNat 64) = 16 from rfl, wrap_u64, show (2 : Int) ^ 16 = 65536 from rfl]; omega
  have e : orI .u64 0 (i + 1) = i + 1 := by
    rw [or_u64 ⟨by decide, by decide⟩ ⟨by omega, by omega⟩]
    simp; omega
  rw [a, b, c, d, e]
  have hu1 : U (i + 1) := ⟨by omega, by omega⟩
  have hu2 : U (t * 65536) := ⟨by omega, by omega⟩
  have k := or_add 16 t.toNat hu2 hu1 (by omega) (by omega)
  rw [or_u64 hu1 hu2, Nat.or_comm, ← or_u64 hu2 hu1, k]
  unfold wordT; omega
theorem andNot_63 {w : Int} (h0 : 0 ≤ w) (h1 : w < 9223372036854775808) : andNotI .u64 w 9223372036854775808 = w := by
  obtain ⟨n, rfl⟩ := Int.eq_ofNat_of_zero_le h0
  show IntKind.wrap .u64 (((BitVec.ofInt 64 (n : Int) &&& ~~~ BitVec.ofInt 64 9223372036854775808).toNat : Nat) : Int) = _
  have e1 : BitVec.ofInt 64 (n : Int) = BitVec.ofNat 64 n := BitVec.ofInt_natCast ..
  have e2 : BitVec.ofInt 64 9223372036854775808 = BitVec.ofNat 64 9223372036854775808 := by decide
  have e3 : BitVec.ofNat 64 n &&& ~~~ BitVec.ofNat 64 9223372036854775808 = BitVec.ofNat 64 n := by
    have : (BitVec.ofNat 64 n).msb = false := by
      rw [BitVec.msb_eq_false_iff_two_mul_lt]; simp; omega
    have e4 : ~~~ BitVec.ofNat 64 9223372036854775808 = BitVec.ofNat 64 (2 ^ 63 - 1) := by decide
    rw [e4]
    apply BitVec.eq_of_toNat_eq
    simp only [BitVec.toNat_and, BitVec.toNat_ofNat]
    rw [Nat.mod_eq_of_lt (show n < 2 ^ 64 by omega), Nat.mod_eq_of_lt (show 2 ^ 63 - 1 < 2 ^ 64 by decide), Nat.and_two_pow_sub_one_eq_mod, Nat.mod_eq_of_lt (by omega)]
  rw [e1, e2, e3, wrap_u64]
  simp; omega
theorem marks_f (orc : FuncId → Bool) {w : Int} (h0 : 0 ≤ w) (h1 : w < 9223372036854775808) (G : GS) : (E orc).cl 194 [.int .u64 w, .bool false] G = some (.int .u64 w, G) := by
  refine f194 (exL_ok Q orc) _ _ G _ ?_
  simp [s194, andNot_63 h0 h1]
/-! ### A stack's words -/
/-- a word read as an index -/
def idxI (size w : Int) : Int := if size ≤ w % 65536 - 1 then -1 else w % 65536 - 1
/-- the word that is put in the top's place -/
theorem read_ok (orc : FuncId → Bool) (ht : orc 271 = false) {a b size w : Int} (h : U w) (G : GS) : ∃ G', (E orc).cl 356 [.agg ⟨[.int .i64 a, .int .i64 b, .int .i64 size]⟩, .int .u64 w] G = some (.int .i64 (idxI size w), G') ∧ Ext G G' := by
  have x1 : Ext G (G.push ⟨[.int .i64 a, .int .i64 b, .int .i64 size], 1, false, 1⟩) := (Ext.refl G).push _
  have o1 : (G.push ⟨[.int .i64 a, .int .i64 b, .int .i64 size], 1, false, 1⟩).obj G.nx = some ⟨[.int .i64 a, .int .i64 b, .int .i64 size], 1, false, 1⟩ := by simp
  have n1 : (G.push ⟨[.int .i64 a, .int .i64 b, .int .i64 size], 1, false, 1⟩).nx = G.nx + 1 := rfl
  have w : Wp (s356 true (exL Q orc) (.agg ⟨[.int .i64 a, .int .i64 b, .int .i64 size]⟩) (.int .u64 w) G) fun r => r.1 = .int .i64 (idxI size w) ∧ Ext G r.2 := by
    simp [s356]
    generalize hG1 : GS.push G _ = G1 at *
    obtain ⟨G2, e2, x2⟩ := gettop_ok orc ht h G1
    have n2 := x2.nx
    have o2 := (x2.obj G.nx (by omega)).trans o1
    have hne : ¬ G.nx = G2.nx := by omega
    have y : Ext G (((G2.push ⟨z274, 1, false, 1⟩).put G2.nx ⟨[.int .i64 (w % 65536 - 1), .int .i64 (w / 65536)], 1, false, 1⟩)) := ((x1.trans x2).push _).put (by omega) _
    unfold idxI
    by_cases hc : size ≤ w % 65536 - 1
    · simp [e2, o2, hne, hc, splice_put, splice_end]
      exact y
    · simp [e2, o2, hne, hc, splice_put, splice_end]
      exact y
  obtain ⟨⟨v, G'⟩, e1, rfl, e3⟩ := w
  exact ⟨G', f356 (exL_ok Q orc) _ _ G _ e1, e3⟩
end Go.Proofs.YtdohlgkmaeipjaaGreat.Lift

set_option linter.unusedVariables false
set_option linter.unusedSimpArgs false
set_option maxRecDepth 20000
namespace Go.Proofs.YtdohlgkmaeipjaaGreat.Lift
open Go Go.Proofs.YtdohlgkmaeipjaaGreat.Gh Go.Proofs
theorem w0 : IntKind.wrap .i64 0 = 0 := by decide
theorem w4 : IntKind.wrap .i64 4 = 4 := by decide
/-! ### Towers -/
structure TW where
  nodes : Int
  heads : Int
  height : Int
  top : Int
  links : Int
  size : Int
  u6 : Int
  u7 : Int
  u8 : Int
  u9 : Int
  u10 : Int
  u11 : Int
  u12 : Int
abbrev TW.cells (t : TW) : List Value := [.int .i64 t.nodes, .int .i64 t.heads, .int .i64 t.height, .int .i64 t.top, .int .i64 t.links, .int .i64 t.size, .int .i64 t.u6, .int .i64 t.u7, .int .i64 t.u8, .int .i64 t.u9, .int .i64 t.u10, .int .i64 t.u11, .int .i64 t.u12]
abbrev TW.v (t : TW) : Value := .agg ⟨t.cells⟩
def TW.sound (t : TW) : Prop := 1 ≤ t.height ∧ t.height ≤ 4 ∧ 1 ≤ t.size ∧ t.size ≤ 128 ∧ 0 ≤ t.nodes ∧ t.nodes < 4096 ∧ 0 ≤ t.heads ∧ t.heads < 4096
instance (t : TW) : Decidable t.sound := by unfold TW.sound; exact inferInstance
theorem box_ext {G G' : GS} {cs : List Value} (h : Ext (G.push ⟨cs, 1, false, 1⟩) G') : G'.obj G.nx = some ⟨cs, 1, false, 1⟩ := (h.obj G.nx (by simp)).trans (by simp)
theorem sound_ok (orc : FuncId → Bool) (t : TW) (G : GS) : ∃ G', (E orc).cl 102 [t.v] G = some (.bool (decide t.sound), G') ∧ Ext G G' := by
  refine ⟨G.push ⟨t.cells, 1, false, 1⟩, f102 (exL_ok Q orc) _ G _ ?_, (Ext.refl G).push _⟩
  unfold TW.sound
  by_cases h1 : 1 ≤ t.height
  · by_cases h2 : t.height ≤ 4
    · by_cases h3 : 1 ≤ t.size
      · by_cases h4 : t.size ≤ 128
        · by_cases h5 : 0 ≤ t.nodes
          · by_cases h6 : t.nodes < 4096
            · by_cases h7 : 0 ≤ t.heads
              · by_cases h8 : t.heads < 4096 <;> simp [s102, h1, h2, h3, h4, h5, h6, h7, h8]
              · simp [s102, h1, h2, h3, h4, h5, h6, h7]
            · simp [s102, h1, h2, h3, h4, h5, h6]
          · simp [s102, h1, h2, h3, h4, h5]
        · simp [s102, h1, h2, h3, h4]
      · simp [s102, h1, h2, h3]
    · simp [s102, h1, h2]
  · simp [s102, h1]
theorem rsound_ok (orc : FuncId → Bool) (t : TW) (G : GS) : ∃ G', (E orc).cl 18 [t.v] G = some (.bool (decide t.sound), G') ∧ Ext G G' := by
  refine ⟨G.push ⟨t.cells, 1, false, 1⟩, f18 (exL_ok Q orc) _ G _ ?_, (Ext.refl G).push _⟩
  unfold TW.sound
  by_cases h1 : 1 ≤ t.height
  · by_cases h2 : t.height ≤ 4
    · by_cases h3 : 1 ≤ t.size
      · by_cases h4 : t.size ≤ 128
        · by_cases h5 : 0 ≤ t.nodes
          · by_cases h6 : t.nodes < 4096
            · by_cases h7 : 0 ≤ t.heads
              · by_cases h8 : t.heads < 4096 <;> simp [s18, h1, h2, h3, h4, h5, h6, h7, h8]
              · simp [s18, h1, h2, h3, h4, h5, h6, h7]
            · simp [s18, h1, h2, h3, h4, h5, h6]
          · simp [s18, h1, h2, h3, h4, h5]
        · simp [s18, h1, h2, h3, h4]
      · simp [s18, h1, h2, h3]
    · simp [s18, h1, h2]
  · simp [s18, h1]
theorem inv_head (orc : FuncId → Bool) (h : Int) (G : GS) : cInvoke Q (evL Q orc) (.iface 190 (.int .i64 h)) "coxswain/tower.cells" [] G = some (.int .i64 h, G) := by
  have e : cInvoke Q (evL Q orc) (.iface 190 (.int .i64 h)) "coxswain/tower.cells" [] G = (E orc).cl 521 [.int .i64 h] G := by kernel_rfl
  rw [e]
  exact f521 (exL_ok Q orc) _ G _ (by simp [s521])
theorem heads_ok (orc : FuncId → Bool) (t : TW) (G : GS) : ∃ G', (E orc).cl 105 [t.v] G = some (.agg ⟨[.int .i64 t.heads, .int .i64 1, .int .i64 t.height]⟩, G') ∧ Ext G G' := by
  refine ⟨((G.push ⟨t.cells, 1, false, 1⟩).push ⟨[.int .i64 0, .int .i64 0, .int .i64 0], 1, false, 1⟩).put (G.nx + 1) ⟨[.int .i64 t.heads, .int .i64 1, .int .i64 t.height], 1, false, 1⟩, f105 (exL_ok Q orc) _ G _ ?_, (((Ext.refl G).push _).push _).put (by omega) _⟩
  simp [s105, splice_put, splice_end]
theorem hat_ok (orc : FuncId → Bool) {a n : Int} (ha : 0 ≤ a ∧ a < 4096) (hn : 1 ≤ n ∧ n ≤ 4) (G : GS) : ∃ G', (E orc).cl 274 [.agg ⟨[.int .i64 a, .int .i64 1, .int .i64 n]⟩, .int .i64 0, .int .i64 0] G = some (.int .i64 a, G') ∧ Ext G G' := by
  have h1 : ¬ n ≤ 0 := by omega
  have h2 : IntKind.wrap .i64 a = a := wrap64 (by omega) (by omega)
  have w : Wp (s274 true (exL Q orc) (.agg ⟨[.int .i64 a, .int .i64 1, .int .i64 n]⟩) (.int .i64 0) (.int .i64 0) G) fun r => r.1 = .int .i64 a ∧ Ext G r.2 := by
    simp [s274, inv_head orc, h1, h2, w0]
    exact ((Ext.refl G).push _).room 12
  obtain ⟨⟨v, G'⟩, e1, rfl, e3⟩ := w
  exact ⟨G', f274 (exL_ok Q orc) _ _ _ G _ e1, e3⟩
theorem at0_ok (orc : FuncId → Bool) (t : TW) (G : GS) : ∃ G', (E orc).cl 191 [t.v, .int .i64 (-1), .int .i64 4] G = some (.int .i64 (if t.sound then t.heads else -1), G') ∧ Ext G G' := by
  obtain ⟨G1, hG1⟩ : ∃ G1, G1 = G.push ⟨t.cells, 1, false, 1⟩ := ⟨_, rfl⟩
  have x1 : Ext G G1 := by rw [hG1]; exact (Ext.refl G).push _
  have n1 : G1.nx = G.nx + 1 := by rw [hG1]; rfl
  have o1 : G1.obj G.nx = some ⟨t.cells, 1, false, 1⟩ := by rw [hG1]; simp
  obtain ⟨G2, e2, x2⟩ := sound_ok orc t G1
  have o2 := (x2.obj G.nx (by omega)).trans o1
  by_cases hs : t.sound
  · simp only [hs, decide_true] at e2
    obtain ⟨G3, e3, x3⟩ := heads_ok orc t G2
    obtain ⟨G4, e4, x4⟩ := hat_ok orc (a := t.heads) (n := t.height) ⟨hs.2.2.2.2.2.2.1, hs.2.2.2.2.2.2.2⟩ ⟨hs.1, hs.2.1⟩ G3
    have h1 := hs.1
    have h2 := hs.2.1
    have hw : IntKind.wrap .i64 (4 + t.height) = 4 + t.height := wrap64 (by omega) (by omega)
    have h3 : ¬ 4 + t.height ≤ 4 := by omega
    refine ⟨G4, f191 (exL_ok Q orc) _ _ _ G _ ?_, ((x1.trans x2).trans x3).trans x4⟩
    simp [s191, ← hG1, o1, e2, o2, hw, h3, e3, e4, hs, w0]
  · simp only [hs, decide_false] at e2
    refine ⟨G2, f191 (exL_ok Q orc) _ _ _ G _ ?_, x1.trans x2⟩
    simp [s191, ← hG1, o1, e2, hs]
theorem next0_ok (orc : FuncId → Bool) (t : TW) (G : GS) : ∃ G', (E orc).cl 69 [t.v, .int .i64 (-1), .int .i64 0] G = some (.int .i64 (if t.sound then t.heads else -1), G') ∧ Ext G G' := by
  obtain ⟨G1, hG1⟩ : ∃ G1, G1 = G.push ⟨t.cells, 1, false, 1⟩ := ⟨_, rfl⟩
  have x1 : Ext G G1 := by rw [hG1]; exact (Ext.refl G).push _
  have o1 : G1.obj G.nx = some ⟨t.cells, 1, false, 1⟩ := by rw [hG1]; simp
  obtain ⟨G2, e2, x2⟩ := at0_ok orc t G1
  refine ⟨G2, f69 (exL_ok Q orc) _ _ _ G _ ?_, x1.trans x2⟩
  simp [s69, ← hG1, o1, e2, w4]
end Go.Proofs.YtdohlgkmaeipjaaGreat.Lift

set_option linter.unusedVariables false
set_option linter.unusedSimpArgs false
set_option maxRecDepth 20000
namespace Go.Proofs.YtdohlgkmaeipjaaGreat.Lift
open Go Go.Proofs.YtdohlgkmaeipjaaGreat.Gh Go.Proofs
/-! ### A ready queue's operations, when they are made -/
theorem inv_node (orc : FuncId → Bool) (h : Int) (hh : 1 ≤ h ∧ h ≤ 4) (G : GS) : cInvoke Q (evL Q orc) (.iface 185 (.int .i64 h)) "coxswain/tower.cells" [] G = some (.int .i64 (4 + h), G) := by
  have e : cInvoke Q (evL Q orc) (.iface 185 (.int .i64 h)) "coxswain/tower.cells" [] G = (E orc).cl 520 [.int .i64 h] G := by kernel_rfl
  rw [e]
  have w : IntKind.wrap .i64 (4 + h) = 4 + h := wrap64 (by omega) (by omega)
  exact f520 (exL_ok Q orc) _ G _ (by simp [s520, w])
theorem nodes_ok (orc : FuncId → Bool) (t : TW) (G : GS) : ∃ G', (E orc).cl 103 [t.v] G = some (.agg ⟨[.int .i64 t.nodes, .int .i64 t.size, .int .i64 t.height]⟩, G') ∧ Ext G G' := by
  have w : Wp (s103 true (exL Q orc) t.v G) fun q => q.1 = .agg ⟨[.int .i64 t.nodes, .int .i64 t.size, .int .i64 t.height]⟩ ∧ Ext G q.2 := by
    simp [s103, splice_put, splice_end, splice_succ]
    exact (((Ext.refl G).push _).push _).put (by simp) _
  obtain ⟨⟨v, G'⟩, e1, rfl, h⟩ := w
  exact ⟨G', f103 (exL_ok Q orc) _ G _ e1, h⟩
/-- why nothing may be done -/
abbrev nilS : Value := .slice none 0 0
/-! parts: each is a new block behind an interface -/
end Go.Proofs.YtdohlgkmaeipjaaGreat.Lift

