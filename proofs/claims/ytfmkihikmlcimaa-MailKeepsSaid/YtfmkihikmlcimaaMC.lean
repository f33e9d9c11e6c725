/- contracts of the program's functions -/
import Derived.Test.YtfmkihikmlcimaaMA
import Derived.Test.YtfmkihikmlcimaaGhPR
import Derived.Test.YtfmkihikmlcimaaGhPC
set_option linter.unusedVariables false
set_option linter.unusedSimpArgs false
set_option maxRecDepth 20000
namespace Go.Proofs.Ytfmkihikmlcimaa.Lift
open Go Go.Proofs.Ytfmkihikmlcimaa.Gh Go.Proofs
theorem same44_lp (orc : FuncId → Bool) (A B : List (Int)) (v0 v1 : Value) : ∀ (k i : Nat) (s : Bool) (τ : Env) (G : GS), i + k = A.length → τ 0 = v0 → τ 1 = v1 → τ 5 = .bool s → τ 6 = .int .i64 i →
    SlR (rowsI .u64) G v0 A → SlR (rowsI .u64) G v1 B → A.length < 2 ^ 47 → (s = true → A.length = B.length) →
    Wp ((exL Q orc).lpx 44 0 τ G) fun r => r.1 = .exit 0 ∧ Ext G r.2.2 ∧ r.2.1 5 = .bool (s && decide (A.drop i = B.drop i)) := by
  intro k
  induction k with
  | zero =>
    intro i s τ G hi h0 h1 h5 h6 hA hB hlt hs
    have hi' : i = A.length := by omega
    obtain ⟨a, c, rfl⟩ := hA.len
    refine Wp.lp (l44_0 (exL_ok Q orc)) ?_
    cases s with
    | false => simp [b44_0, clip_t, h0, h1, h5, h6, Ext.refl]
    | true =>
      have hd : A.drop i = B.drop i := by
        rw [hi', List.drop_length, List.drop_of_length_le (by rw [hs rfl]; omega)]
      simp [b44_0, clip_t, h0, h1, h5, h6, hd]
      simp [hi', Ext.refl, clip_t]
  | succ k ih =>
    intro i s τ G hi h0 h1 h5 h6 hA hB hlt hs
    refine Wp.lp (l44_0 (exL_ok Q orc)) ?_
    cases s with
    | false => simp [b44_0, clip_t, h0, h1, h5, h6, Ext.refl]
    | true =>
      have hl := hs rfl
      have hiA : i < A.length := by omega
      have hiB : i < B.length := by omega
      have he : Ext G (G.room 10) := (Ext.refl G).room 10
      obtain ⟨b, o, c, e0, _, q0, _⟩ := (hA.ext he).at hiA
      obtain ⟨b', o', c', e1, _, q1, _⟩ := (hB.ext he).at hiB
      have hc := q0 0 (by decide)
      have hc' := q1 0 (by decide)
      simp [rowsI] at hc hc'
      have hw : IntKind.wrap .i64 ((i : Int) + 1) = ((i + 1 : Nat) : Int) := wrap64 (by omega) (by omega)
      have hi0 : (0 : Int) ≤ i := by omega
      have hdr : decide (A.drop i = B.drop i) = (decide (A[i] = B[i]) && decide (A.drop (i + 1) = B.drop (i + 1))) := by
        rw [Bool.eq_iff_iff, List.drop_eq_getElem_cons hiA, List.drop_eq_getElem_cons hiB]
        simp only [decide_eq_true_eq, Bool.and_eq_true, List.cons.injEq]
      rw [hdr]
      simp [-Int.natCast_add, b44_0, clip_t, h0, h1, h5, h6, e0, e1, hc, hc', hw, hiA, hiB, hi0]
      refine (ih (i + 1) (decide (A[i] = B[i])) _ (G.room 10) (by omega) (by simp [clip_t, e0]) (by simp [clip_t, e1]) (by simp [clip_t]) (by simp [clip_t]) (hA.ext he) (hB.ext he) hlt (fun _ => hl)).mono ?_
      rintro r ⟨h1, h2, h3⟩
      exact ⟨h1, he.trans h2, h3⟩
theorem same44 (orc : FuncId → Bool) {A B : List (Int)} {v0 v1 : Value} {G : GS} (hA : SlR (rowsI .u64) G v0 A) (hB : SlR (rowsI .u64) G v1 B) (hlt : A.length < 2 ^ 47) :
    ∃ G', (E orc).cl 44 [v0, v1] G = some (.bool (decide (A = B)), G') ∧ Ext G G' := by
  obtain ⟨a, c, ha⟩ := hA.len
  obtain ⟨b, d, hb⟩ := hB.len
  have l0 : ∀ t, ln Q true t v0 = some (.int .i64 A.length) := fun t => by rw [ha]; simp
  have l1 : ∀ t, ln Q true t v1 = some (.int .i64 B.length) := fun t => by rw [hb]; simp
  have hd : (decide ((A.length : Int) = (B.length : Int)) && decide (A.drop 0 = B.drop 0)) = decide (A = B) := by
    by_cases h : A = B
    · simp [h]
    · simp [h]
  have w : Wp (s44 true (exL Q orc) v0 v1 G) fun r => r.1 = .bool (decide (A = B)) ∧ Ext G r.2 := by
    simp [s44, l0, l1]
    refine Wp.bE ((same44_lp orc A B v0 v1 A.length 0 (decide ((A.length : Int) = (B.length : Int))) _ G (by omega) rfl rfl (by simp) rfl hA hB hlt (fun h => by simp at h; omega)).mono ?_)
    rintro ⟨e, τ, G'⟩ ⟨rfl, x, y⟩
    rw [hd] at y
    simp only at x y
    simp [y, x]
  obtain ⟨⟨v, G'⟩, e1, rfl, e3⟩ := w
  exact ⟨G', f44 (exL_ok Q orc) _ _ G _ e1, e3⟩
end Go.Proofs.Ytfmkihikmlcimaa.Lift

set_option linter.unusedVariables false
set_option linter.unusedSimpArgs false
set_option maxRecDepth 20000
namespace Go.Proofs.Ytfmkihikmlcimaa.Lift
open Go Go.Proofs.Ytfmkihikmlcimaa.Gh Go.Proofs
structure St2 (own : Nat → Nat) (G : GS) (m r : Nat) (s s' : MS) : Prop where
  hm : PMx (Tag own G 10) G m s
  hr : RMx (Tag own G 11) G r s'
section
variable {own own' : Nat → Nat} {G G' G0 : GS} {m r b c : Nat} {s s' s1 : MS} {ts : List Nat}
theorem St2.to (h : St2 own G m r s s') (q : ModT ts own G G') (h1 : 10 ∉ ts) (h2 : 11 ∉ ts) (a : Agr own own' G) : St2 own' G' m r s s' :=
  ⟨(sepP m s).tag h.hm q h1 a, (sepR r s').tag h.hr q h2 a⟩
theorem St2.ext (h : St2 own G m r s s') (x : Ext G G') : St2 (grown own G 13) G' m r s s' := h.to (ts := []) (ModT.ext x) (by simp) (by simp) grown_agr
theorem Thr.tag {P : (Nat → Prop) → GS → Prop} {t : Nat} (h : Thr P (Tag own G t) b G G') (hb : own b = c) : ModT [t, c] own G G' :=
  ⟨h.mod.nx, fun g hg hn => h.mod.obj g hg fun k => hn (k.elim (fun k => by rw [k.2]; simp) fun k => by rw [k, hb]; simp), h.mod.nl, h.mod.loop⟩
theorem St2.p (h : St2 own G m r s s') (th : Thr (fun A G => PMx A G m s1) (Tag own G 10) b G G') (hb : own b = c) (hc : c ≠ 11) : St2 (grown own G 10) G' m r s1 s' :=
  ⟨(sepP m s1).step th.mod.nx th.st, (sepR r s').tag h.hr (Thr.tag th hb) (by simp; omega) grown_agr⟩
theorem St2.q (h : St2 own G m r s s') (th : Thr (fun A G => RMx A G r s1) (Tag own G 11) b G G') (hb : own b = c) (hc : c ≠ 10) : St2 (grown own G 11) G' m r s s1 :=
  ⟨(sepP m s).tag h.hm (Thr.tag th hb) (by simp; omega) grown_agr, (sepR r s1).step th.mod.nx th.st⟩
theorem accEq (a0 a1 a2 a3 b0 b1 b2 b3 : Int) (a4 b4 : Bool) : prun Q (Op.equalIn 10000 79 (.agg ⟨[.int .i64 a0, .int .i64 a1, .int .u64 a2, .int .u64 a3, .bool a4]⟩) (.agg ⟨[.int .i64 b0, .int .i64 b1, .int .u64 b2, .int .u64 b3, .bool b4]⟩)) = some (a0 == b0 && (a1 == b1 && (a2 == b2 && (a3 == b3 && (a4 == b4 && true))))) :=
  eqS (d := 9999) (L := [(3, 0), (3, 1), (28, 2), (28, 3), (4, 4)]) (by kernel_rfl) (by kernel_rfl) (eqL_cons (a := .int .i64 a0) (b := .int .i64 b0) (by kernel_rfl) (by kernel_rfl) (by kernel_rfl) (eqL_cons (a := .int .i64 a1) (b := .int .i64 b1) (by kernel_rfl) (by kernel_rfl) (by kernel_rfl) (eqL_cons (a := .int .u64 a2) (b := .int .u64 b2) (by kernel_rfl) (by kernel_rfl) (by kernel_rfl) (eqL_cons (a := .int .u64 a3) (b := .int .u64 b3) (by kernel_rfl) (by kernel_rfl) (by kernel_rfl) (eqL_cons (a := .bool a4) (b := .bool b4) (by kernel_rfl) (by kernel_rfl) (by kernel_rfl) rfl)))))
theorem acc_neq (x y : Operand) (s : MS) : gBinF Q .neq 79 x y (.agg ⟨accV s⟩) (.agg ⟨accV s⟩) = some (.bool false) := by
  rw [neq_aggF (op := .neq) (by kernel_rfl) (by kernel_rfl) (by kernel_rfl) (accEq _ _ _ _ _ _ _ _ _ _)]
  simp
def putsN : List Int → Nat → MS → MS
  | [], _, s => s
  | w :: l, i, s => putsN l (i + 1) (s.store i w)
theorem putsN_ok : ∀ (l : List Int) (i : Nat) {s : MS}, (∀ w ∈ l, U w) → s.ok → (putsN l i s).ok
  | [], _, s, _, h => h
  | w :: l, i, s, hw, h => putsN_ok l (i + 1) (fun x hx => hw x (by simp [hx])) (h.store _ (hw w (by simp)))
theorem zero_ok {n : Nat} (h : n ≤ 4096) : (MS.zero n).ok := ⟨fun w hw => by
  have : w = 0 := by simpa [MS.zero] using List.eq_of_mem_replicate hw
  rw [this]; exact U_zero', by simpa [MS.zero] using h⟩
theorem St2.p' (h : St2 own G m r s s') (q : ModP (Tag own G 10) G G') (k : PMx (Grow (Tag own G 10) G G') G' m s1) : St2 (grown own G 10) G' m r s1 s' ∧ ModT [10] own G G' :=
  have m1 : ModT [10] own G G' := ModT.of q (by simp)
  ⟨⟨(sepP m s1).step q.nx k, (sepR r s').tag h.hr m1 (by simp) grown_agr⟩, m1⟩
theorem St2.q' (h : St2 own G m r s s') (q : ModP (Tag own G 11) G G') (k : RMx (Grow (Tag own G 11) G G') G' r s1) : St2 (grown own G 11) G' m r s s1 ∧ ModT [11] own G G' :=
  have m1 : ModT [11] own G G' := ModT.of q (by simp)
  ⟨⟨(sepP m s).tag h.hm m1 (by simp) grown_agr, (sepR r s1).step q.nx k⟩, m1⟩
theorem pick_ok (orc : FuncId → Bool) (x n : Int) (hn : 0 < n) (hn2 : n < 2 ^ 40) (G : GS) : (E orc).cl 7 [.int .i64 x, .int .i64 n] G = some (.int .i64 (x % n), G) := by
  refine f7 (exL_ok Q orc) _ _ G _ ?_
  have h1 := Int.emod_nonneg x (show n ≠ 0 by omega)
  have h2 := Int.emod_lt_of_pos x hn
  have ht := @Int.tmod_eq_emod x n
  have hn0 : ¬ n ≤ 0 := by omega
  have hn1 : ¬ n = 0 := by omega
  have hw : IntKind.wrap .i64 (x % n) = x % n := wrap64 (by omega) (by omega)
  by_cases hx : x.tmod n < 0
  · have e : x.tmod n + n = x % n := by split at ht <;> omega
    simp [s7, clip_t, hx, e, hw, hn0, hn1]
  · have e : x.tmod n = x % n := by split at ht <;> omega
    have hx' : ¬ x % n < 0 := by omega
    simp [s7, clip_t, e, hx', hn0, hn1]
end
end Go.Proofs.Ytfmkihikmlcimaa.Lift

set_option linter.unusedVariables false
set_option linter.unusedSimpArgs false
set_option maxRecDepth 20000
namespace Go.Proofs.Ytfmkihikmlcimaa.Lift
open Go Go.Proofs.Ytfmkihikmlcimaa.Gh Go.Proofs
theorem same14_lp (orc : FuncId → Bool) (A B : List (Int)) (v0 v1 : Value) : ∀ (k i : Nat) (s : Bool) (τ : Env) (G : GS), i + k = A.length → τ 0 = v0 → τ 1 = v1 → τ 5 = .bool s → τ 6 = .int .i64 i →
    SlR (rowsI .i64) G v0 A → SlR (rowsI .i64) G v1 B → A.length < 2 ^ 47 → (s = true → A.length = B.length) →
    Wp ((exL Q orc).lpx 14 0 τ G) fun r => r.1 = .exit 0 ∧ Ext G r.2.2 ∧ r.2.1 5 = .bool (s && decide (A.drop i = B.drop i)) := by
  intro k
  induction k with
  | zero =>
    intro i s τ G hi h0 h1 h5 h6 hA hB hlt hs
    have hi' : i = A.length := by omega
    obtain ⟨a, c, rfl⟩ := hA.len
    refine Wp.lp (l14_0 (exL_ok Q orc)) ?_
    cases s with
    | false => simp [b14_0, clip_t, h0, h1, h5, h6, Ext.refl]
    | true =>
      have hd : A.drop i = B.drop i := by
        rw [hi', List.drop_length, List.drop_of_length_le (by rw [hs rfl]; omega)]
      simp [b14_0, clip_t, h0, h1, h5, h6, hd]
      simp [hi', Ext.refl, clip_t]
  | succ k ih =>
    intro i s τ G hi h0 h1 h5 h6 hA hB hlt hs
    refine Wp.lp (l14_0 (exL_ok Q orc)) ?_
    cases s with
    | false => simp [b14_0, clip_t, h0, h1, h5, h6, Ext.refl]
    | true =>
      have hl := hs rfl
      have hiA : i < A.length := by omega
      have hiB : i < B.length := by omega
      have he : Ext G (G.room 10) := (Ext.refl G).room 10
      obtain ⟨b, o, c, e0, _, q0, _⟩ := (hA.ext he).at hiA
      obtain ⟨b', o', c', e1, _, q1, _⟩ := (hB.ext he).at hiB
      have hc := q0 0 (by decide)
      have hc' := q1 0 (by decide)
      simp [rowsI] at hc hc'
      have hw : IntKind.wrap .i64 ((i : Int) + 1) = ((i + 1 : Nat) : Int) := wrap64 (by omega) (by omega)
      have hi0 : (0 : Int) ≤ i := by omega
      have hdr : decide (A.drop i = B.drop i) = (decide (A[i] = B[i]) && decide (A.drop (i + 1) = B.drop (i + 1))) := by
        rw [Bool.eq_iff_iff, List.drop_eq_getElem_cons hiA, List.drop_eq_getElem_cons hiB]
        simp only [decide_eq_true_eq, Bool.and_eq_true, List.cons.injEq]
      rw [hdr]
      simp [-Int.natCast_add, b14_0, clip_t, h0, h1, h5, h6, e0, e1, hc, hc', hw, hiA, hiB, hi0]
      refine (ih (i + 1) (decide (A[i] = B[i])) _ (G.room 10) (by omega) (by simp [clip_t, e0]) (by simp [clip_t, e1]) (by simp [clip_t]) (by simp [clip_t]) (hA.ext he) (hB.ext he) hlt (fun _ => hl)).mono ?_
      rintro r ⟨h1, h2, h3⟩
      exact ⟨h1, he.trans h2, h3⟩
theorem same14 (orc : FuncId → Bool) {A B : List (Int)} {v0 v1 : Value} {G : GS} (hA : SlR (rowsI .i64) G v0 A) (hB : SlR (rowsI .i64) G v1 B) (hlt : A.length < 2 ^ 47) :
    ∃ G', (E orc).cl 14 [v0, v1] G = some (.bool (decide (A = B)), G') ∧ Ext G G' := by
  obtain ⟨a, c, ha⟩ := hA.len
  obtain ⟨b, d, hb⟩ := hB.len
  have l0 : ∀ t, ln Q true t v0 = some (.int .i64 A.length) := fun t => by rw [ha]; simp
  have l1 : ∀ t, ln Q true t v1 = some (.int .i64 B.length) := fun t => by rw [hb]; simp
  have hd : (decide ((A.length : Int) = (B.length : Int)) && decide (A.drop 0 = B.drop 0)) = decide (A = B) := by
    by_cases h : A = B
    · simp [h]
    · simp [h]
  have w : Wp (s14 true (exL Q orc) v0 v1 G) fun r => r.1 = .bool (decide (A = B)) ∧ Ext G r.2 := by
    simp [s14, l0, l1]
    refine Wp.bE ((same14_lp orc A B v0 v1 A.length 0 (decide ((A.length : Int) = (B.length : Int))) _ G (by omega) rfl rfl (by simp) rfl hA hB hlt (fun h => by simp at h; omega)).mono ?_)
    rintro ⟨e, τ, G'⟩ ⟨rfl, x, y⟩
    rw [hd] at y
    simp only at x y
    simp [y, x]
  obtain ⟨⟨v, G'⟩, e1, rfl, e3⟩ := w
  exact ⟨G', f14 (exL_ok Q orc) _ _ G _ e1, e3⟩
end Go.Proofs.Ytfmkihikmlcimaa.Lift

set_option linter.unusedVariables false
set_option linter.unusedSimpArgs false
set_option maxRecDepth 20000
namespace Go.Proofs.Ytfmkihikmlcimaa.Lift
open Go Go.Proofs.Ytfmkihikmlcimaa.Gh Go.Proofs
/-! ### What is done: to the memory of a tag, to blocks of an operation's own -/
structure Stp (t : Nat) (B : Nat → Prop) (own : Nat → Nat) (G : GS) (own' : Nat → Nat) (G' : GS) : Prop where
  agr : Agr own own' G
  mod : ModP (fun x => own x = t ∨ B x) G G'
abbrev no : Nat → Prop := fun _ => False
section
variable {t m r b : Nat} {B B' : Nat → Prop} {own own1 own2 : Nat → Nat} {G G1 G2 : GS} {s s' : MS}
theorem Stp.nx (h : Stp t B own G own1 G1) : G.nx ≤ G1.nx := h.mod.nx
theorem Stp.refl (t : Nat) (B : Nat → Prop) (own : Nat → Nat) (G : GS) : Stp t B own G own G := ⟨Agr.refl _ _, ModP.refl _ _⟩
theorem Stp.keep (h : Stp t B own G own1 G1) {g : Nat} (hg : g < G.nx) (ht : own g ≠ t) (hB : ¬ B g) : G1.obj g = G.obj g := h.mod.obj g hg fun k => k.elim ht hB
theorem Stp.same (h : Stp t B own G own1 G1) {g : Nat} (hg : g < G.nx) : own1 g = own g := h.agr g hg
theorem Stp.trans (h : Stp t B own G own1 G1) (k : Stp t B' own1 G1 own2 G2) (hs : ∀ x, x < G.nx → B' x → B x) : Stp t B own G own2 G2 :=
  ⟨h.agr.trans k.agr h.nx, ⟨Nat.le_trans h.nx k.nx, fun g hg hn => (k.mod.obj g (Nat.lt_of_lt_of_le hg h.nx) fun q => hn (q.elim (fun q => .inl ((h.agr g hg).symm.trans q)) fun q => .inr (hs g hg q))).trans (h.mod.obj g hg hn), Nat.le_trans h.mod.nl k.mod.nl, fun l hl => (k.mod.loop l (Nat.lt_of_lt_of_le hl h.mod.nl)).trans (h.mod.loop l hl)⟩⟩
theorem Stp.mono (h : Stp t B own G own1 G1) (hs : ∀ x, x < G.nx → B x → B' x) : Stp t B' own G own1 G1 := (Stp.refl t B' own G).trans h hs
theorem Stp.ext (x : Ext G G1) : Stp t B own G (grown own G 13) G1 := ⟨grown_agr, x.modP _⟩
theorem Stp.extA (x : Ext G G1) (a : Agr own own1 G) : Stp t B own G own1 G1 := ⟨a, x.modP _⟩
theorem Stp.put (h : Stp t B own G own1 G1) (hb : B b ∨ G.nx ≤ b) (o : GObj) : Stp t B own G own1 (G1.put b o) :=
  ⟨h.agr, h.mod.put (hb.imp .inr id) o⟩
theorem Stp.toExt (h : Stp t B own G own1 G1) {A : GS} (x : Ext A G) (hn : ∀ g, g < A.nx → own g ≠ t ∧ ¬ B g) : Ext A G1 :=
  ⟨Nat.le_trans x.nx h.nx, fun g hg => (h.keep (Nat.lt_of_lt_of_le hg x.nx) (hn g hg).1 (hn g hg).2).trans (x.obj g hg), Nat.le_trans x.nl h.mod.nl, fun l hl => (h.mod.loop l (Nat.lt_of_lt_of_le hl x.nl)).trans (x.loop l hl)⟩
/-- the two memories -/
def PM (own : Nat → Nat) (G : GS) (m : Nat) (s : MS) : Prop := PMx (Tag own G 10) G m s
def RM (own : Nat → Nat) (G : GS) (r : Nat) (s : MS) : Prop := RMx (Tag own G 11) G r s
theorem PM.to (h : PM own G m s) (k : Stp t B own G own1 G1) (ht : t ≠ 10) (hB : ∀ x, x < G.nx → B x → own x ≠ 10) : PM own1 G1 m s :=
  (sepP m s).mono ((sepP m s).kept h k.nx fun g hg => k.keep hg.1 (by rw [hg.2]; exact ht.symm) fun q => hB g hg.1 q hg.2) (Tag.le k.agr k.nx) Tag.under
theorem RM.to (h : RM own G r s) (k : Stp t B own G own1 G1) (ht : t ≠ 11) (hB : ∀ x, x < G.nx → B x → own x ≠ 11) : RM own1 G1 r s :=
  (sepR r s).mono ((sepR r s).kept h k.nx fun g hg => k.keep hg.1 (by rw [hg.2]; exact ht.symm) fun q => hB g hg.1 q hg.2) (Tag.le k.agr k.nx) Tag.under
theorem PM.ext (h : PM own G m s) (x : Ext G G1) : PM (grown own G 13) G1 m s := h.to (t := 11) (B := no) (Stp.ext x) (by decide) fun _ _ h => h.elim
theorem RM.ext (h : RM own G r s) (x : Ext G G1) : RM (grown own G 13) G1 r s := h.to (t := 10) (B := no) (Stp.ext x) (by decide) fun _ _ h => h.elim
theorem PM.put (h : PM own G m s) (hb : b < G.nx → own b ≠ 10) (o : GObj) : PM own (G.put b o) m s := by
  by_cases hl : b < G.nx
  · exact h.to (t := 11) (B := fun x => x = b) ((Stp.refl _ (fun x => x = b) _ _).put (.inl rfl) o) (by decide) fun x _ (e : x = b) => by rw [e]; exact hb hl
  · exact h.to (t := 11) (B := no) ((Stp.refl _ _ _ _).put (.inr (by omega)) o) (by decide) fun _ _ h => h.elim
theorem RM.put (h : RM own G r s) (hb : b < G.nx → own b ≠ 11) (o : GObj) : RM own (G.put b o) r s := by
  by_cases hl : b < G.nx
  · exact h.to (t := 10) (B := fun x => x = b) ((Stp.refl _ (fun x => x = b) _ _).put (.inl rfl) o) (by decide) fun x _ (e : x = b) => by rw [e]; exact hb hl
  · exact h.to (t := 10) (B := no) ((Stp.refl _ _ _ _).put (.inr (by omega)) o) (by decide) fun _ _ h => h.elim
/-- a block comes to another part -/
theorem PM.retag (h : PM own G m s) (a : ∀ x, x < G.nx → own x = 10 → own1 x = 10) : PM own1 G m s :=
  (sepP m s).mono h (fun x hx => ⟨hx.1, a x hx.1 hx.2⟩) Tag.under
theorem RM.retag (h : RM own G r s) (a : ∀ x, x < G.nx → own x = 11 → own1 x = 11) : RM own1 G r s :=
  (sepR r s).mono h (fun x hx => ⟨hx.1, a x hx.1 hx.2⟩) Tag.under
/-- what was done, and the program's memory behind it -/
structure PW (B : Nat → Prop) (own : Nat → Nat) (G : GS) (own1 : Nat → Nat) (G1 : GS) (m : Nat) (s : MS) : Prop where
  stp : Stp 10 B own G own1 G1
  pm : PM own1 G1 m s
structure RW (B : Nat → Prop) (own : Nat → Nat) (G : GS) (own1 : Nat → Nat) (G1 : GS) (r : Nat) (s : MS) : Prop where
  stp : Stp 11 B own G own1 G1
  rm : RM own1 G1 r s
theorem PW.refl (h : PM own G m s) : PW B own G own G m s := ⟨Stp.refl _ _ _ _, h⟩
theorem RW.refl (h : RM own G r s) : RW B own G own G r s := ⟨Stp.refl _ _ _ _, h⟩
theorem PW.nx (w : PW B own G own1 G1 m s) : G.nx ≤ G1.nx := w.stp.nx
theorem RW.nx (w : RW B own G own1 G1 r s) : G.nx ≤ G1.nx := w.stp.nx
theorem PW.ext (w : PW B own G own1 G1 m s) (x : Ext G1 G2) : PW B own G (grown own1 G1 13) G2 m s := ⟨w.stp.trans (B' := no) (Stp.ext x) fun _ _ h => h.elim, w.pm.ext x⟩
theorem RW.ext (w : RW B own G own1 G1 r s) (x : Ext G1 G2) : RW B own G (grown own1 G1 13) G2 r s := ⟨w.stp.trans (B' := no) (Stp.ext x) fun _ _ h => h.elim, w.rm.ext x⟩
theorem PW.put (w : PW B own G own1 G1 m s) (hb : B b ∨ G.nx ≤ b) (h10 : b < G1.nx → own1 b ≠ 10) (o : GObj) : PW B own G own1 (G1.put b o) m s := ⟨w.stp.put hb o, w.pm.put h10 o⟩
theorem RW.put (w : RW B own G own1 G1 r s) (hb : B b ∨ G.nx ≤ b) (h10 : b < G1.nx → own1 b ≠ 11) (o : GObj) : RW B own G own1 (G1.put b o) r s := ⟨w.stp.put hb o, w.rm.put h10 o⟩
/-- a block of its own is written -/
theorem PW.putB (w : PW B own G own1 G1 m s) (hB : B b) (hb : b < G.nx) (h10 : own b ≠ 10) (o : GObj) : PW B own G own1 (G1.put b o) m s := w.put (.inl hB) (fun _ => by rw [w.stp.same hb]; exact h10) o
theorem RW.putB (w : RW B own G own1 G1 r s) (hB : B b) (hb : b < G.nx) (h10 : own b ≠ 11) (o : GObj) : RW B own G own1 (G1.put b o) r s := w.put (.inl hB) (fun _ => by rw [w.stp.same hb]; exact h10) o
theorem PW.trans (w : PW B own G own1 G1 m s) (k : PW B' own1 G1 own2 G2 m s') (hs : ∀ x, x < G.nx → B' x → B x) : PW B own G own2 G2 m s' := ⟨w.stp.trans k.stp hs, k.pm⟩
theorem RW.trans (w : RW B own G own1 G1 r s) (k : RW B' own1 G1 own2 G2 r s') (hs : ∀ x, x < G.nx → B' x → B x) : RW B own G own2 G2 r s' := ⟨w.stp.trans k.stp hs, k.rm⟩
theorem PW.mono (w : PW B own G own1 G1 m s) (hs : ∀ x, x < G.nx → B x → B' x) : PW B' own G own1 G1 m s := ⟨w.stp.mono hs, w.pm⟩
theorem RW.mono (w : RW B own G own1 G1 r s) (hs : ∀ x, x < G.nx → B x → B' x) : RW B' own G own1 G1 r s := ⟨w.stp.mono hs, w.rm⟩
theorem PW.keep (w : PW B own G own1 G1 m s) {g : Nat} (hg : g < G.nx) (ht : own g ≠ 10) (hB : ¬ B g) : G1.obj g = G.obj g := w.stp.keep hg ht hB
theorem RW.keep (w : RW B own G own1 G1 r s) {g : Nat} (hg : g < G.nx) (ht : own g ≠ 11) (hB : ¬ B g) : G1.obj g = G.obj g := w.stp.keep hg ht hB
theorem pw_of (h : PM own G m s) {s1 : MS} (q : ModP (Tag own G 10) G G1) (k : PMx (Grow (Tag own G 10) G G1) G1 m s1) : PW no own G (grown own G 10) G1 m s1 :=
  ⟨⟨grown_agr, q.mono fun x hx => .inl hx.2⟩, (sepP m s1).step q.nx k⟩
theorem rw_of (h : RM own G r s) {s1 : MS} (q : ModP (Tag own G 11) G G1) (k : RMx (Grow (Tag own G 11) G G1) G1 r s1) : RW no own G (grown own G 11) G1 r s1 :=
  ⟨⟨grown_agr, q.mono fun x hx => .inl hx.2⟩, (sepR r s1).step q.nx k⟩
/-! accesses -/
theorem PM.load (orc : FuncId → Bool) (h : PM own G m s) (a : Int) : ∃ own1 G1, (E orc).cl 52 [P0 m, .int .i64 a] G = some (.int .u64 (s.load a).new, G1) ∧ PW no own G own1 G1 m (s.load a) := by
  obtain ⟨bb, rest, hm⟩ := h
  obtain ⟨⟨x, G1⟩, e, rfl, q2, q3⟩ := load_ok orc hm a
  exact ⟨_, G1, e, pw_of ⟨bb, rest, hm⟩ q2 q3⟩
theorem PM.store (orc : FuncId → Bool) (h : PM own G m s) (a v : Int) : ∃ own1 G1, (E orc).cl 57 [P0 m, .int .i64 a, .int .u64 v] G = some (.tuple #[], G1) ∧ PW no own G own1 G1 m (s.store a v) := by
  obtain ⟨bb, rest, hm⟩ := h
  obtain ⟨⟨x, G1⟩, e, rfl, q2, q3⟩ := store_ok orc hm a v
  exact ⟨_, G1, e, pw_of ⟨bb, rest, hm⟩ q2 q3⟩
theorem PM.cas (orc : FuncId → Bool) (h : PM own G m s) (a v w : Int) : ∃ own1 G1, (E orc).cl 148 [P0 m, .int .i64 a, .int .u64 v, .int .u64 w] G = some (.bool (s.cas a v w).held, G1) ∧ PW no own G own1 G1 m (s.cas a v w) := by
  obtain ⟨bb, rest, hm⟩ := h
  obtain ⟨⟨x, G1⟩, e, rfl, q2, q3⟩ := cas_ok orc hm a v w
  exact ⟨_, G1, e, pw_of ⟨bb, rest, hm⟩ q2 q3⟩
end
end Go.Proofs.Ytfmkihikmlcimaa.Lift

set_option linter.unusedVariables false
set_option linter.unusedSimpArgs false
set_option maxRecDepth 20000
namespace Go.Proofs.Ytfmkihikmlcimaa.Lift
open Go Go.Proofs.Ytfmkihikmlcimaa.Gh Go.Proofs
/-! ### An addition that is an access -/
section
variable {A : Nat → Prop} {m r bb wb : Nat} {rest : List Int} {own : Nat → Nat} {G : GS} {s : MS}
end
end Go.Proofs.Ytfmkihikmlcimaa.Lift

set_option linter.unusedVariables false
set_option linter.unusedSimpArgs false
set_option maxRecDepth 20000
namespace Go.Proofs.Ytfmkihikmlcimaa.Lift
open Go Go.Proofs.Ytfmkihikmlcimaa.Gh Go.Proofs
/-! ### A row of operations over two memories: what a law's loop keeps -/
structure Ops (X : Type) where
  e : RowE X
  ok : (Nat → Nat) → GS → Nat → X → Prop
  to : ∀ {own own' : Nat → Nat} {G G' : GS} {i : Nat} {x : X}, ok own G i x → G.nx ≤ G'.nx → (∀ g, g < G.nx → own g = i → G'.obj g = G.obj g) → Agr own own' G → ok own' G' i x
structure RI {X : Type} (O : Ops X) (n : Nat) (own : Nat → Nat) (G : GS) (m r cb : Nat) (s : MS) (L : List X) : Prop where
  pm : PM own G m s
  rm : RM own G r s
  ok : s.ok
  tc : own cb = 12
  lc : cb < G.nx
  oc : G.obj cb = some ⟨O.e.flat L, O.e.sz, false, 1⟩
  len : L.length = n
  n9 : n ≤ 9
  core : ∀ i x, L[i]? = some x → O.ok own G i x
section
variable {X : Type} {O : Ops X} {n m r b cb t i : Nat} {B : Nat → Prop} {own own' : Nat → Nat} {G G' G1 : GS} {s s' : MS} {L : List X} {ts : List Nat} {x y : X}
theorem PM.modT (h : PM own G m s) (q : ModT ts own G G') (h1 : 10 ∉ ts) (a : Agr own own' G) : PM own' G' m s := (sepP m s).tag h q h1 a
theorem RM.modT (h : RM own G r s) (q : ModT ts own G G') (h1 : 11 ∉ ts) (a : Agr own own' G) : RM own' G' r s := (sepR r s).tag h q h1 a
theorem Stp.modT (h : Stp t B own G own' G') (hB : ∀ x, x < G.nx → B x → own x = i) : ModT [t, i] own G G' :=
  ⟨h.mod.nx, fun g hg hn => h.mod.obj g hg fun k => hn (k.elim (fun k => by simp [k]) fun k => by simp [hB g hg k]), h.mod.nl, h.mod.loop⟩
theorem RI.lt (h : RI O n own G m r cb s L) (hx : L[i]? = some x) : i < n := by have := (List.getElem?_eq_some_iff.1 hx).1; rw [h.len] at this; exact this
theorem RI.to (h : RI O n own G m r cb s L) (q : ModT [13] own G G') (a : Agr own own' G) : RI O n own' G' m r cb s L :=
  ⟨h.pm.modT q (by simp) a, h.rm.modT q (by simp) a, h.ok, (a _ h.lc).trans h.tc, Nat.lt_of_lt_of_le h.lc q.nx, (q.same h.lc (by rw [h.tc]; simp)).trans h.oc, h.len, h.n9,
   fun i x hx => O.to (h.core i x hx) q.nx (fun g hg hi => q.same hg (by have := h.lt hx; have := h.n9; rw [hi]; simp; omega)) a⟩
theorem RI.ext (h : RI O n own G m r cb s L) (x : Ext G G') : RI O n (grown own G 13) G' m r cb s L := h.to (ModT.ext x) grown_agr
theorem RI.room (h : RI O n own G m r cb s L) (k : Nat) : RI O n (grown own G 13) (G.room k) m r cb s L := h.ext ((Ext.refl G).room k)
/-- an operation begins -/
theorem RI.begin (h : RI O n own G m r cb s L) (x : Ext G G') (hi : i < n) (hy : O.ok (grown own G i) (G'.put cb ⟨O.e.flat (L.set i y), O.e.sz, false, 1⟩) i y) :
    RI O n (grown own G i) (G'.put cb ⟨O.e.flat (L.set i y), O.e.sz, false, 1⟩) m r cb s (L.set i y) := by
  have lc := h.lc
  have m1 : ModT [12] own G (G'.put cb ⟨O.e.flat (L.set i y), O.e.sz, false, 1⟩) := (ModT.ext x).put (.inl (by rw [h.tc]; simp)) _
  have a : Agr own (grown own G i) G := grown_agr
  refine ⟨h.pm.modT m1 (by simp) a, h.rm.modT m1 (by simp) a, h.ok, (a _ lc).trans h.tc, Nat.lt_of_lt_of_le lc x.nx, by simp, by simpa using h.len, h.n9, fun j z hz => ?_⟩
  rw [List.getElem?_set] at hz
  split at hz
  · rename_i hji
    subst hji
    rw [if_pos (by rw [h.len]; exact hi)] at hz
    cases hz
    exact hy
  · exact O.to (h.core j z hz) m1.nx (fun g hg hj => m1.same hg (by have := h.lt hz; have := h.n9; rw [hj]; simp; omega)) a
/-- an operation has made a step -/
theorem RI.told (h : RI O n own G m r cb s L) (hx : L[i]? = some x) (q : ModT [10, 11, i] own G G') (a : Agr own own' G) (p1 : PM own' G' m s') (p2 : RM own' G' r s') (p3 : s'.ok) (hy : O.ok own' G' i y) (hrow : O.e.row y = O.e.row x) :
    RI O n own' G' m r cb s' (L.set i y) := by
  have hi := h.lt hx
  have hn := h.n9
  refine ⟨p1, p2, p3, (a _ h.lc).trans h.tc, Nat.lt_of_lt_of_le h.lc q.nx, ?_, by simpa using h.len, hn, fun j z hz => ?_⟩
  · rw [q.same h.lc (by rw [h.tc]; simp; omega), h.oc]
    congr 2
    have hl : i < L.length := by rw [h.len]; exact hi
    rw [List.getElem?_eq_getElem hl] at hx
    have hx' := Option.some.inj hx
    rw [← O.e.flat_over L hl, hrow, ← hx', O.e.flat_over L hl, List.set_getElem_self]
  · rw [List.getElem?_set] at hz
    split at hz
    · rename_i hji
      subst hji
      rw [if_pos (by rw [h.len]; exact hi)] at hz
      cases hz
      exact hy
    · rename_i hji
      exact O.to (h.core j z hz) q.nx (fun g hg hj => q.same hg (by have := h.lt hz; rw [hj]; simp; omega)) a
theorem RI.words (orc : FuncId → Bool) (h : RI O n own G m r cb s L) : ∃ v G', (E orc).cl 9 [P0 m] G = some (v, G') ∧ Ext G G' ∧ OwR (rowsI .u64) G.nx G' v s.W := by
  obtain ⟨bb, rest, hm⟩ := h.pm; exact words_ok orc hm
theorem RI.last (orc : FuncId → Bool) (h : RI O n own G m r cb s L) : ∃ G', (E orc).cl 109 [P0 m] G = some (.agg ⟨accV s⟩, G') ∧ Ext G G' := by
  obtain ⟨bb, rest, hm⟩ := h.pm; exact last_ok orc hm
/-- the two memories when they are new -/
theorem new2 {G2 : GS} {k : Nat} {s0 : MS} (hm : PMx (fun x => G.nx ≤ x ∧ x < G1.nx) G1 m s0) (hr : RMx (fun x => G1.nx ≤ x ∧ x < G2.nx) G2 r s0) (hx : G.nx ≤ G1.nx) (x2 : Ext G1 G2) :
    PM (fun x => if x < k then 20 else if x < G.nx then 13 else if x < G1.nx then 10 else 11) G2 m s0 ∨ ¬ k ≤ G.nx := by
  by_cases hk : k ≤ G.nx
  · refine .inl ((sepP m s0).mono (hm.ext x2) (fun x hx => ⟨Nat.lt_of_lt_of_le hx.2 x2.nx, ?_⟩) Tag.under)
    simp only
    rw [if_neg (by omega), if_neg (by omega), if_pos (by omega)]
  · exact .inr hk
theorem new2' {G2 : GS} {k : Nat} {s0 : MS} (hr : RMx (fun x => G1.nx ≤ x ∧ x < G2.nx) G2 r s0) (hx : G.nx ≤ G1.nx) (hk : k ≤ G.nx) :
    RM (fun x => if x < k then 20 else if x < G.nx then 13 else if x < G1.nx then 10 else 11) G2 r s0 := by
  refine (sepR r s0).mono hr (fun x hx => ⟨hx.2, ?_⟩) Tag.under
  simp only
  rw [if_neg (by omega), if_neg (by omega), if_neg (by omega)]
end
end Go.Proofs.Ytfmkihikmlcimaa.Lift

set_option linter.unusedVariables false
set_option linter.unusedSimpArgs false
set_option maxRecDepth 20000
namespace Go.Proofs.Ytfmkihikmlcimaa.Lift
open Go Go.Proofs.Ytfmkihikmlcimaa.Gh Go.Proofs
/-! ### Operations whose blocks bear a tag: i the program's, 100 + i the document's -/
abbrev Own (own : Nat → Nat) (t : Nat) : Nat → Prop := fun x => own x = t
section
variable {t u m r b : Nat} {B : Nat → Prop} {own own1 own2 : Nat → Nat} {G G1 G2 : GS} {s s' s1 : MS}
theorem PW.extT (w : PW B own G own1 G1 m s) (x : Ext G1 G2) (t : Nat) : PW B own G (grown own1 G1 t) G2 m s :=
  ⟨w.stp.trans (B' := no) (Stp.extA x grown_agr) fun _ _ h => h.elim, w.pm.to (t := 11) (B := no) (Stp.extA x grown_agr) (by decide) fun _ _ h => h.elim⟩
theorem RW.extT (w : RW B own G own1 G1 r s) (x : Ext G1 G2) (t : Nat) : RW B own G (grown own1 G1 t) G2 r s :=
  ⟨w.stp.trans (B' := no) (Stp.extA x grown_agr) fun _ _ h => h.elim, w.rm.to (t := 10) (B := no) (Stp.extA x grown_agr) (by decide) fun _ _ h => h.elim⟩
theorem PW.tr (w : PW (Own own t) own G own1 G1 m s) (k : PW (Own own1 t) own1 G1 own2 G2 m s') : PW (Own own t) own G own2 G2 m s' := w.trans k fun _ hx h => (w.stp.same hx).symm.trans h
theorem RW.tr (w : RW (Own own t) own G own1 G1 r s) (k : RW (Own own1 t) own1 G1 own2 G2 r s') : RW (Own own t) own G own2 G2 r s' := w.trans k fun _ hx h => (w.stp.same hx).symm.trans h
theorem PW.any (w : PW no own G own1 G1 m s) : PW B own G own1 G1 m s := w.mono fun _ _ h => h.elim
theorem RW.any (w : RW no own G own1 G1 r s) : RW B own G own1 G1 r s := w.mono fun _ _ h => h.elim
theorem PW.putT (w : PW (Own own t) own G own1 G1 m s) (hb : own1 b = t) (ht : t ≠ 10) (o : GObj) : PW (Own own t) own G own1 (G1.put b o) m s := by
  refine w.put ?_ (fun _ => by rw [hb]; exact ht) o
  by_cases hl : b < G.nx
  · exact .inl ((w.stp.same hl).symm.trans hb)
  · exact .inr (by omega)
theorem RW.putT (w : RW (Own own t) own G own1 G1 r s) (hb : own1 b = t) (ht : t ≠ 11) (o : GObj) : RW (Own own t) own G own1 (G1.put b o) r s := by
  refine w.put ?_ (fun _ => by rw [hb]; exact ht) o
  by_cases hl : b < G.nx
  · exact .inl ((w.stp.same hl).symm.trans hb)
  · exact .inr (by omega)
/-- blocks of the tag are written, others are new -/
theorem PW.modT (w : PW (Own own t) own G own1 G1 m s) (q : ModP (Own own1 t) G1 G2) (ht : t ≠ 10) (u : Nat) : PW (Own own t) own G (grown own1 G1 u) G2 m s :=
  w.tr ⟨⟨grown_agr, q.mono fun _ h => .inr h⟩, w.pm.to (t := t) (B := Own own1 t) ⟨grown_agr, q.mono fun _ h => .inl h⟩ ht fun _ _ h => by rw [h]; exact ht⟩
theorem RW.modT (w : RW (Own own t) own G own1 G1 r s) (q : ModP (Own own1 t) G1 G2) (ht : t ≠ 11) (u : Nat) : RW (Own own t) own G (grown own1 G1 u) G2 r s :=
  w.tr ⟨⟨grown_agr, q.mono fun _ h => .inr h⟩, w.rm.to (t := t) (B := Own own1 t) ⟨grown_agr, q.mono fun _ h => .inl h⟩ ht fun _ _ h => by rw [h]; exact ht⟩
theorem PW.ofThr (th : Thr (fun A G => PMx A G m s1) (Tag own G 10) b G G1) (hb : own b = t) : PW (Own own t) own G (grown own G 10) G1 m s1 :=
  ⟨⟨grown_agr, th.mod.mono fun x hx => hx.imp (·.2) fun (e : x = b) => by rw [e]; exact hb⟩, (sepP m s1).step th.mod.nx th.st⟩
theorem RW.ofThr (th : Thr (fun A G => RMx A G r s1) (Tag own G 11) b G G1) (hb : own b = t) : RW (Own own t) own G (grown own G 11) G1 r s1 :=
  ⟨⟨grown_agr, th.mod.mono fun x hx => hx.imp (·.2) fun (e : x = b) => by rw [e]; exact hb⟩, (sepR r s1).step th.mod.nx th.st⟩
theorem PM.notIn (ht : own b = t) (h : t ≠ 10) : ¬ Tag own G 10 b := fun k => h (ht.symm.trans k.2)
theorem RM.notIn (ht : own b = t) (h : t ≠ 11) : ¬ Tag own G 11 b := fun k => h (ht.symm.trans k.2)
/-- what has another tag stays -/
theorem PW.keepT (w : PW (Own own t) own G own1 G1 m s) {g : Nat} (hg : g < G.nx) (hu : own g = u) (h1 : u ≠ 10) (h2 : u ≠ t) : G1.obj g = G.obj g := w.keep hg (by rw [hu]; exact h1) fun k => h2 (hu.symm.trans k)
theorem RW.keepT (w : RW (Own own t) own G own1 G1 r s) {g : Nat} (hg : g < G.nx) (hu : own g = u) (h1 : u ≠ 11) (h2 : u ≠ t) : G1.obj g = G.obj g := w.keep hg (by rw [hu]; exact h1) fun k => h2 (hu.symm.trans k)
theorem PW.rm (w : PW (Own own t) own G own1 G1 m s) (h : RM own G r s') (ht : t ≠ 11) : RM own1 G1 r s' := h.to w.stp (by decide) fun _ _ k => by rw [k]; exact ht
theorem RW.pm (w : RW (Own own t) own G own1 G1 r s) (h : PM own G m s') (ht : t ≠ 10) : PM own1 G1 m s' := h.to w.stp (by decide) fun _ _ k => by rw [k]; exact ht
theorem PW.mt (w : PW (Own own t) own G own1 G1 m s) {ts : List Nat} (h1 : 10 ∈ ts) (h2 : t ∈ ts) : ModT ts own G G1 := ModP.mono w.stp.mod fun x hx => hx.elim (fun h => by rw [h]; exact h1) fun h => by rw [show own x = t from h]; exact h2
theorem RW.mt (w : RW (Own own t) own G own1 G1 r s) {ts : List Nat} (h1 : 11 ∈ ts) (h2 : t ∈ ts) : ModT ts own G G1 := ModP.mono w.stp.mod fun x hx => hx.elim (fun h => by rw [h]; exact h1) fun h => by rw [show own x = t from h]; exact h2
end
structure At (own : Nat → Nat) (t : Nat) (G : GS) (b : Nat) : Prop where
  lt : b < G.nx
  tag : own b = t
theorem At.to {own own' : Nat → Nat} {t b : Nat} {G G' : GS} (h : At own t G b) (hn : G.nx ≤ G'.nx) (a : Agr own own' G) : At own' t G' b := ⟨Nat.lt_of_lt_of_le h.lt hn, (a _ h.lt).trans h.tag⟩
section
variable {t u m r b : Nat} {B : Nat → Prop} {own own1 own2 : Nat → Nat} {G G1 G2 : GS} {s s' s1 : MS}
theorem At.putO (h : At own t G b) (g : Nat) (o : GObj) : At own t (G.put g o) b := ⟨h.lt, h.tag⟩
theorem At.extO (h : At own t G b) (x : Ext G G1) (u : Nat) : At (grown own G u) t G1 b := h.to x.nx grown_agr
theorem At.new {q : Nat} (h1 : G.nx ≤ q) (h2 : q < G1.nx) : At (grown own G t) t G1 q := ⟨h2, grown_new h1⟩
/-- a slice whose block bears a tag -/
structure OwT (own : Nat → Nat) (t : Nat) (G : GS) (v : Value) (L : List Int) : Prop where
  ow : OwR (rowsI .i64) 0 G v L
  tag : ∀ g, InB v g → own g = t
theorem OwT.lt {v : Value} {L : List Int} (h : OwT own t G v L) {g : Nat} (hg : InB v g) : g < G.nx := h.ow.is.under g hg
theorem OwT.nil (own : Nat → Nat) (t : Nat) (G : GS) : OwT own t G (.slice none 0 0) [] := ⟨OwR.nil _ _, fun g ⟨a, n, c, he, _⟩ => by cases he⟩
theorem OwT.to {v : Value} {L : List Int} (h : OwT own t G v L) (hn : G.nx ≤ G1.nx) (hk : ∀ g, InB v g → G1.obj g = G.obj g) (ha : Agr own own1 G) : OwT own1 t G1 v L :=
  ⟨h.ow.kept hn hk, fun g hg => (ha g (h.lt hg)).trans (h.tag g hg)⟩
theorem OwT.one {v : Value} {L : List Int} (h : OwT own t G v L) : one v = true := own_one h.ow
end
/-! ### A row of operations over two memories -/
structure Opx (X : Type) where
  e : RowE X
  ok : (Nat → Nat) → GS → Nat → X → Prop
  to : ∀ {own own' : Nat → Nat} {G G' : GS} {i : Nat} {x : X}, ok own G i x → G.nx ≤ G'.nx → (∀ g, g < G.nx → own g = i ∨ own g = 100 + i → G'.obj g = G.obj g) → Agr own own' G → ok own' G' i x
structure RJ {X : Type} (O : Opx X) (n : Nat) (own : Nat → Nat) (G : GS) (m r cb : Nat) (s : MS) (L : List X) : Prop where
  pm : PM own G m s
  rm : RM own G r s
  ok : s.ok
  tc : own cb = 12
  lc : cb < G.nx
  oc : G.obj cb = some ⟨O.e.flat L, O.e.sz, false, 1⟩
  len : L.length = n
  n9 : n ≤ 9
  core : ∀ i x, L[i]? = some x → O.ok own G i x
section
variable {X : Type} {O O' : Opx X} {n m r b cb t i : Nat} {B : Nat → Prop} {own own' : Nat → Nat} {G G' G1 : GS} {s s' : MS} {L : List X} {ts : List Nat} {x y : X}
theorem RJ.weaken (h : RJ O n own G m r cb s L) (he : O'.e = O.e) (hw : ∀ own G i x, O.ok own G i x → O'.ok own G i x) : RJ O' n own G m r cb s L :=
  ⟨h.pm, h.rm, h.ok, h.tc, h.lc, by rw [he]; exact h.oc, h.len, h.n9, fun i x hx => hw _ _ _ _ (h.core i x hx)⟩
theorem RJ.lt (h : RJ O n own G m r cb s L) (hx : L[i]? = some x) : i < n := by have := (List.getElem?_eq_some_iff.1 hx).1; rw [h.len] at this; exact this
theorem RJ.to (h : RJ O n own G m r cb s L) (q : ModT [13] own G G') (a : Agr own own' G) : RJ O n own' G' m r cb s L :=
  ⟨h.pm.modT q (by simp) a, h.rm.modT q (by simp) a, h.ok, (a _ h.lc).trans h.tc, Nat.lt_of_lt_of_le h.lc q.nx, (q.same h.lc (by rw [h.tc]; simp)).trans h.oc, h.len, h.n9,
   fun i x hx => O.to (h.core i x hx) q.nx (fun g hg hi => q.same hg (by have := h.lt hx; have := h.n9; rcases hi with hi | hi <;> (rw [hi]; simp; omega))) a⟩
theorem RJ.ext (h : RJ O n own G m r cb s L) (x : Ext G G') : RJ O n (grown own G 13) G' m r cb s L := h.to (ModT.ext x) grown_agr
theorem RJ.room (h : RJ O n own G m r cb s L) (k : Nat) : RJ O n (grown own G 13) (G.room k) m r cb s L := h.ext ((Ext.refl G).room k)
/-- an operation begins -/
theorem RJ.begin (h : RJ O n own G m r cb s L) (x : Ext G G') (hi : i < n) (a : Agr own own' G) (hy : O.ok own' (G'.put cb ⟨O.e.flat (L.set i y), O.e.sz, false, 1⟩) i y) :
    RJ O n own' (G'.put cb ⟨O.e.flat (L.set i y), O.e.sz, false, 1⟩) m r cb s (L.set i y) := by
  have lc := h.lc
  have m1 : ModT [12] own G (G'.put cb ⟨O.e.flat (L.set i y), O.e.sz, false, 1⟩) := (ModT.ext x).put (.inl (by rw [h.tc]; simp)) _
  refine ⟨h.pm.modT m1 (by simp) a, h.rm.modT m1 (by simp) a, h.ok, (a _ lc).trans h.tc, Nat.lt_of_lt_of_le lc x.nx, by simp, by simpa using h.len, h.n9, fun j z hz => ?_⟩
  rw [List.getElem?_set] at hz
  split at hz
  · rename_i hji
    subst hji
    rw [if_pos (by rw [h.len]; exact hi)] at hz
    cases hz
    exact hy
  · exact O.to (h.core j z hz) m1.nx (fun g hg hj => m1.same hg (by have := h.lt hz; have := h.n9; rcases hj with hj | hj <;> (rw [hj]; simp; omega))) a
/-- an operation has made a step -/
theorem RJ.told (h : RJ O n own G m r cb s L) (hx : L[i]? = some x) (q : ModT [10, 11, i, 100 + i] own G G') (a : Agr own own' G) (p1 : PM own' G' m s') (p2 : RM own' G' r s') (p3 : s'.ok) (hy : O.ok own' G' i y) (hrow : O.e.row y = O.e.row x) :
    RJ O n own' G' m r cb s' (L.set i y) := by
  have hi := h.lt hx
  have hn := h.n9
  refine ⟨p1, p2, p3, (a _ h.lc).trans h.tc, Nat.lt_of_lt_of_le h.lc q.nx, ?_, by simpa using h.len, hn, fun j z hz => ?_⟩
  · rw [q.same h.lc (by rw [h.tc]; simp; omega), h.oc]
    congr 2
    have hl : i < L.length := by rw [h.len]; exact hi
    rw [List.getElem?_eq_getElem hl] at hx
    have hx' := Option.some.inj hx
    rw [← O.e.flat_over L hl, hrow, ← hx', O.e.flat_over L hl, List.set_getElem_self]
  · rw [List.getElem?_set] at hz
    split at hz
    · rename_i hji
      subst hji
      rw [if_pos (by rw [h.len]; exact hi)] at hz
      cases hz
      exact hy
    · rename_i hji
      exact O.to (h.core j z hz) q.nx (fun g hg hj => q.same hg (by have := h.lt hz; rcases hj with hj | hj <;> (rw [hj]; simp; omega))) a
theorem RJ.words (orc : FuncId → Bool) (h : RJ O n own G m r cb s L) : ∃ v G', (E orc).cl 9 [P0 m] G = some (v, G') ∧ Ext G G' ∧ OwR (rowsI .u64) G.nx G' v s.W := by
  obtain ⟨bb, rest, hm⟩ := h.pm; exact words_ok orc hm
theorem RJ.last (orc : FuncId → Bool) (h : RJ O n own G m r cb s L) : ∃ G', (E orc).cl 109 [P0 m] G = some (.agg ⟨accV s⟩, G') ∧ Ext G G' := by
  obtain ⟨bb, rest, hm⟩ := h.pm; exact last_ok orc hm
end
end Go.Proofs.Ytfmkihikmlcimaa.Lift

set_option linter.unusedVariables false
set_option linter.unusedSimpArgs false
set_option maxRecDepth 20000
namespace Go.Proofs.Ytfmkihikmlcimaa.Lift
open Go Go.Proofs.Ytfmkihikmlcimaa.Gh Go.Proofs
section
variable {G B : GS} {A : List Int} {v0 : Value}
theorem among_lp (orc : FuncId → Bool) (hA : SlR (rowsI .i64) G v0 A) (hlen : A.length < 2 ^ 47) (x : Int) : ∀ (k i : Nat) (τ : Env), i + k = A.length → τ 0 = v0 → τ 1 = .int .i64 x → τ 5 = .int .i64 (i : Int) →
    Wp ((exL Q orc).lpx 74 0 τ G) fun q => q.2.2 = G ∧ ((q.1 = .exit 0 ∧ x ∉ A.drop i) ∨ (q.1 = .ret ∧ x ∈ A.drop i ∧ q.2.1 4 = .bool true)) := by
  intro k
  induction k with
  | zero =>
    intro i τ hi t0 t1 t5
    have hi' : i = A.length := by omega
    refine Wp.lp (l74_0 (exL_ok Q orc)) ?_
    subst hi'
    obtain ⟨a, c, e0⟩ := hA.len
    simp [b74_0, clip_t, t0, t1, t5, e0]
  | succ k ih =>
    intro i τ hi t0 t1 t5
    have hlt : i < A.length := by omega
    have hw : IntKind.wrap .i64 ((i : Int) + 1) = ((i + 1 : Nat) : Int) := wrap64 (by omega) (by omega)
    have h1 : (i : Int) < A.length := by omega
    have h2 : (0 : Int) ≤ i := by omega
    obtain ⟨b, o, c, e0, _, q, _⟩ := hA.at hlt
    have q0 := q 0 (by decide)
    simp at q0
    rw [List.drop_eq_getElem_cons hlt]
    generalize A[i] = y at *
    refine Wp.lp (l74_0 (exL_ok Q orc)) ?_
    by_cases hy : y = x
    · subst hy
      simp [-Int.natCast_add, b74_0, clip_t, t0, t1, t5, e0, h1, h2, hlt, q0, hw]
    · have hy' : ¬ x = y := fun e => hy e.symm
      simp [-Int.natCast_add, b74_0, clip_t, t0, t1, t5, e0, h1, h2, hlt, q0, hw, hy]
      refine Wp.mono (ih (i + 1) _ (by omega) ?_ ?_ ?_) fun q hq => ?_
      · simp [clip_t, e0]
      · simp [clip_t]
      · simp [clip_t]
      · simpa [hy'] using hq
theorem among_ok' (orc : FuncId → Bool) (hA : SlR (rowsI .i64) G v0 A) (hlen : A.length < 2 ^ 47) (x : Int) : (E orc).cl 74 [v0, .int .i64 x] G = some (.bool (decide (x ∈ A)), G) := by
  have w : Wp ((E orc).cl 74 [v0, .int .i64 x] G) fun q => q.1 = .bool (decide (x ∈ A)) ∧ q.2 = G := by
    refine Wp.ref (f74 (exL_ok Q orc) _ _ G) ?_
    simp [s74]
    refine Wp.bE ((among_lp orc hA hlen x A.length 0 _ (by omega) (by simp) (by simp) (by simp)).mono ?_)
    rintro ⟨e, τ, G'⟩ ⟨h1, (⟨h2, h3⟩ | ⟨h2, h3, h4⟩)⟩
    · simp only [List.drop_zero] at h1 h2 h3
      subst h1 h2
      simp [h3]
    · simp only [List.drop_zero] at h1 h2 h3 h4
      subst h1 h2
      simp [h3, h4]
  obtain ⟨⟨v, G'⟩, e, h1, h2⟩ := w
  simp only at h1 h2
  subst h1 h2
  exact e
end
end Go.Proofs.Ytfmkihikmlcimaa.Lift

