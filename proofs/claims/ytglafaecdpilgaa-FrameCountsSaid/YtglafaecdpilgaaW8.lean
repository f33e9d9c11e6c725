import Derived.Test.YtglafaecdpilgaaW7
set_option linter.unusedVariables false
set_option linter.unusedSimpArgs false
set_option maxRecDepth 20000
namespace Go.Proofs.Ytglafaecdpilgaa.Lift
open Go Go.Proofs.Ytglafaecdpilgaa.Gh Go.Proofs
/-! ### The kit's Pick -/
theorem pick_ok (orc : FuncId → Bool) (x n : Int) (hn : 0 < n) (hn2 : n < 2 ^ 40) (G : GS) : (E orc).cl 21 [.int .i64 x, .int .i64 n] G = some (.int .i64 (x % n), G) := by
  refine f21 (exL_ok Q orc) _ _ G _ ?_
  have h1 := Int.emod_nonneg x (show n ≠ 0 by omega)
  have h2 := Int.emod_lt_of_pos x hn
  have ht := @Int.tmod_eq_emod x n
  have hn0 : ¬ n ≤ 0 := by omega
  have hn1 : ¬ n = 0 := by omega
  have hw : IntKind.wrap .i64 (x % n) = x % n := wrap64 (by omega) (by omega)
  by_cases hx : x.tmod n < 0
  · have e : x.tmod n + n = x % n := by split at ht <;> omega
    simp [s21, clip_t, hx, e, hw, hn0, hn1]
  · have e : x.tmod n = x % n := by split at ht <;> omega
    have hx' : ¬ x % n < 0 := by omega
    simp [s21, clip_t, hx', e, hn0, hn1]
section
variable {A : Nat → Prop} {G : GS} {r : Nat} {lv dv : Value} {S : List Slt} {D : List Deed} {N : Int}
theorem rbusy_lp (orc : FuncId → Bool) {B : GS} (h : RFr A B r lv dv S D N) (hS : S.length < 2 ^ 36) : ∀ (k i : Nat) (τ : Env) (G : GS) (v : Value), i + k = (lof 0 S).length → τ 0 = P0 r → τ 3 = v → τ 4 = .int .i64 i → Ext B G → OwR (rowsI .i64) B.nx G v ((busyF 0 S).take i) →
    Wp ((exL Q orc).lpx 46 0 τ G) fun q => q.1 = .exit 0 ∧ Ext B q.2.2 ∧ OwR (rowsI .i64) B.nx q.2.2 (q.2.1 3) (busyF 0 S) := by
  have hlen := lof_length S 0
  have hbl : (busyF 0 S).length = (lof 0 S).length := by simp [busyF]
  have hrc : ∀ {G1 : GS}, Ext B G1 → ∀ o, G1.cell r o = [Value.int .i64 S.length, lv, dv, .int .i64 N][o]? := fun x o => by simp [cell_eq, x.obj r (h.un _ h.ar), h.hr]
  intro k
  induction k with
  | zero =>
    intro i τ G v hi t0 t3 t4 hx hv
    have hi' : i = (lof 0 S).length := by omega
    subst hi'
    rw [← hbl, List.take_length] at hv
    obtain ⟨a, c', hl⟩ := h.hl.is.len
    refine Wp.lp (l46_0 (exL_ok Q orc)) ?_
    simp [b46_0, clip_t, t0, t3, t4, hrc hx, hl]
    exact ⟨hx, hv⟩
  | succ k ih =>
    intro i τ G v hi t0 t3 t4 hx hv
    have hlt : i < (lof 0 S).length := by omega
    have hw : IntKind.wrap .i64 ((i : Int) + 1) = ((i + 1 : Nat) : Int) := wrap64 (by omega) (by omega)
    obtain ⟨b, o, c', hl, _, hc, _⟩ := deed_at (h.hl.is.ext hx) hlt
    have x1 := hx.push ⟨[.int .i64 (lof 0 S)[i].1], 1, false, 1⟩
    obtain ⟨v', G', e', x', r'⟩ := OwR.app (A := B) (ib := 8) (hv.ext ((Ext.refl G).push _)) (by decide) x1 (SlR.one (rowsI .i64) G (lof 0 S)[i].1) (by simp; omega)
    simp only [rowsI_sz, rowsI_row] at e'
    refine Wp.lp (l46_0 (exL_ok Q orc)) ?_
    simp [-Int.natCast_add, b46_0, clip_t, t0, t3, t4, hrc hx, hl, hlt, hc, rep, fillS, fillL, fillC, splice_put, splice_end, splice_succ, Value.cells, e', hw]
    refine ih (i + 1) _ G' v' (by omega) (by simp [clip_t]) (by simp [clip_t]) (by simp [clip_t]) x' ?_
    have : (busyF 0 S).take (i + 1) = (busyF 0 S).take i ++ [(lof 0 S)[i].1] := by
      rw [List.take_add_one]
      simp [busyF, hlt]
    rw [this]; exact r'
theorem rbusy_ok (orc : FuncId → Bool) (h : RFr A G r lv dv S D N) (hS : S.length < 2 ^ 36) : ∃ v G', (E orc).cl 46 [P0 r] G = some (v, G') ∧ Ext G G' ∧ OwR (rowsI .i64) G.nx G' v (busyF 0 S) := by
  have w : Wp (s46 true (exL Q orc) (P0 r) G) fun q => Ext G q.2 ∧ OwR (rowsI .i64) G.nx q.2 q.1 (busyF 0 S) := by
    simp [s46]
    refine Wp.bE ((rbusy_lp orc h hS (lof 0 S).length 0 _ G (.slice none 0 0) (by omega) (by simp) (by simp) (by simp) (Ext.refl G) (by simpa using OwR.nil _ _)).mono ?_)
    rintro ⟨e, τ, G'⟩ ⟨rfl, q1, q2⟩
    simp
    exact ⟨q1, q2⟩
  obtain ⟨⟨v, G'⟩, e1, e2, e3⟩ := w
  exact ⟨v, G', f46 (exL_ok Q orc) _ G _ e1, e2, e3⟩
theorem rturn_ok (orc : FuncId → Bool) (h : RFr A G r lv dv S D N) (hS : S.length < 2 ^ 36) (n : Int) : ∃ G', (E orc).cl 48 [P0 r, .int .i64 n] G = some (.int .i64 (turnI (busyF 0 S) n), G') ∧ Ext G G' := by
  have hlen := lof_length S 0
  have hbl : (busyF 0 S).length = (lof 0 S).length := by simp [busyF]
  have hrc : ∀ o, G.cell r o = [Value.int .i64 S.length, lv, dv, .int .i64 N][o]? := fun o => by simp [cell_eq, h.hr]
  have hlo : lof 0 S = [] ↔ busyF 0 S = [] := by simp [busyF]
  by_cases h0 : lof 0 S = []
  · obtain ⟨a, c, hl⟩ := h.hl.is.len
    refine ⟨G, f48 (exL_ok Q orc) _ _ G _ ?_, Ext.refl G⟩
    simp [s48, hrc, hl, h0, turnI, hlo.1 h0]
  · have hl : 0 < (lof 0 S).length := by cases hq : lof 0 S with | nil => exact absurd hq h0 | cons a b => simp
    have hl' : ¬ ((lof 0 S).length : Int) = 0 := by omega
    have hlt := Int.emod_lt_of_pos n (show (0 : Int) < (lof 0 S).length by omega)
    have hnn := Int.emod_nonneg n hl'
    have hi : (n % ((lof 0 S).length : Int)).toNat < (lof 0 S).length := by omega
    have hp := pick_ok orc n (lof 0 S).length (by omega) (by omega) (G.room 15)
    obtain ⟨b, o, c, hlv, _, hc, _⟩ := deed_at (h.hl.is.ext ((Ext.refl G).room 15)) hi
    have hget : turnI (busyF 0 S) n = (lof 0 S)[(n % ((lof 0 S).length : Int)).toNat].1 := by
      unfold turnI
      rw [if_neg (fun e => h0 (hlo.2 e)), hbl, busyF, List.getElem?_map, List.getElem?_eq_getElem hi]; rfl
    refine ⟨G.room 15, f48 (exL_ok Q orc) _ _ G _ ?_, (Ext.refl G).room 15⟩
    rw [hget]
    simp at hc
    simp [s48, hrc, hlv, h0, hl', hp, hnn, hlt, hc]
theorem rnew_ok (orc : FuncId → Bool) (C : Int) (G : GS) : (C < 1 ∨ 64 < C → (E orc).cl 33 [.int .i64 C] G = some (.tuple #[.pointer none, .int .i64 3], G)) ∧
    (1 ≤ C → C ≤ 64 → ∃ r G', (E orc).cl 33 [.int .i64 C] G = some (.tuple #[P0 r, .int .i64 0], G') ∧ Ext G G' ∧ RFx (fun x => G.nx ≤ x ∧ x < G'.nx) G' r (List.replicate C.toNat none) [] 0) := by
  constructor
  · intro h
    refine f33 (exL_ok Q orc) _ G _ ?_
    by_cases h1 : C < 1
    · simp [s33, h1]
    · have h2 : 64 < C := by omega
      simp [s33, h1, h2]
  · intro h1 h2
    have h1' : ¬ C < 1 := by omega
    have h2' : ¬ 64 < C := by omega
    have hz : ∀ n, lof 0 (List.replicate n none) = [] := fun n => by
      have : ∀ n i, lof i (List.replicate n none) = [] := by
        intro n
        induction n with
        | zero => intro i; rfl
        | succ n ih => intro i; exact ih (i + 1)
      exact this n 0
    have nob : ∀ Q : Nat → Prop, ∀ x, InB (.slice none 0 0) x → Q x := fun Q x ⟨_, _, _, he, _⟩ => by cases he
    refine ⟨G.nx, _, f33 (exL_ok Q orc) _ G _ (by simp [s33, h1', h2', fillL, fillC, splice_put, splice_end, splice_succ, Value.cells]; rfl), (Ext.refl G).push _, .slice none 0 0, .slice none 0 0, ?_⟩
    refine ⟨fun x hx => hx.2, ⟨by omega, by simp⟩, by simp; omega, by rw [hz]; exact OwR.nil _ _, nob _, OwR.nil _ _, nob _, nob _⟩
end
end Go.Proofs.Ytglafaecdpilgaa.Lift
