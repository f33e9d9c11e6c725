import Derived.Test.YtglafaecdpilgaaW10
set_option linter.unusedVariables false
set_option linter.unusedSimpArgs false
set_option maxRecDepth 20000
namespace Go.Proofs.Ytglafaecdpilgaa.Lift
open Go Go.Proofs.Ytglafaecdpilgaa.Gh Go.Proofs
def rBool : RowE Bool := ⟨1, fun x => [.bool x], fun _ => rfl, fun _ => rfl, by decide⟩
@[simp] theorem rBool_sz : rBool.sz = 1 := rfl
@[simp] theorem rBool_row (x : Bool) : rBool.row x = [.bool x] := rfl
def val (o : Slt) : Int := o.elim 0 (·.2)
def sumS : List Slt → Int
  | [] => 0
  | o :: S => val o + sumS S
def sumD : List Deed → Int
  | [] => 0
  | d :: D => d.2.2 + sumD D
theorem sumS_append : ∀ A B : List Slt, sumS (A ++ B) = sumS A + sumS B
  | [], B => by simp [sumS]
  | a :: A, B => by simp [sumS, sumS_append A B]; omega
theorem sumD_append : ∀ A B : List Deed, sumD (A ++ B) = sumD A + sumD B
  | [], B => by simp [sumD]
  | a :: A, B => by simp [sumD, sumD_append A B]; omega
def NnS (S : List Slt) : Prop := ∀ o ∈ S, 0 ≤ val o
def NnD (D : List Deed) : Prop := ∀ d ∈ D, 0 ≤ d.2.2
theorem NnS.sum : ∀ {S : List Slt}, NnS S → 0 ≤ sumS S
  | [], _ => by simp [sumS]
  | o :: S, h => by
    have := NnS.sum (S := S) fun x hx => h x (by simp [hx])
    have := h o (by simp)
    simp [sumS]; omega
theorem NnD.sum : ∀ {D : List Deed}, NnD D → 0 ≤ sumD D
  | [], _ => by simp [sumD]
  | o :: S, h => by
    have := NnD.sum (D := S) fun x hx => h x (by simp [hx])
    have := h o (by simp)
    simp [sumD]; omega
theorem NnS.take {S : List Slt} (h : NnS S) (i : Nat) : 0 ≤ sumS (S.take i) ∧ sumS (S.take i) ≤ sumS S := by
  have h1 : NnS (S.take i) := fun o ho => h o (List.mem_of_mem_take ho)
  have h2 : NnS (S.drop i) := fun o ho => h o (List.mem_of_mem_drop ho)
  have h3 := sumS_append (S.take i) (S.drop i)
  rw [List.take_append_drop] at h3
  have := h1.sum; have := h2.sum
  omega
theorem NnD.take {S : List Deed} (h : NnD S) (i : Nat) : 0 ≤ sumD (S.take i) ∧ sumD (S.take i) ≤ sumD S := by
  have h1 : NnD (S.take i) := fun o ho => h o (List.mem_of_mem_take ho)
  have h2 : NnD (S.drop i) := fun o ho => h o (List.mem_of_mem_drop ho)
  have h3 := sumD_append (S.take i) (S.drop i)
  rw [List.take_append_drop] at h3
  have := h1.sum; have := h2.sum
  omega
theorem sumS_snoc {S : List Slt} {i : Nat} {o : Slt} (h : S[i]? = some o) : sumS (S.take (i + 1)) = sumS (S.take i) + val o := by
  rw [List.take_add_one, h, Option.toList_some, sumS_append]; simp [sumS]
theorem sumD_snoc {S : List Deed} {i : Nat} (h : i < S.length) : sumD (S.take (i + 1)) = sumD (S.take i) + S[i].2.2 := by
  rw [List.take_add_one, List.getElem?_eq_getElem h, Option.toList_some, sumD_append]; simp [sumD]
section
variable {A : Nat → Prop} {G : GS} {p sl : Nat} {bs : List (Option Nat)} {dv : Value} {S : List Slt} {D : List Deed} {N : Int}
theorem sum_lp (orc : FuncId → Bool) {G : GS} {v u0 u1 u2 u6 : Value} {D : List Deed} (hv : SlR rDeed G v D) (hD : D.length < 2 ^ 36) (hn : NnD D) (hs : sumD D ≤ 100) :
    ∀ (k i : Nat) (τ : Env), i + k = D.length → τ 7 = .int .i64 (sumD (D.take i)) → τ 8 = v → τ 9 = .int .i64 i → τ 0 = u0 → τ 1 = u1 → τ 2 = u2 → τ 6 = u6 → Wp ((exL Q orc).lpx 54 0 τ G) fun r => r.1 = .exit 0 ∧ r.2.2 = G ∧ r.2.1 7 = .int .i64 (sumD D) ∧ r.2.1 0 = u0 ∧ r.2.1 1 = u1 ∧ r.2.1 2 = u2 ∧ r.2.1 6 = u6 := by
  intro k
  induction k with
  | zero =>
    intro i τ hi t7 t8 t9 t0 t1 t2 t6
    have hi' : i = D.length := by omega
    subst hi'
    rw [List.take_length] at t7
    obtain ⟨a, c, rfl⟩ := hv.len
    refine Wp.lp (l54_0 (exL_ok Q orc)) ?_
    simp [b54_0, clip_t, t7, t8, t9, t0, t1, t2, t6]
  | succ k ih =>
    intro i τ hi t7 t8 t9 t0 t1 t2 t6
    have hlt : i < D.length := by omega
    have hi0 : (0 : Int) ≤ i := by omega
    have hw : IntKind.wrap .i64 ((i : Int) + 1) = ((i + 1 : Nat) : Int) := wrap64 (by omega) (by omega)
    obtain ⟨b, o, c, e8, _, _, _, hc, _⟩ := deed_at hv hlt
    have h1 := hn.take i
    have h2 := hn.take (i + 1)
    rw [sumD_snoc hlt] at h2
    have hw2 : IntKind.wrap .i64 (sumD (D.take i) + D[i].2.2) = sumD (D.take i) + D[i].2.2 := wrap64 (by omega) (by omega)
    refine Wp.lp (l54_0 (exL_ok Q orc)) ?_
    rw [e8] at t8
    simp [-Int.natCast_add, b54_0, clip_t, t7, t8, t9, hlt, hi0, hc, hw, hw2]
    exact ih (i + 1) _ (by omega) (by simp [clip_t, sumD_snoc hlt]) (by simp [clip_t, e8]) (by simp [clip_t]) (by simp [clip_t, t0]) (by simp [clip_t, t1]) (by simp [clip_t, t2]) (by simp [clip_t, t6])
theorem bool_at {G : GS} {v : Value} {L : List Bool} (h : SlR rBool G v L) {i : Nat} (hi : i < L.length) : ∃ b o c, v = .slice (some ⟨b, o, none⟩) L.length c ∧ b < G.nx ∧ G.cell b (o + i) = some (.bool L[i]) := by
  obtain ⟨b, o, c, h1, h2, h3, _⟩ := h.at hi
  exact ⟨b, o, c, h1, h2, by simpa using h3 0 (by simp)⟩
def isS (S : List Slt) : List Bool := S.map Option.isSome
theorem core_lp (orc : FuncId → Bool) {B : GS} (h : PFr A B p sl bs dv S D N) {v1 u2 u6 : Value} (hv : SlR rBool B v1 (isS S)) (hS : S.length < 2 ^ 36) (hn : NnS S) {Z : Int} (hz : 0 ≤ Z) (hs : Z + sumS S ≤ 100) :
    ∀ (k i : Nat) (τ : Env) (G : GS) (v : Value), i + k = S.length → τ 0 = P0 p → τ 1 = v1 → τ 2 = u2 → τ 6 = u6 → τ 7 = .int .i64 (Z + sumS (S.take i)) → τ 10 = v → τ 11 = .int .i64 i → Ext B G → OwR (rowsI .i64) B.nx G v (busyF 0 (S.take i)) →
    Wp ((exL Q orc).lpx 54 1 τ G) fun r => r.1 = .exit 2 ∧ Ext B r.2.2 ∧ r.2.1 0 = P0 p ∧ r.2.1 2 = u2 ∧ r.2.1 6 = u6 ∧ r.2.1 7 = .int .i64 (Z + sumS S) ∧ OwR (rowsI .i64) B.nx r.2.2 (r.2.1 10) (busyF 0 S) := by
  intro k
  induction k with
  | zero =>
    intro i τ G v hi t0 t1 t2 t6 t7 t10 t11 hx hw
    have hi' : i = S.length := by omega
    subst hi'
    rw [List.take_length] at t7 hw
    obtain ⟨a, c, rfl⟩ := hv.len
    refine Wp.lp (l54_1 (exL_ok Q orc)) ?_
    have : (isS S).length = S.length := by simp [isS]
    simp [b54_1, bb54_1, clip_t, t0, t1, t2, t6, t7, t10, t11, this]
    exact ⟨hx, hw⟩
  | succ k ih =>
    intro i τ G v hi t0 t1 t2 t6 t7 t10 t11 hx hw
    have hlt : i < S.length := by omega
    have hlt' : i < (isS S).length := by simpa [isS] using hlt
    have hi0 : (0 : Int) ≤ i := by omega
    have hwr : IntKind.wrap .i64 ((i : Int) + 1) = ((i + 1 : Nat) : Int) := wrap64 (by omega) (by omega)
    have hpG := h.kept hx.nx fun g hg => hx.obj g (h.un g hg)
    obtain ⟨b, o, c, e1, _, hc⟩ := bool_at (hv.ext hx) hlt'
    have e40 := what_ok orc hpG i
    have hSi : S[i]? = some S[i] := List.getElem?_eq_getElem hlt
    have hsl : slotOf S i = S[i] := by rw [slotOf_nat, hSi]; rfl
    have hbi : (isS S)[i] = (S[i]).isSome := by simp [isS]
    rw [hsl] at e40
    rw [hbi] at hc
    have hln : ln Q true 88 v1 = some (.int .i64 S.length) := by rw [e1]; simp [isS]
    have hias : ias Q true 88 1 v1 (.int .i64 i) = some (.pointer (some ⟨b, o + i, none⟩)) := by rw [e1]; simp [hlt', hi0]
    have n1 := hn.take i
    have n2 := hn.take (i + 1)
    rw [sumS_snoc hSi] at n2
    have e44 : ∀ {G2 : GS}, Ext B G2 → (E orc).cl 44 [P0 p, .int .i64 i] G2 = some (.int .i64 (val S[i]), G2) := fun x => by
      have := steps_ok orc (h.kept x.nx fun g hg => x.obj g (h.un g hg)) i
      rw [hsl] at this
      exact this
    have hwz : IntKind.wrap .i64 (Z + sumS (S.take i) + val S[i]) = Z + sumS (S.take (i + 1)) := by rw [sumS_snoc hSi, wrap64 (by omega) (by omega)]; omega
    refine Wp.lp (l54_1 (exL_ok Q orc)) ?_
    cases hb : S[i] with
    | none =>
      simp [hb] at e40 hc
      have e44' := e44 hx
      simp [hb] at e44' hwz
      simp [-Int.natCast_add, b54_1, bb54_1, jl54_1_0, jbl54_1_0, clip_t, t0, t1, t2, t6, t7, t10, t11, hln, hlt, e40, hias, hc, e44', hwr, hwz]
      refine ih (i + 1) _ G v (by omega) (by simp [clip_t]) (by simp [clip_t]) (by simp [clip_t, t2]) (by simp [clip_t, t6]) (by simp [clip_t]) (by simp [clip_t]) (by simp [clip_t]) hx ?_
      rw [busyF_snoc S i hSi, hb]; simpa using hw
    | some x =>
      simp [hb] at e40 hc
      have hbl : (busyF 0 (S.take i)).length < 2 ^ 36 := by
        have := lof_length (S.take i) 0
        simp [busyF] at this ⊢; omega
      have x1 := hx.push ⟨[.int .i64 i], 1, false, 1⟩
      obtain ⟨v', G', e', x', r'⟩ := OwR.app (A := B) (ib := 8) (hw.ext ((Ext.refl G).push _)) (by decide) x1 (SlR.one (rowsI .i64) G (i : Int)) (by simp; omega)
      simp only [rowsI_sz, rowsI_row] at e'
      have e44' := e44 x'
      simp [hb] at e44' hwz
      simp [-Int.natCast_add, b54_1, bb54_1, jl54_1_0, jbl54_1_0, clip_t, t0, t1, t2, t6, t7, t10, t11, hln, hlt, e40, hias, hc, e44', hwr, hwz, rep, fillS, fillL, fillC, splice_put, splice_end, splice_succ, Value.cells, e']
      refine ih (i + 1) _ G' v' (by omega) (by simp [clip_t]) (by simp [clip_t]) (by simp [clip_t, t2]) (by simp [clip_t, t6]) (by simp [clip_t]) (by simp [clip_t]) (by simp [clip_t]) x' ?_
      rw [busyF_snoc S i hSi, hb]; simpa using r'
theorem turn_at {L : List Int} {n : Nat} (h : n < L.length) : turnI L n = L[n] ∧ turnI L ((n : Int) - L.length) = L[n] := by
  have hne : L ≠ [] := fun e => by simp [e] at h
  have e1 : ((n : Int) % (L.length : Int)).toNat = n := by rw [Int.emod_eq_of_lt (by omega) (by omega)]; simp
  have e2 : (((n : Int) - L.length) % (L.length : Int)).toNat = n := by rw [Int.sub_emod_right, Int.emod_eq_of_lt (by omega) (by omega)]; simp
  unfold turnI
  rw [if_neg hne, if_neg hne, e1, e2, List.getElem?_eq_getElem h]
  exact ⟨rfl, rfl⟩
theorem turns_lp (orc : FuncId → Bool) {B : GS} (h : PFr A B p sl bs dv S D N) {v u2 u6 u7 : Value} {B' : GS} (hB : Ext B B') (hv : SlR (rowsI .i64) B' v (busyF 0 S)) (hS : S.length < 2 ^ 36) :
    ∀ (k i : Nat) (τ : Env) (G : GS), i + k = (busyF 0 S).length → τ 0 = P0 p → τ 2 = u2 → τ 6 = u6 → τ 7 = u7 → τ 10 = v → τ 14 = .int .i64 i → Ext B' G →
    Wp ((exL Q orc).lpx 54 2 τ G) fun r => r.1 = .exit 4 ∧ Ext B' r.2.2 ∧ r.2.1 0 = P0 p ∧ r.2.1 2 = u2 ∧ r.2.1 6 = u6 ∧ r.2.1 7 = u7 ∧ r.2.1 10 = v := by
  have hbl : (busyF 0 S).length < 2 ^ 36 := by have := lof_length S 0; simp [busyF]; omega
  intro k
  induction k with
  | zero =>
    intro i τ G hi t0 t2 t6 t7 t10 t14 hx
    have hi' : i = (busyF 0 S).length := by omega
    subst hi'
    obtain ⟨a, c, rfl⟩ := hv.len
    refine Wp.lp (l54_2 (exL_ok Q orc)) ?_
    simp [b54_2, clip_t, t0, t2, t6, t7, t10, t14]
    exact hx
  | succ k ih =>
    intro i τ G hi t0 t2 t6 t7 t10 t14 hx
    have hlt : i < (busyF 0 S).length := by omega
    have hi0 : (0 : Int) ≤ i := by omega
    have hwr : IntKind.wrap .i64 ((i : Int) + 1) = ((i + 1 : Nat) : Int) := wrap64 (by omega) (by omega)
    have hws : IntKind.wrap .i64 ((i : Int) - (busyF 0 S).length) = (i : Int) - (busyF 0 S).length := wrap64 (by omega) (by omega)
    have xr := hx.room 21
    have yr := hB.trans xr
    obtain ⟨G2, e47, x2⟩ := turn_ok orc (h.kept yr.nx fun g hg => yr.obj g (h.un g hg)) hS i
    obtain ⟨b, o, c, e1, hb, hc⟩ := int_at hv hlt
    have c1 : ∀ {G1 : GS}, Ext B' G1 → G1.cell b (o + i) = some (.int .i64 (busyF 0 S)[i]) := fun x => by
      rw [← hc]; unfold GS.cell; rw [x.obj b hb]
    have c0 := c1 xr
    simp at c0
    have c2 := c1 (xr.trans x2)
    rw [(turn_at hlt).1] at e47
    refine Wp.lp (l54_2 (exL_ok Q orc)) ?_
    have hln : ln Q true 65 v = some (.int .i64 (busyF 0 S).length) := by rw [e1]; simp
    have hias : ias Q true 65 1 v (.int .i64 i) = some (.pointer (some ⟨b, o + i, none⟩)) := by rw [e1]; simp [hlt, hi0]
    have y2 := yr.trans x2
    obtain ⟨G3, e47', x3⟩ := turn_ok orc (h.kept y2.nx fun g hg => y2.obj g (h.un g hg)) hS ((i : Int) - (busyF 0 S).length)
    rw [(turn_at hlt).2] at e47'
    have c3 := c1 ((xr.trans x2).trans x3)
    simp [-Int.natCast_add, b54_2, clip_t, t0, t2, t6, t7, t10, t14, hln, hlt, e47, hias, c0, c2, hws, e47', c3, hwr]
    exact ih (i + 1) _ G3 (by omega) (by simp [clip_t]) (by simp [clip_t, t2]) (by simp [clip_t, t6]) (by simp [clip_t, t7]) (by simp [clip_t]) (by simp [clip_t]) ((xr.trans x2).trans x3)
theorem stands_ok (orc : FuncId → Bool) (h : PFr A G p sl bs dv S D N) {v1 : Value} (hv : SlR rBool G v1 (isS S)) (hS : S.length < 2 ^ 36) (hD : D.length < 2 ^ 36) (hnS : NnS S) (hnD : NnD D) (hsum : sumD D + sumS S = N) (hN : N ≤ 100) :
    ∃ G', (E orc).cl 54 [P0 p, v1, .int .i64 N] G = some (.bool true, G') ∧ Ext G G' := by
  have h1 := hnS.sum
  have h2 := hnD.sum
  have w : Wp (s54 true (exL Q orc) (P0 p) v1 (.int .i64 N) G) fun q => q.1 = .bool true ∧ Ext G q.2 := by
    obtain ⟨vd, G1, e43, x1, r1⟩ := deeds_ok orc h hD
    simp [s54, e43]
    refine Wp.bE ((sum_lp orc (u0 := P0 p) (u1 := v1) (u2 := .int .i64 N) (u6 := .bool false) r1.is hD hnD (by omega) D.length 0 _ (by omega) (by simp [sumD]) (by simp) (by simp) (by simp) (by simp) (by simp) (by simp)).mono ?_)
    rintro ⟨e, τ, G2⟩ ⟨rfl, hG, t7, t0, t1, t2, t6⟩
    simp only at hG t7 t0 t1 t2 t6
    subst hG
    simp
    refine Wp.bE ((core_lp orc (h.kept x1.nx fun g hg => x1.obj g (h.un g hg)) (u2 := .int .i64 N) (u6 := .bool false) (hv.ext x1) hS hnS h2 (by omega) S.length 0 _ _ (.slice none 0 0) (by omega) (by simp [t0]) (by simp [t1]) (by simp [t2]) (by simp [t6]) (by simp [t7, sumS]) (by simp) (by simp) (Ext.refl _) (by simpa [busyF, lof] using OwR.nil _ _)).mono ?_)
    rintro ⟨e, τ', G3⟩ ⟨rfl, x3, s0, s2, s6, s7, r3⟩
    simp only at x3 s0 s2 s6 s7 r3
    simp
    have x13 := x1.trans x3
    refine Wp.bE ((turns_lp orc h (u2 := .int .i64 N) (u6 := .bool false) (u7 := .int .i64 N) (v := τ' 10) x13 r3.is hS (busyF 0 S).length 0 _ _ (by omega) (by simp [s0]) (by simp [s2]) (by simp [s6]) (by simp [s7, hsum]) (by simp) (by simp) (Ext.refl _)).mono ?_)
    rintro ⟨e, τ'', G4⟩ ⟨rfl, x4, q0, q2, q6, q7, q10⟩
    simp only at x4 q0 q2 q6 q7 q10
    have y4 := x13.trans x4
    have e49 := all_ok orc (h.kept y4.nx fun g hg => y4.obj g (h.un g hg))
    obtain ⟨v5, G5, e42, x5, r5⟩ := busy_ok orc (h.kept y4.nx fun g hg => y4.obj g (h.un g hg)) hS
    have hbl : (busyF 0 S).length < 2 ^ 40 := by have := lof_length S 0; simp [busyF]; omega
    obtain ⟨G6, e45, x6⟩ := same45 orc r5.is (r3.is.ext (x4.trans x5)) (by omega)
    obtain ⟨a, c, hl⟩ := r3.is.len
    rw [hl] at q10 e45
    have y6 := (y4.trans x5).trans x6
    obtain ⟨G7, e47, x7⟩ := turn_ok orc (h.kept y6.nx fun g hg => y6.obj g (h.un g hg)) hS N
    by_cases hb : 0 < (busyF 0 S).length
    · have hb' : (0 : Int) < (busyF 0 S).length := by omega
      simp [q0, q2, q6, q7, q10, e49, e42, e45, hb]
      exact y6
    · have hb0 : busyF 0 S = [] := List.eq_nil_of_length_eq_zero (by omega)
      have hl0 : (busyF 0 S).length = 0 := by rw [hb0]; rfl
      rw [hb0] at e47
      rw [hl0] at q10 e45
      simp [turnI] at e47 e45
      simp [q0, q2, q6, q7, q10, e49, e42, e45, e47]
      exact y6.trans x7
  obtain ⟨⟨v, G'⟩, e1, rfl, e3⟩ := w
  exact ⟨G', f54 (exL_ok Q orc) _ _ _ G _ e1, e3⟩
end
end Go.Proofs.Ytglafaecdpilgaa.Lift
