/- contracts of the program's functions -/
import Derived.Test.YtocbppgkgcoehaaDoorQB
import Derived.Test.YtocbppgkgcoehaaDoorD2
set_option linter.unusedVariables false
set_option linter.unusedSimpArgs false
set_option maxRecDepth 20000
namespace Go.Proofs.YtocbppgkgcoehaaDoor.Lift
open Go Go.Proofs.YtocbppgkgcoehaaDoor.Gh Go.Proofs
/-! ### The document's All, and what is behind an answer -/
section
variable {B G : GS} {A : List Int} {v0 : Value}
theorem rall_lp (orc : FuncId → Bool) (hA : SlR (rowsI .i64) B v0 A) (hlen : A.length < 2 ^ 36) : ∀ (k i : Nat) (τ : Env) (G : GS) (v : Value), i + k = A.length → τ 0 = v0 → τ 5 = v → τ 6 = .int .i64 (i : Int) → Ext B G → OwR rAn B.nx G v ((A.take i).map fun x => ((0, x, 0) : An)) →
    Wp ((exL Q orc).lpx 13 0 τ G) fun q => q.1 = .exit 1 ∧ Ext B q.2.2 ∧ OwR rAn B.nx q.2.2 (q.2.1 5) (A.map fun x => ((0, x, 0) : An)) := by
  intro k
  induction k with
  | zero =>
    intro i τ G v hi t0 t5 t6 x hv
    have hi' : i = A.length := by omega
    obtain ⟨a, c, e0⟩ := hA.len
    rw [hi', List.take_length] at hv
    refine Wp.lp (l13_0 (exL_ok Q orc)) ?_
    subst hi'
    simp [b13_0, clip_t, t0, t5, t6, e0]
    exact ⟨x, hv⟩
  | succ k ih =>
    intro i τ G v hi t0 t5 t6 x hv
    have hlt : i < A.length := by omega
    have hw : IntKind.wrap .i64 ((i : Int) + 1) = ((i + 1 : Nat) : Int) := wrap64 (by omega) (by omega)
    have h1 : (i : Int) < A.length := by omega
    have h2 : (0 : Int) ≤ i := by omega
    obtain ⟨b, o, c, e0, _, q, _⟩ := (hA.ext x).at hlt
    have q0 := q 0 (by decide)
    simp at q0
    have hT : A.take (i + 1) = A.take i ++ [A[i]] := by rw [List.take_add_one, List.getElem?_eq_getElem hlt]; rfl
    generalize A[i] = y at *
    have x1 := x.push ⟨rAn.row (0, y, 0), 3, false, 1⟩
    obtain ⟨v', G', e6, x6, w6⟩ := (hv.ext ((Ext.refl G).push ⟨rAn.row (0, y, 0), 3, false, 1⟩)).app (A := B) (ib := 24) (by decide) x1 (SlR.one rAn G (0, y, 0)) (by simp; omega)
    simp only [rAn_sz, rAn_row] at e6
    refine Wp.lp (l13_0 (exL_ok Q orc)) ?_
    simp [-Int.natCast_add, b13_0, clip_t, t0, t5, t6, e0, h1, h2, hlt, q0, e6, hw]
    refine Wp.mono (ih (i + 1) _ G' v' (by omega) ?_ ?_ ?_ x6 (by rw [hT, List.map_append]; exact w6)) fun q hq => hq
    · simp [clip_t, e0]
    · simp [clip_t]
    · simp [clip_t]
theorem rall_ok (orc : FuncId → Bool) (hA : SlR (rowsI .i64) G v0 A) (hlen : A.length < 2 ^ 36) (op : Opn) : ∃ v G', (E orc).cl 13 [v0, opV op] G = some (v, G') ∧ Ext G G' ∧ OwR rAn G.nx G' v (allA A op) := by
  have w : Wp ((E orc).cl 13 [v0, opV op] G) fun q => Ext G q.2 ∧ OwR rAn G.nx q.2 q.1 (allA A op) := by
    refine Wp.ref (f13 (exL_ok Q orc) _ _ G) ?_
    obtain ⟨k, a, b, u⟩ := op
    have x0 : Ext G (G.push ⟨[.int .i64 k, .int .i64 a, .int .i64 b, .int .u64 u], 1, false, 1⟩) := (Ext.refl G).push _
    obtain ⟨G1, e1, x1⟩ := rcheck_ok orc (hA.ext x0) (by omega)
    have y1 := x0.trans x1
    have n1 := x1.nx
    simp at n1
    have o1 : G1.obj G.nx = some ⟨[.int .i64 k, .int .i64 a, .int .i64 b, .int .u64 u], 1, false, 1⟩ := by rw [x1.obj G.nx (by simp)]; simp
    unfold allA
    by_cases hk : checkI A = 0
    · rw [hk] at e1
      by_cases h7 : k = 7
      · subst h7
        simp [s13, e1, o1, hk]
        refine Wp.bE ((rall_lp orc (hA.ext y1) hlen A.length 0 _ G1 (.slice none 0 0) (by omega) (by simp) (by simp) (by simp) (Ext.refl _) (OwR.nil _ _)).mono ?_)
        rintro ⟨e, τ, G2⟩ ⟨rfl, x2, w2⟩
        simp only at x2 w2
        have x3 : Ext G2 (G2.push ⟨rAn.flat [(7, 0, 0), (12, 0, 0)], 3, false, 1⟩) := (Ext.refl _).push _
        obtain ⟨v', G3, e3, x4, w4⟩ := (w2.ext x3).app (A := G1) (ib := 24) (by decide) (x2.trans x3) (SlR.block (e := rAn) (b := G2.nx) (L := [(7, 0, 0), (12, 0, 0)]) (op := false) (by simp) (by simp)) (by simp; omega)
        have hfl : rAn.flat [(7, 0, 0), (12, 0, 0)] = [.int .i64 7, .int .i64 0, .int .u64 0, .int .i64 12, .int .i64 0, .int .u64 0] := rfl
        rw [hfl] at e3
        simp at e3
        simp [e3]
        exact ⟨y1.trans x4, w4.mono y1.nx⟩
      · by_cases h8 : k = 8
        · subst h8
          have y1' := y1
          cases hi : inI a with
          | false =>
            obtain ⟨v, G4, e5, x5, w5⟩ := app_one (Ext.refl G1) (3, 0, 0)
            simp at e5
            simp [s13, e1, o1, hk, index_ok, hi, e5]
            exact ⟨y1.trans x5, w5.mono y1.nx⟩
          | true =>
            have ea := among_ok' orc (hA.ext y1) (by omega) a
            by_cases hm : a ∈ A
            · obtain ⟨v, G4, e5, x5, w5⟩ := app_one (Ext.refl G1) (8, 0, 0)
              simp at e5
              simp [s13, e1, o1, hk, index_ok, hi, ea, hm, e5]
              exact ⟨y1.trans x5, w5.mono y1.nx⟩
            · obtain ⟨v, G4, e5, x5, w5⟩ := app_one (Ext.refl G1) (0, 0, 0)
              simp at e5
              simp [s13, e1, o1, hk, index_ok, hi, ea, hm, e5]
              exact ⟨y1.trans x5, w5.mono y1.nx⟩
        · simp [s13, e1, o1, hk, h7, h8]
          exact ⟨y1, OwR.nil _ _⟩
    · simp [s13, e1, hk]
      exact ⟨y1, OwR.nil _ _⟩
  obtain ⟨⟨v, G'⟩, e, e1, e2⟩ := w
  exact ⟨v, G', e, e1, e2⟩
/-- is a number free behind an answer that was OK? -/
def behP (l : List Int) (op : Opn) (an : An) (j : Nat) : Bool := if op.1 = 8 ∧ (j : Int) = op.2.1 then true else if op.1 = 7 ∧ (j : Int) = an.2.1 then false else decide ((j : Int) ∈ l)
def behN (l : List Int) (op : Opn) (an : An) (n : Nat) : List Int := ((List.range n).filter (behP l op an)).map fun n : Nat => (n : Int)
def behA (l : List Int) (op : Opn) (an : An) : List Int := if an.1 = 0 then behN l op an 1024 else l
theorem behN_succ (l : List Int) (op : Opn) (an : An) (i : Nat) : behN l op an (i + 1) = behN l op an i ++ (if behP l op an i = true then [(i : Int)] else []) := by
  unfold behN
  rw [List.range_succ, List.filter_append, List.map_append]
  congr 1
  by_cases h : behP l op an i = true <;> simp [h]
theorem behN_len (l : List Int) (op : Opn) (an : An) (i : Nat) : (behN l op an i).length ≤ i := by
  unfold behN
  have := List.length_filter_le (behP l op an) (List.range i)
  simpa using this
set_option maxHeartbeats 2000000 in
theorem beh_lp (orc : FuncId → Bool) {ob ab : Nat} {op : Opn} {an : An} (hA : SlR (rowsI .i64) B v0 A) (hlen : A.length < 2 ^ 36) (hob : ob < B.nx) (hab : ab < B.nx) (oo : B.obj ob = some ⟨[.int .i64 op.1, .int .i64 op.2.1, .int .i64 op.2.2.1, .int .u64 op.2.2.2], 1, false, 1⟩) (oa : B.obj ab = some ⟨[.int .i64 an.1, .int .i64 an.2.1, .int .u64 an.2.2], 1, false, 1⟩) :
    ∀ (k i : Nat) (τ : Env) (G : GS) (v : Value), i + k = 1024 → τ 0 = v0 → τ 4 = P0 ob → τ 5 = P0 ab → τ 7 = v → τ 8 = .int .i64 (i : Int) → Ext B G → OwR (rowsI .i64) B.nx G v (behN A op an i) →
    Wp ((exL Q orc).lpx 39 0 τ G) fun q => q.1 = .exit 0 ∧ Ext B q.2.2 ∧ OwR (rowsI .i64) B.nx q.2.2 (q.2.1 7) (behN A op an 1024) := by
  obtain ⟨ok, oA, oB, oW⟩ := op
  obtain ⟨ae, aN, aW⟩ := an
  intro k
  induction k with
  | zero =>
    intro i τ G v hi t0 t4 t5 t7 t8 x hv
    have hi' : i = 1024 := by omega
    rw [hi'] at hv
    refine Wp.lp (l39_0 (exL_ok Q orc)) ?_
    subst hi'
    simp [b39_0, bb39_0, clip_t, t0, t4, t5, t7, t8]
    exact ⟨x, hv⟩
  | succ k ih =>
    intro i τ G v hi t0 t4 t5 t7 t8 x hv
    have hlt : i < 1024 := by omega
    have hw : IntKind.wrap .i64 ((i : Int) + 1) = ((i + 1 : Nat) : Int) := wrap64 (by omega) (by omega)
    have h1 : (i : Int) < 1024 := by omega
    have ea := among_ok' orc (hA.ext x) (by omega) (i : Int)
    have oo1 := (x.obj ob hob).trans oo
    have oa1 := (x.obj ab hab).trans oa
    have hl := behN_len A (ok, oA, oB, oW) (ae, aN, aW) i
    have stay : ∀ τ' : Env, behP A (ok, oA, oB, oW) (ae, aN, aW) i = false → τ' 0 = v0 → τ' 4 = P0 ob → τ' 5 = P0 ab → τ' 7 = v → τ' 8 = .int .i64 ((i + 1 : Nat) : Int) → Wp ((exL Q orc).lpx 39 0 τ' G) fun q => q.1 = .exit 0 ∧ Ext B q.2.2 ∧ OwR (rowsI .i64) B.nx q.2.2 (q.2.1 7) (behN A (ok, oA, oB, oW) (ae, aN, aW) 1024) := fun τ' hp a0 a4 a5 a7 a8 =>
      ih (i + 1) τ' G v (by omega) a0 a4 a5 a7 a8 x (by rw [behN_succ, hp]; simpa using hv)
    have x1 := x.push ⟨(rowsI .i64).row (i : Int), 1, false, 1⟩
    obtain ⟨v', G', e6, x6, w6⟩ := (hv.ext ((Ext.refl G).push ⟨(rowsI .i64).row (i : Int), 1, false, 1⟩)).app (A := B) (ib := 8) (by decide) x1 (SlR.one (rowsI .i64) G (i : Int)) (by simp; omega)
    simp only [rowsI_sz, rowsI_row] at e6
    have goes : ∀ τ' : Env, behP A (ok, oA, oB, oW) (ae, aN, aW) i = true → τ' 0 = v0 → τ' 4 = P0 ob → τ' 5 = P0 ab → τ' 7 = v' → τ' 8 = .int .i64 ((i + 1 : Nat) : Int) → Wp ((exL Q orc).lpx 39 0 τ' G') fun q => q.1 = .exit 0 ∧ Ext B q.2.2 ∧ OwR (rowsI .i64) B.nx q.2.2 (q.2.1 7) (behN A (ok, oA, oB, oW) (ae, aN, aW) 1024) := fun τ' hp a0 a4 a5 a7 a8 =>
      ih (i + 1) τ' G' v' (by omega) a0 a4 a5 a7 a8 x6 (by rw [behN_succ, hp]; simpa using w6)
    clear ih
    refine Wp.lp (l39_0 (exL_ok Q orc)) ?_
    by_cases h8 : ok = 8
    · subst h8
      by_cases hj : (i : Int) = oA
      · simp [-Int.natCast_add, b39_0, bb39_0, jl39_0_0, jbl39_0_0, jl39_0_1, jbl39_0_1, jl39_0_2, jbl39_0_2, clip_t, t0, t4, t5, t7, t8, h1, hlt, ea, oo1, oa1, eq_true hj, e6, hw]
        refine goes _ (by simp [behP, eq_true hj]) ?_ ?_ ?_ ?_ ?_ <;> simp [clip_t, t0, t4, t5]
      · by_cases hm : (i : Int) ∈ A
        · simp [-Int.natCast_add, b39_0, bb39_0, jl39_0_0, jbl39_0_0, jl39_0_1, jbl39_0_1, jl39_0_2, jbl39_0_2, clip_t, t0, t4, t5, t7, t8, h1, hlt, ea, oo1, oa1, hj, hm, e6, hw]
          refine goes _ (by simp [behP, hj, hm]) ?_ ?_ ?_ ?_ ?_ <;> simp [clip_t, t0, t4, t5]
        · simp [-Int.natCast_add, b39_0, bb39_0, jl39_0_0, jbl39_0_0, jl39_0_1, jbl39_0_1, jl39_0_2, jbl39_0_2, clip_t, t0, t4, t5, t7, t8, h1, hlt, ea, oo1, oa1, hj, hm, hw]
          refine stay _ (by simp [behP, hj, hm]) ?_ ?_ ?_ ?_ ?_ <;> simp [clip_t, t0, t4, t5, t7]
    · by_cases h7 : ok = 7
      · subst h7
        by_cases hj : (i : Int) = aN
        · by_cases hm : (i : Int) ∈ A
          · simp [-Int.natCast_add, b39_0, bb39_0, jl39_0_0, jbl39_0_0, jl39_0_1, jbl39_0_1, jl39_0_2, jbl39_0_2, clip_t, t0, t4, t5, t7, t8, h1, hlt, ea, oo1, oa1, eq_true hj, hm, hw]
            refine stay _ (by simp [behP, eq_true hj, hm]) ?_ ?_ ?_ ?_ ?_ <;> simp [clip_t, t0, t4, t5, t7]
          · simp [-Int.natCast_add, b39_0, bb39_0, jl39_0_0, jbl39_0_0, jl39_0_1, jbl39_0_1, jl39_0_2, jbl39_0_2, clip_t, t0, t4, t5, t7, t8, h1, hlt, ea, oo1, oa1, eq_true hj, hm, hw]
            refine stay _ (by simp [behP, eq_true hj, hm]) ?_ ?_ ?_ ?_ ?_ <;> simp [clip_t, t0, t4, t5, t7]
        · by_cases hm : (i : Int) ∈ A
          · simp [-Int.natCast_add, b39_0, bb39_0, jl39_0_0, jbl39_0_0, jl39_0_1, jbl39_0_1, jl39_0_2, jbl39_0_2, clip_t, t0, t4, t5, t7, t8, h1, hlt, ea, oo1, oa1, hj, hm, e6, hw]
            refine goes _ (by simp [behP, hj, hm]) ?_ ?_ ?_ ?_ ?_ <;> simp [clip_t, t0, t4, t5]
          · simp [-Int.natCast_add, b39_0, bb39_0, jl39_0_0, jbl39_0_0, jl39_0_1, jbl39_0_1, jl39_0_2, jbl39_0_2, clip_t, t0, t4, t5, t7, t8, h1, hlt, ea, oo1, oa1, hj, hm, hw]
            refine stay _ (by simp [behP, hj, hm]) ?_ ?_ ?_ ?_ ?_ <;> simp [clip_t, t0, t4, t5, t7]
      · by_cases hm : (i : Int) ∈ A
        · simp [-Int.natCast_add, b39_0, bb39_0, jl39_0_0, jbl39_0_0, jl39_0_1, jbl39_0_1, jl39_0_2, jbl39_0_2, clip_t, t0, t4, t5, t7, t8, h1, hlt, ea, oo1, oa1, h7, h8, hm, e6, hw]
          refine goes _ (by simp [behP, h7, h8, hm]) ?_ ?_ ?_ ?_ ?_ <;> simp [clip_t, t0, t4, t5]
        · simp [-Int.natCast_add, b39_0, bb39_0, jl39_0_0, jbl39_0_0, jl39_0_1, jbl39_0_1, jl39_0_2, jbl39_0_2, clip_t, t0, t4, t5, t7, t8, h1, hlt, ea, oo1, oa1, h7, h8, hm, hw]
          refine stay _ (by simp [behP, h7, h8, hm]) ?_ ?_ ?_ ?_ ?_ <;> simp [clip_t, t0, t4, t5, t7]
theorem behind_ok (orc : FuncId → Bool) (hA : SlR (rowsI .i64) G v0 A) (hlen : A.length < 2 ^ 36) (op : Opn) (an : An) : ∃ v G', (E orc).cl 39 [v0, opV op, anV an] G = some (v, G') ∧ Ext G G' ∧ OwR (rowsI .i64) G.nx G' v (behA A op an) := by
  have w : Wp ((E orc).cl 39 [v0, opV op, anV an] G) fun q => Ext G q.2 ∧ OwR (rowsI .i64) G.nx q.2 q.1 (behA A op an) := by
    refine Wp.ref (f39 (exL_ok Q orc) _ _ _ G) ?_
    obtain ⟨G1, hG1⟩ : ∃ G1, G1 = (G.push ⟨[.int .i64 op.1, .int .i64 op.2.1, .int .i64 op.2.2.1, .int .u64 op.2.2.2], 1, false, 1⟩).push ⟨[.int .i64 an.1, .int .i64 an.2.1, .int .u64 an.2.2], 1, false, 1⟩ := ⟨_, rfl⟩
    have x1 : Ext G G1 := by rw [hG1]; exact ((Ext.refl G).push _).push _
    have n1 : G1.nx = G.nx + 2 := by rw [hG1]; rfl
    have oo : G1.obj G.nx = some ⟨[.int .i64 op.1, .int .i64 op.2.1, .int .i64 op.2.2.1, .int .u64 op.2.2.2], 1, false, 1⟩ := by rw [hG1]; simp
    have oa : G1.obj (G.nx + 1) = some ⟨[.int .i64 an.1, .int .i64 an.2.1, .int .u64 an.2.2], 1, false, 1⟩ := by rw [hG1]; simp
    unfold behA
    by_cases h0 : an.1 = 0
    · rw [h0] at oa hG1
      simp [s39, h0]
      rw [← hG1]
      refine Wp.bE ((beh_lp orc (op := op) (an := an) (B := G1) (ob := G.nx) (ab := G.nx + 1) (hA.ext x1) hlen (by omega) (by omega) oo (by rw [h0]; exact oa) 1024 0 _ G1 (.slice none 0 0) (by omega) (by simp) (by simp) (by simp) (by simp) (by simp) (Ext.refl _) (OwR.nil _ _)).mono ?_)
      rintro ⟨e, τ, G2⟩ ⟨rfl, x2, w2⟩
      simp only at x2 w2
      simp
      exact ⟨x1.trans x2, w2.mono x1.nx⟩
    · obtain ⟨v, G2, e2, x2, w2⟩ := copy9 orc (hA.ext x1) (by omega)
      simp [s39, h0, ← hG1, oa, e2]
      exact ⟨x1.trans x2, w2.mono x1.nx⟩
  obtain ⟨⟨v, G'⟩, e, e1, e2⟩ := w
  exact ⟨v, G', e, e1, e2⟩
end
end Go.Proofs.YtocbppgkgcoehaaDoor.Lift

set_option linter.unusedVariables false
set_option linter.unusedSimpArgs false
set_option maxRecDepth 20000
namespace Go.Proofs.YtocbppgkgcoehaaDoor.Lift
open Go Go.Proofs.YtocbppgkgcoehaaDoor.Gh Go.Proofs
/-! ### Next -/
def nextA (l : List Int) (op : Opn) (an : An) : List Int × Bool := if an ∈ allA l op then (behA l op an, true) else ([], false)
section
variable {B G : GS} {A : List Int} {v0 v1 : Value} {L : List An}
theorem rnext_lp (orc : FuncId → Bool) {ob ab : Nat} {op : Opn} {an : An} (hA : SlR (rowsI .i64) B v0 A) (hlen : A.length < 2 ^ 36) (hL : SlR rAn B v1 L) (hlenL : L.length < 2 ^ 40) (hob : ob < B.nx) (hab : ab < B.nx) (oo : B.obj ob = some ⟨[.int .i64 op.1, .int .i64 op.2.1, .int .i64 op.2.2.1, .int .u64 op.2.2.2], 1, false, 1⟩) (oa : B.obj ab = some ⟨[.int .i64 an.1, .int .i64 an.2.1, .int .u64 an.2.2], 1, false, 1⟩) :
    ∀ (k i : Nat) (τ : Env) (G : GS), i + k = L.length → τ 0 = v0 → τ 4 = P0 ob → τ 5 = P0 ab → τ 8 = v1 → τ 9 = .int .i64 (i : Int) → Ext B G →
    Wp ((exL Q orc).lpx 11 0 τ G) fun q => Ext B q.2.2 ∧ ((q.1 = .exit 0 ∧ an ∉ L.drop i) ∨ (q.1 = .ret ∧ an ∈ L.drop i ∧ q.2.1 7 = .bool true ∧ OwR (rowsI .i64) B.nx q.2.2 (q.2.1 6) (behA A op an))) := by
  intro k
  induction k with
  | zero =>
    intro i τ G hi t0 t4 t5 t8 t9 x
    have hi' : i = L.length := by omega
    obtain ⟨a, c, e0⟩ := hL.len
    refine Wp.lp (l11_0 (exL_ok Q orc)) ?_
    subst hi'
    simp [b11_0, clip_t, t0, t4, t5, t8, t9, e0]
    exact x
  | succ k ih =>
    intro i τ G hi t0 t4 t5 t8 t9 x
    have hlt : i < L.length := by omega
    have hw : IntKind.wrap .i64 ((i : Int) + 1) = ((i + 1 : Nat) : Int) := wrap64 (by omega) (by omega)
    have h1 : (i : Int) < L.length := by omega
    have h2 : (0 : Int) ≤ i := by omega
    have x6 := x.room 6
    obtain ⟨b, o, c, e0, _, _, q0⟩ := (hL.ext x).at hlt
    simp only [rAn_sz, rAn_row] at q0
    have oo1 := (x.obj ob hob).trans oo
    have oa1 := (x.obj ab hab).trans oa
    rw [List.drop_eq_getElem_cons hlt]
    generalize hy : L[i] = y at *
    have heq := eq_an (.tmp 22) (.tmp 23) y an
    refine Wp.lp (l11_0 (exL_ok Q orc)) ?_
    by_cases hc : y = an
    · subst hc
      obtain ⟨v', G', e6, x7, w7⟩ := behind_ok orc (hA.ext x6) hlen op y
      simp only [decide_true] at heq
      simp [-loadA_s, -Int.natCast_add, b11_0, clip_t, t0, t4, t5, t8, t9, e0, h1, h2, hlt, q0, loadA_whole oa1, loadA_whole oo1, heq, e6]
      exact ⟨x6.trans x7, w7.mono x6.nx⟩
    · have hc' : ¬ an = y := fun e => hc e.symm
      simp only [hc, decide_false] at heq
      simp [-loadA_s, -Int.natCast_add, b11_0, clip_t, t0, t4, t5, t8, t9, e0, h1, h2, hlt, q0, loadA_whole oa1, loadA_whole oo1, heq, hw]
      refine Wp.mono (ih (i + 1) _ (G.room 6) (by omega) ?_ ?_ ?_ ?_ ?_ x6) fun q hq => ?_
      · simp [clip_t, t0]
      · simp [clip_t, t4]
      · simp [clip_t, t5]
      · simp [clip_t, e0]
      · simp [clip_t]
      · simpa [hc'] using hq
theorem allA_len (l : List Int) (op : Opn) : (allA l op).length ≤ l.length + 2 := by
  unfold allA
  split
  · split
    · simp
    · split <;> simp
  · simp
theorem rnext_ok (orc : FuncId → Bool) (hA : SlR (rowsI .i64) G v0 A) (hlen : A.length < 2 ^ 36) (op : Opn) (an : An) : ∃ v G', (E orc).cl 11 [v0, opV op, anV an] G = some (.tuple #[v, .bool (nextA A op an).2], G') ∧ Ext G G' ∧ OwR (rowsI .i64) G.nx G' v (nextA A op an).1 := by
  have w : Wp ((E orc).cl 11 [v0, opV op, anV an] G) fun q => ∃ v, q.1 = .tuple #[v, .bool (nextA A op an).2] ∧ Ext G q.2 ∧ OwR (rowsI .i64) G.nx q.2 v (nextA A op an).1 := by
    refine Wp.ref (f11 (exL_ok Q orc) _ _ _ G) ?_
    obtain ⟨G1, hG1⟩ : ∃ G1, G1 = (G.push ⟨[.int .i64 op.1, .int .i64 op.2.1, .int .i64 op.2.2.1, .int .u64 op.2.2.2], 1, false, 1⟩).push ⟨[.int .i64 an.1, .int .i64 an.2.1, .int .u64 an.2.2], 1, false, 1⟩ := ⟨_, rfl⟩
    have x1 : Ext G G1 := by rw [hG1]; exact ((Ext.refl G).push _).push _
    have n1 : G1.nx = G.nx + 2 := by rw [hG1]; rfl
    have oo : G1.obj G.nx = some ⟨[.int .i64 op.1, .int .i64 op.2.1, .int .i64 op.2.2.1, .int .u64 op.2.2.2], 1, false, 1⟩ := by rw [hG1]; simp
    have oa : G1.obj (G.nx + 1) = some ⟨[.int .i64 an.1, .int .i64 an.2.1, .int .u64 an.2.2], 1, false, 1⟩ := by rw [hG1]; simp
    obtain ⟨v1, G2, e2, x2, w2⟩ := rall_ok orc (hA.ext x1) hlen op
    have y2 := x1.trans x2
    have hl := allA_len A op
    have n2 := x2.nx
    simp [s11, ← hG1, oo, e2]
    refine Wp.bE ((rnext_lp orc (op := op) (an := an) (B := G2) (ob := G.nx) (ab := G.nx + 1) (hA.ext y2) hlen w2.is (by omega) (by omega) (by omega) ((x2.obj _ (by omega)).trans oo) ((x2.obj _ (by omega)).trans oa) (allA A op).length 0 _ G2 (by omega) (by simp) (by simp) (by simp) (by simp) (by simp) (Ext.refl _)).mono ?_)
    rintro ⟨e, τ, G3⟩ ⟨x3, (⟨h1, h2⟩ | ⟨h1, h2, h3, h4⟩)⟩
    · simp only [List.drop_zero] at x3 h1 h2
      subst h1
      simp [nextA, h2]
      exact ⟨y2.trans x3, OwR.nil _ _⟩
    · simp only [List.drop_zero] at x3 h1 h2 h3 h4
      subst h1
      simp [nextA, h2, h3]
      exact ⟨y2.trans x3, h4.mono y2.nx⟩
  obtain ⟨⟨v, G'⟩, e, v', rfl, e1, e2⟩ := w
  exact ⟨v', G', e, e1, e2⟩
end
end Go.Proofs.YtocbppgkgcoehaaDoor.Lift

set_option linter.unusedVariables false
set_option linter.unusedSimpArgs false
set_option maxRecDepth 20000
namespace Go.Proofs.YtocbppgkgcoehaaDoor.Lift
open Go Go.Proofs.YtocbppgkgcoehaaDoor.Gh Go.Proofs
/-! ### Next, by the program -/
theorem inI_nat {x : Int} (h : inI x = true) : x.toNat < 1024 ∧ ((x.toNat : Nat) : Int) = x := by simp [inI] at h; omega
theorem mem_behN {l : List Int} {op : Opn} {an : An} {x : Int} : x ∈ behN l op an 1024 ↔ inI x = true ∧ behP l op an x.toNat = true := by
  unfold behN
  simp only [List.mem_map, List.mem_filter, List.mem_range]
  constructor
  · rintro ⟨n, ⟨h1, h2⟩, rfl⟩
    exact ⟨by simp [inI]; omega, by simpa using h2⟩
  · rintro ⟨h1, h2⟩
    obtain ⟨h3, h4⟩ := inI_nat h1
    exact ⟨x.toNat, ⟨h3, h2⟩, h4⟩
theorem behN_asc (l : List Int) (op : Opn) (an : An) : (behN l op an 1024).Pairwise (· < ·) := by
  unfold behN
  rw [List.pairwise_map]
  exact (asc_range _ _).imp fun h => by omega
theorem els_free {l : List Int} {op : Opn} {an : An} (h8 : op.1 = 8) (hi : inI op.2.1 = true) (h0 : op.2.1 ∉ l) : elsI (withW (ofW l) op.2.1.toNat) = behN l op an 1024 := by
  refine asc_extI (elsI_asc _) (behN_asc _ _ _) fun x => ?_
  rw [mem_elsI, mem_behN]
  obtain ⟨h3, h4⟩ := inI_nat hi
  refine and_congr_right fun hx => ?_
  obtain ⟨h5, h6⟩ := inI_nat hx
  rw [has_with (ofW_ok l) h3, has_of l h5]
  unfold behP
  rw [h6]
  by_cases hj : x = op.2.1
  · rw [if_pos ⟨h8, hj⟩, hj]; simp
  · rw [if_neg (fun h => hj h.2), if_neg (fun h => by omega)]
    have : ¬ x.toNat = op.2.1.toNat := by omega
    simp [this]
theorem els_alloc {l : List Int} {op : Opn} {an : An} (h7 : op.1 = 7) (hi : inI an.2.1 = true) : elsI (woW (ofW l) an.2.1.toNat) = behN l op an 1024 := by
  refine asc_extI (elsI_asc _) (behN_asc _ _ _) fun x => ?_
  rw [mem_elsI, mem_behN]
  obtain ⟨h3, h4⟩ := inI_nat hi
  refine and_congr_right fun hx => ?_
  obtain ⟨h5, h6⟩ := inI_nat hx
  rw [has_wo (ofW_ok l) h3, has_of l h5]
  unfold behP
  rw [h6, if_neg (fun h => by omega)]
  by_cases hj : x = an.2.1
  · rw [if_pos ⟨h7, hj⟩, hj]; simp
  · rw [if_neg (fun h => hj h.2)]
    have : ¬ x.toNat = an.2.1.toNat := by omega
    simp [this]
/-- a Free: what is answered, and what is free then -/
theorem next_free {l : List Int} {op : Opn} {an : An} (hc : checkI l = 0) (h8 : op.1 = 8) : nextA l op an = if (freeI (ofW l) op.2.1).1 = an then (elsI (freeI (ofW l) op.2.1).2, true) else ([], false) := by
  have h7 : ¬ op.1 = 7 := by omega
  unfold nextA allA behA
  rw [if_pos hc, if_neg h7, if_pos h8]
  simp only [List.mem_singleton]
  unfold freeI
  by_cases hi : inI op.2.1 = true
  · obtain ⟨h3, h4⟩ := inI_nat hi
    rw [if_pos hi, if_pos hi, has_of l h3, h4]
    by_cases hm : op.2.1 ∈ l
    · simp only [hm, decide_true, if_true]
      by_cases ha : an = (8, 0, 0)
      · subst ha; simp [elsI_of hc]
      · rw [if_neg ha, if_neg (fun h => ha h.symm)]
    · simp only [hm, decide_false, if_false, Bool.false_eq_true]
      by_cases ha : an = (0, 0, 0)
      · subst ha; simp [els_free (an := (0, 0, 0)) h8 hi hm]
      · rw [if_neg ha, if_neg (fun h => ha h.symm)]
  · rw [if_neg hi, if_neg hi]
    by_cases ha : an = (3, 0, 0)
    · subst ha; simp [elsI_of hc]
    · rw [if_neg ha, if_neg (fun h => ha h.symm)]
/-- an Alloc -/
theorem next_alloc {l : List Int} {op : Opn} {an : An} (hc : checkI l = 0) (h7 : op.1 = 7) : nextA l op an = if an = (7, 0, 0) ∨ an = (12, 0, 0) then (elsI (ofW l), true) else if inI an.2.1 = true ∧ an = (0, an.2.1, 0) ∧ has (ofW l) an.2.1.toNat = true then (elsI (woW (ofW l) an.2.1.toNat), true) else ([], false) := by
  have hrng := (checkI_zero.1 hc).1
  unfold nextA allA behA
  rw [if_pos hc, if_pos h7]
  by_cases hr : an = (7, 0, 0) ∨ an = (12, 0, 0)
  · rw [if_pos hr, if_pos (by simp only [List.mem_append, List.mem_cons, List.not_mem_nil, or_false]; exact .inr hr), elsI_of hc]
    rcases hr with rfl | rfl <;> simp
  · rw [if_neg hr]
    by_cases hg : inI an.2.1 = true ∧ an = (0, an.2.1, 0) ∧ has (ofW l) an.2.1.toNat = true
    · rw [if_pos hg]
      obtain ⟨h1, h2, h3⟩ := hg
      obtain ⟨h4, h5⟩ := inI_nat h1
      rw [has_of l h4, h5] at h3
      have h0 : an.1 = 0 := by rw [h2]
      rw [if_pos, if_pos h0, els_alloc h7 h1]
      simp only [List.mem_append, List.mem_map]
      exact .inl ⟨an.2.1, by simpa using h3, h2.symm⟩
    · rw [if_neg hg, if_neg]
      simp only [List.mem_append, List.mem_map, List.mem_cons, List.not_mem_nil, or_false]
      rintro (⟨x, hx, rfl⟩ | h)
      · refine hg ⟨List.all_eq_true.1 hrng x hx, rfl, ?_⟩
        obtain ⟨h4, h5⟩ := inI_nat (List.all_eq_true.1 hrng x hx)
        show has (ofW l) x.toNat = true
        rw [has_of l h4, h5]; simpa using hx
      · exact hr h
theorem next_none {l : List Int} {op : Opn} {an : An} (h : checkI l ≠ 0 ∨ (op.1 ≠ 7 ∧ op.1 ≠ 8)) : nextA l op an = ([], false) := by
  unfold nextA allA
  rcases h with h | ⟨h1, h2⟩
  · rw [if_neg h]; simp
  · rw [if_neg h1, if_neg h2]
    split <;> simp
section
variable {B G : GS} {A : List Int} {v0 : Value}
theorem next_ok (orc : FuncId → Bool) (hA : SlR (rowsI .i64) G v0 A) (hlen : A.length < 2 ^ 36) (op : Opn) (an : An) (hG : Tab G) : ∃ v G', (E orc).cl 10 [v0, opV op, anV an] G = some (.tuple #[v, .bool (nextA A op an).2], G') ∧ Ext G G' ∧ OwR (rowsI .i64) G.nx G' v (nextA A op an).1 := by
  have w : Wp ((E orc).cl 10 [v0, opV op, anV an] G) fun q => ∃ v, q.1 = .tuple #[v, .bool (nextA A op an).2] ∧ Ext G q.2 ∧ OwR (rowsI .i64) G.nx q.2 v (nextA A op an).1 := by
    refine Wp.ref (f10 (exL_ok Q orc) _ _ _ G) ?_
    obtain ⟨G1, hG1⟩ : ∃ G1, G1 = (G.push ⟨[.int .i64 op.1, .int .i64 op.2.1, .int .i64 op.2.2.1, .int .u64 op.2.2.2], 1, false, 1⟩).push ⟨[.int .i64 an.1, .int .i64 an.2.1, .int .u64 an.2.2], 1, false, 1⟩ := ⟨_, rfl⟩
    have x1 : Ext G G1 := by rw [hG1]; exact ((Ext.refl G).push _).push _
    have n1 : G1.nx = G.nx + 2 := by rw [hG1]; rfl
    have oo : G1.obj G.nx = some ⟨[.int .i64 op.1, .int .i64 op.2.1, .int .i64 op.2.2.1, .int .u64 op.2.2.2], 1, false, 1⟩ := by rw [hG1]; simp
    have oa : G1.obj (G.nx + 1) = some ⟨[.int .i64 an.1, .int .i64 an.2.1, .int .u64 an.2.2], 1, false, 1⟩ := by rw [hG1]; simp
    obtain ⟨G2, e2, x2⟩ := check_ok orc (hA.ext x1) (by omega)
    have n2 := x2.nx
    by_cases hk : checkI A = 0
    · rw [hk] at e2
      obtain ⟨G3, e3, x3⟩ := of_ok orc (hA.ext (x1.trans x2)) (by omega)
      have n3 := x3.nx
      have hO := ofW_ok A
      obtain ⟨G4, hG4⟩ : ∃ G4, G4 = (G3.push ⟨z57, 1, false, 1⟩).put G3.nx ⟨setC (ofW A), 1, false, 1⟩ := ⟨_, rfl⟩
      have x4 : Ext G3 G4 := by rw [hG4]; exact ((Ext.refl G3).push _).put (Nat.le_refl _) _
      have n4 : G4.nx = G3.nx + 1 := by rw [hG4]; rfl
      have y4 := (x2.trans x3).trans x4
      have oo4 := (y4.obj G.nx (by omega)).trans oo
      have oa4 := (y4.obj (G.nx + 1) (by omega)).trans oa
      have os4 : G4.obj G3.nx = some ⟨setC (ofW A), 1, false, 1⟩ := by rw [hG4]; simp
      have z4 := x1.trans y4
      simp [s10, sb10, ← hG1, e2, e3, setC_sto hO (cs := z57) rfl, ← hG4]
      clear hG1 hG4
      -- what is left to do: the list
      have fin : ∀ (G' : GS) (τ : Env) (W : List Nat), OkW W → Ext G G' → τ 8 = P0 G3.nx → G'.obj G3.nx = some ⟨setC W, 1, false, 1⟩ → Wp (j10_0 true (exL Q orc) τ G') fun q => ∃ v, q.1 = .tuple #[v, .bool true] ∧ Ext G q.2 ∧ OwR (rowsI .i64) G.nx q.2 v (elsI W) := by
        intro G' τ W hW x t8 o
        obtain ⟨v, G7, e7, x7, w7⟩ := list_ok orc hW (hG.ext x)
        simp [j10_0, jb10_0, t8, o, setC_len hW, setC_take hW, e7]
        exact ⟨x.trans x7, w7.mono x.nx⟩
      by_cases h8 : op.1 = 8
      · rw [next_free hk h8]
        obtain ⟨G5, e5, x5⟩ := free_ok orc hO op.2.1 G4
        have n5 := x5.nx
        have hF := freeI_ok hO op.2.1
        generalize hfr : freeI (ofW A) op.2.1 = fr at *
        have oa5 := (x5.obj (G.nx + 1) (by omega)).trans oa4
        have os5 := (x5.obj G3.nx (by omega)).trans os4
        have hne := ne_an (.tmp 29) (.tmp 30) fr.1 an
        have d1 : ¬ G.nx + 1 = G5.nx := by omega
        have d2 : ¬ G.nx + 1 = G5.nx + 1 := by omega
        have d3 : ¬ G3.nx = G5.nx := by omega
        have d4 : ¬ G3.nx = G5.nx + 1 := by omega
        have d5 : ¬ G.nx = G5.nx := by omega
        have y5 : Ext G (((((G5.push ⟨z28, 1, false, 1⟩).push ⟨z57, 1, false, 1⟩).put G5.nx ⟨[.int .i64 fr.1.1, .int .i64 fr.1.2.1, .int .u64 fr.1.2.2], 1, false, 1⟩).put (G5.nx + 1) ⟨setC fr.2, 1, false, 1⟩)) :=
          Ext.put (Ext.put ((((z4.trans x5).push _).push _)) (by omega) _) (by omega) _
        by_cases hc : fr.1 = an
        · simp only [hc, decide_true, Bool.not_true] at hne
          rw [if_pos hc]
          simp only [hc] at y5
          simp [oo4, h8, os4, setC_len hO, setC_take hO, e5, hc, setC_len hF, setC_take hF, setC_allT, d1, d2, d3, d4, d5, oa5, os5, hne]
          refine fin _ _ fr.2 hF ?_ ?_ ?_
          · exact Ext.put y5 (by omega) _
          · simp [clip_t]
          · simp [setC_len hO]
        · have hc' : decide (fr.1 = an) = false := by simpa using hc
          rw [hc'] at hne
          rw [if_neg hc]
          simp [oo4, h8, os4, setC_len hO, setC_take hO, e5, setC_len hF, setC_take hF, setC_allT, d1, d2, d3, d4, d5, oa5, os5, hne]
          exact ⟨y5, OwR.nil _ _⟩
      by_cases h7 : op.1 = 7
      · rw [next_alloc hk h7]
        have q1 := eq_an (.tmp 35) (.tmp 36) an (7, 0, 0)
        have q2 := eq_an (.tmp 39) (.tmp 40) an (12, 0, 0)
        have q3 := eq_an (.tmp 47) (.tmp 50) an (0, an.2.1, 0)
        cases hi : inI an.2.1 with
        | false =>
          by_cases a1 : an = (7, 0, 0)
          · rw [show decide (an = (7, 0, 0)) = true by simpa using a1] at q1
            rw [if_pos (.inl a1)]
            simp [oo4, h7, h8, oa4, os4, setC_len hO, setC_take hO, q1, q2, q3, inside_ok', hi]
            exact fin _ _ _ hO z4 (by simp [clip_t]) os4
          by_cases a2 : an = (12, 0, 0)
          · rw [show decide (an = (7, 0, 0)) = false by simpa using a1] at q1
            rw [show decide (an = (12, 0, 0)) = true by simpa using a2] at q2
            rw [if_pos (.inr a2)]
            simp [oo4, h7, h8, oa4, os4, setC_len hO, setC_take hO, q1, q2, q3, inside_ok', hi]
            exact fin _ _ _ hO z4 (by simp [clip_t]) os4
          rw [show decide (an = (7, 0, 0)) = false by simpa using a1] at q1
          rw [show decide (an = (12, 0, 0)) = false by simpa using a2] at q2
          rw [if_neg (by rintro (h | h); exact a1 h; exact a2 h), if_neg (fun h => by cases h.1)]
          simp [oo4, h7, h8, oa4, os4, setC_len hO, setC_take hO, q1, q2, q3, inside_ok', hi]
          exact ⟨z4, OwR.nil _ _⟩
        | true =>
          by_cases hq : an = (0, an.2.1, 0)
          · have a1 : ¬ an = (7, 0, 0) := fun h => by rw [h] at hq; simp at hq
            have a2 : ¬ an = (12, 0, 0) := fun h => by rw [h] at hq; simp at hq
            rw [show decide (an = (7, 0, 0)) = false by simpa using a1] at q1
            rw [show decide (an = (12, 0, 0)) = false by simpa using a2] at q2
            rw [show decide (an = (0, an.2.1, 0)) = true by simpa using hq] at q3
            obtain ⟨n3', n4'⟩ := inI_nat hi
            obtain ⟨G5, e5, x5⟩ := has_ok orc hO n3' G4
            rw [n4'] at e5
            have n5 := x5.nx
            have oa5 := (x5.obj (G.nx + 1) (by omega)).trans oa4
            have os5 := (x5.obj G3.nx (by omega)).trans os4
            rw [if_neg (by rintro (h | h); exact a1 h; exact a2 h)]
            cases hh : has (ofW A) an.2.1.toNat with
            | false =>
              rw [hh] at e5
              rw [if_neg (fun h => by have := h.2.2; cases this)]
              simp [oo4, h7, h8, oa4, os4, setC_len hO, setC_take hO, q1, q2, q3, inside_ok', hi, e5]
              exact ⟨z4.trans x5, OwR.nil _ _⟩
            | true =>
              rw [hh] at e5
              rw [if_pos ⟨rfl, hq, rfl⟩]
              obtain ⟨G6, e6, x6⟩ := wo_ok orc hO n3' G5
              rw [n4'] at e6
              have n6 := x6.nx
              have hw := hO.wo an.2.1.toNat
              have os6 := (x6.obj G3.nx (by omega)).trans os5
              simp [oo4, h7, h8, oa4, os4, setC_len hO, setC_take hO, q1, q2, q3, inside_ok', hi, e5, oa5, os5, e6, os6, setC_len hw, setC_take hw, setC_allT]
              refine fin _ _ _ hw ?_ ?_ ?_
              · exact ((z4.trans x5).trans x6).put (by omega) _
              · simp [clip_t]
              · simp [setC_len hO]
          · rw [show decide (an = (0, an.2.1, 0)) = false by simpa using hq] at q3
            by_cases a1 : an = (7, 0, 0)
            · rw [show decide (an = (7, 0, 0)) = true by simpa using a1] at q1
              rw [if_pos (.inl a1)]
              simp [oo4, h7, h8, oa4, os4, setC_len hO, setC_take hO, q1, q2, q3, inside_ok', hi]
              exact fin _ _ _ hO z4 (by simp [clip_t]) os4
            by_cases a2 : an = (12, 0, 0)
            · rw [show decide (an = (7, 0, 0)) = false by simpa using a1] at q1
              rw [show decide (an = (12, 0, 0)) = true by simpa using a2] at q2
              rw [if_pos (.inr a2)]
              simp [oo4, h7, h8, oa4, os4, setC_len hO, setC_take hO, q1, q2, q3, inside_ok', hi]
              exact fin _ _ _ hO z4 (by simp [clip_t]) os4
            rw [show decide (an = (7, 0, 0)) = false by simpa using a1] at q1
            rw [show decide (an = (12, 0, 0)) = false by simpa using a2] at q2
            rw [if_neg (by rintro (h | h); exact a1 h; exact a2 h), if_neg (fun h => hq h.2.1)]
            simp [oo4, h7, h8, oa4, os4, setC_len hO, setC_take hO, q1, q2, q3, inside_ok', hi]
            exact ⟨z4, OwR.nil _ _⟩
      · rw [next_none (.inr ⟨h7, h8⟩)]
        simp [oo4, h7, h8]
        exact ⟨z4, OwR.nil _ _⟩
    · rw [next_none (.inl hk)]
      simp [s10, sb10, ← hG1, e2, hk]
      exact ⟨x1.trans x2, OwR.nil _ _⟩
  obtain ⟨⟨v, G'⟩, e, v', rfl, e1, e2⟩ := w
  exact ⟨v', G', e, e1, e2⟩
end
end Go.Proofs.YtocbppgkgcoehaaDoor.Lift

set_option linter.unusedVariables false
set_option linter.unusedSimpArgs false
set_option maxRecDepth 20000
namespace Go.Proofs.YtocbppgkgcoehaaDoor.Lift
open Go Go.Proofs.YtocbppgkgcoehaaDoor.Gh Go.Proofs
theorem aw_ok (orc : FuncId → Bool) {f : FuncId} (h : orc f = true) {G : GS} (hG : Tab G) : (E orc).cl f [] G = some (.bool true, G) := by
  obtain ⟨o, h1, h2⟩ := hG.ob
  exact cl_orcT Q orc h G (hasTab_at Q h1 h2)
theorem ext_over {A G G' : GS} {v : Value} (x : Ext A G) (m : ModP (InB v) G G') (h : ∀ g, InB v g → A.nx ≤ g) : Ext A G' :=
  ⟨Nat.le_trans x.nx m.nx, fun g hg => (m.obj g (Nat.lt_of_lt_of_le hg x.nx) (fun hi => by have := h g hi; omega)).trans (x.obj g hg), Nat.le_trans x.nl m.nl, fun l hl => (m.loop l (Nat.lt_of_lt_of_le hl x.nl)).trans (x.loop l hl)⟩
/-- what lies below the block that is written over stays -/
theorem slr_over {α : Type} {e : RowE α} {G G' : GS} {u v : Value} {L : List α} (h : SlR e G u L) (m : ModP (InB v) G G') (hd : ∀ g, InB u g → ¬ InB v g) : SlR e G' u L :=
  h.kept m.nx fun g hg => m.obj g (h.under g hg) (hd g hg)
section
variable {H G : GS} {A : List Int} {v0 vi vy : Value}
theorem pn_lp (orc : FuncId → Bool) {ob : Nat} {op : Opn} (hH : Tab H) (hA : SlR (rowsI .i64) H v0 A) (hI : SlR (rowsI .i64) H vi A) (hlen : A.length ≤ 1100) (hY : SlR rAn H vy (allA A op)) (hob : ob < H.nx) (oo : H.obj ob = some ⟨[.int .i64 op.1, .int .i64 op.2.1, .int .i64 op.2.2.1, .int .u64 op.2.2.2], 1, false, 1⟩) :
    ∀ (k i : Nat) (τ : Env) (G : GS), i + k = 8 → τ 0 = v0 → τ 5 = P0 ob → τ 9 = vi → τ 15 = vy → τ 18 = .int .i64 (i : Int) → Ext H G →
    Wp ((exL Q orc).lpx 3 0 τ G) fun q => q.1 = .exit 0 ∧ Ext H q.2.2 ∧ q.2.1 0 = v0 ∧ q.2.1 9 = vi := by
  have hl := allA_len A op
  obtain ⟨ya, yc, ey⟩ := hY.len
  intro k
  induction k with
  | zero =>
    intro i τ G hi t0 t5 t9 t15 t18 x
    have hi' : i = 8 := by omega
    subst hi'
    refine Wp.lp (l3_0 (exL_ok Q orc)) ?_
    by_cases h1 : ((8 : Nat) : Int) < (allA A op).length
    · have h1' : (8 : Int) < (allA A op).length := h1
      simp [b3_0, clip_t, t0, t5, t9, t15, t18, ey, h1']
      exact x
    · have h1' : ¬ (8 : Int) < (allA A op).length := h1
      simp [b3_0, clip_t, t0, t5, t9, t15, t18, ey, h1']
      exact x
  | succ k ih =>
    intro i τ G hi t0 t5 t9 t15 t18 x
    by_cases hlt : i < (allA A op).length
    · have hw : IntKind.wrap .i64 ((i : Int) + 1) = ((i + 1 : Nat) : Int) := wrap64 (by omega) (by omega)
      have h1 : (i : Int) < (allA A op).length := by omega
      have h2 : (0 : Int) ≤ i := by omega
      have h8 : (i : Int) < 8 := by omega
      have h8' : i < 8 := by omega
      have x0 := x.room 12
      obtain ⟨b, o, c, e0, _, _, q0⟩ := (hY.ext x0).at hlt
      simp only [rAn_sz, rAn_row] at q0
      have hmem : (allA A op)[i] ∈ allA A op := List.getElem_mem hlt
      generalize hy : (allA A op)[i] = y at *
      have hn : nextA A op y = (behA A op y, true) := by unfold nextA; rw [if_pos hmem]
      obtain ⟨v1, G1, e1, x1, w1⟩ := next_ok orc (hI.ext x0) (by omega) op y (hH.ext x0)
      have y1 := (x0.trans x1).room 12
      obtain ⟨_, _, _, e0', _, _, q1⟩ := (hY.ext y1).at hlt
      rw [e0] at e0'
      simp only [Value.slice.injEq, Option.some.injEq, Addr.mk.injEq, and_true, true_and] at e0'
      obtain ⟨⟨rfl, rfl⟩, rfl⟩ := e0'
      simp only [rAn_sz, rAn_row, hy] at q1
      obtain ⟨v2, G2, e2, x2, w2⟩ := rnext_ok orc (hA.ext y1) (by omega) op y
      have oo1 := (x0.obj ob hob).trans oo
      have oo2 := (y1.obj ob hob).trans oo
      rw [hn] at e1 w1 e2 w2
      simp only at e1 w1 e2 w2
      have y2 := y1.trans x2
      have hbl : (behA A op y).length ≤ 1100 := by
        unfold behA
        split
        · have := behN_len A op y 1024; omega
        · exact hlen
      obtain ⟨G3, e3, x3⟩ := same16 orc ((w1.ext (((Ext.refl G1).room 12).trans x2)).is) w2.is (by omega)
      simp only [decide_true] at e3
      obtain ⟨G4, e4, m4⟩ := over20 orc (w1.ext ((((Ext.refl G1).room 12).trans x2).trans x3)) (by omega)
      have y4 : Ext H G4 := ext_over (y2.trans x3) m4 fun g hg => Nat.le_trans x0.nx (w1.from hg)
      refine Wp.lp (l3_0 (exL_ok Q orc)) ?_
      simp only [obj_room] at oo1 oo2
      simp only [loadA_room] at q0 q1
      simp [-loadA_s, -Int.natCast_add, b3_0, clip_t, t0, t5, t9, t15, t18, e0, h1, h2, h8, h8', hlt, loadA_whole oo1, q0, e1, loadA_whole oo2, q1, e2, e3, e4, hw]
      refine ih (i + 1) _ G4 (by omega) ?_ ?_ ?_ ?_ ?_ y4
      · simp [clip_t]
      · simp [clip_t]
      · simp [clip_t]
      · simp [clip_t, e0]
      · simp [clip_t]
    · have h1 : ¬ (i : Int) < (allA A op).length := by omega
      refine Wp.lp (l3_0 (exL_ok Q orc)) ?_
      simp [b3_0, clip_t, t0, t5, t9, t15, t18, ey, h1, hlt]
      exact x
theorem poolNext (orc : FuncId → Bool) (haw : orc 8 = true) (hA : SlR (rowsI .i64) G v0 A) (op : Opn) (an : An) (n : Int) (hG : Tab G) :
    Wp ((E orc).cl 3 [v0, opV op, anV an, .int .i64 n] G) fun q => q.1 = .bool true := by
  refine Wp.ref (f3 (exL_ok Q orc) _ _ _ _ G) ?_
  obtain ⟨G1, hG1⟩ : ∃ G1, G1 = (G.push ⟨[.int .i64 op.1, .int .i64 op.2.1, .int .i64 op.2.2.1, .int .u64 op.2.2.2], 1, false, 1⟩).push ⟨[.int .i64 an.1, .int .i64 an.2.1, .int .u64 an.2.2], 1, false, 1⟩ := ⟨_, rfl⟩
  have x1 : Ext G G1 := by rw [hG1]; exact ((Ext.refl G).push _).push _
  have n1 : G1.nx = G.nx + 2 := by rw [hG1]; rfl
  have oo : G1.obj G.nx = some ⟨[.int .i64 op.1, .int .i64 op.2.1, .int .i64 op.2.2.1, .int .u64 op.2.2.2], 1, false, 1⟩ := by rw [hG1]; simp
  have oa : G1.obj (G.nx + 1) = some ⟨[.int .i64 an.1, .int .i64 an.2.1, .int .u64 an.2.2], 1, false, 1⟩ := by rw [hG1]; simp
  obtain ⟨va, vc, ev⟩ := hA.len
  have l0 : ln Q true 22 v0 = some (.int .i64 A.length) := by rw [ev]; simp
  simp [-loadA_s, s3, ← hG1, l0]
  clear hG1
  have hT1 := hG.ext x1
  by_cases c1 : 1100 < A.length
  · have c1' : (1100 : Int) < A.length := by omega
    simp [c1', aw_ok orc haw hT1]
  have c1' : ¬ (1100 : Int) < A.length := by omega
  obtain ⟨u1, G2, e2, x2, w1⟩ := copy9 orc (hA.ext x1) (by omega)
  have z2 := x1.trans x2
  obtain ⟨u2, G3, e3, x3, w2⟩ := next_ok orc w1.is (by omega) op an (hG.ext z2)
  have z3 := z2.trans x3
  obtain ⟨u3, G4, e4, x4, w3⟩ := rnext_ok orc (hA.ext z3) (by omega) op an
  have z4 := (z3.trans x4).room 8
  have r4 : Ext G4 (G4.room 8) := (Ext.refl G4).room 8
  obtain ⟨u4, G5, e5, x5, w4⟩ := all_ok orc ((w1.ext (x3.trans (x4.trans r4))).is) (by omega) op (hG.ext z4)
  have z5 := z4.trans x5
  obtain ⟨u5, G6, e6, x6, w5⟩ := rall_ok orc (hA.ext z5) (by omega) op
  have z6 := z5.trans x6
  have k6 := (x3.trans (x4.trans r4)).trans (x5.trans x6)
  obtain ⟨u6, G7, e7, x7, w6⟩ := rest_ok orc ((w1.ext k6).is) (by omega) n (hG.ext z6)
  have z7 := z6.trans x7
  obtain ⟨u7, G8, e8, x8, w7⟩ := rrest_ok orc (hA.ext z7) (by omega) n
  have z8 := z7.trans x8
  have hn1 : (nextA A op an).1.length ≤ 1100 := by
    unfold nextA behA
    split
    · split
      · have := behN_len A op an 1024; simp only; omega
      · simp only; omega
    · simp
  have hr1 : ((restN A n).map fun n : Nat => (n : Int)).length ≤ 1100 := by
    unfold restN
    have := List.length_filter_le (fun j : Nat => decide ((j : Int) ∉ A)) (List.range (lowN n))
    have := lowN_le n
    simp at *; omega
  have hal := allA_len A op
  have k3 : Ext G3 G8 := ((x4.trans r4).trans (x5.trans x6)).trans (x7.trans x8)
  have k4 : Ext (G4) G8 := (r4.trans (x5.trans x6)).trans (x7.trans x8)
  have k5 : Ext G5 G8 := x6.trans (x7.trans x8)
  obtain ⟨G9, e9, x9⟩ := same16 orc ((w2.ext k3).is) ((w3.ext k4).is) (by omega)
  simp only [decide_true] at e9
  obtain ⟨G10, e10, x10⟩ := same17 orc ((w4.ext (k5.trans x9)).is) ((w5.ext ((x7.trans x8).trans x9)).is) (by omega)
  simp only [decide_true] at e10
  obtain ⟨G11, e11, x11⟩ := same16 orc ((w6.ext ((x8.trans x9).trans x10)).is) ((w7.ext (x9.trans x10)).is) (by omega)
  simp only [decide_true] at e11
  have k8 : Ext G8 G11 := (x9.trans x10).trans x11
  obtain ⟨G12, e12, x12⟩ := check_ok orc ((w1.ext ((x3.trans k3).trans k8)).is) (by omega)
  obtain ⟨G13, e13, x13⟩ := rcheck_ok orc (hA.ext ((z8.trans k8).trans x12)) (by omega)
  have k11 : Ext G8 G13 := k8.trans (x12.trans x13)
  have z13 := z8.trans k11
  have q2 : ∀ g, InB u2 g → G2.nx ≤ g ∧ g < G3.nx := fun g hg => ⟨w2.from hg, w2.is.under g hg⟩
  have q4 : ∀ g, InB u4 g → (G4.room 8).nx ≤ g ∧ g < G5.nx := fun g hg => ⟨w4.from hg, w4.is.under g hg⟩
  have q5 : ∀ g, InB u5 g → G5.nx ≤ g ∧ g < G6.nx := fun g hg => ⟨w5.from hg, w5.is.under g hg⟩
  have q6 : ∀ g, InB u6 g → G6.nx ≤ g ∧ g < G7.nx := fun g hg => ⟨w6.from hg, w6.is.under g hg⟩
  have b3 := x3.nx
  have b4 := x4.nx
  have b4' := r4.nx
  have b5 := x5.nx
  have b6 := x6.nx
  have b7 := x7.nx
  have f6 : Ext G7 G13 := x8.trans k11
  have f4 : Ext G5 G13 := k5.trans k11
  have f5 : Ext G6 G13 := x7.trans (x8.trans k11)
  have f2 : Ext G3 G13 := k3.trans k11
  have b13 := f6.nx
  obtain ⟨G14, e14, m14⟩ := over20 orc (w2.ext f2) (by omega)
  have t14 : Ext G2 G14 := ext_over (x3.trans f2) m14 fun g hg => (q2 g hg).1
  have w6' := (w6.ext f6).kept m14.nx fun g hg => m14.obj g (by have := q6 g hg; omega) fun h => by have := q6 g hg; have := q2 g h; omega
  have w4' := (w4.ext f4).kept m14.nx fun g hg => m14.obj g (by have := q4 g hg; omega) fun h => by have := q4 g hg; have := q2 g h; omega
  have w5' := ((w5.ext f5).is).kept m14.nx fun g hg => m14.obj g (by have := q5 g hg; omega) fun h => by have := q5 g hg; have := q2 g h; omega
  have b14 := m14.nx
  obtain ⟨G15, e15, m15⟩ := over20 orc w6' (by omega)
  have t15 : Ext G2 G15 := ext_over t14 m15 fun g hg => by have := q6 g hg; omega
  have w4'' := w4'.kept m15.nx fun g hg => m15.obj g (by have := q4 g hg; omega) fun h => by have := q4 g hg; have := q6 g h; omega
  have w5'' := w5'.kept m15.nx fun g hg => m15.obj g (by have := q5 g hg; omega) fun h => by have := q5 g hg; have := q6 g h; omega
  have b15 := m15.nx
  obtain ⟨G16, e16, m16⟩ := over21 orc w4'' (by omega)
  have t16 : Ext G2 G16 := ext_over t15 m16 fun g hg => by have := q4 g hg; omega
  have w5f := w5''.kept m16.nx fun g hg => m16.obj g (by have := q5 g hg; omega) fun h => by have := q5 g hg; have := q4 g h; omega
  have hT16 := (hG.ext z2).ext t16
  have zz := z2.trans t16
  have oo2 := (x2.obj _ (by omega)).trans oo
  have oa2 := (x2.obj _ (by omega)).trans oa
  have oo3 := (x3.obj G.nx (by have := x2.nx; omega)).trans oo2
  have oa3 := (x3.obj (G.nx + 1) (by have := x2.nx; omega)).trans oa2
  have b2 := x2.nx
  have b16 := t16.nx
  have oo4 := ((x4.trans r4).obj G.nx (by omega)).trans oo3
  have oo5 := (x5.obj G.nx (by omega)).trans oo4
  have oo16 := (t16.obj G.nx (by omega)).trans oo2
  simp only [obj_room] at oo4
  simp [-loadA_s, c1', e2, loadA_whole oo2, loadA_whole oa2, e3, loadA_whole oo3, loadA_whole oa3, e4, loadA_whole oo4, e5, loadA_whole oo5, e6, e7, e8, e9, e10, e11, e12, e13, e14, e15, e16]
  refine Wp.bE (Wp.mono (pn_lp orc (op := op) (H := G16) (v0 := v0) (vi := u1) (vy := u5) hT16 (hA.ext zz) ((w1.is).ext t16) (by omega) w5f (by omega) oo16 8 0 _ G16 rfl ?_ ?_ ?_ ?_ ?_ (Ext.refl _)) ?_)
  · simp
  · simp
  · simp
  · simp
  · simp
  rintro ⟨e, τ, G17⟩ ⟨rfl, x17, p0, p9⟩
  simp only at x17 p0 p9
  obtain ⟨G18, e18, x18⟩ := same16 orc ((w1.is).ext (t16.trans x17)) (hA.ext (zz.trans x17)) (by omega)
  simp only [decide_true] at e18
  simp [p0, p9, e18, aw_ok orc haw (hT16.ext (x17.trans x18))]
end
end Go.Proofs.YtocbppgkgcoehaaDoor.Lift

set_option linter.unusedVariables false
set_option linter.unusedSimpArgs false
set_option maxRecDepth 20000
namespace Go.Proofs.YtocbppgkgcoehaaDoor.Lift
open Go Go.Proofs.YtocbppgkgcoehaaDoor.Gh Go.Proofs
/-! ### A law's arguments -/
theorem tab_tab : Tab GS.tab := ⟨⟨_, tab_obj, rfl⟩, by rw [tab_nx]; decide⟩
theorem row_op {r : List Value} (h : Row [some .i64, some .i64, some .i64, some .u64] r) : ∃ x : Opn, r = rOp.row x := by
  match r with
  | [] => exact h.elim
  | [_] => exact h.2.elim
  | [_, _] => exact h.2.2.elim
  | [_, _, _] => exact h.2.2.2.elim
  | x :: y :: z :: u :: q :: l => exact h.2.2.2.2.elim
  | [x, y, z, u] =>
    obtain ⟨⟨a, ha, _⟩, ⟨b, hb, _⟩, ⟨c, hc, _⟩, ⟨d, hd, _⟩, _⟩ := h
    exact ⟨(a, b, c, d), by rw [ha, hb, hc, hd]; rfl⟩
theorem row_an {r : List Value} (h : Row [some .i64, some .i64, some .u64] r) : ∃ x : An, r = rAn.row x := by
  match r with
  | [] => exact h.elim
  | [_] => exact h.2.elim
  | [_, _] => exact h.2.2.elim
  | x :: y :: z :: q :: l => exact h.2.2.2.elim
  | [x, y, z] =>
    obtain ⟨⟨a, ha, _⟩, ⟨b, hb, _⟩, ⟨c, hc, _⟩, _⟩ := h
    exact ⟨(a, b, c), by rw [ha, hb, hc]; rfl⟩
end Go.Proofs.YtocbppgkgcoehaaDoor.Lift

