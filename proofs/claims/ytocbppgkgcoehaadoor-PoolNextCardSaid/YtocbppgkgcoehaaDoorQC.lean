/- contracts of the program's functions -/
import Derived.Test.YtocbppgkgcoehaaDoorQB
set_option linter.unusedVariables false
set_option linter.unusedSimpArgs false
set_option maxRecDepth 20000
namespace Go.Proofs.YtocbppgkgcoehaaDoor.Lift
open Go Go.Proofs.YtocbppgkgcoehaaDoor.Gh Go.Proofs
/-! ### Rest, by the document: marks -/
def mkC (L : List Int) : List Value := (List.range 1024).map fun j : Nat => Value.bool (decide ((j : Int) ∈ L))
theorem mkC_len (L : List Int) : (mkC L).length = 1024 := by simp [mkC]
theorem mkC_get (L : List Int) {j : Nat} (hj : j < 1024) : (mkC L)[j]? = some (.bool (decide ((j : Int) ∈ L))) := by
  unfold mkC
  rw [List.getElem?_map, List.getElem?_range hj]; rfl
theorem mkC_set (L : List Int) {n : Nat} (hn : n < 1024) : (mkC L).set n (.bool true) = mkC (L ++ [(n : Int)]) := by
  apply List.ext_getElem?
  intro j
  by_cases hj : j < 1024
  · rw [mkC_get _ hj]
    by_cases h : n = j
    · subst h
      rw [List.getElem?_set_self (by rw [mkC_len]; exact hn)]; simp
    · rw [List.getElem?_set_ne h, mkC_get _ hj]
      have : ¬ (j : Int) = (n : Int) := by omega
      simp [this]
  · rw [List.getElem?_eq_none (by rw [List.length_set, mkC_len]; omega), List.getElem?_eq_none (by rw [mkC_len]; omega)]
theorem mkC_out (L : List Int) {x : Int} (hx : inI x = false) : mkC (L ++ [x]) = mkC L := by
  unfold mkC
  refine List.map_congr_left fun j hj => ?_
  have := List.mem_range.1 hj
  have h : ¬ (j : Int) = x := fun e => by subst e; simp [inI] at hx; omega
  simp [h]
section
variable {B G : GS} {A : List Int} {v0 : Value}
theorem mark_lp (orc : FuncId → Bool) {ib : Nat} (hA : SlR (rowsI .i64) B v0 A) (hlen : A.length < 2 ^ 47) (hib : B.nx ≤ ib) : ∀ (k i : Nat) (τ : Env) (G : GS), i + k = A.length → τ 0 = v0 → τ 5 = .slice (some ⟨ib, 0, none⟩) 1024 1024 → τ 6 = .int .i64 (i : Int) → Ext B G → ib < G.nx → G.obj ib = some ⟨mkC (A.take i), 1, false, 1⟩ →
    Wp ((exL Q orc).lpx 15 0 τ G) fun q => q.1 = .exit 0 ∧ Ext B q.2.2 ∧ ib < q.2.2.nx ∧ q.2.2.obj ib = some ⟨mkC A, 1, false, 1⟩ ∧ q.2.1 1 = τ 1 ∧ q.2.1 5 = .slice (some ⟨ib, 0, none⟩) 1024 1024 := by
  intro k
  induction k with
  | zero =>
    intro i τ G hi t0 t5 t6 x hb ob
    have hi' : i = A.length := by omega
    obtain ⟨a, c, e0⟩ := hA.len
    rw [hi', List.take_length] at ob
    refine Wp.lp (l15_0 (exL_ok Q orc)) ?_
    subst hi'
    simp [b15_0, bb15_0, clip_t, t0, t5, t6, e0]
    exact ⟨x, hb, ob⟩
  | succ k ih =>
    intro i τ G hi t0 t5 t6 x hb ob
    have hlt : i < A.length := by omega
    have hw : IntKind.wrap .i64 ((i : Int) + 1) = ((i + 1 : Nat) : Int) := wrap64 (by omega) (by omega)
    have h1 : (i : Int) < A.length := by omega
    have h2 : (0 : Int) ≤ i := by omega
    obtain ⟨b, o, c, e0, _, q, _⟩ := (hA.ext x).at hlt
    have q0 := q 0 (by decide)
    simp at q0
    have hT : A.take (i + 1) = A.take i ++ [A[i]] := by rw [List.take_add_one, List.getElem?_eq_getElem hlt]; rfl
    generalize A[i] = y at *
    refine Wp.lp (l15_0 (exL_ok Q orc)) ?_
    cases hy : inI y with
    | true =>
      obtain ⟨n, rfl⟩ : ∃ n : Nat, y = n := ⟨y.toNat, by simp [inI] at hy; omega⟩
      have hn : n < 1024 := by simp [inI] at hy; omega
      have hn' : (n : Int) < 1024 := by omega
      simp [-Int.natCast_add, b15_0, bb15_0, jl15_0_0, jbl15_0_0, clip_t, t0, t5, t6, e0, h1, h2, hlt, q0, index_ok, hy, hn, hn', ob, stO_one _ _ (show one (.bool true) = true from rfl), mkC_len, mkC_set _ hn, hw]
      refine Wp.mono (ih (i + 1) _ (G.put ib ⟨mkC (A.take i ++ [(n : Int)]), 1, false, 1⟩) (by omega) ?_ ?_ ?_ (x.put hib _) (by simpa using hb) (by rw [hT, obj_put, if_pos rfl])) fun q hq => ?_
      · simp [clip_t, e0]
      · simp [clip_t]
      · simp [clip_t]
      · simpa [clip_t] using hq
    | false =>
      have ob' : G.obj ib = some ⟨mkC (A.take (i + 1)), 1, false, 1⟩ := by rw [hT, mkC_out _ hy]; exact ob
      simp [-Int.natCast_add, b15_0, bb15_0, jl15_0_0, jbl15_0_0, clip_t, t0, t5, t6, e0, h1, h2, hlt, q0, index_ok, hy, hw]
      refine Wp.mono (ih (i + 1) _ G (by omega) ?_ ?_ ?_ x hb ob') fun q hq => ?_
      · simp [clip_t, e0]
      · simp [clip_t]
      · simp [clip_t]
      · simpa [clip_t] using hq
def restI (A : List Int) (i : Nat) : List Int := ((List.range i).filter fun j : Nat => decide ((j : Int) ∉ A)).map fun n : Nat => (n : Int)
theorem restI_succ (A : List Int) (i : Nat) : restI A (i + 1) = restI A i ++ (if (i : Int) ∈ A then [] else [(i : Int)]) := by
  unfold restI
  rw [List.range_succ, List.filter_append, List.map_append]
  congr 1
  by_cases h : (i : Int) ∈ A <;> simp [h]
theorem restI_len (A : List Int) (i : Nat) : (restI A i).length ≤ i := by
  unfold restI
  have := List.length_filter_le (fun j : Nat => decide ((j : Int) ∉ A)) (List.range i)
  simpa using this
theorem unm_lp (orc : FuncId → Bool) {ib : Nat} {n : Int} (hib : ib < B.nx) (ob : B.obj ib = some ⟨mkC A, 1, false, 1⟩) : ∀ (k i : Nat) (τ : Env) (G : GS) (v : Value), i + k = lowN n → τ 1 = .int .i64 n → τ 5 = .slice (some ⟨ib, 0, none⟩) 1024 1024 → τ 7 = v → τ 8 = .int .i64 (i : Int) → Ext B G → OwR (rowsI .i64) B.nx G v (restI A i) →
    Wp ((exL Q orc).lpx 15 1 τ G) fun q => q.1 = .exit 2 ∧ Ext B q.2.2 ∧ OwR (rowsI .i64) B.nx q.2.2 (q.2.1 7) (restI A (lowN n)) := by
  have hl := lowN_le n
  intro k
  induction k with
  | zero =>
    intro i τ G v hi t1 t5 t7 t8 x hv
    have hi' : i = lowN n := by omega
    have hd : ¬ ((i : Int) < n ∧ (i : Int) < 1024) := by unfold lowN at hi'; omega
    rw [← hi']
    refine Wp.lp (l15_1 (exL_ok Q orc)) ?_
    by_cases h1 : (i : Int) < n
    · have h2 : ¬ (i : Int) < 1024 := fun h => hd ⟨h1, h⟩
      have h2' : ¬ i < 1024 := by omega
      simp [-Int.natCast_add, b15_1, bb15_1, clip_t, t1, t5, t7, t8, h1, h2, h2']
      exact ⟨x, hv⟩
    · simp [-Int.natCast_add, b15_1, bb15_1, clip_t, t1, t5, t7, t8, h1]
      exact ⟨x, hv⟩
  | succ k ih =>
    intro i τ G v hi t1 t5 t7 t8 x hv
    have h1 : (i : Int) < n := by unfold lowN at hi; omega
    have h2 : (i : Int) < 1024 := by omega
    have h2' : i < 1024 := by omega
    have h0 : (0 : Int) ≤ i := by omega
    have hw : IntKind.wrap .i64 ((i : Int) + 1) = ((i + 1 : Nat) : Int) := wrap64 (by omega) (by omega)
    have ob1 := (x.obj ib hib).trans ob
    have hg := mkC_get A h2'
    have hlen := restI_len A i
    refine Wp.lp (l15_1 (exL_ok Q orc)) ?_
    by_cases hm : (i : Int) ∈ A
    · have hr : restI A (i + 1) = restI A i := by rw [restI_succ, if_pos hm, List.append_nil]
      simp [-Int.natCast_add, b15_1, bb15_1, jl15_1_0, jbl15_1_0, clip_t, t1, t5, t7, t8, h0, h1, h2, h2', ob1, hg, hm, hw]
      refine Wp.mono (ih (i + 1) _ G v (by omega) ?_ ?_ ?_ ?_ x (by rw [hr]; exact hv)) fun q hq => hq
      · simp [clip_t]
      · simp [clip_t]
      · simp [clip_t, t7]
      · simp [clip_t]
    · have hr : restI A (i + 1) = restI A i ++ [(i : Int)] := by rw [restI_succ, if_neg hm]
      have x1 := x.push ⟨(rowsI .i64).row (i : Int), 1, false, 1⟩
      obtain ⟨v', G', e6, x6, w6⟩ := (hv.ext ((Ext.refl G).push ⟨(rowsI .i64).row (i : Int), 1, false, 1⟩)).app (A := B) (ib := 8) (by decide) x1 (SlR.one (rowsI .i64) G (i : Int)) (by simp; omega)
      simp only [rowsI_sz, rowsI_row] at e6
      simp [-Int.natCast_add, b15_1, bb15_1, jl15_1_0, jbl15_1_0, clip_t, t1, t5, t7, t8, h0, h1, h2, h2', ob1, hg, hm, hw, e6]
      refine Wp.mono (ih (i + 1) _ G' v' (by omega) ?_ ?_ ?_ ?_ x6 (by rw [hr]; exact w6)) fun q hq => hq
      · simp [clip_t]
      · simp [clip_t]
      · simp [clip_t]
      · simp [clip_t]
theorem mkC_nil : mkC [] = List.replicate 1024 (.bool false) := by
  apply List.ext_getElem?
  intro j
  by_cases hj : j < 1024
  · rw [mkC_get _ hj, List.getElem?_replicate, if_pos hj]; simp
  · rw [List.getElem?_eq_none (by rw [mkC_len]; omega), List.getElem?_eq_none (by simp; omega)]
theorem rrest_ok (orc : FuncId → Bool) (hA : SlR (rowsI .i64) G v0 A) (hlen : A.length < 2 ^ 47) (n : Int) : ∃ v G', (E orc).cl 15 [v0, .int .i64 n] G = some (v, G') ∧ Ext G G' ∧ OwR (rowsI .i64) G.nx G' v ((restN A n).map fun n : Nat => (n : Int)) := by
  have w : Wp ((E orc).cl 15 [v0, .int .i64 n] G) fun q => Ext G q.2 ∧ OwR (rowsI .i64) G.nx q.2 q.1 ((restN A n).map fun n : Nat => (n : Int)) := by
    refine Wp.ref (f15 (exL_ok Q orc) _ _ G) ?_
    simp [s15]
    refine Wp.bE ((mark_lp orc (B := G) (ib := G.nx) hA hlen (Nat.le_refl _) A.length 0 _ (G.push ⟨mkC [], 1, false, 1⟩) (by omega) (by simp) (by simp) (by simp) ((Ext.refl G).push _) (by simp) (by simp)).mono ?_)
    rintro ⟨e, τ, G1⟩ ⟨rfl, x1, hb, o1, t1, t5⟩
    simp at x1 hb o1 t1 t5
    simp
    refine Wp.bE ((unm_lp orc (B := G1) (ib := G.nx) (n := n) hb o1 (lowN n) 0 _ G1 (.slice none 0 0) (by omega) (by simp [t1]) (by simp [t5]) (by simp) (by simp) (Ext.refl _) (OwR.nil _ _)).mono ?_)
    rintro ⟨e, τ', G2⟩ ⟨rfl, x2, w2⟩
    simp at x2 w2
    simp
    exact ⟨x1.trans x2, w2.mono x1.nx⟩
  obtain ⟨⟨v, G'⟩, e, e1, e2⟩ := w
  exact ⟨v, G', e, e1, e2⟩
end
end Go.Proofs.YtocbppgkgcoehaaDoor.Lift

set_option linter.unusedVariables false
set_option linter.unusedSimpArgs false
set_option maxRecDepth 20000
namespace Go.Proofs.YtocbppgkgcoehaaDoor.Lift
open Go Go.Proofs.YtocbppgkgcoehaaDoor.Gh Go.Proofs
/-! ### All that may be answered -/
def allA (l : List Int) (op : Opn) : List An :=
  if checkI l = 0 then (if op.1 = 7 then l.map (fun x => (0, x, 0)) ++ [(7, 0, 0), (12, 0, 0)] else if op.1 = 8 then [if inI op.2.1 = true then (if op.2.1 ∈ l then (8, 0, 0) else (0, 0, 0)) else (3, 0, 0)] else []) else []
theorem checkI_zero {l : List Int} : checkI l = 0 ↔ l.all inI = true ∧ ascB l = true := by
  unfold checkI
  split
  · rename_i h1
    split
    · rename_i h2; simp [h1, h2]
    · rename_i h2; simp [h1, h2]
  · rename_i h1; simp [h1]
theorem asc_pair : ∀ {l : List Int}, ascB l = true → l.Pairwise (· < ·)
  | [], _ => List.Pairwise.nil
  | [a], _ => List.pairwise_singleton _ _
  | a :: b :: r, h => by
    simp only [ascB, Bool.and_eq_true, decide_eq_true_eq] at h
    have ih := asc_pair h.2
    refine List.pairwise_cons.2 ⟨fun x hx => ?_, ih⟩
    rcases List.mem_cons.1 hx with rfl | hx
    · exact h.1
    · have := (List.pairwise_cons.1 ih).1 x hx; omega
theorem pair_asc : ∀ {l : List Int}, l.Pairwise (· < ·) → ascB l = true
  | [], _ => rfl
  | [a], _ => rfl
  | a :: b :: r, h => by
    obtain ⟨h1, h2⟩ := List.pairwise_cons.1 h
    simp only [ascB, Bool.and_eq_true, decide_eq_true_eq]
    exact ⟨h1 b (by simp), pair_asc h2⟩
/-- two rising lists of numbers with the same members -/
theorem asc_extI {A B : List Int} (hA : A.Pairwise (· < ·)) (hB : B.Pairwise (· < ·)) (h : ∀ x, x ∈ A ↔ x ∈ B) : A = B := by
  induction A generalizing B with
  | nil =>
    cases B with
    | nil => rfl
    | cons b B => exact absurd ((h b).2 (by simp)) (by simp)
  | cons a A ih =>
    cases B with
    | nil => exact absurd ((h a).1 (by simp)) (by simp)
    | cons b B =>
      obtain ⟨ha, hA'⟩ := List.pairwise_cons.1 hA
      obtain ⟨hb, hB'⟩ := List.pairwise_cons.1 hB
      have hab : a = b := by
        rcases List.mem_cons.1 ((h a).1 (by simp)) with h1 | h1
        · exact h1
        · rcases List.mem_cons.1 ((h b).2 (by simp)) with h2 | h2
          · exact h2.symm
          · have := ha b h2; have := hb a h1; omega
      subst hab
      rw [ih hA' hB' fun x => ?_]
      constructor
      · intro hx
        rcases List.mem_cons.1 ((h x).1 (by simp [hx])) with h1 | h1
        · have := ha x hx; omega
        · exact h1
      · intro hx
        rcases List.mem_cons.1 ((h x).2 (by simp [hx])) with h1 | h1
        · have := hb x hx; omega
        · exact h1
def elsI (W : List Nat) : List Int := (els W).map fun n : Nat => (n : Int)
theorem elsI_asc (W : List Nat) : (elsI W).Pairwise (· < ·) := by
  unfold elsI
  rw [List.pairwise_map]
  exact (els_asc W).imp fun h => by omega
theorem mem_elsI {W : List Nat} {x : Int} : x ∈ elsI W ↔ inI x = true ∧ has W x.toNat = true := by
  unfold elsI
  simp only [List.mem_map, mem_els, inI, decide_eq_true_eq]
  constructor
  · rintro ⟨n, ⟨h1, h2⟩, rfl⟩
    exact ⟨by omega, by simpa using h2⟩
  · rintro ⟨h1, h2⟩
    exact ⟨x.toNat, ⟨by omega, h2⟩, by omega⟩
theorem mem_of (l : List Int) {x : Int} : x ∈ elsI (ofW l) ↔ inI x = true ∧ x ∈ l := by
  rw [mem_elsI]
  constructor
  · rintro ⟨h1, h2⟩
    have h3 : x.toNat < 1024 ∧ ((x.toNat : Nat) : Int) = x := by simp [inI] at h1; omega
    rw [has_of l h3.1, h3.2] at h2
    exact ⟨h1, by simpa using h2⟩
  · rintro ⟨h1, h2⟩
    have h3 : x.toNat < 1024 ∧ ((x.toNat : Nat) : Int) = x := by simp [inI] at h1; omega
    rw [has_of l h3.1, h3.2]
    exact ⟨h1, by simpa using h2⟩
/-- a pool's set has the pool's list -/
theorem elsI_of {l : List Int} (h : checkI l = 0) : elsI (ofW l) = l := by
  obtain ⟨h1, h2⟩ := checkI_zero.1 h
  refine asc_extI (elsI_asc _) (asc_pair h2) fun x => ?_
  rw [mem_of]
  exact ⟨fun h => h.2, fun hx => ⟨List.all_eq_true.1 h1 x hx, hx⟩⟩
theorem ext_drawn {A G : GS} (h : Ext A G) {n : Nat} (hn : A.nx ≤ n) (o : GObj) : Ext A (((G.at' n).push o).back G) := ((h.modP fun _ => False).drawn hn o).ext
noncomputable abbrev lpQ (T : List Value) : Lp := ⟨.ready, none, T, [33], (subAt [1, 1, 1, 0, 1, 0, 1, 1, 1, 0, 0, 1, 0, 0] (bodyOf Tryd.f12)), (subAt [1, 1, 1, 0, 1, 0, 1, 1, 1, 0, 0, 1, 0, 1] (bodyOf Tryd.f12))⟩
section
variable {B G : GS} {ob l nb : Nat} {T : List Value} {L : List An} {W : List Nat} {A : List Int} {v0 : Value}
theorem qrd_ok (orc : FuncId → Bool) (i : Int) (hT : T.length = 45) (t5 : nth undef T 5 = P0 ob) (hc : Col rAn B ob l (lpQ T) G L) (hL : L.length < 1024) :
    Wp ((E orc).rd l [.int .i64 i] G) fun q => q.1 = .bool true ∧ Col rAn B ob l (lpQ T) q.2 (L ++ [(0, i, 0)]) := by
  refine Wp.ref (d12_0 (exL_ok Q orc) l T _ G hc.lp hT) ?_
  have c0 := hc.lp' (Lp.setSt (lpQ T) .busy)
  obtain ⟨w, w1, w2⟩ := c0.var
  have c1 := c0.ext ((Ext.refl _).push ⟨rAn.row (0, i, 0), 3, false, 1⟩)
  obtain ⟨v1, v2, G4, o1', on1, e3, on2, o2, l2, c4⟩ := c1.app (ib := 24) (by decide) (SlR.one rAn (G.putLoop l (Lp.setSt (lpQ T) .busy)) (0, i, 0)) (by simp) (by simp; omega)
  have hne2 : ob ≠ G.nx := by have := hc.obB; have := hc.nx; omega
  simp only [obj_putLoop] at w1
  have o3 : (((G.putLoop l (Lp.setSt (lpQ T) .busy)).push ⟨rAn.row (0, i, 0), 3, false, 1⟩)).obj ob = G.obj ob := by simp [hne2]
  rw [o3, w1] at o1'
  simp only [Option.some.injEq, GObj.mk.injEq, List.cons.injEq, and_true] at o1'
  subst o1'
  simp only [rAn_sz, rAn_row, nx_putLoop] at e3
  have hrd : (roundEnd l .normal (G4.put ob ⟨[v2], 1, false, 1⟩)) = some (.bool true, (G4.put ob ⟨[v2], 1, false, 1⟩).putLoop l (lpQ T)) := by
    rw [roundEnd_some l .normal _ (j := none) rfl (r := Lp.setSt (lpQ T) .busy) (by simpa using l2)]
    rfl
  simp [r12_0, t5, hc.lp, w1, e3, o2, stO_one _ _ on2, hrd, same_own w2]
  exact c4.lp' (lpQ T)
theorem app_one {A0 : GS} (x : Ext A0 G) (a : An) : ∃ v G', appK 3 24 (.slice none 0 0) (.slice (some ⟨G.nx, 0, none⟩) 1 1) (G.push ⟨[.int .i64 a.1, .int .i64 a.2.1, .int .u64 a.2.2], 3, false, 1⟩) = some (v, G') ∧ Ext A0 G' ∧ OwR rAn A0.nx G' v [a] := by
  obtain ⟨v, G', e, x', w⟩ := (OwR.nil (e := rAn) A0.nx (G.push ⟨rAn.row a, 3, false, 1⟩)).app (A := A0) (ib := 24) (by decide) (x.push _) (SlR.one rAn G a) (by simp)
  exact ⟨v, G', e, x', by simpa using w⟩
theorem all_ok (orc : FuncId → Bool) (hA : SlR (rowsI .i64) G v0 A) (hlen : A.length < 2 ^ 47) (op : Opn) (hG : Tab G) : ∃ v G', (E orc).cl 12 [v0, opV op] G = some (v, G') ∧ Ext G G' ∧ OwR rAn G.nx G' v (allA A op) := by
  have w : Wp ((E orc).cl 12 [v0, opV op] G) fun q => Ext G q.2 ∧ OwR rAn G.nx q.2 q.1 (allA A op) := by
    refine Wp.ref (f12 (exL_ok Q orc) _ _ G) ?_
    obtain ⟨k, a, b, u⟩ := op
    have x0 : Ext G (G.push ⟨[.int .i64 k, .int .i64 a, .int .i64 b, .int .u64 u], 1, false, 1⟩) := (Ext.refl G).push _
    obtain ⟨G1, e1, x1⟩ := check_ok orc (hA.ext x0) hlen
    have y1 := x0.trans x1
    have n1 := x1.nx
    simp at n1
    have o1 : G1.obj G.nx = some ⟨[.int .i64 k, .int .i64 a, .int .i64 b, .int .u64 u], 1, false, 1⟩ := by rw [x1.obj G.nx (by simp)]; simp
    unfold allA
    by_cases hk : checkI A = 0
    · have d1 : ¬ G.nx = G1.nx := by omega
      rw [hk] at e1
      have x2 : Ext G1 (G1.push ⟨z33, 1, false, 1⟩) := (Ext.refl G1).push _
      by_cases h8 : k = 8
      · subst h8
        obtain ⟨G2, e2, x3⟩ := of_ok orc (hA.ext (y1.trans (x2.room 12))) hlen
        have n2 := x3.nx
        simp at n2
        have hO := ofW_ok A
        have o2 : G2.obj G.nx = some ⟨[.int .i64 8, .int .i64 a, .int .i64 b, .int .u64 u], 1, false, 1⟩ := by rw [x3.obj G.nx (by simp; omega)]; simp [d1, o1]
        have o2' : G2.obj G1.nx = some ⟨[.slice none 0 0], 1, false, 1⟩ := by rw [x3.obj G1.nx (by simp; omega)]; simp
        obtain ⟨G3, e3, x4⟩ := free_ok orc hO a G2
        have n3 := x4.nx
        have o3 : G3.obj G1.nx = some ⟨[.slice none 0 0], 1, false, 1⟩ := (x4.obj _ (by omega)).trans o2'
        have hf : (freeI (ofW A) a).1 = (if inI a = true then (if a ∈ A then (8, 0, 0) else (0, 0, 0)) else (3, 0, 0)) := by
          unfold freeI
          by_cases hi : inI a = true
          · rw [if_pos hi, if_pos hi]
            have h3 : a.toNat < 1024 ∧ ((a.toNat : Nat) : Int) = a := by simp [inI] at hi; omega
            rw [has_of A h3.1, h3.2]
            by_cases hm : a ∈ A <;> simp [hm]
          · rw [if_neg hi, if_neg hi]
        have hf2 := freeI_ok hO a
        generalize hfr : freeI (ofW A) a = fr at *
        obtain ⟨fa, fw⟩ := fr
        simp only at hf hf2
        obtain ⟨f0, f1, f2⟩ := fa
        have d2 : ¬ G1.nx = G1.nx + 1 + 8 := by omega
        have d3 : ¬ G1.nx = G1.nx + 1 + 9 := by omega
        simp [s12, e1, d1, d2, d3, o1, e2, o2, o3, e3, hk, setC_len hf2, setC_allT]
        generalize hGD : (GS.put (GS.put (GS.back _ _) _ _) _ _) = GD
        have xD : Ext G GD := by
          rw [← hGD]
          exact Ext.put (Ext.put (ext_drawn (ext_drawn (((y1.trans (x2.room 12)).trans x3).trans x4) (by omega) _) (by omega) _) (by omega) _) (by omega) _
        have nD : GD.nx = G3.nx := by rw [← hGD]; simp
        have oD : GD.obj G1.nx = some ⟨[.slice none 0 0], 1, false, 1⟩ := by rw [← hGD]; simp [d2, d3, o3]
        rw [← nD]
        obtain ⟨v, G4, e5, x5, w5⟩ := app_one (Ext.refl GD) (f0, f1, f2)
        have o5 := (x5.obj G1.nx (by omega)).trans oD
        have on5 := own_one w5
        simp [e5, o5, stO_one _ _ on5]
        rw [← hf]
        refine ⟨(xD.trans x5).put (by omega) _, (w5.mono xD.nx).kept (by simp) fun g hg => ?_⟩
        have := w5.from hg
        have hne : ¬ g = G1.nx := by omega
        simp [hne]
      · have x8 : ¬ (k = 8) := h8
        by_cases h7 : k = 7
        · subst h7
          obtain ⟨G2, e2, x3⟩ := of_ok orc (hA.ext (y1.trans x2)) hlen
          have n2 := x3.nx
          simp at n2
          have hO := ofW_ok A
          have o2' : G2.obj G1.nx = some ⟨[.slice none 0 0], 1, false, 1⟩ := by rw [x3.obj G1.nx (by simp)]; simp
          obtain ⟨G3, hG3⟩ : ∃ G3, G3 = G2.push ⟨setC (ofW A), 1, false, 1⟩ := ⟨_, rfl⟩
          have x4 : Ext G2 G3 := by rw [hG3]; exact (Ext.refl G2).push _
          have o3 : G3.obj G2.nx = some ⟨setC (ofW A), 1, false, 1⟩ := by rw [hG3]; simp
          have o3' := (x4.obj G1.nx (by omega)).trans o2'
          have n3 : G3.nx = G2.nx + 1 := by rw [hG3]; rfl
          simp [s12, e1, d1, o1, e2, hk, setAll_ok]
          rw [← hG3, show G2.nl = G3.nl by rw [hG3]; rfl]
          generalize hTT : lst 45 (tu (nth undef _) _) = T
          have hT : T.length = 45 := by rw [← hTT]; exact length_lst 45 _
          have t5 : nth undef T 5 = P0 G1.nx := by rw [← hTT, nth_lst]; simp [clip_t]
          clear hTT
          have c0 := Col.begin rAn o3' (by omega) (lpQ T)
          have y3 : Ext G G3 := (y1.trans x2).trans (x3.trans x4)
          have xB : Ext G3 (G3.pushLoop (lpQ T)) := (Ext.refl G3).pushLoop _
          have hTb : Tab (G3.pushLoop (lpQ T)) := hG.ext (y3.trans xB)
          have h0 : G1.nx ≠ 0 := by omega
          have hrd : RdOk orc (ofW A) G3.nl (fun L G' => Col rAn (G3.pushLoop (lpQ T)) G1.nx G3.nl (lpQ T) G' (L.map fun n : Nat => ((0, (n : Int), 0) : An))) (fun _ => False) := by
            intro L i R G' hE hc
            have hl := els_len (ofW A)
            rw [← hE] at hl
            simp at hl
            refine (qrd_ok orc (i : Int) hT t5 hc (by simp; omega)).mono ?_
            rintro q ⟨h1, h2⟩
            exact .inl ⟨h1, by simpa using h2⟩
          have htab : ∀ (L : List Nat) (G' : GS), Col rAn (G3.pushLoop (lpQ T)) G1.nx G3.nl (lpQ T) G' (L.map fun n : Nat => ((0, (n : Int), 0) : An)) → Tab G' := fun L G' hc => by
            obtain ⟨o, h1, h2⟩ := hTb.ob
            exact ⟨⟨o, (hc.obj 0 hTb.nx (fun e => h0 e.symm)).trans h1, h2⟩, Nat.lt_of_lt_of_le hTb.nx hc.nx⟩
          obtain ⟨⟨q, G5⟩, e5, rfl, c5⟩ := all1_ok orc hO hrd htab (sb := G2.nx) (G := G3.pushLoop (lpQ T)) (by simpa using o3) (by simpa using c0)
          simp only [or_false] at c5
          simp only [E] at e5
          have hl := els_len (ofW A)
          have c6 := c5.lp' (Lp.setSt (lpQ T) .exhausted)
          obtain ⟨u5, u6, u7⟩ := c6.var
          have x7 : Ext (G5.putLoop G3.nl (Lp.setSt (lpQ T) .exhausted)) ((G5.putLoop G3.nl (Lp.setSt (lpQ T) .exhausted)).push ⟨rAn.flat [(7, 0, 0), (12, 0, 0)], 3, false, 1⟩) := (Ext.refl _).push _
          obtain ⟨v1, v2, G7, p1, p2, p3, p4, p5, p6, c7⟩ := (c6.ext x7).app (ib := 24) (by decide) (SlR.block (e := rAn) (b := (G5.putLoop G3.nl (Lp.setSt (lpQ T) .exhausted)).nx) (L := [(7, 0, 0), (12, 0, 0)]) (op := false) (by simp) (by simp)) (by simp) (by simp; omega)
          have hne : ¬ G1.nx = G5.nx := by have := c5.nx; simp at this; omega
          have e8 : elsI (ofW A) = A := elsI_of hk
          have e9 : (List.map (fun n : Nat => ((0, (n : Int), 0) : An)) (els (ofW A))) = A.map fun x => (0, x, 0) := by
            have : (elsI (ofW A)).map (fun x => ((0, x, 0) : An)) = A.map fun x => (0, x, 0) := by rw [e8]
            rw [← this]; unfold elsI; rw [List.map_map]; rfl
          simp only [obj_putLoop] at u6
          simp [hne, u6] at p1
          subst p1
          have hfl : rAn.flat [(7, 0, 0), (12, 0, 0)] = [.int .i64 7, .int .i64 0, .int .u64 0, .int .i64 12, .int .i64 0, .int .u64 0] := rfl
          rw [hfl] at p3
          simp at p3
          simp [e5]
          rw [xRangeEnd_some (r := lpQ T) _ _ _ _ c5.lp (by simp) (e := .normal) rfl]
          simp [t5, u6, p3, p5, stO_one _ _ p4]
          obtain ⟨u8, u9, u10⟩ := c7.var
          simp at u9
          subst u9
          rw [e9] at u10
          exact ⟨c7.from (y3.trans xB) (by omega) (by have := y3.nl; omega), u10.mono (y3.trans xB).nx⟩
        · simp [s12, e1, d1, o1, hk, h7, h8]
          exact ⟨y1.trans x2, OwR.nil _ _⟩
    · simp [s12, e1, hk]
      exact ⟨y1, OwR.nil _ _⟩
  obtain ⟨⟨v, G'⟩, e, e1, e2⟩ := w
  exact ⟨v, G', e, e1, e2⟩
end
end Go.Proofs.YtocbppgkgcoehaaDoor.Lift

set_option linter.unusedVariables false
set_option linter.unusedSimpArgs false
set_option maxRecDepth 20000
namespace Go.Proofs.YtocbppgkgcoehaaDoor.Lift
open Go Go.Proofs.YtocbppgkgcoehaaDoor.Gh Go.Proofs
/-! ### The document's All, and what is behind an answer -/
section
variable {B G : GS} {A : List Int} {v0 : Value}
theorem rall_lp (orc : FuncId → Bool) (hA : SlR (rowsI .i64) B v0 A) (hlen : A.length < 2 ^ 36) : ∀ (k i : Nat) (τ : Env) (G : GS) (v : Value), i + k = A.length → τ 0 = v0 → τ 5 = v → τ 6 = .int .i64 (i : Int) → Ext B G → OwR rAn B.nx G v ((A.take i).map fun x => ((0, x, 0) : An)) →
    Wp ((exL Q orc).lpx 13 0 τ G) fun q => q.1 = .exit 1 ∧ Ext B q.2.2 ∧ OwR rAn B.nx q.2.2 (q.2.1 5) (A.map fun x => ((0, x, 0) : An)) := by
  intro k
  induction k with
  | zero =>
    intro i τ G v hi t0 t5 t6 x hv
    have hi' : i = A.length := by omega
    obtain ⟨a, c, e0⟩ := hA.len
    rw [hi', List.take_length] at hv
    refine Wp.lp (l13_0 (exL_ok Q orc)) ?_
    subst hi'
    simp [b13_0, clip_t, t0, t5, t6, e0]
    exact ⟨x, hv⟩
  | succ k ih =>
    intro i τ G v hi t0 t5 t6 x hv
    have hlt : i < A.length := by omega
    have hw : IntKind.wrap .i64 ((i : Int) + 1) = ((i + 1 : Nat) : Int) := wrap64 (by omega) (by omega)
    have h1 : (i : Int) < A.length := by omega
    have h2 : (0 : Int) ≤ i := by omega
    obtain ⟨b, o, c, e0, _, q, _⟩ := (hA.ext x).at hlt
    have q0 := q 0 (by decide)
    simp at q0
    have hT : A.take (i + 1) = A.take i ++ [A[i]] := by rw [List.take_add_one, List.getElem?_eq_getElem hlt]; rfl
    generalize A[i] = y at *
    have x1 := x.push ⟨rAn.row (0, y, 0), 3, false, 1⟩
    obtain ⟨v', G', e6, x6, w6⟩ := (hv.ext ((Ext.refl G).push ⟨rAn.row (0, y, 0), 3, false, 1⟩)).app (A := B) (ib := 24) (by decide) x1 (SlR.one rAn G (0, y, 0)) (by simp; omega)
    simp only [rAn_sz, rAn_row] at e6
    refine Wp.lp (l13_0 (exL_ok Q orc)) ?_
    simp [-Int.natCast_add, b13_0, clip_t, t0, t5, t6, e0, h1, h2, hlt, q0, e6, hw]
    refine Wp.mono (ih (i + 1) _ G' v' (by omega) ?_ ?_ ?_ x6 (by rw [hT, List.map_append]; exact w6)) fun q hq => hq
    · simp [clip_t, e0]
    · simp [clip_t]
    · simp [clip_t]
theorem rall_ok (orc : FuncId → Bool) (hA : SlR (rowsI .i64) G v0 A) (hlen : A.length < 2 ^ 36) (op : Opn) : ∃ v G', (E orc).cl 13 [v0, opV op] G = some (v, G') ∧ Ext G G' ∧ OwR rAn G.nx G' v (allA A op) := by
  have w : Wp ((E orc).cl 13 [v0, opV op] G) fun q => Ext G q.2 ∧ OwR rAn G.nx q.2 q.1 (allA A op) := by
    refine Wp.ref (f13 (exL_ok Q orc) _ _ G) ?_
    obtain ⟨k, a, b, u⟩ := op
    have x0 : Ext G (G.push ⟨[.int .i64 k, .int .i64 a, .int .i64 b, .int .u64 u], 1, false, 1⟩) := (Ext.refl G).push _
    obtain ⟨G1, e1, x1⟩ := rcheck_ok orc (hA.ext x0) (by omega)
    have y1 := x0.trans x1
    have n1 := x1.nx
    simp at n1
    have o1 : G1.obj G.nx = some ⟨[.int .i64 k, .int .i64 a, .int .i64 b, .int .u64 u], 1, false, 1⟩ := by rw [x1.obj G.nx (by simp)]; simp
    unfold allA
    by_cases hk : checkI A = 0
    · rw [hk] at e1
      by_cases h7 : k = 7
      · subst h7
        simp [s13, e1, o1, hk]
        refine Wp.bE ((rall_lp orc (hA.ext y1) hlen A.length 0 _ G1 (.slice none 0 0) (by omega) (by simp) (by simp) (by simp) (Ext.refl _) (OwR.nil _ _)).mono ?_)
        rintro ⟨e, τ, G2⟩ ⟨rfl, x2, w2⟩
        simp only at x2 w2
        have x3 : Ext G2 (G2.push ⟨rAn.flat [(7, 0, 0), (12, 0, 0)], 3, false, 1⟩) := (Ext.refl _).push _
        obtain ⟨v', G3, e3, x4, w4⟩ := (w2.ext x3).app (A := G1) (ib := 24) (by decide) (x2.trans x3) (SlR.block (e := rAn) (b := G2.nx) (L := [(7, 0, 0), (12, 0, 0)]) (op := false) (by simp) (by simp)) (by simp; omega)
        have hfl : rAn.flat [(7, 0, 0), (12, 0, 0)] = [.int .i64 7, .int .i64 0, .int .u64 0, .int .i64 12, .int .i64 0, .int .u64 0] := rfl
        rw [hfl] at e3
        simp at e3
        simp [e3]
        exact ⟨y1.trans x4, w4.mono y1.nx⟩
      · by_cases h8 : k = 8
        · subst h8
          have y1' := y1
          cases hi : inI a with
          | false =>
            obtain ⟨v, G4, e5, x5, w5⟩ := app_one (Ext.refl G1) (3, 0, 0)
            simp at e5
            simp [s13, e1, o1, hk, index_ok, hi, e5]
            exact ⟨y1.trans x5, w5.mono y1.nx⟩
          | true =>
            have ea := among_ok' orc (hA.ext y1) (by omega) a
            by_cases hm : a ∈ A
            · obtain ⟨v, G4, e5, x5, w5⟩ := app_one (Ext.refl G1) (8, 0, 0)
              simp at e5
              simp [s13, e1, o1, hk, index_ok, hi, ea, hm, e5]
              exact ⟨y1.trans x5, w5.mono y1.nx⟩
            · obtain ⟨v, G4, e5, x5, w5⟩ := app_one (Ext.refl G1) (0, 0, 0)
              simp at e5
              simp [s13, e1, o1, hk, index_ok, hi, ea, hm, e5]
              exact ⟨y1.trans x5, w5.mono y1.nx⟩
        · simp [s13, e1, o1, hk, h7, h8]
          exact ⟨y1, OwR.nil _ _⟩
    · simp [s13, e1, hk]
      exact ⟨y1, OwR.nil _ _⟩
  obtain ⟨⟨v, G'⟩, e, e1, e2⟩ := w
  exact ⟨v, G', e, e1, e2⟩
/-- is a number free behind an answer that was OK? -/
def behP (l : List Int) (op : Opn) (an : An) (j : Nat) : Bool := if op.1 = 8 ∧ (j : Int) = op.2.1 then true else if op.1 = 7 ∧ (j : Int) = an.2.1 then false else decide ((j : Int) ∈ l)
def behN (l : List Int) (op : Opn) (an : An) (n : Nat) : List Int := ((List.range n).filter (behP l op an)).map fun n : Nat => (n : Int)
def behA (l : List Int) (op : Opn) (an : An) : List Int := if an.1 = 0 then behN l op an 1024 else l
theorem behN_succ (l : List Int) (op : Opn) (an : An) (i : Nat) : behN l op an (i + 1) = behN l op an i ++ (if behP l op an i = true then [(i : Int)] else []) := by
  unfold behN
  rw [List.range_succ, List.filter_append, List.map_append]
  congr 1
  by_cases h : behP l op an i = true <;> simp [h]
theorem behN_len (l : List Int) (op : Opn) (an : An) (i : Nat) : (behN l op an i).length ≤ i := by
  unfold behN
  have := List.length_filter_le (behP l op an) (List.range i)
  simpa using this
set_option maxHeartbeats 2000000 in
theorem beh_lp (orc : FuncId → Bool) {ob ab : Nat} {op : Opn} {an : An} (hA : SlR (rowsI .i64) B v0 A) (hlen : A.length < 2 ^ 36) (hob : ob < B.nx) (hab : ab < B.nx) (oo : B.obj ob = some ⟨[.int .i64 op.1, .int .i64 op.2.1, .int .i64 op.2.2.1, .int .u64 op.2.2.2], 1, false, 1⟩) (oa : B.obj ab = some ⟨[.int .i64 an.1, .int .i64 an.2.1, .int .u64 an.2.2], 1, false, 1⟩) :
    ∀ (k i : Nat) (τ : Env) (G : GS) (v : Value), i + k = 1024 → τ 0 = v0 → τ 4 = P0 ob → τ 5 = P0 ab → τ 7 = v → τ 8 = .int .i64 (i : Int) → Ext B G → OwR (rowsI .i64) B.nx G v (behN A op an i) →
    Wp ((exL Q orc).lpx 39 0 τ G) fun q => q.1 = .exit 0 ∧ Ext B q.2.2 ∧ OwR (rowsI .i64) B.nx q.2.2 (q.2.1 7) (behN A op an 1024) := by
  obtain ⟨ok, oA, oB, oW⟩ := op
  obtain ⟨ae, aN, aW⟩ := an
  intro k
  induction k with
  | zero =>
    intro i τ G v hi t0 t4 t5 t7 t8 x hv
    have hi' : i = 1024 := by omega
    rw [hi'] at hv
    refine Wp.lp (l39_0 (exL_ok Q orc)) ?_
    subst hi'
    simp [b39_0, bb39_0, clip_t, t0, t4, t5, t7, t8]
    exact ⟨x, hv⟩
  | succ k ih =>
    intro i τ G v hi t0 t4 t5 t7 t8 x hv
    have hlt : i < 1024 := by omega
    have hw : IntKind.wrap .i64 ((i : Int) + 1) = ((i + 1 : Nat) : Int) := wrap64 (by omega) (by omega)
    have h1 : (i : Int) < 1024 := by omega
    have ea := among_ok' orc (hA.ext x) (by omega) (i : Int)
    have oo1 := (x.obj ob hob).trans oo
    have oa1 := (x.obj ab hab).trans oa
    have hl := behN_len A (ok, oA, oB, oW) (ae, aN, aW) i
    have stay : ∀ τ' : Env, behP A (ok, oA, oB, oW) (ae, aN, aW) i = false → τ' 0 = v0 → τ' 4 = P0 ob → τ' 5 = P0 ab → τ' 7 = v → τ' 8 = .int .i64 ((i + 1 : Nat) : Int) → Wp ((exL Q orc).lpx 39 0 τ' G) fun q => q.1 = .exit 0 ∧ Ext B q.2.2 ∧ OwR (rowsI .i64) B.nx q.2.2 (q.2.1 7) (behN A (ok, oA, oB, oW) (ae, aN, aW) 1024) := fun τ' hp a0 a4 a5 a7 a8 =>
      ih (i + 1) τ' G v (by omega) a0 a4 a5 a7 a8 x (by rw [behN_succ, hp]; simpa using hv)
    have x1 := x.push ⟨(rowsI .i64).row (i : Int), 1, false, 1⟩
    obtain ⟨v', G', e6, x6, w6⟩ := (hv.ext ((Ext.refl G).push ⟨(rowsI .i64).row (i : Int), 1, false, 1⟩)).app (A := B) (ib := 8) (by decide) x1 (SlR.one (rowsI .i64) G (i : Int)) (by simp; omega)
    simp only [rowsI_sz, rowsI_row] at e6
    have goes : ∀ τ' : Env, behP A (ok, oA, oB, oW) (ae, aN, aW) i = true → τ' 0 = v0 → τ' 4 = P0 ob → τ' 5 = P0 ab → τ' 7 = v' → τ' 8 = .int .i64 ((i + 1 : Nat) : Int) → Wp ((exL Q orc).lpx 39 0 τ' G') fun q => q.1 = .exit 0 ∧ Ext B q.2.2 ∧ OwR (rowsI .i64) B.nx q.2.2 (q.2.1 7) (behN A (ok, oA, oB, oW) (ae, aN, aW) 1024) := fun τ' hp a0 a4 a5 a7 a8 =>
      ih (i + 1) τ' G' v' (by omega) a0 a4 a5 a7 a8 x6 (by rw [behN_succ, hp]; simpa using w6)
    clear ih
    refine Wp.lp (l39_0 (exL_ok Q orc)) ?_
    by_cases h8 : ok = 8
    · subst h8
      by_cases hj : (i : Int) = oA
      · simp [-Int.natCast_add, b39_0, bb39_0, jl39_0_0, jbl39_0_0, jl39_0_1, jbl39_0_1, jl39_0_2, jbl39_0_2, clip_t, t0, t4, t5, t7, t8, h1, hlt, ea, oo1, oa1, eq_true hj, e6, hw]
        refine goes _ (by simp [behP, eq_true hj]) ?_ ?_ ?_ ?_ ?_ <;> simp [clip_t, t0, t4, t5]
      · by_cases hm : (i : Int) ∈ A
        · simp [-Int.natCast_add, b39_0, bb39_0, jl39_0_0, jbl39_0_0, jl39_0_1, jbl39_0_1, jl39_0_2, jbl39_0_2, clip_t, t0, t4, t5, t7, t8, h1, hlt, ea, oo1, oa1, hj, hm, e6, hw]
          refine goes _ (by simp [behP, hj, hm]) ?_ ?_ ?_ ?_ ?_ <;> simp [clip_t, t0, t4, t5]
        · simp [-Int.natCast_add, b39_0, bb39_0, jl39_0_0, jbl39_0_0, jl39_0_1, jbl39_0_1, jl39_0_2, jbl39_0_2, clip_t, t0, t4, t5, t7, t8, h1, hlt, ea, oo1, oa1, hj, hm, hw]
          refine stay _ (by simp [behP, hj, hm]) ?_ ?_ ?_ ?_ ?_ <;> simp [clip_t, t0, t4, t5, t7]
    · by_cases h7 : ok = 7
      · subst h7
        by_cases hj : (i : Int) = aN
        · by_cases hm : (i : Int) ∈ A
          · simp [-Int.natCast_add, b39_0, bb39_0, jl39_0_0, jbl39_0_0, jl39_0_1, jbl39_0_1, jl39_0_2, jbl39_0_2, clip_t, t0, t4, t5, t7, t8, h1, hlt, ea, oo1, oa1, eq_true hj, hm, hw]
            refine stay _ (by simp [behP, eq_true hj, hm]) ?_ ?_ ?_ ?_ ?_ <;> simp [clip_t, t0, t4, t5, t7]
          · simp [-Int.natCast_add, b39_0, bb39_0, jl39_0_0, jbl39_0_0, jl39_0_1, jbl39_0_1, jl39_0_2, jbl39_0_2, clip_t, t0, t4, t5, t7, t8, h1, hlt, ea, oo1, oa1, eq_true hj, hm, hw]
            refine stay _ (by simp [behP, eq_true hj, hm]) ?_ ?_ ?_ ?_ ?_ <;> simp [clip_t, t0, t4, t5, t7]
        · by_cases hm : (i : Int) ∈ A
          · simp [-Int.natCast_add, b39_0, bb39_0, jl39_0_0, jbl39_0_0, jl39_0_1, jbl39_0_1, jl39_0_2, jbl39_0_2, clip_t, t0, t4, t5, t7, t8, h1, hlt, ea, oo1, oa1, hj, hm, e6, hw]
            refine goes _ (by simp [behP, hj, hm]) ?_ ?_ ?_ ?_ ?_ <;> simp [clip_t, t0, t4, t5]
          · simp [-Int.natCast_add, b39_0, bb39_0, jl39_0_0, jbl39_0_0, jl39_0_1, jbl39_0_1, jl39_0_2, jbl39_0_2, clip_t, t0, t4, t5, t7, t8, h1, hlt, ea, oo1, oa1, hj, hm, hw]
            refine stay _ (by simp [behP, hj, hm]) ?_ ?_ ?_ ?_ ?_ <;> simp [clip_t, t0, t4, t5, t7]
      · by_cases hm : (i : Int) ∈ A
        · simp [-Int.natCast_add, b39_0, bb39_0, jl39_0_0, jbl39_0_0, jl39_0_1, jbl39_0_1, jl39_0_2, jbl39_0_2, clip_t, t0, t4, t5, t7, t8, h1, hlt, ea, oo1, oa1, h7, h8, hm, e6, hw]
          refine goes _ (by simp [behP, h7, h8, hm]) ?_ ?_ ?_ ?_ ?_ <;> simp [clip_t, t0, t4, t5]
        · simp [-Int.natCast_add, b39_0, bb39_0, jl39_0_0, jbl39_0_0, jl39_0_1, jbl39_0_1, jl39_0_2, jbl39_0_2, clip_t, t0, t4, t5, t7, t8, h1, hlt, ea, oo1, oa1, h7, h8, hm, hw]
          refine stay _ (by simp [behP, h7, h8, hm]) ?_ ?_ ?_ ?_ ?_ <;> simp [clip_t, t0, t4, t5, t7]
theorem behind_ok (orc : FuncId → Bool) (hA : SlR (rowsI .i64) G v0 A) (hlen : A.length < 2 ^ 36) (op : Opn) (an : An) : ∃ v G', (E orc).cl 39 [v0, opV op, anV an] G = some (v, G') ∧ Ext G G' ∧ OwR (rowsI .i64) G.nx G' v (behA A op an) := by
  have w : Wp ((E orc).cl 39 [v0, opV op, anV an] G) fun q => Ext G q.2 ∧ OwR (rowsI .i64) G.nx q.2 q.1 (behA A op an) := by
    refine Wp.ref (f39 (exL_ok Q orc) _ _ _ G) ?_
    obtain ⟨G1, hG1⟩ : ∃ G1, G1 = (G.push ⟨[.int .i64 op.1, .int .i64 op.2.1, .int .i64 op.2.2.1, .int .u64 op.2.2.2], 1, false, 1⟩).push ⟨[.int .i64 an.1, .int .i64 an.2.1, .int .u64 an.2.2], 1, false, 1⟩ := ⟨_, rfl⟩
    have x1 : Ext G G1 := by rw [hG1]; exact ((Ext.refl G).push _).push _
    have n1 : G1.nx = G.nx + 2 := by rw [hG1]; rfl
    have oo : G1.obj G.nx = some ⟨[.int .i64 op.1, .int .i64 op.2.1, .int .i64 op.2.2.1, .int .u64 op.2.2.2], 1, false, 1⟩ := by rw [hG1]; simp
    have oa : G1.obj (G.nx + 1) = some ⟨[.int .i64 an.1, .int .i64 an.2.1, .int .u64 an.2.2], 1, false, 1⟩ := by rw [hG1]; simp
    unfold behA
    by_cases h0 : an.1 = 0
    · rw [h0] at oa hG1
      simp [s39, h0]
      rw [← hG1]
      refine Wp.bE ((beh_lp orc (op := op) (an := an) (B := G1) (ob := G.nx) (ab := G.nx + 1) (hA.ext x1) hlen (by omega) (by omega) oo (by rw [h0]; exact oa) 1024 0 _ G1 (.slice none 0 0) (by omega) (by simp) (by simp) (by simp) (by simp) (by simp) (Ext.refl _) (OwR.nil _ _)).mono ?_)
      rintro ⟨e, τ, G2⟩ ⟨rfl, x2, w2⟩
      simp only at x2 w2
      simp
      exact ⟨x1.trans x2, w2.mono x1.nx⟩
    · obtain ⟨v, G2, e2, x2, w2⟩ := copy9 orc (hA.ext x1) (by omega)
      simp [s39, h0, ← hG1, oa, e2]
      exact ⟨x1.trans x2, w2.mono x1.nx⟩
  obtain ⟨⟨v, G'⟩, e, e1, e2⟩ := w
  exact ⟨v, G', e, e1, e2⟩
end
end Go.Proofs.YtocbppgkgcoehaaDoor.Lift

set_option linter.unusedVariables false
set_option linter.unusedSimpArgs false
set_option maxRecDepth 20000
namespace Go.Proofs.YtocbppgkgcoehaaDoor.Lift
open Go Go.Proofs.YtocbppgkgcoehaaDoor.Gh Go.Proofs
/-! ### Next -/
def nextA (l : List Int) (op : Opn) (an : An) : List Int × Bool := if an ∈ allA l op then (behA l op an, true) else ([], false)
section
variable {B G : GS} {A : List Int} {v0 v1 : Value} {L : List An}
theorem rnext_lp (orc : FuncId → Bool) {ob ab : Nat} {op : Opn} {an : An} (hA : SlR (rowsI .i64) B v0 A) (hlen : A.length < 2 ^ 36) (hL : SlR rAn B v1 L) (hlenL : L.length < 2 ^ 40) (hob : ob < B.nx) (hab : ab < B.nx) (oo : B.obj ob = some ⟨[.int .i64 op.1, .int .i64 op.2.1, .int .i64 op.2.2.1, .int .u64 op.2.2.2], 1, false, 1⟩) (oa : B.obj ab = some ⟨[.int .i64 an.1, .int .i64 an.2.1, .int .u64 an.2.2], 1, false, 1⟩) :
    ∀ (k i : Nat) (τ : Env) (G : GS), i + k = L.length → τ 0 = v0 → τ 4 = P0 ob → τ 5 = P0 ab → τ 8 = v1 → τ 9 = .int .i64 (i : Int) → Ext B G →
    Wp ((exL Q orc).lpx 11 0 τ G) fun q => Ext B q.2.2 ∧ ((q.1 = .exit 0 ∧ an ∉ L.drop i) ∨ (q.1 = .ret ∧ an ∈ L.drop i ∧ q.2.1 7 = .bool true ∧ OwR (rowsI .i64) B.nx q.2.2 (q.2.1 6) (behA A op an))) := by
  intro k
  induction k with
  | zero =>
    intro i τ G hi t0 t4 t5 t8 t9 x
    have hi' : i = L.length := by omega
    obtain ⟨a, c, e0⟩ := hL.len
    refine Wp.lp (l11_0 (exL_ok Q orc)) ?_
    subst hi'
    simp [b11_0, clip_t, t0, t4, t5, t8, t9, e0]
    exact x
  | succ k ih =>
    intro i τ G hi t0 t4 t5 t8 t9 x
    have hlt : i < L.length := by omega
    have hw : IntKind.wrap .i64 ((i : Int) + 1) = ((i + 1 : Nat) : Int) := wrap64 (by omega) (by omega)
    have h1 : (i : Int) < L.length := by omega
    have h2 : (0 : Int) ≤ i := by omega
    have x6 := x.room 6
    obtain ⟨b, o, c, e0, _, _, q0⟩ := (hL.ext x).at hlt
    simp only [rAn_sz, rAn_row] at q0
    have oo1 := (x.obj ob hob).trans oo
    have oa1 := (x.obj ab hab).trans oa
    rw [List.drop_eq_getElem_cons hlt]
    generalize hy : L[i] = y at *
    have heq := eq_an (.tmp 22) (.tmp 23) y an
    refine Wp.lp (l11_0 (exL_ok Q orc)) ?_
    by_cases hc : y = an
    · subst hc
      obtain ⟨v', G', e6, x7, w7⟩ := behind_ok orc (hA.ext x6) hlen op y
      simp only [decide_true] at heq
      simp [-loadA_s, -Int.natCast_add, b11_0, clip_t, t0, t4, t5, t8, t9, e0, h1, h2, hlt, q0, loadA_whole oa1, loadA_whole oo1, heq, e6]
      exact ⟨x6.trans x7, w7.mono x6.nx⟩
    · have hc' : ¬ an = y := fun e => hc e.symm
      simp only [hc, decide_false] at heq
      simp [-loadA_s, -Int.natCast_add, b11_0, clip_t, t0, t4, t5, t8, t9, e0, h1, h2, hlt, q0, loadA_whole oa1, loadA_whole oo1, heq, hw]
      refine Wp.mono (ih (i + 1) _ (G.room 6) (by omega) ?_ ?_ ?_ ?_ ?_ x6) fun q hq => ?_
      · simp [clip_t, t0]
      · simp [clip_t, t4]
      · simp [clip_t, t5]
      · simp [clip_t, e0]
      · simp [clip_t]
      · simpa [hc'] using hq
theorem allA_len (l : List Int) (op : Opn) : (allA l op).length ≤ l.length + 2 := by
  unfold allA
  split
  · split
    · simp
    · split <;> simp
  · simp
theorem rnext_ok (orc : FuncId → Bool) (hA : SlR (rowsI .i64) G v0 A) (hlen : A.length < 2 ^ 36) (op : Opn) (an : An) : ∃ v G', (E orc).cl 11 [v0, opV op, anV an] G = some (.tuple #[v, .bool (nextA A op an).2], G') ∧ Ext G G' ∧ OwR (rowsI .i64) G.nx G' v (nextA A op an).1 := by
  have w : Wp ((E orc).cl 11 [v0, opV op, anV an] G) fun q => ∃ v, q.1 = .tuple #[v, .bool (nextA A op an).2] ∧ Ext G q.2 ∧ OwR (rowsI .i64) G.nx q.2 v (nextA A op an).1 := by
    refine Wp.ref (f11 (exL_ok Q orc) _ _ _ G) ?_
    obtain ⟨G1, hG1⟩ : ∃ G1, G1 = (G.push ⟨[.int .i64 op.1, .int .i64 op.2.1, .int .i64 op.2.2.1, .int .u64 op.2.2.2], 1, false, 1⟩).push ⟨[.int .i64 an.1, .int .i64 an.2.1, .int .u64 an.2.2], 1, false, 1⟩ := ⟨_, rfl⟩
    have x1 : Ext G G1 := by rw [hG1]; exact ((Ext.refl G).push _).push _
    have n1 : G1.nx = G.nx + 2 := by rw [hG1]; rfl
    have oo : G1.obj G.nx = some ⟨[.int .i64 op.1, .int .i64 op.2.1, .int .i64 op.2.2.1, .int .u64 op.2.2.2], 1, false, 1⟩ := by rw [hG1]; simp
    have oa : G1.obj (G.nx + 1) = some ⟨[.int .i64 an.1, .int .i64 an.2.1, .int .u64 an.2.2], 1, false, 1⟩ := by rw [hG1]; simp
    obtain ⟨v1, G2, e2, x2, w2⟩ := rall_ok orc (hA.ext x1) hlen op
    have y2 := x1.trans x2
    have hl := allA_len A op
    have n2 := x2.nx
    simp [s11, ← hG1, oo, e2]
    refine Wp.bE ((rnext_lp orc (op := op) (an := an) (B := G2) (ob := G.nx) (ab := G.nx + 1) (hA.ext y2) hlen w2.is (by omega) (by omega) (by omega) ((x2.obj _ (by omega)).trans oo) ((x2.obj _ (by omega)).trans oa) (allA A op).length 0 _ G2 (by omega) (by simp) (by simp) (by simp) (by simp) (by simp) (Ext.refl _)).mono ?_)
    rintro ⟨e, τ, G3⟩ ⟨x3, (⟨h1, h2⟩ | ⟨h1, h2, h3, h4⟩)⟩
    · simp only [List.drop_zero] at x3 h1 h2
      subst h1
      simp [nextA, h2]
      exact ⟨y2.trans x3, OwR.nil _ _⟩
    · simp only [List.drop_zero] at x3 h1 h2 h3 h4
      subst h1
      simp [nextA, h2, h3]
      exact ⟨y2.trans x3, h4.mono y2.nx⟩
  obtain ⟨⟨v, G'⟩, e, v', rfl, e1, e2⟩ := w
  exact ⟨v', G', e, e1, e2⟩
end
end Go.Proofs.YtocbppgkgcoehaaDoor.Lift

