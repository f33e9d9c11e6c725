import Derived.Test.YtglafaecdpilgaaH9
set_option linter.unusedVariables false
set_option linter.unusedSimpArgs false
set_option maxRecDepth 20000
namespace Go.Proofs.Ytglafaecdpilgaa.Lift
open Go Go.Proofs.Ytglafaecdpilgaa.Gh Go.Proofs
theorem pick11_ok (orc : FuncId → Bool) (x : Int) (G : GS) : (E orc).cl 21 [.int .i64 x, .int .i64 11] G = some (.int .i64 (x % 11), G) := by
  refine f21 (exL_ok Q orc) _ _ G _ ?_
  have h1 := Int.emod_nonneg x (show (11 : Int) ≠ 0 by decide)
  have h2 := Int.emod_lt_of_pos x (show (0 : Int) < 11 by decide)
  have ht := @Int.tmod_eq_emod x 11
  rw [show Int.natAbs 11 = 11 from rfl] at ht
  by_cases hx : x.tmod 11 < 0
  · have e : x.tmod 11 + 11 = x % 11 := by split at ht <;> omega
    have hw : IntKind.wrap .i64 (x % 11) = x % 11 := wrap64 (by omega) (by omega)
    simp [s21, hx, e, hw]
  · have e : x.tmod 11 = x % 11 := by split at ht <;> omega
    have hx' : ¬ x % 11 < 0 := by omega
    simp [s21, hx', e]
/-- the items of a full set -/
def fullL (n : Nat) : List It := (List.range n).map fun j : Nat => ((2 * (j : Int) + 1 : Int), (j : Int))
theorem fullL_succ (n : Nat) : fullL (n + 1) = fullL n ++ [((2 * (n : Int) + 1 : Int), (n : Int))] := by simp [fullL, List.range_succ]
@[simp] theorem fullL_length (n : Nat) : (fullL n).length = n := by simp [fullL]
theorem full_lp (orc : FuncId → Bool) (x : Int) (N : Nat) (hN : (N : Int) = 1018 + x % 11) (A : GS) (key : Int) : ∀ (k i : Nat) (v : Value) (τ : Env) (G : GS), i + k = N → τ 0 = .int .i64 x → τ 1 = .int .u64 key → τ 5 = v → τ 6 = .int .i64 i → Ext A G → OwR rIt A.nx G v (fullL i) →
    Wp ((exL Q orc).lpx 4 0 τ G) fun r => r.1 = .exit 0 ∧ Ext A r.2.2 ∧ r.2.1 1 = .int .u64 key ∧ OwR rIt A.nx r.2.2 (r.2.1 5) (fullL N) := by
  have hx1 := Int.emod_nonneg x (show (11 : Int) ≠ 0 by decide)
  have hx2 := Int.emod_lt_of_pos x (show (0 : Int) < 11 by decide)
  have hw0 : IntKind.wrap .i64 (1018 + x % 11) = (N : Int) := by rw [wrap64 (by omega) (by omega)]; omega
  intro k
  induction k with
  | zero =>
    intro i v τ G hi t0 t1 t5 t6 hA ho
    have : i = N := by omega
    subst this
    refine Wp.lp (l4_0 (exL_ok Q orc)) ?_
    simp [b4_0, clip_t, t0, t1, t5, t6, pick11_ok, hw0]
    exact ⟨hA, ho⟩
  | succ k ih =>
    intro i v τ G hi t0 t1 t5 t6 hA ho
    have hlt : i < N := by omega
    have hw : IntKind.wrap .i64 ((i : Int) + 1) = ((i + 1 : Nat) : Int) := wrap64 (by omega) (by omega)
    have hw2 : IntKind.wrap .i64 (2 * (i : Int)) = 2 * (i : Int) := wrap64 (by omega) (by omega)
    have hw3 : IntKind.wrap .i64 (2 * (i : Int) + 1) = 2 * (i : Int) + 1 := wrap64 (by omega) (by omega)
    have hw4 : IntKind.wrap .u64 (2 * (i : Int) + 1) = 2 * (i : Int) + 1 := wrapU64 (by omega) (by omega)
    obtain ⟨v', G', a1, a2, a3⟩ := (ho.ext ((Ext.refl G).push ⟨rIt.row (2 * (i : Int) + 1, (i : Int)), rIt.sz, false, 1⟩)).app (ib := 16) (by decide) (hA.push _) (SlR.one rIt G (2 * (i : Int) + 1, (i : Int))) (by simp; omega)
    rw [← fullL_succ] at a3
    simp only [rIt_sz, rIt_row] at a1
    refine Wp.lp (l4_0 (exL_ok Q orc)) ?_
    simp [-Int.natCast_add, b4_0, clip_t, t0, t1, t5, t6, pick11_ok, hw0, hlt, hw, hw2, hw3, hw4, fillL, fillS, fillC, splice_put, splice_end, splice_succ, Value.cells, rep, a1]
    refine ih (i + 1) v' _ G' (by omega) rfl ?_ rfl rfl a2 a3
    simp [clip_t, t1]
theorem heapFull (orc : FuncId → Bool) (ho : orc 13 = true) (h59 : orc 59 = false) (x key : Int) (G : GS) : Wp ((E orc).cl 4 [.int .i64 x, .int .u64 key] G) fun r => r.1 = .bool true := by
  refine Wp.ref (f4 (exL_ok Q orc) _ _ G) ?_
  have hx1 := Int.emod_nonneg x (show (11 : Int) ≠ 0 by decide)
  have hx2 := Int.emod_lt_of_pos x (show (0 : Int) < 11 by decide)
  simp [s4]
  refine Wp.bE ((full_lp orc x (1018 + x % 11).toNat (by omega) G key (1018 + x % 11).toNat 0 (.slice none 0 0) _ G (by omega) rfl rfl rfl rfl (Ext.refl G) (OwR.nil _ _)).mono ?_)
  rintro ⟨e, τ, G2⟩ ⟨rfl, x2, t1, o2⟩
  simp only at x2 t1 o2
  generalize t5 : τ 5 = v at *
  generalize hN : (1018 + x % 11).toNat = N at *
  have hNl : N < 2 ^ 30 := by omega
  generalize hL : fullL N = L at *
  have hlen : L.length < 2 ^ 30 := by rw [← hL]; simpa using hNl
  have s6 : storeN 4 G2.nx 0 (opV 4 5 0 key) (G2.push ⟨[.int .i64 0, .int .i64 0, .int .i64 0, .int .u64 0], 1, false, 1⟩) = some ((G2.push ⟨[.int .i64 0, .int .i64 0, .int .i64 0, .int .u64 0], 1, false, 1⟩).put G2.nx ⟨opC 4 5 0 key, 1, false, 1⟩) := storeN_whole (cs := [.int .i64 0, .int .i64 0, .int .i64 0, .int .u64 0]) (by simp) rfl rfl rfl
  have x6 : Ext G2 ((G2.push ⟨[.int .i64 0, .int .i64 0, .int .i64 0, .int .u64 0], 1, false, 1⟩).put G2.nx ⟨opC 4 5 0 key, 1, false, 1⟩) := ((Ext.refl _).push _).put (Nat.le_refl _) _
  have b6 : ((G2.push ⟨[.int .i64 0, .int .i64 0, .int .i64 0, .int .u64 0], 1, false, 1⟩).put G2.nx ⟨opC 4 5 0 key, 1, false, 1⟩).obj G2.nx = some ⟨opC 4 5 0 key, 1, false, 1⟩ := by simp
  have n6 : G2.nx < ((G2.push ⟨[.int .i64 0, .int .i64 0, .int .i64 0, .int .u64 0], 1, false, 1⟩).put G2.nx ⟨opC 4 5 0 key, 1, false, 1⟩).nx := by simp
  generalize hG6 : ((G2.push ⟨[.int .i64 0, .int .i64 0, .int .i64 0, .int .u64 0], 1, false, 1⟩).put G2.nx ⟨opC 4 5 0 key, 1, false, 1⟩) = G6 at *
  have hs := o2.is.ext x6
  have lo : ∀ {G'}, Ext G6 G' → loadA 4 G2.nx 0 G' = some (opV 4 5 0 key) := fun h => ld_op ((h.obj _ n6).trans b6) (by decide)
  obtain ⟨⟨q13, G13⟩, e13, x13, v14, h13, o13⟩ := next_ok orc h59 (by omega) 4 5 0 key 0 0 0 hs
  simp only at x13 h13 o13
  subst h13
  obtain ⟨⟨q19, G19⟩, e19, x19, v20, h19, o19⟩ := rnext_ok orc (by omega) 4 5 0 key 0 0 0 (hs.ext x13)
  simp only at x19 h19 o19
  subst h19
  have x919 := x13.trans x19
  obtain ⟨⟨q24, G24⟩, e24, rfl, x24⟩ := answer_ok orc h59 (by omega) 4 5 0 key (hs.ext x919)
  have x924 := x919.trans x24
  have s29 : storeN 3 G24.nx 0 (ansV (hCode L 4 key) (hNum L 4) (hWord L 4)) (G24.push ⟨zAns, 1, false, 1⟩) = some ((G24.push ⟨zAns, 1, false, 1⟩).put G24.nx ⟨[.int .i64 (hCode L 4 key), .int .i64 (hNum L 4), .int .u64 (hWord L 4)], 1, false, 1⟩) := st_ans (by simp; exact ⟨rfl, rfl, rfl⟩) _ _ _
  have x29 : Ext G24 ((G24.push ⟨zAns, 1, false, 1⟩).put G24.nx ⟨[.int .i64 (hCode L 4 key), .int .i64 (hNum L 4), .int .u64 (hWord L 4)], 1, false, 1⟩) := ((Ext.refl _).push _).put (Nat.le_refl _) _
  have b29 : ((G24.push ⟨zAns, 1, false, 1⟩).put G24.nx ⟨[.int .i64 (hCode L 4 key), .int .i64 (hNum L 4), .int .u64 (hWord L 4)], 1, false, 1⟩).obj G24.nx = some ⟨[.int .i64 (hCode L 4 key), .int .i64 (hNum L 4), .int .u64 (hWord L 4)], 1, false, 1⟩ := by simp
  have n29 : G24.nx < ((G24.push ⟨zAns, 1, false, 1⟩).put G24.nx ⟨[.int .i64 (hCode L 4 key), .int .i64 (hNum L 4), .int .u64 (hWord L 4)], 1, false, 1⟩).nx := by simp
  generalize hG29 : ((G24.push ⟨zAns, 1, false, 1⟩).put G24.nx ⟨[.int .i64 (hCode L 4 key), .int .i64 (hNum L 4), .int .u64 (hWord L 4)], 1, false, 1⟩) = G29 at *
  have x929 := x924.trans x29
  obtain ⟨⟨q32, G32⟩, e32, rfl, x32⟩ := ranswer_ok orc (by omega) 4 5 0 key (hs.ext x929)
  have s37 : storeN 3 G32.nx 0 (ansV (hCode L 4 key) (hNum L 4) (hWord L 4)) (G32.push ⟨zAns, 1, false, 1⟩) = some ((G32.push ⟨zAns, 1, false, 1⟩).put G32.nx ⟨[.int .i64 (hCode L 4 key), .int .i64 (hNum L 4), .int .u64 (hWord L 4)], 1, false, 1⟩) := st_ans (by simp; exact ⟨rfl, rfl, rfl⟩) _ _ _
  have x37 : Ext G32 ((G32.push ⟨zAns, 1, false, 1⟩).put G32.nx ⟨[.int .i64 (hCode L 4 key), .int .i64 (hNum L 4), .int .u64 (hWord L 4)], 1, false, 1⟩) := ((Ext.refl _).push _).put (Nat.le_refl _) _
  have b37 : ((G32.push ⟨zAns, 1, false, 1⟩).put G32.nx ⟨[.int .i64 (hCode L 4 key), .int .i64 (hNum L 4), .int .u64 (hWord L 4)], 1, false, 1⟩).obj G32.nx = some ⟨[.int .i64 (hCode L 4 key), .int .i64 (hNum L 4), .int .u64 (hWord L 4)], 1, false, 1⟩ := by simp
  have n37 : G32.nx < ((G32.push ⟨zAns, 1, false, 1⟩).put G32.nx ⟨[.int .i64 (hCode L 4 key), .int .i64 (hNum L 4), .int .u64 (hWord L 4)], 1, false, 1⟩).nx := by simp
  generalize hG37 : ((G32.push ⟨zAns, 1, false, 1⟩).put G32.nx ⟨[.int .i64 (hCode L 4 key), .int .i64 (hNum L 4), .int .u64 (hWord L 4)], 1, false, 1⟩) = G37 at *
  have x2937 := x32.trans x37
  have x1937 := ((x24.trans x29).trans x2937)
  have hnl : (hNext L 4 5 key 0 0 0).length < 2 ^ 40 := by
    unfold hNext
    split
    · split
      · omega
      · split
        · omega
        · split
          · simp; omega
          · simp; omega
    · simp
  obtain ⟨G36, e36, x36⟩ := sameItems orc ((o13.is.ext x19).ext x1937) (o19.is.ext x1937) (by omega)
  simp only [decide_true] at e36
  have l27 : loadA 3 G24.nx 0 G36 = some (ansV (hCode L 4 key) (hNum L 4) (hWord L 4)) := ld_an (((x2937.trans x36).obj _ n29).trans b29) (by decide)
  have l35 : loadA 3 G32.nx 0 G36 = some (ansV (hCode L 4 key) (hNum L 4) (hWord L 4)) := ld_an ((x36.obj _ n37).trans b37) (by decide)
  have heq := eq_an (.tmp 69) (.tmp 70) (hCode L 4 key) (hNum L 4) (hWord L 4) (hCode L 4 key) (hNum L 4) (hWord L 4)
  have hs36 := hs.ext ((x919.trans x1937).trans x36)
  obtain ⟨G61, e61, x61⟩ := check_ok orc hs36 (by omega)
  obtain ⟨G65, e65, x65⟩ := rcheck_ok orc (hs36.ext x61) (by omega)
  simp [t1, t5, fillL, fillC, splice_put, splice_end, splice_succ, Value.cells, s6, hG6, lo (Ext.refl _), e13, lo x13, e19, lo x919, e24, s29, hG29, lo x929, e32, s37, hG37, e36, l27, l35, heq, e61, e65, cl_orc Q orc ho]
end Go.Proofs.Ytglafaecdpilgaa.Lift
