import Derived.Test.YtglafaecdpilgaaH8
set_option linter.unusedVariables false
set_option linter.unusedSimpArgs false
set_option maxRecDepth 20000
namespace Go.Proofs.Ytglafaecdpilgaa.Lift
open Go Go.Proofs.Ytglafaecdpilgaa.Gh Go.Proofs
/-- how many are the first n -/
def mN (n : Int) (l : Nat) : Nat := (if 0 < (if (l : Int) < n then (l : Int) else n) then (if (l : Int) < n then (l : Int) else n) else 0).toNat
theorem mN_le (n : Int) (l : Nat) : mN n l ≤ l := by unfold mN; split <;> split <;> omega
theorem mN_eq (n : Int) (l : Nat) : (if 0 < (if (l : Int) < n then (l : Int) else n) then (if (l : Int) < n then (l : Int) else n) else 0) = ((mN n l : Nat) : Int) := by unfold mN; split <;> split <;> omega
theorem least_ok (orc : FuncId → Bool) {L : List It} (hlen : L.length < 2 ^ 39) {v0 : Value} (n : Int) {G : GS} (hs : SlR rIt G v0 L) :
    ∃ v' G', (E orc).cl 24 [v0, .int .i64 n] G = some (v', G') ∧ Ext G G' ∧ OwR rIt G.nx G' v' (L.take (mN n L.length)) := by
  obtain ⟨_, vt, t1, t2⟩ := hs.take (k := .i64) (mN_le n L.length)
  obtain ⟨v', G', e1, e2, e3⟩ := clone_ok orc t2 (by simp; omega)
  obtain ⟨av, cv, hv⟩ := hs.len
  have hln : ln Q true 22 v0 = some (.int .i64 L.length) := by rw [hv]; simp
  have t3 : sl Q true 22 2 v0 none (some (.int .i64 (mN n L.length))) (some (.int .i64 (mN n L.length))) G = some vt := by rw [hv] at t1 ⊢; simpa using t1
  exact ⟨v', G', f24 (exL_ok Q orc) _ _ G _ (by simp [s24, hln, mN_eq, t3, e1]), e2, e3⟩
theorem rleast_ok (orc : FuncId → Bool) {L : List It} (hlen : L.length < 2 ^ 39) {v0 : Value} (n : Int) {G : GS} (hs : SlR rIt G v0 L) :
    ∃ v' G', (E orc).cl 27 [v0, .int .i64 n] G = some (v', G') ∧ Ext G G' ∧ OwR rIt G.nx G' v' (L.take (mN n L.length)) := by
  obtain ⟨⟨vt, t1, t2⟩, _⟩ := hs.take (k := .i64) (mN_le n L.length)
  obtain ⟨v', G', e1, e2, e3⟩ := copyItems orc t2 (by simp; omega)
  obtain ⟨av, cv, hv⟩ := hs.len
  have hln : ln Q true 22 v0 = some (.int .i64 L.length) := by rw [hv]; simp
  have t3 : sl Q true 22 2 v0 none (some (.int .i64 (mN n L.length))) none G = some vt := by rw [hv] at t1 ⊢; simpa using t1
  exact ⟨v', G', f27 (exL_ok Q orc) _ _ G _ (by simp [s27, hln, mN_eq, t3, e1]), e2, e3⟩
theorem heapPlaces (orc : FuncId → Bool) (ho : orc 13 = true) (L : List It) (v0 : Value) (n key : Int) (G : GS) (hs : SlR rIt G v0 L) :
    Wp ((E orc).cl 5 [v0, .int .i64 n, .int .u64 key] G) fun r => r.1 = .bool true := by
  obtain ⟨av, cv, hv⟩ := hs.len
  have hln : ln Q true 22 v0 = some (.int .i64 L.length) := by rw [hv]; simp
  refine Wp.ref (f5 (exL_ok Q orc) _ _ _ G) ?_
  by_cases hl : 100 < L.length
  · have hl' : (100 : Int) < L.length := by omega
    simp [s5, hln, hl', cl_orc Q orc ho]
  have hl' : ¬ (100 : Int) < L.length := by omega
  obtain ⟨vc, G5, e5, x5, o5⟩ := copyItems orc hs (by omega)
  obtain ⟨va, G7, e7, x7, o7⟩ := least_ok orc (by omega) n o5.is
  obtain ⟨⟨q8, G9⟩, e9, rfl, x9⟩ := placeX_ok orc (by omega) key (o5.is.ext x7)
  obtain ⟨⟨q12, G13⟩, e13, rfl, x13⟩ := rplace_ok orc (by omega) key (((hs.ext x5).ext x7).ext x9)
  have x713 := (x7.trans x9).trans x13
  obtain ⟨vb, G17, e17, x17, o17⟩ := rleast_ok orc (by omega) n ((hs.ext x5).ext x713)
  have hm := mN_le n L.length
  obtain ⟨G19, e19, x19⟩ := sameItems orc (((o7.is.ext x9).ext x13).ext x17) o17.is (by simp; omega)
  simp only [decide_true] at e19
  have x719 := (x713.trans x17).trans x19
  obtain ⟨G37, e37, x37⟩ := check_ok orc (o5.is.ext x719) (by omega)
  obtain ⟨G41, e41, x41⟩ := rcheck_ok orc (((hs.ext x5).ext x719).ext x37) (by omega)
  have x941 := ((((x9.trans x13).trans x17).trans x19).trans x37).trans x41
  obtain ⟨G46, e46, y46, m46⟩ := overItems orc (hi := G7.nx) (o7.ext x941) o7.is.lt (by simp; omega)
  have x541 := x7.trans x941
  have n5 := x5.nx
  have n541 := x541.nx
  have kp : ∀ {v : Value}, SlR rIt G5 v L → SlR rIt G46 v L := fun h => h.same (Nat.le_trans n541 y46) fun a m c he => by
    have := h.lt _ _ _ he
    rw [m46 _ (.inl (by omega)), x541.obj _ this]
  obtain ⟨G52, e52, x52⟩ := sameItems orc (kp o5.is) (kp (hs.ext x5)) (by omega)
  simp only [decide_true] at e52
  simp [s5, hln, hl', e5, e7, e9, e13, e17, e19, e37, e41, e46, e52, cl_orc Q orc ho]
theorem heapNext (orc : FuncId → Bool) (ho : orc 13 = true) (h59 : orc 59 = false) (L : List It) (v0 : Value) (k a b w c i u : Int) (G : GS) (hs : SlR rIt G v0 L) :
    Wp ((E orc).cl 3 [v0, opV k a b w, ansV c i u] G) fun r => r.1 = .bool true := by
  obtain ⟨av, cv, hv⟩ := hs.len
  have hln : ln Q true 22 v0 = some (.int .i64 L.length) := by rw [hv]; simp
  refine Wp.ref (f3 (exL_ok Q orc) _ _ _ G) ?_
  by_cases hl : 100 < L.length
  · have hl' : (100 : Int) < L.length := by omega
    simp [s3, hln, hl', cl_orc Q orc ho]
  have hl' : ¬ (100 : Int) < L.length := by omega
  have x3 : Ext G ((G.push ⟨opC k a b w, 1, false, 1⟩).push ⟨[.int .i64 c, .int .i64 i, .int .u64 u], 1, false, 1⟩) := ((Ext.refl G).push _).push _
  obtain ⟨vc, G9, e9, x9, o9⟩ := copyItems orc (hs.ext x3) (by omega)
  obtain ⟨p1, p2, n9⟩ := x9.boxed2
  have hs9 := (hs.ext x3).ext x9
  have lo : ∀ {G'}, Ext G9 G' → loadA 4 G.nx 0 G' = some (opV k a b w) := fun h => ld_op ((h.obj _ (by omega)).trans p1) (by decide)
  have la : ∀ {G'}, Ext G9 G' → loadA 3 (G.nx + 1) 0 G' = some (ansV c i u) := fun h => ld_an ((h.obj _ (by omega)).trans p2) (by decide)
  obtain ⟨⟨q13, G13⟩, e13, x13, v14, h13, o13⟩ := next_ok orc h59 (by omega) k a b w c i u o9.is
  simp only at x13 h13 o13
  subst h13
  obtain ⟨⟨q19, G19⟩, e19, x19, v20, h19, o19⟩ := rnext_ok orc (by omega) k a b w c i u (hs9.ext x13)
  simp only at x19 h19 o19
  subst h19
  have x919 := x13.trans x19
  obtain ⟨⟨q24, G24⟩, e24, rfl, x24⟩ := answer_ok orc h59 (by omega) k a b w (o9.is.ext x919)
  have x924 := x919.trans x24
  have s29 : storeN 3 G24.nx 0 (ansV (hCode L k w) (hNum L k) (hWord L k)) (G24.push ⟨zAns, 1, false, 1⟩) = some ((G24.push ⟨zAns, 1, false, 1⟩).put G24.nx ⟨[.int .i64 (hCode L k w), .int .i64 (hNum L k), .int .u64 (hWord L k)], 1, false, 1⟩) := st_ans (by simp; exact ⟨rfl, rfl, rfl⟩) _ _ _
  have x29 : Ext G24 ((G24.push ⟨zAns, 1, false, 1⟩).put G24.nx ⟨[.int .i64 (hCode L k w), .int .i64 (hNum L k), .int .u64 (hWord L k)], 1, false, 1⟩) := ((Ext.refl _).push _).put (Nat.le_refl _) _
  have b29 : ((G24.push ⟨zAns, 1, false, 1⟩).put G24.nx ⟨[.int .i64 (hCode L k w), .int .i64 (hNum L k), .int .u64 (hWord L k)], 1, false, 1⟩).obj G24.nx = some ⟨[.int .i64 (hCode L k w), .int .i64 (hNum L k), .int .u64 (hWord L k)], 1, false, 1⟩ := by simp
  have n29 : G24.nx < ((G24.push ⟨zAns, 1, false, 1⟩).put G24.nx ⟨[.int .i64 (hCode L k w), .int .i64 (hNum L k), .int .u64 (hWord L k)], 1, false, 1⟩).nx := by simp
  generalize hG29 : ((G24.push ⟨zAns, 1, false, 1⟩).put G24.nx ⟨[.int .i64 (hCode L k w), .int .i64 (hNum L k), .int .u64 (hWord L k)], 1, false, 1⟩) = G29 at *
  have x929 := x924.trans x29
  obtain ⟨⟨q32, G32⟩, e32, rfl, x32⟩ := ranswer_ok orc (by omega) k a b w (hs9.ext x929)
  have s37 : storeN 3 G32.nx 0 (ansV (hCode L k w) (hNum L k) (hWord L k)) (G32.push ⟨zAns, 1, false, 1⟩) = some ((G32.push ⟨zAns, 1, false, 1⟩).put G32.nx ⟨[.int .i64 (hCode L k w), .int .i64 (hNum L k), .int .u64 (hWord L k)], 1, false, 1⟩) := st_ans (by simp; exact ⟨rfl, rfl, rfl⟩) _ _ _
  have x37 : Ext G32 ((G32.push ⟨zAns, 1, false, 1⟩).put G32.nx ⟨[.int .i64 (hCode L k w), .int .i64 (hNum L k), .int .u64 (hWord L k)], 1, false, 1⟩) := ((Ext.refl _).push _).put (Nat.le_refl _) _
  have b37 : ((G32.push ⟨zAns, 1, false, 1⟩).put G32.nx ⟨[.int .i64 (hCode L k w), .int .i64 (hNum L k), .int .u64 (hWord L k)], 1, false, 1⟩).obj G32.nx = some ⟨[.int .i64 (hCode L k w), .int .i64 (hNum L k), .int .u64 (hWord L k)], 1, false, 1⟩ := by simp
  have n37 : G32.nx < ((G32.push ⟨zAns, 1, false, 1⟩).put G32.nx ⟨[.int .i64 (hCode L k w), .int .i64 (hNum L k), .int .u64 (hWord L k)], 1, false, 1⟩).nx := by simp
  generalize hG37 : ((G32.push ⟨zAns, 1, false, 1⟩).put G32.nx ⟨[.int .i64 (hCode L k w), .int .i64 (hNum L k), .int .u64 (hWord L k)], 1, false, 1⟩) = G37 at *
  have x2937 := x32.trans x37
  have x1937 := ((x24.trans x29).trans x2937)
  have hnl : (hNext L k a w c i u).length < 2 ^ 40 := by
    unfold hNext
    split
    · split
      · omega
      · split
        · omega
        · split
          · simp; omega
          · simp; omega
    · simp
  obtain ⟨G39, e39, x39⟩ := sameItems orc ((o13.is.ext x19).ext x1937) (o19.is.ext x1937) (by omega)
  simp only [decide_true] at e39
  have l27 : loadA 3 G24.nx 0 G39 = some (ansV (hCode L k w) (hNum L k) (hWord L k)) := ld_an (((x2937.trans x39).obj _ n29).trans b29) (by decide)
  have l35 : loadA 3 G32.nx 0 G39 = some (ansV (hCode L k w) (hNum L k) (hWord L k)) := ld_an ((x39.obj _ n37).trans b37) (by decide)
  have heq := eq_an (.tmp 58) (.tmp 59) (hCode L k w) (hNum L k) (hWord L k) (hCode L k w) (hNum L k) (hWord L k)
  have x1339 := (x19.trans x1937).trans x39
  obtain ⟨G62, e62, y62, m62⟩ := overItems orc (hi := G13.nx) (o13.ext x1339) o13.is.lt hnl
  have x939 := x13.trans x1339
  have n939 := x939.nx
  have kp : ∀ {v : Value}, SlR rIt G9 v L → SlR rIt G62 v L := fun h => h.same (Nat.le_trans n939 y62) fun a' m c' he => by
    have := h.lt _ _ _ he
    rw [m62 _ (.inl (by omega)), x939.obj _ this]
  obtain ⟨G68, e68, x68⟩ := sameItems orc (kp o9.is) (kp hs9) (by omega)
  simp only [decide_true] at e68
  simp [s3, Value.cells, hln, hl', e9, lo (Ext.refl _), la (Ext.refl _), e13, lo x13, la x13, e19, lo x919, e24, s29, hG29, lo x929, e32, s37, hG37, e39, l27, l35, heq, e62, e68, cl_orc Q orc ho]
end Go.Proofs.Ytglafaecdpilgaa.Lift
