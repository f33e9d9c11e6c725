import Derived.Test.YtglafaecdpilgaaH9
set_option linter.unusedVariables false
set_option linter.unusedSimpArgs false
set_option maxRecDepth 20000
namespace Go.Proofs.Ytglafaecdpilgaa.Lift
open Go Go.Proofs.Ytglafaecdpilgaa.Gh Go.Proofs
theorem up_pw {L : List It} : Up L 0 ↔ L.Pairwise fun a b => a.1 < b.1 := by
  rw [List.pairwise_iff_getElem]
  constructor
  · intro h i j hi hj hij
    have := Up.mono h (j - i) i (by omega) (by omega)
    simpa only [show i + (j - i) = j by omega] using this
  · intro h j h0 _ hl
    exact h (j - 1) j (by omega) hl (by omega)
theorem up_drop {L : List It} (h : Up L 0) (n : Nat) : Up (L.drop n) 0 := up_pw.2 ((up_pw.1 h).sublist (List.drop_sublist n L))
theorem up_ins {L : List It} (h : Up L 0) {w a : Int} (hk : hsK L w = false) : Up (L.take (pl L w) ++ [(w, a)] ++ L.drop (pl L w)) 0 := by
  rw [up_pw, List.append_assoc, List.pairwise_append]
  have hp := up_pw.1 h
  have lo : ∀ x ∈ L.take (pl L w), x.1 < w := by
    intro x hx
    obtain ⟨j, hj, rfl⟩ := List.getElem_of_mem hx
    have hj' : j < pl L w := by simp at hj; omega
    rw [List.getElem_take]
    exact pl_lt L w j (by have := pl_le L w; omega) hj'
  have hi : ∀ x ∈ L.drop (pl L w), w < x.1 := by
    intro x hx
    obtain ⟨j, hj, rfl⟩ := List.getElem_of_mem hx
    simp at hj
    rw [List.getElem_drop]
    have hl : pl L w < L.length := by omega
    have hn := pl_at L w hl
    have hne : ¬ (L[pl L w]).1 = w := by simpa [hsK, hl] using hk
    rcases Nat.eq_zero_or_pos j with rfl | hj0
    · simp only [Nat.add_zero]; omega
    · have := Up.mono h j (pl L w) (by omega) hj0
      omega
  refine ⟨hp.sublist (List.take_sublist _ L), ?_, ?_⟩
  · rw [List.singleton_append, List.pairwise_cons]
    exact ⟨fun x hx => hi x hx, hp.sublist (List.drop_sublist _ L)⟩
  · intro x hx y hy
    rw [List.singleton_append, List.mem_cons] at hy
    have h1 := lo x hx
    rcases hy with rfl | hy
    · exact h1
    · have := hi y hy; omega
theorem ins_length (L : List It) (w a : Int) : (L.take (pl L w) ++ [(w, a)] ++ L.drop (pl L w)).length = L.length + 1 := by
  have := pl_le L w
  simp; omega
theorem put_ok (orc : FuncId → Bool) (w a : Int) (G : GS) : ∃ G', (E orc).cl 29 [.int .u64 w, .int .i64 a] G = some (opV 4 a 0 w, G') ∧ Ext G G' := by
  have h1 : storeN 4 G.nx 0 (opV 4 a 0 w) (G.push ⟨z25, 1, false, 1⟩) = some ((G.push ⟨z25, 1, false, 1⟩).put G.nx ⟨opC 4 a 0 w, 1, false, 1⟩) := storeN_whole (cs := z25) (by simp) rfl rfl rfl
  have h2 : loadA 4 G.nx 0 ((G.push ⟨z25, 1, false, 1⟩).put G.nx ⟨opC 4 a 0 w, 1, false, 1⟩) = some (opV 4 a 0 w) := ld_op (obj_put_self _ _ _) (by decide)
  refine ⟨_, f29 (exL_ok Q orc) _ _ G (_, (G.push ⟨z25, 1, false, 1⟩).put G.nx ⟨opC 4 a 0 w, 1, false, 1⟩) ?_, ((Ext.refl G).push _).put (Nat.le_refl _) _⟩
  simp [s29, z25, fillL, fillC, splice_put, splice_end, splice_succ, Value.cells] at h1 h2 ⊢
  simp [h1, h2]
/-- an item put: as it is where its key was there -/
noncomputable def ins (L : List It) (x : It) : List It := if hsK L x.1 = true then L else L.take (pl L x.1) ++ [x] ++ L.drop (pl L x.1)
/-- what a Put answers and leaves, below the bound -/
theorem put_next {L : List It} (hu : Up L 0) (hl : L.length < 1000) (x : It) : hIs L 4 x.1 = true ∧ hNum L 4 = 0 ∧ hWord L 4 = 0 ∧ hCode L 4 x.1 = (if hsK L x.1 then 8 else 0) ∧ hOk L 4 x.1 (hCode L 4 x.1) 0 0 = true ∧ hNext L 4 x.2 x.1 (hCode L 4 x.1) 0 0 = ins L x ∧ Up (ins L x) 0 ∧ (ins L x).length = L.length + (if hsK L x.1 then 0 else 1) := by
  have hz : ichk L = 0 := ichk_zero.2 ⟨by omega, hu⟩
  have hi : hIs L 4 x.1 = true := by simp [hIs, hz]; right; omega
  have hn : hNum L 4 = 0 := by simp [hNum]
  have hw : hWord L 4 = 0 := by simp [hWord]
  have hc : hCode L 4 x.1 = (if hsK L x.1 then 8 else 0) := by simp [hCode, hz]
  have hr : hRef 4 (hCode L 4 x.1) 0 0 = false := by rw [hc]; cases hsK L x.1 <;> simp [hRef]
  have hok : hOk L 4 x.1 (hCode L 4 x.1) 0 0 = true := by simp [hOk, hz, hr, hAcc, hi, hn, hw]
  refine ⟨hi, hn, hw, hc, hok, ?_, ?_, ?_⟩
  · unfold hNext
    rw [if_pos hok, hr, hc]
    unfold ins
    cases hsK L x.1 <;> simp
  · unfold ins
    cases hk : hsK L x.1 with
    | true => simpa using hu
    | false => simpa using up_ins hu (a := x.2) hk
  · unfold ins
    cases hk : hsK L x.1 with
    | true => simp
    | false => simpa using ins_length L x.1 x.2
/-- an object's own slot, kept through what comes -/
theorem sort_lp0 (orc : FuncId → Bool) (h59 : orc 59 = false) (I : List It) (hI : I.length ≤ 60) (v0 : Value) (A : GS) (hs0 : SlR rIt A v0 I) (okv : Value) : ∀ (k i : Nat) (L : List It) (m : Nat) (v : Value) (τ : Env) (G : GS), i + k = I.length → τ 0 = v0 → τ 3 = okv → τ 4 = v → τ 5 = .int .i64 m → τ 6 = .int .i64 i → Ext A G → SlR rIt G v L → Up L 0 → L.length = m → m ≤ i →
    Wp ((exL Q orc).lpx 8 0 τ G) fun r => r.1 = .exit 0 ∧ Ext A r.2.2 ∧ r.2.1 3 = okv ∧ ∃ L' : List It, r.2.1 5 = .int .i64 (L'.length : Nat) ∧ SlR rIt r.2.2 (r.2.1 4) L' ∧ Up L' 0 ∧ L'.length ≤ 60 := by
  intro k
  induction k with
  | zero =>
    intro i L m v τ G hi t0 t3 t4 t5 t6 hA hs hu hm hmi
    have : i = I.length := by omega
    subst this
    obtain ⟨av, cv, hv⟩ := hs0.len
    have hln : ln Q true 22 v0 = some (.int .i64 I.length) := by rw [hv]; simp
    refine Wp.lp (l8_0 (exL_ok Q orc)) ?_
    simp [b8_0, clip_t, t0, t3, t4, t5, t6, hln]
    exact ⟨hA, L, by rw [hm], hs, hu, by omega⟩
  | succ k ih =>
    intro i L m v τ G hi t0 t3 t4 t5 t6 hA hs hu hm hmi
    have hlt : i < I.length := by omega
    have hw : IntKind.wrap .i64 ((i : Int) + 1) = ((i + 1 : Nat) : Int) := wrap64 (by omega) (by omega)
    have hwm : IntKind.wrap .i64 ((m : Int) + 1) = ((m + 1 : Nat) : Int) := wrap64 (by omega) (by omega)
    have hi0 : (0 : Int) ≤ i := by omega
    obtain ⟨bb, o, c, hv0, _, hc1, hc2, _⟩ := it_at (hs0.ext (hA.room 13)) hlt
    obtain ⟨p1, p2, p3, p4, p5, p6, p7, p8⟩ := put_next hu (by omega) I[i]
    generalize hx : I[i] = x at *
    -- the operation
    obtain ⟨G8, e8, x8'⟩ := put_ok orc x.1 x.2 (G.room 13)
    have n8 := x8'.nx
    simp at n8
    have s12 : storeN 4 (G.nx + 11) 0 (opV 4 x.2 0 x.1) (((G8.at' (G.nx + 11)).push ⟨[.int .i64 0, .int .i64 0, .int .i64 0, .int .u64 0], 1, false, 1⟩).back G8) = some ((((G8.at' (G.nx + 11)).push ⟨[.int .i64 0, .int .i64 0, .int .i64 0, .int .u64 0], 1, false, 1⟩).back G8).put (G.nx + 11) ⟨opC 4 x.2 0 x.1, 1, false, 1⟩) := storeN_whole (cs := [.int .i64 0, .int .i64 0, .int .i64 0, .int .u64 0]) (by simp) rfl rfl rfl
    have x12 : Ext G ((((G8.at' (G.nx + 11)).push ⟨[.int .i64 0, .int .i64 0, .int .i64 0, .int .u64 0], 1, false, 1⟩).back G8).put (G.nx + 11) ⟨opC 4 x.2 0 x.1, 1, false, 1⟩) := ((((Ext.refl G).room 13).trans x8').drawn (by omega) _).put (by omega) _
    have b12 : ((((G8.at' (G.nx + 11)).push ⟨[.int .i64 0, .int .i64 0, .int .i64 0, .int .u64 0], 1, false, 1⟩).back G8).put (G.nx + 11) ⟨opC 4 x.2 0 x.1, 1, false, 1⟩).obj (G.nx + 11) = some ⟨opC 4 x.2 0 x.1, 1, false, 1⟩ := by simp
    have n12 : G.nx + 11 < ((((G8.at' (G.nx + 11)).push ⟨[.int .i64 0, .int .i64 0, .int .i64 0, .int .u64 0], 1, false, 1⟩).back G8).put (G.nx + 11) ⟨opC 4 x.2 0 x.1, 1, false, 1⟩).nx := by simp; omega
    generalize hG12 : ((((G8.at' (G.nx + 11)).push ⟨[.int .i64 0, .int .i64 0, .int .i64 0, .int .u64 0], 1, false, 1⟩).back G8).put (G.nx + 11) ⟨opC 4 x.2 0 x.1, 1, false, 1⟩) = G12 at *
    have lo : ∀ {G'}, Ext G12 G' → loadA 4 (G.nx + 11) 0 G' = some (opV 4 x.2 0 x.1) := fun h => ld_op ((h.obj _ n12).trans b12) (by decide)
    obtain ⟨⟨q15, G15⟩, e15, rfl, x15⟩ := answer_ok orc h59 (by omega) 4 x.2 0 x.1 (hs.ext x12)
    rw [p1, p2, p3] at e15
    have s20 : storeN 3 G15.nx 0 (ansV (hCode L 4 x.1) 0 0) (G15.push ⟨zAns, 1, false, 1⟩) = some ((G15.push ⟨zAns, 1, false, 1⟩).put G15.nx ⟨[.int .i64 (hCode L 4 x.1), .int .i64 0, .int .u64 0], 1, false, 1⟩) := st_ans (by simp; exact ⟨rfl, rfl, rfl⟩) _ _ _
    have l20 := ld_ans (G15.push ⟨zAns, 1, false, 1⟩) G15.nx 1 false (hCode L 4 x.1) 0 0
    have x20 : Ext G15 ((G15.push ⟨zAns, 1, false, 1⟩).put G15.nx ⟨[.int .i64 (hCode L 4 x.1), .int .i64 0, .int .u64 0], 1, false, 1⟩) := ((Ext.refl _).push _).put (Nat.le_refl _) _
    have b20 : ((G15.push ⟨zAns, 1, false, 1⟩).put G15.nx ⟨[.int .i64 (hCode L 4 x.1), .int .i64 0, .int .u64 0], 1, false, 1⟩).obj G15.nx = some ⟨[.int .i64 (hCode L 4 x.1), .int .i64 0, .int .u64 0], 1, false, 1⟩ := by simp
    have n20 : G15.nx < ((G15.push ⟨zAns, 1, false, 1⟩).put G15.nx ⟨[.int .i64 (hCode L 4 x.1), .int .i64 0, .int .u64 0], 1, false, 1⟩).nx := by simp
    generalize hG20 : ((G15.push ⟨zAns, 1, false, 1⟩).put G15.nx ⟨[.int .i64 (hCode L 4 x.1), .int .i64 0, .int .u64 0], 1, false, 1⟩) = G20 at *
    have x1220 := x15.trans x20
    obtain ⟨⟨q24, G24⟩, e24, x24, v24, h24, o24⟩ := next_ok orc h59 (by omega) 4 x.2 0 x.1 (hCode L 4 x.1) 0 0 ((hs.ext x12).ext x1220)
    simp only at x24 h24 o24
    subst h24
    rw [p5] at e24
    rw [p6] at o24
    have c24 : G24.cell G15.nx 0 = some (.int .i64 (hCode L 4 x.1)) := by rw [cell_at' ((x24.obj _ n20).trans b20) (by decide)]; rfl
    have xA := hA.trans (x12.trans (x1220.trans x24))
    refine Wp.lp (l8_0 (exL_ok Q orc)) ?_
    cases hk : hsK L x.1 with
    | true =>
      have hcd : hCode L 4 x.1 = 8 := by rw [p4, hk]; rfl
      rw [hcd] at e15 s20 l20 e24 c24 hG20
      simp [-Int.natCast_add, b8_0, clip_t, t0, t3, t4, t5, t6, hv0, hlt, hi0, hc1, hc2, e8, s12, hG12, lo (Ext.refl _), e15, s20, hG20, l20, lo x1220, e24, c24, hw]
      refine ih (i + 1) (ins L x) m v24 _ G24 (by omega) ?_ ?_ rfl rfl rfl xA o24.is p7 (by rw [p8, hk]; simpa using hm) (by omega)
      · simp [hv0]
      · simp [clip_t, t3]
    | false =>
      have hcd : hCode L 4 x.1 = 0 := by rw [p4, hk]; rfl
      rw [hcd] at e15 s20 l20 e24 c24 hG20
      simp [-Int.natCast_add, b8_0, clip_t, t0, t3, t4, t5, t6, hv0, hlt, hi0, hc1, hc2, e8, s12, hG12, lo (Ext.refl _), e15, s20, hG20, l20, lo x1220, e24, c24, hw, hwm]
      refine ih (i + 1) (ins L x) (m + 1) v24 _ G24 (by omega) ?_ ?_ rfl rfl rfl xA o24.is p7 (by rw [p8, hk, hm]; rfl) (by omega)
      · simp [hv0]
      · simp [clip_t, t3]
/-- what a Pick answers and leaves -/
theorem pick_next {L : List It} (hu : Up L 0) (hl : L.length < 1000) (h0 : 0 < L.length) : hIs L 5 0 = true ∧ hCode L 5 0 = 0 ∧ hNum L 5 = (L[0]).2 ∧ hWord L 5 = (L[0]).1 ∧ hOk L 5 0 0 (L[0]).2 (L[0]).1 = true ∧ hNext L 5 0 0 0 (L[0]).2 (L[0]).1 = L.drop 1 := by
  have hz : ichk L = 0 := ichk_zero.2 ⟨by omega, hu⟩
  cases L with
  | nil => simp at h0
  | cons y L =>
    have hi : hIs (y :: L) 5 0 = true := by simp [hIs, hz]
    have hc : hCode (y :: L) 5 0 = 0 := by simp [hCode]
    have hn : hNum (y :: L) 5 = y.2 := by simp [hNum, hz]
    have hw : hWord (y :: L) 5 = y.1 := by simp [hWord, hz]
    have hr : hRef 5 0 y.2 y.1 = false := by simp [hRef]
    have hok : hOk (y :: L) 5 0 0 y.2 y.1 = true := by simp [hOk, hz, hr, hAcc, hi, hc, hn, hw]
    refine ⟨hi, hc, by simpa using hn, by simpa using hw, by simpa using hok, ?_⟩
    simp only [List.getElem_cons_zero]
    unfold hNext
    rw [if_pos hok, hr]
    simp
theorem sort_lp1 (orc : FuncId → Bool) (h59 : orc 59 = false) (M : Nat) (hM : M ≤ 60) (A : GS) (okv : Value) : ∀ (k i : Nat) (L : List It) (last : Int) (v : Value) (τ : Env) (G : GS), i + k = M → L.length = k → τ 3 = okv → τ 4 = v → τ 5 = .int .i64 M → τ 12 = .int .u64 last → τ 13 = .int .i64 i → Ext A G → SlR rIt G v L → Up L 0 → (0 < i → ∀ x ∈ L, last < x.1) →
    Wp ((exL Q orc).lpx 8 1 τ G) fun r => r.1 = .exit 2 ∧ r.2.1 3 = okv ∧ SlR rIt r.2.2 (r.2.1 4) [] := by
  intro k
  induction k with
  | zero =>
    intro i L last v τ G hi hLk t3 t4 t5 t12 t13 hA hs hu hlast
    have : i = M := by omega
    subst this
    have hL : L = [] := List.eq_nil_of_length_eq_zero hLk
    subst hL
    refine Wp.lp (l8_1 (exL_ok Q orc)) ?_
    simp [b8_1, clip_t, t3, t4, t5, t12, t13]
    exact hs
  | succ k ih =>
    intro i L last v τ G hi hLk t3 t4 t5 t12 t13 hA hs hu hlast
    have hlt : i < M := by omega
    have hw : IntKind.wrap .i64 ((i : Int) + 1) = ((i + 1 : Nat) : Int) := wrap64 (by omega) (by omega)
    have h0 : 0 < L.length := by omega
    obtain ⟨p1, p2, p3, p4, p5, p6⟩ := pick_next hu (by omega) h0
    have hd : L = L[0] :: L.drop 1 := by cases L with | nil => simp at h0 | cons y L => simp
    have hmem : L[0] ∈ L := List.getElem_mem h0
    have hgt : ∀ x ∈ L.drop 1, (L[0]).1 < x.1 := by
      have := up_pw.1 hu
      rw [hd, List.pairwise_cons] at this
      simpa using this.1
    generalize hy : L[0] = y at *
    have s4 : storeN 4 G.nx 0 (opV 5 0 0 0) (G.push ⟨[.int .i64 0, .int .i64 0, .int .i64 0, .int .u64 0], 1, false, 1⟩) = some ((G.push ⟨[.int .i64 0, .int .i64 0, .int .i64 0, .int .u64 0], 1, false, 1⟩).put G.nx ⟨opC 5 0 0 0, 1, false, 1⟩) := storeN_whole (cs := [.int .i64 0, .int .i64 0, .int .i64 0, .int .u64 0]) (by simp) rfl rfl rfl
    have x4 : Ext G ((G.push ⟨[.int .i64 0, .int .i64 0, .int .i64 0, .int .u64 0], 1, false, 1⟩).put G.nx ⟨opC 5 0 0 0, 1, false, 1⟩) := ((Ext.refl G).push _).put (Nat.le_refl _) _
    have b4 : ((G.push ⟨[.int .i64 0, .int .i64 0, .int .i64 0, .int .u64 0], 1, false, 1⟩).put G.nx ⟨opC 5 0 0 0, 1, false, 1⟩).obj G.nx = some ⟨opC 5 0 0 0, 1, false, 1⟩ := by simp
    have n4 : G.nx < ((G.push ⟨[.int .i64 0, .int .i64 0, .int .i64 0, .int .u64 0], 1, false, 1⟩).put G.nx ⟨opC 5 0 0 0, 1, false, 1⟩).nx := by simp
    generalize hG4 : ((G.push ⟨[.int .i64 0, .int .i64 0, .int .i64 0, .int .u64 0], 1, false, 1⟩).put G.nx ⟨opC 5 0 0 0, 1, false, 1⟩) = G4 at *
    have lo : ∀ {G'}, Ext G4 G' → loadA 4 G.nx 0 G' = some (opV 5 0 0 0) := fun h => ld_op ((h.obj _ n4).trans b4) (by decide)
    obtain ⟨⟨q7, G7⟩, e7, rfl, x7⟩ := answer_ok orc h59 (by omega) 5 0 0 0 (hs.ext x4)
    rw [p1, p2, p3, p4] at e7
    have s12 : storeN 3 G7.nx 0 (ansV 0 y.2 y.1) (G7.push ⟨zAns, 1, false, 1⟩) = some ((G7.push ⟨zAns, 1, false, 1⟩).put G7.nx ⟨[.int .i64 0, .int .i64 y.2, .int .u64 y.1], 1, false, 1⟩) := st_ans (by simp; exact ⟨rfl, rfl, rfl⟩) _ _ _
    have l12 := ld_ans (G7.push ⟨zAns, 1, false, 1⟩) G7.nx 1 false 0 y.2 y.1
    have x12 : Ext G7 ((G7.push ⟨zAns, 1, false, 1⟩).put G7.nx ⟨[.int .i64 0, .int .i64 y.2, .int .u64 y.1], 1, false, 1⟩) := ((Ext.refl _).push _).put (Nat.le_refl _) _
    have b12 : ((G7.push ⟨zAns, 1, false, 1⟩).put G7.nx ⟨[.int .i64 0, .int .i64 y.2, .int .u64 y.1], 1, false, 1⟩).obj G7.nx = some ⟨[.int .i64 0, .int .i64 y.2, .int .u64 y.1], 1, false, 1⟩ := by simp
    generalize hG12 : ((G7.push ⟨zAns, 1, false, 1⟩).put G7.nx ⟨[.int .i64 0, .int .i64 y.2, .int .u64 y.1], 1, false, 1⟩) = G12 at *
    have c0 : G12.cell G7.nx 0 = some (.int .i64 0) := by rw [cell_at' b12 (by decide)]; rfl
    have c2 : G12.cell G7.nx 2 = some (.int .u64 y.1) := by rw [cell_at' b12 (by decide)]; rfl
    have x412 := x7.trans x12
    obtain ⟨⟨q43, G43⟩, e43, x43, v43, h43, o43⟩ := next_ok orc h59 (by omega) 5 0 0 0 0 y.2 y.1 ((hs.ext x4).ext x412)
    simp only at x43 h43 o43
    subst h43
    rw [p5] at e43
    rw [p6] at o43
    have xA := hA.trans (x4.trans (x412.trans x43))
    refine Wp.lp (l8_1 (exL_ok Q orc)) ?_
    have fin := ih (i + 1) (L.drop 1) y.1 v43
    by_cases hiz : i = 0
    · subst hiz
      have hlt' : 0 < M := by omega
      have hw1 : IntKind.wrap .i64 1 = 1 := wrap64 (by omega) (by omega)
      simp [-Int.natCast_add, b8_1, clip_t, t3, t4, t5, t12, t13, hlt', fillL, fillC, splice_put, splice_end, splice_succ, Value.cells, s4, hG4, lo (Ext.refl _), e7, s12, hG12, c0, c2, lo x412, l12, e43, hw, hw1]
      refine fin _ G43 (by omega) (by simp; omega) ?_ rfl ?_ rfl rfl xA o43.is (up_drop hu 1) (fun _ x hx => hgt x hx)
      · simp [clip_t, t3]
      · simp [clip_t, t5]
    · have hi1 : 0 < i := by omega
      have hnl : ¬ y.1 ≤ last := by have := hlast (by omega) y hmem; omega
      simp [-Int.natCast_add, b8_1, clip_t, t3, t4, t5, t12, t13, hlt, hi1, hnl, fillL, fillC, splice_put, splice_end, splice_succ, Value.cells, s4, hG4, lo (Ext.refl _), e7, s12, hG12, c0, c2, lo x412, l12, e43, hw]
      refine fin _ G43 (by omega) (by simp; omega) ?_ rfl ?_ rfl rfl xA o43.is (up_drop hu 1) (fun _ x hx => hgt x hx)
      · simp [clip_t, t3]
      · simp [clip_t, t5]
theorem heapSorts (orc : FuncId → Bool) (ho : orc 6 = true) (h59 : orc 59 = false) (I : List It) (v0 : Value) (G : GS) (hs : SlR rIt G v0 I) : Wp ((E orc).cl 8 [v0] G) fun r => r.1 = .bool true := by
  obtain ⟨av, cv, hv⟩ := hs.len
  have hln : ln Q true 22 v0 = some (.int .i64 I.length) := by rw [hv]; simp
  refine Wp.ref (f8 (exL_ok Q orc) _ G) ?_
  by_cases hl : 60 < I.length
  · have hl' : (60 : Int) < I.length := by omega
    simp [s8, hln, hl', cl_orc Q orc ho]
  have hl' : ¬ (60 : Int) < I.length := by omega
  simp [s8, hln, hl', cl_orc Q orc ho]
  refine Wp.bE ((sort_lp0 orc h59 I (by omega) v0 G hs (.bool true) I.length 0 [] 0 (.slice none 0 0) _ G (by omega) rfl rfl rfl rfl rfl (Ext.refl G) SlR.nil (up_pw.2 List.Pairwise.nil) rfl (Nat.le_refl _)).mono ?_)
  rintro ⟨e, τ, G6⟩ ⟨rfl, x6, t3, L', t5, s6, u6, l6⟩
  simp only at x6 t3 t5 s6
  generalize t4 : τ 4 = v' at *
  simp
  refine Wp.bE ((sort_lp1 orc h59 L'.length l6 G6 (.bool true) L'.length 0 L' 0 v' _ G6 (by omega) rfl (by simp [t3]) (by simp [t4]) (by simp [t5]) (by simp) (by simp) (Ext.refl _) s6 u6 (fun h => absurd h (by omega))).mono ?_)
  rintro ⟨e, τ', G9⟩ ⟨rfl, y3, y4⟩
  simp only at y3 y4
  obtain ⟨a9, c9, h9⟩ := y4.len
  simp [y3, h9]
end Go.Proofs.Ytglafaecdpilgaa.Lift
