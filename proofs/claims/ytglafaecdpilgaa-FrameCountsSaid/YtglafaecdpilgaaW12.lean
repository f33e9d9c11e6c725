import Derived.Test.YtglafaecdpilgaaW11
set_option linter.unusedVariables false
set_option linter.unusedSimpArgs false
set_option maxRecDepth 20000
namespace Go.Proofs.Ytglafaecdpilgaa.Lift
open Go Go.Proofs.Ytglafaecdpilgaa.Gh Go.Proofs
/-- one frame, and some other blocks, apart -/
structure One (V : Nat → Prop) (G : GS) (p : Nat) (S : List Slt) (D : List Deed) (N : Int) : Prop where
  un : Under V G
  ex : ∃ A, PFx A G p S D N ∧ Apart A V
section
variable {V : Nat → Prop} {G G' : GS} {p : Nat} {S : List Slt} {D : List Deed} {N : Int}
theorem One.also (h : One V G p S D N) {W : Nat → Prop} (x : Ext G G') (hw : ∀ g, W g → V g ∨ (G.nx ≤ g ∧ g < G'.nx)) : One W G' p S D N := by
  obtain ⟨hu, A, h1, h4⟩ := h
  refine ⟨fun g hg => ?_, A, h1.kept x.nx fun g hg => x.obj g (h1.un g hg), fun g ha hg => ?_⟩
  · rcases hw g hg with h | h
    · exact Nat.lt_of_lt_of_le (hu g h) x.nx
    · exact h.2
  · rcases hw g hg with h | h
    · exact h4 g ha h
    · have := h1.un g ha; omega
theorem One.op {Qe : Value → Prop} {S' : List Slt} {D' : List Deed} {N' : Int} {x : Option (Value × GS)} (h : One V G p S D N) (hop : ∀ A, PFx A G p S D N → Wp x fun q => Qe q.1 ∧ ModP A G q.2 ∧ PFx (Grow A G q.2) q.2 p S' D' N') :
    Wp x fun q => Qe q.1 ∧ One V q.2 p S' D' N' ∧ G.nx ≤ q.2.nx ∧ ∀ g, V g → q.2.obj g = G.obj g := by
  obtain ⟨hu, A, h1, h4⟩ := h
  refine (hop A h1).mono ?_
  rintro ⟨v, G'⟩ ⟨q1, q2, q3⟩
  exact ⟨q1, ⟨hu.le q2.nx, Grow A G G', q3, h4.grow hu⟩, q2.nx, q2.kept hu h4⟩
theorem One.put (h : One V G p S D N) {b : Nat} (hb : V b) (o : GObj) : One V (G.put b o) p S D N := by
  obtain ⟨hu, A, h1, h4⟩ := h
  refine ⟨hu, A, h1.kept (Nat.le_refl _) fun g hg => ?_, h4⟩
  rw [obj_put, if_neg (fun e : g = b => h4 g hg (by rw [e]; exact hb))]
theorem One.pP (h : One V G p S D N) : ∃ A sl bs dv, PFr A G p sl bs dv S D N := let ⟨_, A, ⟨sl, bs, dv, h1⟩, _⟩ := h; ⟨A, sl, bs, dv, h1⟩
end
/-! ### What is counted -/
structure Cnt (S : List Slt) (D : List Deed) (N : Int) : Prop where
  s : NnS S
  d : NnD D
  sum : sumD D + sumS S = N
theorem sumS_set {S : List Slt} {c : Nat} (hc : c < S.length) (y : Slt) : sumS (S.set c y) = sumS S - val S[c] + val y := by
  have h1 : S = S.take c ++ S[c] :: S.drop (c + 1) := by rw [← List.drop_eq_getElem_cons hc, List.take_append_drop]
  have h2 := congrArg sumS h1
  rw [List.set_eq_take_append_cons_drop, if_pos hc]
  simp only [sumS_append, sumS] at h2 ⊢
  omega
theorem NnS.set {S : List Slt} (h : NnS S) (c : Nat) {y : Slt} (hy : 0 ≤ val y) : NnS (S.set c y) := fun o ho => by
  rcases List.mem_or_eq_of_mem_set ho with h1 | rfl
  · exact h o h1
  · exact hy
theorem val_le {S : List Slt} (h : NnS S) {c : Nat} (hc : c < S.length) : 0 ≤ val S[c] ∧ val S[c] ≤ sumS S := by
  have h1 : S = S.take c ++ S[c] :: S.drop (c + 1) := by rw [← List.drop_eq_getElem_cons hc, List.take_append_drop]
  have h2 : NnS (S.take c) := fun o ho => h o (List.mem_of_mem_take ho)
  have h3 : NnS (S.drop (c + 1)) := fun o ho => h o (List.mem_of_mem_drop ho)
  have h4 := congrArg sumS h1
  simp only [sumS_append, sumS] at h4
  have := h2.sum; have := h3.sum; have := h _ (List.getElem_mem hc)
  omega
section
variable {S : List Slt} {D : List Deed} {N : Int} {c : Nat}
theorem slot_in (hc : c < S.length) : slotOf S c = S[c] := by rw [slotOf_nat, List.getElem?_eq_getElem hc]; rfl
theorem ask_in (hc : c < S.length) : askI S.length c = 0 := askI_ok.2 ⟨c, rfl, hc⟩
theorem Cnt.begin_ (h : Cnt S D N) (hc : c < S.length) (w : Int) : Cnt (sBegin S c w) D N := by
  unfold sBegin eBegin
  rw [ask_in hc, slot_in hc]
  cases hs : S[c] with
  | none => simp only [if_neg (show ¬ (0 : Int) = 3 by decide), Option.isSome_none, Bool.false_eq_true, if_false, if_true, Int.toNat_natCast]; exact ⟨h.s.set c (by simp [val]), h.d, by rw [sumS_set hc, hs]; simp [val]; exact h.sum⟩
  | some x => simpa using h
theorem Cnt.step (h : Cnt S D N) (hN : N ≤ 100) (hc : c < S.length) : Cnt (sStep S c) D (nStep S c N) ∧ nStep S c N = if (S[c]).isSome then N + 1 else N := by
  unfold sStep nStep eStep
  rw [ask_in hc, slot_in hc]
  have h1 := h.s.sum; have h2 := h.d.sum; have h3 := h.sum; have h4 := val_le h.s hc
  cases hs : S[c] with
  | none => simpa using h
  | some x =>
    rw [hs] at h4
    simp only [val, Option.elim_some] at h4
    have w1 : IntKind.wrap .i64 (x.2 + 1) = x.2 + 1 := wrap64 (by omega) (by omega)
    have w2 : IntKind.wrap .i64 (N + 1) = N + 1 := wrap64 (by omega) (by omega)
    simp only [if_neg (show ¬ (0 : Int) = 3 by decide), Option.isSome_some, if_true, Int.toNat_natCast, Option.map_some, w1, w2]
    refine ⟨⟨h.s.set c (by simp [val]; omega), h.d, ?_⟩, trivial⟩
    rw [sumS_set hc, hs]; simp [val]; omega
theorem Cnt.end_ (h : Cnt S D N) (hc : c < S.length) : Cnt (sEnd S c) (dEnd S D c) N := by
  unfold sEnd dEnd eStep
  rw [ask_in hc, slot_in hc]
  have h4 := val_le h.s hc
  have h3 := h.sum
  cases hs : S[c] with
  | none => simpa using h
  | some x =>
    rw [hs] at h4
    simp only [val, Option.elim_some] at h4
    simp only [if_neg (show ¬ (0 : Int) = 3 by decide), Option.isSome_some, if_true, Int.toNat_natCast, Option.map_some, Option.toList_some]
    refine ⟨h.s.set c (by simp [val]), fun d hd => ?_, ?_⟩
    · rcases List.mem_append.1 hd with hd | hd
      · exact h.d d hd
      · simp at hd; subst hd; exact h4.1
    · rw [sumS_set hc, hs, sumD_append]; simp [val, sumD]; omega
theorem is_begin (hc : c < S.length) (w : Int) : isS (sBegin S c w) = (isS S).set c true := by
  unfold sBegin eBegin
  rw [ask_in hc, slot_in hc]
  cases hs : S[c] with
  | none => simp [isS, List.map_set]
  | some x =>
    simp
    apply List.ext_getElem?
    intro i
    rw [List.getElem?_set]
    by_cases hi : c = i
    · subst hi; simp [isS, hc, hs]
    · simp [hi]
theorem is_step (hc : c < S.length) : isS (sStep S c) = isS S := by
  unfold sStep eStep
  rw [ask_in hc, slot_in hc]
  cases hs : S[c] with
  | none => simp
  | some x =>
    simp
    apply List.ext_getElem?
    intro i
    by_cases hi : c = i
    · subst hi; simp [isS, List.map_set, hc, hs]
    · simp [isS, List.map_set, hi]
theorem is_end (hc : c < S.length) : isS (sEnd S c) = (isS S).set c false := by
  unfold sEnd eStep
  rw [ask_in hc, slot_in hc]
  cases hs : S[c] with
  | none =>
    simp
    apply List.ext_getElem?
    intro i
    rw [List.getElem?_set]
    by_cases hi : c = i
    · subst hi; simp [isS, hc, hs]
    · simp [hi]
  | some x => simp [isS, List.map_set]
theorem dEnd_pre (S : List Slt) (D : List Deed) (c : Int) : (dEnd S D c).take D.length = D := by
  unfold dEnd; split <;> simp
theorem dEnd_le (S : List Slt) (D : List Deed) (c : Int) : D.length ≤ (dEnd S D c).length := by
  unfold dEnd; split <;> simp
end
abbrev bools (S : List Slt) : List Value := (isS S).map Value.bool
theorem within_slr {G : GS} {wb : Nat} {S : List Slt} {op : Bool} (h : G.obj wb = some ⟨bools S, 1, op, 1⟩) (hw : wb < G.nx) : SlR rBool G (.slice (some ⟨wb, 0, none⟩) S.length S.length) (isS S) := by
  have hfl : rBool.flat (isS S) = bools S := by
    simp only [RowE.flat, bools, rBool]
    generalize isS S = L
    induction L with
    | nil => rfl
    | cons a l ih => simp [ih]
  have hl : (isS S).length = S.length := by simp [isS]
  refine ⟨⟨by rw [RowE.flat_length], .inr ⟨wb, 0, S.length, _, by rw [hl], by rw [hl]; exact Nat.le_refl _, hw, h, by simp, fun i _ => by rw [hfl]; simp⟩⟩, fun a n c he ob ho hop => ?_⟩
  cases he
  rw [h] at ho; cases ho; rfl
section
variable {G : GS} {p wb : Nat} {S : List Slt} {D : List Deed} {N : Int}
/-- behind an operation -/
theorem stand_join (orc : FuncId → Bool) {V : Nat → Prop} {op : Bool} {D0 : List Deed} (h : One V G p S D N) (hV : V wb) (ho : G.obj wb = some ⟨bools S, 1, op, 1⟩) {v12 : Value} (h12 : SlR rDeed G v12 D0) (hpre : D.take D0.length = D0) (hle : D0.length ≤ D.length) (hcnt : Cnt S D N) (hS : S.length < 2 ^ 36) (hD : D.length < 2 ^ 36) (hN : N ≤ 100) {i : Int} (hi : IntKind.wrap .i64 (i + 1) = i + 1)
    {v0 v1 : Value} {τ : Env} (t0 : τ 0 = v0) (t1 : τ 1 = v1) (t5 : τ 5 = .bool true) (t6 : τ 6 = P0 p) (t8 : τ 8 = .slice (some ⟨wb, 0, none⟩) S.length S.length) (t9 : τ 9 = .int .i64 N) (t10 : τ 10 = .int .i64 i) (t12 : τ 12 = v12)
    {lp : Env → GS → Option (Exit × Env × GS)} {R : Exit × Env × GS → Prop} (hlp : ∀ τ' G', Ext G G' → τ' 0 = v0 → τ' 1 = v1 → τ' 5 = .bool true → τ' 6 = P0 p → τ' 8 = .slice (some ⟨wb, 0, none⟩) S.length S.length → τ' 9 = .int .i64 N → τ' 10 = .int .i64 (i + 1) → Wp (lp τ' G') R) :
    Wp (jl12_0_0 true (exL Q orc) lp τ G) R := by
  obtain ⟨A, sl, bs, dv, hp⟩ := h.pP
  obtain ⟨G1, e54, x1⟩ := stands_ok orc hp (within_slr ho (h.un _ hV)) hS hD hcnt.s hcnt.d hcnt.sum hN
  obtain ⟨v14, G2, e43, x2, r2⟩ := deeds_ok orc (hp.kept x1.nx fun g hg => x1.obj g (hp.un g hg)) hD
  have x12 := x1.trans x2
  obtain ⟨⟨v25, e25, r25⟩, -⟩ := (r2.is).take (k := .i64) (o := D0.length) hle
  rw [hpre] at r25
  obtain ⟨G3, e50, x3⟩ := same50 orc r25 (h12.ext x12) (by omega)
  obtain ⟨_, _, hl12⟩ := h12.len
  obtain ⟨_, _, hl14⟩ := r2.is.len
  have n12 : ln Q true 67 v12 = some (.int .i64 D0.length) := by rw [hl12]; simp
  have n14 : ln Q true 67 v14 = some (.int .i64 D.length) := by rw [hl14]; simp
  have s14 : ∀ a b c G, Gh.sl Q true 67 3 v14 a b c G = slK 3 v14 a b c G := fun a b c G => by rw [hl14]; simp
  have hnl : ¬ ((D.length : Int) < D0.length) := by omega
  simp only [rDeed_sz] at e25
  simp [-Int.natCast_add, jl12_0_0, jbl12_0_0, clip_t, t0, t1, t6, t8, t9, t10, t12, e54, e43, n12, n14, hnl, s14, e25, e50, hi]
  exact hlp _ _ (x12.trans x3) (by simp [clip_t, t0]) (by simp [clip_t, t1]) (by simp [clip_t, t5]) (by simp [clip_t]) (by simp [clip_t]) (by simp [clip_t]) (by simp [clip_t])
theorem counts_lp (orc : FuncId → Bool) {C : Nat} (hC0 : 0 < C) (hC : C ≤ 64) {v1 : Value} {L : List Act} (hL : L.length ≤ 80) : ∀ (k i : Nat) (τ : Env) (G : GS) (S : List Slt) (D : List Deed) (N : Int) (op : Bool), i + k = L.length → τ 0 = .int .i64 C → τ 1 = v1 → τ 5 = .bool true → τ 6 = P0 p → τ 8 = .slice (some ⟨wb, 0, none⟩) C C → τ 9 = .int .i64 N → τ 10 = .int .i64 i →
    SlR rAct G v1 L → One (fun g => InB v1 g ∨ g = wb) G p S D N → G.obj wb = some ⟨bools S, 1, op, 1⟩ → ¬ InB v1 wb → S.length = C → Cnt S D N → N ≤ i → D.length ≤ i →
    Wp ((exL Q orc).lpx 12 0 τ G) fun q => q.1 = .exit 0 ∧ q.2.1 5 = .bool true := by
  intro k
  induction k with
  | zero =>
    intro i τ G S D N op hi t0 t1 t5 t6 t8 t9 t10 hs ho hob hne hSC hcnt hN hD
    have hi' : i = L.length := by omega
    obtain ⟨a, c, rfl⟩ := hs.len
    refine Wp.lp (l12_0 (exL_ok Q orc)) ?_
    simp [b12_0, bb12_0, clip_t, t0, t1, t5, t6, t8, t9, t10, hi']
  | succ k ih =>
    intro i τ G S D N op hi t0 t1 t5 t6 t8 t9 t10 hs ho hob hne hSC hcnt hN hD
    have hlt : i < L.length := by omega
    have hi0 : (0 : Int) ≤ i := by omega
    have hw : IntKind.wrap .i64 ((i : Int) + 1) = (i : Int) + 1 := wrap64 (by omega) (by omega)
    have hwb := ho.un wb (.inr rfl)
    obtain ⟨b, o, cc, hv1, hbx, hcl, hld⟩ := hs.at hlt
    obtain ⟨⟨kk, cx, w⟩, hLi⟩ : ∃ x, L[i] = x := ⟨_, rfl⟩
    rw [hLi] at hcl
    have c0 := hcl 0 (by decide)
    have c1 := hcl 1 (by decide)
    have c2 := hcl 2 (by decide)
    simp at c0 c1 c2
    have ca : ∀ {G1 : GS} (o' : Nat), G1.obj b = G.obj b → G1.cell b o' = G.cell b o' := fun o' h => by unfold GS.cell; rw [h]
    have hin : InB v1 b := ⟨_, _, _, hv1, rfl⟩
    -- the core
    have hcc1 := Int.emod_nonneg cx (show (C : Int) ≠ 0 by omega)
    have hcc2 := Int.emod_lt_of_pos cx (show (0 : Int) < C by omega)
    obtain ⟨c, hc⟩ : ∃ c : Nat, cx % (C : Int) = c := ⟨(cx % (C : Int)).toNat, by omega⟩
    have hcC : c < S.length := by omega
    have hcC' : c < C := by omega
    have e21 := pick_ok orc cx C (by omega) (by omega) G
    rw [hc] at e21
    have e3 : ∀ G, (E orc).cl 21 [.int .i64 kk, .int .i64 3] G = some (.int .i64 (kk % 3), G) := fun G => pick_ok orc kk 3 (by decide) (by decide) G
    have h30 := Int.emod_nonneg kk (show (3 : Int) ≠ 0 by decide)
    have h31 := Int.emod_lt_of_pos kk (show (0 : Int) < 3 by decide)
    -- what was
    obtain ⟨A, sl, bs, dv, hp⟩ := ho.pP
    have xr : Ext G (G.room 8) := (Ext.refl G).room 8
    obtain ⟨v12, G1, e43, x1, r1⟩ := deeds_ok orc (hp.kept xr.nx fun g hg => xr.obj g (hp.un g hg)) (by omega)
    have y1 := xr.trans x1
    have o1 : G1.obj wb = some ⟨bools S, 1, op, 1⟩ := (y1.obj wb hwb).trans hob
    have cw : ∀ {G2 : GS}, G2.obj wb = some ⟨bools S, 1, op, 1⟩ → G2.cell wb c = some (.bool (S[c]).isSome) := fun h => by simp [cell_eq, h, isS, hcC]
    have cw0 : (G.room 8).cell wb c = some (.bool (S[c]).isSome) := cw (by simpa using hob)
    have cw1 := cw o1
    have cb0 := (ca (G1 := G1) (o + i * 3) (y1.obj b hbx)).trans c0
    have hone : One (fun g => (InB v1 g ∨ g = wb) ∨ InB v12 g) G1 p S D N := ho.also y1 fun g hg => hg.imp id fun h => ⟨Nat.le_trans xr.nx (r1.from h), r1.is.under g h⟩
    have hask := ask_in hcC
    have hslot := slot_in hcC
    have hias : ias Q true 51 3 v1 (.int .i64 i) = some (.pointer (some ⟨b, o + i * 3, none⟩)) := by rw [hv1]; simp [hi0, hlt]
    have hln : ln Q true 51 v1 = some (.int .i64 L.length) := by rw [hv1]; simp
    have hc0 : (0 : Int) ≤ c := by omega
    have hcI : (c : Int) < C := by omega
    refine Wp.lp (l12_0 (exL_ok Q orc)) ?_
    have next : ∀ {G' : GS} {S' : List Slt} {D' : List Deed} {N' : Int} {op' : Bool} {τ' : Env}, One (fun g => (InB v1 g ∨ g = wb) ∨ InB v12 g) G' p S' D' N' → G'.obj wb = some ⟨bools S', 1, op', 1⟩ → (∀ g, g ≠ wb → (InB v1 g ∨ InB v12 g) → G'.obj g = G1.obj g) → G1.nx ≤ G'.nx → S'.length = C → Cnt S' D' N' → D'.take D.length = D → D.length ≤ D'.length → N' ≤ i + 1 → D'.length ≤ i + 1 →
        τ' 0 = .int .i64 C → τ' 1 = v1 → τ' 5 = .bool true → τ' 6 = P0 p → τ' 8 = .slice (some ⟨wb, 0, none⟩) C C → τ' 9 = .int .i64 N' → τ' 10 = .int .i64 i → τ' 12 = v12 →
        Wp (jl12_0_0 true (exL Q orc) ((exL Q orc).lpx 12 0) τ' G') fun q => q.1 = .exit 0 ∧ q.2.1 5 = .bool true := by
      intro G' S' D' N' op' τ' h1 h2 h3 h4 h5 h6 h7 h8 h9 h10 u0 u1 u5 u6 u8 u9 u10 u12
      have hne12 : ∀ g, InB v12 g → g ≠ wb := fun g hg e => by have := r1.from hg; have := xr.nx; omega
      refine stand_join orc h1 (.inl (.inr rfl)) h2 (r1.is.kept h4 fun g hg => h3 g (hne12 g hg) (.inr hg)) h7 h8 h6 (by omega) (by omega) (by omega) hw u0 u1 u5 u6 (by rw [u8, h5]) u9 u10 u12 ?_
      intro τ'' G'' x w0 w1 w5 w6 w8 w9 w10
      refine ih (i + 1) τ'' G'' S' D' N' op' (by omega) w0 w1 w5 w6 (by rw [w8, h5]) w9 (by rw [w10]; rfl) ?_ (h1.also x fun g hg => .inl (.inl hg)) ((x.obj wb (h1.un wb (.inl (.inr rfl)))).trans h2) hne h5 h6 (by omega) (by omega)
      exact ((hs.ext y1).kept h4 fun g hg => h3 g (fun e => hne (e ▸ hg)) (.inl hg)).ext x
    by_cases k0 : kk % 3 = 0
    · obtain ⟨⟨e, G2⟩, e2, q1, q2, qn, q3⟩ := hone.op (Qe := fun v => v = .int .i64 (eBegin S c)) (fun A ⟨sl, bs, dv, h⟩ => begin_ok orc h c w)
      simp only at q1 q2 qn q3
      subst q1
      have o2 : G2.obj wb = some ⟨bools S, 1, op, 1⟩ := (q3 wb (.inl (.inr rfl))).trans o1
      have cb2 := (ca (G1 := G1) (o + i * 3 + 2) (y1.obj b hbx)).trans c2
      have he : eBegin S c = if (S[c]).isSome then 14 else 0 := by simp [eBegin, hask, hslot]
      have hlb : c < (isS S).length := by simpa [isS] using hcC
      have hset : (bools S).set c (.bool true) = bools (sBegin S c w) := by rw [bools, bools, is_begin hcC, List.map_set]
      rw [he] at e2
      have fin : ∀ {τ' : Env}, τ' 0 = .int .i64 C → τ' 1 = v1 → τ' 5 = .bool true → τ' 6 = P0 p → τ' 8 = .slice (some ⟨wb, 0, none⟩) C C → τ' 9 = .int .i64 N → τ' 10 = .int .i64 i → τ' 12 = v12 →
          Wp (jl12_0_0 true (exL Q orc) ((exL Q orc).lpx 12 0) τ' (G2.put wb ⟨(bools S).set c (.bool true), 1, op, 1⟩)) fun q => q.1 = .exit 0 ∧ q.2.1 5 = .bool true := by
        intro τ' u0 u1 u5 u6 u8 u9 u10 u12
        refine next (q2.put (.inl (.inr rfl)) _) (op' := op) (by rw [hset]; simp) (fun g hne' hg => ?_) (by simpa using qn) ((len_begin S c w).trans hSC) (hcnt.begin_ hcC w) (by simp) (Nat.le_refl _) (by omega) (by omega) u0 u1 u5 u6 u8 u9 u10 u12
        rw [obj_put, if_neg hne']
        exact q3 g (hg.imp .inl id)
      cases hb : (S[c]).isSome
      all_goals
        simp only [hb, if_true, if_false, Bool.false_eq_true] at e2 cw0 cw1
        simp [-Int.natCast_add, b12_0, bb12_0, clip_t, t0, t1, t5, t6, t8, t9, t10, hln, hlt, hias, c1, e21, e43, hc0, hcI, cw0, cw1, cb0, e3, k0, cb2, e2, storeN_eq, o2, hcC', hlb]
        refine fin ?_ ?_ ?_ ?_ ?_ ?_ ?_ ?_ <;> simp [clip_t, t5]
    by_cases k1 : kk % 3 = 1
    · obtain ⟨⟨e, G2⟩, e2, q1, q2, qn, q3⟩ := hone.op (Qe := fun v => v = .int .i64 (eStep S c)) (fun A ⟨sl, bs, dv, h⟩ => step_ok orc h c)
      simp only at q1 q2 qn q3
      subst q1
      have o2 : G2.obj wb = some ⟨bools S, 1, op, 1⟩ := (q3 wb (.inl (.inr rfl))).trans o1
      have he : eStep S c = if (S[c]).isSome then 0 else 15 := by simp [eStep, hask, hslot]
      obtain ⟨hcn, hNs⟩ := hcnt.step (by omega) hcC
      have fin : ∀ {τ' : Env}, τ' 0 = .int .i64 C → τ' 1 = v1 → τ' 5 = .bool true → τ' 6 = P0 p → τ' 8 = .slice (some ⟨wb, 0, none⟩) C C → τ' 9 = .int .i64 (nStep S c N) → τ' 10 = .int .i64 i → τ' 12 = v12 →
          Wp (jl12_0_0 true (exL Q orc) ((exL Q orc).lpx 12 0) τ' G2) fun q => q.1 = .exit 0 ∧ q.2.1 5 = .bool true := by
        intro τ' u0 u1 u5 u6 u8 u9 u10 u12
        refine next q2 (op' := op) (by rw [o2, bools, bools, is_step hcC]) (fun g hne' hg => ?_) (by simpa using qn) ((len_step S c).trans hSC) hcn (by simp) (Nat.le_refl _) (by rw [hNs]; split <;> omega) (by omega) u0 u1 u5 u6 u8 u9 u10 u12
        exact q3 g (hg.imp .inl id)
      have hwN : IntKind.wrap .i64 (N + 1) = N + 1 := by
        have := hcnt.s.sum; have := hcnt.d.sum; have := hcnt.sum
        exact wrap64 (by omega) (by omega)
      cases hb : (S[c]).isSome
      all_goals
        simp only [hb, if_true, if_false, Bool.false_eq_true] at he e2 cw0 cw1 hNs
        rw [he] at e2
        rw [hNs] at fin
        simp [-Int.natCast_add, b12_0, bb12_0, clip_t, t0, t1, t5, t6, t8, t9, t10, hln, hlt, hias, c1, e21, e43, hc0, hcI, cw0, cw1, cb0, e3, k1, e2, hcC', hwN]
        refine fin ?_ ?_ ?_ ?_ ?_ ?_ ?_ ?_ <;> simp [clip_t, t5]
    · obtain ⟨⟨e, G2⟩, e2, q1, q2, qn, q3⟩ := hone.op (Qe := fun v => v = .int .i64 (eStep S c)) (fun A ⟨sl, bs, dv, h⟩ => end_ok orc h c (by omega))
      simp only at q1 q2 qn q3
      subst q1
      have o2 : G2.obj wb = some ⟨bools S, 1, op, 1⟩ := (q3 wb (.inl (.inr rfl))).trans o1
      have he : eStep S c = if (S[c]).isSome then 0 else 15 := by simp [eStep, hask, hslot]
      have hlb : c < (isS S).length := by simpa [isS] using hcC
      have hset : (bools S).set c (.bool false) = bools (sEnd S c) := by rw [bools, bools, is_end hcC, List.map_set]
      have fin : ∀ {τ' : Env}, τ' 0 = .int .i64 C → τ' 1 = v1 → τ' 5 = .bool true → τ' 6 = P0 p → τ' 8 = .slice (some ⟨wb, 0, none⟩) C C → τ' 9 = .int .i64 N → τ' 10 = .int .i64 i → τ' 12 = v12 →
          Wp (jl12_0_0 true (exL Q orc) ((exL Q orc).lpx 12 0) τ' (G2.put wb ⟨(bools S).set c (.bool false), 1, op, 1⟩)) fun q => q.1 = .exit 0 ∧ q.2.1 5 = .bool true := by
        intro τ' u0 u1 u5 u6 u8 u9 u10 u12
        refine next (q2.put (.inl (.inr rfl)) _) (op' := op) (by rw [hset]; simp) (fun g hne' hg => ?_) (by simpa using qn) ((len_end S c).trans hSC) (hcnt.end_ hcC) (dEnd_pre S D c) (dEnd_le S D c) (by omega) (by have := len_dEnd S D c; omega) u0 u1 u5 u6 u8 u9 u10 u12
        rw [obj_put, if_neg hne']
        exact q3 g (hg.imp .inl id)
      cases hb : (S[c]).isSome
      all_goals
        simp only [hb, if_true, if_false, Bool.false_eq_true] at he e2 cw0 cw1
        rw [he] at e2
        simp [-Int.natCast_add, b12_0, bb12_0, clip_t, t0, t1, t5, t6, t8, t9, t10, hln, hlt, hias, c1, e21, e43, hc0, hcI, cw0, cw1, cb0, e3, k0, k1, e2, storeN_eq, o2, hcC', hlb]
        refine fin ?_ ?_ ?_ ?_ ?_ ?_ ?_ ?_ <;> simp [clip_t, t5]
theorem frameCounts (orc : FuncId → Bool) (h11 : orc 11 = true) (L : List Act) (v1 : Value) (C : Int) (G : GS) (hs : SlR rAct G v1 L) : Wp ((E orc).cl 12 [.int .i64 C, v1] G) fun q => q.1 = .bool true := by
  refine Wp.ref (f12 (exL_ok Q orc) _ _ G) ?_
  have aw : ∀ G, (E orc).cl 11 [] G = some (.bool true, G) := fun G => cl_orc Q orc h11 G
  obtain ⟨a, c, hv⟩ := hs.len
  have hln : ln Q true 51 v1 = some (.int .i64 L.length) := by rw [hv]; simp
  by_cases hl : 80 < L.length
  · have hl' : (80 : Int) < L.length := by omega
    simp [s12, hln, hl', aw]
  have hl' : ¬ (80 : Int) < L.length := by omega
  have e21 := pick_ok orc C 64 (by decide) (by decide) G
  have h1 := Int.emod_nonneg C (show (64 : Int) ≠ 0 by decide)
  have h2 := Int.emod_lt_of_pos C (show (0 : Int) < 64 by decide)
  obtain ⟨n, hn⟩ : ∃ n : Nat, 1 + C % 64 = (n : Int) := ⟨(1 + C % 64).toNat, by omega⟩
  have hw : IntKind.wrap .i64 (1 + C % 64) = (n : Int) := by rw [hn, wrap64 (by omega) (by omega)]
  obtain ⟨p, G1, e1, x1, q1⟩ := (new_ok orc (n : Int) G).2 (by omega) (by omega)
  simp only [Int.toNat_natCast] at q1
  have hm : mkK 1 1 z4 (n : Int) (n : Int) G1 = some (.slice (some ⟨G1.nx, 0, none⟩) n n, G1.push ⟨bools (List.replicate n none), 1, false, 1⟩) := by
    unfold mkK
    rw [if_pos ⟨by omega, by omega, by decide, by omega, wrap64 (by omega) (by omega), wrap64 (by omega) (by omega)⟩]
    have : rep z4 (n : Int).toNat = bools (List.replicate n none) := by
      simp only [Int.toNat_natCast, bools, isS, List.map_replicate]
      clear hn hw e1 q1
      induction n with
      | zero => rfl
      | succ n ih => show z4 ++ rep z4 n = _; rw [ih]; rfl
    rw [this]; rfl
  have x2 : Ext G1 (G1.push ⟨bools (List.replicate n none), 1, false, 1⟩) := (Ext.refl G1).push _
  have ho : One (fun g => InB v1 g ∨ g = G1.nx) (G1.push ⟨bools (List.replicate n none), 1, false, 1⟩) p (List.replicate n none) [] 0 := by
    have h0 : One (InB v1) G1 p (List.replicate n none) [] 0 := ⟨fun g hg => Nat.lt_of_lt_of_le (hs.under g hg) x1.nx, _, q1, fun g ha hb => by have := hs.under g hb; omega⟩
    exact h0.also x2 fun g hg => hg.imp id fun e => by simp; omega
  simp [s12, hln, hl', aw, e21, hw, e1, hm]
  have hz : ∀ n, sumS (List.replicate n none) = 0 := by
    intro n
    induction n with
    | zero => rfl
    | succ n ih => simp [List.replicate_succ, sumS, val, ih]
  refine Wp.bE ((counts_lp orc (C := n) (by omega) (by omega) (by omega) L.length 0 _ _ _ _ _ false (by omega) (by simp) (by simp) (by simp) (by simp) (by simp) (by simp) (by simp) ((hs.ext x1).ext x2) ho (by simp) (fun hb => by have := hs.under _ hb; have := x1.nx; omega) (by simp) ⟨fun o ho => by simp at ho; rw [ho.2]; simp [val], fun d hd => by simp at hd, by simp [sumD, hz]⟩ (by simp) (by simp)).mono ?_)
  rintro ⟨e, τ, G'⟩ ⟨rfl, t5⟩
  simp only at t5
  simp [t5]
end
end Go.Proofs.Ytglafaecdpilgaa.Lift
