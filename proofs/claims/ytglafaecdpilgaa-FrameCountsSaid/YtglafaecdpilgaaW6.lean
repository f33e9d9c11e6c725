import Derived.Test.YtglafaecdpilgaaW5
set_option linter.unusedVariables false
set_option linter.unusedSimpArgs false
set_option maxRecDepth 20000
namespace Go.Proofs.Ytglafaecdpilgaa.Lift
open Go Go.Proofs.Ytglafaecdpilgaa.Gh Go.Proofs
section
variable {A : Nat → Prop} {G : GS} {r : Nat} {lv dv : Value} {S : List Slt} {D : List Deed} {N : Int}
theorem RFr.lne (h : RFr A G r lv dv S D N) {g : Nat} (hg : InB lv g) : g ≠ r := fun e => by
  obtain ⟨a, n', c', he, e2⟩ := hg
  rcases h.hl.2 with ⟨e3, _⟩ | ⟨b2, op, e3, _, _, h4⟩
  · rw [e3] at he; cases he
  · rw [e3] at he; cases he; simp only at e2; subst e2; rw [e, h.hr] at h4; simp at h4
theorem RFr.dne (h : RFr A G r lv dv S D N) {g : Nat} (hg : InB dv g) : g ≠ r := fun e => by
  obtain ⟨a, n', c', he, e2⟩ := hg
  rcases h.hd.2 with ⟨e3, _⟩ | ⟨b2, op, e3, _, _, h4⟩
  · rw [e3] at he; cases he
  · rw [e3] at he; cases he; simp only at e2; subst e2; rw [e, h.hr] at h4; simp at h4
/-- where a busy core stands -/
theorem lof_busy (S : List Slt) (c : Nat) (hc : c < S.length) {x : Int × Int} (hs : S[c] = some x) : ∃ K, K < (lof 0 S).length ∧ fnd (lof 0 S) c 0 = some K ∧ (lof 0 S)[K]? = some ((c : Int), x.1, x.2) ∧ (∀ y : Int × Int, lof 0 (S.set c (some y)) = (lof 0 S).set K ((c : Int), y.1, y.2)) ∧ lof 0 (S.set c none) = (lof 0 S).take K ++ (lof 0 S).drop (K + 1) := by
  have hL := lof_at S c (o := some x) (by rw [List.getElem?_eq_getElem hc, hs])
  refine ⟨(lof 0 (S.take c)).length, ?_, ?_, ?_, fun y => ?_, ?_⟩
  · rw [hL]; simp [mid]
  · rw [fnd_lof S c hc, hs]; rfl
  · rw [hL]; simp [mid]
  · rw [lof_split S c hc, hL]; simp [mid, List.set_append]
  · rw [lof_split S c hc, hL]
    simp only [mid, Option.map_some, Option.map_none, Option.toList_some, Option.toList_none, List.append_nil, List.append_assoc, List.singleton_append]
    generalize lof 0 (S.take c) = LA
    generalize lof (c + 1) (S.drop (c + 1)) = LB
    rw [List.take_left]
    simp [List.drop_append]
theorem rstep_ok (orc : FuncId → Bool) (h : RFr A G r lv dv S D N) (hS : S.length < 2 ^ 36) (c : Int) : Wp ((E orc).cl 37 [P0 r, .int .i64 c] G) fun q => q.1 = .int .i64 (eStep S c) ∧ ModP A G q.2 ∧ RFx (Grow A G q.2) q.2 r (sStep S c) D (nStep S c N) := by
  refine Wp.ref (f37 (exL_ok Q orc) _ _ G) ?_
  have hat := rat_ok orc h hS c
  have hlen := lof_length S 0
  rcases askI_two S.length c with h1 | h1
  · rw [if_pos h1] at hat
    simp [s37, hat, h1, eStep, sStep, nStep, ModP.refl]
    exact h.grow0
  rw [if_neg (by omega)] at hat
  obtain ⟨c, rfl, hc⟩ := askI_ok.1 h1
  have hS' : S[c]? = some S[c] := List.getElem?_eq_getElem hc
  cases hs : S[c] with
  | none =>
    rw [fnd_lof S c hc] at hat
    simp [hs] at hat
    simp [s37, hat, h1, eStep, sStep, nStep, slotOf_nat, hS', hs, ModP.refl]
    exact h.grow0
  | some x =>
    obtain ⟨K, hK, hf, hg, hN, -⟩ := lof_busy S c hc hs
    rw [hf] at hat
    simp only at hat
    have hg' : (lof 0 S)[K] = ((c : Int), x.1, x.2) := by rw [List.getElem?_eq_getElem hK] at hg; exact Option.some.inj hg
    rcases h.hl.2 with ⟨e3, e4⟩ | ⟨b, op, rfl, -, hb, hob⟩
    · omega
    obtain ⟨b', o', c', hv, _, -, -, d2, -⟩ := deed_at h.hl.is hK
    cases hv
    have hrb : r ≠ b := fun e => h.lne ⟨_, _, _, rfl, rfl⟩ e.symm
    have hbr := hrb.symm
    have k0 : (0 : Int) ≤ K := by omega
    have hfl := h.hl.1
    rw [hg'] at d2
    simp [cell_eq, hob] at d2
    simp [s37, hat, h1, eStep, sStep, nStep, slotOf_nat, hS', hs, cell_eq, h.hr, k0, hK, hob, d2, storeN_eq, hrb, hbr]
    simp only [rDeed_sz] at hfl
    have hKb : K * 3 + 2 < (lof 0 S).length * 3 := by omega
    simp [hfl, hKb, hrb, hbr, h.hr]
    refine ⟨((ModP.refl _ _).put (.inl (h.al _ ⟨_, _, _, rfl, rfl⟩)) _).put (.inl h.ar) _, .slice (some ⟨b, 0, none⟩) (lof 0 S).length (lof 0 S).length, dv, ?_⟩
    have hset : (rDeed.flat (lof 0 S)).set (K * 3 + 2) (.int .i64 (IntKind.wrap .i64 (x.2 + 1))) = rDeed.flat ((lof 0 S).set K ((c : Int), x.1, IntKind.wrap .i64 (x.2 + 1))) := by
      have e1 : lof 0 S = (lof 0 S).take K ++ ((c : Int), x.1, x.2) :: (lof 0 S).drop (K + 1) := by
        rw [← hg', ← List.drop_eq_getElem_cons hK, List.take_append_drop]
      have e2 : (lof 0 S).set K ((c : Int), x.1, IntKind.wrap .i64 (x.2 + 1)) = (lof 0 S).take K ++ ((c : Int), x.1, IntKind.wrap .i64 (x.2 + 1)) :: (lof 0 S).drop (K + 1) := by
        rw [List.set_eq_take_append_cons_drop, if_pos hK]
      rw [e2]
      conv => lhs; rw [e1]
      rw [RowE.flat_append, RowE.flat_append, RowE.flat_cons, RowE.flat_cons, List.set_append_right _ _ (by rw [RowE.flat_length]; simp; omega), RowE.flat_length]
      congr 1
      have : K * 3 + 2 - ((lof 0 S).take K).length * rDeed.sz = 2 := by simp; omega
      rw [this]
      simp
    refine ⟨fun y hy => ?_, .inl h.ar, by simp, ?_, fun y hy => .inl (h.al y hy), ?_, fun y hy => .inl (h.ad y hy), h.ne⟩
    · rcases hy with hy | hy
      · exact h.un y hy
      · simpa using hy.2
    · rw [hN (x.1, IntKind.wrap .i64 (x.2 + 1))]
      refine ⟨by rw [RowE.flat_length], .inr ⟨b, op, by simp, Nat.zero_le _, by simpa using hb, ?_⟩⟩
      rw [← hset]
      simp [hbr]
    · refine h.hd.kept (by simp) fun g hg => ?_
      have g1 := h.dne hg
      have g2 : g ≠ b := fun e => h.ne b ⟨_, _, _, rfl, rfl⟩ (e ▸ hg)
      simp [g1, g2]
theorem rend_ok (orc : FuncId → Bool) (h : RFr A G r lv dv S D N) (hS : S.length < 2 ^ 36) (hD : D.length < 2 ^ 36) (c : Int) : Wp ((E orc).cl 39 [P0 r, .int .i64 c] G) fun q => q.1 = .int .i64 (eStep S c) ∧ ModP A G q.2 ∧ RFx (Grow A G q.2) q.2 r (sEnd S c) (dEnd S D c) N := by
  refine Wp.ref (f39 (exL_ok Q orc) _ _ G) ?_
  have hat := rat_ok orc h hS c
  have hlen := lof_length S 0
  rcases askI_two S.length c with h1 | h1
  · rw [if_pos h1] at hat
    simp [s39, hat, h1, eStep, sEnd, dEnd, ModP.refl]
    exact h.grow0
  rw [if_neg (by omega)] at hat
  obtain ⟨c, rfl, hc⟩ := askI_ok.1 h1
  have hS' : S[c]? = some S[c] := List.getElem?_eq_getElem hc
  cases hs : S[c] with
  | none =>
    rw [fnd_lof S c hc] at hat
    simp [hs] at hat
    simp [s39, hat, h1, eStep, sEnd, dEnd, slotOf_nat, hS', hs, ModP.refl]
    exact h.grow0
  | some x =>
    obtain ⟨K, hK, hf, hg, -, hN⟩ := lof_busy S c hc hs
    rw [hf] at hat
    simp only at hat
    have hg' : (lof 0 S)[K] = ((c : Int), x.1, x.2) := by rw [List.getElem?_eq_getElem hK] at hg; exact Option.some.inj hg
    have hun := h.un r h.ar
    have k0 : (0 : Int) ≤ K := by omega
    generalize hLL : lof 0 S = L at *
    have hl : SlR rDeed G lv L := hLL ▸ h.hl.is
    -- what has ended
    have xr : Ext G (G.room 17) := (Ext.refl G).room 17
    obtain ⟨b, o, c', hv, _, _, _, _, d4⟩ := deed_at (hl.ext xr) hK
    rw [hg'] at d4
    have hn : G.nx + 12 < (G.room 17).nx := by simp
    obtain ⟨G1, hG1⟩ : ∃ G1, G1 = ((((G.room 17).at' (G.nx + 12)).push ⟨rDeed.row ((c : Int), x.1, x.2), rDeed.sz, false, 1⟩).back (G.room 17)) := ⟨_, rfl⟩
    have x1 : Ext G G1 := by rw [hG1]; exact ModP.ext (((ModP.refl _ G).room 17).drawn (n := G.nx + 12) (by omega) _)
    have o1 : SlR rDeed G1 (.slice (some ⟨G.nx + 12, 0, none⟩) 1 1) [((c : Int), x.1, x.2)] := by rw [hG1]; exact SlR.oneD rDeed (G.room 17) ((c : Int), x.1, x.2) (n := G.nx + 12) hn
    obtain ⟨v2, G2, e2, m2, r2⟩ := (h.hd.ext x1).app_mod (ib := 24) (by decide) o1 (by simp) (by simp; omega)
    have k2 : ∀ g, g < G.nx → ¬ InB dv g → G2.obj g = G.obj g := fun g hg hb => (m2.obj g (Nat.lt_of_lt_of_le hg x1.nx) hb).trans (x1.obj g hg)
    have kr : ¬ InB dv r := fun hb => h.dne hb rfl
    have r2' := (k2 r hun kr).trans h.hr
    have one2 := own_one r2
    have n2 : G.nx ≤ G2.nx := Nat.le_trans x1.nx m2.nx
    obtain ⟨G3, hG3⟩ : ∃ G3, G3 = G2.put r ⟨[.int .i64 S.length, lv, v2, .int .i64 N], 1, false, 1⟩ := ⟨_, rfl⟩
    have k3 : ∀ g, g < G.nx → ¬ InB dv g → g ≠ r → G3.obj g = G.obj g := fun g hg hb hgr => by rw [hG3, obj_put, if_neg hgr]; exact k2 g hg hb
    have n3 : G3.nx = G2.nx := by rw [hG3]; rfl
    have o3 : G3.obj r = some ⟨[.int .i64 S.length, lv, v2, .int .i64 N], 1, false, 1⟩ := by rw [hG3]; simp
    have l3 : SlR rDeed G3 lv L := hl.kept (by omega) fun g hg => k3 g (hl.under g hg) (h.ne g hg) (h.lne hg)
    -- the rest
    obtain ⟨G4, hG4⟩ : ∃ G4, G4 = ((((G3.room 20).at' (G3.nx + 1)).push ⟨[], 3, false, 1⟩).back (G3.room 20)) := ⟨_, rfl⟩
    have x4 : Ext G3 G4 := by rw [hG4]; exact ModP.ext (((ModP.refl _ G3).room 20).drawn (n := G3.nx + 1) (by omega) _)
    have m4 : OwR rDeed G3.nx G4 (.slice (some ⟨G3.nx + 1, 0, none⟩) 0 0) [] := by rw [hG4]; exact ⟨by simp, .inr ⟨G3.nx + 1, false, rfl, by omega, by simp, by simp⟩⟩
    obtain ⟨⟨v5, e5, r5⟩, -⟩ := (l3.ext x4).take (k := .i64) (o := K) (by omega)
    obtain ⟨v6, G6, e6, x6, r6⟩ := OwR.app (A := G3) (ib := 24) m4 (by decide) x4 r5 (by simp; omega)
    obtain ⟨v7, e7, r7⟩ := (l3.ext x6).drop (k := .i64) (o := K + 1) (by omega)
    have e7' : slK 3 lv (some (.int .i64 ((K + 1 : Nat) : Int))) none none G4 = some v7 := by
      obtain ⟨v7', e7', -⟩ := (l3.ext x4).drop (k := .i64) (o := K + 1) (by omega)
      rw [show (3 : Nat) = rDeed.sz from rfl, e7']
      obtain ⟨b9, o9, c9, h9, hb9, _⟩ := deed_at l3 hK
      have w4 := x4.obj b9 hb9
      have w6 := x6.obj b9 hb9
      have : slK rDeed.sz lv (some (.int .i64 ((K + 1 : Nat) : Int))) none none G4 = slK rDeed.sz lv (some (.int .i64 ((K + 1 : Nat) : Int))) none none G6 := by
        rw [h9]
        unfold slK
        simp only [w4, w6]
      rw [← e7', this, e7]
    obtain ⟨v8, G8, e8, x8, r8⟩ := OwR.app (A := G3) (ib := 24) r6 (by decide) x6 r7 (by simp; omega)
    have one8 := own_one r8
    have o4 := (x4.obj r (by omega)).trans o3
    have o6 := (x6.obj r (by omega)).trans o3
    have o8 := (x8.obj r (by omega)).trans o3
    have hrne : ¬ r = G3.nx + 1 := by omega
    have hw : IntKind.wrap .i64 ((K : Int) + 1) = ((K + 1 : Nat) : Int) := wrap64 (by omega) (by omega)
    have hcr : ∀ n o, (G.room n).cell r o = [Value.int .i64 S.length, lv, dv, .int .i64 N][o]? := fun n o => by simp [cell_eq, h.hr]
    simp only [rDeed_sz, rDeed_row, List.nil_append] at e2 e5 e6 e7 e8 hG1
    obtain ⟨a9, c9, hlv⟩ := hl.len
    have hsame : sameO (some lv) lv = true := by rw [hlv]; simp
    have hsame7 : sameO (some v7) v7 = true := by obtain ⟨_, _, e⟩ := r7.len; rw [e]; simp
    have hsl : ∀ t G a b d, sl Q true t 3 lv a b d G = slK 3 lv a b d G := fun t G a b d => by rw [hlv]; simp
    have hias : ias Q true 67 3 lv (.int .i64 K) = some (.pointer (some ⟨b, o + K * 3, none⟩)) := by rw [hv]; simp [k0, hK]
    simp [-Int.natCast_add, s39, hat, h1, eStep, sEnd, dEnd, slotOf_nat, hS', hs, hcr, hias, d4, rep, fillS, fillL, fillC, splice_put, splice_end, splice_succ, Value.cells, e2, storeN_eq, r2', stO_one _ _ one2, ← hG1, ← hG3, ← hG4, cell_eq, hrne, o3, o4, hsl, e5, e6, o6, hsame, hw, e7, e7', hsame7, e8, o8, stO_one _ _ one8]
    have m3 : ModP A G G3 := by
      rw [hG3]
      exact ((x1.modP A).trans (m2.mono (B := Grow A G G1) fun g hg => .inl (h.ad g hg))).put (.inl h.ar) _
    have m8 : ModP A G G8 := m3.trans (x8.modP _)
    have n8 := x8.nx
    refine ⟨m8.put (.inl h.ar) _, v8, v2, ?_⟩
    have f8 : ∀ g, InB v8 g → G3.nx ≤ g := fun g hg => r8.from hg
    have f2 : ∀ g, InB v2 g → G.nx ≤ g ∧ g < G2.nx := fun g hg => ⟨Nat.le_trans x1.nx (r2.from hg), r2.is.under g hg⟩
    have hun8 : ∀ g, InB v8 g → g < G8.nx := fun g hg => r8.is.under g hg
    refine ⟨fun y hy => ?_, .inl h.ar, by simp, ?_, fun y hy => .inr ⟨by have := f8 y hy; omega, by simpa using hun8 y hy⟩, ?_, fun y hy => .inr ⟨(f2 y hy).1, by have := (f2 y hy).2; simp; omega⟩, fun y hy hz => by have := f8 y hy; have := (f2 y hz).2; omega⟩
    · rcases hy with hy | hy
      · have := h.un y hy; simp; omega
      · simpa using hy.2
    · rw [hN]
      refine (r8.mono (Nat.zero_le _)).kept (by exact Nat.le_refl _) fun g hg => ?_
      have := f8 g hg
      simp; omega
    · have q3 : OwR rDeed 0 G3 v2 (D ++ [((c : Int), x.1, x.2)]) := by
        refine (OwR.mono (B' := 0) r2 (by omega)).kept (by omega) fun g hg => ?_
        have := f2 g hg
        rw [hG3]; simp; omega
      refine (q3.ext x8).kept (by exact Nat.le_refl _) fun g hg => ?_
      have := f2 g hg
      simp; omega
end
end Go.Proofs.Ytglafaecdpilgaa.Lift
