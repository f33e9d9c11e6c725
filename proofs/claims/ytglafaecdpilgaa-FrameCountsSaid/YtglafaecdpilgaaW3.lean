import Derived.Test.YtglafaecdpilgaaW2
set_option linter.unusedVariables false
set_option linter.unusedSimpArgs false
set_option maxRecDepth 20000
namespace Go.Proofs.Ytglafaecdpilgaa.Lift
open Go Go.Proofs.Ytglafaecdpilgaa.Gh Go.Proofs
section
variable {A : Nat → Prop} {G : GS} {p sl : Nat} {bs : List (Option Nat)} {dv : Value} {S : List Slt} {D : List Deed} {N : Int}
theorem map_cellP_ne {bs : List (Option Nat)} {v : Value} {l : List Value} (hv : ∀ o, v ≠ cellP o) : bs.map cellP ≠ v :: l := by
  cases bs with
  | nil => simp
  | cons a b => simp only [List.map_cons, ne_eq, List.cons.injEq, not_and]; exact fun h _ => hv a h.symm
theorem PFr.ps (h : PFr A G p sl bs dv S D N) : p ≠ sl := fun e => by
  have h1 := h.hp
  rw [e, h.hs] at h1
  simp only [Option.some.injEq, GObj.mk.injEq, and_true] at h1
  exact map_cellP_ne (fun o => by simp [cellP]) h1
theorem PFr.bne (h : PFr A G p sl bs dv S D N) {b : Nat} {i : Nat} {x : Int × Int} (hb : G.obj b = some ⟨[.int .i64 i, .int .i64 x.1, .int .i64 x.2], 1, false, 1⟩) : b ≠ p ∧ b ≠ sl := by
  constructor
  · intro e
    rw [e, h.hp] at hb
    simp at hb
  · intro e
    rw [e, h.hs] at hb
    simp only [Option.some.injEq, GObj.mk.injEq, and_true] at hb
    exact map_cellP_ne (fun o => by simp [cellP]) hb
theorem PFr.dblk (h : PFr A G p sl bs dv S D N) {g : Nat} (hg : InB dv g) : ∃ cs op, G.obj g = some ⟨cs, 3, op, 1⟩ := by
  obtain ⟨a, n', c', he, rfl⟩ := hg
  rcases h.hd.2 with ⟨e3, _⟩ | ⟨b2, op, e3, _, _, h4⟩
  · rw [e3] at he; cases he
  · rw [e3] at he; cases he; exact ⟨_, _, h4⟩
theorem step_ok (orc : FuncId → Bool) (h : PFr A G p sl bs dv S D N) (c : Int) : Wp ((E orc).cl 36 [P0 p, .int .i64 c] G) fun r => r.1 = .int .i64 (eStep S c) ∧ ModP A G r.2 ∧ PFx (Grow A G r.2) r.2 p (sStep S c) D (nStep S c N) := by
  refine Wp.ref (f36 (exL_ok Q orc) _ _ G) ?_
  have ha := ask_ok orc h c
  rcases askI_two S.length c with h1 | h1
  · simp [s36, ha, h1, eStep, sStep, nStep, ModP.refl]
    exact ⟨sl, bs, dv, h.mono (fun x => grow_in) (h.un.grow (Nat.le_refl _))⟩
  · obtain ⟨c, rfl, hc⟩ := askI_ok.1 h1
    have hc0 : (0 : Int) ≤ c := by omega
    rcases h.get c hc with ⟨q1, q2⟩ | ⟨b, x, q1, q2, q3, q4⟩
    · have h2 := at_ok orc h c hc q1
      simp [s36, ha, h1, h2, eStep, sStep, nStep, slotOf_nat, q2, ModP.refl]
      exact ⟨sl, bs, dv, h.mono (fun x => grow_in) (h.un.grow (Nat.le_refl _))⟩
    · have h2 := at_ok orc h c hc q1
      obtain ⟨hbp, hbs⟩ := h.bne q3
      have hpb := hbp.symm
      have hps := h.ps
      simp [s36, ha, h1, h2, cell_eq, h.hp, eStep, sStep, nStep, slotOf_nat, q2, q3, storeN_eq, hbp, hpb]
      refine ⟨((ModP.refl _ _).put (.inl q4) _).put (.inl h.ap) _, sl, bs, dv, ?_⟩
      refine ⟨fun y hy => ?_, .inl h.ap, .inl h.asl, by simp, ?_, by simpa using h.hl, ?_, ?_, ?_, fun y hy => .inl (h.ad y hy)⟩
      · rcases hy with hy | hy
        · exact h.un y hy
        · simpa using hy.2
      · simp [hps.symm, hbs.symm, h.hs]
      · intro i b' hb'
        obtain ⟨y, k1, k2, k3⟩ := h.some_ i b' hb'
        obtain ⟨hbp', hbs'⟩ := h.bne k2
        by_cases hi : i = c
        · subst hi
          rw [q1] at hb'
          simp at hb'
          subst hb'
          exact ⟨(x.1, IntKind.wrap .i64 (x.2 + 1)), by simp [hc], by simp [hbp], .inl q4⟩
        · have hbb : b' ≠ b := fun e => by
            rw [e, q3] at k2
            simp at k2
            omega
          exact ⟨y, by simp [Ne.symm hi, k1], by simp [hbp', hbb, k2], .inl k3⟩
      · intro i hb'
        have := h.none_ i hb'
        by_cases hi : c = i
        · subst hi; rw [q1] at hb'; cases hb'
        · simpa [hi] using this
      · refine h.hd.kept (by simp) fun g hg => ?_
        obtain ⟨cs, op, hg⟩ := h.dblk hg
        have g1 : g ≠ p := fun e => by rw [e, h.hp] at hg; cases hg
        have g2 : g ≠ b := fun e => by rw [e, q3] at hg; cases hg
        simp [g1, g2]
theorem end_ok (orc : FuncId → Bool) (h : PFr A G p sl bs dv S D N) (c : Int) (hD : D.length < 2 ^ 36) : Wp ((E orc).cl 38 [P0 p, .int .i64 c] G) fun r => r.1 = .int .i64 (eStep S c) ∧ ModP A G r.2 ∧ PFx (Grow A G r.2) r.2 p (sEnd S c) (dEnd S D c) N := by
  refine Wp.ref (f38 (exL_ok Q orc) _ _ G) ?_
  have ha := ask_ok orc h c
  rcases askI_two S.length c with h1 | h1
  · simp [s38, ha, h1, eStep, sEnd, dEnd, ModP.refl]
    exact ⟨sl, bs, dv, h.mono (fun x => grow_in) (h.un.grow (Nat.le_refl _))⟩
  · obtain ⟨c, rfl, hc⟩ := askI_ok.1 h1
    have hc0 : (0 : Int) ≤ c := by omega
    rcases h.get c hc with ⟨q1, q2⟩ | ⟨b, x, q1, q2, q3, q4⟩
    · have h2 := at_ok orc h c hc q1
      simp [s38, ha, h1, h2, eStep, sEnd, dEnd, slotOf_nat, q2, ModP.refl]
      exact ⟨sl, bs, dv, h.mono (fun x => grow_in) (h.un.grow (Nat.le_refl _))⟩
    · have h2 := at_ok orc h c hc q1
      obtain ⟨hbp, hbs⟩ := h.bne q3
      have hpb := hbp.symm
      have hps := h.ps
      have hsp := hps.symm
      have un_p := h.un _ h.ap
      have un_s := h.un _ h.asl
      have un_b := h.un _ q4
      have xr : Ext G (G.room 14) := (Ext.refl G).room 14
      obtain ⟨G1, hG1⟩ : ∃ G1, G1 = ((((G.room 14).at' (G.nx + 9)).push ⟨rDeed.row ((c : Int), x.1, x.2), rDeed.sz, false, 1⟩).back (G.room 14)) := ⟨_, rfl⟩
      have x1 : Ext G G1 := by rw [hG1]; exact ModP.ext (((ModP.refl _ G).room 14).drawn (n := G.nx + 9) (by omega) _)
      have o1 : SlR rDeed G1 (.slice (some ⟨G.nx + 9, 0, none⟩) 1 1) [((c : Int), x.1, x.2)] := by rw [hG1]; exact SlR.oneD rDeed (G.room 14) ((c : Int), x.1, x.2) (n := G.nx + 9) (by simp)
      obtain ⟨v2, G2, e2, m2, r2⟩ := (h.hd.ext x1).app_mod (ib := 24) (by decide) o1 (by simp) (by simp; omega)
      have k2 : ∀ g, g < G.nx → ¬ InB dv g → G2.obj g = G.obj g := fun g hg hb => (m2.obj g (Nat.lt_of_lt_of_le hg x1.nx) hb).trans (x1.obj g hg)
      have n2 : G.nx ≤ G2.nx := Nat.le_trans x1.nx m2.nx
      have dp : ¬ InB dv p := fun hb => by obtain ⟨cs, op, hg⟩ := h.dblk hb; rw [h.hp] at hg; simp at hg
      have ds : ¬ InB dv sl := fun hb => by obtain ⟨cs, op, hg⟩ := h.dblk hb; rw [h.hs] at hg; simp at hg
      have p2 := (k2 p un_p dp).trans h.hp
      have s2 := (k2 sl un_s ds).trans h.hs
      have one2 := own_one r2
      have hcl : c < bs.length := by rw [h.hl]; exact hc
      have q2' : S[c] = some x := by simpa [hc] using q2
      simp only [rDeed_sz, rDeed_row] at e2 hG1
      rw [hG1] at e2
      have l3 : loadA 3 b 0 (G.room 14) = some (.agg ⟨[.int .i64 c, .int .i64 x.1, .int .i64 x.2]⟩) := loadA_whole (by simpa using q3) (by decide) rfl
      simp [s38, ha, h1, h2, cell_eq, h.hp, eStep, sEnd, dEnd, slotOf_nat, q2, l3, rep, fillS, fillC, splice_put, splice_end, splice_succ, Value.cells, e2, storeN_eq, p2, s2, stO_one _ _ one2, hsp, hps, hc, hcl, q2']
      have hmod : ModP A G G2 := by
        have := (x1.modP A).trans (m2.mono (B := Grow A G G1) fun g hg => .inl (h.ad g hg))
        exact this
      refine ⟨(hmod.put (.inl h.ap) _).put (.inl h.asl) _, sl, bs.set c none, v2, ?_⟩
      have hfr : ∀ g, InB v2 g → G.nx ≤ g := fun g hg => Nat.le_trans x1.nx (r2.from hg)
      refine ⟨fun y hy => ?_, .inl h.ap, .inl h.asl, by simp [hps, hc], by simp [hsp, List.map_set], by simpa using h.hl, ?_, ?_, ?_, fun y hy => .inr ⟨hfr y hy, by simpa using r2.is.under y hy⟩⟩
      · rcases hy with hy | hy
        · have := h.un y hy; simp; omega
        · simpa using hy.2
      · intro i b' hb'
        rw [List.getElem?_set] at hb'
        by_cases hi : c = i
        · subst hi; simp [hcl] at hb'
        · simp [hi] at hb'
          obtain ⟨y, k1, k2', k3⟩ := h.some_ i b' hb'
          obtain ⟨hbp', hbs'⟩ := h.bne k2'
          have db : ¬ InB dv b' := fun hb => by obtain ⟨cs, op, hg⟩ := h.dblk hb; rw [k2'] at hg; cases hg
          exact ⟨y, by simp [hi, k1], by simp [hbp', hbs', k2 b' (h.un _ k3) db, k2'], .inl k3⟩
      · intro i hb'
        rw [List.getElem?_set] at hb'
        by_cases hi : c = i
        · subst hi; simp [hc]
        · simp [hi] at hb'
          simpa [hi] using h.none_ i hb'
      · refine (OwR.mono (B' := 0) r2 (by omega)).kept (by simp) fun g hg => ?_
        have := hfr g hg
        have g1 : g ≠ p := by omega
        have g2 : g ≠ sl := by omega
        simp [g1, g2]
end
end Go.Proofs.Ytglafaecdpilgaa.Lift
