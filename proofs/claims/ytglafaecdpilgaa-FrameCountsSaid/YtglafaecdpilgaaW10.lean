import Derived.Test.YtglafaecdpilgaaW9
set_option linter.unusedVariables false
set_option linter.unusedSimpArgs false
set_option maxRecDepth 20000
namespace Go.Proofs.Ytglafaecdpilgaa.Lift
open Go Go.Proofs.Ytglafaecdpilgaa.Gh Go.Proofs
def rAct : RowE Act := ⟨3, fun x => [.int .i64 x.1, .int .i64 x.2.1, .int .i64 x.2.2], fun _ => rfl, fun _ => rfl, by decide⟩
@[simp] theorem rAct_sz : rAct.sz = 3 := rfl
@[simp] theorem rAct_row (x : Act) : rAct.row x = [.int .i64 x.1, .int .i64 x.2.1, .int .i64 x.2.2] := rfl
theorem len_begin (S : List Slt) (c w : Int) : (sBegin S c w).length = S.length := by unfold sBegin; split <;> simp
theorem len_step (S : List Slt) (c : Int) : (sStep S c).length = S.length := by unfold sStep; split <;> simp
theorem len_end (S : List Slt) (c : Int) : (sEnd S c).length = S.length := by unfold sEnd; split <;> simp
theorem len_dEnd (S : List Slt) (D : List Deed) (c : Int) : (dEnd S D c).length ≤ D.length + 1 := by
  unfold dEnd; split
  · cases slotOf S c <;> simp
  · omega
theorem acts_lp (orc : FuncId → Bool) {p r : Nat} {v1 : Value} {L : List Act} (hL : L.length ≤ 80) : ∀ (k i : Nat) (τ : Env) (G : GS) (S : List Slt) (D : List Deed) (N : Int), i + k = L.length → τ 1 = v1 → τ 5 = P0 p → τ 7 = P0 r → τ 9 = .int .i64 i → SlR rAct G v1 L →
    Both (InB v1) G p r S D N S D N → S.length < 2 ^ 36 → D.length ≤ i → Wp ((exL Q orc).lpx 9 0 τ G) fun q => q.1 = .exit 0 := by
  intro k
  induction k with
  | zero =>
    intro i τ G S D N hi t1 t5 t7 t9 hs hb hS hD
    have hi' : i = L.length := by omega
    obtain ⟨a, c, rfl⟩ := hs.len
    refine Wp.lp (l9_0 (exL_ok Q orc)) ?_
    simp [b9_0, bb9_0, clip_t, t1, t5, t7, t9, hi']
  | succ k ih =>
    intro i τ G S D N hi t1 t5 t7 t9 hs hb hS hD
    have hlt : i < L.length := by omega
    have hi0 : (0 : Int) ≤ i := by omega
    have hw : IntKind.wrap .i64 ((i : Int) + 1) = (i : Int) + 1 := wrap64 (by omega) (by omega)
    obtain ⟨b, o, cc, hv1, hbx, _, hld⟩ := hs.at hlt
    obtain ⟨⟨kk, c, w⟩, hLi⟩ : ∃ x, L[i] = x := ⟨_, rfl⟩
    rw [hLi] at hld
    simp at hld
    obtain ⟨G1, hG1⟩ : ∃ G1, G1 = (G.push ⟨[.int .i64 0, .int .i64 0, .int .i64 0], 1, false, 1⟩).put G.nx ⟨[.int .i64 kk, .int .i64 c, .int .i64 w], 1, false, 1⟩ := ⟨_, rfl⟩
    have x1 : Ext G G1 := by rw [hG1]; exact ((Ext.refl G).push _).put (Nat.le_refl _) _
    have o1 : G1.obj G.nx = some ⟨[.int .i64 kk, .int .i64 c, .int .i64 w], 1, false, 1⟩ := by rw [hG1]; simp
    have n1 : G1.nx = G.nx + 1 := by rw [hG1]; rfl
    have hb1 : Both (fun g => InB v1 g ∨ g = G.nx) G1 p r S D N S D N := hb.also x1 fun g hg => hg.imp id fun e => by omega
    have hs1 := hs.ext x1
    refine Wp.lp (l9_0 (exL_ok Q orc)) ?_
    have step : ∀ {G' : GS} {S' : List Slt} {D' : List Deed} {N' : Int} {τ' : Env}, Both (fun g => InB v1 g ∨ g = G.nx) G' p r S' D' N' S' D' N' → (∀ g, (InB v1 g ∨ g = G.nx) → G'.obj g = G1.obj g) → G1.nx ≤ G'.nx → S'.length = S.length → D'.length ≤ D.length + 1 →
        τ' 1 = v1 → τ' 5 = P0 p → τ' 7 = P0 r → τ' 9 = .int .i64 i → τ' 10 = P0 G.nx → τ' 11 = .bool true → Wp (jl9_0_0 true (exL Q orc) ((exL Q orc).lpx 9 0) τ' G') fun q => q.1 = .exit 0 := by
      intro G' S' D' N' τ' hB hk hn hl1 hl2 t1 t5 t7 t9 t10 t11
      refine tell_ok orc hB (by omega) (by omega) hw (.inr rfl) ((hk _ (.inr rfl)).trans o1) t1 t5 t7 t9 t10 t11 ?_
      intro τ'' G'' x u1 u5 u7 u9
      exact ih (i + 1) τ'' G'' S' D' N' (by omega) u1 u5 u7 (by rw [u9]; rfl) ((hs1.kept hn fun g hg => hk g (.inl hg)).ext x) ((hB.also x fun g hg => .inl (.inl hg))) (by omega) (by omega)
    have hias : ias Q true 51 3 v1 (.int .i64 i) = some (.pointer (some ⟨b, o + i * 3, none⟩)) := by rw [hv1]; simp [hi0, hlt]
    have hln : ln Q true 51 v1 = some (.int .i64 L.length) := by rw [hv1]; simp
    have c1 : ∀ n o, (G1.room n).cell G.nx o = [Value.int .i64 kk, .int .i64 c, .int .i64 w][o]? := fun n o => by simp [cell_eq, o1]
    have c10 : ∀ o, G1.cell G.nx o = [Value.int .i64 kk, .int .i64 c, .int .i64 w][o]? := fun o => by simp [cell_eq, o1]
    have v2 : ∀ {G2 : GS}, (∀ g, (InB v1 g ∨ g = G.nx) → G2.obj g = G1.obj g) → ∀ o, G2.cell G.nx o = [Value.int .i64 kk, .int .i64 c, .int .i64 w][o]? := fun h o => by simp [cell_eq, h _ (.inr rfl), o1]
    by_cases k0 : kk = 0
    · subst k0
      have hbr := hb1.ext (G' := G1.room 14) ((Ext.refl G1).room 14)
      obtain ⟨⟨e, G2⟩, e2, q1, q2, qn, q3⟩ := hbr.opP (Qe := fun v => v = .int .i64 (eBegin S c)) (fun A ⟨sl, bs, dv, h⟩ => begin_ok orc h c w)
      obtain ⟨⟨e', G3⟩, e3, q4, q5, qm, q6⟩ := q2.opR (Qe := fun v => v = .int .i64 (eBegin S c)) (fun A ⟨lv, dv, h⟩ => rbegin_ok orc h hS c w)
      simp only at q1 q2 q3 q4 q5 q6 qn qm
      subst q1; subst q4
      have c2 := v2 (G2 := G2) (fun g hg => q3 g hg)
      simp at qn
      simp [b9_0, bb9_0, clip_t, t1, t5, t7, t9, hlt, hias, hln, hld, storeN_eq, stO_agg, overw, ← hG1, c1, c10, c2, e2, e3]
      refine step q5 (fun g hg => (q6 g hg).trans (q3 g hg)) (by omega) (len_begin S c w) (by omega) ?_ ?_ ?_ ?_ ?_ ?_ <;> simp [clip_t]
    by_cases k1 : kk = 1
    · subst k1
      have hbr := hb1.ext (G' := G1.room 10) ((Ext.refl G1).room 10)
      obtain ⟨⟨e, G2⟩, e2, q1, q2, qn, q3⟩ := hbr.opP (Qe := fun v => v = .int .i64 (eStep S c)) (fun A ⟨sl, bs, dv, h⟩ => step_ok orc h c)
      obtain ⟨⟨e', G3⟩, e3, q4, q5, qm, q6⟩ := q2.opR (Qe := fun v => v = .int .i64 (eStep S c)) (fun A ⟨lv, dv, h⟩ => rstep_ok orc h hS c)
      simp only at q1 q2 q3 q4 q5 q6 qn qm
      subst q1; subst q4
      have c2 := v2 (G2 := G2) (fun g hg => q3 g hg)
      simp at qn
      simp [b9_0, bb9_0, clip_t, t1, t5, t7, t9, hlt, hias, hln, hld, storeN_eq, stO_agg, overw, ← hG1, c1, c10, c2, e2, e3]
      refine step q5 (fun g hg => (q6 g hg).trans (q3 g hg)) (by omega) (len_step S c) (by omega) ?_ ?_ ?_ ?_ ?_ ?_ <;> simp [clip_t]
    by_cases k2 : kk = 2
    · subst k2
      have hbr := hb1.ext (G' := G1.room 10) ((Ext.refl G1).room 10)
      obtain ⟨⟨e, G2⟩, e2, q1, q2, qn, q3⟩ := hbr.opP (Qe := fun v => v = .int .i64 (eStep S c)) (fun A ⟨sl, bs, dv, h⟩ => end_ok orc h c (by omega))
      obtain ⟨⟨e', G3⟩, e3, q4, q5, qm, q6⟩ := q2.opR (Qe := fun v => v = .int .i64 (eStep S c)) (fun A ⟨lv, dv, h⟩ => rend_ok orc h hS (by omega) c)
      simp only at q1 q2 q3 q4 q5 q6 qn qm
      subst q1; subst q4
      have c2 := v2 (G2 := G2) (fun g hg => q3 g hg)
      simp at qn
      simp [b9_0, bb9_0, clip_t, t1, t5, t7, t9, hlt, hias, hln, hld, storeN_eq, stO_agg, overw, ← hG1, c1, c10, c2, e2, e3]
      refine step q5 (fun g hg => (q6 g hg).trans (q3 g hg)) (by omega) (len_end S c) (len_dEnd S D c) ?_ ?_ ?_ ?_ ?_ ?_ <;> simp [clip_t]
    · simp [b9_0, bb9_0, clip_t, t1, t5, t7, t9, hlt, hias, hln, hld, storeN_eq, stO_agg, overw, ← hG1, c1, c10, k0, k1, k2]
      refine step hb1 (fun g hg => rfl) (Nat.le_refl _) rfl (by omega) ?_ ?_ ?_ ?_ ?_ ?_ <;> simp [clip_t]
theorem frameActs (orc : FuncId → Bool) (h31 : orc 31 = true) (L : List Act) (v1 : Value) (C : Int) (G : GS) (hs : SlR rAct G v1 L) : Wp ((E orc).cl 9 [.int .i64 C, v1] G) fun q => q.1 = .bool true := by
  refine Wp.ref (f9 (exL_ok Q orc) _ _ G) ?_
  have aw : ∀ G, (E orc).cl 31 [] G = some (.bool true, G) := fun G => cl_orc Q orc h31 G
  obtain ⟨a, c, hv⟩ := hs.len
  have hln : ln Q true 51 v1 = some (.int .i64 L.length) := by rw [hv]; simp
  by_cases hl : 80 < L.length
  · have hl' : (80 : Int) < L.length := by omega
    simp [s9, hln, hl', aw]
  have hl' : ¬ (80 : Int) < L.length := by omega
  obtain ⟨n1, n2⟩ := new_ok orc C G
  by_cases hc : C < 1 ∨ 64 < C
  · have e1 := n1 hc
    have e2 := (rnew_ok orc C G).1 hc
    simp [s9, hln, hl', e1, e2]
    refine Wp.bE (Wp.lp (l9_0 (exL_ok Q orc)) ?_)
    simp [b9_0, bb9_0, clip_t, aw]
  · obtain ⟨p, G1, e1, x1, h1⟩ := n2 (by omega) (by omega)
    obtain ⟨r, G2, e2, x2, h2⟩ := (rnew_ok orc C G1).2 (by omega) (by omega)
    have hb : Both (InB v1) G2 p r (List.replicate C.toNat none) [] 0 (List.replicate C.toNat none) [] 0 := by
      refine ⟨fun g hg => Nat.lt_of_lt_of_le (hs.under g hg) (Nat.le_trans x1.nx x2.nx), _, _, h1.kept x2.nx fun g hg => x2.obj g hg.2, h2, fun g ha hb => by omega, fun g ha hb => by have := hs.under g hb; omega, fun g ha hb => ?_⟩
      have := hs.under g hb
      have := x1.nx
      omega
    simp [s9, hln, hl', e1, e2]
    refine Wp.bE ((acts_lp orc (by omega) L.length 0 _ G2 _ _ _ (by omega) (by simp) (by simp) (by simp) (by simp) (hs.ext (x1.trans x2)) hb (by simp; omega) (by simp)).mono ?_)
    rintro ⟨e, τ, G'⟩ rfl
    simp [aw]
end Go.Proofs.Ytglafaecdpilgaa.Lift
