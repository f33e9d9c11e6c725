/- contracts of the program's functions -/
import Derived.Test.YtfmkihikmlcimaaKE
set_option linter.unusedVariables false
set_option linter.unusedSimpArgs false
set_option maxRecDepth 20000
namespace Go.Proofs.Ytfmkihikmlcimaa.Lift
open Go Go.Proofs.Ytfmkihikmlcimaa.Gh Go.Proofs
section
variable {own own' own1 : Nat → Nat} {G G' G1 : GS} {b d t c K : Nat} {n lim T : Int} {F : List Int} {ts : List Nat} {cs : List Value} {x y : CA} {B B' : CrB} {v : Value} {A : Ar} {y0 : CoS} {s' : MS}
theorem ref_word {i g : Int} (hi : 0 ≤ i ∧ i < 8) (hg : 1 ≤ g ∧ g ≤ 4) : refOk (wordT i g) ∧ refV (wordT i g) = [.int .i64 i, .int .i64 g, .bool false] ∧ U (wordT i g) := by
  have h1 : wordT i g % 65536 = i + 1 := by unfold wordT; omega
  have h2 : wordT i g / 65536 % 4294967296 = g := by unfold wordT; omega
  have h3 : ¬ (9223372036854775808 : Int) ≤ wordT i g := by unfold wordT; omega
  have hr : refOk (wordT i g) := by
    unfold refOk
    rw [h1, h2, decide_eq_false h3]
    exact ⟨by omega, by unfold wordT mkI; simp⟩
  refine ⟨hr, ?_, by unfold wordT U; omega⟩
  unfold refV
  rw [if_pos hr, h1, h2, decide_eq_false h3]
  congr 2
  omega
theorem CrG.hold (h : CrG own G n lim x B) (m : ModT [1, 3] own G G') {hv' : Value} {held' : List Int} (ox : G'.obj B.xb = some ⟨crX n lim x { B with hv := hv' }, 1, false, 1⟩) (w : OwR (rowsI .u64) G.nx G' hv' held') : CrG (grown own G 3) G' n lim { x with held := held' } { B with hv := hv' } := by
  have a : Agr own (grown own G 3) G := grown_agr
  have nx := m.nx
  have hlt := h.cx.lt
  refine ⟨⟨Nat.lt_of_lt_of_le hlt nx, (a _ hlt).trans h.cx.tag, ox⟩, h.ca.to m (by decide) a, h.cf.to m (by decide) a, h.ck.to m (by decide) a, h.co.to m (by decide) a, h.hm.mt m (by decide) a, w.mono (Nat.zero_le _), fun g hg => grown_new (w.from hg), OwR.to h.hc h.tc m (by decide), fun g hg => (a g (h.hc.is.under g hg)).trans (h.tc g hg), fun j hj => (h.cr j hj).to m (by simp; omega) a⟩
theorem look_lp (orc : FuncId → Bool) (hrf : orc 95 = false) {A : GS} {xb rb : Nat} {cl : List Value} {hv : Value} {held : List Int} {j g0 : Int} (hxb : xb < A.nx) (ox : A.obj xb = some ⟨cl, 1, false, 1⟩) (hcl : cl[9]? = some hv) (hrb : rb < A.nx) (or : A.obj rb = some ⟨[.int .i64 j, .int .i64 g0, .bool false], 1, false, 1⟩)
    (hv' : SlR (rowsI .u64) A hv held) (hall : ∀ w ∈ held, ∃ i g, w = wordT i g ∧ 0 ≤ i ∧ i < 8 ∧ 1 ≤ g ∧ g ≤ 4) (hne : ∀ w ∈ held, ixW w ≠ j) (hlen : held.length ≤ 100000) {v5 v6 v9 : Value} :
    ∀ (k i : Nat) (τ : Env) (G : GS), i + k = held.length → Ext A G → τ 0 = P0 xb → τ 5 = v5 → τ 6 = v6 → τ 8 = P0 rb → τ 9 = v9 → τ 10 = .int .i64 i →
    Wp ((exL Q orc).lpx 25 0 τ G) fun q => q.1 = .exit 0 ∧ Ext A q.2.2 ∧ q.2.1 0 = P0 xb ∧ q.2.1 5 = v5 ∧ q.2.1 6 = v6 ∧ q.2.1 8 = P0 rb ∧ q.2.1 9 = v9 := by
  have lh : ∀ t, ln Q true t hv = some (.int .i64 held.length) := fun t => by obtain ⟨a, c, h⟩ := hv'.len; rw [h]; simp
  intro k
  induction k with
  | zero =>
    intro i τ G hi hx t0 t5 t6 t8 t9 t10
    have o := (hx.obj xb hxb).trans ox
    have hin : ¬ (i : Int) < held.length := by omega
    refine Wp.lp (l25_0 (exL_ok Q orc)) ?_
    simp [-Int.natCast_add, b25_0, clip_t, t0, t8, t10, o, hcl, lh, hin]
    exact ⟨hx, t5, t6, t9⟩
  | succ k ih =>
    intro i τ G hi hx t0 t5 t6 t8 t9 t10
    have o := (hx.obj xb hxb).trans ox
    have hin : (i : Int) < held.length := by omega
    have hin' : i < held.length := by omega
    have hi0 : (0 : Int) ≤ i := by omega
    have hw : IntKind.wrap .i64 ((i : Int) + 1) = ((i + 1 : Nat) : Int) := wrap64 (by omega) (by omega)
    obtain ⟨b, of, c, e0, _, q0, _⟩ := (hv'.ext hx).at hin'
    have hc := q0 0 (by decide)
    simp [rowsI] at hc
    obtain ⟨i1, g1, hwd, j0, j1, g2, g3⟩ := hall _ (List.getElem_mem hin')
    have hnj := hne _ (List.getElem_mem hin')
    rw [hwd, ixW_word ⟨j0, j1⟩] at hnj
    rw [hwd] at hc
    obtain ⟨r1, r2, r3⟩ := ref_word ⟨j0, j1⟩ ⟨g2, g3⟩
    obtain ⟨G2, e2, x2⟩ := getref_ok orc hrf r3 G
    rw [r2, if_pos r1] at e2
    have hz : z128 = [.int .i64 0, .int .i64 0, .bool false] := rfl
    obtain ⟨G3, hG3⟩ : ∃ G3, G3 = (G2.push ⟨z128, 1, false, 1⟩).put G2.nx ⟨[.int .i64 i1, .int .i64 g1, .bool false], 1, false, 1⟩ := ⟨_, rfl⟩
    have x3 : Ext G2 G3 := by rw [hG3]; exact ((Ext.refl _).push _).put (Nat.le_refl _) _
    have p3 : G3.obj G2.nx = some ⟨[.int .i64 i1, .int .i64 g1, .bool false], 1, false, 1⟩ := by rw [hG3]; simp
    have or3 := ((hx.trans (x2.trans x3)).obj rb hrb).trans or
    rw [hz] at hG3
    refine Wp.lp (l25_0 (exL_ok Q orc)) ?_
    simp [-Int.natCast_add, b25_0, clip_t, t0, t8, t10, o, hcl, lh, hin, e0, hi0, hc, e2, hz, splice_put, splice_end, splice_succ, ← hG3, p3, or3, hnj, hw]
    refine ih (i + 1) _ G3 (by omega) (hx.trans (x2.trans x3)) (by simp [clip_t]) (by simp [clip_t, t5]) (by simp [clip_t, t6]) (by simp [clip_t]) (by simp [clip_t, t9]) (by simp [clip_t])
end
end Go.Proofs.Ytfmkihikmlcimaa.Lift

set_option linter.unusedVariables false
set_option linter.unusedSimpArgs false
set_option maxRecDepth 20000
namespace Go.Proofs.Ytfmkihikmlcimaa.Lift
open Go Go.Proofs.Ytfmkihikmlcimaa.Gh Go.Proofs
section
variable {own own' own1 : Nat → Nat} {G G' G1 : GS} {b d t c K : Nat} {n lim T : Int} {F : List Int} {ts : List Nat} {cs : List Value} {x y : CA} {B B' : CrB} {v : Value} {A : Ar} {y0 : CoS} {s' : MS}
theorem pA_al {B : CrB} {x : CA} {c j : Nat} {p q : AlS} {s : MS} {cl : Int} (h : x.k c = .al p) : pA B { x with s := s, k := upN x.k c (.al q), clock := cl } j = pA B x j := by unfold pA; by_cases e : j = c <;> simp [upN, e, h]
theorem CrG.recall (h : CrG own G n lim x B) (m : ModT [4] own G G') {calls' : List Sp} (oc : OwR rSp 0 G' B.cv calls') : CrG own G' n lim { x with calls := calls' } B := by
  have a := Agr.refl own G
  exact ⟨h.cx.to m (by decide) a, h.ca.to m (by decide) a, h.cf.to m (by decide) a, h.ck.to m (by decide) a, h.co.to m (by decide) a, h.hm.mt m (by decide) a, OwR.to h.hq h.tq m (by decide), h.tq, oc, h.tc, fun j hj => (h.cr j hj).to m (by simp; omega) a⟩
theorem steps_al (orc : FuncId → Bool) (hto : orc 60 = false) (hrf : orc 95 = false) (h : CrG own G n lim x B) (hI : InvA n lim K x F T) (hK : K ≤ 100000) (hc : c < 3) {p : AlS} (hk : x.k c = .al p) : Wp ((E orc).cl 25 [P0 B.xb, .int .i64 c] G) (CrPost own G n lim B (x.steps (arN n lim) c) (.bool true)) := by
  have hA := arN_ok hI.ri.n1 hI.ri.lm
  have hn := hI.ri.n1
  have hck := hI.ck
  have hcl := hI.cl
  have hok := hI.ri.ok c hc
  rw [hk] at hok
  obtain ⟨q1, q2⟩ : 0 ≤ x.o c ∧ x.o c < x.calls.length := by
    rcases hI.op c hc with ⟨q, _⟩ | ⟨_, _, q⟩
    · rw [hk] at q; cases q
    · exact q
  obtain ⟨k, ho⟩ := Int.eq_ofNat_of_zero_le q1
  have hkl : k < x.calls.length := by omega
  have hw : IntKind.wrap .i64 (x.clock + 1) = x.clock + 1 := wrap64 (by omega) (by omega)
  obtain ⟨Gt, hGt⟩ : ∃ Gt, Gt = ((G.put B.xb ⟨crX n lim { x with clock := x.clock + 1 } B, 1, false, 1⟩).room 13).room 13 := ⟨_, rfl⟩
  obtain ⟨h1, m1, n1⟩ := h.tick 26 (G1 := Gt) (by rw [hGt]; rfl)
  have hcr := h1.cr c hc
  simp only [hk] at hcr
  obtain ⟨htw, hfr⟩ := hcr
  obtain ⟨own2, G36, e36, w36, r36⟩ := alloc_ok orc hto hrf h1.hm hI.sk hA htw.lb htw.ld (by rw [htw.tb]; omega) (by rw [htw.td]; omega) htw.ne hok hfr
  have htw2 := htw.to w36.nx w36.stp.agr
  obtain ⟨h2, m2⟩ := h1.run hc htw (y0 := .al (p.step (arN n lim) x.s).1) w36 (by simp [pA, upN, hk]) (by simp [pF, upN, hk]) ⟨htw2, r36⟩
  have ag2 : Agr own own2 G := grown_agr.trans w36.stp.agr m1.nx
  have mm2 : ModT crT own G G36 := ModT.trans (ModT.mono (us := crT) m1 (by decide)) grown_agr (ModT.mono (us := crT) m2 (up5 hc))
  have hox := h.cx.obj
  have hoo := h.co.obj
  have hof := h.cf.obj
  have hfb : pF B x c = .pointer none := pF_al hk
  have hab : pA B x c = P0 (B.b c) := by unfold pA; rw [hk]
  have hof1 : Gt.obj B.fb = some ⟨[pF B x 0, pF B x 1, pF B x 2], 1, false, 1⟩ := h1.cf.obj
  have hoa1 : Gt.obj B.ab = some ⟨[pA B x 0, pA B x 1, pA B x 2], 1, false, 1⟩ := h1.ca.obj
  have hoo1 : Gt.obj B.ob = some ⟨[.int .i64 (x.o 0), .int .i64 (x.o 1), .int .i64 (x.o 2)], 1, false, 1⟩ := h1.co.obj
  have hox1 : Gt.obj B.xb = some ⟨crX n lim { x with clock := x.clock + 1 } B, 1, false, 1⟩ := h1.cx.obj
  have n36 := w36.nx
  rcases h.hc.2 with ⟨_, h0⟩ | ⟨cb, op, hcv, _, hcb, hco⟩
  · omega
  have hk0 : (0 : Int) ≤ k := by omega
  have hkn : ¬ (k : Int) < 0 := by omega
  have hk1 : (k : Int) < x.calls.length := by omega
  have nxb : ∀ {b' t'}, own b' = t' → t' ≠ 1 → ¬ b' = B.xb := fun k hn e => hn (by rw [← k, e]; exact h.cx.tag)
  have nob := nxb h.co.tag (by decide)
  have nfb := nxb h.cf.tag (by decide)
  have eX : crX n lim { x with clock := x.clock + 1 } B = [.int .i64 0, .int .i64 1, .int .i64 n, .int .i64 (1 + n), .int .i64 (1 + 2 * n), .int .i64 lim, P0 B.m, .slice (some ⟨B.ab, 0, none⟩) 3 3, .slice (some ⟨B.fb, 0, none⟩) 3 3, B.hv, .slice (some ⟨B.bb, 0, none⟩) 3 3, B.cv, .slice (some ⟨B.ob, 0, none⟩) 3 3, .int .i64 (x.clock + 1)] := rfl
  by_cases hov : (p.step (arN n lim) x.s).1.over = true
  · rw [hov] at e36
    have hd : ∃ g e, (p.step (arN n lim) x.s).1 = .done g e := by
      cases hq : (p.step (arN n lim) x.s).1 <;> first | exact ⟨_, _, rfl⟩ | (rw [hq] at hov; cases hov)
    obtain ⟨g, er, hd⟩ := hd
    obtain ⟨tz, tn⟩ := hI.told (by omega) hc hk hd
    have htl : (p.step (arN n lim) x.s).1.told = (g, er) := by rw [hd]; rfl
    obtain ⟨G72, e72, x72⟩ := allocref_ok orc r36
    rw [htl] at e72
    simp only at e72
    have h3 := h2.ext x72
    obtain ⟨own3, hown3⟩ : ∃ own3, own3 = grown own2 G36 13 := ⟨_, rfl⟩
    rw [← hown3] at h3
    have ag3 : Agr own own3 G := ag2.trans (by rw [hown3]; exact grown_agr) mm2.nx
    have mm3 : ModT crT own G G72 := mm2.trans ag2 (ModT.ext x72)
    have hox3 : G72.obj B.xb = some ⟨crX n lim { x with clock := x.clock + 1 } B, 1, false, 1⟩ := h3.cx.obj
    have hoo3 : G72.obj B.ob = some ⟨[.int .i64 (x.o 0), .int .i64 (x.o 1), .int .i64 (x.o 2)], 1, false, 1⟩ := h3.co.obj
    have hoa3 : G72.obj B.ab = some ⟨[pA B x 0, pA B x 1, pA B x 2], 1, false, 1⟩ := by have := h3.ca.obj; rw [pA_al hk, pA_al hk, pA_al hk] at this; exact this
    have hoa2 : G36.obj B.ab = some ⟨[pA B x 0, pA B x 1, pA B x 2], 1, false, 1⟩ := by have := h2.ca.obj; rw [pA_al hk, pA_al hk, pA_al hk] at this; exact this
    have hox2 : G36.obj B.xb = some ⟨crX n lim { x with clock := x.clock + 1 } B, 1, false, 1⟩ := h2.cx.obj
    obtain ⟨hfl3, ⟨_, h0⟩ | ⟨cb2, op2, hcv2, _, hcb3, hco3⟩⟩ := h3.hc
    · have : x.calls.length = 0 := h0
      omega
    have hcc : cb2 = cb := by
      have e := hcv2
      rw [hcv] at e
      injection e with e1
      injection e1 with e2
      injection e2 with e3
      exact e3.symm
    rw [hcc] at hco3 hcb3
    have tcb : own3 cb = 4 := h3.tc cb ⟨_, _, _, hcv, rfl⟩
    have k1 : ¬ cb = B.fb := fun e => h3.cf.ne tcb (by decide) e.symm
    have k2 : ¬ cb = B.ob := fun e => h3.co.ne tcb (by decide) e.symm
    have k3 : ¬ B.fb = B.ob := h3.cf.ne h3.co.tag (by decide)
    have k4 : ¬ B.ob = cb := fun e => k2 e.symm
    have k5 : ¬ B.fb = cb := fun e => k1 e.symm
    have k6 : ¬ B.ob = B.ab := h3.co.ne h3.ca.tag (by decide)
    have k7 : ¬ B.ab = cb := h3.ca.ne tcb (by decide)
    have k8 : ¬ B.fb = B.ab := h3.cf.ne h3.ca.tag (by decide)
    have k9 : ¬ B.ab = B.ob := h3.ca.ne h3.co.tag (by decide)
    have k10 : ¬ B.xb = cb := h3.cx.ne tcb (by decide)
    have k11 : ¬ B.xb = B.ab := h3.cx.ne h3.ca.tag (by decide)
    have k12 : ¬ cb = B.ab := fun e => k7 e.symm
    have k13 : ¬ B.xb = B.ob := h3.cx.ne h3.co.tag (by decide)
    have hfl := rSp.flat_length x.calls
    simp only [rSp_sz] at hfl hco3
    obtain ⟨L1, hL1⟩ : ∃ L1, L1 = x.calls.modify k fun z => { z with to := x.clock + 1 } := ⟨_, rfl⟩
    obtain ⟨L2, hL2⟩ : ∃ L2, L2 = x.calls.modify k fun z => { z with to := x.clock + 1, an := (er, z.an.2.1, z.an.2.2) } := ⟨_, rfl⟩
    obtain ⟨L3, hL3⟩ : ∃ L3, L3 = x.calls.modify k fun z => { z with to := x.clock + 1, an := (er, ixW g, z.an.2.2) } := ⟨_, rfl⟩
    have ln1 : L1.length = x.calls.length := by rw [hL1]; simp
    have ln2 : L2.length = x.calls.length := by rw [hL2]; simp
    have ln3 : L3.length = x.calls.length := by rw [hL3]; simp
    have f1 := rSp.flat_length L1
    have f2 := rSp.flat_length L2
    simp only [rSp_sz] at f1 f2
    have l1 : k * 10 + 2 < (rSp.flat x.calls).length := by omega
    have l2 : k * 10 + 7 < (rSp.flat L1).length := by omega
    have l3 : k * 10 + 8 < (rSp.flat L2).length := by omega
    have s1 : (rSp.flat x.calls).set (k * 10 + 2) (.int .i64 (x.clock + 1)) = rSp.flat L1 := by
      rw [set_overw _ _ _ l1, hL1, modify_set _ _ _ hkl]
      exact RowE.flat_part rSp x.calls hkl _ (f := 2) (by simp [overw]) (by simp)
    have s2 : (rSp.flat L1).set (k * 10 + 7) (.int .i64 er) = rSp.flat L2 := by
      rw [set_overw _ _ _ l2, hL1, hL2, modify_set _ _ _ hkl, modify_set _ _ _ hkl]
      have := RowE.flat_part rSp (x.calls.set k { x.calls[k] with to := x.clock + 1 }) (i := k) (by simpa using hkl) { x.calls[k] with to := x.clock + 1, an := (er, x.calls[k].an.2.1, x.calls[k].an.2.2) } (f := 7) (ds := [.int .i64 er]) (by simp [overw]) (by simp)
      simpa using this
    have s3 : (rSp.flat L2).set (k * 10 + 8) (.int .i64 (ixW g)) = rSp.flat L3 := by
      rw [set_overw _ _ _ l3, hL2, hL3, modify_set _ _ _ hkl, modify_set _ _ _ hkl]
      have := RowE.flat_part rSp (x.calls.set k { x.calls[k] with to := x.clock + 1, an := (er, x.calls[k].an.2.1, x.calls[k].an.2.2) }) (i := k) (by simpa using hkl) { x.calls[k] with to := x.clock + 1, an := (er, ixW g, x.calls[k].an.2.2) } (f := 8) (ds := [.int .i64 (ixW g)]) (by simp [overw]) (by simp)
      simpa using this
    obtain ⟨ac, hac⟩ : ∃ ac : List Value, ac = [if 0 = c then .pointer none else pA B x 0, if 1 = c then .pointer none else pA B x 1, if 2 = c then .pointer none else pA B x 2] := ⟨_, rfl⟩
    obtain ⟨oc, hoc⟩ : ∃ oc : List Value, oc = [.int .i64 (upN x.o c (-1) 0), .int .i64 (upN x.o c (-1) 1), .int .i64 (upN x.o c (-1) 2)] := ⟨_, rfl⟩
    obtain ⟨G94, hG94⟩ : ∃ G94, G94 = ((((G72.room 22).put cb ⟨rSp.flat L1, 10, op2, 1⟩).put B.ab ⟨ac, 1, false, 1⟩).put B.ob ⟨oc, 1, false, 1⟩).put cb ⟨rSp.flat L2, 10, op2, 1⟩ := ⟨_, rfl⟩
    have m9 : ModT [2, 4, 14, 16] own3 G72 G94 := by
      rw [hG94]
      refine ModT.put (ModT.put (ModT.put (ModT.put (ModP.room (ModT.refl _ _ _) _) (.inl ?_) _) (.inl ?_) _) (.inl ?_) _) (.inl ?_) _
      · rw [tcb]; decide
      · rw [h3.ca.tag]; decide
      · rw [h3.co.tag]; decide
      · rw [tcb]; decide
    have o94 : G94.obj cb = some ⟨rSp.flat L2, 10, op2, 1⟩ := by rw [hG94]; simp
    have h4 := h3.fin hc (G' := G94) (calls' := L2) m9 (by rw [hG94]; simp [k7, k9]; rw [hac]; simp only [pA_endA]) (by
      have e2 := h3.cf.obj
      rw [hG94]
      simp [k5, k8, k3]
      rw [e2]
      simp only [pF_endA]) (by rw [hG94]; simp [k4]; rw [hoc]) ⟨by rw [rSp.flat_length], .inr ⟨cb, op2, by rw [hcv, ln2], Nat.zero_le _, Nat.lt_of_lt_of_le hcb3 m9.nx, o94⟩⟩
    have hst : x.steps (arN n lim) c = { x with s := (p.step (arN n lim) x.s).2, k := upN x.k c .idle, clock := x.clock + 1, o := upN x.o c (-1), calls := x.calls.modify k fun z => { z with to := x.clock + 1, an := (er, if er = 0 then ixW g else z.an.2.1, z.an.2.2) }, held := if er = 0 then x.held ++ [g] else x.held } := by
      have hto : (x.o c).toNat = k := by rw [ho]; rfl
      unfold CA.steps; rw [hk]; simp only; rw [if_pos hov, htl, hto]
    simp only [upN_up] at h4
    have mm4 : ModT crT own G G94 := mm3.trans ag3 (ModT.mono (us := crT) m9 (by decide))
    rw [eX, hcv] at hGt hox1 hox2 hox3
    by_cases he : er = 0
    · obtain ⟨tz1, i1, g1, hg, j0, j1, j2, j3⟩ := tz he
      have hix : ixW g = i1 := by rw [hg]; exact ixW_word ⟨j0, by omega⟩
      obtain ⟨r1, r2, r3⟩ := ref_word (i := i1) (g := g1) ⟨j0, by omega⟩ ⟨j2, j3⟩
      rw [← hg] at r1 r2 r3
      obtain ⟨G111, e111, x111⟩ := getref_ok orc hrf r3 G94
      rw [r2, if_pos r1] at e111
      have hz : z128 = [.int .i64 0, .int .i64 0, .bool false] := rfl
      obtain ⟨G116, hG116⟩ : ∃ G116, G116 = (G111.push ⟨[.int .i64 0, .int .i64 0, .bool false], 1, false, 1⟩).put G111.nx ⟨overw [.int .i64 0, .int .i64 0, .bool false] 0 [.int .i64 i1, .int .i64 g1, .bool false], 1, false, 1⟩ := ⟨_, rfl⟩
      have x116 : Ext G111 G116 := by rw [hG116]; exact ((Ext.refl _).push _).put (Nat.le_refl _) _
      have y116 := x111.trans x116
      have p116 : G116.obj G111.nx = some ⟨[.int .i64 i1, .int .i64 g1, .bool false], 1, false, 1⟩ := by rw [hG116]; simp
      have n116 : G111.nx < G116.nx := by rw [hG116]; simp
      have hox4 := h4.cx.obj
      have hlx := h4.cx.lt
      have hox6 := (y116.obj _ hlx).trans hox4
      have lp := fun (τ : Env) (t0 : τ 0 = P0 B.xb) (t5 : τ 5 = .pointer (some ⟨cb, k * 10, none⟩)) (t6 : τ 6 = .int .u64 g) (t8 : τ 8 = P0 G111.nx) (t9 : τ 9 = .int .i64 0) (t10 : τ 10 = .int .i64 0) =>
        look_lp orc hrf (A := G116) (Nat.lt_of_lt_of_le hlx y116.nx) hox6 (hv := B.hv) rfl n116 p116 (h4.hq.is.ext y116) (fun w hw => by obtain ⟨i, g', a1, a2, a3, a4, a5⟩ := hI.hw w hw; exact ⟨i, g', a1, a2, by omega, a4, a5⟩) (fun w hw => by have := tz1 w hw; rw [hix] at this; exact this) (by
          have q1 := hI.ri.ln; have q2 := hI.ri.w0
          have q3 : 0 ≤ lO x.k := by unfold lO; omega
          have q4 : 0 ≤ wO x.k := by unfold wO; have := wc_nn (x.k 0); have := wc_nn (x.k 1); have := wc_nn (x.k 2); omega
          simp only [List.length_map] at q1
          show x.held.length ≤ 100000
          omega) (v5 := .pointer (some ⟨cb, k * 10, none⟩)) (v6 := .int .u64 g) (v9 := .int .i64 0) x.held.length 0 τ G116 (by simp) (Ext.refl _) t0 t5 t6 t8 t9 t10
      rw [he] at e72 hL2 hL3 s2 hst
      obtain ⟨X, hX⟩ : ∃ X : CA, X = { x with s := (p.step (arN n lim) x.s).2, k := upN x.k c .idle, clock := x.clock + 1, o := upN x.o c (-1), calls := L3, held := x.held ++ [g] } := ⟨_, rfl⟩
      have hXs : x.steps (arN n lim) c = X := by
        rw [hst, hX, hL3]
        simp only [if_true]
      rw [hXs]
      have hXc : X.clock = x.clock + 1 := by rw [hX]
      refine Wp.ref (f25 (exL_ok Q orc) _ _ G) ?_
      rcases (show c = 0 ∨ c = 1 ∨ c = 2 by omega) with rfl | rfl | rfl
      all_goals
        simp at hac
        simp [upN] at hoc
        rw [hac, hoc] at hG94
        simp [-Int.natCast_add, -overw_s, s25, hox, hoo, hof, crX, ho, hw, hcv, hk0, hkn, hk1, hkl, hfb, hab, nob, nfb, ← hGt, hox1, hof1, hoa1, hoo1, e36, hox2, hoa2, e72, hox3, hoo3, hoa3, hco3, k1, k2, k3, k4, k5, k6, k7, k8, k9, k10, k11, k12, k13, l1, l2, s1, s2, ← hG94, e111, hz, splice_put, splice_end, splice_succ, ← hG116]
        refine Wp.bE ((lp _ (by simp) (by simp) (by simp) (by simp) (by simp) (by simp)).mono ?_)
        rintro ⟨ex, τ, G119⟩ ⟨rfl, y119, t0, t5, t6, t8, t9⟩
        simp only at y119 t0 t5 t6 t8 t9
        have z119 := y116.trans y119
        have p119 := (y119.obj _ n116).trans p116
        have c119 := (z119.obj cb (Nat.lt_of_lt_of_le hcb3 m9.nx)).trans o94
        have x119 := (z119.obj _ hlx).trans hox4
        obtain ⟨G125, hG125⟩ : ∃ G125, G125 = G119.put cb ⟨rSp.flat L3, 10, op2, 1⟩ := ⟨_, rfl⟩
        obtain ⟨R, hR⟩ : ∃ R, R = G125.push ⟨[.int .u64 g], 1, false, 1⟩ := ⟨_, rfl⟩
        have nR : R.nx = G119.nx + 1 := by rw [hR, hG125]; rfl
        have n119 := z119.nx
        have l94 := Nat.lt_of_lt_of_le hcb3 m9.nx
        have mR : ModT [4] own3 G94 R := by rw [hR, hG125]; exact ModP.push (ModT.put (ModT.ext z119) (.inl (by rw [tcb]; decide)) _) _
        have oR : R.obj cb = some ⟨rSp.flat L3, 10, op2, 1⟩ := by rw [hR, hG125]; simp; omega
        have h5 := h4.recall mR (calls' := L3) ⟨by rw [rSp.flat_length], .inr ⟨cb, op2, by rw [hcv, ln3], Nat.zero_le _, by omega, oR⟩⟩
        have x125 : G125.obj B.xb = G119.obj B.xb := by rw [hG125]; simp [k10]
        rw [x119] at x125
        have xR := h5.cx.obj
        have pR : R.obj G111.nx = some ⟨[.int .i64 i1, .int .i64 g1, .bool false], 1, false, 1⟩ := by
          have q1 := x111.nx
          have q2 : ¬ G111.nx = cb := by omega
          have q3 := y119.nx
          have q4 : ¬ G111.nx = G125.nx := by have : G125.nx = G119.nx := by rw [hG125]; rfl
                                              omega
          rw [hR, hG125]
          simp [q2]
          rw [hG125] at q4
          simp at q4
          simp [q4]
          exact p119
        obtain ⟨hv', G132, e132, m132, w132⟩ := h5.hq.app_mod (ib := 8) (x := .slice (some ⟨G125.nx, 0, none⟩) 1 1) (M := [g]) (by decide) (by rw [hR]; exact SlR.one (rowsI .u64) G125 g) (by simp) (by
          have q1 := hI.ri.ln; have q2 := hI.ri.w0
          have q3 : 0 ≤ lO x.k := by unfold lO; omega
          have q4 : 0 ≤ wO x.k := by unfold wO; have := wc_nn (x.k 0); have := wc_nn (x.k 1); have := wc_nn (x.k 2); omega
          simp only [List.length_map] at q1
          show (2 * (x.held.length + 1) + 1000) * 8 ≤ 2 ^ 48
          omega)
        simp only [rowsI_sz] at e132
        rw [hR] at e132
        have kx : ¬ InB B.hv B.xb := fun q => by have q1 := h5.tq _ q; have q2 := h5.cx.tag; omega
        have kr : ¬ InB B.hv G111.nx := fun q => by
          have q1 := h4.hq.is.under _ q
          have q2 := x111.nx
          omega
        have x132 := (m132.obj B.xb h5.cx.lt kx).trans xR
        have p132 := (m132.obj G111.nx (by have := y119.nx; omega) kr).trans pR
        have one' := own_one w132
        have post : CrPost own G n lim B X (.bool true) (.bool true, (G132.put B.xb ⟨crX n lim X { B with hv := hv' }, 1, false, 1⟩).room 19) := by
          generalize hGf : (G132.put B.xb ⟨crX n lim X { B with hv := hv' }, 1, false, 1⟩).room 19 = Gf
          have mf : ModT [1, 3] own3 R Gf := by
            rw [← hGf]
            exact ModP.room (ModT.put (ModP.mono m132 fun g hg => by show own3 g ∈ [1, 3]; rw [h5.tq g hg]; decide) (.inl (by rw [h5.cx.tag]; decide)) _) _
          have h6 := h5.hold mf (hv' := hv') (held' := x.held ++ [g]) (by rw [← hGf, hX]; simp [crX]) ((w132.kept (by rw [← hGf]; simp) fun g hg => by
            have q1 := w132.from hg
            have q2 := h5.cx.lt
            rw [← hGf]
            simp
            intro e
            omega).mono (Nat.le_refl _))
          rw [hX]
          exact ⟨rfl, grown own3 R 3, { B with hv := hv' }, rfl, rfl, (ag3.trans (Agr.refl _ _) mm3.nx).trans grown_agr (Nat.le_trans (Nat.le_trans mm3.nx m9.nx) mR.nx), (mm4.trans ag3 (ModT.mono (us := crT) mR (by decide))).trans ag3 (ModT.mono (us := crT) mf (by decide)), h6⟩
        simp only [crX, hcv] at x125 x132 post
        have s3' := s3
        rw [hix] at s3'
        have hi8 : i1 < n := j1
        have krx : ¬ G111.nx = B.xb := by have := x111.nx; omega
        simp [-Int.natCast_add, -overw_s, t0, t5, t6, t8, t9, p119, c119, l3, s3', ← hG125, x125, e132, x132, p132, stO_one _ _ one', hi8, krx]
        simp [hXc, hcv] at post
        exact post
    · obtain ⟨hg0, her⟩ := tn he
      rw [hst]
      simp only [he, if_false]
      rw [← hL2]
      refine Wp.ref (f25 (exL_ok Q orc) _ _ G) ?_
      have post : CrPost own G n lim B { x with s := (p.step (arN n lim) x.s).2, k := upN x.k c .idle, clock := x.clock + 1, o := upN x.o c (-1), calls := L2, held := x.held } (.bool true) (.bool true, G94) := ⟨rfl, own3, B, rfl, rfl, ag3, mm4, h4⟩
      rcases (show c = 0 ∨ c = 1 ∨ c = 2 by omega) with rfl | rfl | rfl
      all_goals
        simp at hac
        simp [upN] at hoc
        rw [hac, hoc] at hG94
        simp [-Int.natCast_add, -overw_s, s25, hox, hoo, hof, crX, ho, hw, hcv, hk0, hkn, hk1, hkl, hfb, hab, nob, nfb, ← hGt, hox1, hof1, hoa1, hoo1, e36, hox2, hoa2, e72, hox3, hoo3, hoa3, hco3, k1, k2, k3, k4, k5, k6, k7, k8, k9, k10, k11, k12, k13, l1, l2, s1, s2, ← hG94, he, hg0]
        rcases her with rfl | rfl <;> simpa using post
  · have hov' : (p.step (arN n lim) x.s).1.over = false := by simpa using hov
    rw [hov'] at e36
    have hst : x.steps (arN n lim) c = { x with s := (p.step (arN n lim) x.s).2, k := upN x.k c (.al (p.step (arN n lim) x.s).1), clock := x.clock + 1 } := by
      unfold CA.steps; rw [hk]; simp only; rw [if_neg hov]
    rw [hst]
    refine ⟨(.bool true, G36), f25 (exL_ok Q orc) _ _ G _ ?_, rfl, own2, B, rfl, rfl, ag2, mm2, h2⟩
    rw [eX, hcv] at hGt hox1
    rcases (show c = 0 ∨ c = 1 ∨ c = 2 by omega) with rfl | rfl | rfl <;> simp [-Int.natCast_add, s25, hox, hoo, hof, crX, ho, hw, hcv, hk0, hkn, hk1, hkl, hfb, hab, nob, nfb, ← hGt, hox1, hof1, hoa1, hoo1, e36]
end
end Go.Proofs.Ytfmkihikmlcimaa.Lift

set_option linter.unusedVariables false
set_option linter.unusedSimpArgs false
set_option maxRecDepth 20000
namespace Go.Proofs.Ytfmkihikmlcimaa.Lift
open Go Go.Proofs.Ytfmkihikmlcimaa.Gh Go.Proofs
section
variable {own own' own1 : Nat → Nat} {G G' G1 G2 G3 : GS} {b d t c K : Nat} {n lim T : Int} {F : List Int} {ts : List Nat} {cs : List Value} {x y : CA} {B B' : CrB} {v : Value} {A : Ar} {y0 : CoS} {s' : MS}
theorem begins_J0 (orc : FuncId → Bool) (hx : Cel own G B.xb 1 (crX n lim x B)) (ho : Cel own G B.ob 16 [.int .i64 (x.o 0), .int .i64 (x.o 1), .int .i64 (x.o 2)]) (hc : OwR rSp 0 G B.cv x.calls) (tc : ∀ g, InB B.cv g → own g = 4) (hlen : x.calls.length ≤ 100000) {sb : Nat} (hsb : sb < G.nx) (tsb : own sb = 13) {a : Sp} (os : G.obj sb = some ⟨rSp.row a, 1, false, 1⟩) (hc3 : c < 3) (τ : Env) (t0 : τ 0 = P0 B.xb) (t1 : τ 1 = .int .i64 c) (t8 : τ 8 = P0 sb) :
    Wp (j24_0 true (exL Q orc) τ G) fun q => q.1 = .tuple #[] ∧ ∃ cv', ModT [1, 4, 16] own G q.2 ∧ OwR rSp G.nx q.2 cv' (x.calls ++ [a]) ∧ q.2.obj B.xb = some ⟨crX n lim x { B with cv := cv' }, 1, false, 1⟩ ∧ q.2.obj B.ob = some ⟨[.int .i64 (upN x.o c x.calls.length 0), .int .i64 (upN x.o c x.calls.length 1), .int .i64 (upN x.o c x.calls.length 2)], 1, false, 1⟩ := by
  obtain ⟨ca, cc, hcv⟩ := hc.is.len
  have lc : ∀ t, ln Q true t B.cv = some (.int .i64 x.calls.length) := fun t => by rw [hcv]; simp
  have n3 : ¬ B.xb = B.ob := hx.ne ho.tag (by decide)
  have n3' : ¬ B.ob = B.xb := fun e => n3 e.symm
  have n4 : ¬ sb = B.ob := fun e => by have := ho.tag; rw [← e, tsb] at this; cases this
  obtain ⟨o3, ho3⟩ : ∃ o3 : List Value, o3 = [.int .i64 (upN x.o c x.calls.length 0), .int .i64 (upN x.o c x.calls.length 1), .int .i64 (upN x.o c x.calls.length 2)] := ⟨_, rfl⟩
  rw [← ho3]
  obtain ⟨G26, hG26⟩ : ∃ G26, G26 = (G.room 12).put B.ob ⟨o3, 1, false, 1⟩ := ⟨_, rfl⟩
  have n26 : G26.nx = G.nx + 12 := by rw [hG26]; rfl
  obtain ⟨R, hR⟩ : ∃ R, R = G26.room 11 := ⟨_, rfl⟩
  have nR : R.nx = G.nx + 23 := by rw [hR]; simp [n26]
  obtain ⟨G32, hG32⟩ : ∃ G32, G32 = ((R.at' (G26.nx + 6)).push ⟨rSp.row a, 10, false, 1⟩).back R := ⟨_, rfl⟩
  have n32 : G32.nx = R.nx := by rw [hG32]; rfl
  have sl : SlR rSp G32 (.slice (some ⟨G26.nx + 6, 0, none⟩) 1 1) [a] := by rw [hG32]; exact SlR.oneD rSp R a (n := G26.nx + 6) (by omega)
  have m26 : ModT [1, 4, 16] own G G26 := by rw [hG26]; exact ModT.put (ModP.room (ModT.refl _ _ _) 12) (.inl (by rw [ho.tag]; decide)) _
  have m32 : ModT [1, 4, 16] own G G32 := by rw [hG32, hR]; exact ModP.drawn (ModP.room m26 11) (by omega) _
  have o32 : ∀ g, g < G.nx → g ≠ B.ob → G32.obj g = G.obj g := fun g hg hn => by
    have : ¬ g = G26.nx + 6 := by omega
    rw [hG32, hR]
    simp [this]
    rw [hG26]
    simp [hn]
  have kc : ∀ g, InB B.cv g → g < G.nx ∧ g ≠ B.ob := fun g hg => ⟨hc.is.under g hg, fun e => by have h1 := tc g hg; have h2 := ho.tag; rw [e] at h1; omega⟩
  have hc32 : OwR rSp 0 G32 B.cv x.calls := hc.kept m32.nx fun g hg => o32 g (kc g hg).1 (kc g hg).2
  obtain ⟨cv', G33, e33, m33, w33⟩ := hc32.app_mod (ib := 80) (by decide) sl (by simp) (by simp; omega)
  have hcm : ModT [1, 4, 16] own G G33 := ModP.trans m32 (ModP.mono m33 fun g hg => .inl (show own g ∈ [1, 4, 16] by rw [tc g hg]; decide))
  have kx : ¬ InB B.cv B.xb := fun h => by have h1 := tc _ h; have h2 := hx.tag; omega
  have ko : ¬ InB B.cv B.ob := fun h => (kc _ h).2 rfl
  have x32 := (o32 _ hx.lt n3).trans hx.obj
  have x33 := (m33.obj B.xb (by have := hx.lt; omega) kx).trans x32
  have ob32 : G32.obj B.ob = some ⟨o3, 1, false, 1⟩ := by
    have : ¬ B.ob = G26.nx + 6 := by have := ho.lt; omega
    rw [hG32, hR]
    simp [this]
    rw [hG26]
    simp
  have ob33 := (m33.obj B.ob (by have := ho.lt; omega) ko).trans ob32
  have hz : z47 = [.int .i64 0, .int .i64 0, .int .i64 0, .int .i64 0, .int .i64 0, .int .i64 0, .int .u64 0, .int .i64 0, .int .i64 0, .int .u64 0] := rfl
  have xR : G26.obj B.xb = some ⟨crX n lim x B, 1, false, 1⟩ := by rw [hG26]; simp [n3, hx.obj]
  have sR : G26.obj sb = some ⟨rSp.row a, 1, false, 1⟩ := by rw [hG26]; simp [n4]; simpa using os
  have one' := own_one w33
  have fin : ModT [1, 4, 16] own G (G33.put B.xb ⟨crX n lim x { B with cv := cv' }, 1, false, 1⟩) ∧ OwR rSp G.nx (G33.put B.xb ⟨crX n lim x { B with cv := cv' }, 1, false, 1⟩) cv' (x.calls ++ [a]) ∧ (G33.put B.xb ⟨crX n lim x { B with cv := cv' }, 1, false, 1⟩).obj B.xb = some ⟨crX n lim x { B with cv := cv' }, 1, false, 1⟩ ∧ (G33.put B.xb ⟨crX n lim x { B with cv := cv' }, 1, false, 1⟩).obj B.ob = some ⟨o3, 1, false, 1⟩ := by
    refine ⟨ModT.put hcm (.inl (by rw [hx.tag]; decide)) _, (w33.kept (by simp) fun g hg => ?_).mono (by omega), by simp, by simp [n3', ob33]⟩
    have h1 := w33.from hg
    have h2 := hx.lt
    rw [obj_put, if_neg (by omega)]
  refine Wp.mono (Q := fun q => q = (.tuple #[], G33.put B.xb ⟨crX n lim x { B with cv := cv' }, 1, false, 1⟩)) ?_ (fun q hq => by subst hq; exact ⟨rfl, cv', fin⟩)
  clear fin
  simp only [rSp_sz] at e33
  rw [hG32] at e33
  simp only [crX] at x33 xR ⊢
  have hxo := hx.obj
  simp only [crX] at hxo
  simp only [rSp_row] at sR e33
  have hoo := ho.obj
  rcases (show c = 0 ∨ c = 1 ∨ c = 2 by omega) with rfl | rfl | rfl
  all_goals
    simp [upN] at ho3
    simp [j24_0, jb24_0, t0, t1, t8, hxo, hoo, lc, ← ho3, ← hG26]
    simp [← hR, xR, sR, hz, e33, x33, stO_one _ _ one']
theorem CrG.laid (orc : FuncId → Bool) (h : CrG own G n lim x B) (hlen : x.calls.length ≤ 100000) {sb : Nat} (hsb : sb < G.nx) (tsb : own sb = 13) {a : Sp} (os : G.obj sb = some ⟨rSp.row a, 1, false, 1⟩) (hc3 : c < 3) (τ : Env) (t0 : τ 0 = P0 B.xb) (t1 : τ 1 = .int .i64 c) (t8 : τ 8 = P0 sb) :
    Wp (j24_0 true (exL Q orc) τ G) fun q => q.1 = .tuple #[] ∧ ModT [1, 4, 16] own G q.2 ∧ ∃ cv', CrG (grown own G 4) q.2 n lim { x with o := upN x.o c x.calls.length, calls := x.calls ++ [a] } { B with cv := cv' } := by
  refine Wp.mono (begins_J0 orc h.cx h.co h.hc h.tc hlen hsb tsb os hc3 τ t0 t1 t8) ?_
  rintro ⟨r, H⟩ ⟨rfl, cv', m, w, ox, oo⟩
  simp only at m w ox oo
  have ag : Agr own (grown own G 4) G := grown_agr
  have nx := m.nx
  have hlt := h.cx.lt
  exact ⟨rfl, m, cv', ⟨⟨Nat.lt_of_lt_of_le hlt nx, (ag _ hlt).trans h.cx.tag, ox⟩, h.ca.to m (by decide) ag, h.cf.to m (by decide) ag, h.ck.to m (by decide) ag, ⟨Nat.lt_of_lt_of_le h.co.lt nx, (ag _ h.co.lt).trans h.co.tag, oo⟩, h.hm.mt m (by decide) ag, OwR.to h.hq h.tq m (by decide), fun g hg => (ag g (h.hq.is.under g hg)).trans (h.tq g hg), w.mono (Nat.zero_le _), fun g hg => grown_new (w.from hg), fun j hj => (h.cr j hj).to m (by simp; omega) ag⟩⟩
theorem CrG.startA (h : CrG own G n lim x B) (hc : c < 3) (hk : x.k c = .idle) {p : AlS} (e : Ext G G2) (a : Agr own own1 G) (tw : Two own1 G2 b d (5 + c)) (r : AlR (arN n lim) G2 b d p) (hab : own1 B.ab = 2) (hG3 : G3 = G2.put B.ab ⟨[if 0 = c then P0 b else pA B x 0, if 1 = c then P0 b else pA B x 1, if 2 = c then P0 b else pA B x 2], 1, false, 1⟩) :
    CrG own1 G3 n lim { x with k := upN x.k c (.al p) } { B with b := upN B.b c b, d := upN B.d c d } ∧ ModT [2] own G G3 := by
  have m : ModT [2] own G G3 := by rw [hG3]; exact ModT.put (ModT.ext e) (.inl (by rw [h.ca.tag]; decide)) _
  have nx := m.nx
  have pa : ∀ j, pA { B with b := upN B.b c b, d := upN B.d c d } { x with k := upN x.k c (.al p) } j = if j = c then P0 b else pA B x j := fun j => by
    unfold pA; by_cases q : j = c <;> simp [upN, q]
  have pf : ∀ j, pF { B with b := upN B.b c b, d := upN B.d c d } { x with k := upN x.k c (.al p) } j = pF B x j := fun j => by
    unfold pF; by_cases q : j = c <;> simp [upN, q, hk]
  refine ⟨⟨h.cx.to m (by decide) a, ⟨Nat.lt_of_lt_of_le h.ca.lt nx, hab, by rw [pa, pa, pa]; rw [hG3]; simp⟩, by rw [pf, pf, pf]; exact h.cf.to m (by decide) a, h.ck.to m (by decide) a, h.co.to m (by decide) a, h.hm.mt m (by decide) a, OwR.to h.hq h.tq m (by decide), fun g hg => (a g (h.hq.is.under g hg)).trans (h.tq g hg), OwR.to h.hc h.tc m (by decide), fun g hg => (a g (h.hc.is.under g hg)).trans (h.tc g hg), fun j hj => ?_⟩, m⟩
  show CoG own1 G3 _ (upN B.b c b j) (upN B.d c d j) _ (upN x.k c _ j)
  by_cases q : j = c
  · rw [q, upN_same, upN_same, upN_same]
    have q1 : b ≠ B.ab := fun e => by have := tw.tb; rw [e, hab] at this; omega
    have q2 : d ≠ B.ab := fun e => by have := tw.td; rw [e, hab] at this; omega
    exact ⟨tw.to (by rw [hG3]; simp) (Agr.refl _ _), r.kept (by rw [hG3, obj_put, if_neg q1]) (by rw [hG3, obj_put, if_neg q2])⟩
  · rw [upN_ne _ _ q, upN_ne _ _ q, upN_ne _ _ q]
    exact (h.cr j hj).to m (by simp; omega) a
theorem CrG.startF (h : CrG own G n lim x B) (hc : c < 3) (hk : x.k c = .idle) {p : FeS} (e : Ext G G2) (a : Agr own own1 G) (tw : Two own1 G2 b d (5 + c)) (r : FeR (arN n lim) G2 b d p) (hab : own1 B.fb = 14) (hG3 : G3 = G2.put B.fb ⟨[if 0 = c then P0 b else pF B x 0, if 1 = c then P0 b else pF B x 1, if 2 = c then P0 b else pF B x 2], 1, false, 1⟩) :
    CrG own1 G3 n lim { x with k := upN x.k c (.fe p) } { B with b := upN B.b c b, d := upN B.d c d } ∧ ModT [14] own G G3 := by
  have m : ModT [14] own G G3 := by rw [hG3]; exact ModT.put (ModT.ext e) (.inl (by rw [h.cf.tag]; decide)) _
  have nx := m.nx
  have pf : ∀ j, pF { B with b := upN B.b c b, d := upN B.d c d } { x with k := upN x.k c (.fe p) } j = if j = c then P0 b else pF B x j := fun j => by
    unfold pF; by_cases q : j = c <;> simp [upN, q]
  have pa : ∀ j, pA { B with b := upN B.b c b, d := upN B.d c d } { x with k := upN x.k c (.fe p) } j = pA B x j := fun j => by
    unfold pA; by_cases q : j = c <;> simp [upN, q, hk]
  refine ⟨⟨h.cx.to m (by decide) a, by rw [pa, pa, pa]; exact h.ca.to m (by decide) a, ⟨Nat.lt_of_lt_of_le h.cf.lt nx, hab, by rw [pf, pf, pf]; rw [hG3]; simp⟩, h.ck.to m (by decide) a, h.co.to m (by decide) a, h.hm.mt m (by decide) a, OwR.to h.hq h.tq m (by decide), fun g hg => (a g (h.hq.is.under g hg)).trans (h.tq g hg), OwR.to h.hc h.tc m (by decide), fun g hg => (a g (h.hc.is.under g hg)).trans (h.tc g hg), fun j hj => ?_⟩, m⟩
  show CoG own1 G3 _ (upN B.b c b j) (upN B.d c d j) _ (upN x.k c _ j)
  by_cases q : j = c
  · rw [q, upN_same, upN_same, upN_same]
    have q1 : b ≠ B.fb := fun e => by have := tw.tb; rw [e, hab] at this; omega
    have q2 : d ≠ B.fb := fun e => by have := tw.td; rw [e, hab] at this; omega
    exact ⟨tw.to (by rw [hG3]; simp) (Agr.refl _ _), r.kept (by rw [hG3, obj_put, if_neg q1]) (by rw [hG3, obj_put, if_neg q2])⟩
  · rw [upN_ne _ _ q, upN_ne _ _ q, upN_ne _ _ q]
    exact (h.cr j hj).to m (by simp; omega) a
end
end Go.Proofs.Ytfmkihikmlcimaa.Lift

set_option linter.unusedVariables false
set_option linter.unusedSimpArgs false
set_option maxRecDepth 20000
namespace Go.Proofs.Ytfmkihikmlcimaa.Lift
open Go Go.Proofs.Ytfmkihikmlcimaa.Gh Go.Proofs
section
variable {own own' own1 : Nat → Nat} {G G' G1 G2 G3 : GS} {b d t c K : Nat} {n lim T : Int} {F : List Int} {ts : List Nat} {cs : List Value} {x y : CA} {B B' : CrB} {v : Value} {A : Ar} {y0 : CoS} {s' : MS}
theorem begins_al (orc : FuncId → Bool) (h : CrG own G n lim x B) (hI : InvA n lim K x F T) (hK : K ≤ 100000) (hc : c < 3) (hk : x.k c = .idle) (v3 : Value) : Wp ((E orc).cl 24 [P0 B.xb, .int .i64 c, .bool false, v3] G) (CrPost own G n lim B (x.beginA c) (.tuple #[])) := by
  have hck := hI.ck
  have hcl := hI.cl
  have hw : IntKind.wrap .i64 (x.clock + 1) = x.clock + 1 := wrap64 (by omega) (by omega)
  obtain ⟨cca, ccc, hcv⟩ := h.hc.is.len
  have lc : ∀ t, ln Q true t B.cv = some (.int .i64 x.calls.length) := fun t => by rw [hcv]; simp
  obtain ⟨R, hR⟩ : ∃ R, R = (G.put B.xb ⟨crX n lim { x with clock := x.clock + 1 } B, 1, false, 1⟩).room 13 := ⟨_, rfl⟩
  obtain ⟨h1, m1, n1⟩ := h.tick 13 hR
  obtain ⟨a, ha⟩ : ∃ a : Sp, a = ⟨x.calls.length, x.clock + 1, -1, (7, 0, 0, 0), (0, 0, 0)⟩ := ⟨_, rfl⟩
  have hz : z47 = [.int .i64 0, .int .i64 0, .int .i64 0, .int .i64 0, .int .i64 0, .int .i64 0, .int .u64 0, .int .i64 0, .int .i64 0, .int .u64 0] := rfl
  have hz5 : z45 = [.int .i64 0, .int .i64 0, .int .i64 0, .int .u64 0] := rfl
  obtain ⟨G18, hG18⟩ : ∃ G18, G18 = (((R.at' (G.nx + 11)).push ⟨z47, 1, false, 1⟩).back R).put (G.nx + 11) ⟨rSp.row a, 1, false, 1⟩ := ⟨_, rfl⟩
  have n18 : G18.nx = R.nx := by rw [hG18]; rfl
  have x18 : ∀ g, g < G.nx → G18.obj g = R.obj g := fun g hg => by
    rw [hG18, obj_put, if_neg (by omega), obj_back, obj_push, nx_at, if_neg (by omega), obj_at]
  have s18 : G18.obj (G.nx + 11) = some ⟨rSp.row a, 1, false, 1⟩ := by rw [hG18]; simp
  have t11 : grown own G 13 (G.nx + 11) = 13 := grown_new (by omega)
  have m18 : ModT [13] (grown own G 13) R G18 := by
    refine ⟨by rw [n18]; exact Nat.le_refl _, fun g hg hn => ?_, by rw [hG18]; exact Nat.le_refl _, fun l hl => by rw [hG18]; simp⟩
    by_cases e : g = G.nx + 11
    · exact absurd (show grown own G 13 g ∈ [13] by rw [e, t11]; decide) hn
    · rw [hG18, obj_put, if_neg e, obj_back, obj_push, nx_at, if_neg e, obj_at]
  have mm18 : ModT [1] own G G18 := ⟨by rw [n18]; exact m1.nx, fun g hg hn => (x18 g hg).trans (m1.obj g hg hn), by rw [hG18]; exact m1.nl, fun l hl => by rw [hG18]; simp; exact m1.loop l hl⟩
  have h18 := h1.to m18 (Agr.refl _ _) (by decide)
  obtain ⟨b, d, G108, e108, x108, b0, b1, d0, d1, bd, r⟩ := newalloc_ok orc (arN n lim) (G18.room 12)
  have b0' : G18.nx ≤ b := Nat.le_trans (Nat.le_add_right _ _) b0
  have d0' : G18.nx ≤ d := Nat.le_trans (Nat.le_add_right _ _) d0
  have y108 : Ext G18 G108 := ((Ext.refl G18).room 12).trans x108
  have ag : Agr (grown own G 13) (grown (grown own G 13) G18 (5 + c)) G18 := grown_agr
  have tw : Two (grown (grown own G 13) G18 (5 + c)) G108 b d (5 + c) := ⟨b1, d1, grown_new b0', grown_new d0', bd⟩
  have k18 := h18.ca.lt
  obtain ⟨G3, hG3⟩ : ∃ G3, G3 = G108.put B.ab ⟨[if 0 = c then P0 b else pA B x 0, if 1 = c then P0 b else pA B x 1, if 2 = c then P0 b else pA B x 2], 1, false, 1⟩ := ⟨_, rfl⟩
  obtain ⟨h3, m3⟩ := h18.startA hc hk y108 ag tw r ((ag _ k18).trans h18.ca.tag) hG3
  have s3 : G3.obj (G.nx + 11) = some ⟨rSp.row a, 1, false, 1⟩ := by
    rw [hG3, obj_put, if_neg (fun e => by have := h.ca.lt; omega), y108.obj _ (by omega), s18]
  have l3 := fun (τ : Env) t0 t1 t8 => h3.laid orc (show x.calls.length ≤ 100000 by omega) (sb := G.nx + 11) (by have := m3.nx; omega) ((ag _ (by omega)).trans t11) s3 hc τ t0 t1 t8
  refine Wp.ref (f24 (exL_ok Q orc) _ _ _ _ G) ?_
  have post : ∀ τ : Env, τ 0 = P0 B.xb → τ 1 = .int .i64 c → τ 8 = P0 (G.nx + 11) → Wp (j24_0 true (exL Q orc) τ G3) (CrPost own G n lim B (x.beginA c) (.tuple #[])) := fun τ t0 t1 t8 => by
    refine Wp.mono (l3 τ t0 t1 t8) ?_
    rintro ⟨rv, H⟩ ⟨rfl, mH, cv', hH⟩
    have ag2 : Agr own (grown (grown own G 13) G18 (5 + c)) G := grown_agr.trans ag mm18.nx
    exact ⟨rfl, _, { B with b := upN B.b c b, d := upN B.d c d, cv := cv' }, rfl, rfl, ag2.trans grown_agr (Nat.le_trans mm18.nx m3.nx), ((ModT.mono (us := crT) mm18 (by decide)).trans grown_agr (ModT.mono (us := crT) m3 (by decide))).trans ag2 (ModT.mono (us := crT) mH (by decide)), by simpa [CA.beginA, ha] using hH⟩
  have hox := h.cx.obj
  have hoo := h.co.obj
  have hA : (arN n lim).v = .agg #[.int .i64 0, .int .i64 1, .int .i64 n, .int .i64 (1 + n), .int .i64 (1 + 2 * n), .int .i64 lim] := rfl
  rw [hA] at e108
  have hox1 := h18.cx.obj
  have hoa1 := h18.ca.obj
  have hox2 := (y108.obj B.xb h18.cx.lt).trans hox1
  have hoa2 := (y108.obj B.ab k18).trans hoa1
  simp only [crX] at hox hox1 hR hox2
  simp only [hz, rSp_row, ha] at hG18
  have pa : ∀ j, pA B { x with clock := x.clock + 1 } j = pA B x j := fun _ => rfl
  simp only [pa] at hoa2
  clear s18 t11 m18 mm18 h18 l3 h1 m1 h3 m3 s3
  rcases (show c = 0 ∨ c = 1 ∨ c = 2 by omega) with rfl | rfl | rfl
  all_goals
    simp at hG3
    simp [s24, sb24, hox, hw, ← hR, lc, hz5, hz, ← hG18, hox1, e108, hox2, hoa2, ← hG3]
    refine post _ (by simp [clip_t]) (by simp [clip_t]) (by simp [clip_t])
end
end Go.Proofs.Ytfmkihikmlcimaa.Lift

