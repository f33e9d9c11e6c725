/- contracts of the program's functions -/
import Derived.Test.YtocbppgkgcoehaaKB
set_option linter.unusedVariables false
set_option linter.unusedSimpArgs false
set_option maxRecDepth 20000
namespace Go.Proofs.Ytocbppgkgcoehaa.Lift
open Go Go.Proofs.Ytocbppgkgcoehaa.Gh Go.Proofs
section
variable {own own' own1 : Nat → Nat} {G G' G1 : GS} {b t n c : Nat} {ts : List Nat} {cs : List Value} {x y : CS} {B B' : CrB} {v : Value}
theorem thr_tag {P : (Nat → Prop) → GS → Prop} {t : Nat} (h : Thr P (Tag own G t) b G G') (hb : own b = c) : ModT [t, c] own G G' :=
  ⟨h.mod.nx, fun g hg hn => h.mod.obj g hg fun k => hn (k.elim (fun k => by rw [k.2]; simp) fun k => by rw [k, hb]; simp), h.mod.nl, h.mod.loop⟩
/-- a push's step in the heap: memory and operation -/
theorem CrG.stepped (h : CrG own G n x B) (hc : c < 2) (ho : 0 ≤ x.o c) {b : Nat} (hb : B.pv c = P0 b) (hbo : own b = 5 + c) (hpo : (x.p c).ok) (th : Thr (fun A G => PMx A G B.m ((x.p c).step x.s).2) (Tag own G 10) b G G') (hp : PuR G' b ((x.p c).step x.s).1) :
    CrG (grown own G 10) G' n (x.pushed1 c) B ∧ ModT [10, 5 + c] own G G' := by
  have m := thr_tag th hbo
  have ag : Agr own (grown own G 10) G := grown_agr
  have no : ∀ {t}, t ∉ [10, 5, 6] → t ∉ [10, 5 + c] := fun h1 h2 => h1 (by rcases (show c = 0 ∨ c = 1 by omega) with rfl | rfl <;> simp_all)
  have nx := m.nx
  refine ⟨⟨h.cx.to m (no (by decide)) ag, h.cp.to m (no (by decide)) ag, h.cw.to m (no (by decide)) ag, h.ch.to m (no (by decide)) ag, h.co.to m (no (by decide)) ag, (sepP _ _).step m.nx th.st, (hpo.step h.so).2, OwR.to h.hq h.tq m (no (by decide)), fun g hg => (ag g (h.hq.is.under g hg)).trans (h.tq g hg), OwR.to h.hc h.tc m (no (by decide)), fun g hg => (ag g (h.hc.is.under g hg)).trans (h.tc g hg), fun j hj hoj => ?_, fun hf => ?_, fun hn => ?_, h.ones⟩, m⟩
  · obtain ⟨b', h1, h2, h3, h4, h5⟩ := h.p j hj hoj
    by_cases e : j = c
    · subst e
      rw [hb] at h1
      obtain rfl : b = b' := by simpa [P0] using h1
      exact ⟨b, hb, Nat.lt_of_lt_of_le h2 nx, (ag b h2).trans h3, by simpa [CS.pushed1, upN_same] using hp, by simpa [CS.pushed1, upN_same] using (h5.step h.so).1⟩
    · have : own b' ∉ [10, 5 + c] := by rw [h3]; simp; omega
      refine ⟨b', h1, Nat.lt_of_lt_of_le h2 nx, (ag b' h2).trans h3, ?_, ?_⟩
      · simp only [CS.pushed1, upN_ne _ _ e]
        exact h4.kept (m.same h2 this)
      · simpa only [CS.pushed1, upN_ne _ _ e] using h5
  · obtain ⟨b', h1, h2, h3, h4, h5⟩ := h.f hf
    exact ⟨b', h1, Nat.lt_of_lt_of_le h2 nx, (ag b' h2).trans h3, h4.kept (m.same h2 (by rw [h3]; exact no (by decide))), h5⟩
  · obtain ⟨b', h1, h2, h3, h4, h5⟩ := h.d hn
    exact ⟨b', h1, Nat.lt_of_lt_of_le h2 nx, (ag b' h2).trans h3, h4.kept (m.same h2 (by rw [h3]; exact no (by decide))), h5⟩
/-- a new queue -/
theorem CrG.queued (h : CrG own G n x B) (e : Ext G G') {v : Value} {q' : List Int} (hq : OwR (rowsI .i64) G.nx G' v q') :
    CrG (grown own G 3) (G'.put B.xb ⟨crX n { x with q := q' } { B with qv := v }, 1, false, 1⟩) n { x with q := q' } { B with qv := v } ∧ ModT [1] own G (G'.put B.xb ⟨crX n { x with q := q' } { B with qv := v }, 1, false, 1⟩) := by
  have m : ModT [1] own G (G'.put B.xb ⟨crX n { x with q := q' } { B with qv := v }, 1, false, 1⟩) := ModT.put (ModT.ext e) (.inl (by rw [h.cx.tag]; decide)) _
  have ag : Agr own (grown own G 3) G := grown_agr
  have nx := m.nx
  have hqn : ∀ g, InB v g → ¬ g = B.xb := fun g hg => by have := hq.from hg; have := h.cx.lt; omega
  refine ⟨⟨⟨Nat.lt_of_lt_of_le h.cx.lt nx, (ag _ h.cx.lt).trans h.cx.tag, by simp⟩, h.cp.to m (by decide) ag, h.cw.to m (by decide) ag, h.ch.to m (by decide) ag, h.co.to m (by decide) ag, (sepP _ _).tag h.hm m (by decide) ag, h.so, (hq.kept (by simp) fun g hg => by rw [obj_put, if_neg (hqn g hg)]).mono (Nat.zero_le _), fun g hg => grown_new (hq.from hg), OwR.to h.hc h.tc m (by decide), fun g hg => (ag g (h.hc.is.under g hg)).trans (h.tc g hg), fun c hc ho => ?_, fun hf => ?_, fun hn => ?_, h.ones⟩, m⟩
  · obtain ⟨b, h1, h2, h3, h4, h5⟩ := h.p c hc ho
    have : own b ∉ [1] := by rw [h3]; rcases (show c = 0 ∨ c = 1 by omega) with rfl | rfl <;> decide
    exact ⟨b, h1, Nat.lt_of_lt_of_le h2 nx, (ag b h2).trans h3, h4.kept (m.same h2 this), h5⟩
  · obtain ⟨b, h1, h2, h3, h4, h5⟩ := h.f hf
    exact ⟨b, h1, Nat.lt_of_lt_of_le h2 nx, (ag b h2).trans h3, h4.kept (m.same h2 (by rw [h3]; decide)), h5⟩
  · obtain ⟨b, h1, h2, h3, h4, h5⟩ := h.d hn
    exact ⟨b, h1, Nat.lt_of_lt_of_le h2 nx, (ag b h2).trans h3, h4.kept (m.same h2 (by rw [h3]; decide)), h5⟩
theorem copyi_ok (orc : FuncId → Bool) {A : List Int} {v0 : Value} {G : GS} (hA : SlR (rowsI .i64) G v0 A) (hlt : A.length < 2 ^ 36) :
    ∃ v' G', (E orc).cl 104 [v0] G = some (v', G') ∧ Ext G G' ∧ OwR (rowsI .i64) G.nx G' v' A := by
  obtain ⟨v', G', h1, h2, h3⟩ := OwR.app (A := G) (ib := 8) (OwR.made (rowsI .i64) G) (by decide) ((Ext.refl G).push _) (hA.ext ((Ext.refl G).push _)) (by simp; omega)
  refine ⟨v', G', f104 (exL_ok Q orc) _ G _ ?_, h2, by simpa using h3⟩
  simp only [rowsI_sz, rowsI_row] at h1
  simp [s104, rep, fillS, fillC, h1]
theorem ext_drawn {A G : GS} (h : Ext A G) {n : Nat} (hn : A.nx ≤ n) (o : GObj) : Ext A (((G.at' n).push o).back G) := ((h.modP fun _ => False).drawn hn o).ext
set_option maxHeartbeats 2000000 in
theorem pushes_in (orc : FuncId → Bool) (h : CrG own G n x B) (hc : c < 2) (hf : Fit3 n x c) :
    Wp ((E orc).cl 93 [P0 B.xb, .int .i64 c] G) (CrPost own G n B (x.pushes n c).1 (.bool (x.pushes n c).2)) := by
  refine Wp.ref (f93 (exL_ok Q orc) _ _ G) ?_
  obtain ⟨k, ho, hk⟩ := hf.o
  obtain ⟨b, b1, b2, b3, b4, b5⟩ := h.p c hc (by omega)
  have x0 := (Ext.refl G).room 13
  have h0 := h.ext x0
  have ag0 : Agr own (grown own G 13) G := grown_agr
  have cx0 := h0.cx.obj
  have cp0 := h0.cp.obj
  have b3' : grown own G 13 b = 5 + c := (ag0 b b2).trans b3
  obtain ⟨⟨r, G8⟩, e8, rfl, th, hp8⟩ := push_ok orc h0.hm h0.so b5 (fun k => by have := k.2; omega) (Nat.lt_of_lt_of_le b2 x0.nx) (b4.kept (x0.obj b b2))
  simp only at th hp8
  obtain ⟨h8, m8⟩ := h0.stepped hc (by omega) b1 b3' b5 th hp8
  have cx8 := h8.cx.obj
  -- the last access
  obtain ⟨bb, rest, hm8⟩ := h8.hm
  obtain ⟨G14, e14, x14⟩ := last_ok orc hm8
  obtain ⟨G17, hG17⟩ : ∃ G17, G17 = (G14.push ⟨z95, 1, false, 1⟩).put G14.nx ⟨accV (x.pushed1 c).s, 1, false, 1⟩ := ⟨_, rfl⟩
  have x17 : Ext G8 G17 := by rw [hG17]; exact (x14.push _).put x14.nx _
  have oa : G17.obj G14.nx = some ⟨accV (x.pushed1 c).s, 1, false, 1⟩ := by rw [hG17]; simp
  have na : G14.nx < G17.nx := by rw [hG17]; simp
  have h17 := h8.ext x17
  obtain ⟨G20, e20, x20⟩ := slot_ok orc h17
  -- behind: what was before
  have ag8 : Agr own (grown (grown own G 13) (G.room 13) 10) G := ag0.trans grown_agr x0.nx
  have mod8 : ModT crT own G G8 := (ModT.ext x0).trans ag0 (m8.mono (by intro t ht; rcases (show c = 0 ∨ c = 1 by omega) with rfl | rfl <;> revert t <;> decide))
  have hf1 : Fit3 n (x.pushed1 c) c := ⟨hf.o, hf.clk, hf.q, hf.n6⟩
  have hres : ∀ y : CS, (¬ (((x.pushed1 c).s.kind = 3 ∧ (x.pushed1 c).s.held = true ∧ slotI (x.pushed1 c).s = true) ∧ n ≤ (x.pushed1 c).q.length)) → (x.pushed1 c).pushed2 c = y → x.pushes n c = y.rest n c := by
    intro y h1 h2
    unfold CS.pushes CS.rest
    simp only
    rw [if_neg h1, h2]
  -- nothing was laid
  have no : ∀ (τ : Env) (G3 : GS), Ext G8 G3 → G14.nx < G3.nx → G3.obj G14.nx = some ⟨accV (x.pushed1 c).s, 1, false, 1⟩ → τ 0 = P0 B.xb → τ 1 = .int .i64 c → τ 5 = .bool ((x.p c).step x.s).1.over → τ 6 = P0 G14.nx → ¬ ((x.pushed1 c).s.kind = 3 ∧ (x.pushed1 c).s.held = true ∧ slotI (x.pushed1 c).s = true) →
      Wp (j93_1 true (exL Q orc) τ G3) (CrPost own G n B (x.pushes n c).1 (.bool (x.pushes n c).2)) := by
    intro τ G3 y3 hn o3 s0 s1 s5 s6 hl
    rw [hres (x.pushed1 c) (fun h => hl h.1) (by unfold CS.pushed2; rw [if_neg hl])]
    refine (push_J1 orc (h8.ext y3) hc hf1 hn o3 τ s0 s1 (by rw [s5]; simp [CS.pushed1, upN_same]) s6).mono fun q hq => hq.pre (ag8.trans grown_agr mod8.nx) (mod8.trans ag8 (ModT.ext y3)) rfl
  have j0 : ∀ {a : Value}, B.pv c = a → B.pv c = a := fun h => h
  have hfull : ((x.pushed1 c).s.kind = 3 ∧ (x.pushed1 c).s.held = true ∧ slotI (x.pushed1 c).s = true) → n ≤ x.q.length → x.pushes n c = (x.pushed1 c, false) := by
    intro h1 h2
    unfold CS.pushes
    simp only
    rw [if_pos ⟨h1, h2⟩]
  have hov : (x.pushed1 c).p c = ((x.p c).step x.s).1 := by simp [CS.pushed1, upN_same]
  have hq1 : (x.pushed1 c).q = x.q := rfl
  have hv1 : (x.pushed1 c).v = x.v := rfl
  have he1 : (x.pushed1 c).e = x.e := rfl
  generalize hX1 : x.pushed1 c = x1 at *
  by_cases k1 : x1.s.kind = 3
  · by_cases k2 : x1.s.held = true
    · by_cases k3 : slotI x1.s = true
      · rw [k3] at e20
        have y20 := x17.trans x20
        have h20 := (h8.ext y20)
        have r29 := ((Ext.refl G20).room 11)
        have cx20 := h20.cx.obj
        obtain ⟨qa, qc, hq⟩ := h20.hq.is.len
        have lq : ∀ t, ln Q true t B.qv = some (.int .i64 x1.q.length) := fun t => by rw [hq]; simp
        by_cases k4 : n ≤ x.q.length
        · rw [hfull ⟨k1, k2, k3⟩ k4]
          have k4' : (n : Int) ≤ x1.q.length := by rw [hq1]; omega
          have k4'' : n ≤ x1.q.length := by rw [hq1]; omega
          have fin : CrPost own G n B x1 (.bool false) (.bool false, G20.room 11) := ⟨rfl, _, B, rfl, ag8.trans (grown_agr (G := G8)) mod8.nx, mod8.trans ag8 (ModT.ext (y20.room 11)), h8.ext (y20.room 11)⟩
          rcases (show c = 0 ∨ c = 1 by omega) with rfl | rfl
          all_goals
            simp [s93, sb93, cx0, crX, cp0, b1]
            simp [e8, cx8, crX, e14, ← hG17, oa, k1, k2]
            simp [e20, cx20, crX, lq, k4', k4'']
            simpa using fin
        · have k4' : ¬ (n : Int) ≤ x1.q.length := by rw [hq1]; omega
          have k4'' : ¬ n ≤ x1.q.length := by rw [hq1]; omega
          -- the queue is copied, and laid behind
          have x101 := ((Ext.refl G20).room 11).room 18
          obtain ⟨u, G101, e101, y101, w101⟩ := copyi_ok orc (h20.hq.is.ext x101) (by rw [hq1]; have := hf.q; omega)
          have z101 := x101.trans y101
          have h101 := h20.to (ts := []) (ModT.ext z101) (grown_agr (t := 13)) (by simp)
          have cx101 := h101.cx.obj
          have cw101 := h101.cw.obj
          have cw20 := h20.cw.obj
          have n101 := y101.nx
          simp at n101
          obtain ⟨G109, hG109⟩ : ∃ G109, G109 = ((G101.at' (G20.nx + 24)).push ⟨[.int .i64 (x1.v c)], 1, false, 1⟩).back G101 := ⟨_, rfl⟩
          have sl : SlR (rowsI .i64) G109 (.slice (some ⟨G20.nx + 24, 0, none⟩) 1 1) [x1.v c] := by rw [hG109]; exact SlR.oneD (rowsI .i64) G101 (x1.v c) (n := G20.nx + 24) (by omega)
          have y109 : Ext G20 G109 := by rw [hG109]; exact ext_drawn z101 (by omega) _
          have n109 : G109.nx = G101.nx := by rw [hG109]; rfl
          have w109 : OwR (rowsI .i64) G20.nx G109 u x1.q := (w101.kept (by omega) fun g hg => by
            have := w101.from hg
            simp at this
            rw [hG109]
            simp
            omega).mono (by simp; omega)
          obtain ⟨v', G110, e110, x110, w110⟩ := w109.app (A := G20) (ib := 8) (by decide) y109 sl (by rw [hq1]; have := hf.q; simp; omega)
          simp only [rowsI_sz] at e110
          rw [hG109] at e110
          obtain ⟨h114, m114⟩ := h20.queued x110 w110
          have h119 := h114.heard c hc 0
          have n110 := x110.nx
          have n20 := x20.nx
          have lx8 := h8.cx.lt
          have lh8 := h8.ch.lt
          have n14 := x14.nx
          have d1 : ¬ G14.nx = B.xb := by omega
          have d2 : ¬ G14.nx = B.hb := by omega
          have d3 : ¬ B.xb = B.hb := h8.cx.ne h8.ch.tag (by decide)
          have d4 : ¬ B.hb = B.xb := fun e => d3 e.symm
          have oa119 : ((G110.put B.xb ⟨crX n { x1 with q := x1.q ++ [x1.v c] } { B with qv := v' }, 1, false, 1⟩).put B.hb ⟨[.int .i64 (upN x1.e c 0 0), .int .i64 (upN x1.e c 0 1)], 1, false, 1⟩).obj G14.nx = some ⟨accV x1.s, 1, false, 1⟩ := by
            rw [obj_put, if_neg d2, obj_put, if_neg d1, x110.obj _ (Nat.lt_of_lt_of_le na x20.nx), x20.obj _ na]
            exact oa
          have hp2 : x1.pushed2 c = { x1 with q := x1.q ++ [x1.v c], e := upN x1.e c 0 } := by unfold CS.pushed2; rw [if_pos ⟨k1, k2, k3⟩]
          have hlast : ∀ τ : Env, τ 0 = P0 B.xb → τ 1 = .int .i64 c → τ 5 = .bool ((x.p c).step x.s).1.over → τ 6 = P0 G14.nx →
              Wp (j93_1 true (exL Q orc) τ ((G110.put B.xb ⟨crX n { x1 with q := x1.q ++ [x1.v c] } { B with qv := v' }, 1, false, 1⟩).put B.hb ⟨[.int .i64 (upN x1.e c 0 0), .int .i64 (upN x1.e c 0 1)], 1, false, 1⟩)) (CrPost own G n B (x.pushes n c).1 (.bool (x.pushes n c).2)) := by
            intro τ s0 s1 s5 s6
            rw [hres _ (fun h => k4'' h.2) hp2]
            have hf2 : Fit3 n { x1 with q := x1.q ++ [x1.v c], e := upN x1.e c 0 } c := ⟨hf1.o, hf1.clk, by have := hf.n6; simp; rw [hq1] at k4'' ⊢; omega, hf1.n6⟩
            refine (push_J1 orc h119 hc hf2 (by simp; omega) oa119 τ s0 s1 (by rw [s5, ← hov]) s6).mono fun q hq => ?_
            refine hq.pre ((ag8.trans (grown_agr (t := 13)) mod8.nx).trans grown_agr (Nat.le_trans mod8.nx y20.nx)) ?_ rfl
            refine ModT.put ((mod8.trans ag8 (ModT.ext y20)).trans (ag8.trans grown_agr mod8.nx) (m114.mono (by decide))) (.inl ?_) _
            rw [h.ch.tag]; decide
          have one' := own_one w110
          have cx110 := (x110.obj _ h20.cx.lt).trans cx20
          have ch20 := h20.ch.obj
          have ch110 := (x110.obj _ h20.ch.lt).trans ch20
          have vs : v' = v' := rfl
          rcases (show c = 0 ∨ c = 1 by omega) with rfl | rfl
          all_goals
            simp [upN, crX] at hlast
            simp [s93, sb93, cx0, crX, cp0, b1]
            simp [e8, cx8, crX, e14, ← hG17, oa, k1, k2]
            simp [e20, cx20, crX, lq, k4', k4'', e101, cx101, cw101, cw20, e110, cx110, stO_one _ _ one', d3, d4, ch110]
            refine hlast _ ?_ ?_ ?_ ?_ <;> simp [clip_t]
      · rw [Bool.not_eq_true] at k3
        rw [k3] at e20
        have o20 := (x20.obj _ na).trans oa
        have := fun (τ : Env) s0 s1 s5 s6 => no τ G20 (x17.trans x20) (Nat.lt_of_lt_of_le na x20.nx) o20 s0 s1 s5 s6 (fun h => by rw [k3] at h; cases h.2.2)
        rcases (show c = 0 ∨ c = 1 by omega) with rfl | rfl
        all_goals
          simp [s93, sb93, cx0, crX, cp0, b1]
          simp [e8, cx8, crX, e14, ← hG17, oa, k1, k2]
          simp [e20]
          exact this _ (by simp [clip_t]) (by simp [clip_t]) (by simp [clip_t]) (by simp [clip_t])
    · have := fun (τ : Env) s0 s1 s5 s6 => no τ G17 x17 na oa s0 s1 s5 s6 (fun h => k2 h.2.1)
      rcases (show c = 0 ∨ c = 1 by omega) with rfl | rfl
      all_goals
        simp [s93, sb93, cx0, crX, cp0, b1]
        simp [e8, cx8, crX, e14, ← hG17, oa, k1, k2]
        exact this _ (by simp [clip_t]) (by simp [clip_t]) (by simp [clip_t]) (by simp [clip_t])
  · have := fun (τ : Env) s0 s1 s5 s6 => no τ G17 x17 na oa s0 s1 s5 s6 (fun h => k1 h.1)
    rcases (show c = 0 ∨ c = 1 by omega) with rfl | rfl
    all_goals
      simp [s93, sb93, cx0, crX, cp0, b1]
      simp [e8, cx8, crX, e14, ← hG17, oa, k1]
      exact this _ (by simp [clip_t]) (by simp [clip_t]) (by simp [clip_t]) (by simp [clip_t])
end
end Go.Proofs.Ytocbppgkgcoehaa.Lift

set_option linter.unusedVariables false
set_option linter.unusedSimpArgs false
set_option maxRecDepth 20000
namespace Go.Proofs.Ytocbppgkgcoehaa.Lift
open Go Go.Proofs.Ytocbppgkgcoehaa.Gh Go.Proofs
section
variable {own own' own1 : Nat → Nat} {G G' G1 : GS} {b t n c : Nat} {ts : List Nat} {cs : List Value} {x y : CS} {B B' : CrB} {v : Value}
/-- what a drop's step does to the heap -/
theorem CrG.dropped (h : CrG own G n x B) {b : Nat} (hb : B.dv = P0 b) (hbo : own b = 8) (hpo : x.d.ok) (th : Thr (fun A G => PMx A G B.m (x.d.step x.s).2) (Tag own G 10) b G G') (hp : PdR G' b (x.d.step x.s).1) (hbn : b < G.nx) :
    CrG (grown own G 10) G' n { x with s := (x.d.step x.s).2, d := (x.d.step x.s).1 } B ∧ ModT [10, 8] own G G' := by
  have m := thr_tag th hbo
  have ag : Agr own (grown own G 10) G := grown_agr
  have nx := m.nx
  refine ⟨⟨h.cx.to m (by decide) ag, h.cp.to m (by decide) ag, h.cw.to m (by decide) ag, h.ch.to m (by decide) ag, h.co.to m (by decide) ag, (sepP _ _).step m.nx th.st, (hpo.step h.so).2, OwR.to h.hq h.tq m (by decide), fun g hg => (ag g (h.hq.is.under g hg)).trans (h.tq g hg), OwR.to h.hc h.tc m (by decide), fun g hg => (ag g (h.hc.is.under g hg)).trans (h.tc g hg), fun j hj hoj => ?_, fun hf => ?_, fun _ => ⟨b, hb, Nat.lt_of_lt_of_le hbn nx, (ag b hbn).trans hbo, hp, (hpo.step h.so).1⟩, h.ones⟩, m⟩
  · obtain ⟨b', h1, h2, h3, h4, h5⟩ := h.p j hj hoj
    have : own b' ∉ [10, 8] := by rw [h3]; rcases (show j = 0 ∨ j = 1 by omega) with rfl | rfl <;> decide
    exact ⟨b', h1, Nat.lt_of_lt_of_le h2 nx, (ag b' h2).trans h3, h4.kept (m.same h2 this), h5⟩
  · obtain ⟨b', h1, h2, h3, h4, h5⟩ := h.f hf
    exact ⟨b', h1, Nat.lt_of_lt_of_le h2 nx, (ag b' h2).trans h3, h4.kept (m.same h2 (by rw [h3]; decide)), h5⟩
theorem CrG.fronted (h : CrG own G n x B) {b : Nat} (hb : B.fv = P0 b) (hbo : own b = 7) (hpo : x.f.ok) (th : Thr (fun A G => PMx A G B.m (x.f.step x.s).2) (Tag own G 10) b G G') (hp : PfR G' b (x.f.step x.s).1) (hbn : b < G.nx) :
    CrG (grown own G 10) G' n { x with s := (x.f.step x.s).2, f := (x.f.step x.s).1 } B ∧ ModT [10, 7] own G G' := by
  have m := thr_tag th hbo
  have ag : Agr own (grown own G 10) G := grown_agr
  have nx := m.nx
  refine ⟨⟨h.cx.to m (by decide) ag, h.cp.to m (by decide) ag, h.cw.to m (by decide) ag, h.ch.to m (by decide) ag, h.co.to m (by decide) ag, (sepP _ _).step m.nx th.st, (hpo.step h.so).2, OwR.to h.hq h.tq m (by decide), fun g hg => (ag g (h.hq.is.under g hg)).trans (h.tq g hg), OwR.to h.hc h.tc m (by decide), fun g hg => (ag g (h.hc.is.under g hg)).trans (h.tc g hg), fun j hj hoj => ?_, fun hf => ⟨b, hb, Nat.lt_of_lt_of_le hbn nx, (ag b hbn).trans hbo, hp, (hpo.step h.so).1⟩, fun hd => ?_, h.ones⟩, m⟩
  · obtain ⟨b', h1, h2, h3, h4, h5⟩ := h.p j hj hoj
    have : own b' ∉ [10, 7] := by rw [h3]; rcases (show j = 0 ∨ j = 1 by omega) with rfl | rfl <;> decide
    exact ⟨b', h1, Nat.lt_of_lt_of_le h2 nx, (ag b' h2).trans h3, h4.kept (m.same h2 this), h5⟩
  · obtain ⟨b', h1, h2, h3, h4, h5⟩ := h.d hd
    exact ⟨b', h1, Nat.lt_of_lt_of_le h2 nx, (ag b' h2).trans h3, h4.kept (m.same h2 (by rw [h3]; decide)), h5⟩
/-- the flag is written -/
theorem CrG.nexted (h : CrG own G n x B) (f d' : Bool) (hf : f = true → x.next = true ∨ 0 ≤ x.o 2) (hd : d' = true → x.dd = true) :
    CrG own (G.put B.xb ⟨crX n { x with next := f, dd := d' } B, 1, false, 1⟩) n { x with next := f, dd := d' } B ∧ ModT [1] own G (G.put B.xb ⟨crX n { x with next := f, dd := d' } B, 1, false, 1⟩) := by
  have m : ModT [1] own G (G.put B.xb ⟨crX n { x with next := f, dd := d' } B, 1, false, 1⟩) := (ModT.refl _ _ _).put (.inl (by rw [h.cx.tag]; decide)) _
  have ag := Agr.refl own G
  refine ⟨⟨h.cx.put _, h.cp.to m (by decide) ag, h.cw.to m (by decide) ag, h.ch.to m (by decide) ag, h.co.to m (by decide) ag, (sepP _ _).tag h.hm m (by decide) ag, h.so, OwR.to h.hq h.tq m (by decide), h.tq, OwR.to h.hc h.tc m (by decide), h.tc, fun c hc ho => ?_, fun hf' => ?_, fun hn => ?_, h.ones⟩, m⟩
  · obtain ⟨b, h1, h2, h3, h4, h5⟩ := h.p c hc ho
    have : own b ∉ [1] := by rw [h3]; rcases (show c = 0 ∨ c = 1 by omega) with rfl | rfl <;> decide
    exact ⟨b, h1, h2, h3, h4.kept (m.same h2 this), h5⟩
  · obtain ⟨b, h1, h2, h3, h4, h5⟩ := h.f (hf'.elim hf .inr)
    exact ⟨b, h1, h2, h3, h4.kept (m.same h2 (by rw [h3]; decide)), h5⟩
  · obtain ⟨b, h1, h2, h3, h4, h5⟩ := h.d (hd hn)
    exact ⟨b, h1, h2, h3, h4.kept (m.same h2 (by rw [h3]; decide)), h5⟩
theorem wrapped {z : Int} : IntKind.wrap .u64 z = IntKind.wrap .u64 z := rfl
set_option maxHeartbeats 1000000 in
theorem takes_in (orc : FuncId → Bool) (h : CrG own G n x B) (hf : Fit3 n x 2) (hdd : x.next = true → x.dd = true) :
    Wp ((E orc).cl 94 [P0 B.xb] G) (CrPost own G n B x.takes.1 (.bool x.takes.2)) := by
  refine Wp.ref (f94 (exL_ok Q orc) _ G) ?_
  obtain ⟨k, ho, hk⟩ := hf.o
  have cx := h.cx.obj
  have x0 := (Ext.refl G).room 10
  have h0 := h.ext x0
  have ag0 : Agr own (grown own G 13) G := grown_agr
  have cx0 := h0.cx.obj
  cases hn : x.next with
  | true =>
    obtain ⟨b, b1, b2, b3, b4, b5⟩ := h.d (hdd hn)
    have b3' : grown own G 13 b = 8 := (ag0 b b2).trans b3
    obtain ⟨⟨r, G9⟩, e9, rfl, th, hp9⟩ := drop_ok orc h0.hm b5 (fun k => by have := k.2; omega) (Nat.lt_of_lt_of_le b2 x0.nx) (b4.kept (x0.obj b b2))
    simp only at th hp9
    obtain ⟨h9, m9⟩ := h0.dropped b1 b3' b5 th hp9 (Nat.lt_of_lt_of_le b2 x0.nx)
    have ag9 : Agr own (grown (grown own G 13) (G.room 10) 10) G := ag0.trans grown_agr x0.nx
    have mod9 : ModT crT own G G9 := (ModT.ext x0).trans ag0 (m9.mono (by decide))
    have b9 : b < G9.nx := Nat.lt_of_lt_of_le b2 mod9.nx
    have t9 : grown (grown own G 13) (G.room 10) 10 b = 8 := (ag9 b b2).trans b3
    have cx9 := h9.cx.obj
    obtain ⟨qa, qc, hq⟩ := h9.hq.is.len
    have lq : ∀ t, ln Q true t B.qv = some (.int .i64 x.q.length) := fun t => by rw [hq]; simp
    have ht : x.takes = (if ((x.d.step x.s).1).over = false then (if x.q.length = 0 then ({ x with s := (x.d.step x.s).2, d := (x.d.step x.s).1 }, false) else ({ x with s := (x.d.step x.s).2, d := (x.d.step x.s).1, q := x.q.drop 1 }, true)) else (({ x with s := (x.d.step x.s).2, d := (x.d.step x.s).1, next := false, dd := false } : CS).ends 2 (0, 0, 0), decide (((x.d.step x.s).1).err = 0))) := by
      unfold CS.takes
      rw [if_pos hn]
    rw [ht]
    generalize hX : ({ x with s := (x.d.step x.s).2, d := (x.d.step x.s).1 } : CS) = x1 at *
    have hXn : x1.next = true := by rw [← hX]; exact hn
    have hXq : x1.q = x.q := by rw [← hX]
    have hXd : x1.d = (x.d.step x.s).1 := by rw [← hX]
    have hXo : x1.o = x.o := by rw [← hX]
    have hXc : x1.calls = x.calls := by rw [← hX]
    have hXk : x1.clock = x.clock := by rw [← hX]
    simp only [crX, hXn] at cx9
    cases hov : ((x.d.step x.s).1).over with
    | false =>
      rw [if_pos rfl]
      rw [hov] at e9
      by_cases k0 : x.q.length = 0
      · rw [if_pos k0]
        have fin : CrPost own G n B x1 (.bool false) (.bool false, G9) := ⟨rfl, _, B, rfl, ag9, mod9, h9⟩
        simp [s94, cx, crX, hn, b1, e9, cx9, lq, k0]
        exact fin
      · rw [if_neg k0]
        obtain ⟨u, e20, s20⟩ := SlR.drop (k := .i64) (o := 1) h9.hq.is (by rw [hXq]; omega)
        obtain ⟨v', G22, e22, x22, w22⟩ := copyi_ok orc s20 (by have := hf.q; rw [hXq]; simp; omega)
        obtain ⟨h25, m25⟩ := h9.queued x22 w22
        have hX2 : ({ x with s := (x.d.step x.s).2, d := (x.d.step x.s).1, q := x.q.drop 1 } : CS) = { x1 with q := x1.q.drop 1 } := by rw [← hX]
        rw [hX2]
        have cx22 := (x22.obj _ h9.cx.lt).trans h9.cx.obj
        simp only [crX, hXn] at cx22
        have one' := own_one w22
        have k0' : ¬ x.q = [] := fun e => k0 (by rw [e]; rfl)
        obtain ⟨y, hy⟩ : ∃ y : CS, y = { x1 with q := x1.q.drop 1 } := ⟨_, rfl⟩
        rw [← hy] at h25 m25
        rw [← hy]
        have hcr : crX n y { B with qv := v' } = [.int .i64 0, .int .i64 1, .int .i64 2, .int .i64 n, P0 B.m, .slice (some ⟨B.pb, 0, none⟩) 2 2, .slice (some ⟨B.vb, 0, none⟩) 2 2, B.fv, B.dv, .bool true, v', .slice (some ⟨B.hb, 0, none⟩) 2 2, .int .i64 0, .int .i64 0, B.cv, .slice (some ⟨B.ob, 0, none⟩) 3 3, .int .i64 x1.clock, .int .i64 x1.pushed] := by rw [hy]; simp only [crX, hXn]
        have k1 : ¬ x1.q = [] := by rw [hXq]; exact k0'
        rw [hcr] at h25 m25
        have fin : CrPost own G n B y (.bool true) (.bool true, G22.put B.xb ⟨[.int .i64 0, .int .i64 1, .int .i64 2, .int .i64 n, P0 B.m, .slice (some ⟨B.pb, 0, none⟩) 2 2, .slice (some ⟨B.vb, 0, none⟩) 2 2, B.fv, B.dv, .bool true, v', .slice (some ⟨B.hb, 0, none⟩) 2 2, .int .i64 0, .int .i64 0, B.cv, .slice (some ⟨B.ob, 0, none⟩) 3 3, .int .i64 x1.clock, .int .i64 x1.pushed], 1, false, 1⟩) := ⟨rfl, _, { B with qv := v' }, rfl, ag9.trans grown_agr mod9.nx, mod9.trans ag9 (m25.mono (by decide)), h25⟩
        simp only [rowsI_sz] at e20
        rw [hq] at e20
        rw [hq] at cx9 cx22
        simp [s94, cx, crX, hn, b1, e9, cx9, lq, k0, k0', k1]
        simp at e20
        simp [e20, e22, cx22, stO_one _ _ one', k1]
        exact fin
    | true =>
      rw [if_neg (by simp)]
      rw [hov] at e9
      obtain ⟨h28, m28⟩ := h9.nexted false false (by simp) (by simp)
      have hX3 : ({ x with s := (x.d.step x.s).2, d := (x.d.step x.s).1, next := false, dd := false } : CS) = { x1 with next := false, dd := false } := by rw [← hX]
      rw [hX3]
      have ox : ({ x1 with next := false, dd := false } : CS).o 2 = (k : Int) := by simp only [hXo]; exact ho
      obtain ⟨⟨r, G31⟩, e31, rfl, own', ag', m31, h'⟩ := ends_in orc h28 (by omega : 2 < 3) ox (by simp only [hXc]; exact hk) (by simp only [hXk]; exact hf.clk) (0, 0, 0)
      simp only at m31 h'
      have n28 := m28.nx
      have hp31 : PdR G31 b (x.d.step x.s).1 := by
        refine (hp9.kept (m28.same b9 (by rw [t9]; decide))).kept (m31.same (Nat.lt_of_lt_of_le b9 n28) ?_)
        rw [t9]; decide
      have e36 := droperr_ok orc hp31
      have cx31 := h'.cx.obj
      have fin : CrPost own G n B (({ x1 with next := false, dd := false } : CS).ends 2 (0, 0, 0)) (.bool (decide (((x.d.step x.s).1).err = 0))) (.bool (decide (((x.d.step x.s).1).err = 0)), G31) := ⟨rfl, own', B, rfl, (ag9.trans ag' mod9.nx), (mod9.trans ag9 (m28.mono (by decide))).trans ag9 (m31.mono (by decide)), h'⟩
      simp [s94, cx, crX, hn, b1, e9, cx9]
      have hz : z144 = [.int .i64 0, .int .i64 0, .int .u64 0] := rfl
      simp only [crX] at e31 cx31
      rw [b1] at e31 cx31
      simp at e31
      simp [hz, e31, cx31, e36]
      exact fin
  | false =>
    obtain ⟨b, b1, b2, b3, b4, b5⟩ := h.f (.inr (by omega))
    have b3' : grown own G 13 b = 7 := (ag0 b b2).trans b3
    obtain ⟨⟨r, G9⟩, e9, rfl, th, hp9⟩ := front_ok orc h0.hm h0.so b5 (fun k => by have := k.2; omega) (Nat.lt_of_lt_of_le b2 x0.nx) (b4.kept (x0.obj b b2))
    simp only at th hp9
    obtain ⟨h9, m9⟩ := h0.fronted b1 b3' b5 th hp9 (Nat.lt_of_lt_of_le b2 x0.nx)
    have ag9 : Agr own (grown (grown own G 13) (G.room 10) 10) G := ag0.trans grown_agr x0.nx
    have mod9 : ModT crT own G G9 := (ModT.ext x0).trans ag0 (m9.mono (by decide))
    have cx9 := h9.cx.obj
    obtain ⟨Y, hY⟩ : ∃ Y : Bool → Int × Int × Int → CS, ∀ f a, Y f a = ({ x with s := (x.f.step x.s).2, f := (x.f.step x.s).1, next := f } : CS).ends 2 a := ⟨_, fun _ _ => rfl⟩
    have ht : x.takes = (if ((x.f.step x.s).1).over = false then ({ x with s := (x.f.step x.s).2, f := (x.f.step x.s).1 }, true) else (Y (decide (((x.f.step x.s).1).err = 0)) (((x.f.step x.s).1).err, 0, IntKind.wrap .u64 ((x.f.step x.s).1).val), if x.q.length = 0 then decide (((x.f.step x.s).1).val = 0) && decide (((x.f.step x.s).1).err = 15) else decide (((x.f.step x.s).1).err = 0) && decide (some ((x.f.step x.s).1).val = x.q[0]?))) := by
      unfold CS.takes
      rw [if_neg (by rw [hn]; simp), hY]
    rw [ht]
    have hY' : ∀ f a, Y f a = ({ ({ x with s := (x.f.step x.s).2, f := (x.f.step x.s).1 } : CS) with next := f } : CS).ends 2 a := hY
    clear ht hY
    generalize hX : ({ x with s := (x.f.step x.s).2, f := (x.f.step x.s).1 } : CS) = x1 at *
    have hXn : x1.next = false := by rw [← hX]; exact hn
    have hXq : x1.q = x.q := by rw [← hX]
    have hXo : x1.o = x.o := by rw [← hX]
    have hXc : x1.calls = x.calls := by rw [← hX]
    have hXk : x1.clock = x.clock := by rw [← hX]
    generalize hP : (x.f.step x.s).1 = p1 at *
    simp only [crX, hXn] at cx9
    cases hov : p1.over with
    | false =>
      rw [if_pos rfl]
      rw [hov] at e9
      have fin : CrPost own G n B x1 (.bool true) (.bool true, G9) := ⟨rfl, _, B, rfl, ag9, mod9, h9⟩
      simp [s94, cx, crX, hn, b1, e9, cx9]
      exact fin
    | true =>
      rw [if_neg (by simp)]
      rw [hov] at e9
      obtain ⟨G51, e51, x51⟩ := fval_ok orc hp9
      have h51 := h9.ext x51
      have cx51 := (x51.obj _ h9.cx.lt).trans cx9
      obtain ⟨h57, m57⟩ := h51.nexted (decide (p1.err = 0)) x1.dd (fun _ => .inr (by rw [hXo]; omega)) (fun h => h)
      have hX3 : ({ x1 with next := decide (p1.err = 0), dd := x1.dd } : CS) = { x1 with next := decide (p1.err = 0) } := rfl
      rw [hX3] at h57 m57
      have ox : ({ x1 with next := decide (p1.err = 0) } : CS).o 2 = (k : Int) := by simp only [hXo]; exact ho
      obtain ⟨⟨r, G61⟩, e61, rfl, own', ag', m61, h'⟩ := ends_in orc h57 (by omega : 2 < 3) ox (by simp only [hXc]; exact hk) (by simp only [hXk]; exact hf.clk) (p1.err, 0, IntKind.wrap .u64 p1.val)
      simp only at m61 h'
      have ag51 : Agr own (grown (grown (grown own G 13) (G.room 10) 10) G9 13) G := ag9.trans grown_agr mod9.nx
      have mod51 : ModT crT own G G51 := mod9.trans ag9 (ModT.ext x51)
      have hYx : Y (decide (p1.err = 0)) (p1.err, 0, IntKind.wrap .u64 p1.val) = (({ x1 with next := decide (p1.err = 0) } : CS).ends 2 (p1.err, 0, IntKind.wrap .u64 p1.val)) := by rw [hY', ← hX]
      have fin : ∀ v : Bool, CrPost own G n B (Y (decide (p1.err = 0)) (p1.err, 0, IntKind.wrap .u64 p1.val)) (.bool v) (.bool v, G61) := fun v => by
        rw [hYx]
        exact ⟨rfl, own', B, rfl, (ag51.trans ag' mod51.nx), (mod51.trans ag51 (m57.mono (by decide))).trans ag51 (m61.mono (by decide)), h'⟩
      have cx61 := h'.cx.obj
      have hq' : OwR (rowsI .i64) 0 G61 B.qv x.q := by have := h'.hq; simp only [CS.ends] at this; rw [hXq] at this; exact this
      obtain ⟨qa, qc, hq⟩ := hq'.is.len
      have lq : ∀ t, ln Q true t B.qv = some (.int .i64 x.q.length) := fun t => by rw [hq]; simp
      simp only [crX] at e61
      simp at e61
      simp only [crX, CS.ends] at cx61
      by_cases k0 : x.q.length = 0
      · rw [if_pos k0]
        have k0' : x.q = [] := List.eq_nil_of_length_eq_zero k0
        have := fin (decide (p1.val = 0) && decide (p1.err = 15))
        simp [s94, cx, crX, hn, b1, e9, cx9, e51, cx51]
        rw [b1] at e61
        simp [e61, cx61, lq, k0, k0']
        by_cases kv : p1.val = 0
        · simp [kv] at this ⊢
          exact this
        · simp [kv] at this ⊢
          exact this
      · rw [if_neg k0]
        have hpos : 0 < x.q.length := by omega
        have k0' : ¬ x.q = [] := fun e => k0 (by rw [e]; rfl)
        obtain ⟨qb, qo, qc', eq1, _, qq, _⟩ := hq'.is.at hpos
        have q0 := qq 0 (by decide)
        simp at q0
        have hg : x.q[0]? = some x.q[0] := List.getElem?_eq_getElem hpos
        rw [hg]
        have hpos' : (0 : Int) < x.q.length := by omega
        have := fin (decide (p1.err = 0) && decide (some p1.val = some x.q[0]))
        simp [s94, cx, crX, hn, b1, e9, cx9, e51, cx51]
        rw [b1] at e61
        rw [eq1] at e61 cx61
        simp only [eq1]
        simp [e61, cx61, k0, k0', hpos, hpos', q0]
        by_cases ke : p1.err = 0
        · simp [ke, eq1, hpos, hpos', q0, cx61] at this ⊢
          exact this
        · simp [ke] at this ⊢
          exact this
end
end Go.Proofs.Ytocbppgkgcoehaa.Lift

set_option linter.unusedVariables false
set_option linter.unusedSimpArgs false
set_option maxRecDepth 20000
namespace Go.Proofs.Ytocbppgkgcoehaa.Lift
open Go Go.Proofs.Ytocbppgkgcoehaa.Gh Go.Proofs
section
variable {own own' own1 : Nat → Nat} {G G' G1 : GS} {b t n c : Nat} {ts : List Nat} {cs : List Value} {x x' y : CS} {B B' : CrB} {v : Value}
/-- what is not touched of a crew -/
structure CrK (own' : Nat → Nat) (G' : GS) (x : CS) (B : CrB) : Prop where
  hm : PMx (Tag own' G' 10) G' B.m x.s
  hq : OwR (rowsI .i64) 0 G' B.qv x.q
  tq : ∀ g, InB B.qv g → own' g = 3
  hc : OwR rSp 0 G' B.cv x.calls
  tc : ∀ g, InB B.cv g → own' g = 4
  p : ∀ c, c < 2 → 0 ≤ x.o c → ∃ b, B.pv c = P0 b ∧ b < G'.nx ∧ own' b = 5 + c ∧ PuR G' b (x.p c) ∧ (x.p c).ok
  f : (x.next = true ∨ 0 ≤ x.o 2) → ∃ b, B.fv = P0 b ∧ b < G'.nx ∧ own' b = 7 ∧ PfR G' b x.f ∧ x.f.ok
  d : x.dd = true → ∃ b, B.dv = P0 b ∧ b < G'.nx ∧ own' b = 8 ∧ PdR G' b x.d ∧ x.d.ok
theorem CrG.kept (h : CrG own G n x B) (m : ModT [1, 2, 13, 14, 15, 16] own G G') (a : Agr own own' G) : CrK own' G' x B := by
  have nx := m.nx
  refine ⟨(sepP _ _).tag h.hm m (by decide) a, OwR.to h.hq h.tq m (by decide), fun g hg => (a g (h.hq.is.under g hg)).trans (h.tq g hg), OwR.to h.hc h.tc m (by decide), fun g hg => (a g (h.hc.is.under g hg)).trans (h.tc g hg), fun c hc ho => ?_, fun hf => ?_, fun hn => ?_⟩
  · obtain ⟨b, h1, h2, h3, h4, h5⟩ := h.p c hc ho
    have : own b ∉ [1, 2, 13, 14, 15, 16] := by rw [h3]; rcases (show c = 0 ∨ c = 1 by omega) with rfl | rfl <;> decide
    exact ⟨b, h1, by omega, (a b h2).trans h3, h4.kept (m.same h2 this), h5⟩
  · obtain ⟨b, h1, h2, h3, h4, h5⟩ := h.f hf
    exact ⟨b, h1, by omega, (a b h2).trans h3, h4.kept (m.same h2 (by rw [h3]; decide)), h5⟩
  · obtain ⟨b, h1, h2, h3, h4, h5⟩ := h.d hn
    exact ⟨b, h1, by omega, (a b h2).trans h3, h4.kept (m.same h2 (by rw [h3]; decide)), h5⟩
/-- the call that is laid: its span, at a block of its own; then open, then behind the others -/
theorem begins_J0 (orc : FuncId → Bool) (hx : Cel own G B.xb 1 (crX n x B)) (ho : Cel own G B.ob 16 [.int .i64 (x.o 0), .int .i64 (x.o 1), .int .i64 (x.o 2)]) (hc : OwR rSp 0 G B.cv x.calls) (tc : ∀ g, InB B.cv g → own g = 4) (hlen : x.calls.length ≤ 100000) {sb : Nat} (hsb : sb < G.nx) (tsb : own sb = 13) {a : Sp} (os : G.obj sb = some ⟨rSp.row a, 1, false, 1⟩) (hc3 : c < 3) (τ : Env) (t0 : τ 0 = P0 B.xb) (t1 : τ 1 = .int .i64 c) (t4 : τ 4 = P0 sb) :
    Wp (j63_0 true (exL Q orc) τ G) fun q => q.1 = .tuple #[] ∧ ∃ cv', ModT [1, 4, 16] own G q.2 ∧ OwR rSp G.nx q.2 cv' (x.calls ++ [a]) ∧ q.2.obj B.xb = some ⟨crX n x { B with cv := cv' }, 1, false, 1⟩ ∧ q.2.obj B.ob = some ⟨[.int .i64 (upN x.o c x.calls.length 0), .int .i64 (upN x.o c x.calls.length 1), .int .i64 (upN x.o c x.calls.length 2)], 1, false, 1⟩ := by
  obtain ⟨ca, cc, hcv⟩ := hc.is.len
  have lc : ∀ t, ln Q true t B.cv = some (.int .i64 x.calls.length) := fun t => by rw [hcv]; simp
  have n3 : ¬ B.xb = B.ob := hx.ne ho.tag (by decide)
  have n3' : ¬ B.ob = B.xb := fun e => n3 e.symm
  have n4 : ¬ sb = B.ob := fun e => by have := ho.tag; rw [← e, tsb] at this; cases this
  obtain ⟨o3, ho3⟩ : ∃ o3 : List Value, o3 = [.int .i64 (upN x.o c x.calls.length 0), .int .i64 (upN x.o c x.calls.length 1), .int .i64 (upN x.o c x.calls.length 2)] := ⟨_, rfl⟩
  rw [← ho3]
  obtain ⟨G26, hG26⟩ : ∃ G26, G26 = (G.room 12).put B.ob ⟨o3, 1, false, 1⟩ := ⟨_, rfl⟩
  have n26 : G26.nx = G.nx + 12 := by rw [hG26]; rfl
  obtain ⟨R, hR⟩ : ∃ R, R = G26.room 11 := ⟨_, rfl⟩
  have nR : R.nx = G.nx + 23 := by rw [hR]; simp [n26]
  obtain ⟨G32, hG32⟩ : ∃ G32, G32 = ((R.at' (G26.nx + 6)).push ⟨rSp.row a, 10, false, 1⟩).back R := ⟨_, rfl⟩
  have n32 : G32.nx = R.nx := by rw [hG32]; rfl
  have sl : SlR rSp G32 (.slice (some ⟨G26.nx + 6, 0, none⟩) 1 1) [a] := by rw [hG32]; exact SlR.oneD rSp R a (n := G26.nx + 6) (by omega)
  have m26 : ModT [1, 4, 16] own G G26 := by rw [hG26]; exact ModT.put (ModP.room (ModT.refl _ _ _) 12) (.inl (by rw [ho.tag]; decide)) _
  have m32 : ModT [1, 4, 16] own G G32 := by rw [hG32, hR]; exact ModP.drawn (ModP.room m26 11) (by omega) _
  have o32 : ∀ g, g < G.nx → g ≠ B.ob → G32.obj g = G.obj g := fun g hg hn => by
    have : ¬ g = G26.nx + 6 := by omega
    rw [hG32, hR]
    simp [this]
    rw [hG26]
    simp [hn]
  have kc : ∀ g, InB B.cv g → g < G.nx ∧ g ≠ B.ob := fun g hg => ⟨hc.is.under g hg, fun e => by have h1 := tc g hg; have h2 := ho.tag; rw [e] at h1; omega⟩
  have hc32 : OwR rSp 0 G32 B.cv x.calls := hc.kept m32.nx fun g hg => o32 g (kc g hg).1 (kc g hg).2
  obtain ⟨cv', G33, e33, m33, w33⟩ := hc32.app_mod (ib := 80) (by decide) sl (by simp) (by simp; omega)
  have hcm : ModT [1, 4, 16] own G G33 := ModP.trans m32 (ModP.mono m33 fun g hg => .inl (show own g ∈ [1, 4, 16] by rw [tc g hg]; decide))
  have kx : ¬ InB B.cv B.xb := fun h => by have h1 := tc _ h; have h2 := hx.tag; omega
  have ko : ¬ InB B.cv B.ob := fun h => (kc _ h).2 rfl
  have x32 := (o32 _ hx.lt n3).trans hx.obj
  have x33 := (m33.obj B.xb (by have := hx.lt; omega) kx).trans x32
  have ob32 : G32.obj B.ob = some ⟨o3, 1, false, 1⟩ := by
    have : ¬ B.ob = G26.nx + 6 := by have := ho.lt; omega
    rw [hG32, hR]
    simp [this]
    rw [hG26]
    simp
  have ob33 := (m33.obj B.ob (by have := ho.lt; omega) ko).trans ob32
  have hz : z146 = [.int .i64 0, .int .i64 0, .int .i64 0, .int .i64 0, .int .i64 0, .int .i64 0, .int .u64 0, .int .i64 0, .int .i64 0, .int .u64 0] := rfl
  have xR : G26.obj B.xb = some ⟨crX n x B, 1, false, 1⟩ := by rw [hG26]; simp [n3, hx.obj]
  have sR : G26.obj sb = some ⟨rSp.row a, 1, false, 1⟩ := by rw [hG26]; simp [n4]; simpa using os
  have one' := own_one w33
  have fin : ModT [1, 4, 16] own G (G33.put B.xb ⟨crX n x { B with cv := cv' }, 1, false, 1⟩) ∧ OwR rSp G.nx (G33.put B.xb ⟨crX n x { B with cv := cv' }, 1, false, 1⟩) cv' (x.calls ++ [a]) ∧ (G33.put B.xb ⟨crX n x { B with cv := cv' }, 1, false, 1⟩).obj B.xb = some ⟨crX n x { B with cv := cv' }, 1, false, 1⟩ ∧ (G33.put B.xb ⟨crX n x { B with cv := cv' }, 1, false, 1⟩).obj B.ob = some ⟨o3, 1, false, 1⟩ := by
    refine ⟨ModT.put hcm (.inl (by rw [hx.tag]; decide)) _, (w33.kept (by simp) fun g hg => ?_).mono (by omega), by simp, by simp [n3', ob33]⟩
    have h1 := w33.from hg
    have h2 := hx.lt
    rw [obj_put, if_neg (by omega)]
  refine Wp.mono (Q := fun q => q = (.tuple #[], G33.put B.xb ⟨crX n x { B with cv := cv' }, 1, false, 1⟩)) ?_ (fun q hq => by subst hq; exact ⟨rfl, cv', fin⟩)
  clear fin
  simp only [rSp_sz] at e33
  rw [hG32] at e33
  simp only [crX] at x33 xR ⊢
  have hxo := hx.obj
  simp only [crX] at hxo
  simp only [rSp_row] at sR e33
  have hoo := ho.obj
  rcases (show c = 0 ∨ c = 1 ∨ c = 2 by omega) with rfl | rfl | rfl
  all_goals
    simp [upN] at ho3
    simp [j63_0, jb63_0, t0, t1, t4, hxo, hoo, lc, ← ho3, ← hG26]
    simp [← hR, xR, sR, hz, e33, x33, stO_one _ _ one']
end
end Go.Proofs.Ytocbppgkgcoehaa.Lift

