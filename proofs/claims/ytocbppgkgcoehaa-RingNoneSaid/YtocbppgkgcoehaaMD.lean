/- contracts of the program's functions -/
import Derived.Test.YtocbppgkgcoehaaMC
set_option linter.unusedVariables false
set_option linter.unusedSimpArgs false
set_option maxRecDepth 20000
namespace Go.Proofs.Ytocbppgkgcoehaa.Lift
open Go Go.Proofs.Ytocbppgkgcoehaa.Gh Go.Proofs
/-! ### The two memories, by tags: 10 the program's, 11 the document's -/
structure St2 (own : Nat → Nat) (G : GS) (m r : Nat) (s s' : MS) : Prop where
  hm : PMx (Tag own G 10) G m s
  hr : RMx (Tag own G 11) G r s'
section
variable {own own' : Nat → Nat} {G G' G0 : GS} {m r b c : Nat} {s s' s1 : MS} {ts : List Nat}
theorem St2.to (h : St2 own G m r s s') (q : ModT ts own G G') (h1 : 10 ∉ ts) (h2 : 11 ∉ ts) (a : Agr own own' G) : St2 own' G' m r s s' :=
  ⟨(sepP m s).tag h.hm q h1 a, (sepR r s').tag h.hr q h2 a⟩
theorem St2.ext (h : St2 own G m r s s') (x : Ext G G') : St2 (grown own G 13) G' m r s s' := h.to (ts := []) (ModT.ext x) (by simp) (by simp) grown_agr
theorem Thr.tag {P : (Nat → Prop) → GS → Prop} {t : Nat} (h : Thr P (Tag own G t) b G G') (hb : own b = c) : ModT [t, c] own G G' :=
  ⟨h.mod.nx, fun g hg hn => h.mod.obj g hg fun k => hn (k.elim (fun k => by rw [k.2]; simp) fun k => by rw [k, hb]; simp), h.mod.nl, h.mod.loop⟩
theorem St2.p (h : St2 own G m r s s') (th : Thr (fun A G => PMx A G m s1) (Tag own G 10) b G G') (hb : own b = c) (hc : c ≠ 11) : St2 (grown own G 10) G' m r s1 s' :=
  ⟨(sepP m s1).step th.mod.nx th.st, (sepR r s').tag h.hr (Thr.tag th hb) (by simp; omega) grown_agr⟩
theorem St2.q (h : St2 own G m r s s') (th : Thr (fun A G => RMx A G r s1) (Tag own G 11) b G G') (hb : own b = c) (hc : c ≠ 10) : St2 (grown own G 11) G' m r s s1 :=
  ⟨(sepP m s).tag h.hm (Thr.tag th hb) (by simp; omega) grown_agr, (sepR r s1).step th.mod.nx th.st⟩
/-! ### What is compared behind each act -/
theorem copyw_ok (orc : FuncId → Bool) {A : List Int} {v0 : Value} (hA : SlR (rowsI .u64) G v0 A) (hlt : A.length < 2 ^ 36) : ∃ v' G', (E orc).cl 83 [v0] G = some (v', G') ∧ Ext G G' ∧ OwR (rowsI .u64) G.nx G' v' A := by
  obtain ⟨v', G', h1, h2, h3⟩ := OwR.app (A := G) (ib := 8) (OwR.made (rowsI .u64) G) (by decide) ((Ext.refl G).push _) (hA.ext ((Ext.refl G).push _)) (by simp; omega)
  refine ⟨v', G', f83 (exL_ok Q orc) _ G _ ?_, h2, by simpa using h3⟩
  simp only [rowsI_sz] at h1
  simp [s83, rep, fillS, fillC, h1]
theorem rwords_ok (orc : FuncId → Bool) {A : Nat → Prop} (h : RMx A G r s) : ∃ v G', (E orc).cl 41 [P0 r] G = some (v, G') ∧ Ext G G' ∧ OwR (rowsI .u64) G.nx G' v s.W := by
  obtain ⟨wb, h⟩ := h
  obtain ⟨v, G', e, x, w⟩ := copyw_ok orc h.slr (by have := h.hl; omega)
  refine ⟨v, G', f41 (exL_ok Q orc) _ G _ ?_, x, w⟩
  simp [s41, h.hr, e]
theorem accEq (a0 a1 a2 a3 b0 b1 b2 b3 : Int) (a4 b4 : Bool) : prun Q (Op.equalIn 10000 95 (.agg ⟨[.int .i64 a0, .int .i64 a1, .int .u64 a2, .int .u64 a3, .bool a4]⟩) (.agg ⟨[.int .i64 b0, .int .i64 b1, .int .u64 b2, .int .u64 b3, .bool b4]⟩)) = some (a0 == b0 && (a1 == b1 && (a2 == b2 && (a3 == b3 && (a4 == b4 && true))))) :=
  eqS (d := 9999) (L := [(3, 0), (3, 1), (31, 2), (31, 3), (4, 4)]) (by kernel_rfl) (by kernel_rfl) (eqL_cons (a := .int .i64 a0) (b := .int .i64 b0) (by kernel_rfl) (by kernel_rfl) (by kernel_rfl) (eqL_cons (a := .int .i64 a1) (b := .int .i64 b1) (by kernel_rfl) (by kernel_rfl) (by kernel_rfl) (eqL_cons (a := .int .u64 a2) (b := .int .u64 b2) (by kernel_rfl) (by kernel_rfl) (by kernel_rfl) (eqL_cons (a := .int .u64 a3) (b := .int .u64 b3) (by kernel_rfl) (by kernel_rfl) (by kernel_rfl) (eqL_cons (a := .bool a4) (b := .bool b4) (by kernel_rfl) (by kernel_rfl) (by kernel_rfl) rfl)))))
theorem acc_neq (x y : Operand) (s : MS) : gBinF Q .neq 95 x y (.agg ⟨accV s⟩) (.agg ⟨accV s⟩) = some (.bool false) := by
  rw [neq_aggF (op := .neq) (by kernel_rfl) (by kernel_rfl) (by kernel_rfl) (accEq _ _ _ _ _ _ _ _ _ _)]
  simp
/-! ### What is told, push by push -/
def PuS.adv (st : Bool) (p : PuS) (s : MS) : PuS × MS := if st then p.step s else (p, s)
theorem PuS.adv_ok {st : Bool} {p : PuS} (hp : p.ok) (hs : s.ok) : (p.adv st s).1.ok ∧ (p.adv st s).2.ok := by
  unfold PuS.adv; split
  · exact hp.step hs
  · exact ⟨hp, hs⟩
theorem told_push (orc : FuncId → Bool) {p : PuS} {b' : Nat} (h : St2 own G m r s s) (hs : s.ok) (hpo : p.ok) (hb : b < G.nx) (hb' : b' < G.nx) (tb : own b = c) (tb' : own b' = c) (hbb : b ≠ b') (hc : c < 10) (hp : PuR G b p) (hp' : RuR G b' p) (st : Bool) :
    Wp ((E orc).cl 37 [.agg ⟨[P0 b, P0 b', .pointer none, .pointer none, .pointer none, .pointer none]⟩, P0 m, P0 r, .bool st] G) fun q => q.1 = .bool true ∧ ∃ own', Agr own own' G ∧ ModT [10, 11, c] own G q.2 ∧ St2 own' q.2 m r (p.adv st s).2 (p.adv st s).2 ∧ PuR q.2 b (p.adv st s).1 ∧ RuR q.2 b' (p.adv st s).1 := by
  refine Wp.ref (f37 (exL_ok Q orc) _ _ _ _ G) ?_
  have x0 : Ext G (G.push ⟨[P0 b, P0 b', .pointer none, .pointer none, .pointer none, .pointer none], 1, false, 1⟩) := (Ext.refl G).push _
  have ob : (G.push ⟨[P0 b, P0 b', .pointer none, .pointer none, .pointer none, .pointer none], 1, false, 1⟩).obj G.nx = some ⟨[P0 b, P0 b', .pointer none, .pointer none, .pointer none, .pointer none], 1, false, 1⟩ := by simp
  have nb : G.nx < (G.push ⟨[P0 b, P0 b', .pointer none, .pointer none, .pointer none, .pointer none], 1, false, 1⟩).nx := by simp
  cases st with
  | false =>
    simp [s37, PuS.adv]
    generalize hG1 : GS.room _ 11 = G1
    have x1 : Ext G G1 := by rw [← hG1]; exact (x0.room 14).room 11
    have o1 : G1.obj G.nx = some ⟨[P0 b, P0 b', .pointer none, .pointer none, .pointer none, .pointer none], 1, false, 1⟩ := by rw [← hG1]; exact ob
    refine Wp.stepE (pusherr_ok orc (hp.kept (x1.obj b hb))) ?_
    simp [o1]
    refine Wp.step (rpusherr_ok orc hpo (hp'.kept (x1.obj b' hb'))) fun G2 x2 => ?_
    have y2 := x1.trans x2
    simp
    exact ⟨_, grown_agr, ModT.ext y2, h.ext y2, hp.kept (y2.obj b hb), hp'.kept (y2.obj b' hb')⟩
  | true =>
    simp [s37, PuS.adv]
    generalize hG1 : GS.room _ 14 = G1
    have x1 : Ext G G1 := by rw [← hG1]; exact x0.room 14
    have o1 : G1.obj G.nx = some ⟨[P0 b, P0 b', .pointer none, .pointer none, .pointer none, .pointer none], 1, false, 1⟩ := by rw [← hG1]; exact ob
    have n1 : G.nx < G1.nx := by rw [← hG1]; simp; omega
    have h1 := h.ext x1
    have tb1 : grown own G 13 b = c := (grown_agr b hb).trans tb
    have tb1' : grown own G 13 b' = c := (grown_agr b' hb').trans tb'
    have to1 : grown own G 13 G.nx = 13 := grown_new (Nat.le_refl _)
    have ag01 : Agr own (grown own G 13) G := grown_agr
    generalize grown own G 13 = own1 at *
    refine Wp.stepW (push_ok orc h1.hm hs hpo (fun k => by have := k.2; omega) (by omega) (hp.kept (x1.obj b hb))) ?_
    rintro _ G2 ⟨rfl, th1, p1⟩
    simp only at th1 p1
    have m2 := Thr.tag th1 tb1
    have o2 := (m2.same n1 (by rw [to1]; simp; omega)).trans o1
    have h2 := h1.p th1 tb1 (by omega)
    have n2 := m2.nx
    have tb2' : grown own1 G1 10 b' = c := (grown_agr b' (by omega)).trans tb1'
    have p2' : RuR G2 b' p := hp'.kept (by rw [th1.mod.obj b' (by omega) (fun k => k.elim (fun k => by have := k.2; omega) fun k => hbb k.symm)]; exact x1.obj b' hb')
    simp [o2]
    refine Wp.stepW (rpush_ok orc h2.hr hs hpo (fun k => by have := k.2; omega) (by omega) p2') ?_
    rintro _ G3 ⟨rfl, th3, p3'⟩
    simp only at th3 p3'
    have m3 := Thr.tag th3 tb2'
    have ag12 : Agr own1 (grown own1 G1 10) G1 := grown_agr
    have to2 : grown own1 G1 10 G.nx = 13 := (ag12 _ n1).trans to1
    have o3 := (m3.same (by omega) (by rw [to2]; simp; omega)).trans o2
    have h3 := h2.q th3 tb2' (by omega)
    have n3 := m3.nx
    have tb2 : grown own1 G1 10 b = c := (ag12 b (by omega)).trans tb1
    have p3 : PuR G3 b (p.step s).1 := p1.kept (th3.mod.obj b (by omega) (fun k => k.elim (fun k => by have := k.2; omega) fun k => hbb k))
    have x4 : Ext G3 (G3.room 11) := (Ext.refl G3).room 11
    simp [o3]
    refine Wp.stepE (pusherr_ok orc (p3.kept (x4.obj b (by omega)))) ?_
    simp [o3]
    refine Wp.step (rpusherr_ok orc (hpo.step hs).1 (p3'.kept (x4.obj b' (by omega)))) fun G5 x5 => ?_
    have y5 := x4.trans x5
    simp
    have n1' : G.nx ≤ G1.nx := by omega
    have ag23 : Agr (grown own1 G1 10) (grown (grown own1 G1 10) G2 11) G2 := grown_agr
    refine ⟨_, ((ag01.trans ag12 n1').trans ag23 (by omega)).trans grown_agr (by omega), ?_, h3.ext y5, p3.kept (y5.obj b (by omega)), p3'.kept (y5.obj b' (by omega))⟩
    exact ((((ModT.ext x1).trans ag01 (m2.mono (by simp))).trans (ag01.trans ag12 n1') (m3.mono (by simp))).trans ((ag01.trans ag12 n1').trans ag23 (by omega)) (ModT.ext y5))
def DrS.adv (st : Bool) (p : DrS) (s : MS) : DrS × MS := if st then p.step s else (p, s)
theorem DrS.adv_ok {st : Bool} {p : DrS} (hp : p.ok) (hs : s.ok) : (p.adv st s).1.ok ∧ (p.adv st s).2.ok := by
  unfold DrS.adv; split
  · exact hp.step hs
  · exact ⟨hp, hs⟩
theorem told_drop (orc : FuncId → Bool) {p : DrS} {b' : Nat} (h : St2 own G m r s s) (hs : s.ok) (hpo : p.ok) (hb : b < G.nx) (hb' : b' < G.nx) (tb : own b = c) (tb' : own b' = c) (hbb : b ≠ b') (hc : c < 10) (hp : PdR G b p) (hp' : RdR G b' p) (st : Bool) :
    Wp ((E orc).cl 37 [.agg ⟨[.pointer none, .pointer none, .pointer none, .pointer none, P0 b, P0 b']⟩, P0 m, P0 r, .bool st] G) fun q => q.1 = .bool true ∧ ∃ own', Agr own own' G ∧ ModT [10, 11, c] own G q.2 ∧ St2 own' q.2 m r (p.adv st s).2 (p.adv st s).2 ∧ PdR q.2 b (p.adv st s).1 ∧ RdR q.2 b' (p.adv st s).1 := by
  refine Wp.ref (f37 (exL_ok Q orc) _ _ _ _ G) ?_
  have x0 : Ext G (G.push ⟨[.pointer none, .pointer none, .pointer none, .pointer none, P0 b, P0 b'], 1, false, 1⟩) := (Ext.refl G).push _
  have ob : (G.push ⟨[.pointer none, .pointer none, .pointer none, .pointer none, P0 b, P0 b'], 1, false, 1⟩).obj G.nx = some ⟨[.pointer none, .pointer none, .pointer none, .pointer none, P0 b, P0 b'], 1, false, 1⟩ := by simp
  have nb : G.nx < (G.push ⟨[.pointer none, .pointer none, .pointer none, .pointer none, P0 b, P0 b'], 1, false, 1⟩).nx := by simp
  cases st with
  | false =>
    simp [s37, DrS.adv]
    generalize hG1 : GS.room _ 11 = G1
    have x1 : Ext G G1 := by rw [← hG1]; exact (x0.room 14).room 11
    have o1 : G1.obj G.nx = some ⟨[.pointer none, .pointer none, .pointer none, .pointer none, P0 b, P0 b'], 1, false, 1⟩ := by rw [← hG1]; exact ob
    refine Wp.stepE (droperr_ok orc (hp.kept (x1.obj b hb))) ?_
    simp [o1]
    refine Wp.step (rdroperr_ok orc hpo (hp'.kept (x1.obj b' hb'))) fun G2 x2 => ?_
    have y2 := x1.trans x2
    simp
    exact ⟨_, grown_agr, ModT.ext y2, h.ext y2, hp.kept (y2.obj b hb), hp'.kept (y2.obj b' hb')⟩
  | true =>
    simp [s37, DrS.adv]
    generalize hG1 : GS.room _ 14 = G1
    have x1 : Ext G G1 := by rw [← hG1]; exact x0.room 14
    have o1 : G1.obj G.nx = some ⟨[.pointer none, .pointer none, .pointer none, .pointer none, P0 b, P0 b'], 1, false, 1⟩ := by rw [← hG1]; exact ob
    have n1 : G.nx < G1.nx := by rw [← hG1]; simp; omega
    have h1 := h.ext x1
    have tb1 : grown own G 13 b = c := (grown_agr b hb).trans tb
    have tb1' : grown own G 13 b' = c := (grown_agr b' hb').trans tb'
    have to1 : grown own G 13 G.nx = 13 := grown_new (Nat.le_refl _)
    have ag01 : Agr own (grown own G 13) G := grown_agr
    generalize grown own G 13 = own1 at *
    refine Wp.stepW (drop_ok orc h1.hm hpo (fun k => by have := k.2; omega) (by omega) (hp.kept (x1.obj b hb))) ?_
    rintro _ G2 ⟨rfl, th1, p1⟩
    simp only at th1 p1
    have m2 := Thr.tag th1 tb1
    have o2 := (m2.same n1 (by rw [to1]; simp; omega)).trans o1
    have h2 := h1.p th1 tb1 (by omega)
    have n2 := m2.nx
    have tb2' : grown own1 G1 10 b' = c := (grown_agr b' (by omega)).trans tb1'
    have p2' : RdR G2 b' p := hp'.kept (by rw [th1.mod.obj b' (by omega) (fun k => k.elim (fun k => by have := k.2; omega) fun k => hbb k.symm)]; exact x1.obj b' hb')
    simp [o2]
    refine Wp.stepW (rdrop_ok orc h2.hr hpo (fun k => by have := k.2; omega) (by omega) p2') ?_
    rintro _ G3 ⟨rfl, th3, p3'⟩
    simp only at th3 p3'
    have m3 := Thr.tag th3 tb2'
    have ag12 : Agr own1 (grown own1 G1 10) G1 := grown_agr
    have to2 : grown own1 G1 10 G.nx = 13 := (ag12 _ n1).trans to1
    have o3 := (m3.same (by omega) (by rw [to2]; simp; omega)).trans o2
    have h3 := h2.q th3 tb2' (by omega)
    have n3 := m3.nx
    have tb2 : grown own1 G1 10 b = c := (ag12 b (by omega)).trans tb1
    have p3 : PdR G3 b (p.step s).1 := p1.kept (th3.mod.obj b (by omega) (fun k => k.elim (fun k => by have := k.2; omega) fun k => hbb k))
    have x4 : Ext G3 (G3.room 11) := (Ext.refl G3).room 11
    simp [o3]
    refine Wp.stepE (droperr_ok orc (p3.kept (x4.obj b (by omega)))) ?_
    simp [o3]
    refine Wp.step (rdroperr_ok orc (hpo.step hs).1 (p3'.kept (x4.obj b' (by omega)))) fun G5 x5 => ?_
    have y5 := x4.trans x5
    simp
    have n1' : G.nx ≤ G1.nx := by omega
    have ag23 : Agr (grown own1 G1 10) (grown (grown own1 G1 10) G2 11) G2 := grown_agr
    refine ⟨_, ((ag01.trans ag12 n1').trans ag23 (by omega)).trans grown_agr (by omega), ?_, h3.ext y5, p3.kept (y5.obj b (by omega)), p3'.kept (y5.obj b' (by omega))⟩
    exact ((((ModT.ext x1).trans ag01 (m2.mono (by simp))).trans (ag01.trans ag12 n1') (m3.mono (by simp))).trans ((ag01.trans ag12 n1').trans ag23 (by omega)) (ModT.ext y5))
def FrS.adv (st : Bool) (p : FrS) (s : MS) : FrS × MS := if st then p.step s else (p, s)
theorem FrS.adv_ok {st : Bool} {p : FrS} (hp : p.ok) (hs : s.ok) : (p.adv st s).1.ok ∧ (p.adv st s).2.ok := by
  unfold FrS.adv; split
  · exact hp.step hs
  · exact ⟨hp, hs⟩
theorem told_front (orc : FuncId → Bool) {p : FrS} {b' : Nat} (h : St2 own G m r s s) (hs : s.ok) (hpo : p.ok) (hb : b < G.nx) (hb' : b' < G.nx) (tb : own b = c) (tb' : own b' = c) (hbb : b ≠ b') (hc : c < 10) (hp : PfR G b p) (hp' : RfR G b' p) (st : Bool) :
    Wp ((E orc).cl 37 [.agg ⟨[.pointer none, .pointer none, P0 b, P0 b', .pointer none, .pointer none]⟩, P0 m, P0 r, .bool st] G) fun q => q.1 = .bool true ∧ ∃ own', Agr own own' G ∧ ModT [10, 11, c] own G q.2 ∧ St2 own' q.2 m r (p.adv st s).2 (p.adv st s).2 ∧ PfR q.2 b (p.adv st s).1 ∧ RfR q.2 b' (p.adv st s).1 := by
  refine Wp.ref (f37 (exL_ok Q orc) _ _ _ _ G) ?_
  have x0 : Ext G (G.push ⟨[.pointer none, .pointer none, P0 b, P0 b', .pointer none, .pointer none], 1, false, 1⟩) := (Ext.refl G).push _
  have ob : (G.push ⟨[.pointer none, .pointer none, P0 b, P0 b', .pointer none, .pointer none], 1, false, 1⟩).obj G.nx = some ⟨[.pointer none, .pointer none, P0 b, P0 b', .pointer none, .pointer none], 1, false, 1⟩ := by simp
  have nb : G.nx < (G.push ⟨[.pointer none, .pointer none, P0 b, P0 b', .pointer none, .pointer none], 1, false, 1⟩).nx := by simp
  cases st with
  | false =>
    simp [s37, FrS.adv]
    generalize hG1 : GS.room _ 14 = G1
    have x1 : Ext G G1 := by rw [← hG1]; exact x0.room 14
    have o1 : G1.obj G.nx = some ⟨[.pointer none, .pointer none, P0 b, P0 b', .pointer none, .pointer none], 1, false, 1⟩ := by rw [← hG1]; exact ob
    refine Wp.step (fval_ok orc (hp.kept (x1.obj b hb))) fun G2 x2 => ?_
    have y2 := x1.trans x2
    have o2 := (x2.obj G.nx (by rw [← hG1]; simp; omega)).trans o1
    simp [o2]
    refine Wp.step (rfval_ok orc hpo (hp'.kept (y2.obj b' hb'))) fun G3 x3 => ?_
    have y3 := y2.trans x3
    have o3 := (x3.obj G.nx (by have := x2.nx; rw [← hG1] at this; simp at this; omega)).trans o2
    have x4 : Ext G3 (G3.room 21) := (Ext.refl G3).room 21
    have y4 := y3.trans x4
    simp [o3]
    refine Wp.stepE (fat_ok orc (hp.kept (y4.obj b hb))) ?_
    simp [o3]
    refine Wp.stepE (rfat_ok orc (hp'.kept (y4.obj b' hb'))) ?_
    simp
    exact ⟨_, grown_agr, ModT.ext y4, h.ext y4, hp.kept (y4.obj b hb), hp'.kept (y4.obj b' hb')⟩
  | true =>
    simp [s37, FrS.adv]
    generalize hG1 : GS.room _ 14 = G1
    have x1 : Ext G G1 := by rw [← hG1]; exact x0.room 14
    have o1 : G1.obj G.nx = some ⟨[.pointer none, .pointer none, P0 b, P0 b', .pointer none, .pointer none], 1, false, 1⟩ := by rw [← hG1]; exact ob
    have n1 : G.nx < G1.nx := by rw [← hG1]; simp; omega
    have h1 := h.ext x1
    have tb1 : grown own G 13 b = c := (grown_agr b hb).trans tb
    have tb1' : grown own G 13 b' = c := (grown_agr b' hb').trans tb'
    have to1 : grown own G 13 G.nx = 13 := grown_new (Nat.le_refl _)
    have ag01 : Agr own (grown own G 13) G := grown_agr
    generalize grown own G 13 = own1 at *
    refine Wp.stepW (front_ok orc h1.hm hs hpo (fun k => by have := k.2; omega) (by omega) (hp.kept (x1.obj b hb))) ?_
    rintro _ G2 ⟨rfl, th1, p1⟩
    simp only at th1 p1
    have m2 := Thr.tag th1 tb1
    have o2 := (m2.same n1 (by rw [to1]; simp; omega)).trans o1
    have h2 := h1.p th1 tb1 (by omega)
    have n2 := m2.nx
    have tb2' : grown own1 G1 10 b' = c := (grown_agr b' (by omega)).trans tb1'
    have p2' : RfR G2 b' p := hp'.kept (by rw [th1.mod.obj b' (by omega) (fun k => k.elim (fun k => by have := k.2; omega) fun k => hbb k.symm)]; exact x1.obj b' hb')
    simp [o2]
    refine Wp.stepW (rfront_ok orc h2.hr hs hpo (fun k => by have := k.2; omega) (by omega) p2') ?_
    rintro _ G3 ⟨rfl, th3, p3'⟩
    simp only at th3 p3'
    have m3 := Thr.tag th3 tb2'
    have ag12 : Agr own1 (grown own1 G1 10) G1 := grown_agr
    have to2 : grown own1 G1 10 G.nx = 13 := (ag12 _ n1).trans to1
    have o3 := (m3.same (by omega) (by rw [to2]; simp; omega)).trans o2
    have h3 := h2.q th3 tb2' (by omega)
    have n3 := m3.nx
    have tb2 : grown own1 G1 10 b = c := (ag12 b (by omega)).trans tb1
    have p3 : PfR G3 b (p.step s).1 := p1.kept (th3.mod.obj b (by omega) (fun k => k.elim (fun k => by have := k.2; omega) fun k => hbb k))
    simp [o3]
    refine Wp.step (fval_ok orc p3) fun G4 x4 => ?_
    have o4 := (x4.obj G.nx (by omega)).trans o3
    simp [o4]
    refine Wp.step (rfval_ok orc (hpo.step hs).1 (p3'.kept (x4.obj b' (by omega)))) fun G5 x5 => ?_
    have n4 := x4.nx
    have o5 := (x5.obj G.nx (by omega)).trans o4
    have y5 := (x4.trans x5).room 21
    simp [o5]
    refine Wp.stepE (fat_ok orc (p3.kept (y5.obj b (by omega)))) ?_
    simp [o5]
    refine Wp.stepE (rfat_ok orc (p3'.kept (y5.obj b' (by omega)))) ?_
    simp
    have n1' : G.nx ≤ G1.nx := by omega
    have ag23 : Agr (grown own1 G1 10) (grown (grown own1 G1 10) G2 11) G2 := grown_agr
    refine ⟨_, ((ag01.trans ag12 n1').trans ag23 (by omega)).trans grown_agr (by omega), ?_, h3.ext y5, p3.kept (y5.obj b (by omega)), p3'.kept (y5.obj b' (by omega))⟩
    exact ((((ModT.ext x1).trans ag01 (m2.mono (by simp))).trans (ag01.trans ag12 n1') (m3.mono (by simp))).trans ((ag01.trans ag12 n1').trans ag23 (by omega)) (ModT.ext y5))
end
end Go.Proofs.Ytocbppgkgcoehaa.Lift

set_option linter.unusedVariables false
set_option linter.unusedSimpArgs false
set_option maxRecDepth 20000
namespace Go.Proofs.Ytocbppgkgcoehaa.Lift
open Go Go.Proofs.Ytocbppgkgcoehaa.Gh Go.Proofs
/-! ### What a core is within -/
inductive OpS where
  | idle
  | push (p : PuS)
  | front (p : FrS)
  | drop (p : DrS)
def OpS.V : OpS → Nat → Nat → List Value
  | .idle, _, _ => [.pointer none, .pointer none, .pointer none, .pointer none, .pointer none, .pointer none]
  | .push _, b, b' => [P0 b, P0 b', .pointer none, .pointer none, .pointer none, .pointer none]
  | .front _, b, b' => [.pointer none, .pointer none, P0 b, P0 b', .pointer none, .pointer none]
  | .drop _, b, b' => [.pointer none, .pointer none, .pointer none, .pointer none, P0 b, P0 b']
def OpS.ok : OpS → Prop
  | .idle => True
  | .push p => p.ok
  | .front p => p.ok
  | .drop p => p.ok
def OpS.R (G : GS) (b b' : Nat) : OpS → Prop
  | .idle => True
  | .push p => PuR G b p ∧ RuR G b' p
  | .front p => PfR G b p ∧ RfR G b' p
  | .drop p => PdR G b p ∧ RdR G b' p
def OpS.adv (st : Bool) : OpS → MS → OpS × MS
  | .idle, s => (.idle, s)
  | .push p, s => (.push (p.adv st s).1, (p.adv st s).2)
  | .front p, s => (.front (p.adv st s).1, (p.adv st s).2)
  | .drop p, s => (.drop (p.adv st s).1, (p.adv st s).2)
theorem OpS.len (o : OpS) (b b' : Nat) : (o.V b b').length = 6 := by cases o <;> rfl
theorem OpS.ones (o : OpS) (b b' : Nat) : (o.V b b').all one = true := by cases o <;> rfl
theorem OpS.R.kept {G G' : GS} {b b' : Nat} {o : OpS} (h : o.R G b b') (k : G'.obj b = G.obj b) (k' : G'.obj b' = G.obj b') : o.R G' b b' := by
  cases o with
  | idle => trivial
  | push p => exact ⟨h.1.kept k, h.2.kept k'⟩
  | front p => exact ⟨h.1.kept k, h.2.kept k'⟩
  | drop p => exact ⟨h.1.kept k, h.2.kept k'⟩
theorem OpS.adv_ok {st : Bool} {o : OpS} {s : MS} (ho : o.ok) (hs : s.ok) : (o.adv st s).1.ok ∧ (o.adv st s).2.ok := by
  cases o with
  | idle => exact ⟨ho, hs⟩
  | push p => exact PuS.adv_ok ho hs
  | front p => exact FrS.adv_ok ho hs
  | drop p => exact DrS.adv_ok ho hs
theorem OpS.adv_V {st : Bool} {o : OpS} {s : MS} (b b' : Nat) : (o.adv st s).1.V b b' = o.V b b' := by cases o <;> rfl
section
variable {own own' : Nat → Nat} {G G' G0 : GS} {m r b c : Nat} {s s' s1 : MS} {ts : List Nat} {R : Rg}
theorem told_ok (orc : FuncId → Bool) {o : OpS} {b' : Nat} (h : St2 own G m r s s) (hs : s.ok) (hpo : o.ok) (hb : b < G.nx) (hb' : b' < G.nx) (tb : own b = c) (tb' : own b' = c) (hbb : b ≠ b') (hc : c < 10) (hp : o.R G b b') (st : Bool) :
    Wp ((E orc).cl 37 [.agg ⟨o.V b b'⟩, P0 m, P0 r, .bool st] G) fun q => q.1 = .bool true ∧ ∃ own', Agr own own' G ∧ ModT [10, 11, c] own G q.2 ∧ St2 own' q.2 m r (o.adv st s).2 (o.adv st s).2 ∧ (o.adv st s).1.R q.2 b b' := by
  cases o with
  | idle =>
    refine Wp.ref (f37 (exL_ok Q orc) _ _ _ _ G) ?_
    simp [s37, OpS.V]
    have x : Ext G (G.push ⟨[.pointer none, .pointer none, .pointer none, .pointer none, .pointer none, .pointer none], 1, false, 1⟩) := (Ext.refl G).push _
    exact ⟨_, grown_agr, ModT.ext x, h.ext x, trivial⟩
  | push p => exact told_push orc h hs hpo hb hb' tb tb' hbb hc hp.1 hp.2 st
  | front p => exact told_front orc h hs hpo hb hb' tb tb' hbb hc hp.1 hp.2 st
  | drop p => exact told_drop orc h hs hpo hb hb' tb tb' hbb hc hp.1 hp.2 st
def newOp (R : Rg) (what v h : Int) : OpS := if what = 1 then .push (newPu R v) else if what = 2 then .front (newFr R) else .drop (newDr R h)
theorem newOp_ok (R : Rg) (what v : Int) {h : Int} (hh : U h) : (newOp R what v h).ok := by
  unfold newOp
  split
  · exact newPu_ok R v
  · split
    · exact newFr_ok R
    · exact newDr_ok R hh
theorem begin_ok (orc : FuncId → Bool) (R : Rg) (core what v h : Int) (G : GS) : Wp ((E orc).cl 36 [R.v, .agg ⟨[.int .i64 core, .int .i64 what, .int .i64 v, .int .u64 h]⟩] G) fun q => ∃ b b', q.1 = .agg ⟨(newOp R what v h).V b b'⟩ ∧ Ext G q.2 ∧ G.nx ≤ b ∧ b < q.2.nx ∧ G.nx ≤ b' ∧ b' < q.2.nx ∧ b ≠ b' ∧ (newOp R what v h).R q.2 b b' := by
  refine Wp.ref (f36 (exL_ok Q orc) _ _ G) ?_
  have x0 : Ext G (((G.push ⟨R.cells, 1, false, 1⟩).push ⟨[.int .i64 core, .int .i64 what, .int .i64 v, .int .u64 h], 1, false, 1⟩).push ⟨z88, 1, false, 1⟩) := (((Ext.refl G).push _).push _).push _
  have q0 : (((G.push ⟨R.cells, 1, false, 1⟩).push ⟨[.int .i64 core, .int .i64 what, .int .i64 v, .int .u64 h], 1, false, 1⟩).push ⟨z88, 1, false, 1⟩).obj G.nx = some ⟨R.cells, 1, false, 1⟩ := by simp [Nat.add_assoc]
  have q1 : (((G.push ⟨R.cells, 1, false, 1⟩).push ⟨[.int .i64 core, .int .i64 what, .int .i64 v, .int .u64 h], 1, false, 1⟩).push ⟨z88, 1, false, 1⟩).obj (G.nx + 1) = some ⟨[.int .i64 core, .int .i64 what, .int .i64 v, .int .u64 h], 1, false, 1⟩ := by simp [Nat.add_assoc]
  have q2 : (((G.push ⟨R.cells, 1, false, 1⟩).push ⟨[.int .i64 core, .int .i64 what, .int .i64 v, .int .u64 h], 1, false, 1⟩).push ⟨z88, 1, false, 1⟩).obj (G.nx + 2) = some ⟨z88, 1, false, 1⟩ := by simp
  have nG : (((G.push ⟨R.cells, 1, false, 1⟩).push ⟨[.int .i64 core, .int .i64 what, .int .i64 v, .int .u64 h], 1, false, 1⟩).push ⟨z88, 1, false, 1⟩).nx = G.nx + 3 := rfl
  simp only [s36, bx_t, bS_some, al_t, cells_agg]
  generalize hG1 : GS.push (GS.push (GS.push G _) _) _ = G1
  rw [hG1] at x0 q0 q1 q2 nG
  clear hG1
  have fin : ∀ {G' : GS} {b b' : Nat} (o : OpS), Ext G1 G' → G1.nx ≤ b → b < G'.nx → G1.nx ≤ b' → b' < G'.nx → b ≠ b' → o.R G' b b' → Ext G (G'.put (G.nx + 2) ⟨o.V b b', 1, false, 1⟩) ∧ G.nx ≤ b ∧ b < (G'.put (G.nx + 2) ⟨o.V b b', 1, false, 1⟩).nx ∧ G.nx ≤ b' ∧ b' < (G'.put (G.nx + 2) ⟨o.V b b', 1, false, 1⟩).nx ∧ b ≠ b' ∧ o.R (G'.put (G.nx + 2) ⟨o.V b b', 1, false, 1⟩) b b' := by
    intro G' b b' o x h1 h2 h3 h4 h5 h6
    exact ⟨(x0.trans x).put (by omega) _, by omega, h2, by omega, h4, h5, h6.kept (by rw [obj_put, if_neg (by omega)]) (by rw [obj_put, if_neg (by omega)])⟩
  by_cases h1 : what = 1
  · subst h1
    simp [q0, q1, newOp]
    refine Wp.stepX (newpush_ok orc R v _) fun b G2 ⟨x2, b1, b2, b3⟩ => ?_
    have y2 := ((Ext.refl G1).room 10).trans x2
    have n2 := y2.nx
    have o0 := (y2.obj _ (by omega)).trans q0
    have o1 := (y2.obj _ (by omega)).trans q1
    simp [o0, o1]
    refine Wp.stepX (rnewpush_ok orc R v _) fun b' G3 ⟨x3, c1, c2, c3⟩ => ?_
    have y3 := y2.trans x3
    have o2 := (y3.obj _ (by omega)).trans q2
    simp [o2]
    exact ⟨b, b', rfl, fin (.push (newPu R v)) y3 (by simp at b1; omega) (by have := x3.nx; omega) (by omega) c2 (by omega) ⟨b3.kept (x3.obj _ b2), c3⟩⟩
  by_cases h2 : what = 2
  · subst h2
    simp [q0, q1, newOp]
    refine Wp.stepX (newfront_ok orc R _) fun b G2 ⟨x2, b1, b2, b3⟩ => ?_
    have y2 := ((Ext.refl G1).room 6).trans x2
    have n2 := y2.nx
    have o0 := (y2.obj _ (by omega)).trans q0
    simp [o0]
    refine Wp.stepX (rnewfront_ok orc R _) fun b' G3 ⟨x3, c1, c2, c3⟩ => ?_
    have y3 := y2.trans x3
    have o2 := (y3.obj _ (by omega)).trans q2
    simp [o2]
    exact ⟨b, b', rfl, fin (.front (newFr R)) y3 (by simp at b1; omega) (by have := x3.nx; omega) (by omega) c2 (by omega) ⟨b3.kept (x3.obj _ b2), c3⟩⟩
  · simp [q0, q1, h1, h2, newOp]
    refine Wp.stepX (newdrop_ok orc R h _) fun b G2 ⟨x2, b1, b2, b3⟩ => ?_
    have y2 := ((Ext.refl G1).room 10).trans x2
    have n2 := y2.nx
    have o0 := (y2.obj _ (by omega)).trans q0
    have o1 := (y2.obj _ (by omega)).trans q1
    simp [o0, o1]
    refine Wp.stepX (rnewdrop_ok orc R h _) fun b' G3 ⟨x3, c1, c2, c3⟩ => ?_
    have y3 := y2.trans x3
    have o2 := (y3.obj _ (by omega)).trans q2
    simp [o2]
    exact ⟨b, b', rfl, fin (.drop (newDr R h)) y3 (by simp at b1; omega) (by have := x3.nx; omega) (by omega) c2 (by omega) ⟨b3.kept (x3.obj _ b2), c3⟩⟩
end
end Go.Proofs.Ytocbppgkgcoehaa.Lift

set_option linter.unusedVariables false
set_option linter.unusedSimpArgs false
set_option maxRecDepth 20000
namespace Go.Proofs.Ytocbppgkgcoehaa.Lift
open Go Go.Proofs.Ytocbppgkgcoehaa.Gh Go.Proofs
def putsN : List Int → Nat → MS → MS
  | [], _, s => s
  | w :: l, i, s => putsN l (i + 1) (s.store i w)
theorem putsN_ok : ∀ (l : List Int) (i : Nat) {s : MS}, (∀ w ∈ l, U w) → s.ok → (putsN l i s).ok
  | [], _, s, _, h => h
  | w :: l, i, s, hw, h => putsN_ok l (i + 1) (fun x hx => hw x (by simp [hx])) (h.store _ (hw w (by simp)))
theorem zero_ok {n : Nat} (h : n ≤ 4096) : (MS.zero n).ok := ⟨fun w hw => by
  have : w = 0 := by simpa [MS.zero] using List.eq_of_mem_replicate hw
  rw [this]; exact U_zero, by simpa [MS.zero] using h⟩
section
variable {own own' : Nat → Nat} {G G' G0 : GS} {m r b c : Nat} {s s' s1 : MS} {ts : List Nat} {R : Rg}
theorem St2.p' (h : St2 own G m r s s') (q : ModP (Tag own G 10) G G') (k : PMx (Grow (Tag own G 10) G G') G' m s1) : St2 (grown own G 10) G' m r s1 s' ∧ ModT [10] own G G' :=
  have m1 : ModT [10] own G G' := ModT.of q (by simp)
  ⟨⟨(sepP m s1).step q.nx k, (sepR r s').tag h.hr m1 (by simp) grown_agr⟩, m1⟩
theorem St2.q' (h : St2 own G m r s s') (q : ModP (Tag own G 11) G G') (k : RMx (Grow (Tag own G 11) G G') G' r s1) : St2 (grown own G 11) G' m r s s1 ∧ ModT [11] own G G' :=
  have m1 : ModT [11] own G G' := ModT.of q (by simp)
  ⟨⟨(sepP m s).tag h.hm m1 (by simp) grown_agr, (sepR r s1).step q.nx k⟩, m1⟩
theorem laid_lp (orc : FuncId → Bool) {v2 : Value} {W : List Int} (hv : SlR (rowsI .u64) G0 v2 W) (hW : W.length < 2 ^ 40) (hi0 : ∀ x, InB v2 x → own x ∉ [10, 11]) : ∀ (k i : Nat) (τ : Env) (G : GS) (own' : Nat → Nat) (s : MS), i + k = W.length → τ 2 = v2 → τ 8 = P0 m → τ 10 = P0 r → τ 12 = .int .i64 i →
    Agr own own' G0 → ModT [10, 11] own G0 G → St2 own' G m r s s →
    Wp ((exL Q orc).lpx 35 0 τ G) fun q => q.1 = .exit 0 ∧ q.2.1 8 = P0 m ∧ q.2.1 10 = P0 r ∧ ∃ own'', Agr own own'' G0 ∧ ModT [10, 11] own G0 q.2.2 ∧ St2 own'' q.2.2 m r (putsN (W.drop i) i s) (putsN (W.drop i) i s) := by
  intro k
  induction k with
  | zero =>
    intro i τ G own' s hi t2 t8 t10 t12 ha hm h
    have hi' : i = W.length := by omega
    subst hi'
    obtain ⟨a, c, rfl⟩ := hv.len
    refine Wp.lp (l35_0 (exL_ok Q orc)) ?_
    simp [b35_0, clip_t, t2, t8, t10, t12, putsN]
    exact ⟨own', ha, hm, h⟩
  | succ k ih =>
    intro i τ G own' s hi t2 t8 t10 t12 ha hm h
    have hlt : i < W.length := by omega
    have hi0' : (0 : Int) ≤ i := by omega
    have hw : IntKind.wrap .i64 ((i : Int) + 1) = ((i + 1 : Nat) : Int) := wrap64 (by omega) (by omega)
    have kv : ∀ {G'}, ModT [10, 11] own G0 G' → SlR (rowsI .u64) G' v2 W := fun q => hv.kept q.nx fun g hg => q.same (hv.under g hg) (hi0 g hg)
    obtain ⟨b, o, c, e0, _, q0, _⟩ := (kv hm).at hlt
    have q1 := q0 0 (by decide)
    simp at q1
    have hl := hv.len
    refine Wp.lp (l35_0 (exL_ok Q orc)) ?_
    simp [-Int.natCast_add, b35_0, clip_t, t2, t8, t10, t12, e0, hlt, hi0', q1]
    obtain ⟨bb, rest, hmm⟩ := h.hm
    refine Wp.stepW (store_ok orc hmm i W[i]) ?_
    rintro _ G1 ⟨rfl, p1, p2⟩
    simp only at p1 p2
    obtain ⟨h1, m1⟩ := h.p' p1 p2
    have hm1 : ModT [10, 11] own G0 G1 := hm.trans ha (m1.mono (by simp))
    have ha1 : Agr own (grown own' G 10) G0 := ha.trans grown_agr hm.nx
    obtain ⟨b', o', c', e0', _, q0', _⟩ := (kv hm1).at hlt
    have q1' := q0' 0 (by decide)
    rw [e0] at e0'
    cases e0'
    simp at q1'
    simp [-Int.natCast_add, hlt, hi0', q1']
    obtain ⟨wb, hrr⟩ := h1.hr
    refine Wp.stepW (rstore_ok orc hrr i W[i]) ?_
    rintro _ G2 ⟨rfl, p3, p4⟩
    simp only at p3 p4
    obtain ⟨h2, m2⟩ := h1.q' p3 p4
    have hm2 : ModT [10, 11] own G0 G2 := hm1.trans ha1 (m2.mono (by simp))
    have ha2 : Agr own (grown (grown own' G 10) G1 11) G0 := ha1.trans grown_agr hm1.nx
    simp [-Int.natCast_add, hw]
    rw [List.drop_eq_getElem_cons hlt]
    exact ih (i + 1) _ G2 _ _ (by omega) (by simp [clip_t, e0]) (by simp [clip_t]) (by simp [clip_t]) (by simp [clip_t]) ha2 hm2 h2
def laidI (R : Rg) (n : Int) (W : List Int) : MS := putsN W 0 (fillI R (MS.zero n.toNat))
theorem laid_ok (orc : FuncId → Bool) (R : Rg) {n : Int} (h1 : 1 ≤ n) (h2 : n ≤ 4096) {v2 : Value} {W : List Int} (hv : SlR (rowsI .u64) G v2 W) (hW : W.length < 2 ^ 40) :
    Wp ((E orc).cl 35 [R.v, .int .i64 n, v2] G) fun q => ∃ m r own, q.1 = .tuple #[P0 m, P0 r] ∧ Ext G q.2 ∧ St2 own q.2 m r (laidI R n W) (laidI R n W) ∧ ∀ x, x < G.nx → own x = 20 := by
  refine Wp.ref (f35 (exL_ok Q orc) _ _ _ G) ?_
  have x0 : Ext G (G.push ⟨R.cells, 1, false, 1⟩) := (Ext.refl G).push _
  simp [s35]
  refine Wp.stepX ((new_ok orc n _).2 h1 h2) fun m G1 ⟨x1, hm⟩ => ?_
  have y1 := x0.trans x1
  simp
  refine Wp.stepX ((rnew_ok orc n _).2 h1 h2) fun r G2 ⟨x2, hr⟩ => ?_
  have n1 := x1.nx
  have n2 := x2.nx
  simp only [nx_push] at n1
  have o0 : G2.obj G.nx = some ⟨R.cells, 1, false, 1⟩ := by rw [x2.obj _ (by omega), x1.obj _ (by simp)]; simp
  obtain ⟨own0, hown⟩ : ∃ own0 : Nat → Nat, own0 = fun x => if x < G.nx then 20 else if x < G.nx + 1 then 13 else if x < G1.nx then 10 else 11 := ⟨_, rfl⟩
  have hs : St2 own0 G2 m r (MS.zero n.toNat) (MS.zero n.toNat) := by
    refine ⟨(sepP m _).mono (hm.ext x2) (fun x hx => ⟨by omega, ?_⟩) Tag.under, (sepR r _).mono hr (fun x hx => ⟨hx.2, ?_⟩) Tag.under⟩
    · have k1 := hx.1; have k2 := hx.2; simp only [nx_push] at k1; rw [hown]; simp only
      rw [if_neg (by omega), if_neg (by omega), if_pos (by omega)]
    · have := hx.1; rw [hown]; simp only
      rw [if_neg (by omega), if_neg (by omega), if_neg (by omega)]
  have y2 := y1.trans x2
  simp [o0]
  refine Wp.stepW (fill_ok orc hs.hm R) ?_
  rintro _ G3 ⟨rfl, p1, p2⟩
  simp only at p1 p2
  obtain ⟨hs1, m1⟩ := hs.p' p1 p2
  have t0 : own0 G.nx = 13 := by rw [hown]; simp
  have o1 := (m1.same (g := G.nx) (by omega) (by rw [t0]; simp)).trans o0
  simp [o1]
  refine Wp.stepW (rfill_ok orc hs1.hr R) ?_
  rintro _ G4 ⟨rfl, p3, p4⟩
  simp only at p3 p4
  obtain ⟨hs2, m2⟩ := hs1.q' p3 p4
  have m12 : ModT [10, 11] own0 G2 G4 := (m1.mono (by simp)).trans grown_agr (m2.mono (by simp))
  have ag2 : Agr own0 (grown (grown own0 G2 10) G3 11) G2 := Agr.trans grown_agr grown_agr m1.nx
  have t20 : ∀ x, x < G.nx → own0 x = 20 := fun x hx => by rw [hown]; simp only; rw [if_pos hx]
  refine Wp.bE ((laid_lp orc (G0 := G2) (own := own0) (hv.ext y2) hW (fun x hx => by rw [t20 x (hv.under x hx)]; simp) W.length 0 _ G4 _ _ (by omega) (by simp) (by simp) (by simp) (by simp) ag2 m12 hs2).mono ?_)
  rintro ⟨e, τ, G5⟩ ⟨rfl, q1, q2, own', q3, q4, q5⟩
  simp only at q1 q2 q4 q5
  simp [q1, q2]
  refine ⟨m, r, ⟨rfl, rfl⟩, q4.toExt (fun g hg => by rw [t20 g hg]; simp) y2, own', ?_, fun x hx => (q3 x (by omega)).trans (t20 x hx)⟩
  simpa [laidI] using q5
end
end Go.Proofs.Ytocbppgkgcoehaa.Lift

