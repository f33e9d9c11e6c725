/- contracts of the program's functions -/
import Derived.Test.YtfmkihikmlcimaaMD
import Derived.Test.YtfmkihikmlcimaaMC
set_option linter.unusedVariables false
set_option linter.unusedSimpArgs false
set_option maxRecDepth 20000
namespace Go.Proofs.Ytfmkihikmlcimaa.Lift
open Go Go.Proofs.Ytfmkihikmlcimaa.Gh Go.Proofs
/-! ### A Drain's step: the program's -/
@[simp] theorem stO_iface (o k : Nat) (v : Value) (cs : List Value) (e : Nat) (op : Bool) : stO 1 o (.iface k v) (some ⟨cs, e, op, 1⟩) = if o < cs.length then some ⟨cs.set o (.iface k v), e, op, 1⟩ else none := stO_one _ _ rfl _ _ _
@[simp] theorem stO_nilIface (o : Nat) (cs : List Value) (e : Nat) (op : Bool) : stO 1 o .nilIface (some ⟨cs, e, op, 1⟩) = if o < cs.length then some ⟨cs.set o .nilIface, e, op, 1⟩ else none := stO_one _ _ rfl _ _ _
theorem inv_front (orc : FuncId → Bool) (q m : Nat) (G : GS) : cInvoke Q (evL Q orc) (.iface 152 (P0 q)) "Step" [P0 m] G = (E orc).cl 168 [P0 q, P0 m] G := by kernel_rfl
theorem inv_drop (orc : FuncId → Bool) (q m : Nat) (G : GS) : cInvoke Q (evL Q orc) (.iface 188 (P0 q)) "Step" [P0 m] G = (E orc).cl 170 [P0 q, P0 m] G := by kernel_rfl
theorem as_ff (q : Nat) : gAssert Q (.iface 152 (P0 q)) 152 true = some (.tuple #[P0 q, .bool true]) := by kernel_rfl
theorem as_df (q : Nat) : gAssert Q (.iface 188 (P0 q)) 152 true = some (.tuple #[.pointer none, .bool false]) := by kernel_rfl
theorem as_dd (q : Nat) : gAssert Q (.iface 188 (P0 q)) 188 true = some (.tuple #[P0 q, .bool true]) := by kernel_rfl
theorem eq_fn (n q : Nat) : gBinF Q .eql 149 (.tmp n) (.const .nilIface) (.iface 152 (P0 q)) .nilIface = some (.bool false) := by kernel_rfl
theorem eq_dn (n q : Nat) : gBinF Q .eql 149 (.tmp n) (.const .nilIface) (.iface 188 (P0 q)) .nilIface = some (.bool false) := by kernel_rfl
theorem eq_nn (n : Nat) : gBinF Q .eql 149 (.tmp n) (.const .nilIface) .nilIface .nilIface = some (.bool true) := by kernel_rfl
section
variable {own own1 : Nat → Nat} {t b m r : Nat} {G G1 : GS} {s : MS}
theorem OwT.app {tk x : Value} {l : List Int} {y : Int} (h : OwT own1 t G1 tk l) (w : PW (Own own t) own G own1 G1 m s) (ht : t ≠ 10) (hx : SlR (rowsI .i64) G1 x [y]) (hl : l.length < 2 ^ 36) :
    ∃ v' G2, appK 1 8 tk x G1 = some (v', G2) ∧ PW (Own own t) own G (grown own1 G1 t) G2 m s ∧ OwT (grown own1 G1 t) t G2 v' (l ++ [y]) ∧ (∀ g, InB v' g → G1.nx ≤ g) ∧ ModP (InB tk) G1 G2 := by
  obtain ⟨v', G2, e, md, ow⟩ := h.ow.app_mod (ib := 8) (by decide) hx (by simp) (by simp; omega)
  simp only [rowsI_sz] at e
  refine ⟨v', G2, e, w.modT (md.mono fun g hg => h.tag g hg) ht t, ⟨ow.mono (Nat.zero_le _), fun g hg => grown_new (ow.from hg)⟩, fun g hg => ow.from hg, md⟩
theorem OwT.appR {tk x : Value} {l : List Int} {y : Int} (h : OwT own1 t G1 tk l) (w : RW (Own own t) own G own1 G1 r s) (ht : t ≠ 11) (hx : SlR (rowsI .i64) G1 x [y]) (hl : l.length < 2 ^ 36) :
    ∃ v' G2, appK 1 8 tk x G1 = some (v', G2) ∧ RW (Own own t) own G (grown own1 G1 t) G2 r s ∧ OwT (grown own1 G1 t) t G2 v' (l ++ [y]) ∧ (∀ g, InB v' g → G1.nx ≤ g) ∧ ModP (InB tk) G1 G2 := by
  obtain ⟨v', G2, e, md, ow⟩ := h.ow.app_mod (ib := 8) (by decide) hx (by simp) (by simp; omega)
  simp only [rowsI_sz] at e
  refine ⟨v', G2, e, w.modT (md.mono fun g hg => h.tag g hg) ht t, ⟨ow.mono (Nat.zero_le _), fun g hg => grown_new (ow.from hg)⟩, fun g hg => ow.from hg, md⟩
theorem OwT.putO {tk : Value} {l : List Int} (h : OwT own t G tk l) (nb : ¬ InB tk b) (o : GObj) : OwT own t (G.put b o) tk l :=
  h.to (Nat.le_refl _) (fun g hg => by rw [obj_put, if_neg (fun (e : g = b) => nb (by rw [← e]; exact hg))]) (Agr.refl _ _)
theorem OwT.extO {tk : Value} {l : List Int} (h : OwT own t G tk l) (x : Ext G G1) (u : Nat) : OwT (grown own G u) t G1 tk l := h.to x.nx (fun g hg => x.obj g (h.lt hg)) grown_agr
theorem dnfr_ok (orc : FuncId → Bool) {R : Rg} {mo : Int} {l : List Int} {p : FrS} (h : PM own G m s) (hs : s.ok) (hR : R.ok) (hpo : p.ok) (ht : t ≠ 10) (hb : At own t G b) (hp : DnP own t G b (.fr R mo l p)) :
    ∃ own1 G1, (E orc).cl 66 [P0 b, P0 m] G = some (.bool (DnS.afterF R mo l (p.step s).1).over, G1) ∧ PW (Own own t) own G own1 G1 m (p.step s).2 ∧ DnP own1 t G1 b (DnS.afterF R mo l (p.step s).1) := by
  obtain ⟨q, tk, v, o, ow, nb, hq, bq, nq, kf⟩ := hp
  have one0 := ow.one
  obtain ⟨⟨x, G1⟩, e, rfl, th, k⟩ := front_ok orc h hs hpo (PM.notIn hq.tag ht) hq.lt kf
  simp only at th k
  have w1 := PW.ofThr th hq.tag
  have o1 := (th.keep hb.lt (PM.notIn hb.tag ht) bq).trans o
  have hb1 : At (grown own G 10) t G1 b := hb.to th.mod.nx grown_agr
  have hq1 : At (grown own G 10) t G1 q := hq.to th.mod.nx grown_agr
  have ow1 : OwT (grown own G 10) t G1 tk l := ow.to th.mod.nx (fun g hg => th.keep (ow.lt hg) (PM.notIn (ow.tag g hg) ht) (fun e => nq (by rw [← e]; exact hg))) grown_agr
  generalize grown own G 10 = own1 at *
  generalize hpp : (p.step s).1 = p' at *
  unfold DnS.afterF
  have iv := (inv_front orc q m G).trans e
  cases ho : p'.over with
  | false =>
    rw [ho] at iv
    refine ⟨_, G1, f66 (exL_ok Q orc) _ _ G _ ?_, w1, q, tk, v, o1, ow1, nb, hq1, bq, nq, k⟩
    simp [jb66_0, j66_0, sb66, s66, clip_t, o, eq_fn, iv, DnS.over]
  | true =>
    rw [ho] at iv
    obtain ⟨G2, e2, x2⟩ := fval_ok orc k
    have w2 := w1.extT x2 t
    have o2 := (x2.obj b hb1.lt).trans o1
    have hb2 := hb1.extO x2 t
    have ow2 := ow1.extO x2 t
    have hq2 := hq1.extO x2 t
    have k2 : PfR G2 q p' := k.kept (x2.obj q hq1.lt)
    generalize grown own1 G1 t = own2 at *
    obtain ⟨G3, hG3⟩ : ∃ G3, G3 = (G2.put b ⟨[.bool true, .int .i64 R.head, .int .i64 R.tail, .int .i64 R.slots, .int .i64 R.size, .int .i64 mo, .iface 152 (P0 q), tk, .int .i64 p'.val, .int .i64 0], 1, false, 1⟩).put b ⟨[.bool true, .int .i64 R.head, .int .i64 R.tail, .int .i64 R.slots, .int .i64 R.size, .int .i64 mo, .nilIface, tk, .int .i64 p'.val, .int .i64 0], 1, false, 1⟩ := ⟨_, rfl⟩
    have w3 : PW (Own own t) own G own2 G3 m (p.step s).2 := by rw [hG3]; exact (w2.putT hb2.tag ht _).putT hb2.tag ht _
    have o3 : G3.obj b = some ⟨[.bool true, .int .i64 R.head, .int .i64 R.tail, .int .i64 R.slots, .int .i64 R.size, .int .i64 mo, .nilIface, tk, .int .i64 p'.val, .int .i64 0], 1, false, 1⟩ := by rw [hG3]; simp
    have ow3 : OwT own2 t G3 tk l := by rw [hG3]; exact (ow2.putO nb _).putO nb _
    have hb3 : At own2 t G3 b := by rw [hG3]; exact (hb2.putO _ _).putO _ _
    have k3 : PfR G3 q p' := k2.kept (by rw [hG3, obj_put, if_neg (fun e => bq e.symm), obj_put, if_neg (fun e => bq e.symm)])
    by_cases he : p'.err = 0
    · rw [if_pos rfl, if_pos he]
      rw [he] at e2
      have x4 : Ext G3 (G3.room 12) := (Ext.refl _).room 12
      have k4 : PfR (G3.room 12) q p' := k3.kept (by simp)
      have e4 := fat_ok orc k4
      obtain ⟨d, G5, e5, x5, d1, d2, k5⟩ := newdrop_ok orc R p'.at' (G3.room 12)
      have y5 := x4.trans x5
      have w5 := w3.extT y5 t
      have o5 := (y5.obj b hb3.lt).trans o3
      have hb5 := hb3.extO y5 t
      have ow5 := ow3.extO y5 t
      have d1' : G3.nx ≤ d := by simp at d1; omega
      have hd5 : At (grown own2 G3 t) t G5 d := At.new d1' d2
      have bd : b ≠ d := by have := hb3.lt; omega
      refine ⟨_, G5.put b ⟨[.bool true, .int .i64 R.head, .int .i64 R.tail, .int .i64 R.slots, .int .i64 R.size, .int .i64 mo, .iface 188 (P0 d), tk, .int .i64 p'.val, .int .i64 0], 1, false, 1⟩, f66 (exL_ok Q orc) _ _ G _ ?_, w5.putT hb5.tag ht _, d, tk, by simp, ow5.putO nb _, nb, hd5.putO _ _, bd, fun hg => by have := ow3.lt hg; omega, k5.kept (by rw [obj_put, if_neg (fun e => bd e.symm)])⟩
      simp [jb66_0, j66_0, sb66, s66, clip_t, o, eq_fn, eq_dn, iv, o1, as_ff, e2, o2, ← hG3, o3, e4, e5, o5, DnS.over]
    · rw [if_pos rfl, if_neg he]
      refine ⟨_, G3, f66 (exL_ok Q orc) _ _ G _ ?_, w3, R.head, R.tail, R.slots, R.size, mo, tk, p'.val, o3, ow3, nb⟩
      simp [jb66_0, j66_0, sb66, s66, clip_t, o, eq_fn, eq_nn, iv, o1, as_ff, e2, o2, he, ← hG3, o3, DnS.over]
end
end Go.Proofs.Ytfmkihikmlcimaa.Lift

set_option linter.unusedVariables false
set_option linter.unusedSimpArgs false
set_option maxRecDepth 20000
namespace Go.Proofs.Ytfmkihikmlcimaa.Lift
open Go Go.Proofs.Ytfmkihikmlcimaa.Gh Go.Proofs
section
variable {own own1 : Nat → Nat} {t b m r : Nat} {G G1 : GS} {s : MS}
theorem dndr_ok (orc : FuncId → Bool) {R : Rg} {mo v : Int} {l : List Int} {p : DrS} (h : PM own G m s) (hR : R.ok) (hpo : p.ok) (hl : l.length < 2 ^ 36) (ht : t ≠ 10) (hb : At own t G b) (hp : DnP own t G b (.dr R mo l v p)) :
    ∃ own1 G1, (E orc).cl 66 [P0 b, P0 m] G = some (.bool (DnS.afterD R mo l v (p.step s).1).over, G1) ∧ PW (Own own t) own G own1 G1 m (p.step s).2 ∧ DnP own1 t G1 b (DnS.afterD R mo l v (p.step s).1) := by
  obtain ⟨q, tk, o, ow, nb, hq, bq, nq, kf⟩ := hp
  have one0 := ow.one
  obtain ⟨⟨x, G1⟩, e, rfl, th, k⟩ := drop_ok orc h hpo (PM.notIn hq.tag ht) hq.lt kf
  simp only at th k
  have w1 := PW.ofThr th hq.tag
  have o1 := (th.keep hb.lt (PM.notIn hb.tag ht) bq).trans o
  have hb1 : At (grown own G 10) t G1 b := hb.to th.mod.nx grown_agr
  have hq1 : At (grown own G 10) t G1 q := hq.to th.mod.nx grown_agr
  have ow1 : OwT (grown own G 10) t G1 tk l := ow.to th.mod.nx (fun g hg => th.keep (ow.lt hg) (PM.notIn (ow.tag g hg) ht) (fun e => nq (by rw [← e]; exact hg))) grown_agr
  generalize grown own G 10 = own1 at *
  generalize hpp : (p.step s).1 = p' at *
  unfold DnS.afterD
  have iv := (inv_drop orc q m G).trans e
  cases ho : p'.over with
  | false =>
    rw [ho] at iv
    refine ⟨_, G1, f66 (exL_ok Q orc) _ _ G _ ?_, w1, q, tk, o1, ow1, nb, hq1, bq, nq, k⟩
    simp [jb66_0, j66_0, sb66, s66, clip_t, o, eq_fn, eq_dn, iv, DnS.over]
  | true =>
    rw [ho] at iv
    obtain ⟨G2, hG2⟩ : ∃ G2, G2 = (((G1.room 18).at' (G1.nx + 10)).push ⟨[.int .i64 v], 1, false, 1⟩).back (G1.room 18) := ⟨_, rfl⟩
    have x2 : Ext G1 G2 := by rw [hG2]; exact Ext.drawn ((Ext.refl G1).room 18) (by omega) (by simp) _
    have sl : SlR (rowsI .i64) G2 (.slice (some ⟨G1.nx + 10, 0, none⟩) 1 1) [v] := by rw [hG2]; exact SlR.oneD (rowsI .i64) (G1.room 18) v (n := G1.nx + 10) (by simp)
    have w2 := w1.extT x2 t
    have o2 := (x2.obj b hb1.lt).trans o1
    have hb2 := hb1.extO x2 t
    have ow2 := ow1.extO x2 t
    generalize grown own1 G1 t = own2 at *
    obtain ⟨tk', G3, e3, w3, ow3, nw3, md3⟩ := ow2.app w2 ht sl hl
    have one3 := ow3.one
    have o3 := (md3.obj b hb2.lt nb).trans o2
    have hb3 : At (grown own2 G2 t) t G3 b := hb2.to md3.nx grown_agr
    generalize grown own2 G2 t = own3 at *
    have nb3 : ¬ InB tk' b := fun hg => by have := nw3 b hg; have := hb2.lt; omega
    obtain ⟨G4, hG4⟩ : ∃ G4, G4 = (G3.put b ⟨[.bool true, .int .i64 R.head, .int .i64 R.tail, .int .i64 R.slots, .int .i64 R.size, .int .i64 mo, .iface 188 (P0 q), tk', .int .i64 v, .int .i64 0], 1, false, 1⟩).put b ⟨[.bool true, .int .i64 R.head, .int .i64 R.tail, .int .i64 R.slots, .int .i64 R.size, .int .i64 mo, .nilIface, tk', .int .i64 v, .int .i64 0], 1, false, 1⟩ := ⟨_, rfl⟩
    have w4 : PW (Own own t) own G own3 G4 m (p.step s).2 := by rw [hG4]; exact (w3.putT hb3.tag ht _).putT hb3.tag ht _
    have o4 : G4.obj b = some ⟨[.bool true, .int .i64 R.head, .int .i64 R.tail, .int .i64 R.slots, .int .i64 R.size, .int .i64 mo, .nilIface, tk', .int .i64 v, .int .i64 0], 1, false, 1⟩ := by rw [hG4]; simp
    have ow4 : OwT own3 t G4 tk' (l ++ [v]) := by rw [hG4]; exact (ow3.putO nb3 _).putO nb3 _
    have hb4 : At own3 t G4 b := by rw [hG4]; exact (hb3.putO _ _).putO _ _
    obtain ⟨a', c', htk⟩ := ow4.ow.is.len
    have hln : ∀ ty, ln Q true ty tk' = some (.int .i64 (l ++ [v]).length) := fun ty => by rw [htk]; simp
    have x5 : Ext G4 (G4.room 10) := (Ext.refl _).room 10
    rw [if_pos rfl]
    by_cases hm : ((l ++ [v]).length : Int) < mo
    · rw [if_pos hm]
      obtain ⟨d, G5, e5, x6, d1, d2, k5⟩ := newfront_ok orc R (G4.room 10)
      have y5 := x5.trans x6
      have w5 := w4.extT y5 t
      have o5 := (y5.obj b hb4.lt).trans o4
      have hb5 := hb4.extO y5 t
      have ow5 := ow4.extO y5 t
      have d1' : G4.nx ≤ d := by simp at d1; omega
      have hd5 : At (grown own3 G4 t) t G5 d := At.new d1' d2
      have bd : b ≠ d := by have := hb4.lt; omega
      refine ⟨_, G5.put b ⟨[.bool true, .int .i64 R.head, .int .i64 R.tail, .int .i64 R.slots, .int .i64 R.size, .int .i64 mo, .iface 152 (P0 d), tk', .int .i64 v, .int .i64 0], 1, false, 1⟩, f66 (exL_ok Q orc) _ _ G _ ?_, w5.putT hb5.tag ht _, d, tk', v, by simp, ow5.putO nb3 _, nb3, hd5.putO _ _, bd, fun hg => by have := ow4.lt hg; omega, k5.kept (by rw [obj_put, if_neg (fun e => bd e.symm)])⟩
      simp [-List.length_append, jb66_0, j66_0, sb66, s66, clip_t, o, eq_fn, eq_dn, iv, o1, as_df, as_dd, ← hG2, e3, o3, stO_one _ _ one3, ← hG4, o4, hln, hm, e5, o5, DnS.over]
    · rw [if_neg hm]
      have w5 := w4.extT x5 t
      have o5 := (x5.obj b hb4.lt).trans o4
      refine ⟨_, G4.room 10, f66 (exL_ok Q orc) _ _ G _ ?_, w5, R.head, R.tail, R.slots, R.size, mo, tk', v, o5, ow4.extO x5 t, nb3⟩
      simp [-List.length_append, jb66_0, j66_0, sb66, s66, clip_t, o, eq_fn, eq_dn, eq_nn, iv, o1, as_df, as_dd, ← hG2, e3, o3, stO_one _ _ one3, ← hG4, o4, hln, hm, DnS.over]
theorem dnstep_ok (orc : FuncId → Bool) {k : Nat} {p : DnS} (h : PM own G m s) (hs : s.ok) (hpo : p.ok k) (hk : k < 2 ^ 36) (ht : t ≠ 10) (hb : At own t G b) (hp : DnP own t G b p) :
    ∃ own1 G1, (E orc).cl 66 [P0 b, P0 m] G = some (.bool (p.step s).1.over, G1) ∧ PW (Own own t) own G own1 G1 m (p.step s).2 ∧ DnP own1 t G1 b (p.step s).1 := by
  cases p with
  | done e l =>
    have hp0 := hp
    obtain ⟨a0, a1, a2, a3, mo, tk, v, h1, h2, h3⟩ := hp
    refine ⟨own, G, f66 (exL_ok Q orc) _ _ G _ ?_, PW.refl h, hp0⟩
    simp [jb66_0, j66_0, sb66, s66, h1, eq_nn, DnS.step, DnS.over]
  | fr R mo l p => exact dnfr_ok orc h hs hpo.1 hpo.2.1 ht hb hp
  | dr R mo l v p => exact dndr_ok orc h hpo.1 hpo.2.1 (by have := hpo.2.2.2; omega) ht hb hp
end
end Go.Proofs.Ytfmkihikmlcimaa.Lift

set_option linter.unusedVariables false
set_option linter.unusedSimpArgs false
set_option maxRecDepth 20000
namespace Go.Proofs.Ytfmkihikmlcimaa.Lift
open Go Go.Proofs.Ytfmkihikmlcimaa.Gh Go.Proofs
/-! ### A Drain's step: the document's -/
section
variable {own own1 : Nat → Nat} {t b m r : Nat} {G G1 : GS} {s : MS}
abbrev dnL (R : Rg) (mo : Int) (tk f d : Value) (v : Int) (dn : Bool) : GObj := ⟨[.int .i64 R.head, .int .i64 R.tail, .int .i64 R.slots, .int .i64 R.size, .int .i64 mo, tk, f, d, .int .i64 v, .bool dn, .int .i64 0], 1, false, 1⟩
end
end Go.Proofs.Ytfmkihikmlcimaa.Lift

set_option linter.unusedVariables false
set_option linter.unusedSimpArgs false
set_option maxRecDepth 20000
namespace Go.Proofs.Ytfmkihikmlcimaa.Lift
open Go Go.Proofs.Ytfmkihikmlcimaa.Gh Go.Proofs
/-! ### Operations begin -/
def newSd (x : MB) (c v : Int) : SdS := if sendE x c v = 0 then .go (newPu (x.rg c) v) else .done (sendE x c v)
def newDn (x : MB) (c v : Int) : DnS := if drainE x c v = 0 then .fr (x.rg c) v [] (newFr (x.rg c)) else .done (drainE x c v) []
theorem sendE_zero {x : MB} {c v : Int} (h : sendE x c v = 0) : x.ref c = 0 ∧ 0 ≤ v ∧ v ≤ 65535 := by
  unfold sendE at h
  split at h
  · simp at h
  · rename_i hn
    exact ⟨h, by omega, by omega⟩
theorem drainE_zero {x : MB} {c v : Int} (h : drainE x c v = 0) : x.ref c = 0 := by
  unfold drainE at h
  split at h
  · simp at h
  · exact h
theorem newSd_ok (x : MB) (c v : Int) : (newSd x c v).ok := by
  unfold newSd
  split
  · rename_i h
    obtain ⟨h1, h2, h3⟩ := sendE_zero h
    refine ⟨newPu_ok _ _, ?_⟩
    unfold newPu
    rw [if_pos (rg_ok (ref_zero h1).1.1 c), if_neg (by omega)]; rfl
  · trivial
theorem newDn_ok (x : MB) (c v : Int) : (newDn x c v).ok 0 := by
  unfold newDn
  split
  · rename_i h
    have hR := rg_ok (ref_zero (drainE_zero h)).1.1 c
    exact ⟨hR, newFr_ok _, by rw [newFr_go hR]; rfl, Nat.le_refl _⟩
  · exact Nat.le_refl _
/-- what has begun: a block of its own, of which P is true -/
def NewR (G : GS) (P : Nat → GS → Prop) (r : Value × GS) : Prop := ∃ b, r.1 = P0 b ∧ Ext G r.2 ∧ (G.nx ≤ b ∧ b < r.2.nx) ∧ P b r.2
theorem Ext.drawnO {A G' : GS} (h : Ext A G') {n : Nat} (hn : A.nx ≤ n) (o : GObj) : Ext A (((G'.at' n).push o).back G') := by
  refine ⟨by simpa using h.nx, fun g hg => ?_, by simpa using h.nl, fun l hl => by simpa using h.loop l hl⟩
  simp only [obj_back, obj_push, nx_at, obj_at]
  rw [if_neg (by omega)]
  exact h.obj g hg
abbrev isSd (G : GS) (p : SdS) (b : Nat) (G' : GS) : Prop := ∀ own t, SdP (grown own G t) t G' b p
abbrev isSdD (G : GS) (p : SdS) (b : Nat) (G' : GS) : Prop := ∀ own t, SdD (grown own G t) t G' b p
abbrev isDn (G : GS) (p : DnS) (b : Nat) (G' : GS) : Prop := ∀ own t, DnP (grown own G t) t G' b p
abbrev isDnD (G : GS) (p : DnS) (b : Nat) (G' : GS) : Prop := ∀ own t, DnD (grown own G t) t G' b p
section
variable {x : MB} {c v : Int} {G : GS}
set_option maxHeartbeats 1000000 in
theorem newsd_ok (orc : FuncId → Bool) (x : MB) (c v : Int) (G : GS) : Wp ((E orc).cl 34 [x.v, .int .i64 c, .int .i64 v] G) (NewR G (isSd G (newSd x c v))) := by
  obtain ⟨G1, hG1⟩ : ∃ G1, G1 = G.push ⟨x.cells, 1, false, 1⟩ := ⟨_, rfl⟩
  have x1 : Ext G G1 := by rw [hG1]; exact (Ext.refl G).push _
  have n1 : G1.nx = G.nx + 1 := by rw [hG1]; rfl
  have o1 : G1.obj G.nx = some ⟨x.cells, 1, false, 1⟩ := by rw [hG1]; simp
  obtain ⟨G2, e2, x2⟩ := mref_ok orc x c G1
  have o2 := (x2.obj G.nx (by omega)).trans o1
  have y2 := x1.trans x2
  have n2 := x2.nx
  have w : Wp (s34 true (exL Q orc) x.v (.int .i64 c) (.int .i64 v) G) (NewR G (isSd G (newSd x c v))) := by
    by_cases he : x.ref c = 0
    · obtain ⟨hp, hc0, hc1⟩ := ref_zero he
      rw [he] at e2
      obtain ⟨G3, hG3⟩ : ∃ G3, G3 = G2.push ⟨[.bool true, .pointer none, .int .i64 0], 1, false, 1⟩ := ⟨_, rfl⟩
      have x3 : Ext G G3 := by rw [hG3]; exact y2.push _
      have n3 : G3.nx = G2.nx + 1 := by rw [hG3]; rfl
      have o3 : G3.obj G2.nx = some ⟨[.bool true, .pointer none, .int .i64 0], 1, false, 1⟩ := by rw [hG3]; simp
      have q3 : G3.obj G.nx = some ⟨x.cells, 1, false, 1⟩ := by rw [hG3]; simpa [show G.nx ≠ G2.nx by omega] using o2
      by_cases hv : v < 0 ∨ 65535 < v
      · have hs : sendE x c v = 3 := by unfold sendE; rw [if_pos ⟨he, hv⟩]
        have hnew : newSd x c v = .done 3 := by unfold newSd; rw [hs]; rfl
        rw [hnew]
        obtain ⟨G4, hG4⟩ : ∃ G4, G4 = G3.put G2.nx ⟨[.bool true, .pointer none, .int .i64 3], 1, false, 1⟩ := ⟨_, rfl⟩
        have x4 : Ext G G4 := by rw [hG4]; exact x3.put (by omega) _
        have n4 : G4.nx = G3.nx := by rw [hG4]; rfl
        have o4 : G4.obj G2.nx = some ⟨[.bool true, .pointer none, .int .i64 3], 1, false, 1⟩ := by rw [hG4]; simp
        have q4 : G4.obj G.nx = some ⟨x.cells, 1, false, 1⟩ := by rw [hG4]; simpa [show G.nx ≠ G2.nx by omega] using q3
        obtain ⟨G5, e5, x5⟩ := mbox_ok orc x c G4
        rw [box_zero he] at e5
        have o5 := (x5.obj G2.nx (by omega)).trans o4
        have y5 := x4.trans x5
        have n5 := x5.nx
        have hfin : ∀ c1 c2, Ext G (((G5.push c1).put G5.nx c2)) ∧ (((G5.push c1).put G5.nx c2)).obj G2.nx = some ⟨[.bool true, .pointer none, .int .i64 3], 1, false, 1⟩ := fun c1 c2 => ⟨(y5.push _).put (by have := y5.nx; omega) _, by simp [show G2.nx ≠ G5.nx by omega, o5]⟩
        by_cases hv0 : v < 0
        · simp [s34, sb34, j34_0, jb34_0, clip_t, ← hG1, o1, e2, ← hG3, o3, hv0, ← hG4, q4, e5, MB.ring, show G2.nx ≠ G5.nx by omega, o5, splice_put, splice_end]
          exact ⟨_, rfl, (hfin _ _).1, ⟨by omega, by simp; omega⟩, fun own t => (hfin _ _).2⟩
        · have hv1 : 65535 < v := by omega
          simp [s34, sb34, j34_0, jb34_0, clip_t, ← hG1, o1, e2, ← hG3, o3, hv0, hv1, ← hG4, q4, e5, MB.ring, show G2.nx ≠ G5.nx by omega, o5, splice_put, splice_end]
          exact ⟨_, rfl, (hfin _ _).1, ⟨by omega, by simp; omega⟩, fun own t => (hfin _ _).2⟩
      · have hs : sendE x c v = 0 := by unfold sendE; rw [if_neg (fun h => hv h.2), he]
        have hnew : newSd x c v = .go (newPu (x.rg c) v) := by unfold newSd; rw [hs]; rfl
        rw [hnew]
        obtain ⟨G5, e5, x5⟩ := mbox_ok orc x c G3
        rw [box_zero he] at e5
        have o5 := (x5.obj G2.nx (by omega)).trans o3
        have y5 := x3.trans x5
        have n5 := x5.nx
        obtain ⟨G6, hG6⟩ : ∃ G6, G6 = (G5.push ⟨zR, 1, false, 1⟩).put G5.nx ⟨x.ring c, 1, false, 1⟩ := ⟨_, rfl⟩
        have x6 : Ext G G6 := by rw [hG6]; exact (y5.push _).put (by have := y5.nx; omega) _
        have n6 : G6.nx = G5.nx + 1 := by rw [hG6]; rfl
        have o6 : G6.obj G2.nx = some ⟨[.bool true, .pointer none, .int .i64 0], 1, false, 1⟩ := by rw [hG6]; simpa [show G2.nx ≠ G5.nx by omega] using o5
        obtain ⟨b, G7, e7, x7, b1, b2, r7⟩ := newpush_ok orc (x.rg c) v G6
        have o7 := (x7.obj G2.nx (by omega)).trans o6
        have y7 := x6.trans x7
        have n7 := x7.nx
        have hv0 : ¬ v < 0 := by omega
        have hv1 : ¬ 65535 < v := by omega
        have p6 : G6.obj G5.nx = some ⟨x.ring c, 1, false, 1⟩ := by rw [hG6]; simp
        have e7' : (E orc).cl 68 [.agg ⟨x.ring c⟩, .int .i64 v] G6 = some (P0 b, G7) := e7
        unfold MB.ring at hG6 p6 e7'
        simp [s34, sb34, j34_0, jb34_0, clip_t, ← hG1, o1, e2, ← hG3, o3, hv0, hv1, q3, e5, MB.ring, show G2.nx ≠ G5.nx by omega, o5, splice_put, splice_end, ← hG6, o6, p6, e7', o7]
        exact ⟨_, rfl, y7.put (by omega) _, ⟨by omega, by simp; omega⟩, fun own t => ⟨b, by simp, ⟨by simp; omega, grown_new (by omega)⟩, by omega, r7.kept (by rw [obj_put, if_neg (by omega)])⟩⟩
    · have hs : sendE x c v = x.ref c := by unfold sendE; rw [if_neg (fun h => he h.1)]
      have hnew : newSd x c v = .done (x.ref c) := by unfold newSd; rw [hs, if_neg he]
      rw [hnew]
      obtain ⟨G3, hG3⟩ : ∃ G3, G3 = G2.push ⟨[.bool true, .pointer none, .int .i64 (x.ref c)], 1, false, 1⟩ := ⟨_, rfl⟩
      have x3 : Ext G G3 := by rw [hG3]; exact y2.push _
      have n3 : G3.nx = G2.nx + 1 := by rw [hG3]; rfl
      have o3 : G3.obj G2.nx = some ⟨[.bool true, .pointer none, .int .i64 (x.ref c)], 1, false, 1⟩ := by rw [hG3]; simp
      have q3 : G3.obj G.nx = some ⟨x.cells, 1, false, 1⟩ := by rw [hG3]; simpa [show G.nx ≠ G2.nx by omega] using o2
      obtain ⟨G5, e5, x5⟩ := mbox_ok orc x c G3
      rw [box_not he] at e5
      have o5 := (x5.obj G2.nx (by omega)).trans o3
      have y5 := x3.trans x5
      have n5 := x5.nx
      simp [s34, sb34, j34_0, jb34_0, clip_t, ← hG1, o1, e2, ← hG3, o3, he, q3, e5, MB.ring, show G2.nx ≠ G5.nx by omega, o5, splice_put, splice_end]
      exact ⟨_, rfl, (y5.push _).put (by have := y5.nx; omega) _, ⟨by omega, by simp; omega⟩, fun own t => by simp [SdP, show G2.nx ≠ G5.nx by omega, o5]⟩
  obtain ⟨r, e1, h⟩ := w
  exact ⟨r, f34 (exL_ok Q orc) _ _ _ G _ e1, h⟩
end
end Go.Proofs.Ytfmkihikmlcimaa.Lift

set_option linter.unusedVariables false
set_option linter.unusedSimpArgs false
set_option maxRecDepth 20000
namespace Go.Proofs.Ytfmkihikmlcimaa.Lift
open Go Go.Proofs.Ytfmkihikmlcimaa.Gh Go.Proofs
theorem nInB (b : Nat) : ¬ InB (.slice none 0 0) b := fun ⟨_, _, _, he, _⟩ => by cases he
section
variable {x : MB} {c v : Int} {G : GS}
set_option maxHeartbeats 1000000 in
theorem newdn_ok (orc : FuncId → Bool) (x : MB) (c v : Int) (G : GS) : Wp ((E orc).cl 35 [x.v, .int .i64 c, .int .i64 v] G) (NewR G (isDn G (newDn x c v))) := by
  obtain ⟨G1, hG1⟩ : ∃ G1, G1 = G.push ⟨x.cells, 1, false, 1⟩ := ⟨_, rfl⟩
  have x1 : Ext G G1 := by rw [hG1]; exact (Ext.refl G).push _
  have n1 : G1.nx = G.nx + 1 := by rw [hG1]; rfl
  have o1 : G1.obj G.nx = some ⟨x.cells, 1, false, 1⟩ := by rw [hG1]; simp
  obtain ⟨G2, e2, x2⟩ := mref_ok orc x c G1
  have o2 := (x2.obj G.nx (by omega)).trans o1
  have y2 := x1.trans x2
  have n2 := x2.nx
  have w : Wp (s35 true (exL Q orc) x.v (.int .i64 c) (.int .i64 v) G) (NewR G (isDn G (newDn x c v))) := by
    by_cases he : x.ref c = 0
    · obtain ⟨hp, hc0, hc1⟩ := ref_zero he
      rw [he] at e2
      obtain ⟨G3, hG3⟩ : ∃ G3, G3 = G2.push ⟨[.bool true, .int .i64 0, .int .i64 0, .int .i64 0, .int .i64 0, .int .i64 v, .nilIface, .slice none 0 0, .int .i64 0, .int .i64 0], 1, false, 1⟩ := ⟨_, rfl⟩
      have x3 : Ext G G3 := by rw [hG3]; exact y2.push _
      have n3 : G3.nx = G2.nx + 1 := by rw [hG3]; rfl
      have o3 : G3.obj G2.nx = some ⟨[.bool true, .int .i64 0, .int .i64 0, .int .i64 0, .int .i64 0, .int .i64 v, .nilIface, .slice none 0 0, .int .i64 0, .int .i64 0], 1, false, 1⟩ := by rw [hG3]; simp
      have q3 : G3.obj G.nx = some ⟨x.cells, 1, false, 1⟩ := by rw [hG3]; simpa [show G.nx ≠ G2.nx by omega] using o2
      by_cases hv : v < 1
      · have hs : drainE x c v = 3 := by unfold drainE; rw [if_pos ⟨he, hv⟩]
        have hnew : newDn x c v = .done 3 [] := by unfold newDn; rw [hs]; rfl
        rw [hnew]
        obtain ⟨G4, hG4⟩ : ∃ G4, G4 = G3.put G2.nx ⟨[.bool true, .int .i64 0, .int .i64 0, .int .i64 0, .int .i64 0, .int .i64 v, .nilIface, .slice none 0 0, .int .i64 0, .int .i64 3], 1, false, 1⟩ := ⟨_, rfl⟩
        have x4 : Ext G G4 := by rw [hG4]; exact x3.put (by omega) _
        have n4 : G4.nx = G3.nx := by rw [hG4]; rfl
        have o4 : G4.obj G2.nx = some ⟨[.bool true, .int .i64 0, .int .i64 0, .int .i64 0, .int .i64 0, .int .i64 v, .nilIface, .slice none 0 0, .int .i64 0, .int .i64 3], 1, false, 1⟩ := by rw [hG4]; simp
        have q4 : G4.obj G.nx = some ⟨x.cells, 1, false, 1⟩ := by rw [hG4]; simpa [show G.nx ≠ G2.nx by omega] using q3
        obtain ⟨G5, e5, x5⟩ := mbox_ok orc x c G4
        rw [box_zero he] at e5
        have o5 := (x5.obj G2.nx (by omega)).trans o4
        have y5 := x4.trans x5
        have n5 := x5.nx
        simp [s35, sb35, j35_0, jb35_0, clip_t, ← hG1, o1, e2, ← hG3, o3, hv, ← hG4, q4, e5, MB.ring, show G2.nx ≠ G5.nx by omega, o5, splice_put, splice_end]
        exact ⟨_, rfl, (y5.push _).put (by have := y5.nx; omega) _, ⟨by omega, by simp; omega⟩, fun own t => ⟨0, 0, 0, 0, v, .slice none 0 0, 0, by simp [show G2.nx ≠ G5.nx by omega, o5], OwT.nil _ _ _, nInB _⟩⟩
      · have hs : drainE x c v = 0 := by unfold drainE; rw [if_neg (fun h => hv h.2), he]
        have hnew : newDn x c v = .fr (x.rg c) v [] (newFr (x.rg c)) := by unfold newDn; rw [hs]; rfl
        rw [hnew]
        obtain ⟨G5, e5, x5⟩ := mbox_ok orc x c G3
        rw [box_zero he] at e5
        have o5 := (x5.obj G2.nx (by omega)).trans o3
        have y5 := x3.trans x5
        have n5 := x5.nx
        obtain ⟨G6, hG6⟩ : ∃ G6, G6 = ((G5.push ⟨zR, 1, false, 1⟩).put G5.nx ⟨x.ring c, 1, false, 1⟩).room 12 := ⟨_, rfl⟩
        have x6 : Ext G G6 := by rw [hG6]; exact ((y5.push _).put (by have := y5.nx; omega) _).room 12
        have n6 : G5.nx + 1 ≤ G6.nx := by rw [hG6]; simp
        have o6 : G6.obj G2.nx = some ⟨[.bool true, .int .i64 0, .int .i64 0, .int .i64 0, .int .i64 0, .int .i64 v, .nilIface, .slice none 0 0, .int .i64 0, .int .i64 0], 1, false, 1⟩ := by rw [hG6]; simpa [show G2.nx ≠ G5.nx by omega] using o5
        obtain ⟨b, G7, e7, x7, b1, b2, r7⟩ := newfront_ok orc (x.rg c) G6
        have e7' : (E orc).cl 69 [.agg ⟨x.ring c⟩] G6 = some (P0 b, G7) := e7
        have o7 := (x7.obj G2.nx (by omega)).trans o6
        have p6 : G6.obj G5.nx = some ⟨x.ring c, 1, false, 1⟩ := by rw [hG6]; simp
        have p7 := (x7.obj G5.nx (by omega)).trans p6
        have y7 := x6.trans x7
        have n7 := x7.nx
        unfold MB.ring at hG6 p6 p7 e7'
        simp [s35, sb35, j35_0, jb35_0, clip_t, ← hG1, o1, e2, ← hG3, o3, hv, q3, e5, MB.ring, show G2.nx ≠ G5.nx by omega, o5, splice_put, splice_end, splice_succ, ← hG6, o6, p6, p7, e7', o7, stO_one 6 (.iface 152 (P0 b)) rfl]
        exact ⟨_, rfl, (y7.put (by omega) _).put (by omega) _, ⟨by omega, by simp; omega⟩, fun own t => ⟨b, .slice none 0 0, 0, by simp; exact ⟨rfl, rfl, rfl, rfl⟩, OwT.nil _ _ _, nInB _, ⟨by simp; omega, grown_new (by omega)⟩, by omega, nInB _, r7.kept (by rw [obj_put, if_neg (by omega), obj_put, if_neg (by omega)])⟩⟩
    · have hs : drainE x c v = x.ref c := by unfold drainE; rw [if_neg (fun h => he h.1)]
      have hnew : newDn x c v = .done (x.ref c) [] := by unfold newDn; rw [hs, if_neg he]
      rw [hnew]
      obtain ⟨G3, hG3⟩ : ∃ G3, G3 = G2.push ⟨[.bool true, .int .i64 0, .int .i64 0, .int .i64 0, .int .i64 0, .int .i64 v, .nilIface, .slice none 0 0, .int .i64 0, .int .i64 (x.ref c)], 1, false, 1⟩ := ⟨_, rfl⟩
      have x3 : Ext G G3 := by rw [hG3]; exact y2.push _
      have n3 : G3.nx = G2.nx + 1 := by rw [hG3]; rfl
      have o3 : G3.obj G2.nx = some ⟨[.bool true, .int .i64 0, .int .i64 0, .int .i64 0, .int .i64 0, .int .i64 v, .nilIface, .slice none 0 0, .int .i64 0, .int .i64 (x.ref c)], 1, false, 1⟩ := by rw [hG3]; simp
      have q3 : G3.obj G.nx = some ⟨x.cells, 1, false, 1⟩ := by rw [hG3]; simpa [show G.nx ≠ G2.nx by omega] using o2
      obtain ⟨G5, e5, x5⟩ := mbox_ok orc x c G3
      rw [box_not he] at e5
      have o5 := (x5.obj G2.nx (by omega)).trans o3
      have y5 := x3.trans x5
      have n5 := x5.nx
      simp [s35, sb35, j35_0, jb35_0, clip_t, ← hG1, o1, e2, ← hG3, o3, he, q3, e5, MB.ring, show G2.nx ≠ G5.nx by omega, o5, splice_put, splice_end]
      exact ⟨_, rfl, (y5.push _).put (by have := y5.nx; omega) _, ⟨by omega, by simp; omega⟩, fun own t => ⟨0, 0, 0, 0, v, .slice none 0 0, 0, by simp [show G2.nx ≠ G5.nx by omega, o5], OwT.nil _ _ _, nInB _⟩⟩
  obtain ⟨r, e1, h⟩ := w
  exact ⟨r, f35 (exL_ok Q orc) _ _ _ G _ e1, h⟩
end
end Go.Proofs.Ytfmkihikmlcimaa.Lift

set_option linter.unusedVariables false
set_option linter.unusedSimpArgs false
set_option maxRecDepth 20000
namespace Go.Proofs.Ytfmkihikmlcimaa.Lift
open Go Go.Proofs.Ytfmkihikmlcimaa.Gh Go.Proofs
/-! ### What is told -/
theorem neq_fn (n q : Nat) : gBinF Q .neq 149 (.tmp n) (.const .nilIface) (.iface 152 (P0 q)) .nilIface = some (.bool true) := by kernel_rfl
theorem neq_dn (n q : Nat) : gBinF Q .neq 149 (.tmp n) (.const .nilIface) (.iface 188 (P0 q)) .nilIface = some (.bool true) := by kernel_rfl
theorem neq_nn (n : Nat) : gBinF Q .neq 149 (.tmp n) (.const .nilIface) .nilIface .nilIface = some (.bool false) := by kernel_rfl
section
variable {own own1 : Nat → Nat} {t b : Nat} {G G1 : GS}
theorem clone_ok (orc : FuncId → Bool) {v : Value} {l : List Int} (h : OwR (rowsI .i64) 0 G v l) (hl : l.length < 2 ^ 36) : ∃ v' G', (E orc).cl 70 [v] G = some (v', G') ∧ Ext G G' ∧ OwR (rowsI .i64) G.nx G' v' l := by
  have his := h.is
  rcases h.2 with ⟨rfl, h0⟩ | ⟨c, op, rfl, h2, h3, h4⟩
  · have hl0 : l = [] := List.eq_nil_of_length_eq_zero h0
    subst hl0
    exact ⟨_, G, f70 (exL_ok Q orc) _ G _ (by simp [s70]), Ext.refl G, OwR.nil _ _⟩
  · obtain ⟨v', G', h1, h2, h3⟩ := OwR.app (A := G) (ib := 8) (OwR.made (rowsI .i64) G) (by decide) ((Ext.refl G).push _) (his.ext ((Ext.refl G).push _)) (by simp; omega)
    simp only [rowsI_sz] at h1
    refine ⟨v', G', f70 (exL_ok Q orc) _ G _ ?_, h2, by simpa using h3⟩
    simp [s70, rep, fillS, fillC, h1]
theorem dnvals_ok (orc : FuncId → Bool) {k : Nat} {p : DnS} (hpo : p.ok k) (hk : k < 2 ^ 36) (hp : DnP own t G b p) : ∃ v' G', (E orc).cl 36 [P0 b] G = some (.tuple #[v', .int .i64 p.err], G') ∧ Ext G G' ∧ OwR (rowsI .i64) G.nx G' v' p.vals := by
  cases p with
  | done e l =>
    obtain ⟨a0, a1, a2, a3, mo, tk, v, h1, h2, h3⟩ := hp
    have one0 := h2.one
    by_cases he : e = 0
    · subst he
      obtain ⟨v', G', e1, x1, w1⟩ := clone_ok orc h2.ow (Nat.lt_of_le_of_lt hpo hk)
      refine ⟨v', G', f36 (exL_ok Q orc) _ G _ ?_, x1, by simpa [DnS.vals] using w1⟩
      simp [s36, h1, neq_nn, e1, DnS.err]
    · refine ⟨.slice none 0 0, G.room 6, f36 (exL_ok Q orc) _ G _ ?_, (Ext.refl G).room 6, by simpa [DnS.vals, he] using OwR.nil _ _⟩
      simp [s36, h1, neq_nn, he, DnS.err]
  | fr R mo l p =>
    obtain ⟨q, tk, v, h1, h2, _⟩ := hp
    have one0 := h2.one
    refine ⟨.slice none 0 0, G, f36 (exL_ok Q orc) _ G _ ?_, Ext.refl G, OwR.nil _ _⟩
    simp [s36, h1, neq_fn, DnS.err]
  | dr R mo l v p =>
    obtain ⟨q, tk, h1, h2, _⟩ := hp
    have one0 := h2.one
    refine ⟨.slice none 0 0, G, f36 (exL_ok Q orc) _ G _ ?_, Ext.refl G, OwR.nil _ _⟩
    simp [s36, h1, neq_dn, DnS.err]
end
end Go.Proofs.Ytfmkihikmlcimaa.Lift

