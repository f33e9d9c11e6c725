/- contracts of the program's functions -/
import Derived.Test.YtlaojmcekeohnaaGreatDoorQC
set_option linter.unusedVariables false
set_option linter.unusedSimpArgs false
set_option maxRecDepth 20000
namespace Go.Proofs.YtlaojmcekeohnaaGreatDoor.Lift
open Go Go.Proofs.YtlaojmcekeohnaaGreatDoor.Gh Go.Proofs
section
variable {own own' own1 : Nat → Nat} {G G' G1 : GS} {b t n c : Nat} {ts : List Nat} {cs : List Value} {x y : CS} {B B' : CrB} {v : Value}
/-- what a drop's step does to the heap -/
theorem CrG.dropped (h : CrG own G n x B) {b : Nat} (hb : B.dv = P0 b) (hbo : own b = 8) (hpo : x.d.ok) (th : Thr (fun A G => PMx A G B.m (x.d.step x.s).2) (Tag own G 10) b G G') (hp : PdR G' b (x.d.step x.s).1) (hbn : b < G.nx) :
    CrG (grown own G 10) G' n { x with s := (x.d.step x.s).2, d := (x.d.step x.s).1 } B ∧ ModT [10, 8] own G G' := by
  have m := thr_tag th hbo
  have ag : Agr own (grown own G 10) G := grown_agr
  have nx := m.nx
  refine ⟨⟨h.cx.to m (by decide) ag, h.cp.to m (by decide) ag, h.cw.to m (by decide) ag, h.ch.to m (by decide) ag, h.co.to m (by decide) ag, (sepP _ _).step m.nx th.st, (hpo.step h.so).2, OwR.to h.hq h.tq m (by decide), fun g hg => (ag g (h.hq.is.under g hg)).trans (h.tq g hg), OwR.to h.hc h.tc m (by decide), fun g hg => (ag g (h.hc.is.under g hg)).trans (h.tc g hg), fun j hj hoj => ?_, fun hf => ?_, fun _ => ⟨b, hb, Nat.lt_of_lt_of_le hbn nx, (ag b hbn).trans hbo, hp, (hpo.step h.so).1⟩, h.ones⟩, m⟩
  · obtain ⟨b', h1, h2, h3, h4, h5⟩ := h.p j hj hoj
    have : own b' ∉ [10, 8] := by rw [h3]; rcases (show j = 0 ∨ j = 1 by omega) with rfl | rfl <;> decide
    exact ⟨b', h1, Nat.lt_of_lt_of_le h2 nx, (ag b' h2).trans h3, h4.kept (m.same h2 this), h5⟩
  · obtain ⟨b', h1, h2, h3, h4, h5⟩ := h.f hf
    exact ⟨b', h1, Nat.lt_of_lt_of_le h2 nx, (ag b' h2).trans h3, h4.kept (m.same h2 (by rw [h3]; decide)), h5⟩
theorem CrG.fronted (h : CrG own G n x B) {b : Nat} (hb : B.fv = P0 b) (hbo : own b = 7) (hpo : x.f.ok) (th : Thr (fun A G => PMx A G B.m (x.f.step x.s).2) (Tag own G 10) b G G') (hp : PfR G' b (x.f.step x.s).1) (hbn : b < G.nx) :
    CrG (grown own G 10) G' n { x with s := (x.f.step x.s).2, f := (x.f.step x.s).1 } B ∧ ModT [10, 7] own G G' := by
  have m := thr_tag th hbo
  have ag : Agr own (grown own G 10) G := grown_agr
  have nx := m.nx
  refine ⟨⟨h.cx.to m (by decide) ag, h.cp.to m (by decide) ag, h.cw.to m (by decide) ag, h.ch.to m (by decide) ag, h.co.to m (by decide) ag, (sepP _ _).step m.nx th.st, (hpo.step h.so).2, OwR.to h.hq h.tq m (by decide), fun g hg => (ag g (h.hq.is.under g hg)).trans (h.tq g hg), OwR.to h.hc h.tc m (by decide), fun g hg => (ag g (h.hc.is.under g hg)).trans (h.tc g hg), fun j hj hoj => ?_, fun hf => ⟨b, hb, Nat.lt_of_lt_of_le hbn nx, (ag b hbn).trans hbo, hp, (hpo.step h.so).1⟩, fun hd => ?_, h.ones⟩, m⟩
  · obtain ⟨b', h1, h2, h3, h4, h5⟩ := h.p j hj hoj
    have : own b' ∉ [10, 7] := by rw [h3]; rcases (show j = 0 ∨ j = 1 by omega) with rfl | rfl <;> decide
    exact ⟨b', h1, Nat.lt_of_lt_of_le h2 nx, (ag b' h2).trans h3, h4.kept (m.same h2 this), h5⟩
  · obtain ⟨b', h1, h2, h3, h4, h5⟩ := h.d hd
    exact ⟨b', h1, Nat.lt_of_lt_of_le h2 nx, (ag b' h2).trans h3, h4.kept (m.same h2 (by rw [h3]; decide)), h5⟩
/-- the flag is written -/
theorem CrG.nexted (h : CrG own G n x B) (f d' : Bool) (hf : f = true → x.next = true ∨ 0 ≤ x.o 2) (hd : d' = true → x.dd = true) :
    CrG own (G.put B.xb ⟨crX n { x with next := f, dd := d' } B, 1, false, 1⟩) n { x with next := f, dd := d' } B ∧ ModT [1] own G (G.put B.xb ⟨crX n { x with next := f, dd := d' } B, 1, false, 1⟩) := by
  have m : ModT [1] own G (G.put B.xb ⟨crX n { x with next := f, dd := d' } B, 1, false, 1⟩) := (ModT.refl _ _ _).put (.inl (by rw [h.cx.tag]; decide)) _
  have ag := Agr.refl own G
  refine ⟨⟨h.cx.put _, h.cp.to m (by decide) ag, h.cw.to m (by decide) ag, h.ch.to m (by decide) ag, h.co.to m (by decide) ag, (sepP _ _).tag h.hm m (by decide) ag, h.so, OwR.to h.hq h.tq m (by decide), h.tq, OwR.to h.hc h.tc m (by decide), h.tc, fun c hc ho => ?_, fun hf' => ?_, fun hn => ?_, h.ones⟩, m⟩
  · obtain ⟨b, h1, h2, h3, h4, h5⟩ := h.p c hc ho
    have : own b ∉ [1] := by rw [h3]; rcases (show c = 0 ∨ c = 1 by omega) with rfl | rfl <;> decide
    exact ⟨b, h1, h2, h3, h4.kept (m.same h2 this), h5⟩
  · obtain ⟨b, h1, h2, h3, h4, h5⟩ := h.f (hf'.elim hf .inr)
    exact ⟨b, h1, h2, h3, h4.kept (m.same h2 (by rw [h3]; decide)), h5⟩
  · obtain ⟨b, h1, h2, h3, h4, h5⟩ := h.d (hd hn)
    exact ⟨b, h1, h2, h3, h4.kept (m.same h2 (by rw [h3]; decide)), h5⟩
set_option maxHeartbeats 1000000 in
theorem takes_in (orc : FuncId → Bool) (h : CrG own G n x B) (hf : Fit3 n x 2) (hdd : x.next = true → x.dd = true) :
    Wp ((E orc).cl 152 [P0 B.xb] G) (CrPost own G n B x.takes.1 (.bool x.takes.2)) := by
  refine Wp.ref (f152 (exL_ok Q orc) _ G) ?_
  obtain ⟨k, ho, hk⟩ := hf.o
  have cx := h.cx.obj
  have x0 := (Ext.refl G).room 10
  have h0 := h.ext x0
  have ag0 : Agr own (grown own G 13) G := grown_agr
  have cx0 := h0.cx.obj
  cases hn : x.next with
  | true =>
    obtain ⟨b, b1, b2, b3, b4, b5⟩ := h.d (hdd hn)
    have b3' : grown own G 13 b = 8 := (ag0 b b2).trans b3
    obtain ⟨⟨r, G9⟩, e9, rfl, th, hp9⟩ := drop_ok orc h0.hm b5 (fun k => by have := k.2; omega) (Nat.lt_of_lt_of_le b2 x0.nx) (b4.kept (x0.obj b b2))
    simp only at th hp9
    obtain ⟨h9, m9⟩ := h0.dropped b1 b3' b5 th hp9 (Nat.lt_of_lt_of_le b2 x0.nx)
    have ag9 : Agr own (grown (grown own G 13) (G.room 10) 10) G := ag0.trans grown_agr x0.nx
    have mod9 : ModT crT own G G9 := (ModT.ext x0).trans ag0 (m9.mono (by decide))
    have b9 : b < G9.nx := Nat.lt_of_lt_of_le b2 mod9.nx
    have t9 : grown (grown own G 13) (G.room 10) 10 b = 8 := (ag9 b b2).trans b3
    have cx9 := h9.cx.obj
    obtain ⟨qa, qc, hq⟩ := h9.hq.is.len
    have lq : ∀ t, ln Q true t B.qv = some (.int .i64 x.q.length) := fun t => by rw [hq]; simp
    have ht : x.takes = (if ((x.d.step x.s).1).over = false then (if x.q.length = 0 then ({ x with s := (x.d.step x.s).2, d := (x.d.step x.s).1 }, false) else ({ x with s := (x.d.step x.s).2, d := (x.d.step x.s).1, q := x.q.drop 1 }, true)) else (({ x with s := (x.d.step x.s).2, d := (x.d.step x.s).1, next := false, dd := false } : CS).ends 2 (0, 0, 0), decide (((x.d.step x.s).1).err = 0))) := by
      unfold CS.takes
      rw [if_pos hn]
    rw [ht]
    generalize hX : ({ x with s := (x.d.step x.s).2, d := (x.d.step x.s).1 } : CS) = x1 at *
    have hXn : x1.next = true := by rw [← hX]; exact hn
    have hXq : x1.q = x.q := by rw [← hX]
    have hXd : x1.d = (x.d.step x.s).1 := by rw [← hX]
    have hXo : x1.o = x.o := by rw [← hX]
    have hXc : x1.calls = x.calls := by rw [← hX]
    have hXk : x1.clock = x.clock := by rw [← hX]
    simp only [crX, hXn] at cx9
    cases hov : ((x.d.step x.s).1).over with
    | false =>
      rw [if_pos rfl]
      rw [hov] at e9
      by_cases k0 : x.q.length = 0
      · rw [if_pos k0]
        have fin : CrPost own G n B x1 (.bool false) (.bool false, G9) := ⟨rfl, _, B, rfl, ag9, mod9, h9⟩
        simp [s152, cx, crX, hn, b1, e9, cx9, lq, k0]
        exact fin
      · rw [if_neg k0]
        obtain ⟨u, e20, s20⟩ := SlR.drop (k := .i64) (o := 1) h9.hq.is (by rw [hXq]; omega)
        obtain ⟨v', G22, e22, x22, w22⟩ := copyi_ok orc s20 (by have := hf.q; rw [hXq]; simp; omega)
        obtain ⟨h25, m25⟩ := h9.queued x22 w22
        have hX2 : ({ x with s := (x.d.step x.s).2, d := (x.d.step x.s).1, q := x.q.drop 1 } : CS) = { x1 with q := x1.q.drop 1 } := by rw [← hX]
        rw [hX2]
        have cx22 := (x22.obj _ h9.cx.lt).trans h9.cx.obj
        simp only [crX, hXn] at cx22
        have one' := own_one w22
        have k0' : ¬ x.q = [] := fun e => k0 (by rw [e]; rfl)
        obtain ⟨y, hy⟩ : ∃ y : CS, y = { x1 with q := x1.q.drop 1 } := ⟨_, rfl⟩
        rw [← hy] at h25 m25
        rw [← hy]
        have hcr : crX n y { B with qv := v' } = [.int .i64 0, .int .i64 1, .int .i64 2, .int .i64 n, P0 B.m, .slice (some ⟨B.pb, 0, none⟩) 2 2, .slice (some ⟨B.vb, 0, none⟩) 2 2, B.fv, B.dv, .bool true, v', .slice (some ⟨B.hb, 0, none⟩) 2 2, .int .i64 0, .int .i64 0, B.cv, .slice (some ⟨B.ob, 0, none⟩) 3 3, .int .i64 x1.clock, .int .i64 x1.pushed] := by rw [hy]; simp only [crX, hXn]
        have k1 : ¬ x1.q = [] := by rw [hXq]; exact k0'
        rw [hcr] at h25 m25
        have fin : CrPost own G n B y (.bool true) (.bool true, G22.put B.xb ⟨[.int .i64 0, .int .i64 1, .int .i64 2, .int .i64 n, P0 B.m, .slice (some ⟨B.pb, 0, none⟩) 2 2, .slice (some ⟨B.vb, 0, none⟩) 2 2, B.fv, B.dv, .bool true, v', .slice (some ⟨B.hb, 0, none⟩) 2 2, .int .i64 0, .int .i64 0, B.cv, .slice (some ⟨B.ob, 0, none⟩) 3 3, .int .i64 x1.clock, .int .i64 x1.pushed], 1, false, 1⟩) := ⟨rfl, _, { B with qv := v' }, rfl, ag9.trans grown_agr mod9.nx, mod9.trans ag9 (m25.mono (by decide)), h25⟩
        simp only [rowsI_sz] at e20
        rw [hq] at e20
        rw [hq] at cx9 cx22
        simp [s152, cx, crX, hn, b1, e9, cx9, lq, k0, k0', k1]
        simp at e20
        simp [e20, e22, cx22, stO_one _ _ one', k1]
        exact fin
    | true =>
      rw [if_neg (by simp)]
      rw [hov] at e9
      obtain ⟨h28, m28⟩ := h9.nexted false false (by simp) (by simp)
      have hX3 : ({ x with s := (x.d.step x.s).2, d := (x.d.step x.s).1, next := false, dd := false } : CS) = { x1 with next := false, dd := false } := by rw [← hX]
      rw [hX3]
      have ox : ({ x1 with next := false, dd := false } : CS).o 2 = (k : Int) := by simp only [hXo]; exact ho
      obtain ⟨⟨r, G31⟩, e31, rfl, own', ag', m31, h'⟩ := ends_in orc h28 (by omega : 2 < 3) ox (by simp only [hXc]; exact hk) (by simp only [hXk]; exact hf.clk) (0, 0, 0)
      simp only at m31 h'
      have n28 := m28.nx
      have hp31 : PdR G31 b (x.d.step x.s).1 := by
        refine (hp9.kept (m28.same b9 (by rw [t9]; decide))).kept (m31.same (Nat.lt_of_lt_of_le b9 n28) ?_)
        rw [t9]; decide
      have e36 := droperr_ok orc hp31
      have cx31 := h'.cx.obj
      have fin : CrPost own G n B (({ x1 with next := false, dd := false } : CS).ends 2 (0, 0, 0)) (.bool (decide (((x.d.step x.s).1).err = 0))) (.bool (decide (((x.d.step x.s).1).err = 0)), G31) := ⟨rfl, own', B, rfl, (ag9.trans ag' mod9.nx), (mod9.trans ag9 (m28.mono (by decide))).trans ag9 (m31.mono (by decide)), h'⟩
      simp [s152, cx, crX, hn, b1, e9, cx9]
      have hz : z27 = [.int .i64 0, .int .i64 0, .int .u64 0] := rfl
      simp only [crX] at e31 cx31
      rw [b1] at e31 cx31
      simp at e31
      simp [hz, e31, cx31, e36]
      exact fin
  | false =>
    obtain ⟨b, b1, b2, b3, b4, b5⟩ := h.f (.inr (by omega))
    have b3' : grown own G 13 b = 7 := (ag0 b b2).trans b3
    obtain ⟨⟨r, G9⟩, e9, rfl, th, hp9⟩ := front_ok orc h0.hm h0.so b5 (fun k => by have := k.2; omega) (Nat.lt_of_lt_of_le b2 x0.nx) (b4.kept (x0.obj b b2))
    simp only at th hp9
    obtain ⟨h9, m9⟩ := h0.fronted b1 b3' b5 th hp9 (Nat.lt_of_lt_of_le b2 x0.nx)
    have ag9 : Agr own (grown (grown own G 13) (G.room 10) 10) G := ag0.trans grown_agr x0.nx
    have mod9 : ModT crT own G G9 := (ModT.ext x0).trans ag0 (m9.mono (by decide))
    have cx9 := h9.cx.obj
    obtain ⟨Y, hY⟩ : ∃ Y : Bool → Int × Int × Int → CS, ∀ f a, Y f a = ({ x with s := (x.f.step x.s).2, f := (x.f.step x.s).1, next := f } : CS).ends 2 a := ⟨_, fun _ _ => rfl⟩
    have ht : x.takes = (if ((x.f.step x.s).1).over = false then ({ x with s := (x.f.step x.s).2, f := (x.f.step x.s).1 }, true) else (Y (decide (((x.f.step x.s).1).err = 0)) (((x.f.step x.s).1).err, 0, IntKind.wrap .u64 ((x.f.step x.s).1).val), if x.q.length = 0 then decide (((x.f.step x.s).1).val = 0) && decide (((x.f.step x.s).1).err = 15) else decide (((x.f.step x.s).1).err = 0) && decide (some ((x.f.step x.s).1).val = x.q[0]?))) := by
      unfold CS.takes
      rw [if_neg (by rw [hn]; simp), hY]
    rw [ht]
    have hY' : ∀ f a, Y f a = ({ ({ x with s := (x.f.step x.s).2, f := (x.f.step x.s).1 } : CS) with next := f } : CS).ends 2 a := hY
    clear ht hY
    generalize hX : ({ x with s := (x.f.step x.s).2, f := (x.f.step x.s).1 } : CS) = x1 at *
    have hXn : x1.next = false := by rw [← hX]; exact hn
    have hXq : x1.q = x.q := by rw [← hX]
    have hXo : x1.o = x.o := by rw [← hX]
    have hXc : x1.calls = x.calls := by rw [← hX]
    have hXk : x1.clock = x.clock := by rw [← hX]
    generalize hP : (x.f.step x.s).1 = p1 at *
    simp only [crX, hXn] at cx9
    cases hov : p1.over with
    | false =>
      rw [if_pos rfl]
      rw [hov] at e9
      have fin : CrPost own G n B x1 (.bool true) (.bool true, G9) := ⟨rfl, _, B, rfl, ag9, mod9, h9⟩
      simp [s152, cx, crX, hn, b1, e9, cx9]
      exact fin
    | true =>
      rw [if_neg (by simp)]
      rw [hov] at e9
      obtain ⟨G51, e51, x51⟩ := fval_ok orc hp9
      have h51 := h9.ext x51
      have cx51 := (x51.obj _ h9.cx.lt).trans cx9
      obtain ⟨h57, m57⟩ := h51.nexted (decide (p1.err = 0)) x1.dd (fun _ => .inr (by rw [hXo]; omega)) (fun h => h)
      have hX3 : ({ x1 with next := decide (p1.err = 0), dd := x1.dd } : CS) = { x1 with next := decide (p1.err = 0) } := rfl
      rw [hX3] at h57 m57
      have ox : ({ x1 with next := decide (p1.err = 0) } : CS).o 2 = (k : Int) := by simp only [hXo]; exact ho
      obtain ⟨⟨r, G61⟩, e61, rfl, own', ag', m61, h'⟩ := ends_in orc h57 (by omega : 2 < 3) ox (by simp only [hXc]; exact hk) (by simp only [hXk]; exact hf.clk) (p1.err, 0, IntKind.wrap .u64 p1.val)
      simp only at m61 h'
      have ag51 : Agr own (grown (grown (grown own G 13) (G.room 10) 10) G9 13) G := ag9.trans grown_agr mod9.nx
      have mod51 : ModT crT own G G51 := mod9.trans ag9 (ModT.ext x51)
      have hYx : Y (decide (p1.err = 0)) (p1.err, 0, IntKind.wrap .u64 p1.val) = (({ x1 with next := decide (p1.err = 0) } : CS).ends 2 (p1.err, 0, IntKind.wrap .u64 p1.val)) := by rw [hY', ← hX]
      have fin : ∀ v : Bool, CrPost own G n B (Y (decide (p1.err = 0)) (p1.err, 0, IntKind.wrap .u64 p1.val)) (.bool v) (.bool v, G61) := fun v => by
        rw [hYx]
        exact ⟨rfl, own', B, rfl, (ag51.trans ag' mod51.nx), (mod51.trans ag51 (m57.mono (by decide))).trans ag51 (m61.mono (by decide)), h'⟩
      have cx61 := h'.cx.obj
      have hq' : OwR (rowsI .i64) 0 G61 B.qv x.q := by have := h'.hq; simp only [CS.ends] at this; rw [hXq] at this; exact this
      obtain ⟨qa, qc, hq⟩ := hq'.is.len
      have lq : ∀ t, ln Q true t B.qv = some (.int .i64 x.q.length) := fun t => by rw [hq]; simp
      simp only [crX] at e61
      simp at e61
      simp only [crX, CS.ends] at cx61
      by_cases k0 : x.q.length = 0
      · rw [if_pos k0]
        have k0' : x.q = [] := List.eq_nil_of_length_eq_zero k0
        have := fin (decide (p1.val = 0) && decide (p1.err = 15))
        simp [s152, cx, crX, hn, b1, e9, cx9, e51, cx51]
        rw [b1] at e61
        simp [e61, cx61, lq, k0, k0']
        by_cases kv : p1.val = 0
        · simp [kv] at this ⊢
          exact this
        · simp [kv] at this ⊢
          exact this
      · rw [if_neg k0]
        have hpos : 0 < x.q.length := by omega
        have k0' : ¬ x.q = [] := fun e => k0 (by rw [e]; rfl)
        obtain ⟨qb, qo, qc', eq1, _, qq, _⟩ := hq'.is.at hpos
        have q0 := qq 0 (by decide)
        simp at q0
        have hg : x.q[0]? = some x.q[0] := List.getElem?_eq_getElem hpos
        rw [hg]
        have hpos' : (0 : Int) < x.q.length := by omega
        have := fin (decide (p1.err = 0) && decide (some p1.val = some x.q[0]))
        simp [s152, cx, crX, hn, b1, e9, cx9, e51, cx51]
        rw [b1] at e61
        rw [eq1] at e61 cx61
        simp only [eq1]
        simp [e61, cx61, k0, k0', hpos, hpos', q0]
        by_cases ke : p1.err = 0
        · simp [ke, eq1, hpos, hpos', q0, cx61] at this ⊢
          exact this
        · simp [ke] at this ⊢
          exact this
end
end Go.Proofs.YtlaojmcekeohnaaGreatDoor.Lift

set_option linter.unusedVariables false
set_option linter.unusedSimpArgs false
set_option maxRecDepth 20000
namespace Go.Proofs.YtlaojmcekeohnaaGreatDoor.Lift
open Go Go.Proofs.YtlaojmcekeohnaaGreatDoor.Gh Go.Proofs
section
variable {own own' own1 : Nat → Nat} {G G' G1 : GS} {b t n c : Nat} {ts : List Nat} {cs : List Value} {x x' y : CS} {B B' : CrB} {v : Value}
/-- what is not touched of a crew -/
structure CrK (own' : Nat → Nat) (G' : GS) (x : CS) (B : CrB) : Prop where
  hm : PMx (Tag own' G' 10) G' B.m x.s
  hq : OwR (rowsI .i64) 0 G' B.qv x.q
  tq : ∀ g, InB B.qv g → own' g = 3
  hc : OwR rSp 0 G' B.cv x.calls
  tc : ∀ g, InB B.cv g → own' g = 4
  p : ∀ c, c < 2 → 0 ≤ x.o c → ∃ b, B.pv c = P0 b ∧ b < G'.nx ∧ own' b = 5 + c ∧ PuR G' b (x.p c) ∧ (x.p c).ok
  f : (x.next = true ∨ 0 ≤ x.o 2) → ∃ b, B.fv = P0 b ∧ b < G'.nx ∧ own' b = 7 ∧ PfR G' b x.f ∧ x.f.ok
  d : x.dd = true → ∃ b, B.dv = P0 b ∧ b < G'.nx ∧ own' b = 8 ∧ PdR G' b x.d ∧ x.d.ok
theorem CrG.kept (h : CrG own G n x B) (m : ModT [1, 2, 13, 14, 15, 16] own G G') (a : Agr own own' G) : CrK own' G' x B := by
  have nx := m.nx
  refine ⟨(sepP _ _).tag h.hm m (by decide) a, OwR.to h.hq h.tq m (by decide), fun g hg => (a g (h.hq.is.under g hg)).trans (h.tq g hg), OwR.to h.hc h.tc m (by decide), fun g hg => (a g (h.hc.is.under g hg)).trans (h.tc g hg), fun c hc ho => ?_, fun hf => ?_, fun hn => ?_⟩
  · obtain ⟨b, h1, h2, h3, h4, h5⟩ := h.p c hc ho
    have : own b ∉ [1, 2, 13, 14, 15, 16] := by rw [h3]; rcases (show c = 0 ∨ c = 1 by omega) with rfl | rfl <;> decide
    exact ⟨b, h1, by omega, (a b h2).trans h3, h4.kept (m.same h2 this), h5⟩
  · obtain ⟨b, h1, h2, h3, h4, h5⟩ := h.f hf
    exact ⟨b, h1, by omega, (a b h2).trans h3, h4.kept (m.same h2 (by rw [h3]; decide)), h5⟩
  · obtain ⟨b, h1, h2, h3, h4, h5⟩ := h.d hn
    exact ⟨b, h1, by omega, (a b h2).trans h3, h4.kept (m.same h2 (by rw [h3]; decide)), h5⟩
/-- the call that is laid: its span, at a block of its own; then open, then behind the others -/
theorem begins_J0 (orc : FuncId → Bool) (hx : Cel own G B.xb 1 (crX n x B)) (ho : Cel own G B.ob 16 [.int .i64 (x.o 0), .int .i64 (x.o 1), .int .i64 (x.o 2)]) (hc : OwR rSp 0 G B.cv x.calls) (tc : ∀ g, InB B.cv g → own g = 4) (hlen : x.calls.length ≤ 100000) {sb : Nat} (hsb : sb < G.nx) (tsb : own sb = 13) {a : Sp} (os : G.obj sb = some ⟨rSp.row a, 1, false, 1⟩) (hc3 : c < 3) (τ : Env) (t0 : τ 0 = P0 B.xb) (t1 : τ 1 = .int .i64 c) (t4 : τ 4 = P0 sb) :
    Wp (j73_0 true (exL Q orc) τ G) fun q => q.1 = .tuple #[] ∧ ∃ cv', ModT [1, 4, 16] own G q.2 ∧ OwR rSp G.nx q.2 cv' (x.calls ++ [a]) ∧ q.2.obj B.xb = some ⟨crX n x { B with cv := cv' }, 1, false, 1⟩ ∧ q.2.obj B.ob = some ⟨[.int .i64 (upN x.o c x.calls.length 0), .int .i64 (upN x.o c x.calls.length 1), .int .i64 (upN x.o c x.calls.length 2)], 1, false, 1⟩ := by
  obtain ⟨ca, cc, hcv⟩ := hc.is.len
  have lc : ∀ t, ln Q true t B.cv = some (.int .i64 x.calls.length) := fun t => by rw [hcv]; simp
  have n3 : ¬ B.xb = B.ob := hx.ne ho.tag (by decide)
  have n3' : ¬ B.ob = B.xb := fun e => n3 e.symm
  have n4 : ¬ sb = B.ob := fun e => by have := ho.tag; rw [← e, tsb] at this; cases this
  obtain ⟨o3, ho3⟩ : ∃ o3 : List Value, o3 = [.int .i64 (upN x.o c x.calls.length 0), .int .i64 (upN x.o c x.calls.length 1), .int .i64 (upN x.o c x.calls.length 2)] := ⟨_, rfl⟩
  rw [← ho3]
  obtain ⟨G26, hG26⟩ : ∃ G26, G26 = (G.room 12).put B.ob ⟨o3, 1, false, 1⟩ := ⟨_, rfl⟩
  have n26 : G26.nx = G.nx + 12 := by rw [hG26]; rfl
  obtain ⟨R, hR⟩ : ∃ R, R = G26.room 11 := ⟨_, rfl⟩
  have nR : R.nx = G.nx + 23 := by rw [hR]; simp [n26]
  obtain ⟨G32, hG32⟩ : ∃ G32, G32 = ((R.at' (G26.nx + 6)).push ⟨rSp.row a, 10, false, 1⟩).back R := ⟨_, rfl⟩
  have n32 : G32.nx = R.nx := by rw [hG32]; rfl
  have sl : SlR rSp G32 (.slice (some ⟨G26.nx + 6, 0, none⟩) 1 1) [a] := by rw [hG32]; exact SlR.oneD rSp R a (n := G26.nx + 6) (by omega)
  have m26 : ModT [1, 4, 16] own G G26 := by rw [hG26]; exact ModT.put (ModP.room (ModT.refl _ _ _) 12) (.inl (by rw [ho.tag]; decide)) _
  have m32 : ModT [1, 4, 16] own G G32 := by rw [hG32, hR]; exact ModP.drawn (ModP.room m26 11) (by omega) _
  have o32 : ∀ g, g < G.nx → g ≠ B.ob → G32.obj g = G.obj g := fun g hg hn => by
    have : ¬ g = G26.nx + 6 := by omega
    rw [hG32, hR]
    simp [this]
    rw [hG26]
    simp [hn]
  have kc : ∀ g, InB B.cv g → g < G.nx ∧ g ≠ B.ob := fun g hg => ⟨hc.is.under g hg, fun e => by have h1 := tc g hg; have h2 := ho.tag; rw [e] at h1; omega⟩
  have hc32 : OwR rSp 0 G32 B.cv x.calls := hc.kept m32.nx fun g hg => o32 g (kc g hg).1 (kc g hg).2
  obtain ⟨cv', G33, e33, m33, w33⟩ := hc32.app_mod (ib := 80) (by decide) sl (by simp) (by simp; omega)
  have hcm : ModT [1, 4, 16] own G G33 := ModP.trans m32 (ModP.mono m33 fun g hg => .inl (show own g ∈ [1, 4, 16] by rw [tc g hg]; decide))
  have kx : ¬ InB B.cv B.xb := fun h => by have h1 := tc _ h; have h2 := hx.tag; omega
  have ko : ¬ InB B.cv B.ob := fun h => (kc _ h).2 rfl
  have x32 := (o32 _ hx.lt n3).trans hx.obj
  have x33 := (m33.obj B.xb (by have := hx.lt; omega) kx).trans x32
  have ob32 : G32.obj B.ob = some ⟨o3, 1, false, 1⟩ := by
    have : ¬ B.ob = G26.nx + 6 := by have := ho.lt; omega
    rw [hG32, hR]
    simp [this]
    rw [hG26]
    simp
  have ob33 := (m33.obj B.ob (by have := ho.lt; omega) ko).trans ob32
  have hz : z29 = [.int .i64 0, .int .i64 0, .int .i64 0, .int .i64 0, .int .i64 0, .int .i64 0, .int .u64 0, .int .i64 0, .int .i64 0, .int .u64 0] := rfl
  have xR : G26.obj B.xb = some ⟨crX n x B, 1, false, 1⟩ := by rw [hG26]; simp [n3, hx.obj]
  have sR : G26.obj sb = some ⟨rSp.row a, 1, false, 1⟩ := by rw [hG26]; simp [n4]; simpa using os
  have one' := own_one w33
  have fin : ModT [1, 4, 16] own G (G33.put B.xb ⟨crX n x { B with cv := cv' }, 1, false, 1⟩) ∧ OwR rSp G.nx (G33.put B.xb ⟨crX n x { B with cv := cv' }, 1, false, 1⟩) cv' (x.calls ++ [a]) ∧ (G33.put B.xb ⟨crX n x { B with cv := cv' }, 1, false, 1⟩).obj B.xb = some ⟨crX n x { B with cv := cv' }, 1, false, 1⟩ ∧ (G33.put B.xb ⟨crX n x { B with cv := cv' }, 1, false, 1⟩).obj B.ob = some ⟨o3, 1, false, 1⟩ := by
    refine ⟨ModT.put hcm (.inl (by rw [hx.tag]; decide)) _, (w33.kept (by simp) fun g hg => ?_).mono (by omega), by simp, by simp [n3', ob33]⟩
    have h1 := w33.from hg
    have h2 := hx.lt
    rw [obj_put, if_neg (by omega)]
  refine Wp.mono (Q := fun q => q = (.tuple #[], G33.put B.xb ⟨crX n x { B with cv := cv' }, 1, false, 1⟩)) ?_ (fun q hq => by subst hq; exact ⟨rfl, cv', fin⟩)
  clear fin
  simp only [rSp_sz] at e33
  rw [hG32] at e33
  simp only [crX] at x33 xR ⊢
  have hxo := hx.obj
  simp only [crX] at hxo
  simp only [rSp_row] at sR e33
  have hoo := ho.obj
  rcases (show c = 0 ∨ c = 1 ∨ c = 2 by omega) with rfl | rfl | rfl
  all_goals
    simp [upN] at ho3
    simp [j73_0, jb73_0, t0, t1, t4, hxo, hoo, lc, ← ho3, ← hG26]
    simp [← hR, xR, sR, hz, e33, x33, stO_one _ _ one']
end
end Go.Proofs.YtlaojmcekeohnaaGreatDoor.Lift

set_option linter.unusedVariables false
set_option linter.unusedSimpArgs false
set_option maxRecDepth 20000
namespace Go.Proofs.YtlaojmcekeohnaaGreatDoor.Lift
open Go Go.Proofs.YtlaojmcekeohnaaGreatDoor.Gh Go.Proofs
section
variable {own own' own1 : Nat → Nat} {G G' G1 : GS} {b t n c : Nat} {ts : List Nat} {cs : List Value} {x y y0 : CS} {B B1 : CrB} {v : Value}
/-- behind what each kind of operation needs: the call is laid -/
theorem begins_fin (orc : FuncId → Bool) (hxb : Cel own1 G1 B1.xb 1 (crX n y0 B1)) (hp : Cel own1 G1 B1.pb 2 [B1.pv 0, B1.pv 1]) (hv : Cel own1 G1 B1.vb 14 [.int .i64 (y0.v 0), .int .i64 (y0.v 1)]) (hh : Cel own1 G1 B1.hb 15 [.int .i64 (y0.e 0), .int .i64 (y0.e 1)]) (ho : Cel own1 G1 B1.ob 16 [.int .i64 (y0.o 0), .int .i64 (y0.o 1), .int .i64 (y0.o 2)])
    (hm : PMx (Tag own1 G1 10) G1 B1.m y0.s) (so : y0.s.ok) (hq : OwR (rowsI .i64) 0 G1 B1.qv y0.q) (tq : ∀ g, InB B1.qv g → own1 g = 3) (hc : OwR rSp 0 G1 B1.cv y0.calls) (tc : ∀ g, InB B1.cv g → own1 g = 4)
    {a : Sp} (hy : y = { y0 with o := upN y0.o c y0.calls.length, calls := y0.calls ++ [a] })
    (p : ∀ j, j < 2 → 0 ≤ y.o j → ∃ b, B1.pv j = P0 b ∧ b < G1.nx ∧ own1 b = 5 + j ∧ PuR G1 b (y.p j) ∧ (y.p j).ok)
    (f : (y.next = true ∨ 0 ≤ y.o 2) → ∃ b, B1.fv = P0 b ∧ b < G1.nx ∧ own1 b = 7 ∧ PfR G1 b y.f ∧ y.f.ok)
    (d : y.dd = true → ∃ b, B1.dv = P0 b ∧ b < G1.nx ∧ own1 b = 8 ∧ PdR G1 b y.d ∧ y.d.ok)
    (ones : (∀ c, one (B1.pv c) = true) ∧ one B1.fv = true ∧ one B1.dv = true)
    (hlen : y0.calls.length ≤ 100000) {sb : Nat} (hsb : sb < G1.nx) (tsb : own1 sb = 13) (os : G1.obj sb = some ⟨rSp.row a, 1, false, 1⟩) (hc3 : c < 3) (τ : Env) (t0 : τ 0 = P0 B1.xb) (t1 : τ 1 = .int .i64 c) (t4 : τ 4 = P0 sb) :
    Wp (j73_0 true (exL Q orc) τ G1) fun q => q.1 = .tuple #[] ∧ ∃ own' B', B'.xb = B1.xb ∧ Agr own1 own' G1 ∧ ModT [1, 4, 16] own1 G1 q.2 ∧ CrG own' q.2 n y B' := by
  refine Wp.mono (begins_J0 orc hxb ho hc tc hlen hsb tsb os hc3 τ t0 t1 t4) ?_
  rintro ⟨r, H⟩ ⟨rfl, cv', m, w, ox, oo⟩
  simp only at m w ox oo
  have ag : Agr own1 (grown own1 G1 4) G1 := grown_agr
  have nx := m.nx
  refine ⟨rfl, grown own1 G1 4, { B1 with cv := cv' }, rfl, ag, m, ⟨⟨Nat.lt_of_lt_of_le hxb.lt nx, (ag _ hxb.lt).trans hxb.tag, by rw [ox, hy]; rfl⟩, hp.to m (by decide) ag, by rw [hy]; exact hv.to m (by decide) ag, by rw [hy]; exact hh.to m (by decide) ag, ⟨Nat.lt_of_lt_of_le ho.lt nx, (ag _ ho.lt).trans ho.tag, by rw [oo, hy]⟩, by rw [hy]; exact (sepP _ _).tag hm m (by decide) ag, by rw [hy]; exact so, by rw [hy]; exact OwR.to hq tq m (by decide), fun g hg => (ag g (hq.is.under g hg)).trans (tq g hg), by rw [hy]; exact w.mono (Nat.zero_le _), fun g hg => grown_new (w.from hg), fun j hj hoj => ?_, fun hf => ?_, fun hd => ?_, ones⟩⟩
  · obtain ⟨b, h1, h2, h3, h4, h5⟩ := p j hj hoj
    have : own1 b ∉ [1, 4, 16] := by rw [h3]; rcases (show j = 0 ∨ j = 1 by omega) with rfl | rfl <;> decide
    exact ⟨b, h1, Nat.lt_of_lt_of_le h2 nx, (ag b h2).trans h3, h4.kept (m.same h2 this), h5⟩
  · obtain ⟨b, h1, h2, h3, h4, h5⟩ := f hf
    exact ⟨b, h1, Nat.lt_of_lt_of_le h2 nx, (ag b h2).trans h3, h4.kept (m.same h2 (by rw [h3]; decide)), h5⟩
  · obtain ⟨b, h1, h2, h3, h4, h5⟩ := d hd
    exact ⟨b, h1, Nat.lt_of_lt_of_le h2 nx, (ag b h2).trans h3, h4.kept (m.same h2 (by rw [h3]; decide)), h5⟩
/-- what is behind the clock's tick and the empty span -/
theorem tick (h : CrG own G n x B) {G17 : GS} {a0 : Sp} (hG17 : G17 = (((((G.put B.xb ⟨crX n { x with clock := x.clock + 1 } B, 1, false, 1⟩).room 12).at' (G.nx + 10)).push ⟨z29, 1, false, 1⟩).back ((G.put B.xb ⟨crX n { x with clock := x.clock + 1 } B, 1, false, 1⟩).room 12)).put (G.nx + 10) ⟨rSp.row a0, 1, false, 1⟩) :
    CrG (grown own G 13) G17 n { x with clock := x.clock + 1 } B ∧ ModT [1] own G G17 ∧ G17.obj (G.nx + 10) = some ⟨rSp.row a0, 1, false, 1⟩ ∧ G17.nx = G.nx + 12 := by
  have hlt := h.cx.lt
  have m : ModT [1] own G G17 := by
    rw [hG17]
    exact ModT.put (ModP.drawn (ModP.room (ModT.put (ModT.refl _ _ _) (.inl (by rw [h.cx.tag]; decide)) _) 12) (by omega) _) (.inr (by omega)) _
  have ag : Agr own (grown own G 13) G := grown_agr
  have n17 : G17.nx = G.nx + 12 := by rw [hG17]; rfl
  have ox : G17.obj B.xb = some ⟨crX n { x with clock := x.clock + 1 } B, 1, false, 1⟩ := by
    rw [hG17]
    simp
    rw [if_neg (by omega), if_neg (by omega)]
  have k := h.kept (m.mono (by decide)) ag
  exact ⟨⟨⟨by omega, (ag _ hlt).trans h.cx.tag, ox⟩, h.cp.to m (by decide) ag, h.cw.to m (by decide) ag, h.ch.to m (by decide) ag, h.co.to m (by decide) ag, k.hm, h.so, k.hq, k.tq, k.hc, k.tc, k.p, k.f, k.d, h.ones⟩, m, by rw [hG17]; simp, n17⟩
theorem begins_front (orc : FuncId → Bool) (h : CrG own G n x B) (hn : x.next = false) (ho : x.o 2 = -1) (hclk : 0 ≤ x.clock ∧ x.clock ≤ 1000000) (hlen : x.calls.length ≤ 100000) (hn1 : 1 ≤ n) (hn6 : n ≤ 6) :
    Wp ((E orc).cl 73 [P0 B.xb, .int .i64 2] G) (CrPost own G n B (x.begins n 2) (.tuple #[])) := by
  refine Wp.ref (f73 (exL_ok Q orc) _ _ G) ?_
  have hw : IntKind.wrap .i64 (x.clock + 1) = x.clock + 1 := wrap64 (by omega) (by omega)
  obtain ⟨G17, hG17⟩ : ∃ G17, G17 = (((((G.put B.xb ⟨crX n { x with clock := x.clock + 1 } B, 1, false, 1⟩).room 12).at' (G.nx + 10)).push ⟨z29, 1, false, 1⟩).back ((G.put B.xb ⟨crX n { x with clock := x.clock + 1 } B, 1, false, 1⟩).room 12)).put (G.nx + 10) ⟨rSp.row ⟨x.calls.length, x.clock + 1, -1, (0, 0, 0, 0), (0, 0, 0)⟩, 1, false, 1⟩ := ⟨_, rfl⟩
  obtain ⟨h17, m17, os17, n17⟩ := tick h hG17
  have cx17 := h17.cx.obj
  obtain ⟨b, G107, e107, x107, b1, b2, b3⟩ := newfront_ok orc (rgN n) G17
  have hb : G17.nx ≤ b := b1
  obtain ⟨own1, hown1⟩ : ∃ own1 : Nat → Nat, own1 = fun g => if g = b then 7 else grown own G 13 g := ⟨_, rfl⟩
  have ag1 : Agr (grown own G 13) own1 G17 := fun g hg => by rw [hown1]; simp only; rw [if_neg (by omega)]
  obtain ⟨ca, cc, hcv⟩ := h.hc.is.len
  have lc : ∀ t, ln Q true t B.cv = some (.int .i64 x.calls.length) := fun t => by rw [hcv]; simp
  have hlt := h.cx.lt
  have lx17 := h17.cx.lt
  obtain ⟨G113, hG113⟩ : ∃ G113, G113 = (G107.put B.xb ⟨crX n { x with clock := x.clock + 1, f := newFr (rgN n) } { B with fv := P0 b }, 1, false, 1⟩).put (G.nx + 10) ⟨rSp.row ⟨x.calls.length, x.clock + 1, -1, (2, 0, 0, 0), (0, 0, 0)⟩, 1, false, 1⟩ := ⟨_, rfl⟩
  have d1 : ¬ G.nx + 10 = B.xb := by omega
  have d2 : ¬ B.xb = G.nx + 10 := by omega
  have t17 : grown own G 13 (G.nx + 10) = 13 := grown_new (by omega)
  have m113 : ModT [1, 13] (grown own G 13) G17 G113 := by
    rw [hG113]
    exact ModT.put (ModT.put (ModT.ext x107) (.inl (by rw [h17.cx.tag]; decide)) _) (.inl (by rw [t17]; decide)) _
  have n113 := m113.nx
  have n107 := x107.nx
  have k := h17.kept (m113.mono (by decide)) ag1
  have lb : b < G113.nx := by rw [hG113]; exact b2
  have obx : G113.obj B.xb = some ⟨crX n { x with clock := x.clock + 1, f := newFr (rgN n) } { B with fv := P0 b }, 1, false, 1⟩ := by rw [hG113]; simp [d2]
  have obs : G113.obj (G.nx + 10) = some ⟨rSp.row ⟨x.calls.length, x.clock + 1, -1, (2, 0, 0, 0), (0, 0, 0)⟩, 1, false, 1⟩ := by rw [hG113]; simp
  have obb : G113.obj b = G107.obj b := by rw [hG113]; simp; rw [if_neg (by omega), if_neg (by omega)]
  have hfr : newFr (rgN n) = .go 1 (rgN n) 0 := by unfold newFr; rw [if_pos (rgN_ok hn1 hn6)]
  have fin := fun (τ : Env) (t0 : τ 0 = P0 B.xb) (t1 : τ 1 = .int .i64 (2 : Nat)) (t4 : τ 4 = P0 (G.nx + 10)) => begins_fin (own1 := own1) (G1 := G113) (n := n) (y0 := { x with clock := x.clock + 1, f := newFr (rgN n) }) (B1 := { B with fv := P0 b }) (y := x.begins n 2) (c := 2) (sb := G.nx + 10) orc
    ⟨(show B.xb < G113.nx by omega), (ag1 _ lx17).trans h17.cx.tag, obx⟩ (h17.cp.to m113 (by decide) ag1) (h17.cw.to m113 (by decide) ag1) (h17.ch.to m113 (by decide) ag1) (h17.co.to m113 (by decide) ag1) k.hm h.so k.hq k.tq k.hc k.tc
    (a := ⟨x.calls.length, x.clock + 1, -1, (2, 0, 0, 0), (0, 0, 0)⟩) (by unfold CS.begins; rw [if_neg (by decide), if_neg (by rw [hn]; simp)])
    (fun j hj hoj => by
      have he : (x.begins n 2).p = x.p ∧ (x.begins n 2).o j = x.o j := by
        unfold CS.begins; rw [if_neg (by decide), if_neg (by rw [hn]; simp)]
        exact ⟨rfl, upN_ne _ _ (by omega)⟩
      rw [he.2] at hoj
      rw [he.1]
      exact k.p j hj hoj)
    (fun _ => ⟨b, rfl, lb, by rw [hown1]; simp, by
      have he : (x.begins n 2).f = newFr (rgN n) := by unfold CS.begins; rw [if_neg (by decide), if_neg (by rw [hn]; simp)]
      rw [he]; exact ⟨b3.kept obb, newFr_ok _⟩⟩)
    (fun hd => by
      have he : (x.begins n 2).dd = x.dd ∧ (x.begins n 2).d = x.d := by unfold CS.begins; rw [if_neg (by decide), if_neg (by rw [hn]; simp)]; exact ⟨rfl, rfl⟩
      rw [he.1] at hd
      rw [he.2]; exact k.d hd)
    ⟨h.ones.1, rfl, h.ones.2.2⟩ hlen (by omega) ((ag1 _ (by omega)).trans t17) obs (by decide) τ t0 t1 t4
  have fin' : ∀ (τ : Env), τ 0 = P0 B.xb → τ 1 = .int .i64 2 → τ 4 = P0 (G.nx + 10) → Wp (j73_0 true (exL Q orc) τ G113) (CrPost own G n B (x.begins n 2) (.tuple #[])) := by
    intro τ t0 t1 t4
    refine (fin τ t0 t1 t4).mono ?_
    rintro ⟨r, H⟩ ⟨rfl, own', B', hB, ag', m', h'⟩
    have ag17 : Agr own (grown own G 13) G := grown_agr
    have a1 : Agr own own1 G := ag17.trans ag1 (by omega)
    have mm : ModT crT own G G113 := by
      rw [hG113]
      exact ModT.put (ModT.put ((m17.mono (by decide)).trans ag17 (ModT.ext x107)) (.inl (by rw [h.cx.tag]; decide)) _) (.inr (by omega)) _
    exact ⟨rfl, own', B', hB, a1.trans ag' mm.nx, mm.trans a1 (m'.mono (by decide)), h'⟩
  have hz : z29 = [.int .i64 0, .int .i64 0, .int .i64 0, .int .i64 0, .int .i64 0, .int .i64 0, .int .u64 0, .int .i64 0, .int .i64 0, .int .u64 0] := rfl
  have hz2 : z24 = [.int .i64 0, .int .i64 0, .int .i64 0, .int .u64 0] := rfl
  have hx0 := h.cx.obj
  have os107 := (x107.obj _ (by omega)).trans os17
  have cx107 := (x107.obj _ lx17).trans cx17
  have e107' : (E orc).cl 66 [.agg ⟨[.int .i64 0, .int .i64 1, .int .i64 2, .int .i64 n]⟩] G17 = some (P0 b, G107) := e107
  simp only [crX, rSp_row, hz, hn] at hG17 hG113 hx0 cx17 cx107 os17 os107
  clear fin obx obs k
  simp [s73, sb73, hx0, hw, lc, hz, hz2, d1, d2, ← hG17, cx17, hn, e107', cx107, os107]

  rw [← hG113]
  exact fin' _ (by simp [clip_t]) (by simp [clip_t]) (by simp [clip_t])
theorem begins_drop (orc : FuncId → Bool) (h : CrG own G n x B) (hn : x.next = true) (ho : x.o 2 = -1) (hclk : 0 ≤ x.clock ∧ x.clock ≤ 1000000) (hlen : x.calls.length ≤ 100000) (hn1 : 1 ≤ n) (hn6 : n ≤ 6) (hat : U x.f.at') :
    Wp ((E orc).cl 73 [P0 B.xb, .int .i64 2] G) (CrPost own G n B (x.begins n 2) (.tuple #[])) := by
  refine Wp.ref (f73 (exL_ok Q orc) _ _ G) ?_
  have hw : IntKind.wrap .i64 (x.clock + 1) = x.clock + 1 := wrap64 (by omega) (by omega)
  obtain ⟨G17, hG17⟩ : ∃ G17, G17 = (((((G.put B.xb ⟨crX n { x with clock := x.clock + 1 } B, 1, false, 1⟩).room 12).at' (G.nx + 10)).push ⟨z29, 1, false, 1⟩).back ((G.put B.xb ⟨crX n { x with clock := x.clock + 1 } B, 1, false, 1⟩).room 12)).put (G.nx + 10) ⟨rSp.row ⟨x.calls.length, x.clock + 1, -1, (0, 0, 0, 0), (0, 0, 0)⟩, 1, false, 1⟩ := ⟨_, rfl⟩
  obtain ⟨h17, m17, os17, n17⟩ := tick h hG17
  have cx17 := h17.cx.obj
  obtain ⟨bf, f1, f2, f3, f4, f5⟩ := h17.f (.inl hn)
  have x93 := (Ext.refl G17).room 14
  have eat := fat_ok orc (f4.kept (x93.obj bf f2))
  obtain ⟨b, G107, e107, x107', b1, b2, b3⟩ := newdrop_ok orc (rgN n) x.f.at' (G17.room 14)
  have x107 := x93.trans x107'
  have hb : G17.nx ≤ b := Nat.le_trans x93.nx b1
  obtain ⟨own1, hown1⟩ : ∃ own1 : Nat → Nat, own1 = fun g => if g = b then 8 else grown own G 13 g := ⟨_, rfl⟩
  have ag1 : Agr (grown own G 13) own1 G17 := fun g hg => by rw [hown1]; simp only; rw [if_neg (by omega)]
  obtain ⟨ca, cc, hcv⟩ := h.hc.is.len
  have lc : ∀ t, ln Q true t B.cv = some (.int .i64 x.calls.length) := fun t => by rw [hcv]; simp
  have hlt := h.cx.lt
  have lx17 := h17.cx.lt
  obtain ⟨G113, hG113⟩ : ∃ G113, G113 = (G107.put B.xb ⟨crX n { x with clock := x.clock + 1, d := newDr (rgN n) x.f.at', dd := true } { B with dv := P0 b }, 1, false, 1⟩).put (G.nx + 10) ⟨rSp.row ⟨x.calls.length, x.clock + 1, -1, (3, 0, 0, 0), (0, 0, 0)⟩, 1, false, 1⟩ := ⟨_, rfl⟩
  have d1 : ¬ G.nx + 10 = B.xb := by omega
  have d2 : ¬ B.xb = G.nx + 10 := by omega
  have t17 : grown own G 13 (G.nx + 10) = 13 := grown_new (by omega)
  have m113 : ModT [1, 13] (grown own G 13) G17 G113 := by
    rw [hG113]
    exact ModT.put (ModT.put (ModT.ext x107) (.inl (by rw [h17.cx.tag]; decide)) _) (.inl (by rw [t17]; decide)) _
  have n113 := m113.nx
  have n107 := x107.nx
  have k := h17.kept (m113.mono (by decide)) ag1
  have lb : b < G113.nx := by rw [hG113]; exact b2
  have obx : G113.obj B.xb = some ⟨crX n { x with clock := x.clock + 1, d := newDr (rgN n) x.f.at', dd := true } { B with dv := P0 b }, 1, false, 1⟩ := by rw [hG113]; simp [d2]
  have obs : G113.obj (G.nx + 10) = some ⟨rSp.row ⟨x.calls.length, x.clock + 1, -1, (3, 0, 0, 0), (0, 0, 0)⟩, 1, false, 1⟩ := by rw [hG113]; simp
  have obb : G113.obj b = G107.obj b := by rw [hG113]; simp; rw [if_neg (by omega), if_neg (by omega)]
  have fin := fun (τ : Env) (t0 : τ 0 = P0 B.xb) (t1 : τ 1 = .int .i64 (2 : Nat)) (t4 : τ 4 = P0 (G.nx + 10)) => begins_fin (own1 := own1) (G1 := G113) (n := n) (y0 := { x with clock := x.clock + 1, d := newDr (rgN n) x.f.at', dd := true }) (B1 := { B with dv := P0 b }) (y := x.begins n 2) (c := 2) (sb := G.nx + 10) orc
    ⟨(show B.xb < G113.nx by omega), (ag1 _ lx17).trans h17.cx.tag, obx⟩ (h17.cp.to m113 (by decide) ag1) (h17.cw.to m113 (by decide) ag1) (h17.ch.to m113 (by decide) ag1) (h17.co.to m113 (by decide) ag1) k.hm h.so k.hq k.tq k.hc k.tc
    (a := ⟨x.calls.length, x.clock + 1, -1, (3, 0, 0, 0), (0, 0, 0)⟩) (by unfold CS.begins; rw [if_neg (by decide), if_pos hn])
    (fun j hj hoj => by
      have he : (x.begins n 2).p = x.p ∧ (x.begins n 2).o j = x.o j := by
        unfold CS.begins; rw [if_neg (by decide), if_pos hn]
        exact ⟨rfl, upN_ne _ _ (by omega)⟩
      rw [he.2] at hoj
      rw [he.1]
      exact k.p j hj hoj)
    (fun hf => by
      have he : (x.begins n 2).f = x.f := by unfold CS.begins; rw [if_neg (by decide), if_pos hn]
      rw [he]
      obtain ⟨b', g1, g2, g3, g4, g5⟩ := k.f (.inl hn)
      exact ⟨b', g1, g2, g3, g4, g5⟩)
    (fun _ => ⟨b, rfl, lb, by rw [hown1]; simp, by
      have he : (x.begins n 2).d = newDr (rgN n) x.f.at' := by unfold CS.begins; rw [if_neg (by decide), if_pos hn]
      rw [he]; exact ⟨b3.kept obb, newDr_ok _ hat⟩⟩)
    ⟨h.ones.1, h.ones.2.1, rfl⟩ hlen (by omega) ((ag1 _ (by omega)).trans t17) obs (by decide) τ t0 t1 t4
  have fin' : ∀ (τ : Env), τ 0 = P0 B.xb → τ 1 = .int .i64 2 → τ 4 = P0 (G.nx + 10) → Wp (j73_0 true (exL Q orc) τ G113) (CrPost own G n B (x.begins n 2) (.tuple #[])) := by
    intro τ t0 t1 t4
    refine (fin τ t0 t1 t4).mono ?_
    rintro ⟨r, H⟩ ⟨rfl, own', B', hB, ag', m', h'⟩
    have ag17 : Agr own (grown own G 13) G := grown_agr
    have a1 : Agr own own1 G := ag17.trans ag1 (by omega)
    have mm : ModT crT own G G113 := by
      rw [hG113]
      exact ModT.put (ModT.put ((m17.mono (by decide)).trans ag17 (ModT.ext x107)) (.inl (by rw [h.cx.tag]; decide)) _) (.inr (by omega)) _
    exact ⟨rfl, own', B', hB, a1.trans ag' mm.nx, mm.trans a1 (m'.mono (by decide)), h'⟩
  have hz : z29 = [.int .i64 0, .int .i64 0, .int .i64 0, .int .i64 0, .int .i64 0, .int .i64 0, .int .u64 0, .int .i64 0, .int .i64 0, .int .u64 0] := rfl
  have hz2 : z24 = [.int .i64 0, .int .i64 0, .int .i64 0, .int .u64 0] := rfl
  have hx0 := h.cx.obj
  have os107 := (x107.obj _ (by omega)).trans os17
  have cx107 := (x107.obj _ lx17).trans cx17
  have e107' : (E orc).cl 96 [.agg ⟨[.int .i64 0, .int .i64 1, .int .i64 2, .int .i64 n]⟩, .int .u64 x.f.at'] (G17.room 14) = some (P0 b, G107) := e107
  simp only [crX, rSp_row, hz, hn, f1] at hG17 hG113 hx0 cx17 cx107 os17 os107
  clear fin obx obs k
  simp [s73, sb73, hx0, hw, lc, hz, hz2, d1, d2, ← hG17, cx17, hn, f1, eat, e107', cx107, os107]

  rw [← hG113]
  exact fin' _ (by simp [clip_t]) (by simp [clip_t]) (by simp [clip_t])
end
end Go.Proofs.YtlaojmcekeohnaaGreatDoor.Lift

set_option linter.unusedVariables false
set_option linter.unusedSimpArgs false
set_option maxRecDepth 20000
namespace Go.Proofs.YtlaojmcekeohnaaGreatDoor.Lift
open Go Go.Proofs.YtlaojmcekeohnaaGreatDoor.Gh Go.Proofs
section
variable {own own' own1 : Nat → Nat} {G G' G1 : GS} {b t n c : Nat} {ts : List Nat} {cs : List Value} {x y y0 : CS} {B B1 : CrB} {v : Value}
set_option maxHeartbeats 2000000 in
theorem begins_push (orc : FuncId → Bool) (h : CrG own G n x B) (hc : c < 2) (ho : x.o c = -1) (hclk : 0 ≤ x.clock ∧ x.clock ≤ 1000000) (hpu : 0 ≤ x.pushed ∧ x.pushed ≤ 1000000) (hlen : x.calls.length ≤ 100000) (hn1 : 1 ≤ n) (hn6 : n ≤ 6) :
    Wp ((E orc).cl 73 [P0 B.xb, .int .i64 c] G) (CrPost own G n B (x.begins n c) (.tuple #[])) := by
  refine Wp.ref (f73 (exL_ok Q orc) _ _ G) ?_
  have hw : IntKind.wrap .i64 (x.clock + 1) = x.clock + 1 := wrap64 (by omega) (by omega)
  have hw2 : IntKind.wrap .i64 (x.pushed + 1) = x.pushed + 1 := wrap64 (by omega) (by omega)
  have hmod : Int.tmod (x.pushed + 1) 65536 = (x.pushed + 1) % 65536 := Int.tmod_eq_emod_of_nonneg (by omega)
  have hz0 : 0 ≤ (x.pushed + 1) % 65536 ∧ (x.pushed + 1) % 65536 ≤ 65535 := by omega
  obtain ⟨z, hz'⟩ : ∃ z, (x.pushed + 1) % 65536 = z := ⟨_, rfl⟩
  rw [hz'] at hmod hz0
  have hwz : IntKind.wrap .u64 z = z := by rw [wrap_u64]; omega
  obtain ⟨G17, hG17⟩ : ∃ G17, G17 = (((((G.put B.xb ⟨crX n { x with clock := x.clock + 1 } B, 1, false, 1⟩).room 12).at' (G.nx + 10)).push ⟨z29, 1, false, 1⟩).back ((G.put B.xb ⟨crX n { x with clock := x.clock + 1 } B, 1, false, 1⟩).room 12)).put (G.nx + 10) ⟨rSp.row ⟨x.calls.length, x.clock + 1, -1, (0, 0, 0, 0), (0, 0, 0)⟩, 1, false, 1⟩ := ⟨_, rfl⟩
  obtain ⟨h17, m17, os17, n17⟩ := tick h hG17
  have ag17 : Agr own (grown own G 13) G := grown_agr
  obtain ⟨G45, hG45⟩ : ∃ G45, G45 = G17.put B.xb ⟨crX n { x with clock := x.clock + 1, pushed := x.pushed + 1 } B, 1, false, 1⟩ := ⟨_, rfl⟩
  obtain ⟨w2, hw2'⟩ : ∃ w2 : List Value, w2 = [.int .i64 (upN x.v c z 0), .int .i64 (upN x.v c z 1)] := ⟨_, rfl⟩
  obtain ⟨G54, hG54⟩ : ∃ G54, G54 = (G45.room 12).put B.vb ⟨w2, 1, false, 1⟩ := ⟨_, rfl⟩
  have m54 : ModT [1, 14] (grown own G 13) G17 G54 := by
    rw [hG54, hG45]
    exact ModT.put (ModP.room (ModT.put (ModT.refl _ _ _) (.inl (by rw [h17.cx.tag]; decide)) _) 12) (.inl (by rw [h17.cw.tag]; decide)) _
  obtain ⟨b, G66, e66, x66, b1, b2, b3⟩ := newpush_ok orc (rgN n) z (G54.room 19)
  have n54 := m54.nx
  have y66 : Ext G54 G66 := ((Ext.refl G54).room 19).trans x66
  have n66 := y66.nx
  have hb : G54.nx ≤ b := Nat.le_trans ((Ext.refl G54).room 19).nx b1
  obtain ⟨p2, hp2'⟩ : ∃ p2 : List Value, p2 = [upN B.pv c (P0 b) 0, upN B.pv c (P0 b) 1] := ⟨_, rfl⟩
  obtain ⟨e2, he2'⟩ : ∃ e2 : List Value, e2 = [.int .i64 (upN x.e c 14 0), .int .i64 (upN x.e c 14 1)] := ⟨_, rfl⟩
  obtain ⟨G83, hG83⟩ : ∃ G83, G83 = ((G66.put B.pb ⟨p2, 1, false, 1⟩).put B.hb ⟨e2, 1, false, 1⟩).put (G.nx + 10) ⟨rSp.row ⟨x.calls.length, x.clock + 1, -1, (1, 0, 0, z), (0, 0, 0)⟩, 1, false, 1⟩ := ⟨_, rfl⟩
  have t17 : grown own G 13 (G.nx + 10) = 13 := grown_new (by omega)
  have m83 : ModT [1, 2, 13, 14, 15] (grown own G 13) G17 G83 := by
    rw [hG83]
    refine ModT.put (ModT.put (ModT.put ((m54.mono (by decide)).trans (Agr.refl _ _) (ModT.ext y66)) (.inl (by rw [h17.cp.tag]; decide)) _) (.inl (by rw [h17.ch.tag]; decide)) _) (.inl (by rw [t17]; decide)) _
  obtain ⟨own1, hown1⟩ : ∃ own1 : Nat → Nat, own1 = fun g => if g = b then 5 + c else grown own G 13 g := ⟨_, rfl⟩
  have ag1 : Agr (grown own G 13) own1 G17 := fun g hg => by rw [hown1]; simp only; rw [if_neg (by omega)]
  have k := h17.kept (m83.mono (by decide)) ag1
  obtain ⟨ca, cc, hcv⟩ := h.hc.is.len
  have lc : ∀ t, ln Q true t B.cv = some (.int .i64 x.calls.length) := fun t => by rw [hcv]; simp
  have lx := h.cx.lt
  have lp := h.cp.lt
  have lw := h.cw.lt
  have lh := h.ch.lt
  have lo := h.co.lt
  have dxp : ¬ B.xb = B.pb := h.cx.ne h.cp.tag (by decide)
  have dxw : ¬ B.xb = B.vb := h.cx.ne h.cw.tag (by decide)
  have dxh : ¬ B.xb = B.hb := h.cx.ne h.ch.tag (by decide)
  have dpw : ¬ B.pb = B.vb := h.cp.ne h.cw.tag (by decide)
  have dph : ¬ B.pb = B.hb := h.cp.ne h.ch.tag (by decide)
  have dwh : ¬ B.vb = B.hb := h.cw.ne h.ch.tag (by decide)
  have dpx : ¬ B.pb = B.xb := fun e => dxp e.symm
  have dwx : ¬ B.vb = B.xb := fun e => dxw e.symm
  have dhx : ¬ B.hb = B.xb := fun e => dxh e.symm
  have dwp : ¬ B.vb = B.pb := fun e => dpw e.symm
  have dhp : ¬ B.hb = B.pb := fun e => dph e.symm
  have dhw : ¬ B.hb = B.vb := fun e => dwh e.symm
  have dsx : ¬ G.nx + 10 = B.xb := by omega
  have dsp : ¬ G.nx + 10 = B.pb := by omega
  have dsw : ¬ G.nx + 10 = B.vb := by omega
  have dsh : ¬ G.nx + 10 = B.hb := by omega
  have dxs : ¬ B.xb = G.nx + 10 := by omega
  have dps : ¬ B.pb = G.nx + 10 := by omega
  have dws : ¬ B.vb = G.nx + 10 := by omega
  have dhs : ¬ B.hb = G.nx + 10 := by omega
  -- what lies where
  have x54 : G54.obj B.xb = some ⟨crX n { x with clock := x.clock + 1, pushed := x.pushed + 1 } B, 1, false, 1⟩ := by rw [hG54, hG45]; simp [dxw]
  have p54 : G54.obj B.pb = some ⟨[B.pv 0, B.pv 1], 1, false, 1⟩ := by rw [hG54, hG45]; simp [dpw, dpx]; exact h17.cp.obj
  have w54 : G54.obj B.vb = some ⟨w2, 1, false, 1⟩ := by rw [hG54]; simp
  have h54 : G54.obj B.hb = some ⟨[.int .i64 (x.e 0), .int .i64 (x.e 1)], 1, false, 1⟩ := by rw [hG54, hG45]; simp [dhw, dhx]; exact h17.ch.obj
  have s54 : G54.obj (G.nx + 10) = some ⟨rSp.row ⟨x.calls.length, x.clock + 1, -1, (0, 0, 0, 0), (0, 0, 0)⟩, 1, false, 1⟩ := by rw [hG54, hG45]; simp [dsw, dsx]; simpa using os17
  have x66' := (y66.obj B.xb (by omega)).trans x54
  have p66 := (y66.obj B.pb (by omega)).trans p54
  have w66 := (y66.obj B.vb (by omega)).trans w54
  have h66 := (y66.obj B.hb (by omega)).trans h54
  have s66 := (y66.obj (G.nx + 10) (by omega)).trans s54
  have x83 : G83.obj B.xb = some ⟨crX n { x with clock := x.clock + 1, pushed := x.pushed + 1 } B, 1, false, 1⟩ := by rw [hG83]; simp [dxs, dxh, dxp, x66']
  have p83 : G83.obj B.pb = some ⟨p2, 1, false, 1⟩ := by rw [hG83]; simp [dps, dph]
  have w83 : G83.obj B.vb = some ⟨w2, 1, false, 1⟩ := by rw [hG83]; simp [dws, dwh, dwp, w66]
  have h83 : G83.obj B.hb = some ⟨e2, 1, false, 1⟩ := by rw [hG83]; simp [dhs]
  have s83 : G83.obj (G.nx + 10) = some ⟨rSp.row ⟨x.calls.length, x.clock + 1, -1, (1, 0, 0, z), (0, 0, 0)⟩, 1, false, 1⟩ := by rw [hG83]; simp
  have obb : G83.obj b = G66.obj b := by rw [hG83]; simp; rw [if_neg (by omega), if_neg (by omega), if_neg (by omega)]
  have n83 : G83.nx = G66.nx := by rw [hG83]; rfl
  have hB : x.begins n c = { x with clock := x.clock + 1, pushed := x.pushed + 1, v := upN x.v c z, p := upN x.p c (newPu (rgN n) z), e := upN x.e c 14, o := upN x.o c x.calls.length, calls := x.calls ++ [⟨x.calls.length, x.clock + 1, -1, (1, 0, 0, z), (0, 0, 0)⟩] } := by
    unfold CS.begins; rw [if_pos hc, hz']
  rw [hB]
  have fin := fun (τ : Env) (t0 : τ 0 = P0 B.xb) (t1 : τ 1 = .int .i64 c) (t4 : τ 4 = P0 (G.nx + 10)) => begins_fin (own1 := own1) (G1 := G83) (n := n) (y0 := { x with clock := x.clock + 1, pushed := x.pushed + 1, v := upN x.v c z, p := upN x.p c (newPu (rgN n) z), e := upN x.e c 14 }) (B1 := { B with pv := upN B.pv c (P0 b) }) (c := c) (sb := G.nx + 10) orc
    ⟨(show B.xb < G83.nx by omega), (ag1 B.xb (by omega)).trans h17.cx.tag, x83⟩ ⟨(show B.pb < G83.nx by omega), (ag1 B.pb (by omega)).trans h17.cp.tag, by rw [p83, hp2']⟩ ⟨(show B.vb < G83.nx by omega), (ag1 B.vb (by omega)).trans h17.cw.tag, by rw [w83, hw2']⟩ ⟨(show B.hb < G83.nx by omega), (ag1 B.hb (by omega)).trans h17.ch.tag, by rw [h83, he2']⟩ (h17.co.to m83 (by decide) ag1) k.hm h.so k.hq k.tq k.hc k.tc
    (a := ⟨x.calls.length, x.clock + 1, -1, (1, 0, 0, z), (0, 0, 0)⟩) (y := { x with clock := x.clock + 1, pushed := x.pushed + 1, v := upN x.v c z, p := upN x.p c (newPu (rgN n) z), e := upN x.e c 14, o := upN x.o c x.calls.length, calls := x.calls ++ [⟨x.calls.length, x.clock + 1, -1, (1, 0, 0, z), (0, 0, 0)⟩] }) rfl
    (fun j hj hoj => by
      by_cases e : j = c
      · subst e
        exact ⟨b, by simp [upN_same], (show b < G83.nx by omega), by rw [hown1]; simp, by simp only [upN_same]; exact b3.kept obb, by simp only [upN_same]; exact newPu_ok _ _⟩
      · simp only [upN_ne _ _ e] at hoj ⊢
        exact k.p j hj hoj)
    (fun hf => by
      simp only [upN_ne _ _ (show 2 ≠ c by omega)] at hf
      exact k.f hf)
    (fun hd => k.d hd)
    ⟨fun j => by by_cases e : j = c; subst e; simp [upN_same]; simp only [upN_ne _ _ e]; exact h.ones.1 j, h.ones.2.1, h.ones.2.2⟩ hlen (by omega) ((ag1 _ (by omega)).trans t17) s83 (by omega) τ t0 t1 t4
  have fin' : ∀ (τ : Env), τ 0 = P0 B.xb → τ 1 = .int .i64 c → τ 4 = P0 (G.nx + 10) → Wp (j73_0 true (exL Q orc) τ G83) (CrPost own G n B { x with clock := x.clock + 1, pushed := x.pushed + 1, v := upN x.v c z, p := upN x.p c (newPu (rgN n) z), e := upN x.e c 14, o := upN x.o c x.calls.length, calls := x.calls ++ [⟨x.calls.length, x.clock + 1, -1, (1, 0, 0, z), (0, 0, 0)⟩] } (.tuple #[])) := by
    intro τ t0 t1 t4
    refine (fin τ t0 t1 t4).mono ?_
    rintro ⟨r, H⟩ ⟨rfl, own', B', hB', ag', m', h'⟩
    have a1 : Agr own own1 G := ag17.trans ag1 (by omega)
    have mm : ModT crT own G G83 := by
      have e54 : ModT crT own G G54 := (m17.mono (by decide)).trans ag17 (m54.mono (by decide))
      rw [hG83]
      refine ModT.put (ModT.put (ModT.put (e54.trans (Agr.refl _ _) (ModT.ext y66)) (.inl (by rw [h.cp.tag]; decide)) _) (.inl (by rw [h.ch.tag]; decide)) _) (.inr (by omega)) _
    exact ⟨rfl, own', B', hB', a1.trans ag' mm.nx, mm.trans a1 (m'.mono (by decide)), h'⟩
  have hz : z29 = [.int .i64 0, .int .i64 0, .int .i64 0, .int .i64 0, .int .i64 0, .int .i64 0, .int .u64 0, .int .i64 0, .int .i64 0, .int .u64 0] := rfl
  have hz2 : z24 = [.int .i64 0, .int .i64 0, .int .i64 0, .int .u64 0] := rfl
  have hx0 := h.cx.obj
  have e66' : (E orc).cl 57 [.agg ⟨[.int .i64 0, .int .i64 1, .int .i64 2, .int .i64 n]⟩, .int .i64 z] (G54.room 19) = some (P0 b, G66) := e66
  have cx17 := h17.cx.obj
  have cw17 := h17.cw.obj
  have c2 : (c : Int) < 2 := by omega
  simp only [crX, rSp_row, hz] at hG17 hG45 hG83 hx0 cx17 x54 x66' os17 s54 s66
  have x45 : G45.obj B.xb = some ⟨[.int .i64 0, .int .i64 1, .int .i64 2, .int .i64 n, P0 B.m, .slice (some ⟨B.pb, 0, none⟩) 2 2, .slice (some ⟨B.vb, 0, none⟩) 2 2, B.fv, B.dv, .bool x.next, B.qv, .slice (some ⟨B.hb, 0, none⟩) 2 2, .int .i64 0, .int .i64 0, B.cv, .slice (some ⟨B.ob, 0, none⟩) 3 3, .int .i64 (x.clock + 1), .int .i64 (x.pushed + 1)], 1, false, 1⟩ := by rw [hG45]; simp
  have w45 : G45.obj B.vb = some ⟨[.int .i64 (x.v 0), .int .i64 (x.v 1)], 1, false, 1⟩ := by rw [hG45]; simp [dwx]; exact cw17
  clear fin x83 p83 w83 h83 s83 k
  rcases (show c = 0 ∨ c = 1 by omega) with rfl | rfl
  all_goals
    simp [upN] at hw2' hp2' he2'
    simp [s73, sb73, hx0, hw, lc, hz, hz2, dsx, dxs, ← hG17, cx17, hw2, ← hG45, x45, w45, hmod, ← hw2', ← hG54]
    rw [hw2'] at w54 w66
    simp [x54, w54, e66', x66', p66, w66, h66, s66, hwz, dxp, dxh, dph, dhp, dwp, dwh, dsp, dsh, dps, dhs, ← hp2', ← he2']
    rw [← hG83]
    exact fin' _ (by simp [clip_t]) (by simp [clip_t]) (by simp [clip_t])
end
end Go.Proofs.YtlaojmcekeohnaaGreatDoor.Lift

