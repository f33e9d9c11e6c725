/- contracts of the program's functions -/
import Derived.Test.YtocbppgkgcoehaaKC
set_option linter.unusedVariables false
set_option linter.unusedSimpArgs false
set_option maxRecDepth 20000
namespace Go.Proofs.Ytocbppgkgcoehaa.Lift
open Go Go.Proofs.Ytocbppgkgcoehaa.Gh Go.Proofs
section
variable {own own' own1 : Nat → Nat} {G G' G1 : GS} {b t n c : Nat} {ts : List Nat} {cs : List Value} {x y y0 : CS} {B B1 : CrB} {v : Value}
/-- behind what each kind of operation needs: the call is laid -/
theorem begins_fin (orc : FuncId → Bool) (hxb : Cel own1 G1 B1.xb 1 (crX n y0 B1)) (hp : Cel own1 G1 B1.pb 2 [B1.pv 0, B1.pv 1]) (hv : Cel own1 G1 B1.vb 14 [.int .i64 (y0.v 0), .int .i64 (y0.v 1)]) (hh : Cel own1 G1 B1.hb 15 [.int .i64 (y0.e 0), .int .i64 (y0.e 1)]) (ho : Cel own1 G1 B1.ob 16 [.int .i64 (y0.o 0), .int .i64 (y0.o 1), .int .i64 (y0.o 2)])
    (hm : PMx (Tag own1 G1 10) G1 B1.m y0.s) (so : y0.s.ok) (hq : OwR (rowsI .i64) 0 G1 B1.qv y0.q) (tq : ∀ g, InB B1.qv g → own1 g = 3) (hc : OwR rSp 0 G1 B1.cv y0.calls) (tc : ∀ g, InB B1.cv g → own1 g = 4)
    {a : Sp} (hy : y = { y0 with o := upN y0.o c y0.calls.length, calls := y0.calls ++ [a] })
    (p : ∀ j, j < 2 → 0 ≤ y.o j → ∃ b, B1.pv j = P0 b ∧ b < G1.nx ∧ own1 b = 5 + j ∧ PuR G1 b (y.p j) ∧ (y.p j).ok)
    (f : (y.next = true ∨ 0 ≤ y.o 2) → ∃ b, B1.fv = P0 b ∧ b < G1.nx ∧ own1 b = 7 ∧ PfR G1 b y.f ∧ y.f.ok)
    (d : y.dd = true → ∃ b, B1.dv = P0 b ∧ b < G1.nx ∧ own1 b = 8 ∧ PdR G1 b y.d ∧ y.d.ok)
    (ones : (∀ c, one (B1.pv c) = true) ∧ one B1.fv = true ∧ one B1.dv = true)
    (hlen : y0.calls.length ≤ 100000) {sb : Nat} (hsb : sb < G1.nx) (tsb : own1 sb = 13) (os : G1.obj sb = some ⟨rSp.row a, 1, false, 1⟩) (hc3 : c < 3) (τ : Env) (t0 : τ 0 = P0 B1.xb) (t1 : τ 1 = .int .i64 c) (t4 : τ 4 = P0 sb) :
    Wp (j63_0 true (exL Q orc) τ G1) fun q => q.1 = .tuple #[] ∧ ∃ own' B', B'.xb = B1.xb ∧ Agr own1 own' G1 ∧ ModT [1, 4, 16] own1 G1 q.2 ∧ CrG own' q.2 n y B' := by
  refine Wp.mono (begins_J0 orc hxb ho hc tc hlen hsb tsb os hc3 τ t0 t1 t4) ?_
  rintro ⟨r, H⟩ ⟨rfl, cv', m, w, ox, oo⟩
  simp only at m w ox oo
  have ag : Agr own1 (grown own1 G1 4) G1 := grown_agr
  have nx := m.nx
  refine ⟨rfl, grown own1 G1 4, { B1 with cv := cv' }, rfl, ag, m, ⟨⟨Nat.lt_of_lt_of_le hxb.lt nx, (ag _ hxb.lt).trans hxb.tag, by rw [ox, hy]; rfl⟩, hp.to m (by decide) ag, by rw [hy]; exact hv.to m (by decide) ag, by rw [hy]; exact hh.to m (by decide) ag, ⟨Nat.lt_of_lt_of_le ho.lt nx, (ag _ ho.lt).trans ho.tag, by rw [oo, hy]⟩, by rw [hy]; exact (sepP _ _).tag hm m (by decide) ag, by rw [hy]; exact so, by rw [hy]; exact OwR.to hq tq m (by decide), fun g hg => (ag g (hq.is.under g hg)).trans (tq g hg), by rw [hy]; exact w.mono (Nat.zero_le _), fun g hg => grown_new (w.from hg), fun j hj hoj => ?_, fun hf => ?_, fun hd => ?_, ones⟩⟩
  · obtain ⟨b, h1, h2, h3, h4, h5⟩ := p j hj hoj
    have : own1 b ∉ [1, 4, 16] := by rw [h3]; rcases (show j = 0 ∨ j = 1 by omega) with rfl | rfl <;> decide
    exact ⟨b, h1, Nat.lt_of_lt_of_le h2 nx, (ag b h2).trans h3, h4.kept (m.same h2 this), h5⟩
  · obtain ⟨b, h1, h2, h3, h4, h5⟩ := f hf
    exact ⟨b, h1, Nat.lt_of_lt_of_le h2 nx, (ag b h2).trans h3, h4.kept (m.same h2 (by rw [h3]; decide)), h5⟩
  · obtain ⟨b, h1, h2, h3, h4, h5⟩ := d hd
    exact ⟨b, h1, Nat.lt_of_lt_of_le h2 nx, (ag b h2).trans h3, h4.kept (m.same h2 (by rw [h3]; decide)), h5⟩
/-- what is behind the clock's tick and the empty span -/
theorem tick (h : CrG own G n x B) {G17 : GS} {a0 : Sp} (hG17 : G17 = (((((G.put B.xb ⟨crX n { x with clock := x.clock + 1 } B, 1, false, 1⟩).room 12).at' (G.nx + 10)).push ⟨z146, 1, false, 1⟩).back ((G.put B.xb ⟨crX n { x with clock := x.clock + 1 } B, 1, false, 1⟩).room 12)).put (G.nx + 10) ⟨rSp.row a0, 1, false, 1⟩) :
    CrG (grown own G 13) G17 n { x with clock := x.clock + 1 } B ∧ ModT [1] own G G17 ∧ G17.obj (G.nx + 10) = some ⟨rSp.row a0, 1, false, 1⟩ ∧ G17.nx = G.nx + 12 := by
  have hlt := h.cx.lt
  have m : ModT [1] own G G17 := by
    rw [hG17]
    exact ModT.put (ModP.drawn (ModP.room (ModT.put (ModT.refl _ _ _) (.inl (by rw [h.cx.tag]; decide)) _) 12) (by omega) _) (.inr (by omega)) _
  have ag : Agr own (grown own G 13) G := grown_agr
  have n17 : G17.nx = G.nx + 12 := by rw [hG17]; rfl
  have ox : G17.obj B.xb = some ⟨crX n { x with clock := x.clock + 1 } B, 1, false, 1⟩ := by
    rw [hG17]
    simp
    rw [if_neg (by omega), if_neg (by omega)]
  have k := h.kept (m.mono (by decide)) ag
  exact ⟨⟨⟨by omega, (ag _ hlt).trans h.cx.tag, ox⟩, h.cp.to m (by decide) ag, h.cw.to m (by decide) ag, h.ch.to m (by decide) ag, h.co.to m (by decide) ag, k.hm, h.so, k.hq, k.tq, k.hc, k.tc, k.p, k.f, k.d, h.ones⟩, m, by rw [hG17]; simp, n17⟩
theorem begins_front (orc : FuncId → Bool) (h : CrG own G n x B) (hn : x.next = false) (ho : x.o 2 = -1) (hclk : 0 ≤ x.clock ∧ x.clock ≤ 1000000) (hlen : x.calls.length ≤ 100000) (hn1 : 1 ≤ n) (hn6 : n ≤ 6) :
    Wp ((E orc).cl 63 [P0 B.xb, .int .i64 2] G) (CrPost own G n B (x.begins n 2) (.tuple #[])) := by
  refine Wp.ref (f63 (exL_ok Q orc) _ _ G) ?_
  have hw : IntKind.wrap .i64 (x.clock + 1) = x.clock + 1 := wrap64 (by omega) (by omega)
  obtain ⟨G17, hG17⟩ : ∃ G17, G17 = (((((G.put B.xb ⟨crX n { x with clock := x.clock + 1 } B, 1, false, 1⟩).room 12).at' (G.nx + 10)).push ⟨z146, 1, false, 1⟩).back ((G.put B.xb ⟨crX n { x with clock := x.clock + 1 } B, 1, false, 1⟩).room 12)).put (G.nx + 10) ⟨rSp.row ⟨x.calls.length, x.clock + 1, -1, (0, 0, 0, 0), (0, 0, 0)⟩, 1, false, 1⟩ := ⟨_, rfl⟩
  obtain ⟨h17, m17, os17, n17⟩ := tick h hG17
  have cx17 := h17.cx.obj
  obtain ⟨b, G107, e107, x107, b1, b2, b3⟩ := newfront_ok orc (rgN n) G17
  have hb : G17.nx ≤ b := b1
  obtain ⟨own1, hown1⟩ : ∃ own1 : Nat → Nat, own1 = fun g => if g = b then 7 else grown own G 13 g := ⟨_, rfl⟩
  have ag1 : Agr (grown own G 13) own1 G17 := fun g hg => by rw [hown1]; simp only; rw [if_neg (by omega)]
  obtain ⟨ca, cc, hcv⟩ := h.hc.is.len
  have lc : ∀ t, ln Q true t B.cv = some (.int .i64 x.calls.length) := fun t => by rw [hcv]; simp
  have hlt := h.cx.lt
  have lx17 := h17.cx.lt
  obtain ⟨G113, hG113⟩ : ∃ G113, G113 = (G107.put B.xb ⟨crX n { x with clock := x.clock + 1, f := newFr (rgN n) } { B with fv := P0 b }, 1, false, 1⟩).put (G.nx + 10) ⟨rSp.row ⟨x.calls.length, x.clock + 1, -1, (2, 0, 0, 0), (0, 0, 0)⟩, 1, false, 1⟩ := ⟨_, rfl⟩
  have d1 : ¬ G.nx + 10 = B.xb := by omega
  have d2 : ¬ B.xb = G.nx + 10 := by omega
  have t17 : grown own G 13 (G.nx + 10) = 13 := grown_new (by omega)
  have m113 : ModT [1, 13] (grown own G 13) G17 G113 := by
    rw [hG113]
    exact ModT.put (ModT.put (ModT.ext x107) (.inl (by rw [h17.cx.tag]; decide)) _) (.inl (by rw [t17]; decide)) _
  have n113 := m113.nx
  have n107 := x107.nx
  have k := h17.kept (m113.mono (by decide)) ag1
  have lb : b < G113.nx := by rw [hG113]; exact b2
  have obx : G113.obj B.xb = some ⟨crX n { x with clock := x.clock + 1, f := newFr (rgN n) } { B with fv := P0 b }, 1, false, 1⟩ := by rw [hG113]; simp [d2]
  have obs : G113.obj (G.nx + 10) = some ⟨rSp.row ⟨x.calls.length, x.clock + 1, -1, (2, 0, 0, 0), (0, 0, 0)⟩, 1, false, 1⟩ := by rw [hG113]; simp
  have obb : G113.obj b = G107.obj b := by rw [hG113]; simp; rw [if_neg (by omega), if_neg (by omega)]
  have hfr : newFr (rgN n) = .go 1 (rgN n) 0 := by unfold newFr; rw [if_pos (rgN_ok hn1 hn6)]
  have fin := fun (τ : Env) (t0 : τ 0 = P0 B.xb) (t1 : τ 1 = .int .i64 (2 : Nat)) (t4 : τ 4 = P0 (G.nx + 10)) => begins_fin (own1 := own1) (G1 := G113) (n := n) (y0 := { x with clock := x.clock + 1, f := newFr (rgN n) }) (B1 := { B with fv := P0 b }) (y := x.begins n 2) (c := 2) (sb := G.nx + 10) orc
    ⟨(show B.xb < G113.nx by omega), (ag1 _ lx17).trans h17.cx.tag, obx⟩ (h17.cp.to m113 (by decide) ag1) (h17.cw.to m113 (by decide) ag1) (h17.ch.to m113 (by decide) ag1) (h17.co.to m113 (by decide) ag1) k.hm h.so k.hq k.tq k.hc k.tc
    (a := ⟨x.calls.length, x.clock + 1, -1, (2, 0, 0, 0), (0, 0, 0)⟩) (by unfold CS.begins; rw [if_neg (by decide), if_neg (by rw [hn]; simp)])
    (fun j hj hoj => by
      have he : (x.begins n 2).p = x.p ∧ (x.begins n 2).o j = x.o j := by
        unfold CS.begins; rw [if_neg (by decide), if_neg (by rw [hn]; simp)]
        exact ⟨rfl, upN_ne _ _ (by omega)⟩
      rw [he.2] at hoj
      rw [he.1]
      exact k.p j hj hoj)
    (fun _ => ⟨b, rfl, lb, by rw [hown1]; simp, by
      have he : (x.begins n 2).f = newFr (rgN n) := by unfold CS.begins; rw [if_neg (by decide), if_neg (by rw [hn]; simp)]
      rw [he]; exact ⟨b3.kept obb, newFr_ok _⟩⟩)
    (fun hd => by
      have he : (x.begins n 2).dd = x.dd ∧ (x.begins n 2).d = x.d := by unfold CS.begins; rw [if_neg (by decide), if_neg (by rw [hn]; simp)]; exact ⟨rfl, rfl⟩
      rw [he.1] at hd
      rw [he.2]; exact k.d hd)
    ⟨h.ones.1, rfl, h.ones.2.2⟩ hlen (by omega) ((ag1 _ (by omega)).trans t17) obs (by decide) τ t0 t1 t4
  have fin' : ∀ (τ : Env), τ 0 = P0 B.xb → τ 1 = .int .i64 2 → τ 4 = P0 (G.nx + 10) → Wp (j63_0 true (exL Q orc) τ G113) (CrPost own G n B (x.begins n 2) (.tuple #[])) := by
    intro τ t0 t1 t4
    refine (fin τ t0 t1 t4).mono ?_
    rintro ⟨r, H⟩ ⟨rfl, own', B', hB, ag', m', h'⟩
    have ag17 : Agr own (grown own G 13) G := grown_agr
    have a1 : Agr own own1 G := ag17.trans ag1 (by omega)
    have mm : ModT crT own G G113 := by
      rw [hG113]
      exact ModT.put (ModT.put ((m17.mono (by decide)).trans ag17 (ModT.ext x107)) (.inl (by rw [h.cx.tag]; decide)) _) (.inr (by omega)) _
    exact ⟨rfl, own', B', hB, a1.trans ag' mm.nx, mm.trans a1 (m'.mono (by decide)), h'⟩
  have hz : z146 = [.int .i64 0, .int .i64 0, .int .i64 0, .int .i64 0, .int .i64 0, .int .i64 0, .int .u64 0, .int .i64 0, .int .i64 0, .int .u64 0] := rfl
  have hz2 : z142 = [.int .i64 0, .int .i64 0, .int .i64 0, .int .u64 0] := rfl
  have hx0 := h.cx.obj
  have os107 := (x107.obj _ (by omega)).trans os17
  have cx107 := (x107.obj _ lx17).trans cx17
  have e107' : (E orc).cl 19 [.agg ⟨[.int .i64 0, .int .i64 1, .int .i64 2, .int .i64 n]⟩] G17 = some (P0 b, G107) := e107
  simp only [crX, rSp_row, hz, hn] at hG17 hG113 hx0 cx17 cx107 os17 os107
  clear fin obx obs k
  simp [s63, sb63, hx0, hw, lc, hz, hz2, d1, d2, ← hG17, cx17, hn, e107', cx107, os107]

  rw [← hG113]
  exact fin' _ (by simp [clip_t]) (by simp [clip_t]) (by simp [clip_t])
theorem begins_drop (orc : FuncId → Bool) (h : CrG own G n x B) (hn : x.next = true) (ho : x.o 2 = -1) (hclk : 0 ≤ x.clock ∧ x.clock ≤ 1000000) (hlen : x.calls.length ≤ 100000) (hn1 : 1 ≤ n) (hn6 : n ≤ 6) (hat : U x.f.at') :
    Wp ((E orc).cl 63 [P0 B.xb, .int .i64 2] G) (CrPost own G n B (x.begins n 2) (.tuple #[])) := by
  refine Wp.ref (f63 (exL_ok Q orc) _ _ G) ?_
  have hw : IntKind.wrap .i64 (x.clock + 1) = x.clock + 1 := wrap64 (by omega) (by omega)
  obtain ⟨G17, hG17⟩ : ∃ G17, G17 = (((((G.put B.xb ⟨crX n { x with clock := x.clock + 1 } B, 1, false, 1⟩).room 12).at' (G.nx + 10)).push ⟨z146, 1, false, 1⟩).back ((G.put B.xb ⟨crX n { x with clock := x.clock + 1 } B, 1, false, 1⟩).room 12)).put (G.nx + 10) ⟨rSp.row ⟨x.calls.length, x.clock + 1, -1, (0, 0, 0, 0), (0, 0, 0)⟩, 1, false, 1⟩ := ⟨_, rfl⟩
  obtain ⟨h17, m17, os17, n17⟩ := tick h hG17
  have cx17 := h17.cx.obj
  obtain ⟨bf, f1, f2, f3, f4, f5⟩ := h17.f (.inl hn)
  have x93 := (Ext.refl G17).room 14
  have eat := fat_ok orc (f4.kept (x93.obj bf f2))
  obtain ⟨b, G107, e107, x107', b1, b2, b3⟩ := newdrop_ok orc (rgN n) x.f.at' (G17.room 14)
  have x107 := x93.trans x107'
  have hb : G17.nx ≤ b := Nat.le_trans x93.nx b1
  obtain ⟨own1, hown1⟩ : ∃ own1 : Nat → Nat, own1 = fun g => if g = b then 8 else grown own G 13 g := ⟨_, rfl⟩
  have ag1 : Agr (grown own G 13) own1 G17 := fun g hg => by rw [hown1]; simp only; rw [if_neg (by omega)]
  obtain ⟨ca, cc, hcv⟩ := h.hc.is.len
  have lc : ∀ t, ln Q true t B.cv = some (.int .i64 x.calls.length) := fun t => by rw [hcv]; simp
  have hlt := h.cx.lt
  have lx17 := h17.cx.lt
  obtain ⟨G113, hG113⟩ : ∃ G113, G113 = (G107.put B.xb ⟨crX n { x with clock := x.clock + 1, d := newDr (rgN n) x.f.at', dd := true } { B with dv := P0 b }, 1, false, 1⟩).put (G.nx + 10) ⟨rSp.row ⟨x.calls.length, x.clock + 1, -1, (3, 0, 0, 0), (0, 0, 0)⟩, 1, false, 1⟩ := ⟨_, rfl⟩
  have d1 : ¬ G.nx + 10 = B.xb := by omega
  have d2 : ¬ B.xb = G.nx + 10 := by omega
  have t17 : grown own G 13 (G.nx + 10) = 13 := grown_new (by omega)
  have m113 : ModT [1, 13] (grown own G 13) G17 G113 := by
    rw [hG113]
    exact ModT.put (ModT.put (ModT.ext x107) (.inl (by rw [h17.cx.tag]; decide)) _) (.inl (by rw [t17]; decide)) _
  have n113 := m113.nx
  have n107 := x107.nx
  have k := h17.kept (m113.mono (by decide)) ag1
  have lb : b < G113.nx := by rw [hG113]; exact b2
  have obx : G113.obj B.xb = some ⟨crX n { x with clock := x.clock + 1, d := newDr (rgN n) x.f.at', dd := true } { B with dv := P0 b }, 1, false, 1⟩ := by rw [hG113]; simp [d2]
  have obs : G113.obj (G.nx + 10) = some ⟨rSp.row ⟨x.calls.length, x.clock + 1, -1, (3, 0, 0, 0), (0, 0, 0)⟩, 1, false, 1⟩ := by rw [hG113]; simp
  have obb : G113.obj b = G107.obj b := by rw [hG113]; simp; rw [if_neg (by omega), if_neg (by omega)]
  have fin := fun (τ : Env) (t0 : τ 0 = P0 B.xb) (t1 : τ 1 = .int .i64 (2 : Nat)) (t4 : τ 4 = P0 (G.nx + 10)) => begins_fin (own1 := own1) (G1 := G113) (n := n) (y0 := { x with clock := x.clock + 1, d := newDr (rgN n) x.f.at', dd := true }) (B1 := { B with dv := P0 b }) (y := x.begins n 2) (c := 2) (sb := G.nx + 10) orc
    ⟨(show B.xb < G113.nx by omega), (ag1 _ lx17).trans h17.cx.tag, obx⟩ (h17.cp.to m113 (by decide) ag1) (h17.cw.to m113 (by decide) ag1) (h17.ch.to m113 (by decide) ag1) (h17.co.to m113 (by decide) ag1) k.hm h.so k.hq k.tq k.hc k.tc
    (a := ⟨x.calls.length, x.clock + 1, -1, (3, 0, 0, 0), (0, 0, 0)⟩) (by unfold CS.begins; rw [if_neg (by decide), if_pos hn])
    (fun j hj hoj => by
      have he : (x.begins n 2).p = x.p ∧ (x.begins n 2).o j = x.o j := by
        unfold CS.begins; rw [if_neg (by decide), if_pos hn]
        exact ⟨rfl, upN_ne _ _ (by omega)⟩
      rw [he.2] at hoj
      rw [he.1]
      exact k.p j hj hoj)
    (fun hf => by
      have he : (x.begins n 2).f = x.f := by unfold CS.begins; rw [if_neg (by decide), if_pos hn]
      rw [he]
      obtain ⟨b', g1, g2, g3, g4, g5⟩ := k.f (.inl hn)
      exact ⟨b', g1, g2, g3, g4, g5⟩)
    (fun _ => ⟨b, rfl, lb, by rw [hown1]; simp, by
      have he : (x.begins n 2).d = newDr (rgN n) x.f.at' := by unfold CS.begins; rw [if_neg (by decide), if_pos hn]
      rw [he]; exact ⟨b3.kept obb, newDr_ok _ hat⟩⟩)
    ⟨h.ones.1, h.ones.2.1, rfl⟩ hlen (by omega) ((ag1 _ (by omega)).trans t17) obs (by decide) τ t0 t1 t4
  have fin' : ∀ (τ : Env), τ 0 = P0 B.xb → τ 1 = .int .i64 2 → τ 4 = P0 (G.nx + 10) → Wp (j63_0 true (exL Q orc) τ G113) (CrPost own G n B (x.begins n 2) (.tuple #[])) := by
    intro τ t0 t1 t4
    refine (fin τ t0 t1 t4).mono ?_
    rintro ⟨r, H⟩ ⟨rfl, own', B', hB, ag', m', h'⟩
    have ag17 : Agr own (grown own G 13) G := grown_agr
    have a1 : Agr own own1 G := ag17.trans ag1 (by omega)
    have mm : ModT crT own G G113 := by
      rw [hG113]
      exact ModT.put (ModT.put ((m17.mono (by decide)).trans ag17 (ModT.ext x107)) (.inl (by rw [h.cx.tag]; decide)) _) (.inr (by omega)) _
    exact ⟨rfl, own', B', hB, a1.trans ag' mm.nx, mm.trans a1 (m'.mono (by decide)), h'⟩
  have hz : z146 = [.int .i64 0, .int .i64 0, .int .i64 0, .int .i64 0, .int .i64 0, .int .i64 0, .int .u64 0, .int .i64 0, .int .i64 0, .int .u64 0] := rfl
  have hz2 : z142 = [.int .i64 0, .int .i64 0, .int .i64 0, .int .u64 0] := rfl
  have hx0 := h.cx.obj
  have os107 := (x107.obj _ (by omega)).trans os17
  have cx107 := (x107.obj _ lx17).trans cx17
  have e107' : (E orc).cl 28 [.agg ⟨[.int .i64 0, .int .i64 1, .int .i64 2, .int .i64 n]⟩, .int .u64 x.f.at'] (G17.room 14) = some (P0 b, G107) := e107
  simp only [crX, rSp_row, hz, hn, f1] at hG17 hG113 hx0 cx17 cx107 os17 os107
  clear fin obx obs k
  simp [s63, sb63, hx0, hw, lc, hz, hz2, d1, d2, ← hG17, cx17, hn, f1, eat, e107', cx107, os107]

  rw [← hG113]
  exact fin' _ (by simp [clip_t]) (by simp [clip_t]) (by simp [clip_t])
end
end Go.Proofs.Ytocbppgkgcoehaa.Lift

set_option linter.unusedVariables false
set_option linter.unusedSimpArgs false
set_option maxRecDepth 20000
namespace Go.Proofs.Ytocbppgkgcoehaa.Lift
open Go Go.Proofs.Ytocbppgkgcoehaa.Gh Go.Proofs
section
variable {own own' own1 : Nat → Nat} {G G' G1 : GS} {b t n c : Nat} {ts : List Nat} {cs : List Value} {x y y0 : CS} {B B1 : CrB} {v : Value}
set_option maxHeartbeats 2000000 in
theorem begins_push (orc : FuncId → Bool) (h : CrG own G n x B) (hc : c < 2) (ho : x.o c = -1) (hclk : 0 ≤ x.clock ∧ x.clock ≤ 1000000) (hpu : 0 ≤ x.pushed ∧ x.pushed ≤ 1000000) (hlen : x.calls.length ≤ 100000) (hn1 : 1 ≤ n) (hn6 : n ≤ 6) :
    Wp ((E orc).cl 63 [P0 B.xb, .int .i64 c] G) (CrPost own G n B (x.begins n c) (.tuple #[])) := by
  refine Wp.ref (f63 (exL_ok Q orc) _ _ G) ?_
  have hw : IntKind.wrap .i64 (x.clock + 1) = x.clock + 1 := wrap64 (by omega) (by omega)
  have hw2 : IntKind.wrap .i64 (x.pushed + 1) = x.pushed + 1 := wrap64 (by omega) (by omega)
  have hmod : Int.tmod (x.pushed + 1) 65536 = (x.pushed + 1) % 65536 := Int.tmod_eq_emod_of_nonneg (by omega)
  have hz0 : 0 ≤ (x.pushed + 1) % 65536 ∧ (x.pushed + 1) % 65536 ≤ 65535 := by omega
  obtain ⟨z, hz'⟩ : ∃ z, (x.pushed + 1) % 65536 = z := ⟨_, rfl⟩
  rw [hz'] at hmod hz0
  have hwz : IntKind.wrap .u64 z = z := by rw [wrap_u64]; omega
  obtain ⟨G17, hG17⟩ : ∃ G17, G17 = (((((G.put B.xb ⟨crX n { x with clock := x.clock + 1 } B, 1, false, 1⟩).room 12).at' (G.nx + 10)).push ⟨z146, 1, false, 1⟩).back ((G.put B.xb ⟨crX n { x with clock := x.clock + 1 } B, 1, false, 1⟩).room 12)).put (G.nx + 10) ⟨rSp.row ⟨x.calls.length, x.clock + 1, -1, (0, 0, 0, 0), (0, 0, 0)⟩, 1, false, 1⟩ := ⟨_, rfl⟩
  obtain ⟨h17, m17, os17, n17⟩ := tick h hG17
  have ag17 : Agr own (grown own G 13) G := grown_agr
  obtain ⟨G45, hG45⟩ : ∃ G45, G45 = G17.put B.xb ⟨crX n { x with clock := x.clock + 1, pushed := x.pushed + 1 } B, 1, false, 1⟩ := ⟨_, rfl⟩
  obtain ⟨w2, hw2'⟩ : ∃ w2 : List Value, w2 = [.int .i64 (upN x.v c z 0), .int .i64 (upN x.v c z 1)] := ⟨_, rfl⟩
  obtain ⟨G54, hG54⟩ : ∃ G54, G54 = (G45.room 12).put B.vb ⟨w2, 1, false, 1⟩ := ⟨_, rfl⟩
  have m54 : ModT [1, 14] (grown own G 13) G17 G54 := by
    rw [hG54, hG45]
    exact ModT.put (ModP.room (ModT.put (ModT.refl _ _ _) (.inl (by rw [h17.cx.tag]; decide)) _) 12) (.inl (by rw [h17.cw.tag]; decide)) _
  obtain ⟨b, G66, e66, x66, b1, b2, b3⟩ := newpush_ok orc (rgN n) z (G54.room 19)
  have n54 := m54.nx
  have y66 : Ext G54 G66 := ((Ext.refl G54).room 19).trans x66
  have n66 := y66.nx
  have hb : G54.nx ≤ b := Nat.le_trans ((Ext.refl G54).room 19).nx b1
  obtain ⟨p2, hp2'⟩ : ∃ p2 : List Value, p2 = [upN B.pv c (P0 b) 0, upN B.pv c (P0 b) 1] := ⟨_, rfl⟩
  obtain ⟨e2, he2'⟩ : ∃ e2 : List Value, e2 = [.int .i64 (upN x.e c 14 0), .int .i64 (upN x.e c 14 1)] := ⟨_, rfl⟩
  obtain ⟨G83, hG83⟩ : ∃ G83, G83 = ((G66.put B.pb ⟨p2, 1, false, 1⟩).put B.hb ⟨e2, 1, false, 1⟩).put (G.nx + 10) ⟨rSp.row ⟨x.calls.length, x.clock + 1, -1, (1, 0, 0, z), (0, 0, 0)⟩, 1, false, 1⟩ := ⟨_, rfl⟩
  have t17 : grown own G 13 (G.nx + 10) = 13 := grown_new (by omega)
  have m83 : ModT [1, 2, 13, 14, 15] (grown own G 13) G17 G83 := by
    rw [hG83]
    refine ModT.put (ModT.put (ModT.put ((m54.mono (by decide)).trans (Agr.refl _ _) (ModT.ext y66)) (.inl (by rw [h17.cp.tag]; decide)) _) (.inl (by rw [h17.ch.tag]; decide)) _) (.inl (by rw [t17]; decide)) _
  obtain ⟨own1, hown1⟩ : ∃ own1 : Nat → Nat, own1 = fun g => if g = b then 5 + c else grown own G 13 g := ⟨_, rfl⟩
  have ag1 : Agr (grown own G 13) own1 G17 := fun g hg => by rw [hown1]; simp only; rw [if_neg (by omega)]
  have k := h17.kept (m83.mono (by decide)) ag1
  obtain ⟨ca, cc, hcv⟩ := h.hc.is.len
  have lc : ∀ t, ln Q true t B.cv = some (.int .i64 x.calls.length) := fun t => by rw [hcv]; simp
  have lx := h.cx.lt
  have lp := h.cp.lt
  have lw := h.cw.lt
  have lh := h.ch.lt
  have lo := h.co.lt
  have dxp : ¬ B.xb = B.pb := h.cx.ne h.cp.tag (by decide)
  have dxw : ¬ B.xb = B.vb := h.cx.ne h.cw.tag (by decide)
  have dxh : ¬ B.xb = B.hb := h.cx.ne h.ch.tag (by decide)
  have dpw : ¬ B.pb = B.vb := h.cp.ne h.cw.tag (by decide)
  have dph : ¬ B.pb = B.hb := h.cp.ne h.ch.tag (by decide)
  have dwh : ¬ B.vb = B.hb := h.cw.ne h.ch.tag (by decide)
  have dpx : ¬ B.pb = B.xb := fun e => dxp e.symm
  have dwx : ¬ B.vb = B.xb := fun e => dxw e.symm
  have dhx : ¬ B.hb = B.xb := fun e => dxh e.symm
  have dwp : ¬ B.vb = B.pb := fun e => dpw e.symm
  have dhp : ¬ B.hb = B.pb := fun e => dph e.symm
  have dhw : ¬ B.hb = B.vb := fun e => dwh e.symm
  have dsx : ¬ G.nx + 10 = B.xb := by omega
  have dsp : ¬ G.nx + 10 = B.pb := by omega
  have dsw : ¬ G.nx + 10 = B.vb := by omega
  have dsh : ¬ G.nx + 10 = B.hb := by omega
  have dxs : ¬ B.xb = G.nx + 10 := by omega
  have dps : ¬ B.pb = G.nx + 10 := by omega
  have dws : ¬ B.vb = G.nx + 10 := by omega
  have dhs : ¬ B.hb = G.nx + 10 := by omega
  -- what lies where
  have x54 : G54.obj B.xb = some ⟨crX n { x with clock := x.clock + 1, pushed := x.pushed + 1 } B, 1, false, 1⟩ := by rw [hG54, hG45]; simp [dxw]
  have p54 : G54.obj B.pb = some ⟨[B.pv 0, B.pv 1], 1, false, 1⟩ := by rw [hG54, hG45]; simp [dpw, dpx]; exact h17.cp.obj
  have w54 : G54.obj B.vb = some ⟨w2, 1, false, 1⟩ := by rw [hG54]; simp
  have h54 : G54.obj B.hb = some ⟨[.int .i64 (x.e 0), .int .i64 (x.e 1)], 1, false, 1⟩ := by rw [hG54, hG45]; simp [dhw, dhx]; exact h17.ch.obj
  have s54 : G54.obj (G.nx + 10) = some ⟨rSp.row ⟨x.calls.length, x.clock + 1, -1, (0, 0, 0, 0), (0, 0, 0)⟩, 1, false, 1⟩ := by rw [hG54, hG45]; simp [dsw, dsx]; simpa using os17
  have x66' := (y66.obj B.xb (by omega)).trans x54
  have p66 := (y66.obj B.pb (by omega)).trans p54
  have w66 := (y66.obj B.vb (by omega)).trans w54
  have h66 := (y66.obj B.hb (by omega)).trans h54
  have s66 := (y66.obj (G.nx + 10) (by omega)).trans s54
  have x83 : G83.obj B.xb = some ⟨crX n { x with clock := x.clock + 1, pushed := x.pushed + 1 } B, 1, false, 1⟩ := by rw [hG83]; simp [dxs, dxh, dxp, x66']
  have p83 : G83.obj B.pb = some ⟨p2, 1, false, 1⟩ := by rw [hG83]; simp [dps, dph]
  have w83 : G83.obj B.vb = some ⟨w2, 1, false, 1⟩ := by rw [hG83]; simp [dws, dwh, dwp, w66]
  have h83 : G83.obj B.hb = some ⟨e2, 1, false, 1⟩ := by rw [hG83]; simp [dhs]
  have s83 : G83.obj (G.nx + 10) = some ⟨rSp.row ⟨x.calls.length, x.clock + 1, -1, (1, 0, 0, z), (0, 0, 0)⟩, 1, false, 1⟩ := by rw [hG83]; simp
  have obb : G83.obj b = G66.obj b := by rw [hG83]; simp; rw [if_neg (by omega), if_neg (by omega), if_neg (by omega)]
  have n83 : G83.nx = G66.nx := by rw [hG83]; rfl
  have hB : x.begins n c = { x with clock := x.clock + 1, pushed := x.pushed + 1, v := upN x.v c z, p := upN x.p c (newPu (rgN n) z), e := upN x.e c 14, o := upN x.o c x.calls.length, calls := x.calls ++ [⟨x.calls.length, x.clock + 1, -1, (1, 0, 0, z), (0, 0, 0)⟩] } := by
    unfold CS.begins; rw [if_pos hc, hz']
  rw [hB]
  have fin := fun (τ : Env) (t0 : τ 0 = P0 B.xb) (t1 : τ 1 = .int .i64 c) (t4 : τ 4 = P0 (G.nx + 10)) => begins_fin (own1 := own1) (G1 := G83) (n := n) (y0 := { x with clock := x.clock + 1, pushed := x.pushed + 1, v := upN x.v c z, p := upN x.p c (newPu (rgN n) z), e := upN x.e c 14 }) (B1 := { B with pv := upN B.pv c (P0 b) }) (c := c) (sb := G.nx + 10) orc
    ⟨(show B.xb < G83.nx by omega), (ag1 B.xb (by omega)).trans h17.cx.tag, x83⟩ ⟨(show B.pb < G83.nx by omega), (ag1 B.pb (by omega)).trans h17.cp.tag, by rw [p83, hp2']⟩ ⟨(show B.vb < G83.nx by omega), (ag1 B.vb (by omega)).trans h17.cw.tag, by rw [w83, hw2']⟩ ⟨(show B.hb < G83.nx by omega), (ag1 B.hb (by omega)).trans h17.ch.tag, by rw [h83, he2']⟩ (h17.co.to m83 (by decide) ag1) k.hm h.so k.hq k.tq k.hc k.tc
    (a := ⟨x.calls.length, x.clock + 1, -1, (1, 0, 0, z), (0, 0, 0)⟩) (y := { x with clock := x.clock + 1, pushed := x.pushed + 1, v := upN x.v c z, p := upN x.p c (newPu (rgN n) z), e := upN x.e c 14, o := upN x.o c x.calls.length, calls := x.calls ++ [⟨x.calls.length, x.clock + 1, -1, (1, 0, 0, z), (0, 0, 0)⟩] }) rfl
    (fun j hj hoj => by
      by_cases e : j = c
      · subst e
        exact ⟨b, by simp [upN_same], (show b < G83.nx by omega), by rw [hown1]; simp, by simp only [upN_same]; exact b3.kept obb, by simp only [upN_same]; exact newPu_ok _ _⟩
      · simp only [upN_ne _ _ e] at hoj ⊢
        exact k.p j hj hoj)
    (fun hf => by
      simp only [upN_ne _ _ (show 2 ≠ c by omega)] at hf
      exact k.f hf)
    (fun hd => k.d hd)
    ⟨fun j => by by_cases e : j = c; subst e; simp [upN_same]; simp only [upN_ne _ _ e]; exact h.ones.1 j, h.ones.2.1, h.ones.2.2⟩ hlen (by omega) ((ag1 _ (by omega)).trans t17) s83 (by omega) τ t0 t1 t4
  have fin' : ∀ (τ : Env), τ 0 = P0 B.xb → τ 1 = .int .i64 c → τ 4 = P0 (G.nx + 10) → Wp (j63_0 true (exL Q orc) τ G83) (CrPost own G n B { x with clock := x.clock + 1, pushed := x.pushed + 1, v := upN x.v c z, p := upN x.p c (newPu (rgN n) z), e := upN x.e c 14, o := upN x.o c x.calls.length, calls := x.calls ++ [⟨x.calls.length, x.clock + 1, -1, (1, 0, 0, z), (0, 0, 0)⟩] } (.tuple #[])) := by
    intro τ t0 t1 t4
    refine (fin τ t0 t1 t4).mono ?_
    rintro ⟨r, H⟩ ⟨rfl, own', B', hB', ag', m', h'⟩
    have a1 : Agr own own1 G := ag17.trans ag1 (by omega)
    have mm : ModT crT own G G83 := by
      have e54 : ModT crT own G G54 := (m17.mono (by decide)).trans ag17 (m54.mono (by decide))
      rw [hG83]
      refine ModT.put (ModT.put (ModT.put (e54.trans (Agr.refl _ _) (ModT.ext y66)) (.inl (by rw [h.cp.tag]; decide)) _) (.inl (by rw [h.ch.tag]; decide)) _) (.inr (by omega)) _
    exact ⟨rfl, own', B', hB', a1.trans ag' mm.nx, mm.trans a1 (m'.mono (by decide)), h'⟩
  have hz : z146 = [.int .i64 0, .int .i64 0, .int .i64 0, .int .i64 0, .int .i64 0, .int .i64 0, .int .u64 0, .int .i64 0, .int .i64 0, .int .u64 0] := rfl
  have hz2 : z142 = [.int .i64 0, .int .i64 0, .int .i64 0, .int .u64 0] := rfl
  have hx0 := h.cx.obj
  have e66' : (E orc).cl 9 [.agg ⟨[.int .i64 0, .int .i64 1, .int .i64 2, .int .i64 n]⟩, .int .i64 z] (G54.room 19) = some (P0 b, G66) := e66
  have cx17 := h17.cx.obj
  have cw17 := h17.cw.obj
  have c2 : (c : Int) < 2 := by omega
  simp only [crX, rSp_row, hz] at hG17 hG45 hG83 hx0 cx17 x54 x66' os17 s54 s66
  have x45 : G45.obj B.xb = some ⟨[.int .i64 0, .int .i64 1, .int .i64 2, .int .i64 n, P0 B.m, .slice (some ⟨B.pb, 0, none⟩) 2 2, .slice (some ⟨B.vb, 0, none⟩) 2 2, B.fv, B.dv, .bool x.next, B.qv, .slice (some ⟨B.hb, 0, none⟩) 2 2, .int .i64 0, .int .i64 0, B.cv, .slice (some ⟨B.ob, 0, none⟩) 3 3, .int .i64 (x.clock + 1), .int .i64 (x.pushed + 1)], 1, false, 1⟩ := by rw [hG45]; simp
  have w45 : G45.obj B.vb = some ⟨[.int .i64 (x.v 0), .int .i64 (x.v 1)], 1, false, 1⟩ := by rw [hG45]; simp [dwx]; exact cw17
  clear fin x83 p83 w83 h83 s83 k
  rcases (show c = 0 ∨ c = 1 by omega) with rfl | rfl
  all_goals
    simp [upN] at hw2' hp2' he2'
    simp [s63, sb63, hx0, hw, lc, hz, hz2, dsx, dxs, ← hG17, cx17, hw2, ← hG45, x45, w45, hmod, ← hw2', ← hG54]
    rw [hw2'] at w54 w66
    simp [x54, w54, e66', x66', p66, w66, h66, s66, hwz, dxp, dxh, dph, dhp, dwp, dwh, dsp, dsh, dps, dhs, ← hp2', ← he2']
    rw [← hG83]
    exact fin' _ (by simp [clip_t]) (by simp [clip_t]) (by simp [clip_t])
end
end Go.Proofs.Ytocbppgkgcoehaa.Lift

set_option linter.unusedVariables false
set_option linter.unusedSimpArgs false
set_option maxRecDepth 20000
namespace Go.Proofs.Ytocbppgkgcoehaa.Lift
open Go Go.Proofs.Ytocbppgkgcoehaa.Gh Go.Proofs
section
variable {own own' own1 : Nat → Nat} {G G' G1 : GS} {b t n c : Nat} {ts : List Nat} {cs : List Value} {x y y0 : CS} {B B1 : CrB} {v : Value} {K D T H : Nat}
theorem steps_in (orc : FuncId → Bool) (h : CrG own G n x B) (hc : c < 3) (hf : Fit3 n x c) (hdd : c = 2 → x.next = true → x.dd = true) :
    Wp ((E orc).cl 64 [P0 B.xb, .int .i64 c] G) (CrPost own G n B (x.steps n c).1 (.bool (x.steps n c).2)) := by
  refine Wp.ref (f64 (exL_ok Q orc) _ _ G) ?_
  unfold CS.steps
  by_cases c2 : c < 2
  · rw [if_pos c2]
    obtain ⟨⟨r, G'⟩, e, hp⟩ := pushes_in orc h c2 hf
    obtain ⟨rfl, hp'⟩ := hp
    have : (c : Int) < 2 := by omega
    simp [s64, this, c2, e]
    exact ⟨rfl, hp'⟩
  · rw [if_neg c2]
    obtain rfl : c = 2 := by omega
    obtain ⟨⟨r, G'⟩, e, hp⟩ := takes_in orc h hf (hdd rfl)
    obtain ⟨rfl, hp'⟩ := hp
    simp [s64, e]
    exact ⟨rfl, hp'⟩
theorem Inv.fit (h : Inv n K x D T H) (hb : 0 ≤ x.o c) (hK : K ≤ 1000000) : Fit3 n x c :=
  ⟨⟨(x.o c).toNat, by omega, by have := (h.o c).1; omega⟩, by have := h.k; omega, by have := h.m.qn; have := h.m.n6; omega, h.m.n6⟩
theorem begins_in (orc : FuncId → Bool) (h : CrG own G n x B) (hI : Inv n K x D T H) (hK : K ≤ 100000) (hc : c < 3) (hb : x.o c = -1) :
    Wp ((E orc).cl 63 [P0 B.xb, .int .i64 c] G) (CrPost own G n B (x.begins n c) (.tuple #[])) := by
  have hk := hI.k
  by_cases c2 : c < 2
  · exact begins_push orc h c2 hb (by omega) (by omega) (by omega) hI.m.n1 hI.m.n6
  · obtain rfl : c = 2 := by omega
    cases hn : x.next with
    | false => exact begins_front orc h hn hb (by omega) (by omega) hI.m.n1 hI.m.n6
    | true =>
      refine begins_drop orc h hn hb (by omega) (by omega) hI.m.n1 hI.m.n6 ?_
      have := hI.m.small
      cases hI.t with
      | idle _ _ k => rw [k] at hn; cases hn
      | seen _ _ _ _ m => rw [m]; exact ⟨by omega, by omega⟩
      | d1 a _ _ _ _ => omega
      | d2 a _ _ _ => omega
      | f1 _ a _ _ _ => omega
      | f2 a _ _ _ => omega
/-- a slice of the law's argument -/
structure ArgS (own : Nat → Nat) (G : GS) (v : Value) (L : List Int) : Prop where
  is : SlR (rowsI .i64) G v L
  tag : ∀ g, InB v g → own g = 20
theorem ArgS.to {L : List Int} (h : ArgS own G v L) (m : ModT crT own G G') (a : Agr own own' G) : ArgS own' G' v L :=
  ⟨h.is.kept m.nx fun g hg => m.same (h.is.under g hg) (by rw [h.tag g hg]; decide), fun g hg => (a g (h.is.under g hg)).trans (h.tag g hg)⟩
theorem pick_ok (orc : FuncId → Bool) (x n : Int) (hn : 0 < n) (hn2 : n < 2 ^ 40) (G : GS) : (E orc).cl 32 [.int .i64 x, .int .i64 n] G = some (.int .i64 (x % n), G) := by
  refine f32 (exL_ok Q orc) _ _ G _ ?_
  have h1 := Int.emod_nonneg x (show n ≠ 0 by omega)
  have h2 := Int.emod_lt_of_pos x hn
  have ht := @Int.tmod_eq_emod x n
  have hn0 : ¬ n ≤ 0 := by omega
  have hn1 : ¬ n = 0 := by omega
  have hw : IntKind.wrap .i64 (x % n) = x % n := wrap64 (by omega) (by omega)
  by_cases hx : x.tmod n < 0
  · have e : x.tmod n + n = x % n := by split at ht <;> omega
    simp [s32, clip_t, hx, e, hw, hn0, hn1]
  · have e : x.tmod n = x % n := by split at ht <;> omega
    have hx' : ¬ x % n < 0 := by omega
    simp [s32, clip_t, e, hx', hn0, hn1]
/-- a crew behind what was done -/
inductive PlP (n xb K : Nat) (G : GS) : Prop where
  | mk (own' : Nat → Nat) (B' : CrB) (x' : CS) (K' D' T' H' : Nat) : B'.xb = xb → CrG own' G n x' B' → Inv n K' x' D' T' H' → K' ≤ K → PlP n xb K G
inductive AlP (n xb K c : Nat) (o : Nat → Int) (G : GS) : Prop where
  | mk (own' : Nat → Nat) (B' : CrB) (x' : CS) (K' D' T' H' : Nat) : B'.xb = xb → CrG own' G n x' B' → Inv n K' x' D' T' H' → K' ≤ K → x'.o c = -1 → (∀ i, i ≠ c → x'.o i = o i) → AlP n xb K c o G
/-- acts by numbers -/
theorem plays_lp (orc : FuncId → Bool) {xb : Nat} {v1 : Value} {L : List Int} (hlen : L.length ≤ 1000) : ∀ (k i : Nat) (τ : Env) (G : GS) (own : Nat → Nat) (B : CrB) (x : CS) (K D T H : Nat),
    i + k = L.length → τ 0 = P0 xb → τ 1 = v1 → τ 5 = .int .i64 (i : Int) → B.xb = xb → CrG own G n x B → ArgS own G v1 L → Inv n K x D T H → K + 2 * k ≤ 90000 →
    Wp ((exL Q orc).lpx 33 0 τ G) fun q => q.1 = .exit 0 ∧ q.2.1 0 = P0 xb ∧ PlP n xb (K + 2 * k) q.2.2 := by
  intro k
  induction k with
  | zero =>
    intro i τ G own B x K D T H hi t0 t1 t5 hB h ha hI hK
    have hi' : i = L.length := by omega
    obtain ⟨a, c, e0⟩ := ha.is.len
    refine Wp.lp (l33_0 (exL_ok Q orc)) ?_
    subst hi'
    simp [b33_0, bb33_0, clip_t, t0, t1, t5, e0]
    exact .mk own B x K D T H hB h hI (Nat.le_refl _)
  | succ k ih =>
    intro i τ G own B x K D T H hi t0 t1 t5 hB h ha hI hK
    have hlt : i < L.length := by omega
    have hw : IntKind.wrap .i64 ((i : Int) + 1) = ((i + 1 : Nat) : Int) := wrap64 (by omega) (by omega)
    have h1 : (i : Int) < L.length := by omega
    have h2 : (0 : Int) ≤ i := by omega
    obtain ⟨b, o, cc, e0, _, q, _⟩ := ha.is.at hlt
    have q0 := q 0 (by decide)
    simp at q0
    have ep := pick_ok orc L[i] 3 (by decide) (by decide) G
    obtain ⟨c, hc⟩ : ∃ c : Nat, L[i] % 3 = (c : Int) := ⟨(L[i] % 3).toNat, by omega⟩
    have hc3 : c < 3 := by omega
    rw [hc] at ep
    have eb := busy_ok orc h hc3
    subst hB
    -- the step, and on
    have fin : ∀ (τ' : Env) (G' : GS) (own' : Nat → Nat) (B' : CrB) (x' : CS) (K' D' T' H' : Nat), B'.xb = B.xb → CrG own' G' n x' B' → ArgS own' G' v1 L → Inv n K' x' D' T' H' → 0 ≤ x'.o c → K' ≤ K + 1 → τ' 0 = P0 B.xb → τ' 1 = v1 → τ' 5 = .int .i64 (i : Int) → τ' 6 = .int .i64 (c : Int) →
        Wp (jbl33_0_0 true (exL Q orc) ((exL Q orc).lpx 33 0) τ' G') fun q => q.1 = .exit 0 ∧ q.2.1 0 = P0 B.xb ∧ PlP n B.xb (K + 2 * (k + 1)) q.2.2 := by
      intro τ' G' own' B' x' K' D' T' H' hB' h' ha' hI' hb' hK' s0 s1 s5 s6
      obtain ⟨⟨r, G2⟩, e2, rfl, own2, B2, g1, g2, g3, g4⟩ := steps_in orc h' hc3 (hI'.fit hb' (by omega)) (fun e hn => hI'.dd (by subst e; exact hb') hn)
      obtain ⟨D2, T2, H2, i1, i2, _, _⟩ := steps_ok hI' hc3 hb' (by omega)
      simp only at g3 g4
      rw [i2] at e2
      rw [hB'] at e2
      simp [-Int.natCast_add, jbl33_0_0, s0, s1, s5, s6, e2, hw]
      refine Wp.mono (ih (i + 1) _ G2 own2 B2 _ (K' + 1) D2 T2 H2 (by omega) ?_ ?_ ?_ (g1.trans hB') g4 (ha'.to g3 g2) i1 (by omega)) ?_
      · simp [clip_t]
      · simp [clip_t, s1]
      · simp [clip_t]
      · rintro q ⟨z1, z2, own3, B3, x3, K3, D3, T3, H3, z3, z4, z5, z6⟩
        exact ⟨z1, z2, .mk own3 B3 x3 K3 D3 T3 H3 z3 z4 z5 (by omega)⟩
    clear ih
    refine Wp.lp (l33_0 (exL_ok Q orc)) ?_
    by_cases hb : 0 ≤ x.o c
    · simp [-Int.natCast_add, b33_0, bb33_0, jl33_0_0, clip_t, t0, t1, t5, e0, h1, h2, hlt, q0, ep, eb, hb]
      subst e0
      refine fin _ G own B x K D T H rfl h ha hI hb (by omega) ?_ ?_ ?_ ?_ <;> simp [clip_t]
    · have hb' : x.o c = -1 := by have := hI.o c; omega
      obtain ⟨⟨r, G2⟩, e2, rfl, own2, B2, g1, g2, g3, g4⟩ := begins_in orc h hI (by omega) hc3 hb'
      simp only at g3 g4
      obtain ⟨b1, b2, _, _⟩ := begins_ok hI hc3 hb'
      simp [-Int.natCast_add, b33_0, bb33_0, jl33_0_0, clip_t, t0, t1, t5, e0, h1, h2, hlt, q0, ep, eb, hb, e2]
      subst e0
      refine fin _ G2 own2 B2 _ (K + 1) D T H g1 g4 (ha.to g3 g2) b1 b2 (by omega) ?_ ?_ ?_ ?_ <;> simp [clip_t]
theorem muP_pos {P : Nat} {v e : Int} {p : PuS} (h : InvP n D T P v e p) : 1 ≤ muP T P p := by
  cases h <;> unfold muP mu5 <;> simp <;> (try split) <;> omega
/-- how many steps a core has left, alone -/
def needC (x : CS) (D T c : Nat) : Nat := if c < 2 then muP T (D + x.q.length) (x.p c) else muT x
def limC (c : Nat) : Nat := if c < 2 then 9 else 2
theorem alone_lp (orc : FuncId → Bool) {xb : Nat} (hc : c < 3) : ∀ (m j : Nat) (τ : Env) (G : GS) (own : Nat → Nat) (B : CrB) (x : CS) (K D T H : Nat),
    j + m ≤ limC c → τ 0 = P0 xb → τ 7 = .int .i64 (c : Int) → τ 8 = .int .i64 (j : Int) → B.xb = xb → CrG own G n x B → Inv n K x D T H → K + m ≤ 95000 → (0 ≤ x.o c → needC x D T c ≤ m) →
    Wp ((exL Q orc).lpx 33 2 τ G) fun q => q.1 = .exit 4 ∧ q.2.1 0 = P0 xb ∧ q.2.1 7 = .int .i64 (c : Int) ∧ AlP n xb (K + m) c x.o q.2.2 := by
  intro m
  induction m with
  | zero =>
    intro j τ G own B x K D T H hj t0 t7 t8 hB h hI hK hn
    have hb : ¬ 0 ≤ x.o c := by
      intro hb
      have h0 := hn hb
      unfold needC at h0
      split at h0
      · rename_i c2
        rcases hI.p c c2 with k | ⟨_, k⟩
        · omega
        · have := muP_pos k; omega
      · have := muT_pos x; omega
    have eb := busy_ok orc h hc
    subst hB
    have ho := hI.o c
    refine Wp.lp (l33_2 (exL_ok Q orc)) ?_
    by_cases h9 : j < 9
    · have h9' : (j : Int) < 9 := by omega
      simp [b33_2, clip_t, t0, t7, t8, h9, h9', eb, hb]
      exact .mk own B x K D T H rfl h hI (Nat.le_refl _) (by omega) fun _ _ => rfl
    · have h9' : ¬ (j : Int) < 9 := by omega
      simp [b33_2, clip_t, t0, t7, t8, h9, h9']
      exact .mk own B x K D T H rfl h hI (Nat.le_refl _) (by omega) fun _ _ => rfl
  | succ m ih =>
    intro j τ G own B x K D T H hj t0 t7 t8 hB h hI hK hn
    have eb := busy_ok orc h hc
    subst hB
    have ho := hI.o c
    have hl : limC c ≤ 9 := by unfold limC; split <;> omega
    have h9 : j < 9 := by omega
    have h9' : (j : Int) < 9 := by omega
    have hw : IntKind.wrap .i64 ((j : Int) + 1) = ((j + 1 : Nat) : Int) := wrap64 (by omega) (by omega)
    refine Wp.lp (l33_2 (exL_ok Q orc)) ?_
    by_cases hb : 0 ≤ x.o c
    · have h0 := hn hb
      obtain ⟨⟨r, G2⟩, e2, rfl, own2, B2, g1, g2, g3, g4⟩ := steps_in orc h hc (hI.fit hb (by omega)) (fun e hn => hI.dd (by subst e; exact hb) hn)
      simp only at g3 g4
      have key : ∃ D2 T2 H2, Inv n (K + 1) (x.steps n c).1 D2 T2 H2 ∧ (x.steps n c).2 = true ∧ (0 ≤ (x.steps n c).1.o c → needC (x.steps n c).1 D2 T2 c ≤ m) ∧ ∀ i, i ≠ c → (x.steps n c).1.o i = x.o i := by
        unfold needC at h0 ⊢
        unfold CS.steps
        by_cases c2 : c < 2
        · rw [if_pos c2] at h0 ⊢
          obtain ⟨T', k1, k2⟩ := pushes_ok hI c2 hb (by omega)
          refine ⟨D, T', H, k1.inv, k2, fun hb' => ?_, fun i hi => (k1.other i hi).1⟩
          rw [if_pos c2]
          rcases k1.mu with mu | ⟨_, mu⟩
          · omega
          · omega
        · obtain rfl : c = 2 := by omega
          rw [if_neg c2] at h0 ⊢
          obtain ⟨D', H', k1, k2⟩ := takes_ok hI hb (by omega)
          refine ⟨D', T, H', k1.inv, k2, fun hb' => ?_, k1.other⟩
          rw [if_neg c2]
          rcases k1.mu with mu | ⟨_, mu⟩
          · omega
          · omega
      obtain ⟨D2, T2, H2, i1, i2, i3, i4⟩ := key
      rw [i2] at e2
      have hgo : ∀ τ' : Env, τ' 0 = P0 B.xb → τ' 7 = .int .i64 (c : Int) → τ' 8 = .int .i64 ((j + 1 : Nat) : Int) → Wp ((exL Q orc).lpx 33 2 τ' G2) fun q => q.1 = .exit 4 ∧ q.2.1 0 = P0 B.xb ∧ q.2.1 7 = .int .i64 (c : Int) ∧ AlP n B.xb (K + (m + 1)) c x.o q.2.2 := by
        intro τ' s0 s7 s8
        refine Wp.mono (ih (j + 1) τ' G2 own2 B2 _ (K + 1) D2 T2 H2 (by omega) s0 s7 s8 g1 g4 i1 (by omega) i3) ?_
        rintro q ⟨z1, z2, z3, own3, B3, x3, K3, D3, T3, H3, y1, y2, y3, y4, y5, y6⟩
        exact ⟨z1, z2, z3, .mk own3 B3 x3 K3 D3 T3 H3 y1 y2 y3 (by omega) y5 fun i hi => (y6 i hi).trans (i4 i hi)⟩
      by_cases c2 : c = 2
      · subst c2
        have hj2 : ¬ (j : Int) = 2 := by unfold limC at hj; simp at hj; omega
        have hj2' : ¬ j = 2 := by omega
        simp at t7 eb e2
        simp [-Int.natCast_add, b33_2, clip_t, t0, t7, t8, h9, h9', eb, hb, hj2, hj2', e2, hw]
        refine hgo _ ?_ ?_ ?_ <;> simp [-Int.natCast_add, clip_t]
      · have c2' : ¬ (c : Int) = 2 := by omega
        simp [-Int.natCast_add, b33_2, clip_t, t0, t7, t8, h9, h9', eb, hb, c2, c2', e2, hw]
        refine hgo _ ?_ ?_ ?_ <;> simp [-Int.natCast_add, clip_t]
    · simp [b33_2, clip_t, t0, t7, t8, h9, h9', eb, hb]
      exact .mk own B x K D T H rfl h hI (by omega) (by omega) fun _ _ => rfl
end
end Go.Proofs.Ytocbppgkgcoehaa.Lift

