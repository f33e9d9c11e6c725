/- contracts of the program's functions -/
import Derived.Test.YtocbppgkgcoehaaKA
import Derived.Test.YtocbppgkgcoehaaMC
set_option linter.unusedVariables false
set_option linter.unusedSimpArgs false
set_option maxRecDepth 20000
namespace Go.Proofs.Ytocbppgkgcoehaa.Lift
open Go Go.Proofs.Ytocbppgkgcoehaa.Gh Go.Proofs
/-! ### A crew in the heap -/
def rSp : RowE Sp := ⟨10, fun x => [.int .i64 x.id, .int .i64 x.fr, .int .i64 x.to, .int .i64 x.op.1, .int .i64 x.op.2.1, .int .i64 x.op.2.2.1, .int .u64 x.op.2.2.2, .int .i64 x.an.1, .int .i64 x.an.2.1, .int .u64 x.an.2.2], fun _ => rfl, fun _ => rfl, by decide⟩
@[simp] theorem rSp_sz : rSp.sz = 10 := rfl
@[simp] theorem rSp_row (x : Sp) : rSp.row x = [.int .i64 x.id, .int .i64 x.fr, .int .i64 x.to, .int .i64 x.op.1, .int .i64 x.op.2.1, .int .i64 x.op.2.2.1, .int .u64 x.op.2.2.2, .int .i64 x.an.1, .int .i64 x.an.2.1, .int .u64 x.an.2.2] := rfl
/-! ### A part of a row is written -/
section
variable {α : Type} (e : RowE α)
theorem RowE.flat_part : ∀ (L : List α) {i : Nat} (hi : i < L.length) (a : α) {f : Nat} {ds : List Value}, e.row a = overw (e.row L[i]) f ds → f + ds.length ≤ e.sz → overw (e.flat L) (i * e.sz + f) ds = e.flat (L.set i a)
  | [], i, hi, _, _, _, _, _ => by simp at hi
  | b :: L, 0, hi, a, f, ds, h, hf => by
    have hb := e.len b
    simp only [List.getElem_cons_zero] at h
    rw [List.set_cons_zero, e.flat_cons, e.flat_cons, h]
    simp only [overw, Nat.zero_mul, Nat.zero_add]
    rw [List.take_append_of_le_length (by omega), List.drop_append_of_le_length (by omega)]
    simp
  | b :: L, i + 1, hi, a, f, ds, h, hf => by
    have hl : i < L.length := by simpa using hi
    have ih := RowE.flat_part L hl a (f := f) (ds := ds) (by simpa using h) hf
    rw [List.set_cons_succ, e.flat_cons, e.flat_cons, ← ih]
    have h1 : (i + 1) * e.sz + f = (e.row b).length + (i * e.sz + f) := by rw [e.len, Nat.add_mul]; omega
    simp only [overw]
    rw [h1, List.take_length_add_append, Nat.add_assoc, ← List.drop_drop, List.drop_left]
    simp
theorem set_overw (l : List Value) (i : Nat) (v : Value) (h : i < l.length) : l.set i v = overw l i [v] := by
  simp only [overw]
  rw [List.set_eq_take_append_cons_drop, if_pos h]
  simp
end
/-! ### Cells of their own -/
structure Cel (own : Nat → Nat) (G : GS) (b t : Nat) (cs : List Value) : Prop where
  lt : b < G.nx
  tag : own b = t
  obj : G.obj b = some ⟨cs, 1, false, 1⟩
section
variable {own own' own1 : Nat → Nat} {G G' G1 : GS} {b t : Nat} {ts : List Nat} {cs : List Value}
theorem Cel.to (h : Cel own G b t cs) (m : ModT ts own G G') (ht : t ∉ ts) (a : Agr own own' G) : Cel own' G' b t cs :=
  ⟨Nat.lt_of_lt_of_le h.lt m.nx, (a b h.lt).trans h.tag, (m.same h.lt (by rw [h.tag]; exact ht)).trans h.obj⟩
theorem Cel.put (h : Cel own G b t cs) (ds : List Value) : Cel own (G.put b ⟨ds, 1, false, 1⟩) b t ds := ⟨h.lt, h.tag, by simp⟩
end
structure CrB where
  m : Nat
  xb : Nat
  pb : Nat
  vb : Nat
  hb : Nat
  ob : Nat
  fv : Value
  dv : Value
  qv : Value
  cv : Value
  pv : Nat → Value
def crX (n : Nat) (x : CS) (B : CrB) : List Value := [.int .i64 0, .int .i64 1, .int .i64 2, .int .i64 n, P0 B.m, .slice (some ⟨B.pb, 0, none⟩) 2 2, .slice (some ⟨B.vb, 0, none⟩) 2 2, B.fv, B.dv, .bool x.next, B.qv, .slice (some ⟨B.hb, 0, none⟩) 2 2, .int .i64 0, .int .i64 0, B.cv, .slice (some ⟨B.ob, 0, none⟩) 3 3, .int .i64 x.clock, .int .i64 x.pushed]
structure CrG (own : Nat → Nat) (G : GS) (n : Nat) (x : CS) (B : CrB) : Prop where
  cx : Cel own G B.xb 1 (crX n x B)
  cp : Cel own G B.pb 2 [B.pv 0, B.pv 1]
  cw : Cel own G B.vb 14 [.int .i64 (x.v 0), .int .i64 (x.v 1)]
  ch : Cel own G B.hb 15 [.int .i64 (x.e 0), .int .i64 (x.e 1)]
  co : Cel own G B.ob 16 [.int .i64 (x.o 0), .int .i64 (x.o 1), .int .i64 (x.o 2)]
  hm : PMx (Tag own G 10) G B.m x.s
  so : x.s.ok
  hq : OwR (rowsI .i64) 0 G B.qv x.q
  tq : ∀ g, InB B.qv g → own g = 3
  hc : OwR rSp 0 G B.cv x.calls
  tc : ∀ g, InB B.cv g → own g = 4
  p : ∀ c, c < 2 → 0 ≤ x.o c → ∃ b, B.pv c = P0 b ∧ b < G.nx ∧ own b = 5 + c ∧ PuR G b (x.p c) ∧ (x.p c).ok
  f : (x.next = true ∨ 0 ≤ x.o 2) → ∃ b, B.fv = P0 b ∧ b < G.nx ∧ own b = 7 ∧ PfR G b x.f ∧ x.f.ok
  d : x.dd = true → ∃ b, B.dv = P0 b ∧ b < G.nx ∧ own b = 8 ∧ PdR G b x.d ∧ x.d.ok
  ones : (∀ c, one (B.pv c) = true) ∧ one B.fv = true ∧ one B.dv = true
def crT : List Nat := [1, 2, 3, 4, 5, 6, 7, 8, 10, 14, 15, 16]
section
variable {own own' own1 : Nat → Nat} {G G' G1 : GS} {b t n c : Nat} {ts : List Nat} {cs : List Value} {x y : CS} {B B' : CrB} {α : Type} {e : RowE α} {v : Value} {L : List α}
theorem OwR.to {lo : Nat} (h : OwR e lo G v L) (ht : ∀ g, InB v g → own g = t) (m : ModT ts own G G') (hn : t ∉ ts) : OwR e lo G' v L :=
  h.kept m.nx fun g hg => m.same (h.is.under g hg) (by rw [ht g hg]; exact hn)
theorem CrG.to (h : CrG own G n x B) (m : ModT ts own G G') (a : Agr own own' G) (ht : ∀ t ∈ ts, t ∉ crT) : CrG own' G' n x B := by
  have no : ∀ {t}, t ∈ crT → t ∉ ts := fun h1 h2 => ht _ h2 h1
  have nx := m.nx
  refine ⟨h.cx.to m (no (by decide)) a, h.cp.to m (no (by decide)) a, h.cw.to m (no (by decide)) a, h.ch.to m (no (by decide)) a, h.co.to m (no (by decide)) a, (sepP _ _).tag h.hm m (no (by decide)) a, h.so, OwR.to h.hq h.tq m (no (by decide)), fun g hg => (a g (h.hq.is.under g hg)).trans (h.tq g hg), OwR.to h.hc h.tc m (no (by decide)), fun g hg => (a g (h.hc.is.under g hg)).trans (h.tc g hg), fun c hc ho => ?_, fun hf => ?_, fun hn => ?_, h.ones⟩
  · obtain ⟨b, h1, h2, h3, h4, h5⟩ := h.p c hc ho
    have : 5 + c ∈ crT := by rcases (show c = 0 ∨ c = 1 by omega) with rfl | rfl <;> decide
    exact ⟨b, h1, by omega, (a b h2).trans h3, h4.kept (m.same h2 (by rw [h3]; exact no this)), h5⟩
  · obtain ⟨b, h1, h2, h3, h4, h5⟩ := h.f hf
    exact ⟨b, h1, by omega, (a b h2).trans h3, h4.kept (m.same h2 (by rw [h3]; exact no (by decide))), h5⟩
  · obtain ⟨b, h1, h2, h3, h4, h5⟩ := h.d hn
    exact ⟨b, h1, by omega, (a b h2).trans h3, h4.kept (m.same h2 (by rw [h3]; exact no (by decide))), h5⟩
theorem CrG.ext (h : CrG own G n x B) (e : Ext G G') : CrG (grown own G 13) G' n x B := h.to (ts := []) (ModT.ext e) grown_agr (by simp)
/-- what a crew's function comes to -/
def CrPost (own : Nat → Nat) (G : GS) (n : Nat) (B : CrB) (y : CS) (r : Value) (q : Value × GS) : Prop := q.1 = r ∧ ∃ own' B', B'.xb = B.xb ∧ Agr own own' G ∧ ModT crT own G q.2 ∧ CrG own' q.2 n y B'
theorem CrPost.pre {r : Value} {q : Value × GS} (h : CrPost own1 G1 n B y r q) (a : Agr own own1 G) (m : ModT crT own G G1) (hB : B.xb = B'.xb) : CrPost own G n B' y r q := by
  obtain ⟨h1, own', B'', h2, h3, h4, h5⟩ := h
  exact ⟨h1, own', B'', h2.trans hB, a.trans h3 m.nx, m.trans a h4, h5⟩
theorem CrPost.preE {r : Value} {q : Value × GS} (h : CrPost (grown own G 13) G1 n B y r q) (e : Ext G G1) (hB : B.xb = B'.xb) : CrPost own G n B' y r q := h.pre grown_agr (ModT.ext e) hB
theorem busy_ok (orc : FuncId → Bool) (h : CrG own G n x B) (hc : c < 3) : (E orc).cl 62 [P0 B.xb, .int .i64 c] G = some (.bool (decide (0 ≤ x.o c)), G) := by
  refine f62 (exL_ok Q orc) _ _ G _ ?_
  rcases (show c = 0 ∨ c = 1 ∨ c = 2 by omega) with rfl | rfl | rfl <;> simp [s62, h.cx.obj, crX, h.co.obj]
theorem slot_ok (orc : FuncId → Bool) (h : CrG own G n x B) : ∃ G', (E orc).cl 103 [P0 B.xb] G = some (.bool (slotI x.s), G') ∧ Ext G G' := by
  obtain ⟨bb, rest, hm⟩ := h.hm
  have x0 := (Ext.refl G).room 13
  obtain ⟨G1, e1, x1⟩ := last_ok orc (hm.ext x0)
  have y1 := x0.trans x1
  have o1 := (y1.obj _ h.cx.lt).trans h.cx.obj
  refine ⟨G1, f103 (exL_ok Q orc) _ G _ ?_, y1⟩
  simp [s103, h.cx.obj, crX, e1, o1, slotI]
end
end Go.Proofs.Ytocbppgkgcoehaa.Lift

set_option linter.unusedVariables false
set_option linter.unusedSimpArgs false
set_option maxRecDepth 20000
namespace Go.Proofs.Ytocbppgkgcoehaa.Lift
open Go Go.Proofs.Ytocbppgkgcoehaa.Gh Go.Proofs
section
variable {own own' own1 : Nat → Nat} {G G' G1 : GS} {b t n c : Nat} {ts : List Nat} {cs : List Value} {x y : CS} {B B' : CrB} {v : Value}
theorem modify_set (L : List Sp) (k : Nat) (f : Sp → Sp) (h : k < L.length) : L.modify k f = L.set k (f L[k]) := by
  apply List.ext_getElem?
  intro i
  by_cases e : i = k
  · subst e; simp [h]
  · have e' : ¬ k = i := fun h => e h.symm
    simp [List.getElem?_modify, List.getElem?_set, e, e']
theorem Cel.ne {t t' b' : Nat} (h : Cel own G b t cs) (k : own b' = t') (hn : t ≠ t') : ¬ b = b' := fun e => hn (by rw [← h.tag, ← k, e])
theorem ends_in (orc : FuncId → Bool) (h : CrG own G n x B) (hc : c < 3) {k : Nat} (ho : x.o c = (k : Int)) (hk : k < x.calls.length) (hclk : 0 ≤ x.clock ∧ x.clock ≤ 1000000) (a : Int × Int × Int) :
    Wp ((E orc).cl 105 [P0 B.xb, .int .i64 c, .agg ⟨[.int .i64 a.1, .int .i64 a.2.1, .int .u64 a.2.2]⟩] G) (fun q => q.1 = .tuple #[] ∧ ∃ own', Agr own own' G ∧ ModT [1, 4, 16] own G q.2 ∧ CrG own' q.2 n (x.ends c a) B) := by
  refine Wp.ref (f105 (exL_ok Q orc) _ _ _ G) ?_
  rcases h.hc.2 with ⟨_, h0⟩ | ⟨cb, op, hcv, _, hcb, hco⟩
  · omega
  have tcb : own cb = 4 := h.tc cb ⟨_, _, _, hcv, rfl⟩
  have hlt := h.cx.lt
  have olt := h.co.lt
  have n1 : ¬ B.xb = cb := h.cx.ne tcb (by decide)
  have n1' : ¬ cb = B.xb := fun e => n1 e.symm
  have n2 : ¬ B.ob = cb := h.co.ne tcb (by decide)
  have n3 : ¬ B.xb = B.ob := h.cx.ne h.co.tag (by decide)
  have n3' : ¬ B.ob = B.xb := fun e => n3 e.symm
  have n4 : ¬ B.xb = G.nx := by omega
  have n5 : ¬ B.ob = G.nx := by omega
  have n6 : ¬ cb = G.nx := by omega
  have n7 : ¬ G.nx = B.xb := by omega
  have n8 : ¬ G.nx = cb := by omega
  have hw : IntKind.wrap .i64 (x.clock + 1) = x.clock + 1 := wrap64 (by omega) (by omega)
  have hfl := rSp.flat_length x.calls
  simp only [rSp_sz] at hfl hco
  generalize hL : x.calls = L at *
  obtain ⟨a0, ha0⟩ : ∃ a0, L[k] = a0 := ⟨_, rfl⟩
  have hlen : (x.ends c a).calls = (L.set k { a0 with to := x.clock + 1 }).set k { a0 with to := x.clock + 1, an := a } := by
    simp only [CS.ends, hL, ho, Int.toNat_natCast]
    rw [modify_set _ _ _ hk, ha0]
    simp
  have s1 : (rSp.flat L).set (k * 10 + 2) (.int .i64 (x.clock + 1)) = rSp.flat (L.set k { a0 with to := x.clock + 1 }) := by
    rw [set_overw _ _ _ (by omega)]
    exact RowE.flat_part rSp L hk _ (f := 2) (by rw [ha0]; rfl) (by simp)
  have s2 : overw (rSp.flat (L.set k { a0 with to := x.clock + 1 })) (k * 10 + 7) [.int .i64 a.1, .int .i64 a.2.1, .int .u64 a.2.2] = rSp.flat (x.ends c a).calls := by
    rw [hlen]
    exact RowE.flat_part rSp _ (by simpa using hk) _ (f := 7) (by simp) (by simp)
  have l1 : k * 10 + 2 < (rSp.flat L).length := by omega
  have l2 : k * 10 + 7 + 3 ≤ (rSp.flat (L.set k { a0 with to := x.clock + 1 })).length := by
    rw [rSp.flat_length]; simp; omega
  have hk0 : (0 : Int) ≤ k := by omega
  have hk1 : (k : Int) < L.length := by omega
  have hxo : ∀ j, x.o j = (k : Int) → True := fun _ _ => trivial
  obtain ⟨cv1, hcv1⟩ : ∃ cs : List Value, cs = [.int .i64 (upN x.o c (-1) 0), .int .i64 (upN x.o c (-1) 1), .int .i64 (upN x.o c (-1) 2)] := ⟨_, rfl⟩
  have fin : (fun q : Value × GS => q.1 = Value.tuple #[] ∧ ∃ own', Agr own own' G ∧ ModT [1, 4, 16] own G q.2 ∧ CrG own' q.2 n (x.ends c a) B) (Value.tuple #[], ((((G.push ⟨[.int .i64 a.1, .int .i64 a.2.1, .int .u64 a.2.2], 1, false, 1⟩).put B.xb ⟨crX n (x.ends c a) B, 1, false, 1⟩).room 18).put cb ⟨rSp.flat (L.set k { a0 with to := x.clock + 1 }), 10, op, 1⟩ |>.room 15 |>.put cb ⟨rSp.flat (x.ends c a).calls, 10, op, 1⟩).put B.ob ⟨cv1, 1, false, 1⟩) := by
    generalize hG' : GS.put _ B.ob _ = G'
    have m : ModT [1, 4, 16] own G G' := by
      rw [← hG']
      refine ModT.put (ModT.put (ModP.room (ModT.put (ModP.room (ModT.put (ModP.push (ModT.refl _ _ _) _) (.inl ?_) _) _) (.inl ?_) _) _) (.inl ?_) _) (.inl ?_) _
      · rw [h.cx.tag]; decide
      · rw [tcb]; decide
      · rw [tcb]; decide
      · rw [h.co.tag]; decide
    have ag : Agr own (grown own G 13) G := grown_agr
    have nx' := m.nx
    have ox : G'.obj B.xb = some ⟨crX n (x.ends c a) B, 1, false, 1⟩ := by rw [← hG']; simp [n1, n3]
    have oo : G'.obj B.ob = some ⟨cv1, 1, false, 1⟩ := by rw [← hG']; simp
    have oc : G'.obj cb = some ⟨rSp.flat (x.ends c a).calls, 10, op, 1⟩ := by rw [← hG']; simp [show ¬ cb = B.ob from fun e => n2 e.symm]
    have hlc : (x.ends c a).calls.length = L.length := by rw [hlen]; simp
    have htc : ∀ g, InB B.cv g → g = cb := by
      rintro g ⟨a', n', c', h1, rfl⟩
      rw [hcv] at h1; cases h1; rfl
    refine ⟨rfl, grown own G 13, ag, m, ⟨⟨Nat.lt_of_lt_of_le hlt nx', (ag _ hlt).trans h.cx.tag, ox⟩, h.cp.to m (by decide) ag, h.cw.to m (by decide) ag, h.ch.to m (by decide) ag, ⟨Nat.lt_of_lt_of_le olt nx', (ag _ olt).trans h.co.tag, by rw [oo, hcv1]; rfl⟩, (sepP _ _).tag h.hm m (by decide) ag, h.so, OwR.to h.hq h.tq m (by decide), fun g hg => (ag g (h.hq.is.under g hg)).trans (h.tq g hg), ⟨by rw [rSp.flat_length], .inr ⟨cb, op, by rw [hcv, hlc], Nat.zero_le _, Nat.lt_of_lt_of_le hcb nx', oc⟩⟩, fun g hg => by rw [htc g hg, ag cb hcb, tcb], fun j hj hoj => ?_, fun hf => ?_, fun hn => ?_, h.ones⟩⟩
    · have hjc : 0 ≤ x.o j := by
        by_cases e : j = c
        · subst e; omega
        · simpa [CS.ends, upN_ne _ _ e] using hoj
      obtain ⟨b, h1, h2, h3, h4, h5⟩ := h.p j hj hjc
      have : own b ∉ [1, 4, 16] := by rw [h3]; rcases (show j = 0 ∨ j = 1 by omega) with rfl | rfl <;> decide
      exact ⟨b, h1, Nat.lt_of_lt_of_le h2 nx', (ag b h2).trans h3, h4.kept (m.same h2 this), h5⟩
    · have hf' : x.next = true ∨ 0 ≤ x.o 2 := by
        rcases hf with hf | hf
        · exact .inl hf
        · by_cases e : 2 = c
          · subst e; exact .inr (by omega)
          · exact .inr (by simpa [CS.ends, upN_ne _ _ e] using hf)
      obtain ⟨b, h1, h2, h3, h4, h5⟩ := h.f hf'
      exact ⟨b, h1, Nat.lt_of_lt_of_le h2 nx', (ag b h2).trans h3, h4.kept (m.same h2 (by rw [h3]; decide)), h5⟩
    · obtain ⟨b, h1, h2, h3, h4, h5⟩ := h.d hn
      exact ⟨b, h1, Nat.lt_of_lt_of_le h2 nx', (ag b h2).trans h3, h4.kept (m.same h2 (by rw [h3]; decide)), h5⟩
  have hox := h.cx.obj
  have hoo := h.co.obj
  have hone := h.ones
  have ex : crX n (x.ends c a) B = [.int .i64 0, .int .i64 1, .int .i64 2, .int .i64 n, P0 B.m, .slice (some ⟨B.pb, 0, none⟩) 2 2, .slice (some ⟨B.vb, 0, none⟩) 2 2, B.fv, B.dv, .bool x.next, B.qv, .slice (some ⟨B.hb, 0, none⟩) 2 2, .int .i64 0, .int .i64 0, B.cv, .slice (some ⟨B.ob, 0, none⟩) 3 3, .int .i64 (x.clock + 1), .int .i64 x.pushed] := rfl
  rcases (show c = 0 ∨ c = 1 ∨ c = 2 by omega) with rfl | rfl | rfl
  all_goals
    simp [upN] at hcv1
    rw [hcv1, ex] at fin
    simp [-overw_s, s105, hox, hoo, crX, hw, hcv, hco, ho, n1, n1', n2, n3, n3', n4, n5, n6, n7, n8, hk, hk0, hk1, l1, l2, s1, s2]
    simp [hcv] at fin
    exact fin
end
end Go.Proofs.Ytocbppgkgcoehaa.Lift

set_option linter.unusedVariables false
set_option linter.unusedSimpArgs false
set_option maxRecDepth 20000
namespace Go.Proofs.Ytocbppgkgcoehaa.Lift
open Go Go.Proofs.Ytocbppgkgcoehaa.Gh Go.Proofs
section
variable {own own' own1 : Nat → Nat} {G G' G1 : GS} {b t n c : Nat} {ts : List Nat} {cs : List Value} {x y : CS} {B B' : CrB} {v : Value}
/-- what a crew needs for a step of one of its cores -/
structure Fit3 (n : Nat) (x : CS) (c : Nat) : Prop where
  o : ∃ k : Nat, x.o c = (k : Int) ∧ k < x.calls.length
  clk : 0 ≤ x.clock ∧ x.clock ≤ 1000000
  q : x.q.length ≤ 1000
  n6 : n ≤ 6
theorem err_at (orc : FuncId → Bool) (h : CrG own G n x B) (hc : c < 2) (ho : 0 ≤ x.o c) : ∃ b, B.pv c = P0 b ∧ (E orc).cl 16 [P0 b] G = some (.int .i64 (x.p c).err, G) := by
  obtain ⟨b, h1, h2, h3, h4, h5⟩ := h.p c hc ho
  exact ⟨b, h1, pusherr_ok orc h4⟩
/-- behind what is heard -/
theorem push_J0 (orc : FuncId → Bool) (h : CrG own G n x B) (hc : c < 2) (hf : Fit3 n x c) (τ : Env) (t0 : τ 0 = P0 B.xb) (t1 : τ 1 = .int .i64 c) :
    Wp (j93_0 true (exL Q orc) τ G) (CrPost own G n B (x.ends c ((x.p c).err, 0, 0)) (.bool (decide ((x.p c).err = x.e c)))) := by
  obtain ⟨k, ho, hk⟩ := hf.o
  obtain ⟨b, e1, e2⟩ := err_at orc h hc (by omega)
  obtain ⟨⟨r, G'⟩, e3, rfl, own', ag, m, h'⟩ := ends_in orc h (by omega : c < 3) ho hk hf.clk ((x.p c).err, 0, 0)
  simp only at m h'
  have hee : (x.ends c ((x.p c).err, 0, 0)).e = x.e := rfl
  have cx' := h'.cx.obj
  have ch' := h'.ch.obj
  have fin : CrPost own G n B (x.ends c ((x.p c).err, 0, 0)) (.bool (decide ((x.p c).err = x.e c))) (.bool (decide ((x.p c).err = x.e c)), G') := ⟨rfl, own', B, rfl, ag, m.mono (by decide), h'⟩
  rcases (show c = 0 ∨ c = 1 by omega) with rfl | rfl
  all_goals
    simp [j93_0, jb93_0, t0, t1, h.cx.obj, crX, h.cp.obj, e1, e2]
    simp at e3
    simp [e3, cx', ch', crX, hee]
    simpa using fin
/-- what a step comes to, where the queue is told of -/
def CS.rest (n : Nat) (x : CS) (c : Nat) : CS × Bool :=
  if (x.p c).over = false then (x, decide ((x.p c).err = 14)) else ((x.pushed3 n c).ends c (((x.pushed3 n c).p c).err, 0, 0), decide (((x.pushed3 n c).p c).err = (x.pushed3 n c).e c))
theorem pushed3_p (n : Nat) (x : CS) (c : Nat) : (x.pushed3 n c).p = x.p := by unfold CS.pushed3; split <;> rfl
theorem Fit3.pushed3 (h : Fit3 n x c) : Fit3 n (x.pushed3 n c) c := by
  unfold CS.pushed3
  split
  · exact ⟨h.o, h.clk, h.q, h.n6⟩
  · exact h
/-- a core's word of what it heard -/
theorem CrG.heard (h : CrG own G n x B) (c : Nat) (hc : c < 2) (z : Int) : CrG own (G.put B.hb ⟨[.int .i64 (upN x.e c z 0), .int .i64 (upN x.e c z 1)], 1, false, 1⟩) n { x with e := upN x.e c z } B := by
  have m : ModT [15] own G (G.put B.hb ⟨[.int .i64 (upN x.e c z 0), .int .i64 (upN x.e c z 1)], 1, false, 1⟩) := (ModT.refl _ _ _).put (.inl (by rw [h.ch.tag]; decide)) _
  have ag := Agr.refl own G
  refine ⟨h.cx.to m (by decide) ag, h.cp.to m (by decide) ag, h.cw.to m (by decide) ag, h.ch.put _, h.co.to m (by decide) ag, (sepP _ _).tag h.hm m (by decide) ag, h.so, OwR.to h.hq h.tq m (by decide), h.tq, OwR.to h.hc h.tc m (by decide), h.tc, fun c hc ho => ?_, fun hf => ?_, fun hn => ?_, h.ones⟩
  · obtain ⟨b, h1, h2, h3, h4, h5⟩ := h.p c hc ho
    have : own b ∉ [15] := by rw [h3]; rcases (show c = 0 ∨ c = 1 by omega) with rfl | rfl <;> decide
    exact ⟨b, h1, h2, h3, h4.kept (m.same h2 this), h5⟩
  · obtain ⟨b, h1, h2, h3, h4, h5⟩ := h.f hf
    exact ⟨b, h1, h2, h3, h4.kept (m.same h2 (by rw [h3]; decide)), h5⟩
  · obtain ⟨b, h1, h2, h3, h4, h5⟩ := h.d hn
    exact ⟨b, h1, h2, h3, h4.kept (m.same h2 (by rw [h3]; decide)), h5⟩
theorem push_J1 (orc : FuncId → Bool) (h : CrG own G n x B) (hc : c < 2) (hf : Fit3 n x c) {ab : Nat} (hab : ab < G.nx) (oa : G.obj ab = some ⟨accV x.s, 1, false, 1⟩) (τ : Env) (t0 : τ 0 = P0 B.xb) (t1 : τ 1 = .int .i64 c) (t5 : τ 5 = .bool (x.p c).over) (t6 : τ 6 = P0 ab) :
    Wp (j93_1 true (exL Q orc) τ G) (CrPost own G n B (x.rest n c).1 (.bool (x.rest n c).2)) := by
  obtain ⟨k, ho, hk⟩ := hf.o
  obtain ⟨b, e1, e2⟩ := err_at orc h hc (by omega)
  cases hov : (x.p c).over with
  | false =>
    have hr : x.rest n c = (x, decide ((x.p c).err = 14)) := by unfold CS.rest; rw [if_pos hov]
    rw [hr]
    have fin : CrPost own G n B x (.bool (decide ((x.p c).err = 14))) (.bool (decide ((x.p c).err = 14)), G) := ⟨rfl, own, B, rfl, Agr.refl _ _, ModT.refl _ _ _, h⟩
    rw [hov] at t5
    rcases (show c = 0 ∨ c = 1 by omega) with rfl | rfl
    all_goals
      simp [j93_1, jb93_1, t0, t1, t5, t6, h.cx.obj, crX, h.cp.obj, e1, e2]
      simpa using fin
  | true =>
    rw [hov] at t5
    have hr : x.rest n c = ((x.pushed3 n c).ends c (((x.pushed3 n c).p c).err, 0, 0), decide (((x.pushed3 n c).p c).err = (x.pushed3 n c).e c)) := by unfold CS.rest; rw [if_neg (by rw [hov]; simp)]
    rw [hr]
    have x1 := (Ext.refl G).room 30
    have h1 := h.ext x1
    obtain ⟨G2, e3, x2⟩ := slot_ok orc h1
    have y2 := x1.trans x2
    have h2 := h.ext y2
    have cx2 := h2.cx.obj
    have ch2 := h2.ch.obj
    have oa1 := (x1.obj ab hab).trans oa
    obtain ⟨qa, qc, hq⟩ := h2.hq.is.len
    have lq : ∀ t, ln Q true t B.qv = some (.int .i64 x.q.length) := fun t => by rw [hq]; simp
    -- with or without a word of what was heard
    have no : ∀ (τ' : Env) (G3 : GS), Ext G G3 → τ' 0 = P0 B.xb → τ' 1 = .int .i64 c → x.pushed3 n c = x → Wp (j93_0 true (exL Q orc) τ' G3) (CrPost own G n B ((x.pushed3 n c).ends c (((x.pushed3 n c).p c).err, 0, 0)) (.bool (decide (((x.pushed3 n c).p c).err = (x.pushed3 n c).e c)))) := by
      intro τ' G3 y3 s0 s1 hx
      rw [hx]
      exact (push_J0 orc (h.ext y3) hc hf τ' s0 s1).mono fun q hq => hq.preE y3 rfl
    have yes : ∀ (τ' : Env), τ' 0 = P0 B.xb → τ' 1 = .int .i64 c → x.pushed3 n c = { x with e := upN x.e c 7 } → Wp (j93_0 true (exL Q orc) τ' (G2.put B.hb ⟨[.int .i64 (upN x.e c 7 0), .int .i64 (upN x.e c 7 1)], 1, false, 1⟩)) (CrPost own G n B ((x.pushed3 n c).ends c (((x.pushed3 n c).p c).err, 0, 0)) (.bool (decide (((x.pushed3 n c).p c).err = (x.pushed3 n c).e c)))) := by
      intro τ' s0 s1 hx
      have h3 := h2.heard c hc 7
      have hf' := hf.pushed3
      rw [hx] at hf' ⊢
      refine (push_J0 orc h3 hc hf' τ' s0 s1).mono fun q hq => hq.pre grown_agr ?_ rfl
      exact ((ModT.ext y2).put (.inl (by rw [h.ch.tag]; decide)) _)
    simp only [obj_room] at oa1
    by_cases k1 : x.s.kind = 1
    · by_cases k2 : slotI x.s = true
      · rw [k2] at e3
        by_cases k3 : x.q.length = n
        · by_cases k4 : x.e c = 0
          · have hx : x.pushed3 n c = x := by unfold CS.pushed3; rw [if_neg (fun h => h.2.2.2 k4)]
            rcases (show c = 0 ∨ c = 1 by omega) with rfl | rfl
            all_goals
              simp [j93_1, jb93_1, t0, t1, t5, t6, oa1, k1, e3, cx2, ch2, crX, lq, k3, k4]
              exact no _ G2 y2 (by simp [clip_t, t0]) (by simp [clip_t, t1]) hx
          · have hx : x.pushed3 n c = { x with e := upN x.e c 7 } := by unfold CS.pushed3; rw [if_pos ⟨k1, k2, k3, k4⟩]
            rcases (show c = 0 ∨ c = 1 by omega) with rfl | rfl
            all_goals
              simp [j93_1, jb93_1, t0, t1, t5, t6, oa1, k1, e3, cx2, ch2, crX, lq, k3, k4]
              have := yes (clip 139 (tu (clip 139 τ) [])) 
              exact yes _ (by simp [clip_t, t0]) (by simp [clip_t, t1]) hx
        · have hx : x.pushed3 n c = x := by unfold CS.pushed3; rw [if_neg (fun h => k3 h.2.2.1)]
          have k3' : ¬ (x.q.length : Int) = (n : Int) := by omega
          simp [j93_1, jb93_1, t0, t1, t5, t6, oa1, k1, e3, cx2, ch2, crX, lq, k3, k3']
          exact no _ G2 y2 (by simp [clip_t, t0]) (by simp [clip_t, t1]) hx
      · rw [Bool.not_eq_true] at k2
        rw [k2] at e3
        have hx : x.pushed3 n c = x := by unfold CS.pushed3; rw [if_neg (fun h => by rw [k2] at h; cases h.2.1)]
        simp [j93_1, jb93_1, t0, t1, t5, t6, oa1, k1, e3]
        exact no _ G2 y2 (by simp [clip_t, t0]) (by simp [clip_t, t1]) hx
    · have hx : x.pushed3 n c = x := by unfold CS.pushed3; rw [if_neg (fun h => k1 h.1)]
      simp [j93_1, jb93_1, t0, t1, t5, t6, oa1, k1]
      exact no _ _ x1 (by simp [clip_t, t0]) (by simp [clip_t, t1]) hx
end
end Go.Proofs.Ytocbppgkgcoehaa.Lift

