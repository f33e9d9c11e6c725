/- contracts of the program's functions -/
import Derived.Test.YtaanpcoglijohaaGreatMF
import Derived.Test.YtaanpcoglijohaaGreatMD
set_option linter.unusedVariables false
set_option linter.unusedSimpArgs false
set_option maxRecDepth 20000
namespace Go.Proofs.YtaanpcoglijohaaGreat.Lift
open Go Go.Proofs.YtaanpcoglijohaaGreat.Gh Go.Proofs
/-! ### What is told -/
theorem neq_fn (n q : Nat) : gBinF Q .neq 189 (.tmp n) (.const .nilIface) (.iface 192 (P0 q)) .nilIface = some (.bool true) := by kernel_rfl
theorem neq_dn (n q : Nat) : gBinF Q .neq 189 (.tmp n) (.const .nilIface) (.iface 195 (P0 q)) .nilIface = some (.bool true) := by kernel_rfl
theorem neq_nn (n : Nat) : gBinF Q .neq 189 (.tmp n) (.const .nilIface) .nilIface .nilIface = some (.bool false) := by kernel_rfl
section
variable {own own1 : Nat → Nat} {t b : Nat} {G G1 : GS}
theorem clone_ok (orc : FuncId → Bool) {v : Value} {l : List Int} (h : OwR (rowsI .i64) 0 G v l) (hl : l.length < 2 ^ 36) : ∃ v' G', (E orc).cl 127 [v] G = some (v', G') ∧ Ext G G' ∧ OwR (rowsI .i64) G.nx G' v' l := by
  have his := h.is
  rcases h.2 with ⟨rfl, h0⟩ | ⟨c, op, rfl, h2, h3, h4⟩
  · have hl0 : l = [] := List.eq_nil_of_length_eq_zero h0
    subst hl0
    exact ⟨_, G, f127 (exL_ok Q orc) _ G _ (by simp [s127]), Ext.refl G, OwR.nil _ _⟩
  · obtain ⟨v', G', h1, h2, h3⟩ := OwR.app (A := G) (ib := 8) (OwR.made (rowsI .i64) G) (by decide) ((Ext.refl G).push _) (his.ext ((Ext.refl G).push _)) (by simp; omega)
    simp only [rowsI_sz] at h1
    refine ⟨v', G', f127 (exL_ok Q orc) _ G _ ?_, h2, by simpa using h3⟩
    simp [s127, rep, fillS, fillC, h1]
theorem dnvals_ok (orc : FuncId → Bool) {k : Nat} {p : DnS} (hpo : p.ok k) (hk : k < 2 ^ 36) (hp : DnP own t G b p) : ∃ v' G', (E orc).cl 68 [P0 b] G = some (.tuple #[v', .int .i64 p.err], G') ∧ Ext G G' ∧ OwR (rowsI .i64) G.nx G' v' p.vals := by
  cases p with
  | done e l =>
    obtain ⟨a0, a1, a2, a3, mo, tk, v, h1, h2, h3⟩ := hp
    have one0 := h2.one
    by_cases he : e = 0
    · subst he
      obtain ⟨v', G', e1, x1, w1⟩ := clone_ok orc h2.ow (Nat.lt_of_le_of_lt hpo hk)
      refine ⟨v', G', f68 (exL_ok Q orc) _ G _ ?_, x1, by simpa [DnS.vals] using w1⟩
      simp [s68, h1, neq_nn, e1, DnS.err]
    · refine ⟨.slice none 0 0, G.room 6, f68 (exL_ok Q orc) _ G _ ?_, (Ext.refl G).room 6, by simpa [DnS.vals, he] using OwR.nil _ _⟩
      simp [s68, h1, neq_nn, he, DnS.err]
  | fr R mo l p =>
    obtain ⟨q, tk, v, h1, h2, _⟩ := hp
    have one0 := h2.one
    refine ⟨.slice none 0 0, G, f68 (exL_ok Q orc) _ G _ ?_, Ext.refl G, OwR.nil _ _⟩
    simp [s68, h1, neq_fn, DnS.err]
  | dr R mo l v p =>
    obtain ⟨q, tk, h1, h2, _⟩ := hp
    have one0 := h2.one
    refine ⟨.slice none 0 0, G, f68 (exL_ok Q orc) _ G _ ?_, Ext.refl G, OwR.nil _ _⟩
    simp [s68, h1, neq_dn, DnS.err]
theorem rdnvals_ok (orc : FuncId → Bool) {k : Nat} {p : DnS} (hb : b < G.nx) (hpo : p.ok k) (hk : k < 2 ^ 36) (hp : DnD own t G b p) : ∃ v' G', (E orc).cl 69 [P0 b] G = some (.tuple #[v', .int .i64 p.err], G') ∧ Ext G G' ∧ OwR (rowsI .i64) G.nx G' v' p.vals := by
  cases p with
  | done e l =>
    obtain ⟨a0, a1, a2, a3, mo, tk, u, w, v, h1, h2, h3⟩ := hp
    have one0 := h2.one
    by_cases he : e = 0
    · subst he
      have hpo' : l.length ≤ k := hpo
      have x0 : Ext G (G.push ⟨[], 1, false, 1⟩) := (Ext.refl G).push _
      obtain ⟨v', G', e1, x1, w1⟩ := OwR.app (A := G) (ib := 8) (OwR.made (rowsI .i64) G) (by decide) x0 (h2.ow.is.ext x0) (by simp; omega)
      simp only [rowsI_sz] at e1
      have hlt : ¬ b = G.nx := by omega
      refine ⟨v', G', f69 (exL_ok Q orc) _ G _ ?_, x1, by simpa [DnS.vals] using w1⟩
      simp [s69, h1, rep, fillS, fillC, hlt, e1, DnS.err]
    · refine ⟨.slice none 0 0, G.room 6, f69 (exL_ok Q orc) _ G _ ?_, (Ext.refl G).room 6, by simpa [DnS.vals, he] using OwR.nil _ _⟩
      simp [s69, h1, he, DnS.err]
  | fr R mo l p =>
    obtain ⟨q, tk, v, h1, h2, _⟩ := hp
    have one0 := h2.one
    refine ⟨.slice none 0 0, G, f69 (exL_ok Q orc) _ G _ ?_, Ext.refl G, OwR.nil _ _⟩
    simp [s69, h1, DnS.err]
  | dr R mo l v p =>
    obtain ⟨q, tk, u, h1, h2, _⟩ := hp
    have one0 := h2.one
    refine ⟨.slice none 0 0, G, f69 (exL_ok Q orc) _ G _ ?_, Ext.refl G, OwR.nil _ _⟩
    simp [s69, h1, DnS.err]
end
end Go.Proofs.YtaanpcoglijohaaGreat.Lift

set_option linter.unusedVariables false
set_option linter.unusedSimpArgs false
set_option maxRecDepth 20000
namespace Go.Proofs.YtaanpcoglijohaaGreat.Lift
open Go Go.Proofs.YtaanpcoglijohaaGreat.Gh Go.Proofs
/-! ### What somebody is within -/
inductive OpM where
  | idle
  | sd (p : SdS)
  | dn (p : DnS)
abbrev CoreM := OpM × Nat × Nat
def OpM.V : OpM → Nat → Nat → List Value
  | .idle, _, _ => [.pointer none, .pointer none, .pointer none, .pointer none]
  | .sd _, b, b' => [P0 b, P0 b', .pointer none, .pointer none]
  | .dn _, b, b' => [.pointer none, .pointer none, P0 b, P0 b']
def OpM.ok (k : Nat) : OpM → Prop
  | .idle => True
  | .sd p => p.ok
  | .dn p => p.ok k
def OpM.R (own : Nat → Nat) (G : GS) (i b b' : Nat) : OpM → Prop
  | .idle => True
  | .sd p => (At own i G b ∧ At own (100 + i) G b') ∧ SdP own i G b p ∧ SdD own (100 + i) G b' p
  | .dn p => (At own i G b ∧ At own (100 + i) G b') ∧ DnP own i G b p ∧ DnD own (100 + i) G b' p
def OpM.step : OpM → MS → OpM × MS
  | .idle, s => (.idle, s)
  | .sd p, s => (.sd (p.step s).1, (p.step s).2)
  | .dn p, s => (.dn (p.step s).1, (p.step s).2)
theorem OpM.step_ok {k : Nat} {o : OpM} {s : MS} (ho : o.ok k) (hs : s.ok) : (o.step s).1.ok (k + 1) ∧ (o.step s).2.ok := by
  cases o with
  | idle => exact ⟨trivial, hs⟩
  | sd p => exact SdS.ok.step ho hs
  | dn p => exact DnS.ok.step ho hs
theorem OpM.ok_mono {k j : Nat} {o : OpM} (ho : o.ok k) (h : k ≤ j) : o.ok j := by
  cases o with
  | idle => trivial
  | sd p => exact ho
  | dn p => exact DnS.ok.mono ho h
theorem OpM.R_to {own own' : Nat → Nat} {G G' : GS} {i b b' : Nat} {o : OpM} (h : o.R own G i b b') (hn : G.nx ≤ G'.nx) (hk : ∀ g, g < G.nx → own g = i ∨ own g = 100 + i → G'.obj g = G.obj g) (a : Agr own own' G) : o.R own' G' i b b' := by
  have k1 : ∀ g, g < G.nx → own g = i → G'.obj g = G.obj g := fun g hg h => hk g hg (.inl h)
  have k2 : ∀ g, g < G.nx → own g = 100 + i → G'.obj g = G.obj g := fun g hg h => hk g hg (.inr h)
  cases o with
  | idle => trivial
  | sd p => obtain ⟨⟨h1, h2⟩, h3, h4⟩ := h; exact ⟨⟨h1.to hn a, h2.to hn a⟩, h3.to h1 hn k1 a, h4.to h2 hn k2 a⟩
  | dn p => obtain ⟨⟨h1, h2⟩, h3, h4⟩ := h; exact ⟨⟨h1.to hn a, h2.to hn a⟩, h3.to h1 hn k1 a, h4.to h2 hn k2 a⟩
def rowM : RowE CoreM := ⟨4, fun x => x.1.V x.2.1 x.2.2, fun x => by cases x with | mk o q => cases o <;> rfl, fun x => by cases x with | mk o q => cases o <;> rfl, by decide⟩
@[simp] theorem rowM_sz : rowM.sz = 4 := rfl
@[simp] theorem rowM_row (x : CoreM) : rowM.row x = x.1.V x.2.1 x.2.2 := rfl
def okM (k : Nat) (own : Nat → Nat) (G : GS) (i : Nat) (x : CoreM) : Prop := x.1.ok k ∧ x.1.R own G i x.2.1 x.2.2
def opsM (k : Nat) : Opx CoreM where
  e := rowM
  ok := okM k
  to := fun h hn hk a => ⟨h.1, OpM.R_to h.2 hn hk a⟩
section
variable {own own' : Nat → Nat} {G G' : GS} {m r i k : Nat} {s : MS}
theorem told_ok (orc : FuncId → Bool) (hk : k < 2 ^ 36) {x : CoreM} (hx : okM k own G i x) : ∃ G', (E orc).cl 20 [.agg ⟨x.1.V x.2.1 x.2.2⟩] G = some (.bool true, G') ∧ Ext G G' := by
  obtain ⟨o, b, b'⟩ := x
  obtain ⟨x1, x2⟩ := hx
  simp only at x1 x2 ⊢
  cases o with
  | idle => exact ⟨_, f20 (exL_ok Q orc) _ G _ (by simp [s20, OpM.V]; rfl), (Ext.refl G).push _⟩
  | sd p =>
    obtain ⟨⟨h1, h2⟩, h3, h4⟩ := x2
    obtain ⟨G1, hG1⟩ : ∃ G1, G1 = (G.push ⟨[P0 b, P0 b', .pointer none, .pointer none], 1, false, 1⟩).room 8 := ⟨_, rfl⟩
    have y : Ext G G1 := by rw [hG1]; exact ((Ext.refl G).push _).room 8
    have q3 : G1.obj G.nx = some ⟨[P0 b, P0 b', .pointer none, .pointer none], 1, false, 1⟩ := by rw [hG1]; simp
    have a : Agr own (grown own G 13) G := grown_agr
    have e1 := sderr_ok orc (h3.to h1 y.nx (fun g hg _ => y.obj g hg) a)
    have e2 := rsderr_ok orc (h4.to h2 y.nx (fun g hg _ => y.obj g hg) a)
    refine ⟨G1, f20 (exL_ok Q orc) _ G _ ?_, y⟩
    simp [s20, OpM.V, ← hG1, q3, e1, e2]
  | dn p =>
    obtain ⟨⟨h1, h2⟩, h3, h4⟩ := x2
    obtain ⟨G1, hG1⟩ : ∃ G1, G1 = G.push ⟨[.pointer none, .pointer none, P0 b, P0 b'], 1, false, 1⟩ := ⟨_, rfl⟩
    have y : Ext G G1 := by rw [hG1]; exact (Ext.refl G).push _
    have n1 : G1.nx = G.nx + 1 := by rw [hG1]; rfl
    have q3 : G1.obj G.nx = some ⟨[.pointer none, .pointer none, P0 b, P0 b'], 1, false, 1⟩ := by rw [hG1]; simp
    have a : Agr own (grown own G 13) G := grown_agr
    obtain ⟨v, G2, e2, x2, w2⟩ := dnvals_ok orc x1 hk (h3.to h1 y.nx (fun g hg _ => y.obj g hg) a)
    have q4 := (x2.obj G.nx (by omega)).trans q3
    have y2 := y.trans x2
    obtain ⟨v', G3, e3, x3, w3⟩ := rdnvals_ok orc (Nat.lt_of_lt_of_le h2.lt y2.nx) x1 hk (h4.to h2 y2.nx (fun g hg _ => y2.obj g hg) (grown_agr (t := 13)))
    have hlen : p.vals.length < 2 ^ 36 := by
      cases p with
      | done e l =>
        have x1' : l.length ≤ k := x1
        show (if e = 0 then l else []).length < 2 ^ 36
        split
        · omega
        · simp
      | fr => simp [DnS.vals]
      | dr => simp [DnS.vals]
    obtain ⟨G4, e4, x4⟩ := same21 orc (w2.is.ext x3) w3.is (by omega)
    obtain ⟨G5, e5, m5⟩ := over32 orc (w2.ext (x3.trans x4)) (by omega)
    have y4 := ((y2.trans x3).trans x4)
    have y5 : Ext G G5 := m5.tail y4 fun g hg => Nat.le_trans y.nx (w2.from hg)
    refine ⟨G5, f20 (exL_ok Q orc) _ G _ ?_, y5⟩
    have one2 := own_one w2
    have one3 := own_one w3
    simp [s20, OpM.V, ← hG1, q3, e2, q4, e3, e4, e5]
theorem both_ok (orc : FuncId → Bool) (hk : k + 1 < 2 ^ 36) (h : PM own G m s) (h' : RM own G r s) (hs : s.ok) (hi : i < 9) {x : CoreM} (hx : okM k own G i x) :
    Wp ((E orc).cl 17 [.agg ⟨x.1.V x.2.1 x.2.2⟩, P0 m, P0 r] G) fun q => q.1 = .bool true ∧ ∃ own', Agr own own' G ∧ ModT [10, 11, i, 100 + i] own G q.2 ∧ PM own' q.2 m (x.1.step s).2 ∧ RM own' q.2 r (x.1.step s).2 ∧ okM (k + 1) own' q.2 i ((x.1.step s).1, x.2) := by
  obtain ⟨o, b, b'⟩ := x
  obtain ⟨x1, x2⟩ := hx
  simp only at x1 x2 ⊢
  refine Wp.ref (f17 (exL_ok Q orc) _ _ _ G) ?_
  cases o with
  | idle =>
    have y : Ext G (G.push ⟨[.pointer none, .pointer none, .pointer none, .pointer none], 1, false, 1⟩) := (Ext.refl G).push _
    obtain ⟨G2, e2, x2'⟩ := told_ok (k := k) (own := grown own G 13) (i := i) orc (by omega) (x := (.idle, b, b')) (G := G.push ⟨[.pointer none, .pointer none, .pointer none, .pointer none], 1, false, 1⟩) ⟨trivial, trivial⟩
    simp only [OpM.V] at e2
    have y2 := y.trans x2'
    simp [jb17_0, j17_0, jb17_1, j17_1, sb17, s17, OpM.V, clip_t, e2]
    exact ⟨_, grown_agr, ModT.ext y2, h.ext y2, h'.ext y2, trivial, trivial⟩
  | sd p =>
    obtain ⟨⟨A1, A2⟩, r1, r2⟩ := x2
    obtain ⟨G1, hG1⟩ : ∃ G1, G1 = (G.push ⟨[P0 b, P0 b', .pointer none, .pointer none], 1, false, 1⟩).room 10 := ⟨_, rfl⟩
    have y1 : Ext G G1 := by rw [hG1]; exact ((Ext.refl G).push _).room _
    have o1 : G1.obj G.nx = some ⟨[P0 b, P0 b', .pointer none, .pointer none], 1, false, 1⟩ := by rw [hG1]; simp
    have n1 : G.nx < G1.nx := by rw [hG1]; simp; omega
    have t1 : Agr own (grown own G 13) G := grown_agr
    have tn : grown own G 13 G.nx = 13 := grown_new (Nat.le_refl _)
    have h1 := h.ext y1
    have h1' := h'.ext y1
    have B1 := A1.to y1.nx t1
    have B2 := A2.to y1.nx t1
    have c1 := r1.to A1 y1.nx (fun g hg _ => y1.obj g hg) t1
    have c2 := r2.to A2 y1.nx (fun g hg _ => y1.obj g hg) t1
    generalize grown own G 13 = own1 at *
    obtain ⟨own2, G2, e2, w2, q2⟩ := sdstep_ok orc h1 hs x1 (by omega) B1 c1
    have o2 := (w2.keepT n1 tn (by decide) (by omega)).trans o1
    have C1 := B1.to w2.nx w2.stp.agr
    have C2 := B2.to w2.nx w2.stp.agr
    have d2 := c2.to B2 w2.nx (fun g hg ht => w2.keepT hg ht (by omega) (by omega)) w2.stp.agr
    obtain ⟨own3, G3, e3, w3, q3⟩ := rsdstep_ok orc (w2.rm h1' (by omega)) hs x1 (by omega) C2 d2
    have tn2 : own2 G.nx = 13 := (w2.stp.same n1).trans tn
    have n2 : G.nx < G2.nx := Nat.lt_of_lt_of_le n1 w2.nx
    have o3 := (w3.keepT n2 tn2 (by decide) (by omega)).trans o2
    have D1 := C1.to w3.nx w3.stp.agr
    have D2 := C2.to w3.nx w3.stp.agr
    have p3 := q2.to C1 w3.nx (fun g hg ht => w3.keepT hg ht (by omega) (by omega)) w3.stp.agr
    have hx3 : okM (k + 1) own3 G3 i (.sd (p.step s).1, b, b') := ⟨(SdS.ok.step x1 hs).1, ⟨D1, D2⟩, p3, q3⟩
    obtain ⟨G4, e4, y4⟩ := told_ok orc hk hx3
    simp only [OpM.V] at e4
    have n3 : G.nx < G3.nx := Nat.lt_of_lt_of_le n2 w3.nx
    have a2 : Agr own own2 G := t1.trans w2.stp.agr y1.nx
    have a3 : Agr own own3 G := a2.trans w3.stp.agr (Nat.le_trans y1.nx w2.nx)
    have m2 : ModT [10, 11, i, 100 + i] own1 G1 G2 := w2.mt (by simp) (by simp)
    have m3 : ModT [10, 11, i, 100 + i] own2 G2 G3 := w3.mt (by simp) (by simp)
    have h3 : PM own3 G3 m (p.step s).2 := w3.pm w2.pm (by omega)
    simp [jb17_0, j17_0, jb17_1, j17_1, sb17, s17, OpM.V, clip_t, ← hG1, o1, e2, o2, e3, o3, e4]
    exact ⟨_, a3.trans grown_agr (Nat.le_trans y1.nx (Nat.le_trans w2.nx w3.nx)), (((ModT.ext y1).trans t1 m2).trans a2 m3).trans a3 (ModT.ext y4), h3.ext y4, w3.rm.ext y4, hx3.1, OpM.R_to hx3.2 y4.nx (fun g hg _ => y4.obj g hg) grown_agr⟩
  | dn p =>
    obtain ⟨⟨A1, A2⟩, r1, r2⟩ := x2
    obtain ⟨G1, hG1⟩ : ∃ G1, G1 = (G.push ⟨[.pointer none, .pointer none, P0 b, P0 b'], 1, false, 1⟩).room 10 := ⟨_, rfl⟩
    have y1 : Ext G G1 := by rw [hG1]; exact ((Ext.refl G).push _).room _
    have o1 : G1.obj G.nx = some ⟨[.pointer none, .pointer none, P0 b, P0 b'], 1, false, 1⟩ := by rw [hG1]; simp
    have n1 : G.nx < G1.nx := by rw [hG1]; simp; omega
    have t1 : Agr own (grown own G 13) G := grown_agr
    have tn : grown own G 13 G.nx = 13 := grown_new (Nat.le_refl _)
    have h1 := h.ext y1
    have h1' := h'.ext y1
    have B1 := A1.to y1.nx t1
    have B2 := A2.to y1.nx t1
    have c1 := r1.to A1 y1.nx (fun g hg _ => y1.obj g hg) t1
    have c2 := r2.to A2 y1.nx (fun g hg _ => y1.obj g hg) t1
    generalize grown own G 13 = own1 at *
    obtain ⟨own2, G2, e2, w2, q2⟩ := dnstep_ok orc h1 hs x1 (by omega) (by omega) B1 c1
    have o2 := (w2.keepT n1 tn (by decide) (by omega)).trans o1
    have C1 := B1.to w2.nx w2.stp.agr
    have C2 := B2.to w2.nx w2.stp.agr
    have d2 := c2.to B2 w2.nx (fun g hg ht => w2.keepT hg ht (by omega) (by omega)) w2.stp.agr
    obtain ⟨own3, G3, e3, w3, q3⟩ := rdnstep_ok orc (w2.rm h1' (by omega)) hs x1 (by omega) (by omega) C2 d2
    have tn2 : own2 G.nx = 13 := (w2.stp.same n1).trans tn
    have n2 : G.nx < G2.nx := Nat.lt_of_lt_of_le n1 w2.nx
    have o3 := (w3.keepT n2 tn2 (by decide) (by omega)).trans o2
    have D1 := C1.to w3.nx w3.stp.agr
    have D2 := C2.to w3.nx w3.stp.agr
    have p3 := q2.to C1 w3.nx (fun g hg ht => w3.keepT hg ht (by omega) (by omega)) w3.stp.agr
    have hx3 : okM (k + 1) own3 G3 i (.dn (p.step s).1, b, b') := ⟨(DnS.ok.step x1 hs).1, ⟨D1, D2⟩, p3, q3⟩
    obtain ⟨G4, e4, y4⟩ := told_ok orc hk hx3
    simp only [OpM.V] at e4
    have n3 : G.nx < G3.nx := Nat.lt_of_lt_of_le n2 w3.nx
    have a2 : Agr own own2 G := t1.trans w2.stp.agr y1.nx
    have a3 : Agr own own3 G := a2.trans w3.stp.agr (Nat.le_trans y1.nx w2.nx)
    have m2 : ModT [10, 11, i, 100 + i] own1 G1 G2 := w2.mt (by simp) (by simp)
    have m3 : ModT [10, 11, i, 100 + i] own2 G2 G3 := w3.mt (by simp) (by simp)
    have h3 : PM own3 G3 m (p.step s).2 := w3.pm w2.pm (by omega)
    simp [jb17_0, j17_0, jb17_1, j17_1, sb17, s17, OpM.V, clip_t, ← hG1, o1, e2, o2, e3, o3, e4]
    exact ⟨_, a3.trans grown_agr (Nat.le_trans y1.nx (Nat.le_trans w2.nx w3.nx)), (((ModT.ext y1).trans t1 m2).trans a2 m3).trans a3 (ModT.ext y4), h3.ext y4, w3.rm.ext y4, hx3.1, OpM.R_to hx3.2 y4.nx (fun g hg _ => y4.obj g hg) grown_agr⟩
end
end Go.Proofs.YtaanpcoglijohaaGreat.Lift

set_option linter.unusedVariables false
set_option linter.unusedSimpArgs false
set_option maxRecDepth 20000
namespace Go.Proofs.YtaanpcoglijohaaGreat.Lift
open Go Go.Proofs.YtaanpcoglijohaaGreat.Gh Go.Proofs
/-! ### Somebody begins -/
def newM (x : MB) (what c v : Int) : OpM := if what = 1 then .sd (newSd x c v) else .dn (newDn x c v)
theorem newM_ok (x : MB) (what c v : Int) (k : Nat) : (newM x what c v).ok k := by
  unfold newM; split
  · exact newSd_ok x c v
  · exact (newDn_ok x c v).mono (Nat.zero_le k)
def BegM (o : OpM) (G : GS) (q : Value × GS) : Prop := ∃ b b', q.1 = .agg ⟨o.V b b'⟩ ∧ Ext G q.2 ∧ ∀ own i, i < 9 → ∃ own', Agr own own' G ∧ o.R own' q.2 i b b'
theorem begin_ok (orc : FuncId → Bool) (x : MB) (who what c v : Int) (G : GS) : Wp ((E orc).cl 18 [x.v, .agg ⟨[.int .i64 who, .int .i64 what, .int .i64 c, .int .i64 v]⟩] G) (BegM (newM x what c v) G) := by
  obtain ⟨G1, hG1⟩ : ∃ G1, G1 = (((G.push ⟨x.cells, 1, false, 1⟩).push ⟨[.int .i64 who, .int .i64 what, .int .i64 c, .int .i64 v], 1, false, 1⟩).push ⟨[.pointer none, .pointer none, .pointer none, .pointer none], 1, false, 1⟩).room 14 := ⟨_, rfl⟩
  have x1 : Ext G G1 := by rw [hG1]; exact ((((Ext.refl G).push _).push _).push _).room 14
  have n1 : G1.nx = G.nx + 17 := by rw [hG1]; rfl
  have o0 : G1.obj G.nx = some ⟨x.cells, 1, false, 1⟩ := by rw [hG1]; simp [Nat.add_assoc]
  have o1 : G1.obj (G.nx + 1) = some ⟨[.int .i64 who, .int .i64 what, .int .i64 c, .int .i64 v], 1, false, 1⟩ := by rw [hG1]; simp [Nat.add_assoc]
  have o2 : G1.obj (G.nx + 2) = some ⟨[.pointer none, .pointer none, .pointer none, .pointer none], 1, false, 1⟩ := by rw [hG1]; simp [Nat.add_assoc]
  have d1 : G.nx + 1 + 1 = G.nx + 2 := rfl
  by_cases h1 : what = 1
  · subst h1
    obtain ⟨⟨_, G2⟩, e2, b, rfl, x2, h4, h5⟩ := newsd_ok orc x c v G1
    simp only at e2 x2 h4 h5
    have p0 := (x2.obj G.nx (by omega)).trans o0
    have p1 := (x2.obj (G.nx + 1) (by omega)).trans o1
    have p2 := (x2.obj (G.nx + 2) (by omega)).trans o2
    obtain ⟨⟨_, G3⟩, e3, b', rfl, x3, k4, k5⟩ := rnewsd_ok orc x c v G2
    simp only at e3 x3 k4 k5
    have n2 := x2.nx
    have n3 := x3.nx
    have r2 := (x3.obj (G.nx + 2) (by omega)).trans p2
    have y3 := (x1.trans x2).trans x3
    have hw : Wp (s18 true (exL Q orc) x.v (.agg ⟨[.int .i64 who, .int .i64 1, .int .i64 c, .int .i64 v]⟩) G) fun r => r = (.agg ⟨[P0 b, P0 b', .pointer none, .pointer none]⟩, G3.put (G.nx + 2) ⟨[P0 b, P0 b', .pointer none, .pointer none], 1, false, 1⟩) := by
      simp [s18, ← hG1, o0, o1, o2, e2, p0, p1, p2, e3, r2, splice_put, splice_end]
    obtain ⟨r, e4, rfl⟩ := hw
    refine ⟨_, f18 (exL_ok Q orc) _ _ G _ e4, b, b', rfl, y3.put (by omega) _, fun own i hi => ?_⟩
    refine ⟨fun y => if y < G.nx then own y else if y < G1.nx then 13 else if y < G2.nx then i else 100 + i, fun y hy => by simp [hy], ?_⟩
    generalize how : (fun y => if y < G.nx then own y else if y < G1.nx then 13 else if y < G2.nx then i else 100 + i) = own'
    have tb : own' b = i := by rw [← how]; simp only; rw [if_neg (by omega), if_neg (by omega), if_pos (by omega)]
    have tb' : own' b' = 100 + i := by rw [← how]; simp only; rw [if_neg (by omega), if_neg (by omega), if_neg (by omega)]
    have hR : (newM x 1 c v).R own' G3 i b b' := by
      refine ⟨⟨⟨by omega, tb⟩, by omega, tb'⟩, ?_, ?_⟩
      · refine (h5 own' i).to ⟨by omega, grown_new (by omega)⟩ n3 (fun g hg _ => x3.obj g hg) fun y hy => ?_
        unfold grown
        split
        · rfl
        · rename_i hn; rw [← how]; simp only; rw [if_neg (by omega), if_neg hn, if_pos hy]
      · refine (k5 own' (100 + i)).to ⟨by omega, grown_new (by omega)⟩ (Nat.le_refl _) (fun _ _ _ => rfl) fun y hy => ?_
        unfold grown
        split
        · rfl
        · rename_i hn; rw [← how]; simp only; rw [if_neg (by omega), if_neg (by omega), if_neg hn]
    refine OpM.R_to hR (Nat.le_refl _) (fun g hg hgi => ?_) (Agr.refl _ _)
    have : own' (G.nx + 2) = 13 := by rw [← how]; simp only; rw [if_neg (by omega), if_pos (by omega)]
    show (G3.put _ _).obj g = _
    rw [obj_put, if_neg (by rintro rfl; omega)]
  · obtain ⟨⟨_, G2⟩, e2, b, rfl, x2, h4, h5⟩ := newdn_ok orc x c v G1
    simp only at e2 x2 h4 h5
    have p0 := (x2.obj G.nx (by omega)).trans o0
    have p1 := (x2.obj (G.nx + 1) (by omega)).trans o1
    have p2 := (x2.obj (G.nx + 2) (by omega)).trans o2
    obtain ⟨⟨_, G3⟩, e3, b', rfl, x3, k4, k5⟩ := rnewdn_ok orc x c v G2
    simp only at e3 x3 k4 k5
    have n2 := x2.nx
    have n3 := x3.nx
    have r2 := (x3.obj (G.nx + 2) (by omega)).trans p2
    have y3 := (x1.trans x2).trans x3
    have hw : Wp (s18 true (exL Q orc) x.v (.agg ⟨[.int .i64 who, .int .i64 what, .int .i64 c, .int .i64 v]⟩) G) fun r => r = (.agg ⟨[.pointer none, .pointer none, P0 b, P0 b']⟩, G3.put (G.nx + 2) ⟨[.pointer none, .pointer none, P0 b, P0 b'], 1, false, 1⟩) := by
      simp [s18, ← hG1, o0, o1, o2, h1, e2, p0, p1, p2, e3, r2, splice_put, splice_end]
    obtain ⟨r, e4, rfl⟩ := hw
    have hnm : newM x what c v = .dn (newDn x c v) := by unfold newM; rw [if_neg h1]
    rw [hnm]
    refine ⟨_, f18 (exL_ok Q orc) _ _ G _ e4, b, b', rfl, y3.put (by omega) _, fun own i hi => ?_⟩
    refine ⟨fun y => if y < G.nx then own y else if y < G1.nx then 13 else if y < G2.nx then i else 100 + i, fun y hy => by simp [hy], ?_⟩
    generalize how : (fun y => if y < G.nx then own y else if y < G1.nx then 13 else if y < G2.nx then i else 100 + i) = own'
    have tb : own' b = i := by rw [← how]; simp only; rw [if_neg (by omega), if_neg (by omega), if_pos (by omega)]
    have tb' : own' b' = 100 + i := by rw [← how]; simp only; rw [if_neg (by omega), if_neg (by omega), if_neg (by omega)]
    have hR : OpM.R own' G3 i b b' (.dn (newDn x c v)) := by
      refine ⟨⟨⟨by omega, tb⟩, by omega, tb'⟩, ?_, ?_⟩
      · refine (h5 own' i).to ⟨by omega, grown_new (by omega)⟩ n3 (fun g hg _ => x3.obj g hg) fun y hy => ?_
        unfold grown
        split
        · rfl
        · rename_i hn; rw [← how]; simp only; rw [if_neg (by omega), if_neg hn, if_pos hy]
      · refine (k5 own' (100 + i)).to ⟨by omega, grown_new (by omega)⟩ (Nat.le_refl _) (fun _ _ _ => rfl) fun y hy => ?_
        unfold grown
        split
        · rfl
        · rename_i hn; rw [← how]; simp only; rw [if_neg (by omega), if_neg (by omega), if_neg hn]
    refine OpM.R_to hR (Nat.le_refl _) (fun g hg hgi => ?_) (Agr.refl _ _)
    have : own' (G.nx + 2) = 13 := by rw [← how]; simp only; rw [if_neg (by omega), if_pos (by omega)]
    show (G3.put _ _).obj g = _
    rw [obj_put, if_neg (by rintro rfl; omega)]
/-! ### Where mailboxes may be -/
def MB.fits (x : MB) (n : Int) : Int := if n < 1 ∨ 4096 < n then 3 else if ¬ x.sized ∨ x.first < 0 ∨ n - x.size < x.first then 2 else 0
theorem size_le {x : MB} (h : x.sized) : x.size = x.cores * (x.room + 2) ∧ 3 ≤ x.size ∧ x.size ≤ 1152 := by
  have h' := h
  obtain ⟨h1, h2, h3, h4⟩ := h
  have e1 : IntKind.wrap .i64 (x.room + 2) = x.room + 2 := wrap64 (by omega) (by omega)
  have m1 : x.cores * (x.room + 2) ≤ 64 * (x.room + 2) := Int.mul_le_mul_of_nonneg_right h2 (by omega)
  have m2 : 1 * (x.room + 2) ≤ x.cores * (x.room + 2) := Int.mul_le_mul_of_nonneg_right h1 (by omega)
  have e2 : IntKind.wrap .i64 (x.cores * (x.room + 2)) = x.cores * (x.room + 2) := wrap64 (by omega) (by omega)
  have : x.size = x.cores * (x.room + 2) := by unfold MB.size; rw [if_pos h', e1, e2]
  omega
theorem fits_placed {x : MB} {n : Int} (h : x.fits n = 0) : x.placed ∧ 1 ≤ n ∧ n ≤ 4096 := by
  unfold MB.fits at h
  split at h
  · simp at h
  · split at h
    · simp at h
    · rename_i h1 h2
      have hs : x.sized := Decidable.byContradiction fun hn => h2 (.inl hn)
      have := size_le hs
      exact ⟨⟨hs, by omega, by omega⟩, by omega, by omega⟩
theorem mfits_ok (orc : FuncId → Bool) (x : MB) (n : Int) (G : GS) : ∃ G', (E orc).cl 5 [x.v, .int .i64 n] G = some (.int .i64 (x.fits n), G') ∧ Ext G G' := by
  obtain ⟨G1, hG1⟩ : ∃ G1, G1 = G.push ⟨x.cells, 1, false, 1⟩ := ⟨_, rfl⟩
  have x1 : Ext G G1 := by rw [hG1]; exact (Ext.refl G).push _
  have n1 : G1.nx = G.nx + 1 := by rw [hG1]; rfl
  have o1 : G1.obj G.nx = some ⟨x.cells, 1, false, 1⟩ := by rw [hG1]; simp
  unfold MB.fits
  by_cases h1 : n < 1
  · refine ⟨G1, f5 (exL_ok Q orc) _ _ G _ ?_, x1⟩
    simp [s5, ← hG1, h1]
  by_cases h2 : 4096 < n
  · refine ⟨G1, f5 (exL_ok Q orc) _ _ G _ ?_, x1⟩
    simp [s5, ← hG1, h1, h2]
  rw [if_neg (by omega)]
  have x2 : Ext G1 (G1.room 12) := (Ext.refl _).room _
  obtain ⟨G3, e3, x3⟩ := mplaced_ok orc x (G1.room 12)
  have y3 := x2.trans x3
  have o3 := (y3.obj G.nx (by omega)).trans o1
  by_cases hp : x.placed
  · simp only [hp, decide_true] at e3
    obtain ⟨G4, e4, x4⟩ := msize_ok orc x G3
    have o4 := (x4.obj G.nx (by have := y3.nx; omega)).trans o3
    have hs := size_le hp.1
    have hw : IntKind.wrap .i64 (n - x.size) = n - x.size := wrap64 (by omega) (by omega)
    have hq := hp.2
    by_cases h3 : n - x.size < x.first
    · rw [if_pos (.inr (.inr h3))]
      refine ⟨G4, f5 (exL_ok Q orc) _ _ G _ ?_, (x1.trans y3).trans x4⟩
      simp [s5, ← hG1, o1, h1, h2, e3, o3, e4, o4, hw, h3]
    · rw [if_neg (fun h => h.elim (fun h => h hp.1) (by omega))]
      refine ⟨G4, f5 (exL_ok Q orc) _ _ G _ ?_, (x1.trans y3).trans x4⟩
      simp [s5, ← hG1, o1, h1, h2, e3, o3, e4, o4, hw, h3]
  · simp only [hp, decide_false] at e3
    have : ¬ x.sized ∨ x.first < 0 ∨ n - x.size < x.first := by
      by_cases hs : x.sized
      · have hss := size_le hs
        unfold MB.placed at hp
        refine .inr ?_
        by_cases h0 : x.first < 0
        · exact .inl h0
        · refine .inr ?_
          have : ¬ x.first < 4096 := fun h => hp ⟨hs, by omega, h⟩
          omega
      · exact .inl hs
    rw [if_pos this]
    refine ⟨G3, f5 (exL_ok Q orc) _ _ G _ ?_, x1.trans y3⟩
    simp [s5, ← hG1, o1, h1, h2, e3, o3]
theorem rmfits_ok (orc : FuncId → Bool) (x : MB) (n : Int) (G : GS) : ∃ G', (E orc).cl 6 [x.v, .int .i64 n] G = some (.int .i64 (x.fits n), G') ∧ Ext G G' := by
  obtain ⟨G1, hG1⟩ : ∃ G1, G1 = G.push ⟨x.cells, 1, false, 1⟩ := ⟨_, rfl⟩
  have x1 : Ext G G1 := by rw [hG1]; exact (Ext.refl G).push _
  have n1 : G1.nx = G.nx + 1 := by rw [hG1]; rfl
  have o1 : G1.obj G.nx = some ⟨x.cells, 1, false, 1⟩ := by rw [hG1]; simp
  unfold MB.fits
  by_cases h1 : n < 1
  · refine ⟨G1, f6 (exL_ok Q orc) _ _ G _ ?_, x1⟩
    simp [s6, ← hG1, h1]
  by_cases h2 : 4096 < n
  · refine ⟨G1, f6 (exL_ok Q orc) _ _ G _ ?_, x1⟩
    simp [s6, ← hG1, h1, h2]
  rw [if_neg (by omega)]
  have x2 : Ext G1 (G1.room 18) := (Ext.refl _).room _
  obtain ⟨G3, e3, x3⟩ := mright_ok orc x (G1.room 18)
  have y3 := x2.trans x3
  have o3 := (y3.obj G.nx (by omega)).trans o1
  by_cases hp : x.sized
  · simp only [hp, decide_true] at e3
    by_cases h0 : x.first < 0
    · rw [if_pos (.inr (.inl h0))]
      refine ⟨G3, f6 (exL_ok Q orc) _ _ G _ ?_, x1.trans y3⟩
      simp [s6, ← hG1, o1, h1, h2, e3, o3, h0]
    obtain ⟨G4, e4, x4⟩ := rmsize_ok orc x G3
    have o4 := (x4.obj G.nx (by have := y3.nx; omega)).trans o3
    have hs := size_le hp
    have hw : IntKind.wrap .i64 (n - x.size) = n - x.size := wrap64 (by omega) (by omega)
    by_cases h3 : n - x.size < x.first
    · rw [if_pos (.inr (.inr h3))]
      refine ⟨G4, f6 (exL_ok Q orc) _ _ G _ ?_, (x1.trans y3).trans x4⟩
      simp [s6, ← hG1, o1, h1, h2, e3, o3, h0, e4, o4, hw, h3]
    · rw [if_neg (fun h => h.elim (fun h => h hp) (by omega))]
      refine ⟨G4, f6 (exL_ok Q orc) _ _ G _ ?_, (x1.trans y3).trans x4⟩
      simp [s6, ← hG1, o1, h1, h2, e3, o3, h0, e4, o4, hw, h3]
  · simp only [hp, decide_false] at e3
    rw [if_pos (.inl hp)]
    refine ⟨G3, f6 (exL_ok Q orc) _ _ G _ ?_, x1.trans y3⟩
    simp [s6, ← hG1, o1, h1, h2, e3, o3]
end Go.Proofs.YtaanpcoglijohaaGreat.Lift

set_option linter.unusedVariables false
set_option linter.unusedSimpArgs false
set_option maxRecDepth 20000
namespace Go.Proofs.YtaanpcoglijohaaGreat.Lift
open Go Go.Proofs.YtaanpcoglijohaaGreat.Gh Go.Proofs
/-! ### Mailboxes are laid into a memory -/
def fillsN (x : MB) : Nat → Nat → MS → MS
  | 0, _, s => s
  | k + 1, i, s => fillsN x k (i + 1) (fillI (x.rg i) s)
def mfillI (x : MB) (s : MS) : MS := fillsN x x.cores.toNat 0 s
theorem fillsN_ok (x : MB) : ∀ (k i : Nat) {s : MS}, s.ok → (fillsN x k i s).ok
  | 0, _, _, h => h
  | k + 1, i, _, h => fillsN_ok x k (i + 1) (fillI_ok _ h)
theorem fillsN_len (x : MB) : ∀ (k i : Nat) (s : MS), (fillsN x k i s).W.length = s.W.length
  | 0, _, _ => rfl
  | k + 1, i, s => (fillsN_len x k (i + 1) _).trans (fillI_len _ s)
section
variable {own own0 own1 : Nat → Nat} {A G G1 : GS} {m r xb mb l t : Nat} {s s' : MS} {x : MB} {T : List Value}
theorem PM.fill (orc : FuncId → Bool) (h : PM own G m s) (R : Rg) : ∃ own1 G1, (E orc).cl 49 [R.v, P0 m] G = some (.tuple #[], G1) ∧ PW no own G own1 G1 m (fillI R s) := by
  obtain ⟨⟨v, G1⟩, e, rfl, q2, q3⟩ := fill_ok orc h R
  exact ⟨_, G1, e, pw_of h q2 q3⟩
theorem RM.fill (orc : FuncId → Bool) (h : RM own G r s) (R : Rg) : ∃ own1 G1, (E orc).cl 50 [R.v, P0 r] G = some (.tuple #[], G1) ∧ RW no own G own1 G1 r (fillI R s) := by
  obtain ⟨⟨v, G1⟩, e, rfl, q2, q3⟩ := rfill_ok orc h R
  exact ⟨_, G1, e, rw_of h q2 q3⟩
theorem rfills_lp (orc : FuncId → Bool) (hx : x.sized) (lx : xb < A.nx) (tx : own0 xb ≠ 11) (ox : A.obj xb = some ⟨x.cells, 1, false, 1⟩) : ∀ (k i : Nat) (own : Nat → Nat) (τ : Env) (G : GS) (s : MS), (i : Int) + k = x.cores → τ 1 = P0 r → τ 2 = P0 xb → τ 4 = .int .i64 i → RW no own0 A own G r s →
    Wp ((exL Q orc).lpx 13 0 τ G) fun q => q.1 = .exit 0 ∧ ∃ own', RW no own0 A own' q.2.2 r (fillsN x k i s) := by
  intro k
  induction k with
  | zero =>
    intro i own τ G s hi t1 t2 t4 w
    have o1 := (w.keep lx tx id).trans ox
    refine Wp.lp (l13_0 (exL_ok Q orc)) ?_
    have hi' : ¬ (i : Int) < x.cores := by omega
    simp [-Int.natCast_add, b13_0, clip_t, t1, t2, t4, o1, hi']
    exact ⟨own, w⟩
  | succ k ih =>
    intro i own τ G s hi t1 t2 t4 w
    have o1 := (w.keep lx tx id).trans ox
    refine Wp.lp (l13_0 (exL_ok Q orc)) ?_
    have hi' : (i : Int) < x.cores := by omega
    have hc := hx.2.1
    have hw : IntKind.wrap .i64 ((i : Int) + 1) = ((i + 1 : Nat) : Int) := wrap64 (by omega) (by omega)
    obtain ⟨G2, e2, x2⟩ := rring_ok orc x i G
    have w2 := w.ext x2
    obtain ⟨own3, G3, e3, w3⟩ := w2.rm.fill orc (x.rg i)
    have e3' : (E orc).cl 50 [.agg ⟨x.ring i⟩, P0 r] G2 = some (.tuple #[], G3) := e3
    have w4 := w2.trans w3 fun _ _ h => h
    simp [-Int.natCast_add, b13_0, clip_t, t1, t2, t4, o1, hi', e2, e3', hw]
    exact ih (i + 1) own3 _ G3 _ (by omega) (by simp [clip_t]) (by simp [clip_t]) (by simp [clip_t]) w4
theorem rfills_ok (orc : FuncId → Bool) (hx : x.sized) (h : RM own G r s) : ∃ own1 G1, (E orc).cl 13 [x.v, P0 r] G = some (.tuple #[], G1) ∧ RW no own G own1 G1 r (mfillI x s) := by
  have w : Wp (s13 true (exL Q orc) x.v (P0 r) G) fun q => q.1 = .tuple #[] ∧ ∃ own1, RW no own G own1 q.2 r (mfillI x s) := by
    obtain ⟨G1, hG1⟩ : ∃ G1, G1 = G.push ⟨x.cells, 1, false, 1⟩ := ⟨_, rfl⟩
    have x1 : Ext G G1 := by rw [hG1]; exact (Ext.refl G).push _
    have o1 : G1.obj G.nx = some ⟨x.cells, 1, false, 1⟩ := by rw [hG1]; simp
    have n1 : G1.nx = G.nx + 1 := by rw [hG1]; rfl
    obtain ⟨G2, e2, x2⟩ := mright_ok orc x G1
    have y2 := x1.trans x2
    have o2 := (x2.obj G.nx (by omega)).trans o1
    simp only [hx, decide_true] at e2
    have w2 : RW no own G (grown own G 13) G2 r s := (RW.refl h).ext y2
    have n2 := x2.nx
    have hc := hx.1
    simp [s13, ← hG1, o1, e2]
    refine Wp.bE ((rfills_lp orc hx (own0 := grown own G 13) (A := G2) (xb := G.nx) (by omega) (by rw [grown_new (Nat.le_refl _)]; decide) o2 x.cores.toNat 0 _ _ G2 s (by omega) (by simp) (by simp) (by simp) (RW.refl w2.rm)).mono ?_)
    rintro ⟨e, τ, G'⟩ ⟨rfl, own', w'⟩
    simp
    exact ⟨own', w2.trans w' fun _ _ h => h⟩
  obtain ⟨⟨v, G'⟩, e1, rfl, own1, h1⟩ := w
  exact ⟨own1, G', f13 (exL_ok Q orc) _ _ G _ e1, h1⟩
/-! the program looks through all -/
noncomputable abbrev lpF (T : List Value) : Lp := ⟨.ready, none, T, [11, 12], (subAt [1, 1, 1, 0, 0] (bodyOf Tryz.f12)), (subAt [1, 1, 1, 0, 1] (bodyOf Tryz.f12))⟩
structure FlS (x : MB) (own0 : Nat → Nat) (A : GS) (l xb mb m : Nat) (T : List Value) (own : Nat → Nat) (G : GS) (s : MS) : Prop where
  w : PW no own0 A own G m s
  lp : G.loop l = some (lpF T)
  nl : A.nl ≤ l
  ll : l < G.nl
  ox : G.obj xb = some ⟨x.cells, 1, false, 1⟩
  om : G.obj mb = some ⟨[P0 m], 1, false, 1⟩
  lx : xb < G.nx
  lm : mb < G.nx
  tx : own xb ≠ 10
  tm : own mb ≠ 10
theorem Stp.putLoop {B : Nat → Prop} {r : Lp} (h : Stp t B own G own1 G1) (hl : G.nl ≤ l) : Stp t B own G own1 (G1.putLoop l r) := ⟨h.agr, h.mod.putLoop hl r⟩
theorem PM.putLoop {r : Lp} (h : PM own G m s) : PM own (G.putLoop l r) m s := (sepP m s).mono ((sepP m s).kept h (Nat.le_refl _) fun g hg => by simp) (fun y hy => ⟨by simpa using hy.1, hy.2⟩) Tag.under
theorem PW.putLoop {B : Nat → Prop} {r : Lp} (h : PW B own G own1 G1 m s) (hl : G.nl ≤ l) : PW B own G own1 (G1.putLoop l r) m s := ⟨h.stp.putLoop hl, h.pm.putLoop⟩
theorem fl_round (orc : FuncId → Bool) {i : Int} (hT : T.length = 16) (t3 : nth undef T 3 = P0 mb) (h : FlS x own0 A l xb mb m T own G s) (R : Rg) :
    Wp ((E orc).rd l [.int .i64 i, R.v] G) fun q => q.1 = .bool true ∧ ∃ own', FlS x own0 A l xb mb m T own' q.2 (fillI R s) := by
  refine Wp.ref (d12_0 (exL_ok Q orc) l T _ _ G h.lp hT) ?_
  obtain ⟨G1, hG1⟩ : ∃ G1, G1 = ((G.push ⟨zR, 1, false, 1⟩).put G.nx ⟨R.cells, 1, false, 1⟩) := ⟨_, rfl⟩
  have x1 : Ext G G1 := by rw [hG1]; exact ((Ext.refl G).push _).put (Nat.le_refl _) _
  have l1 : G1.loop l = some (lpF T) := by rw [hG1]; simpa using h.lp
  have nl1 : G1.nl = G.nl := by rw [hG1]; rfl
  have on1 : G1.obj G.nx = some ⟨R.cells, 1, false, 1⟩ := by rw [hG1]; simp
  have n1 : G1.nx = G.nx + 1 := by rw [hG1]; rfl
  obtain ⟨G2, hG2⟩ : ∃ G2, G2 = G1.putLoop l (Lp.setSt (lpF T) .busy) := ⟨_, rfl⟩
  have n2 : G2.nx = G.nx + 1 := by rw [hG2, nx_putLoop, n1]
  have w1 := h.w.ext x1
  have w2 : PW no own0 A (grown own G 13) G2 m s := by rw [hG2]; exact w1.putLoop h.nl
  have l2 : G2.loop l = some (Lp.setSt (lpF T) .busy) := by rw [hG2]; simp
  have nl2 : G2.nl = G.nl := by rw [hG2]; exact nl1
  have on2 : G2.obj G.nx = some ⟨R.cells, 1, false, 1⟩ := by rw [hG2]; simpa using on1
  have ox2 : G2.obj xb = some ⟨x.cells, 1, false, 1⟩ := by rw [hG2]; simpa using (x1.obj xb h.lx).trans h.ox
  have om2 : G2.obj mb = some ⟨[P0 m], 1, false, 1⟩ := by rw [hG2]; simpa using (x1.obj mb h.lm).trans h.om
  have tx2 : grown own G 13 xb ≠ 10 := by rw [grown_agr xb h.lx]; exact h.tx
  have tm2 : grown own G 13 mb ≠ 10 := by rw [grown_agr mb h.lm]; exact h.tm
  obtain ⟨own3, G3, e3, w3⟩ := w2.pm.fill orc R
  have l3 : G3.loop l = some (Lp.setSt (lpF T) .busy) := (w3.stp.mod.loop l (by rw [nl2]; exact h.ll)).trans l2
  have nl3 := w3.stp.mod.nl
  have lx := h.lx
  have lm := h.lm
  have ll := h.ll
  have hrd : roundEnd l .normal G3 = some (.bool true, G3.putLoop l (lpF T)) := by
    rw [roundEnd_some l .normal _ (j := none) rfl l3]
    rfl
  simp [r12_0, t3, ← hG1, splice_put, splice_end]
  have om1 := (x1.obj mb h.lm).trans h.om
  simp [l1, ← hG2, on1, om1, e3, hrd]
  refine ⟨own3, (w2.trans w3 fun _ _ h => h).putLoop h.nl, by simp, h.nl, ?_, ?_, ?_, ?_, ?_, ?_, ?_⟩
  · show l < G3.nl; omega
  · simpa using (w3.keep (by omega) tx2 id).trans ox2
  · simpa using (w3.keep (by omega) tm2 id).trans om2
  · have := w3.nx; simp; omega
  · have := w3.nx; simp; omega
  · rw [w3.stp.same (by omega)]; exact tx2
  · rw [w3.stp.same (by omega)]; exact tm2
theorem fills_lp (orc : FuncId → Bool) (hT : T.length = 16) (t3 : nth undef T 3 = P0 mb) (hx : x.sized) : ∀ (k i : Nat) (own : Nat → Nat) (τ : Env) (G : GS) (s : MS), (i : Int) + k = x.cores → τ 0 = .func (.yield l) #[] #[] → τ 1 = P0 xb → τ 6 = .int .i64 x.cores → τ 7 = .int .i64 i →
    FlS x own0 A l xb mb m T own G s → Wp ((exL Q orc).lpx 101 0 τ G) fun q => q.1 = .exit 0 ∧ ∃ own', FlS x own0 A l xb mb m T own' q.2.2 (fillsN x k i s) := by
  intro k
  induction k with
  | zero =>
    intro i own τ G s hi t0 t1 t6 t7 h
    refine Wp.lp (l101_0 (exL_ok Q orc)) ?_
    have hi' : ¬ (i : Int) < x.cores := by omega
    simp [-Int.natCast_add, b101_0, clip_t, t0, t1, t6, t7, hi']
    exact ⟨own, h⟩
  | succ k ih =>
    intro i own τ G s hi t0 t1 t6 t7 h
    refine Wp.lp (l101_0 (exL_ok Q orc)) ?_
    have hi' : (i : Int) < x.cores := by omega
    have hx' := hx.2.1
    have hw : IntKind.wrap .i64 ((i : Int) + 1) = ((i + 1 : Nat) : Int) := wrap64 (by omega) (by omega)
    have ox := h.ox
    obtain ⟨R, hR⟩ : ∃ R, R = x.ring i := ⟨_, rfl⟩
    have hR' := hR
    unfold MB.ring at hR'
    obtain ⟨⟨v, G1⟩, e1, rfl, own1, h1⟩ := fl_round orc (i := i) hT t3 h (x.rg i)
    have e1' : (E orc).rd l [.int .i64 i, .agg ⟨R⟩] G = some (.bool true, G1) := by rw [hR]; exact e1
    simp [-Int.natCast_add, b101_0, clip_t, t0, t1, t6, t7, hi', ox, ← hR', e1', hw]
    exact ih (i + 1) own1 _ G1 _ (by omega) (by simp [clip_t]) (by simp [clip_t]) (by simp [clip_t]) (by simp [clip_t]) h1
theorem fills_ok (orc : FuncId → Bool) (hx : x.sized) (h : PM own G m s) : ∃ own1 G1, (E orc).cl 12 [x.v, P0 m] G = some (.tuple #[], G1) ∧ PW no own G own1 G1 m (mfillI x s) := by
  obtain ⟨G1, hG1⟩ : ∃ G1, G1 = (G.push ⟨x.cells, 1, false, 1⟩).push ⟨[P0 m], 1, false, 1⟩ := ⟨_, rfl⟩
  have x1 : Ext G G1 := by rw [hG1]; exact ((Ext.refl G).push _).push _
  have o1 : G1.obj G.nx = some ⟨x.cells, 1, false, 1⟩ := by rw [hG1]; simp
  have p1 : G1.obj (G.nx + 1) = some ⟨[P0 m], 1, false, 1⟩ := by rw [hG1]; simp
  have n1 : G1.nx = G.nx + 2 := by rw [hG1]; rfl
  obtain ⟨G2, e2, x2⟩ := msized_ok orc x G1
  have y2 := x1.trans x2
  have n2 := x2.nx
  have o2 := (x2.obj G.nx (by omega)).trans o1
  have p2 := (x2.obj (G.nx + 1) (by omega)).trans p1
  simp only [hx, decide_true] at e2
  have w : Wp (s12 true (exL Q orc) x.v (P0 m) G) fun q => q.1 = .tuple #[] ∧ ∃ own1, PW no own G own1 q.2 m (mfillI x s) := by
    simp [s12, ← hG1, o1, e2, o2, bclose_ok]
    generalize hTT : lst 16 (tu (nth undef _) _) = T
    have hT : T.length = 16 := by rw [← hTT]; exact length_lst 16 _
    have t3 : nth undef T 3 = P0 (G.nx + 1) := by rw [← hTT, nth_lst]; simp [clip_t]
    clear hTT
    obtain ⟨G5, hG5⟩ : ∃ G5, G5 = (G2.push ⟨x.cells, 1, false, 1⟩).pushLoop (lpF T) := ⟨_, rfl⟩
    have x5 : Ext G G5 := by rw [hG5]; exact (y2.push _).pushLoop _
    have x5' : Ext G2 G5 := by rw [hG5]; exact ((Ext.refl G2).push _).pushLoop _
    have n5 : G5.nx = G2.nx + 1 := by rw [hG5]; rfl
    have l5 : G5.loop G2.nl = some (lpF T) := by rw [hG5]; simp
    have w5 : PW no own G (grown own G 13) G5 m s := (PW.refl h).ext x5
    have tn : ∀ g, G.nx ≤ g → grown own G 13 g ≠ 10 := fun g hg => by rw [grown_new hg]; decide
    have hS : FlS x own G G2.nl G2.nx (G.nx + 1) m T (grown own G 13) G5 s := ⟨w5, l5, y2.nl, by rw [hG5]; simp, by rw [hG5]; simp, (x5'.obj _ (by omega)).trans p2, by omega, by omega, tn _ (by omega), tn _ (by omega)⟩
    have hc := hx.1
    have ox := hS.ox
    have wl : Wp (s101 true (exL Q orc) (.func (.yield G2.nl) #[] #[]) (P0 G2.nx) G5) fun q => q.1 = .tuple #[] ∧ ∃ own', FlS x own G G2.nl G2.nx (G.nx + 1) m T own' q.2 (mfillI x s) := by
      simp [s101, ox]
      refine Wp.bE ((fills_lp orc hT t3 hx x.cores.toNat 0 _ _ G5 s (by omega) (by simp [clip_t]) (by simp [clip_t]) (by simp [clip_t]) (by simp [clip_t]) hS).mono ?_)
      rintro ⟨e, τ, G'⟩ ⟨rfl, own', h'⟩
      simp
      exact ⟨own', h'⟩
    obtain ⟨⟨v, G6⟩, e6, rfl, own6, h6⟩ := wl
    have e6' := f101 (exL_ok Q orc) _ _ G5 _ e6
    rw [← hG5]
    simp only [List.nil_append, List.singleton_append, List.cons_append, e6']
    rw [xRangeEnd_some G2.nl T _ G6 h6.lp (by simp) rfl]
    simp
    exact ⟨own6, h6.w.putLoop y2.nl⟩
  obtain ⟨⟨v, G'⟩, e1, rfl, own1, h1⟩ := w
  exact ⟨own1, G', f12 (exL_ok Q orc) _ _ G _ e1, h1⟩
end
end Go.Proofs.YtaanpcoglijohaaGreat.Lift

