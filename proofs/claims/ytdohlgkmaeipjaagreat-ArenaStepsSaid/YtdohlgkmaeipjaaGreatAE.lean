/- contracts of the program's functions -/
import Derived.Test.YtdohlgkmaeipjaaGreatAD
import Derived.Test.YtdohlgkmaeipjaaGreatAB
set_option linter.unusedVariables false
set_option linter.unusedSimpArgs false
set_option maxRecDepth 20000
namespace Go.Proofs.YtdohlgkmaeipjaaGreat.Lift
open Go Go.Proofs.YtdohlgkmaeipjaaGreat.Gh Go.Proofs
/-! ### What a core is within -/
inductive OpA where
  | idle
  | al (p : AlS)
  | fe (p : FeS)
abbrev CoreA := OpA × Nat × Nat × Nat × Nat
def OpA.V : OpA → Nat → Nat → List Value
  | .idle, _, _ => [.pointer none, .pointer none, .pointer none, .pointer none]
  | .al _, b, b' => [P0 b, P0 b', .pointer none, .pointer none]
  | .fe _, b, b' => [.pointer none, .pointer none, P0 b, P0 b']
def OpA.ok (A : Ar) : OpA → Prop
  | .idle => True
  | .al p => p.ok A
  | .fe p => p.ok A
def OpA.R (A : Ar) (G : GS) (b c b' c' : Nat) : OpA → Prop
  | .idle => True
  | .al p => AlR A G b c p ∧ RalR A G b' c' p
  | .fe p => FeR A G b c p ∧ RfeR A G b' c' p
def OpA.step (A : Ar) : OpA → MS → OpA × MS
  | .idle, s => (.idle, s)
  | .al p, s => (.al (p.step A s).1, (p.step A s).2)
  | .fe p, s => (.fe (p.step A s).1, (p.step A s).2)
theorem OpA.step_ok {A : Ar} {o : OpA} {s : MS} (hA : A.ok) (ho : o.ok A) (hs : s.ok) : (o.step A s).1.ok A ∧ (o.step A s).2.ok := by
  cases o with
  | idle => exact ⟨ho, hs⟩
  | al p => exact AlS.ok.step hA ho hs
  | fe p => exact FeS.ok.step hA ho hs
theorem OpA.R.kept {A : Ar} {G G' : GS} {b c b' c' : Nat} {o : OpA} (h : o.R A G b c b' c') (k1 : G'.obj b = G.obj b) (k2 : G'.obj c = G.obj c) (k3 : G'.obj b' = G.obj b') (k4 : G'.obj c' = G.obj c') : o.R A G' b c b' c' := by
  cases o with
  | idle => trivial
  | al p => exact ⟨h.1.kept k1 k2, h.2.kept k3 k4⟩
  | fe p => exact ⟨h.1.kept k1 k2, h.2.kept k3 k4⟩
def rowA : RowE CoreA := ⟨4, fun x => x.1.V x.2.1 x.2.2.2.1, fun x => by cases x with | mk o q => cases o <;> rfl, fun x => by cases x with | mk o q => cases o <;> rfl, by decide⟩
@[simp] theorem rowA_sz : rowA.sz = 4 := rfl
@[simp] theorem rowA_row (x : CoreA) : rowA.row x = x.1.V x.2.1 x.2.2.2.1 := rfl
structure Blk (own : Nat → Nat) (G : GS) (i b c b' c' : Nat) : Prop where
  lb : b < G.nx
  lc : c < G.nx
  lb' : b' < G.nx
  lc' : c' < G.nx
  tb : own b = i
  tc : own c = i
  tb' : own b' = i
  tc' : own c' = i
  d1 : b ≠ c
  d2 : b' ≠ c'
  d3 : b ≠ b'
  d4 : b ≠ c'
  d5 : c ≠ b'
  d6 : c ≠ c'
def okA (A : Ar) (own : Nat → Nat) (G : GS) (i : Nat) (x : CoreA) : Prop := x.1.ok A ∧ x.1.R A G x.2.1 x.2.2.1 x.2.2.2.1 x.2.2.2.2 ∧ (x.1 ≠ .idle → Blk own G i x.2.1 x.2.2.1 x.2.2.2.1 x.2.2.2.2)
def opsA (A : Ar) : Ops CoreA where
  e := rowA
  ok := okA A
  to := by
    rintro own own' G G' i x ⟨h1, h2, h3⟩ hn hk ha
    by_cases hx : x.1 = .idle
    · exact ⟨h1, by rw [hx]; trivial, fun h => absurd hx h⟩
    · have p := h3 hx
      exact ⟨h1, h2.kept (hk _ p.lb p.tb) (hk _ p.lc p.tc) (hk _ p.lb' p.tb') (hk _ p.lc' p.tc'), fun _ => ⟨by have := p.lb; omega, by have := p.lc; omega, by have := p.lb'; omega, by have := p.lc'; omega, (ha _ p.lb).trans p.tb, (ha _ p.lc).trans p.tc, (ha _ p.lb').trans p.tb', (ha _ p.lc').trans p.tc', p.d1, p.d2, p.d3, p.d4, p.d5, p.d6⟩⟩
theorem Blk.to {own own' : Nat → Nat} {G G' : GS} {i b c b' c' : Nat} (p : Blk own G i b c b' c') (hn : G.nx ≤ G'.nx) (ha : Agr own own' G) : Blk own' G' i b c b' c' :=
  ⟨by have := p.lb; omega, by have := p.lc; omega, by have := p.lb'; omega, by have := p.lc'; omega, (ha _ p.lb).trans p.tb, (ha _ p.lc).trans p.tc, (ha _ p.lb').trans p.tb', (ha _ p.lc').trans p.tc', p.d1, p.d2, p.d3, p.d4, p.d5, p.d6⟩
section
variable {own own' : Nat → Nat} {G G' : GS} {m r i : Nat} {s : MS} {A : Ar}
theorem both_ok (orc : FuncId → Bool) (ht : orc 271 = false) (hrf : orc 284 = false) (hA : A.ok) (h : PM own G m s) (h' : RM own G r s) (hs : s.ok) (hi : i < 9) {x : CoreA} (hx : okA A own G i x) :
    Wp ((E orc).cl 59 [.agg ⟨x.1.V x.2.1 x.2.2.2.1⟩, P0 m, P0 r] G) fun q => q.1 = .bool true ∧ ∃ own', Agr own own' G ∧ ModT [10, 11, i] own G q.2 ∧ PM own' q.2 m (x.1.step A s).2 ∧ RM own' q.2 r (x.1.step A s).2 ∧ okA A own' q.2 i ((x.1.step A s).1, x.2) := by
  obtain ⟨o, b, c, b', c'⟩ := x
  obtain ⟨x1, x2, x3⟩ := hx
  simp only at x1 x2 x3 ⊢
  refine Wp.ref (f59 (exL_ok Q orc) _ _ _ G) ?_
  cases o with
  | idle =>
    have y : Ext G (G.push ⟨[.pointer none, .pointer none, .pointer none, .pointer none], 1, false, 1⟩) := (Ext.refl G).push _
    simp [s59, OpA.V]
    exact ⟨_, grown_agr, ModT.ext y, h.ext y, h'.ext y, trivial, trivial, fun h => absurd rfl h⟩
  | al p =>
    have P := x3 (by simp)
    obtain ⟨r1, r2⟩ := x2
    obtain ⟨G1, hG1⟩ : ∃ G1, G1 = (G.push ⟨[P0 b, P0 b', .pointer none, .pointer none], 1, false, 1⟩).room 10 := ⟨_, rfl⟩
    have y1 : Ext G G1 := by rw [hG1]; exact ((Ext.refl G).push _).room _
    have o1 : G1.obj G.nx = some ⟨[P0 b, P0 b', .pointer none, .pointer none], 1, false, 1⟩ := by rw [hG1]; simp
    have n1 : G.nx < G1.nx := by rw [hG1]; simp; omega
    have t1 : Agr own (grown own G 13) G := grown_agr
    have tn : grown own G 13 G.nx = 13 := grown_new (Nat.le_refl _)
    have h1 := h.ext y1
    have h1' := h'.ext y1
    have P1 := P.to (own' := grown own G 13) y1.nx t1
    generalize grown own G 13 = own1 at *
    obtain ⟨own2, G2, e2, w2, q2⟩ := alloc_ok orc ht hrf h1 hs hA P1.lb P1.lc (by have := P1.tb; omega) (by have := P1.tc; omega) P1.d1 x1 (r1.kept (y1.obj b P.lb) (y1.obj c P.lc))
    have o2 := (w2.keep n1 (by rw [tn]; decide) (fun k => by have := P.lb; have := P.lc; rcases k with k | k <;> omega)).trans o1
    have P2 := P1.to w2.nx w2.stp.agr
    have h2' := h1'.to w2.stp (by decide) (fun g hg k => by have := P1.tb; have := P1.tc; rcases k with rfl | rfl <;> omega)
    have k2 : ∀ g, g < G1.nx → own1 g = i → g ≠ b → g ≠ c → G2.obj g = G1.obj g := fun g hg hgi h1 h2 => w2.keep hg (by omega) (by rintro (k | k) <;> contradiction)
    obtain ⟨own3, G3, e3, w3, q3⟩ := ralloc_ok orc h2' hs hA P2.lb' P2.lc' (by have := P2.tb'; omega) (by have := P2.tc'; omega) P2.d2 x1 (r2.kept ((k2 b' P1.lb' P1.tb' P.d3.symm P.d5.symm).trans (y1.obj b' P.lb')) ((k2 c' P1.lc' P1.tc' P.d4.symm P.d6.symm).trans (y1.obj c' P.lc')))
    have tn2 : own2 G.nx = 13 := (w2.stp.same n1).trans tn
    have n2 : G.nx < G2.nx := Nat.lt_of_lt_of_le n1 w2.nx
    have o3 := (w3.keep n2 (by rw [tn2]; decide) (fun k => by have := P.lb'; have := P.lc'; rcases k with k | k <;> omega)).trans o2
    have P3 := P2.to w3.nx w3.stp.agr
    have q2' : AlR A G3 b c (p.step A s).1 := q2.kept (w3.keep P2.lb (by have := P2.tb; omega) (fun k => k.elim P.d3 P.d4)) (w3.keep P2.lc (by have := P2.tc; omega) (fun k => k.elim P.d5 P.d6))
    obtain ⟨G4, e4, y4⟩ := allocref_ok orc q2'
    have n3 : G.nx < G3.nx := Nat.lt_of_lt_of_le n2 w3.nx
    have o4 := (y4.obj _ n3).trans o3
    have q3' : RalR A G4 b' c' (p.step A s).1 := q3.kept (y4.obj _ P3.lb') (y4.obj _ P3.lc')
    obtain ⟨G5, e5, y5⟩ := rallocref_ok orc q3'
    have y := y4.trans y5
    simp [s59, OpA.V, ← hG1, o1, e2, o2, e3, o3, e4, o4, e5]
    have m2 : ModT [10, 11, i] own1 G1 G2 := (w2.stp.modT (i := i) (fun g hg k => k.elim (fun k => k ▸ P1.tb) fun k => k ▸ P1.tc)).mono (by simp)
    have m3 : ModT [10, 11, i] own2 G2 G3 := (w3.stp.modT (i := i) (fun g hg k => k.elim (fun k => k ▸ P2.tb') fun k => k ▸ P2.tc')).mono (by simp)
    have a2 : Agr own own2 G := t1.trans w2.stp.agr y1.nx
    have a3 : Agr own own3 G := a2.trans w3.stp.agr (Nat.le_trans y1.nx w2.nx)
    have h3 : PM own3 G3 m (p.step A s).2 := w2.pm.to w3.stp (by decide) (fun g hg k => by have := P2.tb'; have := P2.tc'; rcases k with rfl | rfl <;> omega)
    refine ⟨_, a3.trans grown_agr (Nat.le_trans y1.nx (Nat.le_trans w2.nx w3.nx)), (((ModT.ext y1).trans t1 m2).trans a2 m3).trans a3 (ModT.ext y), h3.ext y, w3.rm.ext y, AlS.ok.step hA x1 hs |>.1, ⟨q2'.kept (y.obj _ P3.lb) (y.obj _ P3.lc), q3'.kept (y5.obj _ (Nat.lt_of_lt_of_le P3.lb' y4.nx)) (y5.obj _ (Nat.lt_of_lt_of_le P3.lc' y4.nx))⟩, fun _ => P3.to y.nx grown_agr⟩
  | fe p =>
    have P := x3 (by simp)
    obtain ⟨r1, r2⟩ := x2
    obtain ⟨G1, hG1⟩ : ∃ G1, G1 = (G.push ⟨[.pointer none, .pointer none, P0 b, P0 b'], 1, false, 1⟩).room 10 := ⟨_, rfl⟩
    have y1 : Ext G G1 := by rw [hG1]; exact ((Ext.refl G).push _).room _
    have o1 : G1.obj G.nx = some ⟨[.pointer none, .pointer none, P0 b, P0 b'], 1, false, 1⟩ := by rw [hG1]; simp
    have n1 : G.nx < G1.nx := by rw [hG1]; simp; omega
    have t1 : Agr own (grown own G 13) G := grown_agr
    have tn : grown own G 13 G.nx = 13 := grown_new (Nat.le_refl _)
    have h1 := h.ext y1
    have h1' := h'.ext y1
    have P1 := P.to (own' := grown own G 13) y1.nx t1
    generalize grown own G 13 = own1 at *
    obtain ⟨own2, G2, e2, w2, q2⟩ := free_ok orc ht h1 hs hA P1.lb P1.lc (by have := P1.tb; omega) (by have := P1.tc; omega) P1.d1 x1 (r1.kept (y1.obj b P.lb) (y1.obj c P.lc))
    have o2 := (w2.keep n1 (by rw [tn]; decide) (fun k => by have := P.lb; have := P.lc; rcases k with k | k <;> omega)).trans o1
    have P2 := P1.to w2.nx w2.stp.agr
    have h2' := h1'.to w2.stp (by decide) (fun g hg k => by have := P1.tb; have := P1.tc; rcases k with rfl | rfl <;> omega)
    have k2 : ∀ g, g < G1.nx → own1 g = i → g ≠ b → g ≠ c → G2.obj g = G1.obj g := fun g hg hgi h1 h2 => w2.keep hg (by omega) (by rintro (k | k) <;> contradiction)
    obtain ⟨own3, G3, e3, w3, q3⟩ := rfree_ok orc h2' hs hA P2.lb' P2.lc' (by have := P2.tb'; omega) (by have := P2.tc'; omega) P2.d2 x1 (r2.kept ((k2 b' P1.lb' P1.tb' P.d3.symm P.d5.symm).trans (y1.obj b' P.lb')) ((k2 c' P1.lc' P1.tc' P.d4.symm P.d6.symm).trans (y1.obj c' P.lc')))
    have tn2 : own2 G.nx = 13 := (w2.stp.same n1).trans tn
    have n2 : G.nx < G2.nx := Nat.lt_of_lt_of_le n1 w2.nx
    have o3 := (w3.keep n2 (by rw [tn2]; decide) (fun k => by have := P.lb'; have := P.lc'; rcases k with k | k <;> omega)).trans o2
    have P3 := P2.to w3.nx w3.stp.agr
    have q2' : FeR A G3 b c (p.step A s).1 := q2.kept (w3.keep P2.lb (by have := P2.tb; omega) (fun k => k.elim P.d3 P.d4)) (w3.keep P2.lc (by have := P2.tc; omega) (fun k => k.elim P.d5 P.d6))
    have y4 : Ext G3 (G3.room 13) := (Ext.refl _).room _
    have q2'' : FeR A (G3.room 13) b c (p.step A s).1 := q2'.kept (by simp) (by simp)
    have q3'' : RfeR A (G3.room 13) b' c' (p.step A s).1 := q3.kept (by simp) (by simp)
    have e4 := freeerr_ok orc q2''
    have e5 := rfreeerr_ok orc q3''
    simp [s59, OpA.V, ← hG1, o1, e2, o2, e3, o3, e4, e5]
    have m2 : ModT [10, 11, i] own1 G1 G2 := (w2.stp.modT (i := i) (fun g hg k => k.elim (fun k => k ▸ P1.tb) fun k => k ▸ P1.tc)).mono (by simp)
    have m3 : ModT [10, 11, i] own2 G2 G3 := (w3.stp.modT (i := i) (fun g hg k => k.elim (fun k => k ▸ P2.tb') fun k => k ▸ P2.tc')).mono (by simp)
    have a2 : Agr own own2 G := t1.trans w2.stp.agr y1.nx
    have a3 : Agr own own3 G := a2.trans w3.stp.agr (Nat.le_trans y1.nx w2.nx)
    have h3 : PM own3 G3 m (p.step A s).2 := w2.pm.to w3.stp (by decide) (fun g hg k => by have := P2.tb'; have := P2.tc'; rcases k with rfl | rfl <;> omega)
    refine ⟨_, a3.trans grown_agr (Nat.le_trans y1.nx (Nat.le_trans w2.nx w3.nx)), (((ModT.ext y1).trans t1 m2).trans a2 m3).trans a3 (ModT.ext y4), h3.ext y4, w3.rm.ext y4, FeS.ok.step hA x1 hs |>.1, ⟨q2'', q3''⟩, fun _ => P3.to y4.nx grown_agr⟩
def newA (A : Ar) (what i : Int) : OpA := if what = 1 then .al (.pop (.go 1 0 0 0)) else .fe (newFe A i)
theorem newA_ok {A : Ar} (hA : A.ok) (what i : Int) : (newA A what i).ok A := by
  have := hA.1.1
  unfold newA; split
  · exact ⟨⟨by decide, by decide, ⟨by decide, by decide⟩, by decide, by simp only at this ⊢; omega, by decide, by simp only at this ⊢; omega, fun h => absurd rfl h⟩, rfl⟩
  · exact newFe_ok
theorem newA_ne {A : Ar} (what i : Int) : newA A what i ≠ .idle := by unfold newA; split <;> simp
/-- what a begun operation is -/
def BegA (A : Ar) (o : OpA) (G : GS) (q : Value × GS) : Prop := ∃ b c b' c', q.1 = .agg ⟨o.V b b'⟩ ∧ Ext G q.2 ∧ o.R A q.2 b c b' c' ∧ (G.nx ≤ b ∧ b < q.2.nx) ∧ (G.nx ≤ c ∧ c < q.2.nx) ∧ (G.nx ≤ b' ∧ b' < q.2.nx) ∧ (G.nx ≤ c' ∧ c' < q.2.nx) ∧ b ≠ c ∧ b' ≠ c' ∧ b ≠ b' ∧ b ≠ c' ∧ c ≠ b' ∧ c ≠ c'
theorem begin_ok (orc : FuncId → Bool) (A : Ar) (core what i : Int) (G : GS) : Wp ((E orc).cl 60 [A.v, .agg ⟨[.int .i64 core, .int .i64 what, .int .i64 i]⟩] G) (BegA A (newA A what i) G) := by
  refine Wp.ref (f60 (exL_ok Q orc) _ _ G) ?_
  obtain ⟨G1, hG1⟩ : ∃ G1, G1 = ((G.push ⟨A.cells, 1, false, 1⟩).push ⟨[.int .i64 core, .int .i64 what, .int .i64 i], 1, false, 1⟩).push ⟨z150, 1, false, 1⟩ := ⟨_, rfl⟩
  have x0 : Ext G G1 := by rw [hG1]; exact (((Ext.refl G).push _).push _).push _
  have q0 : G1.obj G.nx = some ⟨A.cells, 1, false, 1⟩ := by rw [hG1]; simp [Nat.add_assoc]
  have q1 : G1.obj (G.nx + 1) = some ⟨[.int .i64 core, .int .i64 what, .int .i64 i], 1, false, 1⟩ := by rw [hG1]; simp [Nat.add_assoc]
  have q2 : G1.obj (G.nx + 2) = some ⟨z150, 1, false, 1⟩ := by rw [hG1]; simp
  have nG : G1.nx = G.nx + 3 := by rw [hG1]; rfl
  simp only [s60, bx_t, bS_some, al_t, cells_agg]
  rw [← hG1]
  unfold newA
  by_cases h1 : what = 1
  · subst h1
    obtain ⟨b, c, G2, e2, x2, b1, b2, c1, c2, d1, r2⟩ := newalloc_ok orc A (G1.room 6)
    obtain ⟨b', c', G3, e3, x3, b1', b2', c1', c2', d2, r3⟩ := rnewalloc_ok orc A G2
    have y2 := ((Ext.refl G1).room 6).trans x2
    have y3 := y2.trans x3
    have n2 := y2.nx
    have n3 := x3.nx
    simp at b1 c1
    have o0 := (y2.obj _ (by omega)).trans q0
    have o2 := (y3.obj _ (by omega)).trans q2
    simp [q0, q1, e2, o0, e3, o2]
    have hz : z150 = [.pointer none, .pointer none, .pointer none, .pointer none] := rfl
    try simp [hz, splice_put, splice_end]
    refine ⟨b, c, b', c', rfl, (x0.trans y3).put (by omega) _, ⟨r2.kept (by rw [obj_put, if_neg (by omega)]; exact x3.obj _ b2) (by rw [obj_put, if_neg (by omega)]; exact x3.obj _ c2), r3.kept (by rw [obj_put, if_neg (by omega)]) (by rw [obj_put, if_neg (by omega)])⟩, ⟨by omega, by show b < G3.nx; omega⟩, ⟨by omega, by show c < G3.nx; omega⟩, ⟨by omega, by show b' < G3.nx; omega⟩, ⟨by omega, by show c' < G3.nx; omega⟩, by omega, by omega, by omega, by omega, by omega, by omega⟩
  · obtain ⟨b, c, G2, e2, x2, b1, b2, c1, c2, d1, r2⟩ := newfree_ok orc A i (G1.room 10)
    obtain ⟨b', c', G3, e3, x3, b1', b2', c1', c2', d2, r3⟩ := rnewfree_ok orc A i G2
    have y2 := ((Ext.refl G1).room 10).trans x2
    have y3 := y2.trans x3
    have n2 := y2.nx
    have n3 := x3.nx
    simp at b1 c1
    have o0 := (y2.obj _ (by omega)).trans q0
    have o1 := (y2.obj _ (by omega)).trans q1
    have o2 := (y3.obj _ (by omega)).trans q2
    rw [if_neg h1]
    simp [q0, q1, h1, e2, o0, o1, e3, o2]
    have hz : z150 = [.pointer none, .pointer none, .pointer none, .pointer none] := rfl
    try simp [hz, splice_put, splice_end]
    refine ⟨b, c, b', c', rfl, (x0.trans y3).put (by omega) _, ⟨r2.kept (by rw [obj_put, if_neg (by omega)]; exact x3.obj _ b2) (by rw [obj_put, if_neg (by omega)]; exact x3.obj _ c2), r3.kept (by rw [obj_put, if_neg (by omega)]) (by rw [obj_put, if_neg (by omega)])⟩, ⟨by omega, by show b < G3.nx; omega⟩, ⟨by omega, by show c < G3.nx; omega⟩, ⟨by omega, by show b' < G3.nx; omega⟩, ⟨by omega, by show c' < G3.nx; omega⟩, by omega, by omega, by omega, by omega, by omega, by omega⟩
end
end Go.Proofs.YtdohlgkmaeipjaaGreat.Lift

set_option linter.unusedVariables false
set_option linter.unusedSimpArgs false
set_option maxRecDepth 20000
namespace Go.Proofs.YtdohlgkmaeipjaaGreat.Lift
open Go Go.Proofs.YtdohlgkmaeipjaaGreat.Gh Go.Proofs
/-! ### Where an arena may be: the document's answer -/
abbrev Sk.v (R : Sk) : Value := .agg ⟨[.int .i64 R.top, .int .i64 R.links, .int .i64 R.size]⟩
def Sk.sized (R : Sk) : Prop := 1 ≤ R.size ∧ R.size ≤ 4096
instance (R : Sk) : Decidable R.sized := by unfold Sk.sized; exact inferInstance
def Sk.fitsIn (R : Sk) (c : Int) : Prop := R.sized ∧ 0 ≤ R.top ∧ R.top < c ∧ 0 ≤ R.links ∧ R.links ≤ c - R.size ∧ ¬ (R.links ≤ R.top ∧ R.top < R.links + R.size)
instance (R : Sk) (c : Int) : Decidable (R.fitsIn c) := by unfold Sk.fitsIn; exact inferInstance
def sfitsI (R : Sk) (c : Int) : Int := if c < 1 ∨ 4096 < c then 3 else if R.fitsIn c then 0 else 2
section
variable {G B : GS} {A : Ar} {R : Sk} {c : Int}
theorem ssized_ok (orc : FuncId → Bool) (R : Sk) (G : GS) : (E orc).cl 254 [R.v] G = some (.bool (decide R.sized), G.push ⟨[.int .i64 R.top, .int .i64 R.links, .int .i64 R.size], 1, false, 1⟩) := by
  refine f254 (exL_ok Q orc) _ G _ ?_
  unfold Sk.sized
  by_cases h1 : 1 ≤ R.size
  · by_cases h2 : R.size ≤ 4096 <;> simp [s254, h1, h2]
  · simp [s254, h1]
theorem sfits_ok (orc : FuncId → Bool) (R : Sk) (c : Int) (G : GS) : ∃ G', (E orc).cl 167 [R.v, .int .i64 c] G = some (.int .i64 (sfitsI R c), G') ∧ Ext G G' := by
  have w : Wp (s167 true (exL Q orc) R.v (.int .i64 c) G) fun q => q.1 = .int .i64 (sfitsI R c) ∧ Ext G q.2 := by
    obtain ⟨G1, hG1⟩ : ∃ G1, G1 = G.push ⟨[.int .i64 R.top, .int .i64 R.links, .int .i64 R.size], 1, false, 1⟩ := ⟨_, rfl⟩
    have x1 : Ext G G1 := by rw [hG1]; exact (Ext.refl G).push _
    have o1 : G1.obj G.nx = some ⟨[.int .i64 R.top, .int .i64 R.links, .int .i64 R.size], 1, false, 1⟩ := by rw [hG1]; simp
    have n1 : G1.nx = G.nx + 1 := by rw [hG1]; rfl
    unfold sfitsI
    by_cases c1 : c < 1
    · simp [s167, ← hG1, c1]; exact x1
    by_cases c2 : 4096 < c
    · simp [s167, ← hG1, c1, c2]; exact x1
    have e2 := ssized_ok orc R G1
    obtain ⟨G2, hG2⟩ : ∃ G2, G2 = G1.push ⟨[.int .i64 R.top, .int .i64 R.links, .int .i64 R.size], 1, false, 1⟩ := ⟨_, rfl⟩
    have x2 : Ext G G2 := by rw [hG2]; exact x1.push _
    have o2 : G2.obj G.nx = some ⟨[.int .i64 R.top, .int .i64 R.links, .int .i64 R.size], 1, false, 1⟩ := by rw [hG2]; simp [o1]
    rw [← hG2] at e2
    unfold Sk.fitsIn
    by_cases h0 : R.sized
    · have h0' := h0
      obtain ⟨s1, s2⟩ := h0
      have w1 : IntKind.wrap .i64 (c - R.size) = c - R.size := wrap64 (by omega) (by omega)
      simp only [h0', decide_true] at e2
      by_cases h1 : R.top < 0
      · have : ¬ 0 ≤ R.top := by omega
        simp [s167, ← hG1, c1, c2, o1, e2, o2, h1, h0', this]; exact x2
      have h1' : 0 ≤ R.top := by omega
      by_cases h2 : c ≤ R.top
      · have : ¬ R.top < c := by omega
        simp [s167, ← hG1, c1, c2, o1, e2, o2, h1, h2, h0', h1', this]; exact x2
      have h2' : R.top < c := by omega
      by_cases h3 : R.links < 0
      · have : ¬ 0 ≤ R.links := by omega
        simp [s167, ← hG1, c1, c2, o1, e2, o2, h1, h2, h3, h0', h1', h2', this]; exact x2
      have h3' : 0 ≤ R.links := by omega
      by_cases h4 : c - R.size < R.links
      · have : ¬ R.links ≤ c - R.size := by omega
        simp [s167, ← hG1, c1, c2, o1, e2, o2, h1, h2, h3, h0', h1', h2', h3', w1, h4, this]; exact x2
      have h4' : R.links ≤ c - R.size := by omega
      have w2 : IntKind.wrap .i64 (R.links + R.size) = R.links + R.size := wrap64 (by omega) (by omega)
      by_cases h5 : R.links ≤ R.top
      · by_cases h6 : R.top < R.links + R.size
        · have : ¬ R.links + R.size ≤ R.top := by omega
          simp [s167, ← hG1, c1, c2, o1, e2, o2, h1, h2, h3, h0', h1', h2', h3', w1, h4, h4', w2, h5, h6, this]; exact x2
        · have : R.links + R.size ≤ R.top := by omega
          simp [s167, ← hG1, c1, c2, o1, e2, o2, h1, h2, h3, h0', h1', h2', h3', w1, h4, h4', w2, h5, h6, this]; exact x2
      · have h5' : R.top < R.links := by omega
        simp [s167, ← hG1, c1, c2, o1, e2, o2, h1, h2, h3, h0', h1', h2', h3', w1, h4, h4', w2, h5, h5']; exact x2
    · simp only [h0, decide_false] at e2
      simp [s167, ← hG1, c1, c2, o1, e2, o2, h0]; exact x2
  obtain ⟨⟨v, G'⟩, e1, rfl, h⟩ := w
  exact ⟨G', f167 (exL_ok Q orc) _ _ G _ e1, h⟩
theorem rsfits_ok (orc : FuncId → Bool) (R : Sk) (c : Int) (G : GS) : ∃ G', (E orc).cl 169 [R.v, .int .i64 c] G = some (.int .i64 (sfitsI R c), G') ∧ Ext G G' := by
  have w : Wp (s169 true (exL Q orc) R.v (.int .i64 c) G) fun q => q.1 = .int .i64 (sfitsI R c) ∧ Ext G q.2 := by
    obtain ⟨G1, hG1⟩ : ∃ G1, G1 = G.push ⟨[.int .i64 R.top, .int .i64 R.links, .int .i64 R.size], 1, false, 1⟩ := ⟨_, rfl⟩
    have x1 : Ext G G1 := by rw [hG1]; exact (Ext.refl G).push _
    have o1 : G1.obj G.nx = some ⟨[.int .i64 R.top, .int .i64 R.links, .int .i64 R.size], 1, false, 1⟩ := by rw [hG1]; simp
    unfold sfitsI
    by_cases c1 : c < 1
    · simp [s169, ← hG1, c1]; exact x1
    by_cases c2 : 4096 < c
    · simp [s169, ← hG1, c1, c2]; exact x1
    unfold Sk.fitsIn Sk.sized
    by_cases s1 : R.size < 1
    · have : ¬ 1 ≤ R.size := by omega
      simp [s169, ← hG1, c1, c2, o1, s1, this]; exact x1
    have s1' : 1 ≤ R.size := by omega
    by_cases s2 : 4096 < R.size
    · have : ¬ R.size ≤ 4096 := by omega
      simp [s169, ← hG1, c1, c2, o1, s1, s2, this]; exact x1
    have s2' : R.size ≤ 4096 := by omega
    have w1 : IntKind.wrap .i64 (c - R.size) = c - R.size := wrap64 (by omega) (by omega)
    by_cases h1 : R.top < 0
    · have : ¬ 0 ≤ R.top := by omega
      simp [s169, ← hG1, c1, c2, o1, s1, s2, s1', s2', h1, this]; exact x1
    have h1' : 0 ≤ R.top := by omega
    by_cases h2 : c ≤ R.top
    · have : ¬ R.top < c := by omega
      simp [s169, ← hG1, c1, c2, o1, s1, s2, s1', s2', h1, h2, h1', this]; exact x1
    have h2' : R.top < c := by omega
    by_cases h3 : R.links < 0
    · have : ¬ 0 ≤ R.links := by omega
      simp [s169, ← hG1, c1, c2, o1, s1, s2, s1', s2', h1, h2, h3, h1', h2', this]; exact x1
    have h3' : 0 ≤ R.links := by omega
    by_cases h4 : c - R.size < R.links
    · have : ¬ R.links ≤ c - R.size := by omega
      simp [s169, ← hG1, c1, c2, o1, s1, s2, s1', s2', h1, h2, h3, h1', h2', h3', w1, h4, this]; exact x1
    have h4' : R.links ≤ c - R.size := by omega
    have w2 : IntKind.wrap .i64 (R.links + R.size) = R.links + R.size := wrap64 (by omega) (by omega)
    by_cases h5 : R.links ≤ R.top
    · by_cases h6 : R.top < R.links + R.size
      · have : ¬ R.links + R.size ≤ R.top := by omega
        simp [s169, ← hG1, c1, c2, o1, s1, s2, s1', s2', h1, h2, h3, h1', h2', h3', w1, h4, h4', w2, h5, h6, this]; exact x1
      · have : R.links + R.size ≤ R.top := by omega
        simp [s169, ← hG1, c1, c2, o1, s1, s2, s1', s2', h1, h2, h3, h1', h2', h3', w1, h4, h4', w2, h5, h6, this]; exact x1
    · have h5' : R.top < R.links := by omega
      simp [s169, ← hG1, c1, c2, o1, s1, s2, s1', s2', h1, h2, h3, h1', h2', h3', w1, h4, h4', w2, h5, h5']; exact x1
  obtain ⟨⟨v, G'⟩, e1, rfl, h⟩ := w
  exact ⟨G', f169 (exL_ok Q orc) _ _ G _ e1, h⟩
/-! the cells of an arena, as the document counts them -/
def arN (A : Ar) : Nat → Nat → List Int
  | 0, _ => []
  | k + 1, i => IntKind.wrap .i64 (A.links + i) :: IntKind.wrap .i64 (A.gens + i) :: arN A k (i + 1)
theorem arN_length (A : Ar) : ∀ k i, (arN A k i).length = 2 * k
  | 0, _ => rfl
  | k + 1, i => by simp only [arN, List.length_cons, arN_length A k (i + 1)]; omega
def arL (A : Ar) : List Int := A.top :: A.worn :: arN A A.size.toNat 0
theorem rcells_lp (orc : FuncId → Bool) {rb : Nat} (hB : B.obj rb = some ⟨A.cells, 1, false, 1⟩) (hrb : rb < B.nx) (hz : A.size ≤ 4096) {n : Nat} (hn : A.size = n) : ∀ (k i : Nat) (τ : Env) (G : GS) (L : List Int) (v : Value), i + k = n → L.length ≤ 2 + 2 * i → Ext B G → OwR (rowsI .i64) B.nx G v L → τ 1 = P0 rb → τ 3 = v → τ 4 = .int .i64 i →
    Wp ((exL Q orc).lpx 170 0 τ G) fun q => q.1 = .exit 0 ∧ Ext B q.2.2 ∧ OwR (rowsI .i64) B.nx q.2.2 (q.2.1 3) (L ++ arN A k i) := by
  intro k
  induction k with
  | zero =>
    intro i τ G L v hi hL hx hv t1 t3 t4
    have ho := (hx.obj rb hrb).trans hB
    have hi' : ((i : Nat) : Int) = A.size := by omega
    refine Wp.lp (l170_0 (exL_ok Q orc)) ?_
    simp [b170_0, clip_t, t1, t3, t4, ho, hi', arN]
    exact ⟨hx, hv⟩
  | succ k ih =>
    intro i τ G L v hi hL hx hv t1 t3 t4
    have ho := (hx.obj rb hrb).trans hB
    have hlt : ((i : Nat) : Int) < A.size := by omega
    have hw : IntKind.wrap .i64 ((i : Int) + 1) = ((i + 1 : Nat) : Int) := wrap64 (by omega) (by omega)
    generalize ha : IntKind.wrap .i64 (A.links + i) = a
    generalize hb : IntKind.wrap .i64 (A.gens + i) = b
    have x1 : Ext G (G.push ⟨(rowsI .i64).flat [a, b], 1, false, 1⟩) := (Ext.refl G).push _
    have hs : SlR (rowsI .i64) (G.push ⟨(rowsI .i64).flat [a, b], 1, false, 1⟩) (.slice (some ⟨G.nx, 0, none⟩) 2 2) [a, b] := SlR.block (e := rowsI .i64) (L := [a, b]) (op := false) (b := G.nx) (by rw [obj_push, if_pos rfl]; rfl) (by simp)
    obtain ⟨v', G4, e6, x6, w6⟩ := (hv.ext x1).app (A := B) (ib := 8) (by decide) (hx.trans x1) hs (by simp; omega)
    have hfl : (rowsI .i64).flat [a, b] = [.int .i64 a, .int .i64 b] := rfl
    simp only [rowsI_sz, hfl] at e6
    refine Wp.lp (l170_0 (exL_ok Q orc)) ?_
    simp [-Int.natCast_add, b170_0, clip_t, t1, t3, t4, ho, hlt, ha, hb, hw, fillS, fillC, zipF, rep, splice_put, splice_end, splice_succ, e6]
    refine (ih (i + 1) _ G4 (L ++ [a, b]) v' (by omega) (by simp; omega) x6 w6 (by simp [clip_t]) (by simp [clip_t]) (by simp [clip_t])).mono ?_
    rintro q ⟨q1, q2, q3⟩
    exact ⟨q1, q2, by simpa [arN, ha, hb] using q3⟩
theorem rcells_ok (orc : FuncId → Bool) (hz1 : 1 ≤ A.size) (hz : A.size ≤ 4096) (G : GS) : ∃ v G', (E orc).cl 170 [A.v] G = some (v, G') ∧ Ext G G' ∧ OwR (rowsI .i64) G.nx G' v (arL A) := by
  have w : Wp (s170 true (exL Q orc) A.v G) fun q => Ext G q.2 ∧ OwR (rowsI .i64) G.nx q.2 q.1 (arL A) := by
    obtain ⟨G1, hG1⟩ : ∃ G1, G1 = G.push ⟨A.cells, 1, false, 1⟩ := ⟨_, rfl⟩
    have x1 : Ext G G1 := by rw [hG1]; exact (Ext.refl G).push _
    have o1 : G1.obj G.nx = some ⟨A.cells, 1, false, 1⟩ := by rw [hG1]; simp
    have n1 : G1.nx = G.nx + 1 := by rw [hG1]; rfl
    simp [s170, ← hG1, o1, fillS, fillC, zipF, rep, splice_put, splice_end, splice_succ]
    have hfl : [Value.int .i64 A.top, Value.int .i64 A.worn] = (rowsI .i64).flat [A.top, A.worn] := rfl
    generalize hG2 : GS.push G1 _ = G2
    have x2 : Ext G1 G2 := by rw [← hG2]; exact (Ext.refl _).push _
    have w2 : OwR (rowsI .i64) G1.nx G2 (.slice (some ⟨G1.nx, 0, none⟩) 2 2) [A.top, A.worn] := ⟨rfl, .inr ⟨G1.nx, false, rfl, Nat.le_refl _, by rw [← hG2]; simp, by rw [← hG2, obj_push, if_pos rfl]; rfl⟩⟩
    obtain ⟨n, hn⟩ : ∃ n : Nat, A.size = n := ⟨A.size.toNat, by omega⟩
    refine Wp.bE ((rcells_lp orc (B := G1) o1 (by omega) hz hn n 0 _ G2 [A.top, A.worn] _ (by omega) (by simp) x2 w2 (by simp) (by simp) (by simp)).mono ?_)
    rintro ⟨e, τ, G3⟩ ⟨rfl, q2, q3⟩
    simp only at q2 q3
    simp
    refine ⟨x1.trans q2, ?_⟩
    have := q3.mono (B' := G.nx) (by omega)
    simpa [arL, hn] using this
  obtain ⟨⟨v, G'⟩, e1, e2, e3⟩ := w
  exact ⟨v, G', f170 (exL_ok Q orc) _ G _ e1, e2, e3⟩
/-! apart -/
def apC (L : List Int) (n : Int) (i : Nat) : Prop := 0 ≤ (L[i]?).getD 0 ∧ (L[i]?).getD 0 < n ∧ (L[i]?).getD 0 ∉ L.take i
instance (L : List Int) (n : Int) (i : Nat) : Decidable (apC L n i) := by unfold apC; exact inferInstance
def apF (L : List Int) (n : Int) : Nat → Nat → Bool
  | 0, _ => true
  | k + 1, i => decide (apC L n i) && apF L n k (i + 1)
theorem apF_iff (L : List Int) (n : Int) : ∀ k i, apF L n k i = true ↔ ∀ j, i ≤ j → j < i + k → apC L n j
  | 0, i => ⟨fun _ j h1 h2 => by omega, fun _ => rfl⟩
  | k + 1, i => by
    simp only [apF, Bool.and_eq_true, decide_eq_true_eq, apF_iff L n k (i + 1)]
    constructor
    · rintro ⟨h1, h2⟩ j h3 h4
      by_cases hj : j = i
      · exact hj ▸ h1
      · exact h2 j (by omega) (by omega)
    · intro h
      exact ⟨h i (by omega) (by omega), fun j h1 h2 => h j (by omega) (by omega)⟩
theorem rapart_lp (orc : FuncId → Bool) {L : List Int} {n : Int} {v : Value} (hv : SlR (rowsI .i64) B v L) (hL : L.length < 2 ^ 40) : ∀ (k i : Nat) (τ : Env) (G : GS), i + k = L.length → Ext B G → τ 0 = v → τ 1 = .int .i64 n → τ 5 = .int .i64 i →
    Wp ((exL Q orc).lpx 152 0 τ G) fun q => Ext B q.2.2 ∧ ((q.1 = .exit 0 ∧ apF L n k i = true) ∨ (q.1 = .ret ∧ q.2.1 4 = .bool false ∧ apF L n k i = false)) := by
  intro k
  induction k with
  | zero =>
    intro i τ G hi hx t0 t1 t5
    have hi' : i = L.length := by omega
    subst hi'
    obtain ⟨a, c, rfl⟩ := hv.len
    refine Wp.lp (l152_0 (exL_ok Q orc)) ?_
    simp [b152_0, clip_t, t0, t1, t5, apF]
    exact hx
  | succ k ih =>
    intro i τ G hi hx t0 t1 t5
    have hlt : i < L.length := by omega
    have hi0 : (0 : Int) ≤ i := by omega
    have hw : IntKind.wrap .i64 ((i : Int) + 1) = ((i + 1 : Nat) : Int) := wrap64 (by omega) (by omega)
    have x1 : Ext B (G.room 23) := hx.room 23
    obtain ⟨b, o, c, e0, _, q0, _⟩ := (hv.ext x1).at hlt
    have q1 := q0 0 (by decide)
    simp at q1
    obtain ⟨-, v', e7, h7⟩ := (hv.ext x1).take (k := .i64) (o := i) (by omega)
    obtain ⟨v'', e8, h8⟩ := ((hv.ext x1).take (k := .i64) (o := i) (by omega)).1
    simp only [rowsI_sz] at e8
    rw [e0] at e8
    have e9 := among_ok' orc h8 (by simp; omega) L[i]
    have hg : (L[i]?).getD 0 = L[i] := by rw [List.getElem?_eq_getElem hlt]; rfl
    simp only [apF, apC, hg]
    refine Wp.lp (l152_0 (exL_ok Q orc)) ?_
    by_cases c1 : L[i] < 0
    · have c1' : ¬ 0 ≤ L[i] := by omega
      simp [-Int.natCast_add, b152_0, clip_t, t0, t1, t5, e0, hlt, hi0, q1, c1, c1']
      exact x1
    have c1' : 0 ≤ L[i] := by omega
    by_cases c2 : n ≤ L[i]
    · have c2' : ¬ L[i] < n := by omega
      simp [-Int.natCast_add, b152_0, clip_t, t0, t1, t5, e0, hlt, hi0, q1, c1, c2, c2']
      exact x1
    have c2' : L[i] < n := by omega
    by_cases c3 : L[i] ∈ L.take i
    · simp only [c3, decide_true] at e9
      simp [-Int.natCast_add, b152_0, clip_t, t0, t1, t5, e0, hlt, hi0, q1, c1, c2, e8, e9, c3]
      exact x1
    · simp only [c3, decide_false] at e9
      simp [-Int.natCast_add, b152_0, clip_t, t0, t1, t5, e0, hlt, hi0, q1, c1, c2, e8, e9, c3, hw]
      refine (ih (i + 1) _ (G.room 23) (by omega) x1 (by simp [clip_t, e0]) (by simp [clip_t]) (by simp [clip_t])).mono ?_
      rintro q ⟨h1, h2⟩
      exact ⟨h1, by simpa [c1', c2', c3] using h2⟩
theorem rapart_ok (orc : FuncId → Bool) {L : List Int} {n : Int} {v : Value} (hv : SlR (rowsI .i64) G v L) (hL : L.length < 2 ^ 40) : ∃ G', (E orc).cl 152 [v, .int .i64 n] G = some (.bool (apF L n L.length 0), G') ∧ Ext G G' := by
  have w : Wp (s152 true (exL Q orc) v (.int .i64 n) G) fun q => q.1 = .bool (apF L n L.length 0) ∧ Ext G q.2 := by
    simp [s152]
    refine Wp.bE ((rapart_lp orc (B := G) (n := n) hv hL L.length 0 _ G (by omega) (Ext.refl _) (by simp) (by simp) (by simp)).mono ?_)
    rintro ⟨e, τ, G3⟩ ⟨q1, q2⟩
    rcases q2 with ⟨rfl, q3⟩ | ⟨rfl, q3, q4⟩
    · simp [q3]; exact q1
    · simp at q3
      simp [q3, q4]; exact q1
  obtain ⟨⟨v, G'⟩, e1, rfl, h⟩ := w
  exact ⟨G', f152 (exL_ok Q orc) _ _ G _ e1, h⟩
def Ar.lim (A : Ar) : Prop := 1 ≤ A.limit ∧ A.limit ≤ 4294967295
instance (A : Ar) : Decidable A.lim := by unfold Ar.lim; exact inferInstance
def rfitsI (A : Ar) (c : Int) : Int := if c < 1 ∨ 4096 < c then 3 else if A.R.fitsIn c ∧ A.lim ∧ apF (arL A) c (arL A).length 0 = true then 0 else 2
theorem rafits_ok (orc : FuncId → Bool) (A : Ar) (c : Int) (G : GS) : ∃ G', (E orc).cl 56 [A.v, .int .i64 c] G = some (.int .i64 (rfitsI A c), G') ∧ Ext G G' := by
  have w : Wp (s56 true (exL Q orc) A.v (.int .i64 c) G) fun q => q.1 = .int .i64 (rfitsI A c) ∧ Ext G q.2 := by
    obtain ⟨G1, hG1⟩ : ∃ G1, G1 = G.push ⟨A.cells, 1, false, 1⟩ := ⟨_, rfl⟩
    have x1 : Ext G G1 := by rw [hG1]; exact (Ext.refl G).push _
    have o1 : G1.obj G.nx = some ⟨A.cells, 1, false, 1⟩ := by rw [hG1]; simp
    have n1 : G1.nx = G.nx + 1 := by rw [hG1]; rfl
    unfold rfitsI
    by_cases c1 : c < 1
    · simp [s56, ← hG1, c1]; exact x1
    by_cases c2 : 4096 < c
    · simp [s56, ← hG1, c1, c2]; exact x1
    obtain ⟨G2, e2, x2⟩ := rsfits_ok orc A.R c G1
    have o2 := (x2.obj _ (by omega)).trans o1
    have y2 := x1.trans x2
    unfold sfitsI at e2
    rw [if_neg (by omega)] at e2
    by_cases h0 : A.R.fitsIn c
    · rw [if_pos h0] at e2
      unfold Ar.lim
      by_cases h1 : A.limit < 1
      · have : ¬ 1 ≤ A.limit := by omega
        simp [s56, ← hG1, c1, c2, o1, e2, o2, h0, h1, this]; exact y2
      have h1' : 1 ≤ A.limit := by omega
      by_cases h2 : 4294967295 < A.limit
      · have : ¬ A.limit ≤ 4294967295 := by omega
        simp [s56, ← hG1, c1, c2, o1, e2, o2, h0, h1, h2, this]; exact y2
      have h2' : A.limit ≤ 4294967295 := by omega
      obtain ⟨v, G3, e3, x3, w3⟩ := rcells_ok orc (A := A) h0.1.1 h0.1.2 G2
      have hlen : (arL A).length < 2 ^ 40 := by
        simp only [arL, List.length_cons, arN_length]
        have := h0.1.2
        simp only at this
        omega
      obtain ⟨G4, e4, x4⟩ := rapart_ok orc (n := c) w3.is hlen
      have y4 := (y2.trans x3).trans x4
      cases h3 : apF (arL A) c (arL A).length 0 with
      | true =>
        rw [h3] at e4
        simp [s56, ← hG1, c1, c2, o1, e2, o2, h0, h1, h2, h1', h2', e3, e4]; exact y4
      | false =>
        rw [h3] at e4
        simp [s56, ← hG1, c1, c2, o1, e2, o2, h0, h1, h2, h1', h2', e3, e4]; exact y4
    · rw [if_neg h0] at e2
      simp [s56, ← hG1, c1, c2, o1, e2, o2, h0]; exact y2
  obtain ⟨⟨v, G'⟩, e1, rfl, h⟩ := w
  exact ⟨G', f56 (exL_ok Q orc) _ _ G _ e1, h⟩
end
end Go.Proofs.YtdohlgkmaeipjaaGreat.Lift

set_option linter.unusedVariables false
set_option linter.unusedSimpArgs false
set_option maxRecDepth 20000
namespace Go.Proofs.YtdohlgkmaeipjaaGreat.Lift
open Go Go.Proofs.YtdohlgkmaeipjaaGreat.Gh Go.Proofs
/-! ### Where an arena may be: the program's answer -/
/-- a row of cells is taken; none: one was taken before -/
def markB (T : List Bool) (f : Nat) : Nat → Option (List Bool)
  | 0 => some T
  | k + 1 => if (T[f]?).getD false = true then none else markB (T.set f true) (f + 1) k
theorem markB_len : ∀ (k f : Nat) (T T' : List Bool), markB T f k = some T' → T'.length = T.length
  | 0, f, T, T', h => by simp only [markB, Option.some.injEq] at h; rw [h]
  | k + 1, f, T, T', h => by
    simp only [markB] at h
    split at h
    · cases h
    · rw [markB_len k _ _ _ h, List.length_set]
theorem markB_none : ∀ (k f : Nat) (T : List Bool), f + k ≤ T.length → (markB T f k = none ↔ ∃ j, f ≤ j ∧ j < f + k ∧ T[j]? = some true)
  | 0, f, T, _ => by
    simp only [markB]
    constructor
    · intro h; cases h
    · rintro ⟨j, h1, h2, _⟩; omega
  | k + 1, f, T, hl => by
    have hf : f < T.length := by omega
    simp only [markB]
    split
    · rename_i h
      refine ⟨fun _ => ⟨f, Nat.le_refl _, by omega, ?_⟩, fun _ => rfl⟩
      rw [List.getElem?_eq_getElem hf] at h ⊢
      simpa using h
    · rename_i h
      rw [markB_none k (f + 1) _ (by simp; omega)]
      constructor
      · rintro ⟨j, h1, h2, h3⟩
        refine ⟨j, by omega, by omega, ?_⟩
        rwa [List.getElem?_set_ne (by omega)] at h3
      · rintro ⟨j, h1, h2, h3⟩
        by_cases hj : j = f
        · subst hj; rw [h3] at h; simp at h
        · exact ⟨j, by omega, by omega, by rwa [List.getElem?_set_ne (by omega)]⟩
theorem markB_some : ∀ (k f : Nat) (T T' : List Bool), f + k ≤ T.length → markB T f k = some T' → ∀ j, T'[j]? = if f ≤ j ∧ j < f + k then some true else T[j]?
  | 0, f, T, T', _, h, j => by simp only [markB, Option.some.injEq] at h; rw [h, if_neg (by omega)]
  | k + 1, f, T, T', hl, h, j => by
    simp only [markB] at h
    split at h
    · cases h
    · rw [markB_some k (f + 1) _ _ (by simp; omega) h j]
      by_cases hj : j = f
      · subst hj; rw [if_neg (by omega), if_pos (by omega), List.getElem?_set_self (by omega)]
      · rw [List.getElem?_set_ne (by omega)]
        by_cases h1 : f + 1 ≤ j ∧ j < f + 1 + k
        · rw [if_pos h1, if_pos (by omega)]
        · rw [if_neg h1, if_neg (by omega)]
section
variable {G B : GS} {A : Ar} {c : Int}
theorem counted_ok (orc : FuncId → Bool) (f n : Int) (G : GS) : (E orc).cl 168 [.int .i64 f, .int .i64 n] G = some (.func (.func 255) #[] #[P0 (G.nx + 2), P0 (G.nx + 1), P0 G.nx], (((G.push ⟨[.int .i64 f], 1, false, 1⟩).push ⟨[.int .i64 n], 1, false, 1⟩).push ⟨[.int .i64 0], 1, false, 1⟩).put (G.nx + 2) ⟨[.int .i64 0], 1, false, 1⟩) := by
  refine f168 (exL_ok Q orc) _ _ G _ ?_
  simp [s168]
  try rfl
theorem next_end (orc : FuncId → Bool) {G : GS} {a b d : Nat} {k n : Int} (ha : G.obj a = some ⟨[.int .i64 k], 1, false, 1⟩) (hb : G.obj b = some ⟨[.int .i64 n], 1, false, 1⟩) (h : n ≤ k) : (E orc).cl 255 [P0 a, P0 b, P0 d] G = some (.int .i64 (-1), G) := by
  refine f255 (exL_ok Q orc) _ _ _ G _ ?_
  simp [s255, ha, hb, h]
theorem next_go (orc : FuncId → Bool) {G : GS} {a b d : Nat} {k n f : Int} (ha : G.obj a = some ⟨[.int .i64 k], 1, false, 1⟩) (hb : G.obj b = some ⟨[.int .i64 n], 1, false, 1⟩) (hd : G.obj d = some ⟨[.int .i64 f], 1, false, 1⟩) (had : d ≠ a) (h : k < n) (h0 : 0 ≤ k) (hn : n ≤ 4096) (hf : 0 ≤ f ∧ f ≤ 4096) :
    (E orc).cl 255 [P0 a, P0 b, P0 d] G = some (.int .i64 (f + k), G.put a ⟨[.int .i64 (k + 1)], 1, false, 1⟩) := by
  refine f255 (exL_ok Q orc) _ _ _ G _ ?_
  have h1 : ¬ n ≤ k := by omega
  have w1 : IntKind.wrap .i64 (k + 1) = k + 1 := wrap64 (by omega) (by omega)
  have w2 : IntKind.wrap .i64 (f + (k + 1)) = f + (k + 1) := wrap64 (by omega) (by omega)
  have w3 : IntKind.wrap .i64 (f + (k + 1) - 1) = f + k := by rw [show f + (k + 1) - 1 = f + k by omega]; exact wrap64 (by omega) (by omega)
  simp [s255, ha, hb, hd, h1, w1, w2, w3, had]
abbrev clo (a b d : Nat) : Value := .func (.func 255) #[] #[P0 a, P0 b, P0 d]
theorem bools_set (T : List Bool) (f : Nat) (v : Bool) : (T.map Value.bool).set f (.bool v) = (T.set f v).map Value.bool := by rw [List.map_set]
/-- one row's cells are taken -/
theorem mark_lp (orc : FuncId → Bool) {tb a b d : Nat} {f : Nat} {n : Nat} {C : Nat} (hC : C ≤ 4096) (hfn : f + n ≤ C) (hab : b ≠ a) (had : d ≠ a) (hta : tb ≠ a) (htb : tb ≠ b) (htd : tb ≠ d) : ∀ (k j : Nat) (T : List Bool) (τ : Env) (G : GS), j + k = n → T.length = C →
    τ 5 = .slice (some ⟨tb, 0, none⟩) C C → τ 7 = clo a b d → τ 8 = .int .i64 (if k = 0 then -1 else f + j) → G.obj a = some ⟨[.int .i64 (if k = 0 then (j : Int) else j + 1)], 1, false, 1⟩ → G.obj b = some ⟨[.int .i64 n], 1, false, 1⟩ → G.obj d = some ⟨[.int .i64 f], 1, false, 1⟩ → G.obj tb = some ⟨T.map Value.bool, 1, false, 1⟩ →
    Wp ((exL Q orc).lpx 55 1 τ G) fun q => ModP (fun x => x = tb ∨ x = a) G q.2.2 ∧ q.2.1 79 = τ 79 ∧ q.2.1 80 = τ 80 ∧ q.2.1 81 = τ 81 ∧ q.2.1 5 = τ 5 ∧ ((q.1 = .exit 2 ∧ ∃ T', markB T (f + j) k = some T' ∧ q.2.2.obj tb = some ⟨T'.map Value.bool, 1, false, 1⟩) ∨ (q.1 = .ret ∧ q.2.1 4 = .int .i64 2 ∧ markB T (f + j) k = none)) := by
  intro k
  induction k with
  | zero =>
    intro j T τ G hj hT t5 t7 t8 oa ob od ot
    refine Wp.lp (l55_1 (exL_ok Q orc)) ?_
    simp at t8
    simp [b55_1, clip_t, t5, t7, t8, markB]
    exact ⟨ModP.refl _ _, ot⟩
  | succ k ih =>
    intro j T τ G hj hT t5 t7 t8 oa ob od ot
    simp at t8 oa
    have h0 : (0 : Int) ≤ (f : Int) + j := by omega
    have hlt : f + j < C := by omega
    have hlt' : (f : Int) + j < C := by omega
    have hT' : f + j < T.length := by omega
    have hcell : G.obj tb = some ⟨T.map Value.bool, 1, false, 1⟩ := ot
    have hget : (T.map Value.bool)[f + j]? = some (.bool ((T[f + j]?).getD false)) := by rw [List.getElem?_map, List.getElem?_eq_getElem hT']; rfl
    have hget' : ∀ h : f + j < (T.map Value.bool).length, (T.map Value.bool)[f + j] = .bool ((T[f + j]?).getD false) := fun h => by rw [List.getElem?_eq_getElem h] at hget; exact Option.some.inj hget
    have hlen : f + j < (T.map Value.bool).length := by simpa using hT'
    have hset := bools_set T (f + j) true
    have htn : ((f : Int) + j).toNat = f + j := by omega
    simp only [markB]
    generalize hx : (T[f + j]?).getD false = x at *
    generalize hcs : T.map Value.bool = cs at *
    refine Wp.lp (l55_1 (exL_ok Q orc)) ?_
    cases x with
    | true =>
      simp [-Int.natCast_add, b55_1, clip_t, t5, t7, t8, h0, hlt', htn, ot, hget, hget', hlen]
      exact ModP.refl _ _
    | false =>
      have oa' : (G.put tb ⟨(T.set (f + j) true).map Value.bool, 1, false, 1⟩).obj a = some ⟨[.int .i64 (j + 1)], 1, false, 1⟩ := by rw [obj_put, if_neg hta.symm]; exact oa
      have ob' : (G.put tb ⟨(T.set (f + j) true).map Value.bool, 1, false, 1⟩).obj b = some ⟨[.int .i64 n], 1, false, 1⟩ := by rw [obj_put, if_neg htb.symm]; exact ob
      have od' : (G.put tb ⟨(T.set (f + j) true).map Value.bool, 1, false, 1⟩).obj d = some ⟨[.int .i64 f], 1, false, 1⟩ := by rw [obj_put, if_neg htd.symm]; exact od
      by_cases hk : k = 0
      · subst hk
        have e1 := next_end orc (d := d) oa' ob' (by omega)
        simp [-Int.natCast_add, -List.map_set, b55_1, clip_t, t5, t7, t8, h0, hlt', htn, ot, hget, hget', hlen, hset, e1]
        refine (ih (j + 1) (T.set (f + j) true) _ _ (by omega) (by simpa using hT) (by simp [clip_t]) (by simp [clip_t]) (by simp [clip_t]) (by rw [oa']; rfl) ob' od' (by simp)).mono ?_
        rintro q ⟨q1, q2, q3, q4, q5, q6⟩
        refine ⟨((ModP.refl _ G).put (.inl (.inl rfl)) _).trans (q1.mono fun x hx => .inl hx), by rw [q2]; simp [clip_t], by rw [q3]; simp [clip_t], by rw [q4]; simp [clip_t], by rw [q5]; simp [clip_t, t5], ?_⟩
        simpa [Nat.add_assoc] using q6
      · have e1 := next_go orc oa' ob' od' had (by omega) (by omega) (by omega) (by omega)
        have hk' : ¬ (if k = 0 then True else False) := by simp [hk]
        simp [-Int.natCast_add, -List.map_set, b55_1, clip_t, t5, t7, t8, h0, hlt', htn, ot, hget, hget', hlen, hset, e1]
        refine (ih (j + 1) (T.set (f + j) true) _ _ (by omega) (by simpa using hT) (by simp [clip_t]) (by simp [clip_t]) (by simp [clip_t, hk]) (by simp [hk]) (by rw [obj_put, if_neg hab]; exact ob') (by rw [obj_put, if_neg had]; exact od') (by rw [obj_put, if_neg hta]; simp)).mono ?_
        rintro q ⟨q1, q2, q3, q4, q5, q6⟩
        refine ⟨(((ModP.refl _ G).put (.inl (.inl rfl)) _).put (.inl (.inr rfl)) _).trans (q1.mono fun x hx => .inl hx), by rw [q2]; simp [clip_t], by rw [q3]; simp [clip_t], by rw [q4]; simp [clip_t], by rw [q5]; simp [clip_t, t5], ?_⟩
        simpa [Nat.add_assoc] using q6
end
end Go.Proofs.YtdohlgkmaeipjaaGreat.Lift

