/- contracts of the program's functions -/
import Derived.Test.YtaanpcoglijohaaGreatMG
import Derived.Test.YtaanpcoglijohaaGreatMD
import Derived.Test.YtaanpcoglijohaaGreatGhLS
set_option linter.unusedVariables false
set_option linter.unusedSimpArgs false
set_option maxRecDepth 20000
namespace Go.Proofs.YtaanpcoglijohaaGreat.Lift
open Go Go.Proofs.YtaanpcoglijohaaGreat.Gh Go.Proofs
/-! ### What is in mailboxes -/
def mallI (x : MB) (c : Int) (s : MS) : List Int := if x.placed ∧ 0 ≤ c ∧ c < x.cores then allI (x.rg c) s else []
def emptyN (x : MB) (s : MS) : Nat → Nat → Bool
  | 0, _ => true
  | k + 1, i => (allI (x.rg i) s).isEmpty && emptyN x s k (i + 1)
section
variable {own : Nat → Nat} {G : GS} {m r : Nat} {s : MS}
theorem mall_ok (orc : FuncId → Bool) (h : PM own G m s) (hs : s.ok) (x : MB) (c : Int) : ∃ v G', (E orc).cl 19 [x.v, .int .i64 c, P0 m] G = some (v, G') ∧ Ext G G' ∧ OwR (rowsI .i64) G.nx G' v (mallI x c s) := by
  obtain ⟨G1, hG1⟩ : ∃ G1, G1 = G.push ⟨x.cells, 1, false, 1⟩ := ⟨_, rfl⟩
  have x1 : Ext G G1 := by rw [hG1]; exact (Ext.refl G).push _
  have o1 : G1.obj G.nx = some ⟨x.cells, 1, false, 1⟩ := by rw [hG1]; simp
  obtain ⟨G2, e2, x2⟩ := mbox_ok orc x c G1
  have y2 := x1.trans x2
  unfold mallI MB.box at *
  by_cases hc : x.placed ∧ 0 ≤ c ∧ c < x.cores
  · rw [if_pos hc] at e2 ⊢
    obtain ⟨G3, hG3⟩ : ∃ G3, G3 = (G2.push ⟨zR, 1, false, 1⟩).put G2.nx ⟨x.ring c, 1, false, 1⟩ := ⟨_, rfl⟩
    have x3 : Ext G G3 := by rw [hG3]; exact (y2.push _).put y2.nx _
    have p3 : G3.obj G2.nx = some ⟨x.ring c, 1, false, 1⟩ := by rw [hG3]; simp
    obtain ⟨v, G4, e4, x4, w4⟩ := all_ok orc (PMx.ext h x3) hs (x.rg c)
    have e4' : (E orc).cl 65 [.agg ⟨x.ring c⟩, P0 m] G3 = some (v, G4) := e4
    unfold MB.ring at e2 hG3 p3 e4'
    refine ⟨v, G4, f19 (exL_ok Q orc) _ _ _ G _ ?_, x3.trans x4, w4.mono x3.nx⟩
    simp [s19, ← hG1, o1, e2, splice_put, splice_end, ← hG3, p3, e4']
  · rw [if_neg hc] at e2 ⊢
    refine ⟨.slice none 0 0, (G2.push ⟨zR, 1, false, 1⟩).put G2.nx ⟨zR, 1, false, 1⟩, f19 (exL_ok Q orc) _ _ _ G _ ?_, (y2.push _).put y2.nx _, OwR.nil _ _⟩
    simp [s19, ← hG1, o1, e2, splice_put, splice_end]
theorem rmall_ok (orc : FuncId → Bool) (h : RM own G r s) (hs : s.ok) (x : MB) (c : Int) : ∃ v G', (E orc).cl 22 [x.v, .int .i64 c, P0 r] G = some (v, G') ∧ Ext G G' ∧ OwR (rowsI .i64) G.nx G' v (mallI x c s) := by
  obtain ⟨G1, hG1⟩ : ∃ G1, G1 = G.push ⟨x.cells, 1, false, 1⟩ := ⟨_, rfl⟩
  have x1 : Ext G G1 := by rw [hG1]; exact (Ext.refl G).push _
  have o1 : G1.obj G.nx = some ⟨x.cells, 1, false, 1⟩ := by rw [hG1]; simp
  obtain ⟨G2, e2, x2⟩ := rbox_ok orc x c G1
  have y2 := x1.trans x2
  unfold mallI MB.box at *
  by_cases hc : x.placed ∧ 0 ≤ c ∧ c < x.cores
  · rw [if_pos hc] at e2 ⊢
    obtain ⟨G3, hG3⟩ : ∃ G3, G3 = (G2.push ⟨zR, 1, false, 1⟩).put G2.nx ⟨x.ring c, 1, false, 1⟩ := ⟨_, rfl⟩
    have x3 : Ext G G3 := by rw [hG3]; exact (y2.push _).put y2.nx _
    have p3 : G3.obj G2.nx = some ⟨x.ring c, 1, false, 1⟩ := by rw [hG3]; simp
    obtain ⟨v, G4, e4, x4, w4⟩ := rall_ok orc (h.ext x3) hs (x.rg c)
    have e4' : (E orc).cl 71 [.agg ⟨x.ring c⟩, P0 r] G3 = some (v, G4) := e4
    unfold MB.ring at e2 hG3 p3 e4'
    refine ⟨v, G4, f22 (exL_ok Q orc) _ _ _ G _ ?_, x3.trans x4, w4.mono x3.nx⟩
    simp [s22, ← hG1, o1, e2, splice_put, splice_end, ← hG3, p3, e4']
  · rw [if_neg hc] at e2 ⊢
    refine ⟨.slice none 0 0, (G2.push ⟨zR, 1, false, 1⟩).put G2.nx ⟨zR, 1, false, 1⟩, f22 (exL_ok Q orc) _ _ _ G _ ?_, (y2.push _).put y2.nx _, OwR.nil _ _⟩
    simp [s22, ← hG1, o1, e2, splice_put, splice_end]
end
/-! is anything in any of them? the document -/
section
variable {own : Nat → Nat} {A G : GS} {m r xb : Nat} {s : MS} {x : MB}
theorem rempty_lp (orc : FuncId → Bool) (h : RM own A r s) (hs : s.ok) (hx : x.placed) (lx : xb < A.nx) (ox : A.obj xb = some ⟨x.cells, 1, false, 1⟩) : ∀ (k i : Nat) (τ : Env) (G : GS), (i : Int) + k = x.cores → τ 1 = P0 r → τ 2 = P0 xb → τ 5 = .int .i64 i → Ext A G →
    Wp ((exL Q orc).lpx 24 0 τ G) fun q => Ext A q.2.2 ∧ ((q.1 = .exit 0 ∧ emptyN x s k i = true) ∨ (q.1 = .ret ∧ emptyN x s k i = false ∧ q.2.1 4 = .bool false)) := by
  intro k
  induction k with
  | zero =>
    intro i τ G hi t1 t2 t5 y
    have o1 := (y.obj xb lx).trans ox
    refine Wp.lp (l24_0 (exL_ok Q orc)) ?_
    have hi' : ¬ (i : Int) < x.cores := by omega
    simp [-Int.natCast_add, b24_0, clip_t, t1, t2, t5, o1, hi', emptyN]
    exact y
  | succ k ih =>
    intro i τ G hi t1 t2 t5 y
    have o1 := (y.obj xb lx).trans ox
    refine Wp.lp (l24_0 (exL_ok Q orc)) ?_
    have hi' : (i : Int) < x.cores := by omega
    have hc := hx.1.2.1
    have hw : IntKind.wrap .i64 ((i : Int) + 1) = ((i + 1 : Nat) : Int) := wrap64 (by omega) (by omega)
    obtain ⟨G2, e2, x2⟩ := mright_ok orc x G
    simp only [hx.1, decide_true] at e2
    have y2 := y.trans x2
    have o2 := (y2.obj xb lx).trans ox
    obtain ⟨v, G3, e3, x3, w3⟩ := rmall_ok orc (h.ext y2) hs x i
    have y3 := y2.trans x3
    have hall : mallI x i s = allI (x.rg i) s := by unfold mallI; rw [if_pos ⟨hx, by omega, by omega⟩]
    rw [hall] at w3
    obtain ⟨a, c, hv⟩ := w3.is.len
    have hln : ∀ ty, ln Q true ty v = some (.int .i64 (allI (x.rg i) s).length) := fun ty => by rw [hv]; simp
    have one3 := own_one w3
    by_cases hn : allI (x.rg i) s = []
    · have h0 : ¬ (0 : Int) < (allI (x.rg i) s).length := by rw [hn]; simp
      have hp : ¬ 0 < (allI (x.rg i) s).length := by rw [hn]; simp
      have he : emptyN x s (k + 1) i = emptyN x s k (i + 1) := by simp [emptyN, hn]
      rw [he]
      simp [-Int.natCast_add, b24_0, clip_t, t1, t2, t5, o1, hi', e2, o2, e3, hln, h0, hp, hw]
      refine Wp.mono (ih (i + 1) _ G3 (by omega) ?_ ?_ ?_ y3) fun q hq => ?_
      · simp [clip_t]
      · simp [clip_t]
      · simp [clip_t]
      · simpa using hq
    · have hp : 0 < (allI (x.rg i) s).length := List.length_pos_iff.2 hn
      have h0 : (0 : Int) < (allI (x.rg i) s).length := by omega
      have he : emptyN x s (k + 1) i = false := by simp [emptyN, hn]
      rw [he]
      simp [-Int.natCast_add, b24_0, clip_t, t1, t2, t5, o1, hi', e2, o2, e3, hln, h0, hw, hp]
      exact y3
theorem rmempty_ok (orc : FuncId → Bool) (h : RM own G r s) (hs : s.ok) (hx : x.placed) : ∃ G', (E orc).cl 24 [x.v, P0 r] G = some (.bool (emptyN x s x.cores.toNat 0), G') ∧ Ext G G' := by
  obtain ⟨G1, hG1⟩ : ∃ G1, G1 = G.push ⟨x.cells, 1, false, 1⟩ := ⟨_, rfl⟩
  have x1 : Ext G G1 := by rw [hG1]; exact (Ext.refl G).push _
  have n1 : G1.nx = G.nx + 1 := by rw [hG1]; rfl
  have o1 : G1.obj G.nx = some ⟨x.cells, 1, false, 1⟩ := by rw [hG1]; simp
  have hc := hx.1.1
  have w : Wp (s24 true (exL Q orc) x.v (P0 r) G) fun q => q.1 = .bool (emptyN x s x.cores.toNat 0) ∧ Ext G q.2 := by
    simp [s24, ← hG1]
    refine Wp.bE ((rempty_lp orc (h.ext x1) hs hx (xb := G.nx) (by omega) o1 x.cores.toNat 0 _ G1 (by omega) (by simp) (by simp) (by simp) (Ext.refl _)).mono ?_)
    rintro ⟨e, τ, G'⟩ ⟨y, (⟨rfl, h1⟩ | ⟨rfl, h1, h2⟩)⟩
    · simp [h1]; exact x1.trans y
    · simp only at h2
      simp [h1, h2]; exact x1.trans y
  obtain ⟨⟨v, G'⟩, e1, rfl, y⟩ := w
  exact ⟨G', f24 (exL_ok Q orc) _ _ G _ e1, y⟩
end
end Go.Proofs.YtaanpcoglijohaaGreat.Lift

set_option linter.unusedVariables false
set_option linter.unusedSimpArgs false
set_option maxRecDepth 20000
namespace Go.Proofs.YtaanpcoglijohaaGreat.Lift
open Go Go.Proofs.YtaanpcoglijohaaGreat.Gh Go.Proofs
/-! ### Is anything in any mailbox? the program looks through all -/
noncomputable abbrev lpY (T : List Value) : Lp := ⟨.ready, none, T, [12, 13], (subAt [1, 1, 0, 1, 0, 0] (bodyOf Tryz.f23)), (subAt [1, 1, 0, 1, 0, 1] (bodyOf Tryz.f23))⟩
structure YS (x : MB) (A : GS) (l xb mb bb m : Nat) (T : List Value) (G : GS) : Prop where
  ext : Ext A G
  lp : G.loop l = some (lpY T)
  nl : A.nl ≤ l
  ll : l < G.nl
  ox : G.obj xb = some ⟨x.cells, 1, false, 1⟩
  om : G.obj mb = some ⟨[P0 m], 1, false, 1⟩
  ob : G.obj bb = some ⟨[.bool false], 1, false, 1⟩
  lx : A.nx ≤ xb ∧ xb < G.nx
  lm : A.nx ≤ mb ∧ mb < G.nx
  lb : A.nx ≤ bb ∧ bb < G.nx
structure YF (A : GS) (l bb : Nat) (T : List Value) (G : GS) : Prop where
  ext : Ext A G
  lp : G.loop l = some { lpY T with st := .done, pend := some .ret }
  nl : A.nl ≤ l
  ob : G.obj bb = some ⟨[.bool false], 1, false, 1⟩
section
variable {own : Nat → Nat} {A G : GS} {m l xb mb bb : Nat} {s : MS} {x : MB} {T : List Value}
inductive YE (x : MB) (A : GS) (s : MS) (l xb mb bb m : Nat) (T : List Value) (k i : Nat) (e : Exit) (G : GS) : Prop
  | no : e = .exit 0 → emptyN x s k i = true → YS x A l xb mb bb m T G → YE x A s l xb mb bb m T k i e G
  | yes : e = .ret → emptyN x s k i = false → YF A l bb T G → YE x A s l xb mb bb m T k i e G
theorem y_round (orc : FuncId → Bool) {i : Int} (hT : T.length = 19) (t3 : nth undef T 3 = P0 mb) (t4 : nth undef T 4 = P0 bb) (hm : PM own A m s) (hs : s.ok) (h : YS x A l xb mb bb m T G) (R : Rg) :
    Wp ((E orc).rd l [.int .i64 i, R.v] G) fun q => (allI R s = [] → q.1 = .bool true ∧ YS x A l xb mb bb m T q.2) ∧ (allI R s ≠ [] → q.1 = .bool false ∧ YF A l bb T q.2) := by
  refine Wp.ref (d23_0 (exL_ok Q orc) l T _ _ G h.lp hT) ?_
  obtain ⟨G1, hG1⟩ : ∃ G1, G1 = ((G.push ⟨zR, 1, false, 1⟩).put G.nx ⟨R.cells, 1, false, 1⟩) := ⟨_, rfl⟩
  have x1 : Ext G G1 := by rw [hG1]; exact ((Ext.refl G).push _).put (Nat.le_refl _) _
  have l1 : G1.loop l = some (lpY T) := by rw [hG1]; simpa using h.lp
  have nl1 : G1.nl = G.nl := by rw [hG1]; rfl
  have on1 : G1.obj G.nx = some ⟨R.cells, 1, false, 1⟩ := by rw [hG1]; simp
  have n1 : G1.nx = G.nx + 1 := by rw [hG1]; rfl
  obtain ⟨G2, hG2⟩ : ∃ G2, G2 = G1.putLoop l (Lp.setSt (lpY T) .busy) := ⟨_, rfl⟩
  have n2 : G2.nx = G.nx + 1 := by rw [hG2, nx_putLoop, n1]
  have y2 : Ext A G2 := by rw [hG2]; exact (h.ext.trans x1).putLoop h.nl _
  have l2 : G2.loop l = some (Lp.setSt (lpY T) .busy) := by rw [hG2]; simp
  have nl2 : G2.nl = G.nl := by rw [hG2]; exact nl1
  have ob2 : ∀ b, b < G.nx → G2.obj b = G.obj b := fun b hb => by rw [hG2]; simp only [obj_putLoop]; exact x1.obj b hb
  obtain ⟨v, G3, e3, x3, w3⟩ := all_ok orc (PMx.ext hm y2) hs R
  have y3 := y2.trans x3
  have l3 : G3.loop l = some (Lp.setSt (lpY T) .busy) := (x3.loop l (by rw [nl2]; exact h.ll)).trans l2
  have nl3 := x3.nl
  have n3 := x3.nx
  have ll := h.ll
  have lx := h.lx
  have lm := h.lm
  have lb := h.lb
  obtain ⟨a, c, hv⟩ := w3.is.len
  have hln : ∀ ty, ln Q true ty v = some (.int .i64 (allI R s).length) := fun ty => by rw [hv]; simp
  have one3 := own_one w3
  have om1 := (x1.obj mb h.lm.2).trans h.om
  have ox3 := (x3.obj xb (by omega)).trans ((ob2 xb (by omega)).trans h.ox)
  have om3 := (x3.obj mb (by omega)).trans ((ob2 mb (by omega)).trans h.om)
  have ob3 := (x3.obj bb (by omega)).trans ((ob2 bb (by omega)).trans h.ob)
  by_cases hn : allI R s = []
  · have h0 : ¬ (0 : Int) < (allI R s).length := by rw [hn]; simp
    have hp : ¬ 0 < (allI R s).length := by rw [hn]; simp
    have hrd : roundEnd l .normal G3 = some (.bool true, G3.putLoop l (lpY T)) := by
      rw [roundEnd_some l .normal _ (j := none) rfl l3]
      rfl
    refine Wp.mono (Q := fun q => q = (.bool true, G3.putLoop l (lpY T))) ?_ ?_
    · simp [r23_0, t3, t4, ← hG1, splice_put, splice_end]
      simp [l1, ← hG2, on1, om1, e3, hln, h0, hp, hrd]
    · rintro _ rfl
      exact ⟨fun _ => ⟨rfl, y3.putLoop h.nl _, by simp, h.nl, by show l < G3.nl; omega, by simpa using ox3, by simpa using om3, by simpa using ob3, ⟨lx.1, by simp; omega⟩, ⟨lm.1, by simp; omega⟩, ⟨lb.1, by simp; omega⟩⟩, fun h => absurd hn h⟩
  · have hp : 0 < (allI R s).length := List.length_pos_iff.2 hn
    have h0 : (0 : Int) < (allI R s).length := by omega
    obtain ⟨G4, hG4⟩ : ∃ G4, G4 = G3.put bb ⟨[.bool false], 1, false, 1⟩ := ⟨_, rfl⟩
    have l4 : G4.loop l = some (Lp.setSt (lpY T) .busy) := by rw [hG4]; simpa using l3
    have y4 : Ext A G4 := by rw [hG4]; exact y3.put lb.1 _
    have ob4 : G4.obj bb = some ⟨[.bool false], 1, false, 1⟩ := by rw [hG4]; simp
    have hrd : roundEnd l .ret G4 = some (.bool false, G4.putLoop l { lpY T with st := .done, pend := some .ret }) := by
      rw [roundEnd_some l .ret _ (j := some .ret) rfl l4]
      rfl
    refine Wp.mono (Q := fun q => q = (.bool false, G4.putLoop l { lpY T with st := .done, pend := some .ret })) ?_ ?_
    · simp [r23_0, t3, t4, ← hG1, splice_put, splice_end]
      simp [l1, ← hG2, on1, om1, e3, hln, h0, hp, ob3, ← hG4, hrd]
    · rintro _ rfl
      exact ⟨fun h => absurd h hn, fun _ => ⟨rfl, y4.putLoop h.nl _, by simp, h.nl, by simpa using ob4⟩⟩
theorem y_lp (orc : FuncId → Bool) (hT : T.length = 19) (t3 : nth undef T 3 = P0 mb) (t4 : nth undef T 4 = P0 bb) (hm : PM own A m s) (hs : s.ok) (hx : x.sized) : ∀ (k i : Nat) (τ : Env) (G : GS), (i : Int) + k = x.cores → τ 0 = .func (.yield l) #[] #[] → τ 1 = P0 xb → τ 6 = .int .i64 x.cores → τ 7 = .int .i64 i →
    YS x A l xb mb bb m T G → Wp ((exL Q orc).lpx 101 0 τ G) fun q => YE x A s l xb mb bb m T k i q.1 q.2.2 := by
  intro k
  induction k with
  | zero =>
    intro i τ G hi t0 t1 t6 t7 h
    refine Wp.lp (l101_0 (exL_ok Q orc)) ?_
    have hi' : ¬ (i : Int) < x.cores := by omega
    simp [-Int.natCast_add, b101_0, clip_t, t0, t1, t6, t7, hi']
    exact .no rfl rfl h
  | succ k ih =>
    intro i τ G hi t0 t1 t6 t7 h
    refine Wp.lp (l101_0 (exL_ok Q orc)) ?_
    have hi' : (i : Int) < x.cores := by omega
    have hx' := hx.2.1
    have hw : IntKind.wrap .i64 ((i : Int) + 1) = ((i + 1 : Nat) : Int) := wrap64 (by omega) (by omega)
    have ox := h.ox
    obtain ⟨R, hR⟩ : ∃ R, R = x.ring i := ⟨_, rfl⟩
    have hR' := hR
    unfold MB.ring at hR'
    obtain ⟨⟨v, G1⟩, e1, h1, h2⟩ := y_round orc (i := i) hT t3 t4 hm hs h (x.rg i)
    simp only at h1 h2
    by_cases hn : allI (x.rg i) s = []
    · obtain ⟨rfl, h3⟩ := h1 hn
      have e1' : (E orc).rd l [.int .i64 i, .agg ⟨R⟩] G = some (.bool true, G1) := by rw [hR]; exact e1
      have he : emptyN x s (k + 1) i = emptyN x s k (i + 1) := by simp [emptyN, hn]
      simp [-Int.natCast_add, b101_0, clip_t, t0, t1, t6, t7, hi', ox, ← hR', e1', hw]
      refine (ih (i + 1) _ G1 (by omega) (by simp [clip_t]) (by simp [clip_t]) (by simp [clip_t]) (by simp [clip_t]) h3).mono ?_
      rintro q (⟨r1, r2, r3⟩ | ⟨r1, r2, r3⟩)
      · exact .no r1 (he.trans r2) r3
      · exact .yes r1 (he.trans r2) r3
    · obtain ⟨rfl, h3⟩ := h2 hn
      have e1' : (E orc).rd l [.int .i64 i, .agg ⟨R⟩] G = some (.bool false, G1) := by rw [hR]; exact e1
      have he : emptyN x s (k + 1) i = false := by simp [emptyN, hn]
      simp [-Int.natCast_add, b101_0, clip_t, t0, t1, t6, t7, hi', ox, ← hR', e1', hw]
      exact .yes rfl he h3
theorem mempty_ok (orc : FuncId → Bool) (h : PM own G m s) (hs : s.ok) (hx : x.placed) : ∃ G', (E orc).cl 23 [x.v, P0 m] G = some (.bool (emptyN x s x.cores.toNat 0), G') ∧ Ext G G' := by
  obtain ⟨G1, hG1⟩ : ∃ G1, G1 = ((G.push ⟨x.cells, 1, false, 1⟩).push ⟨[P0 m], 1, false, 1⟩).push ⟨[.bool false], 1, false, 1⟩ := ⟨_, rfl⟩
  have x1 : Ext G G1 := by rw [hG1]; exact (((Ext.refl G).push _).push _).push _
  have o1 : G1.obj G.nx = some ⟨x.cells, 1, false, 1⟩ := by rw [hG1]; simp [Nat.add_assoc]
  have p1 : G1.obj (G.nx + 1) = some ⟨[P0 m], 1, false, 1⟩ := by rw [hG1]; simp [Nat.add_assoc]
  have b1 : G1.obj (G.nx + 2) = some ⟨[.bool false], 1, false, 1⟩ := by rw [hG1]; simp [Nat.add_assoc]
  have n1 : G1.nx = G.nx + 3 := by rw [hG1]; rfl
  obtain ⟨G2, e2, x2⟩ := mplaced_ok orc x G1
  have y2 := x1.trans x2
  have n2 := x2.nx
  have o2 := (x2.obj G.nx (by omega)).trans o1
  have p2 := (x2.obj (G.nx + 1) (by omega)).trans p1
  have b2 := (x2.obj (G.nx + 2) (by omega)).trans b1
  simp only [hx, decide_true] at e2
  have w : Wp (s23 true (exL Q orc) x.v (P0 m) G) fun q => q.1 = .bool (emptyN x s x.cores.toNat 0) ∧ Ext G q.2 := by
    have d1 : G.nx + 1 + 1 = G.nx + 2 := rfl
    simp [s23, ← hG1, o1, e2, o2, bclose_ok]
    generalize hTT : lst 19 (tu (nth undef _) _) = T
    have hT : T.length = 19 := by rw [← hTT]; exact length_lst 19 _
    have t3 : nth undef T 3 = P0 (G.nx + 1) := by rw [← hTT, nth_lst]; simp [clip_t]
    have t4 : nth undef T 4 = P0 (G.nx + 2) := by rw [← hTT, nth_lst]; simp [clip_t]
    clear hTT
    obtain ⟨G5, hG5⟩ : ∃ G5, G5 = (G2.push ⟨x.cells, 1, false, 1⟩).pushLoop (lpY T) := ⟨_, rfl⟩
    have x5 : Ext G G5 := by rw [hG5]; exact (y2.push _).pushLoop _
    have x5' : Ext G2 G5 := by rw [hG5]; exact ((Ext.refl G2).push _).pushLoop _
    have n5 : G5.nx = G2.nx + 1 := by rw [hG5]; rfl
    have l5 : G5.loop G2.nl = some (lpY T) := by rw [hG5]; simp
    have hS : YS x G G2.nl G2.nx (G.nx + 1) (G.nx + 2) m T G5 := ⟨x5, l5, y2.nl, by rw [hG5]; simp, by rw [hG5]; simp, (x5'.obj _ (by omega)).trans p2, (x5'.obj _ (by omega)).trans b2, ⟨by omega, by omega⟩, ⟨by omega, by omega⟩, ⟨by omega, by omega⟩⟩
    have hc := hx.1.1
    have ox := hS.ox
    have wl : Wp (s101 true (exL Q orc) (.func (.yield G2.nl) #[] #[]) (P0 G2.nx) G5) fun q => q.1 = .tuple #[] ∧ ∃ e, YE x G s G2.nl G2.nx (G.nx + 1) (G.nx + 2) m T x.cores.toNat 0 e q.2 := by
      simp [s101, ox]
      refine Wp.bE ((y_lp orc hT t3 t4 h hs hx.1 x.cores.toNat 0 _ G5 (by omega) (by simp [clip_t]) (by simp [clip_t]) (by simp [clip_t]) (by simp [clip_t]) hS).mono ?_)
      rintro ⟨e, τ, G'⟩ hE
      simp only at hE
      have hE' := hE
      rcases hE with ⟨rfl, r2, r3⟩ | ⟨rfl, r2, r3⟩
      · simp; exact ⟨_, hE'⟩
      · simp; exact ⟨_, hE'⟩
    obtain ⟨⟨v, G6⟩, e6, rfl, e, h6⟩ := wl
    have e6' := f101 (exL_ok Q orc) _ _ G5 _ e6
    rw [← hG5]
    simp only [List.nil_append, List.singleton_append, List.cons_append, e6']
    rcases h6 with ⟨rfl, r2, r3⟩ | ⟨rfl, r2, r3⟩
    · rw [xRangeEnd_some G2.nl T _ G6 r3.lp (by simp) rfl]
      have q3 := r3.ob
      simp [t4, q3, r2]
      exact (r3.ext.putLoop y2.nl _).put (by omega) _
    · rw [xRangeEnd_some G2.nl T _ G6 r3.lp (by simp) rfl]
      have q3 := r3.ob
      simp [t4, q3, r2]
      exact r3.ext.putLoop y2.nl _
  obtain ⟨⟨v, G'⟩, e1, rfl, y⟩ := w
  exact ⟨G', f23 (exL_ok Q orc) _ _ G _ e1, y⟩
end
end Go.Proofs.YtaanpcoglijohaaGreat.Lift

set_option linter.unusedVariables false
set_option linter.unusedSimpArgs false
set_option maxRecDepth 20000
namespace Go.Proofs.YtaanpcoglijohaaGreat.Lift
open Go Go.Proofs.YtaanpcoglijohaaGreat.Gh Go.Proofs
structure MAct where
  who : Int
  what : Int
  c : Int
  v : Int
def rMAct : RowE MAct := ⟨4, fun x => [.int .i64 x.who, .int .i64 x.what, .int .i64 x.c, .int .i64 x.v], fun _ => rfl, fun _ => rfl, by decide⟩
@[simp] theorem rMAct_sz : rMAct.sz = 4 := rfl
@[simp] theorem rMAct_row (x : MAct) : rMAct.row x = [.int .i64 x.who, .int .i64 x.what, .int .i64 x.c, .int .i64 x.v] := rfl
section
variable {own own' own0 : Nat → Nat} {G G' G0 B : GS} {m r cb xb : Nat} {s s' : MS} {x : MB} {O : List CoreM}
theorem puts_lp (orc : FuncId → Bool) {v2 : Value} {W : List Int} (hv : SlR (rowsI .u64) G0 v2 W) (hW : W.length < 2 ^ 40) (hi0 : ∀ x, InB v2 x → own0 x ∉ [10, 11]) : ∀ (k i : Nat) (τ : Env) (G : GS) (own : Nat → Nat) (s : MS), i + k = W.length → τ 2 = v2 → τ 11 = P0 m → τ 13 = P0 r → τ 15 = .int .i64 i →
    Agr own0 own G0 → ModT [10, 11] own0 G0 G → PM own G m s → RM own G r s →
    Wp ((exL Q orc).lpx 3 0 τ G) fun q => q.1 = .exit 0 ∧ (q.2.1 3 = τ 3 ∧ q.2.1 4 = τ 4 ∧ q.2.1 5 = τ 5 ∧ q.2.1 11 = P0 m ∧ q.2.1 13 = P0 r) ∧ ∃ own'', Agr own0 own'' G0 ∧ ModT [10, 11] own0 G0 q.2.2 ∧ PM own'' q.2.2 m (putsN (W.drop i) i s) ∧ RM own'' q.2.2 r (putsN (W.drop i) i s) := by
  intro k
  induction k with
  | zero =>
    intro i τ G own s hi t2 t11 t13 t15 ha hm h h'
    have hi' : i = W.length := by omega
    subst hi'
    obtain ⟨a, c, rfl⟩ := hv.len
    refine Wp.lp (l3_0 (exL_ok Q orc)) ?_
    simp [b3_0, clip_t, t2, t11, t13, t15, putsN]
    exact ⟨own, ha, hm, h, h'⟩
  | succ k ih =>
    intro i τ G own s hi t2 t11 t13 t15 ha hm h h'
    have hlt : i < W.length := by omega
    have hi0' : (0 : Int) ≤ i := by omega
    have hw : IntKind.wrap .i64 ((i : Int) + 1) = ((i + 1 : Nat) : Int) := wrap64 (by omega) (by omega)
    have kv : ∀ {G'}, ModT [10, 11] own0 G0 G' → SlR (rowsI .u64) G' v2 W := fun q => hv.kept q.nx fun g hg => q.same (hv.under g hg) (hi0 g hg)
    obtain ⟨b, o, c, e0, _, q0, _⟩ := (kv hm).at hlt
    have q1 := q0 0 (by decide)
    simp at q1
    refine Wp.lp (l3_0 (exL_ok Q orc)) ?_
    obtain ⟨own1, G1, e1, w1⟩ := h.store orc i W[i]
    have m1 : ModT [10, 11] own G G1 := (w1.stp.modT (i := 10) (fun _ _ h => h.elim)).mono (by simp)
    have hm1 : ModT [10, 11] own0 G0 G1 := hm.trans ha m1
    have ha1 : Agr own0 own1 G0 := ha.trans w1.stp.agr hm.nx
    obtain ⟨b', o', c', e0', _, q0', _⟩ := (kv hm1).at hlt
    have q1' := q0' 0 (by decide)
    rw [e0] at e0'
    cases e0'
    simp at q1'
    have h1' := h'.to w1.stp (by decide) fun _ _ h => h.elim
    obtain ⟨own2, G2, e2, w2⟩ := h1'.store orc i W[i]
    have m2 : ModT [10, 11] own1 G1 G2 := (w2.stp.modT (i := 10) (fun _ _ h => h.elim)).mono (by simp)
    simp [-Int.natCast_add, b3_0, clip_t, t2, t11, t13, t15, e0, hlt, hi0', q1, e1, q1', e2, hw]
    have hd : putsN (W.drop i) i s = putsN (W.drop (i + 1)) (i + 1) (s.store i W[i]) := by rw [List.drop_eq_getElem_cons hlt]; rfl
    rw [hd]
    refine Wp.mono (ih (i + 1) _ G2 own2 _ (by omega) ?_ ?_ ?_ ?_ (ha1.trans w2.stp.agr hm1.nx) (hm1.trans ha1 m2) (w1.pm.to w2.stp (by decide) fun _ _ h => h.elim) w2.rm) fun q hq => ?_
    · simp [clip_t, e0]
    · simp [clip_t]
    · simp [clip_t]
    · simp [clip_t]
    · simpa [clip_t] using hq
/-- behind an act: all that is there is compared -/
theorem round_ok (orc : FuncId → Bool) {lp : Env → GS → Option (Exit × Env × GS)} {P : Exit × Env × GS → Prop} {k : Nat} (hk : k < 2 ^ 36) (hxp : x.placed) (lx : xb < B.nx) (ox : B.obj xb = some ⟨x.cells, 1, false, 1⟩) (hx : Ext B G) (hB : ∀ x, x < B.nx → own x = 20) (h : RJ (opsM k) 4 own G m r cb s O) {τ : Env} {i n : Nat} (hi : i < 2 ^ 40) (hn : n < 4) {v3 : Value} {c : Int}
    (t3 : τ 3 = v3) (t4 : τ 4 = .int .i64 c) (t5 : τ 5 = P0 xb) (t11 : τ 11 = P0 m) (t13 : τ 13 = P0 r) (t16 : τ 16 = .slice (some ⟨cb, 0, none⟩) 4 4) (t17 : τ 17 = .int .i64 i) (t18 : τ 18 = .int .i64 n)
    (next : ∀ (own' : Nat → Nat) (τ' : Env) (G' : GS), Ext B G' → (∀ x, x < B.nx → own' x = 20) → RJ (opsM k) 4 own' G' m r cb s O → τ' 3 = v3 → τ' 4 = .int .i64 c → τ' 5 = P0 xb → τ' 11 = P0 m → τ' 13 = P0 r → τ' 16 = .slice (some ⟨cb, 0, none⟩) 4 4 → τ' 17 = .int .i64 ((i + 1 : Nat) : Int) → Wp (lp τ' G') P) :
    Wp (jl3_1_0 true (exL Q orc) lp τ G) P := by
  have hw : IntKind.wrap .i64 ((i : Int) + 1) = ((i + 1 : Nat) : Int) := wrap64 (by omega) (by omega)
  have hwl : s.W.length ≤ 4096 := h.ok.2
  have hn0 : (0 : Int) ≤ n := by omega
  have hn4 : (n : Int) < 4 := by omega
  have hcl : n < O.length := by rw [h.len]; exact hn
  have o0 := (hx.obj xb lx).trans ox
  simp [-Int.natCast_add, -cell_s, jl3_1_0, jbl3_1_0, t3, t4, t5, t11, t13, t16, t17, t18, o0]
  refine Wp.stepX (f := fun v => v) (mall_ok orc h.pm h.ok x c) fun v1 G1 ⟨x1, w1⟩ => ?_
  have h1 := h.ext x1
  obtain ⟨G1', hG1'⟩ : ∃ G1', G1' = G1.room 46 := ⟨_, rfl⟩
  have x1' : Ext G1 G1' := by rw [hG1']; exact (Ext.refl _).room 46
  have y1 := x1.trans x1'
  have h1' := h.ext y1
  have o1' := ((hx.trans y1).obj xb lx).trans ox
  have e1 := row_ld (e := rowM) h1'.oc h1'.lc hcl
  simp only [rowM_sz, rowM_row] at e1
  obtain ⟨G2, e2, x2⟩ := told_ok orc hk (h1'.core n O[n] (List.getElem?_eq_getElem hcl))
  have y2 := y1.trans x2
  have o2 := ((hx.trans y2).obj xb lx).trans ox
  rw [hG1'] at e1 e2
  have e1s : loadA 4 cb (n * 4) G1 = some (.agg ⟨(O[n]).1.V (O[n]).2.1 (O[n]).2.2⟩) := by simpa [-loadA_s] using e1
  simp [-Int.natCast_add, -cell_s, -loadA_s, hn, hn0, hn4, e1s, e2]
  simp [-Int.natCast_add, -cell_s, o2]
  have h2 := h.ext y2
  refine Wp.stepX (f := fun v => v) (rmall_ok orc h2.rm h2.ok x c) fun v2 G3 ⟨x3, w3⟩ => ?_
  have one1 := own_one w1
  have one3 := own_one w3
  have y3 := y2.trans x3
  have hal : (mallI x c s).length < 2 ^ 40 := by
    unfold mallI
    split
    · have : (allI (x.rg c) s).length ≤ 4096 := by
        unfold allI
        split
        · rename_i hR
          have hall : ∀ (k : Nat) (t : Int), (allN (x.rg c) s k t).length ≤ k := by
            intro k
            induction k with
            | zero => intro t; simp [allN]
            | succ k ih => intro t; unfold allN; have := ih (IntKind.wrap .u64 (t + 1)); split <;> simp <;> omega
          have := hall (x.rg c).size.toNat (s.at' (x.rg c).head)
          have := hR.2
          omega
        · simp
      omega
    · simp
  refine Wp.step (same21 orc (w1.is.ext ((x1'.trans x2).trans x3)) w3.is (by omega)) fun G4 x4 => ?_
  have y4 := y3.trans x4
  have o4 := ((hx.trans y4).obj xb lx).trans ox
  simp [-Int.natCast_add, -cell_s, o4]
  refine Wp.step (mempty_ok orc (h.ext y4).pm h.ok hxp) fun G5 x5 => ?_
  have y5 := y4.trans x5
  have o5 := ((hx.trans y5).obj xb lx).trans ox
  simp [-Int.natCast_add, -cell_s, o5]
  refine Wp.step (rmempty_ok orc (h.ext y5).rm h.ok hxp) fun G6 x6 => ?_
  have y6 := y5.trans x6
  simp [-Int.natCast_add, -cell_s]
  refine Wp.step ((h.ext y6).last orc) fun G7 x7 => ?_
  have y7 := y6.trans x7
  try simp
  refine Wp.step ((h.ext y7).rlast orc) fun G8 x8 => ?_
  have y8 := y7.trans x8
  have h8 := h.ext y8
  simp [acc_neq]
  refine Wp.stepE (h8.count orc) ?_
  try simp
  refine Wp.stepE (h8.rcount orc) ?_
  try simp
  refine Wp.stepX (f := fun v => v) (h8.words orc) fun v3 G9 ⟨x9, w9⟩ => ?_
  try simp
  refine Wp.stepX (f := fun v => v) ((h8.ext x9).rwords orc) fun v4 G10 ⟨x10, w10⟩ => ?_
  have y10 := (y8.trans x9).trans x10
  try simp
  refine Wp.step (same29 orc (w9.is.ext x10) w10.is (by omega)) fun G11 x11 => ?_
  have y11 := y10.trans x11
  have z11 : Ext G1 G11 := (((((((((x1'.trans x2).trans x3).trans x4).trans x5).trans x6).trans x7).trans x8).trans x9).trans x10).trans x11
  obtain ⟨G12, e12, m12⟩ := over32 orc (w1.ext z11) hal
  have y12 : Ext G G12 := m12.tail y11 fun g hg => w1.from hg
  simp [-Int.natCast_add, hw, e12]
  have h12 := h.ext y12
  refine next _ _ G12 (hx.trans y12) (fun x hxx => (grown_agr x (Nat.lt_of_lt_of_le hxx hx.nx)).trans (hB x hxx)) h12 (by simp [clip_t]) (by simp [clip_t]) (by simp [clip_t]) (by simp [clip_t]) (by simp [clip_t]) (by simp [clip_t]) (by simp [clip_t])
end
end Go.Proofs.YtaanpcoglijohaaGreat.Lift

set_option linter.unusedVariables false
set_option linter.unusedSimpArgs false
set_option maxRecDepth 20000
namespace Go.Proofs.YtaanpcoglijohaaGreat.Lift
open Go Go.Proofs.YtaanpcoglijohaaGreat.Gh Go.Proofs
section
variable {own own' own0 : Nat → Nat} {G G' G0 B : GS} {m r cb xb : Nat} {s s' : MS} {x : MB} {O : List CoreM}
theorem steps_lp (orc : FuncId → Bool) (hxp : x.placed) (lx : xb < B.nx) (ox : B.obj xb = some ⟨x.cells, 1, false, 1⟩) {v3 : Value} {c : Int} {L : List MAct} (hv : SlR rMAct B v3 L) (hL : L.length < 2 ^ 30) :
    ∀ (k i : Nat) (own : Nat → Nat) (s : MS) (O : List CoreM) (τ : Env) (G : GS), i + k = L.length → Ext B G → (∀ x, x < B.nx → own x = 20) → RJ (opsM i) 4 own G m r cb s O → τ 3 = v3 → τ 4 = .int .i64 c → τ 5 = P0 xb → τ 11 = P0 m → τ 13 = P0 r → τ 16 = .slice (some ⟨cb, 0, none⟩) 4 4 → τ 17 = .int .i64 i →
    Wp ((exL Q orc).lpx 3 1 τ G) fun q => q.1 = .exit 2 := by
  intro k
  induction k with
  | zero =>
    intro i own s O τ G hi hx hB h t3 t4 t5 t11 t13 t16 t17
    have hi' : i = L.length := by omega
    subst hi'
    obtain ⟨a, c, rfl⟩ := hv.len
    refine Wp.lp (l3_1 (exL_ok Q orc)) ?_
    simp [b3_1, bb3_1, clip_t, t3, t4, t5, t11, t13, t16, t17]
  | succ k ih =>
    intro i own s O τ G hi hx hB h t3 t4 t5 t11 t13 t16 t17
    have hlt : i < L.length := by omega
    have hi0 : (0 : Int) ≤ i := by omega
    obtain ⟨b, o, c', e0, hbl, q0, q1⟩ := (hv.ext hx).at hlt
    have c0 := q0 0 (by decide)
    have c1 := q0 1 (by decide)
    simp [-cell_s] at c0 c1
    simp only [rMAct_sz, rMAct_row] at q1
    have hp0 := Int.emod_nonneg L[i].who (show (4 : Int) ≠ 0 by decide)
    have hp1 := Int.emod_lt_of_pos L[i].who (show (0 : Int) < 4 by decide)
    obtain ⟨n, hn⟩ := Int.eq_ofNat_of_zero_le hp0
    have hc4 : n < 4 := by omega
    have hc4' : (n : Int) < 4 := by omega
    have e32 : ∀ G, (E orc).cl 16 [.int .i64 L[i].who, .int .i64 4] G = some (.int .i64 n, G) := fun G => by rw [pick_ok orc _ 4 (by decide) (by decide), hn]
    have orb' := (hx.obj xb lx).trans ox
    have erb : loadA 3 xb 0 G = some x.v := by simp [orb']
    have hw0 : (0 : Int) ≤ n := by omega
    have hlen := h.len
    have hcl : n < O.length := by omega
    have hget : O[n]? = some O[n] := List.getElem?_eq_getElem hcl
    have hup : ∀ own G i' y, (opsM i).ok own G i' y → (opsM (i + 1)).ok own G i' y := fun own G i' y hy => ⟨OpM.ok_mono hy.1 (Nat.le_succ i), hy.2⟩
    have hk := h.weaken (O' := opsM (i + 1)) rfl hup
    have go : ∀ (own : Nat → Nat) (s : MS) (G : GS) (O : List CoreM) (τ : Env), Ext B G → (∀ x, x < B.nx → own x = 20) → RJ (opsM (i + 1)) 4 own G m r cb s O → τ 3 = v3 → τ 4 = .int .i64 c → τ 5 = P0 xb → τ 11 = P0 m → τ 13 = P0 r → τ 16 = .slice (some ⟨cb, 0, none⟩) 4 4 → τ 17 = .int .i64 i → τ 18 = .int .i64 n →
        Wp (jl3_1_0 true (exL Q orc) ((exL Q orc).lpx 3 1) τ G) fun q => q.1 = .exit 2 := by
      intro own s G O τ hx hB h t3 t4 t5 t11 t13 t16 t17 t18
      refine round_ok orc (by omega) hxp lx ox hx hB h (by omega) hc4 t3 t4 t5 t11 t13 t16 t17 t18 ?_
      intro own' τ' G' hx' hB' h' u3 u4 u5 u11 u13 u16 u17
      exact ih (i + 1) own' s O τ' G' (by omega) hx' hB' h' u3 u4 u5 u11 u13 u16 u17
    refine Wp.lp (l3_1 (exL_ok Q orc)) ?_
    by_cases w0 : L[i].what = 0
    · have e1 := row_ld (e := rowM) h.oc h.lc hcl
      simp only [rowM_sz, rowM_row] at e1
      simp [-Int.natCast_add, -cell_s, -loadA_s, b3_1, bb3_1, clip_t, t3, t4, t5, t11, t13, t16, t17, e0, hlt, hi0, c0, c1, e32, w0, hc4, hc4', hw0, e1]
      have hcore := h.core n _ hget
      refine Wp.stepW (both_ok orc (k := i) (by omega) h.pm h.rm h.ok (show n < 9 by omega) hcore) ?_
      rintro _ G1 ⟨rfl, own1, a1, m1, p1, p2, p3⟩
      simp only at m1 p1 p2 p3
      have h1 := hk.told hget m1 a1 p1 p2 (OpM.step_ok hcore.1 h.ok).2 p3 (by
        cases hh : O[n] with
        | mk op q => cases op <;> rfl)
      have x1 : Ext B G1 := m1.toExt (fun g hg => by rw [hB g hg]; simp; omega) hx
      have hB1 : ∀ x, x < B.nx → own1 x = 20 := fun x hxx => (a1 x (Nat.lt_of_lt_of_le hxx hx.nx)).trans (hB x hxx)
      simp
      exact go own1 _ G1 _ _ x1 hB1 h1 (by simp [clip_t]; exact e0.symm) (by simp [clip_t]) (by simp [clip_t]) (by simp [clip_t]) (by simp [clip_t]) (by simp [clip_t]) (by simp [clip_t]) (by simp [clip_t])
    by_cases w12 : L[i].what = 1 ∨ L[i].what = 2
    · have x10 : Ext G (G.room 10) := (Ext.refl G).room 10
      have fin : ∀ τ' : Env, τ' 3 = v3 → τ' 4 = .int .i64 c → τ' 5 = P0 xb → τ' 11 = P0 m → τ' 13 = P0 r → τ' 16 = .slice (some ⟨cb, 0, none⟩) 4 4 → τ' 17 = .int .i64 i → τ' 18 = .int .i64 n → τ' 127 = .bool true → Wp (jl3_1_1 true (exL Q orc) ((exL Q orc).lpx 3 1) τ' G) fun q => q.1 = .exit 2 := by
        intro τ' u3 u4 u5 u11 u13 u16 u17 u18 u127
        simp [-Int.natCast_add, -cell_s, -loadA_s, jl3_1_1, jbl3_1_1, u3, u4, u5, u11, u13, u16, u17, u18, u127, e0, hlt, hi0, erb, q1]
        refine Wp.stepW (begin_ok orc x _ _ _ _ _) ?_
        rintro _ G1 ⟨b1, b2, rfl, x1, hbeg⟩
        simp only at x1 hbeg
        have y1 := x10.trans x1
        obtain ⟨own1, a1, r1⟩ := hbeg (grown own G 13) n (by omega)
        have a1' : Agr own own1 G := fun g hg => (a1 g (by simp; omega)).trans (grown_agr g hg)
        have hst := row_st (e := rowM) ((y1.obj cb h.lc).trans h.oc) hcl (newM x L[i].what L[i].c L[i].v, b1, b2)
        simp only [rowM_sz, rowM_row] at hst
        have hlc := h.lc
        have hlc1 := Nat.lt_of_lt_of_le h.lc y1.nx
        have tcb : own1 cb = 12 := (a1' cb h.lc).trans h.tc
        have h1 := hk.begin (i := n) (y := ((newM x L[i].what L[i].c L[i].v, b1, b2) : CoreM)) y1 (by omega) a1' ⟨newM_ok x _ _ _ _, OpM.R_to r1 (Nat.le_refl _) (fun g hg hgi => by
          show (G1.put _ _).obj g = _
          rw [obj_put, if_neg (by rintro rfl; omega)]) (Agr.refl _ _)⟩
        simp [-Int.natCast_add, -cell_s, -loadA_s, -storeN_s, hc4, hc4', hw0, hst]
        refine go own1 s _ _ _ ?_ ?_ h1 (by simp [clip_t]; exact e0.symm) (by simp [clip_t]) (by simp [clip_t]) (by simp [clip_t]) (by simp [clip_t]) (by simp [clip_t]) (by simp [clip_t]) (by simp [clip_t])
        · exact (hx.trans y1).put (by
            rcases Nat.lt_or_ge cb B.nx with hh | hh
            · have := hB _ hh; rw [h.tc] at this; omega
            · exact hh) _
        · exact fun x hxx => (a1' x (Nat.lt_of_lt_of_le hxx hx.nx)).trans (hB x hxx)
      rcases w12 with w1 | w2
      · simp [-Int.natCast_add, -cell_s, -loadA_s, b3_1, bb3_1, clip_t, t3, t4, t5, t11, t13, t16, t17, e0, hlt, hi0, c0, c1, e32, w1]
        exact fin _ (by simp [clip_t]; exact e0.symm) (by simp [clip_t]) (by simp [clip_t]) (by simp [clip_t]) (by simp [clip_t]) (by simp [clip_t]) (by simp [clip_t]) (by simp [clip_t]) (by simp [clip_t])
      · simp [-Int.natCast_add, -cell_s, -loadA_s, b3_1, bb3_1, clip_t, t3, t4, t5, t11, t13, t16, t17, e0, hlt, hi0, c0, c1, e32, w2]
        exact fin _ (by simp [clip_t]; exact e0.symm) (by simp [clip_t]) (by simp [clip_t]) (by simp [clip_t]) (by simp [clip_t]) (by simp [clip_t]) (by simp [clip_t]) (by simp [clip_t]) (by simp [clip_t])
    · have w1 : ¬ L[i].what = 1 := fun e => w12 (.inl e)
      have w2 : ¬ L[i].what = 2 := fun e => w12 (.inr e)
      simp [-Int.natCast_add, -cell_s, -loadA_s, b3_1, bb3_1, jl3_1_1, jbl3_1_1, clip_t, t3, t4, t5, t11, t13, t16, t17, e0, hlt, hi0, c0, c1, e32, w0, w1, w2]
      exact go own s G O _ hx hB hk (by simp [clip_t]; exact e0.symm) (by simp [clip_t]) (by simp [clip_t]) (by simp [clip_t]) (by simp [clip_t]) (by simp [clip_t]) (by simp [clip_t]) (by simp [clip_t])
abbrev idles : List CoreM := [(.idle, 0, 0), (.idle, 0, 0), (.idle, 0, 0), (.idle, 0, 0)]
theorem mailSteps (orc : FuncId → Bool) (haw : orc 9 = true) (x : MB) (n : Int) (v2 : Value) (W : List Int) (v3 : Value) (L : List MAct) (c : Int) (G : GS) (h2 : SlR (rowsI .u64) G v2 W) (hW : ∀ w ∈ W, U w) (h3 : SlR rMAct G v3 L) :
    Wp ((E orc).cl 3 [x.v, .int .i64 n, v2, v3, .int .i64 c] G) fun q => q.1 = .bool true := by
  have aw : ∀ G, (E orc).cl 9 [] G = some (.bool true, G) := fun G => cl_orc Q orc haw G
  refine Wp.ref (f3 (exL_ok Q orc) _ _ _ _ _ G) ?_
  obtain ⟨G0, hG0⟩ : ∃ G0, G0 = (G.push ⟨x.cells, 1, false, 1⟩).room 14 := ⟨_, rfl⟩
  have x0 : Ext G G0 := by rw [hG0]; exact ((Ext.refl G).push _).room 14
  have o0 : G0.obj G.nx = some ⟨x.cells, 1, false, 1⟩ := by rw [hG0]; simp
  have n0 : G.nx < G0.nx := by rw [hG0]; simp; omega
  have hl2 : ∀ t, ln Q true t v2 = some (.int .i64 W.length) := fun t => by obtain ⟨a, c, rfl⟩ := h2.len; simp
  have hl3 : ∀ t, ln Q true t v3 = some (.int .i64 L.length) := fun t => by obtain ⟨a, c, rfl⟩ := h3.len; simp
  obtain ⟨G1, e1, x1⟩ := mfits_ok orc x n G0
  have o1 := (x1.obj _ n0).trans o0
  obtain ⟨G2, e2, x2⟩ := rmfits_ok orc x n G1
  have y2 := x1.trans x2
  have o2 := (y2.obj _ n0).trans o0
  obtain ⟨G3, e3, x3⟩ := msize_ok orc x G2
  have y3 := y2.trans x3
  have o3 := (y3.obj _ n0).trans o0
  obtain ⟨G4, e4, x4⟩ := rmsize_ok orc x G3
  have y4 := y3.trans x4
  have o4 := (y4.obj _ n0).trans o0
  obtain ⟨G5, e5, x5⟩ := rmfits_ok orc x n G4
  have y5 := y4.trans x5
  have o5 := (y5.obj _ n0).trans o0
  by_cases hf : x.fits n = 0
  · rw [hf] at e1 e2 e5
    by_cases c1 : 100 < n
    · simp [s3, ← hG0, o0, e1, o1, e2, o2, e3, o3, e4, o4, e5, c1, aw]
    by_cases c2 : 100 < W.length
    · have c2' : (100 : Int) < W.length := by omega
      simp [s3, ← hG0, o0, e1, o1, e2, o2, e3, o3, e4, o4, e5, c1, hl2, c2', aw]
    by_cases c3 : 150 < L.length
    · have c2' : ¬ (100 : Int) < W.length := by omega
      have c3' : (150 : Int) < L.length := by omega
      simp [s3, ← hG0, o0, e1, o1, e2, o2, e3, o3, e4, o4, e5, c1, hl2, hl3, c2', c3', aw]
    have c2' : ¬ (100 : Int) < W.length := by omega
    have c3' : ¬ (150 : Int) < L.length := by omega
    obtain ⟨hp, f1, f2⟩ := fits_placed hf
    have z5 := x0.trans y5
    obtain ⟨m, G6, e6, x6, hm⟩ := (new_ok orc n G5).2 f1 f2
    obtain ⟨r, G7, e7, x7, hr⟩ := (rnew_ok orc n G6).2 f1 f2
    have n5 := y5.nx
    have n6 := x6.nx
    have n7 := x7.nx
    have o7 : G7.obj G.nx = some ⟨x.cells, 1, false, 1⟩ := ((x6.trans x7).obj _ (by omega)).trans o5
    obtain ⟨own0, hown⟩ : ∃ own0 : Nat → Nat, own0 = fun x => if x < G5.nx then 20 else if x < G5.nx then 13 else if x < G6.nx then 10 else 11 := ⟨_, rfl⟩
    have hpm : PM own0 G7 m (MS.zero n.toNat) := by
      rcases new2 (k := G5.nx) hm hr x6.nx x7 with h | h
      · rw [hown]; exact h
      · omega
    have hrm : RM own0 G7 r (MS.zero n.toNat) := by rw [hown]; exact new2' hr x6.nx (by omega)
    have t20 : ∀ x, x < G5.nx → own0 x = 20 := fun x hx => by rw [hown]; simp only; rw [if_pos hx]
    obtain ⟨own8, G8, e8, w8⟩ := fills_ok orc hp.1 hpm
    have o8 := (w8.keep (show G.nx < G7.nx by omega) (by rw [t20 _ (by omega)]; decide) id).trans o7
    have hrm8 := hrm.to w8.stp (by decide) fun _ _ h => h.elim
    obtain ⟨own9, G9, e9, w9⟩ := rfills_ok orc hp.1 hrm8
    have hpm9 := w8.pm.to w9.stp (by decide) fun _ _ h => h.elim
    have m8 : ModT [10, 11] own0 G7 G8 := (w8.stp.modT (i := 10) (fun _ _ h => h.elim)).mono (by simp)
    have m9 : ModT [10, 11] own8 G8 G9 := (w9.stp.modT (i := 10) (fun _ _ h => h.elim)).mono (by simp)
    have m89 := m8.trans w8.stp.agr m9
    have ag : Agr own0 own9 G7 := w8.stp.agr.trans w9.stp.agr w8.nx
    have z7 := (z5.trans x6).trans x7
    have v2k := h2.ext z7
    simp [s3, ← hG0, o0, e1, o1, e2, o2, e3, o3, e4, o4, e5, o5, c1, hl2, hl3, c2', c3', e6, e7, o7, e8, o8, e9]
    refine Wp.bE ((puts_lp orc (G0 := G7) (own0 := own0) v2k (by omega) (fun y hy => by rw [t20 y (by have := h2.under y hy; have := z5.nx; omega)]; simp) W.length 0 _ G9 own9 _ (by omega) (by simp) (by simp) (by simp) (by simp) ag m89 hpm9 w9.rm).mono ?_)
    rintro ⟨e, τ, G10⟩ ⟨rfl, ⟨u3, u4, u5, u11, u13⟩, own10, q3, q4, q5, q6⟩
    simp only at u3 u4 u5 u11 u13 q4 q5 q6
    simp [clip_t] at u3 u4 u5
    simp only [List.drop_zero] at q5 q6
    have x10 : Ext G5 G10 := q4.toExt (fun g hg => by rw [t20 g hg]; simp) (x6.trans x7)
    have hown10 : ∀ y, y < G5.nx → own10 y = 20 := fun y hy => (q3 y (by omega)).trans (t20 y hy)
    have hmk : mkK 4 32 z49 4 4 G10 = some (.slice (some ⟨G10.nx, 0, none⟩) 4 4, G10.push ⟨rowM.flat idles, 4, false, 1⟩) := by
      unfold mkK
      rw [if_pos ⟨by omega, by omega, by decide, by decide, wrap64 (by omega) (by omega), wrap64 (by omega) (by omega)⟩]
      rfl
    have x11 : Ext G10 (G10.push ⟨rowM.flat idles, 4, false, 1⟩) := (Ext.refl G10).push _
    have hRJ : RJ (opsM 0) 4 (grown own10 G10 12) (G10.push ⟨rowM.flat idles, 4, false, 1⟩) m r G10.nx (putsN W 0 (mfillI x (MS.zero n.toNat))) idles := by
      refine ⟨q5.modT (ts := []) (ModT.ext x11) (by simp) grown_agr, q6.modT (ts := []) (ModT.ext x11) (by simp) grown_agr, putsN_ok _ _ hW (fillsN_ok x _ _ (zero_ok (by omega))), grown_new (Nat.le_refl _), by simp, by rw [obj_push, if_pos rfl]; rfl, rfl, by decide, ?_⟩
      intro i y hy
      have : y = ((.idle, 0, 0) : CoreM) := by
        have := List.mem_of_getElem? hy
        simpa using this
      subst this
      exact ⟨trivial, trivial⟩
    simp [hmk]
    refine Wp.bE ((steps_lp orc hp (B := G5) (xb := G.nx) (by omega) o5 (h3.ext z5) (by omega) L.length 0 _ _ _ _ _ (by omega) (x10.trans x11) (fun x hx => (grown_agr x (Nat.lt_of_lt_of_le hx x10.nx)).trans (hown10 x hx)) hRJ (by simp [u3]) (by simp [u4]; rfl) (by simp [u5]) (by simp [u11]) (by simp [u13]) (by simp) (by simp)).mono ?_)
    rintro ⟨e, τ, G'⟩ rfl
    simp [aw]
  · simp [s3, ← hG0, o0, e1, o1, e2, o2, e3, o3, e4, o4, e5, hf, aw]
end
end Go.Proofs.YtaanpcoglijohaaGreat.Lift

set_option linter.unusedVariables false
set_option linter.unusedSimpArgs false
set_option maxRecDepth 20000
namespace Go.Proofs.YtaanpcoglijohaaGreat.Lift
open Go Go.Proofs.YtaanpcoglijohaaGreat.Gh Go.Proofs
theorem trueAw : closedTrueF Q 200 9 = true := by kernel_rfl
theorem okAw : OrcOk Q (among [9]) := among_ok _ (hp := purOk_none (by kernel_rfl) (by kernel_rfl)) fun f hf => by
  simp only [List.mem_cons, List.not_mem_nil, or_false] at hf
  subst hf
  exact ⟨⟨_, Tryz.func9, by kernel_rfl, by kernel_rfl⟩, fun w _ => closed_trueF (by kernel_rfl) trueAw w⟩
theorem U_wf {x : Int} (h : (Lit.int .u64 x).wf = true) : U x := by
  simp [Lit.wf] at h
  exact ⟨Int.le_trans (show (0 : Int) ≤ IntKind.min .u64 by decide) h.1, Int.lt_of_le_of_lt h.2 (show IntKind.max .u64 < (18446744073709551616 : Int) by decide)⟩
theorem row_mact {r : List Value} (h : Row [some .i64, some .i64, some .i64, some .i64] r) : ∃ x : MAct, r = rMAct.row x := by
  match r with
  | [] => exact h.elim
  | [_] => exact h.2.elim
  | [_, _] => exact h.2.2.elim
  | [_, _, _] => exact h.2.2.2.elim
  | x :: y :: z :: u :: q :: l => exact h.2.2.2.2.elim
  | [x, y, z, u] =>
    obtain ⟨⟨a, ha, _⟩, ⟨b, hb, _⟩, ⟨c, hc, _⟩, ⟨d, hd, _⟩, _⟩ := h
    exact ⟨⟨a, b, c, d⟩, by rw [ha, hb, hc, hd]; rfl⟩
theorem row_mb {r : List Value} (h : Row [some .i64, some .i64, some .i64] r) : ∃ x : MB, r = x.cells := by
  match r with
  | [] => exact h.elim
  | [_] => exact h.2.elim
  | [_, _] => exact h.2.2.elim
  | x :: y :: z :: q :: l => exact h.2.2.2.elim
  | [x, y, z] =>
    obtain ⟨⟨a, ha, _⟩, ⟨b, hb, _⟩, ⟨c, hc, _⟩, _⟩ := h
    exact ⟨⟨a, b, c⟩, by rw [ha, hb, hc]⟩
end Go.Proofs.YtaanpcoglijohaaGreat.Lift

