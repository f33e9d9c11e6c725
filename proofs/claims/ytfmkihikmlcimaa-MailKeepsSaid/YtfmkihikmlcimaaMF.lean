/- contracts of the program's functions -/
import Derived.Test.YtfmkihikmlcimaaME
set_option linter.unusedVariables false
set_option linter.unusedSimpArgs false
set_option maxRecDepth 20000
namespace Go.Proofs.Ytfmkihikmlcimaa.Lift
open Go Go.Proofs.Ytfmkihikmlcimaa.Gh Go.Proofs
/-! ### Mailboxes are laid into a memory -/
def fillsN (x : MB) : Nat → Nat → MS → MS
  | 0, _, s => s
  | k + 1, i, s => fillsN x k (i + 1) (fillI (x.rg i) s)
def mfillI (x : MB) (s : MS) : MS := fillsN x x.cores.toNat 0 s
theorem fillsN_ok (x : MB) : ∀ (k i : Nat) {s : MS}, s.ok → (fillsN x k i s).ok
  | 0, _, _, h => h
  | k + 1, i, _, h => fillsN_ok x k (i + 1) (fillI_ok _ h)
theorem fillsN_len (x : MB) : ∀ (k i : Nat) (s : MS), (fillsN x k i s).W.length = s.W.length
  | 0, _, _ => rfl
  | k + 1, i, s => (fillsN_len x k (i + 1) _).trans (fillI_len _ s)
section
variable {own own0 own1 : Nat → Nat} {A G G1 : GS} {m r xb mb l t : Nat} {s s' : MS} {x : MB} {T : List Value}
theorem PM.fill (orc : FuncId → Bool) (h : PM own G m s) (R : Rg) : ∃ own1 G1, (E orc).cl 106 [R.v, P0 m] G = some (.tuple #[], G1) ∧ PW no own G own1 G1 m (fillI R s) := by
  obtain ⟨⟨v, G1⟩, e, rfl, q2, q3⟩ := fill_ok orc h R
  exact ⟨_, G1, e, pw_of h q2 q3⟩
/-! the program looks through all -/
noncomputable abbrev lpF (T : List Value) : Lp := ⟨.ready, none, T, [11, 12], (subAt [1, 1, 1, 0, 0] (bodyOf Try.f71)), (subAt [1, 1, 1, 0, 1] (bodyOf Try.f71))⟩
structure FlS (x : MB) (own0 : Nat → Nat) (A : GS) (l xb mb m : Nat) (T : List Value) (own : Nat → Nat) (G : GS) (s : MS) : Prop where
  w : PW no own0 A own G m s
  lp : G.loop l = some (lpF T)
  nl : A.nl ≤ l
  ll : l < G.nl
  ox : G.obj xb = some ⟨x.cells, 1, false, 1⟩
  om : G.obj mb = some ⟨[P0 m], 1, false, 1⟩
  lx : xb < G.nx
  lm : mb < G.nx
  tx : own xb ≠ 10
  tm : own mb ≠ 10
theorem Stp.putLoop {B : Nat → Prop} {r : Lp} (h : Stp t B own G own1 G1) (hl : G.nl ≤ l) : Stp t B own G own1 (G1.putLoop l r) := ⟨h.agr, h.mod.putLoop hl r⟩
theorem PM.putLoop {r : Lp} (h : PM own G m s) : PM own (G.putLoop l r) m s := (sepP m s).mono ((sepP m s).kept h (Nat.le_refl _) fun g hg => by simp) (fun y hy => ⟨by simpa using hy.1, hy.2⟩) Tag.under
theorem PW.putLoop {B : Nat → Prop} {r : Lp} (h : PW B own G own1 G1 m s) (hl : G.nl ≤ l) : PW B own G own1 (G1.putLoop l r) m s := ⟨h.stp.putLoop hl, h.pm.putLoop⟩
theorem fl_round (orc : FuncId → Bool) {i : Int} (hT : T.length = 16) (t3 : nth undef T 3 = P0 mb) (h : FlS x own0 A l xb mb m T own G s) (R : Rg) :
    Wp ((E orc).rd l [.int .i64 i, R.v] G) fun q => q.1 = .bool true ∧ ∃ own', FlS x own0 A l xb mb m T own' q.2 (fillI R s) := by
  refine Wp.ref (d71_0 (exL_ok Q orc) l T _ _ G h.lp hT) ?_
  obtain ⟨G1, hG1⟩ : ∃ G1, G1 = ((G.push ⟨zR, 1, false, 1⟩).put G.nx ⟨R.cells, 1, false, 1⟩) := ⟨_, rfl⟩
  have x1 : Ext G G1 := by rw [hG1]; exact ((Ext.refl G).push _).put (Nat.le_refl _) _
  have l1 : G1.loop l = some (lpF T) := by rw [hG1]; simpa using h.lp
  have nl1 : G1.nl = G.nl := by rw [hG1]; rfl
  have on1 : G1.obj G.nx = some ⟨R.cells, 1, false, 1⟩ := by rw [hG1]; simp
  have n1 : G1.nx = G.nx + 1 := by rw [hG1]; rfl
  obtain ⟨G2, hG2⟩ : ∃ G2, G2 = G1.putLoop l (Lp.setSt (lpF T) .busy) := ⟨_, rfl⟩
  have n2 : G2.nx = G.nx + 1 := by rw [hG2, nx_putLoop, n1]
  have w1 := h.w.ext x1
  have w2 : PW no own0 A (grown own G 13) G2 m s := by rw [hG2]; exact w1.putLoop h.nl
  have l2 : G2.loop l = some (Lp.setSt (lpF T) .busy) := by rw [hG2]; simp
  have nl2 : G2.nl = G.nl := by rw [hG2]; exact nl1
  have on2 : G2.obj G.nx = some ⟨R.cells, 1, false, 1⟩ := by rw [hG2]; simpa using on1
  have ox2 : G2.obj xb = some ⟨x.cells, 1, false, 1⟩ := by rw [hG2]; simpa using (x1.obj xb h.lx).trans h.ox
  have om2 : G2.obj mb = some ⟨[P0 m], 1, false, 1⟩ := by rw [hG2]; simpa using (x1.obj mb h.lm).trans h.om
  have tx2 : grown own G 13 xb ≠ 10 := by rw [grown_agr xb h.lx]; exact h.tx
  have tm2 : grown own G 13 mb ≠ 10 := by rw [grown_agr mb h.lm]; exact h.tm
  obtain ⟨own3, G3, e3, w3⟩ := w2.pm.fill orc R
  have l3 : G3.loop l = some (Lp.setSt (lpF T) .busy) := (w3.stp.mod.loop l (by rw [nl2]; exact h.ll)).trans l2
  have nl3 := w3.stp.mod.nl
  have lx := h.lx
  have lm := h.lm
  have ll := h.ll
  have hrd : roundEnd l .normal G3 = some (.bool true, G3.putLoop l (lpF T)) := by
    rw [roundEnd_some l .normal _ (j := none) rfl l3]
    rfl
  simp [r71_0, t3, ← hG1, splice_put, splice_end]
  have om1 := (x1.obj mb h.lm).trans h.om
  simp [l1, ← hG2, on1, om1, e3, hrd]
  refine ⟨own3, (w2.trans w3 fun _ _ h => h).putLoop h.nl, by simp, h.nl, ?_, ?_, ?_, ?_, ?_, ?_, ?_⟩
  · show l < G3.nl; omega
  · simpa using (w3.keep (by omega) tx2 id).trans ox2
  · simpa using (w3.keep (by omega) tm2 id).trans om2
  · have := w3.nx; simp; omega
  · have := w3.nx; simp; omega
  · rw [w3.stp.same (by omega)]; exact tx2
  · rw [w3.stp.same (by omega)]; exact tm2
theorem fills_lp (orc : FuncId → Bool) (hT : T.length = 16) (t3 : nth undef T 3 = P0 mb) (hx : x.sized) : ∀ (k i : Nat) (own : Nat → Nat) (τ : Env) (G : GS) (s : MS), (i : Int) + k = x.cores → τ 0 = .func (.yield l) #[] #[] → τ 1 = P0 xb → τ 6 = .int .i64 x.cores → τ 7 = .int .i64 i →
    FlS x own0 A l xb mb m T own G s → Wp ((exL Q orc).lpx 98 0 τ G) fun q => q.1 = .exit 0 ∧ ∃ own', FlS x own0 A l xb mb m T own' q.2.2 (fillsN x k i s) := by
  intro k
  induction k with
  | zero =>
    intro i own τ G s hi t0 t1 t6 t7 h
    refine Wp.lp (l98_0 (exL_ok Q orc)) ?_
    have hi' : ¬ (i : Int) < x.cores := by omega
    simp [-Int.natCast_add, b98_0, clip_t, t0, t1, t6, t7, hi']
    exact ⟨own, h⟩
  | succ k ih =>
    intro i own τ G s hi t0 t1 t6 t7 h
    refine Wp.lp (l98_0 (exL_ok Q orc)) ?_
    have hi' : (i : Int) < x.cores := by omega
    have hx' := hx.2.1
    have hw : IntKind.wrap .i64 ((i : Int) + 1) = ((i + 1 : Nat) : Int) := wrap64 (by omega) (by omega)
    have ox := h.ox
    obtain ⟨R, hR⟩ : ∃ R, R = x.ring i := ⟨_, rfl⟩
    have hR' := hR
    unfold MB.ring at hR'
    obtain ⟨⟨v, G1⟩, e1, rfl, own1, h1⟩ := fl_round orc (i := i) hT t3 h (x.rg i)
    have e1' : (E orc).rd l [.int .i64 i, .agg ⟨R⟩] G = some (.bool true, G1) := by rw [hR]; exact e1
    simp [-Int.natCast_add, b98_0, clip_t, t0, t1, t6, t7, hi', ox, ← hR', e1', hw]
    exact ih (i + 1) own1 _ G1 _ (by omega) (by simp [clip_t]) (by simp [clip_t]) (by simp [clip_t]) (by simp [clip_t]) h1
theorem fills_ok (orc : FuncId → Bool) (hx : x.sized) (h : PM own G m s) : ∃ own1 G1, (E orc).cl 71 [x.v, P0 m] G = some (.tuple #[], G1) ∧ PW no own G own1 G1 m (mfillI x s) := by
  obtain ⟨G1, hG1⟩ : ∃ G1, G1 = (G.push ⟨x.cells, 1, false, 1⟩).push ⟨[P0 m], 1, false, 1⟩ := ⟨_, rfl⟩
  have x1 : Ext G G1 := by rw [hG1]; exact ((Ext.refl G).push _).push _
  have o1 : G1.obj G.nx = some ⟨x.cells, 1, false, 1⟩ := by rw [hG1]; simp
  have p1 : G1.obj (G.nx + 1) = some ⟨[P0 m], 1, false, 1⟩ := by rw [hG1]; simp
  have n1 : G1.nx = G.nx + 2 := by rw [hG1]; rfl
  obtain ⟨G2, e2, x2⟩ := msized_ok orc x G1
  have y2 := x1.trans x2
  have n2 := x2.nx
  have o2 := (x2.obj G.nx (by omega)).trans o1
  have p2 := (x2.obj (G.nx + 1) (by omega)).trans p1
  simp only [hx, decide_true] at e2
  have w : Wp (s71 true (exL Q orc) x.v (P0 m) G) fun q => q.1 = .tuple #[] ∧ ∃ own1, PW no own G own1 q.2 m (mfillI x s) := by
    simp [s71, ← hG1, o1, e2, o2, bclose_ok]
    generalize hTT : lst 16 (tu (nth undef _) _) = T
    have hT : T.length = 16 := by rw [← hTT]; exact length_lst 16 _
    have t3 : nth undef T 3 = P0 (G.nx + 1) := by rw [← hTT, nth_lst]; simp [clip_t]
    clear hTT
    obtain ⟨G5, hG5⟩ : ∃ G5, G5 = (G2.push ⟨x.cells, 1, false, 1⟩).pushLoop (lpF T) := ⟨_, rfl⟩
    have x5 : Ext G G5 := by rw [hG5]; exact (y2.push _).pushLoop _
    have x5' : Ext G2 G5 := by rw [hG5]; exact ((Ext.refl G2).push _).pushLoop _
    have n5 : G5.nx = G2.nx + 1 := by rw [hG5]; rfl
    have l5 : G5.loop G2.nl = some (lpF T) := by rw [hG5]; simp
    have w5 : PW no own G (grown own G 13) G5 m s := (PW.refl h).ext x5
    have tn : ∀ g, G.nx ≤ g → grown own G 13 g ≠ 10 := fun g hg => by rw [grown_new hg]; decide
    have hS : FlS x own G G2.nl G2.nx (G.nx + 1) m T (grown own G 13) G5 s := ⟨w5, l5, y2.nl, by rw [hG5]; simp, by rw [hG5]; simp, (x5'.obj _ (by omega)).trans p2, by omega, by omega, tn _ (by omega), tn _ (by omega)⟩
    have hc := hx.1
    have ox := hS.ox
    have wl : Wp (s98 true (exL Q orc) (.func (.yield G2.nl) #[] #[]) (P0 G2.nx) G5) fun q => q.1 = .tuple #[] ∧ ∃ own', FlS x own G G2.nl G2.nx (G.nx + 1) m T own' q.2 (mfillI x s) := by
      simp [s98, ox]
      refine Wp.bE ((fills_lp orc hT t3 hx x.cores.toNat 0 _ _ G5 s (by omega) (by simp [clip_t]) (by simp [clip_t]) (by simp [clip_t]) (by simp [clip_t]) hS).mono ?_)
      rintro ⟨e, τ, G'⟩ ⟨rfl, own', h'⟩
      simp
      exact ⟨own', h'⟩
    obtain ⟨⟨v, G6⟩, e6, rfl, own6, h6⟩ := wl
    have e6' := f98 (exL_ok Q orc) _ _ G5 _ e6
    rw [← hG5]
    simp only [List.nil_append, List.singleton_append, List.cons_append, e6']
    rw [xRangeEnd_some G2.nl T _ G6 h6.lp (by simp) rfl]
    simp
    exact ⟨own6, h6.w.putLoop y2.nl⟩
  obtain ⟨⟨v, G'⟩, e1, rfl, own1, h1⟩ := w
  exact ⟨own1, G', f71 (exL_ok Q orc) _ _ G _ e1, h1⟩
end
end Go.Proofs.Ytfmkihikmlcimaa.Lift

set_option linter.unusedVariables false
set_option linter.unusedSimpArgs false
set_option maxRecDepth 20000
namespace Go.Proofs.Ytfmkihikmlcimaa.Lift
open Go Go.Proofs.Ytfmkihikmlcimaa.Gh Go.Proofs
/-! ### What is in mailboxes -/
def mallI (x : MB) (c : Int) (s : MS) : List Int := if x.placed ∧ 0 ≤ c ∧ c < x.cores then allI (x.rg c) s else []
def emptyN (x : MB) (s : MS) : Nat → Nat → Bool
  | 0, _ => true
  | k + 1, i => (allI (x.rg i) s).isEmpty && emptyN x s k (i + 1)
section
variable {own : Nat → Nat} {G : GS} {m r : Nat} {s : MS}
theorem mall_ok (orc : FuncId → Bool) (h : PM own G m s) (hs : s.ok) (x : MB) (c : Int) : ∃ v G', (E orc).cl 15 [x.v, .int .i64 c, P0 m] G = some (v, G') ∧ Ext G G' ∧ OwR (rowsI .i64) G.nx G' v (mallI x c s) := by
  obtain ⟨G1, hG1⟩ : ∃ G1, G1 = G.push ⟨x.cells, 1, false, 1⟩ := ⟨_, rfl⟩
  have x1 : Ext G G1 := by rw [hG1]; exact (Ext.refl G).push _
  have o1 : G1.obj G.nx = some ⟨x.cells, 1, false, 1⟩ := by rw [hG1]; simp
  obtain ⟨G2, e2, x2⟩ := mbox_ok orc x c G1
  have y2 := x1.trans x2
  unfold mallI MB.box at *
  by_cases hc : x.placed ∧ 0 ≤ c ∧ c < x.cores
  · rw [if_pos hc] at e2 ⊢
    obtain ⟨G3, hG3⟩ : ∃ G3, G3 = (G2.push ⟨zR, 1, false, 1⟩).put G2.nx ⟨x.ring c, 1, false, 1⟩ := ⟨_, rfl⟩
    have x3 : Ext G G3 := by rw [hG3]; exact (y2.push _).put y2.nx _
    have p3 : G3.obj G2.nx = some ⟨x.ring c, 1, false, 1⟩ := by rw [hG3]; simp
    obtain ⟨v, G4, e4, x4, w4⟩ := all_ok orc (PMx.ext h x3) hs (x.rg c)
    have e4' : (E orc).cl 45 [.agg ⟨x.ring c⟩, P0 m] G3 = some (v, G4) := e4
    unfold MB.ring at e2 hG3 p3 e4'
    refine ⟨v, G4, f15 (exL_ok Q orc) _ _ _ G _ ?_, x3.trans x4, w4.mono x3.nx⟩
    simp [s15, ← hG1, o1, e2, splice_put, splice_end, ← hG3, p3, e4']
  · rw [if_neg hc] at e2 ⊢
    refine ⟨.slice none 0 0, (G2.push ⟨zR, 1, false, 1⟩).put G2.nx ⟨zR, 1, false, 1⟩, f15 (exL_ok Q orc) _ _ _ G _ ?_, (y2.push _).put y2.nx _, OwR.nil _ _⟩
    simp [s15, ← hG1, o1, e2, splice_put, splice_end]
end
/-! is anything in any of them? the document -/
section
variable {own : Nat → Nat} {A G : GS} {m r xb : Nat} {s : MS} {x : MB}
end
end Go.Proofs.Ytfmkihikmlcimaa.Lift

set_option linter.unusedVariables false
set_option linter.unusedSimpArgs false
set_option linter.unnecessarySimpa false
set_option maxRecDepth 20000
namespace Go.Proofs.Ytfmkihikmlcimaa.Lift
open Go Go.Proofs.Ytfmkihikmlcimaa.Gh Go.Proofs
/-! ### A ring somewhere in a memory, in plain Lean -/
def upN {α : Type} (f : Nat → α) (c : Nat) (a : α) : Nat → α := fun j => if j = c then a else f j
theorem upN_same {α : Type} (f : Nat → α) (c : Nat) (a : α) : upN f c a c = a := by unfold upN; rw [if_pos rfl]
theorem upN_ne {α : Type} (f : Nat → α) {c j : Nat} (a : α) (h : j ≠ c) : upN f c a j = f j := by unfold upN; rw [if_neg h]
def rgN (a n : Nat) : Rg := ⟨a, ((a + 1 : Nat) : Int), ((a + 2 : Nat) : Int), n⟩
/-- a slot's word, by a number -/
def wordN (n D : Nat) (q : List Int) (t : Nat) : Int := if t < D + q.length then ((t / n : Nat) : Int) * 4294967296 + 65536 + (q[t - D]?).getD 0 else ((t / n : Nat) : Int) * 4294967296
structure InvM (a n D T K : Nat) (q : List Int) (H : Nat) (s : MS) : Prop where
  n1 : 1 ≤ n
  n6 : n ≤ 6
  a9 : a ≤ 100
  len : a + 2 + n ≤ s.W.length
  head : s.W[a]? = some (H : Int)
  tail : s.W[a + 1]? = some (T : Int)
  t1 : T ≤ D + q.length
  t2 : D + q.length ≤ T + 1
  qn : q.length ≤ n
  small : D + q.length ≤ K
  qv : ∀ v ∈ q, 0 ≤ v ∧ v ≤ 65535
  slot : ∀ t, D ≤ t → t < D + n → s.W[a + 2 + t % n]? = some (wordN n D q t)
/-- what one who pushes is within: e: 14: its value is not laid yet; 0: it is -/
inductive InvP (a n D T P : Nat) (v e : Int) : PuS → Prop where
  | tail (t w : Int) : e = 14 → InvP a n D T P v e (.go 1 (rgN a n) v t w)
  | look (t : Nat) (w : Int) : e = 14 → t ≤ T → InvP a n D T P v e (.go 2 (rgN a n) v t w)
  | lay (t : Nat) : e = 14 → t ≤ T → t < D + n → InvP a n D T P v e (.go 3 (rgN a n) v t (((t / n : Nat) : Int) * 4294967296))
  | last (t : Nat) (w : Int) : e = 0 → t + 1 ≤ P → InvP a n D T P v e (.go 4 (rgN a n) v t w)
  | help (t : Nat) (w : Int) : e = 14 → t + 1 ≤ P → InvP a n D T P v e (.go 5 (rgN a n) v t w)
section
variable {a n D T K H : Nat} {q : List Int} {s : MS}
theorem place_n (hn : 1 ≤ n) (h6 : n ≤ 6) (ha : a ≤ 100) (t : Nat) : placeI (rgN a n) t = ((a + 2 + t % n : Nat) : Int) := by
  have : t % n < n := Nat.mod_lt _ (by omega)
  unfold placeI rgN
  simp only
  rw [show ((a + 2 : Nat) : Int) + (t : Int) % (n : Int) = ((a + 2 + t % n : Nat) : Int) by simp]
  exact wrap64 (by omega) (by omega)
theorem lap_n (hn : 1 ≤ n) {t : Nat} (ht : t ≤ 1000000) : lapI (rgN a n) t = ((t / n : Nat) : Int) := by
  have : t / n ≤ t := Nat.div_le_self _ _
  unfold lapI rgN
  simp only
  rw [show (t : Int) / (n : Int) = ((t / n : Nat) : Int) by simp]
  generalize t / n = k at *
  omega
theorem acc_in {a : Nat} {w : Int} (h : s.W[a]? = some w) (k : Int) (u : Int → Int × Bool) : s.acc k (a : Int) u = ⟨s.W.set a (u w).1, k, a, w, (u w).1, (u w).2, IntKind.wrap .i64 (s.many + 1)⟩ := by
  have hl : a < s.W.length := (List.getElem?_eq_some_iff.1 h).1
  unfold MS.acc
  rw [if_pos (by omega), Int.toNat_natCast, h]
  rfl
theorem set_same {a : Nat} {w : Int} {W : List Int} (h : W[a]? = some w) : W.set a w = W := by
  obtain ⟨hl, rfl⟩ := List.getElem?_eq_some_iff.1 h
  exact List.set_getElem_self hl
theorem load_in {a : Nat} {w : Int} (h : s.W[a]? = some w) : s.load (a : Int) = ⟨s.W, 1, a, w, w, false, IntKind.wrap .i64 (s.many + 1)⟩ := by
  unfold MS.load
  rw [acc_in h]
  simp only [uLoad, set_same h]
theorem store_in {a : Nat} {w : Int} (h : s.W[a]? = some w) (v : Int) : s.store (a : Int) v = ⟨s.W.set a v, 2, a, w, v, true, IntKind.wrap .i64 (s.many + 1)⟩ := by
  unfold MS.store
  rw [acc_in h]
  rfl
theorem cas_hit {a : Nat} {w : Int} (h : s.W[a]? = some w) (y : Int) : s.cas (a : Int) w y = ⟨s.W.set a y, 3, a, w, y, true, IntKind.wrap .i64 (s.many + 1)⟩ := by
  unfold MS.cas
  rw [acc_in h]
  simp only [uCas, if_true]
theorem cas_miss {a : Nat} {w x : Int} (h : s.W[a]? = some w) (hx : w ≠ x) (y : Int) : s.cas (a : Int) x y = ⟨s.W, 3, a, w, w, false, IntKind.wrap .i64 (s.many + 1)⟩ := by
  unfold MS.cas
  rw [acc_in h]
  simp only [uCas, if_neg hx, set_same h]
theorem InvM.sameW {s' : MS} (h : InvM a n D T K q H s) (hw : s'.W = s.W) : InvM a n D T K q H s' := ⟨h.n1, h.n6, h.a9, by rw [hw]; exact h.len, by rw [hw]; exact h.head, by rw [hw]; exact h.tail, h.t1, h.t2, h.qn, h.small, h.qv, fun t h1 h2 => by rw [hw]; exact h.slot t h1 h2⟩
theorem InvM.more {K' : Nat} (h : InvM a n D T K q H s) (hk : K ≤ K') : InvM a n D T K' q H s := { h with small := Nat.le_trans h.small hk }
/-- the word of a number's slot -/
inductive AtW (n D : Nat) (q : List Int) (t : Nat) (w : Int) : Prop where
  | free : t = D + q.length → t < D + n → w = ((t / n : Nat) : Int) * 4294967296 → AtW n D q t w
  | full (l : Nat) (v : Int) : t = D + q.length → q.length = n → t / n = l + 1 → w = (l : Int) * 4294967296 + 65536 + v → 0 ≤ v → v ≤ 65535 → AtW n D q t w
  | old (l : Nat) (v : Int) : t < D + q.length → t / n ≤ l → l ≤ D + n → w = (l : Int) * 4294967296 + 65536 + v → 0 ≤ v → v ≤ 65535 → AtW n D q t w
  | gone (l : Nat) : t < D + q.length → t / n < l → l ≤ D + n → w = (l : Int) * 4294967296 → AtW n D q t w
theorem get_q (h : ∀ v ∈ q, 0 ≤ v ∧ v ≤ 65535) (i : Nat) : 0 ≤ (q[i]?).getD 0 ∧ (q[i]?).getD 0 ≤ 65535 := by
  cases hq : q[i]? with
  | none => simp
  | some v => exact h v (List.mem_of_getElem? hq)
theorem InvM.at (h : InvM a n D T K q H s) {t : Nat} (ht : t ≤ D + q.length) : ∃ w, s.W[a + 2 + t % n]? = some w ∧ AtW n D q t w := by
  have n1 := h.n1
  have qn := h.qn
  by_cases c1 : t < D
  · -- the number of the slot now
    obtain ⟨u, hu1, hu2, hu3⟩ : ∃ u, D ≤ u ∧ u < D + n ∧ u % n = t % n := by
      refine ⟨t + n * ((D - t + n - 1) / n), ?_, ?_, by simp⟩
      · have := Nat.div_add_mod (D - t + n - 1) n
        have := Nat.mod_lt (D - t + n - 1) (show n > 0 by omega)
        omega
      · have := Nat.div_add_mod (D - t + n - 1) n
        have := Nat.mod_lt (D - t + n - 1) (show n > 0 by omega)
        omega
    have hlt : t / n < u / n := by
      rcases Nat.lt_or_ge (t / n) (u / n) with h | h
      · exact h
      · have h1 := Nat.div_add_mod t n
        have h2 := Nat.div_add_mod u n
        have h3 := Nat.mul_le_mul_left n h
        omega
    have hun : u / n ≤ D + n := Nat.le_trans (Nat.div_le_self _ _) (by omega)
    refine ⟨_, by rw [← hu3]; exact h.slot u hu1 hu2, ?_⟩
    unfold wordN
    split
    · have := get_q h.qv (u - D)
      exact .old (u / n) _ (by omega) (by omega) hun rfl this.1 this.2
    · exact .gone (u / n) (by omega) hlt hun rfl
  · by_cases c2 : t < D + n
    · refine ⟨_, h.slot t (by omega) c2, ?_⟩
      have hun : t / n ≤ D + n := Nat.le_trans (Nat.div_le_self _ _) (by omega)
      unfold wordN
      split
      · have := get_q h.qv (t - D)
        exact .old (t / n) _ (by omega) (by omega) hun rfl this.1 this.2
      · exact .free (by omega) c2 rfl
    · have e1 : t = D + n := by omega
      have e2 : q.length = n := by omega
      refine ⟨_, by rw [e1, Nat.add_mod_right]; exact h.slot D (by omega) (by omega), ?_⟩
      have hq := get_q h.qv (D - D)
      have hd : t / n = D / n + 1 := by rw [e1, Nat.add_div_right _ (by omega)]
      unfold wordN
      rw [if_pos (by omega)]
      exact .full (D / n) _ (by omega) e2 hd rfl hq.1 hq.2
theorem empty_e (l l' : Nat) : emptyI ((l : Int) * 4294967296) l' = decide (l = l') := by
  unfold emptyI
  rw [Bool.eq_iff_iff]; simp; omega
theorem empty_f (l l' : Nat) {v : Int} (h0 : 0 ≤ v) (h1 : v ≤ 65535) : emptyI ((l : Int) * 4294967296 + 65536 + v) l' = false := by
  unfold emptyI
  rw [Bool.and_eq_false_iff]; simp; omega
theorem full_e (l : Nat) (l' : Int) : fullI ((l : Int) * 4294967296) l' = false := by
  unfold fullI
  rw [Bool.and_eq_false_iff]; simp; omega
theorem full_f (l : Nat) (l' : Int) {v : Int} (h0 : 0 ≤ v) (h1 : v ≤ 65535) : fullI ((l : Int) * 4294967296 + 65536 + v) l' = decide ((l : Int) = l') := by
  unfold fullI
  rw [Bool.eq_iff_iff]; simp; omega
/-- a value is laid -/
theorem InvM.laid (h : InvM a n D T K q H s) (hf : q.length < n) {v : Int} (h0 : 0 ≤ v) (h1 : v ≤ 65535) (hT : T = D + q.length) {s' : MS} (hW : s'.W = s.W.set (a + 2 + (D + q.length) % n) ((((D + q.length) / n : Nat) : Int) * 4294967296 + 65536 + v)) : InvM a n D T (K + 1) (q ++ [v]) H s' := by
  have n1 := h.n1
  have hm : (D + q.length) % n < n := Nat.mod_lt _ (by omega)
  refine ⟨h.n1, h.n6, h.a9, by rw [hW, List.length_set]; exact h.len, ?_, ?_, by simp; omega, by simp; omega, by simp; omega, by have := h.small; simp; omega, ?_, ?_⟩
  · rw [hW, List.getElem?_set_ne (by omega)]; exact h.head
  · rw [hW, List.getElem?_set_ne (by omega)]; exact h.tail
  · intro x hx
    rcases List.mem_append.1 hx with hx | hx
    · exact h.qv x hx
    · rw [List.mem_singleton.1 hx]; exact ⟨h0, h1⟩
  · intro t ht1 ht2
    by_cases c : t = D + q.length
    · subst c
      rw [hW, List.getElem?_set_self (by have := h.len; omega)]
      unfold wordN
      rw [if_pos (by simp)]
      simp
    · have hne : t % n ≠ (D + q.length) % n := by
        intro e
        have h2 := Nat.div_add_mod t n
        have h3 := Nat.div_add_mod (D + q.length) n
        rcases Nat.lt_trichotomy (t / n) ((D + q.length) / n) with k | k | k
        · have := Nat.mul_le_mul_left n (show t / n + 1 ≤ (D + q.length) / n from k)
          rw [Nat.mul_add, Nat.mul_one] at this; omega
        · rw [k] at h2; omega
        · have := Nat.mul_le_mul_left n (show (D + q.length) / n + 1 ≤ t / n from k)
          rw [Nat.mul_add, Nat.mul_one] at this; omega
      rw [hW, List.getElem?_set_ne (by omega), h.slot t ht1 ht2]
      unfold wordN
      by_cases k : t < D + q.length
      · rw [if_pos k, if_pos (by simp; omega), List.getElem?_append_left (by omega)]
      · rw [if_neg k, if_neg (by simp; omega)]
/-- the first one is taken away -/
theorem InvM.cleared (h : InvM a n D T K q H s) (hq : 0 < q.length) {s' : MS} (hW : s'.W = s.W.set (a + 2 + D % n) (((D / n + 1 : Nat) : Int) * 4294967296)) : InvM a n (D + 1) T K (q.drop 1) H s' := by
  have n1 := h.n1
  have qn := h.qn
  have hm : D % n < n := Nat.mod_lt _ (by omega)
  refine ⟨h.n1, h.n6, h.a9, by rw [hW, List.length_set]; exact h.len, ?_, ?_, by have := h.t1; simp; omega, by have := h.t2; simp; omega, by simp; omega, by have := h.small; simp; omega, fun x hx => h.qv x (List.mem_of_mem_drop hx), ?_⟩
  · rw [hW, List.getElem?_set_ne (by omega)]; exact h.head
  · rw [hW, List.getElem?_set_ne (by omega)]; exact h.tail
  · intro t ht1 ht2
    by_cases c : t = D + n
    · subst c
      rw [Nat.add_mod_right, hW, List.getElem?_set_self (by have := h.len; omega)]
      unfold wordN
      rw [if_neg (by simp; omega), Nat.add_div_right _ (by omega)]
    · have hne : t % n ≠ D % n := by
        intro e
        have h2 := Nat.div_add_mod t n
        have h3 := Nat.div_add_mod D n
        rcases Nat.lt_trichotomy (t / n) (D / n) with k | k | k
        · have := Nat.mul_le_mul_left n (show t / n + 1 ≤ D / n from k)
          rw [Nat.mul_add, Nat.mul_one] at this; omega
        · rw [k] at h2; omega
        · have := Nat.mul_le_mul_left n (show D / n + 1 ≤ t / n from k)
          rw [Nat.mul_add, Nat.mul_one] at this; omega
      rw [hW, List.getElem?_set_ne (by omega), h.slot t (by omega) (by omega)]
      unfold wordN
      have hd : D + 1 + (q.drop 1).length = D + q.length := by simp; omega
      rw [hd, List.getElem?_drop, show 1 + (t - (D + 1)) = t - D by omega]
theorem InvM.headed (h : InvM a n D T K q H s) {H' : Nat} {s' : MS} (hW : s'.W = s.W.set a (H' : Int)) : InvM a n D T K q H' s' := by
  refine ⟨h.n1, h.n6, h.a9, by rw [hW, List.length_set]; exact h.len, ?_, ?_, h.t1, h.t2, h.qn, h.small, h.qv, fun t h1 h2 => ?_⟩
  · rw [hW, List.getElem?_set_self (by have := h.len; omega)]
  · rw [hW, List.getElem?_set_ne (by omega)]; exact h.tail
  · rw [hW, List.getElem?_set_ne (by omega)]; exact h.slot t h1 h2
theorem InvM.tailed (h : InvM a n D T K q H s) (ht : T + 1 ≤ D + q.length) {s' : MS} (hW : s'.W = s.W.set (a + 1) ((T + 1 : Nat) : Int)) : InvM a n D (T + 1) K q H s' := by
  refine ⟨h.n1, h.n6, h.a9, by rw [hW, List.length_set]; exact h.len, ?_, ?_, ht, by have := h.t2; omega, h.qn, h.small, h.qv, fun t h1 h2 => ?_⟩
  · rw [hW, List.getElem?_set_ne (by omega)]; exact h.head
  · rw [hW, List.getElem?_set_self (by have := h.len; omega)]
  · rw [hW, List.getElem?_set_ne (by omega)]; exact h.slot t h1 h2
end
end Go.Proofs.Ytfmkihikmlcimaa.Lift

set_option linter.unusedVariables false
set_option linter.unusedSimpArgs false
set_option linter.unnecessarySimpa false
set_option maxRecDepth 20000
namespace Go.Proofs.Ytfmkihikmlcimaa.Lift
open Go Go.Proofs.Ytfmkihikmlcimaa.Gh Go.Proofs
/-- what is outside of a ring is as it was -/
structure Fra (a n : Nat) (s s' : MS) : Prop where
  len : s'.W.length = s.W.length
  out : ∀ b, ¬ (a ≤ b ∧ b < a + 2 + n) → s'.W[b]? = s.W[b]?
/-- an access has swapped a slot -/
def landsI (a n : Nat) (s : MS) : Prop := s.kind = 3 ∧ s.held = true ∧ ((a + 2 : Nat) : Int) ≤ s.at_ ∧ s.at_ < ((a + 2 + n : Nat) : Int)
section
variable {a n D T K H P a' n' : Nat} {q : List Int} {s s' : MS} {v e : Int} {p p' : PuS}
theorem Fra.same (hw : s'.W = s.W) : Fra a n s s' := ⟨by rw [hw], fun b _ => by rw [hw]⟩
theorem Fra.set {i : Nat} {w : Int} (hw : s'.W = s.W.set i w) (hi : a ≤ i ∧ i < a + 2 + n) : Fra a n s s' := ⟨by rw [hw, List.length_set], fun b hb => by rw [hw, List.getElem?_set_ne (by rintro rfl; exact hb hi)]⟩
theorem InvM.frame (h : InvM a n D T K q H s) (f : Fra a' n' s s') (hd : a + 2 + n ≤ a' ∨ a' + 2 + n' ≤ a) : InvM a n D T K q H s' := by
  have n1 := h.n1
  exact ⟨h.n1, h.n6, h.a9, by rw [f.len]; exact h.len, by rw [f.out _ (by omega)]; exact h.head, by rw [f.out _ (by omega)]; exact h.tail, h.t1, h.t2, h.qn, h.small, h.qv, fun t h1 h2 => by
    have : t % n < n := Nat.mod_lt _ (by omega)
    rw [f.out _ (by omega)]; exact h.slot t h1 h2⟩
theorem InvP.mono {D' T' P' : Nat} (h : InvP a n D T P v e p) (h1 : D ≤ D') (h2 : T ≤ T') (h3 : P ≤ P') : InvP a n D' T' P' v e p := by
  cases h with
  | tail t w a => exact .tail t w a
  | look t w a b => exact .look t w a (Nat.le_trans b h2)
  | lay t a b d => exact .lay t a (Nat.le_trans b h2) (by omega)
  | last t w a b => exact .last t w a (by omega)
  | help t w a b => exact .help t w a (by omega)
theorem InvP.going (h : InvP a n D T P v e p) : p.over = false ∧ p.err = 14 := by cases h <;> exact ⟨rfl, rfl⟩
/-- how many steps are left, alone -/
def mu5 (T P : Nat) (t : Int) : Nat := 1 + (if t = T then 4 else 4 + 3 * (P - T))
def muP (T P : Nat) : PuS → Nat
  | .done _ => 0
  | .go k _ _ t _ => if k = 1 then 4 + 3 * (P - T) else if k = 2 then (if t = P then 3 else 1 + mu5 T P t) else if k = 3 then (if t = P then 2 else 1 + mu5 T P t) else if k = 4 then 1 else mu5 T P t
theorem muP_le (h : P ≤ T + 1) (p : PuS) : muP T P p ≤ 9 := by
  cases p with
  | done _ => exact Nat.zero_le _
  | go k R v t w => simp only [muP, mu5]; repeat' split
                    all_goals omega
theorem muP_pos (h : InvP a n D T P v e p) : 1 ≤ muP T P p := by
  cases h <;> unfold muP mu5 <;> simp <;> (try split) <;> omega
inductive PuE (a n D T' K : Nat) (q : List Int) (H : Nat) (v e : Int) (m0 : Nat) (s' : MS) (p' : PuS) : Prop
  | go : InvM a n D T' (K + 1) q H s' → InvP a n D T' (D + q.length) v e p' → muP T' (D + q.length) p' < m0 → ¬ landsI a n s' → PuE a n D T' K q H v e m0 s' p'
  | laid : e = 14 → InvM a n D T' (K + 1) (q ++ [v]) H s' → InvP a n D T' (D + (q ++ [v]).length) v 0 p' → muP T' (D + (q ++ [v]).length) p' < m0 → landsI a n s' → PuE a n D T' K q H v e m0 s' p'
  | full : e = 14 → q.length = n → p' = .done 7 → InvM a n D T' (K + 1) q H s' → ¬ landsI a n s' → PuE a n D T' K q H v e m0 s' p'
  | last : e = 0 → p' = .done 0 → InvM a n D T' (K + 1) q H s' → ¬ landsI a n s' → PuE a n D T' K q H v e m0 s' p'
theorem st1 (R : Rg) (v t w : Int) (s : MS) : (PuS.go 1 R v t w).step s = (.go 2 R v (s.load R.tail).new w, s.load R.tail) := rfl
theorem st2 (R : Rg) (v t w : Int) (s : MS) : (PuS.go 2 R v t w).step s = (look5 R v t (s.load (placeI R t)).new, s.load (placeI R t)) := rfl
theorem st3 (R : Rg) (v t w : Int) (s : MS) : (PuS.go 3 R v t w).step s = (if (s.cas (placeI R t) w (wordI (lapI R t) v)).held = true then .go 4 R v t w else .go 5 R v t w, s.cas (placeI R t) w (wordI (lapI R t) v)) := rfl
theorem st4 (R : Rg) (v t w : Int) (s : MS) : (PuS.go 4 R v t w).step s = (.done 0, s.cas R.tail t (IntKind.wrap .u64 (t + 1))) := rfl
theorem st5 (R : Rg) (v t w : Int) (s : MS) : (PuS.go 5 R v t w).step s = (.go 1 R v t w, s.cas R.tail t (IntKind.wrap .u64 (t + 1))) := rfl
theorem nl_kind (h : s.kind ≠ 3) : ¬ landsI a n s := fun k => h k.1
theorem nl_tail (h : s.at_ = ((a + 1 : Nat) : Int)) : ¬ landsI a n s := fun k => by have := k.2.2.1; omega
theorem nl_held (h : s.held = false) : ¬ landsI a n s := fun k => by have := k.2.1; rw [h] at this; cases this
theorem pu_step (h : InvM a n D T K q H s) (hp : InvP a n D T (D + q.length) v e p) (hv : 0 ≤ v ∧ v ≤ 65535) (hK : K + 1 ≤ 1000000) :
    ∃ T', T ≤ T' ∧ Fra a n s (p.step s).2 ∧ PuE a n D T' K q H v e (muP T (D + q.length) p) (p.step s).2 (p.step s).1 := by
  have n1 := h.n1
  have n6 := h.n6
  have a9 := h.a9
  have ht1 := h.t1
  have ht2 := h.t2
  have hsm := h.small
  have hsl : ∀ t : Nat, a ≤ a + 2 + t % n ∧ a + 2 + t % n < a + 2 + n := fun t => by have : t % n < n := Nat.mod_lt _ (by omega); omega
  cases hp with
  | tail t w he =>
    have hl : s.load ((a + 1 : Nat) : Int) = _ := load_in (a := a + 1) h.tail
    have hs : (PuS.go 1 (rgN a n) v t w).step s = (.go 2 (rgN a n) v (T : Int) w, s.load ((a + 1 : Nat) : Int)) := by
      rw [st1]; show (PuS.go 2 _ _ (s.load ((a + 1 : Nat) : Int)).new _, s.load ((a + 1 : Nat) : Int)) = _; rw [hl]
    rw [hs]
    refine ⟨T, Nat.le_refl _, Fra.same (by rw [hl]), .go ((h.more (Nat.le_succ _)).sameW (by rw [hl])) (.look T w he (Nat.le_refl _)) ?_ (nl_kind (by rw [hl]; show (1 : Int) ≠ 3; decide))⟩
    unfold muP mu5
    simp
    repeat' split <;> omega
  | look t w he htT =>
    obtain ⟨w', hw', at'⟩ := h.at (t := t) (by omega)
    have hl : s.load ((a + 2 + t % n : Nat) : Int) = _ := load_in hw'
    have hs : (PuS.go 2 (rgN a n) v t w).step s = (look5 (rgN a n) v t w', s.load ((a + 2 + t % n : Nat) : Int)) := by
      rw [st2, place_n n1 n6 a9, hl]
    have hlap : lapI (rgN a n) t = ((t / n : Nat) : Int) := lap_n n1 (by omega)
    have hdiv : t / n ≤ t := Nat.div_le_self _ _
    have hm' := (h.more (Nat.le_succ _)).sameW (s' := s.load ((a + 2 + t % n : Nat) : Int)) (by rw [hl])
    have hf : Fra a n s (s.load ((a + 2 + t % n : Nat) : Int)) := Fra.same (by rw [hl])
    have hnl : ¬ landsI a n (s.load ((a + 2 + t % n : Nat) : Int)) := nl_kind (by rw [hl]; show (1 : Int) ≠ 3; decide)
    rw [hs]
    have help : look5 (rgN a n) v t w' = .go 5 (rgN a n) v t w' → t + 1 ≤ D + q.length → ∃ T', T ≤ T' ∧ Fra a n s (s.load ((a + 2 + t % n : Nat) : Int)) ∧ PuE a n D T' K q H v e (muP T (D + q.length) (.go 2 (rgN a n) v t w)) (s.load ((a + 2 + t % n : Nat) : Int)) (look5 (rgN a n) v t w') := by
      intro hk hlt
      rw [hk]
      refine ⟨T, Nat.le_refl _, hf, .go hm' (.help t w' he hlt) ?_ hnl⟩
      unfold muP
      have : ¬ (t : Int) = ((D + q.length : Nat) : Int) := by omega
      simp only [if_neg this]
      simp
    cases at' with
    | free e1 e2 e3 =>
      have hk : look5 (rgN a n) v t w' = .go 3 (rgN a n) v t w' := by
        unfold look5
        rw [hlap, e3, empty_e, if_pos (by simp)]
      rw [hk]
      refine ⟨T, Nat.le_refl _, hf, .go hm' (by rw [e3]; exact .lay t he htT e2) ?_ hnl⟩
      have : (t : Int) = ((D + q.length : Nat) : Int) := by omega
      unfold muP
      simp only [if_pos this]
      simp
    | full l v' e1 e2 e3 e4 e5 e6 =>
      have hk : look5 (rgN a n) v t w' = .done 7 := by
        unfold look5
        rw [hlap, e4, empty_f _ _ e5 e6, if_neg (by simp), full_f _ _ e5 e6, if_pos (by simp; omega)]
      rw [hk]
      exact ⟨T, Nat.le_refl _, hf, .full he e2 rfl hm' hnl⟩
    | old l v' e1 e2 e3 e4 e5 e6 =>
      refine help ?_ (by omega)
      have := h.qn
      unfold look5
      rw [hlap]
      generalize t / n = k at *
      rw [e4, empty_f _ _ e5 e6, if_neg (by simp), full_f _ _ e5 e6, if_neg (by simp; omega)]
    | gone l e1 e2 e3 e4 =>
      refine help ?_ (by omega)
      unfold look5
      rw [hlap]
      generalize t / n = k at *
      rw [e4, empty_e, if_neg (by simp; omega), full_e, if_neg (by simp)]
  | lay t he htT htD =>
    obtain ⟨w', hw', at'⟩ := h.at (t := t) (by omega)
    have hlap : lapI (rgN a n) t = ((t / n : Nat) : Int) := lap_n n1 (by omega)
    have miss : w' ≠ ((t / n : Nat) : Int) * 4294967296 → t + 1 ≤ D + q.length → ∃ T', T ≤ T' ∧ Fra a n s ((PuS.go 3 (rgN a n) v t (((t / n : Nat) : Int) * 4294967296)).step s).2 ∧ PuE a n D T' K q H v e (muP T (D + q.length) (.go 3 (rgN a n) v t (((t / n : Nat) : Int) * 4294967296))) ((PuS.go 3 (rgN a n) v t (((t / n : Nat) : Int) * 4294967296)).step s).2 ((PuS.go 3 (rgN a n) v t (((t / n : Nat) : Int) * 4294967296)).step s).1 := by
      intro hk hlt
      have hl := cas_miss hw' hk (wordI (lapI (rgN a n) t) v)
      have hs : (PuS.go 3 (rgN a n) v t (((t / n : Nat) : Int) * 4294967296)).step s = (.go 5 (rgN a n) v t (((t / n : Nat) : Int) * 4294967296), s.cas ((a + 2 + t % n : Nat) : Int) (((t / n : Nat) : Int) * 4294967296) (wordI (lapI (rgN a n) t) v)) := by
        rw [st3, place_n n1 n6 a9, hl]; simp
      rw [hs]
      refine ⟨T, Nat.le_refl _, Fra.same (by rw [hl]), .go ((h.more (Nat.le_succ _)).sameW (by rw [hl])) (.help t _ he hlt) ?_ (nl_held (by rw [hl]))⟩
      unfold muP
      have : ¬ (t : Int) = ((D + q.length : Nat) : Int) := by omega
      simp only [if_neg this]
      simp
    cases at' with
    | free e1 e2 e3 =>
      have hl := cas_hit hw' (wordI (lapI (rgN a n) t) v)
      rw [e3] at hl
      have hs : (PuS.go 3 (rgN a n) v t (((t / n : Nat) : Int) * 4294967296)).step s = (.go 4 (rgN a n) v t (((t / n : Nat) : Int) * 4294967296), s.cas ((a + 2 + t % n : Nat) : Int) (((t / n : Nat) : Int) * 4294967296) (wordI (lapI (rgN a n) t) v)) := by
        rw [st3, place_n n1 n6 a9, hl]; simp
      rw [hs]
      have hm' : InvM a n D T (K + 1) (q ++ [v]) H (s.cas ((a + 2 + t % n : Nat) : Int) (((t / n : Nat) : Int) * 4294967296) (wordI (lapI (rgN a n) t) v)) := by
        refine h.laid (by omega) hv.1 hv.2 (by omega) ?_
        rw [hl, e1, lap_n n1 (by omega)]; rfl
      refine ⟨T, Nat.le_refl _, Fra.set (by rw [hl]) (hsl t), .laid he hm' (.last t _ rfl (by simp; omega)) ?_ ⟨by rw [hl], by rw [hl], by rw [hl]; show ((a + 2 : Nat) : Int) ≤ ((a + 2 + t % n : Nat) : Int); omega, by rw [hl]; have := hsl t; show ((a + 2 + t % n : Nat) : Int) < ((a + 2 + n : Nat) : Int); omega⟩⟩
      have : (t : Int) = ((D + q.length : Nat) : Int) := by omega
      unfold muP
      simp only [if_pos this]
      simp
    | full l v' e1 e2 e3 e4 e5 e6 => omega
    | old l v' e1 e2 e3 e4 e5 e6 => exact miss (by omega) (by omega)
    | gone l e1 e2 e3 e4 => exact miss (by omega) (by omega)
  | last t w he htP =>
    have hw : IntKind.wrap .u64 ((t : Int) + 1) = ((t + 1 : Nat) : Int) := by rw [wrap_u64]; omega
    have hs : (PuS.go 4 (rgN a n) v t w).step s = (.done 0, s.cas ((a + 1 : Nat) : Int) (t : Int) ((t + 1 : Nat) : Int)) := by
      rw [st4, hw]; rfl
    rw [hs]
    by_cases k : t = T
    · subst k
      have hl : s.cas ((a + 1 : Nat) : Int) (t : Int) ((t + 1 : Nat) : Int) = _ := cas_hit (a := a + 1) h.tail ((t + 1 : Nat) : Int)
      exact ⟨t + 1, Nat.le_succ _, Fra.set (by rw [hl]) (by omega), .last he rfl ((h.more (Nat.le_succ _)).tailed htP (by rw [hl])) (nl_tail (by rw [hl]))⟩
    · have hl : s.cas ((a + 1 : Nat) : Int) (t : Int) ((t + 1 : Nat) : Int) = _ := cas_miss (a := a + 1) h.tail (x := (t : Int)) (by omega) ((t + 1 : Nat) : Int)
      exact ⟨T, Nat.le_refl _, Fra.same (by rw [hl]), .last he rfl ((h.more (Nat.le_succ _)).sameW (by rw [hl])) (nl_tail (by rw [hl]))⟩
  | help t w he htP =>
    have hw : IntKind.wrap .u64 ((t : Int) + 1) = ((t + 1 : Nat) : Int) := by rw [wrap_u64]; omega
    have hs : (PuS.go 5 (rgN a n) v t w).step s = (.go 1 (rgN a n) v t w, s.cas ((a + 1 : Nat) : Int) (t : Int) ((t + 1 : Nat) : Int)) := by
      rw [st5, hw]; rfl
    rw [hs]
    by_cases k : t = T
    · subst k
      have hl : s.cas ((a + 1 : Nat) : Int) (t : Int) ((t + 1 : Nat) : Int) = _ := cas_hit (a := a + 1) h.tail ((t + 1 : Nat) : Int)
      refine ⟨t + 1, Nat.le_succ _, Fra.set (by rw [hl]) (by omega), .go ((h.more (Nat.le_succ _)).tailed htP (by rw [hl])) (.tail t w he) ?_ (nl_tail (by rw [hl]))⟩
      unfold muP mu5
      simp
      omega
    · have hl : s.cas ((a + 1 : Nat) : Int) (t : Int) ((t + 1 : Nat) : Int) = _ := cas_miss (a := a + 1) h.tail (x := (t : Int)) (by omega) ((t + 1 : Nat) : Int)
      refine ⟨T, Nat.le_refl _, Fra.same (by rw [hl]), .go ((h.more (Nat.le_succ _)).sameW (by rw [hl])) (.tail t w he) ?_ (nl_tail (by rw [hl]))⟩
      have : ¬ (t : Int) = (T : Int) := by omega
      simp only [muP, mu5, if_neg this]
      simp
end
end Go.Proofs.Ytfmkihikmlcimaa.Lift

set_option linter.unusedVariables false
set_option linter.unusedSimpArgs false
set_option linter.unnecessarySimpa false
set_option maxRecDepth 20000
namespace Go.Proofs.Ytfmkihikmlcimaa.Lift
open Go Go.Proofs.Ytfmkihikmlcimaa.Gh Go.Proofs
/-- a mailbox: what came to be there, in order; how much of it is cleared, how much is out -/
structure BoxI (a n K D T H : Nat) (th : List Int) (s : MS) : Prop where
  m : InvM a n D T K (th.drop D) H s
  le : D ≤ th.length
section
variable {a n D T K H tk a' n' : Nat} {q th l : List Int} {s s' : MS} {v e most : Int} {p p' : PuS} {d : DnS}
theorem BoxI.len (h : BoxI a n K D T H th s) : D + (th.drop D).length = th.length := by have := h.le; simp; omega
theorem BoxI.more {K' : Nat} (h : BoxI a n K D T H th s) (hk : K ≤ K') : BoxI a n K' D T H th s := ⟨h.m.more hk, h.le⟩
theorem BoxI.frame (h : BoxI a n K D T H th s) (f : Fra a' n' s s') (hd : a + 2 + n ≤ a' ∨ a' + 2 + n' ≤ a) : BoxI a n K D T H th s' := ⟨h.m.frame f hd, h.le⟩
/-- what a Drain is within; l: what it has taken, of what came to be there -/
inductive InvD (a n D H tk : Nat) (th : List Int) : DnS → Prop where
  | fr1 (most h : Int) (l : List Int) : D = H → tk + l.length = H → l = (th.drop tk).take l.length → (l.length : Int) < most → most ≤ 4 → InvD a n D H tk th (.fr (rgN a n) most l (.go 1 (rgN a n) h))
  | fr2 (most : Int) (l : List Int) : D = H → tk + l.length = H → l = (th.drop tk).take l.length → (l.length : Int) < most → most ≤ 4 → InvD a n D H tk th (.fr (rgN a n) most l (.go 2 (rgN a n) (H : Int)))
  | dr1 (most v : Int) (l : List Int) : D = H → tk + l.length = H → l = (th.drop tk).take l.length → (l.length : Int) < most → most ≤ 4 → th[H]? = some v → InvD a n D H tk th (.dr (rgN a n) most l v (.go 1 (rgN a n) (H : Int)))
  | dr2 (most v : Int) (l : List Int) : D = H + 1 → tk + l.length = H → l = (th.drop tk).take l.length → (l.length : Int) < most → most ≤ 4 → th[H]? = some v → InvD a n D H tk th (.dr (rgN a n) most l v (.go 2 (rgN a n) (H : Int)))
def muD : DnS → Nat
  | .fr _ m l (.go k _ _) => (4 * (m - l.length) - (if k = 1 then 0 else 1)).toNat
  | .dr _ m l _ (.go k _ _) => (4 * (m - l.length) - (if k = 1 then 2 else 3)).toNat
  | _ => 0
theorem InvD.mu (h : InvD a n D H tk th d) : 1 ≤ muD d ∧ muD d ≤ 16 ∧ d.over = false := by
  cases h <;> simp [muD, DnS.over] <;> omega
theorem take_more (h : l = (th.drop tk).take l.length) (x : Int) (hx : (th.drop tk)[l.length]? = some x) : l ++ [x] = (th.drop tk).take (l ++ [x]).length := by
  rw [List.length_append, List.length_singleton, List.take_add_one, hx]
  simp only [Option.toList_some]
  rw [← h]
theorem take_app (h : l = (th.drop tk).take l.length) (hl : tk + l.length ≤ th.length) (w : Int) : l = ((th ++ [w]).drop tk).take l.length := by
  rw [List.drop_append_of_le_length (by omega), List.take_append_of_le_length (by simp; omega)]
  exact h
theorem InvD.app (h : InvD a n D H tk th d) (hle : D ≤ th.length) (w : Int) : InvD a n D H tk (th ++ [w]) d := by
  have get : ∀ {x : Int}, th[H]? = some x → (th ++ [w])[H]? = some x := fun {x} hx => by
    rw [List.getElem?_append_left (List.getElem?_eq_some_iff.1 hx).1]; exact hx
  cases h with
  | fr1 most h l a1 a2 a3 a4 a5 => exact .fr1 most h l a1 a2 (take_app a3 (by omega) w) a4 a5
  | fr2 most l a1 a2 a3 a4 a5 => exact .fr2 most l a1 a2 (take_app a3 (by omega) w) a4 a5
  | dr1 most v l a1 a2 a3 a4 a5 a6 => exact .dr1 most v l a1 a2 (take_app a3 (by omega) w) a4 a5 (get a6)
  | dr2 most v l a1 a2 a3 a4 a5 a6 => exact .dr2 most v l a1 a2 (take_app a3 (by omega) w) a4 a5 (get a6)
/-- what a Drain's step comes to -/
inductive DnE (a n T K D H tk : Nat) (th : List Int) (m0 : Nat) (s' : MS) (d' : DnS) : Prop
  | reads : s'.kind = 1 → D = H → BoxI a n (K + 1) D T H th s' → InvD a n D H tk th d' → muD d' < m0 → DnE a n T K D H tk th m0 s' d'
  | clears : s'.kind = 2 → s'.at_ ≠ (a : Int) → D = H → BoxI a n (K + 1) (D + 1) T H th s' → InvD a n (D + 1) H tk th d' → muD d' < m0 → DnE a n T K D H tk th m0 s' d'
  | heads : s'.kind = 2 → s'.at_ = (a : Int) → D = H + 1 → BoxI a n (K + 1) D T (H + 1) th s' → InvD a n D (H + 1) tk th d' → muD d' < m0 → DnE a n T K D H tk th m0 s' d'
  | empty (l : List Int) : s'.kind = 1 → D = H → tk + l.length = H → l = (th.drop tk).take l.length → BoxI a n (K + 1) D T H th s' → d' = .done 0 l → DnE a n T K D H tk th m0 s' d'
  | whole (l : List Int) : s'.kind = 2 → s'.at_ = (a : Int) → D = H + 1 → tk + l.length = H + 1 → l = (th.drop tk).take l.length → BoxI a n (K + 1) D T (H + 1) th s' → d' = .done 0 l → DnE a n T K D H tk th m0 s' d'
theorem dn_step (h : BoxI a n K D T H th s) (hd : InvD a n D H tk th d) (hK : K + 1 ≤ 1000000) : Fra a n s (d.step s).2 ∧ DnE a n T K D H tk th (muD d) (d.step s).2 (d.step s).1 := by
  have n1 := h.m.n1
  have n6 := h.m.n6
  have a9 := h.m.a9
  have hsm := h.m.small
  have hqn := h.m.qn
  have hlen := h.len
  have hdiv : D / n ≤ D := Nat.div_le_self _ _
  have hmod : D % n < n := Nat.mod_lt _ (by omega)
  have hslot := h.m.slot D (Nat.le_refl _) (by omega)
  have hR : (rgN a n).ok := ⟨by show (1 : Int) ≤ (n : Int); omega, by show (n : Int) ≤ 4096; omega⟩
  cases hd with
  | fr1 most hh l a1 a2 a3 a4 a5 =>
    have hl : s.load (a : Int) = _ := load_in (a := a) h.m.head
    have hs : (DnS.fr (rgN a n) most l (.go 1 (rgN a n) hh)).step s = (.fr (rgN a n) most l (.go 2 (rgN a n) (H : Int)), s.load (a : Int)) := by
      simp only [DnS.step, FrS.step, if_true, rgN]
      rw [hl]
      rfl
    rw [hs]
    refine ⟨Fra.same (by rw [hl]), .reads (by rw [hl]) a1 ⟨(h.m.more (Nat.le_succ _)).sameW (by rw [hl]), h.le⟩ (.fr2 most l a1 a2 a3 a4 a5) ?_⟩
    simp [muD]; omega
  | fr2 most l a1 a2 a3 a4 a5 =>
    subst a1
    have hl : s.load ((a + 2 + D % n : Nat) : Int) = _ := load_in hslot
    have hm' := (h.m.more (Nat.le_succ _)).sameW (s' := s.load ((a + 2 + D % n : Nat) : Int)) (by rw [hl])
    have hs : (DnS.fr (rgN a n) most l (.go 2 (rgN a n) (D : Int))).step s = (DnS.afterF (rgN a n) most l (look2 (rgN a n) D (wordN n D (th.drop D) D)), s.load ((a + 2 + D % n : Nat) : Int)) := by
      simp only [DnS.step, FrS.step, place_n n1 n6 a9]; rw [if_neg (by decide), hl]
    rw [hs]
    refine ⟨Fra.same (by rw [hl]), ?_⟩
    have hlap := lap_n (a := a) n1 (show D ≤ 1000000 by omega)
    by_cases hq : D < th.length
    · have hz : th[D]? = some th[D] := List.getElem?_eq_getElem hq
      have hdr : (th.drop D)[D - D]? = some th[D] := by rw [List.getElem?_drop]; simpa using hz
      have hmem : th[D] ∈ th.drop D := List.mem_of_getElem? hdr
      have hv := h.m.qv _ hmem
      have hk : look2 (rgN a n) D (wordN n D (th.drop D) D) = .done 0 D th[D] := by
        have hwd : wordN n D (th.drop D) D = ((D / n : Nat) : Int) * 4294967296 + 65536 + th[D] := by
          unfold wordN
          rw [if_pos (by simp; omega), hdr]; rfl
        unfold look2
        rw [hwd, hlap, full_f _ _ hv.1 hv.2, if_pos (by simp)]
        congr 1
        omega
      rw [hk]
      have hk2 : DnS.afterF (rgN a n) most l (.done 0 D th[D]) = .dr (rgN a n) most l th[D] (.go 1 (rgN a n) (D : Int)) := by
        unfold DnS.afterF
        simp only [FrS.over, if_true, FrS.err, FrS.val, FrS.at', newDr_go hR]
      rw [hk2]
      refine .reads (by rw [hl]) rfl ⟨hm', h.le⟩ (.dr1 most _ l rfl a2 a3 a4 a5 hz) ?_
      simp [muD]; omega
    · have hk : look2 (rgN a n) D (wordN n D (th.drop D) D) = .done 15 D 0 := by
        have hwd : wordN n D (th.drop D) D = ((D / n : Nat) : Int) * 4294967296 := by
          unfold wordN
          rw [if_neg (by simp; omega)]
        unfold look2
        rw [hwd, hlap, full_e, if_neg (by simp)]
      rw [hk]
      exact .empty l (by rw [hl]) rfl a2 a3 ⟨hm', h.le⟩ rfl
  | dr1 most v l a1 a2 a3 a4 a5 a6 =>
    subst a1
    have hst := store_in hslot (((D / n + 1 : Nat) : Int) * 4294967296)
    have hcl : clearI (rgN a n) D = ((D / n + 1 : Nat) : Int) * 4294967296 := by
      unfold clearI; rw [lap_n n1 (by omega)]; generalize D / n = k at *; omega
    have hlt : D < th.length := (List.getElem?_eq_some_iff.1 a6).1
    have hs : (DnS.dr (rgN a n) most l v (.go 1 (rgN a n) (D : Int))).step s = (.dr (rgN a n) most l v (.go 2 (rgN a n) (D : Int)), s.store ((a + 2 + D % n : Nat) : Int) (((D / n + 1 : Nat) : Int) * 4294967296)) := by
      simp only [DnS.step, DrS.step, place_n n1 n6 a9, if_true, hcl]
      rfl
    rw [hs]
    refine ⟨Fra.set (by rw [hst]) (by omega), .clears (by rw [hst]) (by rw [hst]; show ((a + 2 + D % n : Nat) : Int) ≠ (a : Int); omega) rfl ⟨?_, by omega⟩ (.dr2 most v l rfl a2 a3 a4 a5 a6) ?_⟩
    · have := (h.m.cleared (by simp; omega) (s' := s.store ((a + 2 + D % n : Nat) : Int) (((D / n + 1 : Nat) : Int) * 4294967296)) (by rw [hst])).more (Nat.le_succ K)
      rw [List.drop_drop] at this
      exact this
    · simp [muD]; omega
  | dr2 most v l a1 a2 a3 a4 a5 a6 =>
    have hst : s.store (a : Int) ((H + 1 : Nat) : Int) = _ := store_in (a := a) h.m.head ((H + 1 : Nat) : Int)
    have hw : IntKind.wrap .u64 ((H : Int) + 1) = ((H + 1 : Nat) : Int) := by rw [wrap_u64]; omega
    have hs : (DnS.dr (rgN a n) most l v (.go 2 (rgN a n) (H : Int))).step s = (DnS.afterD (rgN a n) most l v (.done 0), s.store (a : Int) ((H + 1 : Nat) : Int)) := by
      simp only [DnS.step, DrS.step, hw, rgN]
      rw [if_neg (by decide)]
    rw [hs]
    have hg : (th.drop tk)[l.length]? = some v := by rw [List.getElem?_drop, a2]; exact a6
    have a3' := take_more a3 v hg
    refine ⟨Fra.set (by rw [hst]) (by omega), ?_⟩
    have hb : BoxI a n (K + 1) D T (H + 1) th (s.store (a : Int) ((H + 1 : Nat) : Int)) := ⟨(h.m.more (Nat.le_succ _)).headed (by rw [hst]), h.le⟩
    unfold DnS.afterD
    simp only [DrS.over, if_true]
    by_cases hm : ((l ++ [v]).length : Int) < most
    · rw [if_pos hm, newFr_go hR]
      refine .heads (by rw [hst]) (by rw [hst]) a1 hb (.fr1 most 0 _ a1 (by simp; omega) a3' hm a5) ?_
      simp at hm
      simp [muD]; omega
    · rw [if_neg hm]
      exact .whole _ (by rw [hst]) (by rw [hst]) a1 (by simp; omega) a3' hb rfl
end
end Go.Proofs.Ytfmkihikmlcimaa.Lift

