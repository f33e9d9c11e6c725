/- contracts of the program's functions -/
import Derived.Test.YtdohlgkmaeipjaaGreatRa
import Derived.Test.YtdohlgkmaeipjaaGreatGhPR
import Derived.Test.YtdohlgkmaeipjaaGreatGhPC
import Derived.Test.YtdohlgkmaeipjaaGreatGhPD
import Derived.Test.YtdohlgkmaeipjaaGreatGhLS
import Derived.Test.YtdohlgkmaeipjaaGreatGhEQ
set_option linter.unusedVariables false
set_option linter.unusedSimpArgs false
set_option maxRecDepth 20000
namespace Go.Proofs.YtdohlgkmaeipjaaGreat.Lift
open Go Go.Proofs.YtdohlgkmaeipjaaGreat.Gh Go.Proofs
abbrev P0 (b : Nat) : Value := .pointer (some ⟨b, 0, none⟩)
/-! ### Mailboxes: what they are -/
structure MB where
  first : Int
  cores : Int
  room : Int
abbrev MB.cells (x : MB) : List Value := [.int .i64 x.first, .int .i64 x.cores, .int .i64 x.room]
abbrev MB.v (x : MB) : Value := .agg ⟨x.cells⟩
def MB.sized (x : MB) : Prop := 1 ≤ x.cores ∧ x.cores ≤ 64 ∧ 1 ≤ x.room ∧ x.room ≤ 16
def MB.placed (x : MB) : Prop := x.sized ∧ 0 ≤ x.first ∧ x.first < 4096
instance (x : MB) : Decidable x.sized := by unfold MB.sized; exact inferInstance
instance (x : MB) : Decidable x.placed := by unfold MB.placed; exact inferInstance
section
variable {x : MB} {G : GS}
theorem msized_ok (orc : FuncId → Bool) (x : MB) (G : GS) : ∃ G', (E orc).cl 135 [x.v] G = some (.bool (decide x.sized), G') ∧ Ext G G' := by
  refine ⟨G.push ⟨x.cells, 1, false, 1⟩, f135 (exL_ok Q orc) _ G _ ?_, (Ext.refl G).push _⟩
  unfold MB.sized
  by_cases h1 : 1 ≤ x.cores
  · by_cases h2 : x.cores ≤ 64
    · by_cases h3 : 1 ≤ x.room <;> simp [s135, h1, h2, h3]
    · simp [s135, h1, h2]
  · simp [s135, h1]
theorem mright_ok (orc : FuncId → Bool) (x : MB) (G : GS) : ∃ G', (E orc).cl 136 [x.v] G = some (.bool (decide x.sized), G') ∧ Ext G G' := by
  refine ⟨G.push ⟨x.cells, 1, false, 1⟩, f136 (exL_ok Q orc) _ G _ ?_, (Ext.refl G).push _⟩
  unfold MB.sized
  by_cases h1 : 1 ≤ x.cores
  · by_cases h2 : x.cores ≤ 64
    · by_cases h3 : 1 ≤ x.room <;> simp [s136, h1, h2, h3]
    · simp [s136, h1, h2]
  · simp [s136, h1]
/-- a box of one's own, and what a call leaves of it -/
theorem box_ext {cs : List Value} {G' : GS} (h : Ext (G.push ⟨cs, 1, false, 1⟩) G') : G'.obj G.nx = some ⟨cs, 1, false, 1⟩ := (h.obj G.nx (by simp)).trans (by simp)
theorem mplaced_ok (orc : FuncId → Bool) (x : MB) (G : GS) : ∃ G', (E orc).cl 131 [x.v] G = some (.bool (decide x.placed), G') ∧ Ext G G' := by
  obtain ⟨G1, e1, x1⟩ := msized_ok orc x (G.push ⟨x.cells, 1, false, 1⟩)
  have o1 := box_ext x1
  refine ⟨G1, f131 (exL_ok Q orc) _ G _ ?_, ((Ext.refl G).push _).trans x1⟩
  unfold MB.placed
  by_cases h1 : x.sized
  · by_cases h2 : 0 ≤ x.first <;> simp [s131, e1, o1, h1, h2]
  · simp [s131, e1, o1, h1]
theorem msound_ok (orc : FuncId → Bool) (x : MB) (G : GS) : ∃ G', (E orc).cl 133 [x.v] G = some (.bool (decide x.placed), G') ∧ Ext G G' := by
  obtain ⟨G1, e1, x1⟩ := mright_ok orc x (G.push ⟨x.cells, 1, false, 1⟩)
  have o1 := box_ext x1
  refine ⟨G1, f133 (exL_ok Q orc) _ G _ ?_, ((Ext.refl G).push _).trans x1⟩
  unfold MB.placed
  by_cases h1 : x.sized
  · by_cases h2 : 0 ≤ x.first <;> simp [s133, e1, o1, h1, h2]
  · simp [s133, e1, o1, h1]
def MB.size (x : MB) : Int := if x.sized then IntKind.wrap .i64 (x.cores * IntKind.wrap .i64 (x.room + 2)) else 0
theorem msize_ok (orc : FuncId → Bool) (x : MB) (G : GS) : ∃ G', (E orc).cl 35 [x.v] G = some (.int .i64 x.size, G') ∧ Ext G G' := by
  obtain ⟨G1, e1, x1⟩ := msized_ok orc x (G.push ⟨x.cells, 1, false, 1⟩)
  have o1 := box_ext x1
  refine ⟨G1, f35 (exL_ok Q orc) _ G _ ?_, ((Ext.refl G).push _).trans x1⟩
  unfold MB.size
  by_cases h1 : x.sized <;> simp [s35, e1, o1, h1]
theorem rsize_ok (orc : FuncId → Bool) (x : MB) (G : GS) : ∃ G', (E orc).cl 36 [x.v] G = some (.int .i64 x.size, G') ∧ Ext G G' := by
  obtain ⟨G1, e1, x1⟩ := mright_ok orc x (G.push ⟨x.cells, 1, false, 1⟩)
  have o1 := box_ext x1
  refine ⟨G1, f36 (exL_ok Q orc) _ G _ ?_, ((Ext.refl G).push _).trans x1⟩
  unfold MB.size
  by_cases h1 : x.sized <;> simp [s36, e1, o1, h1]
/-- why nothing may be done to a core's mailbox -/
def MB.ref (x : MB) (c : Int) : Int := if x.placed then (if c < 0 ∨ x.cores ≤ c then 3 else 0) else 2
theorem mref_ok (orc : FuncId → Bool) (x : MB) (c : Int) (G : GS) : ∃ G', (E orc).cl 234 [x.v, .int .i64 c] G = some (.int .i64 (x.ref c), G') ∧ Ext G G' := by
  obtain ⟨G1, e1, x1⟩ := mplaced_ok orc x (G.push ⟨x.cells, 1, false, 1⟩)
  have o1 := box_ext x1
  refine ⟨G1, f234 (exL_ok Q orc) _ _ G _ ?_, ((Ext.refl G).push _).trans x1⟩
  unfold MB.ref
  by_cases h1 : x.placed
  · by_cases h2 : c < 0
    · simp [s234, e1, o1, h1, h2]
    · by_cases h3 : x.cores ≤ c <;> simp [s234, e1, o1, h1, h2, h3]
  · simp [s234, e1, o1, h1]
theorem rref_ok (orc : FuncId → Bool) (x : MB) (c : Int) (G : GS) : ∃ G', (E orc).cl 236 [x.v, .int .i64 c] G = some (.int .i64 (x.ref c), G') ∧ Ext G G' := by
  obtain ⟨G1, e1, x1⟩ := msound_ok orc x (G.push ⟨x.cells, 1, false, 1⟩)
  have o1 := box_ext x1
  refine ⟨G1, f236 (exL_ok Q orc) _ _ G _ ?_, ((Ext.refl G).push _).trans x1⟩
  unfold MB.ref
  by_cases h1 : x.placed
  · by_cases h2 : c < 0
    · simp [s236, e1, o1, h1, h2]
    · by_cases h3 : x.cores ≤ c <;> simp [s236, e1, o1, h1, h2, h3]
  · simp [s236, e1, o1, h1]
/-- a core's ring -/
def MB.ring (x : MB) (c : Int) : List Value := [.int .i64 (IntKind.wrap .i64 (x.first + IntKind.wrap .i64 (c * IntKind.wrap .i64 (x.room + 2)))), .int .i64 (IntKind.wrap .i64 (IntKind.wrap .i64 (x.first + IntKind.wrap .i64 (c * IntKind.wrap .i64 (x.room + 2))) + 1)), .int .i64 (IntKind.wrap .i64 (IntKind.wrap .i64 (x.first + IntKind.wrap .i64 (c * IntKind.wrap .i64 (x.room + 2))) + 2)), .int .i64 x.room]
theorem rring_ok (orc : FuncId → Bool) (x : MB) (c : Int) (G : GS) : ∃ G', (E orc).cl 134 [x.v, .int .i64 c] G = some (.agg ⟨x.ring c⟩, G') ∧ Ext G G' := by
  refine ⟨((G.push ⟨x.cells, 1, false, 1⟩).push ⟨[.int .i64 0, .int .i64 0, .int .i64 0, .int .i64 0], 1, false, 1⟩).put (G.nx + 1) ⟨x.ring c, 1, false, 1⟩, f134 (exL_ok Q orc) _ _ G _ ?_, (((Ext.refl G).push _).push _).put (by omega) _⟩
  simp [s134, MB.ring]
/-- a core's ring, if there is one -/
def MB.box (x : MB) (c : Int) : Value := if x.placed ∧ 0 ≤ c ∧ c < x.cores then .tuple #[.agg ⟨x.ring c⟩, .bool true] else .tuple #[.agg ⟨[.int .i64 0, .int .i64 0, .int .i64 0, .int .i64 0]⟩, .bool false]
end
end Go.Proofs.YtdohlgkmaeipjaaGreat.Lift

set_option linter.unusedVariables false
set_option linter.unusedSimpArgs false
set_option maxRecDepth 20000
namespace Go.Proofs.YtdohlgkmaeipjaaGreat.Lift
open Go Go.Proofs.YtdohlgkmaeipjaaGreat.Gh Go.Proofs
/-! ### A core's ring: the program looks through all -/
noncomputable abbrev lpM (T : List Value) : Lp := ⟨.ready, none, T, [14, 15], (subAt [1, 1, 0, 1, 0, 0] (bodyOf Tryz.f33)), (subAt [1, 1, 0, 1, 0, 1] (bodyOf Tryz.f33))⟩
abbrev zR : List Value := [.int .i64 0, .int .i64 0, .int .i64 0, .int .i64 0]
/-- between two rounds -/
structure BxS (x : MB) (c : Int) (A : GS) (l xb cb rb fb : Nat) (T : List Value) (G : GS) : Prop where
  ext : Ext A G
  lp : G.loop l = some (lpM T)
  nl : A.nl ≤ l
  ox : G.obj xb = some ⟨x.cells, 1, false, 1⟩
  oc : G.obj cb = some ⟨[.int .i64 c], 1, false, 1⟩
  or : G.obj rb = some ⟨zR, 1, false, 1⟩
  of : G.obj fb = some ⟨[.bool false], 1, false, 1⟩
  lx : A.nx ≤ xb ∧ xb < G.nx
  lc : A.nx ≤ cb ∧ cb < G.nx
  lr : A.nx ≤ rb ∧ rb < G.nx
  lf : A.nx ≤ fb ∧ fb < G.nx
  ne : rb ≠ fb
/-- behind the round that found it -/
structure BxF (R : List Value) (A : GS) (l rb fb : Nat) (T : List Value) (G : GS) : Prop where
  ext : Ext A G
  lp : G.loop l = some { lpM T with st := .done, pend := some .ret }
  nl : A.nl ≤ l
  or : G.obj rb = some ⟨R, 1, false, 1⟩
  of : G.obj fb = some ⟨[.bool true], 1, false, 1⟩
section
variable {x : MB} {c : Int} {A G : GS} {l xb cb rb fb : Nat} {T : List Value}
theorem bx_round (orc : FuncId → Bool) {k : Int} (hT : T.length = 21) (t3 : nth undef T 3 = P0 cb) (t4 : nth undef T 4 = P0 rb) (t5 : nth undef T 5 = P0 fb) (h : BxS x c A l xb cb rb fb T G) (hk : ¬ k = c) (R : List Value) (hR : R.length = 4) (hR1 : R.all one = true) :
    Wp ((E orc).rd l [.int .i64 k, .agg ⟨R⟩] G) fun q => q.1 = .bool true ∧ BxS x c A l xb cb rb fb T q.2 := by
  refine Wp.ref (d33_0 (exL_ok Q orc) l T _ _ G h.lp hT) ?_
  match R, hR with
  | [r0, r1, r2, r3], _ =>
  simp at hR1
  obtain ⟨o0, o1, o2, o3⟩ := hR1
  obtain ⟨G1, hG1⟩ : ∃ G1, G1 = ((G.push ⟨zR, 1, false, 1⟩).put G.nx ⟨[r0, r1, r2, r3], 1, false, 1⟩) := ⟨_, rfl⟩
  have x1 : Ext G G1 := by rw [hG1]; exact ((Ext.refl G).push _).put (Nat.le_refl _) _
  have l1 : G1.loop l = some (lpM T) := by rw [hG1]; simpa using h.lp
  obtain ⟨G2, hG2⟩ : ∃ G2, G2 = G1.putLoop l (Lp.setSt (lpM T) .busy) := ⟨_, rfl⟩
  have n1 : G1.nx = G.nx + 1 := by rw [hG1]; rfl
  have ob1 : ∀ b, b < G.nx → G2.obj b = G.obj b := fun b hb => by rw [hG2]; simp only [obj_putLoop]; exact x1.obj b hb
  have l2 : G2.loop l = some (Lp.setSt (lpM T) .busy) := by rw [hG2]; simp
  have oc2 := (ob1 cb h.lc.2).trans h.oc
  have oc1 := (x1.obj cb h.lc.2).trans h.oc
  have hrd : roundEnd l .normal G2 = some (.bool true, G2.putLoop l (lpM T)) := by
    rw [roundEnd_some l .normal _ (j := none) rfl l2]
    rfl
  have x2 : Ext A G2 := by rw [hG2]; exact (h.ext.trans x1).putLoop h.nl _
  have n2 : G2.nx = G.nx + 1 := by rw [hG2, nx_putLoop, n1]
  simp [r33_0, t3, t4, t5, ← hG1, o0, o1, o2, o3, splice_put, splice_end]
  simp [l1, ← hG2, oc1, hk, hrd]
  exact ⟨x2.putLoop h.nl _, by simp, h.nl, by simpa using (ob1 xb h.lx.2).trans h.ox, by simpa using oc2, by simpa using (ob1 rb h.lr.2).trans h.or, by simpa using (ob1 fb h.lf.2).trans h.of, ⟨h.lx.1, by simp [n2]; have := h.lx.2; omega⟩, ⟨h.lc.1, by simp [n2]; have := h.lc.2; omega⟩, ⟨h.lr.1, by simp [n2]; have := h.lr.2; omega⟩, ⟨h.lf.1, by simp [n2]; have := h.lf.2; omega⟩, h.ne⟩
theorem bx_found (orc : FuncId → Bool) (hT : T.length = 21) (t3 : nth undef T 3 = P0 cb) (t4 : nth undef T 4 = P0 rb) (t5 : nth undef T 5 = P0 fb) (h : BxS x c A l xb cb rb fb T G) (R : List Value) (hR : R.length = 4) (hR1 : R.all one = true) :
    Wp ((E orc).rd l [.int .i64 c, .agg ⟨R⟩] G) fun q => q.1 = .bool false ∧ BxF R A l rb fb T q.2 := by
  refine Wp.ref (d33_0 (exL_ok Q orc) l T _ _ G h.lp hT) ?_
  match R, hR with
  | [r0, r1, r2, r3], _ =>
  simp at hR1
  obtain ⟨o0, o1, o2, o3⟩ := hR1
  obtain ⟨G1, hG1⟩ : ∃ G1, G1 = ((G.push ⟨zR, 1, false, 1⟩).put G.nx ⟨[r0, r1, r2, r3], 1, false, 1⟩) := ⟨_, rfl⟩
  have x1 : Ext G G1 := by rw [hG1]; exact ((Ext.refl G).push _).put (Nat.le_refl _) _
  have l1 : G1.loop l = some (lpM T) := by rw [hG1]; simpa using h.lp
  obtain ⟨G2, hG2⟩ : ∃ G2, G2 = G1.putLoop l (Lp.setSt (lpM T) .busy) := ⟨_, rfl⟩
  have n1 : G1.nx = G.nx + 1 := by rw [hG1]; rfl
  have l2 : G2.loop l = some (Lp.setSt (lpM T) .busy) := by rw [hG2]; simp
  have oc1 := (x1.obj cb h.lc.2).trans h.oc
  have or1 := (x1.obj rb h.lr.2).trans h.or
  have of1 := (x1.obj fb h.lf.2).trans h.of
  have on1 : G1.obj G.nx = some ⟨[r0, r1, r2, r3], 1, false, 1⟩ := by rw [hG1]; simp
  have x2 : Ext A G2 := by rw [hG2]; exact (h.ext.trans x1).putLoop h.nl _
  have ne := h.ne
  have ne' : ¬ fb = rb := fun e => ne e.symm
  obtain ⟨G3, hG3⟩ : ∃ G3, G3 = (G2.put rb ⟨[r0, r1, r2, r3], 1, false, 1⟩).put fb ⟨[.bool true], 1, false, 1⟩ := ⟨_, rfl⟩
  have l3 : G3.loop l = some (Lp.setSt (lpM T) .busy) := by rw [hG3]; simpa using l2
  have x3 : Ext A G3 := by rw [hG3]; exact (x2.put h.lr.1 _).put h.lf.1 _
  have hrd : roundEnd l .ret G3 = some (.bool false, G3.putLoop l { lpM T with st := .done, pend := some .ret }) := by
    rw [roundEnd_some l .ret _ (j := some .ret) rfl l3]
    rfl
  have oG2 : ∀ b, G2.obj b = G1.obj b := fun b => by rw [hG2]; simp
  simp [r33_0, t3, t4, t5, ← hG1, o0, o1, o2, o3, splice_put, splice_end]
  simp [l1, ← hG2, oc1, oG2, or1, of1, on1, ne, ne', o0, o1, o2, o3, splice_put, splice_end]
  rw [← hG3, hrd]
  simp
  refine ⟨x3.putLoop h.nl _, by simp, h.nl, ?_, ?_⟩
  · rw [hG3]; simp [ne]
  · rw [hG3]; simp
end
end Go.Proofs.YtdohlgkmaeipjaaGreat.Lift

set_option linter.unusedVariables false
set_option linter.unusedSimpArgs false
set_option maxRecDepth 20000
namespace Go.Proofs.YtdohlgkmaeipjaaGreat.Lift
open Go Go.Proofs.YtdohlgkmaeipjaaGreat.Gh Go.Proofs
section
variable {x : MB} {c : Int} {A G : GS} {l xb cb rb fb : Nat} {T : List Value}
/-- what boxes comes to -/
inductive BxE (x : MB) (c : Int) (A : GS) (l xb cb rb fb : Nat) (T : List Value) (i : Nat) (e : Exit) (G : GS) : Prop
  | no : e = .exit 0 → ¬ ((i : Int) ≤ c ∧ c < x.cores) → BxS x c A l xb cb rb fb T G → BxE x c A l xb cb rb fb T i e G
  | yes : e = .ret → ((i : Int) ≤ c ∧ c < x.cores) → BxF (x.ring c) A l rb fb T G → BxE x c A l xb cb rb fb T i e G
theorem ring_len (x : MB) (c : Int) : (x.ring c).length = 4 ∧ (x.ring c).all one = true := ⟨rfl, rfl⟩
theorem boxes_lp (orc : FuncId → Bool) (hT : T.length = 21) (t3 : nth undef T 3 = P0 cb) (t4 : nth undef T 4 = P0 rb) (t5 : nth undef T 5 = P0 fb) (hx : x.sized) : ∀ (k i : Nat) (τ : Env) (G : GS), (i : Int) + k = x.cores → τ 0 = .func (.yield l) #[] #[] → τ 1 = P0 xb → τ 6 = .int .i64 x.cores → τ 7 = .int .i64 i →
    BxS x c A l xb cb rb fb T G → Wp ((exL Q orc).lpx 233 0 τ G) fun r => BxE x c A l xb cb rb fb T i r.1 r.2.2 := by
  intro k
  induction k with
  | zero =>
    intro i τ G hi t0 t1 t6 t7 h
    refine Wp.lp (l233_0 (exL_ok Q orc)) ?_
    have hi' : ¬ (i : Int) < x.cores := by omega
    simp [-Int.natCast_add, b233_0, clip_t, t0, t1, t6, t7, hi']
    exact .no rfl (by omega) h
  | succ k ih =>
    intro i τ G hi t0 t1 t6 t7 h
    refine Wp.lp (l233_0 (exL_ok Q orc)) ?_
    have hi' : (i : Int) < x.cores := by omega
    have hx' := hx.2.1
    have hw : IntKind.wrap .i64 ((i : Int) + 1) = ((i + 1 : Nat) : Int) := wrap64 (by omega) (by omega)
    have ox := h.ox
    obtain ⟨R, hR⟩ : ∃ R, R = x.ring i := ⟨_, rfl⟩
    have hR' := hR
    unfold MB.ring at hR'
    by_cases hc : (i : Int) = c
    · obtain ⟨⟨v, G1⟩, e1, rfl, h1⟩ := bx_found orc hT t3 t4 t5 h R (by rw [hR]; rfl) (by rw [hR]; rfl)
      rw [← hc] at e1
      simp [-Int.natCast_add, b233_0, clip_t, t0, t1, t6, t7, hi', ox, ← hR', e1]
      rw [hR, hc] at h1
      exact .yes rfl (by omega) h1
    · obtain ⟨⟨v, G1⟩, e1, rfl, h1⟩ := bx_round orc hT t3 t4 t5 h hc R (by rw [hR]; rfl) (by rw [hR]; rfl)
      simp [-Int.natCast_add, b233_0, clip_t, t0, t1, t6, t7, hi', ox, ← hR', e1, hw]
      refine (ih (i + 1) _ G1 (by omega) (by simp [clip_t, t0]) (by simp [clip_t, t1]) (by simp [clip_t, t6]) (by simp [clip_t]) h1).mono ?_
      rintro r (⟨r1, r2, r3⟩ | ⟨r1, r2, r3⟩)
      · exact .no r1 (by omega) r3
      · exact .yes r1 (by omega) r3
theorem boxes_ok (orc : FuncId → Bool) (hT : T.length = 21) (t3 : nth undef T 3 = P0 cb) (t4 : nth undef T 4 = P0 rb) (t5 : nth undef T 5 = P0 fb) (hx : x.sized) (h : BxS x c A l xb cb rb fb T G) :
    ∃ G' e, (E orc).cl 233 [.func (.yield l) #[] #[], P0 xb] G = some (.tuple #[], G') ∧ BxE x c A l xb cb rb fb T 0 e G' := by
  have ox := h.ox
  have hx' := hx.1
  have w : Wp (s233 true (exL Q orc) (.func (.yield l) #[] #[]) (P0 xb) G) fun r => r.1 = .tuple #[] ∧ ∃ e, BxE x c A l xb cb rb fb T 0 e r.2 := by
    simp [s233, ox]
    refine Wp.bE ((boxes_lp orc hT t3 t4 t5 hx x.cores.toNat 0 _ G (by omega) (by simp [clip_t]) (by simp [clip_t]) (by simp [clip_t]) (by simp [clip_t]) h).mono ?_)
    rintro ⟨e, τ, G'⟩ hE
    simp only at hE
    have hE' := hE
    rcases hE with ⟨rfl, r2, r3⟩ | ⟨rfl, r2, r3⟩
    · simp; exact ⟨_, hE'⟩
    · simp; exact ⟨_, hE'⟩
  obtain ⟨⟨v, G'⟩, e1, rfl, e, e3⟩ := w
  exact ⟨G', e, f233 (exL_ok Q orc) _ _ G _ e1, e3⟩
end
theorem bclose_ok (orc : FuncId → Bool) (x : MB) (G : GS) : (E orc).cl 132 [x.v] G = some (.func (.func 233) #[] #[P0 G.nx], G.push ⟨x.cells, 1, false, 1⟩) := by
  refine f132 (exL_ok Q orc) _ G _ ?_
  simp [s132]
theorem mbox_ok (orc : FuncId → Bool) (x : MB) (c : Int) (G : GS) : ∃ G', (E orc).cl 33 [x.v, .int .i64 c] G = some (x.box c, G') ∧ Ext G G' := by
  obtain ⟨G3, hG3⟩ : ∃ G3, G3 = (((G.push ⟨x.cells, 1, false, 1⟩).push ⟨[.int .i64 c], 1, false, 1⟩).push ⟨zR, 1, false, 1⟩).push ⟨[.bool false], 1, false, 1⟩ := ⟨_, rfl⟩
  have x3 : Ext G G3 := by rw [hG3]; exact ((((Ext.refl G).push _).push _).push _).push _
  have n3 : G3.nx = G.nx + 4 := by rw [hG3]; rfl
  have o0 : G3.obj G.nx = some ⟨x.cells, 1, false, 1⟩ := by rw [hG3]; simp [Nat.add_assoc]
  have o1 : G3.obj (G.nx + 1) = some ⟨[.int .i64 c], 1, false, 1⟩ := by rw [hG3]; simp [Nat.add_assoc]
  have o2 : G3.obj (G.nx + 2) = some ⟨zR, 1, false, 1⟩ := by rw [hG3]; simp [Nat.add_assoc]
  have o3 : G3.obj (G.nx + 3) = some ⟨[.bool false], 1, false, 1⟩ := by rw [hG3]; simp [Nat.add_assoc]
  obtain ⟨G4, e4, x4⟩ := mplaced_ok orc x G3
  have p0 := (x4.obj G.nx (by omega)).trans o0
  have p1 := (x4.obj (G.nx + 1) (by omega)).trans o1
  have p2 := (x4.obj (G.nx + 2) (by omega)).trans o2
  have p3 := (x4.obj (G.nx + 3) (by omega)).trans o3
  have y4 := x3.trans x4
  have n4 := x4.nx
  have w : Wp (s33 true (exL Q orc) x.v (.int .i64 c) G) fun r => r.1 = x.box c ∧ Ext G r.2 := by
    unfold s33
    by_cases hp : x.placed
    · simp only [hp, decide_true] at e4
      have d0 : G.nx + 1 + 1 + 1 = G.nx + 3 := rfl
      have d1 : G.nx + 1 + 1 = G.nx + 2 := rfl
      simp [← hG3, o0, o1, o2, o3, e4, p0, bclose_ok]
      generalize hTT : lst 21 (tu (nth undef _) _) = T
      have hT : T.length = 21 := by rw [← hTT]; exact length_lst 21 _
      have t3 : nth undef T 3 = P0 (G.nx + 1) := by rw [← hTT, nth_lst]; simp [clip_t]
      have t4 : nth undef T 4 = P0 (G.nx + 2) := by rw [← hTT, nth_lst]; simp [clip_t]
      have t5 : nth undef T 5 = P0 (G.nx + 3) := by rw [← hTT, nth_lst]; simp [clip_t]
      clear hTT
      obtain ⟨G5, hG5⟩ : ∃ G5, G5 = (G4.push ⟨x.cells, 1, false, 1⟩).pushLoop (lpM T) := ⟨_, rfl⟩
      have x5 : Ext G G5 := by rw [hG5]; exact (y4.push _).pushLoop _
      have x5' : Ext G4 G5 := by rw [hG5]; exact ((Ext.refl G4).push _).pushLoop _
      have n5 : G5.nx = G4.nx + 1 := by rw [hG5]; rfl
      have l5 : G5.loop G4.nl = some (lpM T) := by rw [hG5]; simp
      have hS : BxS x c G G4.nl G4.nx (G.nx + 1) (G.nx + 2) (G.nx + 3) T G5 := ⟨x5, l5, y4.nl, by rw [hG5]; simp, (x5'.obj _ (by omega)).trans p1, (x5'.obj _ (by omega)).trans p2, (x5'.obj _ (by omega)).trans p3, by omega, by omega, by omega, by omega, by omega⟩
      obtain ⟨G6, e, e6, hE⟩ := boxes_ok orc hT t3 t4 t5 hp.1 hS
      rw [← hG5]
      simp only [List.nil_append, List.singleton_append, List.cons_append, e6]
      rcases hE with ⟨rfl, r2, r3⟩ | ⟨rfl, r2, r3⟩
      · have hb : x.box c = .tuple #[.agg ⟨zR⟩, .bool false] := by unfold MB.box; rw [if_neg (fun h => r2 ⟨by omega, h.2.2⟩)]
        rw [hb, xRangeEnd_some G4.nl T _ G6 r3.lp (by simp) rfl]
        have q2 := r3.or
        have q3 := r3.of
        simp [t4, t5, q2, q3, splice_put, splice_end]
        exact ((r3.ext.putLoop y4.nl _).put (by omega) _).put (by omega) _
      · have hb : x.box c = .tuple #[.agg ⟨x.ring c⟩, .bool true] := by unfold MB.box; rw [if_pos ⟨hp, by omega, r2.2⟩]
        rw [hb, xRangeEnd_some G4.nl T _ G6 r3.lp (by simp) rfl]
        have q2 := r3.or
        have q3 := r3.of
        have hl4 : 4 ≤ (x.ring c).length := by rw [(ring_len x c).1]; omega
        have htk : (x.ring c).take 4 = x.ring c := rfl
        simp [t4, t5, q2, q3, hl4, htk]
        exact r3.ext.putLoop y4.nl _
    · simp only [hp, decide_false] at e4
      have hb : x.box c = .tuple #[.agg ⟨zR⟩, .bool false] := by unfold MB.box; rw [if_neg (fun h => hp h.1)]
      rw [hb]
      simp [← hG3, o0, o1, o2, o3, e4, p0, p2, p3, splice_put, splice_end]
      exact (y4.put (by omega) _).put (by omega) _
  obtain ⟨⟨v, G'⟩, e1, rfl, e3⟩ := w
  exact ⟨G', f33 (exL_ok Q orc) _ _ G _ e1, e3⟩
end Go.Proofs.YtdohlgkmaeipjaaGreat.Lift

set_option linter.unusedVariables false
set_option linter.unusedSimpArgs false
set_option maxRecDepth 20000
namespace Go.Proofs.YtdohlgkmaeipjaaGreat.Lift
open Go Go.Proofs.YtdohlgkmaeipjaaGreat.Gh Go.Proofs
theorem rbox_ok (orc : FuncId → Bool) (x : MB) (c : Int) (G : GS) : ∃ G', (E orc).cl 34 [x.v, .int .i64 c] G = some (x.box c, G') ∧ Ext G G' := by
  obtain ⟨G3, hG3⟩ : ∃ G3, G3 = (G.push ⟨x.cells, 1, false, 1⟩).push ⟨zR, 1, false, 1⟩ := ⟨_, rfl⟩
  have x3 : Ext G G3 := by rw [hG3]; exact ((Ext.refl G).push _).push _
  have n3 : G3.nx = G.nx + 2 := by rw [hG3]; rfl
  have o0 : G3.obj G.nx = some ⟨x.cells, 1, false, 1⟩ := by rw [hG3]; simp
  have o1 : G3.obj (G.nx + 1) = some ⟨zR, 1, false, 1⟩ := by rw [hG3]; simp
  obtain ⟨G4, e4, x4⟩ := msound_ok orc x G3
  have p0 := (x4.obj G.nx (by omega)).trans o0
  have p1 := (x4.obj (G.nx + 1) (by omega)).trans o1
  have y4 := x3.trans x4
  have w : Wp (s34 true (exL Q orc) x.v (.int .i64 c) G) fun r => r.1 = x.box c ∧ Ext G r.2 := by
    unfold s34
    by_cases hp : x.placed
    · simp only [hp, decide_true] at e4
      by_cases h1 : c < 0
      · have hb : x.box c = .tuple #[.agg ⟨zR⟩, .bool false] := by unfold MB.box; rw [if_neg (by omega)]
        rw [hb]
        simp [← hG3, o0, o1, e4, p0, p1, h1, splice_put, splice_end]
        exact y4.put (by omega) _
      · by_cases h2 : x.cores ≤ c
        · have hb : x.box c = .tuple #[.agg ⟨zR⟩, .bool false] := by unfold MB.box; rw [if_neg (by omega)]
          rw [hb]
          simp [← hG3, o0, o1, e4, p0, p1, h1, h2, splice_put, splice_end]
          exact y4.put (by omega) _
        · have hb : x.box c = .tuple #[.agg ⟨x.ring c⟩, .bool true] := by unfold MB.box; rw [if_pos ⟨hp, by omega, by omega⟩]
          rw [hb]
          obtain ⟨G5, e5, x5⟩ := rring_ok orc x c G4
          have q1 := (x5.obj (G.nx + 1) (by have := x4.nx; omega)).trans p1
          simp [← hG3, o0, o1, e4, p0, p1, h1, h2, e5, q1]
          simp [MB.ring, splice_put, splice_end]
          exact (y4.trans x5).put (by omega) _
    · simp only [hp, decide_false] at e4
      have hb : x.box c = .tuple #[.agg ⟨zR⟩, .bool false] := by unfold MB.box; rw [if_neg (fun h => hp h.1)]
      rw [hb]
      simp [← hG3, o0, o1, e4, p0, p1, splice_put, splice_end]
      exact y4.put (by omega) _
  obtain ⟨⟨v, G'⟩, e1, rfl, e3⟩ := w
  exact ⟨G', f34 (exL_ok Q orc) _ _ G _ e1, e3⟩
/-! ### Operations of a ring are begun -/
section
variable {r0 r1 r2 n : Int} {G : GS}
theorem rsized_ok (orc : FuncId → Bool) (h1 : 1 ≤ n) (h2 : n ≤ 16) (r0 r1 r2 : Int) (G : GS) : (E orc).cl 311 [.agg ⟨[.int .i64 r0, .int .i64 r1, .int .i64 r2, .int .i64 n]⟩] G = some (.bool true, G.push ⟨[.int .i64 r0, .int .i64 r1, .int .i64 r2, .int .i64 n], 1, false, 1⟩) := by
  have h3 : n ≤ 4096 := by omega
  exact f311 (exL_ok Q orc) _ G _ (by simp [s311, h1, h3])
theorem begun_ok (orc : FuncId → Bool) (h1 : 1 ≤ n) (h2 : n ≤ 16) (r0 r1 r2 : Int) (G : GS) : ∃ G', (E orc).cl 304 [.agg ⟨[.int .i64 r0, .int .i64 r1, .int .i64 r2, .int .i64 n]⟩] G = some (.agg ⟨[.int .i64 r0, .int .i64 r1, .int .i64 r2, .int .i64 n, .nilFunc, .bool true, .int .i64 0]⟩, G') ∧ Ext G G' := by
  have w : Wp (s304 true (exL Q orc) (.agg ⟨[.int .i64 r0, .int .i64 r1, .int .i64 r2, .int .i64 n]⟩) G) fun r => r.1 = .agg ⟨[.int .i64 r0, .int .i64 r1, .int .i64 r2, .int .i64 n, .nilFunc, .bool true, .int .i64 0]⟩ ∧ Ext G r.2 := by
    simp [s304, rsized_ok orc h1 h2, splice_put, splice_end]
    exact ((((Ext.refl G).push _).push _).push _).put (by omega) _
  obtain ⟨⟨v, G'⟩, e1, rfl, e3⟩ := w
  exact ⟨G', f304 (exL_ok Q orc) _ G _ e1, e3⟩
theorem newpush_ok (orc : FuncId → Bool) {v : Int} (hv : 0 ≤ v ∧ v ≤ 65535) (h1 : 1 ≤ n) (h2 : n ≤ 16) (r0 r1 r2 : Int) (G : GS) : ∃ b G', (E orc).cl 235 [.agg ⟨[.int .i64 r0, .int .i64 r1, .int .i64 r2, .int .i64 n]⟩, .int .i64 v] G = some (P0 b, G') ∧ Ext G G' := by
  obtain ⟨G2, e2, x2⟩ := begun_ok orc h1 h2 r0 r1 r2 (G.push ⟨[.int .i64 r0, .int .i64 r1, .int .i64 r2, .int .i64 n], 1, false, 1⟩)
  have a1 : ¬ v < 0 := by omega
  have a2 : ¬ 65535 < v := by omega
  have y2 := ((Ext.refl G).push _).trans x2
  have w : Wp (s235 true (exL Q orc) (.agg ⟨[.int .i64 r0, .int .i64 r1, .int .i64 r2, .int .i64 n]⟩) (.int .i64 v) G) fun r => r.1 = P0 G2.nx ∧ Ext G r.2 := by
    simp [s235, e2, a1, a2]
    exact (y2.push _).put (by have := y2.nx; omega) _
  obtain ⟨⟨u, G'⟩, e1, rfl, e3⟩ := w
  exact ⟨_, G', f235 (exL_ok Q orc) _ _ G _ e1, e3⟩
theorem newfront_ok (orc : FuncId → Bool) (h1 : 1 ≤ n) (h2 : n ≤ 16) (r0 r1 r2 : Int) (G : GS) : ∃ b G', (E orc).cl 238 [.agg ⟨[.int .i64 r0, .int .i64 r1, .int .i64 r2, .int .i64 n]⟩] G = some (P0 b, G') ∧ Ext G G' := by
  obtain ⟨G2, e2, x2⟩ := begun_ok orc h1 h2 r0 r1 r2 (G.push ⟨[.int .i64 r0, .int .i64 r1, .int .i64 r2, .int .i64 n], 1, false, 1⟩)
  have y2 := ((Ext.refl G).push _).trans x2
  have w : Wp (s238 true (exL Q orc) (.agg ⟨[.int .i64 r0, .int .i64 r1, .int .i64 r2, .int .i64 n]⟩) G) fun r => r.1 = P0 G2.nx ∧ Ext G r.2 := by
    simp [s238, e2]
    exact (y2.push _).put (by have := y2.nx; omega) _
  obtain ⟨⟨u, G'⟩, e1, rfl, e3⟩ := w
  exact ⟨_, G', f238 (exL_ok Q orc) _ G _ e1, e3⟩
theorem rsz_ok (orc : FuncId → Bool) (h1 : 1 ≤ n) (h2 : n ≤ 16) (G : GS) : (E orc).cl 307 [.int .i64 n] G = some (.bool true, G) := by
  have h3 : n ≤ 4096 := by omega
  exact f307 (exL_ok Q orc) _ G _ (by simp [s307, h1, h3])
theorem rnewpush_ok (orc : FuncId → Bool) {v : Int} (hv : 0 ≤ v ∧ v ≤ 65535) (h1 : 1 ≤ n) (h2 : n ≤ 16) (r0 r1 r2 : Int) (G : GS) : ∃ b G', (E orc).cl 237 [.agg ⟨[.int .i64 r0, .int .i64 r1, .int .i64 r2, .int .i64 n]⟩, .int .i64 v] G = some (P0 b, G') ∧ Ext G G' := by
  have a1 : ¬ v < 0 := by omega
  have a2 : ¬ 65535 < v := by omega
  have w : Wp (s237 true (exL Q orc) (.agg ⟨[.int .i64 r0, .int .i64 r1, .int .i64 r2, .int .i64 n]⟩) (.int .i64 v) G) fun r => r.1 = P0 (G.nx + 1) ∧ Ext G r.2 := by
    simp [s237, rsz_ok orc h1 h2, a1, a2]
    exact ((Ext.refl G).push _).push _
  obtain ⟨⟨u, G'⟩, e1, rfl, e3⟩ := w
  exact ⟨_, G', f237 (exL_ok Q orc) _ _ G _ e1, e3⟩
theorem rnewfront_ok (orc : FuncId → Bool) (h1 : 1 ≤ n) (h2 : n ≤ 16) (r0 r1 r2 : Int) (G : GS) : ∃ b G', (E orc).cl 239 [.agg ⟨[.int .i64 r0, .int .i64 r1, .int .i64 r2, .int .i64 n]⟩] G = some (P0 b, G') ∧ Ext G G' := by
  have w : Wp (s239 true (exL Q orc) (.agg ⟨[.int .i64 r0, .int .i64 r1, .int .i64 r2, .int .i64 n]⟩) G) fun r => r.1 = P0 (G.nx + 1) ∧ Ext G r.2 := by
    simp [s239, rsz_ok orc h1 h2]
    exact ((Ext.refl G).push _).push _
  obtain ⟨⟨u, G'⟩, e1, rfl, e3⟩ := w
  exact ⟨_, G', f239 (exL_ok Q orc) _ G _ e1, e3⟩
end
end Go.Proofs.YtdohlgkmaeipjaaGreat.Lift

