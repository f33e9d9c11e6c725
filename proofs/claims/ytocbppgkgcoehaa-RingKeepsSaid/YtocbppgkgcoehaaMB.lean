/- contracts of the program's functions -/
import Derived.Test.YtocbppgkgcoehaaMA
import Derived.Test.YtocbppgkgcoehaaGhPD
set_option linter.unusedVariables false
set_option linter.unusedSimpArgs false
set_option maxRecDepth 20000
namespace Go.Proofs.Ytocbppgkgcoehaa.Lift
open Go Go.Proofs.Ytocbppgkgcoehaa.Gh Go.Proofs
/-! ### What is done to a memory, and to blocks of an operation's own -/
theorem sepP (m : Nat) (s : MS) : Sep fun A G => PMx A G m s := ⟨PMx.un, PMx.kept, PMx.mono⟩
theorem sepR (r : Nat) (s : MS) : Sep fun A G => RMx A G r s := ⟨RMx.un, RMx.kept, RMx.mono⟩
/-! ### Pushes -/
inductive PuS where
  | done (e : Int)
  | go (n : Nat) (R : Rg) (v t w : Int)
def PuS.ok : PuS → Prop
  | .done _ => True
  | .go n R v t w => 1 ≤ n ∧ n ≤ 5 ∧ R.ok ∧ 0 ≤ v ∧ v ≤ 65535 ∧ U t ∧ U w
def PuS.over : PuS → Bool
  | .done _ => true
  | .go .. => false
def PuS.err : PuS → Int
  | .done e => e
  | .go .. => 14
def look5 (R : Rg) (v t w : Int) : PuS := if emptyI w (lapI R t) = true then .go 3 R v t w else if fullI w ((lapI R t + 4294967295) % 4294967296) = true then .done 7 else .go 5 R v t w
def PuS.step : PuS → MS → PuS × MS
  | .done e, s => (.done e, s)
  | .go n R v t w, s =>
    if n = 1 then (.go 2 R v (s.load R.tail).new w, s.load R.tail)
    else if n = 2 then (look5 R v t (s.load (placeI R t)).new, s.load (placeI R t))
    else if n = 3 then (if (s.cas (placeI R t) w (wordI (lapI R t) v)).held = true then .go 4 R v t w else .go 5 R v t w, s.cas (placeI R t) w (wordI (lapI R t) v))
    else if n = 4 then (.done 0, s.cas R.tail t (IntKind.wrap .u64 (t + 1)))
    else (.go 1 R v t w, s.cas R.tail t (IntKind.wrap .u64 (t + 1)))
/-- all words are words -/
def MS.ok (s : MS) : Prop := (∀ w ∈ s.W, U w) ∧ s.W.length ≤ 4096
theorem MS.ok.word {s : MS} (h : s.ok) (i : Nat) : U ((s.W[i]?).getD 0) := by
  cases hq : s.W[i]? with
  | none => exact ⟨by decide, by decide⟩
  | some w => exact h.1 w (List.mem_of_getElem? hq)
theorem MS.ok.acc {s : MS} (h : s.ok) {u : Int → Int × Bool} (hu : ∀ w, U w → U (u w).1) (k a : Int) : (s.acc k a u).ok ∧ U (s.acc k a u).new := by
  unfold MS.acc
  split
  · refine ⟨⟨fun w hw => ?_, by simpa using h.2⟩, hu _ (h.word _)⟩
    rcases List.mem_or_eq_of_mem_set hw with hw | rfl
    · exact h.1 w hw
    · exact hu _ (h.word _)
  · exact ⟨h, (show (0:Int) ≤ 0 by decide), (show (0:Int) < 18446744073709551616 by decide)⟩
theorem MS.ok.load {s : MS} (h : s.ok) (a : Int) : (s.load a).ok ∧ U (s.load a).new := h.acc (fun w hw => hw) 1 a
theorem MS.ok.store {s : MS} (h : s.ok) (a : Int) {v : Int} (hv : U v) : (s.store a v).ok := (h.acc (fun w hw => hv) 2 a).1
theorem MS.ok.cas {s : MS} (h : s.ok) (a x : Int) {y : Int} (hy : U y) : (s.cas a x y).ok := (h.acc (fun w hw => by unfold uCas; split <;> assumption) 3 a).1
theorem U_wrap (x : Int) : U (IntKind.wrap .u64 x) := by rw [wrap_u64]; unfold U; omega
theorem U_word {R : Rg} {t v : Int} (h0 : 0 ≤ v) (h1 : v ≤ 65535) : U (wordI (lapI R t) v) := by have := lapI_lt R t; unfold wordI U; omega
theorem PuS.ok.step {p : PuS} {s : MS} (hp : p.ok) (hs : s.ok) : (p.step s).1.ok ∧ (p.step s).2.ok := by
  cases p with
  | done e => exact ⟨hp, hs⟩
  | go n R v t w =>
    obtain ⟨h1, h2, h3, h4, h5, h6, h7⟩ := hp
    simp only [PuS.step]
    split
    · exact ⟨⟨by decide, by decide, h3, h4, h5, (hs.load _).2, h7⟩, (hs.load _).1⟩
    · split
      · refine ⟨?_, (hs.load _).1⟩
        unfold look5
        split
        · exact ⟨by decide, by decide, h3, h4, h5, h6, (hs.load _).2⟩
        · split
          · trivial
          · exact ⟨by decide, by decide, h3, h4, h5, h6, (hs.load _).2⟩
      · split
        · refine ⟨?_, hs.cas _ _ (U_word h4 h5)⟩
          split
          · exact ⟨by decide, by decide, h3, h4, h5, h6, h7⟩
          · exact ⟨by decide, by decide, h3, h4, h5, h6, h7⟩
        · split
          · exact ⟨trivial, hs.cas _ _ (U_wrap _)⟩
          · exact ⟨⟨by decide, by decide, h3, h4, h5, h6, h7⟩, hs.cas _ _ (U_wrap _)⟩
def pNext (b n : Nat) : Value := .func (.func (if n = 1 then 48 else if n = 2 then 84 else if n = 3 then 101 else if n = 4 then 109 else 102)) #[P0 b] #[]
def PuR (G : GS) (b : Nat) : PuS → Prop
  | .done e => ∃ h t s z v t' w, G.obj b = some ⟨[.int .i64 h, .int .i64 t, .int .i64 s, .int .i64 z, .nilFunc, .bool true, .int .i64 e, .int .i64 v, .int .u64 t', .int .u64 w], 1, false, 1⟩
  | .go n R v t w => G.obj b = some ⟨[.int .i64 R.head, .int .i64 R.tail, .int .i64 R.slots, .int .i64 R.size, pNext b n, .bool true, .int .i64 0, .int .i64 v, .int .u64 t, .int .u64 w], 1, false, 1⟩
theorem PuR.kept {G G' : GS} {b : Nat} {p : PuS} (h : PuR G b p) (hk : G'.obj b = G.obj b) : PuR G' b p := by
  cases p with
  | done e => obtain ⟨a, t, s, z, v, t', w, h⟩ := h; exact ⟨a, t, s, z, v, t', w, hk.trans h⟩
  | go n R v t w => exact hk.trans h
section
variable {A : Nat → Prop} {G : GS} {m bb b : Nat} {rest : List Int} {s : MS} {R : Rg} {v t w : Int}
/-- it has ended: two words of work are written -/
theorem ends_ok (orc : FuncId → Bool) {c0 c1 c2 c3 c4 c5 c6 : Value} {r : List Value} {ez : Nat} {op : Bool} (ho : G.obj b = some ⟨c0 :: c1 :: c2 :: c3 :: c4 :: c5 :: c6 :: r, ez, op, 1⟩) (e : Int) :
    (E orc).cl 47 [P0 b, .int .i64 e] G = some (.tuple #[], (G.put b ⟨c0 :: c1 :: c2 :: c3 :: .nilFunc :: c5 :: c6 :: r, ez, op, 1⟩).put b ⟨c0 :: c1 :: c2 :: c3 :: .nilFunc :: c5 :: .int .i64 e :: r, ez, op, 1⟩) := by
  refine f47 (exL_ok Q orc) _ _ G _ ?_
  simp [s47, ho]
/-- a Push's own steps -/
theorem tail_ok (orc : FuncId → Bool) (h : PMx A G m s) (ha : ¬ A b) (hb : b < G.nx) (hp : PuR G b (.go 1 R v t w)) :
    Wp ((E orc).cl 48 [P0 b, P0 m] G) fun r => r.1 = .tuple #[] ∧ Thr (fun A G => PMx A G m (s.load R.tail)) A b G r.2 ∧ PuR r.2 b (.go 2 R v (s.load R.tail).new w) := by
  refine Wp.ref (f48 (exL_ok Q orc) _ _ G) ?_
  obtain ⟨bb, rest, hm⟩ := h
  obtain ⟨⟨x, G1⟩, e, rfl, q2, q3⟩ := load_ok orc hm R.tail
  simp only at q2 q3
  have hp' : G.obj b = _ := hp
  have o1 := (q2.obj b hb ha).trans hp'
  simp [s48, hp', e, o1]
  have th := Thr.of (P := fun A G => PMx A G m (s.load R.tail)) (b := b) q2 q3
  exact ⟨(th.put (sepP m _) ha hb _).put (sepP m _) ha hb _, by simp [PuR, pNext]⟩
theorem last_ok' (orc : FuncId → Bool) (h : PMx A G m s) (ha : ¬ A b) (hb : b < G.nx) (hp : PuR G b (.go 4 R v t w)) :
    Wp ((E orc).cl 109 [P0 b, P0 m] G) fun r => r.1 = .tuple #[] ∧ Thr (fun A G => PMx A G m (s.cas R.tail t (IntKind.wrap .u64 (t + 1)))) A b G r.2 ∧ PuR r.2 b (.done 0) := by
  refine Wp.ref (f109 (exL_ok Q orc) _ _ G) ?_
  have th0 := (Thr.refl (sepP m s) (b := b) h).ext (sepP m s) ((Ext.refl G).room 17)
  obtain ⟨bb, rest, hm⟩ := th0.st
  obtain ⟨⟨x, G1⟩, e, rfl, q2, q3⟩ := cas_ok orc hm R.tail t (IntKind.wrap .u64 (t + 1))
  simp only at q2 q3
  have hp' : G.obj b = _ := hp
  have th := th0.acc (sepP m s) (sepP m _) q2 q3
  have o1 := (q2.obj b (by simp; omega) (Thr.notIn ha hb)).trans hp'
  have hend := ends_ok orc o1 0
  simp [s109, hp', e, o1, hend]
  exact ⟨(th.put (sepP m _) ha hb _).put (sepP m _) ha hb _, by simp [PuR]⟩
theorem help_ok (orc : FuncId → Bool) (h : PMx A G m s) (ha : ¬ A b) (hb : b < G.nx) (hp : PuR G b (.go 5 R v t w)) :
    Wp ((E orc).cl 102 [P0 b, P0 m] G) fun r => r.1 = .tuple #[] ∧ Thr (fun A G => PMx A G m (s.cas R.tail t (IntKind.wrap .u64 (t + 1)))) A b G r.2 ∧ PuR r.2 b (.go 1 R v t w) := by
  refine Wp.ref (f102 (exL_ok Q orc) _ _ G) ?_
  have th0 := (Thr.refl (sepP m s) (b := b) h).ext (sepP m s) ((Ext.refl G).room 17)
  obtain ⟨bb, rest, hm⟩ := th0.st
  obtain ⟨⟨x, G1⟩, e, rfl, q2, q3⟩ := cas_ok orc hm R.tail t (IntKind.wrap .u64 (t + 1))
  simp only at q2 q3
  have hp' : G.obj b = _ := hp
  have th := th0.acc (sepP m s) (sepP m _) q2 q3
  have o1 := (q2.obj b (by simp; omega) (Thr.notIn ha hb)).trans hp'
  simp [s102, hp', e, o1]
  exact ⟨th.put (sepP m _) ha hb _, by simp [PuR, pNext]⟩
theorem look_ok (orc : FuncId → Bool) (h : PMx A G m s) (hs : s.ok) (hR : R.ok) (ht : U t) (ha : ¬ A b) (hb : b < G.nx) (hp : PuR G b (.go 2 R v t w)) :
    Wp ((E orc).cl 84 [P0 b, P0 m] G) fun r => r.1 = .tuple #[] ∧ Thr (fun A G => PMx A G m (s.load (placeI R t))) A b G r.2 ∧ PuR r.2 b (look5 R v t (s.load (placeI R t)).new) := by
  refine Wp.ref (f84 (exL_ok Q orc) _ _ G) ?_
  have hp' : G.obj b = _ := hp
  have x0 : Ext G (G.room 16) := (Ext.refl G).room 16
  obtain ⟨G1, e1, x1⟩ := place_ok orc hR ht (G.room 16)
  have y1 := x0.trans x1
  have th0 := (Thr.refl (sepP m s) (b := b) h).ext (sepP m s) y1
  obtain ⟨bb, rest, hm⟩ := th0.st
  obtain ⟨⟨x, G2⟩, e2, rfl, q2, q3⟩ := load_ok orc hm (placeI R t)
  simp only at q2 q3
  have th := th0.acc (sepP m s) (sepP m _) q2 q3
  have n1 := y1.nx
  have o2 := (q2.obj b (by omega) (Thr.notIn ha hb)).trans ((y1.obj b hb).trans hp')
  have hw := (hs.load (placeI R t)).2
  generalize hs' : s.load (placeI R t) = s' at *
  generalize hx : s'.new = x at *
  obtain ⟨G3, hG3⟩ : ∃ G3, G3 = G2.put b ⟨[.int .i64 R.head, .int .i64 R.tail, .int .i64 R.slots, .int .i64 R.size, pNext b 2, .bool true, .int .i64 0, .int .i64 v, .int .u64 t, .int .u64 x], 1, false, 1⟩ := ⟨_, rfl⟩
  have o3 : G3.obj b = some ⟨[.int .i64 R.head, .int .i64 R.tail, .int .i64 R.slots, .int .i64 R.size, pNext b 2, .bool true, .int .i64 0, .int .i64 v, .int .u64 t, .int .u64 x], 1, false, 1⟩ := by rw [hG3]; simp
  have th3 : Thr (fun A G => PMx A G m s') A b G G3 := by rw [hG3]; exact th.put (sepP m _) ha hb _
  obtain ⟨G4, e4, x4⟩ := lap_ok orc hR ht (G3.room 11)
  have y4 := ((Ext.refl G3).room 11).trans x4
  have th4 := th3.ext (sepP m _) y4
  have hb3 : b < G3.nx := Nat.lt_of_lt_of_le hb th3.mod.nx
  have o4 := (y4.obj b hb3).trans o3
  have hl := lapI_lt R t
  have e5 := empty_ok orc (l := lapI R t) hw G4
  have e6 := full_ok orc (l := (lapI R t + 4294967295) % 4294967296) hw G4
  have hsub : IntKind.wrap .u32 (lapI R t - 1) = (lapI R t + 4294967295) % 4294967296 := by rw [wrap_u32]; omega
  have hend := ends_ok orc o4 7
  unfold look5
  by_cases c1 : emptyI x (lapI R t) = true
  · rw [if_pos c1]
    rw [c1] at e5
    simp [s84, hp', e1, e2, o2, ← hG3, o3, e4, o4, e5]
    exact ⟨th4.put (sepP m _) ha hb _, by simp [PuR, pNext]⟩
  · rw [if_neg c1]
    rw [Bool.not_eq_true] at c1
    rw [c1] at e5
    by_cases c2 : fullI x ((lapI R t + 4294967295) % 4294967296) = true
    · rw [if_pos c2]
      rw [c2] at e6
      simp [s84, hp', e1, e2, o2, ← hG3, o3, e4, o4, e5, hsub, e6, hend]
      exact ⟨(th4.put (sepP m _) ha hb _).put (sepP m _) ha hb _, by simp [PuR]⟩
    · rw [if_neg c2]
      rw [Bool.not_eq_true] at c2
      rw [c2] at e6
      simp [s84, hp', e1, e2, o2, ← hG3, o3, e4, o4, e5, hsub, e6]
      exact ⟨th4.put (sepP m _) ha hb _, by simp [PuR, pNext]⟩
end
end Go.Proofs.Ytocbppgkgcoehaa.Lift

set_option linter.unusedVariables false
set_option linter.unusedSimpArgs false
set_option maxRecDepth 20000
namespace Go.Proofs.Ytocbppgkgcoehaa.Lift
open Go Go.Proofs.Ytocbppgkgcoehaa.Gh Go.Proofs
section
variable {A : Nat → Prop} {G : GS} {m r bb b : Nat} {rest : List Int} {s : MS} {R : Rg} {v t w : Int}
theorem lay_ok (orc : FuncId → Bool) (h : PMx A G m s) (hR : R.ok) (ht : U t) (hv0 : 0 ≤ v) (hv1 : v ≤ 65535) (ha : ¬ A b) (hb : b < G.nx) (hp : PuR G b (.go 3 R v t w)) :
    Wp ((E orc).cl 101 [P0 b, P0 m] G) fun r => r.1 = .tuple #[] ∧ Thr (fun A G => PMx A G m (s.cas (placeI R t) w (wordI (lapI R t) v))) A b G r.2 ∧ PuR r.2 b (if (s.cas (placeI R t) w (wordI (lapI R t) v)).held = true then .go 4 R v t w else .go 5 R v t w) := by
  refine Wp.ref (f101 (exL_ok Q orc) _ _ G) ?_
  have hp' : G.obj b = _ := hp
  obtain ⟨G0, hG0⟩ : ∃ G0, G0 = G.put b ⟨[.int .i64 R.head, .int .i64 R.tail, .int .i64 R.slots, .int .i64 R.size, .func (.func 102) #[P0 b] #[], .bool true, .int .i64 0, .int .i64 v, .int .u64 t, .int .u64 w], 1, false, 1⟩ := ⟨_, rfl⟩
  have th0 : Thr (fun A G => PMx A G m s) A b G G0 := by rw [hG0]; exact (Thr.refl (sepP m s) h).put (sepP m s) ha hb _
  have o0 : G0.obj b = some ⟨[.int .i64 R.head, .int .i64 R.tail, .int .i64 R.slots, .int .i64 R.size, .func (.func 102) #[P0 b] #[], .bool true, .int .i64 0, .int .i64 v, .int .u64 t, .int .u64 w], 1, false, 1⟩ := by rw [hG0]; simp
  have hb0 : b < G0.nx := Nat.lt_of_lt_of_le hb th0.mod.nx
  have x0 : Ext G0 (G0.room 32) := (Ext.refl G0).room 32
  obtain ⟨G1, e1, x1⟩ := place_ok orc hR ht (G0.room 32)
  have y1 := x0.trans x1
  obtain ⟨G2, e2, x2⟩ := lap_ok orc hR ht G1
  have y2 := y1.trans x2
  have hl := lapI_lt R t
  have e3 := of_ok orc hl.1 hl.2 G2
  have e4 := with_ok orc hl.1 hl.2 hv0 hv1 G2
  have th2 := th0.ext (sepP m s) y2
  obtain ⟨bb, rest, hm⟩ := th2.st
  obtain ⟨⟨x, G3⟩, e5, rfl, q2, q3⟩ := cas_ok orc hm (placeI R t) w (wordI (lapI R t) v)
  simp only at q2 q3
  have th3 := th2.acc (sepP m s) (sepP m _) q2 q3
  have o1 := (y1.obj b hb0).trans o0
  have o2 := (y2.obj b hb0).trans o0
  have hb2 : b < G2.nx := Nat.lt_of_lt_of_le hb0 y2.nx
  have o3 := (q2.obj b hb2 (Thr.notIn ha hb)).trans o2
  cases hh : (s.cas (placeI R t) w (wordI (lapI R t) v)).held with
  | true =>
    rw [hh] at e5
    simp [s101, hp', ← hG0, o0, e1, o1, e2, o2, e3, e4, e5, o3]
    exact ⟨th3.put (sepP m _) ha hb _, by simp [PuR, pNext]⟩
  | false =>
    rw [hh] at e5
    simp [s101, hp', ← hG0, o0, e1, o1, e2, o2, e3, e4, e5, o3]
    exact ⟨th3, by simpa [PuR, pNext] using o3⟩
/-- a Push's step -/
theorem push_ok (orc : FuncId → Bool) {p : PuS} (h : PMx A G m s) (hs : s.ok) (hpo : p.ok) (ha : ¬ A b) (hb : b < G.nx) (hp : PuR G b p) :
    Wp ((E orc).cl 15 [P0 b, P0 m] G) fun q => q.1 = .bool (p.step s).1.over ∧ Thr (fun A G => PMx A G m (p.step s).2) A b G q.2 ∧ PuR q.2 b (p.step s).1 := by
  have w52 : Wp ((E orc).cl 52 [P0 b, P0 m] G) fun q => q.1 = .bool (p.step s).1.over ∧ Thr (fun A G => PMx A G m (p.step s).2) A b G q.2 ∧ PuR q.2 b (p.step s).1 := by
    refine Wp.ref (f52 (exL_ok Q orc) _ _ G) ?_
    cases p with
    | done e =>
      have hp0 := hp
      obtain ⟨a0, a1, a2, a3, a4, a5, a6, hp'⟩ := hp
      simp [s52, sb52, j52_0, jb52_0, clip_t, hp', PuS.step, PuS.over]
      exact ⟨Thr.refl (sepP m s) h, hp0⟩
    | go n R v t w =>
      obtain ⟨h1, h2, h3, h4, h5, h6, h7⟩ := hpo
      have hp' : G.obj b = _ := hp
      have hn : n = 1 ∨ n = 2 ∨ n = 3 ∨ n = 4 ∨ n = 5 := by omega
      rcases hn with rfl | rfl | rfl | rfl | rfl
      · obtain ⟨⟨x, G1⟩, e, rfl, q1, q2⟩ := tail_ok orc h ha hb hp
        have q2' : G1.obj b = _ := q2
        simp only at q1 q2
        simp [s52, sb52, j52_0, jb52_0, clip_t, hp', pNext, e, q2', PuS.step, PuS.over]
        exact ⟨q1, q2⟩
      · obtain ⟨⟨x, G1⟩, e, rfl, q1, q2⟩ := look_ok orc h hs h3 h6 ha hb hp
        simp only at q1 q2
        simp only [PuS.step, if_neg (show ¬ (2 : Nat) = 1 by decide), if_true]
        generalize look5 R v t (s.load (placeI R t)).new = st' at *
        cases st' with
        | done e' =>
          have q0 := q2
          obtain ⟨a0, a1, a2, a3, a4, a5, a6, q2'⟩ := q2
          simp [s52, sb52, j52_0, jb52_0, clip_t, hp', pNext, e, q2', PuS.over]
          exact ⟨q1, q0⟩
        | go n' R' v' t' w' =>
          have q2' : G1.obj b = _ := q2
          simp [s52, sb52, j52_0, jb52_0, clip_t, hp', pNext, e, q2', PuS.over]
          exact ⟨q1, q2⟩
      · obtain ⟨⟨x, G1⟩, e, rfl, q1, q2⟩ := lay_ok orc h h3 h6 h4 h5 ha hb hp
        simp only at q1 q2
        simp only [PuS.step, if_neg (show ¬ (3 : Nat) = 1 by decide), if_neg (show ¬ (3 : Nat) = 2 by decide), if_true]
        cases hh : (s.cas (placeI R t) w (wordI (lapI R t) v)).held with
        | true =>
          simp only [hh, if_true] at q2
          have q2' : G1.obj b = _ := q2
          simp [s52, sb52, j52_0, jb52_0, clip_t, hp', pNext, e, q2', PuS.over]
          exact ⟨q1, q2⟩
        | false =>
          simp only [hh, if_false, Bool.false_eq_true] at q2
          have q2' : G1.obj b = _ := q2
          simp [s52, sb52, j52_0, jb52_0, clip_t, hp', pNext, e, q2', PuS.over]
          exact ⟨q1, q2⟩
      · obtain ⟨⟨x, G1⟩, e, rfl, q1, q2⟩ := last_ok' orc h ha hb hp
        simp only at q1 q2
        have q0 := q2
        obtain ⟨a0, a1, a2, a3, a4, a5, a6, q2'⟩ := q2
        simp [s52, sb52, j52_0, jb52_0, clip_t, hp', pNext, e, q2', PuS.step, PuS.over]
        exact ⟨q1, q0⟩
      · obtain ⟨⟨x, G1⟩, e, rfl, q1, q2⟩ := help_ok orc h ha hb hp
        have q2' : G1.obj b = _ := q2
        simp only at q1 q2
        simp [s52, sb52, j52_0, jb52_0, clip_t, hp', pNext, e, q2', PuS.step, PuS.over]
        exact ⟨q1, q2⟩
  obtain ⟨⟨x, G1⟩, e, rfl, q⟩ := w52
  refine Wp.ref (f15 (exL_ok Q orc) _ _ G) ?_
  simp [s15, e]
  exact q
theorem pusherr_ok (orc : FuncId → Bool) {p : PuS} (hp : PuR G b p) : (E orc).cl 16 [P0 b] G = some (.int .i64 p.err, G) := by
  have h53 : (E orc).cl 53 [P0 b] G = some (.int .i64 p.err, G) := by
    refine f53 (exL_ok Q orc) _ G _ ?_
    cases p with
    | done e =>
      obtain ⟨a0, a1, a2, a3, a4, a5, a6, hp'⟩ := hp
      simp [s53, hp', PuS.err]
    | go n R v t w =>
      have hp' : G.obj b = _ := hp
      simp [s53, hp', pNext, PuS.err]
  exact f16 (exL_ok Q orc) _ G _ (by simp [s16, h53])
/-! ### The document's Push -/
def RuR (G : GS) (b : Nat) : PuS → Prop
  | .done e => ∃ h t s z v t' w, G.obj b = some ⟨[.int .i64 h, .int .i64 t, .int .i64 s, .int .i64 z, .int .i64 v, .int .i64 9, .int .u64 t', .int .u64 w, .int .i64 e], 1, false, 1⟩
  | .go n R v t w => G.obj b = some ⟨[.int .i64 R.head, .int .i64 R.tail, .int .i64 R.slots, .int .i64 R.size, .int .i64 v, .int .i64 n, .int .u64 t, .int .u64 w, .int .i64 0], 1, false, 1⟩
theorem RuR.kept {G G' : GS} {b : Nat} {p : PuS} (h : RuR G b p) (hk : G'.obj b = G.obj b) : RuR G' b p := by
  cases p with
  | done e => obtain ⟨a, t, s, z, v, t', w, h⟩ := h; exact ⟨a, t, s, z, v, t', w, hk.trans h⟩
  | go n R v t w => exact hk.trans h
theorem reads_ok (orc : FuncId → Bool) (h : RMx A G r s) (hs : s.ok) (hR : R.ok) (ht : U t) (ha : ¬ A b) (hb : b < G.nx) (hp : RuR G b (.go 2 R v t w)) :
    Wp ((E orc).cl 97 [P0 b, P0 r] G) fun q => q.1 = .tuple #[] ∧ Thr (fun A G => RMx A G r (s.load (placeI R t))) A b G q.2 ∧ RuR q.2 b (look5 R v t (s.load (placeI R t)).new) := by
  refine Wp.ref (f97 (exL_ok Q orc) _ _ G) ?_
  have hp' : G.obj b = _ := hp
  have x0 : Ext G (G.room 15) := (Ext.refl G).room 15
  obtain ⟨G1, e1, x1⟩ := rplace_ok orc hR ht (G.room 15)
  have y1 := x0.trans x1
  have th0 := (Thr.refl (sepR r s) (b := b) h).ext (sepR r s) y1
  obtain ⟨wb, hm⟩ := th0.st
  obtain ⟨⟨x, G2⟩, e2, rfl, q2, q3⟩ := rload_ok orc hm (placeI R t)
  simp only at q2 q3
  have th := th0.acc (sepR r s) (sepR r _) q2 q3
  have n1 := y1.nx
  have o2 := (q2.obj b (by omega) (Thr.notIn ha hb)).trans ((y1.obj b hb).trans hp')
  have hw := (hs.load (placeI R t)).2
  generalize hs' : s.load (placeI R t) = s' at *
  generalize hx : s'.new = x at *
  obtain ⟨G3, hG3⟩ : ∃ G3, G3 = G2.put b ⟨[.int .i64 R.head, .int .i64 R.tail, .int .i64 R.slots, .int .i64 R.size, .int .i64 v, .int .i64 2, .int .u64 t, .int .u64 x, .int .i64 0], 1, false, 1⟩ := ⟨_, rfl⟩
  have o3 : G3.obj b = some ⟨[.int .i64 R.head, .int .i64 R.tail, .int .i64 R.slots, .int .i64 R.size, .int .i64 v, .int .i64 2, .int .u64 t, .int .u64 x, .int .i64 0], 1, false, 1⟩ := by rw [hG3]; simp
  have th3 : Thr (fun A G => RMx A G r s') A b G G3 := by rw [hG3]; exact th.put (sepR r _) ha hb _
  obtain ⟨G4, e4, x4⟩ := rlap_ok orc hR ht (G3.room 10)
  have y4 := ((Ext.refl G3).room 10).trans x4
  have th4 := th3.ext (sepR r _) y4
  have hb3 : b < G3.nx := Nat.lt_of_lt_of_le hb th3.mod.nx
  have o4 := (y4.obj b hb3).trans o3
  have hl := lapI_lt R t
  have e5 := rempty_ok orc (l := lapI R t) hw G4
  have e6 := rfull_ok orc (l := (lapI R t + 4294967295) % 4294967296) hw G4
  have hw1 : IntKind.wrap .u64 (lapI R t + 4294967296) = lapI R t + 4294967296 := by rw [wrap_u64]; omega
  have hw2 : IntKind.wrap .u64 (lapI R t + 4294967296 - 1) = lapI R t + 4294967295 := by rw [wrap_u64]; omega
  have hw3 : (lapI R t + 4294967295).tmod 4294967296 = (lapI R t + 4294967295) % 4294967296 := Int.tmod_eq_emod_of_nonneg (by omega)
  unfold look5
  by_cases c1 : emptyI x (lapI R t) = true
  · rw [if_pos c1]
    rw [c1] at e5
    simp [s97, hp', e1, e2, o2, ← hG3, o3, e4, o4, e5]
    exact ⟨th4.put (sepR r _) ha hb _, by simp [RuR]⟩
  · rw [if_neg c1]
    rw [Bool.not_eq_true] at c1
    rw [c1] at e5
    by_cases c2 : fullI x ((lapI R t + 4294967295) % 4294967296) = true
    · rw [if_pos c2]
      rw [c2] at e6
      simp [s97, hp', e1, e2, o2, ← hG3, o3, e4, o4, e5, hw1, hw2, hw3, e6]
      exact ⟨(th4.put (sepR r _) ha hb _).put (sepR r _) ha hb _, by simp [RuR]⟩
    · rw [if_neg c2]
      rw [Bool.not_eq_true] at c2
      rw [c2] at e6
      simp [s97, hp', e1, e2, o2, ← hG3, o3, e4, o4, e5, hw1, hw2, hw3, e6]
      exact ⟨th4.put (sepR r _) ha hb _, by simp [RuR]⟩
theorem rpush_ok (orc : FuncId → Bool) {p : PuS} (h : RMx A G r s) (hs : s.ok) (hpo : p.ok) (ha : ¬ A b) (hb : b < G.nx) (hp : RuR G b p) :
    Wp ((E orc).cl 72 [P0 b, P0 r] G) fun q => q.1 = .bool (p.step s).1.over ∧ Thr (fun A G => RMx A G r (p.step s).2) A b G q.2 ∧ RuR q.2 b (p.step s).1 := by
  refine Wp.ref (f72 (exL_ok Q orc) _ _ G) ?_
  cases p with
  | done e =>
    have hp0 := hp
    obtain ⟨a0, a1, a2, a3, a4, a5, a6, hp'⟩ := hp
    simp [s72, sb72, j72_0, jb72_0, clip_t, hp', PuS.step, PuS.over]
    exact ⟨Thr.refl (sepR r s) h, hp0⟩
  | go n R v t w =>
    obtain ⟨h1, h2, h3, h4, h5, h6, h7⟩ := hpo
    have hp' : G.obj b = _ := hp
    have hn : n = 1 ∨ n = 2 ∨ n = 3 ∨ n = 4 ∨ n = 5 := by omega
    rcases hn with rfl | rfl | rfl | rfl | rfl
    · obtain ⟨wb, hm⟩ := h
      obtain ⟨⟨x, G1⟩, e, rfl, q2, q3⟩ := rload_ok orc hm R.tail
      simp only at q2 q3
      have o1 := (q2.obj b hb ha).trans hp'
      have th := Thr.of (P := fun A G => RMx A G r (s.load R.tail)) (b := b) q2 q3
      simp [s72, sb72, j72_0, jb72_0, clip_t, hp', e, o1, PuS.step, PuS.over]
      exact ⟨(th.put (sepR r _) ha hb _).put (sepR r _) ha hb _, by simp [RuR]⟩
    · obtain ⟨⟨x, G1⟩, e, rfl, q1, q2⟩ := reads_ok orc h hs h3 h6 ha hb hp
      simp only at q1 q2
      simp only [PuS.step, if_neg (show ¬ (2 : Nat) = 1 by decide), if_true]
      generalize hst : look5 R v t (s.load (placeI R t)).new = st' at *
      cases st' with
      | done e' =>
        have q0 := q2
        obtain ⟨a0, a1, a2, a3, a4, a5, a6, q2'⟩ := q2
        simp [s72, sb72, j72_0, jb72_0, clip_t, hp', e, q2', PuS.over]
        exact ⟨q1, q0⟩
      | go n' R' v' t' w' =>
        have q2' : G1.obj b = _ := q2
        have hn' : ¬ ((n' : Int) = 9) := by
          unfold look5 at hst
          split at hst
          · cases hst; decide
          · split at hst <;> cases hst
            decide
        simp [s72, sb72, j72_0, jb72_0, clip_t, hp', e, q2', PuS.over, hn']
        exact ⟨q1, q2⟩
    · obtain ⟨G0, hG0⟩ : ∃ G0, G0 = G.put b ⟨[.int .i64 R.head, .int .i64 R.tail, .int .i64 R.slots, .int .i64 R.size, .int .i64 v, .int .i64 5, .int .u64 t, .int .u64 w, .int .i64 0], 1, false, 1⟩ := ⟨_, rfl⟩
      have th0 : Thr (fun A G => RMx A G r s) A b G G0 := by rw [hG0]; exact (Thr.refl (sepR r s) h).put (sepR r s) ha hb _
      have o0 : G0.obj b = some ⟨[.int .i64 R.head, .int .i64 R.tail, .int .i64 R.slots, .int .i64 R.size, .int .i64 v, .int .i64 5, .int .u64 t, .int .u64 w, .int .i64 0], 1, false, 1⟩ := by rw [hG0]; simp
      have hb0 : b < G0.nx := Nat.lt_of_lt_of_le hb th0.mod.nx
      have x0 : Ext G0 (G0.room 32) := (Ext.refl G0).room 32
      obtain ⟨G1, e1, x1⟩ := rplace_ok orc h3 h6 (G0.room 32)
      have y1 := x0.trans x1
      obtain ⟨G2, e2, x2⟩ := rlap_ok orc h3 h6 G1
      have y2 := y1.trans x2
      have hl := lapI_lt R t
      have e3 := shl_32 hl.1 hl.2
      have e4 := with_num hl.1 hl.2 h4 h5
      have hv : IntKind.wrap .u64 v = v := by rw [wrap_u64]; omega
      have th2 := th0.ext (sepR r s) y2
      obtain ⟨wb, hm⟩ := th2.st
      obtain ⟨⟨x, G3⟩, e5, rfl, q2, q3⟩ := rcas_ok orc hm (placeI R t) w (wordI (lapI R t) v)
      simp only at q2 q3
      have th3 := th2.acc (sepR r s) (sepR r _) q2 q3
      have o1 := (y1.obj b hb0).trans o0
      have o2 := (y2.obj b hb0).trans o0
      have hb2 : b < G2.nx := Nat.lt_of_lt_of_le hb0 y2.nx
      have o3 := (q2.obj b hb2 (Thr.notIn ha hb)).trans o2
      simp only [PuS.step, if_neg (show ¬ (3 : Nat) = 1 by decide), if_neg (show ¬ (3 : Nat) = 2 by decide), if_true]
      cases hh : (s.cas (placeI R t) w (wordI (lapI R t) v)).held with
      | true =>
        rw [hh] at e5
        simp [s72, sb72, j72_0, jb72_0, clip_t, hp', ← hG0, o0, e1, o1, e2, o2, e3, e4, hv, e5, o3, PuS.over]
        exact ⟨th3.put (sepR r _) ha hb _, by simp [RuR]⟩
      | false =>
        rw [hh] at e5
        simp [s72, sb72, j72_0, jb72_0, clip_t, hp', ← hG0, o0, e1, o1, e2, o2, e3, e4, hv, e5, o3, PuS.over]
        exact ⟨th3, by simpa [RuR] using o3⟩
    · have th0 := (Thr.refl (sepR r s) (b := b) h).ext (sepR r s) ((Ext.refl G).room 16)
      obtain ⟨wb, hm⟩ := th0.st
      obtain ⟨⟨x, G1⟩, e, rfl, q2, q3⟩ := rcas_ok orc hm R.tail t (IntKind.wrap .u64 (t + 1))
      simp only at q2 q3
      have th := th0.acc (sepR r s) (sepR r _) q2 q3
      have o1 := (q2.obj b (by simp; omega) (Thr.notIn ha hb)).trans hp'
      simp [s72, sb72, j72_0, jb72_0, clip_t, hp', e, o1, PuS.step, PuS.over]
      exact ⟨th.put (sepR r _) ha hb _, by simp [RuR]⟩
    · have th0 := (Thr.refl (sepR r s) (b := b) h).ext (sepR r s) ((Ext.refl G).room 16)
      obtain ⟨wb, hm⟩ := th0.st
      obtain ⟨⟨x, G1⟩, e, rfl, q2, q3⟩ := rcas_ok orc hm R.tail t (IntKind.wrap .u64 (t + 1))
      simp only at q2 q3
      have th := th0.acc (sepR r s) (sepR r _) q2 q3
      have o1 := (q2.obj b (by simp; omega) (Thr.notIn ha hb)).trans hp'
      simp [s72, sb72, j72_0, jb72_0, clip_t, hp', e, o1, PuS.step, PuS.over]
      exact ⟨th.put (sepR r _) ha hb _, by simp [RuR]⟩
end
end Go.Proofs.Ytocbppgkgcoehaa.Lift

set_option linter.unusedVariables false
set_option linter.unusedSimpArgs false
set_option maxRecDepth 20000
namespace Go.Proofs.Ytocbppgkgcoehaa.Lift
open Go Go.Proofs.Ytocbppgkgcoehaa.Gh Go.Proofs
/-! ### Fronts -/
inductive FrS where
  | done (e h v : Int)
  | go (n : Nat) (R : Rg) (h : Int)
def FrS.ok : FrS → Prop
  | .done .. => True
  | .go n R h => 1 ≤ n ∧ n ≤ 2 ∧ R.ok ∧ U h
def FrS.over : FrS → Bool
  | .done .. => true
  | .go .. => false
def FrS.err : FrS → Int
  | .done e _ _ => e
  | .go .. => 14
def FrS.val : FrS → Int
  | .done _ _ v => v
  | .go .. => 0
def FrS.at' : FrS → Int
  | .done _ h _ => h
  | .go _ _ h => h
def look2 (R : Rg) (h w : Int) : FrS := if fullI w (lapI R h) = true then .done 0 h (w % 65536) else .done 15 h 0
def FrS.step : FrS → MS → FrS × MS
  | .done e h v, s => (.done e h v, s)
  | .go n R h, s => if n = 1 then (.go 2 R (s.load R.head).new, s.load R.head) else (look2 R h (s.load (placeI R h)).new, s.load (placeI R h))
theorem FrS.ok.step {p : FrS} {s : MS} (hp : p.ok) (hs : s.ok) : (p.step s).1.ok ∧ (p.step s).2.ok := by
  cases p with
  | done e h v => exact ⟨hp, hs⟩
  | go n R h =>
    obtain ⟨h1, h2, h3, h4⟩ := hp
    simp only [FrS.step]
    split
    · exact ⟨⟨by decide, by decide, h3, (hs.load _).2⟩, (hs.load _).1⟩
    · refine ⟨?_, (hs.load _).1⟩
      unfold look2; split <;> trivial
def fNext (b n : Nat) : Value := .func (.func (if n = 1 then 59 else 89)) #[P0 b] #[]
def PfR (G : GS) (b : Nat) : FrS → Prop
  | .done e h v => ∃ a0 a1 a2 a3, G.obj b = some ⟨[.int .i64 a0, .int .i64 a1, .int .i64 a2, .int .i64 a3, .nilFunc, .bool true, .int .i64 e, .int .u64 h, .int .i64 v], 1, false, 1⟩
  | .go n R h => G.obj b = some ⟨[.int .i64 R.head, .int .i64 R.tail, .int .i64 R.slots, .int .i64 R.size, fNext b n, .bool true, .int .i64 0, .int .u64 h, .int .i64 0], 1, false, 1⟩
def RfR (G : GS) (b : Nat) : FrS → Prop
  | .done e h v => ∃ a0 a1 a2 a3, G.obj b = some ⟨[.int .i64 a0, .int .i64 a1, .int .i64 a2, .int .i64 a3, .int .i64 9, .int .u64 h, .int .i64 v, .int .i64 e], 1, false, 1⟩
  | .go n R h => G.obj b = some ⟨[.int .i64 R.head, .int .i64 R.tail, .int .i64 R.slots, .int .i64 R.size, .int .i64 n, .int .u64 h, .int .i64 0, .int .i64 0], 1, false, 1⟩
theorem PfR.kept {G G' : GS} {b : Nat} {p : FrS} (h : PfR G b p) (hk : G'.obj b = G.obj b) : PfR G' b p := by
  cases p with
  | done e h' v => obtain ⟨a0, a1, a2, a3, h⟩ := h; exact ⟨a0, a1, a2, a3, hk.trans h⟩
  | go n R h' => exact hk.trans h
theorem RfR.kept {G G' : GS} {b : Nat} {p : FrS} (h : RfR G b p) (hk : G'.obj b = G.obj b) : RfR G' b p := by
  cases p with
  | done e h' v => obtain ⟨a0, a1, a2, a3, h⟩ := h; exact ⟨a0, a1, a2, a3, hk.trans h⟩
  | go n R h' => exact hk.trans h
section
variable {A : Nat → Prop} {G : GS} {m r bb b : Nat} {rest : List Int} {s : MS} {R : Rg} {h : Int}
theorem fhead_ok (orc : FuncId → Bool) (hm : PMx A G m s) (ha : ¬ A b) (hb : b < G.nx) (hp : PfR G b (.go 1 R h)) :
    Wp ((E orc).cl 59 [P0 b, P0 m] G) fun r => r.1 = .tuple #[] ∧ Thr (fun A G => PMx A G m (s.load R.head)) A b G r.2 ∧ PfR r.2 b (.go 2 R (s.load R.head).new) := by
  refine Wp.ref (f59 (exL_ok Q orc) _ _ G) ?_
  obtain ⟨bb, rest, hm⟩ := hm
  obtain ⟨⟨x, G1⟩, e, rfl, q2, q3⟩ := load_ok orc hm R.head
  simp only at q2 q3
  have hp' : G.obj b = _ := hp
  have o1 := (q2.obj b hb ha).trans hp'
  simp [s59, hp', e, o1]
  have th := Thr.of (P := fun A G => PMx A G m (s.load R.head)) (b := b) q2 q3
  exact ⟨(th.put (sepP m _) ha hb _).put (sepP m _) ha hb _, by simp [PfR, fNext]⟩
theorem flook_ok (orc : FuncId → Bool) (hm : PMx A G m s) (hs : s.ok) (hR : R.ok) (hh : U h) (ha : ¬ A b) (hb : b < G.nx) (hp : PfR G b (.go 2 R h)) :
    Wp ((E orc).cl 89 [P0 b, P0 m] G) fun r => r.1 = .tuple #[] ∧ Thr (fun A G => PMx A G m (s.load (placeI R h))) A b G r.2 ∧ PfR r.2 b (look2 R h (s.load (placeI R h)).new) := by
  refine Wp.ref (f89 (exL_ok Q orc) _ _ G) ?_
  have hp' : G.obj b = _ := hp
  have x0 : Ext G (G.room 13) := (Ext.refl G).room 13
  obtain ⟨G1, e1, x1⟩ := place_ok orc hR hh (G.room 13)
  have y1 := x0.trans x1
  have th0 := (Thr.refl (sepP m s) (b := b) hm).ext (sepP m s) y1
  obtain ⟨bb, rest, hm⟩ := th0.st
  obtain ⟨⟨x, G2⟩, e2, rfl, q2, q3⟩ := load_ok orc hm (placeI R h)
  simp only at q2 q3
  have th := th0.acc (sepP m s) (sepP m _) q2 q3
  have n1 := y1.nx
  have o2 := (q2.obj b (by omega) (Thr.notIn ha hb)).trans ((y1.obj b hb).trans hp')
  have hw := (hs.load (placeI R h)).2
  generalize hs' : s.load (placeI R h) = s' at *
  generalize hx : s'.new = x at *
  have hend := ends_ok orc o2 15
  obtain ⟨G3, hG3⟩ : ∃ G3, G3 = (G2.put b ⟨[.int .i64 R.head, .int .i64 R.tail, .int .i64 R.slots, .int .i64 R.size, .nilFunc, .bool true, .int .i64 0, .int .u64 h, .int .i64 0], 1, false, 1⟩).put b ⟨[.int .i64 R.head, .int .i64 R.tail, .int .i64 R.slots, .int .i64 R.size, .nilFunc, .bool true, .int .i64 15, .int .u64 h, .int .i64 0], 1, false, 1⟩ := ⟨_, rfl⟩
  rw [← hG3] at hend
  have o3 : G3.obj b = some ⟨[.int .i64 R.head, .int .i64 R.tail, .int .i64 R.slots, .int .i64 R.size, .nilFunc, .bool true, .int .i64 15, .int .u64 h, .int .i64 0], 1, false, 1⟩ := by rw [hG3]; simp
  have th3 : Thr (fun A G => PMx A G m s') A b G G3 := by rw [hG3]; exact (th.put (sepP m _) ha hb _).put (sepP m _) ha hb _
  obtain ⟨G4, e4, x4⟩ := lap_ok orc hR hh (G3.room 12)
  have y4 := ((Ext.refl G3).room 12).trans x4
  have th4 := th3.ext (sepP m _) y4
  have hb3 : b < G3.nx := Nat.lt_of_lt_of_le hb th3.mod.nx
  have o4 := (y4.obj b hb3).trans o3
  have e6 := full_ok orc (l := lapI R h) hw G4
  have e7 := value_ok orc hw G4
  unfold look2
  by_cases c2 : fullI x (lapI R h) = true
  · rw [if_pos c2]
    rw [c2] at e6
    have hend2 : ∀ (G5 : GS) (c8 : Value), G5.obj b = some ⟨[.int .i64 R.head, .int .i64 R.tail, .int .i64 R.slots, .int .i64 R.size, .nilFunc, .bool true, .int .i64 15, .int .u64 h, c8], 1, false, 1⟩ → _ := fun G5 c8 ho => ends_ok orc ho 0
    have hend3 := hend2 (G4.put b ⟨[.int .i64 R.head, .int .i64 R.tail, .int .i64 R.slots, .int .i64 R.size, .nilFunc, .bool true, .int .i64 15, .int .u64 h, .int .i64 (x % 65536)], 1, false, 1⟩) (.int .i64 (x % 65536)) (by simp)
    simp [s89, hp', e1, e2, hend, o3, e4, e6, e7, o4, hend3]
    exact ⟨((th4.put (sepP m _) ha hb _).put (sepP m _) ha hb _).put (sepP m _) ha hb _, by simp [PfR]⟩
  · rw [if_neg c2]
    rw [Bool.not_eq_true] at c2
    rw [c2] at e6
    simp [s89, hp', e1, e2, hend, o3, e4, e6]
    exact ⟨th4, ⟨_, _, _, _, o4⟩⟩
theorem front_ok (orc : FuncId → Bool) {p : FrS} (hm : PMx A G m s) (hs : s.ok) (hpo : p.ok) (ha : ¬ A b) (hb : b < G.nx) (hp : PfR G b p) :
    Wp ((E orc).cl 24 [P0 b, P0 m] G) fun q => q.1 = .bool (p.step s).1.over ∧ Thr (fun A G => PMx A G m (p.step s).2) A b G q.2 ∧ PfR q.2 b (p.step s).1 := by
  have w52 : Wp ((E orc).cl 52 [P0 b, P0 m] G) fun q => q.1 = .bool (p.step s).1.over ∧ Thr (fun A G => PMx A G m (p.step s).2) A b G q.2 ∧ PfR q.2 b (p.step s).1 := by
    refine Wp.ref (f52 (exL_ok Q orc) _ _ G) ?_
    cases p with
    | done e h v =>
      have hp0 := hp
      obtain ⟨a0, a1, a2, a3, hp'⟩ := hp
      simp [s52, sb52, j52_0, jb52_0, clip_t, hp', FrS.step, FrS.over]
      exact ⟨Thr.refl (sepP m s) hm, hp0⟩
    | go n R h =>
      obtain ⟨h1, h2, h3, h4⟩ := hpo
      have hp' : G.obj b = _ := hp
      have hn : n = 1 ∨ n = 2 := by omega
      rcases hn with rfl | rfl
      · obtain ⟨⟨x, G1⟩, e, rfl, q1, q2⟩ := fhead_ok orc hm ha hb hp
        have q2' : G1.obj b = _ := q2
        simp only at q1 q2
        simp [s52, sb52, j52_0, jb52_0, clip_t, hp', fNext, e, q2', FrS.step, FrS.over]
        exact ⟨q1, q2⟩
      · obtain ⟨⟨x, G1⟩, e, rfl, q1, q2⟩ := flook_ok orc hm hs h3 h4 ha hb hp
        simp only at q1 q2
        simp only [FrS.step, if_neg (show ¬ (2 : Nat) = 1 by decide)]
        have hd : ∃ e' h' v', look2 R h (s.load (placeI R h)).new = .done e' h' v' := by unfold look2; split <;> exact ⟨_, _, _, rfl⟩
        obtain ⟨e', h', v', hd⟩ := hd
        rw [hd] at q2 ⊢
        have q0 := q2
        obtain ⟨a0, a1, a2, a3, q2'⟩ := q2
        simp [s52, sb52, j52_0, jb52_0, clip_t, hp', fNext, e, q2', FrS.over]
        exact ⟨q1, q0⟩
  obtain ⟨⟨x, G1⟩, e, rfl, q⟩ := w52
  refine Wp.ref (f24 (exL_ok Q orc) _ _ G) ?_
  simp [s24, e]
  exact q
theorem fval_ok (orc : FuncId → Bool) {p : FrS} (hp : PfR G b p) : ∃ G', (E orc).cl 20 [P0 b] G = some (.tuple #[.int .i64 p.val, .int .i64 p.err], G') ∧ Ext G G' := by
  have h53 : (E orc).cl 53 [P0 b] (G.room 10) = some (.int .i64 p.err, G.room 10) := by
    refine f53 (exL_ok Q orc) _ (G.room 10) _ ?_
    cases p with
    | done e h v =>
      obtain ⟨a0, a1, a2, a3, hp'⟩ := hp
      simp [s53, hp', FrS.err]
    | go n R h =>
      have hp' : G.obj b = _ := hp
      simp [s53, hp', fNext, FrS.err]
  refine ⟨G.room 10, f20 (exL_ok Q orc) _ G _ ?_, (Ext.refl G).room 10⟩
  cases p with
  | done e h v =>
    obtain ⟨a0, a1, a2, a3, hp'⟩ := hp
    simp [s20, hp', h53, FrS.val]
  | go n R h =>
    have hp' : G.obj b = _ := hp
    simp [s20, hp', h53, FrS.val]
theorem fat_ok (orc : FuncId → Bool) {p : FrS} (hp : PfR G b p) : (E orc).cl 26 [P0 b] G = some (.int .u64 p.at', G) := by
  refine f26 (exL_ok Q orc) _ G _ ?_
  cases p with
  | done e h v =>
    obtain ⟨a0, a1, a2, a3, hp'⟩ := hp
    simp [s26, hp', FrS.at']
  | go n R h =>
    have hp' : G.obj b = _ := hp
    simp [s26, hp', FrS.at']
theorem rfront_ok (orc : FuncId → Bool) {p : FrS} (hm : RMx A G r s) (hs : s.ok) (hpo : p.ok) (ha : ¬ A b) (hb : b < G.nx) (hp : RfR G b p) :
    Wp ((E orc).cl 74 [P0 b, P0 r] G) fun q => q.1 = .bool (p.step s).1.over ∧ Thr (fun A G => RMx A G r (p.step s).2) A b G q.2 ∧ RfR q.2 b (p.step s).1 := by
  refine Wp.ref (f74 (exL_ok Q orc) _ _ G) ?_
  cases p with
  | done e h v =>
    have hp0 := hp
    obtain ⟨a0, a1, a2, a3, hp'⟩ := hp
    simp [s74, sb74, j74_0, jb74_0, clip_t, hp', FrS.step, FrS.over]
    exact ⟨Thr.refl (sepR r s) hm, hp0⟩
  | go n R h =>
    obtain ⟨h1, h2, h3, h4⟩ := hpo
    have hp' : G.obj b = _ := hp
    have hn : n = 1 ∨ n = 2 := by omega
    rcases hn with rfl | rfl
    · obtain ⟨wb, hm⟩ := hm
      obtain ⟨⟨x, G1⟩, e, rfl, q2, q3⟩ := rload_ok orc hm R.head
      simp only at q2 q3
      have o1 := (q2.obj b hb ha).trans hp'
      have th := Thr.of (P := fun A G => RMx A G r (s.load R.head)) (b := b) q2 q3
      simp [s74, sb74, j74_0, jb74_0, clip_t, hp', e, o1, FrS.step, FrS.over]
      exact ⟨(th.put (sepR r _) ha hb _).put (sepR r _) ha hb _, by simp [RfR]⟩
    · have x0 : Ext G (G.room 12) := (Ext.refl G).room 12
      obtain ⟨G1, e1, x1⟩ := rplace_ok orc h3 h4 (G.room 12)
      have y1 := x0.trans x1
      have th0 := (Thr.refl (sepR r s) (b := b) hm).ext (sepR r s) y1
      obtain ⟨wb, hm⟩ := th0.st
      obtain ⟨⟨x, G2⟩, e2, rfl, q2, q3⟩ := rload_ok orc hm (placeI R h)
      simp only at q2 q3
      have th := th0.acc (sepR r s) (sepR r _) q2 q3
      have n1 := y1.nx
      have o2 := (q2.obj b (by omega) (Thr.notIn ha hb)).trans ((y1.obj b hb).trans hp')
      have hw := (hs.load (placeI R h)).2
      simp only [FrS.step, if_neg (show ¬ (2 : Nat) = 1 by decide)]
      generalize hs' : s.load (placeI R h) = s' at *
      generalize hx : s'.new = x at *
      obtain ⟨G3, hG3⟩ : ∃ G3, G3 = (G2.put b ⟨[.int .i64 R.head, .int .i64 R.tail, .int .i64 R.slots, .int .i64 R.size, .int .i64 9, .int .u64 h, .int .i64 0, .int .i64 0], 1, false, 1⟩).put b ⟨[.int .i64 R.head, .int .i64 R.tail, .int .i64 R.slots, .int .i64 R.size, .int .i64 9, .int .u64 h, .int .i64 0, .int .i64 15], 1, false, 1⟩ := ⟨_, rfl⟩
      have o3 : G3.obj b = some ⟨[.int .i64 R.head, .int .i64 R.tail, .int .i64 R.slots, .int .i64 R.size, .int .i64 9, .int .u64 h, .int .i64 0, .int .i64 15], 1, false, 1⟩ := by rw [hG3]; simp
      have th3 : Thr (fun A G => RMx A G r s') A b G G3 := by rw [hG3]; exact (th.put (sepR r _) ha hb _).put (sepR r _) ha hb _
      obtain ⟨G4, e4, x4⟩ := rlap_ok orc h3 h4 (G3.room 11)
      have y4 := ((Ext.refl G3).room 11).trans x4
      have th4 := th3.ext (sepR r _) y4
      have hb3 : b < G3.nx := Nat.lt_of_lt_of_le hb th3.mod.nx
      have o4 := (y4.obj b hb3).trans o3
      have e6 := rfull_ok orc (l := lapI R h) hw G4
      have e7 : x.tmod 65536 = x % 65536 := Int.tmod_eq_emod_of_nonneg hw.1
      have e8 : IntKind.wrap .i64 (x % 65536) = x % 65536 := wrap64 (by omega) (by omega)
      unfold look2
      by_cases c2 : fullI x (lapI R h) = true
      · rw [if_pos c2]
        rw [c2] at e6
        simp [s74, sb74, j74_0, jb74_0, clip_t, hp', e1, e2, o2, ← hG3, o3, e4, e6, e7, e8, o4, FrS.over]
        exact ⟨(th4.put (sepR r _) ha hb _).put (sepR r _) ha hb _, by simp [RfR]⟩
      · rw [if_neg c2]
        rw [Bool.not_eq_true] at c2
        rw [c2] at e6
        simp [s74, sb74, j74_0, jb74_0, clip_t, hp', e1, e2, o2, ← hG3, o3, e4, e6, o4, FrS.over]
        exact ⟨th4, ⟨_, _, _, _, o4⟩⟩
end
end Go.Proofs.Ytocbppgkgcoehaa.Lift

set_option linter.unusedVariables false
set_option linter.unusedSimpArgs false
set_option maxRecDepth 20000
namespace Go.Proofs.Ytocbppgkgcoehaa.Lift
open Go Go.Proofs.Ytocbppgkgcoehaa.Gh Go.Proofs
/-! ### Drops -/
inductive DrS where
  | done (e : Int)
  | go (n : Nat) (R : Rg) (h : Int)
def DrS.ok : DrS → Prop
  | .done .. => True
  | .go n R h => 1 ≤ n ∧ n ≤ 2 ∧ R.ok ∧ U h
def DrS.over : DrS → Bool
  | .done .. => true
  | .go .. => false
def DrS.err : DrS → Int
  | .done e => e
  | .go .. => 14
def clearI (R : Rg) (h : Int) : Int := (lapI R h + 1) % 4294967296 * 4294967296
def DrS.step : DrS → MS → DrS × MS
  | .done e, s => (.done e, s)
  | .go n R h, s => if n = 1 then (.go 2 R h, s.store (placeI R h) (clearI R h)) else (.done 0, s.store R.head (IntKind.wrap .u64 (h + 1)))
theorem DrS.ok.step {p : DrS} {s : MS} (hp : p.ok) (hs : s.ok) : (p.step s).1.ok ∧ (p.step s).2.ok := by
  cases p with
  | done e => exact ⟨hp, hs⟩
  | go n R h =>
    obtain ⟨h1, h2, h3, h4⟩ := hp
    simp only [DrS.step]
    split
    · exact ⟨⟨by decide, by decide, h3, h4⟩, hs.store _ (by unfold clearI U; omega)⟩
    · exact ⟨trivial, hs.store _ (U_wrap _)⟩
def dNext (b n : Nat) : Value := .func (.func (if n = 1 then 60 else 91)) #[P0 b] #[]
def PdR (G : GS) (b : Nat) : DrS → Prop
  | .done e => ∃ a0 a1 a2 a3 h, G.obj b = some ⟨[.int .i64 a0, .int .i64 a1, .int .i64 a2, .int .i64 a3, .nilFunc, .bool true, .int .i64 e, .int .u64 h], 1, false, 1⟩
  | .go n R h => G.obj b = some ⟨[.int .i64 R.head, .int .i64 R.tail, .int .i64 R.slots, .int .i64 R.size, dNext b n, .bool true, .int .i64 0, .int .u64 h], 1, false, 1⟩
def RdR (G : GS) (b : Nat) : DrS → Prop
  | .done e => ∃ a0 a1 a2 a3 h, G.obj b = some ⟨[.int .i64 a0, .int .i64 a1, .int .i64 a2, .int .i64 a3, .int .i64 9, .int .u64 h, .int .i64 e], 1, false, 1⟩
  | .go n R h => G.obj b = some ⟨[.int .i64 R.head, .int .i64 R.tail, .int .i64 R.slots, .int .i64 R.size, .int .i64 n, .int .u64 h, .int .i64 0], 1, false, 1⟩
theorem PdR.kept {G G' : GS} {b : Nat} {p : DrS} (h : PdR G b p) (hk : G'.obj b = G.obj b) : PdR G' b p := by
  cases p with
  | done e => obtain ⟨a0, a1, a2, a3, h', h⟩ := h; exact ⟨a0, a1, a2, a3, h', hk.trans h⟩
  | go n R h' => exact hk.trans h
theorem RdR.kept {G G' : GS} {b : Nat} {p : DrS} (h : RdR G b p) (hk : G'.obj b = G.obj b) : RdR G' b p := by
  cases p with
  | done e => obtain ⟨a0, a1, a2, a3, h', h⟩ := h; exact ⟨a0, a1, a2, a3, h', hk.trans h⟩
  | go n R h' => exact hk.trans h
section
variable {A : Nat → Prop} {G : GS} {m r bb b : Nat} {rest : List Int} {s : MS} {R : Rg} {h : Int}
theorem dclear_ok (orc : FuncId → Bool) (hm : PMx A G m s) (hR : R.ok) (hh : U h) (ha : ¬ A b) (hb : b < G.nx) (hp : PdR G b (.go 1 R h)) :
    Wp ((E orc).cl 60 [P0 b, P0 m] G) fun r => r.1 = .tuple #[] ∧ Thr (fun A G => PMx A G m (s.store (placeI R h) (clearI R h))) A b G r.2 ∧ PdR r.2 b (.go 2 R h) := by
  refine Wp.ref (f60 (exL_ok Q orc) _ _ G) ?_
  have hp' : G.obj b = _ := hp
  have x0 : Ext G (G.room 24) := (Ext.refl G).room 24
  obtain ⟨G1, e1, x1⟩ := place_ok orc hR hh (G.room 24)
  have y1 := x0.trans x1
  obtain ⟨G2, e2, x2⟩ := lap_ok orc hR hh G1
  have y2 := y1.trans x2
  have hl := lapI_lt R h
  have hw : IntKind.wrap .u32 (lapI R h + 1) = (lapI R h + 1) % 4294967296 := wrap_u32 _
  have e3 := of_ok orc (l := (lapI R h + 1) % 4294967296) (by omega) (by omega) G2
  have th2 := (Thr.refl (sepP m s) (b := b) hm).ext (sepP m s) y2
  obtain ⟨bb, rest, hm⟩ := th2.st
  obtain ⟨⟨x, G3⟩, e5, rfl, q2, q3⟩ := store_ok orc hm (placeI R h) (clearI R h)
  simp only at q2 q3
  have th3 := th2.acc (sepP m s) (sepP m _) q2 q3
  have o1 := (y1.obj b hb).trans hp'
  have hb2 : b < G2.nx := Nat.lt_of_lt_of_le hb y2.nx
  have o3 := (q2.obj b hb2 (Thr.notIn ha hb)).trans ((y2.obj b hb).trans hp')
  simp only [clearI] at e5
  simp [s60, hp', e1, o1, e2, hw, e3, e5, o3]
  exact ⟨th3.put (sepP m _) ha hb _, by simp [PdR, dNext]⟩
theorem dhead_ok (orc : FuncId → Bool) (hm : PMx A G m s) (ha : ¬ A b) (hb : b < G.nx) (hp : PdR G b (.go 2 R h)) :
    Wp ((E orc).cl 91 [P0 b, P0 m] G) fun r => r.1 = .tuple #[] ∧ Thr (fun A G => PMx A G m (s.store R.head (IntKind.wrap .u64 (h + 1)))) A b G r.2 ∧ PdR r.2 b (.done 0) := by
  refine Wp.ref (f91 (exL_ok Q orc) _ _ G) ?_
  have th0 := (Thr.refl (sepP m s) (b := b) hm).ext (sepP m s) ((Ext.refl G).room 13)
  obtain ⟨bb, rest, hm⟩ := th0.st
  obtain ⟨⟨x, G1⟩, e, rfl, q2, q3⟩ := store_ok orc hm R.head (IntKind.wrap .u64 (h + 1))
  simp only at q2 q3
  have hp' : G.obj b = _ := hp
  have th := th0.acc (sepP m s) (sepP m _) q2 q3
  have o1 := (q2.obj b (by simp; omega) (Thr.notIn ha hb)).trans hp'
  have hend := ends_ok orc o1 0
  simp [s91, hp', e, o1, hend]
  exact ⟨(th.put (sepP m _) ha hb _).put (sepP m _) ha hb _, by simp [PdR]⟩
theorem drop_ok (orc : FuncId → Bool) {p : DrS} (hm : PMx A G m s) (hpo : p.ok) (ha : ¬ A b) (hb : b < G.nx) (hp : PdR G b p) :
    Wp ((E orc).cl 25 [P0 b, P0 m] G) fun q => q.1 = .bool (p.step s).1.over ∧ Thr (fun A G => PMx A G m (p.step s).2) A b G q.2 ∧ PdR q.2 b (p.step s).1 := by
  have w52 : Wp ((E orc).cl 52 [P0 b, P0 m] G) fun q => q.1 = .bool (p.step s).1.over ∧ Thr (fun A G => PMx A G m (p.step s).2) A b G q.2 ∧ PdR q.2 b (p.step s).1 := by
    refine Wp.ref (f52 (exL_ok Q orc) _ _ G) ?_
    cases p with
    | done e =>
      have hp0 := hp
      obtain ⟨a0, a1, a2, a3, h, hp'⟩ := hp
      simp [s52, sb52, j52_0, jb52_0, clip_t, hp', DrS.step, DrS.over]
      exact ⟨Thr.refl (sepP m s) hm, hp0⟩
    | go n R h =>
      obtain ⟨h1, h2, h3, h4⟩ := hpo
      have hp' : G.obj b = _ := hp
      have hn : n = 1 ∨ n = 2 := by omega
      rcases hn with rfl | rfl
      · obtain ⟨⟨x, G1⟩, e, rfl, q1, q2⟩ := dclear_ok orc hm h3 h4 ha hb hp
        have q2' : G1.obj b = _ := q2
        simp only at q1 q2
        simp [s52, sb52, j52_0, jb52_0, clip_t, hp', dNext, e, q2', DrS.step, DrS.over]
        exact ⟨q1, q2⟩
      · obtain ⟨⟨x, G1⟩, e, rfl, q1, q2⟩ := dhead_ok orc hm ha hb hp
        simp only at q1 q2
        have q0 := q2
        obtain ⟨a0, a1, a2, a3, h', q2'⟩ := q2
        simp [s52, sb52, j52_0, jb52_0, clip_t, hp', dNext, e, q2', DrS.step, DrS.over]
        exact ⟨q1, q0⟩
  obtain ⟨⟨x, G1⟩, e, rfl, q⟩ := w52
  refine Wp.ref (f25 (exL_ok Q orc) _ _ G) ?_
  simp [s25, e]
  exact q
theorem droperr_ok (orc : FuncId → Bool) {p : DrS} (hp : PdR G b p) : (E orc).cl 27 [P0 b] G = some (.int .i64 p.err, G) := by
  have h53 : (E orc).cl 53 [P0 b] G = some (.int .i64 p.err, G) := by
    refine f53 (exL_ok Q orc) _ G _ ?_
    cases p with
    | done e =>
      obtain ⟨a0, a1, a2, a3, h, hp'⟩ := hp
      simp [s53, hp', DrS.err]
    | go n R h =>
      have hp' : G.obj b = _ := hp
      simp [s53, hp', dNext, DrS.err]
  exact f27 (exL_ok Q orc) _ G _ (by simp [s27, h53])
theorem rdrop_ok (orc : FuncId → Bool) {p : DrS} (hm : RMx A G r s) (hpo : p.ok) (ha : ¬ A b) (hb : b < G.nx) (hp : RdR G b p) :
    Wp ((E orc).cl 77 [P0 b, P0 r] G) fun q => q.1 = .bool (p.step s).1.over ∧ Thr (fun A G => RMx A G r (p.step s).2) A b G q.2 ∧ RdR q.2 b (p.step s).1 := by
  refine Wp.ref (f77 (exL_ok Q orc) _ _ G) ?_
  cases p with
  | done e =>
    have hp0 := hp
    obtain ⟨a0, a1, a2, a3, h, hp'⟩ := hp
    simp [s77, sb77, j77_0, jb77_0, clip_t, hp', DrS.step, DrS.over]
    exact ⟨Thr.refl (sepR r s) hm, hp0⟩
  | go n R h =>
    obtain ⟨h1, h2, h3, h4⟩ := hpo
    have hp' : G.obj b = _ := hp
    have hn : n = 1 ∨ n = 2 := by omega
    rcases hn with rfl | rfl
    · have x0 : Ext G (G.room 23) := (Ext.refl G).room 23
      obtain ⟨G1, e1, x1⟩ := rplace_ok orc h3 h4 (G.room 23)
      have y1 := x0.trans x1
      obtain ⟨G2, e2, x2⟩ := rlap_ok orc h3 h4 G1
      have y2 := y1.trans x2
      have hl := lapI_lt R h
      have hw : IntKind.wrap .u64 (lapI R h + 1) = lapI R h + 1 := by rw [wrap_u64]; omega
      have hw2 : (lapI R h + 1).tmod 4294967296 = (lapI R h + 1) % 4294967296 := Int.tmod_eq_emod_of_nonneg (by omega)
      have hw3 : shlI .u64 ((lapI R h + 1) % 4294967296) 32 = clearI R h := shl_32 (by omega) (by omega)
      have th2 := (Thr.refl (sepR r s) (b := b) hm).ext (sepR r s) y2
      obtain ⟨wb, hm⟩ := th2.st
      obtain ⟨⟨x, G3⟩, e5, rfl, q2, q3⟩ := rstore_ok orc hm (placeI R h) (clearI R h)
      simp only at q2 q3
      have th3 := th2.acc (sepR r s) (sepR r _) q2 q3
      have o1 := (y1.obj b hb).trans hp'
      have hb2 : b < G2.nx := Nat.lt_of_lt_of_le hb y2.nx
      have o3 := (q2.obj b hb2 (Thr.notIn ha hb)).trans ((y2.obj b hb).trans hp')
      simp [s77, sb77, j77_0, jb77_0, clip_t, hp', e1, o1, e2, hw, hw2, hw3, e5, o3, DrS.step, DrS.over]
      exact ⟨th3.put (sepR r _) ha hb _, by simp [RdR]⟩
    · have th0 := (Thr.refl (sepR r s) (b := b) hm).ext (sepR r s) ((Ext.refl G).room 12)
      obtain ⟨wb, hm⟩ := th0.st
      obtain ⟨⟨x, G1⟩, e, rfl, q2, q3⟩ := rstore_ok orc hm R.head (IntKind.wrap .u64 (h + 1))
      simp only at q2 q3
      have th := th0.acc (sepR r s) (sepR r _) q2 q3
      have o1 := (q2.obj b (by simp; omega) (Thr.notIn ha hb)).trans hp'
      simp [s77, sb77, j77_0, jb77_0, clip_t, hp', e, o1, DrS.step, DrS.over]
      exact ⟨th.put (sepR r _) ha hb _, by simp [RdR]⟩
/-! ### What the document's tell -/
theorem rtold_ok (orc : FuncId → Bool) (l e : Int) (G : GS) : (E orc).cl 99 [.int .i64 l, .int .i64 e] G = some (.int .i64 (if l = 9 then e else 14), G) := by
  refine f99 (exL_ok Q orc) _ _ G _ ?_
  by_cases h : l = 9 <;> simp [s99, h]
theorem rpusherr_ok (orc : FuncId → Bool) {p : PuS} (hpo : p.ok) (hp : RuR G b p) : ∃ G', (E orc).cl 73 [P0 b] G = some (.int .i64 p.err, G') ∧ Ext G G' := by
  refine ⟨G.room 10, f73 (exL_ok Q orc) _ G _ ?_, (Ext.refl G).room 10⟩
  cases p with
  | done e =>
    obtain ⟨a0, a1, a2, a3, a4, a5, a6, hp'⟩ := hp
    have := rtold_ok orc 9 e (G.room 10)
    simp at this
    simp [s73, hp', this, PuS.err]
  | go n R v t w =>
    have hp' : G.obj b = _ := hp
    have hn : ¬ ((n : Int) = 9) := by have := hpo.2.1; omega
    have := rtold_ok orc n 0 (G.room 10)
    rw [if_neg hn] at this
    simp [s73, hp', this, PuS.err]
theorem rdroperr_ok (orc : FuncId → Bool) {p : DrS} (hpo : p.ok) (hp : RdR G b p) : ∃ G', (E orc).cl 78 [P0 b] G = some (.int .i64 p.err, G') ∧ Ext G G' := by
  refine ⟨G.room 10, f78 (exL_ok Q orc) _ G _ ?_, (Ext.refl G).room 10⟩
  cases p with
  | done e =>
    obtain ⟨a0, a1, a2, a3, h, hp'⟩ := hp
    have := rtold_ok orc 9 e (G.room 10)
    simp at this
    simp [s78, hp', this, DrS.err]
  | go n R h =>
    have hp' : G.obj b = _ := hp
    have hn : ¬ ((n : Int) = 9) := by have := hpo.2.1; omega
    have := rtold_ok orc n 0 (G.room 10)
    rw [if_neg hn] at this
    simp [s78, hp', this, DrS.err]
theorem rfval_ok (orc : FuncId → Bool) {p : FrS} (hpo : p.ok) (hp : RfR G b p) : ∃ G', (E orc).cl 75 [P0 b] G = some (.tuple #[.int .i64 p.val, .int .i64 p.err], G') ∧ Ext G G' := by
  refine ⟨G.room 15, f75 (exL_ok Q orc) _ G _ ?_, (Ext.refl G).room 15⟩
  cases p with
  | done e h v =>
    obtain ⟨a0, a1, a2, a3, hp'⟩ := hp
    have := rtold_ok orc 9 e (G.room 15)
    simp at this
    simp [s75, hp', this, FrS.err, FrS.val]
  | go n R h =>
    have hp' : G.obj b = _ := hp
    have hn : ¬ ((n : Int) = 9) := by have := hpo.2.1; omega
    have := rtold_ok orc n 0 (G.room 15)
    rw [if_neg hn] at this
    simp [s75, hp', this, FrS.err, FrS.val]
theorem rfat_ok (orc : FuncId → Bool) {p : FrS} (hp : RfR G b p) : (E orc).cl 76 [P0 b] G = some (.int .u64 p.at', G) := by
  refine f76 (exL_ok Q orc) _ G _ ?_
  cases p with
  | done e h v =>
    obtain ⟨a0, a1, a2, a3, hp'⟩ := hp
    simp [s76, hp', FrS.at']
  | go n R h =>
    have hp' : G.obj b = _ := hp
    simp [s76, hp', FrS.at']
end
end Go.Proofs.Ytocbppgkgcoehaa.Lift

