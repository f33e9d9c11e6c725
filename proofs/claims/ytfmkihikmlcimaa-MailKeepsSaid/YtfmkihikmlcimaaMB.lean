/- contracts of the program's functions -/
import Derived.Test.YtfmkihikmlcimaaMA
import Derived.Test.YtfmkihikmlcimaaGhPD
import Derived.Test.YtfmkihikmlcimaaGhPC
set_option linter.unusedVariables false
set_option linter.unusedSimpArgs false
set_option maxRecDepth 20000
namespace Go.Proofs.Ytfmkihikmlcimaa.Lift
open Go Go.Proofs.Ytfmkihikmlcimaa.Gh Go.Proofs
/-! ### Words and their parts -/
/-! ### Rings -/
structure Rg where
  head : Int
  tail : Int
  slots : Int
  size : Int
abbrev Rg.cells (R : Rg) : List Value := [.int .i64 R.head, .int .i64 R.tail, .int .i64 R.slots, .int .i64 R.size]
abbrev Rg.v (R : Rg) : Value := .agg ⟨[.int .i64 R.head, .int .i64 R.tail, .int .i64 R.slots, .int .i64 R.size]⟩
def Rg.ok (R : Rg) : Prop := 1 ≤ R.size ∧ R.size ≤ 4096
def lapI (R : Rg) (t : Int) : Int := t / R.size % 4294967296
def placeI (R : Rg) (t : Int) : Int := IntKind.wrap .i64 (R.slots + t % R.size)
def fullI (w l : Int) : Bool := decide (w / 4294967296 = l) && decide (w / 65536 % 2 = 1)
def emptyI (w l : Int) : Bool := decide (w / 4294967296 = l) && decide (w / 65536 % 2 = 0)
def wordI (l v : Int) : Int := l * 4294967296 + 65536 + v
theorem lapI_lt (R : Rg) (t : Int) : 0 ≤ lapI R t ∧ lapI R t < 4294967296 := by unfold lapI; omega
theorem div_32 {w : Int} (h : U w) : 0 ≤ w / 4294967296 ∧ w / 4294967296 < 4294967296 := by have := h.1; have := h.2; omega
/-! ### What both sides reckon alike -/
section
variable {G : GS} {R : Rg}
theorem size_c {R : Rg} (h : R.ok) : IntKind.wrap .u64 R.size = R.size := by rw [wrap_u64]; have := h.1; have := h.2; omega
theorem place_ok (orc : FuncId → Bool) (h : R.ok) {t : Int} (ht : U t) (G : GS) : ∃ G', (E orc).cl 79 [R.v, .int .u64 t] G = some (.int .i64 (placeI R t), G') ∧ Ext G G' := by
  refine ⟨(G.push ⟨R.cells, 1, false, 1⟩).room 10, f79 (exL_ok Q orc) _ _ G _ ?_, ((Ext.refl G).push _).room 10⟩
  have h1 := size_c h
  have h2 : t.tmod R.size = t % R.size := Int.tmod_eq_emod_of_nonneg ht.1
  have h3 : ¬ R.size = 0 := by have := h.1; omega
  have h4 := Int.emod_nonneg t h3
  have h5 := Int.emod_lt_of_pos t (show 0 < R.size by have := h.1; omega)
  have h6 : IntKind.wrap .i64 (t % R.size) = t % R.size := wrap64 (by omega) (by have := h.2; omega)
  simp [s79, h1, h2, h3, h6, placeI]
theorem lap_ok (orc : FuncId → Bool) (h : R.ok) {t : Int} (ht : U t) (G : GS) : ∃ G', (E orc).cl 112 [R.v, .int .u64 t] G = some (.int .u32 (lapI R t), G') ∧ Ext G G' := by
  refine ⟨G.push ⟨R.cells, 1, false, 1⟩, f112 (exL_ok Q orc) _ _ G _ ?_, (Ext.refl G).push _⟩
  have h1 := size_c h
  have h3 : ¬ R.size = 0 := by have := h.1; omega
  have h2 : t.tdiv R.size = t / R.size := Int.tdiv_eq_ediv_of_nonneg ht.1
  have h4 : 0 ≤ t / R.size := Int.ediv_nonneg ht.1 (by have := h.1; omega)
  have h5 : t / R.size ≤ t := Int.ediv_le_self _ ht.1
  have h6 : IntKind.wrap .u64 (t / R.size) = t / R.size := by rw [wrap_u64]; have := ht.2; omega
  simp [s112, h1, h2, h3, h6, lapI, wrap_u32]
theorem full_ok (orc : FuncId → Bool) {w l : Int} (hw : U w) (G : GS) : (E orc).cl 111 [.int .u64 w, .int .u32 l] G = some (.bool (fullI w l), G) := by
  refine f111 (exL_ok Q orc) _ _ G _ ?_
  have h1 := shr_32 hw
  have h2 : IntKind.wrap .u32 (w / 4294967296) = w / 4294967296 := by rw [wrap_u32]; have := div_32 hw; omega
  have h3 := and_bit hw
  by_cases ha : w / 4294967296 = l
  · have h2' := h2
    rw [ha] at h2'
    by_cases hb : w / 65536 % 2 = 1
    · simp [s111, h1, h2, h2', h3, ha, hb, fullI]
    · simp [s111, h1, h2, h2', h3, ha, hb, fullI]
  · simp [s111, h1, h2, h3, ha, fullI]
theorem empty_ok (orc : FuncId → Bool) {w l : Int} (hw : U w) (G : GS) : (E orc).cl 142 [.int .u64 w, .int .u32 l] G = some (.bool (emptyI w l), G) := by
  refine f142 (exL_ok Q orc) _ _ G _ ?_
  have h1 := shr_32 hw
  have h2 : IntKind.wrap .u32 (w / 4294967296) = w / 4294967296 := by rw [wrap_u32]; have := div_32 hw; omega
  have h3 := and_bit hw
  by_cases ha : w / 4294967296 = l
  · have h2' := h2
    rw [ha] at h2'
    by_cases hb : w / 65536 % 2 = 1
    · have hc : ¬ w / 65536 % 2 = 0 := by omega
      simp [s142, h1, h2, h2', h3, ha, hb, emptyI]
    · have hc : w / 65536 % 2 = 0 := by omega
      simp [s142, h1, h2, h2', h3, ha, hb, hc, emptyI]
  · simp [s142, h1, h2, h3, ha, emptyI]
theorem value_ok (orc : FuncId → Bool) {w : Int} (hw : U w) (G : GS) : (E orc).cl 80 [.int .u64 w] G = some (.int .i64 (w % 65536), G) := by
  refine f80 (exL_ok Q orc) _ G _ ?_
  have h2 : IntKind.wrap .i64 (w % 65536) = w % 65536 := wrap64 (by omega) (by omega)
  simp [s80, and_low hw, h2]
theorem of_ok (orc : FuncId → Bool) {l : Int} (h0 : 0 ≤ l) (h1 : l < 4294967296) (G : GS) : (E orc).cl 140 [.int .u32 l] G = some (.int .u64 (l * 4294967296), G) := by
  refine f140 (exL_ok Q orc) _ G _ ?_
  have h2 : IntKind.wrap .u64 l = l := by rw [wrap_u64]; omega
  simp [s140, h2, shl_32 h0 h1]
theorem with_num {l v : Int} (h0 : 0 ≤ l) (h1 : l < 4294967296) (h2 : 0 ≤ v) (h3 : v ≤ 65535) : orI .u64 (orI .u64 (l * 4294967296) 65536) v = wordI l v := by
  have e1 : orI .u64 (l * 4294967296) 65536 = l * 4294967296 + 65536 := or_add 32 l.toNat ⟨by omega, by omega⟩ ⟨by decide, by decide⟩ (by omega) (by decide)
  rw [e1, or_add 16 (2 ^ 16 * l.toNat + 1) ⟨by omega, by omega⟩ ⟨by omega, by omega⟩ (by omega) (by omega)]
  rfl
theorem with_ok (orc : FuncId → Bool) {l v : Int} (h0 : 0 ≤ l) (h1 : l < 4294967296) (h2 : 0 ≤ v) (h3 : v ≤ 65535) (G : GS) : (E orc).cl 149 [.int .u64 (l * 4294967296), .int .i64 v] G = some (.int .u64 (wordI l v), G) := by
  refine f149 (exL_ok Q orc) _ _ G _ ?_
  have h4 : IntKind.wrap .u64 v = v := by rw [wrap_u64]; omega
  simp [s149, andNot_low h0 h1, h4, with_num h0 h1 h2 h3]
theorem sized_ok (orc : FuncId → Bool) (R : Rg) (G : GS) : ∃ G', (E orc).cl 76 [R.v] G = some (.bool (decide (1 ≤ R.size) && decide (R.size ≤ 4096)), G') ∧ Ext G G' := by
  refine ⟨G.push ⟨R.cells, 1, false, 1⟩, f76 (exL_ok Q orc) _ G _ ?_, (Ext.refl G).push _⟩
  by_cases h : 1 ≤ R.size
  · simp [s76, h]
  · simp [s76, h]
end
end Go.Proofs.Ytfmkihikmlcimaa.Lift

set_option linter.unusedVariables false
set_option linter.unusedSimpArgs false
set_option maxRecDepth 20000
namespace Go.Proofs.Ytfmkihikmlcimaa.Lift
open Go Go.Proofs.Ytfmkihikmlcimaa.Gh Go.Proofs
/-! ### What is done to a memory, and to blocks of an operation's own -/
/-! ### Pushes -/
inductive PuS where
  | done (e : Int)
  | go (n : Nat) (R : Rg) (v t w : Int)
def PuS.ok : PuS → Prop
  | .done _ => True
  | .go n R v t w => 1 ≤ n ∧ n ≤ 5 ∧ R.ok ∧ 0 ≤ v ∧ v ≤ 65535 ∧ U t ∧ U w
def PuS.over : PuS → Bool
  | .done _ => true
  | .go .. => false
def PuS.err : PuS → Int
  | .done e => e
  | .go .. => 14
def look5 (R : Rg) (v t w : Int) : PuS := if emptyI w (lapI R t) = true then .go 3 R v t w else if fullI w ((lapI R t + 4294967295) % 4294967296) = true then .done 7 else .go 5 R v t w
def PuS.step : PuS → MS → PuS × MS
  | .done e, s => (.done e, s)
  | .go n R v t w, s =>
    if n = 1 then (.go 2 R v (s.load R.tail).new w, s.load R.tail)
    else if n = 2 then (look5 R v t (s.load (placeI R t)).new, s.load (placeI R t))
    else if n = 3 then (if (s.cas (placeI R t) w (wordI (lapI R t) v)).held = true then .go 4 R v t w else .go 5 R v t w, s.cas (placeI R t) w (wordI (lapI R t) v))
    else if n = 4 then (.done 0, s.cas R.tail t (IntKind.wrap .u64 (t + 1)))
    else (.go 1 R v t w, s.cas R.tail t (IntKind.wrap .u64 (t + 1)))
/-- all words are words -/
theorem U_word {R : Rg} {t v : Int} (h0 : 0 ≤ v) (h1 : v ≤ 65535) : U (wordI (lapI R t) v) := by have := lapI_lt R t; unfold wordI U; omega
theorem PuS.ok.step {p : PuS} {s : MS} (hp : p.ok) (hs : s.ok) : (p.step s).1.ok ∧ (p.step s).2.ok := by
  cases p with
  | done e => exact ⟨hp, hs⟩
  | go n R v t w =>
    obtain ⟨h1, h2, h3, h4, h5, h6, h7⟩ := hp
    simp only [PuS.step]
    split
    · exact ⟨⟨by decide, by decide, h3, h4, h5, (hs.load _).2, h7⟩, (hs.load _).1⟩
    · split
      · refine ⟨?_, (hs.load _).1⟩
        unfold look5
        split
        · exact ⟨by decide, by decide, h3, h4, h5, h6, (hs.load _).2⟩
        · split
          · trivial
          · exact ⟨by decide, by decide, h3, h4, h5, h6, (hs.load _).2⟩
      · split
        · refine ⟨?_, hs.cas _ _ (U_word h4 h5)⟩
          split
          · exact ⟨by decide, by decide, h3, h4, h5, h6, h7⟩
          · exact ⟨by decide, by decide, h3, h4, h5, h6, h7⟩
        · split
          · exact ⟨trivial, hs.cas _ _ (U_wrap _)⟩
          · exact ⟨⟨by decide, by decide, h3, h4, h5, h6, h7⟩, hs.cas _ _ (U_wrap _)⟩
def pNext (b n : Nat) : Value := .func (.func (if n = 1 then 104 else if n = 2 then 129 else if n = 3 then 143 else if n = 4 then 150 else 144)) #[P0 b] #[]
def PuR (G : GS) (b : Nat) : PuS → Prop
  | .done e => ∃ h t s z v t' w, G.obj b = some ⟨[.int .i64 h, .int .i64 t, .int .i64 s, .int .i64 z, .nilFunc, .bool true, .int .i64 e, .int .i64 v, .int .u64 t', .int .u64 w], 1, false, 1⟩
  | .go n R v t w => G.obj b = some ⟨[.int .i64 R.head, .int .i64 R.tail, .int .i64 R.slots, .int .i64 R.size, pNext b n, .bool true, .int .i64 0, .int .i64 v, .int .u64 t, .int .u64 w], 1, false, 1⟩
theorem PuR.kept {G G' : GS} {b : Nat} {p : PuS} (h : PuR G b p) (hk : G'.obj b = G.obj b) : PuR G' b p := by
  cases p with
  | done e => obtain ⟨a, t, s, z, v, t', w, h⟩ := h; exact ⟨a, t, s, z, v, t', w, hk.trans h⟩
  | go n R v t w => exact hk.trans h
section
variable {A : Nat → Prop} {G : GS} {m bb b : Nat} {rest : List Int} {s : MS} {R : Rg} {v t w : Int}
/-- it has ended: two words of work are written -/
theorem ends_ok (orc : FuncId → Bool) {c0 c1 c2 c3 c4 c5 c6 : Value} {r : List Value} {ez : Nat} {op : Bool} (ho : G.obj b = some ⟨c0 :: c1 :: c2 :: c3 :: c4 :: c5 :: c6 :: r, ez, op, 1⟩) (e : Int) :
    (E orc).cl 103 [P0 b, .int .i64 e] G = some (.tuple #[], (G.put b ⟨c0 :: c1 :: c2 :: c3 :: .nilFunc :: c5 :: c6 :: r, ez, op, 1⟩).put b ⟨c0 :: c1 :: c2 :: c3 :: .nilFunc :: c5 :: .int .i64 e :: r, ez, op, 1⟩) := by
  refine f103 (exL_ok Q orc) _ _ G _ ?_
  simp [s103, ho]
/-- a Push's own steps -/
theorem tail_ok (orc : FuncId → Bool) (h : PMx A G m s) (ha : ¬ A b) (hb : b < G.nx) (hp : PuR G b (.go 1 R v t w)) :
    Wp ((E orc).cl 104 [P0 b, P0 m] G) fun r => r.1 = .tuple #[] ∧ Thr (fun A G => PMx A G m (s.load R.tail)) A b G r.2 ∧ PuR r.2 b (.go 2 R v (s.load R.tail).new w) := by
  refine Wp.ref (f104 (exL_ok Q orc) _ _ G) ?_
  obtain ⟨bb, rest, hm⟩ := h
  obtain ⟨⟨x, G1⟩, e, rfl, q2, q3⟩ := load_ok orc hm R.tail
  simp only at q2 q3
  have hp' : G.obj b = _ := hp
  have o1 := (q2.obj b hb ha).trans hp'
  simp [s104, hp', e, o1]
  have th := Thr.of (P := fun A G => PMx A G m (s.load R.tail)) (b := b) q2 q3
  exact ⟨(th.put (sepP m _) ha hb _).put (sepP m _) ha hb _, by simp [PuR, pNext]⟩
theorem last_ok' (orc : FuncId → Bool) (h : PMx A G m s) (ha : ¬ A b) (hb : b < G.nx) (hp : PuR G b (.go 4 R v t w)) :
    Wp ((E orc).cl 150 [P0 b, P0 m] G) fun r => r.1 = .tuple #[] ∧ Thr (fun A G => PMx A G m (s.cas R.tail t (IntKind.wrap .u64 (t + 1)))) A b G r.2 ∧ PuR r.2 b (.done 0) := by
  refine Wp.ref (f150 (exL_ok Q orc) _ _ G) ?_
  have th0 := (Thr.refl (sepP m s) (b := b) h).ext (sepP m s) ((Ext.refl G).room 17)
  obtain ⟨bb, rest, hm⟩ := th0.st
  obtain ⟨⟨x, G1⟩, e, rfl, q2, q3⟩ := cas_ok orc hm R.tail t (IntKind.wrap .u64 (t + 1))
  simp only at q2 q3
  have hp' : G.obj b = _ := hp
  have th := th0.acc (sepP m s) (sepP m _) q2 q3
  have o1 := (q2.obj b (by simp; omega) (Thr.notIn ha hb)).trans hp'
  have hend := ends_ok orc o1 0
  simp [s150, hp', e, o1, hend]
  exact ⟨(th.put (sepP m _) ha hb _).put (sepP m _) ha hb _, by simp [PuR]⟩
theorem help_ok (orc : FuncId → Bool) (h : PMx A G m s) (ha : ¬ A b) (hb : b < G.nx) (hp : PuR G b (.go 5 R v t w)) :
    Wp ((E orc).cl 144 [P0 b, P0 m] G) fun r => r.1 = .tuple #[] ∧ Thr (fun A G => PMx A G m (s.cas R.tail t (IntKind.wrap .u64 (t + 1)))) A b G r.2 ∧ PuR r.2 b (.go 1 R v t w) := by
  refine Wp.ref (f144 (exL_ok Q orc) _ _ G) ?_
  have th0 := (Thr.refl (sepP m s) (b := b) h).ext (sepP m s) ((Ext.refl G).room 17)
  obtain ⟨bb, rest, hm⟩ := th0.st
  obtain ⟨⟨x, G1⟩, e, rfl, q2, q3⟩ := cas_ok orc hm R.tail t (IntKind.wrap .u64 (t + 1))
  simp only at q2 q3
  have hp' : G.obj b = _ := hp
  have th := th0.acc (sepP m s) (sepP m _) q2 q3
  have o1 := (q2.obj b (by simp; omega) (Thr.notIn ha hb)).trans hp'
  simp [s144, hp', e, o1]
  exact ⟨th.put (sepP m _) ha hb _, by simp [PuR, pNext]⟩
theorem look_ok (orc : FuncId → Bool) (h : PMx A G m s) (hs : s.ok) (hR : R.ok) (ht : U t) (ha : ¬ A b) (hb : b < G.nx) (hp : PuR G b (.go 2 R v t w)) :
    Wp ((E orc).cl 129 [P0 b, P0 m] G) fun r => r.1 = .tuple #[] ∧ Thr (fun A G => PMx A G m (s.load (placeI R t))) A b G r.2 ∧ PuR r.2 b (look5 R v t (s.load (placeI R t)).new) := by
  refine Wp.ref (f129 (exL_ok Q orc) _ _ G) ?_
  have hp' : G.obj b = _ := hp
  have x0 : Ext G (G.room 16) := (Ext.refl G).room 16
  obtain ⟨G1, e1, x1⟩ := place_ok orc hR ht (G.room 16)
  have y1 := x0.trans x1
  have th0 := (Thr.refl (sepP m s) (b := b) h).ext (sepP m s) y1
  obtain ⟨bb, rest, hm⟩ := th0.st
  obtain ⟨⟨x, G2⟩, e2, rfl, q2, q3⟩ := load_ok orc hm (placeI R t)
  simp only at q2 q3
  have th := th0.acc (sepP m s) (sepP m _) q2 q3
  have n1 := y1.nx
  have o2 := (q2.obj b (by omega) (Thr.notIn ha hb)).trans ((y1.obj b hb).trans hp')
  have hw := (hs.load (placeI R t)).2
  generalize hs' : s.load (placeI R t) = s' at *
  generalize hx : s'.new = x at *
  obtain ⟨G3, hG3⟩ : ∃ G3, G3 = G2.put b ⟨[.int .i64 R.head, .int .i64 R.tail, .int .i64 R.slots, .int .i64 R.size, pNext b 2, .bool true, .int .i64 0, .int .i64 v, .int .u64 t, .int .u64 x], 1, false, 1⟩ := ⟨_, rfl⟩
  have o3 : G3.obj b = some ⟨[.int .i64 R.head, .int .i64 R.tail, .int .i64 R.slots, .int .i64 R.size, pNext b 2, .bool true, .int .i64 0, .int .i64 v, .int .u64 t, .int .u64 x], 1, false, 1⟩ := by rw [hG3]; simp
  have th3 : Thr (fun A G => PMx A G m s') A b G G3 := by rw [hG3]; exact th.put (sepP m _) ha hb _
  obtain ⟨G4, e4, x4⟩ := lap_ok orc hR ht (G3.room 11)
  have y4 := ((Ext.refl G3).room 11).trans x4
  have th4 := th3.ext (sepP m _) y4
  have hb3 : b < G3.nx := Nat.lt_of_lt_of_le hb th3.mod.nx
  have o4 := (y4.obj b hb3).trans o3
  have hl := lapI_lt R t
  have e5 := empty_ok orc (l := lapI R t) hw G4
  have e6 := full_ok orc (l := (lapI R t + 4294967295) % 4294967296) hw G4
  have hsub : IntKind.wrap .u32 (lapI R t - 1) = (lapI R t + 4294967295) % 4294967296 := by rw [wrap_u32]; omega
  have hend := ends_ok orc o4 7
  unfold look5
  by_cases c1 : emptyI x (lapI R t) = true
  · rw [if_pos c1]
    rw [c1] at e5
    simp [s129, hp', e1, e2, o2, ← hG3, o3, e4, o4, e5]
    exact ⟨th4.put (sepP m _) ha hb _, by simp [PuR, pNext]⟩
  · rw [if_neg c1]
    rw [Bool.not_eq_true] at c1
    rw [c1] at e5
    by_cases c2 : fullI x ((lapI R t + 4294967295) % 4294967296) = true
    · rw [if_pos c2]
      rw [c2] at e6
      simp [s129, hp', e1, e2, o2, ← hG3, o3, e4, o4, e5, hsub, e6, hend]
      exact ⟨(th4.put (sepP m _) ha hb _).put (sepP m _) ha hb _, by simp [PuR]⟩
    · rw [if_neg c2]
      rw [Bool.not_eq_true] at c2
      rw [c2] at e6
      simp [s129, hp', e1, e2, o2, ← hG3, o3, e4, o4, e5, hsub, e6]
      exact ⟨th4.put (sepP m _) ha hb _, by simp [PuR, pNext]⟩
end
end Go.Proofs.Ytfmkihikmlcimaa.Lift

set_option linter.unusedVariables false
set_option linter.unusedSimpArgs false
set_option maxRecDepth 20000
namespace Go.Proofs.Ytfmkihikmlcimaa.Lift
open Go Go.Proofs.Ytfmkihikmlcimaa.Gh Go.Proofs
section
variable {A : Nat → Prop} {G : GS} {m r bb b : Nat} {rest : List Int} {s : MS} {R : Rg} {v t w : Int}
theorem lay_ok (orc : FuncId → Bool) (h : PMx A G m s) (hR : R.ok) (ht : U t) (hv0 : 0 ≤ v) (hv1 : v ≤ 65535) (ha : ¬ A b) (hb : b < G.nx) (hp : PuR G b (.go 3 R v t w)) :
    Wp ((E orc).cl 143 [P0 b, P0 m] G) fun r => r.1 = .tuple #[] ∧ Thr (fun A G => PMx A G m (s.cas (placeI R t) w (wordI (lapI R t) v))) A b G r.2 ∧ PuR r.2 b (if (s.cas (placeI R t) w (wordI (lapI R t) v)).held = true then .go 4 R v t w else .go 5 R v t w) := by
  refine Wp.ref (f143 (exL_ok Q orc) _ _ G) ?_
  have hp' : G.obj b = _ := hp
  obtain ⟨G0, hG0⟩ : ∃ G0, G0 = G.put b ⟨[.int .i64 R.head, .int .i64 R.tail, .int .i64 R.slots, .int .i64 R.size, .func (.func 144) #[P0 b] #[], .bool true, .int .i64 0, .int .i64 v, .int .u64 t, .int .u64 w], 1, false, 1⟩ := ⟨_, rfl⟩
  have th0 : Thr (fun A G => PMx A G m s) A b G G0 := by rw [hG0]; exact (Thr.refl (sepP m s) h).put (sepP m s) ha hb _
  have o0 : G0.obj b = some ⟨[.int .i64 R.head, .int .i64 R.tail, .int .i64 R.slots, .int .i64 R.size, .func (.func 144) #[P0 b] #[], .bool true, .int .i64 0, .int .i64 v, .int .u64 t, .int .u64 w], 1, false, 1⟩ := by rw [hG0]; simp
  have hb0 : b < G0.nx := Nat.lt_of_lt_of_le hb th0.mod.nx
  have x0 : Ext G0 (G0.room 32) := (Ext.refl G0).room 32
  obtain ⟨G1, e1, x1⟩ := place_ok orc hR ht (G0.room 32)
  have y1 := x0.trans x1
  obtain ⟨G2, e2, x2⟩ := lap_ok orc hR ht G1
  have y2 := y1.trans x2
  have hl := lapI_lt R t
  have e3 := of_ok orc hl.1 hl.2 G2
  have e4 := with_ok orc hl.1 hl.2 hv0 hv1 G2
  have th2 := th0.ext (sepP m s) y2
  obtain ⟨bb, rest, hm⟩ := th2.st
  obtain ⟨⟨x, G3⟩, e5, rfl, q2, q3⟩ := cas_ok orc hm (placeI R t) w (wordI (lapI R t) v)
  simp only at q2 q3
  have th3 := th2.acc (sepP m s) (sepP m _) q2 q3
  have o1 := (y1.obj b hb0).trans o0
  have o2 := (y2.obj b hb0).trans o0
  have hb2 : b < G2.nx := Nat.lt_of_lt_of_le hb0 y2.nx
  have o3 := (q2.obj b hb2 (Thr.notIn ha hb)).trans o2
  cases hh : (s.cas (placeI R t) w (wordI (lapI R t) v)).held with
  | true =>
    rw [hh] at e5
    simp [s143, hp', ← hG0, o0, e1, o1, e2, o2, e3, e4, e5, o3]
    exact ⟨th3.put (sepP m _) ha hb _, by simp [PuR, pNext]⟩
  | false =>
    rw [hh] at e5
    simp [s143, hp', ← hG0, o0, e1, o1, e2, o2, e3, e4, e5, o3]
    exact ⟨th3, by simpa [PuR, pNext] using o3⟩
/-- a Push's step -/
theorem push_ok (orc : FuncId → Bool) {p : PuS} (h : PMx A G m s) (hs : s.ok) (hpo : p.ok) (ha : ¬ A b) (hb : b < G.nx) (hp : PuR G b p) :
    Wp ((E orc).cl 107 [P0 b, P0 m] G) fun q => q.1 = .bool (p.step s).1.over ∧ Thr (fun A G => PMx A G m (p.step s).2) A b G q.2 ∧ PuR q.2 b (p.step s).1 := by
  have w52 : Wp ((E orc).cl 131 [P0 b, P0 m] G) fun q => q.1 = .bool (p.step s).1.over ∧ Thr (fun A G => PMx A G m (p.step s).2) A b G q.2 ∧ PuR q.2 b (p.step s).1 := by
    refine Wp.ref (f131 (exL_ok Q orc) _ _ G) ?_
    cases p with
    | done e =>
      have hp0 := hp
      obtain ⟨a0, a1, a2, a3, a4, a5, a6, hp'⟩ := hp
      simp [s131, sb131, j131_0, jb131_0, clip_t, hp', PuS.step, PuS.over]
      exact ⟨Thr.refl (sepP m s) h, hp0⟩
    | go n R v t w =>
      obtain ⟨h1, h2, h3, h4, h5, h6, h7⟩ := hpo
      have hp' : G.obj b = _ := hp
      have hn : n = 1 ∨ n = 2 ∨ n = 3 ∨ n = 4 ∨ n = 5 := by omega
      rcases hn with rfl | rfl | rfl | rfl | rfl
      · obtain ⟨⟨x, G1⟩, e, rfl, q1, q2⟩ := tail_ok orc h ha hb hp
        have q2' : G1.obj b = _ := q2
        simp only at q1 q2
        simp [s131, sb131, j131_0, jb131_0, clip_t, hp', pNext, e, q2', PuS.step, PuS.over]
        exact ⟨q1, q2⟩
      · obtain ⟨⟨x, G1⟩, e, rfl, q1, q2⟩ := look_ok orc h hs h3 h6 ha hb hp
        simp only at q1 q2
        simp only [PuS.step, if_neg (show ¬ (2 : Nat) = 1 by decide), if_true]
        generalize look5 R v t (s.load (placeI R t)).new = st' at *
        cases st' with
        | done e' =>
          have q0 := q2
          obtain ⟨a0, a1, a2, a3, a4, a5, a6, q2'⟩ := q2
          simp [s131, sb131, j131_0, jb131_0, clip_t, hp', pNext, e, q2', PuS.over]
          exact ⟨q1, q0⟩
        | go n' R' v' t' w' =>
          have q2' : G1.obj b = _ := q2
          simp [s131, sb131, j131_0, jb131_0, clip_t, hp', pNext, e, q2', PuS.over]
          exact ⟨q1, q2⟩
      · obtain ⟨⟨x, G1⟩, e, rfl, q1, q2⟩ := lay_ok orc h h3 h6 h4 h5 ha hb hp
        simp only at q1 q2
        simp only [PuS.step, if_neg (show ¬ (3 : Nat) = 1 by decide), if_neg (show ¬ (3 : Nat) = 2 by decide), if_true]
        cases hh : (s.cas (placeI R t) w (wordI (lapI R t) v)).held with
        | true =>
          simp only [hh, if_true] at q2
          have q2' : G1.obj b = _ := q2
          simp [s131, sb131, j131_0, jb131_0, clip_t, hp', pNext, e, q2', PuS.over]
          exact ⟨q1, q2⟩
        | false =>
          simp only [hh, if_false, Bool.false_eq_true] at q2
          have q2' : G1.obj b = _ := q2
          simp [s131, sb131, j131_0, jb131_0, clip_t, hp', pNext, e, q2', PuS.over]
          exact ⟨q1, q2⟩
      · obtain ⟨⟨x, G1⟩, e, rfl, q1, q2⟩ := last_ok' orc h ha hb hp
        simp only at q1 q2
        have q0 := q2
        obtain ⟨a0, a1, a2, a3, a4, a5, a6, q2'⟩ := q2
        simp [s131, sb131, j131_0, jb131_0, clip_t, hp', pNext, e, q2', PuS.step, PuS.over]
        exact ⟨q1, q0⟩
      · obtain ⟨⟨x, G1⟩, e, rfl, q1, q2⟩ := help_ok orc h ha hb hp
        have q2' : G1.obj b = _ := q2
        simp only at q1 q2
        simp [s131, sb131, j131_0, jb131_0, clip_t, hp', pNext, e, q2', PuS.step, PuS.over]
        exact ⟨q1, q2⟩
  obtain ⟨⟨x, G1⟩, e, rfl, q⟩ := w52
  refine Wp.ref (f107 (exL_ok Q orc) _ _ G) ?_
  simp [s107, e]
  exact q
theorem pusherr_ok (orc : FuncId → Bool) {p : PuS} (hp : PuR G b p) : (E orc).cl 108 [P0 b] G = some (.int .i64 p.err, G) := by
  have h53 : (E orc).cl 127 [P0 b] G = some (.int .i64 p.err, G) := by
    refine f127 (exL_ok Q orc) _ G _ ?_
    cases p with
    | done e =>
      obtain ⟨a0, a1, a2, a3, a4, a5, a6, hp'⟩ := hp
      simp [s127, hp', PuS.err]
    | go n R v t w =>
      have hp' : G.obj b = _ := hp
      simp [s127, hp', pNext, PuS.err]
  exact f108 (exL_ok Q orc) _ G _ (by simp [s108, h53])
/-! ### The document's Push -/
def RuR (G : GS) (b : Nat) : PuS → Prop
  | .done e => ∃ h t s z v t' w, G.obj b = some ⟨[.int .i64 h, .int .i64 t, .int .i64 s, .int .i64 z, .int .i64 v, .int .i64 9, .int .u64 t', .int .u64 w, .int .i64 e], 1, false, 1⟩
  | .go n R v t w => G.obj b = some ⟨[.int .i64 R.head, .int .i64 R.tail, .int .i64 R.slots, .int .i64 R.size, .int .i64 v, .int .i64 n, .int .u64 t, .int .u64 w, .int .i64 0], 1, false, 1⟩
theorem RuR.kept {G G' : GS} {b : Nat} {p : PuS} (h : RuR G b p) (hk : G'.obj b = G.obj b) : RuR G' b p := by
  cases p with
  | done e => obtain ⟨a, t, s, z, v, t', w, h⟩ := h; exact ⟨a, t, s, z, v, t', w, hk.trans h⟩
  | go n R v t w => exact hk.trans h
end
end Go.Proofs.Ytfmkihikmlcimaa.Lift

set_option linter.unusedVariables false
set_option linter.unusedSimpArgs false
set_option maxRecDepth 20000
namespace Go.Proofs.Ytfmkihikmlcimaa.Lift
open Go Go.Proofs.Ytfmkihikmlcimaa.Gh Go.Proofs
/-! ### Fronts -/
inductive FrS where
  | done (e h v : Int)
  | go (n : Nat) (R : Rg) (h : Int)
def FrS.ok : FrS → Prop
  | .done .. => True
  | .go n R h => 1 ≤ n ∧ n ≤ 2 ∧ R.ok ∧ U h
def FrS.over : FrS → Bool
  | .done .. => true
  | .go .. => false
def FrS.err : FrS → Int
  | .done e _ _ => e
  | .go .. => 14
def FrS.val : FrS → Int
  | .done _ _ v => v
  | .go .. => 0
def FrS.at' : FrS → Int
  | .done _ h _ => h
  | .go _ _ h => h
def look2 (R : Rg) (h w : Int) : FrS := if fullI w (lapI R h) = true then .done 0 h (w % 65536) else .done 15 h 0
def FrS.step : FrS → MS → FrS × MS
  | .done e h v, s => (.done e h v, s)
  | .go n R h, s => if n = 1 then (.go 2 R (s.load R.head).new, s.load R.head) else (look2 R h (s.load (placeI R h)).new, s.load (placeI R h))
theorem FrS.ok.step {p : FrS} {s : MS} (hp : p.ok) (hs : s.ok) : (p.step s).1.ok ∧ (p.step s).2.ok := by
  cases p with
  | done e h v => exact ⟨hp, hs⟩
  | go n R h =>
    obtain ⟨h1, h2, h3, h4⟩ := hp
    simp only [FrS.step]
    split
    · exact ⟨⟨by decide, by decide, h3, (hs.load _).2⟩, (hs.load _).1⟩
    · refine ⟨?_, (hs.load _).1⟩
      unfold look2; split <;> trivial
def fNext (b n : Nat) : Value := .func (.func (if n = 1 then 105 else 130)) #[P0 b] #[]
def PfR (G : GS) (b : Nat) : FrS → Prop
  | .done e h v => ∃ a0 a1 a2 a3, G.obj b = some ⟨[.int .i64 a0, .int .i64 a1, .int .i64 a2, .int .i64 a3, .nilFunc, .bool true, .int .i64 e, .int .u64 h, .int .i64 v], 1, false, 1⟩
  | .go n R h => G.obj b = some ⟨[.int .i64 R.head, .int .i64 R.tail, .int .i64 R.slots, .int .i64 R.size, fNext b n, .bool true, .int .i64 0, .int .u64 h, .int .i64 0], 1, false, 1⟩
def RfR (G : GS) (b : Nat) : FrS → Prop
  | .done e h v => ∃ a0 a1 a2 a3, G.obj b = some ⟨[.int .i64 a0, .int .i64 a1, .int .i64 a2, .int .i64 a3, .int .i64 9, .int .u64 h, .int .i64 v, .int .i64 e], 1, false, 1⟩
  | .go n R h => G.obj b = some ⟨[.int .i64 R.head, .int .i64 R.tail, .int .i64 R.slots, .int .i64 R.size, .int .i64 n, .int .u64 h, .int .i64 0, .int .i64 0], 1, false, 1⟩
theorem PfR.kept {G G' : GS} {b : Nat} {p : FrS} (h : PfR G b p) (hk : G'.obj b = G.obj b) : PfR G' b p := by
  cases p with
  | done e h' v => obtain ⟨a0, a1, a2, a3, h⟩ := h; exact ⟨a0, a1, a2, a3, hk.trans h⟩
  | go n R h' => exact hk.trans h
theorem RfR.kept {G G' : GS} {b : Nat} {p : FrS} (h : RfR G b p) (hk : G'.obj b = G.obj b) : RfR G' b p := by
  cases p with
  | done e h' v => obtain ⟨a0, a1, a2, a3, h⟩ := h; exact ⟨a0, a1, a2, a3, hk.trans h⟩
  | go n R h' => exact hk.trans h
section
variable {A : Nat → Prop} {G : GS} {m r bb b : Nat} {rest : List Int} {s : MS} {R : Rg} {h : Int}
theorem fhead_ok (orc : FuncId → Bool) (hm : PMx A G m s) (ha : ¬ A b) (hb : b < G.nx) (hp : PfR G b (.go 1 R h)) :
    Wp ((E orc).cl 105 [P0 b, P0 m] G) fun r => r.1 = .tuple #[] ∧ Thr (fun A G => PMx A G m (s.load R.head)) A b G r.2 ∧ PfR r.2 b (.go 2 R (s.load R.head).new) := by
  refine Wp.ref (f105 (exL_ok Q orc) _ _ G) ?_
  obtain ⟨bb, rest, hm⟩ := hm
  obtain ⟨⟨x, G1⟩, e, rfl, q2, q3⟩ := load_ok orc hm R.head
  simp only at q2 q3
  have hp' : G.obj b = _ := hp
  have o1 := (q2.obj b hb ha).trans hp'
  simp [s105, hp', e, o1]
  have th := Thr.of (P := fun A G => PMx A G m (s.load R.head)) (b := b) q2 q3
  exact ⟨(th.put (sepP m _) ha hb _).put (sepP m _) ha hb _, by simp [PfR, fNext]⟩
theorem flook_ok (orc : FuncId → Bool) (hm : PMx A G m s) (hs : s.ok) (hR : R.ok) (hh : U h) (ha : ¬ A b) (hb : b < G.nx) (hp : PfR G b (.go 2 R h)) :
    Wp ((E orc).cl 130 [P0 b, P0 m] G) fun r => r.1 = .tuple #[] ∧ Thr (fun A G => PMx A G m (s.load (placeI R h))) A b G r.2 ∧ PfR r.2 b (look2 R h (s.load (placeI R h)).new) := by
  refine Wp.ref (f130 (exL_ok Q orc) _ _ G) ?_
  have hp' : G.obj b = _ := hp
  have x0 : Ext G (G.room 13) := (Ext.refl G).room 13
  obtain ⟨G1, e1, x1⟩ := place_ok orc hR hh (G.room 13)
  have y1 := x0.trans x1
  have th0 := (Thr.refl (sepP m s) (b := b) hm).ext (sepP m s) y1
  obtain ⟨bb, rest, hm⟩ := th0.st
  obtain ⟨⟨x, G2⟩, e2, rfl, q2, q3⟩ := load_ok orc hm (placeI R h)
  simp only at q2 q3
  have th := th0.acc (sepP m s) (sepP m _) q2 q3
  have n1 := y1.nx
  have o2 := (q2.obj b (by omega) (Thr.notIn ha hb)).trans ((y1.obj b hb).trans hp')
  have hw := (hs.load (placeI R h)).2
  generalize hs' : s.load (placeI R h) = s' at *
  generalize hx : s'.new = x at *
  have hend := ends_ok orc o2 15
  obtain ⟨G3, hG3⟩ : ∃ G3, G3 = (G2.put b ⟨[.int .i64 R.head, .int .i64 R.tail, .int .i64 R.slots, .int .i64 R.size, .nilFunc, .bool true, .int .i64 0, .int .u64 h, .int .i64 0], 1, false, 1⟩).put b ⟨[.int .i64 R.head, .int .i64 R.tail, .int .i64 R.slots, .int .i64 R.size, .nilFunc, .bool true, .int .i64 15, .int .u64 h, .int .i64 0], 1, false, 1⟩ := ⟨_, rfl⟩
  rw [← hG3] at hend
  have o3 : G3.obj b = some ⟨[.int .i64 R.head, .int .i64 R.tail, .int .i64 R.slots, .int .i64 R.size, .nilFunc, .bool true, .int .i64 15, .int .u64 h, .int .i64 0], 1, false, 1⟩ := by rw [hG3]; simp
  have th3 : Thr (fun A G => PMx A G m s') A b G G3 := by rw [hG3]; exact (th.put (sepP m _) ha hb _).put (sepP m _) ha hb _
  obtain ⟨G4, e4, x4⟩ := lap_ok orc hR hh (G3.room 12)
  have y4 := ((Ext.refl G3).room 12).trans x4
  have th4 := th3.ext (sepP m _) y4
  have hb3 : b < G3.nx := Nat.lt_of_lt_of_le hb th3.mod.nx
  have o4 := (y4.obj b hb3).trans o3
  have e6 := full_ok orc (l := lapI R h) hw G4
  have e7 := value_ok orc hw G4
  unfold look2
  by_cases c2 : fullI x (lapI R h) = true
  · rw [if_pos c2]
    rw [c2] at e6
    have hend2 : ∀ (G5 : GS) (c8 : Value), G5.obj b = some ⟨[.int .i64 R.head, .int .i64 R.tail, .int .i64 R.slots, .int .i64 R.size, .nilFunc, .bool true, .int .i64 15, .int .u64 h, c8], 1, false, 1⟩ → _ := fun G5 c8 ho => ends_ok orc ho 0
    have hend3 := hend2 (G4.put b ⟨[.int .i64 R.head, .int .i64 R.tail, .int .i64 R.slots, .int .i64 R.size, .nilFunc, .bool true, .int .i64 15, .int .u64 h, .int .i64 (x % 65536)], 1, false, 1⟩) (.int .i64 (x % 65536)) (by simp)
    simp [s130, hp', e1, e2, hend, o3, e4, e6, e7, o4, hend3]
    exact ⟨((th4.put (sepP m _) ha hb _).put (sepP m _) ha hb _).put (sepP m _) ha hb _, by simp [PfR]⟩
  · rw [if_neg c2]
    rw [Bool.not_eq_true] at c2
    rw [c2] at e6
    simp [s130, hp', e1, e2, hend, o3, e4, e6]
    exact ⟨th4, ⟨_, _, _, _, o4⟩⟩
theorem front_ok (orc : FuncId → Bool) {p : FrS} (hm : PMx A G m s) (hs : s.ok) (hpo : p.ok) (ha : ¬ A b) (hb : b < G.nx) (hp : PfR G b p) :
    Wp ((E orc).cl 168 [P0 b, P0 m] G) fun q => q.1 = .bool (p.step s).1.over ∧ Thr (fun A G => PMx A G m (p.step s).2) A b G q.2 ∧ PfR q.2 b (p.step s).1 := by
  have w52 : Wp ((E orc).cl 131 [P0 b, P0 m] G) fun q => q.1 = .bool (p.step s).1.over ∧ Thr (fun A G => PMx A G m (p.step s).2) A b G q.2 ∧ PfR q.2 b (p.step s).1 := by
    refine Wp.ref (f131 (exL_ok Q orc) _ _ G) ?_
    cases p with
    | done e h v =>
      have hp0 := hp
      obtain ⟨a0, a1, a2, a3, hp'⟩ := hp
      simp [s131, sb131, j131_0, jb131_0, clip_t, hp', FrS.step, FrS.over]
      exact ⟨Thr.refl (sepP m s) hm, hp0⟩
    | go n R h =>
      obtain ⟨h1, h2, h3, h4⟩ := hpo
      have hp' : G.obj b = _ := hp
      have hn : n = 1 ∨ n = 2 := by omega
      rcases hn with rfl | rfl
      · obtain ⟨⟨x, G1⟩, e, rfl, q1, q2⟩ := fhead_ok orc hm ha hb hp
        have q2' : G1.obj b = _ := q2
        simp only at q1 q2
        simp [s131, sb131, j131_0, jb131_0, clip_t, hp', fNext, e, q2', FrS.step, FrS.over]
        exact ⟨q1, q2⟩
      · obtain ⟨⟨x, G1⟩, e, rfl, q1, q2⟩ := flook_ok orc hm hs h3 h4 ha hb hp
        simp only at q1 q2
        simp only [FrS.step, if_neg (show ¬ (2 : Nat) = 1 by decide)]
        have hd : ∃ e' h' v', look2 R h (s.load (placeI R h)).new = .done e' h' v' := by unfold look2; split <;> exact ⟨_, _, _, rfl⟩
        obtain ⟨e', h', v', hd⟩ := hd
        rw [hd] at q2 ⊢
        have q0 := q2
        obtain ⟨a0, a1, a2, a3, q2'⟩ := q2
        simp [s131, sb131, j131_0, jb131_0, clip_t, hp', fNext, e, q2', FrS.over]
        exact ⟨q1, q0⟩
  obtain ⟨⟨x, G1⟩, e, rfl, q⟩ := w52
  refine Wp.ref (f168 (exL_ok Q orc) _ _ G) ?_
  simp [s168, e]
  exact q
theorem fval_ok (orc : FuncId → Bool) {p : FrS} (hp : PfR G b p) : ∃ G', (E orc).cl 99 [P0 b] G = some (.tuple #[.int .i64 p.val, .int .i64 p.err], G') ∧ Ext G G' := by
  have h53 : (E orc).cl 127 [P0 b] (G.room 10) = some (.int .i64 p.err, G.room 10) := by
    refine f127 (exL_ok Q orc) _ (G.room 10) _ ?_
    cases p with
    | done e h v =>
      obtain ⟨a0, a1, a2, a3, hp'⟩ := hp
      simp [s127, hp', FrS.err]
    | go n R h =>
      have hp' : G.obj b = _ := hp
      simp [s127, hp', fNext, FrS.err]
  refine ⟨G.room 10, f99 (exL_ok Q orc) _ G _ ?_, (Ext.refl G).room 10⟩
  cases p with
  | done e h v =>
    obtain ⟨a0, a1, a2, a3, hp'⟩ := hp
    simp [s99, hp', h53, FrS.val]
  | go n R h =>
    have hp' : G.obj b = _ := hp
    simp [s99, hp', h53, FrS.val]
theorem fat_ok (orc : FuncId → Bool) {p : FrS} (hp : PfR G b p) : (E orc).cl 101 [P0 b] G = some (.int .u64 p.at', G) := by
  refine f101 (exL_ok Q orc) _ G _ ?_
  cases p with
  | done e h v =>
    obtain ⟨a0, a1, a2, a3, hp'⟩ := hp
    simp [s101, hp', FrS.at']
  | go n R h =>
    have hp' : G.obj b = _ := hp
    simp [s101, hp', FrS.at']
end
end Go.Proofs.Ytfmkihikmlcimaa.Lift

set_option linter.unusedVariables false
set_option linter.unusedSimpArgs false
set_option maxRecDepth 20000
namespace Go.Proofs.Ytfmkihikmlcimaa.Lift
open Go Go.Proofs.Ytfmkihikmlcimaa.Gh Go.Proofs
/-! ### Drops -/
inductive DrS where
  | done (e : Int)
  | go (n : Nat) (R : Rg) (h : Int)
def DrS.ok : DrS → Prop
  | .done .. => True
  | .go n R h => 1 ≤ n ∧ n ≤ 2 ∧ R.ok ∧ U h
def DrS.over : DrS → Bool
  | .done .. => true
  | .go .. => false
def DrS.err : DrS → Int
  | .done e => e
  | .go .. => 14
def clearI (R : Rg) (h : Int) : Int := (lapI R h + 1) % 4294967296 * 4294967296
def DrS.step : DrS → MS → DrS × MS
  | .done e, s => (.done e, s)
  | .go n R h, s => if n = 1 then (.go 2 R h, s.store (placeI R h) (clearI R h)) else (.done 0, s.store R.head (IntKind.wrap .u64 (h + 1)))
theorem DrS.ok.step {p : DrS} {s : MS} (hp : p.ok) (hs : s.ok) : (p.step s).1.ok ∧ (p.step s).2.ok := by
  cases p with
  | done e => exact ⟨hp, hs⟩
  | go n R h =>
    obtain ⟨h1, h2, h3, h4⟩ := hp
    simp only [DrS.step]
    split
    · exact ⟨⟨by decide, by decide, h3, h4⟩, hs.store _ (by unfold clearI U; omega)⟩
    · exact ⟨trivial, hs.store _ (U_wrap _)⟩
def dNext (b n : Nat) : Value := .func (.func (if n = 1 then 128 else 141)) #[P0 b] #[]
def PdR (G : GS) (b : Nat) : DrS → Prop
  | .done e => ∃ a0 a1 a2 a3 h, G.obj b = some ⟨[.int .i64 a0, .int .i64 a1, .int .i64 a2, .int .i64 a3, .nilFunc, .bool true, .int .i64 e, .int .u64 h], 1, false, 1⟩
  | .go n R h => G.obj b = some ⟨[.int .i64 R.head, .int .i64 R.tail, .int .i64 R.slots, .int .i64 R.size, dNext b n, .bool true, .int .i64 0, .int .u64 h], 1, false, 1⟩
def RdR (G : GS) (b : Nat) : DrS → Prop
  | .done e => ∃ a0 a1 a2 a3 h, G.obj b = some ⟨[.int .i64 a0, .int .i64 a1, .int .i64 a2, .int .i64 a3, .int .i64 9, .int .u64 h, .int .i64 e], 1, false, 1⟩
  | .go n R h => G.obj b = some ⟨[.int .i64 R.head, .int .i64 R.tail, .int .i64 R.slots, .int .i64 R.size, .int .i64 n, .int .u64 h, .int .i64 0], 1, false, 1⟩
theorem PdR.kept {G G' : GS} {b : Nat} {p : DrS} (h : PdR G b p) (hk : G'.obj b = G.obj b) : PdR G' b p := by
  cases p with
  | done e => obtain ⟨a0, a1, a2, a3, h', h⟩ := h; exact ⟨a0, a1, a2, a3, h', hk.trans h⟩
  | go n R h' => exact hk.trans h
theorem RdR.kept {G G' : GS} {b : Nat} {p : DrS} (h : RdR G b p) (hk : G'.obj b = G.obj b) : RdR G' b p := by
  cases p with
  | done e => obtain ⟨a0, a1, a2, a3, h', h⟩ := h; exact ⟨a0, a1, a2, a3, h', hk.trans h⟩
  | go n R h' => exact hk.trans h
section
variable {A : Nat → Prop} {G : GS} {m r bb b : Nat} {rest : List Int} {s : MS} {R : Rg} {h : Int}
theorem dclear_ok (orc : FuncId → Bool) (hm : PMx A G m s) (hR : R.ok) (hh : U h) (ha : ¬ A b) (hb : b < G.nx) (hp : PdR G b (.go 1 R h)) :
    Wp ((E orc).cl 128 [P0 b, P0 m] G) fun r => r.1 = .tuple #[] ∧ Thr (fun A G => PMx A G m (s.store (placeI R h) (clearI R h))) A b G r.2 ∧ PdR r.2 b (.go 2 R h) := by
  refine Wp.ref (f128 (exL_ok Q orc) _ _ G) ?_
  have hp' : G.obj b = _ := hp
  have x0 : Ext G (G.room 24) := (Ext.refl G).room 24
  obtain ⟨G1, e1, x1⟩ := place_ok orc hR hh (G.room 24)
  have y1 := x0.trans x1
  obtain ⟨G2, e2, x2⟩ := lap_ok orc hR hh G1
  have y2 := y1.trans x2
  have hl := lapI_lt R h
  have hw : IntKind.wrap .u32 (lapI R h + 1) = (lapI R h + 1) % 4294967296 := wrap_u32 _
  have e3 := of_ok orc (l := (lapI R h + 1) % 4294967296) (by omega) (by omega) G2
  have th2 := (Thr.refl (sepP m s) (b := b) hm).ext (sepP m s) y2
  obtain ⟨bb, rest, hm⟩ := th2.st
  obtain ⟨⟨x, G3⟩, e5, rfl, q2, q3⟩ := store_ok orc hm (placeI R h) (clearI R h)
  simp only at q2 q3
  have th3 := th2.acc (sepP m s) (sepP m _) q2 q3
  have o1 := (y1.obj b hb).trans hp'
  have hb2 : b < G2.nx := Nat.lt_of_lt_of_le hb y2.nx
  have o3 := (q2.obj b hb2 (Thr.notIn ha hb)).trans ((y2.obj b hb).trans hp')
  simp only [clearI] at e5
  simp [s128, hp', e1, o1, e2, hw, e3, e5, o3]
  exact ⟨th3.put (sepP m _) ha hb _, by simp [PdR, dNext]⟩
theorem dhead_ok (orc : FuncId → Bool) (hm : PMx A G m s) (ha : ¬ A b) (hb : b < G.nx) (hp : PdR G b (.go 2 R h)) :
    Wp ((E orc).cl 141 [P0 b, P0 m] G) fun r => r.1 = .tuple #[] ∧ Thr (fun A G => PMx A G m (s.store R.head (IntKind.wrap .u64 (h + 1)))) A b G r.2 ∧ PdR r.2 b (.done 0) := by
  refine Wp.ref (f141 (exL_ok Q orc) _ _ G) ?_
  have th0 := (Thr.refl (sepP m s) (b := b) hm).ext (sepP m s) ((Ext.refl G).room 13)
  obtain ⟨bb, rest, hm⟩ := th0.st
  obtain ⟨⟨x, G1⟩, e, rfl, q2, q3⟩ := store_ok orc hm R.head (IntKind.wrap .u64 (h + 1))
  simp only at q2 q3
  have hp' : G.obj b = _ := hp
  have th := th0.acc (sepP m s) (sepP m _) q2 q3
  have o1 := (q2.obj b (by simp; omega) (Thr.notIn ha hb)).trans hp'
  have hend := ends_ok orc o1 0
  simp [s141, hp', e, o1, hend]
  exact ⟨(th.put (sepP m _) ha hb _).put (sepP m _) ha hb _, by simp [PdR]⟩
theorem drop_ok (orc : FuncId → Bool) {p : DrS} (hm : PMx A G m s) (hpo : p.ok) (ha : ¬ A b) (hb : b < G.nx) (hp : PdR G b p) :
    Wp ((E orc).cl 170 [P0 b, P0 m] G) fun q => q.1 = .bool (p.step s).1.over ∧ Thr (fun A G => PMx A G m (p.step s).2) A b G q.2 ∧ PdR q.2 b (p.step s).1 := by
  have w52 : Wp ((E orc).cl 131 [P0 b, P0 m] G) fun q => q.1 = .bool (p.step s).1.over ∧ Thr (fun A G => PMx A G m (p.step s).2) A b G q.2 ∧ PdR q.2 b (p.step s).1 := by
    refine Wp.ref (f131 (exL_ok Q orc) _ _ G) ?_
    cases p with
    | done e =>
      have hp0 := hp
      obtain ⟨a0, a1, a2, a3, h, hp'⟩ := hp
      simp [s131, sb131, j131_0, jb131_0, clip_t, hp', DrS.step, DrS.over]
      exact ⟨Thr.refl (sepP m s) hm, hp0⟩
    | go n R h =>
      obtain ⟨h1, h2, h3, h4⟩ := hpo
      have hp' : G.obj b = _ := hp
      have hn : n = 1 ∨ n = 2 := by omega
      rcases hn with rfl | rfl
      · obtain ⟨⟨x, G1⟩, e, rfl, q1, q2⟩ := dclear_ok orc hm h3 h4 ha hb hp
        have q2' : G1.obj b = _ := q2
        simp only at q1 q2
        simp [s131, sb131, j131_0, jb131_0, clip_t, hp', dNext, e, q2', DrS.step, DrS.over]
        exact ⟨q1, q2⟩
      · obtain ⟨⟨x, G1⟩, e, rfl, q1, q2⟩ := dhead_ok orc hm ha hb hp
        simp only at q1 q2
        have q0 := q2
        obtain ⟨a0, a1, a2, a3, h', q2'⟩ := q2
        simp [s131, sb131, j131_0, jb131_0, clip_t, hp', dNext, e, q2', DrS.step, DrS.over]
        exact ⟨q1, q0⟩
  obtain ⟨⟨x, G1⟩, e, rfl, q⟩ := w52
  refine Wp.ref (f170 (exL_ok Q orc) _ _ G) ?_
  simp [s170, e]
  exact q
/-! ### What the document's tell -/
end
end Go.Proofs.Ytfmkihikmlcimaa.Lift

set_option linter.unusedVariables false
set_option linter.unusedSimpArgs false
set_option maxRecDepth 20000
namespace Go.Proofs.Ytfmkihikmlcimaa.Lift
open Go Go.Proofs.Ytfmkihikmlcimaa.Gh Go.Proofs
instance (R : Rg) : Decidable R.ok := by unfold Rg.ok; infer_instance
theorem ok_dec (R : Rg) : (decide (1 ≤ R.size) && decide (R.size ≤ 4096)) = decide R.ok := by
  by_cases h1 : 1 ≤ R.size <;> by_cases h2 : R.size ≤ 4096 <;> simp [Rg.ok, h1, h2]
/-! ### Made -/
def newPu (R : Rg) (v : Int) : PuS := if R.ok then (if v < 0 ∨ 65535 < v then .done 3 else .go 1 R v 0 0) else .done 2
def newFr (R : Rg) : FrS := if R.ok then .go 1 R 0 else .done 2 0 0
def newDr (R : Rg) (h : Int) : DrS := if R.ok then .go 1 R h else .done 2
theorem newPu_ok (R : Rg) (v : Int) : (newPu R v).ok := by
  unfold newPu
  split
  · rename_i h
    split
    · trivial
    · exact ⟨by decide, by decide, h, by omega, by omega, ⟨by decide, by decide⟩, ⟨by decide, by decide⟩⟩
  · trivial
theorem newFr_ok (R : Rg) : (newFr R).ok := by
  unfold newFr
  split
  · rename_i h; exact ⟨by decide, by decide, h, ⟨by decide, by decide⟩⟩
  · trivial
theorem newDr_ok (R : Rg) {h : Int} (hh : U h) : (newDr R h).ok := by
  unfold newDr
  split
  · rename_i hr; exact ⟨by decide, by decide, hr, hh⟩
  · trivial
def workV (R : Rg) : List Value := if R.ok then [.int .i64 R.head, .int .i64 R.tail, .int .i64 R.slots, .int .i64 R.size, .nilFunc, .bool true, .int .i64 0] else [.int .i64 0, .int .i64 0, .int .i64 0, .int .i64 0, .nilFunc, .bool true, .int .i64 2]
section
variable {R : Rg} {G : GS}
theorem begun_ok (orc : FuncId → Bool) (R : Rg) (G : GS) : ∃ G', (E orc).cl 102 [R.v] G = some (.agg ⟨workV R⟩, G') ∧ Ext G G' := by
  obtain ⟨G1, hG1⟩ : ∃ G1, G1 = (G.push ⟨R.cells, 1, false, 1⟩).push ⟨[.int .i64 0, .int .i64 0, .int .i64 0, .int .i64 0, .nilFunc, .bool false, .int .i64 0], 1, false, 1⟩ := ⟨_, rfl⟩
  have x1 : Ext G G1 := by rw [hG1]; exact ((Ext.refl G).push _).push _
  have o1 : G1.obj G.nx = some ⟨R.cells, 1, false, 1⟩ := by rw [hG1]; simp
  have p1 : G1.obj (G.nx + 1) = some ⟨[.int .i64 0, .int .i64 0, .int .i64 0, .int .i64 0, .nilFunc, .bool false, .int .i64 0], 1, false, 1⟩ := by rw [hG1]; simp
  have n1 : G1.nx = G.nx + 2 := by rw [hG1]; rfl
  obtain ⟨G2, e2, x2⟩ := sized_ok orc R G1
  have o2 := (x2.obj G.nx (by omega)).trans o1
  have p2 := (x2.obj (G.nx + 1) (by omega)).trans p1
  have y2 := x1.trans x2
  rw [ok_dec] at e2
  unfold workV
  by_cases h : R.ok
  · rw [if_pos h]
    simp only [h, decide_true] at e2
    exact ⟨_, f102 (exL_ok Q orc) _ G _ (by simp [s102, ← hG1, o1, e2, o2, p2]; rfl), y2.put (by omega) _⟩
  · rw [if_neg h]
    simp only [h, decide_false] at e2
    exact ⟨_, f102 (exL_ok Q orc) _ G _ (by simp [s102, ← hG1, o1, e2, o2, p2]; rfl), y2.put (by omega) _⟩
theorem newpush_ok (orc : FuncId → Bool) (R : Rg) (v : Int) (G : GS) : ∃ b G', (E orc).cl 68 [R.v, .int .i64 v] G = some (P0 b, G') ∧ Ext G G' ∧ G.nx ≤ b ∧ b < G'.nx ∧ PuR G' b (newPu R v) := by
  have x1 : Ext G (G.push ⟨R.cells, 1, false, 1⟩) := (Ext.refl G).push _
  obtain ⟨G2, e2, x2⟩ := begun_ok orc R (G.push ⟨R.cells, 1, false, 1⟩)
  have y2 := x1.trans x2
  have n2 := y2.nx
  unfold newPu
  by_cases h : R.ok
  · rw [if_pos h]
    simp only [workV, if_pos h] at e2
    by_cases hv : v < 0 ∨ 65535 < v
    · rw [if_pos hv]
      have hend := ends_ok orc (G := G2.push ⟨[.int .i64 R.head, .int .i64 R.tail, .int .i64 R.slots, .int .i64 R.size, .nilFunc, .bool true, .int .i64 0, .int .i64 v, .int .u64 0, .int .u64 0], 1, false, 1⟩) (b := G2.nx) (c0 := .int .i64 R.head) (c1 := .int .i64 R.tail) (c2 := .int .i64 R.slots) (c3 := .int .i64 R.size) (c4 := .nilFunc) (c5 := .bool true) (c6 := .int .i64 0) (r := [.int .i64 v, .int .u64 0, .int .u64 0]) (ez := 1) (op := false) (by simp) 3
      have w : Wp ((E orc).cl 68 [R.v, .int .i64 v] G) fun q => q.1 = P0 G2.nx ∧ Ext G q.2 ∧ G2.nx < q.2.nx ∧ PuR q.2 G2.nx (.done 3) := by
        refine Wp.ref (f68 (exL_ok Q orc) _ _ G) ?_
        have hfin : ∀ c1 c2 c3, Ext G (((G2.push c1).put G2.nx c2).put G2.nx c3) := fun _ _ _ => ((y2.push _).put n2 _).put n2 _
        by_cases h1 : v < 0
        · simp [s68, e2, h1, hend]
          exact ⟨hfin _ _ _, by simp [PuR]⟩
        · have h2 : 65535 < v := by omega
          simp [s68, e2, h1, h2, hend]
          exact ⟨hfin _ _ _, by simp [PuR]⟩
      obtain ⟨⟨q, G'⟩, e, rfl, q1, q2, q3⟩ := w
      exact ⟨_, G', e, q1, n2, q2, q3⟩
    · rw [if_neg hv]
      have h1 : ¬ v < 0 := by omega
      have h2 : ¬ 65535 < v := by omega
      refine ⟨G2.nx, _, f68 (exL_ok Q orc) _ _ G _ (by simp [s68, e2, h1, h2]; rfl), (y2.push _).put n2 _, n2, by simp, by simp [PuR, pNext]⟩
  · rw [if_neg h]
    simp only [workV, if_neg h] at e2
    refine ⟨G2.nx, _, f68 (exL_ok Q orc) _ _ G _ (by simp [s68, e2]; rfl), y2.push _, n2, by simp, by simp [PuR]⟩
theorem newfront_ok (orc : FuncId → Bool) (R : Rg) (G : GS) : ∃ b G', (E orc).cl 69 [R.v] G = some (P0 b, G') ∧ Ext G G' ∧ G.nx ≤ b ∧ b < G'.nx ∧ PfR G' b (newFr R) := by
  have x1 : Ext G (G.push ⟨R.cells, 1, false, 1⟩) := (Ext.refl G).push _
  obtain ⟨G2, e2, x2⟩ := begun_ok orc R (G.push ⟨R.cells, 1, false, 1⟩)
  have y2 := x1.trans x2
  have n2 := y2.nx
  unfold newFr
  by_cases h : R.ok
  · rw [if_pos h]
    simp only [workV, if_pos h] at e2
    refine ⟨G2.nx, _, f69 (exL_ok Q orc) _ G _ (by simp [s69, e2]; rfl), (y2.push _).put n2 _, n2, by simp, by simp [PfR, fNext]⟩
  · rw [if_neg h]
    simp only [workV, if_neg h] at e2
    refine ⟨G2.nx, _, f69 (exL_ok Q orc) _ G _ (by simp [s69, e2]; rfl), y2.push _, n2, by simp, by simp [PfR]⟩
theorem newdrop_ok (orc : FuncId → Bool) (R : Rg) (h' : Int) (G : GS) : ∃ b G', (E orc).cl 100 [R.v, .int .u64 h'] G = some (P0 b, G') ∧ Ext G G' ∧ G.nx ≤ b ∧ b < G'.nx ∧ PdR G' b (newDr R h') := by
  have x1 : Ext G (G.push ⟨R.cells, 1, false, 1⟩) := (Ext.refl G).push _
  obtain ⟨G2, e2, x2⟩ := begun_ok orc R (G.push ⟨R.cells, 1, false, 1⟩)
  have y2 := x1.trans x2
  have n2 := y2.nx
  unfold newDr
  by_cases h : R.ok
  · rw [if_pos h]
    simp only [workV, if_pos h] at e2
    refine ⟨G2.nx, _, f100 (exL_ok Q orc) _ _ G _ (by simp [s100, e2]; rfl), (y2.push _).put n2 _, n2, by simp, by simp [PdR, dNext]⟩
  · rw [if_neg h]
    simp only [workV, if_neg h] at e2
    refine ⟨G2.nx, _, f100 (exL_ok Q orc) _ _ G _ (by simp [s100, e2]; rfl), y2.push _, n2, by simp, by simp [PdR]⟩
end
end Go.Proofs.Ytfmkihikmlcimaa.Lift

set_option linter.unusedVariables false
set_option linter.unusedSimpArgs false
set_option maxRecDepth 20000
namespace Go.Proofs.Ytfmkihikmlcimaa.Lift
open Go Go.Proofs.Ytfmkihikmlcimaa.Gh Go.Proofs
theorem thr_fin {P : (Nat → Prop) → GS → Prop} {A : Nat → Prop} {b : Nat} {G G0 G' : GS} (hP : Sep P) (hu : Under A G) (x : Ext G G0) (h : Thr P A b G0 G') (hb : G0.nx ≤ b) : ModP A G G' ∧ P (Grow A G G') G' := by
  have m0 : ModP A G0 G' := ⟨h.mod.nx, fun g hg ha => h.mod.obj g hg fun k => k.elim ha fun e => by omega, h.mod.nl, h.mod.loop⟩
  have m1 := ModP.pre x m0
  exact ⟨m1, hP.mono h.st (grow_pre x) (hu.grow m1.nx)⟩
/-! ### A ring is laid -/
def fillN (R : Rg) : Nat → Nat → MS → MS
  | 0, _, s => s
  | k + 1, i, s => fillN R k (i + 1) (s.store (IntKind.wrap .i64 (R.slots + i)) 0)
def fillI (R : Rg) (s : MS) : MS := if R.ok then fillN R R.size.toNat 0 ((s.store R.head 0).store R.tail 0) else s
theorem U_zero : U 0 := ⟨by decide, by decide⟩
theorem fillN_ok (R : Rg) : ∀ (k i : Nat) {s : MS}, s.ok → (fillN R k i s).ok
  | 0, _, s, h => h
  | k + 1, i, s, h => fillN_ok R k (i + 1) (h.store _ U_zero)
theorem fillI_ok (R : Rg) {s : MS} (h : s.ok) : (fillI R s).ok := by
  unfold fillI; split
  · exact fillN_ok R _ _ ((h.store _ U_zero).store _ U_zero)
  · exact h
theorem MS.store_len (s : MS) (a v : Int) : (s.store a v).W.length = s.W.length := s.acc_len _ _ _
theorem fillN_len (R : Rg) : ∀ (k i : Nat) (s : MS), (fillN R k i s).W.length = s.W.length
  | 0, _, s => rfl
  | k + 1, i, s => by simp only [fillN]; rw [fillN_len R k (i + 1), MS.store_len]
theorem fillI_len (R : Rg) (s : MS) : (fillI R s).W.length = s.W.length := by
  unfold fillI; split
  · rw [fillN_len, MS.store_len, MS.store_len]
  · rfl
section
variable {A : Nat → Prop} {G G0 : GS} {m r rb b : Nat} {s : MS} {R : Rg}
theorem fill_lp (orc : FuncId → Bool) (hb : G0.nx ≤ b) (hrb : rb < G0.nx) (ha : ¬ A rb) (ho : G0.obj rb = some ⟨R.cells, 1, false, 1⟩) {n : Nat} (hn : n ≤ 4096) : ∀ (k i : Nat) (τ : Env) (G' : GS) (s' : MS), i + k = n → τ 1 = P0 m → τ 2 = P0 rb → τ 17 = .int .i64 n → τ 18 = .int .i64 i → Thr (fun A G => PMx A G m s') A b G0 G' →
    Wp ((exL Q orc).lpx 106 0 τ G') fun q => q.1 = .exit 0 ∧ Thr (fun A G => PMx A G m (fillN R k i s')) A b G0 q.2.2 := by
  intro k
  induction k with
  | zero =>
    intro i τ G' s' hi t1 t2 t17 t18 th
    have hi' : i = n := by omega
    subst hi'
    refine Wp.lp (l106_0 (exL_ok Q orc)) ?_
    simp [b106_0, clip_t, t1, t2, t17, t18, fillN]
    exact th
  | succ k ih =>
    intro i τ G' s' hi t1 t2 t17 t18 th
    have hlt : (i : Int) < n := by omega
    have hlt' : i < n := by omega
    have hw : IntKind.wrap .i64 ((i : Int) + 1) = ((i + 1 : Nat) : Int) := wrap64 (by omega) (by omega)
    have or := (th.keep hrb ha (by omega)).trans ho
    obtain ⟨bb, rest, hm⟩ := th.st
    obtain ⟨⟨x, G1⟩, e, rfl, q2, q3⟩ := store_ok orc hm (IntKind.wrap .i64 (R.slots + i)) 0
    simp only at q2 q3
    have th1 := th.acc (sepP m s') (sepP m _) q2 q3
    refine Wp.lp (l106_0 (exL_ok Q orc)) ?_
    simp [-Int.natCast_add, b106_0, clip_t, t1, t2, t17, t18, hlt', or, e, hw]
    exact ih (i + 1) _ G1 _ (by omega) (by simp [clip_t]) (by simp [clip_t]) (by simp [clip_t]) (by simp [clip_t]) th1
theorem fill_ok (orc : FuncId → Bool) (h : PMx A G m s) (R : Rg) : Wp ((E orc).cl 106 [R.v, P0 m] G) fun q => q.1 = .tuple #[] ∧ ModP A G q.2 ∧ PMx (Grow A G q.2) q.2 m (fillI R s) := by
  refine Wp.ref (f106 (exL_ok Q orc) _ _ G) ?_
  have x0 : Ext G (G.push ⟨R.cells, 1, false, 1⟩) := (Ext.refl G).push _
  obtain ⟨G0, e0, x1⟩ := sized_ok orc R (G.push ⟨R.cells, 1, false, 1⟩)
  rw [ok_dec] at e0
  have y0 := x0.trans x1
  have hn0 := x1.nx
  simp at hn0
  have o0 : G0.obj G.nx = some ⟨R.cells, 1, false, 1⟩ := by rw [x1.obj G.nx (by simp)]; simp
  have ha : ¬ A G.nx := fun hh => by have := h.un _ hh; omega
  have hm0 := h.ext y0
  unfold fillI
  by_cases hR : R.ok
  · rw [if_pos hR]
    simp only [hR, decide_true] at e0
    have th0 := Thr.refl (sepP m s) (b := G0.nx) hm0
    obtain ⟨bb, rest, hm⟩ := th0.st
    obtain ⟨⟨x, G1⟩, e1, rfl, q2, q3⟩ := store_ok orc hm R.head 0
    simp only at q2 q3
    have th1 := th0.acc (sepP m s) (sepP m _) q2 q3
    have o1 := (th1.keep (by omega : G.nx < G0.nx) ha (by omega)).trans o0
    obtain ⟨bb', rest', hm'⟩ := th1.st
    obtain ⟨⟨x, G2⟩, e2, rfl, q4, q5⟩ := store_ok orc hm' R.tail 0
    simp only at q4 q5
    have th2 := th1.acc (sepP m _) (sepP m _) q4 q5
    have o2 := (th2.keep (by omega : G.nx < G0.nx) ha (by omega)).trans o0
    obtain ⟨n, hn⟩ : ∃ n : Nat, R.size = n := ⟨R.size.toNat, by have := hR.1; omega⟩
    simp [s106, e0, o0, e1, o1, e2, o2]
    refine Wp.bE ((fill_lp orc (R := R) (rb := G.nx) (Nat.le_refl _) (by omega) ha o0 (n := n) (by have := hR.2; omega) n 0 _ G2 _ (by omega) (by simp) (by simp) (by simp [hn]) (by simp) th2).mono ?_)
    rintro ⟨e, τ, G'⟩ ⟨rfl, th⟩
    simp only at th
    have := thr_fin (sepP m _) h.un y0 th (Nat.le_refl _)
    rw [hn, Int.toNat_natCast]
    simpa using this
  · rw [if_neg hR]
    simp only [hR, decide_false] at e0
    simp [s106, e0]
    exact ⟨y0.modP A, hm0.mono (fun x => .inl) (h.un.grow y0.nx)⟩
end
end Go.Proofs.Ytfmkihikmlcimaa.Lift

set_option linter.unusedVariables false
set_option linter.unusedSimpArgs false
set_option maxRecDepth 20000
namespace Go.Proofs.Ytfmkihikmlcimaa.Lift
open Go Go.Proofs.Ytfmkihikmlcimaa.Gh Go.Proofs
/-! ### What is in a ring -/
def allN (R : Rg) (s : MS) : Nat → Int → List Int
  | 0, _ => []
  | k + 1, h => if fullI (s.at' (placeI R h)) (lapI R h) = true then s.at' (placeI R h) % 65536 :: allN R s k (IntKind.wrap .u64 (h + 1)) else []
def allI (R : Rg) (s : MS) : List Int := if R.ok then allN R s R.size.toNat (s.at' R.head) else []
section
variable {A : Nat → Prop} {G : GS} {m r bb b : Nat} {rest : List Int} {s : MS} {R : Rg}
theorem word_ok (orc : FuncId → Bool) {wb : Nat} {v : Value} (ho : G.obj wb = some ⟨[v], 1, false, 1⟩) (hv : SlR (rowsI .u64) G v s.W) (a : Int) : (E orc).cl 77 [.int .i64 a, P0 wb] G = some (.int .u64 (s.at' a), G) := by
  refine f77 (exL_ok Q orc) _ _ G _ ?_
  unfold MS.at'
  by_cases h1 : a < 0
  · have h1' : ¬ (0 ≤ a ∧ a < (s.W.length : Int)) := by omega
    simp [s77, h1, h1']
  by_cases h2 : (s.W.length : Int) ≤ a
  · have h1' : ¬ (0 ≤ a ∧ a < (s.W.length : Int)) := by omega
    obtain ⟨x, c, rfl⟩ := hv.len
    simp [s77, ho, h1, h2, h1']
  · have h1' : (0 ≤ a ∧ a < (s.W.length : Int)) := by omega
    obtain ⟨n, rfl⟩ := Int.eq_ofNat_of_zero_le h1'.1
    have h3 : n < s.W.length := by omega
    have h4 : ¬ s.W.length ≤ n := by omega
    have h5 : ((n : Int) < 0) = False := eq_false (by omega)
    obtain ⟨b, o, c, e0, _, q, _⟩ := hv.at h3
    have q0 := q 0 (by decide)
    simp at q0
    simp [s77, ho, e0, h3, h4, h5, q0]
noncomputable abbrev lpA (T : List Value) : Lp := ⟨.ready, none, T, [18], (subAt [1, 1, 1, 1, 1, 0, 1, 0, 0] (bodyOf Try.f45)), (subAt [1, 1, 1, 1, 1, 0, 1, 0, 1] (bodyOf Try.f45))⟩
structure AllB (B : GS) (ob rb wf wb : Nat) (v : Value) (R : Rg) (s : MS) : Prop where
  rb1 : rb < B.nx
  wf1 : wf < B.nx
  wb1 : wb < B.nx
  rb2 : rb ≠ ob
  wf2 : wf ≠ ob
  wb2 : wb ≠ ob
  orb : B.obj rb = some ⟨R.cells, 1, false, 1⟩
  owf : B.obj wf = some ⟨[.func (.func 77) #[] #[P0 wb]], 1, false, 1⟩
  owb : B.obj wb = some ⟨[v], 1, false, 1⟩
  hv : SlR (rowsI .u64) B v s.W
  hvo : ¬ InB v ob
theorem AllB.now {B G : GS} {ob l rb wf wb : Nat} {v : Value} {lp : Lp} {L : List Int} (h : AllB B ob rb wf wb v R s) (c : Col (rowsI .i64) B ob l lp G L) :
    G.obj rb = some ⟨R.cells, 1, false, 1⟩ ∧ G.obj wf = some ⟨[.func (.func 77) #[] #[P0 wb]], 1, false, 1⟩ ∧ G.obj wb = some ⟨[v], 1, false, 1⟩ ∧ SlR (rowsI .u64) G v s.W :=
  ⟨(c.obj rb h.rb1 h.rb2).trans h.orb, (c.obj wf h.wf1 h.wf2).trans h.owf, (c.obj wb h.wb1 h.wb2).trans h.owb, c.slr h.hv h.hvo⟩
theorem allrd_ok (orc : FuncId → Bool) {B : GS} {ob l rb wf wb : Nat} {v : Value} {T : List Value} {h : Int} {L : List Int} (hR : R.ok) (hs : s.ok) (hh : U h) (hB : AllB B ob rb wf wb v R s) (hT : T.length = 29) (t2 : nth undef T 2 = P0 rb) (t6 : nth undef T 6 = P0 wf) (t7 : nth undef T 7 = P0 ob)
    (hc : Col (rowsI .i64) B ob l (lpA T) G L) (hL : L.length < 4096) :
    Wp ((E orc).rd l [.int .u64 h] G) fun q => q.1 = .bool true ∧ Col (rowsI .i64) B ob l (lpA T) q.2 (L ++ [s.at' (placeI R h) % 65536]) := by
  refine Wp.ref (d45_0 (exL_ok Q orc) l T _ G hc.lp hT) ?_
  have c0 := hc.lp' (Lp.setSt (lpA T) .busy)
  have x0 : Ext (G.putLoop l (Lp.setSt (lpA T) .busy)) ((G.putLoop l (Lp.setSt (lpA T) .busy)).room 10) := (Ext.refl _).room 10
  have c1 := c0.ext x0
  obtain ⟨p1, p2, p3, p4⟩ := hB.now c1
  obtain ⟨w, w1, w2⟩ := c1.var
  have one1 := own_one w2
  simp only [obj_room, obj_putLoop] at p1 p2 p3 w1
  simp [r45_0, t2, t6, t7, hc.lp, p1, p2, w1]
  refine Wp.step (place_ok orc hR hh _) fun G1 x1 => ?_
  have c2 := c1.ext x1
  obtain ⟨p1', p2', p3', p4'⟩ := hB.now c2
  have w1' := (x1.obj ob (Nat.lt_of_lt_of_le c1.obB c1.nx)).trans w1
  have e1 := word_ok orc p3' p4' (placeI R h)
  have hw := hs.at' (placeI R h)
  have e2 := value_ok orc hw G1
  have hob := c0.obB
  have hnx0 := c0.nx
  simp only [nx_putLoop] at hnx0
  have hn1 := x1.nx
  simp at hn1
  have c3 := c0.drawn (x0.trans x1) (n := G.nx + 7) (by simp) ⟨(rowsI .i64).row (s.at' (placeI R h) % 65536), 1, false, 1⟩
  obtain ⟨v1, v2, G4, o1, on1, e3, on2, o2, l2, c4⟩ := c3.app (ib := 8) (by decide) (SlR.oneD (rowsI .i64) G1 (s.at' (placeI R h) % 65536) (n := G.nx + 7) (by omega)) (by simp) (by simp; omega)
  have o1' := o1
  simp at o1'
  rw [if_neg (by omega), w1'] at o1'
  simp only [Option.some.injEq, GObj.mk.injEq, List.cons.injEq, and_true] at o1'
  subst o1'
  simp only [rowsI_sz, rowsI_row] at e3
  have hrd : (roundEnd l .normal (G4.put ob ⟨[v2], 1, false, 1⟩)) = some (.bool true, (G4.put ob ⟨[v2], 1, false, 1⟩).putLoop l (lpA T)) := by
    rw [roundEnd_some l .normal _ (j := none) rfl (r := Lp.setSt (lpA T) .busy) (by simpa using l2)]
    rfl
  simp [p1', p2', p3', w1', e1, e2, e3, o2, stO_one _ _ on2, hrd, same_own w2]
  exact c4.lp' (lpA T)
theorem nums_lp (orc : FuncId → Bool) {B : GS} {ob l rb wf rb' wf' wb : Nat} {v : Value} {T : List Value} (hR : R.ok) (hs : s.ok) (hB : AllB B ob rb wf wb v R s) (hB' : AllB B ob rb' wf' wb v R s) (hT : T.length = 29) (t2 : nth undef T 2 = P0 rb) (t6 : nth undef T 6 = P0 wf) (t7 : nth undef T 7 = P0 ob) {n : Nat} (hn : n ≤ 4096) :
    ∀ (k i : Nat) (τ : Env) (G : GS) (h : Int) (L : List Int), i + k = n → τ 0 = .func (.yield l) #[] #[] → τ 1 = P0 wf' → τ 2 = P0 rb' → τ 4 = .int .u64 h → τ 10 = .int .i64 n → τ 11 = .int .i64 i → U h → Col (rowsI .i64) B ob l (lpA T) G L → L.length ≤ i →
    Wp ((exL Q orc).lpx 110 0 τ G) fun r => (r.1 = .exit 0 ∨ r.1 = .ret) ∧ Col (rowsI .i64) B ob l (lpA T) r.2.2 (L ++ allN R s k h) := by
  intro k
  induction k with
  | zero =>
    intro i τ G h L hi t0 t1 t2' t4 t10 t11 hh hc hL
    have hi' : i = n := by omega
    subst hi'
    refine Wp.lp (l110_0 (exL_ok Q orc)) ?_
    simp [b110_0, clip_t, t0, t1, t2', t4, t10, t11, allN]
    exact hc
  | succ k ih =>
    intro i τ G h L hi t0 t1 t2' t4 t10 t11 hh hc hL
    have hlt : i < n := by omega
    have hi0 : (0 : Int) ≤ i := by omega
    have hw : IntKind.wrap .i64 ((i : Int) + 1) = ((i + 1 : Nat) : Int) := wrap64 (by omega) (by omega)
    have c1 := hc.ext ((Ext.refl G).room 16)
    obtain ⟨p1, p2, p3, p4⟩ := hB'.now hc
    refine Wp.lp (l110_0 (exL_ok Q orc)) ?_
    simp [-Int.natCast_add, b110_0, clip_t, t0, t1, t2', t4, t10, t11, hlt, p1, p2]
    refine Wp.step (place_ok orc hR hh _) fun G1 x1 => ?_
    have c2 := c1.ext x1
    obtain ⟨p1', p2', p3', p4'⟩ := hB'.now c2
    have e1 := word_ok orc p3' p4' (placeI R h)
    simp [-Int.natCast_add, p1', p2', e1]
    refine Wp.step (lap_ok orc hR hh _) fun G2 x2 => ?_
    have c3 := c2.ext x2
    have hu := hs.at' (placeI R h)
    have e2 := full_ok orc (l := lapI R h) hu G2
    simp only [allN]
    cases hf : fullI (s.at' (placeI R h)) (lapI R h) with
    | false =>
      rw [hf] at e2
      simp [-Int.natCast_add, e2]
      exact c3
    | true =>
      rw [hf] at e2
      obtain ⟨⟨q, G3⟩, e3, rfl, c4⟩ := allrd_ok orc hR hs hh hB hT t2 t6 t7 c3 (by omega)
      simp [-Int.natCast_add, e2, e3, hw]
      refine (ih (i + 1) _ G3 (IntKind.wrap .u64 (h + 1)) _ (by omega) (by simp [clip_t]) (by simp [clip_t]) (by simp [clip_t]) (by simp [clip_t]) (by simp [clip_t]) (by simp [clip_t]) (U_wrap _) c4 (by simp; omega)).mono ?_
      rintro r ⟨q1, q2⟩
      exact ⟨q1, by simpa using q2⟩
theorem numbers_ok (orc : FuncId → Bool) (R : Rg) (f : Fn) (a b : List Value) (G : GS) : (E orc).cl 78 [R.v, .func f ⟨a⟩ ⟨b⟩] G = some (.func (.func 110) #[] #[P0 (G.nx + 1), P0 G.nx], (G.push ⟨R.cells, 1, false, 1⟩).push ⟨[.func f ⟨a⟩ ⟨b⟩], 1, false, 1⟩) := by
  refine f78 (exL_ok Q orc) _ _ G _ ?_
  simp [s78]
theorem all_gen (orc : FuncId → Bool) (mv : Value) (hw : ∀ G1, Ext G G1 → ∃ v G2, (E orc).cl 9 [mv] G1 = some (v, G2) ∧ Ext G1 G2 ∧ OwR (rowsI .u64) G1.nx G2 v s.W) (hs : s.ok) (R : Rg) : ∃ v G', (E orc).cl 45 [R.v, mv] G = some (v, G') ∧ Ext G G' ∧ OwR (rowsI .i64) G.nx G' v (allI R s) := by
  have w : Wp ((E orc).cl 45 [R.v, mv] G) fun q => Ext G q.2 ∧ OwR (rowsI .i64) G.nx q.2 q.1 (allI R s) := by
    refine Wp.ref (f45 (exL_ok Q orc) _ _ G) ?_
    have x0 : Ext G (G.push ⟨R.cells, 1, false, 1⟩) := (Ext.refl G).push _
    simp [s45]
    refine Wp.step (sized_ok orc R _) fun G1 x1 => ?_
    rw [ok_dec]
    have y1 := x0.trans x1
    unfold allI
    by_cases hR : R.ok
    · have o1 : G1.obj G.nx = some ⟨R.cells, 1, false, 1⟩ := by rw [x1.obj G.nx (by simp)]; simp
      have n1 := x1.nx
      simp at n1
      simp [hR]
      obtain ⟨v, G2, e2, x2, w2⟩ := hw G1 y1
      have y2 := y1.trans x2
      have n2 := x2.nx
      have o2 := (x2.obj G.nx (by omega)).trans o1
      have one2 := own_one w2
      have d0 : ¬ G.nx = G2.nx := by omega
      have d1 : ¬ G.nx = G2.nx + 1 := by omega
      have d2 : ¬ G.nx = G2.nx + 1 + 1 := by omega
      simp [e2, stO_one _ _ one2, d0, d1, d2, o2, numbers_ok]
      generalize hTT : lst 29 (tu (nth undef _) _) = T
      have hT : T.length = 29 := by rw [← hTT]; exact length_lst 29 _
      have t2 : nth undef T 2 = P0 G.nx := by rw [← hTT, nth_lst]; simp [clip_t]
      have t6 : nth undef T 6 = P0 (G2.nx + 1) := by rw [← hTT, nth_lst]; simp [clip_t]
      have t7 : nth undef T 7 = P0 (G2.nx + 2) := by rw [← hTT, nth_lst]; simp [clip_t]
      clear hTT
      generalize hG3 : (GS.push (GS.push (GS.push _ _) _) _) = G3
      have x3 : Ext G2 G3 := by rw [← hG3]; exact ((((((Ext.refl G2).push _).put (Nat.le_refl _) _).push _).put (by omega) _).push _).push _ |>.push _
      have n3 : G3.nx = G2.nx + 5 := by rw [← hG3]; rfl
      have l3 : G3.nl = G2.nl := by rw [← hG3]; rfl
      have q0 : G3.obj G2.nx = some ⟨[v], 1, false, 1⟩ := by rw [← hG3]; simp [Nat.add_assoc]
      have q1 : G3.obj (G2.nx + 1) = some ⟨[.func (.func 77) #[] #[P0 G2.nx]], 1, false, 1⟩ := by rw [← hG3]; simp [Nat.add_assoc]
      have q5 : G3.obj G.nx = some ⟨R.cells, 1, false, 1⟩ := (x3.obj _ (by omega)).trans o2
      have q2 : G3.obj (G2.nx + 2) = some ⟨[.slice none 0 0], 1, false, 1⟩ := by rw [← hG3]; simp; try rfl
      have q3 : G3.obj (G2.nx + 3) = some ⟨R.cells, 1, false, 1⟩ := by rw [← hG3]; simp
      have q4 : G3.obj (G2.nx + 4) = some ⟨[.func (.func 77) #[] #[P0 G2.nx]], 1, false, 1⟩ := by rw [← hG3]; simp
      have c0 := Col.begin (rowsI .i64) q2 (by omega) (lpA T)
      rw [l3] at c0
      have xB : Ext G3 (G3.pushLoop (lpA T)) := (Ext.refl G3).pushLoop _
      have hB : AllB (G3.pushLoop (lpA T)) (G2.nx + 2) G.nx (G2.nx + 1) G2.nx v R s :=
        ⟨by simp; omega, by simp; omega, by simp; omega, by omega, by omega, by omega, by simpa using q5, by simpa using q1, by simpa using q0, w2.is.ext (x3.trans xB), fun hi => by have := w2.is.under _ hi; omega⟩
      have hB' : AllB (G3.pushLoop (lpA T)) (G2.nx + 2) (G2.nx + 3) (G2.nx + 4) G2.nx v R s :=
        ⟨by simp; omega, by simp; omega, by simp; omega, by omega, by omega, by omega, by simpa using q3, by simpa using q4, by simpa using q0, w2.is.ext (x3.trans xB), fun hi => by have := w2.is.under _ hi; omega⟩
      obtain ⟨n, hn⟩ : ∃ n : Nat, R.size = n := ⟨R.size.toNat, by have := hR.1; omega⟩
      obtain ⟨p1, p2, p3, p4⟩ := hB'.now c0
      have e4 := word_ok orc p3 p4 R.head
      have w : Wp ((E orc).cl 110 [.func (.yield G2.nl) #[] #[], P0 (G2.nx + 4), P0 (G2.nx + 3)] (G3.pushLoop (lpA T))) fun q => q.1 = .tuple #[] ∧ Col (rowsI .i64) (G3.pushLoop (lpA T)) (G2.nx + 2) G2.nl (lpA T) q.2 (allN R s n (s.at' R.head)) := by
        refine Wp.ref (f110 (exL_ok Q orc) _ _ _ _) ?_
        simp only [obj_pushLoop] at p1 p2
        simp [s110, p1, p2, e4]
        refine Wp.bE ((nums_lp orc hR hs hB hB' hT t2 t6 t7 (n := n) (by have := hR.2; omega) n 0 _ _ (s.at' R.head) [] (by omega) (by simp) (by simp) (by simp) (by simp) (by simp [hn]) (by simp) (hs.at' _) c0 (by simp)).mono ?_)
        rintro ⟨e, τ, G'⟩ ⟨h1, h2⟩
        simp only [List.nil_append] at h2
        rcases h1 with rfl | rfl
        · simp; exact h2
        · simp; exact h2
      obtain ⟨⟨q, G4⟩, e5, rfl, c5⟩ := w
      simp only at c5
      simp only [E] at e5
      obtain ⟨u, u1, u2⟩ := c5.var
      rw [e5, xRangeEnd_some (r := lpA T) _ _ _ _ c5.lp (by simp) (e := .normal) rfl]
      simp [t7, u1]
      rw [hn, Int.toNat_natCast]
      have y3 := (y2.trans x3).trans xB
      refine ⟨(c5.from y3 (by have := y2.nx; omega) (by have := y2.nl; omega)).putLoop (by have := y2.nl; omega) _, ?_⟩
      exact (u2.mono y3.nx).kept (by simp) fun g _ => by simp
    · simp [hR]
      exact ⟨y1, OwR.nil _ _⟩
  obtain ⟨⟨v, G'⟩, e, e1, e2⟩ := w
  exact ⟨v, G', e, e1, e2⟩
theorem all_ok (orc : FuncId → Bool) (h : PMx A G m s) (hs : s.ok) (R : Rg) : ∃ v G', (E orc).cl 45 [R.v, P0 m] G = some (v, G') ∧ Ext G G' ∧ OwR (rowsI .i64) G.nx G' v (allI R s) :=
  all_gen orc (P0 m) (fun G1 y1 => let ⟨_, _, hm⟩ := h.ext y1; words_ok orc hm) hs R
end
end Go.Proofs.Ytfmkihikmlcimaa.Lift

set_option linter.unusedVariables false
set_option linter.unusedSimpArgs false
set_option maxRecDepth 20000
namespace Go.Proofs.Ytfmkihikmlcimaa.Lift
open Go Go.Proofs.Ytfmkihikmlcimaa.Gh Go.Proofs
section
variable {A : Nat → Prop} {G : GS} {m r bb b : Nat} {rest : List Int} {s : MS} {R : Rg}
end
end Go.Proofs.Ytfmkihikmlcimaa.Lift

