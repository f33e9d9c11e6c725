/- contracts of the program's functions -/
import Derived.Test.YtaanpcoglijohaaGreatMA
import Derived.Test.YtaanpcoglijohaaGreatGhPD
set_option linter.unusedVariables false
set_option linter.unusedSimpArgs false
set_option maxRecDepth 20000
namespace Go.Proofs.YtaanpcoglijohaaGreat.Lift
open Go Go.Proofs.YtaanpcoglijohaaGreat.Gh Go.Proofs
/-! ### Words and their parts -/
/-! ### Rings -/
structure Rg where
  head : Int
  tail : Int
  slots : Int
  size : Int
abbrev Rg.cells (R : Rg) : List Value := [.int .i64 R.head, .int .i64 R.tail, .int .i64 R.slots, .int .i64 R.size]
abbrev Rg.v (R : Rg) : Value := .agg ⟨[.int .i64 R.head, .int .i64 R.tail, .int .i64 R.slots, .int .i64 R.size]⟩
def Rg.ok (R : Rg) : Prop := 1 ≤ R.size ∧ R.size ≤ 4096
def lapI (R : Rg) (t : Int) : Int := t / R.size % 4294967296
def placeI (R : Rg) (t : Int) : Int := IntKind.wrap .i64 (R.slots + t % R.size)
def fullI (w l : Int) : Bool := decide (w / 4294967296 = l) && decide (w / 65536 % 2 = 1)
def emptyI (w l : Int) : Bool := decide (w / 4294967296 = l) && decide (w / 65536 % 2 = 0)
def wordI (l v : Int) : Int := l * 4294967296 + 65536 + v
theorem lapI_lt (R : Rg) (t : Int) : 0 ≤ lapI R t ∧ lapI R t < 4294967296 := by unfold lapI; omega
theorem div_32 {w : Int} (h : U w) : 0 ≤ w / 4294967296 ∧ w / 4294967296 < 4294967296 := by have := h.1; have := h.2; omega
/-! ### What both sides reckon alike -/
section
variable {G : GS} {R : Rg}
theorem size_c {R : Rg} (h : R.ok) : IntKind.wrap .u64 R.size = R.size := by rw [wrap_u64]; have := h.1; have := h.2; omega
theorem place_ok (orc : FuncId → Bool) (h : R.ok) {t : Int} (ht : U t) (G : GS) : ∃ G', (E orc).cl 125 [R.v, .int .u64 t] G = some (.int .i64 (placeI R t), G') ∧ Ext G G' := by
  refine ⟨(G.push ⟨R.cells, 1, false, 1⟩).room 10, f125 (exL_ok Q orc) _ _ G _ ?_, ((Ext.refl G).push _).room 10⟩
  have h1 := size_c h
  have h2 : t.tmod R.size = t % R.size := Int.tmod_eq_emod_of_nonneg ht.1
  have h3 : ¬ R.size = 0 := by have := h.1; omega
  have h4 := Int.emod_nonneg t h3
  have h5 := Int.emod_lt_of_pos t (show 0 < R.size by have := h.1; omega)
  have h6 : IntKind.wrap .i64 (t % R.size) = t % R.size := wrap64 (by omega) (by have := h.2; omega)
  simp [s125, h1, h2, h3, h6, placeI]
theorem lap_ok (orc : FuncId → Bool) (h : R.ok) {t : Int} (ht : U t) (G : GS) : ∃ G', (E orc).cl 177 [R.v, .int .u64 t] G = some (.int .u32 (lapI R t), G') ∧ Ext G G' := by
  refine ⟨G.push ⟨R.cells, 1, false, 1⟩, f177 (exL_ok Q orc) _ _ G _ ?_, (Ext.refl G).push _⟩
  have h1 := size_c h
  have h3 : ¬ R.size = 0 := by have := h.1; omega
  have h2 : t.tdiv R.size = t / R.size := Int.tdiv_eq_ediv_of_nonneg ht.1
  have h4 : 0 ≤ t / R.size := Int.ediv_nonneg ht.1 (by have := h.1; omega)
  have h5 : t / R.size ≤ t := Int.ediv_le_self _ ht.1
  have h6 : IntKind.wrap .u64 (t / R.size) = t / R.size := by rw [wrap_u64]; have := ht.2; omega
  simp [s177, h1, h2, h3, h6, lapI, wrap_u32]
theorem full_ok (orc : FuncId → Bool) {w l : Int} (hw : U w) (G : GS) : (E orc).cl 176 [.int .u64 w, .int .u32 l] G = some (.bool (fullI w l), G) := by
  refine f176 (exL_ok Q orc) _ _ G _ ?_
  have h1 := shr_32 hw
  have h2 : IntKind.wrap .u32 (w / 4294967296) = w / 4294967296 := by rw [wrap_u32]; have := div_32 hw; omega
  have h3 := and_bit hw
  by_cases ha : w / 4294967296 = l
  · have h2' := h2
    rw [ha] at h2'
    by_cases hb : w / 65536 % 2 = 1
    · simp [s176, h1, h2, h2', h3, ha, hb, fullI]
    · simp [s176, h1, h2, h2', h3, ha, hb, fullI]
  · simp [s176, h1, h2, h3, ha, fullI]
theorem empty_ok (orc : FuncId → Bool) {w l : Int} (hw : U w) (G : GS) : (E orc).cl 250 [.int .u64 w, .int .u32 l] G = some (.bool (emptyI w l), G) := by
  refine f250 (exL_ok Q orc) _ _ G _ ?_
  have h1 := shr_32 hw
  have h2 : IntKind.wrap .u32 (w / 4294967296) = w / 4294967296 := by rw [wrap_u32]; have := div_32 hw; omega
  have h3 := and_bit hw
  by_cases ha : w / 4294967296 = l
  · have h2' := h2
    rw [ha] at h2'
    by_cases hb : w / 65536 % 2 = 1
    · have hc : ¬ w / 65536 % 2 = 0 := by omega
      simp [s250, h1, h2, h2', h3, ha, hb, emptyI]
    · have hc : w / 65536 % 2 = 0 := by omega
      simp [s250, h1, h2, h2', h3, ha, hb, hc, emptyI]
  · simp [s250, h1, h2, h3, ha, emptyI]
theorem value_ok (orc : FuncId → Bool) {w : Int} (hw : U w) (G : GS) : (E orc).cl 126 [.int .u64 w] G = some (.int .i64 (w % 65536), G) := by
  refine f126 (exL_ok Q orc) _ G _ ?_
  have h2 : IntKind.wrap .i64 (w % 65536) = w % 65536 := wrap64 (by omega) (by omega)
  simp [s126, and_low hw, h2]
theorem of_ok (orc : FuncId → Bool) {l : Int} (h0 : 0 ≤ l) (h1 : l < 4294967296) (G : GS) : (E orc).cl 212 [.int .u32 l] G = some (.int .u64 (l * 4294967296), G) := by
  refine f212 (exL_ok Q orc) _ G _ ?_
  have h2 : IntKind.wrap .u64 l = l := by rw [wrap_u64]; omega
  simp [s212, h2, shl_32 h0 h1]
theorem with_num {l v : Int} (h0 : 0 ≤ l) (h1 : l < 4294967296) (h2 : 0 ≤ v) (h3 : v ≤ 65535) : orI .u64 (orI .u64 (l * 4294967296) 65536) v = wordI l v := by
  have e1 : orI .u64 (l * 4294967296) 65536 = l * 4294967296 + 65536 := or_add 32 l.toNat ⟨by omega, by omega⟩ ⟨by decide, by decide⟩ (by omega) (by decide)
  rw [e1, or_add 16 (2 ^ 16 * l.toNat + 1) ⟨by omega, by omega⟩ ⟨by omega, by omega⟩ (by omega) (by omega)]
  rfl
theorem with_ok (orc : FuncId → Bool) {l v : Int} (h0 : 0 ≤ l) (h1 : l < 4294967296) (h2 : 0 ≤ v) (h3 : v ≤ 65535) (G : GS) : (E orc).cl 260 [.int .u64 (l * 4294967296), .int .i64 v] G = some (.int .u64 (wordI l v), G) := by
  refine f260 (exL_ok Q orc) _ _ G _ ?_
  have h4 : IntKind.wrap .u64 v = v := by rw [wrap_u64]; omega
  simp [s260, andNot_low h0 h1, h4, with_num h0 h1 h2 h3]
/-- the document's -/
theorem rplace_ok (orc : FuncId → Bool) (h : R.ok) {t : Int} (ht : U t) (G : GS) : ∃ G', (E orc).cl 131 [R.v, .int .u64 t] G = some (.int .i64 (placeI R t), G') ∧ Ext G G' := by
  refine ⟨(G.push ⟨R.cells, 1, false, 1⟩).room 10, f131 (exL_ok Q orc) _ _ G _ ?_, ((Ext.refl G).push _).room 10⟩
  have h1 := size_c h
  have h2 : t.tmod R.size = t % R.size := Int.tmod_eq_emod_of_nonneg ht.1
  have h3 : ¬ R.size = 0 := by have := h.1; omega
  have h4 := Int.emod_nonneg t h3
  have h5 := Int.emod_lt_of_pos t (show 0 < R.size by have := h.1; omega)
  have h6 : IntKind.wrap .i64 (t % R.size) = t % R.size := wrap64 (by omega) (by have := h.2; omega)
  simp [s131, h1, h2, h3, h6, placeI]
theorem rlap_ok (orc : FuncId → Bool) (h : R.ok) {t : Int} (ht : U t) (G : GS) : ∃ G', (E orc).cl 132 [R.v, .int .u64 t] G = some (.int .u64 (lapI R t), G') ∧ Ext G G' := by
  refine ⟨G.push ⟨R.cells, 1, false, 1⟩, f132 (exL_ok Q orc) _ _ G _ ?_, (Ext.refl G).push _⟩
  have h1 := size_c h
  have h3 : ¬ R.size = 0 := by have := h.1; omega
  have h2 : t.tdiv R.size = t / R.size := Int.tdiv_eq_ediv_of_nonneg ht.1
  have h4 : 0 ≤ t / R.size := Int.ediv_nonneg ht.1 (by have := h.1; omega)
  have h5 : t / R.size ≤ t := Int.ediv_le_self _ ht.1
  have h6 : IntKind.wrap .u64 (t / R.size) = t / R.size := by rw [wrap_u64]; have := ht.2; omega
  have h7 : (t / R.size).tmod 4294967296 = t / R.size % 4294967296 := Int.tmod_eq_emod_of_nonneg h4
  simp [s132, h1, h2, h3, h6, h7, lapI]
theorem rfull_ok (orc : FuncId → Bool) {w l : Int} (hw : U w) (G : GS) : (E orc).cl 130 [.int .u64 w, .int .u64 l] G = some (.bool (fullI w l), G) := by
  refine f130 (exL_ok Q orc) _ _ G _ ?_
  have h1 := shr_32 hw
  have h2 := shr_16 hw
  have h3 : (w / 65536).tmod 2 = w / 65536 % 2 := Int.tmod_eq_emod_of_nonneg (by have := hw.1; omega)
  by_cases ha : w / 4294967296 = l
  · by_cases hb : w / 65536 % 2 = 1
    · simp [s130, h1, h2, h3, ha, hb, fullI]
    · simp [s130, h1, h2, h3, ha, hb, fullI]
  · simp [s130, h1, h2, h3, ha, fullI]
theorem rempty_ok (orc : FuncId → Bool) {w l : Int} (hw : U w) (G : GS) : (E orc).cl 211 [.int .u64 w, .int .u64 l] G = some (.bool (emptyI w l), G) := by
  refine f211 (exL_ok Q orc) _ _ G _ ?_
  have h1 := shr_32 hw
  have h2 := shr_16 hw
  have h3 : (w / 65536).tmod 2 = w / 65536 % 2 := Int.tmod_eq_emod_of_nonneg (by have := hw.1; omega)
  by_cases ha : w / 4294967296 = l
  · by_cases hb : w / 65536 % 2 = 0
    · simp [s211, h1, h2, h3, ha, hb, emptyI]
    · simp [s211, h1, h2, h3, ha, hb, emptyI]
  · simp [s211, h1, h2, h3, ha, emptyI]
theorem sized_ok (orc : FuncId → Bool) (R : Rg) (G : GS) : ∃ G', (E orc).cl 102 [R.v] G = some (.bool (decide (1 ≤ R.size) && decide (R.size ≤ 4096)), G') ∧ Ext G G' := by
  refine ⟨G.push ⟨R.cells, 1, false, 1⟩, f102 (exL_ok Q orc) _ G _ ?_, (Ext.refl G).push _⟩
  by_cases h : 1 ≤ R.size
  · simp [s102, h]
  · simp [s102, h]
theorem rsize_ok (orc : FuncId → Bool) (n : Int) (G : GS) : (E orc).cl 103 [.int .i64 n] G = some (.bool (decide (1 ≤ n) && decide (n ≤ 4096)), G) := by
  refine f103 (exL_ok Q orc) _ G _ ?_
  by_cases h : 1 ≤ n
  · simp [s103, h]
  · simp [s103, h]
end
end Go.Proofs.YtaanpcoglijohaaGreat.Lift

set_option linter.unusedVariables false
set_option linter.unusedSimpArgs false
set_option maxRecDepth 20000
namespace Go.Proofs.YtaanpcoglijohaaGreat.Lift
open Go Go.Proofs.YtaanpcoglijohaaGreat.Gh Go.Proofs
/-! ### What is done to a memory, and to blocks of an operation's own -/
/-! ### Pushes -/
inductive PuS where
  | done (e : Int)
  | go (n : Nat) (R : Rg) (v t w : Int)
def PuS.ok : PuS → Prop
  | .done _ => True
  | .go n R v t w => 1 ≤ n ∧ n ≤ 5 ∧ R.ok ∧ 0 ≤ v ∧ v ≤ 65535 ∧ U t ∧ U w
def PuS.over : PuS → Bool
  | .done _ => true
  | .go .. => false
def PuS.err : PuS → Int
  | .done e => e
  | .go .. => 14
def look5 (R : Rg) (v t w : Int) : PuS := if emptyI w (lapI R t) = true then .go 3 R v t w else if fullI w ((lapI R t + 4294967295) % 4294967296) = true then .done 7 else .go 5 R v t w
def PuS.step : PuS → MS → PuS × MS
  | .done e, s => (.done e, s)
  | .go n R v t w, s =>
    if n = 1 then (.go 2 R v (s.load R.tail).new w, s.load R.tail)
    else if n = 2 then (look5 R v t (s.load (placeI R t)).new, s.load (placeI R t))
    else if n = 3 then (if (s.cas (placeI R t) w (wordI (lapI R t) v)).held = true then .go 4 R v t w else .go 5 R v t w, s.cas (placeI R t) w (wordI (lapI R t) v))
    else if n = 4 then (.done 0, s.cas R.tail t (IntKind.wrap .u64 (t + 1)))
    else (.go 1 R v t w, s.cas R.tail t (IntKind.wrap .u64 (t + 1)))
/-- all words are words -/
theorem U_word {R : Rg} {t v : Int} (h0 : 0 ≤ v) (h1 : v ≤ 65535) : U (wordI (lapI R t) v) := by have := lapI_lt R t; unfold wordI U; omega
theorem PuS.ok.step {p : PuS} {s : MS} (hp : p.ok) (hs : s.ok) : (p.step s).1.ok ∧ (p.step s).2.ok := by
  cases p with
  | done e => exact ⟨hp, hs⟩
  | go n R v t w =>
    obtain ⟨h1, h2, h3, h4, h5, h6, h7⟩ := hp
    simp only [PuS.step]
    split
    · exact ⟨⟨by decide, by decide, h3, h4, h5, (hs.load _).2, h7⟩, (hs.load _).1⟩
    · split
      · refine ⟨?_, (hs.load _).1⟩
        unfold look5
        split
        · exact ⟨by decide, by decide, h3, h4, h5, h6, (hs.load _).2⟩
        · split
          · trivial
          · exact ⟨by decide, by decide, h3, h4, h5, h6, (hs.load _).2⟩
      · split
        · refine ⟨?_, hs.cas _ _ (U_word h4 h5)⟩
          split
          · exact ⟨by decide, by decide, h3, h4, h5, h6, h7⟩
          · exact ⟨by decide, by decide, h3, h4, h5, h6, h7⟩
        · split
          · exact ⟨trivial, hs.cas _ _ (U_wrap _)⟩
          · exact ⟨⟨by decide, by decide, h3, h4, h5, h6, h7⟩, hs.cas _ _ (U_wrap _)⟩
def pNext (b n : Nat) : Value := .func (.func (if n = 1 then 174 else if n = 2 then 215 else if n = 3 then 251 else if n = 4 then 261 else 252)) #[P0 b] #[]
def PuR (G : GS) (b : Nat) : PuS → Prop
  | .done e => ∃ h t s z v t' w, G.obj b = some ⟨[.int .i64 h, .int .i64 t, .int .i64 s, .int .i64 z, .nilFunc, .bool true, .int .i64 e, .int .i64 v, .int .u64 t', .int .u64 w], 1, false, 1⟩
  | .go n R v t w => G.obj b = some ⟨[.int .i64 R.head, .int .i64 R.tail, .int .i64 R.slots, .int .i64 R.size, pNext b n, .bool true, .int .i64 0, .int .i64 v, .int .u64 t, .int .u64 w], 1, false, 1⟩
theorem PuR.kept {G G' : GS} {b : Nat} {p : PuS} (h : PuR G b p) (hk : G'.obj b = G.obj b) : PuR G' b p := by
  cases p with
  | done e => obtain ⟨a, t, s, z, v, t', w, h⟩ := h; exact ⟨a, t, s, z, v, t', w, hk.trans h⟩
  | go n R v t w => exact hk.trans h
section
variable {A : Nat → Prop} {G : GS} {m bb b : Nat} {rest : List Int} {s : MS} {R : Rg} {v t w : Int}
/-- it has ended: two words of work are written -/
theorem ends_ok (orc : FuncId → Bool) {c0 c1 c2 c3 c4 c5 c6 : Value} {r : List Value} {ez : Nat} {op : Bool} (ho : G.obj b = some ⟨c0 :: c1 :: c2 :: c3 :: c4 :: c5 :: c6 :: r, ez, op, 1⟩) (e : Int) :
    (E orc).cl 173 [P0 b, .int .i64 e] G = some (.tuple #[], (G.put b ⟨c0 :: c1 :: c2 :: c3 :: .nilFunc :: c5 :: c6 :: r, ez, op, 1⟩).put b ⟨c0 :: c1 :: c2 :: c3 :: .nilFunc :: c5 :: .int .i64 e :: r, ez, op, 1⟩) := by
  refine f173 (exL_ok Q orc) _ _ G _ ?_
  simp [s173, ho]
/-- a Push's own steps -/
theorem tail_ok (orc : FuncId → Bool) (h : PMx A G m s) (ha : ¬ A b) (hb : b < G.nx) (hp : PuR G b (.go 1 R v t w)) :
    Wp ((E orc).cl 174 [P0 b, P0 m] G) fun r => r.1 = .tuple #[] ∧ Thr (fun A G => PMx A G m (s.load R.tail)) A b G r.2 ∧ PuR r.2 b (.go 2 R v (s.load R.tail).new w) := by
  refine Wp.ref (f174 (exL_ok Q orc) _ _ G) ?_
  obtain ⟨bb, rest, hm⟩ := h
  obtain ⟨⟨x, G1⟩, e, rfl, q2, q3⟩ := load_ok orc hm R.tail
  simp only at q2 q3
  have hp' : G.obj b = _ := hp
  have o1 := (q2.obj b hb ha).trans hp'
  simp [s174, hp', e, o1]
  have th := Thr.of (P := fun A G => PMx A G m (s.load R.tail)) (b := b) q2 q3
  exact ⟨(th.put (sepP m _) ha hb _).put (sepP m _) ha hb _, by simp [PuR, pNext]⟩
theorem last_ok' (orc : FuncId → Bool) (h : PMx A G m s) (ha : ¬ A b) (hb : b < G.nx) (hp : PuR G b (.go 4 R v t w)) :
    Wp ((E orc).cl 261 [P0 b, P0 m] G) fun r => r.1 = .tuple #[] ∧ Thr (fun A G => PMx A G m (s.cas R.tail t (IntKind.wrap .u64 (t + 1)))) A b G r.2 ∧ PuR r.2 b (.done 0) := by
  refine Wp.ref (f261 (exL_ok Q orc) _ _ G) ?_
  have th0 := (Thr.refl (sepP m s) (b := b) h).ext (sepP m s) ((Ext.refl G).room 17)
  obtain ⟨bb, rest, hm⟩ := th0.st
  obtain ⟨⟨x, G1⟩, e, rfl, q2, q3⟩ := cas_ok orc hm R.tail t (IntKind.wrap .u64 (t + 1))
  simp only at q2 q3
  have hp' : G.obj b = _ := hp
  have th := th0.acc (sepP m s) (sepP m _) q2 q3
  have o1 := (q2.obj b (by simp; omega) (Thr.notIn ha hb)).trans hp'
  have hend := ends_ok orc o1 0
  simp [s261, hp', e, o1, hend]
  exact ⟨(th.put (sepP m _) ha hb _).put (sepP m _) ha hb _, by simp [PuR]⟩
theorem help_ok (orc : FuncId → Bool) (h : PMx A G m s) (ha : ¬ A b) (hb : b < G.nx) (hp : PuR G b (.go 5 R v t w)) :
    Wp ((E orc).cl 252 [P0 b, P0 m] G) fun r => r.1 = .tuple #[] ∧ Thr (fun A G => PMx A G m (s.cas R.tail t (IntKind.wrap .u64 (t + 1)))) A b G r.2 ∧ PuR r.2 b (.go 1 R v t w) := by
  refine Wp.ref (f252 (exL_ok Q orc) _ _ G) ?_
  have th0 := (Thr.refl (sepP m s) (b := b) h).ext (sepP m s) ((Ext.refl G).room 17)
  obtain ⟨bb, rest, hm⟩ := th0.st
  obtain ⟨⟨x, G1⟩, e, rfl, q2, q3⟩ := cas_ok orc hm R.tail t (IntKind.wrap .u64 (t + 1))
  simp only at q2 q3
  have hp' : G.obj b = _ := hp
  have th := th0.acc (sepP m s) (sepP m _) q2 q3
  have o1 := (q2.obj b (by simp; omega) (Thr.notIn ha hb)).trans hp'
  simp [s252, hp', e, o1]
  exact ⟨th.put (sepP m _) ha hb _, by simp [PuR, pNext]⟩
theorem look_ok (orc : FuncId → Bool) (h : PMx A G m s) (hs : s.ok) (hR : R.ok) (ht : U t) (ha : ¬ A b) (hb : b < G.nx) (hp : PuR G b (.go 2 R v t w)) :
    Wp ((E orc).cl 215 [P0 b, P0 m] G) fun r => r.1 = .tuple #[] ∧ Thr (fun A G => PMx A G m (s.load (placeI R t))) A b G r.2 ∧ PuR r.2 b (look5 R v t (s.load (placeI R t)).new) := by
  refine Wp.ref (f215 (exL_ok Q orc) _ _ G) ?_
  have hp' : G.obj b = _ := hp
  have x0 : Ext G (G.room 16) := (Ext.refl G).room 16
  obtain ⟨G1, e1, x1⟩ := place_ok orc hR ht (G.room 16)
  have y1 := x0.trans x1
  have th0 := (Thr.refl (sepP m s) (b := b) h).ext (sepP m s) y1
  obtain ⟨bb, rest, hm⟩ := th0.st
  obtain ⟨⟨x, G2⟩, e2, rfl, q2, q3⟩ := load_ok orc hm (placeI R t)
  simp only at q2 q3
  have th := th0.acc (sepP m s) (sepP m _) q2 q3
  have n1 := y1.nx
  have o2 := (q2.obj b (by omega) (Thr.notIn ha hb)).trans ((y1.obj b hb).trans hp')
  have hw := (hs.load (placeI R t)).2
  generalize hs' : s.load (placeI R t) = s' at *
  generalize hx : s'.new = x at *
  obtain ⟨G3, hG3⟩ : ∃ G3, G3 = G2.put b ⟨[.int .i64 R.head, .int .i64 R.tail, .int .i64 R.slots, .int .i64 R.size, pNext b 2, .bool true, .int .i64 0, .int .i64 v, .int .u64 t, .int .u64 x], 1, false, 1⟩ := ⟨_, rfl⟩
  have o3 : G3.obj b = some ⟨[.int .i64 R.head, .int .i64 R.tail, .int .i64 R.slots, .int .i64 R.size, pNext b 2, .bool true, .int .i64 0, .int .i64 v, .int .u64 t, .int .u64 x], 1, false, 1⟩ := by rw [hG3]; simp
  have th3 : Thr (fun A G => PMx A G m s') A b G G3 := by rw [hG3]; exact th.put (sepP m _) ha hb _
  obtain ⟨G4, e4, x4⟩ := lap_ok orc hR ht (G3.room 11)
  have y4 := ((Ext.refl G3).room 11).trans x4
  have th4 := th3.ext (sepP m _) y4
  have hb3 : b < G3.nx := Nat.lt_of_lt_of_le hb th3.mod.nx
  have o4 := (y4.obj b hb3).trans o3
  have hl := lapI_lt R t
  have e5 := empty_ok orc (l := lapI R t) hw G4
  have e6 := full_ok orc (l := (lapI R t + 4294967295) % 4294967296) hw G4
  have hsub : IntKind.wrap .u32 (lapI R t - 1) = (lapI R t + 4294967295) % 4294967296 := by rw [wrap_u32]; omega
  have hend := ends_ok orc o4 7
  unfold look5
  by_cases c1 : emptyI x (lapI R t) = true
  · rw [if_pos c1]
    rw [c1] at e5
    simp [s215, hp', e1, e2, o2, ← hG3, o3, e4, o4, e5]
    exact ⟨th4.put (sepP m _) ha hb _, by simp [PuR, pNext]⟩
  · rw [if_neg c1]
    rw [Bool.not_eq_true] at c1
    rw [c1] at e5
    by_cases c2 : fullI x ((lapI R t + 4294967295) % 4294967296) = true
    · rw [if_pos c2]
      rw [c2] at e6
      simp [s215, hp', e1, e2, o2, ← hG3, o3, e4, o4, e5, hsub, e6, hend]
      exact ⟨(th4.put (sepP m _) ha hb _).put (sepP m _) ha hb _, by simp [PuR]⟩
    · rw [if_neg c2]
      rw [Bool.not_eq_true] at c2
      rw [c2] at e6
      simp [s215, hp', e1, e2, o2, ← hG3, o3, e4, o4, e5, hsub, e6]
      exact ⟨th4.put (sepP m _) ha hb _, by simp [PuR, pNext]⟩
end
end Go.Proofs.YtaanpcoglijohaaGreat.Lift

set_option linter.unusedVariables false
set_option linter.unusedSimpArgs false
set_option maxRecDepth 20000
namespace Go.Proofs.YtaanpcoglijohaaGreat.Lift
open Go Go.Proofs.YtaanpcoglijohaaGreat.Gh Go.Proofs
section
variable {A : Nat → Prop} {G : GS} {m r bb b : Nat} {rest : List Int} {s : MS} {R : Rg} {v t w : Int}
theorem lay_ok (orc : FuncId → Bool) (h : PMx A G m s) (hR : R.ok) (ht : U t) (hv0 : 0 ≤ v) (hv1 : v ≤ 65535) (ha : ¬ A b) (hb : b < G.nx) (hp : PuR G b (.go 3 R v t w)) :
    Wp ((E orc).cl 251 [P0 b, P0 m] G) fun r => r.1 = .tuple #[] ∧ Thr (fun A G => PMx A G m (s.cas (placeI R t) w (wordI (lapI R t) v))) A b G r.2 ∧ PuR r.2 b (if (s.cas (placeI R t) w (wordI (lapI R t) v)).held = true then .go 4 R v t w else .go 5 R v t w) := by
  refine Wp.ref (f251 (exL_ok Q orc) _ _ G) ?_
  have hp' : G.obj b = _ := hp
  obtain ⟨G0, hG0⟩ : ∃ G0, G0 = G.put b ⟨[.int .i64 R.head, .int .i64 R.tail, .int .i64 R.slots, .int .i64 R.size, .func (.func 252) #[P0 b] #[], .bool true, .int .i64 0, .int .i64 v, .int .u64 t, .int .u64 w], 1, false, 1⟩ := ⟨_, rfl⟩
  have th0 : Thr (fun A G => PMx A G m s) A b G G0 := by rw [hG0]; exact (Thr.refl (sepP m s) h).put (sepP m s) ha hb _
  have o0 : G0.obj b = some ⟨[.int .i64 R.head, .int .i64 R.tail, .int .i64 R.slots, .int .i64 R.size, .func (.func 252) #[P0 b] #[], .bool true, .int .i64 0, .int .i64 v, .int .u64 t, .int .u64 w], 1, false, 1⟩ := by rw [hG0]; simp
  have hb0 : b < G0.nx := Nat.lt_of_lt_of_le hb th0.mod.nx
  have x0 : Ext G0 (G0.room 32) := (Ext.refl G0).room 32
  obtain ⟨G1, e1, x1⟩ := place_ok orc hR ht (G0.room 32)
  have y1 := x0.trans x1
  obtain ⟨G2, e2, x2⟩ := lap_ok orc hR ht G1
  have y2 := y1.trans x2
  have hl := lapI_lt R t
  have e3 := of_ok orc hl.1 hl.2 G2
  have e4 := with_ok orc hl.1 hl.2 hv0 hv1 G2
  have th2 := th0.ext (sepP m s) y2
  obtain ⟨bb, rest, hm⟩ := th2.st
  obtain ⟨⟨x, G3⟩, e5, rfl, q2, q3⟩ := cas_ok orc hm (placeI R t) w (wordI (lapI R t) v)
  simp only at q2 q3
  have th3 := th2.acc (sepP m s) (sepP m _) q2 q3
  have o1 := (y1.obj b hb0).trans o0
  have o2 := (y2.obj b hb0).trans o0
  have hb2 : b < G2.nx := Nat.lt_of_lt_of_le hb0 y2.nx
  have o3 := (q2.obj b hb2 (Thr.notIn ha hb)).trans o2
  cases hh : (s.cas (placeI R t) w (wordI (lapI R t) v)).held with
  | true =>
    rw [hh] at e5
    simp [s251, hp', ← hG0, o0, e1, o1, e2, o2, e3, e4, e5, o3]
    exact ⟨th3.put (sepP m _) ha hb _, by simp [PuR, pNext]⟩
  | false =>
    rw [hh] at e5
    simp [s251, hp', ← hG0, o0, e1, o1, e2, o2, e3, e4, e5, o3]
    exact ⟨th3, by simpa [PuR, pNext] using o3⟩
/-- a Push's step -/
theorem push_ok (orc : FuncId → Bool) {p : PuS} (h : PMx A G m s) (hs : s.ok) (hpo : p.ok) (ha : ¬ A b) (hb : b < G.nx) (hp : PuR G b p) :
    Wp ((E orc).cl 105 [P0 b, P0 m] G) fun q => q.1 = .bool (p.step s).1.over ∧ Thr (fun A G => PMx A G m (p.step s).2) A b G q.2 ∧ PuR q.2 b (p.step s).1 := by
  have w52 : Wp ((E orc).cl 164 [P0 b, P0 m] G) fun q => q.1 = .bool (p.step s).1.over ∧ Thr (fun A G => PMx A G m (p.step s).2) A b G q.2 ∧ PuR q.2 b (p.step s).1 := by
    refine Wp.ref (f164 (exL_ok Q orc) _ _ G) ?_
    cases p with
    | done e =>
      have hp0 := hp
      obtain ⟨a0, a1, a2, a3, a4, a5, a6, hp'⟩ := hp
      simp [s164, sb164, j164_0, jb164_0, clip_t, hp', PuS.step, PuS.over]
      exact ⟨Thr.refl (sepP m s) h, hp0⟩
    | go n R v t w =>
      obtain ⟨h1, h2, h3, h4, h5, h6, h7⟩ := hpo
      have hp' : G.obj b = _ := hp
      have hn : n = 1 ∨ n = 2 ∨ n = 3 ∨ n = 4 ∨ n = 5 := by omega
      rcases hn with rfl | rfl | rfl | rfl | rfl
      · obtain ⟨⟨x, G1⟩, e, rfl, q1, q2⟩ := tail_ok orc h ha hb hp
        have q2' : G1.obj b = _ := q2
        simp only at q1 q2
        simp [s164, sb164, j164_0, jb164_0, clip_t, hp', pNext, e, q2', PuS.step, PuS.over]
        exact ⟨q1, q2⟩
      · obtain ⟨⟨x, G1⟩, e, rfl, q1, q2⟩ := look_ok orc h hs h3 h6 ha hb hp
        simp only at q1 q2
        simp only [PuS.step, if_neg (show ¬ (2 : Nat) = 1 by decide), if_true]
        generalize look5 R v t (s.load (placeI R t)).new = st' at *
        cases st' with
        | done e' =>
          have q0 := q2
          obtain ⟨a0, a1, a2, a3, a4, a5, a6, q2'⟩ := q2
          simp [s164, sb164, j164_0, jb164_0, clip_t, hp', pNext, e, q2', PuS.over]
          exact ⟨q1, q0⟩
        | go n' R' v' t' w' =>
          have q2' : G1.obj b = _ := q2
          simp [s164, sb164, j164_0, jb164_0, clip_t, hp', pNext, e, q2', PuS.over]
          exact ⟨q1, q2⟩
      · obtain ⟨⟨x, G1⟩, e, rfl, q1, q2⟩ := lay_ok orc h h3 h6 h4 h5 ha hb hp
        simp only at q1 q2
        simp only [PuS.step, if_neg (show ¬ (3 : Nat) = 1 by decide), if_neg (show ¬ (3 : Nat) = 2 by decide), if_true]
        cases hh : (s.cas (placeI R t) w (wordI (lapI R t) v)).held with
        | true =>
          simp only [hh, if_true] at q2
          have q2' : G1.obj b = _ := q2
          simp [s164, sb164, j164_0, jb164_0, clip_t, hp', pNext, e, q2', PuS.over]
          exact ⟨q1, q2⟩
        | false =>
          simp only [hh, if_false, Bool.false_eq_true] at q2
          have q2' : G1.obj b = _ := q2
          simp [s164, sb164, j164_0, jb164_0, clip_t, hp', pNext, e, q2', PuS.over]
          exact ⟨q1, q2⟩
      · obtain ⟨⟨x, G1⟩, e, rfl, q1, q2⟩ := last_ok' orc h ha hb hp
        simp only at q1 q2
        have q0 := q2
        obtain ⟨a0, a1, a2, a3, a4, a5, a6, q2'⟩ := q2
        simp [s164, sb164, j164_0, jb164_0, clip_t, hp', pNext, e, q2', PuS.step, PuS.over]
        exact ⟨q1, q0⟩
      · obtain ⟨⟨x, G1⟩, e, rfl, q1, q2⟩ := help_ok orc h ha hb hp
        have q2' : G1.obj b = _ := q2
        simp only at q1 q2
        simp [s164, sb164, j164_0, jb164_0, clip_t, hp', pNext, e, q2', PuS.step, PuS.over]
        exact ⟨q1, q2⟩
  obtain ⟨⟨x, G1⟩, e, rfl, q⟩ := w52
  refine Wp.ref (f105 (exL_ok Q orc) _ _ G) ?_
  simp [s105, e]
  exact q
theorem pusherr_ok (orc : FuncId → Bool) {p : PuS} (hp : PuR G b p) : (E orc).cl 106 [P0 b] G = some (.int .i64 p.err, G) := by
  have h53 : (E orc).cl 165 [P0 b] G = some (.int .i64 p.err, G) := by
    refine f165 (exL_ok Q orc) _ G _ ?_
    cases p with
    | done e =>
      obtain ⟨a0, a1, a2, a3, a4, a5, a6, hp'⟩ := hp
      simp [s165, hp', PuS.err]
    | go n R v t w =>
      have hp' : G.obj b = _ := hp
      simp [s165, hp', pNext, PuS.err]
  exact f106 (exL_ok Q orc) _ G _ (by simp [s106, h53])
/-! ### The document's Push -/
def RuR (G : GS) (b : Nat) : PuS → Prop
  | .done e => ∃ h t s z v t' w, G.obj b = some ⟨[.int .i64 h, .int .i64 t, .int .i64 s, .int .i64 z, .int .i64 v, .int .i64 9, .int .u64 t', .int .u64 w, .int .i64 e], 1, false, 1⟩
  | .go n R v t w => G.obj b = some ⟨[.int .i64 R.head, .int .i64 R.tail, .int .i64 R.slots, .int .i64 R.size, .int .i64 v, .int .i64 n, .int .u64 t, .int .u64 w, .int .i64 0], 1, false, 1⟩
theorem RuR.kept {G G' : GS} {b : Nat} {p : PuS} (h : RuR G b p) (hk : G'.obj b = G.obj b) : RuR G' b p := by
  cases p with
  | done e => obtain ⟨a, t, s, z, v, t', w, h⟩ := h; exact ⟨a, t, s, z, v, t', w, hk.trans h⟩
  | go n R v t w => exact hk.trans h
theorem reads_ok (orc : FuncId → Bool) (h : RMx A G r s) (hs : s.ok) (hR : R.ok) (ht : U t) (ha : ¬ A b) (hb : b < G.nx) (hp : RuR G b (.go 2 R v t w)) :
    Wp ((E orc).cl 167 [P0 b, P0 r] G) fun q => q.1 = .tuple #[] ∧ Thr (fun A G => RMx A G r (s.load (placeI R t))) A b G q.2 ∧ RuR q.2 b (look5 R v t (s.load (placeI R t)).new) := by
  refine Wp.ref (f167 (exL_ok Q orc) _ _ G) ?_
  have hp' : G.obj b = _ := hp
  have x0 : Ext G (G.room 15) := (Ext.refl G).room 15
  obtain ⟨G1, e1, x1⟩ := rplace_ok orc hR ht (G.room 15)
  have y1 := x0.trans x1
  have th0 := (Thr.refl (sepR r s) (b := b) h).ext (sepR r s) y1
  obtain ⟨wb, hm⟩ := th0.st
  obtain ⟨⟨x, G2⟩, e2, rfl, q2, q3⟩ := rload_ok orc hm (placeI R t)
  simp only at q2 q3
  have th := th0.acc (sepR r s) (sepR r _) q2 q3
  have n1 := y1.nx
  have o2 := (q2.obj b (by omega) (Thr.notIn ha hb)).trans ((y1.obj b hb).trans hp')
  have hw := (hs.load (placeI R t)).2
  generalize hs' : s.load (placeI R t) = s' at *
  generalize hx : s'.new = x at *
  obtain ⟨G3, hG3⟩ : ∃ G3, G3 = G2.put b ⟨[.int .i64 R.head, .int .i64 R.tail, .int .i64 R.slots, .int .i64 R.size, .int .i64 v, .int .i64 2, .int .u64 t, .int .u64 x, .int .i64 0], 1, false, 1⟩ := ⟨_, rfl⟩
  have o3 : G3.obj b = some ⟨[.int .i64 R.head, .int .i64 R.tail, .int .i64 R.slots, .int .i64 R.size, .int .i64 v, .int .i64 2, .int .u64 t, .int .u64 x, .int .i64 0], 1, false, 1⟩ := by rw [hG3]; simp
  have th3 : Thr (fun A G => RMx A G r s') A b G G3 := by rw [hG3]; exact th.put (sepR r _) ha hb _
  obtain ⟨G4, e4, x4⟩ := rlap_ok orc hR ht (G3.room 10)
  have y4 := ((Ext.refl G3).room 10).trans x4
  have th4 := th3.ext (sepR r _) y4
  have hb3 : b < G3.nx := Nat.lt_of_lt_of_le hb th3.mod.nx
  have o4 := (y4.obj b hb3).trans o3
  have hl := lapI_lt R t
  have e5 := rempty_ok orc (l := lapI R t) hw G4
  have e6 := rfull_ok orc (l := (lapI R t + 4294967295) % 4294967296) hw G4
  have hw1 : IntKind.wrap .u64 (lapI R t + 4294967296) = lapI R t + 4294967296 := by rw [wrap_u64]; omega
  have hw2 : IntKind.wrap .u64 (lapI R t + 4294967296 - 1) = lapI R t + 4294967295 := by rw [wrap_u64]; omega
  have hw3 : (lapI R t + 4294967295).tmod 4294967296 = (lapI R t + 4294967295) % 4294967296 := Int.tmod_eq_emod_of_nonneg (by omega)
  unfold look5
  by_cases c1 : emptyI x (lapI R t) = true
  · rw [if_pos c1]
    rw [c1] at e5
    simp [s167, hp', e1, e2, o2, ← hG3, o3, e4, o4, e5]
    exact ⟨th4.put (sepR r _) ha hb _, by simp [RuR]⟩
  · rw [if_neg c1]
    rw [Bool.not_eq_true] at c1
    rw [c1] at e5
    by_cases c2 : fullI x ((lapI R t + 4294967295) % 4294967296) = true
    · rw [if_pos c2]
      rw [c2] at e6
      simp [s167, hp', e1, e2, o2, ← hG3, o3, e4, o4, e5, hw1, hw2, hw3, e6]
      exact ⟨(th4.put (sepR r _) ha hb _).put (sepR r _) ha hb _, by simp [RuR]⟩
    · rw [if_neg c2]
      rw [Bool.not_eq_true] at c2
      rw [c2] at e6
      simp [s167, hp', e1, e2, o2, ← hG3, o3, e4, o4, e5, hw1, hw2, hw3, e6]
      exact ⟨th4.put (sepR r _) ha hb _, by simp [RuR]⟩
theorem rpush_ok (orc : FuncId → Bool) {p : PuS} (h : RMx A G r s) (hs : s.ok) (hpo : p.ok) (ha : ¬ A b) (hb : b < G.nx) (hp : RuR G b p) :
    Wp ((E orc).cl 107 [P0 b, P0 r] G) fun q => q.1 = .bool (p.step s).1.over ∧ Thr (fun A G => RMx A G r (p.step s).2) A b G q.2 ∧ RuR q.2 b (p.step s).1 := by
  refine Wp.ref (f107 (exL_ok Q orc) _ _ G) ?_
  cases p with
  | done e =>
    have hp0 := hp
    obtain ⟨a0, a1, a2, a3, a4, a5, a6, hp'⟩ := hp
    simp [s107, sb107, j107_0, jb107_0, clip_t, hp', PuS.step, PuS.over]
    exact ⟨Thr.refl (sepR r s) h, hp0⟩
  | go n R v t w =>
    obtain ⟨h1, h2, h3, h4, h5, h6, h7⟩ := hpo
    have hp' : G.obj b = _ := hp
    have hn : n = 1 ∨ n = 2 ∨ n = 3 ∨ n = 4 ∨ n = 5 := by omega
    rcases hn with rfl | rfl | rfl | rfl | rfl
    · obtain ⟨wb, hm⟩ := h
      obtain ⟨⟨x, G1⟩, e, rfl, q2, q3⟩ := rload_ok orc hm R.tail
      simp only at q2 q3
      have o1 := (q2.obj b hb ha).trans hp'
      have th := Thr.of (P := fun A G => RMx A G r (s.load R.tail)) (b := b) q2 q3
      simp [s107, sb107, j107_0, jb107_0, clip_t, hp', e, o1, PuS.step, PuS.over]
      exact ⟨(th.put (sepR r _) ha hb _).put (sepR r _) ha hb _, by simp [RuR]⟩
    · obtain ⟨⟨x, G1⟩, e, rfl, q1, q2⟩ := reads_ok orc h hs h3 h6 ha hb hp
      simp only at q1 q2
      simp only [PuS.step, if_neg (show ¬ (2 : Nat) = 1 by decide), if_true]
      generalize hst : look5 R v t (s.load (placeI R t)).new = st' at *
      cases st' with
      | done e' =>
        have q0 := q2
        obtain ⟨a0, a1, a2, a3, a4, a5, a6, q2'⟩ := q2
        simp [s107, sb107, j107_0, jb107_0, clip_t, hp', e, q2', PuS.over]
        exact ⟨q1, q0⟩
      | go n' R' v' t' w' =>
        have q2' : G1.obj b = _ := q2
        have hn' : ¬ ((n' : Int) = 9) := by
          unfold look5 at hst
          split at hst
          · cases hst; decide
          · split at hst <;> cases hst
            decide
        simp [s107, sb107, j107_0, jb107_0, clip_t, hp', e, q2', PuS.over, hn']
        exact ⟨q1, q2⟩
    · obtain ⟨G0, hG0⟩ : ∃ G0, G0 = G.put b ⟨[.int .i64 R.head, .int .i64 R.tail, .int .i64 R.slots, .int .i64 R.size, .int .i64 v, .int .i64 5, .int .u64 t, .int .u64 w, .int .i64 0], 1, false, 1⟩ := ⟨_, rfl⟩
      have th0 : Thr (fun A G => RMx A G r s) A b G G0 := by rw [hG0]; exact (Thr.refl (sepR r s) h).put (sepR r s) ha hb _
      have o0 : G0.obj b = some ⟨[.int .i64 R.head, .int .i64 R.tail, .int .i64 R.slots, .int .i64 R.size, .int .i64 v, .int .i64 5, .int .u64 t, .int .u64 w, .int .i64 0], 1, false, 1⟩ := by rw [hG0]; simp
      have hb0 : b < G0.nx := Nat.lt_of_lt_of_le hb th0.mod.nx
      have x0 : Ext G0 (G0.room 32) := (Ext.refl G0).room 32
      obtain ⟨G1, e1, x1⟩ := rplace_ok orc h3 h6 (G0.room 32)
      have y1 := x0.trans x1
      obtain ⟨G2, e2, x2⟩ := rlap_ok orc h3 h6 G1
      have y2 := y1.trans x2
      have hl := lapI_lt R t
      have e3 := shl_32 hl.1 hl.2
      have e4 := with_num hl.1 hl.2 h4 h5
      have hv : IntKind.wrap .u64 v = v := by rw [wrap_u64]; omega
      have th2 := th0.ext (sepR r s) y2
      obtain ⟨wb, hm⟩ := th2.st
      obtain ⟨⟨x, G3⟩, e5, rfl, q2, q3⟩ := rcas_ok orc hm (placeI R t) w (wordI (lapI R t) v)
      simp only at q2 q3
      have th3 := th2.acc (sepR r s) (sepR r _) q2 q3
      have o1 := (y1.obj b hb0).trans o0
      have o2 := (y2.obj b hb0).trans o0
      have hb2 : b < G2.nx := Nat.lt_of_lt_of_le hb0 y2.nx
      have o3 := (q2.obj b hb2 (Thr.notIn ha hb)).trans o2
      simp only [PuS.step, if_neg (show ¬ (3 : Nat) = 1 by decide), if_neg (show ¬ (3 : Nat) = 2 by decide), if_true]
      cases hh : (s.cas (placeI R t) w (wordI (lapI R t) v)).held with
      | true =>
        rw [hh] at e5
        simp [s107, sb107, j107_0, jb107_0, clip_t, hp', ← hG0, o0, e1, o1, e2, o2, e3, e4, hv, e5, o3, PuS.over]
        exact ⟨th3.put (sepR r _) ha hb _, by simp [RuR]⟩
      | false =>
        rw [hh] at e5
        simp [s107, sb107, j107_0, jb107_0, clip_t, hp', ← hG0, o0, e1, o1, e2, o2, e3, e4, hv, e5, o3, PuS.over]
        exact ⟨th3, by simpa [RuR] using o3⟩
    · have th0 := (Thr.refl (sepR r s) (b := b) h).ext (sepR r s) ((Ext.refl G).room 16)
      obtain ⟨wb, hm⟩ := th0.st
      obtain ⟨⟨x, G1⟩, e, rfl, q2, q3⟩ := rcas_ok orc hm R.tail t (IntKind.wrap .u64 (t + 1))
      simp only at q2 q3
      have th := th0.acc (sepR r s) (sepR r _) q2 q3
      have o1 := (q2.obj b (by simp; omega) (Thr.notIn ha hb)).trans hp'
      simp [s107, sb107, j107_0, jb107_0, clip_t, hp', e, o1, PuS.step, PuS.over]
      exact ⟨th.put (sepR r _) ha hb _, by simp [RuR]⟩
    · have th0 := (Thr.refl (sepR r s) (b := b) h).ext (sepR r s) ((Ext.refl G).room 16)
      obtain ⟨wb, hm⟩ := th0.st
      obtain ⟨⟨x, G1⟩, e, rfl, q2, q3⟩ := rcas_ok orc hm R.tail t (IntKind.wrap .u64 (t + 1))
      simp only at q2 q3
      have th := th0.acc (sepR r s) (sepR r _) q2 q3
      have o1 := (q2.obj b (by simp; omega) (Thr.notIn ha hb)).trans hp'
      simp [s107, sb107, j107_0, jb107_0, clip_t, hp', e, o1, PuS.step, PuS.over]
      exact ⟨th.put (sepR r _) ha hb _, by simp [RuR]⟩
end
end Go.Proofs.YtaanpcoglijohaaGreat.Lift

set_option linter.unusedVariables false
set_option linter.unusedSimpArgs false
set_option maxRecDepth 20000
namespace Go.Proofs.YtaanpcoglijohaaGreat.Lift
open Go Go.Proofs.YtaanpcoglijohaaGreat.Gh Go.Proofs
/-! ### Fronts -/
inductive FrS where
  | done (e h v : Int)
  | go (n : Nat) (R : Rg) (h : Int)
def FrS.ok : FrS → Prop
  | .done .. => True
  | .go n R h => 1 ≤ n ∧ n ≤ 2 ∧ R.ok ∧ U h
def FrS.over : FrS → Bool
  | .done .. => true
  | .go .. => false
def FrS.err : FrS → Int
  | .done e _ _ => e
  | .go .. => 14
def FrS.val : FrS → Int
  | .done _ _ v => v
  | .go .. => 0
def FrS.at' : FrS → Int
  | .done _ h _ => h
  | .go _ _ h => h
def look2 (R : Rg) (h w : Int) : FrS := if fullI w (lapI R h) = true then .done 0 h (w % 65536) else .done 15 h 0
def FrS.step : FrS → MS → FrS × MS
  | .done e h v, s => (.done e h v, s)
  | .go n R h, s => if n = 1 then (.go 2 R (s.load R.head).new, s.load R.head) else (look2 R h (s.load (placeI R h)).new, s.load (placeI R h))
theorem FrS.ok.step {p : FrS} {s : MS} (hp : p.ok) (hs : s.ok) : (p.step s).1.ok ∧ (p.step s).2.ok := by
  cases p with
  | done e h v => exact ⟨hp, hs⟩
  | go n R h =>
    obtain ⟨h1, h2, h3, h4⟩ := hp
    simp only [FrS.step]
    split
    · exact ⟨⟨by decide, by decide, h3, (hs.load _).2⟩, (hs.load _).1⟩
    · refine ⟨?_, (hs.load _).1⟩
      unfold look2; split <;> trivial
def fNext (b n : Nat) : Value := .func (.func (if n = 1 then 172 else 214)) #[P0 b] #[]
def PfR (G : GS) (b : Nat) : FrS → Prop
  | .done e h v => ∃ a0 a1 a2 a3, G.obj b = some ⟨[.int .i64 a0, .int .i64 a1, .int .i64 a2, .int .i64 a3, .nilFunc, .bool true, .int .i64 e, .int .u64 h, .int .i64 v], 1, false, 1⟩
  | .go n R h => G.obj b = some ⟨[.int .i64 R.head, .int .i64 R.tail, .int .i64 R.slots, .int .i64 R.size, fNext b n, .bool true, .int .i64 0, .int .u64 h, .int .i64 0], 1, false, 1⟩
def RfR (G : GS) (b : Nat) : FrS → Prop
  | .done e h v => ∃ a0 a1 a2 a3, G.obj b = some ⟨[.int .i64 a0, .int .i64 a1, .int .i64 a2, .int .i64 a3, .int .i64 9, .int .u64 h, .int .i64 v, .int .i64 e], 1, false, 1⟩
  | .go n R h => G.obj b = some ⟨[.int .i64 R.head, .int .i64 R.tail, .int .i64 R.slots, .int .i64 R.size, .int .i64 n, .int .u64 h, .int .i64 0, .int .i64 0], 1, false, 1⟩
theorem PfR.kept {G G' : GS} {b : Nat} {p : FrS} (h : PfR G b p) (hk : G'.obj b = G.obj b) : PfR G' b p := by
  cases p with
  | done e h' v => obtain ⟨a0, a1, a2, a3, h⟩ := h; exact ⟨a0, a1, a2, a3, hk.trans h⟩
  | go n R h' => exact hk.trans h
theorem RfR.kept {G G' : GS} {b : Nat} {p : FrS} (h : RfR G b p) (hk : G'.obj b = G.obj b) : RfR G' b p := by
  cases p with
  | done e h' v => obtain ⟨a0, a1, a2, a3, h⟩ := h; exact ⟨a0, a1, a2, a3, hk.trans h⟩
  | go n R h' => exact hk.trans h
section
variable {A : Nat → Prop} {G : GS} {m r bb b : Nat} {rest : List Int} {s : MS} {R : Rg} {h : Int}
theorem fhead_ok (orc : FuncId → Bool) (hm : PMx A G m s) (ha : ¬ A b) (hb : b < G.nx) (hp : PfR G b (.go 1 R h)) :
    Wp ((E orc).cl 172 [P0 b, P0 m] G) fun r => r.1 = .tuple #[] ∧ Thr (fun A G => PMx A G m (s.load R.head)) A b G r.2 ∧ PfR r.2 b (.go 2 R (s.load R.head).new) := by
  refine Wp.ref (f172 (exL_ok Q orc) _ _ G) ?_
  obtain ⟨bb, rest, hm⟩ := hm
  obtain ⟨⟨x, G1⟩, e, rfl, q2, q3⟩ := load_ok orc hm R.head
  simp only at q2 q3
  have hp' : G.obj b = _ := hp
  have o1 := (q2.obj b hb ha).trans hp'
  simp [s172, hp', e, o1]
  have th := Thr.of (P := fun A G => PMx A G m (s.load R.head)) (b := b) q2 q3
  exact ⟨(th.put (sepP m _) ha hb _).put (sepP m _) ha hb _, by simp [PfR, fNext]⟩
theorem flook_ok (orc : FuncId → Bool) (hm : PMx A G m s) (hs : s.ok) (hR : R.ok) (hh : U h) (ha : ¬ A b) (hb : b < G.nx) (hp : PfR G b (.go 2 R h)) :
    Wp ((E orc).cl 214 [P0 b, P0 m] G) fun r => r.1 = .tuple #[] ∧ Thr (fun A G => PMx A G m (s.load (placeI R h))) A b G r.2 ∧ PfR r.2 b (look2 R h (s.load (placeI R h)).new) := by
  refine Wp.ref (f214 (exL_ok Q orc) _ _ G) ?_
  have hp' : G.obj b = _ := hp
  have x0 : Ext G (G.room 13) := (Ext.refl G).room 13
  obtain ⟨G1, e1, x1⟩ := place_ok orc hR hh (G.room 13)
  have y1 := x0.trans x1
  have th0 := (Thr.refl (sepP m s) (b := b) hm).ext (sepP m s) y1
  obtain ⟨bb, rest, hm⟩ := th0.st
  obtain ⟨⟨x, G2⟩, e2, rfl, q2, q3⟩ := load_ok orc hm (placeI R h)
  simp only at q2 q3
  have th := th0.acc (sepP m s) (sepP m _) q2 q3
  have n1 := y1.nx
  have o2 := (q2.obj b (by omega) (Thr.notIn ha hb)).trans ((y1.obj b hb).trans hp')
  have hw := (hs.load (placeI R h)).2
  generalize hs' : s.load (placeI R h) = s' at *
  generalize hx : s'.new = x at *
  have hend := ends_ok orc o2 15
  obtain ⟨G3, hG3⟩ : ∃ G3, G3 = (G2.put b ⟨[.int .i64 R.head, .int .i64 R.tail, .int .i64 R.slots, .int .i64 R.size, .nilFunc, .bool true, .int .i64 0, .int .u64 h, .int .i64 0], 1, false, 1⟩).put b ⟨[.int .i64 R.head, .int .i64 R.tail, .int .i64 R.slots, .int .i64 R.size, .nilFunc, .bool true, .int .i64 15, .int .u64 h, .int .i64 0], 1, false, 1⟩ := ⟨_, rfl⟩
  rw [← hG3] at hend
  have o3 : G3.obj b = some ⟨[.int .i64 R.head, .int .i64 R.tail, .int .i64 R.slots, .int .i64 R.size, .nilFunc, .bool true, .int .i64 15, .int .u64 h, .int .i64 0], 1, false, 1⟩ := by rw [hG3]; simp
  have th3 : Thr (fun A G => PMx A G m s') A b G G3 := by rw [hG3]; exact (th.put (sepP m _) ha hb _).put (sepP m _) ha hb _
  obtain ⟨G4, e4, x4⟩ := lap_ok orc hR hh (G3.room 12)
  have y4 := ((Ext.refl G3).room 12).trans x4
  have th4 := th3.ext (sepP m _) y4
  have hb3 : b < G3.nx := Nat.lt_of_lt_of_le hb th3.mod.nx
  have o4 := (y4.obj b hb3).trans o3
  have e6 := full_ok orc (l := lapI R h) hw G4
  have e7 := value_ok orc hw G4
  unfold look2
  by_cases c2 : fullI x (lapI R h) = true
  · rw [if_pos c2]
    rw [c2] at e6
    have hend2 : ∀ (G5 : GS) (c8 : Value), G5.obj b = some ⟨[.int .i64 R.head, .int .i64 R.tail, .int .i64 R.slots, .int .i64 R.size, .nilFunc, .bool true, .int .i64 15, .int .u64 h, c8], 1, false, 1⟩ → _ := fun G5 c8 ho => ends_ok orc ho 0
    have hend3 := hend2 (G4.put b ⟨[.int .i64 R.head, .int .i64 R.tail, .int .i64 R.slots, .int .i64 R.size, .nilFunc, .bool true, .int .i64 15, .int .u64 h, .int .i64 (x % 65536)], 1, false, 1⟩) (.int .i64 (x % 65536)) (by simp)
    simp [s214, hp', e1, e2, hend, o3, e4, e6, e7, o4, hend3]
    exact ⟨((th4.put (sepP m _) ha hb _).put (sepP m _) ha hb _).put (sepP m _) ha hb _, by simp [PfR]⟩
  · rw [if_neg c2]
    rw [Bool.not_eq_true] at c2
    rw [c2] at e6
    simp [s214, hp', e1, e2, hend, o3, e4, e6]
    exact ⟨th4, ⟨_, _, _, _, o4⟩⟩
theorem front_ok (orc : FuncId → Bool) {p : FrS} (hm : PMx A G m s) (hs : s.ok) (hpo : p.ok) (ha : ¬ A b) (hb : b < G.nx) (hp : PfR G b p) :
    Wp ((E orc).cl 292 [P0 b, P0 m] G) fun q => q.1 = .bool (p.step s).1.over ∧ Thr (fun A G => PMx A G m (p.step s).2) A b G q.2 ∧ PfR q.2 b (p.step s).1 := by
  have w52 : Wp ((E orc).cl 164 [P0 b, P0 m] G) fun q => q.1 = .bool (p.step s).1.over ∧ Thr (fun A G => PMx A G m (p.step s).2) A b G q.2 ∧ PfR q.2 b (p.step s).1 := by
    refine Wp.ref (f164 (exL_ok Q orc) _ _ G) ?_
    cases p with
    | done e h v =>
      have hp0 := hp
      obtain ⟨a0, a1, a2, a3, hp'⟩ := hp
      simp [s164, sb164, j164_0, jb164_0, clip_t, hp', FrS.step, FrS.over]
      exact ⟨Thr.refl (sepP m s) hm, hp0⟩
    | go n R h =>
      obtain ⟨h1, h2, h3, h4⟩ := hpo
      have hp' : G.obj b = _ := hp
      have hn : n = 1 ∨ n = 2 := by omega
      rcases hn with rfl | rfl
      · obtain ⟨⟨x, G1⟩, e, rfl, q1, q2⟩ := fhead_ok orc hm ha hb hp
        have q2' : G1.obj b = _ := q2
        simp only at q1 q2
        simp [s164, sb164, j164_0, jb164_0, clip_t, hp', fNext, e, q2', FrS.step, FrS.over]
        exact ⟨q1, q2⟩
      · obtain ⟨⟨x, G1⟩, e, rfl, q1, q2⟩ := flook_ok orc hm hs h3 h4 ha hb hp
        simp only at q1 q2
        simp only [FrS.step, if_neg (show ¬ (2 : Nat) = 1 by decide)]
        have hd : ∃ e' h' v', look2 R h (s.load (placeI R h)).new = .done e' h' v' := by unfold look2; split <;> exact ⟨_, _, _, rfl⟩
        obtain ⟨e', h', v', hd⟩ := hd
        rw [hd] at q2 ⊢
        have q0 := q2
        obtain ⟨a0, a1, a2, a3, q2'⟩ := q2
        simp [s164, sb164, j164_0, jb164_0, clip_t, hp', fNext, e, q2', FrS.over]
        exact ⟨q1, q0⟩
  obtain ⟨⟨x, G1⟩, e, rfl, q⟩ := w52
  refine Wp.ref (f292 (exL_ok Q orc) _ _ G) ?_
  simp [s292, e]
  exact q
theorem fval_ok (orc : FuncId → Bool) {p : FrS} (hp : PfR G b p) : ∃ G', (E orc).cl 109 [P0 b] G = some (.tuple #[.int .i64 p.val, .int .i64 p.err], G') ∧ Ext G G' := by
  have h53 : (E orc).cl 165 [P0 b] (G.room 10) = some (.int .i64 p.err, G.room 10) := by
    refine f165 (exL_ok Q orc) _ (G.room 10) _ ?_
    cases p with
    | done e h v =>
      obtain ⟨a0, a1, a2, a3, hp'⟩ := hp
      simp [s165, hp', FrS.err]
    | go n R h =>
      have hp' : G.obj b = _ := hp
      simp [s165, hp', fNext, FrS.err]
  refine ⟨G.room 10, f109 (exL_ok Q orc) _ G _ ?_, (Ext.refl G).room 10⟩
  cases p with
  | done e h v =>
    obtain ⟨a0, a1, a2, a3, hp'⟩ := hp
    simp [s109, hp', h53, FrS.val]
  | go n R h =>
    have hp' : G.obj b = _ := hp
    simp [s109, hp', h53, FrS.val]
theorem fat_ok (orc : FuncId → Bool) {p : FrS} (hp : PfR G b p) : (E orc).cl 111 [P0 b] G = some (.int .u64 p.at', G) := by
  refine f111 (exL_ok Q orc) _ G _ ?_
  cases p with
  | done e h v =>
    obtain ⟨a0, a1, a2, a3, hp'⟩ := hp
    simp [s111, hp', FrS.at']
  | go n R h =>
    have hp' : G.obj b = _ := hp
    simp [s111, hp', FrS.at']
theorem rfront_ok (orc : FuncId → Bool) {p : FrS} (hm : RMx A G r s) (hs : s.ok) (hpo : p.ok) (ha : ¬ A b) (hb : b < G.nx) (hp : RfR G b p) :
    Wp ((E orc).cl 115 [P0 b, P0 r] G) fun q => q.1 = .bool (p.step s).1.over ∧ Thr (fun A G => RMx A G r (p.step s).2) A b G q.2 ∧ RfR q.2 b (p.step s).1 := by
  refine Wp.ref (f115 (exL_ok Q orc) _ _ G) ?_
  cases p with
  | done e h v =>
    have hp0 := hp
    obtain ⟨a0, a1, a2, a3, hp'⟩ := hp
    simp [s115, sb115, j115_0, jb115_0, clip_t, hp', FrS.step, FrS.over]
    exact ⟨Thr.refl (sepR r s) hm, hp0⟩
  | go n R h =>
    obtain ⟨h1, h2, h3, h4⟩ := hpo
    have hp' : G.obj b = _ := hp
    have hn : n = 1 ∨ n = 2 := by omega
    rcases hn with rfl | rfl
    · obtain ⟨wb, hm⟩ := hm
      obtain ⟨⟨x, G1⟩, e, rfl, q2, q3⟩ := rload_ok orc hm R.head
      simp only at q2 q3
      have o1 := (q2.obj b hb ha).trans hp'
      have th := Thr.of (P := fun A G => RMx A G r (s.load R.head)) (b := b) q2 q3
      simp [s115, sb115, j115_0, jb115_0, clip_t, hp', e, o1, FrS.step, FrS.over]
      exact ⟨(th.put (sepR r _) ha hb _).put (sepR r _) ha hb _, by simp [RfR]⟩
    · have x0 : Ext G (G.room 12) := (Ext.refl G).room 12
      obtain ⟨G1, e1, x1⟩ := rplace_ok orc h3 h4 (G.room 12)
      have y1 := x0.trans x1
      have th0 := (Thr.refl (sepR r s) (b := b) hm).ext (sepR r s) y1
      obtain ⟨wb, hm⟩ := th0.st
      obtain ⟨⟨x, G2⟩, e2, rfl, q2, q3⟩ := rload_ok orc hm (placeI R h)
      simp only at q2 q3
      have th := th0.acc (sepR r s) (sepR r _) q2 q3
      have n1 := y1.nx
      have o2 := (q2.obj b (by omega) (Thr.notIn ha hb)).trans ((y1.obj b hb).trans hp')
      have hw := (hs.load (placeI R h)).2
      simp only [FrS.step, if_neg (show ¬ (2 : Nat) = 1 by decide)]
      generalize hs' : s.load (placeI R h) = s' at *
      generalize hx : s'.new = x at *
      obtain ⟨G3, hG3⟩ : ∃ G3, G3 = (G2.put b ⟨[.int .i64 R.head, .int .i64 R.tail, .int .i64 R.slots, .int .i64 R.size, .int .i64 9, .int .u64 h, .int .i64 0, .int .i64 0], 1, false, 1⟩).put b ⟨[.int .i64 R.head, .int .i64 R.tail, .int .i64 R.slots, .int .i64 R.size, .int .i64 9, .int .u64 h, .int .i64 0, .int .i64 15], 1, false, 1⟩ := ⟨_, rfl⟩
      have o3 : G3.obj b = some ⟨[.int .i64 R.head, .int .i64 R.tail, .int .i64 R.slots, .int .i64 R.size, .int .i64 9, .int .u64 h, .int .i64 0, .int .i64 15], 1, false, 1⟩ := by rw [hG3]; simp
      have th3 : Thr (fun A G => RMx A G r s') A b G G3 := by rw [hG3]; exact (th.put (sepR r _) ha hb _).put (sepR r _) ha hb _
      obtain ⟨G4, e4, x4⟩ := rlap_ok orc h3 h4 (G3.room 11)
      have y4 := ((Ext.refl G3).room 11).trans x4
      have th4 := th3.ext (sepR r _) y4
      have hb3 : b < G3.nx := Nat.lt_of_lt_of_le hb th3.mod.nx
      have o4 := (y4.obj b hb3).trans o3
      have e6 := rfull_ok orc (l := lapI R h) hw G4
      have e7 : x.tmod 65536 = x % 65536 := Int.tmod_eq_emod_of_nonneg hw.1
      have e8 : IntKind.wrap .i64 (x % 65536) = x % 65536 := wrap64 (by omega) (by omega)
      unfold look2
      by_cases c2 : fullI x (lapI R h) = true
      · rw [if_pos c2]
        rw [c2] at e6
        simp [s115, sb115, j115_0, jb115_0, clip_t, hp', e1, e2, o2, ← hG3, o3, e4, e6, e7, e8, o4, FrS.over]
        exact ⟨(th4.put (sepR r _) ha hb _).put (sepR r _) ha hb _, by simp [RfR]⟩
      · rw [if_neg c2]
        rw [Bool.not_eq_true] at c2
        rw [c2] at e6
        simp [s115, sb115, j115_0, jb115_0, clip_t, hp', e1, e2, o2, ← hG3, o3, e4, e6, o4, FrS.over]
        exact ⟨th4, ⟨_, _, _, _, o4⟩⟩
end
end Go.Proofs.YtaanpcoglijohaaGreat.Lift

