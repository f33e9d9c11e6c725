/- contracts of the program's functions -/
import Derived.Test.YtocbppgkgcoehaaME
import Derived.Test.YtocbppgkgcoehaaMC
set_option linter.unusedVariables false
set_option linter.unusedSimpArgs false
set_option maxRecDepth 20000
namespace Go.Proofs.Ytocbppgkgcoehaa.Lift
open Go Go.Proofs.Ytocbppgkgcoehaa.Gh Go.Proofs
/-! ### No memory, no operations -/
section
variable {G : GS} {b : Nat} {R : Rg}
theorem load_nil (orc : FuncId → Bool) (a : Int) (G : GS) : ∃ G', (E orc).cl 11 [.pointer none, .int .i64 a] G = some (.int .u64 0, G') ∧ Ext G G' := by
  have h1 : ∀ G, (E orc).cl 49 [.pointer none, .int .i64 a] G = some (.pointer none, G) := fun G => by
    refine f49 (exL_ok Q orc) _ _ G _ ?_
    simp [s49]
  have h2 : ∀ (G : GS) (p f : Value), (E orc).cl 50 [.pointer none, .int .i64 1, .int .i64 a, p, f] G = some (.agg #[.int .i64 0, .int .i64 0, .int .u64 0, .int .u64 0, .bool false], (G.push ⟨[.int .i64 0, .int .i64 0, .int .u64 0, .int .u64 0, .bool false], 1, false, 1⟩).put G.nx ⟨[.int .i64 0, .int .i64 0, .int .u64 0, .int .u64 0, .bool false], 1, false, 1⟩) := fun G p f => by
    refine f50 (exL_ok Q orc) _ _ _ _ _ G _ ?_
    simp [s50, sb50]
  have w : Wp ((E orc).cl 11 [.pointer none, .int .i64 a] G) fun q => q.1 = .int .u64 0 ∧ Ext G q.2 := by
    refine Wp.ref (f11 (exL_ok Q orc) _ _ G) ?_
    simp [s11, h1, h2]
    exact (((Ext.refl G).push _).put (Nat.le_refl _) _ |>.push _).put (by simp) _
  obtain ⟨⟨v, G'⟩, e, rfl, x⟩ := w
  exact ⟨G', e, x⟩
theorem store_nil (orc : FuncId → Bool) (a w : Int) (G : GS) : ∃ G', (E orc).cl 61 [.pointer none, .int .i64 a, .int .u64 w] G = some (.tuple #[], G') ∧ Ext G G' := by
  have h1 : ∀ G, (E orc).cl 49 [.pointer none, .int .i64 a] G = some (.pointer none, G) := fun G => by
    refine f49 (exL_ok Q orc) _ _ G _ ?_
    simp [s49]
  have h2 : ∀ (G : GS) (p f : Value), (E orc).cl 50 [.pointer none, .int .i64 2, .int .i64 a, p, f] G = some (.agg #[.int .i64 0, .int .i64 0, .int .u64 0, .int .u64 0, .bool false], (G.push ⟨[.int .i64 0, .int .i64 0, .int .u64 0, .int .u64 0, .bool false], 1, false, 1⟩).put G.nx ⟨[.int .i64 0, .int .i64 0, .int .u64 0, .int .u64 0, .bool false], 1, false, 1⟩) := fun G p f => by
    refine f50 (exL_ok Q orc) _ _ _ _ _ G _ ?_
    simp [s50, sb50]
  have w : Wp ((E orc).cl 61 [.pointer none, .int .i64 a, .int .u64 w] G) fun q => q.1 = .tuple #[] ∧ Ext G q.2 := by
    refine Wp.ref (f61 (exL_ok Q orc) _ _ _ G) ?_
    simp [s61, h1, h2]
    exact (((Ext.refl G).push _).put (Nat.le_refl _) _ |>.push _).put (by simp) _
  obtain ⟨⟨v, G'⟩, e, rfl, x⟩ := w
  exact ⟨G', e, x⟩
theorem words_nil (orc : FuncId → Bool) (G : GS) : (E orc).cl 40 [.pointer none] G = some (.slice none 0 0, G) := by
  refine f40 (exL_ok Q orc) _ G _ ?_
  simp [s40]
/-! operations of nobody -/
theorem pstep_nil (orc : FuncId → Bool) (v : Value) (G : GS) : (E orc).cl 15 [.pointer none, v] G = some (.bool true, G) := by
  refine f15 (exL_ok Q orc) _ _ G _ ?_
  simp [s15]
theorem fstep_nil (orc : FuncId → Bool) (v : Value) (G : GS) : (E orc).cl 24 [.pointer none, v] G = some (.bool true, G) := by
  refine f24 (exL_ok Q orc) _ _ G _ ?_
  simp [s24]
theorem dstep_nil (orc : FuncId → Bool) (v : Value) (G : GS) : (E orc).cl 25 [.pointer none, v] G = some (.bool true, G) := by
  refine f25 (exL_ok Q orc) _ _ G _ ?_
  simp [s25]
theorem perr_nil (orc : FuncId → Bool) (G : GS) : (E orc).cl 16 [.pointer none] G = some (.int .i64 1, G) := by
  refine f16 (exL_ok Q orc) _ G _ ?_
  simp [s16]
theorem derr_nil (orc : FuncId → Bool) (G : GS) : (E orc).cl 27 [.pointer none] G = some (.int .i64 1, G) := by
  refine f27 (exL_ok Q orc) _ G _ ?_
  simp [s27]
theorem fval_nil (orc : FuncId → Bool) (G : GS) : (E orc).cl 20 [.pointer none] G = some (.tuple #[.int .i64 0, .int .i64 1], G) := by
  refine f20 (exL_ok Q orc) _ G _ ?_
  simp [s20]
theorem fat_nil (orc : FuncId → Bool) (G : GS) : (E orc).cl 26 [.pointer none] G = some (.int .u64 0, G) := by
  refine f26 (exL_ok Q orc) _ G _ ?_
  simp [s26]
/-! operations without a step -/
theorem wstep_0 (orc : FuncId → Bool) {c0 c1 c2 c3 : Value} {r : List Value} {ez : Nat} {op : Bool} (ho : G.obj b = some ⟨c0 :: c1 :: c2 :: c3 :: .nilFunc :: r, ez, op, 1⟩) (v : Value) : (E orc).cl 52 [P0 b, v] G = some (.bool true, G) := by
  refine f52 (exL_ok Q orc) _ _ G _ ?_
  simp [s52, sb52, j52_0, jb52_0, clip_t, ho]
theorem pstep_0 (orc : FuncId → Bool) {c0 c1 c2 c3 : Value} {r : List Value} {ez : Nat} {op : Bool} (ho : G.obj b = some ⟨c0 :: c1 :: c2 :: c3 :: .nilFunc :: r, ez, op, 1⟩) (v : Value) : (E orc).cl 15 [P0 b, v] G = some (.bool true, G) := by
  refine f15 (exL_ok Q orc) _ _ G _ ?_
  simp [s15, wstep_0 orc ho]
theorem fstep_0 (orc : FuncId → Bool) {c0 c1 c2 c3 : Value} {r : List Value} {ez : Nat} {op : Bool} (ho : G.obj b = some ⟨c0 :: c1 :: c2 :: c3 :: .nilFunc :: r, ez, op, 1⟩) (v : Value) : (E orc).cl 24 [P0 b, v] G = some (.bool true, G) := by
  refine f24 (exL_ok Q orc) _ _ G _ ?_
  simp [s24, wstep_0 orc ho]
theorem dstep_0 (orc : FuncId → Bool) {c0 c1 c2 c3 : Value} {r : List Value} {ez : Nat} {op : Bool} (ho : G.obj b = some ⟨c0 :: c1 :: c2 :: c3 :: .nilFunc :: r, ez, op, 1⟩) (v : Value) : (E orc).cl 25 [P0 b, v] G = some (.bool true, G) := by
  refine f25 (exL_ok Q orc) _ _ G _ ?_
  simp [s25, wstep_0 orc ho]
theorem wtold_0 (orc : FuncId → Bool) {c0 c1 c2 c3 c4 : Value} {r : List Value} {ez : Nat} {op : Bool} (ho : G.obj b = some ⟨c0 :: c1 :: c2 :: c3 :: c4 :: .bool false :: r, ez, op, 1⟩) : (E orc).cl 53 [P0 b] G = some (.int .i64 1, G) := by
  refine f53 (exL_ok Q orc) _ G _ ?_
  simp [s53, ho]
theorem perr_0 (orc : FuncId → Bool) {c0 c1 c2 c3 c4 : Value} {r : List Value} {ez : Nat} {op : Bool} (ho : G.obj b = some ⟨c0 :: c1 :: c2 :: c3 :: c4 :: .bool false :: r, ez, op, 1⟩) : (E orc).cl 16 [P0 b] G = some (.int .i64 1, G) := by
  refine f16 (exL_ok Q orc) _ G _ ?_
  simp [s16, wtold_0 orc ho]
theorem derr_0 (orc : FuncId → Bool) {c0 c1 c2 c3 c4 : Value} {r : List Value} {ez : Nat} {op : Bool} (ho : G.obj b = some ⟨c0 :: c1 :: c2 :: c3 :: c4 :: .bool false :: r, ez, op, 1⟩) : (E orc).cl 27 [P0 b] G = some (.int .i64 1, G) := by
  refine f27 (exL_ok Q orc) _ G _ ?_
  simp [s27, wtold_0 orc ho]
theorem fval_0 (orc : FuncId → Bool) {c0 c1 c2 c3 c4 c6 c7 : Value} {r : List Value} {op : Bool} (ho : G.obj b = some ⟨c0 :: c1 :: c2 :: c3 :: c4 :: .bool false :: c6 :: c7 :: .int .i64 0 :: r, 1, op, 1⟩) : (E orc).cl 20 [P0 b] G = some (.tuple #[.int .i64 0, .int .i64 1], G.room 10) := by
  have ho' : (G.room 10).obj b = some ⟨c0 :: c1 :: c2 :: c3 :: c4 :: .bool false :: c6 :: c7 :: .int .i64 0 :: r, 1, op, 1⟩ := by simpa using ho
  refine f20 (exL_ok Q orc) _ G _ ?_
  simp [s20, wtold_0 orc ho', ho]
theorem fat_0 (orc : FuncId → Bool) {c0 c1 c2 c3 c4 c5 c6 : Value} {r : List Value} {op : Bool} (ho : G.obj b = some ⟨c0 :: c1 :: c2 :: c3 :: c4 :: c5 :: c6 :: .int .u64 0 :: r, 1, op, 1⟩) : (E orc).cl 26 [P0 b] G = some (.int .u64 0, G) := by
  refine f26 (exL_ok Q orc) _ G _ ?_
  simp [s26, ho]
/-! a ring that may not be; a ring in no memory -/
theorem fill_un (orc : FuncId → Bool) (hR : ¬ R.ok) (mv : Value) (G : GS) : ∃ G', (E orc).cl 29 [R.v, mv] G = some (.tuple #[], G') ∧ Ext G G' := by
  have w : Wp ((E orc).cl 29 [R.v, mv] G) fun q => q.1 = .tuple #[] ∧ Ext G q.2 := by
    refine Wp.ref (f29 (exL_ok Q orc) _ _ G) ?_
    simp [s29]
    refine Wp.step (sized_ok orc R _) fun G1 x1 => ?_
    rw [ok_dec]
    simp [hR]
    exact ((Ext.refl G).push _).trans x1
  obtain ⟨⟨v, G'⟩, e, rfl, x⟩ := w
  exact ⟨G', e, x⟩
theorem all_un (orc : FuncId → Bool) (hR : ¬ R.ok) (mv : Value) (G : GS) : ∃ G', (E orc).cl 18 [R.v, mv] G = some (.slice none 0 0, G') ∧ Ext G G' := by
  have w : Wp ((E orc).cl 18 [R.v, mv] G) fun q => q.1 = .slice none 0 0 ∧ Ext G q.2 := by
    refine Wp.ref (f18 (exL_ok Q orc) _ _ G) ?_
    simp [s18]
    refine Wp.step (sized_ok orc R _) fun G1 x1 => ?_
    rw [ok_dec]
    simp [hR]
    exact ((Ext.refl G).push _).trans x1
  obtain ⟨⟨v, G'⟩, e, rfl, x⟩ := w
  exact ⟨G', e, x⟩
theorem filln_lp (orc : FuncId → Bool) {B : GS} {rb : Nat} (hrb : rb < B.nx) (ho : B.obj rb = some ⟨R.cells, 1, false, 1⟩) {n : Nat} (hn : n ≤ 4096) : ∀ (k i : Nat) (τ : Env) (G : GS), i + k = n → τ 1 = .pointer none → τ 2 = P0 rb → τ 17 = .int .i64 n → τ 18 = .int .i64 i → Ext B G →
    Wp ((exL Q orc).lpx 29 0 τ G) fun q => q.1 = .exit 0 ∧ Ext B q.2.2 := by
  intro k
  induction k with
  | zero =>
    intro i τ G hi t1 t2 t17 t18 hx
    have hi' : i = n := by omega
    subst hi'
    refine Wp.lp (l29_0 (exL_ok Q orc)) ?_
    simp [b29_0, clip_t, t1, t2, t17, t18]
    exact hx
  | succ k ih =>
    intro i τ G hi t1 t2 t17 t18 hx
    have hlt : i < n := by omega
    have o := (hx.obj rb hrb).trans ho
    have hw : IntKind.wrap .i64 ((i : Int) + 1) = ((i + 1 : Nat) : Int) := wrap64 (by omega) (by omega)
    refine Wp.lp (l29_0 (exL_ok Q orc)) ?_
    simp [-Int.natCast_add, b29_0, clip_t, t1, t2, t17, t18, hlt, o]
    refine Wp.step (store_nil orc _ 0 _) fun G1 x1 => ?_
    simp [-Int.natCast_add, hw]
    exact ih (i + 1) _ G1 (by omega) (by simp [clip_t]) (by simp [clip_t]) (by simp [clip_t]) (by simp [clip_t]) (hx.trans x1)
theorem filln_ok (orc : FuncId → Bool) (R : Rg) (G : GS) : ∃ G', (E orc).cl 29 [R.v, .pointer none] G = some (.tuple #[], G') ∧ Ext G G' := by
  by_cases hR : R.ok
  · have w : Wp ((E orc).cl 29 [R.v, .pointer none] G) fun q => q.1 = .tuple #[] ∧ Ext G q.2 := by
      refine Wp.ref (f29 (exL_ok Q orc) _ _ G) ?_
      simp [s29]
      refine Wp.step (sized_ok orc R _) fun G1 x1 => ?_
      rw [ok_dec]
      have y0 := ((Ext.refl G).push ⟨R.cells, 1, false, 1⟩).trans x1
      have n1 := x1.nx
      simp at n1
      have o1 : G1.obj G.nx = some ⟨R.cells, 1, false, 1⟩ := by rw [x1.obj G.nx (by simp)]; simp
      simp [hR, o1]
      refine Wp.step (store_nil orc _ 0 _) fun G2 x2 => ?_
      have o2 := (x2.obj G.nx (by omega)).trans o1
      simp [o2]
      refine Wp.step (store_nil orc _ 0 _) fun G3 x3 => ?_
      have y3 := x2.trans x3
      have n3 := y3.nx
      have o3 := (y3.obj G.nx (by omega)).trans o1
      obtain ⟨n, hn⟩ : ∃ n : Nat, R.size = n := ⟨R.size.toNat, by have := hR.1; omega⟩
      simp [o3]
      refine Wp.bE ((filln_lp orc (R := R) (rb := G.nx) (B := G3) (by omega) o3 (n := n) (by have := hR.2; omega) n 0 _ G3 (by omega) (by simp) (by simp) (by simp [hn]) (by simp) (Ext.refl _)).mono ?_)
      rintro ⟨e, τ, G'⟩ ⟨rfl, x⟩
      simp
      exact (y0.trans y3).trans x
    obtain ⟨⟨v, G'⟩, e, rfl, x⟩ := w
    exact ⟨G', e, x⟩
  · exact fill_un orc hR _ G
theorem allN_zero (R : Rg) (n k : Nat) (h : Int) : allN R (MS.zero 0) k h = [] := by
  cases k with
  | zero => rfl
  | succ k => simp [allN, MS.at', MS.zero, fullI]
theorem alln_ok (orc : FuncId → Bool) (R : Rg) (G : GS) : ∃ v G', (E orc).cl 18 [R.v, .pointer none] G = some (v, G') ∧ Ext G G' ∧ OwR (rowsI .i64) G.nx G' v [] := by
  obtain ⟨v, G', e, x, o⟩ := all_gen (G := G) (s := MS.zero 0) orc (.pointer none) (fun G1 y1 => ⟨_, _, words_nil orc G1, Ext.refl _, OwR.nil _ _⟩) (zero_ok (by decide)) R
  have : allI R (MS.zero 0) = [] := by unfold allI; split <;> simp [allN_zero _ 0]
  rw [this] at o
  exact ⟨v, G', e, x, o⟩
/-- a Front's two steps in no memory -/
theorem frontn1 (orc : FuncId → Bool) (hb : b < G.nx) {h : Int} (hp : PfR G b (.go 1 R h)) : ∃ G', (E orc).cl 24 [P0 b, .pointer none] G = some (.bool false, G') ∧ G.nx ≤ G'.nx ∧ (∀ g, g < G.nx → g ≠ b → G'.obj g = G.obj g) ∧ PfR G' b (.go 2 R 0) := by
  have hp' : G.obj b = _ := hp
  obtain ⟨G1, e1, x1⟩ := load_nil orc R.head G
  have o1 := (x1.obj b hb).trans hp'
  have n1 := x1.nx
  have w1 : Wp ((E orc).cl 59 [P0 b, .pointer none] G) fun q => q.1 = .tuple #[] ∧ G.nx ≤ q.2.nx ∧ (∀ g, g < G.nx → g ≠ b → q.2.obj g = G.obj g) ∧ PfR q.2 b (.go 2 R 0) := by
    refine Wp.ref (f59 (exL_ok Q orc) _ _ G) ?_
    simp [s59, hp', e1, o1]
    exact ⟨n1, fun g hg hne => by simp [hne]; exact x1.obj g hg, by simp [PfR, fNext]⟩
  obtain ⟨⟨v, G2⟩, e2, rfl, n2, k2, p2⟩ := w1
  simp only at n2 k2 p2
  have p2' : G2.obj b = _ := p2
  have e3 : (E orc).cl 52 [P0 b, .pointer none] G = some (.bool false, G2) := by
    refine f52 (exL_ok Q orc) _ _ G _ ?_
    simp [s52, sb52, j52_0, jb52_0, clip_t, hp', fNext, e2, p2']
  refine ⟨G2, f24 (exL_ok Q orc) _ _ G _ ?_, n2, k2, p2⟩
  simp [s24, e3]
theorem frontn2 (orc : FuncId → Bool) (hb : b < G.nx) (hR : R.ok) (hp : PfR G b (.go 2 R 0)) : ∃ G', (E orc).cl 24 [P0 b, .pointer none] G = some (.bool true, G') ∧ G.nx ≤ G'.nx ∧ (∀ g, g < G.nx → g ≠ b → G'.obj g = G.obj g) ∧ PfR G' b (.done 15 0 0) := by
  have hp' : G.obj b = _ := hp
  have w1 : Wp ((E orc).cl 89 [P0 b, .pointer none] G) fun q => q.1 = .tuple #[] ∧ G.nx ≤ q.2.nx ∧ (∀ g, g < G.nx → g ≠ b → q.2.obj g = G.obj g) ∧ PfR q.2 b (.done 15 0 0) := by
    refine Wp.ref (f89 (exL_ok Q orc) _ _ G) ?_
    have x0 : Ext G (G.room 13) := (Ext.refl G).room 13
    obtain ⟨G1, e1, x1⟩ := place_ok orc hR U_zero (G.room 13)
    obtain ⟨G2, e2, x2⟩ := load_nil orc (placeI R 0) G1
    have y2 := (x0.trans x1).trans x2
    have n2 := y2.nx
    have o2 := (y2.obj b hb).trans hp'
    have hend := ends_ok orc o2 15
    obtain ⟨G3, hG3⟩ : ∃ G3, G3 = (G2.put b ⟨[.int .i64 R.head, .int .i64 R.tail, .int .i64 R.slots, .int .i64 R.size, .nilFunc, .bool true, .int .i64 0, .int .u64 0, .int .i64 0], 1, false, 1⟩).put b ⟨[.int .i64 R.head, .int .i64 R.tail, .int .i64 R.slots, .int .i64 R.size, .nilFunc, .bool true, .int .i64 15, .int .u64 0, .int .i64 0], 1, false, 1⟩ := ⟨_, rfl⟩
    rw [← hG3] at hend
    have o3 : G3.obj b = some ⟨[.int .i64 R.head, .int .i64 R.tail, .int .i64 R.slots, .int .i64 R.size, .nilFunc, .bool true, .int .i64 15, .int .u64 0, .int .i64 0], 1, false, 1⟩ := by rw [hG3]; simp
    have k3 : ∀ g, g ≠ b → G3.obj g = G2.obj g := fun g hne => by rw [hG3]; simp [hne]
    have n3 : G3.nx = G2.nx := by rw [hG3]; simp
    obtain ⟨G4, e4, x4⟩ := lap_ok orc hR U_zero (G3.room 12)
    have y4 := ((Ext.refl G3).room 12).trans x4
    have n4 := y4.nx
    have o4 := (y4.obj b (by omega)).trans o3
    have e6 := full_ok orc (l := lapI R 0) U_zero G4
    have hf : fullI 0 (lapI R 0) = false := by simp [fullI]
    rw [hf] at e6
    simp [s89, hp', e1, e2, hend, o3, e4, e6]
    exact ⟨by omega, fun g hg hne => (y4.obj g (by omega)).trans ((k3 g hne).trans (y2.obj g hg)), ⟨_, _, _, _, o4⟩⟩
  obtain ⟨⟨v, G2⟩, e2, rfl, n2, k2, p2⟩ := w1
  simp only at n2 k2 p2
  obtain ⟨a0, a1, a2, a3, p2'⟩ := id p2
  have e3 : (E orc).cl 52 [P0 b, .pointer none] G = some (.bool true, G2) := by
    refine f52 (exL_ok Q orc) _ _ G _ ?_
    simp [s52, sb52, j52_0, jb52_0, clip_t, hp', fNext, e2, p2']
  refine ⟨G2, f24 (exL_ok Q orc) _ _ G _ ?_, n2, k2, p2⟩
  simp [s24, e3]
end
end Go.Proofs.Ytocbppgkgcoehaa.Lift

set_option linter.unusedVariables false
set_option linter.unusedSimpArgs false
set_option maxRecDepth 20000
namespace Go.Proofs.Ytocbppgkgcoehaa.Lift
open Go Go.Proofs.Ytocbppgkgcoehaa.Gh Go.Proofs
structure NoneB (G : GS) (pb fb db zp zf zd : Nat) : Prop where
  up : pb < G.nx
  uf : fb < G.nx
  ud : db < G.nx
  uzp : zp < G.nx
  uzf : zf < G.nx
  uzd : zd < G.nx
  op : G.obj pb = some ⟨[.pointer none, P0 zp], 1, false, 1⟩
  of : G.obj fb = some ⟨[.pointer none, P0 zf], 1, false, 1⟩
  od : G.obj db = some ⟨[.pointer none, P0 zd], 1, false, 1⟩
  ozp : G.obj zp = some ⟨[.int .i64 0, .int .i64 0, .int .i64 0, .int .i64 0, .nilFunc, .bool false, .int .i64 0, .int .i64 0, .int .u64 0, .int .u64 0], 1, false, 1⟩
  ozf : G.obj zf = some ⟨[.int .i64 0, .int .i64 0, .int .i64 0, .int .i64 0, .nilFunc, .bool false, .int .i64 0, .int .u64 0, .int .i64 0], 1, false, 1⟩
  ozd : G.obj zd = some ⟨[.int .i64 0, .int .i64 0, .int .i64 0, .int .i64 0, .nilFunc, .bool false, .int .i64 0, .int .u64 0], 1, false, 1⟩
theorem NoneB.ext {G G' : GS} {pb fb db zp zf zd : Nat} (h : NoneB G pb fb db zp zf zd) (x : Ext G G') : NoneB G' pb fb db zp zf zd :=
  have n := x.nx
  ⟨Nat.lt_of_lt_of_le h.up n, Nat.lt_of_lt_of_le h.uf n, Nat.lt_of_lt_of_le h.ud n, Nat.lt_of_lt_of_le h.uzp n, Nat.lt_of_lt_of_le h.uzf n, Nat.lt_of_lt_of_le h.uzd n,
   (x.obj _ h.up).trans h.op, (x.obj _ h.uf).trans h.of, (x.obj _ h.ud).trans h.od, (x.obj _ h.uzp).trans h.ozp, (x.obj _ h.uzf).trans h.ozf, (x.obj _ h.uzd).trans h.ozd⟩
structure NIn (τ : Env) (m pb fb db : Nat) (i : Int) : Prop where
  t7 : τ 7 = P0 m
  t9 : τ 9 = .slice (some ⟨pb, 0, none⟩) 2 2
  t10 : τ 10 = .slice (some ⟨fb, 0, none⟩) 2 2
  t11 : τ 11 = .slice (some ⟨db, 0, none⟩) 2 2
  t12 : τ 12 = .int .i64 i
def NPost (B : GS) (τ : Env) (q : Exit × Env × GS) : Prop := q.1 = .exit 0 ∧ Ext B q.2.2 ∧ q.2.1 1 = τ 1 ∧ q.2.1 2 = τ 2 ∧ q.2.1 3 = τ 3 ∧ q.2.1 7 = τ 7
theorem w1 : IntKind.wrap .i64 1 = 1 := by decide
theorem w2 : IntKind.wrap .i64 2 = 2 := by decide
section
variable {B : GS} {m pb fb db zp zf zd : Nat}
theorem none_2 (orc : FuncId → Bool) (hB : NoneB B pb fb db zp zf zd) (τ : Env) (G : GS) (h : NIn τ m pb fb db 2) (x : Ext B G) : Wp ((exL Q orc).lpx 4 0 τ G) (NPost B τ) := by
  refine Wp.lp (l4_0 (exL_ok Q orc)) ?_
  simp [b4_0, clip_t, h.t7, h.t9, h.t10, h.t11, h.t12, NPost]
  exact x
theorem none_1 (orc : FuncId → Bool) (hB : NoneB B pb fb db zp zf zd) (τ : Env) (G : GS) (h : NIn τ m pb fb db 1) (x : Ext B G) : Wp ((exL Q orc).lpx 4 0 τ G) (NPost B τ) := by
  have k := hB.ext x
  have k1 := hB.ext (x.room 10)
  have f1 := fval_0 orc k.ozf
  refine Wp.lp (l4_0 (exL_ok Q orc)) ?_
  simp [b4_0, clip_t, h.t7, h.t9, h.t10, h.t11, h.t12, k.op, k.of, k.od, f1, pstep_0 orc k1.ozp, fstep_0 orc k1.ozf, dstep_0 orc k1.ozd, fat_0 orc k1.ozf, perr_0 orc k1.ozp, derr_0 orc k1.ozd]
  refine Wp.mono (none_2 (m := m) orc hB _ _ ?_ (x.room 10)) ?_
  · exact ⟨by simp [clip_t], by simp [clip_t], by simp [clip_t], by simp [clip_t], by simp [clip_t, w1, w2]⟩
  rintro q ⟨q1, q2, q3, q4, q5, q6⟩
  exact ⟨q1, q2, by rw [q3]; simp [clip_t], by rw [q4]; simp [clip_t], by rw [q5]; simp [clip_t], by rw [q6, h.t7]; simp [clip_t]⟩
theorem none_0 (orc : FuncId → Bool) (hB : NoneB B pb fb db zp zf zd) (τ : Env) (G : GS) (h : NIn τ m pb fb db 0) (x : Ext B G) : Wp ((exL Q orc).lpx 4 0 τ G) (NPost B τ) := by
  have k := hB.ext x
  refine Wp.lp (l4_0 (exL_ok Q orc)) ?_
  simp [b4_0, clip_t, h.t7, h.t9, h.t10, h.t11, h.t12, k.op, k.of, k.od, fval_nil, pstep_nil, fstep_nil, dstep_nil, fat_nil, perr_nil, derr_nil]
  refine Wp.mono (none_1 (m := m) orc hB _ _ ?_ x) ?_
  · exact ⟨by simp [clip_t], by simp [clip_t], by simp [clip_t], by simp [clip_t], by simp [clip_t, w1, w2]⟩
  rintro q ⟨q1, q2, q3, q4, q5, q6⟩
  exact ⟨q1, q2, by rw [q3]; simp [clip_t], by rw [q4]; simp [clip_t], by rw [q5]; simp [clip_t], by rw [q6, h.t7]; simp [clip_t]⟩
end
theorem ringNone (orc : FuncId → Bool) (haw : orc 22 = true) (R : Rg) (v h : Int) (hh : U h) (G : GS) :
    Wp ((E orc).cl 4 [R.v, .int .i64 v, .int .u64 h] G) fun q => q.1 = .bool true := by
  have aw : ∀ G, (E orc).cl 22 [] G = some (.bool true, G) := fun G => cl_orc Q orc haw G
  refine Wp.ref (f4 (exL_ok Q orc) _ _ _ G) ?_
  obtain ⟨m, G1, e1, x1, hm⟩ := (new_ok orc 9 (G.push ⟨R.cells, 1, false, 1⟩)).2 (by decide) (by decide)
  have n1 := x1.nx
  simp at n1
  have o1 := x1.obj G.nx (by simp)
  simp at o1
  simp [s4, e1]
  generalize hG2 : (GS.push (GS.push (GS.push (GS.push (GS.push (GS.push G1 _) _) _) _) _) _) = G2
  have x2 : Ext G1 G2 := by rw [← hG2]; exact ((((((Ext.refl G1).push _).push _).push _).push _).push _).push _
  have n2 : G2.nx = G1.nx + 6 := by rw [← hG2]; rfl
  have hB : NoneB G2 (G1.nx + 1) (G1.nx + 3) (G1.nx + 5) G1.nx (G1.nx + 2) (G1.nx + 4) :=
    ⟨by omega, by omega, by omega, by omega, by omega, by omega, by rw [← hG2]; simp [Nat.add_assoc], by rw [← hG2]; simp [Nat.add_assoc], by rw [← hG2]; simp [Nat.add_assoc], by rw [← hG2]; simp [Nat.add_assoc], by rw [← hG2]; simp [Nat.add_assoc], by rw [← hG2]; simp [Nat.add_assoc]⟩
  clear hG2
  refine Wp.bE ((none_0 (m := m) orc hB _ _ ⟨by simp, by simp [Nat.add_assoc], by simp [Nat.add_assoc], by simp [Nat.add_assoc], by simp⟩ (Ext.refl _)).mono ?_)
  rintro ⟨e, τ, G3⟩ ⟨rfl, x3, q1, q2, q3, q7⟩
  simp at x3 q1 q2 q3 q7
  have y3 := x2.trans x3
  have hm3 := hm.ext y3
  have n3 := y3.nx
  have o3 := (y3.obj G.nx (by omega)).trans o1
  have o3' : (G3.room 11).obj G.nx = some ⟨R.cells, 1, false, 1⟩ := by simpa using o3
  obtain ⟨bp, G4, e4, x4, l4, u4, p4⟩ := newpush_ok orc R v (G3.room 11)
  obtain ⟨bf, G5, e5, x5, l5, u5, p5⟩ := newfront_ok orc R G4
  obtain ⟨bd, G6, e6, x6, l6, u6, p6⟩ := newdrop_ok orc R h G5
  have n4 := x4.nx
  have n5 := x5.nx
  have n6 := x6.nx
  simp at n4 l4
  have o4 := (x4.obj G.nx (by simp; omega)).trans o3'
  have o5 := (x5.obj G.nx (by omega)).trans o4
  have o6 := (x6.obj G.nx (by omega)).trans o5
  have p4' := p4.kept ((x6.obj bp (by omega)).trans (x5.obj bp (by omega)))
  have p5' := p5.kept (x6.obj bf (by omega))
  have y6 := (((Ext.refl G3).room 11).trans x4).trans (x5.trans x6)
  have hm6 := hm3.ext y6
  rcases (show (100 < R.size ∧ R.size ≤ 4096) ∨ (100 < R.size ∧ ¬ R.size ≤ 4096) ∨ ¬ 100 < R.size by omega) with c | c | c
  · simp [q1, q2, q3, q7, o3, c.1, c.2, aw]
  · have hR : ¬ R.ok := fun hh => c.2 hh.2
    have c3 : ¬ R.size < 1 := by omega
    have c4 : 4096 < R.size := by omega
    simp [q1, q2, q3, q7, o3, c.1, c.2, o3', e4, e5, e6, o4, o5, o6, c3, c4]
    obtain ⟨G7, e7, x7⟩ := fill_un orc hR (P0 m) G6
    have n7 := x7.nx
    obtain ⟨G8, e8, x8⟩ := fval_ok orc (p5'.kept (x7.obj bf (by omega)))
    have y8 := x7.trans x8
    have n8 := y8.nx
    have rP : newPu R v = .done 2 := by unfold newPu; rw [if_neg hR]
    have rF : newFr R = .done 2 0 0 := by unfold newFr; rw [if_neg hR]
    have rD : newDr R h = .done 2 := by unfold newDr; rw [if_neg hR]
    rw [rP] at p4'; rw [rF] at p5' e8; rw [rD] at p6
    have p4'' := p4'.kept (y8.obj bp (by omega))
    have p6'' := p6.kept (y8.obj bd (by omega))
    have s1 := pusherr_ok orc p4''
    have s2 := droperr_ok orc p6''
    obtain ⟨pa, pt, ps, pz, pv, pt', pw, op⟩ := p4''
    obtain ⟨f0, f1, f2, f3, of⟩ := p5'.kept (y8.obj bf (by omega))
    obtain ⟨da, db, dc, dd, dh, od⟩ := p6''
    have t1 := pstep_0 orc op (P0 m)
    have t2 := fstep_0 orc of (P0 m)
    have t3 := dstep_0 orc od (P0 m)
    obtain ⟨G9, e9, x9⟩ := all_un orc hR (P0 m) G8
    have o8 := (y8.obj G.nx (by omega)).trans o6
    have y9 := y8.trans x9
    obtain ⟨mb, mr, hm9⟩ := hm6.ext y9
    have cn := count_ok orc hm9
    simp only [FrS.val, FrS.err] at e8
    simp only [PuS.err] at s1
    simp only [DrS.err] at s2
    simp [e7, e8, t1, t2, t3, s1, s2, o8, e9, cn, aw, MS.zero]
  by_cases c3 : R.size < 1
  · have hR : ¬ R.ok := fun hh => by have := hh.1; omega
    simp [q1, q2, q3, q7, o3, c, o3', e4, e5, e6, o4, o5, o6, c3]
    obtain ⟨G7, e7, x7⟩ := fill_un orc hR (P0 m) G6
    have n7 := x7.nx
    obtain ⟨G8, e8, x8⟩ := fval_ok orc (p5'.kept (x7.obj bf (by omega)))
    have y8 := x7.trans x8
    have n8 := y8.nx
    have rP : newPu R v = .done 2 := by unfold newPu; rw [if_neg hR]
    have rF : newFr R = .done 2 0 0 := by unfold newFr; rw [if_neg hR]
    have rD : newDr R h = .done 2 := by unfold newDr; rw [if_neg hR]
    rw [rP] at p4'; rw [rF] at p5' e8; rw [rD] at p6
    have p4'' := p4'.kept (y8.obj bp (by omega))
    have p6'' := p6.kept (y8.obj bd (by omega))
    have s1 := pusherr_ok orc p4''
    have s2 := droperr_ok orc p6''
    obtain ⟨pa, pt, ps, pz, pv, pt', pw, op⟩ := p4''
    obtain ⟨f0, f1, f2, f3, of⟩ := p5'.kept (y8.obj bf (by omega))
    obtain ⟨da, db, dc, dd, dh, od⟩ := p6''
    have t1 := pstep_0 orc op (P0 m)
    have t2 := fstep_0 orc of (P0 m)
    have t3 := dstep_0 orc od (P0 m)
    obtain ⟨G9, e9, x9⟩ := all_un orc hR (P0 m) G8
    have o8 := (y8.obj G.nx (by omega)).trans o6
    have y9 := y8.trans x9
    obtain ⟨mb, mr, hm9⟩ := hm6.ext y9
    have cn := count_ok orc hm9
    simp only [FrS.val, FrS.err] at e8
    simp only [PuS.err] at s1
    simp only [DrS.err] at s2
    simp [e7, e8, t1, t2, t3, s1, s2, o8, e9, cn, aw, MS.zero]
  have c4 : ¬ 4096 < R.size := by omega
  have hR : R.ok := ⟨by omega, by omega⟩
  have rP : newPu R v = if v < 0 ∨ 65535 < v then .done 3 else .go 1 R v 0 0 := by unfold newPu; rw [if_pos hR]
  have rF : newFr R = .go 1 R 0 := by unfold newFr; rw [if_pos hR]
  rw [rP] at p4'; rw [rF] at p5'
  by_cases cv : v < 0 ∨ 65535 < v
  · rw [if_pos cv] at p4'
    have s1 := pusherr_ok orc p4'
    obtain ⟨pa, pt, ps, pz, pv, pt', pw, op⟩ := p4'
    have t1 := pstep_0 orc op (P0 m)
    obtain ⟨mb, mr, hm9⟩ := hm6
    have cn := count_ok orc hm9
    simp only [PuS.err] at s1
    by_cases c5 : v < 0
    · simp [q1, q2, q3, q7, o3, c, o3', e4, e5, e6, o4, o5, o6, c3, c4, c5, t1, s1, cn, aw, MS.zero]
    · have c6 : 65535 < v := by omega
      simp [q1, q2, q3, q7, o3, c, o3', e4, e5, e6, o4, o5, o6, c3, c4, c5, c6, t1, s1, cn, aw, MS.zero]
  have c5 : ¬ v < 0 := by omega
  have c6 : ¬ 65535 < v := by omega
  obtain ⟨G7, e7, x7⟩ := filln_ok orc R G6
  have n7 := x7.nx
  obtain ⟨G8, e8, n8, k8, p8⟩ := frontn1 orc (by omega : bf < G7.nx) (p5'.kept (x7.obj bf (by omega)))
  obtain ⟨G9, e9, n9, k9, p9⟩ := frontn2 orc (by omega : bf < G8.nx) hR p8
  obtain ⟨G10, e10, x10⟩ := fval_ok orc p9
  have n10 := x10.nx
  have k10 : ∀ g, g < G6.nx → g ≠ bf → G10.obj g = G6.obj g := fun g hg hne => (x10.obj g (by omega)).trans ((k9 g (by omega) hne).trans ((k8 g (by omega) hne).trans (x7.obj g hg)))
  have o10 := (k10 G.nx (by omega) (by omega)).trans o6
  obtain ⟨va, G11, e11, x11, w11⟩ := alln_ok orc R G10
  have n11 := x11.nx
  have hmu := hm6.un
  have hm11 := hm6.kept (G' := G11) (by omega) (fun g hg => (x11.obj g (by have := hmu g hg; omega)).trans (k10 g (hmu g hg) (by have := hg.2; omega)))
  obtain ⟨mb, mr, hm11⟩ := hm11
  have cn := count_ok orc hm11
  have lv : ∀ t, ln Q true t va = some (.int .i64 0) := fun t => by obtain ⟨a, c, rfl⟩ := w11.is.len; simp
  simp only [FrS.val, FrS.err] at e10
  simp [q1, q2, q3, q7, o3, c, o3', e4, e5, e6, o4, o5, o6, c3, c4, c5, c6, e7, e8, e9, e10, o10, e11, lv, cn, aw, MS.zero]
end Go.Proofs.Ytocbppgkgcoehaa.Lift

