/- contracts of the program's functions -/
import Derived.Test.YtdohlgkmaeipjaaGreatRRa
import Derived.Test.YtdohlgkmaeipjaaGreatGhPT
import Derived.Test.YtdohlgkmaeipjaaGreatGhPR
import Derived.Test.YtdohlgkmaeipjaaGreatGhPC
import Derived.Test.YtdohlgkmaeipjaaGreatGhPD
import Derived.Test.YtdohlgkmaeipjaaGreatGhLS
import Derived.Test.YtdohlgkmaeipjaaGreatGhEQ
namespace Go.Proofs.YtdohlgkmaeipjaaGreat.Lift
open Go Go.Proofs.YtdohlgkmaeipjaaGreat.Gh Go.Proofs
abbrev P0 (b : Nat) : Value := .pointer (some ⟨b, 0, none⟩)
theorem Ext.drawn {A G B : GS} (h : Ext A G) {n : Nat} (hn : A.nx ≤ n) (hB : A.nx ≤ B.nx) (o : GObj) : Ext A (((G.at' n).push o).back B) :=
  ⟨by simpa using hB, fun g hg => by
    have := h.obj g hg
    simp only [obj_back, obj_push, nx_at, obj_at]
    rw [if_neg (by omega)]; exact this, by simpa using h.nl, fun l hl => by simpa using h.loop l hl⟩
theorem iface_cells (k : Nat) (v : Value) : (Value.iface k v).cells = #[.iface k v] := rfl
end Go.Proofs.YtdohlgkmaeipjaaGreat.Lift

set_option linter.unusedVariables false
set_option linter.unusedSimpArgs false
set_option maxRecDepth 20000
namespace Go.Proofs.YtdohlgkmaeipjaaGreat.Lift
open Go Go.Proofs.YtdohlgkmaeipjaaGreat.Gh Go.Proofs
theorem w0 : IntKind.wrap .i64 0 = 0 := by decide
theorem w4 : IntKind.wrap .i64 4 = 4 := by decide
/-! ### Towers -/
structure TW where
  nodes : Int
  heads : Int
  height : Int
  top : Int
  links : Int
  size : Int
  u6 : Int
  u7 : Int
  u8 : Int
  u9 : Int
  u10 : Int
  u11 : Int
  u12 : Int
abbrev TW.cells (t : TW) : List Value := [.int .i64 t.nodes, .int .i64 t.heads, .int .i64 t.height, .int .i64 t.top, .int .i64 t.links, .int .i64 t.size, .int .i64 t.u6, .int .i64 t.u7, .int .i64 t.u8, .int .i64 t.u9, .int .i64 t.u10, .int .i64 t.u11, .int .i64 t.u12]
abbrev TW.v (t : TW) : Value := .agg ⟨t.cells⟩
def TW.sound (t : TW) : Prop := 1 ≤ t.height ∧ t.height ≤ 4 ∧ 1 ≤ t.size ∧ t.size ≤ 128 ∧ 0 ≤ t.nodes ∧ t.nodes < 4096 ∧ 0 ≤ t.heads ∧ t.heads < 4096
instance (t : TW) : Decidable t.sound := by unfold TW.sound; exact inferInstance
theorem box_ext {G G' : GS} {cs : List Value} (h : Ext (G.push ⟨cs, 1, false, 1⟩) G') : G'.obj G.nx = some ⟨cs, 1, false, 1⟩ := (h.obj G.nx (by simp)).trans (by simp)
theorem sound_ok (orc : FuncId → Bool) (t : TW) (G : GS) : ∃ G', (E orc).cl 102 [t.v] G = some (.bool (decide t.sound), G') ∧ Ext G G' := by
  refine ⟨G.push ⟨t.cells, 1, false, 1⟩, f102 (exL_ok Q orc) _ G _ ?_, (Ext.refl G).push _⟩
  unfold TW.sound
  by_cases h1 : 1 ≤ t.height
  · by_cases h2 : t.height ≤ 4
    · by_cases h3 : 1 ≤ t.size
      · by_cases h4 : t.size ≤ 128
        · by_cases h5 : 0 ≤ t.nodes
          · by_cases h6 : t.nodes < 4096
            · by_cases h7 : 0 ≤ t.heads
              · by_cases h8 : t.heads < 4096 <;> simp [s102, h1, h2, h3, h4, h5, h6, h7, h8]
              · simp [s102, h1, h2, h3, h4, h5, h6, h7]
            · simp [s102, h1, h2, h3, h4, h5, h6]
          · simp [s102, h1, h2, h3, h4, h5]
        · simp [s102, h1, h2, h3, h4]
      · simp [s102, h1, h2, h3]
    · simp [s102, h1, h2]
  · simp [s102, h1]
theorem rsound_ok (orc : FuncId → Bool) (t : TW) (G : GS) : ∃ G', (E orc).cl 18 [t.v] G = some (.bool (decide t.sound), G') ∧ Ext G G' := by
  refine ⟨G.push ⟨t.cells, 1, false, 1⟩, f18 (exL_ok Q orc) _ G _ ?_, (Ext.refl G).push _⟩
  unfold TW.sound
  by_cases h1 : 1 ≤ t.height
  · by_cases h2 : t.height ≤ 4
    · by_cases h3 : 1 ≤ t.size
      · by_cases h4 : t.size ≤ 128
        · by_cases h5 : 0 ≤ t.nodes
          · by_cases h6 : t.nodes < 4096
            · by_cases h7 : 0 ≤ t.heads
              · by_cases h8 : t.heads < 4096 <;> simp [s18, h1, h2, h3, h4, h5, h6, h7, h8]
              · simp [s18, h1, h2, h3, h4, h5, h6, h7]
            · simp [s18, h1, h2, h3, h4, h5, h6]
          · simp [s18, h1, h2, h3, h4, h5]
        · simp [s18, h1, h2, h3, h4]
      · simp [s18, h1, h2, h3]
    · simp [s18, h1, h2]
  · simp [s18, h1]
theorem inv_head (orc : FuncId → Bool) (h : Int) (G : GS) : cInvoke Q (evL Q orc) (.iface 190 (.int .i64 h)) "coxswain/tower.cells" [] G = some (.int .i64 h, G) := by
  have e : cInvoke Q (evL Q orc) (.iface 190 (.int .i64 h)) "coxswain/tower.cells" [] G = (E orc).cl 521 [.int .i64 h] G := by kernel_rfl
  rw [e]
  exact f521 (exL_ok Q orc) _ G _ (by simp [s521])
theorem heads_ok (orc : FuncId → Bool) (t : TW) (G : GS) : ∃ G', (E orc).cl 105 [t.v] G = some (.agg ⟨[.int .i64 t.heads, .int .i64 1, .int .i64 t.height]⟩, G') ∧ Ext G G' := by
  refine ⟨((G.push ⟨t.cells, 1, false, 1⟩).push ⟨[.int .i64 0, .int .i64 0, .int .i64 0], 1, false, 1⟩).put (G.nx + 1) ⟨[.int .i64 t.heads, .int .i64 1, .int .i64 t.height], 1, false, 1⟩, f105 (exL_ok Q orc) _ G _ ?_, (((Ext.refl G).push _).push _).put (by omega) _⟩
  simp [s105, splice_put, splice_end]
theorem hat_ok (orc : FuncId → Bool) {a n : Int} (ha : 0 ≤ a ∧ a < 4096) (hn : 1 ≤ n ∧ n ≤ 4) (G : GS) : ∃ G', (E orc).cl 274 [.agg ⟨[.int .i64 a, .int .i64 1, .int .i64 n]⟩, .int .i64 0, .int .i64 0] G = some (.int .i64 a, G') ∧ Ext G G' := by
  have h1 : ¬ n ≤ 0 := by omega
  have h2 : IntKind.wrap .i64 a = a := wrap64 (by omega) (by omega)
  have w : Wp (s274 true (exL Q orc) (.agg ⟨[.int .i64 a, .int .i64 1, .int .i64 n]⟩) (.int .i64 0) (.int .i64 0) G) fun r => r.1 = .int .i64 a ∧ Ext G r.2 := by
    simp [s274, inv_head orc, h1, h2, w0]
    exact ((Ext.refl G).push _).room 12
  obtain ⟨⟨v, G'⟩, e1, rfl, e3⟩ := w
  exact ⟨G', f274 (exL_ok Q orc) _ _ _ G _ e1, e3⟩
theorem at0_ok (orc : FuncId → Bool) (t : TW) (G : GS) : ∃ G', (E orc).cl 191 [t.v, .int .i64 (-1), .int .i64 4] G = some (.int .i64 (if t.sound then t.heads else -1), G') ∧ Ext G G' := by
  obtain ⟨G1, hG1⟩ : ∃ G1, G1 = G.push ⟨t.cells, 1, false, 1⟩ := ⟨_, rfl⟩
  have x1 : Ext G G1 := by rw [hG1]; exact (Ext.refl G).push _
  have n1 : G1.nx = G.nx + 1 := by rw [hG1]; rfl
  have o1 : G1.obj G.nx = some ⟨t.cells, 1, false, 1⟩ := by rw [hG1]; simp
  obtain ⟨G2, e2, x2⟩ := sound_ok orc t G1
  have o2 := (x2.obj G.nx (by omega)).trans o1
  by_cases hs : t.sound
  · simp only [hs, decide_true] at e2
    obtain ⟨G3, e3, x3⟩ := heads_ok orc t G2
    obtain ⟨G4, e4, x4⟩ := hat_ok orc (a := t.heads) (n := t.height) ⟨hs.2.2.2.2.2.2.1, hs.2.2.2.2.2.2.2⟩ ⟨hs.1, hs.2.1⟩ G3
    have h1 := hs.1
    have h2 := hs.2.1
    have hw : IntKind.wrap .i64 (4 + t.height) = 4 + t.height := wrap64 (by omega) (by omega)
    have h3 : ¬ 4 + t.height ≤ 4 := by omega
    refine ⟨G4, f191 (exL_ok Q orc) _ _ _ G _ ?_, ((x1.trans x2).trans x3).trans x4⟩
    simp [s191, ← hG1, o1, e2, o2, hw, h3, e3, e4, hs, w0]
  · simp only [hs, decide_false] at e2
    refine ⟨G2, f191 (exL_ok Q orc) _ _ _ G _ ?_, x1.trans x2⟩
    simp [s191, ← hG1, o1, e2, hs]
theorem next0_ok (orc : FuncId → Bool) (t : TW) (G : GS) : ∃ G', (E orc).cl 69 [t.v, .int .i64 (-1), .int .i64 0] G = some (.int .i64 (if t.sound then t.heads else -1), G') ∧ Ext G G' := by
  obtain ⟨G1, hG1⟩ : ∃ G1, G1 = G.push ⟨t.cells, 1, false, 1⟩ := ⟨_, rfl⟩
  have x1 : Ext G G1 := by rw [hG1]; exact (Ext.refl G).push _
  have o1 : G1.obj G.nx = some ⟨t.cells, 1, false, 1⟩ := by rw [hG1]; simp
  obtain ⟨G2, e2, x2⟩ := at0_ok orc t G1
  refine ⟨G2, f69 (exL_ok Q orc) _ _ _ G _ ?_, x1.trans x2⟩
  simp [s69, ← hG1, o1, e2, w4]
end Go.Proofs.YtdohlgkmaeipjaaGreat.Lift

set_option linter.unusedVariables false
set_option linter.unusedSimpArgs false
set_option maxRecDepth 20000
namespace Go.Proofs.YtdohlgkmaeipjaaGreat.Lift
open Go Go.Proofs.YtdohlgkmaeipjaaGreat.Gh Go.Proofs
/-! ### A ready queue's operations, when they are made -/
theorem inv_node (orc : FuncId → Bool) (h : Int) (hh : 1 ≤ h ∧ h ≤ 4) (G : GS) : cInvoke Q (evL Q orc) (.iface 185 (.int .i64 h)) "coxswain/tower.cells" [] G = some (.int .i64 (4 + h), G) := by
  have e : cInvoke Q (evL Q orc) (.iface 185 (.int .i64 h)) "coxswain/tower.cells" [] G = (E orc).cl 520 [.int .i64 h] G := by kernel_rfl
  rw [e]
  have w : IntKind.wrap .i64 (4 + h) = 4 + h := wrap64 (by omega) (by omega)
  exact f520 (exL_ok Q orc) _ G _ (by simp [s520, w])
theorem nodes_ok (orc : FuncId → Bool) (t : TW) (G : GS) : ∃ G', (E orc).cl 103 [t.v] G = some (.agg ⟨[.int .i64 t.nodes, .int .i64 t.size, .int .i64 t.height]⟩, G') ∧ Ext G G' := by
  have w : Wp (s103 true (exL Q orc) t.v G) fun q => q.1 = .agg ⟨[.int .i64 t.nodes, .int .i64 t.size, .int .i64 t.height]⟩ ∧ Ext G q.2 := by
    simp [s103, splice_put, splice_end, splice_succ]
    exact (((Ext.refl G).push _).push _).put (by simp) _
  obtain ⟨⟨v, G'⟩, e1, rfl, h⟩ := w
  exact ⟨G', f103 (exL_ok Q orc) _ G _ e1, h⟩
theorem nat0_ok (orc : FuncId → Bool) {a n h : Int} (ha : 0 ≤ a ∧ a < 4096) (hn : 1 ≤ n) (hh : 1 ≤ h ∧ h ≤ 4) (G : GS) : ∃ G', (E orc).cl 273 [.agg ⟨[.int .i64 a, .int .i64 n, .int .i64 h]⟩, .int .i64 0, .int .i64 0] G = some (.int .i64 a, G') ∧ Ext G G' := by
  have h1 : ¬ n ≤ 0 := by omega
  have h3 : ¬ 4 + h ≤ 0 := by omega
  have h2 : IntKind.wrap .i64 a = a := wrap64 (by omega) (by omega)
  have h4 : IntKind.wrap .i64 0 = 0 := by decide
  have w : Wp (s273 true (exL Q orc) (.agg ⟨[.int .i64 a, .int .i64 n, .int .i64 h]⟩) (.int .i64 0) (.int .i64 0) G) fun r => r.1 = .int .i64 a ∧ Ext G r.2 := by
    simp [s273, inv_node orc h hh, h1, h2, h3, h4]
    exact ((Ext.refl G).push _).room 12
  obtain ⟨⟨v, G'⟩, e1, rfl, e3⟩ := w
  exact ⟨G', f273 (exL_ok Q orc) _ _ _ G _ e1, e3⟩
theorem at00_ok (orc : FuncId → Bool) (t : TW) (G : GS) : ∃ G', (E orc).cl 191 [t.v, .int .i64 0, .int .i64 0] G = some (.int .i64 (if t.sound then t.nodes else -1), G') ∧ Ext G G' := by
  obtain ⟨G1, hG1⟩ : ∃ G1, G1 = G.push ⟨t.cells, 1, false, 1⟩ := ⟨_, rfl⟩
  have x1 : Ext G G1 := by rw [hG1]; exact (Ext.refl G).push _
  have n1 : G1.nx = G.nx + 1 := by rw [hG1]; rfl
  have o1 : G1.obj G.nx = some ⟨t.cells, 1, false, 1⟩ := by rw [hG1]; simp
  obtain ⟨G2, e2, x2⟩ := sound_ok orc t G1
  have o2 := (x2.obj G.nx (by omega)).trans o1
  by_cases hs : t.sound
  · simp only [hs, decide_true] at e2
    obtain ⟨G3, e3, x3⟩ := nodes_ok orc t G2
    obtain ⟨G4, e4, x4⟩ := nat0_ok orc (a := t.nodes) (n := t.size) (h := t.height) ⟨hs.2.2.2.2.1, hs.2.2.2.2.2.1⟩ hs.2.2.1 ⟨hs.1, hs.2.1⟩ G3
    refine ⟨G4, f191 (exL_ok Q orc) _ _ _ G _ ?_, ((x1.trans x2).trans x3).trans x4⟩
    simp [s191, ← hG1, o1, e2, o2, e3, e4, hs]
  · simp only [hs, decide_false] at e2
    refine ⟨G2, f191 (exL_ok Q orc) _ _ _ G _ ?_, x1.trans x2⟩
    simp [s191, ← hG1, o1, e2, hs]
/-- why nothing may be done -/
def refI (t : TW) (c : Int) : Int := if ¬ t.sound then 2 else if c < 0 ∨ t.u11 ≤ c then 3 else 0
abbrev wL (t : TW) (c : Int) (parts : Value) (err : Int) (rest : List Value) : List Value := .int .i64 t.nodes :: .int .i64 t.heads :: .int .i64 t.height :: .int .i64 t.top :: .int .i64 t.links :: .int .i64 t.size :: .int .i64 t.u6 :: .int .i64 t.u7 :: .int .i64 t.u8 :: .int .i64 t.u9 :: .int .i64 t.u10 :: .int .i64 t.u11 :: .int .i64 t.u12 :: .int .i64 c :: .bool true :: .int .i64 0 :: parts :: .int .u64 0 :: .int .i64 err :: rest
abbrev nilS : Value := .slice none 0 0
theorem begun_ok (orc : FuncId → Bool) (t : TW) (c : Int) (G : GS) : ∃ G', (E orc).cl 213 [t.v, .int .i64 c] G = some (.agg ⟨wL t c nilS (refI t c) []⟩, G') ∧ Ext G G' := by
  obtain ⟨G1, hG1⟩ : ∃ G1, G1 = (((G.push ⟨t.cells, 1, false, 1⟩).push ⟨z300, 1, false, 1⟩).push ⟨z300, 1, false, 1⟩).put (G.nx + 1 + 1) ⟨wL t c nilS 0 [], 1, false, 1⟩ := ⟨_, rfl⟩
  have x1 : Ext G G1 := by rw [hG1]; exact ((((Ext.refl G).push _).push _).push _).put (by omega) _
  have n1 : G1.nx = G.nx + 3 := by rw [hG1]; rfl
  have d1 : ¬ G.nx = G.nx + 1 + 1 := by omega
  have d2 : ¬ G.nx + 1 = G.nx + 1 + 1 := by omega
  have o0 : G1.obj G.nx = some ⟨t.cells, 1, false, 1⟩ := by rw [hG1]; simp [d1]
  have o1 : G1.obj (G.nx + 1) = some ⟨z300, 1, false, 1⟩ := by rw [hG1]; simp [d1, d2]
  have o2 : G1.obj (G.nx + 1 + 1) = some ⟨wL t c nilS 0 [], 1, false, 1⟩ := by rw [hG1]; simp
  obtain ⟨G2, e2, x2⟩ := at00_ok orc t G1
  have p0 := (x2.obj _ (by omega)).trans o0
  have p1 := (x2.obj _ (by omega)).trans o1
  have p2 := (x2.obj _ (by omega)).trans o2
  have y := x1.trans x2
  have w : Wp (s213 true (exL Q orc) t.v (.int .i64 c) G) fun r => r.1 = .agg ⟨wL t c nilS (refI t c) []⟩ ∧ Ext G r.2 := by
    unfold refI
    by_cases hs : t.sound
    · have hn : ¬ t.nodes < 0 := by have := hs.2.2.2.2.1; omega
      simp only [hs, if_true] at e2
      by_cases h1 : c < 0
      · simp [s213, splice_put, splice_end, splice_succ, ← hG1, o0, d1, d2, e2, hn, p0, p1, p2, hs, h1]
        exact ((y.put (by omega) _).put (by omega) _)
      by_cases h2 : t.u11 ≤ c
      · simp [s213, splice_put, splice_end, splice_succ, ← hG1, o0, d1, d2, e2, hn, p0, p1, p2, hs, h1, h2]
        exact ((y.put (by omega) _).put (by omega) _)
      · simp [s213, splice_put, splice_end, splice_succ, ← hG1, o0, d1, d2, e2, hn, p0, p1, p2, hs, h1, h2]
        exact y.put (by omega) _
    · simp only [hs, if_false] at e2
      simp [s213, splice_put, splice_end, splice_succ, ← hG1, o0, d1, d2, e2, p0, p1, p2, hs]
      exact ((y.put (by omega) _).put (by omega) _)
  obtain ⟨⟨v, G'⟩, e1, rfl, e3⟩ := w
  exact ⟨G', f213 (exL_ok Q orc) _ _ G _ e1, e3⟩
/-! parts: each is a new block behind an interface -/
theorem pin_ok (orc : FuncId → Bool) (b : Nat) (G : GS) : ∃ x G', (E orc).cl 214 [P0 b] G = some (.iface 416 (P0 x), G') ∧ Ext G G' := by
  have w : Wp (s214 true (exL Q orc) (P0 b) G) fun q => ∃ x, q.1 = .iface 416 (P0 x) ∧ Ext G q.2 := by
    simp [s214]
    exact ((Ext.refl G).push _).push _
  obtain ⟨⟨v, G'⟩, e1, x, rfl, h⟩ := w
  exact ⟨x, G', f214 (exL_ok Q orc) _ G _ e1, h⟩
theorem unpin_ok (orc : FuncId → Bool) (b : Nat) (G : GS) : ∃ x G', (E orc).cl 220 [P0 b] G = some (.iface 431 (P0 x), G') ∧ Ext G G' := by
  have w : Wp (s220 true (exL Q orc) (P0 b) G) fun q => ∃ x, q.1 = .iface 431 (P0 x) ∧ Ext G q.2 := by
    simp [s220]
    exact ((Ext.refl G).push _).push _
  obtain ⟨⟨v, G'⟩, e1, x, rfl, h⟩ := w
  exact ⟨x, G', f220 (exL_ok Q orc) _ G _ e1, h⟩
theorem collect_ok (orc : FuncId → Bool) (b c : Nat) (f : Nat) (G : GS) : ∃ x G', (E orc).cl 223 [P0 b, .func (.func f) #[] #[P0 c]] G = some (.iface 439 (P0 x), G') ∧ Ext G G' := by
  have w : Wp (s223 true (exL Q orc) (P0 b) (.func (.func f) #[] #[P0 c]) G) fun q => ∃ x, q.1 = .iface 439 (P0 x) ∧ Ext G q.2 := by
    simp [s223]
    exact ((Ext.refl G).push _).push _
  obtain ⟨⟨v, G'⟩, e1, x, rfl, h⟩ := w
  exact ⟨x, G', f223 (exL_ok Q orc) _ _ G _ e1, h⟩
theorem alloc_ok (orc : FuncId → Bool) (b : Nat) (G : GS) : ∃ x G', (E orc).cl 215 [P0 b] G = some (.iface 424 (P0 x), G') ∧ Ext G G' := by
  have w : Wp (s215 true (exL Q orc) (P0 b) G) fun q => ∃ x, q.1 = .iface 424 (P0 x) ∧ Ext G q.2 := by
    simp [s215]
    exact ((Ext.refl G).push _).push _
  obtain ⟨⟨v, G'⟩, e1, x, rfl, h⟩ := w
  exact ⟨x, G', f215 (exL_ok Q orc) _ G _ e1, h⟩
end Go.Proofs.YtdohlgkmaeipjaaGreat.Lift

set_option linter.unusedVariables false
set_option linter.unusedSimpArgs false
set_option maxRecDepth 20000
namespace Go.Proofs.YtdohlgkmaeipjaaGreat.Lift
open Go Go.Proofs.YtdohlgkmaeipjaaGreat.Gh Go.Proofs
theorem hzr : z305 = [.nilIface] := rfl
/-- an operation's work, as it was made -/
def WorkR (G : GS) (b : Nat) (t : TW) (c err : Int) (rest : List Value) : Prop := ∃ parts, G.obj b = some ⟨wL t c parts err rest, 1, false, 1⟩ ∧ ((err = 0 ∧ ∃ a n k, parts = .slice (some a) (n + 1) k) ∨ (err ≠ 0 ∧ parts = nilS))
theorem WorkR.ext {G G' : GS} {b : Nat} {t : TW} {c err : Int} {rest : List Value} (h : WorkR G b t c err rest) (x : Ext G G') (hb : b < G.nx) : WorkR G' b t c err rest := by
  obtain ⟨p, h1, h2⟩ := h
  exact ⟨p, (x.obj b hb).trans h1, h2⟩
def putBad (t : TW) (key job height : Int) : Prop := key = 18446744073709551615 ∨ job < 0 ∨ 65534 < job ∨ height < 1 ∨ t.height < height
instance (t : TW) (key job height : Int) : Decidable (putBad t key job height) := by unfold putBad; exact inferInstance
def putI (t : TW) (c key job height : Int) : Int := if refI t c = 0 then (if putBad t key job height then 3 else 0) else refI t c
def NewR (G : GS) (t : TW) (c err : Int) (rest : List Value) (q : Value × GS) : Prop := ∃ b, q.1 = P0 b ∧ Ext G q.2 ∧ G.nx ≤ b ∧ b < q.2.nx ∧ WorkR q.2 b t c err rest
set_option maxHeartbeats 1000000 in
theorem newput_ok (orc : FuncId → Bool) (t : TW) (c key job height : Int) (G : GS) : Wp ((E orc).cl 107 [t.v, .int .i64 c, .int .u64 key, .int .i64 job, .int .i64 height] G) (NewR G t c (putI t c key job height) [.int .u64 key, .int .i64 job, .int .i64 height, .int .i64 0, .int .u64 0]) := by
  refine Wp.ref (f107 (exL_ok Q orc) _ _ _ _ _ G) ?_
  obtain ⟨G1, hG1⟩ : ∃ G1, G1 = G.push ⟨t.cells, 1, false, 1⟩ := ⟨_, rfl⟩
  have x1 : Ext G G1 := by rw [hG1]; exact (Ext.refl G).push _
  have n1 : G1.nx = G.nx + 1 := by rw [hG1]; rfl
  have o1 : G1.obj G.nx = some ⟨t.cells, 1, false, 1⟩ := by rw [hG1]; simp
  obtain ⟨G2, e2, x2⟩ := begun_ok orc t c G1
  have n2 := x2.nx
  obtain ⟨G3, hG3⟩ : ∃ G3, G3 = G2.push ⟨wL t c nilS (refI t c) [.int .u64 key, .int .i64 job, .int .i64 height, .int .i64 0, .int .u64 0], 1, false, 1⟩ := ⟨_, rfl⟩
  have x3 : Ext G2 G3 := by rw [hG3]; exact (Ext.refl _).push _
  have n3 : G3.nx = G2.nx + 1 := by rw [hG3]; rfl
  have o3 : G3.obj G2.nx = some ⟨wL t c nilS (refI t c) [.int .u64 key, .int .i64 job, .int .i64 height, .int .i64 0, .int .u64 0], 1, false, 1⟩ := by rw [hG3]; simp
  have p3 : G3.obj G.nx = some ⟨t.cells, 1, false, 1⟩ := (x3.obj _ (by omega)).trans ((x2.obj _ (by omega)).trans o1)
  have y3 := (x1.trans x2).trans x3
  unfold putI
  by_cases hr : refI t c = 0
  · rw [if_pos hr]
    rw [hr] at e2 hG3 o3
    by_cases hb : putBad t key job height
    · rw [if_pos hb]
      have d : ¬ G.nx = G2.nx := by omega
      have fin : Wp (s107 true (exL Q orc) t.v (.int .i64 c) (.int .u64 key) (.int .i64 job) (.int .i64 height) G) fun q => q = (P0 G2.nx, G3.put G2.nx ⟨wL t c nilS 3 [.int .u64 key, .int .i64 job, .int .i64 height, .int .i64 0, .int .u64 0], 1, false, 1⟩) := by
        unfold putBad at hb
        by_cases h1 : key = 18446744073709551615
        · subst h1
          simp [jb107_0, j107_0, sb107, s107, clip_t, ← hG1, o1, e2, ← hG3, o3, p3]
        by_cases h2 : job < 0
        · simp [jb107_0, j107_0, sb107, s107, clip_t, ← hG1, o1, e2, ← hG3, o3, p3, h1, h2]
        by_cases h3 : 65534 < job
        · simp [jb107_0, j107_0, sb107, s107, clip_t, ← hG1, o1, e2, ← hG3, o3, p3, h1, h2, h3]
        by_cases h4 : height < 1
        · simp [jb107_0, j107_0, sb107, s107, clip_t, ← hG1, o1, e2, ← hG3, o3, p3, h1, h2, h3, h4]
        · have h5 : t.height < height := by omega
          simp [jb107_0, j107_0, sb107, s107, clip_t, ← hG1, o1, e2, ← hG3, o3, p3, h1, h2, h3, h4, h5]
      refine fin.mono ?_
      rintro q rfl
      exact ⟨_, rfl, y3.put (by omega) _, by omega, by show _ < G3.nx; omega, nilS, by simp, .inr ⟨by decide, rfl⟩⟩
    · rw [if_neg hb]
      unfold putBad at hb
      have h1 : ¬ key = 18446744073709551615 := fun e => hb (.inl e)
      have h2 : ¬ job < 0 := by omega
      have h3 : ¬ 65534 < job := by omega
      have h4 : ¬ height < 1 := by omega
      have h5 : ¬ t.height < height := by omega
      obtain ⟨a4, G4, e4, x4⟩ := pin_ok orc G2.nx G3
      obtain ⟨a5, G5, e5, x5⟩ := alloc_ok orc G2.nx G4
      have n4 := x4.nx
      have n5 := x5.nx
      have o5 := ((x4.trans x5).obj _ (by omega)).trans o3
      have hne : ¬ G2.nx = G5.nx := by omega
      simp [jb107_0, j107_0, sb107, s107, clip_t, ← hG1, o1, e2, ← hG3, o3, p3, h1, h2, h3, h4, h5, e4, e5, fillS, fillC, zipF, rep, hzr, iface_cells, splice_put, splice_end, splice_succ, o5, hne]
      exact ⟨_, rfl, (((y3.trans x4).trans x5).push _).put (by omega) _, by omega, by simp; omega, _, by simp; rfl, .inl ⟨rfl, _, 1, 2, rfl⟩⟩
  · rw [if_neg hr]
    simp [jb107_0, j107_0, sb107, s107, clip_t, ← hG1, o1, e2, ← hG3, o3, p3, hr]
    exact ⟨_, rfl, y3, by omega, by show _ < G3.nx; omega, nilS, o3, .inr ⟨hr, rfl⟩⟩
theorem newtidy_ok (orc : FuncId → Bool) (t : TW) (c : Int) (G : GS) : Wp ((E orc).cl 113 [t.v, .int .i64 c] G) (NewR G t c (refI t c) [.int .i64 0, .int .i64 0]) := by
  refine Wp.ref (f113 (exL_ok Q orc) _ _ G) ?_
  obtain ⟨G1, hG1⟩ : ∃ G1, G1 = G.push ⟨t.cells, 1, false, 1⟩ := ⟨_, rfl⟩
  have x1 : Ext G G1 := by rw [hG1]; exact (Ext.refl G).push _
  have n1 : G1.nx = G.nx + 1 := by rw [hG1]; rfl
  have o1 : G1.obj G.nx = some ⟨t.cells, 1, false, 1⟩ := by rw [hG1]; simp
  obtain ⟨G2, e2, x2⟩ := begun_ok orc t c G1
  have n2 := x2.nx
  obtain ⟨G3, hG3⟩ : ∃ G3, G3 = ((G2.push ⟨wL t c nilS (refI t c) [.int .i64 0, .int .i64 0], 1, false, 1⟩).push ⟨z86, 1, false, 1⟩).put (G2.nx + 1) ⟨[P0 G2.nx], 1, false, 1⟩ := ⟨_, rfl⟩
  have x3 : Ext G2 G3 := by rw [hG3]; exact (((Ext.refl _).push _).push _).put (by omega) _
  have n3 : G3.nx = G2.nx + 2 := by rw [hG3]; rfl
  have o3 : G3.obj G2.nx = some ⟨wL t c nilS (refI t c) [.int .i64 0, .int .i64 0], 1, false, 1⟩ := by rw [hG3]; simp
  have p3 : G3.obj (G2.nx + 1) = some ⟨[P0 G2.nx], 1, false, 1⟩ := by rw [hG3]; simp
  have y3 := (x1.trans x2).trans x3
  by_cases hr : refI t c = 0
  · obtain ⟨a4, G4, e4, x4⟩ := pin_ok orc G2.nx (G3.room 19)
    obtain ⟨a5, G5, e5, x5⟩ := collect_ok orc G2.nx (G2.nx + 1) 224 G4
    obtain ⟨a6, G6, e6, x6⟩ := unpin_ok orc G2.nx G5
    have n4 := x4.nx
    have n5 := x5.nx
    have n6 := x6.nx
    simp at n4
    have z4 := ((Ext.refl G3).room 19).trans x4
    have p4 := (z4.obj _ (by omega)).trans p3
    have p5 := (x5.obj _ (by omega)).trans p4
    have p6 := (x6.obj _ (by omega)).trans p5
    have o6 := ((z4.trans (x5.trans x6)).obj _ (by omega)).trans o3
    have hne : ¬ G2.nx = G2.nx + 1 + 1 + 14 := by omega
    have hne2 : ¬ G2.nx + 1 = G2.nx + 1 + 1 + 14 := by omega
    have hne3 : ¬ G2.nx + 1 = G2.nx := by omega
    rw [hr] at e2 hG3 o3 o6
    simp [s113, clip_t, ← hG1, o1, e2, splice_put, splice_end, ← hG3, o3, p3, e4, p4, e5, p5, e6, p6, fillS, fillC, zipF, rep, hzr, iface_cells, splice_succ, o6, hne, hne2, hne3]
    exact ⟨_, rfl, (Ext.drawn (((y3.trans z4).trans x5).trans x6) (by omega) (by omega) _).put (by omega) _, by omega, by simp; omega, _, by rw [obj_put, if_pos rfl, hr], .inl ⟨hr, _, 2, 3, rfl⟩⟩
  · simp [s113, clip_t, ← hG1, o1, e2, splice_put, splice_end, ← hG3, o3, p3, hr]
    exact ⟨_, rfl, y3, by omega, by show _ < G3.nx; omega, nilS, o3, .inr ⟨hr, rfl⟩⟩
end Go.Proofs.YtdohlgkmaeipjaaGreat.Lift

set_option linter.unusedVariables false
set_option linter.unusedSimpArgs false
set_option maxRecDepth 20000
namespace Go.Proofs.YtdohlgkmaeipjaaGreat.Lift
open Go Go.Proofs.YtdohlgkmaeipjaaGreat.Gh Go.Proofs
abbrev sR : List Value := [.int .u64 0, .int .i64 0, .int .i64 0]
theorem newpick_ok (orc : FuncId → Bool) (t : TW) (c : Int) (G : GS) : Wp ((E orc).cl 109 [t.v, .int .i64 c] G) (NewR G t c (refI t c) sR) := by
  refine Wp.ref (f109 (exL_ok Q orc) _ _ G) ?_
  obtain ⟨G1, hG1⟩ : ∃ G1, G1 = G.push ⟨t.cells, 1, false, 1⟩ := ⟨_, rfl⟩
  have x1 : Ext G G1 := by rw [hG1]; exact (Ext.refl G).push _
  have n1 : G1.nx = G.nx + 1 := by rw [hG1]; rfl
  have o1 : G1.obj G.nx = some ⟨t.cells, 1, false, 1⟩ := by rw [hG1]; simp
  obtain ⟨G2, e2, x2⟩ := begun_ok orc t c G1
  have n2 := x2.nx
  obtain ⟨G3, hG3⟩ : ∃ G3, G3 = ((G2.push ⟨wL t c nilS (refI t c) [.int .u64 0, .int .i64 0, .int .i64 0], 1, false, 1⟩).push ⟨z82, 1, false, 1⟩).put (G2.nx + 1) ⟨[P0 G2.nx], 1, false, 1⟩ := ⟨_, rfl⟩
  have x3 : Ext G2 G3 := by rw [hG3]; exact (((Ext.refl _).push _).push _).put (by omega) _
  have n3 : G3.nx = G2.nx + 2 := by rw [hG3]; rfl
  have o3 : G3.obj G2.nx = some ⟨wL t c nilS (refI t c) [.int .u64 0, .int .i64 0, .int .i64 0], 1, false, 1⟩ := by rw [hG3]; simp
  have p3 : G3.obj (G2.nx + 1) = some ⟨[P0 G2.nx], 1, false, 1⟩ := by rw [hG3]; simp
  have y3 := (x1.trans x2).trans x3
  by_cases hr : refI t c = 0
  · obtain ⟨a4, G4, e4, x4⟩ := pin_ok orc G2.nx (G3.room 19)
    have n4 := x4.nx
    simp at n4
    have z4 := ((Ext.refl G3).room 19).trans x4
    obtain ⟨G5, hG5⟩ : ∃ G5, G5 = ((G4.at' (G2.nx + 1 + 1 + 8)).push ⟨[.func (.func 218) #[] #[P0 G.nx], .func (.func 16) #[] #[], .func (.func 219) #[] #[P0 (G2.nx + 1)], .pointer none, .bool false], 1, false, 1⟩).back G4 := ⟨_, rfl⟩
    have x5 : Ext G3 G5 := by rw [hG5]; exact Ext.drawn z4 (by omega) (by omega) _
    have n5 : G5.nx = G4.nx := by rw [hG5]; simp
    obtain ⟨a6, G6, e6, x6⟩ := unpin_ok orc G2.nx G5
    have n6 := x6.nx
    have p4 := (z4.obj _ (by omega)).trans p3
    have p5 := (x5.obj _ (by omega)).trans p3
    have p6 := (x6.obj _ (by omega)).trans p5
    have o6 := ((x5.trans x6).obj _ (by omega)).trans o3
    have hne : ¬ G2.nx = G2.nx + 1 + 1 + 14 := by omega
    have hne2 : ¬ G2.nx + 1 = G2.nx + 1 + 1 + 14 := by omega
    have hne3 : ¬ G2.nx + 1 = G2.nx := by omega
    have hne4 : ¬ G2.nx = G2.nx + 1 + 1 + 7 := by omega
    rw [hr] at e2 hG3 o3 o6
    simp [s109, clip_t, ← hG1, o1, e2, splice_put, splice_end, ← hG3, o3, p3, e4, p4, ← hG5, p5, e6, p6, fillS, fillC, zipF, rep, hzr, iface_cells, splice_succ, o6, hne, hne2, hne3, hne4]
    exact ⟨_, rfl, (Ext.drawn ((y3.trans x5).trans x6) (by omega) (by omega) _).put (by omega) _, by omega, by simp; omega, _, by rw [obj_put, if_pos rfl, hr], .inl ⟨hr, _, 2, 3, rfl⟩⟩
  · simp [s109, clip_t, ← hG1, o1, e2, splice_put, splice_end, ← hG3, o3, p3, hr]
    exact ⟨_, rfl, y3, by omega, by show _ < G3.nx; omega, nilS, o3, .inr ⟨hr, rfl⟩⟩
theorem newlook_ok (orc : FuncId → Bool) (t : TW) (c : Int) (G : GS) : Wp ((E orc).cl 111 [t.v, .int .i64 c] G) (NewR G t c (refI t c) sR) := by
  refine Wp.ref (f111 (exL_ok Q orc) _ _ G) ?_
  obtain ⟨G1, hG1⟩ : ∃ G1, G1 = G.push ⟨t.cells, 1, false, 1⟩ := ⟨_, rfl⟩
  have x1 : Ext G G1 := by rw [hG1]; exact (Ext.refl G).push _
  have n1 : G1.nx = G.nx + 1 := by rw [hG1]; rfl
  have o1 : G1.obj G.nx = some ⟨t.cells, 1, false, 1⟩ := by rw [hG1]; simp
  obtain ⟨G2, e2, x2⟩ := begun_ok orc t c G1
  have n2 := x2.nx
  obtain ⟨G3, hG3⟩ : ∃ G3, G3 = ((G2.push ⟨wL t c nilS (refI t c) [.int .u64 0, .int .i64 0, .int .i64 0], 1, false, 1⟩).push ⟨z84, 1, false, 1⟩).put (G2.nx + 1) ⟨[P0 G2.nx], 1, false, 1⟩ := ⟨_, rfl⟩
  have x3 : Ext G2 G3 := by rw [hG3]; exact (((Ext.refl _).push _).push _).put (by omega) _
  have n3 : G3.nx = G2.nx + 2 := by rw [hG3]; rfl
  have o3 : G3.obj G2.nx = some ⟨wL t c nilS (refI t c) [.int .u64 0, .int .i64 0, .int .i64 0], 1, false, 1⟩ := by rw [hG3]; simp
  have p3 : G3.obj (G2.nx + 1) = some ⟨[P0 G2.nx], 1, false, 1⟩ := by rw [hG3]; simp
  have y3 := (x1.trans x2).trans x3
  by_cases hr : refI t c = 0
  · obtain ⟨a4, G4, e4, x4⟩ := pin_ok orc G2.nx (G3.room 19)
    have n4 := x4.nx
    simp at n4
    have z4 := ((Ext.refl G3).room 19).trans x4
    obtain ⟨G5, hG5⟩ : ∃ G5, G5 = ((G4.at' (G2.nx + 1 + 1 + 8)).push ⟨[.func (.func 221) #[] #[P0 G.nx], .func (.func 17) #[] #[], .func (.func 222) #[] #[P0 (G2.nx + 1)], .pointer none, .bool false], 1, false, 1⟩).back G4 := ⟨_, rfl⟩
    have x5 : Ext G3 G5 := by rw [hG5]; exact Ext.drawn z4 (by omega) (by omega) _
    have n5 : G5.nx = G4.nx := by rw [hG5]; simp
    obtain ⟨a6, G6, e6, x6⟩ := unpin_ok orc G2.nx G5
    have n6 := x6.nx
    have p4 := (z4.obj _ (by omega)).trans p3
    have p5 := (x5.obj _ (by omega)).trans p3
    have p6 := (x6.obj _ (by omega)).trans p5
    have o6 := ((x5.trans x6).obj _ (by omega)).trans o3
    have hne : ¬ G2.nx = G2.nx + 1 + 1 + 14 := by omega
    have hne2 : ¬ G2.nx + 1 = G2.nx + 1 + 1 + 14 := by omega
    have hne3 : ¬ G2.nx + 1 = G2.nx := by omega
    have hne4 : ¬ G2.nx = G2.nx + 1 + 1 + 7 := by omega
    rw [hr] at e2 hG3 o3 o6
    simp [s111, clip_t, ← hG1, o1, e2, splice_put, splice_end, ← hG3, o3, p3, e4, p4, ← hG5, p5, e6, p6, fillS, fillC, zipF, rep, hzr, iface_cells, splice_succ, o6, hne, hne2, hne3, hne4]
    exact ⟨_, rfl, (Ext.drawn ((y3.trans x5).trans x6) (by omega) (by omega) _).put (by omega) _, by omega, by simp; omega, _, by rw [obj_put, if_pos rfl, hr], .inl ⟨hr, _, 2, 3, rfl⟩⟩
  · simp [s111, clip_t, ← hG1, o1, e2, splice_put, splice_end, ← hG3, o3, p3, hr]
    exact ⟨_, rfl, y3, by omega, by show _ < G3.nx; omega, nilS, o3, .inr ⟨hr, rfl⟩⟩
/-! what is told -/
section
variable {G : GS} {b : Nat} {t : TW} {c err : Int} {rest : List Value}
def toldI (err : Int) : Int := if err = 0 then 14 else err
theorem told_ok (orc : FuncId → Bool) (h : WorkR G b t c err rest) : (E orc).cl 226 [P0 b] G = some (.int .i64 (toldI err), G) := by
  obtain ⟨parts, ho, hp⟩ := h
  refine f226 (exL_ok Q orc) _ G _ ?_
  unfold toldI
  rcases hp with ⟨rfl, a, n, k, rfl⟩ | ⟨h1, rfl⟩
  · have : (0 : Int) < (n : Int) + 1 := by omega
    simp [s226, ho, this]
  · simp [s226, ho, h1]
theorem puterr_ok (orc : FuncId → Bool) (h : WorkR G b t c err rest) : (E orc).cl 115 [P0 b] G = some (.int .i64 (toldI err), G) := by
  have e := told_ok orc h
  refine f115 (exL_ok Q orc) _ G _ ?_
  simp [s115, e]
theorem putby_ok (orc : FuncId → Bool) (h : WorkR G b t c err rest) : (E orc).cl 117 [P0 b] G = some (.int .u64 0, G) := by
  obtain ⟨parts, ho, hp⟩ := h
  refine f117 (exL_ok Q orc) _ G _ ?_
  simp [s117, ho]
theorem pickby_ok (orc : FuncId → Bool) (h : WorkR G b t c err rest) : (E orc).cl 121 [P0 b] G = some (.int .u64 0, G) := by
  obtain ⟨parts, ho, hp⟩ := h
  refine f121 (exL_ok Q orc) _ G _ ?_
  simp [s121, ho]
theorem lookby_ok (orc : FuncId → Bool) (h : WorkR G b t c err rest) : (E orc).cl 124 [P0 b] G = some (.int .u64 0, G) := by
  obtain ⟨parts, ho, hp⟩ := h
  refine f124 (exL_ok Q orc) _ G _ ?_
  simp [s124, ho]
theorem toldI_ne {e : Int} : ¬ toldI e = 0 := by unfold toldI; split <;> omega
theorem tidymany_ok (orc : FuncId → Bool) (h : WorkR G b t c err rest) : (E orc).cl 125 [P0 b] G = some (.tuple #[.int .i64 0, .int .i64 (toldI err)], G) := by
  have e := told_ok orc h
  refine f125 (exL_ok Q orc) _ G _ ?_
  simp [s125, e, toldI_ne]
abbrev zI : Value := .agg ⟨[.int .u64 0, .int .i64 0]⟩
theorem seen_ok (orc : FuncId → Bool) (v : Value) (hv : v = .agg ⟨sR⟩) (h : WorkR G b t c err rest) (hb : b < G.nx) : ∃ G', (E orc).cl 227 [v, P0 b] G = some (.tuple #[zI, .int .i64 (toldI err)], G') ∧ Ext G G' := by
  subst hv
  have x0 : Ext G ((G.push ⟨sR, 1, false, 1⟩).push ⟨z44, 1, false, 1⟩) := ((Ext.refl G).push _).push _
  have e := told_ok orc (h.ext x0 hb)
  have w : Wp (s227 true (exL Q orc) (.agg ⟨sR⟩) (P0 b) G) fun q => q.1 = .tuple #[zI, .int .i64 (toldI err)] ∧ Ext G q.2 := by
    simp [s227, e, toldI_ne, splice_put, splice_end]
    exact x0.put (by omega) _
  obtain ⟨⟨v, G'⟩, e1, rfl, h⟩ := w
  exact ⟨G', f227 (exL_ok Q orc) _ _ G _ e1, h⟩
theorem pickitem_ok (orc : FuncId → Bool) (h : WorkR G b t c err sR) (hb : b < G.nx) : ∃ G', (E orc).cl 119 [P0 b] G = some (.tuple #[zI, .int .i64 (toldI err)], G') ∧ Ext G G' := by
  have hne : ¬ b = G.nx := by omega
  obtain ⟨G1, hG1⟩ : ∃ G1, G1 = (G.push ⟨z44, 1, false, 1⟩).room 12 := ⟨_, rfl⟩
  have x1 : Ext G G1 := by rw [hG1]; exact ((Ext.refl G).push _).room _
  have n1 : G1.nx = G.nx + 1 + 12 := by rw [hG1]; rfl
  have o1 : G1.obj G.nx = some ⟨z44, 1, false, 1⟩ := by rw [hG1]; simp
  obtain ⟨G2, e2, x2⟩ := seen_ok orc (.agg ⟨sR⟩) rfl (h.ext x1 hb) (by omega)
  have o2 := (x2.obj _ (by omega)).trans o1
  obtain ⟨parts, ho, hp⟩ := h
  have h1o := (x1.obj b hb).trans ho
  have w : Wp (s119 true (exL Q orc) (P0 b) G) fun q => q.1 = .tuple #[zI, .int .i64 (toldI err)] ∧ Ext G q.2 := by
    simp [s119, ho, hne, ← hG1, h1o, e2, o2, splice_put, splice_end]
    exact (x1.trans x2).put (Nat.le_refl _) _
  obtain ⟨⟨v, G'⟩, e1, rfl, h⟩ := w
  exact ⟨G', f119 (exL_ok Q orc) _ G _ e1, h⟩
theorem lookitem_ok (orc : FuncId → Bool) (h : WorkR G b t c err sR) (hb : b < G.nx) : ∃ G', (E orc).cl 122 [P0 b] G = some (.tuple #[zI, .int .i64 (toldI err)], G') ∧ Ext G G' := by
  have hne : ¬ b = G.nx := by omega
  obtain ⟨G1, hG1⟩ : ∃ G1, G1 = (G.push ⟨z44, 1, false, 1⟩).room 12 := ⟨_, rfl⟩
  have x1 : Ext G G1 := by rw [hG1]; exact ((Ext.refl G).push _).room _
  have n1 : G1.nx = G.nx + 1 + 12 := by rw [hG1]; rfl
  have o1 : G1.obj G.nx = some ⟨z44, 1, false, 1⟩ := by rw [hG1]; simp
  obtain ⟨G2, e2, x2⟩ := seen_ok orc (.agg ⟨sR⟩) rfl (h.ext x1 hb) (by omega)
  have o2 := (x2.obj _ (by omega)).trans o1
  obtain ⟨parts, ho, hp⟩ := h
  have h1o := (x1.obj b hb).trans ho
  have w : Wp (s122 true (exL Q orc) (P0 b) G) fun q => q.1 = .tuple #[zI, .int .i64 (toldI err)] ∧ Ext G q.2 := by
    simp [s122, ho, hne, ← hG1, h1o, e2, o2, splice_put, splice_end]
    exact (x1.trans x2).put (Nat.le_refl _) _
  obtain ⟨⟨v, G'⟩, e1, rfl, h⟩ := w
  exact ⟨G', f122 (exL_ok Q orc) _ G _ e1, h⟩
end
end Go.Proofs.YtdohlgkmaeipjaaGreat.Lift

