/- contracts of the program's functions -/
import Derived.Test.YtdohlgkmaeipjaaGreatCA
import Derived.Test.YtdohlgkmaeipjaaGreatGhPR
import Derived.Test.YtdohlgkmaeipjaaGreatGhPC
import Derived.Test.YtdohlgkmaeipjaaGreatGhPD
import Derived.Test.YtdohlgkmaeipjaaGreatGhLS
import Derived.Test.YtdohlgkmaeipjaaGreatGhEQ
set_option linter.unusedVariables false
set_option linter.unusedSimpArgs false
set_option maxRecDepth 20000
namespace Go.Proofs.YtdohlgkmaeipjaaGreat.Lift
open Go Go.Proofs.YtdohlgkmaeipjaaGreat.Gh Go.Proofs
theorem w0 : IntKind.wrap .i64 0 = 0 := by decide
theorem w4 : IntKind.wrap .i64 4 = 4 := by decide
/-! ### Towers -/
structure TW where
  nodes : Int
  heads : Int
  height : Int
  top : Int
  links : Int
  size : Int
  u6 : Int
  u7 : Int
  u8 : Int
  u9 : Int
  u10 : Int
  u11 : Int
  u12 : Int
abbrev TW.cells (t : TW) : List Value := [.int .i64 t.nodes, .int .i64 t.heads, .int .i64 t.height, .int .i64 t.top, .int .i64 t.links, .int .i64 t.size, .int .i64 t.u6, .int .i64 t.u7, .int .i64 t.u8, .int .i64 t.u9, .int .i64 t.u10, .int .i64 t.u11, .int .i64 t.u12]
abbrev TW.v (t : TW) : Value := .agg ⟨t.cells⟩
def TW.sound (t : TW) : Prop := 1 ≤ t.height ∧ t.height ≤ 4 ∧ 1 ≤ t.size ∧ t.size ≤ 128 ∧ 0 ≤ t.nodes ∧ t.nodes < 4096 ∧ 0 ≤ t.heads ∧ t.heads < 4096
instance (t : TW) : Decidable t.sound := by unfold TW.sound; exact inferInstance
theorem box_ext {G G' : GS} {cs : List Value} (h : Ext (G.push ⟨cs, 1, false, 1⟩) G') : G'.obj G.nx = some ⟨cs, 1, false, 1⟩ := (h.obj G.nx (by simp)).trans (by simp)
theorem sound_ok (orc : FuncId → Bool) (t : TW) (G : GS) : ∃ G', (E orc).cl 102 [t.v] G = some (.bool (decide t.sound), G') ∧ Ext G G' := by
  refine ⟨G.push ⟨t.cells, 1, false, 1⟩, f102 (exL_ok Q orc) _ G _ ?_, (Ext.refl G).push _⟩
  unfold TW.sound
  by_cases h1 : 1 ≤ t.height
  · by_cases h2 : t.height ≤ 4
    · by_cases h3 : 1 ≤ t.size
      · by_cases h4 : t.size ≤ 128
        · by_cases h5 : 0 ≤ t.nodes
          · by_cases h6 : t.nodes < 4096
            · by_cases h7 : 0 ≤ t.heads
              · by_cases h8 : t.heads < 4096 <;> simp [s102, h1, h2, h3, h4, h5, h6, h7, h8]
              · simp [s102, h1, h2, h3, h4, h5, h6, h7]
            · simp [s102, h1, h2, h3, h4, h5, h6]
          · simp [s102, h1, h2, h3, h4, h5]
        · simp [s102, h1, h2, h3, h4]
      · simp [s102, h1, h2, h3]
    · simp [s102, h1, h2]
  · simp [s102, h1]
theorem rsound_ok (orc : FuncId → Bool) (t : TW) (G : GS) : ∃ G', (E orc).cl 18 [t.v] G = some (.bool (decide t.sound), G') ∧ Ext G G' := by
  refine ⟨G.push ⟨t.cells, 1, false, 1⟩, f18 (exL_ok Q orc) _ G _ ?_, (Ext.refl G).push _⟩
  unfold TW.sound
  by_cases h1 : 1 ≤ t.height
  · by_cases h2 : t.height ≤ 4
    · by_cases h3 : 1 ≤ t.size
      · by_cases h4 : t.size ≤ 128
        · by_cases h5 : 0 ≤ t.nodes
          · by_cases h6 : t.nodes < 4096
            · by_cases h7 : 0 ≤ t.heads
              · by_cases h8 : t.heads < 4096 <;> simp [s18, h1, h2, h3, h4, h5, h6, h7, h8]
              · simp [s18, h1, h2, h3, h4, h5, h6, h7]
            · simp [s18, h1, h2, h3, h4, h5, h6]
          · simp [s18, h1, h2, h3, h4, h5]
        · simp [s18, h1, h2, h3, h4]
      · simp [s18, h1, h2, h3]
    · simp [s18, h1, h2]
  · simp [s18, h1]
theorem inv_head (orc : FuncId → Bool) (h : Int) (G : GS) : cInvoke Q (evL Q orc) (.iface 190 (.int .i64 h)) "coxswain/tower.cells" [] G = some (.int .i64 h, G) := by
  have e : cInvoke Q (evL Q orc) (.iface 190 (.int .i64 h)) "coxswain/tower.cells" [] G = (E orc).cl 521 [.int .i64 h] G := by kernel_rfl
  rw [e]
  exact f521 (exL_ok Q orc) _ G _ (by simp [s521])
theorem heads_ok (orc : FuncId → Bool) (t : TW) (G : GS) : ∃ G', (E orc).cl 105 [t.v] G = some (.agg ⟨[.int .i64 t.heads, .int .i64 1, .int .i64 t.height]⟩, G') ∧ Ext G G' := by
  refine ⟨((G.push ⟨t.cells, 1, false, 1⟩).push ⟨[.int .i64 0, .int .i64 0, .int .i64 0], 1, false, 1⟩).put (G.nx + 1) ⟨[.int .i64 t.heads, .int .i64 1, .int .i64 t.height], 1, false, 1⟩, f105 (exL_ok Q orc) _ G _ ?_, (((Ext.refl G).push _).push _).put (by omega) _⟩
  simp [s105, splice_put, splice_end]
theorem hat_ok (orc : FuncId → Bool) {a n : Int} (ha : 0 ≤ a ∧ a < 4096) (hn : 1 ≤ n ∧ n ≤ 4) (G : GS) : ∃ G', (E orc).cl 274 [.agg ⟨[.int .i64 a, .int .i64 1, .int .i64 n]⟩, .int .i64 0, .int .i64 0] G = some (.int .i64 a, G') ∧ Ext G G' := by
  have h1 : ¬ n ≤ 0 := by omega
  have h2 : IntKind.wrap .i64 a = a := wrap64 (by omega) (by omega)
  have w : Wp (s274 true (exL Q orc) (.agg ⟨[.int .i64 a, .int .i64 1, .int .i64 n]⟩) (.int .i64 0) (.int .i64 0) G) fun r => r.1 = .int .i64 a ∧ Ext G r.2 := by
    simp [s274, inv_head orc, h1, h2, w0]
    exact ((Ext.refl G).push _).room 12
  obtain ⟨⟨v, G'⟩, e1, rfl, e3⟩ := w
  exact ⟨G', f274 (exL_ok Q orc) _ _ _ G _ e1, e3⟩
theorem at0_ok (orc : FuncId → Bool) (t : TW) (G : GS) : ∃ G', (E orc).cl 191 [t.v, .int .i64 (-1), .int .i64 4] G = some (.int .i64 (if t.sound then t.heads else -1), G') ∧ Ext G G' := by
  obtain ⟨G1, hG1⟩ : ∃ G1, G1 = G.push ⟨t.cells, 1, false, 1⟩ := ⟨_, rfl⟩
  have x1 : Ext G G1 := by rw [hG1]; exact (Ext.refl G).push _
  have n1 : G1.nx = G.nx + 1 := by rw [hG1]; rfl
  have o1 : G1.obj G.nx = some ⟨t.cells, 1, false, 1⟩ := by rw [hG1]; simp
  obtain ⟨G2, e2, x2⟩ := sound_ok orc t G1
  have o2 := (x2.obj G.nx (by omega)).trans o1
  by_cases hs : t.sound
  · simp only [hs, decide_true] at e2
    obtain ⟨G3, e3, x3⟩ := heads_ok orc t G2
    obtain ⟨G4, e4, x4⟩ := hat_ok orc (a := t.heads) (n := t.height) ⟨hs.2.2.2.2.2.2.1, hs.2.2.2.2.2.2.2⟩ ⟨hs.1, hs.2.1⟩ G3
    have h1 := hs.1
    have h2 := hs.2.1
    have hw : IntKind.wrap .i64 (4 + t.height) = 4 + t.height := wrap64 (by omega) (by omega)
    have h3 : ¬ 4 + t.height ≤ 4 := by omega
    refine ⟨G4, f191 (exL_ok Q orc) _ _ _ G _ ?_, ((x1.trans x2).trans x3).trans x4⟩
    simp [s191, ← hG1, o1, e2, o2, hw, h3, e3, e4, hs, w0]
  · simp only [hs, decide_false] at e2
    refine ⟨G2, f191 (exL_ok Q orc) _ _ _ G _ ?_, x1.trans x2⟩
    simp [s191, ← hG1, o1, e2, hs]
theorem next0_ok (orc : FuncId → Bool) (t : TW) (G : GS) : ∃ G', (E orc).cl 69 [t.v, .int .i64 (-1), .int .i64 0] G = some (.int .i64 (if t.sound then t.heads else -1), G') ∧ Ext G G' := by
  obtain ⟨G1, hG1⟩ : ∃ G1, G1 = G.push ⟨t.cells, 1, false, 1⟩ := ⟨_, rfl⟩
  have x1 : Ext G G1 := by rw [hG1]; exact (Ext.refl G).push _
  have o1 : G1.obj G.nx = some ⟨t.cells, 1, false, 1⟩ := by rw [hG1]; simp
  obtain ⟨G2, e2, x2⟩ := at0_ok orc t G1
  refine ⟨G2, f69 (exL_ok Q orc) _ _ _ G _ ?_, x1.trans x2⟩
  simp [s69, ← hG1, o1, e2, w4]
end Go.Proofs.YtdohlgkmaeipjaaGreat.Lift

set_option linter.unusedVariables false
set_option linter.unusedSimpArgs false
set_option maxRecDepth 20000
namespace Go.Proofs.YtdohlgkmaeipjaaGreat.Lift
open Go Go.Proofs.YtdohlgkmaeipjaaGreat.Gh Go.Proofs
/-! ### A Claim and a Peek on no memory -/
theorem load_nil (orc : FuncId → Bool) (a : Int) (G : GS) : ∃ G', (E orc).cl 177 [.pointer none, .int .i64 a] G = some (.int .u64 0, G') ∧ Ext G G' := by
  have h1 : ∀ G, (E orc).cl 158 [.pointer none, .int .i64 a] G = some (.pointer none, G) := fun G => by
    refine f158 (exL_ok Q orc) _ _ G _ ?_
    simp [s158]
  have h2 : ∀ (G : GS) (p f : Value), (E orc).cl 159 [.pointer none, .int .i64 1, .int .i64 a, p, f] G = some (.agg #[.int .i64 0, .int .i64 0, .int .u64 0, .int .u64 0, .bool false], (G.push ⟨z68, 1, false, 1⟩).put G.nx ⟨z68, 1, false, 1⟩) := fun G p f => by
    refine f159 (exL_ok Q orc) _ _ _ _ _ G _ ?_
    simp [s159, sb159]
  have w : Wp ((E orc).cl 177 [.pointer none, .int .i64 a] G) fun q => q.1 = .int .u64 0 ∧ Ext G q.2 := by
    refine Wp.ref (f177 (exL_ok Q orc) _ _ G) ?_
    simp [s177, h1, h2]
    exact (((Ext.refl G).push _).put (Nat.le_refl _) _ |>.push _).put (by simp) _
  obtain ⟨⟨v, G'⟩, e, rfl, x⟩ := w
  exact ⟨G', e, x⟩
theorem tops_ok (orc : FuncId → Bool) (ht : orc 271 = false) (G : GS) : ∃ G', (E orc).cl 271 [] G = some (.agg ⟨[.int .i64 0, .int .i64 16, .int .i64 16, .int .i64 48]⟩, G') ∧ Ext G G' := by
  refine ⟨(G.push ⟨[.int .i64 0, .int .i64 0, .int .i64 0, .int .i64 0], 1, false, 1⟩).put G.nx ⟨[.int .i64 0, .int .i64 16, .int .i64 16, .int .i64 48], 1, false, 1⟩, f271 (exL_ok Q orc) ht G _ ?_, ((Ext.refl G).push _).put (Nat.le_refl _) _⟩
  simp [s271, splice_put, splice_end]
theorem take_a (orc : FuncId → Bool) (G : GS) : ∃ G', (E orc).cl 272 [.int .u64 0, .agg ⟨[.int .i64 0, .int .i64 16]⟩] G = some (.int .i64 0, G') ∧ Ext G G' := by
  refine ⟨(G.push ⟨[.int .i64 0, .int .i64 16], 1, false, 1⟩).room 11, f272 (exL_ok Q orc) _ _ G _ ?_, ((Ext.refl G).push _).room 11⟩
  simp [s272]
  kernel_rfl
theorem take_b (orc : FuncId → Bool) (G : GS) : ∃ G', (E orc).cl 272 [.int .u64 0, .agg ⟨[.int .i64 16, .int .i64 48]⟩] G = some (.int .i64 0, G') ∧ Ext G G' := by
  refine ⟨(G.push ⟨[.int .i64 16, .int .i64 48], 1, false, 1⟩).room 11, f272 (exL_ok Q orc) _ _ G _ ?_, ((Ext.refl G).push _).room 11⟩
  simp [s272]
  kernel_rfl
theorem gettop0_ok (orc : FuncId → Bool) (ht : orc 271 = false) (G : GS) : ∃ G', (E orc).cl 189 [.int .u64 0] G = some (.tuple #[.agg ⟨[.int .i64 (-1), .int .i64 0]⟩, .int .i64 0], G') ∧ Ext G G' := by
  obtain ⟨G1, hG1⟩ : ∃ G1, G1 = G.push ⟨[.int .i64 0, .int .i64 0], 1, false, 1⟩ := ⟨_, rfl⟩
  have x1 : Ext G G1 := by rw [hG1]; exact (Ext.refl G).push _
  have n1 : G1.nx = G.nx + 1 := by rw [hG1]; rfl
  have o1 : G1.obj G.nx = some ⟨[.int .i64 0, .int .i64 0], 1, false, 1⟩ := by rw [hG1]; simp
  obtain ⟨G2, e2, x2⟩ := tops_ok orc ht G1
  have o2 := (x2.obj G.nx (by omega)).trans o1
  obtain ⟨G3, hG3⟩ : ∃ G3, G3 = ((G2.push ⟨[.int .i64 0, .int .i64 0, .int .i64 0, .int .i64 0], 1, false, 1⟩).put G2.nx ⟨[.int .i64 0, .int .i64 16, .int .i64 16, .int .i64 48], 1, false, 1⟩).room 12 := ⟨_, rfl⟩
  have n2 := x2.nx
  have x3 : Ext G2 G3 := by rw [hG3]; exact (((Ext.refl G2).push _).put (Nat.le_refl _) _).room 12
  have o3 := (x3.obj G.nx (by omega)).trans o2
  have p3 : G3.obj G2.nx = some ⟨[.int .i64 0, .int .i64 16, .int .i64 16, .int .i64 48], 1, false, 1⟩ := by rw [hG3]; simp
  have n3 : G2.nx < G3.nx := by rw [hG3]; simp; omega
  obtain ⟨G4, e4, x4⟩ := take_a orc G3
  have o4 := (x4.obj G.nx (by omega)).trans o3
  have p4 := (x4.obj G2.nx n3).trans p3
  obtain ⟨G5, e5, x5⟩ := take_b orc G4
  have o5 := (x5.obj G.nx (by have := x4.nx; omega)).trans o4
  have hm : IntKind.wrap .i64 (0 - 1) = -1 := by decide
  have hm' : IntKind.wrap .i64 (-1) = -1 := by decide
  have w : Wp (s189 true (exL Q orc) (.int .u64 0) G) fun r => r.1 = .tuple #[.agg ⟨[.int .i64 (-1), .int .i64 0]⟩, .int .i64 0] ∧ Ext G r.2 := by
    simp [s189, ← hG1, e2, splice_put, splice_end, ← hG3, p3, e4, p4, e5, o5, hm, hm']
    exact ((((x1.trans x2).trans x3).trans x4).trans x5).put (Nat.le_refl _) _
  obtain ⟨⟨v, G'⟩, e1, rfl, e3⟩ := w
  exact ⟨G', f189 (exL_ok Q orc) _ G _ e1, e3⟩
end Go.Proofs.YtdohlgkmaeipjaaGreat.Lift

set_option linter.unusedVariables false
set_option linter.unusedSimpArgs false
set_option maxRecDepth 20000
namespace Go.Proofs.YtdohlgkmaeipjaaGreat.Lift
open Go Go.Proofs.YtdohlgkmaeipjaaGreat.Gh Go.Proofs
/-! ### How a Claim and a Peek lie in cells -/
def clC (t : TW) (line i : Int) (made : Bool) (err : Int) : List Value := [.int .i64 t.nodes, .int .i64 t.heads, .int .i64 t.height, .int .i64 t.top, .int .i64 t.links, .int .i64 t.size, .int .i64 t.u6, .int .i64 t.u7, .int .i64 t.u8, .int .i64 t.u9, .int .i64 t.u10, .int .i64 t.u11, .int .i64 t.u12, .int .i64 0, .bool false, .pointer none, .pointer none, .int .i64 line, .int .u64 0, .int .i64 i, .int .u64 0, .int .u64 0, .int .i64 0, .int .u64 0, .bool made, .int .i64 err]
def pkC (t : TW) (line i : Int) (made : Bool) (err : Int) : List Value := [.int .i64 t.nodes, .int .i64 t.heads, .int .i64 t.height, .int .i64 t.top, .int .i64 t.links, .int .i64 t.size, .int .i64 t.u6, .int .i64 t.u7, .int .i64 t.u8, .int .i64 t.u9, .int .i64 t.u10, .int .i64 t.u11, .int .i64 t.u12, .int .i64 line, .int .u64 0, .int .i64 i, .int .u64 0, .int .u64 0, .int .i64 0, .int .u64 0, .bool made, .int .i64 err]
def zT : TW := ⟨0, 0, 0, 0, 0, 0, 0, 0, 0, 0, 0, 0, 0⟩
def newC (t : TW) : List Value := if t.sound then clC t 1 0 true 0 else clC zT 99 0 true 2
def newP (t : TW) : List Value := if t.sound then pkC t 1 0 true 0 else pkC zT 99 0 true 2
section
variable {t : TW} {G : GS} {b : Nat}
set_option maxHeartbeats 1000000 in
theorem seekc_ok (orc : FuncId → Bool) (t : TW) (G : GS) : ∃ G', (E orc).cl 78 [t.v] G = some (.agg ⟨newC t⟩, G') ∧ Ext G G' := by
  obtain ⟨G1, hG1⟩ : ∃ G1, G1 = (G.push ⟨t.cells, 1, false, 1⟩).push ⟨z46, 1, false, 1⟩ := ⟨_, rfl⟩
  have x1 : Ext G G1 := by rw [hG1]; exact ((Ext.refl G).push _).push _
  have n1 : G1.nx = G.nx + 2 := by rw [hG1]; rfl
  have o1 : G1.obj G.nx = some ⟨t.cells, 1, false, 1⟩ := by rw [hG1]; simp
  have p1 : G1.obj (G.nx + 1) = some ⟨z46, 1, false, 1⟩ := by rw [hG1]; simp
  obtain ⟨G2, e2, x2⟩ := next0_ok orc t G1
  have o2 := (x2.obj G.nx (by omega)).trans o1
  have p2 := (x2.obj (G.nx + 1) (by omega)).trans p1
  have hz : z46 = clC zT 0 0 false 0 := rfl
  unfold newC
  have w : Wp (s78 true (exL Q orc) t.v G) fun r => r.1 = .agg ⟨newC t⟩ ∧ Ext G r.2 := by
    unfold newC
    by_cases hs : t.sound
    · simp only [hs, if_true] at e2
      have h1 : ¬ t.heads < 0 := by have := hs.2.2.2.2.2.2.1; omega
      rw [if_pos hs]
      simp [s78, ← hG1, o1, e2, h1, o2, p2, splice_put, splice_end, splice_succ]
      simp [clC]
      exact (x1.trans x2).put (by omega) _
    · simp only [hs, if_false] at e2
      rw [if_neg hs]
      simp [s78, ← hG1, o1, e2, o2, p2, splice_put, splice_end, splice_succ]
      simp [clC, zT]
      exact (x1.trans x2).put (by omega) _
  obtain ⟨⟨v, G'⟩, e1, rfl, e3⟩ := w
  exact ⟨G', f78 (exL_ok Q orc) _ G _ e1, e3⟩
set_option maxHeartbeats 1000000 in
theorem seekp_ok (orc : FuncId → Bool) (t : TW) (G : GS) : ∃ G', (E orc).cl 79 [t.v] G = some (.agg ⟨newP t⟩, G') ∧ Ext G G' := by
  obtain ⟨G1, hG1⟩ : ∃ G1, G1 = (G.push ⟨t.cells, 1, false, 1⟩).push ⟨z53, 1, false, 1⟩ := ⟨_, rfl⟩
  have x1 : Ext G G1 := by rw [hG1]; exact ((Ext.refl G).push _).push _
  have n1 : G1.nx = G.nx + 2 := by rw [hG1]; rfl
  have o1 : G1.obj G.nx = some ⟨t.cells, 1, false, 1⟩ := by rw [hG1]; simp
  have p1 : G1.obj (G.nx + 1) = some ⟨z53, 1, false, 1⟩ := by rw [hG1]; simp
  obtain ⟨G2, e2, x2⟩ := next0_ok orc t G1
  have o2 := (x2.obj G.nx (by omega)).trans o1
  have p2 := (x2.obj (G.nx + 1) (by omega)).trans p1
  have w : Wp (s79 true (exL Q orc) t.v G) fun r => r.1 = .agg ⟨newP t⟩ ∧ Ext G r.2 := by
    unfold newP
    by_cases hs : t.sound
    · simp only [hs, if_true] at e2
      have h1 : ¬ t.heads < 0 := by have := hs.2.2.2.2.2.2.1; omega
      rw [if_pos hs]
      simp [s79, ← hG1, o1, e2, h1, o2, p2, splice_put, splice_end, splice_succ]
      simp [pkC]
      exact (x1.trans x2).put (by omega) _
    · simp only [hs, if_false] at e2
      rw [if_neg hs]
      simp [s79, ← hG1, o1, e2, o2, p2, splice_put, splice_end, splice_succ]
      simp [pkC, zT]
      exact (x1.trans x2).put (by omega) _
  obtain ⟨⟨v, G'⟩, e1, rfl, e3⟩ := w
  exact ⟨G', f79 (exL_ok Q orc) _ G _ e1, e3⟩
end
end Go.Proofs.YtdohlgkmaeipjaaGreat.Lift

set_option linter.unusedVariables false
set_option linter.unusedSimpArgs false
set_option maxRecDepth 20000
namespace Go.Proofs.YtdohlgkmaeipjaaGreat.Lift
open Go Go.Proofs.YtdohlgkmaeipjaaGreat.Gh Go.Proofs
section
variable {t : TW} {G : GS} {b : Nat}
theorem len_newC (t : TW) : (newC t).length = 26 ∧ (newC t).all one = true := by unfold newC; split <;> exact ⟨rfl, rfl⟩
theorem len_newP (t : TW) : (newP t).length = 22 ∧ (newP t).all one = true := by unfold newP; split <;> exact ⟨rfl, rfl⟩
theorem newclaim_ok (orc : FuncId → Bool) (t : TW) (G : GS) : ∃ b G', (E orc).cl 19 [t.v] G = some (P0 b, G') ∧ Ext G G' ∧ G'.obj b = some ⟨newC t, 1, false, 1⟩ ∧ G.nx ≤ b ∧ b < G'.nx := by
  obtain ⟨G1, hG1⟩ : ∃ G1, G1 = G.push ⟨t.cells, 1, false, 1⟩ := ⟨_, rfl⟩
  have x1 : Ext G G1 := by rw [hG1]; exact (Ext.refl G).push _
  have o1 : G1.obj G.nx = some ⟨t.cells, 1, false, 1⟩ := by rw [hG1]; simp
  obtain ⟨G2, e2, x2⟩ := seekc_ok orc t G1
  have y2 := x1.trans x2
  have w : Wp (s19 true (exL Q orc) t.v G) fun r => r = (P0 G2.nx, G2.push ⟨newC t, 1, false, 1⟩) := by
    unfold newC at e2 ⊢
    by_cases hs : t.sound
    · rw [if_pos hs] at e2 ⊢
      unfold clC at e2 ⊢
      simp [s19, ← hG1, o1, e2]
    · rw [if_neg hs] at e2 ⊢
      unfold clC at e2 ⊢
      simp [s19, ← hG1, o1, e2]
  obtain ⟨r, e3, rfl⟩ := w
  exact ⟨_, _, f19 (exL_ok Q orc) _ G _ e3, y2.push _, by simp, y2.nx, by simp⟩
theorem newpeek_ok (orc : FuncId → Bool) (t : TW) (G : GS) : ∃ b G', (E orc).cl 20 [t.v] G = some (P0 b, G') ∧ Ext G G' ∧ G'.obj b = some ⟨newP t, 1, false, 1⟩ ∧ G.nx ≤ b ∧ b < G'.nx := by
  obtain ⟨G1, hG1⟩ : ∃ G1, G1 = G.push ⟨t.cells, 1, false, 1⟩ := ⟨_, rfl⟩
  have x1 : Ext G G1 := by rw [hG1]; exact (Ext.refl G).push _
  have o1 : G1.obj G.nx = some ⟨t.cells, 1, false, 1⟩ := by rw [hG1]; simp
  obtain ⟨G2, e2, x2⟩ := seekp_ok orc t G1
  have y2 := x1.trans x2
  have w : Wp (s20 true (exL Q orc) t.v G) fun r => r = (P0 G2.nx, G2.push ⟨newP t, 1, false, 1⟩) := by
    unfold newP at e2 ⊢
    by_cases hs : t.sound
    · rw [if_pos hs] at e2 ⊢
      unfold pkC at e2 ⊢
      simp [s20, ← hG1, o1, e2]
    · rw [if_neg hs] at e2 ⊢
      unfold pkC at e2 ⊢
      simp [s20, ← hG1, o1, e2]
  obtain ⟨r, e3, rfl⟩ := w
  exact ⟨_, _, f20 (exL_ok Q orc) _ G _ e3, y2.push _, by simp, y2.nx, by simp⟩
/-! whether it is done, what it came to -/
theorem cdone_ok (orc : FuncId → Bool) {line i err : Int} {made : Bool} (h : G.obj b = some ⟨clC t line i made err, 1, false, 1⟩) : (E orc).cl 63 [P0 b] G = some (.bool (!made || decide (line = 99)), G) := by
  refine f63 (exL_ok Q orc) _ G _ ?_
  unfold clC at h
  cases made <;> simp [s63, h]
theorem pdone_ok (orc : FuncId → Bool) {line i err : Int} {made : Bool} (h : G.obj b = some ⟨pkC t line i made err, 1, false, 1⟩) : (E orc).cl 74 [P0 b] G = some (.bool (!made || decide (line = 99)), G) := by
  refine f74 (exL_ok Q orc) _ G _ ?_
  unfold pkC at h
  cases made <;> simp [s74, h]
def itE (made : Bool) (err : Int) : Int := if made then err else 1
theorem citem_ok (orc : FuncId → Bool) {line i err : Int} {made : Bool} (h : G.obj b = some ⟨clC t line i made err, 1, false, 1⟩) (hl : made = true → line = 99) (he : made = true → err ≠ 0) (hb : b < G.nx) : ∃ G', (E orc).cl 61 [P0 b] G = some (.tuple #[.agg ⟨[.int .u64 0, .int .i64 0]⟩, .int .i64 (itE made err)], G') ∧ Ext G G' := by
  unfold clC at h
  have hne : ¬ b = G.nx := by omega
  have w : Wp (s61 true (exL Q orc) (P0 b) G) fun r => r.1 = .tuple #[.agg ⟨[.int .u64 0, .int .i64 0]⟩, .int .i64 (itE made err)] ∧ Ext G r.2 := by
    cases made with
    | false =>
      simp [s61, h, hne, itE, splice_put, splice_end]
      exact ((Ext.refl G).push _).put (Nat.le_refl _) _
    | true =>
      simp [s61, h, hne, itE, splice_put, splice_end, he rfl, hl rfl]
      exact (((Ext.refl G).push _).room _).put (Nat.le_refl _) _
  obtain ⟨⟨v, G'⟩, e1, rfl, e3⟩ := w
  exact ⟨G', f61 (exL_ok Q orc) _ G _ e1, e3⟩
theorem pitem_ok (orc : FuncId → Bool) {line i err : Int} {made : Bool} (h : G.obj b = some ⟨pkC t line i made err, 1, false, 1⟩) (hl : made = true → line = 99) (he : made = true → err ≠ 0) (hb : b < G.nx) : ∃ G', (E orc).cl 62 [P0 b] G = some (.tuple #[.agg ⟨[.int .u64 0, .int .i64 0]⟩, .int .i64 (itE made err)], G') ∧ Ext G G' := by
  unfold pkC at h
  have hne : ¬ b = G.nx := by omega
  have w : Wp (s62 true (exL Q orc) (P0 b) G) fun r => r.1 = .tuple #[.agg ⟨[.int .u64 0, .int .i64 0]⟩, .int .i64 (itE made err)] ∧ Ext G r.2 := by
    cases made with
    | false =>
      simp [s62, h, hne, itE, splice_put, splice_end]
      exact ((Ext.refl G).push _).put (Nat.le_refl _) _
    | true =>
      simp [s62, h, hne, itE, splice_put, splice_end, he rfl, hl rfl]
      exact (((Ext.refl G).push _).room _).put (Nat.le_refl _) _
  obtain ⟨⟨v, G'⟩, e1, rfl, e3⟩ := w
  exact ⟨G', f62 (exL_ok Q orc) _ G _ e1, e3⟩
end
end Go.Proofs.YtdohlgkmaeipjaaGreat.Lift

