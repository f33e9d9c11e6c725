/- contracts of the program's functions -/
import Derived.Test.YtdohlgkmaeipjaaGreatNA
set_option linter.unusedVariables false
set_option linter.unusedSimpArgs false
set_option maxRecDepth 20000
namespace Go.Proofs.YtdohlgkmaeipjaaGreat.Lift
open Go Go.Proofs.YtdohlgkmaeipjaaGreat.Gh Go.Proofs
/-! ### The document's operations, when they are made -/
def zW : TW := ⟨0, 0, 0, 0, 0, 0, 0, 0, 0, 0, 0, 0, 0⟩
abbrev cL (t : TW) (c line : Int) (pin : Value) (err : Int) (rest : List Value) : List Value := .int .i64 t.nodes :: .int .i64 t.heads :: .int .i64 t.height :: .int .i64 t.top :: .int .i64 t.links :: .int .i64 t.size :: .int .i64 t.u6 :: .int .i64 t.u7 :: .int .i64 t.u8 :: .int .i64 t.u9 :: .int .i64 t.u10 :: .int .i64 t.u11 :: .int .i64 t.u12 :: .int .i64 c :: .int .i64 line :: pin :: .int .i64 0 :: .pointer none :: .int .u64 0 :: .int .i64 err :: rest
theorem refused_ok (orc : FuncId → Bool) (t : TW) (c : Int) (G : GS) : ∃ G', (E orc).cl 216 [t.v, .int .i64 c] G = some (.int .i64 (refI t c), G') ∧ Ext G G' := by
  have w : Wp (s216 true (exL Q orc) t.v (.int .i64 c) G) fun q => q.1 = .int .i64 (refI t c) ∧ Ext G q.2 := by
    obtain ⟨G1, hG1⟩ : ∃ G1, G1 = G.push ⟨t.cells, 1, false, 1⟩ := ⟨_, rfl⟩
    have x1 : Ext G G1 := by rw [hG1]; exact (Ext.refl G).push _
    have n1 : G1.nx = G.nx + 1 := by rw [hG1]; rfl
    have o1 : G1.obj G.nx = some ⟨t.cells, 1, false, 1⟩ := by rw [hG1]; simp
    obtain ⟨G2, e2, x2⟩ := rsound_ok orc t G1
    have o2 := (x2.obj _ (by omega)).trans o1
    have y := x1.trans x2
    unfold refI
    by_cases hs : t.sound
    · simp only [hs, decide_true] at e2
      by_cases h1 : c < 0
      · simp [s216, ← hG1, o1, e2, o2, hs, h1]; exact y
      by_cases h2 : t.u11 ≤ c
      · simp [s216, ← hG1, o1, e2, o2, hs, h1, h2]; exact y
      · simp [s216, ← hG1, o1, e2, o2, hs, h1, h2]; exact y
    · simp only [hs, decide_false] at e2
      simp [s216, ← hG1, o1, e2, o2, hs]; exact y
  obtain ⟨⟨v, G'⟩, e1, rfl, h⟩ := w
  exact ⟨G', f216 (exL_ok Q orc) _ _ G _ e1, h⟩
theorem newpin_ok (orc : FuncId → Bool) (a b d c : Int) (G : GS) : ∃ x G', (E orc).cl 296 [.agg ⟨[.int .i64 a, .int .i64 b, .int .i64 d]⟩, .int .i64 c] G = some (P0 x, G') ∧ Ext G G' := by
  obtain ⟨G1, hG1⟩ : ∃ G1, G1 = G.push ⟨[.int .i64 a, .int .i64 b, .int .i64 d], 1, false, 1⟩ := ⟨_, rfl⟩
  have x1 : Ext G G1 := by rw [hG1]; exact (Ext.refl G).push _
  have n1 : G1.nx = G.nx + 1 := by rw [hG1]; rfl
  have o1 : G1.obj G.nx = some ⟨[.int .i64 a, .int .i64 b, .int .i64 d], 1, false, 1⟩ := by rw [hG1]; simp
  have e2 : ∃ r G2, (E orc).cl 369 [.agg ⟨[.int .i64 a, .int .i64 b, .int .i64 d]⟩, .int .i64 c] G1 = some (.bool r, G2) ∧ Ext G1 G2 := by
    have w : Wp (s369 true (exL Q orc) (.agg ⟨[.int .i64 a, .int .i64 b, .int .i64 d]⟩) (.int .i64 c) G1) fun q => (∃ r, q.1 = .bool r) ∧ Ext G1 q.2 := by
      by_cases h1 : c < 0
      · simp [s369, h1]; exact (Ext.refl _).push _
      by_cases h2 : d ≤ c
      · simp [s369, h1, h2]; exact (Ext.refl _).push _
      by_cases h3 : 64 ≤ c
      · simp [s369, h1, h2, h3]; exact (Ext.refl _).push _
      · simp [s369, h1, h2, h3]; exact (Ext.refl _).push _
    obtain ⟨⟨v, G2⟩, e, ⟨r, rfl⟩, h⟩ := w
    exact ⟨r, G2, f369 (exL_ok Q orc) _ _ G1 _ e, h⟩
  obtain ⟨r, G2, e2, x2⟩ := e2
  have o2 := (x2.obj _ (by omega)).trans o1
  have w : Wp (s296 true (exL Q orc) (.agg ⟨[.int .i64 a, .int .i64 b, .int .i64 d]⟩) (.int .i64 c) G) fun q => (∃ x, q.1 = P0 x) ∧ Ext G q.2 := by
    cases r <;> simp [s296, ← hG1, o1, e2, o2] <;> exact (x1.trans x2).push _
  obtain ⟨⟨v, G'⟩, e1, ⟨x, rfl⟩, h⟩ := w
  exact ⟨x, G', f296 (exL_ok Q orc) _ _ G _ e1, h⟩
/-- the core's part of a document's operation -/
def CoreV (err : Int) (v : Value) : Prop := ∃ t c line pin, v = .agg ⟨cL t c line pin err []⟩ ∧ ((err = 0 ∧ line = 1 ∧ ∃ x, pin = P0 x) ∨ (err ≠ 0 ∧ line = 9 ∧ pin = .pointer none))
theorem rbegun_ok (orc : FuncId → Bool) (t : TW) (c e : Int) (G : GS) : ∃ v G', (E orc).cl 217 [t.v, .int .i64 c, .int .i64 e] G = some (v, G') ∧ Ext G G' ∧ CoreV e v := by
  obtain ⟨G1, hG1⟩ : ∃ G1, G1 = (G.push ⟨t.cells, 1, false, 1⟩).push ⟨z205, 1, false, 1⟩ := ⟨_, rfl⟩
  have x1 : Ext G G1 := by rw [hG1]; exact ((Ext.refl G).push _).push _
  have n1 : G1.nx = G.nx + 2 := by rw [hG1]; rfl
  have o1 : G1.obj G.nx = some ⟨t.cells, 1, false, 1⟩ := by rw [hG1]; simp
  have p1 : G1.obj (G.nx + 1) = some ⟨z205, 1, false, 1⟩ := by rw [hG1]; simp
  have w : Wp (s217 true (exL Q orc) t.v (.int .i64 c) (.int .i64 e) G) fun q => Ext G q.2 ∧ CoreV e q.1 := by
    by_cases he : e = 0
    · subst he
      obtain ⟨x, G2, e2, x2⟩ := newpin_ok orc t.u9 t.u10 t.u11 c (G1.room 9)
      have y2 := ((Ext.refl G1).room 9).trans x2
      have o2 := (y2.obj _ (by omega)).trans o1
      have p2 := (y2.obj _ (by omega)).trans p1
      simp [s217, ← hG1, o1, p1, e2, o2, p2, splice_put, splice_end, splice_succ]
      exact ⟨(x1.trans y2).put (by omega) _, t, c, 1, P0 x, rfl, .inl ⟨rfl, rfl, x, rfl⟩⟩
    · simp [s217, ← hG1, o1, p1, he, splice_put, splice_end, splice_succ]
      exact ⟨x1.put (by omega) _, zW, 0, 9, .pointer none, rfl, .inr ⟨he, rfl, rfl⟩⟩
  obtain ⟨⟨v, G'⟩, e1, h1, h2⟩ := w
  exact ⟨v, G', f217 (exL_ok Q orc) _ _ _ G _ e1, h1, h2⟩
def CoreR (G : GS) (b : Nat) (err : Int) : Prop := ∃ t c line pin rest, G.obj b = some ⟨cL t c line pin err rest, 1, false, 1⟩ ∧ ((err = 0 ∧ line = 1) ∨ (err ≠ 0 ∧ line = 9))
def RnewR (G : GS) (err : Int) (q : Value × GS) : Prop := ∃ b, q.1 = P0 b ∧ Ext G q.2 ∧ G.nx ≤ b ∧ b < q.2.nx ∧ CoreR q.2 b err
theorem rnewput_ok (orc : FuncId → Bool) (t : TW) (c key job height : Int) (G : GS) : Wp ((E orc).cl 108 [t.v, .int .i64 c, .int .u64 key, .int .i64 job, .int .i64 height] G) (RnewR G (putI t c key job height)) := by
  refine Wp.ref (f108 (exL_ok Q orc) _ _ _ _ _ G) ?_
  obtain ⟨G1, hG1⟩ : ∃ G1, G1 = G.push ⟨t.cells, 1, false, 1⟩ := ⟨_, rfl⟩
  have x1 : Ext G G1 := by rw [hG1]; exact (Ext.refl G).push _
  have n1 : G1.nx = G.nx + 1 := by rw [hG1]; rfl
  have o1 : G1.obj G.nx = some ⟨t.cells, 1, false, 1⟩ := by rw [hG1]; simp
  obtain ⟨G2, e2, x2⟩ := refused_ok orc t c G1
  have o2 := (x2.obj _ (by omega)).trans o1
  have n2 := x2.nx
  have y2 := x1.trans x2
  have fin : ∀ (e : Int) (τ : Env), τ 1 = .int .i64 c → τ 2 = .int .u64 key → τ 3 = .int .i64 job → τ 4 = .int .i64 height → τ 5 = P0 G.nx → τ 11 = .int .i64 e → Wp (j108_0 true (exL Q orc) τ G2) (RnewR G e) := by
    intro e τ t1 t2 t3 t4 t5 t11
    obtain ⟨v, G3, e3, x3, t', c', line, pin, rfl, h⟩ := rbegun_ok orc t c e G2
    have n3 := x3.nx
    have hp : one pin = true := by rcases h with ⟨-, -, x, rfl⟩ | ⟨-, -, rfl⟩ <;> rfl
    simp [j108_0, jb108_0, t1, t2, t3, t4, t5, t11, o2, e3]
    exact ⟨_, rfl, (y2.trans x3).push _, by omega, by simp, t', c', line, pin, _, by rw [obj_push, if_pos rfl], h.elim (fun h => .inl ⟨h.1, h.2.1⟩) fun h => .inr ⟨h.1, h.2.1⟩⟩
  unfold putI
  by_cases hr : refI t c = 0
  · rw [if_pos hr]
    rw [hr] at e2
    by_cases hb : putBad t key job height
    · rw [if_pos hb]
      unfold putBad at hb
      by_cases h1 : key = 18446744073709551615
      · subst h1
        simp [s108, sb108, ← hG1, o1, e2, o2]
        exact fin 3 _ (by simp [clip_t]) (by simp [clip_t]) (by simp [clip_t]) (by simp [clip_t]) (by simp [clip_t]) (by simp [clip_t])
      by_cases h2 : job < 0
      · simp [s108, sb108, ← hG1, o1, e2, o2, h1, h2]
        exact fin 3 _ (by simp [clip_t]) (by simp [clip_t]) (by simp [clip_t]) (by simp [clip_t]) (by simp [clip_t]) (by simp [clip_t])
      by_cases h3 : 65534 < job
      · simp [s108, sb108, ← hG1, o1, e2, o2, h1, h2, h3]
        exact fin 3 _ (by simp [clip_t]) (by simp [clip_t]) (by simp [clip_t]) (by simp [clip_t]) (by simp [clip_t]) (by simp [clip_t])
      by_cases h4 : height < 1
      · simp [s108, sb108, ← hG1, o1, e2, o2, h1, h2, h3, h4]
        exact fin 3 _ (by simp [clip_t]) (by simp [clip_t]) (by simp [clip_t]) (by simp [clip_t]) (by simp [clip_t]) (by simp [clip_t])
      · have h5 : t.height < height := by omega
        simp [s108, sb108, ← hG1, o1, e2, o2, h1, h2, h3, h4, h5]
        exact fin 3 _ (by simp [clip_t]) (by simp [clip_t]) (by simp [clip_t]) (by simp [clip_t]) (by simp [clip_t]) (by simp [clip_t])
    · rw [if_neg hb]
      unfold putBad at hb
      have h1 : ¬ key = 18446744073709551615 := fun e => hb (.inl e)
      have h2 : ¬ job < 0 := by omega
      have h3 : ¬ 65534 < job := by omega
      have h4 : ¬ height < 1 := by omega
      have h5 : ¬ t.height < height := by omega
      simp [s108, sb108, ← hG1, o1, e2, o2, h1, h2, h3, h4, h5]
      exact fin 0 _ (by simp [clip_t]) (by simp [clip_t]) (by simp [clip_t]) (by simp [clip_t]) (by simp [clip_t]) (by simp [clip_t])
  · rw [if_neg hr]
    simp [s108, sb108, ← hG1, o1, e2, o2, hr]
    exact fin _ _ (by simp [clip_t]) (by simp [clip_t]) (by simp [clip_t]) (by simp [clip_t]) (by simp [clip_t]) (by simp [clip_t])
end Go.Proofs.YtdohlgkmaeipjaaGreat.Lift

set_option linter.unusedVariables false
set_option linter.unusedSimpArgs false
set_option maxRecDepth 20000
namespace Go.Proofs.YtdohlgkmaeipjaaGreat.Lift
open Go Go.Proofs.YtdohlgkmaeipjaaGreat.Gh Go.Proofs
abbrev kL (t : TW) (line err : Int) : List Value := [.int .i64 t.nodes, .int .i64 t.heads, .int .i64 t.height, .int .i64 t.top, .int .i64 t.links, .int .i64 t.size, .int .i64 t.u6, .int .i64 t.u7, .int .i64 t.u8, .int .i64 t.u9, .int .i64 t.u10, .int .i64 t.u11, .int .i64 t.u12, .bool false, .int .i64 line, .int .u64 0, .int .u64 0, .int .i64 0, .int .i64 0, .int .u64 0, .int .i64 0, .pointer none, .pointer none, .bool false, .int .u64 0, .int .i64 err]
theorem rnewclaim_ok (orc : FuncId → Bool) (t : TW) (G : GS) : ∃ x G', (E orc).cl 43 [t.v] G = some (P0 x, G') ∧ Ext G G' ∧ x < G'.nx ∧ ∃ tt line err, G'.obj x = some ⟨kL tt line err, 1, false, 1⟩ := by
  obtain ⟨G1, hG1⟩ : ∃ G1, G1 = G.push ⟨t.cells, 1, false, 1⟩ := ⟨_, rfl⟩
  have x1 : Ext G G1 := by rw [hG1]; exact (Ext.refl G).push _
  have n1 : G1.nx = G.nx + 1 := by rw [hG1]; rfl
  have o1 : G1.obj G.nx = some ⟨t.cells, 1, false, 1⟩ := by rw [hG1]; simp
  obtain ⟨G2, e2, x2⟩ := rsound_ok orc t G1
  have o2 := (x2.obj _ (by omega)).trans o1
  by_cases hs : t.sound
  · simp only [hs, decide_true] at e2
    refine ⟨G2.nx, G2.push ⟨kL t 1 0, 1, false, 1⟩, f43 (exL_ok Q orc) _ G _ ?_, (x1.trans x2).push _, by simp, t, 1, 0, by simp⟩
    simp [s43, ← hG1, o1, e2, o2]
  · simp only [hs, decide_false] at e2
    refine ⟨G2.nx, G2.push ⟨kL zW 99 2, 1, false, 1⟩, f43 (exL_ok Q orc) _ G _ ?_, (x1.trans x2).push _, by simp, zW, 99, 2, by simp⟩
    simp [s43, ← hG1, o1, e2, o2, zW]
theorem rnewpeek_ok (orc : FuncId → Bool) (t : TW) (G : GS) : ∃ x G', (E orc).cl 44 [t.v] G = some (P0 x, G') ∧ Ext G G' := by
  obtain ⟨G1, hG1⟩ : ∃ G1, G1 = G.push ⟨t.cells, 1, false, 1⟩ := ⟨_, rfl⟩
  have x1 : Ext G G1 := by rw [hG1]; exact (Ext.refl G).push _
  have n1 : G1.nx = G.nx + 1 := by rw [hG1]; rfl
  have o1 : G1.obj G.nx = some ⟨t.cells, 1, false, 1⟩ := by rw [hG1]; simp
  obtain ⟨a, G2, e2, x2, l2, tt, line, err, o2⟩ := rnewclaim_ok orc t G1
  have n2 := x2.nx
  have w : Wp (s44 true (exL Q orc) t.v G) fun q => (∃ x, q.1 = P0 x) ∧ Ext G q.2 := by
    simp [s44, ← hG1, o1, e2, o2]
    exact ((x1.trans x2).push _).put (by omega) _
  obtain ⟨⟨v, G'⟩, e1, ⟨x, rfl⟩, h⟩ := w
  exact ⟨x, G', f44 (exL_ok Q orc) _ G _ e1, h⟩
theorem rnewpick_ok (orc : FuncId → Bool) (t : TW) (c : Int) (G : GS) : Wp ((E orc).cl 110 [t.v, .int .i64 c] G) (RnewR G (refI t c)) := by
  refine Wp.ref (f110 (exL_ok Q orc) _ _ G) ?_
  obtain ⟨G1, hG1⟩ : ∃ G1, G1 = (G.push ⟨t.cells, 1, false, 1⟩).room 11 := ⟨_, rfl⟩
  have x1 : Ext G G1 := by rw [hG1]; exact ((Ext.refl G).push _).room _
  have n1 : G1.nx = G.nx + 1 + 11 := by rw [hG1]; rfl
  have o1 : G1.obj G.nx = some ⟨t.cells, 1, false, 1⟩ := by rw [hG1]; simp
  obtain ⟨G2, e2, x2⟩ := refused_ok orc t c G1
  have n2 := x2.nx
  have o2 := (x2.obj _ (by omega)).trans o1
  obtain ⟨v, G3, e3, x3, t', c', line, pin, rfl, h⟩ := rbegun_ok orc t c (refI t c) G2
  have n3 := x3.nx
  have o3 := (x3.obj _ (by omega)).trans o2
  have hp : one pin = true := by rcases h with ⟨-, -, x, rfl⟩ | ⟨-, -, rfl⟩ <;> rfl
  obtain ⟨a, G4, e4, x4, -⟩ := rnewclaim_ok orc t G3
  have n4 := x4.nx
  simp [s110, ← hG1, o1, e2, o2, e3, o3, e4]
  exact ⟨_, rfl, Ext.drawn (((x1.trans x2).trans x3).trans x4) (by omega) (by omega) _, by omega, by simp; omega, t', c', line, pin, _, by rw [obj_back, obj_push, nx_at, if_pos rfl], h.elim (fun h => .inl ⟨h.1, h.2.1⟩) fun h => .inr ⟨h.1, h.2.1⟩⟩
theorem rnewlook_ok (orc : FuncId → Bool) (t : TW) (c : Int) (G : GS) : Wp ((E orc).cl 112 [t.v, .int .i64 c] G) (RnewR G (refI t c)) := by
  refine Wp.ref (f112 (exL_ok Q orc) _ _ G) ?_
  obtain ⟨G1, hG1⟩ : ∃ G1, G1 = (G.push ⟨t.cells, 1, false, 1⟩).room 11 := ⟨_, rfl⟩
  have x1 : Ext G G1 := by rw [hG1]; exact ((Ext.refl G).push _).room _
  have n1 : G1.nx = G.nx + 1 + 11 := by rw [hG1]; rfl
  have o1 : G1.obj G.nx = some ⟨t.cells, 1, false, 1⟩ := by rw [hG1]; simp
  obtain ⟨G2, e2, x2⟩ := refused_ok orc t c G1
  have n2 := x2.nx
  have o2 := (x2.obj _ (by omega)).trans o1
  obtain ⟨v, G3, e3, x3, t', c', line, pin, rfl, h⟩ := rbegun_ok orc t c (refI t c) G2
  have n3 := x3.nx
  have o3 := (x3.obj _ (by omega)).trans o2
  have hp : one pin = true := by rcases h with ⟨-, -, x, rfl⟩ | ⟨-, -, rfl⟩ <;> rfl
  obtain ⟨a, G4, e4, x4⟩ := rnewpeek_ok orc t G3
  have n4 := x4.nx
  simp [s112, ← hG1, o1, e2, o2, e3, o3, e4]
  exact ⟨_, rfl, Ext.drawn (((x1.trans x2).trans x3).trans x4) (by omega) (by omega) _, by omega, by simp; omega, t', c', line, pin, _, by rw [obj_back, obj_push, nx_at, if_pos rfl], h.elim (fun h => .inl ⟨h.1, h.2.1⟩) fun h => .inr ⟨h.1, h.2.1⟩⟩
theorem rnewtidy_ok (orc : FuncId → Bool) (t : TW) (c : Int) (G : GS) : Wp ((E orc).cl 114 [t.v, .int .i64 c] G) (RnewR G (refI t c)) := by
  refine Wp.ref (f114 (exL_ok Q orc) _ _ G) ?_
  obtain ⟨G1, hG1⟩ : ∃ G1, G1 = (G.push ⟨t.cells, 1, false, 1⟩).room 9 := ⟨_, rfl⟩
  have x1 : Ext G G1 := by rw [hG1]; exact ((Ext.refl G).push _).room _
  have n1 : G1.nx = G.nx + 1 + 9 := by rw [hG1]; rfl
  have o1 : G1.obj G.nx = some ⟨t.cells, 1, false, 1⟩ := by rw [hG1]; simp
  obtain ⟨G2, e2, x2⟩ := refused_ok orc t c G1
  have n2 := x2.nx
  have o2 := (x2.obj _ (by omega)).trans o1
  obtain ⟨v, G3, e3, x3, t', c', line, pin, rfl, h⟩ := rbegun_ok orc t c (refI t c) G2
  have n3 := x3.nx
  have o3 := (x3.obj _ (by omega)).trans o2
  have hp : one pin = true := by rcases h with ⟨-, -, x, rfl⟩ | ⟨-, -, rfl⟩ <;> rfl
  simp [s114, ← hG1, o1, e2, o2, e3, o3]
  exact ⟨_, rfl, Ext.drawn ((x1.trans x2).trans x3) (by omega) (by omega) _, by omega, by simp; omega, t', c', line, pin, _, by rw [obj_back, obj_push, nx_at, if_pos rfl], h.elim (fun h => .inl ⟨h.1, h.2.1⟩) fun h => .inr ⟨h.1, h.2.1⟩⟩
section
variable {G : GS} {b : Nat} {err : Int}
theorem rputerr_ok (orc : FuncId → Bool) (h : CoreR G b err) : (E orc).cl 116 [P0 b] G = some (.int .i64 (toldI err), G) := by
  obtain ⟨t, c, line, pin, rest, ho, hp⟩ := h
  refine f116 (exL_ok Q orc) _ G _ ?_
  unfold toldI
  rcases hp with ⟨rfl, rfl⟩ | ⟨h1, rfl⟩
  · simp [s116, ho]
  · simp [s116, ho, h1]
theorem rby_ok (orc : FuncId → Bool) (h : CoreR G b err) : (E orc).cl 118 [P0 b] G = some (.int .u64 0, G) := by
  obtain ⟨t, c, line, pin, rest, ho, hp⟩ := h
  refine f118 (exL_ok Q orc) _ G _ ?_
  simp [s118, ho]
theorem rtidymany_ok (orc : FuncId → Bool) (h : CoreR G b err) : ∃ G', (E orc).cl 126 [P0 b] G = some (.tuple #[.int .i64 0, .int .i64 (toldI err)], G') ∧ Ext G G' := by
  obtain ⟨t, c, line, pin, rest, ho, hp⟩ := h
  have w : Wp (s126 true (exL Q orc) (P0 b) G) fun q => q.1 = .tuple #[.int .i64 0, .int .i64 (toldI err)] ∧ Ext G q.2 := by
    unfold toldI
    rcases hp with ⟨rfl, rfl⟩ | ⟨h1, rfl⟩
    · simp [s126, ho]; exact Ext.refl _
    · simp [s126, ho, h1]; exact (Ext.refl _).room _
  obtain ⟨⟨v, G'⟩, e1, rfl, h⟩ := w
  exact ⟨G', f126 (exL_ok Q orc) _ G _ e1, h⟩
theorem rpickitem_ok (orc : FuncId → Bool) (h : CoreR G b err) (hb : b < G.nx) : ∃ G', (E orc).cl 120 [P0 b] G = some (.tuple #[zI, .int .i64 (toldI err)], G') ∧ Ext G G' := by
  obtain ⟨t, c, line, pin, rest, ho, hp⟩ := h
  have w : Wp (s120 true (exL Q orc) (P0 b) G) fun q => q.1 = .tuple #[zI, .int .i64 (toldI err)] ∧ Ext G q.2 := by
    unfold toldI
    have hne : ¬ b = G.nx := by omega
    rcases hp with ⟨rfl, rfl⟩ | ⟨h1, rfl⟩
    · simp [s120, ho, hne, splice_put, splice_end]
      repeat' (with_reducible first | refine Ext.put ?_ (by simp) _ | refine Ext.put ?_ (Nat.le_refl _) _ | refine Ext.push ?_ _ | refine Ext.room ?_ _ | exact Ext.refl _)
    · simp [s120, ho, hne, h1, splice_put, splice_end]
      repeat' (with_reducible first | refine Ext.put ?_ (by simp) _ | refine Ext.put ?_ (Nat.le_refl _) _ | refine Ext.push ?_ _ | refine Ext.room ?_ _ | exact Ext.refl _)
  obtain ⟨⟨v, G'⟩, e1, rfl, h⟩ := w
  exact ⟨G', f120 (exL_ok Q orc) _ G _ e1, h⟩
theorem rlookitem_ok (orc : FuncId → Bool) (h : CoreR G b err) (hb : b < G.nx) : ∃ G', (E orc).cl 123 [P0 b] G = some (.tuple #[zI, .int .i64 (toldI err)], G') ∧ Ext G G' := by
  obtain ⟨t, c, line, pin, rest, ho, hp⟩ := h
  have w : Wp (s123 true (exL Q orc) (P0 b) G) fun q => q.1 = .tuple #[zI, .int .i64 (toldI err)] ∧ Ext G q.2 := by
    unfold toldI
    have hne : ¬ b = G.nx := by omega
    rcases hp with ⟨rfl, rfl⟩ | ⟨h1, rfl⟩
    · simp [s123, ho, hne, splice_put, splice_end]
      repeat' (with_reducible first | refine Ext.put ?_ (by simp) _ | refine Ext.put ?_ (Nat.le_refl _) _ | refine Ext.push ?_ _ | refine Ext.room ?_ _ | exact Ext.refl _)
    · simp [s123, ho, hne, h1, splice_put, splice_end]
      repeat' (with_reducible first | refine Ext.put ?_ (by simp) _ | refine Ext.put ?_ (Nat.le_refl _) _ | refine Ext.push ?_ _ | refine Ext.room ?_ _ | exact Ext.refl _)
  obtain ⟨⟨v, G'⟩, e1, rfl, h⟩ := w
  exact ⟨G', f123 (exL_ok Q orc) _ G _ e1, h⟩
end
end Go.Proofs.YtdohlgkmaeipjaaGreat.Lift

set_option linter.unusedVariables false
set_option linter.unusedSimpArgs false
set_option maxRecDepth 20000
namespace Go.Proofs.YtdohlgkmaeipjaaGreat.Lift
open Go Go.Proofs.YtdohlgkmaeipjaaGreat.Gh Go.Proofs
/-! ### What is begun tells the same -/
def BothW (G : GS) (t : TW) (c : Int) (v : Value) : Prop := ∃ b b', b < G.nx ∧ b' < G.nx ∧
  ((∃ err rest, v = .agg ⟨[P0 b, P0 b', .pointer none, .pointer none, .pointer none, .pointer none, .pointer none, .pointer none]⟩ ∧ WorkR G b t c err rest ∧ CoreR G b' err) ∨
   (∃ err, v = .agg ⟨[.pointer none, .pointer none, P0 b, P0 b', .pointer none, .pointer none, .pointer none, .pointer none]⟩ ∧ WorkR G b t c err sR ∧ CoreR G b' err) ∨
   (∃ err, v = .agg ⟨[.pointer none, .pointer none, .pointer none, .pointer none, P0 b, P0 b', .pointer none, .pointer none]⟩ ∧ WorkR G b t c err sR ∧ CoreR G b' err) ∨
   (∃ err rest, v = .agg ⟨[.pointer none, .pointer none, .pointer none, .pointer none, .pointer none, .pointer none, P0 b, P0 b']⟩ ∧ WorkR G b t c err rest ∧ CoreR G b' err))
theorem CoreR.ext {G G' : GS} {b : Nat} {err : Int} (h : CoreR G b err) (x : Ext G G') (hb : b < G.nx) : CoreR G' b err := by
  obtain ⟨t, c, l, p, r, h1, h2⟩ := h
  exact ⟨t, c, l, p, r, (x.obj b hb).trans h1, h2⟩
def BegW (G : GS) (t : TW) (c : Int) (q : Value × GS) : Prop := Ext G q.2 ∧ BothW q.2 t c q.1
theorem hzb : z89 = [.pointer none, .pointer none, .pointer none, .pointer none, .pointer none, .pointer none, .pointer none, .pointer none] := rfl
theorem req_item (a0 a1 b0 b1 : Int) : prun Q (Op.equalIn 10000 44 (.agg ⟨[.int .u64 a0, .int .i64 a1]⟩) (.agg ⟨[.int .u64 b0, .int .i64 b1]⟩)) = some (a0 == b0 && (a1 == b1 && true)) :=
  eqS (d := 9999) (L := [(41, 0), (3, 1)]) (by kernel_rfl) (by kernel_rfl) (eqL_cons (a := .int .u64 a0) (b := .int .u64 b0) (by kernel_rfl) (by kernel_rfl) (by kernel_rfl) (eqL_cons (a := .int .i64 a1) (b := .int .i64 b1) (by kernel_rfl) (by kernel_rfl) (by kernel_rfl) rfl))
theorem eq_item (x y : Operand) (a0 a1 b0 b1 : Int) : gBinF Q .eql 44 x y (.agg ⟨[.int .u64 a0, .int .i64 a1]⟩) (.agg ⟨[.int .u64 b0, .int .i64 b1]⟩) = some (.bool (a0 == b0 && a1 == b1)) := by
  rw [eql_aggF (op := .eql) (by kernel_rfl) (by kernel_rfl) (by kernel_rfl) (req_item a0 a1 b0 b1)]
  simp
theorem begin_ok (orc : FuncId → Bool) (t : TW) (c core what key job height : Int) (G : GS) : Wp ((E orc).cl 30 [t.v, .int .i64 c, .agg ⟨[.int .i64 core, .int .i64 what, .int .u64 key, .int .i64 job, .int .i64 height]⟩] G) (BegW G t c) := by
  refine Wp.ref (f30 (exL_ok Q orc) _ _ _ G) ?_
  obtain ⟨G1, hG1⟩ : ∃ G1, G1 = ((G.push ⟨t.cells, 1, false, 1⟩).push ⟨[.int .i64 core, .int .i64 what, .int .u64 key, .int .i64 job, .int .i64 height], 1, false, 1⟩).push ⟨z89, 1, false, 1⟩ := ⟨_, rfl⟩
  have x0 : Ext G G1 := by rw [hG1]; exact (((Ext.refl G).push _).push _).push _
  have q0 : G1.obj G.nx = some ⟨t.cells, 1, false, 1⟩ := by rw [hG1]; simp [Nat.add_assoc]
  have q1 : G1.obj (G.nx + 1) = some ⟨[.int .i64 core, .int .i64 what, .int .u64 key, .int .i64 job, .int .i64 height], 1, false, 1⟩ := by rw [hG1]; simp [Nat.add_assoc]
  have q2 : G1.obj (G.nx + 1 + 1) = some ⟨z89, 1, false, 1⟩ := by rw [hG1]; simp
  have nG : G1.nx = G.nx + 3 := by rw [hG1]; rfl
  by_cases h1 : what = 1
  · obtain ⟨⟨v2, G2⟩, e2, b, hv2, x2, l2, u2, r2⟩ := newput_ok orc t c key job height (G1.room 20)
    simp only at hv2 x2 l2 u2 r2
    subst hv2
    have y2 := ((Ext.refl G1).room 20).trans x2
    have n2 := y2.nx
    simp at l2
    obtain ⟨⟨v3, G3⟩, e3, b', hv3, x3, l3, u3, r3⟩ := rnewput_ok orc t c key job height G2
    simp only at hv3 x3 l3 u3 r3
    subst hv3
    have n3 := x3.nx
    have o2 := (y2.obj _ (by omega)).trans q0
    have o2' := (y2.obj _ (by omega)).trans q1
    have o3 := ((y2.trans x3).obj _ (by omega)).trans q2
    have d : ¬ b = G.nx + 1 + 1 := by omega
    have d' : ¬ b' = G.nx + 1 + 1 := by omega
    subst h1
    simp [s30, ← hG1, q0, q1, e2, o2, o2', e3, o3, hzb, splice_put, splice_end, splice_succ]
    refine ⟨((x0.trans y2).trans x3).put (by omega) _, b, b', by show b < G3.nx; omega, by show b' < G3.nx; omega, .inl ⟨putI t c key job height, [.int .u64 key, .int .i64 job, .int .i64 height, .int .i64 0, .int .u64 0], rfl, ?_, ?_⟩⟩
    · obtain ⟨p, w1, w2⟩ := r2.ext x3 u2
      exact ⟨p, by rw [obj_put, if_neg d]; exact w1, w2⟩
    · obtain ⟨a1, a2, a3, a4, a5, w1, w2⟩ := r3
      exact ⟨a1, a2, a3, a4, a5, by rw [obj_put, if_neg d']; exact w1, w2⟩
  by_cases h2 : what = 2
  · subst h2
    obtain ⟨⟨v2, G2⟩, e2, b, hv2, x2, l2, u2, r2⟩ := newpick_ok orc t c (G1.room 8)
    simp only at hv2 x2 l2 u2 r2
    subst hv2
    have y2 := ((Ext.refl G1).room 8).trans x2
    have n2 := y2.nx
    simp at l2
    obtain ⟨⟨v3, G3⟩, e3, b', hv3, x3, l3, u3, r3⟩ := rnewpick_ok orc t c G2
    simp only at hv3 x3 l3 u3 r3
    subst hv3
    have n3 := x3.nx
    have o2 := (y2.obj _ (by omega)).trans q0
    have o2' := (y2.obj _ (by omega)).trans q1
    have o3 := ((y2.trans x3).obj _ (by omega)).trans q2
    have d : ¬ b = G.nx + 1 + 1 := by omega
    have d' : ¬ b' = G.nx + 1 + 1 := by omega
    simp [s30, ← hG1, q0, q1, Int.reduceEq, e2, o2, o2', e3, o3, hzb, splice_put, splice_end, splice_succ]
    refine ⟨((x0.trans y2).trans x3).put (by omega) _, b, b', by show b < G3.nx; omega, by show b' < G3.nx; omega, .inr (.inl ⟨refI t c, rfl, ?_, ?_⟩)⟩
    · obtain ⟨p, w1, w2⟩ := r2.ext x3 u2
      exact ⟨p, by rw [obj_put, if_neg d]; exact w1, w2⟩
    · obtain ⟨a1, a2, a3, a4, a5, w1, w2⟩ := r3
      exact ⟨a1, a2, a3, a4, a5, by rw [obj_put, if_neg d']; exact w1, w2⟩
  by_cases h3 : what = 3
  · subst h3
    obtain ⟨⟨v2, G2⟩, e2, b, hv2, x2, l2, u2, r2⟩ := newlook_ok orc t c (G1.room 8)
    simp only at hv2 x2 l2 u2 r2
    subst hv2
    have y2 := ((Ext.refl G1).room 8).trans x2
    have n2 := y2.nx
    simp at l2
    obtain ⟨⟨v3, G3⟩, e3, b', hv3, x3, l3, u3, r3⟩ := rnewlook_ok orc t c G2
    simp only at hv3 x3 l3 u3 r3
    subst hv3
    have n3 := x3.nx
    have o2 := (y2.obj _ (by omega)).trans q0
    have o2' := (y2.obj _ (by omega)).trans q1
    have o3 := ((y2.trans x3).obj _ (by omega)).trans q2
    have d : ¬ b = G.nx + 1 + 1 := by omega
    have d' : ¬ b' = G.nx + 1 + 1 := by omega
    simp [s30, ← hG1, q0, q1, Int.reduceEq, e2, o2, o2', e3, o3, hzb, splice_put, splice_end, splice_succ]
    refine ⟨((x0.trans y2).trans x3).put (by omega) _, b, b', by show b < G3.nx; omega, by show b' < G3.nx; omega, .inr (.inr (.inl ⟨refI t c, rfl, ?_, ?_⟩))⟩
    · obtain ⟨p, w1, w2⟩ := r2.ext x3 u2
      exact ⟨p, by rw [obj_put, if_neg d]; exact w1, w2⟩
    · obtain ⟨a1, a2, a3, a4, a5, w1, w2⟩ := r3
      exact ⟨a1, a2, a3, a4, a5, by rw [obj_put, if_neg d']; exact w1, w2⟩
  · skip
    obtain ⟨⟨v2, G2⟩, e2, b, hv2, x2, l2, u2, r2⟩ := newtidy_ok orc t c (G1.room 8)
    simp only at hv2 x2 l2 u2 r2
    subst hv2
    have y2 := ((Ext.refl G1).room 8).trans x2
    have n2 := y2.nx
    simp at l2
    obtain ⟨⟨v3, G3⟩, e3, b', hv3, x3, l3, u3, r3⟩ := rnewtidy_ok orc t c G2
    simp only at hv3 x3 l3 u3 r3
    subst hv3
    have n3 := x3.nx
    have o2 := (y2.obj _ (by omega)).trans q0
    have o2' := (y2.obj _ (by omega)).trans q1
    have o3 := ((y2.trans x3).obj _ (by omega)).trans q2
    have d : ¬ b = G.nx + 1 + 1 := by omega
    have d' : ¬ b' = G.nx + 1 + 1 := by omega
    simp [s30, ← hG1, q0, q1, h1, h2, h3, e2, o2, o2', e3, o3, hzb, splice_put, splice_end, splice_succ]
    refine ⟨((x0.trans y2).trans x3).put (by omega) _, b, b', by show b < G3.nx; omega, by show b' < G3.nx; omega, .inr (.inr (.inr ⟨refI t c, [.int .i64 0, .int .i64 0], rfl, ?_, ?_⟩))⟩
    · obtain ⟨p, w1, w2⟩ := r2.ext x3 u2
      exact ⟨p, by rw [obj_put, if_neg d]; exact w1, w2⟩
    · obtain ⟨a1, a2, a3, a4, a5, w1, w2⟩ := r3
      exact ⟨a1, a2, a3, a4, a5, by rw [obj_put, if_neg d']; exact w1, w2⟩
theorem both_told (orc : FuncId → Bool) {t : TW} {c : Int} {v : Value} {G : GS} (h : BothW G t c v) : ∃ G', (E orc).cl 31 [v] G = some (.bool true, G') ∧ Ext G G' := by
  obtain ⟨b, b', hb, hb', h⟩ := h
  have w : Wp (s31 true (exL Q orc) v G) fun q => q.1 = .bool true ∧ Ext G q.2 := by
    rcases h with ⟨err, rest, rfl, r1, r2⟩ | ⟨err, rfl, r1, r2⟩ | ⟨err, rfl, r1, r2⟩ | ⟨err, rest, rfl, r1, r2⟩
    · obtain ⟨G1, hG1⟩ : ∃ G1, G1 = (G.push ⟨[P0 b, P0 b', .pointer none, .pointer none, .pointer none, .pointer none, .pointer none, .pointer none], 1, false, 1⟩).room 19 := ⟨_, rfl⟩
      have x1 : Ext G G1 := by rw [hG1]; exact ((Ext.refl G).push _).room _
      have o1 : G1.obj G.nx = some ⟨[P0 b, P0 b', .pointer none, .pointer none, .pointer none, .pointer none, .pointer none, .pointer none], 1, false, 1⟩ := by rw [hG1]; simp
      have e1 := puterr_ok orc (r1.ext x1 hb)
      have e2 := rputerr_ok orc (r2.ext x1 hb')
      have e3 := putby_ok orc (r1.ext x1 hb)
      have e4 := rby_ok orc (r2.ext x1 hb')
      simp [s31, ← hG1, o1, e1, e2, e3, e4]
      exact x1
    · obtain ⟨G1, hG1⟩ : ∃ G1, G1 = G.push ⟨[.pointer none, .pointer none, P0 b, P0 b', .pointer none, .pointer none, .pointer none, .pointer none], 1, false, 1⟩ := ⟨_, rfl⟩
      have x1 : Ext G G1 := by rw [hG1]; exact (Ext.refl G).push _
      have n1 : G1.nx = G.nx + 1 := by rw [hG1]; rfl
      have o1 : G1.obj G.nx = some ⟨[.pointer none, .pointer none, P0 b, P0 b', .pointer none, .pointer none, .pointer none, .pointer none], 1, false, 1⟩ := by rw [hG1]; simp
      obtain ⟨G2, e2, x2⟩ := pickitem_ok orc (r1.ext x1 hb) (by omega)
      obtain ⟨G3, hG3⟩ : ∃ G3, G3 = (G2.push ⟨z44, 1, false, 1⟩).put G2.nx ⟨[.int .u64 0, .int .i64 0], 1, false, 1⟩ := ⟨_, rfl⟩
      have x3 : Ext G2 G3 := by rw [hG3]; exact ((Ext.refl _).push _).put (Nat.le_refl _) _
      have n3 : G3.nx = G2.nx + 1 := by rw [hG3]; rfl
      have o3 : G3.obj G2.nx = some ⟨[.int .u64 0, .int .i64 0], 1, false, 1⟩ := by rw [hG3]; simp
      have n2 := x2.nx
      have y3 := (x1.trans x2).trans x3
      obtain ⟨G4, e4, x4⟩ := rpickitem_ok orc (r2.ext y3 hb') (by omega)
      have n4 := x4.nx
      obtain ⟨G5, hG5⟩ : ∃ G5, G5 = ((G4.push ⟨z44, 1, false, 1⟩).put G4.nx ⟨[.int .u64 0, .int .i64 0], 1, false, 1⟩).room 20 := ⟨_, rfl⟩
      have x5 : Ext G4 G5 := by rw [hG5]; exact (((Ext.refl _).push _).put (Nat.le_refl _) _).room _
      have o5 : G5.obj G4.nx = some ⟨[.int .u64 0, .int .i64 0], 1, false, 1⟩ := by rw [hG5]; simp
      have o5' := ((x4.trans x5).obj _ (by omega)).trans o3
      have p1 := ((x2.trans x3).obj _ (by omega)).trans o1
      have p4 := (x4.obj _ (by omega)).trans p1
      have p5 := (x5.obj _ (by omega)).trans p4
      have y5 := (y3.trans x4).trans x5
      have e6 := pickby_ok orc (r1.ext y5 hb)
      have e7 := rby_ok orc (r2.ext y5 hb')
      simp [s31, ← hG1, o1, e2, splice_put, splice_end, ← hG3, p1, e4, ← hG5, o5, o5', eq_item, p4, p5, e6, e7]
      exact y5
    · obtain ⟨G1, hG1⟩ : ∃ G1, G1 = G.push ⟨[.pointer none, .pointer none, .pointer none, .pointer none, P0 b, P0 b', .pointer none, .pointer none], 1, false, 1⟩ := ⟨_, rfl⟩
      have x1 : Ext G G1 := by rw [hG1]; exact (Ext.refl G).push _
      have n1 : G1.nx = G.nx + 1 := by rw [hG1]; rfl
      have o1 : G1.obj G.nx = some ⟨[.pointer none, .pointer none, .pointer none, .pointer none, P0 b, P0 b', .pointer none, .pointer none], 1, false, 1⟩ := by rw [hG1]; simp
      obtain ⟨G2, e2, x2⟩ := lookitem_ok orc (r1.ext x1 hb) (by omega)
      obtain ⟨G3, hG3⟩ : ∃ G3, G3 = (G2.push ⟨z44, 1, false, 1⟩).put G2.nx ⟨[.int .u64 0, .int .i64 0], 1, false, 1⟩ := ⟨_, rfl⟩
      have x3 : Ext G2 G3 := by rw [hG3]; exact ((Ext.refl _).push _).put (Nat.le_refl _) _
      have n3 : G3.nx = G2.nx + 1 := by rw [hG3]; rfl
      have o3 : G3.obj G2.nx = some ⟨[.int .u64 0, .int .i64 0], 1, false, 1⟩ := by rw [hG3]; simp
      have n2 := x2.nx
      have y3 := (x1.trans x2).trans x3
      obtain ⟨G4, e4, x4⟩ := rlookitem_ok orc (r2.ext y3 hb') (by omega)
      have n4 := x4.nx
      obtain ⟨G5, hG5⟩ : ∃ G5, G5 = ((G4.push ⟨z44, 1, false, 1⟩).put G4.nx ⟨[.int .u64 0, .int .i64 0], 1, false, 1⟩).room 20 := ⟨_, rfl⟩
      have x5 : Ext G4 G5 := by rw [hG5]; exact (((Ext.refl _).push _).put (Nat.le_refl _) _).room _
      have o5 : G5.obj G4.nx = some ⟨[.int .u64 0, .int .i64 0], 1, false, 1⟩ := by rw [hG5]; simp
      have o5' := ((x4.trans x5).obj _ (by omega)).trans o3
      have p1 := ((x2.trans x3).obj _ (by omega)).trans o1
      have p4 := (x4.obj _ (by omega)).trans p1
      have p5 := (x5.obj _ (by omega)).trans p4
      have y5 := (y3.trans x4).trans x5
      have e6 := lookby_ok orc (r1.ext y5 hb)
      have e7 := rby_ok orc (r2.ext y5 hb')
      simp [s31, ← hG1, o1, e2, splice_put, splice_end, ← hG3, p1, e4, ← hG5, o5, o5', eq_item, p4, p5, e6, e7]
      exact y5
    · obtain ⟨G1, hG1⟩ : ∃ G1, G1 = G.push ⟨[.pointer none, .pointer none, .pointer none, .pointer none, .pointer none, .pointer none, P0 b, P0 b'], 1, false, 1⟩ := ⟨_, rfl⟩
      have x1 : Ext G G1 := by rw [hG1]; exact (Ext.refl G).push _
      have n1 : G1.nx = G.nx + 1 := by rw [hG1]; rfl
      have o1 : G1.obj G.nx = some ⟨[.pointer none, .pointer none, .pointer none, .pointer none, .pointer none, .pointer none, P0 b, P0 b'], 1, false, 1⟩ := by rw [hG1]; simp
      have e1 := tidymany_ok orc (r1.ext x1 hb)
      obtain ⟨G2, e2, x2⟩ := rtidymany_ok orc (r2.ext x1 hb')
      simp [s31, ← hG1, o1, e1, e2]
      exact x1.trans x2
  obtain ⟨⟨v', G'⟩, e1, rfl, h⟩ := w
  exact ⟨G', f31 (exL_ok Q orc) _ G _ e1, h⟩
theorem new_lp (orc : FuncId → Bool) {B : GS} {t : TW} {c key job height : Int} {rb : Nat} (hrb : rb < B.nx) (orb : B.obj rb = some ⟨t.cells, 1, false, 1⟩) : ∀ (k : Nat) (i : Int) (τ : Env) (G : GS), i + k = 5 → 0 ≤ i → Ext B G → τ 1 = .int .i64 c → τ 2 = .int .u64 key → τ 3 = .int .i64 job → τ 4 = .int .i64 height → τ 5 = P0 rb → τ 11 = .int .i64 i →
    Wp ((exL Q orc).lpx 5 0 τ G) fun q => q.1 = .exit 0 := by
  intro k
  induction k with
  | zero =>
    intro i τ G hi h0 hx t1 t2 t3 t4 t5 t11
    have hi' : i = 5 := by omega
    subst hi'
    refine Wp.lp (l5_0 (exL_ok Q orc)) ?_
    simp [b5_0, clip_t, t1, t2, t3, t4, t5, t11]
  | succ k ih =>
    intro i τ G hi h0 hx t1 t2 t3 t4 t5 t11
    have hle : i ≤ 4 := by omega
    have hw : IntKind.wrap .i64 (i + 1) = i + 1 := wrap64 (by omega) (by omega)
    have o := (hx.obj rb hrb).trans orb
    obtain ⟨⟨v, G1⟩, e1, x1, hb⟩ := begin_ok orc t c 0 i key job height G
    simp only at x1 hb
    obtain ⟨G2, e2, x2⟩ := both_told orc hb
    refine Wp.lp (l5_0 (exL_ok Q orc)) ?_
    simp [b5_0, clip_t, t1, t2, t3, t4, t5, t11, hle, o, e1, e2, hw]
    exact ih (i + 1) _ G2 (by omega) (by omega) ((hx.trans x1).trans x2) (by simp [clip_t]) (by simp [clip_t]) (by simp [clip_t]) (by simp [clip_t]) (by simp [clip_t]) (by simp [clip_t])
theorem readyNew (orc : FuncId → Bool) (haw : orc 32 = true) (t : TW) (c key job height : Int) (G : GS) :
    Wp ((E orc).cl 5 [t.v, .int .i64 c, .int .u64 key, .int .i64 job, .int .i64 height] G) fun q => q.1 = .bool true := by
  have aw : ∀ G, (E orc).cl 32 [] G = some (.bool true, G) := fun G => cl_orc Q orc haw G
  refine Wp.ref (f5 (exL_ok Q orc) _ _ _ _ _ G) ?_
  simp [s5]
  refine Wp.bE ((new_lp orc (B := G.push ⟨t.cells, 1, false, 1⟩) (rb := G.nx) (t := t) (c := c) (key := key) (job := job) (height := height) (by simp) (by simp) 4 1 _ _ (by omega) (by omega) (Ext.refl _) (by simp) (by simp) (by simp) (by simp) (by simp) (by simp)).mono ?_)
  rintro ⟨e, τ, G'⟩ rfl
  simp [aw]
end Go.Proofs.YtdohlgkmaeipjaaGreat.Lift

set_option linter.unusedVariables false
set_option linter.unusedSimpArgs false
set_option maxRecDepth 20000
namespace Go.Proofs.YtdohlgkmaeipjaaGreat.Lift
open Go Go.Proofs.YtdohlgkmaeipjaaGreat.Gh Go.Proofs
theorem row_tw {r : List Value} (h : Row [some .i64, some .i64, some .i64, some .i64, some .i64, some .i64, some .i64, some .i64, some .i64, some .i64, some .i64, some .i64, some .i64] r) : ∃ x : TW, r = x.cells := by
  match r with
  | [x0, x1, x2, x3, x4, x5, x6, x7, x8, x9, x10, x11, x12] =>
    obtain ⟨⟨a0, h0, _⟩, ⟨a1, h1, _⟩, ⟨a2, h2, _⟩, ⟨a3, h3, _⟩, ⟨a4, h4, _⟩, ⟨a5, h5, _⟩, ⟨a6, h6, _⟩, ⟨a7, h7, _⟩, ⟨a8, h8, _⟩, ⟨a9, h9, _⟩, ⟨a10, h10, _⟩, ⟨a11, h11, _⟩, ⟨a12, h12, _⟩, _⟩ := h
    exact ⟨⟨a0, a1, a2, a3, a4, a5, a6, a7, a8, a9, a10, a11, a12⟩, by rw [h0, h1, h2, h3, h4, h5, h6, h7, h8, h9, h10, h11, h12]⟩
  | [] => exact h.elim
  | [_] => exact h.2.elim
  | [_, _] => exact h.2.2.elim
  | [_, _, _] => exact h.2.2.2.elim
  | [_, _, _, _] => exact h.2.2.2.2.elim
  | [_, _, _, _, _] => exact h.2.2.2.2.2.elim
  | [_, _, _, _, _, _] => exact h.2.2.2.2.2.2.elim
  | [_, _, _, _, _, _, _] => exact h.2.2.2.2.2.2.2.elim
  | [_, _, _, _, _, _, _, _] => exact h.2.2.2.2.2.2.2.2.elim
  | [_, _, _, _, _, _, _, _, _] => exact h.2.2.2.2.2.2.2.2.2.elim
  | [_, _, _, _, _, _, _, _, _, _] => exact h.2.2.2.2.2.2.2.2.2.2.elim
  | [_, _, _, _, _, _, _, _, _, _, _] => exact h.2.2.2.2.2.2.2.2.2.2.2.elim
  | [_, _, _, _, _, _, _, _, _, _, _, _] => exact h.2.2.2.2.2.2.2.2.2.2.2.2.elim
  | _ :: _ :: _ :: _ :: _ :: _ :: _ :: _ :: _ :: _ :: _ :: _ :: _ :: _ :: _ => exact h.2.2.2.2.2.2.2.2.2.2.2.2.2.elim
end Go.Proofs.YtdohlgkmaeipjaaGreat.Lift

