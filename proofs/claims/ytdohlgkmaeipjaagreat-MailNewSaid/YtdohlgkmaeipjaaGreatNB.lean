/- contracts of the program's functions -/
import Derived.Test.YtdohlgkmaeipjaaGreatNA
set_option linter.unusedVariables false
set_option linter.unusedSimpArgs false
set_option maxRecDepth 20000
namespace Go.Proofs.YtdohlgkmaeipjaaGreat.Lift
open Go Go.Proofs.YtdohlgkmaeipjaaGreat.Gh Go.Proofs
/-! ### A Send and a Drain, begun -/
def sendE (x : MB) (c v : Int) : Int := if x.ref c = 0 ∧ (v < 0 ∨ 65535 < v) then 3 else x.ref c
def drainE (x : MB) (c v : Int) : Int := if x.ref c = 0 ∧ v < 1 then 3 else x.ref c
def toldE (e : Int) : Int := if e = 0 then 14 else e
theorem ref_zero {x : MB} {c : Int} (h : x.ref c = 0) : x.placed ∧ 0 ≤ c ∧ c < x.cores := by
  unfold MB.ref at h
  split at h
  · split at h
    · simp at h
    · exact ⟨by assumption, by omega, by omega⟩
  · simp at h
theorem box_zero {x : MB} {c : Int} (h : x.ref c = 0) : x.box c = .tuple #[.agg ⟨x.ring c⟩, .bool true] := by unfold MB.box; rw [if_pos (ref_zero h)]
theorem box_not {x : MB} {c : Int} (h : x.ref c ≠ 0) : x.box c = .tuple #[.agg ⟨zR⟩, .bool false] := by
  unfold MB.box; rw [if_neg]
  rintro ⟨h1, h2, h3⟩
  refine h ?_
  unfold MB.ref
  rw [if_pos h1, if_neg (by omega)]
section
variable {x : MB} {c v : Int} {G : GS}
set_option maxHeartbeats 1000000 in
theorem newsend_ok (orc : FuncId → Bool) (x : MB) (c v : Int) (G : GS) : ∃ b p G', (E orc).cl 137 [x.v, .int .i64 c, .int .i64 v] G = some (P0 b, G') ∧ Ext G G' ∧ G'.obj b = some ⟨[.bool true, p, .int .i64 (sendE x c v)], 1, false, 1⟩ ∧ (sendE x c v = 0 → ∃ q, p = P0 q) ∧ (sendE x c v ≠ 0 → p = .pointer none) ∧ (G.nx ≤ b ∧ b < G'.nx) := by
  obtain ⟨G1, hG1⟩ : ∃ G1, G1 = G.push ⟨x.cells, 1, false, 1⟩ := ⟨_, rfl⟩
  have x1 : Ext G G1 := by rw [hG1]; exact (Ext.refl G).push _
  have n1 : G1.nx = G.nx + 1 := by rw [hG1]; rfl
  have o1 : G1.obj G.nx = some ⟨x.cells, 1, false, 1⟩ := by rw [hG1]; simp
  obtain ⟨G2, e2, x2⟩ := mref_ok orc x c G1
  have o2 := (x2.obj G.nx (by omega)).trans o1
  have y2 := x1.trans x2
  have n2 := x2.nx
  have w : Wp (s137 true (exL Q orc) x.v (.int .i64 c) (.int .i64 v) G) fun r => ∃ b p, r.1 = P0 b ∧ Ext G r.2 ∧ r.2.obj b = some ⟨[.bool true, p, .int .i64 (sendE x c v)], 1, false, 1⟩ ∧ (sendE x c v = 0 → ∃ q, p = P0 q) ∧ (sendE x c v ≠ 0 → p = .pointer none) ∧ (G.nx ≤ b ∧ b < r.2.nx) := by
    by_cases he : x.ref c = 0
    · obtain ⟨hp, hc0, hc1⟩ := ref_zero he
      rw [he] at e2
      obtain ⟨G3, hG3⟩ : ∃ G3, G3 = G2.push ⟨[.bool true, .pointer none, .int .i64 0], 1, false, 1⟩ := ⟨_, rfl⟩
      have x3 : Ext G G3 := by rw [hG3]; exact y2.push _
      have n3 : G3.nx = G2.nx + 1 := by rw [hG3]; rfl
      have o3 : G3.obj G2.nx = some ⟨[.bool true, .pointer none, .int .i64 0], 1, false, 1⟩ := by rw [hG3]; simp
      have q3 : G3.obj G.nx = some ⟨x.cells, 1, false, 1⟩ := by rw [hG3]; simpa [show G.nx ≠ G2.nx by omega] using o2
      by_cases hv : v < 0 ∨ 65535 < v
      · have hs : sendE x c v = 3 := by unfold sendE; rw [if_pos ⟨he, hv⟩]
        rw [hs]
        obtain ⟨G4, hG4⟩ : ∃ G4, G4 = G3.put G2.nx ⟨[.bool true, .pointer none, .int .i64 3], 1, false, 1⟩ := ⟨_, rfl⟩
        have x4 : Ext G G4 := by rw [hG4]; exact x3.put (by omega) _
        have n4 : G4.nx = G3.nx := by rw [hG4]; rfl
        have o4 : G4.obj G2.nx = some ⟨[.bool true, .pointer none, .int .i64 3], 1, false, 1⟩ := by rw [hG4]; simp
        have q4 : G4.obj G.nx = some ⟨x.cells, 1, false, 1⟩ := by rw [hG4]; simpa [show G.nx ≠ G2.nx by omega] using q3
        obtain ⟨G5, e5, x5⟩ := mbox_ok orc x c G4
        rw [box_zero he] at e5
        have o5 := (x5.obj G2.nx (by omega)).trans o4
        have y5 := x4.trans x5
        have n5 := x5.nx
        have hfin : ∀ c1 c2, Ext G (((G5.push c1).put G5.nx c2)) ∧ (((G5.push c1).put G5.nx c2)).obj G2.nx = some ⟨[.bool true, .pointer none, .int .i64 3], 1, false, 1⟩ := fun c1 c2 => ⟨(y5.push _).put (by have := y5.nx; omega) _, by simp [show G2.nx ≠ G5.nx by omega, o5]⟩
        by_cases hv0 : v < 0
        · simp [s137, sb137, j137_0, jb137_0, clip_t, ← hG1, o1, e2, ← hG3, o3, hv0, ← hG4, q4, e5, MB.ring, show G2.nx ≠ G5.nx by omega, o5, splice_put, splice_end]
          exact ⟨(hfin _ _).1, by omega⟩
        · have hv1 : 65535 < v := by omega
          simp [s137, sb137, j137_0, jb137_0, clip_t, ← hG1, o1, e2, ← hG3, o3, hv0, hv1, ← hG4, q4, e5, MB.ring, show G2.nx ≠ G5.nx by omega, o5, splice_put, splice_end]
          exact ⟨(hfin _ _).1, by omega⟩
      · have hs : sendE x c v = 0 := by unfold sendE; rw [if_neg (fun h => hv h.2), he]
        rw [hs]
        obtain ⟨G5, e5, x5⟩ := mbox_ok orc x c G3
        rw [box_zero he] at e5
        have o5 := (x5.obj G2.nx (by omega)).trans o3
        have y5 := x3.trans x5
        have n5 := x5.nx
        obtain ⟨G6, hG6⟩ : ∃ G6, G6 = (G5.push ⟨zR, 1, false, 1⟩).put G5.nx ⟨x.ring c, 1, false, 1⟩ := ⟨_, rfl⟩
        have x6 : Ext G G6 := by rw [hG6]; exact (y5.push _).put (by have := y5.nx; omega) _
        have n6 : G6.nx = G5.nx + 1 := by rw [hG6]; rfl
        have o6 : G6.obj G2.nx = some ⟨[.bool true, .pointer none, .int .i64 0], 1, false, 1⟩ := by rw [hG6]; simpa [show G2.nx ≠ G5.nx by omega] using o5
        obtain ⟨b, G7, e7, x7⟩ := newpush_ok orc (n := x.room) (v := v) (by omega) hp.1.2.2.1 hp.1.2.2.2 (IntKind.wrap .i64 (x.first + IntKind.wrap .i64 (c * IntKind.wrap .i64 (x.room + 2)))) (IntKind.wrap .i64 (IntKind.wrap .i64 (x.first + IntKind.wrap .i64 (c * IntKind.wrap .i64 (x.room + 2))) + 1)) (IntKind.wrap .i64 (IntKind.wrap .i64 (x.first + IntKind.wrap .i64 (c * IntKind.wrap .i64 (x.room + 2))) + 2)) G6
        have o7 := (x7.obj G2.nx (by omega)).trans o6
        have y7 := x6.trans x7
        have n7 := x7.nx
        have hv0 : ¬ v < 0 := by omega
        have hv1 : ¬ 65535 < v := by omega
        have p6 : G6.obj G5.nx = some ⟨x.ring c, 1, false, 1⟩ := by rw [hG6]; simp
        unfold MB.ring at hG6 p6
        simp [s137, sb137, j137_0, jb137_0, clip_t, ← hG1, o1, e2, ← hG3, o3, hv0, hv1, q3, e5, MB.ring, show G2.nx ≠ G5.nx by omega, o5, splice_put, splice_end, ← hG6, o6, p6, e7, o7]
        exact ⟨y7.put (by omega) _, by omega⟩
    · have hs : sendE x c v = x.ref c := by unfold sendE; rw [if_neg (fun h => he h.1)]
      rw [hs]
      obtain ⟨G3, hG3⟩ : ∃ G3, G3 = G2.push ⟨[.bool true, .pointer none, .int .i64 (x.ref c)], 1, false, 1⟩ := ⟨_, rfl⟩
      have x3 : Ext G G3 := by rw [hG3]; exact y2.push _
      have n3 : G3.nx = G2.nx + 1 := by rw [hG3]; rfl
      have o3 : G3.obj G2.nx = some ⟨[.bool true, .pointer none, .int .i64 (x.ref c)], 1, false, 1⟩ := by rw [hG3]; simp
      have q3 : G3.obj G.nx = some ⟨x.cells, 1, false, 1⟩ := by rw [hG3]; simpa [show G.nx ≠ G2.nx by omega] using o2
      obtain ⟨G5, e5, x5⟩ := mbox_ok orc x c G3
      rw [box_not he] at e5
      have o5 := (x5.obj G2.nx (by omega)).trans o3
      have y5 := x3.trans x5
      have n5 := x5.nx
      simp [s137, sb137, j137_0, jb137_0, clip_t, ← hG1, o1, e2, ← hG3, o3, he, q3, e5, MB.ring, show G2.nx ≠ G5.nx by omega, o5, splice_put, splice_end]
      exact ⟨(y5.push _).put (by have := y5.nx; omega) _, by omega⟩
  obtain ⟨⟨u, G'⟩, e1, b, p, rfl, h1, h2, h3, h4, h5⟩ := w
  exact ⟨b, p, G', f137 (exL_ok Q orc) _ _ _ G _ e1, h1, h2, h3, h4, h5⟩
end
end Go.Proofs.YtdohlgkmaeipjaaGreat.Lift

set_option linter.unusedVariables false
set_option linter.unusedSimpArgs false
set_option maxRecDepth 20000
namespace Go.Proofs.YtdohlgkmaeipjaaGreat.Lift
open Go Go.Proofs.YtdohlgkmaeipjaaGreat.Gh Go.Proofs
section
variable {x : MB} {c v : Int} {G : GS}
theorem rnewsend_ok (orc : FuncId → Bool) (x : MB) (c v : Int) (G : GS) : ∃ b p G', (E orc).cl 138 [x.v, .int .i64 c, .int .i64 v] G = some (P0 b, G') ∧ Ext G G' ∧ G'.obj b = some ⟨[p, .bool (decide (sendE x c v ≠ 0)), .int .i64 (sendE x c v)], 1, false, 1⟩ ∧ (G.nx ≤ b ∧ b < G'.nx) := by
  obtain ⟨G1, hG1⟩ : ∃ G1, G1 = G.push ⟨x.cells, 1, false, 1⟩ := ⟨_, rfl⟩
  have x1 : Ext G G1 := by rw [hG1]; exact (Ext.refl G).push _
  have n1 : G1.nx = G.nx + 1 := by rw [hG1]; rfl
  have o1 : G1.obj G.nx = some ⟨x.cells, 1, false, 1⟩ := by rw [hG1]; simp
  obtain ⟨G2, e2, x2⟩ := rref_ok orc x c G1
  have o2 := (x2.obj G.nx (by omega)).trans o1
  have y2 := x1.trans x2
  have n2 := x2.nx
  have w : Wp (s138 true (exL Q orc) x.v (.int .i64 c) (.int .i64 v) G) fun r => ∃ b p, r.1 = P0 b ∧ Ext G r.2 ∧ r.2.obj b = some ⟨[p, .bool (decide (sendE x c v ≠ 0)), .int .i64 (sendE x c v)], 1, false, 1⟩ ∧ (G.nx ≤ b ∧ b < r.2.nx) := by
    by_cases he : x.ref c = 0
    · obtain ⟨hp, hc0, hc1⟩ := ref_zero he
      rw [he] at e2
      by_cases hv : v < 0 ∨ 65535 < v
      · have hs : sendE x c v = 3 := by unfold sendE; rw [if_pos ⟨he, hv⟩]
        rw [hs]
        by_cases hv0 : v < 0
        · simp [s138, sb138, j138_0, jb138_0, clip_t, ← hG1, o1, e2, hv0]
          exact ⟨y2.push _, y2.nx⟩
        · have hv1 : 65535 < v := by omega
          simp [s138, sb138, j138_0, jb138_0, clip_t, ← hG1, o1, e2, hv0, hv1]
          exact ⟨y2.push _, y2.nx⟩
      · have hs : sendE x c v = 0 := by unfold sendE; rw [if_neg (fun h => hv h.2), he]
        rw [hs]
        have hv0 : ¬ v < 0 := by omega
        have hv1 : ¬ 65535 < v := by omega
        obtain ⟨G5, e5, x5⟩ := rring_ok orc x c G2
        obtain ⟨b, G7, e7, x7⟩ := rnewpush_ok orc (n := x.room) (v := v) (by omega) hp.1.2.2.1 hp.1.2.2.2 (IntKind.wrap .i64 (x.first + IntKind.wrap .i64 (c * IntKind.wrap .i64 (x.room + 2)))) (IntKind.wrap .i64 (IntKind.wrap .i64 (x.first + IntKind.wrap .i64 (c * IntKind.wrap .i64 (x.room + 2))) + 1)) (IntKind.wrap .i64 (IntKind.wrap .i64 (x.first + IntKind.wrap .i64 (c * IntKind.wrap .i64 (x.room + 2))) + 2)) G5
        unfold MB.ring at e5
        simp [s138, sb138, j138_0, jb138_0, clip_t, ← hG1, o1, e2, hv0, hv1, o2, e5, e7]
        exact ⟨((y2.trans x5).trans x7).push _, ((y2.trans x5).trans x7).nx⟩
    · have hs : sendE x c v = x.ref c := by unfold sendE; rw [if_neg (fun h => he h.1)]
      rw [hs]
      simp [s138, sb138, j138_0, jb138_0, clip_t, ← hG1, o1, e2, he]
      exact ⟨y2.push _, y2.nx⟩
  obtain ⟨⟨u, G'⟩, e1, b, p, rfl, h1, h2, h3⟩ := w
  exact ⟨b, p, G', f138 (exL_ok Q orc) _ _ _ G _ e1, h1, h2, h3⟩
theorem senderr_ok (orc : FuncId → Bool) {b : Nat} {p : Value} {e : Int} (h : G.obj b = some ⟨[.bool true, p, .int .i64 e], 1, false, 1⟩) (h0 : e = 0 → ∃ q, p = P0 q) (h1 : e ≠ 0 → p = .pointer none) : (E orc).cl 141 [P0 b] G = some (.int .i64 (toldE e), G) := by
  refine f141 (exL_ok Q orc) _ G _ ?_
  unfold toldE
  by_cases he : e = 0
  · obtain ⟨q, rfl⟩ := h0 he
    simp [s141, h, he]
  · rw [h1 he] at h
    simp [s141, h, he]
theorem rsenderr_ok (orc : FuncId → Bool) {b : Nat} {p : Value} {e : Int} (h : G.obj b = some ⟨[p, .bool (decide (e ≠ 0)), .int .i64 e], 1, false, 1⟩) : (E orc).cl 142 [P0 b] G = some (.int .i64 (toldE e), G) := by
  refine f142 (exL_ok Q orc) _ G _ ?_
  unfold toldE
  by_cases he : e = 0 <;> simp [s142, h, he]
theorem iface_ne (q : Nat) : gBinF Q .neq 349 (.tmp 18) (.const .nilIface) (.iface 352 (P0 q)) .nilIface = some (.bool true) := by kernel_rfl
theorem iface_nil : gBinF Q .neq 349 (.tmp 18) (.const .nilIface) .nilIface .nilIface = some (.bool false) := by kernel_rfl
theorem drainval_ok (orc : FuncId → Bool) {b : Nat} {r0 r1 r2 r3 : Value} {m e : Int} {now : Value} (h : G.obj b = some ⟨[.bool true, r0, r1, r2, r3, .int .i64 m, now, .slice none 0 0, .int .i64 0, .int .i64 e], 1, false, 1⟩) (h0 : e = 0 → ∃ q, now = .iface 352 (P0 q)) (h1 : e ≠ 0 → now = .nilIface) :
    ∃ G', (E orc).cl 143 [P0 b] G = some (.tuple #[.slice none 0 0, .int .i64 (toldE e)], G') ∧ Ext G G' := by
  unfold toldE
  by_cases he : e = 0
  · obtain ⟨q, rfl⟩ := h0 he
    exact ⟨G, f143 (exL_ok Q orc) _ G _ (by simp [s143, h, he, iface_ne, iface_nil]), Ext.refl G⟩
  · rw [h1 he] at h
    exact ⟨G.room 6, f143 (exL_ok Q orc) _ G _ (by simp [s143, h, he, iface_ne, iface_nil]), (Ext.refl G).room 6⟩
theorem rdrainval_ok (orc : FuncId → Bool) {b : Nat} {r0 r1 r2 r3 r4 r5 r6 r7 r8 : Value} {e : Int} (h : G.obj b = some ⟨[r0, r1, r2, r3, r4, r5, r6, r7, r8, .bool (decide (e ≠ 0)), .int .i64 e], 1, false, 1⟩) :
    ∃ G', (E orc).cl 144 [P0 b] G = some (.tuple #[.slice none 0 0, .int .i64 (toldE e)], G') ∧ Ext G G' := by
  unfold toldE
  by_cases he : e = 0
  · exact ⟨G, f144 (exL_ok Q orc) _ G _ (by simp [s144, h, he]), Ext.refl G⟩
  · exact ⟨G.room 6, f144 (exL_ok Q orc) _ G _ (by simp [s144, h, he]), (Ext.refl G).room 6⟩
end
end Go.Proofs.YtdohlgkmaeipjaaGreat.Lift

set_option linter.unusedVariables false
set_option linter.unusedSimpArgs false
set_option maxRecDepth 20000
namespace Go.Proofs.YtdohlgkmaeipjaaGreat.Lift
open Go Go.Proofs.YtdohlgkmaeipjaaGreat.Gh Go.Proofs
section
variable {x : MB} {c v : Int} {G : GS}
theorem Ext.drawnO {A G' : GS} (h : Ext A G') {n : Nat} (hn : A.nx ≤ n) (o : GObj) : Ext A (((G'.at' n).push o).back G') := by
  refine ⟨by simpa using h.nx, fun g hg => ?_, by simpa using h.nl, fun l hl => by simpa using h.loop l hl⟩
  simp only [obj_back, obj_push, nx_at, obj_at]
  rw [if_neg (by omega)]
  exact h.obj g hg
set_option maxHeartbeats 1000000 in
theorem newdrain_ok (orc : FuncId → Bool) (x : MB) (c v : Int) (G : GS) : ∃ b r0 r1 r2 r3 now G', (E orc).cl 139 [x.v, .int .i64 c, .int .i64 v] G = some (P0 b, G') ∧ Ext G G' ∧ G'.obj b = some ⟨[.bool true, r0, r1, r2, r3, .int .i64 v, now, .slice none 0 0, .int .i64 0, .int .i64 (drainE x c v)], 1, false, 1⟩ ∧ (drainE x c v = 0 → ∃ q, now = .iface 352 (P0 q)) ∧ (drainE x c v ≠ 0 → now = .nilIface) ∧ (G.nx ≤ b ∧ b < G'.nx) := by
  obtain ⟨G1, hG1⟩ : ∃ G1, G1 = G.push ⟨x.cells, 1, false, 1⟩ := ⟨_, rfl⟩
  have x1 : Ext G G1 := by rw [hG1]; exact (Ext.refl G).push _
  have n1 : G1.nx = G.nx + 1 := by rw [hG1]; rfl
  have o1 : G1.obj G.nx = some ⟨x.cells, 1, false, 1⟩ := by rw [hG1]; simp
  obtain ⟨G2, e2, x2⟩ := mref_ok orc x c G1
  have o2 := (x2.obj G.nx (by omega)).trans o1
  have y2 := x1.trans x2
  have n2 := x2.nx
  have w : Wp (s139 true (exL Q orc) x.v (.int .i64 c) (.int .i64 v) G) fun r => ∃ b r0 r1 r2 r3 now, r.1 = P0 b ∧ Ext G r.2 ∧ r.2.obj b = some ⟨[.bool true, r0, r1, r2, r3, .int .i64 v, now, .slice none 0 0, .int .i64 0, .int .i64 (drainE x c v)], 1, false, 1⟩ ∧ (drainE x c v = 0 → ∃ q, now = .iface 352 (P0 q)) ∧ (drainE x c v ≠ 0 → now = .nilIface) ∧ (G.nx ≤ b ∧ b < r.2.nx) := by
    by_cases he : x.ref c = 0
    · obtain ⟨hp, hc0, hc1⟩ := ref_zero he
      rw [he] at e2
      obtain ⟨G3, hG3⟩ : ∃ G3, G3 = G2.push ⟨[.bool true, .int .i64 0, .int .i64 0, .int .i64 0, .int .i64 0, .int .i64 v, .nilIface, .slice none 0 0, .int .i64 0, .int .i64 0], 1, false, 1⟩ := ⟨_, rfl⟩
      have x3 : Ext G G3 := by rw [hG3]; exact y2.push _
      have n3 : G3.nx = G2.nx + 1 := by rw [hG3]; rfl
      have o3 : G3.obj G2.nx = some ⟨[.bool true, .int .i64 0, .int .i64 0, .int .i64 0, .int .i64 0, .int .i64 v, .nilIface, .slice none 0 0, .int .i64 0, .int .i64 0], 1, false, 1⟩ := by rw [hG3]; simp
      have q3 : G3.obj G.nx = some ⟨x.cells, 1, false, 1⟩ := by rw [hG3]; simpa [show G.nx ≠ G2.nx by omega] using o2
      by_cases hv : v < 1
      · have hs : drainE x c v = 3 := by unfold drainE; rw [if_pos ⟨he, hv⟩]
        rw [hs]
        obtain ⟨G4, hG4⟩ : ∃ G4, G4 = G3.put G2.nx ⟨[.bool true, .int .i64 0, .int .i64 0, .int .i64 0, .int .i64 0, .int .i64 v, .nilIface, .slice none 0 0, .int .i64 0, .int .i64 3], 1, false, 1⟩ := ⟨_, rfl⟩
        have x4 : Ext G G4 := by rw [hG4]; exact x3.put (by omega) _
        have n4 : G4.nx = G3.nx := by rw [hG4]; rfl
        have o4 : G4.obj G2.nx = some ⟨[.bool true, .int .i64 0, .int .i64 0, .int .i64 0, .int .i64 0, .int .i64 v, .nilIface, .slice none 0 0, .int .i64 0, .int .i64 3], 1, false, 1⟩ := by rw [hG4]; simp
        have q4 : G4.obj G.nx = some ⟨x.cells, 1, false, 1⟩ := by rw [hG4]; simpa [show G.nx ≠ G2.nx by omega] using q3
        obtain ⟨G5, e5, x5⟩ := mbox_ok orc x c G4
        rw [box_zero he] at e5
        have o5 := (x5.obj G2.nx (by omega)).trans o4
        have y5 := x4.trans x5
        have n5 := x5.nx
        simp [s139, sb139, j139_0, jb139_0, clip_t, ← hG1, o1, e2, ← hG3, o3, hv, ← hG4, q4, e5, MB.ring, show G2.nx ≠ G5.nx by omega, o5, splice_put, splice_end]
        exact ⟨(y5.push _).put (by have := y5.nx; omega) _, _, _, _, _, _, ⟨rfl, rfl, rfl, rfl, rfl⟩, rfl, by omega⟩
      · have hs : drainE x c v = 0 := by unfold drainE; rw [if_neg (fun h => hv h.2), he]
        rw [hs]
        obtain ⟨G5, e5, x5⟩ := mbox_ok orc x c G3
        rw [box_zero he] at e5
        have o5 := (x5.obj G2.nx (by omega)).trans o3
        have y5 := x3.trans x5
        have n5 := x5.nx
        obtain ⟨G6, hG6⟩ : ∃ G6, G6 = ((G5.push ⟨zR, 1, false, 1⟩).put G5.nx ⟨x.ring c, 1, false, 1⟩).room 12 := ⟨_, rfl⟩
        have x6 : Ext G G6 := by rw [hG6]; exact ((y5.push _).put (by have := y5.nx; omega) _).room 12
        have n6 : G5.nx + 1 ≤ G6.nx := by rw [hG6]; simp
        have o6 : G6.obj G2.nx = some ⟨[.bool true, .int .i64 0, .int .i64 0, .int .i64 0, .int .i64 0, .int .i64 v, .nilIface, .slice none 0 0, .int .i64 0, .int .i64 0], 1, false, 1⟩ := by rw [hG6]; simpa [show G2.nx ≠ G5.nx by omega] using o5
        obtain ⟨b, G7, e7, x7⟩ := newfront_ok orc (n := x.room) hp.1.2.2.1 hp.1.2.2.2 (IntKind.wrap .i64 (x.first + IntKind.wrap .i64 (c * IntKind.wrap .i64 (x.room + 2)))) (IntKind.wrap .i64 ((IntKind.wrap .i64 (x.first + IntKind.wrap .i64 (c * IntKind.wrap .i64 (x.room + 2)))) + 1)) (IntKind.wrap .i64 ((IntKind.wrap .i64 (x.first + IntKind.wrap .i64 (c * IntKind.wrap .i64 (x.room + 2)))) + 2)) G6
        have o7 := (x7.obj G2.nx (by omega)).trans o6
        have p6 : G6.obj G5.nx = some ⟨x.ring c, 1, false, 1⟩ := by rw [hG6]; simp
        have p7 := (x7.obj G5.nx (by omega)).trans p6
        have y7 := x6.trans x7
        have n7 := x7.nx
        unfold MB.ring at hG6 p6 p7
        simp [s139, sb139, j139_0, jb139_0, clip_t, ← hG1, o1, e2, ← hG3, o3, hv, q3, e5, MB.ring, show G2.nx ≠ G5.nx by omega, o5, splice_put, splice_end, splice_succ, ← hG6, o6, p6, p7, e7, o7, stO_one 6 (.iface 352 (P0 b)) rfl]
        exact ⟨(y7.put (by omega) _).put (by omega) _, _, _, _, _, _, ⟨rfl, rfl, rfl, rfl, rfl⟩, ⟨_, rfl⟩, by omega⟩
    · have hs : drainE x c v = x.ref c := by unfold drainE; rw [if_neg (fun h => he h.1)]
      rw [hs]
      obtain ⟨G3, hG3⟩ : ∃ G3, G3 = G2.push ⟨[.bool true, .int .i64 0, .int .i64 0, .int .i64 0, .int .i64 0, .int .i64 v, .nilIface, .slice none 0 0, .int .i64 0, .int .i64 (x.ref c)], 1, false, 1⟩ := ⟨_, rfl⟩
      have x3 : Ext G G3 := by rw [hG3]; exact y2.push _
      have n3 : G3.nx = G2.nx + 1 := by rw [hG3]; rfl
      have o3 : G3.obj G2.nx = some ⟨[.bool true, .int .i64 0, .int .i64 0, .int .i64 0, .int .i64 0, .int .i64 v, .nilIface, .slice none 0 0, .int .i64 0, .int .i64 (x.ref c)], 1, false, 1⟩ := by rw [hG3]; simp
      have q3 : G3.obj G.nx = some ⟨x.cells, 1, false, 1⟩ := by rw [hG3]; simpa [show G.nx ≠ G2.nx by omega] using o2
      obtain ⟨G5, e5, x5⟩ := mbox_ok orc x c G3
      rw [box_not he] at e5
      have o5 := (x5.obj G2.nx (by omega)).trans o3
      have y5 := x3.trans x5
      have n5 := x5.nx
      simp [s139, sb139, j139_0, jb139_0, clip_t, ← hG1, o1, e2, ← hG3, o3, he, q3, e5, MB.ring, show G2.nx ≠ G5.nx by omega, o5, splice_put, splice_end]
      exact ⟨(y5.push _).put (by have := y5.nx; omega) _, _, _, _, _, _, ⟨rfl, rfl, rfl, rfl, rfl⟩, rfl, by omega⟩
  obtain ⟨⟨u, G'⟩, e1, b, r0, r1, r2, r3, now, rfl, h1, h2, h3, h4, h5⟩ := w
  exact ⟨b, r0, r1, r2, r3, now, G', f139 (exL_ok Q orc) _ _ _ G _ e1, h1, h2, h3, h4, h5⟩
theorem rnewdrain_ok (orc : FuncId → Bool) (x : MB) (c v : Int) (G : GS) : ∃ b r0 r1 r2 r3 r4 r5 r6 r7 r8 G', (E orc).cl 140 [x.v, .int .i64 c, .int .i64 v] G = some (P0 b, G') ∧ Ext G G' ∧ G'.obj b = some ⟨[r0, r1, r2, r3, r4, r5, r6, r7, r8, .bool (decide (drainE x c v ≠ 0)), .int .i64 (drainE x c v)], 1, false, 1⟩ ∧ (G.nx ≤ b ∧ b < G'.nx) := by
  obtain ⟨G1, hG1⟩ : ∃ G1, G1 = G.push ⟨x.cells, 1, false, 1⟩ := ⟨_, rfl⟩
  have x1 : Ext G G1 := by rw [hG1]; exact (Ext.refl G).push _
  have n1 : G1.nx = G.nx + 1 := by rw [hG1]; rfl
  have o1 : G1.obj G.nx = some ⟨x.cells, 1, false, 1⟩ := by rw [hG1]; simp
  obtain ⟨G2, e2, x2⟩ := rref_ok orc x c G1
  have o2 := (x2.obj G.nx (by omega)).trans o1
  have y2 := x1.trans x2
  have n2 := x2.nx
  have w : Wp (s140 true (exL Q orc) x.v (.int .i64 c) (.int .i64 v) G) fun r => ∃ b r0 r1 r2 r3 r4 r5 r6 r7 r8, r.1 = P0 b ∧ Ext G r.2 ∧ r.2.obj b = some ⟨[r0, r1, r2, r3, r4, r5, r6, r7, r8, .bool (decide (drainE x c v ≠ 0)), .int .i64 (drainE x c v)], 1, false, 1⟩ ∧ (G.nx ≤ b ∧ b < r.2.nx) := by
    by_cases he : x.ref c = 0
    · obtain ⟨hp, hc0, hc1⟩ := ref_zero he
      rw [he] at e2
      by_cases hv : v < 1
      · have hs : drainE x c v = 3 := by unfold drainE; rw [if_pos ⟨he, hv⟩]
        rw [hs]
        simp [s140, sb140, j140_0, jb140_0, clip_t, ← hG1, o1, e2, hv]
        exact ⟨y2.push _, y2.nx⟩
      · have hs : drainE x c v = 0 := by unfold drainE; rw [if_neg (fun h => hv h.2), he]
        rw [hs]
        obtain ⟨G3, hG3⟩ : ∃ G3, G3 = G2.room 11 := ⟨_, rfl⟩
        have x3 : Ext G2 G3 := by rw [hG3]; exact (Ext.refl G2).room 11
        have n3 : G3.nx = G2.nx + 11 := by rw [hG3]; rfl
        have o3 := (x3.obj G.nx (by omega)).trans o2
        obtain ⟨G4, e4, x4⟩ := rring_ok orc x c G3
        have o4 := (x4.obj G.nx (by omega)).trans o3
        obtain ⟨G5, e5, x5⟩ := rring_ok orc x c G4
        obtain ⟨b, G7, e7, x7⟩ := rnewfront_ok orc (n := x.room) hp.1.2.2.1 hp.1.2.2.2 (IntKind.wrap .i64 (x.first + IntKind.wrap .i64 (c * IntKind.wrap .i64 (x.room + 2)))) (IntKind.wrap .i64 ((IntKind.wrap .i64 (x.first + IntKind.wrap .i64 (c * IntKind.wrap .i64 (x.room + 2)))) + 1)) (IntKind.wrap .i64 ((IntKind.wrap .i64 (x.first + IntKind.wrap .i64 (c * IntKind.wrap .i64 (x.room + 2)))) + 2)) G5
        have y7 := (((y2.trans x3).trans x4).trans x5).trans x7
        have n7 := ((x4.trans x5).trans x7).nx
        unfold MB.ring at e4 e5
        simp [s140, sb140, j140_0, jb140_0, clip_t, ← hG1, o1, e2, hv, o2, ← hG3, o3, e4, o4, e5, e7]
        exact ⟨Ext.drawnO y7 (by omega) _, by omega⟩
    · have hs : drainE x c v = x.ref c := by unfold drainE; rw [if_neg (fun h => he h.1)]
      rw [hs]
      simp [s140, sb140, j140_0, jb140_0, clip_t, ← hG1, o1, e2, he]
      exact ⟨y2.push _, y2.nx⟩
  obtain ⟨⟨u, G'⟩, e1, b, r0, r1, r2, r3, r4, r5, r6, r7, r8, rfl, h1, h2, h3⟩ := w
  exact ⟨b, r0, r1, r2, r3, r4, r5, r6, r7, r8, G', f140 (exL_ok Q orc) _ _ _ G _ e1, h1, h2, h3⟩
end
end Go.Proofs.YtdohlgkmaeipjaaGreat.Lift

set_option linter.unusedVariables false
set_option linter.unusedSimpArgs false
set_option maxRecDepth 20000
namespace Go.Proofs.YtdohlgkmaeipjaaGreat.Lift
open Go Go.Proofs.YtdohlgkmaeipjaaGreat.Gh Go.Proofs
section
variable {x : MB} {c v : Int} {G : GS}
theorem same_nil (orc : FuncId → Bool) (G : GS) : (E orc).cl 84 [.slice none 0 0, .slice none 0 0] G = some (.bool true, G) := by
  have w : Wp (s84 true (exL Q orc) (.slice none 0 0) (.slice none 0 0) G) fun r => r = (.bool true, G) := by
    simp [s84]
    refine Wp.bE (Wp.lp (l84_0 (exL_ok Q orc)) ?_)
    simp [b84_0, clip_t]
  obtain ⟨r, e1, rfl⟩ := w
  exact f84 (exL_ok Q orc) _ _ G _ e1
theorem over_nil (orc : FuncId → Bool) (G : GS) : (E orc).cl 145 [.slice none 0 0] G = some (.tuple #[], G) := by
  have w : Wp (s145 true (exL Q orc) (.slice none 0 0) G) fun r => r = (.tuple #[], G) := by
    simp [s145]
    refine Wp.bE (Wp.lp (l145_0 (exL_ok Q orc)) ?_)
    simp [b145_0, clip_t]
  obtain ⟨r, e1, rfl⟩ := w
  exact f145 (exL_ok Q orc) _ G _ e1
/-- what an operation that has been begun tells, both sides -/
def BothS (G : GS) (u : Value) : Prop := ∃ b p b' p' e, u = .agg ⟨[P0 b, P0 b', .pointer none, .pointer none]⟩ ∧ b < G.nx ∧ b' < G.nx ∧ G.obj b = some ⟨[.bool true, p, .int .i64 e], 1, false, 1⟩ ∧ (e = 0 → ∃ q, p = P0 q) ∧ (e ≠ 0 → p = .pointer none) ∧ G.obj b' = some ⟨[p', .bool (decide (e ≠ 0)), .int .i64 e], 1, false, 1⟩
def BothD (G : GS) (u : Value) : Prop := ∃ b b' e r0 r1 r2 r3 m now q0 q1 q2 q3 q4 q5 q6 q7 q8, u = .agg ⟨[.pointer none, .pointer none, P0 b, P0 b']⟩ ∧ b < G.nx ∧ b' < G.nx ∧ G.obj b = some ⟨[.bool true, r0, r1, r2, r3, .int .i64 m, now, .slice none 0 0, .int .i64 0, .int .i64 e], 1, false, 1⟩ ∧ (e = 0 → ∃ q, now = .iface 352 (P0 q)) ∧ (e ≠ 0 → now = .nilIface) ∧ G.obj b' = some ⟨[q0, q1, q2, q3, q4, q5, q6, q7, q8, .bool (decide (e ≠ 0)), .int .i64 e], 1, false, 1⟩
theorem told_s (orc : FuncId → Bool) {u : Value} (h : BothS G u) : ∃ G', (E orc).cl 38 [u] G = some (.bool true, G') ∧ Ext G G' := by
  obtain ⟨b, p, b', p', e, rfl, l1, l2, o1, h0, h1, o2⟩ := h
  obtain ⟨G1, hG1⟩ : ∃ G1, G1 = (G.push ⟨[P0 b, P0 b', .pointer none, .pointer none], 1, false, 1⟩).room 8 := ⟨_, rfl⟩
  have x1 : Ext G G1 := by rw [hG1]; exact ((Ext.refl G).push _).room 8
  have q1 := (x1.obj b l1).trans o1
  have q2 := (x1.obj b' l2).trans o2
  have q3 : G1.obj G.nx = some ⟨[P0 b, P0 b', .pointer none, .pointer none], 1, false, 1⟩ := by rw [hG1]; simp
  refine ⟨G1, f38 (exL_ok Q orc) _ G _ ?_, x1⟩
  simp [s38, ← hG1, q3, senderr_ok orc q1 h0 h1, rsenderr_ok orc q2]
theorem told_d (orc : FuncId → Bool) {u : Value} (h : BothD G u) : ∃ G', (E orc).cl 38 [u] G = some (.bool true, G') ∧ Ext G G' := by
  obtain ⟨b, b', e, r0, r1, r2, r3, m, now, t0, t1, t2, t3, t4, t5, t6, t7, t8, rfl, l1, l2, o1, h0, h1, o2⟩ := h
  obtain ⟨G1, hG1⟩ : ∃ G1, G1 = G.push ⟨[.pointer none, .pointer none, P0 b, P0 b'], 1, false, 1⟩ := ⟨_, rfl⟩
  have x1 : Ext G G1 := by rw [hG1]; exact (Ext.refl G).push _
  have q1 := (x1.obj b l1).trans o1
  have q2 := (x1.obj b' l2).trans o2
  have q3 : G1.obj G.nx = some ⟨[.pointer none, .pointer none, P0 b, P0 b'], 1, false, 1⟩ := by rw [hG1]; simp
  have n1 : G1.nx = G.nx + 1 := by rw [hG1]; rfl
  obtain ⟨G2, e2, x2⟩ := drainval_ok orc q1 h0 h1
  have q4 := (x2.obj G.nx (by omega)).trans q3
  obtain ⟨G3, e3, x3⟩ := rdrainval_ok orc ((x2.obj b' (by omega)).trans q2)
  refine ⟨G3, f38 (exL_ok Q orc) _ G _ ?_, (x1.trans x2).trans x3⟩
  simp [s38, ← hG1, q3, e2, q4, e3, same_nil, over_nil]
theorem begin_s (orc : FuncId → Bool) (x : MB) (c v w : Int) (G : GS) : ∃ u G', (E orc).cl 37 [x.v, .agg ⟨[.int .i64 w, .int .i64 1, .int .i64 c, .int .i64 v]⟩] G = some (u, G') ∧ Ext G G' ∧ BothS G' u := by
  obtain ⟨G1, hG1⟩ : ∃ G1, G1 = (((G.push ⟨x.cells, 1, false, 1⟩).push ⟨[.int .i64 w, .int .i64 1, .int .i64 c, .int .i64 v], 1, false, 1⟩).push ⟨[.pointer none, .pointer none, .pointer none, .pointer none], 1, false, 1⟩).room 14 := ⟨_, rfl⟩
  have x1 : Ext G G1 := by rw [hG1]; exact ((((Ext.refl G).push _).push _).push _).room 14
  have n1 : G1.nx = G.nx + 17 := by rw [hG1]; rfl
  have o0 : G1.obj G.nx = some ⟨x.cells, 1, false, 1⟩ := by rw [hG1]; simp [Nat.add_assoc]
  have o1 : G1.obj (G.nx + 1) = some ⟨[.int .i64 w, .int .i64 1, .int .i64 c, .int .i64 v], 1, false, 1⟩ := by rw [hG1]; simp [Nat.add_assoc]
  have o2 : G1.obj (G.nx + 2) = some ⟨[.pointer none, .pointer none, .pointer none, .pointer none], 1, false, 1⟩ := by rw [hG1]; simp [Nat.add_assoc]
  obtain ⟨b, p, G2, e2, x2, h1, h2, h3, h4⟩ := newsend_ok orc x c v G1
  have p0 := (x2.obj G.nx (by omega)).trans o0
  have p1 := (x2.obj (G.nx + 1) (by omega)).trans o1
  have p2 := (x2.obj (G.nx + 2) (by omega)).trans o2
  obtain ⟨b', p', G3, e3, x3, k1, k2⟩ := rnewsend_ok orc x c v G2
  have r2 := (x3.obj (G.nx + 2) (by have := x2.nx; omega)).trans p2
  have hb := (x3.obj b h4.2).trans h1
  have y3 := (x1.trans x2).trans x3
  have n3 := x3.nx
  have n2 := x2.nx
  have d1 : G.nx + 1 + 1 = G.nx + 2 := rfl
  have hw : Wp (s37 true (exL Q orc) x.v (.agg ⟨[.int .i64 w, .int .i64 1, .int .i64 c, .int .i64 v]⟩) G) fun r => r = (.agg ⟨[P0 b, P0 b', .pointer none, .pointer none]⟩, G3.put (G.nx + 2) ⟨[P0 b, P0 b', .pointer none, .pointer none], 1, false, 1⟩) := by
    simp [s37, ← hG1, o0, o1, o2, e2, p0, p1, p2, e3, r2, splice_put, splice_end]
  obtain ⟨r, e4, rfl⟩ := hw
  refine ⟨_, _, f37 (exL_ok Q orc) _ _ G _ e4, y3.put (by omega) _, b, p, b', p', _, rfl, by have := h4.2; simp; omega, by have := k2.2; simp; omega, ?_, h2, h3, ?_⟩
  · rw [obj_put, if_neg (by have := h4.1; omega)]; exact hb
  · rw [obj_put, if_neg (by have := k2.1; omega)]; exact k1
theorem begin_d (orc : FuncId → Bool) (x : MB) (c v w : Int) (G : GS) : ∃ u G', (E orc).cl 37 [x.v, .agg ⟨[.int .i64 w, .int .i64 2, .int .i64 c, .int .i64 v]⟩] G = some (u, G') ∧ Ext G G' ∧ BothD G' u := by
  obtain ⟨G1, hG1⟩ : ∃ G1, G1 = (((G.push ⟨x.cells, 1, false, 1⟩).push ⟨[.int .i64 w, .int .i64 2, .int .i64 c, .int .i64 v], 1, false, 1⟩).push ⟨[.pointer none, .pointer none, .pointer none, .pointer none], 1, false, 1⟩).room 14 := ⟨_, rfl⟩
  have x1 : Ext G G1 := by rw [hG1]; exact ((((Ext.refl G).push _).push _).push _).room 14
  have n1 : G1.nx = G.nx + 17 := by rw [hG1]; rfl
  have o0 : G1.obj G.nx = some ⟨x.cells, 1, false, 1⟩ := by rw [hG1]; simp [Nat.add_assoc]
  have o1 : G1.obj (G.nx + 1) = some ⟨[.int .i64 w, .int .i64 2, .int .i64 c, .int .i64 v], 1, false, 1⟩ := by rw [hG1]; simp [Nat.add_assoc]
  have o2 : G1.obj (G.nx + 2) = some ⟨[.pointer none, .pointer none, .pointer none, .pointer none], 1, false, 1⟩ := by rw [hG1]; simp [Nat.add_assoc]
  obtain ⟨b, a0, a1, a2, a3, now, G2, e2, x2, h1, h2, h3, h4⟩ := newdrain_ok orc x c v G1
  have p0 := (x2.obj G.nx (by omega)).trans o0
  have p1 := (x2.obj (G.nx + 1) (by omega)).trans o1
  have p2 := (x2.obj (G.nx + 2) (by omega)).trans o2
  obtain ⟨b', t0, t1, t2, t3, t4, t5, t6, t7, t8, G3, e3, x3, k1, k2⟩ := rnewdrain_ok orc x c v G2
  have r2 := (x3.obj (G.nx + 2) (by have := x2.nx; omega)).trans p2
  have hb := (x3.obj b h4.2).trans h1
  have y3 := (x1.trans x2).trans x3
  have n3 := x3.nx
  have n2 := x2.nx
  have d1 : G.nx + 1 + 1 = G.nx + 2 := rfl
  have hw : Wp (s37 true (exL Q orc) x.v (.agg ⟨[.int .i64 w, .int .i64 2, .int .i64 c, .int .i64 v]⟩) G) fun r => r = (.agg ⟨[.pointer none, .pointer none, P0 b, P0 b']⟩, G3.put (G.nx + 2) ⟨[.pointer none, .pointer none, P0 b, P0 b'], 1, false, 1⟩) := by
    simp [s37, ← hG1, o0, o1, o2, e2, p0, p1, p2, e3, r2, splice_put, splice_end]
  obtain ⟨r, e4, rfl⟩ := hw
  refine ⟨_, _, f37 (exL_ok Q orc) _ _ G _ e4, y3.put (by omega) _, b, b', _, a0, a1, a2, a3, v, now, t0, t1, t2, t3, t4, t5, t6, t7, t8, rfl, by have := h4.2; simp; omega, by have := k2.2; simp; omega, ?_, h2, h3, ?_⟩
  · rw [obj_put, if_neg (by have := h4.1; omega)]; exact hb
  · rw [obj_put, if_neg (by have := k2.1; omega)]; exact k1
end
end Go.Proofs.YtdohlgkmaeipjaaGreat.Lift

