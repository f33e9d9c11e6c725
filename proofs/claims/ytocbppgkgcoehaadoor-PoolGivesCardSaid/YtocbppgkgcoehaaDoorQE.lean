/- contracts of the program's functions -/
import Derived.Test.YtocbppgkgcoehaaDoorQD
set_option linter.unusedVariables false
set_option linter.unusedSimpArgs false
set_option maxRecDepth 20000
namespace Go.Proofs.YtocbppgkgcoehaaDoor.Lift
open Go Go.Proofs.YtocbppgkgcoehaaDoor.Gh Go.Proofs
section
variable {B G : GS}
theorem behA_len {l : List Int} (h : l.length ≤ 1024) (op : Opn) (an : An) : (behA l op an).length ≤ 1024 := by
  unfold behA
  split
  · have := behN_len l op an 1024; omega
  · exact h
theorem playL_len1 : ∀ (l : List Opn) (s : List Int), (playL s l).1.length = l.length
  | [], _ => rfl
  | op :: l, s => by unfold playL; simp [playL_len1 l]
theorem playL_len : ∀ (l : List Opn) {s : List Int}, s.length ≤ 1024 → (playL s l).2.length ≤ 1024
  | [], _, h => h
  | op :: l, s, h => by
    unfold playL
    refine playL_len l ?_
    unfold stepL
    split
    · exact h
    · exact behA_len h _ _
set_option maxHeartbeats 2000000 in
theorem rplay_lp (orc : FuncId → Bool) {v1 : Value} {L : List Opn} (hL : SlR rOp B v1 L) (hlen : L.length ≤ 1000000) :
    ∀ (k i : Nat) (τ : Env) (G : GS) (s : List Int) (w v : Value) (pre : List An), i + k = L.length → pre.length = i → τ 1 = v1 → τ 7 = w → τ 8 = v → τ 9 = .int .i64 (i : Int) → s.length ≤ 1024 → Ext B G → SlR (rowsI .i64) G w s → OwR rAn B.nx G v pre → (∀ g, InB w g → ¬ InB v g) →
    Wp ((exL Q orc).lpx 24 0 τ G) fun q => q.1 = .exit 0 ∧ Ext B q.2.2 ∧ SlR (rowsI .i64) q.2.2 (q.2.1 7) (playL s (L.drop i)).2 ∧ SlR rAn q.2.2 (q.2.1 8) (pre ++ (playL s (L.drop i)).1) := by
  intro k
  induction k with
  | zero =>
    intro i τ G s w v pre hi hp t1 t7 t8 t9 hs x hw hv hd
    have hi' : i = L.length := by omega
    obtain ⟨a, c, e0⟩ := hL.len
    refine Wp.lp (l24_0 (exL_ok Q orc)) ?_
    have hd : L.drop i = [] := by rw [hi']; simp
    rw [hd]
    subst hi'
    simp [b24_0, bb24_0, clip_t, t1, t7, t8, t9, e0, playL]
    exact ⟨x, hw, hv.is⟩
  | succ k ih =>
    intro i τ G s w v pre hi hp t1 t7 t8 t9 hs x hw hv hd
    have hlt : i < L.length := by omega
    have hwr : IntKind.wrap .i64 ((i : Int) + 1) = ((i + 1 : Nat) : Int) := wrap64 (by omega) (by omega)
    have h1 : (i : Int) < L.length := by omega
    have h2 : (0 : Int) ≤ i := by omega
    obtain ⟨b, o, c, e0, hb, _, q0⟩ := (hL.ext x).at hlt
    simp only [rOp_sz, rOp_row] at q0
    rw [List.drop_eq_getElem_cons hlt]
    have hLi : L[i] = L[i] := rfl
    generalize hop : L[i] = op at *
    obtain ⟨u, G1, e1, x1, w1⟩ := rall_ok orc hw (by omega) op
    obtain ⟨G2, hG2⟩ : ∃ G2, G2 = G1.push ⟨z28, 1, false, 1⟩ := ⟨_, rfl⟩
    have x2 : Ext G1 G2 := by rw [hG2]; exact (Ext.refl G1).push _
    have n2 : G2.nx = G1.nx + 1 := by rw [hG2]; rfl
    have oa : G2.obj G1.nx = some ⟨[.int .i64 0, .int .i64 0, .int .u64 0], 1, false, 1⟩ := by rw [hG2]; simp
    obtain ⟨ua, uc, eu⟩ := w1.is.len
    have lu : ln Q true 33 u = some (.int .i64 (allA s op).length) := by rw [eu]; simp
    have b1 := x1.nx
    have bx := x.nx
    have fin : ∀ (τ' : Env) (G' : GS) (w' : Value), Ext G G' → G1.nx < G'.nx → G'.obj G1.nx = some ⟨[.int .i64 (stepL s op).1.1, .int .i64 (stepL s op).1.2.1, .int .u64 (stepL s op).1.2.2], 1, false, 1⟩ → SlR (rowsI .i64) G' w' (stepL s op).2 → (∀ g, InB w' g → ¬ InB v g) →
        τ' 1 = v1 → τ' 7 = w' → τ' 8 = v → τ' 11 = P0 G1.nx → τ' 9 = .int .i64 (i : Int) → 
        Wp (jbl24_0_0 true (exL Q orc) ((exL Q orc).lpx 24 0) τ' G') fun q => q.1 = .exit 0 ∧ Ext B q.2.2 ∧ SlR (rowsI .i64) q.2.2 (q.2.1 7) (playL s (op :: L.drop (i + 1))).2 ∧ SlR rAn q.2.2 (q.2.1 8) (pre ++ (playL s (op :: L.drop (i + 1))).1) := by
      intro τ' G' w' xG hlt' o1 hw' hd' s1 s7 s8 s11 s9
      have x3 := (Ext.refl G').push ⟨rAn.row (stepL s op).1, 3, false, 1⟩
      have hv' := (hv.ext (xG.trans x3))
      obtain ⟨v', G2, e2, m2, ov2⟩ := hv'.app_mod (ib := 24) (by decide) (SlR.one rAn G' (stepL s op).1) (by simp) (by simp; omega)
      have n3 := m2.nx
      simp only [rAn_sz, rAn_row] at e2
      have hs' : (stepL s op).2.length ≤ 1024 := by
        unfold stepL
        split
        · exact hs
        · exact behA_len hs _ _
      have xB2 : Ext B G2 := ModP.tail (x.trans (xG.trans x3)) m2 fun g hg => hv'.from hg
      have hw2 := (hw'.ext x3).kept n3 fun g hg => m2.obj g ((hw'.ext x3).under g hg) (hd' g hg)
      simp at n3
      simp [-Int.natCast_add, jbl24_0_0, s1, s7, s8, s11, s9, o1, e2, hwr]
      refine Wp.mono (ih (i + 1) _ G2 (stepL s op).2 w' v' (pre ++ [(stepL s op).1]) (by omega) (by simp [hp]) ?_ ?_ ?_ ?_ hs' xB2 hw2 (ov2.mono (by simp; have := xG.nx; omega)) ?_) fun q hq => ?_
      · simp [clip_t, s1]
      · simp [clip_t, s7]
      · simp [clip_t]
      · simp [clip_t]
      · intro g hg hg'
        have h3 := (hw'.ext x3).under g hg
        have h4 := ov2.from hg'
        simp only [nx_push] at h3 h4
        omega
      · simpa [playL] using hq
    clear ih
    refine Wp.lp (l24_0 (exL_ok Q orc)) ?_
    cases hA : allA s op with
    | nil =>
      have hst : stepL s op = ((0, 0, 0), s) := by unfold stepL; rw [hA]
      rw [hA] at lu
      simp [-loadA_s, -Int.natCast_add, b24_0, bb24_0, jl24_0_0, clip_t, t1, t7, t8, t9, e0, h1, h2, hlt, q0, e1, lu, ← hG2]
      refine fin _ _ w (x1.trans x2) (by omega) ?_ ?_ hd ?_ ?_ ?_ ?_ ?_
      · rw [hst]; exact oa
      · rw [hst]; exact hw.ext (x1.trans x2)
      · simp [clip_t, e0]
      · simp [clip_t, t7]
      · simp [clip_t, t8]
      · simp [clip_t]
      · simp [clip_t, t9]
    | cons a R =>
      have hst : stepL s op = (a, behA s op a) := by unfold stepL; rw [hA]
      have hpos : 0 < (allA s op).length := by rw [hA]; simp
      have hlen2 := allA_len s op
      obtain ⟨ub, uo, uc', eu', _, _, qu⟩ := ((w1.is).ext x2).at hpos
      have ha0 : (allA s op)[0] = a := by simp [hA]
      rw [ha0] at qu
      rw [eu] at eu'
      simp only [Value.slice.injEq, Option.some.injEq, and_true, true_and] at eu'
      obtain ⟨rfl, rfl⟩ := eu'
      simp only [rAn_sz, rAn_row, Nat.zero_mul, Nat.add_zero] at qu
      obtain ⟨G3, hG3⟩ : ∃ G3, G3 = G2.put G1.nx ⟨[.int .i64 a.1, .int .i64 a.2.1, .int .u64 a.2.2], 1, false, 1⟩ := ⟨_, rfl⟩
      have x3 : Ext G G3 := by rw [hG3]; exact (x1.trans x2).put b1 _
      have n3 : G3.nx = G2.nx := by rw [hG3]; rfl
      have o3 : G3.obj G1.nx = some ⟨[.int .i64 a.1, .int .i64 a.2.1, .int .u64 a.2.2], 1, false, 1⟩ := by rw [hG3]; simp
      obtain ⟨_, _, _, e0', _, _, q3⟩ := (hL.ext (x.trans (x3.room 8))).at hlt
      rw [e0] at e0'
      simp only [Value.slice.injEq, Option.some.injEq, Addr.mk.injEq, and_true, true_and] at e0'
      obtain ⟨⟨rfl, rfl⟩, rfl⟩ := e0'
      simp only [rOp_sz, rOp_row, hop] at q3
      obtain ⟨w', G4, e4, x4, w4⟩ := behind_ok orc (hw.ext (x3.room 8)) (by omega) op a
      have y4 := x3.room 8 |>.trans x4
      have r3 : Ext G3 G4 := ((Ext.refl G3).room 8).trans x4
      have o4 := (r3.obj G1.nx (by omega)).trans o3
      have n4 := r3.nx
      have hp0 : (0 : Int) < (allA s op).length := by omega
      simp only [loadA_room] at q3
      simp [-loadA_s, -Int.natCast_add, b24_0, bb24_0, jl24_0_0, clip_t, t1, t7, t8, t9, e0, h1, h2, hlt, q0, e1, lu, eu, hp0, hpos, ← hG2, qu, oa, ← hG3, q3, loadA_whole o3, e4]
      refine fin _ _ w' y4 (by omega) ?_ ?_ ?_ ?_ ?_ ?_ ?_ ?_
      · rw [hst]; exact o4
      · rw [hst]; exact w4.is
      · intro g hg hg'
        have h3 := w4.from hg
        have h4 := hv.is.under g hg'
        simp only [nx_room] at h3
        omega
      · simp [clip_t, e0]
      · simp [clip_t]
      · simp [clip_t, t8]
      · simp [clip_t]
      · simp [clip_t, t9]
theorem rplay_ok (orc : FuncId → Bool) {v1 : Value} {L : List Opn} (hL : SlR rOp B v1 L) (hlen : L.length ≤ 1000000) (n : Int) (hn : 0 ≤ n ∧ n ≤ 1024) :
    ∃ u v G', (E orc).cl 24 [.int .i64 n, v1] B = some (.tuple #[u, v, .int .i64 0], G') ∧ Ext B G' ∧ SlR rAn G' u (playL (restI [] n.toNat) L).1 ∧ SlR (rowsI .i64) G' v (playL (restI [] n.toNat) L).2 := by
  have w : Wp ((E orc).cl 24 [.int .i64 n, v1] B) fun q => ∃ u v, q.1 = .tuple #[u, v, .int .i64 0] ∧ Ext B q.2 ∧ SlR rAn q.2 u (playL (restI [] n.toNat) L).1 ∧ SlR (rowsI .i64) q.2 v (playL (restI [] n.toNat) L).2 := by
    refine Wp.ref (f24 (exL_ok Q orc) _ _ B) ?_
    obtain ⟨w, G1, e1, x1, w1⟩ := rrest_ok orc (G := B) (v0 := .slice none 0 0) (A := []) SlR.nil (by simp) n
    have c1 : ¬ n < 0 := by omega
    have c2 : ¬ 1024 < n := by omega
    have hlow : lowN n = n.toNat := by unfold lowN; omega
    have hr : (restN [] n).map (fun n : Nat => (n : Int)) = restI [] n.toNat := by unfold restN restI; rw [hlow]
    rw [hr] at w1
    simp [s24, c1, c2, e1]
    refine Wp.bE (Wp.mono (rplay_lp orc (B := B) hL hlen L.length 0 _ G1 (restI [] n.toNat) w (.slice none 0 0) [] (by omega) rfl ?_ ?_ ?_ ?_ (by have := restI_len [] n.toNat; omega) x1 w1.is (OwR.nil _ _) ?_) ?_)
    · simp
    · simp
    · simp
    · simp
    · rintro g _ ⟨a, n', c', h, _⟩; cases h
    rintro ⟨e, τ, G3⟩ ⟨rfl, x3, h7, h8⟩
    simp only [List.drop_zero, List.nil_append] at x3 h7 h8
    simp
    exact ⟨_, _, ⟨rfl, rfl⟩, x3, h8, h7⟩
  obtain ⟨⟨v, G'⟩, e, u, v', rfl, h⟩ := w
  exact ⟨u, v', G', e, h⟩
theorem rplay_bad (orc : FuncId → Bool) (v1 : Value) (n : Int) (hn : ¬ (0 ≤ n ∧ n ≤ 1024)) (G : GS) : (E orc).cl 24 [.int .i64 n, v1] G = some (.tuple #[.slice none 0 0, .slice none 0 0, .int .i64 3], G) := by
  refine f24 (exL_ok Q orc) _ _ G _ ?_
  by_cases c1 : n < 0
  · simp [s24, c1]
  · have c2 : 1024 < n := by omega
    simp [s24, c1, c2]
theorem poolPlays (orc : FuncId → Bool) (haw : orc 8 = true) {v1 : Value} {L : List Opn} (hL : SlR rOp G v1 L) (n : Int) (hG : Tab G) :
    Wp ((E orc).cl 4 [.int .i64 n, v1] G) fun q => q.1 = .bool true := by
  refine Wp.ref (f4 (exL_ok Q orc) _ _ G) ?_
  obtain ⟨va, vc, ev⟩ := hL.len
  have l1 : ln Q true 42 v1 = some (.int .i64 L.length) := by rw [ev]; simp
  simp [s4, l1]
  by_cases c1 : 60 < L.length
  · have c1' : (60 : Int) < L.length := by omega
    simp [c1', aw_ok orc haw hG]
  have c1' : ¬ (60 : Int) < L.length := by omega
  obtain ⟨u1, G2, e2, x2, w1⟩ := copy22 orc hL (by omega)
  by_cases hn : 0 ≤ n ∧ n ≤ 1024
  · obtain ⟨a, s, G3, e3, x3, wa, ws, t, hat, hst⟩ := play_ok orc (hG.ext x2) w1.is (by omega) n hn
    obtain ⟨b, t', G4, e4, x4, wb, wt⟩ := rplay_ok orc (hL.ext (x2.trans x3)) (by omega) n hn
    have hl1 := playL_len1 L (restI [] n.toNat)
    have hl2 := playL_len L (s := restI [] n.toNat) (by have := restI_len [] n.toNat; omega)
    generalize (playL (restI [] n.toNat) L).1 = pa at *
    generalize (playL (restI [] n.toNat) L).2 = ps at *
    obtain ⟨G5, e5, x5⟩ := same17 orc ((wa.ext x4).is) wb (by omega)
    simp only [decide_true] at e5
    obtain ⟨G6, e6, x6⟩ := same16 orc ((ws.ext (x4.trans x5)).is) (wt.ext x5) (by omega)
    simp only [decide_true] at e6
    have y6 := x4.trans (x5.trans x6)
    have n3 := x3.nx
    have n6 := y6.nx
    obtain ⟨G7, e7, m7⟩ := over21 orc (wa.ext y6) (by omega)
    have t7 : Ext G2 G7 := ext_over (x3.trans y6) m7 fun g hg => wa.from hg
    have n7 := m7.nx
    have ws' := (ws.ext y6).kept n7 fun g hg => m7.obj g ((ws.ext y6).is.under g hg) fun h => by have := hat g h; have := hst g hg; omega
    obtain ⟨G8, e8, m8⟩ := over20 orc ws' (by omega)
    have t8 : Ext G2 G8 := ext_over t7 m8 fun g hg => ws.from hg
    obtain ⟨G9, e9, x9⟩ := same25 orc ((w1.is).ext t8) (hL.ext (x2.trans t8)) (by omega)
    simp only [decide_true] at e9
    simp [c1', e2, e3, e4, e5, e6, e7, e8, e9, aw_ok orc haw (hG.ext ((x2.trans t8).trans x9))]
  · have e3 := play_bad orc u1 n hn G2
    have e4 := rplay_bad orc v1 n hn G2
    obtain ⟨G5, e5, x5⟩ := same17 orc (G := G2) (v0 := .slice none 0 0) (v1 := .slice none 0 0) (A := []) (B := []) SlR.nil SlR.nil (by simp)
    simp only [decide_true] at e5
    obtain ⟨G6, e6, x6⟩ := same16 orc (G := G5) (v0 := .slice none 0 0) (v1 := .slice none 0 0) (A := []) (B := []) SlR.nil SlR.nil (by simp)
    simp only [decide_true] at e6
    obtain ⟨G7, e7, m7⟩ := over21 orc (G := G6) (B := 0) (v0 := .slice none 0 0) (L := []) (OwR.nil _ _) (by simp)
    have nb : ∀ g, ¬ InB (.slice none 0 0) g := fun g ⟨a, n', c', h, _⟩ => by cases h
    have t7 : Ext G2 G7 := ext_over (x5.trans x6) m7 fun g hg => absurd hg (nb g)
    obtain ⟨G8, e8, m8⟩ := over20 orc (G := G7) (B := 0) (v0 := .slice none 0 0) (L := []) (OwR.nil _ _) (by simp)
    have t8 : Ext G2 G8 := ext_over t7 m8 fun g hg => absurd hg (nb g)
    obtain ⟨G9, e9, x9⟩ := same25 orc ((w1.is).ext t8) (hL.ext (x2.trans t8)) (by omega)
    simp only [decide_true] at e9
    simp [c1', e2, e3, e4, e5, e6, e7, e8, e9, aw_ok orc haw (hG.ext ((x2.trans t8).trans x9))]
end
end Go.Proofs.YtocbppgkgcoehaaDoor.Lift

set_option linter.unusedVariables false
set_option linter.unusedSimpArgs false
set_option maxRecDepth 20000
namespace Go.Proofs.YtocbppgkgcoehaaDoor.Lift
open Go Go.Proofs.YtocbppgkgcoehaaDoor.Gh Go.Proofs
theorem mem_behA {s : List Int} {op : Opn} {a : An} {x : Int} (h : x ∈ behA s op a) : x ∈ s ∨ (op.1 = 8 ∧ a.1 = 0 ∧ x = op.2.1) := by
  unfold behA at h
  split at h
  · rename_i h0
    obtain ⟨h1, h2⟩ := mem_behN.1 h
    unfold behP at h2
    rw [(inI_nat h1).2] at h2
    by_cases e : op.1 = 8 ∧ x = op.2.1
    · exact .inr ⟨e.1, h0, e.2⟩
    · rw [if_neg e] at h2
      split at h2
      · cases h2
      · exact .inl (by simpa using h2)
  · exact .inl h
structure GivesOk (s : List Int) (op : Opn) (r : An × List Int) : Prop where
  chk : checkI r.2 = 0
  alloc : op.1 = 7 → (r.1.1 = 0 ∧ r.2.length + 1 = s.length ∧ r.1.2.1 ∈ s ∧ r.1.2.1 ∉ r.2 ∧ ∀ x ∈ r.2, x ∈ s) ∨ (r.1.1 = 7 ∧ s = [] ∧ r.2 = s)
  free : op.1 = 8 → (r.1.1 = 0 ∧ r.2.length = s.length + 1 ∧ ∀ x ∈ r.2, x ∈ s ∨ x = op.2.1) ∨ (r.1.1 ≠ 0 ∧ r.2 = s)
  other : op.1 ≠ 7 → op.1 ≠ 8 → r.2 = s
theorem gives {s : List Int} (hs : checkI s = 0) (op : Opn) : GivesOk s op (stepL s op) := by
  unfold stepL
  cases hA : allA s op with
  | nil =>
    unfold allA at hA
    rw [if_pos hs] at hA
    refine ⟨hs, fun h => ?_, fun h => ?_, fun _ _ => rfl⟩
    · rw [if_pos h] at hA; simp at hA
    · rw [if_neg (by omega), if_pos h] at hA; simp at hA
  | cons a R =>
    have hm : a ∈ allA s op := by rw [hA]; simp
    have ho := one_of hm
    simp only
    unfold allA at hA
    rw [if_pos hs] at hA
    refine ⟨ho.chk, fun h => ?_, fun h => ?_, fun h h' => ?_⟩
    · rw [if_pos h] at hA
      cases s with
      | nil =>
        simp at hA
        have : a.1 = 7 := by rw [← hA.1]
        exact .inr ⟨this, rfl, (ho.same (by rw [this]; decide)).symm⟩
      | cons y l =>
        simp at hA
        have h0 : a.1 = 0 := by rw [← hA.1]
        obtain ⟨p1, p2, p3⟩ := ho.alloc h0 h
        refine .inl ⟨h0, p1, p2, p3, fun x hx => ?_⟩
        rcases mem_behA hx with k | k
        · exact k
        · omega
    · by_cases h0 : a.1 = 0
      · obtain ⟨p1, p2, p3⟩ := ho.free h0 (by omega)
        refine .inl ⟨h0, p1, fun x hx => ?_⟩
        rcases mem_behA hx with k | k
        · exact .inl k
        · exact .inr k.2.2
      · exact .inr ⟨h0, (ho.same h0).symm⟩
    · rw [if_neg h, if_neg h'] at hA; cases hA
section
variable {H B G : GS}
theorem pf_lp (orc : FuncId → Bool) {v1 vh v5 v6 v7 v10 : Value} {L : List Opn} {held : List Int} {i : Nat} {op : Opn} (hL : SlR rOp H v1 L) (hi : i < L.length) (hop : L[i] = op) (hh : SlR (rowsI .i64) H vh held) (hlen : held.length ≤ 1000) :
    ∀ (k j : Nat) (τ : Env) (G : GS) (v : Value) (pre : List Int), j + k = held.length → pre = (held.take j).filter (fun x => !decide (x = op.2.1)) → τ 1 = v1 → τ 5 = v5 → τ 6 = v6 → τ 7 = v7 → τ 9 = vh → τ 10 = v10 → τ 11 = .int .i64 (i : Int) → τ 12 = v → τ 13 = .int .i64 (j : Int) → Ext H G → OwR (rowsI .i64) H.nx G v pre →
    Wp ((exL Q orc).lpx 7 1 τ G) fun q => q.1 = .exit 3 ∧ Ext H q.2.2 ∧ OwR (rowsI .i64) H.nx q.2.2 (q.2.1 12) (held.filter fun x => !decide (x = op.2.1)) ∧ q.2.1 1 = v1 ∧ q.2.1 5 = v5 ∧ q.2.1 6 = v6 ∧ q.2.1 7 = v7 ∧ q.2.1 10 = v10 ∧ q.2.1 11 = .int .i64 (i : Int) := by
  intro k
  induction k with
  | zero =>
    intro j τ G v pre hj hp t1 t5 t6 t7 t9 t10 t11 t12 t13 x hv
    have hj' : j = held.length := by omega
    obtain ⟨a, c, e0⟩ := hh.len
    rw [hj', List.take_length] at hp
    rw [← hp]
    refine Wp.lp (l7_1 (exL_ok Q orc)) ?_
    subst hj'
    simp [b7_1, bb7_1, clip_t, t1, t5, t6, t7, t9, t10, t11, t12, t13, e0]
    exact ⟨x, hv⟩
  | succ k ih =>
    intro j τ G v pre hj hp t1 t5 t6 t7 t9 t10 t11 t12 t13 x hv
    have hlt : j < held.length := by omega
    have hwr : IntKind.wrap .i64 ((j : Int) + 1) = ((j + 1 : Nat) : Int) := wrap64 (by omega) (by omega)
    have h1 : (j : Int) < held.length := by omega
    have h2 : (0 : Int) ≤ j := by omega
    have h3 : (i : Int) < L.length := by omega
    have h4 : (0 : Int) ≤ i := by omega
    have x1 := x.room 10
    have r1 := (Ext.refl G).room 10
    obtain ⟨b, o, c, e0, _, q, _⟩ := (hh.ext x1).at hlt
    have q0 := q 0 (by decide)
    simp only [rowsI_sz, rowsI_row, Nat.mul_one, Nat.add_zero] at q0
    obtain ⟨b', o', c', e1, _, q', _⟩ := (hL.ext x1).at hi
    have q1 := q' 1 (by decide)
    simp [hop] at q1
    have hT : (held.take (j + 1)).filter (fun x => !decide (x = op.2.1)) = pre ++ (if held[j] = op.2.1 then [] else [held[j]]) := by
      rw [List.take_add_one, List.getElem?_eq_getElem hlt, List.filter_append, hp]
      congr 1
      by_cases h : held[j] = op.2.1 <;> simp [h]
    have hpl : pre.length ≤ 1000 := by
      rw [hp]
      have := List.length_filter_le (fun x => !decide (x = op.2.1)) (held.take j)
      simp at this ⊢; omega
    generalize held[j] = y at *
    refine Wp.lp (l7_1 (exL_ok Q orc)) ?_
    simp at q0
    by_cases hc : y = op.2.1
    · rw [if_pos hc, List.append_nil] at hT
      simp [-Int.natCast_add, b7_1, bb7_1, jl7_1_0, jbl7_1_0, clip_t, t1, t5, t6, t7, t9, t10, t11, t12, t13, e0, e1, h1, h2, h3, h4, hlt, hi, q0, q1, hc, hwr]
      subst e0
      subst e1
      refine ih (j + 1) _ (G.room 10) v pre (by omega) hT.symm ?_ ?_ ?_ ?_ ?_ ?_ ?_ ?_ ?_ x1 (hv.ext r1) <;> simp [clip_t, t5, t6, t7, t10, t12, t1, t9, t11]
    · rw [if_neg hc] at hT
      have x3 := r1.push ⟨(rowsI .i64).row y, 1, false, 1⟩
      obtain ⟨v', G2, e2, x2, w2⟩ := (hv.ext x3).app (A := H) (ib := 8) (by decide) (x.trans x3) (SlR.one (rowsI .i64) (G.room 10) y) (by simp; omega)
      simp only [rowsI_sz, rowsI_row] at e2
      simp [-Int.natCast_add, b7_1, bb7_1, jl7_1_0, jbl7_1_0, clip_t, t1, t5, t6, t7, t9, t10, t11, t12, t13, e0, e1, h1, h2, h3, h4, hlt, hi, q0, q1, hc, hwr, e2]
      subst e0
      subst e1
      simp only [nx_room] at e2
      simp [-Int.natCast_add, e2]
      refine ih (j + 1) _ G2 v' (pre ++ [y]) (by omega) hT.symm ?_ ?_ ?_ ?_ ?_ ?_ ?_ ?_ ?_ x2 w2 <;> simp [clip_t, t5, t6, t7, t10, t12, t1, t9, t11]
set_option maxHeartbeats 2000000 in
theorem pg_lp (orc : FuncId → Bool) {v1 va v5 v7 : Value} {L : List Opn} {ans : List An} (hL : SlR rOp B v1 L) (hlen : L.length ≤ 60) (ha : SlR rAn B va ans) (hal : ans.length = L.length) :
    ∀ (k i : Nat) (τ : Env) (G : GS) (s held : List Int) (vh : Value), i + k = L.length → held.length ≤ i → s.length ≤ 1024 → checkI s = 0 → (∀ x ∈ held, x ∉ s) → ans.drop i = (playL s (L.drop i)).1 → τ 1 = v1 → τ 5 = v5 → τ 6 = va → τ 7 = v7 → τ 9 = vh → τ 10 = .int .i64 s.length → τ 11 = .int .i64 (i : Int) → Ext B G → OwR (rowsI .i64) B.nx G vh held →
    Wp ((exL Q orc).lpx 7 0 τ G) fun q => q.1 = .exit 0 ∧ Ext B q.2.2 ∧ q.2.1 5 = v5 ∧ q.2.1 7 = v7 ∧ q.2.1 10 = .int .i64 (playL s (L.drop i)).2.length ∧ ∃ held' : List Int, held'.length ≤ 60 ∧ (∀ x ∈ held', x ∉ (playL s (L.drop i)).2) ∧ OwR (rowsI .i64) B.nx q.2.2 (q.2.1 9) held' := by
  intro k
  induction k with
  | zero =>
    intro i τ G s held vh hi hl hs hc hd he t1 t5 t6 t7 t9 t10 t11 x hv
    have hi' : i = L.length := by omega
    obtain ⟨a, c, e0⟩ := hL.len
    refine Wp.lp (l7_0 (exL_ok Q orc)) ?_
    have hd0 : L.drop i = [] := by rw [hi']; simp
    rw [hd0]
    subst hi'
    simp [b7_0, bb7_0, clip_t, t1, t5, t6, t7, t9, t10, t11, e0, playL]
    exact ⟨x, held, by omega, hd, hv⟩
  | succ k ih =>
    intro i τ G s held vh hi hl hs hc hd he t1 t5 t6 t7 t9 t10 t11 x hv
    have hlt : i < L.length := by omega
    have hlt' : i < ans.length := by omega
    have hwr : IntKind.wrap .i64 ((i : Int) + 1) = ((i + 1 : Nat) : Int) := wrap64 (by omega) (by omega)
    have h1 : (i : Int) < L.length := by omega
    have h1' : (i : Int) < ans.length := by omega
    have h2 : (0 : Int) ≤ i := by omega
    obtain ⟨b, o, c, e0, _, q, _⟩ := (hL.ext x).at hlt
    have q0 := q 0 (by decide)
    have q1 := q 1 (by decide)
    simp only [rOp_sz, rOp_row, Nat.add_zero] at q0 q1
    obtain ⟨b', o', c', e1, _, q', _⟩ := (ha.ext x).at hlt'
    have q2 := q' 0 (by decide)
    have q3 := q' 1 (by decide)
    simp only [rAn_sz, rAn_row, Nat.add_zero] at q2 q3
    rw [List.drop_eq_getElem_cons hlt'] at he
    rw [List.drop_eq_getElem_cons hlt] at he ⊢
    generalize hop : L[i] = op at *
    have hg := gives hc op
    have hr : playL s (op :: L.drop (i + 1)) = ((stepL s op).1 :: (playL (stepL s op).2 (L.drop (i + 1))).1, (playL (stepL s op).2 (L.drop (i + 1))).2) := rfl
    rw [hr] at he ⊢
    simp only [List.cons.injEq] at he ⊢
    obtain ⟨hea, he⟩ := he
    rw [hea] at q2 q3
    have hs' : (stepL s op).2.length ≤ 1024 := by
      unfold stepL
      split
      · exact hs
      · exact behA_len hs _ _
    generalize stepL s op = r at *
    obtain ⟨a, t⟩ := r
    simp only at he q2 q3 hs' hea ⊢
    -- behind the switch
    have fin : ∀ (τ' : Env) (G' : GS) (vh' : Value) (held' : List Int), held'.length ≤ i + 1 → (∀ x ∈ held', x ∉ t) → Ext B G' → OwR (rowsI .i64) B.nx G' vh' held' → τ' 1 = v1 → τ' 5 = v5 → τ' 6 = va → τ' 7 = v7 → τ' 9 = vh' → τ' 10 = .int .i64 t.length → τ' 11 = .int .i64 (i : Int) →
        Wp (jbl7_0_0 true (exL Q orc) ((exL Q orc).lpx 7 0) τ' G') fun q => q.1 = .exit 0 ∧ Ext B q.2.2 ∧ q.2.1 5 = v5 ∧ q.2.1 7 = v7 ∧ q.2.1 10 = .int .i64 (playL t (L.drop (i + 1))).2.length ∧ ∃ held' : List Int, held'.length ≤ 60 ∧ (∀ x ∈ held', x ∉ (playL t (L.drop (i + 1))).2) ∧ OwR (rowsI .i64) B.nx q.2.2 (q.2.1 9) held' := by
      intro τ' G' vh' held' hl' hd' x' hv' s1 s5 s6 s7 s9 s10 s11
      simp [-Int.natCast_add, jbl7_0_0, s1, s5, s6, s7, s9, s10, s11, hwr]
      refine ih (i + 1) _ G' t held' vh' (by omega) hl' hs' hg.chk hd' he ?_ ?_ ?_ ?_ ?_ ?_ ?_ x' hv' <;> simp [clip_t, s1, s5, s6, s7, s9, s10]
    clear ih
    refine Wp.lp (l7_0 (exL_ok Q orc)) ?_
    by_cases c7 : op.1 = 7
    · have c7' : (op.1 = 7) = True := eq_true c7
      rcases hg.alloc c7 with ⟨p0, p1, p2, p3, p4⟩ | ⟨p0, p1, p2⟩
      · simp only at p0 p1 p2 p3 p4
        have hne : ¬ (s.length : Int) = 0 := by omega
        have hns : ¬ s = [] := fun h => by rw [h] at p2; cases p2
        have hm : ¬ a.2.1 ∈ held := fun h => hd _ h p2
        have ea := among_ok' orc hv.is (by omega) a.2.1
        have hw1 : IntKind.wrap .i64 ((s.length : Int) - 1) = (t.length : Int) := by
          rw [show (s.length : Int) - 1 = (t.length : Int) by omega]; exact wrap64 (by omega) (by omega)
        have x3 := (Ext.refl G).push ⟨(rowsI .i64).row a.2.1, 1, false, 1⟩
        obtain ⟨v', G2, e2, x2, w2⟩ := (hv.ext x3).app (A := B) (ib := 8) (by decide) (x.trans x3) (SlR.one (rowsI .i64) G a.2.1) (by simp; omega)
        simp only [rowsI_sz, rowsI_row] at e2
        have p0' : (a.1 = 0) = True := eq_true p0
        simp at q0 q1 q2 q3
        simp [-Int.natCast_add, b7_0, bb7_0, jl7_0_0, clip_t, t1, t5, t6, t7, t9, t10, t11, e0, e1, h1, h1', h2, hlt, hlt', q0, q1, q2, q3, c7', p0', hne, hns, ea, hm, e2, hw1]
        subst e0
        subst e1
        refine fin _ _ v' (held ++ [a.2.1]) (by simp; omega) ?_ x2 w2 ?_ ?_ ?_ ?_ ?_ ?_ ?_
        · intro z hz
          rcases List.mem_append.1 hz with h | h
          · exact fun k => hd z h (p4 z k)
          · rw [List.mem_singleton.1 h]; exact p3
        all_goals simp [clip_t, t1, t5, t6, t7, t11]
      · simp only at p0 p1 p2
        have p0' : (a.1 = 0) = False := eq_false (by omega)
        have p7' : (a.1 = 7) = True := eq_true p0
        subst p1
        subst p2
        simp at q0 q1 q2 q3
        simp [-Int.natCast_add, b7_0, bb7_0, jl7_0_0, clip_t, t1, t5, t6, t7, t9, t10, t11, e0, e1, h1, h1', h2, hlt, hlt', q0, q1, q2, q3, c7', p0', p7']
        subst e0
        subst e1
        refine fin _ _ vh held (by omega) (by simp) x hv ?_ ?_ ?_ ?_ ?_ ?_ ?_
        all_goals simp [clip_t, t1, t5, t6, t7, t9, t10, t11]
    have c7' : (op.1 = 7) = False := eq_false c7
    by_cases c8 : op.1 = 8
    · have c8' : (op.1 = 8) = True := eq_true c8
      rcases hg.free c8 with ⟨p0, p1, p2⟩ | ⟨p0, p1⟩
      · simp only at p0 p1 p2
        have p0' : (a.1 = 0) = True := eq_true p0
        have hw1 : IntKind.wrap .i64 ((s.length : Int) + 1) = (t.length : Int) := by
          rw [show (s.length : Int) + 1 = (t.length : Int) by omega]; exact wrap64 (by omega) (by omega)
        simp at q0 q1 q2 q3
        simp [-Int.natCast_add, b7_0, bb7_0, jl7_0_0, clip_t, t1, t5, t6, t7, t9, t10, t11, e0, e1, h1, h1', h2, hlt, hlt', q0, q1, q2, q3, c7', c8', p0']
        refine Wp.bE (Wp.mono (pf_lp orc (H := G) (v1 := v1) (vh := vh) (v5 := v5) (v6 := va) (v7 := v7) (v10 := .int .i64 s.length) (i := i) (op := op) (hL.ext x) hlt hop hv.is (by omega) held.length 0 _ G (.slice none 0 0) [] (by omega) (by simp) ?_ ?_ ?_ ?_ ?_ ?_ ?_ ?_ ?_ (Ext.refl _) (OwR.nil _ _)) ?_)
        · simp [clip_t, t1, e0]
        · simp [clip_t, t5]
        · simp [clip_t, t6, e1]
        · simp [clip_t, t7]
        · simp [clip_t, t9]
        · simp [clip_t, t10]
        · simp [clip_t, t11]
        · simp [clip_t]
        · simp [clip_t]
        rintro ⟨e, τ', G'⟩ ⟨rfl, x', ow, a1, a5, a6, a7, a10, a11⟩
        simp only at x' ow a1 a5 a6 a7 a10 a11
        simp [-Int.natCast_add, a1, a6, a10, a11, hw1]
        refine fin _ _ (τ' 12) (held.filter fun x => !decide (x = op.2.1)) ?_ ?_ (x.trans x') (ow.mono x.nx) ?_ ?_ ?_ ?_ ?_ ?_ ?_
        · have := List.length_filter_le (fun x => !decide (x = op.2.1)) held; omega
        · intro z hz k
          simp only [List.mem_filter, Bool.not_eq_true', decide_eq_false_iff_not] at hz
          rcases p2 z k with h | h
          · exact hd z hz.1 h
          · exact hz.2 h
        all_goals simp [clip_t, a1, a5, a6, a7, a10, a11]
      · simp only at p0 p1
        have p0' : (a.1 = 0) = False := eq_false p0
        subst p1
        simp at q0 q1 q2 q3
        simp [-Int.natCast_add, b7_0, bb7_0, jl7_0_0, clip_t, t1, t5, t6, t7, t9, t10, t11, e0, e1, h1, h1', h2, hlt, hlt', q0, q1, q2, q3, c7', c8', p0']
        subst e0
        subst e1
        refine fin _ _ vh held (by omega) hd x hv ?_ ?_ ?_ ?_ ?_ ?_ ?_
        all_goals simp [clip_t, t1, t5, t6, t7, t9, t10, t11]
    · have c8' : (op.1 = 8) = False := eq_false c8
      have p1 := hg.other c7 c8
      simp only at p1
      subst p1
      simp at q0 q1 q2 q3
      simp [-Int.natCast_add, b7_0, bb7_0, jl7_0_0, clip_t, t1, t5, t6, t7, t9, t10, t11, e0, e1, h1, h1', h2, hlt, hlt', q0, q1, q2, q3, c7', c8']
      subst e0
      subst e1
      refine fin _ _ vh held (by omega) hd x hv ?_ ?_ ?_ ?_ ?_ ?_ ?_
      all_goals simp [clip_t, t1, t5, t6, t7, t9, t10, t11]
theorem pe_lp (orc : FuncId → Bool) {v5 v7 v10 vh : Value} {held s : List Int} (hh : SlR (rowsI .i64) G vh held) (hl : held.length ≤ 60) (hs : SlR (rowsI .i64) G v7 s) (hsl : s.length ≤ 1024) (hd : ∀ x ∈ held, x ∉ s) :
    ∀ (k j : Nat) (τ : Env), j + k = held.length → τ 5 = v5 → τ 7 = v7 → τ 9 = vh → τ 10 = v10 → τ 14 = .int .i64 (j : Int) →
    Wp ((exL Q orc).lpx 7 2 τ G) fun q => q.1 = .exit 5 ∧ q.2.2 = G ∧ q.2.1 5 = v5 ∧ q.2.1 7 = v7 ∧ q.2.1 10 = v10 := by
  intro k
  induction k with
  | zero =>
    intro j τ hj t5 t7 t9 t10 t14
    have hj' : j = held.length := by omega
    obtain ⟨a, c, e0⟩ := hh.len
    refine Wp.lp (l7_2 (exL_ok Q orc)) ?_
    subst hj'
    simp [b7_2, clip_t, t5, t7, t9, t10, t14, e0]
  | succ k ih =>
    intro j τ hj t5 t7 t9 t10 t14
    have hlt : j < held.length := by omega
    have hwr : IntKind.wrap .i64 ((j : Int) + 1) = ((j + 1 : Nat) : Int) := wrap64 (by omega) (by omega)
    have h1 : (j : Int) < held.length := by omega
    have h2 : (0 : Int) ≤ j := by omega
    obtain ⟨b, o, c, e0, _, q, _⟩ := hh.at hlt
    have q0 := q 0 (by decide)
    simp at q0
    have ea := among_ok' orc hs (by omega) held[j]
    have hm := hd held[j] (List.getElem_mem hlt)
    generalize held[j] = y at *
    refine Wp.lp (l7_2 (exL_ok Q orc)) ?_
    simp [-Int.natCast_add, b7_2, clip_t, t5, t7, t9, t10, t14, e0, h1, h2, hlt, q0, ea, hm, hwr]
    subst e0
    refine ih (j + 1) _ (by omega) ?_ ?_ ?_ ?_ ?_ <;> simp [clip_t, t5, t7, t9, t10]
theorem poolGives (orc : FuncId → Bool) (hkn : orc 5 = true) {v1 : Value} {L : List Opn} (hL : SlR rOp G v1 L) (n : Int) (hG : Tab G) :
    Wp ((E orc).cl 7 [.int .i64 n, v1] G) fun q => q.1 = .bool true := by
  refine Wp.ref (f7 (exL_ok Q orc) _ _ G) ?_
  obtain ⟨va, vc, ev⟩ := hL.len
  have l1 : ln Q true 42 v1 = some (.int .i64 L.length) := by rw [ev]; simp
  simp [s7, l1, aw_ok orc hkn hG]
  by_cases c1 : 60 < L.length
  · have c1' : (60 : Int) < L.length := by omega
    simp [c1']
  have c1' : ¬ (60 : Int) < L.length := by omega
  have ep := pick_ok orc n 21 (by decide) (by decide) G
  have hm : 0 ≤ n % 21 ∧ n % 21 ≤ 1024 := by omega
  have hn21 : n % 21 < 21 := by omega
  generalize n % 21 = m at *
  obtain ⟨a, s, G3, e3, x3, wa, ws, t, hat, hst⟩ := play_ok orc hG hL (by omega) m hm
  have hl1 := playL_len1 L (restI [] m.toNat)
  have hl2 := playL_len L (s := restI [] m.toNat) (by have := restI_len [] m.toNat; omega)
  have hr0 : checkI (restI [] m.toNat) = 0 := by
    unfold restI
    refine checkI_of (fun x hx => ?_) ?_
    · simp only [List.mem_map, List.mem_filter, List.mem_range] at hx
      obtain ⟨j, ⟨hj, _⟩, rfl⟩ := hx
      simp [inI]; omega
    · rw [List.pairwise_map]
      exact (asc_range _ _).imp fun h => by omega
  have hrl : (restI [] m.toNat).length = m.toNat := by
    have : ((List.range m.toNat).filter fun j : Nat => decide ((j : Int) ∉ ([] : List Int))) = List.range m.toNat := List.filter_eq_self.2 fun x _ => by simp
    unfold restI
    rw [this]; simp
  have hfin : checkI (playL (restI [] m.toNat) L).2 = 0 := by
    have : ∀ (l : List Opn) (s : List Int), checkI s = 0 → checkI (playL s l).2 = 0 := by
      intro l
      induction l with
      | nil => exact fun s h => h
      | cons op l ih => exact fun s h => ih _ (gives h op).chk
    exact this L _ hr0
  have hpg := pg_lp orc (B := G3) (v5 := .bool true) (v7 := s) (hL.ext x3) (by omega) wa.is hl1 L.length 0
  have hdr : (playL (restI [] m.toNat) L).1.drop 0 = (playL (restI [] m.toNat) (L.drop 0)).1 := rfl
  obtain ⟨sa, sc, es⟩ := wa.is.len
  have la : ln Q true 33 a = some (.int .i64 (playL (restI [] m.toNat) L).1.length) := by rw [es]; simp
  obtain ⟨ta, tc, et⟩ := ws.is.len
  have ls : ln Q true 22 s = some (.int .i64 (playL (restI [] m.toNat) L).2.length) := by rw [et]; simp
  obtain ⟨G4, e4, x4⟩ := check_ok orc ws.is (by omega)
  rw [hfin] at e4
  rw [hl1] at la
  simp [c1', ep, e3, la, e4, l1]
  refine Wp.bE (Wp.mono (hpg _ G4 (restI [] m.toNat) [] (.slice none 0 0) (by omega) (by simp) (by omega) hr0 (by simp) hdr ?_ ?_ ?_ ?_ ?_ ?_ ?_ x4 (OwR.nil _ _)) ?_)
  · simp
  · simp
  · simp
  · simp
  · simp
  · simp [hrl]; omega
  · simp
  rintro ⟨e, τ, G5⟩ ⟨rfl, x5, a5, a7, a10, held, hl, hd, oh⟩
  simp only [List.drop_zero] at x5 a5 a7 a10 hl hd oh
  simp
  refine Wp.bE (Wp.mono (pe_lp orc (v5 := .bool true) (v7 := s) (v10 := τ 10) oh.is hl (ws.is.ext x5) hl2 hd held.length 0 _ (by omega) ?_ ?_ ?_ ?_ ?_) ?_)
  · simp [a5]
  · simp [a7]
  · simp
  · simp
  · simp
  rintro ⟨e, τ', G6⟩ ⟨rfl, rfl, b5, b7, b10⟩
  simp only at b5 b7 b10
  simp [b5, b7, b10, a10, ls]
end
end Go.Proofs.YtocbppgkgcoehaaDoor.Lift

