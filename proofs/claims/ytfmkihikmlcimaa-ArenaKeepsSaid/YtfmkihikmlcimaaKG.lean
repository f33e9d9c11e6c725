/- contracts of the program's functions -/
import Derived.Test.YtfmkihikmlcimaaKF
set_option linter.unusedVariables false
set_option linter.unusedSimpArgs false
set_option maxRecDepth 20000
namespace Go.Proofs.Ytfmkihikmlcimaa.Lift
open Go Go.Proofs.Ytfmkihikmlcimaa.Gh Go.Proofs
theorem pick_ok (orc : FuncId → Bool) (x n : Int) (hn : 0 < n) (hn2 : n < 2 ^ 40) (G : GS) : (E orc).cl 7 [.int .i64 x, .int .i64 n] G = some (.int .i64 (x % n), G) := by
  refine f7 (exL_ok Q orc) _ _ G _ ?_
  have h1 := Int.emod_nonneg x (show n ≠ 0 by omega)
  have h2 := Int.emod_lt_of_pos x hn
  have ht := @Int.tmod_eq_emod x n
  have hn0 : ¬ n ≤ 0 := by omega
  have hn1 : ¬ n = 0 := by omega
  have hw : IntKind.wrap .i64 (x % n) = x % n := wrap64 (by omega) (by omega)
  by_cases hx : x.tmod n < 0
  · have e : x.tmod n + n = x % n := by split at ht <;> omega
    simp [s7, clip_t, hx, e, hw, hn0, hn1]
  · have e : x.tmod n = x % n := by split at ht <;> omega
    have hx' : ¬ x % n < 0 := by omega
    simp [s7, clip_t, e, hx', hn0, hn1]
theorem slK_ext {G G' : GS} (x : Ext G G') {s : Nat} {v v' : Value} {lo hi m : Option Value} (hv : ∀ a n c, v = .slice (some a) n c → a.block < G.nx) (h : slK s v lo hi m G = some v') : slK s v lo hi m G' = some v' := by
  unfold slK at h ⊢
  split at h
  · exact h
  · rename_i a n c
    simp only [x.obj _ (hv a n c rfl)]
    exact h
  · cases h
/-- a place is taken out of a row: a new row -/
theorem erased {G R : GS} {v : Value} {L : List Int} (h : OwR (rowsI .u64) 0 G v L) {i : Nat} (hi : i < L.length) (hl : L.length ≤ 100000) (hR : R = (((G.room 20).at' (G.nx + 1)).push ⟨[], 1, false, 1⟩).back (G.room 20)) :
    ∃ v1 v2 v3 v4 G1 G2, slK 1 v none (some (.int .i64 i)) none R = some v1 ∧ appK 1 8 (.slice (some ⟨G.nx + 1, 0, none⟩) 0 0) v1 R = some (v2, G1) ∧ slK 1 v (some (.int .i64 ((i : Int) + 1))) none none R = some v3 ∧ slK 1 v (some (.int .i64 ((i : Int) + 1))) none none G1 = some v3 ∧ appK 1 8 v2 v3 G1 = some (v4, G2) ∧ Ext G R ∧ Ext G G1 ∧ Ext G G2 ∧ sameO (some v3) v3 = true ∧ OwR (rowsI .u64) G.nx G2 v4 (L.eraseIdx i) := by
  obtain ⟨v1, e1, s1⟩ := (h.is.take (k := .i64) (o := i) (by omega)).1
  obtain ⟨v3, e3, s3⟩ := h.is.drop (k := .i64) (o := i + 1) (by omega)
  have A1 : Ext (G.room 1) R := by
    rw [hR]
    exact Ext.drawn (⟨by simp, fun g hg => rfl, Nat.le_refl _, fun l hl => rfl⟩ : Ext (G.room 1) (G.room 20)) (by simp) (by simp) _
  have A0 : Ext G (G.room 1) := (Ext.refl G).room 1
  have lv := h.is.lt
  have ho : OwR (rowsI .u64) (G.room 1).nx R (.slice (some ⟨G.nx + 1, 0, none⟩) 0 0) [] := by
    rw [hR]
    exact ⟨by simp [RowE.flat], .inr ⟨G.nx + 1, false, rfl, by simp, by simp, by simp [RowE.flat]⟩⟩
  have r1 := (s1.ext A0).ext A1
  obtain ⟨v2, G1, e2, x1, o1⟩ := ho.app (ib := 8) (by decide) A1 r1 (by simp; omega)
  have r3 := (s3.ext A0).ext x1
  obtain ⟨v4, G2, e4, x2, o2⟩ := o1.app (ib := 8) (by decide) x1 r3 (by simp; omega)
  refine ⟨v1, v2, v3, v4, G1, G2, slK_ext (A0.trans A1) lv e1, e2, slK_ext (A0.trans A1) lv (by simpa using e3), slK_ext (A0.trans x1) lv (by simpa using e3), e4, A0.trans A1, A0.trans x1, A0.trans x2, same_slr r3, ?_⟩
  rw [List.eraseIdx_eq_take_drop_succ]
  simpa using o2.mono (B' := G.nx) (by simp)
section
variable {own own' own1 : Nat → Nat} {G G' G1 G2 G3 : GS} {b d t c K : Nat} {n lim T : Int} {F : List Int} {ts : List Nat} {cs : List Value} {x y : CA} {B B' : CrB} {v : Value} {A : Ar} {y0 : CoS} {s' : MS}
theorem CrG.backs (h : CrG own G n lim x B) (hc : c < 3) (w : Int) (hG : G1 = G.put B.bb ⟨[.int .u64 (upN x.back c w 0), .int .u64 (upN x.back c w 1), .int .u64 (upN x.back c w 2)], 1, false, 1⟩) : CrG own G1 n lim { x with back := upN x.back c w } B ∧ ModT [15] own G G1 := by
  have m : ModT [15] own G G1 := by rw [hG]; exact ModT.put (ModT.refl _ _ _) (.inl (by rw [h.ck.tag]; decide)) _
  have a := Agr.refl own G
  refine ⟨⟨h.cx.to m (by decide) a, h.ca.to m (by decide) a, h.cf.to m (by decide) a, ⟨Nat.lt_of_lt_of_le h.ck.lt m.nx, h.ck.tag, by rw [hG]; simp⟩, h.co.to m (by decide) a, h.hm.mt m (by decide) a, OwR.to h.hq h.tq m (by decide), h.tq, OwR.to h.hc h.tc m (by decide), h.tc, fun j hj => (h.cr j hj).to m (by simp; omega) a⟩, m⟩
end
end Go.Proofs.Ytfmkihikmlcimaa.Lift

set_option linter.unusedVariables false
set_option linter.unusedSimpArgs false
set_option maxRecDepth 20000
namespace Go.Proofs.Ytfmkihikmlcimaa.Lift
open Go Go.Proofs.Ytfmkihikmlcimaa.Gh Go.Proofs
section
variable {own own' own1 : Nat → Nat} {G G' G1 G2 G3 : GS} {b d t c K : Nat} {n lim T : Int} {F : List Int} {ts : List Nat} {cs : List Value} {x y : CA} {B B' : CrB} {v : Value} {A : Ar} {y0 : CoS} {s' : MS}
theorem begins_fr (orc : FuncId → Bool) (hrf : orc 95 = false) (h : CrG own G n lim x B) (hI : InvA n lim K x F T) (hK : K ≤ 100000) (hc : c < 3) (hk : x.k c = .idle) (w : Int) (hl : 0 < x.held.length) : Wp ((E orc).cl 24 [P0 B.xb, .int .i64 c, .bool true, .int .i64 w] G) (CrPost own G n lim B (x.beginF c (w % x.held.length).toNat) (.tuple #[])) := by
  have hck := hI.ck
  have hcl := hI.cl
  have hn1 := hI.ri.n1
  have hw : IntKind.wrap .i64 (x.clock + 1) = x.clock + 1 := wrap64 (by omega) (by omega)
  obtain ⟨cca, ccc, hcv⟩ := h.hc.is.len
  have lc : ∀ t, ln Q true t B.cv = some (.int .i64 x.calls.length) := fun t => by rw [hcv]; simp
  obtain ⟨i, hi⟩ : ∃ i : Nat, w % x.held.length = i := ⟨(w % x.held.length).toNat, by have := Int.emod_nonneg w (show (x.held.length : Int) ≠ 0 by omega); omega⟩
  have hiL : i < x.held.length := by have := Int.emod_lt_of_pos w (show (0 : Int) < x.held.length by omega); omega
  have hlen : x.held.length ≤ 8 := by
    have q1 := hI.ri.ln; have q2 := hI.ri.w0
    have q3 : 0 ≤ lO x.k := by unfold lO; omega
    have q4 : 0 ≤ wO x.k := by unfold wO; have := wc_nn (x.k 0); have := wc_nn (x.k 1); have := wc_nn (x.k 2); omega
    simp only [List.length_map] at q1
    omega
  have epk := pick_ok orc w x.held.length (by omega) (by omega)
  rw [hi] at epk
  rw [hi, Int.toNat_natCast]
  obtain ⟨R, hR⟩ : ∃ R, R = (G.put B.xb ⟨crX n lim { x with clock := x.clock + 1 } B, 1, false, 1⟩).room 13 := ⟨_, rfl⟩
  obtain ⟨h1, m1, n1⟩ := h.tick 13 hR
  have hz : z47 = [.int .i64 0, .int .i64 0, .int .i64 0, .int .i64 0, .int .i64 0, .int .i64 0, .int .u64 0, .int .i64 0, .int .i64 0, .int .u64 0] := rfl
  have hz5 : z45 = [.int .i64 0, .int .i64 0, .int .i64 0, .int .u64 0] := rfl
  have hz6 : z128 = [.int .i64 0, .int .i64 0, .bool false] := rfl
  obtain ⟨a, ha⟩ : ∃ a : Sp, a = ⟨x.calls.length, x.clock + 1, -1, (7, 0, 0, 0), (0, 0, 0)⟩ := ⟨_, rfl⟩
  obtain ⟨G18, hG18⟩ : ∃ G18, G18 = (((R.at' (G.nx + 11)).push ⟨z47, 1, false, 1⟩).back R).put (G.nx + 11) ⟨rSp.row a, 1, false, 1⟩ := ⟨_, rfl⟩
  have n18 : G18.nx = R.nx := by rw [hG18]; rfl
  have x18 : ∀ g, g < G.nx → G18.obj g = R.obj g := fun g hg => by
    rw [hG18, obj_put, if_neg (by omega), obj_back, obj_push, nx_at, if_neg (by omega), obj_at]
  have s18 : G18.obj (G.nx + 11) = some ⟨rSp.row a, 1, false, 1⟩ := by rw [hG18]; simp
  have t11 : grown own G 13 (G.nx + 11) = 13 := grown_new (by omega)
  have m18 : ModT [13] (grown own G 13) R G18 := by
    refine ⟨by rw [n18]; exact Nat.le_refl _, fun g hg hn => ?_, by rw [hG18]; exact Nat.le_refl _, fun l hl => by rw [hG18]; simp⟩
    by_cases e : g = G.nx + 11
    · exact absurd (show grown own G 13 g ∈ [13] by rw [e, t11]; decide) hn
    · rw [hG18, obj_put, if_neg e, obj_back, obj_push, nx_at, if_neg e, obj_at]
  have mm18 : ModT [1] own G G18 := ⟨by rw [n18]; exact m1.nx, fun g hg hn => (x18 g hg).trans (m1.obj g hg hn), by rw [hG18]; exact m1.nl, fun l hl => by rw [hG18]; simp; exact m1.loop l hl⟩
  have h18 := h1.to m18 (Agr.refl _ _) (by decide)
  -- what is to be given back
  obtain ⟨j, g, hj, j0, j1, g0, g1⟩ := hI.hw _ (List.getElem_mem hiL)
  have hgd : x.held.getD i 0 = x.held[i] := by rw [List.getD_eq_getElem?_getD, List.getElem?_eq_getElem hiL]; rfl
  obtain ⟨r1, r2, r3⟩ := ref_word (i := j) (g := g) ⟨j0, by omega⟩ ⟨g0, g1⟩
  have hix : ixW (x.held.getD i 0) = j := by rw [hgd, hj]; exact ixW_word ⟨j0, by omega⟩
  obtain ⟨G54, hG54⟩ : ∃ G54, G54 = (G18.room 14).put B.bb ⟨[.int .u64 (upN x.back c (wordT j g) 0), .int .u64 (upN x.back c (wordT j g) 1), .int .u64 (upN x.back c (wordT j g) 2)], 1, false, 1⟩ := ⟨_, rfl⟩
  have h18' := h18.to (ModT.ext (ts := []) ((Ext.refl G18).room 14)) (Agr.refl _ _) (by simp)
  obtain ⟨h54, m54⟩ := h18'.backs hc (wordT j g) hG54
  have n54 : G54.nx = G18.nx + 14 := by rw [hG54]; rfl
  obtain ⟨R1, hR1⟩ : ∃ R1, R1 = (((G54.room 20).at' (G54.nx + 1)).push ⟨[], 1, false, 1⟩).back (G54.room 20) := ⟨_, rfl⟩
  obtain ⟨v1, v2, v3, v4, G61, G68, e1, e2, e3, e3', e4, xR1, x61, x68, sm3, o68⟩ := erased h54.hq hiL (by have : x.held.length ≤ 8 := hlen; show x.held.length ≤ 100000; omega) hR1
  obtain ⟨G72, hG72⟩ : ∃ G72, G72 = G68.put B.xb ⟨crX n lim { x with clock := x.clock + 1, back := upN x.back c (wordT j g) } { B with hv := v4 }, 1, false, 1⟩ := ⟨_, rfl⟩
  have n72 : G72.nx = G68.nx := by rw [hG72]; rfl
  have m72 : ModT [1, 3] (grown own G 13) G54 G72 := by rw [hG72]; exact ModT.put (ModT.ext x68) (.inl (by rw [h54.cx.tag]; decide)) _
  have h72 := h54.hold m72 (hv' := v4) (held' := x.held.eraseIdx i) (by rw [hG72]; simp [crX]) (o68.kept (by rw [n72]; exact Nat.le_refl _) fun q hq => by
    have q1 := o68.from hq
    have q2 := h54.cx.lt
    rw [hG72, obj_put, if_neg (by omega)])
  obtain ⟨own2, hown2⟩ : ∃ own2, own2 = grown (grown own G 13) G54 3 := ⟨_, rfl⟩
  rw [← hown2] at h72
  have ag2 : Agr (grown own G 13) own2 G54 := by rw [hown2]; exact grown_agr
  obtain ⟨G79, e79, x79⟩ := getref_ok orc hrf r3 G72
  rw [r2, if_pos r1] at e79
  obtain ⟨G84, hG84⟩ : ∃ G84, G84 = (G79.push ⟨z128, 1, false, 1⟩).put G79.nx ⟨[.int .i64 j, .int .i64 g, .bool false], 1, false, 1⟩ := ⟨_, rfl⟩
  have n84 : G84.nx = G79.nx + 1 := by rw [hG84]; rfl
  have x84 : Ext G79 G84 := by rw [hG84]; exact ((Ext.refl _).push _).put (Nat.le_refl _) _
  have p84 : G84.obj G79.nx = some ⟨[.int .i64 j, .int .i64 g, .bool false], 1, false, 1⟩ := by rw [hG84]; simp
  obtain ⟨b, d, G93, e93, x93, b0, b1, d0, d1, bd, r⟩ := newfree_ok orc (arN n lim) j (G84.room 14)
  have hfe : newFe (arN n lim) j = .looks j := by unfold newFe; rw [if_neg (by show ¬ (j < 0 ∨ n ≤ j); omega)]
  rw [hfe] at r
  have n79 := x79.nx
  have b0' : G72.nx ≤ b := by simp at b0; omega
  have d0' : G72.nx ≤ d := by simp at d0; omega
  have y93 : Ext G84 G93 := ((Ext.refl G84).room 14).trans x93
  have z93 : Ext G72 G93 := x79.trans (x84.trans y93)
  have ag3 : Agr own2 (grown own2 G72 (5 + c)) G72 := grown_agr
  have tw : Two (grown own2 G72 (5 + c)) G93 b d (5 + c) := ⟨b1, d1, grown_new b0', grown_new d0', bd⟩
  have kfb := h72.cf.lt
  obtain ⟨G96, hG96⟩ : ∃ G96, G96 = G93.put B.fb ⟨[if 0 = c then P0 b else pF B x 0, if 1 = c then P0 b else pF B x 1, if 2 = c then P0 b else pF B x 2], 1, false, 1⟩ := ⟨_, rfl⟩
  obtain ⟨h96, m96⟩ := h72.startF hc hk z93 ag3 tw r ((ag3 _ kfb).trans h72.cf.tag) hG96
  obtain ⟨a', ha'⟩ : ∃ a : Sp, a = ⟨x.calls.length, x.clock + 1, -1, (8, j, 0, 0), (0, 0, 0)⟩ := ⟨_, rfl⟩
  obtain ⟨G101, hG101⟩ : ∃ G101, G101 = G96.put (G.nx + 11) ⟨rSp.row a', 1, false, 1⟩ := ⟨_, rfl⟩
  have n96 := m96.nx
  have n68 := x68.nx
  have agA : Agr (grown own G 13) own2 G18 := fun q hq => ag2 q (by omega)
  have agB : Agr (grown own G 13) (grown own2 G72 (5 + c)) G18 := agA.trans ag3 (by omega)
  have ts : grown own2 G72 (5 + c) (G.nx + 11) = 13 := (agB _ (by omega)).trans t11
  have m101 : ModT [13] (grown own2 G72 (5 + c)) G96 G101 := by rw [hG101]; exact ModT.put (ModT.refl _ _ _) (.inl (by rw [ts]; decide)) _
  have h101 := h96.to m101 (Agr.refl _ _) (by decide)
  have n101 := m101.nx
  have l101 := fun (τ : Env) t0 t1 t8 => h101.laid orc (show x.calls.length ≤ 100000 by omega) (sb := G.nx + 11) (by omega) ts (a := a') (by rw [hG101]; simp) hc τ t0 t1 t8
  have post : ∀ τ : Env, τ 0 = P0 B.xb → τ 1 = .int .i64 c → τ 8 = P0 (G.nx + 11) → Wp (j24_0 true (exL Q orc) τ G101) (CrPost own G n lim B (x.beginF c i) (.tuple #[])) := fun τ t0 t1 t8 => by
    refine Wp.mono (l101 τ t0 t1 t8) ?_
    rintro ⟨rv, H⟩ ⟨rfl, mH, cv', hH⟩
    have aG : Agr own (grown own2 G72 (5 + c)) G := grown_agr.trans agB mm18.nx
    have M1 : ModT crT own G G54 := (ModT.mono (us := crT) mm18 (by decide)).trans grown_agr ((ModT.ext ((Ext.refl G18).room 14)).trans (Agr.refl _ _) (ModT.mono (us := crT) m54 (by decide)))
    have M2 : ModT crT own G G72 := M1.trans grown_agr (ModT.mono (us := crT) m72 (by decide))
    have M3 : ModT crT own G G96 := M2.trans (grown_agr.trans agA mm18.nx) (ModT.mono (us := crT) m96 (by decide))
    have M4 : ModT crT own G G101 := ⟨Nat.le_trans M3.nx m101.nx, fun q hq hn => by rw [hG101, obj_put, if_neg (by omega)]; exact M3.obj q hq hn, by rw [hG101]; exact M3.nl, fun l hl => by rw [hG101]; exact M3.loop l hl⟩
    have hy : x.beginF c i = { x with clock := x.clock + 1, back := upN x.back c (wordT j g), held := x.held.eraseIdx i, k := upN x.k c (.fe (.looks j)), o := upN x.o c x.calls.length, calls := x.calls ++ [a'] } := by
      unfold CA.beginF
      rw [hix, hgd, hj, ha']
    rw [hy]
    exact ⟨rfl, _, { B with hv := v4, b := upN B.b c b, d := upN B.d c d, cv := cv' }, rfl, rfl, aG.trans grown_agr (by omega), M4.trans aG (ModT.mono (us := crT) mH (by decide)), hH⟩
  have hA : (arN n lim).v = .agg #[.int .i64 0, .int .i64 1, .int .i64 n, .int .i64 (1 + n), .int .i64 (1 + 2 * n), .int .i64 lim] := rfl
  rw [hA] at e93
  rcases h18.hq.2 with ⟨_, h0⟩ | ⟨hb, op, hhv, _, hb0, hbo⟩
  · have : x.held.length = 0 := h0
    omega
  have fl : ((rowsI .u64).flat x.held)[i]? = some (.int .u64 (wordT j g)) := by
    have := (rowsI .u64).flat_at x.held hiL (f := 0) (by decide)
    simp [rowsI, hj] at this
    simpa [rowsI] using this
  have hwi : IntKind.wrap .i64 ((i : Int) + 1) = (i : Int) + 1 := wrap64 (by omega) (by omega)
  have hil : (i : Int) < x.held.length := by omega
  have hi0 : (0 : Int) ≤ i := by omega
  have lh : ∀ t, ln Q true t B.hv = some (.int .i64 x.held.length) := fun t => by rw [hhv]; simp
  have ne1 : ¬ B.bb = B.xb := fun e => h.cx.ne (b' := B.bb) (t' := 15) h.ck.tag (by decide) e.symm
  have ne2 : ¬ B.xb = B.bb := fun e => ne1 e.symm
  have nsx : ¬ B.xb = G.nx + 11 := by have := h.cx.lt; omega
  have nsb : ¬ B.bb = G.nx + 11 := by have := h.ck.lt; omega
  have hox := h.cx.obj
  have ox18 := h18.cx.obj
  have ob18 := h18.ck.obj
  have ox54 := h54.cx.obj
  have ob54 := h54.ck.obj
  have oxR := (xR1.obj _ h54.cx.lt).trans ox54
  have ox61 := (x61.obj _ h54.cx.lt).trans ox54
  have ox68 := (x68.obj _ h54.cx.lt).trans ox54
  have ox72 := h72.cx.obj
  have ob72 := h72.ck.obj
  have of72 : G72.obj B.fb = some ⟨[pF B x 0, pF B x 1, pF B x 2], 1, false, 1⟩ := h72.cf.obj
  have ox84 := ((x79.trans x84).obj _ h72.cx.lt).trans ox72
  have ox93 := (z93.obj _ h72.cx.lt).trans ox72
  have of93 := (z93.obj _ kfb).trans of72
  have p93 : G93.obj G79.nx = some ⟨[.int .i64 j, .int .i64 g, .bool false], 1, false, 1⟩ := (y93.obj _ (by omega)).trans p84
  have p96 : G96.obj G79.nx = some ⟨[.int .i64 j, .int .i64 g, .bool false], 1, false, 1⟩ := by
    have kfb' : B.fb < G72.nx := kfb
    rw [hG96, obj_put, if_neg (by omega)]; exact p93
  have s54 : G54.obj (G.nx + 11) = some ⟨rSp.row a, 1, false, 1⟩ := by
    rw [hG54, obj_put, if_neg (fun e => nsb e.symm)]; exact s18
  have s72 : G72.obj (G.nx + 11) = some ⟨rSp.row a, 1, false, 1⟩ := by
    rw [hG72, obj_put, if_neg (fun e => nsx e.symm), x68.obj _ (by omega)]; exact s54
  have s96 : G96.obj (G.nx + 11) = some ⟨rSp.row a, 1, false, 1⟩ := by
    rw [hG96, obj_put, if_neg (fun e => by have := h.cf.lt; omega), z93.obj _ (by omega)]; exact s72
  have n98 : ¬ G79.nx = B.fb := by have kfb' : B.fb < G72.nx := kfb; omega
  have n11 : ¬ G.nx + 11 = B.fb := by have := h.cf.lt; omega
  have nx54 : ¬ B.xb = G54.nx + 1 := by have q : B.xb < G54.nx := h54.cx.lt; omega
  have one' := own_one o68
  have pf : ∀ y : CA, y.k = x.k → ∀ j, pF B y j = pF B x j := fun y hy j => by unfold pF; rw [hy]
  simp only [crX, hhv] at hox ox18 hR ox54 oxR ox61 ox68 ox72 ox84 ox93 hG72
  rw [hhv] at e1 e3 e3'
  simp only [hz, rSp_row, ha] at hG18
  simp only [rSp_row, ha] at s96
  simp only [rSp_row, ha'] at hG101
  simp only [hz6] at hG84
  refine Wp.ref (f24 (exL_ok Q orc) _ _ _ _ G) ?_
  clear l101 h101 h96 h72 h54 h18' h18 h1 hI h m1 m18 mm18 m54 m72 m96 m101
  rcases (show c = 0 ∨ c = 1 ∨ c = 2 by omega) with rfl | rfl | rfl
  all_goals
    simp [upN] at hG54 ob54 ob72
    simp at hG96
    simp [-Int.natCast_add, s24, sb24, hox, hw, hhv, ← hR, lc, lh, hz5, hz, ← hG18, ox18, ob18, epk, hbo, fl, hil, hi0, ← hG54, ← hR1, ox54, oxR, e1, e2, ox61, hwi, e3, e3', e4, ox68, nx54, stO_one _ _ one', ← hG72, ox72, ob72, e79, hz6, splice_put, splice_end, splice_succ, ← hG84, ox84, p84, e93, ox93, of93, ← hG96, p96, s96, ← hG101, sm3, n98, n11, p93]
    exact post _ (by simp [clip_t]) (by simp [clip_t]) (by simp [clip_t])
end
end Go.Proofs.Ytfmkihikmlcimaa.Lift

set_option linter.unusedVariables false
set_option linter.unusedSimpArgs false
set_option maxRecDepth 20000
namespace Go.Proofs.Ytfmkihikmlcimaa.Lift
open Go Go.Proofs.Ytfmkihikmlcimaa.Gh Go.Proofs
section
variable {own own' own1 : Nat → Nat} {G G' G1 G2 G3 : GS} {b d t c K : Nat} {n lim T : Int} {F : List Int} {ts : List Nat} {cs : List Value} {x y : CA} {B B' : CrB} {v : Value} {A : Ar} {y0 : CoS} {s' : MS}
/-- a slice of the law's argument -/
structure ArgS (own : Nat → Nat) (G : GS) (v : Value) (L : List Int) : Prop where
  is : SlR (rowsI .i64) G v L
  tag : ∀ g, InB v g → own g = 20
theorem ArgS.to {L : List Int} (h : ArgS own G v L) (m : ModT crT own G G') (a : Agr own own' G) : ArgS own' G' v L :=
  ⟨h.is.kept m.nx fun g hg => m.same (h.is.under g hg) (by rw [h.tag g hg]; decide), fun g hg => (a g (h.is.under g hg)).trans (h.tag g hg)⟩
theorem steps_in (orc : FuncId → Bool) (hto : orc 60 = false) (hrf : orc 95 = false) (h : CrG own G n lim x B) (hI : InvA n lim K x F T) (hK : K ≤ 100000) (hc : c < 3) : Wp ((E orc).cl 25 [P0 B.xb, .int .i64 c] G) (CrPost own G n lim B (x.steps (arN n lim) c) (.bool true)) := by
  cases hk : x.k c with
  | idle =>
    refine steps_idle orc h hc hk ?_
    rcases hI.op c hc with q | q
    · exact q.2
    · exact absurd hk q.1
  | al p => exact steps_al orc hto hrf h hI hK hc hk
  | fe p => exact steps_fe orc hto h hI hK hc hk
theorem InvA.idle (h : InvA n lim K x F T) (hc : c < 3) : x.o c < 0 ↔ x.k c = .idle := by
  rcases h.op c hc with ⟨q1, q2⟩ | ⟨q1, _, q2, _⟩
  · exact ⟨fun _ => q1, fun _ => by omega⟩
  · exact ⟨fun q => by omega, fun q => absurd q q1⟩
theorem begins_in (orc : FuncId → Bool) (hrf : orc 95 = false) (h : CrG own G n lim x B) (hI : InvA n lim K x F T) (hK : K ≤ 100000) (hc : c < 3) (hb : x.o c < 0) (q : Bool) (w : Int) (hq : q = true → 0 < x.held.length) :
    Wp ((E orc).cl 24 [P0 B.xb, .int .i64 c, .bool q, .int .i64 w] G) fun r => r.1 = .tuple #[] ∧ ∃ own' B' x' F' T', B'.xb = B.xb ∧ Agr own own' G ∧ ModT crT own G r.2 ∧ CrG own' r.2 n lim x' B' ∧ InvA n lim (K + 1) x' F' T' := by
  have hk := (hI.idle hc).1 hb
  cases q with
  | false =>
    refine Wp.mono (begins_al orc h hI hK hc hk _) ?_
    rintro r ⟨h1, own', B', h2, h3, h4, h5, h6⟩
    exact ⟨h1, own', B', _, F, T, h2, h4, h5, h6, hI.beginA hc hk⟩
  | true =>
    have hl := hq rfl
    refine Wp.mono (begins_fr orc hrf h hI hK hc hk w hl) ?_
    rintro r ⟨h1, own', B', h2, h3, h4, h5, h6⟩
    have hlt := Int.emod_lt_of_pos w (show (0 : Int) < x.held.length by omega)
    have hge := Int.emod_nonneg w (show (x.held.length : Int) ≠ 0 by omega)
    exact ⟨h1, own', B', _, F, T, h2, h4, h5, h6, hI.beginF hc hk (by omega)⟩
/-- a crew behind what was done -/
inductive PlP (n lim : Int) (xb K : Nat) (G : GS) : Prop where
  | mk (own' : Nat → Nat) (B' : CrB) (x' : CA) (K' : Nat) (F' : List Int) (T' : Int) : B'.xb = xb → CrG own' G n lim x' B' → InvA n lim K' x' F' T' → K' ≤ K → PlP n lim xb K G
inductive AlP (n lim : Int) (xb K c : Nat) (o : Nat → Int) (G : GS) : Prop where
  | mk (own' : Nat → Nat) (B' : CrB) (x' : CA) (K' : Nat) (F' : List Int) (T' : Int) : B'.xb = xb → CrG own' G n lim x' B' → InvA n lim K' x' F' T' → K' ≤ K → x'.o c = -1 → (∀ i, i ≠ c → x'.o i = o i) → AlP n lim xb K c o G
inductive EndP (n lim : Int) (xb : Nat) (G : GS) : Prop where
  | mk (own' : Nat → Nat) (B' : CrB) (x' : CA) (K' : Nat) (F' : List Int) (T' : Int) : B'.xb = xb → CrG own' G n lim x' B' → InvA n lim K' x' F' T' → K' ≤ 95000 → (∀ i, i < 3 → x'.o i = -1) → EndP n lim xb G
theorem open_ok (h : CrG own G n lim x B) : G.obj B.xb = some ⟨crX n lim x B, 1, false, 1⟩ ∧ G.obj B.ob = some ⟨[.int .i64 (x.o 0), .int .i64 (x.o 1), .int .i64 (x.o 2)], 1, false, 1⟩ := ⟨h.cx.obj, h.co.obj⟩
set_option maxHeartbeats 1000000 in
/-- acts by numbers -/
theorem plays_lp (orc : FuncId → Bool) (hto : orc 60 = false) (hrf : orc 95 = false) {xb : Nat} {v1 : Value} {L : List Int} (hlen : L.length ≤ 1000) : ∀ (k i : Nat) (τ : Env) (G : GS) (own : Nat → Nat) (B : CrB) (x : CA) (K : Nat) (F : List Int) (T : Int),
    i + k = L.length → τ 0 = P0 xb → τ 1 = v1 → τ 5 = .int .i64 (i : Int) → B.xb = xb → CrG own G n lim x B → ArgS own G v1 L → InvA n lim K x F T → K + k ≤ 90000 →
    Wp ((exL Q orc).lpx 8 0 τ G) fun q => q.1 = .exit 0 ∧ q.2.1 0 = P0 xb ∧ PlP n lim xb (K + k) q.2.2 := by
  intro k
  induction k with
  | zero =>
    intro i τ G own B x K F T hi t0 t1 t5 hB h ha hI hK
    have hi' : i = L.length := by omega
    obtain ⟨a, c, e0⟩ := ha.is.len
    refine Wp.lp (l8_0 (exL_ok Q orc)) ?_
    subst hi'
    simp [b8_0, bb8_0, clip_t, t0, t1, t5, e0]
    exact .mk own B x K F T hB h hI (Nat.le_refl _)
  | succ k ih =>
    intro i τ G own B x K F T hi t0 t1 t5 hB h ha hI hK
    have hlt : i < L.length := by omega
    have hw : IntKind.wrap .i64 ((i : Int) + 1) = ((i + 1 : Nat) : Int) := wrap64 (by omega) (by omega)
    have h1 : (i : Int) < L.length := by omega
    have h2 : (0 : Int) ≤ i := by omega
    obtain ⟨b, o, cc, e0, _, q, _⟩ := ha.is.at hlt
    have q0 := q 0 (by decide)
    simp at q0
    have ep := pick_ok orc L[i] 3 (by decide) (by decide) G
    obtain ⟨c, hc⟩ : ∃ c : Nat, L[i] % 3 = (c : Int) := ⟨(L[i] % 3).toNat, by omega⟩
    have hc3 : c < 3 := by omega
    rw [hc] at ep
    subst hB
    obtain ⟨hox, hoo⟩ := open_ok h
    -- on
    have fin : ∀ (τ' : Env) (G' : GS) (own' : Nat → Nat) (B' : CrB) (x' : CA) (F' : List Int) (T' : Int), B'.xb = B.xb → CrG own' G' n lim x' B' → ArgS own' G' v1 L → InvA n lim (K + 1) x' F' T' → τ' 0 = P0 B.xb → τ' 1 = v1 → τ' 5 = .int .i64 (i : Int) →
        Wp (jbl8_0_0 true (exL Q orc) ((exL Q orc).lpx 8 0) τ' G') fun q => q.1 = .exit 0 ∧ q.2.1 0 = P0 B.xb ∧ PlP n lim B.xb (K + (k + 1)) q.2.2 := by
      intro τ' G' own' B' x' F' T' hB' h' ha' hI' s0 s1 s5
      simp [-Int.natCast_add, jbl8_0_0, s0, s1, s5, hw]
      refine Wp.mono (ih (i + 1) _ G' own' B' _ (K + 1) F' T' (by omega) ?_ ?_ ?_ hB' h' ha' hI' (by omega)) ?_
      · simp [clip_t]
      · simp [clip_t]
      · simp [clip_t]
      · rintro q ⟨z1, z2, own3, B3, x3, K3, F3, T3, z3, z4, z5, z6⟩
        exact ⟨z1, z2, .mk own3 B3 x3 K3 F3 T3 z3 z4 z5 (by omega)⟩
    clear ih
    refine Wp.lp (l8_0 (exL_ok Q orc)) ?_
    by_cases hb : x.o c < 0
    · have hR := h.to (ModT.ext (ts := []) ((Ext.refl G).room 23)) (Agr.refl _ _) (by simp)
      have haR := ha.to (ModT.ext ((Ext.refl G).room 23)) (Agr.refl _ _)
      have on : ∀ (q : Bool) (w : Int), (q = true → 0 < x.held.length) → ∃ G2, (E orc).cl 24 [P0 B.xb, .int .i64 c, .bool q, .int .i64 w] (G.room 23) = some (.tuple #[], G2) ∧ ∀ τ' : Env, τ' 0 = P0 B.xb → τ' 1 = v1 → τ' 5 = .int .i64 (i : Int) → Wp (jbl8_0_0 true (exL Q orc) ((exL Q orc).lpx 8 0) τ' G2) fun q => q.1 = .exit 0 ∧ q.2.1 0 = P0 B.xb ∧ PlP n lim B.xb (K + (k + 1)) q.2.2 := fun q w hq => by
        obtain ⟨⟨r, G2⟩, e2, rfl, own2, B2, x2, F2, T2, g1, g2, g3, g4, i1⟩ := begins_in orc hrf hR hI (by omega) hc3 hb q w hq
        exact ⟨G2, e2, fun τ' s0 s1 s5 => fin τ' G2 own2 B2 x2 F2 T2 g1 g4 (haR.to g3 g2) i1 s0 s1 s5⟩
      have ep2 := fun w => pick_ok orc w 2 (by decide) (by decide) (G.room 23)
      obtain ⟨ha', hc', eh⟩ := h.hq.is.len
      simp only [crX, eh] at hox
      by_cases hl : 0 < x.held.length
      · obtain ⟨G2, e2, fin2⟩ := on (decide (IntKind.i64.wrap (L[i].tdiv 3) % 2 = 1)) (IntKind.i64.wrap (L[i].tdiv 6)) fun _ => hl
        rcases (show c = 0 ∨ c = 1 ∨ c = 2 by omega) with rfl | rfl | rfl
        all_goals
          simp at ep e2
          simp [-Int.natCast_add, b8_0, bb8_0, jl8_0_0, clip_t, t0, t1, t5, e0, h1, h2, hlt, q0, ep, hox, hoo, hb, hl, ep2, e2]
          subst e0
          refine fin2 _ ?_ ?_ ?_ <;> simp [clip_t]
      · obtain ⟨G2, e2, fin2⟩ := on false (IntKind.i64.wrap (L[i].tdiv 6)) fun q => (by cases q)
        have hl0 : x.held.length = 0 := by omega
        rw [hl0] at hox
        rcases (show c = 0 ∨ c = 1 ∨ c = 2 by omega) with rfl | rfl | rfl
        all_goals
          simp at ep e2
          simp [-Int.natCast_add, b8_0, bb8_0, jl8_0_0, clip_t, t0, t1, t5, e0, h1, h2, hlt, q0, ep, hox, hoo, hb, ep2, e2]
          subst e0
          refine fin2 _ ?_ ?_ ?_ <;> simp [clip_t]
    · obtain ⟨⟨r, G2⟩, e2, rfl, own2, B2, g1, g0, g2, g3, g4⟩ := steps_in orc hto hrf h hI (by omega) hc3
      obtain ⟨F2, T2, i1, -⟩ := hI.steps (by omega) hc3
      simp only at g3 g4
      simp only [crX] at hox
      have main : ∀ oc : Int, oc = x.o c → ¬ oc < 0 := fun oc e => by rw [e]; exact hb
      rcases (show c = 0 ∨ c = 1 ∨ c = 2 by omega) with rfl | rfl | rfl
      all_goals
        simp at ep e2
        simp [-Int.natCast_add, b8_0, bb8_0, jl8_0_0, clip_t, t0, t1, t5, e0, h1, h2, hlt, q0, ep, hox, hoo, hb, e2]
        subst e0
        refine fin _ G2 own2 B2 _ F2 T2 g1 g4 (ha.to g3 g2) i1 ?_ ?_ ?_ <;> simp [clip_t]
end
end Go.Proofs.Ytfmkihikmlcimaa.Lift

set_option linter.unusedVariables false
set_option linter.unusedSimpArgs false
set_option maxRecDepth 20000
namespace Go.Proofs.Ytfmkihikmlcimaa.Lift
open Go Go.Proofs.Ytfmkihikmlcimaa.Gh Go.Proofs
section
variable {own own' own1 : Nat → Nat} {G G' G1 G2 G3 : GS} {b d t c K : Nat} {n lim T : Int} {F : List Int} {ts : List Nat} {cs : List Value} {x y : CA} {B B' : CrB} {v : Value} {A : Ar} {y0 : CoS} {s' : MS}
theorem InvA.mu_pos (h : InvA n lim K x F T) (hc : c < 3) (hb : 0 ≤ x.o c) : 1 ≤ mu n (x.s.at' 0) (x.k c) := by
  rcases h.op c hc with ⟨_, q⟩ | ⟨q1, q2, -⟩
  · omega
  · have hco := h.ri.co c hc
    have hok := h.ri.ok c hc
    cases hk : x.k c with
    | idle => exact absurd hk q1
    | al p =>
      rw [hk] at hco hok q2
      cases p with
      | pop p =>
        cases p with
        | go ph w i j => unfold mu; repeat' split
                         all_goals omega
        | done i => exact hco.elim
      | gives i => exact Nat.le_refl _
      | lacks => exact Nat.le_refl _
      | done g e => cases q2
    | fe p =>
      rw [hk] at hco hok q2
      cases p with
      | looks i => simp [mu]
      | raises i g => simp [mu]
      | push p =>
        cases p with
        | go ph w i => unfold mu; repeat' split
                       all_goals omega
        | done e => exact hco.elim
      | wears => exact Nat.le_refl _
      | done e => cases q2
theorem steps_o (x : CA) (A : Ar) (c j : Nat) (h : j ≠ c) : (x.steps A c).o j = x.o j := by
  unfold CA.steps
  split
  · rfl
  · split
    · exact upN_ne _ _ h
    · rfl
  · split
    · exact upN_ne _ _ h
    · rfl
theorem alone_lp (orc : FuncId → Bool) (hto : orc 60 = false) (hrf : orc 95 = false) {xb : Nat} (hc : c < 3) : ∀ (m j : Nat) (τ : Env) (G : GS) (own : Nat → Nat) (B : CrB) (x : CA) (K : Nat) (F : List Int) (T : Int),
    j + m ≤ 6 → τ 0 = P0 xb → τ 7 = .int .i64 (c : Int) → τ 8 = .int .i64 (j : Int) → B.xb = xb → CrG own G n lim x B → InvA n lim K x F T → K + m ≤ 95000 → (0 ≤ x.o c → mu n (x.s.at' 0) (x.k c) ≤ m) →
    Wp ((exL Q orc).lpx 8 2 τ G) fun q => q.1 = .exit 4 ∧ q.2.1 0 = P0 xb ∧ q.2.1 7 = .int .i64 (c : Int) ∧ AlP n lim xb (K + m) c x.o q.2.2 := by
  intro m
  induction m with
  | zero =>
    intro j τ G own B x K F T hj t0 t7 t8 hB h hI hK hn
    have hb : ¬ 0 ≤ x.o c := fun hb => by have := hn hb; have := hI.mu_pos hc hb; omega
    have hb1 : x.o c = -1 := by rcases hI.op c hc with q | q
                                · exact q.2
                                · omega
    subst hB
    obtain ⟨hox, hoo⟩ := open_ok h
    simp only [crX] at hox
    refine Wp.lp (l8_2 (exL_ok Q orc)) ?_
    have fin : AlP n lim B.xb K c x.o G := .mk own B x K F T rfl h hI (Nat.le_refl _) hb1 fun _ _ => rfl
    rcases (show c = 0 ∨ c = 1 ∨ c = 2 by omega) with rfl | rfl | rfl
    all_goals
      simp at t7
      simp [b8_2, clip_t, t0, t7, t8, hox, hoo, hb1]
      simpa using fin
  | succ m ih =>
    intro j τ G own B x K F T hj t0 t7 t8 hB h hI hK hn
    subst hB
    obtain ⟨hox, hoo⟩ := open_ok h
    simp only [crX] at hox
    have h6 : j < 7 := by omega
    have h6' : ¬ (6 : Int) < j := by omega
    have hw : IntKind.wrap .i64 ((j : Int) + 1) = ((j + 1 : Nat) : Int) := wrap64 (by omega) (by omega)
    refine Wp.lp (l8_2 (exL_ok Q orc)) ?_
    by_cases hb : 0 ≤ x.o c
    · obtain ⟨⟨r, G2⟩, e2, rfl, own2, B2, g1, g0, g2, g3, g4⟩ := steps_in orc hto hrf h hI (by omega) hc
      have hne : x.k c ≠ .idle := fun q => by have := (hI.idle hc).2 q; omega
      obtain ⟨F2, T2, i1, i2⟩ := hI.steps (by omega) hc
      have hm := i2 hne
      have hm0 := hn hb
      simp only at g3 g4
      have hgo : ∀ τ' : Env, τ' 0 = P0 B.xb → τ' 7 = .int .i64 (c : Int) → τ' 8 = .int .i64 ((j + 1 : Nat) : Int) → Wp ((exL Q orc).lpx 8 2 τ' G2) fun q => q.1 = .exit 4 ∧ q.2.1 0 = P0 B.xb ∧ q.2.1 7 = .int .i64 (c : Int) ∧ AlP n lim B.xb (K + (m + 1)) c x.o q.2.2 := by
        intro τ' s0 s7 s8
        refine Wp.mono (ih (j + 1) τ' G2 own2 B2 _ (K + 1) F2 T2 (by omega) s0 s7 s8 g1 g4 i1 (by omega) (fun _ => by omega)) ?_
        rintro q ⟨z1, z2, z3, own3, B3, x3, K3, F3, T3, y1, y2, y3, y4, y5, y6⟩
        exact ⟨z1, z2, z3, .mk own3 B3 x3 K3 F3 T3 y1 y2 y3 (by omega) y5 fun i hi => (y6 i hi).trans (steps_o _ _ _ _ hi)⟩
      rcases (show c = 0 ∨ c = 1 ∨ c = 2 by omega) with rfl | rfl | rfl
      all_goals
        simp at t7 e2
        simp [-Int.natCast_add, b8_2, clip_t, t0, t7, t8, hox, hoo, hb, h6', e2, hw]
        refine hgo _ ?_ ?_ ?_ <;> simp [-Int.natCast_add, clip_t]
    · have hb1 : x.o c = -1 := by rcases hI.op c hc with q | q
                                  · exact q.2
                                  · omega
      have fin : AlP n lim B.xb (K + (m + 1)) c x.o G := .mk own B x K F T rfl h hI (by omega) hb1 fun _ _ => rfl
      rcases (show c = 0 ∨ c = 1 ∨ c = 2 by omega) with rfl | rfl | rfl
      all_goals
        simp at t7
        simp [b8_2, clip_t, t0, t7, t8, hox, hoo, hb1]
        simpa using fin
theorem cores_lp (orc : FuncId → Bool) (hto : orc 60 = false) (hrf : orc 95 = false) {xb : Nat} : ∀ (m c : Nat) (τ : Env) (G : GS) (own : Nat → Nat) (B : CrB) (x : CA) (K : Nat) (F : List Int) (T : Int), c + m = 3 → τ 0 = P0 xb → τ 7 = .int .i64 (c : Int) → B.xb = xb → CrG own G n lim x B → InvA n lim K x F T → K + 6 * m ≤ 95000 → (∀ i, i < c → x.o i = -1) →
    Wp ((exL Q orc).lpx 8 1 τ G) fun q => q.1 = .exit 2 ∧ q.2.1 0 = P0 xb ∧ EndP n lim xb q.2.2 := by
  intro m
  induction m with
  | zero =>
    intro c τ G own B x K F T hm t0 t7 hB h hI hK hi
    obtain rfl : c = 3 := by omega
    refine Wp.lp (l8_1 (exL_ok Q orc)) ?_
    simp at t7
    simp [b8_1, clip_t, t0, t7]
    exact .mk own B x K F T hB h hI (by omega) fun i h => hi i (by omega)
  | succ m ih =>
    intro c τ G own B x K F T hm t0 t7 hB h hI hK hi
    have hc : c < 3 := by omega
    have hc' : (c : Int) < 3 := by omega
    have hw : IntKind.wrap .i64 ((c : Int) + 1) = ((c + 1 : Nat) : Int) := wrap64 (by omega) (by omega)
    refine Wp.lp (l8_1 (exL_ok Q orc)) ?_
    simp [-Int.natCast_add, b8_1, clip_t, t0, t7, hc, hc']
    refine Wp.bE (Wp.mono (alone_lp orc hto hrf hc 6 0 _ G own B x K F T (by omega) ?_ ?_ ?_ hB h hI (by omega) (fun _ => mu_le _ _ _)) ?_)
    · simp [clip_t, t0]
    · simp [clip_t, t7]
    · simp [clip_t]
    rintro ⟨e1, τ', G'⟩ ⟨rfl, s0, s7, ⟨own', B', x', K', F', T', z1, z2, z3, z4, z5, z6⟩⟩
    simp only at s0 s7 z2
    simp [-Int.natCast_add, s0, s7, hw]
    refine Wp.mono (ih (c + 1) _ G' own' B' x' K' F' T' (by omega) ?_ ?_ z1 z2 z3 (by omega) fun i h1 => ?_) fun q hq => hq
    · simp [clip_t, s0]
    · simp [-Int.natCast_add, clip_t]
    · by_cases e : i = c
      · rw [e]; exact z5
      · rw [z6 i e]; exact hi i (by omega)
theorem busy_ok (orc : FuncId → Bool) (h : CrG own G n lim x B) (ho : ∀ i, i < 3 → x.o i = -1) : (E orc).cl 26 [P0 B.xb] G = some (.bool false, G) := by
  refine f26 (exL_ok Q orc) _ G _ ?_
  obtain ⟨hox, hoo⟩ := open_ok h
  simp only [crX] at hox
  simp [s26, hox, hoo, ho 0 (by decide), ho 1 (by decide), ho 2 (by decide)]
theorem plays_in (orc : FuncId → Bool) (hto : orc 60 = false) (hrf : orc 95 = false) {v1 : Value} {L : List Int} (hlen : L.length ≤ 1000) (h : CrG own G n lim x B) (ha : ArgS own G v1 L) (hI : InvA n lim 0 x F T) :
    Wp ((E orc).cl 8 [P0 B.xb, v1] G) fun q => q.1 = .bool true ∧ EndP n lim B.xb q.2 := by
  refine Wp.ref (f8 (exL_ok Q orc) _ _ G) ?_
  simp [s8]
  refine Wp.bE (Wp.mono (plays_lp orc hto hrf hlen L.length 0 _ G own B x 0 F T (by omega) ?_ ?_ ?_ rfl h ha hI (by omega)) ?_)
  · simp
  · simp
  · simp
  rintro ⟨e1, τ', G'⟩ ⟨rfl, s0, ⟨own', B', x', K', F', T', z1, z2, z3, z4⟩⟩
  simp only at s0 z2
  simp
  refine Wp.bE (Wp.mono (cores_lp orc hto hrf (xb := B.xb) 3 0 _ G' own' B' x' K' F' T' (by omega) ?_ ?_ z1 z2 z3 (by omega) (fun i h => by omega)) ?_)
  · simp [s0]
  · simp
  rintro ⟨e2, τ2, G2⟩ ⟨rfl, s2, ⟨own2, B2, x2, K2, F2, T2, y1, y2, y3, y4, y5⟩⟩
  simp only at s2 y2
  have eb := busy_ok orc y2 y5
  rw [y1] at eb
  simp [s2, eb]
  exact .mk own2 B2 x2 K2 F2 T2 y1 y2 y3 y4 y5
end
end Go.Proofs.Ytfmkihikmlcimaa.Lift

