/- contracts of the program's functions -/
import Derived.Test.YtocbppgkgcoehaaMD
import Derived.Test.YtocbppgkgcoehaaGhLS
set_option linter.unusedVariables false
set_option linter.unusedSimpArgs false
set_option maxRecDepth 20000
namespace Go.Proofs.Ytocbppgkgcoehaa.Lift
open Go Go.Proofs.Ytocbppgkgcoehaa.Gh Go.Proofs
theorem pick_ok (orc : FuncId → Bool) (x n : Int) (hn : 0 < n) (hn2 : n < 2 ^ 40) (G : GS) : (E orc).cl 32 [.int .i64 x, .int .i64 n] G = some (.int .i64 (x % n), G) := by
  refine f32 (exL_ok Q orc) _ _ G _ ?_
  have h1 := Int.emod_nonneg x (show n ≠ 0 by omega)
  have h2 := Int.emod_lt_of_pos x hn
  have ht := @Int.tmod_eq_emod x n
  have hn0 : ¬ n ≤ 0 := by omega
  have hn1 : ¬ n = 0 := by omega
  have hw : IntKind.wrap .i64 (x % n) = x % n := wrap64 (by omega) (by omega)
  by_cases hx : x.tmod n < 0
  · have e : x.tmod n + n = x % n := by split at ht <;> omega
    simp [s32, clip_t, hx, e, hw, hn0, hn1]
  · have e : x.tmod n = x % n := by split at ht <;> omega
    have hx' : ¬ x % n < 0 := by omega
    simp [s32, clip_t, e, hx', hn0, hn1]
abbrev CoreS := OpS × Nat × Nat
def rOp : RowE CoreS := ⟨6, fun x => x.1.V x.2.1 x.2.2, fun x => x.1.len _ _, fun x => x.1.ones _ _, by decide⟩
@[simp] theorem rOp_sz : rOp.sz = 6 := rfl
@[simp] theorem rOp_row (x : CoreS) : rOp.row x = x.1.V x.2.1 x.2.2 := rfl
def CoreOk (own : Nat → Nat) (G : GS) (i : Nat) (x : CoreS) : Prop := x.1.ok ∧ x.1.R G x.2.1 x.2.2 ∧ (x.1 ≠ .idle → x.2.1 < G.nx ∧ x.2.2 < G.nx ∧ own x.2.1 = i ∧ own x.2.2 = i ∧ x.2.1 ≠ x.2.2)
theorem CoreOk.to {own own' : Nat → Nat} {G G' : GS} {i : Nat} {x : CoreS} {ts : List Nat} (h : CoreOk own G i x) (q : ModT ts own G G') (hi : i ∉ ts) (a : Agr own own' G) : CoreOk own' G' i x := by
  obtain ⟨h1, h2, h3⟩ := h
  by_cases hx : x.1 = .idle
  · exact ⟨h1, by rw [hx]; trivial, fun h => absurd hx h⟩
  · obtain ⟨p1, p2, p3, p4, p5⟩ := h3 hx
    have := q.nx
    exact ⟨h1, h2.kept (q.same p1 (by rw [p3]; exact hi)) (q.same p2 (by rw [p4]; exact hi)), fun _ => ⟨by omega, by omega, (a _ p1).trans p3, (a _ p2).trans p4, p5⟩⟩
structure RI (own : Nat → Nat) (G : GS) (m r cb : Nat) (s : MS) (O : List CoreS) : Prop where
  st : St2 own G m r s s
  ok : s.ok
  tc : own cb = 12
  lc : cb < G.nx
  oc : G.obj cb = some ⟨rOp.flat O, 6, false, 1⟩
  len : O.length = 4
  core : ∀ i x, O[i]? = some x → CoreOk own G i x
section
variable {own own' : Nat → Nat} {G G' G0 : GS} {m r b c cb : Nat} {s s' s1 : MS} {ts : List Nat} {R : Rg} {O : List CoreS}
theorem RI.lt (h : RI own G m r cb s O) {i : Nat} {x : CoreS} (hx : O[i]? = some x) : i < 4 := by have := (List.getElem?_eq_some_iff.1 hx).1; rw [h.len] at this; exact this
theorem RI.to (h : RI own G m r cb s O) (q : ModT [13] own G G') (a : Agr own own' G) : RI own' G' m r cb s O :=
  ⟨h.st.to q (by simp) (by simp) a, h.ok, (a _ h.lc).trans h.tc, Nat.lt_of_lt_of_le h.lc q.nx, (q.same h.lc (by rw [h.tc]; simp)).trans h.oc, h.len, fun i x hx => (h.core i x hx).to q (by have := h.lt hx; simp; omega) a⟩
theorem RI.ext (h : RI own G m r cb s O) (x : Ext G G') : RI (grown own G 13) G' m r cb s O := h.to (ModT.ext x) grown_agr
/-- a core's operation begins -/
theorem RI.begin (h : RI own G m r cb s O) (x : Ext G G') {i b b' : Nat} {o : OpS} (hi : i < 4) (ho : o.ok) (hR : o.R G' b b') (h1 : G.nx ≤ b) (h2 : b < G'.nx) (h3 : G.nx ≤ b') (h4 : b' < G'.nx) (h5 : b ≠ b') :
    RI (grown own G i) (G'.put cb ⟨rOp.flat (O.set i (o, b, b')), 6, false, 1⟩) m r cb s (O.set i (o, b, b')) := by
  have lc := h.lc
  have m1 : ModT [12] own G (G'.put cb ⟨rOp.flat (O.set i (o, b, b')), 6, false, 1⟩) := (ModT.ext x).put (.inl (by rw [h.tc]; simp)) _
  have a : Agr own (grown own G i) G := grown_agr
  refine ⟨h.st.to m1 (by simp) (by simp) a, h.ok, (a _ lc).trans h.tc, Nat.lt_of_lt_of_le lc x.nx, by simp, by simpa using h.len, fun j y hy => ?_⟩
  rw [List.getElem?_set] at hy
  split at hy
  · rename_i hji
    subst hji
    rw [if_pos (by rw [h.len]; exact hi)] at hy
    cases hy
    exact ⟨ho, hR.kept (by rw [obj_put, if_neg (by omega)]) (by rw [obj_put, if_neg (by omega)]), fun _ => ⟨h2, h4, grown_new h1, grown_new h3, h5⟩⟩
  · exact (h.core j y hy).to m1 (by have := h.lt hy; simp; omega) a
/-- a core's operation is told -/
theorem RI.told (orc : FuncId → Bool) (h : RI own G m r cb s O) {i : Nat} {x : CoreS} (hx : O[i]? = some x) (st : Bool) :
    Wp ((E orc).cl 37 [.agg ⟨x.1.V x.2.1 x.2.2⟩, P0 m, P0 r, .bool st] G) fun q => q.1 = .bool true ∧ ∃ own', Agr own own' G ∧ ModT [10, 11, i] own G q.2 ∧ RI own' q.2 m r cb (x.1.adv st s).2 (O.set i ((x.1.adv st s).1, x.2)) := by
  have hi := h.lt hx
  obtain ⟨c1, c2, c3⟩ := h.core i x hx
  have w : Wp ((E orc).cl 37 [.agg ⟨x.1.V x.2.1 x.2.2⟩, P0 m, P0 r, .bool st] G) fun q => q.1 = .bool true ∧ ∃ own', Agr own own' G ∧ ModT [10, 11, i] own G q.2 ∧ St2 own' q.2 m r (x.1.adv st s).2 (x.1.adv st s).2 ∧ (x.1.adv st s).1.R q.2 x.2.1 x.2.2 := by
    by_cases hid : x.1 = .idle
    · refine Wp.ref (f37 (exL_ok Q orc) _ _ _ _ G) ?_
      rw [hid]
      simp [s37, OpS.V]
      have x' : Ext G (G.push ⟨[.pointer none, .pointer none, .pointer none, .pointer none, .pointer none, .pointer none], 1, false, 1⟩) := (Ext.refl G).push _
      exact ⟨_, grown_agr, ModT.ext x', h.st.ext x', trivial⟩
    · obtain ⟨p1, p2, p3, p4, p5⟩ := c3 hid
      exact told_ok orc h.st h.ok c1 p1 p2 p3 p4 p5 (by omega) c2 st
  refine w.mono ?_
  rintro ⟨v, G1⟩ ⟨rfl, own', a, m1, h1, h2⟩
  refine ⟨rfl, own', a, m1, ⟨h1, (OpS.adv_ok c1 h.ok).2, (a _ h.lc).trans h.tc, Nat.lt_of_lt_of_le h.lc m1.nx, ?_, by simpa using h.len, fun j y hy => ?_⟩⟩
  · rw [m1.same h.lc (by rw [h.tc]; simp; omega), h.oc]
    congr 2
    have hl : i < O.length := by rw [h.len]; exact hi
    rw [List.getElem?_eq_getElem hl] at hx
    have hx' := Option.some.inj hx
    have : rOp.row ((x.1.adv st s).1, x.2) = rOp.row O[i] := by rw [hx']; exact OpS.adv_V _ _
    rw [← rOp.flat_over O hl, this, rOp.flat_over O hl, List.set_getElem_self]
  · rw [List.getElem?_set] at hy
    split at hy
    · rename_i hji
      subst hji
      rw [if_pos (by rw [h.len]; exact hi)] at hy
      cases hy
      refine ⟨(OpS.adv_ok c1 h.ok).1, h2, fun hne => ?_⟩
      have hid : x.1 ≠ .idle := fun e => hne (by simp only [e]; rfl)
      obtain ⟨p1, p2, p3, p4, p5⟩ := c3 hid
      have := m1.nx
      exact ⟨by simp only at *; omega, by simp only at *; omega, (a _ p1).trans p3, (a _ p2).trans p4, p5⟩
    · rename_i hji
      exact (h.core j y hy).to m1 (by have := h.lt hy; simp; omega) a
end
end Go.Proofs.Ytocbppgkgcoehaa.Lift

set_option linter.unusedVariables false
set_option linter.unusedSimpArgs false
set_option maxRecDepth 20000
namespace Go.Proofs.Ytocbppgkgcoehaa.Lift
open Go Go.Proofs.Ytocbppgkgcoehaa.Gh Go.Proofs
structure RAct where
  core : Int
  what : Int
  v : Int
  h : Int
def rRAct : RowE RAct := ⟨4, fun x => [.int .i64 x.core, .int .i64 x.what, .int .i64 x.v, .int .u64 x.h], fun _ => rfl, fun _ => rfl, by decide⟩
@[simp] theorem rRAct_sz : rRAct.sz = 4 := rfl
@[simp] theorem rRAct_row (x : RAct) : rRAct.row x = [.int .i64 x.core, .int .i64 x.what, .int .i64 x.v, .int .u64 x.h] := rfl
section
variable {own own' : Nat → Nat} {G G' G0 B : GS} {m r b c cb rb : Nat} {s s' s1 : MS} {ts : List Nat} {R : Rg} {O : List CoreS}
theorem allI_len (R : Rg) (s : MS) : (allI R s).length ≤ 4096 := by
  unfold allI
  split
  · rename_i h
    have : ∀ k h', (allN R s k h').length ≤ k := by
      intro k
      induction k with
      | zero => intro h'; simp [allN]
      | succ k ih => intro h'; simp only [allN]; split <;> simp; have := ih (IntKind.wrap .u64 (h' + 1)); omega
    have h1 := this R.size.toNat (s.at' R.head)
    have := h.2
    have := h.1
    omega
  · simp
/-- behind an act: what is told is compared, with all that is there -/
theorem round_ok (orc : FuncId → Bool) {lp : Env → GS → Option (Exit × Env × GS)} {P : Exit × Env × GS → Prop} (hx : Ext B G) (hB : ∀ x, x < B.nx → own x = 20) (hrb : rb < B.nx) (orb : B.obj rb = some ⟨R.cells, 1, false, 1⟩) (h : RI own G m r cb s O) {c : Nat} (hc : c < 4) {st : Bool} {τ : Env} {i : Nat} (hi : i < 2 ^ 40) {v3 : Value}
    (t3 : τ 3 = v3) (t4 : τ 4 = P0 rb) (t9 : τ 9 = P0 m) (t10 : τ 10 = P0 r) (t11 : τ 11 = .slice (some ⟨cb, 0, none⟩) 4 4) (t12 : τ 12 = .int .i64 i) (t13 : τ 13 = .int .i64 c) (t14 : τ 14 = .bool st)
    (next : ∀ (own' : Nat → Nat) (s' : MS) (O' : List CoreS) (τ' : Env) (G' : GS), Ext B G' → (∀ x, x < B.nx → own' x = 20) → RI own' G' m r cb s' O' → τ' 3 = v3 → τ' 4 = P0 rb → τ' 9 = P0 m → τ' 10 = P0 r → τ' 11 = .slice (some ⟨cb, 0, none⟩) 4 4 → τ' 12 = .int .i64 ((i + 1 : Nat) : Int) → Wp (lp τ' G') P) :
    Wp (jl6_0_0 true (exL Q orc) lp τ G) P := by
  have hlen := h.len
  have hcl : c < O.length := by omega
  have hget : O[c]? = some O[c] := List.getElem?_eq_getElem hcl
  have e0 := row_ld h.oc h.lc hcl
  simp only [rOp_sz, rOp_row] at e0
  have hc4 : (c : Int) < 4 := by omega
  have hi0 : (0 : Int) ≤ c := by omega
  have hw : IntKind.wrap .i64 ((i : Int) + 1) = ((i + 1 : Nat) : Int) := wrap64 (by omega) (by omega)
  simp [-Int.natCast_add, -loadA_s, jl6_0_0, jbl6_0_0, t3, t4, t9, t10, t11, t12, t13, t14, hc, hc4, e0]
  refine Wp.stepW (h.told orc hget st) ?_
  rintro _ G1 ⟨rfl, own1, a1, m1, h1⟩
  simp only at m1 h1
  generalize (O[c].1.adv st s).2 = s1 at *
  generalize O.set c ((O[c].1.adv st s).1, O[c].2) = O1 at *
  have x1 : Ext B G1 := m1.toExt (fun g hg => by rw [hB g hg]; simp; omega) hx
  have hB1 : ∀ x, x < B.nx → own1 x = 20 := fun x hxx => (a1 x (Nat.lt_of_lt_of_le hxx hx.nx)).trans (hB x hxx)
  have o1 := (x1.obj rb hrb).trans orb
  simp [o1]
  refine Wp.stepX (f := fun v => v) (all_ok orc h1.st.hm h1.ok R) fun v1 G2 ⟨y2, w1⟩ => ?_
  have h2 := h1.ext y2
  have o2 := ((x1.trans y2).obj rb hrb).trans orb
  simp [o2]
  refine Wp.stepX (f := fun v => v) (rall_ok orc h2.st.hr h1.ok R) fun v2 G3 ⟨x3, w2⟩ => ?_
  have y3 := y2.trans x3
  have hl := allI_len R s1
  refine Wp.step (same17 orc (w1.is.ext x3) w2.is (by omega)) fun G4 x4 => ?_
  have y4 := y3.trans x4
  obtain ⟨bb4, rest4, hm4⟩ := (h1.ext y4).st.hm
  try simp
  refine Wp.stepX (f := fun v => v) (words_ok orc hm4) fun v3' G5 ⟨x5, w3⟩ => ?_
  have y5 := y4.trans x5
  try simp
  refine Wp.stepX (f := fun v => v) (rwords_ok orc (h1.ext y5).st.hr) fun v4 G6 ⟨x6, w4⟩ => ?_
  have y6 := y5.trans x6
  have hwl : s1.W.length ≤ 4096 := h1.ok.2
  try simp
  refine Wp.step (same39 orc (w3.is.ext x6) w4.is (by omega)) fun G7 x7 => ?_
  have y7 := y6.trans x7
  obtain ⟨bb7, rest7, hm7⟩ := (h1.ext y7).st.hm
  try simp
  refine Wp.step (last_ok orc hm7) fun G8 x8 => ?_
  have y8 := y7.trans x8
  obtain ⟨wb8, hr8⟩ := (h1.ext y8).st.hr
  try simp
  refine Wp.step (rlast_ok orc hr8) fun G9 x9 => ?_
  have y9 := y8.trans x9
  obtain ⟨bb9, rest9, hm9⟩ := (h1.ext y9).st.hm
  obtain ⟨wb9, hr9⟩ := (h1.ext y9).st.hr
  simp [acc_neq]
  refine Wp.stepE (count_ok orc hm9) ?_
  try simp
  refine Wp.stepE (rcount_ok orc hr9) ?_
  try simp
  have w1' : OwR (rowsI .i64) G1.nx G9 v1 (allI R s1) := w1.ext (x3.trans (x4.trans (x5.trans (x6.trans (x7.trans (x8.trans x9))))))
  refine Wp.step (over45 orc w1' (by omega)) fun G10 m10 => ?_
  simp [-Int.natCast_add, hw]
  have h9 := h1.ext y9
  have m10' : ModT [13] (grown own1 G1 13) G9 G10 := m10.mono fun g hg => by
    have := w1'.from hg
    rw [grown_new this]; simp
  have h10 := h9.to m10' (Agr.refl _ _)
  refine next _ s1 O1 _ G10 ?_ ?_ h10 (by simp [clip_t]) (by simp [clip_t]) (by simp [clip_t]) (by simp [clip_t]) (by simp [clip_t]) (by simp [clip_t])
  · exact m10'.toExt (fun g hg => by rw [grown_agr g (Nat.lt_of_lt_of_le hg x1.nx), hB1 g hg]; simp) (x1.trans y9)
  · exact fun x hx => (grown_agr x (Nat.lt_of_lt_of_le hx x1.nx)).trans (hB1 x hx)
end
end Go.Proofs.Ytocbppgkgcoehaa.Lift

set_option linter.unusedVariables false
set_option linter.unusedSimpArgs false
set_option maxRecDepth 20000
namespace Go.Proofs.Ytocbppgkgcoehaa.Lift
open Go Go.Proofs.Ytocbppgkgcoehaa.Gh Go.Proofs
section
variable {own own' : Nat → Nat} {G G' G0 B : GS} {m r b c cb rb : Nat} {s s' s1 : MS} {ts : List Nat} {R : Rg} {O : List CoreS}
theorem steps_lp (orc : FuncId → Bool) (hrb : rb < B.nx) (orb : B.obj rb = some ⟨R.cells, 1, false, 1⟩) {v3 : Value} {L : List RAct} (hv : SlR rRAct B v3 L) (hL : L.length < 2 ^ 36) (hU : ∀ x ∈ L, U x.h) :
    ∀ (k i : Nat) (own : Nat → Nat) (s : MS) (O : List CoreS) (τ : Env) (G : GS), i + k = L.length → Ext B G → (∀ x, x < B.nx → own x = 20) → RI own G m r cb s O → τ 3 = v3 → τ 4 = P0 rb → τ 9 = P0 m → τ 10 = P0 r → τ 11 = .slice (some ⟨cb, 0, none⟩) 4 4 → τ 12 = .int .i64 i →
    Wp ((exL Q orc).lpx 6 0 τ G) fun q => q.1 = .exit 0 := by
  intro k
  induction k with
  | zero =>
    intro i own s O τ G hi hx hB h t3 t4 t9 t10 t11 t12
    have hi' : i = L.length := by omega
    subst hi'
    obtain ⟨a, c, rfl⟩ := hv.len
    refine Wp.lp (l6_0 (exL_ok Q orc)) ?_
    simp [b6_0, bb6_0, clip_t, t3, t4, t9, t10, t11, t12]
  | succ k ih =>
    intro i own s O τ G hi hx hB h t3 t4 t9 t10 t11 t12
    have hlt : i < L.length := by omega
    have hi0 : (0 : Int) ≤ i := by omega
    obtain ⟨b, o, c, e0, hbl, q0, q1⟩ := (hv.ext hx).at hlt
    have c0 := q0 0 (by decide)
    have c1 := q0 1 (by decide)
    simp [-cell_s] at c0 c1
    simp only [rRAct_sz, rRAct_row] at q1
    have hp0 := Int.emod_nonneg L[i].core (show (4 : Int) ≠ 0 by decide)
    have hp1 := Int.emod_lt_of_pos L[i].core (show (0 : Int) < 4 by decide)
    obtain ⟨c', hc'⟩ := Int.eq_ofNat_of_zero_le hp0
    have hc4 : c' < 4 := by omega
    have hc4' : (c' : Int) < 4 := by omega
    have e32 : ∀ G, (E orc).cl 32 [.int .i64 L[i].core, .int .i64 4] G = some (.int .i64 c', G) := fun G => by rw [pick_ok orc _ 4 (by decide) (by decide), hc']
    have orb' := (hx.obj rb hrb).trans orb
    have erb : loadA 4 rb 0 G = some R.v := by simp [orb']
    have hw0 : (0 : Int) ≤ c' := by omega
    refine Wp.lp (l6_0 (exL_ok Q orc)) ?_
    have go : ∀ (own : Nat → Nat) (G : GS) (O : List CoreS) (τ : Env) (st : Bool), Ext B G → (∀ x, x < B.nx → own x = 20) → RI own G m r cb s O → τ 3 = v3 → τ 4 = P0 rb → τ 9 = P0 m → τ 10 = P0 r → τ 11 = .slice (some ⟨cb, 0, none⟩) 4 4 → τ 12 = .int .i64 i → τ 13 = .int .i64 c' → τ 14 = .bool st →
        Wp (jl6_0_0 true (exL Q orc) ((exL Q orc).lpx 6 0) τ G) fun q => q.1 = .exit 0 := by
      intro own G O τ st hx hB h t3 t4 t9 t10 t11 t12 t13 t14
      refine round_ok orc hx hB hrb orb h hc4 (by omega) t3 t4 t9 t10 t11 t12 t13 t14 ?_
      intro own' s' O' τ' G' hx' hB' h' u3 u4 u9 u10 u11 u12
      exact ih (i + 1) own' s' O' τ' G' (by omega) hx' hB' h' u3 u4 u9 u10 u11 u12
    by_cases hw1 : 1 ≤ L[i].what
    · have hs0 : ¬ L[i].what = 0 := by omega
      by_cases hw3 : L[i].what ≤ 3
      · have x10 : Ext G (G.room 10) := (Ext.refl G).room 10
        simp [-Int.natCast_add, -cell_s, -loadA_s, b6_0, bb6_0, clip_t, t3, t4, t9, t10, t11, t12, e0, hlt, hi0, c0, c1, e32, hw1, hw3, hs0, erb, q1]
        refine Wp.stepW (begin_ok orc R _ _ _ _ _) ?_
        rintro _ G1 ⟨b1, b2, rfl, x1, d1, d2, d3, d4, d5, d6⟩
        simp only at x1 d2 d4 d6
        have y1 := x10.trans x1
        have n1 := x10.nx
        simp only [nx_room] at d1 d3
        have h1 := h.begin y1 hc4 (newOp_ok R L[i].what L[i].v (hU _ (List.getElem_mem hlt))) d6 (by omega) d2 (by omega) d4 d5
        have hl4 := h.len
        have est := row_st (e := rOp) ((y1.obj cb h.lc).trans h.oc) (i := c') (by omega) (newOp R L[i].what L[i].v L[i].h, b1, b2)
        simp only [rOp_sz, rOp_row] at est
        simp [-Int.natCast_add, -cell_s, -loadA_s, -storeN_s, hc4, hc4', hw0, est]
        refine go _ _ _ _ false ?_ ?_ h1 (by simp [clip_t]; exact e0.symm) (by simp [clip_t]) (by simp [clip_t]) (by simp [clip_t]) (by simp [clip_t]) (by simp [clip_t]) (by simp [clip_t]) (by simp [clip_t])
        · exact (hx.trans y1).put (by
            rcases Nat.lt_or_ge cb B.nx with hh | hh
            · have := hB _ hh; rw [h.tc] at this; omega
            · exact hh) _
        · exact fun x hxx => (grown_agr x (Nat.lt_of_lt_of_le hxx hx.nx)).trans (hB x hxx)
      · simp [-Int.natCast_add, -cell_s, -loadA_s, b6_0, bb6_0, clip_t, t3, t4, t9, t10, t11, t12, e0, hlt, hi0, c0, c1, e32, hw1, hw3, hs0]
        exact go own G O _ false hx hB h (by simp [clip_t]; exact e0.symm) (by simp [clip_t]) (by simp [clip_t]) (by simp [clip_t]) (by simp [clip_t]) (by simp [clip_t]) (by simp [clip_t]) (by simp [clip_t])
    · simp [-Int.natCast_add, -cell_s, -loadA_s, b6_0, bb6_0, clip_t, t3, t4, t9, t10, t11, t12, e0, hlt, hi0, c0, c1, e32, hw1]
      exact go own G O _ (decide (L[i].what = 0)) hx hB h (by simp [clip_t]; exact e0.symm) (by simp [clip_t]) (by simp [clip_t]) (by simp [clip_t]) (by simp [clip_t]) (by simp [clip_t]) (by simp [clip_t]) (by simp [clip_t])
end
end Go.Proofs.Ytocbppgkgcoehaa.Lift

set_option linter.unusedVariables false
set_option linter.unusedSimpArgs false
set_option maxRecDepth 20000
namespace Go.Proofs.Ytocbppgkgcoehaa.Lift
open Go Go.Proofs.Ytocbppgkgcoehaa.Gh Go.Proofs
theorem fitsI_zero {R : Rg} {c : Int} (h : fitsI R c = 0) : 1 ≤ c ∧ c ≤ 4096 ∧ R.ok := by
  unfold fitsI at h
  split at h
  · cases h
  · split at h
    · cases h
    · rename_i h1 h2
      refine ⟨by omega, by omega, ?_⟩
      exact Classical.byContradiction fun hn => h2 (.inl hn)
theorem ringSteps (orc : FuncId → Bool) (h22 : orc 22 = true) (R : Rg) (n : Int) (v2 : Value) (W : List Int) (v3 : Value) (L : List RAct) (G : GS) (h2 : SlR (rowsI .u64) G v2 W) (hW : ∀ w ∈ W, U w) (h3 : SlR rRAct G v3 L) (hL : ∀ x ∈ L, U x.h) :
    Wp ((E orc).cl 6 [R.v, .int .i64 n, v2, v3] G) fun q => q.1 = .bool true := by
  have aw : ∀ G, (E orc).cl 22 [] G = some (.bool true, G) := fun G => cl_orc Q orc h22 G
  refine Wp.ref (f6 (exL_ok Q orc) _ _ _ _ G) ?_
  have x0 : Ext G ((G.push ⟨R.cells, 1, false, 1⟩).room 7) := ((Ext.refl G).push _).room 7
  have hl2 : ∀ t, ln Q true t v2 = some (.int .i64 W.length) := fun t => by obtain ⟨a, c, rfl⟩ := h2.len; simp
  have hl3 : ∀ t, ln Q true t v3 = some (.int .i64 L.length) := fun t => by obtain ⟨a, c, rfl⟩ := h3.len; simp
  simp [s6]
  generalize hG0 : GS.room _ 7 = G0
  rw [hG0] at x0
  have o0 : G0.obj G.nx = some ⟨R.cells, 1, false, 1⟩ := by rw [← hG0]; simp
  have n0 : G.nx < G0.nx := by rw [← hG0]; simp; omega
  clear hG0
  refine Wp.stepV' (fits_ok orc R n _) fun G1 x1 => ?_
  have o1 := (x1.obj _ n0).trans o0
  simp [o1]
  refine Wp.stepV' (rfits_ok orc R n _) fun G2 x2 => ?_
  have y2 := x1.trans x2
  have o2 := (y2.obj _ n0).trans o0
  simp [o2]
  refine Wp.stepV' (rfits_ok orc R n _) fun G3 x3 => ?_
  have y3 := y2.trans x3
  have o3 := (y3.obj _ n0).trans o0
  by_cases hf : fitsI R n = 0
  · by_cases c1 : 20 < R.size
    · simp [hf, o3, c1, aw]
    by_cases c2 : 60 < n
    · simp [hf, o3, c1, c2, aw]
    by_cases c3 : 60 < W.length
    · have c3' : (60 : Int) < W.length := by omega
      simp [hf, o3, c1, c2, hl2, c3', aw]
    by_cases c4 : 120 < L.length
    · have c3' : ¬ (60 : Int) < W.length := by omega
      have c4' : (120 : Int) < L.length := by omega
      simp [hf, o3, c1, c2, hl2, hl3, c3', c4', aw]
    have c3' : ¬ (60 : Int) < W.length := by omega
    have c4' : ¬ (120 : Int) < L.length := by omega
    simp [hf, o3, c1, c2, hl2, hl3, c3', c4']
    have z3 := x0.trans y3
    obtain ⟨f1, f2, f3⟩ := fitsI_zero hf
    refine Wp.stepW (laid_ok orc R f1 f2 (h2.ext z3) (by omega)) ?_
    rintro _ G4 ⟨m, r, own, rfl, x4, hst, hown⟩
    simp only at x4 hst
    have z4 := z3.trans x4
    have hm : mkK 6 48 z88 4 4 G4 = some (.slice (some ⟨G4.nx, 0, none⟩) 4 4, G4.push ⟨rOp.flat [(.idle, 0, 0), (.idle, 0, 0), (.idle, 0, 0), (.idle, 0, 0)], 6, false, 1⟩) := by
      unfold mkK
      rw [if_pos ⟨by omega, by omega, by decide, by decide, wrap64 (by omega) (by omega), wrap64 (by omega) (by omega)⟩]
      rfl
    have x5 : Ext G4 (G4.push ⟨rOp.flat [(.idle, 0, 0), (.idle, 0, 0), (.idle, 0, 0), (.idle, 0, 0)], 6, false, 1⟩) := (Ext.refl G4).push _
    have hRI : RI (grown own G4 12) (G4.push ⟨rOp.flat [(.idle, 0, 0), (.idle, 0, 0), (.idle, 0, 0), (.idle, 0, 0)], 6, false, 1⟩) m r G4.nx (laidI R n W) [(.idle, 0, 0), (.idle, 0, 0), (.idle, 0, 0), (.idle, 0, 0)] := by
      refine ⟨hst.to (ts := []) (ModT.ext x5) (by simp) (by simp) grown_agr, putsN_ok _ _ hW (fillI_ok R (zero_ok (by omega))), grown_new (Nat.le_refl _), by simp, by simp, rfl, ?_⟩
      intro i x hx
      have : x = (.idle, 0, 0) := by
        have := List.mem_of_getElem? hx
        simpa using this
      subst this
      exact ⟨trivial, trivial, fun h => absurd rfl h⟩
    simp [hm]
    refine Wp.bE ((steps_lp orc (R := R) (B := G3) (rb := G.nx) (Nat.lt_of_lt_of_le n0 y3.nx) o3 (h3.ext z3) (by omega) hL L.length 0 _ _ _ _ _ (by omega) (x4.trans x5) (fun x hx => (grown_agr x (Nat.lt_of_lt_of_le hx x4.nx)).trans (hown x hx)) hRI (by simp) (by simp) (by simp) (by simp) (by simp) (by simp)).mono ?_)
    rintro ⟨e, τ, G'⟩ rfl
    simp [aw]
  · simp [hf, aw]
end Go.Proofs.Ytocbppgkgcoehaa.Lift

set_option linter.unusedVariables false
set_option linter.unusedSimpArgs false
set_option maxRecDepth 20000
namespace Go.Proofs.Ytocbppgkgcoehaa.Lift
open Go Go.Proofs.Ytocbppgkgcoehaa.Gh Go.Proofs
theorem okNone : OrcOk Q (among []) := among_ok _ fun f hf => by simp at hf
theorem trueAw : isTrue ((kE (among []) 60).ev.cl 22 [] GS.empty) = true := by kernel_rfl
theorem okAw : OrcOk Q (among [22]) := among_ok _ fun f hf => by
  simp only [List.mem_cons, List.not_mem_nil, or_false] at hf
  subst hf
  exact ⟨⟨_, Try.func22, by kernel_rfl, by kernel_rfl⟩, closed_kE okNone (by kernel_rfl) trueAw⟩
theorem U_wf {x : Int} (h : (Lit.int .u64 x).wf = true) : U x := by
  simp [Lit.wf] at h
  exact ⟨Int.le_trans (show (0 : Int) ≤ IntKind.min .u64 by decide) h.1, Int.lt_of_le_of_lt h.2 (show IntKind.max .u64 < (18446744073709551616 : Int) by decide)⟩
theorem row_ract {r : List Value} (h : Row [some .i64, some .i64, some .i64, some .u64] r) : ∃ x : RAct, r = rRAct.row x := by
  match r with
  | [] => exact h.elim
  | [_] => exact h.2.elim
  | [_, _] => exact h.2.2.elim
  | [_, _, _] => exact h.2.2.2.elim
  | x :: y :: z :: u :: q :: l => exact h.2.2.2.2.elim
  | [x, y, z, u] =>
    obtain ⟨⟨a, ha, _⟩, ⟨b, hb, _⟩, ⟨c, hc, _⟩, ⟨d, hd, _⟩, _⟩ := h
    exact ⟨⟨a, b, c, d⟩, by rw [ha, hb, hc, hd]; rfl⟩
theorem ract_U {x : RAct} (h : Row [some .i64, some .i64, some .i64, some .u64] (rRAct.row x)) : U x.h := by
  obtain ⟨_, _, _, ⟨d, hd, hw⟩, _⟩ := h
  simp only [Value.int.injEq, true_and] at hd
  rw [hd]
  exact U_wf hw
theorem row_ring {r : List Value} (h : Row [some .i64, some .i64, some .i64, some .i64] r) : ∃ x : Rg, r = x.cells := by
  match r with
  | [] => exact h.elim
  | [_] => exact h.2.elim
  | [_, _] => exact h.2.2.elim
  | [_, _, _] => exact h.2.2.2.elim
  | x :: y :: z :: u :: q :: l => exact h.2.2.2.2.elim
  | [x, y, z, u] =>
    obtain ⟨⟨a, ha, _⟩, ⟨b, hb, _⟩, ⟨c, hc, _⟩, ⟨d, hd, _⟩, _⟩ := h
    exact ⟨⟨a, b, c, d⟩, by rw [ha, hb, hc, hd]⟩
end Go.Proofs.Ytocbppgkgcoehaa.Lift

