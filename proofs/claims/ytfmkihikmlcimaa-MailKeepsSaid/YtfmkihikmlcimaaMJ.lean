/- contracts of the program's functions -/
import Derived.Test.YtfmkihikmlcimaaMI
set_option linter.unusedVariables false
set_option linter.unusedSimpArgs false
set_option linter.unnecessarySimpa false
set_option maxRecDepth 20000
namespace Go.Proofs.Ytfmkihikmlcimaa.Lift
open Go Go.Proofs.Ytfmkihikmlcimaa.Gh Go.Proofs
section
variable {own own' own1 : Nat → Nat} {G G' G1 G2 : GS} {n c i K a : Nat} {ts : List Nat} {x y : CM} {B B' : CrB} {v : Value} {L : List Int} {s' : MS} {D T H tk : Nat → Nat} {p : PuS} {d : DnS}
/-- a slice of the law's argument -/
structure ArgS (own : Nat → Nat) (G : GS) (v : Value) (L : List Int) : Prop where
  is : SlR (rowsI .i64) G v L
  tag : ∀ g, InB v g → own g = 20
theorem ArgS.to {L : List Int} (h : ArgS own G v L) (m : ModT crT own G G') (a : Agr own own' G) : ArgS own' G' v L :=
  ⟨h.is.kept m.nx fun g hg => m.same (h.is.under g hg) (by rw [h.tag g hg]; decide), fun g hg => (a g (h.is.under g hg)).trans (h.tag g hg)⟩
inductive PlP (n xb K : Nat) (G : GS) : Prop where
  | mk (own' : Nat → Nat) (B' : CrB) (x' : CM) (K' : Nat) (D' T' H' tk' : Nat → Nat) : B'.xb = xb → CrG own' G n x' B' → InvC n K' x' D' T' H' tk' → K' ≤ K → PlP n xb K G
theorem acts_lp (orc : FuncId → Bool) {xb : Nat} {v1 v4 v5 : Value} {L : List Int} (hlen : L.length ≤ 1000) : ∀ (k i : Nat) (τ : Env) (G : GS) (own : Nat → Nat) (B : CrB) (x : CM) (K : Nat) (D T H tk : Nat → Nat),
    i + k = L.length → τ 1 = v1 → τ 4 = v4 → τ 5 = v5 → τ 6 = P0 xb → τ 7 = .int .i64 (i : Int) → B.xb = xb → CrG own G n x B → ArgS own G v1 L → InvC n K x D T H tk → K + k ≤ 50000 →
    Wp ((exL Q orc).lpx 4 0 τ G) fun q => q.1 = .exit 0 ∧ q.2.1 4 = v4 ∧ q.2.1 5 = v5 ∧ q.2.1 6 = P0 xb ∧ PlP n xb (K + k) q.2.2 := by
  intro k
  induction k with
  | zero =>
    intro i τ G own B x K D T H tk hi t1 t4 t5 t6 t7 hB h ha hI hK
    have hi' : i = L.length := by omega
    obtain ⟨a, c, e0⟩ := ha.is.len
    refine Wp.lp (l4_0 (exL_ok Q orc)) ?_
    subst hi'
    simp [b4_0, clip_t, t1, t6, t7, e0]
    exact ⟨t4, t5, .mk own B x K D T H tk hB h hI (Nat.le_refl _)⟩
  | succ k ih =>
    intro i τ G own B x K D T H tk hi t1 t4 t5 t6 t7 hB h ha hI hK
    have hlt : i < L.length := by omega
    have hw : IntKind.wrap .i64 ((i : Int) + 1) = ((i + 1 : Nat) : Int) := wrap64 (by omega) (by omega)
    have h1 : (i : Int) < L.length := by omega
    have h2 : (0 : Int) ≤ i := by omega
    obtain ⟨b, o, cc, e0, _, q, _⟩ := ha.is.at hlt
    have q0 := q 0 (by decide)
    simp at q0
    have hR := h.extO ((Ext.refl G).room 13)
    have ep := pick_ok orc L[i] 5 (by decide) (by decide) (G.room 13)
    obtain ⟨a, hac⟩ : ∃ a : Nat, L[i] % 5 = (a : Int) := ⟨(L[i] % 5).toNat, by omega⟩
    rw [hac] at ep
    obtain ⟨⟨r, G9⟩, e9, rfl, own2, B2, x2, D2, T2, H2, tk2, g⟩ := goes_in orc hR hI (by omega) (show a < 5 by omega) (IntKind.wrap .i64 (L[i].tdiv 5))
    have gi := g.inv
    have gm := g.mod
    have gc := g.cr
    simp only at gm gc
    have ha2 : ArgS own2 G9 v1 L := (ha.to (ModT.ext ((Ext.refl G).room 13)) (Agr.refl _ _)).to gm g.agr
    subst hB
    refine Wp.lp (l4_0 (exL_ok Q orc)) ?_
    simp [-Int.natCast_add, b4_0, clip_t, t1, t6, t7, e0, h1, h2, hlt, q0, ep, e9, hw]
    subst e0
    refine Wp.mono (ih (i + 1) _ G9 own2 B2 x2 (K + 1) D2 T2 H2 tk2 (by omega) ?_ ?_ ?_ ?_ ?_ g.xb gc ha2 gi (by omega)) ?_
    · simp [clip_t]
    · simp [clip_t, t4]
    · simp [clip_t, t5]
    · simp [clip_t]
    · simp [-Int.natCast_add, clip_t]
    · rintro q ⟨z1, z2, z3, z4, own3, B3, x3, K3, D3, T3, H3, tk3, y1, y2, y3, y4⟩
      exact ⟨z1, z2, z3, z4, .mk own3 B3 x3 K3 D3 T3 H3 tk3 y1 y2 y3 (by omega)⟩
/-- who goes on in the last rounds -/
inductive AlP (n xb K a : Nat) (x : CM) (G : GS) : Prop where
  | mk (own' : Nat → Nat) (B' : CrB) (x' : CM) (K' : Nat) (D' T' H' tk' : Nat → Nat) : B'.xb = xb → CrG own' G n x' B' → InvC n K' x' D' T' H' tk' → K' ≤ K → ¬ actI x' a → (∀ j, j < 5 → j ≠ a → (actI x' j ↔ actI x j)) → AlP n xb K a x G
theorem pS_nil (B : CrB) (x : CM) (i : Nat) : (x.sd i = none ∧ pS B x i = .pointer none) ∨ (x.sd i ≠ none ∧ pS B x i = P0 (B.s i)) := by
  unfold pS
  cases h : x.sd i with
  | none => exact .inl ⟨rfl, rfl⟩
  | some p => exact .inr ⟨(fun k => by cases k), rfl⟩
theorem pD_nil (B : CrB) (x : CM) (i : Nat) : (x.dn i = none ∧ pD B x i = .pointer none) ∨ (x.dn i ≠ none ∧ pD B x i = P0 (B.d i)) := by
  unfold pD
  cases h : x.dn i with
  | none => exact .inl ⟨rfl, rfl⟩
  | some p => exact .inr ⟨(fun k => by cases k), rfl⟩
theorem alone_lp (orc : FuncId → Bool) {xb : Nat} {v4 v5 : Value} (ha : a < 5) : ∀ (m j : Nat) (τ : Env) (G : GS) (own : Nat → Nat) (B : CrB) (x : CM) (K : Nat) (D T H tk : Nat → Nat),
    j + m ≤ 20 → τ 4 = v4 → τ 5 = v5 → τ 6 = P0 xb → τ 8 = .int .i64 (a : Int) → τ 9 = .int .i64 (j : Int) → B.xb = xb → CrG own G n x B → InvC n K x D T H tk → K + m ≤ 55000 → (actI x a → needA x T a ≤ m) →
    Wp ((exL Q orc).lpx 4 2 τ G) fun q => q.1 = .exit 4 ∧ q.2.1 4 = v4 ∧ q.2.1 5 = v5 ∧ q.2.1 6 = P0 xb ∧ q.2.1 8 = .int .i64 (a : Int) ∧ AlP n xb (K + m) a x q.2.2 := by
  intro m
  induction m with
  | zero =>
    intro j τ G own B x K D T H tk hj t4 t5 t6 t8 t9 hB h hI hK hn
    have hb : ¬ actI x a := fun hb => by have := hn hb; have := hI.need_pos ha hb; omega
    subst hB
    have hox := h.cx.obj
    have hos := h.cs.obj
    have hod := h.cd.obj
    simp only [crX] at hox
    have fin : AlP n B.xb K a x G := .mk own B x K D T H tk rfl h hI (Nat.le_refl _) hb fun _ _ _ => Iff.rfl
    refine Wp.lp (l4_2 (exL_ok Q orc)) ?_
    have j60 : (j : Int) < 60 := by omega
    unfold actI at hb
    by_cases h3 : a < 3
    · rw [if_pos h3] at hb
      have hp : pS B x a = .pointer none := (pS_nil B x a).elim (·.2) fun k => absurd k.1 hb
      rcases (show a = 0 ∨ a = 1 ∨ a = 2 by omega) with rfl | rfl | rfl
      all_goals
        simp at t8
        simp [b4_2, clip_t, t6, t8, t9, j60, hox, hos, hp]
        exact ⟨t4, t5, by simpa using fin⟩
    · rw [if_neg h3] at hb
      have hp : pD B x (a - 3) = .pointer none := (pD_nil B x (a - 3)).elim (·.2) fun k => absurd k.1 hb
      have w0 : IntKind.wrap .i64 0 = 0 := by decide
      have w1 : IntKind.wrap .i64 1 = 1 := by decide
      rcases (show a = 3 ∨ a = 4 by omega) with rfl | rfl
      all_goals
        simp at t8 hp
        simp [b4_2, clip_t, t6, t8, t9, j60, hox, hod, hp, w0, w1]
        exact ⟨t4, t5, by simpa using fin⟩
  | succ m ih =>
    intro j τ G own B x K D T H tk hj t4 t5 t6 t8 t9 hB h hI hK hn
    subst hB
    have hox := h.cx.obj
    have hos := h.cs.obj
    have hod := h.cd.obj
    simp only [crX] at hox
    have j60 : (j : Int) < 60 := by omega
    have hw : IntKind.wrap .i64 ((j : Int) + 1) = ((j + 1 : Nat) : Int) := wrap64 (by omega) (by omega)
    have w0 : IntKind.wrap .i64 0 = 0 := by decide
    have w1 : IntKind.wrap .i64 1 = 1 := by decide
    refine Wp.lp (l4_2 (exL_ok Q orc)) ?_
    by_cases hb : actI x a
    · obtain ⟨⟨r, G2⟩, e2, rfl, own2, B2, x2, D2, T2, H2, tk2, g⟩ := goes_in orc h hI (by omega) ha 0
      have gi := g.inv
      have gc := g.cr
      simp only at gc
      have hm0 := hn hb
      have hgo : ∀ τ' : Env, τ' 4 = v4 → τ' 5 = v5 → τ' 6 = P0 B.xb → τ' 8 = .int .i64 (a : Int) → τ' 9 = .int .i64 ((j + 1 : Nat) : Int) → Wp ((exL Q orc).lpx 4 2 τ' G2) fun q => q.1 = .exit 4 ∧ q.2.1 4 = v4 ∧ q.2.1 5 = v5 ∧ q.2.1 6 = P0 B.xb ∧ q.2.1 8 = .int .i64 (a : Int) ∧ AlP n B.xb (K + (m + 1)) a x q.2.2 := by
        intro τ' s4 s5 s6 s8 s9
        refine Wp.mono (ih (j + 1) τ' G2 own2 B2 x2 (K + 1) D2 T2 H2 tk2 (by omega) s4 s5 s6 s8 s9 g.xb gc gi (by omega) (fun q => by have := g.less hb q; omega)) ?_
        rintro q ⟨z1, z2, z3, z4, z5, own3, B3, x3, K3, D3, T3, H3, tk3, y1, y2, y3, y4, y5, y6⟩
        exact ⟨z1, z2, z3, z4, z5, .mk own3 B3 x3 K3 D3 T3 H3 tk3 y1 y2 y3 (by omega) y5 fun i hi hne => (y6 i hi hne).trans (g.oth i hi hne)⟩
      clear ih
      unfold actI at hb
      by_cases h3 : a < 3
      · rw [if_pos h3] at hb
        have hp : pS B x a = P0 (B.s a) := (pS_nil B x a).elim (fun k => absurd k.1 hb) (·.2)
        rcases (show a = 0 ∨ a = 1 ∨ a = 2 by omega) with rfl | rfl | rfl
        all_goals
          simp at t8 e2
          simp [-Int.natCast_add, b4_2, clip_t, t6, t8, t9, j60, hox, hos, hp, e2, hw]
          refine hgo _ ?_ ?_ ?_ ?_ ?_ <;> simp [-Int.natCast_add, clip_t, t4, t5]
      · rw [if_neg h3] at hb
        have hp : pD B x (a - 3) = P0 (B.d (a - 3)) := (pD_nil B x (a - 3)).elim (fun k => absurd k.1 hb) (·.2)
        rcases (show a = 3 ∨ a = 4 by omega) with rfl | rfl
        all_goals
          simp at t8 e2 hp
          simp [-Int.natCast_add, b4_2, clip_t, t6, t8, t9, j60, hox, hod, hp, w0, w1, e2, hw]
          refine hgo _ ?_ ?_ ?_ ?_ ?_ <;> simp [-Int.natCast_add, clip_t, t4, t5]
    · have fin : AlP n B.xb (K + (m + 1)) a x G := .mk own B x K D T H tk rfl h hI (by omega) hb fun _ _ _ => Iff.rfl
      unfold actI at hb
      by_cases h3 : a < 3
      · rw [if_pos h3] at hb
        have hp : pS B x a = .pointer none := (pS_nil B x a).elim (·.2) fun k => absurd k.1 hb
        rcases (show a = 0 ∨ a = 1 ∨ a = 2 by omega) with rfl | rfl | rfl
        all_goals
          simp at t8
          simp [b4_2, clip_t, t6, t8, t9, j60, hox, hos, hp]
          exact ⟨t4, t5, by simpa using fin⟩
      · rw [if_neg h3] at hb
        have hp : pD B x (a - 3) = .pointer none := (pD_nil B x (a - 3)).elim (·.2) fun k => absurd k.1 hb
        rcases (show a = 3 ∨ a = 4 by omega) with rfl | rfl
        all_goals
          simp at t8 hp
          simp [b4_2, clip_t, t6, t8, t9, j60, hox, hod, hp, w0, w1]
          exact ⟨t4, t5, by simpa using fin⟩
inductive EndP (n xb : Nat) (G : GS) : Prop where
  | mk (own' : Nat → Nat) (B' : CrB) (x' : CM) (K' : Nat) (D' T' H' tk' : Nat → Nat) : B'.xb = xb → CrG own' G n x' B' → InvC n K' x' D' T' H' tk' → K' ≤ 55000 → (∀ i, i < 5 → ¬ actI x' i) → EndP n xb G
theorem all_lp (orc : FuncId → Bool) {xb : Nat} {v4 v5 : Value} : ∀ (m a : Nat) (τ : Env) (G : GS) (own : Nat → Nat) (B : CrB) (x : CM) (K : Nat) (D T H tk : Nat → Nat), a + m = 5 → τ 4 = v4 → τ 5 = v5 → τ 6 = P0 xb → τ 8 = .int .i64 (a : Int) → B.xb = xb → CrG own G n x B → InvC n K x D T H tk → K + 20 * m ≤ 55000 → (∀ i, i < a → ¬ actI x i) →
    Wp ((exL Q orc).lpx 4 1 τ G) fun q => q.1 = .exit 2 ∧ q.2.1 4 = v4 ∧ q.2.1 5 = v5 ∧ q.2.1 6 = P0 xb ∧ EndP n xb q.2.2 := by
  intro m
  induction m with
  | zero =>
    intro a τ G own B x K D T H tk hm t4 t5 t6 t8 hB h hI hK hi
    obtain rfl : a = 5 := by omega
    refine Wp.lp (l4_1 (exL_ok Q orc)) ?_
    simp at t8
    simp [b4_1, clip_t, t6, t8]
    exact ⟨t4, t5, .mk own B x K D T H tk hB h hI (by omega) hi⟩
  | succ m ih =>
    intro a τ G own B x K D T H tk hm t4 t5 t6 t8 hB h hI hK hi
    have ha : a < 5 := by omega
    have ha' : (a : Int) < 5 := by omega
    obtain ⟨a1, ha1⟩ : ∃ a1, a1 = a + 1 := ⟨_, rfl⟩
    have hw : IntKind.wrap .i64 ((a : Int) + 1) = (a1 : Int) := by rw [ha1]; exact wrap64 (by omega) (by omega)
    refine Wp.lp (l4_1 (exL_ok Q orc)) ?_
    simp [-Int.natCast_add, b4_1, clip_t, t6, t8, ha, ha']
    refine Wp.bE (Wp.mono (alone_lp orc ha (v4 := v4) (v5 := v5) 20 0 _ G own B x K D T H tk (by omega) ?_ ?_ ?_ ?_ ?_ hB h hI (by omega) (fun _ => by have := hI.need_le ha; omega)) ?_)
    · simp [clip_t, t4]
    · simp [clip_t, t5]
    · simp [clip_t, t6]
    · simp [clip_t, t8]
    · simp [clip_t]
    rintro ⟨e1, τ', G'⟩ ⟨rfl, s4, s5, s6, s8, ⟨own', B', x', K', D', T', H', tk', z1, z2, z3, z4, z5, z6⟩⟩
    simp only at s4 s5 s6 s8 z2
    have hox := z2.cx.obj
    have hos := z2.cs.obj
    have hod := z2.cd.obj
    rw [z1] at hox
    simp only [crX] at hox
    have hgo : ∀ τ2 : Env, τ2 4 = v4 → τ2 5 = v5 → τ2 6 = P0 xb → τ2 8 = .int .i64 (a1 : Int) → Wp ((exL Q orc).lpx 4 1 τ2 G') fun q => q.1 = .exit 2 ∧ q.2.1 4 = v4 ∧ q.2.1 5 = v5 ∧ q.2.1 6 = P0 xb ∧ EndP n xb q.2.2 := fun τ2 r4 r5 r6 r8 => by
      refine ih a1 τ2 G' own' B' x' K' D' T' H' tk' (by omega) r4 r5 r6 r8 z1 z2 z3 (by omega) fun i h1 => ?_
      by_cases e : i = a
      · rw [e]; exact z5
      · intro k; exact hi i (by omega) ((z6 i (by omega) e).1 k)
    clear ih
    have w0 : IntKind.wrap .i64 0 = 0 := by decide
    have w1 : IntKind.wrap .i64 1 = 1 := by decide
    unfold actI at z5
    by_cases h3 : a < 3
    · rw [if_pos h3] at z5
      have hp : pS B' x' a = .pointer none := (pS_nil B' x' a).elim (·.2) fun k => absurd k.1 z5
      rcases (show a = 0 ∨ a = 1 ∨ a = 2 by omega) with rfl | rfl | rfl
      all_goals
        simp at s8 hw
        simp [-Int.natCast_add, s6, s8, hox, hos, hp, hw]
        refine hgo _ ?_ ?_ ?_ ?_ <;> simp [clip_t, s4, s5, s6]
    · rw [if_neg h3] at z5
      have hp : pD B' x' (a - 3) = .pointer none := (pD_nil B' x' (a - 3)).elim (·.2) fun k => absurd k.1 z5
      rcases (show a = 3 ∨ a = 4 by omega) with rfl | rfl
      all_goals
        simp at s8 hw hp
        simp [-Int.natCast_add, s6, s8, hox, hod, hp, hw, w0, w1]
        refine hgo _ ?_ ?_ ?_ ?_ <;> simp [clip_t, s4, s5, s6]
end
end Go.Proofs.Ytfmkihikmlcimaa.Lift

set_option linter.unusedVariables false
set_option linter.unusedSimpArgs false
set_option linter.unnecessarySimpa false
set_option maxRecDepth 20000
namespace Go.Proofs.Ytfmkihikmlcimaa.Lift
open Go Go.Proofs.Ytfmkihikmlcimaa.Gh Go.Proofs
/-! ### How it begins, and the law -/
def CM.init (n : Nat) : CM := ⟨mfillI (MBn n) (MS.zero (3 + 2 * (n + 2))), fun _ => none, fun _ => 0, fun _ => 0, fun _ => none, fun _ => [], fun _ => 0, fun _ => 0, fun _ => false, 0⟩
theorem init_W {n : Nat} (h : 1 ≤ n ∧ n ≤ 4) : (CM.init n).s.W = List.replicate (3 + 2 * (n + 2)) 0 := by
  rcases (show n = 1 ∨ n = 2 ∨ n = 3 ∨ n = 4 by omega) with rfl | rfl | rfl | rfl <;> kernel_rfl
theorem zeroM_ok {k : Nat} (h : k ≤ 4096) : (MS.zero k).ok := ⟨fun w hw => by rw [(List.mem_replicate.1 hw).2]; exact ⟨by decide, by decide⟩, by simp [MS.zero]; exact h⟩
theorem InvC.init {n : Nat} (h : 1 ≤ n ∧ n ≤ 4) : InvC n 0 (CM.init n) (fun _ => 0) (fun _ => 0) (fun _ => 0) (fun _ => 0) := by
  have hW := init_W h
  have get : ∀ i, i < 3 + 2 * (n + 2) → (CM.init n).s.W[i]? = some 0 := fun i hi => by rw [hW, List.getElem?_replicate, if_pos hi]
  refine ⟨h, by rw [hW]; simp, fillsN_ok _ _ _ (zeroM_ok (by omega)), fun c hc => ?_, fun _ _ => rfl, fun _ _ => rfl, fun _ _ => rfl, fun _ _ => .none rfl, fun _ _ _ _ _ k => absurd rfl k, fun _ _ w hw => (by cases hw), fun _ _ => .none rfl rfl rfl, ⟨Int.le_refl _, Int.le_refl _⟩⟩
  have hb : bas n c ≤ 3 + (n + 2) := by unfold bas; rcases (show c = 0 ∨ c = 1 by omega) with rfl | rfl <;> omega
  refine ⟨⟨h.1, by omega, by omega, by rw [hW]; simp; omega, get _ (by omega), get _ (by omega), Nat.le_refl _, Nat.zero_le _, Nat.zero_le _, Nat.le_refl _, fun v hv => (by cases hv), fun t _ ht => ?_⟩, Nat.le_refl _⟩
  have ht' : t < n := by omega
  rw [Nat.mod_eq_of_lt ht', get _ (by omega)]
  unfold wordN
  rw [if_neg (by simp [CM.init]), Nat.div_eq_of_lt ht']
  rfl
theorem ext_drawn {A G : GS} (h : Ext A G) {n : Nat} (hn : A.nx ≤ n) (o : GObj) : Ext A (((G.at' n).push o).back G) := ((h.modP fun _ => False).drawn hn o).ext
section
variable {own own' own1 : Nat → Nat} {G G' G1 G2 : GS} {n c i K a : Nat} {ts : List Nat} {x y : CM} {B B' : CrB} {v : Value} {L : List Int} {s' : MS} {D T H tk : Nat → Nat} {p : PuS} {d : DnS}
theorem filled_ok (orc : FuncId → Bool) (hn : 1 ≤ n ∧ n ≤ 4) (G : GS) : ∃ own' m G', (E orc).cl 40 [(MBn n).v, .int .i64 (3 + 2 * ((n : Int) + 2))] G = some (P0 m, G') ∧ Ext G G' ∧ PM own' G' m (CM.init n).s ∧ ∀ g, g < G.nx → own' g = 20 := by
  obtain ⟨G1, hG1⟩ : ∃ G1, G1 = G.push ⟨(MBn n).cells, 1, false, 1⟩ := ⟨_, rfl⟩
  have x1 : Ext G G1 := by rw [hG1]; exact (Ext.refl G).push _
  have o1 : G1.obj G.nx = some ⟨(MBn n).cells, 1, false, 1⟩ := by rw [hG1]; simp
  have n1 : G1.nx = G.nx + 1 := by rw [hG1]; rfl
  obtain ⟨m, G3, e3, x3, hm3⟩ := (new_ok orc (3 + 2 * ((n : Int) + 2)) G1).2 (by omega) (by omega)
  have n3 := x3.nx
  have o3 := (x3.obj G.nx (by omega)).trans o1
  obtain ⟨own0, hown0⟩ : ∃ own0 : Nat → Nat, own0 = fun g => if g < G.nx then 20 else if g < G1.nx then 13 else 10 := ⟨_, rfl⟩
  have hk : (3 + 2 * ((n : Int) + 2)).toNat = 3 + 2 * (n + 2) := by omega
  rw [hk] at hm3
  have p3 : PM own0 G3 m (MS.zero (3 + 2 * (n + 2))) := PMx.mono hm3 (fun g hg => ⟨hg.2, by have := hg.1; rw [hown0]; simp only; rw [if_neg (by omega), if_neg (by omega)]⟩) Tag.under
  obtain ⟨own1, G14, e14, w14⟩ := fills_ok orc (MBn_placed hn).1 p3
  have hEx : Ext G G14 := ModP.tail (x1.trans x3) w14.stp.mod fun g hg => by
    rcases hg with hg | hg
    · rw [hown0] at hg
      simp only at hg
      by_cases k : g < G.nx
      · rw [if_pos k] at hg; cases hg
      · omega
    · exact hg.elim
  refine ⟨own1, m, G14, f40 (exL_ok Q orc) _ _ G _ ?_, hEx, w14.pm, fun g hg => by rw [w14.stp.agr g (by omega), hown0]; simp only; rw [if_pos hg]⟩
  simp [s40, ← hG1, e3, o3, e14]
set_option maxHeartbeats 2000000 in
theorem begun_in (orc : FuncId → Bool) (h1 : 1 ≤ n ∧ n ≤ 4) (G : GS) : ∃ own' B G', (E orc).cl 12 [.int .i64 n] G = some (P0 B.xb, G') ∧ Ext G G' ∧ CrG own' G' n (CM.init n) B ∧ ∀ g, g < G.nx → own' g = 20 := by
  have w : Wp ((E orc).cl 12 [.int .i64 n] G) fun q => ∃ B own', q.1 = P0 B.xb ∧ Ext G q.2 ∧ CrG own' q.2 n (CM.init n) B ∧ ∀ g, g < G.nx → own' g = 20 := by
    refine Wp.ref (f12 (exL_ok Q orc) _ G) ?_
    have hz3 : z55 = [.int .i64 0, .int .i64 0, .int .i64 0] := rfl
    obtain ⟨G3, hG3⟩ : ∃ G3, G3 = (G.push ⟨z55, 1, false, 1⟩).put G.nx ⟨(MBn n).cells, 1, false, 1⟩ := ⟨_, rfl⟩
    have x3 : Ext G G3 := by rw [hG3]; exact ((Ext.refl G).push _).put (Nat.le_refl _) _
    have n3 : G3.nx = G.nx + 1 := by rw [hG3]; rfl
    have o3 : G3.obj G.nx = some ⟨(MBn n).cells, 1, false, 1⟩ := by rw [hG3]; simp
    obtain ⟨own1, m, G17, e17, x17, p17, a17⟩ := filled_ok orc h1 G3
    have n17 := x17.nx
    have o17 := (x17.obj G.nx (by omega)).trans o3
    obtain ⟨R, hR⟩ : ∃ R, R = G17.room 13 := ⟨_, rfl⟩
    have nR : R.nx = G17.nx + 13 := by rw [hR]; rfl
    obtain ⟨A2, hA2⟩ : ∃ A2, A2 = ((R.at' (G17.nx + 2)).push ⟨[.pointer none, .pointer none, .pointer none], 1, false, 1⟩).back R := ⟨_, rfl⟩
    obtain ⟨A3, hA3⟩ : ∃ A3, A3 = ((A2.at' (G17.nx + 3)).push ⟨[.int .i64 0, .int .i64 0, .int .i64 0], 1, false, 1⟩).back A2 := ⟨_, rfl⟩
    obtain ⟨A4, hA4⟩ : ∃ A4, A4 = ((A3.at' (G17.nx + 4)).push ⟨[.int .i64 0, .int .i64 0, .int .i64 0], 1, false, 1⟩).back A3 := ⟨_, rfl⟩
    obtain ⟨A5, hA5⟩ : ∃ A5, A5 = ((A4.at' (G17.nx + 5)).push ⟨[.pointer none, .pointer none], 1, false, 1⟩).back A4 := ⟨_, rfl⟩
    obtain ⟨A6, hA6⟩ : ∃ A6, A6 = ((A5.at' (G17.nx + 6)).push ⟨[.slice none 0 0, .slice none 0 0], 1, false, 1⟩).back A5 := ⟨_, rfl⟩
    obtain ⟨A7, hA7⟩ : ∃ A7, A7 = ((A6.at' (G17.nx + 7)).push ⟨[.int .i64 0, .int .i64 0], 1, false, 1⟩).back A6 := ⟨_, rfl⟩
    obtain ⟨A8, hA8⟩ : ∃ A8, A8 = ((A7.at' (G17.nx + 8)).push ⟨[.int .i64 0, .int .i64 0], 1, false, 1⟩).back A7 := ⟨_, rfl⟩
    obtain ⟨A9, hA9⟩ : ∃ A9, A9 = ((A8.at' (G17.nx + 9)).push ⟨[.bool false, .bool false], 1, false, 1⟩).back A8 := ⟨_, rfl⟩
    obtain ⟨B, hB⟩ : ∃ B : CrB, B = ⟨m, G17.nx + 11, G17.nx + 2, G17.nx + 3, G17.nx + 4, G17.nx + 5, G17.nx + 6, G17.nx + 7, G17.nx + 8, G17.nx + 9, fun _ => 0, fun _ => 0, fun _ => .slice none 0 0⟩ := ⟨_, rfl⟩
    obtain ⟨Z, hZ⟩ : ∃ Z, Z = ((A9.at' (G17.nx + 11)).push ⟨crX n (CM.init n) B, 1, false, 1⟩).back A9 := ⟨_, rfl⟩
    have m2 : A2.nx = R.nx := by rw [hA2]; rfl
    have m3 : A3.nx = R.nx := by rw [hA3, ← m2]; rfl
    have m4 : A4.nx = R.nx := by rw [hA4, ← m3]; rfl
    have m5 : A5.nx = R.nx := by rw [hA5, ← m4]; rfl
    have m6 : A6.nx = R.nx := by rw [hA6, ← m5]; rfl
    have m7 : A7.nx = R.nx := by rw [hA7, ← m6]; rfl
    have m8 : A8.nx = R.nx := by rw [hA8, ← m7]; rfl
    have m9 : A9.nx = R.nx := by rw [hA9, ← m8]; rfl
    have mZ : Z.nx = R.nx := by rw [hZ, ← m9]; rfl
    have xZ : Ext G17 Z := by
      rw [hZ, hA9, hA8, hA7, hA6, hA5, hA4, hA3, hA2, hR]
      exact ext_drawn (ext_drawn (ext_drawn (ext_drawn (ext_drawn (ext_drawn (ext_drawn (ext_drawn (ext_drawn ((Ext.refl _).room 13) (by omega) _) (by omega) _) (by omega) _) (by omega) _) (by omega) _) (by omega) _) (by omega) _) (by omega) _) (by omega) _
    have xb : Z.obj (G17.nx + 11) = some ⟨crX n (CM.init n) B, 1, false, 1⟩ := by rw [hZ]; simp
    have b9 : Z.obj (G17.nx + 9) = some ⟨[.bool false, .bool false], 1, false, 1⟩ := by rw [hZ, hA9]; simp
    have b8 : Z.obj (G17.nx + 8) = some ⟨[.int .i64 0, .int .i64 0], 1, false, 1⟩ := by rw [hZ, hA9, hA8]; simp
    have b7 : Z.obj (G17.nx + 7) = some ⟨[.int .i64 0, .int .i64 0], 1, false, 1⟩ := by rw [hZ, hA9, hA8, hA7]; simp
    have b6 : Z.obj (G17.nx + 6) = some ⟨[.slice none 0 0, .slice none 0 0], 1, false, 1⟩ := by rw [hZ, hA9, hA8, hA7, hA6]; simp
    have b5 : Z.obj (G17.nx + 5) = some ⟨[.pointer none, .pointer none], 1, false, 1⟩ := by rw [hZ, hA9, hA8, hA7, hA6, hA5]; simp
    have b4 : Z.obj (G17.nx + 4) = some ⟨[.int .i64 0, .int .i64 0, .int .i64 0], 1, false, 1⟩ := by rw [hZ, hA9, hA8, hA7, hA6, hA5, hA4]; simp
    have b3 : Z.obj (G17.nx + 3) = some ⟨[.int .i64 0, .int .i64 0, .int .i64 0], 1, false, 1⟩ := by rw [hZ, hA9, hA8, hA7, hA6, hA5, hA4, hA3]; simp
    have b2 : Z.obj (G17.nx + 2) = some ⟨[.pointer none, .pointer none, .pointer none], 1, false, 1⟩ := by rw [hZ, hA9, hA8, hA7, hA6, hA5, hA4, hA3, hA2]; simp
    obtain ⟨own2, hown⟩ : ∃ own2 : Nat → Nat, own2 = fun g => if g < G17.nx then own1 g else if g = G17.nx + 11 then 1 else if g = G17.nx + 2 then 2 else if g = G17.nx + 3 then 3 else if g = G17.nx + 4 then 4 else if g = G17.nx + 5 then 14 else if g = G17.nx + 6 then 15 else if g = G17.nx + 7 then 16 else if g = G17.nx + 8 then 17 else if g = G17.nx + 9 then 18 else 13 := ⟨_, rfl⟩
    have tg : ∀ i, i < 13 → own2 (G17.nx + i) = if i = 11 then 1 else if i = 2 then 2 else if i = 3 then 3 else if i = 4 then 4 else if i = 5 then 14 else if i = 6 then 15 else if i = 7 then 16 else if i = 8 then 17 else if i = 9 then 18 else 13 := fun i hi => by
      rw [hown]; simp only
      rw [if_neg (by omega)]
      simp
    have hm29 : PM own2 Z m (CM.init n).s := PMx.mono (PMx.ext p17 xZ) (fun g hg => ⟨Nat.lt_of_lt_of_le hg.1 xZ.nx, by rw [hown]; simp only; rw [if_pos hg.1]; exact hg.2⟩) Tag.under
    have hCr : CrG own2 Z n (CM.init n) B := by
      have t11 := tg 11 (by omega)
      have t2 := tg 2 (by omega)
      have t3 := tg 3 (by omega)
      have t4 := tg 4 (by omega)
      have t5 := tg 5 (by omega)
      have t6 := tg 6 (by omega)
      have t7 := tg 7 (by omega)
      have t8 := tg 8 (by omega)
      have t9 := tg 9 (by omega)
      simp at t11 t2 t3 t4 t5 t6 t7 t8 t9
      rw [hB] at xb ⊢
      refine ⟨⟨by show G17.nx + 11 < _; omega, t11, xb⟩, ⟨by show G17.nx + 2 < _; omega, t2, b2⟩, ⟨by show G17.nx + 3 < _; omega, t3, b3⟩, ⟨by show G17.nx + 4 < _; omega, t4, b4⟩, ⟨by show G17.nx + 5 < _; omega, t5, b5⟩, ⟨by show G17.nx + 6 < _; omega, t6, b6⟩, ⟨by show G17.nx + 7 < _; omega, t7, b7⟩, ⟨by show G17.nx + 8 < _; omega, t8, b8⟩, ⟨by show G17.nx + 9 < _; omega, t9, b9⟩, hm29, fun c hc => OwT.nil _ _ _, fun i hi p hp => (by cases hp), fun c hc d hd => (by cases hd)⟩
    refine Wp.mono (Q := fun q => q = (P0 B.xb, Z)) ?_ (fun q hq => by
      subst hq
      exact ⟨B, own2, rfl, (x3.trans x17).trans xZ, hCr, fun g hg => by
        rw [hown]; simp only; rw [if_pos (by omega)]; exact a17 g (by omega)⟩)
    have hz : z61 = [.int .i64 0, .int .i64 0, .int .i64 0, .pointer none, .slice none 0 0, .slice none 0 0, .slice none 0 0, .slice none 0 0, .slice none 0 0, .slice none 0 0, .slice none 0 0, .slice none 0 0, .int .i64 0] := rfl
    have hr : (MBn n).cells = [.int .i64 3, .int .i64 2, .int .i64 n] := rfl
    have hv : (MBn n).v = .agg ⟨[.int .i64 3, .int .i64 2, .int .i64 n]⟩ := rfl
    have hBx : B.xb = G17.nx + 11 := by rw [hB]
    have hcr : crX n (CM.init n) B = [.int .i64 3, .int .i64 2, .int .i64 n, P0 m, .slice (some ⟨G17.nx + 2, 0, none⟩) 3 3, .slice (some ⟨G17.nx + 3, 0, none⟩) 3 3, .slice (some ⟨G17.nx + 4, 0, none⟩) 3 3, .slice (some ⟨G17.nx + 5, 0, none⟩) 2 2, .slice (some ⟨G17.nx + 6, 0, none⟩) 2 2, .slice (some ⟨G17.nx + 7, 0, none⟩) 2 2, .slice (some ⟨G17.nx + 8, 0, none⟩) 2 2, .slice (some ⟨G17.nx + 9, 0, none⟩) 2 2, .int .i64 0] := by rw [hB]; rfl
    rw [hcr] at hZ
    rw [hr] at o3 o17 hG3
    rw [hv] at e17
    rw [hz3] at hG3
    clear hCr
    have w1 : IntKind.wrap .i64 ((n : Int) + 2) = (n : Int) + 2 := wrap64 (by omega) (by omega)
    have w2 : IntKind.wrap .i64 (2 * ((n : Int) + 2)) = 2 * ((n : Int) + 2) := wrap64 (by omega) (by omega)
    have w3 : IntKind.wrap .i64 (3 + 2 * ((n : Int) + 2)) = 3 + 2 * ((n : Int) + 2) := wrap64 (by omega) (by omega)
    have mk3 : ∀ (z : Value) (G : GS), mkK 1 8 [z] 3 3 G = some (.slice (some ⟨G.nx, 0, none⟩) 3 3, G.push ⟨[z, z, z], 1, false, 1⟩) := by
      intro z G; unfold mkK; rw [if_pos (by decide)]; rfl
    have mk2 : ∀ (z : Value) (G : GS), mkK 1 8 [z] 2 2 G = some (.slice (some ⟨G.nx, 0, none⟩) 2 2, G.push ⟨[z, z], 1, false, 1⟩) := by
      intro z G; unfold mkK; rw [if_pos (by decide)]; rfl
    have mk24 : ∀ (z : Value) (G : GS), mkK 1 24 [z] 2 2 G = some (.slice (some ⟨G.nx, 0, none⟩) 2 2, G.push ⟨[z, z], 1, false, 1⟩) := by
      intro z G; unfold mkK; rw [if_pos (by decide)]; rfl
    have mk21 : ∀ (z : Value) (G : GS), mkK 1 1 [z] 2 2 G = some (.slice (some ⟨G.nx, 0, none⟩) 2 2, G.push ⟨[z, z], 1, false, 1⟩) := by
      intro z G; unfold mkK; rw [if_pos (by decide)]; rfl
    have hzs : z53 = [.pointer none] := rfl
    have hzd : z62 = [.pointer none] := rfl
    have hzi : z3 = [.int .i64 0] := rfl
    have hzl : z22 = [.slice none 0 0] := rfl
    have hzb : z4 = [.bool false] := rfl
    have oR : R.obj G.nx = some ⟨[.int .i64 3, .int .i64 2, .int .i64 n], 1, false, 1⟩ := by rw [hR]; simpa using o17
    simp [-Int.natCast_add, s12, hz, hz3, hzs, hzd, hzi, hzl, hzb, ← hG3, w1, w2, w3, o3, e17, o17, mk3, mk2, mk24, mk21, ← hR, oR, ← hA2]
    simp [← hA3]
    simp [← hA4]
    simp [← hA5]
    simp [← hA6]
    simp [← hA7]
    simp [← hA8]
    simp [← hA9]
    simp [hBx, hZ]
  obtain ⟨⟨v, G'⟩, e, B, own', rfl, h1, h2, h3⟩ := w
  exact ⟨own', B, G', e, h1, h2, h3⟩
end
end Go.Proofs.Ytfmkihikmlcimaa.Lift

set_option linter.unusedVariables false
set_option linter.unusedSimpArgs false
set_option linter.unnecessarySimpa false
set_option maxRecDepth 20000
namespace Go.Proofs.Ytfmkihikmlcimaa.Lift
open Go Go.Proofs.Ytfmkihikmlcimaa.Gh Go.Proofs
section
variable {own own' own1 : Nat → Nat} {G G' G1 G2 : GS} {n c i K a : Nat} {ts : List Nat} {x y : CM} {B B' : CrB} {v : Value} {L : List Int} {s' : MS} {D T H tk : Nat → Nat} {p : PuS} {d : DnS}
/-- at the end: what was not taken is there -/
theorem left_lp (orc : FuncId → Bool) {A : GS} {v5 : Value} (h : CrG own A n x B) (hI : InvC n K x D T H tk) (hK : K ≤ 60000) (hid : ∀ c, c < 2 → x.dn c = none) : ∀ (k i : Nat) (τ : Env) (G : GS), i + k = 2 → Ext A G → τ 5 = v5 → τ 6 = P0 B.xb → τ 10 = .int .i64 (i : Int) →
    Wp ((exL Q orc).lpx 4 3 τ G) fun q => q.1 = .exit 6 ∧ q.2.1 5 = v5 := by
  intro k
  induction k with
  | zero =>
    intro i τ G hi hx t5 t6 t10
    obtain rfl : i = 2 := by omega
    refine Wp.lp (l4_3 (exL_ok Q orc)) ?_
    simp at t10
    simp [b4_3, clip_t, t6, t10, t5]
  | succ k ih =>
    intro i τ G hi hx t5 t6 t10
    have hn := hI.n1
    have hi2 : i < 2 := by omega
    have hi2' : (i : Int) < 2 := by omega
    obtain ⟨i1, hi1⟩ : ∃ i1, i1 = i + 1 := ⟨_, rfl⟩
    have hw : IntKind.wrap .i64 ((i : Int) + 1) = (i1 : Int) := by rw [hi1]; exact wrap64 (by omega) (by omega)
    have hR := h.extO (hx.trans ((Ext.refl G).room 27))
    obtain ⟨wv, G7, e7, x7, w7⟩ := mall_ok orc hR.hm hI.sk (MBn n) i
    have hall : mallI (MBn n) (i : Int) x.s = allI (rgN (bas n i) n) x.s := by
      unfold mallI
      rw [if_pos ⟨MBn_placed hn, by omega, by show (i : Int) < 2; omega⟩, MBn_rg hn hi2]
    obtain ⟨hDH, htk⟩ : D i = H i ∧ tk i = H i := by
      cases hI.dn i hi2 with
      | none a b d => exact ⟨b, d⟩
      | some d a b e => rw [hid i hi2] at a; cases a
    have hb := hI.box i hi2
    rw [hDH] at hb
    have hle := hb.le
    have hsm := hb.m.small
    have hlen := hb.len
    rw [hall, allI_q hb.m (by omega)] at w7
    have h7 := hR.extO x7
    have ox := hR.cx.obj
    have ot := hR.ct.obj
    have ok := hR.ck.obj
    have ox7 := h7.cx.obj
    have ot7 := h7.ct.obj
    have ok7 := h7.ck.obj
    simp only [crX] at ox ox7
    obtain ⟨v', ed, sd⟩ := (hR.ht i hi2).ow.is.drop (k := .i64) (o := H i) hle
    have ed7 := slK_ext x7 (hR.ht i hi2).ow.is.lt ed
    have sd7 := sd.ext x7
    obtain ⟨G20, e20, x20⟩ := same14 orc w7.is sd7 (by simp; omega)
    simp only [decide_true] at e20
    have htkn := hI.tkn i hi2
    rw [htk] at htkn
    rw [← htkn] at ed ed7
    simp only [rowsI_sz] at ed ed7
    obtain ⟨ta, tc, etv⟩ := (hR.ht i hi2).ow.is.len
    have esl : ∀ t lo hi G, sl Q true t 1 (B.t i) lo hi none G = slK 1 (B.t i) lo hi none G := fun t lo hi G => by rw [etv]; exact sl_t ..
    have sm := same_slr sd
    have smt : sameO (some (B.t i)) (B.t i) = true := same_slr (hR.ht i hi2).ow.is
    simp only [MB.v, MB.cells, MBn] at e7
    refine Wp.lp (l4_3 (exL_ok Q orc)) ?_
    have ox' : G.obj B.xb = _ := ox
    have ot' : G.obj B.tb = _ := ot
    have ok' : G.obj B.kb = _ := ok
    have hgo : ∀ τ' : Env, τ' 5 = v5 → τ' 6 = P0 B.xb → τ' 10 = .int .i64 (i1 : Int) → Wp ((exL Q orc).lpx 4 3 τ' G20) fun q => q.1 = .exit 6 ∧ q.2.1 5 = v5 := fun τ' r5 r6 r10 => ih i1 τ' G20 (by omega) (((hx.trans ((Ext.refl G).room 27)).trans x7).trans x20) r5 r6 r10
    clear ih
    rcases (show i = 0 ∨ i = 1 by omega) with rfl | rfl
    all_goals
      simp at t10 e7 hw
      simp [-Int.natCast_add, b4_3, clip_t, t6, t10, ox', e7, ox7, ot', ot7, ok', ok7, esl, ed, ed7, sm, smt, e20, hw]
      refine hgo _ ?_ ?_ ?_ <;> simp [clip_t, t5]
/-- **the law**: what is taken is what came to be there, in that order; what is refused was not there -/
theorem mailKeeps (orc : FuncId → Bool) (hkn : orc 11 = true) {v1 : Value} {L : List Int} (hL : SlR (rowsI .i64) G v1 L) (z : Int) :
    Wp ((E orc).cl 4 [.int .i64 z, v1] G) fun q => q.1 = .bool true := by
  refine Wp.ref (f4 (exL_ok Q orc) _ _ G) ?_
  obtain ⟨va, vc, ev⟩ := hL.len
  have l1 : ∀ t, ln Q true t v1 = some (.int .i64 L.length) := fun t => by rw [ev]; simp
  have ek := cl_orc Q orc hkn G
  by_cases c1 : 300 < L.length
  · have c1' : (300 : Int) < L.length := by omega
    simp [s4, l1, ek, c1, c1']
  have c1' : ¬ (300 : Int) < L.length := by omega
  have ep := pick_ok orc z 4 (by decide) (by decide) G
  obtain ⟨n, hn⟩ : ∃ n : Nat, 1 + z % 4 = (n : Int) := ⟨(1 + z % 4).toNat, by omega⟩
  have h1 : 1 ≤ n ∧ n ≤ 4 := by omega
  have hw : IntKind.wrap .i64 (1 + z % 4) = (n : Int) := by rw [hn]; exact wrap64 (by omega) (by omega)
  obtain ⟨own1, B, G8, e8, x8, h8, t8⟩ := begun_in orc h1 G
  have ha : ArgS own1 G8 v1 L := ⟨hL.ext x8, fun g hg => t8 g (hL.under g hg)⟩
  simp [s4, l1, ek, c1, c1', ep, hw, e8]
  refine Wp.bE (Wp.mono (acts_lp orc (v4 := .bool false) (v5 := .bool true) (by omega) L.length 0 _ G8 own1 B _ 0 _ _ _ _ (by omega) ?_ ?_ ?_ ?_ ?_ rfl h8 ha (InvC.init h1) (by omega)) ?_)
  · simp
  · simp
  · simp
  · simp
  · simp
  rintro ⟨e1, τ1, G12⟩ ⟨rfl, s4, s5, s6, ⟨own2, B2, x2, K2, D2, T2, H2, tk2, y1, y2, y3, y4⟩⟩
  simp only at s4 s5 s6 y2
  simp
  refine Wp.bE (Wp.mono (all_lp orc (xb := B.xb) (v4 := .bool false) (v5 := .bool true) 5 0 _ G12 own2 B2 x2 K2 D2 T2 H2 tk2 (by omega) ?_ ?_ ?_ ?_ y1 y2 y3 (by omega) (fun i hi => by omega)) ?_)
  · simp [s4]
  · simp [s5]
  · simp [s6]
  · simp
  rintro ⟨e2, τ2, G15⟩ ⟨rfl, r4, r5, r6, ⟨own3, B3, x3, K3, D3, T3, H3, tk3, u1, u2, u3, u4, u5⟩⟩
  simp only at r4 r5 r6 u2
  simp
  refine Wp.bE (Wp.mono (left_lp orc (v5 := .bool true) u2 u3 (by omega) (fun c hc => ?_) 2 0 _ G15 (by omega) (Ext.refl _) ?_ ?_ ?_) ?_)
  · have := u5 (c + 3) (by omega)
    unfold actI at this
    rw [if_neg (by omega), Nat.add_sub_cancel] at this
    exact Classical.not_not.1 this
  · simp [r5]
  · simp [r6, u1]
  · simp
  rintro ⟨e3, τ3, G18⟩ ⟨rfl, q5⟩
  simp only at q5
  simp [q5]
end
end Go.Proofs.Ytfmkihikmlcimaa.Lift

set_option linter.unusedVariables false
set_option linter.unusedSimpArgs false
set_option linter.unnecessarySimpa false
set_option maxRecDepth 20000
namespace Go.Proofs.Ytfmkihikmlcimaa.Lift
open Go Go.Proofs.Ytfmkihikmlcimaa.Gh Go.Proofs
theorem trueKn : closedTrueF Q 200 11 = true := by kernel_rfl
theorem okKn : OrcOk Q (among [11]) := among_ok _ (hp := purOk_none (by kernel_rfl) (by kernel_rfl)) fun f hf => by
  simp only [List.mem_cons, List.not_mem_nil, or_false] at hf
  subst hf
  exact ⟨⟨_, Try.func11, by kernel_rfl, by kernel_rfl⟩, fun w _ => closed_trueF (by kernel_rfl) trueKn w⟩
end Go.Proofs.Ytfmkihikmlcimaa.Lift

