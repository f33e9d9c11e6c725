import Derived.Test.YtglafaecdpilgaaW4
set_option linter.unusedVariables false
set_option linter.unusedSimpArgs false
set_option maxRecDepth 20000
namespace Go.Proofs.Ytglafaecdpilgaa.Lift
open Go Go.Proofs.Ytglafaecdpilgaa.Gh Go.Proofs
section
variable {A : Nat → Prop} {G : GS} {r : Nat} {lv dv : Value} {S : List Slt} {D : List Deed} {N : Int}
theorem RFr.grow0 (h : RFr A G r lv dv S D N) : RFx (Grow A G G) G r S D N := ⟨lv, dv, h.mono (fun x => grow_in) (h.un.grow (Nat.le_refl _))⟩
/-- where a core would stand -/
theorem rb_lp (orc : FuncId → Bool) {lv dv : Value} {C : Int} {L : List Deed} (hr : G.obj r = some ⟨[.int .i64 C, lv, dv, .int .i64 N], 1, false, 1⟩) (hl : SlR rDeed G lv L) (hlen : L.length < 2 ^ 40) (c : Int) (w : Value) (K : Nat) (hK : K ≤ L.length) (h1 : ∀ j (h : j < L.length), j < K → L[j].1 < c) (h2 : ∀ h : K < L.length, ¬ L[K].1 < c) : ∀ (k i : Nat) (τ : Env), i + k = K → τ 0 = P0 r → τ 1 = .int .i64 c → τ 2 = w → τ 9 = .int .i64 i →
    Wp ((exL Q orc).lpx 35 0 τ G) fun q => q.2.2 = G ∧ q.1 = .exit 1 ∧ q.2.1 0 = P0 r ∧ q.2.1 1 = .int .i64 c ∧ q.2.1 2 = w ∧ q.2.1 9 = .int .i64 K := by
  have hrc : ∀ o, G.cell r o = [Value.int .i64 C, lv, dv, .int .i64 N][o]? := fun o => by simp [cell_eq, hr]
  intro k
  induction k with
  | zero =>
    intro i τ hi t0 t1 t2 t9
    have hi' : i = K := by omega
    subst hi'
    refine Wp.lp (l35_0 (exL_ok Q orc)) ?_
    by_cases hlt : i < L.length
    · obtain ⟨b, o, c', hv, _, hc, _⟩ := deed_at hl hlt
      have := h2 hlt
      simp [-Int.natCast_add, b35_0, clip_t, t0, t1, t2, t9, hrc, hv, hlt, hc, this]
    · obtain ⟨a, c', hv⟩ := hl.len
      have : ¬ ((i : Int) < L.length) := by omega
      simp [-Int.natCast_add, b35_0, clip_t, t0, t1, t2, t9, hrc, hv, hlt]
  | succ k ih =>
    intro i τ hi t0 t1 t2 t9
    have hlt : i < L.length := by omega
    have hw : IntKind.wrap .i64 ((i : Int) + 1) = ((i + 1 : Nat) : Int) := wrap64 (by omega) (by omega)
    obtain ⟨b, o, c', hv, _, hc, _⟩ := deed_at hl hlt
    have := h1 i hlt (by omega)
    refine Wp.lp (l35_0 (exL_ok Q orc)) ?_
    simp [-Int.natCast_add, b35_0, clip_t, t0, t1, t2, t9, hrc, hv, hlt, hc, this, hw]
    exact ih (i + 1) _ (by omega) (by simp [clip_t]) (by simp [clip_t]) (by simp [clip_t, t2]) (by simp [clip_t])
theorem rbegin_ok (orc : FuncId → Bool) (h : RFr A G r lv dv S D N) (hS : S.length < 2 ^ 36) (c w : Int) : Wp ((E orc).cl 35 [P0 r, .int .i64 c, .int .i64 w] G) fun q => q.1 = .int .i64 (eBegin S c) ∧ ModP A G q.2 ∧ RFx (Grow A G q.2) q.2 r (sBegin S c w) D N := by
  refine Wp.ref (f35 (exL_ok Q orc) _ _ _ G) ?_
  have hat := rat_ok orc h hS c
  have hlen := lof_length S 0
  rcases askI_two S.length c with h1 | h1
  · rw [if_pos h1] at hat
    simp [s35, hat, h1, eBegin, sBegin, ModP.refl]
    exact h.grow0
  rw [if_neg (by omega)] at hat
  obtain ⟨c, rfl, hc⟩ := askI_ok.1 h1
  rw [fnd_lof S c hc] at hat
  have hS' : S[c]? = some S[c] := List.getElem?_eq_getElem hc
  cases hs : S[c] with
  | some x =>
    simp [hs] at hat
    simp [s35, hat, h1, eBegin, sBegin, slotOf_nat, hS', hs, ModP.refl]
    exact h.grow0
  | none =>
    simp [hs] at hat
    have hL := lof_at S c (hS'.trans (by rw [hs]))
    simp only [mid, Option.map_none, Option.toList_none, List.append_nil] at hL
    have hN := lof_split S c hc (some (w, 0))
    have hA := lofA_lt S c
    have hB := lofB_gt S c
    generalize hLA : lof 0 (S.take c) = LA at *
    generalize hLB : lof (c + 1) (S.drop (c + 1)) = LB at *
    generalize hLL : lof 0 S = L at *
    have hK : LA.length ≤ L.length := by rw [hL]; simp
    have b1 : ∀ j (h : j < L.length), j < LA.length → L[j].1 < (c : Int) := fun j hj hk => by
      have : L[j] = LA[j] := by simp only [hL]; rw [List.getElem_append_left hk]
      rw [this]; exact hA _ (List.getElem_mem hk)
    have b2 : ∀ h : LA.length < L.length, ¬ L[LA.length].1 < (c : Int) := fun hj => by
      have hB0 : 0 < LB.length := by rw [hL] at hj; simp at hj; omega
      have : L[LA.length] = LB[0] := by simp only [hL]; rw [List.getElem_append_right (Nat.le_refl _)]; simp
      rw [this]
      have := hB _ (List.getElem_mem hB0)
      omega
    simp [s35, hat, h1, eBegin, sBegin, slotOf_nat, hS', hs]
    have hl : SlR rDeed G lv L := hLL ▸ h.hl.is
    refine Wp.bE ((rb_lp orc h.hr hl (by omega) c (.int .i64 w) LA.length hK b1 b2 LA.length 0 _ (by omega) (by simp) (by simp) (by simp) (by simp)).mono ?_)
    rintro ⟨e, τ, G'⟩ ⟨hG, rfl, q0, q1, q2, q9⟩
    simp only at hG q0 q1 q2 q9
    subst hG
    have hrc : ∀ {G1 : GS}, Ext G' G1 → ∀ o, G1.cell r o = [Value.int .i64 S.length, lv, dv, .int .i64 N][o]? := fun x o => by simp [cell_eq, x.obj r (h.un _ h.ar), h.hr]
    -- behind
    have x1 : Ext G' (G'.push ⟨[], 3, false, 1⟩) := (Ext.refl G').push _
    obtain ⟨v1, e1, r1⟩ := (hl.ext x1).drop (k := .i64) hK
    obtain ⟨v2, G2, e2, x2, r2⟩ := OwR.app (A := G') (ib := 24) (OwR.made rDeed G') (by decide) x1 r1 (by simp; omega)
    -- ahead
    have x3 : Ext G2 (G2.push ⟨[], 3, false, 1⟩) := (Ext.refl G2).push _
    obtain ⟨⟨v4, e4, r4⟩, _⟩ := (hl.ext (x2.trans x3)).take (k := .i64) hK
    obtain ⟨v5, G5, e5, x5, r5⟩ := OwR.app (A := G2) (ib := 24) (OwR.made rDeed G2) (by decide) x3 r4 (by simp; omega)
    -- the new one
    have x6 : Ext G5 (G5.push ⟨[.int .i64 c, .int .i64 w, .int .i64 0], 3, false, 1⟩) := (Ext.refl G5).push _
    have m6 : SlR rDeed (G5.push ⟨[.int .i64 c, .int .i64 w, .int .i64 0], 3, false, 1⟩) (.slice (some ⟨G5.nx, 0, none⟩) 1 1) [((c : Int), w, (0 : Int))] := SlR.one rDeed G5 ((c : Int), w, (0 : Int))
    obtain ⟨v7, G7, e7, x7, r7⟩ := OwR.app (A := G2) (ib := 24) (r5.ext x6) (by decide) (x5.trans x6) m6 (by simp; omega)
    obtain ⟨v8, G8, e8, x8, r8⟩ := OwR.app (A := G2) (ib := 24) r7 (by decide) x7 (r2.ext x7).is (by simp; omega)
    have y8 := x2.trans x8
    have g1 := hrc x1
    have g3 := hrc (x2.trans x3)
    have g8 := hrc y8
    have o8 := (y8.obj r (h.un _ h.ar)).trans h.hr
    have k0 : (0 : Int) ≤ LA.length := by omega
    have one8 := own_one r8
    simp only [rDeed_sz, List.nil_append, List.append_assoc] at e1 e2 e4 e5 e7 e8 r8
    obtain ⟨_, _, hlv⟩ := hl.len
    simp only [hlv] at g1 g3 g8 e1 e4
    simp [-Int.natCast_add, q0, q1, q2, q9, rep, fillS, fillL, fillC, splice_put, splice_end, splice_succ, Value.cells, g1, g3, e1, e2, e4, e5, e7, e8, storeN_eq, o8, stO_one _ _ one8]
    refine ⟨((y8.modP A).put (.inl h.ar) _), v8, dv, ?_⟩
    have hrn := h.un _ h.ar
    have hfr : ∀ x, InB v8 x → G'.nx ≤ x := fun x hx => Nat.le_trans x2.nx (r8.from hx)
    refine ⟨fun x hx => ?_, .inl h.ar, by simp, ?_, fun x hx => .inr ⟨hfr x hx, r8.is.under x hx⟩, ?_, fun x hx => .inl (h.ad x hx), fun x hx hd => ?_⟩
    · rcases hx with hx | hx
      · have := h.un x hx; have := y8.nx; simp; omega
      · simpa using hx.2
    · have hLs : L.take LA.length ++ ([((c : Int), w, (0 : Int))] ++ L.drop LA.length) = LA ++ mid c (some (w, 0)) ++ LB := by rw [hL, List.take_left, List.drop_left]; simp [mid]
      rw [hN, ← hLs]
      refine (r8.mono (Nat.zero_le _)).kept (by exact Nat.le_refl _) fun g hg => ?_
      have := hfr g hg
      simp; omega
    · refine (h.hd.ext y8).kept (by simp) fun g hg => ?_
      have hgr : g ≠ r := fun e => by
        obtain ⟨a, n', c', he, e2⟩ := hg
        rcases h.hd.2 with ⟨e3, _⟩ | ⟨b2, op, e3, _, _, h4⟩
        · rw [e3] at he; cases he
        · rw [e3] at he; cases he; simp only at e2; subst e2; rw [e, h.hr] at h4; simp at h4
      simp [hgr]
    · have := hfr x hx
      have := h.un x (h.ad x hd)
      omega
end
end Go.Proofs.Ytglafaecdpilgaa.Lift
