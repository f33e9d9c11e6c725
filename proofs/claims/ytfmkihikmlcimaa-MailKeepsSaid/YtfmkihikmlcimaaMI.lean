/- contracts of the program's functions -/
import Derived.Test.YtfmkihikmlcimaaMH
set_option linter.unusedVariables false
set_option linter.unusedSimpArgs false
set_option linter.unnecessarySimpa false
set_option maxRecDepth 20000
namespace Go.Proofs.Ytfmkihikmlcimaa.Lift
open Go Go.Proofs.Ytfmkihikmlcimaa.Gh Go.Proofs
section
variable {own own' own1 : Nat → Nat} {G G' G1 G2 : GS} {n c i K : Nat} {ts : List Nat} {x y : CM} {B B' : CrB} {v : Value} {L : List Int} {s' : MS} {D T H tk : Nat → Nat} {p : PuS} {d : DnS}
set_option maxHeartbeats 1000000 in
theorem steps_D (orc : FuncId → Bool) (h : CrG own G n x B) (hI : InvC n K x D T H tk) (hK : K ≤ 60000) (hc : c < 2) (h1 : x.dn c = some d) (w : Value) : Wp ((E orc).cl 42 [P0 B.xb, .int .i64 c, w] G) (CrPost own G n B (x.stepD n c d) (.bool true)) := by
  have hn := hI.n1
  obtain ⟨fra, D', H', tk', hI', hov, -⟩ := hI.stepD (by omega) hc h1
  have hdok : d.ok K := by
    cases hI.dn c hc with
    | none a _ _ => rw [a] at h1; cases h1
    | some d0 a1 a2 a3 => rw [h1] at a1; cases a1; exact a2
  have hb := hI.box c hc
  have hlen : (x.th c).length ≤ K := by have := hb.len; have := hb.m.small; omega
  have hgn := hI.gn c hc
  have htk := hI.tkn c hc
  have hHle : H c ≤ K := by have q1 := hI.hf c hc; have q2 := hb.le; split at q1 <;> omega
  -- the step
  have h13 := h.extO ((Ext.refl G).room 13)
  obtain ⟨hat, hsp⟩ := h13.dn c hc _ h1
  obtain ⟨own1, G27, e27, w27, s27⟩ := dnstep_ok orc h13.hm hI.sk hdok (by omega) (by omega) hat hsp
  obtain ⟨d', hd'⟩ : ∃ d', d' = (d.step x.s).1 := ⟨_, rfl⟩
  rw [← hd'] at e27 s27 hov
  obtain ⟨h27, m27⟩ := h13.runD hc h1 w27 s27
  have hstok := hdok.step hI.sk
  rw [← hd'] at hstok
  have m0 : ModT crT own G G27 := (ModT.ext ((Ext.refl G).room 13)).trans (Agr.refl _ _) (ModT.mono (us := crT) m27 (by rcases (show c = 0 ∨ c = 1 by omega) with rfl | rfl <;> decide))
  have ag1 : Agr own own1 G := fun g hg => w27.stp.agr g (by simp; omega)
  obtain ⟨x2, hx2⟩ : ∃ x2 : CM, x2 = { x with s := (d.step x.s).2, dn := upN x.dn c (some d') } := ⟨_, rfl⟩
  rw [← hx2] at h27
  obtain ⟨⟨r0, G30⟩, e30, rfl, m30, h30⟩ := leaves_ok orc h27 hn hc (by rw [hx2]; show 0 ≤ x.gn c ∧ x.gn c ≤ 1000000; omega)
  simp only at m30 h30
  have M30 : ModT crT own G G30 := m0.trans ag1 (ModT.mono (us := crT) m30 (by decide))
  obtain ⟨x3, hx3⟩ : ∃ x3, x3 = x2.leaves n c := ⟨_, rfl⟩
  rw [← hx3] at h30
  have hdn3 : x3.dn c = some d' := by rw [hx3, hx2]; exact upN_same _ _ _
  have hox := h.cx.obj
  have hod := h.cd.obj
  have hpi : pD B x c = P0 (B.d c) := by unfold pD; rw [h1]
  simp only [crX] at hox
  refine Wp.ref (f42 (exL_ok Q orc) _ _ _ G) ?_
  by_cases ho : d'.over = true
  · obtain ⟨ov1, ov2, ov3⟩ := hov ho
    obtain ⟨l, hl⟩ : ∃ l, l = d'.vals := ⟨_, rfl⟩
    rw [← hl] at ov2 ov3
    obtain ⟨hat3, hsp3⟩ := h30.dn c hc _ hdn3
    obtain ⟨lv, G38, e38, x38, o38⟩ := dnvals_ok orc hstok.1 (by omega) hsp3
    rw [ov1] at e38
    rw [← hl] at o38
    have h38 := h30.extO x38
    obtain ⟨G45, hG45⟩ : ∃ G45, G45 = G38.put B.db ⟨[if 0 = c then .pointer none else pD B x 0, if 1 = c then .pointer none else pD B x 1], 1, false, 1⟩ := ⟨_, rfl⟩
    have m45 : ModT [14, 16] own1 G38 G45 := by rw [hG45]; exact ModT.put (ModT.refl _ _ _) (.inl (by rw [h38.cd.tag]; decide)) _
    have hth3 : x3.th = x.th := by rw [hx3, hx2]; rfl
    have htk3 : x3.tk = x.tk := by rw [hx3, hx2]; rfl
    have hnx3 : x3.nx = x.nx := by rw [hx3, hx2]; rfl
    -- the slice of what came to be there
    have ot := h38.ht c hc
    have nodb : ∀ g, InB (B.t c) g → ¬ g = B.db := fun g hg e => by have q1 := ot.tag g hg; have q2 := h38.cd.tag; rw [e] at q1; omega
    have hs45 : SlR (rowsI .i64) G45 (B.t c) (x.th c) := by
      have := ot.ow.is
      rw [hth3] at this
      exact this.kept (by rw [hG45]; exact Nat.le_refl _) fun g hg => by rw [hG45, obj_put, if_neg (nodb g hg)]
    obtain ⟨v', ev', sv'⟩ := SlR.sub hs45 (k := .i64) (o := tk c) (q := tk c + l.length) (by omega) ov2
    have hcut : ((x.th c).drop (tk c)).take (tk c + l.length - tk c) = l := by rw [Nat.add_sub_cancel_left]; exact ov3.symm
    rw [hcut] at sv'
    have ol45 : SlR (rowsI .i64) G45 lv l := o38.is.kept (by rw [hG45]; exact Nat.le_refl _) fun g hg => by
      have q1 := o38.from hg
      have q2 := h30.cd.lt
      rw [hG45, obj_put, if_neg (by omega)]
    obtain ⟨G108, e108, x108⟩ := same14 orc ol45 sv' (by omega)
    simp only [decide_true] at e108
    obtain ⟨G118, hG118⟩ : ∃ G118, G118 = G108.put B.kb ⟨[.int .i64 (upN x.tk c (x.tk c + l.length) 0), .int .i64 (upN x.tk c (x.tk c + l.length) 1)], 1, false, 1⟩ := ⟨_, rfl⟩
    have m118 : ModT [14, 16] own1 G38 G118 := by rw [hG118]; exact ModT.put (ModT.trans m45 (Agr.refl _ _) (ModT.ext x108)) (.inl (by rw [h38.ck.tag]; decide)) _
    have nkd : ¬ B.db = B.kb := h38.cd.ne h38.ck.tag (by decide)
    have nxk : ¬ B.xb = B.db := h38.cx.ne h38.cd.tag (by decide)
    have nkd' : ¬ B.kb = B.db := fun e => nkd e.symm
    have hpD3 : ∀ j, pD B x3 j = pD B x2 j := fun j => by rw [hx3]; rfl
    have hpD2 : ∀ j, (if j = c then Value.pointer none else pD B x2 j) = if j = c then Value.pointer none else pD B x j := fun j => by
      by_cases e : j = c
      · rw [if_pos e, if_pos e]
      · rw [if_neg e, if_neg e]; unfold pD; rw [hx2]; simp only [upN_ne _ _ e]
    have db45 : G45.obj B.db = some ⟨[if 0 = c then .pointer none else pD B x3 0, if 1 = c then .pointer none else pD B x3 1], 1, false, 1⟩ := by
      rw [hG45]
      have e0 := hpD2 0
      have e1 := hpD2 1
      simp only [hpD3, eq_comm] at e0 e1 ⊢
      rcases (show c = 0 ∨ c = 1 by omega) with rfl | rfl
      · simp at e1; simp [e1]
      · simp at e0; simp [e0]
    have h118 := h38.endD hc m118 (k' := upN x.tk c (x.tk c + l.length)) (by rw [hG118, obj_put, if_neg nkd, x108.obj _ (Nat.lt_of_lt_of_le h38.cd.lt m45.nx)]; exact db45) (by rw [hG118]; simp)
    have hfin : ({ x3 with dn := upN x3.dn c none, tk := upN x.tk c (x.tk c + l.length) } : CM) = x.stepD n c d := by
      rw [hx3, hx2]
      unfold CM.stepD CM.leaves
      rw [← hd', if_pos ho, if_pos ho, ← hl]
      simp only
      have : upN (upN x.dn c (some d')) c none = upN x.dn c none := by funext j; unfold upN; split <;> rfl
      rw [this]
    rw [hfin] at h118
    have post : CrPost own G n B (x.stepD n c d) (.bool true) (.bool true, G118) := ⟨rfl, own1, B, rfl, rfl, ag1, (M30.trans ag1 (ModT.ext x38)).trans ag1 (ModT.mono (us := crT) m118 (by decide)), h118⟩
    have ox30 := h30.cx.obj
    have od30 : G30.obj B.db = some ⟨[pD B x2 0, pD B x2 1], 1, false, 1⟩ := by rw [← hpD3, ← hpD3]; exact h30.cd.obj
    have ox38 := h38.cx.obj
    have od38 : G38.obj B.db = some ⟨[pD B x2 0, pD B x2 1], 1, false, 1⟩ := by rw [← hpD3, ← hpD3]; exact h38.cd.obj
    have ot38 := h38.ct.obj
    have ok38 := h38.ck.obj
    have hp2 : ∀ j, pD B x2 j = pD B x j := fun j => by
      unfold pD
      rw [hx2]
      by_cases e : j = c
      · subst e; simp only [upN_same, h1]
      · simp only [upN_ne _ _ e]
    rw [hp2, hp2] at od30 od38
    simp only [crX, hnx3] at ox30 ox38
    rw [htk3] at ok38
    have nxt : ¬ B.tb = B.db := h38.ct.ne h38.cd.tag (by decide)
    have ox45 := (show G45.obj B.xb = G38.obj B.xb by rw [hG45, obj_put, if_neg nxk]).trans ox38
    have ot45 := (show G45.obj B.tb = G38.obj B.tb by rw [hG45, obj_put, if_neg nxt]).trans ot38
    have ok45 := (show G45.obj B.kb = G38.obj B.kb by rw [hG45, obj_put, if_neg nkd']).trans ok38
    have ox108 := (x108.obj _ (Nat.lt_of_lt_of_le h38.cx.lt m45.nx)).trans ox45
    have ok108 := (x108.obj _ (Nat.lt_of_lt_of_le h38.ck.lt m45.nx)).trans ok45
    obtain ⟨la, lc, elv⟩ := ol45.len
    have ll : ∀ t, ln Q true t lv = some (.int .i64 l.length) := fun t => by rw [elv]; simp
    obtain ⟨ta, tc, etv⟩ := hs45.len
    have lt : ∀ t, ln Q true t (B.t c) = some (.int .i64 (x.th c).length) := fun t => by rw [etv]; simp
    have hwk : IntKind.wrap .i64 (x.tk c + l.length) = x.tk c + l.length := wrap64 (by omega) (by omega)
    have hle : ¬ ((x.th c).length : Int) < x.tk c + l.length := by omega
    have ev2 : slK 1 (B.t c) (some (.int .i64 (x.tk c))) (some (.int .i64 (x.tk c + l.length))) none G45 = some v' := by
      rw [htk, show ((tk c : Nat) : Int) + (l.length : Int) = ((tk c + l.length : Nat) : Int) by omega]
      simpa using ev'
    have esl : ∀ t s', sl Q true t s' (B.t c) (some (.int .i64 (x.tk c))) (some (.int .i64 (x.tk c + l.length))) none G45 = slK s' (B.t c) (some (.int .i64 (x.tk c))) (some (.int .i64 (x.tk c + l.length))) none G45 := fun t s' => by rw [etv]; exact sl_t ..
    have e108' := e108
    clear h118 hI' hov
    rw [ho] at e27
    rcases (show c = 0 ∨ c = 1 by omega) with rfl | rfl
    all_goals
      simp at hG45 e27 e30
      simp [upN] at hG118
      simp [-Int.natCast_add, s42, hox, hod, hpi, e27, e30, ox30, od30, e38, ox38, od38, ← hG45, ox45, ok45, ll, ot45, lt, hwk, hle, esl, ev2, e108', ox108, ok108, ← hG118]
      exact post
  · have ho' : d'.over = false := by simpa using ho
    have hfin : x3 = x.stepD n c d := by
      rw [hx3, hx2]
      unfold CM.stepD CM.leaves
      rw [← hd', if_neg ho, if_neg ho]
    have post : CrPost own G n B (x.stepD n c d) (.bool true) (.bool true, G30) := ⟨rfl, own1, B, rfl, rfl, ag1, M30, by rw [← hfin]; exact h30⟩
    rw [ho'] at e27
    rcases (show c = 0 ∨ c = 1 by omega) with rfl | rfl
    all_goals
      simp at e27 e30
      simp [-Int.natCast_add, s42, hox, hod, hpi, e27, e30]
      exact post
end
end Go.Proofs.Ytfmkihikmlcimaa.Lift

set_option linter.unusedVariables false
set_option linter.unusedSimpArgs false
set_option linter.unnecessarySimpa false
set_option maxRecDepth 20000
namespace Go.Proofs.Ytfmkihikmlcimaa.Lift
open Go Go.Proofs.Ytfmkihikmlcimaa.Gh Go.Proofs
theorem slK_ext {G G' : GS} (x : Ext G G') {s : Nat} {v v' : Value} {lo hi m : Option Value} (hv : ∀ a n c, v = .slice (some a) n c → a.block < G.nx) (h : slK s v lo hi m G = some v') : slK s v lo hi m G' = some v' := by
  unfold slK at h ⊢
  split at h
  · exact h
  · rename_i a n c
    simp only [x.obj _ (hv a n c rfl)]
    exact h
  · cases h
section
variable {own own' own1 : Nat → Nat} {G G' G1 G2 : GS} {n c i K : Nat} {ts : List Nat} {x y : CM} {B B' : CrB} {v : Value} {L : List Int} {s' : MS} {D T H tk : Nat → Nat} {p : PuS} {d : DnS}
theorem goes_lp (orc : FuncId → Bool) {A : GS} (h : CrG own A n x B) (hI : InvC n K x D T H tk) (hK : K ≤ 60000) {v7 v9 v10 : Value} : ∀ (k i : Nat) (τ : Env) (G : GS), i + k = 2 → Ext A G → τ 0 = P0 B.xb → τ 7 = v7 → τ 9 = v9 → τ 10 = v10 → τ 11 = .int .i64 (i : Int) →
    Wp ((exL Q orc).lpx 13 0 τ G) fun q => q.1 = .exit 0 ∧ Ext A q.2.2 ∧ q.2.1 0 = P0 B.xb ∧ q.2.1 7 = v7 ∧ q.2.1 9 = v9 ∧ q.2.1 10 = v10 := by
  intro k
  induction k with
  | zero =>
    intro i τ G hi hx t0 t7 t9 t10 t11
    obtain rfl : i = 2 := by omega
    refine Wp.lp (l13_0 (exL_ok Q orc)) ?_
    simp at t11
    simp [b13_0, clip_t, t0, t11]
    exact ⟨hx, t7, t9, t10⟩
  | succ k ih =>
    intro i τ G hi hx t0 t7 t9 t10 t11
    have hi2 : i < 2 := by omega
    have hi2' : (i : Int) < 2 := by omega
    obtain ⟨i1, hi1⟩ : ∃ i1, i1 = i + 1 := ⟨_, rfl⟩
    have hw : IntKind.wrap .i64 ((i : Int) + 1) = (i1 : Int) := by rw [hi1]; exact wrap64 (by omega) (by omega)
    have hR := h.extO (hx.trans ((Ext.refl G).room 22))
    obtain ⟨G15, e15, x15⟩ := lies_ok orc hR hI (by omega) hi2
    have hox := hR.cx.obj
    have hot := hR.ct.obj
    have hog := hR.cg.obj
    simp only [crX] at hox
    have y15 : Ext A G15 := (hx.trans ((Ext.refl G).room 22)).trans x15
    have hgn := hI.gn i hi2
    have hf := hI.hf i hi2
    have hb := (hI.box i hi2).le
    have hgt : ¬ ((x.th i).length : Int) < x.gn i := by split at hf <;> omega
    obtain ⟨ta, tc, etv⟩ := (hR.ht i hi2).ow.is.len
    have lt : ∀ t, ln Q true t (B.t i) = some (.int .i64 (x.th i).length) := fun t => by rw [etv]; simp
    refine Wp.lp (l13_0 (exL_ok Q orc)) ?_
    have hox' : G.obj B.xb = _ := hox
    have hot' : G.obj B.tb = _ := hot
    have hog' : G.obj B.gb = _ := hog
    rcases (show i = 0 ∨ i = 1 by omega) with rfl | rfl
    all_goals
      simp at t11 e15 hw
      simp [-Int.natCast_add, b13_0, clip_t, t0, t11, hox', hot', hog', lt, hgt, e15, hw]
      refine ih i1 _ G15 (by omega) y15 (by simp [clip_t]) (by simp [clip_t, t7]) (by simp [clip_t, t9]) (by simp [clip_t, t10]) (by simp [clip_t])
theorem goes_J0 (orc : FuncId → Bool) (h : CrG own G n x B) (hI : InvC n K x D T H tk) (hK : K ≤ 60000) {wv : Value} {W0 : List Int} (hw : SlR (rowsI .u64) G wv W0) {o : Nat} (ho : o < 2) (hl : W0.length = x.s.W.length) (hW : (W0.drop (bas n o)).take (n + 2) = (x.s.W.drop (bas n o)).take (n + 2)) (τ : Env) (t0 : τ 0 = P0 B.xb) (t7 : τ 7 = wv) (t8 : τ 8 = .int .i64 o) (t9 : τ 9 = .bool true) :
    Wp (j13_0 true (exL Q orc) τ G) fun q => q.1 = .bool true ∧ Ext G q.2 := by
  have hn := hI.n1
  have hlen := hI.len
  have hox := h.cx.obj
  simp only [crX] at hox
  have w1 : IntKind.wrap .i64 ((n : Int) + 2) = (n : Int) + 2 := wrap64 (by omega) (by omega)
  have hba : ((bas n o : Nat) : Int) = 3 + (o : Int) * ((n : Int) + 2) := by unfold bas; simp
  have hbb : bas n o ≤ 3 + (n + 2) := by unfold bas; rcases (show o = 0 ∨ o = 1 by omega) with rfl | rfl <;> omega
  have w2 : IntKind.wrap .i64 ((o : Int) * ((n : Int) + 2)) = (o : Int) * ((n : Int) + 2) := wrap64 (by omega) (by omega)
  have w3 : IntKind.wrap .i64 (3 + (o : Int) * ((n : Int) + 2)) = ((bas n o : Nat) : Int) := by rw [← hba]; exact wrap64 (by omega) (by omega)
  have w4 : IntKind.wrap .i64 (((bas n o : Nat) : Int) + (n : Int)) = ((bas n o + n : Nat) : Int) := by rw [show ((bas n o : Nat) : Int) + (n : Int) = ((bas n o + n : Nat) : Int) by omega]; exact wrap64 (by omega) (by omega)
  have w5 : IntKind.wrap .i64 (((bas n o + n : Nat) : Int) + 2) = ((bas n o + n + 2 : Nat) : Int) := by rw [show ((bas n o + n : Nat) : Int) + 2 = ((bas n o + n + 2 : Nat) : Int) by omega]; exact wrap64 (by omega) (by omega)
  simp [-Int.natCast_add, j13_0, jb13_0, t0, t8, hox, w1, w2, w3]
  refine Wp.bE (Wp.mono (goes_lp orc h hI hK (v7 := wv) (v9 := .bool true) (v10 := .int .i64 (bas n o : Nat)) 2 0 _ G (by omega) (Ext.refl _) ?_ ?_ ?_ ?_ ?_) ?_)
  · simp [clip_t, t0]
  · simp [clip_t, t7]
  · simp [clip_t, t9]
  · simp [clip_t]
  · simp [clip_t]
  rintro ⟨e1, τ', G14⟩ ⟨rfl, x14, s0, s7, s9, s10⟩
  simp only at x14 s0 s7 s9 s10
  have z14 := x14.trans ((Ext.refl G14).room 31)
  have hR := h.extO z14
  obtain ⟨bb, rest, hm⟩ := hR.hm
  obtain ⟨wn, G19, e19, x19, o19⟩ := words_ok orc hm
  have h19 := hR.extO x19
  have hle : bas n o + n + 2 ≤ x.s.W.length := by omega
  obtain ⟨v1, ev1, sv1⟩ := SlR.sub o19.is (k := .i64) (o := bas n o) (q := bas n o + n + 2) (by omega) hle
  obtain ⟨v2, ev2, sv2⟩ := SlR.sub (hw.ext z14) (k := .i64) (o := bas n o) (q := bas n o + n + 2) (by omega) (by omega)
  have ev2' := slK_ext x19 (hw.ext z14).lt ev2
  have sv2' := sv2.ext x19
  have hcut : bas n o + n + 2 - bas n o = n + 2 := by omega
  rw [hcut] at sv1 sv2 sv2'
  obtain ⟨G42, e42, x42⟩ := same44 orc sv1 sv2' (by simp; omega)
  rw [show decide ((x.s.W.drop (bas n o)).take (n + 2) = (W0.drop (bas n o)).take (n + 2)) = true by rw [hW]; simp] at e42
  obtain ⟨wa, wc, ewn⟩ := o19.is.len
  obtain ⟨wa2, wc2, ew0⟩ := hw.len
  have oxR := hR.cx.obj
  have ox19 := h19.cx.obj
  simp only [crX] at oxR ox19
  have oxR' : G14.obj B.xb = _ := oxR
  have es1 : ∀ lo hi, sl Q true 29 1 wn lo hi none G19 = slK 1 wn lo hi none G19 := fun lo hi => by rw [ewn]; exact sl_t ..
  have es2 : ∀ t lo hi G, sl Q true t 1 wv lo hi none G = slK 1 wv lo hi none G := fun t lo hi G => by rw [ew0]; exact sl_t ..
  have es1 : ∀ t lo hi G, sl Q true t 1 wn lo hi none G = slK 1 wn lo hi none G := fun t lo hi G => by rw [ewn]; exact sl_t ..
  simp only [rowsI_sz] at ev1 ev2 ev2'
  have sm := same_slr sv2
  simp [-Int.natCast_add, s0, s7, s9, s10, oxR', e19, ox19, w4, w5, es1, es2, ev1, ev2, ev2', sm, e42]
  exact (z14.trans x19).trans x42
end
end Go.Proofs.Ytfmkihikmlcimaa.Lift

set_option linter.unusedVariables false
set_option linter.unusedSimpArgs false
set_option linter.unnecessarySimpa false
set_option maxRecDepth 20000
namespace Go.Proofs.Ytfmkihikmlcimaa.Lift
open Go Go.Proofs.Ytfmkihikmlcimaa.Gh Go.Proofs
/-- is somebody within an operation; how many steps has it left, alone -/
def actI (x : CM) (a : Nat) : Prop := if a < 3 then x.sd a ≠ none else x.dn (a - 3) ≠ none
def needA (x : CM) (T : Nat → Nat) (a : Nat) : Nat := if a < 3 then (match x.sd a with | some (.go p) => muP (T (x.to a).toNat) (x.th (x.to a).toNat).length p | _ => 0) else (match x.dn (a - 3) with | some d => muD d | none => 0)
section
variable {own own' own1 : Nat → Nat} {G G' G1 G2 : GS} {n c i K a : Nat} {ts : List Nat} {x y : CM} {B B' : CrB} {v : Value} {L : List Int} {s' : MS} {D T H tk : Nat → Nat} {p : PuS} {d : DnS}
theorem InvC.need_le (h : InvC n K x D T H tk) (ha : a < 5) : needA x T a ≤ 16 := by
  unfold needA
  by_cases h3 : a < 3
  · rw [if_pos h3]
    cases h.sd a h3 with
    | none b => rw [b]; exact Nat.zero_le _
    | some p e c b1 b2 b3 b4 b5 b6 b7 b8 b9 =>
      rw [b1, b3]
      have hb := h.box c b4
      have := muP_le (T := T c) (P := (x.th c).length) (by have := hb.m.t2; have := hb.len; omega) p
      simp only [Int.toNat_natCast]
      omega
  · rw [if_neg h3]
    cases h.dn (a - 3) (by omega) with
    | none b _ _ => rw [b]; exact Nat.zero_le _
    | some d b1 b2 b3 => rw [b1]; exact b3.mu.2.1
theorem InvC.need_pos (h : InvC n K x D T H tk) (ha : a < 5) (hb : actI x a) : 1 ≤ needA x T a := by
  unfold needA
  unfold actI at hb
  by_cases h3 : a < 3
  · rw [if_pos h3] at hb ⊢
    cases h.sd a h3 with
    | none b => exact absurd b hb
    | some p e c b1 b2 b3 b4 b5 b6 b7 b8 b9 =>
      rw [b1, b3]
      simp only [Int.toNat_natCast]
      exact muP_pos b5
  · rw [if_neg h3] at hb ⊢
    cases h.dn (a - 3) (by omega) with
    | none b _ _ => exact absurd b hb
    | some d b1 b2 b3 => rw [b1]; exact b3.mu.1
/-- what an act comes to -/
structure GoP (own : Nat → Nat) (G : GS) (n K a : Nat) (x : CM) (T : Nat → Nat) (B : CrB) (G' : GS) (own' : Nat → Nat) (B' : CrB) (x' : CM) (D' T' H' tk' : Nat → Nat) : Prop where
  xb : B'.xb = B.xb
  agr : Agr own own' G
  mod : ModT crT own G G'
  cr : CrG own' G' n x' B'
  inv : InvC n (K + 1) x' D' T' H' tk'
  less : actI x a → actI x' a → needA x' T' a < needA x T a
  oth : ∀ j, j < 5 → j ≠ a → (actI x' j ↔ actI x j)
theorem drop_take_eq {W W' : List Int} {a m : Nat} (h : ∀ b, a ≤ b → b < a + m → W'[b]? = W[b]?) : (W.drop a).take m = (W'.drop a).take m := by
  apply List.ext_getElem?
  intro i
  rw [List.getElem?_take, List.getElem?_take, List.getElem?_drop, List.getElem?_drop]
  split
  · exact (h _ (by omega) (by omega)).symm
  · rfl
theorem Fra.other {s s' : MS} {c o : Nat} (h : Fra (bas n c) n s s') (hc : c < 2) (ho : o < 2) (hne : o ≠ c) : (s.W.drop (bas n o)).take (n + 2) = (s'.W.drop (bas n o)).take (n + 2) :=
  drop_take_eq fun b h1 h2 => h.out b (by have := bas_apart (n := n) ho hc hne; omega)
theorem goes_S (orc : FuncId → Bool) (h : CrG own G n x B) (hI : InvC n K x D T H tk) (hK : K ≤ 59000) (hi : i < 3) (w : Int) : Wp ((E orc).cl 13 [P0 B.xb, .int .i64 i, .int .i64 w] G) fun q => q.1 = .bool true ∧ ∃ own' B' x' D' T' H' tk', GoP own G n K i x T B q.2 own' B' x' D' T' H' tk' := by
  have hn := hI.n1
  obtain ⟨bb, rest, hm⟩ := h.hm
  obtain ⟨wv, G4, e4, x4, o4⟩ := words_ok orc hm
  obtain ⟨own1, hown1⟩ : ∃ own1, own1 = grown own G 13 := ⟨_, rfl⟩
  have ag1 : Agr own own1 G := by rw [hown1]; exact grown_agr
  have h4 : CrG own1 G4 n x B := h.to (ts := []) (ModT.ext x4) ag1 (by simp)
  have hox := h.cx.obj
  have ox4 := h4.cx.obj
  have os4 := h4.cs.obj
  have oo4 := h4.co.obj
  simp only [crX] at hox ox4
  have hi3 : (i : Int) < 3 := by omega
  have tagw : ∀ g, InB wv g → own1 g = 13 := fun g hg => by rw [hown1]; exact grown_new (o4.from hg)
  -- the words are as they were told
  have keepw : ∀ {own2 : Nat → Nat} {G2 : GS}, ModT crT own1 G4 G2 → SlR (rowsI .u64) G2 wv x.s.W := fun m => o4.is.kept m.nx fun g hg => m.same (o4.is.under g hg) (by rw [tagw g hg]; decide)
  have M4 : ModT crT own G G4 := ModT.ext x4
  cases hI.sd i hi with
  | none a1 =>
    obtain ⟨⟨r, G47⟩, e47, rfl, own2, B2, b1, b2, b3, b4, b5⟩ := begins_S orc h4 hI (by omega) hi a1 w
    simp only at b4 b5
    have hc2 : (w % 2).toNat < 2 := by omega
    have hI2 := hI.begS (by omega) hi hc2 a1 (by have := hI.nx; omega)
    have hpi : pS B x i = .pointer none := by unfold pS; rw [a1]
    have j0 := fun (τ : Env) t0 t7 t8 t9 => goes_J0 orc b5 hI2 (by omega) (keepw (own2 := own2) b4) (o := 1) (by decide) rfl rfl τ t0 t7 t8 t9
    have post : ∀ τ : Env, τ 0 = P0 B.xb → τ 7 = wv → τ 8 = .int .i64 1 → τ 9 = .bool true → Wp (j13_0 true (exL Q orc) τ G47) fun q => q.1 = .bool true ∧ ∃ own' B' x' D' T' H' tk', GoP own G n K i x T B q.2 own' B' x' D' T' H' tk' := fun τ t0 t7 t8 t9 => by
      refine Wp.mono (j0 τ (by rw [b1]; exact t0) t7 (by rw [t8]; rfl) t9) ?_
      rintro q ⟨z1, z2⟩
      refine ⟨z1, own2, B2, _, D, T, H, tk, b1, ag1.trans b3 x4.nx, (M4.trans ag1 b4).trans (ag1.trans b3 x4.nx) (ModT.ext z2), b5.extO z2, hI2, fun q => ?_, fun j hj hne => ?_⟩
      · unfold actI at q; rw [if_pos hi] at q; exact absurd a1 q
      · unfold actI
        by_cases j3 : j < 3
        · rw [if_pos j3, if_pos j3]; simp [CM.begS, upN_ne _ _ hne]
        · rw [if_neg j3, if_neg j3]; rfl
    refine Wp.ref (f13 (exL_ok Q orc) _ _ _ G) ?_
    rcases (show i = 0 ∨ i = 1 ∨ i = 2 by omega) with rfl | rfl | rfl
    all_goals
      simp at e47
      simp [-Int.natCast_add, s13, sb13, hox, e4, ox4, os4, hpi]
      simp [-Int.natCast_add, j13_1, jb13_1, clip_t, e47]
      exact post _ (by simp [clip_t]) (by simp [clip_t]) (by simp [clip_t]) (by simp [clip_t])
  | some p e c a1 a2 a3 a4 a5 a6 a7 a8 a9 =>
    obtain ⟨⟨r, G47⟩, e47, rfl, own2, B2, b1, b2, b3, b4, b5⟩ := steps_S orc h4 hI (by omega) hi a4 a1 a3 (.int .i64 w)
    simp only at b4 b5
    obtain ⟨fra, T', hI2, -, hmu⟩ := hI.stepS (by omega) hi a4 a1 a3
    have hpi : pS B x i = P0 (B.s i) := by unfold pS; rw [a1]
    obtain ⟨o, ho⟩ : ∃ o, o = 1 - c := ⟨_, rfl⟩
    have hwo : IntKind.wrap .i64 (1 - (c : Int)) = (o : Int) := by rw [show 1 - (c : Int) = (o : Int) by omega]; exact wrap64 (by omega) (by omega)
    have j0 := fun (τ : Env) t0 t7 t8 t9 => goes_J0 orc b5 hI2 (by omega) (keepw (own2 := own2) b4) (o := o) (by omega) fra.len.symm (fra.other a4 (by omega) (by omega)) τ t0 t7 t8 t9
    have post : ∀ τ : Env, τ 0 = P0 B.xb → τ 7 = wv → τ 8 = .int .i64 o → τ 9 = .bool true → Wp (j13_0 true (exL Q orc) τ G47) fun q => q.1 = .bool true ∧ ∃ own' B' x' D' T' H' tk', GoP own G n K i x T B q.2 own' B' x' D' T' H' tk' := fun τ t0 t7 t8 t9 => by
      refine Wp.mono (j0 τ (by rw [b1]; exact t0) t7 t8 t9) ?_
      rintro q ⟨z1, z2⟩
      refine ⟨z1, own2, B2, _, D, T', H, tk, b1, ag1.trans b3 x4.nx, (M4.trans ag1 b4).trans (ag1.trans b3 x4.nx) (ModT.ext z2), b5.extO z2, hI2, fun q1 q2 => ?_, fun j hj hne => ?_⟩
      · unfold actI at q2
        rw [if_pos hi] at q2
        by_cases hov : (p.step x.s).1.over = true
        · exact absurd (by simp [CM.stepS, upN_same, hov]) q2
        · have hov' : (p.step x.s).1.over = false := by simpa using hov
          have hto : (x.stepS n i c p).to i = (c : Int) := a3
          have hsd : (x.stepS n i c p).sd i = some (.go (p.step x.s).1) := by simp [CM.stepS, upN_same, hov']
          unfold needA
          rw [if_pos hi, if_pos hi, hsd, hto, a1, a3]
          simp only [Int.toNat_natCast]
          exact hmu hov'
      · unfold actI
        by_cases j3 : j < 3
        · rw [if_pos j3, if_pos j3]; simp [CM.stepS, upN_ne _ _ hne]
        · rw [if_neg j3, if_neg j3]; rfl
    refine Wp.ref (f13 (exL_ok Q orc) _ _ _ G) ?_
    rcases (show i = 0 ∨ i = 1 ∨ i = 2 by omega) with rfl | rfl | rfl
    all_goals
      simp at e47
      simp [-Int.natCast_add, s13, sb13, hox, e4, ox4, os4, hpi, oo4, a3, hwo]
      simp [-Int.natCast_add, j13_1, jb13_1, clip_t, e47]
      exact post _ (by simp [clip_t]) (by simp [clip_t]) (by simp [clip_t]) (by simp [clip_t])
theorem goes_D (orc : FuncId → Bool) (h : CrG own G n x B) (hI : InvC n K x D T H tk) (hK : K ≤ 59000) (hc : c < 2) (w : Int) : Wp ((E orc).cl 13 [P0 B.xb, .int .i64 ((c + 3 : Nat) : Int), .int .i64 w] G) fun q => q.1 = .bool true ∧ ∃ own' B' x' D' T' H' tk', GoP own G n K (c + 3) x T B q.2 own' B' x' D' T' H' tk' := by
  have hn := hI.n1
  obtain ⟨bb, rest, hm⟩ := h.hm
  obtain ⟨wv, G4, e4, x4, o4⟩ := words_ok orc hm
  obtain ⟨own1, hown1⟩ : ∃ own1, own1 = grown own G 13 := ⟨_, rfl⟩
  have ag1 : Agr own own1 G := by rw [hown1]; exact grown_agr
  have h4 : CrG own1 G4 n x B := h.to (ts := []) (ModT.ext x4) ag1 (by simp)
  have hox := h.cx.obj
  simp only [crX] at hox
  have tagw : ∀ g, InB wv g → own1 g = 13 := fun g hg => by rw [hown1]; exact grown_new (o4.from hg)
  have keepw : ∀ {own2 : Nat → Nat} {G2 : GS}, ModT crT own1 G4 G2 → SlR (rowsI .u64) G2 wv x.s.W := fun m => o4.is.kept m.nx fun g hg => m.same (o4.is.under g hg) (by rw [tagw g hg]; decide)
  have M4 : ModT crT own G G4 := ModT.ext x4
  obtain ⟨o, ho⟩ : ∃ o, o = 1 - c := ⟨_, rfl⟩
  have key : ∀ (x' : CM) (D' T' H' tk' : Nat → Nat), Wp ((E orc).cl 42 [P0 B.xb, .int .i64 c, .int .i64 w] G4) (CrPost own1 G4 n B x' (.bool true)) → InvC n (K + 1) x' D' T' H' tk' → x'.s.W.length = x.s.W.length → (x.s.W.drop (bas n o)).take (n + 2) = (x'.s.W.drop (bas n o)).take (n + 2) → (actI x (c + 3) → actI x' (c + 3) → needA x' T' (c + 3) < needA x T (c + 3)) → (∀ j, j < 5 → j ≠ c + 3 → (actI x' j ↔ actI x j)) →
      Wp ((E orc).cl 13 [P0 B.xb, .int .i64 ((c + 3 : Nat) : Int), .int .i64 w] G) fun q => q.1 = .bool true ∧ ∃ own' B' x' D' T' H' tk', GoP own G n K (c + 3) x T B q.2 own' B' x' D' T' H' tk' := by
    rintro x' D' T' H' tk' ⟨⟨r, G47⟩, e47, rfl, own2, B2, b1, b2, b3, b4, b5⟩ hI2 hl hW q1 q2
    simp only at b4 b5
    have j0 := fun (τ : Env) t0 t7 t8 t9 => goes_J0 orc b5 hI2 (by omega) (keepw (own2 := own2) b4) (o := o) (by omega) hl.symm hW τ t0 t7 t8 t9
    have post : ∀ τ : Env, τ 0 = P0 B.xb → τ 7 = wv → τ 8 = .int .i64 o → τ 9 = .bool true → Wp (j13_0 true (exL Q orc) τ G47) fun q => q.1 = .bool true ∧ ∃ own' B' x' D' T' H' tk', GoP own G n K (c + 3) x T B q.2 own' B' x' D' T' H' tk' := fun τ t0 t7 t8 t9 => by
      refine Wp.mono (j0 τ (by rw [b1]; exact t0) t7 t8 t9) ?_
      rintro q ⟨z1, z2⟩
      exact ⟨z1, own2, B2, _, D', T', H', tk', b1, ag1.trans b3 x4.nx, (M4.trans ag1 b4).trans (ag1.trans b3 x4.nx) (ModT.ext z2), b5.extO z2, hI2, q1, q2⟩
    refine Wp.ref (f13 (exL_ok Q orc) _ _ _ G) ?_
    have w0 : IntKind.wrap .i64 1 = 1 := by decide
    have w00 : IntKind.wrap .i64 0 = 0 := by decide
    rcases (show c = 0 ∨ c = 1 by omega) with rfl | rfl
    all_goals
      simp at ho
      subst ho
      simp at e47
      simp [-Int.natCast_add, s13, sb13, hox, e4, w0, w00, e47]
      exact post _ (by simp [clip_t]) (by simp [clip_t]) (by simp [clip_t]) (by simp [clip_t])
  have e3 : ¬ c + 3 < 3 := by omega
  have ec : c + 3 - 3 = c := by omega
  cases hI.dn c hc with
  | none a1 a2 a3 =>
    have hm : 1 ≤ 1 + w % 4 ∧ 1 + w % 4 ≤ 4 := by omega
    refine key (x.begD n c (1 + w % 4)) D T H tk (begins_D orc h4 hn hc a1 w) (hI.begD hc a1 hm) rfl rfl (fun q => ?_) (fun j hj hne => ?_)
    · unfold actI at q; rw [if_neg e3, ec] at q; exact absurd a1 q
    · unfold actI
      by_cases j3 : j < 3
      · rw [if_pos j3, if_pos j3]; rfl
      · rw [if_neg j3, if_neg j3]; simp [CM.begD, upN_ne _ _ (show j - 3 ≠ c by omega)]
  | some d a1 a2 a3 =>
    obtain ⟨fra, D', H', tk', hI2, -, hmu⟩ := hI.stepD (by omega) hc a1
    refine key (x.stepD n c d) D' T H' tk' (steps_D orc h4 hI (by omega) hc a1 _) hI2 fra.len (fra.other hc (by omega) (by omega)) (fun q1 q2 => ?_) (fun j hj hne => ?_)
    · unfold actI at q2
      rw [if_neg e3, ec] at q2
      by_cases hov : (d.step x.s).1.over = true
      · exact absurd (by simp [CM.stepD, upN_same, hov]) q2
      · have hov' : (d.step x.s).1.over = false := by simpa using hov
        have hdn : (x.stepD n c d).dn c = some (d.step x.s).1 := by simp [CM.stepD, upN_same, hov']
        unfold needA
        rw [if_neg e3, if_neg e3, ec, hdn, a1]
        exact hmu hov'
    · unfold actI
      by_cases j3 : j < 3
      · rw [if_pos j3, if_pos j3]; rfl
      · rw [if_neg j3, if_neg j3]; simp [CM.stepD, upN_ne _ _ (show j - 3 ≠ c by omega)]
theorem goes_in (orc : FuncId → Bool) (h : CrG own G n x B) (hI : InvC n K x D T H tk) (hK : K ≤ 59000) (ha : a < 5) (w : Int) : Wp ((E orc).cl 13 [P0 B.xb, .int .i64 a, .int .i64 w] G) fun q => q.1 = .bool true ∧ ∃ own' B' x' D' T' H' tk', GoP own G n K a x T B q.2 own' B' x' D' T' H' tk' := by
  by_cases h3 : a < 3
  · exact goes_S orc h hI hK h3 w
  · obtain ⟨c, rfl⟩ : ∃ c, a = c + 3 := ⟨a - 3, by omega⟩
    exact goes_D orc h hI hK (by omega) w
end
end Go.Proofs.Ytfmkihikmlcimaa.Lift

