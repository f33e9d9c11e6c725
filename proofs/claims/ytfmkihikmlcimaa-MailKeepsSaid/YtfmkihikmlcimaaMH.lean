/- contracts of the program's functions -/
import Derived.Test.YtfmkihikmlcimaaMG
set_option linter.unusedVariables false
set_option linter.unusedSimpArgs false
set_option linter.unnecessarySimpa false
set_option maxRecDepth 20000
namespace Go.Proofs.Ytfmkihikmlcimaa.Lift
open Go Go.Proofs.Ytfmkihikmlcimaa.Gh Go.Proofs
theorem MBn_ref {n : Nat} (h : 1 ≤ n ∧ n ≤ 4) {c : Nat} (hc : c < 2) : (MBn n).ref (c : Int) = 0 := by
  unfold MB.ref
  rw [if_pos (MBn_placed h), if_neg (by show ¬ ((c : Int) < 0 ∨ (2 : Int) ≤ c); omega)]
theorem newSd_n {n : Nat} (h : 1 ≤ n ∧ n ≤ 4) {c : Nat} (hc : c < 2) {v : Int} (hv : 0 ≤ v ∧ v ≤ 65535) : newSd (MBn n) (c : Int) v = .go (.go 1 (rgN (bas n c) n) v 0 0) := by
  have e : sendE (MBn n) (c : Int) v = 0 := by unfold sendE; rw [MBn_ref h hc, if_neg (by omega)]
  unfold newSd
  rw [if_pos e, MBn_rg h hc]
  unfold newPu
  rw [if_pos (rgN_ok h.1 (by omega)), if_neg (by omega)]
theorem newDn_n {n : Nat} (h : 1 ≤ n ∧ n ≤ 4) {c : Nat} (hc : c < 2) {v : Int} (hv : 1 ≤ v) : newDn (MBn n) (c : Int) v = .fr (rgN (bas n c) n) v [] (.go 1 (rgN (bas n c) n) 0) := by
  have e : drainE (MBn n) (c : Int) v = 0 := by unfold drainE; rw [MBn_ref h hc, if_neg (by omega)]
  unfold newDn
  rw [if_pos e, MBn_rg h hc, newFr_go (rgN_ok h.1 (by omega))]
section
variable {own own' own1 : Nat → Nat} {G G' G1 G2 : GS} {n c i K : Nat} {ts : List Nat} {x y : CM} {B B' : CrB} {v : Value} {L : List Int} {s' : MS} {D T H tk : Nat → Nat}
/-- what a crew's function comes to -/
def CrPost (own : Nat → Nat) (G : GS) (n : Nat) (B : CrB) (y : CM) (r : Value) (q : Value × GS) : Prop := q.1 = r ∧ ∃ own' B', B'.xb = B.xb ∧ B'.m = B.m ∧ Agr own own' G ∧ ModT crT own G q.2 ∧ CrG own' q.2 n y B'
theorem pS_up {B : CrB} {x : CM} {i j b : Nat} {p : SdS} : pS { B with s := upN B.s i b } { x with sd := upN x.sd i (some p) } j = if j = i then P0 b else pS B x j := by
  unfold pS
  by_cases e : j = i <;> simp [upN, e]
theorem begins_S (orc : FuncId → Bool) (h : CrG own G n x B) (hI : InvC n K x D T H tk) (hK : K ≤ 60000) (hi : i < 3) (h0 : x.sd i = none) (w : Int) : Wp ((E orc).cl 41 [P0 B.xb, .int .i64 i, .int .i64 w] G) (CrPost own G n B (x.begS n i (w % 2).toNat) (.bool true)) := by
  have hn := hI.n1
  have hnx := hI.nx
  obtain ⟨c, hc⟩ : ∃ c : Nat, w % 2 = c := ⟨(w % 2).toNat, by omega⟩
  have hc2 : c < 2 := by omega
  have epk := pick_ok orc w 2 (by decide) (by decide) (G.room 20)
  rw [hc] at epk
  rw [hc, Int.toNat_natCast]
  have hwn : IntKind.wrap .i64 (x.nx + 1) = x.nx + 1 := wrap64 (by omega) (by omega)
  have hox := h.cx.obj
  have hos := h.cs.obj
  have hoo := h.co.obj
  have hov := h.cv.obj
  simp only [crX] at hox
  have nox : ¬ B.ob = B.xb := fun e => h.cx.ne h.co.tag (by decide) e.symm
  have nxo : ¬ B.xb = B.ob := fun e => nox e.symm
  have nvx : ¬ B.vb = B.xb := fun e => h.cx.ne h.cv.tag (by decide) e.symm
  have nxv : ¬ B.xb = B.vb := fun e => nvx e.symm
  have nov : ¬ B.ob = B.vb := h.co.ne h.cv.tag (by decide)
  have nvo : ¬ B.vb = B.ob := fun e => nov e.symm
  obtain ⟨ol, hol⟩ : ∃ ol : List Value, ol = [.int .i64 (upN x.to i c 0), .int .i64 (upN x.to i c 1), .int .i64 (upN x.to i c 2)] := ⟨_, rfl⟩
  obtain ⟨vl, hvl⟩ : ∃ vl : List Value, vl = [.int .i64 (upN x.v i x.nx 0), .int .i64 (upN x.v i x.nx 1), .int .i64 (upN x.v i x.nx 2)] := ⟨_, rfl⟩
  have hoi : ol[i]? = some (.int .i64 (c : Int)) := by
    rw [hol]; rcases (show i = 0 ∨ i = 1 ∨ i = 2 by omega) with rfl | rfl | rfl <;> simp [upN]
  have hvi : vl[i]? = some (.int .i64 x.nx) := by
    rw [hvl]; rcases (show i = 0 ∨ i = 1 ∨ i = 2 by omega) with rfl | rfl | rfl <;> simp [upN]
  obtain ⟨G18, hG18⟩ : ∃ G18, G18 = (G.room 20).put B.ob ⟨ol, 1, false, 1⟩ := ⟨_, rfl⟩
  obtain ⟨G20, hG20⟩ : ∃ G20, G20 = G18.put B.vb ⟨vl, 1, false, 1⟩ := ⟨_, rfl⟩
  obtain ⟨x1, hx1⟩ : ∃ x1 : CM, x1 = { x with to := upN x.to i (c : Int), v := upN x.v i x.nx, nx := x.nx + 1 } := ⟨_, rfl⟩
  obtain ⟨G27, hG27⟩ : ∃ G27, G27 = G20.put B.xb ⟨crX n x1 B, 1, false, 1⟩ := ⟨_, rfl⟩
  have m27 : ModT [1, 3, 4] own G G27 := by
    rw [hG27, hG20, hG18]
    exact ModT.put (ModT.put (ModT.put (ModP.room (ModT.refl _ _ _) _) (.inl (by rw [h.co.tag]; decide)) _) (.inl (by rw [h.cv.tag]; decide)) _) (.inl (by rw [h.cx.tag]; decide)) _
  have n27 : G27.nx = G.nx + 20 := by rw [hG27, hG20, hG18]; rfl
  have a := Agr.refl own G
  have h27 : CrG own G27 n x1 B := by
    have nx := m27.nx
    rw [hx1]
    refine ⟨⟨Nat.lt_of_lt_of_le h.cx.lt nx, h.cx.tag, by rw [hG27, hx1]; simp⟩, h.cs.to m27 (by decide) a, ⟨Nat.lt_of_lt_of_le h.co.lt nx, h.co.tag, by rw [hG27, hG20, hG18]; simp [nox, nov]; exact hol⟩, ⟨Nat.lt_of_lt_of_le h.cv.lt nx, h.cv.tag, by rw [hG27, hG20]; simp [nvx]; exact hvl⟩, h.cd.to m27 (by decide) a, h.ct.to m27 (by decide) a, h.ck.to m27 (by decide) a, h.cg.to m27 (by decide) a, h.ch.to m27 (by decide) a, h.hm.mt m27 (by decide) a, fun c hc => (h.ht c hc).mt m27 (by simp; omega) a, fun i hi p hp => sd_mt (h.sd i hi p hp) m27 (by simp; omega) a, fun c hc d hd => dn_mt (h.dn c hc d hd) m27 (by simp; omega) a⟩
  obtain ⟨⟨rv, G44⟩, e44, b, rfl, x44, ⟨b0, b1⟩, s44⟩ := newsd_ok orc (MBn n) (c : Int) x.nx (G27.room 26)
  simp only at x44 b1 s44
  rw [newSd_n hn hc2 ⟨hnx.1, by omega⟩] at s44
  have y44 : Ext G27 G44 := ((Ext.refl G27).room 26).trans x44
  have b0' : G27.nx ≤ b := Nat.le_trans (Nat.le_add_right _ _) b0
  obtain ⟨G47, hG47⟩ : ∃ G47, G47 = G44.put B.sb ⟨[if 0 = i then P0 b else pS B x 0, if 1 = i then P0 b else pS B x 1, if 2 = i then P0 b else pS B x 2], 1, false, 1⟩ := ⟨_, rfl⟩
  have s44' := s44 own (5 + i)
  obtain ⟨own2, hown2⟩ : ∃ own2, own2 = grown own G27 (5 + i) := ⟨_, rfl⟩
  have ag2 : Agr own own2 G27 := by rw [hown2]; exact grown_agr
  have m47 : ModT [2] own G27 G47 := by rw [hG47]; exact ModT.put (ModT.ext y44) (.inl (by rw [h.cs.tag]; decide)) _
  have nx47 := m47.nx
  have hAt : At own2 (5 + i) G47 b := ⟨by rw [hG47]; exact b1, by rw [hown2]; exact grown_new b0'⟩
  have hsb : own2 B.sb = 2 := (ag2 _ h27.cs.lt).trans h27.cs.tag
  have hSd : SdP own2 (5 + i) G47 b (.go (.go 1 (rgN (bas n c) n) x.nx 0 0)) := by
    have e1 : ∀ g, G27.nx ≤ g → grown own (G27.room 26) (5 + i) g = 5 + i ∨ g < (G27.room 26).nx := fun g hg => by
      by_cases q : g < (G27.room 26).nx
      · exact .inr q
      · exact .inl (grown_new (by omega))
    obtain ⟨q, q1, q2, q3, q4⟩ := s44'
    have q5 : q < G44.nx := q2.lt
    have q6 : own2 q = 5 + i := by
      by_cases k : q < (G27.room 26).nx
      · have k1 := q2.tag
        unfold grown at k1
        rw [if_pos k] at k1
        rw [hown2]
        unfold grown
        by_cases k2 : q < G27.nx
        · rw [if_pos k2]; exact k1
        · rw [if_neg k2]
      · rw [hown2]; exact grown_new (by simp at k; omega)
    have qb : q ≠ B.sb := fun e => by rw [e, hsb] at q6; omega
    have bb : b ≠ B.sb := fun e => by have := hAt.tag; rw [e, hsb] at this; omega
    refine ⟨q, by rw [hG47, obj_put, if_neg bb]; exact q1, ⟨by rw [hG47]; exact q5, q6⟩, q3, ?_⟩
    exact q4.kept (by rw [hG47, obj_put, if_neg qb])
  have h47 : CrG own2 G47 n (x.begS n i c) { B with s := upN B.s i b } := by
    have hb : x.begS n i c = { x1 with sd := upN x1.sd i (some (.go (.go 1 (rgN (bas n c) n) x.nx 0 0))) } := by rw [hx1]; rfl
    have hp : ∀ j, pS B x1 j = pS B x j := fun j => by rw [hx1]; rfl
    rw [hb]
    refine ⟨h27.cx.to m47 (by decide) ag2, ⟨Nat.lt_of_lt_of_le h27.cs.lt nx47, hsb, by rw [pS_up, pS_up, pS_up, hp, hp, hp]; rw [hG47]; simp⟩, h27.co.to m47 (by decide) ag2, h27.cv.to m47 (by decide) ag2, h27.cd.to m47 (by decide) ag2, h27.ct.to m47 (by decide) ag2, h27.ck.to m47 (by decide) ag2, h27.cg.to m47 (by decide) ag2, h27.ch.to m47 (by decide) ag2, h27.hm.mt m47 (by decide) ag2, fun c hc => (h27.ht c hc).mt m47 (by simp; omega) ag2, fun j hj p hp => ?_, fun c hc d hd => dn_mt (h27.dn c hc d hd) m47 (by simp; omega) ag2⟩
    by_cases e : j = i
    · subst e
      simp only [upN_same] at hp ⊢
      cases hp
      exact ⟨hAt, hSd⟩
    · simp only [upN_ne _ _ e] at hp ⊢
      exact sd_mt (h27.sd j hj p hp) m47 (by simp; omega) ag2
  have post : CrPost own G n B (x.begS n i c) (.bool true) (.bool true, G47) := ⟨rfl, own2, { B with s := upN B.s i b }, rfl, rfl, a.trans ag2 m27.nx, (ModT.mono (us := crT) m27 (by decide)).trans a (ModT.mono (us := crT) m47 (by decide)), h47⟩
  clear h47 hSd hAt s44 s44'
  have ox27 := h27.cx.obj
  have os27 : G27.obj B.sb = some ⟨[pS B x 0, pS B x 1, pS B x 2], 1, false, 1⟩ := by have := h27.cs.obj; rw [hx1] at this; exact this
  have oo27 := h27.co.obj
  have ov27 := h27.cv.obj
  have ox18 := (show G18.obj B.xb = G.obj B.xb by rw [hG18, obj_put, if_neg nxo]; rfl).trans hox
  have ov18 := (show G18.obj B.vb = G.obj B.vb by rw [hG18, obj_put, if_neg nvo]; rfl).trans hov
  have ox20 := (show G20.obj B.xb = G18.obj B.xb by rw [hG20, obj_put, if_neg nxv]).trans ox18
  have ox44 := (y44.obj _ h27.cx.lt).trans ox27
  have os44 := (y44.obj _ h27.cs.lt).trans os27
  have hpi : pS B x i = .pointer none := by unfold pS; rw [h0]
  simp only [MB.v, MB.cells, MBn] at e44
  rw [hx1] at hG27 ox27 oo27 ov27 ox44
  simp only [crX] at hG27 ox27 ox44
  refine Wp.ref (f41 (exL_ok Q orc) _ _ _ G) ?_
  refine Wp.mono (Q := fun q => q = (.bool true, G47)) ?_ (fun q hq => by subst hq; exact post)
  rcases (show i = 0 ∨ i = 1 ∨ i = 2 by omega) with rfl | rfl | rfl
  all_goals
    simp [upN] at hol hvl
    simp at hG47
    simp [upN] at oo27 ov27
    simp [-Int.natCast_add, s41, sb41, hox, hos, hpi, hoo, hov, epk, ← hol, ← hG18, ox18, ov18, ← hvl, ← hG20, ox20, hwn, ← hG27, ox27, oo27, ov27, hoi, hvi, e44, ox44, os44, ← hG47]
end
end Go.Proofs.Ytfmkihikmlcimaa.Lift

set_option linter.unusedVariables false
set_option linter.unusedSimpArgs false
set_option linter.unnecessarySimpa false
set_option maxRecDepth 20000
namespace Go.Proofs.Ytfmkihikmlcimaa.Lift
open Go Go.Proofs.Ytfmkihikmlcimaa.Gh Go.Proofs
section
variable {own own' own1 : Nat → Nat} {G G' G1 G2 : GS} {n c i K : Nat} {ts : List Nat} {x y : CM} {B B' : CrB} {v : Value} {L : List Int} {s' : MS} {D T H tk : Nat → Nat} {p : PuS} {d : SdS}
theorem pS_none {B : CrB} {x : CM} {i j : Nat} : pS B { x with sd := upN x.sd i none } j = if j = i then .pointer none else pS B x j := by
  unfold pS
  by_cases e : j = i <;> simp [upN, e]
/-- a Send has ended -/
theorem CrG.endS (h : CrG own G n x B) (hi : i < 3) (hG : G' = G.put B.sb ⟨[if 0 = i then .pointer none else pS B x 0, if 1 = i then .pointer none else pS B x 1, if 2 = i then .pointer none else pS B x 2], 1, false, 1⟩) : CrG own G' n { x with sd := upN x.sd i none } B ∧ ModT [2] own G G' := by
  have m : ModT [2] own G G' := by rw [hG]; exact ModT.put (ModT.refl _ _ _) (.inl (by rw [h.cs.tag]; decide)) _
  have a := Agr.refl own G
  have nx := m.nx
  refine ⟨⟨h.cx.to m (by decide) a, ⟨Nat.lt_of_lt_of_le h.cs.lt nx, h.cs.tag, by rw [pS_none, pS_none, pS_none]; rw [hG]; simp⟩, h.co.to m (by decide) a, h.cv.to m (by decide) a, h.cd.to m (by decide) a, h.ct.to m (by decide) a, h.ck.to m (by decide) a, h.cg.to m (by decide) a, h.ch.to m (by decide) a, h.hm.mt m (by decide) a, fun c hc => (h.ht c hc).mt m (by simp; omega) a, fun j hj p hp => ?_, fun c hc d hd => dn_mt (h.dn c hc d hd) m (by simp; omega) a⟩, m⟩
  by_cases e : j = i
  · subst e; simp only [upN_same] at hp; cases hp
  · simp only [upN_ne _ _ e] at hp
    exact sd_mt (h.sd j hj p hp) m (by simp; omega) a
theorem sender_J0 (orc : FuncId → Bool) (h : CrG own G n x B) (hi : i < 3) (hc : c < 2) (hlen : (x.th c).length ≤ 1000000) (hd : x.sd i = some d) (ho : d.over = true → (d.err = 0 ∧ x.v i ∈ x.th c) ∨ (d.err = 7 ∧ x.v i ∉ x.th c)) (τ : Env) (t0 : τ 0 = P0 B.xb) (t1 : τ 1 = .int .i64 i) (t7 : τ 7 = .bool d.over) (t8 : τ 8 = .int .i64 c) :
    Wp (j41_0 true (exL Q orc) τ G) fun q => q.1 = .bool true ∧ ModT [2] own G q.2 ∧ CrG own q.2 n (if d.over = true then { x with sd := upN x.sd i none } else x) B := by
  by_cases hov : d.over = true
  · rw [if_pos hov]
    rw [hov] at t7
    obtain ⟨hat, hsp⟩ := h.sd i hi d hd
    have eer := sderr_ok orc hsp
    obtain ⟨G75, hG75⟩ : ∃ G75, G75 = G.put B.sb ⟨[if 0 = i then .pointer none else pS B x 0, if 1 = i then .pointer none else pS B x 1, if 2 = i then .pointer none else pS B x 2], 1, false, 1⟩ := ⟨_, rfl⟩
    obtain ⟨h75, m75⟩ := h.endS hi hG75
    have r75 := h75.extO ((Ext.refl G75).room 16)
    have hox := h.cx.obj
    have hos := h.cs.obj
    have ox75 := h75.cx.obj
    have ot75 := h75.ct.obj
    have ov75 := h75.cv.obj
    have eam := among_ok' orc ((r75.ht c hc).ow.is) (show (x.th c).length < 2 ^ 47 by omega) (x.v i)
    have hpi : pS B x i = P0 (B.s i) := by unfold pS; rw [hd]
    simp only [crX] at hox ox75
    refine Wp.mono (Q := fun q => q = (.bool true, G75.room 16)) ?_ (fun q hq => by subst hq; exact ⟨rfl, ModP.room m75 16, r75⟩)
    rcases (show i = 0 ∨ i = 1 ∨ i = 2 by omega) with rfl | rfl | rfl <;> rcases (show c = 0 ∨ c = 1 by omega) with rfl | rfl
    all_goals
      simp at hG75
      rcases ho hov with ⟨e1, e2⟩ | ⟨e1, e2⟩
      all_goals
        rw [e1] at eer
        simp [e2] at eam
        simp at t1 t8
        simp [j41_0, jb41_0, t0, t1, t7, t8, hox, hos, hpi, eer, ← hG75, ox75, ot75, ov75, eam]
  · rw [if_neg hov]
    have hov' : d.over = false := by simpa using hov
    rw [hov'] at t7
    refine Wp.mono (Q := fun q => q = (.bool true, G)) ?_ (fun q hq => by subst hq; exact ⟨rfl, ModT.refl _ _ _, h⟩)
    simp [j41_0, jb41_0, t0, t1, t7, t8]
/-- a Send's step -/
theorem CrG.runS (h : CrG own G n x B) (hi : i < 3) {d d' : SdS} (hd : x.sd i = some d) (w : PW (Own own (5 + i)) own G own1 G1 B.m s') (hs : SdP own1 (5 + i) G1 (B.s i) d') : CrG own1 G1 n { x with s := s', sd := upN x.sd i (some d') } B ∧ ModT [10, 5 + i] own G G1 := by
  have m : ModT [10, 5 + i] own G G1 := w.mt (by simp) (by simp)
  have a := w.stp.agr
  have no : ∀ {t}, t ∈ [1, 2, 3, 4, 14, 15, 16, 17, 18] → t ∉ [10, 5 + i] := fun {t} h1 h2 => by simp at h1 h2; omega
  obtain ⟨hat, _⟩ := h.sd i hi d hd
  have pe : ∀ j, pS B { x with s := s', sd := upN x.sd i (some d') } j = pS B x j := fun j => by
    unfold pS
    by_cases e : j = i
    · subst e; simp only [upN_same, hd]
    · simp only [upN_ne _ _ e]
  refine ⟨⟨h.cx.to m (no (by decide)) a, by rw [pe, pe, pe]; exact h.cs.to m (no (by decide)) a, h.co.to m (no (by decide)) a, h.cv.to m (no (by decide)) a, h.cd.to m (no (by decide)) a, h.ct.to m (no (by decide)) a, h.ck.to m (no (by decide)) a, h.cg.to m (no (by decide)) a, h.ch.to m (no (by decide)) a, w.pm, fun c hc => (h.ht c hc).mt m (by simp; omega) a, fun j hj p hp => ?_, fun c hc d hd => dn_mt (h.dn c hc d hd) m (by simp; omega) a⟩, m⟩
  by_cases e : j = i
  · subst e; simp only [upN_same] at hp; cases hp; exact ⟨hat.to m.nx a, hs⟩
  · simp only [upN_ne _ _ e] at hp
    exact sd_mt (h.sd j hj p hp) m (by simp; omega) a
/-- a value came to be there -/
theorem CrG.lay (h : CrG own G n x B) (hc : c < 2) (m : ModT [15, 21 + c] own G G') {t' : Value} {th' : List Int} (ot : G'.obj B.tb = some ⟨[upN B.t c t' 0, upN B.t c t' 1], 1, false, 1⟩) (w : OwR (rowsI .i64) G.nx G' t' th') : CrG (grown own G (21 + c)) G' n { x with th := upN x.th c th' } { B with t := upN B.t c t' } := by
  have a : Agr own (grown own G (21 + c)) G := grown_agr
  have nx := m.nx
  have no : ∀ {t}, t ∈ [1, 2, 3, 4, 14, 16, 17, 18, 10] → t ∉ [15, 21 + c] := fun {t} h1 h2 => by simp at h1 h2; omega
  refine ⟨h.cx.to m (no (by decide)) a, h.cs.to m (no (by decide)) a, h.co.to m (no (by decide)) a, h.cv.to m (no (by decide)) a, h.cd.to m (no (by decide)) a, ⟨Nat.lt_of_lt_of_le h.ct.lt nx, (a _ h.ct.lt).trans h.ct.tag, ot⟩, h.ck.to m (no (by decide)) a, h.cg.to m (no (by decide)) a, h.ch.to m (no (by decide)) a, h.hm.mt m (no (by decide)) a, fun c' hc' => ?_, fun j hj p hp => sd_mt (h.sd j hj p hp) m (by simp; omega) a, fun c hc d hd => dn_mt (h.dn c hc d hd) m (by simp; omega) a⟩
  by_cases e : c' = c
  · subst e
    simp only [upN_same]
    exact ⟨w.mono (Nat.zero_le _), fun g hg => grown_new (w.from hg)⟩
  · simp only [upN_ne _ _ e]
    exact (h.ht c' hc').mt m (by simp; omega) a
end
end Go.Proofs.Ytfmkihikmlcimaa.Lift

set_option linter.unusedVariables false
set_option linter.unusedSimpArgs false
set_option linter.unnecessarySimpa false
set_option maxRecDepth 20000
namespace Go.Proofs.Ytfmkihikmlcimaa.Lift
open Go Go.Proofs.Ytfmkihikmlcimaa.Gh Go.Proofs
section
variable {own own' own1 : Nat → Nat} {G G' G1 G2 : GS} {n c i K : Nat} {ts : List Nat} {x y : CM} {B B' : CrB} {v : Value} {L : List Int} {s' : MS} {D T H tk : Nat → Nat} {p : PuS} {d : SdS}
theorem steps_S (orc : FuncId → Bool) (h : CrG own G n x B) (hI : InvC n K x D T H tk) (hK : K ≤ 60000) (hi : i < 3) (hc : c < 2) (h1 : x.sd i = some (.go p)) (h3 : x.to i = (c : Int)) (w : Value) : Wp ((E orc).cl 41 [P0 B.xb, .int .i64 i, w] G) (CrPost own G n B (x.stepS n i c p) (.bool true)) := by
  have hn := hI.n1
  obtain ⟨fra, T', hI', hov, -⟩ := hI.stepS (by omega) hi hc h1 h3
  have hpok : SdS.ok (.go p) := by
    cases hI.sd i hi with
    | none a => rw [a] at h1; cases h1
    | some p0 e c0 a1 a2 a3 a4 a5 a6 a7 a8 a9 =>
      rw [h1] at a1
      cases a1
      exact ⟨a2, a5.going.1⟩
  have hlen : (x.th c).length ≤ K := by have := (hI.box c hc).len; have := (hI.box c hc).m.small; omega
  -- the step
  have h13 := h.extO ((Ext.refl G).room 13)
  obtain ⟨hat, hsp⟩ := h13.sd i hi _ h1
  obtain ⟨own1, G56, e56, w56, s56⟩ := sdstep_ok orc h13.hm hI.sk hpok (by omega) hat hsp
  obtain ⟨d', hd'⟩ : ∃ d', d' = SdS.after (p.step x.s).1 := ⟨_, rfl⟩
  have hst : (SdS.step (.go p) x.s) = (d', (p.step x.s).2) := by rw [hd']; rfl
  rw [hst] at e56 w56 s56
  simp only at e56 w56 s56
  obtain ⟨h56, m56⟩ := h13.runS hi h1 w56 s56
  have hdov : d'.over = (p.step x.s).1.over := by rw [hd']; unfold SdS.after; split <;> simp_all [SdS.over]
  have hderr : d'.over = true → d'.err = (p.step x.s).1.err := fun k => by rw [hd']; rw [hdov] at k; unfold SdS.after; rw [if_pos k]; rfl
  have m0 : ModT crT own G G56 := (ModT.ext ((Ext.refl G).room 13)).trans (Agr.refl _ _) (ModT.mono (us := crT) m56 (by rcases (show i = 0 ∨ i = 1 ∨ i = 2 by omega) with rfl | rfl | rfl <;> decide))
  have ag1 : Agr own own1 G := fun g hg => w56.stp.agr g (by simp; omega)
  obtain ⟨x2, hx2⟩ : ∃ x2 : CM, x2 = { x with s := (p.step x.s).2, sd := upN x.sd i (some d') } := ⟨_, rfl⟩
  rw [← hx2] at h56
  obtain ⟨G106, e106, x106⟩ := arrived_ok orc h56 hn hc
  have hs2 : x2.s = (p.step x.s).2 := by rw [hx2]
  rw [hs2] at e106
  have h106 := h56.extO x106
  have m106 : ModT crT own G G106 := m0.trans ag1 (ModT.ext x106)
  have hsd2 : x2.sd i = some d' := by rw [hx2]; exact upN_same _ _ _
  have hv2 : x2.v i = x.v i := by rw [hx2]
  have hth2 : x2.th = x.th := by rw [hx2]
  -- the end
  have fin : ∀ (own3 : Nat → Nat) (G3 : GS) (x3 : CM) (B3 : CrB), CrG own3 G3 n x3 B3 → B3.xb = B.xb → B3.m = B.m → Agr own own3 G → ModT crT own G G3 → x3.sd i = some d' → x3.th c = (x.stepS n i c p).th c → x3.v i = x.v i → (if d'.over = true then { x3 with sd := upN x3.sd i none } else x3) = x.stepS n i c p →
      ∀ τ : Env, τ 0 = P0 B.xb → τ 1 = .int .i64 i → τ 7 = .bool d'.over → τ 8 = .int .i64 c → Wp (j41_0 true (exL Q orc) τ G3) (CrPost own G n B (x.stepS n i c p) (.bool true)) := by
    intro own3 G3 x3 B3 k1 k2 k3 k4 k5 k6 k7 k8 k9 τ t0 t1 t7 t8
    have hl3 : (x3.th c).length ≤ 1000000 := by
      rw [k7]
      have := (hI'.box c hc).len; have := (hI'.box c hc).m.small; omega
    refine Wp.mono (sender_J0 orc k1 hi hc hl3 k6 (fun ho => ?_) τ (by rw [k2]; exact t0) t1 t7 t8) ?_
    · rw [k7, k8, hderr ho]
      exact hov (by rw [← hdov]; exact ho)
    · rintro q ⟨z1, z2, z3⟩
      rw [k9] at z3
      exact ⟨z1, own3, B3, k2, k3, k4, k5.trans k4 (ModT.mono (us := crT) z2 (by decide)), z3⟩
  have hox := h.cx.obj
  have hos := h.cs.obj
  have hpi : pS B x i = P0 (B.s i) := by unfold pS; rw [h1]
  have ox56 := h56.cx.obj
  have oo56 := h56.co.obj
  have ox106 := h106.cx.obj
  have ot106 := h106.ct.obj
  have ov106 := h106.cv.obj
  have hnx2 : x2.nx = x.nx := by rw [hx2]
  have hto2 : x2.to = x.to := by rw [hx2]
  have hvv2 : x2.v = x.v := by rw [hx2]
  simp only [crX, hnx2] at hox ox56 ox106
  simp only [hto2] at oo56
  simp only [hvv2] at ov106
  refine Wp.ref (f41 (exL_ok Q orc) _ _ _ G) ?_
  by_cases hla : landsI (bas n c) n (p.step x.s).2
  · have e106' := e106
    simp only [hla, decide_true] at e106'
    obtain ⟨R, hR⟩ : ∃ R, R = G106.room 23 := ⟨_, rfl⟩
    have nR : R.nx = G106.nx + 23 := by rw [hR]; rfl
    obtain ⟨G121, hG121⟩ : ∃ G121, G121 = ((R.at' (G106.nx + 19)).push ⟨[.int .i64 (x.v i)], 1, false, 1⟩).back R := ⟨_, rfl⟩
    have x121 : Ext G106 G121 := by rw [hG121, hR]; exact Ext.drawn ((Ext.refl G106).room 23) (by omega) (by simp) _
    have h121 := h106.extO x121
    have sl : SlR (rowsI .i64) G121 (.slice (some ⟨G106.nx + 19, 0, none⟩) 1 1) [x.v i] := by rw [hG121]; exact SlR.oneD (rowsI .i64) R (x.v i) (by omega)
    obtain ⟨t', G122, e122, m122, o122⟩ := (h121.ht c hc).ow.app_mod (ib := 8) (by decide) sl (by simp) (by rw [hth2]; simp; omega)
    simp only [hth2] at o122
    have mm122 : ModT [15, 21 + c] own1 G121 G122 := ModP.mono m122 fun g hg => by rw [(h121.ht c hc).tag g hg]; simp
    obtain ⟨G125, hG125⟩ : ∃ G125, G125 = G122.put B.tb ⟨[if 0 = c then t' else B.t 0, if 1 = c then t' else B.t 1], 1, false, 1⟩ := ⟨_, rfl⟩
    have m125 : ModT [15, 21 + c] own1 G121 G125 := by rw [hG125]; exact ModT.put mm122 (.inl (by rw [h121.ct.tag]; simp)) _
    have ntb : ∀ g, InB t' g → ¬ g = B.tb := fun g hg e => by
      have q1 := o122.from hg
      have q2 := h121.ct.lt
      omega
    have o125 : OwR (rowsI .i64) G121.nx G125 t' (x.th c ++ [x.v i]) := o122.kept (by rw [hG125]; exact Nat.le_refl _) fun g hg => by rw [hG125, obj_put, if_neg (ntb g hg)]
    have h125 := h121.lay hc m125 (t' := t') (th' := x.th c ++ [x.v i]) (by rw [hG125]; simp [upN]) o125
    have ag2 : Agr own (grown own1 G121 (21 + c)) G := ag1.trans grown_agr (Nat.le_trans m106.nx x121.nx)
    have M : ModT crT own G G125 := (m106.trans ag1 (ModT.ext x121)).trans ag1 (ModT.mono (us := crT) m125 (by rcases (show c = 0 ∨ c = 1 by omega) with rfl | rfl <;> decide))
    have go := fin _ G125 _ _ h125 rfl rfl ag2 M hsd2 (by simp [CM.stepS, hla, hth2, upN_same]) hv2 (by
      rw [hdov]
      unfold CM.stepS
      by_cases ho : (p.step x.s).1.over = true
      · simp only [ho, if_true, if_pos hla, hx2]
        have : upN (upN x.sd i (some d')) i none = upN x.sd i none := by funext j; unfold upN; split <;> rfl
        rw [this]
      · have hd2 : d' = .go (p.step x.s).1 := by rw [hd']; unfold SdS.after; rw [if_neg ho]
        simp only [if_neg ho, if_pos hla, hx2, hd2])
    have ox121 := (x121.obj _ h106.cx.lt).trans ox106
    have ot121 := h121.ct.obj
    have ox122 := (mm122.same h121.cx.lt (by rw [h121.cx.tag]; simp; omega)).trans ox121
    have ot122 : G122.obj B.tb = some ⟨[B.t 0, B.t 1], 1, false, 1⟩ := (m122.obj _ h121.ct.lt (fun q => by have q1 := (h121.ht c hc).tag _ q; have q2 := h121.ct.tag; omega)).trans ot121
    have one' := own_one o122
    have oxR : R.obj B.xb = _ := (show R.obj B.xb = G106.obj B.xb by rw [hR]; rfl).trans ox106
    have otR := (show R.obj B.tb = G106.obj B.tb by rw [hR]; rfl).trans ot106
    have ovR := (show R.obj B.vb = G106.obj B.vb by rw [hR]; rfl).trans ov106
    simp only [rowsI_sz] at e122
    rcases (show i = 0 ∨ i = 1 ∨ i = 2 by omega) with rfl | rfl | rfl <;> rcases (show c = 0 ∨ c = 1 by omega) with rfl | rfl
    all_goals
      simp at h3 e106' hG125
      simp [-Int.natCast_add, s41, sb41, hox, hos, hpi, e56, ox56, oo56, h3, e106', ← hR, oxR, otR, ovR, ← hG121, e122, ox122, ot122, stO_one _ _ one', ← hG125]
      exact go _ (by simp [clip_t]) (by simp [clip_t]) (by simp [clip_t]) (by simp [clip_t])
  · have e106' := e106
    simp only [hla, decide_false] at e106'
    have go := fin _ G106 _ _ h106 rfl rfl ag1 m106 hsd2 (by simp [CM.stepS, hla, hth2]) hv2 (by
      rw [hdov]
      unfold CM.stepS
      by_cases ho : (p.step x.s).1.over = true
      · simp only [ho, if_true, if_neg hla, hx2]
        have : upN (upN x.sd i (some d')) i none = upN x.sd i none := by funext j; unfold upN; split <;> rfl
        rw [this]
      · have hd2 : d' = .go (p.step x.s).1 := by rw [hd']; unfold SdS.after; rw [if_neg ho]
        simp only [if_neg ho, if_neg hla, hx2, hd2])
    rcases (show i = 0 ∨ i = 1 ∨ i = 2 by omega) with rfl | rfl | rfl <;> rcases (show c = 0 ∨ c = 1 by omega) with rfl | rfl
    all_goals
      simp at h3 e106'
      simp [-Int.natCast_add, s41, sb41, hox, hos, hpi, e56, ox56, oo56, h3, e106']
      exact go _ (by simp [clip_t]) (by simp [clip_t]) (by simp [clip_t]) (by simp [clip_t])
end
end Go.Proofs.Ytfmkihikmlcimaa.Lift

set_option linter.unusedVariables false
set_option linter.unusedSimpArgs false
set_option linter.unnecessarySimpa false
set_option maxRecDepth 20000
namespace Go.Proofs.Ytfmkihikmlcimaa.Lift
open Go Go.Proofs.Ytfmkihikmlcimaa.Gh Go.Proofs
theorem SlR.sub {α : Type} {e : RowE α} {G : GS} {v : Value} {L : List α} (h : SlR e G v L) {k : IntKind} {o q : Nat} (ho : o ≤ q) (hq : q ≤ L.length) : ∃ v', slK e.sz v (some (.int k o)) (some (.int k q)) none G = some v' ∧ SlR e G v' ((L.drop o).take (q - o)) := by
  have hll : ((L.drop o).take (q - o)).length = q - o := by simp; omega
  have hl : (e.flat ((L.drop o).take (q - o))).length = ((L.drop o).take (q - o)).length * e.sz := e.flat_length _
  rcases h.is.2 with ⟨rfl, h0⟩ | ⟨b, f, c, ob, rfl, h2, h3, h4, h5, h6⟩
  · have hL : L = [] := List.eq_nil_of_length_eq_zero h0
    subst hL
    have : q = 0 := by simpa using hq
    subst this
    have : o = 0 := by omega
    subst this
    exact ⟨.slice none 0 0, by simp [slK, bound], SlR.nil⟩
  · have h1 : (0 : Int) ≤ o ∧ (o : Int) ≤ q := by omega
    have h1' : (0 : Int) ≤ q ∧ (q : Int) ≤ c := by omega
    have hqc : q ≤ c := by omega
    have hfit := h.fit _ _ _ rfl ob h4
    have hc : ∀ i, i < ((L.drop o).take (q - o)).length * e.sz → ob.cells[f + o * e.sz + i]? = (e.flat ((L.drop o).take (q - o)))[i]? := fun i hi => by
      rw [hll] at hi
      have hle : q * e.sz ≤ L.length * e.sz := Nat.mul_le_mul_right _ hq
      have hsub : (q - o) * e.sz = q * e.sz - o * e.sz := Nat.sub_mul ..
      rw [← e.flat_take, List.getElem?_take, if_pos hi, ← e.flat_drop, List.getElem?_drop, Nat.add_assoc]
      exact h6 _ (by omega)
    refine ⟨.slice (some ⟨b, f + o * e.sz, none⟩) (q - o) (c - o), ?_, ⟨⟨hl, .inr ⟨b, f + o * e.sz, c - o, ob, by rw [hll], by omega, h3, h4, h5, hc⟩⟩, fun a n c' he ob' ho' hop => by cases he; exact h.fit _ _ _ rfl ob' ho' hop⟩⟩
    simp only [slK, h4]
    cases hop : ob.opn
    · simp [bound, h1, h1', hqc]
    · simp [bound, h1, h1', hqc, hfit hop]
section
variable {own own' own1 : Nat → Nat} {G G' G1 G2 : GS} {n c i K : Nat} {ts : List Nat} {x y : CM} {B B' : CrB} {v : Value} {L : List Int} {s' : MS} {D T H tk : Nat → Nat} {p : PuS} {d : DnS}
theorem pD_up {B : CrB} {x : CM} {i j b : Nat} {p : DnS} : pD { B with d := upN B.d i b } { x with dn := upN x.dn i (some p) } j = if j = i then P0 b else pD B x j := by
  unfold pD
  by_cases e : j = i <;> simp [upN, e]
theorem pD_none {B : CrB} {x : CM} {i j : Nat} : pD B { x with dn := upN x.dn i none } j = if j = i then .pointer none else pD B x j := by
  unfold pD
  by_cases e : j = i <;> simp [upN, e]
theorem begins_D (orc : FuncId → Bool) (h : CrG own G n x B) (hn : 1 ≤ n ∧ n ≤ 4) (hc : c < 2) (h0 : x.dn c = none) (w : Int) : Wp ((E orc).cl 42 [P0 B.xb, .int .i64 c, .int .i64 w] G) (CrPost own G n B (x.begD n c (1 + w % 4)) (.bool true)) := by
  have epk := pick_ok orc w 4 (by decide) (by decide) (G.room 16)
  obtain ⟨mo, hmo⟩ : ∃ mo, mo = 1 + w % 4 := ⟨_, rfl⟩
  have hw : IntKind.wrap .i64 (1 + w % 4) = mo := by rw [hmo]; exact wrap64 (by omega) (by omega)
  rw [← hmo]
  obtain ⟨⟨rv, G15⟩, e15, b, rfl, x15, ⟨b0, b1⟩, s15⟩ := newdn_ok orc (MBn n) (c : Int) mo (G.room 16)
  simp only at x15 b1 s15
  rw [newDn_n hn hc (by omega)] at s15
  have y15 : Ext G G15 := ((Ext.refl G).room 16).trans x15
  have b0' : G.nx ≤ b := Nat.le_trans (Nat.le_add_right _ _) b0
  obtain ⟨G18, hG18⟩ : ∃ G18, G18 = G15.put B.db ⟨[if 0 = c then P0 b else pD B x 0, if 1 = c then P0 b else pD B x 1], 1, false, 1⟩ := ⟨_, rfl⟩
  obtain ⟨own2, hown2⟩ : ∃ own2, own2 = grown own G (8 + c) := ⟨_, rfl⟩
  have ag2 : Agr own own2 G := by rw [hown2]; exact grown_agr
  have m18 : ModT [14] own G G18 := by rw [hG18]; exact ModT.put (ModT.ext y15) (.inl (by rw [h.cd.tag]; decide)) _
  have nx18 := m18.nx
  -- the new Drain, by its tag
  have hAt : At own2 (8 + c) G15 b := ⟨b1, by rw [hown2]; exact grown_new b0'⟩
  have hDn : DnP own2 (8 + c) G15 b (.fr (rgN (bas n c) n) mo [] (.go 1 (rgN (bas n c) n) 0)) := by
    have k := s15 own2 (8 + c)
    have e : grown own2 (G.room 16) (8 + c) = own2 := by
      funext g
      unfold grown
      by_cases q : g < (G.room 16).nx
      · rw [if_pos q]
      · rw [if_neg q, hown2, grown_new (by simp at q; omega)]
    rw [e] at k
    exact k
  have m18' : ModT [14] own2 G15 G18 := by rw [hG18]; exact ModT.put (ModT.refl _ _ _) (.inl (by rw [ag2 _ h.cd.lt, h.cd.tag]; decide)) _
  have hD18 := dn_mt ⟨hAt, hDn⟩ m18' (by simp; omega) (Agr.refl _ _)
  have h18 : CrG own2 G18 n (x.begD n c mo) { B with d := upN B.d c b } := by
    have hb : x.begD n c mo = { x with dn := upN x.dn c (some (.fr (rgN (bas n c) n) mo [] (.go 1 (rgN (bas n c) n) 0))) } := rfl
    rw [hb]
    refine ⟨h.cx.to m18 (by decide) ag2, h.cs.to m18 (by decide) ag2, h.co.to m18 (by decide) ag2, h.cv.to m18 (by decide) ag2, ⟨Nat.lt_of_lt_of_le h.cd.lt nx18, (ag2 _ h.cd.lt).trans h.cd.tag, by rw [pD_up, pD_up]; rw [hG18]; simp⟩, h.ct.to m18 (by decide) ag2, h.ck.to m18 (by decide) ag2, h.cg.to m18 (by decide) ag2, h.ch.to m18 (by decide) ag2, h.hm.mt m18 (by decide) ag2, fun c hc => (h.ht c hc).mt m18 (by simp; omega) ag2, fun j hj p hp => sd_mt (h.sd j hj p hp) m18 (by simp; omega) ag2, fun c' hc' d hd => ?_⟩
    by_cases e : c' = c
    · subst e
      simp only [upN_same] at hd ⊢
      cases hd
      exact hD18
    · simp only [upN_ne _ _ e] at hd ⊢
      exact dn_mt (h.dn c' hc' d hd) m18 (by simp; omega) ag2
  have post : CrPost own G n B (x.begD n c mo) (.bool true) (.bool true, G18) := ⟨rfl, own2, { B with d := upN B.d c b }, rfl, rfl, ag2, ModT.mono (us := crT) m18 (by decide), h18⟩
  have hox := h.cx.obj
  have hod := h.cd.obj
  have ox15 := (y15.obj _ h.cx.lt).trans hox
  have od15 := (y15.obj _ h.cd.lt).trans hod
  have hpi : pD B x c = .pointer none := by unfold pD; rw [h0]
  simp only [MB.v, MB.cells, MBn] at e15
  simp only [crX] at hox ox15
  refine Wp.ref (f42 (exL_ok Q orc) _ _ _ G) ?_
  refine Wp.mono (Q := fun q => q = (.bool true, G18)) ?_ (fun q hq => by subst hq; exact post)
  rcases (show c = 0 ∨ c = 1 by omega) with rfl | rfl
  all_goals
    simp at hG18 e15
    simp [-Int.natCast_add, s42, hox, hod, hpi, epk, hw, e15, ox15, od15, ← hG18]
/-- a Drain's step -/
theorem CrG.runD (h : CrG own G n x B) (hc : c < 2) {d d' : DnS} (hd : x.dn c = some d) (w : PW (Own own (8 + c)) own G own1 G1 B.m s') (hs : DnP own1 (8 + c) G1 (B.d c) d') : CrG own1 G1 n { x with s := s', dn := upN x.dn c (some d') } B ∧ ModT [10, 8 + c] own G G1 := by
  have m : ModT [10, 8 + c] own G G1 := w.mt (by simp) (by simp)
  have a := w.stp.agr
  have no : ∀ {t}, t ∈ [1, 2, 3, 4, 14, 15, 16, 17, 18] → t ∉ [10, 8 + c] := fun {t} h1 h2 => by simp at h1 h2; omega
  obtain ⟨hat, _⟩ := h.dn c hc d hd
  have pe : ∀ j, pD B { x with s := s', dn := upN x.dn c (some d') } j = pD B x j := fun j => by
    unfold pD
    by_cases e : j = c
    · subst e; simp only [upN_same, hd]
    · simp only [upN_ne _ _ e]
  refine ⟨⟨h.cx.to m (no (by decide)) a, h.cs.to m (no (by decide)) a, h.co.to m (no (by decide)) a, h.cv.to m (no (by decide)) a, by rw [pe, pe]; exact h.cd.to m (no (by decide)) a, h.ct.to m (no (by decide)) a, h.ck.to m (no (by decide)) a, h.cg.to m (no (by decide)) a, h.ch.to m (no (by decide)) a, w.pm, fun c hc => (h.ht c hc).mt m (by simp; omega) a, fun j hj p hp => sd_mt (h.sd j hj p hp) m (by simp; omega) a, fun c' hc' d2 hd2 => ?_⟩, m⟩
  by_cases e : c' = c
  · subst e; simp only [upN_same] at hd2; cases hd2; exact ⟨hat.to m.nx a, hs⟩
  · simp only [upN_ne _ _ e] at hd2
    exact dn_mt (h.dn c' hc' d2 hd2) m (by simp; omega) a
/-- a Drain has ended -/
theorem CrG.endD (h : CrG own G n x B) (hc : c < 2) (m : ModT [14, 16] own G G') {k' : Nat → Int} (od : G'.obj B.db = some ⟨[if 0 = c then .pointer none else pD B x 0, if 1 = c then .pointer none else pD B x 1], 1, false, 1⟩) (ok : G'.obj B.kb = some ⟨[.int .i64 (k' 0), .int .i64 (k' 1)], 1, false, 1⟩) : CrG own G' n { x with dn := upN x.dn c none, tk := k' } B := by
  have a := Agr.refl own G
  have nx := m.nx
  have pe : ∀ j, pD B { x with dn := upN x.dn c none, tk := k' } j = if j = c then .pointer none else pD B x j := fun j => by
    unfold pD; by_cases e : j = c <;> simp [upN, e]
  refine ⟨h.cx.to m (by decide) a, h.cs.to m (by decide) a, h.co.to m (by decide) a, h.cv.to m (by decide) a, ⟨Nat.lt_of_lt_of_le h.cd.lt nx, h.cd.tag, by rw [pe, pe]; exact od⟩, h.ct.to m (by decide) a, ⟨Nat.lt_of_lt_of_le h.ck.lt nx, h.ck.tag, ok⟩, h.cg.to m (by decide) a, h.ch.to m (by decide) a, h.hm.mt m (by decide) a, fun c hc => (h.ht c hc).mt m (by simp; omega) a, fun j hj p hp => sd_mt (h.sd j hj p hp) m (by simp; omega) a, fun c' hc' d hd => ?_⟩
  by_cases e : c' = c
  · subst e; simp only [upN_same] at hd; cases hd
  · simp only [upN_ne _ _ e] at hd
    exact dn_mt (h.dn c' hc' d hd) m (by simp; omega) a
end
end Go.Proofs.Ytfmkihikmlcimaa.Lift

