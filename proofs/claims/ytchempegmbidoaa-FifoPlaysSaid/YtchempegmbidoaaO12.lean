import Derived.Test.YtchempegmbidoaaO11
set_option linter.unusedVariables false
set_option linter.unusedSimpArgs false
namespace Go.Proofs.Ytchempegmbidoaa.Lift
open Go Go.Proofs.Ytchempegmbidoaa.Gh Go.Proofs
def encA (a : Int × Int) : List Value := [.int .i64 a.1, .int .i64 a.2]
def actsV (l : List (Int × Int)) : List Value := (l.map encA).flatten
theorem actsV_get : ∀ (l : List (Int × Int)) (i : Nat) (h : i < l.length), (actsV l)[i * 2]? = some (.int .i64 l[i].1) ∧ (actsV l)[i * 2 + 1]? = some (.int .i64 l[i].2)
  | a :: l, 0, h => by simp [actsV, encA]
  | a :: l, i + 1, h => by
    have := actsV_get l i (by simpa using h)
    have e : actsV (a :: l) = encA a ++ actsV l := by simp [actsV]
    rw [e, List.getElem?_append_right (by simp [encA]; omega), List.getElem?_append_right (by simp [encA]; omega)]
    simp only [encA, List.length_cons, List.length_nil]
    rw [show (i + 1) * 2 - (0 + 1 + 1) = i * 2 by omega, show (i + 1) * 2 + 1 - (0 + 1 + 1) = i * 2 + 1 by omega]
    simpa using this
end Go.Proofs.Ytchempegmbidoaa.Lift
namespace Go.Proofs.Ytchempegmbidoaa.Gh
open Go Go.Proofs
def SlNe (x : Nat) (v : Value) : Prop := ∀ a n c, v = .slice (some a) n c → a.block ≠ x
theorem SlIs.keepNe {G G' : GS} {sz n x : Nat} {v : Value} {cs : List Value} (h : SlIs G sz v n cs) (hx : SlNe x v) (hm : Mod [x] G G') : SlIs G' sz v n cs := by
  refine ⟨h.1, h.2.imp id ?_⟩
  rintro ⟨b, o, c, ob, h1, h2, h3, h4, h5, h6⟩
  exact ⟨b, o, c, ob, h1, h2, Nat.lt_of_lt_of_le h3 hm.nx, (hm.obj b h3 (by simpa using hx _ _ _ h1)).trans h4, h5, h6⟩
theorem SlLt.ne {s x : Nat} {v : Value} (h : SlLt s v) (hx : s ≤ x) : SlNe x v := fun a n c e => by have := h a n c e; omega
end Go.Proofs.Ytchempegmbidoaa.Gh
namespace Go.Proofs.Ytchempegmbidoaa.Lift
open Go Go.Proofs.Ytchempegmbidoaa.Gh Go.Proofs
theorem DrawsAt.keepNe {G G' : GS} {d s at_ x : Nat} {sl : Value} {L : List Int} (h : DrawsAt G d s sl L at_) (hd : x ≠ d) (hs : x ≠ s) (hl : SlNe x sl) (hm : Mod [x] G G') : DrawsAt G' d s sl L at_ :=
  have hsd := h.sd
  have hdn := h.dn
  ⟨(hm.obj d hdn (by simp; omega)).trans h.hd, (hm.obj s (by omega) (by simp; omega)).trans h.hs, h.hl.keepNe hl hm, h.lt, hsd, Nat.lt_of_lt_of_le hdn hm.nx, h.le, h.sh⟩
theorem RefAt.keepNe {G G' : GS} {w m x : Nat} {sl : Value} {L : List Int} (h : RefAt G w sl L m) (hw : x ≠ w) (hl : SlNe x sl) (hm : Mod [x] G G') : RefAt G' w sl L m :=
  ⟨(hm.obj w h.wn (by simp; omega)).trans h.hw, h.hl.keepNe hl hm, h.lt, Nat.lt_of_lt_of_le h.wn hm.nx, h.le, h.sh⟩
structure Two (G : GS) (A : List (Int × Int)) (v1 : Value) (d s : Nat) (sl : Value) (w : Nat) (slw : Value) (L : List Int) (m : Nat) : Prop where
  D : DrawsAt G d s sl L m
  R : RefAt G w slw L m
  S : SlIs G 2 v1 A.length (actsV A)
  sw : s ≠ w
  dw : d ≠ w
  slw' : SlNe w sl
  sls : SlNe s slw
  vs : SlNe s v1
  vw : SlNe w v1
theorem Two.ext {G G' : GS} {A : List (Int × Int)} {v1 : Value} {d s : Nat} {sl : Value} {w : Nat} {slw : Value} {L : List Int} {m : Nat} (h : Two G A v1 d s sl w slw L m) (he : Ext G G') : Two G' A v1 d s sl w slw L m :=
  ⟨h.D.ext he, h.R.ext he, h.S.ext he, h.sw, h.dw, h.slw', h.sls, h.vs, h.vw⟩
theorem acts_lp (orc : FuncId → Bool) (A : List (Int × Int)) (hA : A.length ≤ 60) (v1 : Value) (L : List Int) (w : Nat) (slw : Value) : ∀ (k i : Nat) (T : List Value) (G : GS) (d s : Nat) (sl : Value) (m : Nat), i + k = A.length → T.length = 130 → nth undef T 1 = v1 → nth undef T 6 = P1 d → nth undef T 8 = P1 w → nth undef T 10 = .int .i64 i →
    Two G A v1 d s sl w slw L m →
    Wp ((E orc).lp (subAt [1, 1, 1, 1, 1, 1, 1, 0, 1, 0, 0] (bodyOf Try.f4)) T G) fun r => r.1 = .exit 0 := by
  intro k
  induction k with
  | zero =>
    intro i T G d s sl m hi hT h1 h6 h8 h10 hI
    obtain ⟨a, c, ha⟩ := hI.S.len
    have hlt : ¬ (i : Int) < A.length := by omega
    refine Wp.up (l4_0 orc T G hT) ?_
    simp [b4_0, h1, h6, h8, h10, ha, hlt]
  | succ k ih =>
    intro i T G d s sl m hi hT h1 h6 h8 h10 hI
    have hlt : i < A.length := by omega
    have hlt' : (i : Int) < A.length := by omega
    have hi0 : (0 : Int) ≤ i := by omega
    have hw' : IntKind.wrap .i64 ((i : Int) + 1) = ((i + 1 : Nat) : Int) := wrap64 (by omega) (by omega)
    obtain ⟨b, o, c, e0, hb, hc⟩ := hI.S.at_ hlt
    have hsd := hI.D.sd
    have hdn := hI.D.dn
    have c0 : ∀ G', SlIs G' 2 v1 A.length (actsV A) → G'.cell b (o + i * 2) = some (.int .i64 A[i].1) ∧ G'.cell b (o + i * 2 + 1) = some (.int .i64 A[i].2) := by
      intro G' h
      obtain ⟨b', o', c', e0', _, hc'⟩ := h.at_ hlt
      rw [e0] at e0'
      simp only [Value.slice.injEq, Option.some.injEq, Addr.mk.injEq, and_true, true_and] at e0'
      obtain ⟨⟨rfl, rfl⟩, rfl⟩ := e0'
      exact ⟨(hc' 0 (by omega)).trans (actsV_get A i hlt).1, (hc' 1 (by omega)).trans (actsV_get A i hlt).2⟩
    have g0 := (c0 G hI.S).1
    have g1 := (c0 G hI.S).2
    -- what is asked behind each act
    have go : ∀ (T' : List Value) (G' : GS) (d' s' : Nat) (sl' : Value) (m' : Nat), T'.length = 130 → nth undef T' 1 = v1 → nth undef T' 6 = P1 d' → nth undef T' 8 = P1 w → nth undef T' 10 = .int .i64 (i + 1 : Nat) → Two G' A v1 d' s' sl' w slw L m' →
        Wp ((E orc).lp (subAt [1, 1, 1, 1, 1, 1, 1, 0, 1, 0, 0] (bodyOf Try.f4)) T' ((G'.room 17).room 11)) fun r => r.1 = .exit 0 := by
      intro T' G' d' s' sl' m' q1 q2 q3 q4 q5 q6
      exact ih (i + 1) T' _ d' s' sl' m' (by omega) q1 q2 q3 q4 q5 (q6.ext (((Ext.refl G').room 17).room 11))
    refine Wp.up (l4_0 orc T G hT) ?_
    simp only [b4_0, h1, h6, h8, h10, e0]
    simp only [neq_35_sn, bP_some, gd_true, bS_some, ln_30, bin_lss, decide_eq_true hlt', pickV_bool, if_true, ifV_true, ia_30, hi0, hlt', and_self, Int.toNat_natCast, fa_39_0, fa_39_1, ld_3, Nat.add_zero, g0, bin_eql]
    by_cases k0 : A[i].1 = 0
    · obtain ⟨G1, e1, m1, D1⟩ := next_ok orc hI.D
      have R1 := hI.R.keepNe hI.sw hI.sls m1
      have S1 := hI.S.keepNe hI.vs m1
      obtain ⟨G2, e2, m2, R2⟩ := rnext_ok orc R1
      have I2 : Two G2 A v1 d s sl w slw L (min (m + 1) L.length) := ⟨D1.keepNe (Ne.symm hI.dw) (Ne.symm hI.sw) hI.slw' m2, R2, S1.keepNe hI.vw m2, hI.sw, hI.dw, hI.slw', hI.sls, hI.vs, hI.vw⟩
      have l1 := left_ok orc I2.D
      have l2 := rleft_ok orc (I2.R.ext ((Ext.refl G2).room 17))
      simp only [k0, decide_true, ifV_true, e1, e2, bS_some, bin_eql, bP_some, un_not, Bool.not_true, gd_true, eql_31_sn, pickV_bool, Bool.false_eq_true, if_false, l1, l2, bin_neq, ifV_false, bin_add, hw']
      exact go _ G2 d s sl _ rfl e0.symm rfl rfl rfl I2
    by_cases k1 : A[i].1 = 1
    · have e17 : Ext G (G.room 17) := (Ext.refl G).room 17
      obtain ⟨G1, e1, m1, D1⟩ := prog_height orc (hI.D.ext e17) A[i].2
      have R1 := (hI.R.ext e17).keepNe hI.sw hI.sls m1
      have S1 := (hI.S.ext e17).keepNe hI.vs m1
      obtain ⟨G2, e2, m2, R2⟩ := rnext_ok orc R1
      have I2 : Two G2 A v1 d s sl w slw L (min (m + 1) L.length) := ⟨D1.keepNe (Ne.symm hI.dw) (Ne.symm hI.sw) hI.slw' m2, R2, S1.keepNe hI.vw m2, hI.sw, hI.dw, hI.slw', hI.sls, hI.vs, hI.vw⟩
      have l1 := left_ok orc I2.D
      have l2 := rleft_ok orc (I2.R.ext ((Ext.refl G2).room 17))
      simp only [k1, decide_true, decide_false, show (1 : Int) = 0 ↔ False by decide, ifV_true, ifV_false, cell_room, g1, e1, e2, bS_some, bP_some, (c0 G1 S1).2, (c0 G2 I2.S).2, sameO_int, Bool.and_self, chk_true, refHeight, bin_eql, un_not, Bool.not_true, gd_true, eql_31_sn, pickV_bool, Bool.false_eq_true, if_false, l1, l2, bin_neq, bin_add, hw']
      exact go _ G2 d s sl _ rfl e0.symm rfl rfl rfl I2
    by_cases k2 : A[i].1 = 2
    · have e16 : Ext G (G.room 16) := (Ext.refl G).room 16
      obtain ⟨G1, n1, e1, m1, D1, hn1⟩ := skip_ok orc (hI.D.ext e16) A[i].2
      have R1 := (hI.R.ext e16).keepNe hI.sw hI.sls m1
      have S1 := (hI.S.ext e16).keepNe hI.vs m1
      obtain ⟨G2, n2, e2, m2, R2, hn2⟩ := rskip_ok orc R1 A[i].2
      have hnn : n2 = n1 := by omega
      subst hnn
      have I2 : Two G2 A v1 d s sl w slw L (m + n2) := ⟨D1.keepNe (Ne.symm hI.dw) (Ne.symm hI.sw) hI.slw' m2, R2, S1.keepNe hI.vw m2, hI.sw, hI.dw, hI.slw', hI.sls, hI.vs, hI.vw⟩
      have l1 := left_ok orc I2.D
      have l2 := rleft_ok orc (I2.R.ext ((Ext.refl G2).room 17))
      simp only [k2, decide_true, decide_false, show (2 : Int) = 0 ↔ False by decide, show (2 : Int) = 1 ↔ False by decide, ifV_true, ifV_false, cell_room, g1, e1, e2, bS_some, bP_some, (c0 G1 S1).2, sameO_int, Bool.and_self, chk_true, bin_eql, un_not, Bool.not_true, gd_true, eql_31_sn, pickV_bool, Bool.false_eq_true, if_false, l1, l2, bin_neq, bin_add, hw']
      exact go _ G2 d s sl _ rfl e0.symm rfl rfl rfl I2
    by_cases k3 : A[i].1 = 3
    · obtain ⟨d', s', G1, e1, x1, D1, hs'⟩ := copy_ok orc hI.D
      obtain ⟨G2, e2, m2, _⟩ := next_ok orc (hI.D.ext x1)
      have hsd' := D1.sd
      have hwn := hI.R.wn
      have I2 : Two G2 A v1 d' s' sl w slw L m := ⟨D1.keepNe (by omega) (by omega) (hI.D.lt.ne (Nat.le_refl _)) m2, (hI.R.ext x1).keepNe hI.sw hI.sls m2, (hI.S.ext x1).keepNe hI.vs m2, by omega, by omega, hI.slw', hI.R.lt.ne (by omega), hI.S.lt.ne hs', hI.vw⟩
      have l1 := left_ok orc I2.D
      have l2 := rleft_ok orc (I2.R.ext ((Ext.refl G2).room 17))
      simp only [k3, decide_true, decide_false, show (3 : Int) = 0 ↔ False by decide, show (3 : Int) = 1 ↔ False by decide, show (3 : Int) = 2 ↔ False by decide, ifV_true, ifV_false, e1, e2, bS_some, bP_some, un_not, Bool.not_true, gd_true, eql_31_sn, pickV_bool, Bool.false_eq_true, if_false, l1, l2, bin_neq, bin_add, hw']
      exact go _ G2 d' s' sl _ rfl e0.symm rfl rfl rfl I2
    · have l1 := left_ok orc hI.D
      have l2 := rleft_ok orc (hI.R.ext ((Ext.refl G).room 17))
      simp only [k0, k1, k2, k3, decide_true, decide_false, ifV_true, ifV_false, bS_some, bP_some, un_not, Bool.not_true, gd_true, eql_31_sn, pickV_bool, Bool.false_eq_true, if_false, l1, l2, bin_neq, bin_add, hw']
      exact go _ G d s sl _ rfl e0.symm rfl rfl rfl hI
end Go.Proofs.Ytchempegmbidoaa.Lift
