import Derived.Test.YtglafaecdpilgaaW8
set_option linter.unusedVariables false
set_option linter.unusedSimpArgs false
set_option maxRecDepth 20000
namespace Go.Proofs.Ytglafaecdpilgaa.Lift
open Go Go.Proofs.Ytglafaecdpilgaa.Gh Go.Proofs
abbrev Act := Int × Int × Int
/-- both frames, and some other blocks, apart -/
structure Both (V : Nat → Prop) (G : GS) (p r : Nat) (S : List Slt) (D : List Deed) (N : Int) (S2 : List Slt) (D2 : List Deed) (N2 : Int) : Prop where
  un : Under V G
  ex : ∃ A B, PFx A G p S D N ∧ RFx B G r S2 D2 N2 ∧ Apart A B ∧ Apart A V ∧ Apart B V
theorem PFx.un {A : Nat → Prop} {G : GS} {p : Nat} {S : List Slt} {D : List Deed} {N : Int} (h : PFx A G p S D N) : Under A G := let ⟨_, _, _, h⟩ := h; h.un
theorem RFx.un {A : Nat → Prop} {G : GS} {p : Nat} {S : List Slt} {D : List Deed} {N : Int} (h : RFx A G p S D N) : Under A G := let ⟨_, _, h⟩ := h; h.un
theorem PFx.kept {A : Nat → Prop} {G G' : GS} {p : Nat} {S : List Slt} {D : List Deed} {N : Int} (h : PFx A G p S D N) (hn : G.nx ≤ G'.nx) (hk : ∀ g, A g → G'.obj g = G.obj g) : PFx A G' p S D N := let ⟨_, _, _, h⟩ := h; ⟨_, _, _, h.kept hn hk⟩
theorem RFx.kept {A : Nat → Prop} {G G' : GS} {p : Nat} {S : List Slt} {D : List Deed} {N : Int} (h : RFx A G p S D N) (hn : G.nx ≤ G'.nx) (hk : ∀ g, A g → G'.obj g = G.obj g) : RFx A G' p S D N := let ⟨_, _, h⟩ := h; ⟨_, _, h.kept hn hk⟩
section
variable {V : Nat → Prop} {G G' : GS} {p r : Nat} {S S2 : List Slt} {D D2 : List Deed} {N N2 : Int}
theorem Both.ext (h : Both V G p r S D N S2 D2 N2) (x : Ext G G') : Both V G' p r S D N S2 D2 N2 := by
  obtain ⟨hu, A, B, h1, h2, h3, h4, h5⟩ := h
  exact ⟨hu.le x.nx, A, B, h1.kept x.nx fun g hg => x.obj g (h1.un g hg), h2.kept x.nx fun g hg => x.obj g (h2.un g hg), h3, h4, h5⟩
theorem Both.also (h : Both V G p r S D N S2 D2 N2) {W : Nat → Prop} (x : Ext G G') (hw : ∀ g, W g → V g ∨ (G.nx ≤ g ∧ g < G'.nx)) : Both W G' p r S D N S2 D2 N2 := by
  obtain ⟨hu, A, B, h1, h2, h3, h4, h5⟩ := h
  refine ⟨fun g hg => ?_, A, B, h1.kept x.nx fun g hg => x.obj g (h1.un g hg), h2.kept x.nx fun g hg => x.obj g (h2.un g hg), h3, fun g ha hg => ?_, fun g ha hg => ?_⟩
  · rcases hw g hg with h | h
    · exact Nat.lt_of_lt_of_le (hu g h) x.nx
    · exact h.2
  · rcases hw g hg with h | h
    · exact h4 g ha h
    · have := h1.un g ha; omega
  · rcases hw g hg with h | h
    · exact h5 g ha h
    · have := h2.un g ha; omega
theorem Both.opP {Qe : Value → Prop} {S' : List Slt} {D' : List Deed} {N' : Int} {x : Option (Value × GS)} (h : Both V G p r S D N S2 D2 N2) (hop : ∀ A, PFx A G p S D N → Wp x fun q => Qe q.1 ∧ ModP A G q.2 ∧ PFx (Grow A G q.2) q.2 p S' D' N') :
    Wp x fun q => Qe q.1 ∧ Both V q.2 p r S' D' N' S2 D2 N2 ∧ G.nx ≤ q.2.nx ∧ ∀ g, V g → q.2.obj g = G.obj g := by
  obtain ⟨hu, A, B, h1, h2, h3, h4, h5⟩ := h
  refine (hop A h1).mono ?_
  rintro ⟨v, G'⟩ ⟨q1, q2, q3⟩
  exact ⟨q1, ⟨hu.le q2.nx, Grow A G G', B, q3, h2.kept q2.nx (q2.kept h2.un h3), h3.grow h2.un, h4.grow hu, h5⟩, q2.nx, q2.kept hu h4⟩
theorem Both.opR {Qe : Value → Prop} {S' : List Slt} {D' : List Deed} {N' : Int} {x : Option (Value × GS)} (h : Both V G p r S D N S2 D2 N2) (hop : ∀ A, RFx A G r S2 D2 N2 → Wp x fun q => Qe q.1 ∧ ModP A G q.2 ∧ RFx (Grow A G q.2) q.2 r S' D' N') :
    Wp x fun q => Qe q.1 ∧ Both V q.2 p r S D N S' D' N' ∧ G.nx ≤ q.2.nx ∧ ∀ g, V g → q.2.obj g = G.obj g := by
  obtain ⟨hu, A, B, h1, h2, h3, h4, h5⟩ := h
  refine (hop B h2).mono ?_
  rintro ⟨v, G'⟩ ⟨q1, q2, q3⟩
  exact ⟨q1, ⟨hu.le q2.nx, A, Grow B G G', h1.kept q2.nx (q2.kept h1.un h3.symm), q3, (h3.symm.grow h1.un).symm, h4, h5.grow hu⟩, q2.nx, q2.kept hu h5⟩
theorem Both.pP (h : Both V G p r S D N S2 D2 N2) : ∃ A sl bs dv, PFr A G p sl bs dv S D N := let ⟨_, A, _, ⟨sl, bs, dv, h1⟩, _⟩ := h; ⟨A, sl, bs, dv, h1⟩
theorem Both.pR (h : Both V G p r S D N S2 D2 N2) : ∃ A lv dv, RFr A G r lv dv S2 D2 N2 := let ⟨_, _, B, _, ⟨lv, dv, h1⟩, _⟩ := h; ⟨B, lv, dv, h1⟩
end
/-- all is told alike -/
theorem tell_ok (orc : FuncId → Bool) {V : Nat → Prop} {G : GS} {p r ab : Nat} {S : List Slt} {D : List Deed} {N k c w : Int} {v1 : Value} {i : Int} (h : Both V G p r S D N S D N) (hS : S.length < 2 ^ 36) (hD : D.length < 2 ^ 36) (hi : IntKind.wrap .i64 (i + 1) = i + 1)
    (hab : V ab) (ho : G.obj ab = some ⟨[.int .i64 k, .int .i64 c, .int .i64 w], 1, false, 1⟩) {τ : Env} (t1 : τ 1 = v1) (t5 : τ 5 = P0 p) (t7 : τ 7 = P0 r) (t9 : τ 9 = .int .i64 i) (t10 : τ 10 = P0 ab) (t11 : τ 11 = .bool true)
    {lp : Env → GS → Option (Exit × Env × GS)} {R : Exit × Env × GS → Prop} (hlp : ∀ τ' G', Ext G G' → τ' 1 = v1 → τ' 5 = P0 p → τ' 7 = P0 r → τ' 9 = .int .i64 (i + 1) → Wp (lp τ' G') R) :
    Wp (jl9_0_0 true (exL Q orc) lp τ G) R := by
  have hun := h.un ab hab
  obtain ⟨A, sl, bs, dp, hp⟩ := h.pP
  obtain ⟨B, lv, dr, hr⟩ := h.pR
  have e40 := what_ok orc hp c
  obtain ⟨G1, e41, x1⟩ := of_ok orc hr hS c
  obtain ⟨v28, G2, e42, x2, r2⟩ := busy_ok orc (hp.kept x1.nx fun g hg => x1.obj g (hp.un g hg)) hS
  have y2 := x1.trans x2
  obtain ⟨v30, G3, e43, x3, r3⟩ := deeds_ok orc (hp.kept y2.nx fun g hg => y2.obj g (hp.un g hg)) hD
  have y3 := y2.trans x3
  have y3r := y3.room 56
  have hp3 := hp.kept y3r.nx fun g hg => y3r.obj g (hp.un g hg)
  have e44 := steps_ok orc hp3 c
  obtain ⟨v52, G5, e46, x5, r5⟩ := rbusy_ok orc (hr.kept y3r.nx fun g hg => y3r.obj g (hr.un g hg)) hS
  have y5 := y3r.trans x5
  have z23 : Ext G2 G5 := (x3.room 56).trans x5
  have z35 : Ext G3 G5 := ((Ext.refl G3).room 56).trans x5
  have hbl : (busyF 0 S).length < 2 ^ 40 := by have := lof_length S 0; simp [busyF]; omega
  obtain ⟨G6, e45, x6⟩ := same45 orc (r2.is.ext z23) r5.is (by omega)
  have y6 := y5.trans x6
  obtain ⟨G7, e47, x7⟩ := turn_ok orc (hp.kept y6.nx fun g hg => y6.obj g (hp.un g hg)) hS w
  have y7 := y6.trans x7
  obtain ⟨G8, e48, x8⟩ := rturn_ok orc (hr.kept y7.nx fun g hg => y7.obj g (hr.un g hg)) hS w
  have y8 := y7.trans x8
  have e49 := all_ok orc (hp.kept y8.nx fun g hg => y8.obj g (hp.un g hg))
  have z38 : Ext G3 G8 := ((z35.trans x6).trans x7).trans x8
  obtain ⟨G9, e50, x9⟩ := same50 orc (r3.is.ext z38) (hr.hd.is.ext y8) (by omega)
  have z29 : Ext G2 G9 := (((z23.trans x6).trans x7).trans x8).trans x9
  have z39 := z38.trans x9
  obtain ⟨G10, e51, m10⟩ := over51 orc (r2.ext z29) (by omega)
  have hv30 : OwR rDeed G2.nx G10 v30 D := (r3.ext z39).kept m10.nx fun g hg => by
    have h1 := r3.from hg
    have h2 := r3.is.under g hg
    refine m10.obj g (Nat.lt_of_lt_of_le h2 z39.nx) fun hb => ?_
    have := r2.is.under g hb
    omega
  obtain ⟨G11, e52, m11⟩ := over52 orc hv30 (by omega)
  have y9 := y8.trans x9
  have y11 : Ext G G11 := ModP.tail (ModP.tail y9 m10 fun g hg => Nat.le_trans x1.nx (r2.from hg)) m11 fun g hg => Nat.le_trans y2.nx (r3.from hg)
  have ca : ∀ {G1 : GS}, Ext G G1 → ∀ o, G1.cell ab o = [Value.int .i64 k, .int .i64 c, .int .i64 w][o]? := fun x o => by simp [cell_eq, x.obj ab hun, ho]
  have cr : ∀ {G1 : GS}, Ext G G1 → ∀ o, G1.cell r o = [Value.int .i64 S.length, lv, dr, .int .i64 N][o]? := fun x o => by simp [cell_eq, x.obj r (hr.un _ hr.ar), hr.hr]
  have ca0 := ca (Ext.refl G)
  have ca1 := ca x1
  have ca3 := ca y3
  have ca5 := ca y5
  have ca6 := ca y6
  have ca7 := ca y7
  have cr7 := cr y7
  have cr8 := cr y8
  simp [jl9_0_0, jbl9_0_0, clip_t, t1, t5, t7, t9, t10, t11, ca0, ca1, ca3, ca6, ca7, cr7, cr8, e40, e41, e42, e43, e44, e46, e45, e47, e48, e49, e50, e51, e52, hi]
  exact hlp _ _ y11 (by simp [clip_t]) (by simp [clip_t]) (by simp [clip_t]) (by simp [clip_t])
end Go.Proofs.Ytglafaecdpilgaa.Lift
