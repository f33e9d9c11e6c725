/- contracts of the program's functions -/
import Derived.Test.YtfmkihikmlcimaaKG
set_option linter.unusedVariables false
set_option linter.unusedSimpArgs false
set_option maxRecDepth 20000
namespace Go.Proofs.Ytfmkihikmlcimaa.Lift
open Go Go.Proofs.Ytfmkihikmlcimaa.Gh Go.Proofs
theorem ext_drawn {A G : GS} (h : Ext A G) {n : Nat} (hn : A.nx ≤ n) (o : GObj) : Ext A (((G.at' n).push o).back G) := ((h.modP fun _ => False).drawn hn o).ext
set_option maxHeartbeats 2000000 in
theorem begun_in (orc : FuncId → Bool) (hto : orc 60 = false) {n : Nat} {lim : Int} (h1 : 1 ≤ n ∧ n ≤ 8) (hl : 1 ≤ lim ∧ lim ≤ 4) (G : GS) : ∃ own' B G', (E orc).cl 6 [.int .i64 n, .int .i64 lim] G = some (P0 B.xb, G') ∧ Ext G G' ∧ CrG own' G' n lim (CA.init n lim) B ∧ ∀ g, g < G.nx → own' g = 20 := by
  have w : Wp ((E orc).cl 6 [.int .i64 n, .int .i64 lim] G) fun q => ∃ B own', q.1 = P0 B.xb ∧ Ext G q.2 ∧ CrG own' q.2 n lim (CA.init n lim) B ∧ ∀ g, g < G.nx → own' g = 20 := by
    refine Wp.ref (f6 (exL_ok Q orc) _ _ G) ?_
    have hz33 : z33 = [.int .i64 0, .int .i64 0, .int .i64 0, .int .i64 0, .int .i64 0, .int .i64 0] := rfl
    obtain ⟨G3, hG3⟩ : ∃ G3, G3 = (G.push ⟨z33, 1, false, 1⟩).put G.nx ⟨(arN n lim).cells, 1, false, 1⟩ := ⟨_, rfl⟩
    have x3 : Ext G G3 := by rw [hG3]; exact ((Ext.refl G).push _).put (Nat.le_refl _) _
    have n3 : G3.nx = G.nx + 1 := by rw [hG3]; rfl
    have o3 : G3.obj G.nx = some ⟨(arN n lim).cells, 1, false, 1⟩ := by rw [hG3]; simp
    obtain ⟨m, G6, e6, x6, hm6⟩ := (new_ok orc (2 + 2 * (n : Int)) G3).2 (by omega) (by omega)
    have n6 := x6.nx
    have o6 := (x6.obj G.nx (by omega)).trans o3
    obtain ⟨own0, hown0⟩ : ∃ own0 : Nat → Nat, own0 = fun g => if g < G.nx then 20 else if g < G3.nx then 13 else 10 := ⟨_, rfl⟩
    have p6 : PM own0 G6 m (MS.zero (2 + 2 * (n : Int)).toNat) := PMx.mono hm6 (fun g hg => ⟨hg.2, by have := hg.1; rw [hown0]; simp only; rw [if_neg (by omega), if_neg (by omega)]⟩) Tag.under
    obtain ⟨own1, G17, e17, w17⟩ := afill_ok orc hto (arN_ok (n := n) (by omega) hl) p6
    have n17 := w17.nx
    have tG : own0 G.nx = 13 := by rw [hown0]; simp only; rw [if_neg (by omega), if_pos (by omega)]
    have o17 := (w17.keep (g := G.nx) (by omega) (by rw [tG]; decide) id).trans o6
    obtain ⟨R, hR⟩ : ∃ R, R = G17.room 9 := ⟨_, rfl⟩
    have nR : R.nx = G17.nx + 9 := by rw [hR]; rfl
    obtain ⟨G20, hG20⟩ : ∃ G20, G20 = ((R.at' (G17.nx + 2)).push ⟨[.pointer none, .pointer none, .pointer none], 1, false, 1⟩).back R := ⟨_, rfl⟩
    obtain ⟨G22, hG22⟩ : ∃ G22, G22 = ((G20.at' (G17.nx + 3)).push ⟨[.pointer none, .pointer none, .pointer none], 1, false, 1⟩).back G20 := ⟨_, rfl⟩
    obtain ⟨G24, hG24⟩ : ∃ G24, G24 = ((G22.at' (G17.nx + 4)).push ⟨[.int .u64 0, .int .u64 0, .int .u64 0], 1, false, 1⟩).back G22 := ⟨_, rfl⟩
    obtain ⟨G26, hG26⟩ : ∃ G26, G26 = ((G24.at' (G17.nx + 5)).push ⟨[.int .i64 (-1), .int .i64 (-1), .int .i64 (-1)], 1, false, 1⟩).back G24 := ⟨_, rfl⟩
    obtain ⟨B, hB⟩ : ∃ B : CrB, B = ⟨m, G17.nx + 7, G17.nx + 2, G17.nx + 3, G17.nx + 4, G17.nx + 5, .slice none 0 0, .slice none 0 0, fun _ => 0, fun _ => 0⟩ := ⟨_, rfl⟩
    obtain ⟨G29, hG29⟩ : ∃ G29, G29 = ((G26.at' (G17.nx + 7)).push ⟨crX n lim (CA.init n lim) B, 1, false, 1⟩).back G26 := ⟨_, rfl⟩
    have n20 : G20.nx = R.nx := by rw [hG20]; rfl
    have n22 : G22.nx = R.nx := by rw [hG22, ← n20]; rfl
    have n24 : G24.nx = R.nx := by rw [hG24, ← n22]; rfl
    have n26 : G26.nx = R.nx := by rw [hG26, ← n24]; rfl
    have n29 : G29.nx = R.nx := by rw [hG29, ← n26]; rfl
    have x29 : Ext G17 G29 := by
      rw [hG29, hG26, hG24, hG22, hG20, hR]
      exact ext_drawn (ext_drawn (ext_drawn (ext_drawn (ext_drawn ((Ext.refl _).room 9) (by omega) _) (by omega) _) (by omega) _) (by omega) _) (by omega) _
    have xb : G29.obj (G17.nx + 7) = some ⟨crX n lim (CA.init n lim) B, 1, false, 1⟩ := by rw [hG29]; simp
    have ob : G29.obj (G17.nx + 5) = some ⟨[.int .i64 (-1), .int .i64 (-1), .int .i64 (-1)], 1, false, 1⟩ := by rw [hG29, hG26]; simp
    have kb : G29.obj (G17.nx + 4) = some ⟨[.int .u64 0, .int .u64 0, .int .u64 0], 1, false, 1⟩ := by rw [hG29, hG26, hG24]; simp
    have fb : G29.obj (G17.nx + 3) = some ⟨[.pointer none, .pointer none, .pointer none], 1, false, 1⟩ := by rw [hG29, hG26, hG24, hG22]; simp
    have ab : G29.obj (G17.nx + 2) = some ⟨[.pointer none, .pointer none, .pointer none], 1, false, 1⟩ := by rw [hG29, hG26, hG24, hG22, hG20]; simp
    obtain ⟨own2, hown⟩ : ∃ own2 : Nat → Nat, own2 = fun g => if g < G17.nx then own1 g else if g = G17.nx + 7 then 1 else if g = G17.nx + 2 then 2 else if g = G17.nx + 3 then 14 else if g = G17.nx + 4 then 15 else if g = G17.nx + 5 then 16 else 13 := ⟨_, rfl⟩
    have tg : ∀ i, i < 9 → own2 (G17.nx + i) = if i = 7 then 1 else if i = 2 then 2 else if i = 3 then 14 else if i = 4 then 15 else if i = 5 then 16 else 13 := fun i hi => by
      rw [hown]; simp only
      rw [if_neg (by omega)]
      simp
    have hm29 : PM own2 G29 m (CA.init n lim).s := PMx.mono (PMx.ext w17.pm x29) (fun g hg => ⟨Nat.lt_of_lt_of_le hg.1 x29.nx, by rw [hown]; simp only; rw [if_pos hg.1]; exact hg.2⟩) Tag.under
    have mG : Ext G G17 := ModP.tail (x3.trans x6) w17.stp.mod fun g hg => by
      rcases hg with hg | hg
      · rw [hown0] at hg
        simp only at hg
        by_cases k : g < G.nx
        · rw [if_pos k] at hg; cases hg
        · omega
      · exact hg.elim
    have hCr : CrG own2 G29 n lim (CA.init n lim) B := by
      have tx := tg 7 (by omega)
      have tp := tg 2 (by omega)
      have tv := tg 3 (by omega)
      have th := tg 4 (by omega)
      have to := tg 5 (by omega)
      simp at tx tp tv th to
      have nb : ∀ g, ¬ InB (.slice none 0 0) g := fun g ⟨a, n', c', h, _⟩ => by cases h
      rw [hB] at xb ⊢
      exact ⟨⟨by show G17.nx + 7 < _; omega, tx, xb⟩, ⟨by show G17.nx + 2 < _; omega, tp, ab⟩, ⟨by show G17.nx + 3 < _; omega, tv, fb⟩, ⟨by show G17.nx + 4 < _; omega, th, kb⟩, ⟨by show G17.nx + 5 < _; omega, to, ob⟩, hm29, OwR.nil _ _, fun g hg => absurd hg (nb g), OwR.nil _ _, fun g hg => absurd hg (nb g), fun c _ => trivial⟩
    refine Wp.mono (Q := fun q => q = (P0 B.xb, G29)) ?_ (fun q hq => by
      subst hq
      exact ⟨B, own2, rfl, mG.trans x29, hCr, fun g hg => by
        rw [hown]; simp only; rw [if_pos (by have := mG.nx; omega), w17.stp.agr g (by omega), hown0]; simp only; rw [if_pos hg]⟩)
    have hz : z39 = [.int .i64 0, .int .i64 0, .int .i64 0, .int .i64 0, .int .i64 0, .int .i64 0, .pointer none, .slice none 0 0, .slice none 0 0, .slice none 0 0, .slice none 0 0, .slice none 0 0, .slice none 0 0, .int .i64 0] := rfl
    have hz31 : z31 = [.int .i64 0, .int .i64 0, .int .i64 0] := rfl
    have hr : (arN n lim).cells = [.int .i64 0, .int .i64 1, .int .i64 n, .int .i64 (1 + n), .int .i64 (1 + 2 * n), .int .i64 lim] := rfl
    have hv : (arN n lim).v = .agg ⟨[.int .i64 0, .int .i64 1, .int .i64 n, .int .i64 (1 + n), .int .i64 (1 + 2 * n), .int .i64 lim]⟩ := rfl
    have hBx : B.xb = G17.nx + 7 := by rw [hB]
    have hcr : crX n lim (CA.init n lim) B = [.int .i64 0, .int .i64 1, .int .i64 n, .int .i64 (1 + n), .int .i64 (1 + 2 * n), .int .i64 lim, P0 m, .slice (some ⟨G17.nx + 2, 0, none⟩) 3 3, .slice (some ⟨G17.nx + 3, 0, none⟩) 3 3, .slice none 0 0, .slice (some ⟨G17.nx + 4, 0, none⟩) 3 3, .slice none 0 0, .slice (some ⟨G17.nx + 5, 0, none⟩) 3 3, .int .i64 0] := by rw [hB]; rfl
    rw [hcr] at hG29
    rw [hr] at o3 o6 o17 hG3
    rw [hv] at e17
    rw [hz33] at hG3
    clear hCr
    have w1 : IntKind.wrap .i64 (1 + (n : Int)) = 1 + (n : Int) := wrap64 (by omega) (by omega)
    have w2 : IntKind.wrap .i64 (2 * (n : Int)) = 2 * (n : Int) := wrap64 (by omega) (by omega)
    have w3 : IntKind.wrap .i64 (1 + 2 * (n : Int)) = 1 + 2 * (n : Int) := wrap64 (by omega) (by omega)
    have w4 : IntKind.wrap .i64 (2 + 2 * (n : Int)) = 2 + 2 * (n : Int) := wrap64 (by omega) (by omega)
    have mk3 : ∀ (z : Value) (G : GS), mkK 1 8 [z] 3 3 G = some (.slice (some ⟨G.nx, 0, none⟩) 3 3, G.push ⟨[z, z, z], 1, false, 1⟩) := by
      intro z G
      unfold mkK
      rw [if_pos (by decide)]
      rfl
    have hr3 : rep [Value.int .i64 0] 3 = [.int .i64 0, .int .i64 0, .int .i64 0] := rfl
    have hzs : z28 = [.int .u64 0] := rfl
    have hzi : z3 = [.int .i64 0] := rfl
    have hza : z113 = [.pointer none] := rfl
    have hzf : z67 = [.pointer none] := rfl
    simp [-Int.natCast_add, s6, hz, hz33, hz31, hzs, hzi, hza, hzf, ← hG3, w1, w2, w3, w4, e6, o3, o6, e17, o17, mk3, hr3, ← hR, ← hG20]
    simp [← hG22]
    simp [← hG24]
    simp [← hG26]
    have oR : R.obj G.nx = some ⟨[.int .i64 0, .int .i64 1, .int .i64 n, .int .i64 (1 + n), .int .i64 (1 + 2 * n), .int .i64 lim], 1, false, 1⟩ := by rw [hR]; simpa using o17
    simp [hBx, hG29, oR]
  obtain ⟨⟨v, G'⟩, e, B, own', rfl, h1, h2, h3⟩ := w
  exact ⟨own', B, G', e, h1, h2, h3⟩
end Go.Proofs.Ytfmkihikmlcimaa.Lift

set_option linter.unusedVariables false
set_option linter.unusedSimpArgs false
set_option maxRecDepth 20000
namespace Go.Proofs.Ytfmkihikmlcimaa.Lift
open Go Go.Proofs.Ytfmkihikmlcimaa.Gh Go.Proofs
section
variable {own own' own1 : Nat → Nat} {G G' G1 G2 G3 : GS} {b d t c K : Nat} {n lim T : Int} {F : List Int} {ts : List Nat} {cs : List Value} {x y : CA} {B B' : CrB} {v : Value} {A : Ar} {y0 : CoS} {s' : MS}
theorem count_lp (orc : FuncId → Bool) (hto : orc 60 = false) {A : GS} {xb : Nat} {cl : List Value} {wv : Value} {s : MS} (hxb : xb < A.nx) (ox : A.obj xb = some ⟨cl, 1, false, 1⟩) (h1 : cl[1]? = some (.int .i64 1)) (h2 : cl[2]? = some (.int .i64 n)) (hn : 1 ≤ n ∧ n ≤ 8) (hs : s.ok) (hlen : (s.W.length : Int) = 2 + 2 * n) (hw : SlR (rowsI .u64) A wv s.W) :
    ∀ (F : List Int) (j : Nat) (τ : Env) (G : GS), Chain s.at' F → (∀ a ∈ F, 0 ≤ a ∧ a < n) → ((j + F.length : Nat) : Int) ≤ n → Ext A G → τ 0 = P0 xb → τ 3 = wv → τ 6 = .int .i64 (j : Int) → τ 7 = .int .i64 (hd F) →
    Wp ((exL Q orc).lpx 10 0 τ G) fun q => q.1 = .exit 0 ∧ Ext A q.2.2 ∧ q.2.1 6 = .int .i64 ((j + F.length : Nat) : Int) := by
  intro F
  induction F with
  | nil =>
    intro j τ G hch hr hj hx t0 t3 t6 t7
    have o := (hx.obj xb hxb).trans ox
    refine Wp.lp (l10_0 (exL_ok Q orc)) ?_
    simp [hd] at t7
    simp [b10_0, clip_t, t0, t3, t6, t7]
    exact hx
  | cons a F ih =>
    intro j τ G hch hr hj hx t0 t3 t6 t7
    have o := (hx.obj xb hxb).trans ox
    obtain ⟨ha0, han⟩ := hr a (List.mem_cons_self ..)
    simp only [hd] at t7
    simp only [List.length_cons] at hj
    have hle : (j : Int) ≤ n := by omega
    have hj1 : IntKind.wrap .i64 ((j : Int) + 1) = ((j + 1 : Nat) : Int) := wrap64 (by omega) (by omega)
    have ha1 : IntKind.wrap .i64 (1 + a) = 1 + a := wrap64 (by omega) (by omega)
    have hin : (0 : Int) ≤ 1 + a ∧ 1 + a < s.W.length := by omega
    have hin1 : (1 : Int) + a < s.W.length := hin.2
    have hlt : (1 + a).toNat < s.W.length := by omega
    obtain ⟨b, of, c, e0, _, q0, _⟩ := (hw.ext hx).at hlt
    have hc := q0 0 (by decide)
    have hW : s.W[(1 + a).toNat] = hd F + 1 := by
      have := hch.1
      rw [MS.at_in _ hin, List.getElem?_eq_getElem hlt] at this
      simpa using this
    simp [rowsI, hW] at hc
    have hhd := hd_rg (n := n) (F := F) (fun a ha => hr a (List.mem_cons_of_mem _ (List.one_le_count_iff.1 ha))) hn.1
    obtain ⟨G2, e2, x2⟩ := gettop_ok orc hto (w := hd F + 1) ⟨by omega, by omega⟩ G
    have hm : (hd F + 1) % 65536 - 1 = hd F := by omega
    rw [hm] at e2
    have hz : z85 = [.int .i64 0, .int .i64 0] := rfl
    obtain ⟨G3, hG3⟩ : ∃ G3, G3 = (G2.push ⟨z85, 1, false, 1⟩).put G2.nx ⟨[.int .i64 (hd F), .int .i64 ((hd F + 1) / 65536)], 1, false, 1⟩ := ⟨_, rfl⟩
    have x3 : Ext G2 G3 := by rw [hG3]; exact ((Ext.refl _).push _).put (Nat.le_refl _) _
    have p3 : G3.obj G2.nx = some ⟨[.int .i64 (hd F), .int .i64 ((hd F + 1) / 65536)], 1, false, 1⟩ := by rw [hG3]; simp
    rw [hz] at hG3
    refine Wp.lp (l10_0 (exL_ok Q orc)) ?_
    simp [-Int.natCast_add, b10_0, clip_t, t0, t3, t6, t7, o, h1, h2, ha0, han, hle, ha1, e0, hin, hin1, hc, e2, hz, splice_put, splice_end, splice_succ, ← hG3, p3, hj1]
    refine Wp.mono (ih (j + 1) _ G3 hch.2 (fun a ha => hr a (List.mem_cons_of_mem _ ha)) (by omega) (hx.trans (x2.trans x3)) (by simp [clip_t]) (by simp [clip_t]; exact e0.symm) (by simp [-Int.natCast_add, clip_t]) (by simp [clip_t])) ?_
    rintro q ⟨z1, z2, z3⟩
    refine ⟨z1, z2, ?_⟩
    rw [z3]
    congr 1
    simp
    omega
theorem count_in (orc : FuncId → Bool) (hto : orc 60 = false) (h : CrG own G n lim x B) (hI : InvA n lim K x F T) : Wp ((E orc).cl 10 [P0 B.xb] G) fun q => q.1 = .int .i64 F.length ∧ Ext G q.2 := by
  have hn := hI.ri.n1
  have hlen := hI.ri.len
  have hFn : (F.length : Int) ≤ n := by
    have q1 := hI.ri.ln; have q2 := hI.ri.w0
    have q3 : 0 ≤ lO x.k := by unfold lO; omega
    have q4 : 0 ≤ wO x.k := by unfold wO; have := wc_nn (x.k 0); have := wc_nn (x.k 1); have := wc_nn (x.k 2); omega
    omega
  have hox := h.cx.obj
  simp only [crX] at hox
  obtain ⟨bb, rest, hm⟩ := h.hm
  obtain ⟨wv, G4, e4, x4, o4⟩ := words_ok orc hm
  have ox4 := (x4.obj _ h.cx.lt).trans hox
  have hin := hI.ri.m0
  have hlt : 0 < x.s.W.length := by omega
  have hlt' : (0 : Int) < x.s.W.length := by omega
  obtain ⟨b, of, c, e0, _, q0, _⟩ := o4.is.at hlt
  have hc := q0 0 (by decide)
  have hW : x.s.W[0] = x.s.at' 0 := by rw [MS.at_in _ hin]; simp [List.getElem?_eq_getElem hlt]
  simp [rowsI, hW] at hc
  have htop := hI.ri.top
  have ht0 := hI.ri.t0
  have hhd := hI.ri.hd
  obtain ⟨G13, e13, x13⟩ := gettop_ok orc hto (w := x.s.at' 0) ⟨by omega, by omega⟩ G4
  have hm2 := hI.ri.topm.1
  rw [hm2] at e13
  have hz : z85 = [.int .i64 0, .int .i64 0] := rfl
  obtain ⟨G18, hG18⟩ : ∃ G18, G18 = (G13.push ⟨z85, 1, false, 1⟩).put G13.nx ⟨[.int .i64 (Lift.hd F), .int .i64 (x.s.at' 0 / 65536)], 1, false, 1⟩ := ⟨_, rfl⟩
  have x18 : Ext G13 G18 := by rw [hG18]; exact ((Ext.refl _).push _).put (Nat.le_refl _) _
  have p18 : G18.obj G13.nx = some ⟨[.int .i64 (Lift.hd F), .int .i64 (x.s.at' 0 / 65536)], 1, false, 1⟩ := by rw [hG18]; simp
  rw [hz] at hG18
  have y18 := x13.trans x18
  have ox18 := (y18.obj _ (Nat.lt_of_lt_of_le h.cx.lt x4.nx)).trans ox4
  have hlx : B.xb < G18.nx := Nat.lt_of_lt_of_le (Nat.lt_of_lt_of_le h.cx.lt x4.nx) y18.nx
  refine Wp.ref (f10 (exL_ok Q orc) _ G) ?_
  simp [-Int.natCast_add, s10, hox, e4, ox4, e0, hlt, hlt', hc, e13, hz, splice_put, splice_end, splice_succ, ← hG18, p18]
  subst e0
  refine Wp.bE (Wp.mono (count_lp orc hto hlx ox18 rfl rfl hn hI.sk hlen (o4.is.ext y18) F 0 _ G18 hI.ri.ch (fun a ha => hI.ri.rg a (by have := List.one_le_count_iff.2 ha; omega)) (by simpa using hFn) (Ext.refl _) ?_ ?_ ?_ ?_) ?_)
  · simp
  · simp
  · simp
  · simp
  rintro ⟨e1, τ', G'⟩ ⟨rfl, z1, z2⟩
  simp only at z1 z2
  simp [z2]
  exact (x4.trans y18).trans z1
/-- no call was told that all are worn, unless they are -/
theorem told_lp (orc : FuncId → Bool) {A : GS} {xb : Nat} {cl : List Value} {cv : Value} {L : List Sp} {w : Int} (hxb : xb < A.nx) (ox : A.obj xb = some ⟨cl, 1, false, 1⟩) (h2 : cl[2]? = some (.int .i64 n)) (h11 : cl[11]? = some cv) (hc : SlR rSp A cv L) (hlen : L.length ≤ 200000) (he : ∀ z ∈ L, z.an.1 = 12 → n ≤ w) {v6 v7 : Value} :
    ∀ (k i : Nat) (τ : Env) (G : GS), i + k = L.length → Ext A G → τ 6 = v6 → τ 7 = v7 → τ 8 = P0 xb → τ 9 = .int .i64 w → τ 10 = .int .i64 (i : Int) →
    Wp ((exL Q orc).lpx 3 0 τ G) fun q => q.1 = .exit 0 ∧ Ext A q.2.2 ∧ q.2.1 6 = v6 ∧ q.2.1 7 = v7 ∧ q.2.1 8 = P0 xb ∧ q.2.1 9 = .int .i64 w := by
  have lh : ∀ t, ln Q true t cv = some (.int .i64 L.length) := fun t => by obtain ⟨a, c, h⟩ := hc.len; rw [h]; simp
  intro k
  induction k with
  | zero =>
    intro i τ G hi hx t6 t7 t8 t9 t10
    have o := (hx.obj xb hxb).trans ox
    have hin : ¬ (i : Int) < L.length := by omega
    refine Wp.lp (l3_0 (exL_ok Q orc)) ?_
    simp [-Int.natCast_add, b3_0, clip_t, t8, t9, t10, o, h11, lh, hin]
    exact ⟨hx, t6, t7⟩
  | succ k ih =>
    intro i τ G hi hx t6 t7 t8 t9 t10
    have o := (hx.obj xb hxb).trans ox
    have hin : (i : Int) < L.length := by omega
    have hin' : i < L.length := by omega
    have hi0 : (0 : Int) ≤ i := by omega
    have hw : IntKind.wrap .i64 ((i : Int) + 1) = ((i + 1 : Nat) : Int) := wrap64 (by omega) (by omega)
    obtain ⟨b, of, c, e0, _, q0, _⟩ := (hc.ext hx).at hin'
    have hc7 := q0 7 (by decide)
    simp at hc7
    have hnl := he _ (List.getElem_mem hin')
    refine Wp.lp (l3_0 (exL_ok Q orc)) ?_
    by_cases h12 : (L[i]).an.1 = 12
    · have hwn : ¬ w < n := by have := hnl h12; omega
      rw [h12] at hc7
      simp [-Int.natCast_add, b3_0, clip_t, t8, t9, t10, o, h11, h2, lh, hin, e0, hi0, hc7, hwn, hw]
      refine ih (i + 1) _ G (by omega) hx (by simp [clip_t, t6]) (by simp [clip_t, t7]) (by simp [clip_t]) (by simp [clip_t]) (by simp [clip_t])
    · simp [-Int.natCast_add, b3_0, clip_t, t8, t9, t10, o, h11, h2, lh, hin, e0, hi0, hc7, h12, hw]
      refine ih (i + 1) _ G (by omega) hx (by simp [clip_t, t6]) (by simp [clip_t, t7]) (by simp [clip_t]) (by simp [clip_t]) (by simp [clip_t])
end
end Go.Proofs.Ytfmkihikmlcimaa.Lift

set_option linter.unusedVariables false
set_option linter.unusedSimpArgs false
set_option maxRecDepth 20000
namespace Go.Proofs.Ytfmkihikmlcimaa.Lift
open Go Go.Proofs.Ytfmkihikmlcimaa.Gh Go.Proofs
section
variable {G : GS}
set_option maxHeartbeats 1000000 in
/-- **the law**: no ref is given out that is held; free ones, worn ones and those that are held are all -/
theorem arenaKeeps (orc : FuncId → Bool) (hto : orc 60 = false) (hrf : orc 95 = false) (hkn : orc 5 = true) {v2 : Value} {L : List Int} (hL : SlR (rowsI .i64) G v2 L) (z1 z2 : Int) :
    Wp ((E orc).cl 3 [.int .i64 z1, .int .i64 z2, v2] G) fun q => q.1 = .bool true := by
  refine Wp.ref (f3 (exL_ok Q orc) _ _ _ G) ?_
  obtain ⟨va, vc, ev⟩ := hL.len
  have l1 : ∀ t, ln Q true t v2 = some (.int .i64 L.length) := fun t => by rw [ev]; simp
  have ek := cl_orc Q orc hkn G
  by_cases c1 : 200 < L.length
  · have c1' : (200 : Int) < L.length := by omega
    simp [s3, l1, ek, c1, c1']
  have c1' : ¬ (200 : Int) < L.length := by omega
  have ep1 := pick_ok orc z1 8 (by decide) (by decide) G
  have ep2 := pick_ok orc z2 4 (by decide) (by decide) G
  obtain ⟨n, hn⟩ : ∃ n : Nat, 1 + z1 % 8 = (n : Int) := ⟨(1 + z1 % 8).toNat, by omega⟩
  have h1 : 1 ≤ n ∧ n ≤ 8 := by omega
  have hw1 : IntKind.wrap .i64 (1 + z1 % 8) = (n : Int) := by rw [hn]; exact wrap64 (by omega) (by omega)
  obtain ⟨lim, hlim⟩ : ∃ lim : Int, lim = 1 + z2 % 4 := ⟨_, rfl⟩
  have h2 : 1 ≤ lim ∧ lim ≤ 4 := by omega
  have hw2 : IntKind.wrap .i64 (1 + z2 % 4) = lim := by rw [hlim]; exact wrap64 (by omega) (by omega)
  obtain ⟨own1, B, G8, e8, x8, h8, t8⟩ := begun_in orc hto h1 h2 G
  have ha : ArgS own1 G8 v2 L := ⟨hL.ext x8, fun g hg => t8 g (hL.under g hg)⟩
  obtain ⟨⟨r, G14⟩, e14, rfl, ⟨own', B', x', K', F', T', y1, y2, y3, y4, y5⟩⟩ := plays_in orc hto hrf (by omega) h8 ha (InvA.init lim n h1 h2)
  simp only at y2
  have hnI := y3.ri.n1
  have hlen := y3.ri.len
  have hle : x'.calls.length ≤ 200000 := Nat.le_trans y3.cl (by omega)
  -- all are idle
  have hid : ∀ c, c < 3 → x'.k c = .idle := fun c hc => (y3.idle hc).1 (by rw [y5 c hc]; decide)
  have hlO : lO x'.k = 0 := by unfold lO; rw [hid 0 (by decide), hid 1 (by decide), hid 2 (by decide)]; rfl
  have hwO : wO x'.k = 0 := by unfold wO; rw [hid 0 (by decide), hid 1 (by decide), hid 2 (by decide)]; rfl
  have hsum := y3.ri.ln
  have hw0 := y3.ri.w0
  rw [hlO, hwO] at hsum
  simp only [List.length_map] at hsum
  -- the words
  have yR := y2.to (ModT.ext (ts := []) ((Ext.refl G14).room 14)) (Agr.refl _ _) (by simp)
  obtain ⟨bb, rest, hm⟩ := yR.hm
  obtain ⟨wv, G25, e25, x25, o25⟩ := words_ok orc hm
  have y25 := yR.ext x25
  have hin : (0 : Int) ≤ 1 + 2 * n ∧ 1 + 2 * (n : Int) < x'.s.W.length := by omega
  have hlt : (1 + 2 * (n : Int)).toNat < x'.s.W.length := by omega
  obtain ⟨wb, of, wc, e0, _, q0, _⟩ := o25.is.at hlt
  have hc := q0 0 (by decide)
  obtain ⟨w, hwn⟩ : ∃ w, w = x'.s.at' (1 + 2 * n) := ⟨_, rfl⟩
  have hW : x'.s.W[(1 + 2 * (n : Int)).toNat] = w := by rw [hwn, MS.at_in _ hin]; simp [List.getElem?_eq_getElem hlt]
  simp [rowsI, hW] at hc
  rw [← hwn] at hsum hw0
  have hww : IntKind.wrap .i64 w = w := wrap64 (by omega) (by omega)
  have ox14 := y2.cx.obj
  have ox25 := y25.cx.obj
  have er : ∀ z ∈ x'.calls, z.an.1 = 12 → (n : Int) ≤ w := fun z hz e => by rw [hwn]; exact y3.er z hz e
  rw [y1] at ox14 ox25
  have hxb : B.xb < G25.nx := by have := y25.cx.lt; rw [y1] at this; exact this
  obtain ⟨ha', hc', eh⟩ := y25.hq.is.len
  have lcl := told_lp (v6 := .bool false) (v7 := .bool true) (n := n) orc hxb ox25 rfl rfl y25.hc.is hle er
  have e14' : (E orc).cl 8 [P0 B.xb, v2] G8 = some (.bool true, G14) := e14
  have hin2 := hin.2
  simp only [crX] at ox14 ox25
  simp [-Int.natCast_add, s3, l1, ek, c1, c1', ep1, ep2, hw1, hw2, e8, e14', ox14, e25, ox25, e0, hin, hin2, hc, hww]
  subst e0
  refine Wp.bE (Wp.mono (lcl x'.calls.length 0 _ G25 (by omega) (Ext.refl _) ?_ ?_ ?_ ?_ ?_) ?_)
  · simp
  · simp
  · simp
  · simp
  · simp
  rintro ⟨e1, τ', G36⟩ ⟨rfl, x36, s6, s7, s8, s9⟩
  simp only at x36 s6 s7 s8 s9
  have y36 := (y25.ext x36).to (ModT.ext (ts := []) ((Ext.refl G36).room 21)) (Agr.refl _ _) (by simp)
  obtain ⟨⟨cnt, G38⟩, e38, rfl, x38⟩ := count_in orc hto y36 y3
  simp only at x38
  have ox36 := y36.cx.obj
  have ox38 := (y36.ext x38).cx.obj
  rw [y1] at e38 ox36 ox38
  simp only [crX, eh] at ox36 ox38
  have wr : IntKind.wrap .i64 ((F'.length : Int) + w) = (F'.length : Int) + w := wrap64 (by omega) (by omega)
  have wr2 : IntKind.wrap .i64 ((F'.length : Int) + w + x'.held.length) = (n : Int) := by rw [show (F'.length : Int) + w + x'.held.length = n by omega]; exact wrap64 (by omega) (by omega)
  have ox36' : G36.obj B.xb = _ := ox36
  simp [-Int.natCast_add, s7, s8, s9, e38, wr, ox38, ox36', wr2]
end
end Go.Proofs.Ytfmkihikmlcimaa.Lift

set_option linter.unusedVariables false
set_option linter.unusedSimpArgs false
set_option maxRecDepth 20000
namespace Go.Proofs.Ytfmkihikmlcimaa.Lift
open Go Go.Proofs.Ytfmkihikmlcimaa.Gh Go.Proofs
theorem trueKn : closedTrueF Q 200 5 = true := by kernel_rfl
theorem okKn : OrcOk Q (among [5]) := among_ok _ (hp := purOk_none (by kernel_rfl) (by kernel_rfl)) fun f hf => by
  simp only [List.mem_cons, List.not_mem_nil, or_false] at hf
  subst hf
  exact ⟨⟨_, Try.func5, by kernel_rfl, by kernel_rfl⟩, fun w _ => closed_trueF (by kernel_rfl) trueKn w⟩
end Go.Proofs.Ytfmkihikmlcimaa.Lift

