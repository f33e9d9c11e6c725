/- contracts of the program's functions -/
import Derived.Test.YtdohlgkmaeipjaaGreatAE
import Derived.Test.YtdohlgkmaeipjaaGreatGhLS
set_option linter.unusedVariables false
set_option linter.unusedSimpArgs false
set_option maxRecDepth 20000
namespace Go.Proofs.YtdohlgkmaeipjaaGreat.Lift
open Go Go.Proofs.YtdohlgkmaeipjaaGreat.Gh Go.Proofs
/-- a row that is counted: where it begins, how many; the closure's blocks -/
structure Cnt where
  f : Nat
  n : Nat
  a : Nat
  b : Nat
  d : Nat
def markA (T : List Bool) : List Cnt → Option (List Bool)
  | [] => some T
  | x :: l => (markB T x.f x.n).bind fun T' => markA T' l
structure CntOk (G : GS) (tb fs C : Nat) (x : Cnt) : Prop where
  hfn : x.f + x.n ≤ C
  hn1 : 1 ≤ x.n
  hba : x.b ≠ x.a
  hda : x.d ≠ x.a
  hta : tb ≠ x.a
  htb : tb ≠ x.b
  htd : tb ≠ x.d
  hfa : fs ≠ x.a
  hoa : G.obj x.a = some ⟨[.int .i64 0], 1, false, 1⟩
  hob : G.obj x.b = some ⟨[.int .i64 x.n], 1, false, 1⟩
  hod : G.obj x.d = some ⟨[.int .i64 x.f], 1, false, 1⟩
section
variable {G B : GS} {A : Ar} {c : Int}
theorem markA_len : ∀ (l : List Cnt) (T T' : List Bool), markA T l = some T' → T'.length = T.length
  | [], T, T', h => by simp only [markA, Option.some.injEq] at h; rw [h]
  | x :: l, T, T', h => by
    simp only [markA] at h
    cases hm : markB T x.f x.n with
    | none => rw [hm] at h; cases h
    | some T1 => rw [hm] at h; rw [markA_len l _ _ h, markB_len _ _ _ _ hm]
theorem rows_lp (orc : FuncId → Bool) {tb fs C : Nat} (hC : C ≤ 4096) (hft : fs ≠ tb) (hB1 : B.nx ≤ tb) {cl : List Cnt} (hcl : cl.length = 3) (hBa : ∀ x ∈ cl, B.nx ≤ x.a) : ∀ (k i : Nat) (T : List Bool) (τ : Env) (G : GS), i + k = 3 → T.length = C → Ext B G → tb < G.nx → (∀ x ∈ cl, x.a < G.nx ∧ x.b < G.nx ∧ x.d < G.nx) → fs < G.nx →
    τ 5 = .slice (some ⟨tb, 0, none⟩) C C → τ 79 = .slice (some ⟨fs, 0, none⟩) 3 3 → τ 80 = .int .i64 3 → τ 81 = .int .i64 i → G.obj fs = some ⟨cl.map fun x => clo x.a x.b x.d, 1, false, 1⟩ → G.obj tb = some ⟨T.map Value.bool, 1, false, 1⟩ →
    (∀ x ∈ cl.drop i, CntOk G tb fs C x) → (cl.drop i).Pairwise (fun x y => x.a ≠ y.a ∧ x.a ≠ y.b ∧ x.a ≠ y.d) →
    Wp ((exL Q orc).lpx 55 0 τ G) fun q => Ext B q.2.2 ∧ ((q.1 = .exit 0 ∧ markA T (cl.drop i) ≠ none) ∨ (q.1 = .ret ∧ q.2.1 4 = .int .i64 2 ∧ markA T (cl.drop i) = none)) := by
  intro k
  induction k with
  | zero =>
    intro i T τ G hi hT hx hlt hcs hfl t5 t79 t80 t81 ofs ot hok hpw
    have : i = 3 := by omega
    subst this
    have hd : cl.drop 3 = [] := List.drop_eq_nil_of_le (by omega)
    refine Wp.lp (l55_0 (exL_ok Q orc)) ?_
    simp [b55_0, clip_t, t5, t79, t80, t81, hd, markA]
    exact hx
  | succ k ih =>
    intro i T τ G hi hT hx hlt hcs hfl t5 t79 t80 t81 ofs ot hok hpw
    have hil : i < cl.length := by omega
    have hdr : cl.drop i = cl[i] :: cl.drop (i + 1) := List.drop_eq_getElem_cons hil
    rw [hdr] at hok hpw ⊢
    obtain ⟨x, hxx⟩ : ∃ x, cl[i] = x := ⟨_, rfl⟩
    have hmem : x ∈ cl := hxx ▸ List.getElem_mem hil
    rw [hxx] at hok hpw ⊢
    have hx0 := hok x (by simp)
    obtain ⟨hp1, hp2⟩ := List.pairwise_cons.1 hpw
    have hi3 : (i : Int) < 3 := by omega
    have hi0 : (0 : Int) ≤ i := by omega
    have hw : IntKind.wrap .i64 ((i : Int) + 1) = ((i + 1 : Nat) : Int) := wrap64 (by omega) (by omega)
    have hF : (cl.map fun x => clo x.a x.b x.d)[i]? = some (clo x.a x.b x.d) := by rw [List.getElem?_map, List.getElem?_eq_getElem hil, hxx]; rfl
    have hF' : ∀ h : i < (cl.map fun x => clo x.a x.b x.d).length, (cl.map fun x => clo x.a x.b x.d)[i] = clo x.a x.b x.d := fun h => by rw [List.getElem?_eq_getElem h] at hF; exact Option.some.inj hF
    have hFl : i < (cl.map fun x => clo x.a x.b x.d).length := by simpa using hil
    generalize hFF : (cl.map fun x => clo x.a x.b x.d) = FF at *
    have e1 := next_go orc hx0.hoa hx0.hob hx0.hod hx0.hda (by have := hx0.hn1; omega) (by omega) (by have := hx0.hfn; omega) (by have := hx0.hfn; omega)
    simp only [Int.add_zero] at e1
    have ot1 : (G.put x.a ⟨[.int .i64 (0 + 1)], 1, false, 1⟩).obj tb = some ⟨T.map Value.bool, 1, false, 1⟩ := by rw [obj_put, if_neg hx0.hta]; exact ot
    refine Wp.lp (l55_0 (exL_ok Q orc)) ?_
    simp [-Int.natCast_add, b55_0, clip_t, t5, t79, t80, t81, hi3, hi0, ofs, hF, hF', hFl, e1]
    have hn0 : ¬ x.n = 0 := by have := hx0.hn1; omega
    refine Wp.bE ((mark_lp orc (tb := tb) (a := x.a) (b := x.b) (d := x.d) (f := x.f) (n := x.n) (C := C) hC hx0.hfn hx0.hba hx0.hda hx0.hta hx0.htb hx0.htd x.n 0 T _ (G.put x.a ⟨[.int .i64 (0 + 1)], 1, false, 1⟩) (by omega) hT (by simp [clip_t, t5]) (by simp [clip_t]) (by simp [clip_t, hn0]) (by simp [hn0]) (by rw [obj_put, if_neg hx0.hba]; exact hx0.hob) (by rw [obj_put, if_neg hx0.hda]; exact hx0.hod) ot1).mono ?_)
    rintro ⟨e, τ', G'⟩ ⟨m1, u79, u80, u81, u5, hq⟩
    simp at m1 u79 u80 u81 u5 hq
    simp [clip_t, t79, t80, t81, t5] at u79 u80 u81 u5
    have hmod : ModP (fun y => y = tb ∨ y = x.a) G G' := ((ModP.refl _ G).put (.inl (.inr rfl)) _).trans (m1.mono fun y hy => .inl hy)
    have xG' : Ext B G' := ModP.tail hx hmod fun y hy => hy.elim (fun h => h ▸ hB1) fun h => h ▸ hBa x hmem
    have n' := hmod.nx
    rcases hq with ⟨rfl, T', hT', otT⟩ | ⟨rfl, u4, hT'⟩
    · have hk' : ∀ g, g < G.nx → g ≠ tb → g ≠ x.a → G'.obj g = G.obj g := fun g hg h1 h2 => hmod.obj g hg (by rintro (h | h) <;> contradiction)
      simp [-Int.natCast_add, u79, u80, u81, hw]
      have hok' : ∀ y ∈ cl.drop (i + 1), CntOk G' tb fs C y := fun y hy => by
        have hy0 := hok y (by simp [hy])
        have hyc := hcs y (List.mem_of_mem_drop hy)
        have hp := hp1 y hy
        exact ⟨hy0.hfn, hy0.hn1, hy0.hba, hy0.hda, hy0.hta, hy0.htb, hy0.htd, hy0.hfa, (hk' _ hyc.1 hy0.hta.symm hp.1.symm).trans hy0.hoa, (hk' _ hyc.2.1 hy0.htb.symm hp.2.1.symm).trans hy0.hob, (hk' _ hyc.2.2 hy0.htd.symm hp.2.2.symm).trans hy0.hod⟩
      refine (ih (i + 1) T' _ G' (by omega) (by rw [markB_len _ _ _ _ hT']; exact hT) xG' (by omega) (fun y hy => by have := hcs y hy; omega) (by omega) (by simp [clip_t, u5]) (by simp [clip_t]) (by simp [clip_t]) (by simp [clip_t]) ((hk' fs hfl hft hx0.hfa).trans ofs) otT hok' hp2).mono ?_
      rintro q ⟨q1, q2⟩
      refine ⟨q1, ?_⟩
      simp only [markA, hT', Option.bind_some]
      exact q2
    · simp [-Int.natCast_add, u79, u80, u81, u4, markA, hT']
      exact ⟨xG', by simp [clip_t, u4]⟩
/-! the whole of it -/
def Ar.fitsIn (A : Ar) (c : Int) : Prop := A.R.fitsIn c ∧ A.lim ∧ 0 ≤ A.gens ∧ A.gens ≤ c - A.size ∧ 0 ≤ A.worn ∧ A.worn < c
instance (A : Ar) (c : Int) : Decidable (A.fitsIn c) := by unfold Ar.fitsIn; exact inferInstance
def Ar.rows (A : Ar) : List Cnt := [⟨A.links.toNat, A.size.toNat, 0, 0, 0⟩, ⟨A.gens.toNat, A.size.toNat, 0, 0, 0⟩, ⟨A.worn.toNat, 1, 0, 0, 0⟩]
def afitsI (A : Ar) (c : Int) : Int := if c < 1 ∨ 4096 < c then 3 else if A.fitsIn c ∧ markA ((List.replicate c.toNat false).set A.top.toNat true) A.rows ≠ none then 0 else 2
theorem markA_cells : ∀ (l l' : List Cnt), l.map (fun x => (x.f, x.n)) = l'.map (fun x => (x.f, x.n)) → ∀ T, markA T l = markA T l'
  | [], [], _, T => rfl
  | [], _ :: _, h, T => by simp at h
  | _ :: _, [], h, T => by simp at h
  | x :: l, y :: l', h, T => by
    simp only [List.map_cons, List.cons.injEq, Prod.mk.injEq] at h
    simp only [markA, h.1.1, h.1.2]
    cases markB T y.f y.n with
    | none => rfl
    | some T' => exact markA_cells l l' h.2 T'
theorem afits_ok (orc : FuncId → Bool) (A : Ar) (c : Int) (G : GS) : ∃ G', (E orc).cl 55 [A.v, .int .i64 c] G = some (.int .i64 (afitsI A c), G') ∧ Ext G G' := by
  have w : Wp (s55 true (exL Q orc) A.v (.int .i64 c) G) fun q => q.1 = .int .i64 (afitsI A c) ∧ Ext G q.2 := by
    obtain ⟨G1, hG1⟩ : ∃ G1, G1 = G.push ⟨A.cells, 1, false, 1⟩ := ⟨_, rfl⟩
    have x1 : Ext G G1 := by rw [hG1]; exact (Ext.refl G).push _
    have o1 : G1.obj G.nx = some ⟨A.cells, 1, false, 1⟩ := by rw [hG1]; simp
    have n1 : G1.nx = G.nx + 1 := by rw [hG1]; rfl
    unfold afitsI
    by_cases c1 : c < 1
    · simp [s55, ← hG1, c1]; exact x1
    by_cases c2 : 4096 < c
    · simp [s55, ← hG1, c1, c2]; exact x1
    obtain ⟨G2, e2, x2⟩ := sfits_ok orc A.R c G1
    have o2 := (x2.obj _ (by omega)).trans o1
    have y2 := x1.trans x2
    have n2 := x2.nx
    unfold sfitsI at e2
    rw [if_neg (by omega)] at e2
    unfold Ar.fitsIn
    by_cases h0 : A.R.fitsIn c
    · rw [if_pos h0] at e2
      have h0' := h0
      obtain ⟨⟨s1, s2⟩, s3, s4, s5, s6, s7⟩ := h0
      simp only at s1 s2 s3 s4 s5 s6 s7
      have w1 : IntKind.wrap .i64 (c - A.size) = c - A.size := wrap64 (by omega) (by omega)
      unfold Ar.lim
      by_cases h1 : A.limit < 1
      · have : ¬ 1 ≤ A.limit := by omega
        simp [s55, ← hG1, c1, c2, o1, e2, o2, h0', h1, this]; exact y2
      have h1' : 1 ≤ A.limit := by omega
      by_cases h2 : 4294967295 < A.limit
      · have : ¬ A.limit ≤ 4294967295 := by omega
        simp [s55, ← hG1, c1, c2, o1, e2, o2, h0', h1, h2, this]; exact y2
      have h2' : A.limit ≤ 4294967295 := by omega
      by_cases h3 : A.gens < 0
      · have : ¬ 0 ≤ A.gens := by omega
        simp [s55, ← hG1, c1, c2, o1, e2, o2, h0', h1, h2, h3, this]; exact y2
      have h3' : 0 ≤ A.gens := by omega
      by_cases h4 : c - A.size < A.gens
      · have : ¬ A.gens ≤ c - A.size := by omega
        simp [s55, ← hG1, c1, c2, o1, e2, o2, h0', h1, h2, h3, w1, h4, this]; exact y2
      have h4' : A.gens ≤ c - A.size := by omega
      by_cases h5 : A.worn < 0
      · have : ¬ 0 ≤ A.worn := by omega
        simp [s55, ← hG1, c1, c2, o1, e2, o2, h0', h1, h2, h3, w1, h4, h5, this]; exact y2
      have h5' : 0 ≤ A.worn := by omega
      by_cases h6 : c ≤ A.worn
      · have : ¬ A.worn < c := by omega
        simp [s55, ← hG1, c1, c2, o1, e2, o2, h0', h1, h2, h3, w1, h4, h5, h6, this]; exact y2
      have h6' : A.worn < c := by omega
      obtain ⟨C, hC⟩ : ∃ C : Nat, c = C := ⟨c.toNat, by omega⟩
      have hmk : mkK 1 1 z4 c c G2 = some (.slice (some ⟨G2.nx, 0, none⟩) C C, G2.push ⟨(List.replicate C false).map Value.bool, 1, false, 1⟩) := by
        unfold mkK
        rw [if_pos ⟨by omega, by omega, by decide, by omega, wrap64 (by omega) (by omega), wrap64 (by omega) (by omega)⟩, hC]
        have : rep z4 ((C : Nat) : Int).toNat = (List.replicate C false).map Value.bool := by
          simp only [Int.toNat_natCast]
          generalize C = n
          induction n with
          | zero => rfl
          | succ n ih => show z4 ++ rep z4 n = _; rw [ih]; rfl
        rw [this]; rfl
      obtain ⟨tp, htp⟩ : ∃ tp : Nat, A.top.toNat = tp := ⟨_, rfl⟩
      have htlt : tp < C := by omega
      obtain ⟨T0, hT0⟩ : ∃ T0, T0 = (List.replicate C false).set tp true := ⟨_, rfl⟩
      have hT0l : T0.length = C := by rw [hT0]; simp
      obtain ⟨G3, hG3⟩ : ∃ G3, G3 = ((G2.push ⟨(List.replicate C false).map Value.bool, 1, false, 1⟩).put G2.nx ⟨T0.map Value.bool, 1, false, 1⟩).room 19 := ⟨_, rfl⟩
      have x3 : Ext G2 G3 := by rw [hG3]; exact (((Ext.refl _).push _).put (Nat.le_refl _) _).room _
      have o3 := (x3.obj _ (by omega)).trans o2
      have t3 : G3.obj G2.nx = some ⟨T0.map Value.bool, 1, false, 1⟩ := by rw [hG3]; simp
      have n3 : G3.nx = G2.nx + 1 + 19 := by rw [hG3]; rfl
      have e4 := counted_ok orc A.links A.size G3
      generalize hG4 : GS.put _ (G3.nx + 2) _ = G4 at e4
      have x4 : Ext G3 G4 := by rw [← hG4]; exact (((((Ext.refl _).push _).push _).push _).put (by omega) _)
      have q4 : G4.obj G3.nx = some ⟨[.int .i64 A.links], 1, false, 1⟩ ∧ G4.obj (G3.nx + 1) = some ⟨[.int .i64 A.size], 1, false, 1⟩ ∧ G4.obj (G3.nx + 2) = some ⟨[.int .i64 0], 1, false, 1⟩ := by rw [← hG4]; simp [Nat.add_assoc]
      have n4 : G4.nx = G3.nx + 3 := by rw [← hG4]; rfl
      have e5 := counted_ok orc A.gens A.size G4
      generalize hG5 : GS.put _ (G4.nx + 2) _ = G5 at e5
      have x5 : Ext G4 G5 := by rw [← hG5]; exact (((((Ext.refl _).push _).push _).push _).put (by omega) _)
      have q5 : G5.obj G4.nx = some ⟨[.int .i64 A.gens], 1, false, 1⟩ ∧ G5.obj (G4.nx + 1) = some ⟨[.int .i64 A.size], 1, false, 1⟩ ∧ G5.obj (G4.nx + 2) = some ⟨[.int .i64 0], 1, false, 1⟩ := by rw [← hG5]; simp [Nat.add_assoc]
      have n5 : G5.nx = G4.nx + 3 := by rw [← hG5]; rfl
      have e6 := counted_ok orc A.worn 1 G5
      generalize hG6 : GS.put _ (G5.nx + 2) _ = G6 at e6
      have x6 : Ext G5 G6 := by rw [← hG6]; exact (((((Ext.refl _).push _).push _).push _).put (by omega) _)
      have q6 : G6.obj G5.nx = some ⟨[.int .i64 A.worn], 1, false, 1⟩ ∧ G6.obj (G5.nx + 1) = some ⟨[.int .i64 1], 1, false, 1⟩ ∧ G6.obj (G5.nx + 2) = some ⟨[.int .i64 0], 1, false, 1⟩ := by rw [← hG6]; simp [Nat.add_assoc]
      have n6 : G6.nx = G5.nx + 3 := by rw [← hG6]; rfl
      have o4 := (x4.obj _ (by omega)).trans o3
      have o5 := (x5.obj _ (by omega)).trans o4
      have o6 := (x6.obj _ (by omega)).trans o5
      have hset : ((List.replicate C false).map Value.bool).set tp (.bool true) = T0.map Value.bool := by rw [hT0, List.map_set]
      have hlen : tp < ((List.replicate C false).map Value.bool).length := by simpa using htlt
      have htn : A.top < (C : Int) := by omega
      have hne : ¬ G.nx = G2.nx := by omega
      generalize hRz : (List.replicate C false).map Value.bool = Rz at *
      simp [s55, ← hG1, c1, c2, o1, e2, o2, h0', h1, h2, h3, w1, h4, h5, h6, hmk, htp, htn, s3, htlt, hset, hlen, ← hG3, o3, e4, o4, e5, o5, e6, o6, hne, fillS, fillC, zipF, rep, splice_put, splice_end, splice_succ]
      obtain ⟨cl, hcl⟩ : ∃ cl : List Cnt, cl = [⟨A.links.toNat, A.size.toNat, G3.nx + 2, G3.nx + 1, G3.nx⟩, ⟨A.gens.toNat, A.size.toNat, G4.nx + 2, G4.nx + 1, G4.nx⟩, ⟨A.worn.toNat, 1, G5.nx + 2, G5.nx + 1, G5.nx⟩] := ⟨_, rfl⟩
      have hclm : cl.map (fun x => clo x.a x.b x.d) = [clo (G3.nx + 2) (G3.nx + 1) G3.nx, clo (G4.nx + 2) (G4.nx + 1) G4.nx, clo (G5.nx + 2) (G5.nx + 1) G5.nx] := by rw [hcl]; rfl
      generalize hG7 : GS.back _ G6 = G7
      have x7 : Ext G2 G7 := by rw [← hG7]; exact Ext.drawn ((((x3.trans x4).trans x5).trans x6)) (by omega) (by have := x6.nx; have := x5.nx; have := x4.nx; omega) _
      have n7 : G7.nx = G6.nx := by rw [← hG7]; simp
      have k7 : ∀ g, g ≠ G2.nx + 1 + 16 → G7.obj g = G6.obj g := fun g hg => by rw [← hG7]; simp; intro h; omega
      have f7 : G7.obj (G2.nx + 1 + 16) = some ⟨cl.map fun x => clo x.a x.b x.d, 1, false, 1⟩ := by rw [hclm, ← hG7]; simp
      have t7 : G7.obj G2.nx = some ⟨T0.map Value.bool, 1, false, 1⟩ := by rw [k7 _ (by omega), x6.obj _ (by omega), x5.obj _ (by omega), x4.obj _ (by omega)]; exact t3
      have lnk : ((A.links.toNat : Nat) : Int) = A.links := by omega
      have siz : ((A.size.toNat : Nat) : Int) = A.size := by omega
      have gns : ((A.gens.toNat : Nat) : Int) = A.gens := by omega
      have wrn : ((A.worn.toNat : Nat) : Int) = A.worn := by omega
      have k3 : ∀ g, g < G4.nx → g ≠ G2.nx + 1 + 16 → G7.obj g = G4.obj g := fun g h1 h2 => by rw [k7 _ h2, x6.obj _ (by omega), x5.obj _ h1]
      have k4 : ∀ g, g < G5.nx → g ≠ G2.nx + 1 + 16 → G7.obj g = G5.obj g := fun g h1 h2 => by rw [k7 _ h2, x6.obj _ h1]
      have ok3 : ∀ x ∈ cl, CntOk G7 G2.nx (G2.nx + 1 + 16) C x := by
        intro x hx
        rw [hcl] at hx
        simp only [List.mem_cons, List.not_mem_nil, or_false] at hx
        rcases hx with rfl | rfl | rfl
        · exact ⟨by simp only; omega, by simp only; omega, by simp only; omega, by simp only; omega, by simp only; omega, by simp only; omega, by simp only; omega, by simp only; omega, (k3 (G3.nx + 2) (by omega) (by omega)).trans q4.2.2, by simp only [siz]; exact (k3 (G3.nx + 1) (by omega) (by omega)).trans q4.2.1, by simp only [lnk]; exact (k3 G3.nx (by omega) (by omega)).trans q4.1⟩
        · exact ⟨by simp only; omega, by simp only; omega, by simp only; omega, by simp only; omega, by simp only; omega, by simp only; omega, by simp only; omega, by simp only; omega, (k4 (G4.nx + 2) (by omega) (by omega)).trans q5.2.2, by simp only [siz]; exact (k4 (G4.nx + 1) (by omega) (by omega)).trans q5.2.1, by simp only [gns]; exact (k4 G4.nx (by omega) (by omega)).trans q5.1⟩
        · exact ⟨by simp only; omega, by simp only; omega, by simp only; omega, by simp only; omega, by simp only; omega, by simp only; omega, by simp only; omega, by simp only; omega, (k7 (G5.nx + 2) (by omega)).trans q6.2.2, (k7 (G5.nx + 1) (by omega)).trans q6.2.1, by simp only [wrn]; exact (k7 G5.nx (by omega)).trans q6.1⟩
      have hcla : ∀ x ∈ cl, G2.nx ≤ x.a ∧ x.a < G7.nx ∧ x.b < G7.nx ∧ x.d < G7.nx := by
        intro x hx
        rw [hcl] at hx
        simp only [List.mem_cons, List.not_mem_nil, or_false] at hx
        rcases hx with rfl | rfl | rfl
        · exact ⟨by simp only; omega, by simp only; omega, by simp only; omega, by simp only; omega⟩
        · exact ⟨by simp only; omega, by simp only; omega, by simp only; omega, by simp only; omega⟩
        · exact ⟨by simp only; omega, by simp only; omega, by simp only; omega, by simp only; omega⟩
      have hmk0 : markA T0 cl = markA T0 A.rows := markA_cells _ _ (by rw [hcl]; rfl) _
      have hcC : c.toNat = C := by omega
      have hcond : ((1 ≤ A.limit ∧ A.limit ≤ 4294967295) ∧ 0 ≤ A.gens ∧ A.gens ≤ c - A.size ∧ 0 ≤ A.worn ∧ A.worn < c) := ⟨⟨h1', h2'⟩, h3', h4', h5', h6'⟩
      simp only [hcond, true_and, hcC, ← hT0, ← hmk0]
      refine Wp.bE ((rows_lp orc (B := G2) (tb := G2.nx) (fs := G2.nx + 1 + 16) (C := C) (by omega) (by omega) (Nat.le_refl _) (cl := cl) (by rw [hcl]; rfl) (fun x hx => (hcla x hx).1) 3 0 T0 _ G7 (by omega) hT0l x7 (by omega) (fun x hx => (hcla x hx).2) (by omega) (by simp) (by simp) (by simp) (by simp) f7 t7 (fun x hx => ok3 x (List.mem_of_mem_drop hx)) ?_).mono ?_)
      · rw [hcl]
        simp only [List.drop_zero, List.pairwise_cons, List.mem_cons, List.not_mem_nil, or_false]
        refine ⟨?_, ?_, ?_, List.Pairwise.nil⟩
        · rintro y (rfl | rfl)
          · exact ⟨by simp only; omega, by simp only; omega, by simp only; omega⟩
          · exact ⟨by simp only; omega, by simp only; omega, by simp only; omega⟩
        · rintro y rfl; exact ⟨by simp only; omega, by simp only; omega, by simp only; omega⟩
        · intro y h; exact h.elim
      · rintro ⟨e, τ, G8⟩ ⟨q1, q2⟩
        simp only [List.drop_zero] at q1 q2
        rcases q2 with ⟨rfl, q3⟩ | ⟨rfl, q3, q4⟩
        · simp [q3]; exact y2.trans q1
        · simp [q3, q4]; exact y2.trans q1
    · rw [if_neg h0] at e2
      simp [s55, ← hG1, c1, c2, o1, e2, o2, h0]; exact y2
  obtain ⟨⟨v, G'⟩, e1, rfl, h⟩ := w
  exact ⟨G', f55 (exL_ok Q orc) _ _ G _ e1, h⟩
end
end Go.Proofs.YtdohlgkmaeipjaaGreat.Lift

set_option linter.unusedVariables false
set_option linter.unusedSimpArgs false
set_option maxRecDepth 20000
namespace Go.Proofs.YtdohlgkmaeipjaaGreat.Lift
open Go Go.Proofs.YtdohlgkmaeipjaaGreat.Gh Go.Proofs
/-! ### Both answers are the same -/
/-- no cell is two things -/
def Ar.apart (A : Ar) : Prop := ¬ (A.gens ≤ A.top ∧ A.top < A.gens + A.size) ∧ A.top ≠ A.worn ∧ ¬ (A.links ≤ A.worn ∧ A.worn < A.links + A.size) ∧ ¬ (A.gens ≤ A.worn ∧ A.worn < A.gens + A.size) ∧ (A.links + A.size ≤ A.gens ∨ A.gens + A.size ≤ A.links)
theorem mark_iff {A : Ar} {c : Int} (hc : c ≤ 4096) (h : A.fitsIn c) : markA ((List.replicate c.toNat false).set A.top.toNat true) A.rows ≠ none ↔ A.apart := by
  obtain ⟨⟨⟨s1, s2⟩, s3, s4, s5, s6, s7⟩, -, s8, s9, s10, s11⟩ := h
  simp only at s1 s2 s3 s4 s5 s6 s7
  obtain ⟨T0, hT0⟩ : ∃ T0, T0 = (List.replicate c.toNat false).set A.top.toNat true := ⟨_, rfl⟩
  have l0 : T0.length = c.toNat := by rw [hT0]; simp
  have g0 : ∀ j, T0[j]? = some true ↔ j = A.top.toNat := by
    intro j
    rw [hT0]
    by_cases hj : j = A.top.toNat
    · subst hj
      rw [List.getElem?_set_self (by simp; omega)]
      simp
    · rw [List.getElem?_set_ne (fun h => hj h.symm), List.getElem?_replicate]
      split <;> simp [hj]
  rw [← hT0]
  have hn1 : ¬ markB T0 A.links.toNat A.size.toNat = none := by
    rw [markB_none _ _ _ (by omega)]
    rintro ⟨j, h1, h2, h3⟩
    have := (g0 j).1 h3
    omega
  obtain ⟨T1, hT1⟩ := Option.ne_none_iff_exists'.1 hn1
  have l1 := markB_len _ _ _ _ hT1
  have g1 := markB_some _ _ _ _ (by omega) hT1
  have k1 : ∀ j, T1[j]? = some true ↔ (A.links.toNat ≤ j ∧ j < A.links.toNat + A.size.toNat) ∨ j = A.top.toNat := by
    intro j
    rw [g1 j]
    split
    · rename_i h; simp [h]
    · rename_i h; rw [g0 j]; exact ⟨fun e => .inr e, fun e => e.elim (fun e => absurd e h) id⟩
  simp only [Ar.rows, markA, hT1, Option.bind_some]
  unfold Ar.apart
  by_cases hn2 : markB T1 A.gens.toNat A.size.toNat = none
  · rw [hn2]
    simp only [Option.bind_none, ne_eq, not_true, false_iff]
    rw [markB_none _ _ _ (by omega)] at hn2
    obtain ⟨j, h1, h2, h3⟩ := hn2
    rw [k1 j] at h3
    rintro ⟨a1, a2, a3, a4, a5⟩
    rcases h3 with h3 | h3 <;> omega
  · obtain ⟨T2, hT2⟩ := Option.ne_none_iff_exists'.1 hn2
    have l2 := markB_len _ _ _ _ hT2
    have g2 := markB_some _ _ _ _ (by omega) hT2
    have k2 : ∀ j, T2[j]? = some true ↔ (A.gens.toNat ≤ j ∧ j < A.gens.toNat + A.size.toNat) ∨ (A.links.toNat ≤ j ∧ j < A.links.toNat + A.size.toNat) ∨ j = A.top.toNat := by
      intro j
      rw [g2 j]
      split
      · rename_i h; simp [h]
      · rename_i h; rw [k1 j]; exact ⟨fun e => .inr e, fun e => e.elim (fun e => absurd e h) id⟩
    have hno : ∀ j, A.gens.toNat ≤ j → j < A.gens.toNat + A.size.toNat → ¬ ((A.links.toNat ≤ j ∧ j < A.links.toNat + A.size.toNat) ∨ j = A.top.toNat) := by
      intro j h1 h2 h3
      exact hn2 ((markB_none _ _ _ (by omega)).2 ⟨j, h1, h2, (k1 j).2 h3⟩)
    rw [hT2]
    simp only [Option.bind_some]
    have hfin : markB T2 A.worn.toNat 1 = none ↔ (A.gens.toNat ≤ A.worn.toNat ∧ A.worn.toNat < A.gens.toNat + A.size.toNat) ∨ (A.links.toNat ≤ A.worn.toNat ∧ A.worn.toNat < A.links.toNat + A.size.toNat) ∨ A.worn.toNat = A.top.toNat := by
      rw [markB_none _ _ _ (by omega)]
      constructor
      · rintro ⟨j, h1, h2, h3⟩
        have : j = A.worn.toNat := by omega
        subst this
        exact (k2 _).1 h3
      · intro h
        exact ⟨_, Nat.le_refl _, by omega, (k2 _).2 h⟩
    have b1 := hno A.gens.toNat (Nat.le_refl _) (by omega)
    have b2 := hno A.top.toNat
    have b3 := hno A.links.toNat
    cases hm : markB T2 A.worn.toNat 1 with
    | none =>
      simp only [Option.bind_none, ne_eq, not_true, false_iff]
      have := hfin.1 hm
      rintro ⟨a1, a2, a3, a4, a5⟩
      rcases this with h | h | h <;> omega
    | some T3 =>
      simp only [Option.bind_some, ne_eq, reduceCtorEq, not_false_iff, true_iff]
      have hf : ¬ markB T2 A.worn.toNat 1 = none := by rw [hm]; simp
      rw [hfin] at hf
      refine ⟨fun h => ?_, by omega, by omega, by omega, ?_⟩
      · exact b2 (by omega) (by omega) (.inr rfl)
      · by_cases q : A.links ≤ A.gens
        · by_cases q2 : A.links + A.size ≤ A.gens
          · exact .inl q2
          · exact absurd (Or.inl ⟨by omega, by omega⟩) b1
        · by_cases q2 : A.gens + A.size ≤ A.links
          · exact .inr q2
          · exact absurd (Or.inl ⟨Nat.le_refl _, by omega⟩) (b3 (by omega) (by omega))
theorem arN_at (A : Ar) : ∀ (k i0 j : Nat), j < k → (arN A k i0)[2 * j]? = some (IntKind.wrap .i64 (A.links + (i0 + j : Nat))) ∧ (arN A k i0)[2 * j + 1]? = some (IntKind.wrap .i64 (A.gens + (i0 + j : Nat)))
  | 0, _, j, h => by omega
  | k + 1, i0, 0, _ => ⟨rfl, rfl⟩
  | k + 1, i0, j + 1, h => by
    have := arN_at A k (i0 + 1) j (by omega)
    simp only [arN]
    rw [show 2 * (j + 1) = (2 * j + 1) + 1 by omega, show 2 * j + 1 + 1 + 1 = (2 * j + 1 + 1) + 1 by omega]
    simp only [List.getElem?_cons_succ]
    rw [show i0 + (j + 1) = i0 + 1 + j by omega]
    exact this
theorem arL_at (A : Ar) {j : Nat} (h : j < A.size.toNat) : (arL A)[2 + 2 * j]? = some (IntKind.wrap .i64 (A.links + j)) ∧ (arL A)[3 + 2 * j]? = some (IntKind.wrap .i64 (A.gens + j)) := by
  have := arN_at A A.size.toNat 0 j h
  rw [show 2 + 2 * j = 2 * j + 1 + 1 by omega, show 3 + 2 * j = 2 * j + 1 + 1 + 1 by omega]
  simp only [arL, List.getElem?_cons_succ]
  rw [Nat.zero_add] at this
  exact this
theorem arL_len (A : Ar) : (arL A).length = 2 + 2 * A.size.toNat := by simp only [arL, List.length_cons, arN_length]; omega
theorem mem_take {L : List Int} {x : Int} {k : Nat} : x ∈ L.take k ↔ ∃ m, m < k ∧ L[m]? = some x := by
  rw [List.mem_iff_getElem?]
  constructor
  · rintro ⟨m, h⟩
    rw [List.getElem?_take] at h
    split at h
    · exact ⟨m, by assumption, h⟩
    · cases h
  · rintro ⟨m, h1, h2⟩
    exact ⟨m, by rw [List.getElem?_take, if_pos h1]; exact h2⟩
theorem ap_iff {A : Ar} {c : Int} (hc : c ≤ 4096) (hg : -9223372036854775808 ≤ A.gens ∧ A.gens ≤ 9223372036854775807) (h : A.R.fitsIn c) : apF (arL A) c (arL A).length 0 = true ↔ (0 ≤ A.gens ∧ A.gens ≤ c - A.size ∧ 0 ≤ A.worn ∧ A.worn < c) ∧ A.apart := by
  obtain ⟨⟨s1, s2⟩, s3, s4, s5, s6, s7⟩ := h
  simp only at s1 s2 s3 s4 s5 s6 s7
  rw [apF_iff]
  have hlen := arL_len A
  have a0 : (arL A)[0]? = some A.top := rfl
  have a1 : (arL A)[1]? = some A.worn := rfl
  have wl : ∀ j : Nat, j < A.size.toNat → IntKind.wrap .i64 (A.links + j) = A.links + j := fun j hj => wrap64 (by omega) (by omega)
  unfold Ar.apart
  constructor
  · intro hh
    have c1 := hh 1 (by omega) (by omega)
    unfold apC at c1
    rw [a1] at c1
    simp only [Option.getD_some] at c1
    have t1 : A.top ≠ A.worn := fun e => c1.2.2 (mem_take.2 ⟨0, by omega, by rw [a0, e]⟩)
    have g0 := arL_at A (j := 0) (by omega)
    simp only [Nat.mul_zero, Nat.add_zero] at g0
    have w0 : IntKind.wrap .i64 (A.gens + (0 : Nat)) = A.gens := by rw [wrap64 (by omega) (by omega)]; omega
    have c3 := hh 3 (by omega) (by omega)
    unfold apC at c3
    rw [g0.2, w0] at c3
    simp only [Option.getD_some] at c3
    have wg : ∀ j : Nat, j < A.size.toNat → IntKind.wrap .i64 (A.gens + j) = A.gens + j := fun j hj => wrap64 (by omega) (by omega)
    have cg : ∀ j : Nat, j < A.size.toNat → A.gens + j < c ∧ ∀ m, m < 3 + 2 * j → (arL A)[m]? ≠ some (A.gens + j) := fun j hj => by
      have k := hh (3 + 2 * j) (by omega) (by omega)
      unfold apC at k
      rw [(arL_at A hj).2, wg j hj] at k
      simp only [Option.getD_some] at k
      exact ⟨k.2.1, fun m hm e => k.2.2 (mem_take.2 ⟨m, hm, e⟩)⟩
    have cl : ∀ j : Nat, j < A.size.toNat → ∀ m, m < 2 + 2 * j → (arL A)[m]? ≠ some (A.links + j) := fun j hj => by
      have k := hh (2 + 2 * j) (by omega) (by omega)
      unfold apC at k
      rw [(arL_at A hj).1, wl j hj] at k
      simp only [Option.getD_some] at k
      exact fun m hm e => k.2.2 (mem_take.2 ⟨m, hm, e⟩)
    have last := (cg (A.size.toNat - 1) (by omega)).1
    refine ⟨⟨by omega, by omega, by omega, by omega⟩, fun e => ?_, t1, fun e => ?_, fun e => ?_, ?_⟩
    · refine (cg (A.top - A.gens).toNat (by omega)).2 0 (by omega) ?_
      rw [a0]; congr 1; omega
    · refine (cl (A.worn - A.links).toNat (by omega)) 1 (by omega) ?_
      rw [a1]; congr 1; omega
    · refine (cg (A.worn - A.gens).toNat (by omega)).2 1 (by omega) ?_
      rw [a1]; congr 1; omega
    · by_cases q : A.links ≤ A.gens
      · by_cases q2 : A.links + A.size ≤ A.gens
        · exact .inl q2
        · exfalso
          have hi : (A.gens - A.links).toNat < A.size.toNat := by omega
          refine (cl (A.gens - A.links).toNat hi) 3 ?_ ?_
          · rcases Nat.eq_zero_or_pos (A.gens - A.links).toNat with hz | hz
            · exfalso
              refine (cg 0 (by omega)).2 2 (by omega) ?_
              have := (arL_at A (j := 0) (by omega)).1
              simp only [Nat.mul_zero, Nat.add_zero] at this
              rw [this, wl 0 (by omega)]
              congr 1; omega
            · omega
          · rw [g0.2, w0]; congr 1; omega
      · by_cases q2 : A.gens + A.size ≤ A.links
        · exact .inr q2
        · exfalso
          have hi : (A.links - A.gens).toNat < A.size.toNat := by omega
          refine (cg (A.links - A.gens).toNat hi).2 2 (by omega) ?_
          have := (arL_at A (j := 0) (by omega)).1
          simp only [Nat.mul_zero, Nat.add_zero] at this
          rw [this, wl 0 (by omega)]
          congr 1; omega
  · rintro ⟨⟨b1, b2, b3, b4⟩, d1, d2, d3, d4, d5⟩ k hk0 hk
    have wg : ∀ j : Nat, j < A.size.toNat → IntKind.wrap .i64 (A.gens + j) = A.gens + j := fun j hj => wrap64 (by omega) (by omega)
    have form : ∀ m, m < (arL A).length → (m = 0 ∧ (arL A)[m]? = some A.top) ∨ (m = 1 ∧ (arL A)[m]? = some A.worn) ∨ (∃ j, j < A.size.toNat ∧ m = 2 + 2 * j ∧ (arL A)[m]? = some (A.links + j)) ∨ (∃ j, j < A.size.toNat ∧ m = 3 + 2 * j ∧ (arL A)[m]? = some (A.gens + j)) := by
      intro m hm
      rcases (show m = 0 ∨ m = 1 ∨ (∃ j, j < A.size.toNat ∧ m = 2 + 2 * j) ∨ (∃ j, j < A.size.toNat ∧ m = 3 + 2 * j) by
        rcases Nat.lt_or_ge m 2 with h | h
        · omega
        · rcases Nat.mod_two_eq_zero_or_one m with e | e
          · exact .inr (.inr (.inl ⟨(m - 2) / 2, by omega, by omega⟩))
          · exact .inr (.inr (.inr ⟨(m - 3) / 2, by omega, by omega⟩))) with rfl | rfl | ⟨j, hj, rfl⟩ | ⟨j, hj, rfl⟩
      · exact .inl ⟨rfl, a0⟩
      · exact .inr (.inl ⟨rfl, a1⟩)
      · exact .inr (.inr (.inl ⟨j, hj, rfl, by rw [(arL_at A hj).1, wl j hj]⟩))
      · exact .inr (.inr (.inr ⟨j, hj, rfl, by rw [(arL_at A hj).2, wg j hj]⟩))
    unfold apC
    rw [mem_take]
    rcases form k (by omega) with ⟨rfl, e⟩ | ⟨rfl, e⟩ | ⟨j, hj, rfl, e⟩ | ⟨j, hj, rfl, e⟩
    all_goals
      rw [e]
      simp only [Option.getD_some]
      refine ⟨by omega, by omega, ?_⟩
      rintro ⟨m, hm, e'⟩
      rcases form m (by omega) with ⟨rfl, e2⟩ | ⟨rfl, e2⟩ | ⟨j', hj', rfl, e2⟩ | ⟨j', hj', rfl, e2⟩
      all_goals
        rw [e2] at e'
        simp only [Option.some.injEq] at e'
        omega
theorem fits_same {A : Ar} {c : Int} (hg : -9223372036854775808 ≤ A.gens ∧ A.gens ≤ 9223372036854775807) : afitsI A c = rfitsI A c := by
  unfold afitsI rfitsI
  by_cases c1 : c < 1 ∨ 4096 < c
  · rw [if_pos c1, if_pos c1]
  rw [if_neg c1, if_neg c1]
  have hc : c ≤ 4096 := by omega
  have : (A.fitsIn c ∧ markA ((List.replicate c.toNat false).set A.top.toNat true) A.rows ≠ none) ↔ (A.R.fitsIn c ∧ A.lim ∧ apF (arL A) c (arL A).length 0 = true) := by
    constructor
    · rintro ⟨h1, h2⟩
      have h3 := (mark_iff hc h1).1 h2
      obtain ⟨k1, k2, k3⟩ := h1
      exact ⟨k1, k2, (ap_iff hc hg k1).2 ⟨k3, h3⟩⟩
    · rintro ⟨k1, k2, k3⟩
      obtain ⟨k4, k5⟩ := (ap_iff hc hg k1).1 k3
      have h1 : A.fitsIn c := ⟨k1, k2, k4⟩
      exact ⟨h1, (mark_iff hc h1).2 k5⟩
  by_cases h : A.R.fitsIn c ∧ A.lim ∧ apF (arL A) c (arL A).length 0 = true
  · rw [if_pos (this.2 h), if_pos h]
  · rw [if_neg (fun k => h (this.1 k)), if_neg h]
theorem fits_zero {A : Ar} {c : Int} (hg : -9223372036854775808 ≤ A.gens ∧ A.gens ≤ 9223372036854775807) (h : rfitsI A c = 0) : 1 ≤ c ∧ c ≤ 4096 ∧ A.ok := by
  rw [← fits_same hg] at h
  unfold afitsI at h
  split at h
  · cases h
  · split at h
    · rename_i c1 h1
      obtain ⟨⟨⟨⟨s1, s2⟩, s3, s4, s5, s6, s7⟩, ⟨l1, l2⟩, s8, s9, s10, s11⟩, -⟩ := h1
      simp only at s1 s2 s3 s4 s5 s6 s7
      exact ⟨by omega, by omega, ⟨s1, s2, s3, by simp only; omega, s5, by simp only; omega⟩, s8, by omega, s10, by omega, l1, l2⟩
    · cases h
end Go.Proofs.YtdohlgkmaeipjaaGreat.Lift

set_option linter.unusedVariables false
set_option linter.unusedSimpArgs false
set_option maxRecDepth 20000
namespace Go.Proofs.YtdohlgkmaeipjaaGreat.Lift
open Go Go.Proofs.YtdohlgkmaeipjaaGreat.Gh Go.Proofs
/-! ### How an arena is laid -/
def lnkV (R : Sk) (i : Nat) : Int := if (i : Int) + 1 = R.size then 0 else i + 2
def lnkN (R : Sk) : Nat → Nat → MS → MS
  | 0, _, s => s
  | k + 1, i, s => lnkN R k (i + 1) (s.store (R.links + i) (lnkV R i))
theorem lnkN_last (R : Sk) : ∀ (k i : Nat) (s : MS), lnkN R (k + 1) i s = (lnkN R k i s).store (R.links + (i + k : Nat)) (lnkV R (i + k))
  | 0, i, s => rfl
  | k + 1, i, s => by
    have := lnkN_last R k (i + 1) (s.store (R.links + i) (lnkV R i))
    rw [lnkN, this]
    rw [show i + 1 + k = i + (k + 1) by omega]; rfl
def fillS (R : Sk) (s : MS) : MS := lnkN R R.size.toNat 0 (s.store R.top 1)
def genN (A : Ar) : Nat → Nat → MS → MS
  | 0, _, s => s
  | k + 1, i, s => genN A k (i + 1) (s.store (A.gens + i) 1)
def fillA (A : Ar) (s : MS) : MS := genN A A.size.toNat 0 ((Lift.fillS A.R s).store A.worn 0)
theorem lnkN_ok (R : Sk) (hR : R.ok) : ∀ (k i : Nat) (s : MS), (i + k : Nat) ≤ R.size → s.ok → (lnkN R k i s).ok
  | 0, _, s, _, h => h
  | k + 1, i, s, hi, h => lnkN_ok R hR k (i + 1) _ (by omega) (h.store _ (by have := hR.2.1; unfold lnkV U; split <;> omega))
theorem genN_ok (A : Ar) : ∀ (k i : Nat) (s : MS), s.ok → (genN A k i s).ok
  | 0, _, s, h => h
  | k + 1, i, s, h => genN_ok A k (i + 1) _ (h.store _ ⟨by decide, by decide⟩)
theorem fillA_ok {A : Ar} (hA : A.ok) {s : MS} (h : s.ok) : (fillA A s).ok := by
  have h1 := hA.1.1
  simp only at h1
  exact genN_ok A _ _ _ ((lnkN_ok A.R hA.1 _ _ _ (by simp only; omega) (h.store _ ⟨by decide, by decide⟩)).store _ ⟨by decide, by decide⟩)
section
variable {m r rb : Nat} {own own0 : Nat → Nat} {G G0 : GS} {s : MS} {R : Sk} {A : Ar}
theorem sfill_lp (orc : FuncId → Bool) (ht : orc 271 = false) (hR : R.ok) (hrb : rb < G0.nx) (trb : own0 rb ≠ 10) (orb : G0.obj rb = some ⟨[.int .i64 R.top, .int .i64 R.links, .int .i64 R.size], 1, false, 1⟩) {n : Nat} (hn : R.size = n) :
    ∀ (k i : Nat) (τ : Env) (own : Nat → Nat) (G : GS) (s : MS), i + k = n → PW no own0 G0 own G m s → τ 1 = P0 m → τ 2 = P0 rb → τ 15 = .int .i64 n → τ 16 = .int .i64 i →
    Wp ((exL Q orc).lpx 257 0 τ G) fun q => q.1 = .exit 0 ∧ ∃ own', PW no own0 G0 own' q.2.2 m (lnkN R k i s) := by
  intro k
  induction k with
  | zero =>
    intro i τ own G s hi w t1 t2 t15 t16
    have hi' : i = n := by omega
    subst hi'
    refine Wp.lp (l257_0 (exL_ok Q orc)) ?_
    simp [b257_0, bb257_0, clip_t, t1, t2, t15, t16, lnkN]
    exact ⟨own, w⟩
  | succ k ih =>
    intro i τ own G s hi w t1 t2 t15 t16
    have hR1 := hR.1; have hR2 := hR.2.1; have hR5 := hR.2.2.2.2.1; have hR6 := hR.2.2.2.2.2
    have o := (w.keep hrb trb id).trans orb
    have hlt : i < n := by omega
    have hw : IntKind.wrap .i64 ((i : Int) + 1) = ((i + 1 : Nat) : Int) := wrap64 (by omega) (by omega)
    have ha : IntKind.wrap .i64 (R.links + i) = R.links + i := wrap64 (by omega) (by omega)
    refine Wp.lp (l257_0 (exL_ok Q orc)) ?_
    have w0 := w.ext ((Ext.refl G).room 8)
    have o0 : (G.room 8).obj rb = some ⟨[.int .i64 R.top, .int .i64 R.links, .int .i64 R.size], 1, false, 1⟩ := o
    by_cases hl : (i : Int) + 1 = R.size
    · have hl' : ((i + 1 : Nat) : Int) = R.size := by omega
      have hv : lnkV R i = 0 := by unfold lnkV; rw [if_pos hl]
      obtain ⟨G1, e1, x1⟩ := link_ok orc ht (i := -1) (by decide) (G.room 8)
      have w1 := w0.ext x1
      have o1 := (x1.obj rb (Nat.lt_of_lt_of_le hrb w0.nx)).trans o0
      obtain ⟨own2, G2, e2, w2⟩ := w1.pm.store orc (R.links + i) 0
      simp [-Int.natCast_add, b257_0, bb257_0, jl257_0_0, jbl257_0_0, clip_t, t1, t2, t15, t16, hlt, hw, o, hl', ha, e1, o1, e2]
      refine (ih (i + 1) _ _ G2 _ (by omega) (w1.trans w2 fun _ _ h => h) (by simp [clip_t]) (by simp [clip_t]) (by simp [clip_t]) (by simp [clip_t]; omega)).mono ?_
      rintro q ⟨q1, own', q2⟩
      exact ⟨q1, own', by simpa [lnkN, hv] using q2⟩
    · have hl' : ¬ ((i + 1 : Nat) : Int) = R.size := by omega
      have hv : lnkV R i = i + 2 := by unfold lnkV; rw [if_neg hl]
      obtain ⟨G1, e1, x1⟩ := link_ok orc ht (i := ((i + 1 : Nat) : Int)) (by omega) (G.room 8)
      have w1 := w0.ext x1
      have o1 := (x1.obj rb (Nat.lt_of_lt_of_le hrb w0.nx)).trans o0
      have hv2 : ((i + 1 : Nat) : Int) + 1 = i + 2 := by omega
      rw [hv2] at e1
      obtain ⟨own2, G2, e2, w2⟩ := w1.pm.store orc (R.links + i) (i + 2)
      simp [-Int.natCast_add, b257_0, bb257_0, jl257_0_0, jbl257_0_0, clip_t, t1, t2, t15, t16, hlt, hw, o, hl', ha, e1, o1, e2]
      refine (ih (i + 1) _ _ G2 _ (by omega) (w1.trans w2 fun _ _ h => h) (by simp [clip_t]) (by simp [clip_t]) (by simp [clip_t]) (by simp [clip_t])).mono ?_
      rintro q ⟨q1, own', q2⟩
      exact ⟨q1, own', by simpa [lnkN, hv] using q2⟩
theorem sfill_ok (orc : FuncId → Bool) (ht : orc 271 = false) (hR : R.ok) (h : PM own G m s) : ∃ own' G', (E orc).cl 257 [R.v, P0 m] G = some (.tuple #[], G') ∧ PW no own G own' G' m (Lift.fillS R s) := by
  obtain ⟨n, hn⟩ : ∃ n : Nat, R.size = n := ⟨R.size.toNat, by have := hR.1; omega⟩
  have w : Wp (s257 true (exL Q orc) R.v (P0 m) G) fun q => q.1 = .tuple #[] ∧ ∃ own', PW no own G own' q.2 m (Lift.fillS R s) := by
    obtain ⟨G1, hG1⟩ : ∃ G1, G1 = G.push ⟨[.int .i64 R.top, .int .i64 R.links, .int .i64 R.size], 1, false, 1⟩ := ⟨_, rfl⟩
    have x1 : Ext G G1 := by rw [hG1]; exact (Ext.refl G).push _
    have o1 : G1.obj G.nx = some ⟨[.int .i64 R.top, .int .i64 R.links, .int .i64 R.size], 1, false, 1⟩ := by rw [hG1]; simp
    have n1 : G1.nx = G.nx + 1 := by rw [hG1]; rfl
    have e2 := ssized_ok orc R G1
    have hz : R.sized := ⟨hR.1, hR.2.1⟩
    simp only [hz, decide_true] at e2
    obtain ⟨G2, hG2⟩ : ∃ G2, G2 = G1.push ⟨[.int .i64 R.top, .int .i64 R.links, .int .i64 R.size], 1, false, 1⟩ := ⟨_, rfl⟩
    rw [← hG2] at e2
    have x2 : Ext G1 G2 := by rw [hG2]; exact (Ext.refl _).push _
    have o2 := (x2.obj _ (by omega)).trans o1
    obtain ⟨G3, e3, x3⟩ := link_ok orc ht (i := 0) (by decide) (G2.room 5)
    have y3 := (x1.trans x2).trans (((Ext.refl G2).room 5).trans x3)
    have o3 := ((((Ext.refl G2).room 5).trans x3).obj _ (by have := x2.nx; omega)).trans o2
    have w3 := (PW.refl (B := no) h).ext y3
    obtain ⟨own4, G4, e4, w4⟩ := w3.pm.store orc R.top (0 + 1)
    have t0 : grown own G 13 G.nx = 13 := grown_new (Nat.le_refl _)
    have n3 : G.nx < G3.nx := by have := x2.nx; have := x3.nx; simp at this; omega
    have o4 := (w4.keep n3 (by rw [t0]; decide) id).trans o3
    have w34 := w3.trans w4 fun _ _ h => h
    simp only [Int.zero_add] at e3 e4 w4 w34
    simp [s257, ← hG1, o1, e2, o2, e3, o3, e4, o4]
    refine Wp.bE ((sfill_lp orc ht hR (rb := G.nx) (G0 := G3) (own0 := grown own G 13) n3 (by rw [t0]; decide) o3 hn n 0 _ own4 G4 (s.store R.top 1) (by omega) w4 (by simp) (by simp) (by simp [hn]) (by simp)).mono ?_)
    rintro ⟨e, τ, G5⟩ ⟨rfl, own5, q⟩
    simp only at q
    simp
    refine ⟨own5, w3.trans ?_ fun _ _ h => h⟩
    simpa [Lift.fillS, hn] using q
  obtain ⟨⟨v, G'⟩, e1, rfl, own', hh⟩ := w
  exact ⟨own', G', f257 (exL_ok Q orc) _ _ G _ e1, hh⟩
theorem afill_lp (orc : FuncId → Bool) (hA : A.ok) (hrb : rb < G0.nx) (trb : own0 rb ≠ 10) (orb : G0.obj rb = some ⟨A.cells, 1, false, 1⟩) {n : Nat} (hn : A.size = n) :
    ∀ (k i : Nat) (τ : Env) (own : Nat → Nat) (G : GS) (s : MS), i + k = n → PW no own0 G0 own G m s → τ 1 = P0 m → τ 2 = P0 rb → τ 18 = .int .i64 n → τ 19 = .int .i64 i →
    Wp ((exL Q orc).lpx 171 0 τ G) fun q => q.1 = .exit 0 ∧ ∃ own', PW no own0 G0 own' q.2.2 m (genN A k i s) := by
  intro k
  induction k with
  | zero =>
    intro i τ own G s hi w t1 t2 t15 t16
    have hi' : i = n := by omega
    subst hi'
    refine Wp.lp (l171_0 (exL_ok Q orc)) ?_
    simp [b171_0, clip_t, t1, t2, t15, t16, genN]
    exact ⟨own, w⟩
  | succ k ih =>
    intro i τ own G s hi w t1 t2 t15 t16
    have h1 := hA.2.1; have h2 := hA.2.2.1; have h3 := hA.1.2.1
    simp only at h3
    have o := (w.keep hrb trb id).trans orb
    have hlt : i < n := by omega
    have hw : IntKind.wrap .i64 ((i : Int) + 1) = ((i + 1 : Nat) : Int) := wrap64 (by omega) (by omega)
    have ha : IntKind.wrap .i64 (A.gens + i) = A.gens + i := wrap64 (by omega) (by omega)
    refine Wp.lp (l171_0 (exL_ok Q orc)) ?_
    obtain ⟨own2, G2, e2, w2⟩ := w.pm.store orc (A.gens + i) 1
    simp [-Int.natCast_add, b171_0, clip_t, t1, t2, t15, t16, hlt, hw, o, ha, e2]
    refine (ih (i + 1) _ _ G2 _ (by omega) (w.trans w2 fun _ _ h => h) (by simp [clip_t]) (by simp [clip_t]) (by simp [clip_t]) (by simp [clip_t])).mono ?_
    rintro q ⟨q1, own', q2⟩
    exact ⟨q1, own', by simpa [genN] using q2⟩
theorem afill_ok (orc : FuncId → Bool) (ht : orc 271 = false) (hA : A.ok) (h : PM own G m s) : ∃ own' G', (E orc).cl 171 [A.v, P0 m] G = some (.tuple #[], G') ∧ PW no own G own' G' m (fillA A s) := by
  obtain ⟨n, hn⟩ : ∃ n : Nat, A.size = n := ⟨A.size.toNat, by have := hA.1.1; simp only at this; omega⟩
  have w : Wp (s171 true (exL Q orc) A.v (P0 m) G) fun q => q.1 = .tuple #[] ∧ ∃ own', PW no own G own' q.2 m (fillA A s) := by
    obtain ⟨G1, hG1⟩ : ∃ G1, G1 = G.push ⟨A.cells, 1, false, 1⟩ := ⟨_, rfl⟩
    have x1 : Ext G G1 := by rw [hG1]; exact (Ext.refl G).push _
    have o1 : G1.obj G.nx = some ⟨A.cells, 1, false, 1⟩ := by rw [hG1]; simp
    have n1 : G1.nx = G.nx + 1 := by rw [hG1]; rfl
    have e2 : ∃ G2, (E orc).cl 256 [A.v] G1 = some (.bool true, G2) ∧ Ext G1 G2 := by
      have z1 := hA.1.1; have z2 := hA.1.2.1
      simp only at z1 z2
      exact ⟨G1.push ⟨A.cells, 1, false, 1⟩, f256 (exL_ok Q orc) _ G1 _ (by simp [s256, z1, z2]), (Ext.refl _).push _⟩
    obtain ⟨G2, e2, x2⟩ := e2
    have o2 := (x2.obj _ (by omega)).trans o1
    have n2 := x2.nx
    have w2 := (PW.refl (B := no) h).ext (x1.trans x2)
    obtain ⟨own3, G3, e3, w3⟩ := sfill_ok orc ht (R := A.R) hA.1 w2.pm
    have t0 : grown own G 13 G.nx = 13 := grown_new (Nat.le_refl _)
    have o3 := (w3.keep (show G.nx < G2.nx by omega) (by rw [t0]; decide) id).trans o2
    have t3 : own3 G.nx = 13 := (w3.stp.same (by omega)).trans t0
    obtain ⟨own4, G4, e4, w4⟩ := w3.pm.store orc A.worn 0
    have n3 := w3.nx
    have o4 := (w4.keep (show G.nx < G3.nx by omega) (by rw [t3]; decide) id).trans o3
    simp [s171, ← hG1, o1, e2, o2, e3, o3, e4, o4]
    refine Wp.bE ((afill_lp orc hA (rb := G.nx) (G0 := G3) (own0 := own3) (by omega) (by rw [t3]; decide) o3 hn n 0 _ own4 G4 _ (by omega) w4 (by simp) (by simp) (by simp [hn]) (by simp)).mono ?_)
    rintro ⟨e, τ, G5⟩ ⟨rfl, own5, q⟩
    simp only at q
    simp
    refine ⟨own5, (w2.trans w3 fun _ _ h => h).trans ?_ fun _ _ h => h⟩
    simpa [fillA, hn] using q
  obtain ⟨⟨v, G'⟩, e1, rfl, own', hh⟩ := w
  exact ⟨own', G', f171 (exL_ok Q orc) _ _ G _ e1, hh⟩
end
end Go.Proofs.YtdohlgkmaeipjaaGreat.Lift

set_option linter.unusedVariables false
set_option linter.unusedSimpArgs false
set_option maxRecDepth 20000
namespace Go.Proofs.YtdohlgkmaeipjaaGreat.Lift
open Go Go.Proofs.YtdohlgkmaeipjaaGreat.Gh Go.Proofs
section
variable {m r rb : Nat} {own own0 : Nat → Nat} {G G0 : GS} {s : MS} {R : Sk} {A : Ar}
theorem rsfill_lp (orc : FuncId → Bool) (hR : R.ok) (hrb : rb < G0.nx) (trb : own0 rb ≠ 11) (orb : G0.obj rb = some ⟨[.int .i64 R.top, .int .i64 R.links, .int .i64 R.size], 1, false, 1⟩) {n : Nat} (hn : R.size = n + 1) :
    ∀ (k i : Nat) (τ : Env) (own : Nat → Nat) (G : GS) (s : MS), i + k = n → RW no own0 G0 own G r s → τ 1 = P0 r → τ 2 = P0 rb → τ 4 = .int .i64 i →
    Wp ((exL Q orc).lpx 261 0 τ G) fun q => q.1 = .exit 0 ∧ q.2.1 1 = P0 r ∧ q.2.1 2 = P0 rb ∧ ∃ own', RW no own0 G0 own' q.2.2 r (lnkN R k i s) := by
  intro k
  induction k with
  | zero =>
    intro i τ own G s hi w t1 t2 t4
    have hR1 := hR.1; have hR2 := hR.2.1
    have hi' : (i : Int) = R.size - 1 := by omega
    have o := (w.keep hrb trb id).trans orb
    have hs : IntKind.wrap .i64 (R.size - 1) = R.size - 1 := wrap64 (by omega) (by omega)
    refine Wp.lp (l261_0 (exL_ok Q orc)) ?_
    simp [b261_0, clip_t, t1, t2, t4, o, hs, hi', lnkN]
    exact ⟨own, w⟩
  | succ k ih =>
    intro i τ own G s hi w t1 t2 t4
    have hR1 := hR.1; have hR2 := hR.2.1; have hR5 := hR.2.2.2.2.1; have hR6 := hR.2.2.2.2.2
    have o := (w.keep hrb trb id).trans orb
    have hlt : (i : Int) < R.size - 1 := by omega
    have hs : IntKind.wrap .i64 (R.size - 1) = R.size - 1 := wrap64 (by omega) (by omega)
    have hw : IntKind.wrap .i64 ((i : Int) + 1) = ((i + 1 : Nat) : Int) := wrap64 (by omega) (by omega)
    have ha : IntKind.wrap .i64 (R.links + i) = R.links + i := wrap64 (by omega) (by omega)
    have hb : IntKind.wrap .i64 ((i : Int) + 2) = i + 2 := wrap64 (by omega) (by omega)
    have hb2 : IntKind.wrap .u64 ((i : Int) + 2) = i + 2 := by rw [wrap_u64]; omega
    have hv : lnkV R i = i + 2 := by unfold lnkV; rw [if_neg (by omega)]
    obtain ⟨own2, G2, e2, w2⟩ := w.rm.store orc (R.links + i) (i + 2)
    refine Wp.lp (l261_0 (exL_ok Q orc)) ?_
    simp [-Int.natCast_add, b261_0, clip_t, t1, t2, t4, o, hs, hlt, hw, ha, hb, hb2, e2]
    refine (ih (i + 1) _ _ G2 _ (by omega) (w.trans w2 fun _ _ h => h) (by simp [clip_t]) (by simp [clip_t]) (by simp [clip_t])).mono ?_
    rintro q ⟨q1, q2, q3, own', q4⟩
    exact ⟨q1, q2, q3, own', by simpa [lnkN, hv] using q4⟩
theorem rsfill_ok (orc : FuncId → Bool) (hR : R.ok) (h : RM own G r s) : ∃ own' G', (E orc).cl 261 [R.v, P0 r] G = some (.tuple #[], G') ∧ RW no own G own' G' r (Lift.fillS R s) := by
  have hR1 := hR.1; have hR2 := hR.2.1; have hR5 := hR.2.2.2.2.1; have hR6 := hR.2.2.2.2.2
  obtain ⟨n, hn⟩ : ∃ n : Nat, R.size = n + 1 := ⟨(R.size - 1).toNat, by omega⟩
  have w : Wp (s261 true (exL Q orc) R.v (P0 r) G) fun q => q.1 = .tuple #[] ∧ ∃ own', RW no own G own' q.2 r (Lift.fillS R s) := by
    obtain ⟨G1, hG1⟩ : ∃ G1, G1 = G.push ⟨[.int .i64 R.top, .int .i64 R.links, .int .i64 R.size], 1, false, 1⟩ := ⟨_, rfl⟩
    have x1 : Ext G G1 := by rw [hG1]; exact (Ext.refl G).push _
    have o1 : G1.obj G.nx = some ⟨[.int .i64 R.top, .int .i64 R.links, .int .i64 R.size], 1, false, 1⟩ := by rw [hG1]; simp
    have n1 : G1.nx = G.nx + 1 := by rw [hG1]; rfl
    have z1 : ¬ R.size < 1 := by omega
    have z2 : ¬ 4096 < R.size := by omega
    have w1 := (RW.refl (B := no) h).ext x1
    obtain ⟨own4, G4, e4, w4⟩ := w1.rm.store orc R.top 1
    have t0 : grown own G 13 G.nx = 13 := grown_new (Nat.le_refl _)
    have a1 : IntKind.wrap .i64 (R.links + R.size) = R.links + R.size := wrap64 (by omega) (by omega)
    have a2 : IntKind.wrap .i64 (R.links + R.size - 1) = R.links + R.size - 1 := wrap64 (by omega) (by omega)
    simp [s261, ← hG1, o1, z1, z2, e4]
    refine Wp.bE ((rsfill_lp orc hR (rb := G.nx) (G0 := G1) (own0 := grown own G 13) (by omega) (by rw [t0]; decide) o1 hn n 0 _ own4 G4 (s.store R.top 1) (by omega) w4 (by simp) (by simp) (by simp)).mono ?_)
    rintro ⟨e, τ, G5⟩ ⟨rfl, q1, q2, own5, q⟩
    simp only at q q1 q2
    have o5 := (q.keep (show G.nx < G1.nx by omega) (by rw [t0]; decide) id).trans o1
    obtain ⟨own6, G6, e6, w6⟩ := q.rm.store orc (R.links + R.size - 1) 0
    simp [q1, q2, o5, a1, a2, e6]
    refine ⟨own6, w1.trans (q.trans (B' := no) ?_ fun _ _ h => h) fun _ _ h => h⟩
    have hsz : R.size.toNat = n + 1 := by omega
    have hval : lnkV R (0 + n) = 0 := by unfold lnkV; rw [if_pos (by omega)]
    have hadr : R.links + ((0 + n : Nat) : Int) = R.links + R.size - 1 := by omega
    have : Lift.fillS R s = (lnkN R n 0 (s.store R.top 1)).store (R.links + R.size - 1) 0 := by
      unfold Lift.fillS
      rw [hsz, lnkN_last, hval, hadr]
    rw [this]
    exact w6
  obtain ⟨⟨v, G'⟩, e1, rfl, own', hh⟩ := w
  exact ⟨own', G', f261 (exL_ok Q orc) _ _ G _ e1, hh⟩
theorem rafill_lp (orc : FuncId → Bool) (hA : A.ok) (hrb : rb < G0.nx) (trb : own0 rb ≠ 11) (orb : G0.obj rb = some ⟨A.cells, 1, false, 1⟩) {n : Nat} (hn : A.size = n) :
    ∀ (k i : Nat) (τ : Env) (own : Nat → Nat) (G : GS) (s : MS), i + k = n → RW no own0 G0 own G r s → τ 1 = P0 r → τ 2 = P0 rb → τ 4 = .int .i64 i →
    Wp ((exL Q orc).lpx 178 0 τ G) fun q => q.1 = .exit 0 ∧ ∃ own', RW no own0 G0 own' q.2.2 r (genN A k i s) := by
  intro k
  induction k with
  | zero =>
    intro i τ own G s hi w t1 t2 t4
    have hi' : (i : Int) = A.size := by omega
    have o := (w.keep hrb trb id).trans orb
    refine Wp.lp (l178_0 (exL_ok Q orc)) ?_
    simp [b178_0, clip_t, t1, t2, t4, o, hi', genN]
    exact ⟨own, w⟩
  | succ k ih =>
    intro i τ own G s hi w t1 t2 t4
    have h1 := hA.2.1; have h2 := hA.2.2.1; have h3 := hA.1.2.1
    simp only at h3
    have o := (w.keep hrb trb id).trans orb
    have hlt : (i : Int) < A.size := by omega
    have hw : IntKind.wrap .i64 ((i : Int) + 1) = ((i + 1 : Nat) : Int) := wrap64 (by omega) (by omega)
    have ha : IntKind.wrap .i64 (A.gens + i) = A.gens + i := wrap64 (by omega) (by omega)
    obtain ⟨own2, G2, e2, w2⟩ := w.rm.store orc (A.gens + i) 1
    refine Wp.lp (l178_0 (exL_ok Q orc)) ?_
    simp [-Int.natCast_add, b178_0, clip_t, t1, t2, t4, o, hlt, hw, ha, e2]
    refine (ih (i + 1) _ _ G2 _ (by omega) (w.trans w2 fun _ _ h => h) (by simp [clip_t]) (by simp [clip_t]) (by simp [clip_t])).mono ?_
    rintro q ⟨q1, own', q2⟩
    exact ⟨q1, own', by simpa [genN] using q2⟩
theorem rafill_ok (orc : FuncId → Bool) (hA : A.ok) (h : RM own G r s) : ∃ own' G', (E orc).cl 178 [A.v, P0 r] G = some (.tuple #[], G') ∧ RW no own G own' G' r (fillA A s) := by
  have z1' := hA.1.1; have z2' := hA.1.2.1
  simp only at z1' z2'
  obtain ⟨n, hn⟩ : ∃ n : Nat, A.size = n := ⟨A.size.toNat, by omega⟩
  have w : Wp (s178 true (exL Q orc) A.v (P0 r) G) fun q => q.1 = .tuple #[] ∧ ∃ own', RW no own G own' q.2 r (fillA A s) := by
    obtain ⟨G1, hG1⟩ : ∃ G1, G1 = G.push ⟨A.cells, 1, false, 1⟩ := ⟨_, rfl⟩
    have x1 : Ext G G1 := by rw [hG1]; exact (Ext.refl G).push _
    have o1 : G1.obj G.nx = some ⟨A.cells, 1, false, 1⟩ := by rw [hG1]; simp
    have n1 : G1.nx = G.nx + 1 := by rw [hG1]; rfl
    have z1 : ¬ A.size < 1 := by omega
    have z2 : ¬ 4096 < A.size := by omega
    have w2 := (RW.refl (B := no) h).ext x1
    obtain ⟨own3, G3, e3, w3⟩ := rsfill_ok orc (R := A.R) hA.1 w2.rm
    have t0 : grown own G 13 G.nx = 13 := grown_new (Nat.le_refl _)
    have o3 := (w3.keep (show G.nx < G1.nx by omega) (by rw [t0]; decide) id).trans o1
    have t3 : own3 G.nx = 13 := (w3.stp.same (by omega)).trans t0
    obtain ⟨own4, G4, e4, w4⟩ := w3.rm.store orc A.worn 0
    have n3 := w3.nx
    simp [s178, ← hG1, o1, z1, z2, e3, o3, e4]
    refine Wp.bE ((rafill_lp orc hA (rb := G.nx) (G0 := G3) (own0 := own3) (by omega) (by rw [t3]; decide) o3 hn n 0 _ own4 G4 _ (by omega) w4 (by simp) (by simp) (by simp)).mono ?_)
    rintro ⟨e, τ, G5⟩ ⟨rfl, own5, q⟩
    simp only at q
    simp
    refine ⟨own5, (w2.trans w3 fun _ _ h => h).trans ?_ fun _ _ h => h⟩
    simpa [fillA, hn] using q
  obtain ⟨⟨v, G'⟩, e1, rfl, own', hh⟩ := w
  exact ⟨own', G', f178 (exL_ok Q orc) _ _ G _ e1, hh⟩
end
/-! words that are written in ahead: in both memories -/
section
variable {m r rb : Nat} {own own0 : Nat → Nat} {G G0 : GS} {s : MS} {A : Ar}
theorem laid_lp (orc : FuncId → Bool) {v2 : Value} {W : List Int} (hv : SlR (rowsI .u64) G0 v2 W) (hW : W.length < 2 ^ 40) (hi0 : ∀ x, InB v2 x → own0 x ∉ [10, 11]) : ∀ (k i : Nat) (τ : Env) (G : GS) (own : Nat → Nat) (s : MS), i + k = W.length → τ 2 = v2 → τ 8 = P0 m → τ 10 = P0 r → τ 12 = .int .i64 i →
    Agr own0 own G0 → ModT [10, 11] own0 G0 G → PM own G m s → RM own G r s →
    Wp ((exL Q orc).lpx 58 0 τ G) fun q => q.1 = .exit 0 ∧ q.2.1 8 = P0 m ∧ q.2.1 10 = P0 r ∧ ∃ own'', Agr own0 own'' G0 ∧ ModT [10, 11] own0 G0 q.2.2 ∧ PM own'' q.2.2 m (putsN (W.drop i) i s) ∧ RM own'' q.2.2 r (putsN (W.drop i) i s) := by
  intro k
  induction k with
  | zero =>
    intro i τ G own s hi t2 t8 t10 t12 ha hm h h'
    have hi' : i = W.length := by omega
    subst hi'
    obtain ⟨a, c, rfl⟩ := hv.len
    refine Wp.lp (l58_0 (exL_ok Q orc)) ?_
    simp [b58_0, clip_t, t2, t8, t10, t12, putsN]
    exact ⟨own, ha, hm, h, h'⟩
  | succ k ih =>
    intro i τ G own s hi t2 t8 t10 t12 ha hm h h'
    have hlt : i < W.length := by omega
    have hi0' : (0 : Int) ≤ i := by omega
    have hw : IntKind.wrap .i64 ((i : Int) + 1) = ((i + 1 : Nat) : Int) := wrap64 (by omega) (by omega)
    have kv : ∀ {G'}, ModT [10, 11] own0 G0 G' → SlR (rowsI .u64) G' v2 W := fun q => hv.kept q.nx fun g hg => q.same (hv.under g hg) (hi0 g hg)
    obtain ⟨b, o, c, e0, _, q0, _⟩ := (kv hm).at hlt
    have q1 := q0 0 (by decide)
    simp at q1
    refine Wp.lp (l58_0 (exL_ok Q orc)) ?_
    obtain ⟨own1, G1, e1, w1⟩ := h.store orc i W[i]
    have m1 : ModT [10, 11] own G G1 := (w1.stp.modT (i := 10) (fun _ _ h => h.elim)).mono (by simp)
    have hm1 : ModT [10, 11] own0 G0 G1 := hm.trans ha m1
    have ha1 : Agr own0 own1 G0 := ha.trans w1.stp.agr hm.nx
    obtain ⟨b', o', c', e0', _, q0', _⟩ := (kv hm1).at hlt
    have q1' := q0' 0 (by decide)
    rw [e0] at e0'
    cases e0'
    simp at q1'
    have h1' := h'.to w1.stp (by decide) fun _ _ h => h.elim
    obtain ⟨own2, G2, e2, w2⟩ := h1'.store orc i W[i]
    have m2 : ModT [10, 11] own1 G1 G2 := (w2.stp.modT (i := 10) (fun _ _ h => h.elim)).mono (by simp)
    simp [-Int.natCast_add, b58_0, clip_t, t2, t8, t10, t12, e0, hlt, hi0', q1, e1, q1', e2, hw]
    rw [List.drop_eq_getElem_cons hlt]
    exact ih (i + 1) _ G2 own2 _ (by omega) (by simp [clip_t, e0]) (by simp [clip_t]) (by simp [clip_t]) (by simp [clip_t]) (ha1.trans w2.stp.agr hm1.nx) (hm1.trans ha1 m2) (w1.pm.to w2.stp (by decide) fun _ _ h => h.elim) w2.rm
def laidI (A : Ar) (n : Int) (W : List Int) : MS := putsN W 0 (fillA A (MS.zero n.toNat))
theorem laid_ok (orc : FuncId → Bool) (ht : orc 271 = false) (hA : A.ok) {n : Int} (h1 : 1 ≤ n) (h2 : n ≤ 4096) {v2 : Value} {W : List Int} (hv : SlR (rowsI .u64) G v2 W) (hW : W.length < 2 ^ 40) :
    Wp ((E orc).cl 58 [A.v, .int .i64 n, v2] G) fun q => ∃ m r own, q.1 = .tuple #[P0 m, P0 r] ∧ Ext G q.2 ∧ PM own q.2 m (laidI A n W) ∧ RM own q.2 r (laidI A n W) ∧ ∀ x, x < G.nx → own x = 20 := by
  refine Wp.ref (f58 (exL_ok Q orc) _ _ _ G) ?_
  obtain ⟨G1, hG1⟩ : ∃ G1, G1 = G.push ⟨A.cells, 1, false, 1⟩ := ⟨_, rfl⟩
  have x0 : Ext G G1 := by rw [hG1]; exact (Ext.refl G).push _
  have o1 : G1.obj G.nx = some ⟨A.cells, 1, false, 1⟩ := by rw [hG1]; simp
  have n1 : G1.nx = G.nx + 1 := by rw [hG1]; rfl
  obtain ⟨m, G2, e2, x2, hm⟩ := (new_ok orc n G1).2 h1 h2
  obtain ⟨r, G3, e3, x3, hr⟩ := (rnew_ok orc n G2).2 h1 h2
  have n2 := x2.nx
  have n3 := x3.nx
  have o3 : G3.obj G.nx = some ⟨A.cells, 1, false, 1⟩ := by rw [x3.obj _ (by omega), x2.obj _ (by omega)]; exact o1
  obtain ⟨own0, hown⟩ : ∃ own0 : Nat → Nat, own0 = fun x => if x < G.nx then 20 else if x < G1.nx then 13 else if x < G2.nx then 10 else 11 := ⟨_, rfl⟩
  have hp : PM own0 G3 m (MS.zero n.toNat) := by
    rcases new2 (k := G.nx) hm hr x2.nx x3 with h | h
    · rw [hown]; exact h
    · omega
  have hq : RM own0 G3 r (MS.zero n.toNat) := by rw [hown]; exact new2' hr x2.nx (by omega)
  have t0 : own0 G.nx = 13 := by rw [hown]; simp [n1]
  have t20 : ∀ x, x < G.nx → own0 x = 20 := fun x hx => by rw [hown]; simp only; rw [if_pos hx]
  obtain ⟨own4, G4, e4, w4⟩ := afill_ok orc ht hA hp
  have o4 := (w4.keep (show G.nx < G3.nx by omega) (by rw [t0]; decide) id).trans o3
  have hq4 := hq.to w4.stp (by decide) fun _ _ h => h.elim
  obtain ⟨own5, G5, e5, w5⟩ := rafill_ok orc hA hq4
  have hp5 := w4.pm.to w5.stp (by decide) fun _ _ h => h.elim
  have m4 : ModT [10, 11] own0 G3 G4 := (w4.stp.modT (i := 10) (fun _ _ h => h.elim)).mono (by simp)
  have m5 : ModT [10, 11] own4 G4 G5 := (w5.stp.modT (i := 10) (fun _ _ h => h.elim)).mono (by simp)
  have m45 := m4.trans w4.stp.agr m5
  have ag : Agr own0 own5 G3 := w4.stp.agr.trans w5.stp.agr w4.nx
  have y := (x0.trans x2).trans x3
  simp [s58, ← hG1, e2, e3, o3, e4, o4, e5]
  refine Wp.bE ((laid_lp orc (G0 := G3) (own0 := own0) (hv.ext y) hW (fun x hx => by rw [t20 x (hv.under x hx)]; simp) W.length 0 _ G5 own5 _ (by omega) (by simp) (by simp) (by simp) (by simp) ag m45 hp5 w5.rm).mono ?_)
  rintro ⟨e, τ, G6⟩ ⟨rfl, q1, q2, own', q3, q4, q5, q6⟩
  simp only at q1 q2 q4 q5 q6
  simp [q1, q2]
  refine ⟨m, r, ⟨rfl, rfl⟩, q4.toExt (fun g hg => by rw [t20 g hg]; simp) y, own', ?_, ?_, fun x hx => (q3 x (by omega)).trans (t20 x hx)⟩
  · simpa [laidI] using q5
  · simpa [laidI] using q6
end
end Go.Proofs.YtdohlgkmaeipjaaGreat.Lift

set_option linter.unusedVariables false
set_option linter.unusedSimpArgs false
set_option maxRecDepth 20000
namespace Go.Proofs.YtdohlgkmaeipjaaGreat.Lift
open Go Go.Proofs.YtdohlgkmaeipjaaGreat.Gh Go.Proofs
structure AAct where
  core : Int
  what : Int
  i : Int
def rAAct : RowE AAct := ⟨3, fun x => [.int .i64 x.core, .int .i64 x.what, .int .i64 x.i], fun _ => rfl, fun _ => rfl, by decide⟩
@[simp] theorem rAAct_sz : rAAct.sz = 3 := rfl
@[simp] theorem rAAct_row (x : AAct) : rAAct.row x = [.int .i64 x.core, .int .i64 x.what, .int .i64 x.i] := rfl
section
variable {own own' : Nat → Nat} {G G' G0 B : GS} {m r cb rb : Nat} {s s' : MS} {A : Ar} {O : List CoreA}
/-- behind an act: all that is there is compared -/
theorem round_ok (orc : FuncId → Bool) {lp : Env → GS → Option (Exit × Env × GS)} {P : Exit × Env × GS → Prop} (hx : Ext B G) (hB : ∀ x, x < B.nx → own x = 20) (h : RI (opsA A) 4 own G m r cb s O) {τ : Env} {i : Nat} (hi : i < 2 ^ 40) {v3 : Value}
    (t3 : τ 3 = v3) (t4 : τ 4 = P0 rb) (t9 : τ 9 = P0 m) (t10 : τ 10 = P0 r) (t11 : τ 11 = .slice (some ⟨cb, 0, none⟩) 4 4) (t12 : τ 12 = .int .i64 i)
    (next : ∀ (own' : Nat → Nat) (τ' : Env) (G' : GS), Ext B G' → (∀ x, x < B.nx → own' x = 20) → RI (opsA A) 4 own' G' m r cb s O → τ' 3 = v3 → τ' 4 = P0 rb → τ' 9 = P0 m → τ' 10 = P0 r → τ' 11 = .slice (some ⟨cb, 0, none⟩) 4 4 → τ' 12 = .int .i64 ((i + 1 : Nat) : Int) → Wp (lp τ' G') P) :
    Wp (jl8_0_0 true (exL Q orc) lp τ G) P := by
  have hw : IntKind.wrap .i64 ((i : Int) + 1) = ((i + 1 : Nat) : Int) := wrap64 (by omega) (by omega)
  have hwl : s.W.length ≤ 4096 := h.ok.2
  simp [-Int.natCast_add, jl8_0_0, jbl8_0_0, t3, t4, t9, t10, t11, t12]
  refine Wp.stepX (f := fun v => v) (h.words orc) fun v1 G1 ⟨x1, w1⟩ => ?_
  try simp
  refine Wp.stepX (f := fun v => v) ((h.ext x1).rwords orc) fun v2 G2 ⟨x2, w2⟩ => ?_
  have y2 := x1.trans x2
  try simp
  refine Wp.step (same52 orc (w1.is.ext x2) w2.is (by omega)) fun G3 x3 => ?_
  have y3 := y2.trans x3
  try simp
  refine Wp.step ((h.ext y3).last orc) fun G4 x4 => ?_
  have y4 := y3.trans x4
  try simp
  refine Wp.step ((h.ext y4).rlast orc) fun G5 x5 => ?_
  have y5 := y4.trans x5
  have h5 := h.ext y5
  simp [acc_neq]
  refine Wp.stepE (h5.count orc) ?_
  try simp
  refine Wp.stepE (h5.rcount orc) ?_
  simp [-Int.natCast_add, hw]
  refine next _ _ G5 (hx.trans y5) (fun x hxx => (grown_agr x (Nat.lt_of_lt_of_le hxx hx.nx)).trans (hB x hxx)) h5 (by simp [clip_t]) (by simp [clip_t]) (by simp [clip_t]) (by simp [clip_t]) (by simp [clip_t]) (by simp [clip_t])
theorem steps_lp (orc : FuncId → Bool) (ht : orc 271 = false) (hrf : orc 284 = false) (hA : A.ok) (hrb : rb < B.nx) (orb : B.obj rb = some ⟨A.cells, 1, false, 1⟩) {v3 : Value} {L : List AAct} (hv : SlR rAAct B v3 L) (hL : L.length < 2 ^ 36) :
    ∀ (k i : Nat) (own : Nat → Nat) (s : MS) (O : List CoreA) (τ : Env) (G : GS), i + k = L.length → Ext B G → (∀ x, x < B.nx → own x = 20) → RI (opsA A) 4 own G m r cb s O → τ 3 = v3 → τ 4 = P0 rb → τ 9 = P0 m → τ 10 = P0 r → τ 11 = .slice (some ⟨cb, 0, none⟩) 4 4 → τ 12 = .int .i64 i →
    Wp ((exL Q orc).lpx 8 0 τ G) fun q => q.1 = .exit 0 := by
  intro k
  induction k with
  | zero =>
    intro i own s O τ G hi hx hB h t3 t4 t9 t10 t11 t12
    have hi' : i = L.length := by omega
    subst hi'
    obtain ⟨a, c, rfl⟩ := hv.len
    refine Wp.lp (l8_0 (exL_ok Q orc)) ?_
    simp [b8_0, bb8_0, clip_t, t3, t4, t9, t10, t11, t12]
  | succ k ih =>
    intro i own s O τ G hi hx hB h t3 t4 t9 t10 t11 t12
    have hlt : i < L.length := by omega
    have hi0 : (0 : Int) ≤ i := by omega
    obtain ⟨b, o, c, e0, hbl, q0, q1⟩ := (hv.ext hx).at hlt
    have c0 := q0 0 (by decide)
    have c1 := q0 1 (by decide)
    simp [-cell_s] at c0 c1
    simp only [rAAct_sz, rAAct_row] at q1
    have hp0 := Int.emod_nonneg L[i].core (show (4 : Int) ≠ 0 by decide)
    have hp1 := Int.emod_lt_of_pos L[i].core (show (0 : Int) < 4 by decide)
    obtain ⟨c', hc'⟩ := Int.eq_ofNat_of_zero_le hp0
    have hc4 : c' < 4 := by omega
    have hc4' : (c' : Int) < 4 := by omega
    have e32 : ∀ G, (E orc).cl 42 [.int .i64 L[i].core, .int .i64 4] G = some (.int .i64 c', G) := fun G => by rw [pick_ok orc _ 4 (by decide) (by decide), hc']
    have orb' := (hx.obj rb hrb).trans orb
    have erb : loadA 6 rb 0 G = some A.v := by simp [orb']
    have hw0 : (0 : Int) ≤ c' := by omega
    have hlen := h.len
    have hcl : c' < O.length := by omega
    have hget : O[c']? = some O[c'] := List.getElem?_eq_getElem hcl
    have go : ∀ (own : Nat → Nat) (s : MS) (G : GS) (O : List CoreA) (τ : Env), Ext B G → (∀ x, x < B.nx → own x = 20) → RI (opsA A) 4 own G m r cb s O → τ 3 = v3 → τ 4 = P0 rb → τ 9 = P0 m → τ 10 = P0 r → τ 11 = .slice (some ⟨cb, 0, none⟩) 4 4 → τ 12 = .int .i64 i →
        Wp (jl8_0_0 true (exL Q orc) ((exL Q orc).lpx 8 0) τ G) fun q => q.1 = .exit 0 := by
      intro own s G O τ hx hB h t3 t4 t9 t10 t11 t12
      refine round_ok orc hx hB h (by omega) t3 t4 t9 t10 t11 t12 ?_
      intro own' τ' G' hx' hB' h' u3 u4 u9 u10 u11 u12
      exact ih (i + 1) own' s O τ' G' (by omega) hx' hB' h' u3 u4 u9 u10 u11 u12
    refine Wp.lp (l8_0 (exL_ok Q orc)) ?_
    by_cases w0 : L[i].what = 0
    · have e1 := row_ld (e := rowA) h.oc h.lc hcl
      simp only [rowA_sz, rowA_row] at e1
      simp [-Int.natCast_add, -cell_s, -loadA_s, b8_0, bb8_0, clip_t, t3, t4, t9, t10, t11, t12, e0, hlt, hi0, c0, c1, e32, w0, hc4, hc4', hw0, e1]
      refine Wp.stepW (both_ok orc ht hrf hA h.pm h.rm h.ok (show c' < 9 by omega) (h.core c' _ hget)) ?_
      rintro _ G1 ⟨rfl, own1, a1, m1, p1, p2, p3⟩
      simp only at m1 p1 p2 p3
      have hcore := h.core c' _ hget
      have h1 := h.told hget m1 a1 p1 p2 (OpA.step_ok hA hcore.1 h.ok).2 p3 (by
        cases hh : O[c'] with
        | mk op q => cases op <;> rfl)
      have x1 : Ext B G1 := m1.toExt (fun g hg => by rw [hB g hg]; simp; omega) hx
      have hB1 : ∀ x, x < B.nx → own1 x = 20 := fun x hxx => (a1 x (Nat.lt_of_lt_of_le hxx hx.nx)).trans (hB x hxx)
      simp
      exact go own1 _ G1 _ _ x1 hB1 h1 (by simp [clip_t]; exact e0.symm) (by simp [clip_t]) (by simp [clip_t]) (by simp [clip_t]) (by simp [clip_t]) (by simp [clip_t])
    by_cases w12 : L[i].what = 1 ∨ L[i].what = 2
    · have x10 : Ext G (G.room 10) := (Ext.refl G).room 10
      have fin : ∀ τ' : Env, τ' 3 = v3 → τ' 4 = P0 rb → τ' 9 = P0 m → τ' 10 = P0 r → τ' 11 = .slice (some ⟨cb, 0, none⟩) 4 4 → τ' 12 = .int .i64 i → τ' 13 = .int .i64 c' → τ' 83 = .bool true → Wp (jl8_0_1 true (exL Q orc) ((exL Q orc).lpx 8 0) τ' G) fun q => q.1 = .exit 0 := by
        intro τ' u3 u4 u9 u10 u11 u12 u13 u83
        simp [-Int.natCast_add, -cell_s, -loadA_s, jl8_0_1, jbl8_0_1, u3, u4, u9, u10, u11, u12, u13, u83, e0, hlt, hi0, erb, q1]
        refine Wp.stepW (begin_ok orc A _ _ _ _) ?_
        rintro _ G1 ⟨b1, b2, b3, b4, rfl, x1, d1, d2, d3, d4, d5, k1, k2, k3, k4, k5, k6⟩
        simp only at x1 d1 d2 d3 d4 d5
        have y1 := x10.trans x1
        simp only [nx_room] at d2 d3 d4 d5
        have hst := row_st (e := rowA) ((y1.obj cb h.lc).trans h.oc) hcl (newA A L[i].what L[i].i, b1, b2, b3, b4)
        simp only [rowA_sz, rowA_row] at hst
        have hlc := h.lc
        have h1 := h.begin (i := c') (y := ((newA A L[i].what L[i].i, b1, b2, b3, b4) : CoreA)) y1 (by omega) (by
          refine ⟨newA_ok hA _ _, d1.kept (by rw [obj_put, if_neg (show ¬ b1 = cb by omega)]) (by rw [obj_put, if_neg (show ¬ b2 = cb by omega)]) (by rw [obj_put, if_neg (show ¬ b3 = cb by omega)]) (by rw [obj_put, if_neg (show ¬ b4 = cb by omega)]), fun _ => ?_⟩
          exact ⟨d2.2, d3.2, d4.2, d5.2, grown_new (show G.nx ≤ b1 by omega), grown_new (show G.nx ≤ b2 by omega), grown_new (show G.nx ≤ b3 by omega), grown_new (show G.nx ≤ b4 by omega), k1, k2, k3, k4, k5, k6⟩)
        simp [-Int.natCast_add, -cell_s, -loadA_s, -storeN_s, hc4, hc4', hw0, hst]
        refine go _ s _ _ _ ?_ ?_ h1 (by simp [clip_t]; exact e0.symm) (by simp [clip_t]) (by simp [clip_t]) (by simp [clip_t]) (by simp [clip_t]) (by simp [clip_t])
        · exact (hx.trans y1).put (by
            rcases Nat.lt_or_ge cb B.nx with hh | hh
            · have := hB _ hh; rw [h.tc] at this; omega
            · exact hh) _
        · exact fun x hxx => (grown_agr x (Nat.lt_of_lt_of_le hxx hx.nx)).trans (hB x hxx)
      rcases w12 with w1 | w2
      · simp [-Int.natCast_add, -cell_s, -loadA_s, b8_0, bb8_0, clip_t, t3, t4, t9, t10, t11, t12, e0, hlt, hi0, c0, c1, e32, w1]
        exact fin _ (by simp [clip_t]; exact e0.symm) (by simp [clip_t]) (by simp [clip_t]) (by simp [clip_t]) (by simp [clip_t]) (by simp [clip_t]) (by simp [clip_t]) (by simp [clip_t])
      · simp [-Int.natCast_add, -cell_s, -loadA_s, b8_0, bb8_0, clip_t, t3, t4, t9, t10, t11, t12, e0, hlt, hi0, c0, c1, e32, w2]
        exact fin _ (by simp [clip_t]; exact e0.symm) (by simp [clip_t]) (by simp [clip_t]) (by simp [clip_t]) (by simp [clip_t]) (by simp [clip_t]) (by simp [clip_t]) (by simp [clip_t])
    · have w1 : ¬ L[i].what = 1 := fun e => w12 (.inl e)
      have w2 : ¬ L[i].what = 2 := fun e => w12 (.inr e)
      simp [-Int.natCast_add, -cell_s, -loadA_s, b8_0, bb8_0, jl8_0_1, jbl8_0_1, clip_t, t3, t4, t9, t10, t11, t12, e0, hlt, hi0, c0, c1, e32, w0, w1, w2]
      exact go own s G O _ hx hB h (by simp [clip_t]; exact e0.symm) (by simp [clip_t]) (by simp [clip_t]) (by simp [clip_t]) (by simp [clip_t]) (by simp [clip_t])
theorem arenaSteps (orc : FuncId → Bool) (haw : orc 57 = true) (ht : orc 271 = false) (hrf : orc 284 = false) (A : Ar) (hg : -9223372036854775808 ≤ A.gens ∧ A.gens ≤ 9223372036854775807) (n : Int) (v2 : Value) (W : List Int) (v3 : Value) (L : List AAct) (G : GS) (h2 : SlR (rowsI .u64) G v2 W) (hW : ∀ w ∈ W, U w) (h3 : SlR rAAct G v3 L) :
    Wp ((E orc).cl 8 [A.v, .int .i64 n, v2, v3] G) fun q => q.1 = .bool true := by
  have aw : ∀ G, (E orc).cl 57 [] G = some (.bool true, G) := fun G => cl_orc Q orc haw G
  refine Wp.ref (f8 (exL_ok Q orc) _ _ _ _ G) ?_
  obtain ⟨G0, hG0⟩ : ∃ G0, G0 = (G.push ⟨A.cells, 1, false, 1⟩).room 7 := ⟨_, rfl⟩
  have x0 : Ext G G0 := by rw [hG0]; exact ((Ext.refl G).push _).room 7
  have o0 : G0.obj G.nx = some ⟨A.cells, 1, false, 1⟩ := by rw [hG0]; simp
  have n0 : G.nx < G0.nx := by rw [hG0]; simp; omega
  have hl2 : ∀ t, ln Q true t v2 = some (.int .i64 W.length) := fun t => by obtain ⟨a, c, rfl⟩ := h2.len; simp
  have hl3 : ∀ t, ln Q true t v3 = some (.int .i64 L.length) := fun t => by obtain ⟨a, c, rfl⟩ := h3.len; simp
  obtain ⟨G1, e1, x1⟩ := afits_ok orc A n G0
  have o1 := (x1.obj _ n0).trans o0
  obtain ⟨G2, e2, x2⟩ := rafits_ok orc A n G1
  have y2 := x1.trans x2
  have o2 := (y2.obj _ n0).trans o0
  obtain ⟨G3, e3, x3⟩ := rafits_ok orc A n G2
  have y3 := y2.trans x3
  have o3 := (y3.obj _ n0).trans o0
  rw [fits_same hg] at e1
  by_cases hf : rfitsI A n = 0
  · rw [hf] at e1 e2 e3
    by_cases c1 : 12 < A.size
    · simp [s8, ← hG0, o0, e1, o1, e2, o2, e3, o3, c1, aw]
    by_cases c2 : 64 < n
    · simp [s8, ← hG0, o0, e1, o1, e2, o2, e3, o3, c1, c2, aw]
    by_cases c3 : 64 < W.length
    · have c3' : (64 : Int) < W.length := by omega
      simp [s8, ← hG0, o0, e1, o1, e2, o2, e3, o3, c1, c2, hl2, c3', aw]
    by_cases c4 : 120 < L.length
    · have c3' : ¬ (64 : Int) < W.length := by omega
      have c4' : (120 : Int) < L.length := by omega
      simp [s8, ← hG0, o0, e1, o1, e2, o2, e3, o3, c1, c2, hl2, hl3, c3', c4', aw]
    have c3' : ¬ (64 : Int) < W.length := by omega
    have c4' : ¬ (120 : Int) < L.length := by omega
    obtain ⟨f1, f2, hA⟩ := fits_zero hg hf
    have z3 := x0.trans y3
    simp [s8, ← hG0, o0, e1, o1, e2, o2, e3, o3, c1, c2, hl2, hl3, c3', c4']
    refine Wp.stepW (laid_ok orc ht hA f1 f2 (h2.ext z3) (by omega)) ?_
    rintro _ G4 ⟨m, r, own, rfl, x4, hpm, hrm, hown⟩
    simp only at x4 hpm hrm
    have z4 := z3.trans x4
    have hm : mkK 4 32 z150 4 4 G4 = some (.slice (some ⟨G4.nx, 0, none⟩) 4 4, G4.push ⟨rowA.flat [(.idle, 0, 0, 0, 0), (.idle, 0, 0, 0, 0), (.idle, 0, 0, 0, 0), (.idle, 0, 0, 0, 0)], 4, false, 1⟩) := by
      unfold mkK
      rw [if_pos ⟨by omega, by omega, by decide, by decide, wrap64 (by omega) (by omega), wrap64 (by omega) (by omega)⟩]
      rfl
    have x5 : Ext G4 (G4.push ⟨rowA.flat [(.idle, 0, 0, 0, 0), (.idle, 0, 0, 0, 0), (.idle, 0, 0, 0, 0), (.idle, 0, 0, 0, 0)], 4, false, 1⟩) := (Ext.refl G4).push _
    have hRI : RI (opsA A) 4 (grown own G4 12) (G4.push ⟨rowA.flat [(.idle, 0, 0, 0, 0), (.idle, 0, 0, 0, 0), (.idle, 0, 0, 0, 0), (.idle, 0, 0, 0, 0)], 4, false, 1⟩) m r G4.nx (laidI A n W) [(.idle, 0, 0, 0, 0), (.idle, 0, 0, 0, 0), (.idle, 0, 0, 0, 0), (.idle, 0, 0, 0, 0)] := by
      refine ⟨hpm.modT (ts := []) (ModT.ext x5) (by simp) grown_agr, hrm.modT (ts := []) (ModT.ext x5) (by simp) grown_agr, putsN_ok _ _ hW (fillA_ok hA (zero_ok (by omega))), grown_new (Nat.le_refl _), by simp, by rw [obj_push, if_pos rfl]; rfl, rfl, by decide, ?_⟩
      intro i x hx
      have : x = ((.idle, 0, 0, 0, 0) : CoreA) := by
        have := List.mem_of_getElem? hx
        simpa using this
      subst this
      exact ⟨trivial, trivial, fun h => absurd rfl h⟩
    simp [hm]
    refine Wp.bE ((steps_lp orc ht hrf hA (B := G3) (rb := G.nx) (Nat.lt_of_lt_of_le n0 y3.nx) o3 (h3.ext z3) (by omega) L.length 0 _ _ _ _ _ (by omega) (x4.trans x5) (fun x hx => (grown_agr x (Nat.lt_of_lt_of_le hx x4.nx)).trans (hown x hx)) hRI (by simp) (by simp) (by simp) (by simp) (by simp) (by simp)).mono ?_)
    rintro ⟨e, τ, G'⟩ rfl
    simp [aw]
  · simp [s8, ← hG0, o0, e1, o1, e2, o2, e3, o3, hf, aw]
end
end Go.Proofs.YtdohlgkmaeipjaaGreat.Lift

set_option linter.unusedVariables false
set_option linter.unusedSimpArgs false
set_option maxRecDepth 20000
namespace Go.Proofs.YtdohlgkmaeipjaaGreat.Lift
open Go Go.Proofs.YtdohlgkmaeipjaaGreat.Gh Go.Proofs
theorem trueAw : closedTrueF Q 200 57 = true := by kernel_rfl
theorem okAw : OrcOk Q (among [57]) := among_ok _ (hp := purOk_none (by kernel_rfl) (by kernel_rfl)) fun f hf => by
  simp only [List.mem_cons, List.not_mem_nil, or_false] at hf
  subst hf
  exact ⟨⟨_, Tryz.func57, by kernel_rfl, by kernel_rfl⟩, fun w _ => closed_trueF (by kernel_rfl) trueAw w⟩
theorem U_wf {x : Int} (h : (Lit.int .u64 x).wf = true) : U x := by
  simp [Lit.wf] at h
  exact ⟨Int.le_trans (show (0 : Int) ≤ IntKind.min .u64 by decide) h.1, Int.lt_of_le_of_lt h.2 (show IntKind.max .u64 < (18446744073709551616 : Int) by decide)⟩
theorem I_wf {x : Int} (h : (Lit.int .i64 x).wf = true) : -9223372036854775808 ≤ x ∧ x ≤ 9223372036854775807 := by
  simp [Lit.wf] at h
  exact ⟨Int.le_trans (show (-9223372036854775808 : Int) ≤ IntKind.min .i64 by decide) h.1, Int.le_trans h.2 (show IntKind.max .i64 ≤ (9223372036854775807 : Int) by decide)⟩
theorem row_aact {r : List Value} (h : Row [some .i64, some .i64, some .i64] r) : ∃ x : AAct, r = rAAct.row x := by
  match r with
  | [] => exact h.elim
  | [_] => exact h.2.elim
  | [_, _] => exact h.2.2.elim
  | x :: y :: z :: q :: l => exact h.2.2.2.elim
  | [x, y, z] =>
    obtain ⟨⟨a, ha, _⟩, ⟨b, hb, _⟩, ⟨c, hc, _⟩, _⟩ := h
    exact ⟨⟨a, b, c⟩, by rw [ha, hb, hc]; rfl⟩
theorem row_ar {r : List Value} (h : Row [some .i64, some .i64, some .i64, some .i64, some .i64, some .i64] r) : ∃ A : Ar, r = A.cells ∧ -9223372036854775808 ≤ A.gens ∧ A.gens ≤ 9223372036854775807 := by
  match r with
  | [x0, x1, x2, x3, x4, x5] =>
    obtain ⟨⟨a0, h0, _⟩, ⟨a1, h1, _⟩, ⟨a2, h2, _⟩, ⟨a3, h3, w3⟩, ⟨a4, h4, _⟩, ⟨a5, h5, _⟩, _⟩ := h
    exact ⟨⟨a0, a1, a2, a3, a4, a5⟩, by rw [h0, h1, h2, h3, h4, h5], I_wf w3⟩
  | [] => exact h.elim
  | [_] => exact h.2.elim
  | [_, _] => exact h.2.2.elim
  | [_, _, _] => exact h.2.2.2.elim
  | [_, _, _, _] => exact h.2.2.2.2.elim
  | [_, _, _, _, _] => exact h.2.2.2.2.2.elim
  | _ :: _ :: _ :: _ :: _ :: _ :: _ :: _ => exact h.2.2.2.2.2.2.elim
end Go.Proofs.YtdohlgkmaeipjaaGreat.Lift

