import Derived.Test.YtglafaecdpilgaaW6
set_option linter.unusedVariables false
set_option linter.unusedSimpArgs false
set_option maxRecDepth 20000
namespace Go.Proofs.Ytglafaecdpilgaa.Lift
open Go Go.Proofs.Ytglafaecdpilgaa.Gh Go.Proofs
theorem busyF_snoc (S : List Slt) (i : Nat) {o : Slt} (ho : S[i]? = some o) : busyF 0 (S.take (i + 1)) = busyF 0 (S.take i) ++ (if o.isSome then [(i : Int)] else []) := by
  have hi : i < S.length := (List.getElem?_eq_some_iff.1 ho).1
  have : S.take (i + 1) = S.take i ++ [o] := by rw [List.take_add_one, ho]; rfl
  unfold busyF
  rw [this, lof_append, List.map_append, Nat.zero_add, show (S.take i).length = i by simp; omega]
  cases o <;> simp [lof]
section
variable {A : Nat → Prop} {G : GS} {p sl : Nat} {bs : List (Option Nat)} {dv : Value} {S : List Slt} {D : List Deed} {N : Int}
theorem all_fn (orc : FuncId → Bool) (v : Value) (hv : one v = true) (G : GS) : (E orc).cl 66 [v] G = some (.func (.func 72) #[] #[P0 G.nx], G.push ⟨[v], 1, false, 1⟩) := by
  refine f66 (exL_ok Q orc) _ G _ ?_
  simp [s66, cells_one hv]
noncomputable abbrev lpB (T : List Value) : Lp := ⟨.ready, none, T, [12, 13], (subAt [1, 1, 1, 0, 1, 0, 0] (bodyOf Try.f42)), (subAt [1, 1, 1, 0, 1, 0, 1] (bodyOf Try.f42))⟩
theorem round_ok (orc : FuncId → Bool) {B : GS} {l ob : Nat} {T : List Value} {v u0 u1 : Value} {c : Int} {L : List Int} (hx : Ext B G) (hb : B.nl ≤ l) (hB : B.nx ≤ ob) (hob : ob < G.nx) (hl : G.loop l = some (lpB T)) (hln : l < G.nl) (hT : T.length = 19) (h3 : nth undef T 3 = P0 ob)
    (ho : G.obj ob = some ⟨[v], 1, false, 1⟩) (hv : OwR (rowsI .i64) B.nx G v L) (hne : ¬ InB v ob) (hL : L.length < 2 ^ 36) :
    Wp ((E orc).rd l [.int .i64 c, u1] G) fun r => r.1 = .bool true ∧ Ext B r.2 ∧ G.nx ≤ r.2.nx ∧ l < r.2.nl ∧ r.2.loop l = some (lpB T) ∧ ∃ v', r.2.obj ob = some ⟨[v'], 1, false, 1⟩ ∧ OwR (rowsI .i64) B.nx r.2 v' (L ++ [c]) ∧ ¬ InB v' ob := by
  refine Wp.ref (d42_0 (exL_ok Q orc) l T _ u1 G hl hT) ?_
  obtain ⟨G0, hG0⟩ : ∃ G0, G0 = G.putLoop l (Lp.setSt (lpB T) .busy) := ⟨_, rfl⟩
  have x0 : Ext B G0 := by rw [hG0]; exact hx.putLoop hb _
  have v0 : OwR (rowsI .i64) B.nx G0 v L := by rw [hG0]; exact hv.kept (by simp) fun g _ => by simp
  have x1 : Ext G0 (G0.push ⟨[.int .i64 c], 1, false, 1⟩) := (Ext.refl G0).push _
  have nx0 : G0.nx = G.nx := by rw [hG0]; rfl
  obtain ⟨v', G', e', m', r'⟩ := (v0.ext x1).app_mod (ib := 8) (by decide) (SlR.one (rowsI .i64) G0 c) (by simp) (by simp; omega)
  have nx1 := m'.nx
  simp at nx1
  have o' : G'.obj ob = some ⟨[v], 1, false, 1⟩ := by
    rw [m'.obj ob (by simp; omega) hne, x1.obj ob (by omega), hG0]; simpa using ho
  have one' := own_one r'
  have hln0 : l < G0.nl := by rw [hG0]; exact hln
  have l' : G'.loop l = some (Lp.setSt (lpB T) .busy) := by rw [m'.loop l hln0, x1.loop l hln0, hG0]; simp
  have nl' := m'.nl
  simp at nl'
  simp only [rowsI_sz, rowsI_row] at e'
  have hrd : (roundEnd l .normal (G'.put ob ⟨[v'], 1, false, 1⟩)) = some (.bool true, (G'.put ob ⟨[v'], 1, false, 1⟩).putLoop l (lpB T)) := by
    rw [roundEnd_some l .normal _ (j := none) rfl (r := Lp.setSt (lpB T) .busy) (by simpa using l')]
    rfl
  have obj0 : G0.obj ob = some ⟨[v], 1, false, 1⟩ := by rw [hG0]; simpa using ho
  simp [r42_0, h3, hl, ← hG0, cell_eq, rep, fillS, fillL, fillC, splice_put, splice_end, splice_succ, Value.cells, obj0, e', storeN_eq, o', stO_one _ _ one', hrd]
  have x' : Ext B G' := (ModP.tail x0 ((x1.modP (InB v)).trans (m'.mono fun g hg => .inl hg)) fun g hg => hv.from hg)
  have hne' : ¬ InB v' ob := fun h => by have := r'.from h; simp at this; omega
  refine ⟨(x'.put hB _).putLoop hb _, by omega, by omega, ?_, hne'⟩
  refine (r'.mono (by have := x0.nx; simp; omega)).kept (by simp) fun g hg => ?_
  have : g ≠ ob := fun e => hne' (e ▸ hg)
  simp [this]
theorem busy_lp (orc : FuncId → Bool) {B : GS} (hp : PFr A B p sl bs dv S D N) {l ob : Nat} {T : List Value} (hb : B.nl ≤ l) (hB : B.nx ≤ ob) (hT : T.length = 19) (h3 : nth undef T 3 = P0 ob) (hS : S.length < 2 ^ 36) :
    ∀ (k i : Nat) (τ : Env) (G : GS) (v : Value), i + k = S.length → τ 0 = .func (.yield l) #[] #[] → τ 8 = .slice (some ⟨sl, 0, none⟩) S.length S.length → τ 9 = .int .i64 S.length → τ 10 = .int .i64 i →
    Ext B G → ob < G.nx → l < G.nl → G.loop l = some (lpB T) → G.obj ob = some ⟨[v], 1, false, 1⟩ → OwR (rowsI .i64) B.nx G v (busyF 0 (S.take i)) → ¬ InB v ob →
    Wp ((exL Q orc).lpx 72 0 τ G) fun r => r.1 = .exit 0 ∧ Ext B r.2.2 ∧ ob < r.2.2.nx ∧ r.2.2.loop l = some (lpB T) ∧ ∃ v', r.2.2.obj ob = some ⟨[v'], 1, false, 1⟩ ∧ OwR (rowsI .i64) B.nx r.2.2 v' (busyF 0 S) := by
  intro k
  induction k with
  | zero =>
    intro i τ G v hi t0 t8 t9 t10 hx hob hln hl ho hv hne
    have hi' : i = S.length := by omega
    subst hi'
    rw [List.take_length] at hv
    refine Wp.lp (l72_0 (exL_ok Q orc)) ?_
    simp [b72_0, clip_t, t0, t8, t9, t10]
    exact ⟨hx, hob, hl, v, ho, hv⟩
  | succ k ih =>
    intro i τ G v hi t0 t8 t9 t10 hx hob hln hl ho hv hne
    have hlt : i < S.length := by omega
    have hi0 : (0 : Int) ≤ i := by omega
    have hw : IntKind.wrap .i64 ((i : Int) + 1) = ((i + 1 : Nat) : Int) := wrap64 (by omega) (by omega)
    have hs : G.obj sl = some ⟨bs.map cellP, 1, false, 1⟩ := (hx.obj sl (hp.un _ hp.asl)).trans hp.hs
    refine Wp.lp (l72_0 (exL_ok Q orc)) ?_
    rcases hp.get i hlt with ⟨q1, q2⟩ | ⟨b, x, q1, q2, -, -⟩
    · simp [-Int.natCast_add, b72_0, clip_t, t0, t8, t9, t10, hlt, hi0, cell_eq, hs, q1, hw]
      refine ih (i + 1) _ G v (by omega) (by simp [clip_t]) (by simp [clip_t]) (by simp [clip_t]) (by simp [clip_t]) hx hob hln hl ho ?_ hne
      rw [busyF_snoc S i q2]; simpa using hv
    · have hbl : (busyF 0 (S.take i)).length < 2 ^ 36 := by
        have := lof_length (S.take i) 0
        simp [busyF] at this ⊢; omega
      obtain ⟨⟨r1, G'⟩, e1, rfl, x1, n1, ln1, l1, v', o1, w1, ne1⟩ := round_ok orc (u0 := .int .i64 i) (u1 := P0 b) (c := i) hx hb hB hob hl hln hT h3 ho hv hne hbl
      simp [-Int.natCast_add, b72_0, clip_t, t0, t8, t9, t10, hlt, hi0, cell_eq, hs, q1, hw, e1]
      refine ih (i + 1) _ G' v' (by omega) (by simp [clip_t]) (by simp [clip_t]) (by simp [clip_t]) (by simp [clip_t]) x1 (by simp only at n1; omega) ln1 l1 o1 ?_ ne1
      rw [busyF_snoc S i q2]; simpa using w1
theorem busy_ok (orc : FuncId → Bool) (h : PFr A G p sl bs dv S D N) (hS : S.length < 2 ^ 36) : ∃ v G', (E orc).cl 42 [P0 p] G = some (v, G') ∧ Ext G G' ∧ OwR (rowsI .i64) G.nx G' v (busyF 0 S) := by
  have w : Wp (s42 true (exL Q orc) (P0 p) G) fun r => Ext G r.2 ∧ OwR (rowsI .i64) G.nx r.2 r.1 (busyF 0 S) := by
    have hall := all_fn orc (.pointer (some ⟨p, 0, none⟩)) rfl (G.push ⟨[.slice none 0 0], 1, false, 1⟩)
    simp [s42, hall]
    generalize hTT : lst 19 (tu (nth undef [P0 p]) _) = T
    have hT : T.length = 19 := by rw [← hTT]; exact length_lst 19 _
    have h3 : nth undef T 3 = P0 G.nx := by rw [← hTT, nth_lst]; simp [clip_t]
    have hun := h.un _ h.ap
    have hus := h.un _ h.asl
    obtain ⟨G2, hG2⟩ : ∃ G2, G2 = (((G.push ⟨[.slice none 0 0], 1, false, 1⟩).push ⟨[.pointer (some ⟨p, 0, none⟩)], 1, false, 1⟩).pushLoop (lpB T)) := ⟨_, rfl⟩
    have x2 : Ext G G2 := by rw [hG2]; exact (((Ext.refl G).push _).push _).pushLoop _
    have hob : G2.obj G.nx = some ⟨[.slice none 0 0], 1, false, 1⟩ := by rw [hG2]; simp
    have hbx : G2.obj (G.nx + 1) = some ⟨[.pointer (some ⟨p, 0, none⟩)], 1, false, 1⟩ := by rw [hG2]; simp
    have hl2 : G2.loop G.nl = some (lpB T) := by rw [hG2]; simp
    have hn2 : G2.nx = G.nx + 2 := by rw [hG2]; rfl
    have hnl2 : G2.nl = G.nl + 1 := by rw [hG2]; rfl
    have hp2 := (x2.obj p hun).trans h.hp
    have w : Wp ((E orc).cl 72 [.func (.yield G.nl) #[] #[], P0 (G.nx + 1)] G2) fun r => r.1 = .tuple #[] ∧ Ext G r.2 ∧ r.2.loop G.nl = some (lpB T) ∧ ∃ v', r.2.obj G.nx = some ⟨[v'], 1, false, 1⟩ ∧ OwR (rowsI .i64) G.nx r.2 v' (busyF 0 S) := by
      refine Wp.ref (f72 (exL_ok Q orc) _ _ G2) ?_
      simp [s72, cell_eq, hbx, hp2]
      refine Wp.bE ((busy_lp orc h (Nat.le_refl _) (Nat.le_refl _) hT h3 hS S.length 0 _ G2 (.slice none 0 0) (by omega) (by simp) (by simp) (by simp) (by simp) x2 (by omega) (by omega) hl2 hob (by simpa [busyF, lof] using OwR.nil _ _) (fun ⟨_, _, _, he, _⟩ => by cases he)).mono ?_)
      rintro ⟨e, τ, G'⟩ ⟨rfl, q1, q2, q3, q4⟩
      simp
      exact ⟨q1, q3, q4⟩
    obtain ⟨⟨r1, G3⟩, e3, rfl, x3, l3, v3, o3, r3⟩ := w
    simp only at x3 l3 o3 r3
    simp only [E, ← hG2, e3]
    rw [xRangeEnd_some (r := lpB T) _ _ _ _ l3 (by simp) (e := .normal) rfl]
    simp [h3, cell_eq, o3]
    refine ⟨x3.putLoop (Nat.le_refl _) _, r3.kept (by exact Nat.le_refl _) fun g _ => by simp⟩
  obtain ⟨⟨v, G'⟩, e1, e2, e3⟩ := w
  exact ⟨v, G', f42 (exL_ok Q orc) _ G _ e1, e2, e3⟩
/-! ### Whose turn it is -/
def turnI (L : List Int) (n : Int) : Int := if L = [] then -1 else (L[(n % (L.length : Int)).toNat]?).getD 0
theorem int_at {k : IntKind} {G : GS} {v : Value} {L : List Int} (h : SlR (rowsI k) G v L) {i : Nat} (hi : i < L.length) : ∃ b o c, v = .slice (some ⟨b, o, none⟩) L.length c ∧ b < G.nx ∧ G.cell b (o + i) = some (.int k L[i]) := by
  obtain ⟨b, o, c, h1, h2, h3, _⟩ := h.at hi
  exact ⟨b, o, c, h1, h2, by simpa using h3 0 (by simp)⟩
theorem turn_ok (orc : FuncId → Bool) (h : PFr A G p sl bs dv S D N) (hS : S.length < 2 ^ 36) (n : Int) : ∃ G', (E orc).cl 47 [P0 p, .int .i64 n] G = some (.int .i64 (turnI (busyF 0 S) n), G') ∧ Ext G G' := by
  obtain ⟨v, G', e1, x1, r1⟩ := busy_ok orc h hS
  refine ⟨G', f47 (exL_ok Q orc) _ _ G _ ?_, x1⟩
  have hlen : (busyF 0 S).length < 2 ^ 36 := by have := lof_length S 0; simp [busyF]; omega
  generalize busyF 0 S = L at *
  by_cases h0 : L = []
  · subst h0
    obtain ⟨a, c, rfl⟩ := r1.is.len
    simp [s47, sb47, j47_0, jb47_0, clip_t, e1, turnI]
  · have hl : 0 < L.length := by cases L with | nil => exact absurd rfl h0 | cons a b => simp
    have hl' : ¬ ((L.length : Int) = 0) := by omega
    have ht := @Int.tmod_eq_emod n L.length
    have hlt := Int.emod_lt_of_pos n (show (0 : Int) < L.length by omega)
    have hnn := Int.emod_nonneg n hl'
    have hi : (n % (L.length : Int)).toNat < L.length := by omega
    obtain ⟨b, o, c, rfl, _, hc⟩ := int_at r1.is hi
    have hcast : (((n % (L.length : Int)).toNat : Nat) : Int) = n % (L.length : Int) := by omega
    have hget : turnI L n = L[(n % (L.length : Int)).toNat] := by
      unfold turnI; rw [if_neg h0, List.getElem?_eq_getElem hi]; rfl
    rw [hget]
    rw [show Int.natAbs (L.length : Int) = L.length by omega] at ht
    by_cases hneg : n.tmod L.length < 0
    · have e2 : n.tmod L.length + L.length = n % L.length := by split at ht <;> omega
      have hw : IntKind.wrap .i64 (n % (L.length : Int)) = n % (L.length : Int) := wrap64 (by omega) (by omega)
      simp [s47, sb47, j47_0, jb47_0, clip_t, e1, h0, hl', hneg, e2, hw, hnn, hlt, hc]
    · have e2 : n.tmod L.length = n % L.length := by split at ht <;> omega
      have hneg' : ¬ n % (L.length : Int) < 0 := by omega
      simp [s47, sb47, j47_0, jb47_0, clip_t, e1, h0, hl', hneg', e2, hnn, hlt, hc]
/-! ### New -/
theorem new_ok (orc : FuncId → Bool) (C : Int) (G : GS) : (C < 1 ∨ 64 < C → (E orc).cl 32 [.int .i64 C] G = some (.tuple #[.pointer none, .int .i64 3], G)) ∧
    (1 ≤ C → C ≤ 64 → ∃ p G', (E orc).cl 32 [.int .i64 C] G = some (.tuple #[P0 p, .int .i64 0], G') ∧ Ext G G' ∧ PFx (fun x => G.nx ≤ x ∧ x < G'.nx) G' p (List.replicate C.toNat none) [] 0) := by
  constructor
  · intro h
    refine f32 (exL_ok Q orc) _ G _ ?_
    by_cases h1 : C < 1
    · simp [s32, h1]
    · have h2 : 64 < C := by omega
      simp [s32, h1, h2]
  · intro h1 h2
    have h1' : ¬ C < 1 := by omega
    have h2' : ¬ 64 < C := by omega
    have hm : mkK 1 8 z96 C C G = some (.slice (some ⟨G.nx, 0, none⟩) C.toNat C.toNat, G.push ⟨List.replicate C.toNat (.pointer none), 1, false, 1⟩) := by
      unfold mkK
      rw [if_pos ⟨by omega, by omega, by decide, by omega, wrap64 (by omega) (by omega), wrap64 (by omega) (by omega)⟩]
      have : rep z96 C.toNat = List.replicate C.toNat (.pointer none) := by
        generalize C.toNat = n
        induction n with
        | zero => rfl
        | succ n ih => show z96 ++ rep z96 n = _; rw [ih]; rfl
      rw [this]; rfl
    refine ⟨G.nx + 1, _, f32 (exL_ok Q orc) _ G _ (by simp [s32, h1', h2', hm, fillL, fillC, splice_put, splice_end, splice_succ, Value.cells]; rfl), ((Ext.refl G).push _).push _, G.nx, List.replicate C.toNat none, .slice none 0 0, ?_⟩
    refine ⟨fun x hx => hx.2, ⟨by omega, by simp⟩, ⟨by omega, by simp; omega⟩, by simp, by simp, by simp, ?_, ?_, OwR.nil _ _, fun x ⟨_, _, _, he, _⟩ => by cases he⟩
    · intro i b hb
      rw [List.getElem?_replicate] at hb
      split at hb <;> cases hb
    · intro i hb
      rw [List.getElem?_replicate] at hb ⊢
      split at hb
      · rename_i hi; rw [if_pos hi]
      · cases hb
end
end Go.Proofs.Ytglafaecdpilgaa.Lift
