import Derived.Test.YtglafaecdpilgaaW3
set_option linter.unusedVariables false
set_option linter.unusedSimpArgs false
set_option maxRecDepth 20000
namespace Go.Proofs.Ytglafaecdpilgaa.Lift
open Go Go.Proofs.Ytglafaecdpilgaa.Gh Go.Proofs
/-! ### What is under way, as a list -/
theorem lof_append : ∀ (A B : List Slt) (i : Nat), lof i (A ++ B) = lof i A ++ lof (i + A.length) B
  | [], B, i => by simp [lof]
  | none :: A, B, i => by
    simp only [List.cons_append, lof, List.length_cons]
    rw [lof_append A B (i + 1), show i + 1 + A.length = i + (A.length + 1) by omega]
  | some x :: A, B, i => by
    simp only [List.cons_append, lof, List.length_cons]
    rw [lof_append A B (i + 1), show i + 1 + A.length = i + (A.length + 1) by omega]
theorem lof_mem : ∀ (A : List Slt) (i : Nat), ∀ d ∈ lof i A, (i : Int) ≤ d.1 ∧ d.1 < i + A.length
  | [], i, d, h => by simp [lof] at h
  | none :: A, i, d, h => by
    have := lof_mem A (i + 1) d (by simpa [lof] using h)
    simp only [List.length_cons]; omega
  | some x :: A, i, d, h => by
    simp only [lof, List.mem_cons] at h
    simp only [List.length_cons]
    rcases h with rfl | h
    · simp only; omega
    · have := lof_mem A (i + 1) d h; omega
theorem lof_length : ∀ (A : List Slt) (i : Nat), (lof i A).length ≤ A.length
  | [], i => by simp [lof]
  | none :: A, i => by have := lof_length A (i + 1); simp only [lof, List.length_cons]; omega
  | some x :: A, i => by have := lof_length A (i + 1); simp only [lof, List.length_cons]; omega
def mid (c : Nat) (o : Slt) : List Deed := (o.map fun x => ((c : Int), x.1, x.2)).toList
theorem lof_split (S : List Slt) (c : Nat) (hc : c < S.length) (y : Slt) : lof 0 (S.set c y) = lof 0 (S.take c) ++ mid c y ++ lof (c + 1) (S.drop (c + 1)) := by
  rw [List.set_eq_take_append_cons_drop, if_pos hc, lof_append]
  have : (S.take c).length = c := by simp; omega
  rw [this, Nat.zero_add]
  cases y <;> simp [lof, mid]
theorem lof_at (S : List Slt) (c : Nat) {o : Slt} (ho : S[c]? = some o) : lof 0 S = lof 0 (S.take c) ++ mid c o ++ lof (c + 1) (S.drop (c + 1)) := by
  have hc : c < S.length := (List.getElem?_eq_some_iff.1 ho).1
  have := lof_split S c hc o
  rwa [show S.set c o = S by
    apply List.ext_getElem?
    intro i
    rw [List.getElem?_set]
    split
    · rename_i h; subst h; first | exact ho.symm | (rw [if_pos hc, ho])
    · rfl] at this
theorem lofA_lt (S : List Slt) (c : Nat) : ∀ d ∈ lof 0 (S.take c), d.1 < c := fun d hd => by
  have := lof_mem _ _ d hd
  have h2 : (S.take c).length ≤ c := by simp; omega
  omega
theorem lofB_gt (S : List Slt) (c : Nat) : ∀ d ∈ lof (c + 1) (S.drop (c + 1)), (c : Int) < d.1 := fun d hd => by
  have := lof_mem _ _ d hd
  omega
def fnd : List Deed → Int → Nat → Option Nat
  | [], _, _ => none
  | d :: L, c, i => if d.1 = c then some i else fnd L c (i + 1)
theorem fnd_skip : ∀ (A B : List Deed) (c : Int) (i : Nat), (∀ d ∈ A, d.1 ≠ c) → fnd (A ++ B) c i = fnd B c (i + A.length)
  | [], B, c, i, _ => by simp
  | d :: A, B, c, i, h => by
    simp only [List.cons_append, fnd, List.length_cons]
    rw [if_neg (h d (by simp)), fnd_skip A B c (i + 1) (fun d hd => h d (by simp [hd]))]
    congr 1; omega
theorem fnd_none {L : List Deed} {c : Int} {i : Nat} (h : ∀ d ∈ L, d.1 ≠ c) : fnd L c i = none := by
  have := fnd_skip L [] c i h
  simpa [fnd] using this
theorem fnd_lof (S : List Slt) (c : Nat) (hc : c < S.length) : fnd (lof 0 S) c 0 = if (S[c]).isSome then some (lof 0 (S.take c)).length else none := by
  rw [lof_at S c (List.getElem?_eq_getElem hc), List.append_assoc, fnd_skip _ _ _ _ (fun d hd => by have := lofA_lt S c d hd; omega)]
  cases h : S[c] with
  | none =>
    simp only [mid, Option.map_none, Option.toList_none, List.nil_append, Option.isSome_none, Bool.false_eq_true, if_false]
    exact fnd_none fun d hd => by have := lofB_gt S c d hd; omega
  | some x => simp [mid, fnd]
/-- the document's frame -/
structure RFr (A : Nat → Prop) (G : GS) (r : Nat) (lv dv : Value) (S : List Slt) (D : List Deed) (N : Int) : Prop where
  un : Under A G
  ar : A r
  hr : G.obj r = some ⟨[.int .i64 S.length, lv, dv, .int .i64 N], 1, false, 1⟩
  hl : OwR rDeed 0 G lv (lof 0 S)
  al : ∀ x, InB lv x → A x
  hd : OwR rDeed 0 G dv D
  ad : ∀ x, InB dv x → A x
  ne : ∀ x, InB lv x → ¬ InB dv x
def RFx (A : Nat → Prop) (G : GS) (r : Nat) (S : List Slt) (D : List Deed) (N : Int) : Prop := ∃ lv dv, RFr A G r lv dv S D N
section
variable {A : Nat → Prop} {G : GS} {r : Nat} {lv dv : Value} {S : List Slt} {D : List Deed} {N : Int}
theorem RFr.kept {G' : GS} (h : RFr A G r lv dv S D N) (hn : G.nx ≤ G'.nx) (hk : ∀ g, A g → G'.obj g = G.obj g) : RFr A G' r lv dv S D N :=
  ⟨h.un.le hn, h.ar, (hk _ h.ar).trans h.hr, h.hl.kept hn fun g hg => hk g (h.al g hg), h.al, h.hd.kept hn fun g hg => hk g (h.ad g hg), h.ad, h.ne⟩
theorem RFr.mono {B : Nat → Prop} (h : RFr A G r lv dv S D N) (hs : ∀ x, A x → B x) (hu : Under B G) : RFr B G r lv dv S D N :=
  ⟨hu, hs _ h.ar, h.hr, h.hl, fun x hx => hs _ (h.al x hx), h.hd, fun x hx => hs _ (h.ad x hx), h.ne⟩
theorem deed_at {G : GS} {v : Value} {L : List Deed} (h : SlR rDeed G v L) {i : Nat} (hi : i < L.length) : ∃ b o c, v = .slice (some ⟨b, o, none⟩) L.length c ∧ b < G.nx ∧ G.cell b (o + i * 3) = some (.int .i64 L[i].1) ∧ G.cell b (o + i * 3 + 1) = some (.int .i64 L[i].2.1) ∧ G.cell b (o + i * 3 + 2) = some (.int .i64 L[i].2.2) ∧ loadA 3 b (o + i * 3) G = some (.agg ⟨[.int .i64 L[i].1, .int .i64 L[i].2.1, .int .i64 L[i].2.2]⟩) := by
  obtain ⟨b, o, c, h1, h2, h3, h4⟩ := h.at hi
  refine ⟨b, o, c, h1, h2, ?_, ?_, ?_, h4⟩
  · simpa using h3 0 (by decide)
  · simpa using h3 1 (by decide)
  · simpa using h3 2 (by decide)
theorem rat_lp (orc : FuncId → Bool) {lv dv : Value} {C : Int} {L : List Deed} (hr : G.obj r = some ⟨[.int .i64 C, lv, dv, .int .i64 N], 1, false, 1⟩) (hl : SlR rDeed G lv L) (hlen : L.length < 2 ^ 40) (c : Int) : ∀ (k i : Nat) (τ : Env), i + k = L.length → τ 0 = P0 r → τ 1 = .int .i64 c → τ 6 = .int .i64 i →
    Wp ((exL Q orc).lpx 64 0 τ G) fun q => q.2.2 = G ∧ (fnd (L.drop i) c i = none → q.1 = .exit 0) ∧ ∀ j, fnd (L.drop i) c i = some j → q.1 = .ret ∧ q.2.1 4 = .int .i64 j ∧ q.2.1 5 = .int .i64 0 := by
  intro k
  induction k with
  | zero =>
    intro i τ hi h0 h1 h6
    have hi' : i = L.length := by omega
    subst hi'
    obtain ⟨a, c', hv⟩ := hl.len
    refine Wp.lp (l64_0 (exL_ok Q orc)) ?_
    simp [b64_0, clip_t, h0, h1, h6, cell_eq, hr, hv, fnd]
  | succ k ih =>
    intro i τ hi h0 h1 h6
    have hlt : i < L.length := by omega
    have hw : IntKind.wrap .i64 ((i : Int) + 1) = ((i + 1 : Nat) : Int) := wrap64 (by omega) (by omega)
    obtain ⟨b, o, c', hv, _, hc, _⟩ := deed_at hl hlt
    have hd : L.drop i = L[i] :: L.drop (i + 1) := List.drop_eq_getElem_cons hlt
    have hrc : ∀ o, G.cell r o = [Value.int .i64 C, lv, dv, .int .i64 N][o]? := fun o => by simp [cell_eq, hr]
    refine Wp.lp (l64_0 (exL_ok Q orc)) ?_
    rw [hd]
    by_cases he : L[i].1 = c
    · simp [-Int.natCast_add, b64_0, clip_t, h0, h1, h6, hrc, hv, hlt, hc, he, fnd]
    · simp [-Int.natCast_add, b64_0, clip_t, h0, h1, h6, hrc, hv, hlt, hc, he, fnd, hw]
      exact ih (i + 1) _ (by omega) (by simp [clip_t]) (by simp [clip_t]) (by simp [clip_t])
theorem rat_ok (orc : FuncId → Bool) (h : RFr A G r lv dv S D N) (hS : S.length < 2 ^ 36) (c : Int) :
    (E orc).cl 64 [P0 r, .int .i64 c] G = some (if askI S.length c = 3 then .tuple #[.int .i64 (-1), .int .i64 3] else match fnd (lof 0 S) c 0 with | some k => .tuple #[.int .i64 k, .int .i64 0] | none => .tuple #[.int .i64 (-1), .int .i64 15], G) := by
  have hlen := lof_length S 0
  have hrc : ∀ o, G.cell r o = [Value.int .i64 S.length, lv, dv, .int .i64 N][o]? := fun o => by simp [cell_eq, h.hr]
  have w : Wp (s64 true (exL Q orc) (P0 r) (.int .i64 c) G) fun q => q = (if askI S.length c = 3 then .tuple #[.int .i64 (-1), .int .i64 3] else match fnd (lof 0 S) c 0 with | some k => .tuple #[.int .i64 k, .int .i64 0] | none => .tuple #[.int .i64 (-1), .int .i64 15], G) := by
    by_cases h1 : c < 0
    · simp [s64, h1, askI]
    · by_cases h2 : (S.length : Int) ≤ c
      · simp [s64, hrc, h1, h2, askI]
      · have h3 : askI S.length c = 0 := by simp [askI, h1, h2]
        simp [s64, hrc, h1, h2, h3]
        refine Wp.bE ((rat_lp orc h.hr h.hl.is (by omega) c (lof 0 S).length 0 _ (by omega) (by simp) (by simp) (by simp)).mono ?_)
        rintro ⟨e, τ, G'⟩ ⟨rfl, q1, q2⟩
        simp only [List.drop_zero] at q1 q2
        cases hf : fnd (lof 0 S) c 0 with
        | none => simp [q1 hf]
        | some j =>
          obtain ⟨rfl, k1, k2⟩ := q2 j hf
          simp [k1, k2]
  obtain ⟨⟨v, G'⟩, e1, e2⟩ := w
  exact f64 (exL_ok Q orc) _ _ G _ (by rw [e1, e2])
theorem of_ok (orc : FuncId → Bool) (h : RFr A G r lv dv S D N) (hS : S.length < 2 ^ 36) (c : Int) : ∃ G', (E orc).cl 41 [P0 r, .int .i64 c] G = some (.tuple #[.int .i64 ((slotOf S c).elim 0 (·.1)), .int .i64 ((slotOf S c).elim 0 (·.2)), .bool (slotOf S c).isSome], G') ∧ Ext G G' := by
  have hat := rat_ok orc h hS c
  have hrc : ∀ n o, (G.room n).cell r o = [Value.int .i64 S.length, lv, dv, .int .i64 N][o]? := fun n o => by simp [cell_eq, h.hr]
  rcases askI_two S.length c with h1 | h1
  · rw [if_pos h1] at hat
    exact ⟨G, f41 (exL_ok Q orc) _ _ G _ (by simp [s41, hat, slotOf_out h1]), Ext.refl G⟩
  · rw [if_neg (by omega)] at hat
    obtain ⟨c, rfl, hc⟩ := askI_ok.1 h1
    rw [fnd_lof S c hc] at hat
    cases hs : S[c] with
    | none =>
      have : slotOf S c = none := by rw [slotOf_nat, List.getElem?_eq_getElem hc, hs]; rfl
      simp [hs] at hat
      exact ⟨G, f41 (exL_ok Q orc) _ _ G _ (by simp [s41, hat, this]), Ext.refl G⟩
    | some x =>
      have : slotOf S c = some x := by rw [slotOf_nat, List.getElem?_eq_getElem hc, hs]; rfl
      simp [hs] at hat
      have hL := lof_at S c (o := some x) (by rw [List.getElem?_eq_getElem hc, hs])
      have hK : (lof 0 (S.take c)).length < (lof 0 S).length := by rw [hL]; simp [mid]
      have hg : (lof 0 S)[(lof 0 (S.take c)).length] = ((c : Int), x.1, x.2) := by
        have : (lof 0 S)[(lof 0 (S.take c)).length]? = some ((c : Int), x.1, x.2) := by rw [hL]; simp [mid]
        rw [List.getElem?_eq_getElem hK] at this
        exact Option.some.inj this
      obtain ⟨b, o, c', hv, _, _, d1, d2, _⟩ := deed_at (h.hl.is.ext ((Ext.refl G).room 19)) hK
      rw [hg] at d1 d2
      have hlen := lof_length S 0
      generalize hk : (lof 0 (S.take c)).length = k at *
      have k0 : (0 : Int) ≤ k := by omega
      have k1 : (k : Int) < (lof 0 S).length := by omega
      refine ⟨G.room 19, f41 (exL_ok Q orc) _ _ G _ ?_, (Ext.refl G).room 19⟩
      simp at d1 d2
      simp [s41, hat, this, hrc, hv, cell_eq, h.hr, k0, hK]
      simp [cell_eq] at d1 d2
      simp [d1, d2]
end
end Go.Proofs.Ytglafaecdpilgaa.Lift
