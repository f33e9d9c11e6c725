import Derived.Test.YtglafaecdpilgaaW1
set_option linter.unusedVariables false
set_option linter.unusedSimpArgs false
set_option maxRecDepth 20000
namespace Go.Proofs.Ytglafaecdpilgaa.Lift
open Go Go.Proofs.Ytglafaecdpilgaa.Gh Go.Proofs
abbrev Slt := Option (Int × Int)
def cellP (o : Option Nat) : Value := .pointer (o.map fun b => ⟨b, 0, none⟩)
@[simp] theorem cellP_none : cellP none = .pointer none := rfl
@[simp] theorem cellP_some (b : Nat) : cellP (some b) = .pointer (some ⟨b, 0, none⟩) := rfl
abbrev P0 (b : Nat) : Value := .pointer (some ⟨b, 0, none⟩)
/-- what is under way, by rising cores -/
def lof : Nat → List Slt → List Deed
  | _, [] => []
  | i, none :: S => lof (i + 1) S
  | i, some x :: S => ((i : Int), x.1, x.2) :: lof (i + 1) S
def busyF (i : Nat) (S : List Slt) : List Int := (lof i S).map (·.1)
/-- the program's frame -/
structure PFr (A : Nat → Prop) (G : GS) (p sl : Nat) (bs : List (Option Nat)) (dv : Value) (S : List Slt) (D : List Deed) (N : Int) : Prop where
  un : Under A G
  ap : A p
  asl : A sl
  hp : G.obj p = some ⟨[.slice (some ⟨sl, 0, none⟩) S.length S.length, dv, .int .i64 N], 1, false, 1⟩
  hs : G.obj sl = some ⟨bs.map cellP, 1, false, 1⟩
  hl : bs.length = S.length
  some_ : ∀ (i b : Nat), bs[i]? = some (some b) → ∃ x : Int × Int, S[i]? = some (some x) ∧ G.obj b = some ⟨[.int .i64 i, .int .i64 x.1, .int .i64 x.2], 1, false, 1⟩ ∧ A b
  none_ : ∀ i : Nat, bs[i]? = some none → S[i]? = some none
  hd : OwR rDeed 0 G dv D
  ad : ∀ x, InB dv x → A x
theorem PFr.kept {A : Nat → Prop} {G G' : GS} {p sl : Nat} {bs : List (Option Nat)} {dv : Value} {S : List Slt} {D : List Deed} {N : Int} (h : PFr A G p sl bs dv S D N) (hn : G.nx ≤ G'.nx) (hk : ∀ g, A g → G'.obj g = G.obj g) : PFr A G' p sl bs dv S D N :=
  ⟨h.un.le hn, h.ap, h.asl, (hk _ h.ap).trans h.hp, (hk _ h.asl).trans h.hs, h.hl, fun i b hb => let ⟨x, h1, h2, h3⟩ := h.some_ i b hb; ⟨x, h1, (hk _ h3).trans h2, h3⟩, h.none_, h.hd.kept hn fun g hg => hk g (h.ad g hg), h.ad⟩
theorem PFr.mono {A B : Nat → Prop} {G : GS} {p sl : Nat} {bs : List (Option Nat)} {dv : Value} {S : List Slt} {D : List Deed} {N : Int} (h : PFr A G p sl bs dv S D N) (hs : ∀ x, A x → B x) (hu : Under B G) : PFr B G p sl bs dv S D N :=
  ⟨hu, hs _ h.ap, hs _ h.asl, h.hp, h.hs, h.hl, fun i b hb => let ⟨x, h1, h2, h3⟩ := h.some_ i b hb; ⟨x, h1, h2, hs _ h3⟩, h.none_, h.hd, fun x hx => hs _ (h.ad x hx)⟩
section
variable {A : Nat → Prop} {G : GS} {p sl : Nat} {bs : List (Option Nat)} {dv : Value} {S : List Slt} {D : List Deed} {N : Int}
theorem PFr.get (h : PFr A G p sl bs dv S D N) (c : Nat) (hc : c < S.length) : (bs[c]? = some none ∧ S[c]? = some none) ∨ ∃ b x, bs[c]? = some (some b) ∧ S[c]? = some (some x) ∧ G.obj b = some ⟨[.int .i64 c, .int .i64 x.1, .int .i64 x.2], 1, false, 1⟩ ∧ A b := by
  have hb : c < bs.length := by rw [h.hl]; exact hc
  cases hx : bs[c] with
  | none => exact .inl ⟨by rw [List.getElem?_eq_getElem hb, hx], h.none_ c (by rw [List.getElem?_eq_getElem hb, hx])⟩
  | some b =>
    have : bs[c]? = some (some b) := by rw [List.getElem?_eq_getElem hb, hx]
    obtain ⟨x, h1, h2, h3⟩ := h.some_ c b this
    exact .inr ⟨b, x, this, h1, h2, h3⟩
def askI (C : Nat) (c : Int) : Int := if c < 0 ∨ (C : Int) ≤ c then 3 else 0
theorem ask_ok (orc : FuncId → Bool) (h : PFr A G p sl bs dv S D N) (c : Int) : (E orc).cl 62 [P0 p, .int .i64 c] G = some (.int .i64 (askI S.length c), G) := by
  refine f62 (exL_ok Q orc) _ _ G _ ?_
  by_cases h1 : c < 0
  · simp [s62, cell_eq, h.hp, h1, askI]
  · by_cases h2 : (S.length : Int) ≤ c
    · simp [s62, cell_eq, h.hp, h1, h2, askI]
    · simp [s62, cell_eq, h.hp, h1, h2, askI]
theorem askI_ok {C : Nat} {c : Int} : askI C c = 0 ↔ ∃ k : Nat, c = k ∧ k < C := by
  unfold askI
  by_cases h : c < 0 ∨ (C : Int) ≤ c
  · rw [if_pos h]; constructor
    · intro h'; omega
    · rintro ⟨k, rfl, hk⟩; omega
  · rw [if_neg h]
    exact ⟨fun _ => ⟨c.toNat, by omega, by omega⟩, fun _ => rfl⟩
theorem at_ok (orc : FuncId → Bool) (h : PFr A G p sl bs dv S D N) (c : Nat) (hc : c < S.length) {o : Option Nat} (ho : bs[c]? = some o) : (E orc).cl 63 [P0 p, .int .i64 c] G = some (cellP o, G) := by
  refine f63 (exL_ok Q orc) _ _ G _ ?_
  have h1 : ¬ ((c : Int) < 0) := by omega
  have h2 : ¬ (S.length ≤ c) := by omega
  have h3 : (0 : Int) ≤ c := by omega
  simp [s63, cell_eq, h.hp, h.hs, h1, h2, h3, hc, ho]
theorem of_out (orc : FuncId → Bool) (h : PFr A G p sl bs dv S D N) (c : Int) (hc : askI S.length c = 3) : (E orc).cl 65 [P0 p, .int .i64 c] G = some (.pointer none, G) := by
  refine f65 (exL_ok Q orc) _ _ G _ ?_
  have := ask_ok orc h c
  simp [s65, this, hc]
theorem of_in (orc : FuncId → Bool) (h : PFr A G p sl bs dv S D N) (c : Nat) (hc : c < S.length) {o : Option Nat} (ho : bs[c]? = some o) : (E orc).cl 65 [P0 p, .int .i64 c] G = some (cellP o, G) := by
  refine f65 (exL_ok Q orc) _ _ G _ ?_
  have h1 := ask_ok orc h c
  have h2 := at_ok orc h c hc ho
  have h3 : askI S.length c = 0 := askI_ok.2 ⟨c, rfl, hc⟩
  simp [s65, h1, h2, h3]
/-- how a core stands -/
def slotOf (S : List Slt) (c : Int) : Slt := if 0 ≤ c then (S[c.toNat]?).join else none
theorem slotOf_nat (S : List Slt) (c : Nat) : slotOf S c = (S[c]?).join := by simp [slotOf]
theorem slotOf_out {S : List Slt} {c : Int} (h : askI S.length c = 3) : slotOf S c = none := by
  unfold askI at h
  unfold slotOf
  split at h
  · rename_i hc
    split
    · rename_i h0; rw [List.getElem?_eq_none (by omega)]; rfl
    · rfl
  · omega
theorem askI_two (C : Nat) (c : Int) : askI C c = 3 ∨ askI C c = 0 := by unfold askI; split <;> simp
theorem what_ok (orc : FuncId → Bool) (h : PFr A G p sl bs dv S D N) (c : Int) : (E orc).cl 40 [P0 p, .int .i64 c] G = some (.tuple #[.int .i64 ((slotOf S c).elim 0 (·.1)), .bool (slotOf S c).isSome], G) := by
  refine f40 (exL_ok Q orc) _ _ G _ ?_
  rcases askI_two S.length c with h1 | h1
  · have := of_out orc h c h1
    simp [s40, this, slotOf_out h1]
  · obtain ⟨c, rfl, hc⟩ := askI_ok.1 h1
    rcases h.get c hc with ⟨q1, q2⟩ | ⟨b, x, q1, q2, q3, -⟩
    · have := of_in orc h c hc q1
      simp [s40, this, slotOf_nat, q2]
    · have := of_in orc h c hc q1
      simp [s40, this, slotOf_nat, q2, cell_eq, q3]
theorem steps_ok (orc : FuncId → Bool) (h : PFr A G p sl bs dv S D N) (c : Int) : (E orc).cl 44 [P0 p, .int .i64 c] G = some (.int .i64 ((slotOf S c).elim 0 (·.2)), G) := by
  refine f44 (exL_ok Q orc) _ _ G _ ?_
  rcases askI_two S.length c with h1 | h1
  · have := of_out orc h c h1
    simp [s44, this, slotOf_out h1]
  · obtain ⟨c, rfl, hc⟩ := askI_ok.1 h1
    rcases h.get c hc with ⟨q1, q2⟩ | ⟨b, x, q1, q2, q3, -⟩
    · have := of_in orc h c hc q1
      simp [s44, this, slotOf_nat, q2]
    · have := of_in orc h c hc q1
      simp [s44, this, slotOf_nat, q2, cell_eq, q3]
theorem all_ok (orc : FuncId → Bool) (h : PFr A G p sl bs dv S D N) : (E orc).cl 49 [P0 p] G = some (.int .i64 N, G) := by
  refine f49 (exL_ok Q orc) _ G _ ?_
  simp [s49, cell_eq, h.hp]
theorem deeds_ok (orc : FuncId → Bool) (h : PFr A G p sl bs dv S D N) (hD : D.length < 2 ^ 36) : ∃ v G', (E orc).cl 43 [P0 p] G = some (v, G') ∧ Ext G G' ∧ OwR rDeed G.nx G' v D := by
  obtain ⟨v', G', h1, h2, h3⟩ := OwR.app (A := G) (ib := 24) (OwR.nil G.nx G) (by decide) (Ext.refl G) h.hd.is (by simp; omega)
  refine ⟨v', G', f43 (exL_ok Q orc) _ G _ ?_, h2, by simpa using h3⟩
  simp only [rDeed_sz] at h1
  simp [s43, cell_eq, h.hp, h1]
/-! ### What is changed -/
def eBegin (S : List Slt) (c : Int) : Int := if askI S.length c = 3 then 3 else if (slotOf S c).isSome then 14 else 0
def eStep (S : List Slt) (c : Int) : Int := if askI S.length c = 3 then 3 else if (slotOf S c).isSome then 0 else 15
def sBegin (S : List Slt) (c w : Int) : List Slt := if eBegin S c = 0 then S.set c.toNat (some (w, 0)) else S
def sStep (S : List Slt) (c : Int) : List Slt := if eStep S c = 0 then S.set c.toNat ((slotOf S c).map fun x => (x.1, IntKind.wrap .i64 (x.2 + 1))) else S
def nStep (S : List Slt) (c N : Int) : Int := if eStep S c = 0 then IntKind.wrap .i64 (N + 1) else N
def sEnd (S : List Slt) (c : Int) : List Slt := if eStep S c = 0 then S.set c.toNat none else S
def dEnd (S : List Slt) (D : List Deed) (c : Int) : List Deed := if eStep S c = 0 then D ++ ((slotOf S c).map fun x => (c, x.1, x.2)).toList else D
/-- a frame that stands so, somewhere -/
def PFx (A : Nat → Prop) (G : GS) (p : Nat) (S : List Slt) (D : List Deed) (N : Int) : Prop := ∃ sl bs dv, PFr A G p sl bs dv S D N
theorem Under.put {A : Nat → Prop} {G : GS} (h : Under A G) (b : Nat) (o : GObj) : Under A (G.put b o) := h
theorem begin_ok (orc : FuncId → Bool) (h : PFr A G p sl bs dv S D N) (c w : Int) : Wp ((E orc).cl 34 [P0 p, .int .i64 c, .int .i64 w] G) fun r => r.1 = .int .i64 (eBegin S c) ∧ ModP A G r.2 ∧ PFx (Grow A G r.2) r.2 p (sBegin S c w) D N := by
  refine Wp.ref (f34 (exL_ok Q orc) _ _ _ G) ?_
  have ha := ask_ok orc h c
  rcases askI_two S.length c with h1 | h1
  · simp [s34, ha, h1, eBegin, sBegin, ModP.refl]
    exact ⟨sl, bs, dv, h.mono (fun x => grow_in) (h.un.grow (Nat.le_refl _))⟩
  · obtain ⟨c, rfl, hc⟩ := askI_ok.1 h1
    have hc0 : (0 : Int) ≤ c := by omega
    rcases h.get c hc with ⟨q1, q2⟩ | ⟨b, x, q1, q2, q3, -⟩
    · have h2 := at_ok orc h c hc q1
      have n1 := h.un _ h.ap
      have n2 := h.un _ h.asl
      have n1' : p ≠ G.nx := by omega
      have n2' : sl ≠ G.nx := by omega
      have hlen : bs.length = S.length := h.hl
      have hcl : c < bs.length := by omega
      have q2' : S[c] = none := by simpa [hc] using q2
      simp [s34, ha, h1, h2, cell_eq, h.hp, eBegin, sBegin, slotOf_nat, q2, fillL, fillC, splice_put, splice_end, splice_succ, Value.cells, hc, hc0, storeN_eq, n1', n2', h.hs, hcl, q2']
      refine ⟨((ModP.refl _ _).push _).put (.inl h.asl) _, sl, bs.set c (some G.nx), dv, ?_⟩
      have hu : ∀ g, A g → g ≠ G.nx := fun g hg => by have := h.un g hg; omega
      have hps : p ≠ sl := fun e => by have := h.hp; rw [e, h.hs] at this; cases bs <;> simp at this; cases hq : cellP ‹_› <;> simp_all [cellP]
      refine ⟨fun x hx => ?_, .inl h.ap, .inl h.asl, ?_, ?_, by simpa using hlen, ?_, ?_, ?_, fun x hx => .inl (h.ad x hx)⟩
      · rcases hx with hx | hx
        · have := h.un x hx; simp; omega
        · simpa using hx.2
      · simp [hps, n1', h.hp]
      · simp [List.map_set]
      · intro i b hb
        rw [List.getElem?_set] at hb
        by_cases hi : c = i
        · subst hi
          simp [hcl] at hb
          subst hb
          refine ⟨(w, 0), by simp [hc], by simp [n2'.symm], .inr (by simp)⟩
        · simp [hi] at hb
          obtain ⟨x, k1, k2, k3⟩ := h.some_ i b hb
          have hbs : b ≠ sl := fun e => by rw [e, h.hs] at k2; cases bs <;> simp at k2; cases hq : cellP ‹_› <;> simp_all [cellP]
          exact ⟨x, by simp [hi, k1], by simp [hbs, hu b k3, k2], .inl k3⟩
      · intro i hb
        rw [List.getElem?_set] at hb
        by_cases hi : c = i
        · subst hi; simp [hcl] at hb
        · simp [hi] at hb
          simpa [hi] using h.none_ i hb
      · refine h.hd.kept (by simp) fun g hg => ?_
        have hgA := h.ad g hg
        have hgs : g ≠ sl := fun e => by
          obtain ⟨a, n', c', he, e2⟩ := hg
          rcases h.hd.2 with ⟨e3, _⟩ | ⟨b2, op, e3, _, _, h4⟩
          · rw [e3] at he; cases he
          · rw [e3] at he; cases he; simp only at e2; subst e2; rw [e, h.hs] at h4; simp at h4
        simp [hgs, hu g hgA]
    · have h2 := at_ok orc h c hc q1
      simp [s34, ha, h1, h2, eBegin, sBegin, slotOf_nat, q2, ModP.refl]
      exact ⟨sl, bs, dv, h.mono (fun x => grow_in) (h.un.grow (Nat.le_refl _))⟩
end
end Go.Proofs.Ytglafaecdpilgaa.Lift
