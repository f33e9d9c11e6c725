/- contracts of the program's functions -/
import Derived.Test.YtlaojmcekeohnaaGreatDoorQF
import Derived.Test.YtlaojmcekeohnaaGreatDoorQC
import Derived.Test.YtlaojmcekeohnaaGreatDoorQI
import Derived.Test.YtlaojmcekeohnaaGreatDoorQE
set_option linter.unusedVariables false
set_option linter.unusedSimpArgs false
namespace Go.Proofs.YtlaojmcekeohnaaGreatDoor.Lift
open Go
/-! ### A history that grows, and the order in which its calls took effect -/
section
variable {α : Type} {m : Mac α} {l l' : List Sp}
theorem way_mono (hlen : l.length ≤ l'.length) {W : List Nat} (hop : ∀ a ∈ W, (sp l' a).op = (sp l a).op) (ht : ∀ a ∈ W, ∀ (s : List α) an, an ∈ toldP m s (sp l a) → an ∈ toldP m s (sp l' a)) (hr : ∀ a ∈ W, ∀ d, rdyP l d a → rdyP l' d a) {s s2 : List α} {d d2 : Nat} (h : Way m l s d W s2 d2) : Way m l' s d W s2 d2 := by
  induction h with
  | nil => exact .nil _ _
  | @cons s d a an s1 r s2 d2 h1 h2 h3 h4 h5 ih =>
    refine .cons (Nat.lt_of_lt_of_le h1 hlen) (hr a (List.mem_cons_self ..) d h2) (ht a (List.mem_cons_self ..) s an h3) (by rw [hop a (List.mem_cons_self ..)]; exact h4) (ih (fun x hx => hop x (List.mem_cons_of_mem _ hx)) (fun x hx => ht x (List.mem_cons_of_mem _ hx)) fun x hx => hr x (List.mem_cons_of_mem _ hx))
/-- the calls, those that took effect, in their order, and the state behind them -/
structure Lz (m : Mac α) (l : List Sp) (W : List Nat) (q : List α) (now : Int) : Prop where
  way : Way m l m.first 0 W q (dn W 0)
  ended : ∀ i, i < l.length → 0 ≤ (sp l i).to → i ∈ W
  clk : ∀ i, i < l.length → (sp l i).fr ≤ now ∧ (sp l i).to ≤ now
theorem sp_set {l : List Sp} {j : Nat} (c : Sp) (hj : j < l.length) (i : Nat) : sp (l.set j c) i = if i = j then c else sp l i := by
  unfold sp
  simp only [List.getD, List.getElem?_set]
  by_cases h : i = j
  · subst h; simp [hj]
  · have : ¬ j = i := fun e => h e.symm
    simp [h, this]
theorem sp_app {l : List Sp} (c : Sp) (i : Nat) : sp (l ++ [c]) i = if i < l.length then sp l i else if i = l.length then c else default := by
  unfold sp
  simp only [List.getD]
  by_cases h : i < l.length
  · rw [if_pos h, List.getElem?_append_left h]
  · rw [if_neg h, List.getElem?_append_right (by omega)]
    by_cases h2 : i = l.length
    · subst h2; simp
    · have : i - l.length ≠ 0 := by omega
      obtain ⟨n, hn⟩ := Nat.exists_eq_succ_of_ne_zero this
      rw [hn]; simp [h2]
/-- a call begins -/
theorem Lz.begin {W : List Nat} {q : List α} {now : Int} (h : Lz m l W q now) (hn : 0 ≤ now) (c : Sp) (hc : c.to = -1) (hf : c.fr = now + 1) : Lz m (l ++ [c]) W q (now + 1) := by
  have hW : ∀ a ∈ W, a < l.length := fun a ha => ((way_fresh h.way).1 a ha).2
  have hs : ∀ a, a < l.length → sp (l ++ [c]) a = sp l a := fun a ha => by rw [sp_app, if_pos ha]
  refine ⟨way_mono (by simp) (fun a ha => by rw [hs a (hW a ha)]) (fun a ha s an => by rw [hs a (hW a ha)]; exact id) (fun a ha d hr => ⟨hr.1, fun i hi hne hb => ?_⟩) h.way, fun i hi ht => ?_, fun i hi => ?_⟩
  · rw [hs a (hW a ha), sp_app]
    by_cases h1 : i < l.length
    · rw [if_pos h1]; exact hr.2 i h1 hne hb
    · rw [if_neg h1, if_pos (by simp at hi; omega)]
      unfold ahead; rw [hc]; rfl
  · rw [sp_app] at ht
    by_cases h1 : i < l.length
    · rw [if_pos h1] at ht; exact h.ended i h1 ht
    · rw [if_neg h1, if_pos (by simp at hi; omega), hc] at ht; omega
  · rw [sp_app]
    by_cases h1 : i < l.length
    · rw [if_pos h1]; have := h.clk i h1; omega
    · rw [if_neg h1, if_pos (by simp at hi; omega), hc, hf]; omega
/-- a call takes effect, and goes on -/
theorem Lz.effect {W : List Nat} {q q' : List α} {now : Int} (h : Lz m l W q now) {j : Nat} (hj : j < l.length) (hp : (sp l j).to < 0) (hjW : j ∉ W) {an : An3} (ha : an ∈ m.fine q (sp l j).op) (hq : m.next q (sp l j).op an = some q') : Lz m l (W ++ [j]) q' now := by
  have hf := way_fresh h.way
  refine ⟨?_, fun i hi ht => List.mem_append_left _ (h.ended i hi ht), h.clk⟩
  have hd : dn (W ++ [j]) 0 = dn W 0 ||| 1 <<< j := by simp [dn, List.foldl_append]
  rw [hd]
  refine way_app.2 ⟨q, _, h.way, .cons hj ⟨?_, fun i hi hne hb => ?_⟩ (an := an) ?_ hq (.nil _ _)⟩
  · cases hb : (dn W 0).testBit j with
    | false => rfl
    | true => exact absurd (((hf.2.2 j).1 hb).resolve_left (by simp)) hjW
  · have : i ∉ W := fun hi => by have := (hf.2.2 i).2 (.inr hi); rw [hb] at this; cases this
    have hto : ¬ 0 ≤ (sp l i).to := fun ht => this (h.ended i hi ht)
    simp [ahead, hto]
  · unfold toldP; rw [if_neg (by omega)]; exact ha
/-- a call that took effect ends: it is told what it might be told -/
theorem Lz.ends {W : List Nat} {q : List α} {now : Int} (h : Lz m l W q now) (hn : 0 ≤ now) {j : Nat} (hj : j < l.length) (hp : (sp l j).to < 0) (hjW : j ∈ W) (an : An3) (hfine : ∀ s a, a ∈ m.fine s (sp l j).op → a = an) : Lz m (l.set j { sp l j with to := now + 1, an := an }) W q (now + 1) := by
  have hW : ∀ a ∈ W, a < l.length := fun a ha => ((way_fresh h.way).1 a ha).2
  refine ⟨way_mono (by simp) (fun a ha => ?_) (fun a ha s x hx => ?_) (fun a ha d hr => ⟨hr.1, fun i hi hne hb => ?_⟩) h.way, fun i hi ht => ?_, fun i hi => ?_⟩
  · rw [sp_set _ hj]; split
    · rename_i e; rw [e]
    · rfl
  · rw [sp_set _ hj]; split
    · rename_i e
      subst e
      unfold toldP at hx ⊢
      rw [if_neg (by omega)] at hx
      rw [if_pos (by simp only; omega)]
      rw [hfine s x hx]; exact List.mem_singleton.2 rfl
    · exact hx
  · have hi' : i < l.length := by simpa using hi
    have old := hr.2 i hi' hne hb
    have hfr : (sp (l.set j { sp l j with to := now + 1, an := an }) a).fr = (sp l a).fr := by rw [sp_set _ hj]; split; (rename_i e; rw [e]); rfl
    by_cases e : i = j
    · have := (h.clk a (hW a ha)).1
      unfold ahead
      rw [hfr, sp_set _ hj, if_pos e]
      have : ¬ (now + 1 < (sp l a).fr) := by omega
      simp [this]
    · unfold ahead at old ⊢
      rw [hfr, sp_set _ hj, if_neg e]; exact old
  · rw [sp_set _ hj] at ht
    by_cases e : i = j
    · rw [e]; exact hjW
    · rw [if_neg e] at ht; exact h.ended i (by simpa using hi) ht
  · rw [sp_set _ hj]
    have := h.clk i (by simpa using hi)
    split
    · rename_i e; rw [e] at this; simp only; omega
    · omega
end
end Go.Proofs.YtlaojmcekeohnaaGreatDoor.Lift

set_option linter.unusedVariables false
set_option linter.unusedSimpArgs false
namespace Go.Proofs.YtlaojmcekeohnaaGreatDoor.Lift
open Go
section
variable {α : Type} {m : Mac α} {l : List Sp}
/-- a call ends and takes effect at once -/
theorem Lz.endNow {W : List Nat} {q q' : List α} {now : Int} (h : Lz m l W q now) (hn : 0 ≤ now) {j : Nat} (hj : j < l.length) (hp : (sp l j).to < 0) (hjW : j ∉ W) (an : An3) (hq : m.next q (sp l j).op an = some q') : Lz m (l.set j { sp l j with to := now + 1, an := an }) (W ++ [j]) q' (now + 1) := by
  have hf := way_fresh h.way
  have hW : ∀ a ∈ W, a < l.length := fun a ha => (hf.1 a ha).2
  have hs : ∀ i, i ≠ j → sp (l.set j { sp l j with to := now + 1, an := an }) i = sp l i := fun i hi => by rw [sp_set _ hj, if_neg hi]
  have hsj : sp (l.set j { sp l j with to := now + 1, an := an }) j = { sp l j with to := now + 1, an := an } := by rw [sp_set _ hj, if_pos rfl]
  have hWj : ∀ a ∈ W, a ≠ j := fun a ha e => hjW (e ▸ ha)
  have hway : Way m (l.set j { sp l j with to := now + 1, an := an }) m.first 0 W q (dn W 0) := by
    refine way_mono (by simp) (fun a ha => by rw [hs a (hWj a ha)]) (fun a ha s x hx => by rw [hs a (hWj a ha)]; exact hx) (fun a ha d hr => ⟨hr.1, fun i hi hne hb => ?_⟩) h.way
    have hi' : i < l.length := by simpa using hi
    have old := hr.2 i hi' hne hb
    rw [hs a (hWj a ha)]
    by_cases e : i = j
    · subst e
      rw [hsj]
      have := (h.clk a (hW a ha)).1
      unfold ahead
      have : ¬ (now + 1 < (sp l a).fr) := by omega
      simp [this]
    · rw [hs i e]; exact old
  have hd : dn (W ++ [j]) 0 = dn W 0 ||| 1 <<< j := by simp [dn, List.foldl_append]
  refine ⟨?_, fun i hi ht => ?_, fun i hi => ?_⟩
  · rw [hd]
    refine way_app.2 ⟨q, _, hway, .cons (an := an) (by simpa using hj) ⟨?_, fun i hi hne hb => ?_⟩ ?_ ?_ (.nil _ _)⟩
    · cases hb : (dn W 0).testBit j with
      | false => rfl
      | true => exact absurd (((hf.2.2 j).1 hb).resolve_left (by simp)) hjW
    · have hi' : i < l.length := by simpa using hi
      have : i ∉ W := fun hi => by have := (hf.2.2 i).2 (.inr hi); rw [hb] at this; cases this
      have hto : ¬ 0 ≤ (sp l i).to := fun ht => this (h.ended i hi' ht)
      rw [hs i hne]
      simp [ahead, hto]
    · rw [hsj]; unfold toldP; rw [if_pos (by simp only; omega)]; exact List.mem_singleton.2 rfl
    · rw [hsj]; exact hq
  · by_cases e : i = j
    · rw [e]; simp
    · rw [hs i e] at ht; exact List.mem_append_left _ (h.ended i (by simpa using hi) ht)
  · have := h.clk i (by simpa using hi)
    by_cases e : i = j
    · subst e; rw [hsj]; simp only; omega
    · rw [hs i e]; omega
/-- nothing is begun -/
theorem Lz.nil (now : Int) : Lz m [] [] m.first now := ⟨.nil _ _, fun i hi => by simp at hi, fun i hi => by simp at hi⟩
/-- all that is not pending took effect: there is an order -/
theorem Lz.all {W : List Nat} {q : List α} {now : Int} (h : Lz m l W q now) : Goes m l [] m.first 0 :=
  ⟨W, q, dn W 0, by simpa using h.way, fun i hi ht => ((way_fresh h.way).2.2 i).2 (.inr (h.ended i hi ht))⟩
end
end Go.Proofs.YtlaojmcekeohnaaGreatDoor.Lift

set_option linter.unusedVariables false
set_option linter.unusedSimpArgs false
set_option maxRecDepth 20000
namespace Go.Proofs.YtlaojmcekeohnaaGreatDoor.Lift
open Go Go.Proofs.YtlaojmcekeohnaaGreatDoor.Gh Go.Proofs
/-! ### The order in which a crew's calls took effect -/
theorem acc_at (s : MS) (k a : Int) (u : Int → Int × Bool) : (s.acc k a u).at_ = a := by unfold MS.acc; split <;> rfl
theorem acc_kind (s : MS) (k a : Int) (u : Int → Int × Bool) : (s.acc k a u).kind = k := by unfold MS.acc; split <;> rfl
theorem cas_slot (s : MS) (n : Nat) (x y : Int) : slotI (s.cas (rgN n).tail x y) = false := by unfold slotI MS.cas; rw [acc_at]; rfl
section
variable {n D T K H P c : Nat} {q : List Int} {s s' : MS} {x : CS} {v e : Int} {p p' : PuS} {W : List Nat}
theorem pu_lay (hp : InvP n D T P v e p) (h : (p.step s).2.kind = 3 ∧ (p.step s).2.held = true ∧ slotI (p.step s).2 = true) : e = 14 ∧ (p.step s).1.over = false := by
  cases hp with
  | tail t w he => rw [st1] at h; have := h.1; simp only [MS.load, acc_kind] at this; omega
  | look t w he _ => rw [st2] at h; have := h.1; simp only [MS.load, acc_kind] at this; omega
  | lay t he _ _ => refine ⟨he, ?_⟩; rw [st3]; simp only; split <;> rfl
  | last t w he _ => rw [st4] at h; have := h.2.2; rw [cas_slot] at this; cases this
  | help t w he _ => rw [st5] at h; have := h.2.2; rw [cas_slot] at this; cases this
theorem pu_over (hp : InvP n D T P v e p) (h : (p.step s).1.over = true) : e = 14 ∧ (p.step s).1.err = 7 ∨ e = 0 ∧ (p.step s).1.err = 0 := by
  cases hp with
  | tail t w he => rw [st1] at h; cases h
  | look t w he _ =>
    refine .inl ⟨he, ?_⟩
    rw [st2] at h ⊢
    simp only [look5] at h ⊢
    split at h
    · cases h
    · rename_i h1
      rw [if_neg h1]
      split at h
      · rename_i h2; rw [if_pos h2]; rfl
      · cases h
  | lay t he _ _ => rw [st3] at h; simp only at h; split at h <;> cases h
  | last t w he _ => exact .inr ⟨he, by rw [st4]; rfl⟩
  | help t w he _ => rw [st5] at h; cases h
/-- of a core that pushes, within the call at j -/
def PendP (l : List Sp) (W : List Nat) (j : Nat) (v e : Int) : Prop := (sp l j).op = (1, 0, 0, v) ∧ (e = 14 ∧ j ∉ W ∨ e = 0 ∧ j ∈ W)
/-- of the core that takes -/
structure PendT (l : List Sp) (W : List Nat) (j : Nat) (next : Bool) (d : DrS) : Prop where
  d : next = true → (sp l j).op = (3, 0, 0, 0) ∧ (∀ R t, d = .go 1 R t → j ∉ W) ∧ (∀ R t, d = .go 2 R t → j ∈ W)
  f : next = false → (sp l j).op = (2, 0, 0, 0) ∧ j ∉ W
structure LzC (n : Nat) (x : CS) (W : List Nat) : Prop where
  lz : Lz (qMac n) x.calls W x.q x.clock
  to : ∀ c, c < 3 → ∀ j : Nat, x.o c = j → j < x.calls.length ∧ (sp x.calls j).to = -1
  p : ∀ c, c < 2 → ∀ j : Nat, x.o c = j → PendP x.calls W j (x.v c) (x.e c)
  t : ∀ j : Nat, x.o 2 = j → PendT x.calls W j x.next x.d
  apart : ∀ c c', c < 3 → c' < 3 → c ≠ c' → 0 ≤ x.o c → x.o c ≠ x.o c'
  id : ∀ i, i < x.calls.length → (sp x.calls i).id = (i : Int)
  ok : ∀ i, i < x.calls.length → okOp (sp x.calls i).op
  busy : ∀ i, i < x.calls.length → (sp x.calls i).to < 0 → ∃ c, c < 3 ∧ x.o c = (i : Int)
theorem PendP.of {l l' : List Sp} {W W' : List Nat} {j : Nat} (h : PendP l W j v e) (hs : sp l' j = sp l j) (hW : j ∈ W' ↔ j ∈ W) : PendP l' W' j v e := by
  unfold PendP at h ⊢
  rw [hs, hW]; exact h
theorem PendT.of {l l' : List Sp} {W W' : List Nat} {j : Nat} {next : Bool} {d : DrS} (h : PendT l W j next d) (hs : sp l' j = sp l j) (hW : j ∈ W' ↔ j ∈ W) : PendT l' W' j next d := by
  refine ⟨fun hn => ?_, fun hn => ?_⟩
  · rw [hs, hW]; exact h.d hn
  · rw [hs, hW]; exact h.f hn
/-- one more took effect -/
theorem mem_more {W : List Nat} {i j : Nat} (h : i ≠ j) : i ∈ W ++ [j] ↔ i ∈ W := by simp [h]
/-- nothing that counts is another -/
theorem LzC.same (h : LzC n x W) (y : CS) (h1 : y.calls = x.calls) (h2 : y.q = x.q) (h3 : y.clock = x.clock) (h4 : y.o = x.o) (h5 : y.v = x.v) (h6 : y.e = x.e) (h7 : y.next = x.next) (h8 : y.d = x.d) : LzC n y W := by
  refine ⟨by rw [h1, h2, h3]; exact h.lz, by rw [h1, h4]; exact h.to, by rw [h1, h4, h5, h6]; exact h.p, by rw [h1, h4, h7, h8]; exact h.t, by rw [h4]; exact h.apart, by rw [h1]; exact h.id, by rw [h1]; exact h.ok, by rw [h1, h4]; exact h.busy⟩
/-- a call ends: what the others have stays -/
theorem LzC.over (h : LzC n x W) {j : Nat} (hc : c < 3) (hj : x.o c = (j : Int)) {a : An3} {W' : List Nat} {y : CS} (hlz : Lz (qMac n) (x.calls.set j { sp x.calls j with to := x.clock + 1, an := a }) W' x.q (x.clock + 1)) (hW : ∀ i, i ≠ j → (i ∈ W' ↔ i ∈ W))
    (h1 : y.calls = x.calls.set j { sp x.calls j with to := x.clock + 1, an := a }) (h2 : y.q = x.q) (h3 : y.clock = x.clock + 1) (h4 : y.o = upN x.o c (-1)) (h5 : ∀ i, i < 2 → i ≠ c → y.v i = x.v i ∧ y.e i = x.e i) (h7 : c ≠ 2 → y.next = x.next ∧ y.d = x.d) (h0 : 0 ≤ x.clock) : LzC n y W' := by
  have hjl := (h.to c hc j hj).1
  have hsp : ∀ i, i ≠ j → sp y.calls i = sp x.calls i := fun i hi => by rw [h1, sp_set _ hjl, if_neg hi]
  have hspj : sp y.calls j = { sp x.calls j with to := x.clock + 1, an := a } := by rw [h1, sp_set _ hjl, if_pos rfl]
  have hlen : y.calls.length = x.calls.length := by rw [h1]; simp
  have hne : ∀ c', c' < 3 → ∀ i : Nat, y.o c' = (i : Int) → c' ≠ c ∧ x.o c' = (i : Int) ∧ i ≠ j := by
    intro c' hc' i hi
    have hcc : c' ≠ c := by
      intro e; rw [h4, e, upN_same] at hi; omega
    rw [h4, upN_ne _ _ hcc] at hi
    refine ⟨hcc, hi, fun e => ?_⟩
    have := h.apart c' c hc' hc hcc (by omega)
    rw [hi, hj, e] at this
    exact this rfl
  refine ⟨by rw [h1, h2, h3]; exact hlz, fun c' hc' i hi => ?_, fun c' hc' i hi => ?_, fun i hi => ?_, fun c1 c2 g1 g2 g3 g4 => ?_, fun i hi => ?_, fun i hi => ?_, fun i hi ht => ?_⟩
  · obtain ⟨k1, k2, k3⟩ := hne c' hc' i hi
    rw [hlen, hsp i k3]; exact h.to c' hc' i k2
  · obtain ⟨k1, k2, k3⟩ := hne c' (by omega) i hi
    obtain ⟨v1, v2⟩ := h5 c' hc' k1
    rw [v1, v2]
    exact (h.p c' hc' i k2).of (hsp i k3) (hW i k3)
  · obtain ⟨k1, k2, k3⟩ := hne 2 (by omega) i hi
    obtain ⟨v1, v2⟩ := h7 (fun e => k1 e.symm)
    rw [v1, v2]
    exact (h.t i k2).of (hsp i k3) (hW i k3)
  · rw [h4] at g4 ⊢
    have n1 : c1 ≠ c := fun e => by rw [e, upN_same] at g4; omega
    rw [upN_ne _ _ n1] at g4 ⊢
    by_cases n2 : c2 = c
    · rw [n2, upN_same]; omega
    · rw [upN_ne _ _ n2]; exact h.apart c1 c2 g1 g2 g3 g4
  · rw [hlen] at hi
    by_cases e : i = j
    · rw [e, hspj]; exact h.id j hjl
    · rw [hsp i e]; exact h.id i hi
  · rw [hlen] at hi
    by_cases e : i = j
    · rw [e, hspj]; exact h.ok j hjl
    · rw [hsp i e]; exact h.ok i hi
  · rw [hlen] at hi
    by_cases e : i = j
    · rw [e, hspj] at ht; simp only at ht; omega
    · rw [hsp i e] at ht
      obtain ⟨c', g1, g2⟩ := h.busy i hi ht
      refine ⟨c', g1, ?_⟩
      rw [h4, upN_ne _ _ ?_]; exact g2
      intro ee; rw [ee, hj] at g2; exact e (by omega)
theorem set_modify {l : List Sp} {j : Nat} (f : Sp → Sp) (h : j < l.length) : l.modify j f = l.set j (f (sp l j)) := by
  refine List.ext_getElem? fun i => ?_
  rw [List.getElem?_modify, List.getElem?_set]
  by_cases e : j = i
  · subst e
    simp [h, sp, List.getD, List.getElem?_eq_getElem h]
  · simp [e]
end
end Go.Proofs.YtlaojmcekeohnaaGreatDoor.Lift

set_option linter.unusedVariables false
set_option linter.unusedSimpArgs false
set_option maxRecDepth 20000
namespace Go.Proofs.YtlaojmcekeohnaaGreatDoor.Lift
open Go Go.Proofs.YtlaojmcekeohnaaGreatDoor.Gh Go.Proofs
section
variable {n D T K H P c : Nat} {q : List Int} {s s' : MS} {x : CS} {v e : Int} {p p' : PuS} {W : List Nat}
theorem qn_push (h1 : 1 ≤ n) (h6 : n ≤ 6) {L : List Int} (hq : L.length < n) (v : Int) : qNext n L (1, 0, 0, v) (0, 0, 0) = some (L ++ [v]) := by
  unfold qNext fchk dCode dWord dNext dOk
  have a1 : ¬ (n : Int) < 1 := by omega
  have a2 : ¬ 1024 < (n : Int) := by omega
  have a3 : ¬ (n : Int) < L.length := by omega
  have a4 : ¬ (n : Int) ≤ L.length := by omega
  simp only [a1, a2, a3, a4, if_false, if_true]
  simp
theorem qn_full (h1 : 1 ≤ n) (h6 : n ≤ 6) {L : List Int} (hq : L.length = n) (v : Int) : qNext n L (1, 0, 0, v) (7, 0, 0) = some L := by
  unfold qNext fchk dCode dWord dNext dOk
  have a1 : ¬ (n : Int) < 1 := by omega
  have a2 : ¬ 1024 < (n : Int) := by omega
  have a3 : ¬ (n : Int) < L.length := by omega
  have a4 : (n : Int) ≤ L.length := by omega
  simp only [a1, a2, a3, a4, if_false, if_true]
  simp
theorem qn_drop (h1 : 1 ≤ n) (h6 : n ≤ 6) {L : List Int} (hq : L.length ≤ n) (h0 : L.length ≠ 0) : qNext n L (3, 0, 0, 0) (0, 0, 0) = some (L.drop 1) := by
  unfold qNext fchk dCode dWord dNext dOk
  have a1 : ¬ (n : Int) < 1 := by omega
  have a2 : ¬ 1024 < (n : Int) := by omega
  have a3 : ¬ (n : Int) < L.length := by omega
  have a4 : ¬ L = [] := fun e => h0 (by rw [e]; rfl)
  simp only [a1, a2, a3, a4, if_false, if_true]
  simp
theorem qn_front (h1 : 1 ≤ n) (h6 : n ≤ 6) {L : List Int} (hq : L.length ≤ n) : qNext n L (2, 0, 0, 0) (if L = [] then 15 else 0, 0, L.headD 0) = some L := by
  unfold qNext fchk dCode dWord dNext dOk
  have a1 : ¬ (n : Int) < 1 := by omega
  have a2 : ¬ 1024 < (n : Int) := by omega
  have a3 : ¬ (n : Int) < L.length := by omega
  simp only [a1, a2, a3, if_false, if_true]
  simp
theorem fine1 (v : Int) (s : List Int) (a : An3) : a ∈ (qMac n).fine s (1, 0, 0, v) → a = (0, 0, 0) := by
  show a ∈ qFine s (1, 0, 0, v) → _
  unfold qFine; simp
theorem fine3 (s : List Int) (a : An3) : a ∈ (qMac n).fine s (3, 0, 0, 0) → a = (0, 0, 0) := by
  show a ∈ qFine s (3, 0, 0, 0) → _
  unfold qFine; simp
/-- one of the calls takes effect: all the rest stays -/
theorem LzC.effect (h : LzC n x W) {j : Nat} (hc : c < 3) (hj : x.o c = (j : Int)) (hjW : j ∉ W) {an : An3} {q' : List Int} (ha : an ∈ qFine x.q (sp x.calls j).op) (hq : qNext n x.q (sp x.calls j).op an = some q') {y : CS}
    (h1 : y.calls = x.calls) (h2 : y.q = q') (h3 : y.clock = x.clock) (h4 : y.o = x.o) (h5 : ∀ i, i < 2 → i ≠ c → y.v i = x.v i ∧ y.e i = x.e i) (h6 : c < 2 → y.v c = x.v c ∧ y.e c = 0) (h7 : c ≠ 2 → y.next = x.next ∧ y.d = x.d) (h8 : c = 2 → x.next = true ∧ y.next = true ∧ ∀ R t, y.d ≠ .go 1 R t) : LzC n y (W ++ [j]) := by
  obtain ⟨k1, k2⟩ := h.to c hc j hj
  have hlz := h.lz.effect (m := qMac n) k1 (by omega) hjW (q' := q') ha hq
  have hne : ∀ c', c' < 3 → c' ≠ c → ∀ i : Nat, x.o c' = (i : Int) → i ≠ j := fun c' hc' hcc i hi e => by
    have := h.apart c' c hc' hc hcc (by omega)
    rw [hi, hj, e] at this
    exact this rfl
  refine ⟨by rw [h1, h2, h3]; exact hlz, by rw [h1, h4]; exact h.to, fun c' hc' i hi => ?_, fun i hi => ?_, by rw [h4]; exact h.apart, by rw [h1]; exact h.id, by rw [h1]; exact h.ok, by rw [h1, h4]; exact h.busy⟩
  · rw [h4] at hi
    by_cases e : c' = c
    · subst e
      obtain rfl : i = j := by omega
      obtain ⟨v1, v2⟩ := h6 hc'
      have := h.p c' hc' i hi
      rw [h1, v1, v2]
      exact ⟨this.1, .inr ⟨rfl, by simp⟩⟩
    · obtain ⟨v1, v2⟩ := h5 c' hc' e
      rw [v1, v2, h1]
      exact (h.p c' hc' i hi).of rfl (mem_more (hne c' (by omega) e i hi))
  · rw [h4] at hi
    by_cases e : c = 2
    · subst e
      obtain rfl : i = j := by omega
      obtain ⟨hx, v1, v2⟩ := h8 rfl
      have := h.t i hi
      rw [h1, v1]
      exact ⟨fun _ => ⟨(this.d hx).1, fun R t e => absurd e (v2 R t), fun _ _ _ => by simp⟩, fun hn => by cases hn⟩
    · obtain ⟨v1, v2⟩ := h7 e
      rw [v1, v2, h1]
      exact (h.t i hi).of rfl (mem_more (hne 2 (by omega) (fun k => e k.symm) i hi))
end
end Go.Proofs.YtlaojmcekeohnaaGreatDoor.Lift

set_option linter.unusedVariables false
set_option linter.unusedSimpArgs false
set_option maxRecDepth 20000
namespace Go.Proofs.YtlaojmcekeohnaaGreatDoor.Lift
open Go Go.Proofs.YtlaojmcekeohnaaGreatDoor.Gh Go.Proofs
section
variable {n D T K H P c : Nat} {q : List Int} {s s' : MS} {x : CS} {v e : Int} {p p' : PuS} {W : List Nat}
theorem LzC.ends (h : LzC n x W) {j : Nat} (hc : c < 3) (hj : x.o c = (j : Int)) (h0 : 0 ≤ x.clock) {W' : List Nat} {a : An3} {y : CS} (hW : ∀ i, i ≠ j → (i ∈ W' ↔ i ∈ W)) (hlz : Lz (qMac n) (x.calls.set j { sp x.calls j with to := x.clock + 1, an := a }) W' x.q (x.clock + 1))
    (h1 : y.calls = x.calls) (h2 : y.q = x.q) (h3 : y.clock = x.clock) (h4 : y.o = x.o) (h5 : ∀ i, i < 2 → i ≠ c → y.v i = x.v i ∧ y.e i = x.e i) (h7 : c ≠ 2 → y.next = x.next ∧ y.d = x.d) : LzC n (y.ends c a) W' := by
  have hl := (h.to c hc j hj).1
  refine h.over hc hj hlz hW ?_ h2 ?_ ?_ h5 h7 h0
  · show y.calls.modify (y.o c).toNat _ = _
    rw [h1, h4, hj, Int.toNat_natCast, set_modify _ hl, h3]
  · show y.clock + 1 = _; rw [h3]
  · show upN y.o c (-1) = _; rw [h4]
theorem lz_pushes (hI : Inv n K x D T H) (h : LzC n x W) (hc : c < 2) (hb : 0 ≤ x.o c) (ht : (x.pushes n c).2 = true) : ∃ W', LzC n (x.pushes n c).1 W' := by
  have n1 := hI.m.n1
  have n6 := hI.m.n6
  have hqn := hI.m.qn
  have h0 := hI.k.1
  have hp : InvP n D T (D + x.q.length) (x.v c) (x.e c) (x.p c) := (hI.p c hc).elim (fun k => by omega) (·.2)
  obtain ⟨j, hj⟩ : ∃ j : Nat, x.o c = (j : Int) := ⟨(x.o c).toNat, by omega⟩
  have hP := h.p c hc j hj
  obtain ⟨k1, k2⟩ := h.to c (by omega) j hj
  unfold CS.pushes CS.pushed1 at ht ⊢
  have F1 := @pu_lay n D T _ x.s (x.v c) (x.e c) (x.p c) hp
  have F2 := @pu_over n D T _ x.s (x.v c) (x.e c) (x.p c) hp
  generalize (x.p c).step x.s = r at ht F1 F2 ⊢
  obtain ⟨p', s'⟩ := r
  simp only at ht F1 F2 ⊢
  by_cases hl : s'.kind = 3 ∧ s'.held = true ∧ slotI s' = true
  · obtain ⟨e14, ho⟩ := F1 hl
    by_cases hf : n ≤ x.q.length
    · rw [if_pos ⟨hl, hf⟩] at ht; cases ht
    · rw [if_neg (fun k => hf k.2)] at ht ⊢
      unfold CS.pushed2 at ht ⊢
      simp only [if_pos hl, upN_same, ho, if_true] at ht ⊢
      have hjW : j ∉ W := by
        rcases hP.2 with k | k
        · exact k.2
        · have := k.1; omega
      refine ⟨_, h.effect (by omega) hj hjW (an := (0, 0, 0)) (q' := x.q ++ [x.v c]) ?_ ?_ rfl rfl rfl rfl (fun i hi hic => ⟨rfl, upN_ne _ _ hic⟩) (fun _ => ⟨rfl, upN_same _ _ _⟩) (fun _ => ⟨rfl, rfl⟩) (fun e => by omega)⟩
      · rw [hP.1]; unfold qFine; simp
      · rw [hP.1]; exact qn_push n1 n6 (by omega) _
  · rw [if_neg (fun k => hl k.1)] at ht ⊢
    unfold CS.pushed2 at ht ⊢
    simp only [if_neg hl, upN_same] at ht ⊢
    by_cases ho : p'.over = false
    · simp only [ho, if_true] at ht ⊢
      exact ⟨W, h.same _ rfl rfl rfl rfl rfl rfl rfl rfl⟩
    · have ho' : p'.over = true := by simpa using ho
      simp only [if_neg ho] at ht ⊢
      have F := F2 ho'
      unfold CS.pushed3 at ht ⊢
      by_cases hfull : s'.kind = 1 ∧ slotI s' = true ∧ x.q.length = n ∧ x.e c ≠ 0
      · simp only [if_pos hfull, upN_same] at ht ⊢
        obtain ⟨e14, e7⟩ : x.e c = 14 ∧ p'.err = 7 := by
          rcases F with k | k
          · exact k
          · exact absurd k.1 hfull.2.2.2
        have hjW : j ∉ W := by
          rcases hP.2 with k | k
          · exact k.2
          · exact absurd k.1 hfull.2.2.2
        rw [e7]
        refine ⟨W ++ [j], h.ends (by omega) hj h0 (fun i hi => mem_more hi) (h.lz.endNow h0 k1 (by omega) hjW (7, 0, 0) ?_) rfl rfl rfl rfl (fun i hi hic => ⟨rfl, upN_ne _ _ hic⟩) (fun _ => ⟨rfl, rfl⟩)⟩
        rw [hP.1]
        exact qn_full n1 n6 hfull.2.2.1 _
      · simp only [if_neg hfull, upN_same, decide_eq_true_eq] at ht ⊢
        rcases F with k | k
        · omega
        · have hjW : j ∈ W := by
            rcases hP.2 with g | g
            · have := g.1; have := k.1; omega
            · exact g.2
          rw [k.2]
          refine ⟨W, h.ends (by omega) hj h0 (fun i hi => Iff.rfl) (h.lz.ends h0 k1 (by omega) hjW (0, 0, 0) fun s a ha => ?_) rfl rfl rfl rfl (fun i hi hic => ⟨rfl, rfl⟩) (fun _ => ⟨rfl, rfl⟩)⟩
          rw [hP.1] at ha
          exact fine1 _ _ _ ha
theorem lz_takes (hI : Inv n K x D T H) (h : LzC n x W) (hb : 0 ≤ x.o 2) (ht : x.takes.2 = true) : ∃ W', LzC n x.takes.1 W' := by
  have n1 := hI.m.n1
  have n6 := hI.m.n6
  have hqn := hI.m.qn
  have h0 := hI.k.1
  obtain ⟨j, hj⟩ : ∃ j : Nat, x.o 2 = (j : Int) := ⟨(x.o 2).toNat, by omega⟩
  obtain ⟨k1, k2⟩ := h.to 2 (by omega) j hj
  have hP := h.t j hj
  unfold CS.takes at ht ⊢
  by_cases hn : x.next = true
  · rw [if_pos hn] at ht ⊢
    obtain ⟨hop, hg1, hg2⟩ := hP.d hn
    have hd : (∃ t, x.d = .go 1 (rgN n) t) ∨ (∃ t, x.d = .go 2 (rgN n) t) := by
      cases hI.t with
      | idle a _ _ => omega
      | seen a _ _ _ _ => omega
      | d1 a b d e f => exact .inl ⟨_, d⟩
      | d2 a b d e => exact .inr ⟨_, d⟩
      | f1 _ _ b _ _ => rw [hn] at b; cases b
      | f2 _ b _ _ => rw [hn] at b; cases b
    rcases hd with ⟨t, hd⟩ | ⟨t, hd⟩
    · have hjW := hg1 _ _ hd
      have e1 : (x.d.step x.s).1 = .go 2 (rgN n) t := by rw [hd]; simp [DrS.step]
      generalize x.d.step x.s = r at ht e1 ⊢
      obtain ⟨d', s'⟩ := r
      simp only at e1
      subst e1
      simp only [DrS.over, if_true] at ht ⊢
      by_cases hq : x.q.length = 0
      · simp only [hq, if_true] at ht; cases ht
      · simp only [hq, if_false] at ht ⊢
        refine ⟨_, h.effect (by omega) hj hjW (an := (0, 0, 0)) (q' := x.q.drop 1) ?_ ?_ rfl rfl rfl rfl (fun i hi hic => ⟨rfl, rfl⟩) (fun k => by omega) (fun k => absurd rfl k) (fun _ => ⟨hn, hn, fun R t e => by cases e⟩)⟩
        · rw [hop]; unfold qFine; simp
        · rw [hop]; exact qn_drop n1 n6 hqn hq
    · have hjW := hg2 _ _ hd
      have e1 : (x.d.step x.s).1 = .done 0 := by rw [hd]; simp [DrS.step]
      generalize x.d.step x.s = r at ht e1 ⊢
      obtain ⟨d', s'⟩ := r
      simp only at e1
      subst e1
      simp only [DrS.over, Bool.true_eq_false, if_false] at ht ⊢
      refine ⟨W, h.ends (by omega) hj h0 (fun i hi => Iff.rfl) (h.lz.ends h0 k1 (by omega) hjW (0, 0, 0) fun s a ha => ?_) rfl rfl rfl rfl (fun i hi hic => ⟨rfl, rfl⟩) (fun k => absurd rfl k)⟩
      rw [hop] at ha
      exact fine3 _ _ ha
  · rw [if_neg hn] at ht ⊢
    obtain ⟨hop, hjW⟩ := hP.f (by simpa using hn)
    generalize x.f.step x.s = r at ht ⊢
    obtain ⟨f', s'⟩ := r
    simp only at ht ⊢
    by_cases ho : f'.over = false
    · simp only [ho, if_true] at ht ⊢
      exact ⟨W, h.same _ rfl rfl rfl rfl rfl rfl rfl rfl⟩
    · simp only [if_neg ho] at ht ⊢
      refine ⟨W ++ [j], h.ends (by omega) hj h0 (fun i hi => mem_more hi) (h.lz.endNow h0 k1 (by omega) hjW _ ?_) rfl rfl rfl rfl (fun i hi hic => ⟨rfl, rfl⟩) (fun k => absurd rfl k)⟩
      rw [hop]
      have := qn_front n1 n6 hqn
      refine Eq.trans ?_ this
      congr 1
      cases hq : x.q with
      | nil =>
        rw [hq] at ht
        simp at ht
        rw [ht.1, ht.2]; rfl
      | cons z l =>
        rw [hq] at ht
        simp at ht
        have hz := hI.m.qv z (by rw [hq]; simp)
        have hw : z % 18446744073709551616 = z := by omega
        rw [ht.1, ht.2, wrap_u64, hw]
        simp
        rfl
theorem lz_begins (hI : Inv n K x D T H) (h : LzC n x W) (hc : c < 3) (hb : x.o c = -1) : LzC n (x.begins n c) W := by
  have h0 := hI.k.1
  have hk := hI.k.2.2.1
  have hWl : ∀ a ∈ W, a < x.calls.length := fun a ha => ((way_fresh h.lz.way).1 a ha).2
  have key : ∀ (y : CS) (C : Sp), y.calls = x.calls ++ [C] → y.q = x.q → y.clock = x.clock + 1 → y.o = upN x.o c x.calls.length → C.id = x.calls.length → C.to = -1 → C.fr = x.clock + 1 → okOp C.op → (∀ i, i < 2 → i ≠ c → y.v i = x.v i ∧ y.e i = x.e i) → (c < 2 → C.op = (1, 0, 0, y.v c) ∧ y.e c = 14) → (c ≠ 2 → y.next = x.next ∧ y.d = x.d) → (c = 2 → (y.next = true → C.op = (3, 0, 0, 0) ∧ ∀ R t, y.d ≠ .go 2 R t) ∧ (y.next = false → C.op = (2, 0, 0, 0))) → LzC n y W := by
    intro y C h1 h2 h3 h4 c1 c2 c3 c4 h5 h6 h7 h8
    have hold : ∀ i, i < x.calls.length → sp y.calls i = sp x.calls i := fun i hi => by rw [h1, sp_app, if_pos hi]
    have hnew : sp y.calls x.calls.length = C := by rw [h1, sp_app, if_neg (by omega), if_pos rfl]
    have hlen : y.calls.length = x.calls.length + 1 := by rw [h1]; simp
    have hx : ∀ c', c' < 3 → ∀ i : Nat, y.o c' = (i : Int) → c' = c ∧ i = x.calls.length ∨ c' ≠ c ∧ x.o c' = (i : Int) ∧ i < x.calls.length := by
      intro c' hc' i hi
      rw [h4] at hi
      by_cases e : c' = c
      · rw [e, upN_same] at hi; exact .inl ⟨e, by omega⟩
      · rw [upN_ne _ _ e] at hi
        exact .inr ⟨e, hi, (h.to c' hc' i hi).1⟩
    refine ⟨by rw [h1, h2, h3]; exact h.lz.begin h0 C c2 c3, fun c' hc' i hi => ?_, fun c' hc' i hi => ?_, fun i hi => ?_, fun a b g1 g2 g3 g4 => ?_, fun i hi => ?_, fun i hi => ?_, fun i hi ht => ?_⟩
    · rw [hlen]
      rcases hx c' hc' i hi with ⟨_, e⟩ | ⟨_, e, l⟩
      · rw [e, hnew]; exact ⟨by omega, c2⟩
      · rw [hold i l]; exact ⟨by omega, (h.to c' hc' i e).2⟩
    · rcases hx c' (by omega) i hi with ⟨g, e⟩ | ⟨g, e, l⟩
      · subst g
        obtain ⟨g1, g2⟩ := h6 hc'
        rw [e]
        unfold PendP
        rw [hnew]
        exact ⟨g1, .inl ⟨g2, fun k => by have := hWl _ k; omega⟩⟩
      · obtain ⟨v1, v2⟩ := h5 c' hc' g
        rw [v1, v2]
        exact (h.p c' hc' i e).of (hold i l) Iff.rfl
    · rcases hx 2 (by omega) i hi with ⟨g, e⟩ | ⟨g, e, l⟩
      · obtain ⟨g1, g2⟩ := h8 g.symm
        rw [e]
        have hno : x.calls.length ∉ W := fun k => by have := hWl _ k; omega
        exact ⟨fun hn => by rw [hnew]; exact ⟨(g1 hn).1, fun _ _ _ => hno, fun R t e => absurd e ((g1 hn).2 R t)⟩, fun hn => by rw [hnew]; exact ⟨g2 hn, hno⟩⟩
      · obtain ⟨v1, v2⟩ := h7 (fun k => g k.symm)
        rw [v1, v2]
        exact (h.t i e).of (hold i l) Iff.rfl
    · obtain ⟨i, hi⟩ : ∃ i : Nat, y.o a = (i : Int) := ⟨(y.o a).toNat, by omega⟩
      intro e
      rcases hx a g1 i hi with ⟨k, l⟩ | ⟨k, l, m⟩
      · rcases hx b g2 i (by omega) with ⟨k', l'⟩ | ⟨k', l', m'⟩
        · omega
        · omega
      · rcases hx b g2 i (by omega) with ⟨k', l'⟩ | ⟨k', l', m'⟩
        · omega
        · exact h.apart a b g1 g2 g3 (by omega) (by omega)
    · rw [hlen] at hi
      by_cases e : i = x.calls.length
      · rw [e, hnew]; exact c1
      · rw [hold i (by omega)]; exact h.id i (by omega)
    · rw [hlen] at hi
      by_cases e : i = x.calls.length
      · rw [e, hnew]; exact c4
      · rw [hold i (by omega)]; exact h.ok i (by omega)
    · rw [hlen] at hi
      by_cases e : i = x.calls.length
      · exact ⟨c, hc, by rw [h4, upN_same, e]⟩
      · rw [hold i (by omega)] at ht
        obtain ⟨c', g1, g2⟩ := h.busy i (by omega) ht
        refine ⟨c', g1, ?_⟩
        rw [h4, upN_ne _ _ ?_]; exact g2
        intro k; rw [k, hb] at g2; omega
  have z3 : okOp (3, 0, 0, 0) := by unfold okOp; decide
  have z2 : okOp (2, 0, 0, 0) := by unfold okOp; decide
  unfold CS.begins
  by_cases c2 : c < 2
  · rw [if_pos c2]
    refine key _ _ rfl rfl rfl rfl rfl rfl rfl ?_ (fun i hi hic => ⟨upN_ne _ _ hic, upN_ne _ _ hic⟩) (fun _ => ⟨by simp [upN_same], upN_same _ _ _⟩) (fun _ => ⟨rfl, rfl⟩) (fun e => by omega)
    unfold okOp; simp only; omega
  · rw [if_neg c2]
    have hc2 : c = 2 := by omega
    by_cases hn : x.next = true
    · rw [if_pos hn]
      refine key _ _ rfl rfl rfl rfl rfl rfl rfl z3 (fun i hi hic => ⟨rfl, rfl⟩) (fun k => absurd k c2) (fun k => absurd hc2 k) (fun _ => ⟨fun _ => ⟨rfl, fun R t e => ?_⟩, fun k => by simp only at k; rw [hn] at k; cases k⟩)
      simp only [newDr] at e
      split at e <;> cases e
    · rw [if_neg hn]
      exact key _ _ rfl rfl rfl rfl rfl rfl rfl z2 (fun i hi hic => ⟨rfl, rfl⟩) (fun k => absurd k c2) (fun k => absurd hc2 k) (fun _ => ⟨fun k => absurd k hn, fun _ => rfl⟩)
theorem lz_steps (hI : Inv n K x D T H) (h : LzC n x W) (hc : c < 3) (hb : 0 ≤ x.o c) (ht : (x.steps n c).2 = true) : ∃ W', LzC n (x.steps n c).1 W' := by
  unfold CS.steps at ht ⊢
  by_cases c2 : c < 2
  · rw [if_pos c2] at ht ⊢; exact lz_pushes hI h c2 hb ht
  · obtain rfl : c = 2 := by omega
    rw [if_neg c2] at ht ⊢; exact lz_takes hI h hb ht
theorem lz0 (n : Nat) (x : CS) (h1 : x.calls = []) (h2 : x.q = []) (h3 : ∀ c, x.o c = -1) : LzC n x [] := by
  refine ⟨by rw [h1, h2]; exact Lz.nil _, fun c _ j hj => by rw [h3] at hj; omega, fun c _ j hj => by rw [h3] at hj; omega, fun j hj => by rw [h3] at hj; omega, fun c _ _ _ _ k => by rw [h3] at k; omega, fun i hi => by rw [h1] at hi; simp at hi, fun i hi => by rw [h1] at hi; simp at hi, fun i hi => by rw [h1] at hi; simp at hi⟩
/-- at the end there is an order -/
theorem lz_goes (h : LzC n x W) : Goes (qMac n) x.calls [] [] 0 := h.lz.all
theorem lz_ids (h : LzC n x W) : (x.calls.map (·.id)).Nodup := by
  refine List.pairwise_iff_getElem.2 fun i j h1 h2 hij => ?_
  simp only [List.length_map] at h1 h2
  have e1 := h.id i h1
  have e2 := h.id j h2
  unfold sp at e1 e2
  simp [List.getD, List.getElem?_eq_getElem h1] at e1
  simp [List.getD, List.getElem?_eq_getElem h2] at e2
  simp only [List.getElem_map]
  omega
end
end Go.Proofs.YtlaojmcekeohnaaGreatDoor.Lift

set_option linter.unusedVariables false
set_option linter.unusedSimpArgs false
set_option maxRecDepth 20000
namespace Go.Proofs.YtlaojmcekeohnaaGreatDoor.Lift
open Go Go.Proofs.YtlaojmcekeohnaaGreatDoor.Gh Go.Proofs
section
variable {own own' own1 : Nat → Nat} {G G' G1 : GS} {b t n c : Nat} {ts : List Nat} {cs : List Value} {x y y0 : CS} {B B1 : CrB} {v : Value} {K D T H : Nat}
theorem steps_in (orc : FuncId → Bool) (h : CrG own G n x B) (hc : c < 3) (hf : Fit3 n x c) (hdd : c = 2 → x.next = true → x.dd = true) :
    Wp ((E orc).cl 74 [P0 B.xb, .int .i64 c] G) (CrPost own G n B (x.steps n c).1 (.bool (x.steps n c).2)) := by
  refine Wp.ref (f74 (exL_ok Q orc) _ _ G) ?_
  unfold CS.steps
  by_cases c2 : c < 2
  · rw [if_pos c2]
    obtain ⟨⟨r, G'⟩, e, hp⟩ := pushes_in orc h c2 hf
    obtain ⟨rfl, hp'⟩ := hp
    have : (c : Int) < 2 := by omega
    simp [s74, this, c2, e]
    exact ⟨rfl, hp'⟩
  · rw [if_neg c2]
    obtain rfl : c = 2 := by omega
    obtain ⟨⟨r, G'⟩, e, hp⟩ := takes_in orc h hf (hdd rfl)
    obtain ⟨rfl, hp'⟩ := hp
    simp [s74, e]
    exact ⟨rfl, hp'⟩
theorem Inv.fit (h : Inv n K x D T H) (hb : 0 ≤ x.o c) (hK : K ≤ 1000000) : Fit3 n x c :=
  ⟨⟨(x.o c).toNat, by omega, by have := (h.o c).1; omega⟩, by have := h.k; omega, by have := h.m.qn; have := h.m.n6; omega, h.m.n6⟩
theorem begins_in (orc : FuncId → Bool) (h : CrG own G n x B) (hI : Inv n K x D T H) (hK : K ≤ 100000) (hc : c < 3) (hb : x.o c = -1) :
    Wp ((E orc).cl 73 [P0 B.xb, .int .i64 c] G) (CrPost own G n B (x.begins n c) (.tuple #[])) := by
  have hk := hI.k
  by_cases c2 : c < 2
  · exact begins_push orc h c2 hb (by omega) (by omega) (by omega) hI.m.n1 hI.m.n6
  · obtain rfl : c = 2 := by omega
    cases hn : x.next with
    | false => exact begins_front orc h hn hb (by omega) (by omega) hI.m.n1 hI.m.n6
    | true =>
      refine begins_drop orc h hn hb (by omega) (by omega) hI.m.n1 hI.m.n6 ?_
      have := hI.m.small
      cases hI.t with
      | idle _ _ k => rw [k] at hn; cases hn
      | seen _ _ _ _ m => rw [m]; exact ⟨by omega, by omega⟩
      | d1 a _ _ _ _ => omega
      | d2 a _ _ _ => omega
      | f1 _ a _ _ _ => omega
      | f2 a _ _ _ => omega
/-- the tables are there, and are no blocks of the crew's -/
structure TabS (own : Nat → Nat) (G : GS) : Prop where
  tb : tabs G = true
  t0 : own 0 = 20
  t1 : own 1 = 20
  n2 : 2 ≤ G.nx
theorem TabS.to (h : TabS own G) (m : ModT crT own G G') (a : Agr own own' G) : TabS own' G' := by
  have hn := h.n2
  have h0 := m.same (g := 0) (by omega) (by rw [h.t0]; decide)
  have h1 := m.same (g := 1) (by omega) (by rw [h.t1]; decide)
  refine ⟨?_, (a 0 (by omega)).trans h.t0, (a 1 (by omega)).trans h.t1, Nat.le_trans hn m.nx⟩
  have := h.tb
  unfold tabs at this ⊢
  rw [h0, h1]; exact this
/-- what is true of a crew, and of its calls' order -/
structure InvL (n K : Nat) (x : CS) (D T H : Nat) : Prop where
  i : Inv n K x D T H
  lz : ∃ W, LzC n x W
theorem InvL.more (h : InvL n K x D T H) : InvL n (K + 1) x D T H := ⟨h.i.more, h.lz⟩
/-- a slice of the law's argument -/
structure ArgS (own : Nat → Nat) (G : GS) (v : Value) (L : List Int) : Prop where
  is : SlR (rowsI .i64) G v L
  tag : ∀ g, InB v g → own g = 20
  ts : TabS own G
theorem ArgS.to {L : List Int} (h : ArgS own G v L) (m : ModT crT own G G') (a : Agr own own' G) : ArgS own' G' v L :=
  ⟨h.is.kept m.nx fun g hg => m.same (h.is.under g hg) (by rw [h.tag g hg]; decide), fun g hg => (a g (h.is.under g hg)).trans (h.tag g hg), h.ts.to m a⟩
theorem pick_ok (orc : FuncId → Bool) (x n : Int) (hn : 0 < n) (hn2 : n < 2 ^ 40) (G : GS) : (E orc).cl 19 [.int .i64 x, .int .i64 n] G = some (.int .i64 (x % n), G) := by
  refine f19 (exL_ok Q orc) _ _ G _ ?_
  have h1 := Int.emod_nonneg x (show n ≠ 0 by omega)
  have h2 := Int.emod_lt_of_pos x hn
  have ht := @Int.tmod_eq_emod x n
  have hn0 : ¬ n ≤ 0 := by omega
  have hn1 : ¬ n = 0 := by omega
  have hw : IntKind.wrap .i64 (x % n) = x % n := wrap64 (by omega) (by omega)
  by_cases hx : x.tmod n < 0
  · have e : x.tmod n + n = x % n := by split at ht <;> omega
    simp [s19, clip_t, hx, e, hw, hn0, hn1]
  · have e : x.tmod n = x % n := by split at ht <;> omega
    have hx' : ¬ x % n < 0 := by omega
    simp [s19, clip_t, e, hx', hn0, hn1]
/-- a crew behind what was done -/
inductive PlP (n xb K : Nat) (G : GS) : Prop where
  | mk (own' : Nat → Nat) (B' : CrB) (x' : CS) (K' D' T' H' : Nat) : B'.xb = xb → CrG own' G n x' B' → InvL n K' x' D' T' H' → K' ≤ K → TabS own' G → PlP n xb K G
inductive AlP (n xb K c : Nat) (o : Nat → Int) (G : GS) : Prop where
  | mk (own' : Nat → Nat) (B' : CrB) (x' : CS) (K' D' T' H' : Nat) : B'.xb = xb → CrG own' G n x' B' → InvL n K' x' D' T' H' → K' ≤ K → TabS own' G → x'.o c = -1 → (∀ i, i ≠ c → x'.o i = o i) → AlP n xb K c o G
/-- acts by numbers -/
theorem plays_lp (orc : FuncId → Bool) {xb : Nat} {v1 : Value} {L : List Int} (hlen : L.length ≤ 1000) : ∀ (k i : Nat) (τ : Env) (G : GS) (own : Nat → Nat) (B : CrB) (x : CS) (K D T H : Nat),
    i + k = L.length → τ 0 = P0 xb → τ 1 = v1 → τ 5 = .int .i64 (i : Int) → B.xb = xb → CrG own G n x B → ArgS own G v1 L → InvL n K x D T H → K + 2 * k ≤ 90000 →
    Wp ((exL Q orc).lpx 26 0 τ G) fun q => q.1 = .exit 0 ∧ q.2.1 0 = P0 xb ∧ PlP n xb (K + 2 * k) q.2.2 := by
  intro k
  induction k with
  | zero =>
    intro i τ G own B x K D T H hi t0 t1 t5 hB h ha hI hK
    have hi' : i = L.length := by omega
    obtain ⟨a, c, e0⟩ := ha.is.len
    refine Wp.lp (l26_0 (exL_ok Q orc)) ?_
    subst hi'
    simp [b26_0, bb26_0, clip_t, t0, t1, t5, e0]
    exact .mk own B x K D T H hB h hI (Nat.le_refl _) ha.ts
  | succ k ih =>
    intro i τ G own B x K D T H hi t0 t1 t5 hB h ha hI hK
    have hlt : i < L.length := by omega
    have hw : IntKind.wrap .i64 ((i : Int) + 1) = ((i + 1 : Nat) : Int) := wrap64 (by omega) (by omega)
    have h1 : (i : Int) < L.length := by omega
    have h2 : (0 : Int) ≤ i := by omega
    obtain ⟨b, o, cc, e0, _, q, _⟩ := ha.is.at hlt
    have q0 := q 0 (by decide)
    simp at q0
    have ep := pick_ok orc L[i] 3 (by decide) (by decide) G
    obtain ⟨c, hc⟩ : ∃ c : Nat, L[i] % 3 = (c : Int) := ⟨(L[i] % 3).toNat, by omega⟩
    have hc3 : c < 3 := by omega
    rw [hc] at ep
    have eb := busy_ok orc h hc3
    subst hB
    -- the step, and on
    have fin : ∀ (τ' : Env) (G' : GS) (own' : Nat → Nat) (B' : CrB) (x' : CS) (K' D' T' H' : Nat), B'.xb = B.xb → CrG own' G' n x' B' → ArgS own' G' v1 L → InvL n K' x' D' T' H' → 0 ≤ x'.o c → K' ≤ K + 1 → τ' 0 = P0 B.xb → τ' 1 = v1 → τ' 5 = .int .i64 (i : Int) → τ' 6 = .int .i64 (c : Int) →
        Wp (jbl26_0_0 true (exL Q orc) ((exL Q orc).lpx 26 0) τ' G') fun q => q.1 = .exit 0 ∧ q.2.1 0 = P0 B.xb ∧ PlP n B.xb (K + 2 * (k + 1)) q.2.2 := by
      intro τ' G' own' B' x' K' D' T' H' hB' h' ha' hI' hb' hK' s0 s1 s5 s6
      obtain ⟨⟨r, G2⟩, e2, rfl, own2, B2, g1, g2, g3, g4⟩ := steps_in orc h' hc3 (hI'.i.fit hb' (by omega)) (fun e hn => hI'.i.dd (by subst e; exact hb') hn)
      obtain ⟨D2, T2, H2, i1, i2, _, _⟩ := steps_ok hI'.i hc3 hb' (by omega)
      have i1 : InvL n (K' + 1) (x'.steps n c).1 D2 T2 H2 := ⟨i1, hI'.lz.elim fun W hW => lz_steps hI'.i hW hc3 hb' i2⟩
      simp only at g3 g4
      rw [i2] at e2
      rw [hB'] at e2
      simp [-Int.natCast_add, jbl26_0_0, s0, s1, s5, s6, e2, hw]
      refine Wp.mono (ih (i + 1) _ G2 own2 B2 _ (K' + 1) D2 T2 H2 (by omega) ?_ ?_ ?_ (g1.trans hB') g4 (ha'.to g3 g2) i1 (by omega)) ?_
      · simp [clip_t]
      · simp [clip_t, s1]
      · simp [clip_t]
      · rintro q ⟨z1, z2, own3, B3, x3, K3, D3, T3, H3, z3, z4, z5, z6, z7⟩
        exact ⟨z1, z2, .mk own3 B3 x3 K3 D3 T3 H3 z3 z4 z5 (by omega) z7⟩
    clear ih
    refine Wp.lp (l26_0 (exL_ok Q orc)) ?_
    by_cases hb : 0 ≤ x.o c
    · simp [-Int.natCast_add, b26_0, bb26_0, jl26_0_0, clip_t, t0, t1, t5, e0, h1, h2, hlt, q0, ep, eb, hb]
      subst e0
      refine fin _ G own B x K D T H rfl h ha hI hb (by omega) ?_ ?_ ?_ ?_ <;> simp [clip_t]
    · have hb' : x.o c = -1 := by have := hI.i.o c; omega
      obtain ⟨⟨r, G2⟩, e2, rfl, own2, B2, g1, g2, g3, g4⟩ := begins_in orc h hI.i (by omega) hc3 hb'
      simp only at g3 g4
      obtain ⟨b1, b2, _, _⟩ := begins_ok hI.i hc3 hb'
      have b1 : InvL n (K + 1) (x.begins n c) D T H := ⟨b1, hI.lz.elim fun W hW => ⟨W, lz_begins hI.i hW hc3 hb'⟩⟩
      simp [-Int.natCast_add, b26_0, bb26_0, jl26_0_0, clip_t, t0, t1, t5, e0, h1, h2, hlt, q0, ep, eb, hb, e2]
      subst e0
      refine fin _ G2 own2 B2 _ (K + 1) D T H g1 g4 (ha.to g3 g2) b1 b2 (by omega) ?_ ?_ ?_ ?_ <;> simp [clip_t]
theorem muP_pos {P : Nat} {v e : Int} {p : PuS} (h : InvP n D T P v e p) : 1 ≤ muP T P p := by
  cases h <;> unfold muP mu5 <;> simp <;> (try split) <;> omega
/-- how many steps a core has left, alone -/
def needC (x : CS) (D T c : Nat) : Nat := if c < 2 then muP T (D + x.q.length) (x.p c) else muT x
def limC (c : Nat) : Nat := if c < 2 then 9 else 2
theorem alone_lp (orc : FuncId → Bool) {xb : Nat} (hc : c < 3) : ∀ (m j : Nat) (τ : Env) (G : GS) (own : Nat → Nat) (B : CrB) (x : CS) (K D T H : Nat),
    j + m ≤ limC c → τ 0 = P0 xb → τ 7 = .int .i64 (c : Int) → τ 8 = .int .i64 (j : Int) → B.xb = xb → CrG own G n x B → InvL n K x D T H → TabS own G → K + m ≤ 95000 → (0 ≤ x.o c → needC x D T c ≤ m) →
    Wp ((exL Q orc).lpx 26 2 τ G) fun q => q.1 = .exit 4 ∧ q.2.1 0 = P0 xb ∧ q.2.1 7 = .int .i64 (c : Int) ∧ AlP n xb (K + m) c x.o q.2.2 := by
  intro m
  induction m with
  | zero =>
    intro j τ G own B x K D T H hj t0 t7 t8 hB h hI hts hK hn
    have hb : ¬ 0 ≤ x.o c := by
      intro hb
      have h0 := hn hb
      unfold needC at h0
      split at h0
      · rename_i c2
        rcases hI.i.p c c2 with k | ⟨_, k⟩
        · omega
        · have := muP_pos k; omega
      · have := muT_pos x; omega
    have eb := busy_ok orc h hc
    subst hB
    have ho := hI.i.o c
    refine Wp.lp (l26_2 (exL_ok Q orc)) ?_
    by_cases h9 : j < 9
    · have h9' : (j : Int) < 9 := by omega
      simp [b26_2, clip_t, t0, t7, t8, h9, h9', eb, hb]
      exact .mk own B x K D T H rfl h hI (Nat.le_refl _) hts (by omega) fun _ _ => rfl
    · have h9' : ¬ (j : Int) < 9 := by omega
      simp [b26_2, clip_t, t0, t7, t8, h9, h9']
      exact .mk own B x K D T H rfl h hI (Nat.le_refl _) hts (by omega) fun _ _ => rfl
  | succ m ih =>
    intro j τ G own B x K D T H hj t0 t7 t8 hB h hI hts hK hn
    have eb := busy_ok orc h hc
    subst hB
    have ho := hI.i.o c
    have hl : limC c ≤ 9 := by unfold limC; split <;> omega
    have h9 : j < 9 := by omega
    have h9' : (j : Int) < 9 := by omega
    have hw : IntKind.wrap .i64 ((j : Int) + 1) = ((j + 1 : Nat) : Int) := wrap64 (by omega) (by omega)
    refine Wp.lp (l26_2 (exL_ok Q orc)) ?_
    by_cases hb : 0 ≤ x.o c
    · have h0 := hn hb
      obtain ⟨⟨r, G2⟩, e2, rfl, own2, B2, g1, g2, g3, g4⟩ := steps_in orc h hc (hI.i.fit hb (by omega)) (fun e hn => hI.i.dd (by subst e; exact hb) hn)
      simp only at g3 g4
      have key : ∃ D2 T2 H2, Inv n (K + 1) (x.steps n c).1 D2 T2 H2 ∧ (x.steps n c).2 = true ∧ (0 ≤ (x.steps n c).1.o c → needC (x.steps n c).1 D2 T2 c ≤ m) ∧ ∀ i, i ≠ c → (x.steps n c).1.o i = x.o i := by
        unfold needC at h0 ⊢
        unfold CS.steps
        by_cases c2 : c < 2
        · rw [if_pos c2] at h0 ⊢
          obtain ⟨T', k1, k2⟩ := pushes_ok hI.i c2 hb (by omega)
          refine ⟨D, T', H, k1.inv, k2, fun hb' => ?_, fun i hi => (k1.other i hi).1⟩
          rw [if_pos c2]
          rcases k1.mu with mu | ⟨_, mu⟩
          · omega
          · omega
        · obtain rfl : c = 2 := by omega
          rw [if_neg c2] at h0 ⊢
          obtain ⟨D', H', k1, k2⟩ := takes_ok hI.i hb (by omega)
          refine ⟨D', T, H', k1.inv, k2, fun hb' => ?_, k1.other⟩
          rw [if_neg c2]
          rcases k1.mu with mu | ⟨_, mu⟩
          · omega
          · omega
      obtain ⟨D2, T2, H2, i1, i2, i3, i4⟩ := key
      have i1 : InvL n (K + 1) (x.steps n c).1 D2 T2 H2 := ⟨i1, hI.lz.elim fun W hW => lz_steps hI.i hW hc hb i2⟩
      rw [i2] at e2
      have hgo : ∀ τ' : Env, τ' 0 = P0 B.xb → τ' 7 = .int .i64 (c : Int) → τ' 8 = .int .i64 ((j + 1 : Nat) : Int) → Wp ((exL Q orc).lpx 26 2 τ' G2) fun q => q.1 = .exit 4 ∧ q.2.1 0 = P0 B.xb ∧ q.2.1 7 = .int .i64 (c : Int) ∧ AlP n B.xb (K + (m + 1)) c x.o q.2.2 := by
        intro τ' s0 s7 s8
        refine Wp.mono (ih (j + 1) τ' G2 own2 B2 _ (K + 1) D2 T2 H2 (by omega) s0 s7 s8 g1 g4 i1 (hts.to g3 g2) (by omega) i3) ?_
        rintro q ⟨z1, z2, z3, own3, B3, x3, K3, D3, T3, H3, y1, y2, y3, y4, y7, y5, y6⟩
        exact ⟨z1, z2, z3, .mk own3 B3 x3 K3 D3 T3 H3 y1 y2 y3 (by omega) y7 y5 fun i hi => (y6 i hi).trans (i4 i hi)⟩
      by_cases c2 : c = 2
      · subst c2
        have hj2 : ¬ (j : Int) = 2 := by unfold limC at hj; simp at hj; omega
        have hj2' : ¬ j = 2 := by omega
        simp at t7 eb e2
        simp [-Int.natCast_add, b26_2, clip_t, t0, t7, t8, h9, h9', eb, hb, hj2, hj2', e2, hw]
        refine hgo _ ?_ ?_ ?_ <;> simp [-Int.natCast_add, clip_t]
      · have c2' : ¬ (c : Int) = 2 := by omega
        simp [-Int.natCast_add, b26_2, clip_t, t0, t7, t8, h9, h9', eb, hb, c2, c2', e2, hw]
        refine hgo _ ?_ ?_ ?_ <;> simp [-Int.natCast_add, clip_t]
    · simp [b26_2, clip_t, t0, t7, t8, h9, h9', eb, hb]
      exact .mk own B x K D T H rfl h hI (by omega) hts (by omega) fun _ _ => rfl
end
end Go.Proofs.YtlaojmcekeohnaaGreatDoor.Lift

set_option linter.unusedVariables false
set_option linter.unusedSimpArgs false
set_option maxRecDepth 20000
namespace Go.Proofs.YtlaojmcekeohnaaGreatDoor.Lift
open Go Go.Proofs.YtlaojmcekeohnaaGreatDoor.Gh Go.Proofs
section
variable {own own' own1 : Nat → Nat} {G G' G1 : GS} {b t n c : Nat} {ts : List Nat} {cs : List Value} {x y y0 : CS} {B B1 : CrB} {v : Value} {K D T H : Nat} {q : List Int}
inductive EndP (n xb : Nat) (G : GS) : Prop where
  | mk (own' : Nat → Nat) (B' : CrB) (x' : CS) (K' D' T' H' : Nat) : B'.xb = xb → CrG own' G n x' B' → InvL n K' x' D' T' H' → K' ≤ 95000 → TabS own' G → (∀ i, i < 3 → x'.o i = -1) → EndP n xb G
theorem need_le (h : Inv n K x D T H) (c : Nat) : needC x D T c ≤ limC c := by
  unfold needC limC
  split
  · exact muP_le (by have := h.m.t2; omega) _
  · exact muT_le x
theorem cores_lp (orc : FuncId → Bool) {xb : Nat} : ∀ (m : Nat) (τ : Env) (G : GS) (own : Nat → Nat) (B : CrB) (x : CS) (K D T H : Nat), m ≤ 3 → τ 0 = P0 xb → τ 7 = .int .i64 ((m : Int) - 1) → B.xb = xb → CrG own G n x B → InvL n K x D T H → TabS own G → K + 9 * m ≤ 95000 → (∀ i, m ≤ i → i < 3 → x.o i = -1) →
    Wp ((exL Q orc).lpx 26 1 τ G) fun q => q.1 = .exit 2 ∧ EndP n xb q.2.2 := by
  intro m
  induction m with
  | zero =>
    intro τ G own B x K D T H hm t0 t7 hB h hI hts hK hi
    refine Wp.lp (l26_1 (exL_ok Q orc)) ?_
    simp at t7
    simp [b26_1, clip_t, t0, t7]
    exact .mk own B x K D T H hB h hI (by omega) hts fun i h => hi i (by omega) h
  | succ m ih =>
    intro τ G own B x K D T H hm t0 t7 hB h hI hts hK hi
    have e : ((m + 1 : Nat) : Int) - 1 = (m : Int) := by omega
    rw [e] at t7
    have hm0 : (0 : Int) ≤ m := by omega
    have hw : IntKind.wrap .i64 ((m : Int) - 1) = (m : Int) - 1 := wrap64 (by omega) (by omega)
    have hl : limC m ≤ 9 := by unfold limC; split <;> omega
    refine Wp.lp (l26_1 (exL_ok Q orc)) ?_
    simp [b26_1, clip_t, t0, t7, hm0]
    refine Wp.bE (Wp.mono (alone_lp orc (c := m) (by omega) (limC m) 0 _ G own B x K D T H (by omega) ?_ ?_ ?_ hB h hI hts (by omega) (fun _ => need_le hI.i m)) ?_)
    · simp [clip_t, t0]
    · simp [clip_t, t7]
    · simp [clip_t]
    rintro ⟨e1, τ', G'⟩ ⟨rfl, s0, s7, ⟨own', B', x', K', D', T', H', z1, z2, z3, z4, z7, z5, z6⟩⟩
    simp only at s0 s7 z2 z7
    have eb := busy_ok orc z2 (show m < 3 by omega)
    rw [z1] at eb
    have hnb : ¬ 0 ≤ x'.o m := by omega
    simp [s0, s7, eb, hnb, hw]
    refine Wp.mono (ih _ G' own' B' x' K' D' T' H' (by omega) ?_ ?_ z1 z2 z3 z7 (by omega) fun i h1 h2 => ?_) fun q hq => hq
    · simp [clip_t, s0]
    · simp [clip_t]
    · by_cases e : i = m
      · rw [e]; exact z5
      · rw [z6 i e]; exact hi i (by omega) h2
theorem plays_in (orc : FuncId → Bool) {v1 : Value} {L : List Int} (hlen : L.length ≤ 1000) (h : CrG own G n x B) (ha : ArgS own G v1 L) (hI : InvL n 0 x D T H) :
    Wp ((E orc).cl 26 [P0 B.xb, v1] G) fun q => q.1 = .bool true ∧ EndP n B.xb q.2 := by
  refine Wp.ref (f26 (exL_ok Q orc) _ _ G) ?_
  simp [s26]
  refine Wp.bE (Wp.mono (plays_lp orc hlen L.length 0 _ G own B x 0 D T H (by omega) ?_ ?_ ?_ rfl h ha hI (by omega)) ?_)
  · simp
  · simp
  · simp
  rintro ⟨e1, τ', G'⟩ ⟨rfl, s0, ⟨own', B', x', K', D', T', H', z1, z2, z3, z4, z5⟩⟩
  simp only at s0 z2 z5
  simp
  refine Wp.bE (Wp.mono (cores_lp orc (xb := B.xb) 3 _ G' own' B' x' K' D' T' H' (by omega) ?_ ?_ z1 z2 z3 z5 (by omega) (fun i h1 h2 => by omega)) ?_)
  · simp [s0]
  · simp
  rintro ⟨e2, τ2, G2⟩ ⟨rfl, hE⟩
  simp
  exact hE
/-! ### A crew that is made -/
def s0 (n : Nat) : MS := fillI (rgN n) (MS.zero (2 + n))
def cs0 (n : Nat) : CS := ⟨s0 n, fun _ => .done 0, fun _ => 0, fun _ => 0, .done 0 0 0, .done 0, false, false, [], [], fun _ => -1, 0, 0⟩
theorem s0_W (h1 : 1 ≤ n) (h6 : n ≤ 6) : (s0 n).W = List.replicate (2 + n) 0 := by
  rcases (show n = 1 ∨ n = 2 ∨ n = 3 ∨ n = 4 ∨ n = 5 ∨ n = 6 by omega) with rfl | rfl | rfl | rfl | rfl | rfl <;> decide
theorem inv0 (h1 : 1 ≤ n) (h6 : n ≤ 6) : Inv n 0 (cs0 n) 0 0 0 := by
  have hW := s0_W h1 h6
  have hget : ∀ i, i < 2 + n → (s0 n).W[i]? = some 0 := fun i hi => by rw [hW, List.getElem?_replicate, if_pos hi]
  refine ⟨⟨h1, h6, by show (s0 n).W.length = _; rw [hW]; simp, hget 0 (by omega), hget 1 (by omega), Nat.le_refl _, by simp [cs0], by simp [cs0], by simp [cs0], by simp [cs0], fun t _ ht => ?_⟩, fun c _ => ⟨by simp [cs0], by simp [cs0]⟩, fun c _ => .inl rfl, .idle rfl rfl rfl, fun c => ⟨by simp [cs0], by simp [cs0]⟩, by simp [cs0], fun h => by simp [cs0] at h⟩
  have ht' : t < n := by omega
  rw [Nat.mod_eq_of_lt ht']
  show (s0 n).W[2 + t]? = _
  rw [hget _ (by omega)]
  unfold wordN
  rw [if_neg (by simp [cs0]), Nat.div_eq_of_lt ht']
  rfl
end
end Go.Proofs.YtlaojmcekeohnaaGreatDoor.Lift

set_option linter.unusedVariables false
set_option linter.unusedSimpArgs false
set_option maxRecDepth 20000
namespace Go.Proofs.YtlaojmcekeohnaaGreatDoor.Lift
open Go Go.Proofs.YtlaojmcekeohnaaGreatDoor.Gh Go.Proofs
section
variable {own own' own1 : Nat → Nat} {G G' G1 : GS} {b t n c : Nat}
set_option maxHeartbeats 2000000 in
theorem begun_in (orc : FuncId → Bool) (h1 : 1 ≤ n) (h6 : n ≤ 6) (G : GS) : ∃ own' B G', (E orc).cl 25 [.int .i64 n] G = some (P0 B.xb, G') ∧ Ext G G' ∧ CrG own' G' n (cs0 n) B ∧ ∀ g, g < G.nx → own' g = 20 := by
  have w : Wp ((E orc).cl 25 [.int .i64 n] G) fun q => ∃ B own', q.1 = P0 B.xb ∧ Ext G q.2 ∧ CrG own' q.2 n (cs0 n) B ∧ ∀ g, g < G.nx → own' g = 20 := by
    refine Wp.ref (f25 (exL_ok Q orc) _ G) ?_
    obtain ⟨G3, hG3⟩ : ∃ G3, G3 = (G.push ⟨z57, 1, false, 1⟩).put G.nx ⟨(rgN n).cells, 1, false, 1⟩ := ⟨_, rfl⟩
    have x3 : Ext G G3 := by rw [hG3]; exact ((Ext.refl G).push _).put (Nat.le_refl _) _
    have n3 : G3.nx = G.nx + 1 := by rw [hG3]; rfl
    have o3 : G3.obj G.nx = some ⟨(rgN n).cells, 1, false, 1⟩ := by rw [hG3]; simp
    have hw : IntKind.wrap .i64 (2 + (n : Int)) = ((2 + n : Nat) : Int) := by rw [show 2 + (n : Int) = ((2 + n : Nat) : Int) by omega]; exact wrap64 (by omega) (by omega)
    obtain ⟨m, G6, e6, x6, hm6⟩ := (new_ok orc ((2 + n : Nat) : Int) G3).2 (by omega) (by omega)
    rw [Int.toNat_natCast] at hm6
    have n6 := x6.nx
    have o6 := (x6.obj G.nx (by omega)).trans o3
    obtain ⟨⟨r, G17⟩, e17, rfl, m17, hm17⟩ := fill_ok orc hm6 (rgN n)
    simp only at m17 hm17
    have n17 := m17.nx
    have o17 := (m17.obj G.nx (by omega) (fun k => by omega)).trans o6
    obtain ⟨R, hR⟩ : ∃ R, R = G17.room 9 := ⟨_, rfl⟩
    have nR : R.nx = G17.nx + 9 := by rw [hR]; rfl
    obtain ⟨G20, hG20⟩ : ∃ G20, G20 = ((R.at' (G17.nx + 2)).push ⟨[.pointer none, .pointer none], 1, false, 1⟩).back R := ⟨_, rfl⟩
    obtain ⟨G22, hG22⟩ : ∃ G22, G22 = ((G20.at' (G17.nx + 3)).push ⟨[.int .i64 0, .int .i64 0], 1, false, 1⟩).back G20 := ⟨_, rfl⟩
    obtain ⟨G24, hG24⟩ : ∃ G24, G24 = ((G22.at' (G17.nx + 4)).push ⟨[.int .i64 0, .int .i64 0], 1, false, 1⟩).back G22 := ⟨_, rfl⟩
    obtain ⟨G26, hG26⟩ : ∃ G26, G26 = ((G24.at' (G17.nx + 5)).push ⟨[.int .i64 (-1), .int .i64 (-1), .int .i64 (-1)], 1, false, 1⟩).back G24 := ⟨_, rfl⟩
    obtain ⟨B, hB⟩ : ∃ B : CrB, B = ⟨m, G17.nx + 7, G17.nx + 2, G17.nx + 3, G17.nx + 4, G17.nx + 5, .pointer none, .pointer none, .slice none 0 0, .slice none 0 0, fun _ => .pointer none⟩ := ⟨_, rfl⟩
    obtain ⟨G29, hG29⟩ : ∃ G29, G29 = ((G26.at' (G17.nx + 7)).push ⟨crX n (cs0 n) B, 1, false, 1⟩).back G26 := ⟨_, rfl⟩
    have n20 : G20.nx = R.nx := by rw [hG20]; rfl
    have n22 : G22.nx = R.nx := by rw [hG22, ← n20]; rfl
    have n24 : G24.nx = R.nx := by rw [hG24, ← n22]; rfl
    have n26 : G26.nx = R.nx := by rw [hG26, ← n24]; rfl
    have n29 : G29.nx = R.nx := by rw [hG29, ← n26]; rfl
    have x29 : Ext G17 G29 := by
      rw [hG29, hG26, hG24, hG22, hG20, hR]
      exact ext_drawn (ext_drawn (ext_drawn (ext_drawn (ext_drawn ((Ext.refl _).room 9) (by omega) _) (by omega) _) (by omega) _) (by omega) _) (by omega) _
    have xb : G29.obj (G17.nx + 7) = some ⟨crX n (cs0 n) B, 1, false, 1⟩ := by rw [hG29]; simp
    have ob : G29.obj (G17.nx + 5) = some ⟨[.int .i64 (-1), .int .i64 (-1), .int .i64 (-1)], 1, false, 1⟩ := by rw [hG29, hG26]; simp
    have hb : G29.obj (G17.nx + 4) = some ⟨[.int .i64 0, .int .i64 0], 1, false, 1⟩ := by rw [hG29, hG26, hG24]; simp
    have vb : G29.obj (G17.nx + 3) = some ⟨[.int .i64 0, .int .i64 0], 1, false, 1⟩ := by rw [hG29, hG26, hG24, hG22]; simp
    have pb : G29.obj (G17.nx + 2) = some ⟨[.pointer none, .pointer none], 1, false, 1⟩ := by rw [hG29, hG26, hG24, hG22, hG20]; simp
    obtain ⟨own1, hown⟩ : ∃ own1 : Nat → Nat, own1 = fun g => if g < G.nx then 20 else if g < G3.nx then 13 else if g < G17.nx then 10 else if g = G17.nx + 7 then 1 else if g = G17.nx + 2 then 2 else if g = G17.nx + 3 then 14 else if g = G17.nx + 4 then 15 else if g = G17.nx + 5 then 16 else 13 := ⟨_, rfl⟩
    have tg : ∀ i, i < 9 → own1 (G17.nx + i) = if i = 7 then 1 else if i = 2 then 2 else if i = 3 then 14 else if i = 4 then 15 else if i = 5 then 16 else 13 := fun i hi => by
      rw [hown]; simp only
      rw [if_neg (by omega), if_neg (by omega), if_neg (by omega)]
      simp
    have hm29 : PMx (Tag own1 G29 10) G29 m (cs0 n).s := by
      refine PMx.mono (PMx.ext hm17 x29) (fun g hg => ?_) Tag.under
      have hg' : (G3.nx ≤ g ∧ g < G17.nx) := by
        rcases hg with hg | hg
        · exact ⟨hg.1, by have := hg.2; omega⟩
        · exact ⟨by have := hg.1; omega, hg.2⟩
      refine ⟨by omega, ?_⟩
      rw [hown]; simp only
      rw [if_neg (by omega), if_neg (by omega), if_pos hg'.2]
    have so : (cs0 n).s.ok := fillI_ok _ ⟨fun w hw => by
      have : w = 0 := by simpa [MS.zero] using List.eq_of_mem_replicate hw
      rw [this]; exact U_zero, by simp [MS.zero]; omega⟩
    have mG : Ext G G17 := ModP.tail (x3.trans x6) m17 fun g hg => by have := hg.1; omega
    have hCr : CrG own1 G29 n (cs0 n) B := by
      have tx := tg 7 (by omega)
      have tp := tg 2 (by omega)
      have tv := tg 3 (by omega)
      have th := tg 4 (by omega)
      have to := tg 5 (by omega)
      simp at tx tp tv th to
      have nb : ∀ g, ¬ InB (.slice none 0 0) g := fun g ⟨a, n', c', h, _⟩ => by cases h
      rw [hB] at xb ⊢
      refine ⟨⟨by show G17.nx + 7 < _; omega, tx, xb⟩, ⟨by show G17.nx + 2 < _; omega, tp, pb⟩, ⟨by show G17.nx + 3 < _; omega, tv, vb⟩, ⟨by show G17.nx + 4 < _; omega, th, hb⟩, ⟨by show G17.nx + 5 < _; omega, to, ob⟩, hm29, so, OwR.nil _ _, fun g hg => absurd hg (nb g), OwR.nil _ _, fun g hg => absurd hg (nb g), fun c _ ho => by simp [cs0] at ho, fun hf => by simp [cs0] at hf, fun hd => by simp [cs0] at hd, fun _ => rfl, rfl, rfl⟩
    refine Wp.mono (Q := fun q => q = (P0 B.xb, G29)) ?_ (fun q hq => by
      subst hq
      exact ⟨B, own1, rfl, mG.trans x29, hCr, fun g hg => by rw [hown]; simp only; rw [if_pos hg]⟩)
    have hz : z64 = [.int .i64 0, .int .i64 0, .int .i64 0, .int .i64 0, .pointer none, .slice none 0 0, .slice none 0 0, .pointer none, .pointer none, .bool false, .slice none 0 0, .slice none 0 0, .int .i64 0, .int .i64 0, .slice none 0 0, .slice none 0 0, .int .i64 0, .int .i64 0] := rfl
    have hz28 : z57 = [.int .i64 0, .int .i64 0, .int .i64 0, .int .i64 0] := rfl
    have hz25 : z133 = [.pointer none] := rfl
    have hz3 : z3 = [.int .i64 0] := rfl
    have hz30 : z25 = [.int .i64 0] := rfl
    have e17' : (E orc).cl 71 [.agg ⟨[.int .i64 0, .int .i64 1, .int .i64 2, .int .i64 n]⟩, P0 m] G6 = some (.tuple #[], G17) := e17
    have hBx : B.xb = G17.nx + 7 := by rw [hB]
    have hcr : crX n (cs0 n) B = [.int .i64 0, .int .i64 1, .int .i64 2, .int .i64 n, P0 m, .slice (some ⟨G17.nx + 2, 0, none⟩) 2 2, .slice (some ⟨G17.nx + 3, 0, none⟩) 2 2, .pointer none, .pointer none, .bool false, .slice none 0 0, .slice (some ⟨G17.nx + 4, 0, none⟩) 2 2, .int .i64 0, .int .i64 0, .slice none 0 0, .slice (some ⟨G17.nx + 5, 0, none⟩) 3 3, .int .i64 0, .int .i64 0] := by rw [hB]; rfl
    rw [hcr] at hG29
    have hr : (rgN n).cells = [.int .i64 0, .int .i64 1, .int .i64 2, .int .i64 n] := rfl
    rw [hr] at o3 o6 o17 hG3
    rw [hz28] at hG3
    clear hCr
    have hc2 : ((2 + n : Nat) : Int) = 2 + (n : Int) := by omega
    rw [hc2] at hw e6
    have mk2 : ∀ (z : List Value) (G : GS), mkK 1 8 z 2 2 G = some (.slice (some ⟨G.nx, 0, none⟩) 2 2, G.push ⟨z ++ z, 1, false, 1⟩) := by
      intro z G
      unfold mkK
      rw [if_pos (by decide)]
      simp
    have hr3 : rep [Value.int .i64 0] 3 = [.int .i64 0, .int .i64 0, .int .i64 0] := rfl
    simp [-Int.natCast_add, s25, hz, hz28, hz25, hz3, hz30, ← hG3, hw, e6, o6, e17', o17, mk2, hr3, ← hR, ← hG20]
    simp [← hG22]
    simp [← hG24]
    simp [← hG26]
    have oR : R.obj G.nx = some ⟨[.int .i64 0, .int .i64 1, .int .i64 2, .int .i64 n], 1, false, 1⟩ := by rw [hR]; simpa using o17
    simp [hBx, hG29, oR]
  obtain ⟨⟨v, G'⟩, e, B, own', rfl, h1, h2, h3⟩ := w
  exact ⟨own', B, G', e, h1, h2, h3⟩
end
end Go.Proofs.YtlaojmcekeohnaaGreatDoor.Lift

set_option linter.unusedVariables false
set_option linter.unusedSimpArgs false
set_option maxRecDepth 20000
namespace Go.Proofs.YtlaojmcekeohnaaGreatDoor.Lift
open Go Go.Proofs.YtlaojmcekeohnaaGreatDoor.Gh Go.Proofs
section
variable {G : GS}
/-- **the law**: what is answered is what a queue of that room answers, in some order -/
theorem ringQueue (orc : FuncId → Bool) (hkn : orc 24 = true) (ht : tabs G = true) (h2 : 2 ≤ G.nx) {v1 : Value} {L : List Int} (hL : SlR (rowsI .i64) G v1 L) (z : Int) :
    Wp ((E orc).cl 6 [.int .i64 z, v1] G) fun q => q.1 = .bool true := by
  refine Wp.ref (f6 (exL_ok Q orc) _ _ G) ?_
  obtain ⟨va, vc, ev⟩ := hL.len
  have l1 : ln Q true 35 v1 = some (.int .i64 L.length) := by rw [ev]; simp
  have ek := cl_orcT Q orc hkn G (hasTab_at Q ht)
  by_cases c1 : 60 < L.length
  · have c1' : (60 : Int) < L.length := by omega
    simp [s6, l1, ek, c1, c1']
  have c1' : ¬ (60 : Int) < L.length := by omega
  have ep := pick_ok orc z 4 (by decide) (by decide) G
  obtain ⟨n, hn⟩ : ∃ n : Nat, 1 + z % 4 = (n : Int) := ⟨(1 + z % 4).toNat, by omega⟩
  have h1 : 1 ≤ n := by omega
  have h4 : n ≤ 4 := by omega
  have h6 : n ≤ 6 := by omega
  have hw : IntKind.wrap .i64 (1 + z % 4) = (n : Int) := by rw [hn]; exact wrap64 (by omega) (by omega)
  obtain ⟨own1, B, G8, e8, x8, h8, t8⟩ := begun_in orc h1 h6 G
  have ts : TabS own1 G8 := ⟨tabs_ext x8 ht h2, t8 0 (by omega), t8 1 (by omega), Nat.le_trans h2 x8.nx⟩
  have ha : ArgS own1 G8 v1 L := ⟨hL.ext x8, fun g hg => t8 g (hL.under g hg), ts⟩
  have i0 : InvL n 0 (cs0 n) 0 0 0 := ⟨inv0 h1 h6, [], lz0 n _ rfl rfl fun _ => rfl⟩
  obtain ⟨⟨r, G14⟩, e14, rfl, ⟨own', B', x', K', D', T', H', z1, z2, z3, z4, z5, z6⟩⟩ := plays_in orc (by omega) h8 ha i0
  simp only at z2 z5
  have cx := z2.cx.obj
  rw [z1] at cx
  obtain ⟨qa, qc, eq⟩ := z2.hc.is.len
  have hcl : ln Q true 38 B'.cv = some (.int .i64 x'.calls.length) := by rw [eq]; simp
  simp only [crX] at cx
  by_cases c2 : 8 < x'.calls.length
  · have c2' : (8 : Int) < x'.calls.length := by omega
    simp [s6, l1, ek, c1, c1', ep, hw, e8, e14, cx, hcl, c2, c2']
  have c2' : ¬ (8 : Int) < x'.calls.length := by omega
  obtain ⟨W, hW⟩ := z3.lz
  have r17 := (Ext.refl G14).room 17
  have cx17 := (r17.obj _ (by rw [← z1]; exact z2.cx.lt)).trans cx
  have hc17 := (z2.hc.is).ext r17
  have hm : MayOk 1 n x'.calls := ⟨⟨by decide, by decide⟩, ⟨by omega, by omega⟩, by omega, fun e => by omega, lz_ids hW⟩
  have okl : ∀ c ∈ x'.calls, okOp c.op := fun c hc => by
    obtain ⟨i, hi, rfl⟩ := List.getElem_of_mem hc
    have := hW.ok i hi
    unfold sp at this
    simpa [List.getD, List.getElem?_eq_getElem hi] using this
  obtain ⟨⟨r, G31⟩, e31, x31, h31⟩ := orderF orc (tabs_ext r17 z5.tb z5.n2) (Nat.le_trans z5.n2 r17.nx) hc17 okl n hm
  rcases h31 with ⟨rfl, hg⟩ | ⟨outv, row, s2, rfl, _⟩
  · exact absurd (lz_goes hW) hg
  · simp [s6, l1, ek, c1, c1', ep, hw, e8, e14, cx, hcl, c2, c2', cx17, e31, pExtract, getN_zero, getN_succ, clip_t]
end
end Go.Proofs.YtlaojmcekeohnaaGreatDoor.Lift

