/- contracts of the program's functions -/
import Derived.Test.YtfmkihikmlcimaaKC
set_option linter.unusedVariables false
set_option linter.unusedSimpArgs false
set_option maxRecDepth 20000
namespace Go.Proofs.Ytfmkihikmlcimaa.Lift
open Go Go.Proofs.Ytfmkihikmlcimaa.Gh Go.Proofs
/-! ### Accesses, cell by cell -/
section
variable {s : MS} {a b v x y : Int} {k : Int} {u : Int → Int × Bool}
theorem MS.at_in (s : MS) (h : 0 ≤ a ∧ a < s.W.length) : s.at' a = (s.W[a.toNat]?).getD 0 := by unfold MS.at'; rw [if_pos h]
theorem acc_len' (s : MS) (k a : Int) (u : Int → Int × Bool) : (s.acc k a u).W.length = s.W.length := by unfold MS.acc; split <;> simp
theorem acc_new (h : 0 ≤ a ∧ a < s.W.length) : (s.acc k a u).new = (u (s.at' a)).1 ∧ (s.acc k a u).held = (u (s.at' a)).2 := by
  unfold MS.acc
  rw [if_pos h, s.at_in h]
  exact ⟨rfl, rfl⟩
theorem acc_at (h : 0 ≤ a ∧ a < s.W.length) (b : Int) : (s.acc k a u).at' b = if b = a then (u (s.at' a)).1 else s.at' b := by
  have hl := acc_len' s k a u
  by_cases hb : 0 ≤ b ∧ b < s.W.length
  · rw [MS.at_in _ (by rw [hl]; exact hb), s.at_in h, s.at_in hb]
    unfold MS.acc
    rw [if_pos h]
    simp only [List.getElem?_set]
    by_cases e : b = a
    · subst e
      rw [if_pos rfl, if_pos rfl, if_pos (by omega)]
      rfl
    · rw [if_neg (by omega), if_neg e]
  · have e : ¬ b = a := by rintro rfl; exact hb h
    rw [if_neg e]
    unfold MS.at'
    rw [if_neg (by rw [hl]; exact hb), if_neg hb]
theorem load_new (h : 0 ≤ a ∧ a < s.W.length) : (s.load a).new = s.at' a := (acc_new (k := 1) (u := uLoad) h).1
theorem load_at (h : 0 ≤ a ∧ a < s.W.length) (b : Int) : (s.load a).at' b = s.at' b := by
  have := acc_at (k := 1) (u := uLoad) h b
  rw [show (s.load a).at' b = _ from this]
  split
  · rename_i e; rw [e]; rfl
  · rfl
theorem load_len (s : MS) (a : Int) : (s.load a).W.length = s.W.length := acc_len' _ _ _ _
theorem store_at (h : 0 ≤ a ∧ a < s.W.length) (v b : Int) : (s.store a v).at' b = if b = a then v else s.at' b := acc_at (k := 2) (u := uStore v) h b
theorem store_len (s : MS) (a v : Int) : (s.store a v).W.length = s.W.length := acc_len' _ _ _ _
theorem cas_held (h : 0 ≤ a ∧ a < s.W.length) (x y : Int) : (s.cas a x y).held = decide (s.at' a = x) := by
  have := (acc_new (k := 3) (u := uCas x y) h).2
  rw [show (s.cas a x y).held = _ from this]
  unfold uCas
  split
  · rename_i e; simp [e]
  · rename_i e; simp [e]
theorem cas_at (h : 0 ≤ a ∧ a < s.W.length) (x y b : Int) : (s.cas a x y).at' b = if b = a ∧ s.at' a = x then y else s.at' b := by
  have := acc_at (k := 3) (u := uCas x y) h b
  rw [show (s.cas a x y).at' b = _ from this]
  unfold uCas
  by_cases e : b = a
  · by_cases e2 : s.at' a = x
    · simp [e, e2]
    · simp [e, e2]
  · simp [e]
theorem cas_len (s : MS) (a x y : Int) : (s.cas a x y).W.length = s.W.length := acc_len' _ _ _ _
theorem add_at (h : 0 ≤ a ∧ a < s.W.length) (v b : Int) : (s.add a v).at' b = if b = a then IntKind.wrap .u64 (s.at' a + v) else s.at' b := acc_at (k := 4) (u := uAdd v) h b
theorem add_len (s : MS) (a v : Int) : (s.add a v).W.length = s.W.length := acc_len' _ _ _ _
end
end Go.Proofs.Ytfmkihikmlcimaa.Lift

set_option linter.unusedVariables false
set_option linter.unusedSimpArgs false
set_option maxRecDepth 20000
namespace Go.Proofs.Ytfmkihikmlcimaa.Lift
open Go Go.Proofs.Ytfmkihikmlcimaa.Gh Go.Proofs
/-! ### Cores over an arena: what is true of their memory -/
def upN {α : Type} (f : Nat → α) (c : Nat) (a : α) : Nat → α := fun j => if j = c then a else f j
theorem upN_same {α : Type} (f : Nat → α) (c : Nat) (a : α) : upN f c a c = a := by unfold upN; rw [if_pos rfl]
theorem upN_ne {α : Type} (f : Nat → α) {c j : Nat} (a : α) (h : j ≠ c) : upN f c a j = f j := by unfold upN; rw [if_neg h]
inductive CoS
  | idle
  | al (p : AlS)
  | fe (p : FeS)
def arN (n lim : Int) : Ar := ⟨0, 1, n, 1 + n, 1 + 2 * n, lim⟩
def ixW (w : Int) : Int := w % 65536 - 1
def hd : List Int → Int
  | [] => -1
  | a :: _ => a
/-- the links of what is free, one behind the other -/
def Chain (M : Int → Int) : List Int → Prop
  | [] => True
  | a :: F => M (1 + a) = hd F + 1 ∧ Chain M F
theorem Chain.to {M M' : Int → Int} : ∀ {F : List Int}, Chain M F → (∀ a ∈ F, M' (1 + a) = M (1 + a)) → Chain M' F
  | [], _, _ => trivial
  | a :: F, h, k => ⟨(k a (List.mem_cons_self ..)).trans h.1, Chain.to h.2 fun b hb => k b (List.mem_cons_of_mem _ hb)⟩
/-- the node that is a core's -/
def ow : CoS → List Int
  | .al (.gives i) => [i]
  | .al (.done g e) => if e = 0 then [ixW g] else []
  | .fe (.looks i) => [i]
  | .fe (.raises i _) => [i]
  | .fe (.push (.go _ _ i)) => [i]
  | _ => []
/-- one that is about to be counted as worn -/
def wc : CoS → Int
  | .fe .wears => 1
  | _ => 0
def CoOk (n lim : Int) (M : Int → Int) (F : List Int) (T : Int) : CoS → Prop
  | .idle => True
  | .al (.pop (.go ph w i j)) => (ph ≠ 1 → w / 65536 ≤ T ∧ w % 65536 - 1 = i) ∧ (ph = 3 → M 0 = w → F = i :: F.tail ∧ j = hd F.tail)
  | .al (.pop (.done _)) => False
  | .al (.gives _) => True
  | .al .lacks => True
  | .al (.done g e) => (e = 0 ∧ ∃ i g', g = wordT i g' ∧ 0 ≤ i ∧ i < n ∧ 1 ≤ g' ∧ g' ≤ 4) ∨ (g = 0 ∧ (e = 7 ∨ (e = 12 ∧ n ≤ M (1 + 2 * n))))
  | .fe (.looks _) => True
  | .fe (.raises i g) => 1 ≤ g ∧ g < lim
  | .fe (.push (.go ph w i)) => (ph ≠ 1 → w / 65536 ≤ T) ∧ (ph = 3 → M (1 + i) = idxI n w + 1)
  | .fe (.push (.done _)) => False
  | .fe .wears => True
  | .fe (.done _) => True
def okK (A : Ar) : CoS → Prop
  | .idle => True
  | .al p => p.ok A
  | .fe p => p.ok A
theorem CoOk.other {n lim T T' : Int} {M M' : Int → Int} {F F' : List Int} {y : CoS} (h : CoOk n lim M F T y) (hT : T ≤ T') (h0 : ∀ w, w / 65536 ≤ T → M' 0 = w → M 0 = w ∧ F' = F) (hl : ∀ i, i ∈ ow y → M' (1 + i) = M (1 + i)) (hw : M (1 + 2 * n) ≤ M' (1 + 2 * n)) : CoOk n lim M' F' T' y := by
  match y, h, hl with
  | .idle, h, _ => trivial
  | .al (.pop (.go ph w i j)), h, _ =>
    refine ⟨fun k => ⟨Int.le_trans (h.1 k).1 hT, (h.1 k).2⟩, fun k e => ?_⟩
    obtain ⟨h1, h2⟩ := h0 w (h.1 (by omega)).1 e
    rw [h2]
    exact h.2 k h1
  | .al (.pop (.done _)), h, _ => exact h.elim
  | .al (.gives _), _, _ => trivial
  | .al .lacks, _, _ => trivial
  | .al (.done g e), h, _ =>
    rcases h with h | ⟨h1, h2 | ⟨h2, h3⟩⟩
    · exact .inl h
    · exact .inr ⟨h1, .inl h2⟩
    · exact .inr ⟨h1, .inr ⟨h2, Int.le_trans h3 hw⟩⟩
  | .fe (.looks _), _, _ => trivial
  | .fe (.raises i g), h, _ => exact h
  | .fe (.push (.go ph w i)), h, hl => exact ⟨fun k => Int.le_trans (h.1 k) hT, fun k => (hl i (by simp [ow])).trans (h.2 k)⟩
  | .fe (.push (.done _)), h, _ => exact h.elim
  | .fe .wears, _, _ => trivial
  | .fe (.done _), _, _ => trivial
def cO (k : Nat → CoS) (a : Int) : Nat := (ow (k 0)).count a + (ow (k 1)).count a + (ow (k 2)).count a
def lO (k : Nat → CoS) : Int := (ow (k 0)).length + (ow (k 1)).length + (ow (k 2)).length
def wO (k : Nat → CoS) : Int := wc (k 0) + wc (k 1) + wc (k 2)
section
variable {k : Nat → CoS} {c : Nat} {y : CoS}
theorem cO_up (hc : c < 3) (a : Int) : cO (upN k c y) a + (ow (k c)).count a = cO k a + (ow y).count a := by
  unfold cO
  rcases (show c = 0 ∨ c = 1 ∨ c = 2 by omega) with rfl | rfl | rfl <;> simp [upN] <;> omega
theorem lO_up (hc : c < 3) : lO (upN k c y) + (ow (k c)).length = lO k + (ow y).length := by
  unfold lO
  rcases (show c = 0 ∨ c = 1 ∨ c = 2 by omega) with rfl | rfl | rfl <;> simp [upN] <;> omega
theorem wO_up (hc : c < 3) : wO (upN k c y) + wc (k c) = wO k + wc y := by
  unfold wO
  rcases (show c = 0 ∨ c = 1 ∨ c = 2 by omega) with rfl | rfl | rfl <;> simp [upN] <;> omega
theorem cO_le (hc : c < 3) (a : Int) : (ow (k c)).count a ≤ cO k a := by
  unfold cO
  rcases (show c = 0 ∨ c = 1 ∨ c = 2 by omega) with rfl | rfl | rfl <;> omega
theorem cO_two {c' : Nat} (hc : c < 3) (hc' : c' < 3) (h : c' ≠ c) (a : Int) : (ow (k c)).count a + (ow (k c')).count a ≤ cO k a := by
  unfold cO
  rcases (show c = 0 ∨ c = 1 ∨ c = 2 by omega) with rfl | rfl | rfl <;> rcases (show c' = 0 ∨ c' = 1 ∨ c' = 2 by omega) with rfl | rfl | rfl <;> first | omega | exact absurd rfl h
theorem wc_nn (y : CoS) : 0 ≤ wc y := by unfold wc; split <;> omega
end
/-- how many steps an operation makes, if it is alone, at most -/
def mu (n M0 : Int) : CoS → Nat
  | .al (.pop (.go ph w _ _)) => if ph = 1 then (if idxI n M0 < 0 then 2 else 4) else if ph = 2 then (if M0 = w then 3 else 6) else (if M0 = w then 2 else 5)
  | .al (.gives _) => 1
  | .al .lacks => 1
  | .fe (.looks _) => 5
  | .fe (.raises _ _) => 4
  | .fe (.push (.go ph w _)) => if ph = 1 then 3 else if ph = 2 then (if M0 = w then 2 else 5) else (if M0 = w then 1 else 4)
  | .fe .wears => 1
  | _ => 0
theorem mu_le (n M0 : Int) (y : CoS) : mu n M0 y ≤ 6 := by
  unfold mu
  split <;> (repeat' split) <;> omega
structure RI (n lim T : Int) (F H : List Int) (s : MS) (k : Nat → CoS) : Prop where
  n1 : 1 ≤ n ∧ n ≤ 8
  lm : 1 ≤ lim ∧ lim ≤ 4
  len : (s.W.length : Int) = 2 + 2 * n
  top : s.at' 0 = hd F + 1 + T * 65536
  t0 : 0 ≤ T ∧ T < 1000000
  ch : Chain s.at' F
  gn : ∀ i, 0 ≤ i → i < n → 1 ≤ s.at' (1 + n + i) ∧ s.at' (1 + n + i) ≤ lim
  nd : ∀ a, F.count a + H.count a + cO k a ≤ 1
  rg : ∀ a, 1 ≤ F.count a + H.count a + cO k a → 0 ≤ a ∧ a < n
  ln : (F.length : Int) + H.length + lO k + wO k + s.at' (1 + 2 * n) = n
  w0 : 0 ≤ s.at' (1 + 2 * n)
  co : ∀ c, c < 3 → CoOk n lim s.at' F T (k c)
  ok : ∀ c, c < 3 → okK (arN n lim) (k c)
theorem hd_rg {n : Int} {F : List Int} (h : ∀ a, 1 ≤ F.count a → 0 ≤ a ∧ a < n) (hn : 1 ≤ n) : -1 ≤ hd F ∧ hd F < n := by
  cases F with
  | nil => exact ⟨by decide, by show -1 < n; omega⟩
  | cons a F =>
    have := h a (by simp)
    exact ⟨by show -1 ≤ a; omega, this.2⟩
section
variable {n lim T : Int} {F H : List Int} {s : MS} {k : Nat → CoS} {c : Nat}
theorem RI.hd (h : RI n lim T F H s k) : -1 ≤ hd F ∧ hd F < n := hd_rg (fun a ha => h.rg a (by omega)) h.n1.1
theorem RI.hdn (h : RI n lim T F H s k) {i : Int} {F' : List Int} (e : F = i :: F') : -1 ≤ Lift.hd F' ∧ Lift.hd F' < n := hd_rg (fun a ha => h.rg a (by rw [e, List.count_cons]; omega)) h.n1.1
theorem RI.owned (h : RI n lim T F H s k) (hc : c < 3) {i : Int} (hi : i ∈ ow (k c)) : 0 ≤ i ∧ i < n ∧ i ∉ F ∧ i ∉ H ∧ ∀ c', c' < 3 → c' ≠ c → i ∉ ow (k c') := by
  have h1 : 1 ≤ (ow (k c)).count i := List.one_le_count_iff.2 hi
  have h2 := cO_le (k := k) hc i
  have h3 := h.nd i
  have h4 := h.rg i (by omega)
  refine ⟨h4.1, h4.2, fun hf => ?_, fun hf => ?_, fun c' hc' hne hf => ?_⟩
  · have := List.one_le_count_iff.2 hf; omega
  · have := List.one_le_count_iff.2 hf; omega
  · have := List.one_le_count_iff.2 hf
    have := cO_two (k := k) hc hc' hne i
    omega
/-- a step that leaves all nodes where they are -/
theorem RI.same (h : RI n lim T F H s k) (hc : c < 3) {y : CoS} {s' : MS} (hl : s'.W.length = s.W.length) (hat : ∀ b, s'.at' b = s.at' b) (ho : ow y = ow (k c)) (hw : wc y = wc (k c)) (hy : CoOk n lim s.at' F T y) (hk : okK (arN n lim) y) : RI n lim T F H s' (upN k c y) := by
  have e : s'.at' = s.at' := funext hat
  have e1 : ∀ a, cO (upN k c y) a = cO k a := fun a => by have := cO_up (k := k) (y := y) hc a; rw [ho] at this; omega
  have e2 : lO (upN k c y) = lO k := by have := lO_up (k := k) (y := y) hc; rw [ho] at this; omega
  have e3 : wO (upN k c y) = wO k := by have := wO_up (k := k) (y := y) hc; rw [hw] at this; omega
  refine ⟨h.n1, h.lm, by rw [hl]; exact h.len, by rw [e]; exact h.top, h.t0, by rw [e]; exact h.ch, by rw [e]; exact h.gn, fun a => by rw [e1]; exact h.nd a, fun a ha => h.rg a (by rw [e1] at ha; exact ha), by rw [e2, e3, e]; exact h.ln, by rw [e]; exact h.w0, fun c' hc' => ?_, fun c' hc' => ?_⟩
  · rw [e]
    by_cases q : c' = c
    · subst q; rw [upN_same]; exact hy
    · rw [upN_ne _ _ q]; exact h.co c' hc'
  · by_cases q : c' = c
    · subst q; rw [upN_same]; exact hk
    · rw [upN_ne _ _ q]; exact h.ok c' hc'
end
end Go.Proofs.Ytfmkihikmlcimaa.Lift

set_option linter.unusedVariables false
set_option linter.unusedSimpArgs false
set_option maxRecDepth 20000
namespace Go.Proofs.Ytfmkihikmlcimaa.Lift
open Go Go.Proofs.Ytfmkihikmlcimaa.Gh Go.Proofs
section
variable {n lim T : Int} {F H : List Int} {s : MS} {k : Nat → CoS} {c : Nat}
theorem pop1 (R : Sk) (w i j : Int) (s : MS) : PopS.step R (.go 1 w i j) s = (if idxI R.size (s.load R.top).new < 0 then .done (idxI R.size (s.load R.top).new) else .go 2 (s.load R.top).new (idxI R.size (s.load R.top).new) j, s.load R.top) := by simp [PopS.step]
theorem pop2 (R : Sk) (w i j : Int) (s : MS) : PopS.step R (.go 2 w i j) s = (.go 3 w i (idxI R.size (s.load (R.links + i)).new), s.load (R.links + i)) := by simp [PopS.step]
theorem pop3 (R : Sk) (w i j : Int) (s : MS) : PopS.step R (.go 3 w i j) s = (if (s.cas R.top w (topI j w)).held = true then .done i else .go 1 w i j, s.cas R.top w (topI j w)) := by simp [PopS.step]
theorem upN_self {α : Type} (f : Nat → α) (c : Nat) : upN f c (f c) = f := by
  funext j
  unfold upN
  split
  · rename_i e; rw [e]
  · rfl
theorem RI.m0 (h : RI n lim T F H s k) : (0 : Int) ≤ 0 ∧ (0 : Int) < s.W.length := by have := h.len; have := h.n1; omega
theorem RI.topm (h : RI n lim T F H s k) : s.at' 0 % 65536 - 1 = Lift.hd F ∧ s.at' 0 / 65536 = T ∧ idxI n (s.at' 0) = Lift.hd F := by
  have h1 := h.top
  have h2 := h.hd
  have h3 := h.n1
  have h4 : s.at' 0 % 65536 - 1 = Lift.hd F := by omega
  refine ⟨h4, by omega, ?_⟩
  unfold idxI
  rw [if_neg (by omega)]
  exact h4
/-- a pop has taken the first one, a push has laid one: the top's word is another -/
theorem RI.swap (h : RI n lim T F H s k) (hT : T < 999999) (hc : c < 3) {y : CoS} {s' : MS} {F' : List Int} {v : Int} (hv : v = Lift.hd F' + 1 + (T + 1) * 65536) (hr : -1 ≤ Lift.hd F' ∧ Lift.hd F' < n) (hl : s'.W.length = s.W.length) (hat : ∀ b, s'.at' b = if b = 0 then v else s.at' b)
    (hcnt : ∀ a, F'.count a + (ow y).count a = F.count a + (ow (k c)).count a) (hlen : (F'.length : Int) + (ow y).length = F.length + (ow (k c)).length) (hwc : wc y = wc (k c)) (hch : Chain s.at' F') (hy : CoOk n lim s'.at' F' (T + 1) y) (hk : okK (arN n lim) y) :
    RI n lim (T + 1) F' H s' (upN k c y) := by
  have h1 := h.n1
  have e1 : ∀ a, F'.count a + H.count a + cO (upN k c y) a = F.count a + H.count a + cO k a := fun a => by have := cO_up (k := k) (y := y) hc a; have := hcnt a; omega
  have e2 := lO_up (k := k) (y := y) hc
  have e3 := wO_up (k := k) (y := y) hc
  have rg : ∀ a, 1 ≤ F'.count a + H.count a + cO (upN k c y) a → 0 ≤ a ∧ a < n := fun a ha => h.rg a (by rw [e1] at ha; exact ha)
  have at1 : ∀ b, b ≠ 0 → s'.at' b = s.at' b := fun b hb => by rw [hat, if_neg hb]
  refine ⟨h.n1, h.lm, by rw [hl]; exact h.len, by rw [hat, if_pos rfl]; exact hv, by have := h.t0; omega, hch.to fun a ha => at1 _ ?_, fun i h2 h3 => ?_, fun a => by rw [e1]; exact h.nd a, rg, ?_, by rw [at1 _ (by omega)]; exact h.w0, fun c' hc' => ?_, fun c' hc' => ?_⟩
  · have := rg a (by have := List.one_le_count_iff.2 ha; omega); omega
  · rw [at1 _ (by omega)]; exact h.gn i h2 h3
  · rw [at1 _ (by omega)]; have := h.ln; omega
  · by_cases q : c' = c
    · subst q; rw [upN_same]; exact hy
    · rw [upN_ne _ _ q]
      refine (h.co c' hc').other (by omega) (fun w hw e => ?_) (fun i hi => at1 _ ?_) (by rw [at1 _ (by omega)]; exact Int.le_refl _)
      · exfalso
        rw [hat, if_pos rfl, hv] at e
        omega
      · have := h.owned hc' hi; omega
  · by_cases q : c' = c
    · subst q; rw [upN_same]; exact hk
    · rw [upN_ne _ _ q]; exact h.ok c' hc'
theorem RI.alstep (h : RI n lim T F H s k) (hs : s.ok) (hT : T < 999999) (hc : c < 3) {p : AlS} (hp : k c = .al p) (ho : p.over = false) : ∃ F' T', T ≤ T' ∧ T' ≤ T + 1 ∧ RI n lim T' F' H (p.step (arN n lim) s).2 (upN k c (.al (p.step (arN n lim) s).1)) ∧ mu n ((p.step (arN n lim) s).2.at' 0) (.al (p.step (arN n lim) s).1) < mu n (s.at' 0) (.al p) := by
  have hn := h.n1
  have hlen := h.len
  have hco := h.co c hc
  have hok := h.ok c hc
  have hlm := h.lm
  rw [hp] at hco hok
  have hA : (arN n lim).ok := ⟨⟨by show 1 ≤ n; omega, by show n ≤ 4096; omega, by show (0 : Int) ≤ 0; decide, by show (0 : Int) < 4096; decide, by show (0 : Int) ≤ 1; decide, by show 1 + n ≤ 4096; omega⟩, by show 0 ≤ 1 + n; omega, by show 1 + n + n ≤ 4096; omega, by show 0 ≤ 1 + 2 * n; omega, by show 1 + 2 * n < 4096; omega, by show 1 ≤ lim; omega, by show lim ≤ 4294967295; omega⟩
  have hok' := (AlS.ok.step hA hok hs).1
  have m0 := h.m0
  cases p with
  | done g e => cases ho
  | lacks =>
    have hm : (0 : Int) ≤ 1 + 2 * n ∧ 1 + 2 * n < (s.W.length : Int) := by omega
    refine ⟨F, T, Int.le_refl _, by omega, h.same hc (load_len _ _) (load_at hm) ?_ (by rw [hp]; rfl) ?_ hok', Nat.zero_lt_one⟩
    · rw [hp]
      show (if (if n ≤ (s.load (1 + 2 * n)).new then (12 : Int) else 7) = 0 then [ixW 0] else []) = []
      rw [if_neg (by split <;> decide)]
    · refine .inr ⟨rfl, ?_⟩
      have key : (if n ≤ (s.load (1 + 2 * n)).new then (12 : Int) else 7) = 7 ∨ ((if n ≤ (s.load (1 + 2 * n)).new then (12 : Int) else 7) = 12 ∧ n ≤ s.at' (1 + 2 * n)) := by
        rw [load_new hm]
        by_cases q : n ≤ s.at' (1 + 2 * n)
        · rw [if_pos q]; exact .inr ⟨rfl, q⟩
        · rw [if_neg q]; exact .inl rfl
      exact key
  | gives i =>
    obtain ⟨hi0, hi1⟩ : 0 ≤ i ∧ i < n := hok
    have hm : (0 : Int) ≤ 1 + n + i ∧ 1 + n + i < (s.W.length : Int) := by omega
    have hg := h.gn i hi0 hi1
    have e1 : (s.load (1 + n + i)).new % 4294967296 = s.at' (1 + n + i) := by rw [load_new hm]; omega
    refine ⟨F, T, Int.le_refl _, by omega, h.same hc (load_len _ _) (load_at hm) ?_ (by rw [hp]; rfl) ?_ hok', Nat.zero_lt_one⟩
    · rw [hp]
      show (if (0 : Int) = 0 then [ixW (wordT i ((s.load (1 + n + i)).new % 4294967296))] else []) = [i]
      rw [if_pos rfl, e1]
      unfold ixW wordT
      congr 1
      omega
    · refine .inl ⟨rfl, i, s.at' (1 + n + i), ?_, hi0, hi1, hg.1, by omega⟩
      show wordT i ((s.load (1 + n + i)).new % 4294967296) = _
      rw [e1]
  | pop p =>
    obtain ⟨hpo, hov⟩ := hok
    cases p with
    | done i => cases hov
    | go ph w i j =>
      obtain ⟨p1, p2, p3, p4, p5, p6, p7, p8⟩ := hpo
      obtain ⟨t1, t2, t3⟩ := h.topm
      obtain ⟨c1, c2⟩ := hco
      rcases (show ph = 1 ∨ ph = 2 ∨ ph = 3 by omega) with rfl | rfl | rfl
      · have e0 : (s.load 0).new = s.at' 0 := load_new m0
        have e1 : idxI n (s.load 0).new = Lift.hd F := by rw [e0]; exact t3
        by_cases hq : Lift.hd F < 0
        · have est : AlS.step (arN n lim) (.pop (.go 1 w i j)) s = (.lacks, s.load 0) := by
            have : PopS.step (arN n lim).R (.go 1 w i j) s = (.done (Lift.hd F), s.load 0) := by
              rw [pop1]
              show (if idxI n (s.load 0).new < 0 then PopS.done (idxI n (s.load 0).new) else .go 2 (s.load 0).new (idxI n (s.load 0).new) j, s.load 0) = _
              rw [ e1, if_pos hq]
            simp only [AlS.step, this]
            rw [if_pos hq]
          rw [est] at hok' ⊢
          exact ⟨F, T, Int.le_refl _, by omega, h.same hc (load_len _ _) (load_at m0) (by rw [hp]; rfl) (by rw [hp]; rfl) trivial hok', by simp [mu, t3, hq]⟩
        · have est : AlS.step (arN n lim) (.pop (.go 1 w i j)) s = (.pop (.go 2 (s.at' 0) (Lift.hd F) j), s.load 0) := by
            have : PopS.step (arN n lim).R (.go 1 w i j) s = (.go 2 (s.at' 0) (Lift.hd F) j, s.load 0) := by
              rw [pop1]
              show (if idxI n (s.load 0).new < 0 then PopS.done (idxI n (s.load 0).new) else .go 2 (s.load 0).new (idxI n (s.load 0).new) j, s.load 0) = _
              rw [ e1, if_neg hq, e0]
            simp only [AlS.step, this]
          rw [est] at hok' ⊢
          exact ⟨F, T, Int.le_refl _, by omega, h.same hc (load_len _ _) (load_at m0) (by rw [hp]; rfl) (by rw [hp]; rfl) ⟨fun _ => ⟨by omega, t1⟩, fun k => absurd k (by decide)⟩ hok', by simp [mu, t3, hq, load_at m0]⟩
      · have hi0 := p8 (by decide)
        have p5' : i < n := p5
        have hm : (0 : Int) ≤ 1 + i ∧ 1 + i < (s.W.length : Int) := by omega
        have est : AlS.step (arN n lim) (.pop (.go 2 w i j)) s = (.pop (.go 3 w i (idxI n (s.at' (1 + i)))), s.load (1 + i)) := by
          have : PopS.step (arN n lim).R (.go 2 w i j) s = (.go 3 w i (idxI n (s.at' (1 + i))), s.load (1 + i)) := by
            rw [pop2]
            show (PopS.go 3 w i (idxI n (s.load (1 + i)).new), s.load (1 + i)) = _
            rw [load_new hm]
          simp only [AlS.step, this]
        rw [est] at hok' ⊢
        refine ⟨F, T, Int.le_refl _, by omega, h.same hc (load_len _ _) (load_at hm) (by rw [hp]; rfl) (by rw [hp]; rfl) ⟨fun _ => c1 (by decide), fun _ e => ?_⟩ hok', by by_cases q : s.at' 0 = w <;> simp [mu, load_at hm, q]⟩
        have hi := (c1 (by decide)).2
        rw [← e, t1] at hi
        cases F with
        | nil => exact absurd hi (by show ¬ (-1 : Int) = i; omega)
        | cons a F' =>
          have ha : a = i := hi
          subst ha
          refine ⟨rfl, ?_⟩
          have hl := h.ch.1
          have hr := h.hdn rfl
          rw [hl]
          unfold idxI
          rw [if_neg (by omega)]
          show _ = Lift.hd F'
          omega
      · have hi0 := p8 (by decide)
        have p7' : j < n := p7
        have hh : (s.cas 0 w (topI j w)).held = decide (s.at' 0 = w) := cas_held m0 _ _
        by_cases e : s.at' 0 = w
        · obtain ⟨d1, d2⟩ := c2 rfl e
          have est : AlS.step (arN n lim) (.pop (.go 3 w i j)) s = (.gives i, s.cas 0 w (topI j w)) := by
            have : PopS.step (arN n lim).R (.go 3 w i j) s = (.done i, s.cas 0 w (topI j w)) := by
              rw [pop3]
              show (if (s.cas 0 w (topI j w)).held = true then PopS.done i else .go 1 w i j, s.cas 0 w (topI j w)) = _
              rw [hh, if_pos (by simp [e])]
            simp only [AlS.step, this]
            rw [if_neg (by omega)]
          rw [est] at hok' ⊢
          have hw : w / 65536 = T := by rw [← e]; exact t2
          have ht := h.t0
          refine ⟨F.tail, T + 1, by omega, Int.le_refl _, h.swap hT hc (v := topI j w) ?_ (h.hdn d1) (cas_len _ _ _ _) (fun b => ?_) (fun a => ?_) ?_ (by rw [hp]; rfl) ?_ trivial hok', by simp [mu, e]⟩
          · rw [← d2]; unfold topI wordT; rw [hw]; omega
          · rw [cas_at m0]; by_cases q : b = 0
            · rw [if_pos ⟨q, e⟩, if_pos q]
            · rw [if_neg (fun k => q k.1), if_neg q]
          · rw [hp]
            show F.tail.count a + [i].count a = F.count a + ([] : List Int).count a
            have : F.count a = (i :: F.tail).count a := by rw [← d1]
            rw [this, List.count_cons, List.count_cons, List.count_nil]
            omega
          · rw [hp]
            show (F.tail.length : Int) + ([i] : List Int).length = F.length + ([] : List Int).length
            have : F.length = (i :: F.tail).length := by rw [← d1]
            rw [this]
            simp
          · have hch := h.ch
            rw [d1] at hch
            exact hch.2
        · have est : AlS.step (arN n lim) (.pop (.go 3 w i j)) s = (.pop (.go 1 w i j), s.cas 0 w (topI j w)) := by
            have : PopS.step (arN n lim).R (.go 3 w i j) s = (.go 1 w i j, s.cas 0 w (topI j w)) := by
              rw [pop3]
              show (if (s.cas 0 w (topI j w)).held = true then PopS.done i else .go 1 w i j, s.cas 0 w (topI j w)) = _
              rw [hh, if_neg (by simp [e])]
            simp only [AlS.step, this]
          rw [est] at hok' ⊢
          exact ⟨F, T, Int.le_refl _, by omega, h.same hc (cas_len _ _ _ _) (fun b => by rw [cas_at m0, if_neg (fun k => e k.2)]) (by rw [hp]; rfl) (by rw [hp]; rfl) ⟨fun k => absurd rfl k, fun k => absurd k (by decide)⟩ hok', by have key : ∀ (P : Prop) [Decidable P], (if P then 2 else 4) < 5 := fun P _ => (by split <;> decide); simp [mu, e, key]⟩
end
end Go.Proofs.Ytfmkihikmlcimaa.Lift

set_option linter.unusedVariables false
set_option linter.unusedSimpArgs false
set_option maxRecDepth 20000
namespace Go.Proofs.Ytfmkihikmlcimaa.Lift
open Go Go.Proofs.Ytfmkihikmlcimaa.Gh Go.Proofs
theorem pus1 (R : Sk) (w i : Int) (s : MS) : PusS.step R (.go 1 w i) s = (.go 2 (s.load R.top).new i, s.load R.top) := by simp [PusS.step]
theorem pus2 (R : Sk) (w i : Int) (s : MS) : PusS.step R (.go 2 w i) s = (.go 3 w i, s.store (R.links + i) (idxI R.size w + 1)) := by simp [PusS.step]
theorem pus3 (R : Sk) (w i : Int) (s : MS) : PusS.step R (.go 3 w i) s = (if (s.cas R.top w (topI i w)).held = true then .done 0 else .go 1 w i, s.cas R.top w (topI i w)) := by simp [PusS.step]
section
variable {n lim T : Int} {F H : List Int} {s : MS} {k : Nat → CoS} {c : Nat}
theorem arN_ok (h1 : 1 ≤ n ∧ n ≤ 8) (h2 : 1 ≤ lim ∧ lim ≤ 4) : (arN n lim).ok := ⟨⟨by show 1 ≤ n; omega, by show n ≤ 4096; omega, by show (0 : Int) ≤ 0; decide, by show (0 : Int) < 4096; decide, by show (0 : Int) ≤ 1; decide, by show 1 + n ≤ 4096; omega⟩, by show 0 ≤ 1 + n; omega, by show 1 + n + n ≤ 4096; omega, by show 0 ≤ 1 + 2 * n; omega, by show 1 + 2 * n < 4096; omega, by show 1 ≤ lim; omega, by show lim ≤ 4294967295; omega⟩
/-- a core writes into a cell of its node's, or counts one more that is worn -/
theorem RI.writes (h : RI n lim T F H s k) (hc : c < 3) {y : CoS} {s' : MS} (hl : s'.W.length = s.W.length) (h0 : s'.at' 0 = s.at' 0) (hli : ∀ a, 0 ≤ a → a < n → a ∉ ow (k c) → s'.at' (1 + a) = s.at' (1 + a)) (hgn : ∀ i, 0 ≤ i → i < n → 1 ≤ s'.at' (1 + n + i) ∧ s'.at' (1 + n + i) ≤ lim)
    (hsub : ∀ a, (ow y).count a ≤ (ow (k c)).count a) (hln : ((ow y).length : Int) + wc y + s'.at' (1 + 2 * n) = (ow (k c)).length + wc (k c) + s.at' (1 + 2 * n)) (hwn : s.at' (1 + 2 * n) ≤ s'.at' (1 + 2 * n)) (hy : CoOk n lim s'.at' F T y) (hk : okK (arN n lim) y) : RI n lim T F H s' (upN k c y) := by
  have h1 := h.n1
  have e1 : ∀ a, cO (upN k c y) a ≤ cO k a := fun a => by have := cO_up (k := k) (y := y) hc a; have := hsub a; omega
  have e2 := lO_up (k := k) (y := y) hc
  have e3 := wO_up (k := k) (y := y) hc
  have hmem : ∀ a, a ∈ F → s'.at' (1 + a) = s.at' (1 + a) := fun a ha => by
    have hca := List.one_le_count_iff.2 ha
    have hr := h.rg a (by omega)
    exact hli a hr.1 hr.2 fun hx => (h.owned hc hx).2.2.1 ha
  refine ⟨h.n1, h.lm, by rw [hl]; exact h.len, by rw [h0]; exact h.top, h.t0, h.ch.to hmem, hgn, fun a => Nat.le_trans (Nat.add_le_add_left (e1 a) _) (h.nd a), fun a ha => h.rg a (Nat.le_trans ha (Nat.add_le_add_left (e1 a) _)), by have := h.ln; omega, by have := h.w0; omega, fun c' hc' => ?_, fun c' hc' => ?_⟩
  · by_cases q : c' = c
    · subst q; rw [upN_same]; exact hy
    · rw [upN_ne _ _ q]
      refine (h.co c' hc').other (Int.le_refl _) (fun w _ e => ⟨by rw [← h0]; exact e, rfl⟩) (fun i hi => ?_) hwn
      have ho := h.owned hc' hi
      exact hli i ho.1 ho.2.1 (ho.2.2.2.2 c hc (Ne.symm q))
  · by_cases q : c' = c
    · subst q; rw [upN_same]; exact hk
    · rw [upN_ne _ _ q]; exact h.ok c' hc'
theorem RI.festep (h : RI n lim T F H s k) (hs : s.ok) (hT : T < 999999) (hc : c < 3) {p : FeS} (hp : k c = .fe p) (ho : p.over = false) : ∃ F' T', T ≤ T' ∧ T' ≤ T + 1 ∧ RI n lim T' F' H (p.step (arN n lim) s).2 (upN k c (.fe (p.step (arN n lim) s).1)) ∧ mu n ((p.step (arN n lim) s).2.at' 0) (.fe (p.step (arN n lim) s).1) < mu n (s.at' 0) (.fe p) := by
  have hn := h.n1
  have hlen := h.len
  have hco := h.co c hc
  have hok := h.ok c hc
  have hlm := h.lm
  have hA := arN_ok hn hlm
  rw [hp] at hco hok
  have hok' := (FeS.ok.step hA hok hs).1
  have m0 := h.m0
  cases p with
  | done e => cases ho
  | looks i =>
    have hi := h.owned hc (i := i) (by rw [hp]; simp [ow])
    have hm : (0 : Int) ≤ 1 + n + i ∧ 1 + n + i < (s.W.length : Int) := by omega
    have hg := h.gn i hi.1 hi.2.1
    have e1 : (s.load (1 + n + i)).new = s.at' (1 + n + i) := load_new hm
    have e2 : s.at' (1 + n + i) % 4294967296 = s.at' (1 + n + i) := by omega
    by_cases q : lim ≤ s.at' (1 + n + i)
    · have est : FeS.step (arN n lim) (.looks i) s = (.wears, s.load (1 + n + i)) := by
        show (if lim ≤ (s.load (1 + n + i)).new % 4294967296 then FeS.wears else .raises i (s.load (1 + n + i)).new, s.load (1 + n + i)) = _
        rw [e1, e2, if_pos q]
      rw [est] at hok' ⊢
      have ha := load_at hm
      refine ⟨F, T, Int.le_refl _, by omega, h.writes hc (load_len _ _) (ha _) (fun a _ _ _ => ha _) (fun j h1 h2 => by rw [ha]; exact h.gn j h1 h2) (fun a => by simp [ow]) ?_ (by rw [ha]; exact Int.le_refl _) trivial hok', by simp [mu]⟩
      rw [hp, ha]
      simp [ow, wc]
    · have est : FeS.step (arN n lim) (.looks i) s = (.raises i (s.at' (1 + n + i)), s.load (1 + n + i)) := by
        show (if lim ≤ (s.load (1 + n + i)).new % 4294967296 then FeS.wears else .raises i (s.load (1 + n + i)).new, s.load (1 + n + i)) = _
        rw [e1, e2, if_neg q]
      rw [est] at hok' ⊢
      exact ⟨F, T, Int.le_refl _, by omega, h.same hc (load_len _ _) (load_at hm) (by rw [hp]; rfl) (by rw [hp]; rfl) ⟨hg.1, by omega⟩ hok', by simp [mu]⟩
  | raises i g =>
    have hi := h.owned hc (i := i) (by rw [hp]; simp [ow])
    have hm : (0 : Int) ≤ 1 + n + i ∧ 1 + n + i < (s.W.length : Int) := by omega
    obtain ⟨g1, g2⟩ := hco
    have ew : IntKind.wrap .u64 (g + 1) = g + 1 := by rw [wrap_u64]; omega
    have est : FeS.step (arN n lim) (.raises i g) s = (.push (.go 1 0 i), s.store (1 + n + i) (g + 1)) := by
      show (FeS.push (.go 1 0 i), s.store (1 + n + i) (IntKind.wrap .u64 (g + 1))) = _
      rw [ew]
    rw [est] at hok' ⊢
    have ha := store_at hm (g + 1)
    refine ⟨F, T, Int.le_refl _, by omega, h.writes hc (store_len _ _ _) (by rw [ha, if_neg (by omega)]) (fun a h1 h2 _ => by rw [ha, if_neg (by omega)]) (fun j h1 h2 => ?_) (fun a => by rw [hp]; exact Nat.le_refl _) ?_ (by rw [ha, if_neg (by omega)]; exact Int.le_refl _) ⟨fun k => absurd rfl k, fun k => absurd k (by decide)⟩ hok', by simp [mu]⟩
    · rw [ha]
      by_cases e : j = i
      · rw [if_pos (by rw [e])]; omega
      · rw [if_neg (by omega)]; exact h.gn j h1 h2
    · rw [ha, if_neg (by omega), hp]
      rfl
  | wears =>
    have hm : (0 : Int) ≤ 1 + 2 * n ∧ 1 + 2 * n < (s.W.length : Int) := by omega
    have hw0 := h.w0
    have hle : s.at' (1 + 2 * n) ≤ n := by
      have := h.ln
      have q1 : 0 ≤ lO k := by unfold lO; omega
      have q2 : 0 ≤ wO k := by unfold wO; have := wc_nn (k 0); have := wc_nn (k 1); have := wc_nn (k 2); omega
      omega
    have ew : IntKind.wrap .u64 (s.at' (1 + 2 * n) + 1) = s.at' (1 + 2 * n) + 1 := by rw [wrap_u64]; omega
    have ha := add_at hm 1
    rw [ew] at ha
    refine ⟨F, T, Int.le_refl _, by omega, h.writes hc (add_len _ _ _) ?_ (fun a h1 h2 _ => ?_) (fun j h1 h2 => ?_) (fun a => by rw [hp]; exact Nat.le_refl _) ?_ ?_ trivial hok', Nat.zero_lt_one⟩
    · show (s.add (1 + 2 * n) 1).at' 0 = _
      rw [ha, if_neg (by omega)]
    · show (s.add (1 + 2 * n) 1).at' _ = _
      rw [ha, if_neg (by omega)]
    · show 1 ≤ (s.add (1 + 2 * n) 1).at' _ ∧ (s.add (1 + 2 * n) 1).at' _ ≤ lim
      rw [ha, if_neg (by omega)]
      exact h.gn j h1 h2
    · show (0 : Int) + 0 + (s.add (1 + 2 * n) 1).at' (1 + 2 * n) = _
      rw [ha, if_pos rfl, hp]
      show 0 + 0 + (s.at' (1 + 2 * n) + 1) = 0 + 1 + s.at' (1 + 2 * n)
      omega
    · show _ ≤ (s.add (1 + 2 * n) 1).at' (1 + 2 * n)
      rw [ha, if_pos rfl]
      omega
  | push p =>
    cases p with
    | done e => exact hco.elim
    | go ph w i =>
      have hi := h.owned hc (i := i) (by rw [hp]; simp [ow])
      obtain ⟨p1, p2, p3, p4, p5⟩ := hok
      obtain ⟨t1, t2, t3⟩ := h.topm
      obtain ⟨c1, c2⟩ := hco
      rcases (show ph = 1 ∨ ph = 2 ∨ ph = 3 by omega) with rfl | rfl | rfl
      · have est : FeS.step (arN n lim) (.push (.go 1 w i)) s = (.push (.go 2 (s.at' 0) i), s.load 0) := by
          simp only [FeS.step]
          rw [pus1]
          show (if (PusS.go 2 (s.load 0).new i).over = true then FeS.done 0 else FeS.push (.go 2 (s.load 0).new i), s.load 0) = _
          rw [load_new m0]
          rfl
        rw [est] at hok' ⊢
        exact ⟨F, T, Int.le_refl _, by omega, h.same hc (load_len _ _) (load_at m0) (by rw [hp]; rfl) (by rw [hp]; rfl) ⟨fun _ => by omega, fun k => absurd k (by decide)⟩ hok', by simp [mu, load_at m0]⟩
      · have hm : (0 : Int) ≤ 1 + i ∧ 1 + i < (s.W.length : Int) := by omega
        have est : FeS.step (arN n lim) (.push (.go 2 w i)) s = (.push (.go 3 w i), s.store (1 + i) (idxI n w + 1)) := by
          simp only [FeS.step]
          rw [pus2]
          rfl
        rw [est] at hok' ⊢
        have ha := store_at hm (idxI n w + 1)
        refine ⟨F, T, Int.le_refl _, by omega, h.writes hc (store_len _ _ _) (by rw [ha, if_neg (by omega)]) (fun a h1 h2 h3 => ?_) (fun j h1 h2 => by rw [ha, if_neg (by omega)]; exact h.gn j h1 h2) (fun a => by rw [hp]; exact Nat.le_refl _) ?_ (by rw [ha, if_neg (by omega)]; exact Int.le_refl _) ⟨fun _ => c1 (by decide), fun _ => by rw [ha, if_pos rfl]⟩ hok', by have h0 : ¬ (0 : Int) = 1 + i := (by omega); by_cases q : s.at' 0 = w <;> simp [mu, ha, h0, q]⟩
        · have : a ≠ i := fun e => h3 (by rw [hp, e]; simp [ow])
          rw [ha, if_neg (by omega)]
        · rw [ha, if_neg (by omega), hp]
          rfl
      · have hh : (s.cas 0 w (topI i w)).held = decide (s.at' 0 = w) := cas_held m0 _ _
        by_cases e : s.at' 0 = w
        · have est : FeS.step (arN n lim) (.push (.go 3 w i)) s = (.done 0, s.cas 0 w (topI i w)) := by
            simp only [FeS.step]
            rw [pus3]
            show (if (if (s.cas 0 w (topI i w)).held = true then PusS.done 0 else .go 1 w i).over = true then FeS.done 0 else FeS.push (if (s.cas 0 w (topI i w)).held = true then PusS.done 0 else .go 1 w i), s.cas 0 w (topI i w)) = _
            rw [hh, decide_eq_true e, if_pos rfl]
            rfl
          rw [est] at hok' ⊢
          have hw : w / 65536 = T := by rw [← e]; exact t2
          have hix : idxI n w = Lift.hd F := by rw [← e]; exact t3
          have ht := h.t0
          refine ⟨i :: F, T + 1, by omega, Int.le_refl _, h.swap hT hc (v := topI i w) ?_ ⟨by show -1 ≤ i; omega, hi.2.1⟩ (cas_len _ _ _ _) (fun b => ?_) (fun a => ?_) ?_ (by rw [hp]; rfl) ⟨by rw [c2 rfl, hix], h.ch⟩ trivial hok', by simp [mu, e]⟩
          · show topI i w = i + 1 + _
            unfold topI wordT; rw [hw]; omega
          · rw [cas_at m0]; by_cases q : b = 0
            · rw [if_pos ⟨q, e⟩, if_pos q]
            · rw [if_neg (fun k => q k.1), if_neg q]
          · rw [hp]
            show (i :: F).count a + ([] : List Int).count a = F.count a + [i].count a
            rw [List.count_cons, List.count_cons, List.count_nil]
            omega
          · rw [hp]
            show (((i :: F).length : Nat) : Int) + (([] : List Int).length : Nat) = F.length + (([i] : List Int).length : Nat)
            simp
        · have est : FeS.step (arN n lim) (.push (.go 3 w i)) s = (.push (.go 1 w i), s.cas 0 w (topI i w)) := by
            simp only [FeS.step]
            rw [pus3]
            show (if (if (s.cas 0 w (topI i w)).held = true then PusS.done 0 else .go 1 w i).over = true then FeS.done 0 else FeS.push (if (s.cas 0 w (topI i w)).held = true then PusS.done 0 else .go 1 w i), s.cas 0 w (topI i w)) = _
            rw [hh, decide_eq_false e]
            rfl
          rw [est] at hok' ⊢
          exact ⟨F, T, Int.le_refl _, by omega, h.same hc (cas_len _ _ _ _) (fun b => by rw [cas_at m0, if_neg (fun k => e k.2)]) (by rw [hp]; rfl) (by rw [hp]; rfl) ⟨fun k => absurd rfl k, fun k => absurd k (by decide)⟩ hok', by simp [mu, e]⟩
end
end Go.Proofs.Ytfmkihikmlcimaa.Lift

set_option linter.unusedVariables false
set_option linter.unusedSimpArgs false
set_option maxRecDepth 20000
namespace Go.Proofs.Ytfmkihikmlcimaa.Lift
open Go Go.Proofs.Ytfmkihikmlcimaa.Gh Go.Proofs
/-! ### A crew over an arena, in plain Lean -/
/-- a call: its number, from, to, the operation, the answer -/
structure Sp where
  id : Int
  fr : Int
  to : Int
  op : Int × Int × Int × Int
  an : Int × Int × Int
structure CA where
  s : MS
  k : Nat → CoS
  held : List Int
  back : Nat → Int
  calls : List Sp
  o : Nat → Int
  clock : Int
def CA.beginA (x : CA) (c : Nat) : CA :=
  { x with clock := x.clock + 1, k := upN x.k c (.al (.pop (.go 1 0 0 0))), o := upN x.o c x.calls.length, calls := x.calls ++ [⟨x.calls.length, x.clock + 1, -1, (7, 0, 0, 0), (0, 0, 0)⟩] }
def CA.beginF (x : CA) (c i : Nat) : CA :=
  { x with clock := x.clock + 1, back := upN x.back c (x.held.getD i 0), held := x.held.eraseIdx i, k := upN x.k c (.fe (.looks (ixW (x.held.getD i 0)))), o := upN x.o c x.calls.length, calls := x.calls ++ [⟨x.calls.length, x.clock + 1, -1, (8, ixW (x.held.getD i 0), 0, 0), (0, 0, 0)⟩] }
def CA.steps (A : Ar) (x : CA) (c : Nat) : CA :=
  match x.k c with
  | .idle => x
  | .fe p =>
    if (p.step A x.s).1.over = true then { x with s := (p.step A x.s).2, k := upN x.k c .idle, clock := x.clock + 1, o := upN x.o c (-1), calls := x.calls.modify (x.o c).toNat fun z => { z with to := x.clock + 1 } }
    else { x with s := (p.step A x.s).2, k := upN x.k c (.fe (p.step A x.s).1), clock := x.clock + 1 }
  | .al p =>
    if (p.step A x.s).1.over = true then { x with s := (p.step A x.s).2, k := upN x.k c .idle, clock := x.clock + 1, o := upN x.o c (-1), calls := x.calls.modify (x.o c).toNat fun z => { z with to := x.clock + 1, an := ((p.step A x.s).1.told.2, if (p.step A x.s).1.told.2 = 0 then ixW (p.step A x.s).1.told.1 else z.an.2.1, z.an.2.2) },
                                                    held := if (p.step A x.s).1.told.2 = 0 then x.held ++ [(p.step A x.s).1.told.1] else x.held }
    else { x with s := (p.step A x.s).2, k := upN x.k c (.al (p.step A x.s).1), clock := x.clock + 1 }
def ovK : CoS → Bool
  | .idle => false
  | .al p => p.over
  | .fe p => p.over
theorem upN_up {α : Type} (f : Nat → α) (c : Nat) (a b : α) : upN (upN f c a) c b = upN f c b := by
  funext j
  unfold upN
  split <;> rfl
structure InvA (n lim : Int) (K : Nat) (x : CA) (F : List Int) (T : Int) : Prop where
  ri : RI n lim T F (x.held.map ixW) x.s x.k
  tk : T ≤ K
  sk : x.s.ok
  hw : ∀ w ∈ x.held, ∃ i g, w = wordT i g ∧ 0 ≤ i ∧ i < n ∧ 1 ≤ g ∧ g ≤ 4
  op : ∀ c, c < 3 → (x.k c = .idle ∧ x.o c = -1) ∨ (x.k c ≠ .idle ∧ ovK (x.k c) = false ∧ 0 ≤ x.o c ∧ x.o c < x.calls.length)
  er : ∀ z ∈ x.calls, z.an.1 = 12 → n ≤ x.s.at' (1 + 2 * n)
  ck : 0 ≤ x.clock ∧ x.clock ≤ K
  cl : x.calls.length ≤ K
section
variable {n lim T : Int} {F H : List Int} {s : MS} {k : Nat → CoS} {c K : Nat} {x : CA}
theorem RI.give (h : RI n lim T F H s k) (hc : c < 3) {y : CoS} {H' : List Int} (hcnt : ∀ a, H'.count a + (ow y).count a = H.count a + (ow (k c)).count a) (hlen : (H'.length : Int) + (ow y).length = H.length + (ow (k c)).length) (hw : wc y = wc (k c)) (hy : CoOk n lim s.at' F T y) (hk : okK (arN n lim) y) : RI n lim T F H' s (upN k c y) := by
  have e1 : ∀ a, F.count a + H'.count a + cO (upN k c y) a = F.count a + H.count a + cO k a := fun a => by have := cO_up (k := k) (y := y) hc a; have := hcnt a; omega
  have e2 := lO_up (k := k) (y := y) hc
  have e3 := wO_up (k := k) (y := y) hc
  refine ⟨h.n1, h.lm, h.len, h.top, h.t0, h.ch, h.gn, fun a => by rw [e1]; exact h.nd a, fun a ha => h.rg a (by rw [e1] at ha; exact ha), by have := h.ln; omega, h.w0, fun c' hc' => ?_, fun c' hc' => ?_⟩
  · by_cases q : c' = c
    · subst q; rw [upN_same]; exact hy
    · rw [upN_ne _ _ q]; exact h.co c' hc'
  · by_cases q : c' = c
    · subst q; rw [upN_same]; exact hk
    · rw [upN_ne _ _ q]; exact h.ok c' hc'
theorem ixW_word {i g : Int} (h : 0 ≤ i ∧ i < 8) : ixW (wordT i g) = i := by unfold ixW wordT; omega
theorem U_zw : U 0 := ⟨by decide, by decide⟩
theorem InvA.beginA (h : InvA n lim K x F T) (hc : c < 3) (hi : x.k c = .idle) : InvA n lim (K + 1) (x.beginA c) F T := by
  have hn := h.ri.n1
  refine ⟨h.ri.give hc (fun a => by rw [hi]; rfl) (by rw [hi]; rfl) (by rw [hi]; rfl) ⟨fun k => absurd rfl k, fun k => absurd k (by decide)⟩ ⟨⟨by decide, by decide, U_zw, by decide, by show 0 < n; omega, by decide, by show 0 < n; omega, fun k => absurd rfl k⟩, rfl⟩, by have := h.tk; omega, h.sk, h.hw, fun c' hc' => ?_, fun z hz e => ?_, ?_, ?_⟩
  · by_cases q : c' = c
    · subst q
      refine .inr ⟨?_, ?_, ?_, ?_⟩
      · show upN x.k c' _ c' ≠ _; rw [upN_same]; exact fun k => by cases k
      · show ovK (upN x.k c' _ c') = _; rw [upN_same]; rfl
      · show 0 ≤ upN x.o c' _ c'; rw [upN_same]; omega
      · show upN x.o c' _ c' < _; rw [upN_same]; simp [CA.beginA]; omega
    · have := h.op c' hc'
      show (upN x.k c _ c' = _ ∧ upN x.o c _ c' = _) ∨ (upN x.k c _ c' ≠ _ ∧ ovK (upN x.k c _ c') = _ ∧ 0 ≤ upN x.o c _ c' ∧ upN x.o c _ c' < _)
      rw [upN_ne _ _ q, upN_ne _ _ q]
      refine this.imp id fun ⟨a, b, c, d⟩ => ⟨a, b, c, ?_⟩
      simp [CA.beginA]; omega
  · rcases List.mem_append.1 hz with hz | hz
    · exact h.er z hz e
    · rw [List.mem_singleton.1 hz] at e; cases e
  · have := h.ck; show 0 ≤ x.clock + 1 ∧ x.clock + 1 ≤ ((K + 1 : Nat) : Int); omega
  · have := h.cl; simp [CA.beginA]; omega
theorem erase_count (L : List Int) : ∀ (i : Nat), i < L.length → ∀ a, (L.eraseIdx i).count a + [L.getD i 0].count a = L.count a := by
  induction L with
  | nil => intro i hi; simp at hi
  | cons b L ih =>
    intro i hi a
    cases i with
    | zero => simp [List.count_cons]
    | succ i =>
      have := ih i (by simpa using hi) a
      simp only [List.eraseIdx_cons_succ, List.getD_cons_succ]
      rw [List.count_cons (a := a) (b := b) (l := L.eraseIdx i), List.count_cons (a := a) (b := b) (l := L)]
      omega
theorem erase_map (L : List Int) (f : Int → Int) : ∀ (i : Nat), (L.eraseIdx i).map f = (L.map f).eraseIdx i := by
  induction L with
  | nil => intro i; simp
  | cons b L ih =>
    intro i
    cases i with
    | zero => rfl
    | succ i => simp [ih]
theorem InvA.beginF (h : InvA n lim K x F T) (hc : c < 3) (hi : x.k c = .idle) {i : Nat} (hl : i < x.held.length) : InvA n lim (K + 1) (x.beginF c i) F T := by
  have hn := h.ri.n1
  have hg : x.held.getD i 0 = x.held[i] := by rw [List.getD_eq_getElem?_getD, List.getElem?_eq_getElem hl]; rfl
  obtain ⟨j, g, hj, j0, j1, g0, g1⟩ := h.hw _ (List.getElem_mem hl)
  have hix : ixW (x.held.getD i 0) = j := by rw [hg, hj]; exact ixW_word ⟨j0, by omega⟩
  have hgm : ixW (x.held.getD i 0) = (x.held.map ixW).getD i 0 := by
    rw [hg]
    simp [List.getD_eq_getElem?_getD, hl]
  have hlm : i < (x.held.map ixW).length := by simpa using hl
  refine ⟨h.ri.give hc (fun a => ?_) ?_ (by rw [hi]; rfl) trivial ?_, by have := h.tk; omega, h.sk, fun w hw => h.hw w (List.mem_of_mem_eraseIdx hw), fun c' hc' => ?_, fun z hz e => ?_, ?_, ?_⟩
  · show ((x.held.eraseIdx i).map ixW).count a + [ixW (x.held.getD i 0)].count a = _
    rw [erase_map, hgm, erase_count _ _ hlm, hi]
    rfl
  · show (((x.held.eraseIdx i).map ixW).length : Int) + ([ixW (x.held.getD i 0)] : List Int).length = _
    rw [hi]
    simp [ow, List.length_eraseIdx, hl]
    omega
  · show 0 ≤ ixW (x.held.getD i 0) ∧ ixW (x.held.getD i 0) < n
    rw [hix]; exact ⟨j0, j1⟩
  · by_cases q : c' = c
    · subst q
      refine .inr ⟨?_, ?_, ?_, ?_⟩
      · show upN x.k c' _ c' ≠ _; rw [upN_same]; exact fun k => by cases k
      · show ovK (upN x.k c' _ c') = _; rw [upN_same]; rfl
      · show 0 ≤ upN x.o c' _ c'; rw [upN_same]; omega
      · show upN x.o c' _ c' < _; rw [upN_same]; simp [CA.beginF]; omega
    · have := h.op c' hc'
      show (upN x.k c _ c' = _ ∧ upN x.o c _ c' = _) ∨ (upN x.k c _ c' ≠ _ ∧ ovK (upN x.k c _ c') = _ ∧ 0 ≤ upN x.o c _ c' ∧ upN x.o c _ c' < _)
      rw [upN_ne _ _ q, upN_ne _ _ q]
      refine this.imp id fun ⟨a, b, c, d⟩ => ⟨a, b, c, ?_⟩
      simp [CA.beginF]; omega
  · rcases List.mem_append.1 hz with hz | hz
    · exact h.er z hz e
    · rw [List.mem_singleton.1 hz] at e; cases e
  · have := h.ck; show 0 ≤ x.clock + 1 ∧ x.clock + 1 ≤ ((K + 1 : Nat) : Int); omega
  · have := h.cl; simp [CA.beginF]; omega
end
end Go.Proofs.Ytfmkihikmlcimaa.Lift

