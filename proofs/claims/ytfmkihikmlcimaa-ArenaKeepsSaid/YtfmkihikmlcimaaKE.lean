/- contracts of the program's functions -/
import Derived.Test.YtfmkihikmlcimaaKD
import Derived.Test.YtfmkihikmlcimaaKC
set_option linter.unusedVariables false
set_option linter.unusedSimpArgs false
set_option maxRecDepth 20000
namespace Go.Proofs.Ytfmkihikmlcimaa.Lift
open Go Go.Proofs.Ytfmkihikmlcimaa.Gh Go.Proofs
section
variable {s : MS} {a b v x y : Int}
theorem at_out {s s' : MS} (h : s'.W = s.W) (b : Int) : s'.at' b = s.at' b := by unfold MS.at'; rw [h]
theorem load_any (s : MS) (a b : Int) : (s.load a).at' b = s.at' b := by
  by_cases h : 0 ≤ a ∧ a < s.W.length
  · exact load_at h b
  · exact at_out (by unfold MS.load MS.acc; rw [if_neg h]) b
theorem store_ne (s : MS) (v : Int) (h : b ≠ a) : (s.store a v).at' b = s.at' b := by
  by_cases hi : 0 ≤ a ∧ a < s.W.length
  · rw [store_at hi, if_neg h]
  · exact at_out (by unfold MS.store MS.acc; rw [if_neg hi]) b
theorem cas_ne (s : MS) (x y : Int) (h : b ≠ a) : (s.cas a x y).at' b = s.at' b := by
  by_cases hi : 0 ≤ a ∧ a < s.W.length
  · rw [cas_at hi, if_neg (fun k => h k.1)]
  · exact at_out (by unfold MS.cas MS.acc; rw [if_neg hi]) b
end
theorem mem_modify {α : Type} {l : List α} {i : Nat} {f : α → α} {z : α} (h : z ∈ l.modify i f) : z ∈ l ∨ ∃ y ∈ l, z = f y := by
  obtain ⟨j, hj⟩ := List.mem_iff_getElem?.1 h
  rw [List.getElem?_modify] at hj
  cases hq : l[j]? with
  | none => rw [hq] at hj; cases hj
  | some y =>
    rw [hq] at hj
    have hy := List.mem_of_getElem? hq
    by_cases e : i = j
    · simp [e] at hj; exact .inr ⟨y, hy, hj.symm⟩
    · simp [e] at hj; exact .inl (hj ▸ hy)
section
variable {n lim T : Int} {F H : List Int} {s : MS} {k : Nat → CoS} {c K : Nat} {x : CA}
theorem al_worn (hn : 1 ≤ n) (p : AlS) (s : MS) : (p.step (arN n lim) s).2.at' (1 + 2 * n) = s.at' (1 + 2 * n) := by
  have h0 : (1 : Int) + 2 * n ≠ 0 := by omega
  cases p with
  | done g e => rfl
  | lacks => exact load_any _ _ _
  | gives i => exact load_any _ _ _
  | pop p =>
    have key : (p.step (arN n lim).R s).2.at' (1 + 2 * n) = s.at' (1 + 2 * n) := by
      cases p with
      | done i => rfl
      | go ph w i j =>
        simp only [PopS.step]
        split
        · exact load_any _ _ _
        · split
          · exact load_any _ _ _
          · exact cas_ne _ _ _ h0
    simp only [AlS.step]
    generalize p.step (arN n lim).R s = q at *
    obtain ⟨q, s'⟩ := q
    cases q <;> exact key
theorem fe_worn (h : RI n lim T F H s k) (hc : c < 3) {p : FeS} (hp : k c = .fe p) : s.at' (1 + 2 * n) ≤ (p.step (arN n lim) s).2.at' (1 + 2 * n) := by
  have hn := h.n1
  have h0 : (1 : Int) + 2 * n ≠ 0 := by omega
  cases p with
  | done e => exact Int.le_refl _
  | looks i => exact Int.le_of_eq (load_any _ _ _).symm
  | raises i g =>
    have hi := h.owned hc (i := i) (by rw [hp]; simp [ow])
    exact Int.le_of_eq (store_ne _ _ (by show 1 + 2 * n ≠ 1 + n + i; omega)).symm
  | wears =>
    have hm : (0 : Int) ≤ 1 + 2 * n ∧ 1 + 2 * n < (s.W.length : Int) := by have := h.len; omega
    have hw0 := h.w0
    have hle : s.at' (1 + 2 * n) ≤ n := by
      have := h.ln
      have q1 : 0 ≤ lO k := by unfold lO; omega
      have q2 : 0 ≤ wO k := by unfold wO; have := wc_nn (k 0); have := wc_nn (k 1); have := wc_nn (k 2); omega
      omega
    show _ ≤ (s.add (1 + 2 * n) 1).at' (1 + 2 * n)
    rw [add_at hm, if_pos rfl, wrap_u64]
    omega
  | push p =>
    cases p with
    | done e => exact Int.le_refl _
    | go ph w i =>
      have hi := h.owned hc (i := i) (by rw [hp]; simp [ow])
      refine Int.le_of_eq (Eq.symm ?_)
      show (PusS.step (arN n lim).R (.go ph w i) s).2.at' (1 + 2 * n) = _
      simp only [PusS.step]
      split
      · exact load_any _ _ _
      · split
        · exact store_ne _ _ (by show 1 + 2 * n ≠ 1 + i; omega)
        · exact cas_ne _ _ _ h0
theorem InvA.wait (h : InvA n lim K x F T) : InvA n lim (K + 1) x F T :=
  ⟨h.ri, by have := h.tk; omega, h.sk, h.hw, h.op, h.er, by have := h.ck; omega, by have := h.cl; omega⟩
/-- what an Alloc comes to -/
theorem InvA.told (h : InvA n lim K x F T) (hK : K < 999998) (hc : c < 3) {p : AlS} (hp : x.k c = .al p) {g e : Int} (hd : (p.step (arN n lim) x.s).1 = .done g e) :
    (e = 0 → (∀ w ∈ x.held, ixW w ≠ ixW g) ∧ ∃ i g', g = wordT i g' ∧ 0 ≤ i ∧ i < n ∧ 1 ≤ g' ∧ g' ≤ 4) ∧ (e ≠ 0 → g = 0 ∧ (e = 7 ∨ e = 12)) := by
  have ho : p.over = false := by
    rcases h.op c hc with ⟨q, _⟩ | ⟨_, q, _⟩
    · rw [hp] at q; cases q
    · rw [hp] at q; exact q
  obtain ⟨F', T', t1, t2, hr, -⟩ := h.ri.alstep h.sk (by have := h.tk; omega) hc hp ho
  rw [hd] at hr
  have hco := hr.co c hc
  rw [upN_same] at hco
  refine ⟨fun he => ?_, fun he => ?_⟩
  · rcases hco with ⟨_, hi⟩ | ⟨_, q | ⟨q, _⟩⟩
    · refine ⟨fun w hw e => ?_, hi⟩
      have := (hr.owned hc (i := ixW g) (by rw [upN_same]; simp [ow, he])).2.2.2.1
      exact this (by rw [← e]; exact List.mem_map_of_mem hw)
    · rw [q] at he; cases he
    · rw [q] at he; cases he
  · rcases hco with ⟨q, _⟩ | ⟨q1, q | ⟨q, _⟩⟩
    · exact absurd q he
    · exact ⟨q1, .inl q⟩
    · exact ⟨q1, .inr q⟩
theorem InvA.steps (h : InvA n lim K x F T) (hK : K < 999998) (hc : c < 3) : ∃ F' T', InvA n lim (K + 1) (x.steps (arN n lim) c) F' T' ∧ (x.k c ≠ .idle → mu n ((x.steps (arN n lim) c).s.at' 0) ((x.steps (arN n lim) c).k c) < mu n (x.s.at' 0) (x.k c)) := by
  have hn := h.ri.n1
  have hT : T < 999999 := by have := h.tk; omega
  have hck := h.ck
  have hcl := h.cl
  have htk := h.tk
  have hA := arN_ok hn h.ri.lm
  have other : ∀ {y : CoS} {v : Int} {l : Nat} (hl : x.calls.length ≤ l), (∀ c', c' < 3 → c' ≠ c → (upN x.k c y c' = .idle ∧ upN x.o c v c' = -1) ∨ (upN x.k c y c' ≠ .idle ∧ ovK (upN x.k c y c') = false ∧ 0 ≤ upN x.o c v c' ∧ upN x.o c v c' < (l : Int))) := fun hl c' hc' q => by
    rw [upN_ne _ _ q, upN_ne _ _ q]
    exact (h.op c' hc').imp id fun ⟨a, b, d, e⟩ => ⟨a, b, d, by omega⟩
  have hop := h.op c hc
  have hokc := h.ri.ok c hc
  unfold CA.steps
  cases hk : x.k c with
  | idle => exact ⟨F, T, h.wait, fun q => absurd rfl q⟩
  | fe p =>
    rw [hk] at hop hokc
    have ho : p.over = false := hop.elim (fun q => by cases q.1) fun q => q.2.1
    obtain ⟨F', T', t1, t2, hr, hm⟩ := h.ri.festep h.sk hT hc hk ho
    have hsk := (FeS.ok.step hA hokc h.sk).2
    have hwn := fe_worn h.ri hc hk
    simp only
    by_cases hov : (p.step (arN n lim) x.s).1.over = true
    · rw [if_pos hov]
      refine ⟨F', T', ⟨?_, by omega, hsk, h.hw, fun c' hc' => ?_, fun z hz e => ?_, ?_, ?_⟩, fun _ => ?_⟩
      · have hd : ∃ e, (p.step (arN n lim) x.s).1 = .done e := by
          cases hq : (p.step (arN n lim) x.s).1 <;> first | exact ⟨_, rfl⟩ | (rw [hq] at hov; cases hov)
        obtain ⟨e, hd⟩ := hd
        rw [hd] at hr
        have := hr.give hc (y := .idle) (H' := x.held.map ixW) (fun a => by rw [upN_same]; rfl) (by rw [upN_same]; rfl) (by rw [upN_same]; rfl) trivial trivial
        rw [upN_up] at this
        exact this
      · by_cases q : c' = c
        · subst q
          exact .inl ⟨upN_same _ _ _, upN_same _ _ _⟩
        · simp only [List.length_modify]
          exact other (Nat.le_refl _) c' hc' q
      · rcases mem_modify hz with hz | ⟨y, hy, rfl⟩
        · exact Int.le_trans (h.er z hz e) hwn
        · exact Int.le_trans (h.er y hy e) hwn
      · show 0 ≤ x.clock + 1 ∧ x.clock + 1 ≤ ((K + 1 : Nat) : Int); omega
      · simp only [List.length_modify]; omega
      · show mu n _ (upN x.k c .idle c) < _
        rw [upN_same]
        exact Nat.lt_of_le_of_lt (Nat.zero_le _) hm
    · rw [if_neg hov]
      refine ⟨F', T', ⟨hr, by omega, hsk, h.hw, fun c' hc' => ?_, fun z hz e => Int.le_trans (h.er z hz e) hwn, ?_, by show x.calls.length ≤ K + 1; omega⟩, fun _ => ?_⟩
      · by_cases q : c' = c
        · subst q
          refine .inr ⟨?_, ?_, ?_⟩
          · show upN x.k c' _ c' ≠ _; rw [upN_same]; exact fun k => by cases k
          · show ovK (upN x.k c' _ c') = _; rw [upN_same]; simpa [ovK] using hov
          exact hop.elim (fun q => by cases q.1) fun q => q.2.2
        · have := other (y := .fe (p.step (arN n lim) x.s).1) (v := x.o c) (Nat.le_refl _) c' hc' q
          rw [upN_self] at this
          exact this
      · show 0 ≤ x.clock + 1 ∧ x.clock + 1 ≤ ((K + 1 : Nat) : Int); omega
      · show mu n _ (upN x.k c _ c) < _
        rw [upN_same]
        exact hm
  | al p =>
    rw [hk] at hop hokc
    have ho : p.over = false := hop.elim (fun q => by cases q.1) fun q => q.2.1
    obtain ⟨F', T', t1, t2, hr, hm⟩ := h.ri.alstep h.sk hT hc hk ho
    have hsk := (AlS.ok.step hA hokc h.sk).2
    have hwn := Int.le_of_eq (al_worn (lim := lim) hn.1 p x.s).symm
    simp only
    by_cases hov : (p.step (arN n lim) x.s).1.over = true
    · rw [if_pos hov]
      have hd : ∃ g e, (p.step (arN n lim) x.s).1 = .done g e := by
        cases hq : (p.step (arN n lim) x.s).1 <;> first | exact ⟨_, _, rfl⟩ | (rw [hq] at hov; cases hov)
      obtain ⟨g, e, hd⟩ := hd
      have ht := h.told hK hc hk hd
      have htl : (p.step (arN n lim) x.s).1.told = (g, e) := by rw [hd]; rfl
      rw [hd] at hr
      have hcc := hr.co c hc
      rw [upN_same] at hcc
      rw [htl]
      simp only
      refine ⟨F', T', ⟨?_, by omega, hsk, fun w hw => ?_, fun c' hc' => ?_, fun z hz e' => ?_, ?_, ?_⟩, fun _ => ?_⟩
      · have := hr.give hc (y := .idle) (H' := (if e = 0 then x.held ++ [g] else x.held).map ixW) (fun a => ?_) ?_ (by rw [upN_same]; rfl) trivial trivial
        · rw [upN_up] at this
          exact this
        · rw [upN_same]
          by_cases q : e = 0
          · simp [ow, q]
          · simp [ow, q]
        · rw [upN_same]
          by_cases q : e = 0
          · simp [ow, q]
          · simp [ow, q]
      · by_cases q : e = 0
        · rw [if_pos q] at hw
          rcases List.mem_append.1 hw with hw | hw
          · exact h.hw w hw
          · rw [List.mem_singleton.1 hw]; exact (ht.1 q).2
        · rw [if_neg q] at hw; exact h.hw w hw
      · by_cases q : c' = c
        · subst q
          exact .inl ⟨upN_same _ _ _, upN_same _ _ _⟩
        · simp only [List.length_modify]
          exact other (Nat.le_refl _) c' hc' q
      · rcases mem_modify hz with hz | ⟨y, hy, rfl⟩
        · exact Int.le_trans (h.er z hz e') hwn
        · have e' : e = 12 := e'
          rcases hcc with ⟨q, _⟩ | ⟨_, q | ⟨_, q⟩⟩
          · rw [q] at e'; cases e'
          · rw [q] at e'; cases e'
          · exact q
      · show 0 ≤ x.clock + 1 ∧ x.clock + 1 ≤ ((K + 1 : Nat) : Int); omega
      · simp only [List.length_modify]; omega
      · show mu n _ (upN x.k c .idle c) < _
        rw [upN_same]
        exact Nat.lt_of_le_of_lt (Nat.zero_le _) hm
    · rw [if_neg hov]
      refine ⟨F', T', ⟨hr, by omega, hsk, h.hw, fun c' hc' => ?_, fun z hz e => Int.le_trans (h.er z hz e) hwn, ?_, by show x.calls.length ≤ K + 1; omega⟩, fun _ => ?_⟩
      · by_cases q : c' = c
        · subst q
          refine .inr ⟨?_, ?_, ?_⟩
          · show upN x.k c' _ c' ≠ _; rw [upN_same]; exact fun k => by cases k
          · show ovK (upN x.k c' _ c') = _; rw [upN_same]; simpa [ovK] using hov
          exact hop.elim (fun q => by cases q.1) fun q => q.2.2
        · have := other (y := .al (p.step (arN n lim) x.s).1) (v := x.o c) (Nat.le_refl _) c' hc' q
          rw [upN_self] at this
          exact this
      · show 0 ≤ x.clock + 1 ∧ x.clock + 1 ≤ ((K + 1 : Nat) : Int); omega
      · show mu n _ (upN x.k c _ c) < _
        rw [upN_same]
        exact hm
end
end Go.Proofs.Ytfmkihikmlcimaa.Lift

set_option linter.unusedVariables false
set_option linter.unusedSimpArgs false
set_option maxRecDepth 20000
namespace Go.Proofs.Ytfmkihikmlcimaa.Lift
open Go Go.Proofs.Ytfmkihikmlcimaa.Gh Go.Proofs
/-! ### How it begins -/
def firsts : Nat → List Int
  | 0 => []
  | n + 1 => firsts n ++ [(n : Int)]
def CA.init (n lim : Int) : CA := ⟨fillA (arN n lim) (MS.zero (2 + 2 * n).toNat), fun _ => .idle, [], fun _ => 0, [], fun _ => -1, 0⟩
theorem zero_ok {k : Nat} (h : k ≤ 4096) : (MS.zero k).ok := ⟨fun w hw => by rw [(List.mem_replicate.1 hw).2]; exact ⟨by decide, by decide⟩, by simp [MS.zero]; exact h⟩
theorem init_W (lim : Int) (n : Nat) (h : 1 ≤ n ∧ n ≤ 8) : (fillA (arN n lim) (MS.zero (2 + 2 * (n : Int)).toNat)).W = (1 : Int) :: ((List.range n).map fun i => if i + 1 = n then (0 : Int) else i + 2) ++ List.replicate n 1 ++ [0] := by
  rcases (show n = 1 ∨ n = 2 ∨ n = 3 ∨ n = 4 ∨ n = 5 ∨ n = 6 ∨ n = 7 ∨ n = 8 by omega) with rfl | rfl | rfl | rfl | rfl | rfl | rfl | rfl <;> kernel_rfl
theorem count_firsts (a : Int) : ∀ n : Nat, (firsts n).count a = if 0 ≤ a ∧ a < n then 1 else 0
  | 0 => by
    rw [if_neg (by omega)]
    rfl
  | n + 1 => by
    have ih := count_firsts a n
    show (firsts n ++ [(n : Int)]).count a = _
    rw [List.count_append, ih, List.count_cons, List.count_nil]
    by_cases e : a = n
    · have h1 : ¬ (0 ≤ (n : Int) ∧ (n : Int) < n) := by omega
      have h2 : 0 ≤ (n : Int) ∧ (n : Int) < ((n + 1 : Nat) : Int) := by omega
      rw [e, if_neg h1, if_pos h2]
      simp
    · have : ¬ ((n : Int) == a) = true := by simp; omega
      rw [if_neg this]
      by_cases q : 0 ≤ a ∧ a < n
      · rw [if_pos q, if_pos (by omega)]
      · rw [if_neg q, if_neg (by omega)]
theorem len_firsts : ∀ n : Nat, (firsts n).length = n
  | 0 => rfl
  | n + 1 => by show (firsts n ++ [(n : Int)]).length = _; rw [List.length_append, len_firsts n]; rfl
theorem gens_at {n i : Nat} (h : i < n) : (((1 : Int) :: ((List.range n).map fun i => if i + 1 = n then (0 : Int) else i + 2) ++ List.replicate n 1 ++ [0]))[1 + n + i]? = some 1 := by
  rw [List.getElem?_append_left (by simp; omega), List.getElem?_append_right (by simp; omega)]
  rw [List.getElem?_replicate, if_pos (by simp; omega)]
theorem RI.init (lim : Int) (n : Nat) (h : 1 ≤ n ∧ n ≤ 8) (hl : 1 ≤ lim ∧ lim ≤ 4) : RI n lim 0 (firsts n) [] (fillA (arN n lim) (MS.zero (2 + 2 * (n : Int)).toNat)) fun _ => .idle := by
  have hW := init_W lim n h
  generalize fillA (arN n lim) (MS.zero (2 + 2 * (n : Int)).toNat) = s at *
  have e : s.at' = fun a => if 0 ≤ a ∧ a < (((1 : Int) :: ((List.range n).map fun i => if i + 1 = n then (0 : Int) else i + 2) ++ List.replicate n 1 ++ [0]).length : Int) then ((((1 : Int) :: ((List.range n).map fun i => if i + 1 = n then (0 : Int) else i + 2) ++ List.replicate n 1 ++ [0]))[a.toNat]?).getD 0 else 0 := by
    funext a; unfold MS.at'; rw [hW]
  have base : (s.W.length : Int) = 2 + 2 * n := by rw [hW]; simp; omega
  have gn : ∀ i : Int, 0 ≤ i → i < n → s.at' (1 + n + i) = 1 := fun i h0 h1 => by
    obtain ⟨j, rfl⟩ := Int.eq_ofNat_of_zero_le h0
    rw [MS.at_in _ (by omega), hW]
    have : (1 + (n : Int) + (j : Int)).toNat = 1 + n + j := by omega
    rw [this, gens_at (by omega)]
    rfl
  have cnt : ∀ a : Int, (firsts n).count a + ([] : List Int).count a + cO (fun _ => CoS.idle) a = if 0 ≤ a ∧ a < n then 1 else 0 := fun a => by rw [count_firsts]; rfl
  have rest : s.at' 0 = Lift.hd (firsts n) + 1 + 0 * 65536 ∧ Chain s.at' (firsts n) ∧ s.at' (1 + 2 * n) = 0 := by
    rw [e]
    rcases (show n = 1 ∨ n = 2 ∨ n = 3 ∨ n = 4 ∨ n = 5 ∨ n = 6 ∨ n = 7 ∨ n = 8 by omega) with rfl | rfl | rfl | rfl | rfl | rfl | rfl | rfl <;> exact ⟨rfl, by simp [firsts, Chain, Lift.hd]; try decide, rfl⟩
  exact ⟨by omega, hl, base, rest.1, by decide, rest.2.1, fun i h0 h1 => by rw [gn i h0 h1]; omega, fun a => by rw [cnt]; split <;> omega, fun a ha => by rw [cnt] at ha; exact Classical.byContradiction fun q => by rw [if_neg q] at ha; omega, by rw [rest.2.2, len_firsts]; show (n : Int) + 0 + 0 + 0 + 0 = n; omega, by rw [rest.2.2]; decide, fun _ _ => trivial, fun _ _ => trivial⟩
theorem InvA.init (lim : Int) (n : Nat) (h : 1 ≤ n ∧ n ≤ 8) (hl : 1 ≤ lim ∧ lim ≤ 4) : InvA n lim 0 (CA.init n lim) (firsts n) 0 :=
  ⟨RI.init lim n h hl, by decide, fillA_ok (arN_ok (by omega) hl) (zero_ok (by omega)), fun w hw => (by cases hw), fun _ _ => .inl ⟨rfl, rfl⟩, fun z hz => (by cases hz), ⟨Int.le_refl 0, Int.le_refl 0⟩, Nat.le_refl 0⟩
end Go.Proofs.Ytfmkihikmlcimaa.Lift

set_option linter.unusedVariables false
set_option linter.unusedSimpArgs false
set_option maxRecDepth 20000
namespace Go.Proofs.Ytfmkihikmlcimaa.Lift
open Go Go.Proofs.Ytfmkihikmlcimaa.Gh Go.Proofs
/-! ### A crew in the heap -/
def rSp : RowE Sp := ⟨10, fun x => [.int .i64 x.id, .int .i64 x.fr, .int .i64 x.to, .int .i64 x.op.1, .int .i64 x.op.2.1, .int .i64 x.op.2.2.1, .int .u64 x.op.2.2.2, .int .i64 x.an.1, .int .i64 x.an.2.1, .int .u64 x.an.2.2], fun _ => rfl, fun _ => rfl, by decide⟩
@[simp] theorem rSp_sz : rSp.sz = 10 := rfl
@[simp] theorem rSp_row (x : Sp) : rSp.row x = [.int .i64 x.id, .int .i64 x.fr, .int .i64 x.to, .int .i64 x.op.1, .int .i64 x.op.2.1, .int .i64 x.op.2.2.1, .int .u64 x.op.2.2.2, .int .i64 x.an.1, .int .i64 x.an.2.1, .int .u64 x.an.2.2] := rfl
section
variable {α : Type} (e : RowE α)
theorem RowE.flat_part : ∀ (L : List α) {i : Nat} (hi : i < L.length) (a : α) {f : Nat} {ds : List Value}, e.row a = overw (e.row L[i]) f ds → f + ds.length ≤ e.sz → overw (e.flat L) (i * e.sz + f) ds = e.flat (L.set i a)
  | [], i, hi, _, _, _, _, _ => by simp at hi
  | b :: L, 0, hi, a, f, ds, h, hf => by
    have hb := e.len b
    simp only [List.getElem_cons_zero] at h
    rw [List.set_cons_zero, e.flat_cons, e.flat_cons, h]
    simp only [overw, Nat.zero_mul, Nat.zero_add]
    rw [List.take_append_of_le_length (by omega), List.drop_append_of_le_length (by omega)]
    simp
  | b :: L, i + 1, hi, a, f, ds, h, hf => by
    have hl : i < L.length := by simpa using hi
    have ih := RowE.flat_part L hl a (f := f) (ds := ds) (by simpa using h) hf
    rw [List.set_cons_succ, e.flat_cons, e.flat_cons, ← ih]
    have h1 : (i + 1) * e.sz + f = (e.row b).length + (i * e.sz + f) := by rw [e.len, Nat.add_mul]; omega
    simp only [overw]
    rw [h1, List.take_length_add_append, Nat.add_assoc, ← List.drop_drop, List.drop_left]
    simp
theorem set_overw (l : List Value) (i : Nat) (v : Value) (h : i < l.length) : l.set i v = overw l i [v] := by
  simp only [overw]
  rw [List.set_eq_take_append_cons_drop, if_pos h]
  simp
end
theorem modify_set (L : List Sp) (k : Nat) (f : Sp → Sp) (h : k < L.length) : L.modify k f = L.set k (f L[k]) := by
  apply List.ext_getElem?
  intro i
  by_cases e : i = k
  · subst e; simp [h]
  · have e' : ¬ k = i := fun h => e h.symm
    simp [List.getElem?_modify, List.getElem?_set, e, e']
structure Cel (own : Nat → Nat) (G : GS) (b t : Nat) (cs : List Value) : Prop where
  lt : b < G.nx
  tag : own b = t
  obj : G.obj b = some ⟨cs, 1, false, 1⟩
section
variable {own own' own1 : Nat → Nat} {G G' G1 : GS} {b t : Nat} {ts : List Nat} {cs : List Value}
theorem Cel.to (h : Cel own G b t cs) (m : ModT ts own G G') (ht : t ∉ ts) (a : Agr own own' G) : Cel own' G' b t cs :=
  ⟨Nat.lt_of_lt_of_le h.lt m.nx, (a b h.lt).trans h.tag, (m.same h.lt (by rw [h.tag]; exact ht)).trans h.obj⟩
theorem Cel.ne {t' b' : Nat} (h : Cel own G b t cs) (k : own b' = t') (hn : t ≠ t') : ¬ b = b' := fun e => hn (by rw [← h.tag, ← k, e])
end
structure CrB where
  m : Nat
  xb : Nat
  ab : Nat
  fb : Nat
  bb : Nat
  ob : Nat
  hv : Value
  cv : Value
  b : Nat → Nat
  d : Nat → Nat
def pA (B : CrB) (x : CA) (c : Nat) : Value := match x.k c with
  | .al _ => P0 (B.b c)
  | _ => .pointer none
def pF (B : CrB) (x : CA) (c : Nat) : Value := match x.k c with
  | .fe _ => P0 (B.b c)
  | _ => .pointer none
def crX (n lim : Int) (x : CA) (B : CrB) : List Value := [.int .i64 0, .int .i64 1, .int .i64 n, .int .i64 (1 + n), .int .i64 (1 + 2 * n), .int .i64 lim, P0 B.m, .slice (some ⟨B.ab, 0, none⟩) 3 3, .slice (some ⟨B.fb, 0, none⟩) 3 3, B.hv, .slice (some ⟨B.bb, 0, none⟩) 3 3, B.cv, .slice (some ⟨B.ob, 0, none⟩) 3 3, .int .i64 x.clock]
/-- an operation's two blocks -/
structure Two (own : Nat → Nat) (G : GS) (b d t : Nat) : Prop where
  lb : b < G.nx
  ld : d < G.nx
  tb : own b = t
  td : own d = t
  ne : b ≠ d
theorem Two.to {own own' : Nat → Nat} {G G' : GS} {b d t : Nat} (h : Two own G b d t) (hn : G.nx ≤ G'.nx) (a : Agr own own' G) : Two own' G' b d t := ⟨Nat.lt_of_lt_of_le h.lb hn, Nat.lt_of_lt_of_le h.ld hn, (a _ h.lb).trans h.tb, (a _ h.ld).trans h.td, h.ne⟩
def CoG (own : Nat → Nat) (G : GS) (A : Ar) (b d t : Nat) : CoS → Prop
  | .idle => True
  | .al p => Two own G b d t ∧ AlR A G b d p
  | .fe p => Two own G b d t ∧ FeR A G b d p
structure CrG (own : Nat → Nat) (G : GS) (n lim : Int) (x : CA) (B : CrB) : Prop where
  cx : Cel own G B.xb 1 (crX n lim x B)
  ca : Cel own G B.ab 2 [pA B x 0, pA B x 1, pA B x 2]
  cf : Cel own G B.fb 14 [pF B x 0, pF B x 1, pF B x 2]
  ck : Cel own G B.bb 15 [.int .u64 (x.back 0), .int .u64 (x.back 1), .int .u64 (x.back 2)]
  co : Cel own G B.ob 16 [.int .i64 (x.o 0), .int .i64 (x.o 1), .int .i64 (x.o 2)]
  hm : PM own G B.m x.s
  hq : OwR (rowsI .u64) 0 G B.hv x.held
  tq : ∀ g, InB B.hv g → own g = 3
  hc : OwR rSp 0 G B.cv x.calls
  tc : ∀ g, InB B.cv g → own g = 4
  cr : ∀ c, c < 3 → CoG own G (arN n lim) (B.b c) (B.d c) (5 + c) (x.k c)
def crT : List Nat := [1, 2, 3, 4, 5, 6, 7, 10, 14, 15, 16]
section
variable {own own' own1 : Nat → Nat} {G G' G1 : GS} {b d t c : Nat} {n lim : Int} {ts : List Nat} {cs : List Value} {x y : CA} {B B' : CrB} {α : Type} {e : RowE α} {v : Value} {L : List α} {A : Ar} {y0 : CoS}
theorem OwR.to {lo : Nat} (h : OwR e lo G v L) (ht : ∀ g, InB v g → own g = t) (m : ModT ts own G G') (hn : t ∉ ts) : OwR e lo G' v L :=
  h.kept m.nx fun g hg => m.same (h.is.under g hg) (by rw [ht g hg]; exact hn)
theorem PM.mt {m : Nat} {s : MS} (h : PM own G m s) (q : ModT ts own G G') (ht : 10 ∉ ts) (a : Agr own own' G) : PM own' G' m s := (sepP m s).tag h q ht a
theorem CoG.to (h : CoG own G A b d t y0) (m : ModT ts own G G') (ht : t ∉ ts) (a : Agr own own' G) : CoG own' G' A b d t y0 := by
  cases y0 with
  | idle => trivial
  | al p => exact ⟨h.1.to m.nx a, h.2.kept (m.same h.1.lb (by rw [h.1.tb]; exact ht)) (m.same h.1.ld (by rw [h.1.td]; exact ht))⟩
  | fe p => exact ⟨h.1.to m.nx a, h.2.kept (m.same h.1.lb (by rw [h.1.tb]; exact ht)) (m.same h.1.ld (by rw [h.1.td]; exact ht))⟩
theorem CrG.to (h : CrG own G n lim x B) (m : ModT ts own G G') (a : Agr own own' G) (ht : ∀ t ∈ ts, t ∉ crT) : CrG own' G' n lim x B := by
  have no : ∀ {t}, t ∈ crT → t ∉ ts := fun h1 h2 => ht _ h2 h1
  refine ⟨h.cx.to m (no (by decide)) a, h.ca.to m (no (by decide)) a, h.cf.to m (no (by decide)) a, h.ck.to m (no (by decide)) a, h.co.to m (no (by decide)) a, h.hm.mt m (no (by decide)) a, OwR.to h.hq h.tq m (no (by decide)), fun g hg => (a g (h.hq.is.under g hg)).trans (h.tq g hg), OwR.to h.hc h.tc m (no (by decide)), fun g hg => (a g (h.hc.is.under g hg)).trans (h.tc g hg), fun c hc => (h.cr c hc).to m (no ?_) a⟩
  rcases (show c = 0 ∨ c = 1 ∨ c = 2 by omega) with rfl | rfl | rfl <;> decide
theorem CrG.ext (h : CrG own G n lim x B) (e : Ext G G') : CrG (grown own G 13) G' n lim x B := h.to (ts := []) (ModT.ext e) grown_agr (by simp)
/-- what a crew's function comes to -/
def CrPost (own : Nat → Nat) (G : GS) (n lim : Int) (B : CrB) (y : CA) (r : Value) (q : Value × GS) : Prop := q.1 = r ∧ ∃ own' B', B'.xb = B.xb ∧ B'.m = B.m ∧ Agr own own' G ∧ ModT crT own G q.2 ∧ CrG own' q.2 n lim y B'
end
end Go.Proofs.Ytfmkihikmlcimaa.Lift

set_option linter.unusedVariables false
set_option linter.unusedSimpArgs false
set_option maxRecDepth 20000
namespace Go.Proofs.Ytfmkihikmlcimaa.Lift
open Go Go.Proofs.Ytfmkihikmlcimaa.Gh Go.Proofs
section
variable {own own' own1 : Nat → Nat} {G G' G1 : GS} {b d t c : Nat} {n lim : Int} {ts : List Nat} {cs : List Value} {x y : CA} {B B' : CrB} {v : Value} {A : Ar} {y0 : CoS} {s' : MS}
/-- the clock ticks -/
theorem CrG.tick (h : CrG own G n lim x B) (k : Nat) (hG : G1 = (G.put B.xb ⟨crX n lim { x with clock := x.clock + 1 } B, 1, false, 1⟩).room k) : CrG (grown own G 13) G1 n lim { x with clock := x.clock + 1 } B ∧ ModT [1] own G G1 ∧ G1.nx = G.nx + k := by
  have hlt := h.cx.lt
  have m : ModT [1] own G G1 := by
    rw [hG]
    exact ModP.room (ModT.put (ModT.refl _ _ _) (.inl (by rw [h.cx.tag]; decide)) _) k
  have ag : Agr own (grown own G 13) G := grown_agr
  have nx : G1.nx = G.nx + k := by rw [hG]; rfl
  have ox : G1.obj B.xb = some ⟨crX n lim { x with clock := x.clock + 1 } B, 1, false, 1⟩ := by rw [hG]; simp
  refine ⟨⟨⟨by omega, (ag _ hlt).trans h.cx.tag, ox⟩, h.ca.to m (by decide) ag, h.cf.to m (by decide) ag, h.ck.to m (by decide) ag, h.co.to m (by decide) ag, h.hm.mt m (by decide) ag, OwR.to h.hq h.tq m (by decide), fun g hg => (ag g (h.hq.is.under g hg)).trans (h.tq g hg), OwR.to h.hc h.tc m (by decide), fun g hg => (ag g (h.hc.is.under g hg)).trans (h.tc g hg), fun c hc => (h.cr c hc).to m ?_ ag⟩, m, nx⟩
  simp; omega
/-- a core's operation has made a step -/
theorem CrG.run (h : CrG own G n lim x B) (hc : c < 3) (ht : Two own G (B.b c) (B.d c) (5 + c)) (w : PW (fun g => g = B.b c ∨ g = B.d c) own G own1 G1 B.m s') (hpa : pA B { x with s := s', k := upN x.k c y0 } c = pA B x c) (hpf : pF B { x with s := s', k := upN x.k c y0 } c = pF B x c)
    (hco : CoG own1 G1 (arN n lim) (B.b c) (B.d c) (5 + c) y0) : CrG own1 G1 n lim { x with s := s', k := upN x.k c y0 } B ∧ ModT [10, 5 + c] own G G1 := by
  have m : ModT [10, 5 + c] own G G1 := ModP.mono w.stp.mod fun g hg => hg.elim (fun e => by rw [e]; simp) fun e => by
    rcases e with e | e
    · rw [e, ht.tb]; simp
    · rw [e, ht.td]; simp
  have a := w.stp.agr
  have no : ∀ {t}, t ∈ [1, 2, 3, 4, 14, 15, 16] → t ∉ [10, 5 + c] := fun {t} h1 h2 => by simp at h1 h2; omega
  have pa : ∀ j, pA B { x with s := s', k := upN x.k c y0 } j = pA B x j := fun j => by
    by_cases q : j = c
    · rw [q]; exact hpa
    · unfold pA; simp only; rw [upN_ne _ _ q]
  have pf : ∀ j, pF B { x with s := s', k := upN x.k c y0 } j = pF B x j := fun j => by
    by_cases q : j = c
    · rw [q]; exact hpf
    · unfold pF; simp only; rw [upN_ne _ _ q]
  refine ⟨⟨h.cx.to m (no (by decide)) a, by rw [pa, pa, pa]; exact h.ca.to m (no (by decide)) a, by rw [pf, pf, pf]; exact h.cf.to m (no (by decide)) a, h.ck.to m (no (by decide)) a, h.co.to m (no (by decide)) a, w.pm, OwR.to h.hq h.tq m (no (by decide)), fun g hg => (a g (h.hq.is.under g hg)).trans (h.tq g hg), OwR.to h.hc h.tc m (no (by decide)), fun g hg => (a g (h.hc.is.under g hg)).trans (h.tc g hg), fun j hj => ?_⟩, m⟩
  show CoG own1 G1 _ _ _ _ (upN x.k c y0 j)
  by_cases q : j = c
  · rw [q, upN_same]; exact hco
  · rw [upN_ne _ _ q]; exact (h.cr j hj).to m (by simp; omega) a
/-- an operation has ended -/
theorem CrG.fin (h : CrG own G n lim x B) (hc : c < 3) {calls' : List Sp} (m : ModT [2, 4, 14, 16] own G G') (oa : G'.obj B.ab = some ⟨[pA B { x with k := upN x.k c .idle } 0, pA B { x with k := upN x.k c .idle } 1, pA B { x with k := upN x.k c .idle } 2], 1, false, 1⟩) (of : G'.obj B.fb = some ⟨[pF B { x with k := upN x.k c .idle } 0, pF B { x with k := upN x.k c .idle } 1, pF B { x with k := upN x.k c .idle } 2], 1, false, 1⟩)
    (oo : G'.obj B.ob = some ⟨[.int .i64 (upN x.o c (-1) 0), .int .i64 (upN x.o c (-1) 1), .int .i64 (upN x.o c (-1) 2)], 1, false, 1⟩) (oc : OwR rSp 0 G' B.cv calls') : CrG own G' n lim { x with k := upN x.k c .idle, o := upN x.o c (-1), calls := calls' } B := by
  have a := Agr.refl own G
  have nx := m.nx
  refine ⟨h.cx.to m (by decide) a, ⟨Nat.lt_of_lt_of_le h.ca.lt nx, h.ca.tag, oa⟩, ⟨Nat.lt_of_lt_of_le h.cf.lt nx, h.cf.tag, of⟩, h.ck.to m (by decide) a, ⟨Nat.lt_of_lt_of_le h.co.lt nx, h.co.tag, oo⟩, h.hm.mt m (by decide) a, OwR.to h.hq h.tq m (by decide), h.tq, oc, h.tc, fun j hj => ?_⟩
  show CoG own G' _ _ _ _ (upN x.k c .idle j)
  by_cases q : j = c
  · rw [q, upN_same]; trivial
  · rw [upN_ne _ _ q]; exact (h.cr j hj).to m (by simp; omega) a
end
end Go.Proofs.Ytfmkihikmlcimaa.Lift

set_option linter.unusedVariables false
set_option linter.unusedSimpArgs false
set_option maxRecDepth 20000
namespace Go.Proofs.Ytfmkihikmlcimaa.Lift
open Go Go.Proofs.Ytfmkihikmlcimaa.Gh Go.Proofs
section
variable {own own' own1 : Nat → Nat} {G G' G1 : GS} {b d t c K : Nat} {n lim T : Int} {F : List Int} {ts : List Nat} {cs : List Value} {x y : CA} {B B' : CrB} {v : Value} {A : Ar} {y0 : CoS} {s' : MS}
theorem ModT.up (h : ModT ts own G G') (hs : ∀ t ∈ ts, t ∈ crT) : ModT crT own G G' := h.mono hs
theorem up5 (hc : c < 3) : ∀ t ∈ [10, 5 + c], t ∈ crT := by rcases (show c = 0 ∨ c = 1 ∨ c = 2 by omega) with rfl | rfl | rfl <;> decide
theorem pA_idle (B : CrB) (x : CA) (c j : Nat) : pA B { x with k := upN x.k c .idle } j = if j = c then .pointer none else pA B x j := by
  unfold pA
  by_cases e : j = c
  · simp [upN, e]
  · simp [upN, e]
theorem pF_idle (B : CrB) (x : CA) (c j : Nat) : pF B { x with k := upN x.k c .idle } j = if j = c then .pointer none else pF B x j := by
  unfold pF
  by_cases e : j = c
  · simp [upN, e]
  · simp [upN, e]
theorem pA_fe {B : CrB} {x : CA} {c : Nat} {p : FeS} (h : x.k c = .fe p) : pA B x c = .pointer none := by unfold pA; rw [h]
theorem pF_al {B : CrB} {x : CA} {c : Nat} {p : AlS} (h : x.k c = .al p) : pF B x c = .pointer none := by unfold pF; rw [h]
theorem pF_other {B : CrB} {x : CA} {c j : Nat} {y : CoS} {s : MS} {cl : Int} (h : j ≠ c) : pF B { x with s := s, k := upN x.k c y, clock := cl } j = pF B x j := by unfold pF; simp [upN, h]
theorem pA_other {B : CrB} {x : CA} {c j : Nat} {y : CoS} {s : MS} {cl : Int} (h : j ≠ c) : pA B { x with s := s, k := upN x.k c y, clock := cl } j = pA B x j := by unfold pA; simp [upN, h]
theorem pA_end {B : CrB} {x : CA} {c j : Nat} {q : FeS} {s : MS} {cl : Int} : pA B { x with s := s, k := upN (upN x.k c (.fe q)) c .idle, clock := cl } j = pA B { x with s := s, k := upN x.k c (.fe q), clock := cl } j := by unfold pA; by_cases e : j = c <;> simp [upN, e]
theorem pF_end {B : CrB} {x : CA} {c j : Nat} {q : CoS} {s : MS} {cl : Int} : pF B { x with s := s, k := upN (upN x.k c q) c .idle, clock := cl } j = if j = c then .pointer none else pF B x j := by unfold pF; by_cases e : j = c <;> simp [upN, e]
theorem pF_endA {B : CrB} {x : CA} {c j : Nat} {q : AlS} {s : MS} {cl : Int} : pF B { x with s := s, k := upN (upN x.k c (.al q)) c .idle, clock := cl } j = pF B { x with s := s, k := upN x.k c (.al q), clock := cl } j := by unfold pF; by_cases e : j = c <;> simp [upN, e]
theorem pA_endA {B : CrB} {x : CA} {c j : Nat} {q : CoS} {s : MS} {cl : Int} : pA B { x with s := s, k := upN (upN x.k c q) c .idle, clock := cl } j = if j = c then .pointer none else pA B x j := by unfold pA; by_cases e : j = c <;> simp [upN, e]
theorem steps_idle (orc : FuncId → Bool) (h : CrG own G n lim x B) (hc : c < 3) (hk : x.k c = .idle) (ho : x.o c = -1) : Wp ((E orc).cl 25 [P0 B.xb, .int .i64 c] G) (CrPost own G n lim B (x.steps (arN n lim) c) (.bool true)) := by
  have e : x.steps (arN n lim) c = x := by unfold CA.steps; rw [hk]
  rw [e]
  refine ⟨(.bool true, G), f25 (exL_ok Q orc) _ _ G _ ?_, rfl, own, B, rfl, rfl, Agr.refl _ _, ModT.refl _ _ _, h⟩
  have hox := h.cx.obj
  have hoo := h.co.obj
  rcases (show c = 0 ∨ c = 1 ∨ c = 2 by omega) with rfl | rfl | rfl <;> simp [s25, hox, hoo, crX, ho]
theorem steps_fe (orc : FuncId → Bool) (hto : orc 60 = false) (h : CrG own G n lim x B) (hI : InvA n lim K x F T) (hK : K ≤ 100000) (hc : c < 3) {p : FeS} (hk : x.k c = .fe p) : Wp ((E orc).cl 25 [P0 B.xb, .int .i64 c] G) (CrPost own G n lim B (x.steps (arN n lim) c) (.bool true)) := by
  have hA := arN_ok hI.ri.n1 hI.ri.lm
  have hck := hI.ck
  have hok := hI.ri.ok c hc
  rw [hk] at hok
  obtain ⟨q1, q2⟩ : 0 ≤ x.o c ∧ x.o c < x.calls.length := by
    rcases hI.op c hc with ⟨q, _⟩ | ⟨_, _, q⟩
    · rw [hk] at q; cases q
    · exact q
  obtain ⟨k, ho⟩ := Int.eq_ofNat_of_zero_le q1
  have hkl : k < x.calls.length := by omega
  have hw : IntKind.wrap .i64 (x.clock + 1) = x.clock + 1 := wrap64 (by omega) (by omega)
  obtain ⟨Gt, hGt⟩ : ∃ Gt, Gt = ((G.put B.xb ⟨crX n lim { x with clock := x.clock + 1 } B, 1, false, 1⟩).room 13).room 13 := ⟨_, rfl⟩
  obtain ⟨h1, m1, n1⟩ := h.tick 26 (G1 := Gt) (by rw [hGt]; rfl)
  have hcr := h1.cr c hc
  simp only [hk] at hcr
  obtain ⟨htw, hfr⟩ := hcr
  obtain ⟨own2, G36, e36, w36, r36⟩ := free_ok orc hto h1.hm hI.sk hA htw.lb htw.ld (by rw [htw.tb]; omega) (by rw [htw.td]; omega) htw.ne hok hfr
  have htw2 := htw.to w36.nx w36.stp.agr
  obtain ⟨h2, m2⟩ := h1.run hc htw (y0 := .fe (p.step (arN n lim) x.s).1) w36 (by simp [pA, upN, hk]) (by simp [pF, upN, hk]) ⟨htw2, r36⟩
  have ag2 : Agr own own2 G := grown_agr.trans w36.stp.agr m1.nx
  have mm2 : ModT crT own G G36 := ModT.trans (ModT.mono (us := crT) m1 (by decide)) grown_agr (ModT.mono (us := crT) m2 (up5 hc))
  have hox := h.cx.obj
  have hoo := h.co.obj
  have hof := h.cf.obj
  have hfb : pF B x c = P0 (B.b c) := by unfold pF; rw [hk]
  have hof1 : Gt.obj B.fb = some ⟨[pF B x 0, pF B x 1, pF B x 2], 1, false, 1⟩ := h1.cf.obj
  have hoo1 : Gt.obj B.ob = some ⟨[.int .i64 (x.o 0), .int .i64 (x.o 1), .int .i64 (x.o 2)], 1, false, 1⟩ := h1.co.obj
  have n36 := w36.nx
  rcases h.hc.2 with ⟨_, h0⟩ | ⟨cb, op, hcv, _, hcb, hco⟩
  · omega
  have hk0 : (0 : Int) ≤ k := by omega
  have hkn : ¬ (k : Int) < 0 := by omega
  have hk1 : (k : Int) < x.calls.length := by omega
  have nxb : ∀ {b' t'}, own b' = t' → t' ≠ 1 → ¬ b' = B.xb := fun k hn e => hn (by rw [← k, e]; exact h.cx.tag)
  have nob := nxb h.co.tag (by decide)
  have nfb := nxb h.cf.tag (by decide)
  have ncb := nxb (h.tc cb ⟨_, _, _, hcv, rfl⟩) (by decide)
  by_cases hov : (p.step (arN n lim) x.s).1.over = true
  · rw [hov] at e36
    have hox2 := h2.cx.obj
    have hoo2 := h2.co.obj
    have hof2 := h2.cf.obj
    obtain ⟨hfl2, ⟨_, h0⟩ | ⟨cb2, op2, hcv2, _, hcb2, hco2⟩⟩ := h2.hc
    · have : x.calls.length = 0 := h0
      omega
    have hcc : cb2 = cb := by
      have e := hcv2
      rw [hcv] at e
      injection e with e1
      injection e1 with e2
      injection e2 with e3
      exact e3.symm
    rw [hcc] at hco2 hcb2
    have tcb : own2 cb = 4 := h2.tc cb ⟨_, _, _, hcv, rfl⟩
    have k1 : ¬ cb = B.fb := fun e => h2.cf.ne tcb (by decide) e.symm
    have k2 : ¬ cb = B.ob := fun e => h2.co.ne tcb (by decide) e.symm
    have k3 : ¬ B.fb = B.ob := h2.cf.ne h2.co.tag (by decide)
    have k4 : ¬ B.ob = cb := fun e => k2 e.symm
    have k5 : ¬ B.fb = cb := fun e => k1 e.symm
    have k6 : ¬ B.ob = B.fb := fun e => k3 e.symm
    have k7 : ¬ B.ab = cb := h2.ca.ne tcb (by decide)
    have k8 : ¬ B.ab = B.fb := h2.ca.ne h2.cf.tag (by decide)
    have k9 : ¬ B.ab = B.ob := h2.ca.ne h2.co.tag (by decide)
    have k10 : ¬ B.xb = cb := h2.cx.ne tcb (by decide)
    have k11 : ¬ B.xb = B.fb := h2.cx.ne h2.cf.tag (by decide)
    have hfl := rSp.flat_length x.calls
    simp only [rSp_sz] at hfl hco2
    have l1 : k * 10 + 2 < (rSp.flat x.calls).length := by omega
    have s1 : (rSp.flat x.calls).set (k * 10 + 2) (.int .i64 (x.clock + 1)) = rSp.flat (x.calls.modify k fun z => { z with to := x.clock + 1 }) := by
      rw [set_overw _ _ _ l1, modify_set _ _ _ hkl]
      exact RowE.flat_part rSp x.calls hkl _ (f := 2) (by simp [overw]) (by simp)
    have hst : x.steps (arN n lim) c = { x with s := (p.step (arN n lim) x.s).2, k := upN x.k c .idle, clock := x.clock + 1, o := upN x.o c (-1), calls := x.calls.modify (x.o c).toNat fun z => { z with to := x.clock + 1 } } := by
      unfold CA.steps; rw [hk]; simp only; rw [if_pos hov]
    have post : ∀ fc oc : List Value, fc = [if 0 = c then .pointer none else pF B x 0, if 1 = c then .pointer none else pF B x 1, if 2 = c then .pointer none else pF B x 2] → oc = [.int .i64 (upN x.o c (-1) 0), .int .i64 (upN x.o c (-1) 1), .int .i64 (upN x.o c (-1) 2)] →
        CrPost own G n lim B (x.steps (arN n lim) c) (.bool true) (.bool true, (((G36.room 22).put cb ⟨rSp.flat (x.calls.modify k fun z => { z with to := x.clock + 1 }), 10, op2, 1⟩).put B.fb ⟨fc, 1, false, 1⟩).put B.ob ⟨oc, 1, false, 1⟩) := fun fc oc hfc hoc => by
      generalize hG9 : GS.put _ B.ob _ = G9
      have m9 : ModT [2, 4, 14, 16] own2 G36 G9 := by
        rw [← hG9]
        refine ModT.put (ModT.put (ModT.put (ModP.room (ModT.refl _ _ _) _) (.inl ?_) _) (.inl ?_) _) (.inl ?_) _
        · rw [tcb]; decide
        · rw [h2.cf.tag]; decide
        · rw [h2.co.tag]; decide
      have fin := h2.fin hc (G' := G9) (calls' := x.calls.modify k fun z => { z with to := x.clock + 1 }) m9 (by
        have e2 := h2.ca.obj
        rw [← hG9]
        simp [k7, k8, k9]
        rw [e2]
        simp only [pA_end]) (by rw [← hG9]; simp [k3]; rw [hfc]; simp only [pF_end]) (by rw [← hG9]; simp; rw [hoc]) ⟨by rw [rSp.flat_length], .inr ⟨cb, op2, by rw [hcv]; simp, Nat.zero_le _, Nat.lt_of_lt_of_le hcb2 m9.nx, by rw [← hG9]; simp [k1, k2]⟩⟩
      refine ⟨rfl, own2, B, rfl, rfl, ag2, ModT.trans mm2 ag2 (ModT.mono (us := crT) m9 (by decide)), ?_⟩
      rw [hst]
      simp only [upN_up] at fin
      have hto : (x.o c).toNat = k := by rw [ho]; rfl
      rw [hto]
      exact fin
    have eX : crX n lim { x with clock := x.clock + 1 } B = [.int .i64 0, .int .i64 1, .int .i64 n, .int .i64 (1 + n), .int .i64 (1 + 2 * n), .int .i64 lim, P0 B.m, .slice (some ⟨B.ab, 0, none⟩) 3 3, .slice (some ⟨B.fb, 0, none⟩) 3 3, B.hv, .slice (some ⟨B.bb, 0, none⟩) 3 3, B.cv, .slice (some ⟨B.ob, 0, none⟩) 3 3, .int .i64 (x.clock + 1)] := rfl
    have hox2' : G36.obj B.xb = some ⟨crX n lim { x with clock := x.clock + 1 } B, 1, false, 1⟩ := hox2
    have hoo2' : G36.obj B.ob = some ⟨[.int .i64 (x.o 0), .int .i64 (x.o 1), .int .i64 (x.o 2)], 1, false, 1⟩ := hoo2
    have hof2' : ∃ f0 f1 f2, G36.obj B.fb = some ⟨[f0, f1, f2], 1, false, 1⟩ ∧ (0 ≠ c → f0 = pF B x 0) ∧ (1 ≠ c → f1 = pF B x 1) ∧ (2 ≠ c → f2 = pF B x 2) := ⟨_, _, _, hof2, fun q => pF_other q, fun q => pF_other q, fun q => pF_other q⟩
    obtain ⟨f0, f1, f2, hof2', g0, g1, g2⟩ := hof2'
    rw [eX, hcv] at hGt hox2'
    refine Wp.ref (f25 (exL_ok Q orc) _ _ G) ?_
    rcases (show c = 0 ∨ c = 1 ∨ c = 2 by omega) with rfl | rfl | rfl
    · rw [g1 (by decide), g2 (by decide)] at hof2'
      simp [-Int.natCast_add, -overw_s, s25, hox, hoo, hof, crX, ho, hw, hcv, hk0, hkn, hk1, hkl, hfb, nob, nfb, ← hGt, hof1, hoo1, e36, hox2', hoo2', hof2', hco2, k1, k2, k3, k4, k5, k6, k10, k11, l1, s1]
      refine post _ _ ?_ ?_
      · simp
      · simp [upN]
    · rw [g0 (by decide), g2 (by decide)] at hof2'
      simp [-Int.natCast_add, -overw_s, s25, hox, hoo, hof, crX, ho, hw, hcv, hk0, hkn, hk1, hkl, hfb, nob, nfb, ← hGt, hof1, hoo1, e36, hox2', hoo2', hof2', hco2, k1, k2, k3, k4, k5, k6, k10, k11, l1, s1]
      refine post _ _ ?_ ?_
      · simp
      · simp [upN]
    · rw [g0 (by decide), g1 (by decide)] at hof2'
      simp [-Int.natCast_add, -overw_s, s25, hox, hoo, hof, crX, ho, hw, hcv, hk0, hkn, hk1, hkl, hfb, nob, nfb, ← hGt, hof1, hoo1, e36, hox2', hoo2', hof2', hco2, k1, k2, k3, k4, k5, k6, k10, k11, l1, s1]
      refine post _ _ ?_ ?_
      · simp
      · simp [upN]
  · have hov' : (p.step (arN n lim) x.s).1.over = false := by simpa using hov
    rw [hov'] at e36
    have hst : x.steps (arN n lim) c = { x with s := (p.step (arN n lim) x.s).2, k := upN x.k c (.fe (p.step (arN n lim) x.s).1), clock := x.clock + 1 } := by
      unfold CA.steps; rw [hk]; simp only; rw [if_neg hov]
    rw [hst]
    refine ⟨(.bool true, G36), f25 (exL_ok Q orc) _ _ G _ ?_, rfl, own2, B, rfl, rfl, ag2, mm2, h2⟩
    have eX : crX n lim { x with clock := x.clock + 1 } B = [.int .i64 0, .int .i64 1, .int .i64 n, .int .i64 (1 + n), .int .i64 (1 + 2 * n), .int .i64 lim, P0 B.m, .slice (some ⟨B.ab, 0, none⟩) 3 3, .slice (some ⟨B.fb, 0, none⟩) 3 3, B.hv, .slice (some ⟨B.bb, 0, none⟩) 3 3, B.cv, .slice (some ⟨B.ob, 0, none⟩) 3 3, .int .i64 (x.clock + 1)] := rfl
    rw [eX, hcv] at hGt
    rcases (show c = 0 ∨ c = 1 ∨ c = 2 by omega) with rfl | rfl | rfl <;> simp [-Int.natCast_add, s25, hox, hoo, hof, crX, ho, hw, hcv, hk0, hkn, hk1, hkl, hfb, nob, nfb, ← hGt, hof1, hoo1, e36]
end
end Go.Proofs.Ytfmkihikmlcimaa.Lift

