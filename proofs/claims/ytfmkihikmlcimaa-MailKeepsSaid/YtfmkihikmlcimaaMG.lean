/- contracts of the program's functions -/
import Derived.Test.YtfmkihikmlcimaaMF
import Derived.Test.YtfmkihikmlcimaaMC
set_option linter.unusedVariables false
set_option linter.unusedSimpArgs false
set_option linter.unnecessarySimpa false
set_option maxRecDepth 20000
namespace Go.Proofs.Ytfmkihikmlcimaa.Lift
open Go Go.Proofs.Ytfmkihikmlcimaa.Gh Go.Proofs
section
variable {a n D T K H tk a' n' : Nat} {q th l : List Int} {s s' : MS} {v e most : Int} {p p' : PuS} {d : DnS}
theorem rgN_ok (hn : 1 ≤ n) (h6 : n ≤ 6) : (rgN a n).ok := ⟨by show (1 : Int) ≤ (n : Int); omega, by show (n : Int) ≤ 4096; omega⟩
theorem InvM.slotat (h : InvM a n D T K q H s) {t : Nat} (h1 : D ≤ t) (h2 : t < D + n) : s.at' (placeI (rgN a n) (t : Int)) = wordN n D q t := by
  have hl := h.len
  have n1 := h.n1
  have hm : t % n < n := Nat.mod_lt _ (by omega)
  rw [place_n h.n1 h.n6 h.a9]
  unfold MS.at'
  rw [if_pos (by omega), Int.toNat_natCast, h.slot t h1 h2]
  rfl
/-- what is in the ring -/
theorem allN_q (h : InvM a n D T K q H s) (hK : K ≤ 900000) : ∀ (k j : Nat), j + k = n → j ≤ q.length → allN (rgN a n) s k ((D + j : Nat) : Int) = q.drop j
  | 0, j, hj, hq => by
    have := h.qn
    have : j = q.length := by omega
    subst this
    simp [allN]
  | k + 1, j, hj, hq => by
    have n1 := h.n1
    have n6 := h.n6
    have hsm := h.small
    have hqn := h.qn
    have hat := h.slotat (t := D + j) (by omega) (by omega)
    have hlap := lap_n (a := a) n1 (t := D + j) (by omega)
    have hw : IntKind.wrap .u64 (((D + j : Nat) : Int) + 1) = ((D + (j + 1) : Nat) : Int) := by rw [wrap_u64]; omega
    unfold allN
    rw [hat, hlap]
    by_cases hlt : j < q.length
    · have hz : q[j]? = some q[j] := List.getElem?_eq_getElem hlt
      have hv := h.qv q[j] (List.getElem_mem hlt)
      have hwd : wordN n D q (D + j) = (((D + j) / n : Nat) : Int) * 4294967296 + 65536 + q[j] := by
        unfold wordN
        rw [if_pos (by omega), show D + j - D = j by omega, hz]; rfl
      rw [hwd, full_f _ _ hv.1 hv.2, if_pos (by simp), hw, allN_q h hK k (j + 1) (by omega) (by omega)]
      have he : ((((D + j) / n : Nat) : Int) * 4294967296 + 65536 + q[j]) % 65536 = q[j] := by omega
      rw [he]
      exact (List.drop_eq_getElem_cons hlt).symm
    · have hwd : wordN n D q (D + j) = (((D + j) / n : Nat) : Int) * 4294967296 := by
        unfold wordN
        rw [if_neg (by omega)]
      rw [hwd, full_e, if_neg (by simp), List.drop_of_length_le (by omega)]
theorem InvM.headat (h : InvM a n D T K q H s) : s.at' (rgN a n).head = (H : Int) := by
  have hl := h.len
  unfold MS.at'
  rw [if_pos (by show (0 : Int) ≤ (a : Int) ∧ (a : Int) < _; omega)]
  show (s.W[(a : Int).toNat]?).getD 0 = _
  rw [Int.toNat_natCast, h.head]; rfl
theorem allI_q (h : InvM a n D T K q D s) (hK : K ≤ 900000) : allI (rgN a n) s = q := by
  unfold allI
  rw [if_pos (rgN_ok h.n1 h.n6), h.headat]
  have := allN_q h hK n 0 (by omega) (by omega)
  simpa [rgN] using this
/-- while the first one is just going out, nothing is to be seen -/
theorem allI_half (h : InvM a n (H + 1) T K q H s) (hK : K ≤ 900000) : allI (rgN a n) s = [] := by
  have n1 := h.n1
  have n6 := h.n6
  have hsm := h.small
  unfold allI
  rw [if_pos (rgN_ok h.n1 h.n6), h.headat]
  show allN (rgN a n) s ((n : Int).toNat) _ = []
  rw [Int.toNat_natCast]
  obtain ⟨k, rfl⟩ : ∃ k, n = k + 1 := ⟨n - 1, by omega⟩
  have hat := h.slotat (t := H + (k + 1)) (by omega) (by omega)
  have hpl : placeI (rgN a (k + 1)) ((H + (k + 1) : Nat) : Int) = placeI (rgN a (k + 1)) (H : Int) := by
    rw [place_n n1 n6 h.a9, place_n n1 n6 h.a9, Nat.add_mod_right]
  rw [hpl] at hat
  unfold allN
  have hd : (H + (k + 1)) / (k + 1) = H / (k + 1) + 1 := Nat.add_div_right _ (by omega)
  have hlap := lap_n (a := a) n1 (t := H) (by omega)
  rw [hat, hlap]
  unfold wordN
  rw [hd]
  split
  · have := get_q h.qv (H + (k + 1) - (H + 1))
    rw [full_f _ _ this.1 this.2, if_neg (by simp; omega)]
  · rw [full_e, if_neg (by simp)]
end
/-! ### The crew -/
structure CM where
  s : MS
  sd : Nat → Option SdS
  to : Nat → Int
  v : Nat → Int
  dn : Nat → Option DnS
  th : Nat → List Int
  tk : Nat → Int
  gn : Nat → Int
  hf : Nat → Bool
  nx : Int
def bas (n c : Nat) : Nat := 3 + c * (n + 2)
theorem bas_apart {n c c' : Nat} (h : c < 2) (h' : c' < 2) (hn : c ≠ c') : bas n c + 2 + n ≤ bas n c' ∨ bas n c' + 2 + n ≤ bas n c := by
  unfold bas
  rcases (show c = 0 ∨ c = 1 by omega) with rfl | rfl <;> rcases (show c' = 0 ∨ c' = 1 by omega) with rfl | rfl <;> omega
instance (a n : Nat) (s : MS) : Decidable (landsI a n s) := by unfold landsI; exact inferInstance
/-- what one who sends is within -/
inductive SdI (n : Nat) (x : CM) (D T : Nat → Nat) (i : Nat) : Prop where
  | none : x.sd i = none → SdI n x D T i
  | some (p : PuS) (e : Int) (c : Nat) : x.sd i = some (.go p) → p.ok → x.to i = (c : Int) → c < 2 → InvP (bas n c) n (D c) (T c) (x.th c).length (x.v i) e p → 0 ≤ x.v i → x.v i < x.nx → (e = 14 → x.v i ∉ x.th c) → (e = 0 → x.v i ∈ x.th c) → SdI n x D T i
inductive DnI (n K : Nat) (x : CM) (D H tk : Nat → Nat) (c : Nat) : Prop where
  | none : x.dn c = none → D c = H c → tk c = H c → DnI n K x D H tk c
  | some (d : DnS) : x.dn c = some d → d.ok K → InvD (bas n c) n (D c) (H c) (tk c) (x.th c) d → DnI n K x D H tk c
structure InvC (n K : Nat) (x : CM) (D T H tk : Nat → Nat) : Prop where
  n1 : 1 ≤ n ∧ n ≤ 4
  len : x.s.W.length = 3 + 2 * (n + 2)
  sk : x.s.ok
  box : ∀ c, c < 2 → BoxI (bas n c) n K (D c) (T c) (H c) (x.th c) x.s
  gn : ∀ c, c < 2 → x.gn c = (H c : Int)
  tkn : ∀ c, c < 2 → x.tk c = (tk c : Int)
  hf : ∀ c, c < 2 → D c = H c + (if x.hf c = true then 1 else 0)
  sd : ∀ i, i < 3 → SdI n x D T i
  df : ∀ i j, i < 3 → j < 3 → i ≠ j → x.sd i ≠ none → x.sd j ≠ none → x.v i ≠ x.v j
  fr : ∀ c, c < 2 → ∀ w ∈ x.th c, w < x.nx
  dn : ∀ c, c < 2 → DnI n K x D H tk c
  nx : 0 ≤ x.nx ∧ x.nx ≤ K
def CM.begS (n : Nat) (x : CM) (i c : Nat) : CM := { x with to := upN x.to i (c : Int), v := upN x.v i x.nx, nx := x.nx + 1, sd := upN x.sd i (some (.go (.go 1 (rgN (bas n c) n) x.nx 0 0))) }
def CM.begD (n : Nat) (x : CM) (c : Nat) (most : Int) : CM := { x with dn := upN x.dn c (some (.fr (rgN (bas n c) n) most [] (.go 1 (rgN (bas n c) n) 0))) }
section
variable {n K : Nat} {x : CM} {D T H tk : Nat → Nat} {i c : Nat}
theorem InvC.begS (h : InvC n K x D T H tk) (hK : K ≤ 900000) (hi : i < 3) (hc : c < 2) (h0 : x.sd i = none) (h65 : x.nx ≤ 65535) : InvC n (K + 1) (x.begS n i c) D T H tk := by
  have hn := h.n1
  have hnx := h.nx
  refine ⟨h.n1, h.len, h.sk, fun c' hc' => (h.box c' hc').more (Nat.le_succ _), h.gn, h.tkn, h.hf, fun j hj => ?_, fun j k hj hk hne h1 h2 => ?_, fun c' hc' w hw => ?_, fun c' hc' => ?_, ?_⟩
  · by_cases e : j = i
    · subst e
      refine .some (.go 1 (rgN (bas n c) n) x.nx 0 0) 14 c (by simp [CM.begS, upN_same]) ⟨by decide, by decide, rgN_ok hn.1 (by omega), hnx.1, h65, U_zero, U_zero⟩ (by simp [CM.begS, upN_same]) hc ?_ (by simp [CM.begS, upN_same]; omega) (by simp [CM.begS, upN_same]; omega) (fun _ => ?_) (fun k => absurd k (by decide))
      · have : (x.begS n j c).v j = x.nx := by simp [CM.begS, upN_same]
        rw [this]
        exact .tail 0 0 rfl
      · have : (x.begS n j c).v j = x.nx := by simp [CM.begS, upN_same]
        rw [this]
        intro hm
        have := h.fr c hc _ hm
        omega
    · cases h.sd j hj with
      | none a => exact .none (by simp [CM.begS, upN_ne _ _ e, a])
      | some p e' c' a1 a2 a3 a4 a5 a6 a7 a8 a9 =>
        have hv : (x.begS n i c).v j = x.v j := by simp [CM.begS, upN_ne _ _ e]
        exact .some p e' c' (by simp [CM.begS, upN_ne _ _ e, a1]) a2 (by simp [CM.begS, upN_ne _ _ e, a3]) a4 (by rw [hv]; exact a5) (by rw [hv]; exact a6) (by rw [hv]; show _ < x.nx + 1; omega) (by rw [hv]; exact a8) (by rw [hv]; exact a9)
  · have old : ∀ j, j < 3 → j ≠ i → (x.begS n i c).sd j ≠ none → x.v j < x.nx := fun j hj e hs => by
      cases h.sd j hj with
      | none a => exact absurd (by simp [CM.begS, upN_ne _ _ e, a]) hs
      | some p e' c' a1 a2 a3 a4 a5 a6 a7 a8 a9 => exact a7
    by_cases e1 : j = i
    · subst e1
      have e2 : k ≠ j := Ne.symm hne
      have := old k hk e2 h2
      simp [CM.begS, upN_same, upN_ne _ _ e2]; omega
    · by_cases e2 : k = i
      · subst e2
        have := old j hj e1 h1
        simp [CM.begS, upN_same, upN_ne _ _ e1]; omega
      · simp [CM.begS, upN_ne _ _ e1, upN_ne _ _ e2] at h1 h2 ⊢
        exact h.df j k hj hk hne h1 h2
  · have := h.fr c' hc' w hw
    show w < x.nx + 1; omega
  · cases h.dn c' hc' with
    | none a b d => exact .none a b d
    | some d a b e => exact .some d a (b.mono (Nat.le_succ _)) e
  · show 0 ≤ x.nx + 1 ∧ x.nx + 1 ≤ ((K + 1 : Nat) : Int); omega
theorem InvC.more (h : InvC n K x D T H tk) : InvC n (K + 1) x D T H tk := ⟨h.n1, h.len, h.sk, fun c' hc' => (h.box c' hc').more (Nat.le_succ _), h.gn, h.tkn, h.hf, h.sd, h.df, h.fr, fun c' hc' => by
  cases h.dn c' hc' with
  | none a b d => exact .none a b d
  | some d a b e => exact .some d a (b.mono (Nat.le_succ _)) e, by have := h.nx; omega⟩
theorem InvC.begD (h : InvC n K x D T H tk) (hc : c < 2) (h0 : x.dn c = none) {most : Int} (hm : 1 ≤ most ∧ most ≤ 4) : InvC n (K + 1) (x.begD n c most) D T H tk := by
  have hn := h.n1
  have hb := h.more
  refine ⟨h.n1, h.len, h.sk, hb.box, h.gn, h.tkn, h.hf, fun j hj => ?_, h.df, h.fr, fun c' hc' => ?_, hb.nx⟩
  · cases h.sd j hj with
    | none a => exact .none a
    | some p e' c' a1 a2 a3 a4 a5 a6 a7 a8 a9 => exact .some p e' c' a1 a2 a3 a4 a5 a6 a7 a8 a9
  · by_cases e : c' = c
    · subst e
      cases h.dn c' hc' with
      | some d a b e => rw [a] at h0; cases h0
      | none a b d => exact .some (.fr (rgN (bas n c') n) most [] (.go 1 (rgN (bas n c') n) 0)) (by simp [CM.begD, upN_same]) ⟨rgN_ok hn.1 (by omega), ⟨by decide, by decide, rgN_ok hn.1 (by omega), U_zero⟩, rfl, by simp⟩ (.fr1 most 0 [] b (by simpa using d) (by simp) (by simp; omega) hm.2)
    · cases hb.dn c' hc' with
      | none a b d => exact .none (by simp [CM.begD, upN_ne _ _ e, a]) b d
      | some d a b e' => exact .some d (by simp [CM.begD, upN_ne _ _ e, a]) b e'
end
end Go.Proofs.Ytfmkihikmlcimaa.Lift

set_option linter.unusedVariables false
set_option linter.unusedSimpArgs false
set_option linter.unnecessarySimpa false
set_option maxRecDepth 20000
namespace Go.Proofs.Ytfmkihikmlcimaa.Lift
open Go Go.Proofs.Ytfmkihikmlcimaa.Gh Go.Proofs
noncomputable def CM.stepS (n : Nat) (x : CM) (i c : Nat) (p : PuS) : CM :=
  { x with s := (p.step x.s).2, sd := upN x.sd i (if (p.step x.s).1.over = true then none else some (.go (p.step x.s).1)), th := if landsI (bas n c) n (p.step x.s).2 then upN x.th c (x.th c ++ [x.v i]) else x.th }
noncomputable def CM.stepD (n : Nat) (x : CM) (c : Nat) (d : DnS) : CM :=
  { x with s := (d.step x.s).2, dn := upN x.dn c (if (d.step x.s).1.over = true then none else some (d.step x.s).1), gn := if (d.step x.s).2.kind = 2 ∧ (d.step x.s).2.at_ = (bas n c : Int) then upN x.gn c (x.gn c + 1) else x.gn, hf := if (d.step x.s).2.kind = 2 then upN x.hf c (decide ((d.step x.s).2.at_ ≠ (bas n c : Int))) else x.hf, tk := if (d.step x.s).1.over = true then upN x.tk c (x.tk c + (d.step x.s).1.vals.length) else x.tk }
section
variable {n K : Nat} {x : CM} {D T H tk : Nat → Nat} {i c : Nat} {p : PuS} {d : DnS}
theorem Fra.wlen {a n : Nat} {s s' : MS} (h : Fra a n s s') : s'.W.length = s.W.length := h.len
theorem InvC.stepS (h : InvC n K x D T H tk) (hK : K ≤ 65000) (hi : i < 3) (hc : c < 2) (h1 : x.sd i = some (.go p)) (h3 : x.to i = (c : Int)) :
    Fra (bas n c) n x.s (p.step x.s).2 ∧ ∃ T', InvC n (K + 1) (x.stepS n i c p) D T' H tk ∧ ((p.step x.s).1.over = true → ((p.step x.s).1.err = 0 ∧ x.v i ∈ (x.stepS n i c p).th c) ∨ ((p.step x.s).1.err = 7 ∧ x.v i ∉ (x.stepS n i c p).th c)) ∧ ((p.step x.s).1.over = false → muP (T' c) ((x.stepS n i c p).th c).length (p.step x.s).1 < muP (T c) (x.th c).length p) := by
  have hn := h.n1
  have hnx := h.nx
  cases h.sd i hi with
  | none a => rw [a] at h1; cases h1
  | some p0 e c0 a1 a2 a3 a4 a5 a6 a7 a8 a9 =>
    rw [h1] at a1
    cases a1
    have hcc : c0 = c := by rw [h3] at a3; omega
    subst hcc
    have hb := h.box c0 hc
    have hlen := hb.len
    have a5' : InvP (bas n c0) n (D c0) (T c0) (D c0 + ((x.th c0).drop (D c0)).length) (x.v i) e p := by rw [hlen]; exact a5
    obtain ⟨T1, t1, fra, res⟩ := pu_step hb.m a5' ⟨a6, by omega⟩ (by omega)
    rw [hlen] at res
    have hok := a2.step h.sk
    refine ⟨fra, upN T c0 T1, ?_⟩
    have tT : ∀ c, T c ≤ upN T c0 T1 c := fun c => by
      by_cases e : c = c0
      · subst e; rw [upN_same]; exact t1
      · rw [upN_ne _ _ e]; exact Nat.le_refl _
    have thc : ∀ c, c ≠ c0 → (x.stepS n i c0 p).th c = x.th c := fun c e => by
      unfold CM.stepS; simp only; split
      · exact upN_ne _ _ e
      · rfl
    -- what is left to show, by how the step came out
    have key : ∀ (th' : List Int), (th' = x.th c0 ∨ th' = x.th c0 ++ [x.v i]) → (x.stepS n i c0 p).th c0 = th' → BoxI (bas n c0) n (K + 1) (D c0) T1 (H c0) th' (p.step x.s).2 →
        ((p.step x.s).1.over = false → ∃ e', InvP (bas n c0) n (D c0) T1 th'.length (x.v i) e' (p.step x.s).1 ∧ (e' = 14 → x.v i ∉ th') ∧ (e' = 0 → x.v i ∈ th')) → InvC n (K + 1) (x.stepS n i c0 p) D (upN T c0 T1) H tk := by
      intro th' hth hth' hbox hsd
      have hin : ∀ w, w ∈ x.th c0 → w ∈ th' := fun w hw => by
        rcases hth with e | e
        · rw [e]; exact hw
        · rw [e]; exact List.mem_append_left _ hw
      have hle : (x.th c0).length ≤ th'.length := by
        rcases hth with e | e
        · rw [e]; exact Nat.le_refl _
        · rw [e]; simp
      have hout : ∀ w, w ≠ x.v i → w ∉ x.th c0 → w ∉ th' := fun w hw hn => by
        rcases hth with e | e
        · rw [e]; exact hn
        · rw [e]; intro hm
          rcases List.mem_append.1 hm with hm | hm
          · exact hn hm
          · exact hw (List.mem_singleton.1 hm)
      refine ⟨h.n1, by show (p.step x.s).2.W.length = _; rw [fra.len]; exact h.len, hok.2, fun c hc' => ?_, h.gn, h.tkn, h.hf, fun j hj => ?_, fun j k hj hk hne q1 q2 => ?_, fun c hc' w hw => ?_, fun c hc' => ?_, by show 0 ≤ x.nx ∧ x.nx ≤ ((K + 1 : Nat) : Int); omega⟩
      · by_cases e : c = c0
        · subst e; rw [hth', upN_same]; exact hbox
        · rw [thc c e, upN_ne _ _ e]; exact ((h.box c hc').more (Nat.le_succ _)).frame fra (bas_apart hc' hc e)
      · by_cases e1 : j = i
        · subst e1
          by_cases ho : (p.step x.s).1.over = true
          · exact .none (by simp [CM.stepS, upN_same, ho])
          · have ho' : (p.step x.s).1.over = false := by simpa using ho
            obtain ⟨e', k1, k2, k3⟩ := hsd ho'
            exact .some (p.step x.s).1 e' c0 (by simp [CM.stepS, upN_same, ho']) hok.1 h3 hc (by rw [hth', upN_same]; exact k1) a6 a7 (by rw [hth']; exact k2) (by rw [hth']; exact k3)
        · cases h.sd j hj with
          | none a => exact .none (by simp [CM.stepS, upN_ne _ _ e1, a])
          | some p' e' c' b1 b2 b3 b4 b5 b6 b7 b8 b9 =>
            have hvne : x.v j ≠ x.v i := h.df j i hj hi e1 (by rw [b1]; exact fun k => by cases k) (by rw [h1]; exact fun k => by cases k)
            by_cases e2 : c' = c0
            · subst e2
              exact .some p' e' c' (by simp [CM.stepS, upN_ne _ _ e1, b1]) b2 b3 b4 (by rw [hth', upN_same]; exact b5.mono (Nat.le_refl _) t1 hle) b6 b7 (fun k => by rw [hth']; exact hout _ hvne (b8 k)) (fun k => by rw [hth']; exact hin _ (b9 k))
            · exact .some p' e' c' (by simp [CM.stepS, upN_ne _ _ e1, b1]) b2 b3 b4 (by rw [thc c' e2, upN_ne _ _ e2]; exact b5) b6 b7 (by rw [thc c' e2]; exact b8) (by rw [thc c' e2]; exact b9)
      · have was : ∀ j, j < 3 → (x.stepS n i c0 p).sd j ≠ none → x.sd j ≠ none := fun j hj q => by
          by_cases e1 : j = i
          · subst e1; rw [h1]; exact fun k => by cases k
          · have : (x.stepS n i c0 p).sd j = x.sd j := by simp [CM.stepS, upN_ne _ _ e1]
            rw [this] at q; exact q
        exact h.df j k hj hk hne (was j hj q1) (was k hk q2)
      · by_cases e : c = c0
        · subst e
          rw [hth'] at hw
          rcases hth with e | e
          · rw [e] at hw; exact h.fr c hc' w hw
          · rw [e] at hw
            rcases List.mem_append.1 hw with hw | hw
            · exact h.fr c hc' w hw
            · rw [List.mem_singleton.1 hw]; exact a7
        · rw [thc c e] at hw; exact h.fr c hc' w hw
      · cases h.more.dn c hc' with
        | none a b d => exact .none a b d
        | some d a b e' =>
          refine .some d a b ?_
          by_cases e : c = c0
          · subst e
            rw [hth']
            rcases hth with q | q
            · rw [q]; exact e'
            · rw [q]; exact e'.app hb.le _
          · rw [thc c e]; exact e'
    cases res with
    | go b1 b2 b3 b4 =>
      rw [hlen] at b2 b3
      have ht : (x.stepS n i c0 p).th c0 = x.th c0 := by simp [CM.stepS, b4]
      refine ⟨key _ (.inl rfl) ht ⟨b1, hb.le⟩ fun _ => ⟨e, b2, a8, a9⟩, fun ho => ?_, fun _ => by rw [upN_same, ht]; exact b3⟩
      rw [b2.going.1] at ho; cases ho
    | laid b1 b2 b3 b4 b5 =>
      have ht : (x.stepS n i c0 p).th c0 = x.th c0 ++ [x.v i] := by simp [CM.stepS, b5, upN_same]
      have hl2 : D c0 + (List.drop (D c0) (x.th c0) ++ [x.v i]).length = (x.th c0 ++ [x.v i]).length := by simp; have := hb.le; omega
      have hd2 : (x.th c0 ++ [x.v i]).drop (D c0) = (x.th c0).drop (D c0) ++ [x.v i] := List.drop_append_of_le_length hb.le
      rw [hl2] at b3 b4
      refine ⟨key _ (.inr rfl) ht ⟨by rw [hd2]; exact b2, by have := hb.le; simp; omega⟩ fun _ => ⟨0, b3, fun k => absurd k (by decide), fun _ => by simp⟩, fun ho => ?_, fun _ => by rw [upN_same, ht]; exact b4⟩
      rw [b3.going.1] at ho; cases ho
    | full b1 b2 b3 b4 b5 =>
      have ht : (x.stepS n i c0 p).th c0 = x.th c0 := by simp [CM.stepS, b5]
      have ho : (p.step x.s).1.over = true := by rw [b3]; rfl
      refine ⟨key _ (.inl rfl) ht ⟨b4, hb.le⟩ (fun k => by rw [ho] at k; cases k), fun _ => .inr ⟨by rw [b3]; rfl, by rw [ht]; exact a8 b1⟩, (fun k => by rw [ho] at k; cases k)⟩
    | last b1 b2 b3 b4 =>
      have ht : (x.stepS n i c0 p).th c0 = x.th c0 := by simp [CM.stepS, b4]
      have ho : (p.step x.s).1.over = true := by rw [b2]; rfl
      refine ⟨key _ (.inl rfl) ht ⟨b3, hb.le⟩ (fun k => by rw [ho] at k; cases k), fun _ => .inl ⟨by rw [b2]; rfl, by rw [ht]; exact a9 b1⟩, (fun k => by rw [ho] at k; cases k)⟩
theorem InvC.stepD (h : InvC n K x D T H tk) (hK : K ≤ 65000) (hc : c < 2) (h1 : x.dn c = some d) :
    Fra (bas n c) n x.s (d.step x.s).2 ∧ ∃ D' H' tk', InvC n (K + 1) (x.stepD n c d) D' T H' tk' ∧ ((d.step x.s).1.over = true → (d.step x.s).1.err = 0 ∧ tk c + (d.step x.s).1.vals.length ≤ (x.th c).length ∧ (d.step x.s).1.vals = ((x.th c).drop (tk c)).take (d.step x.s).1.vals.length) ∧ ((d.step x.s).1.over = false → muD (d.step x.s).1 < muD d) := by
  have hn := h.n1
  have hnx := h.nx
  cases h.dn c hc with
  | none a _ _ => rw [a] at h1; cases h1
  | some d0 a1 a2 a3 =>
    rw [h1] at a1
    cases a1
    have hb := h.box c hc
    obtain ⟨fra, res⟩ := dn_step hb a3 (by omega)
    have hok := a2.step h.sk
    have hf := h.hf c hc
    have hgn := h.gn c hc
    have htk := h.tkn c hc
    refine ⟨fra, ?_⟩
    have key : ∀ (D1 H1 tk1 : Nat), D c ≤ D1 → (x.stepD n c d).gn c = (H1 : Int) → (x.stepD n c d).tk c = (tk1 : Int) → D1 = H1 + (if (x.stepD n c d).hf c = true then 1 else 0) → BoxI (bas n c) n (K + 1) D1 (T c) H1 (x.th c) (d.step x.s).2 →
        DnI n (K + 1) (x.stepD n c d) (upN D c D1) (upN H c H1) (upN tk c tk1) c → InvC n (K + 1) (x.stepD n c d) (upN D c D1) T (upN H c H1) (upN tk c tk1) := by
      intro D1 H1 tk1 dD k1 k2 k3 hbox hdn
      have oth : ∀ c', c' ≠ c → (x.stepD n c d).gn c' = x.gn c' ∧ (x.stepD n c d).tk c' = x.tk c' ∧ (x.stepD n c d).hf c' = x.hf c' ∧ (x.stepD n c d).dn c' = x.dn c' := fun c' e => by
        unfold CM.stepD
        refine ⟨?_, ?_, ?_, upN_ne _ _ e⟩
        · simp only; split
          · exact upN_ne _ _ e
          · rfl
        · simp only; split
          · exact upN_ne _ _ e
          · rfl
        · simp only; split
          · exact upN_ne _ _ e
          · rfl
      refine ⟨h.n1, by show (d.step x.s).2.W.length = _; rw [fra.len]; exact h.len, hok.2, fun c' hc' => ?_, fun c' hc' => ?_, fun c' hc' => ?_, fun c' hc' => ?_, fun j hj => ?_, h.df, h.fr, fun c' hc' => ?_, by show 0 ≤ x.nx ∧ x.nx ≤ ((K + 1 : Nat) : Int); omega⟩
      · by_cases e : c' = c
        · subst e; rw [upN_same, upN_same]; exact hbox
        · rw [upN_ne _ _ e, upN_ne _ _ e]; exact ((h.box c' hc').more (Nat.le_succ _)).frame fra (bas_apart hc' hc e)
      · by_cases e : c' = c
        · subst e; rw [upN_same]; exact k1
        · rw [upN_ne _ _ e, (oth c' e).1]; exact h.gn c' hc'
      · by_cases e : c' = c
        · subst e; rw [upN_same]; exact k2
        · rw [upN_ne _ _ e, (oth c' e).2.1]; exact h.tkn c' hc'
      · by_cases e : c' = c
        · subst e; rw [upN_same, upN_same]; exact k3
        · rw [upN_ne _ _ e, upN_ne _ _ e, (oth c' e).2.2.1]; exact h.hf c' hc'
      · cases h.sd j hj with
        | none a => exact .none a
        | some p' e' c' b1 b2 b3 b4 b5 b6 b7 b8 b9 =>
          refine .some p' e' c' b1 b2 b3 b4 ?_ b6 b7 b8 b9
          by_cases e : c' = c
          · subst e; rw [upN_same]; exact b5.mono dD (Nat.le_refl _) (Nat.le_refl _)
          · rw [upN_ne _ _ e]; exact b5
      · by_cases e : c' = c
        · subst e; exact hdn
        · cases h.more.dn c' hc' with
          | none a b d => exact .none (by rw [(oth c' e).2.2.2]; exact a) (by rw [upN_ne _ _ e, upN_ne _ _ e]; exact b) (by rw [upN_ne _ _ e, upN_ne _ _ e]; exact d)
          | some d a b e' => exact .some d (by rw [(oth c' e).2.2.2]; exact a) b (by rw [upN_ne _ _ e, upN_ne _ _ e, upN_ne _ _ e]; exact e')
    cases res with
    | reads b1 b2 b3 b4 b5 =>
      have ho := b4.mu.2.2
      refine ⟨_, _, _, key (D c) (H c) (tk c) (Nat.le_refl _) (by simp [CM.stepD, b1, hgn]) (by simp [CM.stepD, ho, htk]) (by simp [CM.stepD, b1]; exact hf) b3 (.some _ (by simp [CM.stepD, ho, upN_same]) hok.1 (by rw [upN_same, upN_same, upN_same]; exact b4)), (fun k => by rw [ho] at k; cases k), fun _ => b5⟩
    | clears b1 b2 b3 b4 b5 b6 =>
      have ho := b5.mu.2.2
      refine ⟨_, _, _, key (D c + 1) (H c) (tk c) (Nat.le_succ _) (by simp [CM.stepD, b1, b2, hgn]) (by simp [CM.stepD, ho, htk]) (by simp [CM.stepD, b1, b2, upN_same]; omega) b4 (.some _ (by simp [CM.stepD, ho, upN_same]) hok.1 (by rw [upN_same, upN_same, upN_same]; exact b5)), (fun k => by rw [ho] at k; cases k), fun _ => b6⟩
    | heads b1 b2 b3 b4 b5 b6 =>
      have ho := b5.mu.2.2
      refine ⟨_, _, _, key (D c) (H c + 1) (tk c) (Nat.le_refl _) (by simp [CM.stepD, b1, b2, upN_same, hgn]) (by simp [CM.stepD, ho, htk]) (by simp [CM.stepD, b1, b2, upN_same]; omega) b4 (.some _ (by simp [CM.stepD, ho, upN_same]) hok.1 (by rw [upN_same, upN_same, upN_same]; exact b5)), (fun k => by rw [ho] at k; cases k), fun _ => b6⟩
    | empty l b1 b2 b3 b4 b5 b6 =>
      have ho : (d.step x.s).1.over = true := by rw [b6]; rfl
      have hv : (d.step x.s).1.vals = l := by rw [b6]; rfl
      refine ⟨_, _, _, key (D c) (H c) (tk c + l.length) (Nat.le_refl _) (by simp [CM.stepD, b1, hgn]) (by simp [CM.stepD, ho, hv, upN_same, htk]) (by simp [CM.stepD, b1]; exact hf) b5 (.none (by simp [CM.stepD, ho, upN_same]) (by rw [upN_same, upN_same]; exact b2) (by rw [upN_same, upN_same]; exact b3)), fun _ => ⟨by rw [b6]; rfl, by rw [hv]; have := hb.le; omega, by rw [hv]; exact b4⟩, (fun k => by rw [ho] at k; cases k)⟩
    | whole l b1 b2 b3 b4 b5 b6 b7 =>
      have ho : (d.step x.s).1.over = true := by rw [b7]; rfl
      have hv : (d.step x.s).1.vals = l := by rw [b7]; rfl
      refine ⟨_, _, _, key (D c) (H c + 1) (tk c + l.length) (Nat.le_refl _) (by simp [CM.stepD, b1, b2, upN_same, hgn]) (by simp [CM.stepD, ho, hv, upN_same, htk]) (by simp [CM.stepD, b1, b2, upN_same]; omega) b6 (.none (by simp [CM.stepD, ho, upN_same]) (by rw [upN_same, upN_same]; exact b3) (by rw [upN_same, upN_same]; exact b4)), fun _ => ⟨by rw [b7]; rfl, by rw [hv]; have := hb.le; omega, by rw [hv]; exact b5⟩, (fun k => by rw [ho] at k; cases k)⟩
end
end Go.Proofs.Ytfmkihikmlcimaa.Lift

set_option linter.unusedVariables false
set_option linter.unusedSimpArgs false
set_option linter.unnecessarySimpa false
set_option maxRecDepth 20000
namespace Go.Proofs.Ytfmkihikmlcimaa.Lift
open Go Go.Proofs.Ytfmkihikmlcimaa.Gh Go.Proofs
/-! ### A crew over mailboxes in the heap -/
structure Cel (own : Nat → Nat) (G : GS) (b t : Nat) (cs : List Value) : Prop where
  lt : b < G.nx
  tag : own b = t
  obj : G.obj b = some ⟨cs, 1, false, 1⟩
section
variable {own own' own1 : Nat → Nat} {G G' G1 : GS} {b t : Nat} {ts : List Nat} {cs : List Value}
theorem Cel.to (h : Cel own G b t cs) (m : ModT ts own G G') (ht : t ∉ ts) (a : Agr own own' G) : Cel own' G' b t cs :=
  ⟨Nat.lt_of_lt_of_le h.lt m.nx, (a b h.lt).trans h.tag, (m.same h.lt (by rw [h.tag]; exact ht)).trans h.obj⟩
theorem Cel.ne {t' b' : Nat} (h : Cel own G b t cs) (k : own b' = t') (hn : t ≠ t') : ¬ b = b' := fun e => hn (by rw [← h.tag, ← k, e])
end
structure CrB where
  m : Nat
  xb : Nat
  sb : Nat
  ob : Nat
  vb : Nat
  db : Nat
  tb : Nat
  kb : Nat
  gb : Nat
  hb : Nat
  s : Nat → Nat
  d : Nat → Nat
  t : Nat → Value
def pS (B : CrB) (x : CM) (i : Nat) : Value := match x.sd i with
  | none => .pointer none
  | some _ => P0 (B.s i)
def pD (B : CrB) (x : CM) (c : Nat) : Value := match x.dn c with
  | none => .pointer none
  | some _ => P0 (B.d c)
def crX (n : Nat) (x : CM) (B : CrB) : List Value := [.int .i64 3, .int .i64 2, .int .i64 n, P0 B.m, .slice (some ⟨B.sb, 0, none⟩) 3 3, .slice (some ⟨B.ob, 0, none⟩) 3 3, .slice (some ⟨B.vb, 0, none⟩) 3 3, .slice (some ⟨B.db, 0, none⟩) 2 2, .slice (some ⟨B.tb, 0, none⟩) 2 2, .slice (some ⟨B.kb, 0, none⟩) 2 2, .slice (some ⟨B.gb, 0, none⟩) 2 2, .slice (some ⟨B.hb, 0, none⟩) 2 2, .int .i64 x.nx]
structure CrG (own : Nat → Nat) (G : GS) (n : Nat) (x : CM) (B : CrB) : Prop where
  cx : Cel own G B.xb 1 (crX n x B)
  cs : Cel own G B.sb 2 [pS B x 0, pS B x 1, pS B x 2]
  co : Cel own G B.ob 3 [.int .i64 (x.to 0), .int .i64 (x.to 1), .int .i64 (x.to 2)]
  cv : Cel own G B.vb 4 [.int .i64 (x.v 0), .int .i64 (x.v 1), .int .i64 (x.v 2)]
  cd : Cel own G B.db 14 [pD B x 0, pD B x 1]
  ct : Cel own G B.tb 15 [B.t 0, B.t 1]
  ck : Cel own G B.kb 16 [.int .i64 (x.tk 0), .int .i64 (x.tk 1)]
  cg : Cel own G B.gb 17 [.int .i64 (x.gn 0), .int .i64 (x.gn 1)]
  ch : Cel own G B.hb 18 [.bool (x.hf 0), .bool (x.hf 1)]
  hm : PM own G B.m x.s
  ht : ∀ c, c < 2 → OwT own (21 + c) G (B.t c) (x.th c)
  sd : ∀ i, i < 3 → ∀ p, x.sd i = some p → At own (5 + i) G (B.s i) ∧ SdP own (5 + i) G (B.s i) p
  dn : ∀ c, c < 2 → ∀ d, x.dn c = some d → At own (8 + c) G (B.d c) ∧ DnP own (8 + c) G (B.d c) d
def crT : List Nat := [1, 2, 3, 4, 5, 6, 7, 8, 9, 10, 14, 15, 16, 17, 18, 21, 22]
def MBn (n : Nat) : MB := ⟨3, 2, n⟩
theorem MBn_placed {n : Nat} (h : 1 ≤ n ∧ n ≤ 4) : (MBn n).placed := ⟨⟨by show (1 : Int) ≤ 2; decide, by show (2 : Int) ≤ 64; decide, by show (1 : Int) ≤ (n : Int); omega, by show (n : Int) ≤ 16; omega⟩, by show (0 : Int) ≤ 3; decide, by show (3 : Int) < 4096; decide⟩
theorem MBn_rg {n : Nat} (h : 1 ≤ n ∧ n ≤ 4) {c : Nat} (hc : c < 2) : (MBn n).rg (c : Int) = rgN (bas n c) n := by
  unfold MB.rg rgN bas MBn
  simp only
  have w1 : IntKind.wrap .i64 ((n : Int) + 2) = (n : Int) + 2 := wrap64 (by omega) (by omega)
  rcases (show c = 0 ∨ c = 1 by omega) with rfl | rfl
  · simp [w1, wrap64]
  · have w2 : IntKind.wrap .i64 (3 + ((n : Int) + 2)) = 3 + ((n : Int) + 2) := wrap64 (by omega) (by omega)
    have w3 : IntKind.wrap .i64 (3 + ((n : Int) + 2) + 1) = 3 + ((n : Int) + 2) + 1 := wrap64 (by omega) (by omega)
    have w4 : IntKind.wrap .i64 (3 + ((n : Int) + 2) + 2) = 3 + ((n : Int) + 2) + 2 := wrap64 (by omega) (by omega)
    simp [w1, w2, w3, w4]
section
variable {own own' own1 : Nat → Nat} {G G' G1 : GS} {n c i : Nat} {ts : List Nat} {x y : CM} {B B' : CrB} {v : Value} {L : List Int} {s' : MS}
theorem PM.mt {m : Nat} {s : MS} (h : PM own G m s) (q : ModT ts own G G') (ht : 10 ∉ ts) (a : Agr own own' G) : PM own' G' m s := (sepP m s).tag h q ht a
theorem OwT.mt {t : Nat} (h : OwT own t G v L) (m : ModT ts own G G') (ht : t ∉ ts) (a : Agr own own' G) : OwT own' t G' v L := h.to m.nx (fun g hg => m.same (h.lt hg) (by rw [h.tag g hg]; exact ht)) a
theorem sd_mt {t b : Nat} {p : SdS} (h : At own t G b ∧ SdP own t G b p) (m : ModT ts own G G') (ht : t ∉ ts) (a : Agr own own' G) : At own' t G' b ∧ SdP own' t G' b p := ⟨h.1.to m.nx a, h.2.to h.1 m.nx (fun g hg hk => m.same hg (by rw [hk]; exact ht)) a⟩
theorem dn_mt {t b : Nat} {p : DnS} (h : At own t G b ∧ DnP own t G b p) (m : ModT ts own G G') (ht : t ∉ ts) (a : Agr own own' G) : At own' t G' b ∧ DnP own' t G' b p := ⟨h.1.to m.nx a, h.2.to h.1 m.nx (fun g hg hk => m.same hg (by rw [hk]; exact ht)) a⟩
theorem CrG.to (h : CrG own G n x B) (m : ModT ts own G G') (a : Agr own own' G) (ht : ∀ t ∈ ts, t ∉ crT) : CrG own' G' n x B := by
  have no : ∀ {t}, t ∈ crT → t ∉ ts := fun h1 h2 => ht _ h2 h1
  refine ⟨h.cx.to m (no (by decide)) a, h.cs.to m (no (by decide)) a, h.co.to m (no (by decide)) a, h.cv.to m (no (by decide)) a, h.cd.to m (no (by decide)) a, h.ct.to m (no (by decide)) a, h.ck.to m (no (by decide)) a, h.cg.to m (no (by decide)) a, h.ch.to m (no (by decide)) a, h.hm.mt m (no (by decide)) a, fun c hc => (h.ht c hc).mt m (no ?_) a, fun i hi p hp => sd_mt (h.sd i hi p hp) m (no ?_) a, fun c hc d hd => dn_mt (h.dn c hc d hd) m (no ?_) a⟩
  · rcases (show c = 0 ∨ c = 1 by omega) with rfl | rfl <;> decide
  · rcases (show i = 0 ∨ i = 1 ∨ i = 2 by omega) with rfl | rfl | rfl <;> decide
  · rcases (show c = 0 ∨ c = 1 by omega) with rfl | rfl <;> decide
theorem CrG.ext (h : CrG own G n x B) (e : Ext G G') : CrG (grown own G 13) G' n x B := h.to (ts := []) (ModT.ext e) grown_agr (by simp)
theorem CrG.extO (h : CrG own G n x B) (e : Ext G G') : CrG own G' n x B := h.to (ts := []) (ModT.ext e) (Agr.refl _ _) (by simp)
/-- did a step swap a slot of a mailbox? -/
theorem arrived_ok (orc : FuncId → Bool) (h : CrG own G n x B) (hn : 1 ≤ n ∧ n ≤ 4) (hc : c < 2) : ∃ G', (E orc).cl 73 [P0 B.xb, .int .i64 c] G = some (.bool (decide (landsI (bas n c) n x.s)), G') ∧ Ext G G' := by
  have hox := h.cx.obj
  simp only [crX] at hox
  obtain ⟨G4, e4, x4⟩ := mbox_ok orc (MBn n) c G
  have hbx : (MBn n).box (c : Int) = .tuple #[.agg ⟨(rgN (bas n c) n).cells⟩, .bool true] := by
    unfold MB.box
    rw [if_pos ⟨MBn_placed hn, by omega, by show (c : Int) < 2; omega⟩, ring_rg, MBn_rg hn hc]
  rw [hbx] at e4
  have hz : z91 = [.int .i64 0, .int .i64 0, .int .i64 0, .int .i64 0] := rfl
  obtain ⟨G9, hG9⟩ : ∃ G9, G9 = (G4.push ⟨z91, 1, false, 1⟩).put G4.nx ⟨(rgN (bas n c) n).cells, 1, false, 1⟩ := ⟨_, rfl⟩
  have x9 : Ext G4 G9 := by rw [hG9]; exact ((Ext.refl _).push _).put (Nat.le_refl _) _
  have p9 : G9.obj G4.nx = some ⟨(rgN (bas n c) n).cells, 1, false, 1⟩ := by rw [hG9]; simp
  have n9 : G9.nx = G4.nx + 1 := by rw [hG9]; rfl
  obtain ⟨bb, rest, hm⟩ := (h.extO (x4.trans x9)).hm
  obtain ⟨G14, e14, x14⟩ := last_ok orc hm
  have hz2 : z79 = [.int .i64 0, .int .i64 0, .int .u64 0, .int .u64 0, .bool false] := rfl
  obtain ⟨G17, hG17⟩ : ∃ G17, G17 = (G14.push ⟨z79, 1, false, 1⟩).put G14.nx ⟨accV x.s, 1, false, 1⟩ := ⟨_, rfl⟩
  have x17 : Ext G14 G17 := by rw [hG17]; exact ((Ext.refl _).push _).put (Nat.le_refl _) _
  have p17 : G17.obj G14.nx = some ⟨accV x.s, 1, false, 1⟩ := by rw [hG17]; simp
  have n14 := x14.nx
  have q17 : G17.obj G4.nx = some ⟨(rgN (bas n c) n).cells, 1, false, 1⟩ := ((x14.trans x17).obj _ (by omega)).trans p9
  have ox9 := ((x4.trans x9).obj _ h.cx.lt).trans hox
  have hw : IntKind.wrap .i64 (((bas n c + 2 : Nat) : Int) + (n : Int)) = ((bas n c + 2 + n : Nat) : Int) := by
    rw [show ((bas n c + 2 : Nat) : Int) + (n : Int) = ((bas n c + 2 + n : Nat) : Int) by omega]
    have : bas n c ≤ 20 := by unfold bas; rcases (show c = 0 ∨ c = 1 by omega) with rfl | rfl <;> omega
    exact wrap64 (by omega) (by omega)
  refine ⟨G17, f73 (exL_ok Q orc) _ _ G _ ?_, (x4.trans x9).trans (x14.trans x17)⟩
  unfold landsI
  simp only [MB.v, MB.cells, MBn] at e4
  simp only [Rg.cells, rgN] at e4 hG9 p9 q17
  rw [hz] at hG9
  simp only [accV] at e14 hG17 p17
  rw [hz2] at hG17
  by_cases h1 : x.s.kind = 3
  · rw [h1] at e14 hG17 p17
    by_cases h2 : x.s.held = true
    · rw [h2] at e14 hG17 p17
      by_cases h3 : ((bas n c + 2 : Nat) : Int) ≤ x.s.at_
      · simp [-Int.natCast_add, s73, hox, e4, hz, splice_put, splice_end, splice_succ, ← hG9, ox9, e14, hz2, ← hG17, p17, q17, hw, h1, h2, h3]
      · simp [-Int.natCast_add, s73, hox, e4, hz, splice_put, splice_end, splice_succ, ← hG9, ox9, e14, hz2, ← hG17, p17, q17, hw, h1, h2, h3]
    · have h2' : x.s.held = false := by simpa using h2
      rw [h2'] at e14 hG17 p17
      simp [-Int.natCast_add, s73, hox, e4, hz, splice_put, splice_end, splice_succ, ← hG9, ox9, e14, hz2, ← hG17, p17, q17, hw, h1, h2']
  · simp [-Int.natCast_add, s73, hox, e4, hz, splice_put, splice_end, splice_succ, ← hG9, ox9, e14, hz2, ← hG17, p17, q17, hw, h1]
end
end Go.Proofs.Ytfmkihikmlcimaa.Lift

set_option linter.unusedVariables false
set_option linter.unusedSimpArgs false
set_option linter.unnecessarySimpa false
set_option maxRecDepth 20000
namespace Go.Proofs.Ytfmkihikmlcimaa.Lift
open Go Go.Proofs.Ytfmkihikmlcimaa.Gh Go.Proofs
noncomputable def CM.leaves (n : Nat) (x : CM) (c : Nat) : CM := { x with gn := if x.s.kind = 2 ∧ x.s.at_ = (bas n c : Int) then upN x.gn c (x.gn c + 1) else x.gn, hf := if x.s.kind = 2 then upN x.hf c (decide (x.s.at_ ≠ (bas n c : Int))) else x.hf }
section
variable {own own' own1 : Nat → Nat} {G G' G1 : GS} {n c i K : Nat} {ts : List Nat} {x y : CM} {B B' : CrB} {v : Value} {L : List Int} {s' : MS} {D T H tk : Nat → Nat}
theorem CrG.marks (h : CrG own G n x B) (m : ModT [17, 18] own G G') {g' : Nat → Int} {h' : Nat → Bool} (og : G'.obj B.gb = some ⟨[.int .i64 (g' 0), .int .i64 (g' 1)], 1, false, 1⟩) (oh : G'.obj B.hb = some ⟨[.bool (h' 0), .bool (h' 1)], 1, false, 1⟩) : CrG own G' n { x with gn := g', hf := h' } B := by
  have a := Agr.refl own G
  have nx := m.nx
  refine ⟨h.cx.to m (by decide) a, h.cs.to m (by decide) a, h.co.to m (by decide) a, h.cv.to m (by decide) a, h.cd.to m (by decide) a, h.ct.to m (by decide) a, h.ck.to m (by decide) a, ⟨Nat.lt_of_lt_of_le h.cg.lt nx, h.cg.tag, og⟩, ⟨Nat.lt_of_lt_of_le h.ch.lt nx, h.ch.tag, oh⟩, h.hm.mt m (by decide) a, fun c hc => (h.ht c hc).mt m (by simp; omega) a, fun i hi p hp => sd_mt (h.sd i hi p hp) m (by simp; omega) a, fun c hc d hd => dn_mt (h.dn c hc d hd) m (by simp; omega) a⟩
theorem leaves_ok (orc : FuncId → Bool) (h : CrG own G n x B) (hn : 1 ≤ n ∧ n ≤ 4) (hc : c < 2) (hg : 0 ≤ x.gn c ∧ x.gn c ≤ 1000000) : Wp ((E orc).cl 75 [P0 B.xb, .int .i64 c] G) fun q => q.1 = .tuple #[] ∧ ModT [17, 18] own G q.2 ∧ CrG own q.2 n (x.leaves n c) B := by
  have hox := h.cx.obj
  simp only [crX] at hox
  obtain ⟨G4, e4, x4⟩ := mbox_ok orc (MBn n) c G
  have hbx : (MBn n).box (c : Int) = .tuple #[.agg ⟨(rgN (bas n c) n).cells⟩, .bool true] := by
    unfold MB.box
    rw [if_pos ⟨MBn_placed hn, by omega, by show (c : Int) < 2; omega⟩, ring_rg, MBn_rg hn hc]
  rw [hbx] at e4
  have hz : z91 = [.int .i64 0, .int .i64 0, .int .i64 0, .int .i64 0] := rfl
  obtain ⟨G9, hG9⟩ : ∃ G9, G9 = (G4.push ⟨z91, 1, false, 1⟩).put G4.nx ⟨(rgN (bas n c) n).cells, 1, false, 1⟩ := ⟨_, rfl⟩
  have x9 : Ext G4 G9 := by rw [hG9]; exact ((Ext.refl _).push _).put (Nat.le_refl _) _
  have p9 : G9.obj G4.nx = some ⟨(rgN (bas n c) n).cells, 1, false, 1⟩ := by rw [hG9]; simp
  have n9 : G9.nx = G4.nx + 1 := by rw [hG9]; rfl
  obtain ⟨bb, rest, hm⟩ := (h.extO (x4.trans x9)).hm
  obtain ⟨G14, e14, x14⟩ := last_ok orc hm
  have hz2 : z79 = [.int .i64 0, .int .i64 0, .int .u64 0, .int .u64 0, .bool false] := rfl
  obtain ⟨G17, hG17⟩ : ∃ G17, G17 = (G14.push ⟨z79, 1, false, 1⟩).put G14.nx ⟨accV x.s, 1, false, 1⟩ := ⟨_, rfl⟩
  have x17 : Ext G14 G17 := by rw [hG17]; exact ((Ext.refl _).push _).put (Nat.le_refl _) _
  have p17 : G17.obj G14.nx = some ⟨accV x.s, 1, false, 1⟩ := by rw [hG17]; simp
  have n14 := x14.nx
  have n17 := x17.nx
  have q17 : G17.obj G4.nx = some ⟨(rgN (bas n c) n).cells, 1, false, 1⟩ := ((x14.trans x17).obj _ (by omega)).trans p9
  have ox9 := ((x4.trans x9).obj _ h.cx.lt).trans hox
  have y17 := (x4.trans x9).trans (x14.trans x17)
  have h17 := h.extO y17
  have ox17 := h17.cx.obj
  have og17 := h17.cg.obj
  have oh17 := h17.ch.obj
  simp only [crX] at ox17
  have hwg : IntKind.wrap .i64 (x.gn c + 1) = x.gn c + 1 := wrap64 (by omega) (by omega)
  have ngx : ¬ B.gb = B.xb := fun e => h.cx.ne h.cg.tag (by decide) e.symm
  have nxg : ¬ B.xb = B.gb := fun e => ngx e.symm
  have nhg : ¬ B.hb = B.gb := h.ch.ne h.cg.tag (by decide)
  have ngh : ¬ B.gb = B.hb := fun e => nhg e.symm
  have n4 : G.nx ≤ G4.nx := x4.nx
  have l1 : B.gb < G.nx := h.cg.lt
  have l2 : B.hb < G.nx := h.ch.lt
  have a1 : ¬ G4.nx = B.gb := by omega
  have a2 : ¬ G14.nx = B.gb := by omega
  have fin : ∀ (G' : GS) (g' : Nat → Int) (h' : Nat → Bool), ModT [17, 18] own G17 G' → G'.obj B.gb = some ⟨[.int .i64 (g' 0), .int .i64 (g' 1)], 1, false, 1⟩ → G'.obj B.hb = some ⟨[.bool (h' 0), .bool (h' 1)], 1, false, 1⟩ → x.leaves n c = { x with gn := g', hf := h' } → (Value.tuple #[] = Value.tuple #[] ∧ ModT [17, 18] own G G' ∧ CrG own G' n (x.leaves n c) B) := fun G' g' h' m og oh e => by
    rw [e]
    exact ⟨rfl, (ModT.ext y17).trans (Agr.refl _ _) m, h17.marks m og oh⟩
  refine Wp.ref (f75 (exL_ok Q orc) _ _ G) ?_
  simp only [MB.v, MB.cells, MBn] at e4
  simp only [Rg.cells, rgN] at e4 hG9 p9 q17
  rw [hz] at hG9
  simp only [accV] at e14 hG17 p17
  rw [hz2] at hG17
  have tg : own B.gb = 17 := h.cg.tag
  have th : own B.hb = 18 := h.ch.tag
  by_cases h1 : x.s.kind = 2
  · rw [h1] at e14 hG17 p17
    by_cases h2 : x.s.at_ = (bas n c : Int)
    · rw [h2] at e14 hG17 p17
      have hx : x.leaves n c = { x with gn := upN x.gn c (x.gn c + 1), hf := upN x.hf c false } := by unfold CM.leaves; simp [h1, h2]
      have post : ∀ gl hl : List Value, gl = [.int .i64 (upN x.gn c (x.gn c + 1) 0), .int .i64 (upN x.gn c (x.gn c + 1) 1)] → hl = [.bool (upN x.hf c false 0), .bool (upN x.hf c false 1)] →
          (Value.tuple #[] = Value.tuple #[] ∧ ModT [17, 18] own G (((G17.put B.gb ⟨gl, 1, false, 1⟩).room 12).put B.hb ⟨hl, 1, false, 1⟩) ∧ CrG own (((G17.put B.gb ⟨gl, 1, false, 1⟩).room 12).put B.hb ⟨hl, 1, false, 1⟩) n (x.leaves n c) B) := fun gl hl e1 e2 => by
        refine fin _ _ _ (ModT.put (ModP.room (ModT.put (ModT.refl _ _ _) (.inl (by rw [tg]; decide)) _) _) (.inl (by rw [th]; decide)) _) (by simp [ngh]; exact e1) (by simp; exact e2) hx
      rcases (show c = 0 ∨ c = 1 by omega) with rfl | rfl
      · simp [-Int.natCast_add] at e4
        simp [-Int.natCast_add, s75, sb75, hox, e4, hz, splice_put, splice_end, splice_succ, ← hG9, ox9, e14, hz2, ← hG17, p17, q17, ox17, og17, oh17, hwg]
        simp [-Int.natCast_add, j75_0, jb75_0, clip_t, nxg, nhg, a1, a2, ox17, oh17, p17, q17]
        have P := post _ _ rfl rfl
        simp [upN] at P
        simpa using P
      · simp [-Int.natCast_add] at e4
        simp [-Int.natCast_add, s75, sb75, hox, e4, hz, splice_put, splice_end, splice_succ, ← hG9, ox9, e14, hz2, ← hG17, p17, q17, ox17, og17, oh17, hwg]
        simp [-Int.natCast_add, j75_0, jb75_0, clip_t, nxg, nhg, a1, a2, ox17, oh17, p17, q17]
        have P := post _ _ rfl rfl
        simp [upN] at P
        simpa using P
    · have hx : x.leaves n c = { x with gn := x.gn, hf := upN x.hf c true } := by unfold CM.leaves; simp [h1, h2]
      have post : ∀ hl : List Value, hl = [.bool (upN x.hf c true 0), .bool (upN x.hf c true 1)] →
          (Value.tuple #[] = Value.tuple #[] ∧ ModT [17, 18] own G ((G17.room 12).put B.hb ⟨hl, 1, false, 1⟩) ∧ CrG own ((G17.room 12).put B.hb ⟨hl, 1, false, 1⟩) n (x.leaves n c) B) := fun hl e2 => by
        refine fin _ _ _ (ModT.put (ModP.room (ModT.refl _ _ _) _) (.inl (by rw [th]; decide)) _) (by simp [ngh]; exact og17) (by simp; exact e2) hx
      rcases (show c = 0 ∨ c = 1 by omega) with rfl | rfl
      · simp [-Int.natCast_add] at e4
        simp [-Int.natCast_add, s75, sb75, hox, e4, hz, splice_put, splice_end, splice_succ, ← hG9, ox9, e14, hz2, ← hG17, p17, q17, ox17, og17, oh17, hwg, h2]
        simp [-Int.natCast_add, j75_0, jb75_0, clip_t, nxg, nhg, a1, a2, ox17, oh17, p17, q17, h2]
        have P := post _ rfl
        simp [upN] at P
        simpa using P
      · simp [-Int.natCast_add] at e4
        simp [-Int.natCast_add, s75, sb75, hox, e4, hz, splice_put, splice_end, splice_succ, ← hG9, ox9, e14, hz2, ← hG17, p17, q17, ox17, og17, oh17, hwg, h2]
        simp [-Int.natCast_add, j75_0, jb75_0, clip_t, nxg, nhg, a1, a2, ox17, oh17, p17, q17, h2]
        have P := post _ rfl
        simp [upN] at P
        simpa using P
  · have hx : x.leaves n c = x := by unfold CM.leaves; simp [h1]
    simp [-Int.natCast_add, s75, sb75, hox, e4, hz, splice_put, splice_end, splice_succ, ← hG9, ox9, e14, hz2, ← hG17, p17, q17, ox17, h1]
    rw [hx]
    exact ⟨ModT.ext y17, h17⟩
/-- what lies in a mailbox is what came to be there, and is not out -/
theorem lies_ok (orc : FuncId → Bool) (h : CrG own G n x B) (hI : InvC n K x D T H tk) (hK : K ≤ 65000) (hc : c < 2) : ∃ G', (E orc).cl 43 [P0 B.xb, .int .i64 c] G = some (.bool true, G') ∧ Ext G G' := by
  have hn := hI.n1
  have hox := h.cx.obj
  simp only [crX] at hox
  have h11 := h.extO ((Ext.refl G).room 11)
  obtain ⟨w, G6, e6, x6, w6⟩ := mall_ok orc h11.hm hI.sk (MBn n) c
  have hall : mallI (MBn n) (c : Int) x.s = allI (rgN (bas n c) n) x.s := by
    unfold mallI
    rw [if_pos ⟨MBn_placed hn, by omega, by show (c : Int) < 2; omega⟩, MBn_rg hn hc]
  have hb := hI.box c hc
  have hle := hb.le
  have hlen := hb.len
  have hqn := hb.m.qn
  have hsm := hb.m.small
  have hf := hI.hf c hc
  have hgn := hI.gn c hc
  have y6 : Ext G (G6.room 16) := (((Ext.refl G).room 11).trans x6).room 16
  have h6 := h.extO y6
  have ox6 := h6.cx.obj
  have ot6 := h6.ct.obj
  have og6 := h6.cg.obj
  have oh6 := h6.ch.obj
  simp only [crX] at ox6
  have ow := (h6.ht c hc).ow
  have hHle : H c ≤ (x.th c).length := by split at hf <;> omega
  obtain ⟨v', ed, sd⟩ := ow.is.drop (k := .i64) (o := H c) hHle
  obtain ⟨ta, tc, etv⟩ := ow.is.len
  obtain ⟨va, vc, ev⟩ := sd.len
  have lv : ∀ t, ln Q true t v' = some (.int .i64 ((x.th c).length - H c : Nat)) := fun t => by rw [ev]; simp
  have w6' : OwR (rowsI .i64) (G.room 11).nx (G6.room 16) w (mallI (MBn n) (c : Int) x.s) := w6.ext ((Ext.refl G6).room 16)
  obtain ⟨wa, wc, ew⟩ := w6'.is.len
  simp only [MB.v, MB.cells, MBn] at e6
  have key : ∀ s : List Int, s.length ≤ 1000000 → mallI (MBn n) (c : Int) x.s = s → ∃ G52, (E orc).cl 14 [w, v'] (G6.room 16) = some (.bool (decide (s = (x.th c).drop (H c))), G52) ∧ Ext (G6.room 16) G52 := fun s hl hs => by
    rw [hs] at w6'
    exact same14 orc w6'.is sd (by omega)
  have ed' : slK 1 (B.t c) (some (.int .i64 (x.gn c))) none none (G6.room 16) = some v' := by rw [hgn]; simpa using ed
  by_cases hh : x.hf c = true
  · rw [hh, if_pos rfl] at hf
    rw [hf] at hb
    have hnil : mallI (MBn n) (c : Int) x.s = [] := by rw [hall]; exact allI_half hb.m (by omega)
    rw [hnil] at ew
    simp at ew
    have h1 : (1 : Int) ≤ ((x.th c).length - H c : Nat) := by omega
    have h2 : (((x.th c).length - H c : Nat) : Int) - 1 ≤ n := by simp at hqn; omega
    have hw : IntKind.wrap .i64 ((((x.th c).length - H c : Nat) : Int) - 1) = (((x.th c).length - H c : Nat) : Int) - 1 := wrap64 (by omega) (by omega)
    refine ⟨G6.room 16, f43 (exL_ok Q orc) _ _ G _ ?_, y6⟩
    rcases (show c = 0 ∨ c = 1 by omega) with rfl | rfl
    all_goals
      rw [etv] at ed' ot6
      simp at e6
      simp [s43, hox, e6, ox6, ot6, og6, oh6, hh, ed', ew, lv, h1, h2, hw]
  · have hh' : x.hf c = false := by simpa using hh
    rw [hh', if_neg (by decide), Nat.add_zero] at hf
    rw [hf] at hb hqn
    have hq : mallI (MBn n) (c : Int) x.s = (x.th c).drop (H c) := by rw [hall]; exact allI_q hb.m (by omega)
    obtain ⟨G52, e52, x52⟩ := key _ (by simp; omega) hq
    simp only [decide_true] at e52
    have ox52 := (x52.obj _ h6.cx.lt).trans ox6
    have h2 : (((x.th c).length - H c : Nat) : Int) ≤ n := by simp at hqn; omega
    refine ⟨G52, f43 (exL_ok Q orc) _ _ G _ ?_, y6.trans x52⟩
    rcases (show c = 0 ∨ c = 1 by omega) with rfl | rfl
    all_goals
      rw [etv] at ed' ot6
      simp at e6
      simp [s43, hox, e6, ox6, ot6, og6, oh6, hh', ed', e52, ox52, lv, h2]
end
end Go.Proofs.Ytfmkihikmlcimaa.Lift

