import Derived.Test.YtchempegmbidoaaO7
namespace Go.Proofs.Ytchempegmbidoaa.Lift
open Go Go.Proofs.Ytchempegmbidoaa.Gh Go.Proofs
set_option linter.unusedVariables false
set_option linter.unusedSimpArgs false
theorem c59_skip (orc : FuncId → Bool) (B : GS) (d s : Nat) (sl : Value) (L : List Int) (a0 x q nb l : Nat) (n : Int) (T0 : List Value)
    (hd : d < B.nx) (hBx : B.nx ≤ x) (hBq : B.nx ≤ q) (hBn : B.nx ≤ nb) (hBl : B.nl ≤ l) (hxq : x ≠ q) (hqn : q ≠ nb) (hT0 : T0.length = 21) (h05 : nth undef T0 5 = P1 q) (h03 : nth undef T0 3 = P1 nb) (rec : Lp)
    (hrec : rec = ⟨.ready, none, T0, [14], subAt [1, 0, 1, 1, 1, 0, 1, 0, 0] (bodyOf Try.f27), subAt [1, 0, 1, 1, 1, 0, 1, 0, 1] (bodyOf Try.f27)⟩) {G : GS} (hn : 0 < n) (hS : SkipAt B G d s sl L a0 x q nb l n rec 0) :
    ∃ G' r' e, (E orc).cl 59 [.func (.yield l) #[] #[], P1 x] G = some (.tuple #[], G') ∧ G'.loop l = some r' ∧ r'.st ≠ .busy ∧ jumpOf r'.pend = some e ∧ (e = .normal ∨ e = .exit 0) ∧ Mod [s] B G' ∧
      ∃ c : Nat, G'.obj q = some (I1 c) ∧ DrawsAt G' d s sl L (a0 + c) ∧ (c : Int) = min n (L.length - a0) := by
  have key : Wp (s59 orc (.func (.yield l) #[] #[]) (P1 x) G) fun r => r.1 = .tuple #[] ∧ ∃ r' e, r.2.loop l = some r' ∧ r'.st ≠ .busy ∧ jumpOf r'.pend = some e ∧ (e = .normal ∨ e = .exit 0) ∧ Mod [s] B r.2 ∧
      ∃ c : Nat, r.2.obj q = some (I1 c) ∧ DrawsAt r.2 d s sl L (a0 + c) ∧ (c : Int) = min n (L.length - a0) := by
    refine Wp.bX ((skip_lp orc B d s sl L a0 x q nb l n T0 hd hBx hBq hBn hBl hxq hqn hT0 h05 h03 rec hrec (L.length - a0) 0 _ G (by have := hS.dr.le; omega) hn hS ?_ ?_ ?_).mono ?_)
    · rfl
    · rfl
    · rfl
    · rintro ⟨e, T', G'⟩ ⟨c, h1, h2, h3, h4, h5⟩
      simp only at h1 h2 h3 h4
      rcases h1 with ⟨rfl, hl⟩ | ⟨rfl, hl⟩
      · simp only [ifE_same, Wp_some]
        exact ⟨trivial, rec, .normal, hl, by rw [hrec]; simp, by rw [hrec]; rfl, .inl rfl, h2, c, h3, h4, h5⟩
      · simp only [ifE_re, ifE_ret, Wp_some]
        exact ⟨trivial, stopped rec, .exit 0, hl, by simp, rfl, .inr rfl, h2, c, h3, h4, h5⟩
  obtain ⟨⟨v, G'⟩, h1, h2, r', e, h3⟩ := key
  simp only at h2
  subst h2
  exact ⟨G', r', e, c59 orc _ _ _ h1, h3⟩
theorem skip_ok (orc : FuncId → Bool) {G : GS} {d s a0 : Nat} {sl : Value} {L : List Int} (h : DrawsAt G d s sl L a0) (n : Int) :
    ∃ G' c, (E orc).cl 27 [P1 d, .int .i64 n] G = some (.int .i64 (c : Nat), G') ∧ Mod [s] G G' ∧ DrawsAt G' d s sl L (a0 + c) ∧ (c : Int) = max 0 (min n (L.length - a0)) := by
  have hsd := h.sd
  have hdn := h.dn
  have hle := h.le
  have key : Wp (s27 orc (P1 d) (.int .i64 n) G) fun r => ∃ c : Nat, r.1 = .int .i64 c ∧ Mod [s] G r.2 ∧ DrawsAt r.2 d s sl L (a0 + c) ∧ (c : Int) = max 0 (min n (L.length - a0)) := by
    have e1 : Ext G (G.push (I1 n)) := (Ext.refl G).push _
    have o1 : (G.push (I1 n)).obj G.nx = some (I1 n) := by simp
    have n1 : (G.push (I1 n)).nx = G.nx + 1 := rfl
    simp only [s27, mBox, bS_some, newBlk_eq, Value.cells]
    change Wp (bS ((E orc).cl 53 [P1 d] (G.push (I1 n))) _) _
    generalize G.push (I1 n) = G1 at *
    simp only [none_no orc (h.ext e1), bS_some, gd_true, ld_3, cell_of o1 (by simp), List.getElem?_cons_zero, bP_some, bin_leq, pickV_bool, Bool.false_eq_true, if_false]
    by_cases hn : n ≤ 0
    · simp only [decide_eq_true hn, ifV_true, Wp_some]
      exact ⟨0, rfl, e1.mod _, h.ext e1, by omega⟩
    · simp only [decide_eq_false hn, ifV_false, al_3, bS_some, newBlk_eq, st_3]
      have hst : storeN 1 G1.nx 0 (.int .i64 0) (G1.push (I1 0)) = some ((G1.push (I1 0)).put G1.nx (I1 0)) := by
        simp only [storeN, Value.cells]
        exact wr1_of (ob := I1 0) (by simp) rfl rfl (by simp)
      have e2 : Ext G ((G1.push (I1 0)).put G1.nx (I1 0)) := (e1.push _).put (by omega) _
      have o2 : ((G1.push (I1 0)).put G1.nx (I1 0)).obj (G.nx + 1) = some (I1 0) := by simp [n1]
      have p2 : ((G1.push (I1 0)).put G1.nx (I1 0)).obj G.nx = some (I1 n) := by simp [n1, o1]
      have n2 : ((G1.push (I1 0)).put G1.nx (I1 0)).nx = G.nx + 2 := by simp [n1]
      rw [hst, bP_some]
      generalize (G1.push (I1 0)).put G1.nx (I1 0) = G2 at *
      simp only [c54, s54, mBox, newBlk_eq, Value.cells, bS_some, xRange_func, n2, n1]
      generalize hrec : Lp.mk _ _ _ _ _ _ = rec
      have e3 : Ext G (G2.push ⟨[P1 d], 1, false, 1⟩) := e2.push _
      have x3 : (G2.push ⟨[P1 d], 1, false, 1⟩).obj (G.nx + 2) = some ⟨[P1 d], 1, false, 1⟩ := by simp [n2]
      have q3 : (G2.push ⟨[P1 d], 1, false, 1⟩).obj (G.nx + 1) = some (I1 0) := by simp [n2, o2]
      have m3 : (G2.push ⟨[P1 d], 1, false, 1⟩).obj G.nx = some (I1 n) := by simp [n2, p2]
      have n3 : (G2.push ⟨[P1 d], 1, false, 1⟩).nx = G.nx + 3 := by simp [n2]
      generalize G2.push ⟨[P1 d], 1, false, 1⟩ = G3 at *
      have hS : SkipAt G (G3.pushLoop rec) d s sl L a0 (G.nx + 2) (G.nx + 1) G.nx G3.nl n rec 0 :=
        ⟨(e3.mod _).pushLoop _, h.keep (by simp [n3]) (fun g hg => e3.obj g (by omega)), x3, q3, m3, by simp⟩
      obtain ⟨G5, r', e, hc, hl, hb, hj, he, hm, c, hq, hdr, hcc⟩ := c59_skip orc G d s sl L a0 (G.nx + 2) (G.nx + 1) G.nx G3.nl n _ hdn (by omega) (by omega) (by omega) e3.nl (by omega) (by omega) rfl rfl rfl rec hrec.symm (by omega) hS
      rw [show ([] ++ [Value.func (Fn.yield G3.nl) #[] #[]] ++ [Value.pointer (some ⟨G.nx + 2, 0, none⟩)]) = [Value.func (Fn.yield G3.nl) #[] #[], P1 (G.nx + 2)] from rfl, hc, xRangeEnd_some G3.nl _ _ _ hl hb hj]
      have hm' := hm.putLoop e3.nl (r'.setSt .exhausted)
      have hdr' : DrawsAt (G5.putLoop G3.nl (r'.setSt .exhausted)) d s sl L (a0 + c) := hdr.keep (Nat.le_refl _) (fun _ _ => rfl)
      have hcell : (G5.putLoop G3.nl (r'.setSt .exhausted)).cell (G.nx + 1) 0 = some (.int .i64 c) := by rw [cell_putLoop, cell_of hq (by simp)]; rfl
      rcases he with rfl | rfl
      · simp only [bX_some, ifE_normal, nth_zero', nth_succ', ld_3, hcell, bP_some, Wp_some]
        exact ⟨c, rfl, hm', hdr', by omega⟩
      · simp only [bX_some, ifE_en, ifE_same, nth_zero', nth_succ', ld_3, hcell, bP_some, Wp_some]
        exact ⟨c, rfl, hm', hdr', by omega⟩
  obtain ⟨⟨v, G'⟩, h1, c, h2, h3, h4, h5⟩ := key
  simp only at h2 h3 h4
  subst h2
  exact ⟨G', c, c27 orc _ _ _ h1, h3, h4, h5⟩
end Go.Proofs.Ytchempegmbidoaa.Lift
