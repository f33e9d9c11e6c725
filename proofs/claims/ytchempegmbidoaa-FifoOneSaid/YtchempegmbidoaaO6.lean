import Derived.Test.YtchempegmbidoaaO5
namespace Go.Proofs.Ytchempegmbidoaa.Lift
open Go Go.Proofs.Ytchempegmbidoaa.Gh Go.Proofs
set_option linter.unusedVariables false
set_option linter.unusedSimpArgs false
/-- what Next takes -/
def nextOf (L : List Int) (i : Nat) : Int := L[i]?.getD 0
theorem c59_end (orc : FuncId → Bool) {G : GS} {d s at_ x : Nat} {sl y : Value} {L : List Int} (h : DrawsAt G d s sl L at_) (hx : G.obj x = some ⟨[P1 d], 1, false, 1⟩) (he : at_ = L.length) : (E orc).cl 59 [y, P1 x] G = some (.tuple #[], G.room 16) := by
  have key : Wp (s59 orc y (P1 x) G) fun r => r = (.tuple #[], G.room 16) := by
    refine Wp.bX ((rest_end (y := y) orc h hx he ?_ ?_ ?_).mono ?_)
    · rfl
    · rfl
    · rfl
    · rintro ⟨e, T', G'⟩ ⟨h1, h2⟩
      simp only at h1 h2
      subst h1 h2
      simp
  obtain ⟨r, h1, rfl⟩ := key
  exact c59 orc _ _ _ h1
theorem c59_stop (orc : FuncId → Bool) {G G2 : GS} {d s at_ x l : Nat} {sl : Value} {L : List Int} (h : DrawsAt G d s sl L at_) (hx : G.obj x = some ⟨[P1 d], 1, false, 1⟩) (hxs : x ≠ s) (he : at_ < L.length)
    (hr : (E orc).rd l [.int .i64 L[at_]] (took G s sl at_) = some (.bool false, G2)) : (E orc).cl 59 [.func (.yield l) #[] #[], P1 x] G = some (.tuple #[], G2) := by
  have key : Wp (s59 orc (.func (.yield l) #[] #[]) (P1 x) G) fun r => r = (.tuple #[], G2) := by
    refine Wp.bX (rest_step orc h hx hxs he ?_ ?_ ?_ hr ?_)
    · rfl
    · rfl
    · rfl
    · simp
  obtain ⟨r, h1, rfl⟩ := key
  exact c59 orc _ _ _ h1
theorem next_ok (orc : FuncId → Bool) {G : GS} {d s at_ : Nat} {sl : Value} {L : List Int} (h : DrawsAt G d s sl L at_) :
    ∃ G', (E orc).cl 24 [P1 d] G = some (.int .i64 (nextOf L at_), G') ∧ Mod [s] G G' ∧ DrawsAt G' d s sl L (min (at_ + 1) L.length) := by
  have hsd := h.sd
  have hdn := h.dn
  have key : Wp (s24 orc (P1 d) G) fun r => r.1 = .int .i64 (nextOf L at_) ∧ Mod [s] G r.2 ∧ DrawsAt r.2 d s sl L (min (at_ + 1) L.length) := by
    have hst : storeN 1 G.nx 0 (.int .i64 0) (G.push ⟨[.int .i64 0], 1, false, 1⟩) = some ((G.push ⟨[.int .i64 0], 1, false, 1⟩).put G.nx ⟨[.int .i64 0], 1, false, 1⟩) := by
      simp only [storeN, Value.cells]
      exact wr1_of (ob := ⟨[.int .i64 0], 1, false, 1⟩) (by simp) rfl rfl (by simp)
    simp only [s24, al_3, bS_some, newBlk_eq, st_3, hst, bP_some]
    have e2 : Ext G ((G.push ⟨[.int .i64 0], 1, false, 1⟩).put G.nx ⟨[.int .i64 0], 1, false, 1⟩) := ((Ext.refl G).push _).put (Nat.le_refl _) _
    have n2 : ((G.push ⟨[.int .i64 0], 1, false, 1⟩).put G.nx ⟨[.int .i64 0], 1, false, 1⟩).nx = G.nx + 1 := rfl
    have o2 : ((G.push ⟨[.int .i64 0], 1, false, 1⟩).put G.nx ⟨[.int .i64 0], 1, false, 1⟩).obj G.nx = some ⟨[.int .i64 0], 1, false, 1⟩ := by simp
    generalize (G.push ⟨[.int .i64 0], 1, false, 1⟩).put G.nx ⟨[.int .i64 0], 1, false, 1⟩ = G2 at *
    simp only [none_no orc (h.ext e2), bS_some, ifV_false, c54, s54, mBox, newBlk_eq, Value.cells, xRange_func, n2]
    generalize hrec : Lp.mk _ _ _ _ _ _ = rec
    have e3 : Ext G (G2.push ⟨[P1 d], 1, false, 1⟩) := e2.push _
    have o3 : (G2.push ⟨[P1 d], 1, false, 1⟩).obj (G.nx + 1) = some ⟨[P1 d], 1, false, 1⟩ := by simp [n2]
    have o3' : (G2.push ⟨[P1 d], 1, false, 1⟩).obj G.nx = some ⟨[.int .i64 0], 1, false, 1⟩ := by simp [n2, o2]
    have n3 : (G2.push ⟨[P1 d], 1, false, 1⟩).nx = G.nx + 2 := by simp [n2]
    generalize G2.push ⟨[P1 d], 1, false, 1⟩ = G3 at *
    have hD : DrawsAt (G3.pushLoop rec) d s sl L at_ := h.keep (by simp [n3]) fun g hg => e3.obj g (by omega)
    have hx : (G3.pushLoop rec).obj (G.nx + 1) = some ⟨[P1 d], 1, false, 1⟩ := by simp [o3]
    have hx0 : (G3.pushLoop rec).obj G.nx = some ⟨[.int .i64 0], 1, false, 1⟩ := by simp [o3']
    have m4 : Mod [s] G (G3.pushLoop rec) := (e3.mod _).pushLoop _
    have hl4 : (G3.pushLoop rec).loop G3.nl = some rec := by simp
    have hnl := e3.nl
    generalize G3.pushLoop rec = G4 at *
    by_cases he : at_ = L.length
    · rw [show ([] ++ [Value.func (Fn.yield G3.nl) #[] #[]] ++ [Value.pointer (some ⟨G.nx + 1, 0, none⟩)]) = [Value.func (Fn.yield G3.nl) #[] #[], P1 (G.nx + 1)] from rfl, c59_end orc hD hx he]
      have hl5 : (G4.room 16).loop G3.nl = some rec := by simp [hl4]
      rw [xRangeEnd_some G3.nl _ _ _ hl5 (by rw [← hrec]; simp) (e := .normal) (by rw [← hrec]; rfl)]
      simp [cell_of hx0, nextOf, he]
      have m5 := (m4.room 16).putLoop hnl (rec.setSt .exhausted)
      have h6 : DrawsAt ((G4.room 16).putLoop G3.nl (rec.setSt .exhausted)) d s sl L at_ := hD.keep (by simp) (fun _ _ => rfl)
      rw [he] at h6
      exact ⟨m5, h6⟩
    · have hlt : at_ < L.length := by have := h.le; omega
      have hxs : G.nx + 1 ≠ s := by omega
      have t1 := took_mod G4 s sl at_
      have m5 := m4.trans t1
      have t2 : (took G4 s sl at_).obj G.nx = some ⟨[.int .i64 0], 1, false, 1⟩ := by rw [took_obj, if_neg (by omega)]; exact hx0
      have t3 : (took G4 s sl at_).obj s = some ⟨[sl, .int .i64 ((at_ : Int) + 1)], 1, false, 1⟩ := by rw [took_obj, if_pos rfl]
      have t4 : (took G4 s sl at_).loop G3.nl = some rec := by simp [took, hl4]
      have hn5 : G4.nx ≤ (took G4 s sl at_).nx := t1.nx
      have hst5 : storeN 1 G.nx 0 (.int .i64 L[at_]) ((took G4 s sl at_).putLoop G3.nl (rec.setSt .busy)) = some (((took G4 s sl at_).putLoop G3.nl (rec.setSt .busy)).put G.nx ⟨[.int .i64 L[at_]], 1, false, 1⟩) := by
        simp only [storeN, Value.cells]
        exact wr1_of (ob := ⟨[.int .i64 0], 1, false, 1⟩) (by simpa using t2) rfl rfl (by simp)
      have m6 := (m5.putLoop hnl (rec.setSt .busy)).put (b := G.nx) (.inr (Nat.le_refl _)) ⟨[.int .i64 L[at_]], 1, false, 1⟩
      have x6 : (((took G4 s sl at_).putLoop G3.nl (rec.setSt .busy)).put G.nx ⟨[.int .i64 L[at_]], 1, false, 1⟩).obj G.nx = some ⟨[.int .i64 L[at_]], 1, false, 1⟩ := by simp
      have s6 : (((took G4 s sl at_).putLoop G3.nl (rec.setSt .busy)).put G.nx ⟨[.int .i64 L[at_]], 1, false, 1⟩).obj s = some ⟨[sl, .int .i64 ((at_ : Int) + 1)], 1, false, 1⟩ := by
        rw [obj_put, if_neg (by omega)]; exact t3
      have l6 : (((took G4 s sl at_).putLoop G3.nl (rec.setSt .busy)).put G.nx ⟨[.int .i64 L[at_]], 1, false, 1⟩).loop G3.nl = some (rec.setSt .busy) := by simp
      have hrd : (E orc).rd G3.nl [.int .i64 L[at_]] (took G4 s sl at_) = some (.bool false, (((took G4 s sl at_).putLoop G3.nl (rec.setSt .busy)).put G.nx ⟨[.int .i64 L[at_]], 1, false, 1⟩).putLoop G3.nl { rec.setSt .busy with st := .done, pend := some (.exit 0) }) := by
        refine d24_0 orc G3.nl _ (.int .i64 L[at_]) _ (t4.trans (by rw [← hrec])) rfl ?_
        have hr3 : rec.st = .ready := by rw [← hrec]
        simp only [r24_0, t4, bP_some, hr3, if_true]
        simp only [nth_zero', nth_succ', st_3, hst5, bP_some]
        rw [roundEnd_some _ _ _ (j := some (.exit 0)) rfl l6]
        rfl
      generalize ((took G4 s sl at_).putLoop G3.nl (rec.setSt .busy)).put G.nx ⟨[.int .i64 L[at_]], 1, false, 1⟩ = G6 at *
      have hcall := c59_stop orc (l := G3.nl) hD hx hxs hlt hrd
      rw [show ([] ++ [Value.func (Fn.yield G3.nl) #[] #[]] ++ [Value.pointer (some ⟨G.nx + 1, 0, none⟩)]) = [Value.func (Fn.yield G3.nl) #[] #[], P1 (G.nx + 1)] from rfl, hcall]
      have hl7 : (G6.putLoop G3.nl { rec.setSt .busy with st := .done, pend := some (.exit 0) }).loop G3.nl = some { rec.setSt .busy with st := .done, pend := some (.exit 0) } := by simp
      rw [xRangeEnd_some G3.nl _ _ _ hl7 (by simp) (e := .exit 0) rfl]
      have m7 := (m6.putLoop hnl { rec.setSt .busy with st := .done, pend := some (.exit 0) }).putLoop hnl (Lp.setSt { rec.setSt .busy with st := .done, pend := some (.exit 0) } .exhausted)
      simp [cell_of x6, nextOf, hlt]
      refine ⟨m7, ?_⟩
      rw [show min (at_ + 1) L.length = at_ + 1 by omega]
      exact h.take m7 (by simpa using s6) (by omega)
  obtain ⟨⟨v, G'⟩, h1, h2, h3, h4⟩ := key
  simp only at h2 h3 h4
  subst h2
  exact ⟨G', c24 orc _ _ h1, h3, h4⟩
end Go.Proofs.Ytchempegmbidoaa.Lift
