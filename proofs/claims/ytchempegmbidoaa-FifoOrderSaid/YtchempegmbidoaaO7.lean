import Derived.Test.YtchempegmbidoaaO6
namespace Go.Proofs.Ytchempegmbidoaa.Lift
open Go Go.Proofs.Ytchempegmbidoaa.Gh Go.Proofs
set_option linter.unusedVariables false
set_option linter.unusedSimpArgs false
abbrev I1 (n : Int) : GObj := ⟨[.int .i64 n], 1, false, 1⟩
abbrev stopped (rec : Lp) : Lp := { rec.setSt .busy with st := .done, pend := some (.exit 0) }
/-- where Skip stands in its loop: base, captured pointer, count, number -/
structure SkipAt (B G : GS) (d s : Nat) (sl : Value) (L : List Int) (a0 x q nb l : Nat) (n : Int) (rec : Lp) (j : Nat) : Prop where
  m : Mod [s] B G
  dr : DrawsAt G d s sl L (a0 + j)
  hx : G.obj x = some ⟨[P1 d], 1, false, 1⟩
  hq : G.obj q = some (I1 j)
  hn : G.obj nb = some (I1 n)
  hl : G.loop l = some rec
theorem skip_lp (orc : FuncId → Bool) (B : GS) (d s : Nat) (sl : Value) (L : List Int) (a0 x q nb l : Nat) (n : Int) (T0 : List Value)
    (hd : d < B.nx) (hBx : B.nx ≤ x) (hBq : B.nx ≤ q) (hBn : B.nx ≤ nb) (hBl : B.nl ≤ l) (hxq : x ≠ q) (hqn : q ≠ nb) (hT0 : T0.length = 21) (h05 : nth undef T0 5 = P1 q) (h03 : nth undef T0 3 = P1 nb) (rec : Lp)
    (hrec : rec = ⟨.ready, none, T0, [14], subAt [1, 0, 1, 1, 1, 0, 1, 0, 0] (bodyOf Try.f27), subAt [1, 0, 1, 1, 1, 0, 1, 0, 1] (bodyOf Try.f27)⟩) :
    ∀ (k j : Nat) (T : List Value) (G : GS), a0 + j + k = L.length → (j : Int) < n → SkipAt B G d s sl L a0 x q nb l n rec j → T.length = 49 → nth undef T 0 = .func (.yield l) #[] #[] → nth undef T 1 = P1 x →
    Wp ((E orc).lp (subAt [0, 0] (bodyOf Try.f59)) T G) fun r => ∃ c : Nat, (r.1 = .exit 0 ∧ r.2.2.loop l = some rec ∨ r.1 = .ret ∧ r.2.2.loop l = some (stopped rec)) ∧ Mod [s] B r.2.2 ∧ r.2.2.obj q = some (I1 c) ∧ DrawsAt r.2.2 d s sl L (a0 + c) ∧ (c : Int) = min n (L.length - a0) := by
  intro k
  induction k with
  | zero =>
    intro j T G hk hj hS hT h0 h1
    refine (rest_end orc hS.dr hS.hx (by omega) hT h0 h1).mono ?_
    rintro ⟨e, T', G'⟩ ⟨h2, h3⟩
    simp only at h2 h3
    subst h2 h3
    exact ⟨j, .inl ⟨rfl, hS.hl⟩, hS.m.room 16, hS.hq, hS.dr.ext ((Ext.refl G).room 16), by omega⟩
  | succ k ih =>
    intro j T G hk hj hS hT h0 h1
    have hsd := hS.dr.sd
    have hlt : a0 + j < L.length := by omega
    have hsh := hS.dr.sh
    have t1 := took_mod G s sl (a0 + j)
    have tq : (took G s sl (a0 + j)).obj q = some (I1 j) := by rw [took_obj, if_neg (by omega)]; exact hS.hq
    have tn : (took G s sl (a0 + j)).obj nb = some (I1 n) := by rw [took_obj, if_neg (by omega)]; exact hS.hn
    have tx : (took G s sl (a0 + j)).obj x = some ⟨[P1 d], 1, false, 1⟩ := by rw [took_obj, if_neg (by omega)]; exact hS.hx
    have ts : (took G s sl (a0 + j)).obj s = some ⟨[sl, .int .i64 (((a0 + j : Nat) : Int) + 1)], 1, false, 1⟩ := by rw [took_obj, if_pos rfl]
    have tl : (took G s sl (a0 + j)).loop l = some rec := by simp [took, hS.hl]
    have hw : IntKind.wrap .i64 ((j : Int) + 1) = (j : Int) + 1 := wrap64 (by omega) (by omega)
    have m1 := hS.m.trans t1
    generalize hGt : took G s sl (a0 + j) = Gt at *
    have hst : storeN 1 q 0 (.int .i64 ((j : Int) + 1)) (Gt.putLoop l (rec.setSt .busy)) = some ((Gt.putLoop l (rec.setSt .busy)).put q (I1 ((j : Int) + 1))) := by
      simp only [storeN, Value.cells]
      exact wr1_of (ob := I1 j) (by simpa using tq) rfl rfl (by simp)
    have cq : Gt.cell q 0 = some (.int .i64 j) := by rw [cell_of tq (by simp)]; rfl
    have cn : Gt.cell nb 0 = some (.int .i64 n) := by rw [cell_of tn (by simp)]; rfl
    have m6 := (m1.putLoop hBl (rec.setSt .busy)).put (b := q) (.inr hBq) (I1 ((j : Int) + 1))
    have q6 : ((Gt.putLoop l (rec.setSt .busy)).put q (I1 ((j : Int) + 1))).obj q = some (I1 ((j : Int) + 1)) := by simp
    have n6 : ((Gt.putLoop l (rec.setSt .busy)).put q (I1 ((j : Int) + 1))).obj nb = some (I1 n) := by rw [obj_put, if_neg (by omega)]; exact tn
    have x6 : ((Gt.putLoop l (rec.setSt .busy)).put q (I1 ((j : Int) + 1))).obj x = some ⟨[P1 d], 1, false, 1⟩ := by rw [obj_put, if_neg (by omega)]; exact tx
    have s6 : ((Gt.putLoop l (rec.setSt .busy)).put q (I1 ((j : Int) + 1))).obj s = some ⟨[sl, .int .i64 (((a0 + j : Nat) : Int) + 1)], 1, false, 1⟩ := by rw [obj_put, if_neg (by omega)]; exact ts
    have l6 : ((Gt.putLoop l (rec.setSt .busy)).put q (I1 ((j : Int) + 1))).loop l = some (rec.setSt .busy) := by simp
    have c6 : ((Gt.putLoop l (rec.setSt .busy)).put q (I1 ((j : Int) + 1))).cell q 0 = some (.int .i64 ((j : Int) + 1)) := by rw [cell_of q6 (by simp)]; rfl
    have d6 : ((Gt.putLoop l (rec.setSt .busy)).put q (I1 ((j : Int) + 1))).cell nb 0 = some (.int .i64 n) := by rw [cell_of n6 (by simp)]; rfl
    have dr6 : DrawsAt ((Gt.putLoop l (rec.setSt .busy)).put q (I1 ((j : Int) + 1))) d s sl L (a0 + (j + 1)) := by
      refine hS.dr.take' (by have := t1.nx; simpa using this) (fun g hg hgs => ?_) (by rw [s6]; congr 4) (by omega)
      rw [obj_put, if_neg (by omega), obj_putLoop, ← hGt, took_obj, if_neg hgs]
    by_cases hn : (j : Int) + 1 = n
    · have hrd : (E orc).rd l [.int .i64 L[a0 + j]] Gt = some (.bool false, ((Gt.putLoop l (rec.setSt .busy)).put q (I1 ((j : Int) + 1))).putLoop l (stopped rec)) := by
        refine d27_0 orc l T0 (.int .i64 L[a0 + j]) _ (tl.trans (by rw [hrec])) hT0 ?_
        have hr3 : rec.st = .ready := by rw [hrec]
        simp only [r27_0, tl, bP_some, hr3, if_true, h05, h03, ld_3, cell_putLoop, cq, bin_add, hw, st_3, hst, c6, d6, bin_eql, decide_eq_true hn, ifV_true]
        rw [roundEnd_some _ _ _ (j := some (.exit 0)) rfl l6]
        rfl
      refine rest_step orc hS.dr hS.hx (by omega) hlt hT h0 h1 (by rw [hGt]; exact hrd) ?_
      rw [if_neg (by simp)]
      intro T'
      exact ⟨j + 1, .inr ⟨rfl, by simp⟩, m6.putLoop hBl _, by simp [q6], dr6.keep (Nat.le_refl _) (fun _ _ => rfl), by omega⟩
    · have hrd : (E orc).rd l [.int .i64 L[a0 + j]] Gt = some (.bool true, ((Gt.putLoop l (rec.setSt .busy)).put q (I1 ((j : Int) + 1))).putLoop l rec) := by
        refine d27_0 orc l T0 (.int .i64 L[a0 + j]) _ (tl.trans (by rw [hrec])) hT0 ?_
        have hr3 : rec.st = .ready := by rw [hrec]
        simp only [r27_0, tl, bP_some, hr3, if_true, h05, h03, ld_3, cell_putLoop, cq, bin_add, hw, st_3, hst, c6, d6, bin_eql, decide_eq_false hn, ifV_false]
        rw [roundEnd_some _ _ _ (j := none) rfl l6]
        rw [hrec]
        rfl
      refine rest_step orc hS.dr hS.hx (by omega) hlt hT h0 h1 (by rw [hGt]; exact hrd) ?_
      rw [if_pos rfl]
      intro T' hT' h0' h1'
      refine ih (j + 1) T' _ (by omega) (by omega) ⟨m6.putLoop hBl _, dr6.keep (Nat.le_refl _) (fun _ _ => rfl), x6, by simp [q6], n6, by simp⟩ hT' h0' h1'
end Go.Proofs.Ytchempegmbidoaa.Lift
