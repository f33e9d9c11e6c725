import Derived.Test.YtchempegmbidoaaO9
namespace Go.Proofs.Ytchempegmbidoaa.Lift
open Go Go.Proofs.Ytchempegmbidoaa.Gh Go.Proofs
set_option linter.unusedVariables false
set_option linter.unusedSimpArgs false
theorem prog_height (orc : FuncId → Bool) {G : GS} {d s at_ : Nat} {sl : Value} {L : List Int} (h : DrawsAt G d s sl L at_) (most : Int) :
    ∃ G', (E orc).cl 26 [P1 d, .int .i64 most] G = some (.int .i64 (hl (nextOf L at_) most 64 0 1), G') ∧ Mod [s] G G' ∧ DrawsAt G' d s sl L (min (at_ + 1) L.length) := by
  obtain ⟨G', e, m, h'⟩ := next_ok orc h
  exact ⟨G', by rw [c26]; simp [s26, none_no orc h, e, height], m, h'⟩
theorem copy_ok (orc : FuncId → Bool) {G : GS} {d s at_ : Nat} {sl : Value} {L : List Int} (h : DrawsAt G d s sl L at_) :
    ∃ d' s' G', (E orc).cl 29 [P1 d] G = some (P1 d', G') ∧ Ext G G' ∧ DrawsAt G' d' s' sl L at_ ∧ G.nx ≤ s' := by
  obtain ⟨a, c, hsl⟩ := h.hl.len
  have hsd := h.sd
  have hdn := h.dn
  have hld : loadA 2 s 0 G = some (.agg ⟨[sl, .int .i64 at_]⟩) := by
    unfold loadA
    rw [rdN_eq _ _ _ _ (by omega)]
    simp [GS.cellsAt, h.hs]
  have hone : one sl = true := by rw [hsl]; rfl
  have hst : storeN 2 G.nx 0 (.agg ⟨[sl, .int .i64 at_]⟩) (G.push ⟨[.slice none 0 0, .int .i64 0], 1, false, 1⟩) = some ((G.push ⟨[.slice none 0 0, .int .i64 0], 1, false, 1⟩).put G.nx ⟨[sl, .int .i64 at_], 1, false, 1⟩) := by
    simp only [storeN, Value.cells]
    exact wrN_of (ob := ⟨[.slice none 0 0, .int .i64 0], 1, false, 1⟩) (by simp) rfl (by rw [hsl]; rfl) (by simp)
  have e2 : Ext G ((G.push ⟨[.slice none 0 0, .int .i64 0], 1, false, 1⟩).put G.nx ⟨[sl, .int .i64 at_], 1, false, 1⟩) := ((Ext.refl G).push _).put (Nat.le_refl _) _
  have o2 : ((G.push ⟨[.slice none 0 0, .int .i64 0], 1, false, 1⟩).put G.nx ⟨[sl, .int .i64 at_], 1, false, 1⟩).obj G.nx = some ⟨[sl, .int .i64 at_], 1, false, 1⟩ := by simp
  have n2 : ((G.push ⟨[.slice none 0 0, .int .i64 0], 1, false, 1⟩).put G.nx ⟨[sl, .int .i64 at_], 1, false, 1⟩).nx = G.nx + 1 := rfl
  refine ⟨G.nx + 1, G.nx, ((G.push ⟨[.slice none 0 0, .int .i64 0], 1, false, 1⟩).put G.nx ⟨[sl, .int .i64 at_], 1, false, 1⟩).push ⟨[P1 G.nx], 1, false, 1⟩, ?_, e2.push _, ⟨?_, ?_, h.hl.ext (e2.push _), ?_, by omega, by simp, h.le, h.sh⟩, Nat.le_refl _⟩
  · rw [c29]
    simp [s29, none_no orc h, pNil, cell_of h.hd, hld, hst, fillL, fillC, Value.cells, splice_put, splice_end, mBox]
  · simp
  · simp
  · intro a n c e
    have := h.lt a n c e
    omega
/-- the reference's draws -/
structure RefAt (G : GS) (w : Nat) (sl : Value) (L : List Int) (m : Nat) : Prop where
  hw : G.obj w = some ⟨[sl, .int .i64 m], 1, false, 1⟩
  hl : SlIs G 1 sl L.length (ints L)
  lt : SlLt w sl
  wn : w < G.nx
  le : m ≤ L.length
  sh : L.length ≤ 5000
theorem RefAt.keepIn {G G' : GS} {w m lo : Nat} {sl : Value} {L : List Int} (h : RefAt G w sl L m) (hge : SlGe lo sl) (hlo : lo ≤ w) (hn : G.nx ≤ G'.nx) (hk : ∀ g, lo ≤ g → g ≤ w → G'.obj g = G.obj g) : RefAt G' w sl L m := by
  refine ⟨(hk w hlo (Nat.le_refl _)).trans h.hw, ⟨h.hl.1, h.hl.2.imp id ?_⟩, h.lt, Nat.lt_of_lt_of_le h.wn hn, h.le, h.sh⟩
  rintro ⟨b, o, c, ob, h1, h2, h3, h4, h5, h6⟩
  have := h.lt _ _ _ h1
  simp only at this
  exact ⟨b, o, c, ob, h1, h2, Nat.lt_of_lt_of_le h3 hn, (hk b (hge _ _ _ h1) (by omega)).trans h4, h5, h6⟩
theorem RefAt.ext {G G' : GS} {w m : Nat} {sl : Value} {L : List Int} (h : RefAt G w sl L m) (he : Ext G G') : RefAt G' w sl L m :=
  h.keepIn (lo := 0) (fun _ _ _ _ => Nat.zero_le _) (Nat.zero_le _) he.nx fun g _ hg => he.obj g (by have := h.wn; omega)
theorem rleft_ok (orc : FuncId → Bool) {G : GS} {w m : Nat} {sl : Value} {L : List Int} (h : RefAt G w sl L m) : (E orc).cl 31 [P1 w] G = some (.int .i64 (L.length - m), G.room 11) := by
  obtain ⟨a, c, rfl⟩ := h.hl.len
  have hw : IntKind.wrap .i64 ((L.length : Int) - m) = L.length - m := wrap64 (by have := h.le; have := h.sh; omega) (by have := h.le; have := h.sh; omega)
  rw [c31]
  simp [s31, pNil, cell_of h.hw, hw]
theorem RefAt.take {G G' : GS} {w m k : Nat} {sl : Value} {L : List Int} (h : RefAt G w sl L m) (hn : G.nx ≤ G'.nx) (hk : ∀ g, g < w → G'.obj g = G.obj g) (hs : G'.obj w = some ⟨[sl, .int .i64 k], 1, false, 1⟩) (hl : k ≤ L.length) : RefAt G' w sl L k :=
  ⟨hs, h.hl.keep h.lt hn hk, h.lt, Nat.lt_of_lt_of_le h.wn hn, hl, h.sh⟩
theorem rnext_ok (orc : FuncId → Bool) {G : GS} {w m : Nat} {sl : Value} {L : List Int} (h : RefAt G w sl L m) :
    ∃ G', (E orc).cl 25 [P1 w] G = some (.int .i64 (nextOf L m), G') ∧ Mod [w] G G' ∧ RefAt G' w sl L (min (m + 1) L.length) := by
  have hle := h.le
  have hsh := h.sh
  have hl31 := rleft_ok orc h
  rw [c25]
  by_cases he : m = L.length
  · refine ⟨G.room 11, ?_, ((Mod.refl [w] G).room 11), ?_⟩
    · have hz : (L.length : Int) - m = 0 := by omega
      simp [s25, hl31, hz, nextOf, he]
    · rw [show min (m + 1) L.length = m by omega]
      exact h.ext ((Ext.refl G).room 11)
  · have hlt : m < L.length := by omega
    obtain ⟨b, o, c, rfl, hb, hc⟩ := h.hl.at_ hlt
    have hc := hc 0 (by omega)
    simp [hlt] at hc
    have hbw : b ≠ w := by have := h.lt _ _ _ rfl; simp at this; omega
    have hz : ¬ (L.length : Int) - m = 0 := by omega
    have hw : IntKind.wrap .i64 ((m : Int) + 1) = (m : Int) + 1 := wrap64 (by omega) (by omega)
    have hw' : IntKind.wrap .i64 (m : Int) = m := wrap64 (by omega) (by omega)
    have hi : (m : Int) < L.length := by omega
    have hi0 : (0 : Int) ≤ m := by omega
    have hst : storeN 1 w 1 (.int .i64 ((m : Int) + 1)) (G.room 11) = some ((G.room 11).put w ⟨[.slice (some ⟨b, o, none⟩) L.length c, .int .i64 ((m : Int) + 1)], 1, false, 1⟩) := by
      simp only [storeN, Value.cells]
      exact wr1_of (ob := ⟨[.slice (some ⟨b, o, none⟩) L.length c, .int .i64 m], 1, false, 1⟩) (by simpa using h.hw) rfl rfl (by simp)
    refine ⟨((G.room 11).put w ⟨[.slice (some ⟨b, o, none⟩) L.length c, .int .i64 ((m : Int) + 1)], 1, false, 1⟩).room 12, ?_, (((Mod.refl [w] G).room 11).put (.inl (by simp)) _).room 12, ?_⟩
    · simp [s25, hl31, hz, pNil, cell_of h.hw, hw, hst, cell_put, hw', hi, hi0, hbw, hc, nextOf, hlt]
    · rw [show min (m + 1) L.length = m + 1 by omega]
      exact h.take (by simp; omega) (fun g hg => by simp; omega) (by simp) (by omega)
theorem rskip_ok (orc : FuncId → Bool) {G : GS} {w m : Nat} {sl : Value} {L : List Int} (h : RefAt G w sl L m) (n : Int) :
    ∃ G' c, (E orc).cl 28 [P1 w, .int .i64 n] G = some (.int .i64 (c : Nat), G') ∧ Mod [w] G G' ∧ RefAt G' w sl L (m + c) ∧ (c : Int) = max 0 (min n (L.length - m)) := by
  have hle := h.le
  have hsh := h.sh
  have hl31 := rleft_ok orc h
  obtain ⟨c, hcc⟩ : ∃ c : Nat, (c : Int) = max 0 (min n (L.length - m)) := ⟨(max 0 (min n (L.length - m))).toNat, by omega⟩
  have hmm : (if (if (L.length : Int) - m < n then (L.length : Int) - m else n) > 0 then (if (L.length : Int) - m < n then (L.length : Int) - m else n) else 0) = (c : Int) := by split <;> split <;> omega
  have hw : IntKind.wrap .i64 ((m : Int) + c) = ((m + c : Nat) : Int) := wrap64 (by omega) (by omega)
  have hst : storeN 1 w 1 (.int .i64 ((m + c : Nat) : Int)) (G.room 11) = some ((G.room 11).put w ⟨[sl, .int .i64 ((m + c : Nat) : Int)], 1, false, 1⟩) := by
    simp only [storeN, Value.cells]
    exact wr1_of (ob := ⟨[sl, .int .i64 m], 1, false, 1⟩) (by simpa using h.hw) rfl rfl (by simp)
  refine ⟨(G.room 11).put w ⟨[sl, .int .i64 ((m + c : Nat) : Int)], 1, false, 1⟩, c, ?_, ((Mod.refl [w] G).room 11).put (.inl (by simp)) _, h.take (by simp) (fun g hg => by simp; omega) (by simp) (by omega), hcc⟩
  rw [c28]
  simp only [s28, hl31, bS_some, min_int, max_int, bP_some, hmm, pNil, fa_81_1, ld_3, cell_room, cell_of h.hw (by simp), bin_add, Nat.zero_add, List.getElem?_cons_succ, List.getElem?_cons_zero, hw, st_3, hst]
theorem rnew_ok (orc : FuncId → Bool) {L : List Int} {v0 : Value} {G : GS} (hL : SlIs G 1 v0 L.length (ints L)) (hle : L.length ≤ 4096) :
    ∃ w sl G', (E orc).cl 23 [v0] G = some (.tuple #[P1 w, .int .i64 0], G') ∧ Ext G G' ∧ RefAt G' w sl L 0 ∧ G.nx ≤ w ∧ SlGe G.nx sl := by
  obtain ⟨a, c, ha⟩ := hL.len
  have h0 : OwnL G.nx (G.push ⟨[], 1, false, 1⟩) 1 (.slice (some ⟨G.nx, 0, none⟩) 0 0) 0 [] := ⟨by simp, .inr ⟨G.nx, false, rfl, Nat.le_refl _, by simp, by simp⟩⟩
  obtain ⟨sl, G1, h1, e1, o1⟩ := app_ok (ib := 8) (by omega) (by omega) ((Ext.refl G).push ⟨[], 1, false, 1⟩) h0 (hL.ext ((Ext.refl G).push _)) (ints_one L) (by omega)
  rw [Nat.zero_add, List.nil_append] at o1
  obtain ⟨a1, c1, hsl⟩ := o1.reads.len
  have hnle : ¬ (4096 : Int) < L.length := by omega
  refine ⟨G1.nx, sl, G1.push ⟨[sl, .int .i64 0], 1, false, 1⟩, ?_, e1.push _, ⟨by simp, o1.reads.ext ((Ext.refl G1).push _), o1.reads.lt, by simp, by omega, by omega⟩, e1.nx, own_ge o1⟩
  rw [c23]
  simp [s23, ha, hnle, fillS, fillC]
  rw [← ha, h1]
  subst hsl
  simp [fillL, fillC, Value.cells, splice_put, splice_end, mBox]
end Go.Proofs.Ytchempegmbidoaa.Lift
