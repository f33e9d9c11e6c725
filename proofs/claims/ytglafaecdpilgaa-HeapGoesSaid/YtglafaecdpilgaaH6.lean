import Derived.Test.YtglafaecdpilgaaH5
set_option linter.unusedVariables false
set_option linter.unusedSimpArgs false
set_option maxRecDepth 20000
namespace Go.Proofs.Ytglafaecdpilgaa.Gh
open Go
theorem obj_put_self (G : GS) (b : Nat) (o : GObj) : (G.put b o).obj b = some o := by simp
theorem Ext.boxed2 {G G' : GS} {o p : GObj} (h : Ext ((G.push o).push p) G') : G'.obj G.nx = some o ∧ G'.obj (G.nx + 1) = some p ∧ G.nx + 2 ≤ G'.nx :=
  ⟨by rw [h.obj _ (by simp; omega)]; simp, by rw [h.obj _ (by simp)]; simp, by have := h.nx; simpa using this⟩
end Go.Proofs.Ytglafaecdpilgaa.Gh
namespace Go.Proofs.Ytglafaecdpilgaa.Lift
open Go Go.Proofs.Ytglafaecdpilgaa.Gh Go.Proofs
abbrev zAns : List Value := [.int .i64 0, .int .i64 0, .int .u64 0]
abbrev opC (k a b w : Int) : List Value := [.int .i64 k, .int .i64 a, .int .i64 b, .int .u64 w]
theorem st_ans {G : GS} {b : Nat} {e : Nat} {op : Bool} {x y z : Value} (h : G.obj b = some ⟨[x, y, z], e, op, 1⟩) (c i w : Int) : storeN 3 b 0 (ansV c i w) G = some (G.put b ⟨[.int .i64 c, .int .i64 i, .int .u64 w], e, op, 1⟩) := storeN_whole h rfl rfl rfl
theorem ld_ans (G : GS) (b e : Nat) (op : Bool) (c i w : Int) : loadA 3 b 0 (G.put b ⟨[.int .i64 c, .int .i64 i, .int .u64 w], e, op, 1⟩) = some (ansV c i w) := loadA_whole (n := 2) (m := 1) (obj_put_self _ _ _) (by decide) rfl
theorem ld_op {G : GS} {b e m : Nat} {op : Bool} {k a c w : Int} (h : G.obj b = some ⟨opC k a c w, e, op, m⟩) (hm : m ≠ 2) : loadA 4 b 0 G = some (opV k a c w) := loadA_whole (n := 3) h hm rfl
theorem ld_an {G : GS} {b e m : Nat} {op : Bool} {c i w : Int} (h : G.obj b = some ⟨[.int .i64 c, .int .i64 i, .int .u64 w], e, op, m⟩) (hm : m ≠ 2) : loadA 3 b 0 G = some (ansV c i w) := loadA_whole (n := 2) h hm rfl
/-- what is answered to an operation of a set: code, number, word; whether anything is -/
noncomputable def hCode (L : List It) (k w : Int) : Int := if ichk L = 0 then (if k = 4 then (if hsK L w then 8 else 0) else if (k = 5 ∨ k = 6) ∧ L = [] then 15 else 0) else 0
noncomputable def hNum (L : List It) (k : Int) : Int := if ichk L = 0 ∧ (k = 5 ∨ k = 6) then (match L with | [] => 0 | x :: _ => x.2) else 0
noncomputable def hWord (L : List It) (k : Int) : Int := if ichk L = 0 ∧ (k = 5 ∨ k = 6) then (match L with | [] => 0 | x :: _ => x.1) else 0
noncomputable def hIs (L : List It) (k w : Int) : Bool := decide (ichk L = 0) && (if k = 4 then hsK L w || decide (L.length < 1024) else decide (k = 5 ∨ k = 6))
theorem puts_ok (orc : FuncId → Bool) {L : List It} (hu : Up L 0) (hlen : L.length ≤ 1024) {v0 : Value} (k a b w : Int) {G : GS} (hs : SlR rIt G v0 L) :
    Wp ((E orc).cl 70 [v0, opV k a b w] G) fun r => r.1 = .tuple #[ansV (if hsK L w then 8 else 0) 0 0, .bool (hsK L w || decide (L.length < 1024))] ∧ Ext G r.2 := by
  obtain ⟨av, cv, hv⟩ := hs.len
  have hln : ln Q true 22 v0 = some (.int .i64 L.length) := by rw [hv]; simp
  have x3 : Ext G ((G.push ⟨opC k a b w, 1, false, 1⟩).push ⟨zAns, 1, false, 1⟩) := ((Ext.refl G).push _).push _
  have hc : ((G.push ⟨opC k a b w, 1, false, 1⟩).push ⟨zAns, 1, false, 1⟩).cell G.nx 3 = some (.int .u64 w) := by simp [cell_push]
  obtain ⟨⟨v, G7⟩, e7, rfl, x7⟩ := place_ok orc hu hlen w (hs.ext x3)
  obtain ⟨_, o2, n7⟩ := x7.boxed2
  refine Wp.ref (f70 (exL_ok Q orc) _ _ G) ?_
  cases hk : hsK L w with
  | true =>
    rw [hk] at e7
    simp [s70, Value.cells, hc, e7, fillL, fillC, splice_put, splice_end, splice_succ, st_ans o2, ld_ans]
    exact (x3.trans x7).put (by omega) _
  | false =>
    rw [hk] at e7
    simp [s70, Value.cells, hc, e7, hln, fillL, fillC, splice_put, splice_end, splice_succ, st_ans o2, ld_ans]
    exact ⟨by omega, (x3.trans x7).put (by omega) _⟩
/-- what is looked up, or picked -/
def lkA : List It → Value
  | [] => ansV 15 0 0
  | x :: _ => ansV 0 x.2 x.1
@[simp] theorem lkA_nil : lkA [] = ansV 15 0 0 := rfl
@[simp] theorem lkA_cons (x : It) (L : List It) : lkA (x :: L) = ansV 0 x.2 x.1 := rfl
theorem looks_ok (orc : FuncId → Bool) {L : List It} {v0 : Value} (k a b w : Int) {G : GS} (hs : SlR rIt G v0 L) :
    Wp ((E orc).cl 71 [v0, opV k a b w] G) fun r => r.1 = .tuple #[lkA L, .bool true] ∧ Ext G r.2 := by
  obtain ⟨av, cv, hv⟩ := hs.len
  have hln : ln Q true 22 v0 = some (.int .i64 L.length) := by rw [hv]; simp
  have x3 : Ext G ((G.push ⟨opC k a b w, 1, false, 1⟩).push ⟨zAns, 1, false, 1⟩) := ((Ext.refl G).push _).push _
  refine Wp.ref (f71 (exL_ok Q orc) _ _ G) ?_
  cases L with
  | nil =>
    have o2 : ((G.push ⟨opC k a b w, 1, false, 1⟩).push ⟨zAns, 1, false, 1⟩).obj (G.nx + 1) = some ⟨zAns, 1, false, 1⟩ := by simp
    simp at hln
    simp [s71, Value.cells, hln, fillL, fillC, splice_put, splice_end, splice_succ, st_ans o2, ld_ans]
    exact x3.put (by omega) _
  | cons x L =>
    obtain ⟨bb, o, c, hv', _, hk1, hk2, _⟩ := it_at (hs.ext (x3.room 11)) (i := 0) (by simp)
    simp at hk1 hk2
    have o2 : (((G.push ⟨opC k a b w, 1, false, 1⟩).push ⟨zAns, 1, false, 1⟩).room 11).obj (G.nx + 1) = some ⟨zAns, 1, false, 1⟩ := by simp
    have hp : (0 : Int) < ((x :: L).length : Nat) := by rw [List.length_cons]; omega
    have hp0 : ¬ (((x :: L).length : Nat) : Int) = 0 := by omega
    generalize hN : (x :: L).length = N at *
    have hp1 : 0 < N := by omega
    have hp2 : ¬ N = 0 := by omega
    simp [s71, Value.cells, hln, hp, hp0, hp1, hp2, hv', hk1, hk2, fillL, fillC, splice_put, splice_end, splice_succ, st_ans o2, ld_ans]
    exact (x3.room 11).put (by omega) _
theorem kinds_ok (orc : FuncId → Bool) (ho : orc 59 = false) (G : GS) : ∃ G', (E orc).cl 59 [] G = some (.agg ⟨[.func (.func 70) #[] #[], .func (.func 71) #[] #[], .func (.func 71) #[] #[]]⟩, G') ∧ Ext G G' := by
  refine ⟨_, f59 (exL_ok Q orc) ho G (_, (G.push ⟨z92, 1, false, 1⟩).put G.nx ⟨[.func (.func 70) #[] #[], .func (.func 71) #[] #[], .func (.func 71) #[] #[]], 1, false, 1⟩) ?_, ((Ext.refl G).push _).put (Nat.le_refl _) _⟩
  have h1 : storeN 3 G.nx 0 (.agg ⟨[.func (.func 70) #[] #[], .func (.func 71) #[] #[], .func (.func 71) #[] #[]]⟩) (G.push ⟨z92, 1, false, 1⟩) = some ((G.push ⟨z92, 1, false, 1⟩).put G.nx ⟨[.func (.func 70) #[] #[], .func (.func 71) #[] #[], .func (.func 71) #[] #[]], 1, false, 1⟩) := storeN_whole (cs := z92) (by simp) rfl rfl rfl
  have h2 : loadA 3 G.nx 0 ((G.push ⟨z92, 1, false, 1⟩).put G.nx ⟨[.func (.func 70) #[] #[], .func (.func 71) #[] #[], .func (.func 71) #[] #[]], 1, false, 1⟩) = some (.agg ⟨[.func (.func 70) #[] #[], .func (.func 71) #[] #[], .func (.func 71) #[] #[]]⟩) := loadA_whole (n := 2) (m := 1) (obj_put_self _ _ _) (by decide) rfl
  simp [s59, z92, fillL, fillC, splice_put, splice_end, splice_succ, Value.cells] at h1 h2 ⊢
  simp [h1, h2]
theorem answer_ok (orc : FuncId → Bool) (ho : orc 59 = false) {L : List It} (hlen : L.length < 2 ^ 40) {v0 : Value} (k a b w : Int) {G : GS} (hs : SlR rIt G v0 L) :
    Wp ((E orc).cl 17 [v0, opV k a b w] G) fun r => r.1 = .tuple #[ansV (hCode L k w) (hNum L k) (hWord L k), .bool (hIs L k w)] ∧ Ext G r.2 := by
  have x3 : Ext G ((G.push ⟨opC k a b w, 1, false, 1⟩).push ⟨zAns, 1, false, 1⟩) := ((Ext.refl G).push _).push _
  have hc : ((G.push ⟨opC k a b w, 1, false, 1⟩).push ⟨zAns, 1, false, 1⟩).cell G.nx 0 = some (.int .i64 k) := by simp [cell_push]
  refine Wp.ref (f17 (exL_ok Q orc) _ _ G) ?_
  by_cases hk : k < 4 ∨ 6 < k
  · have hn : ¬ k = 4 ∧ ¬ (k = 5 ∨ k = 6) := by omega
    have o2 : ((G.push ⟨opC k a b w, 1, false, 1⟩).push ⟨zAns, 1, false, 1⟩).obj (G.nx + 1) = some ⟨zAns, 1, false, 1⟩ := by simp
    have e1 : hCode L k w = 0 := by simp [hCode, hn.1, hn.2]
    have e2 : hNum L k = 0 := by simp [hNum, hn.2]
    have e3 : hWord L k = 0 := by simp [hWord, hn.2]
    have e4 : hIs L k w = false := by simp [hIs, hn.1, hn.2]
    rw [e1, e2, e3, e4]
    by_cases hk1 : k < 4
    · simp [s17, Value.cells, hc, hk1, fillL, fillC, st_ans o2, ld_ans]
      exact x3.put (by omega) _
    · have hk2 : 6 < k := by omega
      simp [s17, Value.cells, hc, hk1, hk2, fillL, fillC, st_ans o2, ld_ans]
      exact x3.put (by omega) _
  have hk1 : ¬ k < 4 := by omega
  have hk2 : ¬ 6 < k := by omega
  obtain ⟨G5, e5, x5⟩ := check_ok orc (hs.ext x3) hlen
  obtain ⟨o1, o2, n5⟩ := x5.boxed2
  by_cases hz : ichk L = 0
  · obtain ⟨hl, hu⟩ := ichk_zero.1 hz
    rw [hz] at e5
    obtain ⟨G25, e25, x25⟩ := kinds_ok orc ho G5
    have n25 := x25.nx
    have x28 : Ext G5 ((G25.push ⟨z92, 1, false, 1⟩).put G25.nx ⟨[.func (.func 70) #[] #[], .func (.func 71) #[] #[], .func (.func 71) #[] #[]], 1, false, 1⟩) := (x25.push _).put n25 _
    have h1 : storeN 3 G25.nx 0 (.agg ⟨[.func (.func 70) #[] #[], .func (.func 71) #[] #[], .func (.func 71) #[] #[]]⟩) (G25.push ⟨z92, 1, false, 1⟩) = some ((G25.push ⟨z92, 1, false, 1⟩).put G25.nx ⟨[.func (.func 70) #[] #[], .func (.func 71) #[] #[], .func (.func 71) #[] #[]], 1, false, 1⟩) := storeN_whole (cs := z92) (by simp) rfl rfl rfl
    have c33 : ∀ f : Nat, (((G25.push ⟨z92, 1, false, 1⟩).put G25.nx ⟨[.func (.func 70) #[] #[], .func (.func 71) #[] #[], .func (.func 71) #[] #[]], 1, false, 1⟩).room 12).cell G25.nx f = [Value.func (.func 70) #[] #[], .func (.func 71) #[] #[], .func (.func 71) #[] #[]][f]? := fun f => by simp [cell_put]
    have x28r := x28.room 12
    have p1 : (((G25.push ⟨z92, 1, false, 1⟩).put G25.nx ⟨[.func (.func 70) #[] #[], .func (.func 71) #[] #[], .func (.func 71) #[] #[]], 1, false, 1⟩).room 12).obj G.nx = some ⟨opC k a b w, 1, false, 1⟩ := (x28r.obj _ (by omega)).trans o1
    have p2 : (((G25.push ⟨z92, 1, false, 1⟩).put G25.nx ⟨[.func (.func 70) #[] #[], .func (.func 71) #[] #[], .func (.func 71) #[] #[]], 1, false, 1⟩).room 12).obj (G.nx + 1) = some ⟨zAns, 1, false, 1⟩ := (x28r.obj _ (by omega)).trans o2
    have x0 := (x3.trans x5).trans x28r
    have hs28 := hs.ext x0
    generalize hG : (((G25.push ⟨z92, 1, false, 1⟩).put G25.nx ⟨[.func (.func 70) #[] #[], .func (.func 71) #[] #[], .func (.func 71) #[] #[]], 1, false, 1⟩).room 12) = G28 at *
    have ck : G28.cell G.nx 0 = some (.int .i64 k) := by rw [cell_at' p1 (by decide)]; rfl
    have lo := ld_op p1 (by decide)
    have n28 : G.nx + 2 ≤ G28.nx := by have := x28r.nx; omega
    rcases (show k = 4 ∨ k = 5 ∨ k = 6 by omega) with rfl | rfl | rfl
    · obtain ⟨⟨q, G35⟩, e35, rfl, x35⟩ := puts_ok orc hu hl 4 a b w hs28
      have o35 : G35.obj (G.nx + 1) = some ⟨zAns, 1, false, 1⟩ := (x35.obj _ (by omega)).trans p2
      have w0 : IntKind.wrap .i64 0 = 0 := wrap64 (by omega) (by omega)
      simp [s17, Value.cells, hc, e5, e25, h1, hG, c33, ck, lo, w0, e35, st_ans o35, ld_ans, hCode, hNum, hWord, hIs, hz]
      exact (x0.trans x35).put (by omega) _
    · obtain ⟨⟨q, G35⟩, e35, rfl, x35⟩ := looks_ok orc 5 a b w hs28
      have o35 : G35.obj (G.nx + 1) = some ⟨zAns, 1, false, 1⟩ := (x35.obj _ (by omega)).trans p2
      have w0 : IntKind.wrap .i64 1 = 1 := wrap64 (by omega) (by omega)
      cases L with
      | nil =>
        simp [s17, Value.cells, hc, e5, e25, h1, hG, c33, ck, lo, w0, e35, st_ans o35, ld_ans, hCode, hNum, hWord, hIs, hz]
        exact (x0.trans x35).put (by omega) _
      | cons x L =>
        simp [s17, Value.cells, hc, e5, e25, h1, hG, c33, ck, lo, w0, e35, st_ans o35, ld_ans, hCode, hNum, hWord, hIs, hz]
        exact (x0.trans x35).put (by omega) _
    · obtain ⟨⟨q, G35⟩, e35, rfl, x35⟩ := looks_ok orc 6 a b w hs28
      have o35 : G35.obj (G.nx + 1) = some ⟨zAns, 1, false, 1⟩ := (x35.obj _ (by omega)).trans p2
      have w0 : IntKind.wrap .i64 2 = 2 := wrap64 (by omega) (by omega)
      cases L with
      | nil =>
        simp [s17, Value.cells, hc, e5, e25, h1, hG, c33, ck, lo, w0, e35, st_ans o35, ld_ans, hCode, hNum, hWord, hIs, hz]
        exact (x0.trans x35).put (by omega) _
      | cons x L =>
        simp [s17, Value.cells, hc, e5, e25, h1, hG, c33, ck, lo, w0, e35, st_ans o35, ld_ans, hCode, hNum, hWord, hIs, hz]
        exact (x0.trans x35).put (by omega) _
  · simp [s17, Value.cells, hc, hk1, hk2, e5, hz, fillL, fillC, st_ans o2, ld_ans, hCode, hNum, hWord, hIs]
    exact (x3.trans x5).put (by omega) _
theorem ranswer_ok (orc : FuncId → Bool) {L : List It} (hlen : L.length < 2 ^ 40) {v0 : Value} (k a b w : Int) {G : GS} (hs : SlR rIt G v0 L) :
    Wp ((E orc).cl 18 [v0, opV k a b w] G) fun r => r.1 = .tuple #[ansV (hCode L k w) (hNum L k) (hWord L k), .bool (hIs L k w)] ∧ Ext G r.2 := by
  obtain ⟨av, cv, hv⟩ := hs.len
  have hln : ln Q true 22 v0 = some (.int .i64 L.length) := by rw [hv]; simp
  have x3 : Ext G ((G.push ⟨opC k a b w, 1, false, 1⟩).push ⟨zAns, 1, false, 1⟩) := ((Ext.refl G).push _).push _
  refine Wp.ref (f18 (exL_ok Q orc) _ _ G) ?_
  obtain ⟨G5, e5, x5⟩ := rcheck_ok orc (hs.ext x3) hlen
  obtain ⟨o1, o2, n5⟩ := x5.boxed2
  by_cases hz : ichk L = 0
  · obtain ⟨hl, hu⟩ := ichk_zero.1 hz
    rw [hz] at e5
    obtain ⟨⟨q, G13⟩, e13, rfl, x13⟩ := rplace_ok orc hlen w ((hs.ext x3).ext x5)
    have x0 := (x3.trans x5).trans x13
    have n13 := x13.nx
    have p1 : G13.obj G.nx = some ⟨opC k a b w, 1, false, 1⟩ := (x13.obj _ (by omega)).trans o1
    have p2 : G13.obj (G.nx + 1) = some ⟨zAns, 1, false, 1⟩ := (x13.obj _ (by omega)).trans o2
    have cw : G5.cell G.nx 3 = some (.int .u64 w) := by rw [cell_at' o1 (by decide)]; rfl
    have ck : G13.cell G.nx 0 = some (.int .i64 k) := by rw [cell_at' p1 (by decide)]; rfl
    have p3 : (G13.room 11).obj (G.nx + 1) = some ⟨zAns, 1, false, 1⟩ := p2
    by_cases h4 : k = 4
    · subst h4
      cases hk : hsK L w with
      | true =>
        rw [hk] at e13
        simp [s18, Value.cells, e5, cw, e13, ck, hln, fillL, fillC, splice_put, splice_end, splice_succ, st_ans p2, ld_ans, hCode, hNum, hWord, hIs, hz, hk]
        exact x0.put (by omega) _
      | false =>
        rw [hk] at e13
        simp [s18, Value.cells, e5, cw, e13, ck, hln, fillL, fillC, splice_put, splice_end, splice_succ, st_ans p2, ld_ans, hCode, hNum, hWord, hIs, hz, hk]
        exact ⟨by omega, x0.put (by omega) _⟩
    by_cases h56 : k = 5 ∨ k = 6
    · cases L with
      | nil =>
        simp at hln
        rcases h56 with rfl | rfl
        · simp [s18, Value.cells, e5, cw, e13, ck, hln, fillL, fillC, splice_put, splice_end, splice_succ, st_ans p2, ld_ans, hCode, hNum, hWord, hIs, hz]
          exact x0.put (by omega) _
        · simp [s18, Value.cells, e5, cw, e13, ck, hln, fillL, fillC, splice_put, splice_end, splice_succ, st_ans p2, ld_ans, hCode, hNum, hWord, hIs, hz]
          exact x0.put (by omega) _
      | cons x L =>
        obtain ⟨bb, o, c, hv', _, hk1, hk2, _⟩ := it_at (hs.ext (x0.room 11)) (i := 0) (by simp)
        simp at hk1 hk2
        have hp : (0 : Int) < ((x :: L).length : Nat) := by rw [List.length_cons]; omega
        have hp0 : ¬ (((x :: L).length : Nat) : Int) = 0 := by omega
        subst hv'
        have hcode : hCode (x :: L) k w = 0 := by simp [hCode, h4]
        have hnum : hNum (x :: L) k = x.2 := by simp [hNum, hz, h56]
        have hword : hWord (x :: L) k = x.1 := by simp [hWord, hz, h56]
        have his : hIs (x :: L) k w = true := by simp [hIs, hz, h4, h56]
        rw [hcode, hnum, hword, his]
        generalize hN : (x :: L).length = N at *
        have hp1 : 0 < N := by omega
        have hp2 : ¬ N = 0 := by omega
        rcases h56 with rfl | rfl
        · simp [s18, Value.cells, e5, cw, e13, ck, hln, hp, hp0, hp1, hp2, hk1, hk2, fillL, fillC, splice_put, splice_end, splice_succ, st_ans p3, ld_ans]
          exact (x0.room 11).put (by omega) _
        · simp [s18, Value.cells, e5, cw, e13, ck, hln, hp, hp0, hp1, hp2, hk1, hk2, fillL, fillC, splice_put, splice_end, splice_succ, st_ans p3, ld_ans]
          exact (x0.room 11).put (by omega) _
    · have h5 : ¬ k = 5 := fun h => h56 (.inl h)
      have h6 : ¬ k = 6 := fun h => h56 (.inr h)
      simp [s18, Value.cells, e5, cw, e13, ck, h4, h5, h6, hln, fillL, fillC, splice_put, splice_end, splice_succ, st_ans p2, ld_ans, hCode, hNum, hWord, hIs]
      exact x0.put (by omega) _
  · simp [s18, Value.cells, e5, hz, fillL, fillC, st_ans o2, ld_ans, hCode, hNum, hWord, hIs]
    exact (x3.trans x5).put (by omega) _
end Go.Proofs.Ytglafaecdpilgaa.Lift
