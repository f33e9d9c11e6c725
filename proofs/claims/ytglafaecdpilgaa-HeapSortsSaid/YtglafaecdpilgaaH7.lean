import Derived.Test.YtglafaecdpilgaaH6
set_option linter.unusedVariables false
set_option linter.unusedSimpArgs false
set_option maxRecDepth 20000
namespace Go.Proofs.Ytglafaecdpilgaa.Lift
open Go Go.Proofs.Ytglafaecdpilgaa.Gh Go.Proofs
/-- an item put between others: what is appended, in two steps, to a copy that was made behind room that was left -/
theorem splice_ok {A G : GS} {L : List It} {v0 vc : Value} {p n lo : Nat} (x : It) (hA : Ext A G) (hn : A.nx ≤ n) (hnl : n < lo) (hlo : lo ≤ G.nx) (hAl : A.nx ≤ lo) (hs : SlR rIt A v0 L) (hp : p ≤ L.length) (hc : OwR rIt lo G vc (L.take p)) (hlen : L.length < 2 ^ 40) :
    ∃ v1 G1 v2 v3 G3, appK 2 16 vc (.slice (some ⟨n, 0, none⟩) 1 1) (((G.at' n).push ⟨[.int .u64 x.1, .int .i64 x.2], 2, false, 1⟩).back G) = some (v1, G1) ∧ slK 2 v0 (some (.int .i64 p)) none none G1 = some v2 ∧ appK 2 16 v1 v2 G1 = some (v3, G3) ∧ Ext A G3 ∧ OwR rIt A.nx G3 v3 (L.take p ++ [x] ++ L.drop p) := by
  have hd : Ext A (((G.at' n).push ⟨rIt.row x, rIt.sz, false, 1⟩).back G) := hA.drawn hn _
  have hc' : OwR rIt A.nx (((G.at' n).push ⟨rIt.row x, rIt.sz, false, 1⟩).back G) vc (L.take p) := by
    refine OwR.same (hc.mono hAl) (by simp) fun a m c he => ?_
    have := hc.ge a m c he
    simp
    intro h; omega
  have hlt : (L.take p).length ≤ L.length := by simp; omega
  obtain ⟨v1, G1, a1, a2, a3⟩ := hc'.app (ib := 16) (by decide) hd (SlR.oneD rIt G x (n := n) (by omega)) (by simp; omega)
  obtain ⟨v2, b1, b2⟩ := (hs.ext a2).drop (k := .i64) hp
  obtain ⟨v3, G3, c1, c2, c3⟩ := a3.app (ib := 16) (by decide) a2 b2 (by simp; omega)
  exact ⟨v1, G1, v2, v3, G3, a1, b1, c1, c2, c3⟩
theorem roomless_ok (orc : FuncId → Bool) (c i u : Int) (G : GS) : ∃ G', (E orc).cl 55 [ansV c i u] G = some (.bool (decide (c = 7 ∧ i = 0 ∧ u = 0) || decide (c = 12 ∧ i = 0 ∧ u = 0)), G') ∧ Ext G G' := by
  refine ⟨_, f55 (exL_ok Q orc) _ G (_, G.push ⟨[.int .i64 c, .int .i64 i, .int .u64 u], 1, false, 1⟩) ?_, (Ext.refl G).push _⟩
  have hl : loadA 3 G.nx 0 (G.push ⟨[.int .i64 c, .int .i64 i, .int .u64 u], 1, false, 1⟩) = some (ansV c i u) := ld_an (by simp; exact ⟨rfl, rfl, rfl⟩) (by decide)
  by_cases h : c = 7 ∧ i = 0 ∧ u = 0
  · obtain ⟨rfl, rfl, rfl⟩ := h
    simp [s55, Value.cells, hl, fillL, fillC, splice_put, splice_end, splice_succ, eq_an]
  · have h' : decide (c = 7 ∧ i = 0 ∧ u = 0) = false := decide_eq_false h
    simp only [s55, Value.cells, bx_t, bS_some, lda_t, hl, bP_some, bd_t, zipF_cons, zipF_nil, fillL, fillC, splice_put, splice_end, splice_succ, bn_eq, h']
    simp [hl, fillL, fillC, splice_put, splice_end, splice_succ, eq_an, h, Value.cells]
def hRef (k c i u : Int) : Bool := decide (k = 4) && (decide (c = 7 ∧ i = 0 ∧ u = 0) || decide (c = 12 ∧ i = 0 ∧ u = 0))
noncomputable def hAcc (L : List It) (k w c i u : Int) : Bool := hIs L k w && decide (hCode L k w = c ∧ hNum L k = i ∧ hWord L k = u)
noncomputable def hOk (L : List It) (k w c i u : Int) : Bool := decide (ichk L = 0) && (hRef k c i u || hAcc L k w c i u)
noncomputable def hNext (L : List It) (k a w c i u : Int) : List It :=
  if hOk L k w c i u = true then (if hRef k c i u = true then L else if c ≠ 0 ∨ k = 6 then L else if k = 5 then L.drop 1 else L.take (pl L w) ++ [(w, a)] ++ L.drop (pl L w)) else []
/-- the program's Next, behind its look at refusals -/
noncomputable def t15 (q : Bool) (e : Ex) (v0 x0 x2 : Value) (G13 : GS) : Option (Value × GS) :=
  bP (lda Q q 25 4 x0 G13) fun x17 =>
  bS (e.ev.cl 17 [v0, x17] G13) fun x18 G19 =>
  bP (pExtract x18 0) fun x20 =>
  bP (pExtract x18 1) fun x21 =>
  bS (al Q q 28 z28 G19) fun x22 G23 =>
  bP (st Q q 28 3 x22 x20 G23) fun G24 =>
  bP (un Q q .not x21) fun x25 =>
  bS (gd x25 false (bP (lda Q q 28 3 x22 G24) fun y => some (y, G24)) G24) fun x26 G27 =>
  bS (gd x25 false (bP (lda Q q 28 3 x2 G27) fun y => some (y, G27)) G27) fun x28 G29 =>
  bS (gd x25 false (bP (bn Q q .neq 28 (.tmp 34) (.tmp 35) x26 x28) fun y => some (y, G29)) G29) fun x30 G31 =>
  bP (pickV x25 (.bool true) x30) fun x32 =>
  ifV x32 (
  some (.tuple #[(.slice none 0 0), (.bool false)], G31)) (
  bP (fa Q q 28 0 0 x2) fun x33 =>
  bP (ld Q q 26 x33 G31) fun x34 =>
  bP (bn Q q .neq 26 (.tmp 40) (.const (.int .i64 0)) x34 (.int .i64 0)) fun x35 =>
  bS (gd x35 false (bP (fa Q q 25 0 0 x0) fun y => some (y, G31)) G31) fun x36 G37 =>
  bS (gd x35 false (bP (ld Q q 3 x36 G37) fun y => some (y, G37)) G37) fun x38 G39 =>
  bS (gd x35 false (bP (bn Q q .eql 3 (.tmp 44) (.const (.int .i64 6)) x38 (.int .i64 6)) fun y => some (y, G39)) G39) fun x40 G41 =>
  bP (pickV x35 (.bool true) x40) fun x42 =>
  ifV x42 (
  bS (e.ev.cl 56 [v0] G41) fun x43 G44 =>
  some (.tuple #[x43, (.bool true)], G44)) (
  bP (fa Q q 25 0 0 x0) fun x45 =>
  bP (ld Q q 3 x45 G41) fun x46 =>
  bP (bn Q q .eql 3 (.tmp 51) (.const (.int .i64 5)) x46 (.int .i64 5)) fun x47 =>
  ifV x47 (
  bP (sl Q q 22 2 v0 (some (.int .i64 1)) none none G41) fun x48 =>
  bS (e.ev.cl 56 [x48] G41) fun x49 G50 =>
  some (.tuple #[x49, (.bool true)], G50)) (
  bP (fa Q q 25 3 3 x0) fun x51 =>
  bP (ld Q q 23 x51 G41) fun x52 =>
  bS (e.ev.cl 57 [v0, x52] G41) fun x53 G54 =>
  bP (pExtract x53 0) fun x55 =>
  bP (pExtract x53 1) fun x56 =>
  bP (sl Q q 22 2 v0 none (some x55) (some x55) (G54.room 13)) fun x57 =>
  bS (e.ev.cl 56 [x57] (G54.room 13)) fun x59 G58 =>
  bP (fa Q q 25 3 3 x0) fun x60 =>
  bP (ld Q q 23 x60 G58) fun x61 =>
  chk ((sameO (ld Q q 23 x60 (G54.room 13)) x61 && true)) <|
  bP (fa Q q 25 1 1 x0) fun x62 =>
  bP (ld Q q 3 x62 G58) fun x63 =>
  chk ((sameO (ld Q q 3 x62 (G54.room 13)) x63 && true)) <|
  bP (bd Q q 40 z40 [(0, 0, 1), (1, 1, 1)] [x61, x63]) fun x64 =>
  bS (bs Q q 22 1 (rep z40 1) 2 [(0, 0, 2)] [x64] (G58.at' (G54.nx + 10))) fun x65 G66 =>
  bS (ap Q q 22 22 2 16 x59 x65 (G66.back G58)) fun x68 G67 =>
  bP (sl Q q 22 2 v0 (some x55) none none G67) fun x69 =>
  bS (ap Q q 22 22 2 16 x68 x69 G67) fun x70 G71 =>
  some (.tuple #[x70, (.bool true)], G71))))
/-- the document's -/
noncomputable def t16 (q : Bool) (e : Ex) (v0 x0 x2 : Value) (G25 : GS) : Option (Value × GS) :=
  bP (lda Q q 25 4 x0 G25) fun x29 =>
  bS (e.ev.cl 18 [v0, x29] G25) fun x30 G31 =>
  bP (pExtract x30 0) fun x32 =>
  bP (pExtract x30 1) fun x33 =>
  bS (al Q q 28 z28 G31) fun x34 G35 =>
  bP (st Q q 28 3 x34 x32 G35) fun G36 =>
  bP (un Q q .not x33) fun x37 =>
  bS (gd x37 false (bP (lda Q q 28 3 x2 G36) fun y => some (y, G36)) G36) fun x38 G39 =>
  bS (gd x37 false (bP (lda Q q 28 3 x34 G39) fun y => some (y, G39)) G39) fun x40 G41 =>
  bS (gd x37 false (bP (bn Q q .neq 28 (.tmp 38) (.tmp 39) x38 x40) fun y => some (y, G41)) G41) fun x42 G43 =>
  bP (pickV x37 (.bool true) x42) fun x44 =>
  ifV x44 (
  some (.tuple #[(.slice none 0 0), (.bool false)], G43)) (
  bP (fa Q q 28 0 0 x2) fun x45 =>
  bP (ld Q q 26 x45 G43) fun x46 =>
  bP (bn Q q .eql 26 (.tmp 44) (.const (.int .i64 0)) x46 (.int .i64 0)) fun x47 =>
  bS (gd x47 true (bP (fa Q q 25 0 0 x0) fun y => some (y, G43)) G43) fun x48 G49 =>
  bS (gd x47 true (bP (ld Q q 3 x48 G49) fun y => some (y, G49)) G49) fun x50 G51 =>
  bS (gd x47 true (bP (bn Q q .eql 3 (.tmp 48) (.const (.int .i64 4)) x50 (.int .i64 4)) fun y => some (y, G51)) G51) fun x52 G53 =>
  bP (pickV x47 x52 (.bool false)) fun x54 =>
  ifV x54 (
  bP (fa Q q 25 3 3 x0) fun x55 =>
  bP (ld Q q 23 x55 G53) fun x56 =>
  bP (fa Q q 25 1 1 x0) fun x57 =>
  bP (ld Q q 3 x57 G53) fun x58 =>
  bP (bd Q q 40 z40 [(0, 0, 1), (1, 1, 1)] [x56, x58]) fun x59 =>
  bS (e.ev.cl 58 [v0, x59] G53) fun x60 G61 =>
  some (.tuple #[x60, (.bool true)], G61)) (
  bP (fa Q q 28 0 0 x2) fun x62 =>
  bP (ld Q q 26 x62 G53) fun x63 =>
  bP (bn Q q .eql 26 (.tmp 60) (.const (.int .i64 0)) x63 (.int .i64 0)) fun x64 =>
  bS (gd x64 true (bP (fa Q q 25 0 0 x0) fun y => some (y, G53)) G53) fun x65 G66 =>
  bS (gd x64 true (bP (ld Q q 3 x65 G66) fun y => some (y, G66)) G66) fun x67 G68 =>
  bS (gd x64 true (bP (bn Q q .eql 3 (.tmp 64) (.const (.int .i64 5)) x67 (.int .i64 5)) fun y => some (y, G68)) G68) fun x69 G70 =>
  bP (pickV x64 x69 (.bool false)) fun x71 =>
  ifV x71 (
  bP (sl Q q 22 2 v0 (some (.int .i64 1)) none none G70) fun x72 =>
  bS (e.ev.cl 14 [x72] G70) fun x73 G74 =>
  some (.tuple #[x73, (.bool true)], G74)) (
  bS (e.ev.cl 14 [v0] G70) fun x75 G76 =>
  some (.tuple #[x75, (.bool true)], G76))))
theorem t15_ok (orc : FuncId → Bool) (ho : orc 59 = false) {L : List It} (hlen : L.length < 2 ^ 39) {v0 : Value} (k a b w c i u : Int) {G G13 : GS} (hz : ichk L = 0) (hs : SlR rIt G13 v0 L) (hr : hRef k c i u = false) (hn : G.nx + 2 ≤ G13.nx) (hx : Ext G G13)
    (p1 : G13.obj G.nx = some ⟨opC k a b w, 1, false, 1⟩) (p2 : G13.obj (G.nx + 1) = some ⟨[.int .i64 c, .int .i64 i, .int .u64 u], 1, false, 1⟩) :
    Wp (t15 true (exL Q orc) v0 (P1 G.nx) (P1 (G.nx + 1)) G13) fun r => Ext G r.2 ∧ ∃ v', r.1 = .tuple #[v', .bool (hOk L k w c i u)] ∧ OwR rIt G.nx r.2 v' (hNext L k a w c i u) := by
  obtain ⟨hl, hu⟩ := ichk_zero.1 hz
  have hok : hOk L k w c i u = hAcc L k w c i u := by simp [hOk, hz, hr]
  obtain ⟨⟨q, G19⟩, e19, rfl, x19⟩ := answer_ok orc ho (by omega) k a b w hs
  simp only at x19
  have n19 := x19.nx
  have x24 : Ext G13 ((G19.push ⟨zAns, 1, false, 1⟩).put G19.nx ⟨[.int .i64 (hCode L k w), .int .i64 (hNum L k), .int .u64 (hWord L k)], 1, false, 1⟩) := (x19.push _).put n19 _
  have s24 : storeN 3 G19.nx 0 (ansV (hCode L k w) (hNum L k) (hWord L k)) (G19.push ⟨zAns, 1, false, 1⟩) = some ((G19.push ⟨zAns, 1, false, 1⟩).put G19.nx ⟨[.int .i64 (hCode L k w), .int .i64 (hNum L k), .int .u64 (hWord L k)], 1, false, 1⟩) := st_ans (by simp; exact ⟨rfl, rfl, rfl⟩) _ _ _
  have l24 := ld_ans (G19.push ⟨zAns, 1, false, 1⟩) G19.nx 1 false (hCode L k w) (hNum L k) (hWord L k)
  have q1 := (x24.obj G.nx (by omega)).trans p1
  have q2 := (x24.obj (G.nx + 1) (by omega)).trans p2
  have n24 : G.nx + 2 ≤ ((G19.push ⟨zAns, 1, false, 1⟩).put G19.nx ⟨[.int .i64 (hCode L k w), .int .i64 (hNum L k), .int .u64 (hWord L k)], 1, false, 1⟩).nx := by simp; omega
  have hs24 := hs.ext x24
  have x0 := hx.trans x24
  have lo := ld_op p1 (by decide)
  generalize hG : ((G19.push ⟨zAns, 1, false, 1⟩).put G19.nx ⟨[.int .i64 (hCode L k w), .int .i64 (hNum L k), .int .u64 (hWord L k)], 1, false, 1⟩) = G24 at *
  have la2 := ld_an q2 (by decide)
  have ck : G24.cell G.nx 0 = some (.int .i64 k) := by rw [cell_at' q1 (by decide)]; rfl
  have cw : G24.cell G.nx 3 = some (.int .u64 w) := by rw [cell_at' q1 (by decide)]; rfl
  have cc : G24.cell (G.nx + 1) 0 = some (.int .i64 c) := by rw [cell_at' q2 (by decide)]; rfl
  have heq := ne_an (.tmp 34) (.tmp 35) (hCode L k w) (hNum L k) (hWord L k) c i u
  have hacc : hAcc L k w c i u = (hIs L k w && decide (hCode L k w = c ∧ hNum L k = i ∧ hWord L k = u)) := rfl
  cases hi : hIs L k w with
  | false =>
    have h1 : hAcc L k w c i u = false := by simp [hacc, hi]
    rw [hok, h1]
    have h2 : hNext L k a w c i u = [] := by simp [hNext, hok, h1]
    rw [hi] at e19
    simp [t15, lo, e19, s24, hG, h2]
    exact ⟨x0, OwR.nil _ _⟩
  | true =>
    rw [hi] at e19
    by_cases hm : hCode L k w = c ∧ hNum L k = i ∧ hWord L k = u
    · have h1 : hAcc L k w c i u = true := by simp [hacc, hi, hm]
      rw [hok, h1]
      rw [decide_eq_true hm] at heq
      by_cases hc : c ≠ 0 ∨ k = 6
      · have h2 : hNext L k a w c i u = L := by unfold hNext; rw [if_pos (by rw [hok, h1]), if_neg (by simp [hr]), if_pos hc]
        obtain ⟨v', G44, e44, x44, o44⟩ := clone_ok orc hs24 (by omega)
        rw [h2]
        by_cases hc0 : c = 0
        · have hk6 : k = 6 := hc.resolve_left (fun h => h hc0)
          subst hk6 hc0
          simp [t15, lo, e19, s24, hG, l24, la2, heq, cc, ck, e44]
          exact ⟨x0.trans x44, o44.mono (by omega)⟩
        · simp [t15, lo, e19, s24, hG, l24, la2, heq, cc, ck, hc0, e44]
          exact ⟨x0.trans x44, o44.mono (by omega)⟩
      · have hc0 : c = 0 := by
          by_cases h : c = 0
          · exact h
          · exact absurd (.inl h) hc
        have hk6 : ¬ k = 6 := fun h => hc (.inr h)
        by_cases hk5 : k = 5
        · have h2 : hNext L k a w c i u = L.drop 1 := by unfold hNext; rw [if_pos (by rw [hok, h1]), if_neg (by simp [hr]), if_neg hc, if_pos hk5]
          have hL : 1 ≤ L.length := by
            cases L with
            | nil => have := hm.1; simp [hCode, hz, hk5] at this; omega
            | cons x L => simp
          obtain ⟨vd, d1, d2⟩ := hs24.drop (k := .i64) hL
          obtain ⟨v', G50, e50, x50, o50⟩ := clone_ok orc d2 (by simp; omega)
          obtain ⟨av, cv, hv⟩ := hs24.len
          rw [h2]
          subst hk5 hc0
          have d3 : sl Q true 22 2 v0 (some (.int .i64 1)) none none G24 = some vd := by rw [hv] at d1 ⊢; simpa using d1
          simp [t15, lo, e19, s24, hG, l24, la2, heq, cc, ck, d3, e50]
          exact ⟨x0.trans x50, by simpa using o50.mono (by omega)⟩
        · have hk4 : k = 4 := by
            have : hIs L k w = true := hi
            simp [hIs, hz] at this
            by_cases h : k = 4
            · exact h
            · simp [h, hk5, hk6] at this
          have h2 : hNext L k a w c i u = L.take (pl L w) ++ [(w, a)] ++ L.drop (pl L w) := by unfold hNext; rw [if_pos (by rw [hok, h1]), if_neg (by simp [hr]), if_neg hc, if_neg hk5]
          obtain ⟨⟨q, G54⟩, e54, rfl, x54⟩ := place_ok orc hu hl w hs24
          have hp := pl_le L w
          obtain ⟨_, vt, t1, t2⟩ := ((hs24.ext x54).ext ((Ext.refl G54).room 13)).take (k := .i64) hp
          obtain ⟨vc, G58, e58, x58, o58⟩ := clone_ok orc t2 (by simp; omega)
          simp only at x54
          have n54 := x54.nx
          have n58 := x58.nx
          simp at n58
          have r1 : G58.obj G.nx = some ⟨opC k a b w, 1, false, 1⟩ := by rw [x58.obj _ (by simp; omega)]; simp; rw [x54.obj _ (by omega)]; exact q1
          have cw8 : G58.cell G.nx 3 = some (.int .u64 w) := by rw [cell_at' r1 (by decide)]; rfl
          have ca8 : G58.cell G.nx 1 = some (.int .i64 a) := by rw [cell_at' r1 (by decide)]; rfl
          have r2 : (G54.room 13).obj G.nx = some ⟨opC k a b w, 1, false, 1⟩ := by simp; rw [x54.obj _ (by omega)]; exact q1
          have cw7 : (G54.room 13).cell G.nx 3 = some (.int .u64 w) := by rw [cell_at' r2 (by decide)]; rfl
          have ca7 : (G54.room 13).cell G.nx 1 = some (.int .i64 a) := by rw [cell_at' r2 (by decide)]; rfl
          obtain ⟨v1, G1, v2, v3, G3, a1, a2, a3, a4, a5⟩ := splice_ok (A := G54) (G := G58) (n := G54.nx + 10) (lo := (G54.room 13).nx) (w, a) (((Ext.refl G54).room 13).trans x58) (by omega) (by simp) (by simpa using n58) (by simp) (hs24.ext x54) hp o58 (by omega)
          obtain ⟨av, cv, hv⟩ := hs.len
          have t3 : sl Q true 22 2 v0 none (some (.int .i64 (pl L w))) (some (.int .i64 (pl L w))) (G54.room 13) = some vt := by rw [hv] at t1 ⊢; simpa using t1
          have a6 : sl Q true 22 2 v0 (some (.int .i64 (pl L w))) none none G1 = some v2 := by rw [hv] at a2 ⊢; simpa using a2
          rw [h2]
          subst hk4 hc0
          simp only at a1
          simp [t15, lo, e19, s24, hG, l24, la2, heq, cc, ck, cw, e54, t3, e58, cw8, ca8, cw7, ca7, fillL, fillS, fillC, splice_put, splice_end, splice_succ, Value.cells, rep, a1, a6, a3]
          exact ⟨(x0.trans x54).trans a4, by simpa using a5.mono (by omega)⟩
    · have h1 : hAcc L k w c i u = false := by simp [hacc, hi, hm]
      rw [hok, h1]
      have h2 : hNext L k a w c i u = [] := by simp [hNext, hok, h1]
      rw [decide_eq_false hm] at heq
      simp [t15, lo, e19, s24, hG, l24, la2, heq, h2]
      exact ⟨x0, OwR.nil _ _⟩
theorem next_ok (orc : FuncId → Bool) (ho : orc 59 = false) {L : List It} (hlen : L.length < 2 ^ 39) {v0 : Value} (k a b w c i u : Int) {G : GS} (hs : SlR rIt G v0 L) :
    Wp ((E orc).cl 15 [v0, opV k a b w, ansV c i u] G) fun r => Ext G r.2 ∧ ∃ v', r.1 = .tuple #[v', .bool (hOk L k w c i u)] ∧ OwR rIt G.nx r.2 v' (hNext L k a w c i u) := by
  have x3 : Ext G ((G.push ⟨opC k a b w, 1, false, 1⟩).push ⟨[.int .i64 c, .int .i64 i, .int .u64 u], 1, false, 1⟩) := ((Ext.refl G).push _).push _
  refine Wp.ref (f15 (exL_ok Q orc) _ _ _ G) ?_
  obtain ⟨G5, e5, x5⟩ := check_ok orc (hs.ext x3) (by omega)
  obtain ⟨o1, o2, n5⟩ := x5.boxed2
  have x05 := x3.trans x5
  by_cases hz : ichk L = 0
  · rw [hz] at e5
    have ck5 : G5.cell G.nx 0 = some (.int .i64 k) := by rw [cell_at' o1 (by decide)]; rfl
    have la5 := ld_an o2 (by decide)
    obtain ⟨G13, e13, x13⟩ := roomless_ok orc c i u G5
    have n13 := x13.nx
    cases hr : hRef k c i u with
    | true =>
      have hk4 : k = 4 := by simp [hRef] at hr; exact hr.1
      subst hk4
      have hrr : (decide (c = 7 ∧ i = 0 ∧ u = 0) || decide (c = 12 ∧ i = 0 ∧ u = 0)) = true := by simpa [hRef] using hr
      rw [hrr] at e13
      obtain ⟨v', G16, e16, x16, o16⟩ := clone_ok orc ((hs.ext x05).ext x13) (by omega)
      have hok : hOk L 4 w c i u = true := by simp [hOk, hz, hr]
      have hnx : hNext L 4 a w c i u = L := by simp [hNext, hok, hr]
      simp [s15, Value.cells, e5, ck5, la5, e13, e16, hok, hnx]
      exact ⟨(x05.trans x13).trans x16, o16.mono (by have := (x05.trans x13).nx; omega)⟩
    | false =>
      by_cases hk4 : k = 4
      · subst hk4
        have hrr : (decide (c = 7 ∧ i = 0 ∧ u = 0) || decide (c = 12 ∧ i = 0 ∧ u = 0)) = false := by simpa [hRef] using hr
        rw [hrr] at e13
        simp [s15, Value.cells, e5, ck5, la5, e13]
        have := t15_ok orc ho hlen 4 a b w c i u (G := G) hz ((hs.ext x05).ext x13) hr (by omega) (x05.trans x13) ((x13.obj _ (by omega)).trans o1) ((x13.obj _ (by omega)).trans o2)
        simpa [t15] using this
      · simp [s15, Value.cells, e5, ck5, la5, hk4]
        have := t15_ok orc ho hlen k a b w c i u (G := G) hz (hs.ext x05) hr (by omega) x05 o1 o2
        simpa [t15] using this
  · have hok : hOk L k w c i u = false := by simp [hOk, hz]
    have hnx : hNext L k a w c i u = [] := by simp [hNext, hok]
    rw [hok, hnx]
    simp [s15, Value.cells, e5, hz]
    exact ⟨x05, OwR.nil _ _⟩
end Go.Proofs.Ytglafaecdpilgaa.Lift
