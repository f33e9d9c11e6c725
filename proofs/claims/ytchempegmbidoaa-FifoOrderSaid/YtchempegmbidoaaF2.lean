import Derived.Test.YtchempegmbidoaaF1
set_option linter.unusedVariables false
set_option linter.unusedSimpArgs false
namespace Go.Proofs.Ytchempegmbidoaa.Lift
open Go Go.Proofs.Ytchempegmbidoaa.Gh Go.Proofs
/-- an operation, an answer -/
structure Op4 where
  (k a b w : Int)
deriving DecidableEq
structure An3 where
  (c i u : Int)
deriving DecidableEq
def Op4.row (o : Op4) : List Value := [.int .i64 o.k, .int .i64 o.a, .int .i64 o.b, .int .u64 o.w]
def An3.row (o : An3) : List Value := [.int .i64 o.c, .int .i64 o.i, .int .u64 o.u]
def opsV (l : List Op4) : List Value := (l.map Op4.row).flatten
def ansVs (l : List An3) : List Value := (l.map An3.row).flatten
theorem opsV_cons (o : Op4) (l : List Op4) : opsV (o :: l) = o.row ++ opsV l := by simp [opsV]
theorem ansVs_cons (o : An3) (l : List An3) : ansVs (o :: l) = o.row ++ ansVs l := by simp [ansVs]
theorem ansVs_snoc (l : List An3) (o : An3) : ansVs l ++ o.row = ansVs (l ++ [o]) := by simp [ansVs]
@[simp] theorem opsV_length : ∀ l : List Op4, (opsV l).length = l.length * 4
  | [] => rfl
  | o :: l => by rw [opsV_cons, List.length_append, opsV_length l]; simp [Op4.row]; omega
@[simp] theorem ansVs_length : ∀ l : List An3, (ansVs l).length = l.length * 3
  | [] => rfl
  | o :: l => by rw [ansVs_cons, List.length_append, ansVs_length l]; simp [An3.row]; omega
theorem opsV_drop : ∀ (l : List Op4) (i : Nat) (h : i < l.length), ((opsV l).drop (i * 4)).take 4 = l[i].row
  | o :: l, 0, h => by rw [opsV_cons]; simp [Op4.row]
  | o :: l, i + 1, h => by
    have := opsV_drop l i (by simpa using h)
    rw [opsV_cons, show (i + 1) * 4 = o.row.length + i * 4 by simp [Op4.row]; omega, ← List.drop_drop, List.drop_left]
    simpa using this
theorem ansVs_drop : ∀ (l : List An3) (i : Nat) (h : i < l.length), ((ansVs l).drop (i * 3)).take 3 = l[i].row
  | o :: l, 0, h => by rw [ansVs_cons]; simp [An3.row]
  | o :: l, i + 1, h => by
    have := ansVs_drop l i (by simpa using h)
    rw [ansVs_cons, show (i + 1) * 3 = o.row.length + i * 3 by simp [An3.row]; omega, ← List.drop_drop, List.drop_left]
    simpa using this
/-- what plays: the answers, and the queue -/
def playA (cap : Int) : List Int → List Op4 → List An3
  | _, [] => []
  | L, o :: l => ⟨dCode cap L o.k, 0, dWord L o.k⟩ :: playA cap (dNext cap L o.k o.w) l
def playL (cap : Int) : List Int → List Op4 → List Int
  | L, [] => L
  | L, o :: l => playL cap (dNext cap L o.k o.w) l
end Go.Proofs.Ytchempegmbidoaa.Lift

set_option linter.unusedVariables false
set_option linter.unusedSimpArgs false
namespace Go.Proofs.Ytchempegmbidoaa.Gh
open Go Go.Proofs
/-- an element that is loaded whole -/
theorem SlIs.load {G : GS} {sz n : Nat} {v : Value} {cs : List Value} (h : SlIs G (sz + 1) v n cs) {i : Nat} (hi : i < n) :
    ∃ b o c, v = .slice (some ⟨b, o, none⟩) n c ∧ b < G.nx ∧ loadA (sz + 1) b (o + i * (sz + 1)) G = some (.agg ⟨(cs.drop (i * (sz + 1))).take (sz + 1)⟩) := by
  rcases h.2 with ⟨rfl, rfl⟩ | ⟨b, o, c, ob, rfl, h2, h3, h4, h5, h6⟩
  · omega
  · refine ⟨b, o, c, rfl, h3, ?_⟩
    have hlen := h.1
    have hle : i * (sz + 1) + (sz + 1) ≤ n * (sz + 1) := by
      have : (i + 1) * (sz + 1) ≤ n * (sz + 1) := Nat.mul_le_mul_right _ hi
      rw [Nat.add_mul] at this; omega
    have hin : o + i * (sz + 1) + (sz + 1) ≤ ob.cells.length := by
      have h7 := h6 (i * (sz + 1) + sz) (by omega)
      rw [List.getElem?_eq_getElem (l := cs) (by omega)] at h7
      have := (List.getElem?_eq_some_iff.1 h7).1
      omega
    rw [loadA_eq, h4]
    simp only [loadO, if_neg h5, if_pos hin]
    congr 3
    apply List.ext_getElem?
    intro j
    simp only [List.getElem?_take, List.getElem?_drop]
    split
    · rw [Nat.add_assoc]; exact h6 _ (by omega)
    · rfl
end Go.Proofs.Ytchempegmbidoaa.Gh

set_option linter.unusedVariables false
set_option linter.unusedSimpArgs false
namespace Go.Proofs.Ytchempegmbidoaa.Lift
open Go Go.Proofs.Ytchempegmbidoaa.Gh Go.Proofs
theorem loadA_room (n b o m : Nat) (G : GS) : loadA (n + 1) b o (G.room m) = loadA (n + 1) b o G := by rw [loadA_eq, loadA_eq, obj_room]
theorem opsV_one (l : List Op4) : (opsV l).all one = true := by
  rw [List.all_eq_true]
  intro x hx
  simp only [opsV, List.mem_flatten, List.mem_map] at hx
  obtain ⟨r, ⟨o, _, rfl⟩, hx⟩ := hx
  simp [Op4.row] at hx
  rcases hx with rfl | rfl | rfl | rfl <;> rfl
theorem eq_op (x y : Operand) (o p : Op4) : gBinF Q .eql 53 x y (.agg ⟨o.row⟩) (.agg ⟨p.row⟩) = some (.bool (decide (o = p))) := by
  obtain ⟨a, b, c, d⟩ := o
  obtain ⟨a', b', c', d'⟩ := p
  rw [Op4.row, Op4.row, eql_53]
  congr 2
  rw [Bool.eq_iff_iff]
  simp
theorem eq_an (x y : Operand) (o p : An3) : gBinF Q .eql 55 x y (.agg ⟨o.row⟩) (.agg ⟨p.row⟩) = some (.bool (decide (o = p))) := by
  obtain ⟨a, b, c⟩ := o
  obtain ⟨a', b', c'⟩ := p
  rw [An3.row, An3.row, eql_55]
  congr 2
  rw [Bool.eq_iff_iff]
  simp
theorem copyOps (orc : FuncId → Bool) {n : Nat} {A : List Op4} {v0 : Value} {G : GS} (hA : SlIs G 4 v0 n (opsV A)) (hlt : n < 2 ^ 40) :
    ∃ v' G', (E orc).cl 43 [v0] G = some (v', G') ∧ Ext G G' ∧ OwnL G.nx G' 4 v' n (opsV A) := by
  have h0 : OwnL G.nx (G.push ⟨[], 4, false, 1⟩) 4 (.slice (some ⟨G.nx, 0, none⟩) 0 0) 0 [] := ⟨by simp, .inr ⟨G.nx, false, rfl, Nat.le_refl _, by simp, by simp⟩⟩
  obtain ⟨v', G', h1, h2, h3⟩ := app_ok (ib := 32) (by omega) (by omega) ((Ext.refl G).push ⟨[], 4, false, 1⟩) h0 (hA.ext ((Ext.refl G).push _)) (opsV_one A) (by omega)
  refine ⟨v', G', ?_, h2, by simpa using h3⟩
  rw [c43]
  simp [s43, fillS, fillC, h1]
theorem sameOps_lp (orc : FuncId → Bool) (A B : List Op4) (v0 v1 : Value) : ∀ (k i : Nat) (s : Bool) (T : List Value) (G : GS), i + k = A.length → T.length = 31 → nth undef T 0 = v0 → nth undef T 1 = v1 → nth undef T 5 = .bool s → nth undef T 6 = .int .i64 i →
    SlIs G 4 v0 A.length (opsV A) → SlIs G 4 v1 B.length (opsV B) → A.length < 2 ^ 47 → (s = true → A.length = B.length) →
    Wp ((E orc).lp (subAt [1, 1, 0, 1, 0, 0] (bodyOf Try.f48)) T G) fun r => r.1 = .exit 0 ∧ Ext G r.2.2 ∧ nth undef r.2.1 5 = .bool (s && decide (A.drop i = B.drop i)) := by
  intro k
  induction k with
  | zero =>
    intro i s T G hi hT h0 h1 h5 h6 hA hB hlt hs
    have hi' : i = A.length := by omega
    obtain ⟨a, c, ha⟩ := hA.len
    refine Wp.up (l48_0 orc T G hT) ?_
    cases s with
    | false => simp [b48_0, h0, h1, h5, h6, Ext.refl]
    | true =>
      have hd : A.drop i = B.drop i := by
        rw [hi', List.drop_length, List.drop_of_length_le (by rw [hs rfl]; omega)]
      simp [b48_0, h0, h1, h5, h6, ha, hd, Ext.refl]
      simp [hi', Ext.refl]
  | succ k ih =>
    intro i s T G hi hT h0 h1 h5 h6 hA hB hlt hs
    refine Wp.up (l48_0 orc T G hT) ?_
    cases s with
    | false => simp [b48_0, h0, h1, h5, h6, Ext.refl]
    | true =>
      have hl := hs rfl
      have hiA : i < A.length := by omega
      have hiB : i < B.length := by omega
      obtain ⟨b, o, c, e0, hb, hc⟩ := hA.load hiA
      obtain ⟨b', o', c', e1, hb', hc'⟩ := hB.load hiB
      rw [opsV_drop _ _ hiA] at hc
      rw [opsV_drop _ _ hiB] at hc'
      simp only [Nat.reduceAdd] at hc hc'
      have hw : IntKind.wrap .i64 ((i : Int) + 1) = ((i + 1 : Nat) : Int) := wrap64 (by omega) (by omega)
      have hi0 : (0 : Int) ≤ i := by omega
      rw [drop_cons hiA hiB]
      simp only [b48_0, h0, h1, h5, h6]
      simp [e0, e1, hc, hc', eq_op, loadA_room, hw, hiA, hiB, hi0]
      have he : Ext G (G.room 10) := (Ext.refl G).room 10
      refine (ih (i + 1) (decide (A[i] = B[i])) _ (G.room 10) ?_ ?_ ?_ ?_ ?_ ?_ (hA.ext he) (hB.ext he) hlt (fun _ => hl)).mono ?_
      · omega
      · rfl
      · exact e0.symm
      · exact e1.symm
      · rfl
      · rfl
      · rintro r ⟨h1, h2, h3⟩
        exact ⟨h1, he.trans h2, h3⟩
theorem sameOps (orc : FuncId → Bool) {A B : List Op4} {v0 v1 : Value} {G : GS} (hA : SlIs G 4 v0 A.length (opsV A)) (hB : SlIs G 4 v1 B.length (opsV B)) (hlt : A.length < 2 ^ 47) :
    ∃ G', (E orc).cl 48 [v0, v1] G = some (.bool (decide (A = B)), G') ∧ Ext G G' := by
  obtain ⟨a, c, ha⟩ := hA.len
  obtain ⟨b, d, hb⟩ := hB.len
  have hd : (decide ((A.length : Int) = (B.length : Int)) && decide (A.drop 0 = B.drop 0)) = decide (A = B) := by
    by_cases h : A = B
    · simp [h]
    · simp [h]
  obtain ⟨⟨e, T', G'⟩, hlp, h1, h2, h3⟩ := sameOps_lp orc A B v0 v1 A.length 0 (decide ((A.length : Int) = (B.length : Int)))
    [v0, v1, undef, undef, (.bool false), .bool (decide ((A.length : Int) = (B.length : Int))), (.int .i64 0), v0, .int .i64 A.length, v1, .int .i64 B.length, .bool (decide ((A.length : Int) = (B.length : Int))), undef, undef, undef, undef, undef, undef, undef, undef, undef, undef, undef, undef, undef, undef, undef, undef, undef, undef, undef] G (by omega) rfl rfl rfl rfl rfl hA hB hlt (fun h => by simp at h; omega)
  rw [hd] at h3
  simp only at h1 h2 h3
  subst h1
  refine ⟨G', c48 orc v0 v1 G ?_, h2⟩
  subst ha
  subst hb
  simp only [s48, ln_65, bP_some, bin_eql, hlp, bX_some, ifE_same, h3]
theorem sameAnswers_lp (orc : FuncId → Bool) (A B : List An3) (v0 v1 : Value) : ∀ (k i : Nat) (s : Bool) (T : List Value) (G : GS), i + k = A.length → T.length = 31 → nth undef T 0 = v0 → nth undef T 1 = v1 → nth undef T 5 = .bool s → nth undef T 6 = .int .i64 i →
    SlIs G 3 v0 A.length (ansVs A) → SlIs G 3 v1 B.length (ansVs B) → A.length < 2 ^ 47 → (s = true → A.length = B.length) →
    Wp ((E orc).lp (subAt [1, 1, 0, 1, 0, 0] (bodyOf Try.f46)) T G) fun r => r.1 = .exit 0 ∧ Ext G r.2.2 ∧ nth undef r.2.1 5 = .bool (s && decide (A.drop i = B.drop i)) := by
  intro k
  induction k with
  | zero =>
    intro i s T G hi hT h0 h1 h5 h6 hA hB hlt hs
    have hi' : i = A.length := by omega
    obtain ⟨a, c, ha⟩ := hA.len
    refine Wp.up (l46_0 orc T G hT) ?_
    cases s with
    | false => simp [b46_0, h0, h1, h5, h6, Ext.refl]
    | true =>
      have hd : A.drop i = B.drop i := by
        rw [hi', List.drop_length, List.drop_of_length_le (by rw [hs rfl]; omega)]
      simp [b46_0, h0, h1, h5, h6, ha, hd, Ext.refl]
      simp [hi', Ext.refl]
  | succ k ih =>
    intro i s T G hi hT h0 h1 h5 h6 hA hB hlt hs
    refine Wp.up (l46_0 orc T G hT) ?_
    cases s with
    | false => simp [b46_0, h0, h1, h5, h6, Ext.refl]
    | true =>
      have hl := hs rfl
      have hiA : i < A.length := by omega
      have hiB : i < B.length := by omega
      obtain ⟨b, o, c, e0, hb, hc⟩ := hA.load hiA
      obtain ⟨b', o', c', e1, hb', hc'⟩ := hB.load hiB
      rw [ansVs_drop _ _ hiA] at hc
      rw [ansVs_drop _ _ hiB] at hc'
      simp only [Nat.reduceAdd] at hc hc'
      have hw : IntKind.wrap .i64 ((i : Int) + 1) = ((i + 1 : Nat) : Int) := wrap64 (by omega) (by omega)
      have hi0 : (0 : Int) ≤ i := by omega
      rw [drop_cons hiA hiB]
      simp only [b46_0, h0, h1, h5, h6]
      simp [e0, e1, hc, hc', eq_an, loadA_room, hw, hiA, hiB, hi0]
      have he : Ext G (G.room 10) := (Ext.refl G).room 10
      refine (ih (i + 1) (decide (A[i] = B[i])) _ (G.room 10) ?_ ?_ ?_ ?_ ?_ ?_ (hA.ext he) (hB.ext he) hlt (fun _ => hl)).mono ?_
      · omega
      · rfl
      · exact e0.symm
      · exact e1.symm
      · rfl
      · rfl
      · rintro r ⟨h1, h2, h3⟩
        exact ⟨h1, he.trans h2, h3⟩
theorem sameAnswers (orc : FuncId → Bool) {A B : List An3} {v0 v1 : Value} {G : GS} (hA : SlIs G 3 v0 A.length (ansVs A)) (hB : SlIs G 3 v1 B.length (ansVs B)) (hlt : A.length < 2 ^ 47) :
    ∃ G', (E orc).cl 46 [v0, v1] G = some (.bool (decide (A = B)), G') ∧ Ext G G' := by
  obtain ⟨a, c, ha⟩ := hA.len
  obtain ⟨b, d, hb⟩ := hB.len
  have hd : (decide ((A.length : Int) = (B.length : Int)) && decide (A.drop 0 = B.drop 0)) = decide (A = B) := by
    by_cases h : A = B
    · simp [h]
    · simp [h]
  obtain ⟨⟨e, T', G'⟩, hlp, h1, h2, h3⟩ := sameAnswers_lp orc A B v0 v1 A.length 0 (decide ((A.length : Int) = (B.length : Int)))
    [v0, v1, undef, undef, (.bool false), .bool (decide ((A.length : Int) = (B.length : Int))), (.int .i64 0), v0, .int .i64 A.length, v1, .int .i64 B.length, .bool (decide ((A.length : Int) = (B.length : Int))), undef, undef, undef, undef, undef, undef, undef, undef, undef, undef, undef, undef, undef, undef, undef, undef, undef, undef, undef] G (by omega) rfl rfl rfl rfl rfl hA hB hlt (fun h => by simp at h; omega)
  rw [hd] at h3
  simp only at h1 h2 h3
  subst h1
  refine ⟨G', c46 orc v0 v1 G ?_, h2⟩
  subst ha
  subst hb
  simp only [s46, ln_67, bP_some, bin_eql, hlp, bX_some, ifE_same, h3]
end Go.Proofs.Ytchempegmbidoaa.Lift

set_option linter.unusedVariables false
set_option linter.unusedSimpArgs false
namespace Go.Proofs.Ytchempegmbidoaa.Lift
open Go Go.Proofs.Ytchempegmbidoaa.Gh Go.Proofs
/-- written over: no other block is touched -/
theorem aoverm_lp (orc : FuncId → Bool) (A : GS) (b : Nat) (n : Nat) (hn : n < 2 ^ 40) : ∀ (k i : Nat) (cs : List Value) (op : Bool) (T : List Value) (G : GS), i + k = n → T.length = 13 → nth undef T 0 = .slice (some ⟨b, 0, none⟩) n n → nth undef T 2 = .int .i64 i →
    A.nx ≤ G.nx → (∀ g, g ≠ b → G.obj g = A.obj g) → G.obj b = some ⟨cs, 3, op, 1⟩ → cs.length = n * 3 →
    Wp ((E orc).lp (subAt [1, 0, 0] (bodyOf Try.f47)) T G) fun r => r.1 = .exit 0 ∧ A.nx ≤ r.2.2.nx ∧ ∀ g, g ≠ b → r.2.2.obj g = A.obj g := by
  intro k
  induction k with
  | zero =>
    intro i cs op T G hi hT h0 h2 hx hA ho hc
    refine Wp.up (l47_0 orc T G hT) ?_
    have : i = n := by omega
    simpa [b47_0, h0, h2, this, hx] using hA
  | succ k ih =>
    intro i cs op T G hi hT h0 h2 hx hA ho hc
    have hlt : i < n := by omega
    have hw : IntKind.wrap .i64 ((i : Int) + 1) = ((i + 1 : Nat) : Int) := wrap64 (by omega) (by omega)
    have hi0 : (0 : Int) ≤ i := by omega
    have hst : storeN 3 b (i * 3) (.agg ⟨[.int .i64 0, .int .i64 (-77), .int .u64 0]⟩) G = some (G.put b (GObj.over ⟨cs, 3, op, 1⟩ (i * 3) [.int .i64 0, .int .i64 (-77), .int .u64 0])) := by
      simp only [storeN, Value.cells]
      exact wrN_of ho rfl rfl (by simp; omega)
    refine Wp.up (l47_0 orc T G hT) ?_
    simp [b47_0, h0, h2, hlt, hw, hi0, hst, fillL, fillC, splice_put, splice_end, splice_succ, Value.cells]
    refine ih (i + 1) (overw cs (i * 3) [.int .i64 0, .int .i64 (-77), .int .u64 0]) op _ _ ?_ ?_ ?_ ?_ ?_ ?_ ?_ ?_
    · omega
    · rfl
    · rfl
    · rfl
    · simpa using hx
    · intro g hg
      rw [obj_put, if_neg hg]
      exact hA g hg
    · simp [GObj.over]
    · simp [overw]; omega
theorem aover_mod (orc : FuncId → Bool) {B hi : Nat} {G : GS} {n : Nat} {v0 : Value} {cs : List Value} (h : OwnL B G 3 v0 n cs) (hx : SlLt hi v0) (hlt : n < 2 ^ 40) :
    ∃ G', (E orc).cl 47 [v0] G = some (.tuple #[], G') ∧ G.nx ≤ G'.nx ∧ ∀ g, g < B ∨ hi ≤ g → G'.obj g = G.obj g := by
  rcases h.2 with ⟨rfl, rfl⟩ | ⟨b, op, rfl, h2, h3, h4⟩
  · refine ⟨G, c47 orc _ G ?_, Nat.le_refl _, fun _ _ => rfl⟩
    have := l47_0 orc [.slice none 0 0, undef, .int .i64 0, undef, undef, undef, undef, undef, undef, undef, undef, undef, undef] G rfl (r := (.exit 0, _, G)) (by simp [b47_0]; rfl)
    simp [s47, this]
  · obtain ⟨⟨e, T', G'⟩, hlp, h5, h6, h7⟩ := aoverm_lp orc G b n hlt n 0 cs op [.slice (some ⟨b, 0, none⟩) n n, undef, (.int .i64 0), undef, undef, undef, undef, undef, undef, undef, undef, undef, undef] G (by omega) rfl rfl rfl (Nat.le_refl _) (fun _ _ => rfl) h4 (by simpa using h.1)
    simp only at h5 h6 h7
    subst h5
    have hb : b < hi := hx _ _ _ rfl
    exact ⟨G', c47 orc _ G (by simp [s47, hlp]), h6, fun g hg => h7 g (by omega)⟩
end Go.Proofs.Ytchempegmbidoaa.Lift

set_option linter.unusedVariables false
set_option linter.unusedSimpArgs false
namespace Go.Proofs.Ytchempegmbidoaa.Gh
open Go Go.Proofs
theorem Ext.at_ (G : GS) {n : Nat} (h : n ≤ G.nx) : Ext (G.at' n) G := ⟨h, fun _ _ => rfl, Nat.le_refl _, fun _ _ => rfl⟩
theorem Ext.at_trans {A B C : GS} {r : Nat} (h : Ext (A.at' r) B) (k : Ext (B.at' r) C) : Ext (A.at' r) C :=
  ⟨k.nx, fun g hg => (k.obj g hg).trans (h.obj g hg), Nat.le_trans h.nl k.nl, fun l hl => (k.loop l (Nat.lt_of_lt_of_le hl h.nl)).trans (h.loop l hl)⟩
theorem app_ext {r : Nat} {G G' : GS} (h : Ext (G.at' (r + 1)) G') : G'.obj r = G.obj r := h.obj r (by simp)
end Go.Proofs.Ytchempegmbidoaa.Gh
namespace Go.Proofs.Ytchempegmbidoaa.Lift
open Go Go.Proofs.Ytchempegmbidoaa.Gh Go.Proofs
theorem ringZ_ring : RingC ringZ [] 0 := ⟨ringZ_length, by omega, by simp, ringZ_1024, ringZ_1025, fun i hi => ⟨0, ringZ_get i hi⟩, fun i hi => by simp at hi⟩
theorem dCode_no {cap : Int} {L : List Int} {k : Int} (h : dOk k = false) : dCode cap L k = 0 := by
  simp [dOk] at h
  simp [dCode, h]
theorem dWord_no {L : List Int} {k : Int} (h : dOk k = false) : dWord L k = 0 := by
  simp [dOk] at h
  simp [dWord, h]
theorem one_an (G : GS) (o : An3) : SlIs (G.push ⟨o.row, 3, false, 1⟩) 3 (.slice (some ⟨G.nx, 0, none⟩) 1 1) 1 o.row :=
  ⟨rfl, .inr ⟨G.nx, 0, 1, _, rfl, Nat.le_refl _, by simp, by simp; rfl, by simp, fun i hi => by simp⟩⟩
theorem play_lp (orc : FuncId → Bool) {cap : Int} (hc1 : 1 ≤ cap) (hc2 : cap ≤ 1024) (O : List Op4) (hO : O.length ≤ 1000) (vo : Value) (r : Nat) : ∀ (k i : Nat) (L : List Int) (acc : List An3) (v : Value) (cs : List Value) (fr : Nat) (T : List Value) (G : GS), i + k = O.length → T.length = 47 → acc.length = i →
    nth undef T 0 = .int .i64 cap → nth undef T 8 = v → nth undef T 9 = P1 r → nth undef T 20 = vo → nth undef T 21 = .int .i64 O.length → nth undef T 22 = .int .i64 i →
    r < G.nx → RingC cs L fr → G.obj r = some ⟨cs, 1, false, 1⟩ → SlIs G 4 vo O.length (opsV O) → SlLt r vo → OwnL (r + 1) G 3 v i (ansVs acc) →
    Wp ((E orc).lp (subAt [1, 1, 1, 1, 0, 1, 0, 0] (bodyOf Try.f44)) T G) fun q => q.1 = .exit 0 ∧ Ext (G.at' r) q.2.2 ∧ nth undef q.2.1 9 = P1 r ∧
      (∃ cs' fr', RingC cs' (playL cap L (O.drop i)) fr' ∧ q.2.2.obj r = some ⟨cs', 1, false, 1⟩) ∧ OwnL (r + 1) q.2.2 3 (nth undef q.2.1 8) O.length (ansVs (acc ++ playA cap L (O.drop i))) := by
  intro k
  induction k with
  | zero =>
    intro i L acc v cs fr T G hi hT ha h0 h8 h9 h20 h21 h22 hr hR hb hs hl ho
    have hi' : i = O.length := by omega
    subst hi'
    refine Wp.up (l44_0 orc T G hT) ?_
    simp [b44_0, h0, h8, h9, h20, h21, h22, playA, playL]
    exact ⟨Ext.at_ G (Nat.le_of_lt hr), ⟨cs, ⟨fr, hR⟩, hb⟩, ho⟩
  | succ k ih =>
    intro i L acc v cs fr T G hi hT ha h0 h8 h9 h20 h21 h22 hr hR hb hs hl ho
    have hlt : i < O.length := by omega
    have hlt' : (i : Int) < O.length := by omega
    have hi0 : (0 : Int) ≤ i := by omega
    have hw : IntKind.wrap .i64 ((i : Int) + 1) = ((i + 1 : Nat) : Int) := wrap64 (by omega) (by omega)
    obtain ⟨bo, oo, co, hvo, hbo, hld⟩ := hs.load hlt
    rw [opsV_drop _ _ hlt] at hld
    have hdrop : O.drop i = O[i] :: O.drop (i + 1) := List.drop_eq_getElem_cons hlt
    rw [hdrop]
    generalize hoo : O[i] = op at *
    obtain ⟨ok, oa, ob, ow⟩ := op
    simp only [Op4.row] at hld
    -- the operation's own block
    have e5 : Ext G ((G.push ⟨[.int .i64 0, .int .i64 0, .int .i64 0, .int .u64 0], 1, false, 1⟩).put G.nx ⟨[.int .i64 ok, .int .i64 oa, .int .i64 ob, .int .u64 ow], 1, false, 1⟩) := ((Ext.refl G).push _).put (Nat.le_refl _) _
    obtain ⟨⟨q, G9⟩, hd, f, hq, x9, hf⟩ := does_ok orc (v := .agg ⟨cs⟩) ⟨cs, fr, rfl, hR⟩ hc1 hc2 ok oa ob ow ((G.push ⟨[.int .i64 0, .int .i64 0, .int .i64 0, .int .u64 0], 1, false, 1⟩).put G.nx ⟨[.int .i64 ok, .int .i64 oa, .int .i64 ob, .int .u64 ow], 1, false, 1⟩)
    simp only at hq x9 hf
    subst hq
    have hx9 := x9.nx
    simp at hx9
    have x5 : Ext G G9 := e5.trans x9
    have x15 : Ext G ((G9.push ⟨[.int .i64 0, .int .i64 0, .int .u64 0], 1, false, 1⟩).put G9.nx ⟨[.int .i64 (dCode cap L ok), .int .i64 0, .int .u64 (dWord L ok)], 1, false, 1⟩) := (x5.push _).put (by omega) _
    have main : ∀ G15 : GS, Ext G9 G15 → G15.nx = G9.nx + 1 → ∃ v' G23 ds fr2 G25, appK 3 24 v (.slice (some ⟨G15.nx, 0, none⟩) 1 1) (G15.push ⟨An3.row ⟨dCode cap L ok, 0, dWord L ok⟩, 3, false, 1⟩) = some (v', G23) ∧ cValue (E orc) f [] G23 = some (.agg ⟨ds⟩, G25) ∧
        storeN 1026 r 0 (.agg ⟨ds⟩) G25 = some (G25.put r ⟨ds, 1, false, 1⟩) ∧ RingC ds (dNext cap L ok ow) fr2 ∧ r < (G25.put r ⟨ds, 1, false, 1⟩).nx ∧ (G25.put r ⟨ds, 1, false, 1⟩).obj r = some ⟨ds, 1, false, 1⟩ ∧
        SlIs (G25.put r ⟨ds, 1, false, 1⟩) 4 vo O.length (opsV O) ∧ OwnL (r + 1) (G25.put r ⟨ds, 1, false, 1⟩) 3 v' (i + 1) (ansVs (acc ++ [⟨dCode cap L ok, 0, dWord L ok⟩])) ∧ Ext (G.at' r) (G25.put r ⟨ds, 1, false, 1⟩) := by
      intro G15 x15 n15
      have k15 : ∀ g, g < G9.nx → G15.obj g = G9.obj g := x15.obj
      obtain ⟨v', G23, ha', hE, hO, hn23, hk⟩ := app_mod (ib := 24) (s := v) (A := G.at' (r + 1)) (G := G15.push ⟨An3.row ⟨dCode cap L ok, 0, dWord L ok⟩, 3, false, 1⟩) (by omega) (by omega) (((Ext.at_ G hr).trans (x5.trans x15)).push _) (ho.ext ((x5.trans x15).push _)) (one_an G15 ⟨dCode cap L ok, 0, dWord L ok⟩) rfl (by omega)
      rw [ansVs_snoc] at hO
      have hM : Mid ((G.push ⟨[.int .i64 0, .int .i64 0, .int .i64 0, .int .u64 0], 1, false, 1⟩).put G.nx ⟨[.int .i64 ok, .int .i64 oa, .int .i64 ob, .int .u64 ow], 1, false, 1⟩).nx G9 G23 := by
        refine ⟨?_, fun g hg hlo => ?_⟩
        · simp at hn23; omega
        · simp at hlo
          rw [hk g (by simp; omega) (fun a n' c' e => ?_)]
          · simp; rw [if_neg (by omega)]; exact k15 g hg
          · have := ho.reads.lt a n' c' e
            omega
      obtain ⟨⟨q2, G25⟩, e25, ⟨ds, fr2, hq2, hR2⟩, x25⟩ := hf G23 hM
      simp only at hq2 x25
      subst hq2
      simp at hn23
      have n25 := x25.nx
      have vlt : ∀ a n' c', v = .slice (some a) n' c' → r + 1 ≤ a.block := fun a n' c' e => by
        rcases ho.2 with ⟨rfl, _⟩ | ⟨b, op, rfl, h2, _⟩
        · cases e
        · cases e; exact h2
      have old : ∀ g, g ≤ r → G25.obj g = G.obj g := fun g hg => by
        rw [x25.obj g (by omega), hk g (by simp; omega) (fun a n' c' e => by have := vlt a n' c' e; omega)]
        simp; rw [if_neg (by omega), k15 g (by omega), x5.obj g (by omega)]
      have hr25 : G25.obj r = some ⟨cs, 1, false, 1⟩ := (old r (Nat.le_refl _)).trans hb
      have hln := hR.len
      have hln2 := hR2.len
      refine ⟨v', G23, ds, fr2, G25, ha', e25, ?_, hR2, by simp; omega, by simp, ?_, ?_, ?_⟩
      · rw [storeN_eq, hr25, stO_whole hln hln2 hR2.ones]
      · refine SlIs.keep hs hl (by simp; omega) fun g hg => ?_
        rw [obj_put, if_neg (by omega), old g (by omega)]
      · have h25 := (OwnL.ext (B := r + 1) (by simpa using hO) x25)
        exact ⟨h25.1, h25.2.imp id fun ⟨b, op, e1, e2, e3, e4⟩ => ⟨b, op, e1, e2, e3, by rw [obj_put, if_neg (by omega)]; exact e4⟩⟩
      · refine ⟨by simp; omega, fun g hg => ?_, ?_, fun l hl => ?_⟩
        · simp at hg
          rw [obj_put, if_neg (by omega), old g (by omega)]; rfl
        · have := hE.nl; have := x25.nl; simp at *; omega
        · have h1 := hE.loop l (by simpa using hl)
          have h2 := x25.loop l (by have := hE.nl; simp at *; omega)
          simp at h1 ⊢; rw [h2, h1]
    have hR' := loadO_whole (cs := cs) (e := 1) (op := false) (m := 1) hR.len (by decide)
    have r9 : G9.obj r = some ⟨cs, 1, false, 1⟩ := (x5.obj r hr).trans hb
    have hld6 : loadA 1026 r 0 ((G.push ⟨[.int .i64 0, .int .i64 0, .int .i64 0, .int .u64 0], 1, false, 1⟩).put G.nx ⟨[.int .i64 ok, .int .i64 oa, .int .i64 ob, .int .u64 ow], 1, false, 1⟩) = some (.agg ⟨cs⟩) := by
      rw [loadA_eq, obj_put, if_neg (by omega), obj_push, if_neg (by omega), hb]; exact hR'
    have rne : r ≠ G.nx := by omega
    have goal : ∀ (x : Value) (G18 : GS) (T' : List Value), True → True := fun _ _ _ _ => trivial
    cases hok : dOk ok with
    | true =>
      obtain ⟨v', G23, ds, fr2, G25, q1, q2, q3, q4, q5, q6, q7, q8, q9⟩ := main ((G9.push ⟨[.int .i64 0, .int .i64 0, .int .u64 0], 1, false, 1⟩).put G9.nx ⟨[.int .i64 (dCode cap L ok), .int .i64 0, .int .u64 (dWord L ok)], 1, false, 1⟩) (((Ext.refl G9).push _).put (Nat.le_refl _) _) (by simp)
      rw [hok] at hd
      simp only [An3.row, nx_put, nx_push] at q1
      rw [storeN_eq] at q3
      refine Wp.up (l44_0 orc T G hT) ?_
      simp [-Int.natCast_add, b44_0, h0, h8, h9, h20, h21, h22, hlt', hi0, hw, hvo, hld, storeN_eq, stO_whole, one, loadA_eq, ld4, rne, hb, hR', hd, pExtract, getN_zero, getN_succ, st3, ld3, fillS, fillC, splice_put, splice_end, Value.cells, q1, q2, q3]
      refine (ih (i + 1) (dNext cap L ok ow) (acc ++ [⟨dCode cap L ok, 0, dWord L ok⟩]) v' ds fr2 _ _ (by omega) rfl (by simp [ha]) rfl rfl rfl (by exact hvo.symm) rfl rfl q5 q4 q6 q7 hl q8).mono ?_
      rintro q ⟨y1, y2, y3, ⟨cs', fr', y4, y5⟩, y6⟩
      refine ⟨y1, q9.at_trans y2, y3, ⟨cs', ⟨fr', y4⟩, y5⟩, ?_⟩
      simpa [playA] using y6
    | false =>
      obtain ⟨v', G23, ds, fr2, G25, q1, q2, q3, q4, q5, q6, q7, q8, q9⟩ := main (((G9.push ⟨[.int .i64 0, .int .i64 0, .int .u64 0], 1, false, 1⟩).put G9.nx ⟨[.int .i64 (dCode cap L ok), .int .i64 0, .int .u64 (dWord L ok)], 1, false, 1⟩).put G9.nx ⟨[.int .i64 0, .int .i64 0, .int .u64 0], 1, false, 1⟩) ((((Ext.refl G9).push _).put (Nat.le_refl _) _).put (Nat.le_refl _) _) (by simp)
      rw [hok] at hd
      simp only [An3.row, nx_put, nx_push, dCode_no hok, dWord_no hok] at q1
      rw [storeN_eq] at q3
      rw [dCode_no hok, dWord_no hok] at hd
      rw [dCode_no hok, dWord_no hok] at q8
      refine Wp.up (l44_0 orc T G hT) ?_
      simp [-Int.natCast_add, b44_0, h0, h8, h9, h20, h21, h22, hlt', hi0, hw, hvo, hld, storeN_eq, stO_whole, one, loadA_eq, ld4, rne, hb, hR', hd, pExtract, getN_zero, getN_succ, st3, ld3, fillS, fillL, fillC, splice_put, splice_end, Value.cells, q1, q2, q3]
      refine (ih (i + 1) (dNext cap L ok ow) (acc ++ [⟨0, 0, 0⟩]) v' ds fr2 _ _ (by omega) rfl (by simp [ha]) rfl rfl rfl (by exact hvo.symm) rfl rfl q5 q4 q6 q7 hl q8).mono ?_
      rintro q ⟨y1, y2, y3, ⟨cs', fr', y4, y5⟩, y6⟩
      refine ⟨y1, q9.at_trans y2, y3, ⟨cs', ⟨fr', y4⟩, y5⟩, ?_⟩
      simpa [playA, dCode_no hok, dWord_no hok] using y6
end Go.Proofs.Ytchempegmbidoaa.Lift

set_option linter.unusedVariables false
set_option linter.unusedSimpArgs false
namespace Go.Proofs.Ytchempegmbidoaa.Gh
open Go Go.Proofs
/-- what is appended to (something) is a new block -/
theorem app_new {A G : GS} {isz ib : Nat} {s x : Value} {n m : Nat} {cs ds : List Value} (hi : isz ≠ 0) (hb : ib ≠ 0) (hA : Ext A G) (hs : OwnL A.nx G isz s n cs) (hx : SlIs G isz x m ds) (hm0 : 0 < m) (ho : ds.all one = true) (hsz : (2 * (n + m) + 1000) * ib ≤ 2 ^ 48) :
    ∃ v' G', appK isz ib s x G = some (v', G') ∧ Ext A G' ∧ OwnL G.nx G' isz v' (n + m) (cs ++ ds) ∧ G.nx ≤ G'.nx ∧ ∀ g, g < G.nx → (∀ a n' c', s = .slice (some a) n' c' → a.block ≠ g) → G'.obj g = G.obj g := by
  have hel := elems_of hx
  obtain ⟨a, c, rfl⟩ := hx.len
  unfold appK
  rw [if_neg (by omega)]
  simp only [hel, ho, Bool.not_true, Bool.false_eq_true, if_false]
  have hm : ¬ m = 0 := by omega
  have hlen : (cs ++ ds).length = (n + m) * isz := by simp [hs.1, hx.1, Nat.add_mul]
  rcases hs.2 with ⟨rfl, rfl⟩ | ⟨b, op, rfl, h2, h3, h4⟩
  · have hc : cs = [] := List.eq_nil_of_length_eq_zero (by simpa using hs.1)
    subst hc
    refine ⟨_, _, by simp only [hm, if_false]; rw [if_pos (by simpa using hsz)], hA.push _, ⟨hlen, .inr ⟨G.nx, true, by simp, Nat.le_refl _, by simp, by simp⟩⟩, by simp, fun g hg _ => by rw [obj_push, if_neg (by omega)]⟩
  · have hr : rdN G b 0 (n * isz) = some cs := by
      have := elems_of hs.reads
      exact this
    have hbn : b ≠ G.nx := by omega
    simp only [hm, if_false, h4]
    rw [if_neg (by omega)]
    simp only [Nat.zero_add, hr, if_pos hsz]
    have hcl : n * isz = cs.length := hs.1.symm
    cases op with
    | true =>
      simp only [hcl, decide_true, Bool.and_self, if_true]
      exact ⟨_, _, rfl, (hA.put h2 _).push _, ⟨by rw [hlen], .inr ⟨G.nx, true, rfl, by simp, by simp, by simp⟩⟩, by simp, fun g hg hn => by rw [obj_push, if_neg (by simp; omega), obj_put, if_neg (fun e => hn _ _ _ rfl e.symm)]⟩
    | false =>
      simp only [Bool.false_and, Bool.false_eq_true, if_false]
      exact ⟨_, _, rfl, hA.push _, ⟨by rw [hlen], .inr ⟨G.nx, true, rfl, Nat.le_refl _, by simp, by simp⟩⟩, by simp, fun g hg _ => by rw [obj_push, if_neg (by omega)]⟩
theorem SlIs.same {G G' : GS} {sz n : Nat} {v : Value} {cs : List Value} (h : SlIs G sz v n cs) (hn : G.nx ≤ G'.nx) (hk : ∀ a n c, v = .slice (some a) n c → G'.obj a.block = G.obj a.block) : SlIs G' sz v n cs := by
  refine ⟨h.1, h.2.imp id ?_⟩
  rintro ⟨b, o, c, ob, h1, h2, h3, h4, h5, h6⟩
  exact ⟨b, o, c, ob, h1, h2, Nat.lt_of_lt_of_le h3 hn, (hk _ _ _ h1).trans h4, h5, h6⟩
end Go.Proofs.Ytchempegmbidoaa.Gh
namespace Go.Proofs.Ytchempegmbidoaa.Lift
open Go Go.Proofs.Ytchempegmbidoaa.Gh Go.Proofs
theorem dNext_no {cap : Int} {L : List Int} {k w : Int} (h : dOk k = false) : dNext cap L k w = L := by
  simp [dOk] at h
  simp [dNext, h]
theorem dNext_le {cap : Int} {L : List Int} (h : (L.length : Int) ≤ cap) (k w : Int) : ((dNext cap L k w).length : Int) ≤ cap := by
  unfold dNext
  split
  · split
    · exact h
    · simp; omega
  · split
    · simp; omega
    · exact h
def pA (cap : Int) (O : List Op4) : List An3 := if fchk cap 0 = 0 then playA cap [] O else []
def pL (cap : Int) (O : List Op4) : List Int := if fchk cap 0 = 0 then playL cap [] O else []
theorem playA_length (cap : Int) : ∀ (O : List Op4) (L : List Int), (playA cap L O).length = O.length
  | [], L => rfl
  | o :: O, L => by simp [playA, playA_length cap O]
theorem playL_le {cap : Int} : ∀ (O : List Op4) (L : List Int), (L.length : Int) ≤ cap → ((playL cap L O).length : Int) ≤ cap
  | [], L, h => h
  | o :: O, L, h => playL_le O _ (dNext_le h _ _)
theorem play_ok (orc : FuncId → Bool) (cap : Int) {O : List Op4} {vo : Value} {G : GS} (hO : O.length ≤ 1000) (hs : SlIs G 4 vo O.length (opsV O)) :
    Wp ((E orc).cl 44 [.int .i64 cap, vo] G) fun r => Ext G r.2 ∧ ∃ va vs m, r.1 = .tuple #[va, vs, .int .i64 (fchk cap 0)] ∧ G.nx ≤ m ∧ SlLt m va ∧ OwnL G.nx r.2 3 va (pA cap O).length (ansVs (pA cap O)) ∧ OwnL m r.2 1 vs (pL cap O).length (words (pL cap O)) := by
  by_cases hf : fchk cap 0 = 0
  · have hc := fchk_zero.1 hf
    have ez : pA cap O = playA cap [] O := by simp [pA, hf]
    have el : pL cap O = playL cap [] O := by simp [pL, hf]
    obtain ⟨a, c, ha⟩ := hs.len
    have lt := hs.lt
    obtain ⟨⟨e, T', G8⟩, hlp, y1, y2, y3, ⟨cs', fr', y4, y5⟩, y6⟩ := play_lp orc hc.1 hc.2.1 O hO vo G.nx O.length 0 [] [] (.slice none 0 0) ringZ 0
      [.int .i64 cap, vo, undef, undef, (.slice none 0 0), (.slice none 0 0), (.int .i64 0), .int .i64 0, (.slice none 0 0), P1 G.nx, undef, undef, undef, undef, undef, .int .i64 cap, .int .i64 0, .int .i64 0, .bool false, undef, vo, .int .i64 O.length, (.int .i64 0), undef, undef, undef, undef, undef, undef, undef, undef, undef, undef, undef, undef, undef, undef, undef, undef, undef, undef, undef, undef, undef, undef, undef, undef]
      (G.push ⟨ringZ, 1, false, 1⟩) (by omega) rfl rfl rfl rfl rfl rfl rfl rfl (by simp) ringZ_ring (by simp) (hs.ext ((Ext.refl G).push _)) lt (OwnL.nil _ _ _)
    simp only at y1 y2 y3 y5 y6
    subst y1
    simp only [List.drop_zero, List.nil_append] at y4 y6
    have x8 : Ext G G8 := by
      refine ⟨by have := y2.nx; simpa using this, fun g hg => ?_, by have := y2.nl; simpa using this, fun l hl => ?_⟩
      · have := y2.obj g (by simpa using hg)
        simp at this; rw [this, if_neg (by omega)]
      · simpa using y2.loop l (by simpa using hl)
    have hld : loadA 1026 G.nx 0 G8 = some (.agg ⟨cs'⟩) := by
      rw [loadA_eq, y5]; exact loadO_whole y4.len (by decide)
    obtain ⟨vs, G11, e11, x11, o11⟩ := ring_list orc (v := .agg ⟨cs'⟩) ⟨cs', fr', rfl, y4⟩ G8
    have va := y6.reads.lt
    have hn8 := x8.nx
    refine ⟨_, c44 orc _ _ G (r := (.tuple #[nth undef T' 8, vs, .int .i64 0], G11)) ?_, x8.trans x11, _, vs, G8.nx, by rw [hf], hn8, va, ?_, ?_⟩
    · subst ha
      simp [-al_91, s44, check_ok, hf, al_91z, hlp, y3, hld, e11]
    · rw [ez, playA_length]
      exact (y6.ext x11).mono (by omega)
    · rw [el]; exact o11
  · have ez : pA cap O = [] := by simp [pA, hf]
    have el : pL cap O = [] := by simp [pL, hf]
    refine ⟨_, c44 orc _ _ G (r := (.tuple #[.slice none 0 0, .slice none 0 0, .int .i64 (fchk cap 0)], G)) ?_, Ext.refl G, _, _, G.nx, rfl, Nat.le_refl _, fun a n c e => (by cases e), ?_, ?_⟩
    · simp [-al_91, s44, check_ok, hf]
    · rw [ez]; exact OwnL.nil _ _ _
    · rw [el]; exact OwnL.nil _ _ _
theorem rplay_lp (orc : FuncId → Bool) {cap : Int} (hc1 : 1 ≤ cap) (hc2 : cap ≤ 1024) (O : List Op4) (hO : O.length ≤ 1000) (vo : Value) (A : GS) (hs : SlIs A 4 vo O.length (opsV O)) : ∀ (k i : Nat) (L : List Int) (acc : List An3) (v vs : Value) (T : List Value) (G : GS), i + k = O.length → T.length = 44 → acc.length = i →
    nth undef T 0 = .int .i64 cap → nth undef T 1 = vo → nth undef T 8 = v → nth undef T 9 = vs → nth undef T 10 = .int .i64 i →
    Ext A G → (L.length : Int) ≤ cap → OwnL A.nx G 3 v i (ansVs acc) → SlIs G 1 vs L.length (words L) → (∀ a n c, vs = .slice (some a) n c → ∀ a' n' c', v = .slice (some a') n' c' → a'.block ≠ a.block) →
    Wp ((E orc).lp (subAt [1, 1, 1, 1, 1, 0, 1, 0, 0] (bodyOf Try.f45)) T G) fun q => q.1 = .exit 0 ∧ Ext A q.2.2 ∧ OwnL A.nx q.2.2 3 (nth undef q.2.1 8) O.length (ansVs (acc ++ playA cap L (O.drop i))) ∧
      SlIs q.2.2 1 (nth undef q.2.1 9) (playL cap L (O.drop i)).length (words (playL cap L (O.drop i))) := by
  intro k
  induction k with
  | zero =>
    intro i L acc v vs T G hi hT ha h0 h1 h8 h9 h10 hA hL ho hq hne
    have hi' : i = O.length := by omega
    subst hi'
    obtain ⟨av, cv, hv⟩ := hs.len
    refine Wp.up (l45_0 orc T G hT) ?_
    simp [b45_0, h0, h1, h8, h9, h10, hv, playA, playL]
    exact ⟨hA, ho, hq⟩
  | succ k ih =>
    intro i L acc v vs T G hi hT ha h0 h1 h8 h9 h10 hA hL ho hq hne
    have hlt : i < O.length := by omega
    have hlt' : (i : Int) < O.length := by omega
    have hi0 : (0 : Int) ≤ i := by omega
    have hw : IntKind.wrap .i64 ((i : Int) + 1) = ((i + 1 : Nat) : Int) := wrap64 (by omega) (by omega)
    obtain ⟨bo, oo, co, hvo, hbo, hld⟩ := (hs.ext hA).load hlt
    rw [opsV_drop _ _ hlt] at hld
    have hdrop : O.drop i = O[i] :: O.drop (i + 1) := List.drop_eq_getElem_cons hlt
    rw [hdrop]
    generalize hoo : O[i] = op at *
    obtain ⟨ok, oa, ob, ow⟩ := op
    simp only [Op4.row] at hld
    obtain ⟨⟨q5, G5⟩, e5, x5, h5⟩ := rdoes_ge orc hq (by omega) cap ok oa ob ow
    simp only at x5 h5
    have hr : rOk cap L ok = dOk ok := by simp [rOk, fchk_zero.2 ⟨hc1, hc2, hL⟩]
    rw [hr] at h5
    have n5 := x5.nx
    -- what is told behind the call
    have main : ∀ row : An3, ∃ v' G16, appK 3 24 v (.slice (some ⟨G5.nx + 1, 0, none⟩) 1 1) (((G5.push ⟨[.int .i64 0, .int .i64 0, .int .u64 0], 1, false, 1⟩).put G5.nx ⟨row.row, 1, false, 1⟩).push ⟨row.row, 3, false, 1⟩) = some (v', G16) ∧ Ext A G16 ∧
        OwnL A.nx G16 3 v' (i + 1) (ansVs (acc ++ [row])) ∧ (∀ a n c, v' = .slice (some a) n c → G5.nx ≤ a.block) ∧ G5.nx ≤ G16.nx ∧ (∀ g, g < G5.nx → (∀ a n' c', v = .slice (some a) n' c' → a.block ≠ g) → G16.obj g = G5.obj g) := by
      intro row
      have xx : Ext G5 ((G5.push ⟨[.int .i64 0, .int .i64 0, .int .u64 0], 1, false, 1⟩).put G5.nx ⟨row.row, 1, false, 1⟩) := ((Ext.refl _).push _).put (Nat.le_refl _) _
      have x11 : Ext A (((G5.push ⟨[.int .i64 0, .int .i64 0, .int .u64 0], 1, false, 1⟩).put G5.nx ⟨row.row, 1, false, 1⟩).push ⟨row.row, 3, false, 1⟩) := ((hA.trans x5).trans xx).push _
      obtain ⟨v', G16, a1, a2, a3, a4, a5⟩ := app_new (isz := 3) (ib := 24) (by omega) (by omega) x11 ((ho.ext x5).ext (xx.push _)) (one_an ((G5.push ⟨[.int .i64 0, .int .i64 0, .int .u64 0], 1, false, 1⟩).put G5.nx ⟨row.row, 1, false, 1⟩) row) (by omega) (by simp [An3.row, one]) (by omega)
      rw [ansVs_snoc] at a3
      simp at a4
      have hn := a2.nx
      refine ⟨v', G16, by simpa using a1, a2, a3.mono (by have := hA.nx; simp; omega), fun a n c e => ?_, by omega, fun g hg hv => ?_⟩
      · rcases a3.2 with ⟨rfl, h⟩ | ⟨b, op, rfl, h2, _⟩
        · cases e
        · cases e; simp at h2; show G5.nx ≤ b; omega
      · rw [a5 g (by simp; omega) hv]; have : g ≠ G5.nx := by omega
        have : g ≠ G5.nx + 1 := by omega
        simp [*]
    have vlt := ho.reads.lt
    cases hok : dOk ok with
    | true =>
      rw [hok] at h5
      simp only [if_true] at h5
      obtain ⟨v2, rfl, s2, g2⟩ := h5
      obtain ⟨v', G16, a1, a2, a3, a4, a5, a6⟩ := main ⟨dCode cap L ok, 0, dWord L ok⟩
      simp only [An3.row] at a1
      refine Wp.up (l45_0 orc T G hT) ?_
      simp [-Int.natCast_add, b45_0, h0, h1, h8, h9, h10, hlt', hi0, hw, hvo, hld, e5, storeN_eq, loadA_eq, pExtract, getN_zero, getN_succ, st3, ld3, fillS, fillC, splice_put, splice_end, Value.cells, a1]
      refine (ih (i + 1) (dNext cap L ok ow) (acc ++ [⟨dCode cap L ok, 0, dWord L ok⟩]) v' v2 _ _ (by omega) rfl (by simp [ha]) rfl (by exact hvo.symm) rfl rfl rfl a2 (dNext_le hL _ _) a3 (s2.same a5 fun a n c e => ?_) ?_).mono ?_
      · exact a6 _ (s2.lt _ _ _ e) fun a' n' c' e' => by have := vlt _ _ _ e'; have := g2 _ _ _ e; omega
      · intro a n c e a' n' c' e'
        have := a4 _ _ _ e'; have := s2.lt _ _ _ e; omega
      · rintro q ⟨y1, y2, y3, y4⟩
        exact ⟨y1, y2, by simpa [playA] using y3, y4⟩
    | false =>
      rw [hok] at h5
      simp only [Bool.false_eq_true, if_false] at h5
      subst h5
      obtain ⟨v', G16, a1, a2, a3, a4, a5, a6⟩ := main ⟨0, 0, 0⟩
      simp only [An3.row] at a1
      refine Wp.up (l45_0 orc T G hT) ?_
      simp [-Int.natCast_add, b45_0, h0, h1, h8, h9, h10, hlt', hi0, hw, hvo, hld, e5, storeN_eq, loadA_eq, pExtract, getN_zero, getN_succ, st3, ld3, fillS, fillC, splice_put, splice_end, Value.cells, a1]
      have hnx := dNext_no (cap := cap) (L := L) (w := ow) hok
      refine (ih (i + 1) L (acc ++ [⟨0, 0, 0⟩]) v' vs _ _ (by omega) rfl (by simp [ha]) rfl (by exact hvo.symm) rfl rfl rfl a2 hL a3 (hq.same (Nat.le_trans n5 a5) fun a n c e => ?_) ?_).mono ?_
      · rw [a6 _ (Nat.lt_of_lt_of_le (hq.lt _ _ _ e) n5) (hne _ _ _ e), x5.obj _ (hq.lt _ _ _ e)]
      · intro a n c e a' n' c' e'
        have := a4 _ _ _ e'; have := hq.lt _ _ _ e; omega
      · rintro q ⟨y1, y2, y3, y4⟩
        refine ⟨y1, y2, ?_, ?_⟩
        · simpa [playA, dCode_no hok, dWord_no hok, hnx] using y3
        · simpa [playL, hnx] using y4
theorem rplay_ok (orc : FuncId → Bool) (cap : Int) {O : List Op4} {vo : Value} {G : GS} (hO : O.length ≤ 1000) (hs : SlIs G 4 vo O.length (opsV O)) :
    Wp ((E orc).cl 45 [.int .i64 cap, vo] G) fun r => Ext G r.2 ∧ ∃ va vs, r.1 = .tuple #[va, vs, .int .i64 (fchk cap 0)] ∧ SlIs r.2 3 va (pA cap O).length (ansVs (pA cap O)) ∧ SlIs r.2 1 vs (pL cap O).length (words (pL cap O)) := by
  by_cases hf : fchk cap 0 = 0
  · have hc := fchk_zero.1 hf
    have ez : pA cap O = playA cap [] O := by simp [pA, hf]
    have el : pL cap O = playL cap [] O := by simp [pL, hf]
    obtain ⟨⟨e, T', G8⟩, hlp, y1, y2, y3, y4⟩ := rplay_lp orc hc.1 hc.2.1 O hO vo G hs O.length 0 [] [] (.slice none 0 0) (.slice none 0 0)
      [.int .i64 cap, vo, undef, undef, (.slice none 0 0), (.slice none 0 0), (.int .i64 0), .int .i64 0, (.slice none 0 0), (.slice none 0 0), (.int .i64 0), undef, undef, undef, .int .i64 cap, .int .i64 0, .int .i64 0, .bool false, undef, undef, undef, undef, undef, undef, undef, undef, undef, undef, undef, undef, undef, undef, undef, undef, undef, undef, undef, undef, undef, undef, undef, undef, undef, undef]
      G (by omega) rfl rfl rfl rfl rfl rfl rfl (Ext.refl G) (by simp; omega) (OwnL.nil _ _ _) (OwnL.nil 0 _ _).reads (fun a n c e => by cases e)
    simp only [List.drop_zero, List.nil_append] at y1 y2 y3 y4
    subst y1
    refine ⟨_, c45 orc _ _ G (r := (.tuple #[nth undef T' 8, nth undef T' 9, .int .i64 0], G8)) ?_, y2, _, _, by rw [hf], ?_, ?_⟩
    · simp [s45, rcheck_ok, hf, hlp]
    · rw [ez, playA_length]; exact y3.reads
    · rw [el]; exact y4
  · have ez : pA cap O = [] := by simp [pA, hf]
    have el : pL cap O = [] := by simp [pL, hf]
    refine ⟨_, c45 orc _ _ G (r := (.tuple #[.slice none 0 0, .slice none 0 0, .int .i64 (fchk cap 0)], G)) ?_, Ext.refl G, _, _, rfl, ?_, ?_⟩
    · simp [s45, rcheck_ok, hf]
    · rw [ez]; exact (OwnL.nil 0 _ _).reads
    · rw [el]; exact (OwnL.nil 0 _ _).reads
end Go.Proofs.Ytchempegmbidoaa.Lift

set_option linter.unusedVariables false
set_option linter.unusedSimpArgs false
namespace Go.Proofs.Ytchempegmbidoaa.Lift
open Go Go.Proofs.Ytchempegmbidoaa.Gh Go.Proofs
theorem pA_le (cap : Int) (O : List Op4) : (pA cap O).length ≤ O.length := by unfold pA; split <;> simp [playA_length]
theorem pL_le (cap : Int) (O : List Op4) : (pL cap O).length ≤ 1024 := by
  unfold pL
  split
  · rename_i h
    have hc := fchk_zero.1 h
    have := playL_le (cap := cap) O [] (by simp; omega)
    omega
  · simp
theorem fifoPlays (orc : FuncId → Bool) (ho : orc 33 = true) (cap : Int) (O : List Op4) (vo : Value) (G : GS) (hs : SlIs G 4 vo O.length (opsV O)) :
    Wp ((E orc).cl 10 [.int .i64 cap, vo] G) fun r => r.1 = .bool true := by
  obtain ⟨a0, c0, ha⟩ := hs.len
  rw [c10]
  have ln1 : gLen Q 65 vo = some (.int .i64 O.length) := by rw [ha]; simp
  by_cases hl : 80 < O.length
  · have hl' : (80 : Int) < O.length := by omega
    simp [s10, ln1, hl', cl_orc Q orc ho]
  have hl' : ¬ (80 : Int) < O.length := by omega
  obtain ⟨vc, G5, e5, x5, o5⟩ := copyOps orc hs (by omega)
  obtain ⟨⟨q7, G7⟩, e7, x7, va, vs, m, h7, hm, ha7, oa7, os7⟩ := play_ok orc cap (by omega) o5.reads
  simp only at x7 h7 oa7 os7
  subst h7
  obtain ⟨⟨q12, G12⟩, e12, x12, wa, ws, h12, ra12, rs12⟩ := rplay_ok orc cap (by omega) (hs.ext (x5.trans x7))
  simp only at x12 h12 ra12 rs12
  subst h12
  have hpA := pA_le cap O
  have hpL := pL_le cap O
  obtain ⟨G17, e17, x17⟩ := sameAnswers orc (oa7.ext x12).reads ra12 (by omega)
  obtain ⟨G23, e23, x23⟩ := sameWords orc ((os7.ext x12).ext x17).reads (rs12.ext x17) (by omega)
  simp only [decide_true] at e17 e23
  have x723 := (x12.trans x17).trans x23
  obtain ⟨G33, e33, y33, k33⟩ := aover_mod orc (hi := m) (oa7.ext x723) ha7 (by omega)
  have os33 : OwnL m G33 1 vs (pL cap O).length (words (pL cap O)) := by
    have h := os7.ext x723
    exact ⟨h.1, h.2.imp id fun ⟨b, op, h1, h2, h3, h4⟩ => ⟨b, op, h1, h2, Nat.lt_of_lt_of_le h3 y33, (k33 b (.inr h2)).trans h4⟩⟩
  obtain ⟨G35, e35, y35, k35⟩ := wover_mod orc (hi := G33.nx) os33 os33.reads.lt (by omega)
  have x57 := x7.trans x723
  have n5 := x5.nx
  have n7 := x57.nx
  have kp : ∀ {v : Value}, SlIs G5 4 v O.length (opsV O) → SlIs G35 4 v O.length (opsV O) := fun h =>
    h.same (Nat.le_trans n7 (Nat.le_trans y33 y35)) fun a n c e => by
      have := h.lt _ _ _ e
      rw [k35 _ (.inl (by omega)), k33 _ (.inl (by omega)), x57.obj _ this]
  obtain ⟨G41, e41, x41⟩ := sameOps orc (kp o5.reads) (kp (hs.ext x5)) (by omega)
  simp only [decide_true] at e41
  simp [s10, ln1, hl', e5, e7, pExtract, getN_zero, getN_succ, e12, e17, e23, e33, e35, e41, cl_orc Q orc ho]
end Go.Proofs.Ytchempegmbidoaa.Lift

set_option linter.unusedVariables false
set_option linter.unusedSimpArgs false
namespace Go.Proofs.Ytchempegmbidoaa.Lift
open Go Go.Proofs.Ytchempegmbidoaa.Gh Go.Proofs
theorem ne_an (x y : Operand) (o p : An3) : gBinF Q .neq 55 x y (.agg ⟨o.row⟩) (.agg ⟨p.row⟩) = some (.bool (!decide (o = p))) := by
  obtain ⟨a, b, c⟩ := o
  obtain ⟨a', b', c'⟩ := p
  rw [An3.row, An3.row, neq_55]
  congr 2
  rw [Bool.eq_iff_iff]
  simp
theorem an_load {G : GS} {n : Nat} {v : Value} {AN : List An3} (h : SlIs G 3 v n (ansVs AN)) {i : Nat} (hi : i < n) (hl : AN.length = n) : ∃ b o c, v = .slice (some ⟨b, o, none⟩) n c ∧ b < G.nx ∧ loadA 3 b (o + i * 3) G = some (.agg ⟨(AN[i]'(by omega)).row⟩) := by
  obtain ⟨b, o, c, h1, h2, h3⟩ := h.load hi
  rw [ansVs_drop _ _ (by omega)] at h3
  exact ⟨b, o, c, h1, h2, h3⟩
theorem op_load {G : GS} {n : Nat} {v : Value} {O : List Op4} (h : SlIs G 4 v n (opsV O)) {i : Nat} (hi : i < n) (hl : O.length = n) : ∃ b o c, v = .slice (some ⟨b, o, none⟩) n c ∧ b < G.nx ∧ loadA 4 b (o + i * 4) G = some (.agg ⟨(O[i]'(by omega)).row⟩) := by
  obtain ⟨b, o, c, h1, h2, h3⟩ := h.load hi
  rw [opsV_drop _ _ (by omega)] at h3
  exact ⟨b, o, c, h1, h2, h3⟩
theorem one_lp (orc : FuncId → Bool) {cap : Int} (hc1 : 1 ≤ cap) (hc2 : cap ≤ 1024) (O : List Op4) (AN : List An3) (hO : O.length ≤ 40) (hN : AN.length = O.length) (vo va w : Value) (p : Nat) (c j u : Int) (A : GS) (hs : SlIs A 4 vo O.length (opsV O)) (hv : SlIs A 3 va O.length (ansVs AN)) (hp : p < A.nx) (hpo : A.obj p = some ⟨[.int .i64 c, .int .i64 j, .int .u64 u], 1, false, 1⟩) :
    ∀ (k i : Nat) (L : List Int) (vs : Value) (T : List Value) (G : GS), i + k = O.length → T.length = 105 →
    nth undef T 0 = .int .i64 cap → nth undef T 1 = vo → nth undef T 5 = P1 p → nth undef T 7 = .bool true → nth undef T 8 = vs → nth undef T 9 = va → nth undef T 10 = w → nth undef T 12 = .int .i64 i →
    Ext A G → (L.length : Int) ≤ cap → SlIs G 1 vs L.length (words L) → AN.drop i = playA cap L (O.drop i) →
    Wp ((E orc).lp (subAt [1, 1, 1, 1, 1, 1, 1, 0, 1, 0, 0] (bodyOf Try.f13)) T G) fun q => q.1 = .exit 0 ∧ Ext A q.2.2 ∧ nth undef q.2.1 7 = .bool true ∧ nth undef q.2.1 10 = w ∧
      SlIs q.2.2 1 (nth undef q.2.1 8) (playL cap L (O.drop i)).length (words (playL cap L (O.drop i))) := by
  intro k
  induction k with
  | zero =>
    intro i L vs T G hi hT h0 h1 h5 h7 h8 h9 h10 h12 hA hL hq hd
    have hi' : i = O.length := by omega
    subst hi'
    obtain ⟨av, cv, hov⟩ := hs.len
    refine Wp.up (l13_0 orc T G hT) ?_
    simp [b13_0, h0, h1, h5, h7, h8, h9, h10, h12, hov, playL]
    exact ⟨hA, hq⟩
  | succ k ih =>
    intro i L vs T G hi hT h0 h1 h5 h7 h8 h9 h10 h12 hA hL hq hd
    have hlt : i < O.length := by omega
    have hlt' : (i : Int) < O.length := by omega
    have hi0 : (0 : Int) ≤ i := by omega
    have hw : IntKind.wrap .i64 ((i : Int) + 1) = ((i + 1 : Nat) : Int) := wrap64 (by omega) (by omega)
    have hdO : O.drop i = O[i] :: O.drop (i + 1) := List.drop_eq_getElem_cons hlt
    have hdA : AN.drop i = AN[i]'(by omega) :: AN.drop (i + 1) := List.drop_eq_getElem_cons (by omega)
    rw [hdO, hdA] at hd
    obtain ⟨bo, oo, co, hvo, hbo, hld⟩ := op_load hs hlt rfl
    obtain ⟨bv, ov, cv, hva, hbv, hlv⟩ := an_load hv hlt hN
    rw [hdO]
    have hAi : i < AN.length := by omega
    generalize O[i] = op at *
    generalize AN[i]'hAi = an at *
    obtain ⟨ok, oa, ob, ow⟩ := op
    simp only [playA, List.cons.injEq] at hd
    obtain ⟨rfl, hd⟩ := hd
    simp only [Op4.row, An3.row] at hld hlv
    obtain ⟨⟨q5, G5⟩, e5, x5, h5'⟩ := answer_ok orc hq (by omega) cap ok oa ob ow
    simp only at x5 h5'
    subst h5'
    have hr : rOk cap L ok = dOk ok := by simp [rOk, fchk_zero.2 ⟨hc1, hc2, hL⟩]
    have hac : aCode cap L ok = dCode cap L ok := by
      unfold aCode; rw [hr]
      cases h : dOk ok
      · simp [dCode_no h]
      · simp
    have haw : aWord cap L ok = dWord L ok := by
      unfold aWord; rw [hr]
      cases h : dOk ok
      · simp [dWord_no h]
      · simp
    rw [hac, haw, hr] at e5
    have ldo : ∀ {G'}, Ext A G' → loadA 4 bo (oo + i * 4) G' = some (opV ok oa ob ow) := fun h => by rw [loadA_eq, h.obj _ hbo, ← loadA_eq, hld]
    have lda : ∀ {G'}, Ext A G' → loadA 3 bv (ov + i * 3) G' = some (ansV (dCode cap L ok) 0 (dWord L ok)) := fun h => by rw [loadA_eq, h.obj _ hbv, ← loadA_eq, hlv]
    have ldp : ∀ {G'}, Ext A G' → loadA 3 p 0 G' = some (ansV c j u) := fun h => by rw [loadA_eq, h.obj _ hp, hpo]; exact ld3 _ _ _ _ _
    have x10 : Ext G5 ((((G5.push ⟨[.int .i64 0, .int .i64 0, .int .u64 0], 1, false, 1⟩).put G5.nx ⟨[.int .i64 (dCode cap L ok), .int .i64 0, .int .u64 (dWord L ok)], 1, false, 1⟩).room 6).room 13) := ((((Ext.refl _).push _).put (Nat.le_refl _) _).room _).room _
    generalize hG10 : ((((G5.push ⟨[.int .i64 0, .int .i64 0, .int .u64 0], 1, false, 1⟩).put G5.nx ⟨[.int .i64 (dCode cap L ok), .int .i64 0, .int .u64 (dWord L ok)], 1, false, 1⟩).room 6).room 13) = G10 at x10
    have xA5 := hA.trans x5
    have xA10 := xA5.trans x10
    have xq := hq.ext (x5.trans x10)
    obtain ⟨⟨q18, G18⟩, e18, x18, v18, h18, o18⟩ := next6_ok orc xq (by omega) cap ok oa ob ow c j u
    simp only at x18 h18 o18
    subst h18
    have xA18 := xA10.trans x18
    have hn10 : G5.nx + 1 ≤ G10.nx := by rw [← hG10]; simp
    have l8 : ∀ {G'}, Ext G10 G' → loadA 3 G5.nx 0 G' = some (ansV (dCode cap L ok) 0 (dWord L ok)) := fun h => by
      rw [loadA_eq, h.obj _ (by omega), ← hG10]; simp [ld3]
    have eqa := eq_an (.tmp 79) (.tmp 80) ⟨c, j, u⟩ ⟨dCode cap L ok, 0, dWord L ok⟩
    have nea := ne_an (.tmp 59) (.tmp 63) ⟨dCode cap L ok, 0, dWord L ok⟩ ⟨dCode cap L ok, 0, dWord L ok⟩
    simp only [An3.row, An3.mk.injEq, decide_true, Bool.not_true] at eqa nea
    have hne : nOk cap L ok c j u = (dOk ok && decide (c = dCode cap L ok ∧ j = 0 ∧ u = dWord L ok)) := by
      unfold nOk
      rw [hr, Bool.eq_iff_iff]
      simp
      intro _
      constructor
      · rintro ⟨h1, h2, h3⟩; exact ⟨h1.symm, h2.symm, h3.symm⟩
      · rintro ⟨h1, h2, h3⟩; exact ⟨h1.symm, h2.symm, h3.symm⟩
    have l1 := ldo hA
    have l2 : loadA 3 bv (ov + i * 3) (((G5.push ⟨[.int .i64 0, .int .i64 0, .int .u64 0], 1, false, 1⟩).put G5.nx ⟨[.int .i64 (dCode cap L ok), .int .i64 0, .int .u64 (dWord L ok)], 1, false, 1⟩).room 6) = some (ansV (dCode cap L ok) 0 (dWord L ok)) := lda (xA5.trans ((((Ext.refl _).push _).put (Nat.le_refl _) _).room _))
    have l2' : loadA 3 G5.nx 0 (((G5.push ⟨[.int .i64 0, .int .i64 0, .int .u64 0], 1, false, 1⟩).put G5.nx ⟨[.int .i64 (dCode cap L ok), .int .i64 0, .int .u64 (dWord L ok)], 1, false, 1⟩).room 6) = some (ansV (dCode cap L ok) 0 (dWord L ok)) := by rw [loadA_eq]; simp [ld3]
    have l3 := ldo xA10
    have l4 := ldp xA10
    have l5 := ldp xA18
    have l6 := l8 x18
    have l7 := ldo (xA18.room 13)
    have l9 := l8 (x18.room 13)
    refine Wp.up (l13_0 orc T G hT) ?_
    cases hok : dOk ok with
    | true =>
      rw [hok] at e5 hne hr
      obtain ⟨⟨q33, G33⟩, e33, x33, v33, h33, o33⟩ := next6_ok orc (G := G18.room 13) (xq.ext (x18.room 13)) (by omega) cap ok oa ob ow (dCode cap L ok) 0 (dWord L ok)
      simp only at x33 h33 o33
      subst h33
      have hn2 : nOk cap L ok (dCode cap L ok) 0 (dWord L ok) = true := by simp [nOk, hr]
      have hl2 : nL cap L ok ow (dCode cap L ok) 0 (dWord L ok) = dNext cap L ok ow := by simp [nL, hn2]
      rw [hn2] at e33
      rw [hl2] at o33
      rw [hne] at e18
      simp [-Int.natCast_add, b13_0, h0, h1, h5, h7, h8, h9, h10, h12, hlt', hi0, hw, hvo, hva, l1, l2, l2', l3, l4, l5, l6, l7, l9, e5, e18, e33, nea, eqa, hG10, pExtract, getN_zero, getN_succ, storeN_eq, st3, ld3]
      refine (ih (i + 1) (dNext cap L ok ow) v33 _ G33 (by omega) rfl rfl (by exact hvo.symm) rfl rfl rfl (by exact hva.symm) rfl rfl ((xA18.room 13).trans x33) (dNext_le hL _ _) o33.reads hd).mono ?_
      exact fun q h => h
    | false =>
      rw [hok] at e5 hne
      rw [hne] at e18
      simp only [Bool.false_and] at e18
      simp [-Int.natCast_add, b13_0, h0, h1, h5, h7, h8, h9, h10, h12, hlt', hi0, hw, hvo, hva, l1, l2, l2', l3, l4, l5, l6, l7, l9, e5, e18, nea, eqa, hG10, pExtract, getN_zero, getN_succ, storeN_eq, st3, ld3]
      have hnx := dNext_no (cap := cap) (L := L) (w := ow) hok
      rw [hnx] at hd
      refine (ih (i + 1) L vs _ G18 (by omega) rfl rfl (by exact hvo.symm) rfl rfl rfl (by exact hva.symm) rfl rfl xA18 hL (xq.ext x18) hd).mono ?_
      rintro q ⟨y1, y2, y3, y4, y5⟩
      exact ⟨y1, y2, y3, y4, by simpa [playL, hnx] using y5⟩
theorem room_of (x : Int) : 1 ≤ 1 + x % 20 ∧ 1 + x % 20 ≤ 20 ∧ IntKind.wrap .i64 (1 + x % 20) = 1 + x % 20 := ⟨by omega, by omega, wrap64 (by omega) (by omega)⟩
theorem fchk_room (x : Int) : fchk (1 + x % 20) 0 = 0 := fchk_zero.2 ⟨by omega, by omega, by omega⟩
theorem fifoOne (orc : FuncId → Bool) (ho : orc 11 = true) (x : Int) (O : List Op4) (vo : Value) (c j u : Int) (G : GS) (hs : SlIs G 4 vo O.length (opsV O)) :
    Wp ((E orc).cl 13 [.int .i64 x, vo, ansV c j u] G) fun r => r.1 = .bool true := by
  obtain ⟨a0, c0, ha⟩ := hs.len
  refine Wp.up (c13 orc _ _ _ G) ?_
  have ln1 : gLen Q 65 vo = some (.int .i64 O.length) := by rw [ha]; simp
  by_cases hl : 40 < O.length
  · have hl' : (40 : Int) < O.length := by omega
    simp [s13, mBox, Value.cells, ln1, hl', cl_orc Q orc ho]
  have hl' : ¬ (40 : Int) < O.length := by omega
  obtain ⟨hc1, hc2, hcw⟩ := room_of x
  have x1 : Ext G (G.push ⟨[.int .i64 c, .int .i64 j, .int .u64 u], 1, false, 1⟩) := (Ext.refl G).push _
  obtain ⟨⟨q7, G7⟩, e7, x7, va, vs, m, h7, hm, ha7, oa7, os7⟩ := play_ok orc (1 + x % 20) (by omega) (hs.ext x1)
  have hf := fchk_room x
  simp only at x7 h7 oa7 os7
  subst h7
  have eA : pA (1 + x % 20) O = playA (1 + x % 20) [] O := by simp [pA, hf]
  have eL : pL (1 + x % 20) O = playL (1 + x % 20) [] O := by simp [pL, hf]
  rw [hf] at e7
  rw [eA, playA_length] at oa7
  rw [eL] at os7
  obtain ⟨av, cv, hva⟩ := oa7.reads.len
  have ln2 : gLen Q 67 va = some (.int .i64 O.length) := by rw [hva]; simp
  have hbx : G7.obj G.nx = some ⟨[.int .i64 c, .int .i64 j, .int .u64 u], 1, false, 1⟩ := by rw [x7.obj _ (by simp)]; simp
  have hnx := x7.nx
  simp at hnx
  simp [s13, mBox, Value.cells, ln1, ln2, hl', cl_orc Q orc ho, pick_ok, hcw, e7, pExtract, getN_zero, getN_succ]
  refine Wp.bX ((one_lp orc hc1 (by omega) O (playA (1 + x % 20) [] O) (by omega) (playA_length _ _ _) vo va vs G.nx c j u G7 (hs.ext (x1.trans x7)) oa7.reads (by omega) hbx O.length 0 [] (.slice none 0 0) _ G7 (by omega) rfl rfl rfl rfl rfl rfl rfl rfl rfl (Ext.refl _) (by simp; omega) (OwnL.nil 0 _ _).reads rfl).mono ?_)
  rintro ⟨e, T', G8⟩ ⟨y1, y2, y3, y4, y5⟩
  simp only at y1 y2 y3 y4 y5
  subst y1
  have hb := playL_le (cap := 1 + x % 20) O [] (by simp; omega)
  obtain ⟨G9, e9, x9⟩ := sameWords orc y5 (os7.ext y2).reads (by simp; omega)
  simp only [List.drop_zero, decide_true] at e9
  simp [y3, y4, e9]
end Go.Proofs.Ytchempegmbidoaa.Lift

set_option linter.unusedVariables false
set_option linter.unusedSimpArgs false
set_option maxRecDepth 20000
namespace Go.Proofs.Ytchempegmbidoaa.Lift
open Go Go.Proofs.Ytchempegmbidoaa.Gh Go.Proofs
theorem an_cell {G : GS} {n : Nat} {v : Value} {AN : List An3} (h : SlIs G 3 v n (ansVs AN)) {i : Nat} (hi : i < n) (hl : AN.length = n) : ∃ b o c, v = .slice (some ⟨b, o, none⟩) n c ∧ b < G.nx ∧ G.cell b (o + i * 3) = some (.int .i64 (AN[i]'(by omega)).c) ∧ G.cell b (o + i * 3 + 2) = some (.int .u64 (AN[i]'(by omega)).u) := by
  obtain ⟨b, o, c, h1, h2, h3⟩ := h.at_ hi
  have hd := ansVs_drop AN i (by omega)
  have q : ∀ f, f < 3 → (ansVs AN)[i * 3 + f]? = (AN[i]'(by omega)).row[f]? := fun f hf => by rw [← hd, List.getElem?_take, if_pos hf, List.getElem?_drop]
  refine ⟨b, o, c, h1, h2, ?_, ?_⟩
  · have := h3 0 (by omega); rw [q 0 (by omega)] at this; simpa [An3.row] using this
  · have := h3 2 (by omega); rw [q 2 (by omega)] at this; simpa [An3.row] using this
theorem op_cell {G : GS} {n : Nat} {v : Value} {O : List Op4} (h : SlIs G 4 v n (opsV O)) {i : Nat} (hi : i < n) (hl : O.length = n) : ∃ b o c, v = .slice (some ⟨b, o, none⟩) n c ∧ b < G.nx ∧ G.cell b (o + i * 4) = some (.int .i64 (O[i]'(by omega)).k) ∧ G.cell b (o + i * 4 + 3) = some (.int .u64 (O[i]'(by omega)).w) := by
  obtain ⟨b, o, c, h1, h2, h3⟩ := h.at_ hi
  have hd := opsV_drop O i (by omega)
  have q : ∀ f, f < 4 → (opsV O)[i * 4 + f]? = (O[i]'(by omega)).row[f]? := fun f hf => by rw [← hd, List.getElem?_take, if_pos hf, List.getElem?_drop]
  refine ⟨b, o, c, h1, h2, ?_, ?_⟩
  · have := h3 0 (by omega); rw [q 0 (by omega)] at this; simpa [Op4.row] using this
  · have := h3 3 (by omega); rw [q 3 (by omega)] at this; simpa [Op4.row] using this
theorem gd_un (b : Bool) (x : Option (Value × GS)) (G : GS) : gd undef b x G = some (undef, G) := by cases b <;> rfl
theorem order_lp (orc : FuncId → Bool) {cap : Int} (hc1 : 1 ≤ cap) (hc2 : cap ≤ 1024) (O : List Op4) (AN : List An3) (hO : O.length ≤ 80) (hN : AN.length = O.length) (vo va w : Value) (A : GS) (hs : SlIs A 4 vo O.length (opsV O)) (hv : SlIs A 3 va O.length (ansVs AN)) :
    ∀ (k i : Nat) (L I : List Int) (out : Nat) (vi : Value) (T : List Value) (G : GS), i + k = O.length → T.length = 170 →
    nth undef T 0 = .int .i64 cap → nth undef T 1 = vo → nth undef T 5 = .bool true → nth undef T 6 = va → nth undef T 7 = w → nth undef T 9 = vi → nth undef T 10 = .int .i64 out → nth undef T 11 = .int .i64 i →
    Ext A G → (L.length : Int) ≤ cap → OwnL A.nx G 1 vi I.length (words I) → I.length ≤ i → out ≤ I.length → L = I.drop out → AN.drop i = playA cap L (O.drop i) →
    Wp ((E orc).lp (subAt [1, 1, 1, 1, 1, 1, 1, 1, 0, 1, 0, 0] (bodyOf Try.f12)) T G) fun q => q.1 = .exit 0 ∧ Ext A q.2.2 ∧ nth undef q.2.1 5 = .bool true ∧ nth undef q.2.1 7 = w ∧
      ∃ (I' : List Int) (out' : Nat), nth undef q.2.1 10 = .int .i64 out' ∧ out' ≤ I'.length ∧ I'.length ≤ O.length ∧ I'.drop out' = playL cap L (O.drop i) ∧ OwnL A.nx q.2.2 1 (nth undef q.2.1 9) I'.length (words I') := by
  intro k
  induction k with
  | zero =>
    intro i L I out vi T G hi hT h0 h1 h5 h6 h7 h9 h10 h11 hA hL ho hIi hio hLd hd
    have hi' : i = O.length := by omega
    subst hi'
    obtain ⟨av, cv, hov⟩ := hs.len
    refine Wp.up (l12_0 orc T G hT) ?_
    simp [b12_0, h0, h1, h5, h6, h7, h9, h10, h11, hov, playL]
    exact ⟨hA, I, out, rfl, hio, hIi, hLd.symm, ho⟩
  | succ k ih =>
    intro i L I out vi T G hi hT h0 h1 h5 h6 h7 h9 h10 h11 hA hL ho hIi hio hLd hd
    have hlt : i < O.length := by omega
    have hlt' : (i : Int) < O.length := by omega
    have hi0 : (0 : Int) ≤ i := by omega
    have hw : IntKind.wrap .i64 ((i : Int) + 1) = ((i + 1 : Nat) : Int) := wrap64 (by omega) (by omega)
    have hLl : L.length = I.length - out := by rw [hLd, List.length_drop]
    have hw2 : IntKind.wrap .i64 ((I.length : Int) - out) = (L.length : Int) := by rw [wrap64 (by omega) (by omega)]; omega
    have hdO : O.drop i = O[i] :: O.drop (i + 1) := List.drop_eq_getElem_cons hlt
    have hdA : AN.drop i = AN[i]'(by omega) :: AN.drop (i + 1) := List.drop_eq_getElem_cons (by omega)
    rw [hdO, hdA] at hd
    obtain ⟨bo, oo, co, hvo, hbo, hk, hww⟩ := op_cell (hs.ext hA) hlt rfl
    obtain ⟨bv, ov, cv, hva, hbv, hc, hu⟩ := an_cell (hv.ext hA) hlt hN
    rw [hdO]
    have hAi : i < AN.length := by omega
    generalize O[i] = op at *
    generalize AN[i]'hAi = an at *
    obtain ⟨ok, oa, ob, ow⟩ := op
    simp only [playA, List.cons.injEq] at hd
    obtain ⟨rfl, hd⟩ := hd
    simp only at hk hww hc hu
    obtain ⟨ai, ci, hvi⟩ := ho.reads.len
    have hgt : ¬ (I.length : Int) < out := by omega
    have hgt2 : ¬ cap < (L.length : Int) := by omega
    have w0 : IntKind.wrap .i64 0 = 0 := wrap64 (by omega) (by omega)
    have hc0 : ¬ cap < 0 := by omega
    have hsame := hA.trans ((Ext.refl G).room 37)
    have stay : ∀ (L' : List Int) (out' : Nat) (I' : List Int) (vi' : Value) (T' : List Value) (G' : GS), L' = dNext cap L ok ow → T'.length = 170 → nth undef T' 0 = .int .i64 cap → nth undef T' 1 = vo → nth undef T' 5 = .bool true → nth undef T' 6 = va → nth undef T' 7 = w → nth undef T' 9 = vi' → nth undef T' 10 = .int .i64 out' → nth undef T' 11 = .int .i64 ((i + 1 : Nat) : Int) →
        Ext A G' → OwnL A.nx G' 1 vi' I'.length (words I') → I'.length ≤ i + 1 → out' ≤ I'.length → L' = I'.drop out' →
        Wp ((E orc).lp (subAt [1, 1, 1, 1, 1, 1, 1, 1, 0, 1, 0, 0] (bodyOf Try.f12)) T' G') fun q => q.1 = .exit 0 ∧ Ext A q.2.2 ∧ nth undef q.2.1 5 = .bool true ∧ nth undef q.2.1 7 = w ∧
          ∃ (I' : List Int) (out' : Nat), nth undef q.2.1 10 = .int .i64 out' ∧ out' ≤ I'.length ∧ I'.length ≤ O.length ∧ I'.drop out' = playL cap L (⟨ok, oa, ob, ow⟩ :: O.drop (i + 1)) ∧ OwnL A.nx q.2.2 1 (nth undef q.2.1 9) I'.length (words I') := by
      intro L' out' I' vi' T' G' hL' t0 t1 t2 t3 t4 t5 t6 t7 t8 t9 t10 t11 t12 t13
      subst hL'
      exact ih (i + 1) _ I' out' vi' T' G' (by omega) t0 t1 t2 t3 t4 t5 t6 t7 t8 t9 (dNext_le hL _ _) t10 t11 t12 t13 hd
    refine Wp.up (l12_0 orc T G hT) ?_
    by_cases k1 : ok = 1
    · subst k1
      by_cases hq : cap ≤ L.length
      · have hq' : (L.length : Int) = cap := by omega
        have hdc : dCode cap L 1 = 7 := by simp [dCode, hq]
        rw [hdc] at hc
        simp [-Int.natCast_add, b12_0, h0, h1, h5, h6, h7, h9, h10, h11, hlt', hi0, hw, hvo, hva, hvi, hk, hww, hc, hu, hw2, hgt, hgt2, gd_un, w0, hc0, Int.sub_self, hq']
        exact stay L out I vi _ _ (by simp [dNext, hq]) rfl rfl (by exact hvo.symm) rfl (by exact hva.symm) rfl (by exact hvi.symm) rfl rfl hA ho (by omega) hio hLd
      · have hq' : ¬ (L.length : Int) = cap := by omega
        have hdc : dCode cap L 1 = 0 := by simp [dCode, hq]
        rw [hdc] at hc
        obtain ⟨v', G', a1, a2, a3, a4, a5⟩ := app_new (isz := 1) (ib := 8) (by omega) (by omega) (hA.push ⟨[.int .u64 ow], 1, false, 1⟩) (ho.ext ((Ext.refl G).push _)) (one_sl (Ext.refl G) (.int .u64 ow)) (by omega) rfl (by omega)
        rw [words_snoc] at a3
        obtain ⟨a', c', hv'⟩ := a3.reads.len
        have hw3 : IntKind.wrap .i64 (((I.length + 1 : Nat) : Int) - out) = ((L.length + 1 : Nat) : Int) := by rw [wrap64 (by omega) (by omega)]; omega
        have hgt3 : ¬ ((I.length + 1 : Nat) : Int) < out := by omega
        have hgt4 : ¬ cap < ((L.length + 1 : Nat) : Int) := by omega
        rw [hvi] at a1
        rw [hv'] at a1
        simp [-Int.natCast_add, b12_0, h0, h1, h5, h6, h7, h9, h10, h11, hlt', hi0, hw, hvo, hva, hvi, hk, hww, hc, hu, hw2, hgt, hgt2, gd_un, w0, hc0, Int.sub_self, hq', fillS, fillC, splice_put, splice_end, Value.cells, a1, hw3, hgt3, hgt4]
        exact stay (L ++ [ow]) out (I ++ [ow]) v' _ _ (by simp [dNext, hq]) rfl rfl (by exact hvo.symm) rfl (by exact hva.symm) rfl (by exact hv'.symm) rfl rfl a2 (by simpa using a3.mono (by have := hA.nx; simp; omega)) (by simp; omega) (by simp; omega) (by rw [hLd, List.drop_append_of_le_length hio])
    by_cases k2 : ok = 2
    · subst k2
      have hdn : dNext cap L 2 ow = L := by simp [dNext]
      by_cases hq : L = []
      · have hq' : (I.length : Int) = out := by have : L.length = 0 := by rw [hq]; rfl
                                                omega
        have hdc : dCode cap L 2 = 15 := by simp [dCode, hq]
        rw [hdc] at hc
        simp [-Int.natCast_add, b12_0, h0, h1, h5, h6, h7, h9, h10, h11, hlt', hi0, hw, hvo, hva, hvi, hk, hww, hc, hu, hw2, hgt, hgt2, gd_un, w0, hc0, Int.sub_self, hq']
        exact stay L out I vi _ _ hdn.symm rfl rfl (by exact hvo.symm) rfl (by exact hva.symm) rfl (by exact hvi.symm) rfl rfl hsame (ho.ext ((Ext.refl G).room 37)) (by omega) hio hLd
      · have hLp : 0 < L.length := List.length_pos_iff.2 hq
        have hq' : ¬ (I.length : Int) = out := by omega
        have hq2 : ¬ (I.length : Int) ≤ out := by omega
        have hq3 : (out : Int) < I.length := by omega
        have hdc : dCode cap L 2 = 0 := by simp [dCode, hq]
        have hio' : out < I.length := by omega
        have hdw : dWord L 2 = I[out] := by simp [dWord, hLd, List.headD_eq_head?_getD, hio']
        rw [hdc] at hc
        rw [hdw] at hu
        obtain ⟨bi, oi, ci', hvi', hbi, hci⟩ := ho.reads.at_ hio'
        have hci := hci 0 (by omega)
        simp [hio'] at hci
        have hfull : (L.length : Int) = cap ∨ ¬ (L.length : Int) = cap := by omega
        rw [hvi'] at hvi
        simp only [Value.slice.injEq, true_and] at hvi
        rcases hfull with hfull | hfull <;>
        · simp [-Int.natCast_add, b12_0, h0, h1, h5, h6, h7, h9, h10, h11, hlt', hi0, hw, hvo, hva, hvi', hk, hww, hc, hu, hw2, hgt, hgt2, gd_un, w0, hc0, Int.sub_self, hfull, hq', hq2, hq3, hci]
          exact stay L out I vi _ _ hdn.symm rfl rfl (by exact hvo.symm) rfl (by exact hva.symm) rfl (by exact hvi'.symm) rfl rfl hsame (ho.ext ((Ext.refl G).room 37)) (by omega) hio hLd
    by_cases k3 : ok = 3
    · subst k3
      by_cases hq : L = []
      · have hq' : (I.length : Int) = out := by have : L.length = 0 := by rw [hq]; rfl
                                                omega
        have hdn : dNext cap L 3 ow = L := by simp [dNext, hq]
        have hdc : dCode cap L 3 = 15 := by simp [dCode, hq]
        rw [hdc] at hc
        simp [-Int.natCast_add, b12_0, h0, h1, h5, h6, h7, h9, h10, h11, hlt', hi0, hw, hvo, hva, hvi, hk, hww, hc, hu, hw2, hgt, hgt2, gd_un, w0, hc0, Int.sub_self, hq']
        exact stay L out I vi _ _ hdn.symm rfl rfl (by exact hvo.symm) rfl (by exact hva.symm) rfl (by exact hvi.symm) rfl rfl hA ho (by omega) hio hLd
      · have hLp : 0 < L.length := List.length_pos_iff.2 hq
        have hq' : ¬ (I.length : Int) = out := by omega
        have hdc : dCode cap L 3 = 0 := by simp [dCode, hq]
        have hdn : dNext cap L 3 ow = L.tail := by simp [dNext]
        rw [hdc] at hc
        have hw4 : IntKind.wrap .i64 ((out : Int) + 1) = ((out + 1 : Nat) : Int) := wrap64 (by omega) (by omega)
        have hw5 : IntKind.wrap .i64 ((I.length : Int) - ((out + 1 : Nat) : Int)) = ((L.length - 1 : Nat) : Int) := by rw [wrap64 (by omega) (by omega)]; omega
        have hgt5 : ¬ (I.length : Int) < ((out + 1 : Nat) : Int) := by omega
        have hgt6 : ¬ cap < ((L.length - 1 : Nat) : Int) := by omega
        simp [-Int.natCast_add, b12_0, h0, h1, h5, h6, h7, h9, h10, h11, hlt', hi0, hw, hvo, hva, hvi, hk, hww, hc, hu, hw2, hgt, hgt2, gd_un, w0, hc0, Int.sub_self, hq', hw4, hw5, hgt5, hgt6]
        exact stay L.tail (out + 1) I vi _ _ hdn.symm rfl rfl (by exact hvo.symm) rfl (by exact hva.symm) rfl (by exact hvi.symm) rfl rfl hA ho (by omega) (by omega) (by rw [hLd, List.tail_drop])
    · have hdn : dNext cap L ok ow = L := by simp [dNext, k1, k3]
      simp [-Int.natCast_add, b12_0, h0, h1, h5, h6, h7, h9, h10, h11, hlt', hi0, hw, hvo, hva, hvi, hk, hww, hc, hu, hw2, hgt, hgt2, gd_un, w0, hc0, Int.sub_self, k1, k2, k3]
      exact stay L out I vi _ _ hdn.symm rfl rfl (by exact hvo.symm) rfl (by exact hva.symm) rfl (by exact hvi.symm) rfl rfl hA ho (by omega) hio hLd
end Go.Proofs.Ytchempegmbidoaa.Lift

set_option linter.unusedVariables false
set_option linter.unusedSimpArgs false
namespace Go.Proofs.Ytchempegmbidoaa.Gh
open Go Go.Proofs
/-- the rest of a slice of the call's own -/
theorem slK_own {B : Nat} {G : GS} {sz n : Nat} {v : Value} {cs : List Value} (h : OwnL B G sz v n cs) {o : Nat} (ho : o ≤ n) :
    ∃ v', slK sz v (some (.int .i64 o)) none none G = some v' ∧ SlIs G sz v' (n - o) (cs.drop (o * sz)) := by
  have hl : (cs.drop (o * sz)).length = (n - o) * sz := by rw [List.length_drop, h.1, Nat.sub_mul]
  rcases h.2 with ⟨rfl, rfl⟩ | ⟨b, op, rfl, h2, h3, h4⟩
  · have : o = 0 := by omega
    subst this
    exact ⟨.slice none 0 0, by simp [slK, bound], hl, .inl ⟨rfl, rfl⟩⟩
  · have h1 : (0 : Int) ≤ o ∧ (o : Int) ≤ n := by omega
    refine ⟨.slice (some ⟨b, 0 + o * sz, none⟩) (n - o) (n - o), ?_, hl, .inr ⟨b, 0 + o * sz, n - o, _, rfl, Nat.le_refl _, h3, h4, by simp, fun i hi => ?_⟩⟩
    · simp [slK, h4, bound, h1]
    · simp [List.getElem?_drop]
end Go.Proofs.Ytchempegmbidoaa.Gh
namespace Go.Proofs.Ytchempegmbidoaa.Lift
open Go Go.Proofs.Ytchempegmbidoaa.Gh Go.Proofs
theorem fifoOrder (orc : FuncId → Bool) (ho : orc 11 = true) (x : Int) (O : List Op4) (vo : Value) (G : GS) (hs : SlIs G 4 vo O.length (opsV O)) :
    Wp ((E orc).cl 12 [.int .i64 x, vo] G) fun r => r.1 = .bool true := by
  obtain ⟨a0, c0, ha⟩ := hs.len
  refine Wp.up (c12 orc _ _ G) ?_
  have ln1 : gLen Q 65 vo = some (.int .i64 O.length) := by rw [ha]; simp
  by_cases hl : 80 < O.length
  · have hl' : (80 : Int) < O.length := by omega
    simp [s12, ln1, hl', cl_orc Q orc ho]
  have hl' : ¬ (80 : Int) < O.length := by omega
  obtain ⟨hc1, hc2, hcw⟩ := room_of x
  obtain ⟨⟨q7, G7⟩, e7, x7, va, vs, m, h7, hm, ha7, oa7, os7⟩ := play_ok orc (1 + x % 20) (by omega) hs
  have hf := fchk_room x
  simp only at x7 h7 oa7 os7
  subst h7
  have eA : pA (1 + x % 20) O = playA (1 + x % 20) [] O := by simp [pA, hf]
  have eL : pL (1 + x % 20) O = playL (1 + x % 20) [] O := by simp [pL, hf]
  rw [hf] at e7
  rw [eA, playA_length] at oa7
  rw [eL] at os7
  obtain ⟨av, cv, hva⟩ := oa7.reads.len
  have ln2 : gLen Q 67 va = some (.int .i64 O.length) := by rw [hva]; simp
  simp [s12, ln1, ln2, hl', cl_orc Q orc ho, pick_ok, hcw, e7, pExtract, getN_zero, getN_succ]
  refine Wp.bX ((order_lp orc hc1 (by omega) O (playA (1 + x % 20) [] O) (by omega) (playA_length _ _ _) vo va vs G7 (hs.ext x7) oa7.reads O.length 0 [] [] 0 (.slice none 0 0) _ G7 (by omega) rfl rfl rfl rfl rfl rfl rfl rfl rfl (Ext.refl _) (by simp; omega) (OwnL.nil _ _ _) (by simp) (by simp) rfl rfl).mono ?_)
  rintro ⟨e, T', G8⟩ ⟨y1, y2, y3, y4, I, out, y5, y6, y7, y8, y9⟩
  simp only at y1 y2 y3 y4 y5 y9
  subst y1
  obtain ⟨vi, z1, z2⟩ := slK_own y9 y6
  have hb := playL_le (cap := 1 + x % 20) O [] (by simp; omega)
  simp only [List.drop_zero] at y8
  have z3 : SlIs G8 1 vi (playL (1 + x % 20) [] O).length (words (playL (1 + x % 20) [] O)) := by
    have h1 : (words I).drop (out * 1) = words (I.drop out) := by simp [words]
    have h2 : I.length - out = (I.drop out).length := by simp
    rw [h1, h2, y8] at z2
    exact z2
  obtain ⟨G9, e9, x9⟩ := sameWords orc (os7.ext y2).reads z3 (by omega)
  simp only [decide_true] at e9
  have hsl : gSlice Q 50 (nth undef T' 9) (some (.int .i64 out)) none none G8 = some vi := by
    obtain ⟨ai, ci, hi⟩ := y9.reads.len
    rw [hi] at z1 ⊢
    simpa using z1
  simp [y3, y4, y5, hsl, e9]
theorem row_op4 {r : List Value} (h : Gh.Row [some .i64, some .i64, some .i64, some .u64] r) : ∃ o : Op4, r = o.row := by
  obtain ⟨k, a, b, w, rfl⟩ := row_op h
  exact ⟨⟨k, a, b, w⟩, rfl⟩
end Go.Proofs.Ytchempegmbidoaa.Lift

