import Derived.Test.YtchempegmbidoaaO13
import Derived.Test.YtchempegmbidoaaGhEQ
import Derived.Test.YtchempegmbidoaaGhLS
set_option linter.unusedVariables false
set_option linter.unusedSimpArgs false
namespace Go.Proofs.Ytchempegmbidoaa.Lift
open Go Go.Proofs.Ytchempegmbidoaa.Gh Go.Proofs
def words (l : List Int) : List Value := l.map (Value.int .u64)
@[simp] theorem words_length (l : List Int) : (words l).length = l.length := by simp [words]
@[simp] theorem words_get (l : List Int) (i : Nat) : (words l)[i]? = l[i]?.map (Value.int .u64) := by simp [words]
@[simp] theorem words_getElem (l : List Int) (i : Nat) (h : i < (words l).length) : (words l)[i] = .int .u64 (l[i]'(by simpa using h)) := by simp [words]
@[simp] theorem words_nil : words [] = [] := rfl
theorem words_append (l m : List Int) : words (l ++ m) = words l ++ words m := by simp [words]
theorem words_snoc (l : List Int) (x : Int) : words l ++ [.int .u64 x] = words (l ++ [x]) := by simp [words]
theorem words_one (l : List Int) : (words l).all one = true := by simp [words, one]
theorem wsame_lp (orc : FuncId → Bool) (A B : List Int) (v0 v1 : Value) : ∀ (k i : Nat) (s : Bool) (T : List Value) (G : GS), i + k = A.length → T.length = 31 → nth undef T 0 = v0 → nth undef T 1 = v1 → nth undef T 5 = .bool s → nth undef T 6 = .int .i64 i →
    SlIs G 1 v0 A.length (words A) → SlIs G 1 v1 B.length (words B) → A.length < 2 ^ 47 → (s = true → A.length = B.length) →
    Wp ((E orc).lp (subAt [1, 1, 0, 1, 0, 0] (bodyOf Try.f39)) T G) fun r => r.1 = .exit 0 ∧ Ext G r.2.2 ∧ nth undef r.2.1 5 = .bool (s && decide (A.drop i = B.drop i)) := by
  intro k
  induction k with
  | zero =>
    intro i s T G hi hT h0 h1 h5 h6 hA hB hlt hs
    have hi' : i = A.length := by omega
    obtain ⟨a, c, ha⟩ := hA.len
    refine Wp.up (l39_0 orc T G hT) ?_
    cases s with
    | false => simp [b39_0, h0, h1, h5, h6, Ext.refl]
    | true =>
      have hd : A.drop i = B.drop i := by
        rw [hi', List.drop_length, List.drop_of_length_le (by rw [hs rfl]; omega)]
      simp [b39_0, h0, h1, h5, h6, ha, hd, Ext.refl]
      simp [hi', Ext.refl]
  | succ k ih =>
    intro i s T G hi hT h0 h1 h5 h6 hA hB hlt hs
    refine Wp.up (l39_0 orc T G hT) ?_
    cases s with
    | false => simp [b39_0, h0, h1, h5, h6, Ext.refl]
    | true =>
      have hl := hs rfl
      have hiA : i < A.length := by omega
      have hiB : i < B.length := by omega
      obtain ⟨b, o, c, e0, hb, hc⟩ := hA.at_ hiA
      obtain ⟨b', o', c', e1, hb', hc'⟩ := hB.at_ hiB
      have hc := hc 0 (by omega)
      have hc' := hc' 0 (by omega)
      simp [hiA, hiB] at hc hc'
      have hw : IntKind.wrap .i64 ((i : Int) + 1) = ((i + 1 : Nat) : Int) := wrap64 (by omega) (by omega)
      have hi0 : (0 : Int) ≤ i := by omega
      rw [drop_cons hiA hiB]
      simp only [b39_0, h0, h1, h5, h6]
      simp [e0, e1, hc, hc', hw, hiA, hiB, hi0]
      have he : Ext G (G.room 10) := (Ext.refl G).room 10
      refine (ih (i + 1) (decide (A[i] = B[i])) _ (G.room 10) ?_ ?_ ?_ ?_ ?_ ?_ (hA.ext he) (hB.ext he) hlt (fun _ => hl)).mono ?_
      · omega
      · rfl
      · exact e0.symm
      · exact e1.symm
      · rfl
      · rfl
      · rintro r ⟨h1, h2, h3⟩
        exact ⟨h1, he.trans h2, h3⟩
theorem sameWords (orc : FuncId → Bool) {A B : List Int} {v0 v1 : Value} {G : GS} (hA : SlIs G 1 v0 A.length (words A)) (hB : SlIs G 1 v1 B.length (words B)) (hlt : A.length < 2 ^ 47) :
    ∃ G', (E orc).cl 39 [v0, v1] G = some (.bool (decide (A = B)), G') ∧ Ext G G' := by
  obtain ⟨a, c, ha⟩ := hA.len
  obtain ⟨b, d, hb⟩ := hB.len
  have hd : (decide ((A.length : Int) = (B.length : Int)) && decide (A.drop 0 = B.drop 0)) = decide (A = B) := by
    by_cases h : A = B
    · simp [h]
    · simp [h]
  obtain ⟨⟨e, T', G'⟩, hlp, h1, h2, h3⟩ := wsame_lp orc A B v0 v1 A.length 0 (decide ((A.length : Int) = (B.length : Int)))
    [v0, v1, undef, undef, (.bool false), .bool (decide ((A.length : Int) = (B.length : Int))), (.int .i64 0), v0, .int .i64 A.length, v1, .int .i64 B.length, .bool (decide ((A.length : Int) = (B.length : Int))), undef, undef, undef, undef, undef, undef, undef, undef, undef, undef, undef, undef, undef, undef, undef, undef, undef, undef, undef] G (by omega) rfl rfl rfl rfl rfl hA hB hlt (fun h => by simp at h; omega)
  rw [hd] at h3
  simp only at h1 h2 h3
  subst h1
  refine ⟨G', c39 orc v0 v1 G ?_, h2⟩
  subst ha
  subst hb
  simp only [s39, ln_50, bP_some, bin_eql, hlp, bX_some, ifE_same, h3]
theorem copyWords (orc : FuncId → Bool) {n : Nat} {A : List Int} {v0 : Value} {G : GS} (hA : SlIs G 1 v0 n (words A)) (hlt : n < 2 ^ 40) :
    ∃ v' G', (E orc).cl 34 [v0] G = some (v', G') ∧ Ext G G' ∧ OwnL G.nx G' 1 v' n (words A) := by
  have h0 : OwnL G.nx (G.push ⟨[], 1, false, 1⟩) 1 (.slice (some ⟨G.nx, 0, none⟩) 0 0) 0 [] := ⟨by simp, .inr ⟨G.nx, false, rfl, Nat.le_refl _, by simp, by simp⟩⟩
  obtain ⟨v', G', h1, h2, h3⟩ := app_ok (ib := 8) (by omega) (by omega) ((Ext.refl G).push ⟨[], 1, false, 1⟩) h0 (hA.ext ((Ext.refl G).push _)) (words_one A) (by omega)
  refine ⟨v', G', ?_, h2, by simpa using h3⟩
  rw [c34]
  simp [s34, fillS, fillC, h1]
/-- written over: no other block is touched -/
theorem woverm_lp (orc : FuncId → Bool) (A : GS) (b : Nat) (n : Nat) (hn : n < 2 ^ 40) : ∀ (k i : Nat) (cs : List Value) (op : Bool) (T : List Value) (G : GS), i + k = n → T.length = 12 → nth undef T 0 = .slice (some ⟨b, 0, none⟩) n n → nth undef T 2 = .int .i64 i →
    A.nx ≤ G.nx → (∀ g, g ≠ b → G.obj g = A.obj g) → G.obj b = some ⟨cs, 1, op, 1⟩ → cs.length = n →
    Wp ((E orc).lp (subAt [1, 0, 0] (bodyOf Try.f42)) T G) fun r => r.1 = .exit 0 ∧ A.nx ≤ r.2.2.nx ∧ ∀ g, g ≠ b → r.2.2.obj g = A.obj g := by
  intro k
  induction k with
  | zero =>
    intro i cs op T G hi hT h0 h2 hx hA ho hc
    refine Wp.up (l42_0 orc T G hT) ?_
    have : i = n := by omega
    simpa [b42_0, h0, h2, this, hx] using hA
  | succ k ih =>
    intro i cs op T G hi hT h0 h2 hx hA ho hc
    have hlt : i < n := by omega
    have hw : IntKind.wrap .i64 ((i : Int) + 1) = ((i + 1 : Nat) : Int) := wrap64 (by omega) (by omega)
    have hi0 : (0 : Int) ≤ i := by omega
    have hst : storeN 1 b i (.int .u64 7777777) G = some (G.put b (GObj.set ⟨cs, 1, op, 1⟩ i (.int .u64 7777777))) := by
      simp only [storeN, Value.cells]
      exact wr1_of ho rfl rfl (by simp only; omega)
    refine Wp.up (l42_0 orc T G hT) ?_
    simp [b42_0, h0, h2, hlt, hw, hi0, hst]
    refine ih (i + 1) (cs.set i (.int .u64 7777777)) op _ _ ?_ ?_ ?_ ?_ ?_ ?_ ?_ ?_
    · omega
    · rfl
    · rfl
    · rfl
    · simpa using hx
    · intro g hg
      rw [obj_put, if_neg hg]
      exact hA g hg
    · simp [GObj.set]
    · simpa using hc
theorem wover_mod (orc : FuncId → Bool) {B hi : Nat} {G : GS} {n : Nat} {v0 : Value} {cs : List Value} (h : OwnL B G 1 v0 n cs) (hx : SlLt hi v0) (hlt : n < 2 ^ 40) :
    ∃ G', (E orc).cl 42 [v0] G = some (.tuple #[], G') ∧ G.nx ≤ G'.nx ∧ ∀ g, g < B ∨ hi ≤ g → G'.obj g = G.obj g := by
  rcases h.2 with ⟨rfl, rfl⟩ | ⟨b, op, rfl, h2, h3, h4⟩
  · refine ⟨G, c42 orc _ G ?_, Nat.le_refl _, fun _ _ => rfl⟩
    have := l42_0 orc [.slice none 0 0, undef, .int .i64 0, undef, undef, undef, undef, undef, undef, undef, undef, undef] G rfl (r := (.exit 0, _, G)) (by simp [b42_0]; rfl)
    simp [s42, this]
  · obtain ⟨⟨e, T', G'⟩, hlp, h5, h6, h7⟩ := woverm_lp orc G b n hlt n 0 cs op [.slice (some ⟨b, 0, none⟩) n n, undef, (.int .i64 0), undef, undef, undef, undef, undef, undef, undef, undef, undef] G (by omega) rfl rfl rfl (Nat.le_refl _) (fun _ _ => rfl) h4 (by simpa using h.1)
    simp only at h5 h6 h7
    subst h5
    have hb : b < hi := hx _ _ _ rfl
    exact ⟨G', c42 orc _ G (by simp [s42, hlp]), h6, fun g hg => h7 g (by omega)⟩
end Go.Proofs.Ytchempegmbidoaa.Lift

set_option linter.unusedVariables false
set_option linter.unusedSimpArgs false
namespace Go.Proofs.Ytchempegmbidoaa.Lift
open Go Go.Proofs.Ytchempegmbidoaa.Gh Go.Proofs
abbrev opV (k a b w : Int) : Value := .agg ⟨[.int .i64 k, .int .i64 a, .int .i64 b, .int .u64 w]⟩
abbrev ansV (c i w : Int) : Value := .agg ⟨[.int .i64 c, .int .i64 i, .int .u64 w]⟩
theorem req_55 (a0 a1 a2 b0 b1 b2 : Int) : prun Q (Op.equalIn 10000 55 (ansV a0 a1 a2) (ansV b0 b1 b2)) = some (a0 == b0 && (a1 == b1 && (a2 == b2 && true))) :=
  eqS (d := 9999) (L := [(32, 0), (3, 1), (51, 2)]) (by kernel_rfl) (by kernel_rfl) (eqL_cons (a := .int .i64 a0) (b := .int .i64 b0) (by kernel_rfl) (by kernel_rfl) (by kernel_rfl) (eqL_cons (a := .int .i64 a1) (b := .int .i64 b1) (by kernel_rfl) (by kernel_rfl) (by kernel_rfl) (eqL_cons (a := .int .u64 a2) (b := .int .u64 b2) (by kernel_rfl) (by kernel_rfl) (by kernel_rfl) rfl)))
@[simp] theorem eql_55 (x y : Operand) (a0 a1 a2 b0 b1 b2 : Int) : gBinF Q .eql 55 x y (ansV a0 a1 a2) (ansV b0 b1 b2) = some (.bool (a0 == b0 && (a1 == b1 && (a2 == b2 && true)))) :=
  eql_aggF (op := .eql) (by kernel_rfl) (by kernel_rfl) (by kernel_rfl) (req_55 a0 a1 a2 b0 b1 b2)
@[simp] theorem neq_55 (x y : Operand) (a0 a1 a2 b0 b1 b2 : Int) : gBinF Q .neq 55 x y (ansV a0 a1 a2) (ansV b0 b1 b2) = some (.bool !(a0 == b0 && (a1 == b1 && (a2 == b2 && true)))) :=
  neq_aggF (op := .eql) (by kernel_rfl) (by kernel_rfl) (by kernel_rfl) (req_55 a0 a1 a2 b0 b1 b2)
theorem req_53 (a0 a1 a2 a3 b0 b1 b2 b3 : Int) : prun Q (Op.equalIn 10000 53 (opV a0 a1 a2 a3) (opV b0 b1 b2 b3)) = some (a0 == b0 && (a1 == b1 && (a2 == b2 && (a3 == b3 && true)))) :=
  eqS (d := 9999) (L := [(3, 0), (3, 1), (3, 2), (51, 3)]) (by kernel_rfl) (by kernel_rfl) (eqL_cons (a := .int .i64 a0) (b := .int .i64 b0) (by kernel_rfl) (by kernel_rfl) (by kernel_rfl) (eqL_cons (a := .int .i64 a1) (b := .int .i64 b1) (by kernel_rfl) (by kernel_rfl) (by kernel_rfl) (eqL_cons (a := .int .i64 a2) (b := .int .i64 b2) (by kernel_rfl) (by kernel_rfl) (by kernel_rfl) (eqL_cons (a := .int .u64 a3) (b := .int .u64 b3) (by kernel_rfl) (by kernel_rfl) (by kernel_rfl) rfl))))
@[simp] theorem eql_53 (x y : Operand) (a0 a1 a2 a3 b0 b1 b2 b3 : Int) : gBinF Q .eql 53 x y (opV a0 a1 a2 a3) (opV b0 b1 b2 b3) = some (.bool (a0 == b0 && (a1 == b1 && (a2 == b2 && (a3 == b3 && true))))) :=
  eql_aggF (op := .eql) (by kernel_rfl) (by kernel_rfl) (by kernel_rfl) (req_53 a0 a1 a2 a3 b0 b1 b2 b3)
end Go.Proofs.Ytchempegmbidoaa.Lift

set_option linter.unusedVariables false
set_option linter.unusedSimpArgs false
namespace Go.Proofs.Ytchempegmbidoaa.Gh
open Go Go.Proofs
def loadO (n o : Nat) : Option GObj → Option Value
  | some ob => if ob.mode = 2 then none else if o + n ≤ ob.cells.length then some (.agg ⟨(ob.cells.drop o).take n⟩) else none
  | none => none
theorem loadA_eq (n b o : Nat) (G : GS) : loadA (n + 1) b o G = loadO (n + 1) o (G.obj b) := by
  unfold loadA loadO
  rw [rdN_eq _ _ _ _ (by omega)]
  unfold GS.cellsAt
  cases G.obj b with
  | none => rfl
  | some ob =>
    simp only
    by_cases h1 : ob.mode = 2
    · simp only [if_pos h1]
    · by_cases h2 : o + (n + 1) ≤ ob.cells.length
      · simp only [if_neg h1, if_pos h2]
      · simp only [if_neg h1, if_neg h2]
def stO (n o : Nat) (v : Value) : Option GObj → Option GObj
  | some ob => if v.cells.size = n ∧ ob.mode = 1 ∧ v.cells.toList.all one = true ∧ o + v.cells.toList.length ≤ ob.cells.length then some (ob.over o v.cells.toList) else none
  | none => none
theorem storeN_eq (n b o : Nat) (v : Value) (G : GS) : storeN n b o v G = match stO n o v (G.obj b) with | some ob => some (G.put b ob) | none => none := by
  unfold storeN stO
  cases h : G.obj b with
  | none =>
    simp only
    split
    · unfold wrN; rw [h]
    · rfl
  | some ob =>
    simp only
    by_cases h1 : v.cells.size = n
    · rw [if_pos h1]
      by_cases h2 : ob.mode = 1 ∧ v.cells.toList.all one = true ∧ o + v.cells.toList.length ≤ ob.cells.length
      · rw [if_pos ⟨h1, h2⟩, wrN_of h h2.1 h2.2.1 h2.2.2]
      · rw [if_neg (fun h => h2 h.2)]
        unfold wrN
        rw [h]
        simp only
        by_cases h3 : ob.mode = 1 ∧ v.cells.toList.all one = true
        · rw [if_pos (by simp [h3.1, h3.2]), splice_full, if_neg (fun h => h2 ⟨h3.1, h3.2, h⟩)]
        · rw [if_neg (by simpa using h3)]
    · rw [if_neg h1, if_neg (fun h => h1 h.1)]
end Go.Proofs.Ytchempegmbidoaa.Gh
namespace Go.Proofs.Ytchempegmbidoaa.Lift
open Go Go.Proofs.Ytchempegmbidoaa.Gh Go.Proofs
/-- a ring that holds a queue -/
structure RingC (cs : List Value) (L : List Int) (fr : Nat) : Prop where
  len : cs.length = 1026
  fr_lt : fr < 1024
  le : L.length ≤ 1024
  fr_at : cs[1024]? = some (.int .i64 fr)
  n_at : cs[1025]? = some (.int .i64 L.length)
  item : ∀ i, i < 1024 → ∃ n, cs[i]? = some (.int .u64 n)
  at_ : ∀ i (h : i < L.length), cs[(fr + i) % 1024]? = some (.int .u64 L[i])
def RingV (v : Value) (L : List Int) : Prop := ∃ cs fr, v = .agg ⟨cs⟩ ∧ RingC cs L fr
theorem RingC.ones {cs : List Value} {L : List Int} {fr : Nat} (h : RingC cs L fr) : cs.all one = true := by
  rw [List.all_eq_true]
  intro x hx
  obtain ⟨i, hi⟩ := List.getElem?_of_mem hx
  have hlt : i < 1026 := by rw [← h.len]; exact (List.getElem?_eq_some_iff.1 hi).1
  by_cases h1 : i < 1024
  · obtain ⟨n, hn⟩ := h.item i h1
    rw [hi] at hn; cases hn; rfl
  by_cases h2 : i = 1024
  · subst h2; rw [h.fr_at] at hi; cases hi; rfl
  · have : i = 1025 := by omega
    subst this; rw [h.n_at] at hi; cases hi; rfl
theorem ring_front (orc : FuncId → Bool) {v : Value} {x : Int} {L : List Int} (h : RingV v (x :: L)) (G : GS) : ∃ G', (E orc).cl 63 [v] G = some (.int .u64 x, G') ∧ Ext G G' := by
  obtain ⟨cs, fr, rfl, h⟩ := h
  have h0 := h.at_ 0 (by simp)
  have hf := h.fr_lt
  rw [Nat.add_zero, Nat.mod_eq_of_lt hf] at h0
  have hf' : (fr : Int) < 1024 := by omega
  have hf0 : (0 : Int) ≤ fr := by omega
  refine ⟨_, ?_, (Ext.refl G).push ⟨cs, 1, false, 1⟩⟩
  rw [c63]
  simp [s63, mBox, Value.cells, GS.cell, h.fr_at, hf', hf0, h0]
theorem RingC.put {cs : List Value} {L : List Int} {fr : Nat} (h : RingC cs L fr) (hl : L.length < 1024) (w : Int) :
    RingC ((cs.set ((fr + L.length) % 1024) (.int .u64 w)).set 1025 (.int .i64 (L.length + 1 : Nat))) (L ++ [w]) fr := by
  have hm : (fr + L.length) % 1024 < 1024 := Nat.mod_lt _ (by omega)
  have hlen := h.len
  refine ⟨by simp [hlen], h.fr_lt, by simp; omega, ?_, ?_, ?_, ?_⟩
  · rw [List.getElem?_set_ne (by omega), List.getElem?_set_ne (by omega)]; exact h.fr_at
  · rw [List.getElem?_set_self (by simp; omega)]; simp
  · intro i hi
    rw [List.getElem?_set_ne (by omega)]
    by_cases he : (fr + L.length) % 1024 = i
    · subst he; exact ⟨w, by rw [List.getElem?_set_self (by omega)]⟩
    · rw [List.getElem?_set_ne he]; exact h.item i hi
  · intro i hi
    have hfr := h.fr_lt
    simp only [List.length_append, List.length_singleton] at hi
    rw [List.getElem?_set_ne (by omega)]
    by_cases he : i = L.length
    · subst he
      rw [List.getElem?_set_self (by omega)]; simp
    · have hi' : i < L.length := by omega
      rw [List.getElem?_set_ne (by omega), h.at_ i hi', List.getElem_append_left hi']
theorem RingC.pop {cs : List Value} {x : Int} {L : List Int} {fr : Nat} (h : RingC cs (x :: L) fr) :
    RingC ((cs.set 1024 (.int .i64 ((fr + 1) % 1024 : Nat))).set 1025 (.int .i64 (L.length : Nat))) L ((fr + 1) % 1024) := by
  have hm : (fr + 1) % 1024 < 1024 := Nat.mod_lt _ (by omega)
  have hlen := h.len
  have hle := h.le
  simp only [List.length_cons] at hle
  refine ⟨by simp [hlen], hm, by omega, ?_, ?_, ?_, ?_⟩
  · rw [List.getElem?_set_ne (by omega), List.getElem?_set_self (by omega)]
  · rw [List.getElem?_set_self (by simp; omega)]
  · intro i hi
    rw [List.getElem?_set_ne (by omega), List.getElem?_set_ne (by omega)]
    exact h.item i hi
  · intro i hi
    have := h.at_ (i + 1) (by simpa using hi)
    have e : ((fr + 1) % 1024 + i) % 1024 = (fr + (i + 1)) % 1024 := by omega
    rw [List.getElem?_set_ne (by omega), List.getElem?_set_ne (by omega), e, this]
    simp
end Go.Proofs.Ytchempegmbidoaa.Lift

set_option linter.unusedVariables false
set_option linter.unusedSimpArgs false
namespace Go.Proofs.Ytchempegmbidoaa.Gh
open Go Go.Proofs
theorem loadO_whole {cs : List Value} {n e m : Nat} {op : Bool} (h : cs.length = n) (hm : m ≠ 2) : loadO n 0 (some ⟨cs, e, op, m⟩) = some (.agg ⟨cs⟩) := by
  unfold loadO
  simp only [if_neg hm]
  rw [if_pos (by omega), List.drop_zero, List.take_of_length_le (by omega)]
theorem stO_int {cs : List Value} {o e : Nat} {op : Bool} {k : IntKind} {v : Int} (h : o < cs.length) : stO 1 o (.int k v) (some ⟨cs, e, op, 1⟩) = some ⟨cs.set o (.int k v), e, op, 1⟩ := by
  simp only [stO, Value.cells]
  rw [if_pos ⟨rfl, trivial, rfl, by simp only [List.length_singleton]; omega⟩]
  show some (GObj.mk _ _ _ _) = _
  rw [overw_one _ _ _ h]
theorem stO_whole {cs ds : List Value} {n e : Nat} {op : Bool} (h : cs.length = n) (hd : ds.length = n) (ho : ds.all one = true) : stO n 0 (.agg ⟨ds⟩) (some ⟨cs, e, op, 1⟩) = some ⟨ds, e, op, 1⟩ := by
  simp only [stO, Value.cells]
  rw [if_pos ⟨by simpa using hd, trivial, ho, by omega⟩]
  show some (GObj.mk _ _ _ _) = _
  simp only [overw, List.take_zero, List.nil_append, Nat.zero_add]
  rw [List.drop_of_length_le (by omega), List.append_nil]
theorem cell_eq (G : GS) (b o : Nat) : G.cell b o = match G.obj b with | some ob => if ob.mode = 2 then none else ob.cells[o]? | none => none := rfl
end Go.Proofs.Ytchempegmbidoaa.Gh
namespace Go.Proofs.Ytchempegmbidoaa.Lift
open Go Go.Proofs.Ytchempegmbidoaa.Gh Go.Proofs
def ringZ : List Value := zs 1024 (.int .u64 0) ++ [(.int .i64 0), (.int .i64 0)]
theorem ringZ_length : ringZ.length = 1026 := by
  unfold ringZ
  rw [List.length_append, zs_eq, List.length_replicate]; rfl
theorem ringZ_get (i : Nat) (h : i < 1024) : ringZ[i]? = some (.int .u64 0) := by
  unfold ringZ
  rw [zs_eq, List.getElem?_append_left (by rw [List.length_replicate]; exact h), List.getElem?_replicate, if_pos h]
theorem ringZ_1024 : ringZ[1024]? = some (.int .i64 0) := by
  unfold ringZ
  rw [zs_eq, List.getElem?_append_right (by rw [List.length_replicate]; omega), List.length_replicate]; rfl
theorem ringZ_1025 : ringZ[1025]? = some (.int .i64 0) := by
  unfold ringZ
  rw [zs_eq, List.getElem?_append_right (by rw [List.length_replicate]; omega), List.length_replicate]; rfl
theorem al_91z (G : GS) : mAlloc Q 91 G = some (.pointer (some ⟨G.nx, 0, none⟩), G.push ⟨ringZ, 1, false, 1⟩) := al_91 G
attribute [irreducible] ringZ
theorem ring_push (orc : FuncId → Bool) {v : Value} {L : List Int} (h : RingV v L) (hl : L.length < 1024) (w : Int) (G : GS) : Wp ((E orc).cl 62 [v, .int .u64 w] G) fun r => RingV r.1 (L ++ [w]) ∧ Ext G r.2 := by
  obtain ⟨cs, fr, rfl, h⟩ := h
  have hf := h.fr_lt
  have hm : (fr + L.length) % 1024 < 1024 := Nat.mod_lt _ (by omega)
  have hw1 : IntKind.wrap .i64 ((fr : Int) + L.length) = ((fr + L.length : Nat) : Int) := wrap64 (by omega) (by omega)
  have hw2 : IntKind.wrap .i64 ((L.length : Int) + 1) = ((L.length + 1 : Nat) : Int) := wrap64 (by omega) (by omega)
  have ht : (((fr + L.length : Nat) : Int)).tmod 1024 = (((fr + L.length) % 1024 : Nat) : Int) := by
    rw [Int.tmod_eq_emod_of_nonneg (by omega)]; omega
  have hc := h.put hl w
  have hlen := h.len
  have hn := h.n_at
  have hfr := h.fr_at
  have ho := hc.ones
  have hlen2 := hc.len
  generalize hj : (fr + L.length) % 1024 = j at *
  have hj' : (j : Int) < 1024 := by omega
  have hj0 : (0 : Int) ≤ j := by omega
  have s1 : ∀ e op, stO 1 j (.int .u64 w) (some ⟨cs, e, op, 1⟩) = some ⟨cs.set j (.int .u64 w), e, op, 1⟩ := fun e op => stO_int (by omega)
  have s2 : ∀ e op, stO 1 1025 (.int .i64 (L.length + 1 : Nat)) (some ⟨cs.set j (.int .u64 w), e, op, 1⟩) = some ⟨(cs.set j (.int .u64 w)).set 1025 (.int .i64 (L.length + 1 : Nat)), e, op, 1⟩ := fun e op => stO_int (by simp; omega)
  have n2 : (cs.set j (.int .u64 w))[1025]? = some (.int .i64 L.length) := by rw [List.getElem?_set_ne (by omega)]; exact hn
  generalize hds : ((cs.set j (.int .u64 w)).set 1025 (.int .i64 (L.length + 1 : Nat))) = ds at *
  rw [c62]
  simp [-al_91, -Int.natCast_add, s62, mBox, Value.cells, al_91z, hfr, hn, hw1, ht, ringZ_length, hj', hj0, storeN_eq, s1, s2, n2, cell_eq, hw2, loadA_eq, loadO_whole, stO_whole, hlen2, ho]
  refine ⟨⟨ds, fr, rfl, hc⟩, ?_⟩
  (repeat (first | with_reducible exact Ext.refl _ | with_reducible assumption | with_reducible apply Ext.room | with_reducible apply Ext.push | with_reducible refine Ext.put ?_ ?_ _ | omega | (simp; done) | (simp; omega)))
end Go.Proofs.Ytchempegmbidoaa.Lift

set_option linter.unusedVariables false
set_option linter.unusedSimpArgs false
namespace Go.Proofs.Ytchempegmbidoaa.Lift
open Go Go.Proofs.Ytchempegmbidoaa.Gh Go.Proofs
theorem ring_drop (orc : FuncId → Bool) {v : Value} {x : Int} {L : List Int} (h : RingV v (x :: L)) (G : GS) : Wp ((E orc).cl 65 [v] G) fun r => RingV r.1 L ∧ Ext G r.2 := by
  obtain ⟨cs, fr, rfl, h⟩ := h
  have hf := h.fr_lt
  have hle := h.le
  simp only [List.length_cons] at hle
  have hw1 : IntKind.wrap .i64 ((fr : Int) + 1) = ((fr + 1 : Nat) : Int) := wrap64 (by omega) (by omega)
  have hw2 : IntKind.wrap .i64 (((x :: L).length : Int) - 1) = (L.length : Int) := by
    rw [show ((x :: L).length : Int) - 1 = (L.length : Int) by simp]
    exact wrap64 (by omega) (by omega)
  have ht : (((fr + 1 : Nat) : Int)).tmod 1024 = (((fr + 1) % 1024 : Nat) : Int) := by
    rw [Int.tmod_eq_emod_of_nonneg (by omega)]; omega
  have hm : (fr + 1) % 1024 < 1024 := Nat.mod_lt _ (by omega)
  have hc := h.pop
  have hlen := h.len
  have hn := h.n_at
  have hfr := h.fr_at
  have ho := hc.ones
  have hlen2 := hc.len
  generalize hj : (fr + 1) % 1024 = j at *
  generalize hN : (x :: L).length = N at *
  have s1 : ∀ e op, stO 1 1024 (.int .i64 j) (some ⟨cs, e, op, 1⟩) = some ⟨cs.set 1024 (.int .i64 j), e, op, 1⟩ := fun e op => stO_int (by omega)
  have s2 : ∀ e op, stO 1 1025 (.int .i64 L.length) (some ⟨cs.set 1024 (.int .i64 j), e, op, 1⟩) = some ⟨(cs.set 1024 (.int .i64 j)).set 1025 (.int .i64 L.length), e, op, 1⟩ := fun e op => stO_int (by simp; omega)
  have n2 : (cs.set 1024 (.int .i64 j))[1025]? = some (.int .i64 N) := by rw [List.getElem?_set_ne (by omega)]; exact hn
  generalize hds : ((cs.set 1024 (.int .i64 j)).set 1025 (.int .i64 L.length)) = ds at *
  rw [c65]
  simp [-al_91, -Int.natCast_add, s65, mBox, Value.cells, al_91z, hfr, hn, hw1, ht, ringZ_length, storeN_eq, s1, s2, n2, cell_eq, hw2, loadA_eq, loadO_whole, stO_whole, hlen2, ho]
  refine ⟨⟨ds, j, rfl, hc⟩, ?_⟩
  (repeat (first | with_reducible exact Ext.refl _ | with_reducible assumption | with_reducible apply Ext.room | with_reducible apply Ext.push | with_reducible refine Ext.put ?_ ?_ _ | omega | (simp; done) | (simp; omega)))
/-! ### What the calls that does hands back do -/
theorem same_ring (orc : FuncId → Bool) {G : GS} {b : Nat} {cs : List Value} {L : List Int} {fr : Nat} (h : RingC cs L fr) (hb : G.obj b = some ⟨cs, 1, false, 1⟩) (hn : b < G.nx) : Wp ((E orc).cl 60 [P1 b] G) fun r => RingV r.1 L ∧ Ext G r.2 := by
  have ne : b ≠ G.nx := by omega
  have hlen := h.len
  have ho := h.ones
  rw [c60]
  simp [-al_91, s60, al_91z, loadA_eq, loadO_whole, stO_whole, storeN_eq, ringZ_length, ne, hb, hlen, ho]
  refine ⟨⟨cs, fr, rfl, h⟩, ?_⟩
  (repeat (first | with_reducible exact Ext.refl _ | with_reducible assumption | with_reducible apply Ext.room | with_reducible apply Ext.push | with_reducible refine Ext.put ?_ ?_ _ | omega | (simp; done) | (simp; omega)))
theorem pushed_ring (orc : FuncId → Bool) {G : GS} {b d : Nat} {cs : List Value} {L : List Int} {fr : Nat} {k1 a1 b1 w : Int} (h : RingC cs L fr) (hb : G.obj b = some ⟨cs, 1, false, 1⟩) (hn : b < G.nx) (hd : G.obj d = some ⟨[.int .i64 k1, .int .i64 a1, .int .i64 b1, .int .u64 w], 1, false, 1⟩) (hdn : d < G.nx) (hl : L.length < 1024) :
    Wp ((E orc).cl 61 [P1 b, P1 d] G) fun r => RingV r.1 (L ++ [w]) ∧ Ext G r.2 := by
  have ne : b ≠ G.nx := by omega
  have ne' : d ≠ G.nx := by omega
  have hlen := h.len
  rw [c61]
  simp [-al_91, s61, al_91z, loadA_eq, loadO_whole, ne, ne', hb, hd, hlen, cell_eq]
  obtain ⟨⟨v', G'⟩, e1, ⟨ds, fr', rfl, h1⟩, h2⟩ := ring_push orc (v := .agg ⟨cs⟩) ⟨cs, fr, rfl, h⟩ hl w (G.push ⟨ringZ, 1, false, 1⟩)
  simp only at e1 h2
  have hg : G'.obj G.nx = some ⟨ringZ, 1, false, 1⟩ := by rw [h2.obj _ (by simp)]; simp
  have hl1 := h1.len
  have ho1 := h1.ones
  simp [e1, storeN_eq, stO_whole, ringZ_length, hg, hl1, ho1, loadA_eq, loadO_whole]
  refine ⟨⟨ds, fr', rfl, h1⟩, ?_⟩
  refine Ext.put (((Ext.refl G).push _).trans h2) (Nat.le_refl _) _
theorem dropped_ring (orc : FuncId → Bool) {G : GS} {b : Nat} {cs : List Value} {x : Int} {L : List Int} {fr : Nat} (h : RingC cs (x :: L) fr) (hb : G.obj b = some ⟨cs, 1, false, 1⟩) (hn : b < G.nx) :
    Wp ((E orc).cl 64 [P1 b] G) fun r => RingV r.1 L ∧ Ext G r.2 := by
  have ne : b ≠ G.nx := by omega
  have hlen := h.len
  rw [c64]
  simp [-al_91, s64, al_91z, loadA_eq, loadO_whole, ne, hb, hlen, cell_eq]
  obtain ⟨⟨v', G'⟩, e1, ⟨ds, fr', rfl, h1⟩, h2⟩ := ring_drop orc (v := .agg ⟨cs⟩) ⟨cs, fr, rfl, h⟩ (G.push ⟨ringZ, 1, false, 1⟩)
  simp only at e1 h2
  have hg : G'.obj G.nx = some ⟨ringZ, 1, false, 1⟩ := by rw [h2.obj _ (by simp)]; simp
  have hl1 := h1.len
  have ho1 := h1.ones
  simp [e1, storeN_eq, stO_whole, ringZ_length, hg, hl1, ho1, loadA_eq, loadO_whole]
  refine ⟨⟨ds, fr', rfl, h1⟩, ?_⟩
  refine Ext.put (((Ext.refl G).push _).trans h2) (Nat.le_refl _) _
end Go.Proofs.Ytchempegmbidoaa.Lift

set_option linter.unusedVariables false
set_option linter.unusedSimpArgs false
namespace Go.Proofs.Ytchempegmbidoaa.Lift
open Go Go.Proofs.Ytchempegmbidoaa.Gh Go.Proofs
theorem list_lp (orc : FuncId → Bool) (A : GS) (x : Nat) (hx : x < A.nx) {cs : List Value} {L : List Int} {fr : Nat} (hr : RingC cs L fr) (hb : A.obj x = some ⟨cs, 1, false, 1⟩) : ∀ (k i : Nat) (v : Value) (T : List Value) (G : GS), i + k = L.length → T.length = 23 → nth undef T 1 = P1 x → nth undef T 3 = v → nth undef T 6 = .int .i64 L.length → nth undef T 7 = .int .i64 i →
    Ext A G → OwnL A.nx G 1 v i (words (L.take i)) →
    Wp ((E orc).lp (subAt [1, 1, 0, 1, 0, 0] (bodyOf Try.f58)) T G) fun r => r.1 = .exit 0 ∧ Ext A r.2.2 ∧ OwnL A.nx r.2.2 1 (nth undef r.2.1 3) L.length (words L) := by
  have hle := hr.le
  have hfl := hr.fr_lt
  have hfr := hr.fr_at
  intro k
  induction k with
  | zero =>
    intro i v T G hi hT h1 h3 h6 h7 hA ho
    refine Wp.up (l58_0 orc T G hT) ?_
    have : i = L.length := by omega
    subst this
    rw [List.take_length] at ho
    simp [b58_0, h1, h3, h6, h7, hA]
    exact ho
  | succ k ih =>
    intro i v T G hi hT h1 h3 h6 h7 hA ho
    have hlt : i < L.length := by omega
    have hw : IntKind.wrap .i64 ((i : Int) + 1) = ((i + 1 : Nat) : Int) := wrap64 (by omega) (by omega)
    have hw1 : IntKind.wrap .i64 ((fr : Int) + i) = ((fr + i : Nat) : Int) := wrap64 (by omega) (by omega)
    have ht : (((fr + i : Nat) : Int)).tmod 1024 = (((fr + i) % 1024 : Nat) : Int) := by
      rw [Int.tmod_eq_emod_of_nonneg (by omega)]; omega
    have hm : (fr + i) % 1024 < 1024 := Nat.mod_lt _ (by omega)
    have hat := hr.at_ i hlt
    have hob : G.obj x = some ⟨cs, 1, false, 1⟩ := (hA.obj x hx).trans hb
    generalize hj : (fr + i) % 1024 = j at *
    have hj' : (j : Int) < 1024 := by omega
    have hj0 : (0 : Int) ≤ j := by omega
    obtain ⟨v', G', ha, hE, hO⟩ := app_ok (ib := 8) (by omega) (by omega) (hA.push ⟨[.int .u64 L[i]], 1, false, 1⟩) (ho.ext ((Ext.refl G).push _)) (one_sl hA (.int .u64 L[i])) rfl (by omega)
    rw [words_snoc, ← List.take_succ_eq_append_getElem hlt] at hO
    refine Wp.up (l58_0 orc T G hT) ?_
    simp [-Int.natCast_add, b58_0, h1, h3, h6, h7, hlt, cell_eq, hob, hfr, hw1, ht, hj', hj0, hat, fillS, fillC, splice_put, splice_end, Value.cells, ha, hw]
    refine ih (i + 1) v' _ G' ?_ ?_ ?_ ?_ ?_ ?_ hE hO
    · omega
    · rfl
    · rfl
    · rfl
    · rfl
    · rfl
theorem ring_list (orc : FuncId → Bool) {v : Value} {L : List Int} (h : RingV v L) (G : GS) :
    ∃ v' G', (E orc).cl 58 [v] G = some (v', G') ∧ Ext G G' ∧ OwnL G.nx G' 1 v' L.length (words L) := by
  obtain ⟨cs, fr, rfl, h⟩ := h
  have hn := h.n_at
  obtain ⟨⟨e, T', G'⟩, hlp, h5, h6, h7⟩ := list_lp orc (G.push ⟨cs, 1, false, 1⟩) G.nx (by simp) h (by simp) L.length 0 (.slice none 0 0) [.agg ⟨cs⟩, P1 G.nx, (.slice none 0 0), (.slice none 0 0), undef, .pointer (some ⟨G.nx, 0 + 1025, none⟩), .int .i64 L.length, (.int .i64 0), undef, undef, undef, undef, undef, undef, undef, undef, undef, undef, undef, undef, undef, undef, undef] _ (by omega) rfl rfl rfl rfl rfl (Ext.refl _) (OwnL.nil _ _ _)
  simp only at h5 h6 h7
  subst h5
  refine ⟨_, G', c58 orc _ G ?_, ((Ext.refl G).push _).trans h6, h7.mono (by simp)⟩
  simp only [s58, mBox, Value.cells, bS_some, bP_some, newBlk_eq, fa_91_2, ld_3, cell_eq, obj_push, if_true]
  simp only [Nat.zero_add] at hlp ⊢
  rw [hn]
  simp only [show ¬ ((1 : Nat) = 2) by decide, if_false, bP_some]
  rw [hlp]
  simp
theorem queue_ok (orc : FuncId → Bool) {v : Value} {L : List Int} {G : GS} (hv : SlIs G 1 v L.length (words L)) (hl : L.length ≤ 1024) :
    Wp ((E orc).cl 56 [v] G) fun r => RingV r.1 L ∧ Ext G r.2 := by
  obtain ⟨a, c, ha⟩ := hv.len
  have e2 : Ext G ((G.push ⟨ringZ, 1, false, 1⟩).push ⟨ringZ, 1, false, 1⟩) := ((Ext.refl G).push _).push _
  have hel := elems_of (hv.ext e2)
  have hz := ringZ_length
  have hc : RingC ((overw ringZ 0 (words L)).set 1025 (.int .i64 L.length)) L 0 := by
    have hlen : (overw ringZ 0 (words L)).length = 1026 := by simp [overw, hz]; omega
    have hget : ∀ i, L.length ≤ i → (overw ringZ 0 (words L))[i]? = ringZ[i]? := by
      intro i hi
      simp only [overw, List.take_zero, List.nil_append, Nat.zero_add]
      rw [List.getElem?_append_right (by simpa using hi), List.getElem?_drop]
      congr 1
      simp
      omega
    have hget' : ∀ i (h : i < L.length), (overw ringZ 0 (words L))[i]? = some (.int .u64 L[i]) := by
      intro i hi
      simp only [overw, List.take_zero, List.nil_append, Nat.zero_add]
      rw [List.getElem?_append_left (by simpa using hi)]
      simp [hi]
    refine ⟨by simp [hlen], by omega, hl, ?_, ?_, ?_, ?_⟩
    · rw [List.getElem?_set_ne (by omega), hget _ hl]; exact ringZ_1024
    · rw [List.getElem?_set_self (by omega)]
    · intro i hi
      rw [List.getElem?_set_ne (by omega)]
      by_cases h : i < L.length
      · exact ⟨_, hget' i h⟩
      · exact ⟨0, by rw [hget i (by omega)]; exact ringZ_get i hi⟩
    · intro i hi
      rw [Nat.zero_add, Nat.mod_eq_of_lt (by omega), List.getElem?_set_ne (by omega)]
      exact hget' i hi
  have ho := hc.ones
  have hlen2 := hc.len
  have hmin : Nat.min L.length 1024 = L.length := Nat.min_eq_left hl
  have hcp : cpK 1 (.slice (some ⟨G.nx + 1, 0, none⟩) 1024 1024) v ((G.push ⟨ringZ, 1, false, 1⟩).push ⟨ringZ, 1, false, 1⟩) = some (.int .i64 L.length, if L = [] then ((G.push ⟨ringZ, 1, false, 1⟩).push ⟨ringZ, 1, false, 1⟩) else (((G.push ⟨ringZ, 1, false, 1⟩).push ⟨ringZ, 1, false, 1⟩).put (G.nx + 1) ⟨overw ringZ 0 (words L), 1, false, 1⟩)) := by
    subst ha
    simp only [cpK, hmin, hel]
    by_cases h : L = []
    · subst h; simp
    · have hw : words L ≠ [] := by simpa [words] using h
      rw [if_neg hw, if_neg h, wrN_of (ob := ⟨ringZ, 1, false, 1⟩) (by simp) rfl (words_one L) (by simp [hz]; omega)]
      rfl
  have hob : (if L = [] then ((G.push ⟨ringZ, 1, false, 1⟩).push ⟨ringZ, 1, false, 1⟩) else (((G.push ⟨ringZ, 1, false, 1⟩).push ⟨ringZ, 1, false, 1⟩).put (G.nx + 1) ⟨overw ringZ 0 (words L), 1, false, 1⟩)).obj (G.nx + 1) = some ⟨overw ringZ 0 (words L), 1, false, 1⟩ ∧ (if L = [] then ((G.push ⟨ringZ, 1, false, 1⟩).push ⟨ringZ, 1, false, 1⟩) else (((G.push ⟨ringZ, 1, false, 1⟩).push ⟨ringZ, 1, false, 1⟩).put (G.nx + 1) ⟨overw ringZ 0 (words L), 1, false, 1⟩)).obj G.nx = some ⟨ringZ, 1, false, 1⟩ ∧ Ext G (if L = [] then ((G.push ⟨ringZ, 1, false, 1⟩).push ⟨ringZ, 1, false, 1⟩) else (((G.push ⟨ringZ, 1, false, 1⟩).push ⟨ringZ, 1, false, 1⟩).put (G.nx + 1) ⟨overw ringZ 0 (words L), 1, false, 1⟩)) := by
    by_cases h : L = []
    · subst h; simp [overw, e2]
    · rw [if_neg h]; simp; exact e2.put (by omega) _
  generalize (if L = [] then ((G.push ⟨ringZ, 1, false, 1⟩).push ⟨ringZ, 1, false, 1⟩) else (((G.push ⟨ringZ, 1, false, 1⟩).push ⟨ringZ, 1, false, 1⟩).put (G.nx + 1) ⟨overw ringZ 0 (words L), 1, false, 1⟩)) = G3 at hcp hob
  obtain ⟨q1, q2, q3⟩ := hob
  have hlen3 : (overw ringZ 0 (words L)).length = 1026 := by simpa using hlen2
  have s1 : ∀ e op, stO 1 1025 (.int .i64 L.length) (some ⟨overw ringZ 0 (words L), e, op, 1⟩) = some ⟨(overw ringZ 0 (words L)).set 1025 (.int .i64 L.length), e, op, 1⟩ := fun e op => stO_int (by omega)
  generalize ((overw ringZ 0 (words L)).set 1025 (.int .i64 L.length)) = ds at *
  rw [c56]
  simp [-al_91, s56, al_91z, slA, bound, hcp, storeN_eq, q1, q2, s1, loadA_eq, loadO_whole, hlen2, stO_whole, hz, ho]
  refine ⟨⟨ds, 0, rfl, hc⟩, ?_⟩
  exact (q3.put (by omega) _).put (Nat.le_refl _) _
end Go.Proofs.Ytchempegmbidoaa.Lift

set_option linter.unusedVariables false
set_option linter.unusedSimpArgs false
namespace Go.Proofs.Ytchempegmbidoaa.Gh
open Go Go.Proofs
/-- the blocks from a number on are as they were -/
structure Mid (lo : Nat) (A B : GS) : Prop where
  nx : A.nx ≤ B.nx
  obj : ∀ g, g < A.nx → lo ≤ g → B.obj g = A.obj g
/-- a block that was left room for, made -/
theorem Ext.drawn {A G : GS} (h : Ext A G) {n : Nat} (hn : A.nx ≤ n) (o : GObj) : Ext A (((G.at' n).push o).back G) :=
  ⟨h.nx, fun g hg => by simp; rw [if_neg (by omega)]; exact h.obj g hg, h.nl, fun l hl => by simpa using h.loop l hl⟩
end Go.Proofs.Ytchempegmbidoaa.Gh
namespace Go.Proofs.Ytchempegmbidoaa.Lift
open Go Go.Proofs.Ytchempegmbidoaa.Gh Go.Proofs
/-- what the code answers, and what the queue is then -/
def dCode (cap : Int) (L : List Int) (k : Int) : Int := if k = 1 then (if cap ≤ L.length then 7 else 0) else if k = 2 ∨ k = 3 then (if L = [] then 15 else 0) else 0
def dWord (L : List Int) (k : Int) : Int := if k = 2 then L.headD 0 else 0
def dNext (cap : Int) (L : List Int) (k w : Int) : List Int := if k = 1 then (if cap ≤ L.length then L else L ++ [w]) else if k = 3 then L.tail else L
def dOk (k : Int) : Bool := decide (k = 1) || decide (k = 2) || decide (k = 3)
theorem ifE_rg {α : Type} (n : Nat) (a b : Option α) : ifE .ret (.goto n) a b = b := by rfl
theorem st3 (e : Nat) (op : Bool) (k1 k2 k3 : IntKind) (a b c : Int) (x y z : Value) : stO 3 0 (.agg ⟨[.int k1 a, .int k2 b, .int k3 c]⟩) (some ⟨[x, y, z], e, op, 1⟩) = some ⟨[.int k1 a, .int k2 b, .int k3 c], e, op, 1⟩ := stO_whole rfl rfl rfl
theorem ld3 (e : Nat) (op : Bool) (x y z : Value) : loadO 3 0 (some ⟨[x, y, z], e, op, 1⟩) = some (.agg ⟨[x, y, z]⟩) := loadO_whole rfl (by decide)
theorem ld4 (e : Nat) (op : Bool) (x y z u : Value) : loadO 4 0 (some ⟨[x, y, z, u], e, op, 1⟩) = some (.agg ⟨[x, y, z, u]⟩) := loadO_whole rfl (by decide)
theorem does_ok (orc : FuncId → Bool) {v : Value} {L : List Int} (hr : RingV v L) {cap : Int} (h1 : 1 ≤ cap) (h2 : cap ≤ 1024) (k a b w : Int) (G : GS) :
    Wp ((E orc).cl 55 [.int .i64 cap, v, opV k a b w] G) fun r => ∃ f, r.1 = .tuple #[ansV (dCode cap L k) 0 (dWord L k), f, .bool (dOk k)] ∧ Ext G r.2 ∧ (∀ G2, Mid G.nx r.2 G2 → Wp (cValue (E orc) f [] G2) fun q => RingV q.1 (dNext cap L k w) ∧ Ext G2 q.2) := by
  have hr' := hr
  obtain ⟨cs, fr, rfl, h⟩ := hr'
  have hn := h.n_at
  have hlen := h.len
  have hW : loadO 1026 0 (some ⟨cs, 1, false, 1⟩) = some (.agg ⟨cs⟩) := loadO_whole hlen (by decide)
  refine Wp.up (c55 orc _ _ _ G) ?_
  have k12 : ¬ ((2 : Int) = 1) := by decide
  by_cases k1 : k = 1
  · subst k1
    by_cases hc : cap ≤ L.length
    · simp [s55, mBox, Value.cells, cell_eq, hn, hc, fillL, fillC, splice_put, splice_end, splice_succ, storeN_eq, st3, ld3, ld4, stO_int, loadA_eq, Nat.add_assoc]
      refine ⟨_, ⟨by simp [dCode, dWord, hc], rfl, by simp [dOk]⟩, by (repeat (first | with_reducible exact Ext.refl _ | with_reducible assumption | with_reducible apply Ext.room | with_reducible apply Ext.push | with_reducible refine Ext.put ?_ ?_ _ | omega | (simp; done) | (simp; omega))), ?_⟩
      intro G2 hE
      simp only [dNext, hc, if_true]
      have hb := hE.obj G.nx (by (first | (simp; done) | (simp; omega))) (by omega)
      simp [Nat.add_assoc] at hb
      simpa using same_ring orc h hb (by have := hE.nx; simp at this; omega)
    · simp [s55, mBox, Value.cells, cell_eq, hn, hc, fillL, fillC, splice_put, splice_end, splice_succ, storeN_eq, st3, ld3, ld4, stO_int, loadA_eq, Nat.add_assoc]
      refine ⟨_, ⟨by simp [dCode, dWord, hc], rfl, by simp [dOk]⟩, by (repeat (first | with_reducible exact Ext.refl _ | with_reducible assumption | with_reducible apply Ext.room | with_reducible apply Ext.push | with_reducible refine Ext.put ?_ ?_ _ | omega | (simp; done) | (simp; omega))), ?_⟩
      intro G2 hE
      simp only [dNext, hc, if_true, if_false]
      have hb := hE.obj G.nx (by (first | (simp; done) | (simp; omega))) (by omega)
      have hd := hE.obj (G.nx + 1) (by (first | (simp; done) | (simp; omega))) (by omega)
      simp [Nat.add_assoc] at hb hd
      have := hE.nx
      simp at this
      simpa using pushed_ring orc h hb (by omega) hd (by omega) (by omega)
  by_cases k2 : k = 2
  · subst k2
    cases L with
    | nil =>
      simp at hn
      simp [s55, mBox, Value.cells, cell_eq, hn, Nat.add_assoc]
      refine Wp.bX (Wp.up (j55_0 orc _ _ rfl) ?_)
      simp [g55_0, ifE_rg, Value.cells, fillL, fillC, splice_put, splice_end, splice_succ, storeN_eq, st3, ld3, ld4, stO_int, loadA_eq, Nat.add_assoc]
      refine ⟨_, ⟨by simp [dCode, dWord], rfl, by simp [dOk]⟩, by (repeat (first | with_reducible exact Ext.refl _ | with_reducible assumption | with_reducible apply Ext.room | with_reducible apply Ext.push | with_reducible refine Ext.put ?_ ?_ _ | omega | (simp; done) | (simp; omega))), ?_⟩
      intro G2 hE
      simp only [dNext, k12, show ¬ ((2 : Int) = 3) by decide, if_false]
      have hb := hE.obj G.nx (by (first | (simp; done) | (simp; omega))) (by omega)
      simp [Nat.add_assoc] at hb
      simpa using same_ring orc h hb (by have := hE.nx; simp at this; omega)
    | cons x L =>
      have hp : ¬ (((x :: L).length : Int) = 0) := by simp; omega
      obtain ⟨G5, e5, x5⟩ := ring_front orc hr ((((G.push ⟨cs, 1, false, 1⟩).push ⟨[.int .i64 2, .int .i64 a, .int .i64 b, .int .u64 w], 1, false, 1⟩).push ⟨[.int .i64 0, .int .i64 0, .int .u64 0], 1, false, 1⟩).push ⟨[.int .i64 0, .int .i64 0, .int .u64 0], 1, false, 1⟩)
      generalize hN : ((x :: L).length : Int) = N at *
      have f0 := x5.obj G.nx (by (first | (simp; done) | (simp; omega)))
      have f2 := x5.obj (G.nx + 2) (by (first | (simp; done) | (simp; omega)))
      have f3 := x5.obj (G.nx + 3) (by (first | (simp; done) | (simp; omega)))
      have fn := x5.nx
      simp [Nat.add_assoc] at f0 f2 f3 fn
      simp [s55, mBox, Value.cells, cell_eq, hn, hp, e5, f0, f2, f3, hW, fillL, fillC, splice_put, splice_end, splice_succ, storeN_eq, st3, ld3, ld4, stO_int, loadA_eq, Nat.add_assoc]
      refine ⟨_, ⟨by simp [dCode, dWord], rfl, by simp [dOk]⟩, ?_, ?_⟩
      · exact Ext.put (Ext.put (((((Ext.refl G).push _).push _).push _).push _ |>.trans x5) (by omega) _) (by omega) _
      intro G2 hE
      simp only [dNext, k12, show ¬ ((2 : Int) = 3) by decide, if_false]
      have hb := hE.obj G.nx (by (first | (simp; done) | (simp; omega))) (by omega)
      simp [f0, Nat.add_assoc] at hb
      simpa using same_ring orc h hb (by have := hE.nx; simp at this; omega)
  by_cases k3 : k = 3
  · subst k3
    have k13 : ¬ ((3 : Int) = 1) := by decide
    cases L with
    | nil =>
      simp at hn
      simp [s55, mBox, Value.cells, cell_eq, hn, Nat.add_assoc]
      refine Wp.bX (Wp.up (j55_0 orc _ _ rfl) ?_)
      simp [g55_0, ifE_rg, Value.cells, fillL, fillC, splice_put, splice_end, splice_succ, storeN_eq, st3, ld3, ld4, stO_int, loadA_eq, Nat.add_assoc]
      refine ⟨_, ⟨by simp [dCode, dWord], rfl, by simp [dOk]⟩, by (repeat (first | with_reducible exact Ext.refl _ | with_reducible assumption | with_reducible apply Ext.room | with_reducible apply Ext.push | with_reducible refine Ext.put ?_ ?_ _ | omega | (simp; done) | (simp; omega))), ?_⟩
      intro G2 hE
      simp only [dNext, k13, if_true, if_false, List.tail]
      have hb := hE.obj G.nx (by (first | (simp; done) | (simp; omega))) (by omega)
      simp [Nat.add_assoc] at hb
      simpa using same_ring orc h hb (by have := hE.nx; simp at this; omega)
    | cons x L =>
      have hp : ¬ (((x :: L).length : Int) = 0) := by (first | (simp; done) | (simp; omega))
      generalize hN : ((x :: L).length : Int) = N at *
      simp [s55, mBox, Value.cells, cell_eq, hn, hp, hW, fillL, fillC, splice_put, splice_end, splice_succ, storeN_eq, st3, ld3, ld4, stO_int, loadA_eq, Nat.add_assoc]
      refine ⟨_, ⟨by simp [dCode, dWord], rfl, by simp [dOk]⟩, by (repeat (first | with_reducible exact Ext.refl _ | with_reducible assumption | with_reducible apply Ext.room | with_reducible apply Ext.push | with_reducible refine Ext.put ?_ ?_ _ | omega | (simp; done) | (simp; omega))), ?_⟩
      intro G2 hE
      simp only [dNext, k13, if_true, if_false, List.tail]
      have hb := hE.obj G.nx (by (first | (simp; done) | (simp; omega))) (by omega)
      simp [Nat.add_assoc] at hb
      simpa using dropped_ring orc h hb (by have := hE.nx; simp at this; omega)
  · simp [s55, mBox, Value.cells, cell_eq, k1, k2, k3, fillL, fillC, splice_put, splice_end, splice_succ, storeN_eq, st3, ld3, ld4, stO_int, loadA_eq, Nat.add_assoc]
    refine ⟨_, ⟨by simp [dCode, dWord, k1, k2, k3], rfl, by simp [dOk, k1, k2, k3]⟩, by (repeat (first | with_reducible exact Ext.refl _ | with_reducible assumption | with_reducible apply Ext.room | with_reducible apply Ext.push | with_reducible refine Ext.put ?_ ?_ _ | omega | (simp; done) | (simp; omega))), ?_⟩
    intro G2 hE
    simp only [dNext, k1, k3, if_true, if_false]
    have hb := hE.obj G.nx (by (first | (simp; done) | (simp; omega))) (by omega)
    simp [Nat.add_assoc] at hb
    simpa using same_ring orc h hb (by have := hE.nx; simp at this; omega)
end Go.Proofs.Ytchempegmbidoaa.Lift

set_option linter.unusedVariables false
set_option linter.unusedSimpArgs false
namespace Go.Proofs.Ytchempegmbidoaa.Lift
open Go Go.Proofs.Ytchempegmbidoaa.Gh Go.Proofs
def fchk (cap : Int) (n : Nat) : Int := if cap < 1 then 3 else if 1024 < cap then 3 else if cap < n then 7 else 0
theorem check_ok (orc : FuncId → Bool) {a : Option Addr} {n c : Nat} {cap : Int} (G : GS) : (E orc).cl 40 [.int .i64 cap, .slice a n c] G = some (.int .i64 (fchk cap n), G) := by
  rw [c40]
  unfold fchk
  by_cases h1 : cap < 1
  · simp [s40, h1]
  by_cases h2 : 1024 < cap
  · simp [s40, h1, h2]
  by_cases h3 : cap < n <;> simp [s40, h1, h2, h3]
theorem rcheck_ok (orc : FuncId → Bool) {a : Option Addr} {n c : Nat} {cap : Int} (G : GS) : (E orc).cl 41 [.int .i64 cap, .slice a n c] G = some (.int .i64 (fchk cap n), G) := by
  rw [c41]
  unfold fchk
  by_cases h1 : cap < 1
  · simp [s41, h1]
  by_cases h2 : 1024 < cap
  · simp [s41, h1, h2]
  by_cases h3 : cap < n <;> simp [s41, h1, h2, h3]
theorem fchk_zero {cap : Int} {n : Nat} : fchk cap n = 0 ↔ 1 ≤ cap ∧ cap ≤ 1024 ∧ (n : Int) ≤ cap := by
  unfold fchk
  by_cases h1 : cap < 1
  · rw [if_pos h1]; omega
  by_cases h2 : 1024 < cap
  · rw [if_neg h1, if_pos h2]; omega
  by_cases h3 : cap < n
  · rw [if_neg h1, if_neg h2, if_pos h3]; omega
  · rw [if_neg h1, if_neg h2, if_neg h3]; omega
def rOk (cap : Int) (L : List Int) (k : Int) : Bool := decide (fchk cap L.length = 0) && dOk k
theorem dOk_iff (k : Int) : dOk k = (!decide (k < 1) && !decide (3 < k)) := by
  unfold dOk
  rw [Bool.eq_iff_iff]
  simp
  omega
theorem rdoes_ge (orc : FuncId → Bool) {v : Value} {L : List Int} {G : GS} (hv : SlIs G 1 v L.length (words L)) (hL : L.length ≤ 1100) (cap k a b w : Int) :
    Wp ((E orc).cl 57 [.int .i64 cap, v, opV k a b w] G) fun r => Ext G r.2 ∧ if rOk cap L k = true then ∃ v', r.1 = .tuple #[ansV (dCode cap L k) 0 (dWord L k), v', .bool true] ∧ SlIs r.2 1 v' (dNext cap L k w).length (words (dNext cap L k w)) ∧ SlGe G.nx v' else r.1 = .tuple #[ansV 0 0 0, .slice none 0 0, .bool false] := by
  obtain ⟨a0, c0, ha⟩ := hv.len
  have e2 : Ext G ((G.push ⟨[.int .i64 k, .int .i64 a, .int .i64 b, .int .u64 w], 1, false, 1⟩).push ⟨[.int .i64 0, .int .i64 0, .int .u64 0], 1, false, 1⟩) := ((Ext.refl G).push _).push _
  obtain ⟨vc, G4, e4, x4, o4⟩ := copyWords orc (hv.ext e2) (by omega)
  have hx4 := x4.nx
  have f0 := x4.obj G.nx (by (first | (simp; done) | (simp; omega)))
  have f1 := x4.obj (G.nx + 1) (by (first | (simp; done) | (simp; omega)))
  simp [Nat.add_assoc] at f0 f1 hx4
  have x04 := e2.trans x4
  have hvx := hv.ext x04
  obtain ⟨a2, c2, ha2⟩ := o4.reads.len
  have vne : SlNe (G.nx + 1) vc := fun a n c e => by have := own_ge o4 a n c e; simp at this; omega
  have vge : SlGe G.nx vc := fun a n c e => by have := own_ge o4 a n c e; simp at this; omega
  have keep : ∀ o, SlIs (G4.put (G.nx + 1) o) 1 vc L.length (words L) := fun o => o4.reads.keepNe vne ((Mod.refl _ _).put (.inl (by simp)) o)
  rw [c57]
  by_cases hc : fchk cap L.length = 0
  · have hc' := fchk_zero.1 hc
    by_cases hk : dOk k = true
    · have hr : rOk cap L k = true := by simp [rOk, hc, hk]
      simp only [hr, if_true]
      by_cases k1 : k = 1
      · subst k1
        by_cases hq : cap ≤ L.length
        · have hq' : (L.length : Int) = cap := by omega
          subst ha
          simp [s57, mBox, Value.cells, e4, rcheck_ok, hc, hq', f0, f1, fillL, fillC, splice_put, splice_end, splice_succ, storeN_eq, st3, ld3, ld4, loadA_eq, cell_eq, Nat.add_assoc]
          refine ⟨x04.put (by omega) _, ?_⟩
          simp only [dNext, hq, if_true]
          refine ⟨vc, ⟨⟨by simp [dCode, hq], by simp [dWord]⟩, rfl⟩, ?_⟩
          exact ⟨keep _, vge⟩
        · have hq' : ¬ (L.length : Int) = cap := by omega
          obtain ⟨v', G', ha', hE, hO⟩ := app_ok (ib := 8) (by omega) (by omega) (x4.push ⟨[.int .u64 w], 1, false, 1⟩) (o4.ext ((Ext.refl G4).push _)) (one_sl x4 (.int .u64 w)) rfl (by omega)
          rw [words_snoc] at hO
          have g1 := hE.obj (G.nx + 1) (by (first | (simp; done) | (simp; omega)))
          simp [Nat.add_assoc] at g1
          subst ha
          simp [s57, mBox, Value.cells, e4, rcheck_ok, hc, hq', f0, f1, fillL, fillC, fillS, splice_put, splice_end, splice_succ, storeN_eq, st3, ld3, ld4, loadA_eq, cell_eq, ha', g1, Nat.add_assoc]
          refine ⟨(e2.trans hE).put (by omega) _, ?_⟩
          simp only [dNext, hq, if_true, if_false]
          refine ⟨v', ⟨⟨by simp [dCode, hq], by simp [dWord]⟩, rfl⟩, ?_⟩
          rw [show (L ++ [w]).length = L.length + 1 by simp]
          have vne' : SlNe (G.nx + 1) v' := fun a n c e => by have := own_ge hO a n c e; simp at this; omega
          exact ⟨hO.reads.keepNe vne' ((Mod.refl _ _).put (.inl (by simp)) _), fun a n c e => by have := own_ge hO a n c e; simp at this; omega⟩
      have k23 : k = 2 ∨ k = 3 := by simpa [dOk, k1] using hk
      have kl : ¬ k < 1 := by omega
      have kg : ¬ 3 < k := by omega
      cases L with
      | nil =>
        simp at ha hc
        subst ha
        simp [s57, mBox, Value.cells, e4, rcheck_ok, hc, k1, kl, kg, f0, f1, fillL, fillC, splice_put, splice_end, splice_succ, storeN_eq, st3, ld3, ld4, loadA_eq, cell_eq, Nat.add_assoc]
        refine ⟨x04.put (by omega) _, ?_⟩
        refine ⟨vc, ⟨⟨by rcases k23 with rfl | rfl <;> simp [dCode], by rcases k23 with rfl | rfl <;> simp [dWord]⟩, rfl⟩, ?_⟩
        have : dNext cap [] k w = [] := by rcases k23 with rfl | rfl <;> simp [dNext]
        rw [this]
        exact ⟨keep _, vge⟩
      | cons x L =>
        have hp0 : ¬ (((x :: L).length : Int) = 0) := by (first | (simp; done) | (simp; omega))
        rcases k23 with rfl | rfl
        · obtain ⟨bb, o, c', e0, hb, hcell⟩ := (hvx).at_ (i := 0) (by simp)
          have hcell := hcell 0 (by omega)
          simp at hcell
          have hpos : (0 : Int) < (x :: L).length := by (first | (simp; done) | (simp; omega))
          have hob : G4.cell bb o = some (.int .u64 x) := by simpa [words] using hcell
          rw [cell_eq] at hob
          generalize hN : (x :: L).length = N at *
          have hp1 : ¬ N = 0 := by omega
          have hp2 : 0 < N := by omega
          subst e0
          simp [s57, mBox, Value.cells, e4, rcheck_ok, hc, f0, f1, hp0, hpos, hp1, hp2, hob, fillL, fillC, splice_put, splice_end, splice_succ, storeN_eq, st3, ld3, ld4, loadA_eq, cell_eq, Nat.add_assoc]
          refine ⟨x04.put (by omega) _, ?_⟩
          refine ⟨vc, ⟨⟨by simp [dCode], by simp [dWord]⟩, rfl⟩, ?_⟩
          simp only [dNext, show ¬ ((2 : Int) = 1) by decide, show ¬ ((2 : Int) = 3) by decide, if_false, hN]
          exact ⟨keep _, vge⟩
        · -- the rest of the copy
          rcases o4.2 with ⟨_, h0⟩ | ⟨bb, op, rfl, hb1, hb2, hb3⟩
          · simp at h0
          have hb1' : G.nx + 1 < bb := by simp at hb1; omega
          have hsl : ∀ G0 : GS, G0.obj bb = some ⟨words (x :: L), 1, op, 1⟩ → slK 1 (.slice (some ⟨bb, 0, none⟩) (x :: L).length (x :: L).length) (some (.int .i64 1)) none none G0 = some (.slice (some ⟨bb, 1, none⟩) L.length L.length) := by
            intro G0 hg
            have h1 : (1 : Int) ≤ ((x :: L).length : Nat) := by simp; omega
            have h1' : (1 : Int) ≤ (L.length : Int) + 1 := by omega
            simp [slK, hg, bound, h1']
          have hs1 := hsl (G4.room 6) (by simpa using hb3)
          have hs2 := hsl ((G4.room 6).put (G.nx + 1) ⟨[.int .i64 0, .int .i64 0, .int .u64 0], 1, false, 1⟩) (by simp; rw [if_neg (by omega)]; exact hb3)
          generalize hN : (x :: L).length = N at *
          have hp1 : ¬ N = 0 := by omega
          subst ha
          simp [s57, mBox, Value.cells, e4, rcheck_ok, hc, f0, f1, hp0, hp1, hs1, hs2, sameO_slice, fillL, fillC, splice_put, splice_end, splice_succ, storeN_eq, st3, ld3, ld4, loadA_eq, cell_eq, Nat.add_assoc]
          refine ⟨(x04.room 6).put (by omega) _, ?_⟩
          refine ⟨_, ⟨⟨by simp [dCode], by simp [dWord]⟩, rfl⟩, ?_⟩
          simp only [dNext, show ¬ ((3 : Int) = 1) by decide, if_true, if_false, List.tail]
          refine ⟨⟨by simp, .inr ⟨bb, 1, L.length, ⟨words (x :: L), 1, op, 1⟩, rfl, Nat.le_refl _, by simp; omega, ?_, by simp, ?_⟩⟩, fun a n c e => by cases e; simp; omega⟩
          · simp; rw [if_neg (by omega)]; exact hb3
          · intro i hi
            simp [words, Nat.add_comm 1 i]
    · have hk' : k < 1 ∨ 3 < k := by
        rw [dOk_iff] at hk
        simp at hk
        omega
      have hr : rOk cap L k = false := by simp [rOk, hk]
      subst ha
      rcases hk' with h | h
      · simp [s57, mBox, Value.cells, e4, rcheck_ok, hc, f0, f1, h, fillL, fillC, storeN_eq, st3, ld3, ld4, loadA_eq, cell_eq, Nat.add_assoc]
        exact ⟨x04.put (by omega) _, by simp [hr]⟩
      · have h' : ¬ k < 1 := by omega
        simp [s57, mBox, Value.cells, e4, rcheck_ok, hc, f0, f1, h, h', fillL, fillC, storeN_eq, st3, ld3, ld4, loadA_eq, cell_eq, Nat.add_assoc]
        exact ⟨x04.put (by omega) _, by simp [hr]⟩
  · simp [s57, mBox, Value.cells, e4]
    subst ha
    simp [rcheck_ok, hc, f0, f1, fillL, fillC, storeN_eq, st3, ld3, ld4, loadA_eq]
    refine ⟨x04.put (by omega) _, ?_⟩
    simp [rOk, hc]
theorem rdoes_ok (orc : FuncId → Bool) {v : Value} {L : List Int} {G : GS} (hv : SlIs G 1 v L.length (words L)) (hL : L.length ≤ 1100) (cap k a b w : Int) :
    Wp ((E orc).cl 57 [.int .i64 cap, v, opV k a b w] G) fun r => Ext G r.2 ∧ if rOk cap L k = true then ∃ v', r.1 = .tuple #[ansV (dCode cap L k) 0 (dWord L k), v', .bool true] ∧ SlIs r.2 1 v' (dNext cap L k w).length (words (dNext cap L k w)) else r.1 = .tuple #[ansV 0 0 0, .slice none 0 0, .bool false] := by
  refine (rdoes_ge orc hv hL cap k a b w).mono ?_
  rintro r ⟨h1, h2⟩
  refine ⟨h1, ?_⟩
  split at h2
  · rename_i h; rw [if_pos h]
    obtain ⟨v', e1, e2, _⟩ := h2
    exact ⟨v', e1, e2⟩
  · rename_i h; rw [if_neg h]; exact h2
end Go.Proofs.Ytchempegmbidoaa.Lift

set_option linter.unusedVariables false
set_option linter.unusedSimpArgs false
namespace Go.Proofs.Ytchempegmbidoaa.Lift
open Go Go.Proofs.Ytchempegmbidoaa.Gh Go.Proofs
def aCode (cap : Int) (L : List Int) (k : Int) : Int := if rOk cap L k = true then dCode cap L k else 0
def aWord (cap : Int) (L : List Int) (k : Int) : Int := if rOk cap L k = true then dWord L k else 0
theorem same_op (k a b w : Int) : same (opV k a b w) (opV k a b w) = true := by simp [same, sameD, sameD.listD]
theorem ranswer_ok (orc : FuncId → Bool) {v : Value} {L : List Int} {G : GS} (hv : SlIs G 1 v L.length (words L)) (hL : L.length ≤ 1100) (cap k a b w : Int) :
    Wp ((E orc).cl 36 [.int .i64 cap, v, opV k a b w] G) fun r => Ext G r.2 ∧ r.1 = .tuple #[ansV (aCode cap L k) 0 (aWord cap L k), .bool (rOk cap L k)] := by
  have e2 : Ext G ((G.push ⟨[.int .i64 k, .int .i64 a, .int .i64 b, .int .u64 w], 1, false, 1⟩).push ⟨[.int .i64 0, .int .i64 0, .int .u64 0], 1, false, 1⟩) := ((Ext.refl G).push _).push _
  obtain ⟨⟨r, G4⟩, e4, x4, h4⟩ := rdoes_ok orc (hv.ext e2) hL cap k a b w
  simp only at x4 h4
  have f1 := x4.obj (G.nx + 1) (by (first | (simp; done) | (simp; omega)))
  have hx4 := x4.nx
  simp [Nat.add_assoc] at f1 hx4
  have ne : ¬ (G.nx + 1 = G4.nx) := by omega
  have ne' : ¬ (G4.nx = G.nx + 1) := by omega
  have hr : ∃ v', r = .tuple #[ansV (aCode cap L k) 0 (aWord cap L k), v', .bool (rOk cap L k)] := by
    unfold aCode aWord
    by_cases h : rOk cap L k = true
    · rw [if_pos h] at h4
      obtain ⟨v', h5, _⟩ := h4
      exact ⟨v', by rw [h5, if_pos h, if_pos h, h]⟩
    · rw [if_neg h] at h4
      exact ⟨.slice none 0 0, by rw [h4, if_neg h, if_neg h]; simp [h]⟩
  obtain ⟨v', rfl⟩ := hr
  have x04 := e2.trans x4
  rw [c36]
  simp [s36, mBox, Value.cells, loadA_eq, ld4, e4, pExtract, getN_zero, getN_succ, storeN_eq, st3, ld3, f1, ne, ne']
  (repeat (first | with_reducible exact Ext.refl _ | with_reducible assumption | with_reducible apply Ext.room | with_reducible apply Ext.push | with_reducible refine Ext.put ?_ ?_ _ | omega | (simp; done) | (simp; omega)))
theorem answer_ok (orc : FuncId → Bool) {v : Value} {L : List Int} {G : GS} (hv : SlIs G 1 v L.length (words L)) (hL : L.length ≤ 1100) (cap k a b w : Int) :
    Wp ((E orc).cl 35 [.int .i64 cap, v, opV k a b w] G) fun r => Ext G r.2 ∧ r.1 = .tuple #[ansV (aCode cap L k) 0 (aWord cap L k), .bool (rOk cap L k)] := by
  have e2 : Ext G ((G.push ⟨[.int .i64 k, .int .i64 a, .int .i64 b, .int .u64 w], 1, false, 1⟩).push ⟨[.int .i64 0, .int .i64 0, .int .u64 0], 1, false, 1⟩) := ((Ext.refl G).push _).push _
  obtain ⟨a0, c0, ha⟩ := hv.len
  rw [c35]
  by_cases hc : fchk cap L.length = 0
  · have hc' := fchk_zero.1 hc
    have e3 := e2.room 13
    obtain ⟨⟨q, G4⟩, e4, hq, x4⟩ := queue_ok orc (hv.ext e3) (by omega)
    simp only at hq x4
    obtain ⟨⟨r, G5⟩, e5, f, hr, x5, _⟩ := does_ok orc hq (cap := cap) (by omega) (by omega) k a b w G4
    simp only at hr x5
    subst hr
    have x45 := x4.trans x5
    have f0 := x4.obj G.nx (by (first | (simp; done) | (simp; omega)))
    have g1 := x45.obj (G.nx + 1) (by (first | (simp; done) | (simp; omega)))
    have hx := x45.nx
    have hx4 := x4.nx
    simp [Nat.add_assoc] at f0 g1 hx hx4
    have hd : dOk k = rOk cap L k := by simp [rOk, hc]
    have hcode : dCode cap L k = aCode cap L k := by
      unfold aCode
      by_cases h : rOk cap L k = true
      · rw [if_pos h]
      · rw [if_neg h]
        rw [← hd] at h
        simp [dOk] at h
        simp [dCode, h]
    have hword : dWord L k = aWord cap L k := by
      unfold aWord
      by_cases h : rOk cap L k = true
      · rw [if_pos h]
      · rw [if_neg h]
        rw [← hd] at h
        simp [dOk] at h
        simp [dWord, h]
    rw [hcode, hword, hd] at e5
    subst ha
    simp [s35, mBox, Value.cells, check_ok, hc, e4, loadA_eq, ld4, f0, sameO, e5, pExtract, getN_zero, getN_succ, storeN_eq, st3, ld3, g1, Nat.add_assoc]
    rw [show same (.agg ⟨[.int .i64 k, .int .i64 a, .int .i64 b, .int .u64 w]⟩) (.agg ⟨[.int .i64 k, .int .i64 a, .int .i64 b, .int .u64 w]⟩) = true from same_op k a b w]
    simp
    exact (((e3.trans x45).drawn (by omega) _).put (by omega) _).put (by omega) _
  · subst ha
    simp [s35, mBox, Value.cells, check_ok, hc, fillL, fillC, storeN_eq, st3, ld3, loadA_eq]
    have hr : rOk cap L k = false := by simp [rOk, hc]
    refine ⟨e2.put (by omega) _, ?_⟩
    simp [aCode, aWord, hr]
end Go.Proofs.Ytchempegmbidoaa.Lift

set_option linter.unusedVariables false
set_option linter.unusedSimpArgs false
namespace Go.Proofs.Ytchempegmbidoaa.Lift
open Go Go.Proofs.Ytchempegmbidoaa.Gh Go.Proofs
/-- does the answer fit? -/
def nOk (cap : Int) (L : List Int) (k c i u : Int) : Bool := rOk cap L k && (dCode cap L k == c && ((0 : Int) == i && (dWord L k == u && true)))
def nL (cap : Int) (L : List Int) (k w c i u : Int) : List Int := if nOk cap L k c i u = true then dNext cap L k w else []
theorem rnext6_ok (orc : FuncId → Bool) {v : Value} {L : List Int} {G : GS} (hv : SlIs G 1 v L.length (words L)) (hL : L.length ≤ 1100) (cap k a b w c i u : Int) :
    Wp ((E orc).cl 38 [.int .i64 cap, v, opV k a b w, ansV c i u] G) fun r => Ext G r.2 ∧ ∃ v', r.1 = .tuple #[v', .bool (nOk cap L k c i u)] ∧ SlIs r.2 1 v' (nL cap L k w c i u).length (words (nL cap L k w c i u)) := by
  have e2 : Ext G ((G.push ⟨[.int .i64 k, .int .i64 a, .int .i64 b, .int .u64 w], 1, false, 1⟩).push ⟨[.int .i64 c, .int .i64 i, .int .u64 u], 1, false, 1⟩) := ((Ext.refl G).push _).push _
  obtain ⟨⟨r, G4⟩, e4, x4, h4⟩ := rdoes_ok orc (hv.ext e2) hL cap k a b w
  simp only at x4 h4
  have x04 := e2.trans x4
  have f1 := x4.obj (G.nx + 1) (by (first | (simp; done) | (simp; omega)))
  have hx4 := x4.nx
  simp [Nat.add_assoc] at f1 hx4
  have ne : ¬ (G.nx + 1 = G4.nx) := by omega
  have ne' : ¬ (G4.nx = G.nx + 1) := by omega
  rw [c38]
  by_cases h : rOk cap L k = true
  · rw [if_pos h] at h4
    obtain ⟨v', rfl, hs⟩ := h4
    have hq : ∀ x y, gBinF Q .neq 55 x y (ansV (dCode cap L k) 0 (dWord L k)) (ansV c i u) = some (.bool !(nOk cap L k c i u)) := by
      intro x y
      rw [neq_55]
      unfold nOk
      rw [h, Bool.true_and]
    by_cases hn : nOk cap L k c i u = true
    · simp [s38, mBox, Value.cells, loadA_eq, ld4, e4, pExtract, getN_zero, getN_succ, storeN_eq, st3, ld3, f1, ne, ne', hn, -neq_55, hq]
      refine ⟨by (repeat (first | with_reducible exact Ext.refl _ | with_reducible assumption | with_reducible apply Ext.room | with_reducible apply Ext.push | with_reducible refine Ext.put ?_ ?_ _ | omega | (simp; done) | (simp; omega))), ?_⟩
      simp only [nL, hn, if_true]
      exact (hs.ext ((Ext.refl G4).push _)).keepNe (SlLt.ne hs.lt (Nat.le_refl _)) ((Mod.refl _ _).put (.inl (by simp)) _)
    · simp at hn
      simp [s38, mBox, Value.cells, loadA_eq, ld4, e4, pExtract, getN_zero, getN_succ, storeN_eq, st3, ld3, f1, ne, ne', hn, -neq_55, hq]
      refine ⟨by (repeat (first | with_reducible exact Ext.refl _ | with_reducible assumption | with_reducible apply Ext.room | with_reducible apply Ext.push | with_reducible refine Ext.put ?_ ?_ _ | omega | (simp; done) | (simp; omega))), ?_⟩
      simp [nL, hn]
      exact ⟨rfl, .inl ⟨rfl, rfl⟩⟩
  · rw [if_neg h] at h4
    subst h4
    simp at h
    have hn : nOk cap L k c i u = false := by simp [nOk, h]
    simp [s38, mBox, Value.cells, loadA_eq, ld4, e4, pExtract, getN_zero, getN_succ, storeN_eq, st3, ld3, f1, ne, ne', hn]
    refine ⟨by (repeat (first | with_reducible exact Ext.refl _ | with_reducible assumption | with_reducible apply Ext.room | with_reducible apply Ext.push | with_reducible refine Ext.put ?_ ?_ _ | omega | (simp; done) | (simp; omega))), ?_⟩
    simp [nL, hn]
    exact ⟨rfl, .inl ⟨rfl, rfl⟩⟩
end Go.Proofs.Ytchempegmbidoaa.Lift

set_option linter.unusedVariables false
set_option linter.unusedSimpArgs false
namespace Go.Proofs.Ytchempegmbidoaa.Lift
open Go Go.Proofs.Ytchempegmbidoaa.Gh Go.Proofs
theorem next6_ok (orc : FuncId → Bool) {v : Value} {L : List Int} {G : GS} (hv : SlIs G 1 v L.length (words L)) (hL : L.length ≤ 1100) (cap k a b w c i u : Int) :
    Wp ((E orc).cl 37 [.int .i64 cap, v, opV k a b w, ansV c i u] G) fun r => Ext G r.2 ∧ ∃ v', r.1 = .tuple #[v', .bool (nOk cap L k c i u)] ∧ OwnL G.nx r.2 1 v' (nL cap L k w c i u).length (words (nL cap L k w c i u)) := by
  have e2 : Ext G ((G.push ⟨[.int .i64 k, .int .i64 a, .int .i64 b, .int .u64 w], 1, false, 1⟩).push ⟨[.int .i64 c, .int .i64 i, .int .u64 u], 1, false, 1⟩) := ((Ext.refl G).push _).push _
  obtain ⟨a0, c0, ha⟩ := hv.len
  rw [c37]
  by_cases hc : fchk cap L.length = 0
  · have hc' := fchk_zero.1 hc
    have e3 := e2.room 13
    obtain ⟨⟨q, G4⟩, e4, hq, x4⟩ := queue_ok orc (hv.ext e3) (by omega)
    simp only at hq x4
    obtain ⟨⟨r, G5⟩, e5, f, hr, x5, hf⟩ := does_ok orc hq (cap := cap) (by omega) (by omega) k a b w G4
    simp only at hr x5 hf
    subst hr
    have x45 := x4.trans x5
    have f0 := x4.obj G.nx (by (first | (simp; done) | (simp; omega)))
    have g1 := x45.obj (G.nx + 1) (by (first | (simp; done) | (simp; omega)))
    have hx := x45.nx
    have hx4 := x4.nx
    have hx5 := x5.nx
    simp [Nat.add_assoc] at f0 g1 hx hx4
    have hd : dOk k = rOk cap L k := by simp [rOk, hc]
    rw [hd] at e5
    have hs := same_op k a b w
    have xE : Ext G ((((G5.at' (G.nx + 11)).push ⟨[.int .i64 0, .int .i64 0, .int .u64 0], 1, false, 1⟩).back G5).put (G.nx + 11) ⟨[.int .i64 (dCode cap L k), .int .i64 0, .int .u64 (dWord L k)], 1, false, 1⟩) := ((e3.trans x45).drawn (by omega) _).put (by omega) _
    have hM : Mid G4.nx G5 ((((G5.at' (G.nx + 11)).push ⟨[.int .i64 0, .int .i64 0, .int .u64 0], 1, false, 1⟩).back G5).put (G.nx + 11) ⟨[.int .i64 (dCode cap L k), .int .i64 0, .int .u64 (dWord L k)], 1, false, 1⟩) := ⟨by simp, fun g hg hl => by simp; rw [if_neg (by omega), if_neg (by omega)]⟩
    obtain ⟨⟨q2, G6⟩, e6, hq2, x6⟩ := hf _ hM
    simp only at hq2 x6
    obtain ⟨v', G7, e7, x7, o7⟩ := ring_list orc hq2 G6
    have hqn : ∀ x y, rOk cap L k = true → gBinF Q .neq 55 x y (ansV (dCode cap L k) 0 (dWord L k)) (ansV c i u) = some (.bool !(nOk cap L k c i u)) := by
      intro x y h
      rw [neq_55]
      unfold nOk
      rw [h, Bool.true_and]
    subst ha
    by_cases h : rOk cap L k = true
    · by_cases hn : nOk cap L k c i u = true
      · simp [s37, mBox, Value.cells, check_ok, hc, e4, loadA_eq, ld4, f0, sameO, hs, e5, pExtract, getN_zero, getN_succ, storeN_eq, st3, ld3, g1, Nat.add_assoc, h, -neq_55, hqn, hn, -cValue_func]
        rw [e6]
        simp [e7]
        refine ⟨(xE.trans x6).trans x7, ?_⟩
        simp only [nL, hn, if_true]
        exact o7.mono (xE.trans x6).nx
      · simp at hn
        simp [s37, mBox, Value.cells, check_ok, hc, e4, loadA_eq, ld4, f0, sameO, hs, e5, pExtract, getN_zero, getN_succ, storeN_eq, st3, ld3, g1, Nat.add_assoc, h, -neq_55, hqn, hn, -cValue_func]
        refine ⟨xE, ?_⟩
        simp [nL, hn]
        exact OwnL.nil _ _ _
    · simp at h
      have hn : nOk cap L k c i u = false := by simp [nOk, h]
      simp [s37, mBox, Value.cells, check_ok, hc, e4, loadA_eq, ld4, f0, sameO, hs, e5, pExtract, getN_zero, getN_succ, storeN_eq, st3, ld3, g1, Nat.add_assoc, h, -neq_55, hn, -cValue_func]
      refine ⟨xE, ?_⟩
      simp [nL, hn]
      exact OwnL.nil _ _ _
  · subst ha
    have hn : nOk cap L k c i u = false := by simp [nOk, rOk, hc]
    simp [s37, mBox, Value.cells, check_ok, hc, hn]
    refine ⟨by (repeat (first | with_reducible exact Ext.refl _ | with_reducible assumption | with_reducible apply Ext.room | with_reducible apply Ext.push | with_reducible refine Ext.put ?_ ?_ _ | omega | (simp; done) | (simp; omega))), ?_⟩
    simp [nL, hn]
    exact OwnL.nil _ _ _
end Go.Proofs.Ytchempegmbidoaa.Lift

set_option linter.unusedVariables false
set_option linter.unusedSimpArgs false
namespace Go.Proofs.Ytchempegmbidoaa.Lift
open Go Go.Proofs.Ytchempegmbidoaa.Gh Go.Proofs
theorem fifoNext (orc : FuncId → Bool) (ho : orc 33 = true) (cap : Int) (L : List Int) (v1 : Value) (k a b w c i u : Int) (G : GS) (hv : SlIs G 1 v1 L.length (words L)) :
    Wp ((E orc).cl 9 [.int .i64 cap, v1, opV k a b w, ansV c i u] G) fun r => r.1 = .bool true := by
  obtain ⟨a0, c0, ha⟩ := hv.len
  rw [c9]
  by_cases hl : 1100 < L.length
  · have hl' : (1100 : Int) < L.length := by omega
    simp [s9, mBox, Value.cells, ha, hl', cl_orc Q orc ho]
  have hl' : ¬ (1100 : Int) < L.length := by omega
  have hL : L.length ≤ 1100 := by omega
  have e2 : Ext G ((G.push ⟨[.int .i64 k, .int .i64 a, .int .i64 b, .int .u64 w], 1, false, 1⟩).push ⟨[.int .i64 c, .int .i64 i, .int .u64 u], 1, false, 1⟩) := ((Ext.refl G).push _).push _
  obtain ⟨vc, G3, e3, x3, o3⟩ := copyWords orc (hv.ext e2) (by omega)
  obtain ⟨⟨r4, G4⟩, e4, x4, h4⟩ := answer_ok orc o3.reads hL cap k a b w
  simp only at x4 h4
  subst h4
  have x5 : Ext G4 ((G4.push ⟨[.int .i64 0, .int .i64 0, .int .u64 0], 1, false, 1⟩).put G4.nx ⟨[.int .i64 (aCode cap L k), .int .i64 0, .int .u64 (aWord cap L k)], 1, false, 1⟩) := ((Ext.refl G4).push _).put (Nat.le_refl _) _
  have v3 := hv.ext (e2.trans x3)
  have v5 := v3.ext (x4.trans x5)
  obtain ⟨⟨r6, G6⟩, e6, x6, h6⟩ := ranswer_ok orc v5 hL cap k a b w
  simp only at x6 h6
  subst h6
  have x7 : Ext G6 ((G6.push ⟨[.int .i64 0, .int .i64 0, .int .u64 0], 1, false, 1⟩).put G6.nx ⟨[.int .i64 (aCode cap L k), .int .i64 0, .int .u64 (aWord cap L k)], 1, false, 1⟩) := ((Ext.refl G6).push _).put (Nat.le_refl _) _
  have x57 := x5.trans (x6.trans x7)
  have x37 := x4.trans x57
  have o7 := o3.ext x37
  have v7 := v3.ext x37
  obtain ⟨⟨r8, G8⟩, e8, x8, p8, h8, q8⟩ := next6_ok orc o7.reads hL cap k a b w c i u
  simp only at x8 h8 q8
  subst h8
  obtain ⟨⟨r9, G9⟩, e9, x9, p9, h9, q9⟩ := rnext6_ok orc (v7.ext x8) hL cap k a b w c i u
  simp only at x9 h9 q9
  subst h9
  have x79 := x8.trans x9
  obtain ⟨⟨r10, G10⟩, e10, x10, p10, h10, q10⟩ := next6_ok orc (o7.ext x79).reads hL cap k a b w (aCode cap L k) 0 (aWord cap L k)
  simp only at x10 h10 q10
  subst h10
  have x710 := x79.trans x10
  obtain ⟨⟨r11, G11⟩, e11, x11, p11, h11, q11⟩ := rnext6_ok orc (v7.ext x710) hL cap k a b w (aCode cap L k) 0 (aWord cap L k)
  simp only at x11 h11 q11
  subst h11
  have x711 := x710.trans x11
  have len1 : ∀ k w c i u, (nL cap L k w c i u).length < 2 ^ 40 := by
    intro k w c i u
    unfold nL dNext
    split
    · split
      · split
        · omega
        · simp; omega
      · split
        · simp; omega
        · omega
    · simp
  obtain ⟨G12, e12, x12⟩ := sameWords orc (q8.ext ((x9.trans x10).trans x11)).reads (q9.ext (x10.trans x11)) (by have := len1 k w c i u; omega)
  obtain ⟨G13, e13, x13⟩ := sameWords orc ((q10.ext x11).ext x12).reads (q11.ext x12) (by have := len1 k w (aCode cap L k) 0 (aWord cap L k); omega)
  have x1113 := x12.trans x13
  have q8' := q8.ext (((x9.trans x10).trans x11).trans x1113)
  have q10' := q10.ext (x11.trans x1113)
  obtain ⟨G14, e14, y14, m14⟩ := wover_mod orc (hi := G8.nx) q8' q8.reads.lt (by have := len1 k w c i u; omega)
  have hn9 := x9.nx
  have q10'' : OwnL G9.nx G14 1 p10 (nL cap L k w (aCode cap L k) 0 (aWord cap L k)).length (words (nL cap L k w (aCode cap L k) 0 (aWord cap L k))) :=
    ⟨q10'.1, q10'.2.imp id fun ⟨b, op, h1, h2, h3, h4⟩ => ⟨b, op, h1, h2, Nat.lt_of_lt_of_le h3 y14, (m14 b (.inr (by omega))).trans h4⟩⟩
  obtain ⟨G15, e15, y15, m15⟩ := wover_mod orc (hi := G13.nx) q10'' q10'.reads.lt (by have := len1 k w (aCode cap L k) 0 (aWord cap L k); omega)
  have n79 := x79.nx
  have n7 : G3.nx ≤ ((G6.push ⟨[.int .i64 0, .int .i64 0, .int .u64 0], 1, false, 1⟩).put G6.nx ⟨[.int .i64 (aCode cap L k), .int .i64 0, .int .u64 (aWord cap L k)], 1, false, 1⟩).nx := x37.nx
  have n8 := x8.nx
  have kp : ∀ {v : Value}, SlIs G13 1 v L.length (words L) → SlLt G3.nx v → SlIs G15 1 v L.length (words L) := by
    intro v h hlt
    refine SlIs.keep h hlt (Nat.le_trans y14 y15) fun g hg => ?_
    rw [m15 g (.inl (by omega)), m14 g (.inl (by omega))]
  have x713 := x711.trans x1113
  have o15 := kp (o7.ext x713).reads o3.reads.lt
  have v15 := kp (v7.ext x713) v3.lt
  obtain ⟨G16, e16, x16⟩ := sameWords orc o15 v15 (by omega)
  obtain ⟨ac, cc, hac⟩ := o3.reads.len
  -- the two boxes
  have b3 : Ext G3 G3 := Ext.refl _
  have f0 : ∀ {G'}, Ext G3 G' → G'.obj G.nx = some ⟨[.int .i64 k, .int .i64 a, .int .i64 b, .int .u64 w], 1, false, 1⟩ := by
    intro G' h
    have := (x3.trans h).obj G.nx (by (first | (simp; done) | (simp; omega)))
    simpa using this
  have f1 : ∀ {G'}, Ext G3 G' → G'.obj (G.nx + 1) = some ⟨[.int .i64 c, .int .i64 i, .int .u64 u], 1, false, 1⟩ := by
    intro G' h
    have := (x3.trans h).obj (G.nx + 1) (by (first | (simp; done) | (simp; omega)))
    simpa using this
  have ldop : ∀ {G'}, Ext G3 G' → loadA 4 G.nx 0 G' = some (opV k a b w) := fun h => by rw [loadA_eq, f0 h, ld4]
  have ldan : ∀ {G'}, Ext G3 G' → loadA 3 (G.nx + 1) 0 G' = some (ansV c i u) := fun h => by rw [loadA_eq, f1 h, ld3]
  have ldA4 : ∀ {G'}, Ext ((G4.push ⟨[.int .i64 0, .int .i64 0, .int .u64 0], 1, false, 1⟩).put G4.nx ⟨[.int .i64 (aCode cap L k), .int .i64 0, .int .u64 (aWord cap L k)], 1, false, 1⟩) G' → loadA 3 G4.nx 0 G' = some (ansV (aCode cap L k) 0 (aWord cap L k)) := fun h => by
    rw [loadA_eq, h.obj G4.nx (by (first | (simp; done) | (simp; omega)))]; simp [ld3]
  have ldA6 : ∀ {G'}, Ext ((G6.push ⟨[.int .i64 0, .int .i64 0, .int .u64 0], 1, false, 1⟩).put G6.nx ⟨[.int .i64 (aCode cap L k), .int .i64 0, .int .u64 (aWord cap L k)], 1, false, 1⟩) G' → loadA 3 G6.nx 0 G' = some (ansV (aCode cap L k) 0 (aWord cap L k)) := fun h => by
    rw [loadA_eq, h.obj G6.nx (by (first | (simp; done) | (simp; omega)))]; simp [ld3]
  have st4 : storeN 3 G4.nx 0 (ansV (aCode cap L k) 0 (aWord cap L k)) (G4.push ⟨[.int .i64 0, .int .i64 0, .int .u64 0], 1, false, 1⟩) = some ((G4.push ⟨[.int .i64 0, .int .i64 0, .int .u64 0], 1, false, 1⟩).put G4.nx ⟨[.int .i64 (aCode cap L k), .int .i64 0, .int .u64 (aWord cap L k)], 1, false, 1⟩) := by simp [storeN_eq, st3]
  have st6 : storeN 3 G6.nx 0 (ansV (aCode cap L k) 0 (aWord cap L k)) (G6.push ⟨[.int .i64 0, .int .i64 0, .int .u64 0], 1, false, 1⟩) = some ((G6.push ⟨[.int .i64 0, .int .i64 0, .int .u64 0], 1, false, 1⟩).put G6.nx ⟨[.int .i64 (aCode cap L k), .int .i64 0, .int .u64 (aWord cap L k)], 1, false, 1⟩) := by simp [storeN_eq, st3]
  have l1 := ldop b3
  have l2 := ldop (x4.trans x5)
  have l3 := ldop x37
  have l3a := ldan x37
  have l4 := ldop (x37.trans x8)
  have l4a := ldan (x37.trans x8)
  have l5 := ldop (x37.trans x79)
  have l5a := ldA6 x79
  have l6 := ldop (x37.trans x710)
  have l6a := ldA6 x710
  have l7 := ldA4 ((x6.trans x7).trans x711)
  have l7a := ldA6 x711
  have c40 : ∀ G, (E orc).cl 40 [.int .i64 cap, vc] G = some (.int .i64 (fchk cap L.length), G) := fun G => by rw [hac]; exact check_ok orc G
  have c41 : ∀ G, (E orc).cl 41 [.int .i64 cap, v1] G = some (.int .i64 (fchk cap L.length), G) := fun G => by rw [ha]; exact rcheck_ok orc G
  have ln1 : gLen Q 50 v1 = some (.int .i64 L.length) := by rw [ha]; simp
  simp only [decide_true] at e12 e13 e16
  simp [s9, mBox, Value.cells, ln1, hl', e3, l1, e4, pExtract, getN_zero, getN_succ, st4, l2, e6, st6, l3, l3a, e8, l4, l4a, e9, l5, l5a, e10, l6, l6a, e11, l7, l7a, e12, e13, c40, c41, e14, e15, e16, cl_orc Q orc ho]
end Go.Proofs.Ytchempegmbidoaa.Lift

set_option linter.unusedVariables false
set_option linter.unusedSimpArgs false
namespace Go.Proofs.Ytchempegmbidoaa.Lift
open Go Go.Proofs.Ytchempegmbidoaa.Gh Go.Proofs
theorem row_op {r : List Value} (h : Gh.Row [some .i64, some .i64, some .i64, some .u64] r) : ∃ k a b w, r = [.int .i64 k, .int .i64 a, .int .i64 b, .int .u64 w] := by
  match r with
  | [] => exact h.elim
  | [_] => exact h.2.elim
  | [_, _] => exact h.2.2.elim
  | [_, _, _] => exact h.2.2.2.elim
  | x :: y :: z :: u :: q :: l => exact h.2.2.2.2.elim
  | [x, y, z, u] =>
    obtain ⟨⟨a, ha, _⟩, ⟨b, hb, _⟩, ⟨c, hc, _⟩, ⟨d, hd, _⟩, _⟩ := h
    exact ⟨a, b, c, d, by rw [ha, hb, hc, hd]⟩
theorem row_ans {r : List Value} (h : Gh.Row [some .i64, some .i64, some .u64] r) : ∃ a b c, r = [.int .i64 a, .int .i64 b, .int .u64 c] := by
  match r with
  | [] => exact h.elim
  | [_] => exact h.2.elim
  | [_, _] => exact h.2.2.elim
  | x :: y :: z :: q :: l => exact h.2.2.2.elim
  | [x, y, z] =>
    obtain ⟨⟨a, ha, _⟩, ⟨b, hb, _⟩, ⟨c, hc, _⟩, _⟩ := h
    exact ⟨a, b, c, by rw [ha, hb, hc]⟩
end Go.Proofs.Ytchempegmbidoaa.Lift

