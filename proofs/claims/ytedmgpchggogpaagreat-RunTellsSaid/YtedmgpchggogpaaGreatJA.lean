/- contracts of the program's functions -/
import Derived.Test.YtedmgpchggogpaaGreatGhSD
import Derived.Test.YtedmgpchggogpaaGreatRa
import Derived.Test.YtedmgpchggogpaaGreatGhPR
import Derived.Test.YtedmgpchggogpaaGreatGhPC
import Derived.Test.YtedmgpchggogpaaGreatGhLS
set_option linter.unusedVariables false
namespace Go.Proofs.YtedmgpchggogpaaGreat.Lift
open Go Go.Proofs.YtedmgpchggogpaaGreat.Gh Go.Proofs
/-! ### The greatest word's place, plain -/
def cmpI (a b : Int) : Int := if a < b then -1 else if b < a then 1 else 0
def gr (L : List Int) : Nat → Int
  | 0 => -1
  | i + 1 => if gr L i < 0 ∨ L.getD (gr L i).toNat 0 < L.getD i 0 then i else gr L i
theorem gr_bd (L : List Int) : ∀ i, -1 ≤ gr L i ∧ gr L i < i ∧ (0 < i → 0 ≤ gr L i)
  | 0 => by simp [gr]
  | i + 1 => by
    obtain ⟨h1, h2, h3⟩ := gr_bd L i
    unfold gr
    split <;> omega
/-- the worst word's place, if it is above a key -/
def worst (L : List Int) (key : Int) : Option Nat := let g := gr L L.length; if g < 0 ∨ L.getD g.toNat 0 ≤ key then none else some g.toNat
def worstV (L : List Int) (key : Int) : Value := match worst L key with | none => .tuple #[.int .i64 (-1), .bool false] | some i => .tuple #[.int .i64 i, .bool true]
/-- no word is above a key, none is the worst one -/
theorem worst_none {L : List Int} {key : Int} (h : ∀ x ∈ L, x ≤ key) : worst L key = none := by
  obtain ⟨g1, g2, g3⟩ := gr_bd L L.length
  unfold worst
  simp only
  rw [if_pos]
  by_cases hg : gr L L.length < 0
  · exact .inl hg
  · right
    obtain ⟨m, hm⟩ : ∃ m : Nat, gr L L.length = m := ⟨(gr L L.length).toNat, by omega⟩
    have hmL : m < L.length := by omega
    rw [hm]
    simp only [Int.toNat_natCast, List.getD_eq_getElem?_getD, List.getElem?_eq_getElem hmL, Option.getD_some]
    exact h _ (List.getElem_mem hmL)
end Go.Proofs.YtedmgpchggogpaaGreat.Lift

/- Words in their order, by ranks and by sorting: plain Lean, no program in sight. -/
namespace Go.Proofs.YtedmgpchggogpaaGreat.Lift
open Go Go.Proofs.YtedmgpchggogpaaGreat.Gh Go.Proofs
set_option linter.unusedVariables false
/-- is the word at i ahead of the word at j? -/
def aheadB (l : List Int) (j i : Nat) : Bool := decide (l.getD i 0 < l.getD j 0) || (decide (l.getD i 0 = l.getD j 0) && decide (i < j))
theorem aheadB_of {l : List Int} {i j : Nat} (h : l.getD i 0 < l.getD j 0) : aheadB l j i = true := by unfold aheadB; rw [decide_eq_true h]; rfl
def rank (l : List Int) (j : Nat) : Nat := (List.range l.length).countP (aheadB l j)
theorem countP_lt {α : Type} {p q : α → Bool} : ∀ {l : List α} {x : α}, (∀ y ∈ l, p y = true → q y = true) → x ∈ l → p x = false → q x = true → l.countP p < l.countP q
  | [], x, _, hx, _, _ => nomatch hx
  | y :: l, x, h, hx, hp, hq => by
    have hle : l.countP p ≤ l.countP q := List.countP_mono_left fun z hz hpz => h z (List.mem_cons_of_mem _ hz) hpz
    rcases List.mem_cons.1 hx with rfl | hx
    · rw [List.countP_cons_of_neg (by simp [hp]), List.countP_cons_of_pos hq]; omega
    · have ih := countP_lt (fun z hz => h z (List.mem_cons_of_mem _ hz)) hx hp hq
      by_cases hy : p y = true
      · rw [List.countP_cons_of_pos hy, List.countP_cons_of_pos (h y (List.mem_cons_self ..) hy)]; omega
      · rw [List.countP_cons_of_neg (by simpa using hy)]
        have := List.countP_cons (p := q) (a := y) (l := l)
        split at this <;> omega
theorem rank_lt {l : List Int} {i j : Nat} (hi : i < l.length) (h : aheadB l j i = true) : rank l i < rank l j := by
  refine countP_lt (x := i) (fun k _ hk => ?_) (List.mem_range.2 hi) ?_ h
  · simp only [aheadB, Bool.or_eq_true, Bool.and_eq_true, decide_eq_true_eq] at *
    omega
  · simp [aheadB]
theorem rank_inj {l : List Int} {i j : Nat} (hi : i < l.length) (hj : j < l.length) (h : rank l i = rank l j) : i = j := by
  rcases Nat.lt_trichotomy i j with hij | hij | hij
  · by_cases hv : l.getD j 0 < l.getD i 0
    · have := rank_lt (i := j) (j := i) hj (aheadB_of hv); omega
    · have := rank_lt (i := i) (j := j) hi (by simp only [aheadB, Bool.or_eq_true, Bool.and_eq_true, decide_eq_true_eq]; omega); omega
  · exact hij
  · by_cases hv : l.getD i 0 < l.getD j 0
    · have := rank_lt (i := i) (j := j) hi (aheadB_of hv); omega
    · have := rank_lt (i := j) (j := i) hj (by simp only [aheadB, Bool.or_eq_true, Bool.and_eq_true, decide_eq_true_eq]; omega); omega
theorem rank_bound {l : List Int} {j : Nat} (hj : j < l.length) : rank l j < l.length := by
  have h : rank l j < (List.range l.length).countP (fun _ => true) := countP_lt (x := j) (fun _ _ _ => rfl) (List.mem_range.2 hj) (by simp [aheadB]) rfl
  simpa using h
theorem rank_le {l : List Int} {i j : Nat} (hi : i < l.length) (hj : j < l.length) (h : rank l i ≤ rank l j) : l.getD i 0 ≤ l.getD j 0 := by
  rcases Int.lt_or_le (l.getD j 0) (l.getD i 0) with hv | hv
  · have := rank_lt (i := j) (j := i) hj (aheadB_of hv); omega
  · exact hv
/-- the places of a rank -/
def seg (l : List Int) (n : Nat) : List Nat := (List.range l.length).filter fun i => decide (rank l i = n)
theorem filter_split {α : Type} (f : α → Nat) (m : Nat) : ∀ xs : List α, (xs.filter fun x => decide (f x < m + 1)).Perm ((xs.filter fun x => decide (f x < m)) ++ xs.filter fun x => decide (f x = m))
  | [] => .refl _
  | x :: xs => by
    have ih := filter_split f m xs
    rcases Nat.lt_trichotomy (f x) m with h | h | h
    · rw [List.filter_cons_of_pos (by simp; omega), List.filter_cons_of_pos (by simpa using h), List.filter_cons_of_neg (by simp; omega)]
      exact ih.cons x
    · rw [List.filter_cons_of_pos (by simp; omega), List.filter_cons_of_neg (by simp; omega), List.filter_cons_of_pos (by simpa using h)]
      exact (ih.cons x).trans List.perm_middle.symm
    · rw [List.filter_cons_of_neg (by simp; omega), List.filter_cons_of_neg (by simp; omega), List.filter_cons_of_neg (by simp; omega)]
      exact ih
theorem flat_filter {α : Type} (f : α → Nat) (xs : List α) : ∀ m, ((List.range m).flatMap fun n => xs.filter fun x => decide (f x = n)).Perm (xs.filter fun x => decide (f x < m))
  | 0 => by simp
  | m + 1 => by
    rw [List.range_succ, List.flatMap_append]
    refine ((flat_filter f xs m).append_right _).trans ?_
    simpa using (filter_split f m xs).symm
def segs (l : List Int) (m : Nat) : List Nat := (List.range m).flatMap (seg l)
theorem segs_perm (l : List Int) : (segs l l.length).Perm (List.range l.length) := by
  have h := flat_filter (rank l) (List.range l.length) l.length
  rwa [List.filter_eq_self.2 (fun i hi => by have := rank_bound (List.mem_range.1 hi); simpa using this)] at h
theorem segs_succ (l : List Int) (m : Nat) : segs l (m + 1) = segs l m ++ seg l m := by
  simp [segs, List.range_succ, List.flatMap_append]
theorem seg_le (l : List Int) (n : Nat) : (seg l n).length ≤ 1 := by
  have hn : (seg l n).Nodup := List.Pairwise.filter _ List.nodup_range
  have hm : ∀ i ∈ seg l n, i < l.length ∧ rank l i = n := fun i hi => by
    have := List.mem_filter.1 hi
    exact ⟨List.mem_range.1 this.1, by simpa using this.2⟩
  match h : seg l n with
  | [] => simp
  | [a] => simp
  | a :: b :: r =>
    rw [h] at hn hm
    have ha := hm a (by simp)
    have hb := hm b (by simp)
    have := rank_inj ha.1 hb.1 (by rw [ha.2, hb.2])
    subst this
    simp at hn
theorem segs_le (l : List Int) : ∀ m, (segs l m).length ≤ m
  | 0 => by simp [segs]
  | m + 1 => by
    rw [segs_succ, List.length_append]
    have := segs_le l m
    have := seg_le l m
    omega
theorem segs_more (l : List Int) (m : Nat) : ∀ k, ∃ r, segs l (m + k) = segs l m ++ r ∧ r.length ≤ k
  | 0 => ⟨[], by simp, by simp⟩
  | k + 1 => by
    obtain ⟨r, h1, h2⟩ := segs_more l m k
    refine ⟨r ++ seg l (m + k), by rw [← Nat.add_assoc, segs_succ, h1, List.append_assoc], ?_⟩
    have := seg_le l (m + k)
    rw [List.length_append]; omega
theorem segs_take {l : List Int} {m : Nat} (hm : m ≤ l.length) : segs l m = (segs l l.length).take m := by
  obtain ⟨r, h1, h2⟩ := segs_more l m (l.length - m)
  rw [show m + (l.length - m) = l.length by omega] at h1
  have h3 := (segs_perm l).length_eq
  rw [List.length_range] at h3
  have h4 := segs_le l m
  have h5 : (segs l m).length = m := by
    rw [h1, List.length_append] at h3; omega
  rw [h1, List.take_append_of_le_length (by omega), List.take_of_length_le (by omega)]
theorem segs_asc (l : List Int) (m : Nat) : ((segs l m).map fun i => l.getD i 0).Pairwise (· ≤ ·) := by
  have hmem : ∀ n i, i ∈ seg l n → i < l.length ∧ rank l i = n := fun n i hi => by
    have := List.mem_filter.1 hi
    exact ⟨List.mem_range.1 this.1, by simpa using this.2⟩
  induction m with
  | zero => simp [segs]
  | succ m ih =>
    rw [segs_succ, List.map_append]
    refine List.pairwise_append.2 ⟨ih, ?_, fun a ha b hb => ?_⟩
    · have := seg_le l m
      match h : seg l m with
      | [] => simp
      | [a] => simp
      | a :: b :: r => rw [h] at this; simp at this
    · obtain ⟨i, hi, rfl⟩ := List.mem_map.1 ha
      obtain ⟨j, hj, rfl⟩ := List.mem_map.1 hb
      obtain ⟨n, hn, hin⟩ := List.mem_flatMap.1 hi
      have h1 := hmem n i hin
      have h2 := hmem m j hj
      refine rank_le h1.1 h2.1 ?_
      have := List.mem_range.1 hn
      omega
theorem range_get (l : List Int) : (List.range l.length).map (fun i => l.getD i 0) = l := by
  refine List.ext_getElem (by simp) fun i h1 h2 => ?_
  simp [h2]
/-- **by ranks is in order** -/
theorem segs_sort {l : List Int} {m : Nat} (hm : m ≤ l.length) : ((segs l m).map fun i => l.getD i 0) = (sortI l).take m := by
  rw [segs_take hm, List.map_take]
  congr 1
  refine asc_perm (segs_asc l _) (sortI_asc l) ?_
  have h := (segs_perm l).map fun i => l.getD i 0
  rw [range_get] at h
  exact h.trans (sortI_perm l).symm
theorem filter_take {p : Int → Bool} : ∀ {s : List Int} (m : Nat), (∀ a b, a ≤ b → p b = true → p a = true) → s.Pairwise (· ≤ ·) → (s.take m).filter p = (s.filter p).take m
  | [], m, _, _ => by simp
  | x :: s, 0, _, _ => by simp
  | x :: s, m + 1, hp, hs => by
    obtain ⟨h1, h2⟩ := List.pairwise_cons.1 hs
    by_cases hx : p x = true
    · rw [List.take_succ_cons, List.filter_cons_of_pos hx, List.filter_cons_of_pos hx, List.take_succ_cons, filter_take m hp h2]
    · have hall : ∀ y ∈ s, p y = false := fun y hy => by
        cases h : p y with
        | false => rfl
        | true => exact absurd (hp x y (h1 y hy) h) hx
      have h0 : ∀ {t : List Int}, (∀ y ∈ t, y ∈ s) → t.filter p = [] := fun ht => List.filter_eq_nil_iff.2 fun y hy => by rw [hall y (ht y hy)]; decide
      rw [List.take_succ_cons, List.filter_cons_of_neg hx, List.filter_cons_of_neg hx, h0 (fun y hy => List.mem_of_mem_take hy), h0 (fun y hy => hy), List.take_nil]
def notIdle (x : Int) : Bool := decide (x ≠ 18446744073709551615)
/-- what the document tells: rank by rank -/
def shouldD (l : List Int) (m : Nat) : List Int := (List.range m).flatMap fun n => ((seg l n).map fun i => l.getD i 0).filter notIdle
noncomputable def shouldP (l : List Int) (k : Nat) : List Int := (sortI (l.filter notIdle)).take k
theorem should_same {l : List Int} (hl : ∀ x ∈ l, x < 18446744073709551616) {m : Nat} (hm : m ≤ l.length) : shouldD l m = shouldP l m := by
  have h1 : shouldD l m = (((segs l m).map fun i => l.getD i 0).filter notIdle) := by
    simp only [shouldD, segs, List.map_flatMap, List.filter_flatMap]
  have hmem : ∀ x ∈ sortI l, x < 18446744073709551616 := fun x hx => hl x ((sortI_perm l).mem_iff.1 hx)
  rw [h1, segs_sort hm]
  have h2 : ((sortI l).take m).filter notIdle = ((sortI l).filter notIdle).take m := by
    have h3 : ∀ (s : List Int) (m : Nat), (∀ x ∈ s, x < 18446744073709551616) → s.Pairwise (· ≤ ·) → (s.take m).filter notIdle = (s.filter notIdle).take m := fun s m hs ha => by
      have e : ∀ t : List Int, (∀ x ∈ t, x < 18446744073709551616) → t.filter notIdle = t.filter fun x => decide (x < 18446744073709551615) := fun t ht => List.filter_congr fun x hx => by
        have := ht x hx
        simp only [notIdle, decide_eq_decide]
        omega
      rw [e _ (fun x hx => hs x (List.mem_of_mem_take hx)), e s hs]
      exact filter_take m (fun a b hab hb => by simp only [decide_eq_true_eq] at *; omega) ha
    exact h3 _ _ hmem (sortI_asc l)
  rw [h2]
  unfold shouldP
  congr 1
  refine asc_perm (List.Pairwise.filter _ (sortI_asc l)) (sortI_asc _) ?_
  exact ((sortI_perm l).filter _).trans (sortI_perm _).symm
end Go.Proofs.YtedmgpchggogpaaGreat.Lift

set_option linter.unusedVariables false
namespace Go.Proofs.YtedmgpchggogpaaGreat.Lift
open Go Go.Proofs.YtedmgpchggogpaaGreat.Gh Go.Proofs
/-! ### The document's loops, place by place -/
def rankN (l : List Int) (j i : Nat) : Nat := (List.range i).countP (aheadB l j)
theorem rankN_zero (l : List Int) (j : Nat) : rankN l j 0 = 0 := rfl
theorem rankN_succ (l : List Int) (j i : Nat) : rankN l j (i + 1) = rankN l j i + if aheadB l j i = true then 1 else 0 := by
  unfold rankN
  rw [List.range_succ, List.countP_append, List.countP_singleton]
theorem rankN_all (l : List Int) (j : Nat) : rankN l j l.length = rank l j := rfl
theorem rankN_le (l : List Int) (j i : Nat) : rankN l j i ≤ i := by
  have := List.countP_le_length (p := aheadB l j) (l := List.range i)
  simpa [rankN] using this
def segP (l : List Int) (n i : Nat) : List Int := (((List.range i).filter fun k => decide (rank l k = n)).map fun k => l.getD k 0).filter notIdle
theorem segP_succ (l : List Int) (n i : Nat) : segP l n (i + 1) = segP l n i ++ if notIdle (l.getD i 0) = true ∧ rank l i = n then [l.getD i 0] else [] := by
  unfold segP
  rw [List.range_succ, List.filter_append, List.map_append, List.filter_append]
  congr 1
  by_cases h1 : rank l i = n
  · by_cases h2 : notIdle (l.getD i 0) = true
    · rw [if_pos ⟨h2, h1⟩, List.filter_cons_of_pos (by simpa using h1)]
      simp only [List.filter_nil, List.map_cons, List.map_nil]
      rw [List.filter_cons_of_pos h2, List.filter_nil]
    · rw [if_neg (fun k => h2 k.1), List.filter_cons_of_pos (by simpa using h1)]
      simp only [List.filter_nil, List.map_cons, List.map_nil]
      rw [List.filter_cons_of_neg h2, List.filter_nil]
  · rw [if_neg (fun k => h1 k.2), List.filter_cons_of_neg (by simpa using h1)]
    rfl
theorem segP_all (l : List Int) (n : Nat) : segP l n l.length = ((seg l n).map fun i => l.getD i 0).filter notIdle := rfl
theorem shouldD_succ (l : List Int) (m : Nat) : shouldD l (m + 1) = shouldD l m ++ segP l m l.length := by
  unfold shouldD
  rw [List.range_succ, List.flatMap_append]
  simp [segP_all]
end Go.Proofs.YtedmgpchggogpaaGreat.Lift

set_option linter.unusedVariables false
set_option linter.unusedSimpArgs false
set_option maxRecDepth 20000
namespace Go.Proofs.YtedmgpchggogpaaGreat.Lift
open Go Go.Proofs.YtedmgpchggogpaaGreat.Gh Go.Proofs
/-! ### Words are sorted where they lie -/
@[simp] theorem rowsJ_sz (k : IntKind) : (rowsI k).sz = 1 := rfl
@[simp] theorem rowsJ_row (k : IntKind) (x : Int) : (rowsI k).row x = [.int k x] := rfl
theorem flat_u (L : List Int) : (rowsI .u64).flat L = L.map (Value.int .u64) := by
  induction L with
  | nil => rfl
  | cons a l ih => rw [RowE.flat_cons, ih]; rfl
theorem ones_u (L : List Int) : (L.map (Value.int .u64)).all one = true := by rw [← flat_u]; exact (rowsI .u64).flat_ones L
theorem takeN_self {α : Type} : ∀ l : List α, takeN l.length l = some l
  | [] => rfl
  | x :: l => by rw [List.length_cons, takeN_succ, takeN_self l]
theorem splice_self {α : Type} : ∀ l r : List α, l.length = r.length → splice l 0 r = some r
  | [], [], _ => rfl
  | x :: l, y :: r, h => by rw [splice_put, splice_self l r (by simpa using h)]
theorem srt_own {B : Nat} {G : GS} {v : Value} {L : List Int} (h : OwR (rowsI .u64) B G v L) (hlt : L.length < 1000000000000) :
    ∃ G', srt [v, .func (.func 53) #[] #[]] G = some (.tuple #[], G') ∧ OwR (rowsI .u64) B G' v (sortI L) ∧ (∀ A, Ext A G → A.nx ≤ B → Ext A G') := by
  obtain ⟨hl, hv⟩ := h
  rcases hv with ⟨rfl, h0⟩ | ⟨b, op, rfl, h1, h2, h3⟩
  · have : L = [] := List.eq_nil_of_length_eq_zero h0
    subst this
    exact ⟨G, rfl, OwR.nil B G, fun _ h _ => h⟩
  · cases hL : L with
    | nil =>
      subst hL
      exact ⟨G, rfl, ⟨by simp [show sortI [] = [] from rfl], .inr ⟨b, op, rfl, h1, h2, by rw [h3]; rfl⟩⟩, fun _ h _ => h⟩
    | cons x r =>
      rw [← hL]
      have hn : L.length = r.length + 1 := by rw [hL]; rfl
      rw [flat_u] at h3
      have e1 : rdN G b 0 L.length = some (L.map (Value.int .u64)) := by
        unfold rdN
        rw [h3]
        have := takeN_self (L.map (Value.int .u64))
        rw [List.length_map] at this
        show (if (1 : Nat) = 2 then none else takeN L.length (dropN 0 (L.map (Value.int .u64)))) = _
        rw [if_neg (by decide), dropN_eq, List.drop_zero, this]
      have e2 : wrN G b 0 ((sortI L).map (Value.int .u64)) = some (G.put b ⟨(sortI L).map (Value.int .u64), 1, op, 1⟩) := by
        unfold wrN
        rw [h3]
        simp only [ones_u, Bool.and_true, decide_true, if_true]
        rw [splice_self _ _ (by simp [sortI_len])]
        rfl
      refine ⟨G.put b ⟨(sortI L).map (Value.int .u64), 1, op, 1⟩, ?_, ⟨by rw [RowE.flat_length], .inr ⟨b, op, by rw [sortI_len], h1, by simpa using h2, by rw [flat_u]; simp⟩⟩, fun A hA hB => hA.put (by omega) _⟩
      have e0 : srt [.slice (some ⟨b, 0, none⟩) L.length L.length, .func (.func 53) #[] #[]] G = (match rdN G b 0 L.length with
        | some l => (match intsU l with
          | some L' => (match wrN G b 0 ((sortI L').map (Value.int .u64)) with
            | some G' => some (.tuple #[], G')
            | none => none)
          | none => none)
        | none => none) := by
        rw [hn]
        have hb : (Nat.beq 53 sortC && Nat.ble r.length 1000000000000) = true := by rw [Nat.ble_eq_true_of_le (by omega)]; rfl
        show (if (Nat.beq 53 sortC && Nat.ble r.length 1000000000000) = true then _ else _) = _
        rw [if_pos hb]
        rfl
      rw [e0, e1]
      simp only [intsU_map, e2]
theorem sort_cl (orc : FuncId → Bool) {B : Nat} {G : GS} {v : Value} {L : List Int} (h : OwR (rowsI .u64) B G v L) (hlt : L.length < 1000000000000) :
    ∃ G', (E orc).cl 54 [v, .func (.func 53) #[] #[]] G = some (.tuple #[], G') ∧ OwR (rowsI .u64) B G' v (sortI L) ∧ (∀ A, Ext A G → A.nx ≤ B → Ext A G') := by
  obtain ⟨G', h1, h2⟩ := srt_own h hlt
  exact ⟨G', Ref.srt (P := Q) (by kernel_rfl) (by kernel_rfl) _ G _ h1, h2⟩
end Go.Proofs.YtedmgpchggogpaaGreat.Lift

set_option linter.unusedVariables false
set_option linter.unusedSimpArgs false
set_option maxRecDepth 20000
namespace Go.Proofs.YtedmgpchggogpaaGreat.Lift
open Go Go.Proofs.YtedmgpchggogpaaGreat.Gh Go.Proofs
/-! ### The greatest word's place -/
theorem cmp_ok (orc : FuncId → Bool) (a b : Int) (G : GS) : (E orc).cl 53 [.int .u64 a, .int .u64 b] G = some (.int .i64 (cmpI a b), G) := by
  have n : ∀ (x : Int) (G : GS), (E orc).cl 93 [.int .u64 x] G = some (.bool false, G) := fun x G => f93 (exL_ok Q orc) _ G _ (by simp [s93])
  refine f53 (exL_ok Q orc) _ _ G _ ?_
  unfold cmpI
  by_cases h1 : a < b
  · simp [s53, n, h1]
  · by_cases h2 : b < a <;> simp [s53, n, h1, h2]
theorem gr_lp (orc : FuncId → Bool) {L : List Int} {v : Value} : ∀ (k i : Nat) (τ : Env) (G : GS), i + k = L.length → τ 0 = v → τ 1 = .func (.func 53) #[] #[] → τ 8 = v → τ 9 = .int .i64 L.length → τ 10 = .int .i64 i → τ 5 = .int .i64 (gr L i) →
    SlR (rowsI .u64) G v L → L.length < 2 ^ 40 → Wp ((exL Q orc).lpx 52 0 τ G) fun r => r.1 = .exit 0 ∧ Ext G r.2.2 ∧ r.2.1 5 = .int .i64 (gr L L.length) := by
  intro k
  induction k with
  | zero =>
    intro i τ G hi h0 h1 h8 h9 h10 h5 hv hlt
    have hi' : i = L.length := by omega
    refine Wp.lp (l52_0 (exL_ok Q orc)) ?_
    simp [b52_0, clip_t, h0, h1, h8, h9, h10, h5, hi', Ext.refl]
  | succ k ih =>
    intro i τ G hi h0 h1 h8 h9 h10 h5 hv hlt
    refine Wp.lp (l52_0 (exL_ok Q orc)) ?_
    have hiL : i < L.length := by omega
    obtain ⟨b, o, c, e0, _, q0, _⟩ := hv.at hiL
    have hc := q0 0 (by decide)
    simp [rowsI] at hc
    obtain ⟨g1, g2, g3⟩ := gr_bd L i
    have hw : IntKind.wrap .i64 ((i : Int) + 1) = ((i + 1 : Nat) : Int) := wrap64 (by omega) (by omega)
    have hi0 : (0 : Int) ≤ i := by omega
    have hgi : L.getD i 0 = L[i] := by simp [hiL]
    by_cases hg : gr L i < 0
    · have hn : gr L (i + 1) = i := by unfold gr; rw [if_pos (.inl hg)]
      simp [-Int.natCast_add, b52_0, clip_t, h0, h1, h8, h9, h10, h5, e0, hc, hw, hiL, hi0, hg]
      refine ih (i + 1) _ G (by omega) (by simp [clip_t, e0]) (by simp [clip_t]) (by simp [clip_t, e0]) (by simp [clip_t]) (by simp [clip_t]) (by simp [clip_t, hn]) hv hlt
    · obtain ⟨m, hm⟩ : ∃ m : Nat, gr L i = m := ⟨(gr L i).toNat, by omega⟩
      have hmL : m < L.length := by omega
      obtain ⟨b', o', c', e0', _, q1, _⟩ := hv.at hmL
      rw [e0] at e0'
      simp only [Value.slice.injEq, Option.some.injEq, Addr.mk.injEq, and_true, true_and] at e0'
      obtain ⟨⟨rfl, rfl⟩, rfl⟩ := e0'
      have hc1 := q1 0 (by decide)
      simp [rowsI] at hc1
      have hgm : L.getD m 0 = L[m] := by simp [hmL]
      have hm0 : ¬ ((m : Int) < 0) := by omega
      have hm1 : (0 : Int) ≤ m := by omega
      rw [hm] at h5
      have hn : gr L (i + 1) = if L[m] < L[i] then (i : Int) else m := by
        rw [gr, hm, Int.toNat_natCast, hgm, hgi]
        simp [hm0]
      by_cases hlt2 : L[m] < L[i]
      · have hcm : (0 : Int) < cmpI L[i] L[m] := by unfold cmpI; rw [if_neg (by omega), if_pos hlt2]; decide
        rw [if_pos hlt2] at hn
        simp [-Int.natCast_add, b52_0, clip_t, h0, h1, h8, h9, h10, h5, e0, hc, hc1, hw, hiL, hi0, hm0, hm1, hmL, cmp_ok, hcm]
        refine ih (i + 1) _ G (by omega) (by simp [clip_t, e0]) (by simp [clip_t]) (by simp [clip_t, e0]) (by simp [clip_t]) (by simp [clip_t]) (by simp [clip_t, hn]) hv hlt
      · have hcm : ¬ (0 : Int) < cmpI L[i] L[m] := by unfold cmpI; rw [if_neg hlt2]; split <;> decide
        rw [if_neg hlt2] at hn
        simp [-Int.natCast_add, b52_0, clip_t, h0, h1, h8, h9, h10, h5, e0, hc, hc1, hw, hiL, hi0, hm0, hm1, hmL, cmp_ok, hcm]
        refine ih (i + 1) _ G (by omega) (by simp [clip_t, e0]) (by simp [clip_t]) (by simp [clip_t, e0]) (by simp [clip_t]) (by simp [clip_t]) (by simp [clip_t, hn]) hv hlt
theorem greatest_ok (orc : FuncId → Bool) {L : List Int} {v : Value} {G : GS} (hv : SlR (rowsI .u64) G v L) (hlt : L.length < 2 ^ 40) :
    ∃ G', (E orc).cl 52 [v, .func (.func 53) #[] #[]] G = some (.int .i64 (gr L L.length), G') ∧ Ext G G' := by
  have w : Wp (s52 true (exL Q orc) v (.func (.func 53) #[] #[]) G) fun r => r.1 = .int .i64 (gr L L.length) ∧ Ext G r.2 := by
    obtain ⟨a, c, ha⟩ := hv.len
    have l0 : ∀ t, ln Q true t v = some (.int .i64 L.length) := fun t => by rw [ha]; simp
    simp [s52, l0]
    refine Wp.bE ((gr_lp orc L.length 0 _ G (by omega) (by simp [clip_t]) (by simp [clip_t]) (by simp [clip_t]) (by simp [clip_t]) (by simp [clip_t]) (by simp [clip_t, gr]) hv hlt).mono ?_)
    rintro ⟨e, τ, G'⟩ ⟨rfl, x, y⟩
    simp only at x y
    simp [y, x]
  obtain ⟨⟨v', G'⟩, e1, rfl, e3⟩ := w
  exact ⟨G', f52 (exL_ok Q orc) _ _ G _ e1, e3⟩
theorem worst_ok (orc : FuncId → Bool) {L : List Int} {v : Value} {key : Int} {G : GS} (hv : SlR (rowsI .u64) G v L) (hlt : L.length < 2 ^ 40) :
    ∃ G', (E orc).cl 9 [v, .int .u64 key] G = some (worstV L key, G') ∧ Ext G G' := by
  have w : Wp (s9 true (exL Q orc) v (.int .u64 key) G) fun r => r.1 = worstV L key ∧ Ext G r.2 := by
    obtain ⟨g1, g2, g3⟩ := gr_bd L L.length
    unfold s9
    refine Wp.step (greatest_ok orc hv hlt) fun G1 x1 => ?_
    by_cases hg : gr L L.length < 0
    · have : worstV L key = .tuple #[.int .i64 (-1), .bool false] := by simp [worstV, worst, hg]
      rw [this]
      simp [hg, x1]
    · obtain ⟨m, hm⟩ : ∃ m : Nat, gr L L.length = m := ⟨(gr L L.length).toNat, by omega⟩
      have hmL : m < L.length := by omega
      obtain ⟨b, o, c, e0, _, q1, _⟩ := (hv.ext x1).at hmL
      have hc1 := q1 0 (by decide)
      simp [rowsI] at hc1
      have hm0 : ¬ ((m : Int) < 0) := by omega
      have hm1 : (0 : Int) ≤ m := by omega
      have hgm : L.getD m 0 = L[m] := by simp [hmL]
      have hW : worstV L key = if L[m] ≤ key then .tuple #[.int .i64 (-1), .bool false] else .tuple #[.int .i64 m, .bool true] := by
        unfold worstV worst
        simp only [hm, Int.toNat_natCast, hgm, hm0, false_or]
        by_cases h : L[m] ≤ key <;> simp [h]
      rw [hm, hW]
      by_cases h : L[m] ≤ key
      · simp [hm0, hm1, hmL, e0, hc1, h, x1]
      · simp [hm0, hm1, hmL, e0, hc1, h, x1]
  obtain ⟨⟨v', G'⟩, e1, rfl, e3⟩ := w
  exact ⟨G', f9 (exL_ok Q orc) _ _ G _ e1, e3⟩
end Go.Proofs.YtedmgpchggogpaaGreat.Lift

