/- contracts of the program's functions -/
import Derived.Test.YtocbppgkgcoehaaMC
set_option linter.unusedVariables false
set_option linter.unusedSimpArgs false
set_option maxRecDepth 20000
namespace Go.Proofs.Ytocbppgkgcoehaa.Lift
open Go Go.Proofs.Ytocbppgkgcoehaa.Gh Go.Proofs
/-! ### A crew over a ring, in plain Lean -/
def upN {α : Type} (f : Nat → α) (c : Nat) (a : α) : Nat → α := fun j => if j = c then a else f j
theorem upN_same {α : Type} (f : Nat → α) (c : Nat) (a : α) : upN f c a c = a := by unfold upN; rw [if_pos rfl]
theorem upN_ne {α : Type} (f : Nat → α) {c j : Nat} (a : α) (h : j ≠ c) : upN f c a j = f j := by unfold upN; rw [if_neg h]
/-- a call: its number, from, to, the operation, its word, the answer -/
structure Sp where
  id : Int
  fr : Int
  to : Int
  op : Int × Int × Int × Int
  an : Int × Int × Int
structure CS where
  s : MS
  p : Nat → PuS
  v : Nat → Int
  e : Nat → Int
  f : FrS
  d : DrS
  next : Bool
  dd : Bool
  q : List Int
  calls : List Sp
  o : Nat → Int
  clock : Int
  pushed : Int
def rgN (n : Nat) : Rg := ⟨0, 1, 2, n⟩
def CS.begins (n : Nat) (x : CS) (c : Nat) : CS :=
  if c < 2 then { x with clock := x.clock + 1, pushed := x.pushed + 1, v := upN x.v c ((x.pushed + 1) % 65536), p := upN x.p c (newPu (rgN n) ((x.pushed + 1) % 65536)), e := upN x.e c 14, o := upN x.o c x.calls.length, calls := x.calls ++ [⟨x.calls.length, x.clock + 1, -1, (1, 0, 0, (x.pushed + 1) % 65536), (0, 0, 0)⟩] }
  else if x.next = true then { x with clock := x.clock + 1, d := newDr (rgN n) x.f.at', dd := true, o := upN x.o c x.calls.length, calls := x.calls ++ [⟨x.calls.length, x.clock + 1, -1, (3, 0, 0, 0), (0, 0, 0)⟩] }
  else { x with clock := x.clock + 1, f := newFr (rgN n), o := upN x.o c x.calls.length, calls := x.calls ++ [⟨x.calls.length, x.clock + 1, -1, (2, 0, 0, 0), (0, 0, 0)⟩] }
def CS.ends (x : CS) (c : Nat) (a : Int × Int × Int) : CS :=
  { x with clock := x.clock + 1, calls := x.calls.modify (x.o c).toNat fun s => { s with to := x.clock + 1, an := a }, o := upN x.o c (-1) }
/-- a push's step: the memory and the operation behind it; what was in the queue is told of ahead -/
def CS.pushed1 (x : CS) (c : Nat) : CS := { x with s := ((x.p c).step x.s).2, p := upN x.p c ((x.p c).step x.s).1 }
def slotI (s : MS) : Bool := decide (2 ≤ s.at_)
def CS.pushed2 (x : CS) (c : Nat) : CS := if x.s.kind = 3 ∧ x.s.held = true ∧ slotI x.s = true then { x with q := x.q ++ [x.v c], e := upN x.e c 0 } else x
def CS.pushed3 (n : Nat) (x : CS) (c : Nat) : CS := if x.s.kind = 1 ∧ slotI x.s = true ∧ x.q.length = n ∧ x.e c ≠ 0 then { x with e := upN x.e c 7 } else x
def CS.pushes (n : Nat) (x : CS) (c : Nat) : CS × Bool :=
  let x1 := x.pushed1 c
  if (x1.s.kind = 3 ∧ x1.s.held = true ∧ slotI x1.s = true) ∧ n ≤ x1.q.length then (x1, false)
  else
    let x2 := x1.pushed2 c
    if (x2.p c).over = false then (x2, decide ((x2.p c).err = 14))
    else
      let x3 := x2.pushed3 n c
      (x3.ends c ((x3.p c).err, 0, 0), decide ((x3.p c).err = x3.e c))
def CS.takes (x : CS) : CS × Bool :=
  if x.next = true then
    let x1 := { x with s := (x.d.step x.s).2, d := (x.d.step x.s).1 }
    if x1.d.over = false then (if x1.q.length = 0 then (x1, false) else ({ x1 with q := x1.q.drop 1 }, true))
    else ({ x1 with next := false, dd := false }.ends 2 (0, 0, 0), decide (x1.d.err = 0))
  else
    let x1 := { x with s := (x.f.step x.s).2, f := (x.f.step x.s).1 }
    if x1.f.over = false then (x1, true)
    else
      ({ x1 with next := decide (x1.f.err = 0) }.ends 2 (x1.f.err, 0, IntKind.wrap .u64 x1.f.val), if x1.q.length = 0 then decide (x1.f.val = 0) && decide (x1.f.err = 15) else decide (x1.f.err = 0) && decide (some x1.f.val = x1.q[0]?))
def CS.steps (n : Nat) (x : CS) (c : Nat) : CS × Bool := if c < 2 then x.pushes n c else x.takes
/-- numbers that act: the state behind them; false: something was not as it is to be -/
def CS.acts (n : Nat) : List Nat → CS → CS × Bool
  | [], x => (x, true)
  | c :: l, x =>
    let y := if 0 ≤ x.o c then x else x.begins n c
    if (y.steps n c).2 = true then CS.acts n l (y.steps n c).1 else ((y.steps n c).1, false)
/-- a core alone, so often -/
def CS.alone (n c : Nat) : Nat → CS → CS × Bool
  | 0, x => (x, true)
  | k + 1, x => if 0 ≤ x.o c then (if (x.steps n c).2 = true then CS.alone n c k (x.steps n c).1 else ((x.steps n c).1, false)) else (x, true)
/-! ### What is true of it -/
/-- a slot's word, by a number -/
def wordN (n D : Nat) (q : List Int) (t : Nat) : Int := if t < D + q.length then ((t / n : Nat) : Int) * 4294967296 + 65536 + (q[t - D]?).getD 0 else ((t / n : Nat) : Int) * 4294967296
structure InvM (n D T K : Nat) (q : List Int) (H : Nat) (s : MS) : Prop where
  n1 : 1 ≤ n
  n6 : n ≤ 6
  len : s.W.length = 2 + n
  head : s.W[0]? = some (H : Int)
  tail : s.W[1]? = some (T : Int)
  t1 : T ≤ D + q.length
  t2 : D + q.length ≤ T + 1
  qn : q.length ≤ n
  small : D + q.length ≤ K
  qv : ∀ v ∈ q, 0 ≤ v ∧ v ≤ 65535
  slot : ∀ t, D ≤ t → t < D + n → s.W[2 + t % n]? = some (wordN n D q t)
/-- what a core that pushes is within -/
inductive InvP (n D T P : Nat) (v e : Int) : PuS → Prop where
  | tail (t w : Int) : e = 14 → InvP n D T P v e (.go 1 (rgN n) v t w)
  | look (t : Nat) (w : Int) : e = 14 → t ≤ T → InvP n D T P v e (.go 2 (rgN n) v t w)
  | lay (t : Nat) : e = 14 → t ≤ T → t < D + n → InvP n D T P v e (.go 3 (rgN n) v t (((t / n : Nat) : Int) * 4294967296))
  | last (t : Nat) (w : Int) : e = 0 → t + 1 ≤ P → InvP n D T P v e (.go 4 (rgN n) v t w)
  | help (t : Nat) (w : Int) : e = 14 → t + 1 ≤ P → InvP n D T P v e (.go 5 (rgN n) v t w)
end Go.Proofs.Ytocbppgkgcoehaa.Lift

set_option linter.unusedVariables false
set_option linter.unusedSimpArgs false
set_option maxRecDepth 20000
namespace Go.Proofs.Ytocbppgkgcoehaa.Lift
open Go Go.Proofs.Ytocbppgkgcoehaa.Gh Go.Proofs
section
variable {n D T K H : Nat} {q : List Int} {s : MS}
theorem place_n (hn : 1 ≤ n) (h6 : n ≤ 6) (t : Nat) : placeI (rgN n) t = ((2 + t % n : Nat) : Int) := by
  have : t % n < n := Nat.mod_lt _ (by omega)
  unfold placeI rgN
  simp only
  rw [show (2 : Int) + (t : Int) % (n : Int) = ((2 + t % n : Nat) : Int) by simp]
  exact wrap64 (by omega) (by omega)
theorem lap_n (hn : 1 ≤ n) {t : Nat} (ht : t ≤ 1000000) : lapI (rgN n) t = ((t / n : Nat) : Int) := by
  have : t / n ≤ t := Nat.div_le_self _ _
  unfold lapI rgN
  simp only
  rw [show (t : Int) / (n : Int) = ((t / n : Nat) : Int) by simp]
  generalize t / n = k at *
  omega
theorem acc_in {a : Nat} {w : Int} (h : s.W[a]? = some w) (k : Int) (u : Int → Int × Bool) : s.acc k (a : Int) u = ⟨s.W.set a (u w).1, k, a, w, (u w).1, (u w).2, IntKind.wrap .i64 (s.many + 1)⟩ := by
  have hl : a < s.W.length := (List.getElem?_eq_some_iff.1 h).1
  unfold MS.acc
  rw [if_pos (by omega), Int.toNat_natCast, h]
  rfl
theorem set_same {a : Nat} {w : Int} {W : List Int} (h : W[a]? = some w) : W.set a w = W := by
  obtain ⟨hl, rfl⟩ := List.getElem?_eq_some_iff.1 h
  exact List.set_getElem_self hl
theorem load_in {a : Nat} {w : Int} (h : s.W[a]? = some w) : s.load (a : Int) = ⟨s.W, 1, a, w, w, false, IntKind.wrap .i64 (s.many + 1)⟩ := by
  unfold MS.load
  rw [acc_in h]
  simp only [uLoad, set_same h]
theorem store_in {a : Nat} {w : Int} (h : s.W[a]? = some w) (v : Int) : s.store (a : Int) v = ⟨s.W.set a v, 2, a, w, v, true, IntKind.wrap .i64 (s.many + 1)⟩ := by
  unfold MS.store
  rw [acc_in h]
  rfl
theorem cas_hit {a : Nat} {w : Int} (h : s.W[a]? = some w) (y : Int) : s.cas (a : Int) w y = ⟨s.W.set a y, 3, a, w, y, true, IntKind.wrap .i64 (s.many + 1)⟩ := by
  unfold MS.cas
  rw [acc_in h]
  simp only [uCas, if_true]
theorem cas_miss {a : Nat} {w x : Int} (h : s.W[a]? = some w) (hx : w ≠ x) (y : Int) : s.cas (a : Int) x y = ⟨s.W, 3, a, w, w, false, IntKind.wrap .i64 (s.many + 1)⟩ := by
  unfold MS.cas
  rw [acc_in h]
  simp only [uCas, if_neg hx, set_same h]
theorem InvM.sameW {s' : MS} (h : InvM n D T K q H s) (hw : s'.W = s.W) : InvM n D T K q H s' := ⟨h.n1, h.n6, by rw [hw]; exact h.len, by rw [hw]; exact h.head, by rw [hw]; exact h.tail, h.t1, h.t2, h.qn, h.small, h.qv, fun t h1 h2 => by rw [hw]; exact h.slot t h1 h2⟩
theorem InvM.more {K' : Nat} (h : InvM n D T K q H s) (hk : K ≤ K') : InvM n D T K' q H s := { h with small := Nat.le_trans h.small hk }
/-- the word of a number's slot -/
inductive AtW (n D : Nat) (q : List Int) (t : Nat) (w : Int) : Prop where
  | free : t = D + q.length → t < D + n → w = ((t / n : Nat) : Int) * 4294967296 → AtW n D q t w
  | full (l : Nat) (v : Int) : t = D + q.length → q.length = n → t / n = l + 1 → w = (l : Int) * 4294967296 + 65536 + v → 0 ≤ v → v ≤ 65535 → AtW n D q t w
  | old (l : Nat) (v : Int) : t < D + q.length → t / n ≤ l → l ≤ D + n → w = (l : Int) * 4294967296 + 65536 + v → 0 ≤ v → v ≤ 65535 → AtW n D q t w
  | gone (l : Nat) : t < D + q.length → t / n < l → l ≤ D + n → w = (l : Int) * 4294967296 → AtW n D q t w
theorem get_q (h : ∀ v ∈ q, 0 ≤ v ∧ v ≤ 65535) (i : Nat) : 0 ≤ (q[i]?).getD 0 ∧ (q[i]?).getD 0 ≤ 65535 := by
  cases hq : q[i]? with
  | none => simp
  | some v => exact h v (List.mem_of_getElem? hq)
theorem InvM.at (h : InvM n D T K q H s) {t : Nat} (ht : t ≤ D + q.length) : ∃ w, s.W[2 + t % n]? = some w ∧ AtW n D q t w := by
  have n1 := h.n1
  have qn := h.qn
  by_cases c1 : t < D
  · -- the number of the slot now
    obtain ⟨u, hu1, hu2, hu3⟩ : ∃ u, D ≤ u ∧ u < D + n ∧ u % n = t % n := by
      refine ⟨t + n * ((D - t + n - 1) / n), ?_, ?_, by simp⟩
      · have := Nat.div_add_mod (D - t + n - 1) n
        have := Nat.mod_lt (D - t + n - 1) (show n > 0 by omega)
        omega
      · have := Nat.div_add_mod (D - t + n - 1) n
        have := Nat.mod_lt (D - t + n - 1) (show n > 0 by omega)
        omega
    have hlt : t / n < u / n := by
      rcases Nat.lt_or_ge (t / n) (u / n) with h | h
      · exact h
      · have h1 := Nat.div_add_mod t n
        have h2 := Nat.div_add_mod u n
        have h3 := Nat.mul_le_mul_left n h
        omega
    have hun : u / n ≤ D + n := Nat.le_trans (Nat.div_le_self _ _) (by omega)
    refine ⟨_, by rw [← hu3]; exact h.slot u hu1 hu2, ?_⟩
    unfold wordN
    split
    · have := get_q h.qv (u - D)
      exact .old (u / n) _ (by omega) (by omega) hun rfl this.1 this.2
    · exact .gone (u / n) (by omega) hlt hun rfl
  · by_cases c2 : t < D + n
    · refine ⟨_, h.slot t (by omega) c2, ?_⟩
      have hun : t / n ≤ D + n := Nat.le_trans (Nat.div_le_self _ _) (by omega)
      unfold wordN
      split
      · have := get_q h.qv (t - D)
        exact .old (t / n) _ (by omega) (by omega) hun rfl this.1 this.2
      · exact .free (by omega) c2 rfl
    · have e1 : t = D + n := by omega
      have e2 : q.length = n := by omega
      refine ⟨_, by rw [e1, Nat.add_mod_right]; exact h.slot D (by omega) (by omega), ?_⟩
      have hq := get_q h.qv (D - D)
      have hd : t / n = D / n + 1 := by rw [e1, Nat.add_div_right _ (by omega)]
      unfold wordN
      rw [if_pos (by omega)]
      exact .full (D / n) _ (by omega) e2 hd rfl hq.1 hq.2
theorem empty_e (l l' : Nat) : emptyI ((l : Int) * 4294967296) l' = decide (l = l') := by
  unfold emptyI
  rw [Bool.eq_iff_iff]; simp; omega
theorem empty_f (l l' : Nat) {v : Int} (h0 : 0 ≤ v) (h1 : v ≤ 65535) : emptyI ((l : Int) * 4294967296 + 65536 + v) l' = false := by
  unfold emptyI
  rw [Bool.and_eq_false_iff]; simp; omega
theorem full_e (l : Nat) (l' : Int) : fullI ((l : Int) * 4294967296) l' = false := by
  unfold fullI
  rw [Bool.and_eq_false_iff]; simp; omega
theorem full_f (l : Nat) (l' : Int) {v : Int} (h0 : 0 ≤ v) (h1 : v ≤ 65535) : fullI ((l : Int) * 4294967296 + 65536 + v) l' = decide ((l : Int) = l') := by
  unfold fullI
  rw [Bool.eq_iff_iff]; simp; omega
/-- a value is laid -/
theorem InvM.laid (h : InvM n D T K q H s) (hf : q.length < n) {v : Int} (h0 : 0 ≤ v) (h1 : v ≤ 65535) (hT : T = D + q.length) {s' : MS} (hW : s'.W = s.W.set (2 + (D + q.length) % n) ((((D + q.length) / n : Nat) : Int) * 4294967296 + 65536 + v)) : InvM n D T (K + 1) (q ++ [v]) H s' := by
  have n1 := h.n1
  have hm : (D + q.length) % n < n := Nat.mod_lt _ (by omega)
  refine ⟨h.n1, h.n6, by rw [hW, List.length_set]; exact h.len, ?_, ?_, by simp; omega, by simp; omega, by simp; omega, by have := h.small; simp; omega, ?_, ?_⟩
  · rw [hW, List.getElem?_set_ne (by omega)]; exact h.head
  · rw [hW, List.getElem?_set_ne (by omega)]; exact h.tail
  · intro x hx
    rcases List.mem_append.1 hx with hx | hx
    · exact h.qv x hx
    · rw [List.mem_singleton.1 hx]; exact ⟨h0, h1⟩
  · intro t ht1 ht2
    by_cases c : t = D + q.length
    · subst c
      rw [hW, List.getElem?_set_self (by rw [h.len]; omega)]
      unfold wordN
      rw [if_pos (by simp)]
      simp
    · have hne : t % n ≠ (D + q.length) % n := by
        intro e
        have h2 := Nat.div_add_mod t n
        have h3 := Nat.div_add_mod (D + q.length) n
        rcases Nat.lt_trichotomy (t / n) ((D + q.length) / n) with k | k | k
        · have := Nat.mul_le_mul_left n (show t / n + 1 ≤ (D + q.length) / n from k)
          rw [Nat.mul_add, Nat.mul_one] at this; omega
        · rw [k] at h2; omega
        · have := Nat.mul_le_mul_left n (show (D + q.length) / n + 1 ≤ t / n from k)
          rw [Nat.mul_add, Nat.mul_one] at this; omega
      rw [hW, List.getElem?_set_ne (by omega), h.slot t ht1 ht2]
      unfold wordN
      by_cases k : t < D + q.length
      · rw [if_pos k, if_pos (by simp; omega), List.getElem?_append_left (by omega)]
      · rw [if_neg k, if_neg (by simp; omega)]
/-- the first one is taken away -/
theorem InvM.cleared (h : InvM n D T K q H s) (hq : 0 < q.length) {s' : MS} (hW : s'.W = s.W.set (2 + D % n) (((D / n + 1 : Nat) : Int) * 4294967296)) : InvM n (D + 1) T K (q.drop 1) H s' := by
  have n1 := h.n1
  have qn := h.qn
  have hm : D % n < n := Nat.mod_lt _ (by omega)
  refine ⟨h.n1, h.n6, by rw [hW, List.length_set]; exact h.len, ?_, ?_, by have := h.t1; simp; omega, by have := h.t2; simp; omega, by simp; omega, by have := h.small; simp; omega, fun x hx => h.qv x (List.mem_of_mem_drop hx), ?_⟩
  · rw [hW, List.getElem?_set_ne (by omega)]; exact h.head
  · rw [hW, List.getElem?_set_ne (by omega)]; exact h.tail
  · intro t ht1 ht2
    by_cases c : t = D + n
    · subst c
      rw [Nat.add_mod_right, hW, List.getElem?_set_self (by rw [h.len]; omega)]
      unfold wordN
      rw [if_neg (by simp; omega), Nat.add_div_right _ (by omega)]
    · have hne : t % n ≠ D % n := by
        intro e
        have h2 := Nat.div_add_mod t n
        have h3 := Nat.div_add_mod D n
        rcases Nat.lt_trichotomy (t / n) (D / n) with k | k | k
        · have := Nat.mul_le_mul_left n (show t / n + 1 ≤ D / n from k)
          rw [Nat.mul_add, Nat.mul_one] at this; omega
        · rw [k] at h2; omega
        · have := Nat.mul_le_mul_left n (show D / n + 1 ≤ t / n from k)
          rw [Nat.mul_add, Nat.mul_one] at this; omega
      rw [hW, List.getElem?_set_ne (by omega), h.slot t (by omega) (by omega)]
      unfold wordN
      have hd : D + 1 + (q.drop 1).length = D + q.length := by simp; omega
      rw [hd, List.getElem?_drop, show 1 + (t - (D + 1)) = t - D by omega]
theorem InvM.headed (h : InvM n D T K q H s) {H' : Nat} {s' : MS} (hW : s'.W = s.W.set 0 (H' : Int)) : InvM n D T K q H' s' := by
  refine ⟨h.n1, h.n6, by rw [hW, List.length_set]; exact h.len, ?_, ?_, h.t1, h.t2, h.qn, h.small, h.qv, fun t h1 h2 => ?_⟩
  · rw [hW, List.getElem?_set_self (by rw [h.len]; omega)]
  · rw [hW, List.getElem?_set_ne (by omega)]; exact h.tail
  · rw [hW, List.getElem?_set_ne (by omega)]; exact h.slot t h1 h2
theorem InvM.tailed (h : InvM n D T K q H s) (ht : T + 1 ≤ D + q.length) {s' : MS} (hW : s'.W = s.W.set 1 ((T + 1 : Nat) : Int)) : InvM n D (T + 1) K q H s' := by
  refine ⟨h.n1, h.n6, by rw [hW, List.length_set]; exact h.len, ?_, ?_, ht, by have := h.t2; omega, h.qn, h.small, h.qv, fun t h1 h2 => ?_⟩
  · rw [hW, List.getElem?_set_ne (by omega)]; exact h.head
  · rw [hW, List.getElem?_set_self (by rw [h.len]; omega)]
  · rw [hW, List.getElem?_set_ne (by omega)]; exact h.slot t h1 h2
end
end Go.Proofs.Ytocbppgkgcoehaa.Lift

set_option linter.unusedVariables false
set_option linter.unusedSimpArgs false
set_option maxRecDepth 20000
namespace Go.Proofs.Ytocbppgkgcoehaa.Lift
open Go Go.Proofs.Ytocbppgkgcoehaa.Gh Go.Proofs
section
variable {n D T K H P c : Nat} {q : List Int} {s s' : MS} {x : CS} {v e : Int} {p p' : PuS}
theorem InvP.mono {D' T' P' : Nat} (h : InvP n D T P v e p) (h1 : D ≤ D') (h2 : T ≤ T') (h3 : P ≤ P') : InvP n D' T' P' v e p := by
  cases h with
  | tail t w a => exact .tail t w a
  | look t w a b => exact .look t w a (Nat.le_trans b h2)
  | lay t a b d => exact .lay t a (Nat.le_trans b h2) (by omega)
  | last t w a b => exact .last t w a (by omega)
  | help t w a b => exact .help t w a (by omega)
/-- how many steps are left, alone -/
def mu5 (T P : Nat) (t : Int) : Nat := 1 + (if t = T then 4 else 4 + 3 * (P - T))
def muP (T P : Nat) : PuS → Nat
  | .done _ => 0
  | .go k _ _ t _ => if k = 1 then 4 + 3 * (P - T) else if k = 2 then (if t = P then 3 else 1 + mu5 T P t) else if k = 3 then (if t = P then 2 else 1 + mu5 T P t) else if k = 4 then 1 else mu5 T P t
theorem muP_le (h : P ≤ T + 1) (p : PuS) : muP T P p ≤ 9 := by
  cases p with
  | done _ => exact Nat.zero_le _
  | go k R v t w => simp only [muP, mu5]; repeat' split
                    all_goals omega
theorem pushes_go (hs : (x.p c).step x.s = (p', s')) (hl : ¬ (s'.kind = 3 ∧ s'.held = true ∧ slotI s' = true)) (ho : p'.over = false) (he : p'.err = 14) :
    x.pushes n c = ({ x with s := s', p := upN x.p c p' }, true) := by
  unfold CS.pushes CS.pushed1 CS.pushed2
  simp only [hs, upN_same]
  rw [if_neg (fun h => hl h.1)]
  simp only [if_neg hl, upN_same, ho, if_true, he, decide_true]
theorem pushes_lay (hs : (x.p c).step x.s = (p', s')) (hl : s'.kind = 3 ∧ s'.held = true ∧ slotI s' = true) (hq : x.q.length < n) (ho : p'.over = false) (he : p'.err = 14) :
    x.pushes n c = ({ x with s := s', p := upN x.p c p', q := x.q ++ [x.v c], e := upN x.e c 0 }, true) := by
  unfold CS.pushes CS.pushed1 CS.pushed2
  simp only [hs, upN_same]
  rw [if_neg (fun h => by have := h.2; omega)]
  simp only [if_pos hl, upN_same, ho, if_true, he, decide_true]
theorem pushes_full (hs : (x.p c).step x.s = (.done 7, s')) (h1 : s'.kind = 1) (h2 : slotI s' = true) (hq : x.q.length = n) (he : x.e c ≠ 0) :
    x.pushes n c = ({ x with s := s', p := upN x.p c (.done 7), e := upN x.e c 7 }.ends c (7, 0, 0), true) := by
  unfold CS.pushes CS.pushed1 CS.pushed2 CS.pushed3
  have hl : ¬ (s'.kind = 3 ∧ s'.held = true ∧ slotI s' = true) := fun h => by have := h.1; omega
  simp only [hs, upN_same]
  rw [if_neg (fun h => hl h.1)]
  simp only [if_neg hl, upN_same, PuS.over, Bool.true_eq_false, if_false, if_pos (show s'.kind = 1 ∧ slotI s' = true ∧ x.q.length = n ∧ x.e c ≠ 0 from ⟨h1, h2, hq, he⟩), PuS.err, decide_true]
theorem pushes_last (hs : (x.p c).step x.s = (.done 0, s')) (h1 : s'.kind = 3) (h2 : slotI s' = false) (he : x.e c = 0) :
    x.pushes n c = ({ x with s := s', p := upN x.p c (.done 0) }.ends c (0, 0, 0), true) := by
  unfold CS.pushes CS.pushed1 CS.pushed2 CS.pushed3
  have hl : ¬ (s'.kind = 3 ∧ s'.held = true ∧ slotI s' = true) := fun h => by rw [h2] at h; cases h.2.2
  simp only [hs, upN_same]
  rw [if_neg (fun h => hl h.1)]
  simp only [if_neg hl, upN_same, PuS.over, Bool.true_eq_false, if_false, if_neg (show ¬ (s'.kind = 1 ∧ slotI s' = true ∧ x.q.length = n ∧ x.e c ≠ 0) from fun h => by have := h.1; omega)]
  simp only [upN_same, PuS.err, he, decide_true]
theorem st1 (R : Rg) (v t w : Int) (s : MS) : (PuS.go 1 R v t w).step s = (.go 2 R v (s.load R.tail).new w, s.load R.tail) := rfl
theorem st2 (R : Rg) (v t w : Int) (s : MS) : (PuS.go 2 R v t w).step s = (look5 R v t (s.load (placeI R t)).new, s.load (placeI R t)) := rfl
theorem st3 (R : Rg) (v t w : Int) (s : MS) : (PuS.go 3 R v t w).step s = (if (s.cas (placeI R t) w (wordI (lapI R t) v)).held = true then .go 4 R v t w else .go 5 R v t w, s.cas (placeI R t) w (wordI (lapI R t) v)) := rfl
theorem st4 (R : Rg) (v t w : Int) (s : MS) : (PuS.go 4 R v t w).step s = (.done 0, s.cas R.tail t (IntKind.wrap .u64 (t + 1))) := rfl
theorem st5 (R : Rg) (v t w : Int) (s : MS) : (PuS.go 5 R v t w).step s = (.go 1 R v t w, s.cas R.tail t (IntKind.wrap .u64 (t + 1))) := rfl
/-- what is true of a crew -/
inductive InvT (n D H : Nat) (q : List Int) (next : Bool) (o : Int) (f : FrS) (d : DrS) : Prop where
  | idle : o = -1 → H = D → next = false → InvT n D H q next o f d
  | seen : o = -1 → H = D → next = true → 0 < q.length → f.at' = D → InvT n D H q next o f d
  | d1 : 0 ≤ o → next = true → d = .go 1 (rgN n) (D : Int) → H = D → 0 < q.length → InvT n D H q next o f d
  | d2 : 0 ≤ o → next = true → d = .go 2 (rgN n) (H : Int) → H + 1 = D → InvT n D H q next o f d
  | f1 (h : Int) : 0 ≤ o → next = false → f = .go 1 (rgN n) h → H = D → InvT n D H q next o f d
  | f2 : 0 ≤ o → next = false → f = .go 2 (rgN n) (D : Int) → H = D → InvT n D H q next o f d
structure Inv (n K : Nat) (x : CS) (D T H : Nat) : Prop where
  m : InvM n D T K x.q H x.s
  v : ∀ c, c < 2 → 0 ≤ x.v c ∧ x.v c ≤ 65535
  p : ∀ c, c < 2 → x.o c = -1 ∨ (0 ≤ x.o c ∧ InvP n D T (D + x.q.length) (x.v c) (x.e c) (x.p c))
  t : InvT n D H x.q x.next (x.o 2) x.f x.d
  o : ∀ c, x.o c < x.calls.length ∧ -1 ≤ x.o c
  k : 0 ≤ x.clock ∧ x.clock ≤ K ∧ 0 ≤ x.pushed ∧ x.pushed ≤ K ∧ x.calls.length ≤ K
  dd : 0 ≤ x.o 2 → x.next = true → x.dd = true
/-- what a push's step comes to -/
structure PushOk (n K : Nat) (x y : CS) (c D T T' H : Nat) : Prop where
  inv : Inv n (K + 1) y D T' H
  mu : y.o c = -1 ∨ (y.o c = x.o c ∧ muP T' (D + y.q.length) (y.p c) < muP T (D + x.q.length) (x.p c))
  other : ∀ j, j ≠ c → y.o j = x.o j ∧ (j < 2 → y.p j = x.p j)
  len : y.calls.length = x.calls.length
  f : y.f = x.f ∧ y.d = x.d ∧ y.next = x.next
theorem InvT.more {q' : List Int} {o : Int} {next : Bool} {f : FrS} {d : DrS} (h : InvT n D H q next o f d) (hq : q.length ≤ q'.length) : InvT n D H q' next o f d := by
  cases h with
  | idle a b k => exact .idle a b k
  | seen a b k l m => exact .seen a b k (by omega) m
  | d1 a b k l m => exact .d1 a b k l (by omega)
  | d2 a b k l => exact .d2 a b k l
  | f1 h a b k l => exact .f1 h a b k l
  | f2 a b k l => exact .f2 a b k l
theorem upN_o {f : Nat → Int} {c j : Nat} (h : 0 ≤ f c) (h' : f c ≤ f c) : upN f c (f c) j = f j := by unfold upN; split <;> simp_all
/-- a step that does not end -/
theorem PushOk.go (h : Inv n K x D T H) (hc : c < 2) (hb : 0 ≤ x.o c) {T' : Nat} {q' : List Int} {e' : Nat → Int} (hm : InvM n D T' (K + 1) q' H s') (hT : T ≤ T') (hq : x.q.length ≤ q'.length) (hp : InvP n D T' (D + q'.length) (x.v c) (e' c) p') (he : ∀ j, j ≠ c → e' j = x.e j) (hmu : muP T' (D + q'.length) p' < muP T (D + x.q.length) (x.p c)) :
    PushOk n K x { x with s := s', p := upN x.p c p', q := q', e := e' } c D T T' H := by
  refine ⟨⟨hm, h.v, fun j hj => ?_, h.t.more hq, h.o, by have := h.k; simp only; omega, h.dd⟩, .inr ⟨rfl, by simpa [upN_same] using hmu⟩, fun j hj => ⟨rfl, fun _ => upN_ne _ _ hj⟩, rfl, ⟨rfl, rfl, rfl⟩⟩
  by_cases hjc : j = c
  · subst hjc
    exact .inr ⟨hb, by simpa [upN_same] using hp⟩
  · rcases h.p j hj with k | ⟨k1, k2⟩
    · exact .inl k
    · refine .inr ⟨k1, ?_⟩
      simp only [upN_ne _ _ hjc, he j hjc]
      exact k2.mono (Nat.le_refl _) hT (by omega)
/-- a step that ends -/
theorem PushOk.over (h : Inv n K x D T H) (hc : c < 2) (hb : 0 ≤ x.o c) {T' : Nat} {e' : Nat → Int} {a : Int × Int × Int} (hm : InvM n D T' (K + 1) x.q H s') (hT : T ≤ T') (he : ∀ j, j ≠ c → e' j = x.e j) :
    PushOk n K x ({ x with s := s', p := upN x.p c p', e := e' }.ends c a) c D T T' H := by
  refine ⟨⟨hm, h.v, fun j hj => ?_, ?_, fun j => ?_, by have := h.k; simp [CS.ends]; omega, by simpa [CS.ends, upN_ne _ _ (show 2 ≠ c by omega)] using h.dd⟩, .inl (by simp [CS.ends, upN_same]), fun j hj => ⟨upN_ne _ _ hj, fun _ => upN_ne _ _ hj⟩, by simp [CS.ends], ⟨rfl, rfl, rfl⟩⟩
  · by_cases hjc : j = c
    · subst hjc
      exact .inl (by simp [CS.ends, upN_same])
    · rcases h.p j hj with k | ⟨k1, k2⟩
      · exact .inl (by simpa [CS.ends, upN_ne _ _ hjc] using k)
      · refine .inr ⟨by simpa [CS.ends, upN_ne _ _ hjc] using k1, ?_⟩
        simp only [CS.ends, upN_ne _ _ hjc, he j hjc]
        exact k2.mono (Nat.le_refl _) hT (by omega)
  · have := h.t
    simpa [CS.ends, upN_ne _ _ (show 2 ≠ c by omega)] using this
  · have := h.o j
    by_cases hjc : j = c
    · subst hjc
      simp [CS.ends, upN_same]; omega
    · simpa [CS.ends, upN_ne _ _ hjc] using this
theorem slot_in {a : Nat} {k o w : Int} {b : Bool} {m : Int} {W : List Int} : slotI ⟨W, k, ((2 + a : Nat) : Int), o, w, b, m⟩ = true := by unfold slotI; simp; omega
theorem pushes_ok (h : Inv n K x D T H) (hc : c < 2) (hb : 0 ≤ x.o c) (hK : K + 1 ≤ 1000000) : ∃ T', PushOk n K x (x.pushes n c).1 c D T T' H ∧ (x.pushes n c).2 = true := by
  have n1 := h.m.n1
  have n6 := h.m.n6
  have ht1 := h.m.t1
  have ht2 := h.m.t2
  have hsm := h.m.small
  have hp : InvP n D T (D + x.q.length) (x.v c) (x.e c) (x.p c) := (h.p c hc).elim (fun k => by omega) (·.2)
  have hv := h.v c hc
  have ho : ∀ j, upN x.p c (x.p c) j = x.p j := fun j => by unfold upN; split <;> simp_all
  have eqs : ∀ (e' : Nat → Int) (q' : List Int) s' p', ({ x with s := s', p := upN x.p c p' } : CS) = { x with s := s', p := upN x.p c p', q := x.q, e := x.e } := fun _ _ _ _ => rfl
  generalize hpp : x.p c = pc at hp
  cases hp with
  | tail t w he =>
    have hl : x.s.load 1 = _ := load_in (a := 1) h.m.tail
    have hs : (x.p c).step x.s = (.go 2 (rgN n) (x.v c) (T : Int) w, x.s.load 1) := by
      rw [hpp, st1]; show (PuS.go 2 _ _ (x.s.load 1).new _, x.s.load 1) = _; rw [hl]
    rw [pushes_go hs (by rw [hl]; simp) rfl rfl]
    refine ⟨T, PushOk.go h hc hb (q' := x.q) (e' := x.e) ((h.m.more (Nat.le_succ _)).sameW (by rw [hl])) (Nat.le_refl _) (Nat.le_refl _) (.look T w he (Nat.le_refl _)) (fun _ _ => rfl) ?_, rfl⟩
    rw [hpp]
    unfold muP mu5
    simp
    repeat' split <;> omega
  | look t w he htT =>
    obtain ⟨w', hw', at'⟩ := h.m.at (t := t) (by omega)
    have hl : x.s.load ((2 + t % n : Nat) : Int) = _ := load_in hw'
    have hs : (x.p c).step x.s = (look5 (rgN n) (x.v c) t w', x.s.load ((2 + t % n : Nat) : Int)) := by
      rw [hpp, st2, place_n n1 n6, hl]
    have hlap : lapI (rgN n) t = ((t / n : Nat) : Int) := lap_n n1 (by omega)
    have hdiv : t / n ≤ t := Nat.div_le_self _ _
    have hm' := (h.m.more (Nat.le_succ _)).sameW (s' := x.s.load ((2 + t % n : Nat) : Int)) (by rw [hl])
    have help : look5 (rgN n) (x.v c) t w' = .go 5 (rgN n) (x.v c) t w' → t + 1 ≤ D + x.q.length → ∃ T', PushOk n K x (x.pushes n c).1 c D T T' H ∧ (x.pushes n c).2 = true := by
      intro hk hlt
      rw [hk] at hs
      rw [pushes_go hs (by rw [hl]; simp) rfl rfl]
      refine ⟨T, PushOk.go h hc hb (q' := x.q) (e' := x.e) hm' (Nat.le_refl _) (Nat.le_refl _) (.help t w' he hlt) (fun _ _ => rfl) ?_, rfl⟩
      rw [hpp]
      unfold muP
      have : ¬ (t : Int) = ((D + x.q.length : Nat) : Int) := by omega
      simp only [if_neg this]
      simp
    cases at' with
    | free e1 e2 e3 =>
      have hk : look5 (rgN n) (x.v c) t w' = .go 3 (rgN n) (x.v c) t w' := by
        unfold look5
        rw [hlap, e3, empty_e, if_pos (by simp)]
      rw [hk] at hs
      rw [pushes_go hs (by rw [hl]; simp) rfl rfl]
      refine ⟨T, PushOk.go h hc hb (q' := x.q) (e' := x.e) hm' (Nat.le_refl _) (Nat.le_refl _) (by rw [e3]; exact .lay t he htT e2) (fun _ _ => rfl) ?_, rfl⟩
      rw [hpp]
      have : (t : Int) = ((D + x.q.length : Nat) : Int) := by omega
      unfold muP
      simp only [if_pos this]
      simp
    | full l v' e1 e2 e3 e4 e5 e6 =>
      have hk : look5 (rgN n) (x.v c) t w' = .done 7 := by
        unfold look5
        rw [hlap, e4, empty_f _ _ e5 e6, if_neg (by simp), full_f _ _ e5 e6, if_pos (by simp; omega)]
      rw [hk] at hs
      rw [pushes_full hs (by rw [hl]) (by rw [hl]; exact slot_in) e2 (by omega)]
      exact ⟨T, PushOk.over h hc hb hm' (Nat.le_refl _) (fun j hj => upN_ne _ _ hj), rfl⟩
    | old l v' e1 e2 e3 e4 e5 e6 =>
      refine help ?_ (by omega)
      have := h.m.qn
      unfold look5
      rw [hlap]
      generalize t / n = k at *
      rw [e4, empty_f _ _ e5 e6, if_neg (by simp), full_f _ _ e5 e6, if_neg (by simp; omega)]
    | gone l e1 e2 e3 e4 =>
      refine help ?_ (by omega)
      unfold look5
      rw [hlap]
      generalize t / n = k at *
      rw [e4, empty_e, if_neg (by simp; omega), full_e, if_neg (by simp)]
  | lay t he htT htD =>
    obtain ⟨w', hw', at'⟩ := h.m.at (t := t) (by omega)
    have hlap : lapI (rgN n) t = ((t / n : Nat) : Int) := lap_n n1 (by omega)
    have miss : w' ≠ ((t / n : Nat) : Int) * 4294967296 → t + 1 ≤ D + x.q.length → ∃ T', PushOk n K x (x.pushes n c).1 c D T T' H ∧ (x.pushes n c).2 = true := by
      intro hk hlt
      have hl := cas_miss hw' hk (wordI (lapI (rgN n) t) (x.v c))
      have hs : (x.p c).step x.s = (.go 5 (rgN n) (x.v c) t (((t / n : Nat) : Int) * 4294967296), x.s.cas ((2 + t % n : Nat) : Int) (((t / n : Nat) : Int) * 4294967296) (wordI (lapI (rgN n) t) (x.v c))) := by
        rw [hpp, st3, place_n n1 n6, hl]; simp
      rw [pushes_go hs (by rw [hl]; simp) rfl rfl]
      refine ⟨T, PushOk.go h hc hb (q' := x.q) (e' := x.e) ((h.m.more (Nat.le_succ _)).sameW (by rw [hl])) (Nat.le_refl _) (Nat.le_refl _) (.help t _ he hlt) (fun _ _ => rfl) ?_, rfl⟩
      rw [hpp]
      unfold muP
      have : ¬ (t : Int) = ((D + x.q.length : Nat) : Int) := by omega
      simp only [if_neg this]
      simp
    cases at' with
    | free e1 e2 e3 =>
      have hl := cas_hit hw' (wordI (lapI (rgN n) t) (x.v c))
      rw [e3] at hl
      have hs : (x.p c).step x.s = (.go 4 (rgN n) (x.v c) t (((t / n : Nat) : Int) * 4294967296), x.s.cas ((2 + t % n : Nat) : Int) (((t / n : Nat) : Int) * 4294967296) (wordI (lapI (rgN n) t) (x.v c))) := by
        rw [hpp, st3, place_n n1 n6, hl]; simp
      rw [pushes_lay hs (by rw [hl]; exact ⟨rfl, rfl, slot_in⟩) (by omega) rfl rfl]
      have hm' : InvM n D T (K + 1) (x.q ++ [x.v c]) H (x.s.cas ((2 + t % n : Nat) : Int) (((t / n : Nat) : Int) * 4294967296) (wordI (lapI (rgN n) t) (x.v c))) := by
        refine h.m.laid (by omega) hv.1 hv.2 (by omega) ?_
        rw [hl, e1, lap_n n1 (by omega)]; rfl
      refine ⟨T, PushOk.go h hc hb hm' (Nat.le_refl _) (by simp) (.last t _ (by simp [upN_same]) (by simp; omega)) (fun j hj => upN_ne _ _ hj) ?_, rfl⟩
      rw [hpp]
      have : (t : Int) = ((D + x.q.length : Nat) : Int) := by omega
      unfold muP
      simp only [if_pos this]
      simp
    | full l v' e1 e2 e3 e4 e5 e6 => omega
    | old l v' e1 e2 e3 e4 e5 e6 => exact miss (by omega) (by omega)
    | gone l e1 e2 e3 e4 => exact miss (by omega) (by omega)
  | last t w he htP =>
    have hw : IntKind.wrap .u64 ((t : Int) + 1) = ((t + 1 : Nat) : Int) := by rw [wrap_u64]; omega
    by_cases k : t = T
    · subst k
      have hl := cas_hit (a := 1) h.m.tail ((t + 1 : Nat) : Int)
      have hs : (x.p c).step x.s = (.done 0, x.s.cas 1 (t : Int) ((t + 1 : Nat) : Int)) := by
        rw [hpp, st4, hw]; rfl
      have hl' : x.s.cas 1 (t : Int) ((t + 1 : Nat) : Int) = _ := hl
      rw [pushes_last hs (by rw [hl']) (by rw [hl']; rfl) he]
      exact ⟨t + 1, PushOk.over h hc hb ((h.m.more (Nat.le_succ _)).tailed htP (by rw [hl'])) (Nat.le_succ _) (fun _ _ => rfl), rfl⟩
    · have hl := cas_miss (a := 1) h.m.tail (x := (t : Int)) (by omega) ((t + 1 : Nat) : Int)
      have hs : (x.p c).step x.s = (.done 0, x.s.cas 1 (t : Int) ((t + 1 : Nat) : Int)) := by
        rw [hpp, st4, hw]; rfl
      have hl' : x.s.cas 1 (t : Int) ((t + 1 : Nat) : Int) = _ := hl
      rw [pushes_last hs (by rw [hl']) (by rw [hl']; rfl) he]
      exact ⟨T, PushOk.over h hc hb ((h.m.more (Nat.le_succ _)).sameW (by rw [hl'])) (Nat.le_refl _) (fun _ _ => rfl), rfl⟩
  | help t w he htP =>
    have hw : IntKind.wrap .u64 ((t : Int) + 1) = ((t + 1 : Nat) : Int) := by rw [wrap_u64]; omega
    have hs : (x.p c).step x.s = (.go 1 (rgN n) (x.v c) t w, x.s.cas 1 (t : Int) ((t + 1 : Nat) : Int)) := by
      rw [hpp, st5, hw]; rfl
    by_cases k : t = T
    · subst k
      have hl : x.s.cas 1 (t : Int) ((t + 1 : Nat) : Int) = _ := cas_hit (a := 1) h.m.tail ((t + 1 : Nat) : Int)
      rw [pushes_go hs (by rw [hl]; simp [slotI]) rfl rfl]
      refine ⟨t + 1, PushOk.go h hc hb (q' := x.q) (e' := x.e) ((h.m.more (Nat.le_succ _)).tailed htP (by rw [hl])) (Nat.le_succ _) (Nat.le_refl _) (.tail t w he) (fun _ _ => rfl) ?_, rfl⟩
      rw [hpp]
      unfold muP mu5
      simp
      omega
    · have hl : x.s.cas 1 (t : Int) ((t + 1 : Nat) : Int) = _ := cas_miss (a := 1) h.m.tail (x := (t : Int)) (by omega) ((t + 1 : Nat) : Int)
      rw [pushes_go hs (by rw [hl]; simp [slotI]) rfl rfl]
      refine ⟨T, PushOk.go h hc hb (q' := x.q) (e' := x.e) ((h.m.more (Nat.le_succ _)).sameW (by rw [hl])) (Nat.le_refl _) (Nat.le_refl _) (.tail t w he) (fun _ _ => rfl) ?_, rfl⟩
      rw [hpp]
      have : ¬ (t : Int) = (T : Int) := by omega
      simp only [muP, mu5, if_neg this]
      simp
end
end Go.Proofs.Ytocbppgkgcoehaa.Lift

set_option linter.unusedVariables false
set_option linter.unusedSimpArgs false
set_option maxRecDepth 20000
namespace Go.Proofs.Ytocbppgkgcoehaa.Lift
open Go Go.Proofs.Ytocbppgkgcoehaa.Gh Go.Proofs
section
variable {n D T K H P c : Nat} {q : List Int} {s s' : MS} {x : CS} {v e : Int} {p p' : PuS}
def muT (x : CS) : Nat := if x.next = true then (match x.d with | .go 1 _ _ => 2 | _ => 1) else (match x.f with | .go 1 _ _ => 2 | _ => 1)
theorem muT_le (x : CS) : muT x ≤ 2 := by unfold muT; split <;> split <;> omega
structure TakeOk (n K : Nat) (x y : CS) (T D' H' : Nat) : Prop where
  inv : Inv n (K + 1) y D' T H'
  mu : y.o 2 = -1 ∨ (y.o 2 = x.o 2 ∧ muT y < muT x)
  other : ∀ j, j ≠ 2 → y.o j = x.o j
  len : y.calls.length = x.calls.length
theorem rgN_ok (hn : 1 ≤ n) (h6 : n ≤ 6) : (rgN n).ok := ⟨by show (1 : Int) ≤ (n : Int); omega, by show (n : Int) ≤ 4096; omega⟩
theorem ends_p {y : CS} {a : Int × Int × Int} (hp : ∀ c, c < 2 → y.o c = -1 ∨ (0 ≤ y.o c ∧ InvP n D T P (y.v c) (y.e c) (y.p c))) : ∀ c, c < 2 → (y.ends 2 a).o c = -1 ∨ (0 ≤ (y.ends 2 a).o c ∧ InvP n D T P ((y.ends 2 a).v c) ((y.ends 2 a).e c) ((y.ends 2 a).p c)) := by
  intro c hc
  have := hp c hc
  simpa [CS.ends, upN_ne _ _ (show c ≠ 2 by omega)] using this
theorem ends_o {y : CS} {c : Nat} {a : Int × Int × Int} (h : ∀ j, y.o j < y.calls.length ∧ -1 ≤ y.o j) : ∀ j, (y.ends c a).o j < (y.ends c a).calls.length ∧ -1 ≤ (y.ends c a).o j := by
  intro j
  have := h j
  by_cases hj : j = c
  · subst hj; simp [CS.ends, upN_same]; omega
  · simpa [CS.ends, upN_ne _ _ hj] using this
theorem takes_ok (h : Inv n K x D T H) (hb : 0 ≤ x.o 2) (hK : K + 1 ≤ 1000000) : ∃ D' H', TakeOk n K x x.takes.1 T D' H' ∧ x.takes.2 = true := by
  have n1 := h.m.n1
  have n6 := h.m.n6
  have hsm := h.m.small
  have hqn := h.m.qn
  have hdiv : D / n ≤ D := Nat.div_le_self _ _
  have hmod : D % n < n := Nat.mod_lt _ (by omega)
  have hslot := h.m.slot D (Nat.le_refl _) (by omega)
  cases h.t with
  | idle a _ _ => omega
  | seen a _ _ _ _ => omega
  | d1 a b d e f =>
    have hst := store_in hslot (((D / n + 1 : Nat) : Int) * 4294967296)
    have hcl : clearI (rgN n) D = ((D / n + 1 : Nat) : Int) * 4294967296 := by
      unfold clearI; rw [lap_n n1 (by omega)]; generalize D / n = k at *; omega
    have hs : x.d.step x.s = (.go 2 (rgN n) (D : Int), x.s.store ((2 + D % n : Nat) : Int) (((D / n + 1 : Nat) : Int) * 4294967296)) := by
      rw [d]; simp only [DrS.step, place_n n1 n6, if_true, hcl]
    have ht : x.takes = ({ x with s := x.s.store ((2 + D % n : Nat) : Int) (((D / n + 1 : Nat) : Int) * 4294967296), d := .go 2 (rgN n) (D : Int), q := x.q.drop 1 }, true) := by
      unfold CS.takes
      rw [if_pos b]
      simp only [hs, DrS.over, if_true]
      rw [if_neg (by omega)]
    rw [ht]
    refine ⟨D + 1, H, ⟨⟨(h.m.cleared f (by rw [hst])).more (Nat.le_succ _), h.v, fun c hc => ?_, .d2 a b (by rw [e]) (by omega), h.o, by have := h.k; simp only; omega, h.dd⟩, .inr ⟨rfl, ?_⟩, fun _ _ => rfl, rfl⟩, rfl⟩
    · rcases h.p c hc with k | ⟨k1, k2⟩
      · exact .inl k
      · refine .inr ⟨k1, k2.mono (Nat.le_succ _) (Nat.le_refl _) ?_⟩
        simp; omega
    · unfold muT; simp [b, d]
  | d2 a b d e =>
    have hst := store_in (a := 0) h.m.head ((H + 1 : Nat) : Int)
    have hw : IntKind.wrap .u64 ((H : Int) + 1) = ((H + 1 : Nat) : Int) := by rw [wrap_u64]; omega
    have hs : x.d.step x.s = (.done 0, x.s.store 0 ((H + 1 : Nat) : Int)) := by
      rw [d]; simp only [DrS.step, hw, rgN]; rw [if_neg (by decide)]
    have hst' : x.s.store 0 ((H + 1 : Nat) : Int) = _ := hst
    have ht : x.takes = (({ x with s := x.s.store 0 ((H + 1 : Nat) : Int), d := .done 0, next := false, dd := false } : CS).ends 2 (0, 0, 0), true) := by
      unfold CS.takes
      rw [if_pos b]
      simp only [hs, DrS.over, Bool.true_eq_false, if_false, DrS.err, decide_true]
    rw [ht]
    refine ⟨D, H + 1, ⟨⟨(h.m.more (Nat.le_succ _)).headed (by simp only [CS.ends]; rw [hst']), h.v, ends_p h.p, .idle (by simp [CS.ends, upN_same]) e rfl, ends_o h.o, by have := h.k; simp [CS.ends]; omega, by simp [CS.ends, upN_same]⟩, .inl (by simp [CS.ends, upN_same]), fun j hj => by simp [CS.ends, upN_ne _ _ hj], by simp [CS.ends]⟩, rfl⟩
  | f1 hd a b d e =>
    have hl : x.s.load 0 = _ := load_in (a := 0) h.m.head
    have hs : x.f.step x.s = (.go 2 (rgN n) (D : Int), x.s.load 0) := by
      rw [d]; simp only [FrS.step, if_true, rgN]; rw [hl, e]
    have ht : x.takes = ({ x with s := x.s.load 0, f := .go 2 (rgN n) (D : Int) }, true) := by
      unfold CS.takes
      rw [if_neg (by rw [b]; simp)]
      simp only [hs, FrS.over, if_true]
    rw [ht]
    refine ⟨D, H, ⟨⟨(h.m.more (Nat.le_succ _)).sameW (by simp only; rw [hl]), h.v, h.p, .f2 a b rfl e, h.o, by have := h.k; simp only; omega, h.dd⟩, .inr ⟨rfl, ?_⟩, fun _ _ => rfl, rfl⟩, rfl⟩
    unfold muT; simp [b, d]
  | f2 a b d e =>
    have hl : x.s.load ((2 + D % n : Nat) : Int) = _ := load_in hslot
    have hm' := (h.m.more (Nat.le_succ _)).sameW (s' := x.s.load ((2 + D % n : Nat) : Int)) (by rw [hl])
    have hs : x.f.step x.s = (look2 (rgN n) D (wordN n D x.q D), x.s.load ((2 + D % n : Nat) : Int)) := by
      rw [d]; simp only [FrS.step, place_n n1 n6]; rw [if_neg (by decide), hl]
    cases hq : x.q with
    | nil =>
      have hk : look2 (rgN n) D (wordN n D x.q D) = .done 15 D 0 := by
        unfold look2 wordN
        rw [hq, lap_n n1 (by omega), if_neg (show ¬ D < D + ([] : List Int).length by simp), full_e, if_neg (by simp)]
      rw [hk] at hs
      have ht : x.takes = (({ x with s := x.s.load ((2 + D % n : Nat) : Int), f := .done 15 D 0, next := false } : CS).ends 2 (15, 0, 0), true) := by
        unfold CS.takes
        rw [if_neg (by rw [b]; simp)]
        simp only [hs, FrS.over, Bool.true_eq_false, if_false, FrS.err, FrS.val, hq, show IntKind.wrap .u64 0 = 0 from rfl]
        simp
      rw [ht]
      exact ⟨D, H, ⟨⟨hm', h.v, ends_p h.p, .idle (by simp [CS.ends, upN_same]) e rfl, ends_o h.o, by have := h.k; simp [CS.ends]; omega, by simp [CS.ends, upN_same]⟩, .inl (by simp [CS.ends, upN_same]), fun j hj => by simp [CS.ends, upN_ne _ _ hj], by simp [CS.ends]⟩, rfl⟩
    | cons z l =>
      have hz := h.m.qv z (by rw [hq]; simp)
      have hwd : wordN n D x.q D = ((D / n : Nat) : Int) * 4294967296 + 65536 + z := by
        unfold wordN
        rw [hq, if_pos (by simp)]
        simp
      have hk : look2 (rgN n) D (wordN n D x.q D) = .done 0 D z := by
        unfold look2
        rw [hwd, lap_n n1 (by omega), full_f _ _ hz.1 hz.2, if_pos (by simp)]
        congr 1
        omega
      rw [hk] at hs
      have ht : x.takes = (({ x with s := x.s.load ((2 + D % n : Nat) : Int), f := .done 0 D z, next := true } : CS).ends 2 (0, 0, z), true) := by
        unfold CS.takes
        rw [if_neg (by rw [b]; simp)]
        simp only [hs, FrS.over, Bool.true_eq_false, if_false, FrS.err, FrS.val, hq, show IntKind.wrap .u64 z = z by rw [wrap_u64]; omega]
        simp
      rw [ht]
      exact ⟨D, H, ⟨⟨hm', h.v, ends_p h.p, .seen (by simp [CS.ends, upN_same]) e rfl (by simp [CS.ends, hq]) rfl, ends_o h.o, by have := h.k; simp [CS.ends]; omega, by simp [CS.ends, upN_same]⟩, .inl (by simp [CS.ends, upN_same]), fun j hj => by simp [CS.ends, upN_ne _ _ hj], by simp [CS.ends]⟩, rfl⟩
theorem begins_ok (h : Inv n K x D T H) (hc : c < 3) (hb : x.o c = -1) : Inv n (K + 1) (x.begins n c) D T H ∧ 0 ≤ (x.begins n c).o c ∧ (∀ j, j ≠ c → (x.begins n c).o j = x.o j) ∧ (x.begins n c).calls.length = x.calls.length + 1 := by
  have n1 := h.m.n1
  have n6 := h.m.n6
  have hR := rgN_ok n1 n6
  have ho : ∀ (m : Nat) (a : Sp) j, upN x.o c (x.calls.length : Int) j < ((x.calls ++ [a]).length : Nat) ∧ -1 ≤ upN x.o c (x.calls.length : Int) j := by
    intro m a j
    have := h.o j
    by_cases hj : j = c
    · subst hj; simp [upN_same]; omega
    · rw [upN_ne _ _ hj]; simp; omega
  unfold CS.begins
  by_cases c2 : c < 2
  · rw [if_pos c2]
    have hv : 0 ≤ (x.pushed + 1) % 65536 ∧ (x.pushed + 1) % 65536 ≤ 65535 := by omega
    refine ⟨⟨h.m.more (Nat.le_succ _), fun j hj => ?_, fun j hj => ?_, ?_, ho 0 _, by have := h.k; simp; omega, by simpa [upN_ne _ _ (show 2 ≠ c by omega)] using h.dd⟩, by simp [upN_same], fun j hj => upN_ne _ _ hj, by simp⟩
    · by_cases hjc : j = c
      · subst hjc; simpa [upN_same] using hv
      · simpa [upN_ne _ _ hjc] using h.v j hj
    · by_cases hjc : j = c
      · subst hjc
        refine .inr ⟨by simp [upN_same], ?_⟩
        simp only [upN_same]
        unfold newPu
        rw [if_pos hR, if_neg (by omega)]
        exact .tail 0 0 rfl
      · rcases h.p j hj with k | k
        · exact .inl (by simpa [upN_ne _ _ hjc] using k)
        · exact .inr (by simpa [upN_ne _ _ hjc] using k)
    · simpa [upN_ne _ _ (show 2 ≠ c by omega)] using h.t
  · obtain rfl : c = 2 := by omega
    rw [if_neg c2]
    have hp : ∀ c, c < 2 → upN x.o 2 (x.calls.length : Int) c = -1 ∨ (0 ≤ upN x.o 2 (x.calls.length : Int) c ∧ InvP n D T (D + x.q.length) (x.v c) (x.e c) (x.p c)) := fun c hc => by
      rw [upN_ne _ _ (show c ≠ 2 by omega)]; exact h.p c hc
    by_cases hn : x.next = true
    · rw [if_pos hn]
      refine ⟨⟨h.m.more (Nat.le_succ _), h.v, hp, ?_, ho 0 _, by have := h.k; simp; omega, fun _ _ => rfl⟩, by simp [upN_same], fun j hj => upN_ne _ _ hj, by simp⟩
      cases h.t with
      | idle a b k => rw [k] at hn; cases hn
      | seen a b k l m => exact .d1 (by simp [upN_same]) hn (by simp only; unfold newDr; rw [if_pos hR, m]) b l
      | d1 a _ _ _ _ => omega
      | d2 a _ _ _ => omega
      | f1 _ a _ _ _ => omega
      | f2 a _ _ _ => omega
    · rw [if_neg hn]
      refine ⟨⟨h.m.more (Nat.le_succ _), h.v, hp, ?_, ho 0 _, by have := h.k; simp; omega, fun _ h => absurd h hn⟩, by simp [upN_same], fun j hj => upN_ne _ _ hj, by simp⟩
      have hf : newFr (rgN n) = .go 1 (rgN n) 0 := by unfold newFr; rw [if_pos hR]
      cases h.t with
      | idle a b k => exact .f1 0 (by simp [upN_same]) k hf b
      | seen a b k l m => exact absurd k hn
      | d1 a _ _ _ _ => omega
      | d2 a _ _ _ => omega
      | f1 _ a _ _ _ => omega
      | f2 a _ _ _ => omega
theorem Inv.more (h : Inv n K x D T H) : Inv n (K + 1) x D T H := ⟨h.m.more (Nat.le_succ _), h.v, h.p, h.t, h.o, by have := h.k; omega, h.dd⟩
theorem steps_ok (h : Inv n K x D T H) (hc : c < 3) (hb : 0 ≤ x.o c) (hK : K + 1 ≤ 1000000) : ∃ D' T' H', Inv n (K + 1) (x.steps n c).1 D' T' H' ∧ (x.steps n c).2 = true ∧ (x.steps n c).1.calls.length = x.calls.length ∧ ∀ j, j ≠ c → (x.steps n c).1.o j = x.o j := by
  unfold CS.steps
  by_cases c2 : c < 2
  · rw [if_pos c2]
    obtain ⟨T', h1, h2⟩ := pushes_ok h c2 hb hK
    exact ⟨D, T', H, h1.inv, h2, h1.len, fun j hj => (h1.other j hj).1⟩
  · obtain rfl : c = 2 := by omega
    rw [if_neg c2]
    obtain ⟨D', H', h1, h2⟩ := takes_ok h hb hK
    exact ⟨D', T, H', h1.inv, h2, h1.len, h1.other⟩
theorem acts_ok : ∀ (l : List Nat) {x : CS} {K D T H : Nat}, Inv n K x D T H → (∀ c ∈ l, c < 3) → K + 2 * l.length ≤ 1000000 → ∃ D' T' H', Inv n (K + 2 * l.length) (CS.acts n l x).1 D' T' H' ∧ (CS.acts n l x).2 = true ∧ (CS.acts n l x).1.calls.length ≤ x.calls.length + l.length
  | [], x, K, D, T, H, h, _, _ => ⟨D, T, H, h, rfl, Nat.le_refl _⟩
  | c :: l, x, K, D, T, H, h, hl, hK => by
    have hc := hl c (by simp)
    simp only [List.length_cons] at hK ⊢
    have key : ∀ y : CS, Inv n (K + 1) y D T H → 0 ≤ y.o c → y.calls.length ≤ x.calls.length + 1 → ∃ D' T' H', Inv n (K + 2 * (l.length + 1)) (if (y.steps n c).2 = true then CS.acts n l (y.steps n c).1 else ((y.steps n c).1, false)).1 D' T' H' ∧ (if (y.steps n c).2 = true then CS.acts n l (y.steps n c).1 else ((y.steps n c).1, false)).2 = true ∧ (if (y.steps n c).2 = true then CS.acts n l (y.steps n c).1 else ((y.steps n c).1, false)).1.calls.length ≤ x.calls.length + (l.length + 1) := by
      intro y hy hb hlen
      obtain ⟨D1, T1, H1, h1, h2, h3, _⟩ := steps_ok hy hc hb (by omega)
      rw [if_pos h2]
      obtain ⟨D2, T2, H2, g1, g2, g3⟩ := acts_ok l h1 (fun c hc => hl c (by simp [hc])) (by omega)
      exact ⟨D2, T2, H2, by rw [show K + 2 * (l.length + 1) = K + 1 + 1 + 2 * l.length by omega]; exact g1, g2, by omega⟩
    unfold CS.acts
    by_cases hb : 0 ≤ x.o c
    · simp only [if_pos hb]
      exact key x h.more hb (by omega)
    · simp only [if_neg hb]
      have := h.o c
      obtain ⟨b1, b2, _, b4⟩ := begins_ok h hc (by omega)
      exact key _ b1 b2 (by omega)
theorem aloneP_ok (hc : c < 2) : ∀ (k : Nat) {x : CS} {K D T H : Nat}, Inv n K x D T H → K + k ≤ 1000000 → (0 ≤ x.o c → muP T (D + x.q.length) (x.p c) ≤ k) → ∃ D' T' H', Inv n (K + k) (CS.alone n c k x).1 D' T' H' ∧ (CS.alone n c k x).2 = true ∧ (CS.alone n c k x).1.o c = -1 ∧ (CS.alone n c k x).1.calls.length = x.calls.length ∧ ∀ j, j ≠ c → (CS.alone n c k x).1.o j = x.o j
  | 0, x, K, D, T, H, h, hK, hm => by
    refine ⟨D, T, H, h, rfl, ?_, rfl, fun _ _ => rfl⟩
    rcases h.p c hc with k | ⟨k1, k2⟩
    · exact k
    · have h0 := hm k1
      generalize x.p c = pp at h0 k2
      cases k2 <;> unfold muP mu5 at h0 <;> simp at h0 <;> (try split at h0) <;> (try omega)
  | k + 1, x, K, D, T, H, h, hK, hm => by
    unfold CS.alone
    by_cases hb : 0 ≤ x.o c
    · rw [if_pos hb]
      have hst : x.steps n c = x.pushes n c := by unfold CS.steps; rw [if_pos hc]
      rw [hst]
      obtain ⟨T', h1, h2⟩ := pushes_ok h hc hb (by omega)
      rw [if_pos h2]
      have h0 := hm hb
      obtain ⟨D2, T2, H2, g1, g2, g3, g4, g5⟩ := aloneP_ok hc k h1.inv (by omega) (fun hb' => by
        rcases h1.mu with m | ⟨_, m⟩
        · omega
        · omega)
      exact ⟨D2, T2, H2, by rw [show K + (k + 1) = K + 1 + k by omega]; exact g1, g2, g3, g4.trans h1.len, fun j hj => (g5 j hj).trans (h1.other j hj).1⟩
    · rw [if_neg hb]
      have := h.o c
      exact ⟨D, T, H, ⟨h.m.more (by omega), h.v, h.p, h.t, h.o, by have := h.k; simp only; omega, h.dd⟩, rfl, by simp only; omega, rfl, fun _ _ => rfl⟩
theorem muT_pos (x : CS) : 1 ≤ muT x := by unfold muT; split <;> split <;> omega
theorem aloneT_ok : ∀ (k : Nat) {x : CS} {K D T H : Nat}, Inv n K x D T H → K + k ≤ 1000000 → (0 ≤ x.o 2 → muT x ≤ k) → ∃ D' T' H', Inv n (K + k) (CS.alone n 2 k x).1 D' T' H' ∧ (CS.alone n 2 k x).2 = true ∧ (CS.alone n 2 k x).1.o 2 = -1 ∧ (CS.alone n 2 k x).1.calls.length = x.calls.length ∧ ∀ j, j ≠ 2 → (CS.alone n 2 k x).1.o j = x.o j
  | 0, x, K, D, T, H, h, hK, hm => by
    have h1 := muT_pos x
    have := h.o 2
    refine ⟨D, T, H, h, rfl, ?_, rfl, fun _ _ => rfl⟩
    show x.o 2 = -1
    rcases Int.lt_or_le (x.o 2) 0 with k | k
    · omega
    · have := hm k; omega
  | k + 1, x, K, D, T, H, h, hK, hm => by
    unfold CS.alone
    by_cases hb : 0 ≤ x.o 2
    · rw [if_pos hb]
      have hst : x.steps n 2 = x.takes := by unfold CS.steps; rw [if_neg (by decide)]
      rw [hst]
      obtain ⟨D', H', h1, h2⟩ := takes_ok h hb (by omega)
      rw [if_pos h2]
      have h0 := hm hb
      obtain ⟨D2, T2, H2, g1, g2, g3, g4, g5⟩ := aloneT_ok k h1.inv (by omega) (fun hb' => by
        rcases h1.mu with m | ⟨_, m⟩
        · omega
        · omega)
      exact ⟨D2, T2, H2, by rw [show K + (k + 1) = K + 1 + k by omega]; exact g1, g2, g3, g4.trans h1.len, fun j hj => (g5 j hj).trans (h1.other j hj)⟩
    · rw [if_neg hb]
      have := h.o 2
      exact ⟨D, T, H, ⟨h.m.more (by omega), h.v, h.p, h.t, h.o, by have := h.k; simp only; omega, h.dd⟩, rfl, by simp only; omega, rfl, fun _ _ => rfl⟩
end
end Go.Proofs.Ytocbppgkgcoehaa.Lift

