/- contracts of the program's functions -/
import Derived.Test.YtlaojmcekeohnaaGreatDoorGhPD
import Derived.Test.YtlaojmcekeohnaaGreatDoorQA
set_option linter.unusedVariables false
set_option linter.unusedSimpArgs false
namespace Go.Proofs.YtlaojmcekeohnaaGreatDoor.Lift
open Go Go.Proofs.YtlaojmcekeohnaaGreatDoor.Gh
structure Sp where
  id : Int
  fr : Int
  to : Int
  op : Int × Int × Int × Int
  an : Int × Int × Int
def rSp : RowE Sp := ⟨10, fun x => [.int .i64 x.id, .int .i64 x.fr, .int .i64 x.to, .int .i64 x.op.1, .int .i64 x.op.2.1, .int .i64 x.op.2.2.1, .int .u64 x.op.2.2.2, .int .i64 x.an.1, .int .i64 x.an.2.1, .int .u64 x.an.2.2], fun _ => rfl, fun _ => rfl, by decide⟩
@[simp] theorem rSp_sz : rSp.sz = 10 := rfl
@[simp] theorem rSp_row (x : Sp) : rSp.row x = [.int .i64 x.id, .int .i64 x.fr, .int .i64 x.to, .int .i64 x.op.1, .int .i64 x.op.2.1, .int .i64 x.op.2.2.1, .int .u64 x.op.2.2.2, .int .i64 x.an.1, .int .i64 x.an.2.1, .int .u64 x.an.2.2] := rfl
end Go.Proofs.YtlaojmcekeohnaaGreatDoor.Lift

set_option linter.unusedVariables false
set_option linter.unusedSimpArgs false
set_option maxRecDepth 20000
namespace Go.Proofs.YtlaojmcekeohnaaGreatDoor.Lift
open Go Go.Proofs.YtlaojmcekeohnaaGreatDoor.Gh Go.Proofs
/-! ### A crew over a ring, in plain Lean -/
def upN {α : Type} (f : Nat → α) (c : Nat) (a : α) : Nat → α := fun j => if j = c then a else f j
theorem upN_same {α : Type} (f : Nat → α) (c : Nat) (a : α) : upN f c a c = a := by unfold upN; rw [if_pos rfl]
theorem upN_ne {α : Type} (f : Nat → α) {c j : Nat} (a : α) (h : j ≠ c) : upN f c a j = f j := by unfold upN; rw [if_neg h]
structure CS where
  s : MS
  p : Nat → PuS
  v : Nat → Int
  e : Nat → Int
  f : FrS
  d : DrS
  next : Bool
  dd : Bool
  q : List Int
  calls : List Sp
  o : Nat → Int
  clock : Int
  pushed : Int
def rgN (n : Nat) : Rg := ⟨0, 1, 2, n⟩
def CS.begins (n : Nat) (x : CS) (c : Nat) : CS :=
  if c < 2 then { x with clock := x.clock + 1, pushed := x.pushed + 1, v := upN x.v c ((x.pushed + 1) % 65536), p := upN x.p c (newPu (rgN n) ((x.pushed + 1) % 65536)), e := upN x.e c 14, o := upN x.o c x.calls.length, calls := x.calls ++ [⟨x.calls.length, x.clock + 1, -1, (1, 0, 0, (x.pushed + 1) % 65536), (0, 0, 0)⟩] }
  else if x.next = true then { x with clock := x.clock + 1, d := newDr (rgN n) x.f.at', dd := true, o := upN x.o c x.calls.length, calls := x.calls ++ [⟨x.calls.length, x.clock + 1, -1, (3, 0, 0, 0), (0, 0, 0)⟩] }
  else { x with clock := x.clock + 1, f := newFr (rgN n), o := upN x.o c x.calls.length, calls := x.calls ++ [⟨x.calls.length, x.clock + 1, -1, (2, 0, 0, 0), (0, 0, 0)⟩] }
def CS.ends (x : CS) (c : Nat) (a : Int × Int × Int) : CS :=
  { x with clock := x.clock + 1, calls := x.calls.modify (x.o c).toNat fun s => { s with to := x.clock + 1, an := a }, o := upN x.o c (-1) }
/-- a push's step: the memory and the operation behind it; what was in the queue is told of ahead -/
def CS.pushed1 (x : CS) (c : Nat) : CS := { x with s := ((x.p c).step x.s).2, p := upN x.p c ((x.p c).step x.s).1 }
def slotI (s : MS) : Bool := decide (2 ≤ s.at_)
def CS.pushed2 (x : CS) (c : Nat) : CS := if x.s.kind = 3 ∧ x.s.held = true ∧ slotI x.s = true then { x with q := x.q ++ [x.v c], e := upN x.e c 0 } else x
def CS.pushed3 (n : Nat) (x : CS) (c : Nat) : CS := if x.s.kind = 1 ∧ slotI x.s = true ∧ x.q.length = n ∧ x.e c ≠ 0 then { x with e := upN x.e c 7 } else x
def CS.pushes (n : Nat) (x : CS) (c : Nat) : CS × Bool :=
  let x1 := x.pushed1 c
  if (x1.s.kind = 3 ∧ x1.s.held = true ∧ slotI x1.s = true) ∧ n ≤ x1.q.length then (x1, false)
  else
    let x2 := x1.pushed2 c
    if (x2.p c).over = false then (x2, decide ((x2.p c).err = 14))
    else
      let x3 := x2.pushed3 n c
      (x3.ends c ((x3.p c).err, 0, 0), decide ((x3.p c).err = x3.e c))
def CS.takes (x : CS) : CS × Bool :=
  if x.next = true then
    let x1 := { x with s := (x.d.step x.s).2, d := (x.d.step x.s).1 }
    if x1.d.over = false then (if x1.q.length = 0 then (x1, false) else ({ x1 with q := x1.q.drop 1 }, true))
    else ({ x1 with next := false, dd := false }.ends 2 (0, 0, 0), decide (x1.d.err = 0))
  else
    let x1 := { x with s := (x.f.step x.s).2, f := (x.f.step x.s).1 }
    if x1.f.over = false then (x1, true)
    else
      ({ x1 with next := decide (x1.f.err = 0) }.ends 2 (x1.f.err, 0, IntKind.wrap .u64 x1.f.val), if x1.q.length = 0 then decide (x1.f.val = 0) && decide (x1.f.err = 15) else decide (x1.f.err = 0) && decide (some x1.f.val = x1.q[0]?))
def CS.steps (n : Nat) (x : CS) (c : Nat) : CS × Bool := if c < 2 then x.pushes n c else x.takes
/-! ### What is true of it -/
/-- a slot's word, by a number -/
def wordN (n D : Nat) (q : List Int) (t : Nat) : Int := if t < D + q.length then ((t / n : Nat) : Int) * 4294967296 + 65536 + (q[t - D]?).getD 0 else ((t / n : Nat) : Int) * 4294967296
structure InvM (n D T K : Nat) (q : List Int) (H : Nat) (s : MS) : Prop where
  n1 : 1 ≤ n
  n6 : n ≤ 6
  len : s.W.length = 2 + n
  head : s.W[0]? = some (H : Int)
  tail : s.W[1]? = some (T : Int)
  t1 : T ≤ D + q.length
  t2 : D + q.length ≤ T + 1
  qn : q.length ≤ n
  small : D + q.length ≤ K
  qv : ∀ v ∈ q, 0 ≤ v ∧ v ≤ 65535
  slot : ∀ t, D ≤ t → t < D + n → s.W[2 + t % n]? = some (wordN n D q t)
/-- what a core that pushes is within -/
inductive InvP (n D T P : Nat) (v e : Int) : PuS → Prop where
  | tail (t w : Int) : e = 14 → InvP n D T P v e (.go 1 (rgN n) v t w)
  | look (t : Nat) (w : Int) : e = 14 → t ≤ T → InvP n D T P v e (.go 2 (rgN n) v t w)
  | lay (t : Nat) : e = 14 → t ≤ T → t < D + n → InvP n D T P v e (.go 3 (rgN n) v t (((t / n : Nat) : Int) * 4294967296))
  | last (t : Nat) (w : Int) : e = 0 → t + 1 ≤ P → InvP n D T P v e (.go 4 (rgN n) v t w)
  | help (t : Nat) (w : Int) : e = 14 → t + 1 ≤ P → InvP n D T P v e (.go 5 (rgN n) v t w)
end Go.Proofs.YtlaojmcekeohnaaGreatDoor.Lift

set_option linter.unusedVariables false
set_option linter.unusedSimpArgs false
set_option maxRecDepth 20000
namespace Go.Proofs.YtlaojmcekeohnaaGreatDoor.Lift
open Go Go.Proofs.YtlaojmcekeohnaaGreatDoor.Gh Go.Proofs
section
variable {n D T K H : Nat} {q : List Int} {s : MS}
theorem place_n (hn : 1 ≤ n) (h6 : n ≤ 6) (t : Nat) : placeI (rgN n) t = ((2 + t % n : Nat) : Int) := by
  have : t % n < n := Nat.mod_lt _ (by omega)
  unfold placeI rgN
  simp only
  rw [show (2 : Int) + (t : Int) % (n : Int) = ((2 + t % n : Nat) : Int) by simp]
  exact wrap64 (by omega) (by omega)
theorem lap_n (hn : 1 ≤ n) {t : Nat} (ht : t ≤ 1000000) : lapI (rgN n) t = ((t / n : Nat) : Int) := by
  have : t / n ≤ t := Nat.div_le_self _ _
  unfold lapI rgN
  simp only
  rw [show (t : Int) / (n : Int) = ((t / n : Nat) : Int) by simp]
  generalize t / n = k at *
  omega
theorem acc_in {a : Nat} {w : Int} (h : s.W[a]? = some w) (k : Int) (u : Int → Int × Bool) : s.acc k (a : Int) u = ⟨s.W.set a (u w).1, k, a, w, (u w).1, (u w).2, IntKind.wrap .i64 (s.many + 1)⟩ := by
  have hl : a < s.W.length := (List.getElem?_eq_some_iff.1 h).1
  unfold MS.acc
  rw [if_pos (by omega), Int.toNat_natCast, h]
  rfl
theorem set_same {a : Nat} {w : Int} {W : List Int} (h : W[a]? = some w) : W.set a w = W := by
  obtain ⟨hl, rfl⟩ := List.getElem?_eq_some_iff.1 h
  exact List.set_getElem_self hl
theorem load_in {a : Nat} {w : Int} (h : s.W[a]? = some w) : s.load (a : Int) = ⟨s.W, 1, a, w, w, false, IntKind.wrap .i64 (s.many + 1)⟩ := by
  unfold MS.load
  rw [acc_in h]
  simp only [uLoad, set_same h]
theorem store_in {a : Nat} {w : Int} (h : s.W[a]? = some w) (v : Int) : s.store (a : Int) v = ⟨s.W.set a v, 2, a, w, v, true, IntKind.wrap .i64 (s.many + 1)⟩ := by
  unfold MS.store
  rw [acc_in h]
  rfl
theorem cas_hit {a : Nat} {w : Int} (h : s.W[a]? = some w) (y : Int) : s.cas (a : Int) w y = ⟨s.W.set a y, 3, a, w, y, true, IntKind.wrap .i64 (s.many + 1)⟩ := by
  unfold MS.cas
  rw [acc_in h]
  simp only [uCas, if_true]
theorem cas_miss {a : Nat} {w x : Int} (h : s.W[a]? = some w) (hx : w ≠ x) (y : Int) : s.cas (a : Int) x y = ⟨s.W, 3, a, w, w, false, IntKind.wrap .i64 (s.many + 1)⟩ := by
  unfold MS.cas
  rw [acc_in h]
  simp only [uCas, if_neg hx, set_same h]
theorem InvM.sameW {s' : MS} (h : InvM n D T K q H s) (hw : s'.W = s.W) : InvM n D T K q H s' := ⟨h.n1, h.n6, by rw [hw]; exact h.len, by rw [hw]; exact h.head, by rw [hw]; exact h.tail, h.t1, h.t2, h.qn, h.small, h.qv, fun t h1 h2 => by rw [hw]; exact h.slot t h1 h2⟩
theorem InvM.more {K' : Nat} (h : InvM n D T K q H s) (hk : K ≤ K') : InvM n D T K' q H s := { h with small := Nat.le_trans h.small hk }
/-- the word of a number's slot -/
inductive AtW (n D : Nat) (q : List Int) (t : Nat) (w : Int) : Prop where
  | free : t = D + q.length → t < D + n → w = ((t / n : Nat) : Int) * 4294967296 → AtW n D q t w
  | full (l : Nat) (v : Int) : t = D + q.length → q.length = n → t / n = l + 1 → w = (l : Int) * 4294967296 + 65536 + v → 0 ≤ v → v ≤ 65535 → AtW n D q t w
  | old (l : Nat) (v : Int) : t < D + q.length → t / n ≤ l → l ≤ D + n → w = (l : Int) * 4294967296 + 65536 + v → 0 ≤ v → v ≤ 65535 → AtW n D q t w
  | gone (l : Nat) : t < D + q.length → t / n < l → l ≤ D + n → w = (l : Int) * 4294967296 → AtW n D q t w
theorem get_q (h : ∀ v ∈ q, 0 ≤ v ∧ v ≤ 65535) (i : Nat) : 0 ≤ (q[i]?).getD 0 ∧ (q[i]?).getD 0 ≤ 65535 := by
  cases hq : q[i]? with
  | none => simp
  | some v => exact h v (List.mem_of_getElem? hq)
theorem InvM.at (h : InvM n D T K q H s) {t : Nat} (ht : t ≤ D + q.length) : ∃ w, s.W[2 + t % n]? = some w ∧ AtW n D q t w := by
  have n1 := h.n1
  have qn := h.qn
  by_cases c1 : t < D
  · -- the number of the slot now
    obtain ⟨u, hu1, hu2, hu3⟩ : ∃ u, D ≤ u ∧ u < D + n ∧ u % n = t % n := by
      refine ⟨t + n * ((D - t + n - 1) / n), ?_, ?_, by simp⟩
      · have := Nat.div_add_mod (D - t + n - 1) n
        have := Nat.mod_lt (D - t + n - 1) (show n > 0 by omega)
        omega
      · have := Nat.div_add_mod (D - t + n - 1) n
        have := Nat.mod_lt (D - t + n - 1) (show n > 0 by omega)
        omega
    have hlt : t / n < u / n := by
      rcases Nat.lt_or_ge (t / n) (u / n) with h | h
      · exact h
      · have h1 := Nat.div_add_mod t n
        have h2 := Nat.div_add_mod u n
        have h3 := Nat.mul_le_mul_left n h
        omega
    have hun : u / n ≤ D + n := Nat.le_trans (Nat.div_le_self _ _) (by omega)
    refine ⟨_, by rw [← hu3]; exact h.slot u hu1 hu2, ?_⟩
    unfold wordN
    split
    · have := get_q h.qv (u - D)
      exact .old (u / n) _ (by omega) (by omega) hun rfl this.1 this.2
    · exact .gone (u / n) (by omega) hlt hun rfl
  · by_cases c2 : t < D + n
    · refine ⟨_, h.slot t (by omega) c2, ?_⟩
      have hun : t / n ≤ D + n := Nat.le_trans (Nat.div_le_self _ _) (by omega)
      unfold wordN
      split
      · have := get_q h.qv (t - D)
        exact .old (t / n) _ (by omega) (by omega) hun rfl this.1 this.2
      · exact .free (by omega) c2 rfl
    · have e1 : t = D + n := by omega
      have e2 : q.length = n := by omega
      refine ⟨_, by rw [e1, Nat.add_mod_right]; exact h.slot D (by omega) (by omega), ?_⟩
      have hq := get_q h.qv (D - D)
      have hd : t / n = D / n + 1 := by rw [e1, Nat.add_div_right _ (by omega)]
      unfold wordN
      rw [if_pos (by omega)]
      exact .full (D / n) _ (by omega) e2 hd rfl hq.1 hq.2
theorem empty_e (l l' : Nat) : emptyI ((l : Int) * 4294967296) l' = decide (l = l') := by
  unfold emptyI
  rw [Bool.eq_iff_iff]; simp; omega
theorem empty_f (l l' : Nat) {v : Int} (h0 : 0 ≤ v) (h1 : v ≤ 65535) : emptyI ((l : Int) * 4294967296 + 65536 + v) l' = false := by
  unfold emptyI
  rw [Bool.and_eq_false_iff]; simp; omega
theorem full_e (l : Nat) (l' : Int) : fullI ((l : Int) * 4294967296) l' = false := by
  unfold fullI
  rw [Bool.and_eq_false_iff]; simp; omega
theorem full_f (l : Nat) (l' : Int) {v : Int} (h0 : 0 ≤ v) (h1 : v ≤ 65535) : fullI ((l : Int) * 4294967296 + 65536 + v) l' = decide ((l : Int) = l') := by
  unfold fullI
  rw [Bool.eq_iff_iff]; simp; omega
/-- a value is laid -/
theorem InvM.laid (h : InvM n D T K q H s) (hf : q.length < n) {v : Int} (h0 : 0 ≤ v) (h1 : v ≤ 65535) (hT : T = D + q.length) {s' : MS} (hW : s'.W = s.W.set (2 + (D + q.length) % n) ((((D + q.length) / n : Nat) : Int) * 4294967296 + 65536 + v)) : InvM n D T (K + 1) (q ++ [v]) H s' := by
  have n1 := h.n1
  have hm : (D + q.length) % n < n := Nat.mod_lt _ (by omega)
  refine ⟨h.n1, h.n6, by rw [hW, List.length_set]; exact h.len, ?_, ?_, by simp; omega, by simp; omega, by simp; omega, by have := h.small; simp; omega, ?_, ?_⟩
  · rw [hW, List.getElem?_set_ne (by omega)]; exact h.head
  · rw [hW, List.getElem?_set_ne (by omega)]; exact h.tail
  · intro x hx
    rcases List.mem_append.1 hx with hx | hx
    · exact h.qv x hx
    · rw [List.mem_singleton.1 hx]; exact ⟨h0, h1⟩
  · intro t ht1 ht2
    by_cases c : t = D + q.length
    · subst c
      rw [hW, List.getElem?_set_self (by rw [h.len]; omega)]
      unfold wordN
      rw [if_pos (by simp)]
      simp
    · have hne : t % n ≠ (D + q.length) % n := by
        intro e
        have h2 := Nat.div_add_mod t n
        have h3 := Nat.div_add_mod (D + q.length) n
        rcases Nat.lt_trichotomy (t / n) ((D + q.length) / n) with k | k | k
        · have := Nat.mul_le_mul_left n (show t / n + 1 ≤ (D + q.length) / n from k)
          rw [Nat.mul_add, Nat.mul_one] at this; omega
        · rw [k] at h2; omega
        · have := Nat.mul_le_mul_left n (show (D + q.length) / n + 1 ≤ t / n from k)
          rw [Nat.mul_add, Nat.mul_one] at this; omega
      rw [hW, List.getElem?_set_ne (by omega), h.slot t ht1 ht2]
      unfold wordN
      by_cases k : t < D + q.length
      · rw [if_pos k, if_pos (by simp; omega), List.getElem?_append_left (by omega)]
      · rw [if_neg k, if_neg (by simp; omega)]
/-- the first one is taken away -/
theorem InvM.cleared (h : InvM n D T K q H s) (hq : 0 < q.length) {s' : MS} (hW : s'.W = s.W.set (2 + D % n) (((D / n + 1 : Nat) : Int) * 4294967296)) : InvM n (D + 1) T K (q.drop 1) H s' := by
  have n1 := h.n1
  have qn := h.qn
  have hm : D % n < n := Nat.mod_lt _ (by omega)
  refine ⟨h.n1, h.n6, by rw [hW, List.length_set]; exact h.len, ?_, ?_, by have := h.t1; simp; omega, by have := h.t2; simp; omega, by simp; omega, by have := h.small; simp; omega, fun x hx => h.qv x (List.mem_of_mem_drop hx), ?_⟩
  · rw [hW, List.getElem?_set_ne (by omega)]; exact h.head
  · rw [hW, List.getElem?_set_ne (by omega)]; exact h.tail
  · intro t ht1 ht2
    by_cases c : t = D + n
    · subst c
      rw [Nat.add_mod_right, hW, List.getElem?_set_self (by rw [h.len]; omega)]
      unfold wordN
      rw [if_neg (by simp; omega), Nat.add_div_right _ (by omega)]
    · have hne : t % n ≠ D % n := by
        intro e
        have h2 := Nat.div_add_mod t n
        have h3 := Nat.div_add_mod D n
        rcases Nat.lt_trichotomy (t / n) (D / n) with k | k | k
        · have := Nat.mul_le_mul_left n (show t / n + 1 ≤ D / n from k)
          rw [Nat.mul_add, Nat.mul_one] at this; omega
        · rw [k] at h2; omega
        · have := Nat.mul_le_mul_left n (show D / n + 1 ≤ t / n from k)
          rw [Nat.mul_add, Nat.mul_one] at this; omega
      rw [hW, List.getElem?_set_ne (by omega), h.slot t (by omega) (by omega)]
      unfold wordN
      have hd : D + 1 + (q.drop 1).length = D + q.length := by simp; omega
      rw [hd, List.getElem?_drop, show 1 + (t - (D + 1)) = t - D by omega]
theorem InvM.headed (h : InvM n D T K q H s) {H' : Nat} {s' : MS} (hW : s'.W = s.W.set 0 (H' : Int)) : InvM n D T K q H' s' := by
  refine ⟨h.n1, h.n6, by rw [hW, List.length_set]; exact h.len, ?_, ?_, h.t1, h.t2, h.qn, h.small, h.qv, fun t h1 h2 => ?_⟩
  · rw [hW, List.getElem?_set_self (by rw [h.len]; omega)]
  · rw [hW, List.getElem?_set_ne (by omega)]; exact h.tail
  · rw [hW, List.getElem?_set_ne (by omega)]; exact h.slot t h1 h2
theorem InvM.tailed (h : InvM n D T K q H s) (ht : T + 1 ≤ D + q.length) {s' : MS} (hW : s'.W = s.W.set 1 ((T + 1 : Nat) : Int)) : InvM n D (T + 1) K q H s' := by
  refine ⟨h.n1, h.n6, by rw [hW, List.length_set]; exact h.len, ?_, ?_, ht, by have := h.t2; omega, h.qn, h.small, h.qv, fun t h1 h2 => ?_⟩
  · rw [hW, List.getElem?_set_ne (by omega)]; exact h.head
  · rw [hW, List.getElem?_set_self (by rw [h.len]; omega)]
  · rw [hW, List.getElem?_set_ne (by omega)]; exact h.slot t h1 h2
end
end Go.Proofs.YtlaojmcekeohnaaGreatDoor.Lift

set_option linter.unusedVariables false
set_option linter.unusedSimpArgs false
set_option maxRecDepth 20000
namespace Go.Proofs.YtlaojmcekeohnaaGreatDoor.Lift
open Go Go.Proofs.YtlaojmcekeohnaaGreatDoor.Gh Go.Proofs
section
variable {n D T K H P c : Nat} {q : List Int} {s s' : MS} {x : CS} {v e : Int} {p p' : PuS}
theorem InvP.mono {D' T' P' : Nat} (h : InvP n D T P v e p) (h1 : D ≤ D') (h2 : T ≤ T') (h3 : P ≤ P') : InvP n D' T' P' v e p := by
  cases h with
  | tail t w a => exact .tail t w a
  | look t w a b => exact .look t w a (Nat.le_trans b h2)
  | lay t a b d => exact .lay t a (Nat.le_trans b h2) (by omega)
  | last t w a b => exact .last t w a (by omega)
  | help t w a b => exact .help t w a (by omega)
/-- how many steps are left, alone -/
def mu5 (T P : Nat) (t : Int) : Nat := 1 + (if t = T then 4 else 4 + 3 * (P - T))
def muP (T P : Nat) : PuS → Nat
  | .done _ => 0
  | .go k _ _ t _ => if k = 1 then 4 + 3 * (P - T) else if k = 2 then (if t = P then 3 else 1 + mu5 T P t) else if k = 3 then (if t = P then 2 else 1 + mu5 T P t) else if k = 4 then 1 else mu5 T P t
theorem muP_le (h : P ≤ T + 1) (p : PuS) : muP T P p ≤ 9 := by
  cases p with
  | done _ => exact Nat.zero_le _
  | go k R v t w => simp only [muP, mu5]; repeat' split
                    all_goals omega
theorem pushes_go (hs : (x.p c).step x.s = (p', s')) (hl : ¬ (s'.kind = 3 ∧ s'.held = true ∧ slotI s' = true)) (ho : p'.over = false) (he : p'.err = 14) :
    x.pushes n c = ({ x with s := s', p := upN x.p c p' }, true) := by
  unfold CS.pushes CS.pushed1 CS.pushed2
  simp only [hs, upN_same]
  rw [if_neg (fun h => hl h.1)]
  simp only [if_neg hl, upN_same, ho, if_true, he, decide_true]
theorem pushes_lay (hs : (x.p c).step x.s = (p', s')) (hl : s'.kind = 3 ∧ s'.held = true ∧ slotI s' = true) (hq : x.q.length < n) (ho : p'.over = false) (he : p'.err = 14) :
    x.pushes n c = ({ x with s := s', p := upN x.p c p', q := x.q ++ [x.v c], e := upN x.e c 0 }, true) := by
  unfold CS.pushes CS.pushed1 CS.pushed2
  simp only [hs, upN_same]
  rw [if_neg (fun h => by have := h.2; omega)]
  simp only [if_pos hl, upN_same, ho, if_true, he, decide_true]
theorem pushes_full (hs : (x.p c).step x.s = (.done 7, s')) (h1 : s'.kind = 1) (h2 : slotI s' = true) (hq : x.q.length = n) (he : x.e c ≠ 0) :
    x.pushes n c = ({ x with s := s', p := upN x.p c (.done 7), e := upN x.e c 7 }.ends c (7, 0, 0), true) := by
  unfold CS.pushes CS.pushed1 CS.pushed2 CS.pushed3
  have hl : ¬ (s'.kind = 3 ∧ s'.held = true ∧ slotI s' = true) := fun h => by have := h.1; omega
  simp only [hs, upN_same]
  rw [if_neg (fun h => hl h.1)]
  simp only [if_neg hl, upN_same, PuS.over, Bool.true_eq_false, if_false, if_pos (show s'.kind = 1 ∧ slotI s' = true ∧ x.q.length = n ∧ x.e c ≠ 0 from ⟨h1, h2, hq, he⟩), PuS.err, decide_true]
theorem pushes_last (hs : (x.p c).step x.s = (.done 0, s')) (h1 : s'.kind = 3) (h2 : slotI s' = false) (he : x.e c = 0) :
    x.pushes n c = ({ x with s := s', p := upN x.p c (.done 0) }.ends c (0, 0, 0), true) := by
  unfold CS.pushes CS.pushed1 CS.pushed2 CS.pushed3
  have hl : ¬ (s'.kind = 3 ∧ s'.held = true ∧ slotI s' = true) := fun h => by rw [h2] at h; cases h.2.2
  simp only [hs, upN_same]
  rw [if_neg (fun h => hl h.1)]
  simp only [if_neg hl, upN_same, PuS.over, Bool.true_eq_false, if_false, if_neg (show ¬ (s'.kind = 1 ∧ slotI s' = true ∧ x.q.length = n ∧ x.e c ≠ 0) from fun h => by have := h.1; omega)]
  simp only [upN_same, PuS.err, he, decide_true]
theorem st1 (R : Rg) (v t w : Int) (s : MS) : (PuS.go 1 R v t w).step s = (.go 2 R v (s.load R.tail).new w, s.load R.tail) := rfl
theorem st2 (R : Rg) (v t w : Int) (s : MS) : (PuS.go 2 R v t w).step s = (look5 R v t (s.load (placeI R t)).new, s.load (placeI R t)) := rfl
theorem st3 (R : Rg) (v t w : Int) (s : MS) : (PuS.go 3 R v t w).step s = (if (s.cas (placeI R t) w (wordI (lapI R t) v)).held = true then .go 4 R v t w else .go 5 R v t w, s.cas (placeI R t) w (wordI (lapI R t) v)) := rfl
theorem st4 (R : Rg) (v t w : Int) (s : MS) : (PuS.go 4 R v t w).step s = (.done 0, s.cas R.tail t (IntKind.wrap .u64 (t + 1))) := rfl
theorem st5 (R : Rg) (v t w : Int) (s : MS) : (PuS.go 5 R v t w).step s = (.go 1 R v t w, s.cas R.tail t (IntKind.wrap .u64 (t + 1))) := rfl
/-- what is true of a crew -/
inductive InvT (n D H : Nat) (q : List Int) (next : Bool) (o : Int) (f : FrS) (d : DrS) : Prop where
  | idle : o = -1 → H = D → next = false → InvT n D H q next o f d
  | seen : o = -1 → H = D → next = true → 0 < q.length → f.at' = D → InvT n D H q next o f d
  | d1 : 0 ≤ o → next = true → d = .go 1 (rgN n) (D : Int) → H = D → 0 < q.length → InvT n D H q next o f d
  | d2 : 0 ≤ o → next = true → d = .go 2 (rgN n) (H : Int) → H + 1 = D → InvT n D H q next o f d
  | f1 (h : Int) : 0 ≤ o → next = false → f = .go 1 (rgN n) h → H = D → InvT n D H q next o f d
  | f2 : 0 ≤ o → next = false → f = .go 2 (rgN n) (D : Int) → H = D → InvT n D H q next o f d
structure Inv (n K : Nat) (x : CS) (D T H : Nat) : Prop where
  m : InvM n D T K x.q H x.s
  v : ∀ c, c < 2 → 0 ≤ x.v c ∧ x.v c ≤ 65535
  p : ∀ c, c < 2 → x.o c = -1 ∨ (0 ≤ x.o c ∧ InvP n D T (D + x.q.length) (x.v c) (x.e c) (x.p c))
  t : InvT n D H x.q x.next (x.o 2) x.f x.d
  o : ∀ c, x.o c < x.calls.length ∧ -1 ≤ x.o c
  k : 0 ≤ x.clock ∧ x.clock ≤ K ∧ 0 ≤ x.pushed ∧ x.pushed ≤ K ∧ x.calls.length ≤ K
  dd : 0 ≤ x.o 2 → x.next = true → x.dd = true
/-- what a push's step comes to -/
structure PushOk (n K : Nat) (x y : CS) (c D T T' H : Nat) : Prop where
  inv : Inv n (K + 1) y D T' H
  mu : y.o c = -1 ∨ (y.o c = x.o c ∧ muP T' (D + y.q.length) (y.p c) < muP T (D + x.q.length) (x.p c))
  other : ∀ j, j ≠ c → y.o j = x.o j ∧ (j < 2 → y.p j = x.p j)
  len : y.calls.length = x.calls.length
  f : y.f = x.f ∧ y.d = x.d ∧ y.next = x.next
theorem InvT.more {q' : List Int} {o : Int} {next : Bool} {f : FrS} {d : DrS} (h : InvT n D H q next o f d) (hq : q.length ≤ q'.length) : InvT n D H q' next o f d := by
  cases h with
  | idle a b k => exact .idle a b k
  | seen a b k l m => exact .seen a b k (by omega) m
  | d1 a b k l m => exact .d1 a b k l (by omega)
  | d2 a b k l => exact .d2 a b k l
  | f1 h a b k l => exact .f1 h a b k l
  | f2 a b k l => exact .f2 a b k l
/-- a step that does not end -/
theorem PushOk.go (h : Inv n K x D T H) (hc : c < 2) (hb : 0 ≤ x.o c) {T' : Nat} {q' : List Int} {e' : Nat → Int} (hm : InvM n D T' (K + 1) q' H s') (hT : T ≤ T') (hq : x.q.length ≤ q'.length) (hp : InvP n D T' (D + q'.length) (x.v c) (e' c) p') (he : ∀ j, j ≠ c → e' j = x.e j) (hmu : muP T' (D + q'.length) p' < muP T (D + x.q.length) (x.p c)) :
    PushOk n K x { x with s := s', p := upN x.p c p', q := q', e := e' } c D T T' H := by
  refine ⟨⟨hm, h.v, fun j hj => ?_, h.t.more hq, h.o, by have := h.k; simp only; omega, h.dd⟩, .inr ⟨rfl, by simpa [upN_same] using hmu⟩, fun j hj => ⟨rfl, fun _ => upN_ne _ _ hj⟩, rfl, ⟨rfl, rfl, rfl⟩⟩
  by_cases hjc : j = c
  · subst hjc
    exact .inr ⟨hb, by simpa [upN_same] using hp⟩
  · rcases h.p j hj with k | ⟨k1, k2⟩
    · exact .inl k
    · refine .inr ⟨k1, ?_⟩
      simp only [upN_ne _ _ hjc, he j hjc]
      exact k2.mono (Nat.le_refl _) hT (by omega)
/-- a step that ends -/
theorem PushOk.over (h : Inv n K x D T H) (hc : c < 2) (hb : 0 ≤ x.o c) {T' : Nat} {e' : Nat → Int} {a : Int × Int × Int} (hm : InvM n D T' (K + 1) x.q H s') (hT : T ≤ T') (he : ∀ j, j ≠ c → e' j = x.e j) :
    PushOk n K x ({ x with s := s', p := upN x.p c p', e := e' }.ends c a) c D T T' H := by
  refine ⟨⟨hm, h.v, fun j hj => ?_, ?_, fun j => ?_, by have := h.k; simp [CS.ends]; omega, by simpa [CS.ends, upN_ne _ _ (show 2 ≠ c by omega)] using h.dd⟩, .inl (by simp [CS.ends, upN_same]), fun j hj => ⟨upN_ne _ _ hj, fun _ => upN_ne _ _ hj⟩, by simp [CS.ends], ⟨rfl, rfl, rfl⟩⟩
  · by_cases hjc : j = c
    · subst hjc
      exact .inl (by simp [CS.ends, upN_same])
    · rcases h.p j hj with k | ⟨k1, k2⟩
      · exact .inl (by simpa [CS.ends, upN_ne _ _ hjc] using k)
      · refine .inr ⟨by simpa [CS.ends, upN_ne _ _ hjc] using k1, ?_⟩
        simp only [CS.ends, upN_ne _ _ hjc, he j hjc]
        exact k2.mono (Nat.le_refl _) hT (by omega)
  · have := h.t
    simpa [CS.ends, upN_ne _ _ (show 2 ≠ c by omega)] using this
  · have := h.o j
    by_cases hjc : j = c
    · subst hjc
      simp [CS.ends, upN_same]; omega
    · simpa [CS.ends, upN_ne _ _ hjc] using this
theorem slot_in {a : Nat} {k o w : Int} {b : Bool} {m : Int} {W : List Int} : slotI ⟨W, k, ((2 + a : Nat) : Int), o, w, b, m⟩ = true := by unfold slotI; simp; omega
theorem pushes_ok (h : Inv n K x D T H) (hc : c < 2) (hb : 0 ≤ x.o c) (hK : K + 1 ≤ 1000000) : ∃ T', PushOk n K x (x.pushes n c).1 c D T T' H ∧ (x.pushes n c).2 = true := by
  have n1 := h.m.n1
  have n6 := h.m.n6
  have ht1 := h.m.t1
  have ht2 := h.m.t2
  have hsm := h.m.small
  have hp : InvP n D T (D + x.q.length) (x.v c) (x.e c) (x.p c) := (h.p c hc).elim (fun k => by omega) (·.2)
  have hv := h.v c hc
  have ho : ∀ j, upN x.p c (x.p c) j = x.p j := fun j => by unfold upN; split <;> simp_all
  have eqs : ∀ (e' : Nat → Int) (q' : List Int) s' p', ({ x with s := s', p := upN x.p c p' } : CS) = { x with s := s', p := upN x.p c p', q := x.q, e := x.e } := fun _ _ _ _ => rfl
  generalize hpp : x.p c = pc at hp
  cases hp with
  | tail t w he =>
    have hl : x.s.load 1 = _ := load_in (a := 1) h.m.tail
    have hs : (x.p c).step x.s = (.go 2 (rgN n) (x.v c) (T : Int) w, x.s.load 1) := by
      rw [hpp, st1]; show (PuS.go 2 _ _ (x.s.load 1).new _, x.s.load 1) = _; rw [hl]
    rw [pushes_go hs (by rw [hl]; simp) rfl rfl]
    refine ⟨T, PushOk.go h hc hb (q' := x.q) (e' := x.e) ((h.m.more (Nat.le_succ _)).sameW (by rw [hl])) (Nat.le_refl _) (Nat.le_refl _) (.look T w he (Nat.le_refl _)) (fun _ _ => rfl) ?_, rfl⟩
    rw [hpp]
    unfold muP mu5
    simp
    repeat' split <;> omega
  | look t w he htT =>
    obtain ⟨w', hw', at'⟩ := h.m.at (t := t) (by omega)
    have hl : x.s.load ((2 + t % n : Nat) : Int) = _ := load_in hw'
    have hs : (x.p c).step x.s = (look5 (rgN n) (x.v c) t w', x.s.load ((2 + t % n : Nat) : Int)) := by
      rw [hpp, st2, place_n n1 n6, hl]
    have hlap : lapI (rgN n) t = ((t / n : Nat) : Int) := lap_n n1 (by omega)
    have hdiv : t / n ≤ t := Nat.div_le_self _ _
    have hm' := (h.m.more (Nat.le_succ _)).sameW (s' := x.s.load ((2 + t % n : Nat) : Int)) (by rw [hl])
    have help : look5 (rgN n) (x.v c) t w' = .go 5 (rgN n) (x.v c) t w' → t + 1 ≤ D + x.q.length → ∃ T', PushOk n K x (x.pushes n c).1 c D T T' H ∧ (x.pushes n c).2 = true := by
      intro hk hlt
      rw [hk] at hs
      rw [pushes_go hs (by rw [hl]; simp) rfl rfl]
      refine ⟨T, PushOk.go h hc hb (q' := x.q) (e' := x.e) hm' (Nat.le_refl _) (Nat.le_refl _) (.help t w' he hlt) (fun _ _ => rfl) ?_, rfl⟩
      rw [hpp]
      unfold muP
      have : ¬ (t : Int) = ((D + x.q.length : Nat) : Int) := by omega
      simp only [if_neg this]
      simp
    cases at' with
    | free e1 e2 e3 =>
      have hk : look5 (rgN n) (x.v c) t w' = .go 3 (rgN n) (x.v c) t w' := by
        unfold look5
        rw [hlap, e3, empty_e, if_pos (by simp)]
      rw [hk] at hs
      rw [pushes_go hs (by rw [hl]; simp) rfl rfl]
      refine ⟨T, PushOk.go h hc hb (q' := x.q) (e' := x.e) hm' (Nat.le_refl _) (Nat.le_refl _) (by rw [e3]; exact .lay t he htT e2) (fun _ _ => rfl) ?_, rfl⟩
      rw [hpp]
      have : (t : Int) = ((D + x.q.length : Nat) : Int) := by omega
      unfold muP
      simp only [if_pos this]
      simp
    | full l v' e1 e2 e3 e4 e5 e6 =>
      have hk : look5 (rgN n) (x.v c) t w' = .done 7 := by
        unfold look5
        rw [hlap, e4, empty_f _ _ e5 e6, if_neg (by simp), full_f _ _ e5 e6, if_pos (by simp; omega)]
      rw [hk] at hs
      rw [pushes_full hs (by rw [hl]) (by rw [hl]; exact slot_in) e2 (by omega)]
      exact ⟨T, PushOk.over h hc hb hm' (Nat.le_refl _) (fun j hj => upN_ne _ _ hj), rfl⟩
    | old l v' e1 e2 e3 e4 e5 e6 =>
      refine help ?_ (by omega)
      have := h.m.qn
      unfold look5
      rw [hlap]
      generalize t / n = k at *
      rw [e4, empty_f _ _ e5 e6, if_neg (by simp), full_f _ _ e5 e6, if_neg (by simp; omega)]
    | gone l e1 e2 e3 e4 =>
      refine help ?_ (by omega)
      unfold look5
      rw [hlap]
      generalize t / n = k at *
      rw [e4, empty_e, if_neg (by simp; omega), full_e, if_neg (by simp)]
  | lay t he htT htD =>
    obtain ⟨w', hw', at'⟩ := h.m.at (t := t) (by omega)
    have hlap : lapI (rgN n) t = ((t / n : Nat) : Int) := lap_n n1 (by omega)
    have miss : w' ≠ ((t / n : Nat) : Int) * 4294967296 → t + 1 ≤ D + x.q.length → ∃ T', PushOk n K x (x.pushes n c).1 c D T T' H ∧ (x.pushes n c).2 = true := by
      intro hk hlt
      have hl := cas_miss hw' hk (wordI (lapI (rgN n) t) (x.v c))
      have hs : (x.p c).step x.s = (.go 5 (rgN n) (x.v c) t (((t / n : Nat) : Int) * 4294967296), x.s.cas ((2 + t % n : Nat) : Int) (((t / n : Nat) : Int) * 4294967296) (wordI (lapI (rgN n) t) (x.v c))) := by
        rw [hpp, st3, place_n n1 n6, hl]; simp
      rw [pushes_go hs (by rw [hl]; simp) rfl rfl]
      refine ⟨T, PushOk.go h hc hb (q' := x.q) (e' := x.e) ((h.m.more (Nat.le_succ _)).sameW (by rw [hl])) (Nat.le_refl _) (Nat.le_refl _) (.help t _ he hlt) (fun _ _ => rfl) ?_, rfl⟩
      rw [hpp]
      unfold muP
      have : ¬ (t : Int) = ((D + x.q.length : Nat) : Int) := by omega
      simp only [if_neg this]
      simp
    cases at' with
    | free e1 e2 e3 =>
      have hl := cas_hit hw' (wordI (lapI (rgN n) t) (x.v c))
      rw [e3] at hl
      have hs : (x.p c).step x.s = (.go 4 (rgN n) (x.v c) t (((t / n : Nat) : Int) * 4294967296), x.s.cas ((2 + t % n : Nat) : Int) (((t / n : Nat) : Int) * 4294967296) (wordI (lapI (rgN n) t) (x.v c))) := by
        rw [hpp, st3, place_n n1 n6, hl]; simp
      rw [pushes_lay hs (by rw [hl]; exact ⟨rfl, rfl, slot_in⟩) (by omega) rfl rfl]
      have hm' : InvM n D T (K + 1) (x.q ++ [x.v c]) H (x.s.cas ((2 + t % n : Nat) : Int) (((t / n : Nat) : Int) * 4294967296) (wordI (lapI (rgN n) t) (x.v c))) := by
        refine h.m.laid (by omega) hv.1 hv.2 (by omega) ?_
        rw [hl, e1, lap_n n1 (by omega)]; rfl
      refine ⟨T, PushOk.go h hc hb hm' (Nat.le_refl _) (by simp) (.last t _ (by simp [upN_same]) (by simp; omega)) (fun j hj => upN_ne _ _ hj) ?_, rfl⟩
      rw [hpp]
      have : (t : Int) = ((D + x.q.length : Nat) : Int) := by omega
      unfold muP
      simp only [if_pos this]
      simp
    | full l v' e1 e2 e3 e4 e5 e6 => omega
    | old l v' e1 e2 e3 e4 e5 e6 => exact miss (by omega) (by omega)
    | gone l e1 e2 e3 e4 => exact miss (by omega) (by omega)
  | last t w he htP =>
    have hw : IntKind.wrap .u64 ((t : Int) + 1) = ((t + 1 : Nat) : Int) := by rw [wrap_u64]; omega
    by_cases k : t = T
    · subst k
      have hl := cas_hit (a := 1) h.m.tail ((t + 1 : Nat) : Int)
      have hs : (x.p c).step x.s = (.done 0, x.s.cas 1 (t : Int) ((t + 1 : Nat) : Int)) := by
        rw [hpp, st4, hw]; rfl
      have hl' : x.s.cas 1 (t : Int) ((t + 1 : Nat) : Int) = _ := hl
      rw [pushes_last hs (by rw [hl']) (by rw [hl']; rfl) he]
      exact ⟨t + 1, PushOk.over h hc hb ((h.m.more (Nat.le_succ _)).tailed htP (by rw [hl'])) (Nat.le_succ _) (fun _ _ => rfl), rfl⟩
    · have hl := cas_miss (a := 1) h.m.tail (x := (t : Int)) (by omega) ((t + 1 : Nat) : Int)
      have hs : (x.p c).step x.s = (.done 0, x.s.cas 1 (t : Int) ((t + 1 : Nat) : Int)) := by
        rw [hpp, st4, hw]; rfl
      have hl' : x.s.cas 1 (t : Int) ((t + 1 : Nat) : Int) = _ := hl
      rw [pushes_last hs (by rw [hl']) (by rw [hl']; rfl) he]
      exact ⟨T, PushOk.over h hc hb ((h.m.more (Nat.le_succ _)).sameW (by rw [hl'])) (Nat.le_refl _) (fun _ _ => rfl), rfl⟩
  | help t w he htP =>
    have hw : IntKind.wrap .u64 ((t : Int) + 1) = ((t + 1 : Nat) : Int) := by rw [wrap_u64]; omega
    have hs : (x.p c).step x.s = (.go 1 (rgN n) (x.v c) t w, x.s.cas 1 (t : Int) ((t + 1 : Nat) : Int)) := by
      rw [hpp, st5, hw]; rfl
    by_cases k : t = T
    · subst k
      have hl : x.s.cas 1 (t : Int) ((t + 1 : Nat) : Int) = _ := cas_hit (a := 1) h.m.tail ((t + 1 : Nat) : Int)
      rw [pushes_go hs (by rw [hl]; simp [slotI]) rfl rfl]
      refine ⟨t + 1, PushOk.go h hc hb (q' := x.q) (e' := x.e) ((h.m.more (Nat.le_succ _)).tailed htP (by rw [hl])) (Nat.le_succ _) (Nat.le_refl _) (.tail t w he) (fun _ _ => rfl) ?_, rfl⟩
      rw [hpp]
      unfold muP mu5
      simp
      omega
    · have hl : x.s.cas 1 (t : Int) ((t + 1 : Nat) : Int) = _ := cas_miss (a := 1) h.m.tail (x := (t : Int)) (by omega) ((t + 1 : Nat) : Int)
      rw [pushes_go hs (by rw [hl]; simp [slotI]) rfl rfl]
      refine ⟨T, PushOk.go h hc hb (q' := x.q) (e' := x.e) ((h.m.more (Nat.le_succ _)).sameW (by rw [hl])) (Nat.le_refl _) (Nat.le_refl _) (.tail t w he) (fun _ _ => rfl) ?_, rfl⟩
      rw [hpp]
      have : ¬ (t : Int) = (T : Int) := by omega
      simp only [muP, mu5, if_neg this]
      simp
end
end Go.Proofs.YtlaojmcekeohnaaGreatDoor.Lift

set_option linter.unusedVariables false
set_option linter.unusedSimpArgs false
set_option maxRecDepth 20000
namespace Go.Proofs.YtlaojmcekeohnaaGreatDoor.Lift
open Go Go.Proofs.YtlaojmcekeohnaaGreatDoor.Gh Go.Proofs
section
variable {n D T K H P c : Nat} {q : List Int} {s s' : MS} {x : CS} {v e : Int} {p p' : PuS}
def muT (x : CS) : Nat := if x.next = true then (match x.d with | .go 1 _ _ => 2 | _ => 1) else (match x.f with | .go 1 _ _ => 2 | _ => 1)
theorem muT_le (x : CS) : muT x ≤ 2 := by unfold muT; split <;> split <;> omega
structure TakeOk (n K : Nat) (x y : CS) (T D' H' : Nat) : Prop where
  inv : Inv n (K + 1) y D' T H'
  mu : y.o 2 = -1 ∨ (y.o 2 = x.o 2 ∧ muT y < muT x)
  other : ∀ j, j ≠ 2 → y.o j = x.o j
  len : y.calls.length = x.calls.length
theorem rgN_ok (hn : 1 ≤ n) (h6 : n ≤ 6) : (rgN n).ok := ⟨by show (1 : Int) ≤ (n : Int); omega, by show (n : Int) ≤ 4096; omega⟩
theorem ends_p {y : CS} {a : Int × Int × Int} (hp : ∀ c, c < 2 → y.o c = -1 ∨ (0 ≤ y.o c ∧ InvP n D T P (y.v c) (y.e c) (y.p c))) : ∀ c, c < 2 → (y.ends 2 a).o c = -1 ∨ (0 ≤ (y.ends 2 a).o c ∧ InvP n D T P ((y.ends 2 a).v c) ((y.ends 2 a).e c) ((y.ends 2 a).p c)) := by
  intro c hc
  have := hp c hc
  simpa [CS.ends, upN_ne _ _ (show c ≠ 2 by omega)] using this
theorem ends_o {y : CS} {c : Nat} {a : Int × Int × Int} (h : ∀ j, y.o j < y.calls.length ∧ -1 ≤ y.o j) : ∀ j, (y.ends c a).o j < (y.ends c a).calls.length ∧ -1 ≤ (y.ends c a).o j := by
  intro j
  have := h j
  by_cases hj : j = c
  · subst hj; simp [CS.ends, upN_same]; omega
  · simpa [CS.ends, upN_ne _ _ hj] using this
theorem takes_ok (h : Inv n K x D T H) (hb : 0 ≤ x.o 2) (hK : K + 1 ≤ 1000000) : ∃ D' H', TakeOk n K x x.takes.1 T D' H' ∧ x.takes.2 = true := by
  have n1 := h.m.n1
  have n6 := h.m.n6
  have hsm := h.m.small
  have hqn := h.m.qn
  have hdiv : D / n ≤ D := Nat.div_le_self _ _
  have hmod : D % n < n := Nat.mod_lt _ (by omega)
  have hslot := h.m.slot D (Nat.le_refl _) (by omega)
  cases h.t with
  | idle a _ _ => omega
  | seen a _ _ _ _ => omega
  | d1 a b d e f =>
    have hst := store_in hslot (((D / n + 1 : Nat) : Int) * 4294967296)
    have hcl : clearI (rgN n) D = ((D / n + 1 : Nat) : Int) * 4294967296 := by
      unfold clearI; rw [lap_n n1 (by omega)]; generalize D / n = k at *; omega
    have hs : x.d.step x.s = (.go 2 (rgN n) (D : Int), x.s.store ((2 + D % n : Nat) : Int) (((D / n + 1 : Nat) : Int) * 4294967296)) := by
      rw [d]; simp only [DrS.step, place_n n1 n6, if_true, hcl]
    have ht : x.takes = ({ x with s := x.s.store ((2 + D % n : Nat) : Int) (((D / n + 1 : Nat) : Int) * 4294967296), d := .go 2 (rgN n) (D : Int), q := x.q.drop 1 }, true) := by
      unfold CS.takes
      rw [if_pos b]
      simp only [hs, DrS.over, if_true]
      rw [if_neg (by omega)]
    rw [ht]
    refine ⟨D + 1, H, ⟨⟨(h.m.cleared f (by rw [hst])).more (Nat.le_succ _), h.v, fun c hc => ?_, .d2 a b (by rw [e]) (by omega), h.o, by have := h.k; simp only; omega, h.dd⟩, .inr ⟨rfl, ?_⟩, fun _ _ => rfl, rfl⟩, rfl⟩
    · rcases h.p c hc with k | ⟨k1, k2⟩
      · exact .inl k
      · refine .inr ⟨k1, k2.mono (Nat.le_succ _) (Nat.le_refl _) ?_⟩
        simp; omega
    · unfold muT; simp [b, d]
  | d2 a b d e =>
    have hst := store_in (a := 0) h.m.head ((H + 1 : Nat) : Int)
    have hw : IntKind.wrap .u64 ((H : Int) + 1) = ((H + 1 : Nat) : Int) := by rw [wrap_u64]; omega
    have hs : x.d.step x.s = (.done 0, x.s.store 0 ((H + 1 : Nat) : Int)) := by
      rw [d]; simp only [DrS.step, hw, rgN]; rw [if_neg (by decide)]
    have hst' : x.s.store 0 ((H + 1 : Nat) : Int) = _ := hst
    have ht : x.takes = (({ x with s := x.s.store 0 ((H + 1 : Nat) : Int), d := .done 0, next := false, dd := false } : CS).ends 2 (0, 0, 0), true) := by
      unfold CS.takes
      rw [if_pos b]
      simp only [hs, DrS.over, Bool.true_eq_false, if_false, DrS.err, decide_true]
    rw [ht]
    refine ⟨D, H + 1, ⟨⟨(h.m.more (Nat.le_succ _)).headed (by simp only [CS.ends]; rw [hst']), h.v, ends_p h.p, .idle (by simp [CS.ends, upN_same]) e rfl, ends_o h.o, by have := h.k; simp [CS.ends]; omega, by simp [CS.ends, upN_same]⟩, .inl (by simp [CS.ends, upN_same]), fun j hj => by simp [CS.ends, upN_ne _ _ hj], by simp [CS.ends]⟩, rfl⟩
  | f1 hd a b d e =>
    have hl : x.s.load 0 = _ := load_in (a := 0) h.m.head
    have hs : x.f.step x.s = (.go 2 (rgN n) (D : Int), x.s.load 0) := by
      rw [d]; simp only [FrS.step, if_true, rgN]; rw [hl, e]
    have ht : x.takes = ({ x with s := x.s.load 0, f := .go 2 (rgN n) (D : Int) }, true) := by
      unfold CS.takes
      rw [if_neg (by rw [b]; simp)]
      simp only [hs, FrS.over, if_true]
    rw [ht]
    refine ⟨D, H, ⟨⟨(h.m.more (Nat.le_succ _)).sameW (by simp only; rw [hl]), h.v, h.p, .f2 a b rfl e, h.o, by have := h.k; simp only; omega, h.dd⟩, .inr ⟨rfl, ?_⟩, fun _ _ => rfl, rfl⟩, rfl⟩
    unfold muT; simp [b, d]
  | f2 a b d e =>
    have hl : x.s.load ((2 + D % n : Nat) : Int) = _ := load_in hslot
    have hm' := (h.m.more (Nat.le_succ _)).sameW (s' := x.s.load ((2 + D % n : Nat) : Int)) (by rw [hl])
    have hs : x.f.step x.s = (look2 (rgN n) D (wordN n D x.q D), x.s.load ((2 + D % n : Nat) : Int)) := by
      rw [d]; simp only [FrS.step, place_n n1 n6]; rw [if_neg (by decide), hl]
    cases hq : x.q with
    | nil =>
      have hk : look2 (rgN n) D (wordN n D x.q D) = .done 15 D 0 := by
        unfold look2 wordN
        rw [hq, lap_n n1 (by omega), if_neg (show ¬ D < D + ([] : List Int).length by simp), full_e, if_neg (by simp)]
      rw [hk] at hs
      have ht : x.takes = (({ x with s := x.s.load ((2 + D % n : Nat) : Int), f := .done 15 D 0, next := false } : CS).ends 2 (15, 0, 0), true) := by
        unfold CS.takes
        rw [if_neg (by rw [b]; simp)]
        simp only [hs, FrS.over, Bool.true_eq_false, if_false, FrS.err, FrS.val, hq, show IntKind.wrap .u64 0 = 0 from rfl]
        simp
      rw [ht]
      exact ⟨D, H, ⟨⟨hm', h.v, ends_p h.p, .idle (by simp [CS.ends, upN_same]) e rfl, ends_o h.o, by have := h.k; simp [CS.ends]; omega, by simp [CS.ends, upN_same]⟩, .inl (by simp [CS.ends, upN_same]), fun j hj => by simp [CS.ends, upN_ne _ _ hj], by simp [CS.ends]⟩, rfl⟩
    | cons z l =>
      have hz := h.m.qv z (by rw [hq]; simp)
      have hwd : wordN n D x.q D = ((D / n : Nat) : Int) * 4294967296 + 65536 + z := by
        unfold wordN
        rw [hq, if_pos (by simp)]
        simp
      have hk : look2 (rgN n) D (wordN n D x.q D) = .done 0 D z := by
        unfold look2
        rw [hwd, lap_n n1 (by omega), full_f _ _ hz.1 hz.2, if_pos (by simp)]
        congr 1
        omega
      rw [hk] at hs
      have ht : x.takes = (({ x with s := x.s.load ((2 + D % n : Nat) : Int), f := .done 0 D z, next := true } : CS).ends 2 (0, 0, z), true) := by
        unfold CS.takes
        rw [if_neg (by rw [b]; simp)]
        simp only [hs, FrS.over, Bool.true_eq_false, if_false, FrS.err, FrS.val, hq, show IntKind.wrap .u64 z = z by rw [wrap_u64]; omega]
        simp
      rw [ht]
      exact ⟨D, H, ⟨⟨hm', h.v, ends_p h.p, .seen (by simp [CS.ends, upN_same]) e rfl (by simp [CS.ends, hq]) rfl, ends_o h.o, by have := h.k; simp [CS.ends]; omega, by simp [CS.ends, upN_same]⟩, .inl (by simp [CS.ends, upN_same]), fun j hj => by simp [CS.ends, upN_ne _ _ hj], by simp [CS.ends]⟩, rfl⟩
theorem begins_ok (h : Inv n K x D T H) (hc : c < 3) (hb : x.o c = -1) : Inv n (K + 1) (x.begins n c) D T H ∧ 0 ≤ (x.begins n c).o c ∧ (∀ j, j ≠ c → (x.begins n c).o j = x.o j) ∧ (x.begins n c).calls.length = x.calls.length + 1 := by
  have n1 := h.m.n1
  have n6 := h.m.n6
  have hR := rgN_ok n1 n6
  have ho : ∀ (m : Nat) (a : Sp) j, upN x.o c (x.calls.length : Int) j < ((x.calls ++ [a]).length : Nat) ∧ -1 ≤ upN x.o c (x.calls.length : Int) j := by
    intro m a j
    have := h.o j
    by_cases hj : j = c
    · subst hj; simp [upN_same]; omega
    · rw [upN_ne _ _ hj]; simp; omega
  unfold CS.begins
  by_cases c2 : c < 2
  · rw [if_pos c2]
    have hv : 0 ≤ (x.pushed + 1) % 65536 ∧ (x.pushed + 1) % 65536 ≤ 65535 := by omega
    refine ⟨⟨h.m.more (Nat.le_succ _), fun j hj => ?_, fun j hj => ?_, ?_, ho 0 _, by have := h.k; simp; omega, by simpa [upN_ne _ _ (show 2 ≠ c by omega)] using h.dd⟩, by simp [upN_same], fun j hj => upN_ne _ _ hj, by simp⟩
    · by_cases hjc : j = c
      · subst hjc; simpa [upN_same] using hv
      · simpa [upN_ne _ _ hjc] using h.v j hj
    · by_cases hjc : j = c
      · subst hjc
        refine .inr ⟨by simp [upN_same], ?_⟩
        simp only [upN_same]
        unfold newPu
        rw [if_pos hR, if_neg (by omega)]
        exact .tail 0 0 rfl
      · rcases h.p j hj with k | k
        · exact .inl (by simpa [upN_ne _ _ hjc] using k)
        · exact .inr (by simpa [upN_ne _ _ hjc] using k)
    · simpa [upN_ne _ _ (show 2 ≠ c by omega)] using h.t
  · obtain rfl : c = 2 := by omega
    rw [if_neg c2]
    have hp : ∀ c, c < 2 → upN x.o 2 (x.calls.length : Int) c = -1 ∨ (0 ≤ upN x.o 2 (x.calls.length : Int) c ∧ InvP n D T (D + x.q.length) (x.v c) (x.e c) (x.p c)) := fun c hc => by
      rw [upN_ne _ _ (show c ≠ 2 by omega)]; exact h.p c hc
    by_cases hn : x.next = true
    · rw [if_pos hn]
      refine ⟨⟨h.m.more (Nat.le_succ _), h.v, hp, ?_, ho 0 _, by have := h.k; simp; omega, fun _ _ => rfl⟩, by simp [upN_same], fun j hj => upN_ne _ _ hj, by simp⟩
      cases h.t with
      | idle a b k => rw [k] at hn; cases hn
      | seen a b k l m => exact .d1 (by simp [upN_same]) hn (by simp only; unfold newDr; rw [if_pos hR, m]) b l
      | d1 a _ _ _ _ => omega
      | d2 a _ _ _ => omega
      | f1 _ a _ _ _ => omega
      | f2 a _ _ _ => omega
    · rw [if_neg hn]
      refine ⟨⟨h.m.more (Nat.le_succ _), h.v, hp, ?_, ho 0 _, by have := h.k; simp; omega, fun _ h => absurd h hn⟩, by simp [upN_same], fun j hj => upN_ne _ _ hj, by simp⟩
      have hf : newFr (rgN n) = .go 1 (rgN n) 0 := by unfold newFr; rw [if_pos hR]
      cases h.t with
      | idle a b k => exact .f1 0 (by simp [upN_same]) k hf b
      | seen a b k l m => exact absurd k hn
      | d1 a _ _ _ _ => omega
      | d2 a _ _ _ => omega
      | f1 _ a _ _ _ => omega
      | f2 a _ _ _ => omega
theorem Inv.more (h : Inv n K x D T H) : Inv n (K + 1) x D T H := ⟨h.m.more (Nat.le_succ _), h.v, h.p, h.t, h.o, by have := h.k; omega, h.dd⟩
theorem steps_ok (h : Inv n K x D T H) (hc : c < 3) (hb : 0 ≤ x.o c) (hK : K + 1 ≤ 1000000) : ∃ D' T' H', Inv n (K + 1) (x.steps n c).1 D' T' H' ∧ (x.steps n c).2 = true ∧ (x.steps n c).1.calls.length = x.calls.length ∧ ∀ j, j ≠ c → (x.steps n c).1.o j = x.o j := by
  unfold CS.steps
  by_cases c2 : c < 2
  · rw [if_pos c2]
    obtain ⟨T', h1, h2⟩ := pushes_ok h c2 hb hK
    exact ⟨D, T', H, h1.inv, h2, h1.len, fun j hj => (h1.other j hj).1⟩
  · obtain rfl : c = 2 := by omega
    rw [if_neg c2]
    obtain ⟨D', H', h1, h2⟩ := takes_ok h hb hK
    exact ⟨D', T, H', h1.inv, h2, h1.len, h1.other⟩
theorem muT_pos (x : CS) : 1 ≤ muT x := by unfold muT; split <;> split <;> omega
end
end Go.Proofs.YtlaojmcekeohnaaGreatDoor.Lift

set_option linter.unusedVariables false
set_option linter.unusedSimpArgs false
set_option maxRecDepth 20000
namespace Go.Proofs.YtlaojmcekeohnaaGreatDoor.Lift
open Go Go.Proofs.YtlaojmcekeohnaaGreatDoor.Gh Go.Proofs
/-! ### A crew in the heap -/
/-! ### A part of a row is written -/
section
variable {α : Type} (e : RowE α)
theorem RowE.flat_part : ∀ (L : List α) {i : Nat} (hi : i < L.length) (a : α) {f : Nat} {ds : List Value}, e.row a = overw (e.row L[i]) f ds → f + ds.length ≤ e.sz → overw (e.flat L) (i * e.sz + f) ds = e.flat (L.set i a)
  | [], i, hi, _, _, _, _, _ => by simp at hi
  | b :: L, 0, hi, a, f, ds, h, hf => by
    have hb := e.len b
    simp only [List.getElem_cons_zero] at h
    rw [List.set_cons_zero, e.flat_cons, e.flat_cons, h]
    simp only [overw, Nat.zero_mul, Nat.zero_add]
    rw [List.take_append_of_le_length (by omega), List.drop_append_of_le_length (by omega)]
    simp
  | b :: L, i + 1, hi, a, f, ds, h, hf => by
    have hl : i < L.length := by simpa using hi
    have ih := RowE.flat_part L hl a (f := f) (ds := ds) (by simpa using h) hf
    rw [List.set_cons_succ, e.flat_cons, e.flat_cons, ← ih]
    have h1 : (i + 1) * e.sz + f = (e.row b).length + (i * e.sz + f) := by rw [e.len, Nat.add_mul]; omega
    simp only [overw]
    rw [h1, List.take_length_add_append, Nat.add_assoc, ← List.drop_drop, List.drop_left]
    simp
theorem set_overw (l : List Value) (i : Nat) (v : Value) (h : i < l.length) : l.set i v = overw l i [v] := by
  simp only [overw]
  rw [List.set_eq_take_append_cons_drop, if_pos h]
  simp
end
/-! ### Cells of their own -/
structure Cel (own : Nat → Nat) (G : GS) (b t : Nat) (cs : List Value) : Prop where
  lt : b < G.nx
  tag : own b = t
  obj : G.obj b = some ⟨cs, 1, false, 1⟩
section
variable {own own' own1 : Nat → Nat} {G G' G1 : GS} {b t : Nat} {ts : List Nat} {cs : List Value}
theorem Cel.to (h : Cel own G b t cs) (m : ModT ts own G G') (ht : t ∉ ts) (a : Agr own own' G) : Cel own' G' b t cs :=
  ⟨Nat.lt_of_lt_of_le h.lt m.nx, (a b h.lt).trans h.tag, (m.same h.lt (by rw [h.tag]; exact ht)).trans h.obj⟩
theorem Cel.put (h : Cel own G b t cs) (ds : List Value) : Cel own (G.put b ⟨ds, 1, false, 1⟩) b t ds := ⟨h.lt, h.tag, by simp⟩
end
structure CrB where
  m : Nat
  xb : Nat
  pb : Nat
  vb : Nat
  hb : Nat
  ob : Nat
  fv : Value
  dv : Value
  qv : Value
  cv : Value
  pv : Nat → Value
def crX (n : Nat) (x : CS) (B : CrB) : List Value := [.int .i64 0, .int .i64 1, .int .i64 2, .int .i64 n, P0 B.m, .slice (some ⟨B.pb, 0, none⟩) 2 2, .slice (some ⟨B.vb, 0, none⟩) 2 2, B.fv, B.dv, .bool x.next, B.qv, .slice (some ⟨B.hb, 0, none⟩) 2 2, .int .i64 0, .int .i64 0, B.cv, .slice (some ⟨B.ob, 0, none⟩) 3 3, .int .i64 x.clock, .int .i64 x.pushed]
structure CrG (own : Nat → Nat) (G : GS) (n : Nat) (x : CS) (B : CrB) : Prop where
  cx : Cel own G B.xb 1 (crX n x B)
  cp : Cel own G B.pb 2 [B.pv 0, B.pv 1]
  cw : Cel own G B.vb 14 [.int .i64 (x.v 0), .int .i64 (x.v 1)]
  ch : Cel own G B.hb 15 [.int .i64 (x.e 0), .int .i64 (x.e 1)]
  co : Cel own G B.ob 16 [.int .i64 (x.o 0), .int .i64 (x.o 1), .int .i64 (x.o 2)]
  hm : PMx (Tag own G 10) G B.m x.s
  so : x.s.ok
  hq : OwR (rowsI .i64) 0 G B.qv x.q
  tq : ∀ g, InB B.qv g → own g = 3
  hc : OwR rSp 0 G B.cv x.calls
  tc : ∀ g, InB B.cv g → own g = 4
  p : ∀ c, c < 2 → 0 ≤ x.o c → ∃ b, B.pv c = P0 b ∧ b < G.nx ∧ own b = 5 + c ∧ PuR G b (x.p c) ∧ (x.p c).ok
  f : (x.next = true ∨ 0 ≤ x.o 2) → ∃ b, B.fv = P0 b ∧ b < G.nx ∧ own b = 7 ∧ PfR G b x.f ∧ x.f.ok
  d : x.dd = true → ∃ b, B.dv = P0 b ∧ b < G.nx ∧ own b = 8 ∧ PdR G b x.d ∧ x.d.ok
  ones : (∀ c, one (B.pv c) = true) ∧ one B.fv = true ∧ one B.dv = true
def crT : List Nat := [1, 2, 3, 4, 5, 6, 7, 8, 10, 14, 15, 16]
section
variable {own own' own1 : Nat → Nat} {G G' G1 : GS} {b t n c : Nat} {ts : List Nat} {cs : List Value} {x y : CS} {B B' : CrB} {α : Type} {e : RowE α} {v : Value} {L : List α}
theorem OwR.to {lo : Nat} (h : OwR e lo G v L) (ht : ∀ g, InB v g → own g = t) (m : ModT ts own G G') (hn : t ∉ ts) : OwR e lo G' v L :=
  h.kept m.nx fun g hg => m.same (h.is.under g hg) (by rw [ht g hg]; exact hn)
theorem CrG.to (h : CrG own G n x B) (m : ModT ts own G G') (a : Agr own own' G) (ht : ∀ t ∈ ts, t ∉ crT) : CrG own' G' n x B := by
  have no : ∀ {t}, t ∈ crT → t ∉ ts := fun h1 h2 => ht _ h2 h1
  have nx := m.nx
  refine ⟨h.cx.to m (no (by decide)) a, h.cp.to m (no (by decide)) a, h.cw.to m (no (by decide)) a, h.ch.to m (no (by decide)) a, h.co.to m (no (by decide)) a, (sepP _ _).tag h.hm m (no (by decide)) a, h.so, OwR.to h.hq h.tq m (no (by decide)), fun g hg => (a g (h.hq.is.under g hg)).trans (h.tq g hg), OwR.to h.hc h.tc m (no (by decide)), fun g hg => (a g (h.hc.is.under g hg)).trans (h.tc g hg), fun c hc ho => ?_, fun hf => ?_, fun hn => ?_, h.ones⟩
  · obtain ⟨b, h1, h2, h3, h4, h5⟩ := h.p c hc ho
    have : 5 + c ∈ crT := by rcases (show c = 0 ∨ c = 1 by omega) with rfl | rfl <;> decide
    exact ⟨b, h1, by omega, (a b h2).trans h3, h4.kept (m.same h2 (by rw [h3]; exact no this)), h5⟩
  · obtain ⟨b, h1, h2, h3, h4, h5⟩ := h.f hf
    exact ⟨b, h1, by omega, (a b h2).trans h3, h4.kept (m.same h2 (by rw [h3]; exact no (by decide))), h5⟩
  · obtain ⟨b, h1, h2, h3, h4, h5⟩ := h.d hn
    exact ⟨b, h1, by omega, (a b h2).trans h3, h4.kept (m.same h2 (by rw [h3]; exact no (by decide))), h5⟩
theorem CrG.ext (h : CrG own G n x B) (e : Ext G G') : CrG (grown own G 13) G' n x B := h.to (ts := []) (ModT.ext e) grown_agr (by simp)
/-- what a crew's function comes to -/
def CrPost (own : Nat → Nat) (G : GS) (n : Nat) (B : CrB) (y : CS) (r : Value) (q : Value × GS) : Prop := q.1 = r ∧ ∃ own' B', B'.xb = B.xb ∧ Agr own own' G ∧ ModT crT own G q.2 ∧ CrG own' q.2 n y B'
theorem CrPost.pre {r : Value} {q : Value × GS} (h : CrPost own1 G1 n B y r q) (a : Agr own own1 G) (m : ModT crT own G G1) (hB : B.xb = B'.xb) : CrPost own G n B' y r q := by
  obtain ⟨h1, own', B'', h2, h3, h4, h5⟩ := h
  exact ⟨h1, own', B'', h2.trans hB, a.trans h3 m.nx, m.trans a h4, h5⟩
theorem CrPost.preE {r : Value} {q : Value × GS} (h : CrPost (grown own G 13) G1 n B y r q) (e : Ext G G1) (hB : B.xb = B'.xb) : CrPost own G n B' y r q := h.pre grown_agr (ModT.ext e) hB
theorem busy_ok (orc : FuncId → Bool) (h : CrG own G n x B) (hc : c < 3) : (E orc).cl 72 [P0 B.xb, .int .i64 c] G = some (.bool (decide (0 ≤ x.o c)), G) := by
  refine f72 (exL_ok Q orc) _ _ G _ ?_
  rcases (show c = 0 ∨ c = 1 ∨ c = 2 by omega) with rfl | rfl | rfl <;> simp [s72, h.cx.obj, crX, h.co.obj]
theorem slot_ok (orc : FuncId → Bool) (h : CrG own G n x B) : ∃ G', (E orc).cl 205 [P0 B.xb] G = some (.bool (slotI x.s), G') ∧ Ext G G' := by
  obtain ⟨bb, rest, hm⟩ := h.hm
  have x0 := (Ext.refl G).room 13
  obtain ⟨G1, e1, x1⟩ := last_ok orc (hm.ext x0)
  have y1 := x0.trans x1
  have o1 := (y1.obj _ h.cx.lt).trans h.cx.obj
  refine ⟨G1, f205 (exL_ok Q orc) _ G _ ?_, y1⟩
  simp [s205, h.cx.obj, crX, e1, o1, slotI]
end
end Go.Proofs.YtlaojmcekeohnaaGreatDoor.Lift

set_option linter.unusedVariables false
set_option linter.unusedSimpArgs false
set_option maxRecDepth 20000
namespace Go.Proofs.YtlaojmcekeohnaaGreatDoor.Lift
open Go Go.Proofs.YtlaojmcekeohnaaGreatDoor.Gh Go.Proofs
section
variable {own own' own1 : Nat → Nat} {G G' G1 : GS} {b t n c : Nat} {ts : List Nat} {cs : List Value} {x y : CS} {B B' : CrB} {v : Value}
theorem modify_set (L : List Sp) (k : Nat) (f : Sp → Sp) (h : k < L.length) : L.modify k f = L.set k (f L[k]) := by
  apply List.ext_getElem?
  intro i
  by_cases e : i = k
  · subst e; simp [h]
  · have e' : ¬ k = i := fun h => e h.symm
    simp [List.getElem?_modify, List.getElem?_set, e, e']
theorem Cel.ne {t t' b' : Nat} (h : Cel own G b t cs) (k : own b' = t') (hn : t ≠ t') : ¬ b = b' := fun e => hn (by rw [← h.tag, ← k, e])
theorem ends_in (orc : FuncId → Bool) (h : CrG own G n x B) (hc : c < 3) {k : Nat} (ho : x.o c = (k : Int)) (hk : k < x.calls.length) (hclk : 0 ≤ x.clock ∧ x.clock ≤ 1000000) (a : Int × Int × Int) :
    Wp ((E orc).cl 207 [P0 B.xb, .int .i64 c, .agg ⟨[.int .i64 a.1, .int .i64 a.2.1, .int .u64 a.2.2]⟩] G) (fun q => q.1 = .tuple #[] ∧ ∃ own', Agr own own' G ∧ ModT [1, 4, 16] own G q.2 ∧ CrG own' q.2 n (x.ends c a) B) := by
  refine Wp.ref (f207 (exL_ok Q orc) _ _ _ G) ?_
  rcases h.hc.2 with ⟨_, h0⟩ | ⟨cb, op, hcv, _, hcb, hco⟩
  · omega
  have tcb : own cb = 4 := h.tc cb ⟨_, _, _, hcv, rfl⟩
  have hlt := h.cx.lt
  have olt := h.co.lt
  have n1 : ¬ B.xb = cb := h.cx.ne tcb (by decide)
  have n1' : ¬ cb = B.xb := fun e => n1 e.symm
  have n2 : ¬ B.ob = cb := h.co.ne tcb (by decide)
  have n3 : ¬ B.xb = B.ob := h.cx.ne h.co.tag (by decide)
  have n3' : ¬ B.ob = B.xb := fun e => n3 e.symm
  have n4 : ¬ B.xb = G.nx := by omega
  have n5 : ¬ B.ob = G.nx := by omega
  have n6 : ¬ cb = G.nx := by omega
  have n7 : ¬ G.nx = B.xb := by omega
  have n8 : ¬ G.nx = cb := by omega
  have hw : IntKind.wrap .i64 (x.clock + 1) = x.clock + 1 := wrap64 (by omega) (by omega)
  have hfl := rSp.flat_length x.calls
  simp only [rSp_sz] at hfl hco
  generalize hL : x.calls = L at *
  obtain ⟨a0, ha0⟩ : ∃ a0, L[k] = a0 := ⟨_, rfl⟩
  have hlen : (x.ends c a).calls = (L.set k { a0 with to := x.clock + 1 }).set k { a0 with to := x.clock + 1, an := a } := by
    simp only [CS.ends, hL, ho, Int.toNat_natCast]
    rw [modify_set _ _ _ hk, ha0]
    simp
  have s1 : (rSp.flat L).set (k * 10 + 2) (.int .i64 (x.clock + 1)) = rSp.flat (L.set k { a0 with to := x.clock + 1 }) := by
    rw [set_overw _ _ _ (by omega)]
    exact RowE.flat_part rSp L hk _ (f := 2) (by rw [ha0]; rfl) (by simp)
  have s2 : overw (rSp.flat (L.set k { a0 with to := x.clock + 1 })) (k * 10 + 7) [.int .i64 a.1, .int .i64 a.2.1, .int .u64 a.2.2] = rSp.flat (x.ends c a).calls := by
    rw [hlen]
    exact RowE.flat_part rSp _ (by simpa using hk) _ (f := 7) (by simp) (by simp)
  have l1 : k * 10 + 2 < (rSp.flat L).length := by omega
  have l2 : k * 10 + 7 + 3 ≤ (rSp.flat (L.set k { a0 with to := x.clock + 1 })).length := by
    rw [rSp.flat_length]; simp; omega
  have hk0 : (0 : Int) ≤ k := by omega
  have hk1 : (k : Int) < L.length := by omega
  have hxo : ∀ j, x.o j = (k : Int) → True := fun _ _ => trivial
  obtain ⟨cv1, hcv1⟩ : ∃ cs : List Value, cs = [.int .i64 (upN x.o c (-1) 0), .int .i64 (upN x.o c (-1) 1), .int .i64 (upN x.o c (-1) 2)] := ⟨_, rfl⟩
  have fin : (fun q : Value × GS => q.1 = Value.tuple #[] ∧ ∃ own', Agr own own' G ∧ ModT [1, 4, 16] own G q.2 ∧ CrG own' q.2 n (x.ends c a) B) (Value.tuple #[], ((((G.push ⟨[.int .i64 a.1, .int .i64 a.2.1, .int .u64 a.2.2], 1, false, 1⟩).put B.xb ⟨crX n (x.ends c a) B, 1, false, 1⟩).room 18).put cb ⟨rSp.flat (L.set k { a0 with to := x.clock + 1 }), 10, op, 1⟩ |>.room 15 |>.put cb ⟨rSp.flat (x.ends c a).calls, 10, op, 1⟩).put B.ob ⟨cv1, 1, false, 1⟩) := by
    generalize hG' : GS.put _ B.ob _ = G'
    have m : ModT [1, 4, 16] own G G' := by
      rw [← hG']
      refine ModT.put (ModT.put (ModP.room (ModT.put (ModP.room (ModT.put (ModP.push (ModT.refl _ _ _) _) (.inl ?_) _) _) (.inl ?_) _) _) (.inl ?_) _) (.inl ?_) _
      · rw [h.cx.tag]; decide
      · rw [tcb]; decide
      · rw [tcb]; decide
      · rw [h.co.tag]; decide
    have ag : Agr own (grown own G 13) G := grown_agr
    have nx' := m.nx
    have ox : G'.obj B.xb = some ⟨crX n (x.ends c a) B, 1, false, 1⟩ := by rw [← hG']; simp [n1, n3]
    have oo : G'.obj B.ob = some ⟨cv1, 1, false, 1⟩ := by rw [← hG']; simp
    have oc : G'.obj cb = some ⟨rSp.flat (x.ends c a).calls, 10, op, 1⟩ := by rw [← hG']; simp [show ¬ cb = B.ob from fun e => n2 e.symm]
    have hlc : (x.ends c a).calls.length = L.length := by rw [hlen]; simp
    have htc : ∀ g, InB B.cv g → g = cb := by
      rintro g ⟨a', n', c', h1, rfl⟩
      rw [hcv] at h1; cases h1; rfl
    refine ⟨rfl, grown own G 13, ag, m, ⟨⟨Nat.lt_of_lt_of_le hlt nx', (ag _ hlt).trans h.cx.tag, ox⟩, h.cp.to m (by decide) ag, h.cw.to m (by decide) ag, h.ch.to m (by decide) ag, ⟨Nat.lt_of_lt_of_le olt nx', (ag _ olt).trans h.co.tag, by rw [oo, hcv1]; rfl⟩, (sepP _ _).tag h.hm m (by decide) ag, h.so, OwR.to h.hq h.tq m (by decide), fun g hg => (ag g (h.hq.is.under g hg)).trans (h.tq g hg), ⟨by rw [rSp.flat_length], .inr ⟨cb, op, by rw [hcv, hlc], Nat.zero_le _, Nat.lt_of_lt_of_le hcb nx', oc⟩⟩, fun g hg => by rw [htc g hg, ag cb hcb, tcb], fun j hj hoj => ?_, fun hf => ?_, fun hn => ?_, h.ones⟩⟩
    · have hjc : 0 ≤ x.o j := by
        by_cases e : j = c
        · subst e; omega
        · simpa [CS.ends, upN_ne _ _ e] using hoj
      obtain ⟨b, h1, h2, h3, h4, h5⟩ := h.p j hj hjc
      have : own b ∉ [1, 4, 16] := by rw [h3]; rcases (show j = 0 ∨ j = 1 by omega) with rfl | rfl <;> decide
      exact ⟨b, h1, Nat.lt_of_lt_of_le h2 nx', (ag b h2).trans h3, h4.kept (m.same h2 this), h5⟩
    · have hf' : x.next = true ∨ 0 ≤ x.o 2 := by
        rcases hf with hf | hf
        · exact .inl hf
        · by_cases e : 2 = c
          · subst e; exact .inr (by omega)
          · exact .inr (by simpa [CS.ends, upN_ne _ _ e] using hf)
      obtain ⟨b, h1, h2, h3, h4, h5⟩ := h.f hf'
      exact ⟨b, h1, Nat.lt_of_lt_of_le h2 nx', (ag b h2).trans h3, h4.kept (m.same h2 (by rw [h3]; decide)), h5⟩
    · obtain ⟨b, h1, h2, h3, h4, h5⟩ := h.d hn
      exact ⟨b, h1, Nat.lt_of_lt_of_le h2 nx', (ag b h2).trans h3, h4.kept (m.same h2 (by rw [h3]; decide)), h5⟩
  have hox := h.cx.obj
  have hoo := h.co.obj
  have hone := h.ones
  have ex : crX n (x.ends c a) B = [.int .i64 0, .int .i64 1, .int .i64 2, .int .i64 n, P0 B.m, .slice (some ⟨B.pb, 0, none⟩) 2 2, .slice (some ⟨B.vb, 0, none⟩) 2 2, B.fv, B.dv, .bool x.next, B.qv, .slice (some ⟨B.hb, 0, none⟩) 2 2, .int .i64 0, .int .i64 0, B.cv, .slice (some ⟨B.ob, 0, none⟩) 3 3, .int .i64 (x.clock + 1), .int .i64 x.pushed] := rfl
  rcases (show c = 0 ∨ c = 1 ∨ c = 2 by omega) with rfl | rfl | rfl
  all_goals
    simp [upN] at hcv1
    rw [hcv1, ex] at fin
    simp [-overw_s, s207, hox, hoo, crX, hw, hcv, hco, ho, n1, n1', n2, n3, n3', n4, n5, n6, n7, n8, hk, hk0, hk1, l1, l2, s1, s2]
    simp [hcv] at fin
    exact fin
end
end Go.Proofs.YtlaojmcekeohnaaGreatDoor.Lift

set_option linter.unusedVariables false
set_option linter.unusedSimpArgs false
set_option maxRecDepth 20000
namespace Go.Proofs.YtlaojmcekeohnaaGreatDoor.Lift
open Go Go.Proofs.YtlaojmcekeohnaaGreatDoor.Gh Go.Proofs
section
variable {own own' own1 : Nat → Nat} {G G' G1 : GS} {b t n c : Nat} {ts : List Nat} {cs : List Value} {x y : CS} {B B' : CrB} {v : Value}
/-- what a crew needs for a step of one of its cores -/
structure Fit3 (n : Nat) (x : CS) (c : Nat) : Prop where
  o : ∃ k : Nat, x.o c = (k : Int) ∧ k < x.calls.length
  clk : 0 ≤ x.clock ∧ x.clock ≤ 1000000
  q : x.q.length ≤ 1000
  n6 : n ≤ 6
theorem err_at (orc : FuncId → Bool) (h : CrG own G n x B) (hc : c < 2) (ho : 0 ≤ x.o c) : ∃ b, B.pv c = P0 b ∧ (E orc).cl 64 [P0 b] G = some (.int .i64 (x.p c).err, G) := by
  obtain ⟨b, h1, h2, h3, h4, h5⟩ := h.p c hc ho
  exact ⟨b, h1, pusherr_ok orc h4⟩
/-- behind what is heard -/
theorem push_J0 (orc : FuncId → Bool) (h : CrG own G n x B) (hc : c < 2) (hf : Fit3 n x c) (τ : Env) (t0 : τ 0 = P0 B.xb) (t1 : τ 1 = .int .i64 c) :
    Wp (j151_0 true (exL Q orc) τ G) (CrPost own G n B (x.ends c ((x.p c).err, 0, 0)) (.bool (decide ((x.p c).err = x.e c)))) := by
  obtain ⟨k, ho, hk⟩ := hf.o
  obtain ⟨b, e1, e2⟩ := err_at orc h hc (by omega)
  obtain ⟨⟨r, G'⟩, e3, rfl, own', ag, m, h'⟩ := ends_in orc h (by omega : c < 3) ho hk hf.clk ((x.p c).err, 0, 0)
  simp only at m h'
  have hee : (x.ends c ((x.p c).err, 0, 0)).e = x.e := rfl
  have cx' := h'.cx.obj
  have ch' := h'.ch.obj
  have fin : CrPost own G n B (x.ends c ((x.p c).err, 0, 0)) (.bool (decide ((x.p c).err = x.e c))) (.bool (decide ((x.p c).err = x.e c)), G') := ⟨rfl, own', B, rfl, ag, m.mono (by decide), h'⟩
  rcases (show c = 0 ∨ c = 1 by omega) with rfl | rfl
  all_goals
    simp [j151_0, jb151_0, t0, t1, h.cx.obj, crX, h.cp.obj, e1, e2]
    simp at e3
    simp [e3, cx', ch', crX, hee]
    simpa using fin
/-- what a step comes to, where the queue is told of -/
def CS.rest (n : Nat) (x : CS) (c : Nat) : CS × Bool :=
  if (x.p c).over = false then (x, decide ((x.p c).err = 14)) else ((x.pushed3 n c).ends c (((x.pushed3 n c).p c).err, 0, 0), decide (((x.pushed3 n c).p c).err = (x.pushed3 n c).e c))
theorem Fit3.pushed3 (h : Fit3 n x c) : Fit3 n (x.pushed3 n c) c := by
  unfold CS.pushed3
  split
  · exact ⟨h.o, h.clk, h.q, h.n6⟩
  · exact h
/-- a core's word of what it heard -/
theorem CrG.heard (h : CrG own G n x B) (c : Nat) (hc : c < 2) (z : Int) : CrG own (G.put B.hb ⟨[.int .i64 (upN x.e c z 0), .int .i64 (upN x.e c z 1)], 1, false, 1⟩) n { x with e := upN x.e c z } B := by
  have m : ModT [15] own G (G.put B.hb ⟨[.int .i64 (upN x.e c z 0), .int .i64 (upN x.e c z 1)], 1, false, 1⟩) := (ModT.refl _ _ _).put (.inl (by rw [h.ch.tag]; decide)) _
  have ag := Agr.refl own G
  refine ⟨h.cx.to m (by decide) ag, h.cp.to m (by decide) ag, h.cw.to m (by decide) ag, h.ch.put _, h.co.to m (by decide) ag, (sepP _ _).tag h.hm m (by decide) ag, h.so, OwR.to h.hq h.tq m (by decide), h.tq, OwR.to h.hc h.tc m (by decide), h.tc, fun c hc ho => ?_, fun hf => ?_, fun hn => ?_, h.ones⟩
  · obtain ⟨b, h1, h2, h3, h4, h5⟩ := h.p c hc ho
    have : own b ∉ [15] := by rw [h3]; rcases (show c = 0 ∨ c = 1 by omega) with rfl | rfl <;> decide
    exact ⟨b, h1, h2, h3, h4.kept (m.same h2 this), h5⟩
  · obtain ⟨b, h1, h2, h3, h4, h5⟩ := h.f hf
    exact ⟨b, h1, h2, h3, h4.kept (m.same h2 (by rw [h3]; decide)), h5⟩
  · obtain ⟨b, h1, h2, h3, h4, h5⟩ := h.d hn
    exact ⟨b, h1, h2, h3, h4.kept (m.same h2 (by rw [h3]; decide)), h5⟩
theorem push_J1 (orc : FuncId → Bool) (h : CrG own G n x B) (hc : c < 2) (hf : Fit3 n x c) {ab : Nat} (hab : ab < G.nx) (oa : G.obj ab = some ⟨accV x.s, 1, false, 1⟩) (τ : Env) (t0 : τ 0 = P0 B.xb) (t1 : τ 1 = .int .i64 c) (t5 : τ 5 = .bool (x.p c).over) (t6 : τ 6 = P0 ab) :
    Wp (j151_1 true (exL Q orc) τ G) (CrPost own G n B (x.rest n c).1 (.bool (x.rest n c).2)) := by
  obtain ⟨k, ho, hk⟩ := hf.o
  obtain ⟨b, e1, e2⟩ := err_at orc h hc (by omega)
  cases hov : (x.p c).over with
  | false =>
    have hr : x.rest n c = (x, decide ((x.p c).err = 14)) := by unfold CS.rest; rw [if_pos hov]
    rw [hr]
    have fin : CrPost own G n B x (.bool (decide ((x.p c).err = 14))) (.bool (decide ((x.p c).err = 14)), G) := ⟨rfl, own, B, rfl, Agr.refl _ _, ModT.refl _ _ _, h⟩
    rw [hov] at t5
    rcases (show c = 0 ∨ c = 1 by omega) with rfl | rfl
    all_goals
      simp [j151_1, jb151_1, t0, t1, t5, t6, h.cx.obj, crX, h.cp.obj, e1, e2]
      simpa using fin
  | true =>
    rw [hov] at t5
    have hr : x.rest n c = ((x.pushed3 n c).ends c (((x.pushed3 n c).p c).err, 0, 0), decide (((x.pushed3 n c).p c).err = (x.pushed3 n c).e c)) := by unfold CS.rest; rw [if_neg (by rw [hov]; simp)]
    rw [hr]
    have x1 := (Ext.refl G).room 30
    have h1 := h.ext x1
    obtain ⟨G2, e3, x2⟩ := slot_ok orc h1
    have y2 := x1.trans x2
    have h2 := h.ext y2
    have cx2 := h2.cx.obj
    have ch2 := h2.ch.obj
    have oa1 := (x1.obj ab hab).trans oa
    obtain ⟨qa, qc, hq⟩ := h2.hq.is.len
    have lq : ∀ t, ln Q true t B.qv = some (.int .i64 x.q.length) := fun t => by rw [hq]; simp
    -- with or without a word of what was heard
    have no : ∀ (τ' : Env) (G3 : GS), Ext G G3 → τ' 0 = P0 B.xb → τ' 1 = .int .i64 c → x.pushed3 n c = x → Wp (j151_0 true (exL Q orc) τ' G3) (CrPost own G n B ((x.pushed3 n c).ends c (((x.pushed3 n c).p c).err, 0, 0)) (.bool (decide (((x.pushed3 n c).p c).err = (x.pushed3 n c).e c)))) := by
      intro τ' G3 y3 s0 s1 hx
      rw [hx]
      exact (push_J0 orc (h.ext y3) hc hf τ' s0 s1).mono fun q hq => hq.preE y3 rfl
    have yes : ∀ (τ' : Env), τ' 0 = P0 B.xb → τ' 1 = .int .i64 c → x.pushed3 n c = { x with e := upN x.e c 7 } → Wp (j151_0 true (exL Q orc) τ' (G2.put B.hb ⟨[.int .i64 (upN x.e c 7 0), .int .i64 (upN x.e c 7 1)], 1, false, 1⟩)) (CrPost own G n B ((x.pushed3 n c).ends c (((x.pushed3 n c).p c).err, 0, 0)) (.bool (decide (((x.pushed3 n c).p c).err = (x.pushed3 n c).e c)))) := by
      intro τ' s0 s1 hx
      have h3 := h2.heard c hc 7
      have hf' := hf.pushed3
      rw [hx] at hf' ⊢
      refine (push_J0 orc h3 hc hf' τ' s0 s1).mono fun q hq => hq.pre grown_agr ?_ rfl
      exact ((ModT.ext y2).put (.inl (by rw [h.ch.tag]; decide)) _)
    simp only [obj_room] at oa1
    by_cases k1 : x.s.kind = 1
    · by_cases k2 : slotI x.s = true
      · rw [k2] at e3
        by_cases k3 : x.q.length = n
        · by_cases k4 : x.e c = 0
          · have hx : x.pushed3 n c = x := by unfold CS.pushed3; rw [if_neg (fun h => h.2.2.2 k4)]
            rcases (show c = 0 ∨ c = 1 by omega) with rfl | rfl
            all_goals
              simp [j151_1, jb151_1, t0, t1, t5, t6, oa1, k1, e3, cx2, ch2, crX, lq, k3, k4]
              exact no _ G2 y2 (by simp [clip_t, t0]) (by simp [clip_t, t1]) hx
          · have hx : x.pushed3 n c = { x with e := upN x.e c 7 } := by unfold CS.pushed3; rw [if_pos ⟨k1, k2, k3, k4⟩]
            rcases (show c = 0 ∨ c = 1 by omega) with rfl | rfl
            all_goals
              simp [j151_1, jb151_1, t0, t1, t5, t6, oa1, k1, e3, cx2, ch2, crX, lq, k3, k4]
              have := yes (clip 139 (tu (clip 139 τ) [])) 
              exact yes _ (by simp [clip_t, t0]) (by simp [clip_t, t1]) hx
        · have hx : x.pushed3 n c = x := by unfold CS.pushed3; rw [if_neg (fun h => k3 h.2.2.1)]
          have k3' : ¬ (x.q.length : Int) = (n : Int) := by omega
          simp [j151_1, jb151_1, t0, t1, t5, t6, oa1, k1, e3, cx2, ch2, crX, lq, k3, k3']
          exact no _ G2 y2 (by simp [clip_t, t0]) (by simp [clip_t, t1]) hx
      · rw [Bool.not_eq_true] at k2
        rw [k2] at e3
        have hx : x.pushed3 n c = x := by unfold CS.pushed3; rw [if_neg (fun h => by rw [k2] at h; cases h.2.1)]
        simp [j151_1, jb151_1, t0, t1, t5, t6, oa1, k1, e3]
        exact no _ G2 y2 (by simp [clip_t, t0]) (by simp [clip_t, t1]) hx
    · have hx : x.pushed3 n c = x := by unfold CS.pushed3; rw [if_neg (fun h => k1 h.1)]
      simp [j151_1, jb151_1, t0, t1, t5, t6, oa1, k1]
      exact no _ _ x1 (by simp [clip_t, t0]) (by simp [clip_t, t1]) hx
end
end Go.Proofs.YtlaojmcekeohnaaGreatDoor.Lift

set_option linter.unusedVariables false
set_option linter.unusedSimpArgs false
set_option maxRecDepth 20000
namespace Go.Proofs.YtlaojmcekeohnaaGreatDoor.Lift
open Go Go.Proofs.YtlaojmcekeohnaaGreatDoor.Gh Go.Proofs
section
variable {own own' own1 : Nat → Nat} {G G' G1 : GS} {b t n c : Nat} {ts : List Nat} {cs : List Value} {x y : CS} {B B' : CrB} {v : Value}
theorem thr_tag {P : (Nat → Prop) → GS → Prop} {t : Nat} (h : Thr P (Tag own G t) b G G') (hb : own b = c) : ModT [t, c] own G G' :=
  ⟨h.mod.nx, fun g hg hn => h.mod.obj g hg fun k => hn (k.elim (fun k => by rw [k.2]; simp) fun k => by rw [k, hb]; simp), h.mod.nl, h.mod.loop⟩
/-- a push's step in the heap: memory and operation -/
theorem CrG.stepped (h : CrG own G n x B) (hc : c < 2) (ho : 0 ≤ x.o c) {b : Nat} (hb : B.pv c = P0 b) (hbo : own b = 5 + c) (hpo : (x.p c).ok) (th : Thr (fun A G => PMx A G B.m ((x.p c).step x.s).2) (Tag own G 10) b G G') (hp : PuR G' b ((x.p c).step x.s).1) :
    CrG (grown own G 10) G' n (x.pushed1 c) B ∧ ModT [10, 5 + c] own G G' := by
  have m := thr_tag th hbo
  have ag : Agr own (grown own G 10) G := grown_agr
  have no : ∀ {t}, t ∉ [10, 5, 6] → t ∉ [10, 5 + c] := fun h1 h2 => h1 (by rcases (show c = 0 ∨ c = 1 by omega) with rfl | rfl <;> simp_all)
  have nx := m.nx
  refine ⟨⟨h.cx.to m (no (by decide)) ag, h.cp.to m (no (by decide)) ag, h.cw.to m (no (by decide)) ag, h.ch.to m (no (by decide)) ag, h.co.to m (no (by decide)) ag, (sepP _ _).step m.nx th.st, (hpo.step h.so).2, OwR.to h.hq h.tq m (no (by decide)), fun g hg => (ag g (h.hq.is.under g hg)).trans (h.tq g hg), OwR.to h.hc h.tc m (no (by decide)), fun g hg => (ag g (h.hc.is.under g hg)).trans (h.tc g hg), fun j hj hoj => ?_, fun hf => ?_, fun hn => ?_, h.ones⟩, m⟩
  · obtain ⟨b', h1, h2, h3, h4, h5⟩ := h.p j hj hoj
    by_cases e : j = c
    · subst e
      rw [hb] at h1
      obtain rfl : b = b' := by simpa [P0] using h1
      exact ⟨b, hb, Nat.lt_of_lt_of_le h2 nx, (ag b h2).trans h3, by simpa [CS.pushed1, upN_same] using hp, by simpa [CS.pushed1, upN_same] using (h5.step h.so).1⟩
    · have : own b' ∉ [10, 5 + c] := by rw [h3]; simp; omega
      refine ⟨b', h1, Nat.lt_of_lt_of_le h2 nx, (ag b' h2).trans h3, ?_, ?_⟩
      · simp only [CS.pushed1, upN_ne _ _ e]
        exact h4.kept (m.same h2 this)
      · simpa only [CS.pushed1, upN_ne _ _ e] using h5
  · obtain ⟨b', h1, h2, h3, h4, h5⟩ := h.f hf
    exact ⟨b', h1, Nat.lt_of_lt_of_le h2 nx, (ag b' h2).trans h3, h4.kept (m.same h2 (by rw [h3]; exact no (by decide))), h5⟩
  · obtain ⟨b', h1, h2, h3, h4, h5⟩ := h.d hn
    exact ⟨b', h1, Nat.lt_of_lt_of_le h2 nx, (ag b' h2).trans h3, h4.kept (m.same h2 (by rw [h3]; exact no (by decide))), h5⟩
/-- a new queue -/
theorem CrG.queued (h : CrG own G n x B) (e : Ext G G') {v : Value} {q' : List Int} (hq : OwR (rowsI .i64) G.nx G' v q') :
    CrG (grown own G 3) (G'.put B.xb ⟨crX n { x with q := q' } { B with qv := v }, 1, false, 1⟩) n { x with q := q' } { B with qv := v } ∧ ModT [1] own G (G'.put B.xb ⟨crX n { x with q := q' } { B with qv := v }, 1, false, 1⟩) := by
  have m : ModT [1] own G (G'.put B.xb ⟨crX n { x with q := q' } { B with qv := v }, 1, false, 1⟩) := ModT.put (ModT.ext e) (.inl (by rw [h.cx.tag]; decide)) _
  have ag : Agr own (grown own G 3) G := grown_agr
  have nx := m.nx
  have hqn : ∀ g, InB v g → ¬ g = B.xb := fun g hg => by have := hq.from hg; have := h.cx.lt; omega
  refine ⟨⟨⟨Nat.lt_of_lt_of_le h.cx.lt nx, (ag _ h.cx.lt).trans h.cx.tag, by simp⟩, h.cp.to m (by decide) ag, h.cw.to m (by decide) ag, h.ch.to m (by decide) ag, h.co.to m (by decide) ag, (sepP _ _).tag h.hm m (by decide) ag, h.so, (hq.kept (by simp) fun g hg => by rw [obj_put, if_neg (hqn g hg)]).mono (Nat.zero_le _), fun g hg => grown_new (hq.from hg), OwR.to h.hc h.tc m (by decide), fun g hg => (ag g (h.hc.is.under g hg)).trans (h.tc g hg), fun c hc ho => ?_, fun hf => ?_, fun hn => ?_, h.ones⟩, m⟩
  · obtain ⟨b, h1, h2, h3, h4, h5⟩ := h.p c hc ho
    have : own b ∉ [1] := by rw [h3]; rcases (show c = 0 ∨ c = 1 by omega) with rfl | rfl <;> decide
    exact ⟨b, h1, Nat.lt_of_lt_of_le h2 nx, (ag b h2).trans h3, h4.kept (m.same h2 this), h5⟩
  · obtain ⟨b, h1, h2, h3, h4, h5⟩ := h.f hf
    exact ⟨b, h1, Nat.lt_of_lt_of_le h2 nx, (ag b h2).trans h3, h4.kept (m.same h2 (by rw [h3]; decide)), h5⟩
  · obtain ⟨b, h1, h2, h3, h4, h5⟩ := h.d hn
    exact ⟨b, h1, Nat.lt_of_lt_of_le h2 nx, (ag b h2).trans h3, h4.kept (m.same h2 (by rw [h3]; decide)), h5⟩
theorem copyi_ok (orc : FuncId → Bool) {A : List Int} {v0 : Value} {G : GS} (hA : SlR (rowsI .i64) G v0 A) (hlt : A.length < 2 ^ 36) :
    ∃ v' G', (E orc).cl 206 [v0] G = some (v', G') ∧ Ext G G' ∧ OwR (rowsI .i64) G.nx G' v' A := by
  obtain ⟨v', G', h1, h2, h3⟩ := OwR.app (A := G) (ib := 8) (OwR.made (rowsI .i64) G) (by decide) ((Ext.refl G).push _) (hA.ext ((Ext.refl G).push _)) (by simp; omega)
  refine ⟨v', G', f206 (exL_ok Q orc) _ G _ ?_, h2, by simpa using h3⟩
  simp only [rowsI_sz, rowsI_row] at h1
  simp [s206, rep, fillS, fillC, h1]
theorem ext_drawn {A G : GS} (h : Ext A G) {n : Nat} (hn : A.nx ≤ n) (o : GObj) : Ext A (((G.at' n).push o).back G) := ((h.modP fun _ => False).drawn hn o).ext
set_option maxHeartbeats 2000000 in
theorem pushes_in (orc : FuncId → Bool) (h : CrG own G n x B) (hc : c < 2) (hf : Fit3 n x c) :
    Wp ((E orc).cl 151 [P0 B.xb, .int .i64 c] G) (CrPost own G n B (x.pushes n c).1 (.bool (x.pushes n c).2)) := by
  refine Wp.ref (f151 (exL_ok Q orc) _ _ G) ?_
  obtain ⟨k, ho, hk⟩ := hf.o
  obtain ⟨b, b1, b2, b3, b4, b5⟩ := h.p c hc (by omega)
  have x0 := (Ext.refl G).room 13
  have h0 := h.ext x0
  have ag0 : Agr own (grown own G 13) G := grown_agr
  have cx0 := h0.cx.obj
  have cp0 := h0.cp.obj
  have b3' : grown own G 13 b = 5 + c := (ag0 b b2).trans b3
  obtain ⟨⟨r, G8⟩, e8, rfl, th, hp8⟩ := push_ok orc h0.hm h0.so b5 (fun k => by have := k.2; omega) (Nat.lt_of_lt_of_le b2 x0.nx) (b4.kept (x0.obj b b2))
  simp only at th hp8
  obtain ⟨h8, m8⟩ := h0.stepped hc (by omega) b1 b3' b5 th hp8
  have cx8 := h8.cx.obj
  -- the last access
  obtain ⟨bb, rest, hm8⟩ := h8.hm
  obtain ⟨G14, e14, x14⟩ := last_ok orc hm8
  obtain ⟨G17, hG17⟩ : ∃ G17, G17 = (G14.push ⟨z225, 1, false, 1⟩).put G14.nx ⟨accV (x.pushed1 c).s, 1, false, 1⟩ := ⟨_, rfl⟩
  have x17 : Ext G8 G17 := by rw [hG17]; exact (x14.push _).put x14.nx _
  have oa : G17.obj G14.nx = some ⟨accV (x.pushed1 c).s, 1, false, 1⟩ := by rw [hG17]; simp
  have na : G14.nx < G17.nx := by rw [hG17]; simp
  have h17 := h8.ext x17
  obtain ⟨G20, e20, x20⟩ := slot_ok orc h17
  -- behind: what was before
  have ag8 : Agr own (grown (grown own G 13) (G.room 13) 10) G := ag0.trans grown_agr x0.nx
  have mod8 : ModT crT own G G8 := (ModT.ext x0).trans ag0 (m8.mono (by intro t ht; rcases (show c = 0 ∨ c = 1 by omega) with rfl | rfl <;> revert t <;> decide))
  have hf1 : Fit3 n (x.pushed1 c) c := ⟨hf.o, hf.clk, hf.q, hf.n6⟩
  have hres : ∀ y : CS, (¬ (((x.pushed1 c).s.kind = 3 ∧ (x.pushed1 c).s.held = true ∧ slotI (x.pushed1 c).s = true) ∧ n ≤ (x.pushed1 c).q.length)) → (x.pushed1 c).pushed2 c = y → x.pushes n c = y.rest n c := by
    intro y h1 h2
    unfold CS.pushes CS.rest
    simp only
    rw [if_neg h1, h2]
  -- nothing was laid
  have no : ∀ (τ : Env) (G3 : GS), Ext G8 G3 → G14.nx < G3.nx → G3.obj G14.nx = some ⟨accV (x.pushed1 c).s, 1, false, 1⟩ → τ 0 = P0 B.xb → τ 1 = .int .i64 c → τ 5 = .bool ((x.p c).step x.s).1.over → τ 6 = P0 G14.nx → ¬ ((x.pushed1 c).s.kind = 3 ∧ (x.pushed1 c).s.held = true ∧ slotI (x.pushed1 c).s = true) →
      Wp (j151_1 true (exL Q orc) τ G3) (CrPost own G n B (x.pushes n c).1 (.bool (x.pushes n c).2)) := by
    intro τ G3 y3 hn o3 s0 s1 s5 s6 hl
    rw [hres (x.pushed1 c) (fun h => hl h.1) (by unfold CS.pushed2; rw [if_neg hl])]
    refine (push_J1 orc (h8.ext y3) hc hf1 hn o3 τ s0 s1 (by rw [s5]; simp [CS.pushed1, upN_same]) s6).mono fun q hq => hq.pre (ag8.trans grown_agr mod8.nx) (mod8.trans ag8 (ModT.ext y3)) rfl
  have j0 : ∀ {a : Value}, B.pv c = a → B.pv c = a := fun h => h
  have hfull : ((x.pushed1 c).s.kind = 3 ∧ (x.pushed1 c).s.held = true ∧ slotI (x.pushed1 c).s = true) → n ≤ x.q.length → x.pushes n c = (x.pushed1 c, false) := by
    intro h1 h2
    unfold CS.pushes
    simp only
    rw [if_pos ⟨h1, h2⟩]
  have hov : (x.pushed1 c).p c = ((x.p c).step x.s).1 := by simp [CS.pushed1, upN_same]
  have hq1 : (x.pushed1 c).q = x.q := rfl
  have hv1 : (x.pushed1 c).v = x.v := rfl
  have he1 : (x.pushed1 c).e = x.e := rfl
  generalize hX1 : x.pushed1 c = x1 at *
  by_cases k1 : x1.s.kind = 3
  · by_cases k2 : x1.s.held = true
    · by_cases k3 : slotI x1.s = true
      · rw [k3] at e20
        have y20 := x17.trans x20
        have h20 := (h8.ext y20)
        have r29 := ((Ext.refl G20).room 11)
        have cx20 := h20.cx.obj
        obtain ⟨qa, qc, hq⟩ := h20.hq.is.len
        have lq : ∀ t, ln Q true t B.qv = some (.int .i64 x1.q.length) := fun t => by rw [hq]; simp
        by_cases k4 : n ≤ x.q.length
        · rw [hfull ⟨k1, k2, k3⟩ k4]
          have k4' : (n : Int) ≤ x1.q.length := by rw [hq1]; omega
          have k4'' : n ≤ x1.q.length := by rw [hq1]; omega
          have fin : CrPost own G n B x1 (.bool false) (.bool false, G20.room 11) := ⟨rfl, _, B, rfl, ag8.trans (grown_agr (G := G8)) mod8.nx, mod8.trans ag8 (ModT.ext (y20.room 11)), h8.ext (y20.room 11)⟩
          rcases (show c = 0 ∨ c = 1 by omega) with rfl | rfl
          all_goals
            simp [s151, sb151, cx0, crX, cp0, b1]
            simp [e8, cx8, crX, e14, ← hG17, oa, k1, k2]
            simp [e20, cx20, crX, lq, k4', k4'']
            simpa using fin
        · have k4' : ¬ (n : Int) ≤ x1.q.length := by rw [hq1]; omega
          have k4'' : ¬ n ≤ x1.q.length := by rw [hq1]; omega
          -- the queue is copied, and laid behind
          have x101 := ((Ext.refl G20).room 11).room 18
          obtain ⟨u, G101, e101, y101, w101⟩ := copyi_ok orc (h20.hq.is.ext x101) (by rw [hq1]; have := hf.q; omega)
          have z101 := x101.trans y101
          have h101 := h20.to (ts := []) (ModT.ext z101) (grown_agr (t := 13)) (by simp)
          have cx101 := h101.cx.obj
          have cw101 := h101.cw.obj
          have cw20 := h20.cw.obj
          have n101 := y101.nx
          simp at n101
          obtain ⟨G109, hG109⟩ : ∃ G109, G109 = ((G101.at' (G20.nx + 24)).push ⟨[.int .i64 (x1.v c)], 1, false, 1⟩).back G101 := ⟨_, rfl⟩
          have sl : SlR (rowsI .i64) G109 (.slice (some ⟨G20.nx + 24, 0, none⟩) 1 1) [x1.v c] := by rw [hG109]; exact SlR.oneD (rowsI .i64) G101 (x1.v c) (n := G20.nx + 24) (by omega)
          have y109 : Ext G20 G109 := by rw [hG109]; exact ext_drawn z101 (by omega) _
          have n109 : G109.nx = G101.nx := by rw [hG109]; rfl
          have w109 : OwR (rowsI .i64) G20.nx G109 u x1.q := (w101.kept (by omega) fun g hg => by
            have := w101.from hg
            simp at this
            rw [hG109]
            simp
            omega).mono (by simp; omega)
          obtain ⟨v', G110, e110, x110, w110⟩ := w109.app (A := G20) (ib := 8) (by decide) y109 sl (by rw [hq1]; have := hf.q; simp; omega)
          simp only [rowsI_sz] at e110
          rw [hG109] at e110
          obtain ⟨h114, m114⟩ := h20.queued x110 w110
          have h119 := h114.heard c hc 0
          have n110 := x110.nx
          have n20 := x20.nx
          have lx8 := h8.cx.lt
          have lh8 := h8.ch.lt
          have n14 := x14.nx
          have d1 : ¬ G14.nx = B.xb := by omega
          have d2 : ¬ G14.nx = B.hb := by omega
          have d3 : ¬ B.xb = B.hb := h8.cx.ne h8.ch.tag (by decide)
          have d4 : ¬ B.hb = B.xb := fun e => d3 e.symm
          have oa119 : ((G110.put B.xb ⟨crX n { x1 with q := x1.q ++ [x1.v c] } { B with qv := v' }, 1, false, 1⟩).put B.hb ⟨[.int .i64 (upN x1.e c 0 0), .int .i64 (upN x1.e c 0 1)], 1, false, 1⟩).obj G14.nx = some ⟨accV x1.s, 1, false, 1⟩ := by
            rw [obj_put, if_neg d2, obj_put, if_neg d1, x110.obj _ (Nat.lt_of_lt_of_le na x20.nx), x20.obj _ na]
            exact oa
          have hp2 : x1.pushed2 c = { x1 with q := x1.q ++ [x1.v c], e := upN x1.e c 0 } := by unfold CS.pushed2; rw [if_pos ⟨k1, k2, k3⟩]
          have hlast : ∀ τ : Env, τ 0 = P0 B.xb → τ 1 = .int .i64 c → τ 5 = .bool ((x.p c).step x.s).1.over → τ 6 = P0 G14.nx →
              Wp (j151_1 true (exL Q orc) τ ((G110.put B.xb ⟨crX n { x1 with q := x1.q ++ [x1.v c] } { B with qv := v' }, 1, false, 1⟩).put B.hb ⟨[.int .i64 (upN x1.e c 0 0), .int .i64 (upN x1.e c 0 1)], 1, false, 1⟩)) (CrPost own G n B (x.pushes n c).1 (.bool (x.pushes n c).2)) := by
            intro τ s0 s1 s5 s6
            rw [hres _ (fun h => k4'' h.2) hp2]
            have hf2 : Fit3 n { x1 with q := x1.q ++ [x1.v c], e := upN x1.e c 0 } c := ⟨hf1.o, hf1.clk, by have := hf.n6; simp; rw [hq1] at k4'' ⊢; omega, hf1.n6⟩
            refine (push_J1 orc h119 hc hf2 (by simp; omega) oa119 τ s0 s1 (by rw [s5, ← hov]) s6).mono fun q hq => ?_
            refine hq.pre ((ag8.trans (grown_agr (t := 13)) mod8.nx).trans grown_agr (Nat.le_trans mod8.nx y20.nx)) ?_ rfl
            refine ModT.put ((mod8.trans ag8 (ModT.ext y20)).trans (ag8.trans grown_agr mod8.nx) (m114.mono (by decide))) (.inl ?_) _
            rw [h.ch.tag]; decide
          have one' := own_one w110
          have cx110 := (x110.obj _ h20.cx.lt).trans cx20
          have ch20 := h20.ch.obj
          have ch110 := (x110.obj _ h20.ch.lt).trans ch20
          have vs : v' = v' := rfl
          rcases (show c = 0 ∨ c = 1 by omega) with rfl | rfl
          all_goals
            simp [upN, crX] at hlast
            simp [s151, sb151, cx0, crX, cp0, b1]
            simp [e8, cx8, crX, e14, ← hG17, oa, k1, k2]
            simp [e20, cx20, crX, lq, k4', k4'', e101, cx101, cw101, cw20, e110, cx110, stO_one _ _ one', d3, d4, ch110]
            refine hlast _ ?_ ?_ ?_ ?_ <;> simp [clip_t]
      · rw [Bool.not_eq_true] at k3
        rw [k3] at e20
        have o20 := (x20.obj _ na).trans oa
        have := fun (τ : Env) s0 s1 s5 s6 => no τ G20 (x17.trans x20) (Nat.lt_of_lt_of_le na x20.nx) o20 s0 s1 s5 s6 (fun h => by rw [k3] at h; cases h.2.2)
        rcases (show c = 0 ∨ c = 1 by omega) with rfl | rfl
        all_goals
          simp [s151, sb151, cx0, crX, cp0, b1]
          simp [e8, cx8, crX, e14, ← hG17, oa, k1, k2]
          simp [e20]
          exact this _ (by simp [clip_t]) (by simp [clip_t]) (by simp [clip_t]) (by simp [clip_t])
    · have := fun (τ : Env) s0 s1 s5 s6 => no τ G17 x17 na oa s0 s1 s5 s6 (fun h => k2 h.2.1)
      rcases (show c = 0 ∨ c = 1 by omega) with rfl | rfl
      all_goals
        simp [s151, sb151, cx0, crX, cp0, b1]
        simp [e8, cx8, crX, e14, ← hG17, oa, k1, k2]
        exact this _ (by simp [clip_t]) (by simp [clip_t]) (by simp [clip_t]) (by simp [clip_t])
  · have := fun (τ : Env) s0 s1 s5 s6 => no τ G17 x17 na oa s0 s1 s5 s6 (fun h => k1 h.1)
    rcases (show c = 0 ∨ c = 1 by omega) with rfl | rfl
    all_goals
      simp [s151, sb151, cx0, crX, cp0, b1]
      simp [e8, cx8, crX, e14, ← hG17, oa, k1]
      exact this _ (by simp [clip_t]) (by simp [clip_t]) (by simp [clip_t]) (by simp [clip_t])
end
end Go.Proofs.YtlaojmcekeohnaaGreatDoor.Lift

