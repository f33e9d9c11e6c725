/- contracts of the program's functions -/
import Derived.Test.YtlaojmcekeohnaaGreatDoorQF
import Derived.Test.YtlaojmcekeohnaaGreatDoorGhEQ
import Derived.Test.YtlaojmcekeohnaaGreatDoorQH
import Derived.Test.YtlaojmcekeohnaaGreatDoorGhPG
set_option linter.unusedVariables false
set_option linter.unusedSimpArgs false
set_option maxRecDepth 20000
namespace Go.Proofs.YtlaojmcekeohnaaGreatDoor.Lift
open Go Go.Proofs.YtlaojmcekeohnaaGreatDoor.Gh Go.Proofs
/-! ### A ring that holds a queue -/
structure RingC (cs : List Value) (L : List Int) (fr : Nat) : Prop where
  len : cs.length = 1026
  fr_lt : fr < 1024
  le : L.length ≤ 1024
  fr_at : cs[1024]? = some (.int .i64 fr)
  n_at : cs[1025]? = some (.int .i64 L.length)
  item : ∀ i, i < 1024 → ∃ n, cs[i]? = some (.int .u64 n)
  at_ : ∀ i (h : i < L.length), cs[(fr + i) % 1024]? = some (.int .u64 L[i])
def RingV (v : Value) (L : List Int) : Prop := ∃ cs fr, v = .agg ⟨cs⟩ ∧ RingC cs L fr
theorem RingC.ones {cs : List Value} {L : List Int} {fr : Nat} (h : RingC cs L fr) : cs.all one = true := by
  rw [List.all_eq_true]
  intro x hx
  obtain ⟨i, hi⟩ := List.getElem?_of_mem hx
  have hlt : i < 1026 := by rw [← h.len]; exact (List.getElem?_eq_some_iff.1 hi).1
  by_cases h1 : i < 1024
  · obtain ⟨n, hn⟩ := h.item i h1
    rw [hi] at hn; cases hn; rfl
  by_cases h2 : i = 1024
  · subst h2; rw [h.fr_at] at hi; cases hi; rfl
  · have : i = 1025 := by omega
    subst this; rw [h.n_at] at hi; cases hi; rfl
theorem ring_front (orc : FuncId → Bool) {v : Value} {x : Int} {L : List Int} (h : RingV v (x :: L)) (G : GS) : Wp ((E orc).cl 189 [v] G) fun r => r.1 = .int .u64 x ∧ Ext G r.2 := by
  obtain ⟨cs, fr, rfl, h⟩ := h
  have h0 := h.at_ 0 (by simp)
  have hf := h.fr_lt
  rw [Nat.add_zero, Nat.mod_eq_of_lt hf] at h0
  have hf' : (fr : Int) < 1024 := by omega
  have hf0 : (0 : Int) ≤ fr := by omega
  have hfr := h.fr_at
  simp only [List.getElem_cons_zero] at h0
  refine Wp.ref (f189 (exL_ok Q orc) _ G) ?_
  simp [s189, mBox, Value.cells, hfr, hf', hf0, h0]
  exact (Ext.refl G).push _
theorem RingC.put {cs : List Value} {L : List Int} {fr : Nat} (h : RingC cs L fr) (hl : L.length < 1024) (w : Int) :
    RingC ((cs.set ((fr + L.length) % 1024) (.int .u64 w)).set 1025 (.int .i64 (L.length + 1 : Nat))) (L ++ [w]) fr := by
  have hm : (fr + L.length) % 1024 < 1024 := Nat.mod_lt _ (by omega)
  have hlen := h.len
  refine ⟨by simp [hlen], h.fr_lt, by simp; omega, ?_, ?_, ?_, ?_⟩
  · rw [List.getElem?_set_ne (by omega), List.getElem?_set_ne (by omega)]; exact h.fr_at
  · rw [List.getElem?_set_self (by simp; omega)]; simp
  · intro i hi
    rw [List.getElem?_set_ne (by omega)]
    by_cases he : (fr + L.length) % 1024 = i
    · subst he; exact ⟨w, by rw [List.getElem?_set_self (by omega)]⟩
    · rw [List.getElem?_set_ne he]; exact h.item i hi
  · intro i hi
    have hfr := h.fr_lt
    simp only [List.length_append, List.length_singleton] at hi
    rw [List.getElem?_set_ne (by omega)]
    by_cases he : i = L.length
    · subst he
      rw [List.getElem?_set_self (by omega)]; simp
    · have hi' : i < L.length := by omega
      rw [List.getElem?_set_ne (by omega), h.at_ i hi', List.getElem_append_left hi']
theorem RingC.pop {cs : List Value} {x : Int} {L : List Int} {fr : Nat} (h : RingC cs (x :: L) fr) :
    RingC ((cs.set 1024 (.int .i64 ((fr + 1) % 1024 : Nat))).set 1025 (.int .i64 (L.length : Nat))) L ((fr + 1) % 1024) := by
  have hm : (fr + 1) % 1024 < 1024 := Nat.mod_lt _ (by omega)
  have hlen := h.len
  have hle := h.le
  simp only [List.length_cons] at hle
  refine ⟨by simp [hlen], hm, by omega, ?_, ?_, ?_, ?_⟩
  · rw [List.getElem?_set_ne (by omega), List.getElem?_set_self (by omega)]
  · rw [List.getElem?_set_self (by simp; omega)]
  · intro i hi
    rw [List.getElem?_set_ne (by omega), List.getElem?_set_ne (by omega)]
    exact h.item i hi
  · intro i hi
    have := h.at_ (i + 1) (by simpa using hi)
    have e : ((fr + 1) % 1024 + i) % 1024 = (fr + (i + 1)) % 1024 := by omega
    rw [List.getElem?_set_ne (by omega), List.getElem?_set_ne (by omega), e, this]
    simp
end Go.Proofs.YtlaojmcekeohnaaGreatDoor.Lift

set_option linter.unusedVariables false
set_option linter.unusedSimpArgs false
set_option maxRecDepth 20000
namespace Go.Proofs.YtlaojmcekeohnaaGreatDoor.Lift
open Go Go.Proofs.YtlaojmcekeohnaaGreatDoor.Gh Go.Proofs
theorem ringZ_length : z202.length = 1026 := by
  unfold z202
  rw [List.length_append, zs_eq, List.length_replicate]; rfl
theorem ringZ_get (i : Nat) (h : i < 1024) : z202[i]? = some (.int .u64 0) := by
  unfold z202
  rw [zs_eq, List.getElem?_append_left (by rw [List.length_replicate]; exact h), List.getElem?_replicate, if_pos h]
theorem ringZ_1024 : z202[1024]? = some (.int .i64 0) := by
  unfold z202
  rw [zs_eq, List.getElem?_append_right (by rw [List.length_replicate]; omega), List.length_replicate]; rfl
theorem stR {cs ds : List Value} {n e : Nat} {op : Bool} (h : cs.length = n) (hd : ds.length = n) (ho : ds.all one = true) : stO n 0 (.agg ⟨ds⟩) (some ⟨cs, e, op, 1⟩) = some ⟨ds, e, op, 1⟩ := by
  rw [stO_agg, if_pos ⟨hd, ho, by omega⟩]
  simp only [overw, List.take_zero, List.nil_append, Nat.zero_add]
  rw [List.drop_of_length_le (by omega), List.append_nil]
theorem ring_push (orc : FuncId → Bool) {v : Value} {L : List Int} (h : RingV v L) (hl : L.length < 1024) (w : Int) (G : GS) : Wp ((E orc).cl 188 [v, .int .u64 w] G) fun r => RingV r.1 (L ++ [w]) ∧ Ext G r.2 := by
  obtain ⟨cs, fr, rfl, h⟩ := h
  have hf := h.fr_lt
  have hm : (fr + L.length) % 1024 < 1024 := Nat.mod_lt _ (by omega)
  have hw1 : IntKind.wrap .i64 ((fr : Int) + L.length) = ((fr + L.length : Nat) : Int) := wrap64 (by omega) (by omega)
  have hw2 : IntKind.wrap .i64 ((L.length : Int) + 1) = ((L.length + 1 : Nat) : Int) := wrap64 (by omega) (by omega)
  have ht : (((fr + L.length : Nat) : Int)).tmod 1024 = (((fr + L.length) % 1024 : Nat) : Int) := by
    rw [Int.tmod_eq_emod_of_nonneg (by omega)]; omega
  have hc := h.put hl w
  have hlen := h.len
  have hn := h.n_at
  have hfr := h.fr_at
  have ho := hc.ones
  have hlen2 := hc.len
  generalize hj : (fr + L.length) % 1024 = j at *
  have hj' : (j : Int) < 1024 := by omega
  have hj0 : (0 : Int) ≤ j := by omega
  have s1 : stO 1 j (.int .u64 w) (some ⟨cs, 1, false, 1⟩) = some ⟨cs.set j (.int .u64 w), 1, false, 1⟩ := by rw [stO_int, if_pos (by omega)]
  have s2 : stO 1 1025 (.int .i64 (L.length + 1 : Nat)) (some ⟨cs.set j (.int .u64 w), 1, false, 1⟩) = some ⟨(cs.set j (.int .u64 w)).set 1025 (.int .i64 (L.length + 1 : Nat)), 1, false, 1⟩ := by rw [stO_int, if_pos (by simp; omega)]
  have n2 : (cs.set j (.int .u64 w))[1025]? = some (.int .i64 L.length) := by rw [List.getElem?_set_ne (by omega)]; exact hn
  generalize hds : ((cs.set j (.int .u64 w)).set 1025 (.int .i64 (L.length + 1 : Nat))) = ds at *
  have s3 : stO 1026 0 (.agg ⟨ds⟩) (some ⟨z202, 1, false, 1⟩) = some ⟨ds, 1, false, 1⟩ := stR ringZ_length hlen2 ho
  have ld : loadO 1026 0 (some ⟨ds, 1, false, 1⟩) = some (.agg ⟨ds⟩) := loadO_whole hlen2 (by decide)
  refine Wp.ref (f188 (exL_ok Q orc) _ _ G) ?_
  simp [-Int.natCast_add, -stO_int, s188, mBox, Value.cells, hfr, hn, hw1, ht, hj', hj0, s1, s2, n2, hw2, s3, ld]
  refine ⟨⟨ds, fr, rfl, hc⟩, ?_⟩
  (repeat (first | with_reducible exact Ext.refl _ | with_reducible assumption | with_reducible apply Ext.room | with_reducible apply Ext.push | with_reducible refine Ext.put ?_ ?_ _ | omega | (simp; done) | (simp; omega)))
theorem ring_drop (orc : FuncId → Bool) {v : Value} {x : Int} {L : List Int} (h : RingV v (x :: L)) (G : GS) : Wp ((E orc).cl 191 [v] G) fun r => RingV r.1 L ∧ Ext G r.2 := by
  obtain ⟨cs, fr, rfl, h⟩ := h
  have hf := h.fr_lt
  have hle := h.le
  simp only [List.length_cons] at hle
  have hw1 : IntKind.wrap .i64 ((fr : Int) + 1) = ((fr + 1 : Nat) : Int) := wrap64 (by omega) (by omega)
  have hw2 : IntKind.wrap .i64 (((x :: L).length : Int) - 1) = (L.length : Int) := by
    rw [show ((x :: L).length : Int) - 1 = (L.length : Int) by simp]
    exact wrap64 (by omega) (by omega)
  have ht : (((fr + 1 : Nat) : Int)).tmod 1024 = (((fr + 1) % 1024 : Nat) : Int) := by
    rw [Int.tmod_eq_emod_of_nonneg (by omega)]; omega
  have hm : (fr + 1) % 1024 < 1024 := Nat.mod_lt _ (by omega)
  have hc := h.pop
  have hlen := h.len
  have hn := h.n_at
  have hfr := h.fr_at
  have ho := hc.ones
  have hlen2 := hc.len
  generalize hj : (fr + 1) % 1024 = j at *
  generalize hN : (x :: L).length = N at *
  have s1 : stO 1 1024 (.int .i64 j) (some ⟨cs, 1, false, 1⟩) = some ⟨cs.set 1024 (.int .i64 j), 1, false, 1⟩ := by rw [stO_int, if_pos (by omega)]
  have s2 : stO 1 1025 (.int .i64 L.length) (some ⟨cs.set 1024 (.int .i64 j), 1, false, 1⟩) = some ⟨(cs.set 1024 (.int .i64 j)).set 1025 (.int .i64 L.length), 1, false, 1⟩ := by rw [stO_int, if_pos (by simp; omega)]
  have n2 : (cs.set 1024 (.int .i64 j))[1025]? = some (.int .i64 N) := by rw [List.getElem?_set_ne (by omega)]; exact hn
  generalize hds : ((cs.set 1024 (.int .i64 j)).set 1025 (.int .i64 L.length)) = ds at *
  have s3 : stO 1026 0 (.agg ⟨ds⟩) (some ⟨z202, 1, false, 1⟩) = some ⟨ds, 1, false, 1⟩ := stR ringZ_length hlen2 ho
  have ld : loadO 1026 0 (some ⟨ds, 1, false, 1⟩) = some (.agg ⟨ds⟩) := loadO_whole hlen2 (by decide)
  refine Wp.ref (f191 (exL_ok Q orc) _ G) ?_
  simp [-Int.natCast_add, -stO_int, s191, mBox, Value.cells, hfr, hn, hw1, ht, s1, s2, n2, hw2, s3, ld]
  refine ⟨⟨ds, j, rfl, hc⟩, ?_⟩
  (repeat (first | with_reducible exact Ext.refl _ | with_reducible assumption | with_reducible apply Ext.room | with_reducible apply Ext.push | with_reducible refine Ext.put ?_ ?_ _ | omega | (simp; done) | (simp; omega)))
end Go.Proofs.YtlaojmcekeohnaaGreatDoor.Lift

set_option linter.unusedVariables false
set_option linter.unusedSimpArgs false
set_option maxRecDepth 20000
namespace Go.Proofs.YtlaojmcekeohnaaGreatDoor.Lift
open Go Go.Proofs.YtlaojmcekeohnaaGreatDoor.Gh Go.Proofs
/-! ### What the calls that does hands back do -/
theorem same_ring (orc : FuncId → Bool) {G : GS} {b : Nat} {cs : List Value} {L : List Int} {fr : Nat} (h : RingC cs L fr) (hb : G.obj b = some ⟨cs, 1, false, 1⟩) (hn : b < G.nx) : Wp ((E orc).cl 186 [Pp b] G) fun r => RingV r.1 L ∧ Ext G r.2 := by
  have ne : ¬ b = G.nx := by omega
  have hlen := h.len
  have ho := h.ones
  have s3 : stO 1026 0 (.agg ⟨cs⟩) (some ⟨z202, 1, false, 1⟩) = some ⟨cs, 1, false, 1⟩ := stR ringZ_length hlen ho
  have ld : loadO 1026 0 (some ⟨cs, 1, false, 1⟩) = some (.agg ⟨cs⟩) := loadO_whole hlen (by decide)
  refine Wp.ref (f186 (exL_ok Q orc) _ G) ?_
  simp [s186, ne, hb, s3, ld]
  refine ⟨⟨cs, fr, rfl, h⟩, ?_⟩
  exact ((Ext.refl G).push _).put (Nat.le_refl _) _
theorem pushed_ring (orc : FuncId → Bool) {G : GS} {b d : Nat} {cs : List Value} {L : List Int} {fr : Nat} {k1 a1 b1 w : Int} (h : RingC cs L fr) (hb : G.obj b = some ⟨cs, 1, false, 1⟩) (hn : b < G.nx) (hd : G.obj d = some ⟨[.int .i64 k1, .int .i64 a1, .int .i64 b1, .int .u64 w], 1, false, 1⟩) (hdn : d < G.nx) (hl : L.length < 1024) :
    Wp ((E orc).cl 187 [Pp b, Pp d] G) fun r => RingV r.1 (L ++ [w]) ∧ Ext G r.2 := by
  have ne : ¬ b = G.nx := by omega
  have ne' : ¬ d = G.nx := by omega
  have hlen := h.len
  have ld : loadO 1026 0 (some ⟨cs, 1, false, 1⟩) = some (.agg ⟨cs⟩) := loadO_whole hlen (by decide)
  obtain ⟨⟨v', G'⟩, e1, ⟨ds, fr', rfl, h1⟩, h2⟩ := ring_push orc (v := .agg ⟨cs⟩) ⟨cs, fr, rfl, h⟩ hl w (G.push ⟨z202, 1, false, 1⟩)
  simp only at e1 h2
  have hg : G'.obj G.nx = some ⟨z202, 1, false, 1⟩ := by rw [h2.obj _ (by simp)]; simp
  have hl1 := h1.len
  have ho1 := h1.ones
  have s3 : stO 1026 0 (.agg ⟨ds⟩) (some ⟨z202, 1, false, 1⟩) = some ⟨ds, 1, false, 1⟩ := stR ringZ_length hl1 ho1
  have ld2 : loadO 1026 0 (some ⟨ds, 1, false, 1⟩) = some (.agg ⟨ds⟩) := loadO_whole hl1 (by decide)
  refine Wp.ref (f187 (exL_ok Q orc) _ _ G) ?_
  simp [s187, ne, ne', hb, hd, ld, e1, hg, s3, ld2]
  refine ⟨⟨ds, fr', rfl, h1⟩, ?_⟩
  exact Ext.put (((Ext.refl G).push _).trans h2) (Nat.le_refl _) _
theorem dropped_ring (orc : FuncId → Bool) {G : GS} {b : Nat} {cs : List Value} {x : Int} {L : List Int} {fr : Nat} (h : RingC cs (x :: L) fr) (hb : G.obj b = some ⟨cs, 1, false, 1⟩) (hn : b < G.nx) :
    Wp ((E orc).cl 190 [Pp b] G) fun r => RingV r.1 L ∧ Ext G r.2 := by
  have ne : ¬ b = G.nx := by omega
  have hlen := h.len
  have ld : loadO 1026 0 (some ⟨cs, 1, false, 1⟩) = some (.agg ⟨cs⟩) := loadO_whole hlen (by decide)
  obtain ⟨⟨v', G'⟩, e1, ⟨ds, fr', rfl, h1⟩, h2⟩ := ring_drop orc (v := .agg ⟨cs⟩) ⟨cs, fr, rfl, h⟩ (G.push ⟨z202, 1, false, 1⟩)
  simp only at e1 h2
  have hg : G'.obj G.nx = some ⟨z202, 1, false, 1⟩ := by rw [h2.obj _ (by simp)]; simp
  have hl1 := h1.len
  have ho1 := h1.ones
  have s3 : stO 1026 0 (.agg ⟨ds⟩) (some ⟨z202, 1, false, 1⟩) = some ⟨ds, 1, false, 1⟩ := stR ringZ_length hl1 ho1
  have ld2 : loadO 1026 0 (some ⟨ds, 1, false, 1⟩) = some (.agg ⟨ds⟩) := loadO_whole hl1 (by decide)
  refine Wp.ref (f190 (exL_ok Q orc) _ G) ?_
  simp [s190, ne, hb, ld, e1, hg, s3, ld2]
  refine ⟨⟨ds, fr', rfl, h1⟩, ?_⟩
  exact Ext.put (((Ext.refl G).push _).trans h2) (Nat.le_refl _) _
def rU : RowE Int := rowsI .u64
@[simp] theorem rU_sz : rU.sz = 1 := rfl
@[simp] theorem rU_row (x : Int) : rU.row x = [.int .u64 x] := rfl
/-! ### A ring's list -/
theorem list_lp (orc : FuncId → Bool) (A : GS) (x : Nat) (hx : x < A.nx) {cs : List Value} {L : List Int} {fr : Nat} (hr : RingC cs L fr) (hb : A.obj x = some ⟨cs, 1, false, 1⟩) : ∀ (k i : Nat) (v : Value) (τ : Env) (G : GS), i + k = L.length → τ 1 = Pp x → τ 3 = v → τ 6 = .int .i64 L.length → τ 7 = .int .i64 (i : Int) →
    Ext A G → OwR rU A.nx G v (L.take i) →
    Wp ((exL Q orc).lpx 125 0 τ G) fun r => r.1 = .exit 0 ∧ Ext A r.2.2 ∧ OwR rU A.nx r.2.2 (r.2.1 3) L := by
  have hle := hr.le
  have hfl := hr.fr_lt
  have hfr := hr.fr_at
  intro k
  induction k with
  | zero =>
    intro i v τ G hi h1 h3 h6 h7 hA ho
    have hi' : i = L.length := by omega
    subst hi'
    rw [List.take_length] at ho
    refine Wp.lp (l125_0 (exL_ok Q orc)) ?_
    simp [b125_0, clip_t, h1, h3, h6, h7, hA]
    exact ho
  | succ k ih =>
    intro i v τ G hi h1 h3 h6 h7 hA ho
    have hlt : i < L.length := by omega
    have hw : IntKind.wrap .i64 ((i : Int) + 1) = ((i + 1 : Nat) : Int) := wrap64 (by omega) (by omega)
    have hw1 : IntKind.wrap .i64 ((fr : Int) + i) = ((fr + i : Nat) : Int) := wrap64 (by omega) (by omega)
    have ht : (((fr + i : Nat) : Int)).tmod 1024 = (((fr + i) % 1024 : Nat) : Int) := by
      rw [Int.tmod_eq_emod_of_nonneg (by omega)]; omega
    have hm : (fr + i) % 1024 < 1024 := Nat.mod_lt _ (by omega)
    have hat := hr.at_ i hlt
    have hob : G.obj x = some ⟨cs, 1, false, 1⟩ := (hA.obj x hx).trans hb
    generalize hj : (fr + i) % 1024 = j at *
    have hj' : (j : Int) < 1024 := by omega
    have hj0 : (0 : Int) ≤ j := by omega
    have h1' : (i : Int) < L.length := by omega
    have xp : Ext A (G.push ⟨[.int .u64 L[i]], 1, false, 1⟩) := hA.push _
    obtain ⟨v', G', ha, hE, hO⟩ := OwR.app (ib := 8) (ho.ext ((Ext.refl G).push ⟨[.int .u64 L[i]], 1, false, 1⟩)) (by decide) xp (SlR.one rU G L[i]) (by simp; omega)
    rw [rU_sz] at ha
    rw [List.take_append_getElem hlt] at hO
    refine Wp.lp (l125_0 (exL_ok Q orc)) ?_
    simp [-Int.natCast_add, b125_0, clip_t, h1, h3, h6, h7, hlt, h1', hob, hfr, hw1, ht, hj', hj0, hat, ha, hw]
    exact ih (i + 1) v' _ G' (by omega) (by simp [clip_t]) (by simp [clip_t]) (by simp [clip_t]) (by simp [clip_t]) hE hO
theorem ring_list (orc : FuncId → Bool) {v : Value} {L : List Int} (h : RingV v L) (G : GS) :
    Wp ((E orc).cl 125 [v] G) fun r => Ext G r.2 ∧ OwR rU G.nx r.2 r.1 L := by
  obtain ⟨cs, fr, rfl, h⟩ := h
  have hn := h.n_at
  refine Wp.ref (f125 (exL_ok Q orc) _ G) ?_
  simp [s125, mBox, Value.cells, hn]
  refine Wp.bE ((list_lp orc (G.push ⟨cs, 1, false, 1⟩) G.nx (by simp) h (by simp) L.length 0 (.slice none 0 0) _ _ (by omega) (by simp) (by simp) (by simp) (by simp) (Ext.refl _) (OwR.nil _ _)).mono ?_)
  rintro ⟨ee, τ, G'⟩ ⟨h1, h2, h3⟩
  simp only at h1 h2 h3
  subst h1
  simp
  exact ⟨((Ext.refl G).push _).trans h2, h3.mono (by simp)⟩
end Go.Proofs.YtlaojmcekeohnaaGreatDoor.Lift

set_option linter.unusedVariables false
set_option linter.unusedSimpArgs false
set_option maxRecDepth 20000
namespace Go.Proofs.YtlaojmcekeohnaaGreatDoor.Lift
open Go Go.Proofs.YtlaojmcekeohnaaGreatDoor.Gh Go.Proofs
theorem queue_ok (orc : FuncId → Bool) {v : Value} {L : List Int} {G : GS} (hv : SlR rU G v L) (hl : L.length ≤ 1024) :
    Wp ((E orc).cl 124 [v] G) fun r => RingV r.1 L ∧ Ext G r.2 := by
  have hz := ringZ_length
  have e2 : Ext G ((G.push ⟨z202, 1, false, 1⟩).push ⟨z202, 1, false, 1⟩) := ((Ext.refl G).push _).push _
  have hel := elems_of (hv.ext e2).is
  rw [rU_sz] at hel
  obtain ⟨a, c, ha⟩ := hv.len
  have hflat : (rU.flat L).length = L.length := by have := rU.flat_length L; simpa using this
  have hat : ∀ i (h : i < L.length), (rU.flat L)[i]? = some (.int .u64 L[i]) := fun i h => by have := rU.flat_at L h (f := 0) (by decide); simpa using this
  have hc : RingC ((overw z202 0 (rU.flat L)).set 1025 (.int .i64 L.length)) L 0 := by
    have hlen : (overw z202 0 (rU.flat L)).length = 1026 := by simp only [overw, List.take_zero, List.nil_append, Nat.zero_add, List.length_append, List.length_drop, hflat, hz]; omega
    have hget : ∀ i, L.length ≤ i → (overw z202 0 (rU.flat L))[i]? = z202[i]? := by
      intro i hi
      simp only [overw, List.take_zero, List.nil_append, Nat.zero_add]
      rw [List.getElem?_append_right (by omega), List.getElem?_drop]
      congr 1
      omega
    have hget' : ∀ i (h : i < L.length), (overw z202 0 (rU.flat L))[i]? = some (.int .u64 L[i]) := by
      intro i hi
      simp only [overw, List.take_zero, List.nil_append, Nat.zero_add]
      rw [List.getElem?_append_left (by omega)]
      exact hat i hi
    refine ⟨by rw [List.length_set]; exact hlen, by omega, hl, ?_, ?_, ?_, ?_⟩
    · rw [List.getElem?_set_ne (by omega), hget _ hl]; exact ringZ_1024
    · rw [List.getElem?_set_self (by omega)]
    · intro i hi
      rw [List.getElem?_set_ne (by omega)]
      by_cases h : i < L.length
      · exact ⟨_, hget' i h⟩
      · exact ⟨0, by rw [hget i (by omega)]; exact ringZ_get i hi⟩
    · intro i hi
      rw [Nat.zero_add, Nat.mod_eq_of_lt (by omega), List.getElem?_set_ne (by omega)]
      exact hget' i hi
  have ho := hc.ones
  have hlen2 := hc.len
  have hmin : Nat.min L.length 1024 = L.length := Nat.min_eq_left hl
  obtain ⟨G2, hG2⟩ : ∃ G2, G2 = (G.push ⟨z202, 1, false, 1⟩).push ⟨z202, 1, false, 1⟩ := ⟨_, rfl⟩
  have z0 : G2.obj G.nx = some ⟨z202, 1, false, 1⟩ := by rw [hG2]; simp
  have z1 : G2.obj (G.nx + 1) = some ⟨z202, 1, false, 1⟩ := by rw [hG2]; simp
  rw [← hG2] at e2 hel
  have hcp : ∃ G3, cpK 1 (.slice (some ⟨G.nx + 1, 0, none⟩) 1024 1024) v G2 = some (.int .i64 L.length, G3) ∧ G3.obj (G.nx + 1) = some ⟨overw z202 0 (rU.flat L), 1, false, 1⟩ ∧ G3.obj G.nx = some ⟨z202, 1, false, 1⟩ ∧ Ext G G3 := by
    subst ha
    simp only [cpK, hmin, hel]
    by_cases h : L = []
    · subst h
      refine ⟨G2, by simp, ?_, z0, e2⟩
      rw [z1]
      simp [overw]
    · have hw : rU.flat L ≠ [] := fun e => h (List.eq_nil_of_length_eq_zero (by rw [← hflat, e]; rfl))
      refine ⟨G2.put (G.nx + 1) ⟨overw z202 0 (rU.flat L), 1, false, 1⟩, ?_, by simp, by simp [z0], e2.put (by omega) _⟩
      rw [if_neg hw, wrN_of z1 rfl (rU.flat_ones L) (by rw [hflat]; simp only; omega)]
      rfl
  obtain ⟨G3, hcp, q1, q2, q3⟩ := hcp
  generalize overw z202 0 (rU.flat L) = O at *
  have hlen3 : O.length = 1026 := by simpa using hlen2
  have s1 : stO 1 1025 (.int .i64 L.length) (some ⟨O, 1, false, 1⟩) = some ⟨O.set 1025 (.int .i64 L.length), 1, false, 1⟩ := by rw [stO_int, if_pos (by omega)]
  generalize (O.set 1025 (.int .i64 L.length)) = ds at *
  have s3 : stO 1026 0 (.agg ⟨ds⟩) (some ⟨z202, 1, false, 1⟩) = some ⟨ds, 1, false, 1⟩ := stR ringZ_length hlen2 ho
  have ld : loadO 1026 0 (some ⟨ds, 1, false, 1⟩) = some (.agg ⟨ds⟩) := loadO_whole hlen2 (by decide)
  refine Wp.ref (f124 (exL_ok Q orc) _ G) ?_
  simp [-stO_int, s124, slA, bound, ← hG2, hcp, q1, q2, s1, s3, ld]
  refine ⟨⟨ds, 0, rfl, hc⟩, ?_⟩
  exact (q3.put (by omega) _).put (Nat.le_refl _) _
def fchk (cap : Int) (n : Nat) : Int := if cap < 1 then 3 else if 1024 < cap then 3 else if cap < n then 7 else 0
theorem check_ok (orc : FuncId → Bool) {a : Option Addr} {n c : Nat} {cap : Int} (G : GS) : Wp ((E orc).cl 122 [.int .i64 cap, .slice a n c] G) fun r => r = (.int .i64 (fchk cap n), G) := by
  refine Wp.ref (f122 (exL_ok Q orc) _ _ G) ?_
  unfold fchk
  by_cases h1 : cap < 1
  · simp [s122, h1]
  by_cases h2 : 1024 < cap
  · simp [s122, h1, h2]
  by_cases h3 : cap < n <;> simp [s122, h1, h2, h3]
theorem fchk_zero {cap : Int} {n : Nat} : fchk cap n = 0 ↔ 1 ≤ cap ∧ cap ≤ 1024 ∧ (n : Int) ≤ cap := by
  unfold fchk
  by_cases h1 : cap < 1
  · rw [if_pos h1]; omega
  by_cases h2 : 1024 < cap
  · rw [if_neg h1, if_pos h2]; omega
  by_cases h3 : cap < n
  · rw [if_neg h1, if_neg h2, if_pos h3]; omega
  · rw [if_neg h1, if_neg h2, if_neg h3]; omega
/-! ### The place to which does jumps -/
noncomputable def gDoes (T : List Value) (G : GS) : Option (Exit × List Value × GS) :=
  bP (gBuild Q 27 [(0, (.int .i64 15))]) fun x0 =>
  bP (gStore Q 27 (nth undef T 6) x0 G) fun G1 =>
  some (.ret, [(nth undef T 0), (nth undef T 1), (nth undef T 2), (nth undef T 3), (nth undef T 4), (nth undef T 5), (nth undef T 6), (nth undef T 9), (.bool true), (nth undef T 9), (nth undef T 10), (nth undef T 11), (nth undef T 12), (nth undef T 13), (nth undef T 14), (nth undef T 15), (nth undef T 16), (nth undef T 17), (nth undef T 18), (nth undef T 19), (nth undef T 20), (nth undef T 21), (nth undef T 22), (nth undef T 23), (nth undef T 24), (nth undef T 25), (nth undef T 26), (nth undef T 27), (nth undef T 28), (nth undef T 29), (nth undef T 30), (nth undef T 31), (nth undef T 32), (nth undef T 33), (nth undef T 34), (nth undef T 35), (nth undef T 36), (nth undef T 37), (nth undef T 38), (nth undef T 39), (nth undef T 40), (nth undef T 41), (nth undef T 42), x0, (nth undef T 9)], G1)
theorem jDoes (orc : FuncId → Bool) (T : List Value) (G : GS) (hT : T.length = 45) {r : Exit × List Value × GS} (h : gDoes T G = some r) : (E orc).sc (subAt [1, 0] (bodyOf Tryz.f123)) (labelAt 0 (subAt [1, 0] (bodyOf Tryz.f123))) T G = some r :=
  sc_sxE Q orc G hT (by kernel_rfl) h
end Go.Proofs.YtlaojmcekeohnaaGreatDoor.Lift

set_option linter.unusedVariables false
set_option linter.unusedSimpArgs false
set_option maxRecDepth 20000
namespace Go.Proofs.YtlaojmcekeohnaaGreatDoor.Lift
open Go Go.Proofs.YtlaojmcekeohnaaGreatDoor.Gh Go.Proofs
/-- the blocks from a number on are as they were -/
structure Mid (lo : Nat) (A B : GS) : Prop where
  nx : A.nx ≤ B.nx
  obj : ∀ g, g < A.nx → lo ≤ g → B.obj g = A.obj g
/-- what the code answers, and what the queue is then -/
def dCode (cap : Int) (L : List Int) (k : Int) : Int := if k = 1 then (if cap ≤ L.length then 7 else 0) else if k = 2 ∨ k = 3 then (if L = [] then 15 else 0) else 0
def dWord (L : List Int) (k : Int) : Int := if k = 2 then L.headD 0 else 0
def dNext (cap : Int) (L : List Int) (k w : Int) : List Int := if k = 1 then (if cap ≤ L.length then L else L ++ [w]) else if k = 3 then L.tail else L
def dOk (k : Int) : Bool := decide (k = 1) || decide (k = 2) || decide (k = 3)
theorem ifE_rg {α : Type} (n : Nat) (a b : Option α) : ifE .ret (.goto n) a b = b := by rfl
theorem does_ok (orc : FuncId → Bool) {v : Value} {L : List Int} (hr : RingV v L) {cap : Int} (h1 : 1 ≤ cap) (h2 : cap ≤ 1024) (k a b w : Int) (G : GS) :
    Wp ((E orc).cl 123 [.int .i64 cap, v, .agg ⟨rowOp (k, a, b, w)⟩] G) fun r => ∃ f, r.1 = .tuple #[.agg ⟨eAn.row (dCode cap L k, 0, dWord L k)⟩, f, .bool (dOk k)] ∧ Ext G r.2 ∧ (∀ G2, Mid G.nx r.2 G2 → Wp (cValue (E orc) f [] G2) fun q => RingV q.1 (dNext cap L k w) ∧ Ext G2 q.2) := by
  have hr' := hr
  obtain ⟨cs, fr, rfl, h⟩ := hr'
  have hn := h.n_at
  have hlen := h.len
  have hW : loadO 1026 0 (some ⟨cs, 1, false, 1⟩) = some (.agg ⟨cs⟩) := loadO_whole hlen (by decide)
  refine Wp.ref (f123 (exL_ok Q orc) _ _ _ G) ?_
  simp only [rowOp]
  have st3 : ∀ (k1 k2 k3 : IntKind) (a b c : Int) (x y z : Value), stO 3 0 (.agg ⟨[.int k1 a, .int k2 b, .int k3 c]⟩) (some ⟨[x, y, z], 1, false, 1⟩) = some ⟨[.int k1 a, .int k2 b, .int k3 c], 1, false, 1⟩ := fun _ _ _ _ _ _ _ _ _ => rfl
  have ld3 : ∀ (x y z : Value), loadO 3 0 (some ⟨[x, y, z], 1, false, 1⟩) = some (.agg ⟨[x, y, z]⟩) := fun _ _ _ => rfl
  have hbd : gBuild Q 27 [(0, .int .i64 15)] = some (.agg ⟨[.int .i64 15, .int .i64 0, .int .u64 0]⟩) := by kernel_rfl
  have hss : ∀ b o s v G, gStore Q 27 (.pointer (some ⟨b, o, s⟩)) v G = storeN 3 b o v G := (inferInstance : StOk Q 27 3).ok
  have n6 : ∀ τ : Env, nth undef (lst 45 τ) 6 = τ 6 := fun _ => rfl
  have n9 : ∀ τ : Env, nth undef (lst 45 τ) 9 = τ 9 := fun _ => rfl
  have k12 : ¬ ((2 : Int) = 1) := by decide
  by_cases k1 : k = 1
  · subst k1
    by_cases hc : cap ≤ L.length
    · simp [s123, mBox, Value.cells, cell_eq, hn, hc, fillL, fillC, splice_put, splice_end, splice_succ, st3, ld3, Nat.add_assoc]
      refine ⟨_, ⟨by simp [dCode, dWord, hc], rfl, by simp [dOk]⟩, by (repeat (first | with_reducible exact Ext.refl _ | with_reducible assumption | with_reducible apply Ext.room | with_reducible apply Ext.push | with_reducible refine Ext.put ?_ ?_ _ | omega | (simp; done) | (simp; omega))), ?_⟩
      intro G2 hE
      simp only [dNext, hc, if_true]
      have hb := hE.obj G.nx (by (first | (simp; done) | (simp; omega))) (by omega)
      simp [Nat.add_assoc] at hb
      simpa using same_ring orc h hb (by have := hE.nx; simp at this; omega)
    · simp [s123, mBox, Value.cells, cell_eq, hn, hc, fillL, fillC, splice_put, splice_end, splice_succ, st3, ld3, Nat.add_assoc]
      refine ⟨_, ⟨by simp [dCode, dWord, hc], rfl, by simp [dOk]⟩, by (repeat (first | with_reducible exact Ext.refl _ | with_reducible assumption | with_reducible apply Ext.room | with_reducible apply Ext.push | with_reducible refine Ext.put ?_ ?_ _ | omega | (simp; done) | (simp; omega))), ?_⟩
      intro G2 hE
      simp only [dNext, hc, if_true, if_false]
      have hb := hE.obj G.nx (by (first | (simp; done) | (simp; omega))) (by omega)
      have hd := hE.obj (G.nx + 1) (by (first | (simp; done) | (simp; omega))) (by omega)
      simp [Nat.add_assoc] at hb hd
      have := hE.nx
      simp at this
      simpa using pushed_ring orc h hb (by omega) hd (by omega) (by omega)
  by_cases k2 : k = 2
  · subst k2
    cases L with
    | nil =>
      simp at hn
      simp [s123, mBox, Value.cells, cell_eq, hn, Nat.add_assoc]
      refine Wp.bX (Wp.up (x := gDoes _ _) (fun {r} h => jDoes orc _ _ (by rfl) h) ?_)
      simp [gDoes, hbd, hss, n6, n9, storeN_eq, ifE_rg, Value.cells, fillL, fillC, splice_put, splice_end, splice_succ, st3, ld3, Nat.add_assoc]
      refine ⟨_, ⟨by simp [dCode, dWord], rfl, by simp [dOk]⟩, by (repeat (first | with_reducible exact Ext.refl _ | with_reducible assumption | with_reducible apply Ext.room | with_reducible apply Ext.push | with_reducible refine Ext.put ?_ ?_ _ | omega | (simp; done) | (simp; omega))), ?_⟩
      intro G2 hE
      simp only [dNext, k12, show ¬ ((2 : Int) = 3) by decide, if_false]
      have hb := hE.obj G.nx (by (first | (simp; done) | (simp; omega))) (by omega)
      simp [Nat.add_assoc] at hb
      simpa using same_ring orc h hb (by have := hE.nx; simp at this; omega)
    | cons x L =>
      have hp : ¬ (((x :: L).length : Int) = 0) := by simp; omega
      obtain ⟨⟨r5, G5⟩, e5, rfl, x5⟩ := ring_front orc hr ((((G.push ⟨cs, 1, false, 1⟩).push ⟨[.int .i64 2, .int .i64 a, .int .i64 b, .int .u64 w], 1, false, 1⟩).push ⟨[.int .i64 0, .int .i64 0, .int .u64 0], 1, false, 1⟩).push ⟨[.int .i64 0, .int .i64 0, .int .u64 0], 1, false, 1⟩)
      generalize hN : ((x :: L).length : Int) = N at *
      have f0 := x5.obj G.nx (by (first | (simp; done) | (simp; omega)))
      have f2 := x5.obj (G.nx + 2) (by (first | (simp; done) | (simp; omega)))
      have f3 := x5.obj (G.nx + 3) (by (first | (simp; done) | (simp; omega)))
      have fn := x5.nx
      simp [Nat.add_assoc] at f0 f2 f3 fn
      simp [s123, mBox, Value.cells, cell_eq, hn, hp, e5, f0, f2, f3, hW, fillL, fillC, splice_put, splice_end, splice_succ, st3, ld3, Nat.add_assoc]
      refine ⟨_, ⟨by simp [dCode, dWord], rfl, by simp [dOk]⟩, ?_, ?_⟩
      · exact Ext.put (Ext.put (((((Ext.refl G).push _).push _).push _).push _ |>.trans x5) (by omega) _) (by omega) _
      intro G2 hE
      simp only [dNext, k12, show ¬ ((2 : Int) = 3) by decide, if_false]
      have hb := hE.obj G.nx (by (first | (simp; done) | (simp; omega))) (by omega)
      simp [f0, Nat.add_assoc] at hb
      simpa using same_ring orc h hb (by have := hE.nx; simp at this; omega)
  by_cases k3 : k = 3
  · subst k3
    have k13 : ¬ ((3 : Int) = 1) := by decide
    cases L with
    | nil =>
      simp at hn
      simp [s123, mBox, Value.cells, cell_eq, hn, Nat.add_assoc]
      refine Wp.bX (Wp.up (x := gDoes _ _) (fun {r} h => jDoes orc _ _ (by rfl) h) ?_)
      simp [gDoes, hbd, hss, n6, n9, storeN_eq, ifE_rg, Value.cells, fillL, fillC, splice_put, splice_end, splice_succ, st3, ld3, Nat.add_assoc]
      refine ⟨_, ⟨by simp [dCode, dWord], rfl, by simp [dOk]⟩, by (repeat (first | with_reducible exact Ext.refl _ | with_reducible assumption | with_reducible apply Ext.room | with_reducible apply Ext.push | with_reducible refine Ext.put ?_ ?_ _ | omega | (simp; done) | (simp; omega))), ?_⟩
      intro G2 hE
      simp only [dNext, k13, if_true, if_false, List.tail]
      have hb := hE.obj G.nx (by (first | (simp; done) | (simp; omega))) (by omega)
      simp [Nat.add_assoc] at hb
      simpa using same_ring orc h hb (by have := hE.nx; simp at this; omega)
    | cons x L =>
      have hp : ¬ (((x :: L).length : Int) = 0) := by (first | (simp; done) | (simp; omega))
      generalize hN : ((x :: L).length : Int) = N at *
      simp [s123, mBox, Value.cells, cell_eq, hn, hp, hW, fillL, fillC, splice_put, splice_end, splice_succ, st3, ld3, Nat.add_assoc]
      refine ⟨_, ⟨by simp [dCode, dWord], rfl, by simp [dOk]⟩, by (repeat (first | with_reducible exact Ext.refl _ | with_reducible assumption | with_reducible apply Ext.room | with_reducible apply Ext.push | with_reducible refine Ext.put ?_ ?_ _ | omega | (simp; done) | (simp; omega))), ?_⟩
      intro G2 hE
      simp only [dNext, k13, if_true, if_false, List.tail]
      have hb := hE.obj G.nx (by (first | (simp; done) | (simp; omega))) (by omega)
      simp [Nat.add_assoc] at hb
      simpa using dropped_ring orc h hb (by have := hE.nx; simp at this; omega)
  · simp [s123, mBox, Value.cells, cell_eq, k1, k2, k3, fillL, fillC, splice_put, splice_end, splice_succ, st3, ld3, Nat.add_assoc]
    refine ⟨_, ⟨by simp [dCode, dWord, k1, k2, k3], rfl, by simp [dOk, k1, k2, k3]⟩, by (repeat (first | with_reducible exact Ext.refl _ | with_reducible assumption | with_reducible apply Ext.room | with_reducible apply Ext.push | with_reducible refine Ext.put ?_ ?_ _ | omega | (simp; done) | (simp; omega))), ?_⟩
    intro G2 hE
    simp only [dNext, k1, k3, if_true, if_false]
    have hb := hE.obj G.nx (by (first | (simp; done) | (simp; omega))) (by omega)
    simp [Nat.add_assoc] at hb
    simpa using same_ring orc h hb (by have := hE.nx; simp at this; omega)
end Go.Proofs.YtlaojmcekeohnaaGreatDoor.Lift

set_option linter.unusedVariables false
set_option linter.unusedSimpArgs false
set_option maxRecDepth 20000
namespace Go.Proofs.YtlaojmcekeohnaaGreatDoor.Lift
open Go Go.Proofs.YtlaojmcekeohnaaGreatDoor.Gh Go.Proofs
theorem reqAn (a0 a1 a2 b0 b1 b2 : Int) : prun Q (Op.equalIn 10000 27 (.agg ⟨[.int .i64 a0, .int .i64 a1, .int .u64 a2]⟩) (.agg ⟨[.int .i64 b0, .int .i64 b1, .int .u64 b2]⟩)) = some (a0 == b0 && (a1 == b1 && (a2 == b2 && true))) :=
  eqS (d := 9999) (L := [(25, 0), (3, 1), (22, 2)]) (by kernel_rfl) (by kernel_rfl) (eqL_cons (a := .int .i64 a0) (b := .int .i64 b0) (by kernel_rfl) (by kernel_rfl) (by kernel_rfl) (eqL_cons (a := .int .i64 a1) (b := .int .i64 b1) (by kernel_rfl) (by kernel_rfl) (by kernel_rfl) (eqL_cons (a := .int .u64 a2) (b := .int .u64 b2) (by kernel_rfl) (by kernel_rfl) (by kernel_rfl) rfl)))
theorem neAn (x y : Operand) (o p : An3) : gBinF Q .neq 27 x y (.agg ⟨eAn.row o⟩) (.agg ⟨eAn.row p⟩) = some (.bool (!decide (o = p))) := by
  obtain ⟨a, b, c⟩ := o
  obtain ⟨a', b', c'⟩ := p
  have := neq_aggF (P := Q) (x := x) (y := y) (op := .eql) (by kernel_rfl) (by kernel_rfl) (by kernel_rfl) (reqAn a b c a' b' c')
  rw [eAn_row, eAn_row, this]
  congr 2
  rw [Bool.eq_iff_iff]
  simp
/-- what is in a queue behind an operation that is answered so -/
def qNext (cap : Int) (L : List Int) (o : Op4) (an : An3) : Option (List Int) := if fchk cap L.length = 0 ∧ dOk o.1 = true ∧ (dCode cap L o.1, 0, dWord L o.1) = an then some (dNext cap L o.1 o.2.2.2) else none
theorem qnext_ok (orc : FuncId → Bool) {v : Value} {L : List Int} {G : GS} (hv : SlR rU G v L) (hL : L.length ≤ 1100) (cap : Int) (o : Op4) (an : An3) :
    Wp ((E orc).cl 52 [.int .i64 cap, v, .agg ⟨rowOp o⟩, .agg ⟨eAn.row an⟩] G) fun r => Ext G r.2 ∧ ∃ v', (r.1 = .tuple #[v', .bool true] ∧ ∃ L', qNext cap L o an = some L' ∧ OwR rU G.nx r.2 v' L') ∨ (r.1 = .tuple #[v', .bool false] ∧ qNext cap L o an = none) := by
  obtain ⟨k, a, b, w⟩ := o
  have e2 : Ext G ((G.push ⟨rowOp (k, a, b, w), 1, false, 1⟩).push ⟨eAn.row an, 1, false, 1⟩) := ((Ext.refl G).push _).push _
  obtain ⟨a0, c0, ha⟩ := hv.len
  obtain ⟨rc, ec, hrc⟩ := check_ok orc (a := a0) (n := L.length) (c := c0) (cap := cap) ((G.push ⟨rowOp (k, a, b, w), 1, false, 1⟩).push ⟨eAn.row an, 1, false, 1⟩)
  rw [hrc] at ec
  by_cases hc : fchk cap L.length = 0
  · have hc' := fchk_zero.1 hc
    have e3 := e2.room 13
    obtain ⟨⟨q, G4⟩, e4, hq, x4⟩ := queue_ok orc (hv.ext e3) (by omega)
    simp only at hq x4
    obtain ⟨⟨r, G5⟩, e5, f, hr, x5, hf⟩ := does_ok orc hq (cap := cap) (by omega) (by omega) k a b w G4
    simp only at hr x5 hf
    subst hr
    have x45 := x4.trans x5
    have f0 := x4.obj G.nx (by (first | (simp; done) | (simp; omega)))
    have g1 := x45.obj (G.nx + 1) (by (first | (simp; done) | (simp; omega)))
    have hx := x45.nx
    have hx4 := x4.nx
    have hx5 := x5.nx
    simp [Nat.add_assoc, -eAn_row] at f0 g1 hx hx4
    have ld4 : loadO 4 0 (some ⟨rowOp (k, a, b, w), 1, false, 1⟩) = some (.agg ⟨rowOp (k, a, b, w)⟩) := loadO_whole rfl (by decide)
    have ld3 : ∀ y : An3, loadO 3 0 (some ⟨eAn.row y, 1, false, 1⟩) = some (.agg ⟨eAn.row y⟩) := fun y => loadO_whole rfl (by decide)
    have st3 : ∀ y : An3, stO 3 0 (.agg ⟨eAn.row y⟩) (some ⟨z27, 1, false, 1⟩) = some ⟨eAn.row y, 1, false, 1⟩ := fun y => rfl
    have hs : same (.agg ⟨rowOp (k, a, b, w)⟩) (.agg ⟨rowOp (k, a, b, w)⟩) = true := by simp [rowOp, same, sameD, sameD.listD]
    obtain ⟨GE, hGE⟩ : ∃ GE, GE = ((((G5.at' (G.nx + 11)).push ⟨z27, 1, false, 1⟩).back G5).put (G.nx + 11) ⟨eAn.row (dCode cap L k, 0, dWord L k), 1, false, 1⟩) := ⟨_, rfl⟩
    have xE : Ext G GE := by rw [hGE]; exact (drawn0 (e3.trans x45) (by omega) _).put (by omega) _
    have hM : Mid G4.nx G5 GE := by rw [hGE]; exact ⟨by simp, fun g hg hl => by simp; rw [if_neg (by omega), if_neg (by omega)]⟩
    obtain ⟨⟨q2, G6⟩, e6, hq2, x6⟩ := hf _ hM
    simp only at hq2 x6
    obtain ⟨⟨v', G7⟩, e7, x7, o7⟩ := ring_list orc hq2 G6
    simp only at x7 o7
    have oE : GE.obj (G.nx + 11) = some ⟨eAn.row (dCode cap L k, 0, dWord L k), 1, false, 1⟩ := by rw [hGE]; simp
    have oE1 : GE.obj (G.nx + 1) = some ⟨eAn.row an, 1, false, 1⟩ := by rw [hGE]; simp [g1, -eAn_row]
    subst ha
    refine Wp.ref (f52 (exL_ok Q orc) _ _ _ _ G) ?_
    generalize hro : rowOp (k, a, b, w) = ro at *
    have hroc : (Value.agg ⟨ro⟩).cells.toList = ro := rfl
    have q1 : dOk k = true → (dCode cap L k, 0, dWord L k) = an → qNext cap L (k, a, b, w) an = some (dNext cap L k w) := fun h1 h2 => by unfold qNext; rw [if_pos ⟨hc, h1, h2⟩]
    have q2' : ¬ (dOk k = true ∧ (dCode cap L k, 0, dWord L k) = an) → qNext cap L (k, a, b, w) an = none := fun h => by unfold qNext; rw [if_neg (fun h' => h h'.2)]
    generalize (dCode cap L k, (0 : Int), dWord L k) = dv at *
    by_cases hk : dOk k = true
    · rw [hk] at e5
      by_cases hn : dv = an
      · have hqn := q1 hk hn
        subst hn
        simp [-eAn_row, -cValue_func, s52, mBox, Value.cells, ec, hc, e4, ld4, f0, sameO, hs, e5, pExtract, getN_zero, getN_succ, Nat.add_assoc, st3, ld3, neAn, ← hGE, oE, oE1, g1, e6, e7, hqn]
        exact ⟨(xE.trans x6).trans x7, o7.mono (xE.trans x6).nx⟩
      · have hqn := q2' (fun h => hn h.2)
        simp [-eAn_row, -cValue_func, s52, mBox, Value.cells, ec, hc, e4, ld4, f0, sameO, hs, e5, pExtract, getN_zero, getN_succ, Nat.add_assoc, st3, ld3, neAn, ← hGE, oE, oE1, g1, hn, hqn]
        exact xE
    · have hqn := q2' (fun h => hk h.1)
      have hk' : dOk k = false := by simpa using hk
      rw [hk'] at e5
      simp [-eAn_row, -cValue_func, s52, mBox, Value.cells, ec, hc, e4, ld4, f0, sameO, hs, e5, pExtract, getN_zero, getN_succ, Nat.add_assoc, st3, ld3, neAn, ← hGE, oE, oE1, g1, hqn]
      exact xE
  · subst ha
    refine Wp.ref (f52 (exL_ok Q orc) _ _ _ _ G) ?_
    have hn : qNext cap L (k, a, b, w) an = none := by unfold qNext; rw [if_neg (fun h => hc h.1)]
    simp only [rowOp, eAn_row] at ec ⊢
    simp [s52, mBox, Value.cells, ec, hc, hn]
    exact ((Ext.refl G).push _).push _
end Go.Proofs.YtlaojmcekeohnaaGreatDoor.Lift

set_option linter.unusedVariables false
set_option linter.unusedSimpArgs false
set_option maxRecDepth 20000
namespace Go.Proofs.YtlaojmcekeohnaaGreatDoor.Lift
open Go Go.Proofs.YtlaojmcekeohnaaGreatDoor.Gh Go.Proofs
/-! ### The queue as a model -/
def qFine (s : List Int) (o : Op4) : List An3 := if o.1 = 2 then (match s with | [] => [] | x :: _ => [(0, 0, x)]) else [(0, 0, 0)]
def qMac (cap : Int) : Mac Int := ⟨[], qNext cap, qFine⟩
def qInv (L : List Int) : Prop := L.length ≤ 1024 ∧ ∀ x ∈ L, 0 ≤ x ∧ x < 18446744073709551616
theorem qInv_next {cap : Int} {L L' : List Int} {o : Op4} {an : An3} (h : qInv L) (ho : okOp o) (hn : qNext cap L o an = some L') : qInv L' := by
  unfold qNext at hn
  split at hn
  · rename_i hc
    have hf := fchk_zero.1 hc.1
    cases hn
    unfold dNext
    split
    · split
      · exact h
      · refine ⟨by simp; omega, fun x hx => ?_⟩
        rcases List.mem_append.1 hx with hx | hx
        · exact h.2 x hx
        · rw [List.mem_singleton.1 hx]; exact ho.1
    · split
      · refine ⟨by rw [List.length_tail]; have := h.1; omega, fun x hx => h.2 x (List.mem_of_mem_tail hx)⟩
      · exact h
  · cases hn
theorem txt_flat : ∀ {L : List Int}, (∀ x ∈ L, 0 ≤ x ∧ x < 18446744073709551616) → txtL (rU.flat L) (.u64, 44) (.u64, 44) = some (txN L)
  | [], _ => rfl
  | x :: L, h => by
    have hx := h x (List.mem_cons_self ..)
    have ih := txt_flat (L := L) fun y hy => h y (List.mem_cons_of_mem _ hy)
    rw [RowE.flat_cons, rU_row, List.singleton_append, txtL_cons, ih]
    have : txt1 (.u64, 44) (.int .u64 x) = some (dgI x ++ [44]) := by simp [txt1, inR, hx.1, hx.2]
    rw [this]
    simp [txN]
theorem tabs_ext {B G : GS} (h : Ext B G) (ht : tabs B = true) (hn : 2 ≤ B.nx) : tabs G = true := by
  unfold tabs at ht ⊢
  rw [h.obj 0 (by omega), h.obj 1 (by omega)]
  exact ht
theorem qtext (orc : FuncId → Bool) {G : GS} {sv : Value} {L : List Int} (ht : tabs G = true) (hs : SlR rU G sv L) (hi : qInv L) : Wp ((E orc).cl 105 [sv] G) fun r => r.1 = .string ⟨(txN L).toArray⟩ ∧ r.2 = G := by
  refine Wp.ref (Ref.txA (P := Q) (by kernel_rfl) (by kernel_rfl) (by kernel_rfl) [sv] G) ?_
  obtain ⟨a, c, e0⟩ := hs.len
  have hel := elems_of hs.is
  rw [rU_sz] at hel
  cases L with
  | nil =>
    subst e0
    simp [txt, txN]
  | cons x L =>
    have htx := txt_flat hi.2
    have hle := hi.1
    rcases hs.is.2 with ⟨h1, h2⟩ | ⟨b, o, c', ob, h1, _⟩
    · simp at h2
    · subst h1
      have hr : rdN G b o ((L.length + 1) * 1) = some (rU.flat (x :: L)) := hel
      have hb : Nat.ble L.length 1000000 = true := Nat.ble_eq_true_of_le (by simp at hle; omega)
      simp only [List.length_cons, txt, kA, ht, hb, Bool.and_self, if_true, hr, htx]
      exact ⟨_, rfl, rfl, rfl⟩
theorem macQ (orc : FuncId → Bool) {B : GS} {pr : Nat} {cap : Int} (ht : tabs B = true) (h2 : 2 ≤ B.nx) (hp : pr < B.nx) (hc : B.obj pr = some ⟨[.int .i64 cap], 1, false, 1⟩) :
    MacC orc rU (qMac cap) qInv (fun L => ⟨(txN L).toArray⟩) B (.slice none 0 0) (.func (.func 103) ⟨[]⟩ ⟨[Pp pr]⟩) (.func (.func 104) ⟨[]⟩ ⟨[]⟩) (.func (.func 105) ⟨[]⟩ ⟨[]⟩) where
  first := SlR.nil
  inv0 := ⟨Nat.zero_le _, fun _ h => (by cases h)⟩
  next G sv s op an hB hs hi ho := by
    rw [cValue_func]
    have x2 : Ext G ((G.push ⟨rowOp op, 1, false, 1⟩).push ⟨eAn.row an, 1, false, 1⟩) := ((Ext.refl G).push _).push _
    obtain ⟨⟨r, G'⟩, e1, x1, v', hr⟩ := qnext_ok orc (hs.ext x2) (by have := hi.1; omega) cap op an
    simp only at x1 hr
    have ld4 : loadO 4 0 (some ⟨rowOp op, 1, false, 1⟩) = some (.agg ⟨rowOp op⟩) := loadO_whole rfl (by decide)
    have ld3 : loadO 3 0 (some ⟨eAn.row an, 1, false, 1⟩) = some (.agg ⟨eAn.row an⟩) := loadO_whole rfl (by decide)
    have n1 : ¬ pr = G.nx := by have := hB.nx; omega
    have n2 : ¬ pr = G.nx + 1 := by have := hB.nx; omega
    have op' : G.obj pr = some ⟨[.int .i64 cap], 1, false, 1⟩ := (hB.obj _ hp).trans hc
    refine Wp.ref (f103 (exL_ok Q orc) _ _ _ _ G) ?_
    rcases hr with ⟨rfl, L', h1, h2'⟩ | ⟨rfl, h1⟩
    · simp [-eAn_row, s103, mBox, Value.cells, n1, n2, op', ld4, ld3, e1, pExtract, getN_zero, getN_succ]
      exact ⟨x2.trans x1, L', h1, qInv_next hi ho h1, h2'.is⟩
    · simp [-eAn_row, s103, mBox, Value.cells, n1, n2, op', ld4, ld3, e1, pExtract, getN_zero, getN_succ]
      exact ⟨x2.trans x1, h1⟩
  fine G sv s op hB hs hi ho := by
    rw [cValue_func]
    refine Wp.ref (f104 (exL_ok Q orc) _ _ G) ?_
    obtain ⟨a, c, e0⟩ := hs.len
    have x1 : Ext G (G.push ⟨rowOp op, 1, false, 1⟩) := (Ext.refl G).push _
    show Wp _ fun (r : Value × GS) => Ext G r.2 ∧ SlR eAn r.2 r.1 (qFine s op) ∧ (qFine s op).length ≤ 100
    have lc : ∀ t, ln Q true t sv = some (.int .i64 s.length) := fun t => by rw [e0]; simp
    unfold qFine
    by_cases h2 : op.1 = 2
    · cases s with
      | nil =>
        simp [s104, mBox, Value.cells, rowOp, h2, lc]
        exact ⟨(Ext.refl G).push _, SlR.nil⟩
      | cons x s =>
        obtain ⟨b, o, c', e1, hb, q, _⟩ := hs.at (i := 0) (by simp)
        have q0 := q 0 (by decide)
        simp at q0
        have nb : ¬ b = G.nx := by omega
        have hl : ¬ ((s.length : Int) + 1 = 0) := by omega
        rw [e1] at lc
        subst e1
        simp [s104, mBox, Value.cells, rowOp, h2, nb, q0, hl]
        exact ⟨((Ext.refl G).push _).push _, SlR.one eAn _ (0, 0, x)⟩
    · simp [s104, mBox, Value.cells, rowOp, h2]
      exact ⟨((Ext.refl G).push _).push _, SlR.one eAn _ (0, 0, 0)⟩
  text G sv s hB hs hi := by
    rw [cValue_func]
    exact qtext orc (tabs_ext hB ht h2) hs hi
  inj s s' h1 h2 h := txN_inj h1.2 h2.2 (by simpa using h)
  sm := by simp [same, sameD, sameD.listD]
end Go.Proofs.YtlaojmcekeohnaaGreatDoor.Lift

set_option linter.unusedVariables false
set_option linter.unusedSimpArgs false
set_option maxRecDepth 20000
namespace Go.Proofs.YtlaojmcekeohnaaGreatDoor.Lift
open Go Go.Proofs.YtlaojmcekeohnaaGreatDoor.Gh Go.Proofs
/-! ### linear.Order over a queue -/
def rowQ (pr : Nat) : List Value := [.slice none 0 0, .func (.func 103) ⟨[]⟩ ⟨[Pp pr]⟩, .func (.func 104) ⟨[]⟩ ⟨[]⟩, .func (.func 105) ⟨[]⟩ ⟨[]⟩]
theorem queues_ok (orc : FuncId → Bool) (cap : Int) (G : GS) : Wp ((E orc).cl 41 [.int .i64 cap] G) fun r => r.1 = .agg ⟨rowQ G.nx⟩ ∧ Ext G r.2 ∧ r.2.obj G.nx = some ⟨[.int .i64 cap], 1, false, 1⟩ ∧ G.nx < r.2.nx := by
  refine Wp.ref (f41 (exL_ok Q orc) _ G) ?_
  have n1 : ¬ G.nx = G.nx + 1 := by omega
  simp [s41, mBox, Value.cells, rowQ, n1]
  exact ⟨(((Ext.refl G).push _).push _).put (by omega) _, by omega⟩
/-- **what is told of a history of a queue** -/
theorem orderF (orc : FuncId → Bool) {G : GS} {lV : Value} {l : List Sp} (ht : tabs G = true) (h2 : 2 ≤ G.nx) (hl : SlR rSp G lV l) (okl : ∀ c ∈ l, okOp c.op) (room : Int) (hm : MayOk 1 room l) :
    Wp ((E orc).cl 14 [.int .i64 1, .int .i64 room, lV] G) fun r => Ext G r.2 ∧ (r.1 = .tuple #[.slice none 0 0, .bool false, .int .i64 0] ∧ ¬ Goes (qMac room) l [] [] 0 ∨ ∃ outv row s2, r.1 = .tuple #[outv, .bool true, .int .i64 0] ∧ Way (qMac room) l [] 0 row s2 (dn row 0) ∧ ovrP l (dn row 0) ∧ OwR (rowsI .i64) G.nx r.2 outv (row.map fun a => (sp l a).id)) := by
  refine Wp.ref (f14 (exL_ok Q orc) _ _ _ G) ?_
  obtain ⟨⟨r1, G1⟩, e1, x1, x, rfl, hx⟩ := may_ok orc hl 1 room
  have hx0 := hx.2 hm
  subst hx0
  simp only at x1
  obtain ⟨⟨r2, G2⟩, e2, rfl, x2, o2, n2⟩ := queues_ok orc room G1
  simp only at x2 o2 n2
  have xx := x1.trans x2
  obtain ⟨⟨r3, G3⟩, e3, x3, h3⟩ := order_Q (orc := orc) (macQ orc (tabs_ext xx ht h2) (by have := xx.nx; omega) n2 o2) (Ext.refl G2) (hl.ext xx) okl (by have := hm.2.2.1; omega)
  simp only at x3 h3
  have e3 : (E orc).cl 40 [.agg ⟨rowQ G1.nx⟩, lV] G2 = some (r3, G3) := e3
  have x13 := xx.trans x3
  rcases h3 with ⟨rfl, hg⟩ | ⟨outv, row, s2, rfl, hw, ho, hv⟩
  · simp [-eAn_row, jb14_0, j14_0, sb14, s14, e1, e2, e3, pExtract, getN_zero, getN_succ, clip_t]
    exact ⟨x13, hg⟩
  · simp [-eAn_row, jb14_0, j14_0, sb14, s14, e1, e2, e3, pExtract, getN_zero, getN_succ, clip_t]
    exact ⟨x13, row, ⟨s2, hw⟩, ho, hv.mono xx.nx⟩
end Go.Proofs.YtlaojmcekeohnaaGreatDoor.Lift

