/- The ghost machine, part KP: temps that a code does not set stay; a law of one number that goes into one function alone. -/
import Derived.Test.YtmdocnigniefnaaGreatGhPW
namespace Go.Proofs.YtmdocnigniefnaaGreat.Gh
open Go
set_option linter.unusedVariables false
set_option linter.unusedSimpArgs false
def dstIs (i : Nat) (d : Option Tmp) : Bool := match d with | some t => Nat.beq t i | none => false
/-- may a code set a temp? -/
def asg (i : Nat) : Code → Bool
  | .region _ ops _ => ops.toList.any fun o => dstIs i o.dst
  | .seq a b => asg i a || asg i b
  | .cond _ a b => asg i a || asg i b
  | .block _ b => asg i b
  | .loop b => asg i b
  | .scope _ => true
  | _ => false
theorem keep_putT {T : List Value} {d : Option Tmp} {v : Value} {i : Nat} (h : dstIs i d = false) : nth undef (putT T d v) i = nth undef T i := by
  cases d with
  | none => rfl
  | some t =>
    show nth undef (setT T t v) i = _
    rw [nth_setT, if_neg]
    rintro ⟨rfl, _⟩
    simp [dstIs] at h
structure Ev.Keep (i : Nat) (E : Ev) : Prop where
  ex : ∀ c T G e T' G', asg i c = false → E.ex c T G = some (e, T', G') → nth undef T' i = nth undef T i
  lp : ∀ c T G e T' G', asg i c = false → E.lp c T G = some (e, T', G') → nth undef T' i = nth undef T i
section
variable (P : Program) (j : Nat)
theorem keep_seqOps (E : Ev) (ops : Array Oper) : ∀ (l : List Oper) (T : List Value) (G : GS) (T' : List Value) (G' : GS), (l.any fun o => dstIs j o.dst) = false → seqOpsF P E ops l T G = some (T', G') → nth undef T' j = nth undef T j
  | [], T, G, T', G', _, h => by simp [seqOpsF] at h; rw [h.1]
  | o :: r, T, G, T', G', hk, h => by
    simp only [List.any_cons, Bool.or_eq_false_iff] at hk
    simp only [seqOpsF] at h
    split at h
    · split at h
      · exact (keep_seqOps E ops r _ _ _ _ hk.2 h).trans (keep_putT hk.1)
      · cases h
    · exact (keep_seqOps E ops r _ _ _ _ hk.2 h).trans (keep_putT hk.1)
theorem keep_dStep {E : Ev} {ops : Array Oper} {ms : List Nat} {base i : Nat} {o : Oper} {T : List Value} {G : GS} {hist : List (Nat × GS)} {pend : List Pend} {a : DS} (hk : dstIs j o.dst = false) (h : dStep P E ops ms base i o T G hist pend = some a) : nth undef a.1 j = nth undef T j := by
  unfold dStep at h
  split at h
  · split at h
    · unfold dCls at h
      split at h
      · unfold d0 at h
        split at h <;> cases h
        exact keep_putT hk
      · unfold d1 at h
        split at h
        · split at h <;> cases h
          exact keep_putT hk
        · cases h
      · unfold d2 at h
        split at h <;> cases h
        exact keep_putT hk
      · unfold d3 at h
        split at h
        · split at h <;> cases h
          exact keep_putT hk
        · cases h
    · cases h
  · cases h
    exact keep_putT hk
theorem keep_drawOps (E : Ev) (ops : Array Oper) (ms : List Nat) (base : Nat) : ∀ (l : List Oper) (i : Nat) (T : List Value) (G : GS) (hist : List (Nat × GS)) (pend : List Pend) (T' : List Value) (G' : GS), (l.any fun o => dstIs j o.dst) = false → drawOpsF P E ops ms base i l T G hist pend = some (T', G') → nth undef T' j = nth undef T j
  | [], i, T, G, hist, pend, T', G', _, h => by simp [drawOpsF] at h; rw [h.1]
  | o :: r, i, T, G, hist, pend, T', G', hk, h => by
    simp only [List.any_cons, Bool.or_eq_false_iff] at hk
    simp only [drawOpsF] at h
    split at h
    · rename_i T1 G1 h1 p1 hd
      exact (keep_drawOps E ops ms base r _ _ _ _ _ _ _ hk.2 h).trans (keep_dStep P j hk.1 hd)
    · cases h
theorem keep_ex {E : Ev} (hE : E.Keep j) {c : Code} {T : List Value} {G : GS} {e : Exit} {T' : List Value} {G' : GS} (hk : asg j c = false) (h : stepExF P E c T G = some (e, T', G')) : nth undef T' j = nth undef T j := by
  cases c with
  | seq a b =>
    simp only [asg, Bool.or_eq_false_iff] at hk
    simp only [stepExF, xSeq] at h
    split at h
    · rename_i T1 G1 ha
      exact (hE.ex _ _ _ _ _ _ hk.2 h).trans (hE.ex _ _ _ _ _ _ hk.1 ha)
    · exact hE.ex _ _ _ _ _ _ hk.1 h
  | cond x a b =>
    simp only [asg, Bool.or_eq_false_iff] at hk
    simp only [stepExF, xIf] at h
    split at h
    · split at h
      · exact hE.ex _ _ _ _ _ _ hk.1 h
      · exact hE.ex _ _ _ _ _ _ hk.2 h
      · cases h
    · cases h
  | block id b =>
    simp only [stepExF, xBlock] at h
    split at h
    · rename_i hb
      split at h <;> cases h <;> exact hE.ex b _ _ _ _ _ hk hb
    · exact hE.ex b _ _ _ _ _ hk h
  | loop b => exact hE.lp b _ _ _ _ _ hk h
  | scope b => cases hk
  | region id ops draw =>
    simp only [stepExF] at h
    split at h
    · unfold xDraw xNorm at h
      split at h
      · split at h
        · rename_i hd
          cases h
          exact keep_drawOps P j _ _ _ _ _ _ _ _ _ _ _ _ hk hd
        · cases h
      · cases h
    · unfold xSeqOps xNorm at h
      split at h
      · rename_i hd
        cases h
        exact keep_seqOps P j _ _ _ _ _ _ _ hk hd
      · cases h
  | rangeFunc f ps assign body =>
    simp only [stepExF] at h
    split at h
    · unfold xRange xRangeEnd at h
      split at h
      · split at h
        · split at h
          · split at h
            · cases h
            · split at h
              · cases h; rfl
              · cases h
          · cases h
        · cases h
      · cases h
    · cases h
  | refuse w => cases h
  | _ => cases h; rfl
theorem keep_lp {E : Ev} (hE : E.Keep j) {b : Code} {T : List Value} {G : GS} {e : Exit} {T' : List Value} {G' : GS} (hk : asg j b = false) (h : stepLp E b T G = some (e, T', G')) : nth undef T' j = nth undef T j := by
  simp only [stepLp] at h
  split at h
  · rename_i hx
    exact (hE.lp _ _ _ _ _ _ hk h).trans (hE.ex _ _ _ _ _ _ hk hx)
  · exact hE.ex _ _ _ _ _ _ hk h
theorem keep_evO (orc : FuncId → Bool) : ∀ n, (evO P orc n).Keep j
  | 0 => ⟨fun _ _ _ _ _ _ _ h => by simp [evO, Ev.zero] at h, fun _ _ _ _ _ _ _ h => by simp [evO, Ev.zero] at h⟩
  | n + 1 => ⟨fun _ _ _ _ _ _ hk h => keep_ex P j (keep_evO orc n) hk h, fun _ _ _ _ _ _ hk h => keep_lp j (keep_evO orc n) hk h⟩
theorem keep_evL (orc : FuncId → Bool) : (evL P orc).Keep j :=
  ⟨fun _ _ _ _ _ _ hk h => let ⟨n, hn⟩ := limO_fin h; (keep_evO P j orc n).ex _ _ _ _ _ _ hk hn, fun _ _ _ _ _ _ hk h => let ⟨n, hn⟩ := limO_fin h; (keep_evO P j orc n).lp _ _ _ _ _ _ hk hn⟩
end
/-! ### One function's calls, told by a hook -/
/-- what stays in a loop's temps -/
class Stays (i : Nat) (c : Code) : Prop where ok : asg i c = false
structure KeepOk (P : Program) (E : Ev) : Prop where k : ∀ j, E.Keep j
theorem Ref.bLK {β : Type} {P : Program} {f k : Nat} {c : Code} {N j : Nat} {v : Value} [i : LpIs P f k c N] [s : Stays j c] {e : Ex} {E : Ev} (h : ExLe P e E) (hkp : KeepOk P E) {τ : Env} {G : GS} {K K' : Exit → Env → GS → Option β} (hv : clip N τ j = v) (hK : ∀ x τ G, τ j = v → Ref (K x τ G) (K' x τ G)) :
    Ref (Gh.bL true e f k c N τ G K) (Gh.bL false (Ex.of E) f k c N τ G K') := fun r hr => by
  have h1 := h.lpx f k τ G
  rw [i.code, i.num] at h1
  simp only [Gh.bL, cond_true] at hr
  show Gh.bX (E.lp c (lst N τ) G) _ = some r
  cases hx : e.lpx f k τ G with
  | none => rw [hx] at hr; cases hr
  | some a =>
    obtain ⟨x, τ1, G1⟩ := a
    have h2 := h1 _ hx
    rw [hx] at hr
    cases hy : E.lp c (lst N τ) G with
    | none => rw [hy] at h2; cases h2
    | some b =>
      obtain ⟨x', T', G'⟩ := b
      rw [hy] at h2
      simp only [mapE, Option.some.injEq, Prod.mk.injEq] at h2
      obtain ⟨rfl, rfl, rfl⟩ := h2
      refine hK _ _ _ ?_ r hr
      rw [(hkp.k j).lp _ _ _ _ _ _ s.ok hy, nth_lst, hv]
theorem Ref.bVK {β : Type} {v u : Value} {K K' : Value → Option β} (hv : v = u) (hK : Ref (K u) (K' u)) : Ref (Gh.bV true v K) (Gh.bV false v K') := by
  subst hv; simp only [bV_eq]; exact hK
/-- a hook tells what the evaluator answers -/
structure HookOk (E : Ev) (p : FuncId) (vs : List Value) (r : Value) : Prop where ok : ∀ G, E.cl p vs G = some (r, G)
def hook (r : Value) (vs : List Value) (G : GS) : Option (Value × GS) := some (r, G)
theorem Ref.hook {E : Ev} {p : FuncId} {vs : List Value} {r : Value} (h : HookOk E p vs r) {G : GS} : Ref (hook r vs G) ((Ex.of E).ev.cl p vs G) := fun x hx => by
  show E.cl p vs G = some x
  rw [h.ok]; exact hx
end Go.Proofs.YtmdocnigniefnaaGreat.Gh
