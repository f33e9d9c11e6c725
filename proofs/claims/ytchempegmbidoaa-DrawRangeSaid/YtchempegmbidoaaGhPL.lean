/- The ghost machine, part PL: what simp needs to reckon with a code spelled out. -/
import Derived.Test.YtchempegmbidoaaGhP
namespace Go.Proofs.Ytchempegmbidoaa.Gh
open Go
set_option linter.unusedVariables false
set_option linter.unusedSimpArgs false

/-! ### Answers, with what is asked of them -/
def Wp {α : Type} (x : Option α) (Q : α → Prop) : Prop := ∃ a, x = some a ∧ Q a
@[simp] theorem Wp_some {α : Type} (a : α) (Q : α → Prop) : Wp (some a) Q ↔ Q a := ⟨fun ⟨_, h, hq⟩ => by cases h; exact hq, fun h => ⟨a, rfl, h⟩⟩
@[congr] theorem Wp_congr {α : Type} {x y : Option α} (Q : α → Prop) (h : x = y) : Wp x Q = Wp y Q := by rw [h]
theorem Wp.up {α : Type} {x y : Option α} {Q : α → Prop} (h : ∀ {r}, x = some r → y = some r) (w : Wp x Q) : Wp y Q := let ⟨a, ha, hq⟩ := w; ⟨a, h ha, hq⟩
theorem Wp.mono {α : Type} {x : Option α} {Q R : α → Prop} (w : Wp x Q) (h : ∀ a, Q a → R a) : Wp x R := let ⟨a, ha, hq⟩ := w; ⟨a, ha, h a hq⟩

def andI (k : IntKind) (a b : Int) : Int := k.wrap ((BitVec.ofInt k.bits a &&& BitVec.ofInt k.bits b).toNat)
def orI (k : IntKind) (a b : Int) : Int := k.wrap ((BitVec.ofInt k.bits a ||| BitVec.ofInt k.bits b).toNat)
def xorI (k : IntKind) (a b : Int) : Int := k.wrap ((BitVec.ofInt k.bits a ^^^ BitVec.ofInt k.bits b).toNat)
def andNotI (k : IntKind) (a b : Int) : Int := k.wrap ((BitVec.ofInt k.bits a &&& ~~~ BitVec.ofInt k.bits b).toNat)
def shlI (k : IntKind) (a b : Int) : Int := k.wrap (a * 2 ^ (min b.toNat k.bits))
def shrI (k : IntKind) (a b : Int) : Int := a.fdiv (2 ^ (min b.toNat k.bits))
section
variable (P : Program) (t : TypeId) (x y : Operand) (k k' : IntKind) (a b : Int)
@[simp] theorem bin_add : gBinF P .add t x y (.int k a) (.int k b) = some (.int k (k.wrap (a + b))) := by simp [gBinF, gBinI, gIntF, iAdd]
@[simp] theorem bin_sub : gBinF P .sub t x y (.int k a) (.int k b) = some (.int k (k.wrap (a - b))) := by simp [gBinF, gBinI, gIntF, iSub]
@[simp] theorem bin_mul : gBinF P .mul t x y (.int k a) (.int k b) = some (.int k (k.wrap (a * b))) := by simp [gBinF, gBinI, gIntF, iMul]
@[simp] theorem bin_quo : gBinF P .quo t x y (.int k a) (.int k b) = if b = 0 then none else some (.int k (k.wrap (a.tdiv b))) := by simp [gBinF, gBinI, gIntF, iQuo]
@[simp] theorem bin_rem : gBinF P .rem t x y (.int k a) (.int k b) = if b = 0 then none else some (.int k (a.tmod b)) := by simp [gBinF, gBinI, gIntF, iRem]
@[simp] theorem bin_and : gBinF P .and t x y (.int k a) (.int k b) = some (.int k (andI k a b)) := by simp only [gBinF, gBinI, decide_true, Bool.true_or, if_true]; rfl
@[simp] theorem bin_or : gBinF P .or t x y (.int k a) (.int k b) = some (.int k (orI k a b)) := by simp only [gBinF, gBinI, decide_true, Bool.true_or, if_true]; rfl
@[simp] theorem bin_xor : gBinF P .xor t x y (.int k a) (.int k b) = some (.int k (xorI k a b)) := by simp only [gBinF, gBinI, decide_true, Bool.true_or, if_true]; rfl
@[simp] theorem bin_andNot : gBinF P .andNot t x y (.int k a) (.int k b) = some (.int k (andNotI k a b)) := by simp only [gBinF, gBinI, decide_true, Bool.true_or, if_true]; rfl
@[simp] theorem bin_eql : gBinF P .eql t x y (.int k a) (.int k b) = some (.bool (decide (a = b))) := by simp [gBinF, gBinI, gIntF, iEql]; rfl
@[simp] theorem bin_neq : gBinF P .neq t x y (.int k a) (.int k b) = some (.bool (!decide (a = b))) := by simp [gBinF, gBinI, gIntF, iNeq]; rfl
@[simp] theorem bin_lss : gBinF P .lss t x y (.int k a) (.int k b) = some (.bool (decide (a < b))) := by simp [gBinF, gBinI, gIntF, iLss]
@[simp] theorem bin_leq : gBinF P .leq t x y (.int k a) (.int k b) = some (.bool (decide (a ≤ b))) := by simp [gBinF, gBinI, gIntF, iLeq]
@[simp] theorem bin_gtr : gBinF P .gtr t x y (.int k a) (.int k b) = some (.bool (decide (b < a))) := by simp [gBinF, gBinI, gIntF, iGtr]
@[simp] theorem bin_geq : gBinF P .geq t x y (.int k a) (.int k b) = some (.bool (decide (b ≤ a))) := by simp [gBinF, gBinI, gIntF, iGeq]
@[simp] theorem bin_shl : gBinF P .shl t x y (.int k a) (.int k' b) = if b < 0 then none else some (.int k (shlI k a b)) := by simp [gBinF, gBinI, gIntF, iShl, isShift]; rfl
@[simp] theorem bin_shr : gBinF P .shr t x y (.int k a) (.int k' b) = if b < 0 then none else some (.int k (shrI k a b)) := by simp [gBinF, gBinI, gIntF, iShr, isShift]; rfl
end
attribute [simp] nth_zero nth_succ nth_nil length_setT
@[simp] theorem un_not (P : Program) (b : Bool) : pUn P .not (.bool b) = some (.bool (!b)) := by cases b <;> rfl
@[simp] theorem max_int (P : Program) (tys : Array TypeId) (k : IntKind) (a b : Int) : maxV P tys [.int k a, .int k b] = some (.int k (if b > a then b else a)) := rfl
@[simp] theorem min_int (P : Program) (tys : Array TypeId) (k : IntKind) (a b : Int) : minV P tys [.int k a, .int k b] = some (.int k (if b < a then b else a)) := rfl
theorem wrap64 {n : Int} (h1 : -9223372036854775808 ≤ n) (h2 : n ≤ 9223372036854775807) : IntKind.wrap .i64 n = n := by
  show (if (decide (n % 18446744073709551616 ≥ 9223372036854775808)) = true then n % 18446744073709551616 - 18446744073709551616 else n % 18446744073709551616) = n
  by_cases h : n % 18446744073709551616 ≥ 9223372036854775808
  · rw [if_pos (by simpa using h)]; omega
  · rw [if_neg (by simpa using h)]; omega
theorem wrapU64 {n : Int} (h1 : 0 ≤ n) (h2 : n ≤ 18446744073709551615) : IntKind.wrap .u64 n = n := by
  simp only [IntKind.wrap, IntKind.bits, IntKind.signed, Bool.false_and]
  simp
  omega
theorem wrapU32 {n : Int} (h1 : 0 ≤ n) (h2 : n ≤ 4294967295) : IntKind.wrap .u32 n = n := by
  simp only [IntKind.wrap, IntKind.bits, IntKind.signed, Bool.false_and]
  simp
  omega
/-- a law of plain arguments -/
theorem law_plain {P : Program} {orc : FuncId → Bool} (hmix : P.follows .mixedOrders = true) (ho : OrcOk P orc) {f : FuncId} {vs : List Value} {G' : GS} (h : (evL P orc).cl f vs GS.empty = some (.bool true, G')) {w : World} {args : Array Value}
    (hv : ∀ M, Vs M vs args.toList) : Calls P f args w fun e w' => e = .returned (.bool true) ∧ Go.RowKit.Below w.heap.size w w' :=
  law_evL hmix ho h (rel_empty w) (hv _) fun r hf => by
    rcases hf with ⟨g, x, o, hx, _⟩ | ⟨l, hl⟩
    · cases hx
    · cases hl
/-- closed functions that the evaluator finds true -/
theorem orc_one {P : Program} (hmix : P.follows .mixedOrders = true) {f n : Nat} {fn : Func} (h1 : P.funcs[f]? = some fn) (h2 : (fn.name == "runtime.NumGoroutine") = false) (h3 : fn.body.isSome = true) (h : closedTrueF P n f = true) :
    (∃ fn, P.funcs[f]? = some fn ∧ (fn.name == "runtime.NumGoroutine") = false ∧ fn.body.isSome = true) ∧ ∀ w, Calls P f #[] w fun e w' => e = .returned (.bool true) ∧ Go.RowKit.Below w.heap.size w w' :=
  ⟨⟨fn, h1, h2, h3⟩, fun w => closed_trueF hmix h w⟩
/-- the functions of a list -/
def among (l : List FuncId) (f : FuncId) : Bool := l.any (Nat.beq f)
theorem among_ok {P : Program} : ∀ (l : List FuncId), (∀ f ∈ l, (∃ fn, P.funcs[f]? = some fn ∧ (fn.name == "runtime.NumGoroutine") = false ∧ fn.body.isSome = true) ∧ ∀ w, Calls P f #[] w fun e w' => e = .returned (.bool true) ∧ Go.RowKit.Below w.heap.size w w') → OrcOk P (among l) := by
  intro l h f hf
  simp only [among, List.any_eq_true] at hf
  obtain ⟨g, hg, he⟩ := hf
  rw [Nat.eq_of_beq_eq_true he]
  exact h g hg
theorem cl_orc (P : Program) (orc : FuncId → Bool) {f : FuncId} (h : orc f = true) (G : GS) : (evL P orc).cl f [] G = some (.bool true, G) := by
  rw [evL_cl]
  simp [clO, h]
end Go.Proofs.Ytchempegmbidoaa.Gh
