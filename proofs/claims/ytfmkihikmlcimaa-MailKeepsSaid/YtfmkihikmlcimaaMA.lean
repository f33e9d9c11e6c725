/- contracts of the program's functions -/
import Derived.Test.YtfmkihikmlcimaaRa
import Derived.Test.YtfmkihikmlcimaaGhPT
import Derived.Test.YtfmkihikmlcimaaGhPR
import Derived.Test.YtfmkihikmlcimaaGhPC
import Derived.Test.YtfmkihikmlcimaaGhPD
import Derived.Test.YtfmkihikmlcimaaGhLS
import Derived.Test.YtfmkihikmlcimaaGhEQ
namespace Go.Proofs.Ytfmkihikmlcimaa.Lift
open Go Go.Proofs.Ytfmkihikmlcimaa.Gh Go.Proofs
abbrev P0 (b : Nat) : Value := .pointer (some ⟨b, 0, none⟩)
theorem Ext.drawn {A G B : GS} (h : Ext A G) {n : Nat} (hn : A.nx ≤ n) (hB : A.nx ≤ B.nx) (o : GObj) : Ext A (((G.at' n).push o).back B) :=
  ⟨by simpa using hB, fun g hg => by
    have := h.obj g hg
    simp only [obj_back, obj_push, nx_at, obj_at]
    rw [if_neg (by omega)]; exact this, by simpa using h.nl, fun l hl => by simpa using h.loop l hl⟩
theorem iface_cells (k : Nat) (v : Value) : (Value.iface k v).cells = #[.iface k v] := rfl
end Go.Proofs.Ytfmkihikmlcimaa.Lift

set_option linter.unusedVariables false
set_option linter.unusedSimpArgs false
set_option maxRecDepth 20000
namespace Go.Proofs.Ytfmkihikmlcimaa.Lift
open Go Go.Proofs.Ytfmkihikmlcimaa.Gh Go.Proofs
def U (x : Int) : Prop := 0 ≤ x ∧ x < 18446744073709551616
theorem wrap_u32 (x : Int) : IntKind.wrap .u32 x = x % 4294967296 := by
  simp only [IntKind.wrap, IntKind.bits, IntKind.signed, Bool.false_and]
  simp
theorem wrap_u64 (x : Int) : IntKind.wrap .u64 x = x % 18446744073709551616 := by
  simp only [IntKind.wrap, IntKind.bits, IntKind.signed, Bool.false_and]
  simp
theorem shr_32 {w : Int} (h : U w) : shrI .u64 w 32 = w / 4294967296 := by
  show w.fdiv (2 ^ (min (32 : Int).toNat 64)) = _
  rw [show (min (32 : Int).toNat 64) = 32 from rfl, Int.fdiv_eq_ediv_of_nonneg _ (by decide)]; rfl
theorem shr_16 {w : Int} (h : U w) : shrI .u64 w 16 = w / 65536 := by
  show w.fdiv (2 ^ (min (16 : Int).toNat 64)) = _
  rw [show (min (16 : Int).toNat 64) = 16 from rfl, Int.fdiv_eq_ediv_of_nonneg _ (by decide)]; rfl
theorem shl_32 {l : Int} (h0 : 0 ≤ l) (h1 : l < 4294967296) : shlI .u64 l 32 = l * 4294967296 := by
  show IntKind.wrap .u64 (l * 2 ^ (min (32 : Int).toNat 64)) = _
  rw [show (min (32 : Int).toNat 64) = 32 from rfl, wrap_u64, show (2 : Int) ^ 32 = 4294967296 from rfl]
  omega
theorem ofInt_u64 {x : Int} (h : U x) : (BitVec.ofInt 64 x).toNat = x.toNat := by
  obtain ⟨n, rfl⟩ := Int.eq_ofNat_of_zero_le h.1
  have := h.2
  have e : (BitVec.ofInt 64 (n : Int)).toNat = n % 2 ^ 64 := by simp [BitVec.toNat_ofInt]
  rw [e]; simp; omega
theorem and_u64 {a b : Int} (ha : U a) (hb : U b) : andI .u64 a b = ((a.toNat &&& b.toNat : Nat) : Int) := by
  show IntKind.wrap .u64 (((BitVec.ofInt 64 a &&& BitVec.ofInt 64 b).toNat : Nat) : Int) = _
  have h1 : a.toNat &&& b.toNat ≤ a.toNat := Nat.and_le_left
  have := ha.1; have := ha.2
  rw [BitVec.toNat_and, ofInt_u64 ha, ofInt_u64 hb, wrap_u64]
  omega
theorem or_u64 {a b : Int} (ha : U a) (hb : U b) : orI .u64 a b = ((a.toNat ||| b.toNat : Nat) : Int) := by
  show IntKind.wrap .u64 (((BitVec.ofInt 64 a ||| BitVec.ofInt 64 b).toNat : Nat) : Int) = _
  have h1 : a.toNat ||| b.toNat < 2 ^ 64 := Nat.or_lt_two_pow (by have := ha.2; have := ha.1; omega) (by have := hb.2; have := hb.1; omega)
  rw [BitVec.toNat_or, ofInt_u64 ha, ofInt_u64 hb, wrap_u64]
  omega
theorem and_low {w : Int} (h : U w) : andI .u64 w 65535 = w % 65536 := by
  rw [and_u64 h ⟨by decide, by decide⟩]
  have : w.toNat &&& (65535 : Int).toNat = w.toNat % 65536 := Nat.and_two_pow_sub_one_eq_mod w.toNat 16
  rw [this]
  have := h.1
  omega
theorem and_bit {w : Int} (h : U w) : andI .u64 w 65536 = if w / 65536 % 2 = 1 then 65536 else 0 := by
  rw [and_u64 h ⟨by decide, by decide⟩]
  have e : w.toNat &&& (65536 : Int).toNat = (w.toNat.testBit 16).toNat * 2 ^ 16 := by
    apply Nat.eq_of_testBit_eq
    intro i
    rw [Nat.testBit_and, show (65536 : Int).toNat = 2 ^ 16 from rfl, Nat.testBit_two_pow]
    cases hb : w.toNat.testBit 16
    · by_cases hi : 16 = i
      · subst hi; simp [hb]
      · simp [hi]
    · by_cases hi : 16 = i
      · subst hi; simp [hb]; decide
      · rw [show (true.toNat * 2 ^ 16 : Nat) = 2 ^ 16 from rfl, Nat.testBit_two_pow]; simp [hi]
  rw [e, Nat.testBit_eq_decide_div_mod_eq]
  have := h.1
  obtain ⟨n, rfl⟩ := Int.eq_ofNat_of_zero_le h.1
  simp only [Int.toNat_natCast]
  by_cases hb : n / 2 ^ 16 % 2 = 1
  · have : ((n : Int) / 65536 % 2 = 1) := by omega
    rw [if_pos this]; simp [hb]
  · have : ¬ ((n : Int) / 65536 % 2 = 1) := by omega
    rw [if_neg this]; simp [hb]
theorem or_add {a b : Int} (i : Nat) (q : Nat) (ha : U a) (hb : U b) (h1 : a.toNat = 2 ^ i * q) (h2 : b.toNat < 2 ^ i) : orI .u64 a b = a + b := by
  rw [or_u64 ha hb, h1, ← Nat.two_pow_add_eq_or_of_lt h2 q, ← h1]
  have := ha.1; have := hb.1
  omega
theorem andNot_low {l : Int} (h0 : 0 ≤ l) (h1 : l < 4294967296) : andNotI .u64 (l * 4294967296) 65535 = l * 4294967296 := by
  obtain ⟨n, rfl⟩ := Int.eq_ofNat_of_zero_le h0
  show IntKind.wrap .u64 (((BitVec.ofInt 64 ((n : Int) * 4294967296) &&& ~~~ BitVec.ofInt 64 65535).toNat : Nat) : Int) = _
  have e1 : BitVec.ofInt 64 ((n : Int) * 4294967296) = BitVec.ofNat 64 (n * 2 ^ 32) := by
    rw [show ((n : Int) * 4294967296) = ((n * 2 ^ 32 : Nat) : Int) by rw [Int.natCast_mul]; rfl, BitVec.ofInt_natCast]
  have e2 : BitVec.ofInt 64 65535 = BitVec.ofNat 64 65535 := by decide
  have e3 : BitVec.ofNat 64 (n * 2 ^ 32) &&& ~~~ BitVec.ofNat 64 65535 = BitVec.ofNat 64 (n * 2 ^ 32) := by
    apply BitVec.eq_of_getLsbD_eq
    intro i hi
    rw [BitVec.getLsbD_and, BitVec.getLsbD_not, BitVec.getLsbD_ofNat, BitVec.getLsbD_ofNat]
    by_cases h : i < 32
    · have : (n * 2 ^ 32).testBit i = false := by rw [Nat.mul_comm, Nat.testBit_two_pow_mul]; simp; omega
      simp [this]
    · have : Nat.testBit 65535 i = false := by
        refine Nat.testBit_lt_two_pow (Nat.lt_of_lt_of_le (show 65535 < 2 ^ 16 by decide) (Nat.pow_le_pow_right (by decide) (by omega)))
      simp [this, hi]
  rw [e1, e2, e3, BitVec.toNat_ofNat, wrap_u64]
  omega
end Go.Proofs.Ytfmkihikmlcimaa.Lift

set_option linter.unusedVariables false
set_option linter.unusedSimpArgs false
set_option maxRecDepth 20000
namespace Go.Proofs.Ytfmkihikmlcimaa.Lift
open Go Go.Proofs.Ytfmkihikmlcimaa.Gh Go.Proofs
/-! ### Memories -/
/-- words, the last access, how many there were -/
structure MS where
  W : List Int
  kind : Int
  at_ : Int
  old : Int
  new : Int
  held : Bool
  many : Int
/-- an access: what is there then, and whether it is written -/
def MS.acc (s : MS) (kind at_ : Int) (upd : Int → Int × Bool) : MS :=
  if 0 ≤ at_ ∧ at_ < s.W.length then
    ⟨s.W.set at_.toNat (upd ((s.W[at_.toNat]?).getD 0)).1, kind, at_, (s.W[at_.toNat]?).getD 0, (upd ((s.W[at_.toNat]?).getD 0)).1, (upd ((s.W[at_.toNat]?).getD 0)).2, IntKind.wrap .i64 (s.many + 1)⟩
  else ⟨s.W, kind, at_, 0, 0, false, IntKind.wrap .i64 (s.many + 1)⟩
def uLoad (w : Int) : Int × Bool := (w, false)
def uStore (v w : Int) : Int × Bool := (v, true)
def uCas (a b w : Int) : Int × Bool := if w = a then (b, true) else (w, false)
def uAdd (n w : Int) : Int × Bool := (IntKind.wrap .u64 (w + n), true)
def MS.load (s : MS) (a : Int) : MS := s.acc 1 a uLoad
def MS.store (s : MS) (a v : Int) : MS := s.acc 2 a (uStore v)
def MS.cas (s : MS) (a x y : Int) : MS := s.acc 3 a (uCas x y)
def MS.add (s : MS) (a n : Int) : MS := s.acc 4 a (uAdd n)
theorem MS.acc_len (s : MS) (k a : Int) (u : Int → Int × Bool) : (s.acc k a u).W.length = s.W.length := by unfold MS.acc; split <;> simp
def MS.zero (n : Nat) : MS := ⟨List.replicate n 0, 0, 0, 0, 0, false, 0⟩
/-- the program's memory -/
structure PMr (A : Nat → Prop) (G : GS) (m bb : Nat) (rest : List Int) (s : MS) : Prop where
  un : Under A G
  am : A m
  ab : A bb
  hm : G.obj m = some ⟨[P0 bb, .int .i64 s.W.length, .int .i64 s.kind, .int .i64 s.at_, .int .u64 s.old, .int .u64 s.new, .bool s.held, .int .i64 s.many], 1, false, 1⟩
  hb : G.obj bb = some ⟨(s.W ++ rest).map (Value.int .u64), 1, false, 1⟩
  hl : s.W.length + rest.length = 4096
def PMx (A : Nat → Prop) (G : GS) (m : Nat) (s : MS) : Prop := ∃ bb rest, PMr A G m bb rest s
section
variable {A B : Nat → Prop} {G G' : GS} {m bb : Nat} {rest : List Int} {s : MS}
theorem PMr.kept (h : PMr A G m bb rest s) (hn : G.nx ≤ G'.nx) (hk : ∀ g, A g → G'.obj g = G.obj g) : PMr A G' m bb rest s :=
  ⟨h.un.le hn, h.am, h.ab, (hk _ h.am).trans h.hm, (hk _ h.ab).trans h.hb, h.hl⟩
theorem PMr.ext (h : PMr A G m bb rest s) (x : Ext G G') : PMr A G' m bb rest s := h.kept x.nx fun g hg => x.obj g (h.un g hg)
theorem PMr.mono (h : PMr A G m bb rest s) (hs : ∀ x, A x → B x) (hu : Under B G) : PMr B G m bb rest s := ⟨hu, hs _ h.am, hs _ h.ab, h.hm, h.hb, h.hl⟩
theorem PMx.un (h : PMx A G m s) : Under A G := let ⟨_, _, h⟩ := h; h.un
theorem PMx.kept (h : PMx A G m s) (hn : G.nx ≤ G'.nx) (hk : ∀ g, A g → G'.obj g = G.obj g) : PMx A G' m s := let ⟨_, _, h⟩ := h; ⟨_, _, h.kept hn hk⟩
theorem PMx.ext (h : PMx A G m s) (x : Ext G G') : PMx A G' m s := h.kept x.nx fun g hg => x.obj g (h.un g hg)
theorem PMx.mono (h : PMx A G m s) (hs : ∀ x, A x → B x) (hu : Under B G) : PMx B G m s := let ⟨_, _, h⟩ := h; ⟨_, _, h.mono hs hu⟩
theorem ModP.pre {G1 : GS} (x : Ext G G1) (h : ModP A G1 G') : ModP A G G' :=
  ⟨Nat.le_trans x.nx h.nx, fun g hg ha => (h.obj g (Nat.lt_of_lt_of_le hg x.nx) ha).trans (x.obj g hg), Nat.le_trans x.nl h.nl, fun l hl => (h.loop l (Nat.lt_of_lt_of_le hl x.nl)).trans (x.loop l hl)⟩
theorem grow_pre {G1 : GS} (x : Ext G G1) : ∀ g, Grow A G1 G' g → Grow A G G' g := fun g hg => hg.elim .inl fun h => .inr ⟨Nat.le_trans x.nx h.1, h.2⟩
/-- what is done behind a beginning -/
theorem PMx.pre {G1 : GS} (hu : Under A G) (x : Ext G G1) (q2 : ModP A G1 G') (q3 : PMx (Grow A G1 G') G' m s) : ModP A G G' ∧ PMx (Grow A G G') G' m s :=
  have q := ModP.pre x q2
  ⟨q, q3.mono (grow_pre x) (hu.grow q.nx)⟩
theorem PMr.ne (h : PMr A G m bb rest s) : m ≠ bb := fun e => by
  have h1 := h.hm
  rw [e, h.hb] at h1
  simp only [Option.some.injEq, GObj.mk.injEq, and_true] at h1
  cases hq : s.W ++ rest with
  | nil => rw [hq] at h1; simp at h1
  | cons a b => rw [hq] at h1; simp at h1
/-- the cell of a number -/
def cellV (bb : Nat) (s : MS) (a : Int) : Value := if 0 ≤ a ∧ a < s.W.length then .pointer (some ⟨bb, a.toNat, none⟩) else .pointer none
theorem cell_ok (orc : FuncId → Bool) (h : PMr A G m bb rest s) (a : Int) : (E orc).cl 88 [P0 m, .int .i64 a] G = some (cellV bb s a, G) := by
  refine f88 (exL_ok Q orc) _ _ G _ ?_
  have hl := h.hl
  unfold cellV
  by_cases h1 : a < 0
  · have h1' : ¬ (0 ≤ a ∧ a < (s.W.length : Int)) := by omega
    simp [s88, cell_eq, h.hm, h1, h1']
  · by_cases h2 : (s.W.length : Int) ≤ a
    · have h1' : ¬ (0 ≤ a ∧ a < (s.W.length : Int)) := by omega
      simp [s88, cell_eq, h.hm, h1, h2, h1']
    · have h1' : (0 ≤ a ∧ a < (s.W.length : Int)) := by omega
      have h3 : a < 4096 := by omega
      simp [s88, cell_eq, h.hm, h1, h2, h1', h3]
theorem is_ok (orc : FuncId → Bool) (o : Option Addr) (G : GS) : (E orc).cl 122 [.pointer o] G = some (.bool o.isSome, G) := by
  refine f122 (exL_ok Q orc) _ G _ ?_
  cases o <;> simp [s122]
theorem word_at (h : PMr A G m bb rest s) {a : Nat} (ha : a < s.W.length) : G.cell bb a = some (.int .u64 ((s.W[a]?).getD 0)) := by
  have : ((s.W ++ rest).map (Value.int .u64))[a]? = some (.int .u64 ((s.W[a]?).getD 0)) := by rw [List.getElem?_map, List.getElem?_append_left ha, List.getElem?_eq_getElem ha]; rfl
  simp only [cell_eq, h.hb, this]; rfl
abbrev accV (s : MS) : List Value := [.int .i64 s.kind, .int .i64 s.at_, .int .u64 s.old, .int .u64 s.new, .bool s.held]
/-- what an access comes to, given what its deed tells -/
theorem do_ok (orc : FuncId → Bool) (h : PMr A G m bb rest s) (kind a : Int) (f : FuncId) (dv : List Value) (upd : Int → Int × Bool)
    (hf : ∀ G1 w, bb < G1.nx → 0 ≤ a → a < s.W.length → G1.cell bb a.toNat = some (.int .u64 w) → ∃ G2, (E orc).cl f dv G1 = some (.tuple #[.int .u64 (upd w).1, .bool (upd w).2], G2) ∧ Ext G1 G2) :
    Wp ((E orc).cl 89 [P0 m, .int .i64 kind, .int .i64 a, cellV bb s a, .func (.func f) ⟨dv⟩ #[]] G) fun r => r.1 = .agg ⟨accV (s.acc kind a upd)⟩ ∧ ModP A G r.2 ∧ PMx (Grow A G r.2) r.2 m (s.acc kind a upd) := by
  refine Wp.ref (f89 (exL_ok Q orc) _ _ _ _ _ G) ?_
  have hm := h.hm
  have hmn := h.un _ h.am
  have hbn := h.un _ h.ab
  have hne := h.ne
  have hne' := hne.symm
  have m1 : m ≠ G.nx := by omega
  have m2 : G.nx ≠ m := by omega
  have b1 : bb ≠ G.nx := by omega
  have b2 : G.nx ≠ bb := by omega
  have hw : IntKind.wrap .i64 (s.many + 1) = IntKind.wrap .i64 (s.many + 1) := rfl
  by_cases hin : 0 ≤ a ∧ a < s.W.length
  · have hcv : cellV bb s a = .pointer (some ⟨bb, a.toNat, none⟩) := by unfold cellV; rw [if_pos hin]
    have his := is_ok orc (some ⟨bb, a.toNat, none⟩)
    obtain ⟨n, hn⟩ : ∃ n : Nat, a.toNat = n := ⟨_, rfl⟩
    have hnl : n < s.W.length := by omega
    have hww := word_at h hnl
    generalize hx : (s.W[n]?).getD 0 = w at hww
    have hacc : s.acc kind a upd = ⟨s.W.set n (upd w).1, kind, a, w, (upd w).1, (upd w).2, IntKind.wrap .i64 (s.many + 1)⟩ := by unfold MS.acc; rw [if_pos hin, hn, hx]
    rw [hcv, hacc]
    rw [hn] at his hf
    obtain ⟨GA, hGA⟩ : ∃ GA, GA = ((G.push ⟨[.int .i64 0, .int .i64 0, .int .u64 0, .int .u64 0, .bool false], 1, false, 1⟩).put m ⟨[P0 bb, .int .i64 s.W.length, .int .i64 s.kind, .int .i64 s.at_, .int .u64 s.old, .int .u64 s.new, .bool s.held, .int .i64 (IntKind.wrap .i64 (s.many + 1))], 1, false, 1⟩).put m ⟨[P0 bb, .int .i64 s.W.length, .int .i64 kind, .int .i64 a, .int .u64 0, .int .u64 0, .bool false, .int .i64 (IntKind.wrap .i64 (s.many + 1))], 1, false, 1⟩ := ⟨_, rfl⟩
    have oA : ∀ g, g ≠ m → g ≠ G.nx → GA.obj g = G.obj g := fun g h1 h2 => by rw [hGA]; simp [h1, h2]
    have oAm : GA.obj m = some ⟨[P0 bb, .int .i64 s.W.length, .int .i64 kind, .int .i64 a, .int .u64 0, .int .u64 0, .bool false, .int .i64 (IntKind.wrap .i64 (s.many + 1))], 1, false, 1⟩ := by rw [hGA]; simp
    have oAn : GA.obj G.nx = some ⟨[.int .i64 0, .int .i64 0, .int .u64 0, .int .u64 0, .bool false], 1, false, 1⟩ := by rw [hGA]; simp [m2]
    have nA : GA.nx = G.nx + 1 := by rw [hGA]; rfl
    have mA : ModP A G GA := by rw [hGA]; exact (((ModP.refl A G).push _).put (.inl h.am) _).put (.inl h.am) _
    have cA : GA.cell bb n = some (.int .u64 w) := by rw [← hww]; unfold GS.cell; rw [oA bb hne' b1]
    obtain ⟨GB, eB, xB⟩ := hf GA w (by omega) hin.1 hin.2 cA
    have cB : GB.obj bb = some ⟨(s.W ++ rest).map (Value.int .u64), 1, false, 1⟩ := by rw [xB.obj bb (by omega), oA bb hne' b1]; exact h.hb
    have oBm := (xB.obj m (by omega)).trans oAm
    have oBn := (xB.obj G.nx (by omega)).trans oAn
    have hwB : ((s.W ++ rest).map (Value.int .u64))[n]? = some (.int .u64 w) := by
      rw [List.getElem?_map, List.getElem?_append_left hnl, List.getElem?_eq_getElem hnl, ← hx, List.getElem?_eq_getElem hnl]; rfl
    have hlen : n < ((s.W ++ rest).map (Value.int .u64)).length := by simp; omega
    have hset : ((s.W ++ rest).map (Value.int .u64)).set n (.int .u64 (upd w).1) = (s.W.set n (upd w).1 ++ rest).map (Value.int .u64) := by
      rw [← List.map_set, List.set_append_left _ _ hnl]
    generalize hcells : (s.W ++ rest).map (Value.int .u64) = cells at *
    have hwB' : ∀ h : n < cells.length, cells[n] = .int .u64 w := fun h => by rw [List.getElem?_eq_getElem h] at hwB; exact Option.some.inj hwB
    simp [s89, sb89, j89_0, jb89_0, clip_t, hm, m1, m2, b1, b2, hn, ← hGA, his, eB, oBm, cB, hne, hne', hwB, hwB', hlen, loadA_eq, loadO, oBn, xB]
    refine ⟨?_, bb, rest, ?_⟩
    · exact (((((mA.trans (xB.modP _)).put (.inl h.am) _).put (.inl h.am) _).put (.inl h.am) _).put (.inl h.ab) _).put (.inr (Nat.le_refl _)) _
    · have nB := xB.nx
      refine ⟨fun x hx => ?_, .inl h.am, .inl h.ab, ?_, ?_, ?_⟩
      · rcases hx with hx | hx
        · have := h.un x hx; simp; omega
        · simpa using hx.2
      · simp [m1, hne]
      · simp [b1, ← hset]
      · simpa using h.hl
  · have hcv : cellV bb s a = .pointer none := by unfold cellV; rw [if_neg hin]
    have his := is_ok orc none
    have hacc : s.acc kind a upd = ⟨s.W, kind, a, 0, 0, false, IntKind.wrap .i64 (s.many + 1)⟩ := by unfold MS.acc; rw [if_neg hin]
    rw [hcv, hacc]
    simp [s89, sb89, j89_0, jb89_0, clip_t, hm, m1, m2, his]
    refine ⟨?_, bb, rest, ?_⟩
    · exact ((((ModP.refl A G).push _).put (.inl h.am) _).put (.inl h.am) _).put (.inr (Nat.le_refl _)) _
    · refine ⟨fun x hx => ?_, .inl h.am, .inl h.ab, ?_, ?_, h.hl⟩
      · rcases hx with hx | hx
        · have := h.un x hx; simp; omega
        · simpa using hx.2
      · simp [m1]
      · simp [b1, hne', h.hb]
/-! ### Loads and stores -/
theorem cellV_one (bb : Nat) (s : MS) (a : Int) : one (cellV bb s a) = true := by unfold cellV; split <;> rfl
theorem cellV_in {bb : Nat} {s : MS} {a : Int} (h1 : 0 ≤ a) (h2 : a < s.W.length) : cellV bb s a = .pointer (some ⟨bb, a.toNat, none⟩) := by unfold cellV; rw [if_pos ⟨h1, h2⟩]
theorem load_ok (orc : FuncId → Bool) (h : PMr A G m bb rest s) (a : Int) : Wp ((E orc).cl 52 [P0 m, .int .i64 a] G) fun r => r.1 = .int .u64 (s.load a).new ∧ ModP A G r.2 ∧ PMx (Grow A G r.2) r.2 m (s.load a) := by
  refine Wp.ref (f52 (exL_ok Q orc) _ _ G) ?_
  have hc := cell_ok orc h a
  obtain ⟨G1, hG1⟩ : ∃ G1, G1 = ((G.push ⟨[.pointer none, .int .u64 0, .int .u64 0], 1, false, 1⟩).put G.nx ⟨[cellV bb s a, .int .u64 0, .int .u64 0], 1, false, 1⟩) := ⟨_, rfl⟩
  have x1 : Ext G G1 := by rw [hG1]; exact ((Ext.refl G).push _).put (Nat.le_refl _) _
  have o1 : G1.obj G.nx = some ⟨[cellV bb s a, .int .u64 0, .int .u64 0], 1, false, 1⟩ := by rw [hG1]; simp
  obtain ⟨⟨v, G'⟩, e, q1, q2, q3⟩ := do_ok orc (h.ext x1) 1 a 90 [.agg ⟨[cellV bb s a, .int .u64 0, .int .u64 0]⟩] uLoad fun G1 w hb h1 h2 h3 => by
    have hbn : ¬ bb = G1.nx := by omega
    rw [cellV_in h1 h2]
    exact ⟨_, f90 (exL_ok Q orc) _ G1 _ (by simp [-cell_s, s90, cell_push, hbn, h3, uLoad]; rfl), (Ext.refl G1).push _⟩
  simp only at q1 q2 q3
  have hone := cellV_one bb s a
  generalize cellV bb s a = cv at *
  have hcs := cells_one hone
  simp [s52, hc, hcs, hone, ← hG1, o1, e, q1]
  exact ⟨rfl, PMx.pre h.un x1 q2 q3⟩
theorem store_ok (orc : FuncId → Bool) (h : PMr A G m bb rest s) (a v : Int) : Wp ((E orc).cl 57 [P0 m, .int .i64 a, .int .u64 v] G) fun r => r.1 = .tuple #[] ∧ ModP A G r.2 ∧ PMx (Grow A G r.2) r.2 m (s.store a v) := by
  refine Wp.ref (f57 (exL_ok Q orc) _ _ _ G) ?_
  have hc := cell_ok orc h a
  obtain ⟨G1, hG1⟩ : ∃ G1, G1 = ((G.push ⟨[.pointer none, .int .u64 0, .int .u64 0], 1, false, 1⟩).put G.nx ⟨[cellV bb s a, .int .u64 v, .int .u64 0], 1, false, 1⟩) := ⟨_, rfl⟩
  have x1 : Ext G G1 := by rw [hG1]; exact ((Ext.refl G).push _).put (Nat.le_refl _) _
  have o1 : G1.obj G.nx = some ⟨[cellV bb s a, .int .u64 v, .int .u64 0], 1, false, 1⟩ := by rw [hG1]; simp
  obtain ⟨⟨v', G'⟩, e, q1, q2, q3⟩ := do_ok orc (h.ext x1) 2 a 94 [.agg ⟨[cellV bb s a, .int .u64 v, .int .u64 0]⟩] (uStore v) fun G1 w hb h1 h2 h3 => by
    rw [cellV_in h1 h2]
    exact ⟨_, f94 (exL_ok Q orc) _ G1 _ (by simp [s94, uStore]; rfl), (Ext.refl G1).push _⟩
  simp only at q1 q2 q3
  have hone := cellV_one bb s a
  generalize cellV bb s a = cv at *
  have hcs := cells_one hone
  simp [s57, hc, hcs, hone, ← hG1, o1, e, q1]
  exact PMx.pre h.un x1 q2 q3
theorem cas_ok (orc : FuncId → Bool) (h : PMr A G m bb rest s) (a v w : Int) : Wp ((E orc).cl 148 [P0 m, .int .i64 a, .int .u64 v, .int .u64 w] G) fun r => r.1 = .bool (s.cas a v w).held ∧ ModP A G r.2 ∧ PMx (Grow A G r.2) r.2 m (s.cas a v w) := by
  refine Wp.ref (f148 (exL_ok Q orc) _ _ _ _ G) ?_
  have hc := cell_ok orc h a
  obtain ⟨G1, hG1⟩ : ∃ G1, G1 = ((G.push ⟨[.pointer none, .int .u64 0, .int .u64 0], 1, false, 1⟩).put G.nx ⟨[cellV bb s a, .int .u64 v, .int .u64 w], 1, false, 1⟩) := ⟨_, rfl⟩
  have x1 : Ext G G1 := by rw [hG1]; exact ((Ext.refl G).push _).put (Nat.le_refl _) _
  have o1 : G1.obj G.nx = some ⟨[cellV bb s a, .int .u64 v, .int .u64 w], 1, false, 1⟩ := by rw [hG1]; simp
  obtain ⟨⟨v', G'⟩, e, q1, q2, q3⟩ := do_ok orc (h.ext x1) 3 a 151 [.agg ⟨[cellV bb s a, .int .u64 v, .int .u64 w]⟩] (uCas v w) fun G1 x hb h1 h2 h3 => by
    rw [cellV_in h1 h2]
    have hbn : ¬ bb = G1.nx := by omega
    refine ⟨(G1.push ⟨[.pointer (some ⟨bb, a.toNat, none⟩), .int .u64 v, .int .u64 w], 1, false, 1⟩).room 7, f151 (exL_ok Q orc) _ G1 _ ?_, ((Ext.refl G1).push _).room 7⟩
    by_cases hx : x = v
    · simp [-cell_s, s151, cell_push, hbn, h3, uCas, hx]
    · simp [-cell_s, s151, cell_push, hbn, h3, uCas, hx]
  simp only at q1 q2 q3
  have hone := cellV_one bb s a
  generalize cellV bb s a = cv at *
  have hcs := cells_one hone
  simp [s148, hc, hcs, hone, ← hG1, o1, e, q1]
  exact ⟨rfl, PMx.pre h.un x1 q2 q3⟩
theorem new_ok (orc : FuncId → Bool) (n : Int) (G : GS) : (n < 1 ∨ 4096 < n → (E orc).cl 22 [.int .i64 n] G = some (.tuple #[.pointer none, .int .i64 3], G)) ∧
    (1 ≤ n → n ≤ 4096 → ∃ m G', (E orc).cl 22 [.int .i64 n] G = some (.tuple #[P0 m, .int .i64 0], G') ∧ Ext G G' ∧ PMx (fun x => G.nx ≤ x ∧ x < G'.nx) G' m (MS.zero n.toNat)) := by
  constructor
  · intro h
    refine f22 (exL_ok Q orc) _ G _ ?_
    by_cases h1 : n < 1
    · simp [s22, h1]
    · have h2 : 4096 < n := by omega
      simp [s22, h1, h2]
  · intro h1 h2
    have h1' : ¬ n < 1 := by omega
    have h2' : ¬ 4096 < n := by omega
    refine ⟨G.nx + 1, _, f22 (exL_ok Q orc) _ G _ (by simp [s22, h1', h2']; rfl), ((Ext.refl G).push _).push _, G.nx, List.replicate (4096 - n.toNat) 0, ?_⟩
    refine ⟨fun x hx => hx.2, ⟨by omega, by simp⟩, ⟨by omega, by simp; omega⟩, ?_, ?_, ?_⟩
    · have : ((n.toNat : Nat) : Int) = n := by omega
      simp [MS.zero, this]
    · have : List.replicate n.toNat (0 : Int) ++ List.replicate (4096 - n.toNat) 0 = List.replicate 4096 0 := by
        rw [List.replicate_append_replicate]; congr 1; omega
      simp only [MS.zero, this, List.map_replicate]
      simp
    · simp [MS.zero]; omega
theorem last_ok (orc : FuncId → Bool) (h : PMr A G m bb rest s) : ∃ G', (E orc).cl 109 [P0 m] G = some (.agg ⟨accV s⟩, G') ∧ Ext G G' := by
  have hmn := h.un _ h.am
  have m1 : m ≠ G.nx := by omega
  have m2 : G.nx ≠ m := by omega
  exact ⟨_, f109 (exL_ok Q orc) _ G _ (by simp [s109, h.hm, m1, m2]; rfl), ((Ext.refl G).push _).put (Nat.le_refl _) _⟩
end
end Go.Proofs.Ytfmkihikmlcimaa.Lift

set_option linter.unusedVariables false
set_option linter.unusedSimpArgs false
set_option maxRecDepth 20000
namespace Go.Proofs.Ytfmkihikmlcimaa.Lift
open Go Go.Proofs.Ytfmkihikmlcimaa.Gh Go.Proofs
@[simp] theorem rowsI_sz (k : IntKind) : (rowsI k).sz = 1 := rfl
@[simp] theorem rowsI_row (k : IntKind) (x : Int) : (rowsI k).row x = [.int k x] := rfl
theorem flat_ints (k : IntKind) (L : List Int) : (rowsI k).flat L = L.map (Value.int k) := by
  induction L with
  | nil => rfl
  | cons a l ih => rw [RowE.flat_cons, ih]; rfl
section
variable {A : Nat → Prop} {G : GS} {m bb : Nat} {rest : List Int} {s : MS}
theorem words_lp (orc : FuncId → Bool) {B : GS} {W rest : List Int} {bb nb : Nat} (hbb : B.obj bb = some ⟨(W ++ rest).map (Value.int .u64), 1, false, 1⟩) (hlt : bb < B.nx) (hnb : B.nx ≤ nb) (hW : W.length ≤ 4096) (c : Nat) : ∀ (k i : Nat) (τ : Env) (G : GS), i + k = W.length → τ 3 = .slice (some ⟨nb, 0, none⟩) W.length W.length → τ 29 = .slice (some ⟨bb, 0, none⟩) W.length c → τ 30 = .int .i64 W.length → τ 31 = .int .i64 i →
    Ext B G → nb < G.nx → G.obj nb = some ⟨(W.take i ++ List.replicate k 0).map (Value.int .u64), 1, false, 1⟩ →
    Wp ((exL Q orc).lpx 9 0 τ G) fun r => r.1 = .exit 0 ∧ Ext B r.2.2 ∧ nb < r.2.2.nx ∧ r.2.1 3 = .slice (some ⟨nb, 0, none⟩) W.length W.length ∧ r.2.2.obj nb = some ⟨W.map (Value.int .u64), 1, false, 1⟩ := by
  intro k
  induction k with
  | zero =>
    intro i τ G hi t3 t29 t30 t31 hx hn ho
    have hi' : i = W.length := by omega
    subst hi'
    refine Wp.lp (l9_0 (exL_ok Q orc)) ?_
    simp at ho
    simp [b9_0, clip_t, t3, t29, t30, t31]
    exact ⟨hx, hn, ho⟩
  | succ k ih =>
    intro i τ G hi t3 t29 t30 t31 hx hn ho
    have hlt' : i < W.length := by omega
    have hi0 : (0 : Int) ≤ i := by omega
    have hw : IntKind.wrap .i64 ((i : Int) + 1) = ((i + 1 : Nat) : Int) := wrap64 (by omega) (by omega)
    have ob := (hx.obj bb hlt).trans hbb
    have hwi : ((W ++ rest).map (Value.int .u64))[i]? = some (.int .u64 W[i]) := by rw [List.getElem?_map, List.getElem?_append_left hlt', List.getElem?_eq_getElem hlt']; rfl
    have hwi' : ∀ h : i < ((W ++ rest).map (Value.int .u64)).length, ((W ++ rest).map (Value.int .u64))[i] = .int .u64 W[i] := fun h => by rw [List.getElem?_eq_getElem h] at hwi; exact Option.some.inj hwi
    have hset : ((W.take i ++ List.replicate (k + 1) 0).map (Value.int .u64)).set i (.int .u64 W[i]) = (W.take (i + 1) ++ List.replicate k 0).map (Value.int .u64) := by
      have hl : (W.take i).length = i := by simp; omega
      rw [← List.map_set, List.set_append_right _ _ (by omega), hl, Nat.sub_self, List.replicate_succ, List.set_cons_zero, List.take_add_one, List.getElem?_eq_getElem hlt', Option.toList_some, List.append_assoc]; rfl
    have hlen : i < ((W.take i ++ List.replicate (k + 1) 0).map (Value.int .u64)).length := by simp; omega
    generalize hc1 : (W ++ rest).map (Value.int .u64) = c1 at *
    generalize hc2 : (W.take i ++ List.replicate (k + 1) 0).map (Value.int .u64) = c2 at *
    refine Wp.lp (l9_0 (exL_ok Q orc)) ?_
    have hl1 : i < c1.length := by rw [← hc1]; simp; omega
    simp [-Int.natCast_add, b9_0, clip_t, t3, t29, t30, t31, hlt', hi0, ob, hwi, hwi', hl1, ho, hlen, hset, hw]
    refine ih (i + 1) _ _ (by omega) (by simp [clip_t]) (by simp [clip_t]) (by simp [clip_t]) (by simp [clip_t]) (hx.put hnb _) hn ?_
    simp
theorem words_ok (orc : FuncId → Bool) (h : PMr A G m bb rest s) : ∃ v G', (E orc).cl 9 [P0 m] G = some (v, G') ∧ Ext G G' ∧ OwR (rowsI .u64) G.nx G' v s.W := by
  have hl := h.hl
  have hmn := h.un _ h.am
  have hbn := h.un _ h.ab
  have m1 : m ≠ G.nx := by omega
  have b1 : bb ≠ G.nx := by omega
  have hm := h.hm
  have hmk : mkK 1 8 z28 s.W.length s.W.length G = some (.slice (some ⟨G.nx, 0, none⟩) s.W.length s.W.length, G.push ⟨(List.replicate s.W.length 0).map (Value.int .u64), 1, false, 1⟩) := by
    unfold mkK
    rw [if_pos ⟨by omega, by omega, by decide, by omega, wrap64 (by omega) (by omega), wrap64 (by omega) (by omega)⟩]
    have : rep z28 ((s.W.length : Nat) : Int).toNat = (List.replicate s.W.length 0).map (Value.int .u64) := by
      simp only [Int.toNat_natCast]
      generalize s.W.length = n
      induction n with
      | zero => rfl
      | succ n ih => show z28 ++ rep z28 n = _; rw [ih]; rfl
    rw [this]; rfl
  have hs4 : ((s.W.length : Nat) : Int) ≤ 4096 := by omega
  have w : Wp (s9 true (exL Q orc) (P0 m) G) fun r => Ext G r.2 ∧ OwR (rowsI .u64) G.nx r.2 r.1 s.W := by
    generalize hrz : (List.replicate s.W.length 0).map (Value.int .u64) = rz at *
    have hs5 : s.W.length ≤ 4096 := by omega
    simp [-List.map_replicate, s9, hm, hmk, m1, slA, bound, hs4, hs5]
    refine Wp.bE ((words_lp orc (rest := rest) h.hb hbn (Nat.le_refl _) hs5 4096 s.W.length 0 _ _ (by omega) (by simp) (by simp) (by simp) (by simp) (((Ext.refl G).push _).room 12) (by simp; omega) (by simp [← hrz])).mono ?_)
    rintro ⟨e, τ, G'⟩ ⟨rfl, q1, q2, q3, q4⟩
    simp only at q1 q2 q3 q4
    simp [q3]
    exact ⟨q1, by rw [RowE.flat_length], .inr ⟨G.nx, false, rfl, Nat.le_refl _, q2, by rw [q4, flat_ints]; rfl⟩⟩
  obtain ⟨⟨v, G'⟩, e1, e2, e3⟩ := w
  exact ⟨v, G', f9 (exL_ok Q orc) _ G _ e1, e2, e3⟩
end
end Go.Proofs.Ytfmkihikmlcimaa.Lift

set_option linter.unusedVariables false
set_option linter.unusedSimpArgs false
set_option maxRecDepth 20000
namespace Go.Proofs.Ytfmkihikmlcimaa.Lift
open Go Go.Proofs.Ytfmkihikmlcimaa.Gh Go.Proofs
/-- the document's memory -/
structure RMr (A : Nat → Prop) (G : GS) (r wb : Nat) (s : MS) : Prop where
  un : Under A G
  ar : A r
  aw : A wb
  hr : G.obj r = some ⟨[.slice (some ⟨wb, 0, none⟩) s.W.length s.W.length, .int .i64 s.kind, .int .i64 s.at_, .int .u64 s.old, .int .u64 s.new, .bool s.held, .int .i64 s.many], 1, false, 1⟩
  hw : G.obj wb = some ⟨s.W.map (Value.int .u64), 1, false, 1⟩
  hl : s.W.length ≤ 4096
def RMx (A : Nat → Prop) (G : GS) (r : Nat) (s : MS) : Prop := ∃ wb, RMr A G r wb s
section
variable {A B : Nat → Prop} {G G' : GS} {r wb : Nat} {s : MS}
theorem RMr.kept (h : RMr A G r wb s) (hn : G.nx ≤ G'.nx) (hk : ∀ g, A g → G'.obj g = G.obj g) : RMr A G' r wb s :=
  ⟨h.un.le hn, h.ar, h.aw, (hk _ h.ar).trans h.hr, (hk _ h.aw).trans h.hw, h.hl⟩
theorem RMr.ext (h : RMr A G r wb s) (x : Ext G G') : RMr A G' r wb s := h.kept x.nx fun g hg => x.obj g (h.un g hg)
theorem RMr.mono (h : RMr A G r wb s) (hs : ∀ x, A x → B x) (hu : Under B G) : RMr B G r wb s := ⟨hu, hs _ h.ar, hs _ h.aw, h.hr, h.hw, h.hl⟩
theorem RMx.un (h : RMx A G r s) : Under A G := let ⟨_, h⟩ := h; h.un
theorem RMx.kept (h : RMx A G r s) (hn : G.nx ≤ G'.nx) (hk : ∀ g, A g → G'.obj g = G.obj g) : RMx A G' r s := let ⟨_, h⟩ := h; ⟨_, h.kept hn hk⟩
theorem RMx.ext (h : RMx A G r s) (x : Ext G G') : RMx A G' r s := h.kept x.nx fun g hg => x.obj g (h.un g hg)
theorem RMx.mono (h : RMx A G r s) (hs : ∀ x, A x → B x) (hu : Under B G) : RMx B G r s := let ⟨_, h⟩ := h; ⟨_, h.mono hs hu⟩
theorem RMr.ne (h : RMr A G r wb s) : r ≠ wb := fun e => by
  have h1 := h.hr
  rw [e, h.hw] at h1
  simp only [Option.some.injEq, GObj.mk.injEq, and_true] at h1
  cases hq : s.W with
  | nil => rw [hq] at h1; simp at h1
  | cons a b => rw [hq] at h1; simp at h1
def MS.at' (s : MS) (a : Int) : Int := if 0 ≤ a ∧ a < s.W.length then (s.W[a.toNat]?).getD 0 else 0
theorem RMr.same (h : RMr A G' r wb s) (hm : ModP A G G') (hu : Under A G) : RMx (Grow A G G') G' r s := ⟨wb, h.mono (fun x => .inl) (hu.grow hm.nx)⟩
theorem RMr.slr (h : RMr A G r wb s) : SlR (rowsI .u64) G (.slice (some ⟨wb, 0, none⟩) s.W.length s.W.length) s.W :=
  ⟨⟨by rw [RowE.flat_length], .inr ⟨wb, 0, s.W.length, _, rfl, Nat.le_refl _, h.un _ h.aw, h.hw, by simp, fun i _ => by rw [flat_ints]; simp⟩⟩, fun a n c he ob ho hop => by cases he; rw [h.hw] at ho; cases ho; rfl⟩
end
end Go.Proofs.Ytfmkihikmlcimaa.Lift

set_option linter.unusedVariables false
set_option linter.unusedSimpArgs false
set_option maxRecDepth 20000
namespace Go.Proofs.Ytfmkihikmlcimaa.Lift
open Go Go.Proofs.Ytfmkihikmlcimaa.Gh Go.Proofs
theorem sepP (m : Nat) (s : MS) : Sep fun A G => PMx A G m s := ⟨PMx.un, PMx.kept, PMx.mono⟩
theorem sepR (r : Nat) (s : MS) : Sep fun A G => RMx A G r s := ⟨RMx.un, RMx.kept, RMx.mono⟩
def MS.ok (s : MS) : Prop := (∀ w ∈ s.W, U w) ∧ s.W.length ≤ 4096
theorem MS.ok.word {s : MS} (h : s.ok) (i : Nat) : U ((s.W[i]?).getD 0) := by
  cases hq : s.W[i]? with
  | none => exact ⟨by decide, by decide⟩
  | some w => exact h.1 w (List.mem_of_getElem? hq)
theorem MS.ok.acc {s : MS} (h : s.ok) {u : Int → Int × Bool} (hu : ∀ w, U w → U (u w).1) (k a : Int) : (s.acc k a u).ok ∧ U (s.acc k a u).new := by
  unfold MS.acc
  split
  · refine ⟨⟨fun w hw => ?_, by simpa using h.2⟩, hu _ (h.word _)⟩
    rcases List.mem_or_eq_of_mem_set hw with hw | rfl
    · exact h.1 w hw
    · exact hu _ (h.word _)
  · exact ⟨h, (show (0:Int) ≤ 0 by decide), (show (0:Int) < 18446744073709551616 by decide)⟩
theorem MS.ok.load {s : MS} (h : s.ok) (a : Int) : (s.load a).ok ∧ U (s.load a).new := h.acc (fun w hw => hw) 1 a
theorem MS.ok.store {s : MS} (h : s.ok) (a : Int) {v : Int} (hv : U v) : (s.store a v).ok := (h.acc (fun w hw => hv) 2 a).1
theorem MS.ok.cas {s : MS} (h : s.ok) (a x : Int) {y : Int} (hy : U y) : (s.cas a x y).ok := (h.acc (fun w hw => by unfold uCas; split <;> assumption) 3 a).1
theorem U_wrap (x : Int) : U (IntKind.wrap .u64 x) := by rw [wrap_u64]; unfold U; omega
theorem MS.ok.add {s : MS} (h : s.ok) (a n : Int) : (s.add a n).ok ∧ U (s.add a n).new := h.acc (fun w hw => U_wrap _) 4 a
theorem U_zero' : U 0 := ⟨by decide, by decide⟩
theorem MS.ok.at' {s : MS} (h : s.ok) (a : Int) : U (s.at' a) := by
  unfold MS.at'; split
  · exact h.word _
  · exact U_zero'
end Go.Proofs.Ytfmkihikmlcimaa.Lift

