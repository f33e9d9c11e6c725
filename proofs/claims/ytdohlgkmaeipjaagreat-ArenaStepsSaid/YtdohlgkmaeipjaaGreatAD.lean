/- contracts of the program's functions -/
import Derived.Test.YtdohlgkmaeipjaaGreatAC
set_option linter.unusedVariables false
set_option linter.unusedSimpArgs false
set_option maxRecDepth 20000
namespace Go.Proofs.YtdohlgkmaeipjaaGreat.Lift
open Go Go.Proofs.YtdohlgkmaeipjaaGreat.Gh Go.Proofs
/-! ### The document's Pop and Push -/
abbrev rL (R : Sk) (line w i j : Int) : List Value := [.int .i64 R.top, .int .i64 R.links, .int .i64 R.size, .int .i64 line, .int .u64 w, .int .i64 i, .int .i64 j]
def RpopR (R : Sk) (G : GS) (b : Nat) : PopS → Prop
  | .go n w i j => G.obj b = some ⟨rL R n w i j, 1, false, 1⟩
  | .done i => ∃ w j, G.obj b = some ⟨rL R 9 w i j, 1, false, 1⟩
def RpusR (R : Sk) (G : GS) (b : Nat) : PusS → Prop
  | .go n w i => G.obj b = some ⟨rL R n w i 0, 1, false, 1⟩
  | .done e => ∃ w i, G.obj b = some ⟨rL R 9 w i e, 1, false, 1⟩
theorem RpopR.kept {R : Sk} {G G' : GS} {b : Nat} {p : PopS} (h : RpopR R G b p) (hk : G'.obj b = G.obj b) : RpopR R G' b p := by
  cases p with
  | done i => obtain ⟨w, j, h⟩ := h; exact ⟨w, j, hk.trans h⟩
  | go n w i j => exact hk.trans h
theorem RpusR.kept {R : Sk} {G G' : GS} {b : Nat} {p : PusS} (h : RpusR R G b p) (hk : G'.obj b = G.obj b) : RpusR R G' b p := by
  cases p with
  | done i => obtain ⟨w, j, h⟩ := h; exact ⟨w, j, hk.trans h⟩
  | go n w i => exact hk.trans h
section
variable {m r b : Nat} {own own1 : Nat → Nat} {G G1 : GS} {s s' : MS} {R : Sk}
theorem rpop_ok (orc : FuncId → Bool) {p : PopS} (h : RM own G r s) (hs : s.ok) (hR : R.ok) (hb : b < G.nx) (tb : own b ≠ 11) (hp : p.ok R) (hr : RpopR R G b p) :
    ∃ own1 G1, (E orc).cl 262 [P0 b, P0 r] G = some (.bool (p.step R s).1.over, G1) ∧ RW (fun x => x = b) own G own1 G1 r (p.step R s).2 ∧ RpopR R G1 b (p.step R s).1 := by
  cases p with
  | done i =>
    obtain ⟨w, j, ho⟩ := hr
    refine ⟨own, G, f262 (exL_ok Q orc) _ _ G _ ?_, RW.refl h, w, j, ho⟩
    simp [s262, sb262, j262_0, jb262_0, clip_t, ho, PopS.step, PopS.over]
  | go n w i j =>
    obtain ⟨h1, h2, h3, h4, h5, h6, h7, h8⟩ := hp
    have hR1 := hR.1; have hR2 := hR.2.1; have hR5 := hR.2.2.2.2.1; have hR6 := hR.2.2.2.2.2
    have ho : G.obj b = _ := hr
    rcases (show n = 1 ∨ n = 2 ∨ n = 3 by omega) with rfl | rfl | rfl
    · obtain ⟨own1, G1, e1, w1⟩ := h.load orc R.top
      have hw := (hs.load R.top).2
      simp only [PopS.step, if_true]
      generalize s.load R.top = s' at *
      have o1 := (w1.keep hb tb id).trans ho
      have w1' : RW (fun x => x = b) own G own1 G1 r s' := w1.mono fun _ _ h => h.elim
      obtain ⟨G2, hG2⟩ : ∃ G2, G2 = (G1.put b ⟨rL R 1 s'.new i j, 1, false, 1⟩).room 13 := ⟨_, rfl⟩
      have w2 := (w1'.putB (b := b) rfl hb tb ⟨rL R 1 s'.new i j, 1, false, 1⟩).ext ((Ext.refl _).room 13)
      rw [← hG2] at w2
      have o2 : G2.obj b = some ⟨rL R 1 s'.new i j, 1, false, 1⟩ := by rw [hG2]; simp
      obtain ⟨G3, e3, x3⟩ := rindex_ok orc (a := R.top) (b := R.links) (size := R.size) hw G2
      have w3 := w2.ext x3
      have o3 := (x3.obj b (Nat.lt_of_lt_of_le hb w2.nx)).trans o2
      generalize idxI R.size s'.new = i' at *
      have w4 := (w3.putB (b := b) rfl hb tb ⟨rL R 1 s'.new i' j, 1, false, 1⟩).putB (b := b) rfl hb tb ⟨rL R 2 s'.new i' j, 1, false, 1⟩
      simp at ho o1 o2 o3
      by_cases hc : i' < 0
      · rw [if_pos hc]
        have w5 := w4.putB (b := b) rfl hb tb ⟨rL R 9 s'.new i' j, 1, false, 1⟩
        refine ⟨_, _, f262 (exL_ok Q orc) _ _ G _ ?_, w5, s'.new, j, by simp⟩
        simp [s262, sb262, j262_0, jb262_0, clip_t, ho, e1, o1, ← hG2, o2, e3, o3, hc, PopS.over]
      · rw [if_neg hc]
        refine ⟨_, _, f262 (exL_ok Q orc) _ _ G _ ?_, w4, by simp [RpopR]⟩
        simp [s262, sb262, j262_0, jb262_0, clip_t, ho, e1, o1, ← hG2, o2, e3, o3, hc, PopS.over]
    · have hi := h8 (by decide)
      have ha : IntKind.wrap .i64 (R.links + i) = R.links + i := wrap64 (by omega) (by omega)
      have w0 := (RW.refl (B := fun x => x = b) h).ext ((Ext.refl G).room 21)
      obtain ⟨own1, G1, e1, w1⟩ := w0.rm.load orc (R.links + i)
      have w01 := w0.trans w1 fun _ _ h => h.elim
      have t0 : grown own G 13 b = own b := grown_agr b hb
      have o1 := (w1.keep (show b < (G.room 21).nx by simp; omega) (by rw [t0]; exact tb) id).trans ho
      simp only [PopS.step]
      have hw := (hs.load (R.links + i)).2
      generalize s.load (R.links + i) = s' at *
      obtain ⟨G2, e2, x2⟩ := rindex_ok orc (a := R.top) (b := R.links) (size := R.size) hw G1
      have o2 := (x2.obj b (Nat.lt_of_lt_of_le hb w01.nx)).trans o1
      have w02 := w01.ext x2
      generalize idxI R.size s'.new = j' at *
      have w3 := (w02.putB (b := b) rfl hb tb ⟨rL R 2 w i j', 1, false, 1⟩).putB (b := b) rfl hb tb ⟨rL R 3 w i j', 1, false, 1⟩
      simp at ho o1 o2
      refine ⟨_, _, f262 (exL_ok Q orc) _ _ G _ ?_, w3, by simp [RpopR]⟩
      simp [s262, sb262, j262_0, jb262_0, clip_t, ho, ha, e1, o1, e2, o2, PopS.over]
    · obtain ⟨G1, hG1⟩ : ∃ G1, G1 = (G.put b ⟨rL R 1 w i j, 1, false, 1⟩).room 20 := ⟨_, rfl⟩
      have w1 := ((RW.refl (B := fun x => x = b) h).putB rfl hb tb ⟨rL R 1 w i j, 1, false, 1⟩).ext ((Ext.refl _).room 20)
      rw [← hG1] at w1
      have o1 : G1.obj b = some ⟨rL R 1 w i j, 1, false, 1⟩ := by rw [hG1]; simp
      have n1 : b < G1.nx := Nat.lt_of_lt_of_le hb w1.nx
      have e1 := rtop_ok orc (j := j) (by omega) h3 G1
      obtain ⟨own2, G2, e2, w2⟩ := w1.rm.cas orc R.top w (topI j w)
      have o2 := (w2.keep n1 (by rw [w1.stp.same hb]; exact tb) id).trans o1
      have w12 := w1.trans w2 fun _ _ h => h.elim
      simp only [PopS.step]
      generalize s.cas R.top w (topI j w) = s' at *
      simp at ho o1 o2
      cases hc : s'.held with
      | true =>
        have w4 := w12.putB (b := b) rfl hb tb ⟨rL R 9 w i j, 1, false, 1⟩
        refine ⟨own2, _, f262 (exL_ok Q orc) _ _ G _ ?_, by simpa [hc] using w4, w, j, by simp⟩
        simp [s262, sb262, j262_0, jb262_0, clip_t, ho, ← hG1, o1, e1, e2, hc, o2, PopS.over]
      | false =>
        refine ⟨own2, _, f262 (exL_ok Q orc) _ _ G _ ?_, by simpa [hc] using w12, by simp [RpopR, o2]⟩
        simp [s262, sb262, j262_0, jb262_0, clip_t, ho, ← hG1, o1, e1, e2, hc, o2, PopS.over]
theorem rpush_ok (orc : FuncId → Bool) {p : PusS} (h : RM own G r s) (hs : s.ok) (hR : R.ok) (hb : b < G.nx) (tb : own b ≠ 11) (hp : p.ok R) (hr : RpusR R G b p) :
    ∃ own1 G1, (E orc).cl 265 [P0 b, P0 r] G = some (.bool (p.step R s).1.over, G1) ∧ RW (fun x => x = b) own G own1 G1 r (p.step R s).2 ∧ RpusR R G1 b (p.step R s).1 := by
  cases p with
  | done e =>
    obtain ⟨w, i, ho⟩ := hr
    refine ⟨own, G, f265 (exL_ok Q orc) _ _ G _ ?_, RW.refl h, w, i, ho⟩
    simp [s265, sb265, j265_0, jb265_0, clip_t, ho, PusS.step, PusS.over]
  | go n w i =>
    obtain ⟨h1, h2, h3, h4, h5⟩ := hp
    have hR1 := hR.1; have hR2 := hR.2.1; have hR5 := hR.2.2.2.2.1; have hR6 := hR.2.2.2.2.2
    have ho : G.obj b = _ := hr
    rcases (show n = 1 ∨ n = 2 ∨ n = 3 by omega) with rfl | rfl | rfl
    · obtain ⟨own1, G1, e1, w1⟩ := h.load orc R.top
      simp only [PusS.step, if_true]
      generalize s.load R.top = s' at *
      have o1 := (w1.keep hb tb id).trans ho
      have w1' : RW (fun x => x = b) own G own1 G1 r s' := w1.mono fun _ _ h => h.elim
      have w4 := (w1'.putB (b := b) rfl hb tb ⟨rL R 1 s'.new i 0, 1, false, 1⟩).putB (b := b) rfl hb tb ⟨rL R 2 s'.new i 0, 1, false, 1⟩
      simp at ho o1
      refine ⟨_, _, f265 (exL_ok Q orc) _ _ G _ ?_, w4, by simp [RpusR]⟩
      simp [s265, sb265, j265_0, jb265_0, clip_t, ho, e1, o1, PusS.over]
    · have g1 := @idxI_ge R.size w
      have g2 := @idxI_lt R.size w (by omega)
      have ha : IntKind.wrap .i64 (R.links + i) = R.links + i := wrap64 (by omega) (by omega)
      have ha1 : IntKind.wrap .i64 (idxI R.size w + 1) = idxI R.size w + 1 := wrap64 (by omega) (by omega)
      have ha2 : IntKind.wrap .u64 (idxI R.size w + 1) = idxI R.size w + 1 := by rw [wrap_u64]; omega
      obtain ⟨k, hk⟩ : ∃ k, G.room k = G.room k := ⟨0, rfl⟩
      clear hk k
      obtain ⟨G1, e1, x1⟩ := rindex_ok orc (a := R.top) (b := R.links) (size := R.size) h3 (G.room 23)
      have w1 := ((RW.refl (B := fun x => x = b) h).ext ((Ext.refl G).room 23)).ext x1
      have o1 := ((((Ext.refl G).room 23).trans x1).obj b hb).trans ho
      obtain ⟨own2, G2, e2, w2⟩ := w1.rm.store orc (R.links + i) (idxI R.size w + 1)
      have o2 := (w2.keep (Nat.lt_of_lt_of_le hb w1.nx) (by rw [w1.stp.same hb]; exact tb) id).trans o1
      have w12 := w1.trans w2 fun _ _ h => h.elim
      have w3 := w12.putB (b := b) rfl hb tb ⟨rL R 3 w i 0, 1, false, 1⟩
      simp only [PusS.step]
      generalize s.store (R.links + i) (idxI R.size w + 1) = s' at *
      simp at ho o1 o2
      refine ⟨_, _, f265 (exL_ok Q orc) _ _ G _ ?_, w3, by simp [RpusR]⟩
      simp [s265, sb265, j265_0, jb265_0, clip_t, ho, e1, o1, ha, ha1, ha2, e2, o2, PusS.over]
    · obtain ⟨G1, hG1⟩ : ∃ G1, G1 = (G.put b ⟨rL R 1 w i 0, 1, false, 1⟩).room 20 := ⟨_, rfl⟩
      have w1 := ((RW.refl (B := fun x => x = b) h).putB rfl hb tb ⟨rL R 1 w i 0, 1, false, 1⟩).ext ((Ext.refl _).room 20)
      rw [← hG1] at w1
      have o1 : G1.obj b = some ⟨rL R 1 w i 0, 1, false, 1⟩ := by rw [hG1]; simp
      have n1 : b < G1.nx := Nat.lt_of_lt_of_le hb w1.nx
      have e1 := rtop_ok orc (j := i) (by omega) h3 G1
      obtain ⟨own2, G2, e2, w2⟩ := w1.rm.cas orc R.top w (topI i w)
      have o2 := (w2.keep n1 (by rw [w1.stp.same hb]; exact tb) id).trans o1
      have w12 := w1.trans w2 fun _ _ h => h.elim
      simp only [PusS.step]
      generalize s.cas R.top w (topI i w) = s' at *
      simp at ho o1 o2
      cases hc : s'.held with
      | true =>
        have w4 := w12.putB (b := b) rfl hb tb ⟨rL R 9 w i 0, 1, false, 1⟩
        refine ⟨own2, _, f265 (exL_ok Q orc) _ _ G _ ?_, by simpa [hc] using w4, w, i, by simp⟩
        simp [s265, sb265, j265_0, jb265_0, clip_t, ho, ← hG1, o1, e1, e2, hc, o2, PusS.over]
      | false =>
        refine ⟨own2, _, f265 (exL_ok Q orc) _ _ G _ ?_, by simpa [hc] using w12, by simp [RpusR, o2]⟩
        simp [s265, sb265, j265_0, jb265_0, clip_t, ho, ← hG1, o1, e1, e2, hc, o2, PusS.over]
theorem rnewpop_ok (orc : FuncId → Bool) (R : Sk) (G : GS) : ∃ b G', (E orc).cl 267 [.agg ⟨[.int .i64 R.top, .int .i64 R.links, .int .i64 R.size]⟩] G = some (P0 b, G') ∧ Ext G G' ∧ G.nx ≤ b ∧ b < G'.nx ∧ RpopR R G' b (.go 1 0 0 0) := by
  refine ⟨G.nx + 1, (G.push ⟨[.int .i64 R.top, .int .i64 R.links, .int .i64 R.size], 1, false, 1⟩).push ⟨rL R 1 0 0 0, 1, false, 1⟩, f267 (exL_ok Q orc) _ G _ ?_, ((Ext.refl G).push _).push _, by omega, by simp, by simp [RpopR]⟩
  simp [s267]
theorem rnewpush_ok (orc : FuncId → Bool) (R : Sk) (i : Int) (G : GS) : ∃ b G', (E orc).cl 270 [.agg ⟨[.int .i64 R.top, .int .i64 R.links, .int .i64 R.size]⟩, .int .i64 i] G = some (P0 b, G') ∧ Ext G G' ∧ G.nx ≤ b ∧ b < G'.nx ∧ RpusR R G' b (newPus R i) := by
  unfold newPus
  by_cases hc : i < 0 ∨ R.size ≤ i
  · rw [if_pos hc]
    refine ⟨G.nx + 1, (G.push ⟨[.int .i64 R.top, .int .i64 R.links, .int .i64 R.size], 1, false, 1⟩).push ⟨rL R 9 0 0 3, 1, false, 1⟩, f270 (exL_ok Q orc) _ _ G _ ?_, ((Ext.refl G).push _).push _, by omega, by simp, 0, 0, by simp⟩
    by_cases h1 : i < 0
    · simp [s270, h1]
    · have h2 : R.size ≤ i := by omega
      simp [s270, h1, h2]
  · rw [if_neg hc]
    have h1 : ¬ i < 0 := by omega
    have h2 : ¬ R.size ≤ i := by omega
    refine ⟨G.nx + 1, (G.push ⟨[.int .i64 R.top, .int .i64 R.links, .int .i64 R.size], 1, false, 1⟩).push ⟨rL R 1 0 i 0, 1, false, 1⟩, f270 (exL_ok Q orc) _ _ G _ ?_, ((Ext.refl G).push _).push _, by omega, by simp, by simp [RpusR]⟩
    simp [s270, h1, h2]
theorem rpopindex_ok (orc : FuncId → Bool) {i : Int} (h : RpopR R G b (.done i)) : (E orc).cl 263 [P0 b] G = some (.tuple #[.int .i64 (if i < 0 then 0 else i), .int .i64 (if i < 0 then 15 else 0)], G.room 13) := by
  obtain ⟨w, j, ho⟩ := h
  have e1 : ∀ G, (E orc).cl 342 [.int .i64 9, .int .i64 i] G = some (.tuple #[.int .i64 (if i < 0 then 0 else i), .int .i64 (if i < 0 then 15 else 0)], G) := fun G => by
    refine f342 (exL_ok Q orc) _ _ G _ ?_
    by_cases hc : i < 0
    · simp [s342, hc]
    · simp [s342, hc]
  refine f263 (exL_ok Q orc) _ G _ ?_
  simp [s263, ho, e1]
end
end Go.Proofs.YtdohlgkmaeipjaaGreat.Lift

set_option linter.unusedVariables false
set_option linter.unusedSimpArgs false
set_option maxRecDepth 20000
namespace Go.Proofs.YtdohlgkmaeipjaaGreat.Lift
open Go Go.Proofs.YtdohlgkmaeipjaaGreat.Gh Go.Proofs
/-! ### An arena's operations -/
structure Ar where
  top : Int
  links : Int
  size : Int
  gens : Int
  worn : Int
  limit : Int
abbrev Ar.R (A : Ar) : Sk := ⟨A.top, A.links, A.size⟩
abbrev Ar.cells (A : Ar) : List Value := [.int .i64 A.top, .int .i64 A.links, .int .i64 A.size, .int .i64 A.gens, .int .i64 A.worn, .int .i64 A.limit]
abbrev Ar.v (A : Ar) : Value := .agg ⟨A.cells⟩
def Ar.ok (A : Ar) : Prop := A.R.ok ∧ 0 ≤ A.gens ∧ A.gens + A.size ≤ 4096 ∧ 0 ≤ A.worn ∧ A.worn < 4096 ∧ 1 ≤ A.limit ∧ A.limit ≤ 4294967295
abbrev aL (A : Ar) (c : Nat) (next : Value) (i g e : Int) : List Value := [P0 c, .int .i64 A.top, .int .i64 A.links, .int .i64 A.size, .int .i64 A.gens, .int .i64 A.worn, .int .i64 A.limit, .bool true, next, .int .i64 i, .int .u64 g, .int .i64 e]
inductive AlS where
  | pop (p : PopS)
  | gives (i : Int)
  | lacks
  | done (g e : Int)
def AlS.over : AlS → Bool
  | .done .. => true
  | _ => false
def AlS.ok (A : Ar) : AlS → Prop
  | .pop p => p.ok A.R ∧ p.over = false
  | .gives i => 0 ≤ i ∧ i < A.size
  | _ => True
def AlS.step (A : Ar) : AlS → MS → AlS × MS
  | .pop p, s =>
    match p.step A.R s with
    | (.done i, s') => (if i < 0 then .lacks else .gives i, s')
    | (p', s') => (.pop p', s')
  | .gives i, s => (.done (wordT i ((s.load (A.gens + i)).new % 4294967296)) 0, s.load (A.gens + i))
  | .lacks, s => (.done 0 (if A.size ≤ (s.load A.worn).new then 12 else 7), s.load A.worn)
  | .done g e, s => (.done g e, s)
theorem AlS.ok.step {A : Ar} {p : AlS} {s : MS} (hA : A.ok) (hp : p.ok A) (hs : s.ok) : (p.step A s).1.ok A ∧ (p.step A s).2.ok := by
  cases p with
  | done g e => exact ⟨trivial, hs⟩
  | lacks => exact ⟨trivial, (hs.load _).1⟩
  | gives i => exact ⟨trivial, (hs.load _).1⟩
  | pop p =>
    have h := PopS.ok.step hA.1 hp.1 hs
    simp only [AlS.step]
    cases hq : p.step A.R s with
    | mk q s' =>
      rw [hq] at h
      cases q with
      | done i =>
        refine ⟨?_, h.2⟩
        simp only
        split
        · trivial
        · exact ⟨by omega, h.1.2⟩
      | go n w i j => exact ⟨⟨h.1, rfl⟩, h.2⟩
def AlR (A : Ar) (G : GS) (b c : Nat) : AlS → Prop
  | .pop p => PopR A.R G c p ∧ G.obj b = some ⟨aL A c (.func (.func 259) #[] #[]) 0 0 0, 1, false, 1⟩
  | .gives i => G.obj b = some ⟨aL A c (.func (.func 338) #[] #[]) i 0 0, 1, false, 1⟩
  | .lacks => ∃ i, G.obj b = some ⟨aL A c (.func (.func 339) #[] #[]) i 0 0, 1, false, 1⟩
  | .done g e => ∃ i, G.obj b = some ⟨aL A c .nilFunc i g e, 1, false, 1⟩
theorem AlR.kept {A : Ar} {G G' : GS} {b c : Nat} {p : AlS} (h : AlR A G b c p) (hk : G'.obj b = G.obj b) (hc : G'.obj c = G.obj c) : AlR A G' b c p := by
  cases p with
  | pop p => exact ⟨h.1.kept hc, hk.trans h.2⟩
  | gives i => exact hk.trans h
  | lacks => obtain ⟨i, h⟩ := h; exact ⟨i, hk.trans h⟩
  | done g e => obtain ⟨i, h⟩ := h; exact ⟨i, hk.trans h⟩
section
variable {m r b c : Nat} {own own1 : Nat → Nat} {G G1 : GS} {s s' : MS} {A : Ar}
theorem alloc_ok (orc : FuncId → Bool) (ht : orc 271 = false) (hrf : orc 284 = false) {p : AlS} (h : PM own G m s) (hs : s.ok) (hA : A.ok) (hb : b < G.nx) (hc : c < G.nx) (tb : own b ≠ 10) (tc : own c ≠ 10) (hbc : b ≠ c) (hp : p.ok A) (hr : AlR A G b c p) :
    ∃ own1 G1, (E orc).cl 179 [P0 b, P0 m] G = some (.bool (p.step A s).1.over, G1) ∧ PW (fun x => x = b ∨ x = c) own G own1 G1 m (p.step A s).2 ∧ AlR A G1 b c (p.step A s).1 := by
  obtain ⟨hR, g1, g2, g3, g4, g5, g6⟩ := hA
  have hz2 := hR.2.1
  simp only at hz2
  cases p with
  | done g e =>
    obtain ⟨i, ho⟩ := hr
    refine ⟨own, G, f179 (exL_ok Q orc) _ _ G _ ?_, PW.refl h, i, ho⟩
    simp [s179, ho, AlS.step, AlS.over]
  | lacks =>
    obtain ⟨i, ho⟩ := hr
    obtain ⟨G1, hG1⟩ : ∃ G1, G1 = (G.put b ⟨aL A c (.func (.func 339) #[] #[]) i 0 7, 1, false, 1⟩).room 15 := ⟨_, rfl⟩
    have w1 := ((PW.refl (B := fun x => x = b ∨ x = c) h).putB (.inl rfl) hb tb ⟨aL A c (.func (.func 339) #[] #[]) i 0 7, 1, false, 1⟩).ext ((Ext.refl _).room 15)
    rw [← hG1] at w1
    have o1 : G1.obj b = some ⟨aL A c (.func (.func 339) #[] #[]) i 0 7, 1, false, 1⟩ := by rw [hG1]; simp
    obtain ⟨own2, G2, e2, w2⟩ := w1.pm.load orc A.worn
    have o2 := (w2.keep (Nat.lt_of_lt_of_le hb w1.nx) (by rw [w1.stp.same hb]; exact tb) id).trans o1
    have w12 := w1.trans w2 fun _ _ h => h.elim
    have hsz : IntKind.wrap .u64 A.size = A.size := by have := hR.1; simp only at this; rw [wrap_u64]; omega
    simp only [AlS.step]
    generalize s.load A.worn = s' at *
    by_cases hc : A.size ≤ s'.new
    · rw [if_pos hc]
      have w3 := (w12.putB (b := b) (.inl rfl) hb tb ⟨aL A c (.func (.func 339) #[] #[]) i 0 12, 1, false, 1⟩).putB (b := b) (.inl rfl) hb tb ⟨aL A c .nilFunc i 0 12, 1, false, 1⟩
      refine ⟨own2, _, f179 (exL_ok Q orc) _ _ G _ ?_, w3, i, by simp⟩
      have e4 : (E orc).cl 339 [P0 b, P0 m] G = some (.tuple #[], (G2.put b ⟨aL A c (.func (.func 339) #[] #[]) i 0 12, 1, false, 1⟩).put b ⟨aL A c .nilFunc i 0 12, 1, false, 1⟩) := by
        refine f339 (exL_ok Q orc) _ _ G _ ?_
        simp [jb339_0, j339_0, sb339, s339, clip_t, ho, ← hG1, o1, e2, o2, hsz, hc]
      simp [s179, ho, e4, AlS.over]
    · rw [if_neg hc]
      have w3 := w12.putB (b := b) (.inl rfl) hb tb ⟨aL A c .nilFunc i 0 7, 1, false, 1⟩
      refine ⟨own2, _, f179 (exL_ok Q orc) _ _ G _ ?_, w3, i, by simp⟩
      have e4 : (E orc).cl 339 [P0 b, P0 m] G = some (.tuple #[], G2.put b ⟨aL A c .nilFunc i 0 7, 1, false, 1⟩) := by
        refine f339 (exL_ok Q orc) _ _ G _ ?_
        simp [jb339_0, j339_0, sb339, s339, clip_t, ho, ← hG1, o1, e2, o2, hsz, hc]
      simp [s179, ho, e4, AlS.over]
  | gives i =>
    have ho : G.obj b = _ := hr
    obtain ⟨hi0, hi1⟩ := hp
    have ha : IntKind.wrap .i64 (A.gens + i) = A.gens + i := wrap64 (by omega) (by omega)
    obtain ⟨k, x0⟩ : ∃ k, Ext G (G.room k) := ⟨0, (Ext.refl G).room 0⟩
    clear x0 k
    have w1 := (PW.refl (B := fun x => x = b ∨ x = c) h)
    simp only [AlS.step]
    have key : ∀ k, ∃ own2 G2, (E orc).cl 177 [P0 m, .int .i64 (A.gens + i)] (G.room k) = some (.int .u64 (s.load (A.gens + i)).new, G2) ∧ PW no own G own2 G2 m (s.load (A.gens + i)) := fun k => by
      have w0 := (PW.refl (B := no) h).ext ((Ext.refl G).room k)
      obtain ⟨own2, G2, e2, w2⟩ := w0.pm.load orc (A.gens + i)
      exact ⟨own2, G2, e2, w0.trans w2 fun _ _ h => h⟩
    have hw := (hs.load (A.gens + i)).2
    generalize s.load (A.gens + i) = s' at *
    have fin : ∀ {own2 : Nat → Nat} {G2 : GS}, PW no own G own2 G2 m s' → ∃ own3 G3, (∃ G2', (E orc).cl 347 [.int .u64 s'.new] G2 = some (.int .i64 (s'.new % 4294967296), G2) ∧ (E orc).cl 285 [.agg ⟨[.int .i64 i, .int .i64 (s'.new % 4294967296), .bool false]⟩] G2 = some (.tuple #[.int .u64 (wordT i (s'.new % 4294967296)), .int .i64 0], G3) ∧ G2' = G2) ∧ PW no own G own3 G3 m s' := fun {own2 G2} w2 => by
      obtain ⟨G3, e3, x3⟩ := putref_ok orc hrf (i := i) (g := s'.new % 4294967296) (by omega) (by omega) G2
      exact ⟨_, G3, ⟨G2, gen_ok orc hw G2, e3, rfl⟩, w2.ext x3⟩
    obtain ⟨own2, G2, e2, w2⟩ := key 26
    obtain ⟨own3, G3, ⟨_, e3, e4, -⟩, w3⟩ := fin w2
    have o2 := (w2.keep hb tb id).trans ho
    have o3 := (w3.keep hb tb id).trans ho
    have w4 := ((w3.mono (B' := fun x => x = b ∨ x = c) fun _ _ h => h.elim).putB (b := b) (.inl rfl) hb tb ⟨aL A c (.func (.func 338) #[] #[]) i (wordT i (s'.new % 4294967296)) 0, 1, false, 1⟩).putB (b := b) (.inl rfl) hb tb ⟨aL A c .nilFunc i (wordT i (s'.new % 4294967296)) 0, 1, false, 1⟩
    refine ⟨own3, _, f179 (exL_ok Q orc) _ _ G _ ?_, w4, i, by simp⟩
    have e5 : (E orc).cl 338 [P0 b, P0 m] G = some (.tuple #[], (G3.put b ⟨aL A c (.func (.func 338) #[] #[]) i (wordT i (s'.new % 4294967296)) 0, 1, false, 1⟩).put b ⟨aL A c .nilFunc i (wordT i (s'.new % 4294967296)) 0, 1, false, 1⟩) := by
      refine f338 (exL_ok Q orc) _ _ G _ ?_
      simp [s338, ho, ha, e2, o2, e3, e4, o3]
    simp [s179, ho, e5, AlS.over]
  | pop p =>
    obtain ⟨hr1, ho⟩ := hr
    obtain ⟨own1, G1, e1, w1, r1⟩ := pop_ok orc ht h hs hR hc tc hp.1 hr1
    have o1 := (w1.keep hb tb hbc).trans ho
    have w1' : PW (fun x => x = b ∨ x = c) own G own1 G1 m (p.step A.R s).2 := w1.mono fun _ _ h => .inr h
    simp only [AlS.step]
    generalize hq : p.step A.R s = q at *
    obtain ⟨q, s'⟩ := q
    simp only at e1 w1' r1
    cases q with
    | go n w i j =>
      simp [PopS.over] at e1
      refine ⟨own1, G1, f179 (exL_ok Q orc) _ _ G _ ?_, w1', r1, by simpa using o1⟩
      have e5 : (E orc).cl 259 [P0 b, P0 m] G = some (.tuple #[], G1) := by
        refine f259 (exL_ok Q orc) _ _ G _ ?_
        simp [s259, ho, e1]
      simp [s179, ho, e5, o1, AlS.over]
    | done i =>
      simp [PopS.over] at e1
      have e2 := popindex_ok orc r1
      by_cases hi : i < 0
      · simp only [if_pos hi] at e2 ⊢
        have w4 := ((w1'.putB (b := b) (.inl rfl) hb tb ⟨aL A c (.func (.func 259) #[] #[]) 0 0 0, 1, false, 1⟩).putB (b := b) (.inl rfl) hb tb ⟨aL A c (.func (.func 338) #[] #[]) 0 0 0, 1, false, 1⟩).putB (b := b) (.inl rfl) hb tb ⟨aL A c (.func (.func 339) #[] #[]) 0 0 0, 1, false, 1⟩
        refine ⟨own1, _, f179 (exL_ok Q orc) _ _ G _ ?_, w4, 0, by simp⟩
        have e5 : (E orc).cl 259 [P0 b, P0 m] G = some (.tuple #[], ((G1.put b ⟨aL A c (.func (.func 259) #[] #[]) 0 0 0, 1, false, 1⟩).put b ⟨aL A c (.func (.func 338) #[] #[]) 0 0 0, 1, false, 1⟩).put b ⟨aL A c (.func (.func 339) #[] #[]) 0 0 0, 1, false, 1⟩) := by
          refine f259 (exL_ok Q orc) _ _ G _ ?_
          simp [s259, ho, e1, o1, e2]
        simp [s179, ho, e5, AlS.over]
      · simp only [if_neg hi] at e2 ⊢
        have w4 := (w1'.putB (b := b) (.inl rfl) hb tb ⟨aL A c (.func (.func 259) #[] #[]) i 0 0, 1, false, 1⟩).putB (b := b) (.inl rfl) hb tb ⟨aL A c (.func (.func 338) #[] #[]) i 0 0, 1, false, 1⟩
        refine ⟨own1, _, f179 (exL_ok Q orc) _ _ G _ ?_, w4, by simp [AlR]⟩
        have e5 : (E orc).cl 259 [P0 b, P0 m] G = some (.tuple #[], (G1.put b ⟨aL A c (.func (.func 259) #[] #[]) i 0 0, 1, false, 1⟩).put b ⟨aL A c (.func (.func 338) #[] #[]) i 0 0, 1, false, 1⟩) := by
          refine f259 (exL_ok Q orc) _ _ G _ ?_
          simp [s259, ho, e1, o1, e2]
        simp [s179, ho, e5, AlS.over]
end
end Go.Proofs.YtdohlgkmaeipjaaGreat.Lift

set_option linter.unusedVariables false
set_option linter.unusedSimpArgs false
set_option maxRecDepth 20000
namespace Go.Proofs.YtdohlgkmaeipjaaGreat.Lift
open Go Go.Proofs.YtdohlgkmaeipjaaGreat.Gh Go.Proofs
/-! ### A node that is taken back -/
inductive FeS where
  | looks (i : Int)
  | raises (i g : Int)
  | push (p : PusS)
  | wears
  | done (e : Int)
def FeS.over : FeS → Bool
  | .done _ => true
  | _ => false
def FeS.ok (A : Ar) : FeS → Prop
  | .looks i => 0 ≤ i ∧ i < A.size
  | .raises i g => 0 ≤ i ∧ i < A.size ∧ U g
  | .push p => p.ok A.R
  | _ => True
def FeS.step (A : Ar) : FeS → MS → FeS × MS
  | .looks i, s => (if A.limit ≤ (s.load (A.gens + i)).new % 4294967296 then .wears else .raises i (s.load (A.gens + i)).new, s.load (A.gens + i))
  | .raises i g, s => (.push (.go 1 0 i), s.store (A.gens + i) (IntKind.wrap .u64 (g + 1)))
  | .push p, s => (if (p.step A.R s).1.over = true then .done 0 else .push (p.step A.R s).1, (p.step A.R s).2)
  | .wears, s => (.done 0, s.add A.worn 1)
  | .done e, s => (.done e, s)
theorem FeS.ok.step {A : Ar} {p : FeS} {s : MS} (hA : A.ok) (hp : p.ok A) (hs : s.ok) : (p.step A s).1.ok A ∧ (p.step A s).2.ok := by
  cases p with
  | done e => exact ⟨trivial, hs⟩
  | wears => exact ⟨trivial, (hs.add _ _).1⟩
  | looks i =>
    refine ⟨?_, (hs.load _).1⟩
    simp only [FeS.step]
    split
    · trivial
    · exact ⟨hp.1, hp.2, (hs.load _).2⟩
  | raises i g => exact ⟨⟨by decide, by decide, ⟨by decide, by decide⟩, hp.1, hp.2.1⟩, hs.store _ (U_wrap _)⟩
  | push p =>
    have h := PusS.ok.step hA.1 hp hs
    simp only [FeS.step]
    split
    · exact ⟨trivial, h.2⟩
    · exact ⟨h.1, h.2⟩
theorem newPus_in {R : Sk} {i : Int} (h : 0 ≤ i ∧ i < R.size) : newPus R i = .go 1 0 i := by unfold newPus; rw [if_neg (by omega)]
def FeR (A : Ar) (G : GS) (b c : Nat) : FeS → Prop
  | .looks i => PusR A.R G c (.go 1 0 i) ∧ G.obj b = some ⟨aL A c (.func (.func 269) #[] #[]) i 0 0, 1, false, 1⟩
  | .raises i g => PusR A.R G c (.go 1 0 i) ∧ G.obj b = some ⟨aL A c (.func (.func 346) #[] #[]) i g 0, 1, false, 1⟩
  | .push p => PusR A.R G c p ∧ ∃ i g, G.obj b = some ⟨aL A c (.func (.func 396) #[] #[]) i g 0, 1, false, 1⟩
  | .wears => ∃ i g, G.obj b = some ⟨aL A c (.func (.func 348) #[] #[]) i g 0, 1, false, 1⟩
  | .done e => ∃ i g, G.obj b = some ⟨aL A c .nilFunc i g e, 1, false, 1⟩
theorem FeR.kept {A : Ar} {G G' : GS} {b c : Nat} {p : FeS} (h : FeR A G b c p) (hk : G'.obj b = G.obj b) (hc : G'.obj c = G.obj c) : FeR A G' b c p := by
  cases p with
  | looks i => exact ⟨h.1.kept hc, hk.trans h.2⟩
  | raises i g => exact ⟨h.1.kept hc, hk.trans h.2⟩
  | push p => obtain ⟨h1, i, g, h2⟩ := h; exact ⟨h1.kept hc, i, g, hk.trans h2⟩
  | wears => obtain ⟨i, g, h⟩ := h; exact ⟨i, g, hk.trans h⟩
  | done e => obtain ⟨i, g, h⟩ := h; exact ⟨i, g, hk.trans h⟩
section
variable {m r b c : Nat} {own own1 : Nat → Nat} {G G1 : GS} {s s' : MS} {A : Ar}
theorem free_ok (orc : FuncId → Bool) (ht : orc 271 = false) {p : FeS} (h : PM own G m s) (hs : s.ok) (hA : A.ok) (hb : b < G.nx) (hc : c < G.nx) (tb : own b ≠ 10) (tc : own c ≠ 10) (hbc : b ≠ c) (hp : p.ok A) (hr : FeR A G b c p) :
    ∃ own1 G1, (E orc).cl 182 [P0 b, P0 m] G = some (.bool (p.step A s).1.over, G1) ∧ PW (fun x => x = b ∨ x = c) own G own1 G1 m (p.step A s).2 ∧ FeR A G1 b c (p.step A s).1 := by
  obtain ⟨hR, g1, g2, g3, g4, g5, g6⟩ := hA
  have hz2 := hR.2.1
  simp only at hz2
  cases p with
  | done e =>
    obtain ⟨i, g, ho⟩ := hr
    refine ⟨own, G, f182 (exL_ok Q orc) _ _ G _ ?_, PW.refl h, i, g, ho⟩
    simp [s182, ho, FeS.step, FeS.over]
  | wears =>
    obtain ⟨i, g, ho⟩ := hr
    have key : ∀ k, ∃ own2 G2, (E orc).cl 198 [P0 m, .int .i64 A.worn, .int .u64 1] (G.room k) = some (.int .u64 (s.add A.worn 1).new, G2) ∧ PW no own G own2 G2 m (s.add A.worn 1) := fun k => by
      have w0 := (PW.refl (B := no) h).ext ((Ext.refl G).room k)
      obtain ⟨own2, G2, e2, w2⟩ := w0.pm.add orc A.worn 1
      exact ⟨own2, G2, e2, w0.trans w2 fun _ _ h => h⟩
    have key0 := PM.add orc h A.worn 1
    simp only [FeS.step]
    generalize s.add A.worn 1 = s' at *
    obtain ⟨own2, G2, e2, w2⟩ := key0
    have o2 := (w2.keep hb tb id).trans ho
    have w3 := (w2.mono (B' := fun x => x = b ∨ x = c) fun _ _ h => h.elim).putB (b := b) (.inl rfl) hb tb ⟨aL A c .nilFunc i g 0, 1, false, 1⟩
    refine ⟨own2, _, f182 (exL_ok Q orc) _ _ G _ ?_, w3, i, g, by simp⟩
    have e4 : (E orc).cl 348 [P0 b, P0 m] G = some (.tuple #[], G2.put b ⟨aL A c .nilFunc i g 0, 1, false, 1⟩) := by
      refine f348 (exL_ok Q orc) _ _ G _ ?_
      simp [s348, ho, e2, o2]
    simp [s182, ho, e4, FeS.over]
  | looks i =>
    obtain ⟨hr1, ho⟩ := hr
    obtain ⟨hi0, hi1⟩ := hp
    have ha : IntKind.wrap .i64 (A.gens + i) = A.gens + i := wrap64 (by omega) (by omega)
    have w0 := (PW.refl (B := no) h).ext ((Ext.refl G).room 16)
    obtain ⟨own2, G2, e2, w2'⟩ := w0.pm.load orc (A.gens + i)
    have w2 := w0.trans w2' fun _ _ h => h
    have hw := (hs.load (A.gens + i)).2
    simp only [FeS.step]
    generalize s.load (A.gens + i) = s' at *
    have o2 := (w2.keep hb tb id).trans ho
    have e3 := fun G => gen_ok orc hw G
    obtain ⟨G3, hG3⟩ : ∃ G3, G3 = ((G2.put b ⟨aL A c (.func (.func 269) #[] #[]) i s'.new 0, 1, false, 1⟩).put b ⟨aL A c (.func (.func 346) #[] #[]) i s'.new 0, 1, false, 1⟩).room 11 := ⟨_, rfl⟩
    have w3 := (((w2.mono (B' := fun x => x = b ∨ x = c) fun _ _ h => h.elim).putB (b := b) (.inl rfl) hb tb ⟨aL A c (.func (.func 269) #[] #[]) i s'.new 0, 1, false, 1⟩).putB (b := b) (.inl rfl) hb tb ⟨aL A c (.func (.func 346) #[] #[]) i s'.new 0, 1, false, 1⟩).ext ((Ext.refl _).room 11)
    rw [← hG3] at w3
    have o3 : G3.obj b = some ⟨aL A c (.func (.func 346) #[] #[]) i s'.new 0, 1, false, 1⟩ := by rw [hG3]; simp
    have r2 : PusR A.R G3 c (.go 1 0 i) := hr1.kept (by rw [hG3]; simp [Ne.symm hbc]; exact w2.keep hc tc id)
    by_cases hcc : A.limit ≤ s'.new % 4294967296
    · rw [if_pos hcc]
      have w4 := w3.putB (b := b) (.inl rfl) hb tb ⟨aL A c (.func (.func 348) #[] #[]) i s'.new 0, 1, false, 1⟩
      refine ⟨_, _, f182 (exL_ok Q orc) _ _ G _ ?_, w4, i, s'.new, by simp⟩
      have e4 : (E orc).cl 269 [P0 b, P0 m] G = some (.tuple #[], G3.put b ⟨aL A c (.func (.func 348) #[] #[]) i s'.new 0, 1, false, 1⟩) := by
        refine f269 (exL_ok Q orc) _ _ G _ ?_
        simp [s269, ho, ha, e2, o2, ← hG3, e3, o3, hcc]
      simp [s182, ho, e4, FeS.over]
    · rw [if_neg hcc]
      refine ⟨_, _, f182 (exL_ok Q orc) _ _ G _ ?_, w3, r2, by simpa using o3⟩
      have e4 : (E orc).cl 269 [P0 b, P0 m] G = some (.tuple #[], G3) := by
        refine f269 (exL_ok Q orc) _ _ G _ ?_
        simp [s269, ho, ha, e2, o2, ← hG3, e3, o3, hcc]
      simp [s182, ho, e4, FeS.over, o3]
  | raises i g =>
    obtain ⟨hr1, ho⟩ := hr
    obtain ⟨hi0, hi1, hug⟩ := hp
    have ha : IntKind.wrap .i64 (A.gens + i) = A.gens + i := wrap64 (by omega) (by omega)
    have key : ∀ k, ∃ own2 G2, (E orc).cl 45 [P0 m, .int .i64 (A.gens + i), .int .u64 (IntKind.wrap .u64 (g + 1))] (G.room k) = some (.tuple #[], G2) ∧ PW no own G own2 G2 m (s.store (A.gens + i) (IntKind.wrap .u64 (g + 1))) := fun k => by
      have w0 := (PW.refl (B := no) h).ext ((Ext.refl G).room k)
      obtain ⟨own2, G2, e2, w2⟩ := w0.pm.store orc (A.gens + i) (IntKind.wrap .u64 (g + 1))
      exact ⟨own2, G2, e2, w0.trans w2 fun _ _ h => h⟩
    simp only [FeS.step]
    generalize hu : IntKind.wrap .u64 (g + 1) = u at *
    generalize s.store (A.gens + i) u = s' at *
    obtain ⟨own2, G2, e2, w2⟩ := key 17
    have o2 := (w2.keep hb tb id).trans ho
    have w3 := (w2.mono (B' := fun x => x = b ∨ x = c) fun _ _ h => h.elim).putB (b := b) (.inl rfl) hb tb ⟨aL A c (.func (.func 396) #[] #[]) i g 0, 1, false, 1⟩
    have r2 : PusR A.R G2 c (.go 1 0 i) := hr1.kept (w2.keep hc tc id)
    refine ⟨own2, _, f182 (exL_ok Q orc) _ _ G _ ?_, w3, r2.kept (by simp [Ne.symm hbc]), i, g, by simp⟩
    have e4 : (E orc).cl 346 [P0 b, P0 m] G = some (.tuple #[], G2.put b ⟨aL A c (.func (.func 396) #[] #[]) i g 0, 1, false, 1⟩) := by
      refine f346 (exL_ok Q orc) _ _ G _ ?_
      simp [s346, ho, ha, hu, e2, o2]
    simp [s182, ho, e4, FeS.over]
  | push p =>
    obtain ⟨hr1, i, g, ho⟩ := hr
    obtain ⟨own1, G1, e1, w1, r1⟩ := push_ok orc ht h hs hR hc tc hp hr1
    have o1 := (w1.keep hb tb hbc).trans ho
    have w1' : PW (fun x => x = b ∨ x = c) own G own1 G1 m (p.step A.R s).2 := w1.mono fun _ _ h => .inr h
    simp only [FeS.step]
    generalize hq : p.step A.R s = q at *
    obtain ⟨q, s'⟩ := q
    simp only at e1 w1' r1
    cases hov : q.over with
    | false =>
      rw [hov] at e1
      refine ⟨own1, G1, f182 (exL_ok Q orc) _ _ G _ ?_, w1', r1, i, g, by simpa using o1⟩
      have e5 : (E orc).cl 396 [P0 b, P0 m] G = some (.tuple #[], G1) := by
        refine f396 (exL_ok Q orc) _ _ G _ ?_
        simp [s396, ho, e1]
      simp [s182, ho, e5, o1, FeS.over, hov]
    | true =>
      rw [hov] at e1
      have w4 := w1'.putB (b := b) (.inl rfl) hb tb ⟨aL A c .nilFunc i g 0, 1, false, 1⟩
      refine ⟨own1, _, f182 (exL_ok Q orc) _ _ G _ ?_, w4, i, g, by simp⟩
      have e5 : (E orc).cl 396 [P0 b, P0 m] G = some (.tuple #[], G1.put b ⟨aL A c .nilFunc i g 0, 1, false, 1⟩) := by
        refine f396 (exL_ok Q orc) _ _ G _ ?_
        simp [s396, ho, e1, o1]
      simp [s182, ho, e5, FeS.over, hov]
/-! made, and what is told -/
theorem newalloc_ok (orc : FuncId → Bool) (A : Ar) (G : GS) : ∃ b c G', (E orc).cl 173 [A.v] G = some (P0 b, G') ∧ Ext G G' ∧ G.nx ≤ b ∧ b < G'.nx ∧ G.nx ≤ c ∧ c < G'.nx ∧ b ≠ c ∧ AlR A G' b c (.pop (.go 1 0 0 0)) := by
  have w : Wp (s173 true (exL Q orc) A.v G) fun q => ∃ b c, q.1 = P0 b ∧ Ext G q.2 ∧ G.nx ≤ b ∧ b < q.2.nx ∧ G.nx ≤ c ∧ c < q.2.nx ∧ b ≠ c ∧ AlR A q.2 b c (.pop (.go 1 0 0 0)) := by
    have x0 : Ext G (G.push ⟨A.cells, 1, false, 1⟩) := (Ext.refl G).push _
    simp [s173]
    generalize hG0 : GS.room _ _ = G0
    have x0 : Ext G G0 := by rw [← hG0]; exact x0.room _
    have o0 : G0.obj G.nx = some ⟨A.cells, 1, false, 1⟩ := by rw [← hG0]; simp
    have n0 : G.nx < G0.nx := by rw [← hG0]; simp; omega
    have n0' : G.nx + 1 + 5 < G0.nx := by rw [← hG0]; simp
    refine Wp.stepX (newpop_ok orc A.R _) fun c G1 ⟨x1, c1, c2, c3⟩ => ?_
    have n1 := x1.nx
    have o1 := (x1.obj _ n0).trans o0
    simp [o1, o0]
    refine ⟨Ext.drawn (x0.trans x1) (by omega) (by omega) _, by omega, by omega, c, by omega, c2, by omega, c3.kept (by simp; omega), by simp [aL]⟩
  obtain ⟨⟨v, G'⟩, e1, b, c, rfl, h⟩ := w
  exact ⟨b, c, G', f173 (exL_ok Q orc) _ G _ e1, h⟩
def newFe (A : Ar) (i : Int) : FeS := if i < 0 ∨ A.size ≤ i then .done 3 else .looks i
theorem newFe_ok {A : Ar} {i : Int} : (newFe A i).ok A := by
  unfold newFe; split
  · trivial
  · exact ⟨by omega, by omega⟩
theorem newfree_ok (orc : FuncId → Bool) (A : Ar) (i : Int) (G : GS) : ∃ b c G', (E orc).cl 187 [A.v, .int .i64 i] G = some (P0 b, G') ∧ Ext G G' ∧ G.nx ≤ b ∧ b < G'.nx ∧ G.nx ≤ c ∧ c < G'.nx ∧ b ≠ c ∧ FeR A G' b c (newFe A i) := by
  have w : Wp (s187 true (exL Q orc) A.v (.int .i64 i) G) fun q => ∃ b c, q.1 = P0 b ∧ Ext G q.2 ∧ G.nx ≤ b ∧ b < q.2.nx ∧ G.nx ≤ c ∧ c < q.2.nx ∧ b ≠ c ∧ FeR A q.2 b c (newFe A i) := by
    have x0 : Ext G (G.push ⟨A.cells, 1, false, 1⟩) := (Ext.refl G).push _
    simp [s187]
    generalize hG0 : GS.room _ 9 = G0
    have x0 : Ext G G0 := by rw [← hG0]; exact x0.room _
    have o0 : G0.obj G.nx = some ⟨A.cells, 1, false, 1⟩ := by rw [← hG0]; simp
    have n0 : G.nx < G0.nx := by rw [← hG0]; simp; omega
    have n0' : G.nx + 1 + 7 < G0.nx := by rw [← hG0]; simp
    refine Wp.stepX (newpush_ok orc A.R i _) fun c G1 ⟨x1, c1, c2, c3⟩ => ?_
    have n1 := x1.nx
    have o1 := (x1.obj _ n0).trans o0
    unfold newFe
    obtain ⟨GB, hGB⟩ : ∃ GB, GB = ((G1.at' (G.nx + 1 + 7)).push ⟨aL A c .nilFunc i 0 0, 1, false, 1⟩).back G1 := ⟨_, rfl⟩
    have xB : Ext G GB := by rw [hGB]; exact Ext.drawn (x0.trans x1) (by omega) (by omega) _
    have oB : GB.obj (G.nx + 1 + 7) = some ⟨aL A c .nilFunc i 0 0, 1, false, 1⟩ := by rw [hGB]; simp
    have oB0 : GB.obj G.nx = some ⟨A.cells, 1, false, 1⟩ := by rw [hGB]; simp [o1]; omega
    have nB : GB.nx = G1.nx := by rw [hGB]; simp
    have cB : PusR A.R GB c (newPus A.R i) := c3.kept (by rw [hGB]; simp; omega)
    by_cases hi : i < 0
    · simp [o1, o0, hi, ← hGB, oB]
      refine ⟨xB.put (by omega) _, by omega, by omega, c, by omega, by omega, by omega, i, 0, by simp⟩
    · by_cases hi2 : A.size ≤ i
      · simp [o1, o0, hi, hi2, ← hGB, oB0, oB]
        refine ⟨xB.put (by omega) _, by omega, by omega, c, by omega, by omega, by omega, i, 0, by simp⟩
      · simp [o1, o0, hi, hi2, ← hGB, oB0, oB]
        rw [newPus_in ⟨by omega, by simp only; omega⟩] at cB
        refine ⟨xB.put (by omega) _, by omega, by omega, c, by omega, by omega, by omega, cB.kept (by simp; omega), by simp⟩
  obtain ⟨⟨v, G'⟩, e1, b, c, rfl, h⟩ := w
  exact ⟨b, c, G', f187 (exL_ok Q orc) _ _ G _ e1, h⟩
def AlS.told : AlS → Int × Int
  | .done g e => (g, e)
  | _ => (0, 14)
def FeS.told : FeS → Int
  | .done e => e
  | _ => 14
theorem allocref_ok (orc : FuncId → Bool) {p : AlS} (h : AlR A G b c p) : ∃ G', (E orc).cl 174 [P0 b] G = some (.tuple #[.int .u64 p.told.1, .int .i64 p.told.2], G') ∧ Ext G G' := by
  cases p with
  | pop p => exact ⟨_, f174 (exL_ok Q orc) _ G _ (by simp [s174, h.2, AlS.told]), Ext.refl _⟩
  | gives i => have h : G.obj b = _ := h; exact ⟨_, f174 (exL_ok Q orc) _ G _ (by simp [s174, h, AlS.told]), Ext.refl _⟩
  | lacks => obtain ⟨i, h⟩ := h; exact ⟨_, f174 (exL_ok Q orc) _ G _ (by simp [s174, h, AlS.told]), Ext.refl _⟩
  | done g e => obtain ⟨i, h⟩ := h; exact ⟨_, f174 (exL_ok Q orc) _ G _ (by simp [s174, h, AlS.told]; rfl), (Ext.refl _).room _⟩
theorem freeerr_ok (orc : FuncId → Bool) {p : FeS} (h : FeR A G b c p) : (E orc).cl 184 [P0 b] G = some (.int .i64 p.told, G) := by
  refine f184 (exL_ok Q orc) _ G _ ?_
  cases p with
  | looks i => simp [s184, h.2, FeS.told]
  | raises i g => simp [s184, h.2, FeS.told]
  | push p => obtain ⟨_, i, g, h⟩ := h; simp [s184, h, FeS.told]
  | wears => obtain ⟨i, g, h⟩ := h; simp [s184, h, FeS.told]
  | done e => obtain ⟨i, g, h⟩ := h; simp [s184, h, FeS.told]
end
end Go.Proofs.YtdohlgkmaeipjaaGreat.Lift

set_option linter.unusedVariables false
set_option linter.unusedSimpArgs false
set_option maxRecDepth 20000
namespace Go.Proofs.YtdohlgkmaeipjaaGreat.Lift
open Go Go.Proofs.YtdohlgkmaeipjaaGreat.Gh Go.Proofs
/-! ### The document's Alloc and Free -/
abbrev bL (A : Ar) (c : Nat) (line i g e : Int) : List Value := [.int .i64 A.top, .int .i64 A.links, .int .i64 A.size, .int .i64 A.gens, .int .i64 A.worn, .int .i64 A.limit, P0 c, .int .i64 line, .int .i64 i, .int .u64 g, .int .i64 e]
def RalR (A : Ar) (G : GS) (b c : Nat) : AlS → Prop
  | .pop p => RpopR A.R G c p ∧ G.obj b = some ⟨bL A c 0 0 0 0, 1, false, 1⟩
  | .gives i => G.obj b = some ⟨bL A c 1 i 0 0, 1, false, 1⟩
  | .lacks => ∃ i, G.obj b = some ⟨bL A c 2 i 0 0, 1, false, 1⟩
  | .done g e => ∃ i, G.obj b = some ⟨bL A c 9 i g e, 1, false, 1⟩
theorem RalR.kept {A : Ar} {G G' : GS} {b c : Nat} {p : AlS} (h : RalR A G b c p) (hk : G'.obj b = G.obj b) (hc : G'.obj c = G.obj c) : RalR A G' b c p := by
  cases p with
  | pop p => exact ⟨h.1.kept hc, hk.trans h.2⟩
  | gives i => exact hk.trans h
  | lacks => obtain ⟨i, h⟩ := h; exact ⟨i, hk.trans h⟩
  | done g e => obtain ⟨i, h⟩ := h; exact ⟨i, hk.trans h⟩
def RfeR (A : Ar) (G : GS) (b c : Nat) : FeS → Prop
  | .looks i => RpusR A.R G c (.go 1 0 i) ∧ G.obj b = some ⟨bL A c 0 i 0 0, 1, false, 1⟩
  | .raises i g => RpusR A.R G c (.go 1 0 i) ∧ G.obj b = some ⟨bL A c 1 i g 0, 1, false, 1⟩
  | .push p => RpusR A.R G c p ∧ ∃ i g, G.obj b = some ⟨bL A c 2 i g 0, 1, false, 1⟩
  | .wears => ∃ i g, G.obj b = some ⟨bL A c 3 i g 0, 1, false, 1⟩
  | .done e => ∃ i g, G.obj b = some ⟨bL A c 9 i g e, 1, false, 1⟩
theorem RfeR.kept {A : Ar} {G G' : GS} {b c : Nat} {p : FeS} (h : RfeR A G b c p) (hk : G'.obj b = G.obj b) (hc : G'.obj c = G.obj c) : RfeR A G' b c p := by
  cases p with
  | looks i => exact ⟨h.1.kept hc, hk.trans h.2⟩
  | raises i g => exact ⟨h.1.kept hc, hk.trans h.2⟩
  | push p => obtain ⟨h1, i, g, h2⟩ := h; exact ⟨h1.kept hc, i, g, hk.trans h2⟩
  | wears => obtain ⟨i, g, h⟩ := h; exact ⟨i, g, hk.trans h⟩
  | done e => obtain ⟨i, g, h⟩ := h; exact ⟨i, g, hk.trans h⟩
section
variable {m r b c : Nat} {own own1 : Nat → Nat} {G G1 : GS} {s s' : MS} {A : Ar}
theorem RM.rload (orc : FuncId → Bool) (h : RM own G r s) (k : Nat) (a : Int) : ∃ own1 G1, (E orc).cl 264 [P0 r, .int .i64 a] (G.room k) = some (.int .u64 (s.load a).new, G1) ∧ RW no own G own1 G1 r (s.load a) := by
  have w0 := (RW.refl (B := no) h).ext ((Ext.refl G).room k)
  obtain ⟨own2, G2, e2, w2⟩ := w0.rm.load orc a
  exact ⟨own2, G2, e2, w0.trans w2 fun _ _ h => h⟩
theorem RM.rstore (orc : FuncId → Bool) (h : RM own G r s) (k : Nat) (a v : Int) : ∃ own1 G1, (E orc).cl 46 [P0 r, .int .i64 a, .int .u64 v] (G.room k) = some (.tuple #[], G1) ∧ RW no own G own1 G1 r (s.store a v) := by
  have w0 := (RW.refl (B := no) h).ext ((Ext.refl G).room k)
  obtain ⟨own2, G2, e2, w2⟩ := w0.rm.store orc a v
  exact ⟨own2, G2, e2, w0.trans w2 fun _ _ h => h⟩
theorem rref_val {i w : Int} (h0 : 0 ≤ i ∧ i ≤ 65534) : orI .u64 (i + 1) (shlI .u64 (w % 4294967296) 16) = wordT i (w % 4294967296) := by
  have ht0 : 0 ≤ w % 4294967296 ∧ w % 4294967296 < 4294967296 := by omega
  unfold wordT
  generalize w % 4294967296 = t at *
  have e4 : shlI .u64 t 16 = t * 65536 := by
    show IntKind.wrap .u64 (t * 2 ^ (min (16 : Int).toNat 64)) = _
    rw [show (min (16 : Int).toNat 64) = 16 from rfl, wrap_u64, show (2 : Int) ^ 16 = 65536 from rfl]; omega
  have hu1 : U (i + 1) := ⟨by omega, by omega⟩
  have hu2 : U (t * 65536) := ⟨by omega, by omega⟩
  have k := or_add 16 t.toNat hu2 hu1 (by omega) (by omega)
  rw [e4, or_u64 hu1 hu2, Nat.or_comm, ← or_u64 hu2 hu1, k]; omega
theorem ralloc_ok (orc : FuncId → Bool) {p : AlS} (h : RM own G r s) (hs : s.ok) (hA : A.ok) (hb : b < G.nx) (hc : c < G.nx) (tb : own b ≠ 11) (tc : own c ≠ 11) (hbc : b ≠ c) (hp : p.ok A) (hr : RalR A G b c p) :
    ∃ own1 G1, (E orc).cl 180 [P0 b, P0 r] G = some (.bool (p.step A s).1.over, G1) ∧ RW (fun x => x = b ∨ x = c) own G own1 G1 r (p.step A s).2 ∧ RalR A G1 b c (p.step A s).1 := by
  obtain ⟨hR, g1, g2, g3, g4, g5, g6⟩ := hA
  have hz1 := hR.1
  have hz2 := hR.2.1
  simp only at hz1 hz2
  cases p with
  | done g e =>
    obtain ⟨i, ho⟩ := hr
    refine ⟨own, G, f180 (exL_ok Q orc) _ _ G _ ?_, RW.refl h, i, ho⟩
    simp [jb180_0, j180_0, jb180_1, j180_1, sb180, s180, clip_t, ho, AlS.step, AlS.over]
  | lacks =>
    obtain ⟨i, ho⟩ := hr
    obtain ⟨G1, hG1⟩ : ∃ G1, G1 = G.put b ⟨bL A c 2 i 0 7, 1, false, 1⟩ := ⟨_, rfl⟩
    have w1 := (RW.refl (B := fun x => x = b ∨ x = c) h).putB (.inl rfl) hb tb ⟨bL A c 2 i 0 7, 1, false, 1⟩
    rw [← hG1] at w1
    have o1 : G1.obj b = some ⟨bL A c 2 i 0 7, 1, false, 1⟩ := by rw [hG1]; simp
    obtain ⟨own2, G2, e2, w2⟩ := w1.rm.rload orc 15 A.worn
    have o2 := (w2.keep (Nat.lt_of_lt_of_le hb w1.nx) (by rw [w1.stp.same hb]; exact tb) id).trans o1
    have w12 := w1.trans w2 fun _ _ h => h.elim
    have hsz : IntKind.wrap .u64 A.size = A.size := by rw [wrap_u64]; omega
    simp only [AlS.step]
    generalize s.load A.worn = s' at *
    by_cases hc : A.size ≤ s'.new
    · rw [if_pos hc]
      have w3 := (w12.putB (b := b) (.inl rfl) hb tb ⟨bL A c 2 i 0 12, 1, false, 1⟩).putB (b := b) (.inl rfl) hb tb ⟨bL A c 9 i 0 12, 1, false, 1⟩
      refine ⟨own2, _, f180 (exL_ok Q orc) _ _ G _ ?_, w3, i, by simp⟩
      simp [jb180_0, j180_0, jb180_1, j180_1, sb180, s180, clip_t, ho, ← hG1, o1, e2, o2, hsz, hc, AlS.over]
    · rw [if_neg hc]
      have w3 := w12.putB (b := b) (.inl rfl) hb tb ⟨bL A c 9 i 0 7, 1, false, 1⟩
      refine ⟨own2, _, f180 (exL_ok Q orc) _ _ G _ ?_, w3, i, by simp⟩
      simp [jb180_0, j180_0, jb180_1, j180_1, sb180, s180, clip_t, ho, ← hG1, o1, e2, o2, hsz, hc, AlS.over]
  | gives i =>
    have ho : G.obj b = _ := hr
    obtain ⟨hi0, hi1⟩ := hp
    have ha : IntKind.wrap .i64 (A.gens + i) = A.gens + i := wrap64 (by omega) (by omega)
    have ha1 : IntKind.wrap .i64 (i + 1) = i + 1 := wrap64 (by omega) (by omega)
    have ha2 : IntKind.wrap .u64 (i + 1) = i + 1 := by rw [wrap_u64]; omega
    obtain ⟨own2, G2, e2, w2⟩ := h.rload orc 13 (A.gens + i)
    have hw := (hs.load (A.gens + i)).2
    simp only [AlS.step]
    generalize s.load (A.gens + i) = s' at *
    have o2 := (w2.keep hb tb id).trans ho
    have hm : s'.new.tmod 4294967296 = s'.new % 4294967296 := Int.tmod_eq_emod_of_nonneg hw.1
    have hm2 : IntKind.wrap .u64 (s'.new % 4294967296) = s'.new % 4294967296 := by rw [wrap_u64]; omega
    have hv := rref_val (i := i) (w := s'.new) (by omega)
    have w4 := ((w2.mono (B' := fun x => x = b ∨ x = c) fun _ _ h => h.elim).putB (b := b) (.inl rfl) hb tb ⟨bL A c 1 i (wordT i (s'.new % 4294967296)) 0, 1, false, 1⟩).putB (b := b) (.inl rfl) hb tb ⟨bL A c 9 i (wordT i (s'.new % 4294967296)) 0, 1, false, 1⟩
    refine ⟨own2, _, f180 (exL_ok Q orc) _ _ G _ ?_, w4, i, by simp⟩
    simp [jb180_0, j180_0, jb180_1, j180_1, sb180, s180, clip_t, ho, ha, ha1, ha2, e2, o2, hm, hm2, hv, AlS.over]
  | pop p =>
    obtain ⟨hr1, ho⟩ := hr
    obtain ⟨own1, G1, e1, w1, r1⟩ := rpop_ok orc h hs hR hc tc hp.1 hr1
    have o1 := (w1.keep hb tb hbc).trans ho
    have w1' : RW (fun x => x = b ∨ x = c) own G own1 G1 r (p.step A.R s).2 := w1.mono fun _ _ h => .inr h
    simp only [AlS.step]
    generalize hq : p.step A.R s = q at *
    obtain ⟨q, s'⟩ := q
    simp only at e1 w1' r1
    cases q with
    | go n w i j =>
      simp [PopS.over] at e1
      refine ⟨own1, G1, f180 (exL_ok Q orc) _ _ G _ ?_, w1', r1, by simpa using o1⟩
      simp [jb180_0, j180_0, jb180_1, j180_1, sb180, s180, clip_t, ho, e1, o1, AlS.over]
    | done i =>
      simp [PopS.over] at e1
      have e2 := rpopindex_ok orc r1
      have w1'' := w1'.ext ((Ext.refl _).room 13)
      by_cases hi : i < 0
      · simp only [if_pos hi] at e2 ⊢
        have w4 := ((w1''.putB (b := b) (.inl rfl) hb tb ⟨bL A c 0 0 0 0, 1, false, 1⟩).putB (b := b) (.inl rfl) hb tb ⟨bL A c 1 0 0 0, 1, false, 1⟩).putB (b := b) (.inl rfl) hb tb ⟨bL A c 2 0 0 0, 1, false, 1⟩
        refine ⟨_, _, f180 (exL_ok Q orc) _ _ G _ ?_, w4, 0, by simp⟩
        simp [jb180_0, j180_0, jb180_1, j180_1, sb180, s180, clip_t, ho, e1, o1, e2, AlS.over]
      · simp only [if_neg hi] at e2 ⊢
        have w4 := (w1''.putB (b := b) (.inl rfl) hb tb ⟨bL A c 0 i 0 0, 1, false, 1⟩).putB (b := b) (.inl rfl) hb tb ⟨bL A c 1 i 0 0, 1, false, 1⟩
        refine ⟨_, _, f180 (exL_ok Q orc) _ _ G _ ?_, w4, by simp [RalR]⟩
        simp [jb180_0, j180_0, jb180_1, j180_1, sb180, s180, clip_t, ho, e1, o1, e2, AlS.over]
theorem rfree_ok (orc : FuncId → Bool) {p : FeS} (h : RM own G r s) (hs : s.ok) (hA : A.ok) (hb : b < G.nx) (hc : c < G.nx) (tb : own b ≠ 11) (tc : own c ≠ 11) (hbc : b ≠ c) (hp : p.ok A) (hr : RfeR A G b c p) :
    ∃ own1 G1, (E orc).cl 183 [P0 b, P0 r] G = some (.bool (p.step A s).1.over, G1) ∧ RW (fun x => x = b ∨ x = c) own G own1 G1 r (p.step A s).2 ∧ RfeR A G1 b c (p.step A s).1 := by
  obtain ⟨hR, g1, g2, g3, g4, g5, g6⟩ := hA
  have hz1 := hR.1
  have hz2 := hR.2.1
  simp only at hz1 hz2
  cases p with
  | done e =>
    obtain ⟨i, g, ho⟩ := hr
    refine ⟨own, G, f183 (exL_ok Q orc) _ _ G _ ?_, RW.refl h, i, g, ho⟩
    simp [jb183_0, j183_0, sb183, s183, clip_t, ho, FeS.step, FeS.over]
  | wears =>
    obtain ⟨i, g, ho⟩ := hr
    obtain ⟨own2, G2, e2, w2⟩ := RM.add orc h A.worn 1
    simp only [FeS.step]
    generalize s.add A.worn 1 = s' at *
    have o2 := (w2.keep hb tb id).trans ho
    have w3 := (w2.mono (B' := fun x => x = b ∨ x = c) fun _ _ h => h.elim).putB (b := b) (.inl rfl) hb tb ⟨bL A c 9 i g 0, 1, false, 1⟩
    refine ⟨own2, _, f183 (exL_ok Q orc) _ _ G _ ?_, w3, i, g, by simp⟩
    simp [jb183_0, j183_0, sb183, s183, clip_t, ho, e2, o2, FeS.over]
  | looks i =>
    obtain ⟨hr1, ho⟩ := hr
    obtain ⟨hi0, hi1⟩ := hp
    have ha : IntKind.wrap .i64 (A.gens + i) = A.gens + i := wrap64 (by omega) (by omega)
    obtain ⟨own2, G2, e2, w2⟩ := h.rload orc 16 (A.gens + i)
    have hw := (hs.load (A.gens + i)).2
    simp only [FeS.step]
    generalize s.load (A.gens + i) = s' at *
    have o2 := (w2.keep hb tb id).trans ho
    have hm : s'.new.tmod 4294967296 = s'.new % 4294967296 := Int.tmod_eq_emod_of_nonneg hw.1
    have hm2 : IntKind.wrap .u64 (s'.new % 4294967296) = s'.new % 4294967296 := by rw [wrap_u64]; omega
    have hl : IntKind.wrap .u64 A.limit = A.limit := by rw [wrap_u64]; omega
    have r2 : RpusR A.R G2 c (.go 1 0 i) := hr1.kept (w2.keep hc tc id)
    have w3 := (((w2.mono (B' := fun x => x = b ∨ x = c) fun _ _ h => h.elim).putB (b := b) (.inl rfl) hb tb ⟨bL A c 0 i s'.new 0, 1, false, 1⟩).putB (b := b) (.inl rfl) hb tb ⟨bL A c 1 i s'.new 0, 1, false, 1⟩).ext ((Ext.refl _).room 12)
    by_cases hcc : A.limit ≤ s'.new % 4294967296
    · rw [if_pos hcc]
      have w4 := w3.putB (b := b) (.inl rfl) hb tb ⟨bL A c 3 i s'.new 0, 1, false, 1⟩
      refine ⟨_, _, f183 (exL_ok Q orc) _ _ G _ ?_, w4, i, s'.new, by simp⟩
      simp [jb183_0, j183_0, sb183, s183, clip_t, ho, ha, e2, o2, hm, hm2, hl, hcc, FeS.over]
    · rw [if_neg hcc]
      refine ⟨_, _, f183 (exL_ok Q orc) _ _ G _ ?_, w3, r2.kept (by simp [Ne.symm hbc]), by simp⟩
      simp [jb183_0, j183_0, sb183, s183, clip_t, ho, ha, e2, o2, hm, hm2, hl, hcc, FeS.over]
  | raises i g =>
    obtain ⟨hr1, ho⟩ := hr
    obtain ⟨hi0, hi1, hug⟩ := hp
    have ha : IntKind.wrap .i64 (A.gens + i) = A.gens + i := wrap64 (by omega) (by omega)
    simp only [FeS.step]
    generalize hu : IntKind.wrap .u64 (g + 1) = u at *
    obtain ⟨own2, G2, e2, w2⟩ := h.rstore orc 17 (A.gens + i) u
    generalize s.store (A.gens + i) u = s' at *
    have o2 := (w2.keep hb tb id).trans ho
    have r2 : RpusR A.R G2 c (.go 1 0 i) := hr1.kept (w2.keep hc tc id)
    have w3 := (w2.mono (B' := fun x => x = b ∨ x = c) fun _ _ h => h.elim).putB (b := b) (.inl rfl) hb tb ⟨bL A c 2 i g 0, 1, false, 1⟩
    refine ⟨_, _, f183 (exL_ok Q orc) _ _ G _ ?_, w3, r2.kept (by simp [Ne.symm hbc]), i, g, by simp⟩
    simp [jb183_0, j183_0, sb183, s183, clip_t, ho, ha, hu, e2, o2, FeS.over]
  | push p =>
    obtain ⟨hr1, i, g, ho⟩ := hr
    obtain ⟨own1, G1, e1, w1, r1⟩ := rpush_ok orc h hs hR hc tc hp hr1
    have o1 := (w1.keep hb tb hbc).trans ho
    have w1' : RW (fun x => x = b ∨ x = c) own G own1 G1 r (p.step A.R s).2 := w1.mono fun _ _ h => .inr h
    simp only [FeS.step]
    generalize hq : p.step A.R s = q at *
    obtain ⟨q, s'⟩ := q
    simp only at e1 w1' r1
    cases hov : q.over with
    | false =>
      rw [hov] at e1
      refine ⟨own1, G1, f183 (exL_ok Q orc) _ _ G _ ?_, w1', r1, i, g, by simpa using o1⟩
      simp [jb183_0, j183_0, sb183, s183, clip_t, ho, e1, o1, FeS.over, hov]
    | true =>
      rw [hov] at e1
      have w4 := w1'.putB (b := b) (.inl rfl) hb tb ⟨bL A c 9 i g 0, 1, false, 1⟩
      refine ⟨own1, _, f183 (exL_ok Q orc) _ _ G _ ?_, w4, i, g, by simp⟩
      simp [jb183_0, j183_0, sb183, s183, clip_t, ho, e1, o1, FeS.over, hov]
theorem rnewalloc_ok (orc : FuncId → Bool) (A : Ar) (G : GS) : ∃ b c G', (E orc).cl 186 [A.v] G = some (P0 b, G') ∧ Ext G G' ∧ G.nx ≤ b ∧ b < G'.nx ∧ G.nx ≤ c ∧ c < G'.nx ∧ b ≠ c ∧ RalR A G' b c (.pop (.go 1 0 0 0)) := by
  have w : Wp (s186 true (exL Q orc) A.v G) fun q => ∃ b c, q.1 = P0 b ∧ Ext G q.2 ∧ G.nx ≤ b ∧ b < q.2.nx ∧ G.nx ≤ c ∧ c < q.2.nx ∧ b ≠ c ∧ RalR A q.2 b c (.pop (.go 1 0 0 0)) := by
    have x0 : Ext G (G.push ⟨A.cells, 1, false, 1⟩) := (Ext.refl G).push _
    simp [s186]
    generalize hG0 : GS.room _ _ = G0
    have x0 : Ext G G0 := by rw [← hG0]; exact x0.room _
    have o0 : G0.obj G.nx = some ⟨A.cells, 1, false, 1⟩ := by rw [← hG0]; simp
    have n0 : G.nx < G0.nx := by rw [← hG0]; simp; omega
    have n0' : G.nx + 1 + 5 < G0.nx := by rw [← hG0]; simp
    refine Wp.stepX (rnewpop_ok orc A.R _) fun c G1 ⟨x1, c1, c2, c3⟩ => ?_
    have n1 := x1.nx
    have o1 := (x1.obj _ n0).trans o0
    simp [o1, o0]
    refine ⟨Ext.drawn (x0.trans x1) (by omega) (by omega) _, by omega, by omega, c, by omega, c2, by omega, c3.kept (by simp; omega), by simp [bL]⟩
  obtain ⟨⟨v, G'⟩, e1, b, c, rfl, h⟩ := w
  exact ⟨b, c, G', f186 (exL_ok Q orc) _ G _ e1, h⟩
theorem rnewfree_ok (orc : FuncId → Bool) (A : Ar) (i : Int) (G : GS) : ∃ b c G', (E orc).cl 188 [A.v, .int .i64 i] G = some (P0 b, G') ∧ Ext G G' ∧ G.nx ≤ b ∧ b < G'.nx ∧ G.nx ≤ c ∧ c < G'.nx ∧ b ≠ c ∧ RfeR A G' b c (newFe A i) := by
  have w : Wp (s188 true (exL Q orc) A.v (.int .i64 i) G) fun q => ∃ b c, q.1 = P0 b ∧ Ext G q.2 ∧ G.nx ≤ b ∧ b < q.2.nx ∧ G.nx ≤ c ∧ c < q.2.nx ∧ b ≠ c ∧ RfeR A q.2 b c (newFe A i) := by
    have x0 : Ext G (G.push ⟨A.cells, 1, false, 1⟩) := (Ext.refl G).push _
    simp [s188]
    generalize hG0 : GS.room _ _ = G0
    have x0 : Ext G G0 := by rw [← hG0]; exact x0.room _
    have o0 : G0.obj G.nx = some ⟨A.cells, 1, false, 1⟩ := by rw [← hG0]; simp
    have n0 : G.nx < G0.nx := by rw [← hG0]; simp; omega
    obtain ⟨d, hd⟩ : ∃ d, d = G0.nx := ⟨_, rfl⟩
    have n0' : G.nx + 1 + 7 < G0.nx := by rw [← hG0]; simp
    refine Wp.stepX (rnewpush_ok orc A.R i _) fun c G1 ⟨x1, c1, c2, c3⟩ => ?_
    have n1 := x1.nx
    have o1 := (x1.obj _ n0).trans o0
    unfold newFe
    obtain ⟨GB, hGB⟩ : ∃ GB, GB = ((G1.at' (G.nx + 1 + 7)).push ⟨bL A c 0 i 0 0, 1, false, 1⟩).back G1 := ⟨_, rfl⟩
    have xB : Ext G GB := by rw [hGB]; exact Ext.drawn (x0.trans x1) (by omega) (by omega) _
    have oB : GB.obj (G.nx + 1 + 7) = some ⟨bL A c 0 i 0 0, 1, false, 1⟩ := by rw [hGB]; simp
    have oB0 : GB.obj G.nx = some ⟨A.cells, 1, false, 1⟩ := by rw [hGB]; simp [o1]; omega
    have nB : GB.nx = G1.nx := by rw [hGB]; simp
    have cB : RpusR A.R GB c (newPus A.R i) := c3.kept (by rw [hGB]; simp; omega)
    by_cases hi : i < 0
    · simp [o1, o0, hi, ← hGB, oB]
      refine ⟨(xB.put (by omega) _).put (by omega) _, by omega, by omega, c, by omega, by omega, by omega, i, 0, by simp⟩
    · by_cases hi2 : A.size ≤ i
      · simp [o1, o0, hi, hi2, ← hGB, oB0, oB]
        refine ⟨(xB.put (by omega) _).put (by omega) _, by omega, by omega, c, by omega, by omega, by omega, i, 0, by simp⟩
      · simp [o1, o0, hi, hi2, ← hGB, oB0, oB]
        rw [newPus_in ⟨by omega, by simp only; omega⟩] at cB
        exact ⟨xB, by omega, by omega, c, by omega, by omega, by omega, cB, oB⟩
  obtain ⟨⟨v, G'⟩, e1, b, c, rfl, h⟩ := w
  exact ⟨b, c, G', f188 (exL_ok Q orc) _ _ G _ e1, h⟩
theorem rallocref_ok (orc : FuncId → Bool) {p : AlS} (h : RalR A G b c p) : ∃ G', (E orc).cl 181 [P0 b] G = some (.tuple #[.int .u64 p.told.1, .int .i64 p.told.2], G') ∧ Ext G G' := by
  have w : Wp (s181 true (exL Q orc) (P0 b) G) fun q => q.1 = .tuple #[.int .u64 p.told.1, .int .i64 p.told.2] ∧ Ext G q.2 := by
    cases p with
    | pop p => simp [s181, h.2, AlS.told]; exact Ext.refl _
    | gives i => have h : G.obj b = _ := h; simp [s181, h, AlS.told]; exact Ext.refl _
    | lacks => obtain ⟨i, h⟩ := h; simp [s181, h, AlS.told]; exact Ext.refl _
    | done g e => obtain ⟨i, h⟩ := h; simp [s181, h, AlS.told]; exact (Ext.refl _).room _
  obtain ⟨⟨v, G'⟩, e1, rfl, h⟩ := w
  exact ⟨G', f181 (exL_ok Q orc) _ G _ e1, h⟩
theorem rfreeerr_ok (orc : FuncId → Bool) {p : FeS} (h : RfeR A G b c p) : (E orc).cl 185 [P0 b] G = some (.int .i64 p.told, G) := by
  refine f185 (exL_ok Q orc) _ G _ ?_
  cases p with
  | looks i => simp [s185, h.2, FeS.told]
  | raises i g => simp [s185, h.2, FeS.told]
  | push p => obtain ⟨_, i, g, h⟩ := h; simp [s185, h, FeS.told]
  | wears => obtain ⟨i, g, h⟩ := h; simp [s185, h, FeS.told]
  | done e => obtain ⟨i, g, h⟩ := h; simp [s185, h, FeS.told]
end
end Go.Proofs.YtdohlgkmaeipjaaGreat.Lift

