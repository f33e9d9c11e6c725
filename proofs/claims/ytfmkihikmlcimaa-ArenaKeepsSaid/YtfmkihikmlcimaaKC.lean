/- contracts of the program's functions -/
import Derived.Test.YtfmkihikmlcimaaKB
set_option linter.unusedVariables false
set_option linter.unusedSimpArgs false
set_option maxRecDepth 20000
namespace Go.Proofs.Ytfmkihikmlcimaa.Lift
open Go Go.Proofs.Ytfmkihikmlcimaa.Gh Go.Proofs
/-! ### An arena's operations -/
structure Ar where
  top : Int
  links : Int
  size : Int
  gens : Int
  worn : Int
  limit : Int
abbrev Ar.R (A : Ar) : Sk := ⟨A.top, A.links, A.size⟩
abbrev Ar.cells (A : Ar) : List Value := [.int .i64 A.top, .int .i64 A.links, .int .i64 A.size, .int .i64 A.gens, .int .i64 A.worn, .int .i64 A.limit]
abbrev Ar.v (A : Ar) : Value := .agg ⟨A.cells⟩
def Ar.ok (A : Ar) : Prop := A.R.ok ∧ 0 ≤ A.gens ∧ A.gens + A.size ≤ 4096 ∧ 0 ≤ A.worn ∧ A.worn < 4096 ∧ 1 ≤ A.limit ∧ A.limit ≤ 4294967295
abbrev aL (A : Ar) (c : Nat) (next : Value) (i g e : Int) : List Value := [P0 c, .int .i64 A.top, .int .i64 A.links, .int .i64 A.size, .int .i64 A.gens, .int .i64 A.worn, .int .i64 A.limit, .bool true, next, .int .i64 i, .int .u64 g, .int .i64 e]
inductive AlS where
  | pop (p : PopS)
  | gives (i : Int)
  | lacks
  | done (g e : Int)
def AlS.over : AlS → Bool
  | .done .. => true
  | _ => false
def AlS.ok (A : Ar) : AlS → Prop
  | .pop p => p.ok A.R ∧ p.over = false
  | .gives i => 0 ≤ i ∧ i < A.size
  | _ => True
def AlS.step (A : Ar) : AlS → MS → AlS × MS
  | .pop p, s =>
    match p.step A.R s with
    | (.done i, s') => (if i < 0 then .lacks else .gives i, s')
    | (p', s') => (.pop p', s')
  | .gives i, s => (.done (wordT i ((s.load (A.gens + i)).new % 4294967296)) 0, s.load (A.gens + i))
  | .lacks, s => (.done 0 (if A.size ≤ (s.load A.worn).new then 12 else 7), s.load A.worn)
  | .done g e, s => (.done g e, s)
theorem AlS.ok.step {A : Ar} {p : AlS} {s : MS} (hA : A.ok) (hp : p.ok A) (hs : s.ok) : (p.step A s).1.ok A ∧ (p.step A s).2.ok := by
  cases p with
  | done g e => exact ⟨trivial, hs⟩
  | lacks => exact ⟨trivial, (hs.load _).1⟩
  | gives i => exact ⟨trivial, (hs.load _).1⟩
  | pop p =>
    have h := PopS.ok.step hA.1 hp.1 hs
    simp only [AlS.step]
    cases hq : p.step A.R s with
    | mk q s' =>
      rw [hq] at h
      cases q with
      | done i =>
        refine ⟨?_, h.2⟩
        simp only
        split
        · trivial
        · exact ⟨by omega, h.1.2⟩
      | go n w i j => exact ⟨⟨h.1, rfl⟩, h.2⟩
def AlR (A : Ar) (G : GS) (b c : Nat) : AlS → Prop
  | .pop p => PopR A.R G c p ∧ G.obj b = some ⟨aL A c (.func (.func 87) #[] #[]) 0 0 0, 1, false, 1⟩
  | .gives i => G.obj b = some ⟨aL A c (.func (.func 120) #[] #[]) i 0 0, 1, false, 1⟩
  | .lacks => ∃ i, G.obj b = some ⟨aL A c (.func (.func 121) #[] #[]) i 0 0, 1, false, 1⟩
  | .done g e => ∃ i, G.obj b = some ⟨aL A c .nilFunc i g e, 1, false, 1⟩
theorem AlR.kept {A : Ar} {G G' : GS} {b c : Nat} {p : AlS} (h : AlR A G b c p) (hk : G'.obj b = G.obj b) (hc : G'.obj c = G.obj c) : AlR A G' b c p := by
  cases p with
  | pop p => exact ⟨h.1.kept hc, hk.trans h.2⟩
  | gives i => exact hk.trans h
  | lacks => obtain ⟨i, h⟩ := h; exact ⟨i, hk.trans h⟩
  | done g e => obtain ⟨i, h⟩ := h; exact ⟨i, hk.trans h⟩
section
variable {m r b c : Nat} {own own1 : Nat → Nat} {G G1 : GS} {s s' : MS} {A : Ar}
theorem alloc_ok (orc : FuncId → Bool) (ht : orc 60 = false) (hrf : orc 95 = false) {p : AlS} (h : PM own G m s) (hs : s.ok) (hA : A.ok) (hb : b < G.nx) (hc : c < G.nx) (tb : own b ≠ 10) (tc : own c ≠ 10) (hbc : b ≠ c) (hp : p.ok A) (hr : AlR A G b c p) :
    ∃ own1 G1, (E orc).cl 59 [P0 b, P0 m] G = some (.bool (p.step A s).1.over, G1) ∧ PW (fun x => x = b ∨ x = c) own G own1 G1 m (p.step A s).2 ∧ AlR A G1 b c (p.step A s).1 := by
  obtain ⟨hR, g1, g2, g3, g4, g5, g6⟩ := hA
  have hz2 := hR.2.1
  simp only at hz2
  cases p with
  | done g e =>
    obtain ⟨i, ho⟩ := hr
    refine ⟨own, G, f59 (exL_ok Q orc) _ _ G _ ?_, PW.refl h, i, ho⟩
    simp [s59, ho, AlS.step, AlS.over]
  | lacks =>
    obtain ⟨i, ho⟩ := hr
    obtain ⟨G1, hG1⟩ : ∃ G1, G1 = (G.put b ⟨aL A c (.func (.func 121) #[] #[]) i 0 7, 1, false, 1⟩).room 15 := ⟨_, rfl⟩
    have w1 := ((PW.refl (B := fun x => x = b ∨ x = c) h).putB (.inl rfl) hb tb ⟨aL A c (.func (.func 121) #[] #[]) i 0 7, 1, false, 1⟩).ext ((Ext.refl _).room 15)
    rw [← hG1] at w1
    have o1 : G1.obj b = some ⟨aL A c (.func (.func 121) #[] #[]) i 0 7, 1, false, 1⟩ := by rw [hG1]; simp
    obtain ⟨own2, G2, e2, w2⟩ := w1.pm.load orc A.worn
    have o2 := (w2.keep (Nat.lt_of_lt_of_le hb w1.nx) (by rw [w1.stp.same hb]; exact tb) id).trans o1
    have w12 := w1.trans w2 fun _ _ h => h.elim
    have hsz : IntKind.wrap .u64 A.size = A.size := by have := hR.1; simp only at this; rw [wrap_u64]; omega
    simp only [AlS.step]
    generalize s.load A.worn = s' at *
    by_cases hc : A.size ≤ s'.new
    · rw [if_pos hc]
      have w3 := (w12.putB (b := b) (.inl rfl) hb tb ⟨aL A c (.func (.func 121) #[] #[]) i 0 12, 1, false, 1⟩).putB (b := b) (.inl rfl) hb tb ⟨aL A c .nilFunc i 0 12, 1, false, 1⟩
      refine ⟨own2, _, f59 (exL_ok Q orc) _ _ G _ ?_, w3, i, by simp⟩
      have e4 : (E orc).cl 121 [P0 b, P0 m] G = some (.tuple #[], (G2.put b ⟨aL A c (.func (.func 121) #[] #[]) i 0 12, 1, false, 1⟩).put b ⟨aL A c .nilFunc i 0 12, 1, false, 1⟩) := by
        refine f121 (exL_ok Q orc) _ _ G _ ?_
        simp [jb121_0, j121_0, sb121, s121, clip_t, ho, ← hG1, o1, e2, o2, hsz, hc]
      simp [s59, ho, e4, AlS.over]
    · rw [if_neg hc]
      have w3 := w12.putB (b := b) (.inl rfl) hb tb ⟨aL A c .nilFunc i 0 7, 1, false, 1⟩
      refine ⟨own2, _, f59 (exL_ok Q orc) _ _ G _ ?_, w3, i, by simp⟩
      have e4 : (E orc).cl 121 [P0 b, P0 m] G = some (.tuple #[], G2.put b ⟨aL A c .nilFunc i 0 7, 1, false, 1⟩) := by
        refine f121 (exL_ok Q orc) _ _ G _ ?_
        simp [jb121_0, j121_0, sb121, s121, clip_t, ho, ← hG1, o1, e2, o2, hsz, hc]
      simp [s59, ho, e4, AlS.over]
  | gives i =>
    have ho : G.obj b = _ := hr
    obtain ⟨hi0, hi1⟩ := hp
    have ha : IntKind.wrap .i64 (A.gens + i) = A.gens + i := wrap64 (by omega) (by omega)
    obtain ⟨k, x0⟩ : ∃ k, Ext G (G.room k) := ⟨0, (Ext.refl G).room 0⟩
    clear x0 k
    have w1 := (PW.refl (B := fun x => x = b ∨ x = c) h)
    simp only [AlS.step]
    have key : ∀ k, ∃ own2 G2, (E orc).cl 52 [P0 m, .int .i64 (A.gens + i)] (G.room k) = some (.int .u64 (s.load (A.gens + i)).new, G2) ∧ PW no own G own2 G2 m (s.load (A.gens + i)) := fun k => by
      have w0 := (PW.refl (B := no) h).ext ((Ext.refl G).room k)
      obtain ⟨own2, G2, e2, w2⟩ := w0.pm.load orc (A.gens + i)
      exact ⟨own2, G2, e2, w0.trans w2 fun _ _ h => h⟩
    have hw := (hs.load (A.gens + i)).2
    generalize s.load (A.gens + i) = s' at *
    have fin : ∀ {own2 : Nat → Nat} {G2 : GS}, PW no own G own2 G2 m s' → ∃ own3 G3, (∃ G2', (E orc).cl 84 [.int .u64 s'.new] G2 = some (.int .i64 (s'.new % 4294967296), G2) ∧ (E orc).cl 97 [.agg ⟨[.int .i64 i, .int .i64 (s'.new % 4294967296), .bool false]⟩] G2 = some (.tuple #[.int .u64 (wordT i (s'.new % 4294967296)), .int .i64 0], G3) ∧ G2' = G2) ∧ PW no own G own3 G3 m s' := fun {own2 G2} w2 => by
      obtain ⟨G3, e3, x3⟩ := putref_ok orc hrf (i := i) (g := s'.new % 4294967296) (by omega) (by omega) G2
      exact ⟨_, G3, ⟨G2, gen_ok orc hw G2, e3, rfl⟩, w2.ext x3⟩
    obtain ⟨own2, G2, e2, w2⟩ := key 26
    obtain ⟨own3, G3, ⟨_, e3, e4, -⟩, w3⟩ := fin w2
    have o2 := (w2.keep hb tb id).trans ho
    have o3 := (w3.keep hb tb id).trans ho
    have w4 := ((w3.mono (B' := fun x => x = b ∨ x = c) fun _ _ h => h.elim).putB (b := b) (.inl rfl) hb tb ⟨aL A c (.func (.func 120) #[] #[]) i (wordT i (s'.new % 4294967296)) 0, 1, false, 1⟩).putB (b := b) (.inl rfl) hb tb ⟨aL A c .nilFunc i (wordT i (s'.new % 4294967296)) 0, 1, false, 1⟩
    refine ⟨own3, _, f59 (exL_ok Q orc) _ _ G _ ?_, w4, i, by simp⟩
    have e5 : (E orc).cl 120 [P0 b, P0 m] G = some (.tuple #[], (G3.put b ⟨aL A c (.func (.func 120) #[] #[]) i (wordT i (s'.new % 4294967296)) 0, 1, false, 1⟩).put b ⟨aL A c .nilFunc i (wordT i (s'.new % 4294967296)) 0, 1, false, 1⟩) := by
      refine f120 (exL_ok Q orc) _ _ G _ ?_
      simp [s120, ho, ha, e2, o2, e3, e4, o3]
    simp [s59, ho, e5, AlS.over]
  | pop p =>
    obtain ⟨hr1, ho⟩ := hr
    obtain ⟨own1, G1, e1, w1, r1⟩ := pop_ok orc ht h hs hR hc tc hp.1 hr1
    have o1 := (w1.keep hb tb hbc).trans ho
    have w1' : PW (fun x => x = b ∨ x = c) own G own1 G1 m (p.step A.R s).2 := w1.mono fun _ _ h => .inr h
    simp only [AlS.step]
    generalize hq : p.step A.R s = q at *
    obtain ⟨q, s'⟩ := q
    simp only at e1 w1' r1
    cases q with
    | go n w i j =>
      simp [PopS.over] at e1
      refine ⟨own1, G1, f59 (exL_ok Q orc) _ _ G _ ?_, w1', r1, by simpa using o1⟩
      have e5 : (E orc).cl 87 [P0 b, P0 m] G = some (.tuple #[], G1) := by
        refine f87 (exL_ok Q orc) _ _ G _ ?_
        simp [s87, ho, e1]
      simp [s59, ho, e5, o1, AlS.over]
    | done i =>
      simp [PopS.over] at e1
      have e2 := popindex_ok orc r1
      by_cases hi : i < 0
      · simp only [if_pos hi] at e2 ⊢
        have w4 := ((w1'.putB (b := b) (.inl rfl) hb tb ⟨aL A c (.func (.func 87) #[] #[]) 0 0 0, 1, false, 1⟩).putB (b := b) (.inl rfl) hb tb ⟨aL A c (.func (.func 120) #[] #[]) 0 0 0, 1, false, 1⟩).putB (b := b) (.inl rfl) hb tb ⟨aL A c (.func (.func 121) #[] #[]) 0 0 0, 1, false, 1⟩
        refine ⟨own1, _, f59 (exL_ok Q orc) _ _ G _ ?_, w4, 0, by simp⟩
        have e5 : (E orc).cl 87 [P0 b, P0 m] G = some (.tuple #[], ((G1.put b ⟨aL A c (.func (.func 87) #[] #[]) 0 0 0, 1, false, 1⟩).put b ⟨aL A c (.func (.func 120) #[] #[]) 0 0 0, 1, false, 1⟩).put b ⟨aL A c (.func (.func 121) #[] #[]) 0 0 0, 1, false, 1⟩) := by
          refine f87 (exL_ok Q orc) _ _ G _ ?_
          simp [s87, ho, e1, o1, e2]
        simp [s59, ho, e5, AlS.over]
      · simp only [if_neg hi] at e2 ⊢
        have w4 := (w1'.putB (b := b) (.inl rfl) hb tb ⟨aL A c (.func (.func 87) #[] #[]) i 0 0, 1, false, 1⟩).putB (b := b) (.inl rfl) hb tb ⟨aL A c (.func (.func 120) #[] #[]) i 0 0, 1, false, 1⟩
        refine ⟨own1, _, f59 (exL_ok Q orc) _ _ G _ ?_, w4, by simp [AlR]⟩
        have e5 : (E orc).cl 87 [P0 b, P0 m] G = some (.tuple #[], (G1.put b ⟨aL A c (.func (.func 87) #[] #[]) i 0 0, 1, false, 1⟩).put b ⟨aL A c (.func (.func 120) #[] #[]) i 0 0, 1, false, 1⟩) := by
          refine f87 (exL_ok Q orc) _ _ G _ ?_
          simp [s87, ho, e1, o1, e2]
        simp [s59, ho, e5, AlS.over]
end
end Go.Proofs.Ytfmkihikmlcimaa.Lift

set_option linter.unusedVariables false
set_option linter.unusedSimpArgs false
set_option maxRecDepth 20000
namespace Go.Proofs.Ytfmkihikmlcimaa.Lift
open Go Go.Proofs.Ytfmkihikmlcimaa.Gh Go.Proofs
/-! ### A node that is taken back -/
inductive FeS where
  | looks (i : Int)
  | raises (i g : Int)
  | push (p : PusS)
  | wears
  | done (e : Int)
def FeS.over : FeS → Bool
  | .done _ => true
  | _ => false
def FeS.ok (A : Ar) : FeS → Prop
  | .looks i => 0 ≤ i ∧ i < A.size
  | .raises i g => 0 ≤ i ∧ i < A.size ∧ U g
  | .push p => p.ok A.R
  | _ => True
def FeS.step (A : Ar) : FeS → MS → FeS × MS
  | .looks i, s => (if A.limit ≤ (s.load (A.gens + i)).new % 4294967296 then .wears else .raises i (s.load (A.gens + i)).new, s.load (A.gens + i))
  | .raises i g, s => (.push (.go 1 0 i), s.store (A.gens + i) (IntKind.wrap .u64 (g + 1)))
  | .push p, s => (if (p.step A.R s).1.over = true then .done 0 else .push (p.step A.R s).1, (p.step A.R s).2)
  | .wears, s => (.done 0, s.add A.worn 1)
  | .done e, s => (.done e, s)
theorem FeS.ok.step {A : Ar} {p : FeS} {s : MS} (hA : A.ok) (hp : p.ok A) (hs : s.ok) : (p.step A s).1.ok A ∧ (p.step A s).2.ok := by
  cases p with
  | done e => exact ⟨trivial, hs⟩
  | wears => exact ⟨trivial, (hs.add _ _).1⟩
  | looks i =>
    refine ⟨?_, (hs.load _).1⟩
    simp only [FeS.step]
    split
    · trivial
    · exact ⟨hp.1, hp.2, (hs.load _).2⟩
  | raises i g => exact ⟨⟨by decide, by decide, ⟨by decide, by decide⟩, hp.1, hp.2.1⟩, hs.store _ (U_wrap _)⟩
  | push p =>
    have h := PusS.ok.step hA.1 hp hs
    simp only [FeS.step]
    split
    · exact ⟨trivial, h.2⟩
    · exact ⟨h.1, h.2⟩
theorem newPus_in {R : Sk} {i : Int} (h : 0 ≤ i ∧ i < R.size) : newPus R i = .go 1 0 i := by unfold newPus; rw [if_neg (by omega)]
def FeR (A : Ar) (G : GS) (b c : Nat) : FeS → Prop
  | .looks i => PusR A.R G c (.go 1 0 i) ∧ G.obj b = some ⟨aL A c (.func (.func 47) #[] #[]) i 0 0, 1, false, 1⟩
  | .raises i g => PusR A.R G c (.go 1 0 i) ∧ G.obj b = some ⟨aL A c (.func (.func 83) #[] #[]) i g 0, 1, false, 1⟩
  | .push p => PusR A.R G c p ∧ ∃ i g, G.obj b = some ⟨aL A c (.func (.func 115) #[] #[]) i g 0, 1, false, 1⟩
  | .wears => ∃ i g, G.obj b = some ⟨aL A c (.func (.func 85) #[] #[]) i g 0, 1, false, 1⟩
  | .done e => ∃ i g, G.obj b = some ⟨aL A c .nilFunc i g e, 1, false, 1⟩
theorem FeR.kept {A : Ar} {G G' : GS} {b c : Nat} {p : FeS} (h : FeR A G b c p) (hk : G'.obj b = G.obj b) (hc : G'.obj c = G.obj c) : FeR A G' b c p := by
  cases p with
  | looks i => exact ⟨h.1.kept hc, hk.trans h.2⟩
  | raises i g => exact ⟨h.1.kept hc, hk.trans h.2⟩
  | push p => obtain ⟨h1, i, g, h2⟩ := h; exact ⟨h1.kept hc, i, g, hk.trans h2⟩
  | wears => obtain ⟨i, g, h⟩ := h; exact ⟨i, g, hk.trans h⟩
  | done e => obtain ⟨i, g, h⟩ := h; exact ⟨i, g, hk.trans h⟩
section
variable {m r b c : Nat} {own own1 : Nat → Nat} {G G1 : GS} {s s' : MS} {A : Ar}
theorem free_ok (orc : FuncId → Bool) (ht : orc 60 = false) {p : FeS} (h : PM own G m s) (hs : s.ok) (hA : A.ok) (hb : b < G.nx) (hc : c < G.nx) (tb : own b ≠ 10) (tc : own c ≠ 10) (hbc : b ≠ c) (hp : p.ok A) (hr : FeR A G b c p) :
    ∃ own1 G1, (E orc).cl 19 [P0 b, P0 m] G = some (.bool (p.step A s).1.over, G1) ∧ PW (fun x => x = b ∨ x = c) own G own1 G1 m (p.step A s).2 ∧ FeR A G1 b c (p.step A s).1 := by
  obtain ⟨hR, g1, g2, g3, g4, g5, g6⟩ := hA
  have hz2 := hR.2.1
  simp only at hz2
  cases p with
  | done e =>
    obtain ⟨i, g, ho⟩ := hr
    refine ⟨own, G, f19 (exL_ok Q orc) _ _ G _ ?_, PW.refl h, i, g, ho⟩
    simp [s19, ho, FeS.step, FeS.over]
  | wears =>
    obtain ⟨i, g, ho⟩ := hr
    have key : ∀ k, ∃ own2 G2, (E orc).cl 116 [P0 m, .int .i64 A.worn, .int .u64 1] (G.room k) = some (.int .u64 (s.add A.worn 1).new, G2) ∧ PW no own G own2 G2 m (s.add A.worn 1) := fun k => by
      have w0 := (PW.refl (B := no) h).ext ((Ext.refl G).room k)
      obtain ⟨own2, G2, e2, w2⟩ := w0.pm.add orc A.worn 1
      exact ⟨own2, G2, e2, w0.trans w2 fun _ _ h => h⟩
    have key0 := PM.add orc h A.worn 1
    simp only [FeS.step]
    generalize s.add A.worn 1 = s' at *
    obtain ⟨own2, G2, e2, w2⟩ := key0
    have o2 := (w2.keep hb tb id).trans ho
    have w3 := (w2.mono (B' := fun x => x = b ∨ x = c) fun _ _ h => h.elim).putB (b := b) (.inl rfl) hb tb ⟨aL A c .nilFunc i g 0, 1, false, 1⟩
    refine ⟨own2, _, f19 (exL_ok Q orc) _ _ G _ ?_, w3, i, g, by simp⟩
    have e4 : (E orc).cl 85 [P0 b, P0 m] G = some (.tuple #[], G2.put b ⟨aL A c .nilFunc i g 0, 1, false, 1⟩) := by
      refine f85 (exL_ok Q orc) _ _ G _ ?_
      simp [s85, ho, e2, o2]
    simp [s19, ho, e4, FeS.over]
  | looks i =>
    obtain ⟨hr1, ho⟩ := hr
    obtain ⟨hi0, hi1⟩ := hp
    have ha : IntKind.wrap .i64 (A.gens + i) = A.gens + i := wrap64 (by omega) (by omega)
    have w0 := (PW.refl (B := no) h).ext ((Ext.refl G).room 16)
    obtain ⟨own2, G2, e2, w2'⟩ := w0.pm.load orc (A.gens + i)
    have w2 := w0.trans w2' fun _ _ h => h
    have hw := (hs.load (A.gens + i)).2
    simp only [FeS.step]
    generalize s.load (A.gens + i) = s' at *
    have o2 := (w2.keep hb tb id).trans ho
    have e3 := fun G => gen_ok orc hw G
    obtain ⟨G3, hG3⟩ : ∃ G3, G3 = ((G2.put b ⟨aL A c (.func (.func 47) #[] #[]) i s'.new 0, 1, false, 1⟩).put b ⟨aL A c (.func (.func 83) #[] #[]) i s'.new 0, 1, false, 1⟩).room 11 := ⟨_, rfl⟩
    have w3 := (((w2.mono (B' := fun x => x = b ∨ x = c) fun _ _ h => h.elim).putB (b := b) (.inl rfl) hb tb ⟨aL A c (.func (.func 47) #[] #[]) i s'.new 0, 1, false, 1⟩).putB (b := b) (.inl rfl) hb tb ⟨aL A c (.func (.func 83) #[] #[]) i s'.new 0, 1, false, 1⟩).ext ((Ext.refl _).room 11)
    rw [← hG3] at w3
    have o3 : G3.obj b = some ⟨aL A c (.func (.func 83) #[] #[]) i s'.new 0, 1, false, 1⟩ := by rw [hG3]; simp
    have r2 : PusR A.R G3 c (.go 1 0 i) := hr1.kept (by rw [hG3]; simp [Ne.symm hbc]; exact w2.keep hc tc id)
    by_cases hcc : A.limit ≤ s'.new % 4294967296
    · rw [if_pos hcc]
      have w4 := w3.putB (b := b) (.inl rfl) hb tb ⟨aL A c (.func (.func 85) #[] #[]) i s'.new 0, 1, false, 1⟩
      refine ⟨_, _, f19 (exL_ok Q orc) _ _ G _ ?_, w4, i, s'.new, by simp⟩
      have e4 : (E orc).cl 47 [P0 b, P0 m] G = some (.tuple #[], G3.put b ⟨aL A c (.func (.func 85) #[] #[]) i s'.new 0, 1, false, 1⟩) := by
        refine f47 (exL_ok Q orc) _ _ G _ ?_
        simp [s47, ho, ha, e2, o2, ← hG3, e3, o3, hcc]
      simp [s19, ho, e4, FeS.over]
    · rw [if_neg hcc]
      refine ⟨_, _, f19 (exL_ok Q orc) _ _ G _ ?_, w3, r2, by simpa using o3⟩
      have e4 : (E orc).cl 47 [P0 b, P0 m] G = some (.tuple #[], G3) := by
        refine f47 (exL_ok Q orc) _ _ G _ ?_
        simp [s47, ho, ha, e2, o2, ← hG3, e3, o3, hcc]
      simp [s19, ho, e4, FeS.over, o3]
  | raises i g =>
    obtain ⟨hr1, ho⟩ := hr
    obtain ⟨hi0, hi1, hug⟩ := hp
    have ha : IntKind.wrap .i64 (A.gens + i) = A.gens + i := wrap64 (by omega) (by omega)
    have key : ∀ k, ∃ own2 G2, (E orc).cl 57 [P0 m, .int .i64 (A.gens + i), .int .u64 (IntKind.wrap .u64 (g + 1))] (G.room k) = some (.tuple #[], G2) ∧ PW no own G own2 G2 m (s.store (A.gens + i) (IntKind.wrap .u64 (g + 1))) := fun k => by
      have w0 := (PW.refl (B := no) h).ext ((Ext.refl G).room k)
      obtain ⟨own2, G2, e2, w2⟩ := w0.pm.store orc (A.gens + i) (IntKind.wrap .u64 (g + 1))
      exact ⟨own2, G2, e2, w0.trans w2 fun _ _ h => h⟩
    simp only [FeS.step]
    generalize hu : IntKind.wrap .u64 (g + 1) = u at *
    generalize s.store (A.gens + i) u = s' at *
    obtain ⟨own2, G2, e2, w2⟩ := key 17
    have o2 := (w2.keep hb tb id).trans ho
    have w3 := (w2.mono (B' := fun x => x = b ∨ x = c) fun _ _ h => h.elim).putB (b := b) (.inl rfl) hb tb ⟨aL A c (.func (.func 115) #[] #[]) i g 0, 1, false, 1⟩
    have r2 : PusR A.R G2 c (.go 1 0 i) := hr1.kept (w2.keep hc tc id)
    refine ⟨own2, _, f19 (exL_ok Q orc) _ _ G _ ?_, w3, r2.kept (by simp [Ne.symm hbc]), i, g, by simp⟩
    have e4 : (E orc).cl 83 [P0 b, P0 m] G = some (.tuple #[], G2.put b ⟨aL A c (.func (.func 115) #[] #[]) i g 0, 1, false, 1⟩) := by
      refine f83 (exL_ok Q orc) _ _ G _ ?_
      simp [s83, ho, ha, hu, e2, o2]
    simp [s19, ho, e4, FeS.over]
  | push p =>
    obtain ⟨hr1, i, g, ho⟩ := hr
    obtain ⟨own1, G1, e1, w1, r1⟩ := push_ok orc ht h hs hR hc tc hp hr1
    have o1 := (w1.keep hb tb hbc).trans ho
    have w1' : PW (fun x => x = b ∨ x = c) own G own1 G1 m (p.step A.R s).2 := w1.mono fun _ _ h => .inr h
    simp only [FeS.step]
    generalize hq : p.step A.R s = q at *
    obtain ⟨q, s'⟩ := q
    simp only at e1 w1' r1
    cases hov : q.over with
    | false =>
      rw [hov] at e1
      refine ⟨own1, G1, f19 (exL_ok Q orc) _ _ G _ ?_, w1', r1, i, g, by simpa using o1⟩
      have e5 : (E orc).cl 115 [P0 b, P0 m] G = some (.tuple #[], G1) := by
        refine f115 (exL_ok Q orc) _ _ G _ ?_
        simp [s115, ho, e1]
      simp [s19, ho, e5, o1, FeS.over, hov]
    | true =>
      rw [hov] at e1
      have w4 := w1'.putB (b := b) (.inl rfl) hb tb ⟨aL A c .nilFunc i g 0, 1, false, 1⟩
      refine ⟨own1, _, f19 (exL_ok Q orc) _ _ G _ ?_, w4, i, g, by simp⟩
      have e5 : (E orc).cl 115 [P0 b, P0 m] G = some (.tuple #[], G1.put b ⟨aL A c .nilFunc i g 0, 1, false, 1⟩) := by
        refine f115 (exL_ok Q orc) _ _ G _ ?_
        simp [s115, ho, e1, o1]
      simp [s19, ho, e5, FeS.over, hov]
/-! made, and what is told -/
theorem newalloc_ok (orc : FuncId → Bool) (A : Ar) (G : GS) : ∃ b c G', (E orc).cl 48 [A.v] G = some (P0 b, G') ∧ Ext G G' ∧ G.nx ≤ b ∧ b < G'.nx ∧ G.nx ≤ c ∧ c < G'.nx ∧ b ≠ c ∧ AlR A G' b c (.pop (.go 1 0 0 0)) := by
  have w : Wp (s48 true (exL Q orc) A.v G) fun q => ∃ b c, q.1 = P0 b ∧ Ext G q.2 ∧ G.nx ≤ b ∧ b < q.2.nx ∧ G.nx ≤ c ∧ c < q.2.nx ∧ b ≠ c ∧ AlR A q.2 b c (.pop (.go 1 0 0 0)) := by
    have x0 : Ext G (G.push ⟨A.cells, 1, false, 1⟩) := (Ext.refl G).push _
    simp [s48]
    generalize hG0 : GS.room _ _ = G0
    have x0 : Ext G G0 := by rw [← hG0]; exact x0.room _
    have o0 : G0.obj G.nx = some ⟨A.cells, 1, false, 1⟩ := by rw [← hG0]; simp
    have n0 : G.nx < G0.nx := by rw [← hG0]; simp; omega
    have n0' : G.nx + 1 + 5 < G0.nx := by rw [← hG0]; simp
    refine Wp.stepX (newpop_ok orc A.R _) fun c G1 ⟨x1, c1, c2, c3⟩ => ?_
    have n1 := x1.nx
    have o1 := (x1.obj _ n0).trans o0
    simp [o1, o0]
    refine ⟨Ext.drawn (x0.trans x1) (by omega) (by omega) _, by omega, by omega, c, by omega, c2, by omega, c3.kept (by simp; omega), by simp [aL]⟩
  obtain ⟨⟨v, G'⟩, e1, b, c, rfl, h⟩ := w
  exact ⟨b, c, G', f48 (exL_ok Q orc) _ G _ e1, h⟩
def newFe (A : Ar) (i : Int) : FeS := if i < 0 ∨ A.size ≤ i then .done 3 else .looks i
theorem newFe_ok {A : Ar} {i : Int} : (newFe A i).ok A := by
  unfold newFe; split
  · trivial
  · exact ⟨by omega, by omega⟩
theorem newfree_ok (orc : FuncId → Bool) (A : Ar) (i : Int) (G : GS) : ∃ b c G', (E orc).cl 17 [A.v, .int .i64 i] G = some (P0 b, G') ∧ Ext G G' ∧ G.nx ≤ b ∧ b < G'.nx ∧ G.nx ≤ c ∧ c < G'.nx ∧ b ≠ c ∧ FeR A G' b c (newFe A i) := by
  have w : Wp (s17 true (exL Q orc) A.v (.int .i64 i) G) fun q => ∃ b c, q.1 = P0 b ∧ Ext G q.2 ∧ G.nx ≤ b ∧ b < q.2.nx ∧ G.nx ≤ c ∧ c < q.2.nx ∧ b ≠ c ∧ FeR A q.2 b c (newFe A i) := by
    have x0 : Ext G (G.push ⟨A.cells, 1, false, 1⟩) := (Ext.refl G).push _
    simp [s17]
    generalize hG0 : GS.room _ 9 = G0
    have x0 : Ext G G0 := by rw [← hG0]; exact x0.room _
    have o0 : G0.obj G.nx = some ⟨A.cells, 1, false, 1⟩ := by rw [← hG0]; simp
    have n0 : G.nx < G0.nx := by rw [← hG0]; simp; omega
    have n0' : G.nx + 1 + 7 < G0.nx := by rw [← hG0]; simp
    refine Wp.stepX (newpush_ok orc A.R i _) fun c G1 ⟨x1, c1, c2, c3⟩ => ?_
    have n1 := x1.nx
    have o1 := (x1.obj _ n0).trans o0
    unfold newFe
    obtain ⟨GB, hGB⟩ : ∃ GB, GB = ((G1.at' (G.nx + 1 + 7)).push ⟨aL A c .nilFunc i 0 0, 1, false, 1⟩).back G1 := ⟨_, rfl⟩
    have xB : Ext G GB := by rw [hGB]; exact Ext.drawn (x0.trans x1) (by omega) (by omega) _
    have oB : GB.obj (G.nx + 1 + 7) = some ⟨aL A c .nilFunc i 0 0, 1, false, 1⟩ := by rw [hGB]; simp
    have oB0 : GB.obj G.nx = some ⟨A.cells, 1, false, 1⟩ := by rw [hGB]; simp [o1]; omega
    have nB : GB.nx = G1.nx := by rw [hGB]; simp
    have cB : PusR A.R GB c (newPus A.R i) := c3.kept (by rw [hGB]; simp; omega)
    by_cases hi : i < 0
    · simp [o1, o0, hi, ← hGB, oB]
      refine ⟨xB.put (by omega) _, by omega, by omega, c, by omega, by omega, by omega, i, 0, by simp⟩
    · by_cases hi2 : A.size ≤ i
      · simp [o1, o0, hi, hi2, ← hGB, oB0, oB]
        refine ⟨xB.put (by omega) _, by omega, by omega, c, by omega, by omega, by omega, i, 0, by simp⟩
      · simp [o1, o0, hi, hi2, ← hGB, oB0, oB]
        rw [newPus_in ⟨by omega, by simp only; omega⟩] at cB
        refine ⟨xB.put (by omega) _, by omega, by omega, c, by omega, by omega, by omega, cB.kept (by simp; omega), by simp⟩
  obtain ⟨⟨v, G'⟩, e1, b, c, rfl, h⟩ := w
  exact ⟨b, c, G', f17 (exL_ok Q orc) _ _ G _ e1, h⟩
def AlS.told : AlS → Int × Int
  | .done g e => (g, e)
  | _ => (0, 14)
def FeS.told : FeS → Int
  | .done e => e
  | _ => 14
theorem allocref_ok (orc : FuncId → Bool) {p : AlS} (h : AlR A G b c p) : ∃ G', (E orc).cl 49 [P0 b] G = some (.tuple #[.int .u64 p.told.1, .int .i64 p.told.2], G') ∧ Ext G G' := by
  cases p with
  | pop p => exact ⟨_, f49 (exL_ok Q orc) _ G _ (by simp [s49, h.2, AlS.told]), Ext.refl _⟩
  | gives i => have h : G.obj b = _ := h; exact ⟨_, f49 (exL_ok Q orc) _ G _ (by simp [s49, h, AlS.told]), Ext.refl _⟩
  | lacks => obtain ⟨i, h⟩ := h; exact ⟨_, f49 (exL_ok Q orc) _ G _ (by simp [s49, h, AlS.told]), Ext.refl _⟩
  | done g e => obtain ⟨i, h⟩ := h; exact ⟨_, f49 (exL_ok Q orc) _ G _ (by simp [s49, h, AlS.told]; rfl), (Ext.refl _).room _⟩
end
end Go.Proofs.Ytfmkihikmlcimaa.Lift

set_option linter.unusedVariables false
set_option linter.unusedSimpArgs false
set_option maxRecDepth 20000
namespace Go.Proofs.Ytfmkihikmlcimaa.Lift
open Go Go.Proofs.Ytfmkihikmlcimaa.Gh Go.Proofs
abbrev Sk.v (R : Sk) : Value := .agg ⟨[.int .i64 R.top, .int .i64 R.links, .int .i64 R.size]⟩
def Sk.sized (R : Sk) : Prop := 1 ≤ R.size ∧ R.size ≤ 4096
instance (R : Sk) : Decidable R.sized := by unfold Sk.sized; exact inferInstance
theorem ssized_ok (orc : FuncId → Bool) (R : Sk) (G : GS) : (E orc).cl 91 [R.v] G = some (.bool (decide R.sized), G.push ⟨[.int .i64 R.top, .int .i64 R.links, .int .i64 R.size], 1, false, 1⟩) := by
  refine f91 (exL_ok Q orc) _ G _ ?_
  unfold Sk.sized
  by_cases h1 : 1 ≤ R.size
  · by_cases h2 : R.size ≤ 4096 <;> simp [s91, h1, h2]
  · simp [s91, h1]
end Go.Proofs.Ytfmkihikmlcimaa.Lift

set_option linter.unusedVariables false
set_option linter.unusedSimpArgs false
set_option maxRecDepth 20000
namespace Go.Proofs.Ytfmkihikmlcimaa.Lift
open Go Go.Proofs.Ytfmkihikmlcimaa.Gh Go.Proofs
/-! ### How an arena is laid -/
def lnkV (R : Sk) (i : Nat) : Int := if (i : Int) + 1 = R.size then 0 else i + 2
def lnkN (R : Sk) : Nat → Nat → MS → MS
  | 0, _, s => s
  | k + 1, i, s => lnkN R k (i + 1) (s.store (R.links + i) (lnkV R i))
theorem lnkN_last (R : Sk) : ∀ (k i : Nat) (s : MS), lnkN R (k + 1) i s = (lnkN R k i s).store (R.links + (i + k : Nat)) (lnkV R (i + k))
  | 0, i, s => rfl
  | k + 1, i, s => by
    have := lnkN_last R k (i + 1) (s.store (R.links + i) (lnkV R i))
    rw [lnkN, this]
    rw [show i + 1 + k = i + (k + 1) by omega]; rfl
def fillS (R : Sk) (s : MS) : MS := lnkN R R.size.toNat 0 (s.store R.top 1)
def genN (A : Ar) : Nat → Nat → MS → MS
  | 0, _, s => s
  | k + 1, i, s => genN A k (i + 1) (s.store (A.gens + i) 1)
def fillA (A : Ar) (s : MS) : MS := genN A A.size.toNat 0 ((Lift.fillS A.R s).store A.worn 0)
theorem lnkN_ok (R : Sk) (hR : R.ok) : ∀ (k i : Nat) (s : MS), (i + k : Nat) ≤ R.size → s.ok → (lnkN R k i s).ok
  | 0, _, s, _, h => h
  | k + 1, i, s, hi, h => lnkN_ok R hR k (i + 1) _ (by omega) (h.store _ (by have := hR.2.1; unfold lnkV U; split <;> omega))
theorem genN_ok (A : Ar) : ∀ (k i : Nat) (s : MS), s.ok → (genN A k i s).ok
  | 0, _, s, h => h
  | k + 1, i, s, h => genN_ok A k (i + 1) _ (h.store _ ⟨by decide, by decide⟩)
theorem fillA_ok {A : Ar} (hA : A.ok) {s : MS} (h : s.ok) : (fillA A s).ok := by
  have h1 := hA.1.1
  simp only at h1
  exact genN_ok A _ _ _ ((lnkN_ok A.R hA.1 _ _ _ (by simp only; omega) (h.store _ ⟨by decide, by decide⟩)).store _ ⟨by decide, by decide⟩)
section
variable {m r rb : Nat} {own own0 : Nat → Nat} {G G0 : GS} {s : MS} {R : Sk} {A : Ar}
theorem sfill_lp (orc : FuncId → Bool) (ht : orc 60 = false) (hR : R.ok) (hrb : rb < G0.nx) (trb : own0 rb ≠ 10) (orb : G0.obj rb = some ⟨[.int .i64 R.top, .int .i64 R.links, .int .i64 R.size], 1, false, 1⟩) {n : Nat} (hn : R.size = n) :
    ∀ (k i : Nat) (τ : Env) (own : Nat → Nat) (G : GS) (s : MS), i + k = n → PW no own0 G0 own G m s → τ 1 = P0 m → τ 2 = P0 rb → τ 15 = .int .i64 n → τ 16 = .int .i64 i →
    Wp ((exL Q orc).lpx 56 0 τ G) fun q => q.1 = .exit 0 ∧ ∃ own', PW no own0 G0 own' q.2.2 m (lnkN R k i s) := by
  intro k
  induction k with
  | zero =>
    intro i τ own G s hi w t1 t2 t15 t16
    have hi' : i = n := by omega
    subst hi'
    refine Wp.lp (l56_0 (exL_ok Q orc)) ?_
    simp [b56_0, bb56_0, clip_t, t1, t2, t15, t16, lnkN]
    exact ⟨own, w⟩
  | succ k ih =>
    intro i τ own G s hi w t1 t2 t15 t16
    have hR1 := hR.1; have hR2 := hR.2.1; have hR5 := hR.2.2.2.2.1; have hR6 := hR.2.2.2.2.2
    have o := (w.keep hrb trb id).trans orb
    have hlt : i < n := by omega
    have hw : IntKind.wrap .i64 ((i : Int) + 1) = ((i + 1 : Nat) : Int) := wrap64 (by omega) (by omega)
    have ha : IntKind.wrap .i64 (R.links + i) = R.links + i := wrap64 (by omega) (by omega)
    refine Wp.lp (l56_0 (exL_ok Q orc)) ?_
    have w0 := w.ext ((Ext.refl G).room 8)
    have o0 : (G.room 8).obj rb = some ⟨[.int .i64 R.top, .int .i64 R.links, .int .i64 R.size], 1, false, 1⟩ := o
    by_cases hl : (i : Int) + 1 = R.size
    · have hl' : ((i + 1 : Nat) : Int) = R.size := by omega
      have hv : lnkV R i = 0 := by unfold lnkV; rw [if_pos hl]
      obtain ⟨G1, e1, x1⟩ := link_ok orc ht (i := -1) (by decide) (G.room 8)
      have w1 := w0.ext x1
      have o1 := (x1.obj rb (Nat.lt_of_lt_of_le hrb w0.nx)).trans o0
      obtain ⟨own2, G2, e2, w2⟩ := w1.pm.store orc (R.links + i) 0
      simp [-Int.natCast_add, b56_0, bb56_0, jl56_0_0, jbl56_0_0, clip_t, t1, t2, t15, t16, hlt, hw, o, hl', ha, e1, o1, e2]
      refine (ih (i + 1) _ _ G2 _ (by omega) (w1.trans w2 fun _ _ h => h) (by simp [clip_t]) (by simp [clip_t]) (by simp [clip_t]) (by simp [clip_t]; omega)).mono ?_
      rintro q ⟨q1, own', q2⟩
      exact ⟨q1, own', by simpa [lnkN, hv] using q2⟩
    · have hl' : ¬ ((i + 1 : Nat) : Int) = R.size := by omega
      have hv : lnkV R i = i + 2 := by unfold lnkV; rw [if_neg hl]
      obtain ⟨G1, e1, x1⟩ := link_ok orc ht (i := ((i + 1 : Nat) : Int)) (by omega) (G.room 8)
      have w1 := w0.ext x1
      have o1 := (x1.obj rb (Nat.lt_of_lt_of_le hrb w0.nx)).trans o0
      have hv2 : ((i + 1 : Nat) : Int) + 1 = i + 2 := by omega
      rw [hv2] at e1
      obtain ⟨own2, G2, e2, w2⟩ := w1.pm.store orc (R.links + i) (i + 2)
      simp [-Int.natCast_add, b56_0, bb56_0, jl56_0_0, jbl56_0_0, clip_t, t1, t2, t15, t16, hlt, hw, o, hl', ha, e1, o1, e2]
      refine (ih (i + 1) _ _ G2 _ (by omega) (w1.trans w2 fun _ _ h => h) (by simp [clip_t]) (by simp [clip_t]) (by simp [clip_t]) (by simp [clip_t])).mono ?_
      rintro q ⟨q1, own', q2⟩
      exact ⟨q1, own', by simpa [lnkN, hv] using q2⟩
theorem sfill_ok (orc : FuncId → Bool) (ht : orc 60 = false) (hR : R.ok) (h : PM own G m s) : ∃ own' G', (E orc).cl 56 [R.v, P0 m] G = some (.tuple #[], G') ∧ PW no own G own' G' m (Lift.fillS R s) := by
  obtain ⟨n, hn⟩ : ∃ n : Nat, R.size = n := ⟨R.size.toNat, by have := hR.1; omega⟩
  have w : Wp (s56 true (exL Q orc) R.v (P0 m) G) fun q => q.1 = .tuple #[] ∧ ∃ own', PW no own G own' q.2 m (Lift.fillS R s) := by
    obtain ⟨G1, hG1⟩ : ∃ G1, G1 = G.push ⟨[.int .i64 R.top, .int .i64 R.links, .int .i64 R.size], 1, false, 1⟩ := ⟨_, rfl⟩
    have x1 : Ext G G1 := by rw [hG1]; exact (Ext.refl G).push _
    have o1 : G1.obj G.nx = some ⟨[.int .i64 R.top, .int .i64 R.links, .int .i64 R.size], 1, false, 1⟩ := by rw [hG1]; simp
    have n1 : G1.nx = G.nx + 1 := by rw [hG1]; rfl
    have e2 := ssized_ok orc R G1
    have hz : R.sized := ⟨hR.1, hR.2.1⟩
    simp only [hz, decide_true] at e2
    obtain ⟨G2, hG2⟩ : ∃ G2, G2 = G1.push ⟨[.int .i64 R.top, .int .i64 R.links, .int .i64 R.size], 1, false, 1⟩ := ⟨_, rfl⟩
    rw [← hG2] at e2
    have x2 : Ext G1 G2 := by rw [hG2]; exact (Ext.refl _).push _
    have o2 := (x2.obj _ (by omega)).trans o1
    obtain ⟨G3, e3, x3⟩ := link_ok orc ht (i := 0) (by decide) (G2.room 5)
    have y3 := (x1.trans x2).trans (((Ext.refl G2).room 5).trans x3)
    have o3 := ((((Ext.refl G2).room 5).trans x3).obj _ (by have := x2.nx; omega)).trans o2
    have w3 := (PW.refl (B := no) h).ext y3
    obtain ⟨own4, G4, e4, w4⟩ := w3.pm.store orc R.top (0 + 1)
    have t0 : grown own G 13 G.nx = 13 := grown_new (Nat.le_refl _)
    have n3 : G.nx < G3.nx := by have := x2.nx; have := x3.nx; simp at this; omega
    have o4 := (w4.keep n3 (by rw [t0]; decide) id).trans o3
    have w34 := w3.trans w4 fun _ _ h => h
    simp only [Int.zero_add] at e3 e4 w4 w34
    simp [s56, ← hG1, o1, e2, o2, e3, o3, e4, o4]
    refine Wp.bE ((sfill_lp orc ht hR (rb := G.nx) (G0 := G3) (own0 := grown own G 13) n3 (by rw [t0]; decide) o3 hn n 0 _ own4 G4 (s.store R.top 1) (by omega) w4 (by simp) (by simp) (by simp [hn]) (by simp)).mono ?_)
    rintro ⟨e, τ, G5⟩ ⟨rfl, own5, q⟩
    simp only at q
    simp
    refine ⟨own5, w3.trans ?_ fun _ _ h => h⟩
    simpa [Lift.fillS, hn] using q
  obtain ⟨⟨v, G'⟩, e1, rfl, own', hh⟩ := w
  exact ⟨own', G', f56 (exL_ok Q orc) _ _ G _ e1, hh⟩
theorem afill_lp (orc : FuncId → Bool) (hA : A.ok) (hrb : rb < G0.nx) (trb : own0 rb ≠ 10) (orb : G0.obj rb = some ⟨A.cells, 1, false, 1⟩) {n : Nat} (hn : A.size = n) :
    ∀ (k i : Nat) (τ : Env) (own : Nat → Nat) (G : GS) (s : MS), i + k = n → PW no own0 G0 own G m s → τ 1 = P0 m → τ 2 = P0 rb → τ 18 = .int .i64 n → τ 19 = .int .i64 i →
    Wp ((exL Q orc).lpx 23 0 τ G) fun q => q.1 = .exit 0 ∧ ∃ own', PW no own0 G0 own' q.2.2 m (genN A k i s) := by
  intro k
  induction k with
  | zero =>
    intro i τ own G s hi w t1 t2 t15 t16
    have hi' : i = n := by omega
    subst hi'
    refine Wp.lp (l23_0 (exL_ok Q orc)) ?_
    simp [b23_0, clip_t, t1, t2, t15, t16, genN]
    exact ⟨own, w⟩
  | succ k ih =>
    intro i τ own G s hi w t1 t2 t15 t16
    have h1 := hA.2.1; have h2 := hA.2.2.1; have h3 := hA.1.2.1
    simp only at h3
    have o := (w.keep hrb trb id).trans orb
    have hlt : i < n := by omega
    have hw : IntKind.wrap .i64 ((i : Int) + 1) = ((i + 1 : Nat) : Int) := wrap64 (by omega) (by omega)
    have ha : IntKind.wrap .i64 (A.gens + i) = A.gens + i := wrap64 (by omega) (by omega)
    refine Wp.lp (l23_0 (exL_ok Q orc)) ?_
    obtain ⟨own2, G2, e2, w2⟩ := w.pm.store orc (A.gens + i) 1
    simp [-Int.natCast_add, b23_0, clip_t, t1, t2, t15, t16, hlt, hw, o, ha, e2]
    refine (ih (i + 1) _ _ G2 _ (by omega) (w.trans w2 fun _ _ h => h) (by simp [clip_t]) (by simp [clip_t]) (by simp [clip_t]) (by simp [clip_t])).mono ?_
    rintro q ⟨q1, own', q2⟩
    exact ⟨q1, own', by simpa [genN] using q2⟩
theorem afill_ok (orc : FuncId → Bool) (ht : orc 60 = false) (hA : A.ok) (h : PM own G m s) : ∃ own' G', (E orc).cl 23 [A.v, P0 m] G = some (.tuple #[], G') ∧ PW no own G own' G' m (fillA A s) := by
  obtain ⟨n, hn⟩ : ∃ n : Nat, A.size = n := ⟨A.size.toNat, by have := hA.1.1; simp only at this; omega⟩
  have w : Wp (s23 true (exL Q orc) A.v (P0 m) G) fun q => q.1 = .tuple #[] ∧ ∃ own', PW no own G own' q.2 m (fillA A s) := by
    obtain ⟨G1, hG1⟩ : ∃ G1, G1 = G.push ⟨A.cells, 1, false, 1⟩ := ⟨_, rfl⟩
    have x1 : Ext G G1 := by rw [hG1]; exact (Ext.refl G).push _
    have o1 : G1.obj G.nx = some ⟨A.cells, 1, false, 1⟩ := by rw [hG1]; simp
    have n1 : G1.nx = G.nx + 1 := by rw [hG1]; rfl
    have e2 : ∃ G2, (E orc).cl 55 [A.v] G1 = some (.bool true, G2) ∧ Ext G1 G2 := by
      have z1 := hA.1.1; have z2 := hA.1.2.1
      simp only at z1 z2
      exact ⟨G1.push ⟨A.cells, 1, false, 1⟩, f55 (exL_ok Q orc) _ G1 _ (by simp [s55, z1, z2]), (Ext.refl _).push _⟩
    obtain ⟨G2, e2, x2⟩ := e2
    have o2 := (x2.obj _ (by omega)).trans o1
    have n2 := x2.nx
    have w2 := (PW.refl (B := no) h).ext (x1.trans x2)
    obtain ⟨own3, G3, e3, w3⟩ := sfill_ok orc ht (R := A.R) hA.1 w2.pm
    have t0 : grown own G 13 G.nx = 13 := grown_new (Nat.le_refl _)
    have o3 := (w3.keep (show G.nx < G2.nx by omega) (by rw [t0]; decide) id).trans o2
    have t3 : own3 G.nx = 13 := (w3.stp.same (by omega)).trans t0
    obtain ⟨own4, G4, e4, w4⟩ := w3.pm.store orc A.worn 0
    have n3 := w3.nx
    have o4 := (w4.keep (show G.nx < G3.nx by omega) (by rw [t3]; decide) id).trans o3
    simp [s23, ← hG1, o1, e2, o2, e3, o3, e4, o4]
    refine Wp.bE ((afill_lp orc hA (rb := G.nx) (G0 := G3) (own0 := own3) (by omega) (by rw [t3]; decide) o3 hn n 0 _ own4 G4 _ (by omega) w4 (by simp) (by simp) (by simp [hn]) (by simp)).mono ?_)
    rintro ⟨e, τ, G5⟩ ⟨rfl, own5, q⟩
    simp only at q
    simp
    refine ⟨own5, (w2.trans w3 fun _ _ h => h).trans ?_ fun _ _ h => h⟩
    simpa [fillA, hn] using q
  obtain ⟨⟨v, G'⟩, e1, rfl, own', hh⟩ := w
  exact ⟨own', G', f23 (exL_ok Q orc) _ _ G _ e1, hh⟩
end
end Go.Proofs.Ytfmkihikmlcimaa.Lift

set_option linter.unusedVariables false
set_option linter.unusedSimpArgs false
set_option maxRecDepth 20000
namespace Go.Proofs.Ytfmkihikmlcimaa.Lift
open Go Go.Proofs.Ytfmkihikmlcimaa.Gh Go.Proofs
/-! ### Any word read as a ref -/
theorem take_mid (orc : FuncId → Bool) {w : Int} (h : U w) (G : GS) : ∃ G', (E orc).cl 61 [.int .u64 w, .agg ⟨[.int .i64 16, .int .i64 32]⟩] G = some (.int .i64 (w / 65536 % 4294967296), G') ∧ Ext G G' := by
  refine ⟨(G.push ⟨[.int .i64 16, .int .i64 32], 1, false, 1⟩).room 11, f61 (exL_ok Q orc) _ _ G _ ?_, ((Ext.refl G).push _).room 11⟩
  have e1 : shlI .u64 1 32 = 4294967296 := by decide
  have e2 : IntKind.wrap .u64 4294967295 = 4294967295 := by decide
  have e3 : IntKind.wrap .i64 (w / 65536 % 4294967296) = w / 65536 % 4294967296 := wrap64 (by omega) (by omega)
  simp [s61, shr_16 h, e1, e2, and_32 (U_div h 65536 (by decide)), e3]
theorem shr_63 {w : Int} (h : U w) : shrI .u64 w 63 = w / 9223372036854775808 := by
  show w.fdiv (2 ^ (min (63 : Int).toNat 64)) = _
  rw [show (min (63 : Int).toNat 64) = 63 from rfl, Int.fdiv_eq_ediv_of_nonneg _ (by decide)]; rfl
theorem marked_ok (orc : FuncId → Bool) {w : Int} (h : U w) (G : GS) : (E orc).cl 96 [.int .u64 w] G = some (.bool (decide (9223372036854775808 ≤ w)), G) := by
  refine f96 (exL_ok Q orc) _ G _ ?_
  have h1 := h.1; have h2 := h.2
  have e : (w / 9223372036854775808 = 1) = (9223372036854775808 ≤ w) := by rw [eq_iff_iff]; omega
  simp [s96, shr_63 h, e]
theorem marks_t (orc : FuncId → Bool) {w : Int} (h0 : 0 ≤ w) (h1 : w < 9223372036854775808) (G : GS) : (E orc).cl 125 [.int .u64 w, .bool true] G = some (.int .u64 (w + 9223372036854775808), G) := by
  refine f125 (exL_ok Q orc) _ _ G _ ?_
  have hu1 : U w := ⟨h0, by omega⟩
  have hu2 : U 9223372036854775808 := ⟨by decide, by decide⟩
  have k := or_add 63 1 hu2 hu1 (by decide) (by omega)
  have e : orI .u64 w 9223372036854775808 = w + 9223372036854775808 := by
    rw [or_u64 hu1 hu2, Nat.or_comm, ← or_u64 hu2 hu1, k]; omega
  simp [s125, e]
def mkI (m : Bool) : Int := if m then 9223372036854775808 else 0
theorem marks_ok (orc : FuncId → Bool) {w : Int} (m : Bool) (h0 : 0 ≤ w) (h1 : w < 9223372036854775808) (G : GS) : (E orc).cl 125 [.int .u64 w, .bool m] G = some (.int .u64 (w + mkI m), G) := by
  cases m
  · simpa [mkI] using marks_f orc h0 h1 G
  · simpa [mkI] using marks_t orc h0 h1 G
theorem putrefm_ok (orc : FuncId → Bool) (ht : orc 95 = false) {i g : Int} (m : Bool) (h0 : -1 ≤ i ∧ i ≤ 65534) (h1 : 0 ≤ g ∧ g < 4294967296) (G : GS) : ∃ G', (E orc).cl 97 [.agg ⟨[.int .i64 i, .int .i64 g, .bool m]⟩] G = some (if i = -1 ∧ g ≠ 0 then .tuple #[.int .u64 0, .int .i64 5] else .tuple #[.int .u64 (wordT i g + mkI m), .int .i64 0], G') ∧ Ext G G' := by
  have x1 : Ext G ((G.push ⟨[.int .i64 i, .int .i64 g, .bool m], 1, false, 1⟩).push ⟨[.int .i64 i, .int .i64 (-1), .int .i64 65534, .int .i64 g, .int .i64 0, .int .i64 4294967295], 3, false, 1⟩) := ((Ext.refl G).push _).push _
  have o1 : ((G.push ⟨[.int .i64 i, .int .i64 g, .bool m], 1, false, 1⟩).push ⟨[.int .i64 i, .int .i64 (-1), .int .i64 65534, .int .i64 g, .int .i64 0, .int .i64 4294967295], 3, false, 1⟩).obj G.nx = some ⟨[.int .i64 i, .int .i64 g, .bool m], 1, false, 1⟩ := by simp
  have p1 : ((G.push ⟨[.int .i64 i, .int .i64 g, .bool m], 1, false, 1⟩).push ⟨[.int .i64 i, .int .i64 (-1), .int .i64 65534, .int .i64 g, .int .i64 0, .int .i64 4294967295], 3, false, 1⟩).obj (G.nx + 1) = some ⟨[.int .i64 i, .int .i64 (-1), .int .i64 65534, .int .i64 g, .int .i64 0, .int .i64 4294967295], 3, false, 1⟩ := by simp
  have n1 : ((G.push ⟨[.int .i64 i, .int .i64 g, .bool m], 1, false, 1⟩).push ⟨[.int .i64 i, .int .i64 (-1), .int .i64 65534, .int .i64 g, .int .i64 0, .int .i64 4294967295], 3, false, 1⟩).nx = G.nx + 2 := rfl
  have hw : wordT i g = i + 1 + g * 65536 := rfl
  have w : Wp (s97 true (exL Q orc) (.agg ⟨[.int .i64 i, .int .i64 g, .bool m]⟩) G) fun r => r.1 = (if i = -1 ∧ g ≠ 0 then .tuple #[.int .u64 0, .int .i64 5] else .tuple #[.int .u64 (wordT i g + mkI m), .int .i64 0]) ∧ Ext G r.2 := by
    simp only [s97]
    simp
    generalize hG1 : (GS.push (GS.push G _) _) = G1 at *
    obtain ⟨G2, e2, x2⟩ := within2_ok orc p1 (by omega) ⟨by omega, h0.2⟩ ⟨h1.1, by omega⟩
    have n2 := x2.nx
    have o2 := (x2.obj G.nx (by omega)).trans o1
    by_cases hb : i = -1 ∧ g ≠ 0
    · have hb1 := hb.1
      have hb2 := hb.2
      subst hb1
      simp [e2, o2, hb2]
      exact x1.trans x2
    · obtain ⟨G3, e3, x3⟩ := refs_ok orc ht G2
      have n3 := x3.nx
      have o3 := (x3.obj G.nx (by omega)).trans o2
      have hne : ¬ G.nx = G3.nx := by omega
      have hi : IntKind.wrap .i64 (i + 1) = i + 1 := wrap64 (by omega) (by omega)
      obtain ⟨G5, hG5⟩ : ∃ G5, G5 = ((((((G3.push ⟨z134, 1, false, 1⟩).put G3.nx ⟨[.int .i64 0, .int .i64 16, .int .i64 16, .int .i64 32], 1, false, 1⟩).room 13).at' (G3.nx + 1 + 6)).push ⟨[.int .i64 (i + 1), .int .i64 g], 1, false, 1⟩).back (((G3.push ⟨z134, 1, false, 1⟩).put G3.nx ⟨[.int .i64 0, .int .i64 16, .int .i64 16, .int .i64 32], 1, false, 1⟩).room 13)) := ⟨_, rfl⟩
      have x5 : Ext G3 G5 := by rw [hG5]; exact Ext.drawn ((((Ext.refl G3).push _).put (Nat.le_refl _) _).room 13) (by omega) (by simp; omega) _
      have p5 : G5.obj G3.nx = some ⟨[.int .i64 0, .int .i64 16, .int .i64 16, .int .i64 32], 1, false, 1⟩ := by rw [hG5]; simp; omega
      have c5 : G5.obj (G3.nx + 1 + 6) = some ⟨[.int .i64 (i + 1), .int .i64 g], 1, false, 1⟩ := by rw [hG5]; simp
      have n5 : G5.nx = G3.nx + 1 + 13 := by rw [hG5]; simp
      have o5 := (x5.obj G.nx (by omega)).trans o3
      obtain ⟨G6, e6, x6⟩ := lay2_ok orc p5 c5 (by omega) (by omega)
      rw [lay_val (by omega) (by omega)] at e6
      have o6 := (x6.obj G.nx (by omega)).trans o5
      have e7 := marks_ok orc (w := wordT i g) m (by omega) (by omega) G6
      have hne6 : ¬ G.nx = G3.nx + 1 + 6 := by omega
      by_cases hi1 : i = -1
      · have hg : g = 0 := Classical.byContradiction fun h => hb ⟨hi1, h⟩
        have q1 : (i = -1) = True := eq_true hi1
        have q2 : (g = 0) = True := eq_true hg
        simp [e2, o2, q1, q2, e3, hne, o3, splice_put, splice_end, slA, bound, hi, ← hG5, e6, o5, o6, e7, hne6]
        exact (((x1.trans x2).trans x3).trans x5).trans x6
      · simp [e2, o2, hi1, e3, hne, o3, splice_put, splice_end, slA, bound, hi, ← hG5, e6, o5, o6, e7, hne6]
        exact (((x1.trans x2).trans x3).trans x5).trans x6
  obtain ⟨⟨v, G'⟩, e1, rfl, e3⟩ := w
  exact ⟨G', f97 (exL_ok Q orc) _ G _ e1, e3⟩
/-- a ref that a word is -/
def refOk (w : Int) : Prop := ¬ (w % 65536 = 0 ∧ w / 65536 % 4294967296 ≠ 0) ∧ w = w % 65536 + (w / 65536 % 4294967296) * 65536 + mkI (decide (9223372036854775808 ≤ w))
instance (w : Int) : Decidable (refOk w) := by unfold refOk; exact inferInstance
def refV (w : Int) : List Value := if refOk w then [.int .i64 (w % 65536 - 1), .int .i64 (w / 65536 % 4294967296), .bool (decide (9223372036854775808 ≤ w))] else [.int .i64 0, .int .i64 0, .bool false]
theorem getref_ok (orc : FuncId → Bool) (ht : orc 95 = false) {w : Int} (h : U w) (G : GS) : ∃ G', (E orc).cl 58 [.int .u64 w] G = some (.tuple #[.agg ⟨refV w⟩, .int .i64 (if refOk w then 0 else 5)], G') ∧ Ext G G' := by
  obtain ⟨G1, hG1⟩ : ∃ G1, G1 = G.push ⟨[.int .i64 0, .int .i64 0, .bool false], 1, false, 1⟩ := ⟨_, rfl⟩
  have x1 : Ext G G1 := by rw [hG1]; exact (Ext.refl G).push _
  have n1 : G1.nx = G.nx + 1 := by rw [hG1]; rfl
  have o1 : G1.obj G.nx = some ⟨[.int .i64 0, .int .i64 0, .bool false], 1, false, 1⟩ := by rw [hG1]; simp
  obtain ⟨G2, e2, x2⟩ := refs_ok orc ht G1
  have n2 := x2.nx
  obtain ⟨G3, hG3⟩ : ∃ G3, G3 = ((G2.push ⟨z134, 1, false, 1⟩).put G2.nx ⟨[.int .i64 0, .int .i64 16, .int .i64 16, .int .i64 32], 1, false, 1⟩).room 14 := ⟨_, rfl⟩
  have x3 : Ext G2 G3 := by rw [hG3]; exact (((Ext.refl G2).push _).put (Nat.le_refl _) _).room 14
  have p3 : G3.obj G2.nx = some ⟨[.int .i64 0, .int .i64 16, .int .i64 16, .int .i64 32], 1, false, 1⟩ := by rw [hG3]; simp
  have n3 : G3.nx = G2.nx + 1 + 14 := by rw [hG3]; rfl
  obtain ⟨G4, e4, x4⟩ := take_lo orc h G3
  have p4 := (x4.obj _ (by omega)).trans p3
  have n4 := x4.nx
  obtain ⟨G5, e5, x5⟩ := take_mid orc h G4
  have n5 := x5.nx
  have e6 := marked_ok orc h G5
  have hm : IntKind.wrap .i64 (w % 65536 - 1) = w % 65536 - 1 := wrap64 (by omega) (by omega)
  generalize hmk : decide (9223372036854775808 ≤ w) = mk at *
  obtain ⟨G6, hG6⟩ : ∃ G6, G6 = ((((G5.at' (G2.nx + 1 + 12)).push ⟨[.int .i64 0, .int .i64 0, .bool false], 1, false, 1⟩).back G5).put (G2.nx + 1 + 12) ⟨[.int .i64 (w % 65536 - 1), .int .i64 (w / 65536 % 4294967296), .bool mk], 1, false, 1⟩) := ⟨_, rfl⟩
  have x6 : Ext G2 G6 := by rw [hG6]; exact (Ext.drawn ((x3.trans x4).trans x5) (by omega) (by omega) _).put (by omega) _
  have n6 : G6.nx = G5.nx := by rw [hG6]; simp
  have o6 : G6.obj (G2.nx + 1 + 12) = some ⟨[.int .i64 (w % 65536 - 1), .int .i64 (w / 65536 % 4294967296), .bool mk], 1, false, 1⟩ := by rw [hG6]; simp
  have r6 := (x6.obj G.nx (by omega)).trans ((x2.obj G.nx (by omega)).trans o1)
  obtain ⟨G7, e7, x7⟩ := putrefm_ok orc ht mk (i := w % 65536 - 1) (g := w / 65536 % 4294967296) (by omega) (by omega) G6
  have o7 := (x7.obj _ (by omega)).trans o6
  have r7 := (x7.obj G.nx (by omega)).trans r6
  have y7 := (x1.trans (x2.trans x6)).trans x7
  have hne : ¬ G.nx = G2.nx + 1 + 12 := by omega
  have hwt : wordT (w % 65536 - 1) (w / 65536 % 4294967296) = w % 65536 + w / 65536 % 4294967296 * 65536 := by unfold wordT; omega
  have wp : Wp (s58 true (exL Q orc) (.int .u64 w) G) fun q => q.1 = .tuple #[.agg ⟨refV w⟩, .int .i64 (if refOk w then 0 else 5)] ∧ Ext G q.2 := by
    by_cases hok : refOk w
    · have hok' := hok
      unfold refOk at hok'
      rw [hmk] at hok'
      have hc : ¬ (w % 65536 - 1 = -1 ∧ w / 65536 % 4294967296 ≠ 0) := fun h => hok'.1 ⟨by omega, h.2⟩
      rw [if_neg hc, hwt, ← hok'.2] at e7
      simp [s58, ← hG1, e2, splice_put, splice_end, splice_succ, ← hG3, p3, e4, p4, e5, e6, hm, ← hG6, o6, e7, o7, r7, hne, hok, refV, hmk]
      exact y7.put (by omega) _
    · have hok' := hok
      unfold refOk at hok'
      rw [hmk] at hok'
      by_cases hc : w % 65536 - 1 = -1 ∧ w / 65536 % 4294967296 ≠ 0
      · rw [if_pos hc] at e7
        simp [s58, ← hG1, e2, splice_put, splice_end, splice_succ, ← hG3, p3, e4, p4, e5, e6, hm, ← hG6, o6, e7, o7, r7, hne, hok, refV, hmk]
        exact y7.put (by omega) _
      · rw [if_neg hc, hwt] at e7
        have hv : ¬ w % 65536 + w / 65536 % 4294967296 * 65536 + mkI mk = w := fun h => hok' ⟨fun k => hc ⟨by omega, k.2⟩, h.symm⟩
        simp [s58, ← hG1, e2, splice_put, splice_end, splice_succ, ← hG3, p3, e4, p4, e5, e6, hm, ← hG6, o6, e7, o7, r7, hne, hok, refV, hmk, hv]
        exact y7.put (by omega) _
  obtain ⟨⟨v, G'⟩, e1, rfl, e3⟩ := wp
  exact ⟨G', f58 (exL_ok Q orc) _ G _ e1, e3⟩
theorem refV_iff {w i : Int} (h : U w) (hi : 0 ≤ i ∧ i < 65535) : (refOk w ∧ ¬ 9223372036854775808 ≤ w ∧ w % 65536 - 1 = i ∧ w / 65536 % 4294967296 = 0) ↔ w = i + 1 := by
  have h1 := h.1; have h2 := h.2
  constructor
  · rintro ⟨⟨-, h3⟩, h4, h5, h6⟩
    rw [decide_eq_false h4] at h3
    simp only [mkI] at h3
    simp at h3
    omega
  · intro e
    have h4 : ¬ 9223372036854775808 ≤ w := by omega
    refine ⟨⟨by omega, ?_⟩, h4, by omega, by omega⟩
    rw [decide_eq_false h4]
    simp only [mkI]
    simp; omega
end Go.Proofs.Ytfmkihikmlcimaa.Lift

