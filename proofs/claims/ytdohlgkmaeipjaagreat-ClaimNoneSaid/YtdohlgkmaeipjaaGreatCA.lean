/- contracts of the program's functions -/
import Derived.Test.YtdohlgkmaeipjaaGreatRCb
import Derived.Test.YtdohlgkmaeipjaaGreatGhPT
set_option linter.unusedVariables false
set_option linter.unusedSimpArgs false
set_option maxRecDepth 20000
namespace Go.Proofs.YtdohlgkmaeipjaaGreat.Lift
open Go Go.Proofs.YtdohlgkmaeipjaaGreat.Gh Go.Proofs
abbrev P0 (b : Nat) : Value := .pointer (some ⟨b, 0, none⟩)
/-! ### Memories -/
/-- words, the last access, how many there were -/
structure MS where
  W : List Int
  kind : Int
  at_ : Int
  old : Int
  new : Int
  held : Bool
  many : Int
/-- an access: what is there then, and whether it is written -/
def MS.acc (s : MS) (kind at_ : Int) (upd : Int → Int × Bool) : MS :=
  if 0 ≤ at_ ∧ at_ < s.W.length then
    ⟨s.W.set at_.toNat (upd ((s.W[at_.toNat]?).getD 0)).1, kind, at_, (s.W[at_.toNat]?).getD 0, (upd ((s.W[at_.toNat]?).getD 0)).1, (upd ((s.W[at_.toNat]?).getD 0)).2, IntKind.wrap .i64 (s.many + 1)⟩
  else ⟨s.W, kind, at_, 0, 0, false, IntKind.wrap .i64 (s.many + 1)⟩
def uLoad (w : Int) : Int × Bool := (w, false)
def uStore (v w : Int) : Int × Bool := (v, true)
def uCas (a b w : Int) : Int × Bool := if w = a then (b, true) else (w, false)
def uAdd (n w : Int) : Int × Bool := (IntKind.wrap .u64 (w + n), true)
def MS.load (s : MS) (a : Int) : MS := s.acc 1 a uLoad
def MS.store (s : MS) (a v : Int) : MS := s.acc 2 a (uStore v)
def MS.cas (s : MS) (a x y : Int) : MS := s.acc 3 a (uCas x y)
def MS.add (s : MS) (a n : Int) : MS := s.acc 4 a (uAdd n)
theorem MS.acc_len (s : MS) (k a : Int) (u : Int → Int × Bool) : (s.acc k a u).W.length = s.W.length := by unfold MS.acc; split <;> simp
def MS.zero (n : Nat) : MS := ⟨List.replicate n 0, 0, 0, 0, 0, false, 0⟩
/-- the program's memory -/
structure PMr (A : Nat → Prop) (G : GS) (m bb : Nat) (rest : List Int) (s : MS) : Prop where
  un : Under A G
  am : A m
  ab : A bb
  hm : G.obj m = some ⟨[P0 bb, .int .i64 s.W.length, .int .i64 s.kind, .int .i64 s.at_, .int .u64 s.old, .int .u64 s.new, .bool s.held, .int .i64 s.many], 1, false, 1⟩
  hb : G.obj bb = some ⟨(s.W ++ rest).map (Value.int .u64), 1, false, 1⟩
  hl : s.W.length + rest.length = 4096
def PMx (A : Nat → Prop) (G : GS) (m : Nat) (s : MS) : Prop := ∃ bb rest, PMr A G m bb rest s
section
variable {A B : Nat → Prop} {G G' : GS} {m bb : Nat} {rest : List Int} {s : MS}
theorem PMr.kept (h : PMr A G m bb rest s) (hn : G.nx ≤ G'.nx) (hk : ∀ g, A g → G'.obj g = G.obj g) : PMr A G' m bb rest s :=
  ⟨h.un.le hn, h.am, h.ab, (hk _ h.am).trans h.hm, (hk _ h.ab).trans h.hb, h.hl⟩
theorem PMr.ext (h : PMr A G m bb rest s) (x : Ext G G') : PMr A G' m bb rest s := h.kept x.nx fun g hg => x.obj g (h.un g hg)
theorem PMr.mono (h : PMr A G m bb rest s) (hs : ∀ x, A x → B x) (hu : Under B G) : PMr B G m bb rest s := ⟨hu, hs _ h.am, hs _ h.ab, h.hm, h.hb, h.hl⟩
theorem PMx.un (h : PMx A G m s) : Under A G := let ⟨_, _, h⟩ := h; h.un
theorem PMx.kept (h : PMx A G m s) (hn : G.nx ≤ G'.nx) (hk : ∀ g, A g → G'.obj g = G.obj g) : PMx A G' m s := let ⟨_, _, h⟩ := h; ⟨_, _, h.kept hn hk⟩
theorem PMx.ext (h : PMx A G m s) (x : Ext G G') : PMx A G' m s := h.kept x.nx fun g hg => x.obj g (h.un g hg)
theorem PMx.mono (h : PMx A G m s) (hs : ∀ x, A x → B x) (hu : Under B G) : PMx B G m s := let ⟨_, _, h⟩ := h; ⟨_, _, h.mono hs hu⟩
theorem ModP.pre {G1 : GS} (x : Ext G G1) (h : ModP A G1 G') : ModP A G G' :=
  ⟨Nat.le_trans x.nx h.nx, fun g hg ha => (h.obj g (Nat.lt_of_lt_of_le hg x.nx) ha).trans (x.obj g hg), Nat.le_trans x.nl h.nl, fun l hl => (h.loop l (Nat.lt_of_lt_of_le hl x.nl)).trans (x.loop l hl)⟩
theorem grow_pre {G1 : GS} (x : Ext G G1) : ∀ g, Grow A G1 G' g → Grow A G G' g := fun g hg => hg.elim .inl fun h => .inr ⟨Nat.le_trans x.nx h.1, h.2⟩
/-- what is done behind a beginning -/
theorem PMx.pre {G1 : GS} (hu : Under A G) (x : Ext G G1) (q2 : ModP A G1 G') (q3 : PMx (Grow A G1 G') G' m s) : ModP A G G' ∧ PMx (Grow A G G') G' m s :=
  have q := ModP.pre x q2
  ⟨q, q3.mono (grow_pre x) (hu.grow q.nx)⟩
theorem PMr.ne (h : PMr A G m bb rest s) : m ≠ bb := fun e => by
  have h1 := h.hm
  rw [e, h.hb] at h1
  simp only [Option.some.injEq, GObj.mk.injEq, and_true] at h1
  cases hq : s.W ++ rest with
  | nil => rw [hq] at h1; simp at h1
  | cons a b => rw [hq] at h1; simp at h1
/-- the cell of a number -/
def cellV (bb : Nat) (s : MS) (a : Int) : Value := if 0 ≤ a ∧ a < s.W.length then .pointer (some ⟨bb, a.toNat, none⟩) else .pointer none
theorem cell_ok (orc : FuncId → Bool) (h : PMr A G m bb rest s) (a : Int) : (E orc).cl 158 [P0 m, .int .i64 a] G = some (cellV bb s a, G) := by
  refine f158 (exL_ok Q orc) _ _ G _ ?_
  have hl := h.hl
  unfold cellV
  by_cases h1 : a < 0
  · have h1' : ¬ (0 ≤ a ∧ a < (s.W.length : Int)) := by omega
    simp [s158, cell_eq, h.hm, h1, h1']
  · by_cases h2 : (s.W.length : Int) ≤ a
    · have h1' : ¬ (0 ≤ a ∧ a < (s.W.length : Int)) := by omega
      simp [s158, cell_eq, h.hm, h1, h2, h1']
    · have h1' : (0 ≤ a ∧ a < (s.W.length : Int)) := by omega
      have h3 : a < 4096 := by omega
      simp [s158, cell_eq, h.hm, h1, h2, h1', h3]
theorem is_ok (orc : FuncId → Bool) (o : Option Addr) (G : GS) : (E orc).cl 248 [.pointer o] G = some (.bool o.isSome, G) := by
  refine f248 (exL_ok Q orc) _ G _ ?_
  cases o <;> simp [s248]
theorem word_at (h : PMr A G m bb rest s) {a : Nat} (ha : a < s.W.length) : G.cell bb a = some (.int .u64 ((s.W[a]?).getD 0)) := by
  have : ((s.W ++ rest).map (Value.int .u64))[a]? = some (.int .u64 ((s.W[a]?).getD 0)) := by rw [List.getElem?_map, List.getElem?_append_left ha, List.getElem?_eq_getElem ha]; rfl
  simp only [cell_eq, h.hb, this]; rfl
abbrev accV (s : MS) : List Value := [.int .i64 s.kind, .int .i64 s.at_, .int .u64 s.old, .int .u64 s.new, .bool s.held]
/-- what an access comes to, given what its deed tells -/
theorem do_ok (orc : FuncId → Bool) (h : PMr A G m bb rest s) (kind a : Int) (f : FuncId) (dv : List Value) (upd : Int → Int × Bool)
    (hf : ∀ G1 w, bb < G1.nx → 0 ≤ a → a < s.W.length → G1.cell bb a.toNat = some (.int .u64 w) → ∃ G2, (E orc).cl f dv G1 = some (.tuple #[.int .u64 (upd w).1, .bool (upd w).2], G2) ∧ Ext G1 G2) :
    Wp ((E orc).cl 159 [P0 m, .int .i64 kind, .int .i64 a, cellV bb s a, .func (.func f) ⟨dv⟩ #[]] G) fun r => r.1 = .agg ⟨accV (s.acc kind a upd)⟩ ∧ ModP A G r.2 ∧ PMx (Grow A G r.2) r.2 m (s.acc kind a upd) := by
  refine Wp.ref (f159 (exL_ok Q orc) _ _ _ _ _ G) ?_
  have hm := h.hm
  have hmn := h.un _ h.am
  have hbn := h.un _ h.ab
  have hne := h.ne
  have hne' := hne.symm
  have m1 : m ≠ G.nx := by omega
  have m2 : G.nx ≠ m := by omega
  have b1 : bb ≠ G.nx := by omega
  have b2 : G.nx ≠ bb := by omega
  have hw : IntKind.wrap .i64 (s.many + 1) = IntKind.wrap .i64 (s.many + 1) := rfl
  by_cases hin : 0 ≤ a ∧ a < s.W.length
  · have hcv : cellV bb s a = .pointer (some ⟨bb, a.toNat, none⟩) := by unfold cellV; rw [if_pos hin]
    have his := is_ok orc (some ⟨bb, a.toNat, none⟩)
    obtain ⟨n, hn⟩ : ∃ n : Nat, a.toNat = n := ⟨_, rfl⟩
    have hnl : n < s.W.length := by omega
    have hww := word_at h hnl
    generalize hx : (s.W[n]?).getD 0 = w at hww
    have hacc : s.acc kind a upd = ⟨s.W.set n (upd w).1, kind, a, w, (upd w).1, (upd w).2, IntKind.wrap .i64 (s.many + 1)⟩ := by unfold MS.acc; rw [if_pos hin, hn, hx]
    rw [hcv, hacc]
    rw [hn] at his hf
    obtain ⟨GA, hGA⟩ : ∃ GA, GA = ((G.push ⟨[.int .i64 0, .int .i64 0, .int .u64 0, .int .u64 0, .bool false], 1, false, 1⟩).put m ⟨[P0 bb, .int .i64 s.W.length, .int .i64 s.kind, .int .i64 s.at_, .int .u64 s.old, .int .u64 s.new, .bool s.held, .int .i64 (IntKind.wrap .i64 (s.many + 1))], 1, false, 1⟩).put m ⟨[P0 bb, .int .i64 s.W.length, .int .i64 kind, .int .i64 a, .int .u64 0, .int .u64 0, .bool false, .int .i64 (IntKind.wrap .i64 (s.many + 1))], 1, false, 1⟩ := ⟨_, rfl⟩
    have oA : ∀ g, g ≠ m → g ≠ G.nx → GA.obj g = G.obj g := fun g h1 h2 => by rw [hGA]; simp [h1, h2]
    have oAm : GA.obj m = some ⟨[P0 bb, .int .i64 s.W.length, .int .i64 kind, .int .i64 a, .int .u64 0, .int .u64 0, .bool false, .int .i64 (IntKind.wrap .i64 (s.many + 1))], 1, false, 1⟩ := by rw [hGA]; simp
    have oAn : GA.obj G.nx = some ⟨[.int .i64 0, .int .i64 0, .int .u64 0, .int .u64 0, .bool false], 1, false, 1⟩ := by rw [hGA]; simp [m2]
    have nA : GA.nx = G.nx + 1 := by rw [hGA]; rfl
    have mA : ModP A G GA := by rw [hGA]; exact (((ModP.refl A G).push _).put (.inl h.am) _).put (.inl h.am) _
    have cA : GA.cell bb n = some (.int .u64 w) := by rw [← hww]; unfold GS.cell; rw [oA bb hne' b1]
    obtain ⟨GB, eB, xB⟩ := hf GA w (by omega) hin.1 hin.2 cA
    have cB : GB.obj bb = some ⟨(s.W ++ rest).map (Value.int .u64), 1, false, 1⟩ := by rw [xB.obj bb (by omega), oA bb hne' b1]; exact h.hb
    have oBm := (xB.obj m (by omega)).trans oAm
    have oBn := (xB.obj G.nx (by omega)).trans oAn
    have hwB : ((s.W ++ rest).map (Value.int .u64))[n]? = some (.int .u64 w) := by
      rw [List.getElem?_map, List.getElem?_append_left hnl, List.getElem?_eq_getElem hnl, ← hx, List.getElem?_eq_getElem hnl]; rfl
    have hlen : n < ((s.W ++ rest).map (Value.int .u64)).length := by simp; omega
    have hset : ((s.W ++ rest).map (Value.int .u64)).set n (.int .u64 (upd w).1) = (s.W.set n (upd w).1 ++ rest).map (Value.int .u64) := by
      rw [← List.map_set, List.set_append_left _ _ hnl]
    generalize hcells : (s.W ++ rest).map (Value.int .u64) = cells at *
    have hwB' : ∀ h : n < cells.length, cells[n] = .int .u64 w := fun h => by rw [List.getElem?_eq_getElem h] at hwB; exact Option.some.inj hwB
    simp [s159, sb159, j159_0, jb159_0, clip_t, hm, m1, m2, b1, b2, hn, ← hGA, his, eB, oBm, cB, hne, hne', hwB, hwB', hlen, loadA_eq, loadO, oBn, xB]
    refine ⟨?_, bb, rest, ?_⟩
    · exact (((((mA.trans (xB.modP _)).put (.inl h.am) _).put (.inl h.am) _).put (.inl h.am) _).put (.inl h.ab) _).put (.inr (Nat.le_refl _)) _
    · have nB := xB.nx
      refine ⟨fun x hx => ?_, .inl h.am, .inl h.ab, ?_, ?_, ?_⟩
      · rcases hx with hx | hx
        · have := h.un x hx; simp; omega
        · simpa using hx.2
      · simp [m1, hne]
      · simp [b1, ← hset]
      · simpa using h.hl
  · have hcv : cellV bb s a = .pointer none := by unfold cellV; rw [if_neg hin]
    have his := is_ok orc none
    have hacc : s.acc kind a upd = ⟨s.W, kind, a, 0, 0, false, IntKind.wrap .i64 (s.many + 1)⟩ := by unfold MS.acc; rw [if_neg hin]
    rw [hcv, hacc]
    simp [s159, sb159, j159_0, jb159_0, clip_t, hm, m1, m2, his]
    refine ⟨?_, bb, rest, ?_⟩
    · exact ((((ModP.refl A G).push _).put (.inl h.am) _).put (.inl h.am) _).put (.inr (Nat.le_refl _)) _
    · refine ⟨fun x hx => ?_, .inl h.am, .inl h.ab, ?_, ?_, h.hl⟩
      · rcases hx with hx | hx
        · have := h.un x hx; simp; omega
        · simpa using hx.2
      · simp [m1]
      · simp [b1, hne', h.hb]
/-! ### Loads and stores -/
theorem cellV_one (bb : Nat) (s : MS) (a : Int) : one (cellV bb s a) = true := by unfold cellV; split <;> rfl
theorem cellV_in {bb : Nat} {s : MS} {a : Int} (h1 : 0 ≤ a) (h2 : a < s.W.length) : cellV bb s a = .pointer (some ⟨bb, a.toNat, none⟩) := by unfold cellV; rw [if_pos ⟨h1, h2⟩]
theorem load_ok (orc : FuncId → Bool) (h : PMr A G m bb rest s) (a : Int) : Wp ((E orc).cl 177 [P0 m, .int .i64 a] G) fun r => r.1 = .int .u64 (s.load a).new ∧ ModP A G r.2 ∧ PMx (Grow A G r.2) r.2 m (s.load a) := by
  refine Wp.ref (f177 (exL_ok Q orc) _ _ G) ?_
  have hc := cell_ok orc h a
  obtain ⟨G1, hG1⟩ : ∃ G1, G1 = ((G.push ⟨[.pointer none, .int .u64 0, .int .u64 0], 1, false, 1⟩).put G.nx ⟨[cellV bb s a, .int .u64 0, .int .u64 0], 1, false, 1⟩) := ⟨_, rfl⟩
  have x1 : Ext G G1 := by rw [hG1]; exact ((Ext.refl G).push _).put (Nat.le_refl _) _
  have o1 : G1.obj G.nx = some ⟨[cellV bb s a, .int .u64 0, .int .u64 0], 1, false, 1⟩ := by rw [hG1]; simp
  obtain ⟨⟨v, G'⟩, e, q1, q2, q3⟩ := do_ok orc (h.ext x1) 1 a 260 [.agg ⟨[cellV bb s a, .int .u64 0, .int .u64 0]⟩] uLoad fun G1 w hb h1 h2 h3 => by
    have hbn : ¬ bb = G1.nx := by omega
    rw [cellV_in h1 h2]
    exact ⟨_, f260 (exL_ok Q orc) _ G1 _ (by simp [-cell_s, s260, cell_push, hbn, h3, uLoad]; rfl), (Ext.refl G1).push _⟩
  simp only at q1 q2 q3
  have hone := cellV_one bb s a
  generalize cellV bb s a = cv at *
  have hcs := cells_one hone
  simp [s177, hc, hcs, hone, ← hG1, o1, e, q1]
  exact ⟨rfl, PMx.pre h.un x1 q2 q3⟩
theorem store_ok (orc : FuncId → Bool) (h : PMr A G m bb rest s) (a v : Int) : Wp ((E orc).cl 45 [P0 m, .int .i64 a, .int .u64 v] G) fun r => r.1 = .tuple #[] ∧ ModP A G r.2 ∧ PMx (Grow A G r.2) r.2 m (s.store a v) := by
  refine Wp.ref (f45 (exL_ok Q orc) _ _ _ G) ?_
  have hc := cell_ok orc h a
  obtain ⟨G1, hG1⟩ : ∃ G1, G1 = ((G.push ⟨[.pointer none, .int .u64 0, .int .u64 0], 1, false, 1⟩).put G.nx ⟨[cellV bb s a, .int .u64 v, .int .u64 0], 1, false, 1⟩) := ⟨_, rfl⟩
  have x1 : Ext G G1 := by rw [hG1]; exact ((Ext.refl G).push _).put (Nat.le_refl _) _
  have o1 : G1.obj G.nx = some ⟨[cellV bb s a, .int .u64 v, .int .u64 0], 1, false, 1⟩ := by rw [hG1]; simp
  obtain ⟨⟨v', G'⟩, e, q1, q2, q3⟩ := do_ok orc (h.ext x1) 2 a 160 [.agg ⟨[cellV bb s a, .int .u64 v, .int .u64 0]⟩] (uStore v) fun G1 w hb h1 h2 h3 => by
    rw [cellV_in h1 h2]
    exact ⟨_, f160 (exL_ok Q orc) _ G1 _ (by simp [s160, uStore]; rfl), (Ext.refl G1).push _⟩
  simp only at q1 q2 q3
  have hone := cellV_one bb s a
  generalize cellV bb s a = cv at *
  have hcs := cells_one hone
  simp [s45, hc, hcs, hone, ← hG1, o1, e, q1]
  exact PMx.pre h.un x1 q2 q3
theorem cas_ok (orc : FuncId → Bool) (h : PMr A G m bb rest s) (a v w : Int) : Wp ((E orc).cl 68 [P0 m, .int .i64 a, .int .u64 v, .int .u64 w] G) fun r => r.1 = .bool (s.cas a v w).held ∧ ModP A G r.2 ∧ PMx (Grow A G r.2) r.2 m (s.cas a v w) := by
  refine Wp.ref (f68 (exL_ok Q orc) _ _ _ _ G) ?_
  have hc := cell_ok orc h a
  obtain ⟨G1, hG1⟩ : ∃ G1, G1 = ((G.push ⟨[.pointer none, .int .u64 0, .int .u64 0], 1, false, 1⟩).put G.nx ⟨[cellV bb s a, .int .u64 v, .int .u64 w], 1, false, 1⟩) := ⟨_, rfl⟩
  have x1 : Ext G G1 := by rw [hG1]; exact ((Ext.refl G).push _).put (Nat.le_refl _) _
  have o1 : G1.obj G.nx = some ⟨[cellV bb s a, .int .u64 v, .int .u64 w], 1, false, 1⟩ := by rw [hG1]; simp
  obtain ⟨⟨v', G'⟩, e, q1, q2, q3⟩ := do_ok orc (h.ext x1) 3 a 193 [.agg ⟨[cellV bb s a, .int .u64 v, .int .u64 w]⟩] (uCas v w) fun G1 x hb h1 h2 h3 => by
    rw [cellV_in h1 h2]
    have hbn : ¬ bb = G1.nx := by omega
    refine ⟨(G1.push ⟨[.pointer (some ⟨bb, a.toNat, none⟩), .int .u64 v, .int .u64 w], 1, false, 1⟩).room 7, f193 (exL_ok Q orc) _ G1 _ ?_, ((Ext.refl G1).push _).room 7⟩
    by_cases hx : x = v
    · simp [-cell_s, s193, cell_push, hbn, h3, uCas, hx]
    · simp [-cell_s, s193, cell_push, hbn, h3, uCas, hx]
  simp only at q1 q2 q3
  have hone := cellV_one bb s a
  generalize cellV bb s a = cv at *
  have hcs := cells_one hone
  simp [s68, hc, hcs, hone, ← hG1, o1, e, q1]
  exact ⟨rfl, PMx.pre h.un x1 q2 q3⟩
theorem new_ok (orc : FuncId → Bool) (n : Int) (G : GS) : (n < 1 ∨ 4096 < n → (E orc).cl 9 [.int .i64 n] G = some (.tuple #[.pointer none, .int .i64 3], G)) ∧
    (1 ≤ n → n ≤ 4096 → ∃ m G', (E orc).cl 9 [.int .i64 n] G = some (.tuple #[P0 m, .int .i64 0], G') ∧ Ext G G' ∧ PMx (fun x => G.nx ≤ x ∧ x < G'.nx) G' m (MS.zero n.toNat)) := by
  constructor
  · intro h
    refine f9 (exL_ok Q orc) _ G _ ?_
    by_cases h1 : n < 1
    · simp [s9, h1]
    · have h2 : 4096 < n := by omega
      simp [s9, h1, h2]
  · intro h1 h2
    have h1' : ¬ n < 1 := by omega
    have h2' : ¬ 4096 < n := by omega
    refine ⟨G.nx + 1, _, f9 (exL_ok Q orc) _ G _ (by simp [s9, h1', h2']; rfl), ((Ext.refl G).push _).push _, G.nx, List.replicate (4096 - n.toNat) 0, ?_⟩
    refine ⟨fun x hx => hx.2, ⟨by omega, by simp⟩, ⟨by omega, by simp; omega⟩, ?_, ?_, ?_⟩
    · have : ((n.toNat : Nat) : Int) = n := by omega
      simp [MS.zero, this]
    · have : List.replicate n.toNat (0 : Int) ++ List.replicate (4096 - n.toNat) 0 = List.replicate 4096 0 := by
        rw [List.replicate_append_replicate]; congr 1; omega
      simp only [MS.zero, this, List.map_replicate]
      simp
    · simp [MS.zero]; omega
theorem count_ok (orc : FuncId → Bool) (h : PMr A G m bb rest s) : (E orc).cl 21 [P0 m] G = some (.int .i64 s.many, G) :=
  f21 (exL_ok Q orc) _ G _ (by simp [s21, h.hm])
theorem last_ok (orc : FuncId → Bool) (h : PMr A G m bb rest s) : ∃ G', (E orc).cl 49 [P0 m] G = some (.agg ⟨accV s⟩, G') ∧ Ext G G' := by
  have hmn := h.un _ h.am
  have m1 : m ≠ G.nx := by omega
  have m2 : G.nx ≠ m := by omega
  exact ⟨_, f49 (exL_ok Q orc) _ G _ (by simp [s49, h.hm, m1, m2]; rfl), ((Ext.refl G).push _).put (Nat.le_refl _) _⟩
end
end Go.Proofs.YtdohlgkmaeipjaaGreat.Lift

