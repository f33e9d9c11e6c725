import Derived.Test.YtchempegmbidoaaO4
namespace Go.Proofs.Ytchempegmbidoaa.Lift
open Go Go.Proofs.Ytchempegmbidoaa.Gh Go.Proofs
set_option linter.unusedVariables false
set_option linter.unusedSimpArgs false
abbrev P1 (b : Nat) : Value := .pointer (some ⟨b, 0, none⟩)
/-- draws: their block, the script's block, the script's slice, the numbers, how many were taken -/
structure DrawsAt (G : GS) (d s : Nat) (sl : Value) (L : List Int) (at_ : Nat) : Prop where
  hd : G.obj d = some ⟨[P1 s], 1, false, 1⟩
  hs : G.obj s = some ⟨[sl, .int .i64 at_], 1, false, 1⟩
  hl : SlIs G 1 sl L.length (ints L)
  lt : SlLt s sl
  sd : s < d
  dn : d < G.nx
  le : at_ ≤ L.length
  sh : L.length ≤ 5000
theorem DrawsAt.keep {G G' : GS} {d s at_ : Nat} {sl : Value} {L : List Int} (h : DrawsAt G d s sl L at_) (hn : G.nx ≤ G'.nx) (hk : ∀ g, g ≤ d → G'.obj g = G.obj g) : DrawsAt G' d s sl L at_ :=
  ⟨(hk d (Nat.le_refl _)).trans h.hd, (hk s (Nat.le_of_lt h.sd)).trans h.hs, h.hl.keep h.lt hn (fun g hg => hk g (by have := h.sd; omega)), h.lt, h.sd, Nat.lt_of_lt_of_le h.dn hn, h.le, h.sh⟩
theorem DrawsAt.ext {G G' : GS} {d s at_ : Nat} {sl : Value} {L : List Int} (h : DrawsAt G d s sl L at_) (he : Ext G G') : DrawsAt G' d s sl L at_ :=
  h.keep he.nx fun g hg => he.obj g (by have := h.dn; omega)
theorem DrawsAt.take {G G' : GS} {d s at_ m : Nat} {sl : Value} {L : List Int} (h : DrawsAt G d s sl L at_) (hm : Mod [s] G G') (hs : G'.obj s = some ⟨[sl, .int .i64 m], 1, false, 1⟩) (hl : m ≤ L.length) : DrawsAt G' d s sl L m :=
  have hsd := h.sd
  have hdn := h.dn
  ⟨(hm.obj d hdn (by simp; omega)).trans h.hd, hs, h.hl.keep h.lt hm.nx (fun g hg => hm.obj g (by omega) (by simp; omega)), h.lt, hsd, Nat.lt_of_lt_of_le hdn hm.nx, hl, h.sh⟩
theorem DrawsAt.take' {G G' : GS} {d s at_ m : Nat} {sl : Value} {L : List Int} (h : DrawsAt G d s sl L at_) (hn : G.nx ≤ G'.nx) (hk : ∀ g, g ≤ d → g ≠ s → G'.obj g = G.obj g) (hs : G'.obj s = some ⟨[sl, .int .i64 m], 1, false, 1⟩) (hl : m ≤ L.length) : DrawsAt G' d s sl L m :=
  have hsd := h.sd
  ⟨(hk d (Nat.le_refl _) (by omega)).trans h.hd, hs, h.hl.keep h.lt hn (fun g hg => hk g (by omega) (by omega)), h.lt, hsd, Nat.lt_of_lt_of_le h.dn hn, hl, h.sh⟩
theorem none_no (orc : FuncId → Bool) {G : GS} {d s at_ : Nat} {sl : Value} {L : List Int} (h : DrawsAt G d s sl L at_) : (E orc).cl 53 [P1 d] G = some (.bool false, G) := by
  rw [c53]
  simp [s53, pNil, cell_of h.hd]
theorem left_ok (orc : FuncId → Bool) {G : GS} {d s at_ : Nat} {sl : Value} {L : List Int} (h : DrawsAt G d s sl L at_) : (E orc).cl 30 [P1 d] G = some (.int .i64 (L.length - at_), G.room 17) := by
  obtain ⟨a, c, rfl⟩ := h.hl.len
  have hw : IntKind.wrap .i64 ((L.length : Int) - at_) = L.length - at_ := wrap64 (by have := h.le; have := h.sh; omega) (by have := h.le; have := h.sh; omega)
  rw [c30]
  simp [s30, none_no orc h, pNil, cell_of h.hd, cell_of h.hs, hw]
/-- the iterator's loop: nothing is left -/
theorem rest_end (orc : FuncId → Bool) {G : GS} {d s at_ x : Nat} {sl y : Value} {L : List Int} (h : DrawsAt G d s sl L at_) (hx : G.obj x = some ⟨[P1 d], 1, false, 1⟩) (he : at_ = L.length) {T : List Value} (hT : T.length = 49) (h0 : nth undef T 0 = y) (h1 : nth undef T 1 = P1 x) :
    Wp ((E orc).lp (subAt [0, 0] (bodyOf Try.f59)) T G) fun r => r.1 = .exit 0 ∧ r.2.2 = G.room 16 := by
  obtain ⟨a, c, rfl⟩ := h.hl.len
  refine Wp.up (l59_0 orc T G hT) ?_
  simp [b59_0, h0, h1, pNil, cell_of hx, cell_of h.hd, cell_of h.hs, he]
/-- the heap behind a number's taking -/
def took (G : GS) (s : Nat) (sl : Value) (at_ : Nat) : GS := ((G.room 16).put s ⟨[sl, .int .i64 ((at_ : Int) + 1)], 1, false, 1⟩).room 20
theorem took_mod (G : GS) (s : Nat) (sl : Value) (at_ : Nat) : Mod [s] G (took G s sl at_) := (((Mod.refl [s] G).room 16).put (.inl (by simp)) _).room 20
theorem took_obj (G : GS) (s : Nat) (sl : Value) (at_ g : Nat) : (took G s sl at_).obj g = if g = s then some ⟨[sl, .int .i64 ((at_ : Int) + 1)], 1, false, 1⟩ else G.obj g := by simp [took]
/-- a number is handed on; who takes it wants no more, or goes on -/
theorem rest_step (orc : FuncId → Bool) {G G2 : GS} {d s at_ x l : Nat} {sl : Value} {L : List Int} {b : Bool} (h : DrawsAt G d s sl L at_) (hx : G.obj x = some ⟨[P1 d], 1, false, 1⟩) (hxs : x ≠ s) (he : at_ < L.length) {T : List Value} (hT : T.length = 49) (h0 : nth undef T 0 = .func (.yield l) #[] #[]) (h1 : nth undef T 1 = P1 x)
    (hr : (E orc).rd l [.int .i64 L[at_]] (took G s sl at_) = some (.bool b, G2)) {Q : Exit × List Value × GS → Prop}
    (hq : if b then (∀ T', T'.length = 49 → nth undef T' 0 = .func (.yield l) #[] #[] → nth undef T' 1 = P1 x → Wp ((E orc).lp (subAt [0, 0] (bodyOf Try.f59)) T' G2) Q) else ∀ T', Q (.ret, T', G2)) :
    Wp ((E orc).lp (subAt [0, 0] (bodyOf Try.f59)) T G) Q := by
  have hsd := h.sd
  have hds : d ≠ s := by omega
  have hw : IntKind.wrap .i64 ((at_ : Int) + 1) = ((at_ + 1 : Nat) : Int) := wrap64 (by have := h.sh; omega) (by have := h.sh; omega)
  have hw' : IntKind.wrap .i64 (at_ : Int) = at_ := wrap64 (by omega) (by have := h.sh; omega)
  obtain ⟨bb, o, c, rfl, hb, hc⟩ := h.hl.at_ he
  have hc := hc 0 (by omega)
  have hbs : bb ≠ s := by have := h.lt _ _ _ rfl; simp at this; omega
  simp [he] at hc
  have hst : storeN 1 s 1 (.int .i64 ((at_ : Int) + 1)) (G.room 16) = some ((G.room 16).put s ⟨[.slice (some ⟨bb, o, none⟩) L.length c, .int .i64 ((at_ : Int) + 1)], 1, false, 1⟩) := by
    simp only [storeN, Value.cells]
    exact wr1_of (ob := ⟨[.slice (some ⟨bb, o, none⟩) L.length c, .int .i64 at_], 1, false, 1⟩) (by simpa using h.hs) rfl rfl (by simp)
  refine Wp.up (l59_0 orc T G hT) ?_
  have hi : (at_ : Int) < L.length := by omega
  have hi0 : (0 : Int) ≤ at_ := by omega
  simp [b59_0, h0, h1, pNil, cell_of hx, cell_of h.hd, cell_of h.hs, hi, hw, hst, cell_put, hxs, hds, hw', hi0, hbs, hc]
  rw [took] at hr
  simp only [hr, bS_some]
  cases b with
  | true =>
    simp
    exact hq _ rfl rfl rfl
  | false =>
    simp
    exact hq _
end Go.Proofs.Ytchempegmbidoaa.Lift
