import Derived.Test.YtglafaecdpilgaaH11
set_option linter.unusedVariables false
set_option linter.unusedSimpArgs false
set_option maxRecDepth 20000
namespace Go.Proofs.Ytglafaecdpilgaa.Gh
open Go
theorem slK_ext {G G' : GS} (x : Ext G G') {s : Nat} {v : Value} (hv : SlLt G.nx v) (lo hi mx : Option Value) : slK s v lo hi mx G' = slK s v lo hi mx G := by
  unfold slK
  split
  · rfl
  · rename_i a len cap
    rw [x.obj _ (hv _ _ _ rfl)]
  · rfl
@[simp] theorem same_sl (a : Option Addr) (m c : Nat) : same (.slice a m c) (.slice a m c) = true := by simp [same, sameD]
theorem slK_sl {s : Nat} {v v' : Value} {lo hi mx : Option Value} {G : GS} (h : slK s v lo hi mx G = some v') : ∃ a m c, v' = .slice a m c := by
  unfold slK at h
  repeat' split at h
  all_goals first | (cases h; exact ⟨_, _, _, rfl⟩) | cases h
end Go.Proofs.Ytglafaecdpilgaa.Gh
namespace Go.Proofs.Ytglafaecdpilgaa.Lift
open Go Go.Proofs.Ytglafaecdpilgaa.Gh Go.Proofs
/-- a set with an item between: where the item stands -/
theorem ins_at (L : List It) (w a : Int) : (L.take (pl L w) ++ [(w, a)] ++ L.drop (pl L w))[pl L w]? = some (w, a) := by
  have := pl_le L w
  rw [List.append_assoc, List.getElem?_append_right (by simp; omega)]
  simp [Nat.min_eq_left this]
theorem pl_ins (L : List It) (w a : Int) : pl (L.take (pl L w) ++ [(w, a)] ++ L.drop (pl L w)) w = pl L w := by
  have hp := pl_le L w
  refine pl_uniq (by rw [ins_length]; omega) (fun j h hj => ?_) (fun h => ?_)
  · have e : (L.take (pl L w) ++ [(w, a)] ++ L.drop (pl L w))[j]? = some (L[j]'(by omega)) := by
      rw [List.append_assoc, List.getElem?_append_left (by simp; omega), List.getElem?_take, if_pos hj, List.getElem?_eq_getElem (by omega)]
    have := pl_lt L w j (by omega) hj
    rw [List.getElem?_eq_getElem h, Option.some.injEq] at e
    rw [e]; exact this
  · have e := ins_at L w a
    rw [List.getElem?_eq_getElem h, Option.some.injEq] at e
    rw [e]; simp
theorem hsK_ins (L : List It) (w a : Int) : hsK (L.take (pl L w) ++ [(w, a)] ++ L.drop (pl L w)) w = true := by
  have hp := pl_le L w
  have e := ins_at L w a
  have hlt : pl L w < (L.take (pl L w) ++ [(w, a)] ++ L.drop (pl L w)).length := by rw [ins_length]; omega
  rw [List.getElem?_eq_getElem hlt, Option.some.injEq] at e
  unfold hsK
  simp only [pl_ins]
  rw [dif_pos hlt, e]
  simp
theorem ins_cut (L : List It) (w a : Int) : (L.take (pl L w) ++ [(w, a)] ++ L.drop (pl L w)).take (pl L w) ++ (L.take (pl L w) ++ [(w, a)] ++ L.drop (pl L w)).drop (pl L w + 1) = L := by
  have hp := pl_le L w
  have hl : (L.take (pl L w)).length = pl L w := by simp; omega
  rw [List.append_assoc, List.take_append_of_le_length (by omega), List.take_of_length_le (by omega)]
  rw [← List.append_assoc, List.drop_append_of_le_length (by simp; omega), List.drop_of_length_le (by simp; omega), List.nil_append, List.take_append_drop]
theorem hWord_pick {L : List It} (hz : ichk L = 0) (h0 : 0 < L.length) : hWord L 5 = (L[0]).1 ∧ hNum L 5 = (L[0]).2 := by
  cases L with
  | nil => simp at h0
  | cons y L => simp [hWord, hNum, hz]
/-- the tail of what the law looks at -/
noncomputable def t7 (q : Bool) (e : Ex) (v0 x0 x2 x4 x19 x20 x27 x28 x48 : Value) (G26 : GS) : Option (Value × GS) :=
  bS (gd x48 false (some (x19, G26)) G26) fun x49 G50 =>
  bS (gd x48 false (some (x49, G50)) G50) fun x51 G52 =>
  bS (gd x51 true (bP (lda Q q 28 3 x2 G52) fun y => some (y, G52)) G52) fun x53 G54 =>
  bS (gd x51 true (bP (lda Q q 28 3 x20 G54) fun y => some (y, G54)) G54) fun x55 G56 =>
  bS (gd x51 true (bP (bn Q q .eql 28 (.tmp 56) (.tmp 57) x53 x55) fun y => some (y, G56)) G56) fun x57 G58 =>
  bS (gd x48 false (bP (pickV x51 x57 (.bool false)) fun y => some (y, G58)) G58) fun x59 G60 =>
  bP (pickV x48 (.bool true) x59) fun x61 =>
  bP (eb Q q true 4 (.tmp 51) (.tmp 60) x28 x61) fun x62 =>
  bS (gd x62 false (some (x28, G60)) G60) fun x63 G64 =>
  bS (gd x62 false (some (x63, G64)) G64) fun x65 G66 =>
  bS (gd x65 true (some (x27, G66)) G66) fun x67 G68 =>
  bS (gd x65 true (bS (e.ev.cl 22 [x67] G68) fun y G => some (y, G)) G68) fun x69 G70 =>
  bS (gd x65 true (bP (bn Q q .neq 26 (.tmp 66) (.const (.int .i64 0)) x69 (.int .i64 0)) fun y => some (y, G70)) G70) fun x71 G72 =>
  bS (gd x62 false (bP (pickV x65 x71 (.bool false)) fun y => some (y, G72)) G72) fun x73 G74 =>
  bP (pickV x62 (.bool true) x73) fun x75 =>
  ifV x75 (
  some ((.bool false), G74)) (
  bP (un Q q .not x28) fun x76 =>
  bS (gd x76 false (some (x48, G74)) G74) fun x77 G78 =>
  bP (pickV x76 (.bool true) x77) fun x79 =>
  bS (gd x79 false (bP (fa Q q 28 0 0 x2) fun y => some (y, G78)) G78) fun x80 G81 =>
  bS (gd x79 false (bP (ld Q q 26 x80 G81) fun y => some (y, G81)) G81) fun x82 G83 =>
  bS (gd x79 false (bP (bn Q q .neq 26 (.tmp 77) (.const (.int .i64 0)) x82 (.int .i64 0)) fun y => some (y, G83)) G83) fun x84 G85 =>
  bP (pickV x79 (.bool true) x84) fun x86 =>
  bS (gd x86 false (bP (fa Q q 25 0 0 x0) fun y => some (y, G85)) G85) fun x87 G88 =>
  bS (gd x86 false (bP (ld Q q 3 x87 G88) fun y => some (y, G88)) G88) fun x89 G90 =>
  bS (gd x86 false (bP (bn Q q .eql 3 (.tmp 82) (.const (.int .i64 6)) x89 (.int .i64 6)) fun y => some (y, G90)) G90) fun x91 G92 =>
  bP (pickV x86 (.bool true) x91) fun x93 =>
  ifV x93 (
  bS (gd x4 true (some (x28, G92)) G92) fun x94 G95 =>
  bS (gd x4 true (bP (un Q q .not x94) fun y => some (y, G95)) G95) fun x96 G97 =>
  bS (gd x4 true (some (x96, G97)) G97) fun x98 G99 =>
  bS (gd x98 false (some (x27, G99)) G99) fun x100 G101 =>
  bS (gd x98 false (some (v0, G101)) G101) fun x102 G103 =>
  bS (gd x98 false (bS (e.ev.cl 19 [x100, x102] G103) fun y G => some (y, G)) G103) fun x104 G105 =>
  bS (gd x4 true (bP (pickV x98 (.bool true) x104) fun y => some (y, G105)) G105) fun x106 G107 =>
  bP (pickV x4 x106 (.bool false)) fun x108 =>
  some (x108, G107)) (
  bP (fa Q q 25 0 0 x0) fun x109 =>
  bP (ld Q q 3 x109 G92) fun x110 =>
  bP (bn Q q .eql 3 (.tmp 96) (.const (.int .i64 4)) x110 (.int .i64 4)) fun x111 =>
  ifV x111 (
  bP (fa Q q 25 3 3 x0) fun x112 =>
  bP (ld Q q 23 x112 G92) fun x113 =>
  bS (e.ev.cl 25 [x27, x113] G92) fun x114 G115 =>
  bP (pExtract x114 0) fun x116 =>
  bP (pExtract x114 1) fun x117 =>
  bS (gd x4 true (some (x117, (G115.room 44))) (G115.room 44)) fun x118 _ =>
  bP (pickV x4 x118 (.bool false)) fun x119 =>
  bS (gd x119 true (some (x27, (G115.room 44))) (G115.room 44)) fun x120 _ =>
  bS (gd x119 true (bP (ln Q q 22 x120) fun y => some (y, (G115.room 44))) (G115.room 44)) fun x121 _ =>
  bS (gd x119 true (some (v0, (G115.room 44))) (G115.room 44)) fun x122 _ =>
  bS (gd x119 true (bP (ln Q q 22 x122) fun y => some (y, (G115.room 44))) (G115.room 44)) fun x123 _ =>
  bS (gd x119 true (bP (bn Q q .add 3 (.tmp 113) (.const (.int .i64 1)) x123 (.int .i64 1)) fun y => some (y, (G115.room 44))) (G115.room 44)) fun x124 _ =>
  bS (gd x119 true (bP (bn Q q .eql 3 (.tmp 111) (.tmp 114) x121 x124) fun y => some (y, (G115.room 44))) (G115.room 44)) fun x125 _ =>
  bP (pickV x119 x125 (.bool false)) fun x126 =>
  bS (gd x126 true (some (x116, (G115.room 44))) (G115.room 44)) fun x127 _ =>
  bS (gd x126 true (some (x27, (G115.room 44))) (G115.room 44)) fun x128 _ =>
  bS (gd x126 true (bP (ln Q q 22 x128) fun y => some (y, (G115.room 44))) (G115.room 44)) fun x129 _ =>
  bS (gd x126 true (bP (bn Q q .lss 3 (.tmp 118) (.tmp 120) x127 x129) fun y => some (y, (G115.room 44))) (G115.room 44)) fun x130 _ =>
  bP (pickV x126 x130 (.bool false)) fun x131 =>
  bS (gd x131 true (some (x27, (G115.room 44))) (G115.room 44)) fun x132 _ =>
  bS (gd x131 true (some (x116, (G115.room 44))) (G115.room 44)) fun x133 _ =>
  bS (gd x131 true (bP (ias Q q 22 2 x132 x133) fun y => some (y, (G115.room 44))) (G115.room 44)) fun x134 _ =>
  bS (gd x131 true (bP (lda Q q 40 2 x134 (G115.room 44)) fun y => some (y, (G115.room 44))) (G115.room 44)) fun x135 _ =>
  bS (gd x131 true (bP (fa Q q 25 3 3 x0) fun y => some (y, (G115.room 44))) (G115.room 44)) fun x136 _ =>
  bS (gd x131 true (bP (ld Q q 23 x136 (G115.room 44)) fun y => some (y, (G115.room 44))) (G115.room 44)) fun x137 _ =>
  bS (gd x131 true (bP (fa Q q 25 1 1 x0) fun y => some (y, (G115.room 44))) (G115.room 44)) fun x138 _ =>
  bS (gd x131 true (bP (ld Q q 3 x138 (G115.room 44)) fun y => some (y, (G115.room 44))) (G115.room 44)) fun x139 _ =>
  bS (gd x131 true (bP (bd Q q 40 z40 [(0, 0, 1), (1, 1, 1)] [x137, x139]) fun y => some (y, (G115.room 44))) (G115.room 44)) fun x140 _ =>
  bS (gd x131 true (bP (bn Q q .eql 40 (.tmp 127) (.tmp 132) x135 x140) fun y => some (y, (G115.room 44))) (G115.room 44)) fun x141 _ =>
  bP (pickV x131 x141 (.bool false)) fun x142 =>
  bS (gd x142 true (some (x27, (G115.room 44))) (G115.room 44)) fun x143 _ =>
  bS (gd x142 true (some (x116, (G115.room 44))) (G115.room 44)) fun x144 _ =>
  bS (gd x142 true (bP (sl Q q 22 2 x143 none (some x144) none (G115.room 44)) fun y => some (y, (G115.room 44))) (G115.room 44)) fun x145 _ =>
  bS (gd x142 true (bS (e.ev.cl 14 [x145] (G115.room 44)) fun y G => some (y, G)) (G115.room 44)) fun x147 G146 =>
  bS (gd x142 true (some (x27, G146)) G146) fun x148 _ =>
  bS (gd x142 true (some (x116, G146)) G146) fun x149 _ =>
  bS (gd x142 true (bP (bn Q q .add 3 (.tmp 141) (.const (.int .i64 1)) x149 (.int .i64 1)) fun y => some (y, G146)) G146) fun x150 _ =>
  bS (gd x142 true (bP (sl Q q 22 2 x148 (some x150) none none G146) fun y => some (y, G146)) G146) fun x151 _ =>
  chk (((!(gB x142 true) || (!(gB x142 true) || sameO (sl Q q 22 2 x148 (some x150) none none (G115.room 44)) x151)) && true)) <|
  bS (gd x142 true (bS (ap Q q 22 22 2 16 x147 x151 G146) fun y G => some (y, G)) G146) fun x153 G152 =>
  bS (gd x142 true (some (v0, G152)) G152) fun x154 _ =>
  bS (gd x142 true (bS (e.ev.cl 19 [x153, x154] G152) fun y G => some (y, G)) G152) fun x156 G155 =>
  bP (pickV x142 x156 (.bool false)) fun x157 =>
  some (x157, G155)) (
  bS (gd x4 true (some (v0, (G92.room 31))) (G92.room 31)) fun x158 _ =>
  bS (gd x4 true (bP (ln Q q 22 x158) fun y => some (y, (G92.room 31))) (G92.room 31)) fun x159 _ =>
  bS (gd x4 true (bP (bn Q q .gtr 3 (.tmp 151) (.const (.int .i64 0)) x159 (.int .i64 0)) fun y => some (y, (G92.room 31))) (G92.room 31)) fun x160 _ =>
  bP (pickV x4 x160 (.bool false)) fun x161 =>
  bS (gd x161 true (some (x27, (G92.room 31))) (G92.room 31)) fun x162 _ =>
  bS (gd x161 true (some (v0, (G92.room 31))) (G92.room 31)) fun x163 _ =>
  bS (gd x161 true (bP (sl Q q 22 2 x163 (some (.int .i64 1)) none none (G92.room 31)) fun y => some (y, (G92.room 31))) (G92.room 31)) fun x164 _ =>
  bS (gd x161 true (bS (e.ev.cl 19 [x162, x164] (G92.room 31)) fun y G => some (y, G)) (G92.room 31)) fun x166 G165 =>
  bP (pickV x161 x166 (.bool false)) fun x167 =>
  bS (gd x167 true (bP (fa Q q 28 2 2 x2) fun y => some (y, G165)) G165) fun x168 _ =>
  bS (gd x167 true (bP (ld Q q 23 x168 G165) fun y => some (y, G165)) G165) fun x169 _ =>
  bS (gd x167 true (some (v0, G165)) G165) fun x170 _ =>
  bS (gd x167 true (bP (ias Q q 22 2 x170 (.int .i64 0)) fun y => some (y, G165)) G165) fun x171 _ =>
  bS (gd x167 true (bP (fa Q q 40 0 0 x171) fun y => some (y, G165)) G165) fun x172 _ =>
  bS (gd x167 true (bP (ld Q q 23 x172 G165) fun y => some (y, G165)) G165) fun x173 _ =>
  bS (gd x167 true (bP (bn Q q .eql 23 (.tmp 162) (.tmp 166) x169 x173) fun y => some (y, G165)) G165) fun x174 _ =>
  bP (pickV x167 x174 (.bool false)) fun x175 =>
  bS (gd x175 true (bP (fa Q q 28 1 1 x2) fun y => some (y, G165)) G165) fun x176 _ =>
  bS (gd x175 true (bP (ld Q q 3 x176 G165) fun y => some (y, G165)) G165) fun x177 _ =>
  bS (gd x175 true (some (v0, G165)) G165) fun x178 _ =>
  bS (gd x175 true (bP (ias Q q 22 2 x178 (.int .i64 0)) fun y => some (y, G165)) G165) fun x179 _ =>
  bS (gd x175 true (bP (fa Q q 40 1 1 x179) fun y => some (y, G165)) G165) fun x180 _ =>
  bS (gd x175 true (bP (ld Q q 3 x180 G165) fun y => some (y, G165)) G165) fun x181 _ =>
  bS (gd x175 true (bP (bn Q q .eql 3 (.tmp 171) (.tmp 175) x177 x181) fun y => some (y, G165)) G165) fun x182 _ =>
  bP (pickV x175 x182 (.bool false)) fun x183 =>
  some (x183, G165))))

theorem t7_ok (orc : FuncId → Bool) {L : List It} (hlen : L.length ≤ 40) (hz : ichk L = 0) {v0 v27 : Value} (k a b w c i u : Int) {B N : Nat} {G : GS} (hs : SlR rIt G v0 L) (o27 : SlR rIt G v27 (hNext L k a w c i u)) (hB : B + 1 < G.nx) (hN : N < G.nx)
    (p1 : G.obj B = some ⟨opC k a b w, 1, false, 1⟩) (p2 : G.obj (B + 1) = some ⟨[.int .i64 c, .int .i64 i, .int .u64 u], 1, false, 1⟩) (p3 : G.obj N = some ⟨[.int .i64 (hCode L k w), .int .i64 (hNum L k), .int .u64 (hWord L k)], 1, false, 1⟩) :
    Wp (t7 true (exL Q orc) v0 (P1 B) (P1 (B + 1)) (.bool true) (.bool (hIs L k w)) (P1 N) v27 (.bool (hOk L k w c i u)) (.bool (hRef k c i u)) G) fun r => r.1 = .bool true := by
  obtain ⟨hl, hu⟩ := ichk_zero.1 hz
  have la2 := ld_an p2 (by decide)
  have la3 := ld_an p3 (by decide)
  have ck : G.cell B 0 = some (.int .i64 k) := by rw [cell_at' p1 (by decide)]; rfl
  have cc : G.cell (B + 1) 0 = some (.int .i64 c) := by rw [cell_at' p2 (by decide)]; rfl
  have heq := eq_an (.tmp 56) (.tmp 57) c i u (hCode L k w) (hNum L k) (hWord L k)
  have hacc : hAcc L k w c i u = (hIs L k w && decide (hCode L k w = c ∧ hNum L k = i ∧ hWord L k = u)) := rfl
  have hsym : decide (c = hCode L k w ∧ i = hNum L k ∧ u = hWord L k) = decide (hCode L k w = c ∧ hNum L k = i ∧ hWord L k = u) := by
    rw [decide_eq_decide]; constructor <;> (rintro ⟨x, y, z⟩; exact ⟨x.symm, y.symm, z.symm⟩)
  rw [hsym] at heq
  -- what is as it was
  have like : hNext L k a w c i u = L → ∃ G70 G105, (E orc).cl 22 [v27] G = some (.int .i64 0, G70) ∧ Ext G G70 ∧ (E orc).cl 19 [v27, v0] G70 = some (.bool true, G105) := by
    intro hn
    rw [hn] at o27
    obtain ⟨G70, e70, x70⟩ := check_ok orc o27 (by omega)
    rw [hz] at e70
    obtain ⟨G105, e105, x105⟩ := sameItems orc (o27.ext x70) (hs.ext x70) (by omega)
    simp only [decide_true] at e105
    exact ⟨G70, G105, e70, x70, e105⟩
  cases hr : hRef k c i u with
  | true =>
    have hok : hOk L k w c i u = true := by simp [hOk, hz, hr]
    have hn : hNext L k a w c i u = L := by simp [hNext, hok, hr]
    obtain ⟨G70, G105, e70, x70, e105⟩ := like hn
    have cc70 : G70.cell (B + 1) 0 = some (.int .i64 c) := by rw [cell_at' ((x70.obj _ hB).trans p2) (by decide)]; rfl
    rw [hok]
    simp [t7, e70, e105]
  | false =>
    have hok : hOk L k w c i u = hAcc L k w c i u := by simp [hOk, hz, hr]
    cases hi : hIs L k w with
    | false =>
      have h1 : hAcc L k w c i u = false := by simp [hacc, hi]
      rw [hok, h1]
      simp [t7]
    | true =>
      by_cases hm : hCode L k w = c ∧ hNum L k = i ∧ hWord L k = u
      · have h1 : hAcc L k w c i u = true := by simp [hacc, hi, hm]
        rw [decide_eq_true hm] at heq
        by_cases hc : c ≠ 0 ∨ k = 6
        · have h2 : hNext L k a w c i u = L := by unfold hNext; rw [if_pos (by rw [hok, h1]), if_neg (by simp [hr]), if_pos hc]
          obtain ⟨G70, G105, e70, x70, e105⟩ := like h2
          have cc70 : G70.cell (B + 1) 0 = some (.int .i64 c) := by rw [cell_at' ((x70.obj _ hB).trans p2) (by decide)]; rfl
          have ck70 : G70.cell B 0 = some (.int .i64 k) := by rw [cell_at' ((x70.obj _ (by omega)).trans p1) (by decide)]; rfl
          rw [hok, h1]
          by_cases hc0 : c = 0
          · have hk6 : k = 6 := hc.resolve_left (fun h => h hc0)
            subst hk6 hc0
            simp [t7, la2, la3, heq, e70, e105, cc70, ck70]
          · simp [t7, la2, la3, heq, e70, e105, cc70, ck70, hc0]
        · have hc0 : c = 0 := by
            by_cases h : c = 0
            · exact h
            · exact absurd (.inl h) hc
          have hk6 : ¬ k = 6 := fun h => hc (.inr h)
          by_cases hk5 : k = 5
          · have h2 : hNext L k a w c i u = L.drop 1 := by unfold hNext; rw [if_pos (by rw [hok, h1]), if_neg (by simp [hr]), if_neg hc, if_pos hk5]
            have hL : 0 < L.length := by
              cases L with
              | nil => have := hm.1; simp [hCode, hz, hk5] at this; omega
              | cons x L => simp
            have hzd : ichk (L.drop 1) = 0 := ichk_zero.2 ⟨by simp; omega, up_drop hu 1⟩
            rw [h2] at o27
            obtain ⟨G70, e70, x70⟩ := check_ok orc o27 (by simp; omega)
            rw [hzd] at e70
            have x70r := x70.room 31
            have cc70 : G70.cell (B + 1) 0 = some (.int .i64 c) := by rw [cell_at' ((x70.obj _ hB).trans p2) (by decide)]; rfl
            have ck70 : G70.cell B 0 = some (.int .i64 k) := by rw [cell_at' ((x70.obj _ (by omega)).trans p1) (by decide)]; rfl
            have n70 := x70.nx
            generalize hR : G70.room 31 = R at *
            have nR := x70r.nx
            obtain ⟨vd, d1, d2⟩ := (hs.ext x70r).drop (k := .i64) (o := 1) hL
            obtain ⟨G165, e165, x165⟩ := sameItems orc (o27.ext x70r) d2 (by simp; omega)
            simp only [decide_true] at e165
            have x0 := x70r.trans x165
            have cw : G165.cell (B + 1) 2 = some (.int .u64 u) := by rw [cell_at' ((x0.obj _ hB).trans p2) (by decide)]; rfl
            have ci : G165.cell (B + 1) 1 = some (.int .i64 i) := by rw [cell_at' ((x0.obj _ hB).trans p2) (by decide)]; rfl
            obtain ⟨bb, o, c', hv', _, hk1, hk2, _⟩ := it_at (hs.ext x0) (i := 0) hL
            simp at hk1 hk2
            have eu : u = (L[0]).1 := by rw [← hm.2.2, hk5]; exact (hWord_pick hz hL).1
            have ei : i = (L[0]).2 := by rw [← hm.2.1, hk5]; exact (hWord_pick hz hL).2
            have hL' : (0 : Int) < L.length := by omega
            have d3 : sl Q true 22 2 v0 (some (.int .i64 1)) none none R = some vd := by rw [hv'] at d1 ⊢; simpa using d1
            rw [← eu] at hk1
            rw [← ei] at hk2
            have hi0 : ias Q true 22 2 v0 (.int .i64 0) = some (.pointer (some ⟨bb, o, none⟩)) := by rw [hv']; simp [hL]
            have hln : ln Q true 22 v0 = some (.int .i64 L.length) := by rw [hv']; simp
            rw [hok, h1]
            subst hk5 hc0
            simp [t7, la2, la3, heq, e70, cc70, ck70, hR, hln, hL, d3, e165, cw, ci, hi0, hk1, hk2]
          · have hk4 : k = 4 := by
              have : hIs L k w = true := hi
              simp [hIs, hz] at this
              by_cases h : k = 4
              · exact h
              · simp [h, hk5, hk6] at this
            have h2 : hNext L k a w c i u = L.take (pl L w) ++ [(w, a)] ++ L.drop (pl L w) := by unfold hNext; rw [if_pos (by rw [hok, h1]), if_neg (by simp [hr]), if_neg hc, if_neg hk5]
            have hno : hsK L w = false := by
              have := hm.1
              simp only [hCode, hz, hk4, if_true] at this
              cases h : hsK L w with
              | false => rfl
              | true => rw [h] at this; simp at this; omega
            have hzi : ichk (L.take (pl L w) ++ [(w, a)] ++ L.drop (pl L w)) = 0 := ichk_zero.2 ⟨by rw [ins_length]; omega, up_ins hu hno⟩
            rw [h2] at o27
            have q1 := pl_ins L w a
            have q2 := hsK_ins L w a
            have q3 := ins_length L w a
            have q4 := ins_cut L w a
            have q5 := ins_at L w a
            have hp := pl_le L w
            generalize hT : L.take (pl L w) ++ [(w, a)] ++ L.drop (pl L w) = T at *
            generalize hP : pl L w = p at *
            obtain ⟨G70, e70, x70⟩ := check_ok orc o27 (by omega)
            rw [hzi] at e70
            have cc70 : G70.cell (B + 1) 0 = some (.int .i64 c) := by rw [cell_at' ((x70.obj _ hB).trans p2) (by decide)]; rfl
            have r70 := (x70.obj _ (show B < G.nx by omega)).trans p1
            have ck70 : G70.cell B 0 = some (.int .i64 k) := by rw [cell_at' r70 (by decide)]; rfl
            have cw70 : G70.cell B 3 = some (.int .u64 w) := by rw [cell_at' r70 (by decide)]; rfl
            obtain ⟨⟨q115, G115⟩, e115, rfl, x115⟩ := placeX_ok orc (by omega) w (o27.ext x70)
            simp only at x115
            rw [q1, q2] at e115
            have xR := (x70.trans x115).room 44
            generalize hR : G115.room 44 = R at *
            have nR := xR.nx
            have rR := (xR.obj _ (show B < G.nx by omega)).trans p1
            have cwR : R.cell B 3 = some (.int .u64 w) := by rw [cell_at' rR (by decide)]; rfl
            have caR : R.cell B 1 = some (.int .i64 a) := by rw [cell_at' rR (by decide)]; rfl
            have hsR := hs.ext xR
            have oR := o27.ext xR
            have hpT : p < T.length := by omega
            have hTp : T[p] = (w, a) := by rw [List.getElem?_eq_getElem hpT, Option.some.injEq] at q5; exact q5
            obtain ⟨bb, o, c', hv', _, _, _, hld⟩ := it_at oR hpT
            rw [hTp] at hld
            have heqi := eq_it (.tmp 127) (.tmp 132) (w, a) (w, a)
            obtain ⟨⟨vt, t1, t2⟩, _⟩ := oR.take (k := .i64) (o := p) (by omega)
            obtain ⟨vc, G146, e146, x146, o146⟩ := copyItems orc t2 (by simp; omega)
            obtain ⟨vd, d1, d2⟩ := (oR.ext x146).drop (k := .i64) (o := p + 1) (by omega)
            have d1R : slK rIt.sz v27 (some (.int .i64 ((p + 1 : Nat) : Int))) none none R = some vd := by rw [← slK_ext x146 oR.lt]; exact d1
            obtain ⟨ad, md, cd, rfl⟩ := slK_sl d1
            obtain ⟨vf, G152, f1, f2, f3⟩ := o146.app (ib := 16) (by decide) x146 d2 (by simp; omega)
            rw [q4] at f3
            obtain ⟨G155, e155, x155⟩ := sameItems orc f3.is (hsR.ext f2) (by omega)
            simp only [decide_true] at e155
            obtain ⟨av, cv, hv⟩ := hs.len
            have hln : ln Q true 22 v0 = some (.int .i64 L.length) := by rw [hv]; simp
            have hln27 : ln Q true 22 v27 = some (.int .i64 ((L.length + 1 : Nat) : Int)) := by rw [hv', q3]; simp
            have w1 : IntKind.wrap .i64 ((L.length : Int) + 1) = ((L.length + 1 : Nat) : Int) := wrap64 (by omega) (by omega)
            have w2 : IntKind.wrap .i64 ((p : Int) + 1) = ((p + 1 : Nat) : Int) := wrap64 (by omega) (by omega)
            have hpl' : (p : Int) < ((L.length + 1 : Nat) : Int) := by omega
            have hp0 : (0 : Int) ≤ p := by omega
            have hi27 : ias Q true 22 2 v27 (.int .i64 p) = some (.pointer (some ⟨bb, o + p * 2, none⟩)) := by rw [hv']; simp; omega
            have t3 : sl Q true 22 2 v27 none (some (.int .i64 p)) none R = some vt := by rw [hv'] at t1 ⊢; simpa using t1
            have d3 : sl Q true 22 2 v27 (some (.int .i64 ((p + 1 : Nat) : Int))) none none G146 = some (.slice ad md cd) := by rw [hv'] at d1 ⊢; simpa [-Int.natCast_add] using d1
            have d4 : sl Q true 22 2 v27 (some (.int .i64 ((p + 1 : Nat) : Int))) none none R = some (.slice ad md cd) := by rw [hv'] at d1R ⊢; simpa [-Int.natCast_add] using d1R
            rw [hok, h1]
            subst hk4 hc0
            simp only [rIt_sz] at f1
            simp [-Int.natCast_add, t7, la2, la3, heq, e70, cc70, ck70, cw70, e115, hR, hln, hln27, w1, w2, hpl', hp0, hi27, hld, cwR, caR, heqi, fillL, fillC, splice_put, splice_end, splice_succ, Value.cells, t3, e146, d3, d4, sameO, f1, e155]
      · have h1 : hAcc L k w c i u = false := by simp [hacc, hi, hm]
        rw [decide_eq_false hm] at heq
        rw [hok, h1]
        simp [t7, la2, la3, heq]
set_option maxHeartbeats 2000000 in
theorem heapGoes (orc : FuncId → Bool) (ho : orc 6 = true) (h59 : orc 59 = false) (L : List It) (v0 : Value) (k a b w c i u : Int) (G : GS) (hs : SlR rIt G v0 L) :
    Wp ((E orc).cl 7 [v0, opV k a b w, ansV c i u] G) fun r => r.1 = .bool true := by
  obtain ⟨av, cv, hv⟩ := hs.len
  have hln : ln Q true 22 v0 = some (.int .i64 L.length) := by rw [hv]; simp
  refine Wp.ref (f7 (exL_ok Q orc) _ _ _ G) ?_
  by_cases hl : 40 < L.length
  · have hl' : (40 : Int) < L.length := by omega
    simp [s7, hln, hl', cl_orc Q orc ho]
  have hl' : ¬ (40 : Int) < L.length := by omega
  have x3 : Ext G ((G.push ⟨opC k a b w, 1, false, 1⟩).push ⟨[.int .i64 c, .int .i64 i, .int .u64 u], 1, false, 1⟩) := ((Ext.refl G).push _).push _
  obtain ⟨G11, e11, x11⟩ := check_ok orc (hs.ext x3) (by omega)
  obtain ⟨o1, o2, n11⟩ := x11.boxed2
  have hs11 := (hs.ext x3).ext x11
  by_cases hz : ichk L = 0
  · rw [hz] at e11
    have lo : ∀ {G'}, Ext G11 G' → loadA 4 G.nx 0 G' = some (opV k a b w) := fun h => ld_op ((h.obj _ (by omega)).trans o1) (by decide)
    have la : ∀ {G'}, Ext G11 G' → loadA 3 (G.nx + 1) 0 G' = some (ansV c i u) := fun h => ld_an ((h.obj _ (by omega)).trans o2) (by decide)
    obtain ⟨⟨q17, G17⟩, e17, rfl, x17⟩ := answer_ok orc h59 (by omega) k a b w hs11
    simp only at x17
    have s22 : storeN 3 G17.nx 0 (ansV (hCode L k w) (hNum L k) (hWord L k)) (G17.push ⟨zAns, 1, false, 1⟩) = some ((G17.push ⟨zAns, 1, false, 1⟩).put G17.nx ⟨[.int .i64 (hCode L k w), .int .i64 (hNum L k), .int .u64 (hWord L k)], 1, false, 1⟩) := st_ans (by simp; exact ⟨rfl, rfl, rfl⟩) _ _ _
    have x22 : Ext G17 ((G17.push ⟨zAns, 1, false, 1⟩).put G17.nx ⟨[.int .i64 (hCode L k w), .int .i64 (hNum L k), .int .u64 (hWord L k)], 1, false, 1⟩) := ((Ext.refl _).push _).put (Nat.le_refl _) _
    have b22 : ((G17.push ⟨zAns, 1, false, 1⟩).put G17.nx ⟨[.int .i64 (hCode L k w), .int .i64 (hNum L k), .int .u64 (hWord L k)], 1, false, 1⟩).obj G17.nx = some ⟨[.int .i64 (hCode L k w), .int .i64 (hNum L k), .int .u64 (hWord L k)], 1, false, 1⟩ := by simp
    have n22 : G17.nx < ((G17.push ⟨zAns, 1, false, 1⟩).put G17.nx ⟨[.int .i64 (hCode L k w), .int .i64 (hNum L k), .int .u64 (hWord L k)], 1, false, 1⟩).nx := by simp
    generalize hG22 : ((G17.push ⟨zAns, 1, false, 1⟩).put G17.nx ⟨[.int .i64 (hCode L k w), .int .i64 (hNum L k), .int .u64 (hWord L k)], 1, false, 1⟩) = G22 at *
    have x1122 := x17.trans x22
    obtain ⟨⟨q26, G26⟩, e26, x26, v27, h26, o27⟩ := next_ok orc h59 (by omega) k a b w c i u (hs11.ext x1122)
    simp only at x26 h26 o27
    subst h26
    have x1126 := x1122.trans x26
    have n1126 := x1126.nx
    have n26 := x26.nx
    have p1 := (x1126.obj _ (show G.nx < G11.nx by omega)).trans o1
    have p2 := (x1126.obj _ (show G.nx + 1 < G11.nx by omega)).trans o2
    have p3 := (x26.obj _ n22).trans b22
    have ck : G26.cell G.nx 0 = some (.int .i64 k) := by rw [cell_at' p1 (by decide)]; rfl
    have fin := t7_ok orc (L := L) (by omega) hz k a b w c i u (B := G.nx) (N := G17.nx) (G := G26) (hs11.ext x1126) o27.is (by omega) (by omega) p1 p2 p3
    have hrd : hRef k c i u = (decide (k = 4) && (decide (c = 7 ∧ i = 0 ∧ u = 0) || decide (c = 12 ∧ i = 0 ∧ u = 0))) := rfl
    have h7 := eq_an (.tmp 42) (.tmp 43) c i u 7 0 0
    have h12 := eq_an (.tmp 46) (.tmp 47) c i u 12 0 0
    by_cases hk4 : k = 4
    · subst hk4
      by_cases d7 : c = 7 ∧ i = 0 ∧ u = 0
      · rw [decide_eq_true d7] at h7 hrd
        have hr : hRef 4 c i u = true := by rw [hrd]; simp
        rw [hr] at fin
        simp [s7, Value.cells, hln, hl', cl_orc Q orc ho, e11, lo (Ext.refl _), e17, s22, hG22, lo x1122, la x1122, e26, ck, la x1126, fillL, fillC, splice_put, splice_end, splice_succ, h7]
        simpa [t7, hln, la x1126, fillL, fillC, splice_put, splice_end, splice_succ, Value.cells] using fin
      · rw [decide_eq_false d7] at h7 hrd
        by_cases d12 : c = 12 ∧ i = 0 ∧ u = 0
        · rw [decide_eq_true d12] at h12 hrd
          have hr : hRef 4 c i u = true := by rw [hrd]; simp
          rw [hr] at fin
          simp [s7, Value.cells, hln, hl', cl_orc Q orc ho, e11, lo (Ext.refl _), e17, s22, hG22, lo x1122, la x1122, e26, ck, la x1126, fillL, fillC, splice_put, splice_end, splice_succ, h7, h12]
          simpa [t7, hln, la x1126, fillL, fillC, splice_put, splice_end, splice_succ, Value.cells] using fin
        · rw [decide_eq_false d12] at h12 hrd
          have hr : hRef 4 c i u = false := by rw [hrd]; simp
          rw [hr] at fin
          simp [s7, Value.cells, hln, hl', cl_orc Q orc ho, e11, lo (Ext.refl _), e17, s22, hG22, lo x1122, la x1122, e26, ck, la x1126, fillL, fillC, splice_put, splice_end, splice_succ, h7, h12]
          simpa [t7, hln, la x1126, fillL, fillC, splice_put, splice_end, splice_succ, Value.cells] using fin
    · have hr : hRef k c i u = false := by rw [hrd]; simp [hk4]
      rw [hr] at fin
      simp [s7, Value.cells, hln, hl', cl_orc Q orc ho, e11, lo (Ext.refl _), e17, s22, hG22, lo x1122, la x1122, e26, ck, hk4, la x1126, fillL, fillC, splice_put, splice_end, splice_succ]
      simpa [t7, hln, la x1126, fillL, fillC, splice_put, splice_end, splice_succ, Value.cells] using fin
  · simp [s7, Value.cells, hln, hl', e11, hz, cl_orc Q orc ho]
end Go.Proofs.Ytglafaecdpilgaa.Lift
