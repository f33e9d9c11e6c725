/- contracts of the program's functions -/
import Derived.Test.YtocbppgkgcoehaaKD
set_option linter.unusedVariables false
set_option linter.unusedSimpArgs false
set_option maxRecDepth 20000
namespace Go.Proofs.Ytocbppgkgcoehaa.Lift
open Go Go.Proofs.Ytocbppgkgcoehaa.Gh Go.Proofs
section
variable {own own' own1 : Nat → Nat} {G G' G1 : GS} {b t n c : Nat} {ts : List Nat} {cs : List Value} {x y y0 : CS} {B B1 : CrB} {v : Value} {K D T H : Nat} {q : List Int}
inductive EndP (n xb : Nat) (G : GS) : Prop where
  | mk (own' : Nat → Nat) (B' : CrB) (x' : CS) (K' D' T' H' : Nat) : B'.xb = xb → CrG own' G n x' B' → Inv n K' x' D' T' H' → K' ≤ 95000 → (∀ i, i < 3 → x'.o i = -1) → EndP n xb G
theorem need_le (h : Inv n K x D T H) (c : Nat) : needC x D T c ≤ limC c := by
  unfold needC limC
  split
  · exact muP_le (by have := h.m.t2; omega) _
  · exact muT_le x
theorem cores_lp (orc : FuncId → Bool) {xb : Nat} : ∀ (m : Nat) (τ : Env) (G : GS) (own : Nat → Nat) (B : CrB) (x : CS) (K D T H : Nat), m ≤ 3 → τ 0 = P0 xb → τ 7 = .int .i64 ((m : Int) - 1) → B.xb = xb → CrG own G n x B → Inv n K x D T H → K + 9 * m ≤ 95000 → (∀ i, m ≤ i → i < 3 → x.o i = -1) →
    Wp ((exL Q orc).lpx 33 1 τ G) fun q => q.1 = .exit 2 ∧ EndP n xb q.2.2 := by
  intro m
  induction m with
  | zero =>
    intro τ G own B x K D T H hm t0 t7 hB h hI hK hi
    refine Wp.lp (l33_1 (exL_ok Q orc)) ?_
    simp at t7
    simp [b33_1, clip_t, t0, t7]
    exact .mk own B x K D T H hB h hI (by omega) fun i h => hi i (by omega) h
  | succ m ih =>
    intro τ G own B x K D T H hm t0 t7 hB h hI hK hi
    have e : ((m + 1 : Nat) : Int) - 1 = (m : Int) := by omega
    rw [e] at t7
    have hm0 : (0 : Int) ≤ m := by omega
    have hw : IntKind.wrap .i64 ((m : Int) - 1) = (m : Int) - 1 := wrap64 (by omega) (by omega)
    have hl : limC m ≤ 9 := by unfold limC; split <;> omega
    refine Wp.lp (l33_1 (exL_ok Q orc)) ?_
    simp [b33_1, clip_t, t0, t7, hm0]
    refine Wp.bE (Wp.mono (alone_lp orc (c := m) (by omega) (limC m) 0 _ G own B x K D T H (by omega) ?_ ?_ ?_ hB h hI (by omega) (fun _ => need_le hI m)) ?_)
    · simp [clip_t, t0]
    · simp [clip_t, t7]
    · simp [clip_t]
    rintro ⟨e1, τ', G'⟩ ⟨rfl, s0, s7, ⟨own', B', x', K', D', T', H', z1, z2, z3, z4, z5, z6⟩⟩
    simp only at s0 s7 z2
    have eb := busy_ok orc z2 (show m < 3 by omega)
    rw [z1] at eb
    have hnb : ¬ 0 ≤ x'.o m := by omega
    simp [s0, s7, eb, hnb, hw]
    refine Wp.mono (ih _ G' own' B' x' K' D' T' H' (by omega) ?_ ?_ z1 z2 z3 (by omega) fun i h1 h2 => ?_) fun q hq => hq
    · simp [clip_t, s0]
    · simp [clip_t]
    · by_cases e : i = m
      · rw [e]; exact z5
      · rw [z6 i e]; exact hi i (by omega) h2
theorem plays_in (orc : FuncId → Bool) {v1 : Value} {L : List Int} (hlen : L.length ≤ 1000) (h : CrG own G n x B) (ha : ArgS own G v1 L) (hI : Inv n 0 x D T H) :
    Wp ((E orc).cl 33 [P0 B.xb, v1] G) fun q => q.1 = .bool true ∧ EndP n B.xb q.2 := by
  refine Wp.ref (f33 (exL_ok Q orc) _ _ G) ?_
  simp [s33]
  refine Wp.bE (Wp.mono (plays_lp orc hlen L.length 0 _ G own B x 0 D T H (by omega) ?_ ?_ ?_ rfl h ha hI (by omega)) ?_)
  · simp
  · simp
  · simp
  rintro ⟨e1, τ', G'⟩ ⟨rfl, s0, ⟨own', B', x', K', D', T', H', z1, z2, z3, z4⟩⟩
  simp only at s0 z2
  simp
  refine Wp.bE (Wp.mono (cores_lp orc (xb := B.xb) 3 _ G' own' B' x' K' D' T' H' (by omega) ?_ ?_ z1 z2 z3 (by omega) (fun i h1 h2 => by omega)) ?_)
  · simp [s0]
  · simp
  rintro ⟨e2, τ2, G2⟩ ⟨rfl, hE⟩
  simp
  exact hE
/-- what is in the ring, when nobody is within an operation -/
theorem allN_q {s : MS} (h : InvM n D T K q D s) (hK : K ≤ 900000) : ∀ (k j : Nat), j + k = n → j ≤ q.length → allN (rgN n) s k ((D + j : Nat) : Int) = q.drop j
  | 0, j, hj, hq => by
    have := h.qn
    have : j = q.length := by omega
    subst this
    simp [allN]
  | k + 1, j, hj, hq => by
    have n1 := h.n1
    have n6 := h.n6
    have hsm := h.small
    have hqn := h.qn
    have hs := h.slot (D + j) (by omega) (by omega)
    have hat : s.at' (placeI (rgN n) ((D + j : Nat) : Int)) = wordN n D q (D + j) := by
      have hl := h.len
      have hm : (D + j) % n < n := Nat.mod_lt _ (by omega)
      rw [place_n n1 n6]
      unfold MS.at'
      rw [if_pos (by omega), Int.toNat_natCast, hs]
      rfl
    have hlap := lap_n n1 (t := D + j) (by omega)
    have hw : IntKind.wrap .u64 (((D + j : Nat) : Int) + 1) = ((D + (j + 1) : Nat) : Int) := by rw [wrap_u64]; omega
    unfold allN
    rw [hat, hlap]
    by_cases hlt : j < q.length
    · have hz : q[j]? = some q[j] := List.getElem?_eq_getElem hlt
      have hv := h.qv q[j] (List.getElem_mem hlt)
      have hwd : wordN n D q (D + j) = (((D + j) / n : Nat) : Int) * 4294967296 + 65536 + q[j] := by
        unfold wordN
        rw [if_pos (by omega), show D + j - D = j by omega, hz]; rfl
      rw [hwd, full_f _ _ hv.1 hv.2, if_pos (by simp), hw, allN_q h hK k (j + 1) (by omega) (by omega)]
      have he : ((((D + j) / n : Nat) : Int) * 4294967296 + 65536 + q[j]) % 65536 = q[j] := by omega
      rw [he]
      exact (List.drop_eq_getElem_cons hlt).symm
    · have hwd : wordN n D q (D + j) = (((D + j) / n : Nat) : Int) * 4294967296 := by
        unfold wordN
        rw [if_neg (by omega)]
      rw [hwd, full_e, if_neg (by simp), List.drop_of_length_le (by omega)]
theorem allI_q (h : Inv n K x D T H) (hK : K ≤ 900000) (ho : x.o 2 = -1) : allI (rgN n) x.s = x.q := by
  have hHD : H = D := by
    cases h.t with
    | idle _ b _ => exact b
    | seen _ b _ _ _ => exact b
    | d1 a _ _ _ _ => omega
    | d2 a _ _ _ => omega
    | f1 _ a _ _ _ => omega
    | f2 a _ _ _ => omega
  subst hHD
  have hm := h.m
  have hat : x.s.at' (rgN n).head = (H : Int) := by
    have hl := hm.len
    unfold MS.at'
    rw [if_pos (by show (0 : Int) ≤ 0 ∧ (0 : Int) < _; omega)]
    show (x.s.W[0]?).getD 0 = _
    rw [hm.head]; rfl
  unfold allI
  rw [if_pos (rgN_ok hm.n1 hm.n6), hat]
  have := allN_q hm hK n 0 (by omega) (by omega)
  simpa [rgN] using this
/-! ### A crew that is made -/
def s0 (n : Nat) : MS := fillI (rgN n) (MS.zero (2 + n))
def cs0 (n : Nat) : CS := ⟨s0 n, fun _ => .done 0, fun _ => 0, fun _ => 0, .done 0 0 0, .done 0, false, false, [], [], fun _ => -1, 0, 0⟩
theorem s0_W (h1 : 1 ≤ n) (h6 : n ≤ 6) : (s0 n).W = List.replicate (2 + n) 0 := by
  rcases (show n = 1 ∨ n = 2 ∨ n = 3 ∨ n = 4 ∨ n = 5 ∨ n = 6 by omega) with rfl | rfl | rfl | rfl | rfl | rfl <;> decide
theorem inv0 (h1 : 1 ≤ n) (h6 : n ≤ 6) : Inv n 0 (cs0 n) 0 0 0 := by
  have hW := s0_W h1 h6
  have hget : ∀ i, i < 2 + n → (s0 n).W[i]? = some 0 := fun i hi => by rw [hW, List.getElem?_replicate, if_pos hi]
  refine ⟨⟨h1, h6, by show (s0 n).W.length = _; rw [hW]; simp, hget 0 (by omega), hget 1 (by omega), Nat.le_refl _, by simp [cs0], by simp [cs0], by simp [cs0], by simp [cs0], fun t _ ht => ?_⟩, fun c _ => ⟨by simp [cs0], by simp [cs0]⟩, fun c _ => .inl rfl, .idle rfl rfl rfl, fun c => ⟨by simp [cs0], by simp [cs0]⟩, by simp [cs0], fun h => by simp [cs0] at h⟩
  have ht' : t < n := by omega
  rw [Nat.mod_eq_of_lt ht']
  show (s0 n).W[2 + t]? = _
  rw [hget _ (by omega)]
  unfold wordN
  rw [if_neg (by simp [cs0]), Nat.div_eq_of_lt ht']
  rfl
end
end Go.Proofs.Ytocbppgkgcoehaa.Lift

set_option linter.unusedVariables false
set_option linter.unusedSimpArgs false
set_option maxRecDepth 20000
namespace Go.Proofs.Ytocbppgkgcoehaa.Lift
open Go Go.Proofs.Ytocbppgkgcoehaa.Gh Go.Proofs
section
variable {own own' own1 : Nat → Nat} {G G' G1 : GS} {b t n c : Nat}
set_option maxHeartbeats 2000000 in
theorem begun_in (orc : FuncId → Bool) (h1 : 1 ≤ n) (h6 : n ≤ 6) (G : GS) : ∃ own' B G', (E orc).cl 31 [.int .i64 n] G = some (P0 B.xb, G') ∧ Ext G G' ∧ CrG own' G' n (cs0 n) B ∧ ∀ g, g < G.nx → own' g = 20 := by
  have w : Wp ((E orc).cl 31 [.int .i64 n] G) fun q => ∃ B own', q.1 = P0 B.xb ∧ Ext G q.2 ∧ CrG own' q.2 n (cs0 n) B ∧ ∀ g, g < G.nx → own' g = 20 := by
    refine Wp.ref (f31 (exL_ok Q orc) _ G) ?_
    obtain ⟨G3, hG3⟩ : ∃ G3, G3 = (G.push ⟨z28, 1, false, 1⟩).put G.nx ⟨(rgN n).cells, 1, false, 1⟩ := ⟨_, rfl⟩
    have x3 : Ext G G3 := by rw [hG3]; exact ((Ext.refl G).push _).put (Nat.le_refl _) _
    have n3 : G3.nx = G.nx + 1 := by rw [hG3]; rfl
    have o3 : G3.obj G.nx = some ⟨(rgN n).cells, 1, false, 1⟩ := by rw [hG3]; simp
    have hw : IntKind.wrap .i64 (2 + (n : Int)) = ((2 + n : Nat) : Int) := by rw [show 2 + (n : Int) = ((2 + n : Nat) : Int) by omega]; exact wrap64 (by omega) (by omega)
    obtain ⟨m, G6, e6, x6, hm6⟩ := (new_ok orc ((2 + n : Nat) : Int) G3).2 (by omega) (by omega)
    rw [Int.toNat_natCast] at hm6
    have n6 := x6.nx
    have o6 := (x6.obj G.nx (by omega)).trans o3
    obtain ⟨⟨r, G17⟩, e17, rfl, m17, hm17⟩ := fill_ok orc hm6 (rgN n)
    simp only at m17 hm17
    have n17 := m17.nx
    have o17 := (m17.obj G.nx (by omega) (fun k => by omega)).trans o6
    obtain ⟨R, hR⟩ : ∃ R, R = G17.room 9 := ⟨_, rfl⟩
    have nR : R.nx = G17.nx + 9 := by rw [hR]; rfl
    obtain ⟨G20, hG20⟩ : ∃ G20, G20 = ((R.at' (G17.nx + 2)).push ⟨[.pointer none, .pointer none], 1, false, 1⟩).back R := ⟨_, rfl⟩
    obtain ⟨G22, hG22⟩ : ∃ G22, G22 = ((G20.at' (G17.nx + 3)).push ⟨[.int .i64 0, .int .i64 0], 1, false, 1⟩).back G20 := ⟨_, rfl⟩
    obtain ⟨G24, hG24⟩ : ∃ G24, G24 = ((G22.at' (G17.nx + 4)).push ⟨[.int .i64 0, .int .i64 0], 1, false, 1⟩).back G22 := ⟨_, rfl⟩
    obtain ⟨G26, hG26⟩ : ∃ G26, G26 = ((G24.at' (G17.nx + 5)).push ⟨[.int .i64 (-1), .int .i64 (-1), .int .i64 (-1)], 1, false, 1⟩).back G24 := ⟨_, rfl⟩
    obtain ⟨B, hB⟩ : ∃ B : CrB, B = ⟨m, G17.nx + 7, G17.nx + 2, G17.nx + 3, G17.nx + 4, G17.nx + 5, .pointer none, .pointer none, .slice none 0 0, .slice none 0 0, fun _ => .pointer none⟩ := ⟨_, rfl⟩
    obtain ⟨G29, hG29⟩ : ∃ G29, G29 = ((G26.at' (G17.nx + 7)).push ⟨crX n (cs0 n) B, 1, false, 1⟩).back G26 := ⟨_, rfl⟩
    have n20 : G20.nx = R.nx := by rw [hG20]; rfl
    have n22 : G22.nx = R.nx := by rw [hG22, ← n20]; rfl
    have n24 : G24.nx = R.nx := by rw [hG24, ← n22]; rfl
    have n26 : G26.nx = R.nx := by rw [hG26, ← n24]; rfl
    have n29 : G29.nx = R.nx := by rw [hG29, ← n26]; rfl
    have x29 : Ext G17 G29 := by
      rw [hG29, hG26, hG24, hG22, hG20, hR]
      exact ext_drawn (ext_drawn (ext_drawn (ext_drawn (ext_drawn ((Ext.refl _).room 9) (by omega) _) (by omega) _) (by omega) _) (by omega) _) (by omega) _
    have xb : G29.obj (G17.nx + 7) = some ⟨crX n (cs0 n) B, 1, false, 1⟩ := by rw [hG29]; simp
    have ob : G29.obj (G17.nx + 5) = some ⟨[.int .i64 (-1), .int .i64 (-1), .int .i64 (-1)], 1, false, 1⟩ := by rw [hG29, hG26]; simp
    have hb : G29.obj (G17.nx + 4) = some ⟨[.int .i64 0, .int .i64 0], 1, false, 1⟩ := by rw [hG29, hG26, hG24]; simp
    have vb : G29.obj (G17.nx + 3) = some ⟨[.int .i64 0, .int .i64 0], 1, false, 1⟩ := by rw [hG29, hG26, hG24, hG22]; simp
    have pb : G29.obj (G17.nx + 2) = some ⟨[.pointer none, .pointer none], 1, false, 1⟩ := by rw [hG29, hG26, hG24, hG22, hG20]; simp
    obtain ⟨own1, hown⟩ : ∃ own1 : Nat → Nat, own1 = fun g => if g < G.nx then 20 else if g < G3.nx then 13 else if g < G17.nx then 10 else if g = G17.nx + 7 then 1 else if g = G17.nx + 2 then 2 else if g = G17.nx + 3 then 14 else if g = G17.nx + 4 then 15 else if g = G17.nx + 5 then 16 else 13 := ⟨_, rfl⟩
    have tg : ∀ i, i < 9 → own1 (G17.nx + i) = if i = 7 then 1 else if i = 2 then 2 else if i = 3 then 14 else if i = 4 then 15 else if i = 5 then 16 else 13 := fun i hi => by
      rw [hown]; simp only
      rw [if_neg (by omega), if_neg (by omega), if_neg (by omega)]
      simp
    have hm29 : PMx (Tag own1 G29 10) G29 m (cs0 n).s := by
      refine PMx.mono (PMx.ext hm17 x29) (fun g hg => ?_) Tag.under
      have hg' : (G3.nx ≤ g ∧ g < G17.nx) := by
        rcases hg with hg | hg
        · exact ⟨hg.1, by have := hg.2; omega⟩
        · exact ⟨by have := hg.1; omega, hg.2⟩
      refine ⟨by omega, ?_⟩
      rw [hown]; simp only
      rw [if_neg (by omega), if_neg (by omega), if_pos hg'.2]
    have so : (cs0 n).s.ok := fillI_ok _ ⟨fun w hw => by
      have : w = 0 := by simpa [MS.zero] using List.eq_of_mem_replicate hw
      rw [this]; exact U_zero, by simp [MS.zero]; omega⟩
    have mG : Ext G G17 := ModP.tail (x3.trans x6) m17 fun g hg => by have := hg.1; omega
    have hCr : CrG own1 G29 n (cs0 n) B := by
      have tx := tg 7 (by omega)
      have tp := tg 2 (by omega)
      have tv := tg 3 (by omega)
      have th := tg 4 (by omega)
      have to := tg 5 (by omega)
      simp at tx tp tv th to
      have nb : ∀ g, ¬ InB (.slice none 0 0) g := fun g ⟨a, n', c', h, _⟩ => by cases h
      rw [hB] at xb ⊢
      refine ⟨⟨by show G17.nx + 7 < _; omega, tx, xb⟩, ⟨by show G17.nx + 2 < _; omega, tp, pb⟩, ⟨by show G17.nx + 3 < _; omega, tv, vb⟩, ⟨by show G17.nx + 4 < _; omega, th, hb⟩, ⟨by show G17.nx + 5 < _; omega, to, ob⟩, hm29, so, OwR.nil _ _, fun g hg => absurd hg (nb g), OwR.nil _ _, fun g hg => absurd hg (nb g), fun c _ ho => by simp [cs0] at ho, fun hf => by simp [cs0] at hf, fun hd => by simp [cs0] at hd, fun _ => rfl, rfl, rfl⟩
    refine Wp.mono (Q := fun q => q = (P0 B.xb, G29)) ?_ (fun q hq => by
      subst hq
      exact ⟨B, own1, rfl, mG.trans x29, hCr, fun g hg => by rw [hown]; simp only; rw [if_pos hg]⟩)
    have hz : z74 = [.int .i64 0, .int .i64 0, .int .i64 0, .int .i64 0, .pointer none, .slice none 0 0, .slice none 0 0, .pointer none, .pointer none, .bool false, .slice none 0 0, .slice none 0 0, .int .i64 0, .int .i64 0, .slice none 0 0, .slice none 0 0, .int .i64 0, .int .i64 0] := rfl
    have hz28 : z28 = [.int .i64 0, .int .i64 0, .int .i64 0, .int .i64 0] := rfl
    have hz25 : z25 = [.pointer none] := rfl
    have hz3 : z3 = [.int .i64 0] := rfl
    have hz30 : z30 = [.int .i64 0] := rfl
    have e17' : (E orc).cl 29 [.agg ⟨[.int .i64 0, .int .i64 1, .int .i64 2, .int .i64 n]⟩, P0 m] G6 = some (.tuple #[], G17) := e17
    have hBx : B.xb = G17.nx + 7 := by rw [hB]
    have hcr : crX n (cs0 n) B = [.int .i64 0, .int .i64 1, .int .i64 2, .int .i64 n, P0 m, .slice (some ⟨G17.nx + 2, 0, none⟩) 2 2, .slice (some ⟨G17.nx + 3, 0, none⟩) 2 2, .pointer none, .pointer none, .bool false, .slice none 0 0, .slice (some ⟨G17.nx + 4, 0, none⟩) 2 2, .int .i64 0, .int .i64 0, .slice none 0 0, .slice (some ⟨G17.nx + 5, 0, none⟩) 3 3, .int .i64 0, .int .i64 0] := by rw [hB]; rfl
    rw [hcr] at hG29
    have hr : (rgN n).cells = [.int .i64 0, .int .i64 1, .int .i64 2, .int .i64 n] := rfl
    rw [hr] at o3 o6 o17 hG3
    rw [hz28] at hG3
    clear hCr
    have hc2 : ((2 + n : Nat) : Int) = 2 + (n : Int) := by omega
    rw [hc2] at hw e6
    have mk2 : ∀ (z : List Value) (G : GS), mkK 1 8 z 2 2 G = some (.slice (some ⟨G.nx, 0, none⟩) 2 2, G.push ⟨z ++ z, 1, false, 1⟩) := by
      intro z G
      unfold mkK
      rw [if_pos (by decide)]
      simp
    have hr3 : rep [Value.int .i64 0] 3 = [.int .i64 0, .int .i64 0, .int .i64 0] := rfl
    simp [-Int.natCast_add, s31, hz, hz28, hz25, hz3, hz30, ← hG3, hw, e6, o6, e17', o17, mk2, hr3, ← hR, ← hG20]
    simp [← hG22]
    simp [← hG24]
    simp [← hG26]
    have oR : R.obj G.nx = some ⟨[.int .i64 0, .int .i64 1, .int .i64 2, .int .i64 n], 1, false, 1⟩ := by rw [hR]; simpa using o17
    simp [hBx, hG29, oR]
  obtain ⟨⟨v, G'⟩, e, B, own', rfl, h1, h2, h3⟩ := w
  exact ⟨own', B, G', e, h1, h2, h3⟩
/-- **the law**: each takes effect at one of its steps, as a queue answers; alone each ends -/
theorem ringKeeps (orc : FuncId → Bool) (hkn : orc 3 = true) {v1 : Value} {L : List Int} (hL : SlR (rowsI .i64) G v1 L) (z : Int) :
    Wp ((E orc).cl 5 [.int .i64 z, v1] G) fun q => q.1 = .bool true := by
  refine Wp.ref (f5 (exL_ok Q orc) _ _ G) ?_
  obtain ⟨va, vc, ev⟩ := hL.len
  have l1 : ln Q true 38 v1 = some (.int .i64 L.length) := by rw [ev]; simp
  have ek := cl_orc Q orc hkn G
  by_cases c1 : 300 < L.length
  · have c1' : (300 : Int) < L.length := by omega
    simp [s5, l1, ek, c1, c1']
  have c1' : ¬ (300 : Int) < L.length := by omega
  have ep := pick_ok orc z 6 (by decide) (by decide) G
  obtain ⟨n, hn⟩ : ∃ n : Nat, 1 + z % 6 = (n : Int) := ⟨(1 + z % 6).toNat, by omega⟩
  have h1 : 1 ≤ n := by omega
  have h6 : n ≤ 6 := by omega
  have hw : IntKind.wrap .i64 (1 + z % 6) = (n : Int) := by rw [hn]; exact wrap64 (by omega) (by omega)
  obtain ⟨own1, B, G8, e8, x8, h8, t8⟩ := begun_in orc h1 h6 G
  have r8 := (Ext.refl G8).room 27
  have hr := h8.ext r8
  have ag : Agr own1 (grown own1 G8 13) G8 := grown_agr
  have ha : ArgS (grown own1 G8 13) (G8.room 27) v1 L := ⟨hL.ext (x8.trans r8), fun g hg => by
    have := hL.under g hg
    rw [ag g (Nat.lt_of_lt_of_le this x8.nx)]
    exact t8 g this⟩
  obtain ⟨⟨r, G14⟩, e14, rfl, ⟨own', B', x', K', D', T', H', z1, z2, z3, z4, z5⟩⟩ := plays_in orc (by omega) hr ha (inv0 h1 h6)
  simp only at z2
  have cx := z2.cx.obj
  rw [z1] at cx
  obtain ⟨w, G25, e25, x25, w25⟩ := all_ok orc z2.hm z2.so (rgN n)
  have hq := allI_q z3 (by omega) (z5 2 (by omega))
  rw [hq] at w25
  have cx25 := (x25.obj B'.xb z2.cx.lt).trans z2.cx.obj
  rw [z1] at cx25
  obtain ⟨G31, e31, x31⟩ := same17 orc w25.is ((z2.hq.ext x25).is) (by have := z3.m.qn; have := z3.m.n6; omega)
  simp only [decide_true] at e31
  have e25' : (E orc).cl 18 [.agg ⟨[.int .i64 0, .int .i64 1, .int .i64 2, .int .i64 n]⟩, P0 B'.m] G14 = some (w, G25) := e25
  obtain ⟨qa, qc, eq⟩ := z2.hq.is.len
  rw [eq] at e31
  simp only [crX, eq] at cx cx25
  simp [s5, l1, ek, c1, c1', ep, hw, e8, e14, cx, e25', cx25, e31]
end
end Go.Proofs.Ytocbppgkgcoehaa.Lift

set_option linter.unusedVariables false
set_option linter.unusedSimpArgs false
set_option maxRecDepth 20000
namespace Go.Proofs.Ytocbppgkgcoehaa.Lift
open Go Go.Proofs.Ytocbppgkgcoehaa.Gh Go.Proofs
theorem okNone : OrcOk Q (among []) := among_ok _ (fun f hf => by simp at hf) (purOk_none (by kernel_rfl))
theorem trueAw : isTrue ((kE (among []) 60).ev.cl 22 [] GS.empty) = true := by kernel_rfl
theorem okAw : OrcOk Q (among [22]) := among_ok _ (hp := purOk_none (by kernel_rfl)) fun f hf => by
  simp only [List.mem_cons, List.not_mem_nil, or_false] at hf
  subst hf
  exact ⟨⟨_, Try.func22, by kernel_rfl, by kernel_rfl⟩, fun w _ => closed_kE okNone (by kernel_rfl) trueAw w⟩
theorem trueKn : isTrue ((kE (among [22]) 60).ev.cl 3 [] GS.empty) = true := by kernel_rfl
theorem okKn : OrcOk Q (among [3]) := among_ok _ (hp := purOk_none (by kernel_rfl)) fun f hf => by
  simp only [List.mem_cons, List.not_mem_nil, or_false] at hf
  subst hf
  exact ⟨⟨_, Try.func3, by kernel_rfl, by kernel_rfl⟩, fun w _ => closed_kE okAw (by kernel_rfl) trueKn w⟩
end Go.Proofs.Ytocbppgkgcoehaa.Lift

