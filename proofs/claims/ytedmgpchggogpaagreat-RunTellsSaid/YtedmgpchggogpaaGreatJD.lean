/- contracts of the program's functions -/
import Derived.Test.YtedmgpchggogpaaGreatGhSD
import Derived.Sort.Grow
import Derived.Test.YtedmgpchggogpaaGreatRa
import Derived.Shelf.SlSortCmp.NoneTotal
import Derived.Ground.SlsfProg
import Derived.Test.YtedmgpchggogpaaGreatJA
import Derived.WalkKit
set_option linter.unusedVariables false
set_option linter.unusedSimpArgs false
namespace Go.Proofs.YtedmgpchggogpaaGreat.Lift
open Go Go.Proofs.YtedmgpchggogpaaGreat.Gh Go.Proofs
theorem foldl_alloc : ∀ (os : List Obj) (w : World), os.foldl (fun w o => w.alloc o) w = { w with heap := w.heap ++ os.toArray }
  | [], w => by simp
  | o :: os, w => by
    rw [List.foldl_cons, foldl_alloc os]
    show ({ w with heap := w.heap.push o ++ os.toArray } : World) = _
    congr 1
    simp [-World.alloc_eq]
theorem putRow_many (L : List Int) (c : Array Value) (off : Nat) (h : off + L.length ≤ c.size) : Go.Sort.putCells (Value.int .u64) off L.toArray c = setMany c off (L.map (Value.int .u64)) := by
  apply Array.ext_getElem?
  intro i
  rw [setMany_get _ _ _ _ (by simpa using h)]
  unfold Go.Sort.putCells
  rw [Array.getElem?_mapIdx]
  by_cases hi : off ≤ i ∧ i < off + L.length
  · have h1 : i < c.size := by omega
    have h2 : i - off < L.length := by omega
    simp [hi, h1, h2]
  · simp [hi]
theorem sort_world {w : World} {blk off : Nat} {c : Array Value} {e : TypeId} (hw : w.heap[blk]? = some (.cells c e (0, 0))) (L : List Int) (hL : off + L.length ≤ c.size) (n : Nat) (os : Array Obj) :
    Go.Sort.grow (Go.Sort.putRow (Value.int .u64) (Go.Sort.ahead w n) blk off L.toArray) os = { (os.toList.foldl (fun w o => w.alloc o) (World.putCells w blk (setMany c off (L.map (Value.int .u64))) e)) with drawn := w.drawn + n } := by
  rw [foldl_alloc]
  unfold Go.Sort.grow Go.Sort.putRow Go.Sort.mapBlock Go.Sort.ahead World.putCells
  have hh : w.heap.modify blk (Go.Sort.onCells (Go.Sort.putCells (Value.int .u64) off L.toArray)) = w.heap.setIfInBounds blk (.cells (setMany c off (L.map (Value.int .u64))) e (0, 0)) := by
    apply Array.ext_getElem?
    intro k
    rw [Array.getElem?_modify]
    by_cases hk : blk = k
    · subst hk
      obtain ⟨hb, hg⟩ := Array.getElem?_eq_some_iff.1 hw
      simp [Go.Sort.onCells, hb, hg, putRow_many L c off hL]
    · simp [hk]
  simp [hh]
theorem merge_sortI (l : List Int) : (l.mergeSort fun x y => decide (x ≤ y)) = sortI l := by
  refine asc_perm ?_ (sortI_asc l) ((List.mergeSort_perm l _).trans (sortI_perm l).symm)
  have h := List.pairwise_mergeSort (le := fun x y : Int => decide (x ≤ y)) (fun a b c h1 h2 => by simp at *; omega) (fun a b => by simp; omega) l
  exact h.imp fun h => by simpa using h
end Go.Proofs.YtedmgpchggogpaaGreat.Lift

namespace Go.Proofs.YtedmgpchggogpaaGreat.Lift
open Go Go.Proofs.YtedmgpchggogpaaGreat.Gh Go.Proofs Go.Shelf
/-! ### slices.SortFunc's contract, laid over this program (the kit's lay-shelf and lay-plain print this text: for r12's seat alone) -/
def sortL_ren : Go.Shelf.Ren := ⟨fun | 6 => 54 | 15 => 95 | 14 => 94 | 28 => 136 | 29 => 137 | 20 => 128 | 21 => 129 | 22 => 130 | 23 => 131 | 24 => 132 | 25 => 133 | 26 => 134 | 27 => 135 | 46 => 169 | 47 => 170 | 48 => 171 | 49 => 172 | 50 => 173 | 57 => 211 | n => n, fun | 22 => 22 | 24 => 23 | 25 => 92 | 3 => 3 | 39 => 159 | 0 => 0 | 53 => 211 | 55 => 23 | 4 => 4 | 46 => 205 | 45 => 204 | 50 => 26 | 5 => 5 | 9 => 9 | 66 => 265 | 70 => 268 | 76 => 308 | 77 => 309 | n => n, fun | n => n⟩
theorem sortL : Go.Proofs.SlLaysF.n6 Tryz.prog sortL_ren := {
  mixed := by kernel_rfl
  f6 := ⟨Tryz.f54.name, by decide, Tryz.func54.trans (congrArg some (by kernel_rfl))⟩
  f14 := ⟨Tryz.f94.name, by decide, Tryz.func94.trans (congrArg some (by kernel_rfl))⟩
  f15 := Tryz.func95.trans (congrArg some (by kernel_rfl))
  f20 := ⟨Tryz.f128.name, by decide, Tryz.func128.trans (congrArg some (by kernel_rfl))⟩
  f21 := ⟨Tryz.f129.name, by decide, Tryz.func129.trans (congrArg some (by kernel_rfl))⟩
  f22 := ⟨Tryz.f130.name, by decide, Tryz.func130.trans (congrArg some (by kernel_rfl))⟩
  f23 := ⟨Tryz.f131.name, by decide, Tryz.func131.trans (congrArg some (by kernel_rfl))⟩
  f24 := ⟨Tryz.f132.name, by decide, Tryz.func132.trans (congrArg some (by kernel_rfl))⟩
  f25 := ⟨Tryz.f133.name, by decide, Tryz.func133.trans (congrArg some (by kernel_rfl))⟩
  f26 := ⟨Tryz.f134.name, by decide, Tryz.func134.trans (congrArg some (by kernel_rfl))⟩
  f27 := ⟨Tryz.f135.name, by decide, Tryz.func135.trans (congrArg some (by kernel_rfl))⟩
  f28 := Tryz.func136.trans (congrArg some (by kernel_rfl))
  f29 := Tryz.func137.trans (congrArg some (by kernel_rfl))
  f46 := ⟨Tryz.f169.name, by decide, Tryz.func169.trans (congrArg some (by kernel_rfl))⟩
  f47 := Tryz.func170.trans (congrArg some (by kernel_rfl))
  f48 := Tryz.func171.trans (congrArg some (by kernel_rfl))
  f49 := ⟨Tryz.f172.name, by decide, Tryz.func172.trans (congrArg some (by kernel_rfl))⟩
  f50 := ⟨Tryz.f173.name, by decide, Tryz.func173.trans (congrArg some (by kernel_rfl))⟩
  f57 := ⟨Tryz.f211.name, by decide, Tryz.func211.trans (congrArg some (by kernel_rfl))⟩
  t0 := Tryz.underlying0
  a0 := Tryz.isAgg0
  z0 := Tryz.sizeOf0
  v0 := Tryz.zeroValue0
  t3 := Tryz.underlying3
  a3 := Tryz.isAgg3
  z3 := Tryz.sizeOf3
  v3 := Tryz.zeroValue3
  t4 := Tryz.underlying4
  a4 := Tryz.isAgg4
  z4 := Tryz.sizeOf4
  v4 := Tryz.zeroValue4
  t5 := Tryz.underlying5
  a5 := Tryz.isAgg5
  z5 := Tryz.sizeOf5
  v5 := Tryz.zeroValue5
  t9 := Tryz.underlying9
  a9 := Tryz.isAgg9
  z9 := Tryz.sizeOf9
  v9 := Tryz.zeroValue9
  t22 := Tryz.underlying22
  a22 := Tryz.isAgg22
  z22 := Tryz.sizeOf22
  v22 := Tryz.zeroValue22
  a24 := Tryz.isAgg23
  z24 := Tryz.sizeOf23
  t25 := Tryz.underlying92
  a25 := Tryz.isAgg92
  z25 := Tryz.sizeOf92
  v25 := Tryz.zeroValue92
  t39 := Tryz.underlying159
  a39 := Tryz.isAgg159
  z39 := Tryz.sizeOf159
  v39 := Tryz.zeroValue159
  t45 := Tryz.underlying204
  a45 := Tryz.isAgg204
  z45 := Tryz.sizeOf204
  v45 := Tryz.zeroValue204
  t46 := Tryz.underlying205
  a46 := Tryz.isAgg205
  z46 := Tryz.sizeOf205
  v46 := Tryz.zeroValue205
  t50 := Tryz.underlying26
  a50 := Tryz.isAgg26
  z50 := Tryz.sizeOf26
  v50 := Tryz.zeroValue26
  t53 := Tryz.underlying211
  a53 := Tryz.isAgg211
  z53 := Tryz.sizeOf211
  v53 := Tryz.zeroValue211
  t55 := Tryz.underlying23
  a55 := Tryz.isAgg23
  z55 := Tryz.sizeOf23
  v55 := Tryz.zeroValue23
  t66 := Tryz.underlying265
  a66 := Tryz.isAgg265
  z66 := Tryz.sizeOf265
  v66 := Tryz.zeroValue265
  t70 := Tryz.underlying268
  a70 := Tryz.isAgg268
  z70 := Tryz.sizeOf268
  v70 := Tryz.zeroValue268
  t76 := Tryz.underlying308
  a76 := Tryz.isAgg308
  z76 := Tryz.sizeOf308
  v76 := Tryz.zeroValue308
  t77 := Tryz.underlying309
  a77 := Tryz.isAgg309
  z77 := Tryz.sizeOf309
  v77 := Tryz.zeroValue309 }
end Go.Proofs.YtedmgpchggogpaaGreat.Lift

set_option linter.unusedVariables false
namespace Go.Proofs.YtedmgpchggogpaaGreat.Lift
open Go Go.Proofs.YtedmgpchggogpaaGreat.Gh Go.Proofs Go.Shelf Go.RowKit Go.Lib Go.Sort
/-! ### What slices.SortFunc does in the model: NOT BUILT YET (the kit's Shelf was not compiled) -/
theorem ltU (x y : Int) : ltOf cmpI x y = decide (x < y) := by
  unfold ltOf cmpI
  by_cases h1 : x < y
  · simp [h1]
  · by_cases h2 : y < x <;> simp [h1, h2]
theorem swoU : SWO (ltOf cmpI) where
  irrefl x := by rw [ltU]; simp
  trans x y z h1 h2 := by rw [ltU] at *; simp at *; omega
  ntrans x y z h1 h2 := by rw [ltU] at *; simp at *; omega
theorem totU (x y : Int) (h1 : ltOf cmpI x y = false) (h2 : ltOf cmpI y x = false) : x = y := by rw [ltU] at *; simp at *; omega
theorem leU : (fun x y : Int => !ltOf cmpI y x) = fun x y => decide (x ≤ y) := by
  funext x y
  rw [ltU]
  by_cases h : x ≤ y
  · have h' : ¬ y < x := by omega
    simp [h, h']
  · have h' : y < x := by omega
    simp [h, h']
theorem isNaN_u (x : Int) (w : World) : Calls Tryz.prog 93 #[.int .u64 x] w fun e w' => e = .returned (.bool false) ∧ w' = w := by
  go_enter Tryz.func93, Tryz.ntmps93
  go_wp2
  go_ret
  exact ⟨by simp, rfl⟩
set_option maxHeartbeats 1000000 in
theorem compare_u (x y : Int) (w : World) : Calls Tryz.prog 53 #[.int .u64 x, .int .u64 y] w fun e w' => e = .returned (.int .i64 (cmpI x y)) ∧ w' = w := by
  go_enter Tryz.func53, Tryz.ntmps53
  go_wp2_with (go_at_call 93; refine (isNaN_u _ _).mono ?_; rintro e w' ⟨rfl, hw⟩; rw [hw])
  all_goals (go_ret; refine ⟨?_, rfl⟩; unfold cmpI; (repeat' split) <;> first | rfl | (exfalso; omega))
theorem cmpReadsU (blk off size : Nat) (w : World) : CmpReads Tryz.prog 53 #[] (Value.int .u64) cmpI blk off size w := fun _ _ _ _ x y => (compare_u x y _).mono fun _ _ ⟨h1, h2⟩ => ⟨h1, 0, h2⟩
theorem sortOk : SortOk Tryz.prog := by
  intro fn hf
  have eg : ∀ args w, (callFunc 53 args).run Tryz.prog w = .ok (.enter 53 args) w := enters_of Tryz.func53 (by kernel_rfl) rfl
  have hfn : Tryz.prog.funcs[sortF]? = some Tryz.f54 := Tryz.func54
  rw [hfn] at hf
  cases hf
  refine ⟨by kernel_rfl, by kernel_rfl, fun w p cap => ?_, fun w blk off cap L c e hw hL hc h0 h62 => ?_⟩
  · exact AnyF.slices_SortFunc_none (P := Tryz.prog) (ρ := sortL_ren) { sortL with } p cap (.func (.func sortC) #[] #[]) w
  · have hH : Go.Sort.Holds (Value.int .u64) w blk off L.toArray := fun j hj => by
      simp at hj
      have h1 := hc j (.int .u64 L[j]) (by simp [hj])
      refine ⟨?_, ?_⟩
      · simp [World.cell?, hw, h1, hj]
      · simp [World.frozen?, hw]
    have hb : blk < w.heap.size := (Array.getElem?_eq_some_iff.1 hw).1
    have hS := Any.slices_SortFunc_total sortL (Value.int .u64) (fun _ => rfl) cmpI swoU 53 #[] blk off cap L.toArray w eg (cmpReadsU blk off L.toArray.size w).lays hH hb (by simpa using h62) totU
    rw [leU] at hS
    simp only [List.size_toArray, merge_sortI] at hS
    refine hS.mono ?_
    rintro r w' ⟨rfl, n, os, rfl⟩
    refine ⟨rfl, os.toList, w.drawn + n, ?_⟩
    rw [← sort_world hw (sortI L) (by rw [(sortI_perm L).length_eq]; exact hL) n os]
    rfl
end Go.Proofs.YtedmgpchggogpaaGreat.Lift

