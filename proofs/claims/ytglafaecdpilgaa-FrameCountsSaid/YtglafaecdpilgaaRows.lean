/-
  No cell of these rows narrows 'for every input' (looked for: loops, veiled, ifaces, maps, wideKeys, modest, calm, conditions, laid).
  DERIVED. THE GIVEN ROWS OF THIS SEAT. 10 by the template 'for every input the law returns true; each argument reads behind the call as it read before'; 0 by the template 'total and deterministic' (their statements: YtglafaecdpilgaaTotals.lean).
  GIVEN WITH THE SEED: the statements are not yours to turn. If you find one false, say at which input.
  Laid BY PROGRAM, IN A SANDBOX (cutbox-rows.mjs): the forced cells as the released guide's own fill.sh prints them over the translation f7ba444e867c91c2… (all of the seat's roots in one cut). By AI agents, Wed Nov 11 2026. No macro, syntax, notation, axiom, sorry.
-/
import Derived.Test.YtglafaecdpilgaaChecked
import GoSem.Claim
import GoSem.ClaimJoined
import GoSem.ClaimMapViews
import Derived.JoinedTies
import Derived.KernelRfl
namespace Go.Proofs.Ytglafaecdpilgaa
/- THE CELL 'sum', in the pinned program and in every row, IS THE sha256 OF THE DUMP (.gsa) THAT YtglafaecdpilgaaProg.lean LOADS. Nothing in Lean hashes anything: it is a label: what it is worth is what the hold of that sum in a sandbox is worth. -/
noncomputable def Try.pinned : Pinned := { name := "ytglafaecdpilgaa", sum := "f7ba444e867c91c2532d4f76d9ec7c83d97757f789fd7b3d9f70c775f94101aa", checked := Try.checked }
namespace Rows
def none {H : Type} : Left H := { results := [], args := [] }

/-- 'coxswainlaw07.HeapNext': WHATEVER THE INPUT: true; the input reads as it did. -/
def heapNextSpec : ChangeSpec := { name := "heapNext", fn := fun _ => fun
  | [d1, d2, d3] => { results := [.lit (.bool true)], args := [d1, d2, d3] }
  | _ => none }
def heapNextRow : OpenClaim := { program := "ytglafaecdpilgaa", sum := "f7ba444e867c91c2532d4f76d9ec7c83d97757f789fd7b3d9f70c775f94101aa", func := "coxswain/coxswainlaw07.HeapNext", spec := "heapNext", unfollowed := true, recurses := true, apart := false }
def HeapNextSaid : Prop := heapNextRow.holds Try.pinned (OpenSpec.ofChange heapNextSpec)

/-- ITS FALSE NEIGHBOUR: 'it returns false'. Refute it at one input. -/
def heapNextWrong : ChangeSpec := { name := "heapNext", fn := fun _ => fun
  | [d1, d2, d3] => { results := [.lit (.bool false)], args := [d1, d2, d3] }
  | _ => none }
def HeapNextWrongFalsely : Prop := heapNextRow.holds Try.pinned (OpenSpec.ofChange heapNextWrong)

/-- 'coxswainlaw07.HeapFull': WHATEVER THE INPUT: true; the input reads as it did. -/
def heapFullSpec : ChangeSpec := { name := "heapFull", fn := fun _ => fun
  | [d1, d2] => { results := [.lit (.bool true)], args := [d1, d2] }
  | _ => none }
def heapFullRow : OpenClaim := { program := "ytglafaecdpilgaa", sum := "f7ba444e867c91c2532d4f76d9ec7c83d97757f789fd7b3d9f70c775f94101aa", func := "coxswain/coxswainlaw07.HeapFull", spec := "heapFull", unfollowed := true, recurses := true, apart := false }
def HeapFullSaid : Prop := heapFullRow.holds Try.pinned (OpenSpec.ofChange heapFullSpec)

/-- ITS FALSE NEIGHBOUR: 'it returns false'. Refute it at one input. -/
def heapFullWrong : ChangeSpec := { name := "heapFull", fn := fun _ => fun
  | [d1, d2] => { results := [.lit (.bool false)], args := [d1, d2] }
  | _ => none }
def HeapFullWrongFalsely : Prop := heapFullRow.holds Try.pinned (OpenSpec.ofChange heapFullWrong)

/-- 'coxswainlaw07.HeapPlaces': WHATEVER THE INPUT: true; the input reads as it did. -/
def heapPlacesSpec : ChangeSpec := { name := "heapPlaces", fn := fun _ => fun
  | [d1, d2, d3] => { results := [.lit (.bool true)], args := [d1, d2, d3] }
  | _ => none }
def heapPlacesRow : OpenClaim := { program := "ytglafaecdpilgaa", sum := "f7ba444e867c91c2532d4f76d9ec7c83d97757f789fd7b3d9f70c775f94101aa", func := "coxswain/coxswainlaw07.HeapPlaces", spec := "heapPlaces", unfollowed := true, recurses := true, apart := false }
def HeapPlacesSaid : Prop := heapPlacesRow.holds Try.pinned (OpenSpec.ofChange heapPlacesSpec)

/-- ITS FALSE NEIGHBOUR: 'it returns false'. Refute it at one input. -/
def heapPlacesWrong : ChangeSpec := { name := "heapPlaces", fn := fun _ => fun
  | [d1, d2, d3] => { results := [.lit (.bool false)], args := [d1, d2, d3] }
  | _ => none }
def HeapPlacesWrongFalsely : Prop := heapPlacesRow.holds Try.pinned (OpenSpec.ofChange heapPlacesWrong)

/-- 'coxswainlaw07.HeapKnown': WHATEVER THE INPUT: true; the input reads as it did. -/
def heapKnownSpec : ChangeSpec := { name := "heapKnown", fn := fun _ => fun
  | [] => { results := [.lit (.bool true)], args := [] }
  | _ => none }
def heapKnownRow : OpenClaim := { program := "ytglafaecdpilgaa", sum := "f7ba444e867c91c2532d4f76d9ec7c83d97757f789fd7b3d9f70c775f94101aa", func := "coxswain/coxswainlaw07.HeapKnown", spec := "heapKnown", unfollowed := true, recurses := true, apart := false }
def HeapKnownSaid : Prop := heapKnownRow.holds Try.pinned (OpenSpec.ofChange heapKnownSpec)

/-- ITS FALSE NEIGHBOUR: 'it returns false'. Refute it at one input. -/
def heapKnownWrong : ChangeSpec := { name := "heapKnown", fn := fun _ => fun
  | [] => { results := [.lit (.bool false)], args := [] }
  | _ => none }
def HeapKnownWrongFalsely : Prop := heapKnownRow.holds Try.pinned (OpenSpec.ofChange heapKnownWrong)

/-- 'coxswainlaw07.HeapGoes': WHATEVER THE INPUT: true; the input reads as it did. -/
def heapGoesSpec : ChangeSpec := { name := "heapGoes", fn := fun _ => fun
  | [d1, d2, d3] => { results := [.lit (.bool true)], args := [d1, d2, d3] }
  | _ => none }
def heapGoesRow : OpenClaim := { program := "ytglafaecdpilgaa", sum := "f7ba444e867c91c2532d4f76d9ec7c83d97757f789fd7b3d9f70c775f94101aa", func := "coxswain/coxswainlaw07.HeapGoes", spec := "heapGoes", unfollowed := true, recurses := true, apart := false }
def HeapGoesSaid : Prop := heapGoesRow.holds Try.pinned (OpenSpec.ofChange heapGoesSpec)

/-- ITS FALSE NEIGHBOUR: 'it returns false'. Refute it at one input. -/
def heapGoesWrong : ChangeSpec := { name := "heapGoes", fn := fun _ => fun
  | [d1, d2, d3] => { results := [.lit (.bool false)], args := [d1, d2, d3] }
  | _ => none }
def HeapGoesWrongFalsely : Prop := heapGoesRow.holds Try.pinned (OpenSpec.ofChange heapGoesWrong)

/-- 'coxswainlaw07.HeapSorts': WHATEVER THE INPUT: true; the input reads as it did. -/
def heapSortsSpec : ChangeSpec := { name := "heapSorts", fn := fun _ => fun
  | [d] => { results := [.lit (.bool true)], args := [d] }
  | _ => none }
def heapSortsRow : OpenClaim := { program := "ytglafaecdpilgaa", sum := "f7ba444e867c91c2532d4f76d9ec7c83d97757f789fd7b3d9f70c775f94101aa", func := "coxswain/coxswainlaw07.HeapSorts", spec := "heapSorts", unfollowed := true, recurses := true, apart := false }
def HeapSortsSaid : Prop := heapSortsRow.holds Try.pinned (OpenSpec.ofChange heapSortsSpec)

/-- ITS FALSE NEIGHBOUR: 'it returns false'. Refute it at one input. -/
def heapSortsWrong : ChangeSpec := { name := "heapSorts", fn := fun _ => fun
  | [d] => { results := [.lit (.bool false)], args := [d] }
  | _ => none }
def HeapSortsWrongFalsely : Prop := heapSortsRow.holds Try.pinned (OpenSpec.ofChange heapSortsWrong)

/-- 'coxswainlaw04.FrameActs': WHATEVER THE INPUT: true; the input reads as it did. -/
def frameActsSpec : ChangeSpec := { name := "frameActs", fn := fun _ => fun
  | [d1, d2] => { results := [.lit (.bool true)], args := [d1, d2] }
  | _ => none }
def frameActsRow : OpenClaim := { program := "ytglafaecdpilgaa", sum := "f7ba444e867c91c2532d4f76d9ec7c83d97757f789fd7b3d9f70c775f94101aa", func := "coxswain/coxswainlaw04.FrameActs", spec := "frameActs", unfollowed := true, recurses := true, apart := false }
def FrameActsSaid : Prop := frameActsRow.holds Try.pinned (OpenSpec.ofChange frameActsSpec)

/-- ITS FALSE NEIGHBOUR: 'it returns false'. Refute it at one input. -/
def frameActsWrong : ChangeSpec := { name := "frameActs", fn := fun _ => fun
  | [d1, d2] => { results := [.lit (.bool false)], args := [d1, d2] }
  | _ => none }
def FrameActsWrongFalsely : Prop := frameActsRow.holds Try.pinned (OpenSpec.ofChange frameActsWrong)

/-- 'coxswainlaw04.FrameNone': WHATEVER THE INPUT: true; the input reads as it did. -/
def frameNoneSpec : ChangeSpec := { name := "frameNone", fn := fun _ => fun
  | [d1, d2] => { results := [.lit (.bool true)], args := [d1, d2] }
  | _ => none }
def frameNoneRow : OpenClaim := { program := "ytglafaecdpilgaa", sum := "f7ba444e867c91c2532d4f76d9ec7c83d97757f789fd7b3d9f70c775f94101aa", func := "coxswain/coxswainlaw04.FrameNone", spec := "frameNone", unfollowed := true, recurses := true, apart := false }
def FrameNoneSaid : Prop := frameNoneRow.holds Try.pinned (OpenSpec.ofChange frameNoneSpec)

/-- ITS FALSE NEIGHBOUR: 'it returns false'. Refute it at one input. -/
def frameNoneWrong : ChangeSpec := { name := "frameNone", fn := fun _ => fun
  | [d1, d2] => { results := [.lit (.bool false)], args := [d1, d2] }
  | _ => none }
def FrameNoneWrongFalsely : Prop := frameNoneRow.holds Try.pinned (OpenSpec.ofChange frameNoneWrong)

/-- 'coxswainlaw04.FrameKnown': WHATEVER THE INPUT: true; the input reads as it did. -/
def frameKnownSpec : ChangeSpec := { name := "frameKnown", fn := fun _ => fun
  | [] => { results := [.lit (.bool true)], args := [] }
  | _ => none }
def frameKnownRow : OpenClaim := { program := "ytglafaecdpilgaa", sum := "f7ba444e867c91c2532d4f76d9ec7c83d97757f789fd7b3d9f70c775f94101aa", func := "coxswain/coxswainlaw04.FrameKnown", spec := "frameKnown", unfollowed := true, recurses := true, apart := false }
def FrameKnownSaid : Prop := frameKnownRow.holds Try.pinned (OpenSpec.ofChange frameKnownSpec)

/-- ITS FALSE NEIGHBOUR: 'it returns false'. Refute it at one input. -/
def frameKnownWrong : ChangeSpec := { name := "frameKnown", fn := fun _ => fun
  | [] => { results := [.lit (.bool false)], args := [] }
  | _ => none }
def FrameKnownWrongFalsely : Prop := frameKnownRow.holds Try.pinned (OpenSpec.ofChange frameKnownWrong)

/-- 'coxswainlaw04.FrameCounts': WHATEVER THE INPUT: true; the input reads as it did. -/
def frameCountsSpec : ChangeSpec := { name := "frameCounts", fn := fun _ => fun
  | [d1, d2] => { results := [.lit (.bool true)], args := [d1, d2] }
  | _ => none }
def frameCountsRow : OpenClaim := { program := "ytglafaecdpilgaa", sum := "f7ba444e867c91c2532d4f76d9ec7c83d97757f789fd7b3d9f70c775f94101aa", func := "coxswain/coxswainlaw04.FrameCounts", spec := "frameCounts", unfollowed := true, recurses := true, apart := false }
def FrameCountsSaid : Prop := frameCountsRow.holds Try.pinned (OpenSpec.ofChange frameCountsSpec)

/-- ITS FALSE NEIGHBOUR: 'it returns false'. Refute it at one input. -/
def frameCountsWrong : ChangeSpec := { name := "frameCounts", fn := fun _ => fun
  | [d1, d2] => { results := [.lit (.bool false)], args := [d1, d2] }
  | _ => none }
def FrameCountsWrongFalsely : Prop := frameCountsRow.holds Try.pinned (OpenSpec.ofChange frameCountsWrong)

/- THE SECOND FORM. 'bulk': how many values and letters a reading holds, each counted each time it is reached (what is shared counts as often as it is met; a slice's spare places count too). A statement '..UptoSaid' is the law's where the arguments, and the package variables that the reading takes, are together of bulk at most 1048576: NARROWER than '..Said'. Prove '..Said' where nothing that the law and all that it calls make is longer than what came in: it says more and counts as full. Else prove '..UptoSaid'. A law counts once. -/
mutual
def uptoBulk {H : Type} : DataW H → Nat
  | .lit (.string bytes) => bytes.length + 1
  | .lit _ => 1
  | .nil => 1
  | .ptr d => uptoBulk d + 1
  | .slice elems spare => uptoBulkAll elems + uptoBulkAll spare + 1
  | .agg parts => uptoBulkAll parts + 1
  | .iface _ d => uptoBulk d + 1
  | .map entries => uptoBulkEntries entries + 1
  | .held _ => 1
def uptoBulkAll {H : Type} : List (DataW H) → Nat
  | [] => 0
  | d :: r => uptoBulk d + uptoBulkAll r
def uptoBulkEntries {H : Type} : List (Lit × DataW H) → Nat
  | [] => 0
  | x :: r => uptoBulkEntry x + uptoBulkEntries r
def uptoBulkEntry {H : Type} : Lit × DataW H → Nat
  | (.string bytes, d) => bytes.length + uptoBulk d + 1
  | (_, d) => uptoBulk d + 1
 end
def uptoSmall : (H : Type) → List (DataW H) → Bool := fun _ ds => decide (uptoBulkAll ds ≤ 1048576)
def OpenSpec.upto (s : _root_.Go.ChangeSpec) : _root_.Go.OpenSpec := { _root_.Go.OpenSpec.ofChange s with cond := some uptoSmall }

/-- 'coxswainlaw07.HeapNext', WHERE WHAT IT READS IS OF BULK AT MOST 1048576: true; the input reads as it did. -/
def heapNextUptoRow : OpenClaim := { program := "ytglafaecdpilgaa", sum := "f7ba444e867c91c2532d4f76d9ec7c83d97757f789fd7b3d9f70c775f94101aa", func := "coxswain/coxswainlaw07.HeapNext", spec := "heapNext", unfollowed := true, recurses := true, apart := false, narrowed := true }
def HeapNextUptoSaid : Prop := heapNextUptoRow.holds Try.pinned (OpenSpec.upto heapNextSpec)

/-- 'coxswainlaw07.HeapFull', WHERE WHAT IT READS IS OF BULK AT MOST 1048576: true; the input reads as it did. -/
def heapFullUptoRow : OpenClaim := { program := "ytglafaecdpilgaa", sum := "f7ba444e867c91c2532d4f76d9ec7c83d97757f789fd7b3d9f70c775f94101aa", func := "coxswain/coxswainlaw07.HeapFull", spec := "heapFull", unfollowed := true, recurses := true, apart := false, narrowed := true }
def HeapFullUptoSaid : Prop := heapFullUptoRow.holds Try.pinned (OpenSpec.upto heapFullSpec)

/-- 'coxswainlaw07.HeapPlaces', WHERE WHAT IT READS IS OF BULK AT MOST 1048576: true; the input reads as it did. -/
def heapPlacesUptoRow : OpenClaim := { program := "ytglafaecdpilgaa", sum := "f7ba444e867c91c2532d4f76d9ec7c83d97757f789fd7b3d9f70c775f94101aa", func := "coxswain/coxswainlaw07.HeapPlaces", spec := "heapPlaces", unfollowed := true, recurses := true, apart := false, narrowed := true }
def HeapPlacesUptoSaid : Prop := heapPlacesUptoRow.holds Try.pinned (OpenSpec.upto heapPlacesSpec)

/-- 'coxswainlaw07.HeapKnown', WHERE WHAT IT READS IS OF BULK AT MOST 1048576: true; the input reads as it did. -/
def heapKnownUptoRow : OpenClaim := { program := "ytglafaecdpilgaa", sum := "f7ba444e867c91c2532d4f76d9ec7c83d97757f789fd7b3d9f70c775f94101aa", func := "coxswain/coxswainlaw07.HeapKnown", spec := "heapKnown", unfollowed := true, recurses := true, apart := false, narrowed := true }
def HeapKnownUptoSaid : Prop := heapKnownUptoRow.holds Try.pinned (OpenSpec.upto heapKnownSpec)

/-- 'coxswainlaw07.HeapGoes', WHERE WHAT IT READS IS OF BULK AT MOST 1048576: true; the input reads as it did. -/
def heapGoesUptoRow : OpenClaim := { program := "ytglafaecdpilgaa", sum := "f7ba444e867c91c2532d4f76d9ec7c83d97757f789fd7b3d9f70c775f94101aa", func := "coxswain/coxswainlaw07.HeapGoes", spec := "heapGoes", unfollowed := true, recurses := true, apart := false, narrowed := true }
def HeapGoesUptoSaid : Prop := heapGoesUptoRow.holds Try.pinned (OpenSpec.upto heapGoesSpec)

/-- 'coxswainlaw07.HeapSorts', WHERE WHAT IT READS IS OF BULK AT MOST 1048576: true; the input reads as it did. -/
def heapSortsUptoRow : OpenClaim := { program := "ytglafaecdpilgaa", sum := "f7ba444e867c91c2532d4f76d9ec7c83d97757f789fd7b3d9f70c775f94101aa", func := "coxswain/coxswainlaw07.HeapSorts", spec := "heapSorts", unfollowed := true, recurses := true, apart := false, narrowed := true }
def HeapSortsUptoSaid : Prop := heapSortsUptoRow.holds Try.pinned (OpenSpec.upto heapSortsSpec)

/-- 'coxswainlaw04.FrameActs', WHERE WHAT IT READS IS OF BULK AT MOST 1048576: true; the input reads as it did. -/
def frameActsUptoRow : OpenClaim := { program := "ytglafaecdpilgaa", sum := "f7ba444e867c91c2532d4f76d9ec7c83d97757f789fd7b3d9f70c775f94101aa", func := "coxswain/coxswainlaw04.FrameActs", spec := "frameActs", unfollowed := true, recurses := true, apart := false, narrowed := true }
def FrameActsUptoSaid : Prop := frameActsUptoRow.holds Try.pinned (OpenSpec.upto frameActsSpec)

/-- 'coxswainlaw04.FrameNone', WHERE WHAT IT READS IS OF BULK AT MOST 1048576: true; the input reads as it did. -/
def frameNoneUptoRow : OpenClaim := { program := "ytglafaecdpilgaa", sum := "f7ba444e867c91c2532d4f76d9ec7c83d97757f789fd7b3d9f70c775f94101aa", func := "coxswain/coxswainlaw04.FrameNone", spec := "frameNone", unfollowed := true, recurses := true, apart := false, narrowed := true }
def FrameNoneUptoSaid : Prop := frameNoneUptoRow.holds Try.pinned (OpenSpec.upto frameNoneSpec)

/-- 'coxswainlaw04.FrameKnown', WHERE WHAT IT READS IS OF BULK AT MOST 1048576: true; the input reads as it did. -/
def frameKnownUptoRow : OpenClaim := { program := "ytglafaecdpilgaa", sum := "f7ba444e867c91c2532d4f76d9ec7c83d97757f789fd7b3d9f70c775f94101aa", func := "coxswain/coxswainlaw04.FrameKnown", spec := "frameKnown", unfollowed := true, recurses := true, apart := false, narrowed := true }
def FrameKnownUptoSaid : Prop := frameKnownUptoRow.holds Try.pinned (OpenSpec.upto frameKnownSpec)

/-- 'coxswainlaw04.FrameCounts', WHERE WHAT IT READS IS OF BULK AT MOST 1048576: true; the input reads as it did. -/
def frameCountsUptoRow : OpenClaim := { program := "ytglafaecdpilgaa", sum := "f7ba444e867c91c2532d4f76d9ec7c83d97757f789fd7b3d9f70c775f94101aa", func := "coxswain/coxswainlaw04.FrameCounts", spec := "frameCounts", unfollowed := true, recurses := true, apart := false, narrowed := true }
def FrameCountsUptoSaid : Prop := frameCountsUptoRow.holds Try.pinned (OpenSpec.upto frameCountsSpec)

end Rows
end Go.Proofs.Ytglafaecdpilgaa
