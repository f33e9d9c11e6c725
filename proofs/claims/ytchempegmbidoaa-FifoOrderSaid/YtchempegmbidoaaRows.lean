/-
  No cell of these rows narrows 'for every input' (looked for: loops, veiled, ifaces, maps, wideKeys, modest, calm, conditions, laid).
  DERIVED. THE GIVEN ROWS OF THIS SEAT. 11 by the template 'for every input the law returns true; each argument reads behind the call as it read before'; 0 by the template 'total and deterministic' (their statements: YtchempegmbidoaaTotals.lean).
  GIVEN WITH THE SEED: the statements are not yours to turn. If you find one false, say at which input.
  Laid BY PROGRAM, IN A SANDBOX (cutbox-rows.mjs): the forced cells as the released guide's own fill.sh prints them over the translation b3b20f49a0ad36b4… (all of the seat's roots in one cut). By AI agents, Wed Nov 11 2026. No macro, syntax, notation, axiom, sorry.
-/
import Derived.Test.YtchempegmbidoaaChecked
import GoSem.Claim
import GoSem.ClaimJoined
import GoSem.ClaimMapViews
import Derived.JoinedTies
import Derived.KernelRfl
namespace Go.Proofs.Ytchempegmbidoaa
/- THE CELL 'sum', in the pinned program and in every row, IS THE sha256 OF THE DUMP (.gsa) THAT YtchempegmbidoaaProg.lean LOADS. Nothing in Lean hashes anything: it is a label: what it is worth is what the hold of that sum in a sandbox is worth. -/
noncomputable def Try.pinned : Pinned := { name := "ytchempegmbidoaa", sum := "b3b20f49a0ad36b4c9c8c085178e1d9eb1b9c20dcd66809ccb6bb386280dc2db", checked := Try.checked }
namespace Rows
def none {H : Type} : Left H := { results := [], args := [] }

/-- 'coxswainlaw03.DrawHeights': WHATEVER THE INPUT: true; the input reads as it did. -/
def drawHeightsSpec : ChangeSpec := { name := "drawHeights", fn := fun _ => fun
  | [d1, d2] => { results := [.lit (.bool true)], args := [d1, d2] }
  | _ => none }
def drawHeightsRow : OpenClaim := { program := "ytchempegmbidoaa", sum := "b3b20f49a0ad36b4c9c8c085178e1d9eb1b9c20dcd66809ccb6bb386280dc2db", func := "coxswain/coxswainlaw03.DrawHeights", spec := "drawHeights", unfollowed := true, recurses := true, apart := false }
def DrawHeightsSaid : Prop := drawHeightsRow.holds Try.pinned (OpenSpec.ofChange drawHeightsSpec)

/-- ITS FALSE NEIGHBOUR: 'it returns false'. Refute it at one input. -/
def drawHeightsWrong : ChangeSpec := { name := "drawHeights", fn := fun _ => fun
  | [d1, d2] => { results := [.lit (.bool false)], args := [d1, d2] }
  | _ => none }
def DrawHeightsWrongFalsely : Prop := drawHeightsRow.holds Try.pinned (OpenSpec.ofChange drawHeightsWrong)

/-- 'coxswainlaw03.DrawActs': WHATEVER THE INPUT: true; the input reads as it did. -/
def drawActsSpec : ChangeSpec := { name := "drawActs", fn := fun _ => fun
  | [d1, d2] => { results := [.lit (.bool true)], args := [d1, d2] }
  | _ => none }
def drawActsRow : OpenClaim := { program := "ytchempegmbidoaa", sum := "b3b20f49a0ad36b4c9c8c085178e1d9eb1b9c20dcd66809ccb6bb386280dc2db", func := "coxswain/coxswainlaw03.DrawActs", spec := "drawActs", unfollowed := true, recurses := true, apart := false }
def DrawActsSaid : Prop := drawActsRow.holds Try.pinned (OpenSpec.ofChange drawActsSpec)

/-- ITS FALSE NEIGHBOUR: 'it returns false'. Refute it at one input. -/
def drawActsWrong : ChangeSpec := { name := "drawActs", fn := fun _ => fun
  | [d1, d2] => { results := [.lit (.bool false)], args := [d1, d2] }
  | _ => none }
def DrawActsWrongFalsely : Prop := drawActsRow.holds Try.pinned (OpenSpec.ofChange drawActsWrong)

/-- 'coxswainlaw03.DrawNone': WHATEVER THE INPUT: true; the input reads as it did. -/
def drawNoneSpec : ChangeSpec := { name := "drawNone", fn := fun _ => fun
  | [d] => { results := [.lit (.bool true)], args := [d] }
  | _ => none }
def drawNoneRow : OpenClaim := { program := "ytchempegmbidoaa", sum := "b3b20f49a0ad36b4c9c8c085178e1d9eb1b9c20dcd66809ccb6bb386280dc2db", func := "coxswain/coxswainlaw03.DrawNone", spec := "drawNone", unfollowed := true, recurses := true, apart := false }
def DrawNoneSaid : Prop := drawNoneRow.holds Try.pinned (OpenSpec.ofChange drawNoneSpec)

/-- ITS FALSE NEIGHBOUR: 'it returns false'. Refute it at one input. -/
def drawNoneWrong : ChangeSpec := { name := "drawNone", fn := fun _ => fun
  | [d] => { results := [.lit (.bool false)], args := [d] }
  | _ => none }
def DrawNoneWrongFalsely : Prop := drawNoneRow.holds Try.pinned (OpenSpec.ofChange drawNoneWrong)

/-- 'coxswainlaw03.DrawKnown': WHATEVER THE INPUT: true; the input reads as it did. -/
def drawKnownSpec : ChangeSpec := { name := "drawKnown", fn := fun _ => fun
  | [] => { results := [.lit (.bool true)], args := [] }
  | _ => none }
def drawKnownRow : OpenClaim := { program := "ytchempegmbidoaa", sum := "b3b20f49a0ad36b4c9c8c085178e1d9eb1b9c20dcd66809ccb6bb386280dc2db", func := "coxswain/coxswainlaw03.DrawKnown", spec := "drawKnown", unfollowed := true, recurses := true, apart := false }
def DrawKnownSaid : Prop := drawKnownRow.holds Try.pinned (OpenSpec.ofChange drawKnownSpec)

/-- ITS FALSE NEIGHBOUR: 'it returns false'. Refute it at one input. -/
def drawKnownWrong : ChangeSpec := { name := "drawKnown", fn := fun _ => fun
  | [] => { results := [.lit (.bool false)], args := [] }
  | _ => none }
def DrawKnownWrongFalsely : Prop := drawKnownRow.holds Try.pinned (OpenSpec.ofChange drawKnownWrong)

/-- 'coxswainlaw03.DrawRange': WHATEVER THE INPUT: true; the input reads as it did. -/
def drawRangeSpec : ChangeSpec := { name := "drawRange", fn := fun _ => fun
  | [d1, d2, d3] => { results := [.lit (.bool true)], args := [d1, d2, d3] }
  | _ => none }
def drawRangeRow : OpenClaim := { program := "ytchempegmbidoaa", sum := "b3b20f49a0ad36b4c9c8c085178e1d9eb1b9c20dcd66809ccb6bb386280dc2db", func := "coxswain/coxswainlaw03.DrawRange", spec := "drawRange", unfollowed := true, recurses := true, apart := false }
def DrawRangeSaid : Prop := drawRangeRow.holds Try.pinned (OpenSpec.ofChange drawRangeSpec)

/-- ITS FALSE NEIGHBOUR: 'it returns false'. Refute it at one input. -/
def drawRangeWrong : ChangeSpec := { name := "drawRange", fn := fun _ => fun
  | [d1, d2, d3] => { results := [.lit (.bool false)], args := [d1, d2, d3] }
  | _ => none }
def DrawRangeWrongFalsely : Prop := drawRangeRow.holds Try.pinned (OpenSpec.ofChange drawRangeWrong)

/-- 'coxswainlaw03.DrawSkips': WHATEVER THE INPUT: true; the input reads as it did. -/
def drawSkipsSpec : ChangeSpec := { name := "drawSkips", fn := fun _ => fun
  | [d1, d2] => { results := [.lit (.bool true)], args := [d1, d2] }
  | _ => none }
def drawSkipsRow : OpenClaim := { program := "ytchempegmbidoaa", sum := "b3b20f49a0ad36b4c9c8c085178e1d9eb1b9c20dcd66809ccb6bb386280dc2db", func := "coxswain/coxswainlaw03.DrawSkips", spec := "drawSkips", unfollowed := true, recurses := true, apart := false }
def DrawSkipsSaid : Prop := drawSkipsRow.holds Try.pinned (OpenSpec.ofChange drawSkipsSpec)

/-- ITS FALSE NEIGHBOUR: 'it returns false'. Refute it at one input. -/
def drawSkipsWrong : ChangeSpec := { name := "drawSkips", fn := fun _ => fun
  | [d1, d2] => { results := [.lit (.bool false)], args := [d1, d2] }
  | _ => none }
def DrawSkipsWrongFalsely : Prop := drawSkipsRow.holds Try.pinned (OpenSpec.ofChange drawSkipsWrong)

/-- 'coxswainlaw06.FifoNext': WHATEVER THE INPUT: true; the input reads as it did. -/
def fifoNextSpec : ChangeSpec := { name := "fifoNext", fn := fun _ => fun
  | [d1, d2, d3, d4] => { results := [.lit (.bool true)], args := [d1, d2, d3, d4] }
  | _ => none }
def fifoNextRow : OpenClaim := { program := "ytchempegmbidoaa", sum := "b3b20f49a0ad36b4c9c8c085178e1d9eb1b9c20dcd66809ccb6bb386280dc2db", func := "coxswain/coxswainlaw06.FifoNext", spec := "fifoNext", unfollowed := true, recurses := true, apart := false }
def FifoNextSaid : Prop := fifoNextRow.holds Try.pinned (OpenSpec.ofChange fifoNextSpec)

/-- ITS FALSE NEIGHBOUR: 'it returns false'. Refute it at one input. -/
def fifoNextWrong : ChangeSpec := { name := "fifoNext", fn := fun _ => fun
  | [d1, d2, d3, d4] => { results := [.lit (.bool false)], args := [d1, d2, d3, d4] }
  | _ => none }
def FifoNextWrongFalsely : Prop := fifoNextRow.holds Try.pinned (OpenSpec.ofChange fifoNextWrong)

/-- 'coxswainlaw06.FifoPlays': WHATEVER THE INPUT: true; the input reads as it did. -/
def fifoPlaysSpec : ChangeSpec := { name := "fifoPlays", fn := fun _ => fun
  | [d1, d2] => { results := [.lit (.bool true)], args := [d1, d2] }
  | _ => none }
def fifoPlaysRow : OpenClaim := { program := "ytchempegmbidoaa", sum := "b3b20f49a0ad36b4c9c8c085178e1d9eb1b9c20dcd66809ccb6bb386280dc2db", func := "coxswain/coxswainlaw06.FifoPlays", spec := "fifoPlays", unfollowed := true, recurses := true, apart := false }
def FifoPlaysSaid : Prop := fifoPlaysRow.holds Try.pinned (OpenSpec.ofChange fifoPlaysSpec)

/-- ITS FALSE NEIGHBOUR: 'it returns false'. Refute it at one input. -/
def fifoPlaysWrong : ChangeSpec := { name := "fifoPlays", fn := fun _ => fun
  | [d1, d2] => { results := [.lit (.bool false)], args := [d1, d2] }
  | _ => none }
def FifoPlaysWrongFalsely : Prop := fifoPlaysRow.holds Try.pinned (OpenSpec.ofChange fifoPlaysWrong)

/-- 'coxswainlaw06.FifoKnown': WHATEVER THE INPUT: true; the input reads as it did. -/
def fifoKnownSpec : ChangeSpec := { name := "fifoKnown", fn := fun _ => fun
  | [] => { results := [.lit (.bool true)], args := [] }
  | _ => none }
def fifoKnownRow : OpenClaim := { program := "ytchempegmbidoaa", sum := "b3b20f49a0ad36b4c9c8c085178e1d9eb1b9c20dcd66809ccb6bb386280dc2db", func := "coxswain/coxswainlaw06.FifoKnown", spec := "fifoKnown", unfollowed := true, recurses := true, apart := false }
def FifoKnownSaid : Prop := fifoKnownRow.holds Try.pinned (OpenSpec.ofChange fifoKnownSpec)

/-- ITS FALSE NEIGHBOUR: 'it returns false'. Refute it at one input. -/
def fifoKnownWrong : ChangeSpec := { name := "fifoKnown", fn := fun _ => fun
  | [] => { results := [.lit (.bool false)], args := [] }
  | _ => none }
def FifoKnownWrongFalsely : Prop := fifoKnownRow.holds Try.pinned (OpenSpec.ofChange fifoKnownWrong)

/-- 'coxswainlaw06.FifoOrder': WHATEVER THE INPUT: true; the input reads as it did. -/
def fifoOrderSpec : ChangeSpec := { name := "fifoOrder", fn := fun _ => fun
  | [d1, d2] => { results := [.lit (.bool true)], args := [d1, d2] }
  | _ => none }
def fifoOrderRow : OpenClaim := { program := "ytchempegmbidoaa", sum := "b3b20f49a0ad36b4c9c8c085178e1d9eb1b9c20dcd66809ccb6bb386280dc2db", func := "coxswain/coxswainlaw06.FifoOrder", spec := "fifoOrder", unfollowed := true, recurses := true, apart := false }
def FifoOrderSaid : Prop := fifoOrderRow.holds Try.pinned (OpenSpec.ofChange fifoOrderSpec)

/-- ITS FALSE NEIGHBOUR: 'it returns false'. Refute it at one input. -/
def fifoOrderWrong : ChangeSpec := { name := "fifoOrder", fn := fun _ => fun
  | [d1, d2] => { results := [.lit (.bool false)], args := [d1, d2] }
  | _ => none }
def FifoOrderWrongFalsely : Prop := fifoOrderRow.holds Try.pinned (OpenSpec.ofChange fifoOrderWrong)

/-- 'coxswainlaw06.FifoOne': WHATEVER THE INPUT: true; the input reads as it did. -/
def fifoOneSpec : ChangeSpec := { name := "fifoOne", fn := fun _ => fun
  | [d1, d2, d3] => { results := [.lit (.bool true)], args := [d1, d2, d3] }
  | _ => none }
def fifoOneRow : OpenClaim := { program := "ytchempegmbidoaa", sum := "b3b20f49a0ad36b4c9c8c085178e1d9eb1b9c20dcd66809ccb6bb386280dc2db", func := "coxswain/coxswainlaw06.FifoOne", spec := "fifoOne", unfollowed := true, recurses := true, apart := false }
def FifoOneSaid : Prop := fifoOneRow.holds Try.pinned (OpenSpec.ofChange fifoOneSpec)

/-- ITS FALSE NEIGHBOUR: 'it returns false'. Refute it at one input. -/
def fifoOneWrong : ChangeSpec := { name := "fifoOne", fn := fun _ => fun
  | [d1, d2, d3] => { results := [.lit (.bool false)], args := [d1, d2, d3] }
  | _ => none }
def FifoOneWrongFalsely : Prop := fifoOneRow.holds Try.pinned (OpenSpec.ofChange fifoOneWrong)

/- THE SECOND FORM. 'bulk': how many values and letters a reading holds, each counted each time it is reached (what is shared counts as often as it is met; a slice's spare places count too). A statement '..UptoSaid' is the law's where the arguments, and the package variables that the reading takes, are together of bulk at most 1048576: NARROWER than '..Said'. Prove '..Said' where nothing that the law and all that it calls make is longer than what came in: it says more and counts as full. Else prove '..UptoSaid'. A law counts once. -/
mutual
def uptoBulk {H : Type} : DataW H → Nat
  | .lit (.string bytes) => bytes.length + 1
  | .lit _ => 1
  | .nil => 1
  | .ptr d => uptoBulk d + 1
  | .slice elems spare => uptoBulkAll elems + uptoBulkAll spare + 1
  | .agg parts => uptoBulkAll parts + 1
  | .iface _ d => uptoBulk d + 1
  | .map entries => uptoBulkEntries entries + 1
  | .held _ => 1
def uptoBulkAll {H : Type} : List (DataW H) → Nat
  | [] => 0
  | d :: r => uptoBulk d + uptoBulkAll r
def uptoBulkEntries {H : Type} : List (Lit × DataW H) → Nat
  | [] => 0
  | x :: r => uptoBulkEntry x + uptoBulkEntries r
def uptoBulkEntry {H : Type} : Lit × DataW H → Nat
  | (.string bytes, d) => bytes.length + uptoBulk d + 1
  | (_, d) => uptoBulk d + 1
 end
def uptoSmall : (H : Type) → List (DataW H) → Bool := fun _ ds => decide (uptoBulkAll ds ≤ 1048576)
def OpenSpec.upto (s : _root_.Go.ChangeSpec) : _root_.Go.OpenSpec := { _root_.Go.OpenSpec.ofChange s with cond := some uptoSmall }

/-- 'coxswainlaw03.DrawHeights', WHERE WHAT IT READS IS OF BULK AT MOST 1048576: true; the input reads as it did. -/
def drawHeightsUptoRow : OpenClaim := { program := "ytchempegmbidoaa", sum := "b3b20f49a0ad36b4c9c8c085178e1d9eb1b9c20dcd66809ccb6bb386280dc2db", func := "coxswain/coxswainlaw03.DrawHeights", spec := "drawHeights", unfollowed := true, recurses := true, apart := false, narrowed := true }
def DrawHeightsUptoSaid : Prop := drawHeightsUptoRow.holds Try.pinned (OpenSpec.upto drawHeightsSpec)

/-- 'coxswainlaw03.DrawActs', WHERE WHAT IT READS IS OF BULK AT MOST 1048576: true; the input reads as it did. -/
def drawActsUptoRow : OpenClaim := { program := "ytchempegmbidoaa", sum := "b3b20f49a0ad36b4c9c8c085178e1d9eb1b9c20dcd66809ccb6bb386280dc2db", func := "coxswain/coxswainlaw03.DrawActs", spec := "drawActs", unfollowed := true, recurses := true, apart := false, narrowed := true }
def DrawActsUptoSaid : Prop := drawActsUptoRow.holds Try.pinned (OpenSpec.upto drawActsSpec)

/-- 'coxswainlaw03.DrawNone', WHERE WHAT IT READS IS OF BULK AT MOST 1048576: true; the input reads as it did. -/
def drawNoneUptoRow : OpenClaim := { program := "ytchempegmbidoaa", sum := "b3b20f49a0ad36b4c9c8c085178e1d9eb1b9c20dcd66809ccb6bb386280dc2db", func := "coxswain/coxswainlaw03.DrawNone", spec := "drawNone", unfollowed := true, recurses := true, apart := false, narrowed := true }
def DrawNoneUptoSaid : Prop := drawNoneUptoRow.holds Try.pinned (OpenSpec.upto drawNoneSpec)

/-- 'coxswainlaw03.DrawKnown', WHERE WHAT IT READS IS OF BULK AT MOST 1048576: true; the input reads as it did. -/
def drawKnownUptoRow : OpenClaim := { program := "ytchempegmbidoaa", sum := "b3b20f49a0ad36b4c9c8c085178e1d9eb1b9c20dcd66809ccb6bb386280dc2db", func := "coxswain/coxswainlaw03.DrawKnown", spec := "drawKnown", unfollowed := true, recurses := true, apart := false, narrowed := true }
def DrawKnownUptoSaid : Prop := drawKnownUptoRow.holds Try.pinned (OpenSpec.upto drawKnownSpec)

/-- 'coxswainlaw03.DrawRange', WHERE WHAT IT READS IS OF BULK AT MOST 1048576: true; the input reads as it did. -/
def drawRangeUptoRow : OpenClaim := { program := "ytchempegmbidoaa", sum := "b3b20f49a0ad36b4c9c8c085178e1d9eb1b9c20dcd66809ccb6bb386280dc2db", func := "coxswain/coxswainlaw03.DrawRange", spec := "drawRange", unfollowed := true, recurses := true, apart := false, narrowed := true }
def DrawRangeUptoSaid : Prop := drawRangeUptoRow.holds Try.pinned (OpenSpec.upto drawRangeSpec)

/-- 'coxswainlaw03.DrawSkips', WHERE WHAT IT READS IS OF BULK AT MOST 1048576: true; the input reads as it did. -/
def drawSkipsUptoRow : OpenClaim := { program := "ytchempegmbidoaa", sum := "b3b20f49a0ad36b4c9c8c085178e1d9eb1b9c20dcd66809ccb6bb386280dc2db", func := "coxswain/coxswainlaw03.DrawSkips", spec := "drawSkips", unfollowed := true, recurses := true, apart := false, narrowed := true }
def DrawSkipsUptoSaid : Prop := drawSkipsUptoRow.holds Try.pinned (OpenSpec.upto drawSkipsSpec)

/-- 'coxswainlaw06.FifoNext', WHERE WHAT IT READS IS OF BULK AT MOST 1048576: true; the input reads as it did. -/
def fifoNextUptoRow : OpenClaim := { program := "ytchempegmbidoaa", sum := "b3b20f49a0ad36b4c9c8c085178e1d9eb1b9c20dcd66809ccb6bb386280dc2db", func := "coxswain/coxswainlaw06.FifoNext", spec := "fifoNext", unfollowed := true, recurses := true, apart := false, narrowed := true }
def FifoNextUptoSaid : Prop := fifoNextUptoRow.holds Try.pinned (OpenSpec.upto fifoNextSpec)

/-- 'coxswainlaw06.FifoPlays', WHERE WHAT IT READS IS OF BULK AT MOST 1048576: true; the input reads as it did. -/
def fifoPlaysUptoRow : OpenClaim := { program := "ytchempegmbidoaa", sum := "b3b20f49a0ad36b4c9c8c085178e1d9eb1b9c20dcd66809ccb6bb386280dc2db", func := "coxswain/coxswainlaw06.FifoPlays", spec := "fifoPlays", unfollowed := true, recurses := true, apart := false, narrowed := true }
def FifoPlaysUptoSaid : Prop := fifoPlaysUptoRow.holds Try.pinned (OpenSpec.upto fifoPlaysSpec)

/-- 'coxswainlaw06.FifoKnown', WHERE WHAT IT READS IS OF BULK AT MOST 1048576: true; the input reads as it did. -/
def fifoKnownUptoRow : OpenClaim := { program := "ytchempegmbidoaa", sum := "b3b20f49a0ad36b4c9c8c085178e1d9eb1b9c20dcd66809ccb6bb386280dc2db", func := "coxswain/coxswainlaw06.FifoKnown", spec := "fifoKnown", unfollowed := true, recurses := true, apart := false, narrowed := true }
def FifoKnownUptoSaid : Prop := fifoKnownUptoRow.holds Try.pinned (OpenSpec.upto fifoKnownSpec)

/-- 'coxswainlaw06.FifoOrder', WHERE WHAT IT READS IS OF BULK AT MOST 1048576: true; the input reads as it did. -/
def fifoOrderUptoRow : OpenClaim := { program := "ytchempegmbidoaa", sum := "b3b20f49a0ad36b4c9c8c085178e1d9eb1b9c20dcd66809ccb6bb386280dc2db", func := "coxswain/coxswainlaw06.FifoOrder", spec := "fifoOrder", unfollowed := true, recurses := true, apart := false, narrowed := true }
def FifoOrderUptoSaid : Prop := fifoOrderUptoRow.holds Try.pinned (OpenSpec.upto fifoOrderSpec)

/-- 'coxswainlaw06.FifoOne', WHERE WHAT IT READS IS OF BULK AT MOST 1048576: true; the input reads as it did. -/
def fifoOneUptoRow : OpenClaim := { program := "ytchempegmbidoaa", sum := "b3b20f49a0ad36b4c9c8c085178e1d9eb1b9c20dcd66809ccb6bb386280dc2db", func := "coxswain/coxswainlaw06.FifoOne", spec := "fifoOne", unfollowed := true, recurses := true, apart := false, narrowed := true }
def FifoOneUptoSaid : Prop := fifoOneUptoRow.holds Try.pinned (OpenSpec.upto fifoOneSpec)

end Rows
end Go.Proofs.Ytchempegmbidoaa
