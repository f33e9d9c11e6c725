/-
  No cell of these rows narrows 'for every input' (looked for: loops, veiled, ifaces, maps, wideKeys, modest, calm, conditions, laid).
  DERIVED. THE GIVEN ROWS OF THIS SEAT. 2 by the template 'for every input the law returns true; each argument reads behind the call as it read before'; 0 by the template 'total and deterministic' (their statements: YtfdanfpjlcnpkaaGreatTotals.lean).
  GIVEN WITH THE SEED: the statements are not yours to turn. If you find one false, say at which input.
  Laid BY PROGRAM, IN A SANDBOX (cutbox-rows.mjs): the forced cells as the released guide's own fill.sh prints them over the translation fc8eb8dd44f3beaa… (all of the seat's roots in one cut). By AI agents, Wed Nov 11 2026. No macro, syntax, notation, axiom, sorry.
-/
import Derived.Test.YtfdanfpjlcnpkaaGreatChecked
import GoSem.Claim
import GoSem.ClaimJoined
import GoSem.ClaimMapViews
import Derived.JoinedTies
import Derived.KernelRfl
namespace Go.Proofs.YtfdanfpjlcnpkaaGreat
/- THE CELL 'sum', in the pinned program and in every row, IS THE sha256 OF THE DUMP (.gsa) THAT YtfdanfpjlcnpkaaGreatProg.lean LOADS. Nothing in Lean hashes anything: it is a label: what it is worth is what the hold of that sum in a sandbox is worth. -/
noncomputable def Tryz.pinned : Pinned := { name := "ytfdanfpjlcnpkaagreat", sum := "fc8eb8dd44f3beaa9e1750f2ffec64ff37683cefdd0bd2447ca7abb4c3ad220e", checked := Tryz.checked }
namespace Rows
def none {H : Type} : Left H := { results := [], args := [] }

/-- 'coxswainlaw20.AuditKnown': WHATEVER THE INPUT: true; the input reads as it did. -/
def auditKnownSpec : ChangeSpec := { name := "auditKnown", fn := fun _ => fun
  | [] => { results := [.lit (.bool true)], args := [] }
  | _ => none }
def auditKnownRow : OpenClaim := { program := "ytfdanfpjlcnpkaagreat", sum := "fc8eb8dd44f3beaa9e1750f2ffec64ff37683cefdd0bd2447ca7abb4c3ad220e", func := "coxswain/coxswainlaw20.AuditKnown", spec := "auditKnown", unfollowed := true, recurses := true, apart := false }
def AuditKnownSaid : Prop := auditKnownRow.holds Tryz.pinned (OpenSpec.ofChange auditKnownSpec)

/-- ITS FALSE NEIGHBOUR: 'it returns false'. Refute it at one input. -/
def auditKnownWrong : ChangeSpec := { name := "auditKnown", fn := fun _ => fun
  | [] => { results := [.lit (.bool false)], args := [] }
  | _ => none }
def AuditKnownWrongFalsely : Prop := auditKnownRow.holds Tryz.pinned (OpenSpec.ofChange auditKnownWrong)

/-- 'coxswainlaw19.ReadySteps': WHATEVER THE INPUT: true; the input reads as it did. -/
def readyStepsSpec : ChangeSpec := { name := "readySteps", fn := fun _ => fun
  | [d1, d2, d3, d4] => { results := [.lit (.bool true)], args := [d1, d2, d3, d4] }
  | _ => none }
def readyStepsRow : OpenClaim := { program := "ytfdanfpjlcnpkaagreat", sum := "fc8eb8dd44f3beaa9e1750f2ffec64ff37683cefdd0bd2447ca7abb4c3ad220e", func := "coxswain/coxswainlaw19.ReadySteps", spec := "readySteps", unfollowed := true, recurses := true, apart := false }
def ReadyStepsSaid : Prop := readyStepsRow.holds Tryz.pinned (OpenSpec.ofChange readyStepsSpec)

/-- ITS FALSE NEIGHBOUR: 'it returns false'. Refute it at one input. -/
def readyStepsWrong : ChangeSpec := { name := "readySteps", fn := fun _ => fun
  | [d1, d2, d3, d4] => { results := [.lit (.bool false)], args := [d1, d2, d3, d4] }
  | _ => none }
def ReadyStepsWrongFalsely : Prop := readyStepsRow.holds Tryz.pinned (OpenSpec.ofChange readyStepsWrong)

/- THE SECOND FORM. 'bulk': how many values and letters a reading holds, each counted each time it is reached (what is shared counts as often as it is met; a slice's spare places count too). A statement '..UptoSaid' is the law's where the arguments, and the package variables that the reading takes, are together of bulk at most 1048576: NARROWER than '..Said'. Prove '..Said' where nothing that the law and all that it calls make is longer than what came in: it says more and counts as full. Else prove '..UptoSaid'. A law counts once. -/
mutual
def uptoBulk {H : Type} : DataW H → Nat
  | .lit (.string bytes) => bytes.length + 1
  | .lit _ => 1
  | .nil => 1
  | .ptr d => uptoBulk d + 1
  | .slice elems spare => uptoBulkAll elems + uptoBulkAll spare + 1
  | .agg parts => uptoBulkAll parts + 1
  | .iface _ d => uptoBulk d + 1
  | .map entries => uptoBulkEntries entries + 1
  | .held _ => 1
def uptoBulkAll {H : Type} : List (DataW H) → Nat
  | [] => 0
  | d :: r => uptoBulk d + uptoBulkAll r
def uptoBulkEntries {H : Type} : List (Lit × DataW H) → Nat
  | [] => 0
  | x :: r => uptoBulkEntry x + uptoBulkEntries r
def uptoBulkEntry {H : Type} : Lit × DataW H → Nat
  | (.string bytes, d) => bytes.length + uptoBulk d + 1
  | (_, d) => uptoBulk d + 1
 end
def uptoSmall : (H : Type) → List (DataW H) → Bool := fun _ ds => decide (uptoBulkAll ds ≤ 1048576)
def OpenSpec.upto (s : _root_.Go.ChangeSpec) : _root_.Go.OpenSpec := { _root_.Go.OpenSpec.ofChange s with cond := some uptoSmall }

/-- 'coxswainlaw20.AuditKnown', WHERE WHAT IT READS IS OF BULK AT MOST 1048576: true; the input reads as it did. -/
def auditKnownUptoRow : OpenClaim := { program := "ytfdanfpjlcnpkaagreat", sum := "fc8eb8dd44f3beaa9e1750f2ffec64ff37683cefdd0bd2447ca7abb4c3ad220e", func := "coxswain/coxswainlaw20.AuditKnown", spec := "auditKnown", unfollowed := true, recurses := true, apart := false, narrowed := true }
def AuditKnownUptoSaid : Prop := auditKnownUptoRow.holds Tryz.pinned (OpenSpec.upto auditKnownSpec)

/-- 'coxswainlaw19.ReadySteps', WHERE WHAT IT READS IS OF BULK AT MOST 1048576: true; the input reads as it did. -/
def readyStepsUptoRow : OpenClaim := { program := "ytfdanfpjlcnpkaagreat", sum := "fc8eb8dd44f3beaa9e1750f2ffec64ff37683cefdd0bd2447ca7abb4c3ad220e", func := "coxswain/coxswainlaw19.ReadySteps", spec := "readySteps", unfollowed := true, recurses := true, apart := false, narrowed := true }
def ReadyStepsUptoSaid : Prop := readyStepsUptoRow.holds Tryz.pinned (OpenSpec.upto readyStepsSpec)

end Rows
end Go.Proofs.YtfdanfpjlcnpkaaGreat
