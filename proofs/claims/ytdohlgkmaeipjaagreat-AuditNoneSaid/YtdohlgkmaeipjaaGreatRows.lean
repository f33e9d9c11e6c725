/-
  No cell of these rows narrows 'for every input' (looked for: loops, veiled, ifaces, maps, wideKeys, modest, calm, conditions, laid).
  DERIVED. THE GIVEN ROWS OF THIS SEAT. 6 by the template 'for every input the law returns true; each argument reads behind the call as it read before'; 0 by the template 'total and deterministic' (their statements: YtdohlgkmaeipjaaGreatTotals.lean).
  GIVEN WITH THE SEED: the statements are not yours to turn. If you find one false, say at which input.
  Laid BY PROGRAM, IN A SANDBOX (cutbox-rows.mjs): the forced cells as the released guide's own fill.sh prints them over the translation 10f500fc593f4b6e… (all of the seat's roots in one cut). By AI agents, Wed Nov 11 2026. No macro, syntax, notation, axiom, sorry.
-/
import Derived.Test.YtdohlgkmaeipjaaGreatChecked
import GoSem.Claim
import GoSem.ClaimJoined
import GoSem.ClaimMapViews
import Derived.JoinedTies
import Derived.KernelRfl
namespace Go.Proofs.YtdohlgkmaeipjaaGreat
/- THE CELL 'sum', in the pinned program and in every row, IS THE sha256 OF THE DUMP (.gsa) THAT YtdohlgkmaeipjaaGreatProg.lean LOADS. Nothing in Lean hashes anything: it is a label: what it is worth is what the hold of that sum in a sandbox is worth. -/
noncomputable def Tryz.pinned : Pinned := { name := "ytdohlgkmaeipjaagreat", sum := "10f500fc593f4b6e68ef0d42e75612399d37ab513327dd9670c920dbced70714", checked := Tryz.checked }
namespace Rows
def none {H : Type} : Left H := { results := [], args := [] }

/-- 'coxswainlaw18.ClaimNone': WHATEVER THE INPUT: true; the input reads as it did. -/
def claimNoneSpec : ChangeSpec := { name := "claimNone", fn := fun _ => fun
  | [d] => { results := [.lit (.bool true)], args := [d] }
  | _ => none }
def claimNoneRow : OpenClaim := { program := "ytdohlgkmaeipjaagreat", sum := "10f500fc593f4b6e68ef0d42e75612399d37ab513327dd9670c920dbced70714", func := "coxswain/coxswainlaw18.ClaimNone", spec := "claimNone", unfollowed := true, recurses := true, apart := false }
def ClaimNoneSaid : Prop := claimNoneRow.holds Tryz.pinned (OpenSpec.ofChange claimNoneSpec)

/-- ITS FALSE NEIGHBOUR: 'it returns false'. Refute it at one input. -/
def claimNoneWrong : ChangeSpec := { name := "claimNone", fn := fun _ => fun
  | [d] => { results := [.lit (.bool false)], args := [d] }
  | _ => none }
def ClaimNoneWrongFalsely : Prop := claimNoneRow.holds Tryz.pinned (OpenSpec.ofChange claimNoneWrong)

/-- 'coxswainlaw20.AuditNone': WHATEVER THE INPUT: true; the input reads as it did. -/
def auditNoneSpec : ChangeSpec := { name := "auditNone", fn := fun _ => fun
  | [d1, d2, d3, d4] => { results := [.lit (.bool true)], args := [d1, d2, d3, d4] }
  | _ => none }
def auditNoneRow : OpenClaim := { program := "ytdohlgkmaeipjaagreat", sum := "10f500fc593f4b6e68ef0d42e75612399d37ab513327dd9670c920dbced70714", func := "coxswain/coxswainlaw20.AuditNone", spec := "auditNone", unfollowed := true, recurses := true, apart := false }
def AuditNoneSaid : Prop := auditNoneRow.holds Tryz.pinned (OpenSpec.ofChange auditNoneSpec)

/-- ITS FALSE NEIGHBOUR: 'it returns false'. Refute it at one input. -/
def auditNoneWrong : ChangeSpec := { name := "auditNone", fn := fun _ => fun
  | [d1, d2, d3, d4] => { results := [.lit (.bool false)], args := [d1, d2, d3, d4] }
  | _ => none }
def AuditNoneWrongFalsely : Prop := auditNoneRow.holds Tryz.pinned (OpenSpec.ofChange auditNoneWrong)

/-- 'coxswainlaw19.ReadyNew': WHATEVER THE INPUT: true; the input reads as it did. -/
def readyNewSpec : ChangeSpec := { name := "readyNew", fn := fun _ => fun
  | [d1, d2, d3, d4, d5] => { results := [.lit (.bool true)], args := [d1, d2, d3, d4, d5] }
  | _ => none }
def readyNewRow : OpenClaim := { program := "ytdohlgkmaeipjaagreat", sum := "10f500fc593f4b6e68ef0d42e75612399d37ab513327dd9670c920dbced70714", func := "coxswain/coxswainlaw19.ReadyNew", spec := "readyNew", unfollowed := true, recurses := true, apart := false }
def ReadyNewSaid : Prop := readyNewRow.holds Tryz.pinned (OpenSpec.ofChange readyNewSpec)

/-- ITS FALSE NEIGHBOUR: 'it returns false'. Refute it at one input. -/
def readyNewWrong : ChangeSpec := { name := "readyNew", fn := fun _ => fun
  | [d1, d2, d3, d4, d5] => { results := [.lit (.bool false)], args := [d1, d2, d3, d4, d5] }
  | _ => none }
def ReadyNewWrongFalsely : Prop := readyNewRow.holds Tryz.pinned (OpenSpec.ofChange readyNewWrong)

/-- 'coxswainlaw25.MailNew': WHATEVER THE INPUT: true; the input reads as it did. -/
def mailNewSpec : ChangeSpec := { name := "mailNew", fn := fun _ => fun
  | [d1, d2, d3] => { results := [.lit (.bool true)], args := [d1, d2, d3] }
  | _ => none }
def mailNewRow : OpenClaim := { program := "ytdohlgkmaeipjaagreat", sum := "10f500fc593f4b6e68ef0d42e75612399d37ab513327dd9670c920dbced70714", func := "coxswain/coxswainlaw25.MailNew", spec := "mailNew", unfollowed := true, recurses := true, apart := false }
def MailNewSaid : Prop := mailNewRow.holds Tryz.pinned (OpenSpec.ofChange mailNewSpec)

/-- ITS FALSE NEIGHBOUR: 'it returns false'. Refute it at one input. -/
def mailNewWrong : ChangeSpec := { name := "mailNew", fn := fun _ => fun
  | [d1, d2, d3] => { results := [.lit (.bool false)], args := [d1, d2, d3] }
  | _ => none }
def MailNewWrongFalsely : Prop := mailNewRow.holds Tryz.pinned (OpenSpec.ofChange mailNewWrong)

/-- 'coxswainlaw18.ClaimSteps': WHATEVER THE INPUT: true; the input reads as it did. -/
def claimStepsSpec : ChangeSpec := { name := "claimSteps", fn := fun _ => fun
  | [d1, d2, d3, d4] => { results := [.lit (.bool true)], args := [d1, d2, d3, d4] }
  | _ => none }
def claimStepsRow : OpenClaim := { program := "ytdohlgkmaeipjaagreat", sum := "10f500fc593f4b6e68ef0d42e75612399d37ab513327dd9670c920dbced70714", func := "coxswain/coxswainlaw18.ClaimSteps", spec := "claimSteps", unfollowed := true, recurses := true, apart := false }
def ClaimStepsSaid : Prop := claimStepsRow.holds Tryz.pinned (OpenSpec.ofChange claimStepsSpec)

/-- ITS FALSE NEIGHBOUR: 'it returns false'. Refute it at one input. -/
def claimStepsWrong : ChangeSpec := { name := "claimSteps", fn := fun _ => fun
  | [d1, d2, d3, d4] => { results := [.lit (.bool false)], args := [d1, d2, d3, d4] }
  | _ => none }
def ClaimStepsWrongFalsely : Prop := claimStepsRow.holds Tryz.pinned (OpenSpec.ofChange claimStepsWrong)

/-- 'coxswainlaw11.ArenaSteps': WHATEVER THE INPUT: true; the input reads as it did. -/
def arenaStepsSpec : ChangeSpec := { name := "arenaSteps", fn := fun _ => fun
  | [d1, d2, d3, d4] => { results := [.lit (.bool true)], args := [d1, d2, d3, d4] }
  | _ => none }
def arenaStepsRow : OpenClaim := { program := "ytdohlgkmaeipjaagreat", sum := "10f500fc593f4b6e68ef0d42e75612399d37ab513327dd9670c920dbced70714", func := "coxswain/coxswainlaw11.ArenaSteps", spec := "arenaSteps", unfollowed := true, recurses := true, apart := false }
def ArenaStepsSaid : Prop := arenaStepsRow.holds Tryz.pinned (OpenSpec.ofChange arenaStepsSpec)

/-- ITS FALSE NEIGHBOUR: 'it returns false'. Refute it at one input. -/
def arenaStepsWrong : ChangeSpec := { name := "arenaSteps", fn := fun _ => fun
  | [d1, d2, d3, d4] => { results := [.lit (.bool false)], args := [d1, d2, d3, d4] }
  | _ => none }
def ArenaStepsWrongFalsely : Prop := arenaStepsRow.holds Tryz.pinned (OpenSpec.ofChange arenaStepsWrong)

/- THE SECOND FORM. 'bulk': how many values and letters a reading holds, each counted each time it is reached (what is shared counts as often as it is met; a slice's spare places count too). A statement '..UptoSaid' is the law's where the arguments, and the package variables that the reading takes, are together of bulk at most 1048576: NARROWER than '..Said'. Prove '..Said' where nothing that the law and all that it calls make is longer than what came in: it says more and counts as full. Else prove '..UptoSaid'. A law counts once. -/
mutual
def uptoBulk {H : Type} : DataW H → Nat
  | .lit (.string bytes) => bytes.length + 1
  | .lit _ => 1
  | .nil => 1
  | .ptr d => uptoBulk d + 1
  | .slice elems spare => uptoBulkAll elems + uptoBulkAll spare + 1
  | .agg parts => uptoBulkAll parts + 1
  | .iface _ d => uptoBulk d + 1
  | .map entries => uptoBulkEntries entries + 1
  | .held _ => 1
def uptoBulkAll {H : Type} : List (DataW H) → Nat
  | [] => 0
  | d :: r => uptoBulk d + uptoBulkAll r
def uptoBulkEntries {H : Type} : List (Lit × DataW H) → Nat
  | [] => 0
  | x :: r => uptoBulkEntry x + uptoBulkEntries r
def uptoBulkEntry {H : Type} : Lit × DataW H → Nat
  | (.string bytes, d) => bytes.length + uptoBulk d + 1
  | (_, d) => uptoBulk d + 1
 end
def uptoSmall : (H : Type) → List (DataW H) → Bool := fun _ ds => decide (uptoBulkAll ds ≤ 1048576)
def OpenSpec.upto (s : _root_.Go.ChangeSpec) : _root_.Go.OpenSpec := { _root_.Go.OpenSpec.ofChange s with cond := some uptoSmall }

/-- 'coxswainlaw18.ClaimNone', WHERE WHAT IT READS IS OF BULK AT MOST 1048576: true; the input reads as it did. -/
def claimNoneUptoRow : OpenClaim := { program := "ytdohlgkmaeipjaagreat", sum := "10f500fc593f4b6e68ef0d42e75612399d37ab513327dd9670c920dbced70714", func := "coxswain/coxswainlaw18.ClaimNone", spec := "claimNone", unfollowed := true, recurses := true, apart := false, narrowed := true }
def ClaimNoneUptoSaid : Prop := claimNoneUptoRow.holds Tryz.pinned (OpenSpec.upto claimNoneSpec)

/-- 'coxswainlaw20.AuditNone', WHERE WHAT IT READS IS OF BULK AT MOST 1048576: true; the input reads as it did. -/
def auditNoneUptoRow : OpenClaim := { program := "ytdohlgkmaeipjaagreat", sum := "10f500fc593f4b6e68ef0d42e75612399d37ab513327dd9670c920dbced70714", func := "coxswain/coxswainlaw20.AuditNone", spec := "auditNone", unfollowed := true, recurses := true, apart := false, narrowed := true }
def AuditNoneUptoSaid : Prop := auditNoneUptoRow.holds Tryz.pinned (OpenSpec.upto auditNoneSpec)

/-- 'coxswainlaw19.ReadyNew', WHERE WHAT IT READS IS OF BULK AT MOST 1048576: true; the input reads as it did. -/
def readyNewUptoRow : OpenClaim := { program := "ytdohlgkmaeipjaagreat", sum := "10f500fc593f4b6e68ef0d42e75612399d37ab513327dd9670c920dbced70714", func := "coxswain/coxswainlaw19.ReadyNew", spec := "readyNew", unfollowed := true, recurses := true, apart := false, narrowed := true }
def ReadyNewUptoSaid : Prop := readyNewUptoRow.holds Tryz.pinned (OpenSpec.upto readyNewSpec)

/-- 'coxswainlaw25.MailNew', WHERE WHAT IT READS IS OF BULK AT MOST 1048576: true; the input reads as it did. -/
def mailNewUptoRow : OpenClaim := { program := "ytdohlgkmaeipjaagreat", sum := "10f500fc593f4b6e68ef0d42e75612399d37ab513327dd9670c920dbced70714", func := "coxswain/coxswainlaw25.MailNew", spec := "mailNew", unfollowed := true, recurses := true, apart := false, narrowed := true }
def MailNewUptoSaid : Prop := mailNewUptoRow.holds Tryz.pinned (OpenSpec.upto mailNewSpec)

/-- 'coxswainlaw18.ClaimSteps', WHERE WHAT IT READS IS OF BULK AT MOST 1048576: true; the input reads as it did. -/
def claimStepsUptoRow : OpenClaim := { program := "ytdohlgkmaeipjaagreat", sum := "10f500fc593f4b6e68ef0d42e75612399d37ab513327dd9670c920dbced70714", func := "coxswain/coxswainlaw18.ClaimSteps", spec := "claimSteps", unfollowed := true, recurses := true, apart := false, narrowed := true }
def ClaimStepsUptoSaid : Prop := claimStepsUptoRow.holds Tryz.pinned (OpenSpec.upto claimStepsSpec)

/-- 'coxswainlaw11.ArenaSteps', WHERE WHAT IT READS IS OF BULK AT MOST 1048576: true; the input reads as it did. -/
def arenaStepsUptoRow : OpenClaim := { program := "ytdohlgkmaeipjaagreat", sum := "10f500fc593f4b6e68ef0d42e75612399d37ab513327dd9670c920dbced70714", func := "coxswain/coxswainlaw11.ArenaSteps", spec := "arenaSteps", unfollowed := true, recurses := true, apart := false, narrowed := true }
def ArenaStepsUptoSaid : Prop := arenaStepsUptoRow.holds Tryz.pinned (OpenSpec.upto arenaStepsSpec)

end Rows
end Go.Proofs.YtdohlgkmaeipjaaGreat
