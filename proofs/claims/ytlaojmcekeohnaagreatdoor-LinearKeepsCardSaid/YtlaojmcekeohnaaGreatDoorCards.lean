/-
  DERIVED. GIVEN WITH THE SEED: THE CARDS: each row of YtlaojmcekeohnaaGreatDoorRows.lean that lists a variable, with what it lists TIED to the program's text (the seventh form; the later family's looks); each row that meets fmt, with fmt's text TOLD by the authors' own Lean function (tested against real Go, not proved from fmt's source: count such statements apart). THE CARD IS WHAT COUNTS. Prove the row's statement (the work); the ties are given (YtlaojmcekeohnaaGreatDoorTie.lean); close each card by the builder's one call (the guide's Derived/Test/ToyasCard.lean, 'card_holds'). Laid BY PROGRAM, IN A SANDBOX (cutbox-door.mjs). By AI agents, Wed Nov 11 2026. No macro, syntax, notation, axiom, sorry.
-/
import Derived.Test.YtlaojmcekeohnaaGreatDoorRows
import GoSem.ClaimSeven
namespace Go.Proofs.YtlaojmcekeohnaaGreatDoor
namespace Rows

/-- THE TIED CARD OF 'coxswainlaw09.LinearKnown'. -/
def linearKnownCard : Claim7 := { stood := { row := linearKnownRow, standIns := [], harness := (true, "8b93aeb966e0286e895fe744ef7957d32a8f798093b6f696dfa17696e35dafcf"), looks := true }, kinds := [], alts := [], laidByText := true, laidKinds := [.data, .data, .data], laidTests := true, laidLooks := .later }
def LinearKnownCardSaid : Prop := Claim7.holds Tryz.pinned (.plain (OpenSpec.ofChange linearKnownSpec)) linearKnownCard

/-- THE TIED CARD OF 'coxswainlaw09.LinearKeeps'. -/
def linearKeepsCard : Claim7 := { stood := { row := linearKeepsRow, standIns := [], harness := (true, "8b93aeb966e0286e895fe744ef7957d32a8f798093b6f696dfa17696e35dafcf"), looks := true }, kinds := [], alts := [], laidByText := true, laidKinds := [.data, .data, .data], laidTests := true, laidLooks := .later }
def LinearKeepsCardSaid : Prop := Claim7.holds Tryz.pinned (.plain (OpenSpec.ofChange linearKeepsSpec)) linearKeepsCard

/-- THE TIED CARD OF 'coxswainlaw09.LinearMade'. -/
def linearMadeCard : Claim7 := { stood := { row := linearMadeRow, standIns := [], harness := (true, "8b93aeb966e0286e895fe744ef7957d32a8f798093b6f696dfa17696e35dafcf"), looks := true }, kinds := [], alts := [], laidByText := true, laidKinds := [.data, .data, .data], laidTests := true, laidLooks := .later }
def LinearMadeCardSaid : Prop := Claim7.holds Tryz.pinned (.plain (OpenSpec.ofChange linearMadeSpec)) linearMadeCard

/-- THE TIED CARD OF 'coxswainlaw14.RingQueue'. -/
def ringQueueCard : Claim7 := { stood := { row := ringQueueRow, standIns := [], harness := (true, "8b93aeb966e0286e895fe744ef7957d32a8f798093b6f696dfa17696e35dafcf"), looks := true }, kinds := [], alts := [], laidByText := true, laidKinds := [.data, .data, .data], laidTests := true, laidLooks := .later }
def RingQueueCardSaid : Prop := Claim7.holds Tryz.pinned (.plain (OpenSpec.ofChange ringQueueSpec)) ringQueueCard

/-- THE TIED CARD OF 'coxswainlaw11.ArenaPool'. -/
def arenaPoolCard : Claim7 := { stood := { row := arenaPoolRow, standIns := [], harness := (true, "8b93aeb966e0286e895fe744ef7957d32a8f798093b6f696dfa17696e35dafcf"), looks := true }, kinds := [], alts := [], laidByText := true, laidKinds := [.data, .data, .data], laidTests := true, laidLooks := .later }
def ArenaPoolCardSaid : Prop := Claim7.holds Tryz.pinned (.plain (OpenSpec.ofChange arenaPoolSpec)) arenaPoolCard

/-- THE TIED CARD OF 'coxswainlaw25.MailLinear'. -/
def mailLinearCard : Claim7 := { stood := { row := mailLinearRow, standIns := [], harness := (true, "8b93aeb966e0286e895fe744ef7957d32a8f798093b6f696dfa17696e35dafcf"), looks := true }, kinds := [], alts := [], laidByText := true, laidKinds := [.data, .data, .data], laidTests := true, laidLooks := .later }
def MailLinearCardSaid : Prop := Claim7.holds Tryz.pinned (.plain (OpenSpec.ofChange mailLinearSpec)) mailLinearCard

/-- THE SECOND FORM's CARD OF 'coxswainlaw09.LinearKnown'. -/
def linearKnownUptoCard : Claim7 := { stood := { row := linearKnownUptoRow, standIns := [], harness := (true, "8b93aeb966e0286e895fe744ef7957d32a8f798093b6f696dfa17696e35dafcf"), looks := true }, kinds := [], alts := [], laidByText := true, laidKinds := [.data, .data, .data], laidTests := true, laidLooks := .later }
def LinearKnownUptoCardSaid : Prop := Claim7.holds Tryz.pinned (.plain (OpenSpec.upto linearKnownSpec)) linearKnownUptoCard

/-- THE SECOND FORM's CARD OF 'coxswainlaw09.LinearKeeps'. -/
def linearKeepsUptoCard : Claim7 := { stood := { row := linearKeepsUptoRow, standIns := [], harness := (true, "8b93aeb966e0286e895fe744ef7957d32a8f798093b6f696dfa17696e35dafcf"), looks := true }, kinds := [], alts := [], laidByText := true, laidKinds := [.data, .data, .data], laidTests := true, laidLooks := .later }
def LinearKeepsUptoCardSaid : Prop := Claim7.holds Tryz.pinned (.plain (OpenSpec.upto linearKeepsSpec)) linearKeepsUptoCard

/-- THE SECOND FORM's CARD OF 'coxswainlaw09.LinearMade'. -/
def linearMadeUptoCard : Claim7 := { stood := { row := linearMadeUptoRow, standIns := [], harness := (true, "8b93aeb966e0286e895fe744ef7957d32a8f798093b6f696dfa17696e35dafcf"), looks := true }, kinds := [], alts := [], laidByText := true, laidKinds := [.data, .data, .data], laidTests := true, laidLooks := .later }
def LinearMadeUptoCardSaid : Prop := Claim7.holds Tryz.pinned (.plain (OpenSpec.upto linearMadeSpec)) linearMadeUptoCard

/-- THE SECOND FORM's CARD OF 'coxswainlaw14.RingQueue'. -/
def ringQueueUptoCard : Claim7 := { stood := { row := ringQueueUptoRow, standIns := [], harness := (true, "8b93aeb966e0286e895fe744ef7957d32a8f798093b6f696dfa17696e35dafcf"), looks := true }, kinds := [], alts := [], laidByText := true, laidKinds := [.data, .data, .data], laidTests := true, laidLooks := .later }
def RingQueueUptoCardSaid : Prop := Claim7.holds Tryz.pinned (.plain (OpenSpec.upto ringQueueSpec)) ringQueueUptoCard

/-- THE SECOND FORM's CARD OF 'coxswainlaw11.ArenaPool'. -/
def arenaPoolUptoCard : Claim7 := { stood := { row := arenaPoolUptoRow, standIns := [], harness := (true, "8b93aeb966e0286e895fe744ef7957d32a8f798093b6f696dfa17696e35dafcf"), looks := true }, kinds := [], alts := [], laidByText := true, laidKinds := [.data, .data, .data], laidTests := true, laidLooks := .later }
def ArenaPoolUptoCardSaid : Prop := Claim7.holds Tryz.pinned (.plain (OpenSpec.upto arenaPoolSpec)) arenaPoolUptoCard

/-- THE SECOND FORM's CARD OF 'coxswainlaw25.MailLinear'. -/
def mailLinearUptoCard : Claim7 := { stood := { row := mailLinearUptoRow, standIns := [], harness := (true, "8b93aeb966e0286e895fe744ef7957d32a8f798093b6f696dfa17696e35dafcf"), looks := true }, kinds := [], alts := [], laidByText := true, laidKinds := [.data, .data, .data], laidTests := true, laidLooks := .later }
def MailLinearUptoCardSaid : Prop := Claim7.holds Tryz.pinned (.plain (OpenSpec.upto mailLinearSpec)) mailLinearUptoCard
end Rows
end Go.Proofs.YtlaojmcekeohnaaGreatDoor
