/-
  DERIVED. GIVEN WITH THE SEED: THE CARDS: each row of YtocbppgkgcoehaaDoorRows.lean that lists a variable, with what it lists TIED to the program's text (the seventh form; the later family's looks); each row that meets fmt, with fmt's text TOLD by the authors' own Lean function (tested against real Go, not proved from fmt's source: count such statements apart). THE CARD IS WHAT COUNTS. Prove the row's statement (the work); the ties are given (YtocbppgkgcoehaaDoorTie.lean); close each card by the builder's one call (the guide's Derived/Test/ToyasCard.lean, 'card_holds'). Laid BY PROGRAM, IN A SANDBOX (cutbox-door.mjs). By AI agents, Wed Nov 11 2026. No macro, syntax, notation, axiom, sorry.
-/
import Derived.Test.YtocbppgkgcoehaaDoorRows
import GoSem.ClaimSeven
namespace Go.Proofs.YtocbppgkgcoehaaDoor
namespace Rows

/-- THE TIED CARD OF 'coxswainlaw08.PoolNext'. -/
def poolNextCard : Claim7 := { stood := { row := poolNextRow, standIns := [], harness := (true, "7fa835923f18a99c7d59825ab652dc40d23c07b96f182a6c83521b324b0c6c92"), looks := false }, kinds := [], alts := [], laidByText := true, laidKinds := [.data], laidTests := true, laidLooks := .later }
def PoolNextCardSaid : Prop := Claim7.holds Tryd.pinned (.plain (OpenSpec.ofChange poolNextSpec)) poolNextCard

/-- THE TIED CARD OF 'coxswainlaw08.PoolPlays'. -/
def poolPlaysCard : Claim7 := { stood := { row := poolPlaysRow, standIns := [], harness := (true, "7fa835923f18a99c7d59825ab652dc40d23c07b96f182a6c83521b324b0c6c92"), looks := false }, kinds := [], alts := [], laidByText := true, laidKinds := [.data], laidTests := true, laidLooks := .later }
def PoolPlaysCardSaid : Prop := Claim7.holds Tryd.pinned (.plain (OpenSpec.ofChange poolPlaysSpec)) poolPlaysCard

/-- THE TIED CARD OF 'coxswainlaw08.PoolKnown'. -/
def poolKnownCard : Claim7 := { stood := { row := poolKnownRow, standIns := [], harness := (true, "7fa835923f18a99c7d59825ab652dc40d23c07b96f182a6c83521b324b0c6c92"), looks := false }, kinds := [], alts := [], laidByText := true, laidKinds := [.data], laidTests := true, laidLooks := .later }
def PoolKnownCardSaid : Prop := Claim7.holds Tryd.pinned (.plain (OpenSpec.ofChange poolKnownSpec)) poolKnownCard

/-- THE TIED CARD OF 'coxswainlaw08.PoolOne'. -/
def poolOneCard : Claim7 := { stood := { row := poolOneRow, standIns := [], harness := (true, "7fa835923f18a99c7d59825ab652dc40d23c07b96f182a6c83521b324b0c6c92"), looks := false }, kinds := [], alts := [], laidByText := true, laidKinds := [.data], laidTests := true, laidLooks := .later }
def PoolOneCardSaid : Prop := Claim7.holds Tryd.pinned (.plain (OpenSpec.ofChange poolOneSpec)) poolOneCard

/-- THE TIED CARD OF 'coxswainlaw08.PoolGives'. -/
def poolGivesCard : Claim7 := { stood := { row := poolGivesRow, standIns := [], harness := (true, "7fa835923f18a99c7d59825ab652dc40d23c07b96f182a6c83521b324b0c6c92"), looks := false }, kinds := [], alts := [], laidByText := true, laidKinds := [.data], laidTests := true, laidLooks := .later }
def PoolGivesCardSaid : Prop := Claim7.holds Tryd.pinned (.plain (OpenSpec.ofChange poolGivesSpec)) poolGivesCard

/-- THE SECOND FORM's CARD OF 'coxswainlaw08.PoolNext'. -/
def poolNextUptoCard : Claim7 := { stood := { row := poolNextUptoRow, standIns := [], harness := (true, "7fa835923f18a99c7d59825ab652dc40d23c07b96f182a6c83521b324b0c6c92"), looks := false }, kinds := [], alts := [], laidByText := true, laidKinds := [.data], laidTests := true, laidLooks := .later }
def PoolNextUptoCardSaid : Prop := Claim7.holds Tryd.pinned (.plain (OpenSpec.upto poolNextSpec)) poolNextUptoCard

/-- THE SECOND FORM's CARD OF 'coxswainlaw08.PoolPlays'. -/
def poolPlaysUptoCard : Claim7 := { stood := { row := poolPlaysUptoRow, standIns := [], harness := (true, "7fa835923f18a99c7d59825ab652dc40d23c07b96f182a6c83521b324b0c6c92"), looks := false }, kinds := [], alts := [], laidByText := true, laidKinds := [.data], laidTests := true, laidLooks := .later }
def PoolPlaysUptoCardSaid : Prop := Claim7.holds Tryd.pinned (.plain (OpenSpec.upto poolPlaysSpec)) poolPlaysUptoCard

/-- THE SECOND FORM's CARD OF 'coxswainlaw08.PoolKnown'. -/
def poolKnownUptoCard : Claim7 := { stood := { row := poolKnownUptoRow, standIns := [], harness := (true, "7fa835923f18a99c7d59825ab652dc40d23c07b96f182a6c83521b324b0c6c92"), looks := false }, kinds := [], alts := [], laidByText := true, laidKinds := [.data], laidTests := true, laidLooks := .later }
def PoolKnownUptoCardSaid : Prop := Claim7.holds Tryd.pinned (.plain (OpenSpec.upto poolKnownSpec)) poolKnownUptoCard

/-- THE SECOND FORM's CARD OF 'coxswainlaw08.PoolOne'. -/
def poolOneUptoCard : Claim7 := { stood := { row := poolOneUptoRow, standIns := [], harness := (true, "7fa835923f18a99c7d59825ab652dc40d23c07b96f182a6c83521b324b0c6c92"), looks := false }, kinds := [], alts := [], laidByText := true, laidKinds := [.data], laidTests := true, laidLooks := .later }
def PoolOneUptoCardSaid : Prop := Claim7.holds Tryd.pinned (.plain (OpenSpec.upto poolOneSpec)) poolOneUptoCard

/-- THE SECOND FORM's CARD OF 'coxswainlaw08.PoolGives'. -/
def poolGivesUptoCard : Claim7 := { stood := { row := poolGivesUptoRow, standIns := [], harness := (true, "7fa835923f18a99c7d59825ab652dc40d23c07b96f182a6c83521b324b0c6c92"), looks := false }, kinds := [], alts := [], laidByText := true, laidKinds := [.data], laidTests := true, laidLooks := .later }
def PoolGivesUptoCardSaid : Prop := Claim7.holds Tryd.pinned (.plain (OpenSpec.upto poolGivesSpec)) poolGivesUptoCard
end Rows
end Go.Proofs.YtocbppgkgcoehaaDoor
