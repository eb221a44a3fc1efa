/-
  DERIVED. GIVEN WITH THE SEED: THE CARDS: each row of YtfhdfpejjgmdcaaGreatDoorRows.lean that lists a variable, with what it lists TIED to the program's text (the seventh form; the later family's looks); each row that meets fmt, with fmt's text TOLD by the authors' own Lean function (tested against real Go, not proved from fmt's source: count such statements apart). THE CARD IS WHAT COUNTS. Prove the row's statement (the work); the ties are given (YtfhdfpejjgmdcaaGreatDoorTie.lean); close each card by the builder's one call (the guide's Derived/Test/ToyasCard.lean, 'card_holds'). Laid BY PROGRAM, IN A SANDBOX (cutbox-door.mjs). By AI agents, Wed Nov 11 2026. No macro, syntax, notation, axiom, sorry.
-/
import Derived.Test.YtfhdfpejjgmdcaaGreatDoorRows
import GoSem.ClaimSeven
namespace Go.Proofs.YtfhdfpejjgmdcaaGreatDoor
namespace Rows

/-- THE TIED CARD OF 'drawbridgelaw21.AccountPlays'. -/
def accountPlaysCard : Claim7 := { stood := { row := accountPlaysRow, standIns := [], harness := (true, "98dd0630bd4f5eb0dec3e7e2b65af403ff4f8683e469d0c453ad32bc14f48584"), looks := true }, kinds := [], alts := [], laidByText := true, laidKinds := [.data], laidTests := true, laidLooks := .later }
def AccountPlaysCardSaid : Prop := Claim7.holds Tryz.pinned (.plain (OpenSpec.ofChange accountPlaysSpec)) accountPlaysCard

/-- THE SECOND FORM's CARD OF 'drawbridgelaw21.AccountPlays'. -/
def accountPlaysUptoCard : Claim7 := { stood := { row := accountPlaysUptoRow, standIns := [], harness := (true, "98dd0630bd4f5eb0dec3e7e2b65af403ff4f8683e469d0c453ad32bc14f48584"), looks := true }, kinds := [], alts := [], laidByText := true, laidKinds := [.data], laidTests := true, laidLooks := .later }
def AccountPlaysUptoCardSaid : Prop := Claim7.holds Tryz.pinned (.plain (OpenSpec.upto accountPlaysSpec)) accountPlaysUptoCard
end Rows
end Go.Proofs.YtfhdfpejjgmdcaaGreatDoor
