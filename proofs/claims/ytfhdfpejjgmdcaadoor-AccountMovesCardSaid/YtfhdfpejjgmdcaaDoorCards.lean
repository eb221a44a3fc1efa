/-
  DERIVED. GIVEN WITH THE SEED: THE CARDS: each row of YtfhdfpejjgmdcaaDoorRows.lean that lists a variable, with what it lists TIED to the program's text (the seventh form; the later family's looks); each row that meets fmt, with fmt's text TOLD by the authors' own Lean function (tested against real Go, not proved from fmt's source: count such statements apart). THE CARD IS WHAT COUNTS. Prove the row's statement (the work); the ties are given (YtfhdfpejjgmdcaaDoorTie.lean); close each card by the builder's one call (the guide's Derived/Test/ToyasCard.lean, 'card_holds'). Laid BY PROGRAM, IN A SANDBOX (cutbox-door.mjs). By AI agents, Wed Nov 11 2026. No macro, syntax, notation, axiom, sorry.
-/
import Derived.Test.YtfhdfpejjgmdcaaDoorRows
import GoSem.ClaimSeven
namespace Go.Proofs.YtfhdfpejjgmdcaaDoor
namespace Rows

/-- THE TIED CARD OF 'drawbridgelaw21.AccountKeeps'. -/
def accountKeepsCard : Claim7 := { stood := { row := accountKeepsRow, standIns := [], harness := (true, "b58a82ed3fd66102a569333d831e5cd70fda0f9293c269334b64f923eb427a64"), looks := false }, kinds := [], alts := [], laidByText := true, laidKinds := [.data], laidTests := true, laidLooks := .later }
def AccountKeepsCardSaid : Prop := Claim7.holds Tryd.pinned (.plain (OpenSpec.ofChange accountKeepsSpec)) accountKeepsCard

/-- THE TIED CARD OF 'drawbridgelaw21.AccountSigns'. -/
def accountSignsCard : Claim7 := { stood := { row := accountSignsRow, standIns := [], harness := (true, "b58a82ed3fd66102a569333d831e5cd70fda0f9293c269334b64f923eb427a64"), looks := false }, kinds := [], alts := [], laidByText := true, laidKinds := [.data], laidTests := true, laidLooks := .later }
def AccountSignsCardSaid : Prop := Claim7.holds Tryd.pinned (.plain (OpenSpec.ofChange accountSignsSpec)) accountSignsCard

/-- THE TIED CARD OF 'drawbridgelaw21.AccountMoves'. -/
def accountMovesCard : Claim7 := { stood := { row := accountMovesRow, standIns := [], harness := (true, "b58a82ed3fd66102a569333d831e5cd70fda0f9293c269334b64f923eb427a64"), looks := false }, kinds := [], alts := [], laidByText := true, laidKinds := [.data], laidTests := true, laidLooks := .later }
def AccountMovesCardSaid : Prop := Claim7.holds Tryd.pinned (.plain (OpenSpec.ofChange accountMovesSpec)) accountMovesCard

/-- THE SECOND FORM's CARD OF 'drawbridgelaw21.AccountKeeps'. -/
def accountKeepsUptoCard : Claim7 := { stood := { row := accountKeepsUptoRow, standIns := [], harness := (true, "b58a82ed3fd66102a569333d831e5cd70fda0f9293c269334b64f923eb427a64"), looks := false }, kinds := [], alts := [], laidByText := true, laidKinds := [.data], laidTests := true, laidLooks := .later }
def AccountKeepsUptoCardSaid : Prop := Claim7.holds Tryd.pinned (.plain (OpenSpec.upto accountKeepsSpec)) accountKeepsUptoCard

/-- THE SECOND FORM's CARD OF 'drawbridgelaw21.AccountSigns'. -/
def accountSignsUptoCard : Claim7 := { stood := { row := accountSignsUptoRow, standIns := [], harness := (true, "b58a82ed3fd66102a569333d831e5cd70fda0f9293c269334b64f923eb427a64"), looks := false }, kinds := [], alts := [], laidByText := true, laidKinds := [.data], laidTests := true, laidLooks := .later }
def AccountSignsUptoCardSaid : Prop := Claim7.holds Tryd.pinned (.plain (OpenSpec.upto accountSignsSpec)) accountSignsUptoCard

/-- THE SECOND FORM's CARD OF 'drawbridgelaw21.AccountMoves'. -/
def accountMovesUptoCard : Claim7 := { stood := { row := accountMovesUptoRow, standIns := [], harness := (true, "b58a82ed3fd66102a569333d831e5cd70fda0f9293c269334b64f923eb427a64"), looks := false }, kinds := [], alts := [], laidByText := true, laidKinds := [.data], laidTests := true, laidLooks := .later }
def AccountMovesUptoCardSaid : Prop := Claim7.holds Tryd.pinned (.plain (OpenSpec.upto accountMovesSpec)) accountMovesUptoCard
end Rows
end Go.Proofs.YtfhdfpejjgmdcaaDoor
