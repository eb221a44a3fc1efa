/-
  DERIVED. GIVEN WITH THE SEED: THE CARDS: each row of YtmajfapnbchecaaGreatDoorRows.lean that lists a variable, with what it lists TIED to the program's text (the seventh form; the later family's looks); each row that meets fmt, with fmt's text TOLD by the authors' own Lean function (tested against real Go, not proved from fmt's source: count such statements apart). THE CARD IS WHAT COUNTS. Prove the row's statement (the work); the ties are given (YtmajfapnbchecaaGreatDoorTie.lean); close each card by the builder's one call (the guide's Derived/Test/ToyasCard.lean, 'card_holds'). Laid BY PROGRAM, IN A SANDBOX (cutbox-door.mjs). By AI agents, Wed Nov 11 2026. No macro, syntax, notation, axiom, sorry.
-/
import Derived.Test.YtmajfapnbchecaaGreatDoorRows
import GoSem.ClaimSeven
namespace Go.Proofs.YtmajfapnbchecaaGreatDoor
namespace Rows

/-- THE TIED CARD OF 'drawbridgelaw10.TxReads'. -/
def txReadsCard : Claim7 := { stood := { row := txReadsRow, standIns := [], harness := (true, "fab1424e82b37d6cd9d5a9df7edcf3985ed4134fbb46e2519c71690e9d674605"), looks := true }, kinds := [], alts := [], laidByText := true, laidKinds := [.data], laidTests := true, laidLooks := .later }
def TxReadsCardSaid : Prop := Claim7.holds Tryz.pinned (.plain (OpenSpec.ofChange txReadsSpec)) txReadsCard

/-- THE TIED CARD OF 'drawbridgelaw10.TxMessages'. -/
def txMessagesCard : Claim7 := { stood := { row := txMessagesRow, standIns := [], harness := (true, "fab1424e82b37d6cd9d5a9df7edcf3985ed4134fbb46e2519c71690e9d674605"), looks := true }, kinds := [], alts := [], laidByText := true, laidKinds := [.data], laidTests := true, laidLooks := .later }
def TxMessagesCardSaid : Prop := Claim7.holds Tryz.pinned (.plain (OpenSpec.ofChange txMessagesSpec)) txMessagesCard

/-- THE SECOND FORM's CARD OF 'drawbridgelaw10.TxReads'. -/
def txReadsUptoCard : Claim7 := { stood := { row := txReadsUptoRow, standIns := [], harness := (true, "fab1424e82b37d6cd9d5a9df7edcf3985ed4134fbb46e2519c71690e9d674605"), looks := true }, kinds := [], alts := [], laidByText := true, laidKinds := [.data], laidTests := true, laidLooks := .later }
def TxReadsUptoCardSaid : Prop := Claim7.holds Tryz.pinned (.plain (OpenSpec.upto txReadsSpec)) txReadsUptoCard

/-- THE SECOND FORM's CARD OF 'drawbridgelaw10.TxMessages'. -/
def txMessagesUptoCard : Claim7 := { stood := { row := txMessagesUptoRow, standIns := [], harness := (true, "fab1424e82b37d6cd9d5a9df7edcf3985ed4134fbb46e2519c71690e9d674605"), looks := true }, kinds := [], alts := [], laidByText := true, laidKinds := [.data], laidTests := true, laidLooks := .later }
def TxMessagesUptoCardSaid : Prop := Claim7.holds Tryz.pinned (.plain (OpenSpec.upto txMessagesSpec)) txMessagesUptoCard
end Rows
end Go.Proofs.YtmajfapnbchecaaGreatDoor
