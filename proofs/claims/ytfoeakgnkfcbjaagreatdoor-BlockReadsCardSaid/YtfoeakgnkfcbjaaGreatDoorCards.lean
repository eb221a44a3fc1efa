/-
  DERIVED. GIVEN WITH THE SEED: THE CARDS: each row of YtfoeakgnkfcbjaaGreatDoorRows.lean that lists a variable, with what it lists TIED to the program's text (the seventh form; the later family's looks); each row that meets fmt, with fmt's text TOLD by the authors' own Lean function (tested against real Go, not proved from fmt's source: count such statements apart). THE CARD IS WHAT COUNTS. Prove the row's statement (the work); the ties are given (YtfoeakgnkfcbjaaGreatDoorTie.lean); close each card by the builder's one call (the guide's Derived/Test/ToyasCard.lean, 'card_holds'). Laid BY PROGRAM, IN A SANDBOX (cutbox-door.mjs). By AI agents, Wed Nov 11 2026. No macro, syntax, notation, axiom, sorry.
-/
import Derived.Test.YtfoeakgnkfcbjaaGreatDoorRows
import GoSem.ClaimSeven
namespace Go.Proofs.YtfoeakgnkfcbjaaGreatDoor
namespace Rows

/-- THE TIED CARD OF 'drawbridgelaw17.BlockParts'. -/
def blockPartsCard : Claim7 := { stood := { row := blockPartsRow, standIns := [], harness := (true, "2c15dbf5f2c6038776e2c7cb66969a86c92f1f1bf90056f22443a7f506293edb"), looks := true }, kinds := [], alts := [], laidByText := true, laidKinds := [.data], laidTests := true, laidLooks := .later }
def BlockPartsCardSaid : Prop := Claim7.holds Tryz.pinned (.plain (OpenSpec.ofChange blockPartsSpec)) blockPartsCard

/-- THE TIED CARD OF 'drawbridgelaw17.BlockCuts'. -/
def blockCutsCard : Claim7 := { stood := { row := blockCutsRow, standIns := [], harness := (true, "2c15dbf5f2c6038776e2c7cb66969a86c92f1f1bf90056f22443a7f506293edb"), looks := true }, kinds := [], alts := [], laidByText := true, laidKinds := [.data], laidTests := true, laidLooks := .later }
def BlockCutsCardSaid : Prop := Claim7.holds Tryz.pinned (.plain (OpenSpec.ofChange blockCutsSpec)) blockCutsCard

/-- THE TIED CARD OF 'drawbridgelaw17.BlockWrites'. -/
def blockWritesCard : Claim7 := { stood := { row := blockWritesRow, standIns := [], harness := (true, "2c15dbf5f2c6038776e2c7cb66969a86c92f1f1bf90056f22443a7f506293edb"), looks := true }, kinds := [], alts := [], laidByText := true, laidKinds := [.data], laidTests := true, laidLooks := .later }
def BlockWritesCardSaid : Prop := Claim7.holds Tryz.pinned (.plain (OpenSpec.ofChange blockWritesSpec)) blockWritesCard

/-- THE TIED CARD OF 'drawbridgelaw17.BlockReads'. -/
def blockReadsCard : Claim7 := { stood := { row := blockReadsRow, standIns := [], harness := (true, "2c15dbf5f2c6038776e2c7cb66969a86c92f1f1bf90056f22443a7f506293edb"), looks := true }, kinds := [], alts := [], laidByText := true, laidKinds := [.data], laidTests := true, laidLooks := .later }
def BlockReadsCardSaid : Prop := Claim7.holds Tryz.pinned (.plain (OpenSpec.ofChange blockReadsSpec)) blockReadsCard

/-- THE TIED CARD OF 'drawbridgelaw17.BlockWork'. -/
def blockWorkCard : Claim7 := { stood := { row := blockWorkRow, standIns := [], harness := (true, "2c15dbf5f2c6038776e2c7cb66969a86c92f1f1bf90056f22443a7f506293edb"), looks := true }, kinds := [], alts := [], laidByText := true, laidKinds := [.data], laidTests := true, laidLooks := .later }
def BlockWorkCardSaid : Prop := Claim7.holds Tryz.pinned (.plain (OpenSpec.ofChange blockWorkSpec)) blockWorkCard

/-- THE TIED CARD OF 'drawbridgelaw17.BlockRoots'. -/
def blockRootsCard : Claim7 := { stood := { row := blockRootsRow, standIns := [], harness := (true, "2c15dbf5f2c6038776e2c7cb66969a86c92f1f1bf90056f22443a7f506293edb"), looks := true }, kinds := [], alts := [], laidByText := true, laidKinds := [.data], laidTests := true, laidLooks := .later }
def BlockRootsCardSaid : Prop := Claim7.holds Tryz.pinned (.plain (OpenSpec.ofChange blockRootsSpec)) blockRootsCard

/-- THE SECOND FORM's CARD OF 'drawbridgelaw17.BlockParts'. -/
def blockPartsUptoCard : Claim7 := { stood := { row := blockPartsUptoRow, standIns := [], harness := (true, "2c15dbf5f2c6038776e2c7cb66969a86c92f1f1bf90056f22443a7f506293edb"), looks := true }, kinds := [], alts := [], laidByText := true, laidKinds := [.data], laidTests := true, laidLooks := .later }
def BlockPartsUptoCardSaid : Prop := Claim7.holds Tryz.pinned (.plain (OpenSpec.upto blockPartsSpec)) blockPartsUptoCard

/-- THE SECOND FORM's CARD OF 'drawbridgelaw17.BlockCuts'. -/
def blockCutsUptoCard : Claim7 := { stood := { row := blockCutsUptoRow, standIns := [], harness := (true, "2c15dbf5f2c6038776e2c7cb66969a86c92f1f1bf90056f22443a7f506293edb"), looks := true }, kinds := [], alts := [], laidByText := true, laidKinds := [.data], laidTests := true, laidLooks := .later }
def BlockCutsUptoCardSaid : Prop := Claim7.holds Tryz.pinned (.plain (OpenSpec.upto blockCutsSpec)) blockCutsUptoCard

/-- THE SECOND FORM's CARD OF 'drawbridgelaw17.BlockWrites'. -/
def blockWritesUptoCard : Claim7 := { stood := { row := blockWritesUptoRow, standIns := [], harness := (true, "2c15dbf5f2c6038776e2c7cb66969a86c92f1f1bf90056f22443a7f506293edb"), looks := true }, kinds := [], alts := [], laidByText := true, laidKinds := [.data], laidTests := true, laidLooks := .later }
def BlockWritesUptoCardSaid : Prop := Claim7.holds Tryz.pinned (.plain (OpenSpec.upto blockWritesSpec)) blockWritesUptoCard

/-- THE SECOND FORM's CARD OF 'drawbridgelaw17.BlockReads'. -/
def blockReadsUptoCard : Claim7 := { stood := { row := blockReadsUptoRow, standIns := [], harness := (true, "2c15dbf5f2c6038776e2c7cb66969a86c92f1f1bf90056f22443a7f506293edb"), looks := true }, kinds := [], alts := [], laidByText := true, laidKinds := [.data], laidTests := true, laidLooks := .later }
def BlockReadsUptoCardSaid : Prop := Claim7.holds Tryz.pinned (.plain (OpenSpec.upto blockReadsSpec)) blockReadsUptoCard

/-- THE SECOND FORM's CARD OF 'drawbridgelaw17.BlockWork'. -/
def blockWorkUptoCard : Claim7 := { stood := { row := blockWorkUptoRow, standIns := [], harness := (true, "2c15dbf5f2c6038776e2c7cb66969a86c92f1f1bf90056f22443a7f506293edb"), looks := true }, kinds := [], alts := [], laidByText := true, laidKinds := [.data], laidTests := true, laidLooks := .later }
def BlockWorkUptoCardSaid : Prop := Claim7.holds Tryz.pinned (.plain (OpenSpec.upto blockWorkSpec)) blockWorkUptoCard

/-- THE SECOND FORM's CARD OF 'drawbridgelaw17.BlockRoots'. -/
def blockRootsUptoCard : Claim7 := { stood := { row := blockRootsUptoRow, standIns := [], harness := (true, "2c15dbf5f2c6038776e2c7cb66969a86c92f1f1bf90056f22443a7f506293edb"), looks := true }, kinds := [], alts := [], laidByText := true, laidKinds := [.data], laidTests := true, laidLooks := .later }
def BlockRootsUptoCardSaid : Prop := Claim7.holds Tryz.pinned (.plain (OpenSpec.upto blockRootsSpec)) blockRootsUptoCard
end Rows
end Go.Proofs.YtfoeakgnkfcbjaaGreatDoor
