/-
  DERIVED. GIVEN WITH THE SEED: THE CARDS: each row of YtnkogpfmfmjhoaaDoorRows.lean that lists a variable, with what it lists TIED to the program's text (the seventh form; the later family's looks); each row that meets fmt, with fmt's text TOLD by the authors' own Lean function (tested against real Go, not proved from fmt's source: count such statements apart). THE CARD IS WHAT COUNTS. Prove the row's statement (the work); the ties are given (YtnkogpfmfmjhoaaDoorTie.lean); close each card by the builder's one call (the guide's Derived/Test/ToyasCard.lean, 'card_holds'). Laid BY PROGRAM, IN A SANDBOX (cutbox-door.mjs). By AI agents, Wed Nov 11 2026. No macro, syntax, notation, axiom, sorry.
-/
import Derived.Test.YtnkogpfmfmjhoaaDoorRows
import GoSem.ClaimSeven
namespace Go.Proofs.YtnkogpfmfmjhoaaDoor
namespace Rows

/-- THE TIED CARD OF 'drawbridgelaw7.LamportSigns'. -/
def lamportSignsCard : Claim7 := { stood := { row := lamportSignsRow, standIns := [], harness := (true, "ce9994c6819413f3f4647ba47be70e1dc1ca056df0a39a5122b88c7e76f00ddb"), looks := false }, kinds := [], alts := [], laidByText := true, laidKinds := [.data], laidTests := true, laidLooks := .later }
def LamportSignsCardSaid : Prop := Claim7.holds Tryd.pinned (.plain (OpenSpec.ofChange lamportSignsSpec)) lamportSignsCard

/-- THE TIED CARD OF 'drawbridgelaw7.LamportReads'. -/
def lamportReadsCard : Claim7 := { stood := { row := lamportReadsRow, standIns := [], harness := (true, "ce9994c6819413f3f4647ba47be70e1dc1ca056df0a39a5122b88c7e76f00ddb"), looks := false }, kinds := [], alts := [], laidByText := true, laidKinds := [.data], laidTests := true, laidLooks := .later }
def LamportReadsCardSaid : Prop := Claim7.holds Tryd.pinned (.plain (OpenSpec.ofChange lamportReadsSpec)) lamportReadsCard

/-- THE TIED CARD OF 'drawbridgelaw7.LamportHalves'. -/
def lamportHalvesCard : Claim7 := { stood := { row := lamportHalvesRow, standIns := [], harness := (true, "ce9994c6819413f3f4647ba47be70e1dc1ca056df0a39a5122b88c7e76f00ddb"), looks := false }, kinds := [], alts := [], laidByText := true, laidKinds := [.data], laidTests := true, laidLooks := .later }
def LamportHalvesCardSaid : Prop := Claim7.holds Tryd.pinned (.plain (OpenSpec.ofChange lamportHalvesSpec)) lamportHalvesCard

/-- THE TIED CARD OF 'drawbridgelaw7.LamportKeys'. -/
def lamportKeysCard : Claim7 := { stood := { row := lamportKeysRow, standIns := [], harness := (true, "ce9994c6819413f3f4647ba47be70e1dc1ca056df0a39a5122b88c7e76f00ddb"), looks := false }, kinds := [], alts := [], laidByText := true, laidKinds := [.data], laidTests := true, laidLooks := .later }
def LamportKeysCardSaid : Prop := Claim7.holds Tryd.pinned (.plain (OpenSpec.ofChange lamportKeysSpec)) lamportKeysCard

/-- THE TIED CARD OF 'drawbridgelaw7.LamportTwo'. -/
def lamportTwoCard : Claim7 := { stood := { row := lamportTwoRow, standIns := [], harness := (true, "ce9994c6819413f3f4647ba47be70e1dc1ca056df0a39a5122b88c7e76f00ddb"), looks := false }, kinds := [], alts := [], laidByText := true, laidKinds := [.data], laidTests := true, laidLooks := .later }
def LamportTwoCardSaid : Prop := Claim7.holds Tryd.pinned (.plain (OpenSpec.ofChange lamportTwoSpec)) lamportTwoCard

/-- THE TIED CARD OF 'drawbridgelaw5.MerkleMakes'. -/
def merkleMakesCard : Claim7 := { stood := { row := merkleMakesRow, standIns := [], harness := (true, "ce9994c6819413f3f4647ba47be70e1dc1ca056df0a39a5122b88c7e76f00ddb"), looks := false }, kinds := [], alts := [], laidByText := true, laidKinds := [.data], laidTests := true, laidLooks := .later }
def MerkleMakesCardSaid : Prop := Claim7.holds Tryd.pinned (.plain (OpenSpec.ofChange merkleMakesSpec)) merkleMakesCard

/-- THE TIED CARD OF 'drawbridgelaw5.MerkleProves'. -/
def merkleProvesCard : Claim7 := { stood := { row := merkleProvesRow, standIns := [], harness := (true, "ce9994c6819413f3f4647ba47be70e1dc1ca056df0a39a5122b88c7e76f00ddb"), looks := false }, kinds := [], alts := [], laidByText := true, laidKinds := [.data], laidTests := true, laidLooks := .later }
def MerkleProvesCardSaid : Prop := Claim7.holds Tryd.pinned (.plain (OpenSpec.ofChange merkleProvesSpec)) merkleProvesCard

/-- THE TIED CARD OF 'drawbridgelaw5.MerkleChecks'. -/
def merkleChecksCard : Claim7 := { stood := { row := merkleChecksRow, standIns := [], harness := (true, "ce9994c6819413f3f4647ba47be70e1dc1ca056df0a39a5122b88c7e76f00ddb"), looks := false }, kinds := [], alts := [], laidByText := true, laidKinds := [.data], laidTests := true, laidLooks := .later }
def MerkleChecksCardSaid : Prop := Claim7.holds Tryd.pinned (.plain (OpenSpec.ofChange merkleChecksSpec)) merkleChecksCard

/-- THE TIED CARD OF 'drawbridgelaw5.MerkleParts'. -/
def merklePartsCard : Claim7 := { stood := { row := merklePartsRow, standIns := [], harness := (true, "ce9994c6819413f3f4647ba47be70e1dc1ca056df0a39a5122b88c7e76f00ddb"), looks := false }, kinds := [], alts := [], laidByText := true, laidKinds := [.data], laidTests := true, laidLooks := .later }
def MerklePartsCardSaid : Prop := Claim7.holds Tryd.pinned (.plain (OpenSpec.ofChange merklePartsSpec)) merklePartsCard

/-- THE SECOND FORM's CARD OF 'drawbridgelaw7.LamportSigns'. -/
def lamportSignsUptoCard : Claim7 := { stood := { row := lamportSignsUptoRow, standIns := [], harness := (true, "ce9994c6819413f3f4647ba47be70e1dc1ca056df0a39a5122b88c7e76f00ddb"), looks := false }, kinds := [], alts := [], laidByText := true, laidKinds := [.data], laidTests := true, laidLooks := .later }
def LamportSignsUptoCardSaid : Prop := Claim7.holds Tryd.pinned (.plain (OpenSpec.upto lamportSignsSpec)) lamportSignsUptoCard

/-- THE SECOND FORM's CARD OF 'drawbridgelaw7.LamportReads'. -/
def lamportReadsUptoCard : Claim7 := { stood := { row := lamportReadsUptoRow, standIns := [], harness := (true, "ce9994c6819413f3f4647ba47be70e1dc1ca056df0a39a5122b88c7e76f00ddb"), looks := false }, kinds := [], alts := [], laidByText := true, laidKinds := [.data], laidTests := true, laidLooks := .later }
def LamportReadsUptoCardSaid : Prop := Claim7.holds Tryd.pinned (.plain (OpenSpec.upto lamportReadsSpec)) lamportReadsUptoCard

/-- THE SECOND FORM's CARD OF 'drawbridgelaw7.LamportHalves'. -/
def lamportHalvesUptoCard : Claim7 := { stood := { row := lamportHalvesUptoRow, standIns := [], harness := (true, "ce9994c6819413f3f4647ba47be70e1dc1ca056df0a39a5122b88c7e76f00ddb"), looks := false }, kinds := [], alts := [], laidByText := true, laidKinds := [.data], laidTests := true, laidLooks := .later }
def LamportHalvesUptoCardSaid : Prop := Claim7.holds Tryd.pinned (.plain (OpenSpec.upto lamportHalvesSpec)) lamportHalvesUptoCard

/-- THE SECOND FORM's CARD OF 'drawbridgelaw7.LamportKeys'. -/
def lamportKeysUptoCard : Claim7 := { stood := { row := lamportKeysUptoRow, standIns := [], harness := (true, "ce9994c6819413f3f4647ba47be70e1dc1ca056df0a39a5122b88c7e76f00ddb"), looks := false }, kinds := [], alts := [], laidByText := true, laidKinds := [.data], laidTests := true, laidLooks := .later }
def LamportKeysUptoCardSaid : Prop := Claim7.holds Tryd.pinned (.plain (OpenSpec.upto lamportKeysSpec)) lamportKeysUptoCard

/-- THE SECOND FORM's CARD OF 'drawbridgelaw7.LamportTwo'. -/
def lamportTwoUptoCard : Claim7 := { stood := { row := lamportTwoUptoRow, standIns := [], harness := (true, "ce9994c6819413f3f4647ba47be70e1dc1ca056df0a39a5122b88c7e76f00ddb"), looks := false }, kinds := [], alts := [], laidByText := true, laidKinds := [.data], laidTests := true, laidLooks := .later }
def LamportTwoUptoCardSaid : Prop := Claim7.holds Tryd.pinned (.plain (OpenSpec.upto lamportTwoSpec)) lamportTwoUptoCard

/-- THE SECOND FORM's CARD OF 'drawbridgelaw5.MerkleMakes'. -/
def merkleMakesUptoCard : Claim7 := { stood := { row := merkleMakesUptoRow, standIns := [], harness := (true, "ce9994c6819413f3f4647ba47be70e1dc1ca056df0a39a5122b88c7e76f00ddb"), looks := false }, kinds := [], alts := [], laidByText := true, laidKinds := [.data], laidTests := true, laidLooks := .later }
def MerkleMakesUptoCardSaid : Prop := Claim7.holds Tryd.pinned (.plain (OpenSpec.upto merkleMakesSpec)) merkleMakesUptoCard

/-- THE SECOND FORM's CARD OF 'drawbridgelaw5.MerkleProves'. -/
def merkleProvesUptoCard : Claim7 := { stood := { row := merkleProvesUptoRow, standIns := [], harness := (true, "ce9994c6819413f3f4647ba47be70e1dc1ca056df0a39a5122b88c7e76f00ddb"), looks := false }, kinds := [], alts := [], laidByText := true, laidKinds := [.data], laidTests := true, laidLooks := .later }
def MerkleProvesUptoCardSaid : Prop := Claim7.holds Tryd.pinned (.plain (OpenSpec.upto merkleProvesSpec)) merkleProvesUptoCard

/-- THE SECOND FORM's CARD OF 'drawbridgelaw5.MerkleChecks'. -/
def merkleChecksUptoCard : Claim7 := { stood := { row := merkleChecksUptoRow, standIns := [], harness := (true, "ce9994c6819413f3f4647ba47be70e1dc1ca056df0a39a5122b88c7e76f00ddb"), looks := false }, kinds := [], alts := [], laidByText := true, laidKinds := [.data], laidTests := true, laidLooks := .later }
def MerkleChecksUptoCardSaid : Prop := Claim7.holds Tryd.pinned (.plain (OpenSpec.upto merkleChecksSpec)) merkleChecksUptoCard

/-- THE SECOND FORM's CARD OF 'drawbridgelaw5.MerkleParts'. -/
def merklePartsUptoCard : Claim7 := { stood := { row := merklePartsUptoRow, standIns := [], harness := (true, "ce9994c6819413f3f4647ba47be70e1dc1ca056df0a39a5122b88c7e76f00ddb"), looks := false }, kinds := [], alts := [], laidByText := true, laidKinds := [.data], laidTests := true, laidLooks := .later }
def MerklePartsUptoCardSaid : Prop := Claim7.holds Tryd.pinned (.plain (OpenSpec.upto merklePartsSpec)) merklePartsUptoCard
end Rows
end Go.Proofs.YtnkogpfmfmjhoaaDoor
