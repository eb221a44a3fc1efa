/-
  DERIVED. GIVEN WITH THE SEED: THE CARDS: each row of YtilfbomjaflbjaaDoorRows.lean that lists a variable, with what it lists TIED to the program's text (the seventh form; the later family's looks); each row that meets fmt, with fmt's text TOLD by the authors' own Lean function (tested against real Go, not proved from fmt's source: count such statements apart). THE CARD IS WHAT COUNTS. Prove the row's statement (the work); the ties are given (YtilfbomjaflbjaaDoorTie.lean); close each card by the builder's one call (the guide's Derived/Test/ToyasCard.lean, 'card_holds'). Laid BY PROGRAM, IN A SANDBOX (cutbox-door.mjs). By AI agents, Wed Nov 11 2026. No macro, syntax, notation, axiom, sorry.
-/
import Derived.Test.YtilfbomjaflbjaaDoorRows
import GoSem.ClaimSeven
namespace Go.Proofs.YtilfbomjaflbjaaDoor
namespace Rows

/-- THE TIED CARD OF 'drawbridgelaw8.KeytreeSigns'. -/
def keytreeSignsCard : Claim7 := { stood := { row := keytreeSignsRow, standIns := [], harness := (true, "253b6bd05e389aab8d22523619a6ee3f1d0b9e28f9f7edc5b0eca7f89066c4d9"), looks := false }, kinds := [], alts := [], laidByText := true, laidKinds := [.data], laidTests := true, laidLooks := .later }
def KeytreeSignsCardSaid : Prop := Claim7.holds Tryd.pinned (.plain (OpenSpec.ofChange keytreeSignsSpec)) keytreeSignsCard

/-- THE TIED CARD OF 'drawbridgelaw8.KeytreeChecks'. -/
def keytreeChecksCard : Claim7 := { stood := { row := keytreeChecksRow, standIns := [], harness := (true, "253b6bd05e389aab8d22523619a6ee3f1d0b9e28f9f7edc5b0eca7f89066c4d9"), looks := false }, kinds := [], alts := [], laidByText := true, laidKinds := [.data], laidTests := true, laidLooks := .later }
def KeytreeChecksCardSaid : Prop := Claim7.holds Tryd.pinned (.plain (OpenSpec.ofChange keytreeChecksSpec)) keytreeChecksCard

/-- THE TIED CARD OF 'drawbridgelaw8.KeytreeAll'. -/
def keytreeAllCard : Claim7 := { stood := { row := keytreeAllRow, standIns := [], harness := (true, "253b6bd05e389aab8d22523619a6ee3f1d0b9e28f9f7edc5b0eca7f89066c4d9"), looks := false }, kinds := [], alts := [], laidByText := true, laidKinds := [.data], laidTests := true, laidLooks := .later }
def KeytreeAllCardSaid : Prop := Claim7.holds Tryd.pinned (.plain (OpenSpec.ofChange keytreeAllSpec)) keytreeAllCard

/-- THE TIED CARD OF 'drawbridgelaw8.KeytreePaths'. -/
def keytreePathsCard : Claim7 := { stood := { row := keytreePathsRow, standIns := [], harness := (true, "253b6bd05e389aab8d22523619a6ee3f1d0b9e28f9f7edc5b0eca7f89066c4d9"), looks := false }, kinds := [], alts := [], laidByText := true, laidKinds := [.data], laidTests := true, laidLooks := .later }
def KeytreePathsCardSaid : Prop := Claim7.holds Tryd.pinned (.plain (OpenSpec.ofChange keytreePathsSpec)) keytreePathsCard

/-- THE TIED CARD OF 'drawbridgelaw9.QuorumMay'. -/
def quorumMayCard : Claim7 := { stood := { row := quorumMayRow, standIns := [], harness := (true, "253b6bd05e389aab8d22523619a6ee3f1d0b9e28f9f7edc5b0eca7f89066c4d9"), looks := false }, kinds := [], alts := [], laidByText := true, laidKinds := [.data], laidTests := true, laidLooks := .later }
def QuorumMayCardSaid : Prop := Claim7.holds Tryd.pinned (.plain (OpenSpec.ofChange quorumMaySpec)) quorumMayCard

/-- THE TIED CARD OF 'drawbridgelaw9.QuorumChecks'. -/
def quorumChecksCard : Claim7 := { stood := { row := quorumChecksRow, standIns := [], harness := (true, "253b6bd05e389aab8d22523619a6ee3f1d0b9e28f9f7edc5b0eca7f89066c4d9"), looks := false }, kinds := [], alts := [], laidByText := true, laidKinds := [.data], laidTests := true, laidLooks := .later }
def QuorumChecksCardSaid : Prop := Claim7.holds Tryd.pinned (.plain (OpenSpec.ofChange quorumChecksSpec)) quorumChecksCard

/-- THE TIED CARD OF 'drawbridgelaw9.QuorumMore'. -/
def quorumMoreCard : Claim7 := { stood := { row := quorumMoreRow, standIns := [], harness := (true, "253b6bd05e389aab8d22523619a6ee3f1d0b9e28f9f7edc5b0eca7f89066c4d9"), looks := false }, kinds := [], alts := [], laidByText := true, laidKinds := [.data], laidTests := true, laidLooks := .later }
def QuorumMoreCardSaid : Prop := Claim7.holds Tryd.pinned (.plain (OpenSpec.ofChange quorumMoreSpec)) quorumMoreCard

/-- THE TIED CARD OF 'drawbridgelaw9.QuorumOrder'. -/
def quorumOrderCard : Claim7 := { stood := { row := quorumOrderRow, standIns := [], harness := (true, "253b6bd05e389aab8d22523619a6ee3f1d0b9e28f9f7edc5b0eca7f89066c4d9"), looks := false }, kinds := [], alts := [], laidByText := true, laidKinds := [.data], laidTests := true, laidLooks := .later }
def QuorumOrderCardSaid : Prop := Claim7.holds Tryd.pinned (.plain (OpenSpec.ofChange quorumOrderSpec)) quorumOrderCard

/-- THE SECOND FORM's CARD OF 'drawbridgelaw8.KeytreeSigns'. -/
def keytreeSignsUptoCard : Claim7 := { stood := { row := keytreeSignsUptoRow, standIns := [], harness := (true, "253b6bd05e389aab8d22523619a6ee3f1d0b9e28f9f7edc5b0eca7f89066c4d9"), looks := false }, kinds := [], alts := [], laidByText := true, laidKinds := [.data], laidTests := true, laidLooks := .later }
def KeytreeSignsUptoCardSaid : Prop := Claim7.holds Tryd.pinned (.plain (OpenSpec.upto keytreeSignsSpec)) keytreeSignsUptoCard

/-- THE SECOND FORM's CARD OF 'drawbridgelaw8.KeytreeChecks'. -/
def keytreeChecksUptoCard : Claim7 := { stood := { row := keytreeChecksUptoRow, standIns := [], harness := (true, "253b6bd05e389aab8d22523619a6ee3f1d0b9e28f9f7edc5b0eca7f89066c4d9"), looks := false }, kinds := [], alts := [], laidByText := true, laidKinds := [.data], laidTests := true, laidLooks := .later }
def KeytreeChecksUptoCardSaid : Prop := Claim7.holds Tryd.pinned (.plain (OpenSpec.upto keytreeChecksSpec)) keytreeChecksUptoCard

/-- THE SECOND FORM's CARD OF 'drawbridgelaw8.KeytreeAll'. -/
def keytreeAllUptoCard : Claim7 := { stood := { row := keytreeAllUptoRow, standIns := [], harness := (true, "253b6bd05e389aab8d22523619a6ee3f1d0b9e28f9f7edc5b0eca7f89066c4d9"), looks := false }, kinds := [], alts := [], laidByText := true, laidKinds := [.data], laidTests := true, laidLooks := .later }
def KeytreeAllUptoCardSaid : Prop := Claim7.holds Tryd.pinned (.plain (OpenSpec.upto keytreeAllSpec)) keytreeAllUptoCard

/-- THE SECOND FORM's CARD OF 'drawbridgelaw8.KeytreePaths'. -/
def keytreePathsUptoCard : Claim7 := { stood := { row := keytreePathsUptoRow, standIns := [], harness := (true, "253b6bd05e389aab8d22523619a6ee3f1d0b9e28f9f7edc5b0eca7f89066c4d9"), looks := false }, kinds := [], alts := [], laidByText := true, laidKinds := [.data], laidTests := true, laidLooks := .later }
def KeytreePathsUptoCardSaid : Prop := Claim7.holds Tryd.pinned (.plain (OpenSpec.upto keytreePathsSpec)) keytreePathsUptoCard

/-- THE SECOND FORM's CARD OF 'drawbridgelaw9.QuorumMay'. -/
def quorumMayUptoCard : Claim7 := { stood := { row := quorumMayUptoRow, standIns := [], harness := (true, "253b6bd05e389aab8d22523619a6ee3f1d0b9e28f9f7edc5b0eca7f89066c4d9"), looks := false }, kinds := [], alts := [], laidByText := true, laidKinds := [.data], laidTests := true, laidLooks := .later }
def QuorumMayUptoCardSaid : Prop := Claim7.holds Tryd.pinned (.plain (OpenSpec.upto quorumMaySpec)) quorumMayUptoCard

/-- THE SECOND FORM's CARD OF 'drawbridgelaw9.QuorumChecks'. -/
def quorumChecksUptoCard : Claim7 := { stood := { row := quorumChecksUptoRow, standIns := [], harness := (true, "253b6bd05e389aab8d22523619a6ee3f1d0b9e28f9f7edc5b0eca7f89066c4d9"), looks := false }, kinds := [], alts := [], laidByText := true, laidKinds := [.data], laidTests := true, laidLooks := .later }
def QuorumChecksUptoCardSaid : Prop := Claim7.holds Tryd.pinned (.plain (OpenSpec.upto quorumChecksSpec)) quorumChecksUptoCard

/-- THE SECOND FORM's CARD OF 'drawbridgelaw9.QuorumMore'. -/
def quorumMoreUptoCard : Claim7 := { stood := { row := quorumMoreUptoRow, standIns := [], harness := (true, "253b6bd05e389aab8d22523619a6ee3f1d0b9e28f9f7edc5b0eca7f89066c4d9"), looks := false }, kinds := [], alts := [], laidByText := true, laidKinds := [.data], laidTests := true, laidLooks := .later }
def QuorumMoreUptoCardSaid : Prop := Claim7.holds Tryd.pinned (.plain (OpenSpec.upto quorumMoreSpec)) quorumMoreUptoCard

/-- THE SECOND FORM's CARD OF 'drawbridgelaw9.QuorumOrder'. -/
def quorumOrderUptoCard : Claim7 := { stood := { row := quorumOrderUptoRow, standIns := [], harness := (true, "253b6bd05e389aab8d22523619a6ee3f1d0b9e28f9f7edc5b0eca7f89066c4d9"), looks := false }, kinds := [], alts := [], laidByText := true, laidKinds := [.data], laidTests := true, laidLooks := .later }
def QuorumOrderUptoCardSaid : Prop := Claim7.holds Tryd.pinned (.plain (OpenSpec.upto quorumOrderSpec)) quorumOrderUptoCard
end Rows
end Go.Proofs.YtilfbomjaflbjaaDoor
