/-
  DERIVED. GIVEN WITH THE SEED: THE CARDS: each row of YtmajfapnbchecaaDoorRows.lean that lists a variable, with what it lists TIED to the program's text (the seventh form; the later family's looks); each row that meets fmt, with fmt's text TOLD by the authors' own Lean function (tested against real Go, not proved from fmt's source: count such statements apart). THE CARD IS WHAT COUNTS. Prove the row's statement (the work); the ties are given (YtmajfapnbchecaaDoorTie.lean); close each card by the builder's one call (the guide's Derived/Test/ToyasCard.lean, 'card_holds'). Laid BY PROGRAM, IN A SANDBOX (cutbox-door.mjs). By AI agents, Wed Nov 11 2026. No macro, syntax, notation, axiom, sorry.
-/
import Derived.Test.YtmajfapnbchecaaDoorRows
import GoSem.ClaimSeven
namespace Go.Proofs.YtmajfapnbchecaaDoor
namespace Rows

/-- THE TIED CARD OF 'drawbridgelaw10.TxWrites'. -/
def txWritesCard : Claim7 := { stood := { row := txWritesRow, standIns := [], harness := (true, "56a999cda08f9f655b5bed254fa76a83aa13cc1543253b8a87106c676154d150"), looks := true }, kinds := [], alts := [], laidByText := true, laidKinds := [.data], laidTests := true, laidLooks := .later }
def TxWritesCardSaid : Prop := Claim7.holds Tryd.pinned (.plain (OpenSpec.ofChange txWritesSpec)) txWritesCard

/-- THE TIED CARD OF 'drawbridgelaw10.TxCuts'. -/
def txCutsCard : Claim7 := { stood := { row := txCutsRow, standIns := [], harness := (true, "56a999cda08f9f655b5bed254fa76a83aa13cc1543253b8a87106c676154d150"), looks := true }, kinds := [], alts := [], laidByText := true, laidKinds := [.data], laidTests := true, laidLooks := .later }
def TxCutsCardSaid : Prop := Claim7.holds Tryd.pinned (.plain (OpenSpec.ofChange txCutsSpec)) txCutsCard

/-- THE TIED CARD OF 'drawbridgelaw10.TxBack'. -/
def txBackCard : Claim7 := { stood := { row := txBackRow, standIns := [], harness := (true, "56a999cda08f9f655b5bed254fa76a83aa13cc1543253b8a87106c676154d150"), looks := true }, kinds := [], alts := [], laidByText := true, laidKinds := [.data], laidTests := true, laidLooks := .later }
def TxBackCardSaid : Prop := Claim7.holds Tryd.pinned (.plain (OpenSpec.ofChange txBackSpec)) txBackCard

/-- THE TIED CARD OF 'drawbridgelaw10.TxKinds'. -/
def txKindsCard : Claim7 := { stood := { row := txKindsRow, standIns := [], harness := (true, "56a999cda08f9f655b5bed254fa76a83aa13cc1543253b8a87106c676154d150"), looks := true }, kinds := [], alts := [], laidByText := true, laidKinds := [.data], laidTests := true, laidLooks := .later }
def TxKindsCardSaid : Prop := Claim7.holds Tryd.pinned (.plain (OpenSpec.ofChange txKindsSpec)) txKindsCard

/-- THE TIED CARD OF 'drawbridgelaw10.TxDigests'. -/
def txDigestsCard : Claim7 := { stood := { row := txDigestsRow, standIns := [], harness := (true, "56a999cda08f9f655b5bed254fa76a83aa13cc1543253b8a87106c676154d150"), looks := true }, kinds := [], alts := [], laidByText := true, laidKinds := [.data], laidTests := true, laidLooks := .later }
def TxDigestsCardSaid : Prop := Claim7.holds Tryd.pinned (.plain (OpenSpec.ofChange txDigestsSpec)) txDigestsCard

/-- THE SECOND FORM's CARD OF 'drawbridgelaw10.TxWrites'. -/
def txWritesUptoCard : Claim7 := { stood := { row := txWritesUptoRow, standIns := [], harness := (true, "56a999cda08f9f655b5bed254fa76a83aa13cc1543253b8a87106c676154d150"), looks := true }, kinds := [], alts := [], laidByText := true, laidKinds := [.data], laidTests := true, laidLooks := .later }
def TxWritesUptoCardSaid : Prop := Claim7.holds Tryd.pinned (.plain (OpenSpec.upto txWritesSpec)) txWritesUptoCard

/-- THE SECOND FORM's CARD OF 'drawbridgelaw10.TxCuts'. -/
def txCutsUptoCard : Claim7 := { stood := { row := txCutsUptoRow, standIns := [], harness := (true, "56a999cda08f9f655b5bed254fa76a83aa13cc1543253b8a87106c676154d150"), looks := true }, kinds := [], alts := [], laidByText := true, laidKinds := [.data], laidTests := true, laidLooks := .later }
def TxCutsUptoCardSaid : Prop := Claim7.holds Tryd.pinned (.plain (OpenSpec.upto txCutsSpec)) txCutsUptoCard

/-- THE SECOND FORM's CARD OF 'drawbridgelaw10.TxBack'. -/
def txBackUptoCard : Claim7 := { stood := { row := txBackUptoRow, standIns := [], harness := (true, "56a999cda08f9f655b5bed254fa76a83aa13cc1543253b8a87106c676154d150"), looks := true }, kinds := [], alts := [], laidByText := true, laidKinds := [.data], laidTests := true, laidLooks := .later }
def TxBackUptoCardSaid : Prop := Claim7.holds Tryd.pinned (.plain (OpenSpec.upto txBackSpec)) txBackUptoCard

/-- THE SECOND FORM's CARD OF 'drawbridgelaw10.TxKinds'. -/
def txKindsUptoCard : Claim7 := { stood := { row := txKindsUptoRow, standIns := [], harness := (true, "56a999cda08f9f655b5bed254fa76a83aa13cc1543253b8a87106c676154d150"), looks := true }, kinds := [], alts := [], laidByText := true, laidKinds := [.data], laidTests := true, laidLooks := .later }
def TxKindsUptoCardSaid : Prop := Claim7.holds Tryd.pinned (.plain (OpenSpec.upto txKindsSpec)) txKindsUptoCard

/-- THE SECOND FORM's CARD OF 'drawbridgelaw10.TxDigests'. -/
def txDigestsUptoCard : Claim7 := { stood := { row := txDigestsUptoRow, standIns := [], harness := (true, "56a999cda08f9f655b5bed254fa76a83aa13cc1543253b8a87106c676154d150"), looks := true }, kinds := [], alts := [], laidByText := true, laidKinds := [.data], laidTests := true, laidLooks := .later }
def TxDigestsUptoCardSaid : Prop := Claim7.holds Tryd.pinned (.plain (OpenSpec.upto txDigestsSpec)) txDigestsUptoCard
end Rows
end Go.Proofs.YtmajfapnbchecaaDoor
