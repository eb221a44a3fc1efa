/-
  DERIVED. GIVEN WITH THE SEED: THE CARDS: each row of YtkkfaffehbjdgaaGreatDoorRows.lean that lists a variable, with what it lists TIED to the program's text (the seventh form; the later family's looks); each row that meets fmt, with fmt's text TOLD by the authors' own Lean function (tested against real Go, not proved from fmt's source: count such statements apart). THE CARD IS WHAT COUNTS. Prove the row's statement (the work); the ties are given (YtkkfaffehbjdgaaGreatDoorTie.lean); close each card by the builder's one call (the guide's Derived/Test/ToyasCard.lean, 'card_holds'). Laid BY PROGRAM, IN A SANDBOX (cutbox-door.mjs). By AI agents, Wed Nov 11 2026. No macro, syntax, notation, axiom, sorry.
-/
import Derived.Test.YtkkfaffehbjdgaaGreatDoorRows
import GoSem.ClaimSeven
namespace Go.Proofs.YtkkfaffehbjdgaaGreatDoor
namespace Rows

/-- THE TIED CARD OF 'drawbridgelaw14.CertBetter'. -/
def certBetterCard : Claim7 := { stood := { row := certBetterRow, standIns := [], harness := (true, "36077d7fd48cd0b2acd9789e93c92e9d1a9597d695306222f1d23764c011a658"), looks := false }, kinds := [], alts := [], laidByText := true, laidKinds := [.data], laidTests := true, laidLooks := .later }
def CertBetterCardSaid : Prop := Claim7.holds Tryz.pinned (.plain (OpenSpec.ofChange certBetterSpec)) certBetterCard

/-- THE TIED CARD OF 'drawbridgelaw14.CertWindow'. -/
def certWindowCard : Claim7 := { stood := { row := certWindowRow, standIns := [], harness := (true, "36077d7fd48cd0b2acd9789e93c92e9d1a9597d695306222f1d23764c011a658"), looks := false }, kinds := [], alts := [], laidByText := true, laidKinds := [.data], laidTests := true, laidLooks := .later }
def CertWindowCardSaid : Prop := Claim7.holds Tryz.pinned (.plain (OpenSpec.ofChange certWindowSpec)) certWindowCard

/-- THE TIED CARD OF 'drawbridgelaw14.CertMoney'. -/
def certMoneyCard : Claim7 := { stood := { row := certMoneyRow, standIns := [], harness := (true, "36077d7fd48cd0b2acd9789e93c92e9d1a9597d695306222f1d23764c011a658"), looks := false }, kinds := [], alts := [], laidByText := true, laidKinds := [.data], laidTests := true, laidLooks := .later }
def CertMoneyCardSaid : Prop := Claim7.holds Tryz.pinned (.plain (OpenSpec.ofChange certMoneySpec)) certMoneyCard

/-- THE TIED CARD OF 'drawbridgelaw14.CertSigns'. -/
def certSignsCard : Claim7 := { stood := { row := certSignsRow, standIns := [], harness := (true, "36077d7fd48cd0b2acd9789e93c92e9d1a9597d695306222f1d23764c011a658"), looks := false }, kinds := [], alts := [], laidByText := true, laidKinds := [.data], laidTests := true, laidLooks := .later }
def CertSignsCardSaid : Prop := Claim7.holds Tryz.pinned (.plain (OpenSpec.ofChange certSignsSpec)) certSignsCard

/-- THE SECOND FORM's CARD OF 'drawbridgelaw14.CertBetter'. -/
def certBetterUptoCard : Claim7 := { stood := { row := certBetterUptoRow, standIns := [], harness := (true, "36077d7fd48cd0b2acd9789e93c92e9d1a9597d695306222f1d23764c011a658"), looks := false }, kinds := [], alts := [], laidByText := true, laidKinds := [.data], laidTests := true, laidLooks := .later }
def CertBetterUptoCardSaid : Prop := Claim7.holds Tryz.pinned (.plain (OpenSpec.upto certBetterSpec)) certBetterUptoCard

/-- THE SECOND FORM's CARD OF 'drawbridgelaw14.CertWindow'. -/
def certWindowUptoCard : Claim7 := { stood := { row := certWindowUptoRow, standIns := [], harness := (true, "36077d7fd48cd0b2acd9789e93c92e9d1a9597d695306222f1d23764c011a658"), looks := false }, kinds := [], alts := [], laidByText := true, laidKinds := [.data], laidTests := true, laidLooks := .later }
def CertWindowUptoCardSaid : Prop := Claim7.holds Tryz.pinned (.plain (OpenSpec.upto certWindowSpec)) certWindowUptoCard

/-- THE SECOND FORM's CARD OF 'drawbridgelaw14.CertMoney'. -/
def certMoneyUptoCard : Claim7 := { stood := { row := certMoneyUptoRow, standIns := [], harness := (true, "36077d7fd48cd0b2acd9789e93c92e9d1a9597d695306222f1d23764c011a658"), looks := false }, kinds := [], alts := [], laidByText := true, laidKinds := [.data], laidTests := true, laidLooks := .later }
def CertMoneyUptoCardSaid : Prop := Claim7.holds Tryz.pinned (.plain (OpenSpec.upto certMoneySpec)) certMoneyUptoCard

/-- THE SECOND FORM's CARD OF 'drawbridgelaw14.CertSigns'. -/
def certSignsUptoCard : Claim7 := { stood := { row := certSignsUptoRow, standIns := [], harness := (true, "36077d7fd48cd0b2acd9789e93c92e9d1a9597d695306222f1d23764c011a658"), looks := false }, kinds := [], alts := [], laidByText := true, laidKinds := [.data], laidTests := true, laidLooks := .later }
def CertSignsUptoCardSaid : Prop := Claim7.holds Tryz.pinned (.plain (OpenSpec.upto certSignsSpec)) certSignsUptoCard
end Rows
end Go.Proofs.YtkkfaffehbjdgaaGreatDoor
