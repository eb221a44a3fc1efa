/-
  DERIVED. GIVEN WITH THE SEED: THE CARDS: each row of YtaabinhpagbajaaDoorRows.lean that lists a variable, with what it lists TIED to the program's text (the seventh form; the later family's looks); each row that meets fmt, with fmt's text TOLD by the authors' own Lean function (tested against real Go, not proved from fmt's source: count such statements apart). THE CARD IS WHAT COUNTS. Prove the row's statement (the work); the ties are given (YtaabinhpagbajaaDoorTie.lean); close each card by the builder's one call (the guide's Derived/Test/ToyasCard.lean, 'card_holds'). Laid BY PROGRAM, IN A SANDBOX (cutbox-door.mjs). By AI agents, Wed Nov 11 2026. No macro, syntax, notation, axiom, sorry.
-/
import Derived.Test.YtaabinhpagbajaaDoorRows
import GoSem.ClaimSeven
namespace Go.Proofs.YtaabinhpagbajaaDoor
namespace Rows

/-- THE TIED CARD OF 'drawbridgelaw6.SparsePuts'. -/
def sparsePutsCard : Claim7 := { stood := { row := sparsePutsRow, standIns := [], harness := (true, "6cec7addf7fd8ac65b85b82b9a83299546b696162601a276d6f3ae2dcc1671cd"), looks := true }, kinds := [], alts := [], laidByText := true, laidKinds := [.data], laidTests := true, laidLooks := .later }
def SparsePutsCardSaid : Prop := Claim7.holds Tryd.pinned (.plain (OpenSpec.ofChange sparsePutsSpec)) sparsePutsCard

/-- THE TIED CARD OF 'drawbridgelaw6.SparseProves'. -/
def sparseProvesCard : Claim7 := { stood := { row := sparseProvesRow, standIns := [], harness := (true, "6cec7addf7fd8ac65b85b82b9a83299546b696162601a276d6f3ae2dcc1671cd"), looks := true }, kinds := [], alts := [], laidByText := true, laidKinds := [.data], laidTests := true, laidLooks := .later }
def SparseProvesCardSaid : Prop := Claim7.holds Tryd.pinned (.plain (OpenSpec.ofChange sparseProvesSpec)) sparseProvesCard

/-- THE TIED CARD OF 'drawbridgelaw6.SparseMany'. -/
def sparseManyCard : Claim7 := { stood := { row := sparseManyRow, standIns := [], harness := (true, "6cec7addf7fd8ac65b85b82b9a83299546b696162601a276d6f3ae2dcc1671cd"), looks := true }, kinds := [], alts := [], laidByText := true, laidKinds := [.data], laidTests := true, laidLooks := .later }
def SparseManyCardSaid : Prop := Claim7.holds Tryd.pinned (.plain (OpenSpec.ofChange sparseManySpec)) sparseManyCard

/-- THE TIED CARD OF 'drawbridgelaw6.SparseOrder'. -/
def sparseOrderCard : Claim7 := { stood := { row := sparseOrderRow, standIns := [], harness := (true, "6cec7addf7fd8ac65b85b82b9a83299546b696162601a276d6f3ae2dcc1671cd"), looks := true }, kinds := [], alts := [], laidByText := true, laidKinds := [.data], laidTests := true, laidLooks := .later }
def SparseOrderCardSaid : Prop := Claim7.holds Tryd.pinned (.plain (OpenSpec.ofChange sparseOrderSpec)) sparseOrderCard

/-- THE TIED CARD OF 'drawbridgelaw6.SparseLeaves'. -/
def sparseLeavesCard : Claim7 := { stood := { row := sparseLeavesRow, standIns := [], harness := (true, "6cec7addf7fd8ac65b85b82b9a83299546b696162601a276d6f3ae2dcc1671cd"), looks := true }, kinds := [], alts := [], laidByText := true, laidKinds := [.data], laidTests := true, laidLooks := .later }
def SparseLeavesCardSaid : Prop := Claim7.holds Tryd.pinned (.plain (OpenSpec.ofChange sparseLeavesSpec)) sparseLeavesCard

/-- THE SECOND FORM's CARD OF 'drawbridgelaw6.SparsePuts'. -/
def sparsePutsUptoCard : Claim7 := { stood := { row := sparsePutsUptoRow, standIns := [], harness := (true, "6cec7addf7fd8ac65b85b82b9a83299546b696162601a276d6f3ae2dcc1671cd"), looks := true }, kinds := [], alts := [], laidByText := true, laidKinds := [.data], laidTests := true, laidLooks := .later }
def SparsePutsUptoCardSaid : Prop := Claim7.holds Tryd.pinned (.plain (OpenSpec.upto sparsePutsSpec)) sparsePutsUptoCard

/-- THE SECOND FORM's CARD OF 'drawbridgelaw6.SparseProves'. -/
def sparseProvesUptoCard : Claim7 := { stood := { row := sparseProvesUptoRow, standIns := [], harness := (true, "6cec7addf7fd8ac65b85b82b9a83299546b696162601a276d6f3ae2dcc1671cd"), looks := true }, kinds := [], alts := [], laidByText := true, laidKinds := [.data], laidTests := true, laidLooks := .later }
def SparseProvesUptoCardSaid : Prop := Claim7.holds Tryd.pinned (.plain (OpenSpec.upto sparseProvesSpec)) sparseProvesUptoCard

/-- THE SECOND FORM's CARD OF 'drawbridgelaw6.SparseMany'. -/
def sparseManyUptoCard : Claim7 := { stood := { row := sparseManyUptoRow, standIns := [], harness := (true, "6cec7addf7fd8ac65b85b82b9a83299546b696162601a276d6f3ae2dcc1671cd"), looks := true }, kinds := [], alts := [], laidByText := true, laidKinds := [.data], laidTests := true, laidLooks := .later }
def SparseManyUptoCardSaid : Prop := Claim7.holds Tryd.pinned (.plain (OpenSpec.upto sparseManySpec)) sparseManyUptoCard

/-- THE SECOND FORM's CARD OF 'drawbridgelaw6.SparseOrder'. -/
def sparseOrderUptoCard : Claim7 := { stood := { row := sparseOrderUptoRow, standIns := [], harness := (true, "6cec7addf7fd8ac65b85b82b9a83299546b696162601a276d6f3ae2dcc1671cd"), looks := true }, kinds := [], alts := [], laidByText := true, laidKinds := [.data], laidTests := true, laidLooks := .later }
def SparseOrderUptoCardSaid : Prop := Claim7.holds Tryd.pinned (.plain (OpenSpec.upto sparseOrderSpec)) sparseOrderUptoCard

/-- THE SECOND FORM's CARD OF 'drawbridgelaw6.SparseLeaves'. -/
def sparseLeavesUptoCard : Claim7 := { stood := { row := sparseLeavesUptoRow, standIns := [], harness := (true, "6cec7addf7fd8ac65b85b82b9a83299546b696162601a276d6f3ae2dcc1671cd"), looks := true }, kinds := [], alts := [], laidByText := true, laidKinds := [.data], laidTests := true, laidLooks := .later }
def SparseLeavesUptoCardSaid : Prop := Claim7.holds Tryd.pinned (.plain (OpenSpec.upto sparseLeavesSpec)) sparseLeavesUptoCard
end Rows
end Go.Proofs.YtaabinhpagbajaaDoor
