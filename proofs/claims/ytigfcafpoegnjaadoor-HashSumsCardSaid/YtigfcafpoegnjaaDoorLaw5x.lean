/- Closed facts of the program for HashSums. -/
import Derived.Test.YtigfcafpoegnjaaDoorLaw5
import Derived.Test.YtigfcafpoegnjaaDoorFin4
namespace Go.Proofs.YtigfcafpoegnjaaDoor
open Go Go.Vc Go.Sha
theorem kCellsS : Tryd.prog.cellsOf 28 = 1 := by kernel_rfl
theorem kBytesB : Tryd.prog.bytesOf 5 = 1 := by kernel_rfl
end Go.Proofs.YtigfcafpoegnjaaDoor
