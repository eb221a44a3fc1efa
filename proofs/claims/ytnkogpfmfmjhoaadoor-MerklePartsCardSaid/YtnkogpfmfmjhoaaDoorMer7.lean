/- Closed facts for merkle's laws. -/
import Derived.Test.YtnkogpfmfmjhoaaDoorMer5
import Derived.Test.YtnkogpfmfmjhoaaDoorMer6
import Derived.Test.YtnkogpfmfmjhoaaDoorFin5
namespace Go.Proofs.YtnkogpfmfmjhoaaDoor
open Go Go.Vc Go.Sha
theorem kCellsH : Tryd.prog.cellsOf 23 = 8 := by kernel_rfl
theorem kCellsI : Tryd.prog.cellsOf 3 = 1 := by kernel_rfl
end Go.Proofs.YtnkogpfmfmjhoaaDoor
