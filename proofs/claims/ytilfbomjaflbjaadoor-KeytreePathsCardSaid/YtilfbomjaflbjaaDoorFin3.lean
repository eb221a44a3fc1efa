/- What is laid: hash.steps; closed facts of the program. -/
import Derived.Test.YtilfbomjaflbjaaDoorSha5
import Derived.Test.YtilfbomjaflbjaaDoorFin2
import Derived.Test.YtilfbomjaflbjaaDoorCards
import Derived.Test.YtilfbomjaflbjaaDoorTie
import Derived.WalkKit
import Derived.Lib.LaidTab
namespace Go.Proofs.YtilfbomjaflbjaaDoor
open Go Go.Vc Go.Sha Go.ChangeShapes Go.WideShapes Go.ChangeAt Go.RowKit

theorem kLaidOut : laidOutB Tryd.prog = true := by kernel_rfl
theorem kMaps : mapsRowed Tryd.prog = true := by kernel_rfl
theorem kSlices : slicesFull Tryd.prog = true := by kernel_rfl
theorem kOwn : ownKnob Tryd.prog.godebug = Option.none := by kernel_rfl
theorem kTab : Tryd.prog.globalNamed "drawbridge/hash.steps" = some 0 := by kernel_rfl
theorem kTabType : (Tryd.prog.globals[0]?).map (·.type) = some 103 := by kernel_rfl
theorem kCellsT : Tryd.prog.cellsOf 103 = 64 := by kernel_rfl
theorem kCellsE : Tryd.prog.cellsOf 101 = 1 := by kernel_rfl
theorem kCellsB : Tryd.prog.cellsOf 5 = 1 := by kernel_rfl

/-- What the row's list gives. -/
theorem laid_of {W : World} (h : laidMet Tryd.prog [("drawbridge/hash.steps", Rows.laid_drawbridge_hash_steps)] W) : Laid W := fun i hi => by
  have h1 : Lib.TabIs Tryd.prog W "drawbridge/hash.steps" .u32 (K.map Int.ofNat) :=
    Lib.tabIs_of_head (rest := []) kTab kTabType Tryd.underlying103 Tryd.underlying101 kCellsE kCellsT h
  have := h1.cell kTab i (by rw [List.length_map, K_len]; exact hi)
  rw [this]
  have hk : i < K.length := by rw [K_len]; exact hi
  simp [List.getD_eq_getElem?_getD, hk]

/-- A world for the witness: the table holds what its initialiser lays. -/
noncomputable def laidWorld (os : Os) : World :=
  { World.holding Tryd.prog os ⟨#[], #[], []⟩ with heap := (World.holding Tryd.prog os ⟨#[], #[], []⟩).heap.modify 0 fun
      | .cells _ t frozen => .cells (u32s K).toArray t frozen
      | o => o }
end Go.Proofs.YtilfbomjaflbjaaDoor
