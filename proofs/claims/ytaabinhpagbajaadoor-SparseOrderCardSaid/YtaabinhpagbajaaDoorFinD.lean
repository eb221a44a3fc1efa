/- Arguments that are slices of Puts. -/
import Derived.Test.YtaabinhpagbajaaDoorFin8
import Derived.Test.YtaabinhpagbajaaDoorSpO
set_option linter.unusedSimpArgs false
set_option linter.unusedVariables false
namespace Go.Sha
instance : Inhabited DpD := ⟨⟨0, [0, 0, 0, 0, 0, 0, 0, 0], rfl, by decide⟩⟩
end Go.Sha
namespace Go.Vc
open Go Go.Sha
theorem dp_kinds {cs : List Value} (h : HasK (.i64 :: List.replicate 8 .u8) cs) (ho : ∀ v ∈ cs, Ok1 v) : ∃ a : DpD, cs = a.c := by
  cases h with
  | cons _ z1 h =>
    obtain ⟨l, hl, h8, hb⟩ := u8list_of h (fun v hv => ho v (List.mem_cons_of_mem _ hv))
    exact ⟨⟨z1, l, h8, hb⟩, congrArg (fun q => Value.int .i64 z1 :: q) hl⟩
end Go.Vc
namespace Go.Proofs.YtaabinhpagbajaaDoor
open Go Go.Vc Go.Sha Go.ChangeShapes Go.WideShapes Go.ChangeAt Go.RowKit
variable {H : Type} {enc : TypeId × Value → H}
set_option maxRecDepth 10000 in
theorem dps_arg {W : World} {b0 : Nat} {r : Reach} {held : Bool} {v : Value} {d : DataW H} {ps : List MemPlace} (hval : Value.okWide Tryd.prog W r b0 22 v) (h : DataW.Trod enc Tryd.prog W 0 (fun _ => true) held 22 v d ps) :
    ∃ l : List DpD, SrcW W 9 v l.length (rws DpD.c l) ∧ l.length ≤ 9223372036854775807 :=
  rows_slice DpD.c 9 (by decide) DpD.len Tryd.underlying22 (e := 46) (by kernel_rfl) (fun n cs x hl h => by
    obtain ⟨h1, h2⟩ := flat_trod kLaidOut kMaps 8 n 46 (.i64 :: List.replicate 8 .u8) cs x (Nat.blt_eq.mp (show Nat.blt 46 Tryd.prog.types.size = true by kernel_rfl)) (by kernel_rfl) (by kernel_rfl) h
    exact dp_kinds h1 h2) hval h
end Go.Proofs.YtaabinhpagbajaaDoor
