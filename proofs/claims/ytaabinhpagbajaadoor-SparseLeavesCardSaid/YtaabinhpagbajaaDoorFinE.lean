/- Arguments that are accounts. -/
import Derived.Test.YtaabinhpagbajaaDoorFinD
import Derived.Test.YtaabinhpagbajaaDoorSpT
set_option linter.unusedSimpArgs false
set_option linter.unusedVariables false
namespace Go.Vc
open Go Go.Sha
end Go.Vc
namespace Go.Proofs.YtaabinhpagbajaaDoor
open Go Go.Vc Go.Sha Go.ChangeShapes Go.WideShapes Go.ChangeAt Go.RowKit
variable {H : Type} {enc : TypeId × Value → H}
theorem ac_kinds {cs : List Value} (h : HasK (List.replicate 8 .u8 ++ [.i64, .i64]) cs) (ho : ∀ v ∈ cs, Ok1 v) : ∃ o am no, cs = acC o am no ∧ H8 o := by
  obtain ⟨h1, h2⟩ := h.split
  obtain ⟨l, hl, h8, hb⟩ := u8list_of h1 (fun v hv => ho v (List.mem_of_mem_take hv))
  have e : cs = u8s l ++ cs.drop 8 := by
    have := List.take_append_drop (List.replicate 8 IntKind.u8).length cs
    rw [hl] at this
    exact this.symm
  rw [List.length_replicate] at h2
  generalize hr : cs.drop 8 = r at h2 e
  cases h2 with
  | cons _ z1 h2 =>
    cases h2 with
    | cons _ z2 h2 =>
      cases h2
      exact ⟨l, z1, z2, e, h8, hb⟩
set_option maxRecDepth 10000 in
theorem acc_arg {W : World} {b0 : Nat} {r : Reach} {held : Bool} {v : Value} {d : DataW H} {ps : List MemPlace} (hval : Value.okWide Tryd.prog W r b0 51 v) (h : DataW.Trod enc Tryd.prog W 0 (fun _ => true) held 51 v d ps) :
    ∃ o am no, v = .agg (acC o am no).toArray ∧ H8 o := by
  unfold Value.okWide at hval
  rw [Tryd.underlying51] at hval
  obtain ⟨cs, rfl, hs, _⟩ := hval
  obtain ⟨n, h⟩ := h
  obtain ⟨h1, h2⟩ := flat_trod kLaidOut kMaps 8 n 51 (List.replicate 8 .u8 ++ [.i64, .i64]) cs.toList _ (Nat.blt_eq.mp (show Nat.blt 51 Tryd.prog.types.size = true by kernel_rfl)) (by kernel_rfl) (by kernel_rfl) h
  obtain ⟨o, am, no, e, h8⟩ := ac_kinds h1 h2
  exact ⟨o, am, no, by rw [← e], h8⟩
end Go.Proofs.YtaabinhpagbajaaDoor
