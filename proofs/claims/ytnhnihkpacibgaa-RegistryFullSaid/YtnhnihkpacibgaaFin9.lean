/- Arguments that are slices of forwards, of deeds. -/
import Derived.Test.YtnhnihkpacibgaaFin8
import Derived.Test.YtnhnihkpacibgaaRgO
set_option linter.unusedSimpArgs false
set_option linter.unusedVariables false
namespace Go.Sha
/-- A deed. -/
structure DeD where
  d : Int
  n : Int
  k : Int
  f : FwD
  hn : -9223372036854775808 ≤ n ∧ n ≤ 9223372036854775807
  hk : -9223372036854775808 ≤ k ∧ k ≤ 9223372036854775807
def DeD.c (a : DeD) : List Go.Value := .int .i64 a.d :: .int .i64 a.n :: .int .i64 a.k :: a.f.c
theorem DeD.len (a : DeD) : a.c.length = 14 := by
  unfold DeD.c
  rw [List.length_cons, List.length_cons, List.length_cons, a.f.len]
theorem DeD.one (a : DeD) : ∀ u ∈ a.c, u.oneCell' = true := by
  intro u hu
  unfold DeD.c at hu
  simp only [List.mem_cons] at hu
  rcases hu with rfl | rfl | rfl | hu
  · rfl
  · rfl
  · rfl
  · exact a.f.one u hu
instance : Inhabited FwD := ⟨⟨0, 0, [0, 0, 0, 0, 0, 0, 0, 0], 0, rfl, by decide, by decide⟩⟩
instance : Inhabited DeD := ⟨⟨0, 0, 0, default, by decide, by decide⟩⟩
end Go.Sha
namespace Go.Vc
open Go Go.Sha
theorem fw_kinds {cs : List Value} (h : HasK (.i64 :: .i64 :: (List.replicate 8 .u8 ++ [.i64])) cs) (ho : ∀ v ∈ cs, Ok1 v) : ∃ a : FwD, cs = a.c := by
  cases h with
  | cons _ z1 h =>
    cases h with
    | cons _ z2 h =>
      rename_i vs
      obtain ⟨h1, h2⟩ := h.split
      obtain ⟨l, hl, h8, hb⟩ := u8list_of h1 (fun v hv => ho v (List.mem_cons_of_mem _ (List.mem_cons_of_mem _ (List.mem_of_mem_take hv))))
      have e : vs = u8s l ++ vs.drop 8 := by
        have := List.take_append_drop (List.replicate 8 IntKind.u8).length vs
        rw [hl] at this
        exact this.symm
      rw [List.length_replicate] at h2
      generalize hr : vs.drop 8 = r at h2 e
      cases h2 with
      | cons _ z3 h2 =>
        cases h2
        have b1 := bounds_i (ho _ List.mem_cons_self _ _ rfl)
        have b3 := bounds_i (ho (.int .i64 z3) (by rw [e]; exact List.mem_cons_of_mem _ (List.mem_cons_of_mem _ (List.mem_append_right _ List.mem_cons_self))) _ _ rfl)
        exact ⟨⟨z1, z2, l, z3, h8, b1, b3⟩, congrArg (fun q => Value.int .i64 z1 :: Value.int .i64 z2 :: q) e⟩
theorem de_kinds {cs : List Value} (h : HasK (.i64 :: .i64 :: .i64 :: (.i64 :: .i64 :: (List.replicate 8 .u8 ++ [.i64]))) cs) (ho : ∀ v ∈ cs, Ok1 v) : ∃ a : DeD, cs = a.c := by
  cases h with
  | cons _ z1 h =>
    cases h with
    | cons _ z2 h =>
      cases h with
      | cons _ z3 h =>
        obtain ⟨f, rfl⟩ := fw_kinds h (fun v hv => ho v (List.mem_cons_of_mem _ (List.mem_cons_of_mem _ (List.mem_cons_of_mem _ hv))))
        exact ⟨⟨z1, z2, z3, f, bounds_i (ho (.int .i64 z2) (List.mem_cons_of_mem _ List.mem_cons_self) _ _ rfl), bounds_i (ho (.int .i64 z3) (List.mem_cons_of_mem _ (List.mem_cons_of_mem _ List.mem_cons_self)) _ _ rfl)⟩, rfl⟩
end Go.Vc
namespace Go.Proofs.Ytnhnihkpacibgaa
open Go Go.Vc Go.Sha Go.ChangeShapes Go.WideShapes Go.ChangeAt Go.RowKit
variable {H : Type} {enc : TypeId × Value → H}
set_option maxRecDepth 10000 in
theorem fwds_arg {W : World} {b0 : Nat} {r : Reach} {held : Bool} {v : Value} {d : DataW H} {ps : List MemPlace} (hval : Value.okWide Try.prog W r b0 22 v) (h : DataW.Trod enc Try.prog W 0 (fun _ => true) held 22 v d ps) :
    ∃ l : List FwD, SrcW W 11 v l.length (rws FwD.c l) ∧ l.length ≤ 9223372036854775807 :=
  rows_slice FwD.c 11 (by decide) FwD.len Try.underlying22 (e := 37) (by kernel_rfl) (fun n cs x hl h => by
    obtain ⟨h1, h2⟩ := flat_trod kLaidOut kMaps 8 n 37 (.i64 :: .i64 :: (List.replicate 8 .u8 ++ [.i64])) cs x (Nat.blt_eq.mp (show Nat.blt 37 Try.prog.types.size = true by kernel_rfl)) (by kernel_rfl) (by kernel_rfl) h
    exact fw_kinds h1 h2) hval h
set_option maxRecDepth 10000 in
theorem deds_arg {W : World} {b0 : Nat} {r : Reach} {held : Bool} {v : Value} {d : DataW H} {ps : List MemPlace} (hval : Value.okWide Try.prog W r b0 50 v) (h : DataW.Trod enc Try.prog W 0 (fun _ => true) held 50 v d ps) :
    ∃ l : List DeD, SrcW W 14 v l.length (rws DeD.c l) ∧ l.length ≤ 9223372036854775807 :=
  rows_slice DeD.c 14 (by decide) DeD.len Try.underlying50 (e := 56) (by kernel_rfl) (fun n cs x hl h => by
    obtain ⟨h1, h2⟩ := flat_trod kLaidOut kMaps 8 n 56 (.i64 :: .i64 :: .i64 :: (.i64 :: .i64 :: (List.replicate 8 .u8 ++ [.i64]))) cs x (Nat.blt_eq.mp (show Nat.blt 56 Try.prog.types.size = true by kernel_rfl)) (by kernel_rfl) (by kernel_rfl) h
    exact de_kinds h1 h2) hval h
end Go.Proofs.Ytnhnihkpacibgaa
