/- Arguments that are slices of deeds on accounts; of rows of three small numbers. -/
import Derived.Test.YtfhdfpejjgmdcaaGreatDoorFin8
import Derived.Test.YtfhdfpejjgmdcaaGreatDoorAcZ
set_option linter.unusedSimpArgs false
set_option linter.unusedVariables false
namespace Go.Proofs.YtfhdfpejjgmdcaaGreatDoor
open Go Go.Vc Go.Sha
instance : Inhabited DyD := ⟨⟨0, 0, 0, Z8, 0, 0, SxD.bare ⟨0, 0, 0, Z8, 0, 0, zer 128, zer 128, zer 24, H8.z, zer_ok 128, zer_ok 128, zer_ok 24⟩ 0, 0, H8.z, by decide⟩⟩
instance : Inhabited T3D := ⟨⟨[0, 0, 0], rfl, by decide⟩⟩
theorem hk_u8 {n : Nat} {ks : List IntKind} {cs : List Value} (h : HasK (List.replicate n .u8 ++ ks) cs) (ho : ∀ v ∈ cs, Ok1 v) : ∃ l r, cs = u8s l ++ r ∧ (l.length = n ∧ ∀ x ∈ l, x < 256) ∧ HasK ks r ∧ ∀ v ∈ r, Ok1 v := by
  obtain ⟨h1, h2⟩ := h.split
  obtain ⟨l, hl, h8, hb⟩ := u8list_of h1 (fun v hv => ho v (List.mem_of_mem_take hv))
  refine ⟨l, cs.drop (List.replicate n IntKind.u8).length, ?_, ⟨h8, hb⟩, h2, fun v hv => ho v (List.mem_of_mem_drop hv)⟩
  conv => lhs; rw [← List.take_append_drop (List.replicate n IntKind.u8).length cs, hl]
theorem hk_i64 {ks : List IntKind} {cs : List Value} (h : HasK (.i64 :: ks) cs) (ho : ∀ v ∈ cs, Ok1 v) : ∃ z r, cs = .int .i64 z :: r ∧ HasK ks r ∧ ∀ v ∈ r, Ok1 v := by
  cases h with
  | cons _ z h => exact ⟨z, _, rfl, h, fun v hv => ho v (List.mem_cons_of_mem _ hv)⟩
def dyK : List IntKind := .i64 :: .i64 :: .i64 :: (List.replicate 8 .u8 ++ (.i64 :: .i64 :: .i64 :: .i64 :: .i64 :: (List.replicate 8 .u8 ++ (.i64 :: .i64 :: (List.replicate 281 .u8)))))
theorem dy_kinds {cs : List Value} (h : HasK dyK cs) (ho : ∀ v ∈ cs, Ok1 v) : ∃ a : DyD, cs = a.c := by
  obtain ⟨d, cs, rfl, h, ho⟩ := hk_i64 h ho
  obtain ⟨sd, cs, rfl, h, ho⟩ := hk_i64 h ho
  obtain ⟨ac, cs, rfl, h, ho⟩ := hk_i64 h ho
  obtain ⟨o, cs, rfl, h8, h, ho⟩ := hk_u8 h ho
  obtain ⟨am, cs, rfl, h, ho⟩ := hk_i64 h ho
  obtain ⟨who, cs, rfl, h, ho⟩ := hk_i64 h ho
  obtain ⟨kd, cs, rfl, h, ho⟩ := hk_i64 h ho
  obtain ⟨fr, cs, rfl, h, ho⟩ := hk_i64 h ho
  obtain ⟨tt, cs, rfl, h, ho⟩ := hk_i64 h ho
  obtain ⟨ou, cs, rfl, hu8, h, ho⟩ := hk_u8 h ho
  obtain ⟨a2, cs, rfl, h, ho⟩ := hk_i64 h ho
  obtain ⟨z, cs, rfl, h, ho⟩ := hk_i64 h ho
  obtain ⟨l, rfl, hl, hb⟩ := u8list_of h ho
  have hd : (l.drop 280).length = 1 := by rw [List.length_drop, hl]
  obtain ⟨be, hbe⟩ : ∃ be, l.drop 280 = [be] := List.length_eq_one_iff.1 hd
  have hbb : be < 256 := hb be (List.mem_of_mem_drop (by rw [hbe]; exact List.mem_cons_self))
  have e : l = l.take 128 ++ ((l.drop 128).take 128 ++ ((l.drop 256).take 24 ++ [be])) := by
    conv => lhs; rw [← List.take_append_drop 128 l]
    congr 1
    conv => lhs; rw [← List.take_append_drop 128 (l.drop 128), List.drop_drop]
    congr 1
    conv => lhs; rw [← List.take_append_drop 24 (l.drop (128 + 128)), List.drop_drop]
    rw [show 128 + 128 + 24 = 280 from rfl, hbe]
  refine ⟨⟨d, sd, ac, o, am, who, ⟨kd, fr, tt, ou, a2, z, l.take 128, (l.drop 128).take 128, (l.drop 256).take 24, hu8, ⟨by rw [List.length_take, hl]; rfl, fun x hx => hb x (List.mem_of_mem_take hx)⟩, ⟨by rw [List.length_take, List.length_drop, hl]; rfl, fun x hx => hb x (List.mem_of_mem_drop (List.mem_of_mem_take hx))⟩, ⟨by rw [List.length_take, List.length_drop, hl]; rfl, fun x hx => hb x (List.mem_of_mem_drop (List.mem_of_mem_take hx))⟩⟩, be, h8, hbb⟩, ?_⟩
  conv => lhs; rw [e]
  unfold DyD.c dyC fwC SxD.c sxC sigC
  rw [u8s_app, u8s_app, u8s_app]
  simp only [List.append_assoc, List.cons_append, List.nil_append]
  rfl
end Go.Proofs.YtfhdfpejjgmdcaaGreatDoor
namespace Go.Proofs.YtfhdfpejjgmdcaaGreatDoor
open Go Go.Vc Go.Sha Go.ChangeShapes Go.WideShapes Go.ChangeAt Go.RowKit
variable {H : Type} {enc : TypeId × Value → H}
set_option maxRecDepth 10000 in
theorem dys_arg {W : World} {b0 : Nat} {r : Reach} {held : Bool} {v : Value} {d : DataW H} {ps : List MemPlace} (hval : Value.okWide Tryz.prog W r b0 22 v) (h : DataW.Trod enc Tryz.prog W 0 (fun _ => true) held 22 v d ps) :
    ∃ l : List DyD, SrcW W 307 v l.length (rws DyD.c l) ∧ l.length ≤ 9223372036854775807 :=
  rows_slice DyD.c 307 (by decide) DyD.len Tryz.underlying22 (e := 43) (by kernel_rfl) (fun n cs x hl h => by
    obtain ⟨h1, h2⟩ := flat_trod kLaidOut kMaps 8 n 43 dyK cs x (Nat.blt_eq.mp (show Nat.blt 43 Tryz.prog.types.size = true by kernel_rfl)) (by kernel_rfl) (by kernel_rfl) h
    exact dy_kinds h1 h2) hval h
end Go.Proofs.YtfhdfpejjgmdcaaGreatDoor
