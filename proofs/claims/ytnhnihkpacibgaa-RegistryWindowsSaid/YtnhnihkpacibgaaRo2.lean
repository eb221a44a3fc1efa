/- drawbridgelaw13.RegistryWindows: each height above the first block is in one epoch, which ends at its last one; at most one epoch's window is open at a height; for every argument. -/
import Derived.Test.YtnhnihkpacibgaaRgN
import Derived.Test.YtnhnihkpacibgaaFin3
namespace Go.Proofs.Ytnhnihkpacibgaa.registryWindows
open Go Go.Vc Go.Sha Go.ChangeShapes Go.WideShapes Go.ChangeAt Go.RowKit

set_option maxRecDepth 10000 in set_option maxHeartbeats 4000000 in
/-- What the walk gives, for every argument and every world that holds the table. -/
theorem contract (H : Type) (enc : TypeId × Value → H) (W : World) (base : Nat) (args : Array Value) (ds gs : List (DataW H)) (before : List MemPlace)
    (hval : ∀ (j : Nat) t v, Try.f7.params[j]? = some t → args[j]? = some v → Value.okWide Try.prog W .any base t v)
    (hW : DataW.Whole enc Try.prog Try.f7.params.toList Rows.registryWindowsSpec.vars false W args.toList ds gs before) (hL : laidMetH Try.prog Rows.registryWindowsRow.laid W) :
    Calls Try.prog 7 args W fun e W' => ∃ v, e = .returned v ∧ Rows.registryWindowsSpec.post enc Try.prog Try.f7 false true false false W args v W' := by
  have hW' := hW
  obtain ⟨p, q, hA, hV, rfl, hfz, hnd⟩ := hW
  rw [Try.params7] at hA hval
  obtain ⟨v0, vs0, d0, ds0, p0, q0, hargs0, rfl, rfl, h0, r0⟩ := trodAll_cons hA
  obtain ⟨v1, vs1, d1, ds1, p1, q1, hargs1, rfl, rfl, h1, r1⟩ := trodAll_cons r0
  obtain ⟨v2, vs2, d2, ds2, p2, q2, hargs2, rfl, rfl, h2, r2⟩ := trodAll_cons r1
  obtain ⟨rfl, rfl, rfl⟩ := trodAll_nil r2
  obtain rfl : args = #[v0, v1, v2] := by cases args; simp_all
  obtain ⟨z0, rfl, _, _, hw0⟩ := open_int Try.underlying5 (hval 0 _ v0 rfl rfl) h0
  have hz0 := bounds_u8 hw0
  obtain ⟨n0, rfl⟩ := Int.eq_ofNat_of_zero_le hz0.1
  obtain ⟨z1, rfl, _, _, hw1⟩ := open_int Try.underlying5 (hval 1 _ v1 rfl rfl) h1
  have hz1 := bounds_u8 hw1
  obtain ⟨n1, rfl⟩ := Int.eq_ofNat_of_zero_le hz1.1
  obtain ⟨z2, rfl, _, _, hw2⟩ := open_int Try.underlying5 (hval 2 _ v2 rfl rfl) h2
  have hz2 := bounds_u8 hw2
  obtain ⟨n2, rfl⟩ := Int.eq_ofNat_of_zero_le hz2.1
  refine (RegistryWindows_calls n0 n1 n2 (by omega) (by omega) (by omega) W).mono fun e W' h => ?_
  obtain ⟨rfl, hf⟩ := h
  exact ⟨_, rfl, post_true kLaidOut kMaps kSlices (by kernel_rfl) (by kernel_rfl) Try.underlying4 hW' rfl rfl rfl rfl hf⟩

def args0 : Array Value := #[.int .u8 0, .int .u8 0, .int .u8 0]
noncomputable def plainWorld (os : Os) : World := World.holding Try.prog os ⟨#[], #[], []⟩
set_option maxRecDepth 10000 in set_option maxHeartbeats 4000000 in
theorem laid_met (os : Os) : laidMet Try.prog Rows.registryWindowsRow.laid ((plainWorld os).forCall (fun _ _ => 0) ⟨#[], args0, []⟩).memory :=
  laidMet_of_run' 8 (by kernel_rfl) (by kernel_rfl)
set_option maxRecDepth 10000 in set_option maxHeartbeats 4000000 in
theorem reads (os : Os) {H : Type} (enc : TypeId × Value → H) : ∃ ds places, DataW.whole enc Try.prog ((plainWorld os).forCall (fun _ _ => 0) ⟨#[], args0, []⟩).memory Try.f7.params.toList Rows.registryWindowsSpec.vars false args0.toList 8 = some (ds, [], places) :=
  ⟨[.lit (.int .u8 0), .lit (.int .u8 0), .lit (.int .u8 0)], [], by kernel_rfl⟩

set_option maxRecDepth 100000 in
theorem lifted (os : Os) (started : os.Started) (H : Type) (enc : TypeId × Value → H) (F : Stop.Interp) :
    ReturnsInHanded {} Try.checked os 7 .any ((OpenSpec.ofChange Rows.registryWindowsSpec).preRow enc Try.prog Try.f7 Rows.registryWindowsRow.domain false Rows.registryWindowsRow.laid) (((OpenSpec.ofChange Rows.registryWindowsSpec).at F).post enc Try.prog Try.f7 false true false false) := by
  obtain ⟨ds, places, hx⟩ := reads os enc
  refine returnsInHanded_of_row (C := Try.checked) (s := OpenSpec.ofChange Rows.registryWindowsSpec) kOwn started (by kernel_rfl) Try.func7
    (witness_row_at (enc := enc) (C := Try.checked) false (plainWorld os) args0 rfl (by kernel_rfl) (by kernel_rfl) (by kernel_rfl)
      (OpenSpec.preRow_of_cond 8 hx (by kernel_rfl) (fun k hk => by cases hk) (by kernel_rfl) (laid_met os))) ?_
  intro W base args ds gs before hval hW _ _ _ hL _ _
  exact contract H enc W base args ds gs before hval hW hL

theorem said : Rows.RegistryWindowsSaid :=
  OpenClaim.holds_of_cond 7 Try.f7 rfl rfl rfl rfl rfl rfl rfl ⟨rfl, rfl, rfl, rfl, rfl⟩ rfl rfl rfl rfl rfl (by kernel_rfl) Try.func7 (by kernel_rfl)
    (of_decide_eq_true (by kernel_rfl)) (by unfold Func.isWrapper; first | (rw [if_pos (by decide +kernel)]; kernel_rfl) | (rw [if_neg (by decide +kernel)]; exact ⟨rfl, rfl⟩))
    (fun os started H enc _ F => by rw [OpenClaim.pre_eq_preRow]; exact lifted os started H enc F)

end Go.Proofs.Ytnhnihkpacibgaa.registryWindows
