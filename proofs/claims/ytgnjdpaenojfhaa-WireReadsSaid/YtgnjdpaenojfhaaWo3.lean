/- drawbridgelaw3.WireReads: any bytes, read as whatever: what is there is read; where they end it is told, what was read ahead stays; what is left is told; another panic is not taken for an end; for every argument. -/
import Derived.Test.YtgnjdpaenojfhaaWrZ
import Derived.Test.YtgnjdpaenojfhaaFin3
set_option linter.unusedSimpArgs false
set_option linter.unusedVariables false
namespace Go.Proofs.Ytgnjdpaenojfhaa.wireReads
open Go Go.Vc Go.Sha Go.ChangeShapes Go.WideShapes Go.ChangeAt Go.RowKit

set_option maxRecDepth 10000 in set_option maxHeartbeats 4000000 in
/-- What the walk gives, for every argument and every world that holds the table. -/
theorem contract (H : Type) (enc : TypeId × Value → H) (W : World) (base : Nat) (args : Array Value) (ds gs : List (DataW H)) (before : List MemPlace)
    (hval : ∀ (j : Nat) t v, Try.f6.params[j]? = some t → args[j]? = some v → Value.okWide Try.prog W .any base t v)
    (hW : DataW.Whole enc Try.prog Try.f6.params.toList Rows.wireReadsSpec.vars false W args.toList ds gs before) (hL : laidMetH Try.prog Rows.wireReadsRow.laid W) :
    Calls Try.prog 6 args W fun e W' => ∃ v, e = .returned v ∧ Rows.wireReadsSpec.post enc Try.prog Try.f6 false true false false W args v W' := by
  have hW' := hW
  obtain ⟨p, q, hA, hV, rfl, hfz, hnd⟩ := hW
  rw [Try.params6] at hA hval
  obtain ⟨v0, vs0, d0, ds0, p0, q0, hargs0, rfl, rfl, h0, r0⟩ := trodAll_cons hA
  obtain ⟨v1, vs1, d1, ds1, p1, q1, hargs1, rfl, rfl, h1, r1⟩ := trodAll_cons r0
  obtain ⟨v2, vs2, d2, ds2, p2, q2, hargs2, rfl, rfl, h2, r2⟩ := trodAll_cons r1
  obtain ⟨rfl, rfl, rfl⟩ := trodAll_nil r2
  obtain rfl : args = #[v0, v1, v2] := by cases args; simp_all
  obtain ⟨m0, l0, hs0, hb0⟩ := slice_arg Try.underlying25 Try.underlying5 kCellsB (hval 0 _ v0 rfl rfl) h0
  obtain rfl : m0 = l0.length := by have := hs0.len; rw [u8s_len] at this; omega
  obtain ⟨m1, l1, hs1, hb1⟩ := slice_arg Try.underlying25 Try.underlying5 kCellsB (hval 1 _ v1 rfl rfl) h1
  obtain rfl : m1 = l1.length := by have := hs1.len; rw [u8s_len] at this; omega
  obtain ⟨z2, rfl, _⟩ := open_bool Try.underlying4 (hval 2 _ v2 rfl rfl) h2
  refine (WireReads_calls l0 hb0 l1 hb1 z2 v0 v1 W hs0 hs1).mono fun e W' h => ?_
  obtain ⟨rfl, hf⟩ := h
  exact ⟨_, rfl, post_true kLaidOut kMaps kSlices (by kernel_rfl) (by kernel_rfl) Try.underlying4 hW' rfl rfl rfl rfl hf⟩

def args0 : Array Value := #[.slice Option.none 0 0, .slice Option.none 0 0, .bool false]
noncomputable def plainWorld (os : Os) : World := World.holding Try.prog os ⟨#[], #[], []⟩
set_option maxRecDepth 10000 in set_option maxHeartbeats 4000000 in
theorem laid_met (os : Os) : laidMet Try.prog Rows.wireReadsRow.laid ((plainWorld os).forCall (fun _ _ => 0) ⟨#[], args0, []⟩).memory :=
  laidMet_of_run' 8 (by kernel_rfl) (by kernel_rfl)
set_option maxRecDepth 10000 in set_option maxHeartbeats 4000000 in
theorem reads (os : Os) {H : Type} (enc : TypeId × Value → H) : ∃ ds places, DataW.whole enc Try.prog ((plainWorld os).forCall (fun _ _ => 0) ⟨#[], args0, []⟩).memory Try.f6.params.toList Rows.wireReadsSpec.vars false args0.toList 8 = some (ds, [], places) :=
  ⟨[.nil, .nil, .lit (.bool false)], [], by kernel_rfl⟩

set_option maxRecDepth 100000 in
theorem lifted (os : Os) (started : os.Started) (H : Type) (enc : TypeId × Value → H) (F : Stop.Interp) :
    ReturnsInHanded {} Try.checked os 6 .any ((OpenSpec.ofChange Rows.wireReadsSpec).preRow enc Try.prog Try.f6 Rows.wireReadsRow.domain false Rows.wireReadsRow.laid) (((OpenSpec.ofChange Rows.wireReadsSpec).at F).post enc Try.prog Try.f6 false true false false) := by
  obtain ⟨ds, places, hx⟩ := reads os enc
  refine returnsInHanded_of_row (C := Try.checked) (s := OpenSpec.ofChange Rows.wireReadsSpec) kOwn started (by kernel_rfl) Try.func6
    (witness_row_at (enc := enc) (C := Try.checked) false (plainWorld os) args0 rfl (by kernel_rfl) (by kernel_rfl) (by kernel_rfl)
      (OpenSpec.preRow_of_cond 8 hx (by kernel_rfl) (fun k hk => by cases hk) (by kernel_rfl) (laid_met os))) ?_
  intro W base args ds gs before hval hW _ _ _ hL _ _
  exact contract H enc W base args ds gs before hval hW hL

theorem said : Rows.WireReadsSaid :=
  OpenClaim.holds_of_cond 6 Try.f6 rfl rfl rfl rfl rfl rfl rfl ⟨rfl, rfl, rfl, rfl, rfl⟩ rfl rfl rfl rfl rfl (by kernel_rfl) Try.func6 (by kernel_rfl)
    (of_decide_eq_true (by kernel_rfl)) (by unfold Func.isWrapper; first | (rw [if_pos (by decide +kernel)]; kernel_rfl) | (rw [if_neg (by decide +kernel)]; exact ⟨rfl, rfl⟩))
    (fun os started H enc _ F => by rw [OpenClaim.pre_eq_preRow]; exact lifted os started H enc F)

end Go.Proofs.Ytgnjdpaenojfhaa.wireReads
