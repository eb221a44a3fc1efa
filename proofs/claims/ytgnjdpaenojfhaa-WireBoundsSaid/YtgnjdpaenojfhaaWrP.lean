/- wire: the reader's Hash, short. -/
import Derived.Test.YtgnjdpaenojfhaaWrO
set_option linter.unusedSimpArgs false
set_option linter.unusedVariables false
namespace Go.Proofs.Ytgnjdpaenojfhaa
attribute [local irreducible] Go.Vc.Run Go.Vc.RC Go.Vc.RQ Go.Vc.DR Go.Vc.DOp
open Go Go.Vc Go.Sha
theorem RHash_short (rb n c k : Nat) (a : Option Addr) (hn : n ≤ 1000000) (hk : k ≤ n) (hm : n - k < 8) (w : World) (hs : w.heap[rb]? = some (.cells #[.slice a n c, .int .i64 k] 61 (0, 0))) :
    Calls Try.prog 16 #[.pointer (some ⟨rb, 0, none⟩)] w fun e w' => e = .panicked shortP ∧ Fr [] w w' := by
  refine enter (vs := [.pointer (some ⟨rb, 0, none⟩)]) Try.func16 rfl (Mem.nil w []) rfl ?_
  refine z_ ?_
  refine Run.nw nal ?_
  intro b2
  refine z_ ?_
  refine Run.nw nal ?_
  intro b3
  refine z_ ?_
  refine Run.a (Val.ptrNe2 tabOk rfl rfl rfl rfl rfl) ?_
  refine z_ ?_
  (repeat refine RC.seq ?_); refine RC.draw ([(b3, Obj.cells (u8s [0, 0, 0, 0, 0, 0, 0, 0]).toArray 29 (0, 0))]) mixed (N := 4) rfl ?_
  refine DR.t 0 rfl (Val.sliceA tabOk rfl rfl rfl rfl rfl) ?_
  refine dt 1 ?_
  refine DR.c 2 (DOp.op1 rfl (OpTo.callP (Y := Empty) (Z := Unit) (V := fun y => y.elim) (L' := fun y => y.elim) (C := fun _ => shortP) (Lp := fun _ => []) Try.func31 (fun w' hm' => (take_short rb n c k 8 a hn hk hm w' (hm'.old hs)).mono ?_) (fun _ => ?_)) (fun y => y.elim) (hl := .inl fun y => y.elim))
  · rintro e w'' ⟨rfl, hf⟩
    exact .inr ⟨(), rfl, (hm'.ext hf).sublist (List.nil_sublist _)⟩
  · repeat first | refine RQ.thenPanic ?_ | refine RQ.blockPanic ?_
    exact RQ.panic fun w' hm => ⟨rfl, hm.fr⟩
end Go.Proofs.Ytgnjdpaenojfhaa
