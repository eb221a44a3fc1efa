/- wire: the reader's panics. -/
import Derived.Test.YtgnjdpaenojfhaaWrG
set_option linter.unusedSimpArgs false
set_option linter.unusedVariables false
namespace Go.Proofs.Ytgnjdpaenojfhaa
attribute [local irreducible] Go.Vc.Run Go.Vc.RC Go.Vc.RQ Go.Vc.DR Go.Vc.DOp
open Go Go.Vc Go.Sha
theorem RNum_short (rb n c k m : Nat) (a : Option Addr) (hn : n ≤ 1000000) (hk : k ≤ n) (hm1 : 1 ≤ m ∧ m ≤ 7) (hm : n - k < m) (w : World) (hs : w.heap[rb]? = some (.cells #[.slice a n c, .int .i64 k] 61 (0, 0))) :
    Calls Try.prog 18 #[.pointer (some ⟨rb, 0, none⟩), .int .i64 m] w fun e w' => e = .panicked shortP ∧ Fr [] w w' := by
  refine enter (vs := [.pointer (some ⟨rb, 0, none⟩), .int .i64 m]) Try.func18 rfl (Mem.nil w []) rfl ?_
  refine z_ ?_
  refine Run.op1 (OpTo.callP (Y := Empty) (Z := Unit) (V := fun y => y.elim) (L' := fun y => y.elim) (C := fun _ => shortP) (Lp := fun _ => []) Try.func31 (fun w' hm' => (take_short rb n c k m a hn hk hm w' (hm'.old hs)).mono ?_) (fun _ => ?_)) (fun y => y.elim)
  · rintro e w'' ⟨rfl, hf⟩
    exact .inr ⟨(), rfl, hm'.ext hf⟩
  · repeat first | refine RQ.thenPanic ?_ | refine RQ.blockPanic ?_
    exact RQ.panic fun w' hm => ⟨rfl, hm.fr⟩
end Go.Proofs.Ytgnjdpaenojfhaa
