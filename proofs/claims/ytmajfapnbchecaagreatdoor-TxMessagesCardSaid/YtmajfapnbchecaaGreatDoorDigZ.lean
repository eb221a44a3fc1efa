/- hash.Zero. -/
import Derived.Test.YtmajfapnbchecaaGreatDoorDigT
set_option linter.unusedSimpArgs false
set_option linter.unusedVariables false
namespace Go.Proofs.YtmajfapnbchecaaGreatDoor
open Go Go.Vc Go.Sha

set_option maxRecDepth 10000 in set_option maxHeartbeats 4000000 in
theorem Zero_calls (a : List Nat) (ha : a.length = 8) (w : World) :
    Gives Tryz.prog 97 [.agg (u8s a).toArray] (.bool (decide (a = List.replicate 8 0))) w := by
  refine enter Tryz.func97 rfl (Mem.nil w []) rfl ?_
  (repeat refine RC.seq ?_); refine RC.region ?_
  refine Run.nw (New.boxA rfl rfl) ?_
  intro b1
  refine Run.a (Val.of rfl) ?_
  refine Run.nil (RQ.next ?_)
  (repeat refine RC.seq ?_); refine RC.region ?_
  refine Run.a (Val.loadAll tabOk rfl rfl rfl rfl List.mem_cons_self (by show (u8s a).toArray.size = 8; simp [u8s_len, ha])) ?_
  refine Run.a (Val.buildA tabOk (parts := []) (cells := (u8s (List.replicate 8 0)).toArray) rfl rfl rfl rfl rfl rfl) ?_
  refine Run.a (Val.eqArr tabOk (b := List.replicate 8 0) rfl rfl rfl rfl rfl (by kernel_rfl) (by kernel_rfl) (by kernel_rfl) rfl rfl ha rfl) ?_
  refine Run.a (Val.of rfl) ?_
  refine Run.nil (RQ.next ?_)
  refine RC.ret ?_; (repeat first | refine RQ.thenRet ?_ | refine RQ.blockRet ?_); exact RQ.ret1 rfl (Res.tmp rfl) fun w' hm => ⟨rfl, hm.fr⟩

end Go.Proofs.YtmajfapnbchecaaGreatDoor
