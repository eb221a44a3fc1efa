/- The reference's Digit. -/
import Derived.Test.YtigfcafpoegnjaaDoorRef1
import Derived.Test.YtigfcafpoegnjaaDoorDig4
namespace Go.Proofs.YtigfcafpoegnjaaDoor
open Go Go.Vc Go.Sha

theorem Digit_calls (c : Nat) (hc : c < 256) (w : World) :
    Gives Tryd.prog 29 [.int .u8 c] (.int .i64 (dig c)) w := by
  refine enter Tryd.func29 rfl (Mem.nil w []) rfl ?_
  (repeat refine RC.seq ?_); refine RC.region ?_
  refine Run.v rfl rfl rfl (Val.of rfl) ?_
  refine Run.nil (RQ.next ?_)
  (repeat refine RC.seq ?_); refine RC.block ?_
  refine RC.seqCut (Y := Unit) (fun _ => [(3, .bool (decide (48 ≤ c ∧ c ≤ 57))), (0, .int .u8 c)]) (fun _ => []) (RC.region ?_) (fun _ => ?_)
  · refine Run.v rfl rfl rfl (Val.of rfl) ?_
    refine Run.v rfl rfl rfl (Val.of rfl) ?_
    refine Run.v rfl rfl rfl (Val.of rfl) ?_
    refine Run.split 6 rfl (fun h => ?_) (fun h => ?_)
    · have h48 : 48 ≤ c := by have := of_decide_eq_true h; omega
      refine Run.vG (Wanted.guard rfl rfl rfl rfl) rfl rfl (Val.of rfl) ?_
      refine Run.vG (Wanted.guard rfl rfl rfl rfl) rfl rfl (Val.of rfl) ?_
      refine Run.v rfl rfl rfl (Val.of rfl) ?_
      refine Run.v rfl rfl rfl (Val.of rfl) ?_
      exact Run.nil (RQ.to () ⟨by show some (Value.bool (decide ((c : Int) ≤ 57))) = _; congr 3; rw [eq_iff_iff]; omega, rfl, trivial⟩ (List.Sublist.refl _))
    · have h48 : ¬ 48 ≤ c := by have := of_decide_eq_false h; omega
      refine Run.skipG (Wanted.guard rfl rfl rfl rfl) rfl rfl ?_
      refine Run.skipG (Wanted.guard rfl rfl rfl rfl) rfl rfl ?_
      refine Run.v rfl rfl rfl (Val.of rfl) ?_
      refine Run.v rfl rfl rfl (Val.of rfl) ?_
      exact Run.nil (RQ.to () ⟨by show some (Value.bool false) = _; congr 2; exact (decide_eq_false (by omega)).symm, rfl, trivial⟩ (List.Sublist.refl _))
  (repeat refine RC.seq ?_); refine RC.cond rfl (fun h => ?_) (fun h => ?_)
  · obtain ⟨h48, h57⟩ := of_decide_eq_true h
    have hd : dig c = (c : Int) - 48 := by unfold dig; rw [if_pos ⟨h48, h57⟩]
    rw [hd]
    (repeat refine RC.seq ?_); refine RC.region ?_
    refine Run.v rfl rfl rfl (Val.of rfl) ?_
    refine Run.v rfl rfl rfl (Val.ar rfl rfl rfl rfl (by dsimp only [inK]; omega)) ?_
    refine Run.v rfl rfl rfl (Val.convIn tabOk rfl rfl rfl rfl rfl rfl (by simp only [inK]; omega)) ?_
    refine Run.v rfl rfl rfl (Val.of rfl) ?_
    refine Run.nil (RQ.next ?_)
    refine RC.ret ?_; (repeat first | refine RQ.thenRet ?_ | refine RQ.blockRet ?_); exact RQ.ret1 rfl (Res.tmp rfl) fun w' hm => ⟨rfl, hm.fr⟩
  · have hn1 := of_decide_eq_false h
    refine RC.seqCut (Y := Unit) (fun _ => [(13, .bool (decide (97 ≤ c ∧ c ≤ 102))), (0, .int .u8 c)]) (fun _ => []) (RC.region ?_) (fun _ => ?_)
    · refine Run.v rfl rfl rfl (Val.of rfl) ?_
      refine Run.v rfl rfl rfl (Val.of rfl) ?_
      refine Run.v rfl rfl rfl (Val.of rfl) ?_
      refine Run.split 16 rfl (fun h => ?_) (fun h => ?_)
      · have h97 : 97 ≤ c := by have := of_decide_eq_true h; omega
        refine Run.vG (Wanted.guard rfl rfl rfl rfl) rfl rfl (Val.of rfl) ?_
        refine Run.vG (Wanted.guard rfl rfl rfl rfl) rfl rfl (Val.of rfl) ?_
        refine Run.v rfl rfl rfl (Val.of rfl) ?_
        refine Run.v rfl rfl rfl (Val.of rfl) ?_
        exact Run.nil (RQ.to () ⟨by show some (Value.bool (decide ((c : Int) ≤ 102))) = _; congr 3; rw [eq_iff_iff]; omega, rfl, trivial⟩ (List.Sublist.refl _))
      · have h97 : ¬ 97 ≤ c := by have := of_decide_eq_false h; omega
        refine Run.skipG (Wanted.guard rfl rfl rfl rfl) rfl rfl ?_
        refine Run.skipG (Wanted.guard rfl rfl rfl rfl) rfl rfl ?_
        refine Run.v rfl rfl rfl (Val.of rfl) ?_
        refine Run.v rfl rfl rfl (Val.of rfl) ?_
        exact Run.nil (RQ.to () ⟨by show some (Value.bool false) = _; congr 2; exact (decide_eq_false (by omega)).symm, rfl, trivial⟩ (List.Sublist.refl _))
    (repeat refine RC.seq ?_); refine RC.cond rfl (fun h => ?_) (fun h => ?_)
    · obtain ⟨h97, h102⟩ := of_decide_eq_true h
      have hd : dig c = (c : Int) - 97 + 10 := by unfold dig; rw [if_neg hn1, if_pos ⟨h97, h102⟩]; omega
      rw [hd]
      (repeat refine RC.seq ?_); refine RC.region ?_
      refine Run.v rfl rfl rfl (Val.of rfl) ?_
      refine Run.v rfl rfl rfl (Val.ar rfl rfl rfl rfl (by dsimp only [inK]; omega)) ?_
      refine Run.v rfl rfl rfl (Val.convIn tabOk rfl rfl rfl rfl rfl rfl (by simp only [inK]; omega)) ?_
      refine Run.v rfl rfl rfl (Val.ar rfl rfl rfl rfl (by dsimp only [inK]; omega)) ?_
      refine Run.v rfl rfl rfl (Val.of rfl) ?_
      refine Run.nil (RQ.next ?_)
      refine RC.ret ?_; (repeat first | refine RQ.thenRet ?_ | refine RQ.blockRet ?_); exact RQ.ret1 rfl (Res.tmp rfl) fun w' hm => ⟨rfl, hm.fr⟩
    · have hn2 := of_decide_eq_false h
      have hd : dig c = -1 := by unfold dig; rw [if_neg hn1, if_neg hn2]
      rw [hd]
      refine RC.skip (RQ.blockNormal (RQ.next ?_))
      (repeat refine RC.seq ?_); refine RC.region ?_
      refine Run.v rfl rfl rfl (Val.of rfl) ?_
      refine Run.nil (RQ.next ?_)
      refine RC.ret ?_; (repeat first | refine RQ.thenRet ?_ | refine RQ.blockRet ?_); exact RQ.ret1 rfl (Res.tmp rfl) fun w' hm => ⟨rfl, hm.fr⟩
end Go.Proofs.YtigfcafpoegnjaaDoor
