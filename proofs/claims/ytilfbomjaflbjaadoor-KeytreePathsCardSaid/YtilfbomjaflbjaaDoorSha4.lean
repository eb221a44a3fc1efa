/- bytes.Clone, hash.start, hash.Sum. -/
import Derived.Test.YtilfbomjaflbjaaDoorSha3
import Derived.Test.YtilfbomjaflbjaaDoorVcH
namespace Go.Proofs.YtilfbomjaflbjaaDoor
open Go Go.Vc Go.Sha

theorem Clone_calls (v : Value) (n : Nat) (l : List Nat) (w : World) (hs : SrcW w 1 v n (u8s l)) (hn : n ≤ 1099511627776) :
    Makes Tryd.prog 71 [v] w 5 1 n (u8s l) := by
  obtain ⟨a, c, hv, hmc⟩ := hs.shape
  refine enter Tryd.func71 rfl (Mem.nil w []) rfl ?_
  (repeat refine RC.seq ?_); refine RC.region ?_
  refine Run.v rfl rfl rfl (Val.of rfl) ?_
  refine Run.nil (RQ.next ?_)
  (repeat refine RC.seq ?_); refine RC.region ?_
  refine Run.v rfl rfl rfl (Val.of rfl) ?_
  refine Run.v rfl rfl rfl (Val.eqNil tabOk rfl rfl rfl (by rw [hv]; rfl) rfl) ?_
  refine Run.nil (RQ.next ?_)
  (repeat refine RC.seq ?_); refine RC.cond rfl (fun h => ?_) (fun h => ?_)
  · generalize u8s l = cs at *
    cases hs with
    | «at» => cases hv; cases h
    | nil =>
      (repeat refine RC.seq ?_); refine RC.region ?_
      refine Run.v rfl rfl rfl (Val.of rfl) ?_
      refine Run.nil (RQ.next ?_)
      refine RC.ret ?_; (repeat first | refine RQ.thenRet ?_ | refine RQ.blockRet ?_)
      exact RQ.ret1 rfl (Res.tmp rfl) fun w' hm => Makes.of Own.nil (L' := []) (by simpa using hm)
  · refine RC.skip (RQ.next ?_)
    (repeat refine RC.seq ?_); refine RC.region ?_
    refine Run.mk rfl rfl rfl (New.buildSlice tabOk (parts := []) (cells := #[]) rfl rfl rfl rfl rfl rfl (fillS_nil _ _)) ?_
    intro b0
    refine Run.v rfl rfl rfl (Val.of rfl) ?_
    refine Run.op rfl (OpTo.append tabOk (Own.row b0 0 0 [] [] rfl rfl (Nat.le_refl _) (Nat.zero_le _)) (hs.src) rfl rfl rfl rfl rfl rfl rfl rfl rfl (List.Perm.refl _) (u8s_one l) (by unfold maxLen; omega) (by simp only [ti5]; omega)) ?_
    rintro ⟨⟨v', bl⟩, hown⟩
    refine Run.v rfl rfl rfl (Val.of rfl) ?_
    refine Run.nil (RQ.next ?_)
    exact RC.ret (RQ.ret1 rfl (Res.tmp rfl) fun w' hm => Makes.of (e := 5) (sz := 1) (by have h := hown; rw [Nat.zero_add] at h; exact h) hm)

theorem start_calls (w : World) : Gives Tryd.prog 72 [] (.agg (u32s H0.l).toArray) w := by
  refine enter Tryd.func72 rfl (Mem.nil w []) rfl ?_
  (repeat refine RC.seq ?_); refine RC.region ?_
  refine Run.mk rfl rfl rfl (New.alloc tabOk rfl rfl) ?_
  intro b0
  refine Run.nil (RQ.next ?_)
  (repeat refine RC.seq ?_); refine RC.region ?_
  refine Run.v rfl rfl rfl (Val.buildA tabOk (parts := [(0, .const (.int .u32 1779033703)), (1, .const (.int .u32 3144134277)), (2, .const (.int .u32 1013904242)), (3, .const (.int .u32 2773480762)), (4, .const (.int .u32 1359893119)), (5, .const (.int .u32 2600822924)), (6, .const (.int .u32 528734635)), (7, .const (.int .u32 1541459225))]) (cells := (u32s H0.l).toArray) rfl rfl rfl rfl rfl rfl) ?_
  refine Run.storeAll tabOk rfl rfl rfl rfl rfl rfl (List.Perm.refl _) rfl rfl (fun u hu => u32s_one H0.l u (by simpa [Value.cells] using hu)) ?_
  exact Run.nil (RQ.next (RC.ret (RQ.ret1 rfl (Res.cellAll tabOk rfl rfl rfl List.mem_cons_self rfl) fun w' hm => ⟨rfl, hm.fr⟩)))
end Go.Proofs.YtilfbomjaflbjaaDoor
