/- bytes.Compare, hash.Less. -/
import Derived.Test.YtigfcafpoegnjaaDoorDigT
namespace Go.Proofs.YtigfcafpoegnjaaDoor
open Go Go.Vc Go.Sha

theorem Compare_calls (u v : Value) (a b : List Nat) (m k : Nat) (w : World) (hu : SrcW w 1 u m (u8s a)) (hv : SrcW w 1 v k (u8s b)) :
    Gives Tryd.prog 22 [u, v] (.int .i64 (Extern.BytealgCompare.cmp (bs a) (bs b))) w := by
  refine enter Tryd.func22 rfl (Mem.nil w []) rfl ?_
  (repeat refine RC.seq ?_); refine RC.region ?_
  refine Run.v rfl rfl rfl (Val.of rfl) ?_
  refine Run.nil (RQ.next ?_)
  (repeat refine RC.seq ?_); refine RC.region ?_
  refine Run.v rfl rfl rfl (Val.of rfl) ?_
  refine Run.v rfl rfl rfl (Val.of rfl) ?_
  refine Run.v rfl rfl rfl (Val.extern Tryd.func30 rfl rfl rfl rfl rfl rfl (v := .int .i64 (Extern.BytealgCompare.cmp (bs a) (bs b))) (fun w' hm => by
    show Sem.run _ (do let x ← Extern.Bytes.bytesOf u; let y ← Extern.Bytes.bytesOf v; pure (goInt (Extern.BytealgCompare.cmp x y))) w' = _
    simp [run_bytesOf (hu.mem hm), run_bytesOf (hv.mem hm), goInt])) ?_
  refine Run.v rfl rfl rfl (Val.of rfl) ?_
  refine Run.nil (RQ.next ?_)
  refine RC.ret ?_; (repeat first | refine RQ.thenRet ?_ | refine RQ.blockRet ?_); exact RQ.ret1 rfl (Res.tmp rfl) fun w' hm => ⟨rfl, hm.fr⟩

theorem Less_calls (a b : List Nat) (ha : a.length = 8) (hb : b.length = 8) (ha' : ∀ x ∈ a, x < 256) (hb' : ∀ x ∈ b, x < 256) (w : World) :
    Gives Tryd.prog 9 [.agg (u8s a).toArray, .agg (u8s b).toArray] (.bool (lessL a b)) w := by
  refine enter Tryd.func9 rfl (Mem.nil w []) rfl ?_
  (repeat refine RC.seq ?_); refine RC.region ?_
  refine Run.mk rfl rfl rfl (New.boxA rfl rfl) ?_
  intro b2
  refine Run.mk rfl rfl rfl (New.boxA rfl rfl) ?_
  intro b3
  refine Run.v rfl rfl rfl (Val.of rfl) ?_
  refine Run.nil (RQ.next ?_)
  (repeat refine RC.seq ?_); refine RC.drawS mixed (N := 5) rfl ?_
  refine DR.take 0 rfl (by repeat (first | exact List.nil_sublist _ | exact List.Sublist.refl _ | apply List.Sublist.cons_cons | apply List.Sublist.cons)) inferInstance (by kernel_rfl) (by kernel_rfl) (by kernel_rfl) (by kernel_rfl) rfl rfl (Wanted.plain rfl) (Val.sliceA tabOk rfl rfl rfl rfl rfl) ?_
  refine DR.take 1 rfl (by repeat (first | exact List.nil_sublist _ | exact List.Sublist.refl _ | apply List.Sublist.cons_cons | apply List.Sublist.cons)) inferInstance (by kernel_rfl) (by kernel_rfl) (by kernel_rfl) (by kernel_rfl) rfl rfl (Wanted.plain rfl) (Val.sliceA tabOk rfl rfl rfl rfl rfl) ?_
  refine DR.one (i := 2) (by kernel_rfl) ?_
  refine DOp.op rfl (Wanted.plain rfl) (OpTo.callV Tryd.func22 rfl rfl rfl rfl rfl rfl (fun w' hm => Compare_calls _ _ a b 8 8 w' (SrcW.row hm (List.mem_cons_of_mem _ List.mem_cons_self) (by simp [u8s_len, ha]) (Nat.le_refl 8)) (SrcW.row hm List.mem_cons_self (by simp [u8s_len, hb]) (Nat.le_refl 8)))) (.inl fun _ => by repeat (first | exact List.nil_sublist _ | exact List.Sublist.refl _ | apply List.Sublist.cons_cons | apply List.Sublist.cons)) (fun _ => ?_)
  have hc := cmp_less ha' hb'
  refine DR.take 3 rfl (by repeat (first | exact List.nil_sublist _ | exact List.Sublist.refl _ | apply List.Sublist.cons_cons | apply List.Sublist.cons)) inferInstance (by kernel_rfl) (by kernel_rfl) (by kernel_rfl) (by kernel_rfl) rfl rfl (Wanted.plain rfl) (Val.eq (Val.of rfl) (show _ = Value.bool (lessL a b) from congrArg Value.bool (by rw [Bool.eq_iff_iff, decide_eq_true_iff]; exact hc))) ?_
  refine DR.take 4 rfl (by repeat (first | exact List.nil_sublist _ | exact List.Sublist.refl _ | apply List.Sublist.cons_cons | apply List.Sublist.cons)) inferInstance (by kernel_rfl) (by kernel_rfl) (by kernel_rfl) (by kernel_rfl) rfl rfl (Wanted.plain rfl) (Val.of rfl) ?_
  refine DR.done (by kernel_rfl) (RQ.next ?_)
  refine RC.ret ?_; (repeat first | refine RQ.thenRet ?_ | refine RQ.blockRet ?_); exact RQ.ret1 rfl (Res.tmp rfl) fun w' hm => ⟨rfl, hm.fr⟩
end Go.Proofs.YtigfcafpoegnjaaDoor
