/- hash.Two, hash.Zero, hash.Less, hash.Text. -/
import Derived.Test.YtigfcafpoegnjaaDoorDig1
import Derived.Test.YtigfcafpoegnjaaDoorVcK
namespace Go.Proofs.YtigfcafpoegnjaaDoor
open Go Go.Vc Go.Sha

theorem parts2 {w : World} {u v : Value} {a b : List Nat} (hu : SrcW w 1 u a.length (u8s a)) (hv : SrcW w 1 v b.length (u8s b)) : Parts w [u, v] [a, b] :=
  ⟨rfl, fun i h h' => by
    match i, h with
    | 0, _ => exact hu
    | 1, _ => exact hv⟩

theorem Two_calls (p : Nat) (hp : p < 256) (a b : List Nat) (ha : a.length = 8) (hb : b.length = 8) (ha' : ∀ x ∈ a, x < 256) (hb' : ∀ x ∈ b, x < 256) (w : World) (hK : Laid w) :
    Gives Tryd.prog 15 [.int .u8 p, .agg (u8s a).toArray, .agg (u8s b).toArray] (.agg (u8s (digest p [a, b])).toArray) w := by
  refine enter Tryd.func15 rfl (Mem.nil w []) rfl ?_
  (repeat refine RC.seq ?_); refine RC.region ?_
  refine Run.mk rfl rfl rfl (New.boxA rfl rfl) ?_
  intro b4
  refine Run.mk rfl rfl rfl (New.boxA rfl rfl) ?_
  intro b5
  refine Run.mk rfl rfl rfl (New.alloc tabOk rfl rfl) ?_
  intro b6
  refine Run.nil (RQ.next ?_)
  (repeat refine RC.seq ?_); refine RC.drawS mixed (N := 6) rfl ?_
  refine DR.take 0 rfl (List.Sublist.refl _) inferInstance (by kernel_rfl) (by kernel_rfl) (by kernel_rfl) (by kernel_rfl) rfl rfl (Wanted.plain rfl) (Val.of rfl) ?_
  refine DR.take 1 rfl (List.Sublist.refl _) inferInstance (by kernel_rfl) (by kernel_rfl) (by kernel_rfl) (by kernel_rfl) rfl rfl (Wanted.plain rfl) (Val.eq (Val.sliceA tabOk rfl rfl rfl rfl rfl) (show _ = Value.slice (some ⟨b4, 0, none⟩) a.length a.length from by rw [ha])) ?_
  refine DR.take 2 rfl (List.Sublist.refl _) inferInstance (by kernel_rfl) (by kernel_rfl) (by kernel_rfl) (by kernel_rfl) rfl rfl (Wanted.plain rfl) (Val.eq (Val.sliceA tabOk rfl rfl rfl rfl rfl) (show _ = Value.slice (some ⟨b5, 0, none⟩) b.length b.length from by rw [hb])) ?_
  refine DR.one (i := 3) (by kernel_rfl) ?_
  refine DOp.op rfl (Wanted.plain rfl) (OpTo.new rfl rfl (New.buildSlice tabOk (parts := [(0, .tmp 8), (1, .tmp 9)]) (cells := [Value.slice (some ⟨b4, 0, none⟩) a.length a.length, Value.slice (some ⟨b5, 0, none⟩) b.length b.length].toArray) rfl rfl rfl rfl rfl rfl (fillS_full 1 2 _ [Value.slice (some ⟨b4, 0, none⟩) a.length a.length, Value.slice (some ⟨b5, 0, none⟩) b.length b.length] rfl (by simp [Value.cells])))) (.inl fun _ => by first | exact List.nil_sublist _ | exact List.Sublist.cons _ (List.Sublist.refl _)) ?_
  intro b10
  refine DR.one (i := 4) (by kernel_rfl) ?_
  refine DOp.op rfl (Wanted.plain rfl) (OpTo.callV Tryd.func12 rfl rfl rfl rfl rfl rfl (fun w' hm => Of_calls p hp _ _ [a, b] w' (SrcW.row hm List.mem_cons_self rfl (Nat.le_refl 2)) (parts2 (u := .slice (some ⟨b4, 0, none⟩) a.length a.length) (v := .slice (some ⟨b5, 0, none⟩) b.length b.length) (SrcW.row hm m3 (by simp [u8s_len]) (Nat.le_refl _)) (SrcW.row hm m2 (by simp [u8s_len]) (Nat.le_refl _))) (by simp [tot, ha, hb]) (by simpa using ⟨ha', hb'⟩) (hK.fr hm.fr (by simp)))) (.inl fun _ => by first | exact List.nil_sublist _ | exact List.Sublist.refl _ | exact List.Sublist.cons _ (List.Sublist.refl _) | exact List.Sublist.cons _ (List.Sublist.cons _ (List.Sublist.refl _))) (fun _ => ?_)
  have hd := digest_len p [a, b]
  generalize digest p [a, b] = dg at *
  have hsz : (u8s dg).toArray.size = 8 := by simp [u8s_len, hd]
  refine DR.one (i := 5) (by kernel_rfl) ?_
  refine DOp.op rfl (Wanted.plain rfl) (OpTo.storeAll tabOk rfl rfl rfl rfl rfl (List.Perm.swap _ _ _) hsz rfl (fun u hu => u8s_one dg u (by simpa [Value.cells] using hu))) (.inr (by kernel_rfl)) (fun _ => ?_)
  refine DR.done (by kernel_rfl) (RQ.next ?_)
  refine RC.ret ?_
  exact RQ.ret1 rfl (Res.cellAll tabOk rfl rfl rfl List.mem_cons_self hsz) fun w' hm => ⟨rfl, hm.fr⟩

theorem Zero_calls (a : List Nat) (ha : a.length = 8) (w : World) :
    Gives Tryd.prog 17 [.agg (u8s a).toArray] (.bool (decide (a = List.replicate 8 0))) w := by
  refine enter Tryd.func17 rfl (Mem.nil w []) rfl ?_
  (repeat refine RC.seq ?_); refine RC.region ?_
  refine Run.mk rfl rfl rfl (New.boxA rfl rfl) ?_
  intro b1
  refine Run.v rfl rfl rfl (Val.of rfl) ?_
  refine Run.nil (RQ.next ?_)
  (repeat refine RC.seq ?_); refine RC.region ?_
  refine Run.v rfl rfl rfl (Val.loadAll tabOk rfl rfl rfl rfl List.mem_cons_self (by show (u8s a).toArray.size = 8; simp [u8s_len, ha])) ?_
  refine Run.v rfl rfl rfl (Val.buildA tabOk (parts := []) (cells := (u8s (List.replicate 8 0)).toArray) rfl rfl rfl rfl rfl rfl) ?_
  refine Run.v rfl rfl rfl (Val.eqArr tabOk (b := List.replicate 8 0) rfl rfl rfl rfl rfl (by kernel_rfl) (by kernel_rfl) (by kernel_rfl) rfl rfl ha rfl) ?_
  refine Run.v rfl rfl rfl (Val.of rfl) ?_
  refine Run.nil (RQ.next ?_)
  refine RC.ret ?_; (repeat first | refine RQ.thenRet ?_ | refine RQ.blockRet ?_); exact RQ.ret1 rfl (Res.tmp rfl) fun w' hm => ⟨rfl, hm.fr⟩

theorem Compare_calls (u v : Value) (a b : List Nat) (m k : Nat) (w : World) (hu : SrcW w 1 u m (u8s a)) (hv : SrcW w 1 v k (u8s b)) :
    Gives Tryd.prog 22 [u, v] (.int .i64 (Extern.BytealgCompare.cmp (bs a) (bs b))) w := by
  refine enter Tryd.func22 rfl (Mem.nil w []) rfl ?_
  (repeat refine RC.seq ?_); refine RC.region ?_
  refine Run.v rfl rfl rfl (Val.of rfl) ?_
  refine Run.nil (RQ.next ?_)
  (repeat refine RC.seq ?_); refine RC.region ?_
  refine Run.v rfl rfl rfl (Val.of rfl) ?_
  refine Run.v rfl rfl rfl (Val.of rfl) ?_
  refine Run.v rfl rfl rfl (Val.extern Tryd.func30 rfl rfl rfl rfl rfl rfl (v := .int .i64 (Extern.BytealgCompare.cmp (bs a) (bs b))) (fun w' hm => by
    show Sem.run _ (do let x ← Extern.Bytes.bytesOf u; let y ← Extern.Bytes.bytesOf v; pure (goInt (Extern.BytealgCompare.cmp x y))) w' = _
    simp [run_bytesOf (hu.mem hm), run_bytesOf (hv.mem hm), goInt])) ?_
  refine Run.v rfl rfl rfl (Val.of rfl) ?_
  refine Run.nil (RQ.next ?_)
  refine RC.ret ?_; (repeat first | refine RQ.thenRet ?_ | refine RQ.blockRet ?_); exact RQ.ret1 rfl (Res.tmp rfl) fun w' hm => ⟨rfl, hm.fr⟩

theorem Less_calls (a b : List Nat) (ha : a.length = 8) (hb : b.length = 8) (ha' : ∀ x ∈ a, x < 256) (hb' : ∀ x ∈ b, x < 256) (w : World) :
    Gives Tryd.prog 9 [.agg (u8s a).toArray, .agg (u8s b).toArray] (.bool (lessL a b)) w := by
  refine enter Tryd.func9 rfl (Mem.nil w []) rfl ?_
  (repeat refine RC.seq ?_); refine RC.region ?_
  refine Run.mk rfl rfl rfl (New.boxA rfl rfl) ?_
  intro b2
  refine Run.mk rfl rfl rfl (New.boxA rfl rfl) ?_
  intro b3
  refine Run.v rfl rfl rfl (Val.of rfl) ?_
  refine Run.nil (RQ.next ?_)
  (repeat refine RC.seq ?_); refine RC.drawS mixed (N := 5) rfl ?_
  refine DR.take 0 rfl (List.Sublist.refl _) inferInstance (by kernel_rfl) (by kernel_rfl) (by kernel_rfl) (by kernel_rfl) rfl rfl (Wanted.plain rfl) (Val.sliceA tabOk rfl rfl rfl rfl rfl) ?_
  refine DR.take 1 rfl (List.Sublist.refl _) inferInstance (by kernel_rfl) (by kernel_rfl) (by kernel_rfl) (by kernel_rfl) rfl rfl (Wanted.plain rfl) (Val.sliceA tabOk rfl rfl rfl rfl rfl) ?_
  refine DR.one (i := 2) (by kernel_rfl) ?_
  refine DOp.op rfl (Wanted.plain rfl) (OpTo.callV Tryd.func22 rfl rfl rfl rfl rfl rfl (fun w' hm => Compare_calls _ _ a b 8 8 w' (SrcW.row hm (List.mem_cons_of_mem _ List.mem_cons_self) (by simp [u8s_len, ha]) (Nat.le_refl 8)) (SrcW.row hm List.mem_cons_self (by simp [u8s_len, hb]) (Nat.le_refl 8)))) (.inl fun _ => by first | exact List.nil_sublist _ | exact List.Sublist.refl _ | exact List.Sublist.cons _ (List.Sublist.refl _) | exact List.Sublist.cons _ (List.Sublist.cons _ (List.Sublist.refl _))) (fun _ => ?_)
  have hc := cmp_less ha' hb'
  refine DR.take 3 rfl (List.Sublist.refl _) inferInstance (by kernel_rfl) (by kernel_rfl) (by kernel_rfl) (by kernel_rfl) rfl rfl (Wanted.plain rfl) (Val.eq (Val.of rfl) (show _ = Value.bool (lessL a b) from congrArg Value.bool (by rw [Bool.eq_iff_iff, decide_eq_true_iff]; exact hc))) ?_
  refine DR.take 4 rfl (List.Sublist.refl _) inferInstance (by kernel_rfl) (by kernel_rfl) (by kernel_rfl) (by kernel_rfl) rfl rfl (Wanted.plain rfl) (Val.of rfl) ?_
  refine DR.done (by kernel_rfl) (RQ.next ?_)
  refine RC.ret ?_; (repeat first | refine RQ.thenRet ?_ | refine RQ.blockRet ?_); exact RQ.ret1 rfl (Res.tmp rfl) fun w' hm => ⟨rfl, hm.fr⟩
end Go.Proofs.YtigfcafpoegnjaaDoor
