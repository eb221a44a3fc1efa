/- HashTexts, HashKnown. -/
import Derived.Test.YtigfcafpoegnjaaDoorLaw1
import Derived.Test.YtigfcafpoegnjaaDoorHex0
namespace Go.Proofs.YtigfcafpoegnjaaDoor
open Go Go.Vc Go.Sha

theorem nibs_lt' (s : List Nat) : ∀ x ∈ readH s, x < 256 := by
  unfold readH
  split
  · exact nibs_lt s 16
  · decide
theorem readH_len (s : List Nat) : (readH s).length = 8 := by
  unfold readH
  split
  · exact nibs_len s 16
  · rfl

set_option maxHeartbeats 400000 in
theorem HashTexts_calls (a b s : List Nat) (ha : a.length = 8) (hb : b.length = 8) (ha' : ∀ x ∈ a, x < 256) (hb' : ∀ x ∈ b, x < 256) (hs : ∀ x ∈ s, x < 256) (w : World) (hK : Laid w) :
    Gives Tryd.prog 6 [.agg (u8s a).toArray, .agg (u8s b).toArray, .string (bs s)] (.bool true) w := by
  have hxa := hex_lt a
  have hxb := hex_lt b
  have hsza : (u8s a).toArray.size = 8 := by simp [u8s_len, ha]
  have hszb : (u8s b).toArray.size = 8 := by simp [u8s_len, hb]
  refine enter Tryd.func6 rfl (Mem.nil w []) rfl ?_
  (repeat refine RC.seq ?_); refine RC.region ?_
  refine Run.mk rfl rfl rfl (New.boxA rfl rfl) ?_
  intro b3
  refine Run.mk rfl rfl rfl (New.boxA rfl rfl) ?_
  intro b4
  refine Run.v rfl rfl rfl (Val.of rfl) ?_
  refine Run.nil (RQ.next ?_)
  (repeat refine RC.seq ?_); refine RC.region ?_
  refine Run.callV Tryd.func8 rfl rfl rfl rfl rfl rfl rfl (fun w' hm => awake_calls w' (hK.fr hm.fr (by simp))) ?_
  refine Run.v rfl rfl rfl (Val.of rfl) ?_
  refine Run.nil (RQ.next ?_)
  (repeat refine RC.seq ?_); refine RC.cond rfl (fun h => ?_) (fun h => ?_)
  · cases h
  refine RC.skip (RQ.next ?_)
  clear h
  (repeat refine RC.seq ?_); refine RC.region ?_
  refine Run.v rfl rfl rfl (Val.of rfl) ?_
  refine Run.v rfl rfl rfl (Val.eq (Val.lenStr tabOk rfl rfl rfl rfl) (show _ = Value.int .i64 (s.length : Nat) from by rw [bs_size])) ?_
  refine Run.v rfl rfl rfl (Val.of rfl) ?_
  refine Run.nil (RQ.next ?_)
  (repeat refine RC.seq ?_); refine RC.cond rfl (fun h => ?_) (fun h => ?_)
  · (repeat refine RC.seq ?_); refine RC.region ?_
    refine Run.v rfl rfl rfl (Val.of rfl) ?_
    refine Run.nil (RQ.next ?_)
    refine RC.ret ?_; (repeat first | refine RQ.thenRet ?_ | refine RQ.blockRet ?_); exact RQ.ret1 rfl (Res.tmp rfl) fun w' hm => ⟨rfl, hm.fr⟩
  clear h
  refine RC.skip (RQ.next ?_)
  (repeat refine RC.seq ?_); refine RC.region ?_
  refine Run.v rfl rfl rfl (Val.loadAll tabOk rfl rfl rfl rfl m1 hsza) ?_
  refine Run.callV Tryd.func19 rfl rfl rfl rfl rfl rfl rfl (fun w' _ => Text_calls a ha ha' w') ?_
  refine Run.callV Tryd.func18 rfl rfl rfl rfl rfl rfl rfl (fun w' _ => Read_calls (hex a) hxa w') ?_
  rw [readH_hex a ha ha', readOk_hex a ha ha']
  refine Run.v rfl rfl rfl (Val.of rfl) ?_
  refine Run.v rfl rfl rfl (Val.of rfl) ?_
  refine Run.v rfl rfl rfl (Val.of rfl) ?_
  refine Run.mk rfl rfl rfl (New.alloc tabOk rfl rfl) ?_
  intro b7
  refine Run.storeAll tabOk rfl rfl rfl rfl rfl rfl (List.Perm.refl _) hsza rfl (fun u hu => u8s_one a u (by simpa [Value.cells] using hu)) ?_
  refine Run.v rfl rfl rfl (Val.of rfl) ?_
  refine Run.nil (RQ.next ?_)
  have hrl := readH_len s
  have hrb := nibs_lt' s
  have hrr := hex_readH s hs
  have hszr : (u8s (readH s)).toArray.size = 8 := by simp [u8s_len, hrl]
  (repeat refine RC.seq ?_); refine RC.region ?_
  refine Run.v rfl rfl rfl (Val.of rfl) ?_
  refine Run.callV Tryd.func18 rfl rfl rfl rfl rfl rfl rfl (fun w' _ => Read_calls s hs w') ?_
  refine Run.v rfl rfl rfl (Val.of rfl) ?_
  refine Run.v rfl rfl rfl (Val.of rfl) ?_
  refine Run.v rfl rfl rfl (Val.of rfl) ?_
  refine Run.mk rfl rfl rfl (New.alloc tabOk rfl rfl) ?_
  intro b9
  refine Run.storeAll tabOk rfl rfl rfl rfl rfl rfl (List.Perm.refl _) hszr rfl (fun u hu => u8s_one (readH s) u (by simpa [Value.cells] using hu)) ?_
  refine Run.v rfl rfl rfl (Val.of rfl) ?_
  refine Run.nil (RQ.next ?_)
  (repeat refine RC.seq ?_); refine RC.region ?_
  refine Run.v rfl rfl rfl (Val.of rfl) ?_
  refine Run.callV Tryd.func20 rfl rfl rfl rfl rfl rfl rfl (fun w' _ => ReadHash_calls s hs w') ?_
  refine Run.v rfl rfl rfl (Val.of rfl) ?_
  refine Run.v rfl rfl rfl (Val.of rfl) ?_
  refine Run.v rfl rfl rfl (Val.of rfl) ?_
  refine Run.mk rfl rfl rfl (New.alloc tabOk rfl rfl) ?_
  intro b11
  refine Run.storeAll tabOk rfl rfl rfl rfl rfl rfl (List.Perm.refl _) hszr rfl (fun u hu => u8s_one (readH s) u (by simpa [Value.cells] using hu)) ?_
  refine Run.v rfl rfl rfl (Val.of rfl) ?_
  refine Run.nil (RQ.next ?_)
  generalize readH s = r at *
  generalize readOk s = ok at *
  (repeat refine RC.seq ?_); refine RC.drawS mixed (N := 45) rfl ?_
  refine DR.take 0 rfl (List.Sublist.refl _) inferInstance (by kernel_rfl) (by kernel_rfl) (by kernel_rfl) (by kernel_rfl) rfl rfl (Wanted.plain rfl) (Val.of rfl) ?_
  refine DR.take 1 rfl (List.Sublist.refl _) inferInstance (by kernel_rfl) (by kernel_rfl) (by kernel_rfl) (by kernel_rfl) rfl rfl (Wanted.plain rfl) (Val.of rfl) ?_
  refine DR.take 2 rfl (List.Sublist.refl _) inferInstance (by kernel_rfl) (by kernel_rfl) (by kernel_rfl) (by kernel_rfl) rfl rfl (Wanted.guard rfl rfl rfl rfl) (Val.loadAll tabOk rfl rfl rfl rfl m2 hsza) ?_
  refine DR.take 3 rfl (List.Sublist.refl _) inferInstance (by kernel_rfl) (by kernel_rfl) (by kernel_rfl) (by kernel_rfl) rfl rfl (Wanted.guard rfl rfl rfl rfl) (Val.loadAll tabOk rfl rfl rfl rfl m4 hsza) ?_
  refine DR.take 4 rfl (List.Sublist.refl _) inferInstance (by kernel_rfl) (by kernel_rfl) (by kernel_rfl) (by kernel_rfl) rfl rfl (Wanted.guard rfl rfl rfl rfl) (Val.eq (Val.eqArr tabOk (a := a) (b := a) rfl rfl rfl rfl rfl (by kernel_rfl) (by kernel_rfl) (by kernel_rfl) rfl rfl ha ha) (show _ = Value.bool true from by rw [decide_eq_true rfl])) ?_
  refine DR.take 5 rfl (List.Sublist.refl _) inferInstance (by kernel_rfl) (by kernel_rfl) (by kernel_rfl) (by kernel_rfl) rfl rfl (Wanted.plain rfl) (Val.of rfl) ?_
  refine DR.take 6 rfl (List.Sublist.refl _) inferInstance (by kernel_rfl) (by kernel_rfl) (by kernel_rfl) (by kernel_rfl) rfl rfl (Wanted.plain rfl) (Val.of rfl) ?_
  refine DR.take 7 rfl (List.Sublist.refl _) inferInstance (by kernel_rfl) (by kernel_rfl) (by kernel_rfl) (by kernel_rfl) rfl rfl (Wanted.guard rfl rfl rfl rfl) (Val.loadAll tabOk rfl rfl rfl rfl m1 hszr) ?_
  refine DR.take 8 rfl (List.Sublist.refl _) inferInstance (by kernel_rfl) (by kernel_rfl) (by kernel_rfl) (by kernel_rfl) rfl rfl (Wanted.guard rfl rfl rfl rfl) (Val.loadAll tabOk rfl rfl rfl rfl m0 hszr) ?_
  refine DR.take 9 rfl (List.Sublist.refl _) inferInstance (by kernel_rfl) (by kernel_rfl) (by kernel_rfl) (by kernel_rfl) rfl rfl (Wanted.guard rfl rfl rfl rfl) (Val.eq (Val.eqArr tabOk (a := r) (b := r) rfl rfl rfl rfl rfl (by kernel_rfl) (by kernel_rfl) (by kernel_rfl) rfl rfl hrl hrl) (show _ = Value.bool true from by rw [decide_eq_true rfl])) ?_
  refine DR.take 10 rfl (List.Sublist.refl _) inferInstance (by kernel_rfl) (by kernel_rfl) (by kernel_rfl) (by kernel_rfl) rfl rfl (Wanted.plain rfl) (Val.of rfl) ?_
  refine DR.take 11 rfl (List.Sublist.refl _) inferInstance (by kernel_rfl) (by kernel_rfl) (by kernel_rfl) (by kernel_rfl) rfl rfl (Wanted.plain rfl) (Val.of rfl) ?_
  refine DR.take 12 rfl (List.Sublist.refl _) inferInstance (by kernel_rfl) (by kernel_rfl) (by kernel_rfl) (by kernel_rfl) rfl rfl (Wanted.guard rfl rfl rfl rfl) (Val.of rfl) ?_
  refine DR.take 13 rfl (List.Sublist.refl _) inferInstance (by kernel_rfl) (by kernel_rfl) (by kernel_rfl) (by kernel_rfl) rfl rfl (Wanted.guard rfl rfl rfl rfl) (Val.of rfl) ?_
  refine DR.take 14 rfl (List.Sublist.refl _) inferInstance (by kernel_rfl) (by kernel_rfl) (by kernel_rfl) (by kernel_rfl) rfl rfl (Wanted.guard rfl rfl rfl rfl) (Val.eq (Val.eqBool tabOk rfl rfl rfl rfl rfl) (show _ = Value.bool true from by rw [beq_self_eq_true])) ?_
  refine DR.take 15 rfl (List.Sublist.refl _) inferInstance (by kernel_rfl) (by kernel_rfl) (by kernel_rfl) (by kernel_rfl) rfl rfl (Wanted.plain rfl) (Val.of rfl) ?_
  refine DR.take 16 rfl (List.Sublist.refl _) inferInstance (by kernel_rfl) (by kernel_rfl) (by kernel_rfl) (by kernel_rfl) rfl rfl (Wanted.plain rfl) (Val.of rfl) ?_
  refine DR.take 17 rfl (List.Sublist.refl _) inferInstance (by kernel_rfl) (by kernel_rfl) (by kernel_rfl) (by kernel_rfl) rfl rfl (Wanted.guard rfl rfl rfl rfl) (Val.loadAll tabOk rfl rfl rfl rfl m4 hsza) ?_
  refine DR.take 19 rfl (List.Sublist.refl _) inferInstance (by kernel_rfl) (by kernel_rfl) (by kernel_rfl) (by kernel_rfl) rfl rfl (Wanted.guard rfl rfl rfl rfl) (Val.loadAll tabOk rfl rfl rfl rfl m4 hsza) ?_
  refine DR.one (i := 18) (by kernel_rfl) ?_
  refine DOp.op rfl (Wanted.guard rfl rfl rfl rfl) (OpTo.callV Tryd.func19 rfl rfl rfl rfl rfl rfl (fun w' _ => Text_calls a ha ha' w')) (.inl fun _ => by first | exact List.nil_sublist _ | exact List.Sublist.refl _ | exact List.Sublist.cons _ (List.Sublist.refl _) | exact List.Sublist.cons _ (List.Sublist.cons _ (List.Sublist.refl _))) (fun _ => ?_)
  refine DR.one (i := 20) (by kernel_rfl) ?_
  refine DOp.op rfl (Wanted.guard rfl rfl rfl rfl) (OpTo.callV Tryd.func21 rfl rfl rfl rfl rfl rfl (fun w' _ => ref_Text_calls a ha ha' w')) (.inl fun _ => by first | exact List.nil_sublist _ | exact List.Sublist.refl _ | exact List.Sublist.cons _ (List.Sublist.refl _) | exact List.Sublist.cons _ (List.Sublist.cons _ (List.Sublist.refl _))) (fun _ => ?_)
  refine DR.take 21 rfl (List.Sublist.refl _) inferInstance (by kernel_rfl) (by kernel_rfl) (by kernel_rfl) (by kernel_rfl) rfl rfl (Wanted.guard rfl rfl rfl rfl) (Val.eq (Val.eqStr (a := hex a) (b := hex a) rfl rfl rfl hxa hxa) (show _ = Value.bool true from by rw [decide_eq_true rfl])) ?_
  refine DR.take 22 rfl (List.Sublist.refl _) inferInstance (by kernel_rfl) (by kernel_rfl) (by kernel_rfl) (by kernel_rfl) rfl rfl (Wanted.plain rfl) (Val.of rfl) ?_
  refine DR.take 23 rfl (List.Sublist.refl _) inferInstance (by kernel_rfl) (by kernel_rfl) (by kernel_rfl) (by kernel_rfl) rfl rfl (Wanted.plain rfl) (Val.of rfl) ?_
  refine DR.take 24 rfl (List.Sublist.refl _) inferInstance (by kernel_rfl) (by kernel_rfl) (by kernel_rfl) (by kernel_rfl) rfl rfl (Wanted.guard rfl rfl rfl rfl) (Val.loadAll tabOk rfl rfl rfl rfl m4 hsza) ?_
  refine DR.take 25 rfl (List.Sublist.refl _) inferInstance (by kernel_rfl) (by kernel_rfl) (by kernel_rfl) (by kernel_rfl) rfl rfl (Wanted.guard rfl rfl rfl rfl) (Val.loadAll tabOk rfl rfl rfl rfl m3 hszb) ?_
  refine DR.take 27 rfl (List.Sublist.refl _) inferInstance (by kernel_rfl) (by kernel_rfl) (by kernel_rfl) (by kernel_rfl) rfl rfl (Wanted.guard rfl rfl rfl rfl) (Val.loadAll tabOk rfl rfl rfl rfl m4 hsza) ?_
  refine DR.take 29 rfl (List.Sublist.refl _) inferInstance (by kernel_rfl) (by kernel_rfl) (by kernel_rfl) (by kernel_rfl) rfl rfl (Wanted.guard rfl rfl rfl rfl) (Val.loadAll tabOk rfl rfl rfl rfl m3 hszb) ?_
  refine DR.one (i := 26) (by kernel_rfl) ?_
  refine DOp.op rfl (Wanted.guard rfl rfl rfl rfl) (OpTo.callV Tryd.func9 rfl rfl rfl rfl rfl rfl (fun w' _ => Less_calls a b ha hb ha' hb' w')) (.inl fun _ => by first | exact List.nil_sublist _ | exact List.Sublist.refl _ | exact List.Sublist.cons _ (List.Sublist.refl _) | exact List.Sublist.cons _ (List.Sublist.cons _ (List.Sublist.refl _))) (fun _ => ?_)
  refine DR.one (i := 28) (by kernel_rfl) ?_
  refine DOp.op rfl (Wanted.guard rfl rfl rfl rfl) (OpTo.callV Tryd.func19 rfl rfl rfl rfl rfl rfl (fun w' _ => Text_calls a ha ha' w')) (.inl fun _ => by first | exact List.nil_sublist _ | exact List.Sublist.refl _ | exact List.Sublist.cons _ (List.Sublist.refl _) | exact List.Sublist.cons _ (List.Sublist.cons _ (List.Sublist.refl _))) (fun _ => ?_)
  refine DR.one (i := 30) (by kernel_rfl) ?_
  refine DOp.op rfl (Wanted.guard rfl rfl rfl rfl) (OpTo.callV Tryd.func19 rfl rfl rfl rfl rfl rfl (fun w' _ => Text_calls b hb hb' w')) (.inl fun _ => by first | exact List.nil_sublist _ | exact List.Sublist.refl _ | exact List.Sublist.cons _ (List.Sublist.refl _) | exact List.Sublist.cons _ (List.Sublist.cons _ (List.Sublist.refl _))) (fun _ => ?_)
  refine DR.take 31 rfl (List.Sublist.refl _) inferInstance (by kernel_rfl) (by kernel_rfl) (by kernel_rfl) (by kernel_rfl) rfl rfl (Wanted.guard rfl rfl rfl rfl) (Val.lssStr (a := hex a) (b := hex b) rfl rfl rfl hxa hxb) ?_
  refine DR.take 32 rfl (List.Sublist.refl _) inferInstance (by kernel_rfl) (by kernel_rfl) (by kernel_rfl) (by kernel_rfl) rfl rfl (Wanted.guard rfl rfl rfl rfl) (Val.eq (Val.eqBool tabOk rfl rfl rfl rfl rfl) (show _ = Value.bool true from by rw [lessL_hex ha' hb', beq_self_eq_true])) ?_
  refine DR.take 33 rfl (List.Sublist.refl _) inferInstance (by kernel_rfl) (by kernel_rfl) (by kernel_rfl) (by kernel_rfl) rfl rfl (Wanted.plain rfl) (Val.of rfl) ?_
  refine DR.take 34 rfl (List.Sublist.refl _) inferInstance (by kernel_rfl) (by kernel_rfl) (by kernel_rfl) (by kernel_rfl) rfl rfl (Wanted.plain rfl) (Val.of rfl) ?_
  refine DR.take 35 rfl (List.Sublist.refl _) inferInstance (by kernel_rfl) (by kernel_rfl) (by kernel_rfl) (by kernel_rfl) rfl rfl (Wanted.guard rfl rfl rfl rfl) (Val.of rfl) ?_
  cases ok with
  | false =>
    refine DR.take 36 rfl (List.Sublist.refl _) inferInstance (by kernel_rfl) (by kernel_rfl) (by kernel_rfl) (by kernel_rfl) rfl rfl (Wanted.guard rfl rfl rfl rfl) (Val.of rfl) ?_
    refine DR.take 37 rfl (List.Sublist.refl _) inferInstance (by kernel_rfl) (by kernel_rfl) (by kernel_rfl) (by kernel_rfl) rfl rfl (Wanted.guard rfl rfl rfl rfl) (Val.of rfl) ?_
    refine DR.pass 38 rfl (List.Sublist.refl _) inferInstance (by kernel_rfl) (by kernel_rfl) (by kernel_rfl) (by kernel_rfl) rfl rfl (Wanted.guard rfl rfl rfl rfl) ?_
    refine DR.pass 40 rfl (List.Sublist.refl _) inferInstance (by kernel_rfl) (by kernel_rfl) (by kernel_rfl) (by kernel_rfl) rfl rfl (Wanted.guard rfl rfl rfl rfl) ?_
    refine DR.one (i := 39) (by kernel_rfl) (DOp.pass rfl (.inl (List.Sublist.refl _)) rfl rfl (Wanted.guard rfl rfl rfl rfl) ?_)
    refine DR.pass 41 rfl (List.Sublist.refl _) inferInstance (by kernel_rfl) (by kernel_rfl) (by kernel_rfl) (by kernel_rfl) rfl rfl (Wanted.guard rfl rfl rfl rfl) ?_
    refine DR.take 42 rfl (List.Sublist.refl _) inferInstance (by kernel_rfl) (by kernel_rfl) (by kernel_rfl) (by kernel_rfl) rfl rfl (Wanted.guard rfl rfl rfl rfl) (Val.of rfl) ?_
    refine DR.take 43 rfl (List.Sublist.refl _) inferInstance (by kernel_rfl) (by kernel_rfl) (by kernel_rfl) (by kernel_rfl) rfl rfl (Wanted.plain rfl) (Val.of rfl) ?_
    refine DR.take 44 rfl (List.Sublist.refl _) inferInstance (by kernel_rfl) (by kernel_rfl) (by kernel_rfl) (by kernel_rfl) rfl rfl (Wanted.plain rfl) (Val.of rfl) ?_
    refine DR.done (by kernel_rfl) (RQ.next ?_)
    refine RC.ret ?_; (repeat first | refine RQ.thenRet ?_ | refine RQ.blockRet ?_); exact RQ.ret1 rfl (Res.tmp rfl) fun w' hm => ⟨rfl, hm.fr⟩
  | true =>
    have hrr := hrr rfl
    refine DR.take 36 rfl (List.Sublist.refl _) inferInstance (by kernel_rfl) (by kernel_rfl) (by kernel_rfl) (by kernel_rfl) rfl rfl (Wanted.guard rfl rfl rfl rfl) (Val.of rfl) ?_
    refine DR.take 37 rfl (List.Sublist.refl _) inferInstance (by kernel_rfl) (by kernel_rfl) (by kernel_rfl) (by kernel_rfl) rfl rfl (Wanted.guard rfl rfl rfl rfl) (Val.of rfl) ?_
    refine DR.take 38 rfl (List.Sublist.refl _) inferInstance (by kernel_rfl) (by kernel_rfl) (by kernel_rfl) (by kernel_rfl) rfl rfl (Wanted.guard rfl rfl rfl rfl) (Val.loadAll tabOk rfl rfl rfl rfl m1 hszr) ?_
    refine DR.take 40 rfl (List.Sublist.refl _) inferInstance (by kernel_rfl) (by kernel_rfl) (by kernel_rfl) (by kernel_rfl) rfl rfl (Wanted.guard rfl rfl rfl rfl) (Val.of rfl) ?_
    refine DR.one (i := 39) (by kernel_rfl) ?_
    refine DOp.op rfl (Wanted.guard rfl rfl rfl rfl) (OpTo.callV Tryd.func19 rfl rfl rfl rfl rfl rfl (fun w' _ => Text_calls r hrl hrb w')) (.inl fun _ => by first | exact List.nil_sublist _ | exact List.Sublist.refl _ | exact List.Sublist.cons _ (List.Sublist.refl _) | exact List.Sublist.cons _ (List.Sublist.cons _ (List.Sublist.refl _))) (fun _ => ?_)
    refine DR.take 41 rfl (List.Sublist.refl _) inferInstance (by kernel_rfl) (by kernel_rfl) (by kernel_rfl) (by kernel_rfl) rfl rfl (Wanted.guard rfl rfl rfl rfl) (Val.eq (Val.eqStr (a := hex r) (b := s) rfl rfl rfl (hex_lt r) hs) (show _ = Value.bool true from by rw [decide_eq_true hrr])) ?_
    refine DR.take 42 rfl (List.Sublist.refl _) inferInstance (by kernel_rfl) (by kernel_rfl) (by kernel_rfl) (by kernel_rfl) rfl rfl (Wanted.guard rfl rfl rfl rfl) (Val.of rfl) ?_
    refine DR.take 43 rfl (List.Sublist.refl _) inferInstance (by kernel_rfl) (by kernel_rfl) (by kernel_rfl) (by kernel_rfl) rfl rfl (Wanted.plain rfl) (Val.of rfl) ?_
    refine DR.take 44 rfl (List.Sublist.refl _) inferInstance (by kernel_rfl) (by kernel_rfl) (by kernel_rfl) (by kernel_rfl) rfl rfl (Wanted.plain rfl) (Val.of rfl) ?_
    refine DR.done (by kernel_rfl) (RQ.next ?_)
    refine RC.ret ?_; (repeat first | refine RQ.thenRet ?_ | refine RQ.blockRet ?_); exact RQ.ret1 rfl (Res.tmp rfl) fun w' hm => ⟨rfl, hm.fr⟩
end Go.Proofs.YtigfcafpoegnjaaDoor
