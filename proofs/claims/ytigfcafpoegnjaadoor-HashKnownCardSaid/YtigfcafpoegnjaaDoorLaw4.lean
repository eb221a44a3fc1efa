/- HashKnown. -/
import Derived.Test.YtigfcafpoegnjaaDoorLaw1
namespace Go.Proofs.YtigfcafpoegnjaaDoor
open Go Go.Vc Go.Sha

def odd : List Nat := [48, 48, 48, 48, 48, 48, 48, 48, 48, 48, 48, 48, 48, 48, 103, 48]
def big : List Nat := [48, 48, 48, 48, 48, 48, 48, 48, 48, 48, 48, 48, 48, 48, 48, 65]
theorem odd_no : readOk odd = false := by decide
theorem big_no : readOk big = false := by decide

theorem parts0 {w : World} : Parts w [] [] := ⟨rfl, fun i h => by cases h⟩
theorem parts1 {w : World} {u : Value} {a : List Nat} (hu : SrcW w 1 u a.length (u8s a)) : Parts w [u] [a] :=
  ⟨rfl, fun i h h' => by
    match i, h with
    | 0, _ => exact hu⟩

set_option maxHeartbeats 400000 in
theorem HashKnown_calls (w : World) (hK : Laid w) :
    Gives Tryd.prog 7 [] (.bool true) w := by
  refine enter Tryd.func7 rfl (Mem.nil w []) rfl ?_
  (repeat refine RC.seq ?_); refine RC.region ?_
  refine Run.v rfl rfl rfl (Val.of rfl) ?_
  refine Run.nil (RQ.next ?_)
  (repeat refine RC.seq ?_); refine RC.region ?_
  refine Run.callV Tryd.func8 rfl rfl rfl rfl rfl rfl rfl (fun w' hm => awake_calls w' (hK.fr hm.fr (by simp))) ?_
  refine Run.v rfl rfl rfl (Val.of rfl) ?_
  refine Run.nil (RQ.next ?_)
  (repeat refine RC.seq ?_); refine RC.cond rfl (fun h => ?_) (fun h => ?_)
  · cases h
  refine RC.skip (RQ.next ?_)
  clear h
  (repeat refine RC.seq ?_); refine RC.region ?_
  refine Run.callV Tryd.func11 rfl rfl rfl rfl rfl rfl rfl (fun w' hm => Sum_calls _ 0 [] w' .nil (by decide) (by decide) (hK.fr hm.fr (by simp))) ?_
  rw [sha_nil]
  refine Run.mk rfl rfl rfl (New.buildSlice tabOk (parts := [(0, .const (.int .u8 97)), (1, .const (.int .u8 98)), (2, .const (.int .u8 99)), (3, .const (.int .u8 100)), (4, .const (.int .u8 98)), (5, .const (.int .u8 99)), (6, .const (.int .u8 100)), (7, .const (.int .u8 101)), (8, .const (.int .u8 99)), (9, .const (.int .u8 100)), (10, .const (.int .u8 101)), (11, .const (.int .u8 102)), (12, .const (.int .u8 100)), (13, .const (.int .u8 101)), (14, .const (.int .u8 102)), (15, .const (.int .u8 103)), (16, .const (.int .u8 101)), (17, .const (.int .u8 102)), (18, .const (.int .u8 103)), (19, .const (.int .u8 104)), (20, .const (.int .u8 102)), (21, .const (.int .u8 103)), (22, .const (.int .u8 104)), (23, .const (.int .u8 105)), (24, .const (.int .u8 103)), (25, .const (.int .u8 104)), (26, .const (.int .u8 105)), (27, .const (.int .u8 106)), (28, .const (.int .u8 104)), (29, .const (.int .u8 105)), (30, .const (.int .u8 106)), (31, .const (.int .u8 107)), (32, .const (.int .u8 105)), (33, .const (.int .u8 106)), (34, .const (.int .u8 107)), (35, .const (.int .u8 108)), (36, .const (.int .u8 106)), (37, .const (.int .u8 107)), (38, .const (.int .u8 108)), (39, .const (.int .u8 109)), (40, .const (.int .u8 107)), (41, .const (.int .u8 108)), (42, .const (.int .u8 109)), (43, .const (.int .u8 110)), (44, .const (.int .u8 108)), (45, .const (.int .u8 109)), (46, .const (.int .u8 110)), (47, .const (.int .u8 111)), (48, .const (.int .u8 109)), (49, .const (.int .u8 110)), (50, .const (.int .u8 111)), (51, .const (.int .u8 112)), (52, .const (.int .u8 110)), (53, .const (.int .u8 111)), (54, .const (.int .u8 112)), (55, .const (.int .u8 113))]) (cells := (u8s abcd).toArray) rfl rfl rfl rfl rfl rfl (fillS_full 1 56 _ (u8s abcd) rfl (by simp [u8s, Value.cells]))) ?_
  intro b12
  refine Run.op rfl (OpTo.mark tabOk rfl rfl rfl rfl rfl rfl rfl rfl (List.Perm.refl _)) ?_
  intro _
  refine Run.callV Tryd.func11 rfl rfl rfl rfl rfl rfl rfl (fun w' hm => Sum_calls _ 56 abcd w' (SrcW.row hm m0 rfl (Nat.le_refl 56)) (by decide) (by decide) (hK.fr hm.fr (by simp))) ?_
  rw [sha_abcd]
  refine Run.mk rfl rfl rfl (New.alloc tabOk rfl rfl) ?_
  intro b1
  refine Run.mk rfl rfl rfl (New.alloc tabOk rfl rfl) ?_
  intro b2
  refine Run.storeAll tabOk rfl rfl rfl rfl rfl rfl p1 rfl rfl (fun u hu => u8s_one _ u (by simpa [Value.cells] using hu)) ?_
  refine Run.storeAll tabOk rfl rfl rfl rfl rfl rfl p1 rfl rfl (fun u hu => u8s_one _ u (by simpa [Value.cells] using hu)) ?_
  refine Run.nil (RQ.next ?_)
  have hx := digest_len 113 []
  have hy := digest_len 113 [[]]
  have hxs : (u8s (digest 113 [])).toArray.size = 8 := by simp [u8s_len, hx]
  have hys : (u8s (digest 113 [[]])).toArray.size = 8 := by simp [u8s_len, hy]
  (repeat refine RC.seq ?_); refine RC.region ?_
  refine Run.callV Tryd.func12 rfl rfl rfl rfl rfl rfl rfl (fun w' hm => Of_calls 113 (by decide) _ [] [] w' .nil parts0 (by decide) (by simp) (hK.fr hm.fr (by simp))) ?_
  refine Run.mk rfl rfl rfl (New.alloc tabOk rfl rfl) ?_
  intro b3
  refine Run.storeAll tabOk rfl rfl rfl rfl rfl rfl (List.Perm.refl _) hxs rfl (fun u hu => u8s_one _ u (by simpa [Value.cells] using hu)) ?_
  refine Run.nil (RQ.next ?_)
  (repeat refine RC.seq ?_); refine RC.region ?_
  refine Run.mk rfl rfl rfl (New.buildSlice tabOk (parts := [(0, .const (.slice none 0 0))]) (cells := [Value.slice none 0 0].toArray) rfl rfl rfl rfl rfl rfl (fillS_full 1 1 _ [Value.slice none 0 0] rfl (by simp [Value.cells]))) ?_
  intro b16
  refine Run.callV Tryd.func12 rfl rfl rfl rfl rfl rfl rfl (fun w' hm => Of_calls 113 (by decide) _ [.slice none 0 0] [[]] w' (SrcW.row hm m0 rfl (Nat.le_refl 1)) (parts1 .nil) (by decide) (by simp) (hK.fr hm.fr (by simp))) ?_
  refine Run.mk rfl rfl rfl (New.alloc tabOk rfl rfl) ?_
  intro b4
  refine Run.storeAll tabOk rfl rfl rfl rfl rfl rfl (List.Perm.refl _) hys rfl (fun u hu => u8s_one _ u (by simpa [Value.cells] using hu)) ?_
  refine Run.nil (RQ.next ?_)
  have hz : ∀ s, readOk s = false → readH s = List.replicate 8 0 := fun s h => by unfold readH; rw [h]; rfl
  (repeat refine RC.seq ?_); refine RC.region ?_
  refine Run.callV Tryd.func18 rfl rfl rfl rfl rfl rfl rfl (fun w' _ => Read_calls odd (by decide) w') ?_
  rw [odd_no, hz odd odd_no]
  refine Run.v rfl rfl rfl (Val.of rfl) ?_
  refine Run.v rfl rfl rfl (Val.of rfl) ?_
  refine Run.v rfl rfl rfl (Val.of rfl) ?_
  refine Run.mk rfl rfl rfl (New.alloc tabOk rfl rfl) ?_
  intro b5
  refine Run.storeAll tabOk rfl rfl rfl rfl rfl rfl (List.Perm.refl _) rfl rfl (fun u hu => u8s_one _ u (by simpa [Value.cells] using hu)) ?_
  refine Run.v rfl rfl rfl (Val.of rfl) ?_
  refine Run.nil (RQ.next ?_)
  (repeat refine RC.seq ?_); refine RC.region ?_
  refine Run.callV Tryd.func18 rfl rfl rfl rfl rfl rfl rfl (fun w' _ => Read_calls big (by decide) w') ?_
  rw [big_no, hz big big_no]
  refine Run.v rfl rfl rfl (Val.of rfl) ?_
  refine Run.v rfl rfl rfl (Val.of rfl) ?_
  refine Run.v rfl rfl rfl (Val.of rfl) ?_
  refine Run.mk rfl rfl rfl (New.alloc tabOk rfl rfl) ?_
  intro b7
  refine Run.storeAll tabOk rfl rfl rfl rfl rfl rfl (List.Perm.refl _) rfl rfl (fun u hu => u8s_one _ u (by simpa [Value.cells] using hu)) ?_
  refine Run.v rfl rfl rfl (Val.of rfl) ?_
  refine Run.nil (RQ.next ?_)
  generalize hdx : digest 113 [] = dx at *
  generalize hdy : digest 113 [[]] = dy at *
  (repeat refine RC.seq ?_); refine RC.drawS mixed (N := 58) rfl ?_
  refine DR.take 0 rfl (by first | exact List.Sublist.refl _ | exact List.Sublist.cons _ (List.Sublist.refl _)) inferInstance (by kernel_rfl) (by kernel_rfl) (by kernel_rfl) (by kernel_rfl) rfl rfl (Wanted.plain rfl) (Val.ix tabOk 0 (off' := 0) rfl rfl rfl rfl rfl rfl rfl (by decide) rfl) ?_
  refine DR.take 1 rfl (by first | exact List.Sublist.refl _ | exact List.Sublist.cons _ (List.Sublist.refl _)) inferInstance (by kernel_rfl) (by kernel_rfl) (by kernel_rfl) (by kernel_rfl) rfl rfl (Wanted.plain rfl) (Val.load (v := .int .u8 227) tabOk rfl rfl rfl m6 rfl) ?_
  refine DR.take 2 rfl (by first | exact List.Sublist.refl _ | exact List.Sublist.cons _ (List.Sublist.refl _)) inferInstance (by kernel_rfl) (by kernel_rfl) (by kernel_rfl) (by kernel_rfl) rfl rfl (Wanted.plain rfl) (Val.eq (Val.of rfl) (show _ = Value.bool true from rfl)) ?_
  refine DR.take 3 rfl (by first | exact List.Sublist.refl _ | exact List.Sublist.cons _ (List.Sublist.refl _)) inferInstance (by kernel_rfl) (by kernel_rfl) (by kernel_rfl) (by kernel_rfl) rfl rfl (Wanted.plain rfl) (Val.of rfl) ?_
  refine DR.take 4 rfl (by first | exact List.Sublist.refl _ | exact List.Sublist.cons _ (List.Sublist.refl _)) inferInstance (by kernel_rfl) (by kernel_rfl) (by kernel_rfl) (by kernel_rfl) rfl rfl (Wanted.guard rfl rfl rfl rfl) (Val.ix tabOk 1 (off' := 1) rfl rfl rfl rfl rfl rfl rfl (by decide) rfl) ?_
  refine DR.take 5 rfl (by first | exact List.Sublist.refl _ | exact List.Sublist.cons _ (List.Sublist.refl _)) inferInstance (by kernel_rfl) (by kernel_rfl) (by kernel_rfl) (by kernel_rfl) rfl rfl (Wanted.guard rfl rfl rfl rfl) (Val.load (v := .int .u8 176) tabOk rfl rfl rfl m6 rfl) ?_
  refine DR.take 6 rfl (by first | exact List.Sublist.refl _ | exact List.Sublist.cons _ (List.Sublist.refl _)) inferInstance (by kernel_rfl) (by kernel_rfl) (by kernel_rfl) (by kernel_rfl) rfl rfl (Wanted.guard rfl rfl rfl rfl) (Val.eq (Val.of rfl) (show _ = Value.bool true from rfl)) ?_
  refine DR.take 7 rfl (by first | exact List.Sublist.refl _ | exact List.Sublist.cons _ (List.Sublist.refl _)) inferInstance (by kernel_rfl) (by kernel_rfl) (by kernel_rfl) (by kernel_rfl) rfl rfl (Wanted.plain rfl) (Val.of rfl) ?_
  refine DR.take 8 rfl (by first | exact List.Sublist.refl _ | exact List.Sublist.cons _ (List.Sublist.refl _)) inferInstance (by kernel_rfl) (by kernel_rfl) (by kernel_rfl) (by kernel_rfl) rfl rfl (Wanted.plain rfl) (Val.of rfl) ?_
  refine DR.take 9 rfl (by first | exact List.Sublist.refl _ | exact List.Sublist.cons _ (List.Sublist.refl _)) inferInstance (by kernel_rfl) (by kernel_rfl) (by kernel_rfl) (by kernel_rfl) rfl rfl (Wanted.guard rfl rfl rfl rfl) (Val.ix tabOk 2 (off' := 2) rfl rfl rfl rfl rfl rfl rfl (by decide) rfl) ?_
  refine DR.take 10 rfl (by first | exact List.Sublist.refl _ | exact List.Sublist.cons _ (List.Sublist.refl _)) inferInstance (by kernel_rfl) (by kernel_rfl) (by kernel_rfl) (by kernel_rfl) rfl rfl (Wanted.guard rfl rfl rfl rfl) (Val.load (v := .int .u8 196) tabOk rfl rfl rfl m6 rfl) ?_
  refine DR.take 11 rfl (by first | exact List.Sublist.refl _ | exact List.Sublist.cons _ (List.Sublist.refl _)) inferInstance (by kernel_rfl) (by kernel_rfl) (by kernel_rfl) (by kernel_rfl) rfl rfl (Wanted.guard rfl rfl rfl rfl) (Val.eq (Val.of rfl) (show _ = Value.bool true from rfl)) ?_
  refine DR.take 12 rfl (by first | exact List.Sublist.refl _ | exact List.Sublist.cons _ (List.Sublist.refl _)) inferInstance (by kernel_rfl) (by kernel_rfl) (by kernel_rfl) (by kernel_rfl) rfl rfl (Wanted.plain rfl) (Val.of rfl) ?_
  refine DR.take 13 rfl (by first | exact List.Sublist.refl _ | exact List.Sublist.cons _ (List.Sublist.refl _)) inferInstance (by kernel_rfl) (by kernel_rfl) (by kernel_rfl) (by kernel_rfl) rfl rfl (Wanted.plain rfl) (Val.of rfl) ?_
  refine DR.take 14 rfl (by first | exact List.Sublist.refl _ | exact List.Sublist.cons _ (List.Sublist.refl _)) inferInstance (by kernel_rfl) (by kernel_rfl) (by kernel_rfl) (by kernel_rfl) rfl rfl (Wanted.guard rfl rfl rfl rfl) (Val.ix tabOk 31 (off' := 31) rfl rfl rfl rfl rfl rfl rfl (by decide) rfl) ?_
  refine DR.take 15 rfl (by first | exact List.Sublist.refl _ | exact List.Sublist.cons _ (List.Sublist.refl _)) inferInstance (by kernel_rfl) (by kernel_rfl) (by kernel_rfl) (by kernel_rfl) rfl rfl (Wanted.guard rfl rfl rfl rfl) (Val.load (v := .int .u8 85) tabOk rfl rfl rfl m6 rfl) ?_
  refine DR.take 16 rfl (by first | exact List.Sublist.refl _ | exact List.Sublist.cons _ (List.Sublist.refl _)) inferInstance (by kernel_rfl) (by kernel_rfl) (by kernel_rfl) (by kernel_rfl) rfl rfl (Wanted.guard rfl rfl rfl rfl) (Val.eq (Val.of rfl) (show _ = Value.bool true from rfl)) ?_
  refine DR.take 17 rfl (by first | exact List.Sublist.refl _ | exact List.Sublist.cons _ (List.Sublist.refl _)) inferInstance (by kernel_rfl) (by kernel_rfl) (by kernel_rfl) (by kernel_rfl) rfl rfl (Wanted.plain rfl) (Val.of rfl) ?_
  refine DR.take 18 rfl (by first | exact List.Sublist.refl _ | exact List.Sublist.cons _ (List.Sublist.refl _)) inferInstance (by kernel_rfl) (by kernel_rfl) (by kernel_rfl) (by kernel_rfl) rfl rfl (Wanted.plain rfl) (Val.of rfl) ?_
  refine DR.take 19 rfl (by first | exact List.Sublist.refl _ | exact List.Sublist.cons _ (List.Sublist.refl _)) inferInstance (by kernel_rfl) (by kernel_rfl) (by kernel_rfl) (by kernel_rfl) rfl rfl (Wanted.guard rfl rfl rfl rfl) (Val.ix tabOk 0 (off' := 0) rfl rfl rfl rfl rfl rfl rfl (by decide) rfl) ?_
  refine DR.take 20 rfl (by first | exact List.Sublist.refl _ | exact List.Sublist.cons _ (List.Sublist.refl _)) inferInstance (by kernel_rfl) (by kernel_rfl) (by kernel_rfl) (by kernel_rfl) rfl rfl (Wanted.guard rfl rfl rfl rfl) (Val.load (v := .int .u8 36) tabOk rfl rfl rfl m5 rfl) ?_
  refine DR.take 21 rfl (by first | exact List.Sublist.refl _ | exact List.Sublist.cons _ (List.Sublist.refl _)) inferInstance (by kernel_rfl) (by kernel_rfl) (by kernel_rfl) (by kernel_rfl) rfl rfl (Wanted.guard rfl rfl rfl rfl) (Val.eq (Val.of rfl) (show _ = Value.bool true from rfl)) ?_
  refine DR.take 22 rfl (by first | exact List.Sublist.refl _ | exact List.Sublist.cons _ (List.Sublist.refl _)) inferInstance (by kernel_rfl) (by kernel_rfl) (by kernel_rfl) (by kernel_rfl) rfl rfl (Wanted.plain rfl) (Val.of rfl) ?_
  refine DR.take 23 rfl (by first | exact List.Sublist.refl _ | exact List.Sublist.cons _ (List.Sublist.refl _)) inferInstance (by kernel_rfl) (by kernel_rfl) (by kernel_rfl) (by kernel_rfl) rfl rfl (Wanted.plain rfl) (Val.of rfl) ?_
  refine DR.take 24 rfl (by first | exact List.Sublist.refl _ | exact List.Sublist.cons _ (List.Sublist.refl _)) inferInstance (by kernel_rfl) (by kernel_rfl) (by kernel_rfl) (by kernel_rfl) rfl rfl (Wanted.guard rfl rfl rfl rfl) (Val.ix tabOk 1 (off' := 1) rfl rfl rfl rfl rfl rfl rfl (by decide) rfl) ?_
  refine DR.take 25 rfl (by first | exact List.Sublist.refl _ | exact List.Sublist.cons _ (List.Sublist.refl _)) inferInstance (by kernel_rfl) (by kernel_rfl) (by kernel_rfl) (by kernel_rfl) rfl rfl (Wanted.guard rfl rfl rfl rfl) (Val.load (v := .int .u8 141) tabOk rfl rfl rfl m5 rfl) ?_
  refine DR.take 26 rfl (by first | exact List.Sublist.refl _ | exact List.Sublist.cons _ (List.Sublist.refl _)) inferInstance (by kernel_rfl) (by kernel_rfl) (by kernel_rfl) (by kernel_rfl) rfl rfl (Wanted.guard rfl rfl rfl rfl) (Val.eq (Val.of rfl) (show _ = Value.bool true from rfl)) ?_
  refine DR.take 27 rfl (by first | exact List.Sublist.refl _ | exact List.Sublist.cons _ (List.Sublist.refl _)) inferInstance (by kernel_rfl) (by kernel_rfl) (by kernel_rfl) (by kernel_rfl) rfl rfl (Wanted.plain rfl) (Val.of rfl) ?_
  refine DR.take 28 rfl (by first | exact List.Sublist.refl _ | exact List.Sublist.cons _ (List.Sublist.refl _)) inferInstance (by kernel_rfl) (by kernel_rfl) (by kernel_rfl) (by kernel_rfl) rfl rfl (Wanted.plain rfl) (Val.of rfl) ?_
  refine DR.take 29 rfl (by first | exact List.Sublist.refl _ | exact List.Sublist.cons _ (List.Sublist.refl _)) inferInstance (by kernel_rfl) (by kernel_rfl) (by kernel_rfl) (by kernel_rfl) rfl rfl (Wanted.guard rfl rfl rfl rfl) (Val.ix tabOk 2 (off' := 2) rfl rfl rfl rfl rfl rfl rfl (by decide) rfl) ?_
  refine DR.take 30 rfl (by first | exact List.Sublist.refl _ | exact List.Sublist.cons _ (List.Sublist.refl _)) inferInstance (by kernel_rfl) (by kernel_rfl) (by kernel_rfl) (by kernel_rfl) rfl rfl (Wanted.guard rfl rfl rfl rfl) (Val.load (v := .int .u8 106) tabOk rfl rfl rfl m5 rfl) ?_
  refine DR.take 31 rfl (by first | exact List.Sublist.refl _ | exact List.Sublist.cons _ (List.Sublist.refl _)) inferInstance (by kernel_rfl) (by kernel_rfl) (by kernel_rfl) (by kernel_rfl) rfl rfl (Wanted.guard rfl rfl rfl rfl) (Val.eq (Val.of rfl) (show _ = Value.bool true from rfl)) ?_
  refine DR.take 32 rfl (by first | exact List.Sublist.refl _ | exact List.Sublist.cons _ (List.Sublist.refl _)) inferInstance (by kernel_rfl) (by kernel_rfl) (by kernel_rfl) (by kernel_rfl) rfl rfl (Wanted.plain rfl) (Val.of rfl) ?_
  refine DR.take 33 rfl (by first | exact List.Sublist.refl _ | exact List.Sublist.cons _ (List.Sublist.refl _)) inferInstance (by kernel_rfl) (by kernel_rfl) (by kernel_rfl) (by kernel_rfl) rfl rfl (Wanted.plain rfl) (Val.of rfl) ?_
  refine DR.take 34 rfl (by first | exact List.Sublist.refl _ | exact List.Sublist.cons _ (List.Sublist.refl _)) inferInstance (by kernel_rfl) (by kernel_rfl) (by kernel_rfl) (by kernel_rfl) rfl rfl (Wanted.guard rfl rfl rfl rfl) (Val.ix tabOk 31 (off' := 31) rfl rfl rfl rfl rfl rfl rfl (by decide) rfl) ?_
  refine DR.take 35 rfl (by first | exact List.Sublist.refl _ | exact List.Sublist.cons _ (List.Sublist.refl _)) inferInstance (by kernel_rfl) (by kernel_rfl) (by kernel_rfl) (by kernel_rfl) rfl rfl (Wanted.guard rfl rfl rfl rfl) (Val.load (v := .int .u8 193) tabOk rfl rfl rfl m5 rfl) ?_
  refine DR.take 36 rfl (by first | exact List.Sublist.refl _ | exact List.Sublist.cons _ (List.Sublist.refl _)) inferInstance (by kernel_rfl) (by kernel_rfl) (by kernel_rfl) (by kernel_rfl) rfl rfl (Wanted.guard rfl rfl rfl rfl) (Val.eq (Val.of rfl) (show _ = Value.bool true from rfl)) ?_
  refine DR.take 37 rfl (by first | exact List.Sublist.refl _ | exact List.Sublist.cons _ (List.Sublist.refl _)) inferInstance (by kernel_rfl) (by kernel_rfl) (by kernel_rfl) (by kernel_rfl) rfl rfl (Wanted.plain rfl) (Val.of rfl) ?_
  refine DR.take 38 rfl (by first | exact List.Sublist.refl _ | exact List.Sublist.cons _ (List.Sublist.refl _)) inferInstance (by kernel_rfl) (by kernel_rfl) (by kernel_rfl) (by kernel_rfl) rfl rfl (Wanted.plain rfl) (Val.of rfl) ?_
  refine DR.take 39 rfl (by first | exact List.Sublist.refl _ | exact List.Sublist.cons _ (List.Sublist.refl _)) inferInstance (by kernel_rfl) (by kernel_rfl) (by kernel_rfl) (by kernel_rfl) rfl rfl (Wanted.guard rfl rfl rfl rfl) (Val.loadAll tabOk rfl rfl rfl rfl m4 hxs) ?_
  refine DR.one (i := 40) (by kernel_rfl) ?_
  refine DOp.op rfl (Wanted.guard rfl rfl rfl rfl) (OpTo.callV Tryd.func14 rfl rfl rfl rfl rfl rfl (fun w' hm => Digest_calls 113 (by decide) _ [] [] w' .nil parts0 (by decide) (by simp))) (.inl fun _ => by first | exact List.nil_sublist _ | exact List.Sublist.refl _ | exact List.Sublist.cons _ (List.Sublist.refl _) | exact List.Sublist.cons _ (List.Sublist.cons _ (List.Sublist.refl _))) (fun _ => ?_)
  refine DR.take 41 rfl (by first | exact List.Sublist.refl _ | exact List.Sublist.cons _ (List.Sublist.refl _)) inferInstance (by kernel_rfl) (by kernel_rfl) (by kernel_rfl) (by kernel_rfl) rfl rfl (Wanted.guard rfl rfl rfl rfl) (Val.eq (Val.eqArr tabOk (a := dx) (b := digest 113 []) rfl rfl rfl rfl rfl (by kernel_rfl) (by kernel_rfl) (by kernel_rfl) rfl rfl hx (digest_len _ _)) (show _ = Value.bool true from by rw [decide_eq_true hdx.symm])) ?_
  refine DR.take 42 rfl (by first | exact List.Sublist.refl _ | exact List.Sublist.cons _ (List.Sublist.refl _)) inferInstance (by kernel_rfl) (by kernel_rfl) (by kernel_rfl) (by kernel_rfl) rfl rfl (Wanted.plain rfl) (Val.of rfl) ?_
  refine DR.take 43 rfl (by first | exact List.Sublist.refl _ | exact List.Sublist.cons _ (List.Sublist.refl _)) inferInstance (by kernel_rfl) (by kernel_rfl) (by kernel_rfl) (by kernel_rfl) rfl rfl (Wanted.plain rfl) (Val.of rfl) ?_
  refine DR.take 44 rfl (by first | exact List.Sublist.refl _ | exact List.Sublist.cons _ (List.Sublist.refl _)) inferInstance (by kernel_rfl) (by kernel_rfl) (by kernel_rfl) (by kernel_rfl) rfl rfl (Wanted.guard rfl rfl rfl rfl) (Val.loadAll tabOk rfl rfl rfl rfl m2 hys) ?_
  refine DR.one (i := 45) (by kernel_rfl) (DOp.op rfl (Wanted.guard rfl rfl rfl rfl) (OpTo.new rfl rfl (New.buildSlice tabOk (parts := [(0, .const (.slice none 0 0))]) (cells := [Value.slice none 0 0].toArray) rfl rfl rfl rfl rfl rfl (fillS_full 1 1 _ [Value.slice none 0 0] rfl (by simp [Value.cells])))) (.inl fun _ => List.Sublist.cons _ (List.Sublist.refl _)) ?_)
  intro b71
  refine DR.one (i := 46) (by kernel_rfl) ?_
  refine DOp.op rfl (Wanted.guard rfl rfl rfl rfl) (OpTo.callV Tryd.func14 rfl rfl rfl rfl rfl rfl (fun w' hm => Digest_calls 113 (by decide) _ [.slice none 0 0] [[]] w' (SrcW.row hm m0 rfl (Nat.le_refl 1)) (parts1 .nil) (by decide) (by simp))) (.inl fun _ => by first | exact List.nil_sublist _ | exact List.Sublist.refl _ | exact List.Sublist.cons _ (List.Sublist.refl _) | exact List.Sublist.cons _ (List.Sublist.cons _ (List.Sublist.refl _))) (fun _ => ?_)
  refine DR.take 47 rfl (by first | exact List.Sublist.refl _ | exact List.Sublist.cons _ (List.Sublist.refl _)) inferInstance (by kernel_rfl) (by kernel_rfl) (by kernel_rfl) (by kernel_rfl) rfl rfl (Wanted.guard rfl rfl rfl rfl) (Val.eq (Val.eqArr tabOk (a := dy) (b := digest 113 [[]]) rfl rfl rfl rfl rfl (by kernel_rfl) (by kernel_rfl) (by kernel_rfl) rfl rfl hy (digest_len _ _)) (show _ = Value.bool true from by rw [decide_eq_true hdy.symm])) ?_
  refine DR.take 48 rfl (by first | exact List.Sublist.refl _ | exact List.Sublist.cons _ (List.Sublist.refl _)) inferInstance (by kernel_rfl) (by kernel_rfl) (by kernel_rfl) (by kernel_rfl) rfl rfl (Wanted.plain rfl) (Val.of rfl) ?_
  refine DR.take 49 rfl (by first | exact List.Sublist.refl _ | exact List.Sublist.cons _ (List.Sublist.refl _)) inferInstance (by kernel_rfl) (by kernel_rfl) (by kernel_rfl) (by kernel_rfl) rfl rfl (Wanted.plain rfl) (Val.of rfl) ?_
  refine DR.take 50 rfl (by first | exact List.Sublist.refl _ | exact List.Sublist.cons _ (List.Sublist.refl _)) inferInstance (by kernel_rfl) (by kernel_rfl) (by kernel_rfl) (by kernel_rfl) rfl rfl (Wanted.guard rfl rfl rfl rfl) (Val.of rfl) ?_
  refine DR.take 51 rfl (by first | exact List.Sublist.refl _ | exact List.Sublist.cons _ (List.Sublist.refl _)) inferInstance (by kernel_rfl) (by kernel_rfl) (by kernel_rfl) (by kernel_rfl) rfl rfl (Wanted.guard rfl rfl rfl rfl) (Val.of rfl) ?_
  refine DR.take 52 rfl (by first | exact List.Sublist.refl _ | exact List.Sublist.cons _ (List.Sublist.refl _)) inferInstance (by kernel_rfl) (by kernel_rfl) (by kernel_rfl) (by kernel_rfl) rfl rfl (Wanted.plain rfl) (Val.of rfl) ?_
  refine DR.take 53 rfl (by first | exact List.Sublist.refl _ | exact List.Sublist.cons _ (List.Sublist.refl _)) inferInstance (by kernel_rfl) (by kernel_rfl) (by kernel_rfl) (by kernel_rfl) rfl rfl (Wanted.plain rfl) (Val.of rfl) ?_
  refine DR.take 54 rfl (by first | exact List.Sublist.refl _ | exact List.Sublist.cons _ (List.Sublist.refl _)) inferInstance (by kernel_rfl) (by kernel_rfl) (by kernel_rfl) (by kernel_rfl) rfl rfl (Wanted.guard rfl rfl rfl rfl) (Val.of rfl) ?_
  refine DR.take 55 rfl (by first | exact List.Sublist.refl _ | exact List.Sublist.cons _ (List.Sublist.refl _)) inferInstance (by kernel_rfl) (by kernel_rfl) (by kernel_rfl) (by kernel_rfl) rfl rfl (Wanted.guard rfl rfl rfl rfl) (Val.of rfl) ?_
  refine DR.take 56 rfl (by first | exact List.Sublist.refl _ | exact List.Sublist.cons _ (List.Sublist.refl _)) inferInstance (by kernel_rfl) (by kernel_rfl) (by kernel_rfl) (by kernel_rfl) rfl rfl (Wanted.plain rfl) (Val.of rfl) ?_
  refine DR.take 57 rfl (by first | exact List.Sublist.refl _ | exact List.Sublist.cons _ (List.Sublist.refl _)) inferInstance (by kernel_rfl) (by kernel_rfl) (by kernel_rfl) (by kernel_rfl) rfl rfl (Wanted.plain rfl) (Val.of rfl) ?_
  refine DR.done (by kernel_rfl) (RQ.next ?_)
  refine RC.ret ?_; (repeat first | refine RQ.thenRet ?_ | refine RQ.blockRet ?_); exact RQ.ret1 rfl (Res.tmp rfl) fun w' hm => ⟨rfl, hm.fr⟩
end Go.Proofs.YtigfcafpoegnjaaDoor
