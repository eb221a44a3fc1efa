/- sparse: awake. -/
import Derived.Test.YtaabinhpagbajaaDoorSpM
set_option linter.unusedSimpArgs false
set_option linter.unusedVariables false
namespace Go.Proofs.YtaabinhpagbajaaDoor
attribute [local irreducible] Go.Vc.Run Go.Vc.RC Go.Vc.RQ Go.Vc.DR Go.Vc.DOp
open Go Go.Vc Go.Sha
theorem fresh_ids {w w' : World} {L L1 : Hp} (hK : Laid w) (hm : Mem w [] L w') (hs : ∀ p ∈ L1, p ∈ L) : 0 ∉ L1.map (·.1) := by
  intro h
  obtain ⟨p, hp, e⟩ := List.mem_map.1 h
  have hgl : 0 < w.heap.size := World.block_lt_of_cell? w ⟨0, 0, none⟩ (hK 0 (by decide))
  rcases hm.own p (hs p hp) with h1 | h1
  · rw [e] at h1; omega
  · cases h1
def X1 : List Nat := [1, 0, 0, 0, 0, 0, 0, 0]
theorem X1_8 : H8 X1 := ⟨rfl, by decide⟩
theorem prfT_lt {F : Nat → List Nat} (hF : okF F) (i : Int) : ∀ x ∈ prfT (nodeF F) i, x < 256 := by
  unfold prfT
  split
  · exact rowOf_lt (fun k => (nodeF_8 hF k _).2) 16
  · intro x hx; rw [List.eq_of_mem_replicate hx]; decide
set_option maxRecDepth 10000 in set_option maxHeartbeats 4000000 in
theorem awake_calls (w : World) (hK : Laid w) : Gives Tryd.prog 8 [] (.bool true) w := by
  refine enter Tryd.func8 rfl (Mem.nil w []) rfl ?_
  refine z_ ?_
  have hz0 : ([] : Hp).Perm ([] ++ []) := List.Perm.refl _
  refine Run.op1 (OpTo.callT Tryd.func23 hz0 (fun w' hm => TNew_calls w')) ?_
  rintro ⟨tb, mb⟩
  dsimp only
  refine z_ ?_
  refine Run.a (vba (u8s X1).toArray) ?_
  have hz1 : ([(tb, Obj.cells #[.map (some mb)] 57 (0, 0)), (mb, mpO [] 0)] ++ [] : Hp).Perm ((trNil tb mb).L ++ []) := List.Perm.refl _
  have hok1 := putL_ok lvOk_nil 5 X1_8
  have hl1 : putL [] 5 X1 = [(5, X1)] := by unfold putL; rw [if_pos (by decide)]; rfl
  have hf1 := lf_put lvOk_nil 5 X1_8
  rw [hl1] at hok1 hf1
  refine Run.op1 (OpTo.callT Tryd.func20 hz1 (fun w' hm => TPut_calls (trNil tb mb) (lfF []) (lfF_ok lvOk_nil) rep_nil 5 X1 X1_8 w' (hm.part hz1).1 (hm.part hz1).2 (hK.fr hm.fr (by simp)) (fresh_ids hK hm (fun p hp => by rw [List.append_nil]; exact hp)))) ?_
  rintro ⟨x, hx⟩
  rw [← hf1] at hx
  have hcnt := rep_cnt hok1 hx
  have hlen := rep_len hx (fun i hi => lf_no fun p hp e => by have := hok1.lt p hp; omega)
  have hF := lfF_ok hok1
  have hget : x.at 0 5 = X1 := by rw [hx.1 0 (by decide)]; exact lf_mem hok1 (p := (5, X1)) List.mem_cons_self
  have hrt : x.at 16 0 = nodeF (lfF [(5, X1)]) 16 0 := hx.1 16 (Nat.le_refl _) 0
  have hpe := rep_prf hx 5
  have hr8 := nodeF_8 hF 16 0
  have hchk := chk_good hF 5 (by decide)
  rw [show lfF [(5, X1)] 5 = X1 from lf_mem hok1 (p := (5, X1)) List.mem_cons_self, show ((5 : Nat) : Int) = 5 from rfl] at hchk
  have hP1 := prfT_len (fun q j => (nodeF_8 hF q j).1) 5
  have hP2 := prfT_lt hF 5
  have tpr := fun w' hw' => TProve_calls x 5 w' hw'
  have trt := fun w' hw' => TRoot_calls x w' hw'
  have tge := fun w' hw' => TGet_calls x 5 w' hw'
  have tln := fun w' hw' => TLen_calls x w' hw' (by omega)
  rw [hpe, show inB 5 = true from rfl] at tpr
  rw [hrt] at trt
  rw [if_pos (by decide), show (5 : Int).toNat = 5 from rfl, hget] at tge
  rw [hcnt] at tln
  generalize prfT (nodeF (lfF [(5, X1)])) 5 = Pf at hP1 hP2 hchk tpr
  generalize nodeF (lfF [(5, X1)]) 16 0 = Rt at hr8 hchk trt
  have sP : (u8s Pf).toArray.size = 128 := by rw [List.size_toArray, u8s_len, hP1]
  have sR : (u8s Rt).toArray.size = 8 := by rw [List.size_toArray, u8s_len, hr8.1]
  have hxm : ∀ {R : Hp} {w' : World}, Mem w [] (x.L ++ R) w' → Has x.L w' := fun hm q hq => hm.has q (List.mem_append_left _ hq)
  have hxm2 : ∀ {a : Nat × Obj} {R : Hp} {w' : World}, Mem w [] (a :: (x.L ++ R)) w' → Has x.L w' := fun hm q hq => hm.has q (List.mem_cons_of_mem _ (List.mem_append_left _ hq))
  clear hx hf1 hok1 hF hpe hget hrt hcnt hlen hl1
  rw [show decide ((0 : Int) ≤ 5 ∧ (5 : Int) < 65536) = true from rfl]
  dsimp only
  refine z_ ?_
  refine Run.op1 (OpTo.cv Tryd.func10 (fun w' hm => tpr w' (hxm hm))) (fun _ => ?_)
  refine z_ ?_
  refine Run.nw nal ?_
  intro b3
  refine Run.op1 (osa (u8s Pf).toArray (u8s_one _) (hs := sP) (hf := by kernel_rfl)) (fun _ => ?_)
  refine z_ ?_
  (repeat refine RC.seq ?_); refine RC.drawS mixed (N := 23) rfl ?_
  refine dt 0 ?_
  refine dt 1 ?_
  refine dt 2 ?_
  refine dt 3 ?_
  refine dt 4 ?_
  refine dt 5 ?_
  refine DR.t 7 rfl (vba (u8s X1).toArray) ?_
  refine DR.t 8 rfl (vla (arr := (u8s Pf).toArray) (hv := sP)) ?_
  refine DR.c 6 (DOp.op1 rfl (OpTo.cv Tryd.func12 (fun w' hm => trt w' (hxm2 hm))) (fun _ => ?_))
  refine DR.c 9 (DOp.op1 rfl (OpTo.cv Tryd.func17 (fun w' hm => TCheck_calls Rt hr8 5 X1 X1_8 Pf hP1 hP2 w' (hK.fr hm.fr (by simp)))) (fun _ => ?_))
  rw [hchk]
  refine dt 10 ?_
  refine dt 11 ?_
  refine dt 12 ?_
  refine DR.c 13 (DOp.op1 rfl (OpTo.cv Tryd.func16 (fun w' hm => tln w' (hxm2 hm))) (fun _ => ?_))
  refine dt 14 ?_
  refine dt 15 ?_
  refine dt 16 ?_
  refine dt 17 ?_
  refine DR.t 19 rfl (vba (u8s X1).toArray) ?_
  refine DR.c 18 (DOp.op1 rfl (OpTo.cv Tryd.func14 (fun w' hm => tge w' (hxm2 hm))) (fun _ => ?_))
  refine DR.t 20 rfl (Val.eqU (m := 8) (a := X1) (b := X1) tabOk rfl rfl rfl (by kernel_rfl) (by kernel_rfl) rfl rfl rfl rfl) ?_
  refine dt 21 ?_
  refine dt 22 ?_
  refine DR.done (by kernel_rfl) ?_
  refine z_ ?_
  exact RQ.ret1 rfl (Res.tmp rfl) fun w' hm => ⟨rfl, hm.fr⟩
end Go.Proofs.YtaabinhpagbajaaDoor
