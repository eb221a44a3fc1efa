/- sparse: set, New, Get, Root. -/
import Derived.Test.YtaabinhpagbajaaDoorSpB
set_option linter.unusedSimpArgs false
set_option linter.unusedVariables false
namespace Go.Proofs.YtaabinhpagbajaaDoor
attribute [local irreducible] Go.Vc.Run Go.Vc.RC Go.Vc.RQ Go.Vc.DR Go.Vc.DOp
open Go Go.Vc Go.Sha
set_option maxRecDepth 10000 in set_option maxHeartbeats 4000000 in
theorem TNew_calls (w : World) : Turns Tryd.prog 23 [] w [] (Y := Nat × Nat) (fun y => .pointer (some ⟨y.1, 0, none⟩)) (fun y => [(y.1, Obj.cells #[.map (some y.2)] 57 (0, 0)), (y.2, mpO [] 0)]) := by
  refine enter Tryd.func23 rfl (Mem.nil w []) rfl ?_
  refine z_ ?_
  refine Run.nw (New.makeMap2 rfl) ?_
  intro mb
  refine Run.a (vbs #[.map (some mb)]) ?_
  refine Run.nw nbx ?_
  intro tb
  refine z_ ?_
  exact RQ.ret1 rfl (Res.tmp rfl) fun w' hm => Turns.of (Y := Nat × Nat) (V := fun y => .pointer (some ⟨y.1, 0, none⟩)) (L' := fun y => [(y.1, Obj.cells #[.map (some y.2)] 57 (0, 0)), (y.2, mpO [] 0)]) (Lst := []) (tb, mb) hm (Lr := []) (List.Perm.refl _)
abbrev SetY (tb mb : Nat) (x : Tr tb mb) (q j : Nat) (h : List Nat) := {y : Tr tb mb // ∀ q' j', y.at q' j' = if q' = q ∧ j' = j then h else x.at q' j'}
def setY {tb mb : Nat} (x : Tr tb mb) (q j : Nat) (h : List Nat) (hh : H8 h) : SetY tb mb x q j h := ⟨⟨(mpSet q j h x.es x.clock).1, (mpSet q j h x.es x.clock).2, (mpSet_ok hh x.ok).1⟩, (mpSet_ok hh x.ok).2⟩
set_option maxRecDepth 10000 in set_option maxHeartbeats 4000000 in
theorem set_calls {tb mb : Nat} (x : Tr tb mb) (q j : Nat) (h : List Nat) (hh : H8 h) (w : World) (hw : Has x.L w) (hnd : (x.L.map (·.1)).Nodup) :
    Turns Tryd.prog 30 [.pointer (some ⟨tb, 0, none⟩), mkey q j, .agg (u8s h).toArray] w x.L (Y := SetY tb mb x q j h) (fun _ => .tuple #[]) (fun y => y.1.L) := by
  refine enter Tryd.func30 rfl (Mem.init (S0 := x.L.map (·.1)) hw (fun p hp => List.mem_map_of_mem hp) hnd) rfl ?_
  have h8 := hh.1
  have hsz : (u8s h).toArray.size = 8 := by rw [List.size_toArray, u8s_len, h8]
  refine z_ ?_
  refine Run.nw (nbx) ?_
  intro b4
  refine Run.nw nbx ?_
  intro b5
  refine z_ ?_
  refine Run.a (vla (hv := hsz)) ?_
  refine Run.op1 (OpTo.cv Tryd.func32 (fun w' _ => Zero_calls h h8 w')) (fun _ => ?_)
  by_cases hz : h = Z8
  · have hz' : decide (h = List.replicate 8 0) = true := decide_eq_true hz
    rw [hz']
    refine z_ ?_
    (repeat refine RC.seq ?_); refine RC.drawS mixed (N := 6) rfl ?_
    refine dt 0 ?_
    refine dt 1 ?_
    refine dt 2 ?_
    refine DR.t 3 rfl (vl (.map (some mb)) (arr := #[.map (some mb)]) (hm := (by repeat (first | exact List.mem_cons_self | apply List.mem_cons_of_mem | apply List.mem_append_right)))) ?_
    refine dt 4 ?_
    refine DR.c 5 ?_
    refine DOp.op1 rfl (OpTo.mapDel (k := q) (i := j) (es := x.es) (clock := x.clock) (L' := [(b5, Obj.cells (u8s h).toArray 29 (0, 0)), (b4, Obj.cells #[.int .i64 q, .int .i64 j] 59 (0, 0)), (tb, Obj.cells #[.map (some mb)] 57 (0, 0))]) mapTy rfl rfl rfl rfl (by unfold TrD.L; exact (perm_of fun f => by (simp only [List.map_append, List.map_cons, List.map_nil, List.sum_append, List.sum_cons, List.sum_nil] <;> omega)))) (fun _ => ?_)
    refine DR.done (by kernel_rfl) ?_
    refine z_ ?_
    refine RQ.ret0 rfl fun w' hm => Turns.of (Y := SetY tb mb x q j h) (V := fun _ => .tuple #[]) (L' := fun y => y.1.L) (Lst := x.L) (setY x q j h hh) hm (Lr := [(b5, Obj.cells (u8s h).toArray 29 (0, 0)), (b4, Obj.cells #[.int .i64 q, .int .i64 j] 59 (0, 0))]) ?_
    unfold setY TrD.L mpSet
    simp only [if_pos hz]
    exact (perm_of fun f => by (simp only [List.map_append, List.map_cons, List.map_nil, List.sum_append, List.sum_cons, List.sum_nil] <;> omega))
  · have hz' : decide (h = List.replicate 8 0) = false := decide_eq_false hz
    rw [hz']
    refine z_ ?_
    refine Run.a (Val.mapNil Tryd.underlying55 rfl rfl rfl) ?_
    refine z_ ?_
    (repeat refine RC.seq ?_); refine RC.drawS mixed (N := 7) rfl ?_
    refine dt 0 ?_
    refine dt 1 ?_
    refine dt 2 ?_
    refine DR.t 3 rfl (vl (.map (some mb)) (arr := #[.map (some mb)]) (hm := (by repeat (first | exact List.mem_cons_self | apply List.mem_cons_of_mem | apply List.mem_append_right)))) ?_
    refine dt 4 ?_
    refine DR.t 5 rfl (vla (hv := hsz)) ?_
    refine DR.c 6 ?_
    refine DOp.op1 rfl (OpTo.mapUpd (k := q) (i := j) (h := h) (es := x.es) (clock := x.clock) (L' := [(b5, Obj.cells (u8s h).toArray 29 (0, 0)), (b4, Obj.cells #[.int .i64 q, .int .i64 j] 59 (0, 0)), (tb, Obj.cells #[.map (some mb)] 57 (0, 0))]) mapTy rfl rfl rfl rfl rfl (by unfold TrD.L; exact (perm_of fun f => by (simp only [List.map_append, List.map_cons, List.map_nil, List.sum_append, List.sum_cons, List.sum_nil] <;> omega)))) (fun _ => ?_)
    refine DR.done (by kernel_rfl) ?_
    refine z_ ?_
    refine RQ.endN rfl fun w' hm => Turns.of (Y := SetY tb mb x q j h) (V := fun _ => .tuple #[]) (L' := fun y => y.1.L) (Lst := x.L) (setY x q j h hh) hm (Lr := [(b5, Obj.cells (u8s h).toArray 29 (0, 0)), (b4, Obj.cells #[.int .i64 q, .int .i64 j] 59 (0, 0))]) ?_
    unfold setY TrD.L mpSet
    simp only [if_neg hz]
    exact (perm_of fun f => by (simp only [List.map_append, List.map_cons, List.map_nil, List.sum_append, List.sum_cons, List.sum_nil] <;> omega))
set_option maxRecDepth 10000 in set_option maxHeartbeats 4000000 in
theorem TGet_calls {tb mb : Nat} (x : Tr tb mb) (i : Int) (w : World) (hw : Has x.L w) :
    Gives Tryd.prog 14 [.pointer (some ⟨tb, 0, none⟩), .int .i64 i] (.agg (u8s (if 0 ≤ i ∧ i < 65536 then x.at 0 i.toNat else Z8)).toArray) w := by
  refine enter Tryd.func14 rfl (Mem.nil w []) rfl ?_
  have hc : w.cell? ⟨tb, 0, none⟩ = some (.map (some mb)) := by rw [cell_of_row w tb 0 _ _ _ (hw _ List.mem_cons_self)]; rfl
  refine z_ ?_
  refine Run.nw nal ?_
  intro b4
  refine z_ ?_
  refine Run.op1 (OpTo.cv Tryd.func25 (fun w' _ => in_calls i w')) (fun _ => ?_)
  by_cases hi : 0 ≤ i ∧ i < 65536
  · rw [decide_eq_true hi, if_pos hi]
    obtain ⟨j, rfl⟩ := Int.eq_ofNat_of_zero_le hi.1
    have hh := mpGet_h8 x.ok 0 j
    have hsz : (u8s (x.at 0 j)).toArray.size = 8 := by rw [List.size_toArray, u8s_len]; exact hh.1
    refine z_ ?_
    refine Run.a (vlo hc) ?_
    refine z_ ?_
    refine Run.a (vbs #[.int .i64 (0 : Nat), .int .i64 j]) ?_
    refine Run.a (Val.lookupOld (k := 0) (i := j) mapTy rfl rfl rfl (hw (mb, mpO x.es x.clock) m1) (by simp)) ?_
    refine Run.op1 (osa (u8s (x.at 0 j)).toArray (u8s_one _) (hs := hsz)) (fun _ => ?_)
    refine z_ ?_
    exact RQ.ret1 rfl (Res.cellAll tabOk rfl rfl rfl m0 hsz) fun w' hm => ⟨rfl, hm.fr⟩
  · rw [decide_eq_false hi, if_neg hi]
    refine z_ ?_
    refine Run.a (vba (u8s Z8).toArray) ?_
    refine Run.op1 (osa (u8s Z8).toArray (u8s_one _)) (fun _ => ?_)
    refine z_ ?_
    exact RQ.ret1 rfl (Res.cellAll tabOk rfl rfl rfl m0 rfl) fun w' hm => ⟨rfl, hm.fr⟩
set_option maxRecDepth 10000 in set_option maxHeartbeats 4000000 in
theorem TRoot_calls {tb mb : Nat} (x : Tr tb mb) (w : World) (hw : Has x.L w) :
    Gives Tryd.prog 12 [.pointer (some ⟨tb, 0, none⟩)] (.agg (u8s (x.at 16 0)).toArray) w := by
  refine enter Tryd.func12 rfl (Mem.nil w []) rfl ?_
  have hc : w.cell? ⟨tb, 0, none⟩ = some (.map (some mb)) := by rw [cell_of_row w tb 0 _ _ _ (hw _ List.mem_cons_self)]; rfl
  have hh := mpGet_h8 x.ok 16 0
  have hsz : (u8s (x.at 16 0)).toArray.size = 8 := by rw [List.size_toArray, u8s_len]; exact hh.1
  refine z_ ?_
  refine Run.nw nal ?_
  intro b2
  refine z_ ?_
  refine Run.a (vlo hc) ?_
  refine z_ ?_
  refine Run.a (vbs #[.int .i64 (16 : Nat), .int .i64 (0 : Nat)]) ?_
  refine Run.a (Val.lookupOld (k := 16) (i := 0) mapTy rfl rfl rfl (hw (mb, mpO x.es x.clock) m1) (by simp)) ?_
  refine Run.op1 (osa (u8s (x.at 16 0)).toArray (u8s_one _) (hs := hsz)) (fun _ => ?_)
  refine z_ ?_
  exact RQ.ret1 rfl (Res.cellAll tabOk rfl rfl rfl m0 hsz) fun w' hm => ⟨rfl, hm.fr⟩
end Go.Proofs.YtaabinhpagbajaaDoor
