/- sparse: Put. -/
import Derived.Test.YtaabinhpagbajaaDoorSpC
set_option linter.unusedSimpArgs false
set_option linter.unusedVariables false
namespace Go.Proofs.YtaabinhpagbajaaDoor
attribute [local irreducible] Go.Vc.Run Go.Vc.RC Go.Vc.RQ Go.Vc.DR Go.Vc.DOp
open Go Go.Vc Go.Sha
/-- A tree is that of leaves. -/
def RepT {tb mb : Nat} (x : Tr tb mb) (F : Nat → List Nat) : Prop := (∀ q, q ≤ 16 → ∀ j, x.at q j = nodeF F q j) ∧ ∀ q, 16 < q → ∀ j, x.at q j = Z8
def putF (F : Nat → List Nat) (i : Int) (h : List Nat) : Nat → List Nat := if 0 ≤ i ∧ i < 65536 then updF F i.toNat h else F
abbrev PutT (tb mb : Nat) (F : Nat → List Nat) := {y : Tr tb mb // RepT y F}
theorem updF_ok {F : Nat → List Nat} (h : okF F) {i : Nat} {x : List Nat} (hx : H8 x) : okF (updF F i x) := fun j => by
  unfold updF
  split
  · exact hx
  · exact h j
set_option maxRecDepth 10000 in set_option maxHeartbeats 4000000 in
theorem TPut_calls {tb mb : Nat} (x : Tr tb mb) (F : Nat → List Nat) (hF : okF F) (hx : RepT x F) (i : Int) (h : List Nat) (hh : H8 h) (w : World) (hw : Has x.L w) (hnd : (x.L.map (·.1)).Nodup) (hK : Laid w) (hst : 0 ∉ x.L.map (·.1)) :
    Turns Tryd.prog 20 [.pointer (some ⟨tb, 0, none⟩), .int .i64 i, .agg (u8s h).toArray] w x.L (Y := PutT tb mb (putF F i h)) (fun _ => .bool (decide (0 ≤ i ∧ i < 65536))) (fun y => y.1.L) := by
  refine enter Tryd.func20 rfl (Mem.init (S0 := x.L.map (·.1)) hw (fun p hp => List.mem_map_of_mem hp) hnd) rfl ?_
  have hsz : (u8s h).toArray.size = 8 := by rw [List.size_toArray, u8s_len, hh.1]
  refine z_ ?_
  refine Run.nw nbx ?_
  intro b5
  refine z_ ?_
  refine Run.op1 (OpTo.cv Tryd.func25 (fun w' _ => in_calls i w')) (fun _ => ?_)
  by_cases hi : 0 ≤ i ∧ i < 65536
  case neg =>
    rw [decide_eq_false hi]
    have e : putF F i h = F := if_neg hi
    refine z_ ?_
    exact RQ.ret1 rfl (Res.tmp rfl) fun w' hm => Turns.of (Y := PutT tb mb (putF F i h)) (V := fun _ => .bool false) (L' := fun y => y.1.L) (Lst := x.L) ⟨x, by rw [e]; exact hx⟩ hm (Lr := [(b5, Obj.cells (u8s h).toArray 29 (0, 0))]) (perm_of fun f => by (simp only [List.map_append, List.map_cons, List.map_nil, List.sum_append, List.sum_cons, List.sum_nil] <;> omega))
  obtain ⟨i, rfl⟩ := Int.eq_ofNat_of_zero_le hi.1
  have hi16 : i < 65536 := by omega
  have e : putF F i h = updF F i h := if_pos hi
  rw [decide_eq_true hi, e]
  have hF' := updF_ok hF (i := i) hh
  obtain ⟨G, hG⟩ : ∃ G, G = updF F i h := ⟨_, rfl⟩
  rw [← hG] at hF' ⊢
  have hz : ((b5, Obj.cells (u8s h).toArray 29 (0, 0)) :: x.L).Perm (x.L ++ [(b5, Obj.cells (u8s h).toArray 29 (0, 0))]) := (perm_of fun f => by (simp only [List.map_append, List.map_cons, List.map_nil, List.sum_append, List.sum_cons, List.sum_nil] <;> omega))
  refine z_ ?_
  refine Run.a (vbs #[.int .i64 (0 : Nat), .int .i64 i]) ?_
  refine Run.a (vla (hv := hsz)) ?_
  refine Run.op1 (OpTo.callT Tryd.func30 hz (fun w' hm => set_calls x 0 i h hh w' (hm.part hz).1 (hm.part hz).2)) ?_
  rintro ⟨y0, hy0⟩
  dsimp only
  refine z_ ?_
  refine RC.up 16 (D := Tr tb mb) (fun k d => ∀ q j, d.at q j = if q ≤ k then nodeF G q j else x.at q j) (fun k _ => [(7, .int .i64 ((k + 1 : Nat) : Int)), (1, .int .i64 ((i / 2 ^ k : Nat) : Int)), (0, .pointer (some ⟨tb, 0, none⟩))]) (fun _ d => d.L) 0 y0 (Nat.zero_le _) ?_ ⟨rfl, ?_, rfl, trivial⟩ (List.sublist_append_left _ _) ?_
  · intro q j
    rw [hy0]
    by_cases hq : q = 0
    · subst hq
      rw [if_pos (Nat.le_refl _)]
      show _ = G j
      rw [hG]
      unfold updF
      by_cases hj : j = i
      · rw [if_pos ⟨rfl, hj⟩, if_pos hj]
      · rw [if_neg (fun h => hj h.2), if_neg hj]
        exact hx.1 0 (Nat.zero_le _) j
    · rw [if_neg (fun h => hq h.1), if_neg (by omega)]
  · exact congrArg (fun z => some (Value.int .i64 z)) (by simp)
  intro k d hk hd
  obtain ⟨ik, hik⟩ : ∃ ik, ik = i / 2 ^ k := ⟨_, rfl⟩
  rw [← hik]
  have hik' : Hd (ik = i / 2 ^ k) := ⟨hik⟩
  clear hik
  refine RC.seq ?_
  refine RC.seq ?_
  refine RC.region ?_
  refine Run.a (Val.of rfl) ?_
  refine Run.a (Val.of rfl) ?_
  refine Run.nil (RQ.next ?_)
  (repeat refine RC.seq ?_); refine RC.wh rfl (fun h => RQ.next ?_) (fun h => ?_)
  · have hk' : k < 16 := by have := of_decide_eq_true h; omega
    clear h
    have hik := hik'.h
    obtain ⟨I, hI⟩ : ∃ I, I = i / 2 ^ (k + 1) := ⟨_, rfl⟩
    have hI2 : I = ik / 2 := by rw [hI, hik, Nat.pow_succ, Nat.div_div_eq_div_mul]
    have hib : ik < 65536 := by rw [hik]; exact Nat.lt_of_le_of_lt (Nat.div_le_self _ _) hi16
    clear hik
    have hI' : Hd (I = i / 2 ^ (k + 1)) := ⟨hI⟩
    clear hI
    have hIb : I < 65536 := by omega
    have hv : (ik : Int).fdiv (2 ^ min (1 : Int).toNat IntKind.i64.bits) = (I : Int) := by
      rw [show min (1 : Int).toNat IntKind.i64.bits = 1 from rfl, Int.fdiv_eq_ediv_of_nonneg _ (by decide), hI2]
      rfl
    have a1 : H8 (d.at k (2 * I)) := mpGet_h8 d.ok _ _
    have a2 : H8 (d.at k (2 * I + 1)) := mpGet_h8 d.ok _ _
    refine z_ ?_
    rw [hv]
    refine z_ ?_
    (repeat refine RC.seq ?_); refine RC.drawS mixed (N := 27) rfl ?_
    refine dt 0 ?_
    refine dt 1 ?_
    refine dt 2 ?_
    refine DR.t 3 rfl (vbs #[.int .i64 ((k + 1 : Nat) : Int), .int .i64 I]) ?_
    refine dt 4 ?_
    refine dt 5 ?_
    refine dt 6 ?_
    refine DR.t 7 rfl (vl (.map (some mb)) (arr := #[.map (some mb)]) (hm := (by repeat (first | exact List.mem_cons_self | apply List.mem_cons_of_mem | apply List.mem_append_right)))) ?_
    refine dt 8 ?_
    refine dt 9 ?_
    refine dt 10 ?_
    refine dt 11 ?_
    rw [show ((k + 1 : Nat) : Int) - 1 = (k : Int) from by omega, show (2 : Int) * (I : Int) = ((2 * I : Nat) : Int) from by omega]
    refine DR.t 12 rfl (vbs #[.int .i64 (k : Nat), .int .i64 ((2 * I : Nat) : Int)]) ?_
    refine DR.t 13 rfl (Val.lookup2 (b := mb) (k := k) (i := 2 * I) (es := d.es) (clock := d.clock) mapTy rfl rfl rfl (by unfold TrD.L; exact (by repeat (first | exact List.mem_cons_self | apply List.mem_cons_of_mem | apply List.mem_append_right)))) ?_
    refine dt 14 ?_
    refine dt 15 ?_
    refine dt 16 ?_
    refine DR.t 17 rfl (vl (.map (some mb)) (arr := #[.map (some mb)]) (hm := (by repeat (first | exact List.mem_cons_self | apply List.mem_cons_of_mem | apply List.mem_append_right)))) ?_
    refine dt 18 ?_
    refine dt 19 ?_
    refine dt 20 ?_
    refine dt 21 ?_
    refine dt 22 ?_
    rw [show ((k + 1 : Nat) : Int) - 1 = (k : Int) from by omega, show (2 : Int) * (I : Int) + 1 = ((2 * I + 1 : Nat) : Int) from by omega]
    refine DR.t 23 rfl (vbs #[.int .i64 (k : Nat), .int .i64 ((2 * I + 1 : Nat) : Int)]) ?_
    refine DR.t 24 rfl (Val.lookup2 (b := mb) (k := k) (i := 2 * I + 1) (es := d.es) (clock := d.clock) mapTy rfl rfl rfl (by unfold TrD.L; exact (by repeat (first | exact List.mem_cons_self | apply List.mem_cons_of_mem | apply List.mem_append_right)))) ?_
    refine DR.c 25 (DOp.op1 rfl (OpTo.cv Tryd.func27 (fun w' hm => over_calls (d.at k (2 * I)) (d.at k (2 * I + 1)) a1 a2 w' (hK.fr hm.fr hst))) (fun _ => ?_))
    have hz9 : (d.L).Perm (d.L ++ []) := by rw [List.append_nil]
    refine DR.c 26 (DOp.op1 rfl (OpTo.callT Tryd.func30 hz9 (fun w' hm => set_calls d (k + 1) I (overH (d.at k (2 * I)) (d.at k (2 * I + 1))) overH_8 w' hm.has hm.nd)) ?_)
    rintro ⟨y, hy⟩
    dsimp only
    refine DR.done (by kernel_rfl) ?_
    refine z_ ?_
    refine RQ.upS (k + 1) y (Nat.lt_succ_self _) hk' (fun q j => ?_) ⟨congrArg (fun z => some (Value.int .i64 z)) (by omega), by rw [← hI'.h]; rfl, rfl, trivial⟩ (L1 := y.L ++ []) (List.Perm.refl _) (List.sublist_append_left _ _)
    have e1 : d.at k (2 * I) = nodeF G k (2 * I) := by rw [hd, if_pos (Nat.le_refl k)]
    have e2 : d.at k (2 * I + 1) = nodeF G k (2 * I + 1) := by rw [hd, if_pos (Nat.le_refl k)]
    rw [hy, e1, e2, hd]
    by_cases hq : q = k + 1
    · subst hq
      rw [if_pos (show k + 1 ≤ k + 1 from Nat.le_refl _), if_neg (show ¬ k + 1 ≤ k by omega)]
      by_cases hj : j = I
      · rw [if_pos ⟨rfl, hj⟩, hj]
        rfl
      · rw [if_neg (fun h => hj h.2), hx.1 _ (by omega), hG]
        exact (nodeF_upd (by rw [← hI'.h]; exact hj)).symm
    · rw [if_neg (fun h => hq h.1)]
      by_cases hq2 : q ≤ k
      · rw [if_pos hq2, if_pos (by omega)]
      · rw [if_neg hq2, if_neg (by omega)]
  · have hk' : k = 16 := by have := of_decide_eq_false h; omega
    subst hk'
    refine z_ ?_
    exact RQ.ret1 rfl (Res.tmp rfl) fun w' hm => Turns.of (Y := PutT tb mb G) (V := fun _ => .bool true) (L' := fun y => y.1.L) (Lst := x.L) ⟨d, fun q hq j => by rw [hd, if_pos hq], fun q hq j => by rw [hd, if_neg (by omega)]; exact hx.2 q hq j⟩ hm (Lr := []) (by rw [List.append_nil])
end Go.Proofs.YtaabinhpagbajaaDoor
