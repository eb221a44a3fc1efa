/- Lemmas. -/
import Derived.Test.YtfoeakgnkfcbjaaGreatDoorPt31
set_option linter.unusedSimpArgs false
set_option linter.unusedVariables false
section
/- tx: the reference's DecodeTx (Tc4's, alone). -/
namespace Go.Proofs.YtfoeakgnkfcbjaaGreatDoor
attribute [local irreducible] Go.Vc.Run Go.Vc.RC Go.Vc.RQ Go.Vc.DR Go.Vc.DOp Go.Vc.Knows Go.Vc.At
set_option maxHeartbeats 400000
set_option maxRecDepth 10000
open Go Go.Vc Go.Sha
set_option maxRecDepth 10000 in set_option maxHeartbeats 4000000 in
theorem RDecode_calls (l : List Nat) (hl : l.length ≤ 131072) (hb : Bt l) (v : Value) (w : World) (hs : SrcW w 1 v l.length (u8s l)) :
    Turns Tryz.prog 52 [v] w [] (Y := TxY (decT l)) (fun y => .tuple #[.agg (txC (decT l) y.1.1).toArray, .int .i64 (decE l)]) (fun y => y.1.2) := by
  refine enter Tryz.func52 rfl (Mem.nil w []) rfl ?_
  obtain ⟨a, c, rfl, hc⟩ := hs.shape
  have hI : InB w [] a l := ⟨hl, hb, hs.cap, fun _ _ _ h => by cases h⟩
  have hz2 : ∀ x : Nat, (txC (TxD.nul 0) TxV.z).toArray.size = ti64.size := fun _ => by rw [List.size_toArray, txC_len]; rfl
  refine x_ ?_
  refine Run.nw nal ?_
  intro b2
  have hnul : ∀ e : Int, decT l = TxD.nul 0 → decE l = e → ∀ w' L1, Mem w [] ((b2, Obj.cells (txC (TxD.nul 0) TxV.z).toArray 64 (0, 0)) :: L1) w' → ∃ y' : TxY (decT l), Ending.returned (.tuple #[.agg (txC (TxD.nul 0) TxV.z).toArray, .int .i64 e]) = Ending.returned (.tuple #[.agg (txC (decT l) y'.1.1).toArray, .int .i64 (decE l)]) ∧ Fr (([] : Hp).map (·.1)) w w' ∧ Has y'.1.2 w' ∧ (∀ p ∈ y'.1.2, w.heap.size ≤ p.1 ∨ p.1 ∈ ([] : Hp).map (·.1)) ∧ (y'.1.2.map (·.1)).Nodup := fun e h1 h2 w' L1 hm => by
    rw [h1, h2]
    exact Turns.of (Y := TxY (TxD.nul 0)) (V := fun y => .tuple #[.agg (txC (TxD.nul 0) y.1.1).toArray, .int .i64 e]) (L' := fun y => y.1.2) (Lst := []) TxY.nul hm (Lr := _) (List.Perm.refl _)
  refine x_ ?_
  refine Run.a (vbs #[.slice a l.length c, .int .i64 0, .bool false]) ?_
  refine x_ ?_
  refine Run.nw nbx ?_
  intro b4
  have e0 : ([(b4, Obj.cells #[.slice a l.length c, .int .i64 0, .bool false] 96 (0, 0)), (b2, Obj.cells ti64.zero.cells 64 (0, 0))] : Hp) = [(b4, CuC a c l (l, false)), (b2, Obj.cells ti64.zero.cells 64 (0, 0))] := by
    show _ = [(b4, Obj.cells #[.slice a l.length c, .int .i64 ((l.length - l.length : Nat) : Int), .bool false] _ (0, 0)), _]
    rw [Nat.sub_self]; rfl
  refine runPerm (L' := [(b4, CuC a c l (l, false)), (b2, Obj.cells ti64.zero.cells 64 (0, 0))]) (by rw [← e0]) ?_
  refine x_ ?_
  rcases h : zTx (l, false) with ⟨t, s1⟩
  have hs1 : s1.1 <:+ l := by have := agr_tx.sfx (l, false); rw [h] at this; exact this
  have hp1 : ([(b4, CuC a c l (l, false)), (b2, Obj.cells ti64.zero.cells 64 (0, 0))] : Hp).Perm (((b4, CuC a c l (l, false)) :: []) ++ [(b2, Obj.cells ti64.zero.cells 64 (0, 0))]) := List.Perm.refl _
  refine Run.op1 (callC Tryz.func91 (cuTx b4 a c l (l, false) (List.suffix_refl l)) hc hI hp1 h) ?_
  rintro ⟨⟨v5, l5⟩, hat⟩
  dsimp only [List.append_nil, List.cons_append, List.nil_append] at hat ⊢
  have h170 : (txC t v5).toArray.size = 170 := by rw [List.size_toArray, txC_len]
  refine x_ ?_
  refine Run.nw nal ?_
  intro b5
  refine x_ ?_
  refine Run.op1 (osa (arr := ti64.zero.cells) (e := 64) (L' := (b4, CuC a c l s1) :: (l5 ++ [(b2, Obj.cells ti64.zero.cells 64 (0, 0))])) (txC t v5).toArray (txC_one _ _) (hL := (perm_of fun f => by (simp only [List.map_append, List.map_cons, List.map_nil, List.sum_append, List.sum_cons, List.sum_nil] <;> omega))) (hs := by exact h170)) (fun _ => ?_)
  refine x_ ?_
  refine Run.op1 (OpTo.cv Tryz.func53 (fun w' hm => cuEnd b4 a c l hl s1 hs1 w' (hm.has (b4, CuC a c l s1) (by repeat (first | exact List.mem_cons_self | apply List.mem_cons_of_mem | apply List.mem_append_right))))) (fun _ => ?_)
  rcases hp : pTx l with _ | ⟨t', r⟩
  · have hbad := agr_tx.no l hb hp
    rw [h] at hbad
    have hT : decT l = TxD.nul 0 := by unfold decT; rw [hp]
    have hE : decE l = 2 := by unfold decE; rw [if_neg (by omega), hp]
    rw [show endE s1 = 2 from if_pos hbad]
    refine x_ ?_
    rw [tx_zero]
    refine Run.op1 (osa (arr := (txC (TxD.nul 0) TxV.z).toArray) (e := 64) (L' := (b5, Obj.cells (txC t v5).toArray 64 (0, 0)) :: ((b4, CuC a c l s1) :: l5)) (txC (TxD.nul 0) TxV.z).toArray (txC_one _ _) (hL := (perm_of fun f => by (simp only [List.map_append, List.map_cons, List.map_nil, List.sum_append, List.sum_cons, List.sum_nil] <;> omega))) (hs := by exact hz2 0) (hf := by exact (hz2 0).symm)) (fun _ => ?_)
    refine x_ ?_
    exact RQ.ret2 rfl (Res.cellAll tabOk rfl rfl rfl m0 (hz2 0)) (Res.tmp rfl) fun w' hm => hnul 2 hT hE w' _ hm
  have hok := agr_tx.ok l t' r hb hp
  rw [h] at hok
  cases hok
  have hrg : TxRg t := (good_tx.b l t r hb hp).2
  by_cases hr0 : r = []
  rotate_left
  · have hT : decT l = TxD.nul 0 := by unfold decT; rw [hp]; exact if_pos (.inl hr0)
    have hE : decE l = 4 := by unfold decE; rw [if_neg (by omega), hp]; exact if_pos (.inl hr0)
    rw [show endE (r, false) = 4 from by show (if (false : Bool) = true then (2 : Int) else if r ≠ [] then 4 else 0) = 4; rw [if_neg (by decide), if_pos hr0]]
    refine x_ ?_
    rw [tx_zero]
    refine Run.op1 (osa (arr := (txC (TxD.nul 0) TxV.z).toArray) (e := 64) (L' := (b5, Obj.cells (txC t v5).toArray 64 (0, 0)) :: ((b4, CuC a c l (r, false)) :: l5)) (txC (TxD.nul 0) TxV.z).toArray (txC_one _ _) (hL := (perm_of fun f => by (simp only [List.map_append, List.map_cons, List.map_nil, List.sum_append, List.sum_cons, List.sum_nil] <;> omega))) (hs := by exact hz2 0) (hf := by exact (hz2 0).symm)) (fun _ => ?_)
    refine x_ ?_
    exact RQ.ret2 rfl (Res.cellAll tabOk rfl rfl rfl m0 (hz2 0)) (Res.tmp rfl) fun w' hm => hnul 4 hT hE w' _ hm
  subst hr0
  rw [show endE ([], false) = 0 from rfl]
  refine x_ ?_
  refine Run.op1 (OpTo.cv Tryz.func48 (fun w' hm => RMayTx_calls t v5 hrg.ln w' (hat w' (fun q hq => hm.has q (by repeat (first | exact List.mem_append_left _ hq | exact hq | apply List.mem_append_right | apply List.mem_cons_of_mem)))))) (fun _ => ?_)
  by_cases hM : TxMay t
  rotate_left
  · have hT : decT l = TxD.nul 0 := by unfold decT; rw [hp]; exact if_pos (.inr hM)
    have hE : decE l = 4 := by unfold decE; rw [if_neg (by omega), hp]; exact if_pos (.inr hM)
    rw [decide_eq_false hM]
    refine x_ ?_
    rw [tx_zero]
    refine Run.op1 (osa (arr := (txC (TxD.nul 0) TxV.z).toArray) (e := 64) (L' := (b5, Obj.cells (txC t v5).toArray 64 (0, 0)) :: ((b4, CuC a c l ([], false)) :: l5)) (txC (TxD.nul 0) TxV.z).toArray (txC_one _ _) (hL := (perm_of fun f => by (simp only [List.map_append, List.map_cons, List.map_nil, List.sum_append, List.sum_cons, List.sum_nil] <;> omega))) (hs := by exact hz2 0) (hf := by exact (hz2 0).symm)) (fun _ => ?_)
    refine x_ ?_
    exact RQ.ret2 rfl (Res.cellAll tabOk rfl rfl rfl m0 (hz2 0)) (Res.tmp rfl) fun w' hm => hnul 4 hT hE w' _ hm
  have hT : decT l = t := by unfold decT; rw [hp]; exact if_neg (by rintro (h | h); exact h rfl; exact h hM)
  have hE : decE l = 0 := by unfold decE; rw [if_neg (by omega), hp]; exact if_neg (by rintro (h | h); exact h rfl; exact h hM)
  rw [decide_eq_true hM, hT, hE]
  refine x_ ?_
  refine Run.op1 (osa (arr := ti64.zero.cells) (e := 64) (L' := (b5, Obj.cells (txC t v5).toArray 64 (0, 0)) :: ((b4, CuC a c l ([], false)) :: l5)) (txC t v5).toArray (txC_one _ _) (hL := (perm_of fun f => by (simp only [List.map_append, List.map_cons, List.map_nil, List.sum_append, List.sum_cons, List.sum_nil] <;> omega))) (hs := by exact h170)) (fun _ => ?_)
  refine x_ ?_
  exact RQ.ret2 rfl (Res.cellAll tabOk rfl rfl rfl m0 h170) (Res.tmp rfl) fun w' hm => Turns.of (Y := TxY t) (V := fun y => .tuple #[.agg (txC t y.1.1).toArray, .int .i64 0]) (L' := fun y => y.1.2) (Lst := []) ⟨(v5, l5), hat⟩ hm (Lr := [(b2, Obj.cells (txC t v5).toArray 64 (0, 0)), (b5, Obj.cells (txC t v5).toArray 64 (0, 0)), (b4, CuC a c l ([], false))]) (by dsimp only; exact (perm_of fun f => by (simp only [List.map_append, List.map_cons, List.map_nil, List.sum_append, List.sum_cons, List.sum_nil] <;> omega)))
end Go.Proofs.YtfoeakgnkfcbjaaGreatDoor
end
