import Derived.Test.YtmajfapnbchecaaDoorTy4
set_option linter.unusedSimpArgs false
set_option linter.unusedVariables false
/- tx: awake, Few (gen_ty5.py prints it). -/
namespace Go.Proofs.YtmajfapnbchecaaDoor
attribute [local irreducible] Go.Vc.Run Go.Vc.RC Go.Vc.RQ Go.Vc.DR Go.Vc.DOp Go.Vc.Knows Go.Vc.At
set_option maxHeartbeats 400000
set_option maxRecDepth 10000
open Go Go.Vc Go.Sha
theorem dec_T {t : TxD} (h : TxMay t) : decT t.b = t := by
  unfold decT
  rw [(dec_back h).1]
  exact if_neg (by rintro (h' | h'); exact h' rfl; exact h' h)
def coin1 : TxD := tCoin 1 []
theorem may_coin1 : TxMay coin1 := .coin 1 [] (by decide) ⟨fun o ho => absurd ho (by simp), by decide⟩
theorem coin1_b : coin1.b = [1, 1, 0, 0, 0, 0] := rfl
theorem at_nul {w : World} : TxAt w coin1 TxV.z := ⟨.nil, .nil, .nil, .nil, .nil, .nil⟩
theorem ln_coin1 : TxLn coin1 := by unfold TxLn; decide
set_option maxRecDepth 10000 in set_option maxHeartbeats 4000000 in
theorem Tawake_calls (w : World) (hK : Laid w) : Gives Tryd.prog 8 [] (.bool true) w := by
  refine enter Tryd.func8 rfl (Mem.nil w []) rfl ?_
  refine x_ ?_
  refine Run.a (vbs (txC coin1 TxV.z).toArray) ?_
  have hz0 : ([] : Hp).Perm ([] ++ []) := List.Perm.refl _
  refine Run.op1 (OpTo.callT Tryd.func10 hz0 (fun w' hm => TEncode_calls coin1 TxV.z ln_coin1 w' at_nul)) ?_
  rintro ⟨⟨v9, l9⟩, h9⟩
  dsimp only at h9 ⊢
  rw [show encE coin1 = 0 from if_pos may_coin1]
  rw [show encB coin1 = [1, 1, 0, 0, 0, 0] from (if_pos may_coin1).trans coin1_b] at h9
  obtain ⟨a9, c9, rfl, hc9⟩ := h9.shape
  refine x_ ?_
  have hz1 : (l9 ++ [] : Hp).Perm ([] ++ (l9 ++ [])) := List.Perm.refl _
  have hE : decE [1, 1, 0, 0, 0, 0] = 0 := by rw [← coin1_b]; exact (dec_back may_coin1).2
  have hT : decT [1, 1, 0, 0, 0, 0] = coin1 := by rw [← coin1_b]; exact dec_T may_coin1
  refine Run.op1 (OpTo.callT Tryd.func16 hz1 (fun w' hm => TDecode_calls [1, 1, 0, 0, 0, 0] (by decide) (by unfold Bt; decide) _ w' (h9.srcW (fun q hq => hm.has q (List.mem_append_left _ hq))))) ?_
  rw [hE, hT]
  rintro ⟨⟨v14, l14⟩, hat⟩
  dsimp only at hat ⊢
  obtain ⟨_, rh, _, _, _, _, _, _, _, _, _, _, _⟩ := tx_rd coin1 v14
  have hFs : (txC coin1 v14).toArray.size = 170 := by rw [List.size_toArray, txC_len]
  have h1 := txC_one coin1 v14
  have cI := fun w' (hw : Has l14 w') (hf : Fr [] w w') => TID_calls coin1 v14 ln_coin1 w' (hat w' hw) (hK.fr hf (by simp))
  have h8 := dgH_len 120 coin1 []
  rw [decide_eq_true may_coin1] at cI
  generalize dgH 120 coin1 [] = D at cI h8
  generalize hF : txC coin1 v14 = F at rh hFs cI h1 ⊢
  refine x_ ?_
  refine Run.nw nal ?_
  intro b3
  refine x_ ?_
  refine Run.op1 (osa (arr := ti39.zero.cells) F.toArray h1 (hs := by exact hFs)) (fun _ => ?_)
  refine x_ ?_
  refine Run.op1 (OpTo.cv Tryd.func12 (fun w' hm => cI w' (fun q hq => hm.has q (by repeat (first | exact List.mem_append_left _ hq | exact hq | apply List.mem_append_right | apply List.mem_cons_of_mem))) hm.fr)) (fun _ => ?_)
  refine x_ ?_
  refine Run.nw nal ?_
  intro b5
  refine x_ ?_
  refine Run.op1 (osa (arr := ti29.zero.cells) (u8s D).toArray (u8s_one D) (hs := by rw [List.size_toArray, u8s_len, h8]; rfl)) (fun _ => ?_)
  have hht : coin1.ht = 1 := rfl
  refine x_ ?_
  exact RQ.ret1 rfl (Res.tmp rfl) fun w' hm => ⟨rfl, hm.fr⟩
/-- Its lists are short. -/
def FewP (t : TxD) : Prop := t.is.length ≤ 20 ∧ t.os.length ≤ 40 ∧ t.fs.length ≤ 40 ∧ t.p.ks.length ≤ 20 ∧ t.c.os.length ≤ 40 ∧ t.c.sg.length ≤ 20
instance (t : TxD) : Decidable (FewP t) := by unfold FewP; infer_instance
theorem FewP.ln {t : TxD} (h : FewP t) : TxLn t := by
  obtain ⟨h1, h2, h3, h4, h5, h6⟩ := h
  exact ⟨by omega, by omega, by omega, by omega, by omega, by omega⟩
set_option maxRecDepth 10000 in set_option maxHeartbeats 4000000 in
theorem TFew_calls (t : TxD) (v : TxV) (w : World) : Gives Tryd.prog 9 [.agg (txC t v).toArray] (.bool (decide (FewP t))) w := by
  refine enter Tryd.func9 rfl (Mem.nil w []) rfl ?_
  obtain ⟨_, _, ri, ro, rf, _, rk, _, _, _, ra, rs, _⟩ := tx_rd t v
  have hmm : FewP t ↔ t.is.length ≤ 20 ∧ t.os.length ≤ 40 ∧ t.fs.length ≤ 40 ∧ t.p.ks.length ≤ 20 ∧ t.c.os.length ≤ 40 ∧ t.c.sg.length ≤ 20 := Iff.rfl
  have hno : ∀ (w' : World), Fr [] w w' → ¬ FewP t → Ending.returned (.bool false) = Ending.returned (.bool (decide (FewP t))) ∧ Fr [] w w' := fun w' hf h => ⟨by rw [decide_eq_false h], hf⟩
  generalize txC t v = F at ri ro rf rk ra rs ⊢
  refine x_ ?_
  refine Run.nw nbx ?_
  intro b1
  refine x_ ?_
  by_cases h0 : ¬ t.is.length ≤ 20
  · refine x_ ?_
    exact RQ.ret1 rfl (Res.tmp rfl) fun w' hm => hno w' hm.fr (fun h => by have := hmm.1 h; omega)
  refine x_ ?_
  by_cases h1 : ¬ t.os.length ≤ 40
  · refine x_ ?_
    exact RQ.ret1 rfl (Res.tmp rfl) fun w' hm => hno w' hm.fr (fun h => by have := hmm.1 h; omega)
  refine x_ ?_
  by_cases h2 : ¬ t.fs.length ≤ 40
  · refine x_ ?_
    exact RQ.ret1 rfl (Res.tmp rfl) fun w' hm => hno w' hm.fr (fun h => by have := hmm.1 h; omega)
  refine x_ ?_
  by_cases h3 : ¬ t.p.ks.length ≤ 20
  · refine x_ ?_
    exact RQ.ret1 rfl (Res.tmp rfl) fun w' hm => hno w' hm.fr (fun h => by have := hmm.1 h; omega)
  refine x_ ?_
  by_cases h4 : ¬ t.c.os.length ≤ 40
  · refine x_ ?_
    exact RQ.ret1 rfl (Res.tmp rfl) fun w' hm => hno w' hm.fr (fun h => by have := hmm.1 h; omega)
  refine x_ ?_
  have e : decide ((t.c.sg.length : Int) ≤ 20) = decide (FewP t) := decide_eq_decide.2 ⟨fun h => hmm.2 (by omega), fun h => by have := hmm.1 h; omega⟩
  exact RQ.ret1 rfl (Res.tmp rfl) fun w' hm => ⟨by rw [← e]; rfl, hm.fr⟩
end Go.Proofs.YtmajfapnbchecaaDoor

/- tx: the laws: TxWrites, TxCuts. -/
namespace Go.Proofs.YtmajfapnbchecaaDoor
attribute [local irreducible] Go.Vc.Run Go.Vc.RC Go.Vc.RQ Go.Vc.DR Go.Vc.DOp Go.Vc.Knows Go.Vc.At
set_option maxHeartbeats 400000
set_option maxRecDepth 10000
open Go Go.Vc Go.Sha
theorem bt_enc (t : TxD) : ∀ x ∈ encB t, x < 256 := by
  unfold encB
  split
  · rename_i h
    exact bt_tx h
  · intro x hx; cases hx
theorem enc_len (t : TxD) : (encB t).length ≤ 3000 := by
  unfold encB
  split
  · rename_i h
    exact h.bl
  · decide
set_option maxRecDepth 10000 in set_option maxHeartbeats 4000000 in
theorem TxWrites_calls (t : TxD) (v : TxV) (w : World) (ht : TxAt w t v) (hK : Laid w) : Gives Tryd.prog 3 [.agg (txC t v).toArray] (.bool true) w := by
  refine enter Tryd.func3 rfl (Mem.nil w []) rfl ?_
  have ca : Knows Tryd.prog w 8 [] (.bool true) := Knows.mk Tryd.func8 (fun w' hf => Tawake_calls w' (hK.fr hf (by simp)))
  have cf : Knows Tryd.prog w 9 [.agg (txC t v).toArray] (.bool (decide (FewP t))) := Knows.mk Tryd.func9 (fun w' hf => TFew_calls t v w')
  have hFs : (txC t v).toArray.size = 170 := by rw [List.size_toArray, txC_len]
  by_cases hf : FewP t
  rotate_left
  · rw [decide_eq_false hf] at cf
    generalize txC t v = F at hFs cf ⊢
    refine x_ ?_
    refine Run.nw nbx ?_
    intro b1
    refine x_ ?_
    exact RQ.ret1 rfl (Res.tmp rfl) fun w' hm => ⟨rfl, hm.fr⟩
  rw [decide_eq_true hf] at cf
  have hln := hf.ln
  have hE : ∀ w', Fr [] w w' → Turns Tryd.prog 10 [.agg (txC t v).toArray] w' [] (Y := EncY t) (fun y => .tuple #[y.1.1, .int .i64 (encE t)]) (fun y => y.1.2) := fun w' hf => TEncode_calls t v hln w' (ht.fr hf)
  have hE2 : ∀ w', Fr [] w w' → Turns Tryd.prog 11 [.agg (txC t v).toArray] w' [] (Y := EncY t) (fun y => .tuple #[y.1.1, .int .i64 (encE t)]) (fun y => y.1.2) := fun w' hf => REncode_calls t v hln w' (ht.fr hf)
  have c1 : Knows Tryd.prog w 12 [.agg (txC t v).toArray] (.tuple #[.agg (u8s (dgH 120 t [])).toArray, .bool (decide (TxMay t))]) := Knows.mk Tryd.func12 (fun w' hf => TID_calls t v hln w' (ht.fr hf) (hK.fr hf (by simp)))
  have c2 : Knows Tryd.prog w 13 [.agg (txC t v).toArray] (.tuple #[.agg (u8s (dgH 120 t [])).toArray, .bool (decide (TxMay t))]) := Knows.mk Tryd.func13 (fun w' hf => RTxID_calls t v hln w' (ht.fr hf))
  have c3 : ∀ w', Fr [] w w' → Gives Tryd.prog 14 [.agg (txC t v).toArray] (.bool (decide (TxMay t))) w' := fun w' hf => TMay_calls t v hln w' (ht.fr hf)
  have c4 : ∀ w', Fr [] w w' → Gives Tryd.prog 15 [.agg (txC t v).toArray] (.bool (decide (TxMay t))) w' := fun w' hf => RMayTx_calls t v hln w' (ht.fr hf)
  have h8 := dgH_len 120 t []
  have hbt := bt_enc t
  generalize txC t v = F at hFs cf hE hE2 c1 c2 c3 c4 ⊢
  generalize dgH 120 t [] = D at c1 c2 h8
  generalize decide (TxMay t) = q at c1 c2 c3 c4
  have hDs : (u8s D).toArray.size = 8 := by rw [List.size_toArray, u8s_len, h8]
  refine x_ ?_
  refine Run.nw nbx ?_
  intro b1
  refine x_ ?_
  have hz0 : ([(b1, Obj.cells F.toArray 39 (0, 0))] : Hp).Perm ([] ++ [(b1, Obj.cells F.toArray 39 (0, 0))]) := List.Perm.refl _
  refine Run.op1 (OpTo.callT Tryd.func10 hz0 (fun w' hm => hE w' hm.fr)) ?_
  rintro ⟨⟨v5, l5⟩, h5⟩
  dsimp only at h5 ⊢
  refine x_ ?_
  have hz1 : (l5 ++ [(b1, Obj.cells F.toArray 39 (0, 0))] : Hp).Perm ([] ++ (l5 ++ [(b1, Obj.cells F.toArray 39 (0, 0))])) := List.Perm.refl _
  refine Run.op1 (OpTo.callT Tryd.func11 hz1 (fun w' hm => hE2 w' hm.fr)) ?_
  rintro ⟨⟨v6, l6⟩, h6⟩
  dsimp only at h6 ⊢
  refine x_ ?_
  refine Run.nw nal ?_
  intro b7
  refine x_ ?_
  refine Run.op1 (osa (arr := ti29.zero.cells) (u8s D).toArray (u8s_one D) (hs := by exact hDs)) (fun _ => ?_)
  refine x_ ?_
  refine Run.nw nal ?_
  intro b9
  refine x_ ?_
  refine Run.op1 (osa (arr := ti29.zero.cells) (u8s D).toArray (u8s_one D) (hs := by exact hDs)) (fun _ => ?_)
  refine x_ ?_
  (repeat refine RC.seq ?_); refine RC.drawS mixed (N := 28) rfl ?_
  refine DR.t 0 rfl (vla (arr := F.toArray) (hv := hFs) (hm := (by repeat (first | exact List.mem_cons_self | apply List.mem_cons_of_mem | apply List.mem_append_right)))) ?_
  refine DR.t 2 rfl (vla (arr := F.toArray) (hv := hFs) (hm := (by repeat (first | exact List.mem_cons_self | apply List.mem_cons_of_mem | apply List.mem_append_right)))) ?_
  refine DR.c 1 (DOp.op1 rfl (OpTo.cv Tryd.func14 (fun w' hm => c3 w' hm.fr)) (fun _ => ?_))
  refine DR.c 3 (DOp.op1 rfl (OpTo.cv Tryd.func15 (fun w' hm => c4 w' hm.fr)) (fun _ => ?_))
  refine DR.t 4 rfl (veb) ?_
  refine dy 5 ?_
  refine dy 6 ?_
  refine dy 7 ?_
  refine dy 8 ?_
  refine dy 9 ?_
  refine dy 10 ?_
  refine dy 11 ?_
  refine DR.t 12 rfl (Val.bytesStr (a := encB t) tabOk rfl rfl rfl rfl rfl rfl rfl rfl (h5.src (fun q hq => (by repeat (first | exact List.mem_append_left _ hq | exact hq | apply List.mem_append_right | apply List.mem_cons_of_mem))))) ?_
  refine dy 13 ?_
  refine DR.t 14 rfl (Val.bytesStr (a := encB t) tabOk rfl rfl rfl rfl rfl rfl rfl rfl (h6.src (fun q hq => (by repeat (first | exact List.mem_append_left _ hq | exact hq | apply List.mem_append_right | apply List.mem_cons_of_mem))))) ?_
  refine DR.t 15 rfl (Val.eq (Val.eqStr (a := encB t) (b := encB t) rfl rfl rfl hbt hbt) (show _ = Value.bool true from by rw [decide_eq_true rfl])) ?_
  refine dy 16 ?_
  refine dy 17 ?_
  refine DR.t 18 rfl (vla (arr := (u8s D).toArray) (hv := hDs) (hm := (by repeat (first | exact List.mem_cons_self | apply List.mem_cons_of_mem | apply List.mem_append_right)))) ?_
  refine DR.t 19 rfl (vla (arr := (u8s D).toArray) (hv := hDs) (hm := (by repeat (first | exact List.mem_cons_self | apply List.mem_cons_of_mem | apply List.mem_append_right)))) ?_
  refine DR.t 20 rfl (veu 8 D h8 (by kernel_rfl)) ?_
  refine dy 21 ?_
  refine dy 22 ?_
  refine dy 23 ?_
  refine dy 24 ?_
  refine DR.t 25 rfl (veb) ?_
  refine dy 26 ?_
  refine dy 27 ?_
  refine DR.done (by kernel_rfl) ?_
  refine x_ ?_
  exact RQ.ret1 rfl (Res.tmp rfl) fun w' hm => ⟨rfl, hm.fr⟩
set_option maxRecDepth 10000 in set_option maxHeartbeats 4000000 in
theorem TxCuts_calls (t : TxD) (v : TxV) (cut : Nat) (hcut : cut < 65536) (w : World) (ht : TxAt w t v) (hK : Laid w) : Gives Tryd.prog 4 [.agg (txC t v).toArray, .int .u16 cut] (.bool true) w := by
  refine enter Tryd.func4 rfl (Mem.nil w []) rfl ?_
  have ca : Knows Tryd.prog w 8 [] (.bool true) := Knows.mk Tryd.func8 (fun w' hf => Tawake_calls w' (hK.fr hf (by simp)))
  have cf : Knows Tryd.prog w 9 [.agg (txC t v).toArray] (.bool (decide (FewP t))) := Knows.mk Tryd.func9 (fun w' hf => TFew_calls t v w')
  have hFs : (txC t v).toArray.size = 170 := by rw [List.size_toArray, txC_len]
  by_cases hf : FewP t
  rotate_left
  · rw [decide_eq_false hf] at cf
    generalize txC t v = F at hFs cf ⊢
    refine x_ ?_
    refine Run.nw nbx ?_
    intro b1
    refine x_ ?_
    exact RQ.ret1 rfl (Res.tmp rfl) fun w' hm => ⟨rfl, hm.fr⟩
  rw [decide_eq_true hf] at cf
  have hln := hf.ln
  have hE : ∀ w', Fr [] w w' → Turns Tryd.prog 10 [.agg (txC t v).toArray] w' [] (Y := EncY t) (fun y => .tuple #[y.1.1, .int .i64 (encE t)]) (fun y => y.1.2) := fun w' hf => TEncode_calls t v hln w' (ht.fr hf)
  generalize txC t v = F at hFs cf hE ⊢
  refine x_ ?_
  refine Run.nw nbx ?_
  intro b1
  refine x_ ?_
  have hz0 : ([(b1, Obj.cells F.toArray 39 (0, 0))] : Hp).Perm ([] ++ [(b1, Obj.cells F.toArray 39 (0, 0))]) := List.Perm.refl _
  refine Run.op1 (OpTo.callT Tryd.func10 hz0 (fun w' hm => hE w' hm.fr)) ?_
  rintro ⟨⟨v5, l5⟩, h5⟩
  dsimp only at h5 ⊢
  by_cases hM : TxMay t
  rotate_left
  · rw [show encE t = 1 from if_neg hM]
    refine x_ ?_
    exact RQ.ret1 rfl (Res.tmp rfl) fun w' hm => ⟨rfl, hm.fr⟩
  rw [show encE t = 0 from if_pos hM]
  rw [show encB t = t.b from if_pos hM] at h5
  have hbl := hM.bl
  have hb0 : 0 < t.b.length := by unfold TxD.b; rw [List.length_append, le_len]; omega
  obtain ⟨a5, c5, rfl, hc5⟩ := h5.shape
  obtain ⟨k, hk, hkl⟩ : ∃ k, cut % t.b.length = k ∧ k < t.b.length := ⟨_, rfl, Nat.mod_lt _ hb0⟩
  refine x_ ?_
  rw [hk]
  refine Run.a (Val.sHi tabOk k rfl rfl rfl rfl rfl rfl (by omega) (by omega)) ?_
  have hkt : (t.b.take k).length = k := by rw [List.length_take]; omega
  have hz1 : (l5 ++ [(b1, Obj.cells F.toArray 39 (0, 0))] : Hp).Perm ([] ++ (l5 ++ [(b1, Obj.cells F.toArray 39 (0, 0))])) := List.Perm.refl _
  refine Run.op1 (OpTo.callT Tryd.func16 hz1 (fun w' hm => TDecode_calls (t.b.take k) (by omega) (fun x hx => bt_tx hM x (List.mem_of_mem_take hx)) (.slice a5 k c5) w' (by have h := (h5.srcW (w := w') (fun q hq => hm.has q (List.mem_append_left _ hq))).tk (k := k) (by omega); rw [Nat.mul_one, ← u8s_take] at h; rw [hkt]; exact h))) ?_
  rw [dec_cut hM hkl]
  rintro ⟨⟨v7, l7⟩, hat7⟩
  dsimp only at hat7 ⊢
  have hG7 : (txC (decT (t.b.take k)) v7).toArray.size = 170 := by rw [List.size_toArray, txC_len]
  have hO7 := txC_one (decT (t.b.take k)) v7
  generalize txC (decT (t.b.take k)) v7 = G7 at hG7 hO7 ⊢
  refine x_ ?_
  refine Run.nw nal ?_
  intro b7
  refine x_ ?_
  refine Run.op1 (osa (arr := ti39.zero.cells) G7.toArray hO7 (hs := by exact hG7)) (fun _ => ?_)
  refine x_ ?_
  refine Run.nw (New.buildSlice tabOk (parts := []) (cells := #[]) rfl rfl rfl rfl rfl rfl (fillS_nil _ _)) ?_
  intro b40
  refine x_ ?_
  have h40 : Own 5 1 (.slice (some ⟨b40, 0, none⟩) 0 0) ([] : List Nat).length (u8s []) [(b40, .cells #[] 5 (0, 0))] := Own.row b40 0 0 [] [] rfl rfl (Nat.le_refl _) (by unfold maxLen; decide)
  refine Run.op1 (apB (L1 := (b7, Obj.cells G7.toArray 39 (0, 0)) :: (l7 ++ (l5 ++ [(b1, Obj.cells F.toArray 39 (0, 0))]))) h40 t.b (h5.src (fun q hq => (by repeat (first | exact List.mem_append_left _ hq | exact hq | apply List.mem_append_right | apply List.mem_cons_of_mem)))) (by simp only [List.length_nil]; omega) (perm_of fun f => by (simp only [List.map_append, List.map_cons, List.map_nil, List.sum_append, List.sum_cons, List.sum_nil] <;> omega))) ?_
  rintro ⟨⟨v42, l42⟩, h42⟩
  dsimp only at h42 ⊢
  rw [List.nil_append] at h42
  refine x_ ?_
  have hw8 : IntKind.u8.wrap (cut : Int) = ((cut % 256 : Nat) : Int) := wrap_u8 cut
  rw [hw8]
  refine Run.nw (nbsk (parts := [(0, .tmp 44)]) (u8s [cut % 256]).toArray) ?_
  intro b45
  refine x_ ?_
  refine Run.op1 (apB (L1 := (b45, Obj.cells (u8s [cut % 256]).toArray 5 (0, 0)) :: ((b7, Obj.cells G7.toArray 39 (0, 0)) :: (l7 ++ (l5 ++ [(b1, Obj.cells F.toArray 39 (0, 0))])))) h42 [cut % 256] (Src.at ⟨b45, 0, none⟩ 1 1 (u8s [cut % 256]) rfl (Rd.rowAll m0)) (by simp only [List.length_cons, List.length_nil]; omega) (perm_of fun f => by (simp only [List.map_append, List.map_cons, List.map_nil, List.sum_append, List.sum_cons, List.sum_nil] <;> omega))) ?_
  rintro ⟨⟨v46, l46⟩, h46⟩
  dsimp only at h46 ⊢
  have hx8 : cut % 256 < 256 := Nat.mod_lt _ (by decide)
  have hz2 : (l46 ++ ((b45, Obj.cells (u8s [cut % 256]).toArray 5 (0, 0)) :: ((b7, Obj.cells G7.toArray 39 (0, 0)) :: (l7 ++ (l5 ++ [(b1, Obj.cells F.toArray 39 (0, 0))])))) : Hp).Perm ([] ++ (l46 ++ ((b45, Obj.cells (u8s [cut % 256]).toArray 5 (0, 0)) :: ((b7, Obj.cells G7.toArray 39 (0, 0)) :: (l7 ++ (l5 ++ [(b1, Obj.cells F.toArray 39 (0, 0))])))))) := List.Perm.refl _
  refine Run.op1 (OpTo.callT Tryd.func16 hz2 (fun w' hm => TDecode_calls (t.b ++ [cut % 256]) (by rw [List.length_append, List.length_singleton]; omega) (bt_app (bt_tx hM) (fun x hx => by rw [List.mem_singleton] at hx; subst hx; exact hx8)) v46 w' (h46.srcW (fun q hq => hm.has q (List.mem_append_left _ hq))))) ?_
  rw [dec_more hM _ hx8]
  rintro ⟨⟨v9, l9⟩, hat9⟩
  dsimp only at hat9 ⊢
  have hG9 : (txC (decT (t.b ++ [cut % 256])) v9).toArray.size = 170 := by rw [List.size_toArray, txC_len]
  have hO9 := txC_one (decT (t.b ++ [cut % 256])) v9
  generalize txC (decT (t.b ++ [cut % 256])) v9 = G9 at hG9 hO9 ⊢
  refine x_ ?_
  refine Run.nw nal ?_
  intro b9
  refine x_ ?_
  refine Run.op1 (osa (arr := ti39.zero.cells) G9.toArray hO9 (hs := by exact hG9)) (fun _ => ?_)
  refine x_ ?_
  exact RQ.ret1 rfl (Res.tmp rfl) fun w' hm => ⟨rfl, hm.fr⟩
end Go.Proofs.YtmajfapnbchecaaDoor
