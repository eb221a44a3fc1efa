import Derived.Test.YtmajfapnbchecaaGreatDoorTy4
set_option linter.unusedSimpArgs false
set_option linter.unusedVariables false
/- tx: awake, Few (gen_ty5.py prints it). -/
namespace Go.Proofs.YtmajfapnbchecaaGreatDoor
attribute [local irreducible] Go.Vc.Run Go.Vc.RC Go.Vc.RQ Go.Vc.DR Go.Vc.DOp Go.Vc.Knows Go.Vc.At
set_option maxHeartbeats 400000
set_option maxRecDepth 10000
open Go Go.Vc Go.Sha
theorem dec_T {t : TxD} (h : TxMay t) : decT t.b = t := by
  unfold decT
  rw [(dec_back h).1]
  exact if_neg (by rintro (h' | h'); exact h' rfl; exact h' h)
def coin1 : TxD := tCoin 1 []
theorem may_coin1 : TxMay coin1 := .coin 1 [] (by decide) ⟨fun o ho => absurd ho (by simp), by decide⟩
theorem coin1_b : coin1.b = [1, 1, 0, 0, 0, 0] := rfl
theorem at_nul {w : World} : TxAt w coin1 TxV.z := ⟨.nil, .nil, .nil, .nil, .nil, .nil⟩
theorem ln_coin1 : TxLn coin1 := by unfold TxLn; decide
set_option maxRecDepth 10000 in set_option maxHeartbeats 4000000 in
theorem Tawake_calls (w : World) (hK : Laid w) : Gives Tryz.prog 5 [] (.bool true) w := by
  refine enter Tryz.func5 rfl (Mem.nil w []) rfl ?_
  refine x_ ?_
  refine Run.a (vbs (txC coin1 TxV.z).toArray) ?_
  have hz0 : ([] : Hp).Perm ([] ++ []) := List.Perm.refl _
  refine Run.op1 (OpTo.callT Tryz.func9 hz0 (fun w' hm => TEncode_calls coin1 TxV.z ln_coin1 w' at_nul)) ?_
  rintro ⟨⟨v9, l9⟩, h9⟩
  dsimp only at h9 ⊢
  rw [show encE coin1 = 0 from if_pos may_coin1]
  rw [show encB coin1 = [1, 1, 0, 0, 0, 0] from (if_pos may_coin1).trans coin1_b] at h9
  obtain ⟨a9, c9, rfl, hc9⟩ := h9.shape
  refine x_ ?_
  have hz1 : (l9 ++ [] : Hp).Perm ([] ++ (l9 ++ [])) := List.Perm.refl _
  have hE : decE [1, 1, 0, 0, 0, 0] = 0 := by rw [← coin1_b]; exact (dec_back may_coin1).2
  have hT : decT [1, 1, 0, 0, 0, 0] = coin1 := by rw [← coin1_b]; exact dec_T may_coin1
  refine Run.op1 (OpTo.callT Tryz.func6 hz1 (fun w' hm => TDecode_calls [1, 1, 0, 0, 0, 0] (by decide) (by unfold Bt; decide) _ w' (h9.srcW (fun q hq => hm.has q (List.mem_append_left _ hq))))) ?_
  rw [hE, hT]
  rintro ⟨⟨v14, l14⟩, hat⟩
  dsimp only at hat ⊢
  obtain ⟨_, rh, _, _, _, _, _, _, _, _, _, _, _⟩ := tx_rd coin1 v14
  have hFs : (txC coin1 v14).toArray.size = 170 := by rw [List.size_toArray, txC_len]
  have h1 := txC_one coin1 v14
  have cI := fun w' (hw : Has l14 w') (hf : Fr [] w w') => TID_calls coin1 v14 ln_coin1 w' (hat w' hw) (hK.fr hf (by simp))
  have h8 := dgH_len 120 coin1 []
  rw [decide_eq_true may_coin1] at cI
  generalize dgH 120 coin1 [] = D at cI h8
  generalize hF : txC coin1 v14 = F at rh hFs cI h1 ⊢
  refine x_ ?_
  refine Run.nw nal ?_
  intro b3
  refine x_ ?_
  refine Run.op1 (osa (arr := ti41.zero.cells) F.toArray h1 (hs := by exact hFs)) (fun _ => ?_)
  refine x_ ?_
  refine Run.op1 (OpTo.cv Tryz.func17 (fun w' hm => cI w' (fun q hq => hm.has q (by repeat (first | exact List.mem_append_left _ hq | exact hq | apply List.mem_append_right | apply List.mem_cons_of_mem))) hm.fr)) (fun _ => ?_)
  refine x_ ?_
  refine Run.nw nal ?_
  intro b5
  refine x_ ?_
  refine Run.op1 (osa (arr := ti31.zero.cells) (u8s D).toArray (u8s_one D) (hs := by rw [List.size_toArray, u8s_len, h8]; rfl)) (fun _ => ?_)
  have hht : coin1.ht = 1 := rfl
  refine x_ ?_
  exact RQ.ret1 rfl (Res.tmp rfl) fun w' hm => ⟨rfl, hm.fr⟩
/-- Its lists are short. -/
def FewP (t : TxD) : Prop := t.is.length ≤ 20 ∧ t.os.length ≤ 40 ∧ t.fs.length ≤ 40 ∧ t.p.ks.length ≤ 20 ∧ t.c.os.length ≤ 40 ∧ t.c.sg.length ≤ 20
instance (t : TxD) : Decidable (FewP t) := by unfold FewP; infer_instance
theorem FewP.ln {t : TxD} (h : FewP t) : TxLn t := by
  obtain ⟨h1, h2, h3, h4, h5, h6⟩ := h
  exact ⟨by omega, by omega, by omega, by omega, by omega, by omega⟩
set_option maxRecDepth 10000 in set_option maxHeartbeats 4000000 in
theorem TFew_calls (t : TxD) (v : TxV) (w : World) : Gives Tryz.prog 10 [.agg (txC t v).toArray] (.bool (decide (FewP t))) w := by
  refine enter Tryz.func10 rfl (Mem.nil w []) rfl ?_
  obtain ⟨_, _, ri, ro, rf, _, rk, _, _, _, ra, rs, _⟩ := tx_rd t v
  have hmm : FewP t ↔ t.is.length ≤ 20 ∧ t.os.length ≤ 40 ∧ t.fs.length ≤ 40 ∧ t.p.ks.length ≤ 20 ∧ t.c.os.length ≤ 40 ∧ t.c.sg.length ≤ 20 := Iff.rfl
  have hno : ∀ (w' : World), Fr [] w w' → ¬ FewP t → Ending.returned (.bool false) = Ending.returned (.bool (decide (FewP t))) ∧ Fr [] w w' := fun w' hf h => ⟨by rw [decide_eq_false h], hf⟩
  generalize txC t v = F at ri ro rf rk ra rs ⊢
  refine x_ ?_
  refine Run.nw nbx ?_
  intro b1
  refine x_ ?_
  by_cases h0 : ¬ t.is.length ≤ 20
  · refine x_ ?_
    exact RQ.ret1 rfl (Res.tmp rfl) fun w' hm => hno w' hm.fr (fun h => by have := hmm.1 h; omega)
  refine x_ ?_
  by_cases h1 : ¬ t.os.length ≤ 40
  · refine x_ ?_
    exact RQ.ret1 rfl (Res.tmp rfl) fun w' hm => hno w' hm.fr (fun h => by have := hmm.1 h; omega)
  refine x_ ?_
  by_cases h2 : ¬ t.fs.length ≤ 40
  · refine x_ ?_
    exact RQ.ret1 rfl (Res.tmp rfl) fun w' hm => hno w' hm.fr (fun h => by have := hmm.1 h; omega)
  refine x_ ?_
  by_cases h3 : ¬ t.p.ks.length ≤ 20
  · refine x_ ?_
    exact RQ.ret1 rfl (Res.tmp rfl) fun w' hm => hno w' hm.fr (fun h => by have := hmm.1 h; omega)
  refine x_ ?_
  by_cases h4 : ¬ t.c.os.length ≤ 40
  · refine x_ ?_
    exact RQ.ret1 rfl (Res.tmp rfl) fun w' hm => hno w' hm.fr (fun h => by have := hmm.1 h; omega)
  refine x_ ?_
  have e : decide ((t.c.sg.length : Int) ≤ 20) = decide (FewP t) := decide_eq_decide.2 ⟨fun h => hmm.2 (by omega), fun h => by have := hmm.1 h; omega⟩
  exact RQ.ret1 rfl (Res.tmp rfl) fun w' hm => ⟨by rw [← e]; rfl, hm.fr⟩
end Go.Proofs.YtmajfapnbchecaaGreatDoor

/- tx: the laws: TxWrites, TxCuts. -/
namespace Go.Proofs.YtmajfapnbchecaaGreatDoor
attribute [local irreducible] Go.Vc.Run Go.Vc.RC Go.Vc.RQ Go.Vc.DR Go.Vc.DOp Go.Vc.Knows Go.Vc.At
set_option maxHeartbeats 400000
set_option maxRecDepth 10000
open Go Go.Vc Go.Sha
theorem bt_enc (t : TxD) : ∀ x ∈ encB t, x < 256 := by
  unfold encB
  split
  · rename_i h
    exact bt_tx h
  · intro x hx; cases hx
theorem enc_len (t : TxD) : (encB t).length ≤ 3000 := by
  unfold encB
  split
  · rename_i h
    exact h.bl
  · decide
end Go.Proofs.YtmajfapnbchecaaGreatDoor
