/- Lemmas. -/
import Derived.Test.YtfoeakgnkfcbjaaGreatDoorPr24
set_option linter.unusedSimpArgs false
set_option linter.unusedVariables false
section
/- tx: digest, ID, the reference's TxID, Same, SameTx. -/
namespace Go.Proofs.YtfoeakgnkfcbjaaGreatDoor
attribute [local irreducible] Go.Vc.Run Go.Vc.RC Go.Vc.RQ Go.Vc.DR Go.Vc.DOp Go.Vc.Knows Go.Vc.At
set_option maxHeartbeats 400000
open Go Go.Vc Go.Sha
/-- The digest of a transaction, with parts behind it. -/
noncomputable def dgH (p : Nat) (t : TxD) (ls : List (List Nat)) : List Nat := if TxMay t then digest p (t.b :: ls) else List.replicate 8 0
theorem dgH_len (p : Nat) (t : TxD) (ls : List (List Nat)) : (dgH p t ls).length = 8 := by
  unfold dgH
  split
  · exact digest_len _ _
  · rfl
theorem Parts.one {w : World} {vs : List Value} {ls : List (List Nat)} (h : Parts w vs ls) : ∀ u ∈ vs, u.oneCell' = true := by
  intro u hu
  obtain ⟨i, hi, rfl⟩ := List.mem_iff_getElem.1 hu
  exact (h.2 i hi (by rw [← h.1]; exact hi)).one
theorem Parts.cons {w : World} {u : Value} {l : List Nat} {vs : List Value} {ls : List (List Nat)} (hu : SrcW w 1 u l.length (u8s l)) (h : Parts w vs ls) : Parts w (u :: vs) (l :: ls) := by
  refine ⟨by rw [List.length_cons, List.length_cons, h.1], fun i h1 h2 => ?_⟩
  cases i with
  | zero => exact hu
  | succ i => exact h.2 i (by simpa using h1) (by simpa using h2)
theorem Parts.nil {w : World} : Parts w [] [] := ⟨rfl, fun i h _ => absurd h (by simp)⟩
theorem bt_tx {t : TxD} (h : TxMay t) : ∀ x ∈ t.b, x < 256 := TxD.bt h.rg
set_option maxRecDepth 10000 in set_option maxHeartbeats 4000000 in
theorem Tdigest_calls (p : Nat) (hp : p < 256) (t : TxD) (v : TxV) (hln : TxLn t) (pv : Value) (vs : List Value) (ls : List (List Nat)) (w : World) (ht : TxAt w t v) (hs : SrcW w 1 pv ls.length vs) (hps : Parts w vs ls) (hll : ls.length ≤ 4) (htl : tot ls ≤ 1000) (hlb : ∀ l ∈ ls, ∀ x ∈ l, x < 256) (hK : Laid w) :
    Gives Tryz.prog 64 [.int .u8 p, .agg (txC t v).toArray, pv] (.tuple #[.agg (u8s (dgH p t ls)).toArray, .bool (decide (TxMay t))]) w := by
  refine enter Tryz.func64 rfl (Mem.nil w []) rfl ?_
  obtain ⟨pa, pc, rfl, hpc⟩ := hs.shape
  have hFs : (txC t v).toArray.size = 170 := by rw [List.size_toArray, txC_len]
  have hE : ∀ w', Fr [] w w' → Turns Tryz.prog 70 [.agg (txC t v).toArray] w' [] (Y := EncY t) (fun y => .tuple #[y.1.1, .int .i64 (encE t)]) (fun y => y.1.2) := fun w' hf => TEncode_calls t v hln w' (ht.fr hf)
  generalize txC t v = F at hFs hE ⊢
  refine z_ ?_
  refine Run.nw nbx ?_
  intro b4
  refine z_ ?_
  refine Run.nw nal ?_
  intro b6
  refine x_ ?_
  have hz0 : ([(b6, Obj.cells (u8s (List.replicate 8 0)).toArray 23 (0, 0)), (b4, Obj.cells F.toArray 64 (0, 0))] : Hp).Perm ([] ++ [(b6, Obj.cells (u8s (List.replicate 8 0)).toArray 23 (0, 0)), (b4, Obj.cells F.toArray 64 (0, 0))]) := List.Perm.refl _
  refine Run.op1 (OpTo.callT Tryz.func70 hz0 (fun w' hm => hE w' hm.fr)) ?_
  rintro ⟨⟨v12, l12⟩, h12⟩
  dsimp only at h12 ⊢
  by_cases hm : TxMay t
  rotate_left
  · rw [show encE t = 1 from if_neg hm, show dgH p t ls = List.replicate 8 0 from if_neg hm, decide_eq_false hm]
    refine x_ ?_
    refine Run.op1 (osa (arr := (u8s (List.replicate 8 0)).toArray) (e := 23) (L' := l12 ++ [(b4, Obj.cells F.toArray 64 (0, 0))]) (u8s (List.replicate 8 0)).toArray (u8s_one _) (hL := (perm_of fun f => by (simp only [List.map_append, List.map_cons, List.map_nil, List.sum_append, List.sum_cons, List.sum_nil] <;> omega)))) (fun _ => ?_)
    refine x_ ?_
    exact RQ.ret2 rfl (Res.cellAll tabOk rfl rfl rfl m0 rfl) (Res.tmp rfl) fun w' hm' => ⟨rfl, hm'.fr⟩
  rw [show encE t = 0 from if_pos hm, decide_eq_true hm]
  rw [show encB t = t.b from if_pos hm] at h12
  have hd : dgH p t ls = digest p (t.b :: ls) := if_pos hm
  rw [hd]
  have hd8 : (digest p (t.b :: ls)).length = 8 := digest_len _ _
  have hbl := hm.bl
  obtain ⟨a12, c12, rfl, hc12⟩ := h12.shape
  refine x_ ?_
  refine Run.nw (nbsk (parts := [(0, .tmp 19)]) #[.slice a12 t.b.length c12]) ?_
  intro b20
  refine x_ ?_
  have hown : Own 35 1 (.slice (some ⟨b20, 0, none⟩) 1 1) 1 [.slice a12 t.b.length c12] [(b20, Obj.cells #[.slice a12 t.b.length c12] 35 (0, 0))] := Own.row b20 1 1 [.slice a12 t.b.length c12] [] rfl rfl (Nat.le_refl _) (by unfold maxLen; decide)
  refine Run.op1 (OpTo.append (L1 := l12 ++ [(b6, Obj.cells (u8s (List.replicate 8 0)).toArray 23 (0, 0)), (b4, Obj.cells F.toArray 64 (0, 0))]) tabOk hown hs.src rfl rfl rfl rfl rfl rfl rfl rfl rfl (List.Perm.refl _) hps.one (by unfold maxLen; omega) (by simp only [ti35]; omega)) ?_
  rintro ⟨⟨v22, l22⟩, h22⟩
  dsimp only at h22 ⊢
  have hfinal : ∀ w', Mem w [] (l22 ++ (l12 ++ [(b6, Obj.cells (u8s (List.replicate 8 0)).toArray 23 (0, 0)), (b4, Obj.cells F.toArray 64 (0, 0))])) w' → Gives Tryz.prog 32 [.int .u8 p, v22] (.agg (u8s (digest p (t.b :: ls))).toArray) w' := fun w' hm' => by
    have hsw : SrcW w' 1 v22 (t.b :: ls).length (.slice a12 t.b.length c12 :: vs) := by
      have h := h22.srcW (w := w') (fun q hq => hm'.has q (List.mem_append_left _ hq))
      rw [Nat.add_comm] at h
      exact h
    refine Of_calls p hp v22 (.slice a12 t.b.length c12 :: vs) (t.b :: ls) w' hsw (Parts.cons (h12.srcW (fun q hq => hm'.has q (List.mem_append_right _ (List.mem_append_left _ hq)))) (hps.fr hm'.fr)) ?_ ?_ (hK.fr hm'.fr (by simp))
    · show ((t.b :: ls).map fun l => 4 + l.length).sum ≤ _
      rw [List.map_cons, List.sum_cons]
      have : (ls.map fun l => 4 + l.length).sum ≤ 1000 := htl
      omega
    · intro l hl
      rcases List.mem_cons.1 hl with rfl | hl
      · exact bt_tx hm
      · exact hlb l hl
  refine Run.op1 (OpTo.cv Tryz.func32 (fun w' hm' => hfinal w' hm')) (fun _ => ?_)
  refine x_ ?_
  refine Run.op1 (osa (arr := (u8s (List.replicate 8 0)).toArray) (e := 23) (L' := l22 ++ (l12 ++ [(b4, Obj.cells F.toArray 64 (0, 0))])) (u8s (digest p (t.b :: ls))).toArray (u8s_one _) (hL := (perm_of fun f => by (simp only [List.map_append, List.map_cons, List.map_nil, List.sum_append, List.sum_cons, List.sum_nil] <;> omega))) (hs := by rw [List.size_toArray, u8s_len, hd8]; rfl)) (fun _ => ?_)
  refine x_ ?_
  exact RQ.ret2 rfl (Res.cellAll tabOk rfl rfl rfl m0 (by rw [List.size_toArray, u8s_len, hd8]; rfl)) (Res.tmp rfl) fun w' hm' => ⟨rfl, hm'.fr⟩
set_option maxRecDepth 10000 in set_option maxHeartbeats 4000000 in
theorem TID_calls (t : TxD) (v : TxV) (hln : TxLn t) (w : World) (ht : TxAt w t v) (hK : Laid w) : Gives Tryz.prog 34 [.agg (txC t v).toArray] (.tuple #[.agg (u8s (dgH 120 t [])).toArray, .bool (decide (TxMay t))]) w := by
  refine enter Tryz.func34 rfl (Mem.nil w []) rfl ?_
  have hFs : (txC t v).toArray.size = 170 := by rw [List.size_toArray, txC_len]
  have c1 : Knows Tryz.prog w 64 [.int .u8 120, .agg (txC t v).toArray, .slice none 0 0] (.tuple #[.agg (u8s (dgH 120 t [])).toArray, .bool (decide (TxMay t))]) := Knows.mk Tryz.func64 (fun w' hf => Tdigest_calls 120 (by decide) t v hln (.slice none 0 0) [] [] w' (ht.fr hf) .nil Parts.nil (by decide) (by decide) (fun l hl => by cases hl) (hK.fr hf (by simp)))
  have h8 := dgH_len 120 t []
  generalize txC t v = F at hFs c1 ⊢
  generalize dgH 120 t [] = D at h8 c1 ⊢
  refine z_ ?_
  refine Run.nw nbx ?_
  intro b1
  refine z_ ?_
  refine Run.nw nal ?_
  intro b2
  refine x_ ?_
  refine Run.op1 (osa (arr := ti23.zero.cells) (u8s D).toArray (u8s_one _) (hs := by rw [List.size_toArray, u8s_len, h8]; rfl)) (fun _ => ?_)
  refine x_ ?_
  exact RQ.ret2 rfl (Res.cellAll tabOk rfl rfl rfl m0 (by rw [List.size_toArray, u8s_len, h8]; rfl)) (Res.tmp rfl) fun w' hm' => ⟨rfl, hm'.fr⟩
set_option maxRecDepth 10000 in set_option maxHeartbeats 4000000 in
theorem RTxID_calls (t : TxD) (v : TxV) (hln : TxLn t) (w : World) (ht : TxAt w t v) : Gives Tryz.prog 26 [.agg (txC t v).toArray] (.tuple #[.agg (u8s (dgH 120 t [])).toArray, .bool (decide (TxMay t))]) w := by
  refine enter Tryz.func26 rfl (Mem.nil w []) rfl ?_
  have hFs : (txC t v).toArray.size = 170 := by rw [List.size_toArray, txC_len]
  have hE : ∀ w', Fr [] w w' → Turns Tryz.prog 55 [.agg (txC t v).toArray] w' [] (Y := EncY t) (fun y => .tuple #[y.1.1, .int .i64 (encE t)]) (fun y => y.1.2) := fun w' hf => REncode_calls t v hln w' (ht.fr hf)
  generalize txC t v = F at hFs hE ⊢
  refine z_ ?_
  refine Run.nw nbx ?_
  intro b4
  refine z_ ?_
  refine Run.nw nal ?_
  intro b6
  refine x_ ?_
  have hz0 : ([(b6, Obj.cells (u8s (List.replicate 8 0)).toArray 23 (0, 0)), (b4, Obj.cells F.toArray 64 (0, 0))] : Hp).Perm ([] ++ [(b6, Obj.cells (u8s (List.replicate 8 0)).toArray 23 (0, 0)), (b4, Obj.cells F.toArray 64 (0, 0))]) := List.Perm.refl _
  refine Run.op1 (OpTo.callT Tryz.func55 hz0 (fun w' hm => hE w' hm.fr)) ?_
  rintro ⟨⟨v12, l12⟩, h12⟩
  dsimp only at h12 ⊢
  by_cases hm : TxMay t
  rotate_left
  · rw [show encE t = 1 from if_neg hm, show dgH 120 t [] = List.replicate 8 0 from if_neg hm, decide_eq_false hm]
    refine x_ ?_
    refine Run.op1 (osa (arr := (u8s (List.replicate 8 0)).toArray) (e := 23) (L' := l12 ++ [(b4, Obj.cells F.toArray 64 (0, 0))]) (u8s (List.replicate 8 0)).toArray (u8s_one _) (hL := (perm_of fun f => by (simp only [List.map_append, List.map_cons, List.map_nil, List.sum_append, List.sum_cons, List.sum_nil] <;> omega)))) (fun _ => ?_)
    refine x_ ?_
    exact RQ.ret2 rfl (Res.cellAll tabOk rfl rfl rfl m0 rfl) (Res.tmp rfl) fun w' hm' => ⟨rfl, hm'.fr⟩
  rw [show encE t = 0 from if_pos hm, decide_eq_true hm]
  rw [show encB t = t.b from if_pos hm] at h12
  have hd : dgH 120 t [] = digest 120 [t.b] := if_pos hm
  rw [hd]
  have hd8 : (digest 120 [t.b]).length = 8 := digest_len _ _
  have hbl := hm.bl
  obtain ⟨a12, c12, rfl, hc12⟩ := h12.shape
  refine x_ ?_
  refine Run.nw (nbsk (parts := [(0, .tmp 14)]) #[.slice a12 t.b.length c12]) ?_
  intro b20
  have hfinal : ∀ w', Mem w [] ((b20, Obj.cells #[.slice a12 t.b.length c12] 35 (0, 0)) :: (l12 ++ [(b6, Obj.cells (u8s (List.replicate 8 0)).toArray 23 (0, 0)), (b4, Obj.cells F.toArray 64 (0, 0))])) w' → Gives Tryz.prog 14 [.int .u8 120, .slice (some ⟨b20, 0, none⟩) 1 1] (.agg (u8s (digest 120 [t.b])).toArray) w' := fun w' hm' => by
    refine Digest_calls 120 (by decide) _ [.slice a12 t.b.length c12] [t.b] w' (SrcW.row hm' m0 rfl (Nat.le_refl 1)) (Parts.cons (h12.srcW (fun q hq => hm'.has q (List.mem_cons_of_mem _ (List.mem_append_left _ hq)))) Parts.nil) ?_ ?_
    · show (([t.b]).map fun l => 4 + l.length).sum ≤ _
      rw [List.map_cons, List.sum_cons, List.map_nil, List.sum_nil]
      omega
    · intro l hl
      rw [List.mem_singleton] at hl
      subst hl
      exact bt_tx hm
  refine x_ ?_
  refine Run.op1 (OpTo.cv Tryz.func14 (fun w' hm' => hfinal w' hm')) (fun _ => ?_)
  refine x_ ?_
  refine Run.op1 (osa (arr := (u8s (List.replicate 8 0)).toArray) (e := 23) (L' := (b20, Obj.cells #[.slice a12 t.b.length c12] 35 (0, 0)) :: (l12 ++ [(b4, Obj.cells F.toArray 64 (0, 0))])) (u8s (digest 120 [t.b])).toArray (u8s_one _) (hL := (perm_of fun f => by (simp only [List.map_append, List.map_cons, List.map_nil, List.sum_append, List.sum_cons, List.sum_nil] <;> omega))) (hs := by rw [List.size_toArray, u8s_len, hd8]; rfl)) (fun _ => ?_)
  refine x_ ?_
  exact RQ.ret2 rfl (Res.cellAll tabOk rfl rfl rfl m0 (by rw [List.size_toArray, u8s_len, hd8]; rfl)) (Res.tmp rfl) fun w' hm' => ⟨rfl, hm'.fr⟩
set_option maxRecDepth 10000 in set_option maxHeartbeats 4000000 in
theorem Equal_calls (a b : List Nat) (ha : ∀ x ∈ a, x < 256) (hb : ∀ x ∈ b, x < 256) (u v : Value) (w : World) (hu : SrcW w 1 u a.length (u8s a)) (hv : SrcW w 1 v b.length (u8s b)) : Gives Tryz.prog 39 [u, v] (.bool (decide (a = b))) w := by
  refine enter Tryz.func39 rfl (Mem.nil w []) rfl ?_
  refine x_ ?_
  refine Run.a (Val.bytesStr (a := a) tabOk rfl rfl rfl rfl rfl rfl rfl rfl hu.src) ?_
  refine x_ ?_
  refine Run.a (Val.bytesStr (a := b) tabOk rfl rfl rfl rfl rfl rfl rfl rfl hv.src) ?_
  refine Run.a (Val.eqStr (a := a) (b := b) rfl rfl rfl ha hb) ?_
  refine x_ ?_
  exact RQ.ret1 rfl (Res.tmp rfl) fun w' hm => ⟨rfl, hm.fr⟩
/-- Both may be, and their bytes are the same. -/
def SameP (a b : TxD) : Prop := TxMay a ∧ TxMay b ∧ a.b = b.b
noncomputable instance (a b : TxD) : Decidable (SameP a b) := Classical.propDecidable _
end Go.Proofs.YtfoeakgnkfcbjaaGreatDoor

/- tx: Message. -/
namespace Go.Vc
open Go Go.Sha
end Go.Vc
namespace Go.Proofs.YtfoeakgnkfcbjaaGreatDoor
attribute [local irreducible] Go.Vc.Run Go.Vc.RC Go.Vc.RQ Go.Vc.DR Go.Vc.DOp Go.Vc.Knows Go.Vc.At
set_option maxHeartbeats 400000
open Go Go.Vc Go.Sha
/-- Whether it has a message for that place. -/
def MsgP (t : TxD) (i : Int) : Prop := t.kd = 2 ∧ (0 ≤ i ∧ i < t.is.length) ∧ TxMay t
noncomputable instance (t : TxD) (i : Int) : Decidable (MsgP t i) := Classical.propDecidable _
end Go.Proofs.YtfoeakgnkfcbjaaGreatDoor
end
