/- tx: the law TxDigests. -/
import Derived.Test.YtmajfapnbchecaaDoorTy7
set_option linter.unusedSimpArgs false
set_option linter.unusedVariables false
namespace Go.Proofs.YtmajfapnbchecaaDoor
attribute [local irreducible] Go.Vc.Run Go.Vc.RC Go.Vc.RQ Go.Vc.DR Go.Vc.DOp Go.Vc.Knows Go.Vc.At
set_option maxHeartbeats 400000
set_option maxRecDepth 10000
open Go Go.Vc Go.Sha
set_option maxRecDepth 10000 in set_option maxHeartbeats 4000000 in
theorem TxDigests_calls (t : TxD) (v : TxV) (i : Nat) (hi : i < 256) (w : World) (ht : TxAt w t v) (hK : Laid w) : Gives Tryd.prog 7 [.agg (txC t v).toArray, .int .u8 i] (.bool true) w := by
  refine enter Tryd.func7 rfl (Mem.nil w []) rfl ?_
  have ca : Knows Tryd.prog w 8 [] (.bool true) := Knows.mk Tryd.func8 (fun w' hf => Tawake_calls w' (hK.fr hf (by simp)))
  have cf : Knows Tryd.prog w 9 [.agg (txC t v).toArray] (.bool (decide (FewP t))) := Knows.mk Tryd.func9 (fun w' hf => TFew_calls t v w')
  have hFs : (txC t v).toArray.size = 170 := by rw [List.size_toArray, txC_len]
  by_cases hf : FewP t
  rotate_left
  · rw [decide_eq_false hf] at cf
    generalize txC t v = F at hFs cf ⊢
    refine z_ ?_
    refine Run.nw nbx ?_
    intro b2
    refine x_ ?_
    exact RQ.ret1 rfl (Res.tmp rfl) fun w' hm => ⟨rfl, hm.fr⟩
  rw [decide_eq_true hf] at cf
  have hln := hf.ln
  have mT : Knows Tryd.prog w 15 [.agg (txC t v).toArray] (.bool (decide (TxMay t))) := Knows.mk Tryd.func15 (fun w' hf => RMayTx_calls t v hln w' (ht.fr hf))
  by_cases hM : TxMay t
  rotate_left
  · rw [decide_eq_false hM] at mT
    generalize txC t v = F at hFs cf mT ⊢
    refine z_ ?_
    refine Run.nw nbx ?_
    intro b2
    refine x_ ?_
    exact RQ.ret1 rfl (Res.tmp rfl) fun w' hm => ⟨rfl, hm.fr⟩
  rw [decide_eq_true hM] at mT
  have hd : dgH 120 t [] = digest 120 [t.b] := if_pos hM
  have c1 : Knows Tryd.prog w 12 [.agg (txC t v).toArray] (.tuple #[.agg (u8s (digest 120 [t.b])).toArray, .bool true]) := (Knows.mk Tryd.func12 (fun w' hf => TID_calls t v hln w' (ht.fr hf) (hK.fr hf (by simp)))).cv (by rw [hd, decide_eq_true hM])
  have hE : ∀ w', Fr [] w w' → Turns Tryd.prog 10 [.agg (txC t v).toArray] w' [] (Y := EncY t) (fun y => .tuple #[y.1.1, .int .i64 (encE t)]) (fun y => y.1.2) := fun w' hf => TEncode_calls t v hln w' (ht.fr hf)
  rw [show encE t = 0 from if_pos hM] at hE
  have hB : encB t = t.b := if_pos hM
  have cM : ∀ j : Int, Knows Tryd.prog w 20 [.agg (txC t v).toArray, .int .i64 j] (.tuple #[.agg (u8s (msgH t j)).toArray, .bool (decide (MsgP t j))]) := fun j => Knows.mk Tryd.func20 (fun w' hf => TMessage_calls t v hln j w' (ht.fr hf) (hK.fr hf (by simp)))
  obtain ⟨rk, _, ri, _, _, _, _, _, _, _, _, _, _⟩ := tx_rd t v
  have hO := txC_one t v
  have hbl := hM.bl
  have h8 : (digest 120 [t.b]).length = 8 := digest_len _ _
  obtain ⟨D, hD⟩ : ∃ D, D = digest 120 [t.b] := ⟨_, rfl⟩
  rw [← hD] at c1 h8
  have hDs : (u8s D).toArray.size = 8 := by rw [List.size_toArray, u8s_len, h8]
  generalize hF : txC t v = F at hFs cf mT c1 hE cM rk ri hO ⊢
  refine z_ ?_
  refine Run.nw nbx ?_
  intro b2
  refine x_ ?_
  have hz0 : ([(b2, Obj.cells F.toArray 39 (0, 0))] : Hp).Perm ([] ++ [(b2, Obj.cells F.toArray 39 (0, 0))]) := List.Perm.refl _
  refine Run.op1 (OpTo.callT Tryd.func10 hz0 (fun w' hm => hE w' hm.fr)) ?_
  rintro ⟨⟨v5, l5⟩, h5⟩
  dsimp only at h5 ⊢
  rw [hB] at h5
  obtain ⟨a5, c5, rfl, hc5⟩ := h5.shape
  refine x_ ?_
  refine Run.nw nal ?_
  intro b7
  refine x_ ?_
  refine Run.op1 (osa (arr := ti29.zero.cells) (u8s D).toArray (u8s_one D) (hs := by exact hDs)) (fun _ => ?_)
  refine x_ ?_
  (repeat refine RC.seq ?_); refine RC.drawS mixed (N := 13) rfl ?_
  refine dy 0 ?_
  refine dy 1 ?_
  refine dy 2 ?_
  refine dy 3 ?_
  refine dy 4 ?_
  refine dy 5 ?_
  refine dy 6 ?_
  refine DR.t 7 rfl (vla (arr := (u8s D).toArray) (hv := hDs) (hm := (by repeat (first | exact List.mem_cons_self | apply List.mem_cons_of_mem | apply List.mem_append_right)))) ?_
  refine dy 8 ?_
  refine DR.c 9 ?_
  refine DOp.op1 rfl (OpTo.new rfl rfl (nbsk (parts := [(0, .tmp 46)]) #[.slice a5 t.b.length c5])) ?_
  intro b47
  have hdig : ∀ w', Mem w [] ((b47, Obj.cells #[.slice a5 t.b.length c5] 42 (0, 0)) :: (b7, Obj.cells (u8s D).toArray 29 (0, 0)) :: (l5 ++ [(b2, Obj.cells F.toArray 39 (0, 0))])) w' → Gives Tryd.prog 19 [.int .u8 120, .slice (some ⟨b47, 0, none⟩) 1 1] (.agg (u8s D).toArray) w' := fun w' hm' => by
    rw [hD]
    refine Digest_calls 120 (by decide) _ [.slice a5 t.b.length c5] [t.b] w' (SrcW.row hm' m0 rfl (Nat.le_refl 1)) (Parts.cons (h5.srcW (fun q hq => hm'.has q (by repeat (first | exact List.mem_append_left _ hq | exact hq | apply List.mem_append_right | apply List.mem_cons_of_mem)))) Parts.nil) ?_ ?_
    · show (([t.b]).map fun l => 4 + l.length).sum ≤ _
      rw [List.map_cons, List.sum_cons, List.map_nil, List.sum_nil]
      omega
    · intro l hl
      rw [List.mem_singleton] at hl
      subst hl
      exact bt_tx hM
  refine DR.c 10 (DOp.op1 rfl (OpTo.cv Tryd.func19 (fun w' hm => hdig w' hm)) (fun _ => ?_))
  refine DR.t 11 rfl (vnu 8 D h8 (by kernel_rfl)) ?_
  refine dy 12 ?_
  refine DR.done (by kernel_rfl) ?_
  by_cases hk : t.kd = 2
  rotate_left
  · have hc0 := cM 0
    have hnP : ¬ MsgP t 0 := fun h => hk h.1
    rw [decide_eq_false hnP, show msgH t 0 = List.replicate 8 0 from if_neg hnP] at hc0
    refine x_ ?_
    refine Run.nw nal ?_
    intro b9
    refine x_ ?_
    refine Run.op1 (osa (arr := ti29.zero.cells) (u8s (List.replicate 8 0)).toArray (u8s_one _)) (fun _ => ?_)
    refine x_ ?_
    exact RQ.ret1 rfl (Res.tmp rfl) fun w' hm => ⟨rfl, hm.fr⟩
  have hPM := ((TxMay.iff t).1 hM).m2 hk
  have hn8 : t.is.length ≤ 8 := hPM.1.2.2.2
  have hn1 : 1 ≤ t.is.length := hPM.1.2.2.1
  obtain ⟨k, hke, hkl⟩ : ∃ k, i % t.is.length = k ∧ k < t.is.length := ⟨_, rfl, Nat.mod_lt _ hn1⟩
  have hPk : MsgP t (k : Nat) := ⟨hk, by omega, hM⟩
  have hck := cM (k : Nat)
  have hdk : msgH t (k : Nat) = digest 105 [t.bare.b, [k]] := by
    have := show msgH t (k : Nat) = digest 105 [t.bare.b, [((k : Nat) : Int).toNat]] from if_pos hPk
    rwa [Int.toNat_natCast] at this
  rw [decide_eq_true hPk, hdk] at hck
  have h9 : (digest 105 [t.bare.b, [k]]).length = 8 := digest_len _ _
  obtain ⟨M, hMd⟩ : ∃ M, M = digest 105 [t.bare.b, [k]] := ⟨_, rfl⟩
  rw [← hMd] at hck h9
  have hMs : (u8s M).toArray.size = 8 := by rw [List.size_toArray, u8s_len, h9]
  refine x_ ?_
  rw [hke]
  refine x_ ?_
  refine Run.nw nal ?_
  intro b12
  refine x_ ?_
  refine Run.op1 (osa (arr := ti39.zero.cells) F.toArray hO (hs := by exact hFs)) (fun _ => ?_)
  refine x_ ?_
  refine Run.nw (New.buildSlice tabOk (parts := []) (cells := #[]) rfl rfl rfl rfl rfl rfl (fillS_nil _ _)) ?_
  intro b68
  refine x_ ?_
  have h68 : Own 63 298 (.slice (some ⟨b68, 0, none⟩) 0 0) 0 [] [(b68, .cells #[] 63 (0, 0))] := Own.row b68 0 0 [] [] rfl rfl (Nat.le_refl _) (by unfold maxLen; decide)
  refine Run.op1 (OpTo.append (L1 := (b12, Obj.cells F.toArray 39 (0, 0)) :: ((b47, Obj.cells #[.slice a5 t.b.length c5] 42 (0, 0)) :: ((b7, Obj.cells (u8s D).toArray 29 (0, 0)) :: (l5 ++ [(b2, Obj.cells F.toArray 39 (0, 0))])))) tabOk h68 ht.i.src rfl rfl rfl rfl rfl rfl rfl rfl rfl (perm_of fun f => by (simp only [List.map_append, List.map_cons, List.map_nil, List.sum_append, List.sum_cons, List.sum_nil] <;> omega)) (rws_one' fun a _ => a.one) (by unfold maxLen; omega) (by simp only [ti63]; omega)) ?_
  rintro ⟨⟨v71, l71⟩, h71⟩
  dsimp only at h71 ⊢
  rw [Nat.zero_add, List.nil_append] at h71
  obtain ⟨b, cap, rest, rfl, rfl, hcap, hrl⟩ : ∃ b cap rest, v71 = .slice (some ⟨b, 0, none⟩) t.is.length cap ∧ l71 = [(b, .cells (rws InD.c t.is ++ rest).toArray 63 (0, 0))] ∧ t.is.length ≤ cap ∧ (rws InD.c t.is ++ rest).length = cap * 298 := by
    generalize hcs : rws InD.c t.is = cs at h71
    generalize hn : t.is.length = n at h71
    cases h71 with
    | nil => omega
    | row b n cap cs rest g1 g2 g3 g4 => exact ⟨b, cap, rest, rfl, rfl, g3, g2⟩
  obtain ⟨v', hv'⟩ : ∃ v', v' = v.toI b cap := ⟨_, rfl⟩
  obtain ⟨G, hG⟩ : ∃ G, G = txC t v' := ⟨_, rfl⟩
  have hGs : G.toArray.size = 170 := by rw [hG, List.size_toArray, txC_len]
  have gi : rdAt ti22 G.toArray 2 = some (.slice (some ⟨b, 0, none⟩) t.is.length cap) := by rw [hG, (tx_rd t v').i, hv']; rfl
  refine x_ ?_
  refine Run.op1 (ostE (arr := F.toArray) (e := 39) (L' := (b, .cells (rws InD.c (t.is) ++ rest).toArray 63 (0, 0)) :: ((b47, Obj.cells #[.slice a5 t.b.length c5] 42 (0, 0)) :: ((b7, Obj.cells (u8s D).toArray 29 (0, 0)) :: (l5 ++ [(b2, Obj.cells F.toArray 39 (0, 0))])))) G.toArray (hL := (perm_of fun f => by (simp only [List.map_append, List.map_cons, List.map_nil, List.sum_append, List.sum_cons, List.sum_nil] <;> omega))) (he := by rw [hG, hv', ← hF]; rfl) (hf := by rw [hFs]; decide) (h1 := by exact one_s _ _ _)) (fun _ => ?_)
  refine x_ ?_
  refine RC.up t.is.length (D := Unit) (fun _ _ => True) (fun j _ => [(13, .int .i64 j), (12, .pointer (some ⟨b12, 0, none⟩)), (11, .int .i64 (k : Nat)), (2, .pointer (some ⟨b2, 0, none⟩))]) (fun j _ => (b12, Obj.cells G.toArray 39 (0, 0)) :: ((b, .cells (rws InD.c (bareK t.is j) ++ rest).toArray 63 (0, 0)) :: ((b47, Obj.cells #[.slice a5 t.b.length c5] 42 (0, 0)) :: ((b7, Obj.cells (u8s D).toArray 29 (0, 0)) :: (l5 ++ [(b2, Obj.cells F.toArray 39 (0, 0))]))))) 0 () (Nat.zero_le _) trivial ⟨rfl, rfl, rfl, rfl, trivial⟩ (by rw [show bareK t.is 0 = t.is from by unfold bareK; simp]; exact List.Sublist.refl _) ?_
  intro j _ hj _
  refine y_ ?_
  (repeat refine RC.seq ?_); refine RC.wh rfl (fun h => RQ.next ?_) (fun h => ?_)
  · have hj' : j < t.is.length := by have := of_decide_eq_true h; omega
    clear h
    obtain ⟨x, hx⟩ : ∃ p, t.is[j]? = some p := ⟨_, List.getElem?_eq_getElem hj'⟩
    have hbx := bareK_at hx
    have hbs := bareK_set hx
    have hbkl := bareK_len t.is j
    have hW : wrAt (rws InD.c (bareK t.is j) ++ rest).toArray (j * 298 + 17) ti59.zero.cells.toList = (rws InD.c (bareK t.is (j + 1)) ++ rest).toArray := by
      rw [← hbs]
      exact (congrArg (fun a => wrAt _ _ (Array.toList a)) sig_zero).trans (wr_part InD.len x.bare hbx (A := x.pt ++ u8s x.key.1) (old := x.s.c) (new := SigD.nul.c) (B := []) (by rw [x.c_pt, List.append_nil, List.append_assoc]) (by rw [x.bare.c_pt, List.append_nil, List.append_assoc]; rfl) (by rw [SigD.len, SigD.len]) 17 (by rw [List.length_append, x.pt_len, u8s_len, x.key.2.1]))
    have hfit : j * 298 + 17 + 281 ≤ (rws InD.c (bareK t.is j) ++ rest).toArray.size := by rw [List.size_toArray, List.length_append, rws_len InD.len, hbkl]; omega
    refine y_ ?_
    refine Run.a (vbz) ?_
    refine Run.a (vix j hj' ⟨b, j * 298, none⟩) ?_
    refine y_ ?_
    refine Run.op1 (ostE (arr := (rws InD.c (bareK t.is j) ++ rest).toArray) (e := 63) (L' := (b12, Obj.cells G.toArray 39 (0, 0)) :: ((b47, Obj.cells #[.slice a5 t.b.length c5] 42 (0, 0)) :: ((b7, Obj.cells (u8s D).toArray 29 (0, 0)) :: (l5 ++ [(b2, Obj.cells F.toArray 39 (0, 0))])))) (rws InD.c (bareK t.is (j + 1)) ++ rest).toArray (hL := (perm_of fun f => by (simp only [List.map_append, List.map_cons, List.map_nil, List.sum_append, List.sum_cons, List.sum_nil] <;> omega))) (he := by exact hW) (hf := by exact hfit) (h1 := by intro u hu; change u ∈ ti59.zero.cells.toList at hu; rw [sig_zero] at hu; exact SigD.nul.one u hu)) (fun _ => ?_)
    refine y_ ?_
    exact RQ.upP (j + 1) () (Nat.lt_succ_self _) hj' trivial ⟨rfl, rfl, rfl, rfl, trivial⟩ (List.Perm.swap _ _ _) (List.Sublist.refl _)
  · have hj' : j = t.is.length := by have := of_decide_eq_false h; omega
    clear h
    subst hj'
    rw [bareK_all]
    have hTA : ∀ w', Mem w [] ((b12, Obj.cells G.toArray 39 (0, 0)) :: ((b, .cells (rws InD.c (t.is.map InD.bare) ++ rest).toArray 63 (0, 0)) :: ((b47, Obj.cells #[.slice a5 t.b.length c5] 42 (0, 0)) :: ((b7, Obj.cells (u8s D).toArray 29 (0, 0)) :: (l5 ++ [(b2, Obj.cells F.toArray 39 (0, 0))]))))) w' → TxAt w' t.bare v' := fun w' hm' => by
      have h0 := ht.fr hm'.fr
      rw [hv']
      refine ⟨?_, h0.o, h0.f, h0.k, h0.a, h0.s⟩
      show SrcW w' 298 (.slice (some ⟨b, 0, none⟩) (t.is.map InD.bare).length cap) (t.is.map InD.bare).length (rws InD.c (t.is.map InD.bare))
      rw [List.length_map]
      have hr := rws_len InD.len (t.is.map InD.bare)
      rw [List.length_map] at hr
      exact .at _ _ _ _ hr hcap (fun j u hj => by
        rw [add_lit, cell_of_row w' b (0 + j) _ _ _ (hm'.has (b, _) (by repeat (first | exact List.mem_cons_self | apply List.mem_cons_of_mem | apply List.mem_append_right))), Nat.zero_add, List.getElem?_toArray, List.getElem?_append_left (List.getElem?_eq_some_iff.1 hj).1]
        exact hj)
    have hEb : ∀ w', Mem w [] ((b12, Obj.cells G.toArray 39 (0, 0)) :: ((b, .cells (rws InD.c (t.is.map InD.bare) ++ rest).toArray 63 (0, 0)) :: ((b47, Obj.cells #[.slice a5 t.b.length c5] 42 (0, 0)) :: ((b7, Obj.cells (u8s D).toArray 29 (0, 0)) :: (l5 ++ [(b2, Obj.cells F.toArray 39 (0, 0))]))))) w' → Turns Tryd.prog 10 [.agg G.toArray] w' [] (Y := EncY t.bare) (fun y => .tuple #[y.1.1, .int .i64 (encE t.bare)]) (fun y => y.1.2) := fun w' hm' => by
      have h := TEncode_calls t.bare v' ⟨by show (t.is.map InD.bare).length ≤ 4096; rw [List.length_map]; omega, hln.2⟩ w' (hTA w' hm')
      unfold EncT at h
      rw [txC_bare, ← hG] at h
      exact h
    have hmb := may_bare hM
    rw [show encE t.bare = 0 from if_pos hmb] at hEb
    have hBb : encB t.bare = t.bare.b := if_pos hmb
    have hbb := hmb.bl
    (repeat refine RQ.thenExit ?_); refine RQ.blockHere ?_
    refine x_ ?_
    have hz1 : ((b12, Obj.cells G.toArray 39 (0, 0)) :: ((b, .cells (rws InD.c (t.is.map InD.bare) ++ rest).toArray 63 (0, 0)) :: ((b47, Obj.cells #[.slice a5 t.b.length c5] 42 (0, 0)) :: ((b7, Obj.cells (u8s D).toArray 29 (0, 0)) :: (l5 ++ [(b2, Obj.cells F.toArray 39 (0, 0))])))) : Hp).Perm ([] ++ ((b12, Obj.cells G.toArray 39 (0, 0)) :: ((b, .cells (rws InD.c (t.is.map InD.bare) ++ rest).toArray 63 (0, 0)) :: ((b47, Obj.cells #[.slice a5 t.b.length c5] 42 (0, 0)) :: ((b7, Obj.cells (u8s D).toArray 29 (0, 0)) :: (l5 ++ [(b2, Obj.cells F.toArray 39 (0, 0))])))))) := List.Perm.refl _
    refine Run.op1 (OpTo.callT Tryd.func10 hz1 (fun w' hm => hEb w' hm)) ?_
    rintro ⟨⟨v14, l14⟩, h14⟩
    dsimp only at h14 ⊢
    rw [hBb] at h14
    obtain ⟨a14, c14, rfl, hc14⟩ := h14.shape
    refine x_ ?_
    refine Run.nw nal ?_
    intro b16
    refine x_ ?_
    refine Run.op1 (osa (arr := ti29.zero.cells) (u8s M).toArray (u8s_one M) (hs := by exact hMs)) (fun _ => ?_)
    refine x_ ?_
    (repeat refine RC.seq ?_); refine RC.drawS mixed (N := 16) rfl ?_
    refine dy 0 ?_
    refine dy 1 ?_
    refine dy 2 ?_
    refine dy 3 ?_
    refine dy 4 ?_
    refine dy 5 ?_
    refine DR.t 6 rfl (vla (arr := (u8s M).toArray) (hv := hMs) (hm := (by repeat (first | exact List.mem_cons_self | apply List.mem_cons_of_mem | apply List.mem_append_right)))) ?_
    refine dy 7 ?_
    refine dy 8 ?_
    refine dy 9 ?_
    refine DR.c 10 ?_
    refine DOp.op1 rfl (OpTo.new rfl rfl (nbsk (parts := [(0, .tmp 106)]) #[.int .u8 (k : Nat)])) ?_
    intro b107
    refine DR.c 11 ?_
    refine DOp.op1 rfl (OpTo.new rfl rfl (nbsk (parts := [(0, .tmp 104), (1, .tmp 107)]) #[.slice a14 t.bare.b.length c14, .slice (some ⟨b107, 0, none⟩) 1 1])) ?_
    intro b108
    have hdig2 : ∀ w', Mem w [] ((b108, Obj.cells #[.slice a14 t.bare.b.length c14, .slice (some ⟨b107, 0, none⟩) 1 1] 42 (0, 0)) :: (b107, Obj.cells #[.int .u8 (k : Nat)] 5 (0, 0)) :: (b16, Obj.cells (u8s M).toArray 29 (0, 0)) :: (l14 ++ ((b12, Obj.cells G.toArray 39 (0, 0)) :: ((b, .cells (rws InD.c (t.is.map InD.bare) ++ rest).toArray 63 (0, 0)) :: ((b47, Obj.cells #[.slice a5 t.b.length c5] 42 (0, 0)) :: ((b7, Obj.cells (u8s D).toArray 29 (0, 0)) :: (l5 ++ [(b2, Obj.cells F.toArray 39 (0, 0))]))))))) w' → Gives Tryd.prog 19 [.int .u8 105, .slice (some ⟨b108, 0, none⟩) 2 2] (.agg (u8s M).toArray) w' := fun w' hm' => by
      rw [hMd]
      refine Digest_calls 105 (by decide) _ [.slice a14 t.bare.b.length c14, .slice (some ⟨b107, 0, none⟩) 1 1] [t.bare.b, [k]] w' (SrcW.row hm' m0 rfl (Nat.le_refl 2)) (Parts.cons (h14.srcW (fun q hq => hm'.has q (by repeat (first | exact List.mem_append_left _ hq | exact hq | apply List.mem_append_right | apply List.mem_cons_of_mem)))) (Parts.cons (SrcW.row (cs := u8s [k]) hm' m1 rfl (Nat.le_refl 1)) Parts.nil)) ?_ ?_
      · show (([t.bare.b, [k]]).map fun l => 4 + l.length).sum ≤ _
        rw [List.map_cons, List.sum_cons, List.map_cons, List.sum_cons, List.map_nil, List.sum_nil, List.length_singleton]
        omega
      · intro l hl
        rcases List.mem_cons.1 hl with rfl | hl
        · exact bt_tx hmb
        · rw [List.mem_singleton] at hl
          subst hl
          intro x hx
          rw [List.mem_singleton] at hx
          subst hx
          omega
    refine DR.c 12 (DOp.op1 rfl (OpTo.cv Tryd.func19 (fun w' hm => hdig2 w' hm)) (fun _ => ?_))
    refine DR.t 13 rfl (veu 8 M h9 (by kernel_rfl)) ?_
    refine dy 14 ?_
    refine dy 15 ?_
    refine DR.done (by kernel_rfl) ?_
    refine x_ ?_
    exact RQ.ret1 rfl (Res.tmp rfl) fun w' hm => ⟨rfl, hm.fr⟩
end Go.Proofs.YtmajfapnbchecaaDoor
