/- Lemmas. -/
import Derived.Test.YtfoeakgnkfcbjaaGreatDoorPq28
set_option linter.unusedSimpArgs false
set_option linter.unusedVariables false
section
/- block: Root of both. -/
namespace Go.Proofs.YtfoeakgnkfcbjaaGreatDoor
attribute [local irreducible] Go.Vc.Run Go.Vc.RC Go.Vc.RQ Go.Vc.DR Go.Vc.DOp Go.Vc.Knows Go.Vc.At
set_option maxHeartbeats 400000
set_option maxRecDepth 10000
open Go Go.Vc Go.Sha
/-- The transactions' names. -/
noncomputable def idT (q : TxP) : List Nat := dgH 120 q.1 []
noncomputable def idL (l : List TxP) : List (List Nat) := l.map idT
noncomputable def rootB (b : BkV) : List Nat := if MayB b then rootOf (idL b.ts) else List.replicate 8 0
theorem idT_ok (q : TxP) : (idT q).length = 8 ∧ ∀ x ∈ idT q, x < 256 := by
  refine ⟨dgH_len _ _ _, ?_⟩
  unfold idT dgH
  split
  · exact digest_lt _ _
  · intro z hz; rw [(List.mem_replicate.1 hz).2]; decide
theorem idL_HL (l : List TxP) : HL (idL l) := fun h hh => by
  obtain ⟨q, _, rfl⟩ := List.mem_map.1 hh
  exact idT_ok q
theorem idL_succ {l : List TxP} {k : Nat} {q : TxP} (h : l[k]? = some q) : idL (l.take (k + 1)) = idL (l.take k) ++ [idT q] := by
  unfold idL
  rw [List.take_add_one, h, List.map_append]
  rfl
set_option maxRecDepth 10000 in set_option maxHeartbeats 4000000 in
theorem RootBk_calls (b : BkV) (hln : BkLn b) (a : Option Addr) (c : Nat) (w : World) (hat : BkAt w b a c) (hK : Laid w) : Gives Tryz.prog 13 [.agg (bkC b a c).toArray] (.agg (u8s (rootB b)).toArray) w := by
  refine enter Tryz.func13 rfl (Mem.nil w []) rfl ?_
  have r9 := bk_r9 b a c
  have hF10 : (bkC b a c).toArray.size = 10 := by rw [List.size_toArray, bkC_len]
  have kM : Knows Tryz.prog w 20 [.agg (bkC b a c).toArray] (.bool (decide (MayB b))) := Knows.mk Tryz.func20 (fun w' hf => MayBk_calls b hln a c w' (hat.fr hf))
  generalize bkC b a c = F at r9 hF10 kM ⊢
  have hmem := hat.s
  obtain ⟨N, hN⟩ : ∃ N, N = b.ts.length := ⟨_, rfl⟩
  rw [← hN] at r9 hmem
  refine z_ ?_
  refine Run.nw nbx ?_
  intro b1
  refine x_ ?_
  refine Run.nw nal ?_
  intro b2
  by_cases hmy : MayB b
  rotate_left
  · rw [decide_eq_false hmy] at kM
    rw [show rootB b = List.replicate 8 0 from if_neg hmy]
    refine x_ ?_
    refine Run.op1 (osa (arr := ti23.zero.cells) (e := 23) (L' := [(b1, Obj.cells F.toArray 27 (0, 0))]) (u8s (List.replicate 8 0)).toArray (u8s_one _) (hL := (perm_of fun f => by (simp only [List.map_append, List.map_cons, List.map_nil, List.sum_append, List.sum_cons, List.sum_nil] <;> omega)))) (fun _ => ?_)
    refine x_ ?_
    exact RQ.ret1 rfl (Res.cellAll tabOk rfl rfl rfl m0 rfl) fun w' hm => ⟨rfl, hm.fr⟩
  rw [decide_eq_true hmy] at kM
  rw [show rootB b = rootOf (idL b.ts) from if_pos hmy]
  have h32 := hmy.2.1
  refine x_ ?_
  refine RC.up N (D := (Option Addr × Nat) × Hp) (fun k d => Own 23 8 (.slice d.1.1 k d.1.2) k (u8s (idL (b.ts.take k)).flatten) d.2) (fun k d => [(15, .int .i64 k), (14, .int .i64 N), (13, .slice a N c), (3, .slice d.1.1 k d.1.2), (2, .pointer (some ⟨b2, 0, none⟩)), (1, .pointer (some ⟨b1, 0, none⟩))]) (fun _ d => d.2 ++ [(b2, Obj.cells ti23.zero.cells 23 (0, 0)), (b1, Obj.cells F.toArray 27 (0, 0))]) 0 ((none, 0), []) (Nat.zero_le _) Own.nil ⟨rfl, rfl, rfl, rfl, rfl, rfl, trivial⟩ (List.Sublist.refl _) ?_
  rintro k ⟨⟨wa, wc⟩, wl⟩ hk hown
  dsimp only at hown ⊢
  by_cases hk' : k < N
  · obtain ⟨q, hx⟩ : ∃ q, b.ts[k]? = some q := ⟨_, List.getElem?_eq_getElem (by omega)⟩
    obtain ⟨ad, c', hv', hc', hcl, hr⟩ := hmem.pos (by omega)
    cases hv'
    have hqm := List.mem_of_getElem? hx
    have hqa := hat.t q hqm
    have hqln := hln q hqm
    have q0 : At w (ad.add (k * 170)) (txC q.1 q.2) := At.mk fun j u hj => by rw [add_add]; exact hr _ u (rws_at txR_len hx j u hj)
    have hT170 : (txC q.1 q.2).length = 170 := txC_len _ _
    have hT1 := txC_one q.1 q.2
    have kI : Knows Tryz.prog w 34 [.agg (txC q.1 q.2).toArray] (.tuple #[.agg (u8s (idT q)).toArray, .bool (decide (TxMay q.1))]) := Knows.mk Tryz.func34 (fun w' hf => TID_calls q.1 q.2 hqln w' (hqa.fr hf) (hK.fr hf (by simp)))
    generalize txC q.1 q.2 = T at q0 hT170 hT1 kI
    have hTs : T.toArray.size = 170 := by rw [List.size_toArray, hT170]
    have hid := idT_ok q
    have his := idL_succ hx
    generalize idT q = I at hid his kI
    have hIs : (u8s I).toArray.size = 8 := by rw [List.size_toArray, u8s_len, hid.1]
    refine x_ ?_
    refine Run.nw nal ?_
    intro b5
    refine x_ ?_
    refine Run.op1 (osa (arr := ti64.zero.cells) (e := 64) (L' := wl ++ [(b2, Obj.cells ti23.zero.cells 23 (0, 0)), (b1, Obj.cells F.toArray 27 (0, 0))]) T.toArray hT1 (hL := (perm_of fun f => by (simp only [List.map_append, List.map_cons, List.map_nil, List.sum_append, List.sum_cons, List.sum_nil] <;> omega))) (hs := by exact hTs)) (fun _ => ?_)
    refine x_ ?_
    refine Run.nw nal ?_
    intro b6
    refine x_ ?_
    refine Run.op1 (osa (arr := ti23.zero.cells) (e := 23) (L' := (b5, Obj.cells T.toArray 64 (0, 0)) :: (wl ++ [(b2, Obj.cells ti23.zero.cells 23 (0, 0)), (b1, Obj.cells F.toArray 27 (0, 0))])) (u8s I).toArray (u8s_one _) (hL := (perm_of fun f => by (simp only [List.map_append, List.map_cons, List.map_nil, List.sum_append, List.sum_cons, List.sum_nil] <;> omega))) (hs := by exact hIs)) (fun _ => ?_)
    refine x_ ?_
    refine Run.nw (nbsl (parts := [(0, .tmp 25)]) (u8s I).toArray (fillS_1 8 _ (u8s I) (by rw [u8s_len, hid.1]))) ?_
    intro b26
    refine Run.op1 (OpTo.append (L1 := (b26, Obj.cells (u8s I).toArray 23 (0, 0)) :: ((b6, Obj.cells (u8s I).toArray 23 (0, 0)) :: ((b5, Obj.cells T.toArray 64 (0, 0)) :: [(b2, Obj.cells ti23.zero.cells 23 (0, 0)), (b1, Obj.cells F.toArray 27 (0, 0))]))) tabOk hown (Src.at ⟨b26, 0, none⟩ 1 1 (u8s I) (by rw [u8s_len, hid.1]; rfl) (Rd.rowAll m0)) rfl rfl rfl rfl rfl rfl rfl rfl rfl (perm_of fun f => by (simp only [List.map_append, List.map_cons, List.map_nil, List.sum_append, List.sum_cons, List.sum_nil] <;> omega)) (u8s_one _) (by unfold maxLen; omega) (by simp only [ti23]; omega)) ?_
    rintro ⟨⟨v27, l27⟩, h27⟩
    dsimp only at h27 ⊢
    obtain ⟨wa2, wc2, rfl, hwc2⟩ := h27.shape
    refine x_ ?_
    exact RQ.upP (k + 1) ((wa2, wc2), l27) (Nat.lt_succ_self _) hk' (by dsimp only; rw [his, List.flatten_append, u8s_app, show ([I] : List (List Nat)).flatten = I from List.append_nil I]; exact h27) ⟨rfl, rfl, rfl, rfl, rfl, rfl, trivial⟩ (L1 := (l27 ++ [(b2, Obj.cells ti23.zero.cells 23 (0, 0)), (b1, Obj.cells F.toArray 27 (0, 0))]) ++ [(b26, Obj.cells (u8s I).toArray 23 (0, 0)), (b6, Obj.cells (u8s I).toArray 23 (0, 0)), (b5, Obj.cells T.toArray 64 (0, 0))]) (perm_of fun f => by (simp only [List.map_append, List.map_cons, List.map_nil, List.sum_append, List.sum_cons, List.sum_nil] <;> omega)) (List.sublist_append_left _ _)
  obtain rfl : k = N := by omega
  rw [List.take_of_length_le (by omega)] at hown
  have hR8 : (rootOf (idL b.ts)).length = 8 := rootOf_len _
  have hlen : (idL b.ts).length = k := by unfold idL; rw [List.length_map, hN]
  have hRt := fun w' (hw : Has wl w') (hk : Laid w') => Root_calls _ (idL b.ts) rfl (idL_HL b.ts) (.slice wa k wc) w' (by rw [hlen]; exact hown.srcW hw) hk
  refine x_ ?_
  refine Run.op1 (OpTo.cv Tryz.func35 (fun w' hm => hRt w' (fun p hp => hm.has p (List.mem_append_left _ hp)) (hK.fr hm.fr (by simp)))) (fun _ => ?_)
  refine Run.op1 (osa (arr := ti23.zero.cells) (e := 23) (L' := wl ++ [(b1, Obj.cells F.toArray 27 (0, 0))]) (u8s (rootOf (idL b.ts))).toArray (u8s_one _) (hL := (perm_of fun f => by (simp only [List.map_append, List.map_cons, List.map_nil, List.sum_append, List.sum_cons, List.sum_nil] <;> omega))) (hs := by rw [List.size_toArray, u8s_len, hR8]; rfl)) (fun _ => ?_)
  refine x_ ?_
  exact RQ.ret1 rfl (Res.cellAll tabOk rfl rfl rfl m0 (by rw [List.size_toArray, u8s_len, hR8]; rfl)) fun w' hm => ⟨rfl, hm.fr⟩
set_option maxRecDepth 10000 in set_option maxHeartbeats 4000000 in
theorem RRootBk_calls (b : BkV) (hln : BkLn b) (a : Option Addr) (c : Nat) (w : World) (hat : BkAt w b a c) : Gives Tryz.prog 22 [.agg (bkC b a c).toArray] (.agg (u8s (rootB b)).toArray) w := by
  refine enter Tryz.func22 rfl (Mem.nil w []) rfl ?_
  have r9 := bk_r9 b a c
  have hF10 : (bkC b a c).toArray.size = 10 := by rw [List.size_toArray, bkC_len]
  have kM : Knows Tryz.prog w 21 [.agg (bkC b a c).toArray] (.bool (decide (MayB b))) := Knows.mk Tryz.func21 (fun w' hf => RMayB_calls b hln a c w' (hat.fr hf))
  generalize bkC b a c = F at r9 hF10 kM ⊢
  have hmem := hat.s
  obtain ⟨N, hN⟩ : ∃ N, N = b.ts.length := ⟨_, rfl⟩
  rw [← hN] at r9 hmem
  refine z_ ?_
  refine Run.nw nbx ?_
  intro b1
  refine x_ ?_
  refine Run.nw nal ?_
  intro b2
  by_cases hmy : MayB b
  rotate_left
  · rw [decide_eq_false hmy] at kM
    rw [show rootB b = List.replicate 8 0 from if_neg hmy]
    refine x_ ?_
    refine Run.op1 (osa (arr := ti23.zero.cells) (e := 23) (L' := [(b1, Obj.cells F.toArray 27 (0, 0))]) (u8s (List.replicate 8 0)).toArray (u8s_one _) (hL := (perm_of fun f => by (simp only [List.map_append, List.map_cons, List.map_nil, List.sum_append, List.sum_cons, List.sum_nil] <;> omega)))) (fun _ => ?_)
    refine x_ ?_
    exact RQ.ret1 rfl (Res.cellAll tabOk rfl rfl rfl m0 rfl) fun w' hm => ⟨rfl, hm.fr⟩
  rw [decide_eq_true hmy] at kM
  rw [show rootB b = rootOf (idL b.ts) from if_pos hmy]
  have h32 := hmy.2.1
  refine x_ ?_
  refine RC.up N (D := (Option Addr × Nat) × Hp) (fun k d => Own 23 8 (.slice d.1.1 k d.1.2) k (u8s (idL (b.ts.take k)).flatten) d.2) (fun k d => [(4, .int .i64 k), (3, .slice d.1.1 k d.1.2), (2, .pointer (some ⟨b2, 0, none⟩)), (1, .pointer (some ⟨b1, 0, none⟩))]) (fun _ d => d.2 ++ [(b2, Obj.cells ti23.zero.cells 23 (0, 0)), (b1, Obj.cells F.toArray 27 (0, 0))]) 0 ((none, 0), []) (Nat.zero_le _) Own.nil ⟨rfl, rfl, rfl, rfl, trivial⟩ (List.Sublist.refl _) ?_
  rintro k ⟨⟨wa, wc⟩, wl⟩ hk hown
  dsimp only at hown ⊢
  by_cases hk' : k < N
  · obtain ⟨q, hx⟩ : ∃ q, b.ts[k]? = some q := ⟨_, List.getElem?_eq_getElem (by omega)⟩
    obtain ⟨ad, c', hv', hc', hcl, hr⟩ := hmem.pos (by omega)
    cases hv'
    have hqm := List.mem_of_getElem? hx
    have hqa := hat.t q hqm
    have hqln := hln q hqm
    have q0 : At w (ad.add (k * 170)) (txC q.1 q.2) := At.mk fun j u hj => by rw [add_add]; exact hr _ u (rws_at txR_len hx j u hj)
    have hT170 : (txC q.1 q.2).length = 170 := txC_len _ _
    have hT1 := txC_one q.1 q.2
    have kI : Knows Tryz.prog w 26 [.agg (txC q.1 q.2).toArray] (.tuple #[.agg (u8s (idT q)).toArray, .bool (decide (TxMay q.1))]) := Knows.mk Tryz.func26 (fun w' hf => RTxID_calls q.1 q.2 hqln w' (hqa.fr hf))
    generalize txC q.1 q.2 = T at q0 hT170 hT1 kI
    have hTs : T.toArray.size = 170 := by rw [List.size_toArray, hT170]
    have hid := idT_ok q
    have his := idL_succ hx
    generalize idT q = I at hid his kI
    have hIs : (u8s I).toArray.size = 8 := by rw [List.size_toArray, u8s_len, hid.1]
    refine x_ ?_
    refine Run.nw nal ?_
    intro b6
    refine x_ ?_
    refine Run.op1 (osa (arr := ti23.zero.cells) (e := 23) (L' := wl ++ [(b2, Obj.cells ti23.zero.cells 23 (0, 0)), (b1, Obj.cells F.toArray 27 (0, 0))]) (u8s I).toArray (u8s_one _) (hL := (perm_of fun f => by (simp only [List.map_append, List.map_cons, List.map_nil, List.sum_append, List.sum_cons, List.sum_nil] <;> omega))) (hs := by exact hIs)) (fun _ => ?_)
    refine x_ ?_
    refine Run.nw (nbsl (parts := [(0, .tmp 28)]) (u8s I).toArray (fillS_1 8 _ (u8s I) (by rw [u8s_len, hid.1]))) ?_
    intro b26
    refine Run.op1 (OpTo.append (L1 := (b26, Obj.cells (u8s I).toArray 23 (0, 0)) :: ((b6, Obj.cells (u8s I).toArray 23 (0, 0)) :: [(b2, Obj.cells ti23.zero.cells 23 (0, 0)), (b1, Obj.cells F.toArray 27 (0, 0))])) tabOk hown (Src.at ⟨b26, 0, none⟩ 1 1 (u8s I) (by rw [u8s_len, hid.1]; rfl) (Rd.rowAll m0)) rfl rfl rfl rfl rfl rfl rfl rfl rfl (perm_of fun f => by (simp only [List.map_append, List.map_cons, List.map_nil, List.sum_append, List.sum_cons, List.sum_nil] <;> omega)) (u8s_one _) (by unfold maxLen; omega) (by simp only [ti23]; omega)) ?_
    rintro ⟨⟨v27, l27⟩, h27⟩
    dsimp only at h27 ⊢
    obtain ⟨wa2, wc2, rfl, hwc2⟩ := h27.shape
    refine x_ ?_
    exact RQ.upP (k + 1) ((wa2, wc2), l27) (Nat.lt_succ_self _) hk' (by dsimp only; rw [his, List.flatten_append, u8s_app, show ([I] : List (List Nat)).flatten = I from List.append_nil I]; exact h27) ⟨rfl, rfl, rfl, rfl, trivial⟩ (L1 := (l27 ++ [(b2, Obj.cells ti23.zero.cells 23 (0, 0)), (b1, Obj.cells F.toArray 27 (0, 0))]) ++ [(b26, Obj.cells (u8s I).toArray 23 (0, 0)), (b6, Obj.cells (u8s I).toArray 23 (0, 0))]) (perm_of fun f => by (simp only [List.map_append, List.map_cons, List.map_nil, List.sum_append, List.sum_cons, List.sum_nil] <;> omega)) (List.sublist_append_left _ _)
  obtain rfl : k = N := by omega
  rw [List.take_of_length_le (by omega)] at hown
  have hR8 : (rootOf (idL b.ts)).length = 8 := rootOf_len _
  have hlen : (idL b.ts).length = k := by unfold idL; rw [List.length_map, hN]
  have hRt := fun w' (hw : Has wl w') => ref_Root_calls _ (idL b.ts) rfl (idL_HL b.ts) (.slice wa k wc) w' (by rw [hlen]; exact hown.srcW hw)
  refine x_ ?_
  refine Run.op1 (OpTo.cv Tryz.func29 (fun w' hm => hRt w' (fun p hp => hm.has p (List.mem_append_left _ hp)))) (fun _ => ?_)
  refine Run.op1 (osa (arr := ti23.zero.cells) (e := 23) (L' := wl ++ [(b1, Obj.cells F.toArray 27 (0, 0))]) (u8s (rootOf (idL b.ts))).toArray (u8s_one _) (hL := (perm_of fun f => by (simp only [List.map_append, List.map_cons, List.map_nil, List.sum_append, List.sum_cons, List.sum_nil] <;> omega))) (hs := by rw [List.size_toArray, u8s_len, hR8]; rfl)) (fun _ => ?_)
  refine x_ ?_
  exact RQ.ret1 rfl (Res.cellAll tabOk rfl rfl rfl m0 (by rw [List.size_toArray, u8s_len, hR8]; rfl)) fun w' hm => ⟨rfl, hm.fr⟩
end Go.Proofs.YtfoeakgnkfcbjaaGreatDoor
end
