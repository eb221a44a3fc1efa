/- tx: the laws: TxBack, TxKinds (gen_ty7.py prints it). -/
import Derived.Test.YtmajfapnbchecaaDoorTy6
set_option linter.unusedSimpArgs false
set_option linter.unusedVariables false
namespace Go.Proofs.YtmajfapnbchecaaDoor
attribute [local irreducible] Go.Vc.Run Go.Vc.RC Go.Vc.RQ Go.Vc.DR Go.Vc.DOp Go.Vc.Knows Go.Vc.At
set_option maxHeartbeats 400000
set_option maxRecDepth 10000
open Go Go.Vc Go.Sha
theorem same_self {t : TxD} (h : TxMay t) : SameP t t := ⟨h, h, rfl⟩
set_option maxRecDepth 10000 in set_option maxHeartbeats 4000000 in
theorem TxBack_calls (s t : TxD) (u v : TxV) (w : World) (hs : TxAt w s u) (ht : TxAt w t v) (hK : Laid w) : Gives Tryd.prog 5 [.agg (txC s u).toArray, .agg (txC t v).toArray] (.bool true) w := by
  refine enter Tryd.func5 rfl (Mem.nil w []) rfl ?_
  have ca : Knows Tryd.prog w 8 [] (.bool true) := Knows.mk Tryd.func8 (fun w' hf => Tawake_calls w' (hK.fr hf (by simp)))
  have cf : Knows Tryd.prog w 9 [.agg (txC s u).toArray] (.bool (decide (FewP s))) := Knows.mk Tryd.func9 (fun w' hf => TFew_calls s u w')
  have cg : Knows Tryd.prog w 9 [.agg (txC t v).toArray] (.bool (decide (FewP t))) := Knows.mk Tryd.func9 (fun w' hf => TFew_calls t v w')
  have hFs : (txC s u).toArray.size = 170 := by rw [List.size_toArray, txC_len]
  have hGs : (txC t v).toArray.size = 170 := by rw [List.size_toArray, txC_len]
  by_cases hf : FewP s
  rotate_left
  · rw [decide_eq_false hf] at cf
    generalize txC s u = F at hFs cf ⊢
    generalize txC t v = G at hGs cg ⊢
    refine z_ ?_
    refine Run.nw nbx ?_
    intro b2
    refine z_ ?_
    refine Run.nw nbx ?_
    intro b3
    refine x_ ?_
    exact RQ.ret1 rfl (Res.tmp rfl) fun w' hm => ⟨rfl, hm.fr⟩
  rw [decide_eq_true hf] at cf
  by_cases hg : FewP t
  rotate_left
  · rw [decide_eq_false hg] at cg
    generalize txC s u = F at hFs cf ⊢
    generalize txC t v = G at hGs cg ⊢
    refine z_ ?_
    refine Run.nw nbx ?_
    intro b2
    refine z_ ?_
    refine Run.nw nbx ?_
    intro b3
    refine x_ ?_
    exact RQ.ret1 rfl (Res.tmp rfl) fun w' hm => ⟨rfl, hm.fr⟩
  rw [decide_eq_true hg] at cg
  have hls := hf.ln
  have hlt := hg.ln
  have hE : ∀ w', Fr [] w w' → Turns Tryd.prog 10 [.agg (txC s u).toArray] w' [] (Y := EncY s) (fun y => .tuple #[y.1.1, .int .i64 (encE s)]) (fun y => y.1.2) := fun w' hf => TEncode_calls s u hls w' (hs.fr hf)
  have hE2 : ∀ w', Fr [] w w' → Turns Tryd.prog 10 [.agg (txC t v).toArray] w' [] (Y := EncY t) (fun y => .tuple #[y.1.1, .int .i64 (encE t)]) (fun y => y.1.2) := fun w' hf => TEncode_calls t v hlt w' (ht.fr hf)
  have c1 : ∀ w' v', Fr [] w w' → TxAt w' s v' → Gives Tryd.prog 17 [.agg (txC s v').toArray, .agg (txC s u).toArray] (.bool (decide (SameP s s))) w' := fun w' v' hf h => RSame_calls s s v' u hls hls w' h (hs.fr hf)
  have c2 : ∀ w' v', Fr [] w w' → TxAt w' s v' → Gives Tryd.prog 18 [.agg (txC s v').toArray, .agg (txC s u).toArray] (.bool (decide (SameP s s))) w' := fun w' v' hf h => TSame_calls s s v' u hls hls w' h (hs.fr hf)
  have c3 : Knows Tryd.prog w 18 [.agg (txC s u).toArray, .agg (txC t v).toArray] (.bool (decide (SameP s t))) := Knows.mk Tryd.func18 (fun w' hf => TSame_calls s t u v hls hlt w' (hs.fr hf) (ht.fr hf))
  generalize txC s u = F at hFs cf hE c1 c2 c3 ⊢
  generalize txC t v = G at hGs cg hE2 c3 ⊢
  refine z_ ?_
  refine Run.nw nbx ?_
  intro b2
  refine z_ ?_
  refine Run.nw nbx ?_
  intro b3
  refine x_ ?_
  have hz0 : ([(b3, Obj.cells G.toArray 39 (0, 0)), (b2, Obj.cells F.toArray 39 (0, 0))] : Hp).Perm ([] ++ [(b3, Obj.cells G.toArray 39 (0, 0)), (b2, Obj.cells F.toArray 39 (0, 0))]) := List.Perm.refl _
  refine Run.op1 (OpTo.callT Tryd.func10 hz0 (fun w' hm => hE w' hm.fr)) ?_
  rintro ⟨⟨v1, l1⟩, h1⟩
  dsimp only at h1 ⊢
  refine x_ ?_
  have hz1 : (l1 ++ [(b3, Obj.cells G.toArray 39 (0, 0)), (b2, Obj.cells F.toArray 39 (0, 0))] : Hp).Perm ([] ++ (l1 ++ [(b3, Obj.cells G.toArray 39 (0, 0)), (b2, Obj.cells F.toArray 39 (0, 0))])) := List.Perm.refl _
  refine Run.op1 (OpTo.callT Tryd.func10 hz1 (fun w' hm => hE2 w' hm.fr)) ?_
  rintro ⟨⟨v2, l2⟩, h2⟩
  dsimp only at h2 ⊢
  by_cases ha : TxMay s
  rotate_left
  · rw [show encE s = 1 from if_neg ha]
    rw [decide_eq_false (fun h : SameP s t => ha h.1)] at c3
    refine x_ ?_
    refine Run.a (Val.eqBool tabOk rfl rfl rfl rfl rfl) ?_
    refine x_ ?_
    exact RQ.ret1 rfl (Res.tmp rfl) fun w' hm => ⟨rfl, hm.fr⟩
  rw [show encE s = 0 from if_pos ha]
  rw [show encB s = s.b from if_pos ha] at h1
  rw [decide_eq_true (same_self ha)] at c1 c2
  have hbl := ha.bl
  refine x_ ?_
  have hz2 : (l2 ++ (l1 ++ [(b3, Obj.cells G.toArray 39 (0, 0)), (b2, Obj.cells F.toArray 39 (0, 0))]) : Hp).Perm ([] ++ (l2 ++ (l1 ++ [(b3, Obj.cells G.toArray 39 (0, 0)), (b2, Obj.cells F.toArray 39 (0, 0))]))) := List.Perm.refl _
  refine Run.op1 (OpTo.callT Tryd.func16 hz2 (fun w' hm => TDecode_calls s.b (by omega) (bt_tx ha) v1 w' (h1.srcW (fun q hq => hm.has q (List.mem_append_right _ (List.mem_append_left _ hq)))))) ?_
  rw [(dec_back ha).2, dec_T ha]
  rintro ⟨⟨v9, l9⟩, hat9⟩
  dsimp only at hat9 ⊢
  have hH : (txC s v9).toArray.size = 170 := by rw [List.size_toArray, txC_len]
  have hO := txC_one s v9
  have d1 := fun w' hf h => c1 w' v9 hf h
  have d2 := fun w' hf h => c2 w' v9 hf h
  generalize txC s v9 = H at hH hO d1 d2 ⊢
  refine x_ ?_
  refine Run.nw nal ?_
  intro b9
  refine x_ ?_
  refine Run.op1 (osa (arr := ti39.zero.cells) H.toArray hO (hs := by exact hH)) (fun _ => ?_)
  refine x_ ?_
  refine Run.op1 (OpTo.cv Tryd.func17 (fun w' hm => d1 w' hm.fr (hat9 w' (fun q hq => hm.has q (by repeat (first | exact List.mem_append_left _ hq | exact hq | apply List.mem_append_right | apply List.mem_cons_of_mem)))))) (fun _ => ?_)
  refine x_ ?_
  refine Run.op1 (OpTo.cv Tryd.func18 (fun w' hm => d2 w' hm.fr (hat9 w' (fun q hq => hm.has q (by repeat (first | exact List.mem_append_left _ hq | exact hq | apply List.mem_append_right | apply List.mem_cons_of_mem)))))) (fun _ => ?_)
  by_cases hb : TxMay t
  rotate_left
  · rw [show encE t = 1 from if_neg hb]
    rw [decide_eq_false (fun h : SameP s t => hb h.2.1)] at c3
    refine x_ ?_
    refine Run.a (Val.eqBool tabOk rfl rfl rfl rfl rfl) ?_
    refine x_ ?_
    exact RQ.ret1 rfl (Res.tmp rfl) fun w' hm => ⟨rfl, hm.fr⟩
  rw [show encE t = 0 from if_pos hb]
  rw [show encB t = t.b from if_pos hb] at h2
  rw [show decide (SameP s t) = decide (s.b = t.b) from decide_eq_decide.2 ⟨fun h => h.2.2, fun h => ⟨ha, hb, h⟩⟩] at c3
  refine x_ ?_
  refine Run.a (Val.bytesStr (a := s.b) tabOk rfl rfl rfl rfl rfl rfl rfl rfl (h1.src (fun q hq => (by repeat (first | exact List.mem_append_left _ hq | exact hq | apply List.mem_append_right | apply List.mem_cons_of_mem))))) ?_
  refine x_ ?_
  refine Run.a (Val.bytesStr (a := t.b) tabOk rfl rfl rfl rfl rfl rfl rfl rfl (h2.src (fun q hq => (by repeat (first | exact List.mem_append_left _ hq | exact hq | apply List.mem_append_right | apply List.mem_cons_of_mem))))) ?_
  refine Run.a (Val.eqStr (a := s.b) (b := t.b) rfl rfl rfl (bt_tx ha) (bt_tx hb)) ?_
  generalize decide (s.b = t.b) = q
  refine x_ ?_
  refine Run.a (Val.eqBool tabOk rfl rfl rfl rfl rfl) ?_
  refine x_ ?_
  exact RQ.ret1 rfl (Res.tmp rfl) fun w' hm => ⟨by cases q <;> rfl, hm.fr⟩
set_option maxRecDepth 10000 in set_option maxHeartbeats 4000000 in
theorem TxKinds_calls (s t : TxD) (u v : TxV) (w : World) (hs : TxAt w s u) (ht : TxAt w t v) (hK : Laid w) : Gives Tryd.prog 6 [.agg (txC s u).toArray, .agg (txC t v).toArray] (.bool true) w := by
  refine enter Tryd.func6 rfl (Mem.nil w []) rfl ?_
  have ca : Knows Tryd.prog w 8 [] (.bool true) := Knows.mk Tryd.func8 (fun w' hf => Tawake_calls w' (hK.fr hf (by simp)))
  have cf : Knows Tryd.prog w 9 [.agg (txC s u).toArray] (.bool (decide (FewP s))) := Knows.mk Tryd.func9 (fun w' hf => TFew_calls s u w')
  have cg : Knows Tryd.prog w 9 [.agg (txC t v).toArray] (.bool (decide (FewP t))) := Knows.mk Tryd.func9 (fun w' hf => TFew_calls t v w')
  have hFs : (txC s u).toArray.size = 170 := by rw [List.size_toArray, txC_len]
  have hGs : (txC t v).toArray.size = 170 := by rw [List.size_toArray, txC_len]
  by_cases hf : FewP s
  rotate_left
  · rw [decide_eq_false hf] at cf
    generalize txC s u = F at hFs cf ⊢
    generalize txC t v = G at hGs cg ⊢
    refine z_ ?_
    refine Run.nw nbx ?_
    intro b2
    refine z_ ?_
    refine Run.nw nbx ?_
    intro b3
    refine x_ ?_
    exact RQ.ret1 rfl (Res.tmp rfl) fun w' hm => ⟨rfl, hm.fr⟩
  rw [decide_eq_true hf] at cf
  by_cases hg : FewP t
  rotate_left
  · rw [decide_eq_false hg] at cg
    generalize txC s u = F at hFs cf ⊢
    generalize txC t v = G at hGs cg ⊢
    refine z_ ?_
    refine Run.nw nbx ?_
    intro b2
    refine z_ ?_
    refine Run.nw nbx ?_
    intro b3
    refine x_ ?_
    exact RQ.ret1 rfl (Res.tmp rfl) fun w' hm => ⟨rfl, hm.fr⟩
  rw [decide_eq_true hg] at cg
  have hls := hf.ln
  have hlt := hg.ln
  have m1 : Knows Tryd.prog w 15 [.agg (txC s u).toArray] (.bool (decide (TxMay s))) := Knows.mk Tryd.func15 (fun w' hf => RMayTx_calls s u hls w' (hs.fr hf))
  have m2 : Knows Tryd.prog w 15 [.agg (txC t v).toArray] (.bool (decide (TxMay t))) := Knows.mk Tryd.func15 (fun w' hf => RMayTx_calls t v hlt w' (ht.fr hf))
  by_cases ha : TxMay s
  rotate_left
  · rw [decide_eq_false ha] at m1
    generalize txC s u = F at hFs cf m1 ⊢
    generalize txC t v = G at hGs cg m2 ⊢
    refine z_ ?_
    refine Run.nw nbx ?_
    intro b2
    refine z_ ?_
    refine Run.nw nbx ?_
    intro b3
    refine x_ ?_
    exact RQ.ret1 rfl (Res.tmp rfl) fun w' hm => ⟨rfl, hm.fr⟩
  rw [decide_eq_true ha] at m1
  by_cases hb : TxMay t
  rotate_left
  · rw [decide_eq_false hb] at m2
    generalize txC s u = F at hFs cf m1 ⊢
    generalize txC t v = G at hGs cg m2 ⊢
    refine z_ ?_
    refine Run.nw nbx ?_
    intro b2
    refine z_ ?_
    refine Run.nw nbx ?_
    intro b3
    refine x_ ?_
    exact RQ.ret1 rfl (Res.tmp rfl) fun w' hm => ⟨rfl, hm.fr⟩
  rw [decide_eq_true hb] at m2
  have n1 : Knows Tryd.prog w 14 [.agg (txC s u).toArray] (.bool true) := (Knows.mk Tryd.func14 (fun w' hf => TMay_calls s u hls w' (hs.fr hf))).cv (by rw [decide_eq_true ha])
  have n2 : Knows Tryd.prog w 14 [.agg (txC t v).toArray] (.bool true) := (Knows.mk Tryd.func14 (fun w' hf => TMay_calls t v hlt w' (ht.fr hf))).cv (by rw [decide_eq_true hb])
  obtain ⟨rk, _, _, _, _, _, _, _, _, _, _, _, _⟩ := tx_rd s u
  obtain ⟨tk, th, ti, to, tf, tp, _, tc, _, _, _, _, tl⟩ := tx_rd t v
  have htM := (TxMay.iff t).1 hb
  have hkr := htM.k
  by_cases hk : s.kd = t.kd
  · generalize hF : txC s u = F at hFs cf m1 n1 rk ⊢
    generalize txC t v = G at hGs cg m2 n2 tk ⊢
    refine z_ ?_
    refine Run.nw nbx ?_
    intro b2
    refine z_ ?_
    refine Run.nw nbx ?_
    intro b3
    refine x_ ?_
    exact RQ.ret1 rfl (Res.tmp rfl) fun w' hm => ⟨rfl, hm.fr⟩
  have hc := kinds_may ha hb hk
  obtain ⟨c, hcd⟩ : ∃ c, c = s.with t := ⟨_, rfl⟩
  rw [← hcd] at hc
  have key : ∀ V : TxV, TxAt w c V → TxLn c → (Knows Tryd.prog w 14 [.agg (txC c V).toArray] (.bool false) ∧ Knows Tryd.prog w 18 [.agg (txC c V).toArray, .agg (txC c V).toArray] (.bool false) ∧ Knows Tryd.prog w 12 [.agg (txC c V).toArray] (.tuple #[.agg (u8s (List.replicate 8 0)).toArray, .bool false])) ∧ (∀ w', Fr [] w w' → Turns Tryd.prog 10 [.agg (txC c V).toArray] w' [] (Y := {p : Value × Hp // Own 5 1 p.1 ([] : List Nat).length (u8s []) p.2}) (fun y => .tuple #[y.1.1, .int .i64 1]) (fun y => y.1.2)) := fun V hV hL => by
    have hdg : dgH 120 c [] = List.replicate 8 0 := if_neg hc
    have heE : encE c = 1 := if_neg hc
    have heB : encB c = [] := if_neg hc
    refine ⟨⟨(Knows.mk Tryd.func14 (fun w' hf => TMay_calls c V hL w' (hV.fr hf))).cv (by rw [decide_eq_false hc]), (Knows.mk Tryd.func18 (fun w' hf => TSame_calls c c V V hL hL w' (hV.fr hf) (hV.fr hf))).cv (by rw [decide_eq_false (fun h : SameP c c => hc h.1)]), (Knows.mk Tryd.func12 (fun w' hf => TID_calls c V hL w' (hV.fr hf) (hK.fr hf (by simp)))).cv (by rw [hdg, decide_eq_false hc])⟩, fun w' hf => ?_⟩
    have h := TEncode_calls c V hL w' (hV.fr hf)
    unfold EncT at h
    unfold EncY at h
    rw [heE, heB] at h
    exact h
  by_cases hk1 : t.kd = 1
  · have hw : s.with t = { s with ht := t.ht } := by unfold TxD.with; rw [if_pos hk1]
    rw [hw] at hcd
    subst hcd
    obtain ⟨⟨k1, k2, k3⟩, k4⟩ := key u ⟨hs.i, hs.o, hs.f, hs.k, hs.a, hs.s⟩ hls
    have hCs : (txC { s with ht := t.ht } u).toArray.size = 170 := by rw [List.size_toArray, txC_len]
    have hO1 := txC_one s u
    generalize hF : txC s u = F at hFs cf m1 n1 rk hO1 ⊢
    generalize txC t v = G at hGs cg m2 n2 tk th ti to tf tp tc tl ⊢
    generalize hC : txC { s with ht := t.ht } u = C at hCs k1 k2 k3 k4
    refine z_ ?_
    refine Run.nw nbx ?_
    intro b2
    refine z_ ?_
    refine Run.nw nbx ?_
    intro b3
    refine x_ ?_
    refine Run.nw nal ?_
    intro b5
    refine x_ ?_
    refine Run.op1 (osa (arr := ti39.zero.cells) F.toArray hO1 (hs := by exact hFs)) (fun _ => ?_)
    refine x_ ?_
    refine Run.op1 (ostE (arr := F.toArray) (e := 39) (L' := [(b3, Obj.cells G.toArray 39 (0, 0)), (b2, Obj.cells F.toArray 39 (0, 0))]) C.toArray (hL := (perm_of fun f => by (simp only [List.map_append, List.map_cons, List.map_nil, List.sum_append, List.sum_cons, List.sum_nil] <;> omega))) (he := by rw [← hF, ← hC]; rfl) (hf := by rw [hFs]; decide) (h1 := by exact one_i _ _)) (fun _ => ?_)
    refine x_ ?_
    have hz0 : ([(b5, Obj.cells C.toArray 39 (0, 0)), (b3, Obj.cells G.toArray 39 (0, 0)), (b2, Obj.cells F.toArray 39 (0, 0))] : Hp).Perm ([] ++ [(b5, Obj.cells C.toArray 39 (0, 0)), (b3, Obj.cells G.toArray 39 (0, 0)), (b2, Obj.cells F.toArray 39 (0, 0))]) := List.Perm.refl _
    refine Run.op1 (OpTo.callT Tryd.func10 hz0 (fun w' hm => k4 w' hm.fr)) ?_
    rintro ⟨⟨v6, l6⟩, h6⟩
    dsimp only at h6 ⊢
    obtain ⟨a6, c6, rfl, hc6⟩ := h6.shape
    refine x_ ?_
    refine Run.nw nal ?_
    intro b8
    refine x_ ?_
    refine Run.op1 (osa (arr := ti29.zero.cells) (u8s (List.replicate 8 0)).toArray (u8s_one _)) (fun _ => ?_)
    refine x_ ?_
    exact RQ.ret1 rfl (Res.tmp rfl) fun w' hm => ⟨rfl, hm.fr⟩
  have hn1 := hk1; clear hk1
  by_cases hk1 : t.kd = 2
  · have hw : s.with t = { s with is := t.is } := by unfold TxD.with; rw [if_neg (by omega), if_pos hk1]
    rw [hw] at hcd
    subst hcd
    obtain ⟨⟨k1, k2, k3⟩, k4⟩ := key (u.mI v.aI v.cI) ⟨ht.i, hs.o, hs.f, hs.k, hs.a, hs.s⟩ ⟨hlt.1, hls.2⟩
    have hCs : (txC { s with is := t.is } (u.mI v.aI v.cI)).toArray.size = 170 := by rw [List.size_toArray, txC_len]
    have hO1 := txC_one s u
    generalize hF : txC s u = F at hFs cf m1 n1 rk hO1 ⊢
    generalize txC t v = G at hGs cg m2 n2 tk th ti to tf tp tc tl ⊢
    generalize hC : txC { s with is := t.is } (u.mI v.aI v.cI) = C at hCs k1 k2 k3 k4
    refine z_ ?_
    refine Run.nw nbx ?_
    intro b2
    refine z_ ?_
    refine Run.nw nbx ?_
    intro b3
    refine x_ ?_
    refine Run.nw nal ?_
    intro b5
    refine x_ ?_
    refine Run.op1 (osa (arr := ti39.zero.cells) F.toArray hO1 (hs := by exact hFs)) (fun _ => ?_)
    refine x_ ?_
    refine Run.op1 (ostE (arr := F.toArray) (e := 39) (L' := [(b3, Obj.cells G.toArray 39 (0, 0)), (b2, Obj.cells F.toArray 39 (0, 0))]) C.toArray (hL := (perm_of fun f => by (simp only [List.map_append, List.map_cons, List.map_nil, List.sum_append, List.sum_cons, List.sum_nil] <;> omega))) (he := by rw [← hF, ← hC]; rfl) (hf := by rw [hFs]; decide) (h1 := by exact one_s _ _ _)) (fun _ => ?_)
    refine x_ ?_
    have hz0 : ([(b5, Obj.cells C.toArray 39 (0, 0)), (b3, Obj.cells G.toArray 39 (0, 0)), (b2, Obj.cells F.toArray 39 (0, 0))] : Hp).Perm ([] ++ [(b5, Obj.cells C.toArray 39 (0, 0)), (b3, Obj.cells G.toArray 39 (0, 0)), (b2, Obj.cells F.toArray 39 (0, 0))]) := List.Perm.refl _
    refine Run.op1 (OpTo.callT Tryd.func10 hz0 (fun w' hm => k4 w' hm.fr)) ?_
    rintro ⟨⟨v6, l6⟩, h6⟩
    dsimp only at h6 ⊢
    obtain ⟨a6, c6, rfl, hc6⟩ := h6.shape
    refine x_ ?_
    refine Run.nw nal ?_
    intro b8
    refine x_ ?_
    refine Run.op1 (osa (arr := ti29.zero.cells) (u8s (List.replicate 8 0)).toArray (u8s_one _)) (fun _ => ?_)
    refine x_ ?_
    exact RQ.ret1 rfl (Res.tmp rfl) fun w' hm => ⟨rfl, hm.fr⟩
  have hn2 := hk1; clear hk1
  by_cases hk1 : t.kd = 3
  · have hw : s.with t = { s with p := t.p } := by unfold TxD.with; rw [if_neg (by omega), if_neg (by omega), if_pos hk1]
    rw [hw] at hcd
    subst hcd
    obtain ⟨⟨k1, k2, k3⟩, k4⟩ := key (u.mK v.aK v.cK) ⟨hs.i, hs.o, hs.f, ht.k, hs.a, hs.s⟩ ⟨hls.1, hls.2.1, hls.2.2.1, hlt.2.2.2.1, hls.2.2.2.2⟩
    have hCs : (txC { s with p := t.p } (u.mK v.aK v.cK)).toArray.size = 170 := by rw [List.size_toArray, txC_len]
    have hO1 := txC_one s u
    generalize hF : txC s u = F at hFs cf m1 n1 rk hO1 ⊢
    generalize txC t v = G at hGs cg m2 n2 tk th ti to tf tp tc tl ⊢
    generalize hC : txC { s with p := t.p } (u.mK v.aK v.cK) = C at hCs k1 k2 k3 k4
    refine z_ ?_
    refine Run.nw nbx ?_
    intro b2
    refine z_ ?_
    refine Run.nw nbx ?_
    intro b3
    refine x_ ?_
    refine Run.nw nal ?_
    intro b5
    refine x_ ?_
    refine Run.op1 (osa (arr := ti39.zero.cells) F.toArray hO1 (hs := by exact hFs)) (fun _ => ?_)
    refine x_ ?_
    refine Run.op1 (ostE (arr := F.toArray) (e := 39) (L' := [(b3, Obj.cells G.toArray 39 (0, 0)), (b2, Obj.cells F.toArray 39 (0, 0))]) C.toArray (hL := (perm_of fun f => by (simp only [List.map_append, List.map_cons, List.map_nil, List.sum_append, List.sum_cons, List.sum_nil] <;> omega))) (he := by rw [← hF, ← hC]; rfl) (hf := by rw [hFs]; decide) (h1 := by exact prC_one _ _ _ _)) (fun _ => ?_)
    refine x_ ?_
    have hz0 : ([(b5, Obj.cells C.toArray 39 (0, 0)), (b3, Obj.cells G.toArray 39 (0, 0)), (b2, Obj.cells F.toArray 39 (0, 0))] : Hp).Perm ([] ++ [(b5, Obj.cells C.toArray 39 (0, 0)), (b3, Obj.cells G.toArray 39 (0, 0)), (b2, Obj.cells F.toArray 39 (0, 0))]) := List.Perm.refl _
    refine Run.op1 (OpTo.callT Tryd.func10 hz0 (fun w' hm => k4 w' hm.fr)) ?_
    rintro ⟨⟨v6, l6⟩, h6⟩
    dsimp only at h6 ⊢
    obtain ⟨a6, c6, rfl, hc6⟩ := h6.shape
    refine x_ ?_
    refine Run.nw nal ?_
    intro b8
    refine x_ ?_
    refine Run.op1 (osa (arr := ti29.zero.cells) (u8s (List.replicate 8 0)).toArray (u8s_one _)) (fun _ => ?_)
    refine x_ ?_
    exact RQ.ret1 rfl (Res.tmp rfl) fun w' hm => ⟨rfl, hm.fr⟩
  have hn3 := hk1; clear hk1
  by_cases hk1 : t.kd = 4
  · have hw : s.with t = { s with c := t.c } := by unfold TxD.with; rw [if_neg (by omega), if_neg (by omega), if_neg (by omega), if_pos hk1]
    rw [hw] at hcd
    subst hcd
    obtain ⟨⟨k1, k2, k3⟩, k4⟩ := key (u.mC v.aA v.cA v.aS v.cS) ⟨hs.i, hs.o, hs.f, hs.k, ht.a, ht.s⟩ ⟨hls.1, hls.2.1, hls.2.2.1, hls.2.2.2.1, hlt.2.2.2.2⟩
    have hCs : (txC { s with c := t.c } (u.mC v.aA v.cA v.aS v.cS)).toArray.size = 170 := by rw [List.size_toArray, txC_len]
    have hs21 : (ceC t.c (.slice v.aA t.c.os.length v.cA) (.slice v.aS t.c.sg.length v.cS)).toArray.size = 21 := by rw [List.size_toArray, ceC_len]
    have hO1 := txC_one s u
    generalize hF : txC s u = F at hFs cf m1 n1 rk hO1 ⊢
    generalize txC t v = G at hGs cg m2 n2 tk th ti to tf tp tc tl ⊢
    generalize hC : txC { s with c := t.c } (u.mC v.aA v.cA v.aS v.cS) = C at hCs k1 k2 k3 k4
    refine z_ ?_
    refine Run.nw nbx ?_
    intro b2
    refine z_ ?_
    refine Run.nw nbx ?_
    intro b3
    refine x_ ?_
    refine Run.nw nal ?_
    intro b5
    refine x_ ?_
    refine Run.op1 (osa (arr := ti39.zero.cells) F.toArray hO1 (hs := by exact hFs)) (fun _ => ?_)
    refine x_ ?_
    refine Run.op1 (ostE (arr := F.toArray) (e := 39) (L' := [(b3, Obj.cells G.toArray 39 (0, 0)), (b2, Obj.cells F.toArray 39 (0, 0))]) C.toArray (hL := (perm_of fun f => by (simp only [List.map_append, List.map_cons, List.map_nil, List.sum_append, List.sum_cons, List.sum_nil] <;> omega))) (hs := by exact hs21) (he := by rw [← hF, ← hC]; exact tx_w9 _ _ _ _ _ _ _) (hf := by rw [hFs]; decide) (h1 := by exact ceC_one _ _ _ _ _ _ _)) (fun _ => ?_)
    refine x_ ?_
    have hz0 : ([(b5, Obj.cells C.toArray 39 (0, 0)), (b3, Obj.cells G.toArray 39 (0, 0)), (b2, Obj.cells F.toArray 39 (0, 0))] : Hp).Perm ([] ++ [(b5, Obj.cells C.toArray 39 (0, 0)), (b3, Obj.cells G.toArray 39 (0, 0)), (b2, Obj.cells F.toArray 39 (0, 0))]) := List.Perm.refl _
    refine Run.op1 (OpTo.callT Tryd.func10 hz0 (fun w' hm => k4 w' hm.fr)) ?_
    rintro ⟨⟨v6, l6⟩, h6⟩
    dsimp only at h6 ⊢
    obtain ⟨a6, c6, rfl, hc6⟩ := h6.shape
    refine x_ ?_
    refine Run.nw nal ?_
    intro b8
    refine x_ ?_
    refine Run.op1 (osa (arr := ti29.zero.cells) (u8s (List.replicate 8 0)).toArray (u8s_one _)) (fun _ => ?_)
    refine x_ ?_
    exact RQ.ret1 rfl (Res.tmp rfl) fun w' hm => ⟨rfl, hm.fr⟩
  have hn4 := hk1; clear hk1
  have hk1 : t.kd = 5 := by omega
  have hw : s.with t = { s with l := t.l } := by unfold TxD.with; rw [if_neg (by omega), if_neg (by omega), if_neg (by omega), if_neg (by omega)]
  rw [hw] at hcd
  subst hcd
  obtain ⟨⟨k1, k2, k3⟩, k4⟩ := key u ⟨hs.i, hs.o, hs.f, hs.k, hs.a, hs.s⟩ hls
  have hCs : (txC { s with l := t.l } u).toArray.size = 170 := by rw [List.size_toArray, txC_len]
  have hs140 : t.l.c.toArray.size = 140 := by rw [List.size_toArray, ClD.len]
  have hO1 := txC_one s u
  generalize hF : txC s u = F at hFs cf m1 n1 rk hO1 ⊢
  generalize txC t v = G at hGs cg m2 n2 tk th ti to tf tp tc tl ⊢
  generalize hC : txC { s with l := t.l } u = C at hCs k1 k2 k3 k4
  refine z_ ?_
  refine Run.nw nbx ?_
  intro b2
  refine z_ ?_
  refine Run.nw nbx ?_
  intro b3
  refine x_ ?_
  refine Run.nw nal ?_
  intro b5
  refine x_ ?_
  refine Run.op1 (osa (arr := ti39.zero.cells) F.toArray hO1 (hs := by exact hFs)) (fun _ => ?_)
  refine x_ ?_
  refine Run.op1 (ostE (arr := F.toArray) (e := 39) (L' := [(b3, Obj.cells G.toArray 39 (0, 0)), (b2, Obj.cells F.toArray 39 (0, 0))]) C.toArray (hL := (perm_of fun f => by (simp only [List.map_append, List.map_cons, List.map_nil, List.sum_append, List.sum_cons, List.sum_nil] <;> omega))) (hs := by exact hs140) (he := by rw [← hF, ← hC]; exact tx_w30 _ _ _) (hf := by rw [hFs]; decide) (h1 := by exact t.l.one)) (fun _ => ?_)
  refine x_ ?_
  have hz0 : ([(b5, Obj.cells C.toArray 39 (0, 0)), (b3, Obj.cells G.toArray 39 (0, 0)), (b2, Obj.cells F.toArray 39 (0, 0))] : Hp).Perm ([] ++ [(b5, Obj.cells C.toArray 39 (0, 0)), (b3, Obj.cells G.toArray 39 (0, 0)), (b2, Obj.cells F.toArray 39 (0, 0))]) := List.Perm.refl _
  refine Run.op1 (OpTo.callT Tryd.func10 hz0 (fun w' hm => k4 w' hm.fr)) ?_
  rintro ⟨⟨v6, l6⟩, h6⟩
  dsimp only at h6 ⊢
  obtain ⟨a6, c6, rfl, hc6⟩ := h6.shape
  refine x_ ?_
  refine Run.nw nal ?_
  intro b8
  refine x_ ?_
  refine Run.op1 (osa (arr := ti29.zero.cells) (u8s (List.replicate 8 0)).toArray (u8s_one _)) (fun _ => ?_)
  refine x_ ?_
  exact RQ.ret1 rfl (Res.tmp rfl) fun w' hm => ⟨rfl, hm.fr⟩
end Go.Proofs.YtmajfapnbchecaaDoor
