import Derived.Test.YtmajfapnbchecaaGreatDoorTy6
set_option linter.unusedSimpArgs false
set_option linter.unusedVariables false
/- tx: what is signed of a payment (the reference's), of a certificate; what is paid. -/
namespace Go.Proofs.YtmajfapnbchecaaGreatDoor
attribute [local irreducible] Go.Vc.Run Go.Vc.RC Go.Vc.RQ Go.Vc.DR Go.Vc.DOp Go.Vc.Knows Go.Vc.At
set_option maxHeartbeats 400000
set_option maxRecDepth 10000
open Go Go.Vc Go.Sha
set_option maxRecDepth 10000 in set_option maxHeartbeats 4000000 in
theorem RMessage_calls (t : TxD) (v : TxV) (hln : TxLn t) (i : Int) (w : World) (ht : TxAt w t v) : Gives Tryz.prog 12 [.agg (txC t v).toArray, .int .i64 i] (.tuple #[.agg (u8s (msgH t i)).toArray, .bool (decide (MsgP t i))]) w := by
  refine enter Tryz.func12 rfl (Mem.nil w []) rfl ?_
  have c0 : Knows Tryz.prog w 24 [.agg (txC t v).toArray] (.bool (decide (TxMay t))) := Knows.mk Tryz.func24 (fun w' hf => RMayTx_calls t v hln w' (ht.fr hf))
  obtain ⟨rk, _, ri, _, _, _, _, _, _, _, _, _, _⟩ := tx_rd t v
  have hFs : (txC t v).toArray.size = 170 := by rw [List.size_toArray, txC_len]
  generalize hF : txC t v = F at rk ri c0 hFs ⊢
  have hno : ¬ MsgP t i → ∀ w', Fr [] w w' → (Ending.returned (.tuple #[.agg (u8s (List.replicate 8 0)).toArray, .bool false]) = Ending.returned (.tuple #[.agg (u8s (msgH t i)).toArray, .bool (decide (MsgP t i))])) ∧ Fr [] w w' := fun h w' hf => ⟨by rw [show msgH t i = List.replicate 8 0 from if_neg h, decide_eq_false h], hf⟩
  have l1 := hln.1
  refine z_ ?_
  refine Run.nw nbx ?_
  intro b2
  refine z_ ?_
  refine Run.nw nal ?_
  intro b4
  by_cases h1 : t.kd ≠ 2
  · refine x_ ?_
    refine Run.op1 (osa (arr := (u8s (List.replicate 8 0)).toArray) (u8s (List.replicate 8 0)).toArray (u8s_one _)) (fun _ => ?_)
    refine x_ ?_
    exact RQ.ret2 rfl (Res.cellAll tabOk rfl rfl rfl m0 rfl) (Res.tmp rfl) fun w' hm' => hno (fun h => h1 h.1) w' hm'.fr
  have h1 := Decidable.not_not.1 h1
  by_cases hm : TxMay t
  rotate_left
  · rw [decide_eq_false hm] at c0
    refine x_ ?_
    refine Run.op1 (osa (arr := (u8s (List.replicate 8 0)).toArray) (u8s (List.replicate 8 0)).toArray (u8s_one _)) (fun _ => ?_)
    refine x_ ?_
    exact RQ.ret2 rfl (Res.cellAll tabOk rfl rfl rfl m0 rfl) (Res.tmp rfl) fun w' hm' => hno (fun h => hm h.2.2) w' hm'.fr
  rw [decide_eq_true hm] at c0
  by_cases h2 : i < 0
  · refine x_ ?_
    refine Run.op1 (osa (arr := (u8s (List.replicate 8 0)).toArray) (u8s (List.replicate 8 0)).toArray (u8s_one _)) (fun _ => ?_)
    refine x_ ?_
    exact RQ.ret2 rfl (Res.cellAll tabOk rfl rfl rfl m0 rfl) (Res.tmp rfl) fun w' hm' => hno (fun h => by have := h.2.1; omega) w' hm'.fr
  by_cases h3 : (t.is.length : Int) ≤ i
  · refine x_ ?_
    refine Run.op1 (osa (arr := (u8s (List.replicate 8 0)).toArray) (u8s (List.replicate 8 0)).toArray (u8s_one _)) (fun _ => ?_)
    refine x_ ?_
    exact RQ.ret2 rfl (Res.cellAll tabOk rfl rfl rfl m0 rfl) (Res.tmp rfl) fun w' hm' => hno (fun h => by have := h.2.1; omega) w' hm'.fr
  have hP : MsgP t i := ⟨h1, by omega, hm⟩
  have hd : msgH t i = digest 105 [t.bare.b, [i.toNat]] := if_pos hP
  rw [hd, decide_eq_true hP]
  have hM := ((TxMay.iff t).1 hm).m2 h1
  have h8 : t.is.length ≤ 8 := hM.1.2.2.2
  have h1l : 1 ≤ t.is.length := hM.1.2.2.1
  clear hno
  obtain ⟨n, rfl⟩ := Int.eq_ofNat_of_zero_le (show 0 ≤ i by omega)
  rw [Int.toNat_natCast]
  refine x_ ?_
  refine RC.up t.is.length (D := (Option Addr × Nat) × Hp) (fun k d => Own 60 298 (.slice d.1.1 k d.1.2) k (rws InD.c ((t.is.take k).map InD.bare)) d.2) (fun k d => [(7, .int .i64 k), (6, .slice d.1.1 k d.1.2), (4, .pointer (some ⟨b4, 0, none⟩)), (2, .pointer (some ⟨b2, 0, none⟩)), (1, .int .i64 (n : Nat))]) (fun _ d => d.2 ++ [(b4, Obj.cells ti31.zero.cells 31 (0, 0)), (b2, Obj.cells F.toArray 41 (0, 0))]) 0 ((none, 0), []) (Nat.zero_le _) Own.nil ⟨rfl, rfl, rfl, rfl, rfl, trivial⟩ (List.Sublist.refl _) ?_
  rintro k ⟨⟨wa, wc⟩, wl⟩ hk hown
  dsimp only at hown ⊢
  by_cases hk' : k < t.is.length
  · obtain ⟨p, hx⟩ : ∃ p, t.is[k]? = some p := ⟨_, List.getElem?_eq_getElem hk'⟩
    obtain ⟨ad, c', hv', hc', hcl, hr⟩ := ht.i.pos (by omega)
    rw [hv'] at ri
    have q0 : At w ((ad.add (k * 298)).add 0) p.pt := At.mk fun j u hj => by
      rw [add_add, add_add]
      refine hr _ u (rws_at InD.len hx (0 + j) u ?_)
      rw [Nat.zero_add, p.c_pt, List.getElem?_append_left (List.getElem?_eq_some_iff.1 hj).1]; exact hj
    have q9 : At w ((ad.add (k * 298)).add 9) (u8s p.key.1) := At.mk fun j u hj => by
      rw [add_add, add_add]
      refine hr _ u (rws_at InD.len hx (9 + j) u (mid_at (pre := p.pt) (post := p.s.c) p.c_pt p.pt_len j u hj))
    have hp9 : p.pt.length = ti58.size := p.pt_len
    have hk8 : (u8s p.key.1).length = ti31.size := by rw [u8s_len, p.key.2.1]; rfl
    have hbc : p.bare.c = p.pt ++ (u8s p.key.1 ++ SigD.nul.c) := p.bare.c_pt
    refine x_ ?_
    (repeat refine RC.seq ?_); refine RC.draw ([(b2, Obj.cells F.toArray 41 (0, 0))]) mixed (N := 17) rfl ?_
    refine dy 0 ?_
    refine dy 1 ?_
    refine dy 2 ?_
    refine dy 3 ?_
    refine DR.t 4 rfl (vixA) ?_
    refine DR.t 5 rfl (vfAA) ?_
    refine dy 6 ?_
    refine dy 7 ?_
    refine dy 8 ?_
    refine dy 9 ?_
    refine DR.t 10 rfl (vixA) ?_
    refine DR.t 11 rfl (vfAA) ?_
    refine dy 12 ?_
    refine DR.t 13 rfl (vbs (p.bare.c).toArray (hf := by exact fill_two' (F := p.bare.c) (a := 9) (b := 8) rfl rfl (show p.pt.toArray.size = 9 by rw [List.size_toArray, p.pt_len]) (show (u8s p.key.1).toArray.size = 8 by rw [List.size_toArray, u8s_len, p.key.2.1]) (by decide) hbc.symm)) ?_
    refine DR.c 14 ?_
    refine DOp.op1 rfl (OpTo.new rfl rfl (nbsl (p.bare.c).toArray (fillS_1 298 _ p.bare.c p.bare.len))) ?_
    intro b14
    refine DR.c 15 (DOp.op1 rfl (OpTo.append (L1 := (b14, Obj.cells (p.bare.c).toArray 60 (0, 0)) :: [(b4, Obj.cells ti31.zero.cells 31 (0, 0)), (b2, Obj.cells F.toArray 41 (0, 0))]) tabOk hown (Src.at ⟨b14, 0, none⟩ 1 1 (p.bare.c) (by rw [InD.len]; rfl) (Rd.rowAll m0)) rfl rfl rfl rfl rfl rfl rfl rfl rfl (perm_of fun f => by (simp only [List.map_append, List.map_cons, List.map_nil, List.sum_append, List.sum_cons, List.sum_nil] <;> omega)) (InD.one p.bare) (by unfold maxLen; omega) (by simp only [ti60]; omega)) ?_)
    rintro ⟨⟨v15, l15⟩, h15⟩
    dsimp only at h15 ⊢
    obtain ⟨wa2, wc2, rfl, hwc2⟩ := h15.shape
    refine dy 16 ?_
    refine DR.done (by kernel_rfl) ?_
    refine x_ ?_
    exact RQ.upP (k + 1) ((wa2, wc2), l15) (Nat.lt_succ_self _) hk' (by dsimp only; rw [List.take_add_one, hx, List.map_append, rws_app]; show Own _ _ _ _ (_ ++ rws InD.c [p.bare]) _; rw [rws_one]; exact h15) ⟨rfl, rfl, rfl, rfl, rfl, trivial⟩ (L1 := (l15 ++ [(b4, Obj.cells ti31.zero.cells 31 (0, 0)), (b2, Obj.cells F.toArray 41 (0, 0))]) ++ [(b14, Obj.cells (p.bare.c).toArray 60 (0, 0))]) (perm_of fun f => by (simp only [List.map_append, List.map_cons, List.map_nil, List.sum_append, List.sum_cons, List.sum_nil] <;> omega)) (List.sublist_append_left _ _)
  · have hkn : k = t.is.length := by omega
    subst hkn
    rw [List.take_length] at hown
    have hG : wrAt F.toArray 2 [.slice wa t.is.length wc] = (txC t (v.mI wa wc)).toArray := by rw [← hF]; rfl
    have hGs : (txC t (v.mI wa wc)).toArray.size = 170 := by rw [List.size_toArray, txC_len]
    have hEn : ∀ w', Fr [] w w' → Has wl w' → Turns Tryz.prog 36 [.agg (txC t (v.mI wa wc)).toArray] w' [] (Y := EncY t.bare) (fun y => .tuple #[y.1.1, .int .i64 (encE t.bare)]) (fun y => y.1.2) := fun w' hf hw => by
      have h0 := ht.fr hf
      have h := REncode_calls t.bare (v.mI wa wc) ⟨by show (t.is.map InD.bare).length ≤ 4096; rw [List.length_map]; exact l1, hln.2⟩ w' ⟨by
        show SrcW w' 298 (.slice wa (t.is.map InD.bare).length wc) (t.is.map InD.bare).length (rws InD.c (t.is.map InD.bare))
        rw [List.length_map]
        exact hown.srcW hw, h0.o, h0.f, h0.k, h0.a, h0.s⟩
      unfold EncT at h
      rw [txC_bare] at h
      exact h
    rw [show encE t.bare = 0 from if_pos (may_bare hm)] at hEn
    generalize txC t (v.mI wa wc) = G at hG hGs hEn ⊢
    refine x_ ?_
    refine Run.op1 (ostE (arr := F.toArray) (e := 41) (L' := wl ++ [(b4, Obj.cells ti31.zero.cells 31 (0, 0))]) G.toArray (hL := (perm_of fun f => by (simp only [List.map_append, List.map_cons, List.map_nil, List.sum_append, List.sum_cons, List.sum_nil] <;> omega))) (he := by exact hG) (hf := by rw [hFs]; decide) (h1 := by exact one_s _ _ _)) (fun _ => ?_)
    refine x_ ?_
    have hz0 : ((b2, Obj.cells G.toArray 41 (0, 0)) :: (wl ++ [(b4, Obj.cells ti31.zero.cells 31 (0, 0))]) : Hp).Perm ([] ++ ((b2, Obj.cells G.toArray 41 (0, 0)) :: (wl ++ [(b4, Obj.cells ti31.zero.cells 31 (0, 0))]))) := List.Perm.refl _
    refine Run.op1 (OpTo.callT Tryz.func36 hz0 (fun w' hm' => hEn w' hm'.fr (fun q hq => hm'.has q (List.mem_cons_of_mem _ (List.mem_append_left _ hq))))) ?_
    rintro ⟨⟨v12, l12⟩, h12⟩
    dsimp only at h12 ⊢
    rw [show encB t.bare = t.bare.b from if_pos (may_bare hm)] at h12
    have hbl := (may_bare hm).bl
    obtain ⟨a12, c12, rfl, hc12⟩ := h12.shape
    refine x_ ?_
    refine Run.nw (nbsk (parts := [(0, .tmp 62)]) #[.int .u8 (n : Nat)]) ?_
    intro b63
    refine x_ ?_
    refine Run.nw (nbsk (parts := [(0, .tmp 60), (1, .tmp 63)]) #[.slice a12 t.bare.b.length c12, .slice (some ⟨b63, 0, none⟩) 1 1]) ?_
    intro b64
    have hfinal : ∀ w', Mem w [] ((b64, Obj.cells #[.slice a12 t.bare.b.length c12, .slice (some ⟨b63, 0, none⟩) 1 1] 22 (0, 0)) :: ((b63, Obj.cells #[.int .u8 (n : Nat)] 5 (0, 0)) :: (l12 ++ ((b2, Obj.cells G.toArray 41 (0, 0)) :: (wl ++ [(b4, Obj.cells ti31.zero.cells 31 (0, 0))]))))) w' → Gives Tryz.prog 37 [.int .u8 105, .slice (some ⟨b64, 0, none⟩) 2 2] (.agg (u8s (digest 105 [t.bare.b, [n]])).toArray) w' := fun w' hm' => by
      refine Digest_calls 105 (by decide) _ [.slice a12 t.bare.b.length c12, .slice (some ⟨b63, 0, none⟩) 1 1] [t.bare.b, [n]] w' (SrcW.row hm' m0 rfl (Nat.le_refl 2)) (Parts.cons (h12.srcW (fun q hq => hm'.has q (List.mem_cons_of_mem _ (List.mem_cons_of_mem _ (List.mem_append_left _ hq))))) (Parts.cons (SrcW.row (cs := u8s [n]) hm' m1 rfl (Nat.le_refl 1)) Parts.nil)) ?_ ?_
      · show (([t.bare.b, [n]]).map fun l => 4 + l.length).sum ≤ _
        rw [List.map_cons, List.map_cons, List.sum_cons, List.sum_cons, List.map_nil, List.sum_nil]
        show 4 + t.bare.b.length + (4 + 1 + 0) ≤ _
        omega
      · intro l hl
        rcases List.mem_cons.1 hl with rfl | hl
        · exact bt_tx (may_bare hm)
        · rw [List.mem_singleton] at hl; subst hl
          intro x hx; rw [List.mem_singleton] at hx; subst hx; omega
    refine x_ ?_
    refine Run.op1 (OpTo.cv Tryz.func37 (fun w' hm' => hfinal w' hm')) (fun _ => ?_)
    refine x_ ?_
    refine Run.op1 (osa (arr := ti31.zero.cells) (e := 31) (L' := (b64, Obj.cells #[.slice a12 t.bare.b.length c12, .slice (some ⟨b63, 0, none⟩) 1 1] 22 (0, 0)) :: ((b63, Obj.cells #[.int .u8 (n : Nat)] 5 (0, 0)) :: (l12 ++ ((b2, Obj.cells G.toArray 41 (0, 0)) :: wl)))) (u8s (digest 105 [t.bare.b, [n]])).toArray (u8s_one _) (hL := (perm_of fun f => by (simp only [List.map_append, List.map_cons, List.map_nil, List.sum_append, List.sum_cons, List.sum_nil] <;> omega))) (hs := by rw [List.size_toArray, u8s_len, digest_len]; rfl)) (fun _ => ?_)
    refine x_ ?_
    exact RQ.ret2 rfl (Res.cellAll tabOk rfl rfl rfl m0 (by rw [List.size_toArray, u8s_len, digest_len]; rfl)) (Res.tmp rfl) fun w' hm' => ⟨rfl, hm'.fr⟩
end Go.Proofs.YtmajfapnbchecaaGreatDoor
