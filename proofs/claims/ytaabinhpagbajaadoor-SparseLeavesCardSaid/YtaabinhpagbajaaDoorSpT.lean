/- sparse: the reference's Leaf; SparseLeaves. -/
import Derived.Test.YtaabinhpagbajaaDoorSpS
set_option linter.unusedSimpArgs false
set_option linter.unusedVariables false
namespace Go.Proofs.YtaabinhpagbajaaDoor
attribute [local irreducible] Go.Vc.Run Go.Vc.RC Go.Vc.RQ Go.Vc.DR Go.Vc.DOp
open Go Go.Vc Go.Sha
theorem good_iff {i : Int} {o : List Nat} {am no : Int} : goodA i o am no ↔ o ≠ Z8 ∧ (0 ≤ i ∧ i < 65536) ∧ (0 ≤ am ∧ am < 72057594037927936) ∧ (0 ≤ no ∧ no < 256) := by
  unfold goodA
  rw [okN_iff, okN_iff, okN_iff]
  rfl
set_option maxRecDepth 10000 in set_option maxHeartbeats 4000000 in
theorem RLeaf_calls (i : Int) (o : List Nat) (ho : H8 o) (am no : Int) (w : World) :
    Gives Tryd.prog 22 [.int .i64 i, .agg (acC o am no).toArray] (.agg (u8s (leafV i o am no)).toArray) w := by
  refine enter Tryd.func22 rfl (Mem.nil w []) rfl ?_
  have hlo := ho.1
  obtain ⟨o0, o1, o2, o3, o4, o5, o6, o7, rfl⟩ := len8 hlo
  obtain ⟨O, hO⟩ : ∃ O, O = [o0, o1, o2, o3, o4, o5, o6, o7] := ⟨_, rfl⟩
  have hro : ∀ {L : Hp} {b : Nat}, (b, Obj.cells (acC [o0, o1, o2, o3, o4, o5, o6, o7] am no).toArray 51 (0, 0)) ∈ L → Rd w [] L ⟨b, 0, none⟩ (u8s O) := fun hm => Rd.row hm (fun j u hj => by
    rw [Nat.zero_add, List.getElem?_toArray]
    unfold acC
    rw [← hO, List.getElem?_append_left (List.getElem?_eq_some_iff.1 hj).1]
    exact hj)
  have sO : (u8s O).length = 8 := by rw [hO]; rfl
  have lO : O.length = 8 := by rw [hO]; rfl
  have bO : ∀ x ∈ O, x < 256 := by rw [hO]; exact ho.2
  have hlv : leafV i [o0, o1, o2, o3, o4, o5, o6, o7] am no = leafV i O am no := by rw [hO]
  rw [hlv]
  have hbad : ¬ (O ≠ Z8 ∧ (0 ≤ i ∧ i < 65536) ∧ (0 ≤ am ∧ am < 72057594037927936) ∧ (0 ≤ no ∧ no < 256)) → leafV i O am no = Z8 := fun h => if_neg (fun hg => h (good_iff.1 hg))
  have hgood : (O ≠ Z8 ∧ (0 ≤ i ∧ i < 65536) ∧ (0 ≤ am ∧ am < 72057594037927936) ∧ (0 ≤ no ∧ no < 256)) → leafV i O am no = digest 97 [le i.toNat 2, O, le am.toNat 7, le no.toNat 1] := fun h => if_pos (good_iff.2 h)
  generalize leafV i O am no = V at hbad hgood ⊢
  refine z_ ?_
  refine Run.nw (nbx) ?_
  intro b3
  refine Run.nw nal ?_
  intro b4
  refine z_ ?_
  rw [show (acC [o0, o1, o2, o3, o4, o5, o6, o7] am no).toArray.extract 0 (0 + ti29.size) = (u8s O).toArray from by rw [hO]; rfl]
  refine Run.op1 (OpTo.cv Tryd.func34 (fun w' _ => refZ_calls O lO w')) (fun _ => ?_)
  by_cases hzo : O = Z8
  · rw [show decide (O = List.replicate 8 0) = true from decide_eq_true hzo, hbad (fun h => h.1 hzo)]
    refine z_ ?_
    refine Run.a (vba (u8s Z8).toArray) ?_
    refine Run.op1 (osa (arr := ti29.zero.cells) (u8s Z8).toArray (u8s_one _)) (fun _ => ?_)
    refine z_ ?_
    exact RQ.ret1 rfl (Res.cellAll tabOk rfl rfl rfl m0 rfl) fun w' hm => ⟨rfl, hm.fr⟩
  rw [show decide (O = List.replicate 8 0) = false from decide_eq_false hzo]
  by_cases h1 : 0 ≤ i
  case neg =>
    rw [hbad (fun h => h1 h.2.1.1)]
    refine z_ ?_
    refine Run.a (vba (u8s Z8).toArray) ?_
    refine Run.op1 (osa (arr := ti29.zero.cells) (u8s Z8).toArray (u8s_one _)) (fun _ => ?_)
    refine z_ ?_
    exact RQ.ret1 rfl (Res.cellAll tabOk rfl rfl rfl m0 rfl) fun w' hm => ⟨rfl, hm.fr⟩
  by_cases h2 : i < 65536
  case neg =>
    rw [hbad (fun h => h2 h.2.1.2)]
    refine z_ ?_
    refine Run.a (vba (u8s Z8).toArray) ?_
    refine Run.op1 (osa (arr := ti29.zero.cells) (u8s Z8).toArray (u8s_one _)) (fun _ => ?_)
    refine z_ ?_
    exact RQ.ret1 rfl (Res.cellAll tabOk rfl rfl rfl m0 rfl) fun w' hm => ⟨rfl, hm.fr⟩
  by_cases h3 : 0 ≤ am
  case neg =>
    rw [hbad (fun h => h3 h.2.2.1.1)]
    refine z_ ?_
    refine Run.a (vba (u8s Z8).toArray) ?_
    refine Run.op1 (osa (arr := ti29.zero.cells) (u8s Z8).toArray (u8s_one _)) (fun _ => ?_)
    refine z_ ?_
    exact RQ.ret1 rfl (Res.cellAll tabOk rfl rfl rfl m0 rfl) fun w' hm => ⟨rfl, hm.fr⟩
  by_cases h4 : am < 72057594037927936
  case neg =>
    rw [hbad (fun h => h4 h.2.2.1.2)]
    refine z_ ?_
    refine Run.a (vba (u8s Z8).toArray) ?_
    refine Run.op1 (osa (arr := ti29.zero.cells) (u8s Z8).toArray (u8s_one _)) (fun _ => ?_)
    refine z_ ?_
    exact RQ.ret1 rfl (Res.cellAll tabOk rfl rfl rfl m0 rfl) fun w' hm => ⟨rfl, hm.fr⟩
  by_cases h5 : 0 ≤ no
  case neg =>
    rw [hbad (fun h => h5 h.2.2.2.1)]
    refine z_ ?_
    refine Run.a (vba (u8s Z8).toArray) ?_
    refine Run.op1 (osa (arr := ti29.zero.cells) (u8s Z8).toArray (u8s_one _)) (fun _ => ?_)
    refine z_ ?_
    exact RQ.ret1 rfl (Res.cellAll tabOk rfl rfl rfl m0 rfl) fun w' hm => ⟨rfl, hm.fr⟩
  by_cases h6 : no < 256
  case neg =>
    rw [hbad (fun h => h6 h.2.2.2.2)]
    refine z_ ?_
    refine Run.a (vba (u8s Z8).toArray) ?_
    refine Run.op1 (osa (arr := ti29.zero.cells) (u8s Z8).toArray (u8s_one _)) (fun _ => ?_)
    refine z_ ?_
    exact RQ.ret1 rfl (Res.cellAll tabOk rfl rfl rfl m0 rfl) fun w' hm => ⟨rfl, hm.fr⟩
  rw [hgood ⟨hzo, ⟨h1, h2⟩, ⟨h3, h4⟩, ⟨h5, h6⟩⟩]
  clear hbad hgood V
  refine z_ ?_
  obtain ⟨i, rfl⟩ := Int.eq_ofNat_of_zero_le h1
  obtain ⟨am, rfl⟩ := Int.eq_ofNat_of_zero_le h3
  obtain ⟨no, rfl⟩ := Int.eq_ofNat_of_zero_le h5
  rw [Int.toNat_natCast, Int.toNat_natCast, Int.toNat_natCast]
  have l1 := le_len i 2
  have l2 := le_len am 7
  have l3 := le_len no 1
  have b1 : ∀ x ∈ le i 2, x < 256 := by rw [← leI_nat]; exact leI_lt _ _
  have b2 : ∀ x ∈ le am 7, x < 256 := by rw [← leI_nat]; exact leI_lt _ _
  have b3' : ∀ x ∈ le no 1, x < 256 := by rw [← leI_nat]; exact leI_lt _ _
  have hd := digest_len 97 [le i 2, O, le am 7, le no 1]
  have sd : (u8s (digest 97 [le i 2, O, le am 7, le no 1])).toArray.size = 8 := by rw [List.size_toArray, u8s_len, hd]
  (repeat refine RC.seq ?_); refine RC.draw ([(b3, Obj.cells (acC [o0, o1, o2, o3, o4, o5, o6, o7] am no).toArray 51 (0, 0))]) mixed (N := 13) rfl ?_
  refine dt 0 ?_
  refine dt 2 ?_
  refine DR.t 3 rfl (Val.sliceA tabOk rfl rfl rfl rfl rfl) ?_
  refine dt 4 ?_
  refine DR.t 5 rfl (vl (.int .i64 am) (hm := (by repeat (first | exact List.mem_cons_self | apply List.mem_cons_of_mem | apply List.mem_append_right)))) ?_
  refine dt 7 ?_
  refine DR.t 8 rfl (vl (.int .i64 no) (hm := (by repeat (first | exact List.mem_cons_self | apply List.mem_cons_of_mem | apply List.mem_append_right)))) ?_
  refine DR.c 1 (DOp.op1 rfl (OpTo.callMk Tryd.func36 rfl rfl rfl rfl rfl rfl (fun w' hm => Num_calls i 2 (by decide) w')) ?_)
  rintro ⟨⟨v1, bl1⟩, hw1⟩
  dsimp only at hw1 ⊢
  refine DR.c 6 (DOp.op1 rfl (OpTo.callMk Tryd.func36 rfl rfl rfl rfl rfl rfl (fun w' hm => Num_calls am 7 (by decide) w')) ?_)
  rintro ⟨⟨v2, bl2⟩, hw2⟩
  dsimp only at hw2 ⊢
  refine DR.c 9 (DOp.op1 rfl (OpTo.callMk Tryd.func36 rfl rfl rfl rfl rfl rfl (fun w' hm => Num_calls no 1 (by decide) w')) ?_)
  rintro ⟨⟨v3, bl3⟩, hw3⟩
  dsimp only at hw3 ⊢
  obtain ⟨a1, k1, rfl, hk1⟩ := hw1.shape
  obtain ⟨a2, k2, rfl, hk2⟩ := hw2.shape
  obtain ⟨a3, k3, rfl, hk3⟩ := hw3.shape
  refine DR.c 10 ?_
  refine DOp.op1 rfl (OpTo.new rfl rfl (nbsl (parts := [(0, .tmp 38), (1, .tmp 40), (2, .tmp 43), (3, .tmp 46)]) #[.slice a1 2 k1, .slice (some ⟨b3, 0, none⟩) 8 8, .slice a2 7 k2, .slice a3 1 k3] (by kernel_rfl))) ?_
  intro b5
  refine DR.c 11 (DOp.op1 rfl (OpTo.cv Tryd.func35 (fun w' hm => Digest_calls 97 (by decide) _ [.slice a1 2 k1, .slice (some ⟨b3, 0, none⟩) 8 8, .slice a2 7 k2, .slice a3 1 k3] [le i 2, O, le am 7, le no 1] w' (SrcW.row hm m0 rfl (Nat.le_refl 4)) (parts4 (by rw [l1]; exact hw1.srcW (fun p hp => hm.has p (List.mem_cons_of_mem _ (List.mem_append_right _ (List.mem_append_right _ (List.mem_append_left _ hp)))))) (by rw [lO]; exact .at _ _ _ _ (by rw [sO]) (Nat.le_refl _) (fun j u hj => hro (by repeat (first | exact List.mem_cons_self | apply List.mem_cons_of_mem | apply List.mem_append_right)) w' hm j u hj)) (by rw [l2]; exact hw2.srcW (fun p hp => hm.has p (List.mem_cons_of_mem _ (List.mem_append_right _ (List.mem_append_left _ hp))))) (by rw [l3]; exact hw3.srcW (fun p hp => hm.has p (List.mem_cons_of_mem _ (List.mem_append_left _ hp))))) (by simp [tot, l1, l2, l3, lO]) (by intro l hl; simp only [List.mem_cons, List.not_mem_nil, or_false] at hl; rcases hl with rfl | rfl | rfl | rfl; exact b1; exact bO; exact b2; exact b3'))) (fun _ => ?_))
  refine DR.c 12 ?_
  refine DOp.op1 rfl (osa (L' := (b5, Obj.cells #[.slice a1 2 k1, .slice (some ⟨b3, 0, none⟩) 8 8, .slice a2 7 k2, .slice a3 1 k3] 65 (0, 0)) :: (bl3 ++ (bl2 ++ (bl1 ++ [(b3, Obj.cells (acC [o0, o1, o2, o3, o4, o5, o6, o7] am no).toArray 51 (0, 0))])))) (arr := ti29.zero.cells) (e := 29) (u8s (digest 97 [le i 2, O, le am 7, le no 1])).toArray (u8s_one _) (hL := (perm_of fun f => by (simp only [List.map_append, List.map_cons, List.map_nil, List.sum_append, List.sum_cons, List.sum_nil] <;> omega))) (hs := sd)) (fun _ => ?_)
  refine DR.done (by kernel_rfl) ?_
  refine z_ ?_
  exact RQ.ret1 rfl (Res.cellAll tabOk rfl rfl rfl m0 sd) fun w' hm => ⟨rfl, hm.fr⟩
set_option maxRecDepth 10000 in set_option maxHeartbeats 4000000 in
theorem SparseLeaves_calls (i : Int) (o : List Nat) (ho : H8 o) (am no : Int) (w : World) (hK : Laid w) :
    Gives Tryd.prog 7 [.int .i64 i, .agg (acC o am no).toArray] (.bool true) w := by
  refine enter Tryd.func7 rfl (Mem.nil w []) rfl ?_
  have hlo := ho.1
  have c1 := fun w' hK' => TLeaf_calls i o ho am no w' hK'
  have c2 := fun w' => RLeaf_calls i o ho am no w'
  have h8 := leafV_8 i o am no
  have hzz : o = Z8 → leafV i o am no = Z8 := fun h => if_neg (fun hg => hg.1 h)
  generalize leafV i o am no = V at c1 c2 h8 hzz
  have hsa : (acC o am no).toArray.size = 10 := by unfold acC; rw [List.size_toArray, List.length_append, u8s_len, hlo]; rfl
  have sO : (u8s o).length = 8 := by rw [u8s_len, hlo]
  have hro : ∀ {L : Hp} {b : Nat}, (b, Obj.cells (acC o am no).toArray 51 (0, 0)) ∈ L → Rd w [] L ⟨b, 0, none⟩ (u8s o) := fun hm => Rd.row hm (fun j u hj => by
    rw [Nat.zero_add, List.getElem?_toArray]
    unfold acC
    rw [List.getElem?_append_left (List.getElem?_eq_some_iff.1 hj).1]
    exact hj)
  refine z_ ?_
  refine Run.nw (nbx) ?_
  intro b3
  refine z_ ?_
  refine Run.op1 (OpTo.cv Tryd.func8 (fun w' hm => awake_calls w' (hK.fr hm.fr (by simp)))) (fun _ => ?_)
  refine z_ ?_
  (repeat refine RC.seq ?_); refine RC.drawS mixed (N := 21) rfl ?_
  refine dt 0 ?_
  refine DR.t 1 rfl (vla (arr := (acC o am no).toArray) (hv := hsa)) ?_
  refine dt 3 ?_
  refine DR.t 4 rfl (vla (arr := (acC o am no).toArray) (hv := hsa)) ?_
  refine DR.c 2 (DOp.op1 rfl (OpTo.cv Tryd.func21 (fun w' hm => c1 w' (hK.fr hm.fr (by simp)))) (fun _ => ?_))
  refine DR.c 5 (DOp.op1 rfl (OpTo.cv Tryd.func22 (fun w' hm => c2 w')) (fun _ => ?_))
  refine DR.t 6 rfl (Val.eq (Val.eqU (m := 8) (a := V) (b := V) tabOk rfl rfl rfl (by kernel_rfl) (by kernel_rfl) rfl rfl h8.1 h8.1) (show _ = Value.bool true from by simp)) ?_
  refine dt 7 ?_
  refine dt 8 ?_
  refine DR.t 9 rfl (Val.loadR tabOk (cs := u8s o) rfl rfl rfl rfl sO (hro (by repeat (first | exact List.mem_cons_self | apply List.mem_cons_of_mem | apply List.mem_append_right)))) ?_
  refine DR.t 10 rfl (vba (u8s Z8).toArray) ?_
  by_cases hzo : o = Z8
  · rw [hzz hzo] at h8 ⊢
    refine DR.t 11 rfl (Val.eq (Val.neU (m := 8) (a := o) (b := Z8) tabOk rfl rfl rfl (by kernel_rfl) (by kernel_rfl) rfl rfl hlo rfl) (show _ = Value.bool false from by simp [hzo])) ?_
    refine dt 12 ?_
    refine dt 13 ?_
    refine DR.t 14 rfl (vla (arr := (acC o am no).toArray) (hv := hsa)) ?_
    refine DR.t 16 rfl (vba (u8s Z8).toArray) ?_
    refine DR.c 15 (DOp.op1 rfl (OpTo.cv Tryd.func21 (fun w' hm => c1 w' (hK.fr hm.fr (by simp)))) (fun _ => ?_))
    rw [hzz hzo]
    refine DR.t 17 rfl (Val.eq (Val.eqU (m := 8) (a := Z8) (b := Z8) tabOk rfl rfl rfl (by kernel_rfl) (by kernel_rfl) rfl rfl rfl rfl) (show _ = Value.bool true from by simp)) ?_
    refine dt 18 ?_
    refine dt 19 ?_
    refine dt 20 ?_
    refine DR.done (by kernel_rfl) ?_
    refine z_ ?_
    exact RQ.ret1 rfl (Res.tmp rfl) fun w' hm => ⟨rfl, hm.fr⟩
  · refine DR.t 11 rfl (Val.eq (Val.neU (m := 8) (a := o) (b := Z8) tabOk rfl rfl rfl (by kernel_rfl) (by kernel_rfl) rfl rfl hlo rfl) (show _ = Value.bool true from by simp [hzo])) ?_
    refine dt 12 ?_
    refine DR.p 13 rfl ?_
    refine DR.p 14 rfl ?_
    refine DR.p 16 rfl ?_
    refine DR.cp 15 rfl ?_
    refine DR.p 17 rfl ?_
    refine dt 18 ?_
    refine dt 19 ?_
    refine dt 20 ?_
    refine DR.done (by kernel_rfl) ?_
    refine z_ ?_
    exact RQ.ret1 rfl (Res.tmp rfl) fun w' hm => ⟨rfl, hm.fr⟩
end Go.Proofs.YtaabinhpagbajaaDoor
