/- Lemmas. -/
import Derived.Test.YtfoeakgnkfcbjaaGreatDoorPt24
set_option linter.unusedSimpArgs false
set_option linter.unusedVariables false
section
/- tx: the reader: parameters, certificates (gen_ty2.py prints it). -/
namespace Go.Proofs.YtfoeakgnkfcbjaaGreatDoor
attribute [local irreducible] Go.Vc.Run Go.Vc.RC Go.Vc.RQ Go.Vc.DR Go.Vc.DOp Go.Vc.Knows Go.Vc.At
set_option maxHeartbeats 400000
set_option maxRecDepth 10000
open Go Go.Vc Go.Sha
/-- Parameters of one's own. -/
abbrev PrY (p : PrD) := {q : (Option Addr × Nat) × Hp // Own 23 8 (.slice q.1.1 p.ks.length q.1.2) p.ks.length (rws hsC p.ks) q.2}
/-- A certificate of one's own. -/
abbrev CeY (c : CeD) := {q : ((Option Addr × Nat) × (Option Addr × Nat)) × (Hp × Hp) // Own 164 9 (.slice q.1.1.1 c.os.length q.1.1.2) c.os.length (rws OutD.c c.os) q.2.1 ∧ Own 188 282 (.slice q.1.2.1 c.sg.length q.1.2.2) c.sg.length (rws SgD.c c.sg) q.2.2}
theorem one_s (a : Option Addr) (n c : Nat) : ∀ u ∈ (Value.slice a n c).cells.toList, u.oneCell' = true := by
  intro u hu
  simp only [Value.cells, List.mem_cons, List.not_mem_nil, or_false] at hu
  subst hu; rfl
theorem rdPr (rb : Nat) (a : Option Addr) (l r : List Nat) (hr : r <:+ l) : RdsC 121 [.agg #[.pointer (some ⟨rb, 0, none⟩)]] rb a l r [] (pPr r) (PrY) (fun p y => .agg (prC p (.slice y.1.1.1 p.ks.length y.1.1.2)).toArray) (fun _ y => y.1.2) := by
  intro w hI hw hnd
  refine enter Tryz.func121 rfl (Mem.init (S0 := rb :: ([] : Hp).map (·.1)) hw (fun p hp => List.mem_map_of_mem hp) hnd) rfl ?_
  have hbl := hI.bt
  refine z_ ?_
  refine Run.nw nbx ?_
  intro b1
  refine x_ ?_
  refine Run.nw nal ?_
  intro b2
  refine x_ ?_
  have hp1 : ((b2, Obj.cells ti54.zero.cells 54 (0, 0)) :: ((b1, Obj.cells #[.pointer (some ⟨rb, 0, none⟩)] 131 (0, 0)) :: ((rb, RdS a l r) :: [])) : Hp).Perm (((rb, RdS a l r) :: []) ++ (b2, Obj.cells ti54.zero.cells 54 (0, 0)) :: ((b1, Obj.cells #[.pointer (some ⟨rb, 0, none⟩)] 131 (0, 0)) :: [])) := (perm_of fun f => by (simp only [List.map_append, List.map_cons, List.map_nil, List.sum_append, List.sum_cons, List.sum_nil] <;> omega))
  rcases h1 : pN 1 r with _ | ⟨x1, r1⟩
  · refine Run.op1 (callRn Tryz.func44 (rdNum 1 (by decide) rb a l r hr) hI hp1 h1 (fun k hk => ?_)) (fun y => y.elim)
    repeat first | refine RQ.thenPanic ?_ | refine RQ.blockPanic ?_
    exact RQ.panR (by simp [pPr, pMap, pAnd, h1]) hk
  have hr1 := (good_N 1).sfx hbl hr h1
  refine Run.op1 (callRs Tryz.func44 (rdNum 1 (by decide) rb a l r hr) hI hp1 h1) (fun _ => ?_)
  dsimp only [List.append_nil, List.cons_append, List.nil_append]
  refine x_ ?_
  refine Run.a (vbs (prC ⟨x1, 0, 0, []⟩ (.slice none 0 0)).toArray) ?_
  refine x_ ?_
  refine Run.nw nal ?_
  intro b3
  refine x_ ?_
  refine Run.op1 (osa (arr := ti54.zero.cells) (e := 54) (L' := (rb, RdS a l r1) :: ((b2, Obj.cells ti54.zero.cells 54 (0, 0)) :: ((b1, Obj.cells #[.pointer (some ⟨rb, 0, none⟩)] 131 (0, 0)) :: []))) (prC ⟨x1, 0, 0, []⟩ (.slice none 0 0)).toArray (prC_one _ _ _ _) (hL := (perm_of fun f => by (simp only [List.map_append, List.map_cons, List.map_nil, List.sum_append, List.sum_cons, List.sum_nil] <;> omega)))) (fun _ => ?_)
  refine x_ ?_
  have hp2 : ((b3, Obj.cells (prC ⟨x1, 0, 0, []⟩ (.slice none 0 0)).toArray 54 (0, 0)) :: ((rb, RdS a l r1) :: ((b2, Obj.cells ti54.zero.cells 54 (0, 0)) :: ((b1, Obj.cells #[.pointer (some ⟨rb, 0, none⟩)] 131 (0, 0)) :: []))) : Hp).Perm (((rb, RdS a l r1) :: []) ++ (b3, Obj.cells (prC ⟨x1, 0, 0, []⟩ (.slice none 0 0)).toArray 54 (0, 0)) :: ((b2, Obj.cells ti54.zero.cells 54 (0, 0)) :: ((b1, Obj.cells #[.pointer (some ⟨rb, 0, none⟩)] 131 (0, 0)) :: []))) := (perm_of fun f => by (simp only [List.map_append, List.map_cons, List.map_nil, List.sum_append, List.sum_cons, List.sum_nil] <;> omega))
  rcases h2 : pN 1 r1 with _ | ⟨x2, r2⟩
  · refine Run.op1 (callRn Tryz.func44 (rdNum 1 (by decide) rb a l r1 hr1) hI hp2 h2 (fun k hk => ?_)) (fun y => y.elim)
    repeat first | refine RQ.thenPanic ?_ | refine RQ.blockPanic ?_
    exact RQ.panR (by simp [pPr, pMap, pAnd, h1, h2]) hk
  have hr2 := (good_N 1).sfx hbl hr1 h2
  refine Run.op1 (callRs Tryz.func44 (rdNum 1 (by decide) rb a l r1 hr1) hI hp2 h2) (fun _ => ?_)
  dsimp only [List.append_nil, List.cons_append, List.nil_append]
  refine x_ ?_
  refine Run.op1 (ostE (arr := (prC ⟨x1, 0, 0, []⟩ (.slice none 0 0)).toArray) (e := 54) (L' := (rb, RdS a l r2) :: ((b2, Obj.cells ti54.zero.cells 54 (0, 0)) :: ((b1, Obj.cells #[.pointer (some ⟨rb, 0, none⟩)] 131 (0, 0)) :: []))) (prC ⟨x1, x2, 0, []⟩ (.slice none 0 0)).toArray (hL := (perm_of fun f => by (simp only [List.map_append, List.map_cons, List.map_nil, List.sum_append, List.sum_cons, List.sum_nil] <;> omega))) (he := by rfl) (hf := by exact Nat.le_of_ble_eq_true rfl) (h1 := by exact one_i _ _)) (fun _ => ?_)
  refine x_ ?_
  have hp3 : ((b3, Obj.cells (prC ⟨x1, x2, 0, []⟩ (.slice none 0 0)).toArray 54 (0, 0)) :: ((rb, RdS a l r2) :: ((b2, Obj.cells ti54.zero.cells 54 (0, 0)) :: ((b1, Obj.cells #[.pointer (some ⟨rb, 0, none⟩)] 131 (0, 0)) :: []))) : Hp).Perm (((rb, RdS a l r2) :: []) ++ (b3, Obj.cells (prC ⟨x1, x2, 0, []⟩ (.slice none 0 0)).toArray 54 (0, 0)) :: ((b2, Obj.cells ti54.zero.cells 54 (0, 0)) :: ((b1, Obj.cells #[.pointer (some ⟨rb, 0, none⟩)] 131 (0, 0)) :: []))) := (perm_of fun f => by (simp only [List.map_append, List.map_cons, List.map_nil, List.sum_append, List.sum_cons, List.sum_nil] <;> omega))
  rcases h3 : pN 1 r2 with _ | ⟨x3, r3⟩
  · refine Run.op1 (callRn Tryz.func44 (rdNum 1 (by decide) rb a l r2 hr2) hI hp3 h3 (fun k hk => ?_)) (fun y => y.elim)
    repeat first | refine RQ.thenPanic ?_ | refine RQ.blockPanic ?_
    exact RQ.panR (by simp [pPr, pMap, pAnd, h1, h2, h3]) hk
  have hr3 := (good_N 1).sfx hbl hr2 h3
  refine Run.op1 (callRs Tryz.func44 (rdNum 1 (by decide) rb a l r2 hr2) hI hp3 h3) (fun _ => ?_)
  dsimp only [List.append_nil, List.cons_append, List.nil_append]
  refine x_ ?_
  refine Run.op1 (ostE (arr := (prC ⟨x1, x2, 0, []⟩ (.slice none 0 0)).toArray) (e := 54) (L' := (rb, RdS a l r3) :: ((b2, Obj.cells ti54.zero.cells 54 (0, 0)) :: ((b1, Obj.cells #[.pointer (some ⟨rb, 0, none⟩)] 131 (0, 0)) :: []))) (prC ⟨x1, x2, x3, []⟩ (.slice none 0 0)).toArray (hL := (perm_of fun f => by (simp only [List.map_append, List.map_cons, List.map_nil, List.sum_append, List.sum_cons, List.sum_nil] <;> omega))) (he := by rfl) (hf := by exact Nat.le_of_ble_eq_true rfl) (h1 := by exact one_i _ _)) (fun _ => ?_)
  refine x_ ?_
  refine Run.a (Val.mkFn (fs := [.tmp 18]) (cs := [])) ?_
  have hp4 : ((b3, Obj.cells (prC ⟨x1, x2, x3, []⟩ (.slice none 0 0)).toArray 54 (0, 0)) :: ((rb, RdS a l r3) :: ((b2, Obj.cells ti54.zero.cells 54 (0, 0)) :: ((b1, Obj.cells #[.pointer (some ⟨rb, 0, none⟩)] 131 (0, 0)) :: []))) : Hp).Perm (((rb, RdS a l r3) :: []) ++ (b3, Obj.cells (prC ⟨x1, x2, x3, []⟩ (.slice none 0 0)).toArray 54 (0, 0)) :: ((b2, Obj.cells ti54.zero.cells 54 (0, 0)) :: ((b1, Obj.cells #[.pointer (some ⟨rb, 0, none⟩)] 131 (0, 0)) :: []))) := (perm_of fun f => by (simp only [List.map_append, List.map_cons, List.map_nil, List.sum_append, List.sum_cons, List.sum_nil] <;> omega))
  rcases h4 : pRow (pB 8) r3 with _ | ⟨x4, r4⟩
  · refine Run.op1 (callRn Tryz.func151 (rdListH rb a l r3 hr3) hI hp4 h4 (fun k hk => ?_)) (fun y => y.elim)
    repeat first | refine RQ.thenPanic ?_ | refine RQ.blockPanic ?_
    exact RQ.panR (by simp [pPr, pMap, pAnd, h1, h2, h3, h4]) hk
  have hr4 := ((good_B 8).row fun y _ => bt_by y).sfx hbl hr3 h4
  refine Run.op1 (callRs Tryz.func151 (rdListH rb a l r3 hr3) hI hp4 h4) (fun y4 => ?_)
  dsimp only [List.append_nil, List.cons_append, List.nil_append]
  obtain ⟨⟨v4, l4⟩, o4⟩ := y4
  dsimp only at o4 ⊢
  obtain ⟨a4, c4, rfl, hc4⟩ := o4.shape
  refine x_ ?_
  refine Run.op1 (ostE (arr := (prC ⟨x1, x2, x3, []⟩ (.slice none 0 0)).toArray) (e := 54) (L' := (rb, RdS a l r4) :: (l4 ++ ((b2, Obj.cells ti54.zero.cells 54 (0, 0)) :: ((b1, Obj.cells #[.pointer (some ⟨rb, 0, none⟩)] 131 (0, 0)) :: [])))) (prC ⟨x1, x2, x3, x4⟩ (.slice a4 x4.length c4)).toArray (hL := (perm_of fun f => by (simp only [List.map_append, List.map_cons, List.map_nil, List.sum_append, List.sum_cons, List.sum_nil] <;> omega))) (he := by rfl) (hf := by exact Nat.le_of_ble_eq_true rfl) (h1 := by exact one_s _ _ _)) (fun _ => ?_)
  have hsz : (prC ⟨x1, x2, x3, x4⟩ (.slice a4 x4.length c4)).toArray.size = 4 := rfl
  refine x_ ?_
  refine Run.op1 (osa (arr := ti54.zero.cells) (e := 54) (L' := (b3, Obj.cells (prC ⟨x1, x2, x3, x4⟩ (.slice a4 x4.length c4)).toArray 54 (0, 0)) :: ((rb, RdS a l r4) :: (l4 ++ ((b1, Obj.cells #[.pointer (some ⟨rb, 0, none⟩)] 131 (0, 0)) :: [])))) (prC ⟨x1, x2, x3, x4⟩ (.slice a4 x4.length c4)).toArray (prC_one _ _ _ _) (hL := (perm_of fun f => by (simp only [List.map_append, List.map_cons, List.map_nil, List.sum_append, List.sum_cons, List.sum_nil] <;> omega)))) (fun _ => ?_)
  refine x_ ?_
  exact RQ.ret1 rfl (Res.cellAll tabOk rfl rfl rfl m0 hsz) fun w' hm => RdsQ.fin (r' := r4) (Y := PrY) (V := fun p y => .agg (prC p (.slice y.1.1.1 p.ks.length y.1.1.2)).toArray) (L' := fun _ y => y.1.2) (show pPr r = some (⟨x1, x2, x3, x4⟩, r4) from by simp [pPr, pMap, pAnd, h1, h2, h3, h4]) ⟨((a4, c4), l4), o4⟩ hm (Lr := (b2, Obj.cells (prC ⟨x1, x2, x3, x4⟩ (.slice a4 x4.length c4)).toArray 54 (0, 0)) :: ((b3, Obj.cells (prC ⟨x1, x2, x3, x4⟩ (.slice a4 x4.length c4)).toArray 54 (0, 0)) :: ((b1, Obj.cells #[.pointer (some ⟨rb, 0, none⟩)] 131 (0, 0)) :: []))) (perm_of fun f => by (simp only [List.map_append, List.map_cons, List.map_nil, List.sum_append, List.sum_cons, List.sum_nil] <;> omega))
def ceK (sd ep ql : Int) (en ro : By 8) (u v : Value) : List Value := ceC ⟨sd, ep, ql, en, ro, [], []⟩ u v
theorem ceK_len (sd ep ql : Int) (en ro : By 8) (u v : Value) : (ceK sd ep ql en ro u v).length = 21 := ceC_len _ _ _
theorem ceK_one (sd ep ql : Int) (en ro : By 8) (a : Option Addr) (n c : Nat) (a' : Option Addr) (n' c' : Nat) : ∀ u ∈ ceK sd ep ql en ro (.slice a n c) (.slice a' n' c'), u.oneCell' = true := ceC_one _ _ _ _ _ _ _
theorem ce_w1 (sd ep ql : Int) (en ro : By 8) (u v : Value) (b : Int) : wrAt (ceK sd ep ql en ro u v).toArray 1 [.int .i64 b] = (ceK sd b ql en ro u v).toArray := wr_at' (pre := [.int .i64 sd]) (old := [.int .i64 ep]) (post := .int .i64 ql :: (u8s en.1 ++ (u8s ro.1 ++ [u, v]))) rfl rfl rfl rfl
theorem ce_w2 (sd ep ql : Int) (en ro : By 8) (u v : Value) (b : Int) : wrAt (ceK sd ep ql en ro u v).toArray 2 [.int .i64 b] = (ceK sd ep b en ro u v).toArray := wr_at' (pre := [.int .i64 sd, .int .i64 ep]) (old := [.int .i64 ql]) (post := (u8s en.1 ++ (u8s ro.1 ++ [u, v]))) rfl rfl rfl rfl
theorem ce_w3 (sd ep ql : Int) (en ro : By 8) (u v : Value) (b : By 8) : wrAt (ceK sd ep ql en ro u v).toArray 3 (u8s b.1) = (ceK sd ep ql b ro u v).toArray := wr_at' (pre := [.int .i64 sd, .int .i64 ep, .int .i64 ql]) (old := u8s en.1) (post := u8s ro.1 ++ [u, v]) rfl rfl (by rw [u8s_len, u8s_len, en.2.1, b.2.1]) rfl
theorem ce_w11 (sd ep ql : Int) (en ro : By 8) (u v : Value) (b : By 8) : wrAt (ceK sd ep ql en ro u v).toArray 11 (u8s b.1) = (ceK sd ep ql en b u v).toArray := wr_at' (pre := .int .i64 sd :: .int .i64 ep :: .int .i64 ql :: u8s en.1) (old := u8s ro.1) (post := [u, v]) rfl rfl (by rw [u8s_len, u8s_len, ro.2.1, b.2.1]) (by simp only [List.length_cons, u8s_len, en.2.1])
theorem ce_w19 (sd ep ql : Int) (en ro : By 8) (u v b : Value) : wrAt (ceK sd ep ql en ro u v).toArray 19 [b] = (ceK sd ep ql en ro b v).toArray := wr_at' (pre := .int .i64 sd :: .int .i64 ep :: .int .i64 ql :: (u8s en.1 ++ u8s ro.1)) (old := [u]) (post := [v]) (by unfold ceK ceC; simp only [List.cons_append, List.append_assoc, List.nil_append]) (by unfold ceK ceC; simp only [List.cons_append, List.append_assoc, List.nil_append]) rfl (by simp only [List.length_cons, List.length_append, u8s_len, en.2.1, ro.2.1])
theorem ce_w20 (sd ep ql : Int) (en ro : By 8) (u v b : Value) : wrAt (ceK sd ep ql en ro u v).toArray 20 [b] = (ceK sd ep ql en ro u b).toArray := wr_at' (pre := .int .i64 sd :: .int .i64 ep :: .int .i64 ql :: (u8s en.1 ++ (u8s ro.1 ++ [u]))) (old := [v]) (post := []) (by unfold ceK ceC; simp only [List.cons_append, List.append_assoc, List.nil_append, List.append_nil]) (by unfold ceK ceC; simp only [List.cons_append, List.append_assoc, List.nil_append, List.append_nil]) rfl (by simp only [List.length_cons, List.length_append, List.length_nil, u8s_len, en.2.1, ro.2.1])
theorem rdCe (rb : Nat) (a : Option Addr) (l r : List Nat) (hr : r <:+ l) : RdsC 122 [.agg #[.pointer (some ⟨rb, 0, none⟩)]] rb a l r [] (pCe r) (CeY) (fun c y => .agg (ceC c (.slice y.1.1.1.1 c.os.length y.1.1.1.2) (.slice y.1.1.2.1 c.sg.length y.1.1.2.2)).toArray) (fun _ y => y.1.2.1 ++ y.1.2.2) := by
  intro w hI hw hnd
  refine enter Tryz.func122 rfl (Mem.init (S0 := rb :: ([] : Hp).map (·.1)) hw (fun p hp => List.mem_map_of_mem hp) hnd) rfl ?_
  have hbl := hI.bt
  refine z_ ?_
  refine Run.nw nbx ?_
  intro b1
  refine x_ ?_
  refine Run.nw nal ?_
  intro b2
  refine x_ ?_
  have hp1 : ((b2, Obj.cells ti57.zero.cells 57 (0, 0)) :: ((b1, Obj.cells #[.pointer (some ⟨rb, 0, none⟩)] 131 (0, 0)) :: ((rb, RdS a l r) :: [])) : Hp).Perm (((rb, RdS a l r) :: []) ++ (b2, Obj.cells ti57.zero.cells 57 (0, 0)) :: ((b1, Obj.cells #[.pointer (some ⟨rb, 0, none⟩)] 131 (0, 0)) :: [])) := (perm_of fun f => by (simp only [List.map_append, List.map_cons, List.map_nil, List.sum_append, List.sum_cons, List.sum_nil] <;> omega))
  rcases h1 : pN 1 r with _ | ⟨x1, r1⟩
  · refine Run.op1 (callRn Tryz.func44 (rdNum 1 (by decide) rb a l r hr) hI hp1 h1 (fun k hk => ?_)) (fun y => y.elim)
    repeat first | refine RQ.thenPanic ?_ | refine RQ.blockPanic ?_
    exact RQ.panR (by simp [pCe, pMap, pAnd, h1]) hk
  have hr1 := (good_N 1).sfx hbl hr h1
  refine Run.op1 (callRs Tryz.func44 (rdNum 1 (by decide) rb a l r hr) hI hp1 h1) (fun _ => ?_)
  dsimp only [List.append_nil, List.cons_append, List.nil_append]
  refine x_ ?_
  refine Run.a (vbs (ceK x1 0 0 (By.z 8) (By.z 8) (.slice none 0 0) (.slice none 0 0)).toArray) ?_
  refine x_ ?_
  refine Run.nw nal ?_
  intro b3
  refine x_ ?_
  refine Run.op1 (osa (arr := ti57.zero.cells) (e := 57) (L' := (rb, RdS a l r1) :: ((b2, Obj.cells ti57.zero.cells 57 (0, 0)) :: ((b1, Obj.cells #[.pointer (some ⟨rb, 0, none⟩)] 131 (0, 0)) :: []))) (ceK x1 0 0 (By.z 8) (By.z 8) (.slice none 0 0) (.slice none 0 0)).toArray (ceK_one _ _ _ _ _ _ _ _ _ _ _) (hL := (perm_of fun f => by (simp only [List.map_append, List.map_cons, List.map_nil, List.sum_append, List.sum_cons, List.sum_nil] <;> omega)))) (fun _ => ?_)
  refine x_ ?_
  have hp2 : ((b3, Obj.cells (ceK x1 0 0 (By.z 8) (By.z 8) (.slice none 0 0) (.slice none 0 0)).toArray 57 (0, 0)) :: ((rb, RdS a l r1) :: ((b2, Obj.cells ti57.zero.cells 57 (0, 0)) :: ((b1, Obj.cells #[.pointer (some ⟨rb, 0, none⟩)] 131 (0, 0)) :: []))) : Hp).Perm (((rb, RdS a l r1) :: []) ++ (b3, Obj.cells (ceK x1 0 0 (By.z 8) (By.z 8) (.slice none 0 0) (.slice none 0 0)).toArray 57 (0, 0)) :: ((b2, Obj.cells ti57.zero.cells 57 (0, 0)) :: ((b1, Obj.cells #[.pointer (some ⟨rb, 0, none⟩)] 131 (0, 0)) :: []))) := (perm_of fun f => by (simp only [List.map_append, List.map_cons, List.map_nil, List.sum_append, List.sum_cons, List.sum_nil] <;> omega))
  rcases h2 : pN 4 r1 with _ | ⟨x2, r2⟩
  · refine Run.op1 (callRn Tryz.func44 (rdNum 4 (by decide) rb a l r1 hr1) hI hp2 h2 (fun k hk => ?_)) (fun y => y.elim)
    repeat first | refine RQ.thenPanic ?_ | refine RQ.blockPanic ?_
    exact RQ.panR (by simp [pCe, pMap, pAnd, h1, h2]) hk
  have hr2 := (good_N 4).sfx hbl hr1 h2
  refine Run.op1 (callRs Tryz.func44 (rdNum 4 (by decide) rb a l r1 hr1) hI hp2 h2) (fun _ => ?_)
  dsimp only [List.append_nil, List.cons_append, List.nil_append]
  refine x_ ?_
  refine Run.op1 (ostE (arr := (ceK x1 0 0 (By.z 8) (By.z 8) (.slice none 0 0) (.slice none 0 0)).toArray) (e := 57) (L' := (rb, RdS a l r2) :: ((b2, Obj.cells ti57.zero.cells 57 (0, 0)) :: ((b1, Obj.cells #[.pointer (some ⟨rb, 0, none⟩)] 131 (0, 0)) :: []))) (ceK x1 x2 0 (By.z 8) (By.z 8) (.slice none 0 0) (.slice none 0 0)).toArray (hL := (perm_of fun f => by (simp only [List.map_append, List.map_cons, List.map_nil, List.sum_append, List.sum_cons, List.sum_nil] <;> omega))) (he := by exact ce_w1 _ _ _ _ _ _ _ _) (hf := by rw [List.size_toArray, ceK_len]; decide) (h1 := by exact one_i _ _)) (fun _ => ?_)
  refine x_ ?_
  have hp3 : ((b3, Obj.cells (ceK x1 x2 0 (By.z 8) (By.z 8) (.slice none 0 0) (.slice none 0 0)).toArray 57 (0, 0)) :: ((rb, RdS a l r2) :: ((b2, Obj.cells ti57.zero.cells 57 (0, 0)) :: ((b1, Obj.cells #[.pointer (some ⟨rb, 0, none⟩)] 131 (0, 0)) :: []))) : Hp).Perm (((rb, RdS a l r2) :: []) ++ (b3, Obj.cells (ceK x1 x2 0 (By.z 8) (By.z 8) (.slice none 0 0) (.slice none 0 0)).toArray 57 (0, 0)) :: ((b2, Obj.cells ti57.zero.cells 57 (0, 0)) :: ((b1, Obj.cells #[.pointer (some ⟨rb, 0, none⟩)] 131 (0, 0)) :: []))) := (perm_of fun f => by (simp only [List.map_append, List.map_cons, List.map_nil, List.sum_append, List.sum_cons, List.sum_nil] <;> omega))
  rcases h3 : pN 4 r2 with _ | ⟨x3, r3⟩
  · refine Run.op1 (callRn Tryz.func44 (rdNum 4 (by decide) rb a l r2 hr2) hI hp3 h3 (fun k hk => ?_)) (fun y => y.elim)
    repeat first | refine RQ.thenPanic ?_ | refine RQ.blockPanic ?_
    exact RQ.panR (by simp [pCe, pMap, pAnd, h1, h2, h3]) hk
  have hr3 := (good_N 4).sfx hbl hr2 h3
  refine Run.op1 (callRs Tryz.func44 (rdNum 4 (by decide) rb a l r2 hr2) hI hp3 h3) (fun _ => ?_)
  dsimp only [List.append_nil, List.cons_append, List.nil_append]
  refine x_ ?_
  refine Run.op1 (ostE (arr := (ceK x1 x2 0 (By.z 8) (By.z 8) (.slice none 0 0) (.slice none 0 0)).toArray) (e := 57) (L' := (rb, RdS a l r3) :: ((b2, Obj.cells ti57.zero.cells 57 (0, 0)) :: ((b1, Obj.cells #[.pointer (some ⟨rb, 0, none⟩)] 131 (0, 0)) :: []))) (ceK x1 x2 x3 (By.z 8) (By.z 8) (.slice none 0 0) (.slice none 0 0)).toArray (hL := (perm_of fun f => by (simp only [List.map_append, List.map_cons, List.map_nil, List.sum_append, List.sum_cons, List.sum_nil] <;> omega))) (he := by exact ce_w2 _ _ _ _ _ _ _ _) (hf := by rw [List.size_toArray, ceK_len]; decide) (h1 := by exact one_i _ _)) (fun _ => ?_)
  refine x_ ?_
  have hp4 : ((b3, Obj.cells (ceK x1 x2 x3 (By.z 8) (By.z 8) (.slice none 0 0) (.slice none 0 0)).toArray 57 (0, 0)) :: ((rb, RdS a l r3) :: ((b2, Obj.cells ti57.zero.cells 57 (0, 0)) :: ((b1, Obj.cells #[.pointer (some ⟨rb, 0, none⟩)] 131 (0, 0)) :: []))) : Hp).Perm (((rb, RdS a l r3) :: []) ++ (b3, Obj.cells (ceK x1 x2 x3 (By.z 8) (By.z 8) (.slice none 0 0) (.slice none 0 0)).toArray 57 (0, 0)) :: ((b2, Obj.cells ti57.zero.cells 57 (0, 0)) :: ((b1, Obj.cells #[.pointer (some ⟨rb, 0, none⟩)] 131 (0, 0)) :: []))) := (perm_of fun f => by (simp only [List.map_append, List.map_cons, List.map_nil, List.sum_append, List.sum_cons, List.sum_nil] <;> omega))
  rcases h4 : pB 8 r3 with _ | ⟨x4, r4⟩
  · refine Run.op1 (callRn Tryz.func42 (rdHash rb a l r3 hr3) hI hp4 h4 (fun k hk => ?_)) (fun y => y.elim)
    repeat first | refine RQ.thenPanic ?_ | refine RQ.blockPanic ?_
    exact RQ.panR (by simp [pCe, pMap, pAnd, h1, h2, h3, h4]) hk
  have hr4 := (good_B 8).sfx hbl hr3 h4
  refine Run.op1 (callRs Tryz.func42 (rdHash rb a l r3 hr3) hI hp4 h4) (fun _ => ?_)
  dsimp only [List.append_nil, List.cons_append, List.nil_append]
  refine x_ ?_
  refine Run.op1 (ostE (arr := (ceK x1 x2 x3 (By.z 8) (By.z 8) (.slice none 0 0) (.slice none 0 0)).toArray) (e := 57) (L' := (rb, RdS a l r4) :: ((b2, Obj.cells ti57.zero.cells 57 (0, 0)) :: ((b1, Obj.cells #[.pointer (some ⟨rb, 0, none⟩)] 131 (0, 0)) :: []))) (ceK x1 x2 x3 x4 (By.z 8) (.slice none 0 0) (.slice none 0 0)).toArray (hL := (perm_of fun f => by (simp only [List.map_append, List.map_cons, List.map_nil, List.sum_append, List.sum_cons, List.sum_nil] <;> omega))) (he := by exact ce_w3 _ _ _ _ _ _ _ _) (hf := by rw [List.size_toArray, ceK_len]; decide) (h1 := by exact u8s_one _) (hs := by show (u8s x4.1).toArray.size = 8; rw [List.size_toArray, u8s_len, x4.2.1])) (fun _ => ?_)
  refine x_ ?_
  have hp5 : ((b3, Obj.cells (ceK x1 x2 x3 x4 (By.z 8) (.slice none 0 0) (.slice none 0 0)).toArray 57 (0, 0)) :: ((rb, RdS a l r4) :: ((b2, Obj.cells ti57.zero.cells 57 (0, 0)) :: ((b1, Obj.cells #[.pointer (some ⟨rb, 0, none⟩)] 131 (0, 0)) :: []))) : Hp).Perm (((rb, RdS a l r4) :: []) ++ (b3, Obj.cells (ceK x1 x2 x3 x4 (By.z 8) (.slice none 0 0) (.slice none 0 0)).toArray 57 (0, 0)) :: ((b2, Obj.cells ti57.zero.cells 57 (0, 0)) :: ((b1, Obj.cells #[.pointer (some ⟨rb, 0, none⟩)] 131 (0, 0)) :: []))) := (perm_of fun f => by (simp only [List.map_append, List.map_cons, List.map_nil, List.sum_append, List.sum_cons, List.sum_nil] <;> omega))
  rcases h5 : pB 8 r4 with _ | ⟨x5, r5⟩
  · refine Run.op1 (callRn Tryz.func42 (rdHash rb a l r4 hr4) hI hp5 h5 (fun k hk => ?_)) (fun y => y.elim)
    repeat first | refine RQ.thenPanic ?_ | refine RQ.blockPanic ?_
    exact RQ.panR (by simp [pCe, pMap, pAnd, h1, h2, h3, h4, h5]) hk
  have hr5 := (good_B 8).sfx hbl hr4 h5
  refine Run.op1 (callRs Tryz.func42 (rdHash rb a l r4 hr4) hI hp5 h5) (fun _ => ?_)
  dsimp only [List.append_nil, List.cons_append, List.nil_append]
  refine x_ ?_
  refine Run.op1 (ostE (arr := (ceK x1 x2 x3 x4 (By.z 8) (.slice none 0 0) (.slice none 0 0)).toArray) (e := 57) (L' := (rb, RdS a l r5) :: ((b2, Obj.cells ti57.zero.cells 57 (0, 0)) :: ((b1, Obj.cells #[.pointer (some ⟨rb, 0, none⟩)] 131 (0, 0)) :: []))) (ceK x1 x2 x3 x4 x5 (.slice none 0 0) (.slice none 0 0)).toArray (hL := (perm_of fun f => by (simp only [List.map_append, List.map_cons, List.map_nil, List.sum_append, List.sum_cons, List.sum_nil] <;> omega))) (he := by exact ce_w11 _ _ _ _ _ _ _ _) (hf := by rw [List.size_toArray, ceK_len]; decide) (h1 := by exact u8s_one _) (hs := by show (u8s x5.1).toArray.size = 8; rw [List.size_toArray, u8s_len, x5.2.1])) (fun _ => ?_)
  refine x_ ?_
  refine Run.a (Val.mkFn (fs := [.tmp 25]) (cs := [])) ?_
  have hp6 : ((b3, Obj.cells (ceK x1 x2 x3 x4 x5 (.slice none 0 0) (.slice none 0 0)).toArray 57 (0, 0)) :: ((rb, RdS a l r5) :: ((b2, Obj.cells ti57.zero.cells 57 (0, 0)) :: ((b1, Obj.cells #[.pointer (some ⟨rb, 0, none⟩)] 131 (0, 0)) :: []))) : Hp).Perm (((rb, RdS a l r5) :: []) ++ (b3, Obj.cells (ceK x1 x2 x3 x4 x5 (.slice none 0 0) (.slice none 0 0)).toArray 57 (0, 0)) :: ((b2, Obj.cells ti57.zero.cells 57 (0, 0)) :: ((b1, Obj.cells #[.pointer (some ⟨rb, 0, none⟩)] 131 (0, 0)) :: []))) := (perm_of fun f => by (simp only [List.map_append, List.map_cons, List.map_nil, List.sum_append, List.sum_cons, List.sum_nil] <;> omega))
  rcases h6 : pRow pOut r5 with _ | ⟨x6, r6⟩
  · refine Run.op1 (callRn Tryz.func115 (rdListO rb a l r5 hr5) hI hp6 h6 (fun k hk => ?_)) (fun y => y.elim)
    repeat first | refine RQ.thenPanic ?_ | refine RQ.blockPanic ?_
    exact RQ.panR (by simp [pCe, pMap, pAnd, h1, h2, h3, h4, h5, h6]) hk
  have hr6 := (good_out.row fun y _ => y.bt).sfx hbl hr5 h6
  refine Run.op1 (callRs Tryz.func115 (rdListO rb a l r5 hr5) hI hp6 h6) (fun y6 => ?_)
  dsimp only [List.append_nil, List.cons_append, List.nil_append]
  obtain ⟨⟨v6, l6⟩, o6⟩ := y6
  dsimp only at o6 ⊢
  obtain ⟨a6, c6, rfl, hc6⟩ := o6.shape
  refine x_ ?_
  refine Run.op1 (ostE (arr := (ceK x1 x2 x3 x4 x5 (.slice none 0 0) (.slice none 0 0)).toArray) (e := 57) (L' := (rb, RdS a l r6) :: (l6 ++ ((b2, Obj.cells ti57.zero.cells 57 (0, 0)) :: ((b1, Obj.cells #[.pointer (some ⟨rb, 0, none⟩)] 131 (0, 0)) :: [])))) (ceK x1 x2 x3 x4 x5 (.slice a6 x6.length c6) (.slice none 0 0)).toArray (hL := (perm_of fun f => by (simp only [List.map_append, List.map_cons, List.map_nil, List.sum_append, List.sum_cons, List.sum_nil] <;> omega))) (he := by exact ce_w19 _ _ _ _ _ _ _ _) (hf := by rw [List.size_toArray, ceK_len]; decide) (h1 := by exact one_s _ _ _)) (fun _ => ?_)
  refine x_ ?_
  refine Run.a (Val.mkFn (fs := [.tmp 30]) (cs := [])) ?_
  have hp7 : ((b3, Obj.cells (ceK x1 x2 x3 x4 x5 (.slice a6 x6.length c6) (.slice none 0 0)).toArray 57 (0, 0)) :: ((rb, RdS a l r6) :: (l6 ++ ((b2, Obj.cells ti57.zero.cells 57 (0, 0)) :: ((b1, Obj.cells #[.pointer (some ⟨rb, 0, none⟩)] 131 (0, 0)) :: [])))) : Hp).Perm (((rb, RdS a l r6) :: []) ++ (b3, Obj.cells (ceK x1 x2 x3 x4 x5 (.slice a6 x6.length c6) (.slice none 0 0)).toArray 57 (0, 0)) :: (l6 ++ ((b2, Obj.cells ti57.zero.cells 57 (0, 0)) :: ((b1, Obj.cells #[.pointer (some ⟨rb, 0, none⟩)] 131 (0, 0)) :: [])))) := (perm_of fun f => by (simp only [List.map_append, List.map_cons, List.map_nil, List.sum_append, List.sum_cons, List.sum_nil] <;> omega))
  rcases h7 : pRow pSg r6 with _ | ⟨x7, r7⟩
  · refine Run.op1 (callRn Tryz.func152 (rdListS rb a l r6 hr6) hI hp7 h7 (fun k hk => ?_)) (fun y => y.elim)
    repeat first | refine RQ.thenPanic ?_ | refine RQ.blockPanic ?_
    exact RQ.panR (by simp [pCe, pMap, pAnd, h1, h2, h3, h4, h5, h6, h7]) hk
  have hr7 := (good_sg.row fun y _ => y.bt).sfx hbl hr6 h7
  refine Run.op1 (callRs Tryz.func152 (rdListS rb a l r6 hr6) hI hp7 h7) (fun y7 => ?_)
  dsimp only [List.append_nil, List.cons_append, List.nil_append]
  obtain ⟨⟨v7, l7⟩, o7⟩ := y7
  dsimp only at o7 ⊢
  obtain ⟨a7, c7, rfl, hc7⟩ := o7.shape
  refine x_ ?_
  refine Run.op1 (ostE (arr := (ceK x1 x2 x3 x4 x5 (.slice a6 x6.length c6) (.slice none 0 0)).toArray) (e := 57) (L' := (rb, RdS a l r7) :: (l7 ++ (l6 ++ ((b2, Obj.cells ti57.zero.cells 57 (0, 0)) :: ((b1, Obj.cells #[.pointer (some ⟨rb, 0, none⟩)] 131 (0, 0)) :: []))))) (ceK x1 x2 x3 x4 x5 (.slice a6 x6.length c6) (.slice a7 x7.length c7)).toArray (hL := (perm_of fun f => by (simp only [List.map_append, List.map_cons, List.map_nil, List.sum_append, List.sum_cons, List.sum_nil] <;> omega))) (he := by exact ce_w20 _ _ _ _ _ _ _ _) (hf := by rw [List.size_toArray, ceK_len]; decide) (h1 := by exact one_s _ _ _)) (fun _ => ?_)
  have hsz : (ceK x1 x2 x3 x4 x5 (.slice a6 x6.length c6) (.slice a7 x7.length c7)).toArray.size = 21 := by rw [List.size_toArray, ceK_len]
  refine x_ ?_
  refine Run.op1 (osa (arr := ti57.zero.cells) (e := 57) (L' := (b3, Obj.cells (ceK x1 x2 x3 x4 x5 (.slice a6 x6.length c6) (.slice a7 x7.length c7)).toArray 57 (0, 0)) :: ((rb, RdS a l r7) :: (l7 ++ (l6 ++ ((b1, Obj.cells #[.pointer (some ⟨rb, 0, none⟩)] 131 (0, 0)) :: []))))) (ceK x1 x2 x3 x4 x5 (.slice a6 x6.length c6) (.slice a7 x7.length c7)).toArray (ceK_one _ _ _ _ _ _ _ _ _ _ _) (hL := (perm_of fun f => by (simp only [List.map_append, List.map_cons, List.map_nil, List.sum_append, List.sum_cons, List.sum_nil] <;> omega))) (hs := by exact hsz)) (fun _ => ?_)
  refine x_ ?_
  exact RQ.ret1 rfl (Res.cellAll tabOk rfl rfl rfl m0 hsz) fun w' hm => RdsQ.fin (r' := r7) (Y := CeY) (V := fun c y => .agg (ceC c (.slice y.1.1.1.1 c.os.length y.1.1.1.2) (.slice y.1.1.2.1 c.sg.length y.1.1.2.2)).toArray) (L' := fun _ y => y.1.2.1 ++ y.1.2.2) (show pCe r = some (⟨x1, x2, x3, x4, x5, x6, x7⟩, r7) from by simp [pCe, pMap, pAnd, h1, h2, h3, h4, h5, h6, h7]) ⟨(((a6, c6), (a7, c7)), (l6, l7)), o6, o7⟩ hm (Lr := (b2, Obj.cells (ceK x1 x2 x3 x4 x5 (.slice a6 x6.length c6) (.slice a7 x7.length c7)).toArray 57 (0, 0)) :: ((b3, Obj.cells (ceK x1 x2 x3 x4 x5 (.slice a6 x6.length c6) (.slice a7 x7.length c7)).toArray 57 (0, 0)) :: ((b1, Obj.cells #[.pointer (some ⟨rb, 0, none⟩)] 131 (0, 0)) :: []))) (by dsimp only; exact (perm_of fun f => by (simp only [List.map_append, List.map_cons, List.map_nil, List.sum_append, List.sum_cons, List.sum_nil] <;> omega)))
end Go.Proofs.YtfoeakgnkfcbjaaGreatDoor

/- tx: the reader: transactions; Decode (gen_ty3.py prints it). -/
namespace Go.Proofs.YtfoeakgnkfcbjaaGreatDoor
attribute [local irreducible] Go.Vc.Run Go.Vc.RC Go.Vc.RQ Go.Vc.DR Go.Vc.DOp Go.Vc.Knows Go.Vc.At
set_option maxHeartbeats 400000
set_option maxRecDepth 10000
open Go Go.Vc Go.Sha
theorem runPerm {P : Program} {n : Nat} {w0 : World} {S0 : List Nat} {Q : Exit → Act → World → Prop} {E : Env} {L L' : Hp} {ops : Array Oper} {rest : List Oper} (hL : L.Perm L') (h : Go.Vc.Run P n w0 S0 ops Q rest E L') : Go.Vc.Run P n w0 S0 ops Q rest E L := by
  unfold Go.Vc.Run at h ⊢
  exact fun a w hs hm => h a w hs (hm.perm hL)
/-- A transaction of one's own. -/
abbrev TxY (t : TxD) := {q : TxV × Hp // ∀ w, Has q.2 w → TxAt w t q.1}
def TxV.z : TxV := ⟨none, 0, none, 0, none, 0, none, 0, none, 0, none, 0⟩
theorem txC_one (t : TxD) (v : TxV) : ∀ u ∈ txC t v, u.oneCell' = true := by
  intro u hu
  rw [txC_eq] at hu
  rcases List.mem_append.1 hu with hu | hu
  · simp only [tx5, List.mem_cons, List.not_mem_nil, or_false] at hu
    rcases hu with rfl | rfl | rfl | rfl | rfl <;> rfl
  rcases List.mem_append.1 hu with hu | hu
  · exact prC_one _ _ _ _ u hu
  rcases List.mem_append.1 hu with hu | hu
  · exact ceC_one _ _ _ _ _ _ _ u hu
  · exact ClD.one _ u hu
def TxV.mI (v : TxV) (a : Option Addr) (c : Nat) : TxV := { v with aI := a, cI := c }
def TxV.mO (v : TxV) (a : Option Addr) (c : Nat) : TxV := { v with aO := a, cO := c }
def TxV.mF (v : TxV) (a : Option Addr) (c : Nat) : TxV := { v with aF := a, cF := c }
def TxV.mK (v : TxV) (a : Option Addr) (c : Nat) : TxV := { v with aK := a, cK := c }
def TxV.mC (v : TxV) (a : Option Addr) (c : Nat) (a' : Option Addr) (c' : Nat) : TxV := { v with aA := a, cA := c, aS := a', cS := c' }
theorem tx_w9 (t : TxD) (v : TxV) (e : CeD) (a : Option Addr) (c : Nat) (a' : Option Addr) (c' : Nat) : wrAt (txC t v).toArray 9 (ceC e (.slice a e.os.length c) (.slice a' e.sg.length c')) = (txC { t with c := e } (v.mC a c a' c')).toArray :=
  wr_at' (pre := tx5 t v ++ prC t.p (.slice v.aK t.p.ks.length v.cK)) (old := ceC t.c (.slice v.aA t.c.os.length v.cA) (.slice v.aS t.c.sg.length v.cS)) (post := t.l.c) (by rw [txC_eq, List.append_assoc]) (by rw [txC_eq, List.append_assoc]; rfl) (by rw [ceC_len, ceC_len]) rfl
theorem tx_w30 (t : TxD) (v : TxV) (e : ClD) : wrAt (txC t v).toArray 30 e.c = (txC { t with l := e } v).toArray :=
  wr_at' (pre := tx5 t v ++ (prC t.p (.slice v.aK t.p.ks.length v.cK) ++ ceC t.c (.slice v.aA t.c.os.length v.cA) (.slice v.aS t.c.sg.length v.cS))) (old := t.l.c) (post := []) (by rw [txC_eq, List.append_nil, List.append_assoc, List.append_assoc]) (by rw [txC_eq, List.append_nil, List.append_assoc, List.append_assoc]; rfl) (by rw [ClD.len, ClD.len]) (by simp only [List.length_append, prC_len, ceC_len]; rfl)
theorem at_ks {w : World} {l : List (By 8)} {v : Value} (h : SrcW w 8 v l.length (rws hsC l)) : SrcW w 8 v l.length (u8s (l.map (·.1)).flatten) := by
  rw [ks_row]
  exact h
theorem rdTx (rb : Nat) (a : Option Addr) (l r : List Nat) (hr : r <:+ l) : RdsC 80 [.agg #[.pointer (some ⟨rb, 0, none⟩)]] rb a l r [] (pTx r) (TxY) (fun t y => .agg (txC t y.1.1).toArray) (fun _ y => y.1.2) := by
  intro w hI hw hnd
  refine enter Tryz.func80 rfl (Mem.init (S0 := rb :: ([] : Hp).map (·.1)) hw (fun p hp => List.mem_map_of_mem hp) hnd) rfl ?_
  have hbl := hI.bt
  refine z_ ?_
  refine Run.nw nbx ?_
  intro b1
  refine x_ ?_
  refine Run.nw nal ?_
  intro b2
  refine x_ ?_
  have hp1 : ((b2, Obj.cells ti64.zero.cells 64 (0, 0)) :: ((b1, Obj.cells #[.pointer (some ⟨rb, 0, none⟩)] 131 (0, 0)) :: ((rb, RdS a l r) :: [])) : Hp).Perm (((rb, RdS a l r) :: []) ++ (b2, Obj.cells ti64.zero.cells 64 (0, 0)) :: ((b1, Obj.cells #[.pointer (some ⟨rb, 0, none⟩)] 131 (0, 0)) :: [])) := (perm_of fun f => by (simp only [List.map_append, List.map_cons, List.map_nil, List.sum_append, List.sum_cons, List.sum_nil] <;> omega))
  rcases h1 : pN 1 r with _ | ⟨x1, r1⟩
  · refine Run.op1 (callRn Tryz.func44 (rdNum 1 (by decide) rb a l r hr) hI hp1 h1 (fun k hk => ?_)) (fun y => y.elim)
    repeat first | refine RQ.thenPanic ?_ | refine RQ.blockPanic ?_
    exact RQ.panR (by simp [pTx, pMap, pAnd, h1]) hk
  have hr1 := (good_N 1).sfx hbl hr h1
  refine Run.op1 (callRs Tryz.func44 (rdNum 1 (by decide) rb a l r hr) hI hp1 h1) (fun _ => ?_)
  dsimp only [List.append_nil, List.cons_append, List.nil_append]
  refine x_ ?_
  refine Run.a (vbs (txC (TxD.nul x1) TxV.z).toArray) ?_
  refine x_ ?_
  refine Run.nw nal ?_
  intro b3
  refine x_ ?_
  refine Run.op1 (osa (arr := ti64.zero.cells) (e := 64) (L' := (rb, RdS a l r1) :: ((b2, Obj.cells ti64.zero.cells 64 (0, 0)) :: ((b1, Obj.cells #[.pointer (some ⟨rb, 0, none⟩)] 131 (0, 0)) :: []))) (txC (TxD.nul x1) TxV.z).toArray (txC_one _ _) (hL := (perm_of fun f => by (simp only [List.map_append, List.map_cons, List.map_nil, List.sum_append, List.sum_cons, List.sum_nil] <;> omega)))) (fun _ => ?_)
  by_cases hk : x1 = 1
  · subst hk
    refine x_ ?_
    have hp2 : ((b3, Obj.cells (txC (TxD.nul 1) TxV.z).toArray 64 (0, 0)) :: ((rb, RdS a l r1) :: ((b2, Obj.cells ti64.zero.cells 64 (0, 0)) :: ((b1, Obj.cells #[.pointer (some ⟨rb, 0, none⟩)] 131 (0, 0)) :: []))) : Hp).Perm (((rb, RdS a l r1) :: []) ++ (b3, Obj.cells (txC (TxD.nul 1) TxV.z).toArray 64 (0, 0)) :: ((b2, Obj.cells ti64.zero.cells 64 (0, 0)) :: ((b1, Obj.cells #[.pointer (some ⟨rb, 0, none⟩)] 131 (0, 0)) :: []))) := (perm_of fun f => by (simp only [List.map_append, List.map_cons, List.map_nil, List.sum_append, List.sum_cons, List.sum_nil] <;> omega))
    rcases h2 : pN 4 r1 with _ | ⟨x2, r2⟩
    · refine Run.op1 (callRn Tryz.func44 (rdNum 4 (by decide) rb a l r1 hr1) hI hp2 h2 (fun k hk => ?_)) (fun y => y.elim)
      repeat first | refine RQ.thenPanic ?_ | refine RQ.blockPanic ?_
      exact RQ.panR (by simp [pTx, pMap, pAnd, h1, h2]) hk
    have hr2 := (good_N 4).sfx hbl hr1 h2
    refine Run.op1 (callRs Tryz.func44 (rdNum 4 (by decide) rb a l r1 hr1) hI hp2 h2) (fun _ => ?_)
    dsimp only [List.append_nil, List.cons_append, List.nil_append]
    refine x_ ?_
    refine Run.op1 (ostE (arr := (txC (TxD.nul 1) TxV.z).toArray) (e := 64) (L' := (rb, RdS a l r2) :: ((b2, Obj.cells ti64.zero.cells 64 (0, 0)) :: ((b1, Obj.cells #[.pointer (some ⟨rb, 0, none⟩)] 131 (0, 0)) :: []))) (txC { TxD.nul 1 with ht := x2 } TxV.z).toArray (hL := (perm_of fun f => by (simp only [List.map_append, List.map_cons, List.map_nil, List.sum_append, List.sum_cons, List.sum_nil] <;> omega))) (he := by rfl) (hf := by rw [List.size_toArray, txC_len]; decide) (h1 := by exact one_i _ _)) (fun _ => ?_)
    refine x_ ?_
    refine Run.a (Val.mkFn (fs := [.tmp 17]) (cs := [])) ?_
    have hp3 : ((b3, Obj.cells (txC { TxD.nul 1 with ht := x2 } TxV.z).toArray 64 (0, 0)) :: ((rb, RdS a l r2) :: ((b2, Obj.cells ti64.zero.cells 64 (0, 0)) :: ((b1, Obj.cells #[.pointer (some ⟨rb, 0, none⟩)] 131 (0, 0)) :: []))) : Hp).Perm (((rb, RdS a l r2) :: []) ++ (b3, Obj.cells (txC { TxD.nul 1 with ht := x2 } TxV.z).toArray 64 (0, 0)) :: ((b2, Obj.cells ti64.zero.cells 64 (0, 0)) :: ((b1, Obj.cells #[.pointer (some ⟨rb, 0, none⟩)] 131 (0, 0)) :: []))) := (perm_of fun f => by (simp only [List.map_append, List.map_cons, List.map_nil, List.sum_append, List.sum_cons, List.sum_nil] <;> omega))
    rcases h3 : pRow pOut r2 with _ | ⟨x3, r3⟩
    · refine Run.op1 (callRn Tryz.func115 (rdListO rb a l r2 hr2) hI hp3 h3 (fun k hk => ?_)) (fun y => y.elim)
      repeat first | refine RQ.thenPanic ?_ | refine RQ.blockPanic ?_
      exact RQ.panR (by simp [pTx, pMap, pAnd, h1, h2, h3]) hk
    have hr3 := (good_out.row fun y _ => y.bt).sfx hbl hr2 h3
    refine Run.op1 (callRs Tryz.func115 (rdListO rb a l r2 hr2) hI hp3 h3) (fun y3 => ?_)
    dsimp only [List.append_nil, List.cons_append, List.nil_append]
    obtain ⟨⟨v3, l3⟩, o3⟩ := y3
    dsimp only at o3 ⊢
    obtain ⟨a3, c3, rfl, hc3⟩ := o3.shape
    refine x_ ?_
    refine Run.op1 (ostE (arr := (txC { TxD.nul 1 with ht := x2 } TxV.z).toArray) (e := 64) (L' := (rb, RdS a l r3) :: (l3 ++ ((b2, Obj.cells ti64.zero.cells 64 (0, 0)) :: ((b1, Obj.cells #[.pointer (some ⟨rb, 0, none⟩)] 131 (0, 0)) :: [])))) (txC (tCoin x2 x3) (TxV.z.mO a3 c3)).toArray (hL := (perm_of fun f => by (simp only [List.map_append, List.map_cons, List.map_nil, List.sum_append, List.sum_cons, List.sum_nil] <;> omega))) (he := by rfl) (hf := by rw [List.size_toArray, txC_len]; decide) (h1 := by exact one_s _ _ _)) (fun _ => ?_)
    have hsz : (txC (tCoin x2 x3) (TxV.z.mO a3 c3)).toArray.size = 170 := by rw [List.size_toArray, txC_len]
    refine x_ ?_
    refine Run.op1 (osa (arr := ti64.zero.cells) (e := 64) (L' := (b3, Obj.cells (txC (tCoin x2 x3) (TxV.z.mO a3 c3)).toArray 64 (0, 0)) :: ((rb, RdS a l r3) :: (l3 ++ ((b1, Obj.cells #[.pointer (some ⟨rb, 0, none⟩)] 131 (0, 0)) :: [])))) (txC (tCoin x2 x3) (TxV.z.mO a3 c3)).toArray (txC_one _ _) (hL := (perm_of fun f => by (simp only [List.map_append, List.map_cons, List.map_nil, List.sum_append, List.sum_cons, List.sum_nil] <;> omega))) (hs := by exact hsz)) (fun _ => ?_)
    refine x_ ?_
    exact RQ.ret1 rfl (Res.cellAll tabOk rfl rfl rfl m0 hsz) fun w' hm => RdsQ.fin (r' := r3) (Y := TxY) (V := fun t y => .agg (txC t y.1.1).toArray) (L' := fun _ y => y.1.2) (show pTx r = some (tCoin x2 x3, r3) from by simp [pTx, pMap, pAnd, h1, h2, h3]) ⟨((TxV.z.mO a3 c3), l3), fun w hw => ⟨.nil, o3.srcW hw, .nil, .nil, .nil, .nil⟩⟩ hm (Lr := (b2, Obj.cells (txC (tCoin x2 x3) (TxV.z.mO a3 c3)).toArray 64 (0, 0)) :: ((b3, Obj.cells (txC (tCoin x2 x3) (TxV.z.mO a3 c3)).toArray 64 (0, 0)) :: ((b1, Obj.cells #[.pointer (some ⟨rb, 0, none⟩)] 131 (0, 0)) :: []))) (by dsimp only; exact (perm_of fun f => by (simp only [List.map_append, List.map_cons, List.map_nil, List.sum_append, List.sum_cons, List.sum_nil] <;> omega)))
  have hk1 := hk; clear hk
  by_cases hk : x1 = 2
  · subst hk
    refine x_ ?_
    refine Run.a (Val.mkFn (fs := [.tmp 24]) (cs := [])) ?_
    have hp2 : ((b3, Obj.cells (txC (TxD.nul 2) TxV.z).toArray 64 (0, 0)) :: ((rb, RdS a l r1) :: ((b2, Obj.cells ti64.zero.cells 64 (0, 0)) :: ((b1, Obj.cells #[.pointer (some ⟨rb, 0, none⟩)] 131 (0, 0)) :: []))) : Hp).Perm (((rb, RdS a l r1) :: []) ++ (b3, Obj.cells (txC (TxD.nul 2) TxV.z).toArray 64 (0, 0)) :: ((b2, Obj.cells ti64.zero.cells 64 (0, 0)) :: ((b1, Obj.cells #[.pointer (some ⟨rb, 0, none⟩)] 131 (0, 0)) :: []))) := (perm_of fun f => by (simp only [List.map_append, List.map_cons, List.map_nil, List.sum_append, List.sum_cons, List.sum_nil] <;> omega))
    rcases h2 : pRow pIn r1 with _ | ⟨x2, r2⟩
    · refine Run.op1 (callRn Tryz.func117 (rdListI rb a l r1 hr1) hI hp2 h2 (fun k hk => ?_)) (fun y => y.elim)
      repeat first | refine RQ.thenPanic ?_ | refine RQ.blockPanic ?_
      exact RQ.panR (by simp [pTx, pMap, pAnd, h1, h2]) hk
    have hr2 := (good_in.row fun y _ => y.bt).sfx hbl hr1 h2
    refine Run.op1 (callRs Tryz.func117 (rdListI rb a l r1 hr1) hI hp2 h2) (fun y2 => ?_)
    dsimp only [List.append_nil, List.cons_append, List.nil_append]
    obtain ⟨⟨v2, l2⟩, o2⟩ := y2
    dsimp only at o2 ⊢
    obtain ⟨a2, c2, rfl, hc2⟩ := o2.shape
    refine x_ ?_
    refine Run.op1 (ostE (arr := (txC (TxD.nul 2) TxV.z).toArray) (e := 64) (L' := (rb, RdS a l r2) :: (l2 ++ ((b2, Obj.cells ti64.zero.cells 64 (0, 0)) :: ((b1, Obj.cells #[.pointer (some ⟨rb, 0, none⟩)] 131 (0, 0)) :: [])))) (txC (tPay x2 [] []) (TxV.z.mI a2 c2)).toArray (hL := (perm_of fun f => by (simp only [List.map_append, List.map_cons, List.map_nil, List.sum_append, List.sum_cons, List.sum_nil] <;> omega))) (he := by rfl) (hf := by rw [List.size_toArray, txC_len]; decide) (h1 := by exact one_s _ _ _)) (fun _ => ?_)
    refine x_ ?_
    refine Run.a (Val.mkFn (fs := [.tmp 29]) (cs := [])) ?_
    have hp3 : ((b3, Obj.cells (txC (tPay x2 [] []) (TxV.z.mI a2 c2)).toArray 64 (0, 0)) :: ((rb, RdS a l r2) :: (l2 ++ ((b2, Obj.cells ti64.zero.cells 64 (0, 0)) :: ((b1, Obj.cells #[.pointer (some ⟨rb, 0, none⟩)] 131 (0, 0)) :: [])))) : Hp).Perm (((rb, RdS a l r2) :: []) ++ (b3, Obj.cells (txC (tPay x2 [] []) (TxV.z.mI a2 c2)).toArray 64 (0, 0)) :: (l2 ++ ((b2, Obj.cells ti64.zero.cells 64 (0, 0)) :: ((b1, Obj.cells #[.pointer (some ⟨rb, 0, none⟩)] 131 (0, 0)) :: [])))) := (perm_of fun f => by (simp only [List.map_append, List.map_cons, List.map_nil, List.sum_append, List.sum_cons, List.sum_nil] <;> omega))
    rcases h3 : pRow pOut r2 with _ | ⟨x3, r3⟩
    · refine Run.op1 (callRn Tryz.func115 (rdListO rb a l r2 hr2) hI hp3 h3 (fun k hk => ?_)) (fun y => y.elim)
      repeat first | refine RQ.thenPanic ?_ | refine RQ.blockPanic ?_
      exact RQ.panR (by simp [pTx, pMap, pAnd, h1, h2, h3]) hk
    have hr3 := (good_out.row fun y _ => y.bt).sfx hbl hr2 h3
    refine Run.op1 (callRs Tryz.func115 (rdListO rb a l r2 hr2) hI hp3 h3) (fun y3 => ?_)
    dsimp only [List.append_nil, List.cons_append, List.nil_append]
    obtain ⟨⟨v3, l3⟩, o3⟩ := y3
    dsimp only at o3 ⊢
    obtain ⟨a3, c3, rfl, hc3⟩ := o3.shape
    refine x_ ?_
    refine Run.op1 (ostE (arr := (txC (tPay x2 [] []) (TxV.z.mI a2 c2)).toArray) (e := 64) (L' := (rb, RdS a l r3) :: (l3 ++ (l2 ++ ((b2, Obj.cells ti64.zero.cells 64 (0, 0)) :: ((b1, Obj.cells #[.pointer (some ⟨rb, 0, none⟩)] 131 (0, 0)) :: []))))) (txC (tPay x2 x3 []) ((TxV.z.mI a2 c2).mO a3 c3)).toArray (hL := (perm_of fun f => by (simp only [List.map_append, List.map_cons, List.map_nil, List.sum_append, List.sum_cons, List.sum_nil] <;> omega))) (he := by rfl) (hf := by rw [List.size_toArray, txC_len]; decide) (h1 := by exact one_s _ _ _)) (fun _ => ?_)
    refine x_ ?_
    refine Run.a (Val.mkFn (fs := [.tmp 34]) (cs := [])) ?_
    have hp4 : ((b3, Obj.cells (txC (tPay x2 x3 []) ((TxV.z.mI a2 c2).mO a3 c3)).toArray 64 (0, 0)) :: ((rb, RdS a l r3) :: (l3 ++ (l2 ++ ((b2, Obj.cells ti64.zero.cells 64 (0, 0)) :: ((b1, Obj.cells #[.pointer (some ⟨rb, 0, none⟩)] 131 (0, 0)) :: []))))) : Hp).Perm (((rb, RdS a l r3) :: []) ++ (b3, Obj.cells (txC (tPay x2 x3 []) ((TxV.z.mI a2 c2).mO a3 c3)).toArray 64 (0, 0)) :: (l3 ++ (l2 ++ ((b2, Obj.cells ti64.zero.cells 64 (0, 0)) :: ((b1, Obj.cells #[.pointer (some ⟨rb, 0, none⟩)] 131 (0, 0)) :: []))))) := (perm_of fun f => by (simp only [List.map_append, List.map_cons, List.map_nil, List.sum_append, List.sum_cons, List.sum_nil] <;> omega))
    rcases h4 : pRow pFo r3 with _ | ⟨x4, r4⟩
    · refine Run.op1 (callRn Tryz.func119 (rdListF rb a l r3 hr3) hI hp4 h4 (fun k hk => ?_)) (fun y => y.elim)
      repeat first | refine RQ.thenPanic ?_ | refine RQ.blockPanic ?_
      exact RQ.panR (by simp [pTx, pMap, pAnd, h1, h2, h3, h4]) hk
    have hr4 := (good_fo.row fun y _ => y.bt).sfx hbl hr3 h4
    refine Run.op1 (callRs Tryz.func119 (rdListF rb a l r3 hr3) hI hp4 h4) (fun y4 => ?_)
    dsimp only [List.append_nil, List.cons_append, List.nil_append]
    obtain ⟨⟨v4, l4⟩, o4⟩ := y4
    dsimp only at o4 ⊢
    obtain ⟨a4, c4, rfl, hc4⟩ := o4.shape
    refine x_ ?_
    refine Run.op1 (ostE (arr := (txC (tPay x2 x3 []) ((TxV.z.mI a2 c2).mO a3 c3)).toArray) (e := 64) (L' := (rb, RdS a l r4) :: (l4 ++ (l3 ++ (l2 ++ ((b2, Obj.cells ti64.zero.cells 64 (0, 0)) :: ((b1, Obj.cells #[.pointer (some ⟨rb, 0, none⟩)] 131 (0, 0)) :: [])))))) (txC (tPay x2 x3 x4) (((TxV.z.mI a2 c2).mO a3 c3).mF a4 c4)).toArray (hL := (perm_of fun f => by (simp only [List.map_append, List.map_cons, List.map_nil, List.sum_append, List.sum_cons, List.sum_nil] <;> omega))) (he := by rfl) (hf := by rw [List.size_toArray, txC_len]; decide) (h1 := by exact one_s _ _ _)) (fun _ => ?_)
    have hsz : (txC (tPay x2 x3 x4) (((TxV.z.mI a2 c2).mO a3 c3).mF a4 c4)).toArray.size = 170 := by rw [List.size_toArray, txC_len]
    refine x_ ?_
    refine Run.op1 (osa (arr := ti64.zero.cells) (e := 64) (L' := (b3, Obj.cells (txC (tPay x2 x3 x4) (((TxV.z.mI a2 c2).mO a3 c3).mF a4 c4)).toArray 64 (0, 0)) :: ((rb, RdS a l r4) :: (l4 ++ (l3 ++ (l2 ++ ((b1, Obj.cells #[.pointer (some ⟨rb, 0, none⟩)] 131 (0, 0)) :: [])))))) (txC (tPay x2 x3 x4) (((TxV.z.mI a2 c2).mO a3 c3).mF a4 c4)).toArray (txC_one _ _) (hL := (perm_of fun f => by (simp only [List.map_append, List.map_cons, List.map_nil, List.sum_append, List.sum_cons, List.sum_nil] <;> omega))) (hs := by exact hsz)) (fun _ => ?_)
    refine x_ ?_
    exact RQ.ret1 rfl (Res.cellAll tabOk rfl rfl rfl m0 hsz) fun w' hm => RdsQ.fin (r' := r4) (Y := TxY) (V := fun t y => .agg (txC t y.1.1).toArray) (L' := fun _ y => y.1.2) (show pTx r = some (tPay x2 x3 x4, r4) from by simp [pTx, pMap, pAnd, h1, h2, h3, h4]) ⟨((((TxV.z.mI a2 c2).mO a3 c3).mF a4 c4), l2 ++ (l3 ++ (l4))), fun w hw => ⟨o2.srcW (hw.sub fun q hq => List.mem_append_left _ hq), o3.srcW (hw.sub fun q hq => List.mem_append_right _ (List.mem_append_left _ hq)), o4.srcW (hw.sub fun q hq => List.mem_append_right _ (List.mem_append_right _ hq)), .nil, .nil, .nil⟩⟩ hm (Lr := (b2, Obj.cells (txC (tPay x2 x3 x4) (((TxV.z.mI a2 c2).mO a3 c3).mF a4 c4)).toArray 64 (0, 0)) :: ((b3, Obj.cells (txC (tPay x2 x3 x4) (((TxV.z.mI a2 c2).mO a3 c3).mF a4 c4)).toArray 64 (0, 0)) :: ((b1, Obj.cells #[.pointer (some ⟨rb, 0, none⟩)] 131 (0, 0)) :: []))) (by dsimp only; exact (perm_of fun f => by (simp only [List.map_append, List.map_cons, List.map_nil, List.sum_append, List.sum_cons, List.sum_nil] <;> omega)))
  have hk2 := hk; clear hk
  by_cases hk : x1 = 3
  · subst hk
    refine x_ ?_
    have hp2 : ((b3, Obj.cells (txC (TxD.nul 3) TxV.z).toArray 64 (0, 0)) :: ((rb, RdS a l r1) :: ((b2, Obj.cells ti64.zero.cells 64 (0, 0)) :: ((b1, Obj.cells #[.pointer (some ⟨rb, 0, none⟩)] 131 (0, 0)) :: []))) : Hp).Perm (((rb, RdS a l r1) :: []) ++ (b3, Obj.cells (txC (TxD.nul 3) TxV.z).toArray 64 (0, 0)) :: ((b2, Obj.cells ti64.zero.cells 64 (0, 0)) :: ((b1, Obj.cells #[.pointer (some ⟨rb, 0, none⟩)] 131 (0, 0)) :: []))) := (perm_of fun f => by (simp only [List.map_append, List.map_cons, List.map_nil, List.sum_append, List.sum_cons, List.sum_nil] <;> omega))
    rcases h2 : pPr r1 with _ | ⟨x2, r2⟩
    · refine Run.op1 (callRn Tryz.func121 (rdPr rb a l r1 hr1) hI hp2 h2 (fun k hk => ?_)) (fun y => y.elim)
      repeat first | refine RQ.thenPanic ?_ | refine RQ.blockPanic ?_
      exact RQ.panR (by simp [pTx, pMap, pAnd, h1, h2]) hk
    have hr2 := (good_pr).sfx hbl hr1 h2
    refine Run.op1 (callRs Tryz.func121 (rdPr rb a l r1 hr1) hI hp2 h2) (fun y2 => ?_)
    dsimp only [List.append_nil, List.cons_append, List.nil_append]
    obtain ⟨⟨⟨a2, c2⟩, l2⟩, o2⟩ := y2
    dsimp only at o2 ⊢
    refine x_ ?_
    refine Run.op1 (ostE (arr := (txC (TxD.nul 3) TxV.z).toArray) (e := 64) (L' := (rb, RdS a l r2) :: (l2 ++ ((b2, Obj.cells ti64.zero.cells 64 (0, 0)) :: ((b1, Obj.cells #[.pointer (some ⟨rb, 0, none⟩)] 131 (0, 0)) :: [])))) (txC (tCreate x2) (TxV.z.mK a2 c2)).toArray (hL := (perm_of fun f => by (simp only [List.map_append, List.map_cons, List.map_nil, List.sum_append, List.sum_cons, List.sum_nil] <;> omega))) (he := by rfl) (hf := by rw [List.size_toArray, txC_len]; decide) (h1 := by exact prC_one _ _ _ _)) (fun _ => ?_)
    have hsz : (txC (tCreate x2) (TxV.z.mK a2 c2)).toArray.size = 170 := by rw [List.size_toArray, txC_len]
    refine x_ ?_
    refine Run.op1 (osa (arr := ti64.zero.cells) (e := 64) (L' := (b3, Obj.cells (txC (tCreate x2) (TxV.z.mK a2 c2)).toArray 64 (0, 0)) :: ((rb, RdS a l r2) :: (l2 ++ ((b1, Obj.cells #[.pointer (some ⟨rb, 0, none⟩)] 131 (0, 0)) :: [])))) (txC (tCreate x2) (TxV.z.mK a2 c2)).toArray (txC_one _ _) (hL := (perm_of fun f => by (simp only [List.map_append, List.map_cons, List.map_nil, List.sum_append, List.sum_cons, List.sum_nil] <;> omega))) (hs := by exact hsz)) (fun _ => ?_)
    refine x_ ?_
    exact RQ.ret1 rfl (Res.cellAll tabOk rfl rfl rfl m0 hsz) fun w' hm => RdsQ.fin (r' := r2) (Y := TxY) (V := fun t y => .agg (txC t y.1.1).toArray) (L' := fun _ y => y.1.2) (show pTx r = some (tCreate x2, r2) from by simp [pTx, pMap, pAnd, h1, h2]) ⟨((TxV.z.mK a2 c2), l2), fun w hw => ⟨.nil, .nil, .nil, at_ks (o2.srcW hw), .nil, .nil⟩⟩ hm (Lr := (b2, Obj.cells (txC (tCreate x2) (TxV.z.mK a2 c2)).toArray 64 (0, 0)) :: ((b3, Obj.cells (txC (tCreate x2) (TxV.z.mK a2 c2)).toArray 64 (0, 0)) :: ((b1, Obj.cells #[.pointer (some ⟨rb, 0, none⟩)] 131 (0, 0)) :: []))) (by dsimp only; exact (perm_of fun f => by (simp only [List.map_append, List.map_cons, List.map_nil, List.sum_append, List.sum_cons, List.sum_nil] <;> omega)))
  have hk3 := hk; clear hk
  by_cases hk : x1 = 4
  · subst hk
    refine x_ ?_
    have hp2 : ((b3, Obj.cells (txC (TxD.nul 4) TxV.z).toArray 64 (0, 0)) :: ((rb, RdS a l r1) :: ((b2, Obj.cells ti64.zero.cells 64 (0, 0)) :: ((b1, Obj.cells #[.pointer (some ⟨rb, 0, none⟩)] 131 (0, 0)) :: []))) : Hp).Perm (((rb, RdS a l r1) :: []) ++ (b3, Obj.cells (txC (TxD.nul 4) TxV.z).toArray 64 (0, 0)) :: ((b2, Obj.cells ti64.zero.cells 64 (0, 0)) :: ((b1, Obj.cells #[.pointer (some ⟨rb, 0, none⟩)] 131 (0, 0)) :: []))) := (perm_of fun f => by (simp only [List.map_append, List.map_cons, List.map_nil, List.sum_append, List.sum_cons, List.sum_nil] <;> omega))
    rcases h2 : pCe r1 with _ | ⟨x2, r2⟩
    · refine Run.op1 (callRn Tryz.func122 (rdCe rb a l r1 hr1) hI hp2 h2 (fun k hk => ?_)) (fun y => y.elim)
      repeat first | refine RQ.thenPanic ?_ | refine RQ.blockPanic ?_
      exact RQ.panR (by simp [pTx, pMap, pAnd, h1, h2]) hk
    have hr2 := (good_ce).sfx hbl hr1 h2
    refine Run.op1 (callRs Tryz.func122 (rdCe rb a l r1 hr1) hI hp2 h2) (fun y2 => ?_)
    dsimp only [List.append_nil, List.cons_append, List.nil_append]
    obtain ⟨⟨⟨⟨a2, c2⟩, ⟨a3, c3⟩⟩, ⟨l2, l3⟩⟩, o2, o3⟩ := y2
    dsimp only at o2 o3 ⊢
    refine runPerm (L' := (rb, RdS a l r2) :: (l2 ++ (l3 ++ (b3, Obj.cells (txC (TxD.nul 4) TxV.z).toArray 64 (0, 0)) :: ((b2, Obj.cells ti64.zero.cells 64 (0, 0)) :: ((b1, Obj.cells #[.pointer (some ⟨rb, 0, none⟩)] 131 (0, 0)) :: []))))) (by exact (perm_of fun f => by (simp only [List.map_append, List.map_cons, List.map_nil, List.sum_append, List.sum_cons, List.sum_nil] <;> omega))) ?_
    have hs21 : (ceC x2 (.slice a2 x2.os.length c2) (.slice a3 x2.sg.length c3)).toArray.size = 21 := by rw [List.size_toArray, ceC_len]
    refine x_ ?_
    refine Run.op1 (ostE (arr := (txC (TxD.nul 4) TxV.z).toArray) (e := 64) (L' := (rb, RdS a l r2) :: (l2 ++ (l3 ++ ((b2, Obj.cells ti64.zero.cells 64 (0, 0)) :: ((b1, Obj.cells #[.pointer (some ⟨rb, 0, none⟩)] 131 (0, 0)) :: []))))) (txC (tCert x2) (TxV.z.mC a2 c2 a3 c3)).toArray (hL := (perm_of fun f => by (simp only [List.map_append, List.map_cons, List.map_nil, List.sum_append, List.sum_cons, List.sum_nil] <;> omega))) (hs := by exact hs21) (he := by exact tx_w9 _ _ _ _ _ _ _) (hf := by rw [List.size_toArray, txC_len]; decide) (h1 := by exact ceC_one _ _ _ _ _ _ _)) (fun _ => ?_)
    have hsz : (txC (tCert x2) (TxV.z.mC a2 c2 a3 c3)).toArray.size = 170 := by rw [List.size_toArray, txC_len]
    refine x_ ?_
    refine Run.op1 (osa (arr := ti64.zero.cells) (e := 64) (L' := (b3, Obj.cells (txC (tCert x2) (TxV.z.mC a2 c2 a3 c3)).toArray 64 (0, 0)) :: ((rb, RdS a l r2) :: (l2 ++ (l3 ++ ((b1, Obj.cells #[.pointer (some ⟨rb, 0, none⟩)] 131 (0, 0)) :: []))))) (txC (tCert x2) (TxV.z.mC a2 c2 a3 c3)).toArray (txC_one _ _) (hL := (perm_of fun f => by (simp only [List.map_append, List.map_cons, List.map_nil, List.sum_append, List.sum_cons, List.sum_nil] <;> omega))) (hs := by exact hsz)) (fun _ => ?_)
    refine x_ ?_
    exact RQ.ret1 rfl (Res.cellAll tabOk rfl rfl rfl m0 hsz) fun w' hm => RdsQ.fin (r' := r2) (Y := TxY) (V := fun t y => .agg (txC t y.1.1).toArray) (L' := fun _ y => y.1.2) (show pTx r = some (tCert x2, r2) from by simp [pTx, pMap, pAnd, h1, h2]) ⟨((TxV.z.mC a2 c2 a3 c3), l2 ++ (l3)), fun w hw => ⟨.nil, .nil, .nil, .nil, o2.srcW (hw.sub fun q hq => List.mem_append_left _ hq), o3.srcW (hw.sub fun q hq => List.mem_append_right _ hq)⟩⟩ hm (Lr := (b2, Obj.cells (txC (tCert x2) (TxV.z.mC a2 c2 a3 c3)).toArray 64 (0, 0)) :: ((b3, Obj.cells (txC (tCert x2) (TxV.z.mC a2 c2 a3 c3)).toArray 64 (0, 0)) :: ((b1, Obj.cells #[.pointer (some ⟨rb, 0, none⟩)] 131 (0, 0)) :: []))) (by dsimp only; exact (perm_of fun f => by (simp only [List.map_append, List.map_cons, List.map_nil, List.sum_append, List.sum_cons, List.sum_nil] <;> omega)))
  have hk4 := hk; clear hk
  by_cases hk : x1 = 5
  · subst hk
    refine x_ ?_
    have hp2 : ((b3, Obj.cells (txC (TxD.nul 5) TxV.z).toArray 64 (0, 0)) :: ((rb, RdS a l r1) :: ((b2, Obj.cells ti64.zero.cells 64 (0, 0)) :: ((b1, Obj.cells #[.pointer (some ⟨rb, 0, none⟩)] 131 (0, 0)) :: []))) : Hp).Perm (((rb, RdS a l r1) :: []) ++ (b3, Obj.cells (txC (TxD.nul 5) TxV.z).toArray 64 (0, 0)) :: ((b2, Obj.cells ti64.zero.cells 64 (0, 0)) :: ((b1, Obj.cells #[.pointer (some ⟨rb, 0, none⟩)] 131 (0, 0)) :: []))) := (perm_of fun f => by (simp only [List.map_append, List.map_cons, List.map_nil, List.sum_append, List.sum_cons, List.sum_nil] <;> omega))
    rcases h2 : pCl r1 with _ | ⟨x2, r2⟩
    · refine Run.op1 (callRn Tryz.func123 (rdCl rb a l r1 hr1) hI hp2 h2 (fun k hk => ?_)) (fun y => y.elim)
      repeat first | refine RQ.thenPanic ?_ | refine RQ.blockPanic ?_
      exact RQ.panR (by simp [pTx, pMap, pAnd, h1, h2]) hk
    have hr2 := (good_cl).sfx hbl hr1 h2
    refine Run.op1 (callRs Tryz.func123 (rdCl rb a l r1 hr1) hI hp2 h2) (fun _ => ?_)
    dsimp only [List.append_nil, List.cons_append, List.nil_append]
    have hs140 : x2.c.toArray.size = 140 := by rw [List.size_toArray, ClD.len]
    refine x_ ?_
    refine Run.op1 (ostE (arr := (txC (TxD.nul 5) TxV.z).toArray) (e := 64) (L' := (rb, RdS a l r2) :: ((b2, Obj.cells ti64.zero.cells 64 (0, 0)) :: ((b1, Obj.cells #[.pointer (some ⟨rb, 0, none⟩)] 131 (0, 0)) :: []))) (txC (tClaim x2) TxV.z).toArray (hL := (perm_of fun f => by (simp only [List.map_append, List.map_cons, List.map_nil, List.sum_append, List.sum_cons, List.sum_nil] <;> omega))) (hs := by exact hs140) (he := by exact tx_w30 _ _ _) (hf := by rw [List.size_toArray, txC_len]; decide) (h1 := by exact x2.one)) (fun _ => ?_)
    have hsz : (txC (tClaim x2) TxV.z).toArray.size = 170 := by rw [List.size_toArray, txC_len]
    refine x_ ?_
    refine Run.op1 (osa (arr := ti64.zero.cells) (e := 64) (L' := (b3, Obj.cells (txC (tClaim x2) TxV.z).toArray 64 (0, 0)) :: ((rb, RdS a l r2) :: ((b1, Obj.cells #[.pointer (some ⟨rb, 0, none⟩)] 131 (0, 0)) :: []))) (txC (tClaim x2) TxV.z).toArray (txC_one _ _) (hL := (perm_of fun f => by (simp only [List.map_append, List.map_cons, List.map_nil, List.sum_append, List.sum_cons, List.sum_nil] <;> omega))) (hs := by exact hsz)) (fun _ => ?_)
    refine x_ ?_
    exact RQ.ret1 rfl (Res.cellAll tabOk rfl rfl rfl m0 hsz) fun w' hm => RdsQ.fin (r' := r2) (Y := TxY) (V := fun t y => .agg (txC t y.1.1).toArray) (L' := fun _ y => y.1.2) (show pTx r = some (tClaim x2, r2) from by simp [pTx, pMap, pAnd, h1, h2]) ⟨(TxV.z, []), fun w hw => ⟨.nil, .nil, .nil, .nil, .nil, .nil⟩⟩ hm (Lr := (b2, Obj.cells (txC (tClaim x2) TxV.z).toArray 64 (0, 0)) :: ((b3, Obj.cells (txC (tClaim x2) TxV.z).toArray 64 (0, 0)) :: ((b1, Obj.cells #[.pointer (some ⟨rb, 0, none⟩)] 131 (0, 0)) :: []))) (by dsimp only; exact (perm_of fun f => by (simp only [List.map_append, List.map_cons, List.map_nil, List.sum_append, List.sum_cons, List.sum_nil] <;> omega)))
  have hk5 := hk; clear hk
  have hkd : (TxD.nul x1).kd = x1 := rfl
  have hsz : (txC (TxD.nul x1) TxV.z).toArray.size = 170 := by rw [List.size_toArray, txC_len]
  refine x_ ?_
  refine Run.op1 (osa (arr := ti64.zero.cells) (e := 64) (L' := (b3, Obj.cells (txC (TxD.nul x1) TxV.z).toArray 64 (0, 0)) :: ((rb, RdS a l r1) :: ((b1, Obj.cells #[.pointer (some ⟨rb, 0, none⟩)] 131 (0, 0)) :: []))) (txC (TxD.nul x1) TxV.z).toArray (txC_one _ _) (hL := (perm_of fun f => by (simp only [List.map_append, List.map_cons, List.map_nil, List.sum_append, List.sum_cons, List.sum_nil] <;> omega))) (hs := by exact hsz)) (fun _ => ?_)
  refine x_ ?_
  exact RQ.ret1 rfl (Res.cellAll tabOk rfl rfl rfl m0 hsz) fun w' hm => RdsQ.fin (r' := r1) (Y := TxY) (V := fun t y => .agg (txC t y.1.1).toArray) (L' := fun _ y => y.1.2) (show pTx r = some (TxD.nul x1, r1) from by simp [pTx, pMap, pAnd, h1, hk1, hk2, hk3, hk4, hk5]) ⟨(TxV.z, []), fun w hw => ⟨.nil, .nil, .nil, .nil, .nil, .nil⟩⟩ hm (Lr := (b2, Obj.cells (txC (TxD.nul x1) TxV.z).toArray 64 (0, 0)) :: ((b3, Obj.cells (txC (TxD.nul x1) TxV.z).toArray 64 (0, 0)) :: ((b1, Obj.cells #[.pointer (some ⟨rb, 0, none⟩)] 131 (0, 0)) :: []))) (by dsimp only; exact (perm_of fun f => by (simp only [List.map_append, List.map_cons, List.map_nil, List.sum_append, List.sum_cons, List.sum_nil] <;> omega)))
end Go.Proofs.YtfoeakgnkfcbjaaGreatDoor

/- tx: Decode. -/
namespace Go.Proofs.YtfoeakgnkfcbjaaGreatDoor
attribute [local irreducible] Go.Vc.Run Go.Vc.RC Go.Vc.RQ Go.Vc.DR Go.Vc.DOp Go.Vc.Knows Go.Vc.At
set_option maxHeartbeats 400000
set_option maxRecDepth 10000
open Go Go.Vc Go.Sha
set_option maxRecDepth 10000 in set_option maxHeartbeats 4000000 in
theorem DReadF_calls (a : Option Addr) (n c : Nat) (hn : n ≤ 131072) (hc : n ≤ c) {g : FuncId} {fg : Func} (hg : Tryz.prog.funcs[g]? = some fg) (hnm : (fg.name == "runtime.NumGoroutine") = false) (hb : fg.body.isNone = false) (capg : List Value) (w : World) (Lst : Hp) (hw : Has Lst w) (hnd : (Lst.map (·.1)).Nodup) {Y : Type} {o : Y → Option (TypeId × Value)} {k : Y → Nat} (hk : ∀ y, k y ≤ n) (hsh : ∀ y pv, o y = some (126, pv) → pv = .agg #[]) {L' : Y → Hp}
    (h : ∀ rb w', Fr [] w w' → w.heap.size ≤ rb → Has ((rb, RdC a n 0) :: Lst) w' → (((rb, RdC a n 0) :: Lst).map (·.1)).Nodup → TurnsO Tryz.prog g (.pointer (some ⟨rb, 0, none⟩) :: capg) w' ((rb, RdC a n 0) :: Lst) o (fun y => (rb, RdC a n (k y)) :: L' y)) :
    Turns Tryz.prog 40 [.slice a n c, .func (.func g) #[] capg.toArray] w Lst (Y := Y) (fun y => .int .i64 (readE (o y) n (k y))) L' :=
  Read_calls a n c hn hc (.func (.func g) #[] capg.toArray) rfl w Lst hw hnd hk hsh (fun rb bf br w' hf hrb _ _ _ _ _ h1 h2 hA hN hbf hbr =>
    Read1_calls hg hnm hb capg bf br rb w' _ hA hN hbf hbr h1 h2 (fun w'' hf' => h rb w'' (hf.trans hf') hrb (hA.fr hf') hN))
theorem _root_.Go.Vc.SrcW.cap {w : World} {sz m c : Nat} {a : Option Addr} {cs : List Value} (h : SrcW w sz (.slice a m c) m cs) : SrcW w sz (.slice a m m) m cs := by
  generalize hv : Value.slice a m c = v at h
  cases h with
  | nil => cases hv; exact .nil
  | «at» ad _ _ _ hl hc hr => cases hv; exact .at ad _ _ _ hl (Nat.le_refl _) hr
theorem TxRg.ln {t : TxD} (h : TxRg t) : TxLn t := by
  cases h with
  | coin ht os h1 h2 => exact ⟨Nat.zero_le _, by have := h2.1; show os.length ≤ 4096; omega, Nat.zero_le _, Nat.zero_le _, Nat.zero_le _, Nat.zero_le _⟩
  | pay is os fs h1 h2 h3 => exact ⟨by have := h1.1; show is.length ≤ 4096; omega, by have := h2.1; show os.length ≤ 4096; omega, by have := h3.1; show fs.length ≤ 4096; omega, Nat.zero_le _, Nat.zero_le _, Nat.zero_le _⟩
  | create p h => exact ⟨Nat.zero_le _, Nat.zero_le _, Nat.zero_le _, by have := h.2.2.2; show p.ks.length ≤ 4096; omega, Nat.zero_le _, Nat.zero_le _⟩
  | cert c h => exact ⟨Nat.zero_le _, Nat.zero_le _, Nat.zero_le _, Nat.zero_le _, by have := h.2.2.2.1.1; show c.os.length ≤ 4096; omega, by have := h.2.2.2.2.1; show c.sg.length ≤ 4096; omega⟩
  | claim l h => exact ⟨Nat.zero_le _, Nat.zero_le _, Nat.zero_le _, Nat.zero_le _, Nat.zero_le _, Nat.zero_le _⟩
  | none k h h2 => exact ⟨Nat.zero_le _, Nat.zero_le _, Nat.zero_le _, Nat.zero_le _, Nat.zero_le _, Nat.zero_le _⟩
theorem tx_zero : ti64.zero.cells = (txC (TxD.nul 0) TxV.z).toArray := by kernel_rfl
theorem dec1_some {l r : List Nat} {t : TxD} (h : pTx l = some (t, r)) (a : Option Addr) (rb bt : Nat) (w : World) (hI : InB w ([(rb, RdS a l l), (bt, Obj.cells (txC (TxD.nul 0) TxV.z).toArray 64 (0, 0))].map (·.1)) a l) (hw : Has [(rb, RdS a l l), (bt, Obj.cells (txC (TxD.nul 0) TxV.z).toArray 64 (0, 0))] w) (hnd : ([(rb, RdS a l l), (bt, Obj.cells (txC (TxD.nul 0) TxV.z).toArray 64 (0, 0))].map (·.1)).Nodup) :
    TurnsO Tryz.prog 79 [.pointer (some ⟨rb, 0, none⟩), .pointer (some ⟨bt, 0, none⟩)] w [(rb, RdS a l l), (bt, Obj.cells (txC (TxD.nul 0) TxV.z).toArray 64 (0, 0))] (Y := TxY t) (fun _ => none) (fun y => (rb, RdS a l r) :: ((bt, Obj.cells (txC t y.1.1).toArray 64 (0, 0)) :: y.1.2)) := by
  refine enter Tryz.func79 rfl (Mem.init (S0 := [(rb, RdS a l l), (bt, Obj.cells (txC (TxD.nul 0) TxV.z).toArray 64 (0, 0))].map (·.1)) hw (fun p hp => List.mem_map_of_mem hp) hnd) rfl ?_
  refine x_ ?_
  refine Run.a (vbs #[.pointer (some ⟨rb, 0, none⟩)]) ?_
  have hp1 : ([(rb, RdS a l l), (bt, Obj.cells (txC (TxD.nul 0) TxV.z).toArray 64 (0, 0))] : Hp).Perm (((rb, RdS a l l) :: []) ++ [(bt, Obj.cells (txC (TxD.nul 0) TxV.z).toArray 64 (0, 0))]) := List.Perm.refl _
  refine Run.op1 (callRs Tryz.func80 (rdTx rb a l l (List.suffix_refl l)) hI hp1 h) ?_
  rintro ⟨⟨v, bl⟩, hat⟩
  dsimp only
  have hsz : (txC t v).toArray.size = 170 := by rw [List.size_toArray, txC_len]
  refine Run.op1 (osa (arr := (txC (TxD.nul 0) TxV.z).toArray) (e := 64) (L' := (rb, RdS a l r) :: bl) (txC t v).toArray (txC_one t v) (hL := (perm_of fun f => by (simp only [List.map_append, List.map_cons, List.map_nil, List.sum_append, List.sum_cons, List.sum_nil] <;> omega))) (hs := by exact hsz) (hf := by rw [List.size_toArray, txC_len]; rfl)) (fun _ => ?_)
  refine x_ ?_
  exact RQ.end0 rfl fun w' hm => TurnsO.of (Y := TxY t) (o := fun _ => none) (L' := fun y => (rb, RdS a l r) :: ((bt, Obj.cells (txC t y.1.1).toArray 64 (0, 0)) :: y.1.2)) ⟨(v, bl), hat⟩ rfl hm (Lr := []) (by dsimp only; exact (perm_of fun f => by (simp only [List.map_append, List.map_cons, List.map_nil, List.sum_append, List.sum_cons, List.sum_nil] <;> omega)))
theorem dec1_none {l : List Nat} (h : pTx l = none) (a : Option Addr) (rb bt : Nat) (w : World) (hI : InB w ([(rb, RdS a l l), (bt, Obj.cells (txC (TxD.nul 0) TxV.z).toArray 64 (0, 0))].map (·.1)) a l) (hw : Has [(rb, RdS a l l), (bt, Obj.cells (txC (TxD.nul 0) TxV.z).toArray 64 (0, 0))] w) (hnd : ([(rb, RdS a l l), (bt, Obj.cells (txC (TxD.nul 0) TxV.z).toArray 64 (0, 0))].map (·.1)).Nodup) :
    TurnsO Tryz.prog 79 [.pointer (some ⟨rb, 0, none⟩), .pointer (some ⟨bt, 0, none⟩)] w [(rb, RdS a l l), (bt, Obj.cells (txC (TxD.nul 0) TxV.z).toArray 64 (0, 0))] (Y := {k : Nat // k ≤ l.length}) (fun _ => some (126, .agg #[])) (fun y => [(rb, RdC a l.length y.1), (bt, Obj.cells (txC (TxD.nul 0) TxV.z).toArray 64 (0, 0))]) := by
  refine enter Tryz.func79 rfl (Mem.init (S0 := [(rb, RdS a l l), (bt, Obj.cells (txC (TxD.nul 0) TxV.z).toArray 64 (0, 0))].map (·.1)) hw (fun p hp => List.mem_map_of_mem hp) hnd) rfl ?_
  refine x_ ?_
  refine Run.a (vbs #[.pointer (some ⟨rb, 0, none⟩)]) ?_
  have hp1 : ([(rb, RdS a l l), (bt, Obj.cells (txC (TxD.nul 0) TxV.z).toArray 64 (0, 0))] : Hp).Perm (((rb, RdS a l l) :: []) ++ [(bt, Obj.cells (txC (TxD.nul 0) TxV.z).toArray 64 (0, 0))]) := List.Perm.refl _
  refine Run.op1 (callRn Tryz.func80 (rdTx rb a l l (List.suffix_refl l)) hI hp1 h (fun k hk => ?_)) (fun y => y.elim)
  repeat first | refine RQ.thenPanic ?_ | refine RQ.blockPanic ?_
  exact RQ.panic fun w' hm => TurnsO.of (Y := {k : Nat // k ≤ l.length}) (o := fun _ => some (126, .agg #[])) (L' := fun y => [(rb, RdC a l.length y.1), (bt, Obj.cells (txC (TxD.nul 0) TxV.z).toArray 64 (0, 0))]) ⟨k, hk⟩ rfl hm (Lr := []) (List.Perm.refl _)
/-- The transaction that Decode hands back. -/
noncomputable def decT (b : List Nat) : TxD := match pTx b with
  | none => TxD.nul 0
  | some (t, r) => if r ≠ [] ∨ ¬ TxMay t then TxD.nul 0 else t
def TxY.nul : TxY (TxD.nul 0) := ⟨(TxV.z, []), fun _ _ => ⟨.nil, .nil, .nil, .nil, .nil, .nil⟩⟩
set_option maxRecDepth 10000 in set_option maxHeartbeats 4000000 in
theorem TDecode_calls (l : List Nat) (hl : l.length ≤ 131072) (hb : Bt l) (v : Value) (w : World) (hs : SrcW w 1 v l.length (u8s l)) :
    Turns Tryz.prog 45 [v] w [] (Y := TxY (decT l)) (fun y => .tuple #[.agg (txC (decT l) y.1.1).toArray, .int .i64 (decE l)]) (fun y => y.1.2) := by
  refine enter Tryz.func45 rfl (Mem.nil w []) rfl ?_
  obtain ⟨a, c, rfl, hc⟩ := hs.shape
  have hsl : SrcW w 1 (.slice a l.length l.length) l.length (u8s l) := by
    exact hs.cap
  have hI0 : ∀ w', Fr [] w w' → ∀ X : List Nat, (∀ b ∈ X, w.heap.size ≤ b) → InB w' X a l := fun w' hf X hX => ⟨hl, hb, hsl.fr hf, fun h0 ad he hin => by
    obtain ⟨ad', c', hv, _, hcl, hr⟩ := hsl.pos h0
    subst he
    cases hv
    have h1 := World.block_lt_of_cell? w _ (hr 0 _ (List.getElem?_eq_getElem (by rw [hcl]; omega)))
    rw [add_block] at h1
    have := hX _ hin
    omega⟩
  have hl0 : RdS a l l = RdC a l.length 0 := by unfold RdS; rw [Nat.sub_self]
  refine z_ ?_
  refine Run.nw nal ?_
  intro b2
  refine z_ ?_
  refine Run.nw nal ?_
  intro b4
  refine x_ ?_
  refine Run.a (Val.mkFn (fs := []) (cs := [.tmp 4])) ?_
  have hz : ([(b4, Obj.cells ti64.zero.cells 64 (0, 0)), (b2, Obj.cells ti64.zero.cells 64 (0, 0))] : Hp) = [(b4, Obj.cells (txC (TxD.nul 0) TxV.z).toArray 64 (0, 0)), (b2, Obj.cells (txC (TxD.nul 0) TxV.z).toArray 64 (0, 0))] := by rw [tx_zero]
  refine runPerm (L' := [(b4, Obj.cells (txC (TxD.nul 0) TxV.z).toArray 64 (0, 0)), (b2, Obj.cells (txC (TxD.nul 0) TxV.z).toArray 64 (0, 0))]) (by rw [← hz]) ?_
  have hpR : ([(b4, Obj.cells (txC (TxD.nul 0) TxV.z).toArray 64 (0, 0)), (b2, Obj.cells (txC (TxD.nul 0) TxV.z).toArray 64 (0, 0))] : Hp).Perm ([(b4, Obj.cells (txC (TxD.nul 0) TxV.z).toArray 64 (0, 0))] ++ [(b2, Obj.cells (txC (TxD.nul 0) TxV.z).toArray 64 (0, 0))]) := List.Perm.refl _
  have hz2 : ∀ x : Nat, (txC (TxD.nul 0) TxV.z).toArray.size = ti64.size := fun _ => by rw [List.size_toArray, txC_len]; rfl
  have hnul : ∀ e : Int, decT l = TxD.nul 0 → decE l = e → ∀ w' L1, Mem w [] ((b2, Obj.cells (txC (TxD.nul 0) TxV.z).toArray 64 (0, 0)) :: L1) w' → ∃ y' : TxY (decT l), Ending.returned (.tuple #[.agg (txC (TxD.nul 0) TxV.z).toArray, .int .i64 e]) = Ending.returned (.tuple #[.agg (txC (decT l) y'.1.1).toArray, .int .i64 (decE l)]) ∧ Fr (([] : Hp).map (·.1)) w w' ∧ Has y'.1.2 w' ∧ (∀ p ∈ y'.1.2, w.heap.size ≤ p.1 ∨ p.1 ∈ ([] : Hp).map (·.1)) ∧ (y'.1.2.map (·.1)).Nodup := fun e h1 h2 w' L1 hm => by
    rw [h1, h2]
    exact Turns.of (Y := TxY (TxD.nul 0)) (V := fun y => .tuple #[.agg (txC (TxD.nul 0) y.1.1).toArray, .int .i64 e]) (L' := fun y => y.1.2) (Lst := []) TxY.nul hm (Lr := _) (List.Perm.refl _)
  rcases hp : pTx l with _ | ⟨t, r⟩
  · have hT : decT l = TxD.nul 0 := by unfold decT; rw [hp]
    have hE : decE l = 2 := by unfold decE; rw [if_neg (by omega), hp]
    refine Run.op1 (OpTo.callT Tryz.func40 hpR (fun w' hm => DReadF_calls a l.length c hl hc Tryz.func79 rfl rfl [.pointer (some ⟨b4, 0, none⟩)] w' [(b4, Obj.cells (txC (TxD.nul 0) TxV.z).toArray 64 (0, 0))] (hasFs hpR hm).1 (hasFs hpR hm).2 (Y := {k : Nat // k ≤ l.length}) (o := fun _ => some (126, .agg #[])) (k := fun y => y.1) (L' := fun _ => [(b4, Obj.cells (txC (TxD.nul 0) TxV.z).toArray 64 (0, 0))]) (fun y => y.2) (fun y pv h => by cases h; rfl) (fun rb w'' hf hrb hA hN => by rw [← hl0] at hA hN ⊢; exact dec1_none hp a rb b4 w'' (hI0 w'' (hm.fr.trans hf) _ (fun b hb => by have h4 := hm.own ((b4, Obj.cells (txC (TxD.nul 0) TxV.z).toArray 64 (0, 0))) List.mem_cons_self; have h5 := hm.fr.size; rcases List.mem_cons.1 hb with rfl | hb; exact Nat.le_trans h5 hrb; rw [List.mem_singleton.1 hb]; exact h4.resolve_right (by simp))) hA hN))) ?_
    rintro ⟨k, hk⟩
    dsimp only [readE]
    rw [if_pos rfl]
    refine x_ ?_
    refine Run.op1 (osa (arr := (txC (TxD.nul 0) TxV.z).toArray) (e := 64) (L' := [(b4, Obj.cells (txC (TxD.nul 0) TxV.z).toArray 64 (0, 0))]) (txC (TxD.nul 0) TxV.z).toArray (txC_one _ _) (hL := (perm_of fun f => by (simp only [List.map_append, List.map_cons, List.map_nil, List.sum_append, List.sum_cons, List.sum_nil] <;> omega))) (hs := by exact hz2 0) (hf := by exact (hz2 0).symm)) (fun _ => ?_)
    refine x_ ?_
    exact RQ.ret2 rfl (Res.cellAll tabOk rfl rfl rfl m0 (hz2 0)) (Res.tmp rfl) fun w' hm => hnul 2 hT hE w' _ hm
  have hbr : Bt r := good_tx.lt hb hp
  have hrg : TxRg t := (good_tx.b l t r hb hp).2
  have hsf : r <:+ l := good_tx.sfx hb (List.suffix_refl l) hp
  have hrl := hsf.length_le
  have hts : ∀ v, (txC t v).toArray.size = ti64.size := fun v => by rw [List.size_toArray, txC_len]; rfl
  refine Run.op1 (OpTo.callT Tryz.func40 hpR (fun w' hm => DReadF_calls a l.length c hl hc Tryz.func79 rfl rfl [.pointer (some ⟨b4, 0, none⟩)] w' [(b4, Obj.cells (txC (TxD.nul 0) TxV.z).toArray 64 (0, 0))] (hasFs hpR hm).1 (hasFs hpR hm).2 (Y := TxY t) (o := fun _ => none) (k := fun _ => l.length - r.length) (L' := fun y => (b4, Obj.cells (txC t y.1.1).toArray 64 (0, 0)) :: y.1.2) (fun _ => by omega) (fun y pv h => by cases h) (fun rb w'' hf hrb hA hN => by rw [← hl0] at hA hN ⊢; exact dec1_some hp a rb b4 w'' (hI0 w'' (hm.fr.trans hf) _ (fun b hb => by have h4 := hm.own ((b4, Obj.cells (txC (TxD.nul 0) TxV.z).toArray 64 (0, 0))) List.mem_cons_self; have h5 := hm.fr.size; rcases List.mem_cons.1 hb with rfl | hb; exact Nat.le_trans h5 hrb; rw [List.mem_singleton.1 hb]; exact h4.resolve_right (by simp))) hA hN))) ?_
  rintro ⟨⟨v4, l4⟩, hat⟩
  dsimp only [readE, List.cons_append]
  by_cases hr0 : r = []
  rotate_left
  · have hT : decT l = TxD.nul 0 := by unfold decT; rw [hp]; exact if_pos (.inl hr0)
    have hE : decE l = 4 := by unfold decE; rw [if_neg (by omega), hp]; exact if_pos (.inl hr0)
    have hr1 : 0 < r.length := List.length_pos_iff.2 hr0
    rw [if_pos (by omega)]
    refine x_ ?_
    refine Run.op1 (osa (arr := (txC (TxD.nul 0) TxV.z).toArray) (e := 64) (L' := (b4, Obj.cells (txC t v4).toArray 64 (0, 0)) :: l4) (txC (TxD.nul 0) TxV.z).toArray (txC_one _ _) (hL := (perm_of fun f => by (simp only [List.map_append, List.map_cons, List.map_nil, List.sum_append, List.sum_cons, List.sum_nil] <;> omega))) (hs := by exact hz2 0) (hf := by exact (hz2 0).symm)) (fun _ => ?_)
    refine x_ ?_
    exact RQ.ret2 rfl (Res.cellAll tabOk rfl rfl rfl m0 (hz2 0)) (Res.tmp rfl) fun w' hm => hnul 4 hT hE w' _ hm
  rw [if_neg (by rw [hr0, List.length_nil]; omega)]
  have h170 := hts v4
  refine x_ ?_
  refine Run.op1 (OpTo.cv Tryz.func81 (fun w' hm => TMay_calls t v4 hrg.ln w' (hat w' (fun q hq => hm.has q (by repeat (first | exact List.mem_append_left _ hq | exact hq | apply List.mem_append_right | apply List.mem_cons_of_mem)))))) (fun _ => ?_)
  by_cases hM : TxMay t
  rotate_left
  · have hT : decT l = TxD.nul 0 := by unfold decT; rw [hp]; exact if_pos (.inr hM)
    have hE : decE l = 4 := by unfold decE; rw [if_neg (by omega), hp]; exact if_pos (.inr hM)
    rw [decide_eq_false hM]
    refine x_ ?_
    refine Run.op1 (osa (arr := (txC (TxD.nul 0) TxV.z).toArray) (e := 64) (L' := (b4, Obj.cells (txC t v4).toArray 64 (0, 0)) :: l4) (txC (TxD.nul 0) TxV.z).toArray (txC_one _ _) (hL := (perm_of fun f => by (simp only [List.map_append, List.map_cons, List.map_nil, List.sum_append, List.sum_cons, List.sum_nil] <;> omega))) (hs := by exact hz2 0) (hf := by exact (hz2 0).symm)) (fun _ => ?_)
    refine x_ ?_
    exact RQ.ret2 rfl (Res.cellAll tabOk rfl rfl rfl m0 (hz2 0)) (Res.tmp rfl) fun w' hm => hnul 4 hT hE w' _ hm
  have hT : decT l = t := by unfold decT; rw [hp]; exact if_neg (by rintro (h | h); exact h hr0; exact h hM)
  have hE : decE l = 0 := by unfold decE; rw [if_neg (by omega), hp]; exact if_neg (by rintro (h | h); exact h hr0; exact h hM)
  rw [decide_eq_true hM, hT, hE]
  refine x_ ?_
  refine Run.op1 (osa (arr := (txC (TxD.nul 0) TxV.z).toArray) (e := 64) (L' := (b4, Obj.cells (txC t v4).toArray 64 (0, 0)) :: l4) (txC t v4).toArray (txC_one _ _) (hL := (perm_of fun f => by (simp only [List.map_append, List.map_cons, List.map_nil, List.sum_append, List.sum_cons, List.sum_nil] <;> omega))) (hs := by exact h170) (hf := by exact (hz2 0).symm)) (fun _ => ?_)
  refine x_ ?_
  exact RQ.ret2 rfl (Res.cellAll tabOk rfl rfl rfl m0 h170) (Res.tmp rfl) fun w' hm => Turns.of (Y := TxY t) (V := fun y => .tuple #[.agg (txC t y.1.1).toArray, .int .i64 0]) (L' := fun y => y.1.2) (Lst := []) ⟨(v4, l4), hat⟩ hm (Lr := [(b2, Obj.cells (txC t v4).toArray 64 (0, 0)), (b4, Obj.cells (txC t v4).toArray 64 (0, 0))]) (by dsimp only; exact (perm_of fun f => by (simp only [List.map_append, List.map_cons, List.map_nil, List.sum_append, List.sum_cons, List.sum_nil] <;> omega)))
end Go.Proofs.YtfoeakgnkfcbjaaGreatDoor
end
