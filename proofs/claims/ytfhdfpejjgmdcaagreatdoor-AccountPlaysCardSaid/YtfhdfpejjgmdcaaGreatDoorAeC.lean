/- account: AccountPlays. -/
import Derived.Test.YtfhdfpejjgmdcaaGreatDoorAeB
set_option linter.unusedSimpArgs false
set_option linter.unusedVariables false
namespace Go.Proofs.YtfhdfpejjgmdcaaGreatDoor
attribute [local irreducible] Go.Vc.Run Go.Vc.RC Go.Vc.RQ Go.Vc.DR Go.Vc.DOp
open Go Go.Vc Go.Sha
def dyO (x : DyD) (o : List Nat) (h : H8 o) : DyD := { x with o := o, h8 := h }
theorem dy_wO (x : DyD) (o : List Nat) (h : H8 o) : wrAt x.c.toArray 3 (Value.cells (.agg (u8s o).toArray)).toList = (dyO x o h).c.toArray := dy_w3 x o h
set_option maxRecDepth 10000 in set_option maxHeartbeats 4000000 in
theorem AccountPlays_calls (side : Int) (l : List DyD) (vl0 : Value) (w : World) (hs : SrcW w 307 vl0 l.length (rws DyD.c l)) (hK : Laid w) :
    Gives Tryz.prog 3 [.int .i64 side, vl0] (.bool true) w := by
  refine enter Tryz.func3 rfl (Mem.nil w []) rfl ?_
  obtain ⟨la, lc, rfl, hlc⟩ := hs.shape
  refine z_ ?_
  refine Run.op1 (OpTo.cv Tryz.func4 (fun w' hm => ac_awake_calls w' (hK.fr hm.fr (by simp)))) (fun _ => ?_)
  by_cases h30 : 30 < l.length
  · refine z_ ?_
    exact RQ.ret1 rfl (Res.tmp rfl) fun w' hm => ⟨rfl, hm.fr⟩
  refine z_ ?_
  have hz0 : ([] : Hp).Perm ([] ++ []) := List.Perm.refl _
  refine Run.op1 (OpTo.callT Tryz.func5 hz0 (fun w' hm => ANew_calls side w')) ?_
  rintro ⟨⟨ab0, y0⟩, hy0⟩
  dsimp only at hy0 ⊢
  refine z_ ?_
  refine Run.a (vbs #[.int .i64 side, .slice none 0 0, .slice none 0 0, .slice none 0 0]) ?_
  refine Run.nw nbx ?_
  intro rb
  refine z_ ?_
  obtain ⟨b0, hb0⟩ : ∃ b : Bk ab0 rb, b = ⟨y0, rlNil rb side, hy0⟩ := ⟨_, rfl⟩
  have hp0 : ((rb, Obj.cells #[.int .i64 side, .slice none 0 0, .slice none 0 0, .slice none 0 0] 31 (0, 0)) :: (y0.L ++ []) : Hp).Perm b0.L := by
    rw [hb0]
    unfold Bk.L
    rw [show (rlNil rb side).L = [(rb, Obj.cells #[.int .i64 side, .slice none 0 0, .slice none 0 0, .slice none 0 0] 31 (0, 0))] from rfl]
    exact (perm_of fun f => by (simp only [List.map_append, List.map_cons, List.map_nil, List.sum_append, List.sum_cons, List.sum_nil] <;> omega))
  refine RC.perm hp0 ?_
  refine RC.up l.length (D := (ab : Nat) × Bk ab rb) (fun _ _ => True) (fun i x => [(7, .int .i64 i), (6, .pointer (some ⟨rb, 0, none⟩)), (5, .pointer (some ⟨x.1, 0, none⟩)), (1, .slice la l.length lc), (0, .int .i64 side)]) (fun _ x => x.2.L) 0 ⟨ab0, b0⟩ (Nat.zero_le _) trivial ⟨rfl, rfl, rfl, rfl, rfl, trivial⟩ (List.Sublist.refl _) ?_
  clear hp0 hb0 b0 hy0 y0
  rintro i ⟨ab, y, z, he⟩ hi -
  unfold Bk.L
  dsimp only
  refine z_ ?_
  (repeat refine RC.seq ?_); refine RC.wh rfl (fun h => RQ.next ?_) (fun h => ?_)
  · have hi' : i < l.length := by have := of_decide_eq_true h; omega
    clear h
    obtain ⟨x, hx⟩ : ∃ x, l[i]? = some x := ⟨_, List.getElem?_eq_getElem hi'⟩
    obtain ⟨ad, c', hv', hc', hcl, hr⟩ := hs.pos (by omega)
    cases hv'
    have hload : ∀ j u, x.c[j]? = some u → w.cell? ((ad.add (i * 307)).add j) = some u := fun j u hj => by
      rw [add_add]; exact hr _ u (rws_at DyD.len hx j u hj)
    have hel := x.len
    have he1 := x.one
    obtain ⟨q0, qf, qw, qt, qb⟩ := dy_rd x
    refine z_ ?_
    refine Run.a (vix i hi' (ad.add (i * 307))) ?_
    refine Run.a (vloA hload hel) ?_
    refine Run.nw nal ?_
    intro b8
    refine Run.op1 (osa (L' := (y.L ++ z.L)) x.c.toArray he1 (hs := hel) (hf := by kernel_rfl)) (fun _ => ?_)
    refine Run.nil (RQ.next ?_)
    (repeat refine RC.seq ?_); refine RC.region ?_
    refine Run.a vf0 ?_
    refine Run.a (vl (.int .i64 x.d) (arr := x.c.toArray) (hv := by exact q0)) ?_
    refine Run.nil (RQ.next ?_)
    refine RC.thenMid (Y := (ab : Nat) × Bk ab rb) (fun x => [(7, .int .i64 i), (6, .pointer (some ⟨rb, 0, none⟩)), (5, .pointer (some ⟨x.1, 0, none⟩)), (1, .slice (some ad) l.length lc), (0, .int .i64 side)]) (fun x => x.2.L) ?_ ?_
    · by_cases hdA : x.d = 0 ∨ x.d = 1
      · obtain ⟨TR, hTR⟩ : ∃ TR, TR = treeOf (sedV x.who) := ⟨_, rfl⟩
        have hT8 : H8 TR := by rw [hTR]; exact treeOf_8 _
        have ctr := fun w' => ref_Tree_calls (sedV x.who) (sedV_8 x.who).1 (sedV_8 x.who).2 w'
        rw [← hTR] at ctr
        obtain ⟨x1, hx1⟩ : ∃ x1 : DyD, x1 = dyO x TR hT8 := ⟨_, rfl⟩
        have hw1 : wrAt x.c.toArray 3 (u8s TR) = x1.c.toArray := by rw [hx1]; exact dy_w3 x TR hT8
        have l1 := x1.len
        have qb1 := (dy_rd x1).2.2.2.2
        clear hx1
        refine RC.block ?_
        refine RC.seq ?_
        refine RC.thenCut (Y := Unit) (fun _ => [(47, .bool true), (8, .pointer (some ⟨b8, 0, none⟩)), (7, .int .i64 i), (6, .pointer (some ⟨rb, 0, none⟩)), (5, .pointer (some ⟨ab, 0, none⟩)), (1, .slice (some ad) l.length lc), (0, .int .i64 side)]) (fun _ => (b8, Obj.cells x.c.toArray 43 (0, 0)) :: (y.L ++ z.L)) ?_ (fun _ => ?_)
        · rcases hdA with hd | hd
          · refine z_ ?_
            exact RQ.toP () ⟨rfl, rfl, rfl, rfl, rfl, rfl, rfl, trivial⟩ (List.Perm.refl _) (List.Sublist.refl _)
          · refine z_ ?_
            exact RQ.toP () ⟨rfl, rfl, rfl, rfl, rfl, rfl, rfl, trivial⟩ (List.Perm.refl _) (List.Sublist.refl _)
        refine z_ ?_
        refine Run.a (vl (.int .i64 x.who) (arr := x.c.toArray) (hm := (by repeat (first | exact List.mem_cons_self | apply List.mem_cons_of_mem | apply List.mem_append_right))) (hv := by exact qw)) ?_
        refine Run.op1 (OpTo.cv Tryz.func7 (fun w' _ => aSeed_calls x.who w')) (fun _ => ?_)
        refine Run.op1 (OpTo.cv Tryz.func6 (fun w' _ => ctr w')) (fun _ => ?_)
        refine z_ ?_
        refine Run.op1 (ost (ti := ti33) (off := 3) (v := .agg (u8s TR).toArray) (arr := x.c.toArray) (e := 43) (L' := (y.L ++ z.L)) x1.c.toArray (by simpa only [Value.cells] using hw1) (by rw [List.size_toArray, hel]; decide) (fun u hu => u8s_one TR u (by simpa [Value.cells] using hu)) (hs := by simp only [Value.cells, List.size_toArray, u8s_len, hT8.1]; rfl)) (fun _ => ?_)
        refine Run.nil (RQ.next ?_)
        refine RC.seq ?_
        refine RC.thenCut (Y := DyD) (fun _ => [(8, .pointer (some ⟨b8, 0, none⟩)), (7, .int .i64 i), (6, .pointer (some ⟨rb, 0, none⟩)), (5, .pointer (some ⟨ab, 0, none⟩)), (1, .slice (some ad) l.length lc), (0, .int .i64 side)]) (fun x2 => (b8, Obj.cells x2.c.toArray 43 (0, 0)) :: (y.L ++ z.L)) ?_ (fun x2 => ?_)
        · refine z_ ?_
          refine Run.a (vl (.int .u8 x1.be) (arr := x1.c.toArray) (hm := (by repeat (first | exact List.mem_cons_self | apply List.mem_cons_of_mem | apply List.mem_append_right))) (hv := by exact qb1)) ?_
          by_cases h7 : x1.be = 7
          · refine z_ ?_
            refine Run.a (vba (u8s Z8).toArray) ?_
            refine z_ ?_
            refine Run.op1 (ost (ti := ti33) (off := 3) (v := .agg (u8s Z8).toArray) (arr := x1.c.toArray) (e := 43) (L' := (y.L ++ z.L)) (dyO x1 Z8 H8.z).c.toArray (dy_wO x1 Z8 H8.z) (by rw [List.size_toArray, l1]; decide) (fun u hu => u8s_one Z8 u (by simpa [Value.cells] using hu)) (hs := by rfl)) (fun _ => ?_)
            refine z_ ?_
            exact RQ.toP (dyO x1 Z8 H8.z) ⟨rfl, rfl, rfl, rfl, rfl, rfl, trivial⟩ (List.Perm.refl _) (List.Sublist.refl _)
          · refine z_ ?_
            exact RQ.toP x1 ⟨rfl, rfl, rfl, rfl, rfl, rfl, trivial⟩ (List.Perm.refl _) (List.Sublist.refl _)
        have rf2 := (dy_rd x2).2.1
        have lf2 := fw_len x2
        have cA := fun w' h1 h2 h3 h4 => ACredit_calls y x2.sd x2.ac x2.o x2.h8 x2.am w' h1 h2 h3 h4
        have cR := fun w' h1 h2 => RCredit_calls z x2.sd x2.ac x2.o x2.h8 x2.am w' h1 h2
        rw [← he] at cR
        generalize decide (crOk y.s x2.sd x2.ac x2.o x2.am) = ok at cA cR
        refine z_ ?_
        (repeat refine RC.seq ?_); refine RC.draw ([(b8, Obj.cells x2.c.toArray 43 (0, 0))]) mixed (N := 9) rfl ?_
        refine dt 0 ?_
        refine dt 1 ?_
        refine DR.t 2 rfl (Val.loadR tabOk (cs := fwC x2.sd x2.ac x2.o x2.am) rfl rfl rfl rfl lf2 (Rd.row (by repeat (first | exact List.mem_cons_self | apply List.mem_cons_of_mem | apply List.mem_append_right)) rf2)) ?_
        refine dt 4 ?_
        refine dt 5 ?_
        refine DR.t 6 rfl (Val.loadR tabOk (cs := fwC x2.sd x2.ac x2.o x2.am) rfl rfl rfl rfl lf2 (Rd.row (by repeat (first | exact List.mem_cons_self | apply List.mem_cons_of_mem | apply List.mem_append_right)) rf2)) ?_
        have hpA : ((b8, Obj.cells x2.c.toArray 43 (0, 0)) :: (y.L ++ z.L) : Hp).Perm (y.L ++ ((b8, Obj.cells x2.c.toArray 43 (0, 0)) :: z.L)) := (perm_of fun f => by (simp only [List.map_append, List.map_cons, List.map_nil, List.sum_append, List.sum_cons, List.sum_nil] <;> omega))
        refine DR.c 3 (DOp.op1 rfl (OpTo.callT Tryz.func8 hpA (fun w' hm => cA w' (hm.part hpA).1 (hm.part hpA).2 (hK.fr hm.fr (by simp)) (fresh_idsS hK (by simp) (hm.perm hpA) (fun p hp => List.mem_append_left _ hp)))) ?_)
        rintro ⟨y', hy'⟩
        dsimp only
        have hpB : (y'.L ++ ((b8, Obj.cells x2.c.toArray 43 (0, 0)) :: z.L) : Hp).Perm (z.L ++ ((b8, Obj.cells x2.c.toArray 43 (0, 0)) :: y'.L)) := (perm_of fun f => by (simp only [List.map_append, List.map_cons, List.map_nil, List.sum_append, List.sum_cons, List.sum_nil] <;> omega))
        refine DR.c 7 (DOp.op1 rfl (OpTo.callT Tryz.func9 hpB (fun w' hm => cR w' (hm.part hpB).1 (hm.part hpB).2)) ?_)
        rintro ⟨z', hz'⟩
        dsimp only
        refine DR.c 8 ?_
        refine DOp.vl rfl (Val.eq (Val.neBool tabOk rfl rfl rfl rfl rfl) (show _ = Value.bool false from by simp)) ?_
        refine DR.done (by kernel_rfl) ?_
        refine z_ ?_
        exact RQ.midY ⟨ab, y', z', by rw [hy', hz']⟩ ⟨rfl, rfl, rfl, rfl, rfl, trivial⟩ (L1 := (y'.L ++ z'.L) ++ [(b8, Obj.cells x2.c.toArray 43 (0, 0))]) (perm_of fun f => by (simp only [List.map_append, List.map_cons, List.map_nil, List.sum_append, List.sum_cons, List.sum_nil] <;> omega)) (List.sublist_append_left _ _)
      by_cases hdB : x.d = 2 ∨ x.d = 3 ∨ x.d = 4
      · have hd0 : x.d ≠ 0 ∧ x.d ≠ 1 := by omega
        have cmk := fun w' hw' => aMake_calls z side x w' hw'
        generalize mkT z.s side x = tx at cmk
        have ltx : tx.c.toArray.size = 293 := tx.len
        have otx := tx.one
        have cM1 := fun w' hk => AMess_calls side tx w' hk
        have cM2 := fun w' => RMess_calls side tx w'
        have cY1 := fun w' => AMay_calls tx w'
        have cY2 := fun w' => RMay_calls tx w'
        have cA := fun w' h1 h2 h3 h4 => ADo_calls y tx w' h1 h2 h3 h4
        have cR := fun w' h1 h2 => RDo_calls z tx w' h1 h2
        have hm8 := messX_8 side tx
        rw [← he] at cR
        generalize messX side tx = M at cM1 cM2 hm8
        generalize decide (mokX side tx) = mok at cM1 cM2
        generalize decide (maySx tx) = may at cY1 cY2
        generalize erX y.s tx = er at cA cR
        have sM : (u8s M).toArray.size = 8 := by rw [List.size_toArray, u8s_len, hm8.1]
        refine z_ ?_
        refine RC.thenCut (Y := Unit) (fun _ => [(71, .bool true), (8, .pointer (some ⟨b8, 0, none⟩)), (7, .int .i64 i), (6, .pointer (some ⟨rb, 0, none⟩)), (5, .pointer (some ⟨ab, 0, none⟩)), (1, .slice (some ad) l.length lc), (0, .int .i64 side)]) (fun _ => (b8, Obj.cells x.c.toArray 43 (0, 0)) :: (y.L ++ z.L)) ?_ (fun _ => ?_)
        · rcases hdB with hd | hd | hd
          · refine z_ ?_
            exact RQ.toP () ⟨(by show some (Value.bool (x.d == 2)) = some (Value.bool true); rw [hd]; rfl), rfl, rfl, rfl, rfl, rfl, rfl, trivial⟩ (List.Perm.refl _) (List.Sublist.refl _)
          · refine z_ ?_
            exact RQ.toP () ⟨rfl, rfl, rfl, rfl, rfl, rfl, rfl, trivial⟩ (List.Perm.refl _) (List.Sublist.refl _)
          · refine z_ ?_
            exact RQ.toP () ⟨rfl, rfl, rfl, rfl, rfl, rfl, rfl, trivial⟩ (List.Perm.refl _) (List.Sublist.refl _)
        refine z_ ?_
        refine Run.a (vla (arr := x.c.toArray) (hm := (by repeat (first | exact List.mem_cons_self | apply List.mem_cons_of_mem | apply List.mem_append_right))) (hv := by exact hel)) ?_
        refine z_ ?_
        refine Run.op1 (OpTo.cv Tryz.func10 (fun w' hm => cmk w' (fun q hq => hm.has q (List.mem_cons_of_mem _ (List.mem_append_right _ hq))))) (fun _ => ?_)
        refine Run.nw nal ?_
        intro b9
        refine Run.op1 (osa (L' := (b8, Obj.cells x.c.toArray 43 (0, 0)) :: (y.L ++ z.L)) tx.c.toArray otx (hs := by exact ltx) (hf := by kernel_rfl)) (fun _ => ?_)
        refine z_ ?_
        refine Run.a (vla (arr := tx.c.toArray) (hm := (by repeat (first | exact List.mem_cons_self | apply List.mem_cons_of_mem | apply List.mem_append_right))) (hv := by exact ltx)) ?_
        refine Run.op1 (OpTo.cv Tryz.func11 (fun w' hm => cM1 w' (hK.fr hm.fr (by simp)))) (fun _ => ?_)
        refine z_ ?_
        refine Run.nw nal ?_
        intro b10
        refine Run.op1 (osa (L' := (b9, Obj.cells tx.c.toArray 41 (0, 0)) :: (b8, Obj.cells x.c.toArray 43 (0, 0)) :: (y.L ++ z.L)) (u8s M).toArray (u8s_one _) (hs := by exact sM) (hf := by kernel_rfl)) (fun _ => ?_)
        refine z_ ?_
        refine Run.a (vla (arr := tx.c.toArray) (hm := (by repeat (first | exact List.mem_cons_self | apply List.mem_cons_of_mem | apply List.mem_append_right))) (hv := by exact ltx)) ?_
        refine Run.op1 (OpTo.cv Tryz.func12 (fun w' _ => cM2 w')) (fun _ => ?_)
        refine z_ ?_
        refine Run.nw nal ?_
        intro b12
        refine Run.op1 (osa (L' := (b10, Obj.cells (u8s M).toArray 33 (0, 0)) :: (b9, Obj.cells tx.c.toArray 41 (0, 0)) :: (b8, Obj.cells x.c.toArray 43 (0, 0)) :: (y.L ++ z.L)) (u8s M).toArray (u8s_one _) (hs := by exact sM) (hf := by kernel_rfl)) (fun _ => ?_)
        refine z_ ?_
        (repeat refine RC.seq ?_); refine RC.draw ([(b12, Obj.cells (u8s M).toArray 33 (0, 0)), (b10, Obj.cells (u8s M).toArray 33 (0, 0)), (b9, Obj.cells tx.c.toArray 41 (0, 0))]) mixed (N := 24) rfl ?_
        refine DR.t 0 rfl (vla (arr := (u8s M).toArray) (hm := (by repeat (first | exact List.mem_cons_self | apply List.mem_cons_of_mem | apply List.mem_append_right))) (hv := by exact sM)) ?_
        refine DR.t 1 rfl (vla (arr := (u8s M).toArray) (hm := (by repeat (first | exact List.mem_cons_self | apply List.mem_cons_of_mem | apply List.mem_append_right))) (hv := by exact sM)) ?_
        refine DR.t 2 rfl (vnu 8 M hm8.1 (by kernel_rfl)) ?_
        refine dt 3 ?_
        refine dt 4 ?_
        refine dt 5 ?_
        refine DR.t 6 rfl (Val.eq (Val.neBool tabOk rfl rfl rfl rfl rfl) (show _ = Value.bool false from by simp)) ?_
        refine dt 7 ?_
        refine dt 8 ?_
        refine DR.t 9 rfl (vla (arr := tx.c.toArray) (hm := (by repeat (first | exact List.mem_cons_self | apply List.mem_cons_of_mem | apply List.mem_append_right))) (hv := by exact ltx)) ?_
        refine DR.t 11 rfl (vla (arr := tx.c.toArray) (hm := (by repeat (first | exact List.mem_cons_self | apply List.mem_cons_of_mem | apply List.mem_append_right))) (hv := by exact ltx)) ?_
        refine DR.c 10 (DOp.op1 rfl (OpTo.cv Tryz.func13 (fun w' _ => cY1 w')) (fun _ => ?_))
        refine DR.c 12 (DOp.op1 rfl (OpTo.cv Tryz.func14 (fun w' _ => cY2 w')) (fun _ => ?_))
        refine DR.t 13 rfl (Val.eq (Val.neBool tabOk rfl rfl rfl rfl rfl) (show _ = Value.bool false from by simp)) ?_
        refine dt 14 ?_
        refine dt 15 ?_
        refine dt 16 ?_
        refine DR.t 17 rfl (vla (arr := tx.c.toArray) (hm := (by repeat (first | exact List.mem_cons_self | apply List.mem_cons_of_mem | apply List.mem_append_right))) (hv := by exact ltx)) ?_
        refine dt 19 ?_
        refine DR.t 20 rfl (vla (arr := tx.c.toArray) (hm := (by repeat (first | exact List.mem_cons_self | apply List.mem_cons_of_mem | apply List.mem_append_right))) (hv := by exact ltx)) ?_
        have hpB : ((b12, Obj.cells (u8s M).toArray 33 (0, 0)) :: (b10, Obj.cells (u8s M).toArray 33 (0, 0)) :: (b9, Obj.cells tx.c.toArray 41 (0, 0)) :: (b8, Obj.cells x.c.toArray 43 (0, 0)) :: (y.L ++ z.L) : Hp).Perm (y.L ++ ((b12, Obj.cells (u8s M).toArray 33 (0, 0)) :: (b10, Obj.cells (u8s M).toArray 33 (0, 0)) :: (b9, Obj.cells tx.c.toArray 41 (0, 0)) :: (b8, Obj.cells x.c.toArray 43 (0, 0)) :: z.L)) := (perm_of fun f => by (simp only [List.map_append, List.map_cons, List.map_nil, List.sum_append, List.sum_cons, List.sum_nil] <;> omega))
        refine DR.c 18 (DOp.op1 rfl (OpTo.callT Tryz.func15 hpB (fun w' hm => cA w' (hm.part hpB).1 (hm.part hpB).2 (hK.fr hm.fr (by simp)) (fresh_idsS hK (by simp) (hm.perm hpB) (fun p hp => List.mem_append_left _ hp)))) ?_)
        rintro ⟨y', hy'⟩
        dsimp only
        have hpA : (y'.L ++ ((b12, Obj.cells (u8s M).toArray 33 (0, 0)) :: (b10, Obj.cells (u8s M).toArray 33 (0, 0)) :: (b9, Obj.cells tx.c.toArray 41 (0, 0)) :: (b8, Obj.cells x.c.toArray 43 (0, 0)) :: z.L) : Hp).Perm (z.L ++ ((b12, Obj.cells (u8s M).toArray 33 (0, 0)) :: (b10, Obj.cells (u8s M).toArray 33 (0, 0)) :: (b9, Obj.cells tx.c.toArray 41 (0, 0)) :: (b8, Obj.cells x.c.toArray 43 (0, 0)) :: y'.L)) := (perm_of fun f => by (simp only [List.map_append, List.map_cons, List.map_nil, List.sum_append, List.sum_cons, List.sum_nil] <;> omega))
        refine DR.c 21 (DOp.op1 rfl (OpTo.callT Tryz.func16 hpA (fun w' hm => cR w' (hm.part hpA).1 (hm.part hpA).2)) ?_)
        rintro ⟨z', hz'⟩
        dsimp only
        refine dt 22 ?_
        refine dt 23 ?_
        refine DR.done (by kernel_rfl) ?_
        refine z_ ?_
        exact RQ.midY ⟨ab, y', z', by rw [hy', hz', he]⟩ ⟨rfl, rfl, rfl, rfl, rfl, trivial⟩ (L1 := (y'.L ++ z'.L) ++ [(b12, Obj.cells (u8s M).toArray 33 (0, 0)), (b10, Obj.cells (u8s M).toArray 33 (0, 0)), (b9, Obj.cells tx.c.toArray 41 (0, 0)), (b8, Obj.cells x.c.toArray 43 (0, 0))]) (perm_of fun f => by (simp only [List.map_append, List.map_cons, List.map_nil, List.sum_append, List.sum_cons, List.sum_nil] <;> omega)) (List.sublist_append_left _ _)
      by_cases hdC : x.d = 5
      · obtain ⟨aO, cO, evO, hcO⟩ := y.hO.shape
        have hO := y.hO
        have cc := fun w' h1 h2 => AClose_calls y w' h1 h2
        have cd := fun w' h1 h2 => RClose_calls z w' h1 h2
        have h8 := nodeF_8 (acF_ok y.s.acs) 16 0
        rw [← he] at cd
        rw [evO] at cc hO
        generalize nodeF (acF y.s.acs) 16 0 = R at cc cd h8
        have sR : (u8s R).toArray.size = 8 := by rw [List.size_toArray, u8s_len, h8.1]
        have hes : y.shut.s = z.shut.s := by show ({ y.s with out := [] } : LS) = { z.s with out := [] }; rw [he]
        refine z_ ?_
        have hpA : ((b8, Obj.cells x.c.toArray 43 (0, 0)) :: (y.L ++ z.L) : Hp).Perm (y.L ++ ((b8, Obj.cells x.c.toArray 43 (0, 0)) :: z.L)) := (perm_of fun f => by (simp only [List.map_append, List.map_cons, List.map_nil, List.sum_append, List.sum_cons, List.sum_nil] <;> omega))
        refine Run.op1 (OpTo.callT Tryz.func17 hpA (fun w' hm => cc w' (hm.part hpA).1 (hm.part hpA).2)) ?_
        intro _
        refine z_ ?_
        refine Run.nw nal ?_
        intro b14
        refine Run.op1 (osa (u8s R).toArray (u8s_one _) (hs := by exact sR) (hf := by kernel_rfl)) (fun _ => ?_)
        refine z_ ?_
        have hpB : ((b14, Obj.cells (u8s R).toArray 33 (0, 0)) :: ((y.shut.L ++ y.bO) ++ ((b8, Obj.cells x.c.toArray 43 (0, 0)) :: z.L)) : Hp).Perm (z.L ++ ((b14, Obj.cells (u8s R).toArray 33 (0, 0)) :: (b8, Obj.cells x.c.toArray 43 (0, 0)) :: (y.shut.L ++ y.bO))) := (perm_of fun f => by (simp only [List.map_append, List.map_cons, List.map_nil, List.sum_append, List.sum_cons, List.sum_nil] <;> omega))
        refine Run.op1 (OpTo.callT Tryz.func18 hpB (fun w' hm => cd w' (hm.part hpB).1 (hm.part hpB).2)) ?_
        rintro ⟨⟨vN, bN⟩, hN⟩
        dsimp only at hN ⊢
        obtain ⟨aN, cN, rfl, hcN⟩ := hN.shape
        refine z_ ?_
        refine Run.nw nal ?_
        intro b16
        refine Run.op1 (osa (L' := (z.shut.L ++ bN) ++ ((b14, Obj.cells (u8s R).toArray 33 (0, 0)) :: (b8, Obj.cells x.c.toArray 43 (0, 0)) :: (y.shut.L ++ y.bO))) (u8s R).toArray (u8s_one _) (hs := by exact sR) (hf := by kernel_rfl)) (fun _ => ?_)
        refine z_ ?_
        refine Run.a (vla (arr := (u8s R).toArray) (hm := (by repeat (first | exact List.mem_cons_self | apply List.mem_cons_of_mem | apply List.mem_append_right))) (hv := by exact sR)) ?_
        refine Run.a (vla (arr := (u8s R).toArray) (hm := (by repeat (first | exact List.mem_cons_self | apply List.mem_cons_of_mem | apply List.mem_append_right))) (hv := by exact sR)) ?_
        refine Run.a (vnu 8 R h8.1 (by kernel_rfl)) ?_
        refine z_ ?_
        have hso : ∀ {w' : World}, Mem w [] ((b16, Obj.cells (u8s R).toArray 33 (0, 0)) :: ((z.shut.L ++ bN) ++ ((b14, Obj.cells (u8s R).toArray 33 (0, 0)) :: (b8, Obj.cells x.c.toArray 43 (0, 0)) :: (y.shut.L ++ y.bO)))) w' → SrcW w' 9 (.slice aO y.s.out.length cO) y.s.out.length (rws OuD.c y.s.out) ∧ SrcW w' 9 (.slice aN y.s.out.length cN) y.s.out.length (rws OuD.c y.s.out) := fun hm =>
          ⟨hO.srcW fun q hq => hm.has q (List.mem_cons_of_mem _ (List.mem_append_right _ (List.mem_cons_of_mem _ (List.mem_cons_of_mem _ (List.mem_append_right _ hq))))), hN.srcW fun q hq => hm.has q (List.mem_cons_of_mem _ (List.mem_append_left _ (List.mem_append_right _ hq)))⟩
        refine Run.op1 (OpTo.cv Tryz.func19 (fun w' hm => outs_calls y.s.out y.ok.ol _ _ w' (hso hm).1 (hso hm).2)) (fun _ => ?_)
        refine z_ ?_
        exact RQ.midY ⟨ab, y.shut, z.shut, hes⟩ ⟨rfl, rfl, rfl, rfl, rfl, trivial⟩ (L1 := (y.shut.L ++ z.shut.L) ++ ((b16, Obj.cells (u8s R).toArray 33 (0, 0)) :: (bN ++ ((b14, Obj.cells (u8s R).toArray 33 (0, 0)) :: (b8, Obj.cells x.c.toArray 43 (0, 0)) :: y.bO)))) (perm_of fun f => by (simp only [List.map_append, List.map_cons, List.map_nil, List.sum_append, List.sum_cons, List.sum_nil] <;> omega)) (List.sublist_append_left _ _)
      by_cases hdD : x.d = 6
      · have hx1 : H8 X1 := X1_8
        refine z_ ?_
        have hpA : ((b8, Obj.cells x.c.toArray 43 (0, 0)) :: (y.L ++ z.L) : Hp).Perm ([] ++ ((b8, Obj.cells x.c.toArray 43 (0, 0)) :: (y.L ++ z.L))) := List.Perm.refl _
        refine Run.op1 (OpTo.callT Tryz.func20 hpA (fun w' hm => ACopy_calls y w' (fun q hq => hm.has q (List.mem_cons_of_mem _ (List.mem_append_left _ hq))))) ?_
        rintro ⟨⟨ab2, y2⟩, hy2⟩
        dsimp only at hy2 ⊢
        refine z_ ?_
        refine Run.a (vba (u8s X1).toArray) ?_
        refine Run.a (vbs (fwC side 1 X1 1).toArray) ?_
        have hpB : (y2.L ++ ((b8, Obj.cells x.c.toArray 43 (0, 0)) :: (y.L ++ z.L)) : Hp).Perm (y.L ++ ((b8, Obj.cells x.c.toArray 43 (0, 0)) :: (y2.L ++ z.L))) := (perm_of fun f => by (simp only [List.map_append, List.map_cons, List.map_nil, List.sum_append, List.sum_cons, List.sum_nil] <;> omega))
        refine Run.op1 (OpTo.callT Tryz.func8 hpB (fun w' hm => ACredit_calls y side 1 X1 hx1 1 w' (hm.part hpB).1 (hm.part hpB).2 (hK.fr hm.fr (by simp)) (fresh_idsS hK (by simp) (hm.perm hpB) (fun p hp => List.mem_append_left _ hp)))) ?_
        rintro ⟨y3, hy3⟩
        dsimp only
        refine z_ ?_
        have hpC : (y3.L ++ ((b8, Obj.cells x.c.toArray 43 (0, 0)) :: (y2.L ++ z.L)) : Hp).Perm (y3.L ++ ((b8, Obj.cells x.c.toArray 43 (0, 0)) :: (y2.L ++ z.L))) := List.Perm.refl _
        refine Run.op1 (OpTo.callT Tryz.func17 hpC (fun w' hm => AClose_calls y3 w' (hm.part hpC).1 (hm.part hpC).2)) ?_
        intro _
        refine z_ ?_
        exact RQ.midY ⟨ab2, y2, z, by rw [hy2, he]⟩ ⟨rfl, rfl, rfl, rfl, rfl, trivial⟩ (L1 := (y2.L ++ z.L) ++ ((y3.shut.L ++ y3.bO) ++ [(b8, Obj.cells x.c.toArray 43 (0, 0))])) (perm_of fun f => by (simp only [List.map_append, List.map_cons, List.map_nil, List.sum_append, List.sum_cons, List.sum_nil] <;> omega)) (List.sublist_append_left _ _)
      refine z_ ?_
      exact RQ.midY ⟨ab, y, z, he⟩ ⟨rfl, rfl, rfl, rfl, rfl, trivial⟩ (L1 := (y.L ++ z.L) ++ [(b8, Obj.cells x.c.toArray 43 (0, 0))]) (perm_of fun f => by (simp only [List.map_append, List.map_cons, List.map_nil, List.sum_append, List.sum_cons, List.sum_nil] <;> omega)) (List.sublist_append_left _ _)
    · clear hload hel he1 q0 qf qw qt qb he y z
      rintro ⟨ab, y, z, he⟩
      unfold Bk.L
      dsimp only
      refine z_ ?_
      refine Run.op1 (OpTo.cv Tryz.func21 (fun w' hm => aSame_calls y z he w' (fun q hq => hm.has q (List.mem_append_left _ hq)) (fun q hq => hm.has q (List.mem_append_right _ hq)))) (fun _ => ?_)
      refine z_ ?_
      exact RQ.upS (i + 1) ⟨ab, y, z, he⟩ (Nat.lt_succ_self _) hi' trivial ⟨rfl, rfl, rfl, rfl, rfl, trivial⟩ (List.Perm.refl _) (List.Sublist.refl _)
  · have cp := fun w' hw' => AProve_calls y 5 w' hw'
    have ctr := fun w' hw' => RTree_calls z w' hw'
    have hfin := acF_fin z.ok.ok
    rw [← he] at hfin ctr
    have hP1 := prfT_len (fun q j => (nodeF_8 (acF_ok y.s.acs) q j).1) 5
    (repeat refine RQ.thenExit ?_); refine RQ.blockHere ?_
    refine z_ ?_
    refine Run.op1 (OpTo.cv Tryz.func22 (fun w' hm => cp w' (fun q hq => hm.has q (List.mem_append_left _ hq)))) (fun _ => ?_)
    refine z_ ?_
    refine Run.nw nal ?_
    intro b19
    have cpp := fun (tb : Nat) (d : OwT) (hd : d.r = finL (y.s.acs.map acDp)) w' hw' => ProveLeaf_calls d.r (by rw [hd]; exact fin_ok _) tb 5 w' hw'
    have cpq : ∀ (tb : Nat) (d : OwT) (hd : d.r = finL (y.s.acs.map acDp)) (w' : World) (hw' : LvW 96 w' tb d.r), Gives Tryz.prog 24 [.pointer (some ⟨tb, 0, none⟩), .int .i64 5] (.tuple #[.agg (u8s (prfT (nodeF (acF y.s.acs)) 5)).toArray, .bool (inB 5)]) w' := fun tb d hd w' hw' => by
      have h1 := cpp tb d hd w' hw'
      rw [show lfF d.r = acF y.s.acs from by rw [hd]; exact hfin] at h1
      exact h1
    clear cp cpp
    generalize prfT (nodeF (acF y.s.acs)) 5 = PR at hP1 cpq
    have sP : (u8s PR).toArray.size = 128 := by rw [List.size_toArray, u8s_len, hP1]
    refine Run.op1 (osa (L' := (y.L ++ z.L)) (u8s PR).toArray (u8s_one _) (hs := by exact sP) (hf := by kernel_rfl)) (fun _ => ?_)
    refine z_ ?_
    have hz9 : ((b19, Obj.cells (u8s PR).toArray 36 (0, 0)) :: (y.L ++ z.L) : Hp).Perm ([] ++ ((b19, Obj.cells (u8s PR).toArray 36 (0, 0)) :: (y.L ++ z.L))) := List.Perm.refl _
    refine Run.op1 (OpTo.callT Tryz.func23 hz9 (fun w' hm => ctr w' (fun q hq => hm.has q (List.mem_cons_of_mem _ (List.mem_append_right _ hq))))) ?_
    rintro ⟨⟨tb, d⟩, hd⟩
    dsimp only at hd ⊢
    refine z_ ?_
    refine Run.op1 (OpTo.cv Tryz.func24 (fun w' hm => cpq tb d hd w' (d.lvW fun q hq => hm.has q (List.mem_append_left _ hq)))) (fun _ => ?_)
    refine z_ ?_
    refine Run.nw nal ?_
    intro b21
    refine Run.op1 (osa (L' := LvL tb d ++ ((b19, Obj.cells (u8s PR).toArray 36 (0, 0)) :: (y.L ++ z.L))) (u8s PR).toArray (u8s_one _) (hs := by exact sP) (hf := by kernel_rfl)) (fun _ => ?_)
    refine z_ ?_
    refine Run.a (veb) ?_
    refine z_ ?_
    refine Run.a (vla (arr := (u8s PR).toArray) (hm := (by repeat (first | exact List.mem_cons_self | apply List.mem_cons_of_mem | apply List.mem_append_right))) (hv := by exact sP)) ?_
    refine Run.a (vla (arr := (u8s PR).toArray) (hm := (by repeat (first | exact List.mem_cons_self | apply List.mem_cons_of_mem | apply List.mem_append_right))) (hv := by exact sP)) ?_
    refine Run.a (veu 128 PR hP1 (by kernel_rfl)) ?_
    refine z_ ?_
    exact RQ.ret1 rfl (Res.tmp rfl) fun w' hm => ⟨rfl, hm.fr⟩
end Go.Proofs.YtfhdfpejjgmdcaaGreatDoor
