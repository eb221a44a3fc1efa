/- Lemmas. -/
import Derived.Test.YtfoeakgnkfcbjaaGreatDoorPq33
set_option linter.unusedSimpArgs false
set_option linter.unusedVariables false
section
/- block: BlockParts (gen_bkw.py prints it). -/
namespace Go.Proofs.YtfoeakgnkfcbjaaGreatDoor
attribute [local irreducible] Go.Vc.Run Go.Vc.RC Go.Vc.RQ Go.Vc.DR Go.Vc.DOp Go.Vc.Knows Go.Vc.At
set_option maxHeartbeats 400000
set_option maxRecDepth 10000
open Go Go.Vc Go.Sha
/-- Two with the same bytes are the same. -/
theorem same_key {s t : BkV} (h : SameK s t) : Key s t := (dk_back h.1).2.symm.trans (by rw [h.2.2]; exact (dk_back h.2.1).2)
set_option maxRecDepth 10000 in set_option maxHeartbeats 4000000 in
theorem BlockParts_calls (s t : BkV) (a : Option Addr) (c : Nat) (a' : Option Addr) (c' : Nat) (w : World) (hs : BkAt w s a c) (ht : BkAt w t a' c') (hK : Laid w) : Gives Tryz.prog 3 [.agg (bkC s a c).toArray, .agg (bkC t a' c').toArray] (.bool true) w := by
  refine enter Tryz.func3 rfl (Mem.nil w []) rfl ?_
  have ca : Knows Tryz.prog w 9 [] (.bool true) := Knows.mk Tryz.func9 (fun w' hf => awake17_calls w' (hK.fr hf (by simp)))
  have cf : Knows Tryz.prog w 10 [.agg (bkC s a c).toArray] (.bool (decide (FewK s))) := Knows.mk Tryz.func10 (fun w' hf => FewBk_calls s a c w' (hs.fr hf))
  have cg : Knows Tryz.prog w 10 [.agg (bkC t a' c').toArray] (.bool (decide (FewK t))) := Knows.mk Tryz.func10 (fun w' hf => FewBk_calls t a' c' w' (ht.fr hf))
  have hFs : (bkC s a c).toArray.size = 10 := by rw [List.size_toArray, bkC_len]
  have hGs : (bkC t a' c').toArray.size = 10 := by rw [List.size_toArray, bkC_len]
  by_cases hf : FewK s
  rotate_left
  · rw [decide_eq_false hf] at cf
    generalize bkC s a c = F at hFs cf ⊢
    generalize bkC t a' c' = G at hGs cg ⊢
    refine x_ ?_
    refine Run.nw nbx ?_
    intro b2
    refine x_ ?_
    refine Run.nw nbx ?_
    intro b3
    refine x_ ?_
    exact RQ.ret1 rfl (Res.tmp rfl) fun w' hm => ⟨rfl, hm.fr⟩
  rw [decide_eq_true hf] at cf
  by_cases hg : FewK t
  rotate_left
  · rw [decide_eq_false hg] at cg
    generalize bkC s a c = F at hFs cf ⊢
    generalize bkC t a' c' = G at hGs cg ⊢
    refine x_ ?_
    refine Run.nw nbx ?_
    intro b2
    refine x_ ?_
    refine Run.nw nbx ?_
    intro b3
    refine x_ ?_
    exact RQ.ret1 rfl (Res.tmp rfl) fun w' hm => ⟨rfl, hm.fr⟩
  rw [decide_eq_true hg] at cg
  have hls := hf.ln
  have hlt := hg.ln
  have c1 : Knows Tryz.prog w 11 [.agg (bkC s a c).toArray] (.tuple #[.agg (u8s (idB s)).toArray, .bool (decide (MayB s))]) := Knows.mk Tryz.func11 (fun w' hf => IdBk_calls s hls a c w' (hs.fr hf) (hK.fr hf (by simp)))
  have c2 : Knows Tryz.prog w 11 [.agg (bkC t a' c').toArray] (.tuple #[.agg (u8s (idB t)).toArray, .bool (decide (MayB t))]) := Knows.mk Tryz.func11 (fun w' hf => IdBk_calls t hlt a' c' w' (ht.fr hf) (hK.fr hf (by simp)))
  have c3 : Knows Tryz.prog w 13 [.agg (bkC s a c).toArray] (.agg (u8s (rootB s)).toArray) := Knows.mk Tryz.func13 (fun w' hf => RootBk_calls s hls a c w' (hs.fr hf) (hK.fr hf (by simp)))
  have c4 : Knows Tryz.prog w 13 [.agg (bkC t a' c').toArray] (.agg (u8s (rootB t)).toArray) := Knows.mk Tryz.func13 (fun w' hf => RootBk_calls t hlt a' c' w' (ht.fr hf) (hK.fr hf (by simp)))
  have c5 : Knows Tryz.prog w 12 [.float .f64 s.wk] (.agg (u8s (bitsF s.wk)).toArray) := Knows.mk Tryz.func12 (fun w' _ => RBits_calls s.wk s.hw w')
  have c6 : Knows Tryz.prog w 12 [.float .f64 t.wk] (.agg (u8s (bitsF t.wk)).toArray) := Knows.mk Tryz.func12 (fun w' _ => RBits_calls t.wk t.hw w')
  have c7 : Knows Tryz.prog w 15 [.agg (bkC s a c).toArray, .agg (bkC t a' c').toArray] (.bool (decide (SameK s t))) := Knows.mk Tryz.func15 (fun w' hf => SameBk_calls s t hls hlt a c a' c' w' (hs.fr hf) (ht.fr hf))
  have r0 := bk_r0 s a c
  have q0 := bk_r0 t a' c'
  have r8 := bk_r8 s a c
  have q8 := bk_r8 t a' c'
  have hF0 : ∀ j u, (u8s s.pv.1)[j]? = some u → (bkC s a c)[0 + j]? = some u := fun j u hj => by
    rw [Nat.zero_add]
    unfold bkC
    rw [List.getElem?_append_left (List.getElem?_eq_some_iff.1 hj).1]
    exact hj
  have hD8 := idB_len s
  have hE8 := idB_len t
  have hrl := rootB_ok s
  have hRl' := (rootB_ok t).1
  have hbl := bits_len s.wk
  have hblt := bits_lt s.wk
  have hbl' := bits_len t.wk
  have hp8 := s.pv.2
  have hp8' := t.pv.2.1
  by_cases hms : MayB s
  rotate_left
  · rw [decide_eq_false hms] at c1
    generalize bkC s a c = F at *
    generalize bkC t a' c' = G at *
    generalize idB s = D at *
    generalize idB t = D' at *
    have hDs : (u8s D).toArray.size = 8 := by rw [List.size_toArray, u8s_len, hD8]
    have hEs : (u8s D').toArray.size = 8 := by rw [List.size_toArray, u8s_len, hE8]
    refine x_ ?_
    refine Run.nw nbx ?_
    intro b2
    refine x_ ?_
    refine Run.nw nbx ?_
    intro b3
    refine x_ ?_
    refine Run.nw nal ?_
    intro b5
    refine x_ ?_
    refine Run.op1 (osa (arr := ti23.zero.cells) (u8s D).toArray (u8s_one D) (hs := by exact hDs)) (fun _ => ?_)
    refine x_ ?_
    refine Run.nw nal ?_
    intro b7
    refine x_ ?_
    refine Run.op1 (osa (arr := ti23.zero.cells) (u8s D').toArray (u8s_one D') (hs := by exact hEs)) (fun _ => ?_)
    refine x_ ?_
    exact RQ.ret1 rfl (Res.tmp rfl) fun w' hm => ⟨rfl, hm.fr⟩
  rw [decide_eq_true hms] at c1
  by_cases hmt : MayB t
  rotate_left
  · rw [decide_eq_false hmt] at c2
    generalize bkC s a c = F at *
    generalize bkC t a' c' = G at *
    generalize idB s = D at *
    generalize idB t = D' at *
    have hDs : (u8s D).toArray.size = 8 := by rw [List.size_toArray, u8s_len, hD8]
    have hEs : (u8s D').toArray.size = 8 := by rw [List.size_toArray, u8s_len, hE8]
    refine x_ ?_
    refine Run.nw nbx ?_
    intro b2
    refine x_ ?_
    refine Run.nw nbx ?_
    intro b3
    refine x_ ?_
    refine Run.nw nal ?_
    intro b5
    refine x_ ?_
    refine Run.op1 (osa (arr := ti23.zero.cells) (u8s D).toArray (u8s_one D) (hs := by exact hDs)) (fun _ => ?_)
    refine x_ ?_
    refine Run.nw nal ?_
    intro b7
    refine x_ ?_
    refine Run.op1 (osa (arr := ti23.zero.cells) (u8s D').toArray (u8s_one D') (hs := by exact hEs)) (fun _ => ?_)
    refine x_ ?_
    exact RQ.ret1 rfl (Res.tmp rfl) fun w' hm => ⟨rfl, hm.fr⟩
  rw [decide_eq_true hmt] at c2
  have hD : idB s = digest 98 [s.pv.1, bitsF s.wk, rootB s] := if_pos hms
  have hE : idB t = digest 98 [t.pv.1, bitsF t.wk, rootB t] := if_pos hmt
  have hsame : SameK s t → s.pv.1 = t.pv.1 ∧ bitsF s.wk = bitsF t.wk ∧ rootB s = rootB t := fun h => by
    have k := same_key h
    exact ⟨by rw [k.p], by rw [k.w], k.root⟩
  obtain ⟨q, hq⟩ : ∃ q, q = decide (SameK s t) := ⟨_, rfl⟩
  rw [← hq] at c7
  have hsq : q = true → s.pv.1 = t.pv.1 ∧ bitsF s.wk = bitsF t.wk ∧ rootB s = rootB t := fun h => hsame (of_decide_eq_true (hq ▸ h))
  clear hsame hq
  generalize bkC s a c = F at *
  generalize bkC t a' c' = G at *
  generalize idB s = D at *
  generalize idB t = D' at *
  generalize s.pv.1 = p at *
  generalize t.pv.1 = p' at *
  generalize bitsF s.wk = B at *
  generalize bitsF t.wk = B' at *
  generalize rootB s = R at *
  generalize rootB t = R' at *
  have hDs : (u8s D).toArray.size = 8 := by rw [List.size_toArray, u8s_len, hD8]
  have hEs : (u8s D').toArray.size = 8 := by rw [List.size_toArray, u8s_len, hE8]
  have hBs : (u8s B).toArray.size = 8 := by rw [List.size_toArray, u8s_len, hbl]
  have hRs : (u8s R).toArray.size = 8 := by rw [List.size_toArray, u8s_len, hrl.1]
  obtain ⟨e, he⟩ : ∃ e, e = (decide (p = p') && decide (B = B') && decide (R = R')) := ⟨_, rfl⟩
  have hqe : q = true → e = true := fun h => by
    obtain ⟨h1, h2, h3⟩ := hsq h
    rw [he, decide_eq_true h1, decide_eq_true h2, decide_eq_true h3]
    rfl
  have heD : e = true → D' = D := fun h => by
    rw [he, Bool.and_eq_true, Bool.and_eq_true] at h
    rw [hD, hE, of_decide_eq_true h.1.1, of_decide_eq_true h.1.2, of_decide_eq_true h.2]
  refine x_ ?_
  refine Run.nw nbx ?_
  intro b2
  refine x_ ?_
  refine Run.nw nbx ?_
  intro b3
  refine x_ ?_
  refine Run.nw nal ?_
  intro b5
  refine x_ ?_
  refine Run.op1 (osa (arr := ti23.zero.cells) (u8s D).toArray (u8s_one D) (hs := by exact hDs)) (fun _ => ?_)
  refine x_ ?_
  refine Run.nw nal ?_
  intro b7
  refine x_ ?_
  refine Run.op1 (osa (arr := ti23.zero.cells) (u8s D').toArray (u8s_one D') (hs := by exact hEs)) (fun _ => ?_)
  refine x_ ?_
  refine RC.thenCut (Y := Unit) (fun _ => [(9, .bool e), (7, .pointer (some ⟨b7, 0, none⟩)), (5, .pointer (some ⟨b5, 0, none⟩)), (3, .pointer (some ⟨b3, 0, none⟩)), (2, .pointer (some ⟨b2, 0, none⟩))]) (fun _ => [(b7, Obj.cells (u8s D').toArray 23 (0, 0)), (b5, Obj.cells (u8s D).toArray 23 (0, 0)), (b3, Obj.cells G.toArray 27 (0, 0)), (b2, Obj.cells F.toArray 27 (0, 0))]) ?_ (fun _ => ?_)
  · (repeat refine RC.seq ?_); refine RC.drawS mixed (N := 22) rfl ?_
    refine dy 0 ?_
    refine dy 1 ?_
    refine dy 2 ?_
    refine dy 3 ?_
    by_cases h1 : p = p'
    rotate_left
    · refine DR.t 4 rfl (Val.eq (Val.eqU (m := 8) (a := p) (b := p') tabOk rfl rfl rfl (by kernel_rfl) (by kernel_rfl) rfl rfl hp8.1 hp8') (show _ = Value.bool false from congrArg Value.bool (decide_eq_false h1))) ?_
      refine dy 5 ?_
      refine DR.p 6 rfl ?_
      refine DR.p 7 rfl ?_
      refine DR.p 9 rfl ?_
      refine DR.p 10 rfl ?_
      refine DR.cp 8 rfl ?_
      refine DR.cp 11 rfl ?_
      refine DR.p 12 rfl ?_
      refine dy 13 ?_
      refine dy 14 ?_
      refine DR.p 15 rfl ?_
      refine DR.p 17 rfl ?_
      refine DR.cp 16 rfl ?_
      refine DR.cp 18 rfl ?_
      refine DR.p 19 rfl ?_
      refine dy 20 ?_
      refine dy 21 ?_
      refine DR.done (by kernel_rfl) ?_
      rw [show e = false from by rw [he, decide_eq_false h1]; rfl]
      exact RQ.toP () ⟨rfl, rfl, rfl, rfl, rfl, trivial⟩ (List.Perm.refl _) (by repeat (first | exact List.nil_sublist _ | exact List.Sublist.refl _ | apply List.Sublist.cons_cons | apply List.Sublist.cons | apply Go.Vc.subApp))
    refine DR.t 4 rfl (Val.eq (Val.eqU (m := 8) (a := p) (b := p') tabOk rfl rfl rfl (by kernel_rfl) (by kernel_rfl) rfl rfl hp8.1 hp8') (show _ = Value.bool true from congrArg Value.bool (decide_eq_true h1))) ?_
    refine dy 5 ?_
    refine dy 6 ?_
    refine dy 7 ?_
    refine dy 9 ?_
    refine dy 10 ?_
    refine DR.c 8 (DOp.op1 rfl cvK (fun _ => ?_))
    refine DR.c 11 (DOp.op1 rfl cvK (fun _ => ?_))
    by_cases h2 : B = B'
    rotate_left
    · refine DR.t 12 rfl (Val.eq (Val.eqU (m := 8) (a := B) (b := B') tabOk rfl rfl rfl (by kernel_rfl) (by kernel_rfl) rfl rfl hbl hbl') (show _ = Value.bool false from congrArg Value.bool (decide_eq_false h2))) ?_
      refine dy 13 ?_
      refine dy 14 ?_
      refine DR.p 15 rfl ?_
      refine DR.p 17 rfl ?_
      refine DR.cp 16 rfl ?_
      refine DR.cp 18 rfl ?_
      refine DR.p 19 rfl ?_
      refine dy 20 ?_
      refine dy 21 ?_
      refine DR.done (by kernel_rfl) ?_
      rw [show e = false from by rw [he, decide_eq_true h1, decide_eq_false h2]; rfl]
      exact RQ.toP () ⟨rfl, rfl, rfl, rfl, rfl, trivial⟩ (List.Perm.refl _) (by repeat (first | exact List.nil_sublist _ | exact List.Sublist.refl _ | apply List.Sublist.cons_cons | apply List.Sublist.cons | apply Go.Vc.subApp))
    refine DR.t 12 rfl (Val.eq (Val.eqU (m := 8) (a := B) (b := B') tabOk rfl rfl rfl (by kernel_rfl) (by kernel_rfl) rfl rfl hbl hbl') (show _ = Value.bool true from congrArg Value.bool (decide_eq_true h2))) ?_
    refine dy 13 ?_
    refine dy 14 ?_
    refine dy 15 ?_
    refine dy 17 ?_
    refine DR.c 16 (DOp.op1 rfl cvK (fun _ => ?_))
    refine DR.c 18 (DOp.op1 rfl cvK (fun _ => ?_))
    refine DR.t 19 rfl (Val.eq (Val.eqU (m := 8) (a := R) (b := R') tabOk rfl rfl rfl (by kernel_rfl) (by kernel_rfl) rfl rfl hrl.1 hRl') (show _ = Value.bool e from congrArg Value.bool (by rw [he, decide_eq_true h1, decide_eq_true h2]; rfl))) ?_
    refine dy 20 ?_
    refine dy 21 ?_
    refine DR.done (by kernel_rfl) ?_
    exact RQ.toP () ⟨rfl, rfl, rfl, rfl, rfl, trivial⟩ (List.Perm.refl _) (by repeat (first | exact List.nil_sublist _ | exact List.Sublist.refl _ | apply List.Sublist.cons_cons | apply List.Sublist.cons | apply Go.Vc.subApp))
  refine x_ ?_
  refine RC.thenCut (Y := Nat × Nat) (fun y => [(11, .pointer (some ⟨y.2, 0, none⟩)), (10, .pointer (some ⟨y.1, 0, none⟩)), (9, .bool e), (7, .pointer (some ⟨b7, 0, none⟩)), (5, .pointer (some ⟨b5, 0, none⟩)), (3, .pointer (some ⟨b3, 0, none⟩)), (2, .pointer (some ⟨b2, 0, none⟩))]) (fun y => [(y.2, Obj.cells (u8s R).toArray 23 (0, 0)), (y.1, Obj.cells (u8s B).toArray 22 (0, 0)), (b7, Obj.cells (u8s D').toArray 23 (0, 0)), (b5, Obj.cells (u8s D).toArray 23 (0, 0)), (b3, Obj.cells G.toArray 27 (0, 0)), (b2, Obj.cells F.toArray 27 (0, 0))]) ?_ (fun y => ?_)
  · (repeat refine RC.seq ?_); refine RC.draw ([(b7, Obj.cells (u8s D').toArray 23 (0, 0)), (b5, Obj.cells (u8s D).toArray 23 (0, 0)), (b3, Obj.cells G.toArray 27 (0, 0)), (b2, Obj.cells F.toArray 27 (0, 0))]) mixed (N := 9) rfl ?_
    refine dy 0 ?_
    refine dy 1 ?_
    refine dy 3 ?_
    refine DR.three (i := 2) (j := 5) (k := 6) (by kernel_rfl) ?_ ?_ ?_
    · refine DOp.op1 rfl cvK (fun _ => ?_)
      refine DR.three (i := 4) (j := 5) (k := 6) (by kernel_rfl) ?_ ?_ ?_
      · refine DOp.op1 rfl cvK (fun _ => ?_)
        refine DR.two (i := 5) (j := 6) (by kernel_rfl) ?_ ?_
        · refine DOp.op1 rfl (OpTo.new rfl rfl nal) ?_
          intro b10
          refine DR.c 6 (DOp.op1 rfl (OpTo.new rfl rfl nal) ?_)
          intro b11
          refine DR.c 7 ?_
          refine DOp.op1 rfl (osa (arr := ti22.zero.cells) (e := 22) (L' := (b11, Obj.cells ti23.zero.cells 23 (0, 0)) :: [(b7, Obj.cells (u8s D').toArray 23 (0, 0)), (b5, Obj.cells (u8s D).toArray 23 (0, 0)), (b3, Obj.cells G.toArray 27 (0, 0)), (b2, Obj.cells F.toArray 27 (0, 0))]) (u8s B).toArray (u8s_one _) (hL := (perm_of fun f => by (simp only [List.map_append, List.map_cons, List.map_nil, List.sum_append, List.sum_cons, List.sum_nil] <;> omega))) (hs := by exact hBs)) (fun _ => ?_)
          refine DR.c 8 ?_
          refine DOp.op1 rfl (osa (arr := ti23.zero.cells) (e := 23) (L' := (b10, Obj.cells (u8s B).toArray 22 (0, 0)) :: [(b7, Obj.cells (u8s D').toArray 23 (0, 0)), (b5, Obj.cells (u8s D).toArray 23 (0, 0)), (b3, Obj.cells G.toArray 27 (0, 0)), (b2, Obj.cells F.toArray 27 (0, 0))]) (u8s R).toArray (u8s_one _) (hL := (perm_of fun f => by (simp only [List.map_append, List.map_cons, List.map_nil, List.sum_append, List.sum_cons, List.sum_nil] <;> omega))) (hs := by exact hRs)) (fun _ => ?_)
          refine DR.done (by kernel_rfl) ?_
          exact RQ.toP (b10, b11) ⟨rfl, rfl, rfl, rfl, rfl, rfl, rfl, trivial⟩ (List.Perm.refl _) (by repeat (first | exact List.nil_sublist _ | exact List.Sublist.refl _ | apply List.Sublist.cons_cons | apply List.Sublist.cons | apply Go.Vc.subApp))
        · refine DOp.op1 rfl (OpTo.new rfl rfl nal) ?_
          intro b11
          refine DR.c 5 (DOp.op1 rfl (OpTo.new rfl rfl nal) ?_)
          intro b10
          refine DR.c 7 ?_
          refine DOp.op1 rfl (osa (arr := ti22.zero.cells) (e := 22) (L' := (b11, Obj.cells ti23.zero.cells 23 (0, 0)) :: [(b7, Obj.cells (u8s D').toArray 23 (0, 0)), (b5, Obj.cells (u8s D).toArray 23 (0, 0)), (b3, Obj.cells G.toArray 27 (0, 0)), (b2, Obj.cells F.toArray 27 (0, 0))]) (u8s B).toArray (u8s_one _) (hL := (perm_of fun f => by (simp only [List.map_append, List.map_cons, List.map_nil, List.sum_append, List.sum_cons, List.sum_nil] <;> omega))) (hs := by exact hBs)) (fun _ => ?_)
          refine DR.c 8 ?_
          refine DOp.op1 rfl (osa (arr := ti23.zero.cells) (e := 23) (L' := (b10, Obj.cells (u8s B).toArray 22 (0, 0)) :: [(b7, Obj.cells (u8s D').toArray 23 (0, 0)), (b5, Obj.cells (u8s D).toArray 23 (0, 0)), (b3, Obj.cells G.toArray 27 (0, 0)), (b2, Obj.cells F.toArray 27 (0, 0))]) (u8s R).toArray (u8s_one _) (hL := (perm_of fun f => by (simp only [List.map_append, List.map_cons, List.map_nil, List.sum_append, List.sum_cons, List.sum_nil] <;> omega))) (hs := by exact hRs)) (fun _ => ?_)
          refine DR.done (by kernel_rfl) ?_
          exact RQ.toP (b10, b11) ⟨rfl, rfl, rfl, rfl, rfl, rfl, rfl, trivial⟩ (List.Perm.refl _) (by repeat (first | exact List.nil_sublist _ | exact List.Sublist.refl _ | apply List.Sublist.cons_cons | apply List.Sublist.cons | apply Go.Vc.subApp))
      · refine DOp.op1 rfl (OpTo.new rfl rfl nal) ?_
        intro b10
        refine DR.two (i := 4) (j := 6) (by kernel_rfl) ?_ ?_
        · refine DOp.op1 rfl cvK (fun _ => ?_)
          refine DR.c 6 (DOp.op1 rfl (OpTo.new rfl rfl nal) ?_)
          intro b11
          refine DR.c 7 ?_
          refine DOp.op1 rfl (osa (arr := ti22.zero.cells) (e := 22) (L' := (b11, Obj.cells ti23.zero.cells 23 (0, 0)) :: [(b7, Obj.cells (u8s D').toArray 23 (0, 0)), (b5, Obj.cells (u8s D).toArray 23 (0, 0)), (b3, Obj.cells G.toArray 27 (0, 0)), (b2, Obj.cells F.toArray 27 (0, 0))]) (u8s B).toArray (u8s_one _) (hL := (perm_of fun f => by (simp only [List.map_append, List.map_cons, List.map_nil, List.sum_append, List.sum_cons, List.sum_nil] <;> omega))) (hs := by exact hBs)) (fun _ => ?_)
          refine DR.c 8 ?_
          refine DOp.op1 rfl (osa (arr := ti23.zero.cells) (e := 23) (L' := (b10, Obj.cells (u8s B).toArray 22 (0, 0)) :: [(b7, Obj.cells (u8s D').toArray 23 (0, 0)), (b5, Obj.cells (u8s D).toArray 23 (0, 0)), (b3, Obj.cells G.toArray 27 (0, 0)), (b2, Obj.cells F.toArray 27 (0, 0))]) (u8s R).toArray (u8s_one _) (hL := (perm_of fun f => by (simp only [List.map_append, List.map_cons, List.map_nil, List.sum_append, List.sum_cons, List.sum_nil] <;> omega))) (hs := by exact hRs)) (fun _ => ?_)
          refine DR.done (by kernel_rfl) ?_
          exact RQ.toP (b10, b11) ⟨rfl, rfl, rfl, rfl, rfl, rfl, rfl, trivial⟩ (List.Perm.refl _) (by repeat (first | exact List.nil_sublist _ | exact List.Sublist.refl _ | apply List.Sublist.cons_cons | apply List.Sublist.cons | apply Go.Vc.subApp))
        · refine DOp.op1 rfl (OpTo.new rfl rfl nal) ?_
          intro b11
          refine DR.c 4 (DOp.op1 rfl cvK (fun _ => ?_))
          refine DR.c 7 ?_
          refine DOp.op1 rfl (osa (arr := ti22.zero.cells) (e := 22) (L' := (b11, Obj.cells ti23.zero.cells 23 (0, 0)) :: [(b7, Obj.cells (u8s D').toArray 23 (0, 0)), (b5, Obj.cells (u8s D).toArray 23 (0, 0)), (b3, Obj.cells G.toArray 27 (0, 0)), (b2, Obj.cells F.toArray 27 (0, 0))]) (u8s B).toArray (u8s_one _) (hL := (perm_of fun f => by (simp only [List.map_append, List.map_cons, List.map_nil, List.sum_append, List.sum_cons, List.sum_nil] <;> omega))) (hs := by exact hBs)) (fun _ => ?_)
          refine DR.c 8 ?_
          refine DOp.op1 rfl (osa (arr := ti23.zero.cells) (e := 23) (L' := (b10, Obj.cells (u8s B).toArray 22 (0, 0)) :: [(b7, Obj.cells (u8s D').toArray 23 (0, 0)), (b5, Obj.cells (u8s D).toArray 23 (0, 0)), (b3, Obj.cells G.toArray 27 (0, 0)), (b2, Obj.cells F.toArray 27 (0, 0))]) (u8s R).toArray (u8s_one _) (hL := (perm_of fun f => by (simp only [List.map_append, List.map_cons, List.map_nil, List.sum_append, List.sum_cons, List.sum_nil] <;> omega))) (hs := by exact hRs)) (fun _ => ?_)
          refine DR.done (by kernel_rfl) ?_
          exact RQ.toP (b10, b11) ⟨rfl, rfl, rfl, rfl, rfl, rfl, rfl, trivial⟩ (List.Perm.refl _) (by repeat (first | exact List.nil_sublist _ | exact List.Sublist.refl _ | apply List.Sublist.cons_cons | apply List.Sublist.cons | apply Go.Vc.subApp))
      · refine DOp.op1 rfl (OpTo.new rfl rfl nal) ?_
        intro b11
        refine DR.two (i := 4) (j := 5) (by kernel_rfl) ?_ ?_
        · refine DOp.op1 rfl cvK (fun _ => ?_)
          refine DR.c 5 (DOp.op1 rfl (OpTo.new rfl rfl nal) ?_)
          intro b10
          refine DR.c 7 ?_
          refine DOp.op1 rfl (osa (arr := ti22.zero.cells) (e := 22) (L' := (b11, Obj.cells ti23.zero.cells 23 (0, 0)) :: [(b7, Obj.cells (u8s D').toArray 23 (0, 0)), (b5, Obj.cells (u8s D).toArray 23 (0, 0)), (b3, Obj.cells G.toArray 27 (0, 0)), (b2, Obj.cells F.toArray 27 (0, 0))]) (u8s B).toArray (u8s_one _) (hL := (perm_of fun f => by (simp only [List.map_append, List.map_cons, List.map_nil, List.sum_append, List.sum_cons, List.sum_nil] <;> omega))) (hs := by exact hBs)) (fun _ => ?_)
          refine DR.c 8 ?_
          refine DOp.op1 rfl (osa (arr := ti23.zero.cells) (e := 23) (L' := (b10, Obj.cells (u8s B).toArray 22 (0, 0)) :: [(b7, Obj.cells (u8s D').toArray 23 (0, 0)), (b5, Obj.cells (u8s D).toArray 23 (0, 0)), (b3, Obj.cells G.toArray 27 (0, 0)), (b2, Obj.cells F.toArray 27 (0, 0))]) (u8s R).toArray (u8s_one _) (hL := (perm_of fun f => by (simp only [List.map_append, List.map_cons, List.map_nil, List.sum_append, List.sum_cons, List.sum_nil] <;> omega))) (hs := by exact hRs)) (fun _ => ?_)
          refine DR.done (by kernel_rfl) ?_
          exact RQ.toP (b10, b11) ⟨rfl, rfl, rfl, rfl, rfl, rfl, rfl, trivial⟩ (List.Perm.refl _) (by repeat (first | exact List.nil_sublist _ | exact List.Sublist.refl _ | apply List.Sublist.cons_cons | apply List.Sublist.cons | apply Go.Vc.subApp))
        · refine DOp.op1 rfl (OpTo.new rfl rfl nal) ?_
          intro b10
          refine DR.c 4 (DOp.op1 rfl cvK (fun _ => ?_))
          refine DR.c 7 ?_
          refine DOp.op1 rfl (osa (arr := ti22.zero.cells) (e := 22) (L' := (b11, Obj.cells ti23.zero.cells 23 (0, 0)) :: [(b7, Obj.cells (u8s D').toArray 23 (0, 0)), (b5, Obj.cells (u8s D).toArray 23 (0, 0)), (b3, Obj.cells G.toArray 27 (0, 0)), (b2, Obj.cells F.toArray 27 (0, 0))]) (u8s B).toArray (u8s_one _) (hL := (perm_of fun f => by (simp only [List.map_append, List.map_cons, List.map_nil, List.sum_append, List.sum_cons, List.sum_nil] <;> omega))) (hs := by exact hBs)) (fun _ => ?_)
          refine DR.c 8 ?_
          refine DOp.op1 rfl (osa (arr := ti23.zero.cells) (e := 23) (L' := (b10, Obj.cells (u8s B).toArray 22 (0, 0)) :: [(b7, Obj.cells (u8s D').toArray 23 (0, 0)), (b5, Obj.cells (u8s D).toArray 23 (0, 0)), (b3, Obj.cells G.toArray 27 (0, 0)), (b2, Obj.cells F.toArray 27 (0, 0))]) (u8s R).toArray (u8s_one _) (hL := (perm_of fun f => by (simp only [List.map_append, List.map_cons, List.map_nil, List.sum_append, List.sum_cons, List.sum_nil] <;> omega))) (hs := by exact hRs)) (fun _ => ?_)
          refine DR.done (by kernel_rfl) ?_
          exact RQ.toP (b10, b11) ⟨rfl, rfl, rfl, rfl, rfl, rfl, rfl, trivial⟩ (List.Perm.refl _) (by repeat (first | exact List.nil_sublist _ | exact List.Sublist.refl _ | apply List.Sublist.cons_cons | apply List.Sublist.cons | apply Go.Vc.subApp))
    · refine DOp.op1 rfl (OpTo.new rfl rfl nal) ?_
      intro b10
      refine DR.two (i := 2) (j := 6) (by kernel_rfl) ?_ ?_
      · refine DOp.op1 rfl cvK (fun _ => ?_)
        refine DR.two (i := 4) (j := 6) (by kernel_rfl) ?_ ?_
        · refine DOp.op1 rfl cvK (fun _ => ?_)
          refine DR.c 6 (DOp.op1 rfl (OpTo.new rfl rfl nal) ?_)
          intro b11
          refine DR.c 7 ?_
          refine DOp.op1 rfl (osa (arr := ti22.zero.cells) (e := 22) (L' := (b11, Obj.cells ti23.zero.cells 23 (0, 0)) :: [(b7, Obj.cells (u8s D').toArray 23 (0, 0)), (b5, Obj.cells (u8s D).toArray 23 (0, 0)), (b3, Obj.cells G.toArray 27 (0, 0)), (b2, Obj.cells F.toArray 27 (0, 0))]) (u8s B).toArray (u8s_one _) (hL := (perm_of fun f => by (simp only [List.map_append, List.map_cons, List.map_nil, List.sum_append, List.sum_cons, List.sum_nil] <;> omega))) (hs := by exact hBs)) (fun _ => ?_)
          refine DR.c 8 ?_
          refine DOp.op1 rfl (osa (arr := ti23.zero.cells) (e := 23) (L' := (b10, Obj.cells (u8s B).toArray 22 (0, 0)) :: [(b7, Obj.cells (u8s D').toArray 23 (0, 0)), (b5, Obj.cells (u8s D).toArray 23 (0, 0)), (b3, Obj.cells G.toArray 27 (0, 0)), (b2, Obj.cells F.toArray 27 (0, 0))]) (u8s R).toArray (u8s_one _) (hL := (perm_of fun f => by (simp only [List.map_append, List.map_cons, List.map_nil, List.sum_append, List.sum_cons, List.sum_nil] <;> omega))) (hs := by exact hRs)) (fun _ => ?_)
          refine DR.done (by kernel_rfl) ?_
          exact RQ.toP (b10, b11) ⟨rfl, rfl, rfl, rfl, rfl, rfl, rfl, trivial⟩ (List.Perm.refl _) (by repeat (first | exact List.nil_sublist _ | exact List.Sublist.refl _ | apply List.Sublist.cons_cons | apply List.Sublist.cons | apply Go.Vc.subApp))
        · refine DOp.op1 rfl (OpTo.new rfl rfl nal) ?_
          intro b11
          refine DR.c 4 (DOp.op1 rfl cvK (fun _ => ?_))
          refine DR.c 7 ?_
          refine DOp.op1 rfl (osa (arr := ti22.zero.cells) (e := 22) (L' := (b11, Obj.cells ti23.zero.cells 23 (0, 0)) :: [(b7, Obj.cells (u8s D').toArray 23 (0, 0)), (b5, Obj.cells (u8s D).toArray 23 (0, 0)), (b3, Obj.cells G.toArray 27 (0, 0)), (b2, Obj.cells F.toArray 27 (0, 0))]) (u8s B).toArray (u8s_one _) (hL := (perm_of fun f => by (simp only [List.map_append, List.map_cons, List.map_nil, List.sum_append, List.sum_cons, List.sum_nil] <;> omega))) (hs := by exact hBs)) (fun _ => ?_)
          refine DR.c 8 ?_
          refine DOp.op1 rfl (osa (arr := ti23.zero.cells) (e := 23) (L' := (b10, Obj.cells (u8s B).toArray 22 (0, 0)) :: [(b7, Obj.cells (u8s D').toArray 23 (0, 0)), (b5, Obj.cells (u8s D).toArray 23 (0, 0)), (b3, Obj.cells G.toArray 27 (0, 0)), (b2, Obj.cells F.toArray 27 (0, 0))]) (u8s R).toArray (u8s_one _) (hL := (perm_of fun f => by (simp only [List.map_append, List.map_cons, List.map_nil, List.sum_append, List.sum_cons, List.sum_nil] <;> omega))) (hs := by exact hRs)) (fun _ => ?_)
          refine DR.done (by kernel_rfl) ?_
          exact RQ.toP (b10, b11) ⟨rfl, rfl, rfl, rfl, rfl, rfl, rfl, trivial⟩ (List.Perm.refl _) (by repeat (first | exact List.nil_sublist _ | exact List.Sublist.refl _ | apply List.Sublist.cons_cons | apply List.Sublist.cons | apply Go.Vc.subApp))
      · refine DOp.op1 rfl (OpTo.new rfl rfl nal) ?_
        intro b11
        refine DR.c 2 (DOp.op1 rfl cvK (fun _ => ?_))
        refine DR.c 4 (DOp.op1 rfl cvK (fun _ => ?_))
        refine DR.c 7 ?_
        refine DOp.op1 rfl (osa (arr := ti22.zero.cells) (e := 22) (L' := (b11, Obj.cells ti23.zero.cells 23 (0, 0)) :: [(b7, Obj.cells (u8s D').toArray 23 (0, 0)), (b5, Obj.cells (u8s D).toArray 23 (0, 0)), (b3, Obj.cells G.toArray 27 (0, 0)), (b2, Obj.cells F.toArray 27 (0, 0))]) (u8s B).toArray (u8s_one _) (hL := (perm_of fun f => by (simp only [List.map_append, List.map_cons, List.map_nil, List.sum_append, List.sum_cons, List.sum_nil] <;> omega))) (hs := by exact hBs)) (fun _ => ?_)
        refine DR.c 8 ?_
        refine DOp.op1 rfl (osa (arr := ti23.zero.cells) (e := 23) (L' := (b10, Obj.cells (u8s B).toArray 22 (0, 0)) :: [(b7, Obj.cells (u8s D').toArray 23 (0, 0)), (b5, Obj.cells (u8s D).toArray 23 (0, 0)), (b3, Obj.cells G.toArray 27 (0, 0)), (b2, Obj.cells F.toArray 27 (0, 0))]) (u8s R).toArray (u8s_one _) (hL := (perm_of fun f => by (simp only [List.map_append, List.map_cons, List.map_nil, List.sum_append, List.sum_cons, List.sum_nil] <;> omega))) (hs := by exact hRs)) (fun _ => ?_)
        refine DR.done (by kernel_rfl) ?_
        exact RQ.toP (b10, b11) ⟨rfl, rfl, rfl, rfl, rfl, rfl, rfl, trivial⟩ (List.Perm.refl _) (by repeat (first | exact List.nil_sublist _ | exact List.Sublist.refl _ | apply List.Sublist.cons_cons | apply List.Sublist.cons | apply Go.Vc.subApp))
    · refine DOp.op1 rfl (OpTo.new rfl rfl nal) ?_
      intro b11
      refine DR.two (i := 2) (j := 5) (by kernel_rfl) ?_ ?_
      · refine DOp.op1 rfl cvK (fun _ => ?_)
        refine DR.two (i := 4) (j := 5) (by kernel_rfl) ?_ ?_
        · refine DOp.op1 rfl cvK (fun _ => ?_)
          refine DR.c 5 (DOp.op1 rfl (OpTo.new rfl rfl nal) ?_)
          intro b10
          refine DR.c 7 ?_
          refine DOp.op1 rfl (osa (arr := ti22.zero.cells) (e := 22) (L' := (b11, Obj.cells ti23.zero.cells 23 (0, 0)) :: [(b7, Obj.cells (u8s D').toArray 23 (0, 0)), (b5, Obj.cells (u8s D).toArray 23 (0, 0)), (b3, Obj.cells G.toArray 27 (0, 0)), (b2, Obj.cells F.toArray 27 (0, 0))]) (u8s B).toArray (u8s_one _) (hL := (perm_of fun f => by (simp only [List.map_append, List.map_cons, List.map_nil, List.sum_append, List.sum_cons, List.sum_nil] <;> omega))) (hs := by exact hBs)) (fun _ => ?_)
          refine DR.c 8 ?_
          refine DOp.op1 rfl (osa (arr := ti23.zero.cells) (e := 23) (L' := (b10, Obj.cells (u8s B).toArray 22 (0, 0)) :: [(b7, Obj.cells (u8s D').toArray 23 (0, 0)), (b5, Obj.cells (u8s D).toArray 23 (0, 0)), (b3, Obj.cells G.toArray 27 (0, 0)), (b2, Obj.cells F.toArray 27 (0, 0))]) (u8s R).toArray (u8s_one _) (hL := (perm_of fun f => by (simp only [List.map_append, List.map_cons, List.map_nil, List.sum_append, List.sum_cons, List.sum_nil] <;> omega))) (hs := by exact hRs)) (fun _ => ?_)
          refine DR.done (by kernel_rfl) ?_
          exact RQ.toP (b10, b11) ⟨rfl, rfl, rfl, rfl, rfl, rfl, rfl, trivial⟩ (List.Perm.refl _) (by repeat (first | exact List.nil_sublist _ | exact List.Sublist.refl _ | apply List.Sublist.cons_cons | apply List.Sublist.cons | apply Go.Vc.subApp))
        · refine DOp.op1 rfl (OpTo.new rfl rfl nal) ?_
          intro b10
          refine DR.c 4 (DOp.op1 rfl cvK (fun _ => ?_))
          refine DR.c 7 ?_
          refine DOp.op1 rfl (osa (arr := ti22.zero.cells) (e := 22) (L' := (b11, Obj.cells ti23.zero.cells 23 (0, 0)) :: [(b7, Obj.cells (u8s D').toArray 23 (0, 0)), (b5, Obj.cells (u8s D).toArray 23 (0, 0)), (b3, Obj.cells G.toArray 27 (0, 0)), (b2, Obj.cells F.toArray 27 (0, 0))]) (u8s B).toArray (u8s_one _) (hL := (perm_of fun f => by (simp only [List.map_append, List.map_cons, List.map_nil, List.sum_append, List.sum_cons, List.sum_nil] <;> omega))) (hs := by exact hBs)) (fun _ => ?_)
          refine DR.c 8 ?_
          refine DOp.op1 rfl (osa (arr := ti23.zero.cells) (e := 23) (L' := (b10, Obj.cells (u8s B).toArray 22 (0, 0)) :: [(b7, Obj.cells (u8s D').toArray 23 (0, 0)), (b5, Obj.cells (u8s D).toArray 23 (0, 0)), (b3, Obj.cells G.toArray 27 (0, 0)), (b2, Obj.cells F.toArray 27 (0, 0))]) (u8s R).toArray (u8s_one _) (hL := (perm_of fun f => by (simp only [List.map_append, List.map_cons, List.map_nil, List.sum_append, List.sum_cons, List.sum_nil] <;> omega))) (hs := by exact hRs)) (fun _ => ?_)
          refine DR.done (by kernel_rfl) ?_
          exact RQ.toP (b10, b11) ⟨rfl, rfl, rfl, rfl, rfl, rfl, rfl, trivial⟩ (List.Perm.refl _) (by repeat (first | exact List.nil_sublist _ | exact List.Sublist.refl _ | apply List.Sublist.cons_cons | apply List.Sublist.cons | apply Go.Vc.subApp))
      · refine DOp.op1 rfl (OpTo.new rfl rfl nal) ?_
        intro b10
        refine DR.c 2 (DOp.op1 rfl cvK (fun _ => ?_))
        refine DR.c 4 (DOp.op1 rfl cvK (fun _ => ?_))
        refine DR.c 7 ?_
        refine DOp.op1 rfl (osa (arr := ti22.zero.cells) (e := 22) (L' := (b11, Obj.cells ti23.zero.cells 23 (0, 0)) :: [(b7, Obj.cells (u8s D').toArray 23 (0, 0)), (b5, Obj.cells (u8s D).toArray 23 (0, 0)), (b3, Obj.cells G.toArray 27 (0, 0)), (b2, Obj.cells F.toArray 27 (0, 0))]) (u8s B).toArray (u8s_one _) (hL := (perm_of fun f => by (simp only [List.map_append, List.map_cons, List.map_nil, List.sum_append, List.sum_cons, List.sum_nil] <;> omega))) (hs := by exact hBs)) (fun _ => ?_)
        refine DR.c 8 ?_
        refine DOp.op1 rfl (osa (arr := ti23.zero.cells) (e := 23) (L' := (b10, Obj.cells (u8s B).toArray 22 (0, 0)) :: [(b7, Obj.cells (u8s D').toArray 23 (0, 0)), (b5, Obj.cells (u8s D).toArray 23 (0, 0)), (b3, Obj.cells G.toArray 27 (0, 0)), (b2, Obj.cells F.toArray 27 (0, 0))]) (u8s R).toArray (u8s_one _) (hL := (perm_of fun f => by (simp only [List.map_append, List.map_cons, List.map_nil, List.sum_append, List.sum_cons, List.sum_nil] <;> omega))) (hs := by exact hRs)) (fun _ => ?_)
        refine DR.done (by kernel_rfl) ?_
        exact RQ.toP (b10, b11) ⟨rfl, rfl, rfl, rfl, rfl, rfl, rfl, trivial⟩ (List.Perm.refl _) (by repeat (first | exact List.nil_sublist _ | exact List.Sublist.refl _ | apply List.Sublist.cons_cons | apply List.Sublist.cons | apply Go.Vc.subApp))
  obtain ⟨b10, b11⟩ := y
  dsimp only
  have hfinal : ∀ b19 w', Mem w [] [(b19, Obj.cells #[.slice (some ⟨b2, 0, none⟩) 8 8, .slice (some ⟨b10, 0, none⟩) 8 8, .slice (some ⟨b11, 0, none⟩) 8 8] 35 (0, 0)), (b11, Obj.cells (u8s R).toArray 23 (0, 0)), (b10, Obj.cells (u8s B).toArray 22 (0, 0)), (b7, Obj.cells (u8s D').toArray 23 (0, 0)), (b5, Obj.cells (u8s D).toArray 23 (0, 0)), (b3, Obj.cells G.toArray 27 (0, 0)), (b2, Obj.cells F.toArray 27 (0, 0))] w' → Gives Tryz.prog 14 [.int .u8 98, .slice (some ⟨b19, 0, none⟩) 3 3] (.agg (u8s D).toArray) w' := fun b19 w' hm' => by
    have e1 : SrcW w' 1 (.slice (some ⟨b2, 0, none⟩) 8 8) p.length (u8s p) := by
      rw [hp8.1]
      exact SrcW.at ⟨b2, 0, none⟩ 8 8 (u8s p) (by rw [u8s_len, hp8.1]) (Nat.le_refl 8) fun j u hj => Rd.row (e := 27) (fz := (0, 0)) (arr := F.toArray) (off := 0) (by repeat (first | exact List.mem_cons_self | apply List.mem_cons_of_mem | apply List.mem_append_right)) (fun j u hj => by rw [List.getElem?_toArray]; exact hF0 j u hj) w' hm' j u hj
    have e4 : SrcW w' 1 (.slice (some ⟨b10, 0, none⟩) 8 8) B.length (u8s B) := by
      rw [hbl]
      exact SrcW.row hm' (e := 22) (fz := (0, 0)) (cs := u8s B) (by repeat (first | exact List.mem_cons_self | apply List.mem_cons_of_mem | apply List.mem_append_right)) (by rw [u8s_len, hbl]) (Nat.le_refl 8)
    have e5 : SrcW w' 1 (.slice (some ⟨b11, 0, none⟩) 8 8) R.length (u8s R) := by
      rw [hrl.1]
      exact SrcW.row hm' (e := 23) (fz := (0, 0)) (cs := u8s R) (by repeat (first | exact List.mem_cons_self | apply List.mem_cons_of_mem | apply List.mem_append_right)) (by rw [u8s_len, hrl.1]) (Nat.le_refl 8)
    rw [hD]
    refine Digest_calls 98 (by decide) _ [.slice (some ⟨b2, 0, none⟩) 8 8, .slice (some ⟨b10, 0, none⟩) 8 8, .slice (some ⟨b11, 0, none⟩) 8 8] [p, B, R] w' (SrcW.row hm' m0 rfl (Nat.le_refl 3)) (Parts.cons e1 (Parts.cons e4 (Parts.cons e5 Parts.nil))) ?_ ?_
    · show ((([p, B, R]) : List (List Nat)).map fun l => 4 + l.length).sum ≤ _
      simp only [List.map_cons, List.sum_cons, List.map_nil, List.sum_nil, hp8.1, hbl, hrl.1]
      decide
    · intro l hl
      simp only [List.mem_cons, List.not_mem_nil, or_false] at hl
      rcases hl with rfl | rfl | rfl
      · exact hp8.2
      · exact hblt
      · exact hrl.2
  refine x_ ?_
  (repeat refine RC.seq ?_); refine RC.drawS mixed (N := 27) rfl ?_
  refine dy 0 ?_
  refine dy 1 ?_
  refine DR.t 2 rfl (vslA) ?_
  refine DR.t 3 rfl (vslA) ?_
  refine DR.t 4 rfl (vslA) ?_
  refine DR.c 5 ?_
  refine DOp.op1 rfl (OpTo.new rfl rfl (nbsk (parts := [(0, .tmp 66), (1, .tmp 67), (2, .tmp 68)]) #[.slice (some ⟨b2, 0, none⟩) 8 8, .slice (some ⟨b10, 0, none⟩) 8 8, .slice (some ⟨b11, 0, none⟩) 8 8])) ?_
  intro b19
  refine DR.c 6 (DOp.op1 rfl (OpTo.cv Tryz.func14 (fun w' hm' => hfinal b19 w' hm')) (fun _ => ?_))
  refine DR.t 7 rfl (veu 8 D hD8 (by kernel_rfl)) ?_
  refine dy 8 ?_
  refine dy 9 ?_
  refine dy 10 ?_
  refine dy 11 ?_
  cases e
  · have hq0 : q = false := by
      cases q
      · rfl
      · exact Bool.noConfusion (hqe rfl)
    subst hq0
    refine DR.p 12 rfl ?_
    refine DR.p 13 rfl ?_
    refine DR.p 14 rfl ?_
    refine dy 15 ?_
    refine dy 16 ?_
    refine dy 17 ?_
    refine dy 18 ?_
    refine dy 19 ?_
    refine DR.c 20 (DOp.op1 rfl cvK (fun _ => ?_))
    refine dy 21 ?_
    refine dy 22 ?_
    refine DR.p 23 rfl ?_
    refine dy 24 ?_
    refine dy 25 ?_
    refine dy 26 ?_
    refine DR.done (by kernel_rfl) ?_
    refine x_ ?_
    exact RQ.ret1 rfl (Res.tmp rfl) fun w' hm => ⟨rfl, hm.fr⟩
  · have hDD := heD rfl
    subst hDD
    refine dy 12 ?_
    refine dy 13 ?_
    refine DR.t 14 rfl (veu 8 _ hD8 (by kernel_rfl)) ?_
    refine dy 15 ?_
    refine dy 16 ?_
    refine dy 17 ?_
    refine dy 18 ?_
    refine dy 19 ?_
    refine DR.c 20 (DOp.op1 rfl cvK (fun _ => ?_))
    cases q
    · refine dy 21 ?_
      refine dy 22 ?_
      refine DR.p 23 rfl ?_
      refine dy 24 ?_
      refine dy 25 ?_
      refine dy 26 ?_
      refine DR.done (by kernel_rfl) ?_
      refine x_ ?_
      exact RQ.ret1 rfl (Res.tmp rfl) fun w' hm => ⟨rfl, hm.fr⟩
    · refine dy 21 ?_
      refine dy 22 ?_
      refine dy 23 ?_
      refine dy 24 ?_
      refine dy 25 ?_
      refine dy 26 ?_
      refine DR.done (by kernel_rfl) ?_
      refine x_ ?_
      exact RQ.ret1 rfl (Res.tmp rfl) fun w' hm => ⟨rfl, hm.fr⟩
end Go.Proofs.YtfoeakgnkfcbjaaGreatDoor
end
