/- Lemmas. -/
import Derived.Test.YtfoeakgnkfcbjaaGreatDoorPt26
set_option linter.unusedSimpArgs false
set_option linter.unusedVariables false
section
/- block: ID of both (gen_bkk.py prints it out of BkK.base). -/
namespace Go.Proofs.YtfoeakgnkfcbjaaGreatDoor
attribute [local irreducible] Go.Vc.Run Go.Vc.RC Go.Vc.RQ Go.Vc.DR Go.Vc.DOp Go.Vc.Knows Go.Vc.At
set_option maxHeartbeats 400000
set_option maxRecDepth 10000
open Go Go.Vc Go.Sha
noncomputable def idB (b : BkV) : List Nat := if MayB b then digest 98 [b.pv.1, bitsF b.wk, rootB b] else List.replicate 8 0
theorem rootB_ok (b : BkV) : (rootB b).length = 8 ∧ ∀ x ∈ rootB b, x < 256 := by
  unfold rootB
  split
  · exact ⟨rootOf_len _, rootOf_lt _⟩
  · exact ⟨rfl, fun z hz => by rw [(List.mem_replicate.1 hz).2]; decide⟩
theorem idB_len (b : BkV) : (idB b).length = 8 := by
  unfold idB
  split
  · exact digest_len _ _
  · rfl
set_option maxRecDepth 10000 in set_option maxHeartbeats 4000000 in
theorem IdBk_calls (b : BkV) (hln : BkLn b) (a : Option Addr) (c : Nat) (w : World) (hat : BkAt w b a c) (hK : Laid w) : Gives Tryz.prog 11 [.agg (bkC b a c).toArray] (.tuple #[.agg (u8s (idB b)).toArray, .bool (decide (MayB b))]) w := by
  refine enter Tryz.func11 rfl (Mem.nil w []) rfl ?_
  have r8 := bk_r8 b a c
  have hF10 : (bkC b a c).toArray.size = 10 := by rw [List.size_toArray, bkC_len]
  have hF0 : ∀ j u, (u8s b.pv.1)[j]? = some u → (bkC b a c)[0 + j]? = some u := fun j u hj => by
    rw [Nat.zero_add]
    unfold bkC
    rw [List.getElem?_append_left (List.getElem?_eq_some_iff.1 hj).1]
    exact hj
  have kM : Knows Tryz.prog w 20 [.agg (bkC b a c).toArray] (.bool (decide (MayB b))) := Knows.mk Tryz.func20 (fun w' hf => MayBk_calls b hln a c w' (hat.fr hf))
  have kR : Knows Tryz.prog w 13 [.agg (bkC b a c).toArray] (.agg (u8s (rootB b)).toArray) := Knows.mk Tryz.func13 (fun w' hf => RootBk_calls b hln a c w' (hat.fr hf) (hK.fr hf (by simp)))
  have kB : Knows Tryz.prog w 31 [.float .f64 b.wk] (.agg (u8s (bitsF b.wk)).toArray) := Knows.mk Tryz.func31 (fun w' _ => Bits_calls b.wk b.hw w')
  generalize bkC b a c = F at r8 hF10 hF0 kM kR ⊢
  have hrl := rootB_ok b
  have hbl := bits_len b.wk
  have hblt := bits_lt b.wk
  refine z_ ?_
  refine Run.nw nbx ?_
  intro b1
  refine x_ ?_
  refine Run.nw nal ?_
  intro b2
  by_cases hmy : MayB b
  rotate_left
  · rw [decide_eq_false hmy] at kM ⊢
    rw [show idB b = List.replicate 8 0 from if_neg hmy]
    refine x_ ?_
    refine Run.op1 (osa (arr := ti23.zero.cells) (e := 23) (L' := [(b1, Obj.cells F.toArray 27 (0, 0))]) (u8s (List.replicate 8 0)).toArray (u8s_one _) (hL := (perm_of fun f => by (simp only [List.map_append, List.map_cons, List.map_nil, List.sum_append, List.sum_cons, List.sum_nil] <;> omega)))) (fun _ => ?_)
    refine x_ ?_
    exact RQ.ret2 rfl (Res.cellAll tabOk rfl rfl rfl m0 rfl) (Res.tmp rfl) fun w' hm => ⟨rfl, hm.fr⟩
  rw [decide_eq_true hmy] at kM ⊢
  rw [show idB b = digest 98 [b.pv.1, bitsF b.wk, rootB b] from if_pos hmy]
  have hp8 := b.pv.2
  generalize b.pv.1 = pv at hF0 hp8 ⊢
  generalize rootB b = R at hrl kR ⊢
  generalize bitsF b.wk = B at hbl hblt kB ⊢
  have hBs : (u8s B).toArray.size = 8 := by rw [List.size_toArray, u8s_len, hbl]
  have hRs : (u8s R).toArray.size = 8 := by rw [List.size_toArray, u8s_len, hrl.1]
  obtain ⟨D, hD⟩ : ∃ D, D = digest 98 [pv, B, R] := ⟨_, rfl⟩
  have hD8 : D.length = 8 := by rw [hD]; exact digest_len _ _
  rw [← hD]
  refine x_ ?_
  refine RC.thenCut (Y := Nat × Nat) (fun y => [(5, .pointer (some ⟨y.2, 0, none⟩)), (4, .pointer (some ⟨y.1, 0, none⟩)), (2, .pointer (some ⟨b2, 0, none⟩)), (1, .pointer (some ⟨b1, 0, none⟩))]) (fun y => [(y.2, Obj.cells (u8s R).toArray 23 (0, 0)), (y.1, Obj.cells (u8s B).toArray 22 (0, 0)), (b2, Obj.cells ti23.zero.cells 23 (0, 0)), (b1, Obj.cells F.toArray 27 (0, 0))]) ?_ (fun y => ?_)
  · (repeat refine RC.seq ?_); refine RC.draw ([(b1, Obj.cells F.toArray 27 (0, 0))]) mixed (N := 9) rfl ?_
    refine dy 0 ?_
    refine dy 1 ?_
    refine dy 3 ?_
    refine DR.three (i := 2) (j := 5) (k := 6) (by kernel_rfl) ?_ ?_ ?_
    · refine DOp.op1 rfl cvK (fun _ => ?_)
      refine DR.three (i := 4) (j := 5) (k := 6) (by kernel_rfl) ?_ ?_ ?_
      · refine DOp.op1 rfl cvK (fun _ => ?_)
        refine DR.two (i := 5) (j := 6) (by kernel_rfl) ?_ ?_
        · refine DOp.op1 rfl (OpTo.new rfl rfl nal) ?_
          intro b4
          refine DR.c 6 (DOp.op1 rfl (OpTo.new rfl rfl nal) ?_)
          intro b5
          refine DR.c 7 ?_
          refine DOp.op1 rfl (osa (arr := ti22.zero.cells) (e := 22) (L' := (b5, Obj.cells ti23.zero.cells 23 (0, 0)) :: [(b2, Obj.cells ti23.zero.cells 23 (0, 0)), (b1, Obj.cells F.toArray 27 (0, 0))]) (u8s B).toArray (u8s_one _) (hL := (perm_of fun f => by (simp only [List.map_append, List.map_cons, List.map_nil, List.sum_append, List.sum_cons, List.sum_nil] <;> omega))) (hs := by exact hBs)) (fun _ => ?_)
          refine DR.c 8 ?_
          refine DOp.op1 rfl (osa (arr := ti23.zero.cells) (e := 23) (L' := (b4, Obj.cells (u8s B).toArray 22 (0, 0)) :: [(b2, Obj.cells ti23.zero.cells 23 (0, 0)), (b1, Obj.cells F.toArray 27 (0, 0))]) (u8s R).toArray (u8s_one _) (hL := (perm_of fun f => by (simp only [List.map_append, List.map_cons, List.map_nil, List.sum_append, List.sum_cons, List.sum_nil] <;> omega))) (hs := by exact hRs)) (fun _ => ?_)
          refine DR.done (by kernel_rfl) ?_
          exact RQ.toP (b4, b5) ⟨rfl, rfl, rfl, rfl, trivial⟩ (List.Perm.refl _) (by repeat (first | exact List.nil_sublist _ | exact List.Sublist.refl _ | apply List.Sublist.cons_cons | apply List.Sublist.cons | apply Go.Vc.subApp))
        · refine DOp.op1 rfl (OpTo.new rfl rfl nal) ?_
          intro b5
          refine DR.c 5 (DOp.op1 rfl (OpTo.new rfl rfl nal) ?_)
          intro b4
          refine DR.c 7 ?_
          refine DOp.op1 rfl (osa (arr := ti22.zero.cells) (e := 22) (L' := (b5, Obj.cells ti23.zero.cells 23 (0, 0)) :: [(b2, Obj.cells ti23.zero.cells 23 (0, 0)), (b1, Obj.cells F.toArray 27 (0, 0))]) (u8s B).toArray (u8s_one _) (hL := (perm_of fun f => by (simp only [List.map_append, List.map_cons, List.map_nil, List.sum_append, List.sum_cons, List.sum_nil] <;> omega))) (hs := by exact hBs)) (fun _ => ?_)
          refine DR.c 8 ?_
          refine DOp.op1 rfl (osa (arr := ti23.zero.cells) (e := 23) (L' := (b4, Obj.cells (u8s B).toArray 22 (0, 0)) :: [(b2, Obj.cells ti23.zero.cells 23 (0, 0)), (b1, Obj.cells F.toArray 27 (0, 0))]) (u8s R).toArray (u8s_one _) (hL := (perm_of fun f => by (simp only [List.map_append, List.map_cons, List.map_nil, List.sum_append, List.sum_cons, List.sum_nil] <;> omega))) (hs := by exact hRs)) (fun _ => ?_)
          refine DR.done (by kernel_rfl) ?_
          exact RQ.toP (b4, b5) ⟨rfl, rfl, rfl, rfl, trivial⟩ (List.Perm.refl _) (by repeat (first | exact List.nil_sublist _ | exact List.Sublist.refl _ | apply List.Sublist.cons_cons | apply List.Sublist.cons | apply Go.Vc.subApp))
      · refine DOp.op1 rfl (OpTo.new rfl rfl nal) ?_
        intro b4
        refine DR.two (i := 4) (j := 6) (by kernel_rfl) ?_ ?_
        · refine DOp.op1 rfl cvK (fun _ => ?_)
          refine DR.c 6 (DOp.op1 rfl (OpTo.new rfl rfl nal) ?_)
          intro b5
          refine DR.c 7 ?_
          refine DOp.op1 rfl (osa (arr := ti22.zero.cells) (e := 22) (L' := (b5, Obj.cells ti23.zero.cells 23 (0, 0)) :: [(b2, Obj.cells ti23.zero.cells 23 (0, 0)), (b1, Obj.cells F.toArray 27 (0, 0))]) (u8s B).toArray (u8s_one _) (hL := (perm_of fun f => by (simp only [List.map_append, List.map_cons, List.map_nil, List.sum_append, List.sum_cons, List.sum_nil] <;> omega))) (hs := by exact hBs)) (fun _ => ?_)
          refine DR.c 8 ?_
          refine DOp.op1 rfl (osa (arr := ti23.zero.cells) (e := 23) (L' := (b4, Obj.cells (u8s B).toArray 22 (0, 0)) :: [(b2, Obj.cells ti23.zero.cells 23 (0, 0)), (b1, Obj.cells F.toArray 27 (0, 0))]) (u8s R).toArray (u8s_one _) (hL := (perm_of fun f => by (simp only [List.map_append, List.map_cons, List.map_nil, List.sum_append, List.sum_cons, List.sum_nil] <;> omega))) (hs := by exact hRs)) (fun _ => ?_)
          refine DR.done (by kernel_rfl) ?_
          exact RQ.toP (b4, b5) ⟨rfl, rfl, rfl, rfl, trivial⟩ (List.Perm.refl _) (by repeat (first | exact List.nil_sublist _ | exact List.Sublist.refl _ | apply List.Sublist.cons_cons | apply List.Sublist.cons | apply Go.Vc.subApp))
        · refine DOp.op1 rfl (OpTo.new rfl rfl nal) ?_
          intro b5
          refine DR.c 4 (DOp.op1 rfl cvK (fun _ => ?_))
          refine DR.c 7 ?_
          refine DOp.op1 rfl (osa (arr := ti22.zero.cells) (e := 22) (L' := (b5, Obj.cells ti23.zero.cells 23 (0, 0)) :: [(b2, Obj.cells ti23.zero.cells 23 (0, 0)), (b1, Obj.cells F.toArray 27 (0, 0))]) (u8s B).toArray (u8s_one _) (hL := (perm_of fun f => by (simp only [List.map_append, List.map_cons, List.map_nil, List.sum_append, List.sum_cons, List.sum_nil] <;> omega))) (hs := by exact hBs)) (fun _ => ?_)
          refine DR.c 8 ?_
          refine DOp.op1 rfl (osa (arr := ti23.zero.cells) (e := 23) (L' := (b4, Obj.cells (u8s B).toArray 22 (0, 0)) :: [(b2, Obj.cells ti23.zero.cells 23 (0, 0)), (b1, Obj.cells F.toArray 27 (0, 0))]) (u8s R).toArray (u8s_one _) (hL := (perm_of fun f => by (simp only [List.map_append, List.map_cons, List.map_nil, List.sum_append, List.sum_cons, List.sum_nil] <;> omega))) (hs := by exact hRs)) (fun _ => ?_)
          refine DR.done (by kernel_rfl) ?_
          exact RQ.toP (b4, b5) ⟨rfl, rfl, rfl, rfl, trivial⟩ (List.Perm.refl _) (by repeat (first | exact List.nil_sublist _ | exact List.Sublist.refl _ | apply List.Sublist.cons_cons | apply List.Sublist.cons | apply Go.Vc.subApp))
      · refine DOp.op1 rfl (OpTo.new rfl rfl nal) ?_
        intro b5
        refine DR.two (i := 4) (j := 5) (by kernel_rfl) ?_ ?_
        · refine DOp.op1 rfl cvK (fun _ => ?_)
          refine DR.c 5 (DOp.op1 rfl (OpTo.new rfl rfl nal) ?_)
          intro b4
          refine DR.c 7 ?_
          refine DOp.op1 rfl (osa (arr := ti22.zero.cells) (e := 22) (L' := (b5, Obj.cells ti23.zero.cells 23 (0, 0)) :: [(b2, Obj.cells ti23.zero.cells 23 (0, 0)), (b1, Obj.cells F.toArray 27 (0, 0))]) (u8s B).toArray (u8s_one _) (hL := (perm_of fun f => by (simp only [List.map_append, List.map_cons, List.map_nil, List.sum_append, List.sum_cons, List.sum_nil] <;> omega))) (hs := by exact hBs)) (fun _ => ?_)
          refine DR.c 8 ?_
          refine DOp.op1 rfl (osa (arr := ti23.zero.cells) (e := 23) (L' := (b4, Obj.cells (u8s B).toArray 22 (0, 0)) :: [(b2, Obj.cells ti23.zero.cells 23 (0, 0)), (b1, Obj.cells F.toArray 27 (0, 0))]) (u8s R).toArray (u8s_one _) (hL := (perm_of fun f => by (simp only [List.map_append, List.map_cons, List.map_nil, List.sum_append, List.sum_cons, List.sum_nil] <;> omega))) (hs := by exact hRs)) (fun _ => ?_)
          refine DR.done (by kernel_rfl) ?_
          exact RQ.toP (b4, b5) ⟨rfl, rfl, rfl, rfl, trivial⟩ (List.Perm.refl _) (by repeat (first | exact List.nil_sublist _ | exact List.Sublist.refl _ | apply List.Sublist.cons_cons | apply List.Sublist.cons | apply Go.Vc.subApp))
        · refine DOp.op1 rfl (OpTo.new rfl rfl nal) ?_
          intro b4
          refine DR.c 4 (DOp.op1 rfl cvK (fun _ => ?_))
          refine DR.c 7 ?_
          refine DOp.op1 rfl (osa (arr := ti22.zero.cells) (e := 22) (L' := (b5, Obj.cells ti23.zero.cells 23 (0, 0)) :: [(b2, Obj.cells ti23.zero.cells 23 (0, 0)), (b1, Obj.cells F.toArray 27 (0, 0))]) (u8s B).toArray (u8s_one _) (hL := (perm_of fun f => by (simp only [List.map_append, List.map_cons, List.map_nil, List.sum_append, List.sum_cons, List.sum_nil] <;> omega))) (hs := by exact hBs)) (fun _ => ?_)
          refine DR.c 8 ?_
          refine DOp.op1 rfl (osa (arr := ti23.zero.cells) (e := 23) (L' := (b4, Obj.cells (u8s B).toArray 22 (0, 0)) :: [(b2, Obj.cells ti23.zero.cells 23 (0, 0)), (b1, Obj.cells F.toArray 27 (0, 0))]) (u8s R).toArray (u8s_one _) (hL := (perm_of fun f => by (simp only [List.map_append, List.map_cons, List.map_nil, List.sum_append, List.sum_cons, List.sum_nil] <;> omega))) (hs := by exact hRs)) (fun _ => ?_)
          refine DR.done (by kernel_rfl) ?_
          exact RQ.toP (b4, b5) ⟨rfl, rfl, rfl, rfl, trivial⟩ (List.Perm.refl _) (by repeat (first | exact List.nil_sublist _ | exact List.Sublist.refl _ | apply List.Sublist.cons_cons | apply List.Sublist.cons | apply Go.Vc.subApp))
    · refine DOp.op1 rfl (OpTo.new rfl rfl nal) ?_
      intro b4
      refine DR.two (i := 2) (j := 6) (by kernel_rfl) ?_ ?_
      · refine DOp.op1 rfl cvK (fun _ => ?_)
        refine DR.two (i := 4) (j := 6) (by kernel_rfl) ?_ ?_
        · refine DOp.op1 rfl cvK (fun _ => ?_)
          refine DR.c 6 (DOp.op1 rfl (OpTo.new rfl rfl nal) ?_)
          intro b5
          refine DR.c 7 ?_
          refine DOp.op1 rfl (osa (arr := ti22.zero.cells) (e := 22) (L' := (b5, Obj.cells ti23.zero.cells 23 (0, 0)) :: [(b2, Obj.cells ti23.zero.cells 23 (0, 0)), (b1, Obj.cells F.toArray 27 (0, 0))]) (u8s B).toArray (u8s_one _) (hL := (perm_of fun f => by (simp only [List.map_append, List.map_cons, List.map_nil, List.sum_append, List.sum_cons, List.sum_nil] <;> omega))) (hs := by exact hBs)) (fun _ => ?_)
          refine DR.c 8 ?_
          refine DOp.op1 rfl (osa (arr := ti23.zero.cells) (e := 23) (L' := (b4, Obj.cells (u8s B).toArray 22 (0, 0)) :: [(b2, Obj.cells ti23.zero.cells 23 (0, 0)), (b1, Obj.cells F.toArray 27 (0, 0))]) (u8s R).toArray (u8s_one _) (hL := (perm_of fun f => by (simp only [List.map_append, List.map_cons, List.map_nil, List.sum_append, List.sum_cons, List.sum_nil] <;> omega))) (hs := by exact hRs)) (fun _ => ?_)
          refine DR.done (by kernel_rfl) ?_
          exact RQ.toP (b4, b5) ⟨rfl, rfl, rfl, rfl, trivial⟩ (List.Perm.refl _) (by repeat (first | exact List.nil_sublist _ | exact List.Sublist.refl _ | apply List.Sublist.cons_cons | apply List.Sublist.cons | apply Go.Vc.subApp))
        · refine DOp.op1 rfl (OpTo.new rfl rfl nal) ?_
          intro b5
          refine DR.c 4 (DOp.op1 rfl cvK (fun _ => ?_))
          refine DR.c 7 ?_
          refine DOp.op1 rfl (osa (arr := ti22.zero.cells) (e := 22) (L' := (b5, Obj.cells ti23.zero.cells 23 (0, 0)) :: [(b2, Obj.cells ti23.zero.cells 23 (0, 0)), (b1, Obj.cells F.toArray 27 (0, 0))]) (u8s B).toArray (u8s_one _) (hL := (perm_of fun f => by (simp only [List.map_append, List.map_cons, List.map_nil, List.sum_append, List.sum_cons, List.sum_nil] <;> omega))) (hs := by exact hBs)) (fun _ => ?_)
          refine DR.c 8 ?_
          refine DOp.op1 rfl (osa (arr := ti23.zero.cells) (e := 23) (L' := (b4, Obj.cells (u8s B).toArray 22 (0, 0)) :: [(b2, Obj.cells ti23.zero.cells 23 (0, 0)), (b1, Obj.cells F.toArray 27 (0, 0))]) (u8s R).toArray (u8s_one _) (hL := (perm_of fun f => by (simp only [List.map_append, List.map_cons, List.map_nil, List.sum_append, List.sum_cons, List.sum_nil] <;> omega))) (hs := by exact hRs)) (fun _ => ?_)
          refine DR.done (by kernel_rfl) ?_
          exact RQ.toP (b4, b5) ⟨rfl, rfl, rfl, rfl, trivial⟩ (List.Perm.refl _) (by repeat (first | exact List.nil_sublist _ | exact List.Sublist.refl _ | apply List.Sublist.cons_cons | apply List.Sublist.cons | apply Go.Vc.subApp))
      · refine DOp.op1 rfl (OpTo.new rfl rfl nal) ?_
        intro b5
        refine DR.c 2 (DOp.op1 rfl cvK (fun _ => ?_))
        refine DR.c 4 (DOp.op1 rfl cvK (fun _ => ?_))
        refine DR.c 7 ?_
        refine DOp.op1 rfl (osa (arr := ti22.zero.cells) (e := 22) (L' := (b5, Obj.cells ti23.zero.cells 23 (0, 0)) :: [(b2, Obj.cells ti23.zero.cells 23 (0, 0)), (b1, Obj.cells F.toArray 27 (0, 0))]) (u8s B).toArray (u8s_one _) (hL := (perm_of fun f => by (simp only [List.map_append, List.map_cons, List.map_nil, List.sum_append, List.sum_cons, List.sum_nil] <;> omega))) (hs := by exact hBs)) (fun _ => ?_)
        refine DR.c 8 ?_
        refine DOp.op1 rfl (osa (arr := ti23.zero.cells) (e := 23) (L' := (b4, Obj.cells (u8s B).toArray 22 (0, 0)) :: [(b2, Obj.cells ti23.zero.cells 23 (0, 0)), (b1, Obj.cells F.toArray 27 (0, 0))]) (u8s R).toArray (u8s_one _) (hL := (perm_of fun f => by (simp only [List.map_append, List.map_cons, List.map_nil, List.sum_append, List.sum_cons, List.sum_nil] <;> omega))) (hs := by exact hRs)) (fun _ => ?_)
        refine DR.done (by kernel_rfl) ?_
        exact RQ.toP (b4, b5) ⟨rfl, rfl, rfl, rfl, trivial⟩ (List.Perm.refl _) (by repeat (first | exact List.nil_sublist _ | exact List.Sublist.refl _ | apply List.Sublist.cons_cons | apply List.Sublist.cons | apply Go.Vc.subApp))
    · refine DOp.op1 rfl (OpTo.new rfl rfl nal) ?_
      intro b5
      refine DR.two (i := 2) (j := 5) (by kernel_rfl) ?_ ?_
      · refine DOp.op1 rfl cvK (fun _ => ?_)
        refine DR.two (i := 4) (j := 5) (by kernel_rfl) ?_ ?_
        · refine DOp.op1 rfl cvK (fun _ => ?_)
          refine DR.c 5 (DOp.op1 rfl (OpTo.new rfl rfl nal) ?_)
          intro b4
          refine DR.c 7 ?_
          refine DOp.op1 rfl (osa (arr := ti22.zero.cells) (e := 22) (L' := (b5, Obj.cells ti23.zero.cells 23 (0, 0)) :: [(b2, Obj.cells ti23.zero.cells 23 (0, 0)), (b1, Obj.cells F.toArray 27 (0, 0))]) (u8s B).toArray (u8s_one _) (hL := (perm_of fun f => by (simp only [List.map_append, List.map_cons, List.map_nil, List.sum_append, List.sum_cons, List.sum_nil] <;> omega))) (hs := by exact hBs)) (fun _ => ?_)
          refine DR.c 8 ?_
          refine DOp.op1 rfl (osa (arr := ti23.zero.cells) (e := 23) (L' := (b4, Obj.cells (u8s B).toArray 22 (0, 0)) :: [(b2, Obj.cells ti23.zero.cells 23 (0, 0)), (b1, Obj.cells F.toArray 27 (0, 0))]) (u8s R).toArray (u8s_one _) (hL := (perm_of fun f => by (simp only [List.map_append, List.map_cons, List.map_nil, List.sum_append, List.sum_cons, List.sum_nil] <;> omega))) (hs := by exact hRs)) (fun _ => ?_)
          refine DR.done (by kernel_rfl) ?_
          exact RQ.toP (b4, b5) ⟨rfl, rfl, rfl, rfl, trivial⟩ (List.Perm.refl _) (by repeat (first | exact List.nil_sublist _ | exact List.Sublist.refl _ | apply List.Sublist.cons_cons | apply List.Sublist.cons | apply Go.Vc.subApp))
        · refine DOp.op1 rfl (OpTo.new rfl rfl nal) ?_
          intro b4
          refine DR.c 4 (DOp.op1 rfl cvK (fun _ => ?_))
          refine DR.c 7 ?_
          refine DOp.op1 rfl (osa (arr := ti22.zero.cells) (e := 22) (L' := (b5, Obj.cells ti23.zero.cells 23 (0, 0)) :: [(b2, Obj.cells ti23.zero.cells 23 (0, 0)), (b1, Obj.cells F.toArray 27 (0, 0))]) (u8s B).toArray (u8s_one _) (hL := (perm_of fun f => by (simp only [List.map_append, List.map_cons, List.map_nil, List.sum_append, List.sum_cons, List.sum_nil] <;> omega))) (hs := by exact hBs)) (fun _ => ?_)
          refine DR.c 8 ?_
          refine DOp.op1 rfl (osa (arr := ti23.zero.cells) (e := 23) (L' := (b4, Obj.cells (u8s B).toArray 22 (0, 0)) :: [(b2, Obj.cells ti23.zero.cells 23 (0, 0)), (b1, Obj.cells F.toArray 27 (0, 0))]) (u8s R).toArray (u8s_one _) (hL := (perm_of fun f => by (simp only [List.map_append, List.map_cons, List.map_nil, List.sum_append, List.sum_cons, List.sum_nil] <;> omega))) (hs := by exact hRs)) (fun _ => ?_)
          refine DR.done (by kernel_rfl) ?_
          exact RQ.toP (b4, b5) ⟨rfl, rfl, rfl, rfl, trivial⟩ (List.Perm.refl _) (by repeat (first | exact List.nil_sublist _ | exact List.Sublist.refl _ | apply List.Sublist.cons_cons | apply List.Sublist.cons | apply Go.Vc.subApp))
      · refine DOp.op1 rfl (OpTo.new rfl rfl nal) ?_
        intro b4
        refine DR.c 2 (DOp.op1 rfl cvK (fun _ => ?_))
        refine DR.c 4 (DOp.op1 rfl cvK (fun _ => ?_))
        refine DR.c 7 ?_
        refine DOp.op1 rfl (osa (arr := ti22.zero.cells) (e := 22) (L' := (b5, Obj.cells ti23.zero.cells 23 (0, 0)) :: [(b2, Obj.cells ti23.zero.cells 23 (0, 0)), (b1, Obj.cells F.toArray 27 (0, 0))]) (u8s B).toArray (u8s_one _) (hL := (perm_of fun f => by (simp only [List.map_append, List.map_cons, List.map_nil, List.sum_append, List.sum_cons, List.sum_nil] <;> omega))) (hs := by exact hBs)) (fun _ => ?_)
        refine DR.c 8 ?_
        refine DOp.op1 rfl (osa (arr := ti23.zero.cells) (e := 23) (L' := (b4, Obj.cells (u8s B).toArray 22 (0, 0)) :: [(b2, Obj.cells ti23.zero.cells 23 (0, 0)), (b1, Obj.cells F.toArray 27 (0, 0))]) (u8s R).toArray (u8s_one _) (hL := (perm_of fun f => by (simp only [List.map_append, List.map_cons, List.map_nil, List.sum_append, List.sum_cons, List.sum_nil] <;> omega))) (hs := by exact hRs)) (fun _ => ?_)
        refine DR.done (by kernel_rfl) ?_
        exact RQ.toP (b4, b5) ⟨rfl, rfl, rfl, rfl, trivial⟩ (List.Perm.refl _) (by repeat (first | exact List.nil_sublist _ | exact List.Sublist.refl _ | apply List.Sublist.cons_cons | apply List.Sublist.cons | apply Go.Vc.subApp))
  obtain ⟨b4, b5⟩ := y
  dsimp only
  refine x_ ?_
  (repeat refine RC.seq ?_); refine RC.draw ([]) mixed (N := 8) rfl ?_
  refine dy 0 ?_
  refine DR.t 1 rfl (vslA) ?_
  refine DR.t 2 rfl (vslA) ?_
  refine DR.t 3 rfl (vslA) ?_
  refine DR.c 4 ?_
  refine DOp.op1 rfl (OpTo.new rfl rfl (nbsk (parts := [(0, .tmp 16), (1, .tmp 17), (2, .tmp 18)]) #[.slice (some ⟨b1, 0, none⟩) 8 8, .slice (some ⟨b4, 0, none⟩) 8 8, .slice (some ⟨b5, 0, none⟩) 8 8])) ?_
  intro b19
  have hfinal : ∀ w', Mem w [] [(b19, Obj.cells #[.slice (some ⟨b1, 0, none⟩) 8 8, .slice (some ⟨b4, 0, none⟩) 8 8, .slice (some ⟨b5, 0, none⟩) 8 8] 35 (0, 0)), (b5, Obj.cells (u8s R).toArray 23 (0, 0)), (b4, Obj.cells (u8s B).toArray 22 (0, 0)), (b2, Obj.cells ti23.zero.cells 23 (0, 0)), (b1, Obj.cells F.toArray 27 (0, 0))] w' → Gives Tryz.prog 32 [.int .u8 98, .slice (some ⟨b19, 0, none⟩) 3 3] (.agg (u8s D).toArray) w' := fun w' hm' => by
    have e1 : SrcW w' 1 (.slice (some ⟨b1, 0, none⟩) 8 8) pv.length (u8s pv) := by
      rw [hp8.1]
      exact SrcW.at ⟨b1, 0, none⟩ 8 8 (u8s pv) (by rw [u8s_len, hp8.1]) (Nat.le_refl 8) fun j u hj => Rd.row (e := 27) (fz := (0, 0)) (arr := F.toArray) (off := 0) (List.mem_cons_of_mem _ (List.mem_cons_of_mem _ (List.mem_cons_of_mem _ (List.mem_cons_of_mem _ List.mem_cons_self)))) (fun j u hj => by rw [List.getElem?_toArray]; exact hF0 j u hj) w' hm' j u hj
    have e4 : SrcW w' 1 (.slice (some ⟨b4, 0, none⟩) 8 8) B.length (u8s B) := by
      rw [hbl]
      exact SrcW.row hm' (e := 22) (fz := (0, 0)) (cs := u8s B) (List.mem_cons_of_mem _ (List.mem_cons_of_mem _ List.mem_cons_self)) (by rw [u8s_len, hbl]) (Nat.le_refl 8)
    have e5 : SrcW w' 1 (.slice (some ⟨b5, 0, none⟩) 8 8) R.length (u8s R) := by
      rw [hrl.1]
      exact SrcW.row hm' (e := 23) (fz := (0, 0)) (cs := u8s R) (List.mem_cons_of_mem _ List.mem_cons_self) (by rw [u8s_len, hrl.1]) (Nat.le_refl 8)
    rw [hD]
    refine Of_calls 98 (by decide) _ [.slice (some ⟨b1, 0, none⟩) 8 8, .slice (some ⟨b4, 0, none⟩) 8 8, .slice (some ⟨b5, 0, none⟩) 8 8] [pv, B, R] w' (SrcW.row hm' m0 rfl (Nat.le_refl 3)) (Parts.cons e1 (Parts.cons e4 (Parts.cons e5 Parts.nil))) ?_ ?_ (hK.fr hm'.fr (by simp))
    · show ((([pv, B, R]) : List (List Nat)).map fun l => 4 + l.length).sum ≤ _
      simp only [List.map_cons, List.sum_cons, List.map_nil, List.sum_nil, hp8.1, hbl, hrl.1]
      decide
    · intro l hl
      simp only [List.mem_cons, List.not_mem_nil, or_false] at hl
      rcases hl with rfl | rfl | rfl
      · exact hp8.2
      · exact hblt
      · exact hrl.2
  refine DR.c 5 (DOp.op1 rfl (OpTo.cv Tryz.func32 (fun w' hm' => hfinal w' hm')) (fun _ => ?_))
  refine DR.c 6 ?_
  refine DOp.op1 rfl (osa (arr := ti23.zero.cells) (e := 23) (L' := [(b19, Obj.cells #[.slice (some ⟨b1, 0, none⟩) 8 8, .slice (some ⟨b4, 0, none⟩) 8 8, .slice (some ⟨b5, 0, none⟩) 8 8] 35 (0, 0)), (b5, Obj.cells (u8s R).toArray 23 (0, 0)), (b4, Obj.cells (u8s B).toArray 22 (0, 0)), (b1, Obj.cells F.toArray 27 (0, 0))]) (u8s D).toArray (u8s_one _) (hL := (perm_of fun f => by (simp only [List.map_append, List.map_cons, List.map_nil, List.sum_append, List.sum_cons, List.sum_nil] <;> omega))) (hs := by rw [List.size_toArray, u8s_len, hD8]; rfl)) (fun _ => ?_)
  refine dy 7 ?_
  refine DR.done (by kernel_rfl) ?_
  refine x_ ?_
  exact RQ.ret2 rfl (Res.cellAll tabOk rfl rfl rfl m0 (by rw [List.size_toArray, u8s_len, hD8]; rfl)) (Res.tmp rfl) fun w' hm => ⟨rfl, hm.fr⟩
end Go.Proofs.YtfoeakgnkfcbjaaGreatDoor
end
section
/- block: Same of both. -/
namespace Go.Proofs.YtfoeakgnkfcbjaaGreatDoor
attribute [local irreducible] Go.Vc.Run Go.Vc.RC Go.Vc.RQ Go.Vc.DR Go.Vc.DOp Go.Vc.Knows Go.Vc.At
set_option maxHeartbeats 400000
set_option maxRecDepth 10000
open Go Go.Vc Go.Sha
/-- Both may be, and their bytes are the same. -/
def SameK (a b : BkV) : Prop := MayB a ∧ MayB b ∧ bkB a = bkB b
noncomputable instance (a b : BkV) : Decidable (SameK a b) := Classical.propDecidable _
theorem bt_bk {b : BkV} (h : MayB b) : ∀ x ∈ bkB b, x < 256 := by
  intro x hx
  unfold bkB at hx
  rcases List.mem_append.1 hx with hx | hx
  · exact b.pv.2.2 x hx
  rcases List.mem_append.1 hx with hx | hx
  · exact bits_lt _ x hx
  rcases List.mem_append.1 hx with hx | hx
  · exact le_lt _ _ x hx
  · unfold txsB at hx
    obtain ⟨l, hl, hx⟩ := List.mem_flatten.1 hx
    obtain ⟨q, hq, rfl⟩ := List.mem_map.1 hl
    unfold txB at hx
    rcases List.mem_append.1 hx with hx | hx
    · exact le_lt _ _ x hx
    · exact bt_tx (may_all h q hq) x hx
set_option maxRecDepth 10000 in set_option maxHeartbeats 4000000 in
theorem SameBk_calls (s t : BkV) (hls : BkLn s) (hln : BkLn t) (a : Option Addr) (c : Nat) (a' : Option Addr) (c' : Nat) (w : World) (hs : BkAt w s a c) (ht : BkAt w t a' c') : Gives Tryz.prog 15 [.agg (bkC s a c).toArray, .agg (bkC t a' c').toArray] (.bool (decide (SameK s t))) w := by
  refine enter Tryz.func15 rfl (Mem.nil w []) rfl ?_
  have hFs : (bkC s a c).toArray.size = 10 := by rw [List.size_toArray, bkC_len]
  have hGs : (bkC t a' c').toArray.size = 10 := by rw [List.size_toArray, bkC_len]
  have hE : ∀ w', Fr [] w w' → Turns Tryz.prog 38 [.agg (bkC s a c).toArray] w' [] (Y := WrY s) (fun y => .tuple #[y.1.1, .bool (decide (MayB s))]) (fun y => y.1.2) := fun w' hf => written_calls s hls a c w' (hs.fr hf)
  have hE2 : ∀ w', Fr [] w w' → Turns Tryz.prog 38 [.agg (bkC t a' c').toArray] w' [] (Y := WrY t) (fun y => .tuple #[y.1.1, .bool (decide (MayB t))]) (fun y => y.1.2) := fun w' hf => written_calls t hln a' c' w' (ht.fr hf)
  generalize bkC s a c = F at hFs hE ⊢
  generalize bkC t a' c' = G at hGs hE2 ⊢
  refine z_ ?_
  refine Run.nw nbx ?_
  intro b2
  refine z_ ?_
  refine Run.nw nbx ?_
  intro b3
  refine x_ ?_
  have hz0 : ([(b3, Obj.cells G.toArray 27 (0, 0)), (b2, Obj.cells F.toArray 27 (0, 0))] : Hp).Perm ([] ++ [(b3, Obj.cells G.toArray 27 (0, 0)), (b2, Obj.cells F.toArray 27 (0, 0))]) := List.Perm.refl _
  refine Run.op1 (OpTo.callT Tryz.func38 hz0 (fun w' hm => hE w' hm.fr)) ?_
  rintro ⟨⟨v1, l1⟩, h1⟩
  dsimp only at h1 ⊢
  refine x_ ?_
  have hz1 : (l1 ++ [(b3, Obj.cells G.toArray 27 (0, 0)), (b2, Obj.cells F.toArray 27 (0, 0))] : Hp).Perm ([] ++ (l1 ++ [(b3, Obj.cells G.toArray 27 (0, 0)), (b2, Obj.cells F.toArray 27 (0, 0))])) := List.Perm.refl _
  refine Run.op1 (OpTo.callT Tryz.func38 hz1 (fun w' hm => hE2 w' hm.fr)) ?_
  rintro ⟨⟨v2, l2⟩, h2⟩
  dsimp only at h2 ⊢
  by_cases ha : MayB s
  rotate_left
  · rw [decide_eq_false ha, decide_eq_false (fun h : SameK s t => ha h.1)]
    refine x_ ?_
    exact RQ.ret1 rfl (Res.tmp rfl) fun w' hm => ⟨rfl, hm.fr⟩
  rw [decide_eq_true ha]
  rw [show wrB s = bkB s from if_pos ha] at h1
  by_cases hb : MayB t
  rotate_left
  · rw [decide_eq_false hb, decide_eq_false (fun h : SameK s t => hb h.2.1)]
    refine x_ ?_
    exact RQ.ret1 rfl (Res.tmp rfl) fun w' hm => ⟨rfl, hm.fr⟩
  rw [decide_eq_true hb]
  rw [show wrB t = bkB t from if_pos hb] at h2
  have e : decide (SameK s t) = decide (bkB s = bkB t) := decide_eq_decide.2 ⟨fun h => h.2.2, fun h => ⟨ha, hb, h⟩⟩
  rw [e]
  refine x_ ?_
  refine Run.op1 (OpTo.cv Tryz.func39 (fun w' hm => Equal_calls (bkB s) (bkB t) (bt_bk ha) (bt_bk hb) _ _ w' (h1.srcW (fun q hq => hm.has q (List.mem_append_right _ (List.mem_append_left _ hq)))) (h2.srcW (fun q hq => hm.has q (List.mem_append_left _ hq))))) (fun _ => ?_)
  refine x_ ?_
  exact RQ.ret1 rfl (Res.tmp rfl) fun w' hm => ⟨rfl, hm.fr⟩
set_option maxRecDepth 10000 in set_option maxHeartbeats 4000000 in
theorem RSameBk_calls (s t : BkV) (hls : BkLn s) (hln : BkLn t) (a : Option Addr) (c : Nat) (a' : Option Addr) (c' : Nat) (w : World) (hs : BkAt w s a c) (ht : BkAt w t a' c') : Gives Tryz.prog 24 [.agg (bkC s a c).toArray, .agg (bkC t a' c').toArray] (.bool (decide (SameK s t))) w := by
  refine enter Tryz.func24 rfl (Mem.nil w []) rfl ?_
  have hFs : (bkC s a c).toArray.size = 10 := by rw [List.size_toArray, bkC_len]
  have hGs : (bkC t a' c').toArray.size = 10 := by rw [List.size_toArray, bkC_len]
  have hE : ∀ w', Fr [] w w' → Turns Tryz.prog 18 [.agg (bkC s a c).toArray] w' [] (Y := WrY s) (fun y => .tuple #[y.1.1, .int .i64 (ebE s)]) (fun y => y.1.2) := fun w' hf => REncBk_calls s hls a c w' (hs.fr hf)
  have hE2 : ∀ w', Fr [] w w' → Turns Tryz.prog 18 [.agg (bkC t a' c').toArray] w' [] (Y := WrY t) (fun y => .tuple #[y.1.1, .int .i64 (ebE t)]) (fun y => y.1.2) := fun w' hf => REncBk_calls t hln a' c' w' (ht.fr hf)
  generalize bkC s a c = F at hFs hE ⊢
  generalize bkC t a' c' = G at hGs hE2 ⊢
  refine z_ ?_
  refine Run.nw nbx ?_
  intro b2
  refine z_ ?_
  refine Run.nw nbx ?_
  intro b3
  refine x_ ?_
  have hz0 : ([(b3, Obj.cells G.toArray 27 (0, 0)), (b2, Obj.cells F.toArray 27 (0, 0))] : Hp).Perm ([] ++ [(b3, Obj.cells G.toArray 27 (0, 0)), (b2, Obj.cells F.toArray 27 (0, 0))]) := List.Perm.refl _
  refine Run.op1 (OpTo.callT Tryz.func18 hz0 (fun w' hm => hE w' hm.fr)) ?_
  rintro ⟨⟨v1, l1⟩, h1⟩
  dsimp only at h1 ⊢
  refine x_ ?_
  have hz1 : (l1 ++ [(b3, Obj.cells G.toArray 27 (0, 0)), (b2, Obj.cells F.toArray 27 (0, 0))] : Hp).Perm ([] ++ (l1 ++ [(b3, Obj.cells G.toArray 27 (0, 0)), (b2, Obj.cells F.toArray 27 (0, 0))])) := List.Perm.refl _
  refine Run.op1 (OpTo.callT Tryz.func18 hz1 (fun w' hm => hE2 w' hm.fr)) ?_
  rintro ⟨⟨v2, l2⟩, h2⟩
  dsimp only at h2 ⊢
  by_cases ha : MayB s
  rotate_left
  · rw [show ebE s = 1 from if_neg ha, decide_eq_false (fun h : SameK s t => ha h.1)]
    refine x_ ?_
    exact RQ.ret1 rfl (Res.tmp rfl) fun w' hm => ⟨rfl, hm.fr⟩
  rw [show ebE s = 0 from if_pos ha]
  rw [show wrB s = bkB s from if_pos ha] at h1
  by_cases hb : MayB t
  rotate_left
  · rw [show ebE t = 1 from if_neg hb, decide_eq_false (fun h : SameK s t => hb h.2.1)]
    refine x_ ?_
    exact RQ.ret1 rfl (Res.tmp rfl) fun w' hm => ⟨rfl, hm.fr⟩
  rw [show ebE t = 0 from if_pos hb]
  rw [show wrB t = bkB t from if_pos hb] at h2
  have e : decide (SameK s t) = decide (bkB s = bkB t) := decide_eq_decide.2 ⟨fun h => h.2.2, fun h => ⟨ha, hb, h⟩⟩
  rw [e]
  refine x_ ?_
  refine Run.a (Val.bytesStr (a := bkB s) tabOk rfl rfl rfl rfl rfl rfl rfl rfl (h1.src (fun q hq => List.mem_append_right _ (List.mem_append_left _ hq)))) ?_
  refine x_ ?_
  refine Run.a (Val.bytesStr (a := bkB t) tabOk rfl rfl rfl rfl rfl rfl rfl rfl (h2.src (fun q hq => List.mem_append_left _ hq))) ?_
  refine Run.a (Val.eqStr (a := bkB s) (b := bkB t) rfl rfl rfl (bt_bk ha) (bt_bk hb)) ?_
  refine x_ ?_
  exact RQ.ret1 rfl (Res.tmp rfl) fun w' hm => ⟨rfl, hm.fr⟩
end Go.Proofs.YtfoeakgnkfcbjaaGreatDoor
end
section
/- block: bytes that are told how many they are, read. -/
namespace Go.Proofs.YtfoeakgnkfcbjaaGreatDoor
attribute [local irreducible] Go.Vc.Run Go.Vc.RC Go.Vc.RQ Go.Vc.DR Go.Vc.DOp Go.Vc.Knows Go.Vc.At
set_option maxHeartbeats 400000
set_option maxRecDepth 10000
open Go Go.Vc Go.Sha
def pByt : Ps (List Nat) := fun l => if 4 ≤ l.length ∧ num8 (l.take 4) ≤ (l.drop 4).length then some ((l.drop 4).take (num8 (l.take 4)), (l.drop 4).drop (num8 (l.take 4))) else none
def bytE (x : List Nat) : List Nat := le x.length 4 ++ x
def bytR (x : List Nat) : Prop := x.length < 4294967296 ∧ Bt x
theorem good_Byt : Good pByt bytE bytR where
  a := fun x r h hr => by
    have h4 : (le x.length 4).length = 4 := le_len _ _
    have e1 : (bytE x ++ r).take 4 = le x.length 4 := by unfold bytE; rw [List.append_assoc, List.take_append_of_le_length (by rw [h4]; exact Nat.le_refl 4), List.take_of_length_le (by rw [h4]; exact Nat.le_refl 4)]
    have e2 : (bytE x ++ r).drop 4 = x ++ r := by
      unfold bytE
      rw [List.append_assoc]
      have := List.drop_left (l₁ := le x.length 4) (l₂ := x ++ r)
      rwa [h4] at this
    have e3 : num8 (le x.length 4) = x.length := num8_leT 4 _ h.1
    unfold pByt
    rw [e1, e2, e3, if_pos ⟨by unfold bytE; rw [List.length_append, List.length_append, h4]; omega, by rw [List.length_append]; omega⟩, List.take_left, List.drop_left]
  b := fun l x r hl h => by
    unfold pByt at h
    split at h
    · rename_i hc
      simp only [Option.some.injEq, Prod.mk.injEq] at h
      obtain ⟨rfl, rfl⟩ := h
      have h1 := le_num8 (l.take 4) (hl.take 4)
      have h2 := num8_lt (l.take 4) (hl.take 4)
      rw [List.length_take, Nat.min_eq_left hc.1] at h1 h2
      have h3 : ((l.drop 4).take (num8 (l.take 4))).length = num8 (l.take 4) := by rw [List.length_take]; omega
      refine ⟨?_, ?_⟩
      · unfold bytE
        rw [h3, h1, List.append_assoc, List.take_append_drop, List.take_append_drop]
      · refine ⟨by rw [h3]; exact h2, fun y hy => hl y (List.mem_of_mem_drop (List.mem_of_mem_take hy))⟩
    · cases h
theorem RBytes_over2 (rb n k m : Nat) (ad : Addr) (hrb : ad.block ≠ rb) (hn : n ≤ 1000000) (hk : k + 4 ≤ n) (hov : n < k + 4 + m) (l4 : List Nat) (h4 : l4.length = 4) (hb4 : ∀ x ∈ l4, x < 256) (hm : num8 l4 = m) (w : World) (hs : w.heap[rb]? = some (.cells #[.slice (some ad) n n, .int .i64 k] 134 (0, 0)))
    (hr4 : ∀ j u, (u8s l4)[j]? = some u → w.cell? (ad.add (k + j)) = some u) :
    Calls Tryz.prog 46 #[.pointer (some ⟨rb, 0, none⟩)] w fun e w' => e = .panicked shortP ∧ Fr [rb] w w' ∧ w'.heap[rb]? = some (.cells #[.slice (some ad) n n, .int .i64 k] 134 (0, 0)) := by
  have hL : Has [(rb, Obj.cells #[Value.slice (some ad) n n, .int .i64 k] 134 (0, 0))] w := fun p hp => by rw [List.mem_singleton] at hp; subst hp; exact hs
  refine enter (vs := [.pointer (some ⟨rb, 0, none⟩)]) Tryz.func46 rfl (Mem.init (S0 := [rb]) hL (fun p hp => by rw [List.mem_singleton] at hp; subst hp; exact List.mem_singleton.2 rfl) (by simp)) rfl ?_
  have hz : ([(rb, Obj.cells #[Value.slice (some ad) n n, .int .i64 k] 134 (0, 0))] : Hp).Perm ([(rb, Obj.cells #[Value.slice (some ad) n n, .int .i64 k] 134 (0, 0))] ++ []) := List.Perm.refl _
  have hS : ∀ j, (ad.add j).block ∉ [rb] := by
    intro j h
    have h' := List.mem_singleton.1 h
    exact hrb ((show (ad.add j).block = ad.block by first | rfl | (unfold Addr.add; split <;> rfl)).symm.trans h')
  refine z_ ?_
  refine Run.op1 (OpTo.callT Tryz.func44 hz (fun w' hm' => RNum_ok rb n k 4 ad hrb hn (by decide) (by omega) l4 h4 hb4 w' (hm'.has _ m0) (fun j u hj => hm'.fr.cell (hS _) (hr4 j u hj)))) ?_
  intro _
  rw [hm]
  refine z_ ?_
  refine Run.op1 (OpTo.cv Tryz.func76 (fun w' hm' => RLeft_calls rb n n (k + 4) (some ad) hn (by omega) w' (hm'.has _ m0))) (fun _ => ?_)
  refine z_ ?_
  refine Run.op1 (os1 #[Value.slice (some ad) n n, .int .i64 k]) (fun _ => ?_)
  refine z_ ?_
  refine Run.a (vbs #[]) ?_
  refine Run.a (Val.mkI tabOk rfl rfl rfl rfl) ?_
  refine Run.panic (v := .agg #[]) (pt := 126) ?_
  repeat first | refine RQ.thenPanic ?_ | refine RQ.blockPanic ?_
  exact RQ.panic fun w' hm => ⟨rfl, hm.fr, hm.has _ m0⟩
theorem rdByt (rb : Nat) (a : Option Addr) (l r : List Nat) (hr : r <:+ l) : RdsC 46 [.pointer (some ⟨rb, 0, none⟩)] rb a l r [] (pByt r) (fun x => {p : Value × Hp // Own 5 1 p.1 x.length (u8s x) p.2}) (fun _ y => y.1.1) (fun _ y => y.1.2) := by
  intro w hI hw hnd
  have hrl := hr.length_le
  have hlen := hI.len
  have hs := hw (rb, RdS a l r) List.mem_cons_self
  by_cases h4 : 4 ≤ r.length
  rotate_left
  · refine (RBytes_none rb l.length l.length (l.length - r.length) a (by omega) (by omega) (by omega) w hs).mono ?_
    rintro e w' ⟨rfl, hfr⟩
    rw [show pByt r = none from if_neg fun h => h4 h.1]
    exact ⟨l.length - r.length, by omega, rfl, hfr.any _, (hfr.block rb (Array.getElem?_eq_some_iff.1 hs).1 (by simp)).trans hs⟩
  obtain ⟨ad, c, hv, hc, hcl, hrd⟩ := hI.src.pos (by omega)
  cases hv
  have hne : ad.block ≠ rb := fun e => hI.away (by omega) ad rfl (by rw [e]; exact List.mem_cons_self)
  have hpre : r = l.drop (l.length - r.length) := by
    obtain ⟨p, rfl⟩ := hr
    rw [List.length_append, Nat.add_sub_cancel, List.drop_left]
  have hbr : ∀ x ∈ r, x < 256 := fun x hx => hI.bt x (hr.mem hx)
  have hat : ∀ j u, (u8s r)[j]? = some u → w.cell? (ad.add (l.length - r.length + j)) = some u := fun j u hj => hrd _ u (by rw [hpre, u8s_drop, List.getElem?_drop] at hj; exact hj)
  have hr4 : ∀ j u, (u8s (r.take 4))[j]? = some u → w.cell? (ad.add (l.length - r.length + j)) = some u := fun j u hj => by
    rw [u8s_take, List.getElem?_take] at hj
    split at hj
    · exact hat j u hj
    · cases hj
  obtain ⟨m, hm⟩ : ∃ m, m = num8 (r.take 4) := ⟨_, rfl⟩
  by_cases hov : m ≤ (r.drop 4).length
  · have hdl : (r.drop 4).length = r.length - 4 := List.length_drop
    have hx : ((r.drop 4).take m).length = m := by rw [List.length_take]; omega
    refine (RBytes_ok rb l.length (l.length - r.length) m ad hne (by omega) (by omega) (r.take 4) ((r.drop 4).take m) (by rw [List.length_take]; omega) (fun x hx => hbr x (List.mem_of_mem_take hx)) hm.symm hx w hs hr4 (fun j u hj => ?_)).mono ?_
    · rw [u8s_take, List.getElem?_take] at hj
      split at hj
      · rw [u8s_drop, List.getElem?_drop] at hj
        rw [Nat.add_assoc]
        exact hat (4 + j) u hj
      · cases hj
    · rintro e w' ⟨⟨⟨v, bl⟩, hown⟩, rfl, hfr, hbl, hnew, hn⟩
      rw [show pByt r = some ((r.drop 4).take m, (r.drop 4).drop m) from by unfold pByt; rw [← hm]; exact if_pos ⟨h4, hov⟩]
      have e2 : l.length - r.length + 4 + m = l.length - ((r.drop 4).drop m).length := by rw [List.length_drop, List.length_drop]; omega
      dsimp only at hown hbl hnew hn
      rw [e2] at hbl hnew hn
      exact ⟨⟨(v, bl), by dsimp only; rw [hx]; exact hown⟩, rfl, hfr, hbl, hnew, hn⟩
  · have hdl : (r.drop 4).length = r.length - 4 := List.length_drop
    refine (RBytes_over2 rb l.length (l.length - r.length) m ad hne (by omega) (by omega) (by omega) (r.take 4) (by rw [List.length_take]; omega) (fun x hx => hbr x (List.mem_of_mem_take hx)) hm.symm w hs hr4).mono ?_
    rintro e w' ⟨rfl, hfr, hh⟩
    rw [show pByt r = none from if_neg fun h => hov (by rw [hm]; exact h.2)]
    exact ⟨l.length - r.length, by omega, rfl, hfr, hh⟩
end Go.Proofs.YtfoeakgnkfcbjaaGreatDoor
end
