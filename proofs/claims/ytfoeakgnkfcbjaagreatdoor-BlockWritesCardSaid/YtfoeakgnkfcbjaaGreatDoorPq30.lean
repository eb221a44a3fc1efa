/- Lemmas. -/
import Derived.Test.YtfoeakgnkfcbjaaGreatDoorPq29
set_option linter.unusedSimpArgs false
set_option linter.unusedVariables false
section
/- block: ID of both (gen_bkk.py prints it out of BkK.base). -/
namespace Go.Proofs.YtfoeakgnkfcbjaaGreatDoor
attribute [local irreducible] Go.Vc.Run Go.Vc.RC Go.Vc.RQ Go.Vc.DR Go.Vc.DOp Go.Vc.Knows Go.Vc.At
set_option maxHeartbeats 400000
set_option maxRecDepth 10000
open Go Go.Vc Go.Sha
noncomputable def idB (b : BkV) : List Nat := if MayB b then digest 98 [b.pv.1, bitsF b.wk, rootB b] else List.replicate 8 0
theorem rootB_ok (b : BkV) : (rootB b).length = 8 ∧ ∀ x ∈ rootB b, x < 256 := by
  unfold rootB
  split
  · exact ⟨rootOf_len _, rootOf_lt _⟩
  · exact ⟨rfl, fun z hz => by rw [(List.mem_replicate.1 hz).2]; decide⟩
theorem idB_len (b : BkV) : (idB b).length = 8 := by
  unfold idB
  split
  · exact digest_len _ _
  · rfl
set_option maxRecDepth 10000 in set_option maxHeartbeats 4000000 in
theorem IdBk_calls (b : BkV) (hln : BkLn b) (a : Option Addr) (c : Nat) (w : World) (hat : BkAt w b a c) (hK : Laid w) : Gives Tryz.prog 11 [.agg (bkC b a c).toArray] (.tuple #[.agg (u8s (idB b)).toArray, .bool (decide (MayB b))]) w := by
  refine enter Tryz.func11 rfl (Mem.nil w []) rfl ?_
  have r8 := bk_r8 b a c
  have hF10 : (bkC b a c).toArray.size = 10 := by rw [List.size_toArray, bkC_len]
  have hF0 : ∀ j u, (u8s b.pv.1)[j]? = some u → (bkC b a c)[0 + j]? = some u := fun j u hj => by
    rw [Nat.zero_add]
    unfold bkC
    rw [List.getElem?_append_left (List.getElem?_eq_some_iff.1 hj).1]
    exact hj
  have kM : Knows Tryz.prog w 20 [.agg (bkC b a c).toArray] (.bool (decide (MayB b))) := Knows.mk Tryz.func20 (fun w' hf => MayBk_calls b hln a c w' (hat.fr hf))
  have kR : Knows Tryz.prog w 13 [.agg (bkC b a c).toArray] (.agg (u8s (rootB b)).toArray) := Knows.mk Tryz.func13 (fun w' hf => RootBk_calls b hln a c w' (hat.fr hf) (hK.fr hf (by simp)))
  have kB : Knows Tryz.prog w 31 [.float .f64 b.wk] (.agg (u8s (bitsF b.wk)).toArray) := Knows.mk Tryz.func31 (fun w' _ => Bits_calls b.wk b.hw w')
  generalize bkC b a c = F at r8 hF10 hF0 kM kR ⊢
  have hrl := rootB_ok b
  have hbl := bits_len b.wk
  have hblt := bits_lt b.wk
  refine z_ ?_
  refine Run.nw nbx ?_
  intro b1
  refine x_ ?_
  refine Run.nw nal ?_
  intro b2
  by_cases hmy : MayB b
  rotate_left
  · rw [decide_eq_false hmy] at kM ⊢
    rw [show idB b = List.replicate 8 0 from if_neg hmy]
    refine x_ ?_
    refine Run.op1 (osa (arr := ti23.zero.cells) (e := 23) (L' := [(b1, Obj.cells F.toArray 27 (0, 0))]) (u8s (List.replicate 8 0)).toArray (u8s_one _) (hL := (perm_of fun f => by (simp only [List.map_append, List.map_cons, List.map_nil, List.sum_append, List.sum_cons, List.sum_nil] <;> omega)))) (fun _ => ?_)
    refine x_ ?_
    exact RQ.ret2 rfl (Res.cellAll tabOk rfl rfl rfl m0 rfl) (Res.tmp rfl) fun w' hm => ⟨rfl, hm.fr⟩
  rw [decide_eq_true hmy] at kM ⊢
  rw [show idB b = digest 98 [b.pv.1, bitsF b.wk, rootB b] from if_pos hmy]
  have hp8 := b.pv.2
  generalize b.pv.1 = pv at hF0 hp8 ⊢
  generalize rootB b = R at hrl kR ⊢
  generalize bitsF b.wk = B at hbl hblt kB ⊢
  have hBs : (u8s B).toArray.size = 8 := by rw [List.size_toArray, u8s_len, hbl]
  have hRs : (u8s R).toArray.size = 8 := by rw [List.size_toArray, u8s_len, hrl.1]
  obtain ⟨D, hD⟩ : ∃ D, D = digest 98 [pv, B, R] := ⟨_, rfl⟩
  have hD8 : D.length = 8 := by rw [hD]; exact digest_len _ _
  rw [← hD]
  refine x_ ?_
  refine RC.thenCut (Y := Nat × Nat) (fun y => [(5, .pointer (some ⟨y.2, 0, none⟩)), (4, .pointer (some ⟨y.1, 0, none⟩)), (2, .pointer (some ⟨b2, 0, none⟩)), (1, .pointer (some ⟨b1, 0, none⟩))]) (fun y => [(y.2, Obj.cells (u8s R).toArray 23 (0, 0)), (y.1, Obj.cells (u8s B).toArray 22 (0, 0)), (b2, Obj.cells ti23.zero.cells 23 (0, 0)), (b1, Obj.cells F.toArray 27 (0, 0))]) ?_ (fun y => ?_)
  · (repeat refine RC.seq ?_); refine RC.draw ([(b1, Obj.cells F.toArray 27 (0, 0))]) mixed (N := 9) rfl ?_
    refine dy 0 ?_
    refine dy 1 ?_
    refine dy 3 ?_
    refine DR.three (i := 2) (j := 5) (k := 6) (by kernel_rfl) ?_ ?_ ?_
    · refine DOp.op1 rfl cvK (fun _ => ?_)
      refine DR.three (i := 4) (j := 5) (k := 6) (by kernel_rfl) ?_ ?_ ?_
      · refine DOp.op1 rfl cvK (fun _ => ?_)
        refine DR.two (i := 5) (j := 6) (by kernel_rfl) ?_ ?_
        · refine DOp.op1 rfl (OpTo.new rfl rfl nal) ?_
          intro b4
          refine DR.c 6 (DOp.op1 rfl (OpTo.new rfl rfl nal) ?_)
          intro b5
          refine DR.c 7 ?_
          refine DOp.op1 rfl (osa (arr := ti22.zero.cells) (e := 22) (L' := (b5, Obj.cells ti23.zero.cells 23 (0, 0)) :: [(b2, Obj.cells ti23.zero.cells 23 (0, 0)), (b1, Obj.cells F.toArray 27 (0, 0))]) (u8s B).toArray (u8s_one _) (hL := (perm_of fun f => by (simp only [List.map_append, List.map_cons, List.map_nil, List.sum_append, List.sum_cons, List.sum_nil] <;> omega))) (hs := by exact hBs)) (fun _ => ?_)
          refine DR.c 8 ?_
          refine DOp.op1 rfl (osa (arr := ti23.zero.cells) (e := 23) (L' := (b4, Obj.cells (u8s B).toArray 22 (0, 0)) :: [(b2, Obj.cells ti23.zero.cells 23 (0, 0)), (b1, Obj.cells F.toArray 27 (0, 0))]) (u8s R).toArray (u8s_one _) (hL := (perm_of fun f => by (simp only [List.map_append, List.map_cons, List.map_nil, List.sum_append, List.sum_cons, List.sum_nil] <;> omega))) (hs := by exact hRs)) (fun _ => ?_)
          refine DR.done (by kernel_rfl) ?_
          exact RQ.toP (b4, b5) ⟨rfl, rfl, rfl, rfl, trivial⟩ (List.Perm.refl _) (by repeat (first | exact List.nil_sublist _ | exact List.Sublist.refl _ | apply List.Sublist.cons_cons | apply List.Sublist.cons | apply Go.Vc.subApp))
        · refine DOp.op1 rfl (OpTo.new rfl rfl nal) ?_
          intro b5
          refine DR.c 5 (DOp.op1 rfl (OpTo.new rfl rfl nal) ?_)
          intro b4
          refine DR.c 7 ?_
          refine DOp.op1 rfl (osa (arr := ti22.zero.cells) (e := 22) (L' := (b5, Obj.cells ti23.zero.cells 23 (0, 0)) :: [(b2, Obj.cells ti23.zero.cells 23 (0, 0)), (b1, Obj.cells F.toArray 27 (0, 0))]) (u8s B).toArray (u8s_one _) (hL := (perm_of fun f => by (simp only [List.map_append, List.map_cons, List.map_nil, List.sum_append, List.sum_cons, List.sum_nil] <;> omega))) (hs := by exact hBs)) (fun _ => ?_)
          refine DR.c 8 ?_
          refine DOp.op1 rfl (osa (arr := ti23.zero.cells) (e := 23) (L' := (b4, Obj.cells (u8s B).toArray 22 (0, 0)) :: [(b2, Obj.cells ti23.zero.cells 23 (0, 0)), (b1, Obj.cells F.toArray 27 (0, 0))]) (u8s R).toArray (u8s_one _) (hL := (perm_of fun f => by (simp only [List.map_append, List.map_cons, List.map_nil, List.sum_append, List.sum_cons, List.sum_nil] <;> omega))) (hs := by exact hRs)) (fun _ => ?_)
          refine DR.done (by kernel_rfl) ?_
          exact RQ.toP (b4, b5) ⟨rfl, rfl, rfl, rfl, trivial⟩ (List.Perm.refl _) (by repeat (first | exact List.nil_sublist _ | exact List.Sublist.refl _ | apply List.Sublist.cons_cons | apply List.Sublist.cons | apply Go.Vc.subApp))
      · refine DOp.op1 rfl (OpTo.new rfl rfl nal) ?_
        intro b4
        refine DR.two (i := 4) (j := 6) (by kernel_rfl) ?_ ?_
        · refine DOp.op1 rfl cvK (fun _ => ?_)
          refine DR.c 6 (DOp.op1 rfl (OpTo.new rfl rfl nal) ?_)
          intro b5
          refine DR.c 7 ?_
          refine DOp.op1 rfl (osa (arr := ti22.zero.cells) (e := 22) (L' := (b5, Obj.cells ti23.zero.cells 23 (0, 0)) :: [(b2, Obj.cells ti23.zero.cells 23 (0, 0)), (b1, Obj.cells F.toArray 27 (0, 0))]) (u8s B).toArray (u8s_one _) (hL := (perm_of fun f => by (simp only [List.map_append, List.map_cons, List.map_nil, List.sum_append, List.sum_cons, List.sum_nil] <;> omega))) (hs := by exact hBs)) (fun _ => ?_)
          refine DR.c 8 ?_
          refine DOp.op1 rfl (osa (arr := ti23.zero.cells) (e := 23) (L' := (b4, Obj.cells (u8s B).toArray 22 (0, 0)) :: [(b2, Obj.cells ti23.zero.cells 23 (0, 0)), (b1, Obj.cells F.toArray 27 (0, 0))]) (u8s R).toArray (u8s_one _) (hL := (perm_of fun f => by (simp only [List.map_append, List.map_cons, List.map_nil, List.sum_append, List.sum_cons, List.sum_nil] <;> omega))) (hs := by exact hRs)) (fun _ => ?_)
          refine DR.done (by kernel_rfl) ?_
          exact RQ.toP (b4, b5) ⟨rfl, rfl, rfl, rfl, trivial⟩ (List.Perm.refl _) (by repeat (first | exact List.nil_sublist _ | exact List.Sublist.refl _ | apply List.Sublist.cons_cons | apply List.Sublist.cons | apply Go.Vc.subApp))
        · refine DOp.op1 rfl (OpTo.new rfl rfl nal) ?_
          intro b5
          refine DR.c 4 (DOp.op1 rfl cvK (fun _ => ?_))
          refine DR.c 7 ?_
          refine DOp.op1 rfl (osa (arr := ti22.zero.cells) (e := 22) (L' := (b5, Obj.cells ti23.zero.cells 23 (0, 0)) :: [(b2, Obj.cells ti23.zero.cells 23 (0, 0)), (b1, Obj.cells F.toArray 27 (0, 0))]) (u8s B).toArray (u8s_one _) (hL := (perm_of fun f => by (simp only [List.map_append, List.map_cons, List.map_nil, List.sum_append, List.sum_cons, List.sum_nil] <;> omega))) (hs := by exact hBs)) (fun _ => ?_)
          refine DR.c 8 ?_
          refine DOp.op1 rfl (osa (arr := ti23.zero.cells) (e := 23) (L' := (b4, Obj.cells (u8s B).toArray 22 (0, 0)) :: [(b2, Obj.cells ti23.zero.cells 23 (0, 0)), (b1, Obj.cells F.toArray 27 (0, 0))]) (u8s R).toArray (u8s_one _) (hL := (perm_of fun f => by (simp only [List.map_append, List.map_cons, List.map_nil, List.sum_append, List.sum_cons, List.sum_nil] <;> omega))) (hs := by exact hRs)) (fun _ => ?_)
          refine DR.done (by kernel_rfl) ?_
          exact RQ.toP (b4, b5) ⟨rfl, rfl, rfl, rfl, trivial⟩ (List.Perm.refl _) (by repeat (first | exact List.nil_sublist _ | exact List.Sublist.refl _ | apply List.Sublist.cons_cons | apply List.Sublist.cons | apply Go.Vc.subApp))
      · refine DOp.op1 rfl (OpTo.new rfl rfl nal) ?_
        intro b5
        refine DR.two (i := 4) (j := 5) (by kernel_rfl) ?_ ?_
        · refine DOp.op1 rfl cvK (fun _ => ?_)
          refine DR.c 5 (DOp.op1 rfl (OpTo.new rfl rfl nal) ?_)
          intro b4
          refine DR.c 7 ?_
          refine DOp.op1 rfl (osa (arr := ti22.zero.cells) (e := 22) (L' := (b5, Obj.cells ti23.zero.cells 23 (0, 0)) :: [(b2, Obj.cells ti23.zero.cells 23 (0, 0)), (b1, Obj.cells F.toArray 27 (0, 0))]) (u8s B).toArray (u8s_one _) (hL := (perm_of fun f => by (simp only [List.map_append, List.map_cons, List.map_nil, List.sum_append, List.sum_cons, List.sum_nil] <;> omega))) (hs := by exact hBs)) (fun _ => ?_)
          refine DR.c 8 ?_
          refine DOp.op1 rfl (osa (arr := ti23.zero.cells) (e := 23) (L' := (b4, Obj.cells (u8s B).toArray 22 (0, 0)) :: [(b2, Obj.cells ti23.zero.cells 23 (0, 0)), (b1, Obj.cells F.toArray 27 (0, 0))]) (u8s R).toArray (u8s_one _) (hL := (perm_of fun f => by (simp only [List.map_append, List.map_cons, List.map_nil, List.sum_append, List.sum_cons, List.sum_nil] <;> omega))) (hs := by exact hRs)) (fun _ => ?_)
          refine DR.done (by kernel_rfl) ?_
          exact RQ.toP (b4, b5) ⟨rfl, rfl, rfl, rfl, trivial⟩ (List.Perm.refl _) (by repeat (first | exact List.nil_sublist _ | exact List.Sublist.refl _ | apply List.Sublist.cons_cons | apply List.Sublist.cons | apply Go.Vc.subApp))
        · refine DOp.op1 rfl (OpTo.new rfl rfl nal) ?_
          intro b4
          refine DR.c 4 (DOp.op1 rfl cvK (fun _ => ?_))
          refine DR.c 7 ?_
          refine DOp.op1 rfl (osa (arr := ti22.zero.cells) (e := 22) (L' := (b5, Obj.cells ti23.zero.cells 23 (0, 0)) :: [(b2, Obj.cells ti23.zero.cells 23 (0, 0)), (b1, Obj.cells F.toArray 27 (0, 0))]) (u8s B).toArray (u8s_one _) (hL := (perm_of fun f => by (simp only [List.map_append, List.map_cons, List.map_nil, List.sum_append, List.sum_cons, List.sum_nil] <;> omega))) (hs := by exact hBs)) (fun _ => ?_)
          refine DR.c 8 ?_
          refine DOp.op1 rfl (osa (arr := ti23.zero.cells) (e := 23) (L' := (b4, Obj.cells (u8s B).toArray 22 (0, 0)) :: [(b2, Obj.cells ti23.zero.cells 23 (0, 0)), (b1, Obj.cells F.toArray 27 (0, 0))]) (u8s R).toArray (u8s_one _) (hL := (perm_of fun f => by (simp only [List.map_append, List.map_cons, List.map_nil, List.sum_append, List.sum_cons, List.sum_nil] <;> omega))) (hs := by exact hRs)) (fun _ => ?_)
          refine DR.done (by kernel_rfl) ?_
          exact RQ.toP (b4, b5) ⟨rfl, rfl, rfl, rfl, trivial⟩ (List.Perm.refl _) (by repeat (first | exact List.nil_sublist _ | exact List.Sublist.refl _ | apply List.Sublist.cons_cons | apply List.Sublist.cons | apply Go.Vc.subApp))
    · refine DOp.op1 rfl (OpTo.new rfl rfl nal) ?_
      intro b4
      refine DR.two (i := 2) (j := 6) (by kernel_rfl) ?_ ?_
      · refine DOp.op1 rfl cvK (fun _ => ?_)
        refine DR.two (i := 4) (j := 6) (by kernel_rfl) ?_ ?_
        · refine DOp.op1 rfl cvK (fun _ => ?_)
          refine DR.c 6 (DOp.op1 rfl (OpTo.new rfl rfl nal) ?_)
          intro b5
          refine DR.c 7 ?_
          refine DOp.op1 rfl (osa (arr := ti22.zero.cells) (e := 22) (L' := (b5, Obj.cells ti23.zero.cells 23 (0, 0)) :: [(b2, Obj.cells ti23.zero.cells 23 (0, 0)), (b1, Obj.cells F.toArray 27 (0, 0))]) (u8s B).toArray (u8s_one _) (hL := (perm_of fun f => by (simp only [List.map_append, List.map_cons, List.map_nil, List.sum_append, List.sum_cons, List.sum_nil] <;> omega))) (hs := by exact hBs)) (fun _ => ?_)
          refine DR.c 8 ?_
          refine DOp.op1 rfl (osa (arr := ti23.zero.cells) (e := 23) (L' := (b4, Obj.cells (u8s B).toArray 22 (0, 0)) :: [(b2, Obj.cells ti23.zero.cells 23 (0, 0)), (b1, Obj.cells F.toArray 27 (0, 0))]) (u8s R).toArray (u8s_one _) (hL := (perm_of fun f => by (simp only [List.map_append, List.map_cons, List.map_nil, List.sum_append, List.sum_cons, List.sum_nil] <;> omega))) (hs := by exact hRs)) (fun _ => ?_)
          refine DR.done (by kernel_rfl) ?_
          exact RQ.toP (b4, b5) ⟨rfl, rfl, rfl, rfl, trivial⟩ (List.Perm.refl _) (by repeat (first | exact List.nil_sublist _ | exact List.Sublist.refl _ | apply List.Sublist.cons_cons | apply List.Sublist.cons | apply Go.Vc.subApp))
        · refine DOp.op1 rfl (OpTo.new rfl rfl nal) ?_
          intro b5
          refine DR.c 4 (DOp.op1 rfl cvK (fun _ => ?_))
          refine DR.c 7 ?_
          refine DOp.op1 rfl (osa (arr := ti22.zero.cells) (e := 22) (L' := (b5, Obj.cells ti23.zero.cells 23 (0, 0)) :: [(b2, Obj.cells ti23.zero.cells 23 (0, 0)), (b1, Obj.cells F.toArray 27 (0, 0))]) (u8s B).toArray (u8s_one _) (hL := (perm_of fun f => by (simp only [List.map_append, List.map_cons, List.map_nil, List.sum_append, List.sum_cons, List.sum_nil] <;> omega))) (hs := by exact hBs)) (fun _ => ?_)
          refine DR.c 8 ?_
          refine DOp.op1 rfl (osa (arr := ti23.zero.cells) (e := 23) (L' := (b4, Obj.cells (u8s B).toArray 22 (0, 0)) :: [(b2, Obj.cells ti23.zero.cells 23 (0, 0)), (b1, Obj.cells F.toArray 27 (0, 0))]) (u8s R).toArray (u8s_one _) (hL := (perm_of fun f => by (simp only [List.map_append, List.map_cons, List.map_nil, List.sum_append, List.sum_cons, List.sum_nil] <;> omega))) (hs := by exact hRs)) (fun _ => ?_)
          refine DR.done (by kernel_rfl) ?_
          exact RQ.toP (b4, b5) ⟨rfl, rfl, rfl, rfl, trivial⟩ (List.Perm.refl _) (by repeat (first | exact List.nil_sublist _ | exact List.Sublist.refl _ | apply List.Sublist.cons_cons | apply List.Sublist.cons | apply Go.Vc.subApp))
      · refine DOp.op1 rfl (OpTo.new rfl rfl nal) ?_
        intro b5
        refine DR.c 2 (DOp.op1 rfl cvK (fun _ => ?_))
        refine DR.c 4 (DOp.op1 rfl cvK (fun _ => ?_))
        refine DR.c 7 ?_
        refine DOp.op1 rfl (osa (arr := ti22.zero.cells) (e := 22) (L' := (b5, Obj.cells ti23.zero.cells 23 (0, 0)) :: [(b2, Obj.cells ti23.zero.cells 23 (0, 0)), (b1, Obj.cells F.toArray 27 (0, 0))]) (u8s B).toArray (u8s_one _) (hL := (perm_of fun f => by (simp only [List.map_append, List.map_cons, List.map_nil, List.sum_append, List.sum_cons, List.sum_nil] <;> omega))) (hs := by exact hBs)) (fun _ => ?_)
        refine DR.c 8 ?_
        refine DOp.op1 rfl (osa (arr := ti23.zero.cells) (e := 23) (L' := (b4, Obj.cells (u8s B).toArray 22 (0, 0)) :: [(b2, Obj.cells ti23.zero.cells 23 (0, 0)), (b1, Obj.cells F.toArray 27 (0, 0))]) (u8s R).toArray (u8s_one _) (hL := (perm_of fun f => by (simp only [List.map_append, List.map_cons, List.map_nil, List.sum_append, List.sum_cons, List.sum_nil] <;> omega))) (hs := by exact hRs)) (fun _ => ?_)
        refine DR.done (by kernel_rfl) ?_
        exact RQ.toP (b4, b5) ⟨rfl, rfl, rfl, rfl, trivial⟩ (List.Perm.refl _) (by repeat (first | exact List.nil_sublist _ | exact List.Sublist.refl _ | apply List.Sublist.cons_cons | apply List.Sublist.cons | apply Go.Vc.subApp))
    · refine DOp.op1 rfl (OpTo.new rfl rfl nal) ?_
      intro b5
      refine DR.two (i := 2) (j := 5) (by kernel_rfl) ?_ ?_
      · refine DOp.op1 rfl cvK (fun _ => ?_)
        refine DR.two (i := 4) (j := 5) (by kernel_rfl) ?_ ?_
        · refine DOp.op1 rfl cvK (fun _ => ?_)
          refine DR.c 5 (DOp.op1 rfl (OpTo.new rfl rfl nal) ?_)
          intro b4
          refine DR.c 7 ?_
          refine DOp.op1 rfl (osa (arr := ti22.zero.cells) (e := 22) (L' := (b5, Obj.cells ti23.zero.cells 23 (0, 0)) :: [(b2, Obj.cells ti23.zero.cells 23 (0, 0)), (b1, Obj.cells F.toArray 27 (0, 0))]) (u8s B).toArray (u8s_one _) (hL := (perm_of fun f => by (simp only [List.map_append, List.map_cons, List.map_nil, List.sum_append, List.sum_cons, List.sum_nil] <;> omega))) (hs := by exact hBs)) (fun _ => ?_)
          refine DR.c 8 ?_
          refine DOp.op1 rfl (osa (arr := ti23.zero.cells) (e := 23) (L' := (b4, Obj.cells (u8s B).toArray 22 (0, 0)) :: [(b2, Obj.cells ti23.zero.cells 23 (0, 0)), (b1, Obj.cells F.toArray 27 (0, 0))]) (u8s R).toArray (u8s_one _) (hL := (perm_of fun f => by (simp only [List.map_append, List.map_cons, List.map_nil, List.sum_append, List.sum_cons, List.sum_nil] <;> omega))) (hs := by exact hRs)) (fun _ => ?_)
          refine DR.done (by kernel_rfl) ?_
          exact RQ.toP (b4, b5) ⟨rfl, rfl, rfl, rfl, trivial⟩ (List.Perm.refl _) (by repeat (first | exact List.nil_sublist _ | exact List.Sublist.refl _ | apply List.Sublist.cons_cons | apply List.Sublist.cons | apply Go.Vc.subApp))
        · refine DOp.op1 rfl (OpTo.new rfl rfl nal) ?_
          intro b4
          refine DR.c 4 (DOp.op1 rfl cvK (fun _ => ?_))
          refine DR.c 7 ?_
          refine DOp.op1 rfl (osa (arr := ti22.zero.cells) (e := 22) (L' := (b5, Obj.cells ti23.zero.cells 23 (0, 0)) :: [(b2, Obj.cells ti23.zero.cells 23 (0, 0)), (b1, Obj.cells F.toArray 27 (0, 0))]) (u8s B).toArray (u8s_one _) (hL := (perm_of fun f => by (simp only [List.map_append, List.map_cons, List.map_nil, List.sum_append, List.sum_cons, List.sum_nil] <;> omega))) (hs := by exact hBs)) (fun _ => ?_)
          refine DR.c 8 ?_
          refine DOp.op1 rfl (osa (arr := ti23.zero.cells) (e := 23) (L' := (b4, Obj.cells (u8s B).toArray 22 (0, 0)) :: [(b2, Obj.cells ti23.zero.cells 23 (0, 0)), (b1, Obj.cells F.toArray 27 (0, 0))]) (u8s R).toArray (u8s_one _) (hL := (perm_of fun f => by (simp only [List.map_append, List.map_cons, List.map_nil, List.sum_append, List.sum_cons, List.sum_nil] <;> omega))) (hs := by exact hRs)) (fun _ => ?_)
          refine DR.done (by kernel_rfl) ?_
          exact RQ.toP (b4, b5) ⟨rfl, rfl, rfl, rfl, trivial⟩ (List.Perm.refl _) (by repeat (first | exact List.nil_sublist _ | exact List.Sublist.refl _ | apply List.Sublist.cons_cons | apply List.Sublist.cons | apply Go.Vc.subApp))
      · refine DOp.op1 rfl (OpTo.new rfl rfl nal) ?_
        intro b4
        refine DR.c 2 (DOp.op1 rfl cvK (fun _ => ?_))
        refine DR.c 4 (DOp.op1 rfl cvK (fun _ => ?_))
        refine DR.c 7 ?_
        refine DOp.op1 rfl (osa (arr := ti22.zero.cells) (e := 22) (L' := (b5, Obj.cells ti23.zero.cells 23 (0, 0)) :: [(b2, Obj.cells ti23.zero.cells 23 (0, 0)), (b1, Obj.cells F.toArray 27 (0, 0))]) (u8s B).toArray (u8s_one _) (hL := (perm_of fun f => by (simp only [List.map_append, List.map_cons, List.map_nil, List.sum_append, List.sum_cons, List.sum_nil] <;> omega))) (hs := by exact hBs)) (fun _ => ?_)
        refine DR.c 8 ?_
        refine DOp.op1 rfl (osa (arr := ti23.zero.cells) (e := 23) (L' := (b4, Obj.cells (u8s B).toArray 22 (0, 0)) :: [(b2, Obj.cells ti23.zero.cells 23 (0, 0)), (b1, Obj.cells F.toArray 27 (0, 0))]) (u8s R).toArray (u8s_one _) (hL := (perm_of fun f => by (simp only [List.map_append, List.map_cons, List.map_nil, List.sum_append, List.sum_cons, List.sum_nil] <;> omega))) (hs := by exact hRs)) (fun _ => ?_)
        refine DR.done (by kernel_rfl) ?_
        exact RQ.toP (b4, b5) ⟨rfl, rfl, rfl, rfl, trivial⟩ (List.Perm.refl _) (by repeat (first | exact List.nil_sublist _ | exact List.Sublist.refl _ | apply List.Sublist.cons_cons | apply List.Sublist.cons | apply Go.Vc.subApp))
  obtain ⟨b4, b5⟩ := y
  dsimp only
  refine x_ ?_
  (repeat refine RC.seq ?_); refine RC.draw ([]) mixed (N := 8) rfl ?_
  refine dy 0 ?_
  refine DR.t 1 rfl (vslA) ?_
  refine DR.t 2 rfl (vslA) ?_
  refine DR.t 3 rfl (vslA) ?_
  refine DR.c 4 ?_
  refine DOp.op1 rfl (OpTo.new rfl rfl (nbsk (parts := [(0, .tmp 16), (1, .tmp 17), (2, .tmp 18)]) #[.slice (some ⟨b1, 0, none⟩) 8 8, .slice (some ⟨b4, 0, none⟩) 8 8, .slice (some ⟨b5, 0, none⟩) 8 8])) ?_
  intro b19
  have hfinal : ∀ w', Mem w [] [(b19, Obj.cells #[.slice (some ⟨b1, 0, none⟩) 8 8, .slice (some ⟨b4, 0, none⟩) 8 8, .slice (some ⟨b5, 0, none⟩) 8 8] 35 (0, 0)), (b5, Obj.cells (u8s R).toArray 23 (0, 0)), (b4, Obj.cells (u8s B).toArray 22 (0, 0)), (b2, Obj.cells ti23.zero.cells 23 (0, 0)), (b1, Obj.cells F.toArray 27 (0, 0))] w' → Gives Tryz.prog 32 [.int .u8 98, .slice (some ⟨b19, 0, none⟩) 3 3] (.agg (u8s D).toArray) w' := fun w' hm' => by
    have e1 : SrcW w' 1 (.slice (some ⟨b1, 0, none⟩) 8 8) pv.length (u8s pv) := by
      rw [hp8.1]
      exact SrcW.at ⟨b1, 0, none⟩ 8 8 (u8s pv) (by rw [u8s_len, hp8.1]) (Nat.le_refl 8) fun j u hj => Rd.row (e := 27) (fz := (0, 0)) (arr := F.toArray) (off := 0) (List.mem_cons_of_mem _ (List.mem_cons_of_mem _ (List.mem_cons_of_mem _ (List.mem_cons_of_mem _ List.mem_cons_self)))) (fun j u hj => by rw [List.getElem?_toArray]; exact hF0 j u hj) w' hm' j u hj
    have e4 : SrcW w' 1 (.slice (some ⟨b4, 0, none⟩) 8 8) B.length (u8s B) := by
      rw [hbl]
      exact SrcW.row hm' (e := 22) (fz := (0, 0)) (cs := u8s B) (List.mem_cons_of_mem _ (List.mem_cons_of_mem _ List.mem_cons_self)) (by rw [u8s_len, hbl]) (Nat.le_refl 8)
    have e5 : SrcW w' 1 (.slice (some ⟨b5, 0, none⟩) 8 8) R.length (u8s R) := by
      rw [hrl.1]
      exact SrcW.row hm' (e := 23) (fz := (0, 0)) (cs := u8s R) (List.mem_cons_of_mem _ List.mem_cons_self) (by rw [u8s_len, hrl.1]) (Nat.le_refl 8)
    rw [hD]
    refine Of_calls 98 (by decide) _ [.slice (some ⟨b1, 0, none⟩) 8 8, .slice (some ⟨b4, 0, none⟩) 8 8, .slice (some ⟨b5, 0, none⟩) 8 8] [pv, B, R] w' (SrcW.row hm' m0 rfl (Nat.le_refl 3)) (Parts.cons e1 (Parts.cons e4 (Parts.cons e5 Parts.nil))) ?_ ?_ (hK.fr hm'.fr (by simp))
    · show ((([pv, B, R]) : List (List Nat)).map fun l => 4 + l.length).sum ≤ _
      simp only [List.map_cons, List.sum_cons, List.map_nil, List.sum_nil, hp8.1, hbl, hrl.1]
      decide
    · intro l hl
      simp only [List.mem_cons, List.not_mem_nil, or_false] at hl
      rcases hl with rfl | rfl | rfl
      · exact hp8.2
      · exact hblt
      · exact hrl.2
  refine DR.c 5 (DOp.op1 rfl (OpTo.cv Tryz.func32 (fun w' hm' => hfinal w' hm')) (fun _ => ?_))
  refine DR.c 6 ?_
  refine DOp.op1 rfl (osa (arr := ti23.zero.cells) (e := 23) (L' := [(b19, Obj.cells #[.slice (some ⟨b1, 0, none⟩) 8 8, .slice (some ⟨b4, 0, none⟩) 8 8, .slice (some ⟨b5, 0, none⟩) 8 8] 35 (0, 0)), (b5, Obj.cells (u8s R).toArray 23 (0, 0)), (b4, Obj.cells (u8s B).toArray 22 (0, 0)), (b1, Obj.cells F.toArray 27 (0, 0))]) (u8s D).toArray (u8s_one _) (hL := (perm_of fun f => by (simp only [List.map_append, List.map_cons, List.map_nil, List.sum_append, List.sum_cons, List.sum_nil] <;> omega))) (hs := by rw [List.size_toArray, u8s_len, hD8]; rfl)) (fun _ => ?_)
  refine dy 7 ?_
  refine DR.done (by kernel_rfl) ?_
  refine x_ ?_
  exact RQ.ret2 rfl (Res.cellAll tabOk rfl rfl rfl m0 (by rw [List.size_toArray, u8s_len, hD8]; rfl)) (Res.tmp rfl) fun w' hm => ⟨rfl, hm.fr⟩
set_option maxRecDepth 10000 in set_option maxHeartbeats 4000000 in
theorem RIdBk_calls (b : BkV) (hln : BkLn b) (a : Option Addr) (c : Nat) (w : World) (hat : BkAt w b a c) : Gives Tryz.prog 19 [.agg (bkC b a c).toArray] (.tuple #[.agg (u8s (idB b)).toArray, .bool (decide (MayB b))]) w := by
  refine enter Tryz.func19 rfl (Mem.nil w []) rfl ?_
  have r8 := bk_r8 b a c
  have hF10 : (bkC b a c).toArray.size = 10 := by rw [List.size_toArray, bkC_len]
  have hF0 : ∀ j u, (u8s b.pv.1)[j]? = some u → (bkC b a c)[0 + j]? = some u := fun j u hj => by
    rw [Nat.zero_add]
    unfold bkC
    rw [List.getElem?_append_left (List.getElem?_eq_some_iff.1 hj).1]
    exact hj
  have kM : Knows Tryz.prog w 21 [.agg (bkC b a c).toArray] (.bool (decide (MayB b))) := Knows.mk Tryz.func21 (fun w' hf => RMayB_calls b hln a c w' (hat.fr hf))
  have kR : Knows Tryz.prog w 22 [.agg (bkC b a c).toArray] (.agg (u8s (rootB b)).toArray) := Knows.mk Tryz.func22 (fun w' hf => RRootBk_calls b hln a c w' (hat.fr hf))
  have kB : Knows Tryz.prog w 12 [.float .f64 b.wk] (.agg (u8s (bitsF b.wk)).toArray) := Knows.mk Tryz.func12 (fun w' _ => RBits_calls b.wk b.hw w')
  generalize bkC b a c = F at r8 hF10 hF0 kM kR ⊢
  have hrl := rootB_ok b
  have hbl := bits_len b.wk
  have hblt := bits_lt b.wk
  refine z_ ?_
  refine Run.nw nbx ?_
  intro b1
  refine x_ ?_
  refine Run.nw nal ?_
  intro b2
  by_cases hmy : MayB b
  rotate_left
  · rw [decide_eq_false hmy] at kM ⊢
    rw [show idB b = List.replicate 8 0 from if_neg hmy]
    refine x_ ?_
    refine Run.op1 (osa (arr := ti23.zero.cells) (e := 23) (L' := [(b1, Obj.cells F.toArray 27 (0, 0))]) (u8s (List.replicate 8 0)).toArray (u8s_one _) (hL := (perm_of fun f => by (simp only [List.map_append, List.map_cons, List.map_nil, List.sum_append, List.sum_cons, List.sum_nil] <;> omega)))) (fun _ => ?_)
    refine x_ ?_
    exact RQ.ret2 rfl (Res.cellAll tabOk rfl rfl rfl m0 rfl) (Res.tmp rfl) fun w' hm => ⟨rfl, hm.fr⟩
  rw [decide_eq_true hmy] at kM ⊢
  rw [show idB b = digest 98 [b.pv.1, bitsF b.wk, rootB b] from if_pos hmy]
  have hp8 := b.pv.2
  generalize b.pv.1 = pv at hF0 hp8 ⊢
  generalize rootB b = R at hrl kR ⊢
  generalize bitsF b.wk = B at hbl hblt kB ⊢
  have hBs : (u8s B).toArray.size = 8 := by rw [List.size_toArray, u8s_len, hbl]
  have hRs : (u8s R).toArray.size = 8 := by rw [List.size_toArray, u8s_len, hrl.1]
  obtain ⟨D, hD⟩ : ∃ D, D = digest 98 [pv, B, R] := ⟨_, rfl⟩
  have hD8 : D.length = 8 := by rw [hD]; exact digest_len _ _
  rw [← hD]
  refine x_ ?_
  refine RC.thenCut (Y := Nat × Nat) (fun y => [(5, .pointer (some ⟨y.2, 0, none⟩)), (4, .pointer (some ⟨y.1, 0, none⟩)), (2, .pointer (some ⟨b2, 0, none⟩)), (1, .pointer (some ⟨b1, 0, none⟩))]) (fun y => [(y.2, Obj.cells (u8s R).toArray 23 (0, 0)), (y.1, Obj.cells (u8s B).toArray 22 (0, 0)), (b2, Obj.cells ti23.zero.cells 23 (0, 0)), (b1, Obj.cells F.toArray 27 (0, 0))]) ?_ (fun y => ?_)
  · (repeat refine RC.seq ?_); refine RC.draw ([(b1, Obj.cells F.toArray 27 (0, 0))]) mixed (N := 9) rfl ?_
    refine dy 0 ?_
    refine dy 1 ?_
    refine dy 3 ?_
    refine DR.three (i := 2) (j := 5) (k := 6) (by kernel_rfl) ?_ ?_ ?_
    · refine DOp.op1 rfl cvK (fun _ => ?_)
      refine DR.three (i := 4) (j := 5) (k := 6) (by kernel_rfl) ?_ ?_ ?_
      · refine DOp.op1 rfl cvK (fun _ => ?_)
        refine DR.two (i := 5) (j := 6) (by kernel_rfl) ?_ ?_
        · refine DOp.op1 rfl (OpTo.new rfl rfl nal) ?_
          intro b4
          refine DR.c 6 (DOp.op1 rfl (OpTo.new rfl rfl nal) ?_)
          intro b5
          refine DR.c 7 ?_
          refine DOp.op1 rfl (osa (arr := ti22.zero.cells) (e := 22) (L' := (b5, Obj.cells ti23.zero.cells 23 (0, 0)) :: [(b2, Obj.cells ti23.zero.cells 23 (0, 0)), (b1, Obj.cells F.toArray 27 (0, 0))]) (u8s B).toArray (u8s_one _) (hL := (perm_of fun f => by (simp only [List.map_append, List.map_cons, List.map_nil, List.sum_append, List.sum_cons, List.sum_nil] <;> omega))) (hs := by exact hBs)) (fun _ => ?_)
          refine DR.c 8 ?_
          refine DOp.op1 rfl (osa (arr := ti23.zero.cells) (e := 23) (L' := (b4, Obj.cells (u8s B).toArray 22 (0, 0)) :: [(b2, Obj.cells ti23.zero.cells 23 (0, 0)), (b1, Obj.cells F.toArray 27 (0, 0))]) (u8s R).toArray (u8s_one _) (hL := (perm_of fun f => by (simp only [List.map_append, List.map_cons, List.map_nil, List.sum_append, List.sum_cons, List.sum_nil] <;> omega))) (hs := by exact hRs)) (fun _ => ?_)
          refine DR.done (by kernel_rfl) ?_
          exact RQ.toP (b4, b5) ⟨rfl, rfl, rfl, rfl, trivial⟩ (List.Perm.refl _) (by repeat (first | exact List.nil_sublist _ | exact List.Sublist.refl _ | apply List.Sublist.cons_cons | apply List.Sublist.cons | apply Go.Vc.subApp))
        · refine DOp.op1 rfl (OpTo.new rfl rfl nal) ?_
          intro b5
          refine DR.c 5 (DOp.op1 rfl (OpTo.new rfl rfl nal) ?_)
          intro b4
          refine DR.c 7 ?_
          refine DOp.op1 rfl (osa (arr := ti22.zero.cells) (e := 22) (L' := (b5, Obj.cells ti23.zero.cells 23 (0, 0)) :: [(b2, Obj.cells ti23.zero.cells 23 (0, 0)), (b1, Obj.cells F.toArray 27 (0, 0))]) (u8s B).toArray (u8s_one _) (hL := (perm_of fun f => by (simp only [List.map_append, List.map_cons, List.map_nil, List.sum_append, List.sum_cons, List.sum_nil] <;> omega))) (hs := by exact hBs)) (fun _ => ?_)
          refine DR.c 8 ?_
          refine DOp.op1 rfl (osa (arr := ti23.zero.cells) (e := 23) (L' := (b4, Obj.cells (u8s B).toArray 22 (0, 0)) :: [(b2, Obj.cells ti23.zero.cells 23 (0, 0)), (b1, Obj.cells F.toArray 27 (0, 0))]) (u8s R).toArray (u8s_one _) (hL := (perm_of fun f => by (simp only [List.map_append, List.map_cons, List.map_nil, List.sum_append, List.sum_cons, List.sum_nil] <;> omega))) (hs := by exact hRs)) (fun _ => ?_)
          refine DR.done (by kernel_rfl) ?_
          exact RQ.toP (b4, b5) ⟨rfl, rfl, rfl, rfl, trivial⟩ (List.Perm.refl _) (by repeat (first | exact List.nil_sublist _ | exact List.Sublist.refl _ | apply List.Sublist.cons_cons | apply List.Sublist.cons | apply Go.Vc.subApp))
      · refine DOp.op1 rfl (OpTo.new rfl rfl nal) ?_
        intro b4
        refine DR.two (i := 4) (j := 6) (by kernel_rfl) ?_ ?_
        · refine DOp.op1 rfl cvK (fun _ => ?_)
          refine DR.c 6 (DOp.op1 rfl (OpTo.new rfl rfl nal) ?_)
          intro b5
          refine DR.c 7 ?_
          refine DOp.op1 rfl (osa (arr := ti22.zero.cells) (e := 22) (L' := (b5, Obj.cells ti23.zero.cells 23 (0, 0)) :: [(b2, Obj.cells ti23.zero.cells 23 (0, 0)), (b1, Obj.cells F.toArray 27 (0, 0))]) (u8s B).toArray (u8s_one _) (hL := (perm_of fun f => by (simp only [List.map_append, List.map_cons, List.map_nil, List.sum_append, List.sum_cons, List.sum_nil] <;> omega))) (hs := by exact hBs)) (fun _ => ?_)
          refine DR.c 8 ?_
          refine DOp.op1 rfl (osa (arr := ti23.zero.cells) (e := 23) (L' := (b4, Obj.cells (u8s B).toArray 22 (0, 0)) :: [(b2, Obj.cells ti23.zero.cells 23 (0, 0)), (b1, Obj.cells F.toArray 27 (0, 0))]) (u8s R).toArray (u8s_one _) (hL := (perm_of fun f => by (simp only [List.map_append, List.map_cons, List.map_nil, List.sum_append, List.sum_cons, List.sum_nil] <;> omega))) (hs := by exact hRs)) (fun _ => ?_)
          refine DR.done (by kernel_rfl) ?_
          exact RQ.toP (b4, b5) ⟨rfl, rfl, rfl, rfl, trivial⟩ (List.Perm.refl _) (by repeat (first | exact List.nil_sublist _ | exact List.Sublist.refl _ | apply List.Sublist.cons_cons | apply List.Sublist.cons | apply Go.Vc.subApp))
        · refine DOp.op1 rfl (OpTo.new rfl rfl nal) ?_
          intro b5
          refine DR.c 4 (DOp.op1 rfl cvK (fun _ => ?_))
          refine DR.c 7 ?_
          refine DOp.op1 rfl (osa (arr := ti22.zero.cells) (e := 22) (L' := (b5, Obj.cells ti23.zero.cells 23 (0, 0)) :: [(b2, Obj.cells ti23.zero.cells 23 (0, 0)), (b1, Obj.cells F.toArray 27 (0, 0))]) (u8s B).toArray (u8s_one _) (hL := (perm_of fun f => by (simp only [List.map_append, List.map_cons, List.map_nil, List.sum_append, List.sum_cons, List.sum_nil] <;> omega))) (hs := by exact hBs)) (fun _ => ?_)
          refine DR.c 8 ?_
          refine DOp.op1 rfl (osa (arr := ti23.zero.cells) (e := 23) (L' := (b4, Obj.cells (u8s B).toArray 22 (0, 0)) :: [(b2, Obj.cells ti23.zero.cells 23 (0, 0)), (b1, Obj.cells F.toArray 27 (0, 0))]) (u8s R).toArray (u8s_one _) (hL := (perm_of fun f => by (simp only [List.map_append, List.map_cons, List.map_nil, List.sum_append, List.sum_cons, List.sum_nil] <;> omega))) (hs := by exact hRs)) (fun _ => ?_)
          refine DR.done (by kernel_rfl) ?_
          exact RQ.toP (b4, b5) ⟨rfl, rfl, rfl, rfl, trivial⟩ (List.Perm.refl _) (by repeat (first | exact List.nil_sublist _ | exact List.Sublist.refl _ | apply List.Sublist.cons_cons | apply List.Sublist.cons | apply Go.Vc.subApp))
      · refine DOp.op1 rfl (OpTo.new rfl rfl nal) ?_
        intro b5
        refine DR.two (i := 4) (j := 5) (by kernel_rfl) ?_ ?_
        · refine DOp.op1 rfl cvK (fun _ => ?_)
          refine DR.c 5 (DOp.op1 rfl (OpTo.new rfl rfl nal) ?_)
          intro b4
          refine DR.c 7 ?_
          refine DOp.op1 rfl (osa (arr := ti22.zero.cells) (e := 22) (L' := (b5, Obj.cells ti23.zero.cells 23 (0, 0)) :: [(b2, Obj.cells ti23.zero.cells 23 (0, 0)), (b1, Obj.cells F.toArray 27 (0, 0))]) (u8s B).toArray (u8s_one _) (hL := (perm_of fun f => by (simp only [List.map_append, List.map_cons, List.map_nil, List.sum_append, List.sum_cons, List.sum_nil] <;> omega))) (hs := by exact hBs)) (fun _ => ?_)
          refine DR.c 8 ?_
          refine DOp.op1 rfl (osa (arr := ti23.zero.cells) (e := 23) (L' := (b4, Obj.cells (u8s B).toArray 22 (0, 0)) :: [(b2, Obj.cells ti23.zero.cells 23 (0, 0)), (b1, Obj.cells F.toArray 27 (0, 0))]) (u8s R).toArray (u8s_one _) (hL := (perm_of fun f => by (simp only [List.map_append, List.map_cons, List.map_nil, List.sum_append, List.sum_cons, List.sum_nil] <;> omega))) (hs := by exact hRs)) (fun _ => ?_)
          refine DR.done (by kernel_rfl) ?_
          exact RQ.toP (b4, b5) ⟨rfl, rfl, rfl, rfl, trivial⟩ (List.Perm.refl _) (by repeat (first | exact List.nil_sublist _ | exact List.Sublist.refl _ | apply List.Sublist.cons_cons | apply List.Sublist.cons | apply Go.Vc.subApp))
        · refine DOp.op1 rfl (OpTo.new rfl rfl nal) ?_
          intro b4
          refine DR.c 4 (DOp.op1 rfl cvK (fun _ => ?_))
          refine DR.c 7 ?_
          refine DOp.op1 rfl (osa (arr := ti22.zero.cells) (e := 22) (L' := (b5, Obj.cells ti23.zero.cells 23 (0, 0)) :: [(b2, Obj.cells ti23.zero.cells 23 (0, 0)), (b1, Obj.cells F.toArray 27 (0, 0))]) (u8s B).toArray (u8s_one _) (hL := (perm_of fun f => by (simp only [List.map_append, List.map_cons, List.map_nil, List.sum_append, List.sum_cons, List.sum_nil] <;> omega))) (hs := by exact hBs)) (fun _ => ?_)
          refine DR.c 8 ?_
          refine DOp.op1 rfl (osa (arr := ti23.zero.cells) (e := 23) (L' := (b4, Obj.cells (u8s B).toArray 22 (0, 0)) :: [(b2, Obj.cells ti23.zero.cells 23 (0, 0)), (b1, Obj.cells F.toArray 27 (0, 0))]) (u8s R).toArray (u8s_one _) (hL := (perm_of fun f => by (simp only [List.map_append, List.map_cons, List.map_nil, List.sum_append, List.sum_cons, List.sum_nil] <;> omega))) (hs := by exact hRs)) (fun _ => ?_)
          refine DR.done (by kernel_rfl) ?_
          exact RQ.toP (b4, b5) ⟨rfl, rfl, rfl, rfl, trivial⟩ (List.Perm.refl _) (by repeat (first | exact List.nil_sublist _ | exact List.Sublist.refl _ | apply List.Sublist.cons_cons | apply List.Sublist.cons | apply Go.Vc.subApp))
    · refine DOp.op1 rfl (OpTo.new rfl rfl nal) ?_
      intro b4
      refine DR.two (i := 2) (j := 6) (by kernel_rfl) ?_ ?_
      · refine DOp.op1 rfl cvK (fun _ => ?_)
        refine DR.two (i := 4) (j := 6) (by kernel_rfl) ?_ ?_
        · refine DOp.op1 rfl cvK (fun _ => ?_)
          refine DR.c 6 (DOp.op1 rfl (OpTo.new rfl rfl nal) ?_)
          intro b5
          refine DR.c 7 ?_
          refine DOp.op1 rfl (osa (arr := ti22.zero.cells) (e := 22) (L' := (b5, Obj.cells ti23.zero.cells 23 (0, 0)) :: [(b2, Obj.cells ti23.zero.cells 23 (0, 0)), (b1, Obj.cells F.toArray 27 (0, 0))]) (u8s B).toArray (u8s_one _) (hL := (perm_of fun f => by (simp only [List.map_append, List.map_cons, List.map_nil, List.sum_append, List.sum_cons, List.sum_nil] <;> omega))) (hs := by exact hBs)) (fun _ => ?_)
          refine DR.c 8 ?_
          refine DOp.op1 rfl (osa (arr := ti23.zero.cells) (e := 23) (L' := (b4, Obj.cells (u8s B).toArray 22 (0, 0)) :: [(b2, Obj.cells ti23.zero.cells 23 (0, 0)), (b1, Obj.cells F.toArray 27 (0, 0))]) (u8s R).toArray (u8s_one _) (hL := (perm_of fun f => by (simp only [List.map_append, List.map_cons, List.map_nil, List.sum_append, List.sum_cons, List.sum_nil] <;> omega))) (hs := by exact hRs)) (fun _ => ?_)
          refine DR.done (by kernel_rfl) ?_
          exact RQ.toP (b4, b5) ⟨rfl, rfl, rfl, rfl, trivial⟩ (List.Perm.refl _) (by repeat (first | exact List.nil_sublist _ | exact List.Sublist.refl _ | apply List.Sublist.cons_cons | apply List.Sublist.cons | apply Go.Vc.subApp))
        · refine DOp.op1 rfl (OpTo.new rfl rfl nal) ?_
          intro b5
          refine DR.c 4 (DOp.op1 rfl cvK (fun _ => ?_))
          refine DR.c 7 ?_
          refine DOp.op1 rfl (osa (arr := ti22.zero.cells) (e := 22) (L' := (b5, Obj.cells ti23.zero.cells 23 (0, 0)) :: [(b2, Obj.cells ti23.zero.cells 23 (0, 0)), (b1, Obj.cells F.toArray 27 (0, 0))]) (u8s B).toArray (u8s_one _) (hL := (perm_of fun f => by (simp only [List.map_append, List.map_cons, List.map_nil, List.sum_append, List.sum_cons, List.sum_nil] <;> omega))) (hs := by exact hBs)) (fun _ => ?_)
          refine DR.c 8 ?_
          refine DOp.op1 rfl (osa (arr := ti23.zero.cells) (e := 23) (L' := (b4, Obj.cells (u8s B).toArray 22 (0, 0)) :: [(b2, Obj.cells ti23.zero.cells 23 (0, 0)), (b1, Obj.cells F.toArray 27 (0, 0))]) (u8s R).toArray (u8s_one _) (hL := (perm_of fun f => by (simp only [List.map_append, List.map_cons, List.map_nil, List.sum_append, List.sum_cons, List.sum_nil] <;> omega))) (hs := by exact hRs)) (fun _ => ?_)
          refine DR.done (by kernel_rfl) ?_
          exact RQ.toP (b4, b5) ⟨rfl, rfl, rfl, rfl, trivial⟩ (List.Perm.refl _) (by repeat (first | exact List.nil_sublist _ | exact List.Sublist.refl _ | apply List.Sublist.cons_cons | apply List.Sublist.cons | apply Go.Vc.subApp))
      · refine DOp.op1 rfl (OpTo.new rfl rfl nal) ?_
        intro b5
        refine DR.c 2 (DOp.op1 rfl cvK (fun _ => ?_))
        refine DR.c 4 (DOp.op1 rfl cvK (fun _ => ?_))
        refine DR.c 7 ?_
        refine DOp.op1 rfl (osa (arr := ti22.zero.cells) (e := 22) (L' := (b5, Obj.cells ti23.zero.cells 23 (0, 0)) :: [(b2, Obj.cells ti23.zero.cells 23 (0, 0)), (b1, Obj.cells F.toArray 27 (0, 0))]) (u8s B).toArray (u8s_one _) (hL := (perm_of fun f => by (simp only [List.map_append, List.map_cons, List.map_nil, List.sum_append, List.sum_cons, List.sum_nil] <;> omega))) (hs := by exact hBs)) (fun _ => ?_)
        refine DR.c 8 ?_
        refine DOp.op1 rfl (osa (arr := ti23.zero.cells) (e := 23) (L' := (b4, Obj.cells (u8s B).toArray 22 (0, 0)) :: [(b2, Obj.cells ti23.zero.cells 23 (0, 0)), (b1, Obj.cells F.toArray 27 (0, 0))]) (u8s R).toArray (u8s_one _) (hL := (perm_of fun f => by (simp only [List.map_append, List.map_cons, List.map_nil, List.sum_append, List.sum_cons, List.sum_nil] <;> omega))) (hs := by exact hRs)) (fun _ => ?_)
        refine DR.done (by kernel_rfl) ?_
        exact RQ.toP (b4, b5) ⟨rfl, rfl, rfl, rfl, trivial⟩ (List.Perm.refl _) (by repeat (first | exact List.nil_sublist _ | exact List.Sublist.refl _ | apply List.Sublist.cons_cons | apply List.Sublist.cons | apply Go.Vc.subApp))
    · refine DOp.op1 rfl (OpTo.new rfl rfl nal) ?_
      intro b5
      refine DR.two (i := 2) (j := 5) (by kernel_rfl) ?_ ?_
      · refine DOp.op1 rfl cvK (fun _ => ?_)
        refine DR.two (i := 4) (j := 5) (by kernel_rfl) ?_ ?_
        · refine DOp.op1 rfl cvK (fun _ => ?_)
          refine DR.c 5 (DOp.op1 rfl (OpTo.new rfl rfl nal) ?_)
          intro b4
          refine DR.c 7 ?_
          refine DOp.op1 rfl (osa (arr := ti22.zero.cells) (e := 22) (L' := (b5, Obj.cells ti23.zero.cells 23 (0, 0)) :: [(b2, Obj.cells ti23.zero.cells 23 (0, 0)), (b1, Obj.cells F.toArray 27 (0, 0))]) (u8s B).toArray (u8s_one _) (hL := (perm_of fun f => by (simp only [List.map_append, List.map_cons, List.map_nil, List.sum_append, List.sum_cons, List.sum_nil] <;> omega))) (hs := by exact hBs)) (fun _ => ?_)
          refine DR.c 8 ?_
          refine DOp.op1 rfl (osa (arr := ti23.zero.cells) (e := 23) (L' := (b4, Obj.cells (u8s B).toArray 22 (0, 0)) :: [(b2, Obj.cells ti23.zero.cells 23 (0, 0)), (b1, Obj.cells F.toArray 27 (0, 0))]) (u8s R).toArray (u8s_one _) (hL := (perm_of fun f => by (simp only [List.map_append, List.map_cons, List.map_nil, List.sum_append, List.sum_cons, List.sum_nil] <;> omega))) (hs := by exact hRs)) (fun _ => ?_)
          refine DR.done (by kernel_rfl) ?_
          exact RQ.toP (b4, b5) ⟨rfl, rfl, rfl, rfl, trivial⟩ (List.Perm.refl _) (by repeat (first | exact List.nil_sublist _ | exact List.Sublist.refl _ | apply List.Sublist.cons_cons | apply List.Sublist.cons | apply Go.Vc.subApp))
        · refine DOp.op1 rfl (OpTo.new rfl rfl nal) ?_
          intro b4
          refine DR.c 4 (DOp.op1 rfl cvK (fun _ => ?_))
          refine DR.c 7 ?_
          refine DOp.op1 rfl (osa (arr := ti22.zero.cells) (e := 22) (L' := (b5, Obj.cells ti23.zero.cells 23 (0, 0)) :: [(b2, Obj.cells ti23.zero.cells 23 (0, 0)), (b1, Obj.cells F.toArray 27 (0, 0))]) (u8s B).toArray (u8s_one _) (hL := (perm_of fun f => by (simp only [List.map_append, List.map_cons, List.map_nil, List.sum_append, List.sum_cons, List.sum_nil] <;> omega))) (hs := by exact hBs)) (fun _ => ?_)
          refine DR.c 8 ?_
          refine DOp.op1 rfl (osa (arr := ti23.zero.cells) (e := 23) (L' := (b4, Obj.cells (u8s B).toArray 22 (0, 0)) :: [(b2, Obj.cells ti23.zero.cells 23 (0, 0)), (b1, Obj.cells F.toArray 27 (0, 0))]) (u8s R).toArray (u8s_one _) (hL := (perm_of fun f => by (simp only [List.map_append, List.map_cons, List.map_nil, List.sum_append, List.sum_cons, List.sum_nil] <;> omega))) (hs := by exact hRs)) (fun _ => ?_)
          refine DR.done (by kernel_rfl) ?_
          exact RQ.toP (b4, b5) ⟨rfl, rfl, rfl, rfl, trivial⟩ (List.Perm.refl _) (by repeat (first | exact List.nil_sublist _ | exact List.Sublist.refl _ | apply List.Sublist.cons_cons | apply List.Sublist.cons | apply Go.Vc.subApp))
      · refine DOp.op1 rfl (OpTo.new rfl rfl nal) ?_
        intro b4
        refine DR.c 2 (DOp.op1 rfl cvK (fun _ => ?_))
        refine DR.c 4 (DOp.op1 rfl cvK (fun _ => ?_))
        refine DR.c 7 ?_
        refine DOp.op1 rfl (osa (arr := ti22.zero.cells) (e := 22) (L' := (b5, Obj.cells ti23.zero.cells 23 (0, 0)) :: [(b2, Obj.cells ti23.zero.cells 23 (0, 0)), (b1, Obj.cells F.toArray 27 (0, 0))]) (u8s B).toArray (u8s_one _) (hL := (perm_of fun f => by (simp only [List.map_append, List.map_cons, List.map_nil, List.sum_append, List.sum_cons, List.sum_nil] <;> omega))) (hs := by exact hBs)) (fun _ => ?_)
        refine DR.c 8 ?_
        refine DOp.op1 rfl (osa (arr := ti23.zero.cells) (e := 23) (L' := (b4, Obj.cells (u8s B).toArray 22 (0, 0)) :: [(b2, Obj.cells ti23.zero.cells 23 (0, 0)), (b1, Obj.cells F.toArray 27 (0, 0))]) (u8s R).toArray (u8s_one _) (hL := (perm_of fun f => by (simp only [List.map_append, List.map_cons, List.map_nil, List.sum_append, List.sum_cons, List.sum_nil] <;> omega))) (hs := by exact hRs)) (fun _ => ?_)
        refine DR.done (by kernel_rfl) ?_
        exact RQ.toP (b4, b5) ⟨rfl, rfl, rfl, rfl, trivial⟩ (List.Perm.refl _) (by repeat (first | exact List.nil_sublist _ | exact List.Sublist.refl _ | apply List.Sublist.cons_cons | apply List.Sublist.cons | apply Go.Vc.subApp))
  obtain ⟨b4, b5⟩ := y
  dsimp only
  refine x_ ?_
  (repeat refine RC.seq ?_); refine RC.draw ([]) mixed (N := 8) rfl ?_
  refine dy 0 ?_
  refine DR.t 1 rfl (vslA) ?_
  refine DR.t 2 rfl (vslA) ?_
  refine DR.t 3 rfl (vslA) ?_
  refine DR.c 4 ?_
  refine DOp.op1 rfl (OpTo.new rfl rfl (nbsk (parts := [(0, .tmp 16), (1, .tmp 17), (2, .tmp 18)]) #[.slice (some ⟨b1, 0, none⟩) 8 8, .slice (some ⟨b4, 0, none⟩) 8 8, .slice (some ⟨b5, 0, none⟩) 8 8])) ?_
  intro b19
  have hfinal : ∀ w', Mem w [] [(b19, Obj.cells #[.slice (some ⟨b1, 0, none⟩) 8 8, .slice (some ⟨b4, 0, none⟩) 8 8, .slice (some ⟨b5, 0, none⟩) 8 8] 35 (0, 0)), (b5, Obj.cells (u8s R).toArray 23 (0, 0)), (b4, Obj.cells (u8s B).toArray 22 (0, 0)), (b2, Obj.cells ti23.zero.cells 23 (0, 0)), (b1, Obj.cells F.toArray 27 (0, 0))] w' → Gives Tryz.prog 14 [.int .u8 98, .slice (some ⟨b19, 0, none⟩) 3 3] (.agg (u8s D).toArray) w' := fun w' hm' => by
    have e1 : SrcW w' 1 (.slice (some ⟨b1, 0, none⟩) 8 8) pv.length (u8s pv) := by
      rw [hp8.1]
      exact SrcW.at ⟨b1, 0, none⟩ 8 8 (u8s pv) (by rw [u8s_len, hp8.1]) (Nat.le_refl 8) fun j u hj => Rd.row (e := 27) (fz := (0, 0)) (arr := F.toArray) (off := 0) (List.mem_cons_of_mem _ (List.mem_cons_of_mem _ (List.mem_cons_of_mem _ (List.mem_cons_of_mem _ List.mem_cons_self)))) (fun j u hj => by rw [List.getElem?_toArray]; exact hF0 j u hj) w' hm' j u hj
    have e4 : SrcW w' 1 (.slice (some ⟨b4, 0, none⟩) 8 8) B.length (u8s B) := by
      rw [hbl]
      exact SrcW.row hm' (e := 22) (fz := (0, 0)) (cs := u8s B) (List.mem_cons_of_mem _ (List.mem_cons_of_mem _ List.mem_cons_self)) (by rw [u8s_len, hbl]) (Nat.le_refl 8)
    have e5 : SrcW w' 1 (.slice (some ⟨b5, 0, none⟩) 8 8) R.length (u8s R) := by
      rw [hrl.1]
      exact SrcW.row hm' (e := 23) (fz := (0, 0)) (cs := u8s R) (List.mem_cons_of_mem _ List.mem_cons_self) (by rw [u8s_len, hrl.1]) (Nat.le_refl 8)
    rw [hD]
    refine Digest_calls 98 (by decide) _ [.slice (some ⟨b1, 0, none⟩) 8 8, .slice (some ⟨b4, 0, none⟩) 8 8, .slice (some ⟨b5, 0, none⟩) 8 8] [pv, B, R] w' (SrcW.row hm' m0 rfl (Nat.le_refl 3)) (Parts.cons e1 (Parts.cons e4 (Parts.cons e5 Parts.nil))) ?_ ?_
    · show ((([pv, B, R]) : List (List Nat)).map fun l => 4 + l.length).sum ≤ _
      simp only [List.map_cons, List.sum_cons, List.map_nil, List.sum_nil, hp8.1, hbl, hrl.1]
      decide
    · intro l hl
      simp only [List.mem_cons, List.not_mem_nil, or_false] at hl
      rcases hl with rfl | rfl | rfl
      · exact hp8.2
      · exact hblt
      · exact hrl.2
  refine DR.c 5 (DOp.op1 rfl (OpTo.cv Tryz.func14 (fun w' hm' => hfinal w' hm')) (fun _ => ?_))
  refine DR.c 6 ?_
  refine DOp.op1 rfl (osa (arr := ti23.zero.cells) (e := 23) (L' := [(b19, Obj.cells #[.slice (some ⟨b1, 0, none⟩) 8 8, .slice (some ⟨b4, 0, none⟩) 8 8, .slice (some ⟨b5, 0, none⟩) 8 8] 35 (0, 0)), (b5, Obj.cells (u8s R).toArray 23 (0, 0)), (b4, Obj.cells (u8s B).toArray 22 (0, 0)), (b1, Obj.cells F.toArray 27 (0, 0))]) (u8s D).toArray (u8s_one _) (hL := (perm_of fun f => by (simp only [List.map_append, List.map_cons, List.map_nil, List.sum_append, List.sum_cons, List.sum_nil] <;> omega))) (hs := by rw [List.size_toArray, u8s_len, hD8]; rfl)) (fun _ => ?_)
  refine dy 7 ?_
  refine DR.done (by kernel_rfl) ?_
  refine x_ ?_
  exact RQ.ret2 rfl (Res.cellAll tabOk rfl rfl rfl m0 (by rw [List.size_toArray, u8s_len, hD8]; rfl)) (Res.tmp rfl) fun w' hm => ⟨rfl, hm.fr⟩
end Go.Proofs.YtfoeakgnkfcbjaaGreatDoor
end
