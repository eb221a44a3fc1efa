/- sparse: Leaf, of both; SparseLeaves. -/
import Derived.Test.YtaabinhpagbajaaDoorSpR
set_option linter.unusedSimpArgs false
set_option linter.unusedVariables false
namespace Go.Proofs.YtaabinhpagbajaaDoor
attribute [local irreducible] Go.Vc.Run Go.Vc.RC Go.Vc.RQ Go.Vc.DR Go.Vc.DOp
open Go Go.Vc Go.Sha
theorem parts4 {w : World} {u v x y : Value} {a b c d : List Nat} (hu : SrcW w 1 u a.length (u8s a)) (hv : SrcW w 1 v b.length (u8s b)) (hx : SrcW w 1 x c.length (u8s c)) (hy : SrcW w 1 y d.length (u8s d)) : Parts w [u, v, x, y] [a, b, c, d] :=
  ⟨rfl, fun i h h' => by
    match i, h with
    | 0, _ => exact hu
    | 1, _ => exact hv
    | 2, _ => exact hx
    | 3, _ => exact hy⟩
theorem leI_lt (n : Int) : ∀ k, ∀ x ∈ leI n k, x < 256
  | 0, x, h => by cases h
  | k + 1, x, h => by
    unfold leI at h
    rcases List.mem_append.1 h with h | h
    · exact leI_lt n k x h
    · rw [List.mem_singleton] at h
      have h1 : 0 ≤ n.fdiv (2 ^ (8 * k)) % 256 := Int.emod_nonneg _ (by decide)
      have h2 : n.fdiv (2 ^ (8 * k)) % 256 < 256 := Int.emod_lt_of_pos _ (by decide)
      rw [h]
      generalize n.fdiv (2 ^ (8 * k)) % 256 = q at h1 h2
      omega
set_option maxRecDepth 10000 in set_option maxHeartbeats 4000000 in
theorem TLeaf_calls (i : Int) (o : List Nat) (ho : H8 o) (am no : Int) (w : World) (hK : Laid w) :
    Gives Tryd.prog 21 [.int .i64 i, .agg (acC o am no).toArray] (.agg (u8s (leafV i o am no)).toArray) w := by
  refine enter Tryd.func21 rfl (Mem.nil w []) rfl ?_
  have c1 := fun w' => number_calls i 2 (by decide) w'
  have c2 := fun w' => number_calls am 7 (by decide) w'
  have c3 := fun w' => number_calls no 1 (by decide) w'
  have hlv : leafV i o am no = if (o ≠ Z8 ∧ okN i 2 = true ∧ okN am 7 = true ∧ okN no 1 = true) then digest 97 [leI i 2, o, leI am 7, leI no 1] else Z8 := by
    unfold leafV
    by_cases hg : goodA i o am no
    · have e : ∀ (n : Int) (k : Nat), okN n k = true → leI n k = le n.toNat k := fun n k h => by
        rw [← leI_nat, Int.toNat_of_nonneg (okN_iff.1 h).1]
      rw [if_pos hg]
      have hg' : o ≠ Z8 ∧ okN i 2 = true ∧ okN am 7 = true ∧ okN no 1 = true := hg
      rw [if_pos hg', e i 2 hg'.2.1, e am 7 hg'.2.2.1, e no 1 hg'.2.2.2]
    · rw [if_neg hg]
      have hg' : ¬ (o ≠ Z8 ∧ okN i 2 = true ∧ okN am 7 = true ∧ okN no 1 = true) := hg
      rw [if_neg hg']
  have hlo := ho.1
  rw [hlv]
  clear hlv
  have l1 := leI_len i 2
  have l2 := leI_len am 7
  have l3 := leI_len no 1
  have b1 := leI_lt i 2
  have b2 := leI_lt am 7
  have b3' := leI_lt no 1
  generalize okN i 2 = q1 at c1 ⊢
  generalize okN am 7 = q2 at c2 ⊢
  generalize okN no 1 = q3 at c3 ⊢
  obtain ⟨o0, o1, o2, o3, o4, o5, o6, o7, rfl⟩ := len8 hlo
  obtain ⟨O, hO⟩ : ∃ O, O = [o0, o1, o2, o3, o4, o5, o6, o7] := ⟨_, rfl⟩
  have hro : ∀ {L : Hp} {b : Nat}, (b, Obj.cells (acC O am no).toArray 51 (0, 0)) ∈ L → Rd w [] L ⟨b, 0, none⟩ (u8s O) := fun hm => Rd.row hm (fun j u hj => by
    rw [Nat.zero_add, List.getElem?_toArray]
    unfold acC
    rw [List.getElem?_append_left (List.getElem?_eq_some_iff.1 hj).1]
    exact hj)
  have sO : (u8s O).length = 8 := by rw [hO]; rfl
  have lO : O.length = 8 := by rw [hO]; rfl
  have bO : ∀ x ∈ O, x < 256 := by rw [hO]; exact ho.2
  rw [← hO]
  have hA8 : rdAt ti3 (acC O am no).toArray 8 = some (.int .i64 am) := by rw [hO]; rfl
  have hA9 : rdAt ti3 (acC O am no).toArray 9 = some (.int .i64 no) := by rw [hO]; rfl
  refine z_ ?_
  refine Run.nw (nbx) ?_
  intro b3
  refine Run.nw nal ?_
  intro b4
  refine z_ ?_
  have hz2 : ∀ (L : Hp), L.Perm ([] ++ L) := fun _ => List.Perm.refl _
  refine Run.op1 (OpTo.callT Tryd.func31 (hz2 _) (fun w' hm => c1 w')) ?_
  rintro ⟨⟨v1, bl1⟩, hw1⟩
  dsimp only at hw1 ⊢
  refine z_ ?_
  refine Run.a (vl (.int .i64 am) (hm := (by repeat (first | exact List.mem_cons_self | apply List.mem_cons_of_mem | apply List.mem_append_right))) (hv := hA8)) ?_
  refine Run.op1 (OpTo.callT Tryd.func31 (hz2 _) (fun w' hm => c2 w')) ?_
  rintro ⟨⟨v2, bl2⟩, hw2⟩
  dsimp only at hw2 ⊢
  refine z_ ?_
  refine Run.a (vl (.int .i64 no) (hm := (by repeat (first | exact List.mem_cons_self | apply List.mem_cons_of_mem | apply List.mem_append_right))) (hv := hA9)) ?_
  refine Run.op1 (OpTo.callT Tryd.func31 (hz2 _) (fun w' hm => c3 w')) ?_
  rintro ⟨⟨v3, bl3⟩, hw3⟩
  dsimp only at hw3 ⊢
  refine z_ ?_
  refine Run.a (Val.loadR tabOk (cs := u8s O) rfl rfl rfl rfl sO (hro (by repeat (first | exact List.mem_cons_self | apply List.mem_cons_of_mem | apply List.mem_append_right)))) ?_
  refine Run.op1 (OpTo.cv Tryd.func32 (fun w' _ => Zero_calls O lO w')) (fun _ => ?_)
  by_cases hzo : O = Z8
  · rw [show decide (O = List.replicate 8 0) = true from decide_eq_true hzo, if_neg (fun h => h.1 hzo)]
    refine z_ ?_
    refine Run.a (vba (u8s Z8).toArray) ?_
    refine Run.op1 (osa (L' := bl3 ++ (bl2 ++ (bl1 ++ [(b3, Obj.cells (acC O am no).toArray 51 (0, 0))]))) (arr := ti29.zero.cells) (e := 29) (u8s Z8).toArray (u8s_one _) (hL := (perm_of fun f => by (simp only [List.map_append, List.map_cons, List.map_nil, List.sum_append, List.sum_cons, List.sum_nil] <;> omega)))) (fun _ => ?_)
    refine z_ ?_
    exact RQ.ret1 rfl (Res.cellAll tabOk rfl rfl rfl m0 rfl) fun w' hm => ⟨rfl, hm.fr⟩
  rw [show decide (O = List.replicate 8 0) = false from decide_eq_false hzo]
  cases q1 with
  | false =>
    rw [if_neg (fun h => by cases h.2.1)]
    refine z_ ?_
    refine Run.a (vba (u8s Z8).toArray) ?_
    refine Run.op1 (osa (L' := bl3 ++ (bl2 ++ (bl1 ++ [(b3, Obj.cells (acC O am no).toArray 51 (0, 0))]))) (arr := ti29.zero.cells) (e := 29) (u8s Z8).toArray (u8s_one _) (hL := (perm_of fun f => by (simp only [List.map_append, List.map_cons, List.map_nil, List.sum_append, List.sum_cons, List.sum_nil] <;> omega)))) (fun _ => ?_)
    refine z_ ?_
    exact RQ.ret1 rfl (Res.cellAll tabOk rfl rfl rfl m0 rfl) fun w' hm => ⟨rfl, hm.fr⟩
  | true =>
  cases q2 with
  | false =>
    rw [if_neg (fun h => by cases h.2.2.1)]
    refine z_ ?_
    refine Run.a (vba (u8s Z8).toArray) ?_
    refine Run.op1 (osa (L' := bl3 ++ (bl2 ++ (bl1 ++ [(b3, Obj.cells (acC O am no).toArray 51 (0, 0))]))) (arr := ti29.zero.cells) (e := 29) (u8s Z8).toArray (u8s_one _) (hL := (perm_of fun f => by (simp only [List.map_append, List.map_cons, List.map_nil, List.sum_append, List.sum_cons, List.sum_nil] <;> omega)))) (fun _ => ?_)
    refine z_ ?_
    exact RQ.ret1 rfl (Res.cellAll tabOk rfl rfl rfl m0 rfl) fun w' hm => ⟨rfl, hm.fr⟩
  | true =>
  cases q3 with
  | false =>
    rw [if_neg (fun h => by cases h.2.2.2)]
    refine z_ ?_
    refine Run.a (vba (u8s Z8).toArray) ?_
    refine Run.op1 (osa (L' := bl3 ++ (bl2 ++ (bl1 ++ [(b3, Obj.cells (acC O am no).toArray 51 (0, 0))]))) (arr := ti29.zero.cells) (e := 29) (u8s Z8).toArray (u8s_one _) (hL := (perm_of fun f => by (simp only [List.map_append, List.map_cons, List.map_nil, List.sum_append, List.sum_cons, List.sum_nil] <;> omega)))) (fun _ => ?_)
    refine z_ ?_
    exact RQ.ret1 rfl (Res.cellAll tabOk rfl rfl rfl m0 rfl) fun w' hm => ⟨rfl, hm.fr⟩
  | true =>
  rw [if_pos ⟨hzo, rfl, rfl, rfl⟩]
  have hd := digest_len 97 [leI i 2, O, leI am 7, leI no 1]
  have sd : (u8s (digest 97 [leI i 2, O, leI am 7, leI no 1])).toArray.size = 8 := by rw [List.size_toArray, u8s_len, hd]
  obtain ⟨a1, k1, rfl, hk1⟩ := hw1.shape
  obtain ⟨a2, k2, rfl, hk2⟩ := hw2.shape
  obtain ⟨a3, k3, rfl, hk3⟩ := hw3.shape
  refine z_ ?_
  refine Run.a (Val.sliceA tabOk rfl rfl rfl rfl rfl) ?_
  refine z_ ?_
  refine Run.nw (nbsl (parts := [(0, .tmp 44), (1, .tmp 46), (2, .tmp 47), (3, .tmp 48)]) #[.slice a1 2 k1, .slice (some ⟨b3, 0, none⟩) 8 8, .slice a2 7 k2, .slice a3 1 k3] (by kernel_rfl)) ?_
  intro b5
  refine Run.op1 (OpTo.cv Tryd.func33 (fun w' hm => Of_calls 97 (by decide) _ [.slice a1 2 k1, .slice (some ⟨b3, 0, none⟩) 8 8, .slice a2 7 k2, .slice a3 1 k3] [leI i 2, O, leI am 7, leI no 1] w' (SrcW.row hm m0 rfl (Nat.le_refl 4)) (parts4 (by rw [l1]; exact hw1.srcW (fun p hp => hm.has p (List.mem_cons_of_mem _ (List.mem_append_right _ (List.mem_append_right _ (List.mem_append_left _ hp)))))) (by rw [lO]; exact .at _ _ _ _ (by rw [sO]) (Nat.le_refl _) (fun j u hj => hro (by repeat (first | exact List.mem_cons_self | apply List.mem_cons_of_mem | apply List.mem_append_right)) w' hm j u hj)) (by rw [l2]; exact hw2.srcW (fun p hp => hm.has p (List.mem_cons_of_mem _ (List.mem_append_right _ (List.mem_append_left _ hp))))) (by rw [l3]; exact hw3.srcW (fun p hp => hm.has p (List.mem_cons_of_mem _ (List.mem_append_left _ hp))))) (by simp [tot, l1, l2, l3, lO]) (by intro l hl; simp only [List.mem_cons, List.not_mem_nil, or_false] at hl; rcases hl with rfl | rfl | rfl | rfl; exact b1; exact bO; exact b2; exact b3') (hK.fr hm.fr (by simp)))) (fun _ => ?_)
  refine Run.op1 (osa (L' := (b5, Obj.cells #[.slice a1 2 k1, .slice (some ⟨b3, 0, none⟩) 8 8, .slice a2 7 k2, .slice a3 1 k3] 65 (0, 0)) :: (bl3 ++ (bl2 ++ (bl1 ++ [(b3, Obj.cells (acC O am no).toArray 51 (0, 0))])))) (arr := ti29.zero.cells) (e := 29) (u8s (digest 97 [leI i 2, O, leI am 7, leI no 1])).toArray (u8s_one _) (hL := (perm_of fun f => by (simp only [List.map_append, List.map_cons, List.map_nil, List.sum_append, List.sum_cons, List.sum_nil] <;> omega))) (hs := sd)) (fun _ => ?_)
  refine z_ ?_
  exact RQ.ret1 rfl (Res.cellAll tabOk rfl rfl rfl m0 sd) fun w' hm => ⟨rfl, hm.fr⟩
end Go.Proofs.YtaabinhpagbajaaDoor
