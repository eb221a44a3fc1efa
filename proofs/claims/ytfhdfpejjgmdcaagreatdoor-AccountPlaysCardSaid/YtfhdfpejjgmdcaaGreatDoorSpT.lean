import Derived.Test.YtfhdfpejjgmdcaaGreatDoorSpN
set_option linter.unusedSimpArgs false
set_option linter.unusedVariables false
/- sparse: number, Leaf. -/
namespace Go.Proofs.YtfhdfpejjgmdcaaGreatDoor
open Go Go.Vc Go.Sha
/-- The bytes of any number. -/
def leI (n : Int) : Nat → List Nat
  | 0 => []
  | k + 1 => leI n k ++ [(n.fdiv (2 ^ (8 * k)) % 256).toNat]
theorem leI_len (n : Int) : ∀ k, (leI n k).length = k
  | 0 => rfl
  | k + 1 => by unfold leI; rw [List.length_append, leI_len n k]; rfl
theorem leI_nat (n : Nat) : ∀ k, leI (n : Int) k = le n k
  | 0 => rfl
  | k + 1 => by
    unfold leI le
    rw [leI_nat n k, Int.fdiv_eq_ediv_of_nonneg _ (Int.le_of_lt (Int.pow_pos (by decide)))]
    rfl
def okN (n : Int) (k : Nat) : Bool := decide (0 ≤ n) && (n.fdiv (2 ^ (8 * k)) == 0)
theorem okN_iff {n : Int} {k : Nat} : okN n k = true ↔ 0 ≤ n ∧ n < 2 ^ (8 * k) := by
  unfold okN
  rw [Bool.and_eq_true, decide_eq_true_eq, beq_iff_eq]
  have hp : (0 : Int) < 2 ^ (8 * k) := Int.pow_pos (by decide)
  constructor
  · rintro ⟨h0, h1⟩
    refine ⟨h0, ?_⟩
    rw [Int.fdiv_eq_ediv_of_nonneg _ (Int.le_of_lt hp)] at h1
    have := Int.lt_mul_ediv_self_add (x := n) hp
    rw [h1] at this
    omega
  · rintro ⟨h0, h1⟩
    refine ⟨h0, ?_⟩
    rw [Int.fdiv_eq_ediv_of_nonneg _ (Int.le_of_lt hp)]
    exact Int.ediv_eq_zero_of_lt h0 h1
/-- What is leaf of what. -/
def goodA (i : Int) (o : List Nat) (am no : Int) : Prop := o ≠ Z8 ∧ okN i 2 = true ∧ okN am 7 = true ∧ okN no 1 = true
instance (i : Int) (o : List Nat) (am no : Int) : Decidable (goodA i o am no) := by unfold goodA; infer_instance
def leafV (i : Int) (o : List Nat) (am no : Int) : List Nat := if goodA i o am no then digest 97 [le i.toNat 2, o, le am.toNat 7, le no.toNat 1] else Z8
theorem leafV_8 (i : Int) (o : List Nat) (am no : Int) : H8 (leafV i o am no) := by
  unfold leafV
  split
  · exact ⟨digest_len _ _, digest_lt _ _⟩
  · exact H8.z
def acC (o : List Nat) (am no : Int) : List Go.Value := u8s o ++ [.int .i64 am, .int .i64 no]
attribute [local irreducible] Go.Vc.Run Go.Vc.RC Go.Vc.RQ Go.Vc.DR Go.Vc.DOp
open Go Go.Vc Go.Sha
abbrev NumY (n : Int) (k : Nat) := {y : Value × Hp // Own 5 1 y.1 k (u8s (leI n k)) y.2}
set_option maxRecDepth 10000 in set_option maxHeartbeats 4000000 in
theorem number_calls (n : Int) (k : Nat) (hk : k ≤ 7) (w : World) :
    Turns Tryz.prog 84 [.int .i64 n, .int .i64 k] w [] (Y := NumY n k) (fun y => .tuple #[y.1.1, .bool (okN n k)]) (fun y => y.1.2) := by
  refine enter Tryz.func84 rfl (Mem.nil w []) rfl ?_
  refine z_ ?_
  refine RC.up k (D := Value × Hp) (fun i x => Own 5 1 x.1 i (u8s (leI n i)) x.2) (fun i x => [(9, .int .i64 i), (8, .int .i64 k), (6, x.1), (1, .int .i64 k), (0, .int .i64 n)]) (fun i x => x.2) 0 (_, _) (Nat.zero_le _) Own.nil ⟨rfl, rfl, rfl, rfl, rfl, trivial⟩ (List.nil_sublist _) ?_
  rintro i ⟨v5, bl5⟩ hi hown
  dsimp only at hown ⊢
  refine z_ ?_
  (repeat refine RC.seq ?_); refine RC.wh rfl (fun h => RQ.next ?_) (fun h => ?_)
  · have hi' : i < k := by have := of_decide_eq_true h; omega
    clear h
    obtain ⟨X, hX⟩ : ∃ X : Nat, X = (n.fdiv (2 ^ (8 * i)) % 256).toNat := ⟨_, rfl⟩
    have hle : leI n (i + 1) = leI n i ++ [X] := by rw [hX]; rfl
    have hv : IntKind.u8.wrap (n.fdiv (2 ^ min (8 * (i : Int)).toNat IntKind.i64.bits)) = (X : Int) := by
      rw [show min (8 * (i : Int)).toNat IntKind.i64.bits = 8 * i from by show min _ 64 = _; omega, hX]
      have hz : 0 ≤ n.fdiv (2 ^ (8 * i)) % 256 := Int.emod_nonneg _ (by decide)
      rw [Int.toNat_of_nonneg hz]
      generalize n.fdiv (2 ^ (8 * i)) = q
      rfl
    refine z_ ?_
    rw [hv]
    refine Run.nw (nbsl (u8s [X]).toArray (by kernel_rfl)) ?_
    intro b4
    refine Run.op1 (OpTo.append (L1 := [(b4, Obj.cells (u8s [X]).toArray 5 (0, 0))]) tabOk hown (Src.at ⟨b4, 0, none⟩ 1 1 (u8s [X]) rfl (Rd.rowAll List.mem_cons_self)) rfl rfl rfl rfl rfl rfl rfl rfl rfl (perm_of fun f => by (simp only [List.map_append, List.map_cons, List.map_nil, List.sum_append, List.sum_cons, List.sum_nil] <;> omega)) (u8s_one _) (by unfold maxLen; omega) (by simp only [ti5]; omega)) ?_
    rintro ⟨⟨v6, bl6⟩, hown6⟩
    dsimp only at hown6 ⊢
    rw [← u8s_app, ← hle] at hown6
    refine z_ ?_
    exact RQ.upS (i + 1) (v6, bl6) (Nat.lt_succ_self _) hi' hown6 ⟨rfl, rfl, rfl, rfl, rfl, trivial⟩ (List.Perm.refl _) (List.sublist_append_left _ _)
  · have hi' : i = k := by have := of_decide_eq_false h; omega
    clear h
    subst hi'
    (repeat refine RQ.thenExit ?_); refine RQ.blockHere ?_
    refine RQ.next ?_
    have hret : ∀ {w' : World}, Mem w [] bl5 w' → _ := fun {w'} hm => Turns.of (Y := NumY n i) (V := fun y => .tuple #[y.1.1, .bool (okN n i)]) (L' := fun y => y.1.2) (Lst := []) (w := w') ⟨(v5, bl5), hown⟩ hm (Lr := []) (by rw [List.append_nil])
    (repeat refine RC.seq ?_); refine RC.drawS mixed (N := 12) rfl ?_
    refine dt 0 ?_
    refine dt 1 ?_
    by_cases h0 : 0 ≤ n
    · have e1 : okN n i = (n.fdiv (2 ^ (8 * i)) == 0) := by unfold okN; rw [decide_eq_true h0, Bool.true_and]
      have hv : n.fdiv (2 ^ min (8 * (i : Int)).toNat IntKind.i64.bits) = n.fdiv (2 ^ (8 * i)) := by rw [show min (8 * (i : Int)).toNat IntKind.i64.bits = 8 * i from by show min _ 64 = _; omega]
      rw [e1] at hret ⊢
      refine DR.t 2 rfl (Val.eq (Val.of rfl) (show _ = Value.bool true from congrArg Value.bool (decide_eq_true (by omega)))) ?_
      refine dt 3 ?_
      refine dt 4 ?_
      refine dt 5 ?_
      refine dt 6 ?_
      refine dt 7 ?_
      rw [hv]
      refine dt 8 ?_
      refine dt 9 ?_
      refine dt 10 ?_
      refine dt 11 ?_
      refine DR.done (by kernel_rfl) ?_
      refine z_ ?_
      exact RQ.ret2 rfl (Res.tmp rfl) (Res.tmp rfl) fun w' hm => hret hm
    · have e1 : okN n i = false := by unfold okN; rw [decide_eq_false h0, Bool.false_and]
      rw [e1] at hret ⊢
      refine DR.t 2 rfl (Val.eq (Val.of rfl) (show _ = Value.bool false from congrArg Value.bool (decide_eq_false (by omega)))) ?_
      refine dt 3 ?_
      refine DR.p 4 rfl ?_
      refine DR.p 5 rfl ?_
      refine DR.p 6 rfl ?_
      refine DR.p 7 rfl ?_
      refine DR.p 8 rfl ?_
      refine dt 9 ?_
      refine dt 10 ?_
      refine dt 11 ?_
      refine DR.done (by kernel_rfl) ?_
      refine z_ ?_
      exact RQ.ret2 rfl (Res.tmp rfl) (Res.tmp rfl) fun w' hm => hret hm
end Go.Proofs.YtfhdfpejjgmdcaaGreatDoor

/- sparse: Leaf, of both; SparseLeaves. -/
namespace Go.Proofs.YtfhdfpejjgmdcaaGreatDoor
attribute [local irreducible] Go.Vc.Run Go.Vc.RC Go.Vc.RQ Go.Vc.DR Go.Vc.DOp
open Go Go.Vc Go.Sha
theorem parts4 {w : World} {u v x y : Value} {a b c d : List Nat} (hu : SrcW w 1 u a.length (u8s a)) (hv : SrcW w 1 v b.length (u8s b)) (hx : SrcW w 1 x c.length (u8s c)) (hy : SrcW w 1 y d.length (u8s d)) : Parts w [u, v, x, y] [a, b, c, d] :=
  ⟨rfl, fun i h h' => by
    match i, h with
    | 0, _ => exact hu
    | 1, _ => exact hv
    | 2, _ => exact hx
    | 3, _ => exact hy⟩
theorem leI_lt (n : Int) : ∀ k, ∀ x ∈ leI n k, x < 256
  | 0, x, h => by cases h
  | k + 1, x, h => by
    unfold leI at h
    rcases List.mem_append.1 h with h | h
    · exact leI_lt n k x h
    · rw [List.mem_singleton] at h
      have h1 : 0 ≤ n.fdiv (2 ^ (8 * k)) % 256 := Int.emod_nonneg _ (by decide)
      have h2 : n.fdiv (2 ^ (8 * k)) % 256 < 256 := Int.emod_lt_of_pos _ (by decide)
      rw [h]
      generalize n.fdiv (2 ^ (8 * k)) % 256 = q at h1 h2
      omega
set_option maxRecDepth 10000 in set_option maxHeartbeats 4000000 in
theorem TLeaf_calls (i : Int) (o : List Nat) (ho : H8 o) (am no : Int) (w : World) (hK : Laid w) :
    Gives Tryz.prog 66 [.int .i64 i, .agg (acC o am no).toArray] (.agg (u8s (leafV i o am no)).toArray) w := by
  refine enter Tryz.func66 rfl (Mem.nil w []) rfl ?_
  have c1 := fun w' => number_calls i 2 (by decide) w'
  have c2 := fun w' => number_calls am 7 (by decide) w'
  have c3 := fun w' => number_calls no 1 (by decide) w'
  have hlv : leafV i o am no = if (o ≠ Z8 ∧ okN i 2 = true ∧ okN am 7 = true ∧ okN no 1 = true) then digest 97 [leI i 2, o, leI am 7, leI no 1] else Z8 := by
    unfold leafV
    by_cases hg : goodA i o am no
    · have e : ∀ (n : Int) (k : Nat), okN n k = true → leI n k = le n.toNat k := fun n k h => by
        rw [← leI_nat, Int.toNat_of_nonneg (okN_iff.1 h).1]
      rw [if_pos hg]
      have hg' : o ≠ Z8 ∧ okN i 2 = true ∧ okN am 7 = true ∧ okN no 1 = true := hg
      rw [if_pos hg', e i 2 hg'.2.1, e am 7 hg'.2.2.1, e no 1 hg'.2.2.2]
    · rw [if_neg hg]
      have hg' : ¬ (o ≠ Z8 ∧ okN i 2 = true ∧ okN am 7 = true ∧ okN no 1 = true) := hg
      rw [if_neg hg']
  have hlo := ho.1
  rw [hlv]
  clear hlv
  have l1 := leI_len i 2
  have l2 := leI_len am 7
  have l3 := leI_len no 1
  have b1 := leI_lt i 2
  have b2 := leI_lt am 7
  have b3' := leI_lt no 1
  generalize okN i 2 = q1 at c1 ⊢
  generalize okN am 7 = q2 at c2 ⊢
  generalize okN no 1 = q3 at c3 ⊢
  obtain ⟨o0, o1, o2, o3, o4, o5, o6, o7, rfl⟩ := len8 hlo
  obtain ⟨O, hO⟩ : ∃ O, O = [o0, o1, o2, o3, o4, o5, o6, o7] := ⟨_, rfl⟩
  have hro : ∀ {L : Hp} {b : Nat}, (b, Obj.cells (acC O am no).toArray 79 (0, 0)) ∈ L → Rd w [] L ⟨b, 0, none⟩ (u8s O) := fun hm => Rd.row hm (fun j u hj => by
    rw [Nat.zero_add, List.getElem?_toArray]
    unfold acC
    rw [List.getElem?_append_left (List.getElem?_eq_some_iff.1 hj).1]
    exact hj)
  have sO : (u8s O).length = 8 := by rw [hO]; rfl
  have lO : O.length = 8 := by rw [hO]; rfl
  have bO : ∀ x ∈ O, x < 256 := by rw [hO]; exact ho.2
  rw [← hO]
  have hA8 : rdAt ti3 (acC O am no).toArray 8 = some (.int .i64 am) := by rw [hO]; rfl
  have hA9 : rdAt ti3 (acC O am no).toArray 9 = some (.int .i64 no) := by rw [hO]; rfl
  refine z_ ?_
  refine Run.nw (nbx) ?_
  intro b3
  refine Run.nw nal ?_
  intro b4
  refine z_ ?_
  have hz2 : ∀ (L : Hp), L.Perm ([] ++ L) := fun _ => List.Perm.refl _
  refine Run.op1 (OpTo.callT Tryz.func84 (hz2 _) (fun w' hm => c1 w')) ?_
  rintro ⟨⟨v1, bl1⟩, hw1⟩
  dsimp only at hw1 ⊢
  refine z_ ?_
  refine Run.a (vl (.int .i64 am) (hm := (by repeat (first | exact List.mem_cons_self | apply List.mem_cons_of_mem | apply List.mem_append_right))) (hv := hA8)) ?_
  refine Run.op1 (OpTo.callT Tryz.func84 (hz2 _) (fun w' hm => c2 w')) ?_
  rintro ⟨⟨v2, bl2⟩, hw2⟩
  dsimp only at hw2 ⊢
  refine z_ ?_
  refine Run.a (vl (.int .i64 no) (hm := (by repeat (first | exact List.mem_cons_self | apply List.mem_cons_of_mem | apply List.mem_append_right))) (hv := hA9)) ?_
  refine Run.op1 (OpTo.callT Tryz.func84 (hz2 _) (fun w' hm => c3 w')) ?_
  rintro ⟨⟨v3, bl3⟩, hw3⟩
  dsimp only at hw3 ⊢
  refine z_ ?_
  refine Run.a (Val.loadR tabOk (cs := u8s O) rfl rfl rfl rfl sO (hro (by repeat (first | exact List.mem_cons_self | apply List.mem_cons_of_mem | apply List.mem_append_right)))) ?_
  refine Run.op1 (OpTo.cv Tryz.func33 (fun w' _ => Zero_calls O lO w')) (fun _ => ?_)
  by_cases hzo : O = Z8
  · rw [show decide (O = List.replicate 8 0) = true from decide_eq_true hzo, if_neg (fun h => h.1 hzo)]
    refine z_ ?_
    refine Run.a (vba (u8s Z8).toArray) ?_
    refine Run.op1 (osa (L' := bl3 ++ (bl2 ++ (bl1 ++ [(b3, Obj.cells (acC O am no).toArray 79 (0, 0))]))) (arr := ti33.zero.cells) (e := 33) (u8s Z8).toArray (u8s_one _) (hL := (perm_of fun f => by (simp only [List.map_append, List.map_cons, List.map_nil, List.sum_append, List.sum_cons, List.sum_nil] <;> omega)))) (fun _ => ?_)
    refine z_ ?_
    exact RQ.ret1 rfl (Res.cellAll tabOk rfl rfl rfl m0 rfl) fun w' hm => ⟨rfl, hm.fr⟩
  rw [show decide (O = List.replicate 8 0) = false from decide_eq_false hzo]
  cases q1 with
  | false =>
    rw [if_neg (fun h => by cases h.2.1)]
    refine z_ ?_
    refine Run.a (vba (u8s Z8).toArray) ?_
    refine Run.op1 (osa (L' := bl3 ++ (bl2 ++ (bl1 ++ [(b3, Obj.cells (acC O am no).toArray 79 (0, 0))]))) (arr := ti33.zero.cells) (e := 33) (u8s Z8).toArray (u8s_one _) (hL := (perm_of fun f => by (simp only [List.map_append, List.map_cons, List.map_nil, List.sum_append, List.sum_cons, List.sum_nil] <;> omega)))) (fun _ => ?_)
    refine z_ ?_
    exact RQ.ret1 rfl (Res.cellAll tabOk rfl rfl rfl m0 rfl) fun w' hm => ⟨rfl, hm.fr⟩
  | true =>
  cases q2 with
  | false =>
    rw [if_neg (fun h => by cases h.2.2.1)]
    refine z_ ?_
    refine Run.a (vba (u8s Z8).toArray) ?_
    refine Run.op1 (osa (L' := bl3 ++ (bl2 ++ (bl1 ++ [(b3, Obj.cells (acC O am no).toArray 79 (0, 0))]))) (arr := ti33.zero.cells) (e := 33) (u8s Z8).toArray (u8s_one _) (hL := (perm_of fun f => by (simp only [List.map_append, List.map_cons, List.map_nil, List.sum_append, List.sum_cons, List.sum_nil] <;> omega)))) (fun _ => ?_)
    refine z_ ?_
    exact RQ.ret1 rfl (Res.cellAll tabOk rfl rfl rfl m0 rfl) fun w' hm => ⟨rfl, hm.fr⟩
  | true =>
  cases q3 with
  | false =>
    rw [if_neg (fun h => by cases h.2.2.2)]
    refine z_ ?_
    refine Run.a (vba (u8s Z8).toArray) ?_
    refine Run.op1 (osa (L' := bl3 ++ (bl2 ++ (bl1 ++ [(b3, Obj.cells (acC O am no).toArray 79 (0, 0))]))) (arr := ti33.zero.cells) (e := 33) (u8s Z8).toArray (u8s_one _) (hL := (perm_of fun f => by (simp only [List.map_append, List.map_cons, List.map_nil, List.sum_append, List.sum_cons, List.sum_nil] <;> omega)))) (fun _ => ?_)
    refine z_ ?_
    exact RQ.ret1 rfl (Res.cellAll tabOk rfl rfl rfl m0 rfl) fun w' hm => ⟨rfl, hm.fr⟩
  | true =>
  rw [if_pos ⟨hzo, rfl, rfl, rfl⟩]
  have hd := digest_len 97 [leI i 2, O, leI am 7, leI no 1]
  have sd : (u8s (digest 97 [leI i 2, O, leI am 7, leI no 1])).toArray.size = 8 := by rw [List.size_toArray, u8s_len, hd]
  obtain ⟨a1, k1, rfl, hk1⟩ := hw1.shape
  obtain ⟨a2, k2, rfl, hk2⟩ := hw2.shape
  obtain ⟨a3, k3, rfl, hk3⟩ := hw3.shape
  refine z_ ?_
  refine Run.a (Val.sliceA tabOk rfl rfl rfl rfl rfl) ?_
  refine z_ ?_
  refine Run.nw (nbsl (parts := [(0, .tmp 44), (1, .tmp 46), (2, .tmp 47), (3, .tmp 48)]) #[.slice a1 2 k1, .slice (some ⟨b3, 0, none⟩) 8 8, .slice a2 7 k2, .slice a3 1 k3] (by kernel_rfl)) ?_
  intro b5
  refine Run.op1 (OpTo.cv Tryz.func41 (fun w' hm => Of_calls 97 (by decide) _ [.slice a1 2 k1, .slice (some ⟨b3, 0, none⟩) 8 8, .slice a2 7 k2, .slice a3 1 k3] [leI i 2, O, leI am 7, leI no 1] w' (SrcW.row hm m0 rfl (Nat.le_refl 4)) (parts4 (by rw [l1]; exact hw1.srcW (fun p hp => hm.has p (List.mem_cons_of_mem _ (List.mem_append_right _ (List.mem_append_right _ (List.mem_append_left _ hp)))))) (by rw [lO]; exact .at _ _ _ _ (by rw [sO]) (Nat.le_refl _) (fun j u hj => hro (by repeat (first | exact List.mem_cons_self | apply List.mem_cons_of_mem | apply List.mem_append_right)) w' hm j u hj)) (by rw [l2]; exact hw2.srcW (fun p hp => hm.has p (List.mem_cons_of_mem _ (List.mem_append_right _ (List.mem_append_left _ hp))))) (by rw [l3]; exact hw3.srcW (fun p hp => hm.has p (List.mem_cons_of_mem _ (List.mem_append_left _ hp))))) (by simp [tot, l1, l2, l3, lO]) (by intro l hl; simp only [List.mem_cons, List.not_mem_nil, or_false] at hl; rcases hl with rfl | rfl | rfl | rfl; exact b1; exact bO; exact b2; exact b3') (hK.fr hm.fr (by simp)))) (fun _ => ?_)
  refine Run.op1 (osa (L' := (b5, Obj.cells #[.slice a1 2 k1, .slice (some ⟨b3, 0, none⟩) 8 8, .slice a2 7 k2, .slice a3 1 k3] 90 (0, 0)) :: (bl3 ++ (bl2 ++ (bl1 ++ [(b3, Obj.cells (acC O am no).toArray 79 (0, 0))])))) (arr := ti33.zero.cells) (e := 33) (u8s (digest 97 [leI i 2, O, leI am 7, leI no 1])).toArray (u8s_one _) (hL := (perm_of fun f => by (simp only [List.map_append, List.map_cons, List.map_nil, List.sum_append, List.sum_cons, List.sum_nil] <;> omega))) (hs := sd)) (fun _ => ?_)
  refine z_ ?_
  exact RQ.ret1 rfl (Res.cellAll tabOk rfl rfl rfl m0 sd) fun w' hm => ⟨rfl, hm.fr⟩
end Go.Proofs.YtfhdfpejjgmdcaaGreatDoor

/- sparse: the reference's Leaf; SparseLeaves. -/
namespace Go.Proofs.YtfhdfpejjgmdcaaGreatDoor
attribute [local irreducible] Go.Vc.Run Go.Vc.RC Go.Vc.RQ Go.Vc.DR Go.Vc.DOp
open Go Go.Vc Go.Sha
theorem good_iff {i : Int} {o : List Nat} {am no : Int} : goodA i o am no ↔ o ≠ Z8 ∧ (0 ≤ i ∧ i < 65536) ∧ (0 ≤ am ∧ am < 72057594037927936) ∧ (0 ≤ no ∧ no < 256) := by
  unfold goodA
  rw [okN_iff, okN_iff, okN_iff]
  rfl
set_option maxRecDepth 10000 in set_option maxHeartbeats 4000000 in
theorem RLeaf_calls (i : Int) (o : List Nat) (ho : H8 o) (am no : Int) (w : World) :
    Gives Tryz.prog 57 [.int .i64 i, .agg (acC o am no).toArray] (.agg (u8s (leafV i o am no)).toArray) w := by
  refine enter Tryz.func57 rfl (Mem.nil w []) rfl ?_
  have hlo := ho.1
  obtain ⟨o0, o1, o2, o3, o4, o5, o6, o7, rfl⟩ := len8 hlo
  obtain ⟨O, hO⟩ : ∃ O, O = [o0, o1, o2, o3, o4, o5, o6, o7] := ⟨_, rfl⟩
  have hro : ∀ {L : Hp} {b : Nat}, (b, Obj.cells (acC [o0, o1, o2, o3, o4, o5, o6, o7] am no).toArray 79 (0, 0)) ∈ L → Rd w [] L ⟨b, 0, none⟩ (u8s O) := fun hm => Rd.row hm (fun j u hj => by
    rw [Nat.zero_add, List.getElem?_toArray]
    unfold acC
    rw [← hO, List.getElem?_append_left (List.getElem?_eq_some_iff.1 hj).1]
    exact hj)
  have sO : (u8s O).length = 8 := by rw [hO]; rfl
  have lO : O.length = 8 := by rw [hO]; rfl
  have bO : ∀ x ∈ O, x < 256 := by rw [hO]; exact ho.2
  have hlv : leafV i [o0, o1, o2, o3, o4, o5, o6, o7] am no = leafV i O am no := by rw [hO]
  rw [hlv]
  have hbad : ¬ (O ≠ Z8 ∧ (0 ≤ i ∧ i < 65536) ∧ (0 ≤ am ∧ am < 72057594037927936) ∧ (0 ≤ no ∧ no < 256)) → leafV i O am no = Z8 := fun h => if_neg (fun hg => h (good_iff.1 hg))
  have hgood : (O ≠ Z8 ∧ (0 ≤ i ∧ i < 65536) ∧ (0 ≤ am ∧ am < 72057594037927936) ∧ (0 ≤ no ∧ no < 256)) → leafV i O am no = digest 97 [le i.toNat 2, O, le am.toNat 7, le no.toNat 1] := fun h => if_pos (good_iff.2 h)
  generalize leafV i O am no = V at hbad hgood ⊢
  refine z_ ?_
  refine Run.nw (nbx) ?_
  intro b3
  refine Run.nw nal ?_
  intro b4
  refine z_ ?_
  rw [show (acC [o0, o1, o2, o3, o4, o5, o6, o7] am no).toArray.extract 0 (0 + ti33.size) = (u8s O).toArray from by rw [hO]; rfl]
  refine Run.op1 (OpTo.cv Tryz.func45 (fun w' _ => refZ_calls O lO w')) (fun _ => ?_)
  by_cases hzo : O = Z8
  · rw [show decide (O = List.replicate 8 0) = true from decide_eq_true hzo, hbad (fun h => h.1 hzo)]
    refine z_ ?_
    refine Run.a (vba (u8s Z8).toArray) ?_
    refine Run.op1 (osa (arr := ti33.zero.cells) (u8s Z8).toArray (u8s_one _)) (fun _ => ?_)
    refine z_ ?_
    exact RQ.ret1 rfl (Res.cellAll tabOk rfl rfl rfl m0 rfl) fun w' hm => ⟨rfl, hm.fr⟩
  rw [show decide (O = List.replicate 8 0) = false from decide_eq_false hzo]
  by_cases h1 : 0 ≤ i
  case neg =>
    rw [hbad (fun h => h1 h.2.1.1)]
    refine z_ ?_
    refine Run.a (vba (u8s Z8).toArray) ?_
    refine Run.op1 (osa (arr := ti33.zero.cells) (u8s Z8).toArray (u8s_one _)) (fun _ => ?_)
    refine z_ ?_
    exact RQ.ret1 rfl (Res.cellAll tabOk rfl rfl rfl m0 rfl) fun w' hm => ⟨rfl, hm.fr⟩
  by_cases h2 : i < 65536
  case neg =>
    rw [hbad (fun h => h2 h.2.1.2)]
    refine z_ ?_
    refine Run.a (vba (u8s Z8).toArray) ?_
    refine Run.op1 (osa (arr := ti33.zero.cells) (u8s Z8).toArray (u8s_one _)) (fun _ => ?_)
    refine z_ ?_
    exact RQ.ret1 rfl (Res.cellAll tabOk rfl rfl rfl m0 rfl) fun w' hm => ⟨rfl, hm.fr⟩
  by_cases h3 : 0 ≤ am
  case neg =>
    rw [hbad (fun h => h3 h.2.2.1.1)]
    refine z_ ?_
    refine Run.a (vba (u8s Z8).toArray) ?_
    refine Run.op1 (osa (arr := ti33.zero.cells) (u8s Z8).toArray (u8s_one _)) (fun _ => ?_)
    refine z_ ?_
    exact RQ.ret1 rfl (Res.cellAll tabOk rfl rfl rfl m0 rfl) fun w' hm => ⟨rfl, hm.fr⟩
  by_cases h4 : am < 72057594037927936
  case neg =>
    rw [hbad (fun h => h4 h.2.2.1.2)]
    refine z_ ?_
    refine Run.a (vba (u8s Z8).toArray) ?_
    refine Run.op1 (osa (arr := ti33.zero.cells) (u8s Z8).toArray (u8s_one _)) (fun _ => ?_)
    refine z_ ?_
    exact RQ.ret1 rfl (Res.cellAll tabOk rfl rfl rfl m0 rfl) fun w' hm => ⟨rfl, hm.fr⟩
  by_cases h5 : 0 ≤ no
  case neg =>
    rw [hbad (fun h => h5 h.2.2.2.1)]
    refine z_ ?_
    refine Run.a (vba (u8s Z8).toArray) ?_
    refine Run.op1 (osa (arr := ti33.zero.cells) (u8s Z8).toArray (u8s_one _)) (fun _ => ?_)
    refine z_ ?_
    exact RQ.ret1 rfl (Res.cellAll tabOk rfl rfl rfl m0 rfl) fun w' hm => ⟨rfl, hm.fr⟩
  by_cases h6 : no < 256
  case neg =>
    rw [hbad (fun h => h6 h.2.2.2.2)]
    refine z_ ?_
    refine Run.a (vba (u8s Z8).toArray) ?_
    refine Run.op1 (osa (arr := ti33.zero.cells) (u8s Z8).toArray (u8s_one _)) (fun _ => ?_)
    refine z_ ?_
    exact RQ.ret1 rfl (Res.cellAll tabOk rfl rfl rfl m0 rfl) fun w' hm => ⟨rfl, hm.fr⟩
  rw [hgood ⟨hzo, ⟨h1, h2⟩, ⟨h3, h4⟩, ⟨h5, h6⟩⟩]
  clear hbad hgood V
  refine z_ ?_
  obtain ⟨i, rfl⟩ := Int.eq_ofNat_of_zero_le h1
  obtain ⟨am, rfl⟩ := Int.eq_ofNat_of_zero_le h3
  obtain ⟨no, rfl⟩ := Int.eq_ofNat_of_zero_le h5
  rw [Int.toNat_natCast, Int.toNat_natCast, Int.toNat_natCast]
  have l1 := le_len i 2
  have l2 := le_len am 7
  have l3 := le_len no 1
  have b1 : ∀ x ∈ le i 2, x < 256 := by rw [← leI_nat]; exact leI_lt _ _
  have b2 : ∀ x ∈ le am 7, x < 256 := by rw [← leI_nat]; exact leI_lt _ _
  have b3' : ∀ x ∈ le no 1, x < 256 := by rw [← leI_nat]; exact leI_lt _ _
  have hd := digest_len 97 [le i 2, O, le am 7, le no 1]
  have sd : (u8s (digest 97 [le i 2, O, le am 7, le no 1])).toArray.size = 8 := by rw [List.size_toArray, u8s_len, hd]
  (repeat refine RC.seq ?_); refine RC.draw ([(b3, Obj.cells (acC [o0, o1, o2, o3, o4, o5, o6, o7] am no).toArray 79 (0, 0))]) mixed (N := 13) rfl ?_
  refine dt 0 ?_
  refine dt 2 ?_
  refine DR.t 3 rfl (Val.sliceA tabOk rfl rfl rfl rfl rfl) ?_
  refine dt 4 ?_
  refine DR.t 5 rfl (vl (.int .i64 am) (hm := (by repeat (first | exact List.mem_cons_self | apply List.mem_cons_of_mem | apply List.mem_append_right)))) ?_
  refine dt 7 ?_
  refine DR.t 8 rfl (vl (.int .i64 no) (hm := (by repeat (first | exact List.mem_cons_self | apply List.mem_cons_of_mem | apply List.mem_append_right)))) ?_
  refine DR.c 1 (DOp.op1 rfl (OpTo.callMk Tryz.func44 rfl rfl rfl rfl rfl rfl (fun w' hm => Num_calls i 2 (by decide) w')) ?_)
  rintro ⟨⟨v1, bl1⟩, hw1⟩
  dsimp only at hw1 ⊢
  refine DR.c 6 (DOp.op1 rfl (OpTo.callMk Tryz.func44 rfl rfl rfl rfl rfl rfl (fun w' hm => Num_calls am 7 (by decide) w')) ?_)
  rintro ⟨⟨v2, bl2⟩, hw2⟩
  dsimp only at hw2 ⊢
  refine DR.c 9 (DOp.op1 rfl (OpTo.callMk Tryz.func44 rfl rfl rfl rfl rfl rfl (fun w' hm => Num_calls no 1 (by decide) w')) ?_)
  rintro ⟨⟨v3, bl3⟩, hw3⟩
  dsimp only at hw3 ⊢
  obtain ⟨a1, k1, rfl, hk1⟩ := hw1.shape
  obtain ⟨a2, k2, rfl, hk2⟩ := hw2.shape
  obtain ⟨a3, k3, rfl, hk3⟩ := hw3.shape
  refine DR.c 10 ?_
  refine DOp.op1 rfl (OpTo.new rfl rfl (nbsl (parts := [(0, .tmp 38), (1, .tmp 40), (2, .tmp 43), (3, .tmp 46)]) #[.slice a1 2 k1, .slice (some ⟨b3, 0, none⟩) 8 8, .slice a2 7 k2, .slice a3 1 k3] (by kernel_rfl))) ?_
  intro b5
  refine DR.c 11 (DOp.op1 rfl (OpTo.cv Tryz.func43 (fun w' hm => Digest_calls 97 (by decide) _ [.slice a1 2 k1, .slice (some ⟨b3, 0, none⟩) 8 8, .slice a2 7 k2, .slice a3 1 k3] [le i 2, O, le am 7, le no 1] w' (SrcW.row hm m0 rfl (Nat.le_refl 4)) (parts4 (by rw [l1]; exact hw1.srcW (fun p hp => hm.has p (List.mem_cons_of_mem _ (List.mem_append_right _ (List.mem_append_right _ (List.mem_append_left _ hp)))))) (by rw [lO]; exact .at _ _ _ _ (by rw [sO]) (Nat.le_refl _) (fun j u hj => hro (by repeat (first | exact List.mem_cons_self | apply List.mem_cons_of_mem | apply List.mem_append_right)) w' hm j u hj)) (by rw [l2]; exact hw2.srcW (fun p hp => hm.has p (List.mem_cons_of_mem _ (List.mem_append_right _ (List.mem_append_left _ hp))))) (by rw [l3]; exact hw3.srcW (fun p hp => hm.has p (List.mem_cons_of_mem _ (List.mem_append_left _ hp))))) (by simp [tot, l1, l2, l3, lO]) (by intro l hl; simp only [List.mem_cons, List.not_mem_nil, or_false] at hl; rcases hl with rfl | rfl | rfl | rfl; exact b1; exact bO; exact b2; exact b3'))) (fun _ => ?_))
  refine DR.c 12 ?_
  refine DOp.op1 rfl (osa (L' := (b5, Obj.cells #[.slice a1 2 k1, .slice (some ⟨b3, 0, none⟩) 8 8, .slice a2 7 k2, .slice a3 1 k3] 90 (0, 0)) :: (bl3 ++ (bl2 ++ (bl1 ++ [(b3, Obj.cells (acC [o0, o1, o2, o3, o4, o5, o6, o7] am no).toArray 79 (0, 0))])))) (arr := ti33.zero.cells) (e := 33) (u8s (digest 97 [le i 2, O, le am 7, le no 1])).toArray (u8s_one _) (hL := (perm_of fun f => by (simp only [List.map_append, List.map_cons, List.map_nil, List.sum_append, List.sum_cons, List.sum_nil] <;> omega))) (hs := sd)) (fun _ => ?_)
  refine DR.done (by kernel_rfl) ?_
  refine z_ ?_
  exact RQ.ret1 rfl (Res.cellAll tabOk rfl rfl rfl m0 sd) fun w' hm => ⟨rfl, hm.fr⟩
end Go.Proofs.YtfhdfpejjgmdcaaGreatDoor
