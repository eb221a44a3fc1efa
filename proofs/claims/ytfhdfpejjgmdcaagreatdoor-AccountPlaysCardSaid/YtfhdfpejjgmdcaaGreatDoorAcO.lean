import Derived.Test.YtfhdfpejjgmdcaaGreatDoorAcJ
set_option linter.unusedSimpArgs false
set_option linter.unusedVariables false
/- account: May; number. -/
namespace Go.Proofs.YtfhdfpejjgmdcaaGreatDoor
attribute [local irreducible] Go.Vc.Run Go.Vc.RC Go.Vc.RQ Go.Vc.DR Go.Vc.DOp
open Go Go.Vc Go.Sha
instance (t : SxD) : Decidable (fitsX t) := by unfold fitsX; infer_instance
instance (t : SxD) : Decidable (kindX t) := by unfold kindX; infer_instance
theorem sx_rd (t : SxD) : rdAt ti3 t.c.toArray 0 = some (.int .i64 t.kd) ∧ rdAt ti3 t.c.toArray 1 = some (.int .i64 t.fr) ∧ rdAt ti3 t.c.toArray 2 = some (.int .i64 t.tt) ∧ rdAt ti3 t.c.toArray 11 = some (.int .i64 t.am) ∧ rdAt ti3 t.c.toArray 12 = some (.int .i64 t.z) := by
  obtain ⟨kd, fr, tt, ou, am, z, op, sh, pa, h8, h1, h2, h3⟩ := t
  have hl := h8.1
  obtain ⟨o0, o1, o2, o3, o4, o5, o6, o7, rfl⟩ := len8 hl
  exact ⟨rfl, rfl, rfl, rfl, rfl⟩
theorem sx_ou (t : SxD) : ∀ j u, (u8s t.ou)[j]? = some u → t.c.toArray[3 + j]? = some u := by
  intro j u hj
  rw [List.getElem?_toArray]
  unfold SxD.c sxC
  rw [show 3 + j = j + 1 + 1 + 1 by omega, List.getElem?_cons_succ, List.getElem?_cons_succ, List.getElem?_cons_succ, List.getElem?_append_left (List.getElem?_eq_some_iff.1 hj).1]
  exact hj
set_option maxRecDepth 10000 in set_option maxHeartbeats 4000000 in
theorem AMay_calls (t : SxD) (w : World) : Gives Tryz.prog 13 [.agg t.c.toArray] (.bool (decide (maySx t))) w := by
  refine enter Tryz.func13 rfl (Mem.nil w []) rfl ?_
  obtain ⟨r0, r1, r2, r11, r12⟩ := sx_rd t
  have hou := sx_ou t
  generalize t.c = F at r0 r1 r2 r11 r12 hou
  have hrd : ∀ {S0 : List Nat} {L : Hp} {b : Nat}, (b, Obj.cells F.toArray 41 (0, 0)) ∈ L → Rd w S0 L ⟨b, 3, none⟩ (u8s t.ou) := fun hm => Rd.row hm hou
  have sO : (u8s t.ou).length = 8 := by rw [u8s_len, t.h8.1]
  have e1 : decide (maySx t) = (decide (fitsX t) && decide (kindX t)) := by rw [← Bool.decide_and]; exact decide_eq_decide.2 Iff.rfl
  have e2 : decide (fitsX t) = (decide (0 ≤ t.fr ∧ t.fr ≤ 65535) && decide (1 ≤ t.am ∧ t.am ≤ 1125899906842624) && decide (0 ≤ t.z ∧ t.z ≤ 255)) := by
    unfold fitsX maxM
    rw [← Bool.decide_and, ← Bool.decide_and]
    exact decide_eq_decide.2 (by omega)
  have c1 := fun w' => place_calls t.fr w'
  have c2 := fun w' => within_calls t.am 1 1125899906842624 w'
  have c3 := fun w' => within_calls t.z 0 255 w'
  have c4 := fun w' => place_calls t.tt w'
  have c5 := fun w' => Zero_calls t.ou t.h8.1 w'
  have ek1 : t.kd = 1 → decide (kindX t) = (decide (0 ≤ t.tt ∧ t.tt ≤ 65535) && !decide (t.tt = t.fr) && decide (t.ou = List.replicate 8 0)) := fun hk => by
    unfold kindX
    rw [← decide_not, ← Bool.decide_and, ← Bool.decide_and]
    exact decide_eq_decide.2 ⟨fun h => by
      rcases h with h | h
      · exact ⟨⟨by omega, h.2.2.1⟩, h.2.2.2⟩
      · omega, fun h => .inl ⟨hk, by omega, h.1.2, h.2⟩⟩
  have ek2 : t.kd = 2 → decide (kindX t) = (decide (t.tt = 0) && !decide (t.ou = List.replicate 8 0)) := fun hk => by
    unfold kindX
    rw [← decide_not, ← Bool.decide_and]
    exact decide_eq_decide.2 ⟨fun h => by
      rcases h with h | h
      · omega
      · exact ⟨h.2.1, h.2.2⟩, fun h => .inr ⟨hk, h.1, h.2⟩⟩
  have ek3 : t.kd ≠ 1 → t.kd ≠ 2 → decide (kindX t) = false := fun h1 h2 => decide_eq_false (by
    unfold kindX
    rintro (h | h)
    · exact h1 h.1
    · exact h2 h.1)
  rw [e1]
  refine z_ ?_
  refine Run.nw (nbx) ?_
  intro b1
  refine Run.a (Val.of rfl) ?_
  refine Run.nil (RQ.next ?_)
  generalize decide (kindX t) = kx at ek1 ek2 ek3 ⊢
  generalize decide (fitsX t) = fits at e2 ⊢
  refine RC.seq ?_
  refine RC.thenCut (Y := Unit) (fun _ => [(3, .bool fits), (1, .pointer (some ⟨b1, 0, none⟩))]) (fun _ => [(b1, Obj.cells F.toArray 41 (0, 0))]) ?_ (fun _ => ?_)
  · rw [e2]
    generalize decide (0 ≤ t.fr ∧ t.fr ≤ 65535) = qa at c1 ⊢
    generalize decide (1 ≤ t.am ∧ t.am ≤ 1125899906842624) = qb at c2 ⊢
    generalize decide (0 ≤ t.z ∧ t.z ≤ 255) = qc at c3 ⊢
    refine z_ ?_
    refine Run.a (vl (.int .i64 t.fr) (hv := r1)) ?_
    refine Run.op1 (OpTo.cv Tryz.func32 (fun w' _ => c1 w')) (fun _ => ?_)
    cases qa with
    | false =>
      refine z_ ?_
      exact RQ.toP () ⟨rfl, rfl, trivial⟩ (List.Perm.refl _) (List.Sublist.refl _)
    | true =>
      refine z_ ?_
      refine Run.a (vl (.int .i64 t.am) (hv := r11)) ?_
      refine Run.op1 (OpTo.cv Tryz.func40 (fun w' _ => c2 w')) (fun _ => ?_)
      cases qb with
      | false =>
        refine z_ ?_
        exact RQ.toP () ⟨rfl, rfl, trivial⟩ (List.Perm.refl _) (List.Sublist.refl _)
      | true =>
        refine z_ ?_
        refine Run.a (vl (.int .i64 t.z) (hv := r12)) ?_
        refine Run.op1 (OpTo.cv Tryz.func40 (fun w' _ => c3 w')) (fun _ => ?_)
        cases qc with
        | false =>
          refine z_ ?_
          exact RQ.toP () ⟨rfl, rfl, trivial⟩ (List.Perm.refl _) (List.Sublist.refl _)
        | true =>
          refine z_ ?_
          exact RQ.toP () ⟨rfl, rfl, trivial⟩ (List.Perm.refl _) (List.Sublist.refl _)
  clear e2
  refine z_ ?_
  refine Run.a (vl (.int .i64 t.kd) (hv := r0)) ?_
  by_cases k1 : t.kd = 1
  · rw [ek1 k1]
    generalize decide (0 ≤ t.tt ∧ t.tt ≤ 65535) = qa at c4 ⊢
    generalize decide (t.ou = List.replicate 8 0) = qo at c5 ⊢
    cases fits with
    | false =>
      refine z_ ?_
      exact RQ.ret1 rfl (Res.tmp rfl) fun w' hm => ⟨rfl, hm.fr⟩
    | true =>
      refine z_ ?_
      refine Run.a (vl (.int .i64 t.tt) (hv := r2)) ?_
      refine Run.op1 (OpTo.cv Tryz.func32 (fun w' _ => c4 w')) (fun _ => ?_)
      cases qa with
      | false =>
        refine z_ ?_
        exact RQ.ret1 rfl (Res.tmp rfl) fun w' hm => ⟨rfl, hm.fr⟩
      | true =>
        refine z_ ?_
        refine Run.a (vl (.int .i64 t.tt) (hv := r2)) ?_
        refine z_ ?_
        refine Run.a (vl (.int .i64 t.fr) (hv := r1)) ?_
        by_cases k2 : t.tt = t.fr
        · rw [decide_eq_true k2]
          refine z_ ?_
          exact RQ.ret1 rfl (Res.tmp rfl) fun w' hm => ⟨rfl, hm.fr⟩
        · rw [decide_eq_false k2]
          refine z_ ?_
          refine Run.a (Val.loadR tabOk (cs := u8s t.ou) rfl rfl rfl rfl sO (hrd (by repeat (first | exact List.mem_cons_self | apply List.mem_cons_of_mem | apply List.mem_append_right)))) ?_
          refine Run.op1 (OpTo.cv Tryz.func33 (fun w' _ => c5 w')) (fun _ => ?_)
          cases qo with
          | false =>
            refine z_ ?_
            exact RQ.ret1 rfl (Res.tmp rfl) fun w' hm => ⟨rfl, hm.fr⟩
          | true =>
            refine z_ ?_
            exact RQ.ret1 rfl (Res.tmp rfl) fun w' hm => ⟨rfl, hm.fr⟩
  by_cases k2 : t.kd = 2
  · rw [ek2 k2]
    generalize decide (t.ou = List.replicate 8 0) = qo at c5 ⊢
    cases fits with
    | false =>
      refine z_ ?_
      exact RQ.ret1 rfl (Res.tmp rfl) fun w' hm => ⟨rfl, hm.fr⟩
    | true =>
      refine z_ ?_
      refine Run.a (vl (.int .i64 t.tt) (hv := r2)) ?_
      by_cases k3 : t.tt = 0
      · rw [decide_eq_true k3]
        refine z_ ?_
        refine Run.a (Val.loadR tabOk (cs := u8s t.ou) rfl rfl rfl rfl sO (hrd (by repeat (first | exact List.mem_cons_self | apply List.mem_cons_of_mem | apply List.mem_append_right)))) ?_
        refine Run.op1 (OpTo.cv Tryz.func33 (fun w' _ => c5 w')) (fun _ => ?_)
        cases qo with
        | false =>
          refine z_ ?_
          exact RQ.ret1 rfl (Res.tmp rfl) fun w' hm => ⟨rfl, hm.fr⟩
        | true =>
          refine z_ ?_
          exact RQ.ret1 rfl (Res.tmp rfl) fun w' hm => ⟨rfl, hm.fr⟩
      · rw [decide_eq_false k3]
        refine z_ ?_
        exact RQ.ret1 rfl (Res.tmp rfl) fun w' hm => ⟨rfl, hm.fr⟩
  · rw [ek3 k1 k2, Bool.and_false]
    refine z_ ?_
    exact RQ.ret1 rfl (Res.tmp rfl) fun w' hm => ⟨rfl, hm.fr⟩
end Go.Proofs.YtfhdfpejjgmdcaaGreatDoor

/- account: the reference's MaySide; number, Num of any number. -/
namespace Go.Proofs.YtfhdfpejjgmdcaaGreatDoor
attribute [local irreducible] Go.Vc.Run Go.Vc.RC Go.Vc.RQ Go.Vc.DR Go.Vc.DOp
open Go Go.Vc Go.Sha
set_option maxRecDepth 10000 in set_option maxHeartbeats 4000000 in
theorem RMay_calls (t : SxD) (w : World) : Gives Tryz.prog 14 [.agg t.c.toArray] (.bool (decide (maySx t))) w := by
  refine enter Tryz.func14 rfl (Mem.nil w []) rfl ?_
  obtain ⟨r0, r1, r2, r11, r12⟩ := sx_rd t
  have hou := sx_ou t
  generalize t.c = F at r0 r1 r2 r11 r12 hou
  have hrd : ∀ {S0 : List Nat} {L : Hp} {b : Nat}, (b, Obj.cells F.toArray 41 (0, 0)) ∈ L → Rd w S0 L ⟨b, 3, none⟩ (u8s t.ou) := fun hm => Rd.row hm hou
  have sO : (u8s t.ou).length = 8 := by rw [u8s_len, t.h8.1]
  have c5 := fun w' => refZ_calls t.ou t.h8.1 w'
  have hno : ∀ {P : Prop}, (maySx t → P) → ¬ P → decide (maySx t) = false := fun h1 h2 => decide_eq_false (fun h => h2 (h1 h))
  have hM : maxM = 1125899906842624 := rfl
  refine z_ ?_
  refine Run.nw (nbx) ?_
  intro b1
  refine z_ ?_
  refine Run.a (vl (.int .i64 t.fr) (hv := r1)) ?_
  by_cases g1 : 0 ≤ t.fr
  case neg =>
    rw [hno (P := 0 ≤ t.fr) (fun h => h.1.1.1) g1]
    refine z_ ?_
    exact RQ.ret1 rfl (Res.tmp rfl) fun w' hm => ⟨rfl, hm.fr⟩
  refine z_ ?_
  refine Run.a (vl (.int .i64 t.fr) (hv := r1)) ?_
  by_cases g2 : t.fr < 65536
  case neg =>
    rw [hno (P := t.fr < 65536) (fun h => h.1.1.2) g2]
    refine z_ ?_
    exact RQ.ret1 rfl (Res.tmp rfl) fun w' hm => ⟨rfl, hm.fr⟩
  refine z_ ?_
  refine Run.a (vl (.int .i64 t.am) (hv := r11)) ?_
  by_cases g3 : 1 ≤ t.am
  case neg =>
    rw [hno (P := 1 ≤ t.am) (fun h => h.1.2.1.1) g3]
    refine z_ ?_
    exact RQ.ret1 rfl (Res.tmp rfl) fun w' hm => ⟨rfl, hm.fr⟩
  refine z_ ?_
  refine Run.a (vl (.int .i64 t.am) (hv := r11)) ?_
  by_cases g4 : t.am ≤ 1125899906842624
  case neg =>
    rw [hno (P := t.am ≤ 1125899906842624) (fun h => h.1.2.1.2) g4]
    refine z_ ?_
    exact RQ.ret1 rfl (Res.tmp rfl) fun w' hm => ⟨rfl, hm.fr⟩
  refine z_ ?_
  refine Run.a (vl (.int .i64 t.z) (hv := r12)) ?_
  by_cases g5 : 0 ≤ t.z
  case neg =>
    rw [hno (P := 0 ≤ t.z) (fun h => h.1.2.2.1) g5]
    refine z_ ?_
    exact RQ.ret1 rfl (Res.tmp rfl) fun w' hm => ⟨rfl, hm.fr⟩
  refine z_ ?_
  refine Run.a (vl (.int .i64 t.z) (hv := r12)) ?_
  by_cases g6 : t.z ≤ 255
  case neg =>
    rw [hno (P := t.z ≤ 255) (fun h => h.1.2.2.2) g6]
    refine z_ ?_
    exact RQ.ret1 rfl (Res.tmp rfl) fun w' hm => ⟨rfl, hm.fr⟩
  have hk : decide (maySx t) = decide (kindX t) := decide_eq_decide.2 ⟨fun h => h.2, fun h => ⟨⟨⟨g1, g2⟩, ⟨g3, g4⟩, ⟨g5, g6⟩⟩, h⟩⟩
  rw [hk]
  clear hno hk
  refine z_ ?_
  refine Run.a (vl (.int .i64 t.kd) (hv := r0)) ?_
  by_cases k1 : t.kd = 1
  · refine z_ ?_
    refine Run.a (vl (.int .i64 t.tt) (hv := r2)) ?_
    by_cases k2 : 0 ≤ t.tt
    case neg =>
      rw [decide_eq_false (show ¬ kindX t from fun h => by unfold kindX at h; rcases h with h | h <;> omega)]
      refine z_ ?_
      exact RQ.ret1 rfl (Res.tmp rfl) fun w' hm => ⟨rfl, hm.fr⟩
    refine z_ ?_
    refine Run.a (vl (.int .i64 t.tt) (hv := r2)) ?_
    by_cases k3 : t.tt < 65536
    case neg =>
      rw [decide_eq_false (show ¬ kindX t from fun h => by unfold kindX at h; rcases h with h | h <;> omega)]
      refine z_ ?_
      exact RQ.ret1 rfl (Res.tmp rfl) fun w' hm => ⟨rfl, hm.fr⟩
    refine z_ ?_
    refine Run.a (vl (.int .i64 t.tt) (hv := r2)) ?_
    refine z_ ?_
    refine Run.a (vl (.int .i64 t.fr) (hv := r1)) ?_
    by_cases k4 : t.tt = t.fr
    · rw [decide_eq_false (show ¬ kindX t from fun h => by unfold kindX at h; rcases h with h | h <;> omega)]
      refine z_ ?_
      exact RQ.ret1 rfl (Res.tmp rfl) fun w' hm => ⟨rfl, hm.fr⟩
    have e : decide (kindX t) = decide (t.ou = List.replicate 8 0) := decide_eq_decide.2 ⟨fun h => by
      unfold kindX at h
      rcases h with h | h
      · exact h.2.2.2
      · omega, fun h => .inl ⟨k1, ⟨k2, k3⟩, k4, h⟩⟩
    rw [e]
    refine z_ ?_
    refine Run.a (Val.loadR tabOk (cs := u8s t.ou) rfl rfl rfl rfl sO (hrd (by repeat (first | exact List.mem_cons_self | apply List.mem_cons_of_mem | apply List.mem_append_right)))) ?_
    refine Run.op1 (OpTo.cv Tryz.func45 (fun w' _ => c5 w')) (fun _ => ?_)
    refine z_ ?_
    exact RQ.ret1 rfl (Res.tmp rfl) fun w' hm => ⟨rfl, hm.fr⟩
  by_cases k2 : t.kd = 2
  · refine z_ ?_
    refine Run.a (vl (.int .i64 t.tt) (hv := r2)) ?_
    by_cases k3 : t.tt = 0
    case neg =>
      rw [decide_eq_false (show ¬ kindX t from fun h => by unfold kindX at h; rcases h with h | h <;> omega)]
      refine z_ ?_
      exact RQ.ret1 rfl (Res.tmp rfl) fun w' hm => ⟨rfl, hm.fr⟩
    have e : decide (kindX t) = !decide (t.ou = List.replicate 8 0) := by
      rw [← decide_not]
      exact decide_eq_decide.2 ⟨fun h => by
        unfold kindX at h
        rcases h with h | h
        · omega
        · exact h.2.2, fun h => .inr ⟨k2, k3, h⟩⟩
    rw [e]
    refine z_ ?_
    refine Run.a (Val.loadR tabOk (cs := u8s t.ou) rfl rfl rfl rfl sO (hrd (by repeat (first | exact List.mem_cons_self | apply List.mem_cons_of_mem | apply List.mem_append_right)))) ?_
    refine Run.op1 (OpTo.cv Tryz.func45 (fun w' _ => c5 w')) (fun _ => ?_)
    refine z_ ?_
    exact RQ.ret1 rfl (Res.tmp rfl) fun w' hm => ⟨rfl, hm.fr⟩
  · rw [decide_eq_false (show ¬ kindX t from fun h => by unfold kindX at h; rcases h with h | h <;> omega)]
    refine z_ ?_
    exact RQ.ret1 rfl (Res.tmp rfl) fun w' hm => ⟨rfl, hm.fr⟩
end Go.Proofs.YtfhdfpejjgmdcaaGreatDoor

/- account: number, Message; the reference's SideMessage. -/
namespace Go.Proofs.YtfhdfpejjgmdcaaGreatDoor
attribute [local irreducible] Go.Vc.Run Go.Vc.RC Go.Vc.RQ Go.Vc.DR Go.Vc.DOp
open Go Go.Vc Go.Sha
theorem parts7 {w : World} {u0 u1 u2 u3 u4 u5 u6 : Value} {a0 a1 a2 a3 a4 a5 a6 : List Nat} (h0 : SrcW w 1 u0 a0.length (u8s a0)) (h1 : SrcW w 1 u1 a1.length (u8s a1)) (h2 : SrcW w 1 u2 a2.length (u8s a2)) (h3 : SrcW w 1 u3 a3.length (u8s a3)) (h4 : SrcW w 1 u4 a4.length (u8s a4)) (h5 : SrcW w 1 u5 a5.length (u8s a5)) (h6 : SrcW w 1 u6 a6.length (u8s a6)) : Parts w [u0, u1, u2, u3, u4, u5, u6] [a0, a1, a2, a3, a4, a5, a6] :=
  ⟨rfl, fun i h h' => by
    match i, h with
    | 0, _ => exact h0
    | 1, _ => exact h1
    | 2, _ => exact h2
    | 3, _ => exact h3
    | 4, _ => exact h4
    | 5, _ => exact h5
    | 6, _ => exact h6⟩
set_option maxRecDepth 10000 in set_option maxHeartbeats 4000000 in
theorem NumI_calls (n : Int) (hn : 0 ≤ n) (k : Nat) (hk : k ≤ 8) (w : World) : Makes Tryz.prog 44 [.int .i64 n, .int .i64 k] w 5 1 k (u8s (le n.toNat k)) := by
  obtain ⟨n, rfl⟩ := Int.eq_ofNat_of_zero_le hn
  exact Num_calls n k hk w
set_option maxRecDepth 10000 in set_option maxHeartbeats 4000000 in
theorem numI_calls (n : Int) (hn : 0 ≤ n) (k : Nat) (hk : k ≤ 8) (w : World) : Makes Tryz.prog 42 [.int .i64 n, .int .i64 k] w 5 1 k (u8s (le n.toNat k)) := by
  obtain ⟨n, rfl⟩ := Int.eq_ofNat_of_zero_le hn
  rw [Int.toNat_natCast]
  refine enter Tryz.func42 rfl (Mem.nil w []) rfl ?_
  refine z_ ?_
  refine RC.up k (D := Value × Hp) (fun i x => Own 5 1 x.1 i (u8s (le n i)) x.2) (fun i x => [(8, .int .i64 i), (7, .int .i64 k), (5, x.1), (0, .int .i64 n)]) (fun i x => x.2) 0 (_, _) (Nat.zero_le _) Own.nil ⟨rfl, rfl, rfl, rfl, trivial⟩ (List.nil_sublist _) ?_
  rintro i ⟨v5, bl5⟩ hi hown
  dsimp only at hown ⊢
  refine z_ ?_
  (repeat refine RC.seq ?_); refine RC.wh rfl (fun h => RQ.next ?_) (fun h => ?_)
  · have hi' : i < k := by have := of_decide_eq_true h; omega
    clear h
    obtain ⟨X, hX⟩ : ∃ X : Nat, X = n / 2 ^ (8 * i) % 256 := ⟨_, rfl⟩
    have hle : le n (i + 1) = le n i ++ [X] := by rw [hX]; rfl
    have hv : IntKind.u8.wrap ((n : Int).fdiv (2 ^ min (8 * (i : Int)).toNat IntKind.i64.bits)) = (X : Int) := by
      rw [show min (8 * (i : Int)).toNat IntKind.i64.bits = 8 * i from by show min _ 64 = _; omega, wrap_u8, Int.fdiv_eq_ediv_of_nonneg _ (Int.le_of_lt (Int.pow_pos (by decide))), hX]
      rfl
    refine z_ ?_
    rw [hv]
    refine Run.nw (nbsl (u8s [X]).toArray (by kernel_rfl)) ?_
    intro b4
    refine Run.op1 (OpTo.append (L1 := [(b4, Obj.cells (u8s [X]).toArray 5 (0, 0))]) tabOk hown (Src.at ⟨b4, 0, none⟩ 1 1 (u8s [X]) rfl (Rd.rowAll List.mem_cons_self)) rfl rfl rfl rfl rfl rfl rfl rfl rfl (perm_of fun f => by (simp only [List.map_append, List.map_cons, List.map_nil, List.sum_append, List.sum_cons, List.sum_nil] <;> omega)) (u8s_one _) (by unfold maxLen; omega) (by simp only [ti5]; omega)) ?_
    rintro ⟨⟨v6, bl6⟩, hown6⟩
    dsimp only at hown6 ⊢
    rw [← u8s_app, ← hle] at hown6
    refine z_ ?_
    exact RQ.upS (i + 1) (v6, bl6) (Nat.lt_succ_self _) hi' hown6 ⟨rfl, rfl, rfl, rfl, trivial⟩ (List.Perm.refl _) (List.sublist_append_left _ _)
  · have hi' : i = k := by have := of_decide_eq_false h; omega
    clear h
    subst hi'
    (repeat refine RQ.thenExit ?_); refine RQ.blockHere ?_
    refine z_ ?_
    exact RQ.ret1 rfl (Res.tmp rfl) fun w' hm => Makes.of (L' := []) hown (by rw [List.append_nil]; exact hm)
set_option maxRecDepth 10000 in set_option maxHeartbeats 4000000 in
theorem AMess_calls (side : Int) (t : SxD) (w : World) (hK : Laid w) : Gives Tryz.prog 11 [.int .i64 side, .agg t.c.toArray] (.tuple #[.agg (u8s (messX side t)).toArray, .bool (decide (mokX side t))]) w := by
  refine enter Tryz.func11 rfl (Mem.nil w []) rfl ?_
  obtain ⟨r0, r1, r2, r11, r12⟩ := sx_rd t
  have hou := sx_ou t
  have hsz : t.c.toArray.size = 293 := t.len
  have cm := fun w' => AMay_calls t w'
  have hm8 := messX_8 side t
  have sM : (u8s (messX side t)).toArray.size = 8 := by rw [List.size_toArray, u8s_len, hm8.1]
  have sO : (u8s t.ou).length = 8 := by rw [u8s_len, t.h8.1]
  have lO : t.ou.length = 8 := t.h8.1
  generalize t.c = F at r0 r1 r2 r11 r12 hou hsz cm
  have hrd : ∀ {S0 : List Nat} {L : Hp} {b : Nat}, (b, Obj.cells F.toArray 41 (0, 0)) ∈ L → Rd w S0 L ⟨b, 3, none⟩ (u8s t.ou) := fun hm => Rd.row hm hou
  have ebad : ¬ mokX side t → messX side t = Z8 := fun h => if_neg h
  refine z_ ?_
  refine Run.nw (nbx) ?_
  intro b3
  refine Run.nw nal ?_
  intro b4
  refine z_ ?_
  refine Run.op1 (OpTo.cv Tryz.func40 (fun w' _ => within_calls side 0 7 w')) (fun _ => ?_)
  by_cases g1 : 0 ≤ side ∧ side ≤ 7
  case neg =>
    have hno : ¬ mokX side t := fun h => g1 (by have := h.2; omega)
    rw [decide_eq_false hno, ebad hno, decide_eq_false g1]
    refine z_ ?_
    refine Run.a (vba (u8s Z8).toArray) ?_
    refine Run.op1 (osa (arr := ti33.zero.cells) (u8s Z8).toArray (u8s_one _)) (fun _ => ?_)
    refine z_ ?_
    exact RQ.ret2 rfl (Res.cellAll tabOk rfl rfl rfl m0 rfl) (Res.tmp rfl) fun w' hm => ⟨rfl, hm.fr⟩
  rw [decide_eq_true g1]
  refine z_ ?_
  refine Run.a (vla (arr := F.toArray) (hv := hsz)) ?_
  refine Run.op1 (OpTo.cv Tryz.func13 (fun w' _ => cm w')) (fun _ => ?_)
  by_cases g2 : maySx t
  case neg =>
    have hno : ¬ mokX side t := fun h => g2 h.1
    rw [decide_eq_false hno, ebad hno, decide_eq_false g2]
    refine z_ ?_
    refine Run.a (vba (u8s Z8).toArray) ?_
    refine Run.op1 (osa (arr := ti33.zero.cells) (u8s Z8).toArray (u8s_one _)) (fun _ => ?_)
    refine z_ ?_
    exact RQ.ret2 rfl (Res.cellAll tabOk rfl rfl rfl m0 rfl) (Res.tmp rfl) fun w' hm => ⟨rfl, hm.fr⟩
  have hyes : mokX side t := ⟨g2, by omega, by omega⟩
  rw [decide_eq_true hyes, decide_eq_true g2]
  have em : messX side t = digest 121 [le side.toNat 1, le t.kd.toNat 1, le t.fr.toNat 2, le t.tt.toNat 2, t.ou, le t.am.toNat 7, le t.z.toNat 1] := if_pos hyes
  rw [em] at sM ⊢
  clear em ebad hm8
  obtain ⟨⟨hfr, ham, hz⟩, hk⟩ := g2
  have hkd : 0 ≤ t.kd := by rcases hk with h | h <;> omega
  have htt : 0 ≤ t.tt := by rcases hk with h | h <;> omega
  have b8 : ∀ x ∈ t.ou, x < 256 := t.h8.2
  refine z_ ?_
  (repeat refine RC.seq ?_); refine RC.draw ([(b3, Obj.cells F.toArray 41 (0, 0))]) mixed (N := 24) rfl ?_
  refine dt 0 ?_
  refine dt 2 ?_
  refine DR.t 3 rfl (vl (.int .i64 t.kd) (hm := (by repeat (first | exact List.mem_cons_self | apply List.mem_cons_of_mem | apply List.mem_append_right))) (hv := r0)) ?_
  refine dt 5 ?_
  refine DR.t 6 rfl (vl (.int .i64 t.fr) (hm := (by repeat (first | exact List.mem_cons_self | apply List.mem_cons_of_mem | apply List.mem_append_right))) (hv := r1)) ?_
  refine dt 8 ?_
  refine DR.t 9 rfl (vl (.int .i64 t.tt) (hm := (by repeat (first | exact List.mem_cons_self | apply List.mem_cons_of_mem | apply List.mem_append_right))) (hv := r2)) ?_
  refine dt 11 ?_
  refine DR.t 12 rfl (Val.sliceA tabOk rfl rfl rfl rfl rfl) ?_
  refine dt 13 ?_
  refine DR.t 14 rfl (vl (.int .i64 t.am) (hm := (by repeat (first | exact List.mem_cons_self | apply List.mem_cons_of_mem | apply List.mem_append_right))) (hv := r11)) ?_
  refine dt 16 ?_
  refine dt 17 ?_
  refine DR.t 18 rfl (vl (.int .i64 t.z) (hm := (by repeat (first | exact List.mem_cons_self | apply List.mem_cons_of_mem | apply List.mem_append_right))) (hv := r12)) ?_
  refine DR.c 1 (DOp.op1 rfl (OpTo.callMk Tryz.func42 rfl rfl rfl rfl rfl rfl (fun w' hm => numI_calls side g1.1 1 (by decide) w')) ?_)
  rintro ⟨⟨v0, bl0⟩, hw0⟩
  dsimp only at hw0 ⊢
  refine DR.c 4 (DOp.op1 rfl (OpTo.callMk Tryz.func42 rfl rfl rfl rfl rfl rfl (fun w' hm => numI_calls t.kd hkd 1 (by decide) w')) ?_)
  rintro ⟨⟨v1, bl1⟩, hw1⟩
  dsimp only at hw1 ⊢
  refine DR.c 7 (DOp.op1 rfl (OpTo.callMk Tryz.func42 rfl rfl rfl rfl rfl rfl (fun w' hm => numI_calls t.fr hfr.1 2 (by decide) w')) ?_)
  rintro ⟨⟨v2, bl2⟩, hw2⟩
  dsimp only at hw2 ⊢
  refine DR.c 10 (DOp.op1 rfl (OpTo.callMk Tryz.func42 rfl rfl rfl rfl rfl rfl (fun w' hm => numI_calls t.tt htt 2 (by decide) w')) ?_)
  rintro ⟨⟨v3, bl3⟩, hw3⟩
  dsimp only at hw3 ⊢
  refine DR.c 15 (DOp.op1 rfl (OpTo.callMk Tryz.func42 rfl rfl rfl rfl rfl rfl (fun w' hm => numI_calls t.am (by omega) 7 (by decide) w')) ?_)
  rintro ⟨⟨v4, bl4⟩, hw4⟩
  dsimp only at hw4 ⊢
  refine DR.c 19 (DOp.op1 rfl (OpTo.callMk Tryz.func42 rfl rfl rfl rfl rfl rfl (fun w' hm => numI_calls t.z hz.1 1 (by decide) w')) ?_)
  rintro ⟨⟨v5, bl5⟩, hw5⟩
  dsimp only at hw5 ⊢
  obtain ⟨a0, k0, rfl, hk0⟩ := hw0.shape
  obtain ⟨a1, k1, rfl, hk1⟩ := hw1.shape
  obtain ⟨a2, k2, rfl, hk2⟩ := hw2.shape
  obtain ⟨a3, k3, rfl, hk3⟩ := hw3.shape
  obtain ⟨a4, k4, rfl, hk4⟩ := hw4.shape
  obtain ⟨a5, k5, rfl, hk5⟩ := hw5.shape
  have ln : ∀ n k, (le n k).length = k := le_len
  have lb : ∀ n k, ∀ x ∈ le n k, x < 256 := fun n k => by rw [← leI_nat]; exact leI_lt _ _
  refine DR.c 20 ?_
  refine DOp.op1 rfl (OpTo.new rfl rfl (nbsl (parts := [(0, .tmp 16), (1, .tmp 19), (2, .tmp 22), (3, .tmp 25), (4, .tmp 27), (5, .tmp 30), (6, .tmp 34)]) #[.slice a0 1 k0, .slice a1 1 k1, .slice a2 2 k2, .slice a3 2 k3, .slice (some ⟨b3, 3, none⟩) 8 8, .slice a4 7 k4, .slice a5 1 k5] (by kernel_rfl))) ?_
  intro b5
  refine DR.c 21 (DOp.op1 rfl (OpTo.cv Tryz.func41 (fun w' hm => Of_calls 121 (by decide) _ [.slice a0 1 k0, .slice a1 1 k1, .slice a2 2 k2, .slice a3 2 k3, .slice (some ⟨b3, 3, none⟩) 8 8, .slice a4 7 k4, .slice a5 1 k5] [le side.toNat 1, le t.kd.toNat 1, le t.fr.toNat 2, le t.tt.toNat 2, t.ou, le t.am.toNat 7, le t.z.toNat 1] w' (SrcW.row hm m0 rfl (Nat.le_refl 7)) (parts7 (by rw [ln]; exact hw0.srcW (fun p hp => hm.has p (by repeat (first | exact List.mem_append_left _ hp | apply List.mem_cons_of_mem | apply List.mem_append_right)))) (by rw [ln]; exact hw1.srcW (fun p hp => hm.has p (by repeat (first | exact List.mem_append_left _ hp | apply List.mem_cons_of_mem | apply List.mem_append_right)))) (by rw [ln]; exact hw2.srcW (fun p hp => hm.has p (by repeat (first | exact List.mem_append_left _ hp | apply List.mem_cons_of_mem | apply List.mem_append_right)))) (by rw [ln]; exact hw3.srcW (fun p hp => hm.has p (by repeat (first | exact List.mem_append_left _ hp | apply List.mem_cons_of_mem | apply List.mem_append_right)))) (by rw [lO]; exact .at _ _ _ _ (by rw [sO]) (Nat.le_refl _) (fun j u hj => hrd (by repeat (first | exact List.mem_cons_self | apply List.mem_cons_of_mem | apply List.mem_append_right)) w' hm j u hj)) (by rw [ln]; exact hw4.srcW (fun p hp => hm.has p (by repeat (first | exact List.mem_append_left _ hp | apply List.mem_cons_of_mem | apply List.mem_append_right)))) (by rw [ln]; exact hw5.srcW (fun p hp => hm.has p (by repeat (first | exact List.mem_append_left _ hp | apply List.mem_cons_of_mem | apply List.mem_append_right))))) (by simp [tot, ln, lO]) (by intro l hl; simp only [List.mem_cons, List.not_mem_nil, or_false] at hl; rcases hl with rfl | rfl | rfl | rfl | rfl | rfl | rfl; exact lb _ _; exact lb _ _; exact lb _ _; exact lb _ _; exact b8; exact lb _ _; exact lb _ _) (hK.fr hm.fr (by simp)))) (fun _ => ?_))
  refine DR.c 22 ?_
  refine DOp.op1 rfl (osa (L' := (b5, Obj.cells #[.slice a0 1 k0, .slice a1 1 k1, .slice a2 2 k2, .slice a3 2 k3, .slice (some ⟨b3, 3, none⟩) 8 8, .slice a4 7 k4, .slice a5 1 k5] 90 (0, 0)) :: (bl5 ++ (bl4 ++ (bl3 ++ (bl2 ++ (bl1 ++ (bl0 ++ [(b3, Obj.cells F.toArray 41 (0, 0))]))))))) (arr := ti33.zero.cells) (e := 33) (u8s (digest 121 [le side.toNat 1, le t.kd.toNat 1, le t.fr.toNat 2, le t.tt.toNat 2, t.ou, le t.am.toNat 7, le t.z.toNat 1])).toArray (u8s_one _) (hL := (perm_of fun f => by (simp only [List.map_append, List.map_cons, List.map_nil, List.sum_append, List.sum_cons, List.sum_nil] <;> omega))) (hs := sM)) (fun _ => ?_)
  refine dt 23 ?_
  refine DR.done (by kernel_rfl) ?_
  refine z_ ?_
  exact RQ.ret2 rfl (Res.cellAll tabOk rfl rfl rfl m0 sM) (Res.tmp rfl) fun w' hm => ⟨rfl, hm.fr⟩
set_option maxRecDepth 10000 in set_option maxHeartbeats 4000000 in
theorem RMess_calls (side : Int) (t : SxD) (w : World) : Gives Tryz.prog 12 [.int .i64 side, .agg t.c.toArray] (.tuple #[.agg (u8s (messX side t)).toArray, .bool (decide (mokX side t))]) w := by
  refine enter Tryz.func12 rfl (Mem.nil w []) rfl ?_
  obtain ⟨r0, r1, r2, r11, r12⟩ := sx_rd t
  have hou := sx_ou t
  have hsz : t.c.toArray.size = 293 := t.len
  have cm := fun w' => RMay_calls t w'
  have hm8 := messX_8 side t
  have sM : (u8s (messX side t)).toArray.size = 8 := by rw [List.size_toArray, u8s_len, hm8.1]
  have sO : (u8s t.ou).length = 8 := by rw [u8s_len, t.h8.1]
  have lO : t.ou.length = 8 := t.h8.1
  generalize t.c = F at r0 r1 r2 r11 r12 hou hsz cm
  have hrd : ∀ {S0 : List Nat} {L : Hp} {b : Nat}, (b, Obj.cells F.toArray 41 (0, 0)) ∈ L → Rd w S0 L ⟨b, 3, none⟩ (u8s t.ou) := fun hm => Rd.row hm hou
  have ebad : ¬ mokX side t → messX side t = Z8 := fun h => if_neg h
  refine z_ ?_
  refine Run.nw (nbx) ?_
  intro b3
  refine Run.nw nal ?_
  intro b4
  refine z_ ?_
  refine Run.a (vla (arr := F.toArray) (hv := hsz)) ?_
  refine Run.op1 (OpTo.cv Tryz.func14 (fun w' _ => cm w')) (fun _ => ?_)
  by_cases g2 : maySx t
  case neg =>
    have hno : ¬ mokX side t := fun h => g2 h.1
    rw [decide_eq_false hno, ebad hno, decide_eq_false g2]
    refine z_ ?_
    refine Run.a (vba (u8s Z8).toArray) ?_
    refine Run.op1 (osa (arr := ti33.zero.cells) (u8s Z8).toArray (u8s_one _)) (fun _ => ?_)
    refine z_ ?_
    exact RQ.ret2 rfl (Res.cellAll tabOk rfl rfl rfl m0 rfl) (Res.tmp rfl) fun w' hm => ⟨rfl, hm.fr⟩
  rw [decide_eq_true g2]
  by_cases g3 : 0 ≤ side
  case neg =>
    have hno : ¬ mokX side t := fun h => g3 h.2.1
    rw [decide_eq_false hno, ebad hno]
    refine z_ ?_
    refine Run.a (vba (u8s Z8).toArray) ?_
    refine Run.op1 (osa (arr := ti33.zero.cells) (u8s Z8).toArray (u8s_one _)) (fun _ => ?_)
    refine z_ ?_
    exact RQ.ret2 rfl (Res.cellAll tabOk rfl rfl rfl m0 rfl) (Res.tmp rfl) fun w' hm => ⟨rfl, hm.fr⟩
  by_cases g4 : side < 8
  case neg =>
    have hno : ¬ mokX side t := fun h => g4 h.2.2
    rw [decide_eq_false hno, ebad hno]
    refine z_ ?_
    refine Run.a (vba (u8s Z8).toArray) ?_
    refine Run.op1 (osa (arr := ti33.zero.cells) (u8s Z8).toArray (u8s_one _)) (fun _ => ?_)
    refine z_ ?_
    exact RQ.ret2 rfl (Res.cellAll tabOk rfl rfl rfl m0 rfl) (Res.tmp rfl) fun w' hm => ⟨rfl, hm.fr⟩
  have hyes : mokX side t := ⟨g2, g3, g4⟩
  have g1 : 0 ≤ side ∧ side ≤ 7 := by omega
  rw [decide_eq_true hyes]
  have em : messX side t = digest 121 [le side.toNat 1, le t.kd.toNat 1, le t.fr.toNat 2, le t.tt.toNat 2, t.ou, le t.am.toNat 7, le t.z.toNat 1] := if_pos hyes
  rw [em] at sM ⊢
  clear em ebad hm8
  obtain ⟨⟨hfr, ham, hz⟩, hk⟩ := g2
  have hkd : 0 ≤ t.kd := by rcases hk with h | h <;> omega
  have htt : 0 ≤ t.tt := by rcases hk with h | h <;> omega
  have b8 : ∀ x ∈ t.ou, x < 256 := t.h8.2
  refine z_ ?_
  (repeat refine RC.seq ?_); refine RC.draw ([(b3, Obj.cells F.toArray 41 (0, 0))]) mixed (N := 24) rfl ?_
  refine dt 0 ?_
  refine dt 2 ?_
  refine DR.t 3 rfl (vl (.int .i64 t.kd) (hm := (by repeat (first | exact List.mem_cons_self | apply List.mem_cons_of_mem | apply List.mem_append_right))) (hv := r0)) ?_
  refine dt 5 ?_
  refine DR.t 6 rfl (vl (.int .i64 t.fr) (hm := (by repeat (first | exact List.mem_cons_self | apply List.mem_cons_of_mem | apply List.mem_append_right))) (hv := r1)) ?_
  refine dt 8 ?_
  refine DR.t 9 rfl (vl (.int .i64 t.tt) (hm := (by repeat (first | exact List.mem_cons_self | apply List.mem_cons_of_mem | apply List.mem_append_right))) (hv := r2)) ?_
  refine dt 11 ?_
  refine DR.t 12 rfl (Val.sliceA tabOk rfl rfl rfl rfl rfl) ?_
  refine dt 13 ?_
  refine DR.t 14 rfl (vl (.int .i64 t.am) (hm := (by repeat (first | exact List.mem_cons_self | apply List.mem_cons_of_mem | apply List.mem_append_right))) (hv := r11)) ?_
  refine dt 16 ?_
  refine dt 17 ?_
  refine DR.t 18 rfl (vl (.int .i64 t.z) (hm := (by repeat (first | exact List.mem_cons_self | apply List.mem_cons_of_mem | apply List.mem_append_right))) (hv := r12)) ?_
  refine DR.c 1 (DOp.op1 rfl (OpTo.callMk Tryz.func44 rfl rfl rfl rfl rfl rfl (fun w' hm => NumI_calls side g1.1 1 (by decide) w')) ?_)
  rintro ⟨⟨v0, bl0⟩, hw0⟩
  dsimp only at hw0 ⊢
  refine DR.c 4 (DOp.op1 rfl (OpTo.callMk Tryz.func44 rfl rfl rfl rfl rfl rfl (fun w' hm => NumI_calls t.kd hkd 1 (by decide) w')) ?_)
  rintro ⟨⟨v1, bl1⟩, hw1⟩
  dsimp only at hw1 ⊢
  refine DR.c 7 (DOp.op1 rfl (OpTo.callMk Tryz.func44 rfl rfl rfl rfl rfl rfl (fun w' hm => NumI_calls t.fr hfr.1 2 (by decide) w')) ?_)
  rintro ⟨⟨v2, bl2⟩, hw2⟩
  dsimp only at hw2 ⊢
  refine DR.c 10 (DOp.op1 rfl (OpTo.callMk Tryz.func44 rfl rfl rfl rfl rfl rfl (fun w' hm => NumI_calls t.tt htt 2 (by decide) w')) ?_)
  rintro ⟨⟨v3, bl3⟩, hw3⟩
  dsimp only at hw3 ⊢
  refine DR.c 15 (DOp.op1 rfl (OpTo.callMk Tryz.func44 rfl rfl rfl rfl rfl rfl (fun w' hm => NumI_calls t.am (by omega) 7 (by decide) w')) ?_)
  rintro ⟨⟨v4, bl4⟩, hw4⟩
  dsimp only at hw4 ⊢
  refine DR.c 19 (DOp.op1 rfl (OpTo.callMk Tryz.func44 rfl rfl rfl rfl rfl rfl (fun w' hm => NumI_calls t.z hz.1 1 (by decide) w')) ?_)
  rintro ⟨⟨v5, bl5⟩, hw5⟩
  dsimp only at hw5 ⊢
  obtain ⟨a0, k0, rfl, hk0⟩ := hw0.shape
  obtain ⟨a1, k1, rfl, hk1⟩ := hw1.shape
  obtain ⟨a2, k2, rfl, hk2⟩ := hw2.shape
  obtain ⟨a3, k3, rfl, hk3⟩ := hw3.shape
  obtain ⟨a4, k4, rfl, hk4⟩ := hw4.shape
  obtain ⟨a5, k5, rfl, hk5⟩ := hw5.shape
  have ln : ∀ n k, (le n k).length = k := le_len
  have lb : ∀ n k, ∀ x ∈ le n k, x < 256 := fun n k => by rw [← leI_nat]; exact leI_lt _ _
  refine DR.c 20 ?_
  refine DOp.op1 rfl (OpTo.new rfl rfl (nbsl (parts := [(0, .tmp 19), (1, .tmp 22), (2, .tmp 25), (3, .tmp 28), (4, .tmp 30), (5, .tmp 33), (6, .tmp 37)]) #[.slice a0 1 k0, .slice a1 1 k1, .slice a2 2 k2, .slice a3 2 k3, .slice (some ⟨b3, 3, none⟩) 8 8, .slice a4 7 k4, .slice a5 1 k5] (by kernel_rfl))) ?_
  intro b5
  refine DR.c 21 (DOp.op1 rfl (OpTo.cv Tryz.func43 (fun w' hm => Digest_calls 121 (by decide) _ [.slice a0 1 k0, .slice a1 1 k1, .slice a2 2 k2, .slice a3 2 k3, .slice (some ⟨b3, 3, none⟩) 8 8, .slice a4 7 k4, .slice a5 1 k5] [le side.toNat 1, le t.kd.toNat 1, le t.fr.toNat 2, le t.tt.toNat 2, t.ou, le t.am.toNat 7, le t.z.toNat 1] w' (SrcW.row hm m0 rfl (Nat.le_refl 7)) (parts7 (by rw [ln]; exact hw0.srcW (fun p hp => hm.has p (by repeat (first | exact List.mem_append_left _ hp | apply List.mem_cons_of_mem | apply List.mem_append_right)))) (by rw [ln]; exact hw1.srcW (fun p hp => hm.has p (by repeat (first | exact List.mem_append_left _ hp | apply List.mem_cons_of_mem | apply List.mem_append_right)))) (by rw [ln]; exact hw2.srcW (fun p hp => hm.has p (by repeat (first | exact List.mem_append_left _ hp | apply List.mem_cons_of_mem | apply List.mem_append_right)))) (by rw [ln]; exact hw3.srcW (fun p hp => hm.has p (by repeat (first | exact List.mem_append_left _ hp | apply List.mem_cons_of_mem | apply List.mem_append_right)))) (by rw [lO]; exact .at _ _ _ _ (by rw [sO]) (Nat.le_refl _) (fun j u hj => hrd (by repeat (first | exact List.mem_cons_self | apply List.mem_cons_of_mem | apply List.mem_append_right)) w' hm j u hj)) (by rw [ln]; exact hw4.srcW (fun p hp => hm.has p (by repeat (first | exact List.mem_append_left _ hp | apply List.mem_cons_of_mem | apply List.mem_append_right)))) (by rw [ln]; exact hw5.srcW (fun p hp => hm.has p (by repeat (first | exact List.mem_append_left _ hp | apply List.mem_cons_of_mem | apply List.mem_append_right))))) (by simp [tot, ln, lO]) (by intro l hl; simp only [List.mem_cons, List.not_mem_nil, or_false] at hl; rcases hl with rfl | rfl | rfl | rfl | rfl | rfl | rfl; exact lb _ _; exact lb _ _; exact lb _ _; exact lb _ _; exact b8; exact lb _ _; exact lb _ _))) (fun _ => ?_))
  refine DR.c 22 ?_
  refine DOp.op1 rfl (osa (L' := (b5, Obj.cells #[.slice a0 1 k0, .slice a1 1 k1, .slice a2 2 k2, .slice a3 2 k3, .slice (some ⟨b3, 3, none⟩) 8 8, .slice a4 7 k4, .slice a5 1 k5] 90 (0, 0)) :: (bl5 ++ (bl4 ++ (bl3 ++ (bl2 ++ (bl1 ++ (bl0 ++ [(b3, Obj.cells F.toArray 41 (0, 0))]))))))) (arr := ti33.zero.cells) (e := 33) (u8s (digest 121 [le side.toNat 1, le t.kd.toNat 1, le t.fr.toNat 2, le t.tt.toNat 2, t.ou, le t.am.toNat 7, le t.z.toNat 1])).toArray (u8s_one _) (hL := (perm_of fun f => by (simp only [List.map_append, List.map_cons, List.map_nil, List.sum_append, List.sum_cons, List.sum_nil] <;> omega))) (hs := sM)) (fun _ => ?_)
  refine dt 23 ?_
  refine DR.done (by kernel_rfl) ?_
  refine z_ ?_
  exact RQ.ret2 rfl (Res.cellAll tabOk rfl rfl rfl m0 sM) (Res.tmp rfl) fun w' hm => ⟨rfl, hm.fr⟩
end Go.Proofs.YtfhdfpejjgmdcaaGreatDoor

/- account: wrong. -/
namespace Go.Proofs.YtfhdfpejjgmdcaaGreatDoor
attribute [local irreducible] Go.Vc.Run Go.Vc.RC Go.Vc.RQ Go.Vc.DR Go.Vc.DOp
open Go Go.Vc Go.Sha
theorem sx_sg (t : SxD) : ∀ j u, (sigC t.z t.op t.sh t.pa)[j]? = some u → t.c.toArray[12 + j]? = some u := by
  intro j u hj
  rw [List.getElem?_toArray]
  unfold SxD.c sxC
  rw [show 12 + j = (9 + j) + 1 + 1 + 1 by omega, List.getElem?_cons_succ, List.getElem?_cons_succ, List.getElem?_cons_succ, List.getElem?_append_right (by rw [u8s_len, t.h8.1]; omega), u8s_len, t.h8.1, show 9 + j - 8 = j + 1 by omega, List.getElem?_cons_succ]
  exact hj
def amO : Option AcD → Int
  | some a => a.am
  | none => 0
def noO : Option AcD → Int
  | some a => a.no
  | none => 0
def owO : Option AcD → List Nat
  | some a => a.o
  | none => Z8
theorem owO_8 (a : Option AcD) : H8 (owO a) := by
  cases a with
  | none => exact H8.z
  | some a => exact a.h8
theorem acO (a : Option AcD) : acCells a = acC (owO a) (amO a) (noO a) := by cases a <;> rfl
theorem ac_rd {o : List Nat} (h : o.length = 8) (am no : Int) : rdAt ti3 (acC o am no).toArray 8 = some (.int .i64 am) ∧ rdAt ti3 (acC o am no).toArray 9 = some (.int .i64 no) := by
  obtain ⟨o0, o1, o2, o3, o4, o5, o6, o7, rfl⟩ := len8 h
  exact ⟨rfl, rfl⟩
theorem erX_may {s : LS} {t : SxD} (h : maySx t) : erX s t = (match acGet t.fr s.acs with
  | none => 19
  | some f => if t.kd = 1 ∧ (acGet t.tt s.acs).isNone then 19
    else if t.z ≠ f.no then 13
    else if ¬ (mokX s.side t ∧ checkT f.o (messX s.side t) t.z t.op t.sh t.pa = true) then 7
    else if t.am > f.am ∨ t.kd = 1 ∧ toAm s t + t.am > maxM then 5
    else if t.kd ≠ 1 ∧ s.out.length ≥ 16 then 18 else 0) := by
  unfold erX
  rw [if_neg (fun h' => h' h)]
  cases acGet t.fr s.acs <;> rfl
set_option maxRecDepth 10000 in set_option maxHeartbeats 4000000 in
theorem Awrong_calls {ab : Nat} (y : AlP ab) (t : SxD) (hmay : maySx t) (w : World) (hw : Has y.L w) (hK : Laid w) :
    Gives Tryz.prog 46 [.pointer (some ⟨ab, 0, none⟩), .agg t.c.toArray] (.int .i64 (erX y.s t)) w := by
  refine enter Tryz.func46 rfl (Mem.nil w []) rfl ?_
  obtain ⟨r0, r1, r2, r11, r12⟩ := sx_rd t
  have hsg := sx_sg t
  have hsz : t.c.toArray.size = 293 := t.len
  have cmess := fun w' hK' => AMess_calls y.s.side t w' hK'
  have hc0 := y.cell hw 0
  change w.cell? ⟨ab, 0, none⟩ = some (.int .i64 y.s.side) at hc0
  have hc1 := y.cell hw 1
  change w.cell? ⟨ab, 1, none⟩ = some (.map (some y.kb)) at hc1
  have hc3 := y.cell hw 3
  change w.cell? ⟨ab, 3, none⟩ = some y.vO at hc3
  obtain ⟨aO, cO, evO, hcO⟩ := y.hO.shape
  rw [evO] at hc3
  have hmp := y.map hw
  have hd1 := ac_getD (i := t.fr) y.he
  have hd2 := ac_getD (i := t.tt) y.he
  have z1 := acCells_len (acGet t.fr y.s.acs)
  have n1 := acCells_one (acGet t.fr y.s.acs)
  have z2 := acCells_len (acGet t.tt y.s.acs)
  have n2 := acCells_one (acGet t.tt y.s.acs)
  have er := erX_may (s := y.s) hmay
  generalize t.c = F at r0 r1 r2 r11 r12 hsg hsz cmess
  have hrd : ∀ {S0 : List Nat} {L : Hp} {b : Nat}, (b, Obj.cells F.toArray 41 (0, 0)) ∈ L → Rd w S0 L ⟨b, 12, none⟩ (sigC t.z t.op t.sh t.pa) := fun hm => Rd.row hm hsg
  refine z_ ?_
  refine Run.nw (nbx) ?_
  intro b3
  refine z_ ?_
  (repeat refine RC.seq ?_); refine RC.drawS mixed (N := 13) rfl ?_
  refine dt 0 ?_
  refine dt 1 ?_
  refine dt 2 ?_
  refine DR.t 3 rfl (vlo hc1) ?_
  refine dt 4 ?_
  refine DR.t 5 rfl (vl (.int .i64 t.fr) (hm := (by repeat (first | exact List.mem_cons_self | apply List.mem_cons_of_mem | apply List.mem_append_right))) (hv := r1)) ?_
  refine DR.t 6 rfl (Val.eq (Val.lookupX (k := t.fr) (es := y.es) (clock := y.clock) (ok := true) acTy rfl rfl rfl (fun w' hm => hm.old hmp)) (show _ = Value.tuple #[.agg (acCells (acGet t.fr y.s.acs)).toArray, .bool (acGet t.fr y.s.acs).isSome] from by rw [if_pos rfl, hd1.1, hd1.2])) ?_
  refine dt 7 ?_
  refine dt 8 ?_
  refine dt 9 ?_
  refine DR.c 10 ?_
  refine DOp.op1 rfl (OpTo.new rfl rfl (nal)) ?_
  intro b5
  refine DR.c 11 ?_
  refine DOp.op1 rfl (osa (acCells (acGet t.fr y.s.acs)).toArray n1 (hs := z1) (hf := by kernel_rfl)) (fun _ => ?_)
  refine DR.c 12 ?_
  refine DOp.vl rfl (Val.of rfl) ?_
  refine DR.done (by kernel_rfl) ?_
  refine z_ ?_
  (repeat refine RC.seq ?_); refine RC.drawS mixed (N := 13) rfl ?_
  refine dt 0 ?_
  refine dt 1 ?_
  refine dt 2 ?_
  refine DR.t 3 rfl (vlo hc1) ?_
  refine dt 4 ?_
  refine DR.t 5 rfl (vl (.int .i64 t.tt) (hm := (by repeat (first | exact List.mem_cons_self | apply List.mem_cons_of_mem | apply List.mem_append_right))) (hv := r2)) ?_
  refine DR.t 6 rfl (Val.eq (Val.lookupX (k := t.tt) (es := y.es) (clock := y.clock) (ok := true) acTy rfl rfl rfl (fun w' hm => hm.old hmp)) (show _ = Value.tuple #[.agg (acCells (acGet t.tt y.s.acs)).toArray, .bool (acGet t.tt y.s.acs).isSome] from by rw [if_pos rfl, hd2.1, hd2.2])) ?_
  refine dt 7 ?_
  refine dt 8 ?_
  refine dt 9 ?_
  refine DR.c 10 ?_
  refine DOp.op1 rfl (OpTo.new rfl rfl (nal)) ?_
  intro b7
  refine DR.c 11 ?_
  refine DOp.op1 rfl (osa (acCells (acGet t.tt y.s.acs)).toArray n2 (hs := z2) (hf := by kernel_rfl)) (fun _ => ?_)
  refine DR.c 12 ?_
  refine DOp.vl rfl (Val.of rfl) ?_
  refine DR.done (by kernel_rfl) ?_
  rw [er, show toAm y.s t = amO (acGet t.tt y.s.acs) from by unfold toAm; cases acGet t.tt y.s.acs <;> rfl]
  clear er hd1 hd2 z1 z2 n1 n2
  have g1 := fun {a : AcD} (h : acGet t.fr y.s.acs = some a) => y.ok.am _ (acGet_in h)
  have g2 := fun {a : AcD} (h : acGet t.tt y.s.acs = some a) => y.ok.am _ (acGet_in h)
  dsimp only at g1 g2
  generalize acGet t.fr y.s.acs = A at g1 ⊢
  generalize acGet t.tt y.s.acs = B at g2 ⊢
  refine z_ ?_
  refine Run.a (vl (.int .i64 t.kd) (hm := (by repeat (first | exact List.mem_cons_self | apply List.mem_cons_of_mem | apply List.mem_append_right))) (hv := r0)) ?_
  obtain ⟨kq, hkq⟩ : ∃ kq : Bool, kq = decide (t.kd = 1) := ⟨_, rfl⟩
  refine Run.a (Val.eq (Val.of rfl) (show _ = Value.bool kq from congrArg Value.bool (by rw [hkq]; rfl))) ?_
  refine Run.a (Val.of rfl) ?_
  refine Run.nil (RQ.next ?_)
  cases A with
  | none =>
    refine z_ ?_
    exact RQ.ret1 rfl (Res.tmp rfl) fun w' hm => ⟨rfl, hm.fr⟩
  | some f =>
  have f1 := g1 rfl
  clear g1
  obtain ⟨c8, c9⟩ := ac_rd f.h8.1 f.am f.no
  have hof : ∀ {S0 : List Nat} {L : Hp} {b : Nat}, (b, Obj.cells (acC f.o f.am f.no).toArray 79 (0, 0)) ∈ L → Rd w S0 L ⟨b, 0, none⟩ (u8s f.o) := fun hm => Rd.row hm (fun j u hj => by
    rw [Nat.zero_add, List.getElem?_toArray]
    unfold acC
    rw [List.getElem?_append_left (List.getElem?_eq_some_iff.1 hj).1]
    exact hj)
  have sof : (u8s f.o).length = 8 := by rw [u8s_len, f.h8.1]
  rw [show acCells (some f) = acC f.o f.am f.no from rfl]
  dsimp only
  by_cases hc : t.kd = 1 ∧ B.isNone = true
  · rw [if_pos hc]
    have hk : kq = true := by rw [hkq]; exact decide_eq_true hc.1
    rw [hk]
    cases B with
    | some b => cases hc.2
    | none =>
      refine z_ ?_
      exact RQ.ret1 rfl (Res.tmp rfl) fun w' hm => ⟨rfl, hm.fr⟩
  rw [if_neg hc]
  have hkB : kq = true → B.isSome = true := fun h => by
    cases B with
    | some b => rfl
    | none => exact absurd ⟨of_decide_eq_true (hkq.symm.trans h), rfl⟩ hc
  by_cases hz : t.z = f.no
  case neg =>
    rw [if_pos hz]
    cases kq with
    | false =>
      refine z_ ?_
      refine Run.a (vl (.int .i64 t.z) (hm := (by repeat (first | exact List.mem_cons_self | apply List.mem_cons_of_mem | apply List.mem_append_right))) (hv := r12)) ?_
      refine z_ ?_
      refine Run.a (vl (.int .i64 f.no) (hm := (by repeat (first | exact List.mem_cons_self | apply List.mem_cons_of_mem | apply List.mem_append_right))) (hv := c9)) ?_
      refine z_ ?_
      exact RQ.ret1 rfl (Res.tmp rfl) fun w' hm => ⟨rfl, hm.fr⟩
    | true =>
      rw [hkB rfl]
      refine z_ ?_
      refine Run.a (vl (.int .i64 t.z) (hm := (by repeat (first | exact List.mem_cons_self | apply List.mem_cons_of_mem | apply List.mem_append_right))) (hv := r12)) ?_
      refine z_ ?_
      refine Run.a (vl (.int .i64 f.no) (hm := (by repeat (first | exact List.mem_cons_self | apply List.mem_cons_of_mem | apply List.mem_append_right))) (hv := c9)) ?_
      refine z_ ?_
      exact RQ.ret1 rfl (Res.tmp rfl) fun w' hm => ⟨rfl, hm.fr⟩
  rw [if_neg (fun h => h hz)]
  refine RC.seq ?_
  refine RC.thenCut (Y := Unit) (fun _ => [(9, .bool kq), (7, .pointer (some ⟨b7, 0, none⟩)), (5, .pointer (some ⟨b5, 0, none⟩)), (3, .pointer (some ⟨b3, 0, none⟩)), (0, .pointer (some ⟨ab, 0, none⟩))]) (fun _ => [(b7, Obj.cells (acCells B).toArray 79 (0, 0)), (b5, Obj.cells (acC f.o f.am f.no).toArray 79 (0, 0)), (b3, Obj.cells F.toArray 41 (0, 0))]) ?_ (fun _ => ?_)
  · cases kq with
    | false =>
      refine z_ ?_
      refine Run.a (vl (.int .i64 t.z) (hm := (by repeat (first | exact List.mem_cons_self | apply List.mem_cons_of_mem | apply List.mem_append_right))) (hv := r12)) ?_
      refine z_ ?_
      refine Run.a (vl (.int .i64 f.no) (hm := (by repeat (first | exact List.mem_cons_self | apply List.mem_cons_of_mem | apply List.mem_append_right))) (hv := c9)) ?_
      refine z_ ?_
      exact RQ.toP () ⟨rfl, rfl, rfl, rfl, rfl, trivial⟩ (List.Perm.refl _) (List.Sublist.refl _)
    | true =>
      rw [hkB rfl]
      refine z_ ?_
      refine Run.a (vl (.int .i64 t.z) (hm := (by repeat (first | exact List.mem_cons_self | apply List.mem_cons_of_mem | apply List.mem_append_right))) (hv := r12)) ?_
      refine z_ ?_
      refine Run.a (vl (.int .i64 f.no) (hm := (by repeat (first | exact List.mem_cons_self | apply List.mem_cons_of_mem | apply List.mem_append_right))) (hv := c9)) ?_
      refine z_ ?_
      exact RQ.toP () ⟨rfl, rfl, rfl, rfl, rfl, trivial⟩ (List.Perm.refl _) (List.Sublist.refl _)
  have hm8 := messX_8 y.s.side t
  have sM : (u8s (messX y.s.side t)).toArray.size = 8 := by rw [List.size_toArray, u8s_len, hm8.1]
  refine RC.seq ?_
  refine RC.thenCut (Y := Nat) (fun b10 => [(10, .pointer (some ⟨b10, 0, none⟩)), (6, .bool (decide (mokX y.s.side t))), (9, .bool kq), (7, .pointer (some ⟨b7, 0, none⟩)), (5, .pointer (some ⟨b5, 0, none⟩)), (3, .pointer (some ⟨b3, 0, none⟩)), (0, .pointer (some ⟨ab, 0, none⟩))]) (fun b10 => (b10, Obj.cells (u8s (messX y.s.side t)).toArray 33 (0, 0)) :: [(b7, Obj.cells (acCells B).toArray 79 (0, 0)), (b5, Obj.cells (acC f.o f.am f.no).toArray 79 (0, 0)), (b3, Obj.cells F.toArray 41 (0, 0))]) ?_ (fun b10 => ?_)
  · (repeat refine RC.seq ?_); refine RC.draw ([(b7, Obj.cells (acCells B).toArray 79 (0, 0)), (b5, Obj.cells (acC f.o f.am f.no).toArray 79 (0, 0)), (b3, Obj.cells F.toArray 41 (0, 0))]) mixed (N := 12) rfl ?_
    refine dt 0 ?_
    refine dt 1 ?_
    refine dt 2 ?_
    refine DR.t 3 rfl (vlo hc0) ?_
    refine DR.t 4 rfl (vla (arr := F.toArray) (hv := hsz) (hm := (by repeat (first | exact List.mem_cons_self | apply List.mem_cons_of_mem | apply List.mem_append_right)))) ?_
    refine DR.two (i := 5) (j := 9) (by kernel_rfl) ?_ ?_
    · refine DOp.op1 rfl (OpTo.cv Tryz.func11 (fun w' hm => cmess w' (hK.fr hm.fr (by simp)))) (fun _ => ?_)
      refine dt 6 ?_
      refine dt 7 ?_
      refine dt 8 ?_
      refine DR.c 9 ?_
      refine DOp.op1 rfl (OpTo.new rfl rfl (nal)) ?_
      intro b10
      refine DR.c 10 ?_
      refine DOp.op1 rfl (osa (L' := [(b7, Obj.cells (acCells B).toArray 79 (0, 0)), (b5, Obj.cells (acC f.o f.am f.no).toArray 79 (0, 0)), (b3, Obj.cells F.toArray 41 (0, 0))]) (arr := ti33.zero.cells) (u8s (messX y.s.side t)).toArray (u8s_one _) (hs := sM)) (fun _ => ?_)
      refine dt 11 ?_
      refine DR.done (by kernel_rfl) ?_
      exact RQ.toP b10 ⟨rfl, rfl, rfl, rfl, rfl, rfl, rfl, trivial⟩ (List.Perm.refl _) (List.Sublist.refl _)
    · refine DOp.op1 rfl (OpTo.new rfl rfl (nal)) ?_
      intro b10
      refine DR.c 5 (DOp.op1 rfl (OpTo.cv Tryz.func11 (fun w' hm => cmess w' (hK.fr hm.fr (by simp)))) (fun _ => ?_))
      refine dt 6 ?_
      refine dt 7 ?_
      refine dt 8 ?_
      refine DR.c 10 ?_
      refine DOp.op1 rfl (osa (L' := [(b7, Obj.cells (acCells B).toArray 79 (0, 0)), (b5, Obj.cells (acC f.o f.am f.no).toArray 79 (0, 0)), (b3, Obj.cells F.toArray 41 (0, 0))]) (arr := ti33.zero.cells) (u8s (messX y.s.side t)).toArray (u8s_one _) (hs := sM)) (fun _ => ?_)
      refine dt 11 ?_
      refine DR.done (by kernel_rfl) ?_
      exact RQ.toP b10 ⟨rfl, rfl, rfl, rfl, rfl, rfl, rfl, trivial⟩ (List.Perm.refl _) (List.Sublist.refl _)
  by_cases hmk : mokX y.s.side t
  case neg =>
    rw [decide_eq_false hmk, if_pos (fun h => hmk h.1)]
    refine z_ ?_
    exact RQ.ret1 rfl (Res.tmp rfl) fun w' hm => ⟨rfl, hm.fr⟩
  rw [decide_eq_true hmk]
  have ssg : (sigC t.z t.op t.sh t.pa).length = 281 := by
    unfold sigC
    simp only [List.length_cons, List.length_append, u8s_len, t.h1.1, t.h2.1, t.h3.1]
  have ck := fun w' hK' => KCheck_calls f.o (messX y.s.side t) t.z t.op t.sh t.pa f.h8.1 hm8.1 hm8.2 t.h1.1 t.h1.2 t.h2.1 t.h2.2 t.h3.1 t.h3.2 w' hK'
  generalize messX y.s.side t = M at hm8 sM ck ⊢
  generalize hck : checkT f.o M t.z t.op t.sh t.pa = qk at ck ⊢
  refine z_ ?_
  refine Run.a (Val.loadR tabOk (cs := u8s f.o) rfl rfl rfl rfl sof (hof (by repeat (first | exact List.mem_cons_self | apply List.mem_cons_of_mem | apply List.mem_append_right)))) ?_
  refine Run.a (vla (arr := (u8s M).toArray) (hv := sM) (hm := (by repeat (first | exact List.mem_cons_self | apply List.mem_cons_of_mem | apply List.mem_append_right)))) ?_
  refine z_ ?_
  refine Run.a (Val.loadR tabOk (cs := sigC t.z t.op t.sh t.pa) rfl rfl rfl rfl ssg (hrd (by repeat (first | exact List.mem_cons_self | apply List.mem_cons_of_mem | apply List.mem_append_right)))) ?_
  refine Run.op1 (OpTo.cv Tryz.func70 (fun w' hm => ck w' (hK.fr hm.fr (by simp)))) (fun _ => ?_)
  cases qk with
  | false =>
    rw [if_pos (fun h => by cases h.2)]
    refine z_ ?_
    exact RQ.ret1 rfl (Res.tmp rfl) fun w' hm => ⟨rfl, hm.fr⟩
  | true =>
  rw [if_neg (fun h => h ⟨hmk, rfl⟩)]
  have hta := hmay.1.2.1
  unfold maxM at f1 hta
  have cs1 := fun w' => MSub_calls f.am t.am (by omega) w'
  have hB : 0 ≤ amO B ∧ amO B ≤ maxM := by
    cases B with
    | none => unfold maxM; show (0 : Int) ≤ 0 ∧ (0 : Int) ≤ _; omega
    | some b => exact g2 rfl
  have cs2 := fun w' => MAddW_calls (amO B) t.am w'
  rw [addOk hB] at cs2
  have eS : bothM f.am t.am (f.am - t.am) = decide (t.am ≤ f.am) := by
    unfold bothM mayM maxM
    rw [decide_eq_true (by omega), decide_eq_true (by omega)]
    exact decide_eq_decide.2 (by omega)
  rw [eS] at cs1
  have eA : decide (0 ≤ t.am ∧ t.am ≤ maxM ∧ amO B + t.am ≤ maxM) = decide (amO B + t.am ≤ maxM) := decide_eq_decide.2 ⟨fun h => h.2.2, fun h => ⟨by omega, by unfold maxM; omega, h⟩⟩
  rw [eA] at cs2
  obtain ⟨d8, d9⟩ := ac_rd (owO_8 B).1 (amO B) (noO B)
  rw [← acO B] at d8
  refine z_ ?_
  refine Run.a (vl (.int .i64 f.am) (hm := (by repeat (first | exact List.mem_cons_self | apply List.mem_cons_of_mem | apply List.mem_append_right))) (hv := c8)) ?_
  refine z_ ?_
  refine Run.a (vl (.int .i64 t.am) (hm := (by repeat (first | exact List.mem_cons_self | apply List.mem_cons_of_mem | apply List.mem_append_right))) (hv := r11)) ?_
  refine Run.op1 (OpTo.cv Tryz.func71 (fun w' _ => cs1 w')) (fun _ => ?_)
  refine z_ ?_
  refine Run.a (vl (.int .i64 (amO B)) (hm := (by repeat (first | exact List.mem_cons_self | apply List.mem_cons_of_mem | apply List.mem_append_right))) (hv := d8)) ?_
  refine z_ ?_
  refine Run.a (vl (.int .i64 t.am) (hm := (by repeat (first | exact List.mem_cons_self | apply List.mem_cons_of_mem | apply List.mem_append_right))) (hv := r11)) ?_
  refine Run.op1 (OpTo.cv Tryz.func34 (fun w' _ => cs2 w')) (fun _ => ?_)
  by_cases h5 : t.am > f.am ∨ t.kd = 1 ∧ amO B + t.am > maxM
  · rw [if_pos h5]
    by_cases h6 : t.am ≤ f.am
    · have h7 := h5.resolve_left (by omega)
      rw [decide_eq_true h6, decide_eq_false (show ¬ amO B + t.am ≤ maxM by omega), show kq = true from by rw [hkq]; exact decide_eq_true h7.1]
      refine z_ ?_
      exact RQ.ret1 rfl (Res.tmp rfl) fun w' hm => ⟨rfl, hm.fr⟩
    · rw [decide_eq_false h6]
      refine z_ ?_
      exact RQ.ret1 rfl (Res.tmp rfl) fun w' hm => ⟨rfl, hm.fr⟩
  rw [if_neg h5, decide_eq_true (show t.am ≤ f.am by omega)]
  by_cases h6 : t.kd = 1
  · rw [if_neg (fun h => h.1 h6), decide_eq_true (show amO B + t.am ≤ maxM by omega), show kq = true from by rw [hkq]; exact decide_eq_true h6]
    refine z_ ?_
    exact RQ.ret1 rfl (Res.tmp rfl) fun w' hm => ⟨rfl, hm.fr⟩
  · rw [show kq = false from by rw [hkq]; exact decide_eq_false h6]
    by_cases h7 : y.s.out.length ≥ 16
    · rw [if_pos ⟨h6, h7⟩]
      refine z_ ?_
      refine Run.a (vlo hc3) ?_
      refine z_ ?_
      exact RQ.ret1 rfl (Res.tmp rfl) fun w' hm => ⟨rfl, hm.fr⟩
    · rw [if_neg (fun h => h7 h.2)]
      refine z_ ?_
      refine Run.a (vlo hc3) ?_
      refine z_ ?_
      exact RQ.ret1 rfl (Res.tmp rfl) fun w' hm => ⟨rfl, hm.fr⟩
end Go.Proofs.YtfhdfpejjgmdcaaGreatDoor

/- account: Do. -/
namespace Go.Proofs.YtfhdfpejjgmdcaaGreatDoor
attribute [local irreducible] Go.Vc.Run Go.Vc.RC Go.Vc.RQ Go.Vc.DR Go.Vc.DOp
open Go Go.Vc Go.Sha
theorem fresh_idsS {w w' : World} {S0 : List Nat} {L L1 : Hp} (hK : Laid w) (hS : 0 ∉ S0) (hm : Mem w S0 L w') (hs : ∀ p ∈ L1, p ∈ L) : 0 ∉ L1.map (·.1) := by
  intro h
  obtain ⟨p, hp, e⟩ := List.mem_map.1 h
  have hgl : 0 < w.heap.size := World.block_lt_of_cell? w ⟨0, 0, none⟩ (hK 0 (by decide))
  rcases hm.own p (hs p hp) with h1 | h1
  · rw [e] at h1; omega
  · rw [e] at h1; exact hS h1
theorem ac_wr {o : List Nat} (h : o.length = 8) (am no x : Int) : wrAt (acC o am no).toArray 8 (Value.cells (.int .i64 x)).toList = (acC o x no).toArray ∧ wrAt (acC o am no).toArray 9 (Value.cells (.int .i64 x)).toList = (acC o am x).toArray ∧ (acC o am no).toArray.size = 10 := by
  obtain ⟨o0, o1, o2, o3, o4, o5, o6, o7, rfl⟩ := len8 h
  exact ⟨rfl, rfl, rfl⟩
abbrev DoY (ab : Nat) (s : LS) := {z : AlP ab // z.s = s}
set_option maxRecDepth 10000 in set_option maxHeartbeats 4000000 in
theorem ADo_calls {ab : Nat} (y : AlP ab) (t : SxD) (w : World) (hw : Has y.L w) (hnd : (y.L.map (·.1)).Nodup) (hK : Laid w) (hst : 0 ∉ y.L.map (·.1)) :
    Turns Tryz.prog 15 [.pointer (some ⟨ab, 0, none⟩), .agg t.c.toArray] w y.L (Y := DoY ab (doX y.s t)) (fun _ => .int .i64 (erX y.s t)) (fun z => z.1.L) := by
  refine enter Tryz.func15 rfl (Mem.init (S0 := y.L.map (·.1)) hw (fun p hp => List.mem_map_of_mem hp) hnd) rfl ?_
  obtain ⟨r0, r1, r2, r11, r12⟩ := sx_rd t
  have hou := sx_ou t
  have hsz : t.c.toArray.size = 293 := t.len
  have cm := fun w' => AMay_calls t w'
  have cw := fun hmay w' hw' hK' => Awrong_calls y t hmay w' hw' hK'
  generalize t.c = F at r0 r1 r2 r11 r12 hou hsz cm cw
  have hrd : ∀ {S0 : List Nat} {L : Hp} {b : Nat}, (b, Obj.cells F.toArray 41 (0, 0)) ∈ L → Rd w S0 L ⟨b, 3, none⟩ (u8s t.ou) := fun hm => Rd.row hm hou
  have hsame : erX y.s t ≠ 0 → doX y.s t = y.s := fun h => if_pos h
  refine z_ ?_
  refine Run.nw (nbx) ?_
  intro b3
  have hmade := fun {S0 : List Nat} {w' : World} (hm : Mem w S0 ((b3, Obj.cells F.toArray 41 (0, 0)) :: y.L) w') => made_calls y w' (fun q hq => hm.has q (List.mem_cons_of_mem _ hq))
  refine z_ ?_
  refine Run.op1 (OpTo.cv Tryz.func31 (fun w' hm => hmade hm)) (fun _ => ?_)
  refine z_ ?_
  refine Run.a (vla (arr := F.toArray) (hv := hsz)) ?_
  refine Run.op1 (OpTo.cv Tryz.func13 (fun w' _ => cm w')) (fun _ => ?_)
  by_cases hmay : maySx t
  case neg =>
    have e4 : erX y.s t = 4 := if_pos hmay
    rw [decide_eq_false hmay, hsame (by rw [e4]; decide), e4]
    refine z_ ?_
    exact RQ.ret1 rfl (Res.tmp rfl) fun w' hm => Turns.of (Y := DoY ab y.s) (V := fun _ => .int .i64 4) (L' := fun z => z.1.L) (Lst := y.L) ⟨y, rfl⟩ hm (Lr := [(b3, Obj.cells F.toArray 41 (0, 0))]) (perm_of fun f => by (simp only [List.map_append, List.map_cons, List.map_nil, List.sum_append, List.sum_cons, List.sum_nil] <;> omega))
  rw [decide_eq_true hmay]
  refine z_ ?_
  refine Run.a (vla (arr := F.toArray) (hv := hsz)) ?_
  refine Run.op1 (OpTo.cv Tryz.func46 (fun w' hm => cw hmay w' (fun q hq => hm.has q (List.mem_cons_of_mem _ hq)) (hK.fr hm.fr hst))) (fun _ => ?_)
  by_cases he : erX y.s t = 0
  case neg =>
    rw [hsame he]
    generalize erX y.s t = er at he ⊢
    refine z_ ?_
    exact RQ.ret1 rfl (Res.tmp rfl) fun w' hm => Turns.of (Y := DoY ab y.s) (V := fun _ => .int .i64 er) (L' := fun z => z.1.L) (Lst := y.L) ⟨y, rfl⟩ hm (Lr := [(b3, Obj.cells F.toArray 41 (0, 0))]) (perm_of fun f => by (simp only [List.map_append, List.map_cons, List.map_nil, List.sum_append, List.sum_cons, List.sum_nil] <;> omega))
  have hz := erX_zero he
  have edo : doX y.s t = (match acGet t.fr y.s.acs with
    | none => y.s
    | some f =>
      if t.kd = 1 then match acGet t.tt y.s.acs with
        | none => y.s
        | some g => { y.s with acs := acSet t.tt { g with am := g.am + t.am } (acSet t.fr { f with am := f.am - t.am, no := f.no + 1 } y.s.acs) }
      else { y.s with acs := acSet t.fr { f with am := f.am - t.am, no := f.no + 1 } y.s.acs, out := y.s.out ++ [⟨t.ou, t.am, t.h8⟩] }) := by
    unfold doX
    rw [if_neg (fun h => h he)]
    cases acGet t.fr y.s.acs with
    | none => rfl
    | some f => dsimp only; split <;> first | rfl | (cases acGet t.tt y.s.acs <;> rfl)
  rw [he]
  obtain ⟨hm1, f, hf, hto, hzn, hmk, hch, ham, hout⟩ := hz
  rw [edo, hf]
  dsimp only
  have hfr := hm1.1.1
  have hta := hm1.1.2.1
  unfold maxM at hta
  have f1 := y.ok.am _ (acGet_in hf)
  have f2 := y.ok.no _ (acGet_in hf)
  unfold maxM at f1
  dsimp only at f1 f2
  have hz8 := checkT_in hch
  have hd1 := ac_getD (i := t.fr) y.he
  rw [hf] at hd1
  obtain ⟨c8, c9⟩ := ac_rd f.h8.1 f.am f.no
  obtain ⟨w8, _, s10⟩ := ac_wr f.h8.1 f.am f.no (f.am - t.am)
  obtain ⟨_, w9, s10'⟩ := ac_wr f.h8.1 (f.am - t.am) f.no (f.no + 1)
  obtain ⟨_, c9'⟩ := ac_rd f.h8.1 (f.am - t.am) f.no
  have s10'' := (ac_wr f.h8.1 (f.am - t.am) (f.no + 1) 0).2.2
  have z1 := acCells_len (some f)
  have n1 := acCells_one (some f)
  have hup : LsOk { y.s with acs := acSet t.fr { f with am := f.am - t.am, no := f.no + 1 } y.s.acs } := acUp_ok y.ok hfr (by show 0 ≤ f.am - t.am ∧ f.am - t.am ≤ maxM; unfold maxM; omega) (by show 0 ≤ f.no + 1 ∧ f.no + 1 ≤ 8; omega)
  clear hmk hch edo hsame
  refine z_ ?_
  (repeat refine RC.seq ?_); refine RC.drawS mixed (N := 9) rfl ?_
  refine dt 0 ?_
  refine dt 1 ?_
  refine dt 2 ?_
  refine DR.t 3 rfl (vl (.map (some y.kb)) (arr := y.row) (hm := (by repeat (first | exact List.mem_cons_self | apply List.mem_cons_of_mem | apply List.mem_append_right)))) ?_
  refine dt 4 ?_
  refine DR.t 5 rfl (vl (.int .i64 t.fr) (hm := (by repeat (first | exact List.mem_cons_self | apply List.mem_cons_of_mem | apply List.mem_append_right))) (hv := r1)) ?_
  refine DR.t 6 rfl (Val.eq (Val.lookupX (k := t.fr) (es := y.es) (clock := y.clock) (ok := false) acTy rfl rfl rfl (fun w' hm => hm.has (y.kb, mxO (Value.int .i64) y.es y.clock) m2)) (show _ = Value.agg (acCells (some f)).toArray from by rw [if_neg (by decide), hd1.1])) ?_
  refine DR.c 7 ?_
  refine DOp.op1 rfl (OpTo.new rfl rfl (nal)) ?_
  intro b6
  refine DR.c 8 ?_
  refine DOp.op1 rfl (osa (L' := (b3, Obj.cells F.toArray 41 (0, 0)) :: y.L) (acCells (some f)).toArray n1 (hs := z1) (hf := by kernel_rfl)) (fun _ => ?_)
  refine DR.done (by kernel_rfl) ?_
  rw [show acCells (some f) = acC f.o f.am f.no from rfl]
  refine z_ ?_
  refine Run.a (vl (.int .i64 f.am) (hm := (by repeat (first | exact List.mem_cons_self | apply List.mem_cons_of_mem | apply List.mem_append_right))) (hv := c8)) ?_
  refine z_ ?_
  refine Run.a (vl (.int .i64 t.am) (hm := (by repeat (first | exact List.mem_cons_self | apply List.mem_cons_of_mem | apply List.mem_append_right))) (hv := r11)) ?_
  refine z_ ?_
  refine Run.op1 (os1 (off := 8) (v := .int .i64 (f.am - t.am)) (arr := (acC f.o f.am f.no).toArray) (e := 79) (L' := (b3, Obj.cells F.toArray 41 (0, 0)) :: y.L) (acC f.o (f.am - t.am) f.no).toArray (he := w8) (hf := by rw [s10]; decide)) (fun _ => ?_)
  refine z_ ?_
  refine Run.a (vl (.int .i64 f.no) (hm := (by repeat (first | exact List.mem_cons_self | apply List.mem_cons_of_mem | apply List.mem_append_right))) (hv := c9')) ?_
  refine z_ ?_
  refine Run.op1 (os1 (off := 9) (v := .int .i64 (f.no + 1)) (arr := (acC f.o (f.am - t.am) f.no).toArray) (e := 79) (L' := (b3, Obj.cells F.toArray 41 (0, 0)) :: y.L) (acC f.o (f.am - t.am) (f.no + 1)).toArray (he := w9) (hf := by rw [s10']; decide)) (fun _ => ?_)
  refine z_ ?_
  refine Run.a (vl (.int .i64 t.fr) (hm := (by repeat (first | exact List.mem_cons_self | apply List.mem_cons_of_mem | apply List.mem_append_right))) (hv := r1)) ?_
  refine Run.a (vla (arr := (acC f.o (f.am - t.am) (f.no + 1)).toArray) (hv := s10'')) ?_
  obtain ⟨i, hi⟩ : ∃ i : Nat, t.fr = i := ⟨t.fr.toNat, by omega⟩
  rw [hi] at hup
  have hz : ((b6, Obj.cells (acC f.o (f.am - t.am) (f.no + 1)).toArray 79 (0, 0)) :: (b3, Obj.cells F.toArray 41 (0, 0)) :: y.L).Perm (y.L ++ [(b6, Obj.cells (acC f.o (f.am - t.am) (f.no + 1)).toArray 79 (0, 0)), (b3, Obj.cells F.toArray 41 (0, 0))]) := (perm_of fun f => by (simp only [List.map_append, List.map_cons, List.map_nil, List.sum_append, List.sum_cons, List.sum_nil] <;> omega))
  have cs := fun w' (hm : Mem w (y.L.map (·.1)) ((b6, Obj.cells (acC f.o (f.am - t.am) (f.no + 1)).toArray 79 (0, 0)) :: (b3, Obj.cells F.toArray 41 (0, 0)) :: y.L) w') => acset_calls y i (by omega) { f with am := f.am - t.am, no := f.no + 1 } hup w' (hm.part hz).1 (hm.part hz).2 (hK.fr hm.fr hst) hst
  rw [← hi] at cs
  refine Run.op1 (OpTo.callT Tryz.func35 hz (fun w' hm => cs w' hm)) ?_
  rintro ⟨z, hzs⟩
  dsimp only
  refine z_ ?_
  refine Run.a (vl (.int .i64 t.kd) (hm := List.mem_append_right _ m1) (hv := r0)) ?_
  by_cases hk1 : t.kd = 1
  · rw [if_pos hk1]
    obtain ⟨g, hg, hgm⟩ := hto hk1
    rw [hg]
    dsimp only
    have htt : 0 ≤ t.tt ∧ t.tt < 65536 ∧ t.tt ≠ t.fr := by
      rcases hm1.2 with hk | hk
      · exact ⟨hk.2.1.1, hk.2.1.2, hk.2.2.1⟩
      · omega
    have g1 := y.ok.am _ (acGet_in hg)
    have g2 := y.ok.no _ (acGet_in hg)
    unfold maxM at g1 hgm
    dsimp only at g1 g2
    have hgz : acGet t.tt z.s.acs = some g := by rw [hzs]; show acGet t.tt (acSet t.fr _ _) = _; rw [acGet_set, if_neg htt.2.2, hg]
    have hd2 := ac_getD (i := t.tt) z.he
    rw [hgz] at hd2
    obtain ⟨e8, _⟩ := ac_rd g.h8.1 g.am g.no
    obtain ⟨v8, _, q10⟩ := ac_wr g.h8.1 g.am g.no (g.am + t.am)
    have q10' := (ac_wr g.h8.1 (g.am + t.am) g.no 0).2.2
    have z2 := acCells_len (some g)
    have n2 := acCells_one (some g)
    obtain ⟨j, hj⟩ : ∃ j : Nat, t.tt = j := ⟨t.tt.toNat, by omega⟩
    have hup2 : LsOk { z.s with acs := acSet t.tt { g with am := g.am + t.am } z.s.acs } := acUp_ok z.ok ⟨htt.1, htt.2.1⟩ (by show 0 ≤ g.am + t.am ∧ g.am + t.am ≤ maxM; unfold maxM; omega) (by show 0 ≤ g.no ∧ g.no ≤ 8; omega)
    refine z_ ?_
    (repeat refine RC.seq ?_); refine RC.drawS mixed (N := 9) rfl ?_
    refine dt 0 ?_
    refine dt 1 ?_
    refine dt 2 ?_
    refine DR.t 3 rfl (vl (.map (some z.kb)) (arr := z.row) (hm := List.mem_append_left _ m0)) ?_
    refine dt 4 ?_
    refine DR.t 5 rfl (vl (.int .i64 t.tt) (hm := List.mem_append_right _ m1) (hv := r2)) ?_
    refine DR.t 6 rfl (Val.eq (Val.lookupX (k := t.tt) (es := z.es) (clock := z.clock) (ok := false) acTy rfl rfl rfl (fun w' hm => hm.has (z.kb, mxO (Value.int .i64) z.es z.clock) (List.mem_append_left _ m1))) (show _ = Value.agg (acCells (some g)).toArray from by rw [if_neg (by decide), hd2.1])) ?_
    refine DR.c 7 ?_
    refine DOp.op1 rfl (OpTo.new rfl rfl (nal)) ?_
    intro b7
    refine DR.c 8 ?_
    refine DOp.op1 rfl (osa (L' := z.L ++ [(b6, Obj.cells (acC f.o (f.am - t.am) (f.no + 1)).toArray 79 (0, 0)), (b3, Obj.cells F.toArray 41 (0, 0))]) (acCells (some g)).toArray n2 (hs := z2) (hf := by kernel_rfl)) (fun _ => ?_)
    refine DR.done (by kernel_rfl) ?_
    rw [show acCells (some g) = acC g.o g.am g.no from rfl]
    refine z_ ?_
    refine Run.a (vl (.int .i64 g.am) (hm := m0) (hv := e8)) ?_
    refine z_ ?_
    refine Run.a (vl (.int .i64 t.am) (hm := List.mem_cons_of_mem _ (List.mem_append_right _ m1)) (hv := r11)) ?_
    refine z_ ?_
    refine Run.op1 (os1 (off := 8) (v := .int .i64 (g.am + t.am)) (arr := (acC g.o g.am g.no).toArray) (e := 79) (L' := z.L ++ [(b6, Obj.cells (acC f.o (f.am - t.am) (f.no + 1)).toArray 79 (0, 0)), (b3, Obj.cells F.toArray 41 (0, 0))]) (acC g.o (g.am + t.am) g.no).toArray (he := v8) (hf := by rw [q10]; decide)) (fun _ => ?_)
    refine z_ ?_
    refine Run.a (vl (.int .i64 t.tt) (hm := List.mem_cons_of_mem _ (List.mem_append_right _ m1)) (hv := r2)) ?_
    refine Run.a (vla (arr := (acC g.o (g.am + t.am) g.no).toArray) (hv := q10') (hm := m0)) ?_
    rw [hj] at hup2
    have hz2 : ((b7, Obj.cells (acC g.o (g.am + t.am) g.no).toArray 79 (0, 0)) :: (z.L ++ [(b6, Obj.cells (acC f.o (f.am - t.am) (f.no + 1)).toArray 79 (0, 0)), (b3, Obj.cells F.toArray 41 (0, 0))])).Perm (z.L ++ ((b7, Obj.cells (acC g.o (g.am + t.am) g.no).toArray 79 (0, 0)) :: [(b6, Obj.cells (acC f.o (f.am - t.am) (f.no + 1)).toArray 79 (0, 0)), (b3, Obj.cells F.toArray 41 (0, 0))])) := (perm_of fun f => by (simp only [List.map_append, List.map_cons, List.map_nil, List.sum_append, List.sum_cons, List.sum_nil] <;> omega))
    have cs2 := fun w' (hm : Mem w (y.L.map (·.1)) ((b7, Obj.cells (acC g.o (g.am + t.am) g.no).toArray 79 (0, 0)) :: (z.L ++ [(b6, Obj.cells (acC f.o (f.am - t.am) (f.no + 1)).toArray 79 (0, 0)), (b3, Obj.cells F.toArray 41 (0, 0))])) w') => acset_calls z j (by omega) { g with am := g.am + t.am } hup2 w' (hm.part hz2).1 (hm.part hz2).2 (hK.fr hm.fr hst) (fresh_idsS hK hst (hm.perm hz2) (fun a ha => List.mem_append_left _ ha))
    rw [← hj] at cs2
    refine Run.op1 (OpTo.callT Tryz.func35 hz2 (fun w' hm => cs2 w' hm)) ?_
    rintro ⟨z3, hz3⟩
    rw [hzs] at hz3
    dsimp only at hz3 ⊢
    refine z_ ?_
    exact RQ.ret1 rfl (Res.tmp rfl) fun w' hm => Turns.of (Y := DoY ab { y.s with acs := acSet t.tt { g with am := g.am + t.am } (acSet t.fr { f with am := f.am - t.am, no := f.no + 1 } y.s.acs) }) (V := fun _ => .int .i64 0) (L' := fun z => z.1.L) (Lst := y.L) ⟨z3, hz3⟩ hm (Lr := (b7, Obj.cells (acC g.o (g.am + t.am) g.no).toArray 79 (0, 0)) :: [(b6, Obj.cells (acC f.o (f.am - t.am) (f.no + 1)).toArray 79 (0, 0)), (b3, Obj.cells F.toArray 41 (0, 0))]) (List.Perm.refl _)
  rw [if_neg hk1]
  have hk2 : t.kd = 2 := by
    rcases hm1.2 with hk | hk
    · exact absurd hk.1 hk1
    · exact hk.1
  have ho := hout hk1
  have hou8 := t.h8.1
  obtain ⟨e0, e1, e2, e3, e4, e5, e6, e7, heq⟩ := len8 hou8
  obtain ⟨O9, hO9⟩ : ∃ O9 : OuD, O9 = ⟨t.ou, t.am, t.h8⟩ := ⟨_, rfl⟩
  have cO9 : OuD.c O9 = u8s t.ou ++ [.int .i64 t.am] := by rw [hO9]; rfl
  have sO : (u8s t.ou).length = 8 := by rw [u8s_len, t.h8.1]
  have ezo : z.s.out = y.s.out := by rw [hzs]
  have hpz : (z.L ++ [(b6, Obj.cells (acC f.o (f.am - t.am) (f.no + 1)).toArray 79 (0, 0)), (b3, Obj.cells F.toArray 41 (0, 0))]).Perm (z.bO ++ ((ab, Obj.cells #[.int .i64 z.s.side, .map (some z.kb), .pointer (some ⟨z.tb, 0, none⟩), z.vO] 72 (0, 0)) :: (z.kb, mxO (Value.int .i64) z.es z.clock) :: (z.x.L ++ [(b6, Obj.cells (acC f.o (f.am - t.am) (f.no + 1)).toArray 79 (0, 0)), (b3, Obj.cells F.toArray 41 (0, 0))]))) := by unfold AlP.L AlP.row; exact (perm_of fun f => by (simp only [List.map_append, List.map_cons, List.map_nil, List.sum_append, List.sum_cons, List.sum_nil] <;> omega))
  refine z_ ?_
  refine RC.perm hpz ?_
  (repeat refine RC.seq ?_); refine RC.draw ([(ab, Obj.cells #[.int .i64 z.s.side, .map (some z.kb), .pointer (some ⟨z.tb, 0, none⟩), z.vO] 72 (0, 0)), (b3, Obj.cells F.toArray 41 (0, 0))]) mixed (N := 15) rfl ?_
  refine dt 0 ?_
  refine dt 1 ?_
  refine dt 2 ?_
  refine dt 3 ?_
  refine DR.t 4 rfl (vl z.vO (arr := #[.int .i64 z.s.side, .map (some z.kb), .pointer (some ⟨z.tb, 0, none⟩), z.vO]) (hm := m0)) ?_
  refine dt 5 ?_
  refine DR.t 6 rfl (Val.loadR tabOk (cs := u8s t.ou) rfl rfl rfl rfl sO (hrd m1)) ?_
  refine dt 7 ?_
  refine DR.t 8 rfl (vl (.int .i64 t.am) (hm := m1) (hv := r11)) ?_
  refine DR.t 9 rfl (vbs (OuD.c O9).toArray (hf := by rw [cO9, heq]; kernel_rfl)) ?_
  refine DR.c 10 ?_
  refine DOp.op1 rfl (OpTo.new rfl rfl (nbsl (OuD.c O9).toArray (fillS_1 9 _ (OuD.c O9) O9.len))) ?_
  intro b57
  refine DR.c 11 (DOp.op1 rfl (OpTo.append (L1 := (b57, Obj.cells (OuD.c O9).toArray 66 (0, 0)) :: (ab, Obj.cells #[.int .i64 z.s.side, .map (some z.kb), .pointer (some ⟨z.tb, 0, none⟩), z.vO] 72 (0, 0)) :: (z.kb, mxO (Value.int .i64) z.es z.clock) :: (z.x.L ++ [(b6, Obj.cells (acC f.o (f.am - t.am) (f.no + 1)).toArray 79 (0, 0)), (b3, Obj.cells F.toArray 41 (0, 0))])) tabOk z.hO (Src.at ⟨b57, 0, none⟩ 1 1 (OuD.c O9) (by rw [O9.len]; rfl) (Rd.rowAll (arr := (OuD.c O9).toArray) (e := 66) (fz := (0, 0)) m0)) rfl rfl rfl rfl rfl rfl rfl rfl rfl (perm_of fun f => by (simp only [List.map_append, List.map_cons, List.map_nil, List.sum_append, List.sum_cons, List.sum_nil] <;> omega)) O9.one (by unfold maxLen; rw [ezo]; omega) (by rw [ezo]; simp only [ti66]; omega)) ?_)
  rintro ⟨⟨v58, bl58⟩, hw58⟩
  dsimp only at hw58 ⊢
  obtain ⟨a8, k8, rfl, hk8⟩ := hw58.shape
  refine dt 12 ?_
  refine dt 13 ?_
  refine DR.c 14 ?_
  refine DOp.op1 rfl (os1 (off := 3) (v := .slice a8 (z.s.out.length + 1) k8) (arr := #[.int .i64 z.s.side, .map (some z.kb), .pointer (some ⟨z.tb, 0, none⟩), z.vO]) (e := 72) (L' := bl58 ++ ((b57, Obj.cells (OuD.c O9).toArray 66 (0, 0)) :: (z.kb, mxO (Value.int .i64) z.es z.clock) :: (z.x.L ++ [(b6, Obj.cells (acC f.o (f.am - t.am) (f.no + 1)).toArray 79 (0, 0)), (b3, Obj.cells F.toArray 41 (0, 0))]))) #[.int .i64 z.s.side, .map (some z.kb), .pointer (some ⟨z.tb, 0, none⟩), .slice a8 (z.s.out.length + 1) k8] (hL := (perm_of fun f => by (simp only [List.map_append, List.map_cons, List.map_nil, List.sum_append, List.sum_cons, List.sum_nil] <;> omega)))) (fun _ => ?_)
  refine DR.done (by kernel_rfl) ?_
  refine z_ ?_
  have hok9 : LsOk { y.s with acs := acSet t.fr { f with am := f.am - t.am, no := f.no + 1 } y.s.acs, out := y.s.out ++ [⟨t.ou, t.am, t.h8⟩] } := by
    have := doX_ok y.ok t
    unfold doX at this
    rw [if_neg (fun h => h he), hf] at this
    dsimp only at this
    rw [if_neg hk1] at this
    exact this
  have hw9 : Own 66 9 (.slice a8 (z.s.out.length + 1) k8) (y.s.out ++ [(⟨t.ou, t.am, t.h8⟩ : OuD)]).length (rws OuD.c (y.s.out ++ [(⟨t.ou, t.am, t.h8⟩ : OuD)])) bl58 := by
    have e : rws OuD.c (y.s.out ++ [(⟨t.ou, t.am, t.h8⟩ : OuD)]) = rws OuD.c z.s.out ++ OuD.c O9 := by rw [rws_app, ezo, hO9]; simp [rws]
    rw [e, List.length_append, ← ezo]
    exact hw58
  exact RQ.ret1 rfl (Res.tmp rfl) fun w' hm => Turns.of (Y := DoY ab { y.s with acs := acSet t.fr { f with am := f.am - t.am, no := f.no + 1 } y.s.acs, out := y.s.out ++ [⟨t.ou, t.am, t.h8⟩] }) (V := fun _ => .int .i64 0) (L' := fun z => z.1.L) (Lst := y.L) ⟨⟨z.tb, z.mb, z.kb, z.x, z.es, z.clock, .slice a8 (z.s.out.length + 1) k8, bl58, { y.s with acs := acSet t.fr { f with am := f.am - t.am, no := f.no + 1 } y.s.acs, out := y.s.out ++ [⟨t.ou, t.am, t.h8⟩] }, z.mok, by rw [z.he, hzs], by have := z.rp; rw [hzs] at this; exact this, hok9, hw9⟩, rfl⟩ hm (Lr := (b57, Obj.cells (OuD.c O9).toArray 66 (0, 0)) :: [(b6, Obj.cells (acC f.o (f.am - t.am) (f.no + 1)).toArray 79 (0, 0)), (b3, Obj.cells F.toArray 41 (0, 0))]) (by unfold AlP.L AlP.row; rw [show z.s.side = y.s.side from by rw [hzs]]; exact (perm_of fun f => by (simp only [List.map_append, List.map_cons, List.map_nil, List.sum_append, List.sum_cons, List.sum_nil] <;> omega)))
end Go.Proofs.YtfhdfpejjgmdcaaGreatDoor
