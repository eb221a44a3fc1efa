/- sparse: the reference: Node, Top. -/
import Derived.Test.YtaabinhpagbajaaDoorSpH
set_option linter.unusedSimpArgs false
set_option linter.unusedVariables false
namespace Go.Proofs.YtaabinhpagbajaaDoor
attribute [local irreducible] Go.Vc.Run Go.Vc.RC Go.Vc.RQ Go.Vc.DR Go.Vc.DOp
open Go Go.Vc Go.Sha
theorem sh1 {q : Nat} (hq : q ≤ 16) : IntKind.i64.wrap (1 * 2 ^ min (q : Int).toNat IntKind.i64.bits) = ((2 ^ q : Nat) : Int) := by
  have h1 : min (q : Int).toNat IntKind.i64.bits = q := by rw [Int.toNat_natCast]; exact Nat.min_eq_left (by show q ≤ 64; omega)
  have h2 : 2 ^ q ≤ 2 ^ 16 := Nat.pow_le_pow_right (by decide) hq
  have h3 : (1 : Int) * 2 ^ q = ((2 ^ q : Nat) : Int) := by rw [Int.one_mul]; norm_cast
  rw [h1, h3]
  exact wrap_in (by dsimp only [inK]; generalize 2 ^ q = s at *; omega)
set_option maxRecDepth 10000 in set_option maxHeartbeats 4000000 in
theorem Node_calls (l : Lvs) (ok : LvOk l) (mb : Nat) (q : Nat) : ∀ (j : Nat), q ≤ 16 → (j + 1) * 2 ^ q ≤ 65536 → ∀ (w : World), LvW 39 w mb l →
    Gives Tryd.prog 26 [.pointer (some ⟨mb, 0, none⟩), .int .i64 ((j * 2 ^ q : Nat) : Int), .int .i64 q] (.agg (u8s (nodeF (lfF l) q j)).toArray) w := by
  induction q using Nat.strongRecOn with | _ q ih
  intro j hq hj w hw
  refine enter Tryd.func26 rfl (Mem.nil w []) rfl ?_
  obtain ⟨vA, vH, h0, hA, hH⟩ := hw.h
  obtain ⟨aA, cA, rfl, hcA⟩ := hA.shape
  have hc0 : w.cell? ⟨mb, 0, none⟩ = some (.slice aA l.length cA) := by rw [cell_of_row w mb 0 _ _ _ h0]; rfl
  have hll := ok.len
  have h8 := nodeF_8 (lfF_ok ok) q j
  obtain ⟨R, hR⟩ : ∃ R, R = nodeF (lfF l) q j := ⟨_, rfl⟩
  rw [← hR] at h8 ⊢
  have sR : (u8s R).toArray.size = 8 := by rw [List.size_toArray, u8s_len, h8.1]
  obtain ⟨S, hS⟩ : ∃ S, S = 2 ^ q := ⟨_, rfl⟩
  obtain ⟨B, hB⟩ : ∃ B, B = j * 2 ^ q := ⟨_, rfl⟩
  rw [← hB]
  have hBS : B + S ≤ 65536 := by rw [hB, hS]; rw [Nat.succ_mul] at hj; exact hj
  have hS' : Hd (S = 2 ^ q) := ⟨hS⟩
  have hB' : Hd (B = j * 2 ^ q) := ⟨hB⟩
  have hR' : Hd (R = nodeF (lfF l) q j) := ⟨hR⟩
  have hSp : 0 < S := by rw [hS]; exact Nat.pow_pos (by decide)
  have hsum : ∀ z : Int, z = q → IntKind.i64.wrap ((B : Int) + IntKind.i64.wrap (1 * 2 ^ min z.toNat IntKind.i64.bits)) = ((B + S : Nat) : Int) := by
    rintro z rfl
    rw [sh1 hq, wrap_in (by dsimp only [inK]; rw [← hS]; omega), hS]
    omega
  clear hS hB hR
  refine z_ ?_
  refine Run.nw nal ?_
  intro b6
  refine z_ ?_
  refine RC.up l.length (D := Unit) (fun _ _ => True) (fun k _ => [(8, .int .i64 k), (7, .bool ((l.take k).any fun p => decide (B ≤ p.1 ∧ p.1 < B + S))), (6, .pointer (some ⟨b6, 0, none⟩)), (2, .int .i64 q), (1, .int .i64 B), (0, .pointer (some ⟨mb, 0, none⟩))]) (fun _ _ => [(b6, Obj.cells (u8s Z8).toArray 29 (0, 0))]) 0 () (Nat.zero_le _) trivial ⟨rfl, rfl, rfl, rfl, rfl, rfl, trivial⟩ (List.Sublist.refl _) ?_
  intro k _ hk _
  obtain ⟨fl, hfl⟩ : ∃ fl, fl = (l.take k).any fun p => decide (B ≤ p.1 ∧ p.1 < B + S) := ⟨_, rfl⟩
  rw [← hfl]
  refine z_ ?_
  refine Run.a (vlo hc0) ?_
  by_cases hk' : k < l.length
  · obtain ⟨p, hp⟩ : ∃ p, l[k]? = some p := ⟨_, List.getElem?_eq_getElem hk'⟩
    obtain ⟨adA, cA', hv, hcA', hlA, hrA⟩ := hA.pos (by omega)
    cases hv
    have hcp := hrA k _ (lvA_at hp)
    have hnx : ((l.take (k + 1)).any fun p => decide (B ≤ p.1 ∧ p.1 < B + S)) = (fl || decide (B ≤ p.1 ∧ p.1 < B + S)) := by
      rw [List.take_add_one, hp, Option.toList_some, List.any_append, ← hfl]; simp
    cases fl with
    | true =>
      refine z_ ?_
      exact RQ.up (k + 1) () (Nat.lt_succ_self _) hk' trivial ⟨rfl, by rw [hnx]; rfl, rfl, rfl, rfl, rfl, trivial⟩ (List.Sublist.refl _)
    | false =>
      refine z_ ?_
      refine Run.a (vlo hc0) ?_
      refine z_ ?_
      refine Run.a (vix k hk' (adA.add k) (ha := by show adA.add (k * 1) = _; rw [Nat.mul_one])) ?_
      refine Run.a (vlo hcp) ?_
      by_cases h1 : B ≤ p.1
      · refine z_ ?_
        refine Run.a (vlo hc0) ?_
        refine z_ ?_
        refine Run.a (vix k hk' (adA.add k) (ha := by show adA.add (k * 1) = _; rw [Nat.mul_one])) ?_
        refine Run.a (vlo hcp) ?_
        refine z_ ?_
        rw [hsum _ rfl]
        have e2 : ((l.take (k + 1)).any fun p => decide (B ≤ p.1 ∧ p.1 < B + S)) = decide ((p.1 : Int) < ((B + S : Nat) : Int)) := by rw [hnx, Bool.false_or]; exact decide_eq_decide.2 (by omega)
        exact RQ.up (k + 1) () (Nat.lt_succ_self _) hk' trivial ⟨rfl, by rw [e2]; rfl, rfl, rfl, rfl, rfl, trivial⟩ (List.Sublist.refl _)
      · have e2 : ((l.take (k + 1)).any fun p => decide (B ≤ p.1 ∧ p.1 < B + S)) = false := by rw [hnx]; simp; omega
        refine z_ ?_
        exact RQ.up (k + 1) () (Nat.lt_succ_self _) hk' trivial ⟨rfl, by rw [e2]; rfl, rfl, rfl, rfl, rfl, trivial⟩ (List.Sublist.refl _)
  · have hk9 : k = l.length := by omega
    subst hk9
    rw [List.take_length] at hfl
    clear hk hk'
    cases fl with
    | false =>
      have hz : R = Z8 := by
        rw [hR'.h]
        refine nodeF_zero fun i hi => ?_
        unfold lfF lfI
        have : l.find? (fun p => (p.1 : Int) == (i : Int)) = none := by
          rw [List.find?_eq_none]
          intro p hp he
          have hpi : p.1 = i := by have := eq_of_beq he; omega
          have := List.any_eq_false.1 hfl.symm p hp
          rw [decide_eq_true_eq] at this
          apply this
          have h1 := Nat.div_add_mod i S
          have h2 := Nat.mod_lt i hSp
          rw [hB'.h, hpi, ← hi, ← hS'.h, Nat.mul_comm]
          omega
        rw [this]
      rw [hz]
      refine z_ ?_
      refine Run.a (vba (u8s Z8).toArray) ?_
      refine Run.op1 (osa (u8s Z8).toArray (u8s_one _)) (fun _ => ?_)
      refine z_ ?_
      exact RQ.ret1 rfl (Res.cellAll tabOk rfl rfl rfl m0 rfl) fun w' hm => ⟨rfl, hm.fr⟩
    | true =>
      clear hfl
      cases q with
      | zero =>
        have e : R = lfI l (B : Int) := by rw [hR'.h, hB'.h, Nat.pow_zero, Nat.mul_one]; rfl
        rw [e] at sR ⊢
        clear hR' hB' hS' ih hsum
        refine z_ ?_
        refine Run.op1 (OpTo.cv Tryd.func15 (fun w' hm => LGet_calls l ok mb (B : Int) w' (hw.fr hm.fr))) (fun _ => ?_)
        refine Run.op1 (osa (u8s (lfI l (B : Int))).toArray (u8s_one _) (hs := sR)) (fun _ => ?_)
        refine z_ ?_
        exact RQ.ret1 rfl (Res.cellAll tabOk rfl rfl rfl m0 sR) fun w' hm => ⟨rfl, hm.fr⟩
      | succ q =>
        obtain ⟨T, hT⟩ : ∃ T, T = 2 ^ q := ⟨_, rfl⟩
        have hB := hB'.h
        have c1 := fun w' hw' => ih q (Nat.lt_succ_self _) (2 * j) (by omega) (by rw [Nat.pow_succ] at hj; rw [← hT] at hj ⊢; rw [Nat.succ_mul] at hj ⊢; rw [show 2 * j * T = j * (T * 2) by rw [Nat.mul_comm 2 j, Nat.mul_assoc, Nat.mul_comm 2 T]]; omega) w' hw'
        have c2 := fun w' hw' => ih q (Nat.lt_succ_self _) (2 * j + 1) (by omega) (by rw [Nat.pow_succ] at hj; rw [← hT] at hj ⊢; rw [show (2 * j + 1 + 1) * T = (j + 1) * (T * 2) by rw [show 2 * j + 1 + 1 = (j + 1) * 2 by omega, Nat.mul_assoc, Nat.mul_comm 2 T]]; omega) w' hw'
        have eB : 2 * j * 2 ^ q = B := by rw [hB, Nat.pow_succ, Nat.mul_comm 2 j, Nat.mul_assoc, Nat.mul_comm 2]
        have eB2 : (2 * j + 1) * 2 ^ q = B + T := by rw [Nat.succ_mul, eB, ← hT]
        rw [eB] at c1
        rw [eB2] at c2
        have a1 := nodeF_8 (lfF_ok ok) q (2 * j)
        have a2 := nodeF_8 (lfF_ok ok) q (2 * j + 1)
        have eR : R = overH (nodeF (lfF l) q (2 * j)) (nodeF (lfF l) q (2 * j + 1)) := hR'.h
        generalize nodeF (lfF l) q (2 * j) = N1 at c1 a1 eR
        generalize nodeF (lfF l) q (2 * j + 1) = N2 at c2 a2 eR
        have s1 : (u8s N1).toArray.size = 8 := by rw [List.size_toArray, u8s_len, a1.1]
        have s2 : (u8s N2).toArray.size = 8 := by rw [List.size_toArray, u8s_len, a2.1]
        have hTS : T ≤ S := by rw [hT, hS'.h]; exact Nat.pow_le_pow_right (by decide) (Nat.le_succ _)
        have hsh : IntKind.i64.wrap ((1 * 2 ^ q : Nat) : Int) = ((T : Nat) : Int) := by
          rw [Nat.one_mul, ← hT]
          exact wrap_in (by dsimp only [inK]; omega)
        clear hB hB' hR' hS' eB eB2 hT ih hj
        refine z_ ?_
        rw [show ((q + 1 : Nat) : Int) - 1 = (q : Int) from by omega]
        refine Run.op1 (OpTo.cv Tryd.func26 (fun w' hm => c1 w' (hw.fr hm.fr))) (fun _ => ?_)
        refine z_ ?_
        rw [show ((q + 1 : Nat) : Int) - 1 = (q : Int) from by omega]
        refine Run.a (Val.eq (Val.shl (a := 1) (m := q) rfl rfl rfl (by show _ ≤ 64; omega)) (show _ = Value.int .i64 ((T : Nat) : Int) from congrArg (Value.int .i64) hsh)) ?_
        refine z_ ?_
        rw [show ((q + 1 : Nat) : Int) - 1 = (q : Int) from by omega, show (B : Int) + (T : Int) = ((B + T : Nat) : Int) from by omega]
        refine Run.op1 (OpTo.cv Tryd.func26 (fun w' hm => c2 w' (hw.fr hm.fr))) (fun _ => ?_)
        refine Run.nw nal ?_
        intro b9
        refine Run.nw nal ?_
        intro b10
        refine Run.op1 (osa (u8s N1).toArray (u8s_one _) (hs := s1)) (fun _ => ?_)
        refine Run.op1 (osa (u8s N2).toArray (u8s_one _) (hs := s2)) (fun _ => ?_)
        refine z_ ?_
        refine Run.a (vla (hv := s1)) ?_
        refine Run.a (vla (hv := s2)) ?_
        refine Run.op1 (OpTo.cv Tryd.func28 (fun w' hm => Over_calls N1 N2 a1 a2 w')) (fun _ => ?_)
        rw [← eR]
        refine Run.op1 (osa (u8s R).toArray (u8s_one _) (hs := sR)) (fun _ => ?_)
        refine z_ ?_
        exact RQ.ret1 rfl (Res.cellAll tabOk rfl rfl rfl m0 sR) fun w' hm => ⟨rfl, hm.fr⟩
set_option maxRecDepth 10000 in set_option maxHeartbeats 4000000 in
theorem Top_calls (l : Lvs) (ok : LvOk l) (mb : Nat) (w : World) (hw : LvW 39 w mb l) :
    Gives Tryd.prog 13 [.pointer (some ⟨mb, 0, none⟩)] (.agg (u8s (nodeF (lfF l) 16 0)).toArray) w := by
  refine enter Tryd.func13 rfl (Mem.nil w []) rfl ?_
  have h8 := nodeF_8 (lfF_ok ok) 16 0
  have c1 := fun w' hw' => Node_calls l ok mb 16 0 (Nat.le_refl _) (by decide) w' hw'
  generalize nodeF (lfF l) 16 0 = R at h8 c1 ⊢
  have sR : (u8s R).toArray.size = 8 := by rw [List.size_toArray, u8s_len, h8.1]
  refine z_ ?_
  refine Run.nw nal ?_
  intro b2
  refine z_ ?_
  refine Run.op1 (OpTo.cv Tryd.func26 (fun w' hm => c1 w' (hw.fr hm.fr))) (fun _ => ?_)
  refine Run.op1 (osa (u8s R).toArray (u8s_one _) (hs := sR)) (fun _ => ?_)
  refine z_ ?_
  exact RQ.ret1 rfl (Res.cellAll tabOk rfl rfl rfl m0 sR) fun w' hm => ⟨rfl, hm.fr⟩
end Go.Proofs.YtaabinhpagbajaaDoor
