/- registry's law: RegistryWindows. -/
import Derived.Test.YtnhnihkpacibgaaRgM
namespace Go.Sha
theorem win_timed {M L W : Nat} (hL : 2 ≤ L) (hL2 : L ≤ 64) (hWL : W ≤ L) (hM : M ≤ 255) : timedB M L W = true := decide_eq_true (by omega)
theorem win_epoch {M L W d : Nat} (hL : 2 ≤ L) (hL2 : L ≤ 64) (hWL : W ≤ L) (hM : M ≤ 255) : epochN M L W (M + 1 + d : Nat) = (d / L : Nat) ∧ epochB M L W (M + 1 + d : Nat) = true := by
  obtain ⟨h1, h2⟩ := epoch_yes (h := ((M + 1 + d : Nat) : Int)) (win_timed hL hL2 hWL hM) (by omega)
  refine ⟨h1.trans ?_, h2⟩
  congr 2
  omega
theorem win_ends {M L W e : Nat} (hL : 2 ≤ L) (hL2 : L ≤ 64) (hWL : W ≤ L) (hM : M ≤ 255) (he : e ≤ 400) : endsN M L W e = ((M + (e + 1) * L : Nat) : Int) := by
  rw [ends_yes (win_timed hL hL2 hWL hM) (by omega)]
  rw [Int.natCast_add, Int.natCast_mul, Int.natCast_add]; rfl
theorem win_open {M L W d k : Nat} (hL : 2 ≤ L) (hL2 : L ≤ 64) (hWL : W ≤ L) (hM : M ≤ 255) (hk : k < 5) : openB M L W k (M + 1 + d : Nat) = decide (k + 1 = d / L ∧ d + 1 ≤ d / L * L + W) := by
  unfold openB
  rw [win_timed hL hL2 hWL hM, win_ends hL hL2 hWL hM (by omega), Bool.true_and, decide_eq_true (show 0 ≤ (k : Int) ∧ (k : Int) ≤ 400 by omega), Bool.true_and, ← Bool.decide_and, decide_eq_decide]
  have e1 : (k + 1 + 1) * L = (k + 1) * L + L := by rw [Nat.add_mul (k + 1) 1 L, Nat.one_mul]
  constructor
  · rintro ⟨h1, h2⟩
    have h3 : (k + 1) * L ≤ d := by omega
    have h4 : d < (k + 1 + 1) * L := by omega
    have h5 : k + 1 ≤ d / L := (Nat.le_div_iff_mul_le (by omega)).2 h3
    have h6 : d / L < k + 1 + 1 := (Nat.div_lt_iff_lt_mul (by omega)).2 h4
    have h7 : k + 1 = d / L := by omega
    refine ⟨h7, ?_⟩
    rw [← h7]; omega
  · rintro ⟨h1, h2⟩
    have h3 : d / L * L ≤ d := Nat.div_mul_le_self d L
    rw [← h1] at h2 h3
    omega
/-- How many windows are open, of those that were looked at. -/
def manyW (L W d i : Nat) : Nat := if 1 ≤ d / L ∧ d / L ≤ i ∧ d + 1 ≤ d / L * L + W then 1 else 0
theorem manyW_zero (L W d : Nat) : manyW L W d 0 = 0 := by unfold manyW; rw [if_neg (by omega)]
theorem manyW_yes {L W d i : Nat} (h : i + 1 = d / L ∧ d + 1 ≤ d / L * L + W) : manyW L W d (i + 1) = manyW L W d i + 1 := by
  unfold manyW; rw [if_pos ⟨by omega, by omega, h.2⟩, if_neg (by omega)]
theorem manyW_no {L W d i : Nat} (h : ¬ (i + 1 = d / L ∧ d + 1 ≤ d / L * L + W)) : manyW L W d (i + 1) = manyW L W d i := by
  unfold manyW
  by_cases h1 : 1 ≤ d / L ∧ d / L ≤ i ∧ d + 1 ≤ d / L * L + W
  · rw [if_pos h1, if_pos ⟨h1.1, by omega, h1.2.2⟩]
  · rw [if_neg h1, if_neg]
    rintro ⟨a, b, c⟩
    rcases Nat.lt_or_ge i (d / L) with h2 | h2
    · exact h ⟨by omega, c⟩
    · exact h1 ⟨a, h2, c⟩
theorem manyW_le (L W d i : Nat) : manyW L W d i ≤ 1 := by unfold manyW; split <;> omega
end Go.Sha
namespace Go.Proofs.Ytnhnihkpacibgaa
attribute [local irreducible] Go.Vc.Run Go.Vc.RC Go.Vc.RQ Go.Vc.DR Go.Vc.DOp
open Go Go.Vc Go.Sha

set_option maxRecDepth 10000 in set_option maxHeartbeats 4000000 in
theorem RegistryWindows_calls (M l wd : Nat) (hM : M < 256) (hl : l < 256) (hwd : wd < 256) (w : World) :
    Gives Try.prog 7 [.int .u8 M, .int .u8 l, .int .u8 wd] (.bool true) w := by
  refine enter Try.func7 rfl (Mem.nil w []) rfl ?_
  obtain ⟨L, hL⟩ : ∃ L : Nat, L = 2 + l % 63 := ⟨_, rfl⟩
  obtain ⟨W, hW⟩ : ∃ W : Nat, W = 1 + wd % L := ⟨_, rfl⟩
  have hL1 : 2 ≤ L := by omega
  have hL2 : L ≤ 64 := by omega
  have hWL : W ≤ L := by have := Nat.mod_lt wd (show 0 < L by omega); omega
  obtain ⟨r, hr⟩ : ∃ r : Rc, r = ⟨L, W, 0, M, 0, 0, false, 0, [], []⟩ := ⟨_, rfl⟩
  refine z_ ?_
  refine Run.op1 (OpTo.cv Try.func9 (fun w' _ => rg_awake_calls w')) (fun _ => ?_)
  refine z_ ?_
  refine Run.a (vbs (prm L 0 0 (.slice none 0 0)).toArray (hf := by rw [hL]; kernel_rfl)) ?_
  refine Run.nw nal ?_
  intro b7
  refine Run.op1 (osa (prm L 0 0 (.slice none 0 0)).toArray (by intro u hu; simp [prm] at hu; rcases hu with rfl | rfl | rfl <;> rfl)) (fun _ => ?_)
  refine z_ ?_
  refine Run.op1 (os1 (prm L W 0 (.slice none 0 0)).toArray (he := by rw [hW]; rfl)) (fun _ => ?_)
  refine z_ ?_
  refine Run.a (vbs (r.c (.slice none 0 0) (.slice none 0 0)).toArray (hf := by rw [hr]; kernel_rfl)) ?_
  refine Run.nw nal ?_
  intro b8
  refine Run.op1 (osa (r.c (.slice none 0 0) (.slice none 0 0)).toArray (r.one rfl rfl)) (fun _ => ?_)
  subst hr
  have hEp := fun (d : Nat) (hd : d ≤ 1000) w' => Epoch_calls L W 0 M (.slice none 0 0) (restC 0 0 false 0 (.slice none 0 0)) rfl rfl ((M + 1 + d : Nat) : Int) (by omega) w'
  have hEn := fun (e : Int) w' => Ends_calls L W 0 M (.slice none 0 0) (restC 0 0 false 0 (.slice none 0 0)) rfl rfl e w'
  have hOp := fun (k d : Nat) w' => Open_calls L W 0 M (.slice none 0 0) (restC 0 0 false 0 (.slice none 0 0)) rfl rfl k ((M + 1 + d : Nat) : Int) w'
  refine z_ ?_
  refine RC.up (3 * L + 2) (D := Unit) (fun _ _ => True) (fun i _ => [(9, .int .i64 (M + 1 + i : Nat)), (7, .pointer (some ⟨b7, 0, none⟩)), (8, .pointer (some ⟨b8, 0, none⟩))])
    (fun _ _ => [(b8, .cells (Rc.c ⟨L, W, 0, M, 0, 0, false, 0, [], []⟩ (.slice none 0 0) (.slice none 0 0)).toArray 44 (0, 0)), (b7, .cells (prm L W 0 (.slice none 0 0)).toArray 31 (0, 0))]) 0 () (Nat.zero_le _) trivial ⟨rfl, rfl, rfl, trivial⟩ (List.Sublist.refl _) ?_
  intro i _ hi _
  refine z_ ?_
  (repeat refine RC.seq ?_); refine RC.wh rfl (fun h => RQ.next ?_) (fun h => ?_)
  · have hi' : i < 3 * L + 2 := by have h9 := of_decide_eq_true h; dsimp only at h9; omega
    clear h
    obtain ⟨e, he⟩ : ∃ e, e = i / L := ⟨_, rfl⟩
    have he4 : e ≤ 3 := by
      have : i / L < 4 := (Nat.div_lt_iff_lt_mul (by omega)).2 (by omega)
      omega
    have h1 : e * L ≤ i := by rw [he]; exact Nat.div_mul_le_self i L
    have h2 : i < (e + 1) * L := by rw [he]; exact Nat.lt_mul_of_div_lt (Nat.lt_succ_self _) (by omega)
    have h3 : (e + 1) * L = e * L + L := by rw [Nat.add_mul, Nat.one_mul]
    have hEp := fun w' => hEp i (by omega) w'
    rw [(win_epoch hL1 hL2 hWL (by omega)).1, (win_epoch hL1 hL2 hWL (by omega)).2, ← he] at hEp
    have hEa := fun w' => hEn (e : Int) w'
    rw [win_ends hL1 hL2 hWL (by omega) (by omega)] at hEa
    have hEb := fun w' => hEn ((e : Int) - 1) w'
    have hwo : ∀ k : Nat, k < 5 → openB M L W k (M + 1 + i : Nat) = decide (k + 1 = e ∧ i + 1 ≤ e * L + W) := fun k hk => by rw [he]; exact win_open hL1 hL2 hWL (by omega) hk
    refine z_ ?_
    refine Run.op1 (OpTo.cv Try.func25 (fun w' _ => hEp w')) (fun _ => ?_)
    refine z_ ?_
    refine RC.thenCut (Y := Unit) (fun _ => [(91, .bool false), (9, .int .i64 (M + 1 + i : Nat)), (10, .int .i64 (e : Nat)), (7, .pointer (some ⟨b7, 0, none⟩)), (8, .pointer (some ⟨b8, 0, none⟩))]) (fun _ => [(b8, .cells (Rc.c ⟨L, W, 0, M, 0, 0, false, 0, [], []⟩ (.slice none 0 0) (.slice none 0 0)).toArray 44 (0, 0)), (b7, .cells (prm L W 0 (.slice none 0 0)).toArray 31 (0, 0))]) ?_ (fun _ => ?_)
    · (repeat refine RC.seq ?_); refine RC.drawS mixed (N := 38) rfl ?_
      refine dt 0 ?_
      refine dt 1 ?_
      refine dt 2 ?_
      refine dt 3 ?_
      refine dt 4 ?_
      refine dt 5 ?_
      refine DR.c 6 (DOp.op1 rfl (OpTo.cv Try.func27 (fun w' _ => hEa w')) (fun _ => ?_))
      refine dt 7 ?_
      refine dt 8 ?_
      refine dt 9 ?_
      refine DR.sF 63 ?_
      refine dt 10 ?_
      refine dt 11 ?_
      refine dt 12 ?_
      by_cases h0 : 0 < e
      · rw [show ((e : Int) - 1) = ((e - 1 : Nat) : Int) by omega, win_ends hL1 hL2 hWL (by omega) (by omega), show e - 1 + 1 = e by omega] at hEb
        refine DR.sT 66 ?_
        refine dt 13 ?_
        refine dt 14 ?_
        refine dt 15 ?_
        refine dt 16 ?_
        rw [show ((e : Int) - 1) = ((e - 1 : Nat) : Int) by omega]
        refine DR.c 17 (DOp.op1 rfl (OpTo.cv Try.func27 (fun w' _ => hEb w')) (fun _ => ?_))
        refine dt 18 ?_
        refine dt 19 ?_
        refine dt 20 ?_
        refine dt 21 ?_
        refine DR.sF 75 ?_
        refine dt 22 ?_
        refine dt 23 ?_
        refine dt 25 ?_
        refine dt 26 ?_
        refine dt 27 ?_
        refine dt 30 ?_
        refine dt 31 ?_
        rw [show ((e : Int) - 1) = ((e - 1 : Nat) : Int) by omega]
        refine DR.c 24 (DOp.op1 rfl (OpTo.cv Try.func27 (fun w' _ => hEa w')) (fun _ => ?_))
        refine DR.c 28 (DOp.op1 rfl (OpTo.cv Try.func27 (fun w' _ => hEb w')) (fun _ => ?_))
        refine dt 29 ?_
        refine dt 32 ?_
        refine dt 33 ?_
        refine DR.p 34 rfl ?_
        refine DR.p 35 rfl ?_
        refine dt 36 ?_
        refine dt 37 ?_
        refine DR.done (by kernel_rfl) ?_
        exact RQ.to () ⟨rfl, rfl, rfl, rfl, rfl, trivial⟩ (List.Sublist.refl _)
      · obtain rfl : e = 0 := by omega
        rw [ends_no (by rintro ⟨-, h9, -⟩; omega)] at hEb
        refine DR.sF 66 ?_
        refine DR.p 13 rfl ?_
        refine DR.p 14 rfl ?_
        refine DR.p 15 rfl ?_
        refine DR.p 16 rfl ?_
        refine DR.p 17 rfl ?_
        refine DR.p 18 rfl ?_
        refine dt 19 ?_
        refine dt 20 ?_
        refine dt 21 ?_
        refine DR.sF 75 ?_
        refine dt 22 ?_
        refine dt 23 ?_
        refine dt 25 ?_
        refine dt 26 ?_
        refine dt 27 ?_
        refine dt 30 ?_
        refine dt 31 ?_
        refine DR.c 24 (DOp.op1 rfl (OpTo.cv Try.func27 (fun w' _ => hEa w')) (fun _ => ?_))
        refine DR.c 28 (DOp.op1 rfl (OpTo.cv Try.func27 (fun w' _ => hEb w')) (fun _ => ?_))
        refine dt 29 ?_
        refine dt 32 ?_
        refine dt 33 ?_
        refine DR.split 87 rfl (fun h => ?_) (fun h => ?_)
        · refine dt 34 ?_
          refine dt 35 ?_
          refine dt 36 ?_
          refine dt 37 ?_
          refine DR.done (by kernel_rfl) ?_
          exact RQ.to () ⟨rfl, rfl, rfl, rfl, rfl, trivial⟩ (List.Sublist.refl _)
        · refine DR.p 34 rfl ?_
          refine DR.p 35 rfl ?_
          refine dt 36 ?_
          refine dt 37 ?_
          refine DR.done (by kernel_rfl) ?_
          exact RQ.to () ⟨rfl, rfl, rfl, rfl, rfl, trivial⟩ (List.Sublist.refl _)
    refine z_ ?_
    refine RC.up 5 (D := Unit) (fun _ _ => True) (fun k _ => [(13, .int .i64 k), (12, .int .i64 (manyW L W i k : Nat)), (9, .int .i64 (M + 1 + i : Nat)), (10, .int .i64 (e : Nat)), (7, .pointer (some ⟨b7, 0, none⟩)), (8, .pointer (some ⟨b8, 0, none⟩))])
      (fun _ _ => [(b8, .cells (Rc.c ⟨L, W, 0, M, 0, 0, false, 0, [], []⟩ (.slice none 0 0) (.slice none 0 0)).toArray 44 (0, 0)), (b7, .cells (prm L W 0 (.slice none 0 0)).toArray 31 (0, 0))]) 0 () (Nat.zero_le _) trivial ⟨rfl, by rw [manyW_zero]; rfl, rfl, rfl, rfl, rfl, trivial⟩ (List.Sublist.refl _) ?_
    intro k _ hk _
    refine z_ ?_
    (repeat refine RC.seq ?_); refine RC.wh rfl (fun h => RQ.next ?_) (fun h => ?_)
    · have hk' : k < 5 := by have := of_decide_eq_true h; omega
      clear h
      have hO := fun w' => hOp k i w'
      rw [hwo k hk'] at hO
      refine z_ ?_
      refine Run.op1 (OpTo.cv Try.func29 (fun w' _ => hO w')) (fun _ => ?_)
      by_cases ho : k + 1 = e ∧ i + 1 ≤ e * L + W
      · have hm1 := manyW_yes (L := L) (W := W) (d := i) (i := k) (by rw [← he]; exact ho)
        have hm2 := manyW_le L W i k
        rw [decide_eq_true ho]
        refine z_ ?_
        exact RQ.up (k + 1) () (Nat.lt_succ_self _) hk' trivial ⟨rfl, by rw [hm1]; rfl, rfl, rfl, rfl, rfl, trivial⟩ (List.Sublist.refl _)
      · have hm1 := manyW_no (L := L) (W := W) (d := i) (i := k) (by rw [← he]; exact ho)
        rw [decide_eq_false ho]
        refine z_ ?_
        exact RQ.up (k + 1) () (Nat.lt_succ_self _) hk' trivial ⟨rfl, by rw [hm1]; rfl, rfl, rfl, rfl, rfl, trivial⟩ (List.Sublist.refl _)
    · have hk' : k = 5 := by have := of_decide_eq_false h; omega
      subst hk'
      clear h
      have hm2 := manyW_le L W i 5
      (repeat refine RQ.thenExit ?_); refine RQ.blockHere ?_
      refine RQ.next ?_
      (repeat refine RC.seq ?_)
      refine RC.thenCut (Y := Unit) (fun _ => [(125, .bool false), (9, .int .i64 (M + 1 + i : Nat)), (7, .pointer (some ⟨b7, 0, none⟩)), (8, .pointer (some ⟨b8, 0, none⟩))]) (fun _ => [(b8, .cells (Rc.c ⟨L, W, 0, M, 0, 0, false, 0, [], []⟩ (.slice none 0 0) (.slice none 0 0)).toArray 44 (0, 0)), (b7, .cells (prm L W 0 (.slice none 0 0)).toArray 31 (0, 0))]) ?_ (fun _ => ?_)
      · (repeat refine RC.seq ?_); refine RC.drawS mixed (N := 20) rfl ?_
        refine dt 0 ?_
        refine dt 1 ?_
        refine dt 2 ?_
        refine DR.sF 108 ?_
        refine dt 3 ?_
        refine dt 4 ?_
        refine dt 5 ?_
        refine dt 6 ?_
        refine dt 7 ?_
        by_cases h0 : 0 < e
        · rw [show ((e : Int) - 1) = ((e - 1 : Nat) : Int) by omega, win_ends hL1 hL2 hWL (by omega) (by omega), show e - 1 + 1 = e by omega] at hEb
          refine DR.sT 113 ?_
          refine dt 8 ?_
          refine dt 9 ?_
          refine dt 10 ?_
          refine dt 11 ?_
          refine dt 14 ?_
          refine dt 15 ?_
          rw [show ((e : Int) - 1) = ((e - 1 : Nat) : Int) by omega]
          refine DR.c 12 (DOp.op1 rfl (OpTo.cv Try.func27 (fun w' _ => hEb w')) (fun _ => ?_))
          refine dt 13 ?_
          refine dt 16 ?_
          refine dt 17 ?_
          have hfin : (((manyW L W i 5 : Nat) : Int) == 1) = decide (((M + 1 + i : Nat) : Int) - ((M + e * L : Nat) : Int) ≤ (W : Int)) := by
            rw [Bool.eq_iff_iff, beq_iff_eq, decide_eq_true_iff]
            unfold manyW
            rw [← he]
            split <;> omega
          refine DR.t 18 rfl (Val.eq (Val.neBool tabOk rfl rfl rfl rfl rfl) (show _ = Value.bool false from congrArg Value.bool (by rw [hfin]; exact bne_self_eq_false _))) ?_
          refine dt 19 ?_
          refine DR.done (by kernel_rfl) ?_
          exact RQ.to () ⟨rfl, rfl, rfl, rfl, trivial⟩ (List.Sublist.refl _)
        · obtain rfl : e = 0 := by omega
          refine DR.sF 113 ?_
          refine DR.p 8 rfl ?_
          refine DR.p 9 rfl ?_
          refine DR.p 10 rfl ?_
          refine DR.p 11 rfl ?_
          refine DR.p 12 rfl ?_
          refine DR.p 13 rfl ?_
          refine DR.p 14 rfl ?_
          refine DR.p 15 rfl ?_
          refine DR.p 16 rfl ?_
          refine dt 17 ?_
          have hfin : (((manyW L W i 5 : Nat) : Int) == 1) = false := by
            rw [beq_eq_false_iff_ne]
            unfold manyW
            rw [← he]
            simp
          refine DR.t 18 rfl (Val.eq (Val.neBool (b := false) tabOk rfl rfl rfl rfl rfl) (show _ = Value.bool false from congrArg Value.bool (by rw [hfin]; rfl))) ?_
          refine dt 19 ?_
          refine DR.done (by kernel_rfl) ?_
          exact RQ.to () ⟨rfl, rfl, rfl, rfl, trivial⟩ (List.Sublist.refl _)
      refine z_ ?_
      exact RQ.up (i + 1) () (Nat.lt_succ_self _) hi' trivial ⟨rfl, rfl, rfl, trivial⟩ (List.Sublist.refl _)
  · have hi' : i = 3 * L + 2 := by have h9 := of_decide_eq_false h; dsimp only at h9; omega
    subst hi'
    (repeat refine RQ.thenExit ?_); refine RQ.blockHere ?_
    refine z_ ?_
    have hE0 := fun w' => Epoch_calls L W 0 M (.slice none 0 0) (restC 0 0 false 0 (.slice none 0 0)) rfl rfl (M : Int) (by omega) w'
    obtain ⟨q1, q2⟩ := epoch_no (made := (M : Int)) (ln := (L : Int)) (wd := (W : Int)) (h := (M : Int)) (by rintro ⟨-, h9⟩; omega)
    rw [q1, q2] at hE0
    refine Run.op1 (OpTo.cv Try.func25 (fun w' _ => hE0 w')) (fun _ => ?_)
    refine z_ ?_
    exact RQ.ret1 rfl (Res.tmp rfl) fun w' hm => ⟨rfl, hm.fr⟩
end Go.Proofs.Ytnhnihkpacibgaa
