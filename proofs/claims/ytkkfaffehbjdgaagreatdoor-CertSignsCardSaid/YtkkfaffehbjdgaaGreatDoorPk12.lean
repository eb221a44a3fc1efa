/- Lemmas. -/
import Derived.Test.YtkkfaffehbjdgaaGreatDoorPk11
set_option linter.unusedSimpArgs false
set_option linter.unusedVariables false
section
/- merkle.turns, Check. -/
namespace Go.Sha
/-- Whether a proof leads from a leaf to a root, for any numbers. -/
def checkM (root x : List Nat) (zi zn : Int) (ps : List (List Nat)) : Bool := decide (1 ≤ zn ∧ zn ≤ 65536 ∧ 0 ≤ zi ∧ zi < zn) && leads root x zi.toNat zn.toNat ps
theorem chk_bad {root x : List Nat} {zi zn : Int} {ps : List (List Nat)} (h : zn < 1 ∨ 65536 < zn ∨ zi < 0 ∨ zn ≤ zi) : checkM root x zi zn ps = false := by
  unfold checkM
  rw [decide_eq_false (by omega)]; rfl
theorem chk_good {root x : List Nat} {i n : Nat} {ps : List (List Nat)} (h : i < n) (hn : n ≤ 65536) : checkM root x (i : Int) (n : Int) ps = leads root x i n ps := by
  unfold checkM
  rw [decide_eq_true (by omega)]; rfl
/-- Bools, as cells. -/
def bls (l : List Bool) : List Go.Value := l.map Go.Value.bool
theorem bls_len (l : List Bool) : (bls l).length = l.length := by simp [bls]
theorem upAll_take_succ (h : List Nat) (ts : List Bool) (ps : List (List Nat)) (k : Nat) (t : Bool) (p : List Nat) (ht : ts[k]? = some t) (hp : ps[k]? = some p) : upAll h (ts.take (k + 1)) (ps.take (k + 1)) = upStep (upAll h (ts.take k) (ps.take k)) t p := by
  have h1 := (List.getElem?_eq_some_iff.1 ht).1
  have h2 := (List.getElem?_eq_some_iff.1 hp).1
  rw [List.take_succ_eq_append_getElem h1, List.take_succ_eq_append_getElem h2, (List.getElem?_eq_some_iff.1 ht).2, (List.getElem?_eq_some_iff.1 hp).2]
  exact upAll_snoc _ _ _ _ _ (by rw [List.length_take, List.length_take]; omega)
theorem upAll_8 : ∀ (ts : List Bool) (ps : List (List Nat)) (h : List Nat), h.length = 8 → (∀ x ∈ h, x < 256) → (upAll h ts ps).length = 8 ∧ ∀ x ∈ upAll h ts ps, x < 256
  | [], [], h, h1, h2 => ⟨h1, h2⟩
  | [], _ :: _, h, h1, h2 => ⟨h1, h2⟩
  | _ :: _, [], h, h1, h2 => ⟨h1, h2⟩
  | t :: ts, p :: ps, h, _, _ => by
    show (upAll (upStep h t p) ts ps).length = 8 ∧ ∀ x ∈ upAll (upStep h t p) ts ps, x < 256
    refine upAll_8 ts ps _ ?_ ?_ <;> unfold upStep <;> split
    · exact digest_len _ _
    · exact digest_len _ _
    · exact digest_lt _ _
    · exact digest_lt _ _
end Go.Sha
namespace Go.Proofs.YtkkfaffehbjdgaaGreatDoor
open Go Go.Vc Go.Sha

set_option maxRecDepth 10000 in set_option maxHeartbeats 4000000 in
theorem turns_calls (i0 n0 : Nat) (hi0 : i0 < n0) (hn0 : n0 ≤ 65536) (w : World) :
    Makes Tryz.prog 130 [.int .i64 i0, .int .i64 n0] w 4 1 (turnsN i0 n0).length (bls (turnsN i0 n0)) := by
  refine enter Tryz.func130 rfl (Mem.nil w []) rfl ?_
  have hle0 := turnsN_le _ i0 n0 rfl
  (repeat refine RC.seq ?_); refine RC.region ?_
  refine Run.a (Val.of rfl) ?_
  refine Run.nil (RQ.next ?_)
  (repeat refine RC.seq ?_); refine RC.region ?_
  refine Run.a (Val.of rfl) ?_
  refine Run.nil (RQ.next ?_)
  (repeat refine RC.seq ?_); refine RC.block ?_
  refine RC.up n0 (D := Nat × Nat × List Bool × Value × Hp) (fun j x => x.1 < x.2.1 ∧ x.2.1 + j ≤ n0 ∧ turnsN i0 n0 = turnsN x.1 x.2.1 ++ x.2.2.1 ∧ Own 4 1 x.2.2.2.1 x.2.2.1.length (bls x.2.2.1) x.2.2.2.2)
    (fun _ x => [(0, .int .i64 x.1), (1, .int .i64 x.2.1), (5, x.2.2.2.1)])
    (fun _ x => x.2.2.2.2)
    0 (i0, n0, [], _, []) (Nat.zero_le _) ⟨hi0, Nat.le_refl _, (List.append_nil _).symm, Own.nil⟩ ⟨rfl, rfl, rfl, trivial⟩ (List.nil_sublist _) ?_
  rintro j ⟨i, n, ts, v5, bl5⟩ hj ⟨hin, hnj, hT, hown⟩
  dsimp only at hin hnj hT hown ⊢
  (repeat refine RC.seq ?_); refine RC.region ?_
  refine Run.a (Val.of rfl) ?_
  refine Run.a (Val.eq (Val.of rfl) (show _ = Value.bool (decide (1 < n)) from congrArg Value.bool (by rw [decide_eq_decide]; omega))) ?_
  refine Run.nil (RQ.next ?_)
  (repeat refine RC.seq ?_); refine RC.wh rfl (fun h => RQ.next ?_) (fun h => ?_)
  · have h1 := of_decide_eq_true h
    clear h
    have hc := cut_lt (n := n) (by omega)
    have hp := cut_pos n
    have hlen : (turnsN i0 n0).length = (turnsN i n).length + ts.length := by rw [hT, List.length_append]
    (repeat refine RC.seq ?_); refine RC.block ?_
    (repeat refine RC.seq ?_); refine RC.region ?_
    refine Run.a (Val.of rfl) ?_
    refine Run.callV Tryz.func139 rfl rfl rfl rfl rfl rfl rfl (fun w' _ => half_calls n (by omega) (by omega) w') ?_
    refine Run.a (Val.of rfl) ?_
    refine Run.nil (RQ.next ?_)
    (repeat refine RC.seq ?_); refine RC.region ?_
    refine Run.a (Val.of rfl) ?_
    refine Run.a (Val.of rfl) ?_
    refine Run.a (Val.eq (Val.of rfl) (show _ = Value.bool (decide (cut n ≤ i)) from congrArg Value.bool (by rw [decide_eq_decide]; omega))) ?_
    refine Run.a (Val.of rfl) ?_
    refine Run.nil (RQ.next ?_)
    (repeat refine RC.seq ?_); refine RC.region ?_
    refine Run.a (Val.of rfl) ?_
    refine Run.nw (New.buildSlice tabOk (parts := [(0, .tmp 15)]) (cells := [Value.bool (decide (cut n ≤ i))].toArray) rfl rfl rfl rfl rfl rfl (fillS_full 1 1 _ [Value.bool (decide (cut n ≤ i))] rfl (by simp [Value.cells]))) ?_
    intro b16
    refine Run.a (Val.of rfl) ?_
    refine Run.op rfl (OpTo.append tabOk (Own.row b16 1 1 [Value.bool (decide (cut n ≤ i))] [] rfl rfl (Nat.le_refl _) (by decide)) (Own.src hown (fun q hq => List.mem_cons_of_mem _ hq)) rfl rfl rfl rfl rfl rfl rfl rfl rfl (List.Perm.refl _) (fun u hu => by simp only [bls, List.mem_map] at hu; obtain ⟨b, _, rfl⟩ := hu; rfl) (by unfold maxLen; omega) (by simp only [ti4]; omega)) ?_
    rintro ⟨⟨v6, bl6⟩, hown6⟩
    refine Run.a (Val.of rfl) ?_
    refine Run.nil (RQ.next ?_)
    dsimp only at hown6 ⊢
    have hown7 : Own 4 1 v6 (decide (cut n ≤ i) :: ts).length (bls (decide (cut n ≤ i) :: ts)) bl6 := by
      have h9 := hown6
      rw [show 1 + ts.length = (decide (cut n ≤ i) :: ts).length by rw [List.length_cons]; omega] at h9
      exact h9
    (repeat refine RC.seq ?_); refine RC.region ?_
    refine Run.a (Val.of rfl) ?_
    refine Run.nil (RQ.next ?_)
    (repeat refine RC.seq ?_); refine RC.cond rfl (fun h => ?_) (fun h => ?_)
    · have hk := of_decide_eq_true h
      clear h
      have e9 := turnsN_right (n := n) (i := i) (by omega) hk
      refine RC.region ?_
      refine Run.a (Val.of rfl) ?_
      refine Run.a (Val.of rfl) ?_
      refine Run.a (Val.eq (Val.ar rfl rfl rfl rfl (by dsimp only [inK]; omega)) (show _ = Value.int .i64 ((i - cut n : Nat) : Int) from by congr 1; omega)) ?_
      refine Run.a (Val.of rfl) ?_
      refine Run.a (Val.of rfl) ?_
      refine Run.a (Val.eq (Val.ar rfl rfl rfl rfl (by dsimp only [inK]; omega)) (show _ = Value.int .i64 ((n - cut n : Nat) : Int) from by congr 1; omega)) ?_
      refine Run.a (Val.of rfl) ?_
      refine Run.a (Val.of rfl) ?_
      rw [decide_eq_true hk] at hown7
      exact Run.nil (RQ.blockNormal (RQ.up (j + 1) (i - cut n, n - cut n, true :: ts, v6, bl6) (Nat.lt_succ_self _) (by omega) ⟨by show i - cut n < n - cut n; omega, by show n - cut n + (j + 1) ≤ n0; omega, by rw [hT, e9, List.append_assoc]; rfl, hown7⟩ ⟨rfl, rfl, rfl, trivial⟩ (List.sublist_append_left _ _)))
    · have hk := of_decide_eq_false h
      clear h
      have e9 := turnsN_left (n := n) (i := i) (by omega) (by omega)
      refine RC.region ?_
      refine Run.a (Val.of rfl) ?_
      refine Run.a (Val.of rfl) ?_
      rw [decide_eq_false hk] at hown7
      exact Run.nil (RQ.blockNormal (RQ.up (j + 1) (i, cut n, false :: ts, v6, bl6) (Nat.lt_succ_self _) (by omega) ⟨by show i < cut n; omega, by show cut n + (j + 1) ≤ n0; omega, by rw [hT, e9, List.append_assoc]; rfl, hown7⟩ ⟨rfl, rfl, rfl, trivial⟩ (List.sublist_append_left _ _)))
  · have h1 := of_decide_eq_false h
    rw [turnsN_small (n := n) (by omega), List.nil_append] at hT
    (repeat refine RQ.thenExit ?_); refine RQ.blockHere ?_
    refine RQ.next ?_
    (repeat refine RC.seq ?_); refine RC.region ?_
    refine Run.a (Val.of rfl) ?_
    refine Run.a (Val.of rfl) ?_
    refine Run.nil (RQ.next ?_)
    refine RC.ret ?_; (repeat first | refine RQ.thenRet ?_ | refine RQ.blockRet ?_)
    rw [hT]
    exact RQ.ret1 rfl (Res.tmp rfl) fun w' hm => Makes.of (L' := []) hown (by simpa using hm)

set_option maxRecDepth 10000 in set_option maxHeartbeats 4000000 in
theorem Check_calls (root x : List Nat) (ps : List (List Nat)) (hr8 : root.length = 8) (hx8 : x.length = 8) (hxlt : ∀ b ∈ x, b < 256) (hH : HL ps) (zi zn : Int) (v : Value) (w : World) (hs : SrcW w 8 v ps.length (u8s ps.flatten)) (hps : ps.length ≤ 9223372036854775807) (hK : Laid w) :
    Gives Tryz.prog 117 [.agg (u8s root).toArray, .agg (u8s x).toArray, .int .i64 zi, .int .i64 zn, v] (.bool (checkM root x zi zn ps)) w := by
  obtain ⟨va, vc, rfl, hvc⟩ := hs.shape
  refine enter Tryz.func117 rfl (Mem.nil w []) rfl ?_
  (repeat refine RC.seq ?_); refine RC.region ?_
  refine Run.nw (New.boxA rfl rfl) ?_
  intro b5
  refine Run.nw (New.boxA rfl rfl) ?_
  intro b6
  refine Run.a (Val.of rfl) ?_
  refine Run.nil (RQ.next ?_)
  by_cases hN1 : zn < 1
  · rw [chk_bad (.inl hN1)]
    (repeat refine RC.seq ?_); refine RC.region ?_
    refine Run.a (Val.of rfl) ?_
    refine Run.a (Val.eq (Val.of rfl) (show _ = Value.bool true from congrArg Value.bool (decide_eq_true (by omega)))) ?_
    refine Run.a (Val.of rfl) ?_
    refine Run.sk ?_
    refine Run.sk ?_
    refine Run.a (Val.of rfl) ?_
    refine Run.a (Val.of rfl) ?_
    refine Run.sk ?_
    refine Run.sk ?_
    refine Run.a (Val.of rfl) ?_
    refine Run.a (Val.of rfl) ?_
    refine Run.sk ?_
    refine Run.sk ?_
    refine Run.sk ?_
    refine Run.a (Val.of rfl) ?_
    refine Run.nil (RQ.next ?_)
    (repeat refine RC.seq ?_); refine RC.condT rfl rfl ?_
    (repeat refine RC.seq ?_); refine RC.region ?_
    refine Run.a (Val.of rfl) ?_
    refine Run.nil (RQ.next ?_)
    refine RC.ret ?_; (repeat first | refine RQ.thenRet ?_ | refine RQ.blockRet ?_); exact RQ.ret1 rfl (Res.tmp rfl) fun w' hm => ⟨rfl, hm.fr⟩
  by_cases hN2 : 65536 < zn
  · rw [chk_bad (.inr (.inl hN2))]
    (repeat refine RC.seq ?_); refine RC.region ?_
    refine Run.a (Val.of rfl) ?_
    refine Run.a (Val.eq (Val.of rfl) (show _ = Value.bool false from congrArg Value.bool (decide_eq_false (by omega)))) ?_
    refine Run.a (Val.of rfl) ?_
    refine Run.a (Val.of rfl) ?_
    refine Run.a (Val.eq (Val.of rfl) (show _ = Value.bool true from congrArg Value.bool (decide_eq_true (by omega)))) ?_
    refine Run.a (Val.of rfl) ?_
    refine Run.a (Val.of rfl) ?_
    refine Run.sk ?_
    refine Run.sk ?_
    refine Run.a (Val.of rfl) ?_
    refine Run.a (Val.of rfl) ?_
    refine Run.sk ?_
    refine Run.sk ?_
    refine Run.sk ?_
    refine Run.a (Val.of rfl) ?_
    refine Run.nil (RQ.next ?_)
    (repeat refine RC.seq ?_); refine RC.condT rfl rfl ?_
    (repeat refine RC.seq ?_); refine RC.region ?_
    refine Run.a (Val.of rfl) ?_
    refine Run.nil (RQ.next ?_)
    refine RC.ret ?_; (repeat first | refine RQ.thenRet ?_ | refine RQ.blockRet ?_); exact RQ.ret1 rfl (Res.tmp rfl) fun w' hm => ⟨rfl, hm.fr⟩
  by_cases hI1 : zi < 0
  · rw [chk_bad (.inr (.inr (.inl hI1)))]
    (repeat refine RC.seq ?_); refine RC.region ?_
    refine Run.a (Val.of rfl) ?_
    refine Run.a (Val.eq (Val.of rfl) (show _ = Value.bool false from congrArg Value.bool (decide_eq_false (by omega)))) ?_
    refine Run.a (Val.of rfl) ?_
    refine Run.a (Val.of rfl) ?_
    refine Run.a (Val.eq (Val.of rfl) (show _ = Value.bool false from congrArg Value.bool (decide_eq_false (by omega)))) ?_
    refine Run.a (Val.of rfl) ?_
    refine Run.a (Val.of rfl) ?_
    refine Run.a (Val.of rfl) ?_
    refine Run.a (Val.eq (Val.of rfl) (show _ = Value.bool true from congrArg Value.bool (decide_eq_true (by omega)))) ?_
    refine Run.a (Val.of rfl) ?_
    refine Run.a (Val.of rfl) ?_
    refine Run.sk ?_
    refine Run.sk ?_
    refine Run.sk ?_
    refine Run.a (Val.of rfl) ?_
    refine Run.nil (RQ.next ?_)
    (repeat refine RC.seq ?_); refine RC.condT rfl rfl ?_
    (repeat refine RC.seq ?_); refine RC.region ?_
    refine Run.a (Val.of rfl) ?_
    refine Run.nil (RQ.next ?_)
    refine RC.ret ?_; (repeat first | refine RQ.thenRet ?_ | refine RQ.blockRet ?_); exact RQ.ret1 rfl (Res.tmp rfl) fun w' hm => ⟨rfl, hm.fr⟩
  by_cases hI2 : zn ≤ zi
  · rw [chk_bad (.inr (.inr (.inr hI2)))]
    (repeat refine RC.seq ?_); refine RC.region ?_
    refine Run.a (Val.of rfl) ?_
    refine Run.a (Val.eq (Val.of rfl) (show _ = Value.bool false from congrArg Value.bool (decide_eq_false (by omega)))) ?_
    refine Run.a (Val.of rfl) ?_
    refine Run.a (Val.of rfl) ?_
    refine Run.a (Val.eq (Val.of rfl) (show _ = Value.bool false from congrArg Value.bool (decide_eq_false (by omega)))) ?_
    refine Run.a (Val.of rfl) ?_
    refine Run.a (Val.of rfl) ?_
    refine Run.a (Val.of rfl) ?_
    refine Run.a (Val.eq (Val.of rfl) (show _ = Value.bool false from congrArg Value.bool (decide_eq_false (by omega)))) ?_
    refine Run.a (Val.of rfl) ?_
    refine Run.a (Val.of rfl) ?_
    refine Run.a (Val.of rfl) ?_
    refine Run.a (Val.of rfl) ?_
    refine Run.a (Val.eq (Val.of rfl) (show _ = Value.bool true from congrArg Value.bool (decide_eq_true (by omega)))) ?_
    refine Run.a (Val.of rfl) ?_
    refine Run.nil (RQ.next ?_)
    (repeat refine RC.seq ?_); refine RC.condT rfl rfl ?_
    (repeat refine RC.seq ?_); refine RC.region ?_
    refine Run.a (Val.of rfl) ?_
    refine Run.nil (RQ.next ?_)
    refine RC.ret ?_; (repeat first | refine RQ.thenRet ?_ | refine RQ.blockRet ?_); exact RQ.ret1 rfl (Res.tmp rfl) fun w' hm => ⟨rfl, hm.fr⟩
  obtain ⟨i, rfl⟩ := Int.eq_ofNat_of_zero_le (show 0 ≤ zi by omega)
  obtain ⟨m, rfl⟩ := Int.eq_ofNat_of_zero_le (show 0 ≤ zn by omega)
  rw [chk_good (root := root) (x := x) (ps := ps) (i := i) (n := m) (by omega) (by omega)]
  (repeat refine RC.seq ?_); refine RC.region ?_
  refine Run.a (Val.of rfl) ?_
  refine Run.a (Val.eq (Val.of rfl) (show _ = Value.bool false from congrArg Value.bool (decide_eq_false (by omega)))) ?_
  refine Run.a (Val.of rfl) ?_
  refine Run.a (Val.of rfl) ?_
  refine Run.a (Val.eq (Val.of rfl) (show _ = Value.bool false from congrArg Value.bool (decide_eq_false (by omega)))) ?_
  refine Run.a (Val.of rfl) ?_
  refine Run.a (Val.of rfl) ?_
  refine Run.a (Val.of rfl) ?_
  refine Run.a (Val.eq (Val.of rfl) (show _ = Value.bool false from congrArg Value.bool (decide_eq_false (by omega)))) ?_
  refine Run.a (Val.of rfl) ?_
  refine Run.a (Val.of rfl) ?_
  refine Run.a (Val.of rfl) ?_
  refine Run.a (Val.of rfl) ?_
  refine Run.a (Val.eq (Val.of rfl) (show _ = Value.bool false from congrArg Value.bool (decide_eq_false (by omega)))) ?_
  refine Run.a (Val.of rfl) ?_
  refine Run.nil (RQ.next ?_)
  (repeat refine RC.seq ?_); refine RC.condF rfl rfl (RC.skip (RQ.next ?_))
  have hmx := turnsN_le _ i m rfl
  (repeat refine RC.seq ?_); refine RC.region ?_
  refine Run.a (Val.of rfl) ?_
  refine Run.a (Val.of rfl) ?_
  refine Run.op rfl (OpTo.callMk Tryz.func130 rfl rfl rfl rfl rfl rfl (fun w' _ => turns_calls i m (by omega) (by omega) w')) ?_
  rintro ⟨⟨v11, bl11⟩, hown⟩
  dsimp only at hown ⊢
  refine Run.a (Val.of rfl) ?_
  refine Run.nil (RQ.next ?_)
  obtain ⟨ta, tc, htv, htc⟩ := hown.shape
  (repeat refine RC.seq ?_); refine RC.region ?_
  refine Run.a (Val.of rfl) ?_
  refine Run.a (Val.len (len := (turnsN i m).length) tabOk rfl rfl rfl (by rw [htv]; rfl)) ?_
  refine Run.a (Val.of rfl) ?_
  refine Run.a (Val.len (len := ps.length) tabOk rfl rfl rfl rfl) ?_
  refine Run.a (Val.eq (Val.of rfl) (show _ = Value.bool (decide ((turnsN i m).length ≠ ps.length)) from congrArg Value.bool (by rw [Bool.eq_iff_iff, bne_iff_ne, decide_eq_true_iff]; omega))) ?_
  refine Run.nil (RQ.next ?_)
  (repeat refine RC.seq ?_); refine RC.cond rfl (fun h => ?_) (fun h => ?_)
  · have h1 := of_decide_eq_true h
    rw [show leads root x i m ps = false by unfold leads; rw [decide_eq_false h1]; rfl]
    (repeat refine RC.seq ?_); refine RC.region ?_
    refine Run.a (Val.of rfl) ?_
    refine Run.nil (RQ.next ?_)
    refine RC.ret ?_; (repeat first | refine RQ.thenRet ?_ | refine RQ.blockRet ?_); exact RQ.ret1 rfl (Res.tmp rfl) fun w' hm => ⟨rfl, hm.fr⟩
  have hlen : (turnsN i m).length = ps.length := by have := of_decide_eq_false h; omega
  clear h
  rw [show leads root x i m ps = decide (upAll (leafN x) (turnsN i m) ps = root) by unfold leads; rw [decide_eq_true hlen]; rfl]
  have hlf : (leafN x).length = 8 := digest_len _ _
  have hlflt : ∀ b ∈ leafN x, b < 256 := digest_lt _ _
  refine RC.skip (RQ.next ?_)
  (repeat refine RC.seq ?_); refine RC.region ?_
  refine Run.a (Val.loadU tabOk rfl rfl rfl rfl (by repeat (first | exact List.mem_cons_self | apply List.mem_cons_of_mem | apply List.mem_append_right)) hx8) ?_
  refine Run.callV Tryz.func131 rfl rfl rfl rfl rfl rfl rfl (fun w' hm => leaf_calls x hx8 hxlt w' (hK.fr hm.fr (by simp))) ?_
  refine Run.nw (New.alloc tabOk rfl rfl) ?_
  intro b12
  refine Run.op1 (OpTo.setAll tabOk rfl rfl rfl rfl rfl (List.Perm.refl _) hlf rfl) (fun _ => ?_)
  refine Run.nil (RQ.next ?_)
  (repeat refine RC.seq ?_); refine RC.region ?_
  refine Run.a (Val.of rfl) ?_
  refine Run.a (Val.len (len := ps.length) tabOk rfl rfl rfl rfl) ?_
  refine Run.a (Val.of rfl) ?_
  refine Run.nil (RQ.next ?_)
  (repeat refine RC.seq ?_); refine RC.block ?_
  refine RC.up ps.length (D := Unit) (fun _ _ => True)
    (fun k _ => [(42, .int .i64 k), (41, .int .i64 ps.length), (40, .slice va ps.length vc), (11, v11), (12, .pointer (some ⟨b12, 0, none⟩)), (5, .pointer (some ⟨b5, 0, none⟩))])
    (fun k _ => (b12, .cells (u8s (upAll (leafN x) ((turnsN i m).take k) (ps.take k))).toArray 32 (0, 0)) :: (bl11 ++ [(b6, .cells (u8s x).toArray 32 (0, 0)), (b5, .cells (u8s root).toArray 32 (0, 0))]))
    0 () (Nat.zero_le _) trivial ⟨rfl, rfl, rfl, rfl, rfl, rfl, trivial⟩ (List.Sublist.refl _) ?_
  intro k _ hk _
  obtain ⟨u1, u2⟩ := upAll_8 ((turnsN i m).take k) (ps.take k) (leafN x) hlf hlflt
  (repeat refine RC.seq ?_); refine RC.region ?_
  refine Run.a (Val.of rfl) ?_
  refine Run.nil (RQ.next ?_)
  (repeat refine RC.seq ?_); refine RC.wh rfl (fun h => RQ.next ?_) (fun h => ?_)
  · have hk' : k < ps.length := by have := of_decide_eq_true h; omega
    clear h
    obtain ⟨p, hp⟩ : ∃ p, ps[k]? = some p := ⟨_, List.getElem?_eq_getElem hk'⟩
    obtain ⟨t, ht⟩ : ∃ t, (turnsN i m)[k]? = some t := ⟨_, List.getElem?_eq_getElem (by omega)⟩
    have hsucc := upAll_take_succ (leafN x) (turnsN i m) ps k t p ht hp
    have hp8 := hH p (List.mem_of_getElem? hp)
    have hpf := pc_flat hH hp
    obtain ⟨ad, c, hve, hc, hcl, hr⟩ := hs.pos (by omega)
    cases hve
    obtain ⟨bt, cap, rest, rfl, rfl, g1, g2, g3, g4⟩ := hown.pos (by omega)
    have hbt : ((bls (turnsN i m) ++ rest).toArray)[k]? = some (.bool t) := by
      rw [List.getElem?_toArray, List.getElem?_append_left (by rw [bls_len]; omega)]
      simp [bls, ht]
    generalize upAll (leafN x) ((turnsN i m).take k) (ps.take k) = cur at *
    generalize hnx : upAll (leafN x) ((turnsN i m).take (k + 1)) (ps.take (k + 1)) = nxt at *
    (repeat refine RC.seq ?_); refine RC.block ?_
    (repeat refine RC.seq ?_); refine RC.region ?_
    refine Run.a (Val.of rfl) ?_
    refine Run.a (Val.ixS tabOk k (ad' := ad.add (k * 8)) rfl rfl rfl rfl rfl rfl rfl hk' rfl) ?_
    refine Run.a (Val.loadOld tabOk (cs := u8s p) rfl rfl rfl rfl (by simp) (by rw [u8s_len, hp8.1]; rfl) (fun j u hj => by rw [add_add]; refine hr _ u ?_; have := pc_row (c := 8) (l := ps.flatten) k j u (by rw [hpf]; exact hj); rwa [List.getElem?_toArray] at this)) ?_
    refine Run.nw (New.alloc tabOk rfl rfl) ?_
    intro b14
    refine Run.a (Val.of rfl) ?_
    refine Run.op1 (OpTo.setAll tabOk rfl rfl rfl rfl rfl (List.Perm.refl _) hp8.1 rfl) (fun _ => ?_)
    refine Run.nil (RQ.next ?_)
    (repeat refine RC.seq ?_); refine RC.region ?_
    refine Run.a (Val.of rfl) ?_
    refine Run.a (Val.of rfl) ?_
    refine Run.a (Val.ixS tabOk k (ad' := ⟨bt, k, none⟩) rfl rfl rfl rfl rfl rfl rfl (by omega) (by rw [add_lit]; simp [ti4])) ?_
    refine Run.a (Val.load (v := .bool t) tabOk rfl rfl rfl (by repeat (first | exact List.mem_cons_self | apply List.mem_cons_of_mem | apply List.mem_append_right)) hbt) ?_
    refine Run.nil (RQ.next ?_)
    (repeat refine RC.seq ?_); refine RC.cond rfl (fun h => ?_) (fun h => ?_)
    · subst h
      have hn : nxt = joinN p cur := by rw [hsucc]; rfl
      refine RC.region ?_
      refine Run.a (Val.loadU tabOk rfl rfl rfl rfl (by repeat (first | exact List.mem_cons_self | apply List.mem_cons_of_mem | apply List.mem_append_right)) hp8.1) ?_
      refine Run.a (Val.loadU tabOk rfl rfl rfl rfl (by repeat (first | exact List.mem_cons_self | apply List.mem_cons_of_mem | apply List.mem_append_right)) u1) ?_
      refine Run.callV Tryz.func132 rfl rfl rfl rfl rfl rfl rfl (fun w' hm => join_calls p cur hp8.1 u1 hp8.2 u2 w' (hK.fr hm.fr (by simp))) ?_
      rw [← hn]
      refine Run.op1 (OpTo.setAll tabOk rfl rfl rfl rfl rfl p1 (by rw [hn]; exact joinN_len _ _) (by simp [u8s_len, u1]; rfl)) (fun _ => ?_)
      subst hnx
      refine Run.nil (RQ.blockNormal (RQ.next ?_))
      refine RC.region ?_
      repeat (first | refine Run.a Val.ra ?_ | refine Run.a (Val.of rfl) ?_)
      exact Run.nil (RQ.up (k + 1) () (Nat.lt_succ_self _) hk' trivial ⟨rfl, rfl, rfl, rfl, rfl, rfl, trivial⟩ (List.Sublist.cons_cons _ (List.Sublist.cons _ (List.Sublist.refl _))))
    · subst h
      have hn : nxt = joinN cur p := by rw [hsucc]; rfl
      refine RC.region ?_
      refine Run.a (Val.loadU tabOk rfl rfl rfl rfl (by repeat (first | exact List.mem_cons_self | apply List.mem_cons_of_mem | apply List.mem_append_right)) u1) ?_
      refine Run.a (Val.loadU tabOk rfl rfl rfl rfl (by repeat (first | exact List.mem_cons_self | apply List.mem_cons_of_mem | apply List.mem_append_right)) hp8.1) ?_
      refine Run.callV Tryz.func132 rfl rfl rfl rfl rfl rfl rfl (fun w' hm => join_calls cur p u1 hp8.1 u2 hp8.2 w' (hK.fr hm.fr (by simp))) ?_
      rw [← hn]
      refine Run.op1 (OpTo.setAll tabOk rfl rfl rfl rfl rfl p1 (by rw [hn]; exact joinN_len _ _) (by simp [u8s_len, u1]; rfl)) (fun _ => ?_)
      subst hnx
      refine Run.nil (RQ.blockNormal (RQ.next ?_))
      refine RC.region ?_
      repeat (first | refine Run.a Val.ra ?_ | refine Run.a (Val.of rfl) ?_)
      exact Run.nil (RQ.up (k + 1) () (Nat.lt_succ_self _) hk' trivial ⟨rfl, rfl, rfl, rfl, rfl, rfl, trivial⟩ (List.Sublist.cons_cons _ (List.Sublist.cons _ (List.Sublist.refl _))))
  · have hk' : k = ps.length := by have := of_decide_eq_false h; omega
    subst hk'
    rw [List.take_of_length_le (show (turnsN i m).length ≤ ps.length by omega), List.take_length] at u1 ⊢
    generalize upAll (leafN x) (turnsN i m) ps = cur at *
    (repeat refine RQ.thenExit ?_); refine RQ.blockHere ?_
    refine RQ.next ?_
    (repeat refine RC.seq ?_); refine RC.region ?_
    refine Run.a (Val.loadU tabOk rfl rfl rfl rfl (by repeat (first | exact List.mem_cons_self | apply List.mem_cons_of_mem | apply List.mem_append_right)) u1) ?_
    refine Run.a (Val.loadU tabOk rfl rfl rfl rfl (by repeat (first | exact List.mem_cons_self | apply List.mem_cons_of_mem | apply List.mem_append_right)) hr8) ?_
    refine Run.a (Val.eqU (m := 8) (a := cur) (b := root) tabOk rfl rfl rfl (by kernel_rfl) (by kernel_rfl) rfl rfl u1 hr8) ?_
    refine Run.a (Val.of rfl) ?_
    refine Run.nil (RQ.next ?_)
    refine RC.ret ?_; (repeat first | refine RQ.thenRet ?_ | refine RQ.blockRet ?_); exact RQ.ret1 rfl (Res.tmp rfl) fun w' hm => ⟨rfl, hm.fr⟩
end Go.Proofs.YtkkfaffehbjdgaaGreatDoor

/- The reference's up, CheckRow. -/
namespace Go.Sha
theorem upRef_one (x : List Nat) (i : Nat) (ps : List (List Nat)) : upRef x i 1 ps = (leafN x, decide (ps.length = 0)) := by rw [upRef, dif_pos (Nat.le_refl 1)]
theorem upRef_nil (x : List Nat) (i n : Nat) (h : 2 ≤ n) : upRef x i n [] = (zero8, false) := by rw [upRef, dif_neg (by omega)]; rfl
theorem upRef_last {ps : List (List Nat)} {p : List Nat} (hp : ps[ps.length - 1]? = some p) : ps.getLast? = some p ∧ ps.dropLast = ps.take (ps.length - 1) := ⟨by rw [List.getLast?_eq_getElem?, hp], List.dropLast_eq_take⟩
theorem upRef_left (x : List Nat) (i n : Nat) {ps : List (List Nat)} {p : List Nat} (h : 2 ≤ n) (hp : ps[ps.length - 1]? = some p) (hk : i < cut n) :
    upRef x i n ps = (joinN (upRef x i (cut n) (ps.take (ps.length - 1))).1 p, (upRef x i (cut n) (ps.take (ps.length - 1))).2) := by
  rw [upRef, dif_neg (by omega), (upRef_last hp).1, (upRef_last hp).2]
  simp only [if_pos hk]
theorem upRef_right (x : List Nat) (i n : Nat) {ps : List (List Nat)} {p : List Nat} (h : 2 ≤ n) (hp : ps[ps.length - 1]? = some p) (hk : ¬ i < cut n) :
    upRef x i n ps = (joinN p (upRef x (i - cut n) (n - cut n) (ps.take (ps.length - 1))).1, (upRef x (i - cut n) (n - cut n) (ps.take (ps.length - 1))).2) := by
  rw [upRef, dif_neg (by omega), (upRef_last hp).1, (upRef_last hp).2]
  simp only [if_neg hk]
theorem upRef_8 (x : List Nat) (i n : Nat) (ps : List (List Nat)) : (upRef x i n ps).1.length = 8 ∧ ∀ b ∈ (upRef x i n ps).1, b < 256 := by
  rw [upRef]
  split
  · exact ⟨digest_len _ _, digest_lt _ _⟩
  · split
    · refine ⟨rfl, ?_⟩
      intro b hb
      simp [zero8] at hb
      omega
    · split
      · exact ⟨digest_len _ _, digest_lt _ _⟩
      · exact ⟨digest_len _ _, digest_lt _ _⟩
end Go.Sha
namespace Go.Proofs.YtkkfaffehbjdgaaGreatDoor
open Go Go.Vc Go.Sha

set_option maxRecDepth 10000 in set_option maxHeartbeats 4000000 in
theorem ref_up_calls : ∀ (N n : Nat), n = N → 1 ≤ n → n ≤ 65536 → ∀ (x : List Nat) (i : Nat) (ps : List (List Nat)), x.length = 8 → (∀ b ∈ x, b < 256) → i < n → HL ps → ps.length ≤ 9223372036854775807 → ∀ (v : Value) (w : World), SrcW w 8 v ps.length (u8s ps.flatten) →
    Gives Tryz.prog 136 [.agg (u8s x).toArray, .int .i64 i, .int .i64 n, v] (.tuple #[.agg (u8s (upRef x i n ps).1).toArray, .bool (upRef x i n ps).2]) w := by
  intro N
  induction N using Nat.strongRecOn with
  | _ N ih =>
  intro n hN h1 hn x i ps hx8 hxlt hi hH hpl v w hs
  refine enter Tryz.func136 rfl (Mem.nil w []) rfl ?_
  obtain ⟨a, c, hv, hac⟩ := hs.shape
  (repeat refine RC.seq ?_); refine RC.region ?_
  refine Run.nw (New.boxA rfl rfl) ?_
  intro b4
  refine Run.nw (New.alloc tabOk rfl rfl) ?_
  intro b8
  refine Run.a (Val.of rfl) ?_
  refine Run.nil (RQ.next ?_)
  (repeat refine RC.seq ?_); refine RC.region ?_
  refine Run.a (Val.of rfl) ?_
  refine Run.a (Val.eq (Val.of rfl) (show _ = Value.bool (decide (n = 1)) from congrArg Value.bool (by rw [Bool.eq_iff_iff, beq_iff_eq, decide_eq_true_iff]; omega))) ?_
  refine Run.nil (RQ.next ?_)
  (repeat refine RC.seq ?_); refine RC.cond rfl (fun h => ?_) (fun h => ?_)
  · have hn1 := of_decide_eq_true h
    subst hn1
    rw [upRef_one]
    have hd : (leafN x).length = 8 := digest_len _ _
    (repeat refine RC.seq ?_); refine RC.region ?_
    refine Run.a (Val.eq (Val.sliceA tabOk rfl rfl rfl rfl rfl) (show _ = Value.slice (some ⟨b4, 0, none⟩) x.length x.length from by rw [hx8])) ?_
    refine Run.nw (New.buildSlice tabOk (parts := [(0, .tmp 18)]) (cells := [Value.slice (some ⟨b4, 0, none⟩) x.length x.length].toArray) rfl rfl rfl rfl rfl rfl (fillS_full 1 1 _ [Value.slice (some ⟨b4, 0, none⟩) x.length x.length] rfl (by simp [Value.cells]))) ?_
    intro b19
    refine Run.callV Tryz.func43 rfl rfl rfl rfl rfl rfl rfl (fun w' hm => Digest_calls 108 (by decide) _ _ [x] w' (SrcW.row hm m0 rfl (Nat.le_refl 1)) (parts1' (u := .slice (some ⟨b4, 0, none⟩) x.length x.length) (SrcW.row hm m2 (by simp [u8s_len]) (Nat.le_refl _))) (by simp [tot, hx8]) (by simpa using hxlt)) ?_
    rw [show digest 108 [x] = leafN x from rfl]
    generalize leafN x = dg at *
    refine Run.a (Val.of rfl) ?_
    refine Run.a (Val.len (len := ps.length) tabOk rfl rfl rfl (by rw [hv]; rfl)) ?_
    refine Run.a (Val.eq (Val.of rfl) (show _ = Value.bool (decide (ps.length = 0)) from congrArg Value.bool (by rw [Bool.eq_iff_iff, beq_iff_eq, decide_eq_true_iff]; omega))) ?_
    refine Run.op1 (OpTo.setAll tabOk rfl rfl rfl rfl rfl p1 hd rfl) (fun _ => ?_)
    refine Run.a (Val.of rfl) ?_
    refine Run.nil (RQ.next ?_)
    refine RC.ret ?_; (repeat first | refine RQ.thenRet ?_ | refine RQ.blockRet ?_)
    exact RQ.ret2 rfl (Res.cellU tabOk rfl rfl rfl m0 hd) (Res.tmp rfl) fun w' hm => ⟨rfl, hm.fr⟩
  have h2 := of_decide_eq_false h
  clear h
  refine RC.skip (RQ.next ?_)
  (repeat refine RC.seq ?_); refine RC.region ?_
  refine Run.a (Val.of rfl) ?_
  refine Run.a (Val.len (len := ps.length) tabOk rfl rfl rfl (by rw [hv]; rfl)) ?_
  refine Run.a (Val.eq (Val.of rfl) (show _ = Value.bool (decide (ps.length = 0)) from congrArg Value.bool (by rw [Bool.eq_iff_iff, beq_iff_eq, decide_eq_true_iff]; omega))) ?_
  refine Run.nil (RQ.next ?_)
  (repeat refine RC.seq ?_); refine RC.cond rfl (fun h => ?_) (fun h => ?_)
  · have hp0 := of_decide_eq_true h
    rw [List.eq_nil_of_length_eq_zero hp0, upRef_nil _ _ _ (by omega)]
    (repeat refine RC.seq ?_); refine RC.region ?_
    refine Run.a (Val.buildA tabOk (parts := []) (cells := (u8s zero8).toArray) rfl rfl rfl rfl rfl rfl) ?_
    refine Run.op1 (OpTo.setAll tabOk rfl rfl rfl rfl rfl (List.Perm.refl _) rfl rfl) (fun _ => ?_)
    refine Run.a (Val.of rfl) ?_
    refine Run.nil (RQ.next ?_)
    refine RC.ret ?_; (repeat first | refine RQ.thenRet ?_ | refine RQ.blockRet ?_)
    exact RQ.ret2 rfl (Res.cellU tabOk rfl rfl rfl m0 rfl) (Res.tmp rfl) fun w' hm => ⟨rfl, hm.fr⟩
  have hp0 := of_decide_eq_false h
  clear h
  refine RC.skip (RQ.next ?_)
  obtain ⟨p, hp⟩ : ∃ p, ps[ps.length - 1]? = some p := ⟨_, List.getElem?_eq_getElem (by omega)⟩
  have hp8 := hH p (List.mem_of_getElem? hp)
  have hpf := pc_flat hH hp
  clear hv hac
  obtain ⟨ad, c, rfl, hc, hcl, hr⟩ := hs.pos (by omega)
  have hload : ∀ j u, (u8s p)[j]? = some u → w.cell? ((ad.add ((ps.length - 1) * 8)).add j) = some u := fun j u hj => by
    rw [add_add]
    refine hr _ u ?_
    have := pc_row (c := 8) (l := ps.flatten) (ps.length - 1) j u (by rw [hpf]; exact hj)
    rwa [List.getElem?_toArray] at this
  have htk : SrcW w 8 (.slice (some ad) (ps.length - 1) c) (ps.take (ps.length - 1)).length (u8s (ps.take (ps.length - 1)).flatten) := by
    rw [List.length_take, Nat.min_eq_left (by omega), flatten_take _ hH, u8s_take]
    exact SrcW.takeN hcl hr (by omega) hc
  have hlt := cut_lt (n := n) (by omega)
  have hps := cut_pos n
  have hge := cut_ge (n := n)
  (repeat refine RC.seq ?_); refine RC.region ?_
  refine Run.a (Val.of rfl) ?_
  refine Run.callV Tryz.func94 rfl rfl rfl rfl rfl rfl rfl (fun w' _ => ref_cut_calls n (by omega) hn w') ?_
  refine Run.a (Val.of rfl) ?_
  refine Run.nil (RQ.next ?_)
  (repeat refine RC.seq ?_); refine RC.region ?_
  refine Run.a (Val.of rfl) ?_
  refine Run.a (Val.len (len := ps.length) tabOk rfl rfl rfl rfl) ?_
  refine Run.a (Val.eq (Val.ar rfl rfl rfl rfl (by dsimp only [inK]; omega)) (show _ = Value.int .i64 ((ps.length - 1 : Nat) : Int) from by congr 1; omega)) ?_
  refine Run.a (Val.of rfl) ?_
  refine Run.nil (RQ.next ?_)
  (repeat refine RC.seq ?_); refine RC.region ?_
  refine Run.a (Val.of rfl) ?_
  refine Run.a (Val.of rfl) ?_
  refine Run.a (Val.eq (Val.of rfl) (show _ = Value.bool (decide (i < cut n)) from congrArg Value.bool (by rw [decide_eq_decide]; omega))) ?_
  refine Run.nil (RQ.next ?_)
  (repeat refine RC.seq ?_); refine RC.cond rfl (fun h => ?_) (fun h => ?_)
  · have hk := of_decide_eq_true h
    clear h
    rw [upRef_left x i n (by omega) hp hk]
    have ihh := ih (cut n) (by omega) (cut n) rfl hps (by omega) x i (ps.take (ps.length - 1)) hx8 hxlt hk (hH.take _) (by rw [List.length_take]; omega)
    obtain ⟨u1, u2⟩ := upRef_8 x i (cut n) (ps.take (ps.length - 1))
    generalize upRef x i (cut n) (ps.take (ps.length - 1)) = up at *
    obtain ⟨uh, ub⟩ := up
    dsimp only at *
    (repeat refine RC.seq ?_)
    refine RC.thenCut (Y := Nat) (fun y => [(12, .pointer (some ⟨y, 0, none⟩)), (13, .bool ub), (3, .slice (some ad) ps.length c), (11, .int .i64 (ps.length - 1 : Nat)), (8, .pointer (some ⟨b8, 0, none⟩))])
      (fun y => [(y, .cells (u8s uh).toArray 32 (0, 0)), (b8, .cells ti32.zero.cells 32 (0, 0))]) ?_ (fun b12 => ?_)
    · (repeat refine RC.seq ?_); refine RC.drawS mixed (N := 13) rfl ?_
      refine DR.t 0 rfl (Val.loadU tabOk rfl rfl rfl rfl m1 hx8) ?_
      refine DR.t 1 rfl (Val.of rfl) ?_
      refine DR.t 2 rfl (Val.of rfl) ?_
      refine DR.t 3 rfl (Val.of rfl) ?_
      refine DR.t 4 rfl (Val.of rfl) ?_
      refine DR.t 5 rfl (Val.eq (Val.sliceS' tabOk 0 (ps.length - 1) rfl rfl rfl rfl rfl (.inl ⟨rfl, rfl⟩) (.inr ⟨_, rfl, rfl⟩) (by omega) (by omega) (by omega) rfl) (show _ = Value.slice (some ad) (ps.length - 1) c from by rw [Nat.zero_mul, add_zero_, Nat.sub_zero, Nat.sub_zero])) ?_
      refine DR.two (i := 6) (j := 10) (by kernel_rfl) ?_ ?_
      · refine DOp.op1 rfl (OpTo.callV Tryz.func136 rfl rfl rfl rfl rfl rfl (fun w' hm => ihh _ w' (htk.mem hm))) (fun _ => ?_)
        refine DR.t 7 rfl (Val.of rfl) ?_
        refine DR.t 8 rfl (Val.of rfl) ?_
        refine DR.t 9 rfl (Val.of rfl) ?_
        refine DR.c 10 ?_
        refine DOp.op1 rfl (OpTo.new rfl rfl (New.alloc tabOk rfl rfl)) ?_
        intro b12
        refine DR.c 11 ?_
        refine DOp.op1 rfl (OpTo.setAll tabOk rfl rfl rfl rfl rfl (List.Perm.refl _) u1 rfl) (fun _ => ?_)
        refine DR.c 12 ?_
        refine DOp.vl rfl (Val.of rfl) ?_
        refine DR.done (by kernel_rfl) ?_
        exact RQ.to b12 ⟨rfl, rfl, rfl, rfl, rfl, trivial⟩ (by repeat (first | exact List.nil_sublist _ | exact List.Sublist.refl _ | apply List.Sublist.cons_cons | apply List.Sublist.cons | apply Go.Vc.subApp))
      · refine DOp.op1 rfl (OpTo.new rfl rfl (New.alloc tabOk rfl rfl)) ?_
        intro b12
        refine DR.c 6 ?_
        refine DOp.op1 rfl (OpTo.callV Tryz.func136 rfl rfl rfl rfl rfl rfl (fun w' hm => ihh _ w' (htk.mem hm))) (fun _ => ?_)
        refine DR.t 7 rfl (Val.of rfl) ?_
        refine DR.t 8 rfl (Val.of rfl) ?_
        refine DR.t 9 rfl (Val.of rfl) ?_
        refine DR.c 11 ?_
        refine DOp.op1 rfl (OpTo.setAll tabOk rfl rfl rfl rfl rfl (List.Perm.refl _) u1 rfl) (fun _ => ?_)
        refine DR.c 12 ?_
        refine DOp.vl rfl (Val.of rfl) ?_
        refine DR.done (by kernel_rfl) ?_
        exact RQ.to b12 ⟨rfl, rfl, rfl, rfl, rfl, trivial⟩ (by repeat (first | exact List.nil_sublist _ | exact List.Sublist.refl _ | apply List.Sublist.cons_cons | apply List.Sublist.cons | apply Go.Vc.subApp))
    have hjl := joinN_len uh p
    (repeat refine RC.seq ?_); refine RC.draw ([(b12, .cells (u8s uh).toArray 32 (0, 0))]) mixed (N := 9) rfl ?_
    refine DR.t 0 rfl (Val.loadU tabOk rfl rfl rfl rfl m0 u1) ?_
    refine DR.t 1 rfl (Val.of rfl) ?_
    refine DR.t 2 rfl (Val.of rfl) ?_
    refine DR.t 3 rfl (Val.ixS tabOk (ps.length - 1) (ad' := ad.add ((ps.length - 1) * 8)) rfl rfl rfl rfl rfl rfl rfl (by omega) rfl) ?_
    refine DR.t 4 rfl (Val.loadOld tabOk (cs := u8s p) rfl rfl rfl rfl (by simp) (by rw [u8s_len, hp8.1]; rfl) hload) ?_
    refine DR.t 6 rfl (Val.of rfl) ?_
    refine DR.c 5 ?_
    refine DOp.op1 rfl (OpTo.callV Tryz.func95 rfl rfl rfl rfl rfl rfl (fun w' _ => ref_Two_calls 109 (by decide) _ _ u1 hp8.1 u2 hp8.2 w')) (fun _ => ?_)
    rw [show digest 109 [uh, p] = joinN uh p from rfl]
    generalize joinN uh p = dg at *
    refine DR.c 7 ?_
    refine DOp.op1 rfl (OpTo.setAll tabOk rfl rfl rfl rfl rfl p1 hjl rfl) (fun _ => ?_)
    refine DR.t 8 rfl (Val.of rfl) ?_
    refine DR.done (by kernel_rfl) (RQ.next ?_)
    refine RC.ret ?_; (repeat first | refine RQ.thenRet ?_ | refine RQ.blockRet ?_)
    exact RQ.ret2 rfl (Res.cellU tabOk rfl rfl rfl m0 hjl) (Res.tmp rfl) fun w' hm => ⟨rfl, hm.fr⟩
  · have hk := of_decide_eq_false h
    clear h
    rw [upRef_right x i n (by omega) hp hk]
    have ihh := ih (n - cut n) (by omega) (n - cut n) rfl (by omega) (by omega) x (i - cut n) (ps.take (ps.length - 1)) hx8 hxlt (by omega) (hH.take _) (by rw [List.length_take]; omega)
    obtain ⟨u1, u2⟩ := upRef_8 x (i - cut n) (n - cut n) (ps.take (ps.length - 1))
    generalize upRef x (i - cut n) (n - cut n) (ps.take (ps.length - 1)) = up at *
    obtain ⟨uh, ub⟩ := up
    dsimp only at *
    refine RC.skip (RQ.next ?_)
    (repeat refine RC.seq ?_)
    refine RC.thenCut (Y := Nat) (fun y => [(14, .pointer (some ⟨y, 0, none⟩)), (15, .bool ub), (3, .slice (some ad) ps.length c), (11, .int .i64 (ps.length - 1 : Nat)), (8, .pointer (some ⟨b8, 0, none⟩))])
      (fun y => [(y, .cells (u8s uh).toArray 32 (0, 0)), (b8, .cells ti32.zero.cells 32 (0, 0))]) ?_ (fun b14 => ?_)
    · (repeat refine RC.seq ?_); refine RC.drawS mixed (N := 17) rfl ?_
      refine DR.t 0 rfl (Val.loadU tabOk rfl rfl rfl rfl m1 hx8) ?_
      refine DR.t 1 rfl (Val.of rfl) ?_
      refine DR.t 2 rfl (Val.of rfl) ?_
      refine DR.t 3 rfl (Val.eq (Val.ar rfl rfl rfl rfl (by dsimp only [inK]; omega)) (show _ = Value.int .i64 ((i - cut n : Nat) : Int) from by congr 1; omega)) ?_
      refine DR.t 4 rfl (Val.of rfl) ?_
      refine DR.t 5 rfl (Val.of rfl) ?_
      refine DR.t 6 rfl (Val.eq (Val.ar rfl rfl rfl rfl (by dsimp only [inK]; omega)) (show _ = Value.int .i64 ((n - cut n : Nat) : Int) from by congr 1; omega)) ?_
      refine DR.t 7 rfl (Val.of rfl) ?_
      refine DR.t 8 rfl (Val.of rfl) ?_
      refine DR.t 9 rfl (Val.eq (Val.sliceS' tabOk 0 (ps.length - 1) rfl rfl rfl rfl rfl (.inl ⟨rfl, rfl⟩) (.inr ⟨_, rfl, rfl⟩) (by omega) (by omega) (by omega) rfl) (show _ = Value.slice (some ad) (ps.length - 1) c from by rw [Nat.zero_mul, add_zero_, Nat.sub_zero, Nat.sub_zero])) ?_
      refine DR.two (i := 10) (j := 14) (by kernel_rfl) ?_ ?_
      · refine DOp.op1 rfl (OpTo.callV Tryz.func136 rfl rfl rfl rfl rfl rfl (fun w' hm => ihh _ w' (htk.mem hm))) (fun _ => ?_)
        refine DR.t 11 rfl (Val.of rfl) ?_
        refine DR.t 12 rfl (Val.of rfl) ?_
        refine DR.t 13 rfl (Val.of rfl) ?_
        refine DR.c 14 ?_
        refine DOp.op1 rfl (OpTo.new rfl rfl (New.alloc tabOk rfl rfl)) ?_
        intro b14
        refine DR.c 15 ?_
        refine DOp.op1 rfl (OpTo.setAll tabOk rfl rfl rfl rfl rfl (List.Perm.refl _) u1 rfl) (fun _ => ?_)
        refine DR.c 16 ?_
        refine DOp.vl rfl (Val.of rfl) ?_
        refine DR.done (by kernel_rfl) ?_
        exact RQ.to b14 ⟨rfl, rfl, rfl, rfl, rfl, trivial⟩ (by repeat (first | exact List.nil_sublist _ | exact List.Sublist.refl _ | apply List.Sublist.cons_cons | apply List.Sublist.cons | apply Go.Vc.subApp))
      · refine DOp.op1 rfl (OpTo.new rfl rfl (New.alloc tabOk rfl rfl)) ?_
        intro b14
        refine DR.c 10 ?_
        refine DOp.op1 rfl (OpTo.callV Tryz.func136 rfl rfl rfl rfl rfl rfl (fun w' hm => ihh _ w' (htk.mem hm))) (fun _ => ?_)
        refine DR.t 11 rfl (Val.of rfl) ?_
        refine DR.t 12 rfl (Val.of rfl) ?_
        refine DR.t 13 rfl (Val.of rfl) ?_
        refine DR.c 15 ?_
        refine DOp.op1 rfl (OpTo.setAll tabOk rfl rfl rfl rfl rfl (List.Perm.refl _) u1 rfl) (fun _ => ?_)
        refine DR.c 16 ?_
        refine DOp.vl rfl (Val.of rfl) ?_
        refine DR.done (by kernel_rfl) ?_
        exact RQ.to b14 ⟨rfl, rfl, rfl, rfl, rfl, trivial⟩ (by repeat (first | exact List.nil_sublist _ | exact List.Sublist.refl _ | apply List.Sublist.cons_cons | apply List.Sublist.cons | apply Go.Vc.subApp))
    have hjl := joinN_len p uh
    (repeat refine RC.seq ?_); refine RC.draw ([(b14, .cells (u8s uh).toArray 32 (0, 0))]) mixed (N := 9) rfl ?_
    refine DR.t 0 rfl (Val.of rfl) ?_
    refine DR.t 1 rfl (Val.of rfl) ?_
    refine DR.t 2 rfl (Val.ixS tabOk (ps.length - 1) (ad' := ad.add ((ps.length - 1) * 8)) rfl rfl rfl rfl rfl rfl rfl (by omega) rfl) ?_
    refine DR.t 3 rfl (Val.loadOld tabOk (cs := u8s p) rfl rfl rfl rfl (by simp) (by rw [u8s_len, hp8.1]; rfl) hload) ?_
    refine DR.t 4 rfl (Val.loadU tabOk rfl rfl rfl rfl m0 u1) ?_
    refine DR.t 6 rfl (Val.of rfl) ?_
    refine DR.c 5 ?_
    refine DOp.op1 rfl (OpTo.callV Tryz.func95 rfl rfl rfl rfl rfl rfl (fun w' _ => ref_Two_calls 109 (by decide) _ _ hp8.1 u1 hp8.2 u2 w')) (fun _ => ?_)
    rw [show digest 109 [p, uh] = joinN p uh from rfl]
    generalize joinN p uh = dg at *
    refine DR.c 7 ?_
    refine DOp.op1 rfl (OpTo.setAll tabOk rfl rfl rfl rfl rfl p1 hjl rfl) (fun _ => ?_)
    refine DR.t 8 rfl (Val.of rfl) ?_
    refine DR.done (by kernel_rfl) (RQ.next ?_)
    refine RC.ret ?_; (repeat first | refine RQ.thenRet ?_ | refine RQ.blockRet ?_)
    exact RQ.ret2 rfl (Res.cellU tabOk rfl rfl rfl m0 hjl) (Res.tmp rfl) fun w' hm => ⟨rfl, hm.fr⟩

set_option maxRecDepth 10000 in set_option maxHeartbeats 4000000 in
theorem ref_CheckRow_calls (root x : List Nat) (ps : List (List Nat)) (hr8 : root.length = 8) (hx8 : x.length = 8) (hxlt : ∀ b ∈ x, b < 256) (hH : HL ps) (zi zn : Int) (v : Value) (w : World) (hs : SrcW w 8 v ps.length (u8s ps.flatten)) (hps : ps.length ≤ 9223372036854775807) :
    Gives Tryz.prog 120 [.agg (u8s root).toArray, .agg (u8s x).toArray, .int .i64 zi, .int .i64 zn, v] (.bool (checkM root x zi zn ps)) w := by
  refine enter Tryz.func120 rfl (Mem.nil w []) rfl ?_
  (repeat refine RC.seq ?_); refine RC.region ?_
  refine Run.nw (New.boxA rfl rfl) ?_
  intro b5
  refine Run.nw (New.boxA rfl rfl) ?_
  intro b6
  refine Run.a (Val.of rfl) ?_
  refine Run.nil (RQ.next ?_)
  by_cases hN1 : zn < 1
  · rw [chk_bad (.inl hN1)]
    (repeat refine RC.seq ?_); refine RC.region ?_
    refine Run.a (Val.of rfl) ?_
    refine Run.a (Val.eq (Val.of rfl) (show _ = Value.bool true from congrArg Value.bool (decide_eq_true (by omega)))) ?_
    refine Run.a (Val.of rfl) ?_
    refine Run.sk ?_
    refine Run.sk ?_
    refine Run.a (Val.of rfl) ?_
    refine Run.a (Val.of rfl) ?_
    refine Run.sk ?_
    refine Run.sk ?_
    refine Run.a (Val.of rfl) ?_
    refine Run.a (Val.of rfl) ?_
    refine Run.sk ?_
    refine Run.sk ?_
    refine Run.sk ?_
    refine Run.a (Val.of rfl) ?_
    refine Run.nil (RQ.next ?_)
    (repeat refine RC.seq ?_); refine RC.condT rfl rfl ?_
    (repeat refine RC.seq ?_); refine RC.region ?_
    refine Run.a (Val.of rfl) ?_
    refine Run.nil (RQ.next ?_)
    refine RC.ret ?_; (repeat first | refine RQ.thenRet ?_ | refine RQ.blockRet ?_); exact RQ.ret1 rfl (Res.tmp rfl) fun w' hm => ⟨rfl, hm.fr⟩
  by_cases hN2 : 65536 < zn
  · rw [chk_bad (.inr (.inl hN2))]
    (repeat refine RC.seq ?_); refine RC.region ?_
    refine Run.a (Val.of rfl) ?_
    refine Run.a (Val.eq (Val.of rfl) (show _ = Value.bool false from congrArg Value.bool (decide_eq_false (by omega)))) ?_
    refine Run.a (Val.of rfl) ?_
    refine Run.a (Val.of rfl) ?_
    refine Run.a (Val.eq (Val.of rfl) (show _ = Value.bool true from congrArg Value.bool (decide_eq_true (by omega)))) ?_
    refine Run.a (Val.of rfl) ?_
    refine Run.a (Val.of rfl) ?_
    refine Run.sk ?_
    refine Run.sk ?_
    refine Run.a (Val.of rfl) ?_
    refine Run.a (Val.of rfl) ?_
    refine Run.sk ?_
    refine Run.sk ?_
    refine Run.sk ?_
    refine Run.a (Val.of rfl) ?_
    refine Run.nil (RQ.next ?_)
    (repeat refine RC.seq ?_); refine RC.condT rfl rfl ?_
    (repeat refine RC.seq ?_); refine RC.region ?_
    refine Run.a (Val.of rfl) ?_
    refine Run.nil (RQ.next ?_)
    refine RC.ret ?_; (repeat first | refine RQ.thenRet ?_ | refine RQ.blockRet ?_); exact RQ.ret1 rfl (Res.tmp rfl) fun w' hm => ⟨rfl, hm.fr⟩
  by_cases hI1 : zi < 0
  · rw [chk_bad (.inr (.inr (.inl hI1)))]
    (repeat refine RC.seq ?_); refine RC.region ?_
    refine Run.a (Val.of rfl) ?_
    refine Run.a (Val.eq (Val.of rfl) (show _ = Value.bool false from congrArg Value.bool (decide_eq_false (by omega)))) ?_
    refine Run.a (Val.of rfl) ?_
    refine Run.a (Val.of rfl) ?_
    refine Run.a (Val.eq (Val.of rfl) (show _ = Value.bool false from congrArg Value.bool (decide_eq_false (by omega)))) ?_
    refine Run.a (Val.of rfl) ?_
    refine Run.a (Val.of rfl) ?_
    refine Run.a (Val.of rfl) ?_
    refine Run.a (Val.eq (Val.of rfl) (show _ = Value.bool true from congrArg Value.bool (decide_eq_true (by omega)))) ?_
    refine Run.a (Val.of rfl) ?_
    refine Run.a (Val.of rfl) ?_
    refine Run.sk ?_
    refine Run.sk ?_
    refine Run.sk ?_
    refine Run.a (Val.of rfl) ?_
    refine Run.nil (RQ.next ?_)
    (repeat refine RC.seq ?_); refine RC.condT rfl rfl ?_
    (repeat refine RC.seq ?_); refine RC.region ?_
    refine Run.a (Val.of rfl) ?_
    refine Run.nil (RQ.next ?_)
    refine RC.ret ?_; (repeat first | refine RQ.thenRet ?_ | refine RQ.blockRet ?_); exact RQ.ret1 rfl (Res.tmp rfl) fun w' hm => ⟨rfl, hm.fr⟩
  by_cases hI2 : zn ≤ zi
  · rw [chk_bad (.inr (.inr (.inr hI2)))]
    (repeat refine RC.seq ?_); refine RC.region ?_
    refine Run.a (Val.of rfl) ?_
    refine Run.a (Val.eq (Val.of rfl) (show _ = Value.bool false from congrArg Value.bool (decide_eq_false (by omega)))) ?_
    refine Run.a (Val.of rfl) ?_
    refine Run.a (Val.of rfl) ?_
    refine Run.a (Val.eq (Val.of rfl) (show _ = Value.bool false from congrArg Value.bool (decide_eq_false (by omega)))) ?_
    refine Run.a (Val.of rfl) ?_
    refine Run.a (Val.of rfl) ?_
    refine Run.a (Val.of rfl) ?_
    refine Run.a (Val.eq (Val.of rfl) (show _ = Value.bool false from congrArg Value.bool (decide_eq_false (by omega)))) ?_
    refine Run.a (Val.of rfl) ?_
    refine Run.a (Val.of rfl) ?_
    refine Run.a (Val.of rfl) ?_
    refine Run.a (Val.of rfl) ?_
    refine Run.a (Val.eq (Val.of rfl) (show _ = Value.bool true from congrArg Value.bool (decide_eq_true (by omega)))) ?_
    refine Run.a (Val.of rfl) ?_
    refine Run.nil (RQ.next ?_)
    (repeat refine RC.seq ?_); refine RC.condT rfl rfl ?_
    (repeat refine RC.seq ?_); refine RC.region ?_
    refine Run.a (Val.of rfl) ?_
    refine Run.nil (RQ.next ?_)
    refine RC.ret ?_; (repeat first | refine RQ.thenRet ?_ | refine RQ.blockRet ?_); exact RQ.ret1 rfl (Res.tmp rfl) fun w' hm => ⟨rfl, hm.fr⟩
  obtain ⟨i, rfl⟩ := Int.eq_ofNat_of_zero_le (show 0 ≤ zi by omega)
  obtain ⟨m, rfl⟩ := Int.eq_ofNat_of_zero_le (show 0 ≤ zn by omega)
  rw [chk_good (root := root) (x := x) (ps := ps) (i := i) (n := m) (by omega) (by omega)]
  (repeat refine RC.seq ?_); refine RC.region ?_
  refine Run.a (Val.of rfl) ?_
  refine Run.a (Val.eq (Val.of rfl) (show _ = Value.bool false from congrArg Value.bool (decide_eq_false (by omega)))) ?_
  refine Run.a (Val.of rfl) ?_
  refine Run.a (Val.of rfl) ?_
  refine Run.a (Val.eq (Val.of rfl) (show _ = Value.bool false from congrArg Value.bool (decide_eq_false (by omega)))) ?_
  refine Run.a (Val.of rfl) ?_
  refine Run.a (Val.of rfl) ?_
  refine Run.a (Val.of rfl) ?_
  refine Run.a (Val.eq (Val.of rfl) (show _ = Value.bool false from congrArg Value.bool (decide_eq_false (by omega)))) ?_
  refine Run.a (Val.of rfl) ?_
  refine Run.a (Val.of rfl) ?_
  refine Run.a (Val.of rfl) ?_
  refine Run.a (Val.of rfl) ?_
  refine Run.a (Val.eq (Val.of rfl) (show _ = Value.bool false from congrArg Value.bool (decide_eq_false (by omega)))) ?_
  refine Run.a (Val.of rfl) ?_
  refine Run.nil (RQ.next ?_)
  (repeat refine RC.seq ?_); refine RC.condF rfl rfl (RC.skip (RQ.next ?_))
  rw [← upRef_leads]
  obtain ⟨u1, u2⟩ := upRef_8 x i m ps
  have huc := ref_up_calls m m rfl (by omega) (by omega) x i ps hx8 hxlt (by omega) hH hps v
  generalize upRef x i m ps = up at *
  obtain ⟨uh, ub⟩ := up
  dsimp only at *
  (repeat refine RC.seq ?_); refine RC.region ?_
  refine Run.a (Val.loadU tabOk rfl rfl rfl rfl m0 hx8) ?_
  refine Run.a (Val.of rfl) ?_
  refine Run.a (Val.of rfl) ?_
  refine Run.a (Val.of rfl) ?_
  refine Run.callV Tryz.func136 rfl rfl rfl rfl rfl rfl rfl (fun w' hm => huc w' (hs.mem hm)) ?_
  refine Run.a (Val.of rfl) ?_
  refine Run.a (Val.of rfl) ?_
  refine Run.a (Val.of rfl) ?_
  refine Run.nw (New.alloc tabOk rfl rfl) ?_
  intro b11
  refine Run.op1 (OpTo.setAll tabOk rfl rfl rfl rfl rfl (List.Perm.refl _) u1 rfl) (fun _ => ?_)
  refine Run.a (Val.of rfl) ?_
  refine Run.nil (RQ.next ?_)
  (repeat refine RC.seq ?_); refine RC.region ?_
  refine Run.a (Val.of rfl) ?_
  refine Run.a (Val.of rfl) ?_
  cases ub with
  | true =>
    refine Run.a (Val.loadU tabOk rfl rfl rfl rfl m0 u1) ?_
    refine Run.a (Val.loadU tabOk rfl rfl rfl rfl (by repeat (first | exact List.mem_cons_self | apply List.mem_cons_of_mem | apply List.mem_append_right)) hr8) ?_
    refine Run.a (Val.eqU (m := 8) (a := uh) (b := root) tabOk rfl rfl rfl (by kernel_rfl) (by kernel_rfl) rfl rfl u1 hr8) ?_
    refine Run.a (Val.of rfl) ?_
    refine Run.a (Val.of rfl) ?_
    refine Run.nil (RQ.next ?_)
    rw [Bool.true_and]
    refine RC.ret ?_; (repeat first | refine RQ.thenRet ?_ | refine RQ.blockRet ?_); exact RQ.ret1 rfl (Res.tmp rfl) fun w' hm => ⟨rfl, hm.fr⟩
  | false =>
    refine Run.sk ?_
    refine Run.sk ?_
    refine Run.sk ?_
    refine Run.a (Val.of rfl) ?_
    refine Run.a (Val.of rfl) ?_
    refine Run.nil (RQ.next ?_)
    rw [Bool.false_and]
    refine RC.ret ?_; (repeat first | refine RQ.thenRet ?_ | refine RQ.blockRet ?_); exact RQ.ret1 rfl (Res.tmp rfl) fun w' hm => ⟨rfl, hm.fr⟩
end Go.Proofs.YtkkfaffehbjdgaaGreatDoor
end
