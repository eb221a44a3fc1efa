/- hash.spread: a block's words. -/
import Derived.Test.YtilfbomjaflbjaaDoorSha1
import Derived.Test.YtilfbomjaflbjaaDoorBytes0
namespace Go.Proofs.YtilfbomjaflbjaaDoor
open Go Go.Vc Go.Sha

/-- The words as far as they are there, noughts behind them. -/
def Wz (b : List Nat) (i : Nat) : List Nat := W b i ++ List.replicate (64 - i) 0
/-- .. the word at i being put together. -/
def Wp (b : List Nat) (i k : Nat) : List Nat := W b i ++ bpart b (4 * i) k :: List.replicate (63 - i) 0

theorem Wz_len (b : List Nat) (i : Nat) (h : i ≤ 64) : (Wz b i).length = 64 := by simp [Wz, W_length]; omega
theorem Wp_len (b : List Nat) (i k : Nat) (h : i < 64) : (Wp b i k).length = 64 := by simp [Wp, W_length]; omega
theorem Wz_zero (b : List Nat) (i : Nat) (h : i < 64) : Wz b i = Wp b i 0 := by
  unfold Wz Wp
  rw [show 64 - i = (63 - i) + 1 by omega, List.replicate_succ]
  rfl
theorem Wp_four (b : List Nat) (i : Nat) (h : i < 16) : Wp b i 4 = Wz b (i + 1) := by
  unfold Wz Wp
  rw [show 64 - (i + 1) = 63 - i by omega]
  simp [W, wd, W_length, h]
theorem Wp_set (b : List Nat) (i k x : Nat) (hx : x = bpart b (4 * i) (k + 1)) : (Wp b i k).set i x = Wp b i (k + 1) := by
  unfold Wp
  rw [List.set_append_right _ _ (by simp [W_length]), W_length]
  simp [hx]
theorem Wz_set (b : List Nat) (i x : Nat) (h : i < 64) (hx : x = wd b (W b i)) : (Wz b i).set i x = Wz b (i + 1) := by
  unfold Wz
  rw [List.set_append_right _ _ (by simp [W_length]), W_length, show 64 - i = (64 - (i + 1)) + 1 by omega, List.replicate_succ]
  simp [hx, W]
theorem Wp_at (b : List Nat) (i k : Nat) : (Wp b i k).getD i 0 = bpart b (4 * i) k := by
  simp [Wp, List.getD_eq_getElem?_getD, W_length]
theorem Wz_at (b : List Nat) (i j : Nat) (h : j < i) : (Wz b i).getD j 0 = (W b i).getD j 0 := by
  simp only [Wz, List.getD_eq_getElem?_getD]
  rw [List.getElem?_append_left (by rw [W_length]; exact h)]

theorem spread_calls (blk : List Nat) (hl : blk.length = 64) (hb : ∀ x ∈ blk, x < 256) (a : Addr) (cap : Nat) (hcap : 64 ≤ cap) (w : World) (hc : ∀ j u, (u8s blk)[j]? = some u → w.cell? (a.add j) = some u) :
    Gives Tryd.prog 76 [.slice (some a) 64 cap] (.agg (u32s (W blk 64)).toArray) w := by
  refine enter Tryd.func76 rfl (Mem.nil w []) rfl ?_
  (repeat refine RC.seq ?_); refine RC.region ?_
  refine Run.mk rfl rfl rfl (New.alloc tabOk rfl rfl) ?_
  intro b0
  refine Run.nil (RQ.next ?_)
  (repeat refine RC.seq ?_); refine RC.region ?_
  refine Run.mk rfl rfl rfl (New.alloc tabOk rfl rfl) ?_
  intro b1
  refine Run.nil (RQ.next ?_)
  (repeat refine RC.seq ?_); refine RC.region ?_
  repeat (refine Run.v rfl rfl rfl (Val.of rfl) ?_)
  refine Run.nil (RQ.next ?_)
  (repeat refine RC.seq ?_); refine RC.block ?_
  refine RC.loop (ι := Nat) (fun i => [(9, .int .i64 i), (3, .pointer (some ⟨b1, 0, none⟩)), (2, .pointer (some ⟨b0, 0, none⟩)), (0, .slice (some a) 64 cap)])
    (fun i => [(b1, .cells (u32s (Wz blk i)).toArray 103 (0, 0)), (b0, .cells ti103.zero.cells 103 (0, 0))]) (fun i => i ≤ 64) (fun i => 64 - i) 0 (by omega) ?_ ?_ ?_
  · exact ⟨rfl, rfl, rfl, rfl, trivial⟩
  · exact List.Perm.refl _
  intro i hi
  (repeat refine RC.seq ?_); refine RC.region ?_
  repeat (refine Run.v rfl rfl rfl (Val.of rfl) ?_)
  refine Run.nil (RQ.next ?_)
  refine RC.while rfl (fun h => ?_) (fun h => ?_)
  · -- a round
    have hi' : i < 64 := by have := of_decide_eq_true h; omega
    refine RC.seqCut (Y := Unit) (fun _ => [(9, .int .i64 i), (3, .pointer (some ⟨b1, 0, none⟩)), (2, .pointer (some ⟨b0, 0, none⟩)), (0, .slice (some a) 64 cap)])
      (fun _ => [(b1, .cells (u32s (Wz blk (i + 1))).toArray 103 (0, 0)), (b0, .cells ti103.zero.cells 103 (0, 0))]) (RC.block ?_) (fun _ => ?_)
    · (repeat refine RC.seq ?_); refine RC.region ?_
      repeat (refine Run.v rfl rfl rfl (Val.of rfl) ?_)
      refine Run.nil (RQ.next ?_)
      (repeat refine RC.seq ?_); refine RC.region ?_
      repeat (refine Run.v rfl rfl rfl (Val.of rfl) ?_)
      refine Run.nil (RQ.next ?_)
      refine RC.cond rfl (fun h => ?_) (fun h => ?_)
      · -- one of the first sixteen
        have hi2 : i < 16 := by have := of_decide_eq_true h; omega
        (repeat refine RC.seq ?_); refine RC.region ?_
        repeat (first | refine Run.v rfl rfl rfl (Val.ar rfl rfl rfl rfl (by dsimp only [inK]; omega)) ?_ | refine Run.v rfl rfl rfl (Val.of rfl) ?_)
        refine Run.v rfl rfl rfl (Val.eq (Val.sliceS' tabOk (4 * i) (4 * i + 4) (m := 4) rfl rfl rfl rfl rfl (.inr ⟨_, rfl, rfl⟩) (.inr ⟨_, rfl, rfl⟩) (by omega) (by omega) (by omega) (by omega)) (show _ = Value.slice (some (a.add (4 * i))) 4 (cap - 4 * i) from by simp [ti5])) ?_
        refine Run.v rfl rfl rfl (Val.len tabOk rfl rfl rfl rfl) ?_
        refine Run.v rfl rfl rfl (Val.of rfl) ?_
        refine Run.nil (RQ.next ?_)
        (repeat refine RC.seq ?_); refine RC.block ?_
        refine RC.loop (ι := Nat) (fun k => [(22, .int .i64 k), (21, .int .i64 4), (20, .slice (some (a.add (4 * i))) 4 (cap - 4 * i)), (4, .int .i64 i), (9, .int .i64 i), (3, .pointer (some ⟨b1, 0, none⟩)), (2, .pointer (some ⟨b0, 0, none⟩)), (0, .slice (some a) 64 cap)])
          (fun k => [(b1, .cells (u32s (Wp blk i k)).toArray 103 (0, 0)), (b0, .cells ti103.zero.cells 103 (0, 0))]) (fun k => k ≤ 4) (fun k => 4 - k) 0 (by omega) ?_ ?_ ?_
        · exact ⟨rfl, rfl, rfl, rfl, rfl, rfl, rfl, rfl, trivial⟩
        · rw [Wz_zero blk i hi']
        intro k hk
        (repeat refine RC.seq ?_); refine RC.region ?_
        repeat (refine Run.v rfl rfl rfl (Val.of rfl) ?_)
        refine Run.nil (RQ.next ?_)
        refine RC.while rfl (fun h => ?_) (fun h => ?_)
        · have hk' : k < 4 := by have := of_decide_eq_true h; omega
          have hbyte : blk.getD (4 * i + k) 0 < 256 := by
            rw [List.getD_eq_getElem?_getD, List.getElem?_eq_getElem (by omega)]
            exact hb _ (List.getElem_mem _)
          have hp := bpart_lt blk hb (4 * i) k
          have hp3 : bpart blk (4 * i) k < 16777216 := Nat.lt_of_lt_of_le hp (by
            have : (256 : Nat) ^ k ≤ 256 ^ 3 := Nat.pow_le_pow_right (by decide) (by omega)
            simpa using this)
          refine RC.seqCut (Y := Unit) (fun _ => [(22, .int .i64 k), (21, .int .i64 4), (20, .slice (some (a.add (4 * i))) 4 (cap - 4 * i)), (4, .int .i64 i), (9, .int .i64 i), (3, .pointer (some ⟨b1, 0, none⟩)), (2, .pointer (some ⟨b0, 0, none⟩)), (0, .slice (some a) 64 cap)])
            (fun _ => [(b1, .cells (u32s (Wp blk i (k + 1))).toArray 103 (0, 0)), (b0, .cells ti103.zero.cells 103 (0, 0))]) (RC.block ?_) (fun _ => ?_)
          · (repeat refine RC.seq ?_); refine RC.region ?_
            refine Run.v rfl rfl rfl (Val.eq (Val.idxS tabOk rfl rfl rfl rfl rfl rfl (by omega) (by omega)) (show _ = Value.pointer (some (a.add (4 * i + k))) from by rw [add_add]; simp [ti5])) ?_
            refine Run.v rfl rfl rfl (Val.loadOld1 tabOk rfl rfl rfl rfl (by simp) (hc (4 * i + k) _ (u8s_at blk _ (by omega)))) ?_
            repeat (refine Run.v rfl rfl rfl (Val.of rfl) ?_)
            refine Run.nil (RQ.next ?_)
            (repeat refine RC.seq ?_); refine RC.region ?_
            repeat (refine Run.v rfl rfl rfl (Val.of rfl) ?_)
            refine Run.v rfl rfl rfl (Val.eq (Val.idxA tabOk rfl rfl rfl rfl rfl rfl (by omega) (by omega)) (show _ = Value.pointer (some ⟨b1, i, none⟩) from by simp [ti101])) ?_
            refine Run.v rfl rfl rfl (Val.load tabOk rfl rfl rfl (List.mem_cons_self) (by show (u32s (Wp blk i k)).toArray[i]? = _; exact u32s_at _ _ (by have := Wp_len blk i k hi'; omega))) ?_
            refine Run.v rfl rfl rfl (Val.eq (Val.shl (m := 8) rfl rfl rfl (by decide)) (congrArg (Value.int .u32) (u32_wr _))) ?_
            repeat (refine Run.v rfl rfl rfl (Val.of rfl) ?_)
            refine Run.v rfl rfl rfl (Val.convIn tabOk rfl rfl rfl rfl rfl rfl (by simp only [inK]; omega)) ?_
            refine Run.v rfl rfl rfl (Val.eq (Val.of rfl) (show _ = Value.int .u32 ((bpart blk (4 * i) (k + 1) : Nat) : Int) from congrArg (Value.int .u32) ((u32_or _ _ (Nat.mod_lt _ (by decide)) (by omega)).trans (by rw [Wp_at, or_byte _ _ hbyte hp3]; rfl)))) ?_
            refine Run.v rfl rfl rfl (Val.eq (Val.idxA tabOk rfl rfl rfl rfl rfl rfl (by omega) (by omega)) (show _ = Value.pointer (some ⟨b1, i, none⟩) from by simp [ti101])) ?_
            refine Run.storeTo tabOk ((u32s_set _ i _ (by have := Wp_len blk i k hi'; omega)).trans (congrArg (fun l => (u32s l).toArray) (Wp_set blk i k _ rfl))) rfl rfl rfl rfl rfl rfl (List.Perm.refl _) rfl (by simp [u32s_len, Wp_len _ _ _ hi', ti101]; omega) (by simp [Value.cells]; rfl) ?_
            exact Run.nil (RQ.to () ⟨rfl, rfl, rfl, rfl, rfl, rfl, rfl, rfl, trivial⟩ (List.Sublist.refl _))
          · refine RC.region ?_
            repeat (first | refine Run.v rfl rfl rfl (Val.ar rfl rfl rfl rfl (by dsimp only [inK]; omega)) ?_ | refine Run.v rfl rfl rfl (Val.of rfl) ?_)
            exact Run.nil (RQ.round (k + 1) (by omega) (by show 4 - (k + 1) < 4 - k; omega) ⟨rfl, rfl, rfl, rfl, rfl, rfl, rfl, rfl, trivial⟩ (List.Sublist.refl _))
        · have hk' : k = 4 := by have := of_decide_eq_false h; omega
          subst hk'
          (repeat refine RQ.thenExit ?_); refine RQ.blockHere ?_
          refine RQ.next (RC.exit ?_)
          refine RQ.thenExit (RQ.blockHere (RQ.to () ⟨rfl, rfl, rfl, rfl, trivial⟩ ?_))
          rw [Wp_four blk i hi2]
          exact List.Sublist.refl _
      · -- one that follows from those ahead of it
        have hi2 : 16 ≤ i := by have := of_decide_eq_false h; omega
        have hat : ∀ j, j < i → (u32s (Wz blk i)).toArray[j]? = some (.int .u32 ((W blk i).getD j 0 : Nat)) := fun j hj => by
          rw [u32s_at _ _ (by rw [Wz_len blk i hi]; omega), Wz_at blk i j hj]
        have hlt : ∀ j, (W blk i).getD j 0 < 4294967296 := W_getD_lt blk hb i
        refine RC.skip (RQ.next ?_)
        (repeat refine RC.seq ?_); refine RC.drawS mixed (N := 10) rfl ?_
        refine DR.take 0 rfl (by repeat (first | exact List.nil_sublist _ | exact List.Sublist.refl _ | apply List.Sublist.cons_cons | apply List.Sublist.cons)) inferInstance (by kernel_rfl) (by kernel_rfl) (by kernel_rfl) (by kernel_rfl) rfl rfl (Wanted.plain rfl) (Val.of rfl) ?_
        refine DR.take 1 rfl (by repeat (first | exact List.nil_sublist _ | exact List.Sublist.refl _ | apply List.Sublist.cons_cons | apply List.Sublist.cons)) inferInstance (by kernel_rfl) (by kernel_rfl) (by kernel_rfl) (by kernel_rfl) rfl rfl (Wanted.plain rfl) (Val.ar rfl rfl rfl rfl (by dsimp only [inK]; omega)) ?_
        refine DR.take 2 rfl (by repeat (first | exact List.nil_sublist _ | exact List.Sublist.refl _ | apply List.Sublist.cons_cons | apply List.Sublist.cons)) inferInstance (by kernel_rfl) (by kernel_rfl) (by kernel_rfl) (by kernel_rfl) rfl rfl (Wanted.plain rfl) (Val.ix tabOk (i - 15) (off' := i - 15) rfl rfl rfl rfl rfl rfl (by omega) (by omega) (by simp [ti101])) ?_
        refine DR.take 3 rfl (by repeat (first | exact List.nil_sublist _ | exact List.Sublist.refl _ | apply List.Sublist.cons_cons | apply List.Sublist.cons)) inferInstance (by kernel_rfl) (by kernel_rfl) (by kernel_rfl) (by kernel_rfl) rfl rfl (Wanted.plain rfl) (Val.load tabOk rfl rfl rfl List.mem_cons_self (hat (i - 15) (by omega))) ?_
        refine DR.take 4 rfl (by repeat (first | exact List.nil_sublist _ | exact List.Sublist.refl _ | apply List.Sublist.cons_cons | apply List.Sublist.cons)) inferInstance (by kernel_rfl) (by kernel_rfl) (by kernel_rfl) (by kernel_rfl) rfl rfl (Wanted.plain rfl) (Val.of rfl) ?_
        refine DR.take 5 rfl (by repeat (first | exact List.nil_sublist _ | exact List.Sublist.refl _ | apply List.Sublist.cons_cons | apply List.Sublist.cons)) inferInstance (by kernel_rfl) (by kernel_rfl) (by kernel_rfl) (by kernel_rfl) rfl rfl (Wanted.plain rfl) (Val.ar rfl rfl rfl rfl (by dsimp only [inK]; omega)) ?_
        refine DR.take 6 rfl (by repeat (first | exact List.nil_sublist _ | exact List.Sublist.refl _ | apply List.Sublist.cons_cons | apply List.Sublist.cons)) inferInstance (by kernel_rfl) (by kernel_rfl) (by kernel_rfl) (by kernel_rfl) rfl rfl (Wanted.plain rfl) (Val.ix tabOk (i - 2) (off' := i - 2) rfl rfl rfl rfl rfl rfl (by omega) (by omega) (by simp [ti101])) ?_
        refine DR.take 7 rfl (by repeat (first | exact List.nil_sublist _ | exact List.Sublist.refl _ | apply List.Sublist.cons_cons | apply List.Sublist.cons)) inferInstance (by kernel_rfl) (by kernel_rfl) (by kernel_rfl) (by kernel_rfl) rfl rfl (Wanted.plain rfl) (Val.load tabOk rfl rfl rfl List.mem_cons_self (hat (i - 2) (by omega))) ?_
        refine DR.take 8 rfl (by repeat (first | exact List.nil_sublist _ | exact List.Sublist.refl _ | apply List.Sublist.cons_cons | apply List.Sublist.cons)) inferInstance (by kernel_rfl) (by kernel_rfl) (by kernel_rfl) (by kernel_rfl) rfl rfl (Wanted.plain rfl) (Val.of rfl) ?_
        refine DR.take 9 rfl (by repeat (first | exact List.nil_sublist _ | exact List.Sublist.refl _ | apply List.Sublist.cons_cons | apply List.Sublist.cons)) inferInstance (by kernel_rfl) (by kernel_rfl) (by kernel_rfl) (by kernel_rfl) rfl rfl (Wanted.plain rfl) (Val.of rfl) ?_
        refine DR.done (by kernel_rfl) (RQ.next ?_)
        have hr := fun n (h0 : 0 < n) (h1 : n < 32) (j : Nat) => right_calls ((W blk i).getD j 0) n (hlt j) h0 h1
        have hd : ∀ x n : Nat, x < 4294967296 → x / 2 ^ n < 4294967296 := fun x n h => Nat.lt_of_le_of_lt (Nat.div_le_self _ _) h
        (repeat refine RC.seq ?_); refine RC.drawS mixed (N := 30) rfl ?_
        refine DR.take 0 rfl (by repeat (first | exact List.nil_sublist _ | exact List.Sublist.refl _ | apply List.Sublist.cons_cons | apply List.Sublist.cons)) inferInstance (by kernel_rfl) (by kernel_rfl) (by kernel_rfl) (by kernel_rfl) rfl rfl (Wanted.plain rfl) (Val.of rfl) ?_
        refine DR.take 1 rfl (by repeat (first | exact List.nil_sublist _ | exact List.Sublist.refl _ | apply List.Sublist.cons_cons | apply List.Sublist.cons)) inferInstance (by kernel_rfl) (by kernel_rfl) (by kernel_rfl) (by kernel_rfl) rfl rfl (Wanted.plain rfl) (Val.of rfl) ?_
        refine DR.take 2 rfl (by repeat (first | exact List.nil_sublist _ | exact List.Sublist.refl _ | apply List.Sublist.cons_cons | apply List.Sublist.cons)) inferInstance (by kernel_rfl) (by kernel_rfl) (by kernel_rfl) (by kernel_rfl) rfl rfl (Wanted.plain rfl) (Val.ar rfl rfl rfl rfl (by dsimp only [inK]; omega)) ?_
        refine DR.take 3 rfl (by repeat (first | exact List.nil_sublist _ | exact List.Sublist.refl _ | apply List.Sublist.cons_cons | apply List.Sublist.cons)) inferInstance (by kernel_rfl) (by kernel_rfl) (by kernel_rfl) (by kernel_rfl) rfl rfl (Wanted.plain rfl) (Val.ix tabOk (i - 16) (off' := i - 16) rfl rfl rfl rfl rfl rfl (by omega) (by omega) (by simp [ti101])) ?_
        refine DR.take 4 rfl (by repeat (first | exact List.nil_sublist _ | exact List.Sublist.refl _ | apply List.Sublist.cons_cons | apply List.Sublist.cons)) inferInstance (by kernel_rfl) (by kernel_rfl) (by kernel_rfl) (by kernel_rfl) rfl rfl (Wanted.plain rfl) (Val.load tabOk rfl rfl rfl List.mem_cons_self (hat (i - 16) (by omega))) ?_
        refine DR.take 5 rfl (by repeat (first | exact List.nil_sublist _ | exact List.Sublist.refl _ | apply List.Sublist.cons_cons | apply List.Sublist.cons)) inferInstance (by kernel_rfl) (by kernel_rfl) (by kernel_rfl) (by kernel_rfl) rfl rfl (Wanted.plain rfl) (Val.of rfl) ?_
        refine DR.take 6 rfl (by repeat (first | exact List.nil_sublist _ | exact List.Sublist.refl _ | apply List.Sublist.cons_cons | apply List.Sublist.cons)) inferInstance (by kernel_rfl) (by kernel_rfl) (by kernel_rfl) (by kernel_rfl) rfl rfl (Wanted.plain rfl) (Val.ar rfl rfl rfl rfl (by dsimp only [inK]; omega)) ?_
        refine DR.take 7 rfl (by repeat (first | exact List.nil_sublist _ | exact List.Sublist.refl _ | apply List.Sublist.cons_cons | apply List.Sublist.cons)) inferInstance (by kernel_rfl) (by kernel_rfl) (by kernel_rfl) (by kernel_rfl) rfl rfl (Wanted.plain rfl) (Val.ix tabOk (i - 7) (off' := i - 7) rfl rfl rfl rfl rfl rfl (by omega) (by omega) (by simp [ti101])) ?_
        refine DR.take 8 rfl (by repeat (first | exact List.nil_sublist _ | exact List.Sublist.refl _ | apply List.Sublist.cons_cons | apply List.Sublist.cons)) inferInstance (by kernel_rfl) (by kernel_rfl) (by kernel_rfl) (by kernel_rfl) rfl rfl (Wanted.plain rfl) (Val.load tabOk rfl rfl rfl List.mem_cons_self (hat (i - 7) (by omega))) ?_
        refine DR.take 9 rfl (by repeat (first | exact List.nil_sublist _ | exact List.Sublist.refl _ | apply List.Sublist.cons_cons | apply List.Sublist.cons)) inferInstance (by kernel_rfl) (by kernel_rfl) (by kernel_rfl) (by kernel_rfl) rfl rfl (Wanted.plain rfl) (Val.eq (Val.of rfl) (congrArg (Value.int .u32) (u32_add _ _))) ?_
        refine DR.take 10 rfl (by repeat (first | exact List.nil_sublist _ | exact List.Sublist.refl _ | apply List.Sublist.cons_cons | apply List.Sublist.cons)) inferInstance (by kernel_rfl) (by kernel_rfl) (by kernel_rfl) (by kernel_rfl) rfl rfl (Wanted.plain rfl) (Val.of rfl) ?_
        refine DR.take 12 rfl (by repeat (first | exact List.nil_sublist _ | exact List.Sublist.refl _ | apply List.Sublist.cons_cons | apply List.Sublist.cons)) inferInstance (by kernel_rfl) (by kernel_rfl) (by kernel_rfl) (by kernel_rfl) rfl rfl (Wanted.plain rfl) (Val.of rfl) ?_
        refine DR.take 15 rfl (by repeat (first | exact List.nil_sublist _ | exact List.Sublist.refl _ | apply List.Sublist.cons_cons | apply List.Sublist.cons)) inferInstance (by kernel_rfl) (by kernel_rfl) (by kernel_rfl) (by kernel_rfl) rfl rfl (Wanted.plain rfl) (Val.of rfl) ?_
        refine DR.take 16 rfl (by repeat (first | exact List.nil_sublist _ | exact List.Sublist.refl _ | apply List.Sublist.cons_cons | apply List.Sublist.cons)) inferInstance (by kernel_rfl) (by kernel_rfl) (by kernel_rfl) (by kernel_rfl) rfl rfl (Wanted.plain rfl) (Val.shr (m := 3) rfl rfl rfl (by decide)) ?_
        refine DR.take 19 rfl (by repeat (first | exact List.nil_sublist _ | exact List.Sublist.refl _ | apply List.Sublist.cons_cons | apply List.Sublist.cons)) inferInstance (by kernel_rfl) (by kernel_rfl) (by kernel_rfl) (by kernel_rfl) rfl rfl (Wanted.plain rfl) (Val.of rfl) ?_
        refine DR.take 21 rfl (by repeat (first | exact List.nil_sublist _ | exact List.Sublist.refl _ | apply List.Sublist.cons_cons | apply List.Sublist.cons)) inferInstance (by kernel_rfl) (by kernel_rfl) (by kernel_rfl) (by kernel_rfl) rfl rfl (Wanted.plain rfl) (Val.of rfl) ?_
        refine DR.take 24 rfl (by repeat (first | exact List.nil_sublist _ | exact List.Sublist.refl _ | apply List.Sublist.cons_cons | apply List.Sublist.cons)) inferInstance (by kernel_rfl) (by kernel_rfl) (by kernel_rfl) (by kernel_rfl) rfl rfl (Wanted.plain rfl) (Val.of rfl) ?_
        refine DR.take 25 rfl (by repeat (first | exact List.nil_sublist _ | exact List.Sublist.refl _ | apply List.Sublist.cons_cons | apply List.Sublist.cons)) inferInstance (by kernel_rfl) (by kernel_rfl) (by kernel_rfl) (by kernel_rfl) rfl rfl (Wanted.plain rfl) (Val.shr (m := 10) rfl rfl rfl (by decide)) ?_
        refine DR.one (i := 11) (by kernel_rfl) ?_
        refine DOp.op rfl (Wanted.plain rfl) (OpTo.callV Tryd.func77 rfl rfl rfl rfl rfl rfl (fun w _ => hr 7 (by decide) (by decide) _ w)) (.inl fun _ => by repeat (first | exact List.nil_sublist _ | exact List.Sublist.refl _ | apply List.Sublist.cons_cons | apply List.Sublist.cons)) (fun _ => ?_)
        refine DR.one (i := 13) (by kernel_rfl) ?_
        refine DOp.op rfl (Wanted.plain rfl) (OpTo.callV Tryd.func77 rfl rfl rfl rfl rfl rfl (fun w _ => hr 18 (by decide) (by decide) _ w)) (.inl fun _ => by repeat (first | exact List.nil_sublist _ | exact List.Sublist.refl _ | apply List.Sublist.cons_cons | apply List.Sublist.cons)) (fun _ => ?_)
        refine DR.take 14 rfl (by repeat (first | exact List.nil_sublist _ | exact List.Sublist.refl _ | apply List.Sublist.cons_cons | apply List.Sublist.cons)) inferInstance (by kernel_rfl) (by kernel_rfl) (by kernel_rfl) (by kernel_rfl) rfl rfl (Wanted.plain rfl) (Val.eq (Val.of rfl) (congrArg (Value.int .u32) (u32_xor _ _ (rotr_lt _ _ (hlt _)) (rotr_lt _ _ (hlt _))))) ?_
        refine DR.take 17 rfl (by repeat (first | exact List.nil_sublist _ | exact List.Sublist.refl _ | apply List.Sublist.cons_cons | apply List.Sublist.cons)) inferInstance (by kernel_rfl) (by kernel_rfl) (by kernel_rfl) (by kernel_rfl) rfl rfl (Wanted.plain rfl) (Val.eq (Val.of rfl) (congrArg (Value.int .u32) (u32_xor _ _ (Nat.xor_lt_two_pow (n := 32) (rotr_lt _ _ (hlt _)) (rotr_lt _ _ (hlt _))) (hd _ _ (hlt _))))) ?_
        refine DR.take 18 rfl (by repeat (first | exact List.nil_sublist _ | exact List.Sublist.refl _ | apply List.Sublist.cons_cons | apply List.Sublist.cons)) inferInstance (by kernel_rfl) (by kernel_rfl) (by kernel_rfl) (by kernel_rfl) rfl rfl (Wanted.plain rfl) (Val.eq (Val.of rfl) (congrArg (Value.int .u32) (u32_add _ _))) ?_
        refine DR.one (i := 20) (by kernel_rfl) ?_
        refine DOp.op rfl (Wanted.plain rfl) (OpTo.callV Tryd.func77 rfl rfl rfl rfl rfl rfl (fun w _ => hr 17 (by decide) (by decide) _ w)) (.inl fun _ => by repeat (first | exact List.nil_sublist _ | exact List.Sublist.refl _ | apply List.Sublist.cons_cons | apply List.Sublist.cons)) (fun _ => ?_)
        refine DR.one (i := 22) (by kernel_rfl) ?_
        refine DOp.op rfl (Wanted.plain rfl) (OpTo.callV Tryd.func77 rfl rfl rfl rfl rfl rfl (fun w _ => hr 19 (by decide) (by decide) _ w)) (.inl fun _ => by repeat (first | exact List.nil_sublist _ | exact List.Sublist.refl _ | apply List.Sublist.cons_cons | apply List.Sublist.cons)) (fun _ => ?_)
        refine DR.take 23 rfl (by repeat (first | exact List.nil_sublist _ | exact List.Sublist.refl _ | apply List.Sublist.cons_cons | apply List.Sublist.cons)) inferInstance (by kernel_rfl) (by kernel_rfl) (by kernel_rfl) (by kernel_rfl) rfl rfl (Wanted.plain rfl) (Val.eq (Val.of rfl) (congrArg (Value.int .u32) (u32_xor _ _ (rotr_lt _ _ (hlt _)) (rotr_lt _ _ (hlt _))))) ?_
        refine DR.take 26 rfl (by repeat (first | exact List.nil_sublist _ | exact List.Sublist.refl _ | apply List.Sublist.cons_cons | apply List.Sublist.cons)) inferInstance (by kernel_rfl) (by kernel_rfl) (by kernel_rfl) (by kernel_rfl) rfl rfl (Wanted.plain rfl) (Val.eq (Val.of rfl) (congrArg (Value.int .u32) (u32_xor _ _ (Nat.xor_lt_two_pow (n := 32) (rotr_lt _ _ (hlt _)) (rotr_lt _ _ (hlt _))) (hd _ _ (hlt _))))) ?_
        refine DR.take 27 rfl (by repeat (first | exact List.nil_sublist _ | exact List.Sublist.refl _ | apply List.Sublist.cons_cons | apply List.Sublist.cons)) inferInstance (by kernel_rfl) (by kernel_rfl) (by kernel_rfl) (by kernel_rfl) rfl rfl (Wanted.plain rfl) (Val.eq (Val.of rfl) (congrArg (Value.int .u32) (u32_add _ _))) ?_
        refine DR.take 28 rfl (by repeat (first | exact List.nil_sublist _ | exact List.Sublist.refl _ | apply List.Sublist.cons_cons | apply List.Sublist.cons)) inferInstance (by kernel_rfl) (by kernel_rfl) (by kernel_rfl) (by kernel_rfl) rfl rfl (Wanted.plain rfl) (Val.ix tabOk i (off' := i) rfl rfl rfl rfl rfl rfl rfl hi' (by simp [ti101])) ?_
        refine DR.one (i := 29) (by kernel_rfl) ?_
        refine DOp.op rfl (Wanted.plain rfl) (OpTo.storeTo tabOk ((u32s_set _ i _ (by rw [Wz_len blk i hi]; exact hi')).trans (congrArg (fun l => (u32s l).toArray) (Wz_set blk i _ hi' (by unfold wd; rw [if_neg (by rw [W_length]; omega), W_length]; rfl)))) rfl rfl rfl rfl rfl (List.Perm.refl _) rfl (by simp [u32s_len, Wz_len blk i hi, ti101]; omega) (by simp [Value.cells]; rfl)) (.inr (by kernel_rfl)) (fun _ => ?_)
        refine DR.done (by kernel_rfl) (RQ.blockNormal ?_)
        exact RQ.to () ⟨rfl, rfl, rfl, rfl, trivial⟩ (List.Sublist.refl _)
    · refine RC.region ?_
      repeat (first | refine Run.v rfl rfl rfl (Val.ar rfl rfl rfl rfl (by dsimp only [inK]; omega)) ?_ | refine Run.v rfl rfl rfl (Val.of rfl) ?_)
      exact Run.nil (RQ.round (i + 1) (by omega) (by show 64 - (i + 1) < 64 - i; omega) ⟨rfl, rfl, rfl, rfl, trivial⟩ (List.Sublist.refl _))
  · -- all are there
    have hi' : i = 64 := by have := of_decide_eq_false h; omega
    subst hi'
    (repeat refine RQ.thenExit ?_); refine RQ.blockHere ?_
    refine RQ.next ?_
    (repeat refine RC.seq ?_); refine RC.region ?_
    refine Run.v rfl rfl rfl (Val.loadAll tabOk rfl rfl rfl rfl List.mem_cons_self (by show (u32s (Wz blk 64)).toArray.size = 64; simp [u32s_len, Wz_len])) ?_
    have h64 : Wz blk 64 = W blk 64 := by simp [Wz]
    rw [h64]
    refine Run.storeAll tabOk rfl rfl rfl rfl rfl rfl (List.Perm.swap _ _ _) (by simp [Value.cells, u32s_len, W_length]; rfl) rfl (fun u hu => u32s_one (W blk 64) u (by simpa [Value.cells] using hu)) ?_
    exact Run.nil (RQ.next (RC.ret (RQ.ret1 rfl (Res.cellAll tabOk rfl rfl rfl List.mem_cons_self (by simp [Value.cells, u32s_len, W_length]; rfl)) fun w' hm => ⟨rfl, hm.fr⟩)))
end Go.Proofs.YtilfbomjaflbjaaDoor
