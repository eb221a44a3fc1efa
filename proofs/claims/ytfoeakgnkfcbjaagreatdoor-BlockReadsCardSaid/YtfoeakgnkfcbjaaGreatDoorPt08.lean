/- Lemmas. -/
import Derived.Test.YtfoeakgnkfcbjaaGreatDoorPt07
set_option linter.unusedSimpArgs false
set_option linter.unusedVariables false
section
/- bits.RotateLeft32, hash.right, the reference's turned: a word turned to the right; the kinds of reckoning on words of 32 bits. -/
namespace Go.Proofs.YtfoeakgnkfcbjaaGreatDoor
open Go Go.Vc Go.Sha

theorem wrap_u32 (z : Int) : IntKind.wrap .u32 z = z % 4294967296 := rfl
theorem wrap_u8 (z : Int) : IntKind.wrap .u8 z = z % 256 := rfl
theorem wrap_u64 (z : Int) : IntKind.wrap .u64 z = z % 18446744073709551616 := rfl
theorem ofInt32 (a : Nat) (h : a < 4294967296) : (BitVec.ofInt 32 (a : Int)).toNat = a := by
  rw [BitVec.toNat_ofInt]; omega
theorem u32_or (a b : Nat) (ha : a < 4294967296) (hb : b < 4294967296) : IntKind.wrap .u32 (BitVec.ofInt IntKind.u32.bits (a : Int) ||| BitVec.ofInt IntKind.u32.bits (b : Int)).toNat = ((a ||| b : Nat) : Int) := by
  have e : (BitVec.ofInt 32 (a : Int) ||| BitVec.ofInt 32 (b : Int)).toNat = a ||| b := by rw [BitVec.toNat_or, ofInt32 a ha, ofInt32 b hb]
  show IntKind.wrap .u32 ((BitVec.ofInt 32 (a : Int) ||| BitVec.ofInt 32 (b : Int)).toNat : Int) = _
  rw [e]
  have h : a ||| b < 4294967296 := Nat.or_lt_two_pow (n := 32) ha hb
  exact wrap_in (by simp only [inK]; omega)
theorem u32_xor (a b : Nat) (ha : a < 4294967296) (hb : b < 4294967296) : IntKind.wrap .u32 (BitVec.ofInt IntKind.u32.bits (a : Int) ^^^ BitVec.ofInt IntKind.u32.bits (b : Int)).toNat = ((a ^^^ b : Nat) : Int) := by
  have e : (BitVec.ofInt 32 (a : Int) ^^^ BitVec.ofInt 32 (b : Int)).toNat = a ^^^ b := by rw [BitVec.toNat_xor, ofInt32 a ha, ofInt32 b hb]
  show IntKind.wrap .u32 ((BitVec.ofInt 32 (a : Int) ^^^ BitVec.ofInt 32 (b : Int)).toNat : Int) = _
  rw [e]
  have h : a ^^^ b < 4294967296 := Nat.xor_lt_two_pow (n := 32) ha hb
  exact wrap_in (by simp only [inK]; omega)
theorem u32_and (a b : Nat) (ha : a < 4294967296) (hb : b < 4294967296) : IntKind.wrap .u32 (BitVec.ofInt IntKind.u32.bits (a : Int) &&& BitVec.ofInt IntKind.u32.bits (b : Int)).toNat = ((a &&& b : Nat) : Int) := by
  have e : (BitVec.ofInt 32 (a : Int) &&& BitVec.ofInt 32 (b : Int)).toNat = a &&& b := by rw [BitVec.toNat_and, ofInt32 a ha, ofInt32 b hb]
  show IntKind.wrap .u32 ((BitVec.ofInt 32 (a : Int) &&& BitVec.ofInt 32 (b : Int)).toNat : Int) = _
  rw [e]
  have h : a &&& b < 4294967296 := Nat.lt_of_le_of_lt Nat.and_le_left ha
  exact wrap_in (by simp only [inK]; omega)
theorem u32_not (a : Nat) (ha : a < 4294967296) : IntKind.wrap .u32 (BitVec.ofInt IntKind.u32.bits (if IntKind.u32.signed = true then -1 else IntKind.u32.max) ^^^ BitVec.ofInt IntKind.u32.bits (a : Int)).toNat = ((4294967295 ^^^ a : Nat) : Int) :=
  u32_xor 4294967295 a (by decide) ha
theorem u32_add (a b : Nat) : IntKind.wrap .u32 ((a : Int) + (b : Int)) = (((a + b) % 4294967296 : Nat) : Int) := by rw [wrap_u32]; omega
theorem u32_wr (a : Nat) : IntKind.wrap .u32 (a : Int) = ((a % 4294967296 : Nat) : Int) := by rw [wrap_u32]; omega

theorem and31 : ∀ n : Fin 32, 0 < n.val → IntKind.wrap .u64 (BitVec.ofInt IntKind.u64.bits (IntKind.wrap .u64 (-(n.val : Int))) &&& BitVec.ofInt IntKind.u64.bits 31).toNat = ((32 - n.val : Nat) : Int) := by decide +kernel

theorem sub32 (n : Nat) (h : n < 32) : IntKind.wrap .u64 (32 - ((32 - n : Nat) : Int)) = (n : Int) := by rw [wrap_u64]; omega

set_option maxRecDepth 10000 in set_option maxHeartbeats 4000000 in
theorem RotateLeft32_calls (x n : Nat) (hx : x < 4294967296) (h0 : 0 < n) (h1 : n < 32) (w : World) :
    Gives Tryz.prog 163 [.int .u32 x, .int .i64 (-(n : Int))] (.int .u32 (rotr n x)) w := by
  refine enter Tryz.func163 rfl (Mem.nil w []) rfl ?_
  (repeat refine RC.seq ?_); refine RC.region ?_
  repeat refine Run.a (Val.of rfl) ?_
  refine Run.nil (RQ.next ?_)
  (repeat refine RC.seq ?_); refine RC.region ?_
  refine Run.a (Val.of rfl) ?_
  refine Run.a (Val.conv tabOk rfl rfl rfl rfl rfl rfl) ?_
  refine Run.a (Val.eq (Val.of rfl) (congrArg (Value.int .u64) (and31 ⟨n, h1⟩ h0))) ?_
  refine Run.a (Val.of rfl) ?_
  refine Run.nil (RQ.next ?_)
  (repeat refine RC.seq ?_); refine RC.region ?_
  refine Run.a (Val.of rfl) ?_
  refine Run.a (Val.of rfl) ?_
  refine Run.a (Val.eq (Val.shl rfl rfl rfl (by show _ ≤ 32; omega)) (congrArg (Value.int .u32) (u32_wr _))) ?_
  refine Run.a (Val.of rfl) ?_
  refine Run.a (Val.of rfl) ?_
  refine Run.a (Val.eq (Val.of rfl) (congrArg (Value.int .u64) (sub32 n h1))) ?_
  refine Run.a (Val.shr rfl rfl rfl (by show _ ≤ 32; omega)) ?_
  refine Run.a (Val.eq (Val.of rfl) (congrArg (Value.int .u32) (u32_or _ _ (Nat.mod_lt _ (by decide)) (Nat.lt_of_le_of_lt (Nat.div_le_self _ _) hx)))) ?_
  refine Run.a (Val.of rfl) ?_
  refine Run.nil (RQ.next ?_)
  exact RC.ret (RQ.ret1 rfl (Res.tmp rfl) fun w' hm => ⟨rfl, hm.fr⟩)

set_option maxRecDepth 10000 in set_option maxHeartbeats 4000000 in
/-- hash.right. -/
theorem right_calls (x n : Nat) (hx : x < 4294967296) (h0 : 0 < n) (h1 : n < 32) (w : World) :
    Gives Tryz.prog 146 [.int .u32 x, .int .i64 n] (.int .u32 (rotr n x)) w := by
  refine enter Tryz.func146 rfl (Mem.nil w []) rfl ?_
  (repeat refine RC.seq ?_); refine RC.region ?_
  repeat refine Run.a (Val.of rfl) ?_
  refine Run.nil (RQ.next ?_)
  (repeat refine RC.seq ?_); refine RC.region ?_
  refine Run.a (Val.of rfl) ?_
  refine Run.a (Val.of rfl) ?_
  refine Run.a (Val.eq (Val.of rfl) (congrArg (Value.int .i64) (show IntKind.wrap .i64 (0 - (n : Int)) = -(n : Int) from by rw [wrap_in (by simp only [inK]; omega)]; omega))) ?_
  refine Run.callV Tryz.func163 rfl rfl rfl rfl rfl rfl rfl (fun w _ => RotateLeft32_calls x n hx h0 h1 w) ?_
  refine Run.a (Val.of rfl) ?_
  refine Run.nil (RQ.next ?_)
  exact RC.ret (RQ.ret1 rfl (Res.tmp rfl) fun w' hm => ⟨rfl, hm.fr⟩)
end Go.Proofs.YtfoeakgnkfcbjaaGreatDoor

/- hash.spread: a block's words. -/
namespace Go.Proofs.YtfoeakgnkfcbjaaGreatDoor
open Go Go.Vc Go.Sha

/-- The words as far as they are there, noughts behind them. -/
def Wz (b : List Nat) (i : Nat) : List Nat := W b i ++ List.replicate (64 - i) 0
/-- .. the word at i being put together. -/
def Wp (b : List Nat) (i k : Nat) : List Nat := W b i ++ bpart b (4 * i) k :: List.replicate (63 - i) 0

theorem Wz_len (b : List Nat) (i : Nat) (h : i ≤ 64) : (Wz b i).length = 64 := by simp [Wz, W_length]; omega
theorem Wp_len (b : List Nat) (i k : Nat) (h : i < 64) : (Wp b i k).length = 64 := by simp [Wp, W_length]; omega
theorem Wz_zero (b : List Nat) (i : Nat) (h : i < 64) : Wz b i = Wp b i 0 := by
  unfold Wz Wp
  rw [show 64 - i = (63 - i) + 1 by omega, List.replicate_succ]
  rfl
theorem Wp_four (b : List Nat) (i : Nat) (h : i < 16) : Wp b i 4 = Wz b (i + 1) := by
  unfold Wz Wp
  rw [show 64 - (i + 1) = 63 - i by omega]
  simp [W, wd, W_length, h]
theorem Wp_set (b : List Nat) (i k x : Nat) (hx : x = bpart b (4 * i) (k + 1)) : (Wp b i k).set i x = Wp b i (k + 1) := by
  unfold Wp
  rw [List.set_append_right _ _ (by simp [W_length]), W_length]
  simp [hx]
theorem Wz_set (b : List Nat) (i x : Nat) (h : i < 64) (hx : x = wd b (W b i)) : (Wz b i).set i x = Wz b (i + 1) := by
  unfold Wz
  rw [List.set_append_right _ _ (by simp [W_length]), W_length, show 64 - i = (64 - (i + 1)) + 1 by omega, List.replicate_succ]
  simp [hx, W]
theorem Wp_at (b : List Nat) (i k : Nat) : (Wp b i k).getD i 0 = bpart b (4 * i) k := by
  simp [Wp, List.getD_eq_getElem?_getD, W_length]
theorem Wz_at (b : List Nat) (i j : Nat) (h : j < i) : (Wz b i).getD j 0 = (W b i).getD j 0 := by
  simp only [Wz, List.getD_eq_getElem?_getD]
  rw [List.getElem?_append_left (by rw [W_length]; exact h)]

set_option maxRecDepth 10000 in set_option maxHeartbeats 4000000 in
theorem spread_calls (blk : List Nat) (hl : blk.length = 64) (hb : ∀ x ∈ blk, x < 256) (a : Addr) (cap : Nat) (hcap : 64 ≤ cap) (w : World) (hc : ∀ j u, (u8s blk)[j]? = some u → w.cell? (a.add j) = some u) :
    Gives Tryz.prog 145 [.slice (some a) 64 cap] (.agg (u32s (W blk 64)).toArray) w := by
  refine enter Tryz.func145 rfl (Mem.nil w []) rfl ?_
  (repeat refine RC.seq ?_); refine RC.region ?_
  refine Run.nw (New.alloc tabOk rfl rfl) ?_
  intro b0
  refine Run.nil (RQ.next ?_)
  (repeat refine RC.seq ?_); refine RC.region ?_
  refine Run.nw (New.alloc tabOk rfl rfl) ?_
  intro b1
  refine Run.nil (RQ.next ?_)
  (repeat refine RC.seq ?_); refine RC.region ?_
  repeat refine Run.a (Val.of rfl) ?_
  refine Run.nil (RQ.next ?_)
  (repeat refine RC.seq ?_); refine RC.block ?_
  refine RC.loop (ι := Nat) (fun i => [(9, .int .i64 i), (3, .pointer (some ⟨b1, 0, none⟩)), (2, .pointer (some ⟨b0, 0, none⟩)), (0, .slice (some a) 64 cap)])
    (fun i => [(b1, .cells (u32s (Wz blk i)).toArray 111 (0, 0)), (b0, .cells ti111.zero.cells 111 (0, 0))]) (fun i => i ≤ 64) (fun i => 64 - i) 0 (by omega) ?_ ?_ ?_
  · exact ⟨rfl, rfl, rfl, rfl, trivial⟩
  · exact List.Perm.refl _
  intro i hi
  (repeat refine RC.seq ?_); refine RC.region ?_
  repeat refine Run.a (Val.of rfl) ?_
  refine Run.nil (RQ.next ?_)
  refine RC.while rfl (fun h => ?_) (fun h => ?_)
  · -- a round
    have hi' : i < 64 := by have := of_decide_eq_true h; omega
    refine RC.seqCut (Y := Unit) (fun _ => [(9, .int .i64 i), (3, .pointer (some ⟨b1, 0, none⟩)), (2, .pointer (some ⟨b0, 0, none⟩)), (0, .slice (some a) 64 cap)])
      (fun _ => [(b1, .cells (u32s (Wz blk (i + 1))).toArray 111 (0, 0)), (b0, .cells ti111.zero.cells 111 (0, 0))]) (RC.block ?_) (fun _ => ?_)
    · (repeat refine RC.seq ?_); refine RC.region ?_
      repeat refine Run.a (Val.of rfl) ?_
      refine Run.nil (RQ.next ?_)
      (repeat refine RC.seq ?_); refine RC.region ?_
      repeat refine Run.a (Val.of rfl) ?_
      refine Run.nil (RQ.next ?_)
      refine RC.cond rfl (fun h => ?_) (fun h => ?_)
      · -- one of the first sixteen
        have hi2 : i < 16 := by have := of_decide_eq_true h; omega
        (repeat refine RC.seq ?_); refine RC.region ?_
        repeat (first | refine Run.a Val.ra ?_ | refine Run.a (Val.of rfl) ?_)
        refine Run.a (Val.eq (Val.sliceS' tabOk (4 * i) (4 * i + 4) (m := 4) rfl rfl rfl rfl rfl (.inr ⟨_, rfl, rfl⟩) (.inr ⟨_, rfl, rfl⟩) (by omega) (by omega) (by omega) (by omega)) (show _ = Value.slice (some (a.add (4 * i))) 4 (cap - 4 * i) from by simp [ti5])) ?_
        refine Run.a (Val.len tabOk rfl rfl rfl rfl) ?_
        refine Run.a (Val.of rfl) ?_
        refine Run.nil (RQ.next ?_)
        (repeat refine RC.seq ?_); refine RC.block ?_
        refine RC.loop (ι := Nat) (fun k => [(22, .int .i64 k), (21, .int .i64 4), (20, .slice (some (a.add (4 * i))) 4 (cap - 4 * i)), (4, .int .i64 i), (9, .int .i64 i), (3, .pointer (some ⟨b1, 0, none⟩)), (2, .pointer (some ⟨b0, 0, none⟩)), (0, .slice (some a) 64 cap)])
          (fun k => [(b1, .cells (u32s (Wp blk i k)).toArray 111 (0, 0)), (b0, .cells ti111.zero.cells 111 (0, 0))]) (fun k => k ≤ 4) (fun k => 4 - k) 0 (by omega) ?_ ?_ ?_
        · exact ⟨rfl, rfl, rfl, rfl, rfl, rfl, rfl, rfl, trivial⟩
        · rw [Wz_zero blk i hi']
        intro k hk
        (repeat refine RC.seq ?_); refine RC.region ?_
        repeat refine Run.a (Val.of rfl) ?_
        refine Run.nil (RQ.next ?_)
        refine RC.while rfl (fun h => ?_) (fun h => ?_)
        · have hk' : k < 4 := by have := of_decide_eq_true h; omega
          have hbyte : blk.getD (4 * i + k) 0 < 256 := by
            rw [List.getD_eq_getElem?_getD, List.getElem?_eq_getElem (by omega)]
            exact hb _ (List.getElem_mem _)
          have hp := bpart_lt blk hb (4 * i) k
          have hp3 : bpart blk (4 * i) k < 16777216 := Nat.lt_of_lt_of_le hp (by
            have : (256 : Nat) ^ k ≤ 256 ^ 3 := Nat.pow_le_pow_right (by decide) (by omega)
            simpa using this)
          refine RC.seqCut (Y := Unit) (fun _ => [(22, .int .i64 k), (21, .int .i64 4), (20, .slice (some (a.add (4 * i))) 4 (cap - 4 * i)), (4, .int .i64 i), (9, .int .i64 i), (3, .pointer (some ⟨b1, 0, none⟩)), (2, .pointer (some ⟨b0, 0, none⟩)), (0, .slice (some a) 64 cap)])
            (fun _ => [(b1, .cells (u32s (Wp blk i (k + 1))).toArray 111 (0, 0)), (b0, .cells ti111.zero.cells 111 (0, 0))]) (RC.block ?_) (fun _ => ?_)
          · (repeat refine RC.seq ?_); refine RC.region ?_
            refine Run.a (Val.eq (Val.idxS tabOk rfl rfl rfl rfl rfl rfl (by omega) (by omega)) (show _ = Value.pointer (some (a.add (4 * i + k))) from by rw [add_add]; simp [ti5])) ?_
            refine Run.a (Val.loadOld1 tabOk rfl rfl rfl rfl (by simp) (hc (4 * i + k) _ (u8s_at blk _ (by omega)))) ?_
            repeat refine Run.a (Val.of rfl) ?_
            refine Run.nil (RQ.next ?_)
            (repeat refine RC.seq ?_); refine RC.region ?_
            repeat refine Run.a (Val.of rfl) ?_
            refine Run.a (Val.eq (Val.idxA tabOk rfl rfl rfl rfl rfl rfl (by omega) (by omega)) (show _ = Value.pointer (some ⟨b1, i, none⟩) from by simp [ti109])) ?_
            refine Run.a (Val.load tabOk rfl rfl rfl (List.mem_cons_self) (by show (u32s (Wp blk i k)).toArray[i]? = _; exact u32s_at _ _ (by have := Wp_len blk i k hi'; omega))) ?_
            refine Run.a (Val.eq (Val.shl (m := 8) rfl rfl rfl (by decide)) (congrArg (Value.int .u32) (u32_wr _))) ?_
            repeat refine Run.a (Val.of rfl) ?_
            refine Run.a (Val.convIn tabOk rfl rfl rfl rfl rfl rfl (by simp only [inK]; omega)) ?_
            refine Run.a (Val.eq (Val.of rfl) (show _ = Value.int .u32 ((bpart blk (4 * i) (k + 1) : Nat) : Int) from congrArg (Value.int .u32) ((u32_or _ _ (Nat.mod_lt _ (by decide)) (by omega)).trans (by rw [Wp_at, or_byte _ _ hbyte hp3]; rfl)))) ?_
            refine Run.a (Val.eq (Val.idxA tabOk rfl rfl rfl rfl rfl rfl (by omega) (by omega)) (show _ = Value.pointer (some ⟨b1, i, none⟩) from by simp [ti109])) ?_
            refine Run.storeTo tabOk ((u32s_set _ i _ (by have := Wp_len blk i k hi'; omega)).trans (congrArg (fun l => (u32s l).toArray) (Wp_set blk i k _ rfl))) rfl rfl rfl rfl rfl rfl (List.Perm.refl _) rfl (by simp [u32s_len, Wp_len _ _ _ hi', ti109]; omega) (by simp [Value.cells]; rfl) ?_
            exact Run.nil (RQ.to () ⟨rfl, rfl, rfl, rfl, rfl, rfl, rfl, rfl, trivial⟩ (List.Sublist.refl _))
          · refine RC.region ?_
            repeat (first | refine Run.a Val.ra ?_ | refine Run.a (Val.of rfl) ?_)
            exact Run.nil (RQ.round (k + 1) (by omega) (by show 4 - (k + 1) < 4 - k; omega) ⟨rfl, rfl, rfl, rfl, rfl, rfl, rfl, rfl, trivial⟩ (List.Sublist.refl _))
        · have hk' : k = 4 := by have := of_decide_eq_false h; omega
          subst hk'
          (repeat refine RQ.thenExit ?_); refine RQ.blockHere ?_
          refine RQ.next (RC.exit ?_)
          refine RQ.thenExit (RQ.blockHere (RQ.to () ⟨rfl, rfl, rfl, rfl, trivial⟩ ?_))
          rw [Wp_four blk i hi2]
          exact List.Sublist.refl _
      · -- one that follows from those ahead of it
        have hi2 : 16 ≤ i := by have := of_decide_eq_false h; omega
        have hat : ∀ j, j < i → (u32s (Wz blk i)).toArray[j]? = some (.int .u32 ((W blk i).getD j 0 : Nat)) := fun j hj => by
          rw [u32s_at _ _ (by rw [Wz_len blk i hi]; omega), Wz_at blk i j hj]
        have hlt : ∀ j, (W blk i).getD j 0 < 4294967296 := W_getD_lt blk hb i
        refine RC.skip (RQ.next ?_)
        (repeat refine RC.seq ?_); refine RC.drawS mixed (N := 10) rfl ?_
        refine DR.t 0 rfl (Val.of rfl) ?_
        refine DR.t 1 rfl Val.ra ?_
        refine DR.t 2 rfl (Val.ix tabOk (i - 15) (off' := i - 15) rfl rfl rfl rfl rfl rfl (by omega) (by omega) (by simp [ti109])) ?_
        refine DR.t 3 rfl (Val.load tabOk rfl rfl rfl List.mem_cons_self (hat (i - 15) (by omega))) ?_
        refine DR.t 4 rfl (Val.of rfl) ?_
        refine DR.t 5 rfl Val.ra ?_
        refine DR.t 6 rfl (Val.ix tabOk (i - 2) (off' := i - 2) rfl rfl rfl rfl rfl rfl (by omega) (by omega) (by simp [ti109])) ?_
        refine DR.t 7 rfl (Val.load tabOk rfl rfl rfl List.mem_cons_self (hat (i - 2) (by omega))) ?_
        refine DR.t 8 rfl (Val.of rfl) ?_
        refine DR.t 9 rfl (Val.of rfl) ?_
        refine DR.done (by kernel_rfl) (RQ.next ?_)
        have hr := fun n (h0 : 0 < n) (h1 : n < 32) (j : Nat) => right_calls ((W blk i).getD j 0) n (hlt j) h0 h1
        have hd : ∀ x n : Nat, x < 4294967296 → x / 2 ^ n < 4294967296 := fun x n h => Nat.lt_of_le_of_lt (Nat.div_le_self _ _) h
        (repeat refine RC.seq ?_); refine RC.drawS mixed (N := 30) rfl ?_
        refine DR.t 0 rfl (Val.of rfl) ?_
        refine DR.t 1 rfl (Val.of rfl) ?_
        refine DR.t 2 rfl Val.ra ?_
        refine DR.t 3 rfl (Val.ix tabOk (i - 16) (off' := i - 16) rfl rfl rfl rfl rfl rfl (by omega) (by omega) (by simp [ti109])) ?_
        refine DR.t 4 rfl (Val.load tabOk rfl rfl rfl List.mem_cons_self (hat (i - 16) (by omega))) ?_
        refine DR.t 5 rfl (Val.of rfl) ?_
        refine DR.t 6 rfl Val.ra ?_
        refine DR.t 7 rfl (Val.ix tabOk (i - 7) (off' := i - 7) rfl rfl rfl rfl rfl rfl (by omega) (by omega) (by simp [ti109])) ?_
        refine DR.t 8 rfl (Val.load tabOk rfl rfl rfl List.mem_cons_self (hat (i - 7) (by omega))) ?_
        refine DR.t 9 rfl (Val.eq (Val.of rfl) (congrArg (Value.int .u32) (u32_add _ _))) ?_
        refine DR.t 10 rfl (Val.of rfl) ?_
        refine DR.t 12 rfl (Val.of rfl) ?_
        refine DR.t 15 rfl (Val.of rfl) ?_
        refine DR.t 16 rfl (Val.shr (m := 3) rfl rfl rfl (by decide)) ?_
        refine DR.t 19 rfl (Val.of rfl) ?_
        refine DR.t 21 rfl (Val.of rfl) ?_
        refine DR.t 24 rfl (Val.of rfl) ?_
        refine DR.t 25 rfl (Val.shr (m := 10) rfl rfl rfl (by decide)) ?_
        refine DR.c 11 ?_
        refine DOp.op1 rfl (OpTo.callV Tryz.func146 rfl rfl rfl rfl rfl rfl (fun w _ => hr 7 (by decide) (by decide) _ w)) (fun _ => ?_)
        refine DR.c 13 ?_
        refine DOp.op1 rfl (OpTo.callV Tryz.func146 rfl rfl rfl rfl rfl rfl (fun w _ => hr 18 (by decide) (by decide) _ w)) (fun _ => ?_)
        refine DR.t 14 rfl (Val.eq (Val.of rfl) (congrArg (Value.int .u32) (u32_xor _ _ (rotr_lt _ _ (hlt _)) (rotr_lt _ _ (hlt _))))) ?_
        refine DR.t 17 rfl (Val.eq (Val.of rfl) (congrArg (Value.int .u32) (u32_xor _ _ (Nat.xor_lt_two_pow (n := 32) (rotr_lt _ _ (hlt _)) (rotr_lt _ _ (hlt _))) (hd _ _ (hlt _))))) ?_
        refine DR.t 18 rfl (Val.eq (Val.of rfl) (congrArg (Value.int .u32) (u32_add _ _))) ?_
        refine DR.c 20 ?_
        refine DOp.op1 rfl (OpTo.callV Tryz.func146 rfl rfl rfl rfl rfl rfl (fun w _ => hr 17 (by decide) (by decide) _ w)) (fun _ => ?_)
        refine DR.c 22 ?_
        refine DOp.op1 rfl (OpTo.callV Tryz.func146 rfl rfl rfl rfl rfl rfl (fun w _ => hr 19 (by decide) (by decide) _ w)) (fun _ => ?_)
        refine DR.t 23 rfl (Val.eq (Val.of rfl) (congrArg (Value.int .u32) (u32_xor _ _ (rotr_lt _ _ (hlt _)) (rotr_lt _ _ (hlt _))))) ?_
        refine DR.t 26 rfl (Val.eq (Val.of rfl) (congrArg (Value.int .u32) (u32_xor _ _ (Nat.xor_lt_two_pow (n := 32) (rotr_lt _ _ (hlt _)) (rotr_lt _ _ (hlt _))) (hd _ _ (hlt _))))) ?_
        refine DR.t 27 rfl (Val.eq (Val.of rfl) (congrArg (Value.int .u32) (u32_add _ _))) ?_
        refine DR.t 28 rfl (Val.ix tabOk i (off' := i) rfl rfl rfl rfl rfl rfl rfl hi' (by simp [ti109])) ?_
        refine DR.c 29 ?_
        refine DOp.op1 rfl (OpTo.storeTo tabOk ((u32s_set _ i _ (by rw [Wz_len blk i hi]; exact hi')).trans (congrArg (fun l => (u32s l).toArray) (Wz_set blk i _ hi' (by unfold wd; rw [if_neg (by rw [W_length]; omega), W_length]; rfl)))) rfl rfl rfl rfl rfl (List.Perm.refl _) rfl (by simp [u32s_len, Wz_len blk i hi, ti109]; omega) (by simp [Value.cells]; rfl)) (fun _ => ?_)
        refine DR.done (by kernel_rfl) (RQ.blockNormal ?_)
        exact RQ.to () ⟨rfl, rfl, rfl, rfl, trivial⟩ (List.Sublist.refl _)
    · refine RC.region ?_
      repeat (first | refine Run.a Val.ra ?_ | refine Run.a (Val.of rfl) ?_)
      exact Run.nil (RQ.round (i + 1) (by omega) (by show 64 - (i + 1) < 64 - i; omega) ⟨rfl, rfl, rfl, rfl, trivial⟩ (List.Sublist.refl _))
  · -- all are there
    have hi' : i = 64 := by have := of_decide_eq_false h; omega
    subst hi'
    (repeat refine RQ.thenExit ?_); refine RQ.blockHere ?_
    refine RQ.next ?_
    (repeat refine RC.seq ?_); refine RC.region ?_
    refine Run.a (Val.loadAll tabOk rfl rfl rfl rfl List.mem_cons_self (by show (u32s (Wz blk 64)).toArray.size = 64; simp [u32s_len, Wz_len])) ?_
    have h64 : Wz blk 64 = W blk 64 := by simp [Wz]
    rw [h64]
    refine Run.storeAll tabOk rfl rfl rfl rfl rfl rfl (List.Perm.swap _ _ _) (by simp [Value.cells, u32s_len, W_length]; rfl) rfl (fun u hu => u32s_one (W blk 64) u (by simpa [Value.cells] using hu)) ?_
    exact Run.nil (RQ.next (RC.ret (RQ.ret1 rfl (Res.cellAll tabOk rfl rfl rfl List.mem_cons_self (by simp [Value.cells, u32s_len, W_length]; rfl)) fun w' hm => ⟨rfl, hm.fr⟩)))
end Go.Proofs.YtfoeakgnkfcbjaaGreatDoor

/- (*hash.words).block: a block taken into a sum. -/
namespace Go.Proofs.YtfoeakgnkfcbjaaGreatDoor
open Go Go.Vc Go.Sha

/-- hash.steps holds its numbers. -/
def Laid (w : World) : Prop := ∀ i, i < 64 → w.cell? ⟨1, i, none⟩ = some (.int .u32 (K.getD i 0 : Nat))
theorem Laid.fr {S : List Nat} {w w' : World} (h : Laid w) (hf : Fr S w w') (hS : 1 ∉ S) : Laid w' := fun i hi => hf.cell hS (h i hi)

set_option maxRecDepth 10000 in set_option maxHeartbeats 4000000 in
theorem block_calls (b : Nat) (e : TypeId) (h : V8) (hh : h.lt) (blk : List Nat) (hl : blk.length = 64) (hb : ∀ x ∈ blk, x < 256) (a : Addr) (cap : Nat) (hcap : 64 ≤ cap) (w : World)
    (hc : ∀ j u, (u8s blk)[j]? = some u → w.cell? (a.add j) = some u) (hab : a.block ≠ b) (hgb : b ≠ 1) (hK : Laid w) (hbl : w.heap[b]? = some (.cells (u32s h.l).toArray e (0, 0))) :
    Calls Tryz.prog 104 #[.pointer (some ⟨b, 0, none⟩), .slice (some a) 64 cap] w
      fun e' w' => e' = .returned (.tuple #[]) ∧ Fr [b] w w' ∧ w'.heap[b]? = some (.cells (u32s (compress h blk).l).toArray e (0, 0)) := by
  refine enter (vs := [.pointer (some ⟨b, 0, none⟩), .slice (some a) 64 cap]) Tryz.func104 rfl (Mem.init (S0 := [b]) (L := [(b, .cells (u32s h.l).toArray e (0, 0))]) (by simpa using hbl) (by simp) (by simp)) rfl ?_
  (repeat refine RC.seq ?_); refine RC.region ?_
  refine Run.a (Val.of rfl) ?_
  refine Run.a (Val.of rfl) ?_
  refine Run.a (Val.loadAll tabOk rfl rfl rfl rfl List.mem_cons_self rfl) ?_
  refine Run.nw (New.alloc tabOk rfl rfl) ?_
  intro b1
  refine Run.storeAll tabOk rfl rfl rfl rfl rfl rfl (List.Perm.refl _) rfl rfl (fun u hu => u32s_one h.l u (by simpa [Value.cells] using hu)) ?_
  refine Run.nil (RQ.next ?_)
  (repeat refine RC.seq ?_); refine RC.region ?_
  refine Run.a (Val.of rfl) ?_
  refine Run.callV Tryz.func145 rfl rfl rfl rfl rfl rfl rfl (fun w' hm => spread_calls blk hl hb a cap hcap w' (fun j u hj => hm.fr.cell (by rw [show (a.add j).block = a.block by unfold Addr.add; split <;> rfl]; simpa using hab) (hc j u hj))) ?_
  refine Run.a (Val.of rfl) ?_
  refine Run.nil (RQ.next ?_)
  (repeat refine RC.seq ?_); refine RC.block ?_
  refine RC.loop (ι := Nat) (fun i => [(18, .int .i64 i), (17, .agg (u32s (W blk 64)).toArray), (4, .pointer (some ⟨b1, 0, none⟩)), (0, .pointer (some ⟨b, 0, none⟩))])
    (fun i => [(b1, .cells (u32s (rounds h (W blk 64) i).l).toArray 150 (0, 0)), (b, .cells (u32s h.l).toArray e (0, 0))]) (fun i => i ≤ 64) (fun i => 64 - i) 0 (by omega) ?_ ?_ ?_
  · exact ⟨rfl, rfl, rfl, rfl, trivial⟩
  · exact List.Perm.refl _
  · intro i hi
    (repeat refine RC.seq ?_); refine RC.region ?_
    repeat refine Run.a (Val.of rfl) ?_
    refine Run.nil (RQ.next ?_)
    refine RC.while rfl (fun h' => ?_) (fun h' => ?_)
    · have hi' : i < 64 := by have := of_decide_eq_true h'; omega
      clear h'
      have hx := W_getD_lt blk hb 64 i
      have hs := V8.lts (rounds_lt hh (W blk 64) i)
      have hk := K_lt i
      have hnext : rounds h (W blk 64) (i + 1) = rnd (rounds h (W blk 64) i) (K.getD i 0) ((W blk 64).getD i 0) := rfl
      generalize rounds h (W blk 64) i = s at *
      generalize hxe : (W blk 64).getD i 0 = x at *
      generalize hke : K.getD i 0 = k at *
      obtain ⟨ha, hb', hc', hd, he, hf, hg, hh'⟩ := hs
      have hr := fun n (h0 : 0 < n) (h1 : n < 32) (y : Nat) (hy : y < 4294967296) => right_calls y n hy h0 h1
      refine RC.seqCut (Y := Unit) (fun _ => [(18, .int .i64 i), (17, .agg (u32s (W blk 64)).toArray), (4, .pointer (some ⟨b1, 0, none⟩)), (0, .pointer (some ⟨b, 0, none⟩))])
        (fun _ => [(b1, .cells (u32s (rnd s k x).l).toArray 150 (0, 0)), (b, .cells (u32s h.l).toArray e (0, 0))]) (RC.block ?_) (fun _ => ?_)
      · (repeat refine RC.seq ?_); refine RC.region ?_
        refine Run.a (Val.of rfl) ?_
        refine Run.a (Val.indexN tabOk i (v := .int .u32 (x : Nat)) rfl rfl rfl rfl rfl rfl rfl hi' (by rw [← hxe]; simp only [ti109, Nat.mul_one]; exact u32s_at _ _ (by rw [W_length]; exact hi'))) ?_
        repeat refine Run.a (Val.of rfl) ?_
        refine Run.nil (RQ.next ?_)
        (repeat refine RC.seq ?_); refine RC.drawS mixed (N := 6) rfl ?_
        refine DR.t 0 rfl (Val.ix tabOk 0 (off' := 0) rfl rfl rfl rfl rfl rfl rfl (by decide) rfl) ?_
        refine DR.t 1 rfl (Val.load tabOk rfl rfl rfl List.mem_cons_self rfl) ?_
        refine DR.t 2 rfl (Val.ix tabOk 4 (off' := 4) rfl rfl rfl rfl rfl rfl rfl (by decide) rfl) ?_
        refine DR.t 3 rfl (Val.load tabOk rfl rfl rfl List.mem_cons_self rfl) ?_
        refine DR.t 4 rfl (Val.of rfl) ?_
        refine DR.t 5 rfl (Val.of rfl) ?_
        refine DR.done (by kernel_rfl) (RQ.next ?_)
        (repeat refine RC.seq ?_); refine RC.drawS mixed (N := 29) rfl ?_
        refine DR.t 0 rfl (Val.ix tabOk 7 (off' := 7) rfl rfl rfl rfl rfl rfl rfl (by decide) rfl) ?_
        refine DR.t 1 rfl (Val.load tabOk rfl rfl rfl List.mem_cons_self rfl) ?_
        refine DR.t 2 rfl (Val.of rfl) ?_
        refine DR.t 4 rfl (Val.of rfl) ?_
        refine DR.t 7 rfl (Val.of rfl) ?_
        refine DR.t 11 rfl (Val.of rfl) ?_
        refine DR.t 12 rfl (Val.ix tabOk 5 (off' := 5) rfl rfl rfl rfl rfl rfl rfl (by decide) rfl) ?_
        refine DR.t 13 rfl (Val.load tabOk rfl rfl rfl List.mem_cons_self rfl) ?_
        refine DR.t 14 rfl (Val.eq (Val.of rfl) (congrArg (Value.int .u32) (u32_and _ _ he hf))) ?_
        refine DR.t 15 rfl (Val.of rfl) ?_
        refine DR.t 16 rfl (Val.eq (Val.of rfl) (congrArg (Value.int .u32) (u32_not _ he))) ?_
        refine DR.t 17 rfl (Val.ix tabOk 6 (off' := 6) rfl rfl rfl rfl rfl rfl rfl (by decide) rfl) ?_
        refine DR.t 18 rfl (Val.load tabOk rfl rfl rfl List.mem_cons_self rfl) ?_
        refine DR.t 19 rfl (Val.eq (Val.of rfl) (congrArg (Value.int .u32) (u32_and _ _ (xor_lt (by decide) he) hg))) ?_
        refine DR.t 20 rfl (Val.eq (Val.of rfl) (congrArg (Value.int .u32) (u32_xor _ _ (and_lt he) (and_lt (xor_lt (by decide) he))))) ?_
        refine DR.t 22 rfl (Val.of rfl) ?_
        refine DR.t 23 rfl (Val.ix tabOk i (off' := i) rfl rfl rfl rfl rfl rfl rfl hi' (by simp [ti109])) ?_
        refine DR.t 24 rfl (Val.loadOld1 (v := .int .u32 (k : Nat)) tabOk rfl rfl rfl rfl (by simpa using Ne.symm hgb) (hke ▸ hK i hi')) ?_
        refine DR.t 26 rfl (Val.of rfl) ?_
        refine DR.c 3 ?_
        refine DOp.op1 rfl (OpTo.callV Tryz.func146 rfl rfl rfl rfl rfl rfl (fun w _ => hr 6 (by decide) (by decide) _ he w)) (fun _ => ?_)
        refine DR.c 5 ?_
        refine DOp.op1 rfl (OpTo.callV Tryz.func146 rfl rfl rfl rfl rfl rfl (fun w _ => hr 11 (by decide) (by decide) _ he w)) (fun _ => ?_)
        refine DR.t 6 rfl (Val.eq (Val.of rfl) (congrArg (Value.int .u32) (u32_xor _ _ (rotr_lt _ _ he) (rotr_lt _ _ he)))) ?_
        refine DR.c 8 ?_
        refine DOp.op1 rfl (OpTo.callV Tryz.func146 rfl rfl rfl rfl rfl rfl (fun w _ => hr 25 (by decide) (by decide) _ he w)) (fun _ => ?_)
        refine DR.t 9 rfl (Val.eq (Val.of rfl) (congrArg (Value.int .u32) (u32_xor _ _ (xor_lt (rotr_lt _ _ he) (rotr_lt _ _ he)) (rotr_lt _ _ he)))) ?_
        refine DR.t 10 rfl (Val.eq (Val.of rfl) (congrArg (Value.int .u32) (u32_add _ _))) ?_
        refine DR.t 21 rfl (Val.eq (Val.of rfl) (congrArg (Value.int .u32) (u32_add _ _))) ?_
        refine DR.t 25 rfl (Val.eq (Val.of rfl) (congrArg (Value.int .u32) (u32_add _ _))) ?_
        refine DR.t 27 rfl (Val.eq (Val.of rfl) (show _ = Value.int .u32 ((rt s k x : Nat) : Int) from congrArg (Value.int .u32) (u32_add _ _))) ?_
        refine DR.t 28 rfl (Val.of rfl) ?_
        refine DR.done (by kernel_rfl) (RQ.next ?_)
        (repeat refine RC.seq ?_); refine RC.drawS mixed (N := 25) rfl ?_
        refine DR.t 0 rfl (Val.of rfl) ?_
        refine DR.t 2 rfl (Val.of rfl) ?_
        refine DR.t 5 rfl (Val.of rfl) ?_
        refine DR.t 8 rfl (Val.of rfl) ?_
        refine DR.t 9 rfl (Val.ix tabOk 1 (off' := 1) rfl rfl rfl rfl rfl rfl rfl (by decide) rfl) ?_
        refine DR.t 10 rfl (Val.load tabOk rfl rfl rfl List.mem_cons_self rfl) ?_
        refine DR.t 11 rfl (Val.eq (Val.of rfl) (congrArg (Value.int .u32) (u32_and _ _ ha hb'))) ?_
        refine DR.t 12 rfl (Val.of rfl) ?_
        refine DR.t 13 rfl (Val.ix tabOk 2 (off' := 2) rfl rfl rfl rfl rfl rfl rfl (by decide) rfl) ?_
        refine DR.t 14 rfl (Val.load tabOk rfl rfl rfl List.mem_cons_self rfl) ?_
        refine DR.t 15 rfl (Val.eq (Val.of rfl) (congrArg (Value.int .u32) (u32_and _ _ ha hc'))) ?_
        refine DR.t 16 rfl (Val.eq (Val.of rfl) (congrArg (Value.int .u32) (u32_xor _ _ (and_lt ha) (and_lt ha)))) ?_
        refine DR.t 17 rfl (Val.ix tabOk 1 (off' := 1) rfl rfl rfl rfl rfl rfl rfl (by decide) rfl) ?_
        refine DR.t 18 rfl (Val.load tabOk rfl rfl rfl List.mem_cons_self rfl) ?_
        refine DR.t 19 rfl (Val.ix tabOk 2 (off' := 2) rfl rfl rfl rfl rfl rfl rfl (by decide) rfl) ?_
        refine DR.t 20 rfl (Val.load tabOk rfl rfl rfl List.mem_cons_self rfl) ?_
        refine DR.t 21 rfl (Val.eq (Val.of rfl) (congrArg (Value.int .u32) (u32_and _ _ hb' hc'))) ?_
        refine DR.t 22 rfl (Val.eq (Val.of rfl) (congrArg (Value.int .u32) (u32_xor _ _ (xor_lt (and_lt ha) (and_lt ha)) (and_lt hb')))) ?_
        refine DR.c 1 ?_
        refine DOp.op1 rfl (OpTo.callV Tryz.func146 rfl rfl rfl rfl rfl rfl (fun w _ => hr 2 (by decide) (by decide) _ ha w)) (fun _ => ?_)
        refine DR.c 3 ?_
        refine DOp.op1 rfl (OpTo.callV Tryz.func146 rfl rfl rfl rfl rfl rfl (fun w _ => hr 13 (by decide) (by decide) _ ha w)) (fun _ => ?_)
        refine DR.t 4 rfl (Val.eq (Val.of rfl) (congrArg (Value.int .u32) (u32_xor _ _ (rotr_lt _ _ ha) (rotr_lt _ _ ha)))) ?_
        refine DR.c 6 ?_
        refine DOp.op1 rfl (OpTo.callV Tryz.func146 rfl rfl rfl rfl rfl rfl (fun w _ => hr 22 (by decide) (by decide) _ ha w)) (fun _ => ?_)
        refine DR.t 7 rfl (Val.eq (Val.of rfl) (congrArg (Value.int .u32) (u32_xor _ _ (xor_lt (rotr_lt _ _ ha) (rotr_lt _ _ ha)) (rotr_lt _ _ ha)))) ?_
        refine DR.t 23 rfl (Val.eq (Val.of rfl) (show _ = Value.int .u32 ((ru s : Nat) : Int) from congrArg (Value.int .u32) (u32_add _ _))) ?_
        refine DR.t 24 rfl (Val.of rfl) ?_
        refine DR.done (by kernel_rfl) (RQ.next ?_)
        (repeat refine RC.seq ?_); refine RC.drawS mixed (N := 3) rfl ?_
        refine DR.t 0 rfl (Val.eq (Val.sliceAlo tabOk rfl rfl rfl rfl rfl rfl (by decide) (by decide)) (show _ = Value.slice (some ⟨b1, 1, none⟩) 7 7 from rfl)) ?_
        refine DR.t 1 rfl (Val.sliceAhi tabOk rfl rfl rfl rfl rfl rfl (by decide) (by decide)) ?_
        refine DR.c 2 ?_
        refine DOp.op1 rfl (OpTo.copyTo tabOk (arr' := (u32s [s.a, s.a, s.b, s.c, s.d, s.e, s.f, s.g]).toArray) (m := 7) ((Rd.rowAll List.mem_cons_self).take 7) rfl rfl rfl rfl rfl rfl rfl rfl rfl (List.Perm.refl _) rfl rfl (Nat.le_refl 8) (u32s_one [s.a, s.b, s.c, s.d, s.e, s.f, s.g])) (fun _ => ?_)
        refine DR.done (by kernel_rfl) (RQ.next ?_)
        (repeat refine RC.seq ?_); refine RC.region ?_
        refine Run.a (Val.of rfl) ?_
        refine Run.a (Val.of rfl) ?_
        refine Run.a (Val.eq (Val.of rfl) (congrArg (Value.int .u32) (u32_add _ _))) ?_
        refine Run.a (Val.ix tabOk 0 (off' := 0) rfl rfl rfl rfl rfl rfl rfl (by decide) rfl) ?_
        refine Run.storeTo tabOk (arr' := (u32s [add32 (rt s k x) (ru s), s.a, s.b, s.c, s.d, s.e, s.f, s.g]).toArray) rfl rfl rfl rfl rfl rfl rfl (List.Perm.refl _) rfl (show 1 ≤ 8 by decide) (by simp [Value.cells]; rfl) ?_
        refine Run.nil (RQ.next ?_)
        (repeat refine RC.seq ?_); refine RC.region ?_
        refine Run.a (Val.ix tabOk 4 (off' := 4) rfl rfl rfl rfl rfl rfl rfl (by decide) rfl) ?_
        refine Run.a (Val.load tabOk rfl rfl rfl List.mem_cons_self rfl) ?_
        refine Run.a (Val.of rfl) ?_
        refine Run.a (Val.eq (Val.of rfl) (congrArg (Value.int .u32) (u32_add _ _))) ?_
        refine Run.a (Val.ix tabOk 4 (off' := 4) rfl rfl rfl rfl rfl rfl rfl (by decide) rfl) ?_
        refine Run.storeTo tabOk (arr' := (u32s (rnd s k x).l).toArray) rfl rfl rfl rfl rfl rfl rfl (List.Perm.refl _) rfl (show 5 ≤ 8 by decide) (by simp [Value.cells]; rfl) ?_
        refine Run.nil (RQ.blockNormal ?_)
        exact RQ.to () ⟨rfl, rfl, rfl, rfl, trivial⟩ (List.Sublist.refl _)
      · refine RC.region ?_
        repeat (first | refine Run.a Val.ra ?_ | refine Run.a (Val.of rfl) ?_)
        exact Run.nil (RQ.round (i + 1) (by omega) (by show 64 - (i + 1) < 64 - i; omega) ⟨rfl, rfl, rfl, rfl, trivial⟩ (by rw [hnext]; exact List.Sublist.refl _))
    · have hi' : i = 64 := by have := of_decide_eq_false h'; omega
      subst hi'
      clear h'
      have hcmp : (compress h blk).l = List.zipWith add32 h.l (rounds h (W blk 64) 64).l := rfl
      have h1 : h.l.length = 8 := rfl
      have h2 : (rounds h (W blk 64) 64).l.length = 8 := rfl
      rw [hcmp]
      clear hcmp hbl
      generalize (rounds h (W blk 64) 64).l = B at *
      generalize h.l = A at *
      have h3 : A.length = B.length := h1.trans h2.symm
      have hsz : (u32s B).toArray.size = 8 := by simp [u32s_len, h2]
      (repeat refine RQ.thenExit ?_); refine RQ.blockHere ?_
      refine RQ.next ?_
      (repeat refine RC.seq ?_); refine RC.region ?_
      refine Run.a (Val.loadAll tabOk rfl rfl rfl rfl List.mem_cons_self hsz) ?_
      refine Run.a (Val.of rfl) ?_
      refine Run.nil (RQ.next ?_)
      (repeat refine RC.seq ?_); refine RC.block ?_
      refine RC.weak (E' := [(92, .int .i64 0), (91, .agg (u32s B).toArray), (0, .pointer (some ⟨b, 0, none⟩))]) (L' := [(b, .cells (u32s A).toArray e (0, 0))]) ⟨rfl, rfl, rfl, trivial⟩ (List.Sublist.cons _ (List.Sublist.refl _)) ?_
      refine RC.loop (ι := Nat) (fun i => [(92, .int .i64 i), (91, .agg (u32s B).toArray), (0, .pointer (some ⟨b, 0, none⟩))])
        (fun i => [(b, .cells (u32s (addTo A B i)).toArray e (0, 0))]) (fun i => i ≤ 8) (fun i => 8 - i) 0 (by omega) ⟨rfl, rfl, rfl, trivial⟩ (by simp [addTo]) ?_
      intro i hi
      have hl1 : (addTo A B i).length = 8 := (addTo_len A B h3 i).trans h1
      (repeat refine RC.seq ?_); refine RC.region ?_
      repeat refine Run.a (Val.of rfl) ?_
      refine Run.nil (RQ.next ?_)
      refine RC.while rfl (fun h' => ?_) (fun h' => ?_)
      · have hi' : i < 8 := by have := of_decide_eq_true h'; omega
        have hi1 : i < A.length := by omega
        have hat : (u32s (addTo A B i)).toArray[i]? = some (.int .u32 (A.getD i 0 : Nat)) := by
          rw [u32s_at _ _ (by omega), addTo_at A B h3 i hi1]
        refine RC.seqCut (Y := Unit) (fun _ => [(92, .int .i64 i), (91, .agg (u32s B).toArray), (0, .pointer (some ⟨b, 0, none⟩))])
          (fun _ => [(b, .cells (u32s (addTo A B (i + 1))).toArray e (0, 0))]) (RC.block ?_) (fun _ => ?_)
        · (repeat refine RC.seq ?_); refine RC.region ?_
          refine Run.a (Val.of rfl) ?_
          refine Run.a (Val.indexN tabOk i (v := .int .u32 (B.getD i 0 : Nat)) rfl rfl rfl rfl rfl rfl rfl hi' (by simp only [ti109, Nat.mul_one]; exact u32s_at _ _ (by omega))) ?_
          repeat refine Run.a (Val.of rfl) ?_
          refine Run.nil (RQ.next ?_)
          (repeat refine RC.seq ?_); refine RC.drawS mixed (N := 10) rfl ?_
          refine DR.t 0 rfl (Val.of rfl) ?_
          refine DR.t 1 rfl (Val.of rfl) ?_
          refine DR.t 2 rfl (Val.of rfl) ?_
          refine DR.t 3 rfl (Val.ix tabOk i (off' := i) rfl rfl rfl rfl rfl rfl rfl hi' (by simp [ti109])) ?_
          refine DR.t 4 rfl (Val.load (v := .int .u32 (A.getD i 0 : Nat)) tabOk rfl rfl rfl List.mem_cons_self hat) ?_
          refine DR.t 5 rfl (Val.of rfl) ?_
          refine DR.t 6 rfl (Val.eq (Val.of rfl) (congrArg (Value.int .u32) (u32_add _ _))) ?_
          refine DR.t 7 rfl (Val.of rfl) ?_
          refine DR.t 8 rfl (Val.ix tabOk i (off' := i) rfl rfl rfl rfl rfl rfl rfl hi' (by simp [ti109])) ?_
          refine DR.c 9 ?_
          refine DOp.op1 rfl (OpTo.storeTo tabOk ((u32s_set _ i _ (by omega)).trans (congrArg (fun l => (u32s l).toArray) (addTo_set A B h3 i _ hi1 rfl))) rfl rfl rfl rfl rfl (List.Perm.refl _) rfl (by simp only [List.size_toArray, u32s_len, hl1]; exact hi') (by simp [Value.cells]; rfl)) (fun _ => ?_)
          refine DR.done (by kernel_rfl) (RQ.blockNormal ?_)
          exact RQ.to () ⟨rfl, rfl, rfl, trivial⟩ (List.Sublist.refl _)
        · refine RC.region ?_
          repeat (first | refine Run.a Val.ra ?_ | refine Run.a (Val.of rfl) ?_)
          exact Run.nil (RQ.round (i + 1) (by omega) (by show 8 - (i + 1) < 8 - i; omega) ⟨rfl, rfl, rfl, trivial⟩ (List.Sublist.refl _))
      · have hi' : i = 8 := by have := of_decide_eq_false h'; omega
        subst hi'
        (repeat refine RQ.thenExit ?_); refine RQ.blockHere ?_
        have hz : addTo A B 8 = List.zipWith add32 A B := by
          unfold addTo
          rw [List.take_of_length_le (by simp; omega), List.drop_eq_nil_of_le (by omega), List.append_nil]
        rw [hz]
        exact RQ.normal (RQ.ret0 rfl fun w' hm => ⟨rfl, hm.fr, hm.has _ List.mem_cons_self⟩)
end Go.Proofs.YtfoeakgnkfcbjaaGreatDoor

/- bytes.Clone, hash.start, hash.Sum. -/
namespace Go.Proofs.YtfoeakgnkfcbjaaGreatDoor
open Go Go.Vc Go.Sha

set_option maxRecDepth 10000 in set_option maxHeartbeats 4000000 in
theorem Clone_calls (v : Value) (n : Nat) (l : List Nat) (w : World) (hs : SrcW w 1 v n (u8s l)) (hn : n ≤ 1099511627776) :
    Makes Tryz.prog 82 [v] w 5 1 n (u8s l) := by
  obtain ⟨a, c, hv, hmc⟩ := hs.shape
  refine enter Tryz.func82 rfl (Mem.nil w []) rfl ?_
  (repeat refine RC.seq ?_); refine RC.region ?_
  refine Run.a (Val.of rfl) ?_
  refine Run.nil (RQ.next ?_)
  (repeat refine RC.seq ?_); refine RC.region ?_
  refine Run.a (Val.of rfl) ?_
  refine Run.a (Val.eqNil tabOk rfl rfl rfl (by rw [hv]; rfl) rfl) ?_
  refine Run.nil (RQ.next ?_)
  (repeat refine RC.seq ?_); refine RC.cond rfl (fun h => ?_) (fun h => ?_)
  · generalize u8s l = cs at *
    cases hs with
    | «at» => cases hv; cases h
    | nil =>
      (repeat refine RC.seq ?_); refine RC.region ?_
      refine Run.a (Val.of rfl) ?_
      refine Run.nil (RQ.next ?_)
      refine RC.ret ?_; (repeat first | refine RQ.thenRet ?_ | refine RQ.blockRet ?_)
      exact RQ.ret1 rfl (Res.tmp rfl) fun w' hm => Makes.of Own.nil (L' := []) (by simpa using hm)
  · refine RC.skip (RQ.next ?_)
    (repeat refine RC.seq ?_); refine RC.region ?_
    refine Run.nw (New.buildSlice tabOk (parts := []) (cells := #[]) rfl rfl rfl rfl rfl rfl (fillS_nil _ _)) ?_
    intro b0
    refine Run.a (Val.of rfl) ?_
    refine Run.op rfl (OpTo.append tabOk (Own.row b0 0 0 [] [] rfl rfl (Nat.le_refl _) (Nat.zero_le _)) (hs.src) rfl rfl rfl rfl rfl rfl rfl rfl rfl (List.Perm.refl _) (u8s_one l) (by unfold maxLen; omega) (by simp only [ti5]; omega)) ?_
    rintro ⟨⟨v', bl⟩, hown⟩
    refine Run.a (Val.of rfl) ?_
    refine Run.nil (RQ.next ?_)
    exact RC.ret (RQ.ret1 rfl (Res.tmp rfl) fun w' hm => Makes.of (e := 5) (sz := 1) (by have h := hown; rw [Nat.zero_add] at h; exact h) hm)

set_option maxRecDepth 10000 in set_option maxHeartbeats 4000000 in
theorem start_calls (w : World) : Gives Tryz.prog 103 [] (.agg (u32s H0.l).toArray) w := by
  refine enter Tryz.func103 rfl (Mem.nil w []) rfl ?_
  (repeat refine RC.seq ?_); refine RC.region ?_
  refine Run.nw (New.alloc tabOk rfl rfl) ?_
  intro b0
  refine Run.nil (RQ.next ?_)
  (repeat refine RC.seq ?_); refine RC.region ?_
  refine Run.a (Val.buildA tabOk (parts := [(0, .const (.int .u32 1779033703)), (1, .const (.int .u32 3144134277)), (2, .const (.int .u32 1013904242)), (3, .const (.int .u32 2773480762)), (4, .const (.int .u32 1359893119)), (5, .const (.int .u32 2600822924)), (6, .const (.int .u32 528734635)), (7, .const (.int .u32 1541459225))]) (cells := (u32s H0.l).toArray) rfl rfl rfl rfl rfl rfl) ?_
  refine Run.storeAll tabOk rfl rfl rfl rfl rfl rfl (List.Perm.refl _) rfl rfl (fun u hu => u32s_one H0.l u (by simpa [Value.cells] using hu)) ?_
  exact Run.nil (RQ.next (RC.ret (RQ.ret1 rfl (Res.cellAll tabOk rfl rfl rfl List.mem_cons_self rfl) fun w' hm => ⟨rfl, hm.fr⟩)))
end Go.Proofs.YtfoeakgnkfcbjaaGreatDoor

/- hash.Sum is SHA-256. -/
namespace Go.Proofs.YtfoeakgnkfcbjaaGreatDoor
open Go Go.Vc Go.Sha


/-- Where the text's rest begins behind k blocks. -/
def restAt (b cap : Nat) : Nat → Addr
  | 0 => ⟨b, 0, none⟩
  | k + 1 => if cap - 64 * k = 64 then restAt b cap k else (restAt b cap k).add 64
theorem restAt_eq (b cap : Nat) : ∀ k, 64 * k < cap → restAt b cap k = ⟨b, 64 * k, none⟩
  | 0, _ => rfl
  | k + 1, h => by
    unfold restAt
    rw [if_neg (by omega), restAt_eq b cap k (by omega), add_lit]
    rfl

theorem Own.row' {e : TypeId} {sz : Nat} {v : Value} {m : Nat} {cs : List Value} {bl : Hp} (h : Own e sz v m cs bl) (hm : 0 < m) :
    ∃ b cap rest, v = .slice (some ⟨b, 0, none⟩) m cap ∧ bl = [(b, .cells (cs ++ rest).toArray e (0, 0))] ∧ cs.length = m * sz ∧ m ≤ cap ∧ cap ≤ maxLen ∧ (cs ++ rest).length = cap * sz := by
  cases h with
  | nil => cases hm
  | row b n cap cs rest h1 h2 hn hc => exact ⟨b, cap, rest, rfl, rfl, h1, hn, hc, h2⟩

theorem V8.getD_lt {s : V8} (hs : s.lt) (i : Nat) : s.l.getD i 0 < 4294967296 := by
  rw [List.getD_eq_getElem?_getD]
  cases h : s.l[i]? with
  | none => decide
  | some x => exact hs x (List.mem_of_getElem? h)
theorem outB_set (s : V8) (i : Nat) (h : i < 32) : (outB s i ++ List.replicate (32 - i) 0).set i (s.l.getD (i / 4) 0 / 2 ^ (24 - i % 4 * 8) % 256) = outB s (i + 1) ++ List.replicate (32 - (i + 1)) 0 := by
  rw [List.set_append_right _ _ (by rw [outB_len]; exact Nat.le_refl _), outB_len, Nat.sub_self, outB_succ, show 32 - i = (32 - (i + 1)) + 1 by omega, List.replicate_succ, List.set_cons_zero, List.append_assoc]
  rfl

set_option maxRecDepth 10000 in set_option maxHeartbeats 4000000 in
theorem Sum_calls (v : Value) (n : Nat) (l : List Nat) (w : World) (hs : SrcW w 1 v n (u8s l)) (hn : n ≤ 1099511627776) (hb : ∀ x ∈ l, x < 256) (hK : Laid w) :
    Gives Tryz.prog 63 [v] (.agg (u8s (sha l)).toArray) w := by
  have hln : l.length = n := by have := hs.len; rw [u8s_len, Nat.mul_one] at this; exact this
  have hgl : 1 < w.heap.size := World.block_lt_of_cell? w ⟨1, 0, none⟩ (hK 0 (by decide))
  have hz := zeros_spec n
  refine enter Tryz.func63 rfl (Mem.nil w []) rfl ?_
  (repeat refine RC.seq ?_); refine RC.region ?_
  refine Run.nw (New.alloc tabOk rfl rfl) ?_
  intro b2
  refine Run.nil (RQ.next ?_)
  (repeat refine RC.seq ?_); refine RC.region ?_
  refine Run.a (Val.of rfl) ?_
  refine Run.op rfl (OpTo.callMk Tryz.func82 rfl rfl rfl rfl rfl rfl (fun w' hm => Clone_calls v n l w' (hs.mem hm) hn)) ?_
  rintro ⟨⟨v1, bl1⟩, hown1⟩
  refine Run.nw (New.buildSlice tabOk (parts := [(0, .const (.int .u8 128))]) (cells := (u8s [128]).toArray) rfl rfl rfl rfl rfl rfl (fillS_full 1 1 _ [.int .u8 128] rfl (by simp [Value.cells]))) ?_
  intro b3
  refine Run.op rfl (OpTo.append tabOk hown1 (Src.at ⟨b3, 0, none⟩ 1 1 (u8s [128]) rfl (Rd.rowAll List.mem_cons_self)) rfl rfl rfl rfl rfl rfl rfl rfl rfl (List.perm_middle.symm) (u8s_one _) (by unfold maxLen; omega) (by simp only [ti5]; omega)) ?_
  rintro ⟨⟨v2, bl2⟩, hown2⟩
  refine Run.a (Val.of rfl) ?_
  refine Run.nil (RQ.next ?_)
  (repeat refine RC.seq ?_); refine RC.block ?_
  let ι := {x : Nat × Value × Hp // Own 5 1 x.2.1 (n + 1 + x.1) (u8s (l ++ 128 :: List.replicate x.1 0)) x.2.2}
  refine RC.weak (E' := [(3, v2), (2, .pointer (some ⟨b2, 0, none⟩)), (0, v)]) (L' := bl2 ++ [(b2, .cells ti79.zero.cells 79 (0, 0))]) ⟨rfl, rfl, rfl, trivial⟩ (List.Sublist.append (List.Sublist.refl _) (List.Sublist.cons _ (List.Sublist.refl _))) ?_
  refine RC.loop (ι := ι) (fun x => [(3, x.1.2.1), (2, .pointer (some ⟨b2, 0, none⟩)), (0, v)]) (fun x => x.1.2.2 ++ [(b2, .cells ti79.zero.cells 79 (0, 0))]) (fun x => x.1.1 ≤ zeros n) (fun x => zeros n - x.1.1)
    ⟨(0, v2, bl2), by have h := hown2; rw [← u8s_app] at h; exact h⟩ (Nat.zero_le _) ⟨rfl, rfl, rfl, trivial⟩ (List.Perm.refl _) ?_
  rintro ⟨⟨j, v3, bl3⟩, hown3⟩ hj
  dsimp only at hown3 hj ⊢
  obtain ⟨a3, c3, hv3, hc3⟩ := hown3.shape
  (repeat refine RC.seq ?_); refine RC.region ?_
  refine Run.a (Val.of rfl) ?_
  refine Run.a (Val.len (len := n + 1 + j) tabOk rfl rfl rfl (by rw [hv3]; rfl)) ?_
  refine Run.a (Val.eq (Val.of rfl) (show _ = Value.int .i64 (((n + 1 + j) % 64 : Nat) : Int) from rfl)) ?_
  refine Run.a (Val.of rfl) ?_
  refine Run.nil (RQ.next ?_)
  (repeat refine RC.seq ?_); refine RC.wh rfl (fun h => RQ.next ?_) (fun h => ?_)
  · have hne : (n + 1 + j) % 64 ≠ 56 := by
      intro e; rw [e] at h; cases h
    have hj' : j < zeros n := by
      rcases Nat.lt_or_ge j (zeros n) with h' | h'
      · exact h'
      · exact absurd (by rw [show j = zeros n by omega]; exact hz.1) hne
    refine RC.block ?_
    (repeat refine RC.seq ?_); refine RC.region ?_
    refine Run.a (Val.of rfl) ?_
    refine Run.nw (New.buildSlice tabOk (parts := [(0, .const (.int .u8 0))]) (cells := (u8s [0]).toArray) rfl rfl rfl rfl rfl rfl (fillS_full 1 1 _ [.int .u8 0] rfl (by simp [Value.cells]))) ?_
    intro b4
    refine Run.op rfl (OpTo.append tabOk hown3 (Src.at ⟨b4, 0, none⟩ 1 1 (u8s [0]) rfl (Rd.rowAll List.mem_cons_self)) rfl rfl rfl rfl rfl rfl rfl rfl rfl (List.perm_middle.symm) (u8s_one _) (by unfold maxLen; omega) (by simp only [ti5]; omega)) ?_
    rintro ⟨⟨v4, bl4⟩, hown4⟩
    refine Run.a (Val.of rfl) ?_
    refine Run.nil (RQ.blockNormal ?_)
    refine RQ.round (i := ⟨(j, v3, bl3), hown3⟩) (Ei := fun x : ι => [(3, x.1.2.1), (2, .pointer (some ⟨b2, 0, none⟩)), (0, v)]) (Inv := fun x : ι => x.1.1 ≤ zeros n) (μ := fun x : ι => zeros n - x.1.1) ⟨(j + 1, v4, bl4), ?_⟩ (by show j + 1 ≤ zeros n; omega) (by show zeros n - (j + 1) < zeros n - j; omega) ⟨rfl, rfl, rfl, trivial⟩ (List.Sublist.append (List.Sublist.refl _) (List.Sublist.cons _ (List.Sublist.refl _)))
    have h := hown4
    rw [← u8s_app, List.append_assoc, List.cons_append, ← List.replicate_succ'] at h
    exact h
  · have hj' : j = zeros n := by
      have : (n + 1 + j) % 64 = 56 := by
        have := h
        simp only [bne_eq_false_iff_eq] at this
        omega
      omega
    subst hj'
    (repeat refine RQ.thenExit ?_); refine RQ.blockHere ?_
    refine RQ.next ?_
    (repeat refine RC.seq ?_); refine RC.region ?_
    repeat refine Run.a (Val.of rfl) ?_
    refine Run.nil (RQ.next ?_)
    (repeat refine RC.seq ?_); refine RC.block ?_
    let κ := {x : Nat × Value × Hp // Own 5 1 x.2.1 (n + 1 + zeros n + x.1) (u8s (l ++ 128 :: List.replicate (zeros n) 0 ++ lenB n x.1)) x.2.2}
    refine RC.loop (ι := κ) (fun x => [(4, .int .i64 (7 - x.1.1)), (3, x.1.2.1), (2, .pointer (some ⟨b2, 0, none⟩)), (0, v)]) (fun x => x.1.2.2 ++ [(b2, .cells ti79.zero.cells 79 (0, 0))]) (fun x => x.1.1 ≤ 8) (fun x => 8 - x.1.1)
      ⟨(0, v3, bl3), by simpa [lenB] using hown3⟩ (Nat.zero_le _) ⟨rfl, rfl, rfl, rfl, trivial⟩ (List.Perm.refl _) ?_
    clear hown3 hv3 hc3
    rintro ⟨⟨j, v5, bl5⟩, hown5⟩ hj
    dsimp only at hown5 hj ⊢
    (repeat refine RC.seq ?_); refine RC.region ?_
    repeat refine Run.a (Val.of rfl) ?_
    refine Run.nil (RQ.next ?_)
    (repeat refine RC.seq ?_); refine RC.wh rfl (fun h => RQ.next ?_) (fun h => ?_)
    · have hj' : j < 8 := by have := of_decide_eq_true h; omega
      refine RC.seqCut (Y := {p : Value × Hp // Own 5 1 p.1 (n + 1 + zeros n + (j + 1)) (u8s (l ++ 128 :: List.replicate (zeros n) 0 ++ lenB n (j + 1))) p.2})
        (fun y => [(4, .int .i64 (7 - j)), (3, y.1.1), (2, .pointer (some ⟨b2, 0, none⟩)), (0, v)]) (fun y => y.1.2 ++ [(b2, .cells ti79.zero.cells 79 (0, 0))]) (RC.block ?_) ?_
      · obtain ⟨a0, c0, hv0, hc0⟩ := hs.shape
        (repeat refine RC.seq ?_); refine RC.region ?_
        refine Run.a (Val.of rfl) ?_
        refine Run.a (Val.of rfl) ?_
        refine Run.a (Val.len (len := n) tabOk rfl rfl rfl (by rw [hv0]; rfl)) ?_
        refine Run.a (Val.convIn tabOk rfl rfl rfl rfl rfl rfl (by simp only [inK]; omega)) ?_
        refine Run.a (Val.eq (Val.shl (m := 3) rfl rfl rfl (by decide)) (show _ = Value.int .u64 ((n * 8 : Nat) : Int) from congrArg (Value.int .u64) (wrap_in (by simp only [inK]; omega)))) ?_
        refine Run.a (Val.of rfl) ?_
        refine Run.a (Val.eq (Val.ar rfl rfl rfl rfl (by dsimp only [inK]; omega)) (show _ = Value.int .i64 ((8 * (7 - j) : Nat) : Int) from by congr 1; omega)) ?_
        refine Run.a (Val.shr (m := 8 * (7 - j)) rfl rfl rfl (by show _ ≤ 64; omega)) ?_
        refine Run.a (Val.eq (Val.conv tabOk rfl rfl rfl rfl rfl rfl) (show _ = Value.int .u8 ((n * 8 / 2 ^ (8 * (7 - j)) % 256 : Nat) : Int) from congrArg (Value.int .u8) (by rw [wrap_u8]; rfl))) ?_
        refine Run.nw (New.buildSlice tabOk (parts := [(0, .tmp 31)]) (cells := (u8s [n * 8 / 2 ^ (8 * (7 - j)) % 256]).toArray) rfl rfl rfl rfl rfl rfl (fillS_full 1 1 _ [.int .u8 _] rfl (by simp [Value.cells]))) ?_
        intro b4
        refine Run.op rfl (OpTo.append tabOk hown5 (Src.at ⟨b4, 0, none⟩ 1 1 (u8s [n * 8 / 2 ^ (8 * (7 - j)) % 256]) rfl (Rd.rowAll List.mem_cons_self)) rfl rfl rfl rfl rfl rfl rfl rfl rfl (List.perm_middle.symm) (u8s_one _) (by unfold maxLen; omega) (by simp only [ti5]; omega)) ?_
        rintro ⟨⟨v4, bl4⟩, hown4⟩
        refine Run.a (Val.of rfl) ?_
        refine Run.nil (RQ.blockNormal ?_)
        refine RQ.to (Ey := fun y : {p : Value × Hp // Own 5 1 p.1 (n + 1 + zeros n + (j + 1)) (u8s (l ++ 128 :: List.replicate (zeros n) 0 ++ lenB n (j + 1))) p.2} => [(4, .int .i64 (7 - j)), (3, y.1.1), (2, .pointer (some ⟨b2, 0, none⟩)), (0, v)]) ⟨(v4, bl4), ?_⟩ ⟨rfl, rfl, rfl, rfl, trivial⟩ (List.Sublist.append (List.Sublist.refl _) (List.Sublist.cons _ (List.Sublist.refl _)))
        have h := hown4
        rw [← u8s_app, List.append_assoc, ← lenB_succ] at h
        exact h
      · rintro ⟨⟨v4, bl4⟩, hown4⟩
        refine RC.region ?_
        refine Run.a (Val.of rfl) ?_
        refine Run.a (Val.eq (Val.ar rfl rfl rfl rfl (by dsimp only [inK]; omega)) (show _ = Value.int .i64 (7 - ((j + 1 : Nat) : Int)) from by congr 1; omega)) ?_
        refine Run.a (Val.of rfl) ?_
        exact Run.nil (RQ.round (i := ⟨(j, v5, bl5), hown5⟩) (Ei := fun x : κ => [(4, .int .i64 (7 - x.1.1)), (3, x.1.2.1), (2, .pointer (some ⟨b2, 0, none⟩)), (0, v)]) (Inv := fun x : κ => x.1.1 ≤ 8) (μ := fun x : κ => 8 - x.1.1) ⟨(j + 1, v4, bl4), hown4⟩ (by show j + 1 ≤ 8; omega) (by show 8 - (j + 1) < 8 - j; omega) ⟨rfl, rfl, rfl, rfl, trivial⟩ (List.Sublist.refl _))
    · have hj' : j = 8 := by have := of_decide_eq_false h; omega
      subst hj'
      (repeat refine RQ.thenExit ?_); refine RQ.blockHere ?_
      refine RQ.next ?_
      clear hj h
      subst hln
      have hpl := padded_len l
      have hpm := padded_mod l
      have hpb := padded_lt l hb
      have hown : Own 5 1 v5 (padded l).length (u8s (padded l)) bl5 := by rw [hpl]; exact hown5
      clear hown5
      have hres : sha l = outB (sumTo (padded l) ((padded l).length / 64)) 32 := rfl
      rw [hres]
      clear hres
      generalize hp : padded l = p at *
      obtain ⟨b, cap, rest, rfl, rfl, h1, h2, h3, h4⟩ := Own.row' hown (by omega)
      clear hown
      obtain ⟨M, hM⟩ : ∃ M, p.length = 64 * M := ⟨p.length / 64, by omega⟩
      rw [show p.length / 64 = M by omega]
      (repeat refine RC.seq ?_); refine RC.region ?_
      refine Run.callV Tryz.func103 rfl rfl rfl rfl rfl rfl rfl (fun w' hm => start_calls w') ?_
      refine Run.nw (New.alloc tabOk rfl rfl) ?_
      intro bh
      refine Run.storeAll tabOk rfl rfl rfl rfl rfl rfl (List.Perm.refl _) rfl rfl (fun u hu => u32s_one H0.l u (by simpa [Value.cells] using hu)) ?_
      refine Run.nil (RQ.next ?_)
      (repeat refine RC.seq ?_); refine RC.block ?_
      refine RC.loop (ι := Nat) (fun k => [(3, .slice (some (restAt b cap k)) (64 * (M - k)) (cap - 64 * k)), (5, .pointer (some ⟨bh, 0, none⟩)), (2, .pointer (some ⟨b2, 0, none⟩)), (0, v)])
        (fun k => [(bh, .cells (u32s (sumTo p k).l).toArray 150 (0, 0)), (b, .cells (u8s p ++ rest).toArray 5 (0, 0)), (b2, .cells ti79.zero.cells 79 (0, 0))])
        (fun k => k ≤ M) (fun k => M - k) 0 (Nat.zero_le _) ?_ (List.Perm.refl _) ?_
      · exact ⟨by rw [hM]; rfl, rfl, rfl, rfl, trivial⟩
      · intro k hk
        (repeat refine RC.seq ?_); refine RC.region ?_
        refine Run.a (Val.of rfl) ?_
        refine Run.a (Val.len (len := 64 * (M - k)) tabOk rfl rfl rfl rfl) ?_
        refine Run.a (Val.of rfl) ?_
        refine Run.nil (RQ.next ?_)
        (repeat refine RC.seq ?_); refine RC.wh rfl (fun h => RQ.next ?_) (fun h => ?_)
        · have hk' : k < M := by
            have := of_decide_eq_true h
            omega
          have hr : restAt b cap k = ⟨b, 64 * k, none⟩ := restAt_eq b cap k (by omega)
          refine RC.seqCut (Y := Unit) (fun _ => [(3, .slice (some (restAt b cap k)) (64 * (M - k)) (cap - 64 * k)), (5, .pointer (some ⟨bh, 0, none⟩)), (2, .pointer (some ⟨b2, 0, none⟩)), (0, v)])
            (fun _ => [(bh, .cells (u32s (sumTo p (k + 1)).l).toArray 150 (0, 0)), (b, .cells (u8s p ++ rest).toArray 5 (0, 0)), (b2, .cells ti79.zero.cells 79 (0, 0))]) (RC.block ?_) ?_
          · (repeat refine RC.seq ?_); refine RC.region ?_
            refine Run.a (Val.of rfl) ?_
            refine Run.v rfl rfl rfl (Val.eq (Val.sliceS tabOk (zl := 0) (zh := 64) rfl rfl rfl rfl rfl (.inl ⟨rfl, rfl⟩) (.inr ⟨_, rfl, rfl⟩) (by omega) (by omega)) (show _ = Value.slice (some ⟨b, 64 * k, none⟩) 64 (cap - 64 * k) from by
              rw [hr]; split <;> rfl)) ?_
            refine Run.op rfl (OpTo.call Tryz.func104 rfl rfl rfl rfl rfl rfl (Y := Unit) (V := fun _ => .tuple #[]) (L' := fun _ => [(bh, .cells (u32s (sumTo p (k + 1)).l).toArray 150 (0, 0)), (b, .cells (u8s p ++ rest).toArray 5 (0, 0)), (b2, .cells ti79.zero.cells 79 (0, 0))])
              (fun w' hm => (block_calls bh _ (sumTo p k) (sumTo_lt p k) ((p.drop (64 * k)).take 64) (by simp; omega) (fun x hx => hpb x (List.mem_of_mem_drop (List.mem_of_mem_take hx))) ⟨b, 64 * k, none⟩ (cap - 64 * k) (by omega) w' ?_ ?_ ?_ (hK.fr hm.fr (by simp)) (hm.has _ List.mem_cons_self)).mono ?_)) ?_
            · intro j u hj
              rw [add_lit, cell_of_row w' b (64 * k + j) _ _ _ (hm.has _ (List.mem_cons_of_mem _ List.mem_cons_self))]
              have hj2 : j < 64 := by
                have := (List.getElem?_eq_some_iff.1 hj).1
                simp [u8s_len] at this
                omega
              have hlt : 64 * k + j < (u8s p).length := by rw [u8s_len]; omega
              rw [List.getElem?_toArray, List.getElem?_append_left hlt, ← hj]
              simp [u8s, hj2]
            · intro he
              have := hm.nd
              simp only [List.map_cons, List.nodup_cons, List.mem_cons] at this
              exact this.1 (.inl he.symm)
            · have := hm.own _ List.mem_cons_self
              rcases this with h | h
              · intro he
                have h : w.heap.size ≤ bh := h
                omega
              · cases h
            · rintro e' w'' ⟨rfl, hf, hbk⟩
              exact ⟨(), rfl, hm.write hf hbk⟩
            intro _
            refine Run.nil (RQ.blockNormal ?_)
            exact RQ.to (Ey := fun _ : Unit => [(3, .slice (some (restAt b cap k)) (64 * (M - k)) (cap - 64 * k)), (5, .pointer (some ⟨bh, 0, none⟩)), (2, .pointer (some ⟨b2, 0, none⟩)), (0, v)]) () ⟨rfl, rfl, rfl, rfl, trivial⟩ (List.Sublist.refl _)
          · intro _
            refine RC.region ?_
            refine Run.a (Val.of rfl) ?_
            refine Run.v rfl rfl rfl (Val.eq (Val.sliceS tabOk (zl := 64) (zh := 64 * (M - k)) rfl rfl rfl rfl rfl (.inr ⟨_, rfl, rfl⟩) (.inl ⟨rfl, rfl⟩) (by omega) (by omega)) (show _ = Value.slice (some (restAt b cap (k + 1))) (64 * (M - (k + 1))) (cap - 64 * (k + 1)) from by
              rw [show 64 * (M - k) - 64 = 64 * (M - (k + 1)) by omega, show cap - 64 * k - 64 = cap - 64 * (k + 1) by omega]; rfl)) ?_
            refine Run.a (Val.of rfl) ?_
            exact Run.nil (RQ.round (i := k) (Ei := fun k => [(3, .slice (some (restAt b cap k)) (64 * (M - k)) (cap - 64 * k)), (5, .pointer (some ⟨bh, 0, none⟩)), (2, .pointer (some ⟨b2, 0, none⟩)), (0, v)]) (k + 1) (by omega) (by omega) ⟨rfl, rfl, rfl, rfl, trivial⟩ (List.Sublist.refl _))
        · have hk' : k = M := by
            have := of_decide_eq_false h
            omega
          subst hk'
          (repeat refine RQ.thenExit ?_); refine RQ.blockHere ?_
          refine RQ.next ?_
          (repeat refine RC.seq ?_); refine RC.region ?_
          refine Run.nw (New.alloc tabOk rfl rfl) ?_
          intro b6
          refine Run.nil (RQ.next ?_)
          (repeat refine RC.seq ?_); refine RC.region ?_
          refine Run.a (Val.of rfl) ?_
          refine Run.nil (RQ.next ?_)
          (repeat refine RC.seq ?_); refine RC.block ?_
          have hs := sumTo_lt p k
          generalize hse : sumTo p k = s at *
          have hsl : s.l.length = 8 := rfl
          refine RC.weak (E' := [(43, .int .i64 0), (6, .pointer (some ⟨b6, 0, none⟩)), (5, .pointer (some ⟨bh, 0, none⟩)), (2, .pointer (some ⟨b2, 0, none⟩))])
            (L' := [(b6, .cells ti79.zero.cells 79 (0, 0)), (bh, .cells (u32s s.l).toArray 150 (0, 0)), (b2, .cells ti79.zero.cells 79 (0, 0))]) ⟨rfl, rfl, rfl, rfl, trivial⟩
            (List.Sublist.cons_cons _ (List.Sublist.cons_cons _ (List.Sublist.cons _ (List.Sublist.refl _)))) ?_
          refine RC.loop (ι := Nat) (fun i => [(43, .int .i64 i), (6, .pointer (some ⟨b6, 0, none⟩)), (5, .pointer (some ⟨bh, 0, none⟩)), (2, .pointer (some ⟨b2, 0, none⟩))])
            (fun i => [(b6, .cells (u8s (outB s i ++ List.replicate (32 - i) 0)).toArray 79 (0, 0)), (bh, .cells (u32s s.l).toArray 150 (0, 0)), (b2, .cells ti79.zero.cells 79 (0, 0))])
            (fun i => i ≤ 32) (fun i => 32 - i) 0 (Nat.zero_le _) ⟨rfl, rfl, rfl, rfl, trivial⟩ (List.Perm.refl _) ?_
          intro i hi
          (repeat refine RC.seq ?_); refine RC.region ?_
          repeat refine Run.a (Val.of rfl) ?_
          refine Run.nil (RQ.next ?_)
          refine RC.while rfl (fun h' => ?_) (fun h' => ?_)
          · have hi' : i < 32 := by have := of_decide_eq_true h'; omega
            clear h' h
            have hset := outB_set s i hi'
            have hx : s.l.getD (i / 4) 0 < 4294967296 := V8.getD_lt hs _
            have hat := u32s_at s.l (i / 4) (by omega)
            generalize s.l.getD (i / 4) 0 = x at *
            refine RC.seqCut (Y := Unit) (fun _ => [(43, .int .i64 i), (6, .pointer (some ⟨b6, 0, none⟩)), (5, .pointer (some ⟨bh, 0, none⟩)), (2, .pointer (some ⟨b2, 0, none⟩))])
              (fun _ => [(b6, .cells (u8s (outB s (i + 1) ++ List.replicate (32 - (i + 1)) 0)).toArray 79 (0, 0)), (bh, .cells (u32s s.l).toArray 150 (0, 0)), (b2, .cells ti79.zero.cells 79 (0, 0))]) (RC.block ?_) (fun _ => ?_)
            · (repeat refine RC.seq ?_); refine RC.region ?_
              repeat refine Run.a (Val.of rfl) ?_
              refine Run.nil (RQ.next ?_)
              refine RC.region ?_
              refine Run.a (Val.of rfl) ?_
              refine Run.a (Val.of rfl) ?_
              refine Run.a (Val.eq (Val.of rfl) (show _ = Value.int .i64 ((i / 4 : Nat) : Int) from congrArg (Value.int .i64) ((wrap_in (show inK _ ((i / 4 : Nat) : Int) from by simp only [inK]; omega))))) ?_
              refine Run.a (Val.ix tabOk (i / 4) (off' := i / 4) rfl rfl rfl rfl rfl rfl rfl (by omega) (by simp [ti109])) ?_
              refine Run.a (Val.load tabOk rfl rfl rfl (List.mem_cons_of_mem _ List.mem_cons_self) hat) ?_
              refine Run.a (Val.of rfl) ?_
              refine Run.a (Val.eq (Val.of rfl) (show _ = Value.int .i64 ((i % 4 : Nat) : Int) from rfl)) ?_
              refine Run.a (Val.ar rfl rfl rfl rfl (by dsimp only [inK]; omega)) ?_
              refine Run.a (Val.eq (Val.ar rfl rfl rfl rfl (by dsimp only [inK]; omega)) (show _ = Value.int .i64 ((24 - i % 4 * 8 : Nat) : Int) from by congr 1; omega)) ?_
              refine Run.a (Val.shr (m := 24 - i % 4 * 8) rfl rfl rfl (by show _ ≤ 32; omega)) ?_
              refine Run.a (Val.eq (Val.conv tabOk rfl rfl rfl rfl rfl rfl) (show _ = Value.int .u8 ((x / 2 ^ (24 - i % 4 * 8) % 256 : Nat) : Int) from congrArg (Value.int .u8) (by rw [wrap_u8]; rfl))) ?_
              refine Run.a (Val.ix tabOk i (off' := i) rfl rfl rfl rfl rfl rfl rfl hi' (by simp [ti5])) ?_
              refine Run.storeTo tabOk (arr' := (u8s (outB s (i + 1) ++ List.replicate (32 - (i + 1)) 0)).toArray) (by rw [← hset]; exact u8s_set _ _ _ (by simp [outB_len]; omega)) rfl rfl rfl rfl rfl rfl (List.Perm.refl _) rfl (by simp [u8s_len, outB_len, ti5]; omega) (by simp [Value.cells]; rfl) ?_
              refine Run.nil (RQ.blockNormal ?_)
              exact RQ.to () ⟨rfl, rfl, rfl, rfl, trivial⟩ (List.Sublist.refl _)
            · refine RC.region ?_
              repeat (first | refine Run.a Val.ra ?_ | refine Run.a (Val.of rfl) ?_)
              exact Run.nil (RQ.round (i := i) (i + 1) (by omega) (by show 32 - (i + 1) < 32 - i; omega) ⟨rfl, rfl, rfl, rfl, trivial⟩ (List.Sublist.refl _))
          · have hi' : i = 32 := by have := of_decide_eq_false h'; omega
            subst hi'
            clear h'
            have hlen := outB_len s 32
            rw [Nat.sub_self, List.replicate_zero, List.append_nil]
            generalize outB s 32 = out at *
            have hsz : (u8s out).toArray.size = 32 := by simp [u8s_len, hlen]
            (repeat refine RQ.thenExit ?_); refine RQ.blockHere ?_
            refine RQ.next ?_
            (repeat refine RC.seq ?_); refine RC.region ?_
            refine Run.a (Val.loadAll tabOk rfl rfl rfl rfl List.mem_cons_self hsz) ?_
            refine Run.storeAll (L' := [(b6, .cells (u8s out).toArray 79 (0, 0)), (bh, .cells (u32s s.l).toArray 150 (0, 0))]) tabOk rfl rfl rfl rfl rfl rfl (List.Perm.trans (List.Perm.cons _ (List.Perm.swap _ _ _)) (List.Perm.swap _ _ _)) hsz (by rfl) (fun u hu => u8s_one out u (by simpa [Value.cells] using hu)) ?_
            exact Run.nil (RQ.next (RC.ret (RQ.ret1 rfl (Res.cellAll tabOk rfl rfl rfl List.mem_cons_self hsz) fun w' hm => ⟨rfl, hm.fr⟩)))
end Go.Proofs.YtfoeakgnkfcbjaaGreatDoor
end
