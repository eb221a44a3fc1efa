/- hash.Read. -/
import Derived.Test.YtigfcafpoegnjaaDoorDig3
import Derived.Test.YtigfcafpoegnjaaDoorVcL
namespace Go.Sha
/-- What a digit counts. -/
def dig (c : Nat) : Int := if 48 ≤ c ∧ c ≤ 57 then c - 48 else if 97 ≤ c ∧ c ≤ 102 then c - 87 else -1
def digN (c : Nat) : Nat := (dig c).toNat
theorem dig_lt (c : Nat) : dig c < 16 := by unfold dig; split <;> (try split) <;> omega
theorem dig_ge (c : Nat) : -1 ≤ dig c := by unfold dig; split <;> (try split) <;> omega
theorem digN_eq (c : Nat) (h : 0 ≤ dig c) : dig c = (digN c : Nat) := by unfold digN; omega
theorem digN_lt (c : Nat) : digN c < 16 := by have := dig_lt c; unfold digN; omega
/-- What i digits make. -/
def nib (s : List Nat) (i j : Nat) : Nat := if 2 * j + 1 < i then 16 * digN (s.getD (2 * j) 0) + digN (s.getD (2 * j + 1) 0) else if 2 * j < i then digN (s.getD (2 * j) 0) else 0
def nibs (s : List Nat) (i : Nat) : List Nat := (List.range 8).map (nib s i)
def readOk (s : List Nat) : Bool := decide (s.length = 16) && s.all fun c => decide (0 ≤ dig c)
def readH (s : List Nat) : List Nat := if readOk s = true then nibs s 16 else List.replicate 8 0
theorem nibs_len (s : List Nat) (i : Nat) : (nibs s i).length = 8 := by simp [nibs]
theorem nibs_zero (s : List Nat) : nibs s 0 = List.replicate 8 0 := by
  unfold nibs nib
  simp
  decide
theorem nib_lt (s : List Nat) (i j : Nat) : nib s i j < 256 := by
  unfold nib
  have := digN_lt (s.getD (2 * j) 0)
  have := digN_lt (s.getD (2 * j + 1) 0)
  split <;> (try split) <;> omega
theorem nibs_lt (s : List Nat) (i : Nat) : ∀ x ∈ nibs s i, x < 256 := by
  intro x hx
  simp only [nibs, List.mem_map] at hx
  obtain ⟨j, _, rfl⟩ := hx
  exact nib_lt s i j
theorem nibs_at (s : List Nat) (i j : Nat) (h : j < 8) : (nibs s i).getD j 0 = nib s i j := by
  simp [nibs, List.getD_eq_getElem?_getD, h]
theorem nibs_set (s : List Nat) (i : Nat) : (nibs s i).set (i / 2) (nib s (i + 1) (i / 2)) = nibs s (i + 1) := by
  apply List.ext_getElem
  · simp [nibs_len]
  · intro k h1 h2
    rw [nibs_len] at h2
    simp only [List.getElem_set, nibs, List.getElem_map, List.getElem_range]
    by_cases e : i / 2 = k
    · simp [e]
    · simp only [e, if_false]
      unfold nib
      have a1 : (2 * k + 1 < i) ↔ (2 * k + 1 < i + 1) := by omega
      have a2 : (2 * k < i) ↔ (2 * k < i + 1) := by omega
      simp only [a1, a2]
/-- The byte at i / 2 with one more digit. -/
theorem nib_step (s : List Nat) (i : Nat) : nib s (i + 1) (i / 2) = nib s i (i / 2) % 16 * 16 + digN (s.getD i 0) := by
  have d1 := digN_lt (s.getD i 0)
  unfold nib
  rcases Nat.mod_two_eq_zero_or_one i with h | h
  · have e : 2 * (i / 2) = i := by omega
    rw [if_neg (by omega), if_pos (by omega), if_neg (by omega), if_neg (by omega), e]
    omega
  · have e : 2 * (i / 2) + 1 = i := by omega
    have d2 := digN_lt (s.getD (2 * (i / 2)) 0)
    rw [if_pos (by omega), if_neg (by omega), if_pos (by omega), e]
    omega
theorem readOk_of (s : List Nat) (hl : s.length = 16) (h : ∀ j, j < 16 → 0 ≤ dig (s.getD j 0)) : readOk s = true := by
  simp only [readOk, hl, decide_true, Bool.true_and, List.all_eq_true, decide_eq_true_eq]
  intro c hc
  obtain ⟨j, hj, rfl⟩ := List.mem_iff_getElem.1 hc
  have := h j (by omega)
  rwa [List.getD_eq_getElem?_getD, List.getElem?_eq_getElem hj] at this
theorem readOk_not (s : List Nat) (j : Nat) (hj : j < s.length) (h : dig (s.getD j 0) < 0) : readOk s = false := by
  rw [List.getD_eq_getElem?_getD, List.getElem?_eq_getElem hj] at h
  simp only [readOk, Bool.and_eq_false_iff, List.all_eq_false, decide_eq_true_eq]
  exact .inr ⟨_, List.getElem_mem hj, by simpa using h⟩
theorem readOk_len (s : List Nat) (h : s.length ≠ 16) : readOk s = false := by simp [readOk, h]
end Go.Sha
namespace Go.Proofs.YtigfcafpoegnjaaDoor
open Go Go.Vc Go.Sha

theorem u8_or16' : ∀ x : Fin 16, ∀ y : Fin 16, IntKind.wrap .u8 (BitVec.ofInt IntKind.u8.bits ((x.val * 16 : Nat) : Int) ||| BitVec.ofInt IntKind.u8.bits (y.val : Int)).toNat = ((x.val * 16 + y.val : Nat) : Int) := by decide +kernel
theorem u8_or16 (x y : Nat) (hx : x < 16) (hy : y < 16) : IntKind.wrap .u8 (BitVec.ofInt IntKind.u8.bits ((x * 16 : Nat) : Int) ||| BitVec.ofInt IntKind.u8.bits (y : Int)).toNat = ((x * 16 + y : Nat) : Int) := u8_or16' ⟨x, hx⟩ ⟨y, hy⟩
theorem firstIdx_hex' : ∀ c : Fin 256, firstIdx (bs hexD) (c.val.toUInt8) = dig c.val := by decide +kernel

theorem IndexByte_calls (u : Value) (c : Nat) (hc : c < 256) (w : World) (hu : SrcW w 1 u 16 (u8s hexD)) :
    Gives Tryd.prog 28 [u, .int .u8 c] (.int .i64 (dig c)) w := by
  refine enter Tryd.func28 rfl (Mem.nil w []) rfl ?_
  (repeat refine RC.seq ?_); refine RC.region ?_
  refine Run.v rfl rfl rfl (Val.of rfl) ?_
  refine Run.nil (RQ.next ?_)
  (repeat refine RC.seq ?_); refine RC.region ?_
  refine Run.v rfl rfl rfl (Val.of rfl) ?_
  refine Run.v rfl rfl rfl (Val.of rfl) ?_
  refine Run.v rfl rfl rfl (Val.extern Tryd.func33 rfl rfl rfl rfl rfl rfl (v := .int .i64 (dig c)) (fun w' hm => by
    show Sem.run _ (do
      let b ← Extern.Bytes.bytesOf u
      let c' ← Extern.Bytes.asByte (.int .u8 c)
      match (List.range b.size).find? fun i => b[i]! == c' with
      | some i => pure (goInt i)
      | none => pure (goInt (-1))) w' = _
    have key : ∀ (b : ByteArray) (c' : UInt8), Sem.run Tryd.prog (match (List.range b.size).find? fun i => b[i]! == c' with
      | some i => pure (goInt i)
      | none => pure (goInt (-1))) w' = .ok (.int .i64 (firstIdx b c')) w' := by
      intro b c'
      unfold firstIdx
      cases (List.range b.size).find? fun i => b[i]! == c' <;> simp [goInt]
    simp only [Extern.Bytes.asByte, Sem.run_bind, Sem.run_pure, run_bytesOf (hu.mem hm), Result.andThen_ok, Int.toNat_natCast]
    rw [key, firstIdx_hex' ⟨c, hc⟩])) ?_
  refine Run.v rfl rfl rfl (Val.of rfl) ?_
  refine Run.nil (RQ.next ?_)
  refine RC.ret ?_; (repeat first | refine RQ.thenRet ?_ | refine RQ.blockRet ?_); exact RQ.ret1 rfl (Res.tmp rfl) fun w' hm => ⟨rfl, hm.fr⟩

theorem Read_calls (s : List Nat) (hs : ∀ x ∈ s, x < 256) (w : World) :
    Gives Tryd.prog 18 [.string (bs s)] (.tuple #[.agg (u8s (readH s)).toArray, .bool (readOk s)]) w := by
  refine enter Tryd.func18 rfl (Mem.nil w []) rfl ?_
  (repeat refine RC.seq ?_); refine RC.region ?_
  refine Run.mk rfl rfl rfl (New.alloc tabOk rfl rfl) ?_
  intro b2
  refine Run.v rfl rfl rfl (Val.of rfl) ?_
  refine Run.nil (RQ.next ?_)
  (repeat refine RC.seq ?_); refine RC.region ?_
  refine Run.mk rfl rfl rfl (New.alloc tabOk rfl rfl) ?_
  intro b4
  refine Run.nil (RQ.next ?_)
  (repeat refine RC.seq ?_); refine RC.region ?_
  refine Run.v rfl rfl rfl (Val.of rfl) ?_
  refine Run.v rfl rfl rfl (Val.eq (Val.lenStr tabOk rfl rfl rfl rfl) (show _ = Value.int .i64 (s.length : Nat) from by rw [bs_size])) ?_
  refine Run.v rfl rfl rfl (Val.of rfl) ?_
  refine Run.nil (RQ.next ?_)
  (repeat refine RC.seq ?_); refine RC.cond rfl (fun h => ?_) (fun h => ?_)
  · have hne : s.length ≠ 16 := by
      intro e; rw [e] at h; cases h
    have hok := readOk_len s hne
    have hz : readH s = List.replicate 8 0 := by unfold readH; rw [hok]; rfl
    rw [hok, hz]
    (repeat refine RC.seq ?_); refine RC.region ?_
    refine Run.v rfl rfl rfl (Val.buildA tabOk (parts := []) (cells := (u8s (List.replicate 8 0)).toArray) rfl rfl rfl rfl rfl rfl) ?_
    refine Run.storeAll tabOk rfl rfl rfl rfl rfl rfl p1 rfl rfl (fun u hu => u8s_one _ u (by simpa [Value.cells] using hu)) ?_
    refine Run.v rfl rfl rfl (Val.of rfl) ?_
    refine Run.nil (RQ.next ?_)
    refine RC.ret ?_; (repeat first | refine RQ.thenRet ?_ | refine RQ.blockRet ?_)
    exact RQ.ret2 rfl (Res.cellAll tabOk rfl rfl rfl m0 rfl) (Res.tmp rfl) fun w' hm => ⟨rfl, hm.fr⟩
  · have hl16 : s.length = 16 := by
      have := h
      simp only [bne_eq_false_iff_eq] at this
      omega
    clear h
    refine RC.skip (RQ.next ?_)
    (repeat refine RC.seq ?_); refine RC.region ?_
    refine Run.v rfl rfl rfl (Val.of rfl) ?_
    refine Run.v rfl rfl rfl (Val.eq (Val.lenStr tabOk rfl rfl rfl rfl) (show _ = Value.int .i64 16 from by rw [bs_size, hl16]; rfl)) ?_
    refine Run.v rfl rfl rfl (Val.of rfl) ?_
    refine Run.nil (RQ.next ?_)
    (repeat refine RC.seq ?_); refine RC.block ?_
    refine RC.up 16 (D := Unit) (fun i _ => ∀ j, j < i → 0 ≤ dig (s.getD j 0))
      (fun i _ => [(13, .int .i64 i), (12, .int .i64 16), (4, .pointer (some ⟨b4, 0, none⟩)), (2, .pointer (some ⟨b2, 0, none⟩)), (0, .string (bs s))])
      (fun i _ => [(b4, .cells (u8s (nibs s i)).toArray 23 (0, 0)), (b2, .cells ti23.zero.cells 23 (0, 0))])
      0 () (Nat.zero_le _) (by intro j hj; omega) ⟨rfl, rfl, rfl, rfl, rfl, trivial⟩ (by rw [nibs_zero]; exact List.Sublist.refl _) ?_
    intro i _ hi hall
    (repeat refine RC.seq ?_); refine RC.region ?_
    repeat (refine Run.v rfl rfl rfl (Val.of rfl) ?_)
    refine Run.nil (RQ.next ?_)
    (repeat refine RC.seq ?_); refine RC.wh rfl (fun h => RQ.next ?_) (fun h => ?_)
    · have hi' : i < 16 := by have := of_decide_eq_true h; omega
      clear h
      have hc := getD_lt hs i
      have hst := nib_step s i
      have hset := nibs_set s i
      have hat := u8s_arr (nibs s i) (i / 2) (by rw [nibs_len]; omega)
      rw [nibs_at s i _ (by omega)] at hat
      have hnl := nib_lt s i (i / 2)
      have hdd := digN_eq (s.getD i 0)
      have hdl := digN_lt (s.getD i 0)
      have hnot := readOk_not s i (by omega)
      generalize hse : s.getD i 0 = c at *
      generalize nib s i (i / 2) = x at *
      (repeat refine RC.seq ?_); refine RC.block ?_
      (repeat refine RC.seq ?_); refine RC.region ?_
      repeat (refine Run.v rfl rfl rfl (Val.of rfl) ?_)
      refine Run.nil (RQ.next ?_)
      (repeat refine RC.seq ?_); refine RC.region ?_
      refine Run.mk rfl rfl rfl (New.buildSlice tabOk (parts := [(0, .const (.int .u8 48)), (1, .const (.int .u8 49)), (2, .const (.int .u8 50)), (3, .const (.int .u8 51)), (4, .const (.int .u8 52)), (5, .const (.int .u8 53)), (6, .const (.int .u8 54)), (7, .const (.int .u8 55)), (8, .const (.int .u8 56)), (9, .const (.int .u8 57)), (10, .const (.int .u8 97)), (11, .const (.int .u8 98)), (12, .const (.int .u8 99)), (13, .const (.int .u8 100)), (14, .const (.int .u8 101)), (15, .const (.int .u8 102))]) (cells := (u8s hexD).toArray) rfl rfl rfl rfl rfl rfl (fillS_full 1 16 _ (u8s hexD) rfl (by simp [u8s, Value.cells]))) ?_
      intro b16
      refine Run.op rfl (OpTo.mark tabOk rfl rfl rfl rfl rfl rfl rfl rfl (List.Perm.refl _)) ?_
      intro _
      refine Run.v rfl rfl rfl (Val.of rfl) ?_
      refine Run.v rfl rfl rfl (Val.of rfl) ?_
      refine Run.v rfl rfl rfl (Val.eq (Val.ixStr tabOk i (a := s) rfl rfl rfl rfl rfl rfl (by omega) hs) (show _ = Value.int .u8 (c : Nat) from by rw [hse])) ?_
      refine Run.callV Tryd.func28 rfl rfl rfl rfl rfl rfl rfl (fun w' hm => IndexByte_calls _ c hc w' (SrcW.row hm m0 rfl (Nat.le_refl 16))) ?_
      refine Run.v rfl rfl rfl (Val.of rfl) ?_
      refine Run.nil (RQ.next ?_)
      (repeat refine RC.seq ?_); refine RC.region ?_
      repeat (refine Run.v rfl rfl rfl (Val.of rfl) ?_)
      refine Run.nil (RQ.next ?_)
      (repeat refine RC.seq ?_); refine RC.cond rfl (fun h => ?_) (fun h => ?_)
      · have hd : dig c < 0 := of_decide_eq_true h
        have hok := hnot hd
        have hz : readH s = List.replicate 8 0 := by unfold readH; rw [hok]; rfl
        rw [hok, hz]
        (repeat refine RC.seq ?_); refine RC.region ?_
        refine Run.v rfl rfl rfl (Val.buildA tabOk (parts := []) (cells := (u8s (List.replicate 8 0)).toArray) rfl rfl rfl rfl rfl rfl) ?_
        refine Run.storeAll tabOk rfl rfl rfl rfl rfl rfl p2 rfl rfl (fun u hu => u8s_one _ u (by simpa [Value.cells] using hu)) ?_
        refine Run.v rfl rfl rfl (Val.of rfl) ?_
        refine Run.nil (RQ.next ?_)
        refine RC.ret ?_; (repeat first | refine RQ.thenRet ?_ | refine RQ.blockRet ?_)
        exact RQ.ret2 rfl (Res.cellAll tabOk rfl rfl rfl m0 rfl) (Res.tmp rfl) fun w' hm => ⟨rfl, hm.fr⟩
      · have hd : 0 ≤ dig c := by have := of_decide_eq_false h; omega
        have hdn := hdd hd
        refine RC.skip (RQ.next ?_)
        refine RC.region ?_
        refine Run.v rfl rfl rfl (Val.of rfl) ?_
        refine Run.v rfl rfl rfl (Val.eq (Val.of rfl) (show _ = Value.int .i64 ((i / 2 : Nat) : Int) from congrArg (Value.int .i64) ((wrap_in (show inK _ ((i / 2 : Nat) : Int) from by simp only [inK]; omega))))) ?_
        refine Run.v rfl rfl rfl (Val.of rfl) ?_
        refine Run.v rfl rfl rfl (Val.eq (Val.of rfl) (show _ = Value.int .i64 ((i / 2 : Nat) : Int) from congrArg (Value.int .i64) ((wrap_in (show inK _ ((i / 2 : Nat) : Int) from by simp only [inK]; omega))))) ?_
        refine Run.v rfl rfl rfl (Val.ix tabOk (i / 2) (off' := i / 2) rfl rfl rfl rfl rfl rfl rfl (by omega) (by simp [ti5])) ?_
        refine Run.v rfl rfl rfl (Val.load tabOk rfl rfl rfl m1 hat) ?_
        refine Run.v rfl rfl rfl (Val.eq (Val.shl (m := 4) rfl rfl rfl (by decide)) (show _ = Value.int .u8 ((x % 16 * 16 : Nat) : Int) from congrArg (Value.int .u8) (by rw [wrap_u8]; omega))) ?_
        refine Run.v rfl rfl rfl (Val.of rfl) ?_
        refine Run.v rfl rfl rfl (Val.eq (Val.conv tabOk rfl rfl rfl rfl rfl rfl) (show _ = Value.int .u8 (digN c : Nat) from congrArg (Value.int .u8) (by rw [wrap_u8, hdn]; omega))) ?_
        refine Run.v rfl rfl rfl (Val.eq (Val.of rfl) (show _ = Value.int .u8 ((x % 16 * 16 + digN c : Nat) : Int) from congrArg (Value.int .u8) (u8_or16 _ _ (by omega) hdl))) ?_
        refine Run.v rfl rfl rfl (Val.ix tabOk (i / 2) (off' := i / 2) rfl rfl rfl rfl rfl rfl rfl (by omega) (by simp [ti5])) ?_
        refine Run.storeTo tabOk (arr' := (u8s (nibs s (i + 1))).toArray) (by rw [← hset, hst]; exact u8s_set _ _ _ (by rw [nibs_len]; omega)) rfl rfl rfl rfl rfl rfl p1 rfl (by simp [u8s_len, nibs_len, ti5]; omega) (by simp [Value.cells]; rfl) ?_
        refine Run.nil (RQ.blockNormal (RQ.next ?_))
        refine RC.region ?_
        repeat (first | refine Run.v rfl rfl rfl (Val.ar rfl rfl rfl rfl (by dsimp only [inK]; omega)) ?_ | refine Run.v rfl rfl rfl (Val.of rfl) ?_)
        refine Run.nil (RQ.up (i + 1) () (Nat.lt_succ_self _) hi' ?_ ⟨rfl, rfl, rfl, rfl, rfl, trivial⟩ (List.Sublist.cons_cons _ (List.Sublist.cons _ (List.Sublist.refl _))))
        intro j hj
        rcases Nat.lt_succ_iff_lt_or_eq.1 hj with h' | rfl
        · exact hall j h'
        · rw [hse]; exact hd
    · have hi' : i = 16 := by have := of_decide_eq_false h; omega
      subst hi'
      have hok := readOk_of s hl16 hall
      have hz : readH s = nibs s 16 := by unfold readH; rw [if_pos hok]
      rw [hok, hz]
      have hnl := nibs_len s 16
      generalize nibs s 16 = r at *
      have hsz : (u8s r).toArray.size = 8 := by simp [u8s_len, hnl]
      (repeat refine RQ.thenExit ?_); refine RQ.blockHere ?_
      refine RQ.next ?_
      (repeat refine RC.seq ?_); refine RC.region ?_
      refine Run.v rfl rfl rfl (Val.loadAll tabOk rfl rfl rfl rfl m0 hsz) ?_
      refine Run.storeAll (arr := ti23.zero.cells) tabOk rfl rfl rfl rfl rfl rfl p1 hsz rfl (fun u hu => u8s_one _ u (by simpa [Value.cells] using hu)) ?_
      refine Run.v rfl rfl rfl (Val.of rfl) ?_
      refine Run.nil (RQ.next ?_)
      refine RC.ret ?_; (repeat first | refine RQ.thenRet ?_ | refine RQ.blockRet ?_)
      exact RQ.ret2 rfl (Res.cellAll tabOk rfl rfl rfl m0 hsz) (Res.tmp rfl) fun w' hm => ⟨rfl, hm.fr⟩
end Go.Proofs.YtigfcafpoegnjaaDoor
