/- Lemmas. -/
import Derived.Test.YtkkfaffehbjdgaaGreatDoorPk08
set_option linter.unusedSimpArgs false
set_option linter.unusedVariables false
section
/- The reference's keys that sign once: Secret, MarkOf, bit, Sign, Public. -/
namespace Go.Proofs.YtkkfaffehbjdgaaGreatDoor
open Go Go.Vc Go.Sha

theorem parts1' {w : World} {u : Value} {a : List Nat} (hu : SrcW w 1 u a.length (u8s a)) : Parts w [u] [a] :=
  ⟨rfl, fun i h h' => by
    match i, h with
    | 0, _ => exact hu⟩

set_option maxRecDepth 10000 in set_option maxHeartbeats 4000000 in
theorem ref_Secret_calls (seed : List Nat) (hs : seed.length = 8) (hlt : ∀ x ∈ seed, x < 256) (z : Int) (ib i b : Nat) (hz : z % 256 = (ib : Int)) (hi : i < 256) (hb : b < 256) (w : World) :
    Gives Tryz.prog 104 [.agg (u8s seed).toArray, .int .i64 z, .int .i64 i, .int .i64 b] (.agg (u8s (digest 115 [seed, [ib, i, b, 0]])).toArray) w := by
  have hib : ib < 256 := by omega
  refine enter Tryz.func104 rfl (Mem.nil w []) rfl ?_
  (repeat refine RC.seq ?_); refine RC.region ?_
  refine Run.nw (New.boxA rfl rfl) ?_
  intro b4
  refine Run.nw (New.alloc tabOk rfl rfl) ?_
  intro b8
  refine Run.nil (RQ.next ?_)
  (repeat refine RC.seq ?_); refine RC.region ?_
  refine Run.a (Val.eq (Val.sliceA tabOk rfl rfl rfl rfl rfl) (show _ = Value.slice (some ⟨b4, 0, none⟩) seed.length seed.length from by rw [hs])) ?_
  refine Run.a (Val.of rfl) ?_
  refine Run.a (Val.eq (Val.conv tabOk rfl rfl rfl rfl rfl rfl) (show _ = Value.int .u8 (ib : Int) from congrArg (Value.int .u8) (by rw [wrap_u8]; exact hz))) ?_
  refine Run.a (Val.of rfl) ?_
  refine Run.a (Val.convIn tabOk rfl rfl rfl rfl rfl rfl (by simp only [inK]; omega)) ?_
  refine Run.a (Val.of rfl) ?_
  refine Run.a (Val.convIn tabOk rfl rfl rfl rfl rfl rfl (by simp only [inK]; omega)) ?_
  refine Run.nw (New.buildSlice tabOk (parts := [(0, .tmp 11), (1, .tmp 13), (2, .tmp 15), (3, .const (.int .u8 0))]) (cells := (u8s [ib, i, b, 0]).toArray) rfl rfl rfl rfl rfl rfl (fillS_full 1 4 _ [.int .u8 _, .int .u8 _, .int .u8 _, .int .u8 _] rfl (by simp [Value.cells]))) ?_
  intro b16
  refine Run.nw (New.buildSlice tabOk (parts := [(0, .tmp 9), (1, .tmp 16)]) (cells := [Value.slice (some ⟨b4, 0, none⟩) seed.length seed.length, Value.slice (some ⟨b16, 0, none⟩) 4 4].toArray) rfl rfl rfl rfl rfl rfl (fillS_full 1 2 _ [Value.slice (some ⟨b4, 0, none⟩) seed.length seed.length, Value.slice (some ⟨b16, 0, none⟩) 4 4] rfl (by simp [Value.cells]))) ?_
  intro b17
  refine Run.callV Tryz.func43 rfl rfl rfl rfl rfl rfl rfl (fun w' hm => Digest_calls 115 (by decide) _ _ [seed, [ib, i, b, 0]] w' (SrcW.row hm m0 rfl (Nat.le_refl 2)) (parts2 (u := .slice (some ⟨b4, 0, none⟩) seed.length seed.length) (v := .slice (some ⟨b16, 0, none⟩) 4 4) (SrcW.row hm m3 (by simp [u8s_len]) (Nat.le_refl _)) (SrcW.row hm m1 rfl (Nat.le_refl 4))) (by simp [tot, hs]) ?_) ?_
  · intro l hl x hx
    simp only [List.mem_cons, List.not_mem_nil, or_false] at hl
    rcases hl with rfl | rfl
    · exact hlt x hx
    · simp only [List.mem_cons, List.not_mem_nil, or_false] at hx
      omega
  have hd := digest_len 115 [seed, [ib, i, b, 0]]
  generalize digest 115 [seed, [ib, i, b, 0]] = dg at *
  refine Run.op1 (OpTo.setAll tabOk rfl rfl rfl rfl rfl p2 hd rfl) (fun _ => ?_)
  refine Run.nil (RQ.next ?_)
  refine RC.ret ?_; (repeat first | refine RQ.thenRet ?_ | refine RQ.blockRet ?_)
  exact RQ.ret1 rfl (Res.cellU tabOk rfl rfl rfl m0 hd) fun w' hm => ⟨rfl, hm.fr⟩

set_option maxRecDepth 10000 in set_option maxHeartbeats 4000000 in
theorem ref_MarkOf_calls (h : List Nat) (hs : h.length = 8) (hlt : ∀ x ∈ h, x < 256) (w : World) :
    Gives Tryz.prog 106 [.agg (u8s h).toArray] (.agg (u8s (markH h)).toArray) w := by
  refine enter Tryz.func106 rfl (Mem.nil w []) rfl ?_
  (repeat refine RC.seq ?_); refine RC.region ?_
  refine Run.nw (New.boxA rfl rfl) ?_
  intro b1
  refine Run.nw (New.alloc tabOk rfl rfl) ?_
  intro b2
  refine Run.nil (RQ.next ?_)
  (repeat refine RC.seq ?_); refine RC.region ?_
  refine Run.a (Val.eq (Val.sliceA tabOk rfl rfl rfl rfl rfl) (show _ = Value.slice (some ⟨b1, 0, none⟩) h.length h.length from by rw [hs])) ?_
  refine Run.nw (New.buildSlice tabOk (parts := [(0, .tmp 3)]) (cells := [Value.slice (some ⟨b1, 0, none⟩) h.length h.length].toArray) rfl rfl rfl rfl rfl rfl (fillS_full 1 1 _ [Value.slice (some ⟨b1, 0, none⟩) h.length h.length] rfl (by simp [Value.cells]))) ?_
  intro b4
  refine Run.callV Tryz.func43 rfl rfl rfl rfl rfl rfl rfl (fun w' hm => Digest_calls 112 (by decide) _ _ [h] w' (SrcW.row hm m0 rfl (Nat.le_refl 1)) (parts1' (u := .slice (some ⟨b1, 0, none⟩) h.length h.length) (SrcW.row hm m2 (by simp [u8s_len]) (Nat.le_refl _))) (by simp [tot, hs]) (by simpa using hlt)) ?_
  have hd := mark_len h
  rw [show digest 112 [h] = markH h from rfl]
  generalize markH h = dg at *
  refine Run.op1 (OpTo.setAll tabOk rfl rfl rfl rfl rfl p1 hd rfl) (fun _ => ?_)
  refine Run.nil (RQ.next ?_)
  refine RC.ret ?_; (repeat first | refine RQ.thenRet ?_ | refine RQ.blockRet ?_)
  exact RQ.ret1 rfl (Res.cellU tabOk rfl rfl rfl m0 hd) fun w' hm => ⟨rfl, hm.fr⟩

set_option maxRecDepth 10000 in set_option maxHeartbeats 4000000 in
theorem ref_bit_calls (m : List Nat) (hm8 : m.length = 8) (hlt : ∀ x ∈ m, x < 256) (i : Nat) (hi : i < 64) (w : World) :
    Gives Tryz.prog 105 [.agg (u8s m).toArray, .int .i64 i] (.int .i64 (bitOf m i : Nat)) w := by
  refine enter Tryz.func105 rfl (Mem.nil w []) rfl ?_
  have hx := getD_lt hlt (i / 8)
  have hat := u8s_arr m (i / 8) (by omega)
  unfold bitOf
  generalize m.getD (i / 8) 0 = x at *
  (repeat refine RC.seq ?_); refine RC.region ?_
  refine Run.nw (New.boxA rfl rfl) ?_
  intro b2
  refine Run.a (Val.of rfl) ?_
  refine Run.nil (RQ.next ?_)
  (repeat refine RC.seq ?_); refine RC.region ?_
  refine Run.a (Val.of rfl) ?_
  refine Run.a (Val.quoN rfl rfl rfl rfl (by decide) (by simp only [inK]; omega)) ?_
  refine Run.a (Val.ix tabOk (i / 8) (off' := i / 8) rfl rfl rfl rfl rfl rfl rfl (by omega) (by simp [ti5])) ?_
  refine Run.a (Val.load tabOk rfl rfl rfl m0 hat) ?_
  refine Run.a (Val.convIn tabOk rfl rfl rfl rfl rfl rfl (by simp only [inK]; omega)) ?_
  refine Run.a (Val.of rfl) ?_
  refine Run.a (Val.remN rfl rfl rfl rfl (by decide)) ?_
  refine Run.a (Val.convIn tabOk rfl rfl rfl rfl rfl rfl (by simp only [inK]; omega)) ?_
  refine Run.a (Val.shr (m := i % 8) rfl rfl rfl (by show _ ≤ 64; omega)) ?_
  refine Run.a (Val.and1 rfl rfl rfl (Nat.lt_of_le_of_lt (Nat.div_le_self _ _) hx)) ?_
  refine Run.a (Val.of rfl) ?_
  refine Run.nil (RQ.next ?_)
  refine RC.ret ?_; (repeat first | refine RQ.thenRet ?_ | refine RQ.blockRet ?_); exact RQ.ret1 rfl (Res.tmp rfl) fun w' hm => ⟨rfl, hm.fr⟩

theorem zrow (f : Nat → List Nat) (c i n : Nat) (hf : ∀ i, (f i).length = c) (hi : i < n) : rowOf f i ++ List.replicate ((n - i) * c) 0 = rowOf f i ++ List.replicate (f i).length 0 ++ List.replicate ((n - (i + 1)) * c) 0 := by
  rw [List.append_assoc, List.replicate_append_replicate, hf]
  congr 2
  rw [show n - i = n - (i + 1) + 1 by omega, Nat.succ_mul, Nat.add_comm]

set_option maxRecDepth 10000 in set_option maxHeartbeats 4000000 in
theorem ref_Sign_calls (seed m : List Nat) (hs : seed.length = 8) (hlt : ∀ x ∈ seed, x < 256) (hm8 : m.length = 8) (hmlt : ∀ x ∈ m, x < 256) (z : Int) (ib : Nat) (hz : z % 256 = (ib : Int)) (w : World) :
    Gives Tryz.prog 78 [.agg (u8s seed).toArray, .int .i64 z, .agg (u8s m).toArray] (.tuple #[.agg (u8s (rowOf (opened seed ib m) 16)).toArray, .agg (u8s (rowOf (shutd seed ib m) 16)).toArray]) w := by
  refine enter Tryz.func78 rfl (Mem.nil w []) rfl ?_
  have hol := opened_len seed ib m
  have hsl := shutd_len seed ib m
  (repeat refine RC.seq ?_); refine RC.region ?_
  refine Run.nw (New.boxA rfl rfl) ?_
  intro b3
  refine Run.nw (New.boxA rfl rfl) ?_
  intro b5
  refine Run.nw (New.allocTo tabOk (cs := (u8s (List.replicate 128 0)).toArray) rfl rfl (by kernel_rfl)) ?_
  intro b6
  refine Run.nw (New.allocTo tabOk (cs := (u8s (List.replicate 128 0)).toArray) rfl rfl (by kernel_rfl)) ?_
  intro b7
  refine Run.nil (RQ.next ?_)
  (repeat refine RC.seq ?_); refine RC.region ?_
  refine Run.nw (New.allocTo tabOk (cs := (u8s (rowOf (opened seed ib m) 0 ++ List.replicate ((16 - 0) * 8) 0)).toArray) rfl rfl (by kernel_rfl)) ?_
  intro b8
  refine Run.nw (New.allocTo tabOk (cs := (u8s (rowOf (shutd seed ib m) 0 ++ List.replicate ((16 - 0) * 8) 0)).toArray) rfl rfl (by kernel_rfl)) ?_
  intro b9
  refine Run.nil (RQ.next ?_)
  (repeat refine RC.seq ?_); refine RC.region ?_
  refine Run.a (Val.of rfl) ?_
  refine Run.nil (RQ.next ?_)
  (repeat refine RC.seq ?_); refine RC.block ?_
  refine RC.up 16 (D := Unit) (fun _ _ => True)
    (fun i _ => [(10, .int .i64 i), (8, .pointer (some ⟨b8, 0, none⟩)), (9, .pointer (some ⟨b9, 0, none⟩)), (1, .int .i64 z), (3, .pointer (some ⟨b3, 0, none⟩)), (5, .pointer (some ⟨b5, 0, none⟩)), (6, .pointer (some ⟨b6, 0, none⟩)), (7, .pointer (some ⟨b7, 0, none⟩))])
    (fun i _ => [(b9, .cells (u8s (rowOf (shutd seed ib m) i ++ List.replicate ((16 - i) * 8) 0)).toArray 88 (0, 0)), (b8, .cells (u8s (rowOf (opened seed ib m) i ++ List.replicate ((16 - i) * 8) 0)).toArray 88 (0, 0)), (b7, .cells (u8s (List.replicate 128 0)).toArray 88 (0, 0)), (b6, .cells (u8s (List.replicate 128 0)).toArray 88 (0, 0)), (b5, .cells (u8s m).toArray 32 (0, 0)), (b3, .cells (u8s seed).toArray 32 (0, 0))])
    0 () (Nat.zero_le _) trivial ⟨rfl, rfl, rfl, rfl, rfl, rfl, rfl, rfl, trivial⟩ (List.Sublist.refl _) ?_
  intro i _ hi _
  (repeat refine RC.seq ?_); refine RC.region ?_
  repeat refine Run.a (Val.of rfl) ?_
  refine Run.nil (RQ.next ?_)
  (repeat refine RC.seq ?_); refine RC.wh rfl (fun h => RQ.next ?_) (fun h => ?_)
  · have hi' : i < 16 := by have := of_decide_eq_true h; omega
    clear h
    have hb := bitOf_lt m i
    have z1 := zrow (opened seed ib m) 8 i 16 hol hi'
    have z2 := zrow (shutd seed ib m) 8 i 16 hsl hi'
    have l1 := rowOf_len hol i
    have l2 := rowOf_len hsl i
    have e1 : rowOf (opened seed ib m) (i + 1) = rowOf (opened seed ib m) i ++ opened seed ib m i := rfl
    have e2 : rowOf (shutd seed ib m) (i + 1) = rowOf (shutd seed ib m) i ++ shutd seed ib m i := rfl
    have d1 : opened seed ib m i = digest 115 [seed, [ib, i, bitOf m i, 0]] := rfl
    have d2 : shutd seed ib m i = markH (digest 115 [seed, [ib, i, 1 - bitOf m i, 0]]) := rfl
    have o1 := hol i
    have o2 := hsl i
    (repeat refine RC.seq ?_); refine RC.block ?_
    rw [z1, z2]
    generalize rowOf (opened seed ib m) i = ro at *
    generalize rowOf (shutd seed ib m) i = rs at *
    (repeat refine RC.seq ?_); refine RC.drawS mixed (N := 10) rfl ?_
    refine DR.t 0 rfl (Val.of rfl) ?_
    refine DR.t 1 rfl (Val.loadU tabOk rfl rfl rfl rfl m5 hs) ?_
    refine DR.t 2 rfl (Val.of rfl) ?_
    refine DR.t 3 rfl (Val.of rfl) ?_
    refine DR.t 4 rfl (Val.loadU tabOk rfl rfl rfl rfl m4 hm8) ?_
    refine DR.t 5 rfl (Val.of rfl) ?_
    refine DR.c 6 ?_
    refine DOp.op1 rfl (OpTo.callV Tryz.func105 rfl rfl rfl rfl rfl rfl (fun w' _ => ref_bit_calls m hm8 hmlt i (by omega) w')) (fun _ => ?_)
    refine DR.c 7 ?_
    refine DOp.op1 rfl (OpTo.callV Tryz.func104 rfl rfl rfl rfl rfl rfl (fun w' _ => ref_Secret_calls seed hs hlt z ib i (bitOf m i) hz (by omega) (by omega) w')) (fun _ => ?_)
    rw [← d1]
    refine DR.t 8 rfl (Val.ix tabOk i (off' := i * 8) rfl rfl rfl rfl rfl rfl rfl hi' (by simp [ti32])) ?_
    refine DR.c 9 ?_
    refine DOp.op1 rfl (OpTo.setU tabOk ro (List.replicate (opened seed ib m i).length 0) (opened seed ib m i) (List.replicate ((16 - (i + 1)) * 8) 0) rfl rfl rfl rfl rfl p1 rfl l1.symm (by simp) o1) (fun _ => ?_)
    refine DR.done (by kernel_rfl) (RQ.next ?_)
    (repeat refine RC.seq ?_); refine RC.drawS mixed (N := 12) rfl ?_
    refine DR.t 0 rfl (Val.of rfl) ?_
    refine DR.t 1 rfl (Val.loadU tabOk rfl rfl rfl rfl m5 hs) ?_
    refine DR.t 2 rfl (Val.of rfl) ?_
    refine DR.t 3 rfl (Val.of rfl) ?_
    refine DR.t 4 rfl (Val.loadU tabOk rfl rfl rfl rfl m4 hm8) ?_
    refine DR.t 5 rfl (Val.of rfl) ?_
    refine DR.c 6 ?_
    refine DOp.op1 rfl (OpTo.callV Tryz.func105 rfl rfl rfl rfl rfl rfl (fun w' _ => ref_bit_calls m hm8 hmlt i (by omega) w')) (fun _ => ?_)
    refine DR.t 7 rfl (Val.eq (Val.ar rfl rfl rfl rfl (by dsimp only [inK]; omega)) (show _ = Value.int .i64 ((1 - bitOf m i : Nat) : Int) from by congr 1; omega)) ?_
    refine DR.c 8 ?_
    refine DOp.op1 rfl (OpTo.callV Tryz.func104 rfl rfl rfl rfl rfl rfl (fun w' _ => ref_Secret_calls seed hs hlt z ib i (1 - bitOf m i) hz (by omega) (by omega) w')) (fun _ => ?_)
    refine DR.c 9 ?_
    refine DOp.op1 rfl (OpTo.callV Tryz.func106 rfl rfl rfl rfl rfl rfl (fun w' _ => ref_MarkOf_calls _ (digest_len _ _) (digest_lt _ _) w')) (fun _ => ?_)
    rw [← d2]
    refine DR.t 10 rfl (Val.ix tabOk i (off' := i * 8) rfl rfl rfl rfl rfl rfl rfl hi' (by simp [ti32])) ?_
    refine DR.c 11 ?_
    refine DOp.op1 rfl (OpTo.setU tabOk rs (List.replicate (shutd seed ib m i).length 0) (shutd seed ib m i) (List.replicate ((16 - (i + 1)) * 8) 0) rfl rfl rfl rfl rfl p1 rfl l2.symm (by simp) o2) (fun _ => ?_)
    refine DR.done (by kernel_rfl) (RQ.blockNormal (RQ.next ?_))
    rw [← e1, ← e2]
    refine RC.region ?_
    repeat (first | refine Run.a Val.ra ?_ | refine Run.a (Val.of rfl) ?_)
    exact Run.nil (RQ.up (i + 1) () (Nat.lt_succ_self _) hi' trivial ⟨rfl, rfl, rfl, rfl, rfl, rfl, rfl, rfl, trivial⟩ (List.Sublist.refl _))
  · have hi' : i = 16 := by have := of_decide_eq_false h; omega
    subst hi'
    have l1 := rowOf_len hol 16
    have l2 := rowOf_len hsl 16
    rw [show (16 - 16) * 8 = 0 from rfl, List.replicate_zero, List.append_nil, List.append_nil]
    generalize rowOf (opened seed ib m) 16 = ro at *
    generalize rowOf (shutd seed ib m) 16 = rs at *
    (repeat refine RQ.thenExit ?_); refine RQ.blockHere ?_
    refine RQ.next ?_
    (repeat refine RC.seq ?_); refine RC.draw ([(b9, .cells (u8s rs).toArray 88 (0, 0)), (b8, .cells (u8s ro).toArray 88 (0, 0))]) mixed (N := 4) rfl ?_
    refine DR.t 0 rfl (Val.loadU tabOk rfl rfl rfl rfl m1 l1) ?_
    refine DR.t 1 rfl (Val.loadU tabOk rfl rfl rfl rfl m0 l2) ?_
    refine DR.c 2 ?_
    refine DOp.op1 rfl (OpTo.setAll tabOk rfl rfl rfl rfl rfl p3 l1 rfl) (fun _ => ?_)
    refine DR.c 3 ?_
    refine DOp.op1 rfl (OpTo.setAll tabOk rfl rfl rfl rfl rfl p3 l2 rfl) (fun _ => ?_)
    refine DR.done (by kernel_rfl) (RQ.next ?_)
    refine RC.ret ?_; (repeat first | refine RQ.thenRet ?_ | refine RQ.blockRet ?_)
    exact RQ.ret2 rfl (Res.cellU tabOk rfl rfl rfl m1 l1) (Res.cellU tabOk rfl rfl rfl m0 l2) fun w' hm => ⟨rfl, hm.fr⟩
end Go.Proofs.YtkkfaffehbjdgaaGreatDoor

/- The reference's Public. -/
namespace Go.Proofs.YtkkfaffehbjdgaaGreatDoor
open Go Go.Vc Go.Sha

set_option maxRecDepth 10000 in set_option maxHeartbeats 4000000 in
theorem ref_Public_calls (m op sh : List Nat) (hm8 : m.length = 8) (hmlt : ∀ x ∈ m, x < 256) (hop : op.length = 128) (hoplt : ∀ x ∈ op, x < 256) (hsh : sh.length = 128) (hshlt : ∀ x ∈ sh, x < 256) (w : World) :
    Gives Tryz.prog 96 [.agg (u8s m).toArray, .agg (u8s op).toArray, .agg (u8s sh).toArray] (.agg (u8s (pubBy m op sh)).toArray) w := by
  refine enter Tryz.func96 rfl (Mem.nil w []) rfl ?_
  have hq1 := fun {i : Nat} (hi : i < 16) => pc_len (c := 8) (n := 16) hop hi
  have hq2 := fun {i : Nat} (hi : i < 16) => pc_len (c := 8) (n := 16) hsh hi
  (repeat refine RC.seq ?_); refine RC.region ?_
  refine Run.nw (New.boxA rfl rfl) ?_
  intro b3
  refine Run.nw (New.boxA rfl rfl) ?_
  intro b4
  refine Run.nw (New.boxA rfl rfl) ?_
  intro b5
  refine Run.nw (New.alloc tabOk rfl rfl) ?_
  intro b6
  refine Run.nil (RQ.next ?_)
  (repeat refine RC.seq ?_); refine RC.region ?_
  refine Run.a (Val.of rfl) ?_
  refine Run.nil (RQ.next ?_)
  (repeat refine RC.seq ?_); refine RC.region ?_
  refine Run.a (Val.of rfl) ?_
  refine Run.nil (RQ.next ?_)
  (repeat refine RC.seq ?_); refine RC.block ?_
  refine RC.up 16 (D := Value × Hp) (fun i x => Own 5 1 x.1 (16 * i) (u8s (rowOf (turnd m op sh) i)) x.2)
    (fun i x => [(8, .int .i64 i), (7, x.1), (3, .pointer (some ⟨b3, 0, none⟩)), (4, .pointer (some ⟨b4, 0, none⟩)), (5, .pointer (some ⟨b5, 0, none⟩)), (6, .pointer (some ⟨b6, 0, none⟩))])
    (fun i x => x.2 ++ [(b6, .cells ti32.zero.cells 32 (0, 0)), (b5, .cells (u8s sh).toArray 88 (0, 0)), (b4, .cells (u8s op).toArray 88 (0, 0)), (b3, .cells (u8s m).toArray 32 (0, 0))])
    0 (_, _) (Nat.zero_le _) Own.nil ⟨rfl, rfl, rfl, rfl, rfl, rfl, trivial⟩ (List.Sublist.refl _) ?_
  rintro i ⟨v7, bl7⟩ hi hown
  dsimp only at hown ⊢
  (repeat refine RC.seq ?_); refine RC.region ?_
  refine Run.a (Val.of rfl) ?_
  refine Run.a (Val.of rfl) ?_
  refine Run.nil (RQ.next ?_)
  (repeat refine RC.seq ?_); refine RC.wh rfl (fun h => RQ.next ?_) (fun h => ?_)
  · have hi' : i < 16 := by have := of_decide_eq_true h; omega
    clear h
    have hb := bitOf_lt m i
    have q1 := hq1 hi'
    have q2 := hq2 hi'
    have q3 := pc_lt (c := 8) hoplt i
    have o1 := mark_len (pc 8 op i)
    have e1 : rowOf (turnd m op sh) (i + 1) = rowOf (turnd m op sh) i ++ turnd m op sh i := rfl
    have et : turnd m op sh i = (if bitOf m i = 1 then pc 8 sh i else markH (pc 8 op i)) ++ (if bitOf m i = 1 then markH (pc 8 op i) else pc 8 sh i) := by unfold turnd; split <;> rfl
    generalize hpe : pc 8 op i = po at *
    generalize hse : pc 8 sh i = ps at *
    (repeat refine RC.seq ?_); refine RC.block ?_
    refine RC.seqCut (Y := Nat × Nat) (fun y => [(9, .pointer (some ⟨y.1, 0, none⟩)), (10, .pointer (some ⟨y.2, 0, none⟩)), (8, .int .i64 i), (7, v7), (3, .pointer (some ⟨b3, 0, none⟩)), (4, .pointer (some ⟨b4, 0, none⟩)), (5, .pointer (some ⟨b5, 0, none⟩)), (6, .pointer (some ⟨b6, 0, none⟩))])
      (fun y => (y.1, .cells (u8s (markH po)).toArray 32 (0, 0)) :: (y.2, .cells (u8s ps).toArray 32 (0, 0)) :: (bl7 ++ [(b6, .cells ti32.zero.cells 32 (0, 0)), (b5, .cells (u8s sh).toArray 88 (0, 0)), (b4, .cells (u8s op).toArray 88 (0, 0)), (b3, .cells (u8s m).toArray 32 (0, 0))])) ?_ (fun y => ?_)
    · (repeat refine RC.seq ?_); refine RC.drawS mixed (N := 11) rfl ?_
      refine DR.t 0 rfl (Val.of rfl) ?_
      refine DR.t 1 rfl (Val.ix tabOk i (off' := i * 8) rfl rfl rfl rfl rfl rfl rfl hi' (by simp [ti32])) ?_
      refine DR.t 2 rfl (Val.eq (Val.loadPc tabOk i (c := 8) rfl rfl rfl rfl (List.mem_append_right _ m2) rfl rfl (by rw [hpe]; exact q1)) (congrArg (fun l => Value.agg (u8s l).toArray) hpe)) ?_
      refine DR.t 4 rfl (Val.of rfl) ?_
      refine DR.t 5 rfl (Val.ix tabOk i (off' := i * 8) rfl rfl rfl rfl rfl rfl rfl hi' (by simp [ti32])) ?_
      refine DR.t 6 rfl (Val.eq (Val.loadPc tabOk i (c := 8) rfl rfl rfl rfl (List.mem_append_right _ m1) rfl rfl (by rw [hse]; exact q2)) (congrArg (fun l => Value.agg (u8s l).toArray) hse)) ?_
      refine DR.three (i := 3) (j := 7) (k := 8) (by kernel_rfl) ?_ ?_ ?_
      · refine DOp.op1 rfl (OpTo.callV Tryz.func106 rfl rfl rfl rfl rfl rfl (fun w' _ => ref_MarkOf_calls _ q1 q3 w')) (fun _ => ?_)
        refine DR.two (i := 7) (j := 8) (by kernel_rfl) ?_ ?_
        · refine DOp.op1 rfl (OpTo.new rfl rfl (New.alloc tabOk rfl rfl)) ?_
          intro b9
          refine DR.c 8 ?_
          refine DOp.op1 rfl (OpTo.new rfl rfl (New.alloc tabOk rfl rfl)) ?_
          intro b10
          refine DR.c 9 ?_
          refine DOp.op1 rfl (OpTo.setAll tabOk rfl rfl rfl rfl rfl p1 o1 rfl) (fun _ => ?_)
          refine DR.c 10 ?_
          refine DOp.op1 rfl (OpTo.setAll tabOk rfl rfl rfl rfl rfl p1 q2 rfl) (fun _ => ?_)
          refine DR.done (by kernel_rfl) ?_
          exact RQ.toP (b9, b10) ⟨rfl, rfl, rfl, rfl, rfl, rfl, rfl, rfl, trivial⟩ p1 (List.Sublist.refl _)
        · refine DOp.op1 rfl (OpTo.new rfl rfl (New.alloc tabOk rfl rfl)) ?_
          intro b10
          refine DR.c 7 ?_
          refine DOp.op1 rfl (OpTo.new rfl rfl (New.alloc tabOk rfl rfl)) ?_
          intro b9
          refine DR.c 9 ?_
          refine DOp.op1 rfl (OpTo.setAll tabOk rfl rfl rfl rfl rfl (List.Perm.refl _) o1 rfl) (fun _ => ?_)
          refine DR.c 10 ?_
          refine DOp.op1 rfl (OpTo.setAll tabOk rfl rfl rfl rfl rfl p1 q2 rfl) (fun _ => ?_)
          refine DR.done (by kernel_rfl) ?_
          exact RQ.toP (b9, b10) ⟨rfl, rfl, rfl, rfl, rfl, rfl, rfl, rfl, trivial⟩ p1 (List.Sublist.refl _)
      · refine DOp.op1 rfl (OpTo.new rfl rfl (New.alloc tabOk rfl rfl)) ?_
        intro b9
        refine DR.two (i := 3) (j := 8) (by kernel_rfl) ?_ ?_
        · refine DOp.op1 rfl (OpTo.callV Tryz.func106 rfl rfl rfl rfl rfl rfl (fun w' _ => ref_MarkOf_calls _ q1 q3 w')) (fun _ => ?_)
          refine DR.c 8 ?_
          refine DOp.op1 rfl (OpTo.new rfl rfl (New.alloc tabOk rfl rfl)) ?_
          intro b10
          refine DR.c 9 ?_
          refine DOp.op1 rfl (OpTo.setAll tabOk rfl rfl rfl rfl rfl p1 o1 rfl) (fun _ => ?_)
          refine DR.c 10 ?_
          refine DOp.op1 rfl (OpTo.setAll tabOk rfl rfl rfl rfl rfl p1 q2 rfl) (fun _ => ?_)
          refine DR.done (by kernel_rfl) ?_
          exact RQ.toP (b9, b10) ⟨rfl, rfl, rfl, rfl, rfl, rfl, rfl, rfl, trivial⟩ p1 (List.Sublist.refl _)
        · refine DOp.op1 rfl (OpTo.new rfl rfl (New.alloc tabOk rfl rfl)) ?_
          intro b10
          refine DR.c 3 ?_
          refine DOp.op1 rfl (OpTo.callV Tryz.func106 rfl rfl rfl rfl rfl rfl (fun w' _ => ref_MarkOf_calls _ q1 q3 w')) (fun _ => ?_)
          refine DR.c 9 ?_
          refine DOp.op1 rfl (OpTo.setAll tabOk rfl rfl rfl rfl rfl p1 o1 rfl) (fun _ => ?_)
          refine DR.c 10 ?_
          refine DOp.op1 rfl (OpTo.setAll tabOk rfl rfl rfl rfl rfl p1 q2 rfl) (fun _ => ?_)
          refine DR.done (by kernel_rfl) ?_
          exact RQ.toP (b9, b10) ⟨rfl, rfl, rfl, rfl, rfl, rfl, rfl, rfl, trivial⟩ p1 (List.Sublist.refl _)
      · refine DOp.op1 rfl (OpTo.new rfl rfl (New.alloc tabOk rfl rfl)) ?_
        intro b10
        refine DR.two (i := 3) (j := 7) (by kernel_rfl) ?_ ?_
        · refine DOp.op1 rfl (OpTo.callV Tryz.func106 rfl rfl rfl rfl rfl rfl (fun w' _ => ref_MarkOf_calls _ q1 q3 w')) (fun _ => ?_)
          refine DR.c 7 ?_
          refine DOp.op1 rfl (OpTo.new rfl rfl (New.alloc tabOk rfl rfl)) ?_
          intro b9
          refine DR.c 9 ?_
          refine DOp.op1 rfl (OpTo.setAll tabOk rfl rfl rfl rfl rfl (List.Perm.refl _) o1 rfl) (fun _ => ?_)
          refine DR.c 10 ?_
          refine DOp.op1 rfl (OpTo.setAll tabOk rfl rfl rfl rfl rfl p1 q2 rfl) (fun _ => ?_)
          refine DR.done (by kernel_rfl) ?_
          exact RQ.toP (b9, b10) ⟨rfl, rfl, rfl, rfl, rfl, rfl, rfl, rfl, trivial⟩ p1 (List.Sublist.refl _)
        · refine DOp.op1 rfl (OpTo.new rfl rfl (New.alloc tabOk rfl rfl)) ?_
          intro b9
          refine DR.c 3 ?_
          refine DOp.op1 rfl (OpTo.callV Tryz.func106 rfl rfl rfl rfl rfl rfl (fun w' _ => ref_MarkOf_calls _ q1 q3 w')) (fun _ => ?_)
          refine DR.c 9 ?_
          refine DOp.op1 rfl (OpTo.setAll tabOk rfl rfl rfl rfl rfl (List.Perm.refl _) o1 rfl) (fun _ => ?_)
          refine DR.c 10 ?_
          refine DOp.op1 rfl (OpTo.setAll tabOk rfl rfl rfl rfl rfl p1 q2 rfl) (fun _ => ?_)
          refine DR.done (by kernel_rfl) ?_
          exact RQ.toP (b9, b10) ⟨rfl, rfl, rfl, rfl, rfl, rfl, rfl, rfl, trivial⟩ p1 (List.Sublist.refl _)
    obtain ⟨b9, b10⟩ := y
    dsimp only
    (repeat refine RC.seq ?_); refine RC.region ?_
    refine Run.a (Val.loadU tabOk rfl rfl rfl rfl (List.mem_cons_of_mem _ (List.mem_cons_of_mem _ (List.mem_append_right _ m3))) hm8) ?_
    refine Run.a (Val.of rfl) ?_
    refine Run.callV Tryz.func105 rfl rfl rfl rfl rfl rfl rfl (fun w' _ => ref_bit_calls m hm8 hmlt i (by omega) w') ?_
    refine Run.a (Val.eq (Val.of rfl) (show _ = Value.bool (decide (bitOf m i = 1)) from congrArg Value.bool (by rw [Bool.eq_iff_iff, beq_iff_eq, decide_eq_true_iff]; omega))) ?_
    refine Run.nil (RQ.next ?_)
    refine RC.thenCut (Y := Unit) (fun _ => [(9, .pointer (some ⟨b9, 0, none⟩)), (10, .pointer (some ⟨b10, 0, none⟩)), (8, .int .i64 i), (7, v7), (3, .pointer (some ⟨b3, 0, none⟩)), (4, .pointer (some ⟨b4, 0, none⟩)), (5, .pointer (some ⟨b5, 0, none⟩)), (6, .pointer (some ⟨b6, 0, none⟩))])
      (fun _ => (b9, .cells (u8s (if bitOf m i = 1 then ps else markH po)).toArray 32 (0, 0)) :: (b10, .cells (u8s (if bitOf m i = 1 then markH po else ps)).toArray 32 (0, 0)) :: (bl7 ++ [(b6, .cells ti32.zero.cells 32 (0, 0)), (b5, .cells (u8s sh).toArray 88 (0, 0)), (b4, .cells (u8s op).toArray 88 (0, 0)), (b3, .cells (u8s m).toArray 32 (0, 0))])) ?_ (fun _ => ?_)
    · (repeat refine RC.seq ?_); refine RC.cond rfl (fun h => ?_) (fun h => ?_)
      · have h1 := of_decide_eq_true h
        rw [if_pos h1, if_pos h1]
        refine RC.region ?_
        refine Run.a (Val.loadU tabOk rfl rfl rfl rfl m1 q2) ?_
        refine Run.a (Val.loadU tabOk rfl rfl rfl rfl m0 o1) ?_
        refine Run.op1 (OpTo.setAll tabOk rfl rfl rfl rfl rfl (List.Perm.refl _) q2 (by simp [u8s_len, o1]; rfl)) (fun _ => ?_)
        refine Run.op1 (OpTo.setAll tabOk rfl rfl rfl rfl rfl p1 o1 (by simp [u8s_len, q2]; rfl)) (fun _ => ?_)
        exact Run.nil (RQ.toP () ⟨rfl, rfl, rfl, rfl, rfl, rfl, rfl, rfl, trivial⟩ p1 (List.Sublist.refl _))
      · have h1 := of_decide_eq_false h
        rw [if_neg h1, if_neg h1]
        exact RC.skip (RQ.to () ⟨rfl, rfl, rfl, rfl, rfl, rfl, rfl, rfl, trivial⟩ (List.Sublist.refl _))
    have x1l : (if bitOf m i = 1 then ps else markH po).length = 8 := by split <;> assumption
    have x2l : (if bitOf m i = 1 then markH po else ps).length = 8 := by split <;> assumption
    generalize (if bitOf m i = 1 then ps else markH po) = x1 at *
    generalize (if bitOf m i = 1 then markH po else ps) = x2 at *
    (repeat refine RC.seq ?_); refine RC.draw [] mixed (N := 6) rfl ?_
    refine DR.t 0 rfl (Val.of rfl) ?_
    refine DR.t 1 rfl (Val.sliceA tabOk rfl rfl rfl rfl rfl) ?_
    refine DR.t 3 rfl (Val.sliceA tabOk rfl rfl rfl rfl rfl) ?_
    refine DR.one (i := 2) (by kernel_rfl) (DOp.op rfl (Wanted.plain rfl) (OpTo.append tabOk hown (Src.at ⟨b9, 0, none⟩ 8 8 (u8s x1) (by rw [u8s_len, x1l]; rfl) (Rd.rowAll m0)) rfl rfl rfl rfl rfl rfl rfl rfl rfl (List.perm_append_comm_assoc [_, _] bl7 _) (u8s_one _) (by unfold maxLen; omega) (by simp only [ti5]; omega)) (.inl fun _ => List.nil_sublist _) ?_)
    rintro ⟨⟨v8, bl8⟩, hown8⟩
    refine DR.one (i := 4) (by kernel_rfl) (DOp.op rfl (Wanted.plain rfl) (OpTo.append tabOk hown8 (Src.at ⟨b10, 0, none⟩ 8 8 (u8s x2) (by rw [u8s_len, x2l]; rfl) (Rd.rowAll (List.mem_append_right _ m1))) rfl rfl rfl rfl rfl rfl rfl rfl rfl (List.Perm.refl _) (u8s_one _) (by unfold maxLen; omega) (by simp only [ti5]; omega)) (.inl fun _ => List.nil_sublist _) ?_)
    rintro ⟨⟨v9, bl9⟩, hown9⟩
    refine DR.c 5 ?_
    refine DOp.vl rfl (Val.of rfl) ?_
    refine DR.done (by kernel_rfl) (RQ.blockNormal (RQ.next ?_))
    refine RC.region ?_
    repeat (first | refine Run.a Val.ra ?_ | refine Run.a (Val.of rfl) ?_)
    refine Run.nil (RQ.up (i + 1) (v9, bl9) (Nat.lt_succ_self _) hi' ?_ ⟨rfl, rfl, rfl, rfl, rfl, rfl, trivial⟩ (List.Sublist.append (List.Sublist.refl _) (List.Sublist.cons _ (List.Sublist.cons _ (List.Sublist.refl _)))))
    have h := hown9
    rw [← u8s_app, ← u8s_app, List.append_assoc, ← et, ← e1, show 16 * i + 8 + 8 = 16 * (i + 1) by omega] at h
    exact h
  · have hi' : i = 16 := by have := of_decide_eq_false h; omega
    subst hi'
    have hl : (rowOf (turnd m op sh) 16).length = 256 := by have := hown.len; rwa [u8s_len, Nat.mul_one] at this
    have hlt := rowOf_lt (fun i => turnd_lt (m := m) (op := op) hshlt i) 16
    have hd : (pubBy m op sh).length = 8 := digest_len _ _
    have e : digest 107 [rowOf (turnd m op sh) 16] = pubBy m op sh := rfl
    generalize rowOf (turnd m op sh) 16 = l at *
    (repeat refine RQ.thenExit ?_); refine RQ.blockHere ?_
    refine RQ.next ?_
    obtain ⟨a, c, rfl, hc⟩ := hown.shape
    (repeat refine RC.seq ?_); refine RC.region ?_
    refine Run.a (Val.of rfl) ?_
    refine Run.nw (New.buildSlice tabOk (parts := [(0, .tmp 33)]) (cells := [Value.slice a (16 * 16) c].toArray) rfl rfl rfl rfl rfl rfl (fillS_full 1 1 _ [Value.slice a (16 * 16) c] rfl (by simp [Value.cells]))) ?_
    intro b22
    refine Run.callV Tryz.func43 rfl rfl rfl rfl rfl rfl rfl (fun w' hm => Digest_calls 107 (by decide) _ _ [l] w' (SrcW.row hm m0 rfl (Nat.le_refl 1)) (parts1' (u := .slice a (16 * 16) c) (by rw [hl]; exact hown.srcW (fun q hq => hm.has q (List.mem_cons_of_mem _ (List.mem_append_left _ hq))))) (by simp [tot, hl]) (by simpa using hlt)) ?_
    rw [e]
    generalize pubBy m op sh = dg at *
    refine Run.op1 (OpTo.setAll (L' := _ :: (bl7 ++ _)) tabOk rfl rfl rfl rfl rfl ((List.Perm.cons _ List.perm_middle).trans p1) hd rfl) (fun _ => ?_)
    refine Run.nil (RQ.next ?_)
    refine RC.ret ?_; (repeat first | refine RQ.thenRet ?_ | refine RQ.blockRet ?_)
    exact RQ.ret1 rfl (Res.cellU tabOk rfl rfl rfl m0 hd) fun w' hm => ⟨rfl, hm.fr⟩
end Go.Proofs.YtkkfaffehbjdgaaGreatDoor
end
