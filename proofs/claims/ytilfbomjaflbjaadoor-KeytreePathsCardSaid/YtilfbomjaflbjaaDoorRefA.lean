/- The reference's keys that sign once: Secret, MarkOf, bit, Sign, Public. -/
import Derived.Test.YtilfbomjaflbjaaDoorRefT
import Derived.Test.YtilfbomjaflbjaaDoorLam0
namespace Go.Proofs.YtilfbomjaflbjaaDoor
open Go Go.Vc Go.Sha

theorem parts1' {w : World} {u : Value} {a : List Nat} (hu : SrcW w 1 u a.length (u8s a)) : Parts w [u] [a] :=
  ⟨rfl, fun i h h' => by
    match i, h with
    | 0, _ => exact hu⟩

set_option maxRecDepth 10000 in
theorem ref_Secret_calls (seed : List Nat) (hs : seed.length = 8) (hlt : ∀ x ∈ seed, x < 256) (z : Int) (ib i b : Nat) (hz : z % 256 = (ib : Int)) (hi : i < 256) (hb : b < 256) (w : World) :
    Gives Tryd.prog 58 [.agg (u8s seed).toArray, .int .i64 z, .int .i64 i, .int .i64 b] (.agg (u8s (digest 115 [seed, [ib, i, b, 0]])).toArray) w := by
  have hib : ib < 256 := by omega
  refine enter Tryd.func58 rfl (Mem.nil w []) rfl ?_
  (repeat refine RC.seq ?_); refine RC.region ?_
  refine Run.mk rfl rfl rfl (New.boxA rfl rfl) ?_
  intro b4
  refine Run.mk rfl rfl rfl (New.alloc tabOk rfl rfl) ?_
  intro b8
  refine Run.nil (RQ.next ?_)
  (repeat refine RC.seq ?_); refine RC.region ?_
  refine Run.v rfl rfl rfl (Val.eq (Val.sliceA tabOk rfl rfl rfl rfl rfl) (show _ = Value.slice (some ⟨b4, 0, none⟩) seed.length seed.length from by rw [hs])) ?_
  refine Run.v rfl rfl rfl (Val.of rfl) ?_
  refine Run.v rfl rfl rfl (Val.eq (Val.conv tabOk rfl rfl rfl rfl rfl rfl) (show _ = Value.int .u8 (ib : Int) from congrArg (Value.int .u8) (by rw [wrap_u8]; exact hz))) ?_
  refine Run.v rfl rfl rfl (Val.of rfl) ?_
  refine Run.v rfl rfl rfl (Val.convIn tabOk rfl rfl rfl rfl rfl rfl (by simp only [inK]; omega)) ?_
  refine Run.v rfl rfl rfl (Val.of rfl) ?_
  refine Run.v rfl rfl rfl (Val.convIn tabOk rfl rfl rfl rfl rfl rfl (by simp only [inK]; omega)) ?_
  refine Run.mk rfl rfl rfl (New.buildSlice tabOk (parts := [(0, .tmp 11), (1, .tmp 13), (2, .tmp 15), (3, .const (.int .u8 0))]) (cells := (u8s [ib, i, b, 0]).toArray) rfl rfl rfl rfl rfl rfl (fillS_full 1 4 _ [.int .u8 _, .int .u8 _, .int .u8 _, .int .u8 _] rfl (by simp [Value.cells]))) ?_
  intro b16
  refine Run.mk rfl rfl rfl (New.buildSlice tabOk (parts := [(0, .tmp 9), (1, .tmp 16)]) (cells := [Value.slice (some ⟨b4, 0, none⟩) seed.length seed.length, Value.slice (some ⟨b16, 0, none⟩) 4 4].toArray) rfl rfl rfl rfl rfl rfl (fillS_full 1 2 _ [Value.slice (some ⟨b4, 0, none⟩) seed.length seed.length, Value.slice (some ⟨b16, 0, none⟩) 4 4] rfl (by simp [Value.cells]))) ?_
  intro b17
  refine Run.callV Tryd.func44 rfl rfl rfl rfl rfl rfl rfl (fun w' hm => Digest_calls 115 (by decide) _ _ [seed, [ib, i, b, 0]] w' (SrcW.row hm m0 rfl (Nat.le_refl 2)) (parts2 (u := .slice (some ⟨b4, 0, none⟩) seed.length seed.length) (v := .slice (some ⟨b16, 0, none⟩) 4 4) (SrcW.row hm m3 (by simp [u8s_len]) (Nat.le_refl _)) (SrcW.row hm m1 rfl (Nat.le_refl 4))) (by simp [tot, hs]) ?_) ?_
  · intro l hl x hx
    simp only [List.mem_cons, List.not_mem_nil, or_false] at hl
    rcases hl with rfl | rfl
    · exact hlt x hx
    · simp only [List.mem_cons, List.not_mem_nil, or_false] at hx
      omega
  have hd := digest_len 115 [seed, [ib, i, b, 0]]
  generalize digest 115 [seed, [ib, i, b, 0]] = dg at *
  refine Run.op rfl (OpTo.setAll tabOk rfl rfl rfl rfl rfl p2 hd rfl) (fun _ => ?_)
  refine Run.nil (RQ.next ?_)
  refine RC.ret ?_; (repeat first | refine RQ.thenRet ?_ | refine RQ.blockRet ?_)
  exact RQ.ret1 rfl (Res.cellU tabOk rfl rfl rfl m0 hd) fun w' hm => ⟨rfl, hm.fr⟩

set_option maxRecDepth 10000 in
theorem ref_MarkOf_calls (h : List Nat) (hs : h.length = 8) (hlt : ∀ x ∈ h, x < 256) (w : World) :
    Gives Tryd.prog 42 [.agg (u8s h).toArray] (.agg (u8s (markH h)).toArray) w := by
  refine enter Tryd.func42 rfl (Mem.nil w []) rfl ?_
  (repeat refine RC.seq ?_); refine RC.region ?_
  refine Run.mk rfl rfl rfl (New.boxA rfl rfl) ?_
  intro b1
  refine Run.mk rfl rfl rfl (New.alloc tabOk rfl rfl) ?_
  intro b2
  refine Run.nil (RQ.next ?_)
  (repeat refine RC.seq ?_); refine RC.region ?_
  refine Run.v rfl rfl rfl (Val.eq (Val.sliceA tabOk rfl rfl rfl rfl rfl) (show _ = Value.slice (some ⟨b1, 0, none⟩) h.length h.length from by rw [hs])) ?_
  refine Run.mk rfl rfl rfl (New.buildSlice tabOk (parts := [(0, .tmp 3)]) (cells := [Value.slice (some ⟨b1, 0, none⟩) h.length h.length].toArray) rfl rfl rfl rfl rfl rfl (fillS_full 1 1 _ [Value.slice (some ⟨b1, 0, none⟩) h.length h.length] rfl (by simp [Value.cells]))) ?_
  intro b4
  refine Run.callV Tryd.func44 rfl rfl rfl rfl rfl rfl rfl (fun w' hm => Digest_calls 112 (by decide) _ _ [h] w' (SrcW.row hm m0 rfl (Nat.le_refl 1)) (parts1' (u := .slice (some ⟨b1, 0, none⟩) h.length h.length) (SrcW.row hm m2 (by simp [u8s_len]) (Nat.le_refl _))) (by simp [tot, hs]) (by simpa using hlt)) ?_
  have hd := mark_len h
  rw [show digest 112 [h] = markH h from rfl]
  generalize markH h = dg at *
  refine Run.op rfl (OpTo.setAll tabOk rfl rfl rfl rfl rfl p1 hd rfl) (fun _ => ?_)
  refine Run.nil (RQ.next ?_)
  refine RC.ret ?_; (repeat first | refine RQ.thenRet ?_ | refine RQ.blockRet ?_)
  exact RQ.ret1 rfl (Res.cellU tabOk rfl rfl rfl m0 hd) fun w' hm => ⟨rfl, hm.fr⟩

set_option maxRecDepth 10000 in
theorem ref_bit_calls (m : List Nat) (hm8 : m.length = 8) (hlt : ∀ x ∈ m, x < 256) (i : Nat) (hi : i < 64) (w : World) :
    Gives Tryd.prog 43 [.agg (u8s m).toArray, .int .i64 i] (.int .i64 (bitOf m i : Nat)) w := by
  refine enter Tryd.func43 rfl (Mem.nil w []) rfl ?_
  have hx := getD_lt hlt (i / 8)
  have hat := u8s_arr m (i / 8) (by omega)
  unfold bitOf
  generalize m.getD (i / 8) 0 = x at *
  (repeat refine RC.seq ?_); refine RC.region ?_
  refine Run.mk rfl rfl rfl (New.boxA rfl rfl) ?_
  intro b2
  refine Run.v rfl rfl rfl (Val.of rfl) ?_
  refine Run.nil (RQ.next ?_)
  (repeat refine RC.seq ?_); refine RC.region ?_
  refine Run.v rfl rfl rfl (Val.of rfl) ?_
  refine Run.v rfl rfl rfl (Val.quoN rfl rfl rfl rfl (by decide) (by simp only [inK]; omega)) ?_
  refine Run.v rfl rfl rfl (Val.ix tabOk (i / 8) (off' := i / 8) rfl rfl rfl rfl rfl rfl rfl (by omega) (by simp [ti5])) ?_
  refine Run.v rfl rfl rfl (Val.load tabOk rfl rfl rfl m0 hat) ?_
  refine Run.v rfl rfl rfl (Val.convIn tabOk rfl rfl rfl rfl rfl rfl (by simp only [inK]; omega)) ?_
  refine Run.v rfl rfl rfl (Val.of rfl) ?_
  refine Run.v rfl rfl rfl (Val.remN rfl rfl rfl rfl (by decide)) ?_
  refine Run.v rfl rfl rfl (Val.convIn tabOk rfl rfl rfl rfl rfl rfl (by simp only [inK]; omega)) ?_
  refine Run.v rfl rfl rfl (Val.shr (m := i % 8) rfl rfl rfl (by show _ ≤ 64; omega)) ?_
  refine Run.v rfl rfl rfl (Val.and1 rfl rfl rfl (Nat.lt_of_le_of_lt (Nat.div_le_self _ _) hx)) ?_
  refine Run.v rfl rfl rfl (Val.of rfl) ?_
  refine Run.nil (RQ.next ?_)
  refine RC.ret ?_; (repeat first | refine RQ.thenRet ?_ | refine RQ.blockRet ?_); exact RQ.ret1 rfl (Res.tmp rfl) fun w' hm => ⟨rfl, hm.fr⟩

theorem zrow (f : Nat → List Nat) (c i n : Nat) (hf : ∀ i, (f i).length = c) (hi : i < n) : rowOf f i ++ List.replicate ((n - i) * c) 0 = rowOf f i ++ List.replicate (f i).length 0 ++ List.replicate ((n - (i + 1)) * c) 0 := by
  rw [List.append_assoc, List.replicate_append_replicate, hf]
  congr 2
  rw [show n - i = n - (i + 1) + 1 by omega, Nat.succ_mul, Nat.add_comm]

set_option maxRecDepth 10000 in
theorem ref_Sign_calls (seed m : List Nat) (hs : seed.length = 8) (hlt : ∀ x ∈ seed, x < 256) (hm8 : m.length = 8) (hmlt : ∀ x ∈ m, x < 256) (z : Int) (ib : Nat) (hz : z % 256 = (ib : Int)) (w : World) :
    Gives Tryd.prog 35 [.agg (u8s seed).toArray, .int .i64 z, .agg (u8s m).toArray] (.tuple #[.agg (u8s (rowOf (opened seed ib m) 16)).toArray, .agg (u8s (rowOf (shutd seed ib m) 16)).toArray]) w := by
  refine enter Tryd.func35 rfl (Mem.nil w []) rfl ?_
  have hol := opened_len seed ib m
  have hsl := shutd_len seed ib m
  (repeat refine RC.seq ?_); refine RC.region ?_
  refine Run.mk rfl rfl rfl (New.boxA rfl rfl) ?_
  intro b3
  refine Run.mk rfl rfl rfl (New.boxA rfl rfl) ?_
  intro b5
  refine Run.mk rfl rfl rfl (New.allocTo tabOk (cs := (u8s (List.replicate 128 0)).toArray) rfl rfl (by kernel_rfl)) ?_
  intro b6
  refine Run.mk rfl rfl rfl (New.allocTo tabOk (cs := (u8s (List.replicate 128 0)).toArray) rfl rfl (by kernel_rfl)) ?_
  intro b7
  refine Run.nil (RQ.next ?_)
  (repeat refine RC.seq ?_); refine RC.region ?_
  refine Run.mk rfl rfl rfl (New.allocTo tabOk (cs := (u8s (rowOf (opened seed ib m) 0 ++ List.replicate ((16 - 0) * 8) 0)).toArray) rfl rfl (by kernel_rfl)) ?_
  intro b8
  refine Run.mk rfl rfl rfl (New.allocTo tabOk (cs := (u8s (rowOf (shutd seed ib m) 0 ++ List.replicate ((16 - 0) * 8) 0)).toArray) rfl rfl (by kernel_rfl)) ?_
  intro b9
  refine Run.nil (RQ.next ?_)
  (repeat refine RC.seq ?_); refine RC.region ?_
  refine Run.v rfl rfl rfl (Val.of rfl) ?_
  refine Run.nil (RQ.next ?_)
  (repeat refine RC.seq ?_); refine RC.block ?_
  refine RC.up 16 (D := Unit) (fun _ _ => True)
    (fun i _ => [(10, .int .i64 i), (8, .pointer (some ⟨b8, 0, none⟩)), (9, .pointer (some ⟨b9, 0, none⟩)), (1, .int .i64 z), (3, .pointer (some ⟨b3, 0, none⟩)), (5, .pointer (some ⟨b5, 0, none⟩)), (6, .pointer (some ⟨b6, 0, none⟩)), (7, .pointer (some ⟨b7, 0, none⟩))])
    (fun i _ => [(b9, .cells (u8s (rowOf (shutd seed ib m) i ++ List.replicate ((16 - i) * 8) 0)).toArray 27 (0, 0)), (b8, .cells (u8s (rowOf (opened seed ib m) i ++ List.replicate ((16 - i) * 8) 0)).toArray 27 (0, 0)), (b7, .cells (u8s (List.replicate 128 0)).toArray 27 (0, 0)), (b6, .cells (u8s (List.replicate 128 0)).toArray 27 (0, 0)), (b5, .cells (u8s m).toArray 23 (0, 0)), (b3, .cells (u8s seed).toArray 23 (0, 0))])
    0 () (Nat.zero_le _) trivial ⟨rfl, rfl, rfl, rfl, rfl, rfl, rfl, rfl, trivial⟩ (List.Sublist.refl _) ?_
  intro i _ hi _
  (repeat refine RC.seq ?_); refine RC.region ?_
  repeat (refine Run.v rfl rfl rfl (Val.of rfl) ?_)
  refine Run.nil (RQ.next ?_)
  (repeat refine RC.seq ?_); refine RC.wh rfl (fun h => RQ.next ?_) (fun h => ?_)
  · have hi' : i < 16 := by have := of_decide_eq_true h; omega
    clear h
    have hb := bitOf_lt m i
    have z1 := zrow (opened seed ib m) 8 i 16 hol hi'
    have z2 := zrow (shutd seed ib m) 8 i 16 hsl hi'
    have l1 := rowOf_len hol i
    have l2 := rowOf_len hsl i
    have e1 : rowOf (opened seed ib m) (i + 1) = rowOf (opened seed ib m) i ++ opened seed ib m i := rfl
    have e2 : rowOf (shutd seed ib m) (i + 1) = rowOf (shutd seed ib m) i ++ shutd seed ib m i := rfl
    have d1 : opened seed ib m i = digest 115 [seed, [ib, i, bitOf m i, 0]] := rfl
    have d2 : shutd seed ib m i = markH (digest 115 [seed, [ib, i, 1 - bitOf m i, 0]]) := rfl
    have o1 := hol i
    have o2 := hsl i
    (repeat refine RC.seq ?_); refine RC.block ?_
    rw [z1, z2]
    generalize rowOf (opened seed ib m) i = ro at *
    generalize rowOf (shutd seed ib m) i = rs at *
    (repeat refine RC.seq ?_); refine RC.drawS mixed (N := 10) rfl ?_
    refine DR.take 0 rfl (by repeat (first | exact List.nil_sublist _ | exact List.Sublist.refl _ | apply List.Sublist.cons_cons | apply List.Sublist.cons)) inferInstance (by kernel_rfl) (by kernel_rfl) (by kernel_rfl) (by kernel_rfl) rfl rfl (Wanted.plain rfl) (Val.of rfl) ?_
    refine DR.take 1 rfl (by repeat (first | exact List.nil_sublist _ | exact List.Sublist.refl _ | apply List.Sublist.cons_cons | apply List.Sublist.cons)) inferInstance (by kernel_rfl) (by kernel_rfl) (by kernel_rfl) (by kernel_rfl) rfl rfl (Wanted.plain rfl) (Val.loadU tabOk rfl rfl rfl rfl m5 hs) ?_
    refine DR.take 2 rfl (by repeat (first | exact List.nil_sublist _ | exact List.Sublist.refl _ | apply List.Sublist.cons_cons | apply List.Sublist.cons)) inferInstance (by kernel_rfl) (by kernel_rfl) (by kernel_rfl) (by kernel_rfl) rfl rfl (Wanted.plain rfl) (Val.of rfl) ?_
    refine DR.take 3 rfl (by repeat (first | exact List.nil_sublist _ | exact List.Sublist.refl _ | apply List.Sublist.cons_cons | apply List.Sublist.cons)) inferInstance (by kernel_rfl) (by kernel_rfl) (by kernel_rfl) (by kernel_rfl) rfl rfl (Wanted.plain rfl) (Val.of rfl) ?_
    refine DR.take 4 rfl (by repeat (first | exact List.nil_sublist _ | exact List.Sublist.refl _ | apply List.Sublist.cons_cons | apply List.Sublist.cons)) inferInstance (by kernel_rfl) (by kernel_rfl) (by kernel_rfl) (by kernel_rfl) rfl rfl (Wanted.plain rfl) (Val.loadU tabOk rfl rfl rfl rfl m4 hm8) ?_
    refine DR.take 5 rfl (by repeat (first | exact List.nil_sublist _ | exact List.Sublist.refl _ | apply List.Sublist.cons_cons | apply List.Sublist.cons)) inferInstance (by kernel_rfl) (by kernel_rfl) (by kernel_rfl) (by kernel_rfl) rfl rfl (Wanted.plain rfl) (Val.of rfl) ?_
    refine DR.one (i := 6) (by kernel_rfl) ?_
    refine DOp.op rfl (Wanted.plain rfl) (OpTo.callV Tryd.func43 rfl rfl rfl rfl rfl rfl (fun w' _ => ref_bit_calls m hm8 hmlt i (by omega) w')) (.inl fun _ => by repeat (first | exact List.nil_sublist _ | exact List.Sublist.refl _ | apply List.Sublist.cons_cons | apply List.Sublist.cons)) (fun _ => ?_)
    refine DR.one (i := 7) (by kernel_rfl) ?_
    refine DOp.op rfl (Wanted.plain rfl) (OpTo.callV Tryd.func58 rfl rfl rfl rfl rfl rfl (fun w' _ => ref_Secret_calls seed hs hlt z ib i (bitOf m i) hz (by omega) (by omega) w')) (.inl fun _ => by repeat (first | exact List.nil_sublist _ | exact List.Sublist.refl _ | apply List.Sublist.cons_cons | apply List.Sublist.cons)) (fun _ => ?_)
    rw [← d1]
    refine DR.take 8 rfl (by repeat (first | exact List.nil_sublist _ | exact List.Sublist.refl _ | apply List.Sublist.cons_cons | apply List.Sublist.cons)) inferInstance (by kernel_rfl) (by kernel_rfl) (by kernel_rfl) (by kernel_rfl) rfl rfl (Wanted.plain rfl) (Val.ix tabOk i (off' := i * 8) rfl rfl rfl rfl rfl rfl rfl hi' (by simp [ti23])) ?_
    refine DR.one (i := 9) (by kernel_rfl) ?_
    refine DOp.op rfl (Wanted.plain rfl) (OpTo.setU tabOk ro (List.replicate (opened seed ib m i).length 0) (opened seed ib m i) (List.replicate ((16 - (i + 1)) * 8) 0) rfl rfl rfl rfl rfl p1 rfl l1.symm (by simp) o1) (.inr (by kernel_rfl)) (fun _ => ?_)
    refine DR.done (by kernel_rfl) (RQ.next ?_)
    (repeat refine RC.seq ?_); refine RC.drawS mixed (N := 12) rfl ?_
    refine DR.take 0 rfl (by repeat (first | exact List.nil_sublist _ | exact List.Sublist.refl _ | apply List.Sublist.cons_cons | apply List.Sublist.cons)) inferInstance (by kernel_rfl) (by kernel_rfl) (by kernel_rfl) (by kernel_rfl) rfl rfl (Wanted.plain rfl) (Val.of rfl) ?_
    refine DR.take 1 rfl (by repeat (first | exact List.nil_sublist _ | exact List.Sublist.refl _ | apply List.Sublist.cons_cons | apply List.Sublist.cons)) inferInstance (by kernel_rfl) (by kernel_rfl) (by kernel_rfl) (by kernel_rfl) rfl rfl (Wanted.plain rfl) (Val.loadU tabOk rfl rfl rfl rfl m5 hs) ?_
    refine DR.take 2 rfl (by repeat (first | exact List.nil_sublist _ | exact List.Sublist.refl _ | apply List.Sublist.cons_cons | apply List.Sublist.cons)) inferInstance (by kernel_rfl) (by kernel_rfl) (by kernel_rfl) (by kernel_rfl) rfl rfl (Wanted.plain rfl) (Val.of rfl) ?_
    refine DR.take 3 rfl (by repeat (first | exact List.nil_sublist _ | exact List.Sublist.refl _ | apply List.Sublist.cons_cons | apply List.Sublist.cons)) inferInstance (by kernel_rfl) (by kernel_rfl) (by kernel_rfl) (by kernel_rfl) rfl rfl (Wanted.plain rfl) (Val.of rfl) ?_
    refine DR.take 4 rfl (by repeat (first | exact List.nil_sublist _ | exact List.Sublist.refl _ | apply List.Sublist.cons_cons | apply List.Sublist.cons)) inferInstance (by kernel_rfl) (by kernel_rfl) (by kernel_rfl) (by kernel_rfl) rfl rfl (Wanted.plain rfl) (Val.loadU tabOk rfl rfl rfl rfl m4 hm8) ?_
    refine DR.take 5 rfl (by repeat (first | exact List.nil_sublist _ | exact List.Sublist.refl _ | apply List.Sublist.cons_cons | apply List.Sublist.cons)) inferInstance (by kernel_rfl) (by kernel_rfl) (by kernel_rfl) (by kernel_rfl) rfl rfl (Wanted.plain rfl) (Val.of rfl) ?_
    refine DR.one (i := 6) (by kernel_rfl) ?_
    refine DOp.op rfl (Wanted.plain rfl) (OpTo.callV Tryd.func43 rfl rfl rfl rfl rfl rfl (fun w' _ => ref_bit_calls m hm8 hmlt i (by omega) w')) (.inl fun _ => by repeat (first | exact List.nil_sublist _ | exact List.Sublist.refl _ | apply List.Sublist.cons_cons | apply List.Sublist.cons)) (fun _ => ?_)
    refine DR.take 7 rfl (by repeat (first | exact List.nil_sublist _ | exact List.Sublist.refl _ | apply List.Sublist.cons_cons | apply List.Sublist.cons)) inferInstance (by kernel_rfl) (by kernel_rfl) (by kernel_rfl) (by kernel_rfl) rfl rfl (Wanted.plain rfl) (Val.eq (Val.ar rfl rfl rfl rfl (by dsimp only [inK]; omega)) (show _ = Value.int .i64 ((1 - bitOf m i : Nat) : Int) from by congr 1; omega)) ?_
    refine DR.one (i := 8) (by kernel_rfl) ?_
    refine DOp.op rfl (Wanted.plain rfl) (OpTo.callV Tryd.func58 rfl rfl rfl rfl rfl rfl (fun w' _ => ref_Secret_calls seed hs hlt z ib i (1 - bitOf m i) hz (by omega) (by omega) w')) (.inl fun _ => by repeat (first | exact List.nil_sublist _ | exact List.Sublist.refl _ | apply List.Sublist.cons_cons | apply List.Sublist.cons)) (fun _ => ?_)
    refine DR.one (i := 9) (by kernel_rfl) ?_
    refine DOp.op rfl (Wanted.plain rfl) (OpTo.callV Tryd.func42 rfl rfl rfl rfl rfl rfl (fun w' _ => ref_MarkOf_calls _ (digest_len _ _) (digest_lt _ _) w')) (.inl fun _ => by repeat (first | exact List.nil_sublist _ | exact List.Sublist.refl _ | apply List.Sublist.cons_cons | apply List.Sublist.cons)) (fun _ => ?_)
    rw [← d2]
    refine DR.take 10 rfl (by repeat (first | exact List.nil_sublist _ | exact List.Sublist.refl _ | apply List.Sublist.cons_cons | apply List.Sublist.cons)) inferInstance (by kernel_rfl) (by kernel_rfl) (by kernel_rfl) (by kernel_rfl) rfl rfl (Wanted.plain rfl) (Val.ix tabOk i (off' := i * 8) rfl rfl rfl rfl rfl rfl rfl hi' (by simp [ti23])) ?_
    refine DR.one (i := 11) (by kernel_rfl) ?_
    refine DOp.op rfl (Wanted.plain rfl) (OpTo.setU tabOk rs (List.replicate (shutd seed ib m i).length 0) (shutd seed ib m i) (List.replicate ((16 - (i + 1)) * 8) 0) rfl rfl rfl rfl rfl p1 rfl l2.symm (by simp) o2) (.inr (by kernel_rfl)) (fun _ => ?_)
    refine DR.done (by kernel_rfl) (RQ.blockNormal (RQ.next ?_))
    rw [← e1, ← e2]
    refine RC.region ?_
    repeat (first | refine Run.v rfl rfl rfl (Val.ar rfl rfl rfl rfl (by dsimp only [inK]; omega)) ?_ | refine Run.v rfl rfl rfl (Val.of rfl) ?_)
    exact Run.nil (RQ.up (i + 1) () (Nat.lt_succ_self _) hi' trivial ⟨rfl, rfl, rfl, rfl, rfl, rfl, rfl, rfl, trivial⟩ (List.Sublist.refl _))
  · have hi' : i = 16 := by have := of_decide_eq_false h; omega
    subst hi'
    have l1 := rowOf_len hol 16
    have l2 := rowOf_len hsl 16
    rw [show (16 - 16) * 8 = 0 from rfl, List.replicate_zero, List.append_nil, List.append_nil]
    generalize rowOf (opened seed ib m) 16 = ro at *
    generalize rowOf (shutd seed ib m) 16 = rs at *
    (repeat refine RQ.thenExit ?_); refine RQ.blockHere ?_
    refine RQ.next ?_
    (repeat refine RC.seq ?_); refine RC.draw ([(b9, .cells (u8s rs).toArray 27 (0, 0)), (b8, .cells (u8s ro).toArray 27 (0, 0))]) mixed (N := 4) rfl ?_
    refine DR.take 0 rfl (by repeat (first | exact List.nil_sublist _ | exact List.Sublist.refl _ | apply List.Sublist.cons_cons | apply List.Sublist.cons)) inferInstance (by kernel_rfl) (by kernel_rfl) (by kernel_rfl) (by kernel_rfl) rfl rfl (Wanted.plain rfl) (Val.loadU tabOk rfl rfl rfl rfl m1 l1) ?_
    refine DR.take 1 rfl (by repeat (first | exact List.nil_sublist _ | exact List.Sublist.refl _ | apply List.Sublist.cons_cons | apply List.Sublist.cons)) inferInstance (by kernel_rfl) (by kernel_rfl) (by kernel_rfl) (by kernel_rfl) rfl rfl (Wanted.plain rfl) (Val.loadU tabOk rfl rfl rfl rfl m0 l2) ?_
    refine DR.one (i := 2) (by kernel_rfl) ?_
    refine DOp.op rfl (Wanted.plain rfl) (OpTo.setAll tabOk rfl rfl rfl rfl rfl p3 l1 rfl) (.inl fun _ => (by repeat (first | exact List.nil_sublist _ | exact List.Sublist.refl _ | apply List.Sublist.cons_cons | apply List.Sublist.cons))) (fun _ => ?_)
    refine DR.one (i := 3) (by kernel_rfl) ?_
    refine DOp.op rfl (Wanted.plain rfl) (OpTo.setAll tabOk rfl rfl rfl rfl rfl p3 l2 rfl) (.inr (by kernel_rfl)) (fun _ => ?_)
    refine DR.done (by kernel_rfl) (RQ.next ?_)
    refine RC.ret ?_; (repeat first | refine RQ.thenRet ?_ | refine RQ.blockRet ?_)
    exact RQ.ret2 rfl (Res.cellU tabOk rfl rfl rfl m1 l1) (Res.cellU tabOk rfl rfl rfl m0 l2) fun w' hm => ⟨rfl, hm.fr⟩
end Go.Proofs.YtilfbomjaflbjaaDoor
