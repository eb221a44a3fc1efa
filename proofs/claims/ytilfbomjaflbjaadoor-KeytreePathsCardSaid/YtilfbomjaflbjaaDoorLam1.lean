/- lamport: bit, markH, public, Make, Sign, Public. -/
import Derived.Test.YtilfbomjaflbjaaDoorRefA
import Derived.Test.YtilfbomjaflbjaaDoorVcN
namespace Go.Sha
theorem pc_secs (seed : List Nat) (ib i b : Nat) (hb : b < 2) : pc 8 (secs seed ib i) b = secret seed ib i b := by
  have e : secs seed ib i = rowOf (fun b => secret seed ib i b) 2 := by simp [rowOf, secs]
  rw [e]
  exact pc_rowOf (fun b => secret_len seed ib i b) hb
theorem secs_row (seed : List Nat) (ib i : Nat) : rowOf (fun b => secret seed ib i b) 2 = secs seed ib i := by simp [rowOf, secs]
theorem mrks_row (seed : List Nat) (ib i : Nat) : rowOf (fun b => markH (secret seed ib i b)) 2 = mrks seed ib i := by simp [rowOf, mrks]
/-- What two rounds of 8 have written. -/
theorem zrow2 (f : Nat → List Nat) (g : Nat → List Nat) (i b : Nat) (hg : ∀ b, (g b).length = 8) (hi : i < 16) (hb : b < 2) : rowOf f i ++ rowOf g b ++ List.replicate ((16 - i) * 16 - b * 8) 0 = rowOf f i ++ rowOf g b ++ List.replicate (g b).length 0 ++ List.replicate ((16 - i) * 16 - (b + 1) * 8) 0 := by
  rw [List.append_assoc (rowOf f i ++ rowOf g b), List.replicate_append_replicate, hg]
  congr 2
  omega
end Go.Sha
namespace Go.Proofs.YtilfbomjaflbjaaDoor
open Go Go.Vc Go.Sha

set_option maxRecDepth 10000 in
theorem lam_bit_calls (m : List Nat) (hm8 : m.length = 8) (hlt : ∀ x ∈ m, x < 256) (i : Nat) (hi : i < 64) (w : World) :
    Gives Tryd.prog 56 [.agg (u8s m).toArray, .int .i64 i] (.int .i64 (bitOf m i : Nat)) w := by
  refine enter Tryd.func56 rfl (Mem.nil w []) rfl ?_
  have hx := getD_lt hlt (i / 8)
  have hat := u8s_arr m (i / 8) (by omega)
  unfold bitOf
  generalize m.getD (i / 8) 0 = x at *
  (repeat refine RC.seq ?_); refine RC.region ?_
  refine Run.mk rfl rfl rfl (New.boxA rfl rfl) ?_
  intro b2
  refine Run.v rfl rfl rfl (Val.of rfl) ?_
  refine Run.nil (RQ.next ?_)
  (repeat refine RC.seq ?_); refine RC.region ?_
  refine Run.v rfl rfl rfl (Val.of rfl) ?_
  refine Run.v rfl rfl rfl (Val.quoN rfl rfl rfl rfl (by decide) (by simp only [inK]; omega)) ?_
  refine Run.v rfl rfl rfl (Val.ix tabOk (i / 8) (off' := i / 8) rfl rfl rfl rfl rfl rfl rfl (by omega) (by simp [ti5])) ?_
  refine Run.v rfl rfl rfl (Val.load tabOk rfl rfl rfl m0 hat) ?_
  refine Run.v rfl rfl rfl (Val.of rfl) ?_
  refine Run.v rfl rfl rfl (Val.remN rfl rfl rfl rfl (by decide)) ?_
  refine Run.v rfl rfl rfl (Val.shr (m := i % 8) rfl rfl rfl (by show _ ≤ 8; omega)) ?_
  refine Run.v rfl rfl rfl (Val.and1 rfl rfl rfl (Nat.lt_of_le_of_lt (Nat.div_le_self _ _) hx)) ?_
  refine Run.v rfl rfl rfl (Val.convIn tabOk rfl rfl rfl rfl rfl rfl (by simp only [inK]; omega)) ?_
  refine Run.v rfl rfl rfl (Val.of rfl) ?_
  refine Run.nil (RQ.next ?_)
  refine RC.ret ?_; (repeat first | refine RQ.thenRet ?_ | refine RQ.blockRet ?_); exact RQ.ret1 rfl (Res.tmp rfl) fun w' hm => ⟨rfl, hm.fr⟩

set_option maxRecDepth 10000 in
theorem lam_mark_calls (h : List Nat) (hs : h.length = 8) (hlt : ∀ x ∈ h, x < 256) (w : World) (hK : Laid w) :
    Gives Tryd.prog 54 [.agg (u8s h).toArray] (.agg (u8s (markH h)).toArray) w := by
  refine enter Tryd.func54 rfl (Mem.nil w []) rfl ?_
  (repeat refine RC.seq ?_); refine RC.region ?_
  refine Run.mk rfl rfl rfl (New.boxA rfl rfl) ?_
  intro b1
  refine Run.mk rfl rfl rfl (New.alloc tabOk rfl rfl) ?_
  intro b2
  refine Run.nil (RQ.next ?_)
  (repeat refine RC.seq ?_); refine RC.region ?_
  refine Run.v rfl rfl rfl (Val.eq (Val.sliceA tabOk rfl rfl rfl rfl rfl) (show _ = Value.slice (some ⟨b1, 0, none⟩) h.length h.length from by rw [hs])) ?_
  refine Run.mk rfl rfl rfl (New.buildSlice tabOk (parts := [(0, .tmp 3)]) (cells := [Value.slice (some ⟨b1, 0, none⟩) h.length h.length].toArray) rfl rfl rfl rfl rfl rfl (fillS_full 1 1 _ [Value.slice (some ⟨b1, 0, none⟩) h.length h.length] rfl (by simp [Value.cells]))) ?_
  intro b4
  refine Run.callV Tryd.func53 rfl rfl rfl rfl rfl rfl rfl (fun w' hm => Of_calls 112 (by decide) _ _ [h] w' (SrcW.row hm m0 rfl (Nat.le_refl 1)) (parts1' (u := .slice (some ⟨b1, 0, none⟩) h.length h.length) (SrcW.row hm m2 (by simp [u8s_len]) (Nat.le_refl _))) (by simp [tot, hs]) (by simpa using hlt) (hK.fr hm.fr (by simp))) ?_
  have hd := mark_len h
  rw [show digest 112 [h] = markH h from rfl]
  generalize markH h = dg at *
  refine Run.op rfl (OpTo.setAll tabOk rfl rfl rfl rfl rfl p1 hd rfl) (fun _ => ?_)
  refine Run.nil (RQ.next ?_)
  refine RC.ret ?_; (repeat first | refine RQ.thenRet ?_ | refine RQ.blockRet ?_)
  exact RQ.ret1 rfl (Res.cellU tabOk rfl rfl rfl m0 hd) fun w' hm => ⟨rfl, hm.fr⟩

set_option maxRecDepth 10000 in
theorem Make_calls (seed : List Nat) (hs : seed.length = 8) (hlt : ∀ x ∈ seed, x < 256) (z : Int) (ib : Nat) (hz : z % 256 = (ib : Int)) (w : World) (hK : Laid w) :
    NewOf Tryd.prog 31 [.agg (u8s seed).toArray, .int .i64 z] w (fun b => .pointer (some ⟨b, 0, none⟩)) (.cells (u8s (rowOf (secs seed ib) 16)).toArray 88 (0, 0)) := by
  have hib : ib < 256 := by omega
  refine enter Tryd.func31 rfl (Mem.nil w []) rfl ?_
  (repeat refine RC.seq ?_); refine RC.region ?_
  refine Run.mk rfl rfl rfl (New.boxA rfl rfl) ?_
  intro b2
  refine Run.v rfl rfl rfl (Val.of rfl) ?_
  refine Run.nil (RQ.next ?_)
  (repeat refine RC.seq ?_); refine RC.region ?_
  refine Run.v rfl rfl rfl (Val.buildS tabOk (parts := []) (cells := (u8s (rowOf (secs seed ib) 0 ++ List.replicate ((16 - 0) * 16) 0)).toArray) rfl rfl rfl rfl rfl (by kernel_rfl)) ?_
  refine Run.mk rfl rfl rfl (New.boxA rfl rfl) ?_
  intro b9
  refine Run.v rfl rfl rfl (Val.of rfl) ?_
  refine Run.nil (RQ.next ?_)
  (repeat refine RC.seq ?_); refine RC.region ?_
  refine Run.v rfl rfl rfl (Val.of rfl) ?_
  refine Run.nil (RQ.next ?_)
  (repeat refine RC.seq ?_); refine RC.block ?_
  refine RC.up 16 (D := Unit) (fun _ _ => True)
    (fun i _ => [(10, .int .i64 i), (5, .pointer (some ⟨b9, 0, none⟩)), (1, .int .i64 z), (2, .pointer (some ⟨b2, 0, none⟩))])
    (fun i _ => [(b9, .cells (u8s (rowOf (secs seed ib) i ++ List.replicate ((16 - i) * 16) 0)).toArray 88 (0, 0)), (b2, .cells (u8s seed).toArray 23 (0, 0))])
    0 () (Nat.zero_le _) trivial ⟨rfl, rfl, rfl, rfl, trivial⟩ (List.Sublist.refl _) ?_
  intro i _ hi _
  (repeat refine RC.seq ?_); refine RC.region ?_
  refine Run.v rfl rfl rfl (Val.of rfl) ?_
  refine Run.nil (RQ.next ?_)
  (repeat refine RC.seq ?_); refine RC.wh rfl (fun h => RQ.next ?_) (fun h => ?_)
  · have hi' : i < 16 := by have := of_decide_eq_true h; omega
    clear h
    have l1 := rowOf_len (secs_len seed ib) i
    have e1 : rowOf (secs seed ib) (i + 1) = rowOf (secs seed ib) i ++ rowOf (fun b => secret seed ib i b) 2 := by rw [secs_row]; rfl
    (repeat refine RC.seq ?_); refine RC.block ?_
    (repeat refine RC.seq ?_); refine RC.region ?_
    refine Run.v rfl rfl rfl (Val.of rfl) ?_
    refine Run.v rfl rfl rfl (Val.of rfl) ?_
    refine Run.nil (RQ.next ?_)
    (repeat refine RC.seq ?_); refine RC.region ?_
    refine Run.v rfl rfl rfl (Val.of rfl) ?_
    refine Run.nil (RQ.next ?_)
    (repeat refine RC.seq ?_); refine RC.block ?_
    refine RC.up 2 (D := Unit) (fun _ _ => True)
      (fun b _ => [(13, .int .i64 b), (6, .int .i64 i), (10, .int .i64 i), (5, .pointer (some ⟨b9, 0, none⟩)), (1, .int .i64 z), (2, .pointer (some ⟨b2, 0, none⟩))])
      (fun b _ => [(b9, .cells (u8s (rowOf (secs seed ib) i ++ rowOf (fun b => secret seed ib i b) b ++ List.replicate ((16 - i) * 16 - b * 8) 0)).toArray 88 (0, 0)), (b2, .cells (u8s seed).toArray 23 (0, 0))])
      0 () (Nat.zero_le _) trivial ⟨rfl, rfl, rfl, rfl, rfl, rfl, trivial⟩ (by simp only [rowOf, List.append_nil, Nat.zero_mul, Nat.sub_zero]; exact List.Sublist.refl _) ?_
    intro b _ hb _
    (repeat refine RC.seq ?_); refine RC.region ?_
    refine Run.v rfl rfl rfl (Val.of rfl) ?_
    refine Run.nil (RQ.next ?_)
    (repeat refine RC.seq ?_); refine RC.wh rfl (fun h => RQ.next ?_) (fun h => ?_)
    · have hb' : b < 2 := by have := of_decide_eq_true h; omega
      clear h
      have z1 := zrow2 (secs seed ib) (fun b => secret seed ib i b) i b (fun b => secret_len seed ib i b) hi' hb'
      have l2 := rowOf_len (fun b => secret_len seed ib i b) b
      have e2 : rowOf (secs seed ib) i ++ rowOf (fun b => secret seed ib i b) (b + 1) = rowOf (secs seed ib) i ++ rowOf (fun b => secret seed ib i b) b ++ secret seed ib i b := by rw [List.append_assoc]; rfl
      have d1 : secret seed ib i b = digest 115 [seed, [ib, i, b, 0]] := rfl
      have o1 := secret_len seed ib i b
      (repeat refine RC.seq ?_); refine RC.block ?_
      rw [z1]
      clear z1
      have hpl : (rowOf (secs seed ib) i ++ rowOf (fun b => secret seed ib i b) b).length = i * 16 + b * 8 := by rw [List.length_append, l1, l2]
      generalize rowOf (secs seed ib) i ++ rowOf (fun b => secret seed ib i b) b = ro at *
      (repeat refine RC.seq ?_); refine RC.region ?_
      refine Run.v rfl rfl rfl (Val.of rfl) ?_
      refine Run.v rfl rfl rfl (Val.of rfl) ?_
      refine Run.nil (RQ.next ?_)
      (repeat refine RC.seq ?_); refine RC.drawS mixed (N := 18) rfl ?_
      refine DR.take 0 rfl (by repeat (first | exact List.nil_sublist _ | exact List.Sublist.refl _ | apply List.Sublist.cons_cons | apply List.Sublist.cons)) inferInstance (by kernel_rfl) (by kernel_rfl) (by kernel_rfl) (by kernel_rfl) rfl rfl (Wanted.plain rfl) (Val.of rfl) ?_
      refine DR.take 1 rfl (by repeat (first | exact List.nil_sublist _ | exact List.Sublist.refl _ | apply List.Sublist.cons_cons | apply List.Sublist.cons)) inferInstance (by kernel_rfl) (by kernel_rfl) (by kernel_rfl) (by kernel_rfl) rfl rfl (Wanted.plain rfl) (Val.of rfl) ?_
      refine DR.take 2 rfl (by repeat (first | exact List.nil_sublist _ | exact List.Sublist.refl _ | apply List.Sublist.cons_cons | apply List.Sublist.cons)) inferInstance (by kernel_rfl) (by kernel_rfl) (by kernel_rfl) (by kernel_rfl) rfl rfl (Wanted.plain rfl) (Val.of rfl) ?_
      refine DR.take 3 rfl (by repeat (first | exact List.nil_sublist _ | exact List.Sublist.refl _ | apply List.Sublist.cons_cons | apply List.Sublist.cons)) inferInstance (by kernel_rfl) (by kernel_rfl) (by kernel_rfl) (by kernel_rfl) rfl rfl (Wanted.plain rfl) (Val.eq (Val.sliceA tabOk rfl rfl rfl rfl rfl) (show _ = Value.slice (some ⟨b2, 0, none⟩) seed.length seed.length from by rw [hs])) ?_
      refine DR.take 4 rfl (by repeat (first | exact List.nil_sublist _ | exact List.Sublist.refl _ | apply List.Sublist.cons_cons | apply List.Sublist.cons)) inferInstance (by kernel_rfl) (by kernel_rfl) (by kernel_rfl) (by kernel_rfl) rfl rfl (Wanted.plain rfl) (Val.of rfl) ?_
      refine DR.take 5 rfl (by repeat (first | exact List.nil_sublist _ | exact List.Sublist.refl _ | apply List.Sublist.cons_cons | apply List.Sublist.cons)) inferInstance (by kernel_rfl) (by kernel_rfl) (by kernel_rfl) (by kernel_rfl) rfl rfl (Wanted.plain rfl) (Val.eq (Val.conv tabOk rfl rfl rfl rfl rfl rfl) (show _ = Value.int .u8 (ib : Int) from congrArg (Value.int .u8) (by rw [wrap_u8]; exact hz))) ?_
      refine DR.take 6 rfl (by repeat (first | exact List.nil_sublist _ | exact List.Sublist.refl _ | apply List.Sublist.cons_cons | apply List.Sublist.cons)) inferInstance (by kernel_rfl) (by kernel_rfl) (by kernel_rfl) (by kernel_rfl) rfl rfl (Wanted.plain rfl) (Val.of rfl) ?_
      refine DR.take 7 rfl (by repeat (first | exact List.nil_sublist _ | exact List.Sublist.refl _ | apply List.Sublist.cons_cons | apply List.Sublist.cons)) inferInstance (by kernel_rfl) (by kernel_rfl) (by kernel_rfl) (by kernel_rfl) rfl rfl (Wanted.plain rfl) (Val.convIn tabOk rfl rfl rfl rfl rfl rfl (by simp only [inK]; omega)) ?_
      refine DR.take 8 rfl (by repeat (first | exact List.nil_sublist _ | exact List.Sublist.refl _ | apply List.Sublist.cons_cons | apply List.Sublist.cons)) inferInstance (by kernel_rfl) (by kernel_rfl) (by kernel_rfl) (by kernel_rfl) rfl rfl (Wanted.plain rfl) (Val.of rfl) ?_
      refine DR.take 9 rfl (by repeat (first | exact List.nil_sublist _ | exact List.Sublist.refl _ | apply List.Sublist.cons_cons | apply List.Sublist.cons)) inferInstance (by kernel_rfl) (by kernel_rfl) (by kernel_rfl) (by kernel_rfl) rfl rfl (Wanted.plain rfl) (Val.convIn tabOk rfl rfl rfl rfl rfl rfl (by simp only [inK]; omega)) ?_
      refine DR.take 13 rfl (by repeat (first | exact List.nil_sublist _ | exact List.Sublist.refl _ | apply List.Sublist.cons_cons | apply List.Sublist.cons)) inferInstance (by kernel_rfl) (by kernel_rfl) (by kernel_rfl) (by kernel_rfl) rfl rfl (Wanted.plain rfl) (Val.of rfl) ?_
      refine DR.take 14 rfl (by repeat (first | exact List.nil_sublist _ | exact List.Sublist.refl _ | apply List.Sublist.cons_cons | apply List.Sublist.cons)) inferInstance (by kernel_rfl) (by kernel_rfl) (by kernel_rfl) (by kernel_rfl) rfl rfl (Wanted.plain rfl) (Val.fieldAddr tabOk rfl rfl rfl rfl rfl rfl rfl rfl) ?_
      refine DR.take 15 rfl (by repeat (first | exact List.nil_sublist _ | exact List.Sublist.refl _ | apply List.Sublist.cons_cons | apply List.Sublist.cons)) inferInstance (by kernel_rfl) (by kernel_rfl) (by kernel_rfl) (by kernel_rfl) rfl rfl (Wanted.plain rfl) (Val.ix tabOk i (off' := i * 16) rfl rfl rfl rfl rfl rfl rfl hi' (by simp [ti85])) ?_
      refine DR.one (i := 10) (by kernel_rfl) ?_
      refine DOp.op rfl (Wanted.plain rfl) (OpTo.new rfl rfl (New.buildSlice tabOk (parts := [(0, .tmp 21), (1, .tmp 23), (2, .tmp 25), (3, .const (.int .u8 0))]) (cells := (u8s [ib, i, b, 0]).toArray) rfl rfl rfl rfl rfl rfl (fillS_full 1 4 _ [.int .u8 _, .int .u8 _, .int .u8 _, .int .u8 _] rfl (by simp [Value.cells])))) (.inl fun _ => by repeat (first | exact List.nil_sublist _ | exact List.Sublist.refl _ | apply List.Sublist.cons_cons | apply List.Sublist.cons)) ?_
      intro b26
      refine DR.one (i := 11) (by kernel_rfl) ?_
      refine DOp.op rfl (Wanted.plain rfl) (OpTo.new rfl rfl (New.buildSlice tabOk (parts := [(0, .tmp 19), (1, .tmp 26)]) (cells := [Value.slice (some ⟨b2, 0, none⟩) seed.length seed.length, Value.slice (some ⟨b26, 0, none⟩) 4 4].toArray) rfl rfl rfl rfl rfl rfl (fillS_full 1 2 _ [Value.slice (some ⟨b2, 0, none⟩) seed.length seed.length, Value.slice (some ⟨b26, 0, none⟩) 4 4] rfl (by simp [Value.cells])))) (.inl fun _ => by repeat (first | exact List.nil_sublist _ | exact List.Sublist.refl _ | apply List.Sublist.cons_cons | apply List.Sublist.cons)) ?_
      intro b27
      have hparts : ∀ l ∈ [seed, [ib, i, b, 0]], ∀ x ∈ l, x < 256 := by
        intro l hl x hx
        simp only [List.mem_cons, List.not_mem_nil, or_false] at hl
        rcases hl with rfl | rfl
        · exact hlt x hx
        · simp only [List.mem_cons, List.not_mem_nil, or_false] at hx
          omega
      refine DR.one (i := 12) (by kernel_rfl) ?_
      refine DOp.op rfl (Wanted.plain rfl) (OpTo.callV Tryd.func53 rfl rfl rfl rfl rfl rfl (fun w' hm => Of_calls 115 (by decide) _ _ [seed, [ib, i, b, 0]] w' (SrcW.row hm m0 rfl (Nat.le_refl 2)) (parts2 (u := .slice (some ⟨b2, 0, none⟩) seed.length seed.length) (v := .slice (some ⟨b26, 0, none⟩) 4 4) (SrcW.row hm m3 (by simp [u8s_len]) (Nat.le_refl _)) (SrcW.row hm m1 rfl (Nat.le_refl 4))) (by simp [tot, hs]) hparts (hK.fr hm.fr (by simp)))) (.inl fun _ => by repeat (first | exact List.nil_sublist _ | exact List.Sublist.refl _ | apply List.Sublist.cons_cons | apply List.Sublist.cons)) (fun _ => ?_)
      rw [← d1]
      refine DR.take 16 rfl (by repeat (first | exact List.nil_sublist _ | exact List.Sublist.refl _ | apply List.Sublist.cons_cons | apply List.Sublist.cons)) inferInstance (by kernel_rfl) (by kernel_rfl) (by kernel_rfl) (by kernel_rfl) rfl rfl (Wanted.plain rfl) (Val.ix tabOk b (off' := i * 16 + b * 8) rfl rfl rfl rfl rfl rfl rfl hb' (by simp [ti23])) ?_
      refine DR.one (i := 17) (by kernel_rfl) ?_
      refine DOp.op rfl (Wanted.plain rfl) (OpTo.setU tabOk ro (List.replicate (secret seed ib i b).length 0) (secret seed ib i b) (List.replicate ((16 - i) * 16 - (b + 1) * 8) 0) rfl rfl rfl rfl rfl p2 rfl hpl.symm (by simp) o1) (.inr (by kernel_rfl)) (fun _ => ?_)
      rw [← e2]
      refine DR.done (by kernel_rfl) (RQ.blockNormal (RQ.next ?_))
      refine RC.region ?_
      repeat (first | refine Run.v rfl rfl rfl (Val.ar rfl rfl rfl rfl (by dsimp only [inK]; omega)) ?_ | refine Run.v rfl rfl rfl (Val.of rfl) ?_)
      exact Run.nil (RQ.up (b + 1) () (Nat.lt_succ_self _) hb' trivial ⟨rfl, rfl, rfl, rfl, rfl, rfl, trivial⟩ (List.Sublist.cons_cons _ (List.Sublist.cons _ (List.Sublist.cons _ (List.Sublist.refl _)))))
    · have hb' : b = 2 := by have := of_decide_eq_false h; omega
      subst hb'
      (repeat refine RQ.thenExit ?_); refine RQ.blockHere ?_
      refine RQ.blockNormal (RQ.next ?_)
      rw [← e1, show (16 - i) * 16 - 2 * 8 = (16 - (i + 1)) * 16 by omega]
      refine RC.region ?_
      repeat (first | refine Run.v rfl rfl rfl (Val.ar rfl rfl rfl rfl (by dsimp only [inK]; omega)) ?_ | refine Run.v rfl rfl rfl (Val.of rfl) ?_)
      exact Run.nil (RQ.up (i + 1) () (Nat.lt_succ_self _) hi' trivial ⟨rfl, rfl, rfl, rfl, trivial⟩ (List.Sublist.refl _))
  · have hi' : i = 16 := by have := of_decide_eq_false h; omega
    subst hi'
    rw [show (16 - 16) * 16 = 0 from rfl, List.replicate_zero, List.append_nil]
    (repeat refine RQ.thenExit ?_); refine RQ.blockHere ?_
    refine RQ.next ?_
    (repeat refine RC.seq ?_); refine RC.region ?_
    refine Run.v rfl rfl rfl (Val.of rfl) ?_
    refine Run.v rfl rfl rfl (Val.of rfl) ?_
    refine Run.nil (RQ.next ?_)
    refine RC.ret ?_; (repeat first | refine RQ.thenRet ?_ | refine RQ.blockRet ?_)
    exact RQ.ret1 rfl (Res.tmp rfl) fun w' hm => NewOf.of (V := fun b => .pointer (some ⟨b, 0, none⟩)) hm m0

set_option maxRecDepth 10000 in
theorem Key_Sign_calls (kb : Nat) (seed m : List Nat) (ib : Nat) (hm8 : m.length = 8) (hmlt : ∀ x ∈ m, x < 256) (w : World) (hK : Laid w)
    (hk : w.heap[kb]? = some (.cells (u8s (rowOf (secs seed ib) 16)).toArray 88 (0, 0))) :
    Gives Tryd.prog 33 [.pointer (some ⟨kb, 0, none⟩), .agg (u8s m).toArray] (.tuple #[.agg (u8s (rowOf (opened seed ib m) 16)).toArray, .agg (u8s (rowOf (shutd seed ib m) 16)).toArray]) w := by
  refine enter Tryd.func33 rfl (Mem.nil w []) rfl ?_
  have hol := opened_len seed ib m
  have hsl := shutd_len seed ib m
  have hsec := rowOf_len (secs_len seed ib) 16
  have hpc := fun {i : Nat} (hi : i < 16) => pc_rowOf (secs_len seed ib) hi
  (repeat refine RC.seq ?_); refine RC.region ?_
  refine Run.mk rfl rfl rfl (New.boxA rfl rfl) ?_
  intro b3
  refine Run.mk rfl rfl rfl (New.allocTo tabOk (cs := (u8s (List.replicate 128 0)).toArray) rfl rfl (by kernel_rfl)) ?_
  intro b4
  refine Run.mk rfl rfl rfl (New.allocTo tabOk (cs := (u8s (List.replicate 128 0)).toArray) rfl rfl (by kernel_rfl)) ?_
  intro b5
  refine Run.nil (RQ.next ?_)
  (repeat refine RC.seq ?_); refine RC.region ?_
  refine Run.mk rfl rfl rfl (New.allocTo tabOk (cs := (u8s (rowOf (opened seed ib m) 0 ++ List.replicate ((16 - 0) * 8) 0)).toArray) rfl rfl (by kernel_rfl)) ?_
  intro b6
  refine Run.mk rfl rfl rfl (New.allocTo tabOk (cs := (u8s (rowOf (shutd seed ib m) 0 ++ List.replicate ((16 - 0) * 8) 0)).toArray) rfl rfl (by kernel_rfl)) ?_
  intro b7
  refine Run.nil (RQ.next ?_)
  (repeat refine RC.seq ?_); refine RC.region ?_
  refine Run.v rfl rfl rfl (Val.of rfl) ?_
  refine Run.v rfl rfl rfl (Val.ptrNil tabOk rfl rfl rfl rfl rfl) ?_
  refine Run.nil (RQ.next ?_)
  (repeat refine RC.seq ?_); refine RC.condF rfl rfl (RC.skip (RQ.next ?_))
  (repeat refine RC.seq ?_); refine RC.region ?_
  refine Run.v rfl rfl rfl (Val.of rfl) ?_
  refine Run.v rfl rfl rfl (Val.of rfl) ?_
  refine Run.v rfl rfl rfl (Val.fieldAddr tabOk rfl rfl rfl rfl rfl rfl rfl rfl) ?_
  refine Run.v rfl rfl rfl (Val.loadOldU tabOk rfl rfl rfl rfl rfl hk hsec) ?_
  refine Run.v rfl rfl rfl (Val.of rfl) ?_
  refine Run.nil (RQ.next ?_)
  generalize rowOf (secs seed ib) 16 = sec at *
  (repeat refine RC.seq ?_); refine RC.block ?_
  refine RC.up 16 (D := Unit) (fun _ _ => True)
    (fun i _ => [(19, .int .i64 i), (18, .agg (u8s sec).toArray), (3, .pointer (some ⟨b3, 0, none⟩)), (4, .pointer (some ⟨b4, 0, none⟩)), (5, .pointer (some ⟨b5, 0, none⟩)), (6, .pointer (some ⟨b6, 0, none⟩)), (7, .pointer (some ⟨b7, 0, none⟩))])
    (fun i _ => [(b7, .cells (u8s (rowOf (shutd seed ib m) i ++ List.replicate ((16 - i) * 8) 0)).toArray 27 (0, 0)), (b6, .cells (u8s (rowOf (opened seed ib m) i ++ List.replicate ((16 - i) * 8) 0)).toArray 27 (0, 0)), (b5, .cells (u8s (List.replicate 128 0)).toArray 27 (0, 0)), (b4, .cells (u8s (List.replicate 128 0)).toArray 27 (0, 0)), (b3, .cells (u8s m).toArray 23 (0, 0))])
    0 () (Nat.zero_le _) trivial ⟨rfl, rfl, rfl, rfl, rfl, rfl, rfl, trivial⟩ (List.Sublist.refl _) ?_
  intro i _ hi _
  (repeat refine RC.seq ?_); refine RC.region ?_
  refine Run.v rfl rfl rfl (Val.of rfl) ?_
  refine Run.nil (RQ.next ?_)
  (repeat refine RC.seq ?_); refine RC.wh rfl (fun h => RQ.next ?_) (fun h => ?_)
  · have hi' : i < 16 := by have := of_decide_eq_true h; omega
    clear h
    have hb := bitOf_lt m i
    have z1 := zrow (opened seed ib m) 8 i 16 hol hi'
    have z2 := zrow (shutd seed ib m) 8 i 16 hsl hi'
    have l1 := rowOf_len hol i
    have l2 := rowOf_len hsl i
    have e1 : rowOf (opened seed ib m) (i + 1) = rowOf (opened seed ib m) i ++ opened seed ib m i := rfl
    have e2 : rowOf (shutd seed ib m) (i + 1) = rowOf (shutd seed ib m) i ++ shutd seed ib m i := rfl
    have d1 : pc 8 (secs seed ib i) (bitOf m i) = opened seed ib m i := pc_secs seed ib i _ hb
    have d2 : markH (pc 8 (secs seed ib i) (1 - bitOf m i)) = shutd seed ib m i := by rw [pc_secs seed ib i _ (by omega)]; rfl
    have s1 := secs_len seed ib i
    have s2 := secs_lt seed ib i
    have o1 := hol i
    have o2 := hsl i
    have hp := hpc hi'
    have q1 : (pc 8 (secs seed ib i) (bitOf m i)).length = 8 := pc_len (n := 2) s1 hb
    have q2 : (pc 8 (secs seed ib i) (1 - bitOf m i)).length = 8 := pc_len (n := 2) s1 (by omega)
    have q3 := pc_lt (c := 8) s2 (1 - bitOf m i)
    (repeat refine RC.seq ?_); refine RC.block ?_
    rw [z1, z2]
    clear z1 z2
    generalize rowOf (opened seed ib m) i = ro at *
    generalize rowOf (shutd seed ib m) i = rs at *
    (repeat refine RC.seq ?_); refine RC.region ?_
    refine Run.v rfl rfl rfl (Val.of rfl) ?_
    refine Run.v rfl rfl rfl (Val.eq (Val.indexU tabOk i (c := 16) rfl rfl rfl rfl rfl rfl rfl rfl hi' rfl) (congrArg (fun l => Value.agg (u8s l).toArray) hp)) ?_
    refine Run.mk rfl rfl rfl (New.alloc tabOk rfl rfl) ?_
    intro b9
    refine Run.v rfl rfl rfl (Val.of rfl) ?_
    refine Run.op rfl (OpTo.setAll tabOk rfl rfl rfl rfl rfl (List.Perm.refl _) s1 rfl) (fun _ => ?_)
    refine Run.nil (RQ.next ?_)
    (repeat refine RC.seq ?_); refine RC.region ?_
    refine Run.v rfl rfl rfl (Val.loadU tabOk rfl rfl rfl rfl m5 hm8) ?_
    refine Run.v rfl rfl rfl (Val.of rfl) ?_
    refine Run.callV Tryd.func56 rfl rfl rfl rfl rfl rfl rfl (fun w' _ => lam_bit_calls m hm8 hmlt i (by omega) w') ?_
    refine Run.v rfl rfl rfl (Val.of rfl) ?_
    refine Run.nil (RQ.next ?_)
    (repeat refine RC.seq ?_); refine RC.draw ([(b9, .cells (u8s (secs seed ib i)).toArray 85 (0, 0))]) mixed (N := 14) rfl ?_
    refine DR.take 0 rfl (by repeat (first | exact List.nil_sublist _ | exact List.Sublist.refl _ | apply List.Sublist.cons_cons | apply List.Sublist.cons)) inferInstance (by kernel_rfl) (by kernel_rfl) (by kernel_rfl) (by kernel_rfl) rfl rfl (Wanted.plain rfl) (Val.of rfl) ?_
    refine DR.take 1 rfl (by repeat (first | exact List.nil_sublist _ | exact List.Sublist.refl _ | apply List.Sublist.cons_cons | apply List.Sublist.cons)) inferInstance (by kernel_rfl) (by kernel_rfl) (by kernel_rfl) (by kernel_rfl) rfl rfl (Wanted.plain rfl) (Val.of rfl) ?_
    refine DR.take 2 rfl (by repeat (first | exact List.nil_sublist _ | exact List.Sublist.refl _ | apply List.Sublist.cons_cons | apply List.Sublist.cons)) inferInstance (by kernel_rfl) (by kernel_rfl) (by kernel_rfl) (by kernel_rfl) rfl rfl (Wanted.plain rfl) (Val.of rfl) ?_
    refine DR.take 3 rfl (by repeat (first | exact List.nil_sublist _ | exact List.Sublist.refl _ | apply List.Sublist.cons_cons | apply List.Sublist.cons)) inferInstance (by kernel_rfl) (by kernel_rfl) (by kernel_rfl) (by kernel_rfl) rfl rfl (Wanted.plain rfl) (Val.ix tabOk (bitOf m i) (off' := bitOf m i * 8) rfl rfl rfl rfl rfl rfl rfl hb (by simp [ti23])) ?_
    refine DR.take 4 rfl (by repeat (first | exact List.nil_sublist _ | exact List.Sublist.refl _ | apply List.Sublist.cons_cons | apply List.Sublist.cons)) inferInstance (by kernel_rfl) (by kernel_rfl) (by kernel_rfl) (by kernel_rfl) rfl rfl (Wanted.plain rfl) (Val.eq (Val.loadPc tabOk (bitOf m i) (c := 8) rfl rfl rfl rfl m0 rfl rfl q1) (congrArg (fun l => Value.agg (u8s l).toArray) d1)) ?_
    refine DR.take 5 rfl (by repeat (first | exact List.nil_sublist _ | exact List.Sublist.refl _ | apply List.Sublist.cons_cons | apply List.Sublist.cons)) inferInstance (by kernel_rfl) (by kernel_rfl) (by kernel_rfl) (by kernel_rfl) rfl rfl (Wanted.plain rfl) (Val.of rfl) ?_
    refine DR.take 6 rfl (by repeat (first | exact List.nil_sublist _ | exact List.Sublist.refl _ | apply List.Sublist.cons_cons | apply List.Sublist.cons)) inferInstance (by kernel_rfl) (by kernel_rfl) (by kernel_rfl) (by kernel_rfl) rfl rfl (Wanted.plain rfl) (Val.eq (Val.ar rfl rfl rfl rfl (by dsimp only [inK]; omega)) (show _ = Value.int .i64 ((1 - bitOf m i : Nat) : Int) from by congr 1; omega)) ?_
    refine DR.take 7 rfl (by repeat (first | exact List.nil_sublist _ | exact List.Sublist.refl _ | apply List.Sublist.cons_cons | apply List.Sublist.cons)) inferInstance (by kernel_rfl) (by kernel_rfl) (by kernel_rfl) (by kernel_rfl) rfl rfl (Wanted.plain rfl) (Val.ix tabOk (1 - bitOf m i) (off' := (1 - bitOf m i) * 8) rfl rfl rfl rfl rfl rfl rfl (by omega) (by simp [ti23])) ?_
    refine DR.take 8 rfl (by repeat (first | exact List.nil_sublist _ | exact List.Sublist.refl _ | apply List.Sublist.cons_cons | apply List.Sublist.cons)) inferInstance (by kernel_rfl) (by kernel_rfl) (by kernel_rfl) (by kernel_rfl) rfl rfl (Wanted.plain rfl) (Val.loadPc tabOk (1 - bitOf m i) (c := 8) rfl rfl rfl rfl m0 rfl rfl q2) ?_
    refine DR.take 10 rfl (by repeat (first | exact List.nil_sublist _ | exact List.Sublist.refl _ | apply List.Sublist.cons_cons | apply List.Sublist.cons)) inferInstance (by kernel_rfl) (by kernel_rfl) (by kernel_rfl) (by kernel_rfl) rfl rfl (Wanted.plain rfl) (Val.ix tabOk i (off' := i * 8) rfl rfl rfl rfl rfl rfl rfl hi' (by simp [ti23])) ?_
    refine DR.one (i := 9) (by kernel_rfl) ?_
    refine DOp.op rfl (Wanted.plain rfl) (OpTo.callV Tryd.func54 rfl rfl rfl rfl rfl rfl (fun w' hm => lam_mark_calls _ q2 q3 w' (hK.fr hm.fr (by simp)))) (.inl fun _ => by repeat (first | exact List.nil_sublist _ | exact List.Sublist.refl _ | apply List.Sublist.cons_cons | apply List.Sublist.cons)) (fun _ => ?_)
    rw [d2]
    refine DR.one (i := 11) (by kernel_rfl) ?_
    refine DOp.op rfl (Wanted.plain rfl) (OpTo.setU tabOk ro (List.replicate (opened seed ib m i).length 0) (opened seed ib m i) (List.replicate ((16 - (i + 1)) * 8) 0) rfl rfl rfl rfl rfl p2 rfl l1.symm (by simp) o1) (.inl fun _ => (by repeat (first | exact List.nil_sublist _ | exact List.Sublist.refl _ | apply List.Sublist.cons_cons | apply List.Sublist.cons))) (fun _ => ?_)
    refine DR.take 12 rfl (by repeat (first | exact List.nil_sublist _ | exact List.Sublist.refl _ | apply List.Sublist.cons_cons | apply List.Sublist.cons)) inferInstance (by kernel_rfl) (by kernel_rfl) (by kernel_rfl) (by kernel_rfl) rfl rfl (Wanted.plain rfl) (Val.ix tabOk i (off' := i * 8) rfl rfl rfl rfl rfl rfl rfl hi' (by simp [ti23])) ?_
    refine DR.one (i := 13) (by kernel_rfl) ?_
    refine DOp.op rfl (Wanted.plain rfl) (OpTo.setU tabOk rs (List.replicate (shutd seed ib m i).length 0) (shutd seed ib m i) (List.replicate ((16 - (i + 1)) * 8) 0) rfl rfl rfl rfl rfl p2 rfl l2.symm (by simp) o2) (.inr (by kernel_rfl)) (fun _ => ?_)
    refine DR.done (by kernel_rfl) (RQ.blockNormal (RQ.next ?_))
    rw [← e1, ← e2]
    refine RC.region ?_
    repeat (first | refine Run.v rfl rfl rfl (Val.ar rfl rfl rfl rfl (by dsimp only [inK]; omega)) ?_ | refine Run.v rfl rfl rfl (Val.of rfl) ?_)
    exact Run.nil (RQ.up (i + 1) () (Nat.lt_succ_self _) hi' trivial ⟨rfl, rfl, rfl, rfl, rfl, rfl, rfl, trivial⟩ (List.Sublist.cons_cons _ (List.Sublist.cons_cons _ (List.Sublist.cons _ (List.Sublist.refl _)))))
  · have hi' : i = 16 := by have := of_decide_eq_false h; omega
    subst hi'
    have l1 := rowOf_len hol 16
    have l2 := rowOf_len hsl 16
    rw [show (16 - 16) * 8 = 0 from rfl, List.replicate_zero, List.append_nil, List.append_nil]
    generalize rowOf (opened seed ib m) 16 = ro at *
    generalize rowOf (shutd seed ib m) 16 = rs at *
    (repeat refine RQ.thenExit ?_); refine RQ.blockHere ?_
    refine RQ.next ?_
    (repeat refine RC.seq ?_); refine RC.draw ([(b7, .cells (u8s rs).toArray 27 (0, 0)), (b6, .cells (u8s ro).toArray 27 (0, 0))]) mixed (N := 4) rfl ?_
    refine DR.take 0 rfl (by repeat (first | exact List.nil_sublist _ | exact List.Sublist.refl _ | apply List.Sublist.cons_cons | apply List.Sublist.cons)) inferInstance (by kernel_rfl) (by kernel_rfl) (by kernel_rfl) (by kernel_rfl) rfl rfl (Wanted.plain rfl) (Val.loadU tabOk rfl rfl rfl rfl m1 l1) ?_
    refine DR.take 1 rfl (by repeat (first | exact List.nil_sublist _ | exact List.Sublist.refl _ | apply List.Sublist.cons_cons | apply List.Sublist.cons)) inferInstance (by kernel_rfl) (by kernel_rfl) (by kernel_rfl) (by kernel_rfl) rfl rfl (Wanted.plain rfl) (Val.loadU tabOk rfl rfl rfl rfl m0 l2) ?_
    refine DR.one (i := 2) (by kernel_rfl) ?_
    refine DOp.op rfl (Wanted.plain rfl) (OpTo.setAll tabOk rfl rfl rfl rfl rfl p3 l1 rfl) (.inl fun _ => (by repeat (first | exact List.nil_sublist _ | exact List.Sublist.refl _ | apply List.Sublist.cons_cons | apply List.Sublist.cons))) (fun _ => ?_)
    refine DR.one (i := 3) (by kernel_rfl) ?_
    refine DOp.op rfl (Wanted.plain rfl) (OpTo.setAll tabOk rfl rfl rfl rfl rfl p3 l2 rfl) (.inr (by kernel_rfl)) (fun _ => ?_)
    refine DR.done (by kernel_rfl) (RQ.next ?_)
    refine RC.ret ?_; (repeat first | refine RQ.thenRet ?_ | refine RQ.blockRet ?_)
    exact RQ.ret2 rfl (Res.cellU tabOk rfl rfl rfl m1 l1) (Res.cellU tabOk rfl rfl rfl m0 l2) fun w' hm => ⟨rfl, hm.fr⟩
end Go.Proofs.YtilfbomjaflbjaaDoor
